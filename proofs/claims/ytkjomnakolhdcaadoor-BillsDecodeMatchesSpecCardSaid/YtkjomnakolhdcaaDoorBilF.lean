/- Layer 35's Head and Bill. Conditions: the ledger reads as told. -/
import Derived.Test.YtkjomnakolhdcaaDoorBilD
namespace Go.Proofs.YtkjomnakolhdcaaDoor
set_option linter.unusedVariables false
set_option linter.unusedSimpArgs false
open Go.RowKit
theorem rangeAt_below {w w' : World} {g o : Nat} {l : List Value} (h : w.rangeAt g o l) (hb : Below w.heap.size w w') (hg : g < w.heap.size) : w'.rangeAt g o l := fun j v hv => (hb.cell (p := ⟨g, o + j, none⟩) hg).trans (h j v hv)
set_option maxRecDepth 100000 in
set_option maxHeartbeats 800000 in
theorem head_any (bl : Nat) (col : Nat → Nat) (m : LM) (l : Bil.Lg) (w : World) (h : LAt w bl col m l) :
    Calls Tryd.prog 44 #[.pointer (some ⟨bl, 0, none⟩)] w fun e w' => e = .returned (dv l.head) ∧ Below w.heap.size w w' := by
  have hrow := h.row
  have hrg : w.rangeAt bl 4 (bvs l.head) := fun j v hv => by
    rw [hrow.cell]
    show (m.cells l)[4 + j]? = some v
    rw [Nat.add_comm]
    exact hv
  have HRG := Lib.hid hrg
  have HBL := Lib.hid hrow.lt
  have H16 := Lib.hid h.h16
  clear h hrow hrg
  go_enter Tryd.func44, Tryd.ntmps44
  go_wp2_with (first
    | (refine wpList_allocRow rfl _ rfl _ info16 ?_; intro w1 r1 b1 z1; have HZ1 := Lib.hid z1; have hrg1 := rangeAt_below HRG.out b1 HBL.out; clear z1)
    | (refine wpList_load_mid rfl _ (.tmp 5) rfl bl 4 rfl (bvs l.head) _ hrg1 Tryd.underlying66 rfl (by rw [bvs_len, H16.out]; exact size16) ?_)
    | (refine wpList_storeRow rfl _ (.tmp 2) (.tmp 6) rfl r1 rfl rfl (by rw [bvs_len, H16.out]; exact size16) (by rw [bvs_len, H16.out, List.length_replicate]) (bvs_all _) ?_; intro w2 r2 g2 z2; have HZ2 := Lib.hid z2; clear z2))
  exact bodyPost_ret (resultRow rfl _ _ r2 rfl Tryd.underlying66 (by rw [bvs_len, H16.out]; exact size16)) rfl ⟨rfl, b1.grown g2 (by have := b1.size; omega) (by intro k hk; have hk := Option.some.inj hk; omega)⟩
/-- what Bill returns -/
def BillRes (w : World) (l : Bil.Lg) (p : Int) (e : Ending) (w' : World) : Prop :=
  (Bil.idx l p = none ∧ e = .returned (.tuple #[zBill, .bool false]) ∧ Below w.heap.size w w') ∨ ∃ i v, Bil.idx l p = some i ∧ e = .returned (.tuple #[v, .bool true]) ∧ BillV w' w.heap.size v (Bil.accAt l i).bill ∧ Below w.heap.size w w'
set_option maxRecDepth 100000 in
set_option maxHeartbeats 1600000 in
theorem bill_any (bl : Nat) (col : Nat → Nat) (m : LM) (l : Bil.Lg) (p : Int) (p1 : -9223372036854775808 ≤ p) (p2 : p ≤ 9223372036854775807) (w : World) (h : LAt w bl col m l) :
    Calls Tryd.prog 49 #[.pointer (some ⟨bl, 0, none⟩), .int .i64 p] w (BillRes w l p) := by
  have q4 := IsRow.new w 31 Z6
  have hb4 : Below w.heap.size w (w.alloc (.cells Z6.toArray 31)) := (Below.refl _ _).alloc (Nat.le_refl _) _
  obtain ⟨w4, hw4⟩ : ∃ x, w.alloc (.cells Z6.toArray 31) = x := ⟨_, rfl⟩
  rw [hw4] at q4 hb4
  have HW4 := Lib.hid (show w.alloc (.cells #[.int .i64 0, .int .i64 0, .int .i64 0, .slice none 0 0, .slice none 0 0, .slice none 0 0] 31) = w4 from hw4)
  have hl4 := h.below hb4
  obtain ⟨b4, hb4'⟩ : ∃ x, w.heap.size = x := ⟨_, rfl⟩
  have HBE := Lib.hid hb4'
  rw [hb4'] at q4
  have HQ4 := Lib.hid q4
  have HB4 := Lib.hid hb4
  cases hi : Bil.idx l p with
  | none =>
    have HA := Lib.hid (account_none bl col m l w4 hl4 p p1 p2 hi)
    have HI := Lib.hid hi
    clear h hl4 hw4 q4 hb4 hb4' hi p1 p2
    go_enter Tryd.func49, Tryd.ntmps49
    go_upto_region 1 with fail
    rw [show _ = w4 from HW4.out, show w.heap.size = b4 from HBE.out]
    go_wp2_with (first
      | (go_at_call 70; refine HA.out.mono ?_; rintro e w5 ⟨rfl, b5⟩; have q5 := HQ4.out.below' b5; have HB5 := Lib.hid (HB4.out.trans (b5.mono HB4.out.size)); clear b5)
      | (refine wpList_storeRow rfl _ (.tmp 4) (.tmp 12) rfl (l' := Z6) q5 rfl rfl size6 rfl rfl ?_; intro w6 r6 g6 z6))
    exact bodyPost_ret (resultRowST rfl _ _ r6 rfl Tryd.underlying31 size6) rfl (.inl ⟨HI.out, rfl, HB5.out.grown g6 HB5.out.size (by intro j hj; have hj := Option.some.inj hj; have := HBE.out; omega)⟩)
  | some i =>
    have hk : i < m.ks.length := by have := Bil.idx_some hi; rw [h.klen] at this; exact this.2.2.1
    obtain ⟨g, off, hA, _, hform⟩ := hl4.krow.form (by omega)
    have HA := Lib.hid (account_some bl col m l w4 hl4 p i g off hi hA)
    have hkat := hl4.kat _ (List.getElem_mem hk)
    have hcells := hform i hk
    have hacc := h.acc hk
    have hn2 := h.n2
    have hgl : g < w4.heap.size := hl4.krow.lt hA
    obtain ⟨ka, hka⟩ : ∃ x, m.ks[i]'hk = x := ⟨_, rfl⟩
    rw [hka] at hkat hcells hacc
    have hrg : w4.rangeAt g (off + i * 7) [.int .i64 ka.a.bill.period, .int .i64 ka.a.bill.media, .int .i64 ka.a.bill.house, .slice (some ⟨ka.bc, 0, none⟩) l.n ka.cc, .slice (some ⟨ka.br, 0, none⟩) l.n ka.cr, .slice (some ⟨ka.bt, 0, none⟩) l.n ka.ct] := fun j v hv => hcells j v (by
      match j, hv with
      | 0, hv => exact hv
      | 1, hv => exact hv
      | 2, hv => exact hv
      | 3, hv => exact hv
      | 4, hv => exact hv
      | 5, hv => exact hv
      | j + 6, hv => simp at hv)
    have HRG := Lib.hid hrg
    have HKA := Lib.hid hkat
    have HI := Lib.hid (And.intro hi hacc)
    have HN := Lib.hid hn2
    have HGL := Lib.hid hgl
    obtain ⟨N, hN⟩ : ∃ x, l.n = x := ⟨_, rfl⟩
    rw [hN] at HRG HKA HN
    obtain ⟨o, ho⟩ : ∃ x, off + i * 7 = x := ⟨_, rfl⟩
    rw [ho] at HA HRG
    clear h hl4 hw4 q4 hb4 hb4' hi p1 p2 hk hA hform hkat hcells hacc hn2 hgl hka hrg hN ho
    go_enter Tryd.func49, Tryd.ntmps49
    go_upto_region 1 with fail
    rw [show _ = w4 from HW4.out, show w.heap.size = b4 from HBE.out]
    go_wp2_with (first
      | (go_at_call 70; refine HA.out.mono ?_; rintro e w5 ⟨rfl, b5⟩; have q5 := HQ4.out.below' b5; have hrg5 := rangeAt_below HRG.out b5 HGL.out; have HB5 := Lib.hid (HB4.out.trans (b5.mono HB4.out.size)); have HKB := Lib.hid b5; clear b5)
      | (refine wpList_load_mid rfl _ (.tmp 15) rfl g o rfl [.int .i64 ka.a.bill.period, .int .i64 ka.a.bill.media, .int .i64 ka.a.bill.house, .slice (some ⟨ka.bc, 0, none⟩) N ka.cc, .slice (some ⟨ka.br, 0, none⟩) N ka.cr, .slice (some ⟨ka.bt, 0, none⟩) N ka.ct] _ hrg5 Tryd.underlying31 rfl size6 ?_)
      | (go_at_call 37; refine (copied_any ka.a.bill.period ka.a.bill.media ka.a.bill.house (some ⟨ka.bc, 0, none⟩) (some ⟨ka.br, 0, none⟩) (some ⟨ka.bt, 0, none⟩) N N N ka.cc ka.cr ka.ct ka.a.bill.charges ka.a.bill.credits ka.a.bill.nets HKA.out.lc HKA.out.lr HKA.out.lt (Nat.le_trans HN.out (by decide)) (Nat.le_trans HN.out (by decide)) (Nat.le_trans HN.out (by decide)) w5.heap.size w5 ((HKA.out.c.below HKB.out).rd HKA.out.lc) ((HKA.out.r.below HKB.out).rd HKA.out.lr) ((HKA.out.t.below HKB.out).rd HKA.out.lt) (Nat.le_refl _)).mono ?_; rintro e w6 ⟨v, rfl, hbv, b6⟩; obtain ⟨A1, A2, A3, c1, c2, c3, hv, o1, o2, o3⟩ := hbv; dsimp only at hv o1 o2 o3; subst hv; have HO := Lib.hid (And.intro o1 (And.intro o2 o3)); have HB6 := Lib.hid b6; have q6 := q5.below' b6; clear o1 o2 o3 b6)
      | (refine wpList_storeRow rfl _ (.tmp 4) (.tmp 17) rfl (l' := [.int .i64 ka.a.bill.period, .int .i64 ka.a.bill.media, .int .i64 ka.a.bill.house, .slice A1 ka.a.bill.charges.length c1, .slice A2 ka.a.bill.credits.length c2, .slice A3 ka.a.bill.nets.length c3]) q6 rfl rfl size6 rfl rfl ?_; intro w7 r7 g7 z7))
    have hb6 := HB5.out.trans (HB6.out.mono HB5.out.size)
    have hb7 : Below w.heap.size w w7 := hb6.grown g7 hb6.size (by intro j hj; have hj := Option.some.inj hj; have := HBE.out; omega)
    have hb4l : b4 < w5.heap.size := by have := q5.lt; omega
    have ho : ∀ {A : Option Addr} {n c : Nat} {xs : List Value}, w6.ownsRow w5.heap.size 3 1 (.slice A n c) n xs → w7.ownsRow w.heap.size 3 1 (.slice A n c) n xs := fun h => own_base (own_far h g7 hb4l) HB5.out.size
    exact bodyPost_ret (resultRowST rfl _ _ r7 rfl Tryd.underlying31 size6) rfl (.inr ⟨i, _, HI.out.1, rfl, by rw [HI.out.2]; exact ⟨A1, A2, A3, c1, c2, c3, rfl, ho HO.out.1, ho HO.out.2.1, ho HO.out.2.2⟩, hb7⟩)
end Go.Proofs.YtkjomnakolhdcaaDoor
