/- The reference's Urgent, Next and Run. Conditions: at most 1000 tasks. -/
import Derived.Test.YtfihdenapjmaeaaSch24
import Derived.Test.YtfihdenapjmaeaaSch14
import Derived.Test.YtfihdenapjmaeaaSch16
namespace Go.Proofs.Ytfihdenapjmaeaa
set_option linter.unusedVariables false
set_option linter.unusedSimpArgs false
open Go.RowKit
theorem boolT : ElemT Try.prog 45 4 (.bool false) 1 1 := ⟨Try.underlying45, by kernel_rfl, rfl, by decide, by decide⟩
theorem mkFalse (n : Nat) (hn : n ≤ 1000) : ∃ M : Array Value, (∀ t, t < n → M[t]? = some (.bool false)) ∧ ∀ W : World, (Instr.makeSlice 45 (.int .i64 (n : Int)) (.int .i64 (n : Int))).run Try.prog W = .ok (.slice (some ⟨W.heap.size, 0, none⟩) n n) (W.alloc (.cells M 4)) := by
  have hi := boolT.info
  cases h : Try.prog.info? 4 with
  | none => rw [h] at hi; simp at hi
  | some i =>
    rw [h] at hi
    simp only [Option.map_some, Option.some.injEq, Prod.mk.injEq] at hi
    obtain ⟨hz, hs, hb⟩ := hi
    refine ⟨madeCells (Value.bool false).cells ((n : Int).toNat * i.size), fun t ht => ?_, fun W => ?_⟩
    · have hc : (Value.bool false).cells = #[.bool false] := rfl
      rw [hs, hc]; simp [madeCells, ht, Nat.mod_one]
    · have := run_make (P := Try.prog) W 45 4 i (.bool false) Try.underlying45 h hz .i64 .i64 n n (by omega) (Int.le_refl _) (by rw [hb]; omega) (by omega)
      simpa using this
theorem new_falses {w w' : World} {M : Array Value} {ty : TypeId} {n : Nat} {v : Value} (h : w.alloc (.cells M ty) = w') (hM : ∀ t, t < n → M[t]? = some v) : (∀ t, t < n → w'.cell? ⟨w.heap.size, t, none⟩ = some v) ∧ (∀ t, w'.frozen? ⟨w.heap.size, t, none⟩ = false) ∧ w.heap.size < w'.heap.size ∧ Below w.heap.size w w' := by
  subst h
  refine ⟨fun t ht => ?_, fun t => ?_, by rw [alloc_size1]; omega, (Below.refl _ _).alloc (Nat.le_refl _) _⟩
  · rw [cell_of_row _ _ _ _ _ _ (heap_alloc_new w _)]; exact hM t ht
  · exact World.frozen?_alloc_new _ _ _ _
/-- nothing is gone -/
def gone0 (_ : Nat) : Bool := false
theorem ixs_all (n : Nat) : ixs gone0 n = List.range n := by simp [ixs, gone0]
def goneAt (gn : Nat → Bool) (k t : Nat) : Bool := gn t || decide (t = k)
theorem ixs_del (gn : Nat → Bool) (k n : Nat) : ixs (goneAt gn k) n = (ixs gn n).filter (· ≠ k) := by
  unfold ixs goneAt
  rw [List.filter_filter]
  congr 1; funext t
  cases gn t <;> simp
set_option maxHeartbeats 1600000 in
theorem refUrgent_any (A : Option Addr) (n c : Nat) (L : List Sc.Tk) (hL : L.length = n) (hn : n ≤ 1000) (B : Nat) (w : World) (hr : Rd w B 5 A n (L.flatMap tcs)) (hB : B ≤ w.heap.size) : Calls Try.prog 19 #[.slice A n c] w fun e w' => e = .returned (.int .i64 (Sc.best L (List.range n) 1 Sc.urg)) ∧ Below w.heap.size w w' := by
  obtain ⟨M, hM, hmk⟩ := mkFalse n hn
  obtain ⟨w1, hw1⟩ : ∃ x, w.alloc (.cells M 4) = x := ⟨_, rfl⟩
  obtain ⟨c1, _, z1, b1⟩ := new_falses (n := n) (v := .bool false) hw1 hM
  have HB := refBest_any 1 true A n c L hL hn w.heap.size n gone0 B w1 (hr.below (b1.mono hB)) (Nat.le_trans hB b1.size) z1 c1
  rw [best_isU_urg, ixs_all] at HB
  have HB := Lib.hid HB
  have HW := Lib.hid hw1
  clear hM hr hw1 c1
  go_enter Try.func19, Try.ntmps19
  go_wp2_with fail
  rw [HW.out]
  refine HB.out.mono ?_
  rintro e w2 ⟨rfl, b2⟩
  go_wp2_with fail
  go_ret
  exact ⟨rfl, b1.trans (b2.mono b1.size)⟩
set_option maxHeartbeats 800000 in
theorem refNext_bad (A0 : Option Addr) (n0 c0 : Nat) (cr : List Int) (hl : cr.length = n0) (B0 : Nat) (t : Value) (w : World) (hr0 : Rd w B0 1 A0 n0 (ivs cr)) (hv : vldB cr = false) :
    Calls Try.prog 13 #[.slice A0 n0 c0, t] w fun e w' => e = .returned (.tuple #[.slice none 0 0, .int .i64 0, .int .i64 1]) ∧ Below w.heap.size w w' := by
  have HV := Lib.hid (refValid_any A0 n0 c0 cr hl B0 w hr0)
  rw [hv] at HV
  clear hr0 hv
  go_enter Try.func13, Try.ntmps13
  go_wp2_with (go_at_call 15; refine HV.out.mono ?_; rintro e w1 ⟨rfl, hw1⟩; rw [hw1]; clear hw1 w1)
  go_ret3
  exact ⟨rfl, Below.refl _ _⟩
/-- the reference's Next's results -/
def RefNextOk (cr : List Int) (L : List Sc.Tk) (n : Nat) (w : World) (e : Ending) (w' : World) : Prop := ∃ g c', e = .returned (.tuple #[.slice (some ⟨g, 0, none⟩) 5 c', .int .i64 (Sc.next cr L (List.range n)).2, .int .i64 0]) ∧ Cr5 w' g (Sc.next cr L (List.range n)).1 ∧ w.heap.size ≤ g ∧ Below w.heap.size w w'
set_option maxRecDepth 100000 in
set_option maxHeartbeats 1600000 in
theorem refNext_ok (A0 : Option Addr) (c0 : Nat) (cr : List Int) (hl : cr.length = 5) (B0 : Nat) (A : Option Addr) (n c : Nat) (L : List Sc.Tk) (hL : L.length = n) (hn : n ≤ 1000) (B : Nat) (w : World) (hr : Rd w B 5 A n (L.flatMap tcs)) (hB : B ≤ w.heap.size) (hr0 : Rd w B0 1 A0 5 (ivs cr)) (hB0 : B0 ≤ w.heap.size) (hv : vldB cr = true) :
    Calls Try.prog 13 #[.slice A0 5 c0, .slice A n c] w (RefNextOk cr L n w) := by
  have HV := Lib.hid (refValid_any A0 5 c0 cr hl B0 w hr0)
  rw [hv] at HV
  have HVL := Lib.hid ((vldB_iff cr).1 hv)
  have HR := Lib.hid hr
  have HR0 := Lib.hid hr0
  obtain ⟨M, hM, hmk⟩ := mkFalse n hn
  have HM := Lib.hid hM
  clear hr0 hv hr hM
  go_enter Try.func13, Try.ntmps13
  go_wp2_with (first
    | (go_at_call 15; refine HV.out.mono ?_; rintro e w1 ⟨rfl, hw1⟩; rw [hw1]; clear hw1 w1)
    | (at_builtin; refine wpList_appR rfl (.tmp 12) (.tmp 13) 22 rfl w.heap.size 3 _ 1 8 intsE none 0 0 [] A0 5 c0 (ivs cr) rfl rfl (World.ownsRow_nil _ _ _ _) (HR0.out.more hB0) (ivs_one _) (Below.refl _ _) (by omega) (Nat.le_refl _) (Nat.le_refl _) ?_; intro A1 c1 w1 own1 hb1; simp only [Nat.zero_add, List.nil_append] at own1))
  obtain ⟨g, rfl, hg, C1⟩ := Cr5.of_own own1 hl
  obtain ⟨w2, hw2⟩ : ∃ x, w1.alloc (.cells M 4) = x := ⟨_, rfl⟩
  obtain ⟨c2, _, z2, b2⟩ := new_falses (n := n) (v := .bool false) hw2 HM.out
  have C2 := C1.below b2
  have hb2 := hb1.trans (b2.mono hb1.size)
  have hs := step_any g c1 cr HVL.out A n c L hL hn w1.heap.size n gone0 B w2 (HR.out.below (hb2.mono hB)) (Nat.le_trans hB hb2.size) (fun W' h' => (HR.out.below (hb2.mono hB)).nilA (Nat.le_trans hB hb2.size) (show B ≤ g by omega) W' h') z2 (by have := C1.lt; omega) c2 C2
  unfold NextRes at hs
  rw [ixs_all] at hs
  rw [hw2]
  refine hs.mono ?_
  rintro e w3 ⟨rfl, C3, G3⟩
  clear hs own1 hw2 c2
  go_wp2_with fail
  go_ret3
  exact ⟨g, c1, rfl, C3, hg, hb2.grown G3 hb2.size fun j hj => by have := Option.some.inj hj; omega⟩
theorem refRun_bad (A0 : Option Addr) (n0 c0 : Nat) (cr : List Int) (hl : cr.length = n0) (B0 : Nat) (t : Value) (b : Int) (w : World) (hr0 : Rd w B0 1 A0 n0 (ivs cr)) (hv : vldB cr = false ∨ b < 0) :
    Calls Try.prog 22 #[.slice A0 n0 c0, t, .int .i64 b] w fun e w' => e = .returned (.tuple #[.slice none 0 0, .slice none 0 0, .int .i64 1]) ∧ Below w.heap.size w w' := by
  have HV := Lib.hid (refValid_any A0 n0 c0 cr hl B0 w hr0)
  obtain ⟨v, hvv⟩ : ∃ v, vldB cr = v := ⟨_, rfl⟩
  rw [hvv] at HV hv
  clear hr0
  cases v with
  | false =>
    clear hv hvv
    go_enter Try.func22, Try.ntmps22
    go_wp2_with (go_at_call 15; refine HV.out.mono ?_; rintro e w1 ⟨rfl, hw1⟩; rw [hw1]; clear hw1 w1)
    go_ret3
    exact ⟨rfl, Below.refl _ _⟩
  | true =>
    have hb0 : b < 0 := by rcases hv with h | h; cases h; exact h
    have hd : decide (b < 0) = true := by simpa using hb0
    clear hv hvv
    go_enter Try.func22, Try.ntmps22
    go_wp2_with (go_at_call 15; refine HV.out.mono ?_; rintro e w1 ⟨rfl, hw1⟩; rw [hw1]; clear hw1 w1)
    go_ret3
    exact ⟨rfl, Below.refl _ _⟩
/-- the reference's Run's results -/
def RefRunOk (R : List Int × List Nat) (w : World) (e : Ending) (w' : World) : Prop := ∃ g c' P np cp, e = .returned (.tuple #[.slice (some ⟨g, 0, none⟩) 5 c', .slice P np cp, .int .i64 0]) ∧ Cr5 w' g R.1 ∧ w.heap.size ≤ g ∧ R.2.length = np ∧ Rd w' w'.heap.size 1 P np (nvs R.2) ∧ np ≤ cp ∧ Below w.heap.size w w'
set_option maxRecDepth 100000 in
set_option maxHeartbeats 4000000 in
theorem refRun_ok (A0 : Option Addr) (c0 : Nat) (cr : List Int) (hl : cr.length = 5) (B0 : Nat) (b : Nat) (hb63 : (b : Int) ≤ 9223372036854775807) (A : Option Addr) (n c : Nat) (L : List Sc.Tk) (hL : L.length = n) (hn : n ≤ 1000) (B : Nat) (w : World) (hr : Rd w B 5 A n (L.flatMap tcs)) (hB : B ≤ w.heap.size) (hr0 : Rd w B0 1 A0 5 (ivs cr)) (hB0 : B0 ≤ w.heap.size) (hv : vldB cr = true) :
    Calls Try.prog 22 #[.slice A0 5 c0, .slice A n c, .int .i64 (b : Int)] w (RefRunOk (Sc.run L b cr (List.range n)) w) := by
  have HV := Lib.hid (refValid_any A0 5 c0 cr hl B0 w hr0)
  rw [hv] at HV
  have HVL := Lib.hid ((vldB_iff cr).1 hv)
  have HR := Lib.hid hr
  have HR0 := Lib.hid hr0
  have hd : decide ((b : Int) < 0) = false := decide_eq_false (by omega)
  obtain ⟨M, hM, hmk⟩ := mkFalse n hn
  have HM := Lib.hid hM
  clear hr0 hv hr hM
  go_enter Try.func22, Try.ntmps22
  go_wp2_with (first
    | (go_at_call 15; refine HV.out.mono ?_; rintro e w1 ⟨rfl, hw1⟩; rw [hw1]; clear hw1 w1)
    | (at_builtin; refine wpList_appR rfl (.tmp 20) (.tmp 21) 22 rfl w.heap.size 3 _ 1 8 intsE none 0 0 [] A0 5 c0 (ivs cr) rfl rfl (World.ownsRow_nil _ _ _ _) (HR0.out.more hB0) (ivs_one _) (Below.refl _ _) (by omega) (Nat.le_refl _) (Nat.le_refl _) ?_; intro A1 c1 w1 own1 hb1; simp only [Nat.zero_add, List.nil_append] at own1))
  obtain ⟨g, rfl, hg, C1⟩ := Cr5.of_own own1 hl
  obtain ⟨w2, hw2⟩ : ∃ x, w1.alloc (.cells M 4) = x := ⟨_, rfl⟩
  obtain ⟨c2, f2, z2, b2⟩ := new_falses (n := n) (v := .bool false) hw2 HM.out
  have C2 := C1.below b2
  have hb2 := hb1.trans (b2.mono hb1.size)
  have hggb : g < w1.heap.size := C1.lt
  obtain ⟨gb, hgb⟩ : ∃ gb, w1.heap.size = gb := ⟨_, rfl⟩
  rw [hgb] at c2 f2 z2 hggb ⊢
  try rw [hw2]
  have HB2 := Lib.hid hb2
  have HC2 := Lib.hid C2
  have HG2 := Lib.hid c2
  have HF2 := Lib.hid f2
  have hwg : w.heap.size ≤ g := hg
  clear own1 hw2 c2 f2 b2 hb2 C1 C2 hb1 hgb hg
  go_loopw [10] (fun u10 wx => ∃ (wr : World) (cr' : List Int) (gn : Nat → Bool) (p : List Nat) (AP : Option Addr) (cp : Nat), wr = wx ∧ u10 = .slice AP p.length cp ∧ p.length ≤ b ∧ p.length + (ixs gn n).length ≤ n ∧ Hid (Sc.Vld cr') ∧ Hid (∀ t, t < n → wr.cell? ⟨gb, t, none⟩ = some (.bool (gn t))) ∧ Hid (∀ t, wr.frozen? ⟨gb, t, none⟩ = false) ∧ wr.ownsRow w2.heap.size 3 1 (.slice AP p.length cp) p.length (nvs p) ∧ Cr5 wr g cr' ∧ Keep (fun k => k = g ∨ gb ≤ k) w2 wr ∧ Hid (Sc.run L b cr (List.range n) = ((Sc.run L (b - p.length) cr' (ixs gn n)).1, p ++ (Sc.run L (b - p.length) cr' (ixs gn n)).2))) (fun u10 _ => b - slen u10)
  case atStart => exact ⟨w2, cr, gone0, [], none, 0, rfl, rfl, by simp, by rw [ixs_all]; simp, HVL.out, HG2.out, HF2.out, World.ownsRow_nil _ _ _ _, HC2.out, Keep.refl _ _, by rw [ixs_all]; simp [Hid]⟩
  case round =>
    obtain ⟨wr, cr', gn, p, AP, cp, rfl, rfl, hpb, hpn, HVC, HGC, HGF, hown, HC, HKP, HRUN⟩ := hrel
    have HWN := Lib.hid hown
    have HCC := Lib.hid HC
    have HKK := Lib.hid HKP
    by_cases hlt : p.length < b
    · have hlt' : (p.length : Int) < (b : Int) := by omega
      have BW : Below w.heap.size w wr := Below.then_keep HB2.out HKP (fun k hk => by rcases hk with h | h <;> omega) (Nat.le_refl _)
      have hnext := step_any g c1 cr' HVC.out A n c L hL hn gb n gn B wr (HR.out.below (BW.mono hB)) (Nat.le_trans hB BW.size) (fun W' h' => (HR.out.below (BW.mono hB)).nilA (Nat.le_trans hB BW.size) (show B ≤ g by omega) W' h') (Nat.lt_of_lt_of_le z2 HKP.size) (by omega) HGC.out HC
      have hrs : Sc.run L (b - p.length) cr' (ixs gn n) = if (Sc.next cr' L (ixs gn n)).2 < 0 then ((Sc.next cr' L (ixs gn n)).1, []) else ((Sc.run L (b - (p.length + 1)) (Sc.next cr' L (ixs gn n)).1 ((ixs gn n).filter (· ≠ (Sc.next cr' L (ixs gn n)).2.toNat))).1, (Sc.next cr' L (ixs gn n)).2.toNat :: (Sc.run L (b - (p.length + 1)) (Sc.next cr' L (ixs gn n)).1 ((ixs gn n).filter (· ≠ (Sc.next cr' L (ixs gn n)).2.toNat))).2) := by
        rw [show b - p.length = (b - (p.length + 1)) + 1 by omega]; rfl
      have hvn := Sc.vld_next L (ixs gn n) HVC.out
      have hor := Sc.next_or cr' L (ixs gn n)
      unfold NextRes at hnext
      obtain ⟨nx, hnx⟩ : ∃ nx, Sc.next cr' L (ixs gn n) = nx := ⟨_, rfl⟩
      rw [hnx] at hnext hrs hvn hor
      obtain ⟨cn, kv⟩ := nx
      simp only [] at hnext hrs hvn hor
      have HNX := Lib.hid hnext
      have HRS := Lib.hid hrs
      have HVN := Lib.hid hvn
      have HBW := Lib.hid BW
      clear hnext hrs hvn hnx hown HC HKP BW
      rcases hor with ⟨rfl, _⟩ | ⟨k, hkm, rfl, _⟩
      · have HRT : Hid (Sc.run L b cr (List.range n) = (cn, p)) := Lib.hid (by rw [HRUN.out, HRS.out, if_pos (by omega), List.append_nil])
        go_wp2_with (go_at_call 27; refine HNX.out.mono ?_; rintro e w5 ⟨rfl, C5, G5⟩)
        go_ret3
        rw [HRT.out]
        exact ⟨g, c1, AP, p.length, cp, rfl, C5, hwg, rfl, Rd.of_own (HWN.out.kept G5 (own_ne HWN.out (by omega))), (own_cap HWN.out).1, HBW.out.grown G5 HBW.out.size fun j hj => by have := Option.some.inj hj; omega⟩
      · have hkn := ixs_lt hkm
        have hk0 : ¬ (k : Int) < 0 := by omega
        have hd2 : decide ((k : Int) < 0) = false := decide_eq_false hk0
        have HRT : Hid (Sc.run L b cr (List.range n) = ((Sc.run L (b - (p ++ [k]).length) cn (ixs (goneAt gn k) n)).1, (p ++ [k]) ++ (Sc.run L (b - (p ++ [k]).length) cn (ixs (goneAt gn k) n)).2)) := Lib.hid (by
          rw [HRUN.out, HRS.out, if_neg hk0, Int.toNat_natCast, List.length_append, List.length_singleton, List.append_assoc, ixs_del]; rfl)
        have hpl : p.length + 1 ≤ 1000 := by have := List.length_pos_of_mem hkm; omega
        have HLF : Hid ((ixs (goneAt gn k) n).length < (ixs gn n).length) := Lib.hid (by rw [ixs_del]; exact Sc.filter_len hkm)
        have i0 : (0 : Int) ≤ (k : Int) := by omega
        have i1 : (k : Int) < (n : Int) := by omega
        have HKN := Lib.hid hkn
        clear hkm
        go_upto_region 11 with (go_at_call 27; refine HNX.out.mono ?_; rintro e w5 ⟨rfl, C5, G5⟩; have y1 : w5.cell? ⟨gb, k, none⟩ = some (.bool (gn k)) := far_grown G5 (HGC.out k hkn) (Nat.lt_of_lt_of_le z2 HKK.out.size) (show gb ≠ g by omega); have y2 : w5.frozen? ⟨gb, k, none⟩ = false := (World.frozen?_of_block (a := ⟨gb, k, none⟩) (G5.block gb (Nat.lt_of_lt_of_le z2 HKK.out.size) (fun e => by have := Option.some.inj e; omega))).trans (HGF.out k))
        obtain ⟨w6, hw6⟩ : ∃ w6, w5.setCell ⟨gb, k, none⟩ (.bool true) = w6 := ⟨_, rfl⟩
        rw [hw6]
        have z5 := G5.size
        have z6 : w5.heap.size = w6.heap.size := by rw [← hw6]; simp
        have hzk := HKK.out.size
        have g56 : w5.grownBy w6 (some gb) := by rw [← hw6]; exact grown_setCell _ _ _ _
        have own6 := (HWN.out.kept G5 (own_ne HWN.out (by omega))).kept g56 (own_ne HWN.out z2)
        have C6 : Cr5 w6 g cn := C5.keep (g56.block g C5.lt (fun e => by have := Option.some.inj e; omega))
        have K6 := (HKK.out.grown G5 (fun j hj => Or.inl (Or.inl (Option.some.inj hj).symm))).grown g56 (fun j hj => Or.inl (Or.inr (by have := Option.some.inj hj; omega)))
        have HG6 : Hid (∀ t, t < n → w6.cell? ⟨gb, t, none⟩ = some (.bool (goneAt gn k t))) := Lib.hid (fun t ht => by
          rw [← hw6]
          by_cases e : k = t
          · subst e; rw [cell_set_eq _ _ y1]; simp [goneAt]
          · rw [cell_set_ne _ _ e, far_grown G5 (HGC.out t ht) (Nat.lt_of_lt_of_le z2 HKK.out.size) (show gb ≠ g by omega)]; simp [goneAt, show ¬ t = k from fun h => e h.symm])
        have HF6 : Hid (∀ t, w6.frozen? ⟨gb, t, none⟩ = false) := Lib.hid (fun t => by
          rw [← hw6]; simp only [World.frozen?_setCell]
          exact (World.frozen?_of_block (a := ⟨gb, t, none⟩) (G5.block gb (Nat.lt_of_lt_of_le z2 HKK.out.size) (fun e => by have := Option.some.inj e; omega))).trans (HGF.out t))
        clear hw6 y1 y2 C5
        go_wp2_with (first
          | (at_builtin; refine wpList_app1 rfl (.tmp 39) (.tmp 41) 22 rfl w2.heap.size 3 _ 8 intsE AP p.length cp _ _ rfl rfl own6 (Below.refl 0 _) rfl (by omega) (Nat.zero_le _) (by omega) ?_; intro g7 c7 w7 own7 hbel7 hg7)
          | fail)
        have hob : ∀ q, (Value.slice AP p.length cp).ownBlock = some q → w2.heap.size ≤ q := fun q hq => (own_ge HWN.out q hq).1
        have h7 := hg7.1
        have C7 := C6.keep (h7.block g C6.lt (fun e => by have := hob g e.symm; omega))
        have K7 := K6.grown h7 (fun q hq => Or.inl (Or.inr (by have := hob q hq; omega)))
        have hk7 : w7.heap[gb]? = w6.heap[gb]? := h7.block gb (by omega) (fun e => by have := hob gb e.symm; omega)
        go_roundw
        case rel => exact ⟨_, cn, goneAt gn k, p ++ [k], some ⟨g7, 0, none⟩, c7, rfl, by rw [List.length_append, List.length_singleton], by rw [List.length_append, List.length_singleton]; omega, by rw [List.length_append, List.length_singleton]; have := HLF.out; omega, HVN.out, fun t ht => (World.cell?_of_block (a := ⟨gb, t, none⟩) hk7).trans (HG6.out t ht), fun t => (World.frozen?_of_block (a := ⟨gb, t, none⟩) hk7).trans (HF6.out t), by rw [List.length_append, List.length_singleton]; simpa [nvs] using own7, C7, K7, HRT.out⟩
        case measure => simp [slen]; omega
    · have hd' : decide ((p.length : Int) < (b : Int)) = false := decide_eq_false (by omega)
      have hpe : b - p.length = 0 := by omega
      have HRT : Hid (Sc.run L b cr (List.range n) = (cr', p)) := Lib.hid (by rw [HRUN.out, hpe, Sc.run, List.append_nil])
      have BW : Below w.heap.size w wr := Below.then_keep HB2.out HKP (fun k hk => by rcases hk with h | h <;> omega) (Nat.le_refl _)
      have HBW := Lib.hid BW
      clear hown HC HKP BW
      go_wp2
      go_ret3
      rw [HRT.out]
      exact ⟨g, c1, AP, p.length, cp, rfl, HCC.out, hwg, rfl, Rd.of_own HWN.out, (own_cap HWN.out).1, HBW.out⟩
end Go.Proofs.Ytfihdenapjmaeaa
