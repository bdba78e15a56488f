/- Joined texts: BilRd, BilTk2, BilTw. Conditions: as each part says. -/
import Derived.Test.YtkjomnakolhdcaaDoorBilTk
import Derived.Test.YtkjomnakolhdcaaDoorWireDec2
import Derived.Test.YtkjomnakolhdcaaDoorBilLX
import Derived.Test.YtkjomnakolhdcaaDoorBilD
namespace Go.Proofs.YtkjomnakolhdcaaDoor
set_option linter.unusedVariables false
set_option linter.unusedSimpArgs false
/-! Layer 35's reference: the reader of the front of a byte sequence: number, take. Conditions: the bytes lie before the reader's variable. -/
section
open Go.RowKit
namespace Bil
/-- a number from the front: what it returns, what is left, the error -/
def num (b : List UInt8) (e lo hi : Int) : Int × List UInt8 × Int :=
  if e = 0 then
    if (Wire.dec b).2.2 = 0 then
      if (Wire.dec b).1 < lo ∨ hi < (Wire.dec b).1 then (0, b, 6) else ((Wire.dec b).1, b.drop (Wire.dec b).2.1, 0)
    else (0, b, (Wire.dec b).2.2)
  else (0, b, e)
end Bil
/-- a reader in memory -/
structure RSt (w : World) (br : Nat) (b : List UInt8) (e : Int) : Prop where
  row : ∃ A n c, IsRow w br 107 [.slice A n c, .int .i64 e] ∧ b.length = n ∧ n ≤ c ∧ c ≤ maxLen ∧ n ≤ 1099511627776 ∧ Rd w br 1 A n (bvs b)
theorem RSt.below {w w' : World} {br : Nat} {b : List UInt8} {e : Int} (h : RSt w br b e) (hb : Below w.heap.size w w') : RSt w' br b e := by
  obtain ⟨A, n, c, h1, h2, h3, h4, h5, h6⟩ := h.row
  exact ⟨A, n, c, h1.below' hb, h2, h3, h4, h5, h6.below (hb.mono (Nat.le_of_lt h1.lt))⟩
theorem rd_set {w : World} {br o n : Nat} {A : Option Addr} {xs : List Value} {v : Value} (h : Rd w br 1 A n xs) (hb : br < w.heap.size) : Rd (w.setCell ⟨br, o, none⟩ v) br 1 A n xs :=
  h.keep fun p hp => World.cell?_of_block ((grown_setCell w br o v).block p.block (by omega) (fun e => by have := Option.some.inj e; omega))
set_option maxRecDepth 100000 in
set_option maxHeartbeats 3200000 in
theorem rnumber_any (br : Nat) (b : List UInt8) (e lo hi : Int) (w : World) (h : RSt w br b e) :
    Calls Tryd.prog 64 #[.pointer (some ⟨br, 0, none⟩), .int .i64 lo, .int .i64 hi] w fun r w' => r = .returned (.int .i64 (Bil.num b e lo hi).1) ∧ RSt w' br (Bil.num b e lo hi).2.1 (Bil.num b e lo hi).2.2 ∧ Keep (fun q => q = br) w w' := by
  obtain ⟨A, n, c, hr, hn, hnc, hcm, hn40, hrd⟩ := h.row
  have c1 : w.cell? ⟨br, 1, none⟩ = some (.int .i64 e) := hr.cell 1
  have c0 : w.cell? ⟨br, 0, none⟩ = some (.slice A n c) := hr.cell 0
  by_cases he : e = 0
  · subst he
    obtain ⟨x, u, er, hd⟩ : ∃ x u er, Wire.dec b = (x, u, er) := ⟨_, _, _, rfl⟩
    have HG := Lib.hid (refGetInt_len A c n b w br (Nat.le_of_lt hr.lt) hn hrd hn40 hnc hcm x u er hd)
    have HR := Lib.hid (And.intro hr (And.intro hn (And.intro hnc (And.intro hcm (And.intro hn40 hrd)))))
    by_cases hz : er = 0
    · subst hz
      have hok := Wire.dec_ok hd
      by_cases hlo : x < lo
      · have e1 : Bil.num b 0 lo hi = (0, b, 6) := by unfold Bil.num; rw [if_pos rfl, hd]; simp [hlo]
        rw [e1]
        have n1 : decide (x < lo) = true := decide_eq_true hlo
        clear hr hn hnc hcm hn40 hrd h hok e1 hd
        go_enter Tryd.func64, Tryd.ntmps64
        go_wp2_with (go_at_call 86; refine HG.out.mono ?_; rintro r w2 ⟨rfl, b2⟩; have HB := Lib.hid b2; have k1 := (HR.out.1.below' b2).cell 1; have k1 : w2.cell? ⟨br, 1, none⟩ = some (.int .i64 0) := k1; have f1 := (HR.out.1.below' b2).frozen 1; clear b2)
        go_ret
        have hlt := HR.out.1.lt
        have hz := HB.out.size
        exact ⟨rfl, ⟨A, n, c, (HR.out.1.below' HB.out).set 1 _, HR.out.2.1, HR.out.2.2.1, HR.out.2.2.2.1, HR.out.2.2.2.2.1, rd_set (HR.out.2.2.2.2.2.below (HB.out.mono (Nat.le_of_lt hlt))) (by omega)⟩, Keep.setCell (S := fun q => q = br) (a := ⟨br, 1, none⟩) (Keep.of_below HB.out) (.inl rfl) _⟩
      · by_cases hhi : hi < x
        · have e1 : Bil.num b 0 lo hi = (0, b, 6) := by unfold Bil.num; rw [if_pos rfl, hd]; simp [hhi]
          rw [e1]
          have n1 : decide (x < lo) = false := decide_eq_false hlo
          have n2 : decide (hi < x) = true := decide_eq_true hhi
          clear hr hn hnc hcm hn40 hrd h hok e1 hd
          go_enter Tryd.func64, Tryd.ntmps64
          go_wp2_with (go_at_call 86; refine HG.out.mono ?_; rintro r w2 ⟨rfl, b2⟩; have HB := Lib.hid b2; have k1 := (HR.out.1.below' b2).cell 1; have k1 : w2.cell? ⟨br, 1, none⟩ = some (.int .i64 0) := k1; have f1 := (HR.out.1.below' b2).frozen 1; clear b2)
          go_ret
          have hlt := HR.out.1.lt
          have hz := HB.out.size
          exact ⟨rfl, ⟨A, n, c, (HR.out.1.below' HB.out).set 1 _, HR.out.2.1, HR.out.2.2.1, HR.out.2.2.2.1, HR.out.2.2.2.2.1, rd_set (HR.out.2.2.2.2.2.below (HB.out.mono (Nat.le_of_lt hlt))) (by omega)⟩, Keep.setCell (S := fun q => q = br) (a := ⟨br, 1, none⟩) (Keep.of_below HB.out) (.inl rfl) _⟩
        · have e1 : Bil.num b 0 lo hi = (x, b.drop u, 0) := by unfold Bil.num; rw [if_pos rfl, hd]; simp [hlo, hhi]
          rw [e1]
          have n1 : decide (x < lo) = false := decide_eq_false hlo
          have n2 : decide (hi < x) = false := decide_eq_false hhi
          have HU : Hid (u ≤ n ∧ u ≤ b.length) := Lib.hid (by omega)
          clear hr hn hnc hcm hn40 hrd h hok e1 hd
          go_enter Tryd.func64, Tryd.ntmps64
          go_wp2_with (first
            | (go_at_call 86; refine HG.out.mono ?_; rintro r w2 ⟨rfl, b2⟩; have HB := Lib.hid b2; have k0 := (HR.out.1.below' b2).cell 0; have k0 : w2.cell? ⟨br, 0, none⟩ = some (.slice A n c) := k0; have f0 := (HR.out.1.below' b2).frozen 0; clear b2)
            | (refine wpList_cutFrom rfl (.tmp 46) (.tmp 47) 58 rfl _ _ 1 1 bytesE A n c rfl u .i64 _ rfl rfl HU.out.1 HR.out.2.2.1 (HR.out.2.2.2.2.2.below (HB.out.mono (Nat.le_of_lt HR.out.1.lt))) ?_; intro A2 hr2; have HR2 := Lib.hid hr2; clear hr2))
          go_ret
          have hlt := HR.out.1.lt
          have hz := HB.out.size
          have hbv : (bvs b).drop (u * 1) = bvs (b.drop u) := by rw [Nat.mul_one]; simp [bvs, List.map_drop]
          have hr2 := HR2.out
          rw [hbv] at hr2
          exact ⟨rfl, ⟨A2, n - u, c - u, (HR.out.1.below' HB.out).set 0 _, by rw [List.length_drop, HR.out.2.1], by have := HR.out.2.2.1; omega, by have := HR.out.2.2.2.1; omega, by have := HR.out.2.2.2.2.1; omega, rd_set hr2 (by omega)⟩, Keep.setCell (S := fun q => q = br) (a := ⟨br, 0, none⟩) (Keep.of_below HB.out) (.inl rfl) _⟩
    · have e1 : Bil.num b 0 lo hi = (0, b, er) := by unfold Bil.num; rw [if_pos rfl, hd]; simp [hz]
      rw [e1]
      have n1 : (er == 0) = false := by rw [beq_eq_false_iff_ne]; exact hz
      clear hr hn hnc hcm hn40 hrd h e1 hd
      go_enter Tryd.func64, Tryd.ntmps64
      go_wp2_with (go_at_call 86; refine HG.out.mono ?_; rintro r w2 ⟨rfl, b2⟩; have HB := Lib.hid b2; have k1 := (HR.out.1.below' b2).cell 1; have k1 : w2.cell? ⟨br, 1, none⟩ = some (.int .i64 0) := k1; have f1 := (HR.out.1.below' b2).frozen 1; clear b2)
      go_ret
      have hlt := HR.out.1.lt
      have hz2 := HB.out.size
      exact ⟨rfl, ⟨A, n, c, (HR.out.1.below' HB.out).set 1 _, HR.out.2.1, HR.out.2.2.1, HR.out.2.2.2.1, HR.out.2.2.2.2.1, rd_set (HR.out.2.2.2.2.2.below (HB.out.mono (Nat.le_of_lt hlt))) (by omega)⟩, Keep.setCell (S := fun q => q = br) (a := ⟨br, 1, none⟩) (Keep.of_below HB.out) (.inl rfl) _⟩
  · have e1 : Bil.num b e lo hi = (0, b, e) := by unfold Bil.num; rw [if_neg he]
    rw [e1]
    have n1 : (e == 0) = false := by rw [beq_eq_false_iff_ne]; exact he
    have HH := Lib.hid h
    clear hr hn hnc hcm hn40 hrd h e1
    go_enter Tryd.func64, Tryd.ntmps64
    go_wp2_with fail
    go_ret
    exact ⟨rfl, HH.out, Keep.refl _ _⟩
end
/-! Layer 35's reference: take; what its Take reads is what 'take' says. Conditions: the bytes lie before the reader's variable. -/
section
open Go.RowKit
namespace Bil
/-- a number of any value from the front -/
def any (b : List UInt8) (e : Int) : Int × List UInt8 × Int := num b e (-9223372036854775808) 9223372036854775807
/-- what the reference's Take gives: the booking and whether it is one -/
def refTake (b : List UInt8) : Option Bk :=
  let k := any b 0
  let p := any k.2.1 k.2.2
  let q := any p.2.1 p.2.2
  if k.1 = 1 then
    if (Wire.decI q.2.1).2.2 = 0 ∧ q.2.2 = 0 ∧ q.2.1.drop (Wire.decI q.2.1).2.1 = [] then some ⟨1, p.1, q.1, 0, (Wire.decI q.2.1).1⟩ else none
  else
    let r := any q.2.1 q.2.2
    if r.2.2 = 0 ∧ r.2.1 = [] ∧ k.1 = 2 then some ⟨2, p.1, q.1, r.1, []⟩ else none
end Bil
end
/-! Layer 35's reference: the memory of its Take while it reads. Conditions: the bytes lie before the reader's variable. -/
section
open Go.RowKit
def Z5 : List Value := [.int .i64 0, .int .i64 0, .int .i64 0, .int .i64 0, .slice none 0 0]
theorem RSt.keeps {S : Nat → Prop} {w w' : World} {br : Nat} {b : List UInt8} {e : Int} (h : RSt w br b e) (hk : Keep S w w') (hs : ∀ q, q ≤ br → ¬ S q) : RSt w' br b e := by
  obtain ⟨A, n, c, h1, h2, h3, h4, h5, h6⟩ := h.row
  have hl := h1.lt
  exact ⟨A, n, c, h1.keep (hk.block br hl (hs br (Nat.le_refl _))), h2, h3, h4, h5, h6.keep fun p hp => World.cell?_of_block (hk.block p.block (by omega) (hs _ (by omega)))⟩
/-- b2: the result's variable; br: the reader's; b5: the booking's -/
structure TkS (w W : World) (b2 br b5 : Nat) (b : List UInt8) (e : Int) (L : List Value) : Prop where
  below : Below w.heap.size w W
  r2 : IsRow W b2 35 Z5
  r5 : IsRow W b5 35 L
  st : RSt W br b e
  o : w.heap.size ≤ b2 ∧ b2 < br ∧ br < b5
section
variable {w W W' : World} {b2 br b5 : Nat} {b b' : List UInt8} {e e' : Int} {L : List Value}
theorem TkS.next (h : TkS w W b2 br b5 b e L) (hs : RSt W' br b' e') (hk : Keep (fun q => q = br) W W') : TkS w W' b2 br b5 b' e' L := by
  have ho := h.o
  have hz := h.below.size
  exact ⟨h.below.trans (hk.below hz fun q hq e => by omega), h.r2.keep (hk.block b2 h.r2.lt (by omega)), h.r5.keep (hk.block b5 h.r5.lt (by omega)), hs, ho⟩
theorem TkS.put (h : TkS w W b2 br b5 b e L) (j : Nat) (v : Value) : TkS w (W.setCell ⟨b5, j, none⟩ v) b2 br b5 b e (L.set j v) := by
  have ho := h.o
  have hk : Keep (fun q => q = b5) W (W.setCell ⟨b5, j, none⟩ v) := Keep.of_grown (grown_setCell _ _ _ _) fun k e => (Option.some.inj e).symm
  exact ⟨h.below.trans (hk.below h.below.size fun q hq e => by omega), h.r2.keep (hk.block b2 h.r2.lt (by omega)), h.r5.set j v, h.st.keeps hk (fun q hq e => by omega), ho⟩
theorem TkS.down (h : TkS w W b2 br b5 b e L) (hb : Below W.heap.size W W') : TkS w W' b2 br b5 b e L :=
  ⟨h.below.trans (hb.mono h.below.size), h.r2.below' hb, h.r5.below' hb, h.st.below hb, h.o⟩
end
/-- what the reference's Take gives -/
def TakeRes (w : World) (b : List UInt8) (r : Ending) (w' : World) : Prop := Below w.heap.size w w' ∧ ((∃ L : List Value, L.length = 5 ∧ L.all (·.oneCell') = true ∧ r = .returned (.tuple #[.agg L.toArray, .bool false]) ∧ Bil.refTake b = none) ∨
  ∃ x A n c, Bil.refTake b = some x ∧ r = .returned (.tuple #[.agg #[.int .i64 x.kind, .int .i64 x.a, .int .i64 x.b, .int .i64 x.c, .slice A n c], .bool true]) ∧ x.ch.length = n ∧ Rd w' w'.heap.size 1 A n (ivs x.ch) ∧ ∀ a, A = some a → w.heap.size ≤ a.block)
end
end Go.Proofs.YtkjomnakolhdcaaDoor
