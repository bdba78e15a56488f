/- A row of ints in place: ranges exchanged, rotations, as the library's stable sort makes them. Conditions: the positions lie in the row, which has at most 1000 elements. -/
import Derived.Test.YtegjfobanjkimaaRows
import Derived.Test.YtegjfobanjkimaaMaps
import Derived.Test.YtegjfobanjkimaaSplP
import Derived.WalkKit
import Derived.WalkSpells
import Derived.WalkLawsBesides
import Derived.Deep.QuietTactic
import Derived.BigQuiet
import Derived.RegionTactic
import Derived.LoopN
import Derived.Outline
namespace Go.Proofs.Ytegjfobanjkimaa
set_option linter.unusedVariables false
set_option linter.unusedSimpArgs false
open Go.RowKit
theorem grownBy_of_below {w w' : World} (h : Below w.heap.size w w') : w.grownBy w' none := ⟨h.os, h.tape, h.output, h.size, fun k hk _ => h.block k hk⟩
theorem grown_setCell (w : World) (b o : Nat) (v : Value) : w.grownBy (w.setCell ⟨b, o, none⟩ v) (some b) := ⟨rfl, rfl, rfl, by simp, fun k _ hk => Below.heap_setCell _ _ _ k (fun e => hk (by rw [e]))⟩
theorem cell_set_ne (w : World) {g i j : Nat} (v : Value) (h : i ≠ j) : (w.setCell ⟨g, i, none⟩ v).cell? ⟨g, j, none⟩ = w.cell? ⟨g, j, none⟩ := World.cell?_setCell_other _ _ _ _ (fun e => h (congrArg (·.off) e))
theorem cell_set_eq (w : World) {g i : Nat} {u : Value} (v : Value) (h : w.cell? ⟨g, i, none⟩ = some u) : (w.setCell ⟨g, i, none⟩ v).cell? ⟨g, i, none⟩ = some v := World.cell?_setCell_same _ _ _ h
theorem _root_.Go.World.grownBy.any {w w' : World} {r : Option Nat} (h : w.grownBy w' none) : w.grownBy w' r := ⟨h.os, h.tape, h.output, h.size, fun k hk _ => h.block k hk (by simp)⟩
theorem grown_drewN {a w : World} {row : Option Nat} (h : a.grownBy w row) (k : Nat) : a.grownBy (w.drewN k) row := ⟨h.os, h.tape, h.output, h.size, h.block⟩
theorem far_grown {w w' : World} {g : Nat} {p : Addr} {v : Value} (hg : w.grownBy w' (some g)) (h : w.cell? p = some v) (hp : p.block < w.heap.size) (hne : p.block ≠ g) : w'.cell? p = some v :=
  (World.cell?_of_block (hg.block p.block hp (fun e => hne (Option.some.inj e)))).trans h
/-- the first n cells of block g hold d, and may be written -/
structure FRow (w : World) (g n : Nat) (d : Nat → Int) : Prop where
  lt : g < w.heap.size
  cell : ∀ t, t < n → w.cell? ⟨g, t, none⟩ = some (.int .i64 (d t))
  free : ∀ t, t < n → w.frozen? ⟨g, t, none⟩ = false
section
variable {w w' : World} {g n : Nat} {d : Nat → Int}
theorem FRow.keep (h : FRow w g n d) (hk : w'.heap[g]? = w.heap[g]?) : FRow w' g n d := by
  refine ⟨?_, fun t ht => (World.cell?_of_block (a := ⟨g, t, none⟩) hk).trans (h.cell t ht), fun t ht => (World.frozen?_of_block (a := ⟨g, t, none⟩) hk).trans (h.free t ht)⟩
  have h1 : w.heap[g]? = some (w.heap[g]'h.lt) := Array.getElem?_eq_getElem h.lt
  rw [h1] at hk
  exact (Array.getElem?_eq_some_iff.1 hk).1
theorem FRow.below (h : FRow w g n d) (hb : Below w.heap.size w w') : FRow w' g n d := h.keep (hb.block g h.lt)
theorem FRow.drewN (h : FRow w g n d) (k : Nat) : FRow (w.drewN k) g n d := h.keep rfl
theorem FRow.congr (h : FRow w g n d) {e : Nat → Int} (he : ∀ t, t < n → e t = d t) : FRow w g n e := ⟨h.lt, fun t ht => by rw [he t ht]; exact h.cell t ht, h.free⟩
theorem FRow.set (h : FRow w g n d) {k : Nat} (hk : k < n) (v : Int) : FRow (w.setCell ⟨g, k, none⟩ (.int .i64 v)) g n (fun t => if t = k then v else d t) := by
  refine ⟨by have := h.lt; simpa using this, fun t ht => ?_, fun t ht => by have := h.free t ht; simpa using this⟩
  by_cases e : k = t
  · subst e; rw [cell_set_eq _ _ (h.cell k hk), if_pos rfl]
  · rw [cell_set_ne _ _ e, if_neg (fun e' => e e'.symm)]; exact h.cell t ht
/-- two cells exchanged -/
theorem FRow.swap (h : FRow w g n d) {i j : Nat} (hi : i < n) (hj : j < n) : FRow ((w.setCell ⟨g, i, none⟩ (.int .i64 (d j))).setCell ⟨g, j, none⟩ (.int .i64 (d i))) g n (fun t => if t = j then d i else if t = i then d j else d t) ∧
    w.grownBy ((w.setCell ⟨g, i, none⟩ (.int .i64 (d j))).setCell ⟨g, j, none⟩ (.int .i64 (d i))) (some g) :=
  ⟨(h.set hi (d j)).set hj (d i), (grown_setCell _ _ _ _).trans (grown_setCell _ _ _ _)⟩
end
/-- what a call that changes the row d to e in place leaves -/
def RowRes (g n : Nat) (e : Nat → Int) (w : World) (en : Ending) (w' : World) : Prop := en = .returned (.tuple #[]) ∧ FRow w' g n e ∧ w.grownBy w' (some g)
set_option maxRecDepth 100000 in
set_option maxHeartbeats 1600000 in
theorem swapRange_any (cv : Value) (g n c a b k : Nat) (hab : a + k ≤ b) (hbn : b + k ≤ n) (hn : n ≤ 1000) (d : Nat → Int) (w : World) (hr : FRow w g n d) :
    Calls Try.prog 28 #[.slice (some ⟨g, 0, none⟩) n c, .int .i64 a, .int .i64 b, .int .i64 k, cv] w (RowRes g n (So.swapR d a b k) w) := by
  have HR := Lib.hid hr
  clear hr
  go_enter Try.func28, Try.ntmps28
  go_wp2
  go_loopw [10] (fun u10 wr => ∃ i : Nat, i ≤ k ∧ u10 = .int .i64 i ∧ Hid (FRow wr g n (So.swapR d a b i)) ∧ w.grownBy wr (some g)) (fun u10 _ => k - (intOf u10).toNat)
  case atStart => exact ⟨0, Nat.zero_le _, rfl, by rw [So.swapR_zero]; exact HR.out, World.grownBy.refl _ _⟩
  case round =>
    obtain ⟨i, hi, rfl, HF, hg⟩ := hrel
    by_cases hlt : i < k
    · obtain ⟨x, hx⟩ : ∃ x, a + i = x := ⟨_, rfl⟩
      obtain ⟨y, hy⟩ : ∃ y, b + i = y := ⟨_, rfl⟩
      have qx : (a : Int) + (i : Int) = (x : Int) := by omega
      have qy : (b : Int) + (i : Int) = (y : Int) := by omega
      have hxn : x < n := by omega
      have hyn : y < n := by omega
      have w1 : IntKind.i64.wrap (x : Int) = (x : Int) := IntWalk.i64_in _ (by omega)
      have w2 : IntKind.i64.wrap (y : Int) = (y : Int) := IntWalk.i64_in _ (by omega)
      have c1 := HF.out.cell x hxn
      have c2 := HF.out.cell y hyn
      have f1 := HF.out.free x hxn
      have f2 := HF.out.free y hyn
      have i1 : (0 : Int) ≤ (x : Int) := by omega
      have i2 : (0 : Int) ≤ (y : Int) := by omega
      have i3 : (x : Int) < (n : Int) := by omega
      have i4 : (y : Int) < (n : Int) := by omega
      have ik : (i : Int) < (k : Int) := by omega
      have hne : x ≠ y := by omega
      have HX := Lib.hid (And.intro hx hy)
      have HG := Lib.hid hg
      have HS := Lib.hid (HF.out.swap hxn hyn)
      have HSS := Lib.hid (So.swapR_succ d (a := a) (b := b) (i := i) (by omega))
      clear hg hx hy
      go_wp2_with fail
      go_region
      all_goals go_wp2
      go_roundw
      case rel =>
        refine ⟨i + 1, by omega, by go_num, ?_, ?_⟩
        · refine FRow.congr (d := fun t => if t = y then So.swapR d a b i x else if t = x then So.swapR d a b i y else So.swapR d a b i t) (by first | exact HS.out.1 | exact HS.out.1.drewN _) fun t _ => ?_
          rw [HSS.out t, HX.out.1, HX.out.2]
          by_cases e1 : t = x
          · rw [if_pos e1, if_neg (by omega), if_pos e1]
          · rw [if_neg e1, if_neg e1]
        · exact HG.out.trans (by first | exact HS.out.2 | exact grown_drewN HS.out.2 _)
      case measure => simp [intOf]; omega
    · go_wp2
      go_end0
      obtain rfl : i = k := by omega
      exact ⟨rfl, HF.out, hg⟩
end Go.Proofs.Ytegjfobanjkimaa
