/- Walks of the reference's comparisons: Same, SameInts compare two slices element by element. Conditions: the slices read as lists of at most 2^63-1 elements. -/
import Derived.Test.YtfnbcchmembomaaDoorRows
import Derived.Test.YtfnbcchmembomaaDoorBase
import Derived.WalkKit
import Derived.WalkSpells
import Derived.WalkLawsBesides
import Derived.Deep.QuietTactic
import Derived.BigQuiet
namespace Go.Proofs.YtfnbcchmembomaaDoor
set_option linter.unusedVariables false
set_option linter.unusedSimpArgs false
open Go.RowKit

theorem take_succ_eq {α : Type} {xs ys : List α} {k : Nat} (hx : k < xs.length) (hy : k < ys.length) (h : xs.take k = ys.take k) (e : xs[k] = ys[k]) : xs.take (k + 1) = ys.take (k + 1) := by
  rw [List.take_succ_eq_append_getElem hx, List.take_succ_eq_append_getElem hy, h, e]
theorem ne_of_get {α : Type} {xs ys : List α} {k : Nat} (hx : k < xs.length) (hy : k < ys.length) (e : xs[k] ≠ ys[k]) : xs ≠ ys := by
  intro h; subst h; exact e rfl
theorem eq_of_take {α : Type} {xs ys : List α} {k : Nat} (h : xs.take k = ys.take k) (h1 : xs.length ≤ k) (h2 : ys.length ≤ k) : xs = ys := by
  rwa [List.take_of_length_le h1, List.take_of_length_le h2] at h

theorem ex_drew2 (w : World) (a b : Nat) : ∃ n, (w.drewN a).drewN b = w.drewN n := ⟨a + b, by rw [World.drewN_drewN]⟩
theorem ne_of_toNat {x y : UInt8} (h : ((x.toNat : Int) != y.toNat) = true) : x ≠ y := by
  intro e; subst e; simp at h
theorem eq_of_toNat {x y : UInt8} (h : ((x.toNat : Int) != y.toNat) = false) : x = y := by
  rw [bne_eq_false_iff_eq] at h; exact UInt8.toNat_inj.1 (by omega)


end Go.Proofs.YtfnbcchmembomaaDoor
