/- Lists of digests. No condition. -/
import Derived.Test.YtfnbcchmembomaaDoorBase
namespace Go.Proofs.YtfnbcchmembomaaDoor
set_option linter.unusedVariables false
set_option linter.unusedSimpArgs false
open Go.RowKit
/-- the cells of a list of digests -/
abbrev dvs (l : List (List UInt8)) : List Value := l.flatMap bvs
def D16 (l : List (List UInt8)) : Prop := ∀ d ∈ l, d.length = 16
theorem D16.cells {l : List (List UInt8)} (h : D16 l) : ∀ d ∈ l, (bvs d).length = 16 := fun d hd => by rw [List.length_map]; exact h d hd
theorem D16.take {l : List (List UInt8)} (h : D16 l) (k : Nat) : D16 (l.take k) := fun d hd => h d (List.mem_of_mem_take hd)
theorem D16.drop {l : List (List UInt8)} (h : D16 l) (k : Nat) : D16 (l.drop k) := fun d hd => h d (List.mem_of_mem_drop hd)
theorem dvs_len {l : List (List UInt8)} (h : D16 l) : (dvs l).length = l.length * 16 := flatMap_len h.cells
theorem dvs_take {l : List (List UInt8)} (h : D16 l) (k : Nat) : (dvs l).take (k * 16) = dvs (l.take k) := by
  induction l generalizing k with
  | nil => simp [dvs]
  | cons d l ih =>
    have hd : (bvs d).length = 16 := h.cells d (by simp)
    have hl : D16 l := fun x hx => h x (by simp [hx])
    cases k with
    | zero => simp [dvs]
    | succ k =>
      rw [List.take_succ_cons]
      show (bvs d ++ dvs l).take _ = bvs d ++ dvs (l.take k)
      rw [List.take_append, hd, show (k + 1) * 16 - 16 = k * 16 from by omega, ih hl k, List.take_of_length_le (by omega)]
theorem dvs_drop {l : List (List UInt8)} (h : D16 l) (k : Nat) : (dvs l).drop (k * 16) = dvs (l.drop k) := by
  induction l generalizing k with
  | nil => simp [dvs]
  | cons d l ih =>
    have hd : (bvs d).length = 16 := h.cells d (by simp)
    have hl : D16 l := fun x hx => h x (by simp [hx])
    cases k with
    | zero => simp
    | succ k =>
      rw [List.drop_succ_cons]
      show (bvs d ++ dvs l).drop _ = dvs (l.drop k)
      rw [List.drop_append, hd, show (k + 1) * 16 - 16 = k * 16 from by omega, ih hl k, List.drop_eq_nil_of_le (by omega), List.nil_append]
theorem Rd.first {w : World} {B n : Nat} {A : Option Addr} {l : List (List UInt8)} (h : Rd w B 16 A n (dvs l)) (hd : D16 l) {k : Nat} (hk : k ≤ n) : Rd w B 16 A k (dvs (l.take k)) := by
  have := h.take hk
  rwa [dvs_take hd] at this
theorem Rd.rest {w : World} {B n : Nat} {ad : Addr} {l : List (List UInt8)} (h : Rd w B 16 (some ad) n (dvs l)) (hd : D16 l) {k : Nat} (hk : k < n) : Rd w B 16 (some (ad.add (k * 16))) (n - k) (dvs (l.drop k)) := by
  have := h.cut (k := k) (cap := n) (by omega) (Nat.le_refl _)
  rw [if_neg (by omega), dvs_drop hd] at this
  exact this
end Go.Proofs.YtfnbcchmembomaaDoor
