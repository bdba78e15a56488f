/- Collisions of two proofs, in plain Lean. -/
import Derived.Test.YtfnbcchmembomaaDoorRefInP
namespace Go.Proofs.YtfnbcchmembomaaDoor
set_option linter.unusedVariables false
set_option linter.unusedSimpArgs false
namespace Mk
theorem leaf_inj {a b : List UInt8} (ha : a.length = 16) (hb : b.length = 16) (h : leaf a = leaf b) : a = b := by
  simp only [leaf, input, List.flatMap_cons, List.flatMap_nil, str_list, Wire.encB, List.append_nil, ha, hb] at h
  exact List.append_cancel_left (List.append_cancel_left h)
theorem node_inj {a b c d : List UInt8} (ha : a.length = 16) (hb : b.length = 16) (hc : c.length = 16) (hd : d.length = 16) (h : node a b = node c d) : a = c ∧ b = d := by
  simp only [node, input, List.flatMap_cons, List.flatMap_nil, str_list, Wire.encB, List.append_nil, ha, hb, hc, hd, List.append_assoc] at h
  have h1 := List.append_cancel_left (List.append_cancel_left h)
  have h2 := List.append_inj h1 (by omega)
  exact ⟨h2.1, List.append_cancel_left h2.2⟩
theorem up_inj {x y p q : List UInt8} {s : Bool} (hp : p.length = 16) (hq : q.length = 16) (h : up x (s, p) = up y (s, q)) : short x = short y ∧ p = q := by
  unfold up at h
  cases s with
  | true => have := node_inj hp (short_len _) hq (short_len _) h; exact ⟨this.2, this.1⟩
  | false => exact node_inj (short_len _) hp (short_len _) hq h
/-- the greatest place below k at which two lists differ -/
def clashF (L1 L2 : List (List UInt8)) : Nat → Option Nat
  | 0 => none
  | k + 1 => if L1.getD k [] = L2.getD k [] then clashF L1 L2 k else some k
theorem clashF_none (L1 L2 : List (List UInt8)) : ∀ k, clashF L1 L2 k = none ↔ ∀ j, j < k → L1.getD j [] = L2.getD j []
  | 0 => by simp [clashF]
  | k + 1 => by
    unfold clashF
    by_cases h : L1.getD k [] = L2.getD k []
    · rw [if_pos h, clashF_none L1 L2 k]
      refine ⟨fun h1 j hj => ?_, fun h1 j hj => h1 j (by omega)⟩
      by_cases hjk : j = k
      · rw [hjk]; exact h
      · exact h1 j (by omega)
    · rw [if_neg h]
      refine ⟨fun h1 => by (cases h1), fun h1 => absurd (h1 k (by omega)) h⟩
theorem clashF_some (L1 L2 : List (List UInt8)) (t : Nat) : ∀ k, clashF L1 L2 k = some t → t < k ∧ L1.getD t [] ≠ L2.getD t [] ∧ ∀ j, t < j → j < k → L1.getD j [] = L2.getD j []
  | 0, h => by simp [clashF] at h
  | k + 1, h => by
    unfold clashF at h
    by_cases h1 : L1.getD k [] = L2.getD k []
    · rw [if_pos h1] at h
      obtain ⟨a, b, c⟩ := clashF_some L1 L2 t k h
      refine ⟨by omega, b, fun j hj hk => ?_⟩
      by_cases hjk : j = k
      · rw [hjk]; exact h1
      · exact c j hj (by omega)
    · rw [if_neg h1] at h
      obtain rfl := Option.some.inj h
      exact ⟨by omega, h1, fun j h2 h3 => by omega⟩
theorem ins_getD (d : List UInt8) (sd : List Bool) (pr : List (List UInt8)) (k j : Nat) (hj : j ≤ k) : (ins d sd pr k).getD j [] = climb (leaf d) ((sd.zip pr).take j) := by
  rw [List.getD, ins_get d sd pr k j hj]; rfl
theorem getD_16 {p : List (List UInt8)} (hp : D16 p) {k : Nat} (h : k < p.length) : (p.getD k []).length = 16 := by
  simp only [List.getD]
  rw [List.getElem?_eq_getElem h]
  exact hp _ (List.getElem_mem _)
/-- the inputs at the greatest place of difference begin with the same digest -/
theorem clash_short (a b : List UInt8) (sd : List Bool) (p q : List (List UInt8)) (m t : Nat) (hsd : sd.length = m) (hp : p.length = m) (hq : q.length = m) (h1 : D16 p) (h2 : D16 q) (hs : short ((ins a sd p m).getD m []) = short ((ins b sd q m).getD m []))
    (ht : clashF (ins a sd p m) (ins b sd q m) (m + 1) = some t) : t ≤ m ∧ (ins a sd p m).getD t [] ≠ (ins b sd q m).getD t [] ∧ short ((ins a sd p m).getD t []) = short ((ins b sd q m).getD t []) := by
  obtain ⟨h3, h4, h5⟩ := clashF_some _ _ t (m + 1) ht
  refine ⟨by omega, h4, ?_⟩
  by_cases htm : t = m
  · rw [htm]; exact hs
  · have h6 := h5 (t + 1) (by omega) (by omega)
    rw [ins_getD _ _ _ _ _ (by omega), ins_getD _ _ _ _ _ (by omega), climb_zip _ _ _ _ (by omega) (by omega), climb_zip _ _ _ _ (by omega) (by omega)] at h6
    rw [ins_getD _ _ _ _ _ (by omega), ins_getD _ _ _ _ _ (by omega)]
    exact (up_inj (getD_16 h1 (by omega)) (getD_16 h2 (by omega)) h6).1
/-- no place of difference: the elements and the proofs are the same -/
theorem clash_none (a b : List UInt8) (sd : List Bool) (p q : List (List UInt8)) (m : Nat) (hsd : sd.length = m) (hp : p.length = m) (hq : q.length = m) (h1 : D16 p) (h2 : D16 q) (ha : a.length = 16) (hb : b.length = 16) :
    clashF (ins a sd p m) (ins b sd q m) (m + 1) = none ↔ a = b ∧ p = q := by
  rw [clashF_none]
  constructor
  · intro h
    have h0 := h 0 (by omega)
    rw [ins_getD _ _ _ _ _ (by omega), ins_getD _ _ _ _ _ (by omega), List.take_zero, List.take_zero] at h0
    refine ⟨leaf_inj ha hb h0, List.ext_getElem (by omega) fun k hk hk' => ?_⟩
    have h6 := h (k + 1) (by omega)
    rw [ins_getD _ _ _ _ _ (by omega), ins_getD _ _ _ _ _ (by omega), climb_zip _ _ _ _ (by omega) (by omega), climb_zip _ _ _ _ (by omega) (by omega)] at h6
    have h7 := (up_inj (getD_16 h1 (by omega)) (getD_16 h2 (by omega)) h6).2
    simp only [List.getD] at h7
    rw [List.getElem?_eq_getElem hk, List.getElem?_eq_getElem hk'] at h7
    exact h7
  · rintro ⟨rfl, rfl⟩ j _
    rfl
end Mk
end Go.Proofs.YtfnbcchmembomaaDoor
