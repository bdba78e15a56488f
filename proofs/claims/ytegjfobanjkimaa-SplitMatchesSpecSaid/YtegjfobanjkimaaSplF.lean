/- What the laws of layer 33 say of Weighted's shares. Conditions: valid arguments. -/
import Derived.Test.YtegjfobanjkimaaSpl4
namespace Go.Proofs.Ytegjfobanjkimaa
set_option linter.unusedVariables false
set_option linter.unusedSimpArgs false
open Go.RowKit
/-- a share -/
def shOf (T : Int) (ws : List Int) (n : Nat) (p : Nat → Nat) (k t : Nat) : Int := (Spl.bump p (baseL T (Spl.sumTo (wOf ws) n) ws n) k).getD t 0
theorem not_val {T : Int} {ws : List Int} {n : Nat} (h : ¬ (0 ≤ T ∧ T ≤ 2147483647 ∧ OkTo ws n ∧ Spl.sumTo (wOf ws) n ≠ 0)) : T < 0 ∨ 2147483647 < T ∨ ¬ OkTo ws n ∨ Spl.sumTo (wOf ws) n = 0 := by
  by_cases h1 : T < 0
  · exact Or.inl h1
  · by_cases h2 : 2147483647 < T
    · exact Or.inr (Or.inl h2)
    · by_cases h3 : OkTo ws n
      · by_cases h4 : Spl.sumTo (wOf ws) n = 0
        · exact Or.inr (Or.inr (Or.inr h4))
        · exact absurd ⟨by omega, by omega, h3, h4⟩ h
      · exact Or.inr (Or.inr (Or.inl h3))
theorem OkTo.sum_le {ws : List Int} {n : Nat} (h : OkTo ws n) {k : Nat} (hk : k ≤ n) : 0 ≤ Spl.sumTo (wOf ws) k ∧ Spl.sumTo (wOf ws) k ≤ 2147483647 := by
  refine ⟨OkTo.nonneg fun i hi => h i (by omega), ?_⟩
  cases k with
  | zero => show (0 : Int) ≤ 2147483647; decide
  | succ k => exact (h k (by omega)).2
theorem val_pos {T : Int} {ws : List Int} {n : Nat} (h : 0 ≤ T ∧ T ≤ 2147483647 ∧ OkTo ws n ∧ Spl.sumTo (wOf ws) n ≠ 0) : 0 < Spl.sumTo (wOf ws) n ∧ Spl.sumTo (wOf ws) n ≤ 2147483647 := by
  have := h.2.2.1.sum_le (Nat.le_refl n)
  have := h.2.2.2
  omega
theorem sh_eq {T : Int} {ws : List Int} {n : Nat} {p : Nat → Nat} {k t : Nat} (O : Spl.Ordr (fun t => T * ws.getD t 0 % Spl.sumTo (wOf ws) n) n p) (hk : k ≤ n) (ht : t < n) : shOf T ws n p k t = T * ws.getD t 0 / Spl.sumTo (wOf ws) n + if Spl.Fst p k t then 1 else 0 := by
  unfold shOf
  rw [Spl.bump_get O _ (by simp [baseL]) hk, baseL_get _ _ _ ht]; rfl
theorem sh_range {T : Int} {ws : List Int} {n : Nat} {p : Nat → Nat} {k t : Nat} (hl : ws.length = n) (hv : 0 ≤ T ∧ T ≤ 2147483647 ∧ OkTo ws n ∧ Spl.sumTo (wOf ws) n ≠ 0) (O : Spl.Ordr (fun t => T * ws.getD t 0 % Spl.sumTo (wOf ws) n) n p) (hk : k ≤ n) (ht : t < n) : 0 ≤ shOf T ws n p k t ∧ shOf T ws n p k t ≤ T + 1 := by
  rw [sh_eq O hk ht]
  have h1 := (vw_of hl hv.1 hv.2.1 hv.2.2.1 (val_pos hv).1 (val_pos hv).2).2 t
  unfold baseOf at h1
  split <;> omega
end Go.Proofs.Ytegjfobanjkimaa
