/- Valid rows as plain data. No program in sight. -/
import Derived.Test.YtihhkcndcgljbaaGreatStrB
namespace Go.Proofs.YtihhkcndcgljbaaGreat.S
set_option linter.unusedVariables false
set_option linter.unusedSimpArgs false
namespace Str
theorem getD_of {l : List Rw} {k : Nat} {x : Rw} (h : l[k]? = some x) : l.getD k free = x := by simp [List.getD, h]
/-- groups that grow, from lo on, below G -/
def ascB (G : Int) : Int → List Us → Bool
  | _, [] => true
  | lo, u :: l => decide (lo ≤ u.g) && decide (u.g < G) && ascB G (u.g + 1) l
theorem ascB_iff {G : Int} : ∀ {l : List Us} {lo : Int}, ascB G lo l = true ↔ Asc lo l ∧ ∀ u ∈ l, u.g < G
  | [], lo => by simp [ascB, Asc]
  | u :: l, lo => by
    unfold ascB
    rw [Bool.and_eq_true, Bool.and_eq_true, ascB_iff, decide_eq_true_iff, decide_eq_true_iff]
    constructor
    · rintro ⟨⟨h1, h2⟩, h3, h4⟩
      exact ⟨⟨h1, h3⟩, fun v hv => by
        rcases List.mem_cons.1 hv with rfl | hv
        · exact h2
        · exact h4 v hv⟩
    · rintro ⟨⟨h1, h3⟩, h4⟩
      exact ⟨⟨h1, h4 u (List.mem_cons_self ..)⟩, h3, fun v hv => h4 v (List.mem_cons_of_mem _ hv)⟩
def codeB (r : Rw) : Bool := decide (0 ≤ r.code) && decide (r.code < 8) && decide (1 ≤ r.width) && decide (r.width ≤ 32) && decide (r.used.length ≠ 0)
/-- a row is valid -/
def right (cf : Cfg) (r : Rw) : Bool := if r.code = -1 then decide (r.width = 0) && decide (r.used.length = 0) else codeB r && ascB (grp cf r.width) 0 r.used
theorem right_iff {cf : Cfg} {r : Rw} : right cf r = true ↔ RowOk (grp cf) r := by
  unfold right
  by_cases h : r.code = -1
  · rw [if_pos h, Bool.and_eq_true, decide_eq_true_iff, decide_eq_true_iff]
    constructor
    · rintro ⟨h1, h2⟩
      refine ⟨.inl ?_⟩
      obtain ⟨c, w, u⟩ := r
      dsimp only at h h1 h2
      rw [List.length_eq_zero_iff] at h2
      rw [h, h1, h2]; rfl
    · rintro ⟨h1 | h1⟩
      · rw [h1]; exact ⟨rfl, rfl⟩
      · omega
  · rw [if_neg h]
    unfold codeB
    simp only [Bool.and_eq_true, decide_eq_true_iff, ascB_iff]
    constructor
    · rintro ⟨⟨⟨⟨⟨h1, h2⟩, h3⟩, h4⟩, h5⟩, h6, h7⟩
      exact ⟨.inr ⟨h1, h2, h3, h4, fun e => h5 (by rw [e]; rfl), h6, h7⟩⟩
    · rintro ⟨h1 | ⟨h1, h2, h3, h4, h5, h6, h7⟩⟩
      · rw [h1] at h; exact absurd rfl h
      · exact ⟨⟨⟨⟨⟨h1, h2⟩, h3⟩, h4⟩, fun e => h5 (List.length_eq_zero_iff.1 e)⟩, h6, h7⟩
/-- rows of one code have one width -/
def Same (l : List Rw) : Prop := ∀ r ∈ l, ∀ s ∈ l, r.code = s.code → r.width = s.width
structure Valid (cf : Cfg) (l : List Rw) : Prop where
  ok : cf.ok = true
  len : (l.length : Int) = cf.rows
  rows : ∀ r ∈ l, RowOk (grp cf) r
  same : Same l
end Str
end Go.Proofs.YtihhkcndcgljbaaGreat.S
