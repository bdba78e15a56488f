/- Rows and stripes as plain data: an allocation, a release, a search; what they keep, and that a release undoes an allocation. No program in sight. -/
namespace Go.Proofs.YtihhkcndcgljbaaGreat.S
set_option linter.unusedVariables false
set_option linter.unusedSimpArgs false
namespace Str
/-- a used stripe of a row: its group, its generation -/
structure Us where
  g : Int
  e : Int
  c : Int
deriving DecidableEq
structure Rw where
  code : Int
  width : Int
  used : List Us
deriving DecidableEq
def free : Rw := ⟨-1, 0, []⟩
/-- groups that grow, from lo on -/
def Asc : Int → List Us → Prop
  | _, [] => True
  | lo, u :: l => lo ≤ u.g ∧ Asc (u.g + 1) l
/-- the first group that is not used, if those before k are -/
def gap : List Us → Nat → Nat
  | [], k => k
  | u :: l, k => if u.g = (k : Int) then gap l (k + 1) else k
def put (l : List Us) (k : Nat) (e c : Int) : List Us := l.take k ++ ⟨k, e, c⟩ :: l.drop k
/-- the place of a group among the used ones -/
def at? (l : List Us) (g : Int) : Option Nat := l.findIdx? (fun u => decide (u.g = g))
structure RowOk (grp : Int → Int) (r : Rw) : Prop where
  ok : r = free ∨ (0 ≤ r.code ∧ r.code < 8 ∧ 1 ≤ r.width ∧ r.width ≤ 32 ∧ r.used ≠ [] ∧ Asc 0 r.used ∧ ∀ u ∈ r.used, u.g < grp r.width)
theorem Asc.mono {lo lo' : Int} {l : List Us} (h : Asc lo l) (hl : lo' ≤ lo) : Asc lo' l := by
  cases l with
  | nil => trivial
  | cons u l => exact ⟨by have := h.1; omega, h.2⟩
theorem Asc.mem {lo : Int} {l : List Us} (h : Asc lo l) : ∀ u ∈ l, lo ≤ u.g := by
  induction l generalizing lo with
  | nil => intro u hu; simp at hu
  | cons a l ih =>
    intro u hu
    rcases List.mem_cons.1 hu with rfl | hu
    · exact h.1
    · have := ih h.2 u hu; have := h.1; omega
theorem Asc.len {lo G : Int} {l : List Us} (h : Asc lo l) (hG : ∀ u ∈ l, u.g < G) (h0 : lo ≤ G) : (l.length : Int) ≤ G - lo := by
  induction l generalizing lo with
  | nil => simp; omega
  | cons a l ih =>
    have h1 := ih h.2 (fun u hu => hG u (List.mem_cons_of_mem _ hu)) (by have := hG a (List.mem_cons_self ..); omega)
    have := h.1
    rw [List.length_cons]; omega
theorem find_none {l : List Us} {g : Int} (h : ∀ u ∈ l, u.g ≠ g) : at? l g = none := by
  unfold at?; rw [List.findIdx?_eq_none_iff]; intro u hu; simpa using h u hu
end Str
end Go.Proofs.YtihhkcndcgljbaaGreat.S
