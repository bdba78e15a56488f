/- Rows and stripes as plain data: an allocation, a release, a search; what they keep, and that a release undoes an allocation. No program in sight. -/
namespace Go.Proofs.Ytcmgnjdhjnclkaa.S
set_option linter.unusedVariables false
set_option linter.unusedSimpArgs false
namespace Str
/-- a used stripe of a row: its group, its generation -/
structure Us where
  g : Int
  e : Int
  c : Int
deriving DecidableEq
structure Rw where
  code : Int
  width : Int
  used : List Us
deriving DecidableEq
def free : Rw := ⟨-1, 0, []⟩
/-- groups that grow, from lo on -/
def Asc : Int → List Us → Prop
  | _, [] => True
  | lo, u :: l => lo ≤ u.g ∧ Asc (u.g + 1) l
/-- the first group that is not used, if those before k are -/
def gap : List Us → Nat → Nat
  | [], k => k
  | u :: l, k => if u.g = (k : Int) then gap l (k + 1) else k
def put (l : List Us) (k : Nat) (e c : Int) : List Us := l.take k ++ ⟨k, e, c⟩ :: l.drop k
/-- the place of a group among the used ones -/
def at? (l : List Us) (g : Int) : Option Nat := l.findIdx? (fun u => decide (u.g = g))
structure RowOk (grp : Int → Int) (r : Rw) : Prop where
  ok : r = free ∨ (0 ≤ r.code ∧ r.code < 8 ∧ 1 ≤ r.width ∧ r.width ≤ 32 ∧ r.used ≠ [] ∧ Asc 0 r.used ∧ ∀ u ∈ r.used, u.g < grp r.width)
theorem Asc.mono {lo lo' : Int} {l : List Us} (h : Asc lo l) (hl : lo' ≤ lo) : Asc lo' l := by
  cases l with
  | nil => trivial
  | cons u l => exact ⟨by have := h.1; omega, h.2⟩
theorem Asc.mem {lo : Int} {l : List Us} (h : Asc lo l) : ∀ u ∈ l, lo ≤ u.g := by
  induction l generalizing lo with
  | nil => intro u hu; simp at hu
  | cons a l ih =>
    intro u hu
    rcases List.mem_cons.1 hu with rfl | hu
    · exact h.1
    · have := ih h.2 u hu; have := h.1; omega
theorem Asc.len {lo G : Int} {l : List Us} (h : Asc lo l) (hG : ∀ u ∈ l, u.g < G) (h0 : lo ≤ G) : (l.length : Int) ≤ G - lo := by
  induction l generalizing lo with
  | nil => simp; omega
  | cons a l ih =>
    have h1 := ih h.2 (fun u hu => hG u (List.mem_cons_of_mem _ hu)) (by have := hG a (List.mem_cons_self ..); omega)
    have := h.1
    rw [List.length_cons]; omega
/-- the gap splits the used ones: those below lie before it, those above behind -/
theorem gap_split : ∀ (l : List Us) (k : Nat), Asc k l → ∃ a b, l = a ++ b ∧ a.length + k = gap l k ∧ (∀ u ∈ a, u.g < (gap l k : Int)) ∧ Asc ((gap l k : Int) + 1) b ∧ (∀ (j : Nat) (u : Us), a[j]? = some u → u.g = ((k + j : Nat) : Int))
  | [], k, _ => ⟨[], [], rfl, by simp [gap], by simp, trivial, by simp⟩
  | u :: l, k, h => by
    unfold gap
    by_cases e : u.g = (k : Int)
    · rw [if_pos e]
      have h2 : Asc ((k + 1 : Nat) : Int) l := by have := h.2; rw [e] at this; push_cast; exact this
      obtain ⟨a, b, h3, h4, h5, h6, h7⟩ := gap_split l (k + 1) h2
      have hk : k + 1 ≤ gap l (k + 1) := by omega
      refine ⟨u :: a, b, by rw [h3]; rfl, by rw [List.length_cons]; omega, fun v hv => ?_, h6, fun j v hj => ?_⟩
      · rcases List.mem_cons.1 hv with rfl | hv
        · omega
        · exact h5 v hv
      · cases j with
        | zero => simp at hj; subst hj; simpa using e
        | succ j => have := h7 j v (by simpa using hj); rw [this]; congr 1; omega
    · rw [if_neg e]
      refine ⟨[], u :: l, rfl, by simp, by simp, ⟨by have := h.1; omega, h.2⟩, by simp⟩
theorem put_split {l : List Us} (h : Asc 0 l) (e c : Int) : ∃ a b, l = a ++ b ∧ a.length = gap l 0 ∧ put l (gap l 0) e c = a ++ ⟨(gap l 0 : Nat), e, c⟩ :: b ∧ (∀ u ∈ a, u.g < (gap l 0 : Int)) ∧ Asc ((gap l 0 : Int) + 1) b := by
  obtain ⟨a, b, h1, h2, h3, h4, _⟩ := gap_split l 0 h
  have h2 : a.length = gap l 0 := by omega
  refine ⟨a, b, h1, h2, ?_, h3, h4⟩
  unfold put
  generalize hg : gap l 0 = k at *
  subst h1
  rw [← h2, List.take_left, List.drop_left]
theorem asc_put : ∀ (a : List Us) {lo k : Int} {b : List Us} {u : Us}, Asc lo (a ++ b) → u.g = k → lo ≤ k → (∀ v ∈ a, v.g < k) → Asc (k + 1) b → Asc lo (a ++ u :: b)
  | [], lo, k, b, u, _, hu, hlo, _, hb => ⟨by omega, by rw [hu]; exact hb⟩
  | v :: a, lo, k, b, u, h, hu, _, ha, hb => ⟨h.1, asc_put a h.2 hu (by have := ha v (List.mem_cons_self ..); omega) (fun x hx => ha x (List.mem_cons_of_mem _ hx)) hb⟩
/-- a row with one more used stripe is valid -/
theorem row_put {grp : Int → Int} {r : Rw} (h : RowOk grp r) (hc : r.code ≠ -1) (hf : (r.used.length : Int) ≠ grp r.width) (e c : Int) : RowOk grp { r with used := put r.used (gap r.used 0) e c } := by
  rcases h.ok with rfl | ⟨h1, h2, h3, h4, h5, h6, h7⟩
  · exact absurd rfl hc
  · obtain ⟨a, b, s1, s2, s3, s4, s5⟩ := put_split h6 e c
    refine ⟨Or.inr ⟨h1, h2, h3, h4, by show put _ _ _ _ ≠ []; rw [s3]; simp, ?_, fun u hu => ?_⟩⟩
    · show Asc 0 (put _ _ _ _)
      rw [s3]
      exact asc_put (k := ((gap r.used 0 : Nat) : Int)) a (by rw [← s1]; exact h6) rfl (by omega) s4 s5
    · have hu : u ∈ put r.used (gap r.used 0) e c := hu
      rw [s3] at hu
      show u.g < grp r.width
      have hl := h6.len h7 (by
        cases hr : r.used with
        | nil => exact absurd hr h5
        | cons v l => have := h7 v (by rw [hr]; exact List.mem_cons_self ..); have := h6.mem v (by rw [hr]; exact List.mem_cons_self ..); omega)
      have hgl : gap r.used 0 ≤ r.used.length := by rw [← s2, s1]; simp
      rcases List.mem_append.1 hu with hu | hu
      · exact h7 u (by rw [s1]; exact List.mem_append.2 (Or.inl hu))
      · rcases List.mem_cons.1 hu with rfl | hu
        · show ((gap r.used 0 : Nat) : Int) < _; omega
        · exact h7 u (by rw [s1]; exact List.mem_append.2 (Or.inr hu))
theorem find_skip {a b : List Us} {g : Int} (h : ∀ u ∈ a, u.g ≠ g) : at? (a ++ b) g = (at? b g).map (· + a.length) := by
  induction a with
  | nil => simp
  | cons u a ih =>
    have h1 := h u (List.mem_cons_self ..)
    have h2 := ih fun v hv => h v (List.mem_cons_of_mem _ hv)
    unfold at? at *
    rw [List.cons_append, List.findIdx?_cons, if_neg (by simpa using h1), h2]
    cases List.findIdx? (fun u => decide (u.g = g)) b <;> simp <;> omega
theorem find_none {l : List Us} {g : Int} (h : ∀ u ∈ l, u.g ≠ g) : at? l g = none := by
  unfold at?; rw [List.findIdx?_eq_none_iff]; intro u hu; simpa using h u hu
/-- P24.6 in a row: the new group was not used, is found at the gap, and taking it away restores the row -/
theorem put_undo {l : List Us} (h : Asc 0 l) (e c : Int) : at? l (gap l 0 : Nat) = none ∧ at? (put l (gap l 0) e c) (gap l 0 : Nat) = some (gap l 0) ∧ (put l (gap l 0) e c)[gap l 0]? = some ⟨(gap l 0 : Nat), e, c⟩ ∧ (put l (gap l 0) e c).eraseIdx (gap l 0) = l := by
  obtain ⟨a, b, s1, s2, s3, s4, s5⟩ := put_split h e c
  have hb := s5.mem
  refine ⟨find_none fun u hu => ?_, ?_, ?_, ?_⟩
  · rw [s1] at hu
    rcases List.mem_append.1 hu with hu | hu
    · have := s4 u hu; omega
    · have := hb u hu; omega
  · rw [s3, find_skip fun u hu => by have := s4 u hu; omega]
    unfold at?
    rw [List.findIdx?_cons, if_pos (by simp)]
    simp [s2]
  · rw [s3, ← s2]; simp
  · rw [s3, ← s2]
    have : (a ++ (⟨(a.length : Nat), e, c⟩ : Us) :: b).eraseIdx a.length = a ++ b := by
      rw [List.eraseIdx_append_of_length_le (Nat.le_refl _)]; simp
    rw [this, ← s1]
/-- another group is found as before -/
theorem put_other {l : List Us} (h : Asc 0 l) (e c : Int) {g : Int} (hg : g ≠ (gap l 0 : Nat)) : (at? (put l (gap l 0) e c) g).bind (fun i => (put l (gap l 0) e c)[i]?) = (at? l g).bind (fun i => l[i]?) := by
  obtain ⟨a, b, s1, s2, s3, _, _⟩ := put_split h e c
  have key : ∀ l : List Us, (at? l g).bind (fun i => l[i]?) = l.find? (fun u => decide (u.g = g)) := by
    intro l
    unfold at?
    induction l with
    | nil => rfl
    | cons u l ih =>
      rw [List.findIdx?_cons, List.find?_cons]
      by_cases e : u.g = g
      · simp [e]
      · simp [e]
        rw [← ih]
        cases List.findIdx? (fun u => decide (u.g = g)) l <;> simp
  rw [key, key, s3, s1]
  rw [List.find?_append, List.find?_append, List.find?_cons]
  have : decide (((gap (a ++ b) 0 : Nat) : Int) = g) = false := by rw [← s1]; exact decide_eq_false fun h => hg h.symm
  rw [← s1] at this ⊢
  simp [this]
end Str
end Go.Proofs.Ytcmgnjdhjnclkaa.S
