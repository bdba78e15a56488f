/- Scripts on lists of entries: no program in sight. -/
import Derived.Test.YtnehbcopbioenaaIdxPlain
namespace Go.Proofs.Ytnehbcopbioenaa
set_option linter.unusedVariables false
set_option linter.unusedSimpArgs false

/-- Put of any chunk: the list, the chunk that is reported, the error -/
def putR (cap : Int) (L : List (Int × Int)) (p c : Int) : List (Int × Int) × Int × Int :=
  if 1 ≤ c ∧ c ≤ 65536 then ((lput cap L p c).1, (lput cap L p c).2, 0) else (L, 0, 1)
/-- an operation: is it Drop, the print, the chunk -/
abbrev IOp := Bool × Int × Int
def stepL (cap : Int) (L : List (Int × Int)) (o : IOp) : List (Int × Int) := if o.1 then del o.2.2 L else (putR cap L o.2.1 o.2.2).1
def playL (cap : Int) (os : List IOp) : List (Int × Int) := os.foldl (stepL cap) []
theorem playL_snoc (cap : Int) (os : List IOp) (o : IOp) : playL cap (os ++ [o]) = stepL cap (playL cap os) o := by simp [playL]
/-- what an index of the capacity cap may hold -/
structure Inv (cap : Int) (L : List (Int × Int)) : Prop where
  good : Good L
  len : (L.length : Int) ≤ cap
  chunk : ∀ e ∈ L, 1 ≤ e.2 ∧ e.2 ≤ 65536
  print : ∀ e ∈ L, 0 ≤ e.1 ∧ e.1 ≤ 4294967295
theorem Inv.nil {cap : Int} (h : 0 ≤ cap) : Inv cap [] := ⟨⟨by simp, by simp⟩, by simpa using h, by simp, by simp⟩
theorem Inv.del {cap : Int} {L : List (Int × Int)} (h : Inv cap L) (c : Int) : Inv cap (Go.Proofs.Ytnehbcopbioenaa.del c L) :=
  ⟨h.good.del c, by have := List.length_filter_le (fun e : Int × Int => e.2 != c) L; have := h.len; unfold Go.Proofs.Ytnehbcopbioenaa.del; omega, fun e he => h.chunk e (List.mem_filter.1 he).1, fun e he => h.print e (List.mem_filter.1 he).1⟩
theorem del_lt_of {c : Int} {L : List (Int × Int)} (h : c ∈ L.map (·.2)) : (Go.Proofs.Ytnehbcopbioenaa.del c L).length < L.length := by
  have hle : (Go.Proofs.Ytnehbcopbioenaa.del c L).length ≤ L.length := List.length_filter_le _ _
  rcases Nat.lt_or_ge (Go.Proofs.Ytnehbcopbioenaa.del c L).length L.length with h1 | h1
  · exact h1
  · have he : (Go.Proofs.Ytnehbcopbioenaa.del c L).length = L.length := by omega
    have : Go.Proofs.Ytnehbcopbioenaa.del c L = L := List.filter_eq_self.2 (List.length_filter_eq_length_iff.1 he)
    exact absurd (by rw [this]; exact h) (not_mem_del c L)
theorem Inv.put {cap : Int} {L : List (Int × Int)} (h : Inv cap L) (hcap : 1 ≤ cap) {p : Int} (hp : 0 ≤ p ∧ p ≤ 4294967295) (c : Int) : Inv cap (putR cap L p c).1 := by
  unfold putR
  split
  · next hc =>
    have hg := lput_good (cap := cap) h.good p c (by omega)
    refine ⟨hg, ?_, ?_, ?_⟩
    · show ((lput cap L p c).1.length : Int) ≤ cap
      unfold lput
      split
      · next hf => simp only [List.length_cons, List.length_dropLast]; omega
      · next hf =>
        simp only [List.length_cons]
        have hle : (Go.Proofs.Ytnehbcopbioenaa.del c L).length ≤ L.length := List.length_filter_le _ _
        have := h.len
        by_cases hm : c ∈ L.map (·.2)
        · have := del_lt_of hm; omega
        · have : (L.length : Int) ≠ cap := fun he => hf ⟨hm, he⟩
          omega
    all_goals
      intro e he
      have hmem : e = (p, c) ∨ e ∈ L := by
        replace he : e ∈ (lput cap L p c).1 := he
        unfold lput at he
        split at he
        · rcases List.mem_cons.1 he with h1 | h1
          · exact .inl h1
          · exact .inr (List.dropLast_subset L h1)
        · rcases List.mem_cons.1 he with h1 | h1
          · exact .inl h1
          · exact .inr (List.mem_filter.1 h1).1
      rcases hmem with h1 | h1
      · rw [h1]; first | exact hc | exact hp
      · first | exact h.chunk e h1 | exact h.print e h1
  · exact h
theorem Inv.step {cap : Int} {L : List (Int × Int)} (h : Inv cap L) (hcap : 1 ≤ cap) {o : IOp} (hp : 0 ≤ o.2.1 ∧ o.2.1 ≤ 4294967295) : Inv cap (stepL cap L o) := by
  unfold stepL
  split
  · exact h.del _
  · exact h.put hcap hp _
def OpsOk (os : List IOp) : Prop := ∀ o ∈ os, 0 ≤ o.2.1 ∧ o.2.1 ≤ 4294967295 ∧ -9223372036854775808 ≤ o.2.2 ∧ o.2.2 ≤ 9223372036854775807
theorem Inv.play {cap : Int} (hcap : 1 ≤ cap) {os : List IOp} (h : OpsOk os) : Inv cap (playL cap os) := by
  have key : ∀ (os : List IOp) (L : List (Int × Int)), OpsOk os → Inv cap L → Inv cap (os.foldl (stepL cap) L) := by
    intro os
    induction os with
    | nil => intro L _ hL; exact hL
    | cons o os ih =>
      intro L ho hL
      have h1 := ho o (by simp)
      exact ih _ (fun o' h' => ho o' (by simp [h'])) (hL.step hcap ⟨h1.1, h1.2.1⟩)
  exact key os [] h (Inv.nil (by omega))
end Go.Proofs.Ytnehbcopbioenaa
