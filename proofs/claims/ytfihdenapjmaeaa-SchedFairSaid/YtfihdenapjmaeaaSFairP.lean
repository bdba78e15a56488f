/- Turns of the kinds, and which kinds the first tasks of a list hold: plain laws for SchedFair. No program in sight. -/
import Derived.Test.YtfihdenapjmaeaaSchQ
namespace Go.Proofs.Ytfihdenapjmaeaa
set_option linter.unusedVariables false
set_option linter.unusedSimpArgs false
namespace Sc
theorem av_iff (L : List Tk) (ks : List Nat) (k : Nat) : av L ks k = true ↔ ∃ i ∈ ks, fit (k : Int) can (atK L i) = true := by
  unfold av
  rw [decide_eq_true_eq]
  constructor
  · intro h
    obtain ⟨i, hi, _, hf⟩ := best_pos h
    exact ⟨i, hi, hf⟩
  · intro ⟨i, hi, hf⟩
    rcases Int.lt_or_le (best L ks k can) 0 with h | h
    · have := (best_neg h).2 i hi
      rw [hf] at this; cases this
    · exact h
theorem av_no {L : List Tk} {n : Nat} (h : can (atK L n) = false) : av L (List.range (n + 1)) = av L (List.range n) := by
  funext k
  rw [Bool.eq_iff_iff, av_iff, av_iff]
  constructor
  · intro ⟨i, hi, hf⟩
    have hi' := List.mem_range.1 hi
    rcases Nat.lt_or_ge i n with h1 | h1
    · exact ⟨i, List.mem_range.2 h1, hf⟩
    · obtain rfl : i = n := by omega
      unfold fit at hf; rw [h] at hf; simp at hf
  · intro ⟨i, hi, hf⟩
    have hi' := List.mem_range.1 hi
    exact ⟨i, List.mem_range.2 (by omega), hf⟩
theorem av_yes {L : List Tk} {n q : Nat} (h : can (atK L n) = true) (hk : (atK L n).kind = (q : Int)) (j : Nat) : av L (List.range (n + 1)) j = (av L (List.range n) j || decide (j = q)) := by
  rw [Bool.eq_iff_iff, av_iff, Bool.or_eq_true, av_iff, decide_eq_true_eq]
  constructor
  · intro ⟨i, hi, hf⟩
    have hi' := List.mem_range.1 hi
    rcases Nat.lt_or_ge i n with h1 | h1
    · exact Or.inl ⟨i, List.mem_range.2 h1, hf⟩
    · obtain rfl : i = n := by omega
      right
      simp [fit] at hf
      omega
  · rintro (⟨i, hi, hf⟩ | rfl)
    · have hi' := List.mem_range.1 hi
      exact ⟨i, List.mem_range.2 (by omega), hf⟩
    · exact ⟨n, List.mem_range.2 (by omega), by simp [fit, hk, h]⟩
theorem av_zero (L : List Tk) (j : Nat) : av L (List.range 0) j = false := by
  cases h : av L (List.range 0) j with
  | false => rfl
  | true => obtain ⟨i, hi, _⟩ := (av_iff _ _ _).1 h; simp at hi
theorem wants_zero {a : Nat → Bool} (h : ∀ j, a j = false) : wants a = [0, 0, 0, 0, 0, 0] ∧ wsum a = 0 := by
  simp [wants, wsum, h]
theorem wants_step {a b : Nat → Bool} {q : Nat} (h1 : 1 ≤ q) (h5 : q ≤ 5) (h : ∀ j, b j = (a j || decide (j = q))) : wants b = (wants a).set q (wt (q : Int)) ∧ wsum b = wsum a + (wt (q : Int) - (wants a).getD q 0) := by
  obtain rfl | rfl | rfl | rfl | rfl : q = 1 ∨ q = 2 ∨ q = 3 ∨ q = 4 ∨ q = 5 := by omega
  all_goals
    unfold wants wsum
    rw [h 1, h 2, h 3, h 4, h 5]
    cases a 1 <;> cases a 2 <;> cases a 3 <;> cases a 4 <;> cases a 5 <;> decide
theorem wsum_range (a : Nat → Bool) : 0 ≤ wsum a ∧ wsum a ≤ 10 := by
  unfold wsum
  cases a 1 <;> cases a 2 <;> cases a 3 <;> cases a 4 <;> cases a 5 <;> decide
theorem wants_get (a : Nat → Bool) (q : Nat) : 0 ≤ (wants a).getD q 0 ∧ (wants a).getD q 0 ≤ 4 := by
  rcases Nat.lt_or_ge q 6 with h | h
  · unfold wants
    obtain rfl | rfl | rfl | rfl | rfl | rfl : q = 0 ∨ q = 1 ∨ q = 2 ∨ q = 3 ∨ q = 4 ∨ q = 5 := by omega
    all_goals cases a 1 <;> cases a 2 <;> cases a 3 <;> cases a 4 <;> cases a 5 <;> decide
  · have : (wants a).getD q 0 = 0 := by simp [List.getD, wants, List.getElem?_eq_none, h]
    omega
theorem turns_len (a : Nat → Bool) (cr : List Int) (n : Nat) : (turns a n cr).2.length = 6 := by
  induction n with
  | zero => rfl
  | succ n ih => show (List.set _ _ _).length = 6; rw [List.length_set]; exact ih
theorem turns_get (a : Nat → Bool) (cr : List Int) (n t : Nat) : 0 ≤ (turns a n cr).2.getD t 0 ∧ (turns a n cr).2.getD t 0 ≤ n := by
  induction n with
  | zero =>
    have : (turns a 0 cr).2.getD t 0 = 0 := by
      show [0, 0, 0, 0, 0, 0].getD t (0 : Int) = 0
      rcases Nat.lt_or_ge t 6 with h | h
      · obtain rfl | rfl | rfl | rfl | rfl | rfl : t = 0 ∨ t = 1 ∨ t = 2 ∨ t = 3 ∨ t = 4 ∨ t = 5 := by omega
        all_goals rfl
      · simp [List.getD, List.getElem?_eq_none, h]
    omega
  | succ n ih =>
    have hl := turns_len a cr n
    unfold turns
    generalize (turn a (turns a n cr).1).2 = q at *
    generalize (turns a n cr).2 = g at *
    show 0 ≤ (g.set q (g.getD q 0 + 1)).getD t 0 ∧ (g.set q (g.getD q 0 + 1)).getD t 0 ≤ ((n + 1 : Nat) : Int)
    by_cases e : q = t
    · subst e
      rcases Nat.lt_or_ge q g.length with h | h
      · rw [getD_set_eq h]; omega
      · rw [List.set_eq_of_length_le h]; omega
    · rw [getD_set_ne e]; omega
theorem turns_vld (a : Nat → Bool) (n : Nat) : Vld (turns a n [0, 0, 0, 0, 0]).1 := by
  induction n with
  | zero => exact ⟨rfl, by intro x hx; have : x = 0 := by simpa [turns] using hx
                           omega⟩
  | succ n ih => exact vld_turn a ih
/-- a choice where none is urgent and some task can be chosen -/
theorem fair_step {L : List Tk} {n : Nat} (hu : best L (List.range n) 1 urg < 0) (hs : 0 < wsum (av L (List.range n))) (cr : List Int) :
    (next cr L (List.range n)).1 = (turn (av L (List.range n)) cr).1 ∧ ∃ k q : Nat, k < n ∧ (next cr L (List.range n)).2 = (k : Int) ∧ (atK L k).kind = (q : Int) ∧ 1 ≤ q ∧ q ≤ 5 ∧ (turn (av L (List.range n)) cr).2 = q := by
  have hn : next cr L (List.range n) = ((turn (av L (List.range n)) cr).1, if (turn (av L (List.range n)) cr).2 = 0 then -1 else best L (List.range n) (turn (av L (List.range n)) cr).2 can) := by
    unfold next; rw [if_neg (by omega)]
  rw [hn]
  refine ⟨rfl, ?_⟩
  rcases turn_top (av L (List.range n)) cr with ⟨_, h⟩ | ⟨h1, h5, h⟩
  · exfalso
    have : wsum (av L (List.range n)) = 0 := by simp [wsum, h 1 (by omega) (by omega), h 2 (by omega) (by omega), h 3 (by omega) (by omega), h 4 (by omega) (by omega), h 5 (by omega) (by omega)]
    omega
  · have hb : 0 ≤ best L (List.range n) ((turn (av L (List.range n)) cr).2 : Nat) can := by
      unfold av at h ⊢
      exact of_decide_eq_true h
    obtain ⟨k, hk, he, hf⟩ := best_pos hb
    refine ⟨k, (turn (av L (List.range n)) cr).2, List.mem_range.1 hk, ?_, ?_, h1, h5, rfl⟩
    · show (if (turn (av L (List.range n)) cr).2 = 0 then -1 else _) = _
      rw [if_neg (by omega)]; exact he
    · simp [fit] at hf; exact hf.1
end Sc
end Go.Proofs.Ytfihdenapjmaeaa
