/- The inputs of a proof by recursion, in plain Lean. -/
import Derived.Test.YtfnbcchmembomaaDoorInputsW
namespace Go.Proofs.YtfnbcchmembomaaDoor
set_option linter.unusedVariables false
set_option linter.unusedSimpArgs false
namespace Mk
theorem lefts_at : ∀ (n a b i : Nat), (steps a n i).map left = (steps b n i).map left := by
  intro n
  induction n using Nat.strongRecOn with
  | ind n ih =>
    intro a b i
    by_cases h : n ≤ 1
    · rw [steps_one a i h, steps_one b i h]
    · have h1 := split_pos n
      have h2 := split_lt (n := n) (by omega)
      by_cases hi : i < split n
      · rw [steps_lo a (by omega) hi, steps_lo b (by omega) hi, List.map_cons, List.map_cons, ih _ h2 a b i]
        congr 1
        unfold left
        rw [decide_eq_false (show ¬ a + split n < a by omega), decide_eq_false (show ¬ b + split n < b by omega)]
      · rw [steps_hi a (by omega) hi, steps_hi b (by omega) hi, List.map_cons, List.map_cons, ih (n - split n) (by omega) (a + split n) (b + split n)]
        congr 1
        unfold left
        rw [decide_eq_true (show a < a + split n by omega), decide_eq_true (show b < b + split n by omega)]
theorem sides_one (i : Nat) {n : Nat} (h : n ≤ 1) : sides n i = [] := by unfold sides; rw [steps_one 0 i h]; rfl
theorem sides_lo {n i : Nat} (h : 2 ≤ n) (hi : i < split n) : sides n i = sides (split n) i ++ [false] := by
  have h1 := split_pos n
  unfold sides
  rw [steps_lo 0 h hi, List.map_cons, List.reverse_cons]
  congr 2 <;> (unfold left; rw [decide_eq_false (show ¬ 0 + split n < 0 by omega)])
theorem sides_hi {n i : Nat} (h : 2 ≤ n) (hi : ¬ i < split n) : sides n i = sides (n - split n) (i - split n) ++ [true] := by
  have h1 := split_pos n
  unfold sides
  rw [steps_hi 0 h hi, List.map_cons, List.reverse_cons, lefts_at _ (0 + split n) 0]
  congr 2 <;> (unfold left; rw [decide_eq_true (show 0 < 0 + split n by omega)])
theorem sides_count (n i : Nat) : (sides n i).length = (steps 0 n i).length := by simp [sides]
theorem ins_snoc (d : List UInt8) (sd : List Bool) (b : Bool) (pr : List (List UInt8)) (last : List UInt8) (q : Nat) (h1 : sd.length = q) (h2 : pr.length = q) : ins d (sd ++ [b]) (pr ++ [last]) (q + 1) = ins d sd pr q ++ [up (climb (leaf d) (sd.zip pr)) (b, last)] := by
  have hz : (sd ++ [b]).zip (pr ++ [last]) = sd.zip pr ++ [(b, last)] := by rw [List.zip_append (by omega)]; rfl
  have hl : (sd.zip pr).length = q := by rw [List.length_zip]; omega
  unfold ins
  rw [List.range_succ, List.map_append, hz]
  congr 1
  · refine List.map_congr_left fun j hj => ?_
    have := List.mem_range.1 hj
    rw [List.take_append_of_le_length (by omega)]
  · simp only [List.map_cons, List.map_nil]
    rw [show q + 1 = (sd.zip pr ++ [(b, last)]).length from by simp [hl], List.take_length, climb_append]
    rfl
end Mk
end Go.Proofs.YtfnbcchmembomaaDoor
