/- The walk of BillsReplayMatchesSpec: it returns true. Conditions: what the arguments are, the tables of SHA-256. -/
import Derived.Test.YtkjomnakolhdcaaDoorBilTs
import Derived.Test.YtkjomnakolhdcaaDoorBilVA
import Derived.Test.YtkjomnakolhdcaaDoorBilQT
namespace Go.Proofs.YtkjomnakolhdcaaDoor
set_option linter.unusedVariables false
set_option linter.unusedSimpArgs false
open Go.RowKit
theorem inv_encR {l : Bil.Lg} (h : Bil.Inv l BIG) : I64s l.pending ∧ I64s l.paid := by
 unfold BIG at h
 exact ⟨Bil.i64s_of fun t => by have := h.sm t; omega, Bil.i64s_of fun t => by have := h.sm t; omega⟩
theorem rat_zero {W : World} {bl : Nat} {col : Nat → Nat} {m : RM} {l : Bil.Lg} (h : RAt W bl col m l) {b : Nat} (hb : W.heap.size ≤ b) : col b = 0 := by
 rcases Nat.eq_zero_or_pos (col b) with h0 | h0
 ·
  exact h0
 ·
  have := h.lt b (by omega); omega
end Go.Proofs.YtkjomnakolhdcaaDoor
