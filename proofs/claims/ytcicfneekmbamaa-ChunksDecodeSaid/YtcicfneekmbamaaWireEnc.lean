/- Walks of layer 1's encoders of byte strings and lists of integers, the program's and the reference's. Conditions: the elements fit an int, the lengths stay below 2^40. -/
import Derived.Test.YtcicfneekmbamaaWireInt
import Derived.Test.YtcicfneekmbamaaRefInt
import Derived.Test.YtcicfneekmbamaaWireDecPlain
namespace Go.Proofs.Ytcicfneekmbamaa
set_option linter.unusedVariables false
set_option linter.unusedSimpArgs false
open Go.RowKit

namespace Wire
theorem flat_len (l : List Int) : (l.flatMap enc).length ≤ 9 * l.length := by
  induction l with
  | nil => simp
  | cons x l ih => have := enc_length_le x; simp only [List.flatMap_cons, List.length_append, List.length_cons]; omega
theorem flat_take_len (l : List Int) (k : Nat) : ((l.take k).flatMap enc).length ≤ 9 * l.length := by
  have := flat_len (l.take k)
  have h : (l.take k).length ≤ l.length := by rw [List.length_take]; omega
  omega
theorem flat_snoc {l : List Int} {k : Nat} (hk : k < l.length) : (l.take (k + 1)).flatMap enc = (l.take k).flatMap enc ++ enc l[k] := by
  rw [List.take_succ_eq_append_getElem hk, List.flatMap_append]; simp
end Wire
/-- what holds of a list of ints that fit -/
def I64s (l : List Int) : Prop := ∀ x ∈ l, -9223372036854775808 ≤ x ∧ x ≤ 9223372036854775807
theorem I64s.get {l : List Int} (h : I64s l) {k : Nat} (hk : k < l.length) : -9223372036854775808 ≤ l[k] ∧ l[k] ≤ 9223372036854775807 := h _ (List.getElem_mem hk)
theorem bvs_append (l r : List UInt8) : bvs l ++ bvs r = bvs (l ++ r) := by simp [bvs]

end Go.Proofs.Ytcicfneekmbamaa
