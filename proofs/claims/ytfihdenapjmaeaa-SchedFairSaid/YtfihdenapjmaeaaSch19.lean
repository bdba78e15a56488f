/- The reference's order of two. No condition. -/
import Derived.Test.YtfihdenapjmaeaaSch18
import Derived.Test.YtfihdenapjmaeaaSch15
namespace Go.Proofs.Ytfihdenapjmaeaa
set_option linter.unusedVariables false
set_option linter.unusedSimpArgs false
open Go.RowKit
theorem ord2 (a b : Sc.Tk) : ordT [b, a] = if Sc.ltR a b then [a, b] else [b, a] := by
  have h1 : insT [] b = [b] := rfl
  have h2 : insT [b] a = if Sc.ltR a b then [a, b] else [b, a] := by
    have : posOf a [b] 1 = if Sc.ltR a b then 0 else 1 := by simp [posOf, Sc.atK]
    unfold insT
    show [b].take (posOf a [b] 1) ++ a :: [b].drop (posOf a [b] 1) = _
    rw [this]; split <;> rfl
  show insT (insT [] b) a = _
  rw [h1, h2]
end Go.Proofs.Ytfihdenapjmaeaa
