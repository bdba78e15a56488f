/- The law ChunksUnits. Conditions: none beside the argument's form. -/
import Derived.Test.YtihhkcndcgljbaaGreatCLawKit
namespace Go.Proofs.YtihhkcndcgljbaaGreat
set_option linter.unusedVariables false
set_option linter.unusedSimpArgs false
open Go.RowKit
namespace Chk
end Chk
theorem TabNew.inv {w0 w : World} {a : Nat} {l : List Chk.Ck} (h : TabNew w0 w a l) : Chk.Inv l := h.g.inv
end Go.Proofs.YtihhkcndcgljbaaGreat
