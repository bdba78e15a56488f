/- Charge: Of, the specification's. Conditions: the table, the rows and the blocks are kept. -/
import Derived.Test.YtfllkaeaanahmaaGreatChaE
namespace Go.Proofs.YtfllkaeaanahmaaGreat
set_option linter.unusedVariables false
set_option linter.unusedSimpArgs false
open Go.RowKit
open W (FRow)
end Go.Proofs.YtfllkaeaanahmaaGreat
