/- The specification's Find of layer 24: whether a stripe is a used one. Conditions: the rows are kept. -/
import Derived.Test.YtfllkaeaanahmaaGreatChaN
namespace Go.Proofs.YtfllkaeaanahmaaGreat
set_option linter.unusedVariables false
set_option linter.unusedSimpArgs false
open Go.RowKit
end Go.Proofs.YtfllkaeaanahmaaGreat
