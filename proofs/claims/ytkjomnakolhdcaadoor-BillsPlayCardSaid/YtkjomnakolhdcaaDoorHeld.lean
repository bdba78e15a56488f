/- Operations of a region that draws its order, by hand. No condition. -/
import Derived.Test.YtkjomnakolhdcaaDoorRow
import Derived.Deep.RegionHeld3
namespace Go.Proofs.YtkjomnakolhdcaaDoor
set_option linter.unusedVariables false
set_option linter.unusedSimpArgs false
open Go.RowKit
section
variable {P : Program} {w : World} {ops : Array Oper} {o : Oper} {a : Act} {K : Act → World → Prop} {Q : Exit → Act → World → Prop}
/-- a load of a whole array variable that every world meeting S holds -/
theorem yi_row {S : World → Prop} (hw : Region.wanted o (yielded ops a.tmps) = true) (ty : TypeId) (x : Operand) (ho : o.op = .load ty x) {b t n e : Nat} {l : List Value} (hx : a.eval x = .pointer (some ⟨b, 0, none⟩))
    (hr : ∀ W, S W → IsRow W b t l) (hu : P.underlying ty = some (.array n e)) (hi : (P.info? ty).map (·.size) = some l.length) : YieldsIf P ops S o (.agg l.toArray) a :=
  yieldsIf_load_mid hw ty x ho b 0 hx l _ (fun W hW => fun j v hv => by rw [(hr W hW).cell, Nat.zero_add]; exact hv) hu rfl hi
end
end Go.Proofs.YtkjomnakolhdcaaDoor
