/- Joined texts: BilR7, BilR8, BilR9. Conditions: as each part says. -/
import Derived.Test.YtkjomnakolhdcaaDoorHeld2
import Derived.Test.YtkjomnakolhdcaaDoorBilRA
namespace Go.Proofs.YtkjomnakolhdcaaDoor
set_option linter.unusedVariables false
set_option linter.unusedSimpArgs false
/-! The reference of layer 35: New. Conditions: the tables of the digest are in memory. -/
section
open Go.RowKit
abbrev oRB0 : Oper := { dst := some 16, op := Op.move (Operand.tmp 0), type := 3, pos := "ref.go:27", after := #[], guard := none }
abbrev oRB1 : Oper := { dst := some 17, op := Op.load 66 (Operand.tmp 4), type := 66, pos := "ref.go:27", after := #[], guard := none }
abbrev oRB2 : Oper := { dst := some 18, op := Op.move (Operand.tmp 0), type := 3, pos := "ref.go:27", after := #[], guard := none }
abbrev oRB3 : Oper := { dst := some 20, op := Op.move (Operand.tmp 0), type := 3, pos := "ref.go:27", after := #[], guard := none }
abbrev oRB4 : Oper := { dst := some 19, op := Op.makeSlice 29 (Operand.tmp 18) (Operand.tmp 18), type := 29, pos := "ref.go:27", after := #[{ on := 2, ground := Ground.data }, { on := 2, ground := Ground.data }], guard := none }
abbrev oRB5 : Oper := { dst := some 21, op := Op.makeSlice 29 (Operand.tmp 20) (Operand.tmp 20), type := 29, pos := "ref.go:27", after := #[{ on := 4, ground := Ground.data }, { on := 4, ground := Ground.data }], guard := none }
abbrev oRB6 : Oper := { dst := some 22, op := Op.build 76 #[(0, Operand.tmp 16), (2, Operand.tmp 17), (3, Operand.tmp 19), (4, Operand.tmp 21)], type := 76, pos := "ref.go:27", after := #[{ on := 0, ground := Ground.data }, { on := 1, ground := Ground.data }, { on := 3, ground := Ground.data }, { on := 5, ground := Ground.data }], guard := none }
abbrev oRB7 : Oper := { dst := some 23, op := Op.box 76 (Operand.tmp 22), type := 40, pos := "ref.go:27", after := #[{ on := 6, ground := Ground.data }], guard := none }
abbrev oRB8 : Oper := { dst := some 2, op := Op.assign (Operand.tmp 23), type := 40, pos := "ref.go:27", after := #[{ on := 7, ground := Ground.data }, { on := 0, ground := Ground.phase }, { on := 1, ground := Ground.phase }, { on := 2, ground := Ground.phase }, { on := 3, ground := Ground.phase }, { on := 4, ground := Ground.phase }, { on := 5, ground := Ground.phase }, { on := 6, ground := Ground.phase }, { on := 7, ground := Ground.phase }], guard := none }
abbrev oRB9 : Oper := { dst := some 3, op := Op.assign (Operand.const (Value.int IntKind.i64 0)), type := 26, pos := "ref.go:27", after := #[{ on := 8, ground := Ground.chain }, { on := 0, ground := Ground.phase }, { on := 1, ground := Ground.phase }, { on := 2, ground := Ground.phase }, { on := 3, ground := Ground.phase }, { on := 4, ground := Ground.phase }, { on := 5, ground := Ground.phase }, { on := 6, ground := Ground.phase }, { on := 7, ground := Ground.phase }, { on := 8, ground := Ground.phase }], guard := none }
def RNewOk (w : World) (n : Nat) (e : Ending) (w' : World) : Prop := ∃ bl col m, e = .returned (.tuple #[.pointer (some ⟨bl, 0, none⟩), .int .i64 0]) ∧ RAt w' bl col m (Bil.newOf n (newHead n)) ∧ (∀ b, col b ≠ 0 → w.heap.size ≤ b) ∧ Below w.heap.size w w'
end
/-! The reference of layer 35: Credit refused. Conditions: the ledger reads as told and keeps what it keeps (Ok). -/
section
open Go.RowKit
/-- what the reference's Credit does -/
def RCreditRes (w : World) (bl : Nat) (col : Nat → Nat) (l : Bil.Lg) (p t u : Int) (e : Ending) (w' : World) : Prop := e = .returned (.int .i64 (Bil.creditErr l p t u)) ∧ Keep (fun b => col b ≠ 0 ∧ col b ≠ 6) w w' ∧ ∃ m', RAt w' bl col m' (Bil.creditSt l p t u)
theorem RCreditRes.err {w w' : World} {bl : Nat} {col : Nat → Nat} {m : RM} {l : Bil.Lg} {p t u x : Int} (h : RAt w bl col m l) (hx : Bil.creditErr l p t u = x) (h0 : x ≠ 0) (hb : Below w.heap.size w w') : RCreditRes w bl col l p t u (.returned (.int .i64 x)) w' :=
  ⟨by rw [hx], Keep.of_below hb, m, by unfold Bil.creditSt; rw [hx, if_neg h0]; exact h.below hb⟩
section
variable (bl : Nat) (col : Nat → Nat) (m : RM) (l : Bil.Lg) (p t u : Int) (w : World)
end
end
/-! The reference of layer 35: Credit. Conditions: the ledger reads as told and keeps what it keeps (Ok), its numbers are at most 2^60; the tables of the digest are in memory. -/
section
open Go.RowKit
section
variable (bl : Nat) (col : Nat → Nat) (m : RM) (l : Bil.Lg) (p t u : Int) (w : World)
end
end
end Go.Proofs.YtkjomnakolhdcaaDoor
