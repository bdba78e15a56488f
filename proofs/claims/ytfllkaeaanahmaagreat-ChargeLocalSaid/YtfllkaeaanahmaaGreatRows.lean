/-
  No cell of these rows narrows 'for every input' (looked for: loops, veiled, ifaces, maps, wideKeys, modest, calm, conditions, laid).
  DERIVED. THE GIVEN ROWS OF THIS SEAT. 5 by the template 'for every input the law returns true; each argument reads behind the call as it read before'; 0 by the template 'total and deterministic' (their statements: YtfllkaeaanahmaaGreatTotals.lean).
  GIVEN WITH THE SEED: the statements are not yours to turn. If you find one false, say at which input.
  Laid BY PROGRAM, IN A SANDBOX (cutbox-rows.mjs): the forced cells as the released guide's own fill.sh prints them over the translation c34faca66b65fe3a… (all of the seat's roots in one cut). By AI agents, Wed Nov 11 2026. No macro, syntax, notation, axiom, sorry.
-/
import Derived.Test.YtfllkaeaanahmaaGreatChecked
import GoSem.Claim
import GoSem.ClaimJoined
import GoSem.ClaimMapViews
import Derived.JoinedTies
import Derived.KernelRfl
namespace Go.Proofs.YtfllkaeaanahmaaGreat
/- THE CELL 'sum', in the pinned program and in every row, IS THE sha256 OF THE DUMP (.gsa) THAT YtfllkaeaanahmaaGreatProg.lean LOADS. Nothing in Lean hashes anything: it is a label: what it is worth is what the hold of that sum in a sandbox is worth. -/
noncomputable def Tryz.pinned : Pinned := { name := "ytfllkaeaanahmaagreat", sum := "c34faca66b65fe3a66f094ade50fd611fd78c11c12e465afa59495f81510cd70", checked := Tryz.checked }
namespace Rows
def none {H : Type} : Left H := { results := [], args := [] }

/-- 'solventlaw34.ChargeMatchesSpec': WHATEVER THE INPUT: true; the input reads as it did. -/
def chargeMatchesSpecSpec : ChangeSpec := { name := "chargeMatchesSpec", fn := fun _ => fun
  | [d1, d2, d3, d4] => { results := [.lit (.bool true)], args := [d1, d2, d3, d4] }
  | _ => none }
def chargeMatchesSpecRow : OpenClaim := { program := "ytfllkaeaanahmaagreat", sum := "c34faca66b65fe3a66f094ade50fd611fd78c11c12e465afa59495f81510cd70", func := "solvent/solventlaw34.ChargeMatchesSpec", spec := "chargeMatchesSpec", inPlace := ["slices.overlaps[solvent/api.Chunk]", "slices.overlaps[solvent/api.Ref]"], unfollowed := true, recurses := true, plainKeys := false, apart := false }
def ChargeMatchesSpecSaid : Prop := chargeMatchesSpecRow.holds Tryz.pinned (OpenSpec.ofChange chargeMatchesSpecSpec)

/-- ITS FALSE NEIGHBOUR: 'it returns false'. Refute it at one input. -/
def chargeMatchesSpecWrong : ChangeSpec := { name := "chargeMatchesSpec", fn := fun _ => fun
  | [d1, d2, d3, d4] => { results := [.lit (.bool false)], args := [d1, d2, d3, d4] }
  | _ => none }
def ChargeMatchesSpecWrongFalsely : Prop := chargeMatchesSpecRow.holds Tryz.pinned (OpenSpec.ofChange chargeMatchesSpecWrong)

/-- 'solventlaw34.ChargePartsMatchSpec': WHATEVER THE INPUT: true; the input reads as it did. -/
def chargePartsMatchSpecSpec : ChangeSpec := { name := "chargePartsMatchSpec", fn := fun _ => fun
  | [d1, d2, d3, d4, d5] => { results := [.lit (.bool true)], args := [d1, d2, d3, d4, d5] }
  | _ => none }
def chargePartsMatchSpecRow : OpenClaim := { program := "ytfllkaeaanahmaagreat", sum := "c34faca66b65fe3a66f094ade50fd611fd78c11c12e465afa59495f81510cd70", func := "solvent/solventlaw34.ChargePartsMatchSpec", spec := "chargePartsMatchSpec", inPlace := ["slices.overlaps[solvent/api.Chunk]", "slices.overlaps[solvent/api.Ref]"], unfollowed := true, recurses := true, plainKeys := false, apart := false }
def ChargePartsMatchSpecSaid : Prop := chargePartsMatchSpecRow.holds Tryz.pinned (OpenSpec.ofChange chargePartsMatchSpecSpec)

/-- ITS FALSE NEIGHBOUR: 'it returns false'. Refute it at one input. -/
def chargePartsMatchSpecWrong : ChangeSpec := { name := "chargePartsMatchSpec", fn := fun _ => fun
  | [d1, d2, d3, d4, d5] => { results := [.lit (.bool false)], args := [d1, d2, d3, d4, d5] }
  | _ => none }
def ChargePartsMatchSpecWrongFalsely : Prop := chargePartsMatchSpecRow.holds Tryz.pinned (OpenSpec.ofChange chargePartsMatchSpecWrong)

/-- 'solventlaw34.ChargeSums': WHATEVER THE INPUT: true; the input reads as it did. -/
def chargeSumsSpec : ChangeSpec := { name := "chargeSums", fn := fun _ => fun
  | [d1, d2, d3, d4] => { results := [.lit (.bool true)], args := [d1, d2, d3, d4] }
  | _ => none }
def chargeSumsRow : OpenClaim := { program := "ytfllkaeaanahmaagreat", sum := "c34faca66b65fe3a66f094ade50fd611fd78c11c12e465afa59495f81510cd70", func := "solvent/solventlaw34.ChargeSums", spec := "chargeSums", inPlace := ["slices.overlaps[solvent/api.Chunk]", "slices.overlaps[solvent/api.Ref]"], unfollowed := true, recurses := true, plainKeys := false, apart := false }
def ChargeSumsSaid : Prop := chargeSumsRow.holds Tryz.pinned (OpenSpec.ofChange chargeSumsSpec)

/-- ITS FALSE NEIGHBOUR: 'it returns false'. Refute it at one input. -/
def chargeSumsWrong : ChangeSpec := { name := "chargeSums", fn := fun _ => fun
  | [d1, d2, d3, d4] => { results := [.lit (.bool false)], args := [d1, d2, d3, d4] }
  | _ => none }
def ChargeSumsWrongFalsely : Prop := chargeSumsRow.holds Tryz.pinned (OpenSpec.ofChange chargeSumsWrong)

/-- 'solventlaw34.ChargeStrangers': WHATEVER THE INPUT: true; the input reads as it did. -/
def chargeStrangersSpec : ChangeSpec := { name := "chargeStrangers", fn := fun _ => fun
  | [d1, d2, d3, d4, d5] => { results := [.lit (.bool true)], args := [d1, d2, d3, d4, d5] }
  | _ => none }
def chargeStrangersRow : OpenClaim := { program := "ytfllkaeaanahmaagreat", sum := "c34faca66b65fe3a66f094ade50fd611fd78c11c12e465afa59495f81510cd70", func := "solvent/solventlaw34.ChargeStrangers", spec := "chargeStrangers", inPlace := ["slices.overlaps[solvent/api.Chunk]", "slices.overlaps[solvent/api.Ref]"], unfollowed := true, recurses := true, plainKeys := false, apart := false }
def ChargeStrangersSaid : Prop := chargeStrangersRow.holds Tryz.pinned (OpenSpec.ofChange chargeStrangersSpec)

/-- ITS FALSE NEIGHBOUR: 'it returns false'. Refute it at one input. -/
def chargeStrangersWrong : ChangeSpec := { name := "chargeStrangers", fn := fun _ => fun
  | [d1, d2, d3, d4, d5] => { results := [.lit (.bool false)], args := [d1, d2, d3, d4, d5] }
  | _ => none }
def ChargeStrangersWrongFalsely : Prop := chargeStrangersRow.holds Tryz.pinned (OpenSpec.ofChange chargeStrangersWrong)

/-- 'solventlaw34.ChargeLocal': WHATEVER THE INPUT: true; the input reads as it did. -/
def chargeLocalSpec : ChangeSpec := { name := "chargeLocal", fn := fun _ => fun
  | [d1, d2, d3, d4, d5] => { results := [.lit (.bool true)], args := [d1, d2, d3, d4, d5] }
  | _ => none }
def chargeLocalRow : OpenClaim := { program := "ytfllkaeaanahmaagreat", sum := "c34faca66b65fe3a66f094ade50fd611fd78c11c12e465afa59495f81510cd70", func := "solvent/solventlaw34.ChargeLocal", spec := "chargeLocal", inPlace := ["slices.overlaps[solvent/api.Chunk]", "slices.overlaps[solvent/api.Ref]"], unfollowed := true, recurses := true, plainKeys := false, apart := false }
def ChargeLocalSaid : Prop := chargeLocalRow.holds Tryz.pinned (OpenSpec.ofChange chargeLocalSpec)

/-- ITS FALSE NEIGHBOUR: 'it returns false'. Refute it at one input. -/
def chargeLocalWrong : ChangeSpec := { name := "chargeLocal", fn := fun _ => fun
  | [d1, d2, d3, d4, d5] => { results := [.lit (.bool false)], args := [d1, d2, d3, d4, d5] }
  | _ => none }
def ChargeLocalWrongFalsely : Prop := chargeLocalRow.holds Tryz.pinned (OpenSpec.ofChange chargeLocalWrong)

/- THE SECOND FORM. 'bulk': how many values and letters a reading holds, each counted each time it is reached (what is shared counts as often as it is met; a slice's spare places count too). A statement '..UptoSaid' is the law's where the arguments, and the package variables that the reading takes, are together of bulk at most 1048576: NARROWER than '..Said'. Prove '..Said' where nothing that the law and all that it calls make is longer than what came in: it says more and counts as full. Else prove '..UptoSaid'. A law counts once. -/
mutual
def uptoBulk {H : Type} : DataW H → Nat
  | .lit (.string bytes) => bytes.length + 1
  | .lit _ => 1
  | .nil => 1
  | .ptr d => uptoBulk d + 1
  | .slice elems spare => uptoBulkAll elems + uptoBulkAll spare + 1
  | .agg parts => uptoBulkAll parts + 1
  | .iface _ d => uptoBulk d + 1
  | .map entries => uptoBulkEntries entries + 1
  | .held _ => 1
def uptoBulkAll {H : Type} : List (DataW H) → Nat
  | [] => 0
  | d :: r => uptoBulk d + uptoBulkAll r
def uptoBulkEntries {H : Type} : List (Lit × DataW H) → Nat
  | [] => 0
  | x :: r => uptoBulkEntry x + uptoBulkEntries r
def uptoBulkEntry {H : Type} : Lit × DataW H → Nat
  | (.string bytes, d) => bytes.length + uptoBulk d + 1
  | (_, d) => uptoBulk d + 1
 end
def uptoSmall : (H : Type) → List (DataW H) → Bool := fun _ ds => decide (uptoBulkAll ds ≤ 1048576)
def OpenSpec.upto (s : _root_.Go.ChangeSpec) : _root_.Go.OpenSpec := { _root_.Go.OpenSpec.ofChange s with cond := some uptoSmall }

/-- 'solventlaw34.ChargeMatchesSpec', WHERE WHAT IT READS IS OF BULK AT MOST 1048576: true; the input reads as it did. -/
def chargeMatchesSpecUptoRow : OpenClaim := { program := "ytfllkaeaanahmaagreat", sum := "c34faca66b65fe3a66f094ade50fd611fd78c11c12e465afa59495f81510cd70", func := "solvent/solventlaw34.ChargeMatchesSpec", spec := "chargeMatchesSpec", inPlace := ["slices.overlaps[solvent/api.Chunk]", "slices.overlaps[solvent/api.Ref]"], unfollowed := true, recurses := true, plainKeys := false, apart := false, narrowed := true }
def ChargeMatchesSpecUptoSaid : Prop := chargeMatchesSpecUptoRow.holds Tryz.pinned (OpenSpec.upto chargeMatchesSpecSpec)

/-- 'solventlaw34.ChargePartsMatchSpec', WHERE WHAT IT READS IS OF BULK AT MOST 1048576: true; the input reads as it did. -/
def chargePartsMatchSpecUptoRow : OpenClaim := { program := "ytfllkaeaanahmaagreat", sum := "c34faca66b65fe3a66f094ade50fd611fd78c11c12e465afa59495f81510cd70", func := "solvent/solventlaw34.ChargePartsMatchSpec", spec := "chargePartsMatchSpec", inPlace := ["slices.overlaps[solvent/api.Chunk]", "slices.overlaps[solvent/api.Ref]"], unfollowed := true, recurses := true, plainKeys := false, apart := false, narrowed := true }
def ChargePartsMatchSpecUptoSaid : Prop := chargePartsMatchSpecUptoRow.holds Tryz.pinned (OpenSpec.upto chargePartsMatchSpecSpec)

/-- 'solventlaw34.ChargeSums', WHERE WHAT IT READS IS OF BULK AT MOST 1048576: true; the input reads as it did. -/
def chargeSumsUptoRow : OpenClaim := { program := "ytfllkaeaanahmaagreat", sum := "c34faca66b65fe3a66f094ade50fd611fd78c11c12e465afa59495f81510cd70", func := "solvent/solventlaw34.ChargeSums", spec := "chargeSums", inPlace := ["slices.overlaps[solvent/api.Chunk]", "slices.overlaps[solvent/api.Ref]"], unfollowed := true, recurses := true, plainKeys := false, apart := false, narrowed := true }
def ChargeSumsUptoSaid : Prop := chargeSumsUptoRow.holds Tryz.pinned (OpenSpec.upto chargeSumsSpec)

/-- 'solventlaw34.ChargeStrangers', WHERE WHAT IT READS IS OF BULK AT MOST 1048576: true; the input reads as it did. -/
def chargeStrangersUptoRow : OpenClaim := { program := "ytfllkaeaanahmaagreat", sum := "c34faca66b65fe3a66f094ade50fd611fd78c11c12e465afa59495f81510cd70", func := "solvent/solventlaw34.ChargeStrangers", spec := "chargeStrangers", inPlace := ["slices.overlaps[solvent/api.Chunk]", "slices.overlaps[solvent/api.Ref]"], unfollowed := true, recurses := true, plainKeys := false, apart := false, narrowed := true }
def ChargeStrangersUptoSaid : Prop := chargeStrangersUptoRow.holds Tryz.pinned (OpenSpec.upto chargeStrangersSpec)

/-- 'solventlaw34.ChargeLocal', WHERE WHAT IT READS IS OF BULK AT MOST 1048576: true; the input reads as it did. -/
def chargeLocalUptoRow : OpenClaim := { program := "ytfllkaeaanahmaagreat", sum := "c34faca66b65fe3a66f094ade50fd611fd78c11c12e465afa59495f81510cd70", func := "solvent/solventlaw34.ChargeLocal", spec := "chargeLocal", inPlace := ["slices.overlaps[solvent/api.Chunk]", "slices.overlaps[solvent/api.Ref]"], unfollowed := true, recurses := true, plainKeys := false, apart := false, narrowed := true }
def ChargeLocalUptoSaid : Prop := chargeLocalUptoRow.holds Tryz.pinned (OpenSpec.upto chargeLocalSpec)

end Rows
end Go.Proofs.YtfllkaeaanahmaaGreat
