/-
  No cell of these rows narrows 'for every input' (looked for: loops, veiled, ifaces, maps, wideKeys, modest, calm, conditions, laid).
  DERIVED. THE GIVEN ROWS OF THIS SEAT. 5 by the template 'for every input the law returns true; each argument reads behind the call as it read before'; 0 by the template 'total and deterministic' (their statements: YtegjfobanjkimaaTotals.lean).
  GIVEN WITH THE SEED: the statements are not yours to turn. If you find one false, say at which input.
  Laid BY PROGRAM, IN A SANDBOX (cutbox-rows.mjs): the forced cells as the released guide's own fill.sh prints them over the translation 6d119e4ea74c9231… (all of the seat's roots in one cut). By AI agents, Wed Nov 11 2026. No macro, syntax, notation, axiom, sorry.
-/
import Derived.Test.YtegjfobanjkimaaChecked
import GoSem.Claim
import GoSem.ClaimJoined
import GoSem.ClaimMapViews
import Derived.JoinedTies
import Derived.KernelRfl
namespace Go.Proofs.Ytegjfobanjkimaa
/- THE CELL 'sum', in the pinned program and in every row, IS THE sha256 OF THE DUMP (.gsa) THAT YtegjfobanjkimaaProg.lean LOADS. Nothing in Lean hashes anything: it is a label: what it is worth is what the hold of that sum in a sandbox is worth. -/
noncomputable def Try.pinned : Pinned := { name := "ytegjfobanjkimaa", sum := "6d119e4ea74c9231962bee2ff3e1951b060495992b8d174abd34a699e3970330", checked := Try.checked }
namespace Rows
def none {H : Type} : Left H := { results := [], args := [] }

/-- 'solventlaw33.SplitMatchesSpec': WHATEVER THE INPUT: true; the input reads as it did. -/
def splitMatchesSpecSpec : ChangeSpec := { name := "splitMatchesSpec", fn := fun _ => fun
  | [d1, d2, d3] => { results := [.lit (.bool true)], args := [d1, d2, d3] }
  | _ => none }
def splitMatchesSpecRow : OpenClaim := { program := "ytegjfobanjkimaa", sum := "6d119e4ea74c9231962bee2ff3e1951b060495992b8d174abd34a699e3970330", func := "solvent/solventlaw33.SplitMatchesSpec", spec := "splitMatchesSpec", unfollowed := true, recurses := true, apart := false }
def SplitMatchesSpecSaid : Prop := splitMatchesSpecRow.holds Try.pinned (OpenSpec.ofChange splitMatchesSpecSpec)

/-- ITS FALSE NEIGHBOUR: 'it returns false'. Refute it at one input. -/
def splitMatchesSpecWrong : ChangeSpec := { name := "splitMatchesSpec", fn := fun _ => fun
  | [d1, d2, d3] => { results := [.lit (.bool false)], args := [d1, d2, d3] }
  | _ => none }
def SplitMatchesSpecWrongFalsely : Prop := splitMatchesSpecRow.holds Try.pinned (OpenSpec.ofChange splitMatchesSpecWrong)

/-- 'solventlaw33.SplitSums': WHATEVER THE INPUT: true; the input reads as it did. -/
def splitSumsSpec : ChangeSpec := { name := "splitSums", fn := fun _ => fun
  | [d1, d2, d3] => { results := [.lit (.bool true)], args := [d1, d2, d3] }
  | _ => none }
def splitSumsRow : OpenClaim := { program := "ytegjfobanjkimaa", sum := "6d119e4ea74c9231962bee2ff3e1951b060495992b8d174abd34a699e3970330", func := "solvent/solventlaw33.SplitSums", spec := "splitSums", unfollowed := true, recurses := true, apart := false }
def SplitSumsSaid : Prop := splitSumsRow.holds Try.pinned (OpenSpec.ofChange splitSumsSpec)

/-- ITS FALSE NEIGHBOUR: 'it returns false'. Refute it at one input. -/
def splitSumsWrong : ChangeSpec := { name := "splitSums", fn := fun _ => fun
  | [d1, d2, d3] => { results := [.lit (.bool false)], args := [d1, d2, d3] }
  | _ => none }
def SplitSumsWrongFalsely : Prop := splitSumsRow.holds Try.pinned (OpenSpec.ofChange splitSumsWrong)

/-- 'solventlaw33.SplitProportional': WHATEVER THE INPUT: true; the input reads as it did. -/
def splitProportionalSpec : ChangeSpec := { name := "splitProportional", fn := fun _ => fun
  | [d1, d2] => { results := [.lit (.bool true)], args := [d1, d2] }
  | _ => none }
def splitProportionalRow : OpenClaim := { program := "ytegjfobanjkimaa", sum := "6d119e4ea74c9231962bee2ff3e1951b060495992b8d174abd34a699e3970330", func := "solvent/solventlaw33.SplitProportional", spec := "splitProportional", unfollowed := true, recurses := true, apart := false }
def SplitProportionalSaid : Prop := splitProportionalRow.holds Try.pinned (OpenSpec.ofChange splitProportionalSpec)

/-- ITS FALSE NEIGHBOUR: 'it returns false'. Refute it at one input. -/
def splitProportionalWrong : ChangeSpec := { name := "splitProportional", fn := fun _ => fun
  | [d1, d2] => { results := [.lit (.bool false)], args := [d1, d2] }
  | _ => none }
def SplitProportionalWrongFalsely : Prop := splitProportionalRow.holds Try.pinned (OpenSpec.ofChange splitProportionalWrong)

/-- 'solventlaw33.SplitMonotone': WHATEVER THE INPUT: true; the input reads as it did. -/
def splitMonotoneSpec : ChangeSpec := { name := "splitMonotone", fn := fun _ => fun
  | [d1, d2, d3, d4] => { results := [.lit (.bool true)], args := [d1, d2, d3, d4] }
  | _ => none }
def splitMonotoneRow : OpenClaim := { program := "ytegjfobanjkimaa", sum := "6d119e4ea74c9231962bee2ff3e1951b060495992b8d174abd34a699e3970330", func := "solvent/solventlaw33.SplitMonotone", spec := "splitMonotone", unfollowed := true, recurses := true, apart := false }
def SplitMonotoneSaid : Prop := splitMonotoneRow.holds Try.pinned (OpenSpec.ofChange splitMonotoneSpec)

/-- ITS FALSE NEIGHBOUR: 'it returns false'. Refute it at one input. -/
def splitMonotoneWrong : ChangeSpec := { name := "splitMonotone", fn := fun _ => fun
  | [d1, d2, d3, d4] => { results := [.lit (.bool false)], args := [d1, d2, d3, d4] }
  | _ => none }
def SplitMonotoneWrongFalsely : Prop := splitMonotoneRow.holds Try.pinned (OpenSpec.ofChange splitMonotoneWrong)

/-- 'solventlaw33.SplitEqual': WHATEVER THE INPUT: true; the input reads as it did. -/
def splitEqualSpec : ChangeSpec := { name := "splitEqual", fn := fun _ => fun
  | [d1, d2, d3] => { results := [.lit (.bool true)], args := [d1, d2, d3] }
  | _ => none }
def splitEqualRow : OpenClaim := { program := "ytegjfobanjkimaa", sum := "6d119e4ea74c9231962bee2ff3e1951b060495992b8d174abd34a699e3970330", func := "solvent/solventlaw33.SplitEqual", spec := "splitEqual", unfollowed := true, recurses := true, apart := false }
def SplitEqualSaid : Prop := splitEqualRow.holds Try.pinned (OpenSpec.ofChange splitEqualSpec)

/-- ITS FALSE NEIGHBOUR: 'it returns false'. Refute it at one input. -/
def splitEqualWrong : ChangeSpec := { name := "splitEqual", fn := fun _ => fun
  | [d1, d2, d3] => { results := [.lit (.bool false)], args := [d1, d2, d3] }
  | _ => none }
def SplitEqualWrongFalsely : Prop := splitEqualRow.holds Try.pinned (OpenSpec.ofChange splitEqualWrong)

/- THE SECOND FORM. 'bulk': how many values and letters a reading holds, each counted each time it is reached (what is shared counts as often as it is met; a slice's spare places count too). A statement '..UptoSaid' is the law's where the arguments, and the package variables that the reading takes, are together of bulk at most 1048576: NARROWER than '..Said'. Prove '..Said' where nothing that the law and all that it calls make is longer than what came in: it says more and counts as full. Else prove '..UptoSaid'. A law counts once. -/
mutual
def uptoBulk {H : Type} : DataW H → Nat
  | .lit (.string bytes) => bytes.length + 1
  | .lit _ => 1
  | .nil => 1
  | .ptr d => uptoBulk d + 1
  | .slice elems spare => uptoBulkAll elems + uptoBulkAll spare + 1
  | .agg parts => uptoBulkAll parts + 1
  | .iface _ d => uptoBulk d + 1
  | .map entries => uptoBulkEntries entries + 1
  | .held _ => 1
def uptoBulkAll {H : Type} : List (DataW H) → Nat
  | [] => 0
  | d :: r => uptoBulk d + uptoBulkAll r
def uptoBulkEntries {H : Type} : List (Lit × DataW H) → Nat
  | [] => 0
  | x :: r => uptoBulkEntry x + uptoBulkEntries r
def uptoBulkEntry {H : Type} : Lit × DataW H → Nat
  | (.string bytes, d) => bytes.length + uptoBulk d + 1
  | (_, d) => uptoBulk d + 1
 end
def uptoSmall : (H : Type) → List (DataW H) → Bool := fun _ ds => decide (uptoBulkAll ds ≤ 1048576)
def OpenSpec.upto (s : _root_.Go.ChangeSpec) : _root_.Go.OpenSpec := { _root_.Go.OpenSpec.ofChange s with cond := some uptoSmall }

/-- 'solventlaw33.SplitMatchesSpec', WHERE WHAT IT READS IS OF BULK AT MOST 1048576: true; the input reads as it did. -/
def splitMatchesSpecUptoRow : OpenClaim := { program := "ytegjfobanjkimaa", sum := "6d119e4ea74c9231962bee2ff3e1951b060495992b8d174abd34a699e3970330", func := "solvent/solventlaw33.SplitMatchesSpec", spec := "splitMatchesSpec", unfollowed := true, recurses := true, apart := false, narrowed := true }
def SplitMatchesSpecUptoSaid : Prop := splitMatchesSpecUptoRow.holds Try.pinned (OpenSpec.upto splitMatchesSpecSpec)

/-- 'solventlaw33.SplitSums', WHERE WHAT IT READS IS OF BULK AT MOST 1048576: true; the input reads as it did. -/
def splitSumsUptoRow : OpenClaim := { program := "ytegjfobanjkimaa", sum := "6d119e4ea74c9231962bee2ff3e1951b060495992b8d174abd34a699e3970330", func := "solvent/solventlaw33.SplitSums", spec := "splitSums", unfollowed := true, recurses := true, apart := false, narrowed := true }
def SplitSumsUptoSaid : Prop := splitSumsUptoRow.holds Try.pinned (OpenSpec.upto splitSumsSpec)

/-- 'solventlaw33.SplitProportional', WHERE WHAT IT READS IS OF BULK AT MOST 1048576: true; the input reads as it did. -/
def splitProportionalUptoRow : OpenClaim := { program := "ytegjfobanjkimaa", sum := "6d119e4ea74c9231962bee2ff3e1951b060495992b8d174abd34a699e3970330", func := "solvent/solventlaw33.SplitProportional", spec := "splitProportional", unfollowed := true, recurses := true, apart := false, narrowed := true }
def SplitProportionalUptoSaid : Prop := splitProportionalUptoRow.holds Try.pinned (OpenSpec.upto splitProportionalSpec)

/-- 'solventlaw33.SplitMonotone', WHERE WHAT IT READS IS OF BULK AT MOST 1048576: true; the input reads as it did. -/
def splitMonotoneUptoRow : OpenClaim := { program := "ytegjfobanjkimaa", sum := "6d119e4ea74c9231962bee2ff3e1951b060495992b8d174abd34a699e3970330", func := "solvent/solventlaw33.SplitMonotone", spec := "splitMonotone", unfollowed := true, recurses := true, apart := false, narrowed := true }
def SplitMonotoneUptoSaid : Prop := splitMonotoneUptoRow.holds Try.pinned (OpenSpec.upto splitMonotoneSpec)

/-- 'solventlaw33.SplitEqual', WHERE WHAT IT READS IS OF BULK AT MOST 1048576: true; the input reads as it did. -/
def splitEqualUptoRow : OpenClaim := { program := "ytegjfobanjkimaa", sum := "6d119e4ea74c9231962bee2ff3e1951b060495992b8d174abd34a699e3970330", func := "solvent/solventlaw33.SplitEqual", spec := "splitEqual", unfollowed := true, recurses := true, apart := false, narrowed := true }
def SplitEqualUptoSaid : Prop := splitEqualUptoRow.holds Try.pinned (OpenSpec.upto splitEqualSpec)

end Rows
end Go.Proofs.Ytegjfobanjkimaa
