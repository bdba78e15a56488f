/-
  No cell of these rows narrows 'for every input' (looked for: loops, veiled, ifaces, maps, wideKeys, modest, calm, conditions, laid).
  DERIVED. THE GIVEN ROWS OF THIS SEAT. 6 by the template 'for every input the law returns true; each argument reads behind the call as it read before'; 0 by the template 'total and deterministic' (their statements: YtnehbcopbioenaaTotals.lean).
  GIVEN WITH THE SEED: the statements are not yours to turn. If you find one false, say at which input.
  Laid BY PROGRAM, IN A SANDBOX (cutbox-rows.mjs): the forced cells as the released guide's own fill.sh prints them over the translation 3da6f9c4a2544bb6… (all of the seat's roots in one cut). By AI agents, Wed Nov 11 2026. No macro, syntax, notation, axiom, sorry.
-/
import Derived.Test.YtnehbcopbioenaaChecked
import GoSem.Claim
import GoSem.ClaimJoined
import GoSem.ClaimMapViews
import Derived.JoinedTies
import Derived.KernelRfl
namespace Go.Proofs.Ytnehbcopbioenaa
/- THE CELL 'sum', in the pinned program and in every row, IS THE sha256 OF THE DUMP (.gsa) THAT YtnehbcopbioenaaProg.lean LOADS. Nothing in Lean hashes anything: it is a label: what it is worth is what the hold of that sum in a sandbox is worth. -/
noncomputable def Try.pinned : Pinned := { name := "ytnehbcopbioenaa", sum := "3da6f9c4a2544bb619c25b873a1e02e05290bb407877a057334d45bf72f26647", checked := Try.checked }
namespace Rows
def none {H : Type} : Left H := { results := [], args := [] }

/-- 'solventlaw23.IndexIncludes': WHATEVER THE INPUT: true; the input reads as it did. -/
def indexIncludesSpec : ChangeSpec := { name := "indexIncludes", fn := fun _ => fun
  | [d1, d2, d3] => { results := [.lit (.bool true)], args := [d1, d2, d3] }
  | _ => none }
def indexIncludesRow : OpenClaim := { program := "ytnehbcopbioenaa", sum := "3da6f9c4a2544bb619c25b873a1e02e05290bb407877a057334d45bf72f26647", func := "solvent/solventlaw23.IndexIncludes", spec := "indexIncludes", unfollowed := true, recurses := true, apart := false }
def IndexIncludesSaid : Prop := indexIncludesRow.holds Try.pinned (OpenSpec.ofChange indexIncludesSpec)

/-- ITS FALSE NEIGHBOUR: 'it returns false'. Refute it at one input. -/
def indexIncludesWrong : ChangeSpec := { name := "indexIncludes", fn := fun _ => fun
  | [d1, d2, d3] => { results := [.lit (.bool false)], args := [d1, d2, d3] }
  | _ => none }
def IndexIncludesWrongFalsely : Prop := indexIncludesRow.holds Try.pinned (OpenSpec.ofChange indexIncludesWrong)

/-- 'solventlaw23.IndexKeepsTheLatest': WHATEVER THE INPUT: true; the input reads as it did. -/
def indexKeepsTheLatestSpec : ChangeSpec := { name := "indexKeepsTheLatest", fn := fun _ => fun
  | [d1, d2] => { results := [.lit (.bool true)], args := [d1, d2] }
  | _ => none }
def indexKeepsTheLatestRow : OpenClaim := { program := "ytnehbcopbioenaa", sum := "3da6f9c4a2544bb619c25b873a1e02e05290bb407877a057334d45bf72f26647", func := "solvent/solventlaw23.IndexKeepsTheLatest", spec := "indexKeepsTheLatest", unfollowed := true, recurses := true, apart := false }
def IndexKeepsTheLatestSaid : Prop := indexKeepsTheLatestRow.holds Try.pinned (OpenSpec.ofChange indexKeepsTheLatestSpec)

/-- ITS FALSE NEIGHBOUR: 'it returns false'. Refute it at one input. -/
def indexKeepsTheLatestWrong : ChangeSpec := { name := "indexKeepsTheLatest", fn := fun _ => fun
  | [d1, d2] => { results := [.lit (.bool false)], args := [d1, d2] }
  | _ => none }
def IndexKeepsTheLatestWrongFalsely : Prop := indexKeepsTheLatestRow.holds Try.pinned (OpenSpec.ofChange indexKeepsTheLatestWrong)

/-- 'solventlaw23.IndexEvictsTheOldest': WHATEVER THE INPUT: true; the input reads as it did. -/
def indexEvictsTheOldestSpec : ChangeSpec := { name := "indexEvictsTheOldest", fn := fun _ => fun
  | [d1, d2, d3] => { results := [.lit (.bool true)], args := [d1, d2, d3] }
  | _ => none }
def indexEvictsTheOldestRow : OpenClaim := { program := "ytnehbcopbioenaa", sum := "3da6f9c4a2544bb619c25b873a1e02e05290bb407877a057334d45bf72f26647", func := "solvent/solventlaw23.IndexEvictsTheOldest", spec := "indexEvictsTheOldest", unfollowed := true, recurses := true, apart := false }
def IndexEvictsTheOldestSaid : Prop := indexEvictsTheOldestRow.holds Try.pinned (OpenSpec.ofChange indexEvictsTheOldestSpec)

/-- ITS FALSE NEIGHBOUR: 'it returns false'. Refute it at one input. -/
def indexEvictsTheOldestWrong : ChangeSpec := { name := "indexEvictsTheOldest", fn := fun _ => fun
  | [d1, d2, d3] => { results := [.lit (.bool false)], args := [d1, d2, d3] }
  | _ => none }
def IndexEvictsTheOldestWrongFalsely : Prop := indexEvictsTheOldestRow.holds Try.pinned (OpenSpec.ofChange indexEvictsTheOldestWrong)

/-- 'solventlaw23.IndexPlays': WHATEVER THE INPUT: true; the input reads as it did. -/
def indexPlaysSpec : ChangeSpec := { name := "indexPlays", fn := fun _ => fun
  | [d1, d2, d3] => { results := [.lit (.bool true)], args := [d1, d2, d3] }
  | _ => none }
def indexPlaysRow : OpenClaim := { program := "ytnehbcopbioenaa", sum := "3da6f9c4a2544bb619c25b873a1e02e05290bb407877a057334d45bf72f26647", func := "solvent/solventlaw23.IndexPlays", spec := "indexPlays", unfollowed := true, recurses := true, apart := false }
def IndexPlaysSaid : Prop := indexPlaysRow.holds Try.pinned (OpenSpec.ofChange indexPlaysSpec)

/-- ITS FALSE NEIGHBOUR: 'it returns false'. Refute it at one input. -/
def indexPlaysWrong : ChangeSpec := { name := "indexPlays", fn := fun _ => fun
  | [d1, d2, d3] => { results := [.lit (.bool false)], args := [d1, d2, d3] }
  | _ => none }
def IndexPlaysWrongFalsely : Prop := indexPlaysRow.holds Try.pinned (OpenSpec.ofChange indexPlaysWrong)

/-- 'solventlaw23.IndexEncodes': WHATEVER THE INPUT: true; the input reads as it did. -/
def indexEncodesSpec : ChangeSpec := { name := "indexEncodes", fn := fun _ => fun
  | [d1, d2] => { results := [.lit (.bool true)], args := [d1, d2] }
  | _ => none }
def indexEncodesRow : OpenClaim := { program := "ytnehbcopbioenaa", sum := "3da6f9c4a2544bb619c25b873a1e02e05290bb407877a057334d45bf72f26647", func := "solvent/solventlaw23.IndexEncodes", spec := "indexEncodes", unfollowed := true, recurses := true, apart := false }
def IndexEncodesSaid : Prop := indexEncodesRow.holds Try.pinned (OpenSpec.ofChange indexEncodesSpec)

/-- ITS FALSE NEIGHBOUR: 'it returns false'. Refute it at one input. -/
def indexEncodesWrong : ChangeSpec := { name := "indexEncodes", fn := fun _ => fun
  | [d1, d2] => { results := [.lit (.bool false)], args := [d1, d2] }
  | _ => none }
def IndexEncodesWrongFalsely : Prop := indexEncodesRow.holds Try.pinned (OpenSpec.ofChange indexEncodesWrong)

/-- 'solventlaw23.IndexDecodeMatchesSpec': WHATEVER THE INPUT: true; the input reads as it did. -/
def indexDecodeMatchesSpecSpec : ChangeSpec := { name := "indexDecodeMatchesSpec", fn := fun _ => fun
  | [d] => { results := [.lit (.bool true)], args := [d] }
  | _ => none }
def indexDecodeMatchesSpecRow : OpenClaim := { program := "ytnehbcopbioenaa", sum := "3da6f9c4a2544bb619c25b873a1e02e05290bb407877a057334d45bf72f26647", func := "solvent/solventlaw23.IndexDecodeMatchesSpec", spec := "indexDecodeMatchesSpec", unfollowed := true, recurses := true, apart := false }
def IndexDecodeMatchesSpecSaid : Prop := indexDecodeMatchesSpecRow.holds Try.pinned (OpenSpec.ofChange indexDecodeMatchesSpecSpec)

/-- ITS FALSE NEIGHBOUR: 'it returns false'. Refute it at one input. -/
def indexDecodeMatchesSpecWrong : ChangeSpec := { name := "indexDecodeMatchesSpec", fn := fun _ => fun
  | [d] => { results := [.lit (.bool false)], args := [d] }
  | _ => none }
def IndexDecodeMatchesSpecWrongFalsely : Prop := indexDecodeMatchesSpecRow.holds Try.pinned (OpenSpec.ofChange indexDecodeMatchesSpecWrong)

/- THE SECOND FORM. 'bulk': how many values and letters a reading holds, each counted each time it is reached (what is shared counts as often as it is met; a slice's spare places count too). A statement '..UptoSaid' is the law's where the arguments, and the package variables that the reading takes, are together of bulk at most 1048576: NARROWER than '..Said'. Prove '..Said' where nothing that the law and all that it calls make is longer than what came in: it says more and counts as full. Else prove '..UptoSaid'. A law counts once. -/
mutual
def uptoBulk {H : Type} : DataW H → Nat
  | .lit (.string bytes) => bytes.length + 1
  | .lit _ => 1
  | .nil => 1
  | .ptr d => uptoBulk d + 1
  | .slice elems spare => uptoBulkAll elems + uptoBulkAll spare + 1
  | .agg parts => uptoBulkAll parts + 1
  | .iface _ d => uptoBulk d + 1
  | .map entries => uptoBulkEntries entries + 1
  | .held _ => 1
def uptoBulkAll {H : Type} : List (DataW H) → Nat
  | [] => 0
  | d :: r => uptoBulk d + uptoBulkAll r
def uptoBulkEntries {H : Type} : List (Lit × DataW H) → Nat
  | [] => 0
  | x :: r => uptoBulkEntry x + uptoBulkEntries r
def uptoBulkEntry {H : Type} : Lit × DataW H → Nat
  | (.string bytes, d) => bytes.length + uptoBulk d + 1
  | (_, d) => uptoBulk d + 1
 end
def uptoSmall : (H : Type) → List (DataW H) → Bool := fun _ ds => decide (uptoBulkAll ds ≤ 1048576)
def OpenSpec.upto (s : _root_.Go.ChangeSpec) : _root_.Go.OpenSpec := { _root_.Go.OpenSpec.ofChange s with cond := some uptoSmall }

/-- 'solventlaw23.IndexIncludes', WHERE WHAT IT READS IS OF BULK AT MOST 1048576: true; the input reads as it did. -/
def indexIncludesUptoRow : OpenClaim := { program := "ytnehbcopbioenaa", sum := "3da6f9c4a2544bb619c25b873a1e02e05290bb407877a057334d45bf72f26647", func := "solvent/solventlaw23.IndexIncludes", spec := "indexIncludes", unfollowed := true, recurses := true, apart := false, narrowed := true }
def IndexIncludesUptoSaid : Prop := indexIncludesUptoRow.holds Try.pinned (OpenSpec.upto indexIncludesSpec)

/-- 'solventlaw23.IndexKeepsTheLatest', WHERE WHAT IT READS IS OF BULK AT MOST 1048576: true; the input reads as it did. -/
def indexKeepsTheLatestUptoRow : OpenClaim := { program := "ytnehbcopbioenaa", sum := "3da6f9c4a2544bb619c25b873a1e02e05290bb407877a057334d45bf72f26647", func := "solvent/solventlaw23.IndexKeepsTheLatest", spec := "indexKeepsTheLatest", unfollowed := true, recurses := true, apart := false, narrowed := true }
def IndexKeepsTheLatestUptoSaid : Prop := indexKeepsTheLatestUptoRow.holds Try.pinned (OpenSpec.upto indexKeepsTheLatestSpec)

/-- 'solventlaw23.IndexEvictsTheOldest', WHERE WHAT IT READS IS OF BULK AT MOST 1048576: true; the input reads as it did. -/
def indexEvictsTheOldestUptoRow : OpenClaim := { program := "ytnehbcopbioenaa", sum := "3da6f9c4a2544bb619c25b873a1e02e05290bb407877a057334d45bf72f26647", func := "solvent/solventlaw23.IndexEvictsTheOldest", spec := "indexEvictsTheOldest", unfollowed := true, recurses := true, apart := false, narrowed := true }
def IndexEvictsTheOldestUptoSaid : Prop := indexEvictsTheOldestUptoRow.holds Try.pinned (OpenSpec.upto indexEvictsTheOldestSpec)

/-- 'solventlaw23.IndexPlays', WHERE WHAT IT READS IS OF BULK AT MOST 1048576: true; the input reads as it did. -/
def indexPlaysUptoRow : OpenClaim := { program := "ytnehbcopbioenaa", sum := "3da6f9c4a2544bb619c25b873a1e02e05290bb407877a057334d45bf72f26647", func := "solvent/solventlaw23.IndexPlays", spec := "indexPlays", unfollowed := true, recurses := true, apart := false, narrowed := true }
def IndexPlaysUptoSaid : Prop := indexPlaysUptoRow.holds Try.pinned (OpenSpec.upto indexPlaysSpec)

/-- 'solventlaw23.IndexEncodes', WHERE WHAT IT READS IS OF BULK AT MOST 1048576: true; the input reads as it did. -/
def indexEncodesUptoRow : OpenClaim := { program := "ytnehbcopbioenaa", sum := "3da6f9c4a2544bb619c25b873a1e02e05290bb407877a057334d45bf72f26647", func := "solvent/solventlaw23.IndexEncodes", spec := "indexEncodes", unfollowed := true, recurses := true, apart := false, narrowed := true }
def IndexEncodesUptoSaid : Prop := indexEncodesUptoRow.holds Try.pinned (OpenSpec.upto indexEncodesSpec)

/-- 'solventlaw23.IndexDecodeMatchesSpec', WHERE WHAT IT READS IS OF BULK AT MOST 1048576: true; the input reads as it did. -/
def indexDecodeMatchesSpecUptoRow : OpenClaim := { program := "ytnehbcopbioenaa", sum := "3da6f9c4a2544bb619c25b873a1e02e05290bb407877a057334d45bf72f26647", func := "solvent/solventlaw23.IndexDecodeMatchesSpec", spec := "indexDecodeMatchesSpec", unfollowed := true, recurses := true, apart := false, narrowed := true }
def IndexDecodeMatchesSpecUptoSaid : Prop := indexDecodeMatchesSpecUptoRow.holds Try.pinned (OpenSpec.upto indexDecodeMatchesSpecSpec)

end Rows
end Go.Proofs.Ytnehbcopbioenaa
