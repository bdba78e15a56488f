/-
  No cell of these rows narrows 'for every input' (looked for: loops, veiled, ifaces, maps, wideKeys, modest, calm, conditions, laid).
  DERIVED. THE GIVEN ROWS OF THIS SEAT. 8 by the template 'for every input the law returns true; each argument reads behind the call as it read before'; 0 by the template 'total and deterministic' (their statements: YtcicfneekmbamaaTotals.lean).
  GIVEN WITH THE SEED: the statements are not yours to turn. If you find one false, say at which input.
  Laid BY PROGRAM, IN A SANDBOX (cutbox-rows.mjs): the forced cells as the released guide's own fill.sh prints them over the translation b861f956db9e233c… (all of the seat's roots in one cut). By AI agents, Wed Nov 11 2026. No macro, syntax, notation, axiom, sorry.
-/
import Derived.Test.YtcicfneekmbamaaChecked
import GoSem.Claim
import GoSem.ClaimJoined
import GoSem.ClaimMapViews
import Derived.JoinedTies
import Derived.KernelRfl
namespace Go.Proofs.Ytcicfneekmbamaa
/- THE CELL 'sum', in the pinned program and in every row, IS THE sha256 OF THE DUMP (.gsa) THAT YtcicfneekmbamaaProg.lean LOADS. Nothing in Lean hashes anything: it is a label: what it is worth is what the hold of that sum in a sandbox is worth. -/
noncomputable def Try.pinned : Pinned := { name := "ytcicfneekmbamaa", sum := "b861f956db9e233c84750c059475cba386728dbe6f03627db9f962431a01f4c9", checked := Try.checked }
namespace Rows
def none {H : Type} : Left H := { results := [], args := [] }

/-- 'solventlaw22.ChunksQueries': WHATEVER THE INPUT: true; the input reads as it did. -/
def chunksQueriesSpec : ChangeSpec := { name := "chunksQueries", fn := fun _ => fun
  | [d1, d2, d3, d4, d5] => { results := [.lit (.bool true)], args := [d1, d2, d3, d4, d5] }
  | _ => none }
def chunksQueriesRow : OpenClaim := { program := "ytcicfneekmbamaa", sum := "b861f956db9e233c84750c059475cba386728dbe6f03627db9f962431a01f4c9", func := "solvent/solventlaw22.ChunksQueries", spec := "chunksQueries", inPlace := ["slices.overlaps[solvent/api.Chunk]", "slices.overlaps[solvent/api.Ref]"], unfollowed := true, recurses := true, plainKeys := false, apart := false }
def ChunksQueriesSaid : Prop := chunksQueriesRow.holds Try.pinned (OpenSpec.ofChange chunksQueriesSpec)

/-- ITS FALSE NEIGHBOUR: 'it returns false'. Refute it at one input. -/
def chunksQueriesWrong : ChangeSpec := { name := "chunksQueries", fn := fun _ => fun
  | [d1, d2, d3, d4, d5] => { results := [.lit (.bool false)], args := [d1, d2, d3, d4, d5] }
  | _ => none }
def ChunksQueriesWrongFalsely : Prop := chunksQueriesRow.holds Try.pinned (OpenSpec.ofChange chunksQueriesWrong)

/-- 'solventlaw22.ChunksCounts': WHATEVER THE INPUT: true; the input reads as it did. -/
def chunksCountsSpec : ChangeSpec := { name := "chunksCounts", fn := fun _ => fun
  | [d] => { results := [.lit (.bool true)], args := [d] }
  | _ => none }
def chunksCountsRow : OpenClaim := { program := "ytcicfneekmbamaa", sum := "b861f956db9e233c84750c059475cba386728dbe6f03627db9f962431a01f4c9", func := "solvent/solventlaw22.ChunksCounts", spec := "chunksCounts", inPlace := ["slices.overlaps[solvent/api.Chunk]", "slices.overlaps[solvent/api.Ref]"], unfollowed := true, recurses := true, plainKeys := false, apart := false }
def ChunksCountsSaid : Prop := chunksCountsRow.holds Try.pinned (OpenSpec.ofChange chunksCountsSpec)

/-- ITS FALSE NEIGHBOUR: 'it returns false'. Refute it at one input. -/
def chunksCountsWrong : ChangeSpec := { name := "chunksCounts", fn := fun _ => fun
  | [d] => { results := [.lit (.bool false)], args := [d] }
  | _ => none }
def ChunksCountsWrongFalsely : Prop := chunksCountsRow.holds Try.pinned (OpenSpec.ofChange chunksCountsWrong)

/-- 'solventlaw22.ChunksMatchSpec': WHATEVER THE INPUT: true; the input reads as it did. -/
def chunksMatchSpecSpec : ChangeSpec := { name := "chunksMatchSpec", fn := fun _ => fun
  | [d] => { results := [.lit (.bool true)], args := [d] }
  | _ => none }
def chunksMatchSpecRow : OpenClaim := { program := "ytcicfneekmbamaa", sum := "b861f956db9e233c84750c059475cba386728dbe6f03627db9f962431a01f4c9", func := "solvent/solventlaw22.ChunksMatchSpec", spec := "chunksMatchSpec", inPlace := ["slices.overlaps[solvent/api.Chunk]", "slices.overlaps[solvent/api.Ref]"], unfollowed := true, recurses := true, plainKeys := false, apart := false }
def ChunksMatchSpecSaid : Prop := chunksMatchSpecRow.holds Try.pinned (OpenSpec.ofChange chunksMatchSpecSpec)

/-- ITS FALSE NEIGHBOUR: 'it returns false'. Refute it at one input. -/
def chunksMatchSpecWrong : ChangeSpec := { name := "chunksMatchSpec", fn := fun _ => fun
  | [d] => { results := [.lit (.bool false)], args := [d] }
  | _ => none }
def ChunksMatchSpecWrongFalsely : Prop := chunksMatchSpecRow.holds Try.pinned (OpenSpec.ofChange chunksMatchSpecWrong)

/-- 'solventlaw22.ChunksUnits': WHATEVER THE INPUT: true; the input reads as it did. -/
def chunksUnitsSpec : ChangeSpec := { name := "chunksUnits", fn := fun _ => fun
  | [d] => { results := [.lit (.bool true)], args := [d] }
  | _ => none }
def chunksUnitsRow : OpenClaim := { program := "ytcicfneekmbamaa", sum := "b861f956db9e233c84750c059475cba386728dbe6f03627db9f962431a01f4c9", func := "solvent/solventlaw22.ChunksUnits", spec := "chunksUnits", inPlace := ["slices.overlaps[solvent/api.Chunk]", "slices.overlaps[solvent/api.Ref]"], unfollowed := true, recurses := true, plainKeys := false, apart := false }
def ChunksUnitsSaid : Prop := chunksUnitsRow.holds Try.pinned (OpenSpec.ofChange chunksUnitsSpec)

/-- ITS FALSE NEIGHBOUR: 'it returns false'. Refute it at one input. -/
def chunksUnitsWrong : ChangeSpec := { name := "chunksUnits", fn := fun _ => fun
  | [d] => { results := [.lit (.bool false)], args := [d] }
  | _ => none }
def ChunksUnitsWrongFalsely : Prop := chunksUnitsRow.holds Try.pinned (OpenSpec.ofChange chunksUnitsWrong)

/-- 'solventlaw22.ChunksHeal': WHATEVER THE INPUT: true; the input reads as it did. -/
def chunksHealSpec : ChangeSpec := { name := "chunksHeal", fn := fun _ => fun
  | [d1, d2, d3] => { results := [.lit (.bool true)], args := [d1, d2, d3] }
  | _ => none }
def chunksHealRow : OpenClaim := { program := "ytcicfneekmbamaa", sum := "b861f956db9e233c84750c059475cba386728dbe6f03627db9f962431a01f4c9", func := "solvent/solventlaw22.ChunksHeal", spec := "chunksHeal", inPlace := ["slices.overlaps[solvent/api.Chunk]", "slices.overlaps[solvent/api.Ref]"], unfollowed := true, recurses := true, plainKeys := false, apart := false }
def ChunksHealSaid : Prop := chunksHealRow.holds Try.pinned (OpenSpec.ofChange chunksHealSpec)

/-- ITS FALSE NEIGHBOUR: 'it returns false'. Refute it at one input. -/
def chunksHealWrong : ChangeSpec := { name := "chunksHeal", fn := fun _ => fun
  | [d1, d2, d3] => { results := [.lit (.bool false)], args := [d1, d2, d3] }
  | _ => none }
def ChunksHealWrongFalsely : Prop := chunksHealRow.holds Try.pinned (OpenSpec.ofChange chunksHealWrong)

/-- 'solventlaw22.ChunksClone': WHATEVER THE INPUT: true; the input reads as it did. -/
def chunksCloneSpec : ChangeSpec := { name := "chunksClone", fn := fun _ => fun
  | [d1, d2] => { results := [.lit (.bool true)], args := [d1, d2] }
  | _ => none }
def chunksCloneRow : OpenClaim := { program := "ytcicfneekmbamaa", sum := "b861f956db9e233c84750c059475cba386728dbe6f03627db9f962431a01f4c9", func := "solvent/solventlaw22.ChunksClone", spec := "chunksClone", inPlace := ["slices.overlaps[solvent/api.Chunk]", "slices.overlaps[solvent/api.Ref]", "maps.clone"], unfollowed := true, recurses := true, plainKeys := false, apart := false }
def ChunksCloneSaid : Prop := chunksCloneRow.holds Try.pinned (OpenSpec.ofChange chunksCloneSpec)

/-- ITS FALSE NEIGHBOUR: 'it returns false'. Refute it at one input. -/
def chunksCloneWrong : ChangeSpec := { name := "chunksClone", fn := fun _ => fun
  | [d1, d2] => { results := [.lit (.bool false)], args := [d1, d2] }
  | _ => none }
def ChunksCloneWrongFalsely : Prop := chunksCloneRow.holds Try.pinned (OpenSpec.ofChange chunksCloneWrong)

/-- 'solventlaw22.ChunksDecode': WHATEVER THE INPUT: true; the input reads as it did. -/
def chunksDecodeSpec : ChangeSpec := { name := "chunksDecode", fn := fun _ => fun
  | [d] => { results := [.lit (.bool true)], args := [d] }
  | _ => none }
def chunksDecodeRow : OpenClaim := { program := "ytcicfneekmbamaa", sum := "b861f956db9e233c84750c059475cba386728dbe6f03627db9f962431a01f4c9", func := "solvent/solventlaw22.ChunksDecode", spec := "chunksDecode", inPlace := ["slices.overlaps[solvent/api.Chunk]", "slices.overlaps[solvent/api.Ref]"], unfollowed := true, recurses := true, plainKeys := false, apart := false }
def ChunksDecodeSaid : Prop := chunksDecodeRow.holds Try.pinned (OpenSpec.ofChange chunksDecodeSpec)

/-- ITS FALSE NEIGHBOUR: 'it returns false'. Refute it at one input. -/
def chunksDecodeWrong : ChangeSpec := { name := "chunksDecode", fn := fun _ => fun
  | [d] => { results := [.lit (.bool false)], args := [d] }
  | _ => none }
def ChunksDecodeWrongFalsely : Prop := chunksDecodeRow.holds Try.pinned (OpenSpec.ofChange chunksDecodeWrong)

/-- 'solventlaw22.ChunksRoundTrip': WHATEVER THE INPUT: true; the input reads as it did. -/
def chunksRoundTripSpec : ChangeSpec := { name := "chunksRoundTrip", fn := fun _ => fun
  | [d] => { results := [.lit (.bool true)], args := [d] }
  | _ => none }
def chunksRoundTripRow : OpenClaim := { program := "ytcicfneekmbamaa", sum := "b861f956db9e233c84750c059475cba386728dbe6f03627db9f962431a01f4c9", func := "solvent/solventlaw22.ChunksRoundTrip", spec := "chunksRoundTrip", inPlace := ["slices.overlaps[solvent/api.Chunk]", "slices.overlaps[solvent/api.Ref]"], unfollowed := true, recurses := true, plainKeys := false, apart := false }
def ChunksRoundTripSaid : Prop := chunksRoundTripRow.holds Try.pinned (OpenSpec.ofChange chunksRoundTripSpec)

/-- ITS FALSE NEIGHBOUR: 'it returns false'. Refute it at one input. -/
def chunksRoundTripWrong : ChangeSpec := { name := "chunksRoundTrip", fn := fun _ => fun
  | [d] => { results := [.lit (.bool false)], args := [d] }
  | _ => none }
def ChunksRoundTripWrongFalsely : Prop := chunksRoundTripRow.holds Try.pinned (OpenSpec.ofChange chunksRoundTripWrong)

/- THE SECOND FORM. 'bulk': how many values and letters a reading holds, each counted each time it is reached (what is shared counts as often as it is met; a slice's spare places count too). A statement '..UptoSaid' is the law's where the arguments, and the package variables that the reading takes, are together of bulk at most 1048576: NARROWER than '..Said'. Prove '..Said' where nothing that the law and all that it calls make is longer than what came in: it says more and counts as full. Else prove '..UptoSaid'. A law counts once. -/
mutual
def uptoBulk {H : Type} : DataW H → Nat
  | .lit (.string bytes) => bytes.length + 1
  | .lit _ => 1
  | .nil => 1
  | .ptr d => uptoBulk d + 1
  | .slice elems spare => uptoBulkAll elems + uptoBulkAll spare + 1
  | .agg parts => uptoBulkAll parts + 1
  | .iface _ d => uptoBulk d + 1
  | .map entries => uptoBulkEntries entries + 1
  | .held _ => 1
def uptoBulkAll {H : Type} : List (DataW H) → Nat
  | [] => 0
  | d :: r => uptoBulk d + uptoBulkAll r
def uptoBulkEntries {H : Type} : List (Lit × DataW H) → Nat
  | [] => 0
  | x :: r => uptoBulkEntry x + uptoBulkEntries r
def uptoBulkEntry {H : Type} : Lit × DataW H → Nat
  | (.string bytes, d) => bytes.length + uptoBulk d + 1
  | (_, d) => uptoBulk d + 1
 end
def uptoSmall : (H : Type) → List (DataW H) → Bool := fun _ ds => decide (uptoBulkAll ds ≤ 1048576)
def OpenSpec.upto (s : _root_.Go.ChangeSpec) : _root_.Go.OpenSpec := { _root_.Go.OpenSpec.ofChange s with cond := some uptoSmall }

/-- 'solventlaw22.ChunksQueries', WHERE WHAT IT READS IS OF BULK AT MOST 1048576: true; the input reads as it did. -/
def chunksQueriesUptoRow : OpenClaim := { program := "ytcicfneekmbamaa", sum := "b861f956db9e233c84750c059475cba386728dbe6f03627db9f962431a01f4c9", func := "solvent/solventlaw22.ChunksQueries", spec := "chunksQueries", inPlace := ["slices.overlaps[solvent/api.Chunk]", "slices.overlaps[solvent/api.Ref]"], unfollowed := true, recurses := true, plainKeys := false, apart := false, narrowed := true }
def ChunksQueriesUptoSaid : Prop := chunksQueriesUptoRow.holds Try.pinned (OpenSpec.upto chunksQueriesSpec)

/-- 'solventlaw22.ChunksCounts', WHERE WHAT IT READS IS OF BULK AT MOST 1048576: true; the input reads as it did. -/
def chunksCountsUptoRow : OpenClaim := { program := "ytcicfneekmbamaa", sum := "b861f956db9e233c84750c059475cba386728dbe6f03627db9f962431a01f4c9", func := "solvent/solventlaw22.ChunksCounts", spec := "chunksCounts", inPlace := ["slices.overlaps[solvent/api.Chunk]", "slices.overlaps[solvent/api.Ref]"], unfollowed := true, recurses := true, plainKeys := false, apart := false, narrowed := true }
def ChunksCountsUptoSaid : Prop := chunksCountsUptoRow.holds Try.pinned (OpenSpec.upto chunksCountsSpec)

/-- 'solventlaw22.ChunksMatchSpec', WHERE WHAT IT READS IS OF BULK AT MOST 1048576: true; the input reads as it did. -/
def chunksMatchSpecUptoRow : OpenClaim := { program := "ytcicfneekmbamaa", sum := "b861f956db9e233c84750c059475cba386728dbe6f03627db9f962431a01f4c9", func := "solvent/solventlaw22.ChunksMatchSpec", spec := "chunksMatchSpec", inPlace := ["slices.overlaps[solvent/api.Chunk]", "slices.overlaps[solvent/api.Ref]"], unfollowed := true, recurses := true, plainKeys := false, apart := false, narrowed := true }
def ChunksMatchSpecUptoSaid : Prop := chunksMatchSpecUptoRow.holds Try.pinned (OpenSpec.upto chunksMatchSpecSpec)

/-- 'solventlaw22.ChunksUnits', WHERE WHAT IT READS IS OF BULK AT MOST 1048576: true; the input reads as it did. -/
def chunksUnitsUptoRow : OpenClaim := { program := "ytcicfneekmbamaa", sum := "b861f956db9e233c84750c059475cba386728dbe6f03627db9f962431a01f4c9", func := "solvent/solventlaw22.ChunksUnits", spec := "chunksUnits", inPlace := ["slices.overlaps[solvent/api.Chunk]", "slices.overlaps[solvent/api.Ref]"], unfollowed := true, recurses := true, plainKeys := false, apart := false, narrowed := true }
def ChunksUnitsUptoSaid : Prop := chunksUnitsUptoRow.holds Try.pinned (OpenSpec.upto chunksUnitsSpec)

/-- 'solventlaw22.ChunksHeal', WHERE WHAT IT READS IS OF BULK AT MOST 1048576: true; the input reads as it did. -/
def chunksHealUptoRow : OpenClaim := { program := "ytcicfneekmbamaa", sum := "b861f956db9e233c84750c059475cba386728dbe6f03627db9f962431a01f4c9", func := "solvent/solventlaw22.ChunksHeal", spec := "chunksHeal", inPlace := ["slices.overlaps[solvent/api.Chunk]", "slices.overlaps[solvent/api.Ref]"], unfollowed := true, recurses := true, plainKeys := false, apart := false, narrowed := true }
def ChunksHealUptoSaid : Prop := chunksHealUptoRow.holds Try.pinned (OpenSpec.upto chunksHealSpec)

/-- 'solventlaw22.ChunksClone', WHERE WHAT IT READS IS OF BULK AT MOST 1048576: true; the input reads as it did. -/
def chunksCloneUptoRow : OpenClaim := { program := "ytcicfneekmbamaa", sum := "b861f956db9e233c84750c059475cba386728dbe6f03627db9f962431a01f4c9", func := "solvent/solventlaw22.ChunksClone", spec := "chunksClone", inPlace := ["slices.overlaps[solvent/api.Chunk]", "slices.overlaps[solvent/api.Ref]", "maps.clone"], unfollowed := true, recurses := true, plainKeys := false, apart := false, narrowed := true }
def ChunksCloneUptoSaid : Prop := chunksCloneUptoRow.holds Try.pinned (OpenSpec.upto chunksCloneSpec)

/-- 'solventlaw22.ChunksDecode', WHERE WHAT IT READS IS OF BULK AT MOST 1048576: true; the input reads as it did. -/
def chunksDecodeUptoRow : OpenClaim := { program := "ytcicfneekmbamaa", sum := "b861f956db9e233c84750c059475cba386728dbe6f03627db9f962431a01f4c9", func := "solvent/solventlaw22.ChunksDecode", spec := "chunksDecode", inPlace := ["slices.overlaps[solvent/api.Chunk]", "slices.overlaps[solvent/api.Ref]"], unfollowed := true, recurses := true, plainKeys := false, apart := false, narrowed := true }
def ChunksDecodeUptoSaid : Prop := chunksDecodeUptoRow.holds Try.pinned (OpenSpec.upto chunksDecodeSpec)

/-- 'solventlaw22.ChunksRoundTrip', WHERE WHAT IT READS IS OF BULK AT MOST 1048576: true; the input reads as it did. -/
def chunksRoundTripUptoRow : OpenClaim := { program := "ytcicfneekmbamaa", sum := "b861f956db9e233c84750c059475cba386728dbe6f03627db9f962431a01f4c9", func := "solvent/solventlaw22.ChunksRoundTrip", spec := "chunksRoundTrip", inPlace := ["slices.overlaps[solvent/api.Chunk]", "slices.overlaps[solvent/api.Ref]"], unfollowed := true, recurses := true, plainKeys := false, apart := false, narrowed := true }
def ChunksRoundTripUptoSaid : Prop := chunksRoundTripUptoRow.holds Try.pinned (OpenSpec.upto chunksRoundTripSpec)

end Rows
end Go.Proofs.Ytcicfneekmbamaa
