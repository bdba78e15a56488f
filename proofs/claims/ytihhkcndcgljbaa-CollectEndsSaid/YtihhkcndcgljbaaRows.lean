/-
  No cell of these rows narrows 'for every input' (looked for: loops, veiled, ifaces, maps, wideKeys, modest, calm, conditions, laid).
  DERIVED. THE GIVEN ROWS OF THIS SEAT. 2 by the template 'for every input the law returns true; each argument reads behind the call as it read before'; 0 by the template 'total and deterministic' (their statements: YtihhkcndcgljbaaTotals.lean).
  GIVEN WITH THE SEED: the statements are not yours to turn. If you find one false, say at which input.
  Laid BY PROGRAM, IN A SANDBOX (cutbox-rows.mjs): the forced cells as the released guide's own fill.sh prints them over the translation ffaca8b296609877… (all of the seat's roots in one cut). By AI agents, Wed Nov 11 2026. No macro, syntax, notation, axiom, sorry.
-/
import Derived.Test.YtihhkcndcgljbaaChecked
import GoSem.Claim
import GoSem.ClaimJoined
import GoSem.ClaimMapViews
import Derived.JoinedTies
import Derived.KernelRfl
namespace Go.Proofs.Ytihhkcndcgljbaa
/- THE CELL 'sum', in the pinned program and in every row, IS THE sha256 OF THE DUMP (.gsa) THAT YtihhkcndcgljbaaProg.lean LOADS. Nothing in Lean hashes anything: it is a label: what it is worth is what the hold of that sum in a sandbox is worth. -/
noncomputable def Try.pinned : Pinned := { name := "ytihhkcndcgljbaa", sum := "ffaca8b2966098772738539781dae47369f68b56b132af42b93a006bcd5bbc77", checked := Try.checked }
namespace Rows
def none {H : Type} : Left H := { results := [], args := [] }

/-- 'solventlaw25.CollectBounds': WHATEVER THE INPUT: true; the input reads as it did. -/
def collectBoundsSpec : ChangeSpec := { name := "collectBounds", fn := fun _ => fun
  | [d1, d2, d3, d4] => { results := [.lit (.bool true)], args := [d1, d2, d3, d4] }
  | _ => none }
def collectBoundsRow : OpenClaim := { program := "ytihhkcndcgljbaa", sum := "ffaca8b2966098772738539781dae47369f68b56b132af42b93a006bcd5bbc77", func := "solvent/solventlaw25.CollectBounds", spec := "collectBounds", inPlace := ["slices.overlaps[solvent/api.Chunk]", "slices.overlaps[solvent/api.Ref]"], unfollowed := true, recurses := true, plainKeys := false, apart := false }
def CollectBoundsSaid : Prop := collectBoundsRow.holds Try.pinned (OpenSpec.ofChange collectBoundsSpec)

/-- ITS FALSE NEIGHBOUR: 'it returns false'. Refute it at one input. -/
def collectBoundsWrong : ChangeSpec := { name := "collectBounds", fn := fun _ => fun
  | [d1, d2, d3, d4] => { results := [.lit (.bool false)], args := [d1, d2, d3, d4] }
  | _ => none }
def CollectBoundsWrongFalsely : Prop := collectBoundsRow.holds Try.pinned (OpenSpec.ofChange collectBoundsWrong)

/-- 'solventlaw25.CollectEnds': WHATEVER THE INPUT: true; the input reads as it did. -/
def collectEndsSpec : ChangeSpec := { name := "collectEnds", fn := fun _ => fun
  | [d1, d2, d3, d4, d5] => { results := [.lit (.bool true)], args := [d1, d2, d3, d4, d5] }
  | _ => none }
def collectEndsRow : OpenClaim := { program := "ytihhkcndcgljbaa", sum := "ffaca8b2966098772738539781dae47369f68b56b132af42b93a006bcd5bbc77", func := "solvent/solventlaw25.CollectEnds", spec := "collectEnds", inPlace := ["slices.overlaps[solvent/api.Chunk]", "slices.overlaps[solvent/api.Ref]"], unfollowed := true, recurses := true, plainKeys := false, apart := false }
def CollectEndsSaid : Prop := collectEndsRow.holds Try.pinned (OpenSpec.ofChange collectEndsSpec)

/-- ITS FALSE NEIGHBOUR: 'it returns false'. Refute it at one input. -/
def collectEndsWrong : ChangeSpec := { name := "collectEnds", fn := fun _ => fun
  | [d1, d2, d3, d4, d5] => { results := [.lit (.bool false)], args := [d1, d2, d3, d4, d5] }
  | _ => none }
def CollectEndsWrongFalsely : Prop := collectEndsRow.holds Try.pinned (OpenSpec.ofChange collectEndsWrong)

/- THE SECOND FORM. 'bulk': how many values and letters a reading holds, each counted each time it is reached (what is shared counts as often as it is met; a slice's spare places count too). A statement '..UptoSaid' is the law's where the arguments, and the package variables that the reading takes, are together of bulk at most 1048576: NARROWER than '..Said'. Prove '..Said' where nothing that the law and all that it calls make is longer than what came in: it says more and counts as full. Else prove '..UptoSaid'. A law counts once. -/
mutual
def uptoBulk {H : Type} : DataW H → Nat
  | .lit (.string bytes) => bytes.length + 1
  | .lit _ => 1
  | .nil => 1
  | .ptr d => uptoBulk d + 1
  | .slice elems spare => uptoBulkAll elems + uptoBulkAll spare + 1
  | .agg parts => uptoBulkAll parts + 1
  | .iface _ d => uptoBulk d + 1
  | .map entries => uptoBulkEntries entries + 1
  | .held _ => 1
def uptoBulkAll {H : Type} : List (DataW H) → Nat
  | [] => 0
  | d :: r => uptoBulk d + uptoBulkAll r
def uptoBulkEntries {H : Type} : List (Lit × DataW H) → Nat
  | [] => 0
  | x :: r => uptoBulkEntry x + uptoBulkEntries r
def uptoBulkEntry {H : Type} : Lit × DataW H → Nat
  | (.string bytes, d) => bytes.length + uptoBulk d + 1
  | (_, d) => uptoBulk d + 1
 end
def uptoSmall : (H : Type) → List (DataW H) → Bool := fun _ ds => decide (uptoBulkAll ds ≤ 1048576)
def OpenSpec.upto (s : _root_.Go.ChangeSpec) : _root_.Go.OpenSpec := { _root_.Go.OpenSpec.ofChange s with cond := some uptoSmall }

/-- 'solventlaw25.CollectBounds', WHERE WHAT IT READS IS OF BULK AT MOST 1048576: true; the input reads as it did. -/
def collectBoundsUptoRow : OpenClaim := { program := "ytihhkcndcgljbaa", sum := "ffaca8b2966098772738539781dae47369f68b56b132af42b93a006bcd5bbc77", func := "solvent/solventlaw25.CollectBounds", spec := "collectBounds", inPlace := ["slices.overlaps[solvent/api.Chunk]", "slices.overlaps[solvent/api.Ref]"], unfollowed := true, recurses := true, plainKeys := false, apart := false, narrowed := true }
def CollectBoundsUptoSaid : Prop := collectBoundsUptoRow.holds Try.pinned (OpenSpec.upto collectBoundsSpec)

/-- 'solventlaw25.CollectEnds', WHERE WHAT IT READS IS OF BULK AT MOST 1048576: true; the input reads as it did. -/
def collectEndsUptoRow : OpenClaim := { program := "ytihhkcndcgljbaa", sum := "ffaca8b2966098772738539781dae47369f68b56b132af42b93a006bcd5bbc77", func := "solvent/solventlaw25.CollectEnds", spec := "collectEnds", inPlace := ["slices.overlaps[solvent/api.Chunk]", "slices.overlaps[solvent/api.Ref]"], unfollowed := true, recurses := true, plainKeys := false, apart := false, narrowed := true }
def CollectEndsUptoSaid : Prop := collectEndsUptoRow.holds Try.pinned (OpenSpec.upto collectEndsSpec)

end Rows
end Go.Proofs.Ytihhkcndcgljbaa
