/-
  No cell of these rows narrows 'for every input' (looked for: loops, veiled, ifaces, maps, wideKeys, modest, calm, conditions, laid).
  DERIVED. THE GIVEN ROWS OF THIS SEAT. 7 by the template 'for every input the law returns true; each argument reads behind the call as it read before'; 0 by the template 'total and deterministic' (their statements: YtfihdenapjmaeaaTotals.lean).
  GIVEN WITH THE SEED: the statements are not yours to turn. If you find one false, say at which input.
  Laid BY PROGRAM, IN A SANDBOX (cutbox-rows.mjs): the forced cells as the released guide's own fill.sh prints them over the translation 57628fb313af5b51… (all of the seat's roots in one cut). By AI agents, Wed Nov 11 2026. No macro, syntax, notation, axiom, sorry.
-/
import Derived.Test.YtfihdenapjmaeaaChecked
import GoSem.Claim
import GoSem.ClaimJoined
import GoSem.ClaimMapViews
import Derived.JoinedTies
import Derived.KernelRfl
namespace Go.Proofs.Ytfihdenapjmaeaa
/- THE CELL 'sum', in the pinned program and in every row, IS THE sha256 OF THE DUMP (.gsa) THAT YtfihdenapjmaeaaProg.lean LOADS. Nothing in Lean hashes anything: it is a label: what it is worth is what the hold of that sum in a sandbox is worth. -/
noncomputable def Try.pinned : Pinned := { name := "ytfihdenapjmaeaa", sum := "57628fb313af5b51be927d0c7866434f65b3aac8906e1ffc325ac7d8461f57b5", checked := Try.checked }
namespace Rows
def none {H : Type} : Left H := { results := [], args := [] }

/-- 'solventlaw37.SchedMatchesSpec': WHATEVER THE INPUT: true; the input reads as it did. -/
def schedMatchesSpecSpec : ChangeSpec := { name := "schedMatchesSpec", fn := fun _ => fun
  | [d1, d2, d3] => { results := [.lit (.bool true)], args := [d1, d2, d3] }
  | _ => none }
def schedMatchesSpecRow : OpenClaim := { program := "ytfihdenapjmaeaa", sum := "57628fb313af5b51be927d0c7866434f65b3aac8906e1ffc325ac7d8461f57b5", func := "solvent/solventlaw37.SchedMatchesSpec", spec := "schedMatchesSpec", unfollowed := true, recurses := true, apart := false }
def SchedMatchesSpecSaid : Prop := schedMatchesSpecRow.holds Try.pinned (OpenSpec.ofChange schedMatchesSpecSpec)

/-- ITS FALSE NEIGHBOUR: 'it returns false'. Refute it at one input. -/
def schedMatchesSpecWrong : ChangeSpec := { name := "schedMatchesSpec", fn := fun _ => fun
  | [d1, d2, d3] => { results := [.lit (.bool false)], args := [d1, d2, d3] }
  | _ => none }
def SchedMatchesSpecWrongFalsely : Prop := schedMatchesSpecRow.holds Try.pinned (OpenSpec.ofChange schedMatchesSpecWrong)

/-- 'solventlaw37.SchedRunMatchesSpec': WHATEVER THE INPUT: true; the input reads as it did. -/
def schedRunMatchesSpecSpec : ChangeSpec := { name := "schedRunMatchesSpec", fn := fun _ => fun
  | [d1, d2, d3] => { results := [.lit (.bool true)], args := [d1, d2, d3] }
  | _ => none }
def schedRunMatchesSpecRow : OpenClaim := { program := "ytfihdenapjmaeaa", sum := "57628fb313af5b51be927d0c7866434f65b3aac8906e1ffc325ac7d8461f57b5", func := "solvent/solventlaw37.SchedRunMatchesSpec", spec := "schedRunMatchesSpec", unfollowed := true, recurses := true, apart := false }
def SchedRunMatchesSpecSaid : Prop := schedRunMatchesSpecRow.holds Try.pinned (OpenSpec.ofChange schedRunMatchesSpecSpec)

/-- ITS FALSE NEIGHBOUR: 'it returns false'. Refute it at one input. -/
def schedRunMatchesSpecWrong : ChangeSpec := { name := "schedRunMatchesSpec", fn := fun _ => fun
  | [d1, d2, d3] => { results := [.lit (.bool false)], args := [d1, d2, d3] }
  | _ => none }
def SchedRunMatchesSpecWrongFalsely : Prop := schedRunMatchesSpecRow.holds Try.pinned (OpenSpec.ofChange schedRunMatchesSpecWrong)

/-- 'solventlaw37.SchedOnce': WHATEVER THE INPUT: true; the input reads as it did. -/
def schedOnceSpec : ChangeSpec := { name := "schedOnce", fn := fun _ => fun
  | [d1, d2, d3] => { results := [.lit (.bool true)], args := [d1, d2, d3] }
  | _ => none }
def schedOnceRow : OpenClaim := { program := "ytfihdenapjmaeaa", sum := "57628fb313af5b51be927d0c7866434f65b3aac8906e1ffc325ac7d8461f57b5", func := "solvent/solventlaw37.SchedOnce", spec := "schedOnce", unfollowed := true, recurses := true, apart := false }
def SchedOnceSaid : Prop := schedOnceRow.holds Try.pinned (OpenSpec.ofChange schedOnceSpec)

/-- ITS FALSE NEIGHBOUR: 'it returns false'. Refute it at one input. -/
def schedOnceWrong : ChangeSpec := { name := "schedOnce", fn := fun _ => fun
  | [d1, d2, d3] => { results := [.lit (.bool false)], args := [d1, d2, d3] }
  | _ => none }
def SchedOnceWrongFalsely : Prop := schedOnceRow.holds Try.pinned (OpenSpec.ofChange schedOnceWrong)

/-- 'solventlaw37.SchedPrefix': WHATEVER THE INPUT: true; the input reads as it did. -/
def schedPrefixSpec : ChangeSpec := { name := "schedPrefix", fn := fun _ => fun
  | [d1, d2, d3, d4] => { results := [.lit (.bool true)], args := [d1, d2, d3, d4] }
  | _ => none }
def schedPrefixRow : OpenClaim := { program := "ytfihdenapjmaeaa", sum := "57628fb313af5b51be927d0c7866434f65b3aac8906e1ffc325ac7d8461f57b5", func := "solvent/solventlaw37.SchedPrefix", spec := "schedPrefix", unfollowed := true, recurses := true, apart := false }
def SchedPrefixSaid : Prop := schedPrefixRow.holds Try.pinned (OpenSpec.ofChange schedPrefixSpec)

/-- ITS FALSE NEIGHBOUR: 'it returns false'. Refute it at one input. -/
def schedPrefixWrong : ChangeSpec := { name := "schedPrefix", fn := fun _ => fun
  | [d1, d2, d3, d4] => { results := [.lit (.bool false)], args := [d1, d2, d3, d4] }
  | _ => none }
def SchedPrefixWrongFalsely : Prop := schedPrefixRow.holds Try.pinned (OpenSpec.ofChange schedPrefixWrong)

/-- 'solventlaw37.SchedUrgent': WHATEVER THE INPUT: true; the input reads as it did. -/
def schedUrgentSpec : ChangeSpec := { name := "schedUrgent", fn := fun _ => fun
  | [d1, d2] => { results := [.lit (.bool true)], args := [d1, d2] }
  | _ => none }
def schedUrgentRow : OpenClaim := { program := "ytfihdenapjmaeaa", sum := "57628fb313af5b51be927d0c7866434f65b3aac8906e1ffc325ac7d8461f57b5", func := "solvent/solventlaw37.SchedUrgent", spec := "schedUrgent", unfollowed := true, recurses := true, apart := false }
def SchedUrgentSaid : Prop := schedUrgentRow.holds Try.pinned (OpenSpec.ofChange schedUrgentSpec)

/-- ITS FALSE NEIGHBOUR: 'it returns false'. Refute it at one input. -/
def schedUrgentWrong : ChangeSpec := { name := "schedUrgent", fn := fun _ => fun
  | [d1, d2] => { results := [.lit (.bool false)], args := [d1, d2] }
  | _ => none }
def SchedUrgentWrongFalsely : Prop := schedUrgentRow.holds Try.pinned (OpenSpec.ofChange schedUrgentWrong)

/-- 'solventlaw37.SchedFair': WHATEVER THE INPUT: true; the input reads as it did. -/
def schedFairSpec : ChangeSpec := { name := "schedFair", fn := fun _ => fun
  | [d] => { results := [.lit (.bool true)], args := [d] }
  | _ => none }
def schedFairRow : OpenClaim := { program := "ytfihdenapjmaeaa", sum := "57628fb313af5b51be927d0c7866434f65b3aac8906e1ffc325ac7d8461f57b5", func := "solvent/solventlaw37.SchedFair", spec := "schedFair", unfollowed := true, recurses := true, apart := false }
def SchedFairSaid : Prop := schedFairRow.holds Try.pinned (OpenSpec.ofChange schedFairSpec)

/-- ITS FALSE NEIGHBOUR: 'it returns false'. Refute it at one input. -/
def schedFairWrong : ChangeSpec := { name := "schedFair", fn := fun _ => fun
  | [d] => { results := [.lit (.bool false)], args := [d] }
  | _ => none }
def SchedFairWrongFalsely : Prop := schedFairRow.holds Try.pinned (OpenSpec.ofChange schedFairWrong)

/-- 'solventlaw37.SchedBalanced': WHATEVER THE INPUT: true; the input reads as it did. -/
def schedBalancedSpec : ChangeSpec := { name := "schedBalanced", fn := fun _ => fun
  | [d] => { results := [.lit (.bool true)], args := [d] }
  | _ => none }
def schedBalancedRow : OpenClaim := { program := "ytfihdenapjmaeaa", sum := "57628fb313af5b51be927d0c7866434f65b3aac8906e1ffc325ac7d8461f57b5", func := "solvent/solventlaw37.SchedBalanced", spec := "schedBalanced", unfollowed := true, recurses := true, apart := false }
def SchedBalancedSaid : Prop := schedBalancedRow.holds Try.pinned (OpenSpec.ofChange schedBalancedSpec)

/-- ITS FALSE NEIGHBOUR: 'it returns false'. Refute it at one input. -/
def schedBalancedWrong : ChangeSpec := { name := "schedBalanced", fn := fun _ => fun
  | [d] => { results := [.lit (.bool false)], args := [d] }
  | _ => none }
def SchedBalancedWrongFalsely : Prop := schedBalancedRow.holds Try.pinned (OpenSpec.ofChange schedBalancedWrong)

/- THE SECOND FORM. 'bulk': how many values and letters a reading holds, each counted each time it is reached (what is shared counts as often as it is met; a slice's spare places count too). A statement '..UptoSaid' is the law's where the arguments, and the package variables that the reading takes, are together of bulk at most 1048576: NARROWER than '..Said'. Prove '..Said' where nothing that the law and all that it calls make is longer than what came in: it says more and counts as full. Else prove '..UptoSaid'. A law counts once. -/
mutual
def uptoBulk {H : Type} : DataW H → Nat
  | .lit (.string bytes) => bytes.length + 1
  | .lit _ => 1
  | .nil => 1
  | .ptr d => uptoBulk d + 1
  | .slice elems spare => uptoBulkAll elems + uptoBulkAll spare + 1
  | .agg parts => uptoBulkAll parts + 1
  | .iface _ d => uptoBulk d + 1
  | .map entries => uptoBulkEntries entries + 1
  | .held _ => 1
def uptoBulkAll {H : Type} : List (DataW H) → Nat
  | [] => 0
  | d :: r => uptoBulk d + uptoBulkAll r
def uptoBulkEntries {H : Type} : List (Lit × DataW H) → Nat
  | [] => 0
  | x :: r => uptoBulkEntry x + uptoBulkEntries r
def uptoBulkEntry {H : Type} : Lit × DataW H → Nat
  | (.string bytes, d) => bytes.length + uptoBulk d + 1
  | (_, d) => uptoBulk d + 1
 end
def uptoSmall : (H : Type) → List (DataW H) → Bool := fun _ ds => decide (uptoBulkAll ds ≤ 1048576)
def OpenSpec.upto (s : _root_.Go.ChangeSpec) : _root_.Go.OpenSpec := { _root_.Go.OpenSpec.ofChange s with cond := some uptoSmall }

/-- 'solventlaw37.SchedMatchesSpec', WHERE WHAT IT READS IS OF BULK AT MOST 1048576: true; the input reads as it did. -/
def schedMatchesSpecUptoRow : OpenClaim := { program := "ytfihdenapjmaeaa", sum := "57628fb313af5b51be927d0c7866434f65b3aac8906e1ffc325ac7d8461f57b5", func := "solvent/solventlaw37.SchedMatchesSpec", spec := "schedMatchesSpec", unfollowed := true, recurses := true, apart := false, narrowed := true }
def SchedMatchesSpecUptoSaid : Prop := schedMatchesSpecUptoRow.holds Try.pinned (OpenSpec.upto schedMatchesSpecSpec)

/-- 'solventlaw37.SchedRunMatchesSpec', WHERE WHAT IT READS IS OF BULK AT MOST 1048576: true; the input reads as it did. -/
def schedRunMatchesSpecUptoRow : OpenClaim := { program := "ytfihdenapjmaeaa", sum := "57628fb313af5b51be927d0c7866434f65b3aac8906e1ffc325ac7d8461f57b5", func := "solvent/solventlaw37.SchedRunMatchesSpec", spec := "schedRunMatchesSpec", unfollowed := true, recurses := true, apart := false, narrowed := true }
def SchedRunMatchesSpecUptoSaid : Prop := schedRunMatchesSpecUptoRow.holds Try.pinned (OpenSpec.upto schedRunMatchesSpecSpec)

/-- 'solventlaw37.SchedOnce', WHERE WHAT IT READS IS OF BULK AT MOST 1048576: true; the input reads as it did. -/
def schedOnceUptoRow : OpenClaim := { program := "ytfihdenapjmaeaa", sum := "57628fb313af5b51be927d0c7866434f65b3aac8906e1ffc325ac7d8461f57b5", func := "solvent/solventlaw37.SchedOnce", spec := "schedOnce", unfollowed := true, recurses := true, apart := false, narrowed := true }
def SchedOnceUptoSaid : Prop := schedOnceUptoRow.holds Try.pinned (OpenSpec.upto schedOnceSpec)

/-- 'solventlaw37.SchedPrefix', WHERE WHAT IT READS IS OF BULK AT MOST 1048576: true; the input reads as it did. -/
def schedPrefixUptoRow : OpenClaim := { program := "ytfihdenapjmaeaa", sum := "57628fb313af5b51be927d0c7866434f65b3aac8906e1ffc325ac7d8461f57b5", func := "solvent/solventlaw37.SchedPrefix", spec := "schedPrefix", unfollowed := true, recurses := true, apart := false, narrowed := true }
def SchedPrefixUptoSaid : Prop := schedPrefixUptoRow.holds Try.pinned (OpenSpec.upto schedPrefixSpec)

/-- 'solventlaw37.SchedUrgent', WHERE WHAT IT READS IS OF BULK AT MOST 1048576: true; the input reads as it did. -/
def schedUrgentUptoRow : OpenClaim := { program := "ytfihdenapjmaeaa", sum := "57628fb313af5b51be927d0c7866434f65b3aac8906e1ffc325ac7d8461f57b5", func := "solvent/solventlaw37.SchedUrgent", spec := "schedUrgent", unfollowed := true, recurses := true, apart := false, narrowed := true }
def SchedUrgentUptoSaid : Prop := schedUrgentUptoRow.holds Try.pinned (OpenSpec.upto schedUrgentSpec)

/-- 'solventlaw37.SchedFair', WHERE WHAT IT READS IS OF BULK AT MOST 1048576: true; the input reads as it did. -/
def schedFairUptoRow : OpenClaim := { program := "ytfihdenapjmaeaa", sum := "57628fb313af5b51be927d0c7866434f65b3aac8906e1ffc325ac7d8461f57b5", func := "solvent/solventlaw37.SchedFair", spec := "schedFair", unfollowed := true, recurses := true, apart := false, narrowed := true }
def SchedFairUptoSaid : Prop := schedFairUptoRow.holds Try.pinned (OpenSpec.upto schedFairSpec)

/-- 'solventlaw37.SchedBalanced', WHERE WHAT IT READS IS OF BULK AT MOST 1048576: true; the input reads as it did. -/
def schedBalancedUptoRow : OpenClaim := { program := "ytfihdenapjmaeaa", sum := "57628fb313af5b51be927d0c7866434f65b3aac8906e1ffc325ac7d8461f57b5", func := "solvent/solventlaw37.SchedBalanced", spec := "schedBalanced", unfollowed := true, recurses := true, apart := false, narrowed := true }
def SchedBalancedUptoSaid : Prop := schedBalancedUptoRow.holds Try.pinned (OpenSpec.upto schedBalancedSpec)

end Rows
end Go.Proofs.Ytfihdenapjmaeaa
