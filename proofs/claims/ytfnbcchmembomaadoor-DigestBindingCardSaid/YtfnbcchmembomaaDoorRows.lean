/-
  NARROWER THAN 'FOR EVERY INPUT', by the rows' own cells (each row's printed sentence says how): DigestSumMatchesSpec: laid · DigestOfMatchesSpec: laid · DigestTreesMatchSpec: laid · DigestBinding: laid · DigestVerifyMatchesSpec: laid · DigestProofsAccepted: laid · DigestRootAppends: laid.
  DERIVED. THE GIVEN ROWS OF THIS SEAT. 7 by the template 'for every input the law returns true; each argument reads behind the call as it read before'; 0 by the template 'total and deterministic' (their statements: YtfnbcchmembomaaDoorTotals.lean).
  GIVEN WITH THE SEED: the statements are not yours to turn. If you find one false, say at which input.
  Laid BY PROGRAM, IN A SANDBOX (cutbox-rows.mjs): the forced cells as the released guide's own fill.sh prints them over the translation 290dfbc428c6082e… (all of the seat's roots in one cut). By AI agents, Wed Nov 11 2026. No macro, syntax, notation, axiom, sorry.
-/
import Derived.Test.YtfnbcchmembomaaDoorChecked
import GoSem.Claim
import GoSem.ClaimJoined
import GoSem.ClaimMapViews
import Derived.JoinedTies
import Derived.KernelRfl
namespace Go.Proofs.YtfnbcchmembomaaDoor
/- THE CELL 'sum', in the pinned program and in every row, IS THE sha256 OF THE DUMP (.gsa) THAT YtfnbcchmembomaaDoorProg.lean LOADS. Nothing in Lean hashes anything: it is a label: what it is worth is what the hold of that sum in a sandbox is worth. -/
noncomputable def Tryd.pinned : Pinned := { name := "ytfnbcchmembomaadoor", sum := "290dfbc428c6082e7effcffe39419144970c27dca29405f0514af9c9f73be592", checked := Tryd.checked }
namespace Rows
def none {H : Type} : Left H := { results := [], args := [] }

/- WHAT THE LISTED PACKAGE-LEVEL VARIABLES READ AS WHEN THE CALL BEGINS. Each datum BY PROGRAM (the guide's laid-datum.mjs) off the statement by which the dump's own 'gosem.cut.vars' lays the variable. In a bare row this is a premise. The card (YtfnbcchmembomaaDoorCards.lean) ties it to the program's text. -/
def laid_solvent_solventref02_constants {H : Type} : DataW H := .agg [.lit (.int .u32 1116352408), .lit (.int .u32 1899447441), .lit (.int .u32 3049323471), .lit (.int .u32 3921009573), .lit (.int .u32 961987163), .lit (.int .u32 1508970993), .lit (.int .u32 2453635748), .lit (.int .u32 2870763221), .lit (.int .u32 3624381080), .lit (.int .u32 310598401), .lit (.int .u32 607225278), .lit (.int .u32 1426881987), .lit (.int .u32 1925078388), .lit (.int .u32 2162078206), .lit (.int .u32 2614888103), .lit (.int .u32 3248222580), .lit (.int .u32 3835390401), .lit (.int .u32 4022224774), .lit (.int .u32 264347078), .lit (.int .u32 604807628), .lit (.int .u32 770255983), .lit (.int .u32 1249150122), .lit (.int .u32 1555081692), .lit (.int .u32 1996064986), .lit (.int .u32 2554220882), .lit (.int .u32 2821834349), .lit (.int .u32 2952996808), .lit (.int .u32 3210313671), .lit (.int .u32 3336571891), .lit (.int .u32 3584528711), .lit (.int .u32 113926993), .lit (.int .u32 338241895), .lit (.int .u32 666307205), .lit (.int .u32 773529912), .lit (.int .u32 1294757372), .lit (.int .u32 1396182291), .lit (.int .u32 1695183700), .lit (.int .u32 1986661051), .lit (.int .u32 2177026350), .lit (.int .u32 2456956037), .lit (.int .u32 2730485921), .lit (.int .u32 2820302411), .lit (.int .u32 3259730800), .lit (.int .u32 3345764771), .lit (.int .u32 3516065817), .lit (.int .u32 3600352804), .lit (.int .u32 4094571909), .lit (.int .u32 275423344), .lit (.int .u32 430227734), .lit (.int .u32 506948616), .lit (.int .u32 659060556), .lit (.int .u32 883997877), .lit (.int .u32 958139571), .lit (.int .u32 1322822218), .lit (.int .u32 1537002063), .lit (.int .u32 1747873779), .lit (.int .u32 1955562222), .lit (.int .u32 2024104815), .lit (.int .u32 2227730452), .lit (.int .u32 2361852424), .lit (.int .u32 2428436474), .lit (.int .u32 2756734187), .lit (.int .u32 3204031479), .lit (.int .u32 3329325298)]
def laid_solvent_digest_constants {H : Type} : DataW H := .agg [.lit (.int .u32 1116352408), .lit (.int .u32 1899447441), .lit (.int .u32 3049323471), .lit (.int .u32 3921009573), .lit (.int .u32 961987163), .lit (.int .u32 1508970993), .lit (.int .u32 2453635748), .lit (.int .u32 2870763221), .lit (.int .u32 3624381080), .lit (.int .u32 310598401), .lit (.int .u32 607225278), .lit (.int .u32 1426881987), .lit (.int .u32 1925078388), .lit (.int .u32 2162078206), .lit (.int .u32 2614888103), .lit (.int .u32 3248222580), .lit (.int .u32 3835390401), .lit (.int .u32 4022224774), .lit (.int .u32 264347078), .lit (.int .u32 604807628), .lit (.int .u32 770255983), .lit (.int .u32 1249150122), .lit (.int .u32 1555081692), .lit (.int .u32 1996064986), .lit (.int .u32 2554220882), .lit (.int .u32 2821834349), .lit (.int .u32 2952996808), .lit (.int .u32 3210313671), .lit (.int .u32 3336571891), .lit (.int .u32 3584528711), .lit (.int .u32 113926993), .lit (.int .u32 338241895), .lit (.int .u32 666307205), .lit (.int .u32 773529912), .lit (.int .u32 1294757372), .lit (.int .u32 1396182291), .lit (.int .u32 1695183700), .lit (.int .u32 1986661051), .lit (.int .u32 2177026350), .lit (.int .u32 2456956037), .lit (.int .u32 2730485921), .lit (.int .u32 2820302411), .lit (.int .u32 3259730800), .lit (.int .u32 3345764771), .lit (.int .u32 3516065817), .lit (.int .u32 3600352804), .lit (.int .u32 4094571909), .lit (.int .u32 275423344), .lit (.int .u32 430227734), .lit (.int .u32 506948616), .lit (.int .u32 659060556), .lit (.int .u32 883997877), .lit (.int .u32 958139571), .lit (.int .u32 1322822218), .lit (.int .u32 1537002063), .lit (.int .u32 1747873779), .lit (.int .u32 1955562222), .lit (.int .u32 2024104815), .lit (.int .u32 2227730452), .lit (.int .u32 2361852424), .lit (.int .u32 2428436474), .lit (.int .u32 2756734187), .lit (.int .u32 3204031479), .lit (.int .u32 3329325298)]
def laid_solvent_digest_start {H : Type} : DataW H := .agg [.lit (.int .u32 1779033703), .lit (.int .u32 3144134277), .lit (.int .u32 1013904242), .lit (.int .u32 2773480762), .lit (.int .u32 1359893119), .lit (.int .u32 2600822924), .lit (.int .u32 528734635), .lit (.int .u32 1541459225)]

/-- 'solventlaw02.DigestSumMatchesSpec': WHATEVER THE INPUT: true; the input reads as it did. -/
def digestSumMatchesSpecSpec : ChangeSpec := { name := "digestSumMatchesSpec", fn := fun _ => fun
  | [d] => { results := [.lit (.bool true)], args := [d] }
  | _ => none }
def digestSumMatchesSpecRow : OpenClaim := { program := "ytfnbcchmembomaadoor", sum := "290dfbc428c6082e7effcffe39419144970c27dca29405f0514af9c9f73be592", func := "solvent/solventlaw02.DigestSumMatchesSpec", spec := "digestSumMatchesSpec", unfollowed := true, recurses := true, named := ["solvent/digest.start", "solvent/digest.constants", "solvent/solventref02.constants"], apart := false, laid := [("solvent/solventref02.constants", laid_solvent_solventref02_constants), ("solvent/digest.constants", laid_solvent_digest_constants), ("solvent/digest.start", laid_solvent_digest_start)] }
def DigestSumMatchesSpecSaid : Prop := digestSumMatchesSpecRow.holds Tryd.pinned (OpenSpec.ofChange digestSumMatchesSpecSpec)

/-- ITS FALSE NEIGHBOUR: 'it returns false'. Refute it at one input. -/
def digestSumMatchesSpecWrong : ChangeSpec := { name := "digestSumMatchesSpec", fn := fun _ => fun
  | [d] => { results := [.lit (.bool false)], args := [d] }
  | _ => none }
def DigestSumMatchesSpecWrongFalsely : Prop := digestSumMatchesSpecRow.holds Tryd.pinned (OpenSpec.ofChange digestSumMatchesSpecWrong)

/-- 'solventlaw02.DigestOfMatchesSpec': WHATEVER THE INPUT: true; the input reads as it did. -/
def digestOfMatchesSpecSpec : ChangeSpec := { name := "digestOfMatchesSpec", fn := fun _ => fun
  | [d1, d2, d3] => { results := [.lit (.bool true)], args := [d1, d2, d3] }
  | _ => none }
def digestOfMatchesSpecRow : OpenClaim := { program := "ytfnbcchmembomaadoor", sum := "290dfbc428c6082e7effcffe39419144970c27dca29405f0514af9c9f73be592", func := "solvent/solventlaw02.DigestOfMatchesSpec", spec := "digestOfMatchesSpec", unfollowed := true, recurses := true, named := ["solvent/digest.start", "solvent/digest.constants", "solvent/solventref02.constants"], apart := false, laid := [("solvent/solventref02.constants", laid_solvent_solventref02_constants), ("solvent/digest.constants", laid_solvent_digest_constants), ("solvent/digest.start", laid_solvent_digest_start)] }
def DigestOfMatchesSpecSaid : Prop := digestOfMatchesSpecRow.holds Tryd.pinned (OpenSpec.ofChange digestOfMatchesSpecSpec)

/-- ITS FALSE NEIGHBOUR: 'it returns false'. Refute it at one input. -/
def digestOfMatchesSpecWrong : ChangeSpec := { name := "digestOfMatchesSpec", fn := fun _ => fun
  | [d1, d2, d3] => { results := [.lit (.bool false)], args := [d1, d2, d3] }
  | _ => none }
def DigestOfMatchesSpecWrongFalsely : Prop := digestOfMatchesSpecRow.holds Tryd.pinned (OpenSpec.ofChange digestOfMatchesSpecWrong)

/-- 'solventlaw02.DigestTreesMatchSpec': WHATEVER THE INPUT: true; the input reads as it did. -/
def digestTreesMatchSpecSpec : ChangeSpec := { name := "digestTreesMatchSpec", fn := fun _ => fun
  | [d1, d2] => { results := [.lit (.bool true)], args := [d1, d2] }
  | _ => none }
def digestTreesMatchSpecRow : OpenClaim := { program := "ytfnbcchmembomaadoor", sum := "290dfbc428c6082e7effcffe39419144970c27dca29405f0514af9c9f73be592", func := "solvent/solventlaw02.DigestTreesMatchSpec", spec := "digestTreesMatchSpec", unfollowed := true, recurses := true, named := ["solvent/digest.start", "solvent/digest.constants", "solvent/solventref02.constants"], apart := false, laid := [("solvent/solventref02.constants", laid_solvent_solventref02_constants), ("solvent/digest.constants", laid_solvent_digest_constants), ("solvent/digest.start", laid_solvent_digest_start)] }
def DigestTreesMatchSpecSaid : Prop := digestTreesMatchSpecRow.holds Tryd.pinned (OpenSpec.ofChange digestTreesMatchSpecSpec)

/-- ITS FALSE NEIGHBOUR: 'it returns false'. Refute it at one input. -/
def digestTreesMatchSpecWrong : ChangeSpec := { name := "digestTreesMatchSpec", fn := fun _ => fun
  | [d1, d2] => { results := [.lit (.bool false)], args := [d1, d2] }
  | _ => none }
def DigestTreesMatchSpecWrongFalsely : Prop := digestTreesMatchSpecRow.holds Tryd.pinned (OpenSpec.ofChange digestTreesMatchSpecWrong)

/-- 'solventlaw02.DigestBinding': WHATEVER THE INPUT: true; the input reads as it did. -/
def digestBindingSpec : ChangeSpec := { name := "digestBinding", fn := fun _ => fun
  | [d] => { results := [.lit (.bool true)], args := [d] }
  | _ => none }
def digestBindingRow : OpenClaim := { program := "ytfnbcchmembomaadoor", sum := "290dfbc428c6082e7effcffe39419144970c27dca29405f0514af9c9f73be592", func := "solvent/solventlaw02.DigestBinding", spec := "digestBinding", unfollowed := true, recurses := true, named := ["solvent/digest.start", "solvent/digest.constants", "solvent/solventref02.constants"], apart := false, laid := [("solvent/solventref02.constants", laid_solvent_solventref02_constants), ("solvent/digest.constants", laid_solvent_digest_constants), ("solvent/digest.start", laid_solvent_digest_start)] }
def DigestBindingSaid : Prop := digestBindingRow.holds Tryd.pinned (OpenSpec.ofChange digestBindingSpec)

/-- ITS FALSE NEIGHBOUR: 'it returns false'. Refute it at one input. -/
def digestBindingWrong : ChangeSpec := { name := "digestBinding", fn := fun _ => fun
  | [d] => { results := [.lit (.bool false)], args := [d] }
  | _ => none }
def DigestBindingWrongFalsely : Prop := digestBindingRow.holds Tryd.pinned (OpenSpec.ofChange digestBindingWrong)

/-- 'solventlaw02.DigestVerifyMatchesSpec': WHATEVER THE INPUT: true; the input reads as it did. -/
def digestVerifyMatchesSpecSpec : ChangeSpec := { name := "digestVerifyMatchesSpec", fn := fun _ => fun
  | [d] => { results := [.lit (.bool true)], args := [d] }
  | _ => none }
def digestVerifyMatchesSpecRow : OpenClaim := { program := "ytfnbcchmembomaadoor", sum := "290dfbc428c6082e7effcffe39419144970c27dca29405f0514af9c9f73be592", func := "solvent/solventlaw02.DigestVerifyMatchesSpec", spec := "digestVerifyMatchesSpec", unfollowed := true, recurses := true, named := ["solvent/digest.start", "solvent/digest.constants", "solvent/solventref02.constants"], apart := false, laid := [("solvent/solventref02.constants", laid_solvent_solventref02_constants), ("solvent/digest.constants", laid_solvent_digest_constants), ("solvent/digest.start", laid_solvent_digest_start)] }
def DigestVerifyMatchesSpecSaid : Prop := digestVerifyMatchesSpecRow.holds Tryd.pinned (OpenSpec.ofChange digestVerifyMatchesSpecSpec)

/-- ITS FALSE NEIGHBOUR: 'it returns false'. Refute it at one input. -/
def digestVerifyMatchesSpecWrong : ChangeSpec := { name := "digestVerifyMatchesSpec", fn := fun _ => fun
  | [d] => { results := [.lit (.bool false)], args := [d] }
  | _ => none }
def DigestVerifyMatchesSpecWrongFalsely : Prop := digestVerifyMatchesSpecRow.holds Tryd.pinned (OpenSpec.ofChange digestVerifyMatchesSpecWrong)

/-- 'solventlaw02.DigestProofsAccepted': WHATEVER THE INPUT: true; the input reads as it did. -/
def digestProofsAcceptedSpec : ChangeSpec := { name := "digestProofsAccepted", fn := fun _ => fun
  | [d] => { results := [.lit (.bool true)], args := [d] }
  | _ => none }
def digestProofsAcceptedRow : OpenClaim := { program := "ytfnbcchmembomaadoor", sum := "290dfbc428c6082e7effcffe39419144970c27dca29405f0514af9c9f73be592", func := "solvent/solventlaw02.DigestProofsAccepted", spec := "digestProofsAccepted", unfollowed := true, recurses := true, named := ["solvent/digest.start", "solvent/digest.constants"], apart := false, laid := [("solvent/digest.constants", laid_solvent_digest_constants), ("solvent/digest.start", laid_solvent_digest_start)] }
def DigestProofsAcceptedSaid : Prop := digestProofsAcceptedRow.holds Tryd.pinned (OpenSpec.ofChange digestProofsAcceptedSpec)

/-- ITS FALSE NEIGHBOUR: 'it returns false'. Refute it at one input. -/
def digestProofsAcceptedWrong : ChangeSpec := { name := "digestProofsAccepted", fn := fun _ => fun
  | [d] => { results := [.lit (.bool false)], args := [d] }
  | _ => none }
def DigestProofsAcceptedWrongFalsely : Prop := digestProofsAcceptedRow.holds Tryd.pinned (OpenSpec.ofChange digestProofsAcceptedWrong)

/-- 'solventlaw02.DigestRootAppends': WHATEVER THE INPUT: true; the input reads as it did. -/
def digestRootAppendsSpec : ChangeSpec := { name := "digestRootAppends", fn := fun _ => fun
  | [d1, d2, d3] => { results := [.lit (.bool true)], args := [d1, d2, d3] }
  | _ => none }
def digestRootAppendsRow : OpenClaim := { program := "ytfnbcchmembomaadoor", sum := "290dfbc428c6082e7effcffe39419144970c27dca29405f0514af9c9f73be592", func := "solvent/solventlaw02.DigestRootAppends", spec := "digestRootAppends", unfollowed := true, recurses := true, named := ["solvent/digest.start", "solvent/digest.constants", "solvent/solventref02.constants"], apart := false, laid := [("solvent/solventref02.constants", laid_solvent_solventref02_constants), ("solvent/digest.constants", laid_solvent_digest_constants), ("solvent/digest.start", laid_solvent_digest_start)] }
def DigestRootAppendsSaid : Prop := digestRootAppendsRow.holds Tryd.pinned (OpenSpec.ofChange digestRootAppendsSpec)

/-- ITS FALSE NEIGHBOUR: 'it returns false'. Refute it at one input. -/
def digestRootAppendsWrong : ChangeSpec := { name := "digestRootAppends", fn := fun _ => fun
  | [d1, d2, d3] => { results := [.lit (.bool false)], args := [d1, d2, d3] }
  | _ => none }
def DigestRootAppendsWrongFalsely : Prop := digestRootAppendsRow.holds Tryd.pinned (OpenSpec.ofChange digestRootAppendsWrong)

/- THE SECOND FORM. 'bulk': how many values and letters a reading holds, each counted each time it is reached (what is shared counts as often as it is met; a slice's spare places count too). A statement '..UptoSaid' is the law's where the arguments, and the package variables that the reading takes, are together of bulk at most 1048576: NARROWER than '..Said'. Prove '..Said' where nothing that the law and all that it calls make is longer than what came in: it says more and counts as full. Else prove '..UptoSaid'. A law counts once. -/
mutual
def uptoBulk {H : Type} : DataW H → Nat
  | .lit (.string bytes) => bytes.length + 1
  | .lit _ => 1
  | .nil => 1
  | .ptr d => uptoBulk d + 1
  | .slice elems spare => uptoBulkAll elems + uptoBulkAll spare + 1
  | .agg parts => uptoBulkAll parts + 1
  | .iface _ d => uptoBulk d + 1
  | .map entries => uptoBulkEntries entries + 1
  | .held _ => 1
def uptoBulkAll {H : Type} : List (DataW H) → Nat
  | [] => 0
  | d :: r => uptoBulk d + uptoBulkAll r
def uptoBulkEntries {H : Type} : List (Lit × DataW H) → Nat
  | [] => 0
  | x :: r => uptoBulkEntry x + uptoBulkEntries r
def uptoBulkEntry {H : Type} : Lit × DataW H → Nat
  | (.string bytes, d) => bytes.length + uptoBulk d + 1
  | (_, d) => uptoBulk d + 1
 end
def uptoSmall : (H : Type) → List (DataW H) → Bool := fun _ ds => decide (uptoBulkAll ds ≤ 1048576)
def OpenSpec.upto (s : _root_.Go.ChangeSpec) : _root_.Go.OpenSpec := { _root_.Go.OpenSpec.ofChange s with cond := some uptoSmall }

/-- 'solventlaw02.DigestSumMatchesSpec', WHERE WHAT IT READS IS OF BULK AT MOST 1048576: true; the input reads as it did. -/
def digestSumMatchesSpecUptoRow : OpenClaim := { program := "ytfnbcchmembomaadoor", sum := "290dfbc428c6082e7effcffe39419144970c27dca29405f0514af9c9f73be592", func := "solvent/solventlaw02.DigestSumMatchesSpec", spec := "digestSumMatchesSpec", unfollowed := true, recurses := true, named := ["solvent/digest.start", "solvent/digest.constants", "solvent/solventref02.constants"], apart := false, laid := [("solvent/solventref02.constants", laid_solvent_solventref02_constants), ("solvent/digest.constants", laid_solvent_digest_constants), ("solvent/digest.start", laid_solvent_digest_start)], narrowed := true }
def DigestSumMatchesSpecUptoSaid : Prop := digestSumMatchesSpecUptoRow.holds Tryd.pinned (OpenSpec.upto digestSumMatchesSpecSpec)

/-- 'solventlaw02.DigestOfMatchesSpec', WHERE WHAT IT READS IS OF BULK AT MOST 1048576: true; the input reads as it did. -/
def digestOfMatchesSpecUptoRow : OpenClaim := { program := "ytfnbcchmembomaadoor", sum := "290dfbc428c6082e7effcffe39419144970c27dca29405f0514af9c9f73be592", func := "solvent/solventlaw02.DigestOfMatchesSpec", spec := "digestOfMatchesSpec", unfollowed := true, recurses := true, named := ["solvent/digest.start", "solvent/digest.constants", "solvent/solventref02.constants"], apart := false, laid := [("solvent/solventref02.constants", laid_solvent_solventref02_constants), ("solvent/digest.constants", laid_solvent_digest_constants), ("solvent/digest.start", laid_solvent_digest_start)], narrowed := true }
def DigestOfMatchesSpecUptoSaid : Prop := digestOfMatchesSpecUptoRow.holds Tryd.pinned (OpenSpec.upto digestOfMatchesSpecSpec)

/-- 'solventlaw02.DigestTreesMatchSpec', WHERE WHAT IT READS IS OF BULK AT MOST 1048576: true; the input reads as it did. -/
def digestTreesMatchSpecUptoRow : OpenClaim := { program := "ytfnbcchmembomaadoor", sum := "290dfbc428c6082e7effcffe39419144970c27dca29405f0514af9c9f73be592", func := "solvent/solventlaw02.DigestTreesMatchSpec", spec := "digestTreesMatchSpec", unfollowed := true, recurses := true, named := ["solvent/digest.start", "solvent/digest.constants", "solvent/solventref02.constants"], apart := false, laid := [("solvent/solventref02.constants", laid_solvent_solventref02_constants), ("solvent/digest.constants", laid_solvent_digest_constants), ("solvent/digest.start", laid_solvent_digest_start)], narrowed := true }
def DigestTreesMatchSpecUptoSaid : Prop := digestTreesMatchSpecUptoRow.holds Tryd.pinned (OpenSpec.upto digestTreesMatchSpecSpec)

/-- 'solventlaw02.DigestBinding', WHERE WHAT IT READS IS OF BULK AT MOST 1048576: true; the input reads as it did. -/
def digestBindingUptoRow : OpenClaim := { program := "ytfnbcchmembomaadoor", sum := "290dfbc428c6082e7effcffe39419144970c27dca29405f0514af9c9f73be592", func := "solvent/solventlaw02.DigestBinding", spec := "digestBinding", unfollowed := true, recurses := true, named := ["solvent/digest.start", "solvent/digest.constants", "solvent/solventref02.constants"], apart := false, laid := [("solvent/solventref02.constants", laid_solvent_solventref02_constants), ("solvent/digest.constants", laid_solvent_digest_constants), ("solvent/digest.start", laid_solvent_digest_start)], narrowed := true }
def DigestBindingUptoSaid : Prop := digestBindingUptoRow.holds Tryd.pinned (OpenSpec.upto digestBindingSpec)

/-- 'solventlaw02.DigestVerifyMatchesSpec', WHERE WHAT IT READS IS OF BULK AT MOST 1048576: true; the input reads as it did. -/
def digestVerifyMatchesSpecUptoRow : OpenClaim := { program := "ytfnbcchmembomaadoor", sum := "290dfbc428c6082e7effcffe39419144970c27dca29405f0514af9c9f73be592", func := "solvent/solventlaw02.DigestVerifyMatchesSpec", spec := "digestVerifyMatchesSpec", unfollowed := true, recurses := true, named := ["solvent/digest.start", "solvent/digest.constants", "solvent/solventref02.constants"], apart := false, laid := [("solvent/solventref02.constants", laid_solvent_solventref02_constants), ("solvent/digest.constants", laid_solvent_digest_constants), ("solvent/digest.start", laid_solvent_digest_start)], narrowed := true }
def DigestVerifyMatchesSpecUptoSaid : Prop := digestVerifyMatchesSpecUptoRow.holds Tryd.pinned (OpenSpec.upto digestVerifyMatchesSpecSpec)

/-- 'solventlaw02.DigestProofsAccepted', WHERE WHAT IT READS IS OF BULK AT MOST 1048576: true; the input reads as it did. -/
def digestProofsAcceptedUptoRow : OpenClaim := { program := "ytfnbcchmembomaadoor", sum := "290dfbc428c6082e7effcffe39419144970c27dca29405f0514af9c9f73be592", func := "solvent/solventlaw02.DigestProofsAccepted", spec := "digestProofsAccepted", unfollowed := true, recurses := true, named := ["solvent/digest.start", "solvent/digest.constants"], apart := false, laid := [("solvent/digest.constants", laid_solvent_digest_constants), ("solvent/digest.start", laid_solvent_digest_start)], narrowed := true }
def DigestProofsAcceptedUptoSaid : Prop := digestProofsAcceptedUptoRow.holds Tryd.pinned (OpenSpec.upto digestProofsAcceptedSpec)

/-- 'solventlaw02.DigestRootAppends', WHERE WHAT IT READS IS OF BULK AT MOST 1048576: true; the input reads as it did. -/
def digestRootAppendsUptoRow : OpenClaim := { program := "ytfnbcchmembomaadoor", sum := "290dfbc428c6082e7effcffe39419144970c27dca29405f0514af9c9f73be592", func := "solvent/solventlaw02.DigestRootAppends", spec := "digestRootAppends", unfollowed := true, recurses := true, named := ["solvent/digest.start", "solvent/digest.constants", "solvent/solventref02.constants"], apart := false, laid := [("solvent/solventref02.constants", laid_solvent_solventref02_constants), ("solvent/digest.constants", laid_solvent_digest_constants), ("solvent/digest.start", laid_solvent_digest_start)], narrowed := true }
def DigestRootAppendsUptoSaid : Prop := digestRootAppendsUptoRow.holds Tryd.pinned (OpenSpec.upto digestRootAppendsSpec)

end Rows
end Go.Proofs.YtfnbcchmembomaaDoor
