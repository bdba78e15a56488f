/-
  DERIVED. GIVEN WITH THE SEED: THE PROGRAM's TIES (one call each: nine closed facts by the kernel) AND EACH ROW's TIE, after the 31st guide's Derived/Test/Toyas{Tie, Card}.lean. No idea stands in it: it is a product of the set-up. Laid BY PROGRAM, IN A SANDBOX (cutbox-door.mjs). By AI agents, Wed Nov 11 2026. No macro, syntax, notation, axiom, sorry.
-/
import Derived.Test.YtfnbcchmembomaaDoorRows
import Derived.LaidByTextLater
import Derived.SevenTiedAt
import Derived.LaidSub
import Derived.LaidOnce
namespace Go.Proofs.YtfnbcchmembomaaDoor
open Go
set_option maxRecDepth 100000
theorem seatTie1 : Tryd.prog.laidByTextLater [("solvent/solventref02.constants", Rows.laid_solvent_solventref02_constants), ("solvent/digest.constants", Rows.laid_solvent_digest_constants), ("solvent/digest.start", Rows.laid_solvent_digest_start)] [.data, .data, .data] true :=
  Program.laidByTextLater_by_one 24 8 65 (by kernel_rfl) (by kernel_rfl) (by kernel_rfl) (by kernel_rfl) (by kernel_rfl) (by kernel_rfl) (fun _ _ => by kernel_rfl)
theorem noOwnUnsafe : Tryd.pinned.checked.prog.headLifts.contains "ownunsafe" = false := by kernel_rfl
theorem tie : Tryd.prog.laidByTextLater [("solvent/solventref02.constants", Rows.laid_solvent_solventref02_constants), ("solvent/digest.constants", Rows.laid_solvent_digest_constants), ("solvent/digest.start", Rows.laid_solvent_digest_start)] [.data, .data, .data] true :=
  Program.laidByTextLater.sub seatTie1 ["solvent/solventref02.constants", "solvent/digest.constants", "solvent/digest.start"] (by kernel_rfl) (by kernel_rfl)
theorem digestSumMatchesSpec_row_tie : Rows.digestSumMatchesSpecRow.laidByTextAt .later Tryd.pinned [.data, .data, .data] true :=
  OpenClaim.laidByTextAt_later rfl rfl tie noOwnUnsafe
theorem digestOfMatchesSpec_row_tie : Rows.digestOfMatchesSpecRow.laidByTextAt .later Tryd.pinned [.data, .data, .data] true :=
  OpenClaim.laidByTextAt_later rfl rfl tie noOwnUnsafe
theorem digestTreesMatchSpec_row_tie : Rows.digestTreesMatchSpecRow.laidByTextAt .later Tryd.pinned [.data, .data, .data] true :=
  OpenClaim.laidByTextAt_later rfl rfl tie noOwnUnsafe
theorem digestBinding_row_tie : Rows.digestBindingRow.laidByTextAt .later Tryd.pinned [.data, .data, .data] true :=
  OpenClaim.laidByTextAt_later rfl rfl tie noOwnUnsafe
theorem digestVerifyMatchesSpec_row_tie : Rows.digestVerifyMatchesSpecRow.laidByTextAt .later Tryd.pinned [.data, .data, .data] true :=
  OpenClaim.laidByTextAt_later rfl rfl tie noOwnUnsafe
theorem digestRootAppends_row_tie : Rows.digestRootAppendsRow.laidByTextAt .later Tryd.pinned [.data, .data, .data] true :=
  OpenClaim.laidByTextAt_later rfl rfl tie noOwnUnsafe
theorem tie2 : Tryd.prog.laidByTextLater [("solvent/digest.constants", Rows.laid_solvent_digest_constants), ("solvent/digest.start", Rows.laid_solvent_digest_start)] [.data, .data] true :=
  Program.laidByTextLater.sub seatTie1 ["solvent/digest.constants", "solvent/digest.start"] (by kernel_rfl) (by kernel_rfl)
theorem digestProofsAccepted_row_tie : Rows.digestProofsAcceptedRow.laidByTextAt .later Tryd.pinned [.data, .data] true :=
  OpenClaim.laidByTextAt_later rfl rfl tie2 noOwnUnsafe
theorem digestSumMatchesSpecUpto_row_tie : Rows.digestSumMatchesSpecUptoRow.laidByTextAt .later Tryd.pinned [.data, .data, .data] true :=
  OpenClaim.laidByTextAt_later rfl rfl tie noOwnUnsafe
theorem digestOfMatchesSpecUpto_row_tie : Rows.digestOfMatchesSpecUptoRow.laidByTextAt .later Tryd.pinned [.data, .data, .data] true :=
  OpenClaim.laidByTextAt_later rfl rfl tie noOwnUnsafe
theorem digestTreesMatchSpecUpto_row_tie : Rows.digestTreesMatchSpecUptoRow.laidByTextAt .later Tryd.pinned [.data, .data, .data] true :=
  OpenClaim.laidByTextAt_later rfl rfl tie noOwnUnsafe
theorem digestBindingUpto_row_tie : Rows.digestBindingUptoRow.laidByTextAt .later Tryd.pinned [.data, .data, .data] true :=
  OpenClaim.laidByTextAt_later rfl rfl tie noOwnUnsafe
theorem digestVerifyMatchesSpecUpto_row_tie : Rows.digestVerifyMatchesSpecUptoRow.laidByTextAt .later Tryd.pinned [.data, .data, .data] true :=
  OpenClaim.laidByTextAt_later rfl rfl tie noOwnUnsafe
theorem digestProofsAcceptedUpto_row_tie : Rows.digestProofsAcceptedUptoRow.laidByTextAt .later Tryd.pinned [.data, .data] true :=
  OpenClaim.laidByTextAt_later rfl rfl tie2 noOwnUnsafe
theorem digestRootAppendsUpto_row_tie : Rows.digestRootAppendsUptoRow.laidByTextAt .later Tryd.pinned [.data, .data, .data] true :=
  OpenClaim.laidByTextAt_later rfl rfl tie noOwnUnsafe
end Go.Proofs.YtfnbcchmembomaaDoor
