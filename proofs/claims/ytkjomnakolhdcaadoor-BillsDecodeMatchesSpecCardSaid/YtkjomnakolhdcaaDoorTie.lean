/-
  DERIVED. GIVEN WITH THE SEED: THE PROGRAM's TIES (one call each: nine closed facts by the kernel) AND EACH ROW's TIE, after the 31st guide's Derived/Test/Toyas{Tie, Card}.lean. No idea stands in it: it is a product of the set-up. Laid BY PROGRAM, IN A SANDBOX (cutbox-door.mjs). By AI agents, Wed Nov 11 2026. No macro, syntax, notation, axiom, sorry.
-/
import Derived.Test.YtkjomnakolhdcaaDoorRows
import Derived.LaidByTextLater
import Derived.SevenTiedAt
import Derived.LaidSub
import Derived.LaidOnce
namespace Go.Proofs.YtkjomnakolhdcaaDoor
open Go
set_option maxRecDepth 100000
theorem seatTie1 : Tryd.prog.laidByTextLater [("solvent/solventref02.constants", Rows.laid_solvent_solventref02_constants), ("solvent/digest.constants", Rows.laid_solvent_digest_constants), ("solvent/digest.start", Rows.laid_solvent_digest_start)] [.data, .data, .data] true :=
  Program.laidByTextLater_by_one 24 8 65 (by kernel_rfl) (by kernel_rfl) (by kernel_rfl) (by kernel_rfl) (by kernel_rfl) (by kernel_rfl) (fun _ _ => by kernel_rfl)
theorem noOwnUnsafe : Tryd.pinned.checked.prog.headLifts.contains "ownunsafe" = false := by kernel_rfl
theorem tie : Tryd.prog.laidByTextLater [("solvent/digest.constants", Rows.laid_solvent_digest_constants), ("solvent/digest.start", Rows.laid_solvent_digest_start)] [.data, .data] true :=
  Program.laidByTextLater.sub seatTie1 ["solvent/digest.constants", "solvent/digest.start"] (by kernel_rfl) (by kernel_rfl)
theorem billsAddUp_row_tie : Rows.billsAddUpRow.laidByTextAt .later Tryd.pinned [.data, .data] true :=
  OpenClaim.laidByTextAt_later rfl rfl tie noOwnUnsafe
theorem billsCreditsBalance_row_tie : Rows.billsCreditsBalanceRow.laidByTextAt .later Tryd.pinned [.data, .data] true :=
  OpenClaim.laidByTextAt_later rfl rfl tie noOwnUnsafe
theorem billsDecodeMatchesSpec_row_tie : Rows.billsDecodeMatchesSpecRow.laidByTextAt .later Tryd.pinned [.data, .data] true :=
  OpenClaim.laidByTextAt_later rfl rfl tie noOwnUnsafe
theorem tie2 : Tryd.prog.laidByTextLater [("solvent/solventref02.constants", Rows.laid_solvent_solventref02_constants), ("solvent/digest.constants", Rows.laid_solvent_digest_constants), ("solvent/digest.start", Rows.laid_solvent_digest_start)] [.data, .data, .data] true :=
  Program.laidByTextLater.sub seatTie1 ["solvent/solventref02.constants", "solvent/digest.constants", "solvent/digest.start"] (by kernel_rfl) (by kernel_rfl)
theorem billsPlay_row_tie : Rows.billsPlayRow.laidByTextAt .later Tryd.pinned [.data, .data, .data] true :=
  OpenClaim.laidByTextAt_later rfl rfl tie2 noOwnUnsafe
theorem billsReplay_row_tie : Rows.billsReplayRow.laidByTextAt .later Tryd.pinned [.data, .data, .data] true :=
  OpenClaim.laidByTextAt_later rfl rfl tie2 noOwnUnsafe
theorem billsReplayMatchesSpec_row_tie : Rows.billsReplayMatchesSpecRow.laidByTextAt .later Tryd.pinned [.data, .data, .data] true :=
  OpenClaim.laidByTextAt_later rfl rfl tie2 noOwnUnsafe
theorem billsAddUpUpto_row_tie : Rows.billsAddUpUptoRow.laidByTextAt .later Tryd.pinned [.data, .data] true :=
  OpenClaim.laidByTextAt_later rfl rfl tie noOwnUnsafe
theorem billsCreditsBalanceUpto_row_tie : Rows.billsCreditsBalanceUptoRow.laidByTextAt .later Tryd.pinned [.data, .data] true :=
  OpenClaim.laidByTextAt_later rfl rfl tie noOwnUnsafe
theorem billsPlayUpto_row_tie : Rows.billsPlayUptoRow.laidByTextAt .later Tryd.pinned [.data, .data, .data] true :=
  OpenClaim.laidByTextAt_later rfl rfl tie2 noOwnUnsafe
theorem billsReplayUpto_row_tie : Rows.billsReplayUptoRow.laidByTextAt .later Tryd.pinned [.data, .data, .data] true :=
  OpenClaim.laidByTextAt_later rfl rfl tie2 noOwnUnsafe
theorem billsReplayMatchesSpecUpto_row_tie : Rows.billsReplayMatchesSpecUptoRow.laidByTextAt .later Tryd.pinned [.data, .data, .data] true :=
  OpenClaim.laidByTextAt_later rfl rfl tie2 noOwnUnsafe
theorem billsDecodeMatchesSpecUpto_row_tie : Rows.billsDecodeMatchesSpecUptoRow.laidByTextAt .later Tryd.pinned [.data, .data] true :=
  OpenClaim.laidByTextAt_later rfl rfl tie noOwnUnsafe
end Go.Proofs.YtkjomnakolhdcaaDoor
