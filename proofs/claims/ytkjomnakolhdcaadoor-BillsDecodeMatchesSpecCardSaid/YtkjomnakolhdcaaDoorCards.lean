/-
  DERIVED. GIVEN WITH THE SEED: THE CARDS: each row of YtkjomnakolhdcaaDoorRows.lean that lists a variable, with what it lists TIED to the program's text (the seventh form; the later family's looks); each row that meets fmt, with fmt's text TOLD by the authors' own Lean function (tested against real Go, not proved from fmt's source: count such statements apart). THE CARD IS WHAT COUNTS. Prove the row's statement (the work); the ties are given (YtkjomnakolhdcaaDoorTie.lean); close each card by the builder's one call (the guide's Derived/Test/ToyasCard.lean, 'card_holds'). Laid BY PROGRAM, IN A SANDBOX (cutbox-door.mjs). By AI agents, Wed Nov 11 2026. No macro, syntax, notation, axiom, sorry.
-/
import Derived.Test.YtkjomnakolhdcaaDoorRows
import GoSem.ClaimSeven
namespace Go.Proofs.YtkjomnakolhdcaaDoor
namespace Rows

/-- THE TIED CARD OF 'solventlaw35.BillsAddUp'. -/
def billsAddUpCard : Claim7 := { stood := { row := billsAddUpRow, standIns := [], harness := (true, "7272de4c697edc8f31bd9f5d1a23d7c662e2bcf84c000ce281711e885afa8777"), looks := false }, kinds := [], alts := [], laidByText := true, laidKinds := [.data, .data], laidTests := true, laidLooks := .later }
def BillsAddUpCardSaid : Prop := Claim7.holds Tryd.pinned (.plain (OpenSpec.ofChange billsAddUpSpec)) billsAddUpCard

/-- THE TIED CARD OF 'solventlaw35.BillsCreditsBalance'. -/
def billsCreditsBalanceCard : Claim7 := { stood := { row := billsCreditsBalanceRow, standIns := [], harness := (true, "7272de4c697edc8f31bd9f5d1a23d7c662e2bcf84c000ce281711e885afa8777"), looks := false }, kinds := [], alts := [], laidByText := true, laidKinds := [.data, .data], laidTests := true, laidLooks := .later }
def BillsCreditsBalanceCardSaid : Prop := Claim7.holds Tryd.pinned (.plain (OpenSpec.ofChange billsCreditsBalanceSpec)) billsCreditsBalanceCard

/-- THE TIED CARD OF 'solventlaw35.BillsPlay'. -/
def billsPlayCard : Claim7 := { stood := { row := billsPlayRow, standIns := [], harness := (true, "7272de4c697edc8f31bd9f5d1a23d7c662e2bcf84c000ce281711e885afa8777"), looks := false }, kinds := [], alts := [], laidByText := true, laidKinds := [.data, .data, .data], laidTests := true, laidLooks := .later }
def BillsPlayCardSaid : Prop := Claim7.holds Tryd.pinned (.plain (OpenSpec.ofChange billsPlaySpec)) billsPlayCard

/-- THE TIED CARD OF 'solventlaw35.BillsReplay'. -/
def billsReplayCard : Claim7 := { stood := { row := billsReplayRow, standIns := [], harness := (true, "7272de4c697edc8f31bd9f5d1a23d7c662e2bcf84c000ce281711e885afa8777"), looks := false }, kinds := [], alts := [], laidByText := true, laidKinds := [.data, .data, .data], laidTests := true, laidLooks := .later }
def BillsReplayCardSaid : Prop := Claim7.holds Tryd.pinned (.plain (OpenSpec.ofChange billsReplaySpec)) billsReplayCard

/-- THE TIED CARD OF 'solventlaw35.BillsReplayMatchesSpec'. -/
def billsReplayMatchesSpecCard : Claim7 := { stood := { row := billsReplayMatchesSpecRow, standIns := [], harness := (true, "7272de4c697edc8f31bd9f5d1a23d7c662e2bcf84c000ce281711e885afa8777"), looks := false }, kinds := [], alts := [], laidByText := true, laidKinds := [.data, .data, .data], laidTests := true, laidLooks := .later }
def BillsReplayMatchesSpecCardSaid : Prop := Claim7.holds Tryd.pinned (.plain (OpenSpec.ofChange billsReplayMatchesSpecSpec)) billsReplayMatchesSpecCard

/-- THE TIED CARD OF 'solventlaw35.BillsDecodeMatchesSpec'. -/
def billsDecodeMatchesSpecCard : Claim7 := { stood := { row := billsDecodeMatchesSpecRow, standIns := [], harness := (true, "7272de4c697edc8f31bd9f5d1a23d7c662e2bcf84c000ce281711e885afa8777"), looks := false }, kinds := [], alts := [], laidByText := true, laidKinds := [.data, .data], laidTests := true, laidLooks := .later }
def BillsDecodeMatchesSpecCardSaid : Prop := Claim7.holds Tryd.pinned (.plain (OpenSpec.ofChange billsDecodeMatchesSpecSpec)) billsDecodeMatchesSpecCard

/-- THE SECOND FORM's CARD OF 'solventlaw35.BillsAddUp'. -/
def billsAddUpUptoCard : Claim7 := { stood := { row := billsAddUpUptoRow, standIns := [], harness := (true, "7272de4c697edc8f31bd9f5d1a23d7c662e2bcf84c000ce281711e885afa8777"), looks := false }, kinds := [], alts := [], laidByText := true, laidKinds := [.data, .data], laidTests := true, laidLooks := .later }
def BillsAddUpUptoCardSaid : Prop := Claim7.holds Tryd.pinned (.plain (OpenSpec.upto billsAddUpSpec)) billsAddUpUptoCard

/-- THE SECOND FORM's CARD OF 'solventlaw35.BillsCreditsBalance'. -/
def billsCreditsBalanceUptoCard : Claim7 := { stood := { row := billsCreditsBalanceUptoRow, standIns := [], harness := (true, "7272de4c697edc8f31bd9f5d1a23d7c662e2bcf84c000ce281711e885afa8777"), looks := false }, kinds := [], alts := [], laidByText := true, laidKinds := [.data, .data], laidTests := true, laidLooks := .later }
def BillsCreditsBalanceUptoCardSaid : Prop := Claim7.holds Tryd.pinned (.plain (OpenSpec.upto billsCreditsBalanceSpec)) billsCreditsBalanceUptoCard

/-- THE SECOND FORM's CARD OF 'solventlaw35.BillsPlay'. -/
def billsPlayUptoCard : Claim7 := { stood := { row := billsPlayUptoRow, standIns := [], harness := (true, "7272de4c697edc8f31bd9f5d1a23d7c662e2bcf84c000ce281711e885afa8777"), looks := false }, kinds := [], alts := [], laidByText := true, laidKinds := [.data, .data, .data], laidTests := true, laidLooks := .later }
def BillsPlayUptoCardSaid : Prop := Claim7.holds Tryd.pinned (.plain (OpenSpec.upto billsPlaySpec)) billsPlayUptoCard

/-- THE SECOND FORM's CARD OF 'solventlaw35.BillsReplay'. -/
def billsReplayUptoCard : Claim7 := { stood := { row := billsReplayUptoRow, standIns := [], harness := (true, "7272de4c697edc8f31bd9f5d1a23d7c662e2bcf84c000ce281711e885afa8777"), looks := false }, kinds := [], alts := [], laidByText := true, laidKinds := [.data, .data, .data], laidTests := true, laidLooks := .later }
def BillsReplayUptoCardSaid : Prop := Claim7.holds Tryd.pinned (.plain (OpenSpec.upto billsReplaySpec)) billsReplayUptoCard

/-- THE SECOND FORM's CARD OF 'solventlaw35.BillsReplayMatchesSpec'. -/
def billsReplayMatchesSpecUptoCard : Claim7 := { stood := { row := billsReplayMatchesSpecUptoRow, standIns := [], harness := (true, "7272de4c697edc8f31bd9f5d1a23d7c662e2bcf84c000ce281711e885afa8777"), looks := false }, kinds := [], alts := [], laidByText := true, laidKinds := [.data, .data, .data], laidTests := true, laidLooks := .later }
def BillsReplayMatchesSpecUptoCardSaid : Prop := Claim7.holds Tryd.pinned (.plain (OpenSpec.upto billsReplayMatchesSpecSpec)) billsReplayMatchesSpecUptoCard

/-- THE SECOND FORM's CARD OF 'solventlaw35.BillsDecodeMatchesSpec'. -/
def billsDecodeMatchesSpecUptoCard : Claim7 := { stood := { row := billsDecodeMatchesSpecUptoRow, standIns := [], harness := (true, "7272de4c697edc8f31bd9f5d1a23d7c662e2bcf84c000ce281711e885afa8777"), looks := false }, kinds := [], alts := [], laidByText := true, laidKinds := [.data, .data], laidTests := true, laidLooks := .later }
def BillsDecodeMatchesSpecUptoCardSaid : Prop := Claim7.holds Tryd.pinned (.plain (OpenSpec.upto billsDecodeMatchesSpecSpec)) billsDecodeMatchesSpecUptoCard
end Rows
end Go.Proofs.YtkjomnakolhdcaaDoor
