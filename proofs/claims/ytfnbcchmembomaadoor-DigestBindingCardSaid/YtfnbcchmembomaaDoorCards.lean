/-
  DERIVED. GIVEN WITH THE SEED: THE CARDS: each row of YtfnbcchmembomaaDoorRows.lean that lists a variable, with what it lists TIED to the program's text (the seventh form; the later family's looks); each row that meets fmt, with fmt's text TOLD by the authors' own Lean function (tested against real Go, not proved from fmt's source: count such statements apart). THE CARD IS WHAT COUNTS. Prove the row's statement (the work); the ties are given (YtfnbcchmembomaaDoorTie.lean); close each card by the builder's one call (the guide's Derived/Test/ToyasCard.lean, 'card_holds'). Laid BY PROGRAM, IN A SANDBOX (cutbox-door.mjs). By AI agents, Wed Nov 11 2026. No macro, syntax, notation, axiom, sorry.
-/
import Derived.Test.YtfnbcchmembomaaDoorRows
import GoSem.ClaimSeven
namespace Go.Proofs.YtfnbcchmembomaaDoor
namespace Rows

/-- THE TIED CARD OF 'solventlaw02.DigestSumMatchesSpec'. -/
def digestSumMatchesSpecCard : Claim7 := { stood := { row := digestSumMatchesSpecRow, standIns := [], harness := (true, "88ac00d95d977a6f8a6c811d06c90b0cf3d072d9df046579898ee039cafa067d"), looks := false }, kinds := [], alts := [], laidByText := true, laidKinds := [.data, .data, .data], laidTests := true, laidLooks := .later }
def DigestSumMatchesSpecCardSaid : Prop := Claim7.holds Tryd.pinned (.plain (OpenSpec.ofChange digestSumMatchesSpecSpec)) digestSumMatchesSpecCard

/-- THE TIED CARD OF 'solventlaw02.DigestOfMatchesSpec'. -/
def digestOfMatchesSpecCard : Claim7 := { stood := { row := digestOfMatchesSpecRow, standIns := [], harness := (true, "88ac00d95d977a6f8a6c811d06c90b0cf3d072d9df046579898ee039cafa067d"), looks := false }, kinds := [], alts := [], laidByText := true, laidKinds := [.data, .data, .data], laidTests := true, laidLooks := .later }
def DigestOfMatchesSpecCardSaid : Prop := Claim7.holds Tryd.pinned (.plain (OpenSpec.ofChange digestOfMatchesSpecSpec)) digestOfMatchesSpecCard

/-- THE TIED CARD OF 'solventlaw02.DigestTreesMatchSpec'. -/
def digestTreesMatchSpecCard : Claim7 := { stood := { row := digestTreesMatchSpecRow, standIns := [], harness := (true, "88ac00d95d977a6f8a6c811d06c90b0cf3d072d9df046579898ee039cafa067d"), looks := false }, kinds := [], alts := [], laidByText := true, laidKinds := [.data, .data, .data], laidTests := true, laidLooks := .later }
def DigestTreesMatchSpecCardSaid : Prop := Claim7.holds Tryd.pinned (.plain (OpenSpec.ofChange digestTreesMatchSpecSpec)) digestTreesMatchSpecCard

/-- THE TIED CARD OF 'solventlaw02.DigestBinding'. -/
def digestBindingCard : Claim7 := { stood := { row := digestBindingRow, standIns := [], harness := (true, "88ac00d95d977a6f8a6c811d06c90b0cf3d072d9df046579898ee039cafa067d"), looks := false }, kinds := [], alts := [], laidByText := true, laidKinds := [.data, .data, .data], laidTests := true, laidLooks := .later }
def DigestBindingCardSaid : Prop := Claim7.holds Tryd.pinned (.plain (OpenSpec.ofChange digestBindingSpec)) digestBindingCard

/-- THE TIED CARD OF 'solventlaw02.DigestVerifyMatchesSpec'. -/
def digestVerifyMatchesSpecCard : Claim7 := { stood := { row := digestVerifyMatchesSpecRow, standIns := [], harness := (true, "88ac00d95d977a6f8a6c811d06c90b0cf3d072d9df046579898ee039cafa067d"), looks := false }, kinds := [], alts := [], laidByText := true, laidKinds := [.data, .data, .data], laidTests := true, laidLooks := .later }
def DigestVerifyMatchesSpecCardSaid : Prop := Claim7.holds Tryd.pinned (.plain (OpenSpec.ofChange digestVerifyMatchesSpecSpec)) digestVerifyMatchesSpecCard

/-- THE TIED CARD OF 'solventlaw02.DigestProofsAccepted'. -/
def digestProofsAcceptedCard : Claim7 := { stood := { row := digestProofsAcceptedRow, standIns := [], harness := (true, "88ac00d95d977a6f8a6c811d06c90b0cf3d072d9df046579898ee039cafa067d"), looks := false }, kinds := [], alts := [], laidByText := true, laidKinds := [.data, .data], laidTests := true, laidLooks := .later }
def DigestProofsAcceptedCardSaid : Prop := Claim7.holds Tryd.pinned (.plain (OpenSpec.ofChange digestProofsAcceptedSpec)) digestProofsAcceptedCard

/-- THE TIED CARD OF 'solventlaw02.DigestRootAppends'. -/
def digestRootAppendsCard : Claim7 := { stood := { row := digestRootAppendsRow, standIns := [], harness := (true, "88ac00d95d977a6f8a6c811d06c90b0cf3d072d9df046579898ee039cafa067d"), looks := false }, kinds := [], alts := [], laidByText := true, laidKinds := [.data, .data, .data], laidTests := true, laidLooks := .later }
def DigestRootAppendsCardSaid : Prop := Claim7.holds Tryd.pinned (.plain (OpenSpec.ofChange digestRootAppendsSpec)) digestRootAppendsCard

/-- THE SECOND FORM's CARD OF 'solventlaw02.DigestSumMatchesSpec'. -/
def digestSumMatchesSpecUptoCard : Claim7 := { stood := { row := digestSumMatchesSpecUptoRow, standIns := [], harness := (true, "88ac00d95d977a6f8a6c811d06c90b0cf3d072d9df046579898ee039cafa067d"), looks := false }, kinds := [], alts := [], laidByText := true, laidKinds := [.data, .data, .data], laidTests := true, laidLooks := .later }
def DigestSumMatchesSpecUptoCardSaid : Prop := Claim7.holds Tryd.pinned (.plain (OpenSpec.upto digestSumMatchesSpecSpec)) digestSumMatchesSpecUptoCard

/-- THE SECOND FORM's CARD OF 'solventlaw02.DigestOfMatchesSpec'. -/
def digestOfMatchesSpecUptoCard : Claim7 := { stood := { row := digestOfMatchesSpecUptoRow, standIns := [], harness := (true, "88ac00d95d977a6f8a6c811d06c90b0cf3d072d9df046579898ee039cafa067d"), looks := false }, kinds := [], alts := [], laidByText := true, laidKinds := [.data, .data, .data], laidTests := true, laidLooks := .later }
def DigestOfMatchesSpecUptoCardSaid : Prop := Claim7.holds Tryd.pinned (.plain (OpenSpec.upto digestOfMatchesSpecSpec)) digestOfMatchesSpecUptoCard

/-- THE SECOND FORM's CARD OF 'solventlaw02.DigestTreesMatchSpec'. -/
def digestTreesMatchSpecUptoCard : Claim7 := { stood := { row := digestTreesMatchSpecUptoRow, standIns := [], harness := (true, "88ac00d95d977a6f8a6c811d06c90b0cf3d072d9df046579898ee039cafa067d"), looks := false }, kinds := [], alts := [], laidByText := true, laidKinds := [.data, .data, .data], laidTests := true, laidLooks := .later }
def DigestTreesMatchSpecUptoCardSaid : Prop := Claim7.holds Tryd.pinned (.plain (OpenSpec.upto digestTreesMatchSpecSpec)) digestTreesMatchSpecUptoCard

/-- THE SECOND FORM's CARD OF 'solventlaw02.DigestBinding'. -/
def digestBindingUptoCard : Claim7 := { stood := { row := digestBindingUptoRow, standIns := [], harness := (true, "88ac00d95d977a6f8a6c811d06c90b0cf3d072d9df046579898ee039cafa067d"), looks := false }, kinds := [], alts := [], laidByText := true, laidKinds := [.data, .data, .data], laidTests := true, laidLooks := .later }
def DigestBindingUptoCardSaid : Prop := Claim7.holds Tryd.pinned (.plain (OpenSpec.upto digestBindingSpec)) digestBindingUptoCard

/-- THE SECOND FORM's CARD OF 'solventlaw02.DigestVerifyMatchesSpec'. -/
def digestVerifyMatchesSpecUptoCard : Claim7 := { stood := { row := digestVerifyMatchesSpecUptoRow, standIns := [], harness := (true, "88ac00d95d977a6f8a6c811d06c90b0cf3d072d9df046579898ee039cafa067d"), looks := false }, kinds := [], alts := [], laidByText := true, laidKinds := [.data, .data, .data], laidTests := true, laidLooks := .later }
def DigestVerifyMatchesSpecUptoCardSaid : Prop := Claim7.holds Tryd.pinned (.plain (OpenSpec.upto digestVerifyMatchesSpecSpec)) digestVerifyMatchesSpecUptoCard

/-- THE SECOND FORM's CARD OF 'solventlaw02.DigestProofsAccepted'. -/
def digestProofsAcceptedUptoCard : Claim7 := { stood := { row := digestProofsAcceptedUptoRow, standIns := [], harness := (true, "88ac00d95d977a6f8a6c811d06c90b0cf3d072d9df046579898ee039cafa067d"), looks := false }, kinds := [], alts := [], laidByText := true, laidKinds := [.data, .data], laidTests := true, laidLooks := .later }
def DigestProofsAcceptedUptoCardSaid : Prop := Claim7.holds Tryd.pinned (.plain (OpenSpec.upto digestProofsAcceptedSpec)) digestProofsAcceptedUptoCard

/-- THE SECOND FORM's CARD OF 'solventlaw02.DigestRootAppends'. -/
def digestRootAppendsUptoCard : Claim7 := { stood := { row := digestRootAppendsUptoRow, standIns := [], harness := (true, "88ac00d95d977a6f8a6c811d06c90b0cf3d072d9df046579898ee039cafa067d"), looks := false }, kinds := [], alts := [], laidByText := true, laidKinds := [.data, .data, .data], laidTests := true, laidLooks := .later }
def DigestRootAppendsUptoCardSaid : Prop := Claim7.holds Tryd.pinned (.plain (OpenSpec.upto digestRootAppendsSpec)) digestRootAppendsUptoCard
end Rows
end Go.Proofs.YtfnbcchmembomaaDoor
