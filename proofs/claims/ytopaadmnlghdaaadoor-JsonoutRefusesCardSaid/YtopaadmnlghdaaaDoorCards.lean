/-
  DERIVED. GIVEN WITH THE SEED: THE CARDS: each row of YtopaadmnlghdaaaDoorRows.lean that lists a variable, with what it lists TIED to the program's text (the seventh form; the later family's looks); each row that meets fmt, with fmt's text TOLD by the authors' own Lean function (tested against real Go, not proved from fmt's source: count such statements apart). THE CARD IS WHAT COUNTS. Prove the row's statement (the work); the ties are given (YtopaadmnlghdaaaDoorTie.lean); close each card by the builder's one call (the guide's Derived/Test/ToyasCard.lean, 'card_holds'). Laid BY PROGRAM, IN A SANDBOX (cutbox-door.mjs). By AI agents, Wed Nov 11 2026. No macro, syntax, notation, axiom, sorry.
-/
import Derived.Test.YtopaadmnlghdaaaDoorRows
import GoSem.ClaimSeven
namespace Go.Proofs.YtopaadmnlghdaaaDoor
namespace Rows

/-- THE TIED CARD OF 'truchmanlaw12.JsonoutTells'. -/
def jsonoutTellsCard : Claim7 := { stood := { row := jsonoutTellsRow, standIns := [], harness := (true, "b1bf51c71b5e17dec6f09db367721afde68bde3758e0af62d092a99458a1c5fe"), looks := true }, kinds := [], alts := [], laidByText := true, laidKinds := [.data, .data, .data, .data, .pinned], laidTests := true, laidLooks := .later }
def JsonoutTellsCardSaid : Prop := Claim7.holds Tryd.pinned (.plain (OpenSpec.ofChange jsonoutTellsSpec)) jsonoutTellsCard

/-- THE TIED CARD OF 'truchmanlaw12.JsonoutRefuses'. -/
def jsonoutRefusesCard : Claim7 := { stood := { row := jsonoutRefusesRow, standIns := [], harness := (true, "b1bf51c71b5e17dec6f09db367721afde68bde3758e0af62d092a99458a1c5fe"), looks := true }, kinds := [], alts := [], laidByText := true, laidKinds := [.data, .data, .data, .data, .pinned], laidTests := true, laidLooks := .later }
def JsonoutRefusesCardSaid : Prop := Claim7.holds Tryd.pinned (.plain (OpenSpec.ofChange jsonoutRefusesSpec)) jsonoutRefusesCard

/-- THE TIED CARD OF 'truchmanlaw12.JsonoutEnds'. -/
def jsonoutEndsCard : Claim7 := { stood := { row := jsonoutEndsRow, standIns := [], harness := (true, "b1bf51c71b5e17dec6f09db367721afde68bde3758e0af62d092a99458a1c5fe"), looks := true }, kinds := [], alts := [], laidByText := true, laidKinds := [.data, .data, .data, .data, .pinned], laidTests := true, laidLooks := .later }
def JsonoutEndsCardSaid : Prop := Claim7.holds Tryd.pinned (.plain (OpenSpec.ofChange jsonoutEndsSpec)) jsonoutEndsCard

/-- THE TIED CARD OF 'truchmanlaw12.JsonoutPlain'. -/
def jsonoutPlainCard : Claim7 := { stood := { row := jsonoutPlainRow, standIns := [], harness := (true, "b1bf51c71b5e17dec6f09db367721afde68bde3758e0af62d092a99458a1c5fe"), looks := true }, kinds := [], alts := [], laidByText := true, laidKinds := [.data, .data, .data, .data, .pinned], laidTests := true, laidLooks := .later }
def JsonoutPlainCardSaid : Prop := Claim7.holds Tryd.pinned (.plain (OpenSpec.ofChange jsonoutPlainSpec)) jsonoutPlainCard

/-- THE TIED CARD OF 'truchmanlaw12.JsonoutBlobs'. -/
def jsonoutBlobsCard : Claim7 := { stood := { row := jsonoutBlobsRow, standIns := [], harness := (true, "b1bf51c71b5e17dec6f09db367721afde68bde3758e0af62d092a99458a1c5fe"), looks := true }, kinds := [], alts := [], laidByText := true, laidKinds := [.data, .data, .data, .data, .pinned], laidTests := true, laidLooks := .later }
def JsonoutBlobsCardSaid : Prop := Claim7.holds Tryd.pinned (.plain (OpenSpec.ofChange jsonoutBlobsSpec)) jsonoutBlobsCard

/-- THE TIED CARD OF 'truchmanlaw12.JsonoutKeys'. -/
def jsonoutKeysCard : Claim7 := { stood := { row := jsonoutKeysRow, standIns := [], harness := (true, "b1bf51c71b5e17dec6f09db367721afde68bde3758e0af62d092a99458a1c5fe"), looks := true }, kinds := [], alts := [], laidByText := true, laidKinds := [.data, .data, .data, .data, .pinned], laidTests := true, laidLooks := .later }
def JsonoutKeysCardSaid : Prop := Claim7.holds Tryd.pinned (.plain (OpenSpec.ofChange jsonoutKeysSpec)) jsonoutKeysCard

/-- THE SECOND FORM's CARD OF 'truchmanlaw12.JsonoutTells'. -/
def jsonoutTellsUptoCard : Claim7 := { stood := { row := jsonoutTellsUptoRow, standIns := [], harness := (true, "b1bf51c71b5e17dec6f09db367721afde68bde3758e0af62d092a99458a1c5fe"), looks := true }, kinds := [], alts := [], laidByText := true, laidKinds := [.data, .data, .data, .data, .pinned], laidTests := true, laidLooks := .later }
def JsonoutTellsUptoCardSaid : Prop := Claim7.holds Tryd.pinned (.plain (OpenSpec.upto jsonoutTellsSpec)) jsonoutTellsUptoCard

/-- THE SECOND FORM's CARD OF 'truchmanlaw12.JsonoutRefuses'. -/
def jsonoutRefusesUptoCard : Claim7 := { stood := { row := jsonoutRefusesUptoRow, standIns := [], harness := (true, "b1bf51c71b5e17dec6f09db367721afde68bde3758e0af62d092a99458a1c5fe"), looks := true }, kinds := [], alts := [], laidByText := true, laidKinds := [.data, .data, .data, .data, .pinned], laidTests := true, laidLooks := .later }
def JsonoutRefusesUptoCardSaid : Prop := Claim7.holds Tryd.pinned (.plain (OpenSpec.upto jsonoutRefusesSpec)) jsonoutRefusesUptoCard

/-- THE SECOND FORM's CARD OF 'truchmanlaw12.JsonoutEnds'. -/
def jsonoutEndsUptoCard : Claim7 := { stood := { row := jsonoutEndsUptoRow, standIns := [], harness := (true, "b1bf51c71b5e17dec6f09db367721afde68bde3758e0af62d092a99458a1c5fe"), looks := true }, kinds := [], alts := [], laidByText := true, laidKinds := [.data, .data, .data, .data, .pinned], laidTests := true, laidLooks := .later }
def JsonoutEndsUptoCardSaid : Prop := Claim7.holds Tryd.pinned (.plain (OpenSpec.upto jsonoutEndsSpec)) jsonoutEndsUptoCard

/-- THE SECOND FORM's CARD OF 'truchmanlaw12.JsonoutPlain'. -/
def jsonoutPlainUptoCard : Claim7 := { stood := { row := jsonoutPlainUptoRow, standIns := [], harness := (true, "b1bf51c71b5e17dec6f09db367721afde68bde3758e0af62d092a99458a1c5fe"), looks := true }, kinds := [], alts := [], laidByText := true, laidKinds := [.data, .data, .data, .data, .pinned], laidTests := true, laidLooks := .later }
def JsonoutPlainUptoCardSaid : Prop := Claim7.holds Tryd.pinned (.plain (OpenSpec.upto jsonoutPlainSpec)) jsonoutPlainUptoCard

/-- THE SECOND FORM's CARD OF 'truchmanlaw12.JsonoutBlobs'. -/
def jsonoutBlobsUptoCard : Claim7 := { stood := { row := jsonoutBlobsUptoRow, standIns := [], harness := (true, "b1bf51c71b5e17dec6f09db367721afde68bde3758e0af62d092a99458a1c5fe"), looks := true }, kinds := [], alts := [], laidByText := true, laidKinds := [.data, .data, .data, .data, .pinned], laidTests := true, laidLooks := .later }
def JsonoutBlobsUptoCardSaid : Prop := Claim7.holds Tryd.pinned (.plain (OpenSpec.upto jsonoutBlobsSpec)) jsonoutBlobsUptoCard

/-- THE SECOND FORM's CARD OF 'truchmanlaw12.JsonoutKeys'. -/
def jsonoutKeysUptoCard : Claim7 := { stood := { row := jsonoutKeysUptoRow, standIns := [], harness := (true, "b1bf51c71b5e17dec6f09db367721afde68bde3758e0af62d092a99458a1c5fe"), looks := true }, kinds := [], alts := [], laidByText := true, laidKinds := [.data, .data, .data, .data, .pinned], laidTests := true, laidLooks := .later }
def JsonoutKeysUptoCardSaid : Prop := Claim7.holds Tryd.pinned (.plain (OpenSpec.upto jsonoutKeysSpec)) jsonoutKeysUptoCard
end Rows
end Go.Proofs.YtopaadmnlghdaaaDoor
