/-
  DERIVED. GIVEN WITH THE SEED: THE CARDS: each row of YtnpbleaikdpjiaaDoorRows.lean that lists a variable, with what it lists TIED to the program's text (the seventh form; the later family's looks); each row that meets fmt, with fmt's text TOLD by the authors' own Lean function (tested against real Go, not proved from fmt's source: count such statements apart). THE CARD IS WHAT COUNTS. Prove the row's statement (the work); the ties are given (YtnpbleaikdpjiaaDoorTie.lean); close each card by the builder's one call (the guide's Derived/Test/ToyasCard.lean, 'card_holds'). Laid BY PROGRAM, IN A SANDBOX (cutbox-door.mjs). By AI agents, Wed Nov 11 2026. No macro, syntax, notation, axiom, sorry.
-/
import Derived.Test.YtnpbleaikdpjiaaDoorRows
import GoSem.ClaimSeven
namespace Go.Proofs.YtnpbleaikdpjiaaDoor
namespace Rows

/-- THE TIED CARD OF 'truchmanlaw5.EscapeTells'. -/
def escapeTellsCard : Claim7 := { stood := { row := escapeTellsRow, standIns := [], harness := (true, "de6b067c8be0717b5d7c963159ff28d89188e1e7f68c95dbfae25dfe712239a1"), looks := false }, kinds := [], alts := [], laidByText := true, laidKinds := [.data, .pinned], laidTests := true, laidLooks := .later }
def EscapeTellsCardSaid : Prop := Claim7.holds Tryd.pinned (.plain (OpenSpec.ofChange escapeTellsSpec)) escapeTellsCard

/-- THE TIED CARD OF 'truchmanlaw5.EscapeBack'. -/
def escapeBackCard : Claim7 := { stood := { row := escapeBackRow, standIns := [], harness := (true, "de6b067c8be0717b5d7c963159ff28d89188e1e7f68c95dbfae25dfe712239a1"), looks := false }, kinds := [], alts := [], laidByText := true, laidKinds := [.data, .pinned], laidTests := true, laidLooks := .later }
def EscapeBackCardSaid : Prop := Claim7.holds Tryd.pinned (.plain (OpenSpec.ofChange escapeBackSpec)) escapeBackCard

/-- THE TIED CARD OF 'truchmanlaw5.EscapePairs'. -/
def escapePairsCard : Claim7 := { stood := { row := escapePairsRow, standIns := [], harness := (true, "de6b067c8be0717b5d7c963159ff28d89188e1e7f68c95dbfae25dfe712239a1"), looks := false }, kinds := [], alts := [], laidByText := true, laidKinds := [.data, .pinned], laidTests := true, laidLooks := .later }
def EscapePairsCardSaid : Prop := Claim7.holds Tryd.pinned (.plain (OpenSpec.ofChange escapePairsSpec)) escapePairsCard

/-- THE TIED CARD OF 'truchmanlaw5.EscapeSigns'. -/
def escapeSignsCard : Claim7 := { stood := { row := escapeSignsRow, standIns := [], harness := (true, "de6b067c8be0717b5d7c963159ff28d89188e1e7f68c95dbfae25dfe712239a1"), looks := false }, kinds := [], alts := [], laidByText := true, laidKinds := [.data, .pinned], laidTests := true, laidLooks := .later }
def EscapeSignsCardSaid : Prop := Claim7.holds Tryd.pinned (.plain (OpenSpec.ofChange escapeSignsSpec)) escapeSignsCard

/-- THE TIED CARD OF 'truchmanlaw5.EscapeShort'. -/
def escapeShortCard : Claim7 := { stood := { row := escapeShortRow, standIns := [], harness := (true, "de6b067c8be0717b5d7c963159ff28d89188e1e7f68c95dbfae25dfe712239a1"), looks := false }, kinds := [], alts := [], laidByText := true, laidKinds := [.data, .pinned], laidTests := true, laidLooks := .later }
def EscapeShortCardSaid : Prop := Claim7.holds Tryd.pinned (.plain (OpenSpec.ofChange escapeShortSpec)) escapeShortCard

/-- THE TIED CARD OF 'truchmanlaw5.EscapeJoins'. -/
def escapeJoinsCard : Claim7 := { stood := { row := escapeJoinsRow, standIns := [], harness := (true, "de6b067c8be0717b5d7c963159ff28d89188e1e7f68c95dbfae25dfe712239a1"), looks := false }, kinds := [], alts := [], laidByText := true, laidKinds := [.data, .pinned], laidTests := true, laidLooks := .later }
def EscapeJoinsCardSaid : Prop := Claim7.holds Tryd.pinned (.plain (OpenSpec.ofChange escapeJoinsSpec)) escapeJoinsCard

/-- THE TIED CARD OF 'truchmanlaw5.EscapeOpens'. -/
def escapeOpensCard : Claim7 := { stood := { row := escapeOpensRow, standIns := [], harness := (true, "de6b067c8be0717b5d7c963159ff28d89188e1e7f68c95dbfae25dfe712239a1"), looks := false }, kinds := [], alts := [], laidByText := true, laidKinds := [.data, .pinned], laidTests := true, laidLooks := .later }
def EscapeOpensCardSaid : Prop := Claim7.holds Tryd.pinned (.plain (OpenSpec.ofChange escapeOpensSpec)) escapeOpensCard

/-- THE SECOND FORM's CARD OF 'truchmanlaw5.EscapeTells'. -/
def escapeTellsUptoCard : Claim7 := { stood := { row := escapeTellsUptoRow, standIns := [], harness := (true, "de6b067c8be0717b5d7c963159ff28d89188e1e7f68c95dbfae25dfe712239a1"), looks := false }, kinds := [], alts := [], laidByText := true, laidKinds := [.data, .pinned], laidTests := true, laidLooks := .later }
def EscapeTellsUptoCardSaid : Prop := Claim7.holds Tryd.pinned (.plain (OpenSpec.upto escapeTellsSpec)) escapeTellsUptoCard

/-- THE SECOND FORM's CARD OF 'truchmanlaw5.EscapeBack'. -/
def escapeBackUptoCard : Claim7 := { stood := { row := escapeBackUptoRow, standIns := [], harness := (true, "de6b067c8be0717b5d7c963159ff28d89188e1e7f68c95dbfae25dfe712239a1"), looks := false }, kinds := [], alts := [], laidByText := true, laidKinds := [.data, .pinned], laidTests := true, laidLooks := .later }
def EscapeBackUptoCardSaid : Prop := Claim7.holds Tryd.pinned (.plain (OpenSpec.upto escapeBackSpec)) escapeBackUptoCard

/-- THE SECOND FORM's CARD OF 'truchmanlaw5.EscapePairs'. -/
def escapePairsUptoCard : Claim7 := { stood := { row := escapePairsUptoRow, standIns := [], harness := (true, "de6b067c8be0717b5d7c963159ff28d89188e1e7f68c95dbfae25dfe712239a1"), looks := false }, kinds := [], alts := [], laidByText := true, laidKinds := [.data, .pinned], laidTests := true, laidLooks := .later }
def EscapePairsUptoCardSaid : Prop := Claim7.holds Tryd.pinned (.plain (OpenSpec.upto escapePairsSpec)) escapePairsUptoCard

/-- THE SECOND FORM's CARD OF 'truchmanlaw5.EscapeSigns'. -/
def escapeSignsUptoCard : Claim7 := { stood := { row := escapeSignsUptoRow, standIns := [], harness := (true, "de6b067c8be0717b5d7c963159ff28d89188e1e7f68c95dbfae25dfe712239a1"), looks := false }, kinds := [], alts := [], laidByText := true, laidKinds := [.data, .pinned], laidTests := true, laidLooks := .later }
def EscapeSignsUptoCardSaid : Prop := Claim7.holds Tryd.pinned (.plain (OpenSpec.upto escapeSignsSpec)) escapeSignsUptoCard

/-- THE SECOND FORM's CARD OF 'truchmanlaw5.EscapeShort'. -/
def escapeShortUptoCard : Claim7 := { stood := { row := escapeShortUptoRow, standIns := [], harness := (true, "de6b067c8be0717b5d7c963159ff28d89188e1e7f68c95dbfae25dfe712239a1"), looks := false }, kinds := [], alts := [], laidByText := true, laidKinds := [.data, .pinned], laidTests := true, laidLooks := .later }
def EscapeShortUptoCardSaid : Prop := Claim7.holds Tryd.pinned (.plain (OpenSpec.upto escapeShortSpec)) escapeShortUptoCard

/-- THE SECOND FORM's CARD OF 'truchmanlaw5.EscapeJoins'. -/
def escapeJoinsUptoCard : Claim7 := { stood := { row := escapeJoinsUptoRow, standIns := [], harness := (true, "de6b067c8be0717b5d7c963159ff28d89188e1e7f68c95dbfae25dfe712239a1"), looks := false }, kinds := [], alts := [], laidByText := true, laidKinds := [.data, .pinned], laidTests := true, laidLooks := .later }
def EscapeJoinsUptoCardSaid : Prop := Claim7.holds Tryd.pinned (.plain (OpenSpec.upto escapeJoinsSpec)) escapeJoinsUptoCard

/-- THE SECOND FORM's CARD OF 'truchmanlaw5.EscapeOpens'. -/
def escapeOpensUptoCard : Claim7 := { stood := { row := escapeOpensUptoRow, standIns := [], harness := (true, "de6b067c8be0717b5d7c963159ff28d89188e1e7f68c95dbfae25dfe712239a1"), looks := false }, kinds := [], alts := [], laidByText := true, laidKinds := [.data, .pinned], laidTests := true, laidLooks := .later }
def EscapeOpensUptoCardSaid : Prop := Claim7.holds Tryd.pinned (.plain (OpenSpec.upto escapeOpensSpec)) escapeOpensUptoCard
end Rows
end Go.Proofs.YtnpbleaikdpjiaaDoor
