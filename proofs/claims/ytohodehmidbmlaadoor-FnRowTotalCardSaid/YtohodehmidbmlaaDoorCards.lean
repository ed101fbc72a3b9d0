/-
  DERIVED. GIVEN WITH THE SEED: THE CARDS: each row of YtohodehmidbmlaaDoorRows.lean that lists a variable, with what it lists TIED to the program's text (the seventh form; the later family's looks); each row that meets fmt, with fmt's text TOLD by the authors' own Lean function (tested against real Go, not proved from fmt's source: count such statements apart). THE CARD IS WHAT COUNTS. Prove the row's statement (the work); the ties are given (YtohodehmidbmlaaDoorTie.lean); close each card by the builder's one call (the guide's Derived/Test/ToyasCard.lean, 'card_holds'). Laid BY PROGRAM, IN A SANDBOX (cutbox-door.mjs). By AI agents, Wed Nov 11 2026. No macro, syntax, notation, axiom, sorry.
-/
import Derived.Test.YtohodehmidbmlaaDoorRows
import GoSem.ClaimSeven
namespace Go.Proofs.YtohodehmidbmlaaDoor
namespace Rows

/-- THE TIED CARD OF 'laws.FnExactRowOf'. -/
def fnExactRowOfCard : Claim7 := { stood := { row := fnExactRowOfRow, standIns := [], harness := (true, "b0fe7e77d2fb8f217587ca2dabefdbd47e6c847dea86bac35998bd8c6436ccbe"), looks := true }, kinds := [], alts := [], laidByText := true, laidKinds := [.data, .data, .data, .sentinel, .sentinel], laidTests := true, laidLooks := .later }
def FnExactRowOfCardSaid : Prop := Claim7.holds Tryd.pinned (.plain (OpenSpec.ofChange fnExactRowOfSpec)) fnExactRowOfCard

/-- THE TIED CARD OF 'laws.FnSchemaRead'. -/
def fnSchemaReadCard : Claim7 := { stood := { row := fnSchemaReadRow, standIns := [], harness := (true, "b0fe7e77d2fb8f217587ca2dabefdbd47e6c847dea86bac35998bd8c6436ccbe"), looks := true }, kinds := [], alts := [], laidByText := true, laidKinds := [.data, .data, .data, .sentinel, .sentinel], laidTests := true, laidLooks := .later }
def FnSchemaReadCardSaid : Prop := Claim7.holds Tryd.pinned (.plain (OpenSpec.ofChange fnSchemaReadSpec)) fnSchemaReadCard

/-- THE TIED CARD OF 'laws.FnExactSchemaOf'. -/
def fnExactSchemaOfCard : Claim7 := { stood := { row := fnExactSchemaOfRow, standIns := [], harness := (true, "b0fe7e77d2fb8f217587ca2dabefdbd47e6c847dea86bac35998bd8c6436ccbe"), looks := true }, kinds := [], alts := [], laidByText := true, laidKinds := [.data, .data, .data, .sentinel, .sentinel], laidTests := true, laidLooks := .later }
def FnExactSchemaOfCardSaid : Prop := Claim7.holds Tryd.pinned (.plain (OpenSpec.ofChange fnExactSchemaOfSpec)) fnExactSchemaOfCard

/-- THE TIED CARD OF 'laws.FnExactDigits'. -/
def fnExactDigitsCard : Claim7 := { stood := { row := fnExactDigitsRow, standIns := [], harness := (true, "b0fe7e77d2fb8f217587ca2dabefdbd47e6c847dea86bac35998bd8c6436ccbe"), looks := true }, kinds := [], alts := [], laidByText := true, laidKinds := [.data, .data, .data], laidTests := true, laidLooks := .later }
def FnExactDigitsCardSaid : Prop := Claim7.holds Tryd.pinned (.plain (OpenSpec.ofChange fnExactDigitsSpec)) fnExactDigitsCard

/-- THE TIED CARD OF 'laws.FnExactFracText'. -/
def fnExactFracTextCard : Claim7 := { stood := { row := fnExactFracTextRow, standIns := [], harness := (true, "b0fe7e77d2fb8f217587ca2dabefdbd47e6c847dea86bac35998bd8c6436ccbe"), looks := true }, kinds := [], alts := [], laidByText := true, laidKinds := [.data, .data, .data], laidTests := true, laidLooks := .later }
def FnExactFracTextCardSaid : Prop := Claim7.holds Tryd.pinned (.plain (OpenSpec.ofChange fnExactFracTextSpec)) fnExactFracTextCard

/-- THE TIED CARD OF 'laws.FnExactCellText'. -/
def fnExactCellTextCard : Claim7 := { stood := { row := fnExactCellTextRow, standIns := [], harness := (true, "b0fe7e77d2fb8f217587ca2dabefdbd47e6c847dea86bac35998bd8c6436ccbe"), looks := true }, kinds := [], alts := [], laidByText := true, laidKinds := [.data, .data, .data], laidTests := true, laidLooks := .later }
def FnExactCellTextCardSaid : Prop := Claim7.holds Tryd.pinned (.plain (OpenSpec.ofChange fnExactCellTextSpec)) fnExactCellTextCard

/-- THE TIED CARD OF 'laws.FnExactNumber'. -/
def fnExactNumberCard : Claim7 := { stood := { row := fnExactNumberRow, standIns := [], harness := (true, "b0fe7e77d2fb8f217587ca2dabefdbd47e6c847dea86bac35998bd8c6436ccbe"), looks := true }, kinds := [], alts := [], laidByText := true, laidKinds := [.data, .data, .data, .sentinel, .sentinel], laidTests := true, laidLooks := .later }
def FnExactNumberCardSaid : Prop := Claim7.holds Tryd.pinned (.plain (OpenSpec.ofChange fnExactNumberSpec)) fnExactNumberCard

/-- THE TIED CARD OF 'laws.FnExactAttrText'. -/
def fnExactAttrTextCard : Claim7 := { stood := { row := fnExactAttrTextRow, standIns := [], harness := (true, "b0fe7e77d2fb8f217587ca2dabefdbd47e6c847dea86bac35998bd8c6436ccbe"), looks := true }, kinds := [], alts := [], laidByText := true, laidKinds := [.data, .data, .data], laidTests := true, laidLooks := .later }
def FnExactAttrTextCardSaid : Prop := Claim7.holds Tryd.pinned (.plain (OpenSpec.ofChange fnExactAttrTextSpec)) fnExactAttrTextCard

/-- THE TIED CARD OF 'laws.FnExactSigned'. -/
def fnExactSignedCard : Claim7 := { stood := { row := fnExactSignedRow, standIns := [], harness := (true, "b0fe7e77d2fb8f217587ca2dabefdbd47e6c847dea86bac35998bd8c6436ccbe"), looks := true }, kinds := [], alts := [], laidByText := true, laidKinds := [.data, .data, .data, .sentinel, .sentinel], laidTests := true, laidLooks := .later }
def FnExactSignedCardSaid : Prop := Claim7.holds Tryd.pinned (.plain (OpenSpec.ofChange fnExactSignedSpec)) fnExactSignedCard

/-- THE TIED CARD OF 'laws.FnNumbers'. -/
def fnNumbersCard : Claim7 := { stood := { row := fnNumbersRow, standIns := [], harness := (true, "b0fe7e77d2fb8f217587ca2dabefdbd47e6c847dea86bac35998bd8c6436ccbe"), looks := true }, kinds := [], alts := [], laidByText := true, laidKinds := [.data, .data, .data, .sentinel, .sentinel], laidTests := true, laidLooks := .later }
def FnNumbersCardSaid : Prop := Claim7.holds Tryd.pinned (.plain (OpenSpec.ofChange fnNumbersSpec)) fnNumbersCard

/-- THE TIED CARD OF 'laws.FnExactSchemaText'. -/
def fnExactSchemaTextCard : Claim7 := { stood := { row := fnExactSchemaTextRow, standIns := [], harness := (true, "b0fe7e77d2fb8f217587ca2dabefdbd47e6c847dea86bac35998bd8c6436ccbe"), looks := true }, kinds := [], alts := [], laidByText := true, laidKinds := [.data, .data, .data], laidTests := true, laidLooks := .later }
def FnExactSchemaTextCardSaid : Prop := Claim7.holds Tryd.pinned (.plain (OpenSpec.ofChange fnExactSchemaTextSpec)) fnExactSchemaTextCard

/-- THE TIED CARD OF 'laws.FnExactExText'. -/
def fnExactExTextCard : Claim7 := { stood := { row := fnExactExTextRow, standIns := [], harness := (true, "b0fe7e77d2fb8f217587ca2dabefdbd47e6c847dea86bac35998bd8c6436ccbe"), looks := true }, kinds := [], alts := [], laidByText := true, laidKinds := [.data, .data, .data], laidTests := true, laidLooks := .later }
def FnExactExTextCardSaid : Prop := Claim7.holds Tryd.pinned (.plain (OpenSpec.ofChange fnExactExTextSpec)) fnExactExTextCard

/-- THE TIED CARD OF 'laws.FnRowText'. -/
def fnRowTextCard : Claim7 := { stood := { row := fnRowTextRow, standIns := [], harness := (true, "b0fe7e77d2fb8f217587ca2dabefdbd47e6c847dea86bac35998bd8c6436ccbe"), looks := true }, kinds := [], alts := [], laidByText := true, laidKinds := [.data, .data, .data, .sentinel, .sentinel], laidTests := true, laidLooks := .later }
def FnRowTextCardSaid : Prop := Claim7.holds Tryd.pinned (.plain (OpenSpec.ofChange fnRowTextSpec)) fnRowTextCard

/-- THE TIED CARD OF 'laws.FnRowTotal'. -/
def fnRowTotalCard : Claim7 := { stood := { row := fnRowTotalRow, standIns := [], harness := (true, "b0fe7e77d2fb8f217587ca2dabefdbd47e6c847dea86bac35998bd8c6436ccbe"), looks := true }, kinds := [], alts := [], laidByText := true, laidKinds := [.data, .data, .data, .sentinel, .sentinel], laidTests := true, laidLooks := .later }
def FnRowTotalCardSaid : Prop := Claim7.holds Tryd.pinned (.plain (OpenSpec.ofChange fnRowTotalSpec)) fnRowTotalCard

/-- THE TIED CARD OF 'laws.FnExactAttrOf'. -/
def fnExactAttrOfCard : Claim7 := { stood := { row := fnExactAttrOfRow, standIns := [], harness := (true, "b0fe7e77d2fb8f217587ca2dabefdbd47e6c847dea86bac35998bd8c6436ccbe"), looks := true }, kinds := [], alts := [], laidByText := true, laidKinds := [.data, .data, .data, .sentinel, .sentinel], laidTests := true, laidLooks := .later }
def FnExactAttrOfCardSaid : Prop := Claim7.holds Tryd.pinned (.plain (OpenSpec.ofChange fnExactAttrOfSpec)) fnExactAttrOfCard

/-- THE TIED CARD OF 'laws.FnSchemaText'. -/
def fnSchemaTextCard : Claim7 := { stood := { row := fnSchemaTextRow, standIns := [], harness := (true, "b0fe7e77d2fb8f217587ca2dabefdbd47e6c847dea86bac35998bd8c6436ccbe"), looks := true }, kinds := [], alts := [], laidByText := true, laidKinds := [.data, .data, .data, .sentinel, .sentinel], laidTests := true, laidLooks := .later }
def FnSchemaTextCardSaid : Prop := Claim7.holds Tryd.pinned (.plain (OpenSpec.ofChange fnSchemaTextSpec)) fnSchemaTextCard

/-- THE SECOND FORM's CARD OF 'laws.FnExactRowOf'. -/
def fnExactRowOfUptoCard : Claim7 := { stood := { row := fnExactRowOfUptoRow, standIns := [], harness := (true, "b0fe7e77d2fb8f217587ca2dabefdbd47e6c847dea86bac35998bd8c6436ccbe"), looks := true }, kinds := [], alts := [], laidByText := true, laidKinds := [.data, .data, .data, .sentinel, .sentinel], laidTests := true, laidLooks := .later }
def FnExactRowOfUptoCardSaid : Prop := Claim7.holds Tryd.pinned (.plain (OpenSpec.upto fnExactRowOfSpec)) fnExactRowOfUptoCard

/-- THE SECOND FORM's CARD OF 'laws.FnSchemaRead'. -/
def fnSchemaReadUptoCard : Claim7 := { stood := { row := fnSchemaReadUptoRow, standIns := [], harness := (true, "b0fe7e77d2fb8f217587ca2dabefdbd47e6c847dea86bac35998bd8c6436ccbe"), looks := true }, kinds := [], alts := [], laidByText := true, laidKinds := [.data, .data, .data, .sentinel, .sentinel], laidTests := true, laidLooks := .later }
def FnSchemaReadUptoCardSaid : Prop := Claim7.holds Tryd.pinned (.plain (OpenSpec.upto fnSchemaReadSpec)) fnSchemaReadUptoCard

/-- THE SECOND FORM's CARD OF 'laws.FnExactSchemaOf'. -/
def fnExactSchemaOfUptoCard : Claim7 := { stood := { row := fnExactSchemaOfUptoRow, standIns := [], harness := (true, "b0fe7e77d2fb8f217587ca2dabefdbd47e6c847dea86bac35998bd8c6436ccbe"), looks := true }, kinds := [], alts := [], laidByText := true, laidKinds := [.data, .data, .data, .sentinel, .sentinel], laidTests := true, laidLooks := .later }
def FnExactSchemaOfUptoCardSaid : Prop := Claim7.holds Tryd.pinned (.plain (OpenSpec.upto fnExactSchemaOfSpec)) fnExactSchemaOfUptoCard

/-- THE SECOND FORM's CARD OF 'laws.FnExactDigits'. -/
def fnExactDigitsUptoCard : Claim7 := { stood := { row := fnExactDigitsUptoRow, standIns := [], harness := (true, "b0fe7e77d2fb8f217587ca2dabefdbd47e6c847dea86bac35998bd8c6436ccbe"), looks := true }, kinds := [], alts := [], laidByText := true, laidKinds := [.data, .data, .data], laidTests := true, laidLooks := .later }
def FnExactDigitsUptoCardSaid : Prop := Claim7.holds Tryd.pinned (.plain (OpenSpec.upto fnExactDigitsSpec)) fnExactDigitsUptoCard

/-- THE SECOND FORM's CARD OF 'laws.FnExactFracText'. -/
def fnExactFracTextUptoCard : Claim7 := { stood := { row := fnExactFracTextUptoRow, standIns := [], harness := (true, "b0fe7e77d2fb8f217587ca2dabefdbd47e6c847dea86bac35998bd8c6436ccbe"), looks := true }, kinds := [], alts := [], laidByText := true, laidKinds := [.data, .data, .data], laidTests := true, laidLooks := .later }
def FnExactFracTextUptoCardSaid : Prop := Claim7.holds Tryd.pinned (.plain (OpenSpec.upto fnExactFracTextSpec)) fnExactFracTextUptoCard

/-- THE SECOND FORM's CARD OF 'laws.FnExactCellText'. -/
def fnExactCellTextUptoCard : Claim7 := { stood := { row := fnExactCellTextUptoRow, standIns := [], harness := (true, "b0fe7e77d2fb8f217587ca2dabefdbd47e6c847dea86bac35998bd8c6436ccbe"), looks := true }, kinds := [], alts := [], laidByText := true, laidKinds := [.data, .data, .data], laidTests := true, laidLooks := .later }
def FnExactCellTextUptoCardSaid : Prop := Claim7.holds Tryd.pinned (.plain (OpenSpec.upto fnExactCellTextSpec)) fnExactCellTextUptoCard

/-- THE SECOND FORM's CARD OF 'laws.FnExactNumber'. -/
def fnExactNumberUptoCard : Claim7 := { stood := { row := fnExactNumberUptoRow, standIns := [], harness := (true, "b0fe7e77d2fb8f217587ca2dabefdbd47e6c847dea86bac35998bd8c6436ccbe"), looks := true }, kinds := [], alts := [], laidByText := true, laidKinds := [.data, .data, .data, .sentinel, .sentinel], laidTests := true, laidLooks := .later }
def FnExactNumberUptoCardSaid : Prop := Claim7.holds Tryd.pinned (.plain (OpenSpec.upto fnExactNumberSpec)) fnExactNumberUptoCard

/-- THE SECOND FORM's CARD OF 'laws.FnExactAttrText'. -/
def fnExactAttrTextUptoCard : Claim7 := { stood := { row := fnExactAttrTextUptoRow, standIns := [], harness := (true, "b0fe7e77d2fb8f217587ca2dabefdbd47e6c847dea86bac35998bd8c6436ccbe"), looks := true }, kinds := [], alts := [], laidByText := true, laidKinds := [.data, .data, .data], laidTests := true, laidLooks := .later }
def FnExactAttrTextUptoCardSaid : Prop := Claim7.holds Tryd.pinned (.plain (OpenSpec.upto fnExactAttrTextSpec)) fnExactAttrTextUptoCard

/-- THE SECOND FORM's CARD OF 'laws.FnExactSigned'. -/
def fnExactSignedUptoCard : Claim7 := { stood := { row := fnExactSignedUptoRow, standIns := [], harness := (true, "b0fe7e77d2fb8f217587ca2dabefdbd47e6c847dea86bac35998bd8c6436ccbe"), looks := true }, kinds := [], alts := [], laidByText := true, laidKinds := [.data, .data, .data, .sentinel, .sentinel], laidTests := true, laidLooks := .later }
def FnExactSignedUptoCardSaid : Prop := Claim7.holds Tryd.pinned (.plain (OpenSpec.upto fnExactSignedSpec)) fnExactSignedUptoCard

/-- THE SECOND FORM's CARD OF 'laws.FnNumbers'. -/
def fnNumbersUptoCard : Claim7 := { stood := { row := fnNumbersUptoRow, standIns := [], harness := (true, "b0fe7e77d2fb8f217587ca2dabefdbd47e6c847dea86bac35998bd8c6436ccbe"), looks := true }, kinds := [], alts := [], laidByText := true, laidKinds := [.data, .data, .data, .sentinel, .sentinel], laidTests := true, laidLooks := .later }
def FnNumbersUptoCardSaid : Prop := Claim7.holds Tryd.pinned (.plain (OpenSpec.upto fnNumbersSpec)) fnNumbersUptoCard

/-- THE SECOND FORM's CARD OF 'laws.FnExactSchemaText'. -/
def fnExactSchemaTextUptoCard : Claim7 := { stood := { row := fnExactSchemaTextUptoRow, standIns := [], harness := (true, "b0fe7e77d2fb8f217587ca2dabefdbd47e6c847dea86bac35998bd8c6436ccbe"), looks := true }, kinds := [], alts := [], laidByText := true, laidKinds := [.data, .data, .data], laidTests := true, laidLooks := .later }
def FnExactSchemaTextUptoCardSaid : Prop := Claim7.holds Tryd.pinned (.plain (OpenSpec.upto fnExactSchemaTextSpec)) fnExactSchemaTextUptoCard

/-- THE SECOND FORM's CARD OF 'laws.FnExactExText'. -/
def fnExactExTextUptoCard : Claim7 := { stood := { row := fnExactExTextUptoRow, standIns := [], harness := (true, "b0fe7e77d2fb8f217587ca2dabefdbd47e6c847dea86bac35998bd8c6436ccbe"), looks := true }, kinds := [], alts := [], laidByText := true, laidKinds := [.data, .data, .data], laidTests := true, laidLooks := .later }
def FnExactExTextUptoCardSaid : Prop := Claim7.holds Tryd.pinned (.plain (OpenSpec.upto fnExactExTextSpec)) fnExactExTextUptoCard

/-- THE SECOND FORM's CARD OF 'laws.FnRowText'. -/
def fnRowTextUptoCard : Claim7 := { stood := { row := fnRowTextUptoRow, standIns := [], harness := (true, "b0fe7e77d2fb8f217587ca2dabefdbd47e6c847dea86bac35998bd8c6436ccbe"), looks := true }, kinds := [], alts := [], laidByText := true, laidKinds := [.data, .data, .data, .sentinel, .sentinel], laidTests := true, laidLooks := .later }
def FnRowTextUptoCardSaid : Prop := Claim7.holds Tryd.pinned (.plain (OpenSpec.upto fnRowTextSpec)) fnRowTextUptoCard

/-- THE SECOND FORM's CARD OF 'laws.FnRowTotal'. -/
def fnRowTotalUptoCard : Claim7 := { stood := { row := fnRowTotalUptoRow, standIns := [], harness := (true, "b0fe7e77d2fb8f217587ca2dabefdbd47e6c847dea86bac35998bd8c6436ccbe"), looks := true }, kinds := [], alts := [], laidByText := true, laidKinds := [.data, .data, .data, .sentinel, .sentinel], laidTests := true, laidLooks := .later }
def FnRowTotalUptoCardSaid : Prop := Claim7.holds Tryd.pinned (.plain (OpenSpec.upto fnRowTotalSpec)) fnRowTotalUptoCard

/-- THE SECOND FORM's CARD OF 'laws.FnExactAttrOf'. -/
def fnExactAttrOfUptoCard : Claim7 := { stood := { row := fnExactAttrOfUptoRow, standIns := [], harness := (true, "b0fe7e77d2fb8f217587ca2dabefdbd47e6c847dea86bac35998bd8c6436ccbe"), looks := true }, kinds := [], alts := [], laidByText := true, laidKinds := [.data, .data, .data, .sentinel, .sentinel], laidTests := true, laidLooks := .later }
def FnExactAttrOfUptoCardSaid : Prop := Claim7.holds Tryd.pinned (.plain (OpenSpec.upto fnExactAttrOfSpec)) fnExactAttrOfUptoCard

/-- THE SECOND FORM's CARD OF 'laws.FnSchemaText'. -/
def fnSchemaTextUptoCard : Claim7 := { stood := { row := fnSchemaTextUptoRow, standIns := [], harness := (true, "b0fe7e77d2fb8f217587ca2dabefdbd47e6c847dea86bac35998bd8c6436ccbe"), looks := true }, kinds := [], alts := [], laidByText := true, laidKinds := [.data, .data, .data, .sentinel, .sentinel], laidTests := true, laidLooks := .later }
def FnSchemaTextUptoCardSaid : Prop := Claim7.holds Tryd.pinned (.plain (OpenSpec.upto fnSchemaTextSpec)) fnSchemaTextUptoCard
end Rows
end Go.Proofs.YtohodehmidbmlaaDoor
