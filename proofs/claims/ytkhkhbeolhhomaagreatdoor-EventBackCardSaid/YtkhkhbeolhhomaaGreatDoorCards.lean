/-
  DERIVED. GIVEN WITH THE SEED: THE CARDS: each row of YtkhkhbeolhhomaaGreatDoorRows.lean that lists a variable, with what it lists TIED to the program's text (the seventh form; the later family's looks); each row that meets fmt, with fmt's text TOLD by the authors' own Lean function (tested against real Go, not proved from fmt's source: count such statements apart). THE CARD IS WHAT COUNTS. Prove the row's statement (the work); the ties are given (YtkhkhbeolhhomaaGreatDoorTie.lean); close each card by the builder's one call (the guide's Derived/Test/ToyasCard.lean, 'card_holds'). Laid BY PROGRAM, IN A SANDBOX (cutbox-door.mjs). By AI agents, Wed Nov 11 2026. No macro, syntax, notation, axiom, sorry.
-/
import Derived.Test.YtkhkhbeolhhomaaGreatDoorRows
import GoSem.ClaimSeven
namespace Go.Proofs.YtkhkhbeolhhomaaGreatDoor
namespace Rows

/-- THE TIED CARD OF 'lammastidelaw2.BookOn'. -/
def bookOnCard : Claim7 := { stood := { row := bookOnRow, standIns := [], harness := (true, "1ae56da8f7f3969d710daec23d266cdfeabce21c9bb3abe5466392ebed726b9f"), looks := true }, kinds := [], alts := [], laidByText := true, laidKinds := [.data, .sentinel, .sentinel, .sentinel, .sentinel, .sentinel, .sentinel, .sentinel, .sentinel, .pinned], laidTests := true, laidLooks := .later }
def BookOnCardSaid : Prop := Claim7.holds Tryz.pinned (.plain (OpenSpec.ofChange bookOnSpec)) bookOnCard

/-- THE TIED CARD OF 'lammastidelaw1.EventSkips'. -/
def eventSkipsCard : Claim7 := { stood := { row := eventSkipsRow, standIns := [], harness := (true, "1ae56da8f7f3969d710daec23d266cdfeabce21c9bb3abe5466392ebed726b9f"), looks := true }, kinds := [], alts := [], laidByText := true, laidKinds := [.data, .data, .data, .data, .sentinel, .sentinel, .sentinel, .sentinel, .sentinel, .sentinel, .sentinel, .pinned], laidTests := true, laidLooks := .later }
def EventSkipsCardSaid : Prop := Claim7.holds Tryz.pinned (.plain (OpenSpec.ofChange eventSkipsSpec)) eventSkipsCard

/-- THE TIED CARD OF 'lammastidelaw1.EventLong'. -/
def eventLongCard : Claim7 := { stood := { row := eventLongRow, standIns := [], harness := (true, "1ae56da8f7f3969d710daec23d266cdfeabce21c9bb3abe5466392ebed726b9f"), looks := true }, kinds := [], alts := [], laidByText := true, laidKinds := [.data, .data, .data, .data, .sentinel, .sentinel, .sentinel, .sentinel, .sentinel, .sentinel, .sentinel, .pinned], laidTests := true, laidLooks := .later }
def EventLongCardSaid : Prop := Claim7.holds Tryz.pinned (.plain (OpenSpec.ofChange eventLongSpec)) eventLongCard

/-- THE TIED CARD OF 'lammastidelaw1.EventDays'. -/
def eventDaysCard : Claim7 := { stood := { row := eventDaysRow, standIns := [], harness := (true, "1ae56da8f7f3969d710daec23d266cdfeabce21c9bb3abe5466392ebed726b9f"), looks := true }, kinds := [], alts := [], laidByText := true, laidKinds := [.data, .data, .data, .data, .handle, .sentinel, .sentinel, .sentinel, .sentinel, .sentinel, .sentinel, .sentinel, .sentinel, .sentinel, .sentinel, .sentinel, .pinned], laidTests := true, laidLooks := .later }
def EventDaysCardSaid : Prop := Claim7.holds Tryz.pinned (.plain (OpenSpec.ofChange eventDaysSpec)) eventDaysCard

/-- THE TIED CARD OF 'lammastidelaw1.EventBack'. -/
def eventBackCard : Claim7 := { stood := { row := eventBackRow, standIns := [], harness := (true, "1ae56da8f7f3969d710daec23d266cdfeabce21c9bb3abe5466392ebed726b9f"), looks := true }, kinds := [], alts := [], laidByText := true, laidKinds := [.data, .data, .data, .data, .sentinel, .sentinel, .sentinel, .sentinel, .sentinel, .sentinel, .sentinel, .sentinel, .sentinel, .pinned], laidTests := true, laidLooks := .later }
def EventBackCardSaid : Prop := Claim7.holds Tryz.pinned (.plain (OpenSpec.ofChange eventBackSpec)) eventBackCard

/-- THE TIED CARD OF 'lammastidelaw3.RefsStay'. -/
def refsStayCard : Claim7 := { stood := { row := refsStayRow, standIns := [], harness := (true, "1ae56da8f7f3969d710daec23d266cdfeabce21c9bb3abe5466392ebed726b9f"), looks := true }, kinds := [], alts := [], laidByText := true, laidKinds := [.data, .data, .data, .data, .sentinel, .sentinel, .sentinel, .sentinel, .sentinel, .sentinel, .sentinel, .sentinel, .sentinel, .sentinel, .pinned], laidTests := true, laidLooks := .later }
def RefsStayCardSaid : Prop := Claim7.holds Tryz.pinned (.plain (OpenSpec.ofChange refsStaySpec)) refsStayCard

/-- THE TIED CARD OF 'lammastidelaw2.BookActs'. -/
def bookActsCard : Claim7 := { stood := { row := bookActsRow, standIns := [], harness := (true, "1ae56da8f7f3969d710daec23d266cdfeabce21c9bb3abe5466392ebed726b9f"), looks := true }, kinds := [], alts := [], laidByText := true, laidKinds := [.data, .data, .data, .data, .handle, .sentinel, .sentinel, .sentinel, .sentinel, .sentinel, .sentinel, .sentinel, .sentinel, .sentinel, .sentinel, .sentinel, .pinned], laidTests := true, laidLooks := .later }
def BookActsCardSaid : Prop := Claim7.holds Tryz.pinned (.plain (OpenSpec.ofChange bookActsSpec)) bookActsCard

/-- THE TIED CARD OF 'lammastidelaw1.EventTexts'. -/
def eventTextsCard : Claim7 := { stood := { row := eventTextsRow, standIns := [], harness := (true, "1ae56da8f7f3969d710daec23d266cdfeabce21c9bb3abe5466392ebed726b9f"), looks := true }, kinds := [], alts := [], laidByText := true, laidKinds := [.data, .data, .data, .data, .handle, .sentinel, .sentinel, .sentinel, .sentinel, .sentinel, .sentinel, .sentinel, .sentinel, .sentinel, .sentinel, .sentinel, .sentinel, .sentinel, .pinned], laidTests := true, laidLooks := .later }
def EventTextsCardSaid : Prop := Claim7.holds Tryz.pinned (.plain (OpenSpec.ofChange eventTextsSpec)) eventTextsCard

/-- THE TIED CARD OF 'lammastidelaw3.RefsActs'. -/
def refsActsCard : Claim7 := { stood := { row := refsActsRow, standIns := [], harness := (true, "1ae56da8f7f3969d710daec23d266cdfeabce21c9bb3abe5466392ebed726b9f"), looks := true }, kinds := [], alts := [], laidByText := true, laidKinds := [.data, .data, .data, .data, .handle, .sentinel, .sentinel, .sentinel, .sentinel, .sentinel, .sentinel, .sentinel, .sentinel, .sentinel, .sentinel, .sentinel, .sentinel, .sentinel, .pinned], laidTests := true, laidLooks := .later }
def RefsActsCardSaid : Prop := Claim7.holds Tryz.pinned (.plain (OpenSpec.ofChange refsActsSpec)) refsActsCard

/-- THE SECOND FORM's CARD OF 'lammastidelaw2.BookOn'. -/
def bookOnUptoCard : Claim7 := { stood := { row := bookOnUptoRow, standIns := [], harness := (true, "1ae56da8f7f3969d710daec23d266cdfeabce21c9bb3abe5466392ebed726b9f"), looks := true }, kinds := [], alts := [], laidByText := true, laidKinds := [.data, .sentinel, .sentinel, .sentinel, .sentinel, .sentinel, .sentinel, .sentinel, .sentinel, .pinned], laidTests := true, laidLooks := .later }
def BookOnUptoCardSaid : Prop := Claim7.holds Tryz.pinned (.plain (OpenSpec.upto bookOnSpec)) bookOnUptoCard

/-- THE SECOND FORM's CARD OF 'lammastidelaw1.EventSkips'. -/
def eventSkipsUptoCard : Claim7 := { stood := { row := eventSkipsUptoRow, standIns := [], harness := (true, "1ae56da8f7f3969d710daec23d266cdfeabce21c9bb3abe5466392ebed726b9f"), looks := true }, kinds := [], alts := [], laidByText := true, laidKinds := [.data, .data, .data, .data, .sentinel, .sentinel, .sentinel, .sentinel, .sentinel, .sentinel, .sentinel, .pinned], laidTests := true, laidLooks := .later }
def EventSkipsUptoCardSaid : Prop := Claim7.holds Tryz.pinned (.plain (OpenSpec.upto eventSkipsSpec)) eventSkipsUptoCard

/-- THE SECOND FORM's CARD OF 'lammastidelaw1.EventLong'. -/
def eventLongUptoCard : Claim7 := { stood := { row := eventLongUptoRow, standIns := [], harness := (true, "1ae56da8f7f3969d710daec23d266cdfeabce21c9bb3abe5466392ebed726b9f"), looks := true }, kinds := [], alts := [], laidByText := true, laidKinds := [.data, .data, .data, .data, .sentinel, .sentinel, .sentinel, .sentinel, .sentinel, .sentinel, .sentinel, .pinned], laidTests := true, laidLooks := .later }
def EventLongUptoCardSaid : Prop := Claim7.holds Tryz.pinned (.plain (OpenSpec.upto eventLongSpec)) eventLongUptoCard

/-- THE SECOND FORM's CARD OF 'lammastidelaw1.EventDays'. -/
def eventDaysUptoCard : Claim7 := { stood := { row := eventDaysUptoRow, standIns := [], harness := (true, "1ae56da8f7f3969d710daec23d266cdfeabce21c9bb3abe5466392ebed726b9f"), looks := true }, kinds := [], alts := [], laidByText := true, laidKinds := [.data, .data, .data, .data, .handle, .sentinel, .sentinel, .sentinel, .sentinel, .sentinel, .sentinel, .sentinel, .sentinel, .sentinel, .sentinel, .sentinel, .pinned], laidTests := true, laidLooks := .later }
def EventDaysUptoCardSaid : Prop := Claim7.holds Tryz.pinned (.plain (OpenSpec.upto eventDaysSpec)) eventDaysUptoCard

/-- THE SECOND FORM's CARD OF 'lammastidelaw1.EventBack'. -/
def eventBackUptoCard : Claim7 := { stood := { row := eventBackUptoRow, standIns := [], harness := (true, "1ae56da8f7f3969d710daec23d266cdfeabce21c9bb3abe5466392ebed726b9f"), looks := true }, kinds := [], alts := [], laidByText := true, laidKinds := [.data, .data, .data, .data, .sentinel, .sentinel, .sentinel, .sentinel, .sentinel, .sentinel, .sentinel, .sentinel, .sentinel, .pinned], laidTests := true, laidLooks := .later }
def EventBackUptoCardSaid : Prop := Claim7.holds Tryz.pinned (.plain (OpenSpec.upto eventBackSpec)) eventBackUptoCard

/-- THE SECOND FORM's CARD OF 'lammastidelaw3.RefsStay'. -/
def refsStayUptoCard : Claim7 := { stood := { row := refsStayUptoRow, standIns := [], harness := (true, "1ae56da8f7f3969d710daec23d266cdfeabce21c9bb3abe5466392ebed726b9f"), looks := true }, kinds := [], alts := [], laidByText := true, laidKinds := [.data, .data, .data, .data, .sentinel, .sentinel, .sentinel, .sentinel, .sentinel, .sentinel, .sentinel, .sentinel, .sentinel, .sentinel, .pinned], laidTests := true, laidLooks := .later }
def RefsStayUptoCardSaid : Prop := Claim7.holds Tryz.pinned (.plain (OpenSpec.upto refsStaySpec)) refsStayUptoCard

/-- THE SECOND FORM's CARD OF 'lammastidelaw2.BookActs'. -/
def bookActsUptoCard : Claim7 := { stood := { row := bookActsUptoRow, standIns := [], harness := (true, "1ae56da8f7f3969d710daec23d266cdfeabce21c9bb3abe5466392ebed726b9f"), looks := true }, kinds := [], alts := [], laidByText := true, laidKinds := [.data, .data, .data, .data, .handle, .sentinel, .sentinel, .sentinel, .sentinel, .sentinel, .sentinel, .sentinel, .sentinel, .sentinel, .sentinel, .sentinel, .pinned], laidTests := true, laidLooks := .later }
def BookActsUptoCardSaid : Prop := Claim7.holds Tryz.pinned (.plain (OpenSpec.upto bookActsSpec)) bookActsUptoCard

/-- THE SECOND FORM's CARD OF 'lammastidelaw1.EventTexts'. -/
def eventTextsUptoCard : Claim7 := { stood := { row := eventTextsUptoRow, standIns := [], harness := (true, "1ae56da8f7f3969d710daec23d266cdfeabce21c9bb3abe5466392ebed726b9f"), looks := true }, kinds := [], alts := [], laidByText := true, laidKinds := [.data, .data, .data, .data, .handle, .sentinel, .sentinel, .sentinel, .sentinel, .sentinel, .sentinel, .sentinel, .sentinel, .sentinel, .sentinel, .sentinel, .sentinel, .sentinel, .pinned], laidTests := true, laidLooks := .later }
def EventTextsUptoCardSaid : Prop := Claim7.holds Tryz.pinned (.plain (OpenSpec.upto eventTextsSpec)) eventTextsUptoCard

/-- THE SECOND FORM's CARD OF 'lammastidelaw3.RefsActs'. -/
def refsActsUptoCard : Claim7 := { stood := { row := refsActsUptoRow, standIns := [], harness := (true, "1ae56da8f7f3969d710daec23d266cdfeabce21c9bb3abe5466392ebed726b9f"), looks := true }, kinds := [], alts := [], laidByText := true, laidKinds := [.data, .data, .data, .data, .handle, .sentinel, .sentinel, .sentinel, .sentinel, .sentinel, .sentinel, .sentinel, .sentinel, .sentinel, .sentinel, .sentinel, .sentinel, .sentinel, .pinned], laidTests := true, laidLooks := .later }
def RefsActsUptoCardSaid : Prop := Claim7.holds Tryz.pinned (.plain (OpenSpec.upto refsActsSpec)) refsActsUptoCard
end Rows
end Go.Proofs.YtkhkhbeolhhomaaGreatDoor
