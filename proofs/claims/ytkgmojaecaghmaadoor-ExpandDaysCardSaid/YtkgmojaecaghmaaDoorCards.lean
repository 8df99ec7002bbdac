/-
  DERIVED. GIVEN WITH THE SEED: THE CARDS: each row of YtkgmojaecaghmaaDoorRows.lean that lists a variable, with what it lists TIED to the program's text (the seventh form; the later family's looks); each row that meets fmt, with fmt's text TOLD by the authors' own Lean function (tested against real Go, not proved from fmt's source: count such statements apart). THE CARD IS WHAT COUNTS. Prove the row's statement (the work); the ties are given (YtkgmojaecaghmaaDoorTie.lean); close each card by the builder's one call (the guide's Derived/Test/ToyasCard.lean, 'card_holds'). Laid BY PROGRAM, IN A SANDBOX (cutbox-door.mjs). By AI agents, Wed Nov 11 2026. No macro, syntax, notation, axiom, sorry.
-/
import Derived.Test.YtkgmojaecaghmaaDoorRows
import GoSem.ClaimSeven
namespace Go.Proofs.YtkgmojaecaghmaaDoor
namespace Rows

/-- THE TIED CARD OF 'lammastidelaw1.ExpandCounts'. -/
def expandCountsCard : Claim7 := { stood := { row := expandCountsRow, standIns := [], harness := (true, "417d27506883e492b5b70069f65390c4dbab1bd969f1d714b6ebbb2137b21d06"), looks := true }, kinds := [], alts := [], laidByText := true, laidKinds := [.sentinel, .sentinel, .sentinel, .sentinel], laidTests := true, laidLooks := .later }
def ExpandCountsCardSaid : Prop := Claim7.holds Tryd.pinned (.plain (OpenSpec.ofChange expandCountsSpec)) expandCountsCard

/-- THE TIED CARD OF 'lammastidelaw1.Names'. -/
def namesCard : Claim7 := { stood := { row := namesRow, standIns := [], harness := (true, "417d27506883e492b5b70069f65390c4dbab1bd969f1d714b6ebbb2137b21d06"), looks := true }, kinds := [], alts := [], laidByText := true, laidKinds := [.handle, .sentinel, .sentinel, .sentinel, .sentinel, .sentinel, .sentinel, .sentinel, .sentinel, .sentinel, .sentinel, .sentinel], laidTests := true, laidLooks := .later }
def NamesCardSaid : Prop := Claim7.holds Tryd.pinned (.plain (OpenSpec.ofChange namesSpec)) namesCard

/-- THE TIED CARD OF 'lammastidelaw1.ExpandRises'. -/
def expandRisesCard : Claim7 := { stood := { row := expandRisesRow, standIns := [], harness := (true, "417d27506883e492b5b70069f65390c4dbab1bd969f1d714b6ebbb2137b21d06"), looks := true }, kinds := [], alts := [], laidByText := true, laidKinds := [.sentinel, .sentinel, .sentinel, .sentinel], laidTests := true, laidLooks := .later }
def ExpandRisesCardSaid : Prop := Claim7.holds Tryd.pinned (.plain (OpenSpec.ofChange expandRisesSpec)) expandRisesCard

/-- THE TIED CARD OF 'lammastidelaw1.DayMonths'. -/
def dayMonthsCard : Claim7 := { stood := { row := dayMonthsRow, standIns := [], harness := (true, "417d27506883e492b5b70069f65390c4dbab1bd969f1d714b6ebbb2137b21d06"), looks := true }, kinds := [], alts := [], laidByText := true, laidKinds := [.data, .data, .data, .sentinel], laidTests := true, laidLooks := .later }
def DayMonthsCardSaid : Prop := Claim7.holds Tryd.pinned (.plain (OpenSpec.ofChange dayMonthsSpec)) dayMonthsCard

/-- THE TIED CARD OF 'lammastidelaw1.DayBack'. -/
def dayBackCard : Claim7 := { stood := { row := dayBackRow, standIns := [], harness := (true, "417d27506883e492b5b70069f65390c4dbab1bd969f1d714b6ebbb2137b21d06"), looks := true }, kinds := [], alts := [], laidByText := true, laidKinds := [.data, .data, .data, .sentinel, .sentinel], laidTests := true, laidLooks := .later }
def DayBackCardSaid : Prop := Claim7.holds Tryd.pinned (.plain (OpenSpec.ofChange dayBackSpec)) dayBackCard

/-- THE TIED CARD OF 'lammastidelaw1.ExpandDays'. -/
def expandDaysCard : Claim7 := { stood := { row := expandDaysRow, standIns := [], harness := (true, "417d27506883e492b5b70069f65390c4dbab1bd969f1d714b6ebbb2137b21d06"), looks := true }, kinds := [], alts := [], laidByText := true, laidKinds := [.handle, .sentinel, .sentinel, .sentinel, .sentinel, .sentinel, .sentinel, .sentinel, .sentinel, .sentinel, .sentinel, .sentinel], laidTests := true, laidLooks := .later }
def ExpandDaysCardSaid : Prop := Claim7.holds Tryd.pinned (.plain (OpenSpec.ofChange expandDaysSpec)) expandDaysCard

/-- THE TIED CARD OF 'lammastidelaw1.DayDates'. -/
def dayDatesCard : Claim7 := { stood := { row := dayDatesRow, standIns := [], harness := (true, "417d27506883e492b5b70069f65390c4dbab1bd969f1d714b6ebbb2137b21d06"), looks := true }, kinds := [], alts := [], laidByText := true, laidKinds := [.data, .data, .data, .handle, .sentinel, .sentinel, .sentinel, .sentinel, .sentinel, .sentinel, .sentinel, .sentinel, .sentinel, .sentinel, .sentinel], laidTests := true, laidLooks := .later }
def DayDatesCardSaid : Prop := Claim7.holds Tryd.pinned (.plain (OpenSpec.ofChange dayDatesSpec)) dayDatesCard

/-- THE TIED CARD OF 'lammastidelaw1.DayAdds'. -/
def dayAddsCard : Claim7 := { stood := { row := dayAddsRow, standIns := [], harness := (true, "417d27506883e492b5b70069f65390c4dbab1bd969f1d714b6ebbb2137b21d06"), looks := true }, kinds := [], alts := [], laidByText := true, laidKinds := [.data, .data, .data, .handle, .sentinel, .sentinel, .sentinel, .sentinel, .sentinel, .sentinel, .sentinel, .sentinel, .sentinel, .sentinel, .sentinel], laidTests := true, laidLooks := .later }
def DayAddsCardSaid : Prop := Claim7.holds Tryd.pinned (.plain (OpenSpec.ofChange dayAddsSpec)) dayAddsCard

/-- THE TIED CARD OF 'lammastidelaw1.RuleBack'. -/
def ruleBackCard : Claim7 := { stood := { row := ruleBackRow, standIns := [], harness := (true, "417d27506883e492b5b70069f65390c4dbab1bd969f1d714b6ebbb2137b21d06"), looks := true }, kinds := [], alts := [], laidByText := true, laidKinds := [.data, .data, .data, .data, .sentinel, .sentinel, .sentinel, .sentinel, .sentinel, .sentinel, .sentinel, .pinned], laidTests := true, laidLooks := .later }
def RuleBackCardSaid : Prop := Claim7.holds Tryd.pinned (.plain (OpenSpec.ofChange ruleBackSpec)) ruleBackCard

/-- THE SECOND FORM's CARD OF 'lammastidelaw1.ExpandCounts'. -/
def expandCountsUptoCard : Claim7 := { stood := { row := expandCountsUptoRow, standIns := [], harness := (true, "417d27506883e492b5b70069f65390c4dbab1bd969f1d714b6ebbb2137b21d06"), looks := true }, kinds := [], alts := [], laidByText := true, laidKinds := [.sentinel, .sentinel, .sentinel, .sentinel], laidTests := true, laidLooks := .later }
def ExpandCountsUptoCardSaid : Prop := Claim7.holds Tryd.pinned (.plain (OpenSpec.upto expandCountsSpec)) expandCountsUptoCard

/-- THE SECOND FORM's CARD OF 'lammastidelaw1.Names'. -/
def namesUptoCard : Claim7 := { stood := { row := namesUptoRow, standIns := [], harness := (true, "417d27506883e492b5b70069f65390c4dbab1bd969f1d714b6ebbb2137b21d06"), looks := true }, kinds := [], alts := [], laidByText := true, laidKinds := [.handle, .sentinel, .sentinel, .sentinel, .sentinel, .sentinel, .sentinel, .sentinel, .sentinel, .sentinel, .sentinel, .sentinel], laidTests := true, laidLooks := .later }
def NamesUptoCardSaid : Prop := Claim7.holds Tryd.pinned (.plain (OpenSpec.upto namesSpec)) namesUptoCard

/-- THE SECOND FORM's CARD OF 'lammastidelaw1.ExpandRises'. -/
def expandRisesUptoCard : Claim7 := { stood := { row := expandRisesUptoRow, standIns := [], harness := (true, "417d27506883e492b5b70069f65390c4dbab1bd969f1d714b6ebbb2137b21d06"), looks := true }, kinds := [], alts := [], laidByText := true, laidKinds := [.sentinel, .sentinel, .sentinel, .sentinel], laidTests := true, laidLooks := .later }
def ExpandRisesUptoCardSaid : Prop := Claim7.holds Tryd.pinned (.plain (OpenSpec.upto expandRisesSpec)) expandRisesUptoCard

/-- THE SECOND FORM's CARD OF 'lammastidelaw1.DayMonths'. -/
def dayMonthsUptoCard : Claim7 := { stood := { row := dayMonthsUptoRow, standIns := [], harness := (true, "417d27506883e492b5b70069f65390c4dbab1bd969f1d714b6ebbb2137b21d06"), looks := true }, kinds := [], alts := [], laidByText := true, laidKinds := [.data, .data, .data, .sentinel], laidTests := true, laidLooks := .later }
def DayMonthsUptoCardSaid : Prop := Claim7.holds Tryd.pinned (.plain (OpenSpec.upto dayMonthsSpec)) dayMonthsUptoCard

/-- THE SECOND FORM's CARD OF 'lammastidelaw1.DayBack'. -/
def dayBackUptoCard : Claim7 := { stood := { row := dayBackUptoRow, standIns := [], harness := (true, "417d27506883e492b5b70069f65390c4dbab1bd969f1d714b6ebbb2137b21d06"), looks := true }, kinds := [], alts := [], laidByText := true, laidKinds := [.data, .data, .data, .sentinel, .sentinel], laidTests := true, laidLooks := .later }
def DayBackUptoCardSaid : Prop := Claim7.holds Tryd.pinned (.plain (OpenSpec.upto dayBackSpec)) dayBackUptoCard

/-- THE SECOND FORM's CARD OF 'lammastidelaw1.ExpandDays'. -/
def expandDaysUptoCard : Claim7 := { stood := { row := expandDaysUptoRow, standIns := [], harness := (true, "417d27506883e492b5b70069f65390c4dbab1bd969f1d714b6ebbb2137b21d06"), looks := true }, kinds := [], alts := [], laidByText := true, laidKinds := [.handle, .sentinel, .sentinel, .sentinel, .sentinel, .sentinel, .sentinel, .sentinel, .sentinel, .sentinel, .sentinel, .sentinel], laidTests := true, laidLooks := .later }
def ExpandDaysUptoCardSaid : Prop := Claim7.holds Tryd.pinned (.plain (OpenSpec.upto expandDaysSpec)) expandDaysUptoCard

/-- THE SECOND FORM's CARD OF 'lammastidelaw1.DayDates'. -/
def dayDatesUptoCard : Claim7 := { stood := { row := dayDatesUptoRow, standIns := [], harness := (true, "417d27506883e492b5b70069f65390c4dbab1bd969f1d714b6ebbb2137b21d06"), looks := true }, kinds := [], alts := [], laidByText := true, laidKinds := [.data, .data, .data, .handle, .sentinel, .sentinel, .sentinel, .sentinel, .sentinel, .sentinel, .sentinel, .sentinel, .sentinel, .sentinel, .sentinel], laidTests := true, laidLooks := .later }
def DayDatesUptoCardSaid : Prop := Claim7.holds Tryd.pinned (.plain (OpenSpec.upto dayDatesSpec)) dayDatesUptoCard

/-- THE SECOND FORM's CARD OF 'lammastidelaw1.DayAdds'. -/
def dayAddsUptoCard : Claim7 := { stood := { row := dayAddsUptoRow, standIns := [], harness := (true, "417d27506883e492b5b70069f65390c4dbab1bd969f1d714b6ebbb2137b21d06"), looks := true }, kinds := [], alts := [], laidByText := true, laidKinds := [.data, .data, .data, .handle, .sentinel, .sentinel, .sentinel, .sentinel, .sentinel, .sentinel, .sentinel, .sentinel, .sentinel, .sentinel, .sentinel], laidTests := true, laidLooks := .later }
def DayAddsUptoCardSaid : Prop := Claim7.holds Tryd.pinned (.plain (OpenSpec.upto dayAddsSpec)) dayAddsUptoCard

/-- THE SECOND FORM's CARD OF 'lammastidelaw1.RuleBack'. -/
def ruleBackUptoCard : Claim7 := { stood := { row := ruleBackUptoRow, standIns := [], harness := (true, "417d27506883e492b5b70069f65390c4dbab1bd969f1d714b6ebbb2137b21d06"), looks := true }, kinds := [], alts := [], laidByText := true, laidKinds := [.data, .data, .data, .data, .sentinel, .sentinel, .sentinel, .sentinel, .sentinel, .sentinel, .sentinel, .pinned], laidTests := true, laidLooks := .later }
def RuleBackUptoCardSaid : Prop := Claim7.holds Tryd.pinned (.plain (OpenSpec.upto ruleBackSpec)) ruleBackUptoCard
end Rows
end Go.Proofs.YtkgmojaecaghmaaDoor
