/-
  DERIVED. GIVEN WITH THE SEED: THE CARDS: each row of YtmlndamkcipebaaGreatDoorRows.lean that lists a variable, with what it lists TIED to the program's text (the seventh form; the later family's looks); each row that meets fmt, with fmt's text TOLD by the authors' own Lean function (tested against real Go, not proved from fmt's source: count such statements apart). THE CARD IS WHAT COUNTS. Prove the row's statement (the work); the ties are given (YtmlndamkcipebaaGreatDoorTie.lean); close each card by the builder's one call (the guide's Derived/Test/ToyasCard.lean, 'card_holds'). Laid BY PROGRAM, IN A SANDBOX (cutbox-door.mjs). By AI agents, Wed Nov 11 2026. No macro, syntax, notation, axiom, sorry.
-/
import Derived.Test.YtmlndamkcipebaaGreatDoorRows
import GoSem.ClaimSeven
namespace Go.Proofs.YtmlndamkcipebaaGreatDoor
namespace Rows

/-- THE TIED CARD OF 'lammastidelaw2.PoolTexts'. -/
def poolTextsCard : Claim7 := { stood := { row := poolTextsRow, standIns := [], harness := (true, "3a71a15c6c1958de680ad32ed8bbc3e294088519d49b4b6c4831e183cc706aef"), looks := true }, kinds := [], alts := [], laidByText := true, laidKinds := [.data, .data, .data, .handle, .sentinel, .sentinel, .sentinel, .sentinel, .sentinel, .sentinel, .sentinel, .sentinel, .sentinel, .sentinel, .sentinel, .sentinel, .sentinel], laidTests := true, laidLooks := .later }
def PoolTextsCardSaid : Prop := Claim7.holds Tryz.pinned (.plain (OpenSpec.ofChange poolTextsSpec)) poolTextsCard

/-- THE TIED CARD OF 'lammastidelaw1.RuleTexts'. -/
def ruleTextsCard : Claim7 := { stood := { row := ruleTextsRow, standIns := [], harness := (true, "3a71a15c6c1958de680ad32ed8bbc3e294088519d49b4b6c4831e183cc706aef"), looks := true }, kinds := [], alts := [], laidByText := true, laidKinds := [.data, .data, .data, .data, .handle, .sentinel, .sentinel, .sentinel, .sentinel, .sentinel, .sentinel, .sentinel, .sentinel, .sentinel, .sentinel, .sentinel, .sentinel, .sentinel, .pinned], laidTests := true, laidLooks := .later }
def RuleTextsCardSaid : Prop := Claim7.holds Tryz.pinned (.plain (OpenSpec.ofChange ruleTextsSpec)) ruleTextsCard

/-- THE TIED CARD OF 'lammastidelaw3.PackApplies'. -/
def packAppliesCard : Claim7 := { stood := { row := packAppliesRow, standIns := [], harness := (true, "3a71a15c6c1958de680ad32ed8bbc3e294088519d49b4b6c4831e183cc706aef"), looks := true }, kinds := [], alts := [], laidByText := true, laidKinds := [.data, .data, .data, .handle, .sentinel, .sentinel, .sentinel, .sentinel, .sentinel, .sentinel, .sentinel, .sentinel, .sentinel, .sentinel, .sentinel, .sentinel, .sentinel], laidTests := true, laidLooks := .later }
def PackAppliesCardSaid : Prop := Claim7.holds Tryz.pinned (.plain (OpenSpec.ofChange packAppliesSpec)) packAppliesCard

/-- THE SECOND FORM's CARD OF 'lammastidelaw2.PoolTexts'. -/
def poolTextsUptoCard : Claim7 := { stood := { row := poolTextsUptoRow, standIns := [], harness := (true, "3a71a15c6c1958de680ad32ed8bbc3e294088519d49b4b6c4831e183cc706aef"), looks := true }, kinds := [], alts := [], laidByText := true, laidKinds := [.data, .data, .data, .handle, .sentinel, .sentinel, .sentinel, .sentinel, .sentinel, .sentinel, .sentinel, .sentinel, .sentinel, .sentinel, .sentinel, .sentinel, .sentinel], laidTests := true, laidLooks := .later }
def PoolTextsUptoCardSaid : Prop := Claim7.holds Tryz.pinned (.plain (OpenSpec.upto poolTextsSpec)) poolTextsUptoCard

/-- THE SECOND FORM's CARD OF 'lammastidelaw1.RuleTexts'. -/
def ruleTextsUptoCard : Claim7 := { stood := { row := ruleTextsUptoRow, standIns := [], harness := (true, "3a71a15c6c1958de680ad32ed8bbc3e294088519d49b4b6c4831e183cc706aef"), looks := true }, kinds := [], alts := [], laidByText := true, laidKinds := [.data, .data, .data, .data, .handle, .sentinel, .sentinel, .sentinel, .sentinel, .sentinel, .sentinel, .sentinel, .sentinel, .sentinel, .sentinel, .sentinel, .sentinel, .sentinel, .pinned], laidTests := true, laidLooks := .later }
def RuleTextsUptoCardSaid : Prop := Claim7.holds Tryz.pinned (.plain (OpenSpec.upto ruleTextsSpec)) ruleTextsUptoCard

/-- THE SECOND FORM's CARD OF 'lammastidelaw3.PackApplies'. -/
def packAppliesUptoCard : Claim7 := { stood := { row := packAppliesUptoRow, standIns := [], harness := (true, "3a71a15c6c1958de680ad32ed8bbc3e294088519d49b4b6c4831e183cc706aef"), looks := true }, kinds := [], alts := [], laidByText := true, laidKinds := [.data, .data, .data, .handle, .sentinel, .sentinel, .sentinel, .sentinel, .sentinel, .sentinel, .sentinel, .sentinel, .sentinel, .sentinel, .sentinel, .sentinel, .sentinel], laidTests := true, laidLooks := .later }
def PackAppliesUptoCardSaid : Prop := Claim7.holds Tryz.pinned (.plain (OpenSpec.upto packAppliesSpec)) packAppliesUptoCard
end Rows
end Go.Proofs.YtmlndamkcipebaaGreatDoor
