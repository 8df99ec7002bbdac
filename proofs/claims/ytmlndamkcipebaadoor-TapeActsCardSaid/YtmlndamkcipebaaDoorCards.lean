/-
  DERIVED. GIVEN WITH THE SEED: THE CARDS: each row of YtmlndamkcipebaaDoorRows.lean that lists a variable, with what it lists TIED to the program's text (the seventh form; the later family's looks); each row that meets fmt, with fmt's text TOLD by the authors' own Lean function (tested against real Go, not proved from fmt's source: count such statements apart). THE CARD IS WHAT COUNTS. Prove the row's statement (the work); the ties are given (YtmlndamkcipebaaDoorTie.lean); close each card by the builder's one call (the guide's Derived/Test/ToyasCard.lean, 'card_holds'). Laid BY PROGRAM, IN A SANDBOX (cutbox-door.mjs). By AI agents, Wed Nov 11 2026. No macro, syntax, notation, axiom, sorry.
-/
import Derived.Test.YtmlndamkcipebaaDoorRows
import GoSem.ClaimSeven
namespace Go.Proofs.YtmlndamkcipebaaDoor
namespace Rows

/-- THE TIED CARD OF 'lammastidelaw3.TapeJoins'. -/
def tapeJoinsCard : Claim7 := { stood := { row := tapeJoinsRow, standIns := [], harness := (true, "b0a5b19ab6f1a6a10de4d8ea0b8fbfcb228d3f32165dcce7ba88557ec5008da1"), looks := true }, kinds := [], alts := [], laidByText := true, laidKinds := [.data, .data, .data, .sentinel, .sentinel, .sentinel, .sentinel, .sentinel, .sentinel], laidTests := true, laidLooks := .later }
def TapeJoinsCardSaid : Prop := Claim7.holds Tryd.pinned (.plain (OpenSpec.ofChange tapeJoinsSpec)) tapeJoinsCard

/-- THE TIED CARD OF 'lammastidelaw3.PackJoins'. -/
def packJoinsCard : Claim7 := { stood := { row := packJoinsRow, standIns := [], harness := (true, "b0a5b19ab6f1a6a10de4d8ea0b8fbfcb228d3f32165dcce7ba88557ec5008da1"), looks := true }, kinds := [], alts := [], laidByText := true, laidKinds := [.data, .data, .data, .sentinel, .sentinel, .sentinel, .sentinel], laidTests := true, laidLooks := .later }
def PackJoinsCardSaid : Prop := Claim7.holds Tryd.pinned (.plain (OpenSpec.ofChange packJoinsSpec)) packJoinsCard

/-- THE TIED CARD OF 'lammastidelaw3.TapeCuts'. -/
def tapeCutsCard : Claim7 := { stood := { row := tapeCutsRow, standIns := [], harness := (true, "b0a5b19ab6f1a6a10de4d8ea0b8fbfcb228d3f32165dcce7ba88557ec5008da1"), looks := true }, kinds := [], alts := [], laidByText := true, laidKinds := [.data, .data, .data, .sentinel, .sentinel, .sentinel, .sentinel, .sentinel, .sentinel], laidTests := true, laidLooks := .later }
def TapeCutsCardSaid : Prop := Claim7.holds Tryd.pinned (.plain (OpenSpec.ofChange tapeCutsSpec)) tapeCutsCard

/-- THE TIED CARD OF 'lammastidelaw2.PoolBack'. -/
def poolBackCard : Claim7 := { stood := { row := poolBackRow, standIns := [], harness := (true, "b0a5b19ab6f1a6a10de4d8ea0b8fbfcb228d3f32165dcce7ba88557ec5008da1"), looks := true }, kinds := [], alts := [], laidByText := true, laidKinds := [.data, .data, .data, .sentinel, .sentinel, .sentinel, .sentinel, .sentinel, .sentinel, .sentinel], laidTests := true, laidLooks := .later }
def PoolBackCardSaid : Prop := Claim7.holds Tryd.pinned (.plain (OpenSpec.ofChange poolBackSpec)) poolBackCard

/-- THE TIED CARD OF 'lammastidelaw3.PackDeltas'. -/
def packDeltasCard : Claim7 := { stood := { row := packDeltasRow, standIns := [], harness := (true, "b0a5b19ab6f1a6a10de4d8ea0b8fbfcb228d3f32165dcce7ba88557ec5008da1"), looks := true }, kinds := [], alts := [], laidByText := true, laidKinds := [.data, .data, .data, .sentinel, .sentinel, .sentinel, .sentinel, .sentinel, .sentinel], laidTests := true, laidLooks := .later }
def PackDeltasCardSaid : Prop := Claim7.holds Tryd.pinned (.plain (OpenSpec.ofChange packDeltasSpec)) packDeltasCard

/-- THE TIED CARD OF 'lammastidelaw3.PackBack'. -/
def packBackCard : Claim7 := { stood := { row := packBackRow, standIns := [], harness := (true, "b0a5b19ab6f1a6a10de4d8ea0b8fbfcb228d3f32165dcce7ba88557ec5008da1"), looks := true }, kinds := [], alts := [], laidByText := true, laidKinds := [.data, .data, .data, .sentinel, .sentinel, .sentinel, .sentinel, .sentinel, .sentinel, .sentinel], laidTests := true, laidLooks := .later }
def PackBackCardSaid : Prop := Claim7.holds Tryd.pinned (.plain (OpenSpec.ofChange packBackSpec)) packBackCard

/-- THE TIED CARD OF 'lammastidelaw1.RuleBack'. -/
def ruleBackCard : Claim7 := { stood := { row := ruleBackRow, standIns := [], harness := (true, "b0a5b19ab6f1a6a10de4d8ea0b8fbfcb228d3f32165dcce7ba88557ec5008da1"), looks := true }, kinds := [], alts := [], laidByText := true, laidKinds := [.data, .data, .data, .data, .sentinel, .sentinel, .sentinel, .sentinel, .sentinel, .sentinel, .sentinel, .pinned], laidTests := true, laidLooks := .later }
def RuleBackCardSaid : Prop := Claim7.holds Tryd.pinned (.plain (OpenSpec.ofChange ruleBackSpec)) ruleBackCard

/-- THE TIED CARD OF 'lammastidelaw3.TapeActs'. -/
def tapeActsCard : Claim7 := { stood := { row := tapeActsRow, standIns := [], harness := (true, "b0a5b19ab6f1a6a10de4d8ea0b8fbfcb228d3f32165dcce7ba88557ec5008da1"), looks := true }, kinds := [], alts := [], laidByText := true, laidKinds := [.data, .data, .data, .handle, .sentinel, .sentinel, .sentinel, .sentinel, .sentinel, .sentinel, .sentinel, .sentinel, .sentinel, .sentinel, .sentinel, .sentinel, .sentinel], laidTests := true, laidLooks := .later }
def TapeActsCardSaid : Prop := Claim7.holds Tryd.pinned (.plain (OpenSpec.ofChange tapeActsSpec)) tapeActsCard

/-- THE SECOND FORM's CARD OF 'lammastidelaw3.TapeJoins'. -/
def tapeJoinsUptoCard : Claim7 := { stood := { row := tapeJoinsUptoRow, standIns := [], harness := (true, "b0a5b19ab6f1a6a10de4d8ea0b8fbfcb228d3f32165dcce7ba88557ec5008da1"), looks := true }, kinds := [], alts := [], laidByText := true, laidKinds := [.data, .data, .data, .sentinel, .sentinel, .sentinel, .sentinel, .sentinel, .sentinel], laidTests := true, laidLooks := .later }
def TapeJoinsUptoCardSaid : Prop := Claim7.holds Tryd.pinned (.plain (OpenSpec.upto tapeJoinsSpec)) tapeJoinsUptoCard

/-- THE SECOND FORM's CARD OF 'lammastidelaw3.PackJoins'. -/
def packJoinsUptoCard : Claim7 := { stood := { row := packJoinsUptoRow, standIns := [], harness := (true, "b0a5b19ab6f1a6a10de4d8ea0b8fbfcb228d3f32165dcce7ba88557ec5008da1"), looks := true }, kinds := [], alts := [], laidByText := true, laidKinds := [.data, .data, .data, .sentinel, .sentinel, .sentinel, .sentinel], laidTests := true, laidLooks := .later }
def PackJoinsUptoCardSaid : Prop := Claim7.holds Tryd.pinned (.plain (OpenSpec.upto packJoinsSpec)) packJoinsUptoCard

/-- THE SECOND FORM's CARD OF 'lammastidelaw3.TapeCuts'. -/
def tapeCutsUptoCard : Claim7 := { stood := { row := tapeCutsUptoRow, standIns := [], harness := (true, "b0a5b19ab6f1a6a10de4d8ea0b8fbfcb228d3f32165dcce7ba88557ec5008da1"), looks := true }, kinds := [], alts := [], laidByText := true, laidKinds := [.data, .data, .data, .sentinel, .sentinel, .sentinel, .sentinel, .sentinel, .sentinel], laidTests := true, laidLooks := .later }
def TapeCutsUptoCardSaid : Prop := Claim7.holds Tryd.pinned (.plain (OpenSpec.upto tapeCutsSpec)) tapeCutsUptoCard

/-- THE SECOND FORM's CARD OF 'lammastidelaw2.PoolBack'. -/
def poolBackUptoCard : Claim7 := { stood := { row := poolBackUptoRow, standIns := [], harness := (true, "b0a5b19ab6f1a6a10de4d8ea0b8fbfcb228d3f32165dcce7ba88557ec5008da1"), looks := true }, kinds := [], alts := [], laidByText := true, laidKinds := [.data, .data, .data, .sentinel, .sentinel, .sentinel, .sentinel, .sentinel, .sentinel, .sentinel], laidTests := true, laidLooks := .later }
def PoolBackUptoCardSaid : Prop := Claim7.holds Tryd.pinned (.plain (OpenSpec.upto poolBackSpec)) poolBackUptoCard

/-- THE SECOND FORM's CARD OF 'lammastidelaw3.PackDeltas'. -/
def packDeltasUptoCard : Claim7 := { stood := { row := packDeltasUptoRow, standIns := [], harness := (true, "b0a5b19ab6f1a6a10de4d8ea0b8fbfcb228d3f32165dcce7ba88557ec5008da1"), looks := true }, kinds := [], alts := [], laidByText := true, laidKinds := [.data, .data, .data, .sentinel, .sentinel, .sentinel, .sentinel, .sentinel, .sentinel], laidTests := true, laidLooks := .later }
def PackDeltasUptoCardSaid : Prop := Claim7.holds Tryd.pinned (.plain (OpenSpec.upto packDeltasSpec)) packDeltasUptoCard

/-- THE SECOND FORM's CARD OF 'lammastidelaw3.PackBack'. -/
def packBackUptoCard : Claim7 := { stood := { row := packBackUptoRow, standIns := [], harness := (true, "b0a5b19ab6f1a6a10de4d8ea0b8fbfcb228d3f32165dcce7ba88557ec5008da1"), looks := true }, kinds := [], alts := [], laidByText := true, laidKinds := [.data, .data, .data, .sentinel, .sentinel, .sentinel, .sentinel, .sentinel, .sentinel, .sentinel], laidTests := true, laidLooks := .later }
def PackBackUptoCardSaid : Prop := Claim7.holds Tryd.pinned (.plain (OpenSpec.upto packBackSpec)) packBackUptoCard

/-- THE SECOND FORM's CARD OF 'lammastidelaw1.RuleBack'. -/
def ruleBackUptoCard : Claim7 := { stood := { row := ruleBackUptoRow, standIns := [], harness := (true, "b0a5b19ab6f1a6a10de4d8ea0b8fbfcb228d3f32165dcce7ba88557ec5008da1"), looks := true }, kinds := [], alts := [], laidByText := true, laidKinds := [.data, .data, .data, .data, .sentinel, .sentinel, .sentinel, .sentinel, .sentinel, .sentinel, .sentinel, .pinned], laidTests := true, laidLooks := .later }
def RuleBackUptoCardSaid : Prop := Claim7.holds Tryd.pinned (.plain (OpenSpec.upto ruleBackSpec)) ruleBackUptoCard

/-- THE SECOND FORM's CARD OF 'lammastidelaw3.TapeActs'. -/
def tapeActsUptoCard : Claim7 := { stood := { row := tapeActsUptoRow, standIns := [], harness := (true, "b0a5b19ab6f1a6a10de4d8ea0b8fbfcb228d3f32165dcce7ba88557ec5008da1"), looks := true }, kinds := [], alts := [], laidByText := true, laidKinds := [.data, .data, .data, .handle, .sentinel, .sentinel, .sentinel, .sentinel, .sentinel, .sentinel, .sentinel, .sentinel, .sentinel, .sentinel, .sentinel, .sentinel, .sentinel], laidTests := true, laidLooks := .later }
def TapeActsUptoCardSaid : Prop := Claim7.holds Tryd.pinned (.plain (OpenSpec.upto tapeActsSpec)) tapeActsUptoCard
end Rows
end Go.Proofs.YtmlndamkcipebaaDoor
