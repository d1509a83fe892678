/-
  DERIVED. GIVEN WITH THE SEED: THE CARDS: each row of YtfefcfjedlidnaaDoorRows.lean that lists a variable, with what it lists TIED to the program's text (the seventh form; the later family's looks); each row that meets fmt, with fmt's text TOLD by the authors' own Lean function (tested against real Go, not proved from fmt's source: count such statements apart). THE CARD IS WHAT COUNTS. Prove the row's statement (the work); the ties are given (YtfefcfjedlidnaaDoorTie.lean); close each card by the builder's one call (the guide's Derived/Test/ToyasCard.lean, 'card_holds'). Laid BY PROGRAM, IN A SANDBOX (cutbox-door.mjs). By AI agents, Wed Nov 11 2026. No macro, syntax, notation, axiom, sorry.
-/
import Derived.Test.YtfefcfjedlidnaaDoorRows
import GoSem.ClaimSeven
namespace Go.Proofs.YtfefcfjedlidnaaDoor
namespace Rows

/-- THE TIED CARD OF 'coppicelaw10.TileDigests'. -/
def tileDigestsCard : Claim7 := { stood := { row := tileDigestsRow, standIns := [], harness := (true, "ced22b6b409431156d04523026988e0fa52335eabf209fce2ae3380c4d9dcb13"), looks := false }, kinds := [], alts := [], laidByText := true, laidKinds := [.data], laidTests := true, laidLooks := .later }
def TileDigestsCardSaid : Prop := Claim7.holds Tryd.pinned (.plain (OpenSpec.ofChange tileDigestsSpec)) tileDigestsCard

/-- THE TIED CARD OF 'coppicelaw23.SlotsNames'. -/
def slotsNamesCard : Claim7 := { stood := { row := slotsNamesRow, standIns := [], harness := (true, "ced22b6b409431156d04523026988e0fa52335eabf209fce2ae3380c4d9dcb13"), looks := false }, kinds := [], alts := [], laidByText := true, laidKinds := [.data], laidTests := true, laidLooks := .later }
def SlotsNamesCardSaid : Prop := Claim7.holds Tryd.pinned (.plain (OpenSpec.ofChange slotsNamesSpec)) slotsNamesCard

/-- THE TIED CARD OF 'coppicelaw22.CheckpointOrders'. -/
def checkpointOrdersCard : Claim7 := { stood := { row := checkpointOrdersRow, standIns := [], harness := (true, "ced22b6b409431156d04523026988e0fa52335eabf209fce2ae3380c4d9dcb13"), looks := false }, kinds := [], alts := [], laidByText := true, laidKinds := [.data, .data, .pinned], laidTests := true, laidLooks := .later }
def CheckpointOrdersCardSaid : Prop := Claim7.holds Tryd.pinned (.plain (OpenSpec.ofChange checkpointOrdersSpec)) checkpointOrdersCard

/-- THE TIED CARD OF 'coppicelaw22.CheckpointThree'. -/
def checkpointThreeCard : Claim7 := { stood := { row := checkpointThreeRow, standIns := [], harness := (true, "ced22b6b409431156d04523026988e0fa52335eabf209fce2ae3380c4d9dcb13"), looks := false }, kinds := [], alts := [], laidByText := true, laidKinds := [.data, .data, .data, .data, .data, .pinned], laidTests := true, laidLooks := .later }
def CheckpointThreeCardSaid : Prop := Claim7.holds Tryd.pinned (.plain (OpenSpec.ofChange checkpointThreeSpec)) checkpointThreeCard

/-- THE TIED CARD OF 'coppicelaw22.CheckpointFormats'. -/
def checkpointFormatsCard : Claim7 := { stood := { row := checkpointFormatsRow, standIns := [], harness := (true, "ced22b6b409431156d04523026988e0fa52335eabf209fce2ae3380c4d9dcb13"), looks := false }, kinds := [], alts := [], laidByText := true, laidKinds := [.data, .data, .data, .data, .data, .pinned], laidTests := true, laidLooks := .later }
def CheckpointFormatsCardSaid : Prop := Claim7.holds Tryd.pinned (.plain (OpenSpec.ofChange checkpointFormatsSpec)) checkpointFormatsCard

/-- THE TIED CARD OF 'coppicelaw21.NoteDigests'. -/
def noteDigestsCard : Claim7 := { stood := { row := noteDigestsRow, standIns := [], harness := (true, "ced22b6b409431156d04523026988e0fa52335eabf209fce2ae3380c4d9dcb13"), looks := false }, kinds := [], alts := [], laidByText := true, laidKinds := [.data], laidTests := true, laidLooks := .later }
def NoteDigestsCardSaid : Prop := Claim7.holds Tryd.pinned (.plain (OpenSpec.ofChange noteDigestsSpec)) noteDigestsCard

/-- THE TIED CARD OF 'coppicelaw21.NoteFormats'. -/
def noteFormatsCard : Claim7 := { stood := { row := noteFormatsRow, standIns := [], harness := (true, "ced22b6b409431156d04523026988e0fa52335eabf209fce2ae3380c4d9dcb13"), looks := false }, kinds := [], alts := [], laidByText := true, laidKinds := [.data, .pinned], laidTests := true, laidLooks := .later }
def NoteFormatsCardSaid : Prop := Claim7.holds Tryd.pinned (.plain (OpenSpec.ofChange noteFormatsSpec)) noteFormatsCard

/-- THE TIED CARD OF 'coppicelaw21.NoteNames'. -/
def noteNamesCard : Claim7 := { stood := { row := noteNamesRow, standIns := [], harness := (true, "ced22b6b409431156d04523026988e0fa52335eabf209fce2ae3380c4d9dcb13"), looks := false }, kinds := [], alts := [], laidByText := true, laidKinds := [.data, .data, .pinned], laidTests := true, laidLooks := .later }
def NoteNamesCardSaid : Prop := Claim7.holds Tryd.pinned (.plain (OpenSpec.ofChange noteNamesSpec)) noteNamesCard

/-- THE TIED CARD OF 'coppicelaw08.WireEncodes'. -/
def wireEncodesCard : Claim7 := { stood := { row := wireEncodesRow, standIns := [], harness := (true, "ced22b6b409431156d04523026988e0fa52335eabf209fce2ae3380c4d9dcb13"), looks := false }, kinds := [], alts := [], laidByText := true, laidKinds := [.data, .data, .data, .data], laidTests := true, laidLooks := .later }
def WireEncodesCardSaid : Prop := Claim7.holds Tryd.pinned (.plain (OpenSpec.ofChange wireEncodesSpec)) wireEncodesCard

/-- THE SECOND FORM's CARD OF 'coppicelaw10.TileDigests'. -/
def tileDigestsUptoCard : Claim7 := { stood := { row := tileDigestsUptoRow, standIns := [], harness := (true, "ced22b6b409431156d04523026988e0fa52335eabf209fce2ae3380c4d9dcb13"), looks := false }, kinds := [], alts := [], laidByText := true, laidKinds := [.data], laidTests := true, laidLooks := .later }
def TileDigestsUptoCardSaid : Prop := Claim7.holds Tryd.pinned (.plain (OpenSpec.upto tileDigestsSpec)) tileDigestsUptoCard

/-- THE SECOND FORM's CARD OF 'coppicelaw23.SlotsNames'. -/
def slotsNamesUptoCard : Claim7 := { stood := { row := slotsNamesUptoRow, standIns := [], harness := (true, "ced22b6b409431156d04523026988e0fa52335eabf209fce2ae3380c4d9dcb13"), looks := false }, kinds := [], alts := [], laidByText := true, laidKinds := [.data], laidTests := true, laidLooks := .later }
def SlotsNamesUptoCardSaid : Prop := Claim7.holds Tryd.pinned (.plain (OpenSpec.upto slotsNamesSpec)) slotsNamesUptoCard

/-- THE SECOND FORM's CARD OF 'coppicelaw22.CheckpointOrders'. -/
def checkpointOrdersUptoCard : Claim7 := { stood := { row := checkpointOrdersUptoRow, standIns := [], harness := (true, "ced22b6b409431156d04523026988e0fa52335eabf209fce2ae3380c4d9dcb13"), looks := false }, kinds := [], alts := [], laidByText := true, laidKinds := [.data, .data, .pinned], laidTests := true, laidLooks := .later }
def CheckpointOrdersUptoCardSaid : Prop := Claim7.holds Tryd.pinned (.plain (OpenSpec.upto checkpointOrdersSpec)) checkpointOrdersUptoCard

/-- THE SECOND FORM's CARD OF 'coppicelaw22.CheckpointThree'. -/
def checkpointThreeUptoCard : Claim7 := { stood := { row := checkpointThreeUptoRow, standIns := [], harness := (true, "ced22b6b409431156d04523026988e0fa52335eabf209fce2ae3380c4d9dcb13"), looks := false }, kinds := [], alts := [], laidByText := true, laidKinds := [.data, .data, .data, .data, .data, .pinned], laidTests := true, laidLooks := .later }
def CheckpointThreeUptoCardSaid : Prop := Claim7.holds Tryd.pinned (.plain (OpenSpec.upto checkpointThreeSpec)) checkpointThreeUptoCard

/-- THE SECOND FORM's CARD OF 'coppicelaw22.CheckpointFormats'. -/
def checkpointFormatsUptoCard : Claim7 := { stood := { row := checkpointFormatsUptoRow, standIns := [], harness := (true, "ced22b6b409431156d04523026988e0fa52335eabf209fce2ae3380c4d9dcb13"), looks := false }, kinds := [], alts := [], laidByText := true, laidKinds := [.data, .data, .data, .data, .data, .pinned], laidTests := true, laidLooks := .later }
def CheckpointFormatsUptoCardSaid : Prop := Claim7.holds Tryd.pinned (.plain (OpenSpec.upto checkpointFormatsSpec)) checkpointFormatsUptoCard

/-- THE SECOND FORM's CARD OF 'coppicelaw21.NoteDigests'. -/
def noteDigestsUptoCard : Claim7 := { stood := { row := noteDigestsUptoRow, standIns := [], harness := (true, "ced22b6b409431156d04523026988e0fa52335eabf209fce2ae3380c4d9dcb13"), looks := false }, kinds := [], alts := [], laidByText := true, laidKinds := [.data], laidTests := true, laidLooks := .later }
def NoteDigestsUptoCardSaid : Prop := Claim7.holds Tryd.pinned (.plain (OpenSpec.upto noteDigestsSpec)) noteDigestsUptoCard

/-- THE SECOND FORM's CARD OF 'coppicelaw21.NoteFormats'. -/
def noteFormatsUptoCard : Claim7 := { stood := { row := noteFormatsUptoRow, standIns := [], harness := (true, "ced22b6b409431156d04523026988e0fa52335eabf209fce2ae3380c4d9dcb13"), looks := false }, kinds := [], alts := [], laidByText := true, laidKinds := [.data, .pinned], laidTests := true, laidLooks := .later }
def NoteFormatsUptoCardSaid : Prop := Claim7.holds Tryd.pinned (.plain (OpenSpec.upto noteFormatsSpec)) noteFormatsUptoCard

/-- THE SECOND FORM's CARD OF 'coppicelaw21.NoteNames'. -/
def noteNamesUptoCard : Claim7 := { stood := { row := noteNamesUptoRow, standIns := [], harness := (true, "ced22b6b409431156d04523026988e0fa52335eabf209fce2ae3380c4d9dcb13"), looks := false }, kinds := [], alts := [], laidByText := true, laidKinds := [.data, .data, .pinned], laidTests := true, laidLooks := .later }
def NoteNamesUptoCardSaid : Prop := Claim7.holds Tryd.pinned (.plain (OpenSpec.upto noteNamesSpec)) noteNamesUptoCard

/-- THE SECOND FORM's CARD OF 'coppicelaw08.WireEncodes'. -/
def wireEncodesUptoCard : Claim7 := { stood := { row := wireEncodesUptoRow, standIns := [], harness := (true, "ced22b6b409431156d04523026988e0fa52335eabf209fce2ae3380c4d9dcb13"), looks := false }, kinds := [], alts := [], laidByText := true, laidKinds := [.data, .data, .data, .data], laidTests := true, laidLooks := .later }
def WireEncodesUptoCardSaid : Prop := Claim7.holds Tryd.pinned (.plain (OpenSpec.upto wireEncodesSpec)) wireEncodesUptoCard
end Rows
end Go.Proofs.YtfefcfjedlidnaaDoor
