/-
  DERIVED. GIVEN WITH THE SEED: THE CARDS: each row of YtjgbmkmkhngddaaDoorRows.lean that lists a variable, with what it lists TIED to the program's text (the seventh form; the later family's looks); each row that meets fmt, with fmt's text TOLD by the authors' own Lean function (tested against real Go, not proved from fmt's source: count such statements apart). THE CARD IS WHAT COUNTS. Prove the row's statement (the work); the ties are given (YtjgbmkmkhngddaaDoorTie.lean); close each card by the builder's one call (the guide's Derived/Test/ToyasCard.lean, 'card_holds'). Laid BY PROGRAM, IN A SANDBOX (cutbox-door.mjs). By AI agents, Wed Nov 11 2026. No macro, syntax, notation, axiom, sorry.
-/
import Derived.Test.YtjgbmkmkhngddaaDoorRows
import GoSem.ClaimSeven
namespace Go.Proofs.YtjgbmkmkhngddaaDoor
namespace Rows

/-- THE TIED CARD OF 'coppicelaw23.SlotsNobody'. -/
def slotsNobodyCard : Claim7 := { stood := { row := slotsNobodyRow, standIns := [], harness := (true, "d173b531f65495f752b096922489a7eeb503aa76c0657f23cf545cee41c50975"), looks := false }, kinds := [], alts := [], laidByText := true, laidKinds := [.data], laidTests := true, laidLooks := .later }
def SlotsNobodyCardSaid : Prop := Claim7.holds Tryd.pinned (.plain (OpenSpec.ofChange slotsNobodySpec)) slotsNobodyCard

/-- THE TIED CARD OF 'coppicelaw20.KeysNobody'. -/
def keysNobodyCard : Claim7 := { stood := { row := keysNobodyRow, standIns := [], harness := (true, "d173b531f65495f752b096922489a7eeb503aa76c0657f23cf545cee41c50975"), looks := false }, kinds := [], alts := [], laidByText := true, laidKinds := [.data], laidTests := true, laidLooks := .later }
def KeysNobodyCardSaid : Prop := Claim7.holds Tryd.pinned (.plain (OpenSpec.ofChange keysNobodySpec)) keysNobodyCard

/-- THE TIED CARD OF 'coppicelaw22.CheckpointThree'. -/
def checkpointThreeCard : Claim7 := { stood := { row := checkpointThreeRow, standIns := [], harness := (true, "d173b531f65495f752b096922489a7eeb503aa76c0657f23cf545cee41c50975"), looks := false }, kinds := [], alts := [], laidByText := true, laidKinds := [.data, .data, .data, .data, .data, .pinned], laidTests := true, laidLooks := .later }
def CheckpointThreeCardSaid : Prop := Claim7.holds Tryd.pinned (.plain (OpenSpec.ofChange checkpointThreeSpec)) checkpointThreeCard

/-- THE TIED CARD OF 'coppicelaw22.CheckpointOrders'. -/
def checkpointOrdersCard : Claim7 := { stood := { row := checkpointOrdersRow, standIns := [], harness := (true, "d173b531f65495f752b096922489a7eeb503aa76c0657f23cf545cee41c50975"), looks := false }, kinds := [], alts := [], laidByText := true, laidKinds := [.data, .data, .pinned], laidTests := true, laidLooks := .later }
def CheckpointOrdersCardSaid : Prop := Claim7.holds Tryd.pinned (.plain (OpenSpec.ofChange checkpointOrdersSpec)) checkpointOrdersCard

/-- THE TIED CARD OF 'coppicelaw22.CheckpointFormats'. -/
def checkpointFormatsCard : Claim7 := { stood := { row := checkpointFormatsRow, standIns := [], harness := (true, "d173b531f65495f752b096922489a7eeb503aa76c0657f23cf545cee41c50975"), looks := false }, kinds := [], alts := [], laidByText := true, laidKinds := [.data, .data, .data, .data, .data, .pinned], laidTests := true, laidLooks := .later }
def CheckpointFormatsCardSaid : Prop := Claim7.holds Tryd.pinned (.plain (OpenSpec.ofChange checkpointFormatsSpec)) checkpointFormatsCard

/-- THE TIED CARD OF 'coppicelaw21.NoteDigests'. -/
def noteDigestsCard : Claim7 := { stood := { row := noteDigestsRow, standIns := [], harness := (true, "d173b531f65495f752b096922489a7eeb503aa76c0657f23cf545cee41c50975"), looks := false }, kinds := [], alts := [], laidByText := true, laidKinds := [.data], laidTests := true, laidLooks := .later }
def NoteDigestsCardSaid : Prop := Claim7.holds Tryd.pinned (.plain (OpenSpec.ofChange noteDigestsSpec)) noteDigestsCard

/-- THE TIED CARD OF 'coppicelaw21.NoteNames'. -/
def noteNamesCard : Claim7 := { stood := { row := noteNamesRow, standIns := [], harness := (true, "d173b531f65495f752b096922489a7eeb503aa76c0657f23cf545cee41c50975"), looks := false }, kinds := [], alts := [], laidByText := true, laidKinds := [.data, .data, .pinned], laidTests := true, laidLooks := .later }
def NoteNamesCardSaid : Prop := Claim7.holds Tryd.pinned (.plain (OpenSpec.ofChange noteNamesSpec)) noteNamesCard

/-- THE TIED CARD OF 'coppicelaw21.NoteFormats'. -/
def noteFormatsCard : Claim7 := { stood := { row := noteFormatsRow, standIns := [], harness := (true, "d173b531f65495f752b096922489a7eeb503aa76c0657f23cf545cee41c50975"), looks := false }, kinds := [], alts := [], laidByText := true, laidKinds := [.data, .pinned], laidTests := true, laidLooks := .later }
def NoteFormatsCardSaid : Prop := Claim7.holds Tryd.pinned (.plain (OpenSpec.ofChange noteFormatsSpec)) noteFormatsCard

/-- THE TIED CARD OF 'coppicelaw23.SlotsNames'. -/
def slotsNamesCard : Claim7 := { stood := { row := slotsNamesRow, standIns := [], harness := (true, "d173b531f65495f752b096922489a7eeb503aa76c0657f23cf545cee41c50975"), looks := false }, kinds := [], alts := [], laidByText := true, laidKinds := [.data], laidTests := true, laidLooks := .later }
def SlotsNamesCardSaid : Prop := Claim7.holds Tryd.pinned (.plain (OpenSpec.ofChange slotsNamesSpec)) slotsNamesCard

/-- THE SECOND FORM's CARD OF 'coppicelaw23.SlotsNobody'. -/
def slotsNobodyUptoCard : Claim7 := { stood := { row := slotsNobodyUptoRow, standIns := [], harness := (true, "d173b531f65495f752b096922489a7eeb503aa76c0657f23cf545cee41c50975"), looks := false }, kinds := [], alts := [], laidByText := true, laidKinds := [.data], laidTests := true, laidLooks := .later }
def SlotsNobodyUptoCardSaid : Prop := Claim7.holds Tryd.pinned (.plain (OpenSpec.upto slotsNobodySpec)) slotsNobodyUptoCard

/-- THE SECOND FORM's CARD OF 'coppicelaw20.KeysNobody'. -/
def keysNobodyUptoCard : Claim7 := { stood := { row := keysNobodyUptoRow, standIns := [], harness := (true, "d173b531f65495f752b096922489a7eeb503aa76c0657f23cf545cee41c50975"), looks := false }, kinds := [], alts := [], laidByText := true, laidKinds := [.data], laidTests := true, laidLooks := .later }
def KeysNobodyUptoCardSaid : Prop := Claim7.holds Tryd.pinned (.plain (OpenSpec.upto keysNobodySpec)) keysNobodyUptoCard

/-- THE SECOND FORM's CARD OF 'coppicelaw22.CheckpointThree'. -/
def checkpointThreeUptoCard : Claim7 := { stood := { row := checkpointThreeUptoRow, standIns := [], harness := (true, "d173b531f65495f752b096922489a7eeb503aa76c0657f23cf545cee41c50975"), looks := false }, kinds := [], alts := [], laidByText := true, laidKinds := [.data, .data, .data, .data, .data, .pinned], laidTests := true, laidLooks := .later }
def CheckpointThreeUptoCardSaid : Prop := Claim7.holds Tryd.pinned (.plain (OpenSpec.upto checkpointThreeSpec)) checkpointThreeUptoCard

/-- THE SECOND FORM's CARD OF 'coppicelaw22.CheckpointOrders'. -/
def checkpointOrdersUptoCard : Claim7 := { stood := { row := checkpointOrdersUptoRow, standIns := [], harness := (true, "d173b531f65495f752b096922489a7eeb503aa76c0657f23cf545cee41c50975"), looks := false }, kinds := [], alts := [], laidByText := true, laidKinds := [.data, .data, .pinned], laidTests := true, laidLooks := .later }
def CheckpointOrdersUptoCardSaid : Prop := Claim7.holds Tryd.pinned (.plain (OpenSpec.upto checkpointOrdersSpec)) checkpointOrdersUptoCard

/-- THE SECOND FORM's CARD OF 'coppicelaw22.CheckpointFormats'. -/
def checkpointFormatsUptoCard : Claim7 := { stood := { row := checkpointFormatsUptoRow, standIns := [], harness := (true, "d173b531f65495f752b096922489a7eeb503aa76c0657f23cf545cee41c50975"), looks := false }, kinds := [], alts := [], laidByText := true, laidKinds := [.data, .data, .data, .data, .data, .pinned], laidTests := true, laidLooks := .later }
def CheckpointFormatsUptoCardSaid : Prop := Claim7.holds Tryd.pinned (.plain (OpenSpec.upto checkpointFormatsSpec)) checkpointFormatsUptoCard

/-- THE SECOND FORM's CARD OF 'coppicelaw21.NoteDigests'. -/
def noteDigestsUptoCard : Claim7 := { stood := { row := noteDigestsUptoRow, standIns := [], harness := (true, "d173b531f65495f752b096922489a7eeb503aa76c0657f23cf545cee41c50975"), looks := false }, kinds := [], alts := [], laidByText := true, laidKinds := [.data], laidTests := true, laidLooks := .later }
def NoteDigestsUptoCardSaid : Prop := Claim7.holds Tryd.pinned (.plain (OpenSpec.upto noteDigestsSpec)) noteDigestsUptoCard

/-- THE SECOND FORM's CARD OF 'coppicelaw21.NoteNames'. -/
def noteNamesUptoCard : Claim7 := { stood := { row := noteNamesUptoRow, standIns := [], harness := (true, "d173b531f65495f752b096922489a7eeb503aa76c0657f23cf545cee41c50975"), looks := false }, kinds := [], alts := [], laidByText := true, laidKinds := [.data, .data, .pinned], laidTests := true, laidLooks := .later }
def NoteNamesUptoCardSaid : Prop := Claim7.holds Tryd.pinned (.plain (OpenSpec.upto noteNamesSpec)) noteNamesUptoCard

/-- THE SECOND FORM's CARD OF 'coppicelaw21.NoteFormats'. -/
def noteFormatsUptoCard : Claim7 := { stood := { row := noteFormatsUptoRow, standIns := [], harness := (true, "d173b531f65495f752b096922489a7eeb503aa76c0657f23cf545cee41c50975"), looks := false }, kinds := [], alts := [], laidByText := true, laidKinds := [.data, .pinned], laidTests := true, laidLooks := .later }
def NoteFormatsUptoCardSaid : Prop := Claim7.holds Tryd.pinned (.plain (OpenSpec.upto noteFormatsSpec)) noteFormatsUptoCard

/-- THE SECOND FORM's CARD OF 'coppicelaw23.SlotsNames'. -/
def slotsNamesUptoCard : Claim7 := { stood := { row := slotsNamesUptoRow, standIns := [], harness := (true, "d173b531f65495f752b096922489a7eeb503aa76c0657f23cf545cee41c50975"), looks := false }, kinds := [], alts := [], laidByText := true, laidKinds := [.data], laidTests := true, laidLooks := .later }
def SlotsNamesUptoCardSaid : Prop := Claim7.holds Tryd.pinned (.plain (OpenSpec.upto slotsNamesSpec)) slotsNamesUptoCard
end Rows
end Go.Proofs.YtjgbmkmkhngddaaDoor
