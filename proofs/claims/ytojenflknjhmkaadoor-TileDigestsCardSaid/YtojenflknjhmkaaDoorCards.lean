/-
  DERIVED. GIVEN WITH THE SEED: THE CARDS: each row of YtojenflknjhmkaaDoorRows.lean that lists a variable, with what it lists TIED to the program's text (the seventh form; the later family's looks); each row that meets fmt, with fmt's text TOLD by the authors' own Lean function (tested against real Go, not proved from fmt's source: count such statements apart). THE CARD IS WHAT COUNTS. Prove the row's statement (the work); the ties are given (YtojenflknjhmkaaDoorTie.lean); close each card by the builder's one call (the guide's Derived/Test/ToyasCard.lean, 'card_holds'). Laid BY PROGRAM, IN A SANDBOX (cutbox-door.mjs). By AI agents, Wed Nov 11 2026. No macro, syntax, notation, axiom, sorry.
-/
import Derived.Test.YtojenflknjhmkaaDoorRows
import GoSem.ClaimSeven
namespace Go.Proofs.YtojenflknjhmkaaDoor
namespace Rows

/-- THE TIED CARD OF 'coppicelaw08.WireChecks'. -/
def wireChecksCard : Claim7 := { stood := { row := wireChecksRow, standIns := [], harness := (true, "3552c42d1c18e2ee5cf706f4ba72155e08fe7d29ac971522b0b3f3cfc2e4100d"), looks := true }, kinds := [], alts := [], laidByText := true, laidKinds := [.data], laidTests := true, laidLooks := .later }
def WireChecksCardSaid : Prop := Claim7.holds Tryd.pinned (.plain (OpenSpec.ofChange wireChecksSpec)) wireChecksCard

/-- THE TIED CARD OF 'coppicelaw08.WireTree'. -/
def wireTreeCard : Claim7 := { stood := { row := wireTreeRow, standIns := [], harness := (true, "3552c42d1c18e2ee5cf706f4ba72155e08fe7d29ac971522b0b3f3cfc2e4100d"), looks := true }, kinds := [], alts := [], laidByText := true, laidKinds := [.data], laidTests := true, laidLooks := .later }
def WireTreeCardSaid : Prop := Claim7.holds Tryd.pinned (.plain (OpenSpec.ofChange wireTreeSpec)) wireTreeCard

/-- THE TIED CARD OF 'coppicelaw08.WireParses'. -/
def wireParsesCard : Claim7 := { stood := { row := wireParsesRow, standIns := [], harness := (true, "3552c42d1c18e2ee5cf706f4ba72155e08fe7d29ac971522b0b3f3cfc2e4100d"), looks := true }, kinds := [], alts := [], laidByText := true, laidKinds := [.data, .data, .data, .data, .sentinel, .sentinel, .data, .pinned], laidTests := true, laidLooks := .later }
def WireParsesCardSaid : Prop := Claim7.holds Tryd.pinned (.plain (OpenSpec.ofChange wireParsesSpec)) wireParsesCard

/-- THE TIED CARD OF 'coppicelaw08.WireBack'. -/
def wireBackCard : Claim7 := { stood := { row := wireBackRow, standIns := [], harness := (true, "3552c42d1c18e2ee5cf706f4ba72155e08fe7d29ac971522b0b3f3cfc2e4100d"), looks := true }, kinds := [], alts := [], laidByText := true, laidKinds := [.data, .data, .data, .data, .sentinel, .sentinel, .data, .pinned], laidTests := true, laidLooks := .later }
def WireBackCardSaid : Prop := Claim7.holds Tryd.pinned (.plain (OpenSpec.ofChange wireBackSpec)) wireBackCard

/-- THE TIED CARD OF 'coppicelaw21.NoteFormats'. -/
def noteFormatsCard : Claim7 := { stood := { row := noteFormatsRow, standIns := [], harness := (true, "3552c42d1c18e2ee5cf706f4ba72155e08fe7d29ac971522b0b3f3cfc2e4100d"), looks := true }, kinds := [], alts := [], laidByText := true, laidKinds := [.data, .pinned], laidTests := true, laidLooks := .later }
def NoteFormatsCardSaid : Prop := Claim7.holds Tryd.pinned (.plain (OpenSpec.ofChange noteFormatsSpec)) noteFormatsCard

/-- THE TIED CARD OF 'coppicelaw21.NoteParses'. -/
def noteParsesCard : Claim7 := { stood := { row := noteParsesRow, standIns := [], harness := (true, "3552c42d1c18e2ee5cf706f4ba72155e08fe7d29ac971522b0b3f3cfc2e4100d"), looks := true }, kinds := [], alts := [], laidByText := true, laidKinds := [.data, .pinned], laidTests := true, laidLooks := .later }
def NoteParsesCardSaid : Prop := Claim7.holds Tryd.pinned (.plain (OpenSpec.ofChange noteParsesSpec)) noteParsesCard

/-- THE TIED CARD OF 'coppicelaw21.NoteAdds'. -/
def noteAddsCard : Claim7 := { stood := { row := noteAddsRow, standIns := [], harness := (true, "3552c42d1c18e2ee5cf706f4ba72155e08fe7d29ac971522b0b3f3cfc2e4100d"), looks := true }, kinds := [], alts := [], laidByText := true, laidKinds := [.data, .pinned], laidTests := true, laidLooks := .later }
def NoteAddsCardSaid : Prop := Claim7.holds Tryd.pinned (.plain (OpenSpec.ofChange noteAddsSpec)) noteAddsCard

/-- THE TIED CARD OF 'coppicelaw21.NoteBack'. -/
def noteBackCard : Claim7 := { stood := { row := noteBackRow, standIns := [], harness := (true, "3552c42d1c18e2ee5cf706f4ba72155e08fe7d29ac971522b0b3f3cfc2e4100d"), looks := true }, kinds := [], alts := [], laidByText := true, laidKinds := [.data, .pinned], laidTests := true, laidLooks := .later }
def NoteBackCardSaid : Prop := Claim7.holds Tryd.pinned (.plain (OpenSpec.ofChange noteBackSpec)) noteBackCard

/-- THE TIED CARD OF 'coppicelaw22.CheckpointParses'. -/
def checkpointParsesCard : Claim7 := { stood := { row := checkpointParsesRow, standIns := [], harness := (true, "3552c42d1c18e2ee5cf706f4ba72155e08fe7d29ac971522b0b3f3cfc2e4100d"), looks := true }, kinds := [], alts := [], laidByText := true, laidKinds := [.data, .data, .data, .data, .sentinel, .sentinel, .data, .pinned], laidTests := true, laidLooks := .later }
def CheckpointParsesCardSaid : Prop := Claim7.holds Tryd.pinned (.plain (OpenSpec.ofChange checkpointParsesSpec)) checkpointParsesCard

/-- THE TIED CARD OF 'coppicelaw22.CheckpointBack'. -/
def checkpointBackCard : Claim7 := { stood := { row := checkpointBackRow, standIns := [], harness := (true, "3552c42d1c18e2ee5cf706f4ba72155e08fe7d29ac971522b0b3f3cfc2e4100d"), looks := true }, kinds := [], alts := [], laidByText := true, laidKinds := [.data, .data, .data, .data, .sentinel, .sentinel, .data, .pinned], laidTests := true, laidLooks := .later }
def CheckpointBackCardSaid : Prop := Claim7.holds Tryd.pinned (.plain (OpenSpec.ofChange checkpointBackSpec)) checkpointBackCard

/-- THE TIED CARD OF 'coppicelaw10.TileDigests'. -/
def tileDigestsCard : Claim7 := { stood := { row := tileDigestsRow, standIns := [], harness := (true, "3552c42d1c18e2ee5cf706f4ba72155e08fe7d29ac971522b0b3f3cfc2e4100d"), looks := true }, kinds := [], alts := [], laidByText := true, laidKinds := [.data], laidTests := true, laidLooks := .later }
def TileDigestsCardSaid : Prop := Claim7.holds Tryd.pinned (.plain (OpenSpec.ofChange tileDigestsSpec)) tileDigestsCard

/-- THE SECOND FORM's CARD OF 'coppicelaw08.WireChecks'. -/
def wireChecksUptoCard : Claim7 := { stood := { row := wireChecksUptoRow, standIns := [], harness := (true, "3552c42d1c18e2ee5cf706f4ba72155e08fe7d29ac971522b0b3f3cfc2e4100d"), looks := true }, kinds := [], alts := [], laidByText := true, laidKinds := [.data], laidTests := true, laidLooks := .later }
def WireChecksUptoCardSaid : Prop := Claim7.holds Tryd.pinned (.plain (OpenSpec.upto wireChecksSpec)) wireChecksUptoCard

/-- THE SECOND FORM's CARD OF 'coppicelaw08.WireTree'. -/
def wireTreeUptoCard : Claim7 := { stood := { row := wireTreeUptoRow, standIns := [], harness := (true, "3552c42d1c18e2ee5cf706f4ba72155e08fe7d29ac971522b0b3f3cfc2e4100d"), looks := true }, kinds := [], alts := [], laidByText := true, laidKinds := [.data], laidTests := true, laidLooks := .later }
def WireTreeUptoCardSaid : Prop := Claim7.holds Tryd.pinned (.plain (OpenSpec.upto wireTreeSpec)) wireTreeUptoCard

/-- THE SECOND FORM's CARD OF 'coppicelaw08.WireParses'. -/
def wireParsesUptoCard : Claim7 := { stood := { row := wireParsesUptoRow, standIns := [], harness := (true, "3552c42d1c18e2ee5cf706f4ba72155e08fe7d29ac971522b0b3f3cfc2e4100d"), looks := true }, kinds := [], alts := [], laidByText := true, laidKinds := [.data, .data, .data, .data, .sentinel, .sentinel, .data, .pinned], laidTests := true, laidLooks := .later }
def WireParsesUptoCardSaid : Prop := Claim7.holds Tryd.pinned (.plain (OpenSpec.upto wireParsesSpec)) wireParsesUptoCard

/-- THE SECOND FORM's CARD OF 'coppicelaw08.WireBack'. -/
def wireBackUptoCard : Claim7 := { stood := { row := wireBackUptoRow, standIns := [], harness := (true, "3552c42d1c18e2ee5cf706f4ba72155e08fe7d29ac971522b0b3f3cfc2e4100d"), looks := true }, kinds := [], alts := [], laidByText := true, laidKinds := [.data, .data, .data, .data, .sentinel, .sentinel, .data, .pinned], laidTests := true, laidLooks := .later }
def WireBackUptoCardSaid : Prop := Claim7.holds Tryd.pinned (.plain (OpenSpec.upto wireBackSpec)) wireBackUptoCard

/-- THE SECOND FORM's CARD OF 'coppicelaw21.NoteFormats'. -/
def noteFormatsUptoCard : Claim7 := { stood := { row := noteFormatsUptoRow, standIns := [], harness := (true, "3552c42d1c18e2ee5cf706f4ba72155e08fe7d29ac971522b0b3f3cfc2e4100d"), looks := true }, kinds := [], alts := [], laidByText := true, laidKinds := [.data, .pinned], laidTests := true, laidLooks := .later }
def NoteFormatsUptoCardSaid : Prop := Claim7.holds Tryd.pinned (.plain (OpenSpec.upto noteFormatsSpec)) noteFormatsUptoCard

/-- THE SECOND FORM's CARD OF 'coppicelaw21.NoteParses'. -/
def noteParsesUptoCard : Claim7 := { stood := { row := noteParsesUptoRow, standIns := [], harness := (true, "3552c42d1c18e2ee5cf706f4ba72155e08fe7d29ac971522b0b3f3cfc2e4100d"), looks := true }, kinds := [], alts := [], laidByText := true, laidKinds := [.data, .pinned], laidTests := true, laidLooks := .later }
def NoteParsesUptoCardSaid : Prop := Claim7.holds Tryd.pinned (.plain (OpenSpec.upto noteParsesSpec)) noteParsesUptoCard

/-- THE SECOND FORM's CARD OF 'coppicelaw21.NoteAdds'. -/
def noteAddsUptoCard : Claim7 := { stood := { row := noteAddsUptoRow, standIns := [], harness := (true, "3552c42d1c18e2ee5cf706f4ba72155e08fe7d29ac971522b0b3f3cfc2e4100d"), looks := true }, kinds := [], alts := [], laidByText := true, laidKinds := [.data, .pinned], laidTests := true, laidLooks := .later }
def NoteAddsUptoCardSaid : Prop := Claim7.holds Tryd.pinned (.plain (OpenSpec.upto noteAddsSpec)) noteAddsUptoCard

/-- THE SECOND FORM's CARD OF 'coppicelaw21.NoteBack'. -/
def noteBackUptoCard : Claim7 := { stood := { row := noteBackUptoRow, standIns := [], harness := (true, "3552c42d1c18e2ee5cf706f4ba72155e08fe7d29ac971522b0b3f3cfc2e4100d"), looks := true }, kinds := [], alts := [], laidByText := true, laidKinds := [.data, .pinned], laidTests := true, laidLooks := .later }
def NoteBackUptoCardSaid : Prop := Claim7.holds Tryd.pinned (.plain (OpenSpec.upto noteBackSpec)) noteBackUptoCard

/-- THE SECOND FORM's CARD OF 'coppicelaw22.CheckpointParses'. -/
def checkpointParsesUptoCard : Claim7 := { stood := { row := checkpointParsesUptoRow, standIns := [], harness := (true, "3552c42d1c18e2ee5cf706f4ba72155e08fe7d29ac971522b0b3f3cfc2e4100d"), looks := true }, kinds := [], alts := [], laidByText := true, laidKinds := [.data, .data, .data, .data, .sentinel, .sentinel, .data, .pinned], laidTests := true, laidLooks := .later }
def CheckpointParsesUptoCardSaid : Prop := Claim7.holds Tryd.pinned (.plain (OpenSpec.upto checkpointParsesSpec)) checkpointParsesUptoCard

/-- THE SECOND FORM's CARD OF 'coppicelaw22.CheckpointBack'. -/
def checkpointBackUptoCard : Claim7 := { stood := { row := checkpointBackUptoRow, standIns := [], harness := (true, "3552c42d1c18e2ee5cf706f4ba72155e08fe7d29ac971522b0b3f3cfc2e4100d"), looks := true }, kinds := [], alts := [], laidByText := true, laidKinds := [.data, .data, .data, .data, .sentinel, .sentinel, .data, .pinned], laidTests := true, laidLooks := .later }
def CheckpointBackUptoCardSaid : Prop := Claim7.holds Tryd.pinned (.plain (OpenSpec.upto checkpointBackSpec)) checkpointBackUptoCard

/-- THE SECOND FORM's CARD OF 'coppicelaw10.TileDigests'. -/
def tileDigestsUptoCard : Claim7 := { stood := { row := tileDigestsUptoRow, standIns := [], harness := (true, "3552c42d1c18e2ee5cf706f4ba72155e08fe7d29ac971522b0b3f3cfc2e4100d"), looks := true }, kinds := [], alts := [], laidByText := true, laidKinds := [.data], laidTests := true, laidLooks := .later }
def TileDigestsUptoCardSaid : Prop := Claim7.holds Tryd.pinned (.plain (OpenSpec.upto tileDigestsSpec)) tileDigestsUptoCard
end Rows
end Go.Proofs.YtojenflknjhmkaaDoor
