/-
  DERIVED. GIVEN WITH THE SEED: THE CARDS: each row of YtnecgoahdkfbeaaDoorRows.lean that lists a variable, with what it lists TIED to the program's text (the seventh form; the later family's looks); each row that meets fmt, with fmt's text TOLD by the authors' own Lean function (tested against real Go, not proved from fmt's source: count such statements apart). THE CARD IS WHAT COUNTS. Prove the row's statement (the work); the ties are given (YtnecgoahdkfbeaaDoorTie.lean); close each card by the builder's one call (the guide's Derived/Test/ToyasCard.lean, 'card_holds'). Laid BY PROGRAM, IN A SANDBOX (cutbox-door.mjs). By AI agents, Wed Nov 11 2026. No macro, syntax, notation, axiom, sorry.
-/
import Derived.Test.YtnecgoahdkfbeaaDoorRows
import GoSem.ClaimSeven
namespace Go.Proofs.YtnecgoahdkfbeaaDoor
namespace Rows

/-- THE TIED CARD OF 'coppicelaw10.TilePaths'. -/
def tilePathsCard : Claim7 := { stood := { row := tilePathsRow, standIns := [], harness := (true, "ef27015dec40f2f6febff166b48588093d1c4cb5532feebcf1a92906588e84c1"), looks := true }, kinds := [], alts := [], laidByText := true, laidKinds := [.data, .data, .data, .data, .sentinel, .sentinel, .pinned], laidTests := true, laidLooks := .later }
def TilePathsCardSaid : Prop := Claim7.holds Tryd.pinned (.plain (OpenSpec.ofChange tilePathsSpec)) tilePathsCard

/-- THE TIED CARD OF 'coppicelaw10.TileBack'. -/
def tileBackCard : Claim7 := { stood := { row := tileBackRow, standIns := [], harness := (true, "ef27015dec40f2f6febff166b48588093d1c4cb5532feebcf1a92906588e84c1"), looks := true }, kinds := [], alts := [], laidByText := true, laidKinds := [.data, .data, .data, .data, .sentinel, .sentinel, .pinned], laidTests := true, laidLooks := .later }
def TileBackCardSaid : Prop := Claim7.holds Tryd.pinned (.plain (OpenSpec.ofChange tileBackSpec)) tileBackCard

/-- THE TIED CARD OF 'coppicelaw10.TileSubs'. -/
def tileSubsCard : Claim7 := { stood := { row := tileSubsRow, standIns := [], harness := (true, "ef27015dec40f2f6febff166b48588093d1c4cb5532feebcf1a92906588e84c1"), looks := true }, kinds := [], alts := [], laidByText := true, laidKinds := [.data], laidTests := true, laidLooks := .later }
def TileSubsCardSaid : Prop := Claim7.holds Tryd.pinned (.plain (OpenSpec.ofChange tileSubsSpec)) tileSubsCard

/-- THE TIED CARD OF 'coppicelaw10.TileLevels'. -/
def tileLevelsCard : Claim7 := { stood := { row := tileLevelsRow, standIns := [], harness := (true, "ef27015dec40f2f6febff166b48588093d1c4cb5532feebcf1a92906588e84c1"), looks := true }, kinds := [], alts := [], laidByText := true, laidKinds := [.data], laidTests := true, laidLooks := .later }
def TileLevelsCardSaid : Prop := Claim7.holds Tryd.pinned (.plain (OpenSpec.ofChange tileLevelsSpec)) tileLevelsCard

/-- THE TIED CARD OF 'coppicelaw20.KeysPublics'. -/
def keysPublicsCard : Claim7 := { stood := { row := keysPublicsRow, standIns := [], harness := (true, "ef27015dec40f2f6febff166b48588093d1c4cb5532feebcf1a92906588e84c1"), looks := true }, kinds := [], alts := [], laidByText := true, laidKinds := [.data], laidTests := true, laidLooks := .later }
def KeysPublicsCardSaid : Prop := Claim7.holds Tryd.pinned (.plain (OpenSpec.ofChange keysPublicsSpec)) keysPublicsCard

/-- THE TIED CARD OF 'coppicelaw20.KeysVerifies'. -/
def keysVerifiesCard : Claim7 := { stood := { row := keysVerifiesRow, standIns := [], harness := (true, "ef27015dec40f2f6febff166b48588093d1c4cb5532feebcf1a92906588e84c1"), looks := true }, kinds := [], alts := [], laidByText := true, laidKinds := [.data], laidTests := true, laidLooks := .later }
def KeysVerifiesCardSaid : Prop := Claim7.holds Tryd.pinned (.plain (OpenSpec.ofChange keysVerifiesSpec)) keysVerifiesCard

/-- THE TIED CARD OF 'coppicelaw23.SlotsCrashes'. -/
def slotsCrashesCard : Claim7 := { stood := { row := slotsCrashesRow, standIns := [], harness := (true, "ef27015dec40f2f6febff166b48588093d1c4cb5532feebcf1a92906588e84c1"), looks := true }, kinds := [], alts := [], laidByText := true, laidKinds := [.data], laidTests := true, laidLooks := .later }
def SlotsCrashesCardSaid : Prop := Claim7.holds Tryd.pinned (.plain (OpenSpec.ofChange slotsCrashesSpec)) slotsCrashesCard

/-- THE TIED CARD OF 'coppicelaw23.SlotsPlays'. -/
def slotsPlaysCard : Claim7 := { stood := { row := slotsPlaysRow, standIns := [], harness := (true, "ef27015dec40f2f6febff166b48588093d1c4cb5532feebcf1a92906588e84c1"), looks := true }, kinds := [], alts := [], laidByText := true, laidKinds := [.data], laidTests := true, laidLooks := .later }
def SlotsPlaysCardSaid : Prop := Claim7.holds Tryd.pinned (.plain (OpenSpec.ofChange slotsPlaysSpec)) slotsPlaysCard

/-- THE SECOND FORM's CARD OF 'coppicelaw10.TilePaths'. -/
def tilePathsUptoCard : Claim7 := { stood := { row := tilePathsUptoRow, standIns := [], harness := (true, "ef27015dec40f2f6febff166b48588093d1c4cb5532feebcf1a92906588e84c1"), looks := true }, kinds := [], alts := [], laidByText := true, laidKinds := [.data, .data, .data, .data, .sentinel, .sentinel, .pinned], laidTests := true, laidLooks := .later }
def TilePathsUptoCardSaid : Prop := Claim7.holds Tryd.pinned (.plain (OpenSpec.upto tilePathsSpec)) tilePathsUptoCard

/-- THE SECOND FORM's CARD OF 'coppicelaw10.TileBack'. -/
def tileBackUptoCard : Claim7 := { stood := { row := tileBackUptoRow, standIns := [], harness := (true, "ef27015dec40f2f6febff166b48588093d1c4cb5532feebcf1a92906588e84c1"), looks := true }, kinds := [], alts := [], laidByText := true, laidKinds := [.data, .data, .data, .data, .sentinel, .sentinel, .pinned], laidTests := true, laidLooks := .later }
def TileBackUptoCardSaid : Prop := Claim7.holds Tryd.pinned (.plain (OpenSpec.upto tileBackSpec)) tileBackUptoCard

/-- THE SECOND FORM's CARD OF 'coppicelaw10.TileSubs'. -/
def tileSubsUptoCard : Claim7 := { stood := { row := tileSubsUptoRow, standIns := [], harness := (true, "ef27015dec40f2f6febff166b48588093d1c4cb5532feebcf1a92906588e84c1"), looks := true }, kinds := [], alts := [], laidByText := true, laidKinds := [.data], laidTests := true, laidLooks := .later }
def TileSubsUptoCardSaid : Prop := Claim7.holds Tryd.pinned (.plain (OpenSpec.upto tileSubsSpec)) tileSubsUptoCard

/-- THE SECOND FORM's CARD OF 'coppicelaw10.TileLevels'. -/
def tileLevelsUptoCard : Claim7 := { stood := { row := tileLevelsUptoRow, standIns := [], harness := (true, "ef27015dec40f2f6febff166b48588093d1c4cb5532feebcf1a92906588e84c1"), looks := true }, kinds := [], alts := [], laidByText := true, laidKinds := [.data], laidTests := true, laidLooks := .later }
def TileLevelsUptoCardSaid : Prop := Claim7.holds Tryd.pinned (.plain (OpenSpec.upto tileLevelsSpec)) tileLevelsUptoCard

/-- THE SECOND FORM's CARD OF 'coppicelaw20.KeysPublics'. -/
def keysPublicsUptoCard : Claim7 := { stood := { row := keysPublicsUptoRow, standIns := [], harness := (true, "ef27015dec40f2f6febff166b48588093d1c4cb5532feebcf1a92906588e84c1"), looks := true }, kinds := [], alts := [], laidByText := true, laidKinds := [.data], laidTests := true, laidLooks := .later }
def KeysPublicsUptoCardSaid : Prop := Claim7.holds Tryd.pinned (.plain (OpenSpec.upto keysPublicsSpec)) keysPublicsUptoCard

/-- THE SECOND FORM's CARD OF 'coppicelaw20.KeysVerifies'. -/
def keysVerifiesUptoCard : Claim7 := { stood := { row := keysVerifiesUptoRow, standIns := [], harness := (true, "ef27015dec40f2f6febff166b48588093d1c4cb5532feebcf1a92906588e84c1"), looks := true }, kinds := [], alts := [], laidByText := true, laidKinds := [.data], laidTests := true, laidLooks := .later }
def KeysVerifiesUptoCardSaid : Prop := Claim7.holds Tryd.pinned (.plain (OpenSpec.upto keysVerifiesSpec)) keysVerifiesUptoCard

/-- THE SECOND FORM's CARD OF 'coppicelaw23.SlotsCrashes'. -/
def slotsCrashesUptoCard : Claim7 := { stood := { row := slotsCrashesUptoRow, standIns := [], harness := (true, "ef27015dec40f2f6febff166b48588093d1c4cb5532feebcf1a92906588e84c1"), looks := true }, kinds := [], alts := [], laidByText := true, laidKinds := [.data], laidTests := true, laidLooks := .later }
def SlotsCrashesUptoCardSaid : Prop := Claim7.holds Tryd.pinned (.plain (OpenSpec.upto slotsCrashesSpec)) slotsCrashesUptoCard

/-- THE SECOND FORM's CARD OF 'coppicelaw23.SlotsPlays'. -/
def slotsPlaysUptoCard : Claim7 := { stood := { row := slotsPlaysUptoRow, standIns := [], harness := (true, "ef27015dec40f2f6febff166b48588093d1c4cb5532feebcf1a92906588e84c1"), looks := true }, kinds := [], alts := [], laidByText := true, laidKinds := [.data], laidTests := true, laidLooks := .later }
def SlotsPlaysUptoCardSaid : Prop := Claim7.holds Tryd.pinned (.plain (OpenSpec.upto slotsPlaysSpec)) slotsPlaysUptoCard
end Rows
end Go.Proofs.YtnecgoahdkfbeaaDoor
