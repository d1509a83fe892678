/-
  DERIVED. GIVEN WITH THE SEED: THE CARDS: each row of YtjgbmkmkhngddaaGreatDoorRows.lean that lists a variable, with what it lists TIED to the program's text (the seventh form; the later family's looks); each row that meets fmt, with fmt's text TOLD by the authors' own Lean function (tested against real Go, not proved from fmt's source: count such statements apart). THE CARD IS WHAT COUNTS. Prove the row's statement (the work); the ties are given (YtjgbmkmkhngddaaGreatDoorTie.lean); close each card by the builder's one call (the guide's Derived/Test/ToyasCard.lean, 'card_holds'). Laid BY PROGRAM, IN A SANDBOX (cutbox-door.mjs). By AI agents, Wed Nov 11 2026. No macro, syntax, notation, axiom, sorry.
-/
import Derived.Test.YtjgbmkmkhngddaaGreatDoorRows
import GoSem.ClaimSeven
namespace Go.Proofs.YtjgbmkmkhngddaaGreatDoor
namespace Rows

/-- THE TIED CARD OF 'coppicelaw24.WitnessNobody'. -/
def witnessNobodyCard : Claim7 := { stood := { row := witnessNobodyRow, standIns := [], harness := (true, "a2cb1005cd2116570cef27b711be1661a931b9c0a9775f6b0ff9920a5f8c4126"), looks := true }, kinds := [], alts := [], laidByText := true, laidKinds := [.data, .data, .data, .data, .sentinel, .sentinel, .data, .data, .pinned], laidTests := true, laidLooks := .later }
def WitnessNobodyCardSaid : Prop := Claim7.holds Tryz.pinned (.plain (OpenSpec.ofChange witnessNobodySpec)) witnessNobodyCard

/-- THE SECOND FORM's CARD OF 'coppicelaw24.WitnessNobody'. -/
def witnessNobodyUptoCard : Claim7 := { stood := { row := witnessNobodyUptoRow, standIns := [], harness := (true, "a2cb1005cd2116570cef27b711be1661a931b9c0a9775f6b0ff9920a5f8c4126"), looks := true }, kinds := [], alts := [], laidByText := true, laidKinds := [.data, .data, .data, .data, .sentinel, .sentinel, .data, .data, .pinned], laidTests := true, laidLooks := .later }
def WitnessNobodyUptoCardSaid : Prop := Claim7.holds Tryz.pinned (.plain (OpenSpec.upto witnessNobodySpec)) witnessNobodyUptoCard
end Rows
end Go.Proofs.YtjgbmkmkhngddaaGreatDoor
