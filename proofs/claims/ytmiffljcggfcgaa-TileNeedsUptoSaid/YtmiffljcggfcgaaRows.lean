/-
  No cell of these rows narrows 'for every input' (looked for: loops, veiled, ifaces, maps, wideKeys, modest, calm, conditions, laid).
  DERIVED. THE GIVEN ROWS OF THIS SEAT. 11 by the template 'for every input the law returns true; each argument reads behind the call as it read before'; 0 by the template 'total and deterministic' (their statements: YtmiffljcggfcgaaTotals.lean).
  GIVEN WITH THE SEED: the statements are not yours to turn. If you find one false, say at which input.
  Laid BY PROGRAM, IN A SANDBOX (cutbox-rows.mjs): the forced cells as the released guide's own fill.sh prints them over the translation 56bc5ca5a7350e65… (all of the seat's roots in one cut). By AI agents, Wed Nov 11 2026. No macro, syntax, notation, axiom, sorry.
-/
import Derived.Test.YtmiffljcggfcgaaChecked
import GoSem.Claim
import GoSem.ClaimJoined
import GoSem.ClaimMapViews
import Derived.JoinedTies
import Derived.KernelRfl
namespace Go.Proofs.Ytmiffljcggfcgaa
/- THE CELL 'sum', in the pinned program and in every row, IS THE sha256 OF THE DUMP (.gsa) THAT YtmiffljcggfcgaaProg.lean LOADS. Nothing in Lean hashes anything: it is a label: what it is worth is what the hold of that sum in a sandbox is worth. -/
noncomputable def Try.pinned : Pinned := { name := "ytmiffljcggfcgaa", sum := "56bc5ca5a7350e65b4086225d778a86bdac32a3b6677a2788252d4ce4bea244d", checked := Try.checked }
namespace Rows
def none {H : Type} : Left H := { results := [], args := [] }

/-- 'coppicelaw10.TileOf': WHATEVER THE INPUT: true; the input reads as it did. -/
def tileOfSpec : ChangeSpec := { name := "tileOf", fn := fun _ => fun
  | [d1, d2] => { results := [.lit (.bool true)], args := [d1, d2] }
  | _ => none }
def tileOfRow : OpenClaim := { program := "ytmiffljcggfcgaa", sum := "56bc5ca5a7350e65b4086225d778a86bdac32a3b6677a2788252d4ce4bea244d", func := "coppice/coppicelaw10.TileOf", spec := "tileOf", plainKeys := false, apart := false }
def TileOfSaid : Prop := tileOfRow.holds Try.pinned (OpenSpec.ofChange tileOfSpec)

/-- ITS FALSE NEIGHBOUR: 'it returns false'. Refute it at one input. -/
def tileOfWrong : ChangeSpec := { name := "tileOf", fn := fun _ => fun
  | [d1, d2] => { results := [.lit (.bool false)], args := [d1, d2] }
  | _ => none }
def TileOfWrongFalsely : Prop := tileOfRow.holds Try.pinned (OpenSpec.ofChange tileOfWrong)

/-- 'coppicelaw10.TileNeeds': WHATEVER THE INPUT: true; the input reads as it did. -/
def tileNeedsSpec : ChangeSpec := { name := "tileNeeds", fn := fun _ => fun
  | [d1, d2] => { results := [.lit (.bool true)], args := [d1, d2] }
  | _ => none }
def tileNeedsRow : OpenClaim := { program := "ytmiffljcggfcgaa", sum := "56bc5ca5a7350e65b4086225d778a86bdac32a3b6677a2788252d4ce4bea244d", func := "coppice/coppicelaw10.TileNeeds", spec := "tileNeeds", plainKeys := false, apart := false }
def TileNeedsSaid : Prop := tileNeedsRow.holds Try.pinned (OpenSpec.ofChange tileNeedsSpec)

/-- ITS FALSE NEIGHBOUR: 'it returns false'. Refute it at one input. -/
def tileNeedsWrong : ChangeSpec := { name := "tileNeeds", fn := fun _ => fun
  | [d1, d2] => { results := [.lit (.bool false)], args := [d1, d2] }
  | _ => none }
def TileNeedsWrongFalsely : Prop := tileNeedsRow.holds Try.pinned (OpenSpec.ofChange tileNeedsWrong)

/-- 'coppicelaw10.TileWidths': WHATEVER THE INPUT: true; the input reads as it did. -/
def tileWidthsSpec : ChangeSpec := { name := "tileWidths", fn := fun _ => fun
  | [d1, d2] => { results := [.lit (.bool true)], args := [d1, d2] }
  | _ => none }
def tileWidthsRow : OpenClaim := { program := "ytmiffljcggfcgaa", sum := "56bc5ca5a7350e65b4086225d778a86bdac32a3b6677a2788252d4ce4bea244d", func := "coppice/coppicelaw10.TileWidths", spec := "tileWidths", plainKeys := false, apart := false }
def TileWidthsSaid : Prop := tileWidthsRow.holds Try.pinned (OpenSpec.ofChange tileWidthsSpec)

/-- ITS FALSE NEIGHBOUR: 'it returns false'. Refute it at one input. -/
def tileWidthsWrong : ChangeSpec := { name := "tileWidths", fn := fun _ => fun
  | [d1, d2] => { results := [.lit (.bool false)], args := [d1, d2] }
  | _ => none }
def TileWidthsWrongFalsely : Prop := tileWidthsRow.holds Try.pinned (OpenSpec.ofChange tileWidthsWrong)

/-- 'coppicelaw10.TileAlls': WHATEVER THE INPUT: true; the input reads as it did. -/
def tileAllsSpec : ChangeSpec := { name := "tileAlls", fn := fun _ => fun
  | [d1, d2, d3] => { results := [.lit (.bool true)], args := [d1, d2, d3] }
  | _ => none }
def tileAllsRow : OpenClaim := { program := "ytmiffljcggfcgaa", sum := "56bc5ca5a7350e65b4086225d778a86bdac32a3b6677a2788252d4ce4bea244d", func := "coppice/coppicelaw10.TileAlls", spec := "tileAlls", unfollowed := true, recurses := true, plainKeys := false, apart := false }
def TileAllsSaid : Prop := tileAllsRow.holds Try.pinned (OpenSpec.ofChange tileAllsSpec)

/-- ITS FALSE NEIGHBOUR: 'it returns false'. Refute it at one input. -/
def tileAllsWrong : ChangeSpec := { name := "tileAlls", fn := fun _ => fun
  | [d1, d2, d3] => { results := [.lit (.bool false)], args := [d1, d2, d3] }
  | _ => none }
def TileAllsWrongFalsely : Prop := tileAllsRow.holds Try.pinned (OpenSpec.ofChange tileAllsWrong)

/-- 'coppicelaw01.OctetPuts': WHATEVER THE INPUT: true; the input reads as it did. -/
def octetPutsSpec : ChangeSpec := { name := "octetPuts", fn := fun _ => fun
  | [d1, d2, d3] => { results := [.lit (.bool true)], args := [d1, d2, d3] }
  | _ => none }
def octetPutsRow : OpenClaim := { program := "ytmiffljcggfcgaa", sum := "56bc5ca5a7350e65b4086225d778a86bdac32a3b6677a2788252d4ce4bea244d", func := "coppice/coppicelaw01.OctetPuts", spec := "octetPuts", plainKeys := false, apart := false }
def OctetPutsSaid : Prop := octetPutsRow.holds Try.pinned (OpenSpec.ofChange octetPutsSpec)

/-- ITS FALSE NEIGHBOUR: 'it returns false'. Refute it at one input. -/
def octetPutsWrong : ChangeSpec := { name := "octetPuts", fn := fun _ => fun
  | [d1, d2, d3] => { results := [.lit (.bool false)], args := [d1, d2, d3] }
  | _ => none }
def OctetPutsWrongFalsely : Prop := octetPutsRow.holds Try.pinned (OpenSpec.ofChange octetPutsWrong)

/-- 'coppicelaw01.OctetReads': WHATEVER THE INPUT: true; the input reads as it did. -/
def octetReadsSpec : ChangeSpec := { name := "octetReads", fn := fun _ => fun
  | [d1, d2] => { results := [.lit (.bool true)], args := [d1, d2] }
  | _ => none }
def octetReadsRow : OpenClaim := { program := "ytmiffljcggfcgaa", sum := "56bc5ca5a7350e65b4086225d778a86bdac32a3b6677a2788252d4ce4bea244d", func := "coppice/coppicelaw01.OctetReads", spec := "octetReads", plainKeys := false, apart := false }
def OctetReadsSaid : Prop := octetReadsRow.holds Try.pinned (OpenSpec.ofChange octetReadsSpec)

/-- ITS FALSE NEIGHBOUR: 'it returns false'. Refute it at one input. -/
def octetReadsWrong : ChangeSpec := { name := "octetReads", fn := fun _ => fun
  | [d1, d2] => { results := [.lit (.bool false)], args := [d1, d2] }
  | _ => none }
def OctetReadsWrongFalsely : Prop := octetReadsRow.holds Try.pinned (OpenSpec.ofChange octetReadsWrong)

/-- 'coppicelaw01.OctetBack': WHATEVER THE INPUT: true; the input reads as it did. -/
def octetBackSpec : ChangeSpec := { name := "octetBack", fn := fun _ => fun
  | [d1, d2, d3] => { results := [.lit (.bool true)], args := [d1, d2, d3] }
  | _ => none }
def octetBackRow : OpenClaim := { program := "ytmiffljcggfcgaa", sum := "56bc5ca5a7350e65b4086225d778a86bdac32a3b6677a2788252d4ce4bea244d", func := "coppice/coppicelaw01.OctetBack", spec := "octetBack", plainKeys := false, apart := false }
def OctetBackSaid : Prop := octetBackRow.holds Try.pinned (OpenSpec.ofChange octetBackSpec)

/-- ITS FALSE NEIGHBOUR: 'it returns false'. Refute it at one input. -/
def octetBackWrong : ChangeSpec := { name := "octetBack", fn := fun _ => fun
  | [d1, d2, d3] => { results := [.lit (.bool false)], args := [d1, d2, d3] }
  | _ => none }
def OctetBackWrongFalsely : Prop := octetBackRow.holds Try.pinned (OpenSpec.ofChange octetBackWrong)

/-- 'coppicelaw01.OctetHex': WHATEVER THE INPUT: true; the input reads as it did. -/
def octetHexSpec : ChangeSpec := { name := "octetHex", fn := fun _ => fun
  | [d1, d2] => { results := [.lit (.bool true)], args := [d1, d2] }
  | _ => none }
def octetHexRow : OpenClaim := { program := "ytmiffljcggfcgaa", sum := "56bc5ca5a7350e65b4086225d778a86bdac32a3b6677a2788252d4ce4bea244d", func := "coppice/coppicelaw01.OctetHex", spec := "octetHex", inPlace := ["internal/bytealg.IndexByteString", "internal/abi.NoEscape"], unfollowed := true, recurses := true, plainKeys := false, apart := false }
def OctetHexSaid : Prop := octetHexRow.holds Try.pinned (OpenSpec.ofChange octetHexSpec)

/-- ITS FALSE NEIGHBOUR: 'it returns false'. Refute it at one input. -/
def octetHexWrong : ChangeSpec := { name := "octetHex", fn := fun _ => fun
  | [d1, d2] => { results := [.lit (.bool false)], args := [d1, d2] }
  | _ => none }
def OctetHexWrongFalsely : Prop := octetHexRow.holds Try.pinned (OpenSpec.ofChange octetHexWrong)

/-- 'coppicelaw01.OctetBase64': WHATEVER THE INPUT: true; the input reads as it did. -/
def octetBase64Spec : ChangeSpec := { name := "octetBase64", fn := fun _ => fun
  | [d1, d2] => { results := [.lit (.bool true)], args := [d1, d2] }
  | _ => none }
def octetBase64Row : OpenClaim := { program := "ytmiffljcggfcgaa", sum := "56bc5ca5a7350e65b4086225d778a86bdac32a3b6677a2788252d4ce4bea244d", func := "coppice/coppicelaw01.OctetBase64", spec := "octetBase64", inPlace := ["internal/bytealg.IndexByteString", "internal/abi.NoEscape"], unfollowed := true, recurses := true, plainKeys := false, apart := false }
def OctetBase64Said : Prop := octetBase64Row.holds Try.pinned (OpenSpec.ofChange octetBase64Spec)

/-- ITS FALSE NEIGHBOUR: 'it returns false'. Refute it at one input. -/
def octetBase64Wrong : ChangeSpec := { name := "octetBase64", fn := fun _ => fun
  | [d1, d2] => { results := [.lit (.bool false)], args := [d1, d2] }
  | _ => none }
def OctetBase64WrongFalsely : Prop := octetBase64Row.holds Try.pinned (OpenSpec.ofChange octetBase64Wrong)

/-- 'coppicelaw01.OctetLines': WHATEVER THE INPUT: true; the input reads as it did. -/
def octetLinesSpec : ChangeSpec := { name := "octetLines", fn := fun _ => fun
  | [d1, d2] => { results := [.lit (.bool true)], args := [d1, d2] }
  | _ => none }
def octetLinesRow : OpenClaim := { program := "ytmiffljcggfcgaa", sum := "56bc5ca5a7350e65b4086225d778a86bdac32a3b6677a2788252d4ce4bea244d", func := "coppice/coppicelaw01.OctetLines", spec := "octetLines", inPlace := ["internal/bytealg.IndexByteString", "internal/bytealg.IndexString"], unfollowed := true, recurses := true, named := ["internal/bytealg.MaxLen"], plainKeys := false, apart := false }
def OctetLinesSaid : Prop := octetLinesRow.holds Try.pinned (OpenSpec.ofChange octetLinesSpec)

/-- ITS FALSE NEIGHBOUR: 'it returns false'. Refute it at one input. -/
def octetLinesWrong : ChangeSpec := { name := "octetLines", fn := fun _ => fun
  | [d1, d2] => { results := [.lit (.bool false)], args := [d1, d2] }
  | _ => none }
def OctetLinesWrongFalsely : Prop := octetLinesRow.holds Try.pinned (OpenSpec.ofChange octetLinesWrong)

/-- 'coppicelaw01.OctetTexts': WHATEVER THE INPUT: true; the input reads as it did. -/
def octetTextsSpec : ChangeSpec := { name := "octetTexts", fn := fun _ => fun
  | [d1, d2] => { results := [.lit (.bool true)], args := [d1, d2] }
  | _ => none }
def octetTextsRow : OpenClaim := { program := "ytmiffljcggfcgaa", sum := "56bc5ca5a7350e65b4086225d778a86bdac32a3b6677a2788252d4ce4bea244d", func := "coppice/coppicelaw01.OctetTexts", spec := "octetTexts", inPlace := ["internal/abi.NoEscape", "internal/bytealg.IndexByteString"], unfollowed := true, recurses := true, plainKeys := false, apart := false }
def OctetTextsSaid : Prop := octetTextsRow.holds Try.pinned (OpenSpec.ofChange octetTextsSpec)

/-- ITS FALSE NEIGHBOUR: 'it returns false'. Refute it at one input. -/
def octetTextsWrong : ChangeSpec := { name := "octetTexts", fn := fun _ => fun
  | [d1, d2] => { results := [.lit (.bool false)], args := [d1, d2] }
  | _ => none }
def OctetTextsWrongFalsely : Prop := octetTextsRow.holds Try.pinned (OpenSpec.ofChange octetTextsWrong)

/- THE SECOND FORM. 'bulk': how many values and letters a reading holds, each counted each time it is reached (what is shared counts as often as it is met; a slice's spare places count too). A statement '..UptoSaid' is the law's where the arguments, and the package variables that the reading takes, are together of bulk at most 1048576: NARROWER than '..Said'. Prove '..Said' where nothing that the law and all that it calls make is longer than what came in: it says more and counts as full. Else prove '..UptoSaid'. A law counts once. -/
mutual
def uptoBulk {H : Type} : DataW H → Nat
  | .lit (.string bytes) => bytes.length + 1
  | .lit _ => 1
  | .nil => 1
  | .ptr d => uptoBulk d + 1
  | .slice elems spare => uptoBulkAll elems + uptoBulkAll spare + 1
  | .agg parts => uptoBulkAll parts + 1
  | .iface _ d => uptoBulk d + 1
  | .map entries => uptoBulkEntries entries + 1
  | .held _ => 1
def uptoBulkAll {H : Type} : List (DataW H) → Nat
  | [] => 0
  | d :: r => uptoBulk d + uptoBulkAll r
def uptoBulkEntries {H : Type} : List (Lit × DataW H) → Nat
  | [] => 0
  | x :: r => uptoBulkEntry x + uptoBulkEntries r
def uptoBulkEntry {H : Type} : Lit × DataW H → Nat
  | (.string bytes, d) => bytes.length + uptoBulk d + 1
  | (_, d) => uptoBulk d + 1
 end
def uptoSmall : (H : Type) → List (DataW H) → Bool := fun _ ds => decide (uptoBulkAll ds ≤ 1048576)
def OpenSpec.upto (s : _root_.Go.ChangeSpec) : _root_.Go.OpenSpec := { _root_.Go.OpenSpec.ofChange s with cond := some uptoSmall }

/-- 'coppicelaw10.TileOf', WHERE WHAT IT READS IS OF BULK AT MOST 1048576: true; the input reads as it did. -/
def tileOfUptoRow : OpenClaim := { program := "ytmiffljcggfcgaa", sum := "56bc5ca5a7350e65b4086225d778a86bdac32a3b6677a2788252d4ce4bea244d", func := "coppice/coppicelaw10.TileOf", spec := "tileOf", plainKeys := false, apart := false, narrowed := true }
def TileOfUptoSaid : Prop := tileOfUptoRow.holds Try.pinned (OpenSpec.upto tileOfSpec)

/-- 'coppicelaw10.TileNeeds', WHERE WHAT IT READS IS OF BULK AT MOST 1048576: true; the input reads as it did. -/
def tileNeedsUptoRow : OpenClaim := { program := "ytmiffljcggfcgaa", sum := "56bc5ca5a7350e65b4086225d778a86bdac32a3b6677a2788252d4ce4bea244d", func := "coppice/coppicelaw10.TileNeeds", spec := "tileNeeds", plainKeys := false, apart := false, narrowed := true }
def TileNeedsUptoSaid : Prop := tileNeedsUptoRow.holds Try.pinned (OpenSpec.upto tileNeedsSpec)

/-- 'coppicelaw10.TileWidths', WHERE WHAT IT READS IS OF BULK AT MOST 1048576: true; the input reads as it did. -/
def tileWidthsUptoRow : OpenClaim := { program := "ytmiffljcggfcgaa", sum := "56bc5ca5a7350e65b4086225d778a86bdac32a3b6677a2788252d4ce4bea244d", func := "coppice/coppicelaw10.TileWidths", spec := "tileWidths", plainKeys := false, apart := false, narrowed := true }
def TileWidthsUptoSaid : Prop := tileWidthsUptoRow.holds Try.pinned (OpenSpec.upto tileWidthsSpec)

/-- 'coppicelaw10.TileAlls', WHERE WHAT IT READS IS OF BULK AT MOST 1048576: true; the input reads as it did. -/
def tileAllsUptoRow : OpenClaim := { program := "ytmiffljcggfcgaa", sum := "56bc5ca5a7350e65b4086225d778a86bdac32a3b6677a2788252d4ce4bea244d", func := "coppice/coppicelaw10.TileAlls", spec := "tileAlls", unfollowed := true, recurses := true, plainKeys := false, apart := false, narrowed := true }
def TileAllsUptoSaid : Prop := tileAllsUptoRow.holds Try.pinned (OpenSpec.upto tileAllsSpec)

/-- 'coppicelaw01.OctetPuts', WHERE WHAT IT READS IS OF BULK AT MOST 1048576: true; the input reads as it did. -/
def octetPutsUptoRow : OpenClaim := { program := "ytmiffljcggfcgaa", sum := "56bc5ca5a7350e65b4086225d778a86bdac32a3b6677a2788252d4ce4bea244d", func := "coppice/coppicelaw01.OctetPuts", spec := "octetPuts", plainKeys := false, apart := false, narrowed := true }
def OctetPutsUptoSaid : Prop := octetPutsUptoRow.holds Try.pinned (OpenSpec.upto octetPutsSpec)

/-- 'coppicelaw01.OctetReads', WHERE WHAT IT READS IS OF BULK AT MOST 1048576: true; the input reads as it did. -/
def octetReadsUptoRow : OpenClaim := { program := "ytmiffljcggfcgaa", sum := "56bc5ca5a7350e65b4086225d778a86bdac32a3b6677a2788252d4ce4bea244d", func := "coppice/coppicelaw01.OctetReads", spec := "octetReads", plainKeys := false, apart := false, narrowed := true }
def OctetReadsUptoSaid : Prop := octetReadsUptoRow.holds Try.pinned (OpenSpec.upto octetReadsSpec)

/-- 'coppicelaw01.OctetBack', WHERE WHAT IT READS IS OF BULK AT MOST 1048576: true; the input reads as it did. -/
def octetBackUptoRow : OpenClaim := { program := "ytmiffljcggfcgaa", sum := "56bc5ca5a7350e65b4086225d778a86bdac32a3b6677a2788252d4ce4bea244d", func := "coppice/coppicelaw01.OctetBack", spec := "octetBack", plainKeys := false, apart := false, narrowed := true }
def OctetBackUptoSaid : Prop := octetBackUptoRow.holds Try.pinned (OpenSpec.upto octetBackSpec)

/-- 'coppicelaw01.OctetHex', WHERE WHAT IT READS IS OF BULK AT MOST 1048576: true; the input reads as it did. -/
def octetHexUptoRow : OpenClaim := { program := "ytmiffljcggfcgaa", sum := "56bc5ca5a7350e65b4086225d778a86bdac32a3b6677a2788252d4ce4bea244d", func := "coppice/coppicelaw01.OctetHex", spec := "octetHex", inPlace := ["internal/bytealg.IndexByteString", "internal/abi.NoEscape"], unfollowed := true, recurses := true, plainKeys := false, apart := false, narrowed := true }
def OctetHexUptoSaid : Prop := octetHexUptoRow.holds Try.pinned (OpenSpec.upto octetHexSpec)

/-- 'coppicelaw01.OctetBase64', WHERE WHAT IT READS IS OF BULK AT MOST 1048576: true; the input reads as it did. -/
def octetBase64UptoRow : OpenClaim := { program := "ytmiffljcggfcgaa", sum := "56bc5ca5a7350e65b4086225d778a86bdac32a3b6677a2788252d4ce4bea244d", func := "coppice/coppicelaw01.OctetBase64", spec := "octetBase64", inPlace := ["internal/bytealg.IndexByteString", "internal/abi.NoEscape"], unfollowed := true, recurses := true, plainKeys := false, apart := false, narrowed := true }
def OctetBase64UptoSaid : Prop := octetBase64UptoRow.holds Try.pinned (OpenSpec.upto octetBase64Spec)

/-- 'coppicelaw01.OctetLines', WHERE WHAT IT READS IS OF BULK AT MOST 1048576: true; the input reads as it did. -/
def octetLinesUptoRow : OpenClaim := { program := "ytmiffljcggfcgaa", sum := "56bc5ca5a7350e65b4086225d778a86bdac32a3b6677a2788252d4ce4bea244d", func := "coppice/coppicelaw01.OctetLines", spec := "octetLines", inPlace := ["internal/bytealg.IndexByteString", "internal/bytealg.IndexString"], unfollowed := true, recurses := true, named := ["internal/bytealg.MaxLen"], plainKeys := false, apart := false, narrowed := true }
def OctetLinesUptoSaid : Prop := octetLinesUptoRow.holds Try.pinned (OpenSpec.upto octetLinesSpec)

/-- 'coppicelaw01.OctetTexts', WHERE WHAT IT READS IS OF BULK AT MOST 1048576: true; the input reads as it did. -/
def octetTextsUptoRow : OpenClaim := { program := "ytmiffljcggfcgaa", sum := "56bc5ca5a7350e65b4086225d778a86bdac32a3b6677a2788252d4ce4bea244d", func := "coppice/coppicelaw01.OctetTexts", spec := "octetTexts", inPlace := ["internal/abi.NoEscape", "internal/bytealg.IndexByteString"], unfollowed := true, recurses := true, plainKeys := false, apart := false, narrowed := true }
def OctetTextsUptoSaid : Prop := octetTextsUptoRow.holds Try.pinned (OpenSpec.upto octetTextsSpec)

end Rows
end Go.Proofs.Ytmiffljcggfcgaa
