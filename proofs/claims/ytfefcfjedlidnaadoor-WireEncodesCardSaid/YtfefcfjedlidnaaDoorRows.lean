/-
  NARROWER THAN 'FOR EVERY INPUT', by the rows' own cells (each row's printed sentence says how): TileDigests: laid · SlotsNames: laid · CheckpointOrders: laid · CheckpointThree: laid · CheckpointFormats: laid · NoteDigests: laid · NoteFormats: laid · NoteNames: laid · WireEncodes: laid.
  DERIVED. THE GIVEN ROWS OF THIS SEAT. 9 by the template 'for every input the law returns true; each argument reads behind the call as it read before'; 0 by the template 'total and deterministic' (their statements: YtfefcfjedlidnaaDoorTotals.lean).
  GIVEN WITH THE SEED: the statements are not yours to turn. If you find one false, say at which input.
  Laid BY PROGRAM, IN A SANDBOX (cutbox-rows.mjs): the forced cells as the released guide's own fill.sh prints them over the translation 155f5e8d958178e9… (all of the seat's roots in one cut). By AI agents, Wed Nov 11 2026. No macro, syntax, notation, axiom, sorry.
-/
import Derived.Test.YtfefcfjedlidnaaDoorChecked
import GoSem.PinnedTables
import GoSem.Claim
import GoSem.ClaimJoined
import GoSem.ClaimMapViews
import Derived.JoinedTies
import Derived.KernelRfl
namespace Go.Proofs.YtfefcfjedlidnaaDoor
/- THE CELL 'sum', in the pinned program and in every row, IS THE sha256 OF THE DUMP (.gsa) THAT YtfefcfjedlidnaaDoorProg.lean LOADS. Nothing in Lean hashes anything: it is a label: what it is worth is what the hold of that sum in a sandbox is worth. -/
noncomputable def Tryd.pinned : Pinned := { name := "ytfefcfjedlidnaadoor", sum := "155f5e8d958178e9fc41624f0d8cfc302aec31bc2e187ea71df5da92c77e46e5", checked := Tryd.checked }
namespace Rows
def none {H : Type} : Left H := { results := [], args := [] }

/- WHAT THE LISTED PACKAGE-LEVEL VARIABLES READ AS WHEN THE CALL BEGINS. Each datum BY PROGRAM (the guide's laid-datum.mjs) off the statement by which the dump's own 'gosem.cut.vars' lays the variable. In a bare row this is a premise. The card (YtfefcfjedlidnaaDoorCards.lean) ties it to the program's text. -/
def laid_coppice_hash_constants {H : Type} : DataW H := .agg [.lit (.int .u32 1116352408), .lit (.int .u32 1899447441), .lit (.int .u32 3049323471), .lit (.int .u32 3921009573), .lit (.int .u32 961987163), .lit (.int .u32 1508970993), .lit (.int .u32 2453635748), .lit (.int .u32 2870763221), .lit (.int .u32 3624381080), .lit (.int .u32 310598401), .lit (.int .u32 607225278), .lit (.int .u32 1426881987), .lit (.int .u32 1925078388), .lit (.int .u32 2162078206), .lit (.int .u32 2614888103), .lit (.int .u32 3248222580), .lit (.int .u32 3835390401), .lit (.int .u32 4022224774), .lit (.int .u32 264347078), .lit (.int .u32 604807628), .lit (.int .u32 770255983), .lit (.int .u32 1249150122), .lit (.int .u32 1555081692), .lit (.int .u32 1996064986), .lit (.int .u32 2554220882), .lit (.int .u32 2821834349), .lit (.int .u32 2952996808), .lit (.int .u32 3210313671), .lit (.int .u32 3336571891), .lit (.int .u32 3584528711), .lit (.int .u32 113926993), .lit (.int .u32 338241895), .lit (.int .u32 666307205), .lit (.int .u32 773529912), .lit (.int .u32 1294757372), .lit (.int .u32 1396182291), .lit (.int .u32 1695183700), .lit (.int .u32 1986661051), .lit (.int .u32 2177026350), .lit (.int .u32 2456956037), .lit (.int .u32 2730485921), .lit (.int .u32 2820302411), .lit (.int .u32 3259730800), .lit (.int .u32 3345764771), .lit (.int .u32 3516065817), .lit (.int .u32 3600352804), .lit (.int .u32 4094571909), .lit (.int .u32 275423344), .lit (.int .u32 430227734), .lit (.int .u32 506948616), .lit (.int .u32 659060556), .lit (.int .u32 883997877), .lit (.int .u32 958139571), .lit (.int .u32 1322822218), .lit (.int .u32 1537002063), .lit (.int .u32 1747873779), .lit (.int .u32 1955562222), .lit (.int .u32 2024104815), .lit (.int .u32 2227730452), .lit (.int .u32 2361852424), .lit (.int .u32 2428436474), .lit (.int .u32 2756734187), .lit (.int .u32 3204031479), .lit (.int .u32 3329325298)]
def laid_coppice_frame_short {H : Type} : DataW H := .agg [.lit (.int .u32 0), .lit (.int .u32 498536548), .lit (.int .u32 997073096), .lit (.int .u32 651767980), .lit (.int .u32 1994146192), .lit (.int .u32 1802195444), .lit (.int .u32 1303535960), .lit (.int .u32 1342533948), .lit (.int .u32 3988292384), .lit (.int .u32 4027552580), .lit (.int .u32 3604390888), .lit (.int .u32 3412177804), .lit (.int .u32 2607071920), .lit (.int .u32 2262029012), .lit (.int .u32 2685067896), .lit (.int .u32 3183342108)]
def laid_unicode_utf8_acceptRanges {H : Type} : DataW H := .agg [.agg [.lit (.int .u8 128), .lit (.int .u8 191)], .agg [.lit (.int .u8 160), .lit (.int .u8 191)], .agg [.lit (.int .u8 128), .lit (.int .u8 159)], .agg [.lit (.int .u8 144), .lit (.int .u8 191)], .agg [.lit (.int .u8 128), .lit (.int .u8 143)], .agg [.lit (.int .u8 0), .lit (.int .u8 0)], .agg [.lit (.int .u8 0), .lit (.int .u8 0)], .agg [.lit (.int .u8 0), .lit (.int .u8 0)], .agg [.lit (.int .u8 0), .lit (.int .u8 0)], .agg [.lit (.int .u8 0), .lit (.int .u8 0)], .agg [.lit (.int .u8 0), .lit (.int .u8 0)], .agg [.lit (.int .u8 0), .lit (.int .u8 0)], .agg [.lit (.int .u8 0), .lit (.int .u8 0)], .agg [.lit (.int .u8 0), .lit (.int .u8 0)], .agg [.lit (.int .u8 0), .lit (.int .u8 0)], .agg [.lit (.int .u8 0), .lit (.int .u8 0)]]
/-- One of Go's own tables, pinned by name: the form's constant. -/
def laid_unicode_utf8_first : DataW Unit := Go.Pinned.utf8First
def laid_math_bits_deBruijn32tab {H : Type} : DataW H := .agg [.lit (.int .u8 0), .lit (.int .u8 1), .lit (.int .u8 28), .lit (.int .u8 2), .lit (.int .u8 29), .lit (.int .u8 14), .lit (.int .u8 24), .lit (.int .u8 3), .lit (.int .u8 30), .lit (.int .u8 22), .lit (.int .u8 20), .lit (.int .u8 15), .lit (.int .u8 25), .lit (.int .u8 17), .lit (.int .u8 4), .lit (.int .u8 8), .lit (.int .u8 31), .lit (.int .u8 27), .lit (.int .u8 13), .lit (.int .u8 23), .lit (.int .u8 21), .lit (.int .u8 19), .lit (.int .u8 16), .lit (.int .u8 7), .lit (.int .u8 26), .lit (.int .u8 12), .lit (.int .u8 18), .lit (.int .u8 6), .lit (.int .u8 11), .lit (.int .u8 5), .lit (.int .u8 10), .lit (.int .u8 9)]
def laid_math_bits_deBruijn64tab {H : Type} : DataW H := .agg [.lit (.int .u8 0), .lit (.int .u8 1), .lit (.int .u8 56), .lit (.int .u8 2), .lit (.int .u8 57), .lit (.int .u8 49), .lit (.int .u8 28), .lit (.int .u8 3), .lit (.int .u8 61), .lit (.int .u8 58), .lit (.int .u8 42), .lit (.int .u8 50), .lit (.int .u8 38), .lit (.int .u8 29), .lit (.int .u8 17), .lit (.int .u8 4), .lit (.int .u8 62), .lit (.int .u8 47), .lit (.int .u8 59), .lit (.int .u8 36), .lit (.int .u8 45), .lit (.int .u8 43), .lit (.int .u8 51), .lit (.int .u8 22), .lit (.int .u8 53), .lit (.int .u8 39), .lit (.int .u8 33), .lit (.int .u8 30), .lit (.int .u8 24), .lit (.int .u8 18), .lit (.int .u8 12), .lit (.int .u8 5), .lit (.int .u8 63), .lit (.int .u8 55), .lit (.int .u8 48), .lit (.int .u8 27), .lit (.int .u8 60), .lit (.int .u8 41), .lit (.int .u8 37), .lit (.int .u8 16), .lit (.int .u8 46), .lit (.int .u8 35), .lit (.int .u8 44), .lit (.int .u8 21), .lit (.int .u8 52), .lit (.int .u8 32), .lit (.int .u8 23), .lit (.int .u8 11), .lit (.int .u8 54), .lit (.int .u8 26), .lit (.int .u8 40), .lit (.int .u8 15), .lit (.int .u8 34), .lit (.int .u8 20), .lit (.int .u8 31), .lit (.int .u8 10), .lit (.int .u8 25), .lit (.int .u8 14), .lit (.int .u8 19), .lit (.int .u8 9), .lit (.int .u8 13), .lit (.int .u8 8), .lit (.int .u8 7), .lit (.int .u8 6)]
def laid_internal_strconv_uint64pow10 {H : Type} : DataW H := .agg [.lit (.int .u64 1), .lit (.int .u64 10), .lit (.int .u64 100), .lit (.int .u64 1000), .lit (.int .u64 10000), .lit (.int .u64 100000), .lit (.int .u64 1000000), .lit (.int .u64 10000000), .lit (.int .u64 100000000), .lit (.int .u64 1000000000), .lit (.int .u64 10000000000), .lit (.int .u64 100000000000), .lit (.int .u64 1000000000000), .lit (.int .u64 10000000000000), .lit (.int .u64 100000000000000), .lit (.int .u64 1000000000000000), .lit (.int .u64 10000000000000000), .lit (.int .u64 100000000000000000), .lit (.int .u64 1000000000000000000), .lit (.int .u64 10000000000000000000)]
def laid_coppice_wire_kinds {H : Type} : DataW H := .agg [.lit (.string []), .lit (.string [105, 110, 99, 108, 117, 115, 105, 111, 110]), .lit (.string [99, 111, 110, 115, 105, 115, 116, 101, 110, 99, 121])]

/-- 'coppicelaw10.TileDigests': WHATEVER THE INPUT: true; the input reads as it did. -/
def tileDigestsSpec : ChangeSpec := { name := "tileDigests", fn := fun _ => fun
  | [d1, d2, d3] => { results := [.lit (.bool true)], args := [d1, d2, d3] }
  | _ => none }
def tileDigestsRow : OpenClaim := { program := "ytfefcfjedlidnaadoor", sum := "155f5e8d958178e9fc41624f0d8cfc302aec31bc2e187ea71df5da92c77e46e5", func := "coppice/coppicelaw10.TileDigests", spec := "tileDigests", unfollowed := true, recurses := true, named := ["coppice/hash.constants"], apart := false, laid := [("coppice/hash.constants", laid_coppice_hash_constants)] }
def TileDigestsSaid : Prop := tileDigestsRow.holds Tryd.pinned (OpenSpec.ofChange tileDigestsSpec)

/-- ITS FALSE NEIGHBOUR: 'it returns false'. Refute it at one input. -/
def tileDigestsWrong : ChangeSpec := { name := "tileDigests", fn := fun _ => fun
  | [d1, d2, d3] => { results := [.lit (.bool false)], args := [d1, d2, d3] }
  | _ => none }
def TileDigestsWrongFalsely : Prop := tileDigestsRow.holds Tryd.pinned (OpenSpec.ofChange tileDigestsWrong)

/-- 'coppicelaw23.SlotsNames': WHATEVER THE INPUT: true; the input reads as it did. -/
def slotsNamesSpec : ChangeSpec := { name := "slotsNames", fn := fun _ => fun
  | [d1, d2] => { results := [.lit (.bool true)], args := [d1, d2] }
  | _ => none }
def slotsNamesRow : OpenClaim := { program := "ytfefcfjedlidnaadoor", sum := "155f5e8d958178e9fc41624f0d8cfc302aec31bc2e187ea71df5da92c77e46e5", func := "coppice/coppicelaw23.SlotsNames", spec := "slotsNames", named := ["coppice/frame.short"], apart := false, laid := [("coppice/frame.short", laid_coppice_frame_short)] }
def SlotsNamesSaid : Prop := slotsNamesRow.holds Tryd.pinned (OpenSpec.ofChange slotsNamesSpec)

/-- ITS FALSE NEIGHBOUR: 'it returns false'. Refute it at one input. -/
def slotsNamesWrong : ChangeSpec := { name := "slotsNames", fn := fun _ => fun
  | [d1, d2] => { results := [.lit (.bool false)], args := [d1, d2] }
  | _ => none }
def SlotsNamesWrongFalsely : Prop := slotsNamesRow.holds Tryd.pinned (OpenSpec.ofChange slotsNamesWrong)

/-- 'coppicelaw22.CheckpointOrders': WHATEVER THE INPUT: true; the input reads as it did. -/
def checkpointOrdersSpec : ChangeSpec := { name := "checkpointOrders", fn := fun _ => fun
  | [d1, d2] => { results := [.lit (.bool true)], args := [d1, d2] }
  | _ => none }
def checkpointOrdersRow : OpenClaim := { program := "ytfefcfjedlidnaadoor", sum := "155f5e8d958178e9fc41624f0d8cfc302aec31bc2e187ea71df5da92c77e46e5", func := "coppice/coppicelaw22.CheckpointOrders", spec := "checkpointOrders", named := ["unicode/utf8.first", "unicode/utf8.acceptRanges", "coppice/hash.constants"], apart := false, laid := [("unicode/utf8.acceptRanges", laid_unicode_utf8_acceptRanges), ("coppice/hash.constants", laid_coppice_hash_constants), ("unicode/utf8.first", laid_unicode_utf8_first)] }
def CheckpointOrdersSaid : Prop := checkpointOrdersRow.holds Tryd.pinned (OpenSpec.ofChange checkpointOrdersSpec)

/-- ITS FALSE NEIGHBOUR: 'it returns false'. Refute it at one input. -/
def checkpointOrdersWrong : ChangeSpec := { name := "checkpointOrders", fn := fun _ => fun
  | [d1, d2] => { results := [.lit (.bool false)], args := [d1, d2] }
  | _ => none }
def CheckpointOrdersWrongFalsely : Prop := checkpointOrdersRow.holds Tryd.pinned (OpenSpec.ofChange checkpointOrdersWrong)

/-- 'coppicelaw22.CheckpointThree': WHATEVER THE INPUT: true; the input reads as it did. -/
def checkpointThreeSpec : ChangeSpec := { name := "checkpointThree", fn := fun _ => fun
  | [d1, d2] => { results := [.lit (.bool true)], args := [d1, d2] }
  | _ => none }
def checkpointThreeRow : OpenClaim := { program := "ytfefcfjedlidnaadoor", sum := "155f5e8d958178e9fc41624f0d8cfc302aec31bc2e187ea71df5da92c77e46e5", func := "coppice/coppicelaw22.CheckpointThree", spec := "checkpointThree", inPlace := ["internal/abi.NoEscape"], unfollowed := true, recurses := true, named := ["unicode/utf8.first", "unicode/utf8.acceptRanges", "coppice/hash.constants", "internal/strconv.uint64pow10", "math/bits.deBruijn32tab", "math/bits.deBruijn64tab"], apart := false, laid := [("math/bits.deBruijn32tab", laid_math_bits_deBruijn32tab), ("math/bits.deBruijn64tab", laid_math_bits_deBruijn64tab), ("internal/strconv.uint64pow10", laid_internal_strconv_uint64pow10), ("unicode/utf8.acceptRanges", laid_unicode_utf8_acceptRanges), ("coppice/hash.constants", laid_coppice_hash_constants), ("unicode/utf8.first", laid_unicode_utf8_first)] }
def CheckpointThreeSaid : Prop := checkpointThreeRow.holds Tryd.pinned (OpenSpec.ofChange checkpointThreeSpec)

/-- ITS FALSE NEIGHBOUR: 'it returns false'. Refute it at one input. -/
def checkpointThreeWrong : ChangeSpec := { name := "checkpointThree", fn := fun _ => fun
  | [d1, d2] => { results := [.lit (.bool false)], args := [d1, d2] }
  | _ => none }
def CheckpointThreeWrongFalsely : Prop := checkpointThreeRow.holds Tryd.pinned (OpenSpec.ofChange checkpointThreeWrong)

/-- 'coppicelaw22.CheckpointFormats': WHATEVER THE INPUT: true; the input reads as it did. -/
def checkpointFormatsSpec : ChangeSpec := { name := "checkpointFormats", fn := fun _ => fun
  | [d1, d2] => { results := [.lit (.bool true)], args := [d1, d2] }
  | _ => none }
def checkpointFormatsRow : OpenClaim := { program := "ytfefcfjedlidnaadoor", sum := "155f5e8d958178e9fc41624f0d8cfc302aec31bc2e187ea71df5da92c77e46e5", func := "coppice/coppicelaw22.CheckpointFormats", spec := "checkpointFormats", inPlace := ["internal/abi.NoEscape"], unfollowed := true, recurses := true, named := ["unicode/utf8.first", "unicode/utf8.acceptRanges", "coppice/hash.constants", "internal/strconv.uint64pow10", "math/bits.deBruijn32tab", "math/bits.deBruijn64tab"], apart := false, laid := [("math/bits.deBruijn32tab", laid_math_bits_deBruijn32tab), ("math/bits.deBruijn64tab", laid_math_bits_deBruijn64tab), ("internal/strconv.uint64pow10", laid_internal_strconv_uint64pow10), ("unicode/utf8.acceptRanges", laid_unicode_utf8_acceptRanges), ("coppice/hash.constants", laid_coppice_hash_constants), ("unicode/utf8.first", laid_unicode_utf8_first)] }
def CheckpointFormatsSaid : Prop := checkpointFormatsRow.holds Tryd.pinned (OpenSpec.ofChange checkpointFormatsSpec)

/-- ITS FALSE NEIGHBOUR: 'it returns false'. Refute it at one input. -/
def checkpointFormatsWrong : ChangeSpec := { name := "checkpointFormats", fn := fun _ => fun
  | [d1, d2] => { results := [.lit (.bool false)], args := [d1, d2] }
  | _ => none }
def CheckpointFormatsWrongFalsely : Prop := checkpointFormatsRow.holds Tryd.pinned (OpenSpec.ofChange checkpointFormatsWrong)

/-- 'coppicelaw21.NoteDigests': WHATEVER THE INPUT: true; the input reads as it did. -/
def noteDigestsSpec : ChangeSpec := { name := "noteDigests", fn := fun _ => fun
  | [d1, d2, d3] => { results := [.lit (.bool true)], args := [d1, d2, d3] }
  | _ => none }
def noteDigestsRow : OpenClaim := { program := "ytfefcfjedlidnaadoor", sum := "155f5e8d958178e9fc41624f0d8cfc302aec31bc2e187ea71df5da92c77e46e5", func := "coppice/coppicelaw21.NoteDigests", spec := "noteDigests", named := ["coppice/hash.constants"], apart := false, laid := [("coppice/hash.constants", laid_coppice_hash_constants)] }
def NoteDigestsSaid : Prop := noteDigestsRow.holds Tryd.pinned (OpenSpec.ofChange noteDigestsSpec)

/-- ITS FALSE NEIGHBOUR: 'it returns false'. Refute it at one input. -/
def noteDigestsWrong : ChangeSpec := { name := "noteDigests", fn := fun _ => fun
  | [d1, d2, d3] => { results := [.lit (.bool false)], args := [d1, d2, d3] }
  | _ => none }
def NoteDigestsWrongFalsely : Prop := noteDigestsRow.holds Tryd.pinned (OpenSpec.ofChange noteDigestsWrong)

/-- 'coppicelaw21.NoteFormats': WHATEVER THE INPUT: true; the input reads as it did. -/
def noteFormatsSpec : ChangeSpec := { name := "noteFormats", fn := fun _ => fun
  | [d1, d2] => { results := [.lit (.bool true)], args := [d1, d2] }
  | _ => none }
def noteFormatsRow : OpenClaim := { program := "ytfefcfjedlidnaadoor", sum := "155f5e8d958178e9fc41624f0d8cfc302aec31bc2e187ea71df5da92c77e46e5", func := "coppice/coppicelaw21.NoteFormats", spec := "noteFormats", inPlace := ["internal/abi.NoEscape"], unfollowed := true, recurses := true, named := ["unicode/utf8.first", "unicode/utf8.acceptRanges"], apart := false, laid := [("unicode/utf8.acceptRanges", laid_unicode_utf8_acceptRanges), ("unicode/utf8.first", laid_unicode_utf8_first)] }
def NoteFormatsSaid : Prop := noteFormatsRow.holds Tryd.pinned (OpenSpec.ofChange noteFormatsSpec)

/-- ITS FALSE NEIGHBOUR: 'it returns false'. Refute it at one input. -/
def noteFormatsWrong : ChangeSpec := { name := "noteFormats", fn := fun _ => fun
  | [d1, d2] => { results := [.lit (.bool false)], args := [d1, d2] }
  | _ => none }
def NoteFormatsWrongFalsely : Prop := noteFormatsRow.holds Tryd.pinned (OpenSpec.ofChange noteFormatsWrong)

/-- 'coppicelaw21.NoteNames': WHATEVER THE INPUT: true; the input reads as it did. -/
def noteNamesSpec : ChangeSpec := { name := "noteNames", fn := fun _ => fun
  | [d1, d2] => { results := [.lit (.bool true)], args := [d1, d2] }
  | _ => none }
def noteNamesRow : OpenClaim := { program := "ytfefcfjedlidnaadoor", sum := "155f5e8d958178e9fc41624f0d8cfc302aec31bc2e187ea71df5da92c77e46e5", func := "coppice/coppicelaw21.NoteNames", spec := "noteNames", named := ["coppice/hash.constants", "unicode/utf8.first", "unicode/utf8.acceptRanges"], apart := false, laid := [("unicode/utf8.acceptRanges", laid_unicode_utf8_acceptRanges), ("coppice/hash.constants", laid_coppice_hash_constants), ("unicode/utf8.first", laid_unicode_utf8_first)] }
def NoteNamesSaid : Prop := noteNamesRow.holds Tryd.pinned (OpenSpec.ofChange noteNamesSpec)

/-- ITS FALSE NEIGHBOUR: 'it returns false'. Refute it at one input. -/
def noteNamesWrong : ChangeSpec := { name := "noteNames", fn := fun _ => fun
  | [d1, d2] => { results := [.lit (.bool false)], args := [d1, d2] }
  | _ => none }
def NoteNamesWrongFalsely : Prop := noteNamesRow.holds Tryd.pinned (OpenSpec.ofChange noteNamesWrong)

/-- 'coppicelaw08.WireEncodes': WHATEVER THE INPUT: true; the input reads as it did. -/
def wireEncodesSpec : ChangeSpec := { name := "wireEncodes", fn := fun _ => fun
  | [d] => { results := [.lit (.bool true)], args := [d] }
  | _ => none }
def wireEncodesRow : OpenClaim := { program := "ytfefcfjedlidnaadoor", sum := "155f5e8d958178e9fc41624f0d8cfc302aec31bc2e187ea71df5da92c77e46e5", func := "coppice/coppicelaw08.WireEncodes", spec := "wireEncodes", inPlace := ["internal/abi.NoEscape"], unfollowed := true, recurses := true, named := ["coppice/wire.kinds", "internal/strconv.uint64pow10", "math/bits.deBruijn32tab", "math/bits.deBruijn64tab"], apart := false, laid := [("math/bits.deBruijn32tab", laid_math_bits_deBruijn32tab), ("math/bits.deBruijn64tab", laid_math_bits_deBruijn64tab), ("internal/strconv.uint64pow10", laid_internal_strconv_uint64pow10), ("coppice/wire.kinds", laid_coppice_wire_kinds)] }
def WireEncodesSaid : Prop := wireEncodesRow.holds Tryd.pinned (OpenSpec.ofChange wireEncodesSpec)

/-- ITS FALSE NEIGHBOUR: 'it returns false'. Refute it at one input. -/
def wireEncodesWrong : ChangeSpec := { name := "wireEncodes", fn := fun _ => fun
  | [d] => { results := [.lit (.bool false)], args := [d] }
  | _ => none }
def WireEncodesWrongFalsely : Prop := wireEncodesRow.holds Tryd.pinned (OpenSpec.ofChange wireEncodesWrong)

/- THE SECOND FORM. 'bulk': how many values and letters a reading holds, each counted each time it is reached (what is shared counts as often as it is met; a slice's spare places count too). A statement '..UptoSaid' is the law's where the arguments, and the package variables that the reading takes, are together of bulk at most 1048576: NARROWER than '..Said'. Prove '..Said' where nothing that the law and all that it calls make is longer than what came in: it says more and counts as full. Else prove '..UptoSaid'. A law counts once. -/
mutual
def uptoBulk {H : Type} : DataW H → Nat
  | .lit (.string bytes) => bytes.length + 1
  | .lit _ => 1
  | .nil => 1
  | .ptr d => uptoBulk d + 1
  | .slice elems spare => uptoBulkAll elems + uptoBulkAll spare + 1
  | .agg parts => uptoBulkAll parts + 1
  | .iface _ d => uptoBulk d + 1
  | .map entries => uptoBulkEntries entries + 1
  | .held _ => 1
def uptoBulkAll {H : Type} : List (DataW H) → Nat
  | [] => 0
  | d :: r => uptoBulk d + uptoBulkAll r
def uptoBulkEntries {H : Type} : List (Lit × DataW H) → Nat
  | [] => 0
  | x :: r => uptoBulkEntry x + uptoBulkEntries r
def uptoBulkEntry {H : Type} : Lit × DataW H → Nat
  | (.string bytes, d) => bytes.length + uptoBulk d + 1
  | (_, d) => uptoBulk d + 1
 end
def uptoSmall : (H : Type) → List (DataW H) → Bool := fun _ ds => decide (uptoBulkAll ds ≤ 1048576)
def OpenSpec.upto (s : _root_.Go.ChangeSpec) : _root_.Go.OpenSpec := { _root_.Go.OpenSpec.ofChange s with cond := some uptoSmall }

/-- 'coppicelaw10.TileDigests', WHERE WHAT IT READS IS OF BULK AT MOST 1048576: true; the input reads as it did. -/
def tileDigestsUptoRow : OpenClaim := { program := "ytfefcfjedlidnaadoor", sum := "155f5e8d958178e9fc41624f0d8cfc302aec31bc2e187ea71df5da92c77e46e5", func := "coppice/coppicelaw10.TileDigests", spec := "tileDigests", unfollowed := true, recurses := true, named := ["coppice/hash.constants"], apart := false, laid := [("coppice/hash.constants", laid_coppice_hash_constants)], narrowed := true }
def TileDigestsUptoSaid : Prop := tileDigestsUptoRow.holds Tryd.pinned (OpenSpec.upto tileDigestsSpec)

/-- 'coppicelaw23.SlotsNames', WHERE WHAT IT READS IS OF BULK AT MOST 1048576: true; the input reads as it did. -/
def slotsNamesUptoRow : OpenClaim := { program := "ytfefcfjedlidnaadoor", sum := "155f5e8d958178e9fc41624f0d8cfc302aec31bc2e187ea71df5da92c77e46e5", func := "coppice/coppicelaw23.SlotsNames", spec := "slotsNames", named := ["coppice/frame.short"], apart := false, laid := [("coppice/frame.short", laid_coppice_frame_short)], narrowed := true }
def SlotsNamesUptoSaid : Prop := slotsNamesUptoRow.holds Tryd.pinned (OpenSpec.upto slotsNamesSpec)

/-- 'coppicelaw22.CheckpointOrders', WHERE WHAT IT READS IS OF BULK AT MOST 1048576: true; the input reads as it did. -/
def checkpointOrdersUptoRow : OpenClaim := { program := "ytfefcfjedlidnaadoor", sum := "155f5e8d958178e9fc41624f0d8cfc302aec31bc2e187ea71df5da92c77e46e5", func := "coppice/coppicelaw22.CheckpointOrders", spec := "checkpointOrders", named := ["unicode/utf8.first", "unicode/utf8.acceptRanges", "coppice/hash.constants"], apart := false, laid := [("unicode/utf8.acceptRanges", laid_unicode_utf8_acceptRanges), ("coppice/hash.constants", laid_coppice_hash_constants), ("unicode/utf8.first", laid_unicode_utf8_first)], narrowed := true }
def CheckpointOrdersUptoSaid : Prop := checkpointOrdersUptoRow.holds Tryd.pinned (OpenSpec.upto checkpointOrdersSpec)

/-- 'coppicelaw22.CheckpointThree', WHERE WHAT IT READS IS OF BULK AT MOST 1048576: true; the input reads as it did. -/
def checkpointThreeUptoRow : OpenClaim := { program := "ytfefcfjedlidnaadoor", sum := "155f5e8d958178e9fc41624f0d8cfc302aec31bc2e187ea71df5da92c77e46e5", func := "coppice/coppicelaw22.CheckpointThree", spec := "checkpointThree", inPlace := ["internal/abi.NoEscape"], unfollowed := true, recurses := true, named := ["unicode/utf8.first", "unicode/utf8.acceptRanges", "coppice/hash.constants", "internal/strconv.uint64pow10", "math/bits.deBruijn32tab", "math/bits.deBruijn64tab"], apart := false, laid := [("math/bits.deBruijn32tab", laid_math_bits_deBruijn32tab), ("math/bits.deBruijn64tab", laid_math_bits_deBruijn64tab), ("internal/strconv.uint64pow10", laid_internal_strconv_uint64pow10), ("unicode/utf8.acceptRanges", laid_unicode_utf8_acceptRanges), ("coppice/hash.constants", laid_coppice_hash_constants), ("unicode/utf8.first", laid_unicode_utf8_first)], narrowed := true }
def CheckpointThreeUptoSaid : Prop := checkpointThreeUptoRow.holds Tryd.pinned (OpenSpec.upto checkpointThreeSpec)

/-- 'coppicelaw22.CheckpointFormats', WHERE WHAT IT READS IS OF BULK AT MOST 1048576: true; the input reads as it did. -/
def checkpointFormatsUptoRow : OpenClaim := { program := "ytfefcfjedlidnaadoor", sum := "155f5e8d958178e9fc41624f0d8cfc302aec31bc2e187ea71df5da92c77e46e5", func := "coppice/coppicelaw22.CheckpointFormats", spec := "checkpointFormats", inPlace := ["internal/abi.NoEscape"], unfollowed := true, recurses := true, named := ["unicode/utf8.first", "unicode/utf8.acceptRanges", "coppice/hash.constants", "internal/strconv.uint64pow10", "math/bits.deBruijn32tab", "math/bits.deBruijn64tab"], apart := false, laid := [("math/bits.deBruijn32tab", laid_math_bits_deBruijn32tab), ("math/bits.deBruijn64tab", laid_math_bits_deBruijn64tab), ("internal/strconv.uint64pow10", laid_internal_strconv_uint64pow10), ("unicode/utf8.acceptRanges", laid_unicode_utf8_acceptRanges), ("coppice/hash.constants", laid_coppice_hash_constants), ("unicode/utf8.first", laid_unicode_utf8_first)], narrowed := true }
def CheckpointFormatsUptoSaid : Prop := checkpointFormatsUptoRow.holds Tryd.pinned (OpenSpec.upto checkpointFormatsSpec)

/-- 'coppicelaw21.NoteDigests', WHERE WHAT IT READS IS OF BULK AT MOST 1048576: true; the input reads as it did. -/
def noteDigestsUptoRow : OpenClaim := { program := "ytfefcfjedlidnaadoor", sum := "155f5e8d958178e9fc41624f0d8cfc302aec31bc2e187ea71df5da92c77e46e5", func := "coppice/coppicelaw21.NoteDigests", spec := "noteDigests", named := ["coppice/hash.constants"], apart := false, laid := [("coppice/hash.constants", laid_coppice_hash_constants)], narrowed := true }
def NoteDigestsUptoSaid : Prop := noteDigestsUptoRow.holds Tryd.pinned (OpenSpec.upto noteDigestsSpec)

/-- 'coppicelaw21.NoteFormats', WHERE WHAT IT READS IS OF BULK AT MOST 1048576: true; the input reads as it did. -/
def noteFormatsUptoRow : OpenClaim := { program := "ytfefcfjedlidnaadoor", sum := "155f5e8d958178e9fc41624f0d8cfc302aec31bc2e187ea71df5da92c77e46e5", func := "coppice/coppicelaw21.NoteFormats", spec := "noteFormats", inPlace := ["internal/abi.NoEscape"], unfollowed := true, recurses := true, named := ["unicode/utf8.first", "unicode/utf8.acceptRanges"], apart := false, laid := [("unicode/utf8.acceptRanges", laid_unicode_utf8_acceptRanges), ("unicode/utf8.first", laid_unicode_utf8_first)], narrowed := true }
def NoteFormatsUptoSaid : Prop := noteFormatsUptoRow.holds Tryd.pinned (OpenSpec.upto noteFormatsSpec)

/-- 'coppicelaw21.NoteNames', WHERE WHAT IT READS IS OF BULK AT MOST 1048576: true; the input reads as it did. -/
def noteNamesUptoRow : OpenClaim := { program := "ytfefcfjedlidnaadoor", sum := "155f5e8d958178e9fc41624f0d8cfc302aec31bc2e187ea71df5da92c77e46e5", func := "coppice/coppicelaw21.NoteNames", spec := "noteNames", named := ["coppice/hash.constants", "unicode/utf8.first", "unicode/utf8.acceptRanges"], apart := false, laid := [("unicode/utf8.acceptRanges", laid_unicode_utf8_acceptRanges), ("coppice/hash.constants", laid_coppice_hash_constants), ("unicode/utf8.first", laid_unicode_utf8_first)], narrowed := true }
def NoteNamesUptoSaid : Prop := noteNamesUptoRow.holds Tryd.pinned (OpenSpec.upto noteNamesSpec)

/-- 'coppicelaw08.WireEncodes', WHERE WHAT IT READS IS OF BULK AT MOST 1048576: true; the input reads as it did. -/
def wireEncodesUptoRow : OpenClaim := { program := "ytfefcfjedlidnaadoor", sum := "155f5e8d958178e9fc41624f0d8cfc302aec31bc2e187ea71df5da92c77e46e5", func := "coppice/coppicelaw08.WireEncodes", spec := "wireEncodes", inPlace := ["internal/abi.NoEscape"], unfollowed := true, recurses := true, named := ["coppice/wire.kinds", "internal/strconv.uint64pow10", "math/bits.deBruijn32tab", "math/bits.deBruijn64tab"], apart := false, laid := [("math/bits.deBruijn32tab", laid_math_bits_deBruijn32tab), ("math/bits.deBruijn64tab", laid_math_bits_deBruijn64tab), ("internal/strconv.uint64pow10", laid_internal_strconv_uint64pow10), ("coppice/wire.kinds", laid_coppice_wire_kinds)], narrowed := true }
def WireEncodesUptoSaid : Prop := wireEncodesUptoRow.holds Tryd.pinned (OpenSpec.upto wireEncodesSpec)

end Rows
end Go.Proofs.YtfefcfjedlidnaaDoor
