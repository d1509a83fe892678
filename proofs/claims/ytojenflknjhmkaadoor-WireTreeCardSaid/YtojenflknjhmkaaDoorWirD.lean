/- A proof out of bytes: what both decoders tell. -/
import Derived.Test.YtojenflknjhmkaaDoorWirV
import Derived.Test.YtojenflknjhmkaaDoorDsl
namespace Go.Proofs.YtojenflknjhmkaaDoor.Wir
open Go Go.RowKit Go.Proofs.YtojenflknjhmkaaDoor.Cop Go.Proofs.YtojenflknjhmkaaDoor.Ver Go.Proofs.YtojenflknjhmkaaDoor.Oct Go.Proofs.YtojenflknjhmkaaDoor.Dsl
set_option linter.unusedVariables false
set_option linter.unusedSimpArgs false
/-- How many digests the bytes say that they bring. -/
def nB (b : List UInt8) : Nat := (b.getD 17 0).toNat
def shB (b : List UInt8) : Bool := decide (18 ≤ b.length) && decide (b.length = 18 + 32 * nB b)
def kB (b : List UInt8) : Nat := (b.getD 0 0).toNat
def fB (b : List UInt8) : Nat := gv b 1 8
def sB (b : List UInt8) : Nat := gv b 9 8
def dB (b : List UInt8) (n : Nat) : List (List UInt8) := (List.range n).map fun i : Nat => gd b (18 + 32 * (i : Int))
def okB (b : List UInt8) : Bool := shB b && (decide (fB b ≤ 281474976710656) && (decide (sB b ≤ 281474976710656) && valB (kB b) (fB b) (sB b) (nB b)))
theorem dB_length (b : List UInt8) (n : Nat) : (dB b n).length = n := by simp [dB]
theorem dB_32 (b : List UInt8) (n : Nat) : All32 (dB b n) := by
  intro d hd
  obtain ⟨i, _, rfl⟩ := List.mem_map.1 hd
  exact gd_length b _
theorem dB_succ (b : List UInt8) (n : Nat) : dB b (n + 1) = dB b n ++ [gd b (18 + 32 * (n : Int))] := by simp [dB, List.range_succ]
theorem nB_lt (b : List UInt8) : nB b < 256 := UInt8.toNat_lt _
theorem shB_iff (b : List UInt8) : shB b = true ↔ 18 ≤ b.length ∧ b.length = 18 + 32 * nB b := by simp [shB]
theorem okB_f1 {b : List UInt8} (h : b.length < 18) : okB b = false := by
  have : shB b = false := by
    cases e : shB b with
    | false => rfl
    | true => have := (shB_iff b).1 e; omega
  simp [okB, this]
theorem okB_f2 {b : List UInt8} (h : b.length ≠ 18 + 32 * nB b) : okB b = false := by
  have : shB b = false := by
    cases e : shB b with
    | false => rfl
    | true => have := (shB_iff b).1 e; omega
  simp [okB, this]
theorem okB_f3 {b : List UInt8} (h : 281474976710656 < fB b) : okB b = false := by
  have : decide (fB b ≤ 281474976710656) = false := decide_eq_false (by omega)
  simp only [okB, this, Bool.false_and, Bool.and_false]
theorem okB_f4 {b : List UInt8} (h : 281474976710656 < sB b) : okB b = false := by
  have : decide (sB b ≤ 281474976710656) = false := decide_eq_false (by omega)
  simp only [okB, this, Bool.false_and, Bool.and_false]
theorem okB_v {b : List UInt8} (h1 : 18 ≤ b.length) (h2 : b.length = 18 + 32 * nB b) (h3 : fB b ≤ 281474976710656) (h4 : sB b ≤ 281474976710656) : okB b = valB (kB b) (fB b) (sB b) (nB b) := by
  have e1 : shB b = true := (shB_iff b).2 ⟨h1, h2⟩
  have e3 : decide (fB b ≤ 281474976710656) = true := decide_eq_true h3
  have e4 : decide (sB b ≤ 281474976710656) = true := decide_eq_true h4
  simp only [okB, e1, e3, e4, Bool.true_and]
theorem fB_lt (b : List UInt8) : fB b < 18446744073709551616 := by have := gv_lt b 1 8; simpa [fB] using this
theorem sB_lt (b : List UInt8) : sB b < 18446744073709551616 := by have := gv_lt b 9 8; simpa [sB] using this
theorem kB_lt (b : List UInt8) : kB b < 256 := UInt8.toNat_lt _
theorem rvalid_row (k f s : Int) (v : Value) (ds : List (List UInt8)) (w : World) (h : Ds w v ds) : Calls Tryd.prog 109 #[prV k f s v] w fun e w' => e = .returned (.bool (valB k f s ds.length)) ∧ Below w.heap.size w w' := by
  have hs := h.small
  obtain ⟨a, c, rfl⟩ := h.open
  exact rvalid_calls k f s a _ c hs w
theorem valid_row (k f s : Int) (v : Value) (ds : List (List UInt8)) (w : World) (h : Ds w v ds) : Calls Tryd.prog 28 #[prV k f s v] w fun e w' => e = .returned (.bool (valB k f s ds.length)) ∧ Below w.heap.size w w' := by
  have hs := h.small
  obtain ⟨a, c, rfl⟩ := h.open
  exact valid_calls k f s a _ c hs w
end Go.Proofs.YtojenflknjhmkaaDoor.Wir
