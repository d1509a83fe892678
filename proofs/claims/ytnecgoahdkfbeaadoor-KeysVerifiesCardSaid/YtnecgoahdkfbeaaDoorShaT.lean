/- The hash of bytes, plain, second part: padding, blocks one after another, the digest. -/
import Derived.Test.YtnecgoahdkfbeaaDoorShaQ
import Derived.Test.YtnecgoahdkfbeaaDoorOct
namespace Go.Proofs.YtnecgoahdkfbeaaDoor.Sha
open Go Go.RowKit Go.Proofs.YtnecgoahdkfbeaaDoor.Cop
set_option linter.unusedVariables false
set_option linter.unusedSimpArgs false
/-- How many noughts are put behind n bytes. -/
def zeros (n : Nat) : Nat := (119 - n % 64) % 64
def padB (n : Nat) : List UInt8 := (128 :: List.replicate (zeros n) 0) ++ Oct.be (n * 8) 8
theorem pad_len (n : Nat) : (padB n).length = 9 + zeros n := by simp [padB, Oct.be_length]; omega
theorem zeros_lt (n : Nat) : zeros n < 64 := Nat.mod_lt _ (by omega)
theorem pad_mod (n : Nat) : (n + (padB n).length) % 64 = 0 := by
  rw [pad_len]; unfold zeros; omega
/-- So many blocks, one after another. -/
def overN : Nat → List Int → List UInt8 → List Int
  | 0, h, _ => h
  | k + 1, h, b => overN k (comp h (b.take 64)) (b.drop 64)
def over (h : List Int) (b : List UInt8) : List Int := overN (b.length / 64) h b
theorem over_lt (h : List Int) (b : List UInt8) (hb : b.length < 64) : over h b = h := by
  unfold over
  rw [Nat.div_eq_of_lt hb]
  rfl
theorem over_ge (h : List Int) (b : List UInt8) (hb : 64 ≤ b.length) : over h b = over (comp h (b.take 64)) (b.drop 64) := by
  unfold over
  obtain ⟨k, hk⟩ : ∃ k, b.length / 64 = k + 1 := ⟨b.length / 64 - 1, by omega⟩
  have e : (b.drop 64).length / 64 = k := by rw [List.length_drop]; omega
  rw [hk, e]
  rfl
/-- What lies behind the whole blocks. -/
def tail (b : List UInt8) : List UInt8 := b.drop (b.length / 64 * 64)
theorem tail_lt (b : List UInt8) (hb : b.length < 64) : tail b = b := by
  unfold tail
  rw [Nat.div_eq_of_lt hb]
  simp
theorem tail_ge (b : List UInt8) (hb : 64 ≤ b.length) : tail b = tail (b.drop 64) := by
  unfold tail
  rw [List.length_drop, List.drop_drop]
  congr 1
  omega
theorem tail_len (b : List UInt8) : (tail b).length = b.length % 64 := by
  unfold tail
  rw [List.length_drop]
  omega
theorem over_app (p : List UInt8) : ∀ (n : Nat) (h : List Int) (b : List UInt8), b.length ≤ n → over h (b ++ p) = over (over h b) (tail b ++ p)
  | 0, h, b, hn => by
    obtain rfl : b = [] := List.eq_nil_of_length_eq_zero (by omega)
    rfl
  | n + 1, h, b, hn => by
    by_cases hb : b.length < 64
    · rw [over_lt h b hb, tail_lt b hb]
    · have h64 : 64 ≤ b.length := by omega
      rw [over_ge h (b ++ p) (by rw [List.length_append]; omega), over_ge h b h64, tail_ge b h64, List.take_append_of_le_length h64, List.drop_append_of_le_length h64]
      exact over_app p n _ _ (by rw [List.length_drop]; omega)
/-- Words in their bounds. -/
def Wd (l : List Int) : Prop := l.length = 8 ∧ ∀ x ∈ l, 0 ≤ x ∧ x < 4294967296
theorem comp_wd (h : List Int) (b : List UInt8) (hh : h.length = 8) : Wd (comp h b) := by
  refine ⟨comp_len h b hh, fun x hx => ?_⟩
  unfold comp adds at hx
  obtain ⟨i, hi, rfl⟩ := List.getElem_of_mem hx
  rw [List.getElem_zipWith]
  rw [IntKind.wrap_u32]
  omega
theorem over_wd : ∀ (n : Nat) (h : List Int) (b : List UInt8), b.length ≤ n → Wd h → Wd (over h b)
  | 0, h, b, hn, hh => by rw [over_lt h b (by omega)]; exact hh
  | n + 1, h, b, hn, hh => by
    by_cases hb : b.length < 64
    · rw [over_lt h b hb]; exact hh
    · rw [over_ge h b (by omega)]
      exact over_wd n _ _ (by rw [List.length_drop]; omega) (comp_wd h _ hh.1)
/-- The first words. -/
def h0 : List Int := [1779033703, 3144134277, 1013904242, 2773480762, 1359893119, 2600822924, 528734635, 1541459225]
theorem h0_wd : Wd h0 := ⟨rfl, by decide⟩
/-- Words as bytes. -/
def wordsB (h : List Int) : List UInt8 := h.flatMap fun x => Oct.be x.toNat 4
theorem wordsB_len (h : List Int) : (wordsB h).length = h.length * 4 := by
  unfold wordsB
  induction h with
  | nil => rfl
  | cons x r ih => rw [List.flatMap_cons, List.length_append, ih, List.length_cons, Oct.be_length]; omega
theorem wordsB_snoc (l : List Int) (x : Int) : wordsB (l ++ [x]) = wordsB l ++ Oct.be x.toNat 4 := by simp [wordsB, List.flatMap_append]
/-- The digest of bytes. -/
def sha (b : List UInt8) : List UInt8 := wordsB (over h0 (b ++ padB b.length))
theorem sha_len (b : List UInt8) : (sha b).length = 32 := by
  unfold sha
  rw [wordsB_len, (over_wd _ _ _ (Nat.le_refl _) h0_wd).1]
/-- A word's four bytes. -/
theorem be_four (x : Nat) (h : x < 4294967296) : bcs (Oct.be x 4) = [.int .u8 ((x : Int) / 16777216), .int .u8 ((x : Int) / 65536 % 256), .int .u8 ((x : Int) / 256 % 256), .int .u8 ((x : Int) % 256)] := by
  have e : Oct.be x 4 = [UInt8.ofNat (x / 16777216), UInt8.ofNat (x / 65536), UInt8.ofNat (x / 256), UInt8.ofNat (x / 1)] := rfl
  rw [e]
  simp only [bcs, List.map_cons, List.map_nil, u8c, UInt8.toNat_ofNat', List.cons.injEq, Value.int.injEq, true_and, and_true]
  omega
theorem lit1 (w : World) (e : TypeId) {c : Int} {b : UInt8} (h : c = (b.toNat : Int)) : Oct.Rd (w.alloc (.cells #[.int .u8 c] e)) (.slice (some ⟨w.heap.size, 0, none⟩) 1 1) [b] := by
  subst h
  exact Oct.Rd.one w b e
theorem lit4 {bx : List UInt8} (hl : bx.length = 4) {a b c d : Value} (h : bcs bx = [a, b, c, d]) (w : World) (e : TypeId) : Oct.Rd (w.alloc (.cells #[a, b, c, d] e)) (.slice (some ⟨w.heap.size, 0, none⟩) 4 4) bx := by
  unfold Oct.Rd
  rw [h, hl]
  exact Row.lit w [a, b, c, d] e 4 (by unfold maxLen; omega)
end Go.Proofs.YtnecgoahdkfbeaaDoor.Sha
