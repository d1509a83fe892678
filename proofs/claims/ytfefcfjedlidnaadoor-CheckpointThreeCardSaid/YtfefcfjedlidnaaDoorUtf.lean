/- UTF-8, plain: a text whose characters are all well-formed and meet a test; what the reference's Rune tells. -/
import Derived.Lib.ValidLaws
namespace Go.Proofs.YtfefcfjedlidnaaDoor.Utf
open Go Go.Lib
set_option linter.unusedVariables false
set_option linter.unusedSimpArgs false

/-- Every character is well-formed and meets p. -/
def okGo (p : Nat → Bool) : Nat → List UInt8 → Bool
  | 0, _ => true
  | n + 1, l => if l = [] then true else if (decodeL l).1 = 65533 ∧ (decodeL l).2 = 1 then false else if p (decodeL l).1 then okGo p n (l.drop (decodeL l).2) else false
def okD (p : Nat → Bool) (l : List UInt8) : Bool := okGo p l.length l
theorem okGo_nil (p : Nat → Bool) : ∀ n, okGo p n [] = true
  | 0 => rfl
  | _ + 1 => by simp [okGo]
theorem okGo_fuel (p : Nat → Bool) : ∀ (n m : Nat) (l : List UInt8), l.length ≤ n → l.length ≤ m → okGo p n l = okGo p m l
  | 0, m, l, hn, _ => by
    have : l = [] := List.eq_nil_of_length_eq_zero (by omega)
    subst this
    rw [okGo_nil, okGo_nil]
  | n + 1, 0, l, _, hm => by
    have : l = [] := List.eq_nil_of_length_eq_zero (by omega)
    subst this
    rw [okGo_nil, okGo_nil]
  | n + 1, m + 1, l, hn, hm => by
    unfold okGo
    by_cases hne : l = []
    · simp [hne]
    · have hw := decodeL_width l
      have hl : 0 < l.length := List.length_pos_iff.2 hne
      rw [if_neg hne, if_neg hne, okGo_fuel p n m (l.drop (decodeL l).2) (by rw [List.length_drop]; omega) (by rw [List.length_drop]; omega)]
theorem okD_nil (p : Nat → Bool) : okD p [] = true := rfl
theorem okD_step (p : Nat → Bool) (l : List UInt8) (hne : l ≠ []) : okD p l = if (decodeL l).1 = 65533 ∧ (decodeL l).2 = 1 then false else if p (decodeL l).1 then okD p (l.drop (decodeL l).2) else false := by
  have hl : 0 < l.length := List.length_pos_iff.2 hne
  have hw := decodeL_width l
  obtain ⟨n, hn⟩ : ∃ n, l.length = n + 1 := ⟨l.length - 1, by omega⟩
  unfold okD
  rw [hn]
  show (if l = [] then true else _) = _
  rw [if_neg hne, okGo_fuel p n (l.drop (decodeL l).2).length _ (by rw [List.length_drop]; omega) (Nat.le_refl _)]
theorem okD_valid (p : Nat → Bool) : ∀ (n : Nat) (l : List UInt8), l.length ≤ n → validD l = false → okD p l = false
  | 0, l, hn, hv => by
    have : l = [] := List.eq_nil_of_length_eq_zero (by omega)
    subst this
    simp [validD_nil] at hv
  | n + 1, l, hn, hv => by
    by_cases hne : l = []
    · subst hne; simp [validD_nil] at hv
    · have hw := decodeL_width l
      have hl : 0 < l.length := List.length_pos_iff.2 hne
      rw [validD_step l hne] at hv
      rw [okD_step p l hne]
      by_cases hb : (decodeL l).1 = 65533 ∧ (decodeL l).2 = 1
      · rw [if_pos hb]
      · rw [if_neg hb] at hv ⊢
        rw [okD_valid p n (l.drop (decodeL l).2) (by rw [List.length_drop]; omega) hv]
        simp

/-- A place of a string. -/
def at' (s : ByteArray) (k : Nat) : Nat := (s.data.toList.getD k 0).toNat
theorem at_lt (s : ByteArray) (k : Nat) : at' s k < 256 := (s.data.toList.getD k 0).toNat_lt
theorem drop_ne (s : ByteArray) (i : Nat) (h : i < s.size) : s.data.toList.drop i ≠ [] := by
  intro h0
  have := congrArg List.length h0
  rw [List.length_drop] at this
  have e : s.data.toList.length = s.size := by cases s; simp [ByteArray.size]
  simp at this
  omega
/-- The character at a place, or none: (0, 0). -/
def rn (s : ByteArray) (i : Nat) : Nat × Nat := if (Utf8.decode s i).1 = 65533 ∧ (Utf8.decode s i).2 = 1 then (0, 0) else Utf8.decode s i
theorem dec (s : ByteArray) (i : Nat) : Utf8.decode s i = decodeN (s.size - i) (at' s i) (at' s (i + 1)) (at' s (i + 2)) (at' s (i + 3)) := by
  have e : s.data.toList.length = s.size := by cases s; simp [ByteArray.size]
  rw [decode_N, e]; rfl
theorem rn_ascii (s : ByteArray) (i : Nat) (h : at' s i < 128) : rn s i = (at' s i, 1) := by
  unfold rn
  rw [dec]
  unfold decodeN
  rw [if_pos h, if_neg (by simp; omega)]
theorem rn_bad (s : ByteArray) (i : Nat) (h : (128 ≤ at' s i ∧ at' s i < 194) ∨ 245 ≤ at' s i) : rn s i = (0, 0) := by
  have := at_lt s i
  unfold rn
  rw [dec, decodeN_bad _ _ _ _ _ (by omega), if_pos ⟨rfl, rfl⟩]
theorem rn_of (s : ByteArray) (i : Nat) (v n : Nat) (hn : 2 ≤ n) (h : Utf8.decode s i = (v, n)) : rn s i = (v, n) := by
  unfold rn
  rw [h, if_neg (by simp; omega)]
theorem rn_none (s : ByteArray) (i : Nat) (h : Utf8.decode s i = (65533, 1)) : rn s i = (0, 0) := by
  unfold rn
  rw [h, if_pos ⟨rfl, rfl⟩]
theorem rn2 (s : ByteArray) (i : Nat) (h0 : 194 ≤ at' s i) (h1 : at' s i < 224) (hs : 2 ≤ s.size - i) (c1 : 128 ≤ at' s (i + 1) ∧ at' s (i + 1) < 192) :
    rn s i = (at' s i % 32 * 64 + at' s (i + 1) % 64, 2) := by
  refine rn_of s i _ 2 (by omega) ?_
  rw [dec]
  unfold decodeN
  rw [if_neg (by omega), if_pos (by omega), if_pos (by omega)]
theorem rn2_no (s : ByteArray) (i : Nat) (h0 : 194 ≤ at' s i) (h1 : at' s i < 224) (h : s.size - i < 2 ∨ at' s (i + 1) < 128 ∨ 192 ≤ at' s (i + 1)) : rn s i = (0, 0) := by
  have := at_lt s (i + 1)
  refine rn_none s i ?_
  rw [dec]
  unfold decodeN
  rw [if_neg (by omega), if_neg (by omega), if_neg (by omega), if_neg (by omega)]
theorem rn3 (s : ByteArray) (i : Nat) (h0 : 224 ≤ at' s i) (h1 : at' s i < 240) (hs : 3 ≤ s.size - i) (c1 : 128 ≤ at' s (i + 1) ∧ at' s (i + 1) < 192) (c2 : 128 ≤ at' s (i + 2) ∧ at' s (i + 2) < 192) (v : Nat)
    (hv : v = (at' s i % 16 * 64 + at' s (i + 1) % 64) * 64 + at' s (i + 2) % 64) : rn s i = if v < 2048 ∨ (55296 ≤ v ∧ v < 57344) then (0, 0) else (v, 3) := by
  have e : at' s i % 16 * 4096 + at' s (i + 1) % 64 * 64 + at' s (i + 2) % 64 = v := by omega
  by_cases hb : v < 2048 ∨ (55296 ≤ v ∧ v < 57344)
  · rw [if_pos hb]
    refine rn_none s i ?_
    rw [dec]
    unfold decodeN
    rw [if_neg (by omega), if_neg (by omega), if_pos (by omega), e, if_neg (by omega)]
  · rw [if_neg hb]
    refine rn_of s i _ 3 (by omega) ?_
    rw [dec]
    unfold decodeN
    rw [if_neg (by omega), if_neg (by omega), if_pos (by omega), e, if_pos (by omega)]
theorem rn3_no (s : ByteArray) (i : Nat) (h0 : 224 ≤ at' s i) (h1 : at' s i < 240) (h : s.size - i < 3 ∨ at' s (i + 1) < 128 ∨ 192 ≤ at' s (i + 1) ∨ at' s (i + 2) < 128 ∨ 192 ≤ at' s (i + 2)) : rn s i = (0, 0) := by
  have := at_lt s (i + 1)
  have := at_lt s (i + 2)
  refine rn_none s i ?_
  rw [dec]
  unfold decodeN
  rw [if_neg (by omega), if_neg (by omega), if_neg (by omega), if_neg (by omega)]
theorem rn4 (s : ByteArray) (i : Nat) (h0 : 240 ≤ at' s i) (h1 : at' s i < 245) (hs : 4 ≤ s.size - i) (c1 : 128 ≤ at' s (i + 1) ∧ at' s (i + 1) < 192) (c2 : 128 ≤ at' s (i + 2) ∧ at' s (i + 2) < 192) (c3 : 128 ≤ at' s (i + 3) ∧ at' s (i + 3) < 192) (v : Nat)
    (hv : v = ((at' s i % 8 * 64 + at' s (i + 1) % 64) * 64 + at' s (i + 2) % 64) * 64 + at' s (i + 3) % 64) : rn s i = if v < 65536 ∨ 1114111 < v ∨ (55296 ≤ v ∧ v < 57344) then (0, 0) else (v, 4) := by
  have e : at' s i % 8 * 262144 + at' s (i + 1) % 64 * 4096 + at' s (i + 2) % 64 * 64 + at' s (i + 3) % 64 = v := by omega
  by_cases hb : v < 65536 ∨ 1114111 < v ∨ (55296 ≤ v ∧ v < 57344)
  · rw [if_pos hb]
    refine rn_none s i ?_
    rw [dec]
    unfold decodeN
    rw [if_neg (by omega), if_neg (by omega), if_neg (by omega), if_pos (by omega), e, if_neg (by omega)]
  · rw [if_neg hb]
    refine rn_of s i _ 4 (by omega) ?_
    rw [dec]
    unfold decodeN
    rw [if_neg (by omega), if_neg (by omega), if_neg (by omega), if_pos (by omega), e, if_pos (by omega)]
theorem rn4_no (s : ByteArray) (i : Nat) (h0 : 240 ≤ at' s i) (h1 : at' s i < 245) (h : s.size - i < 4 ∨ at' s (i + 1) < 128 ∨ 192 ≤ at' s (i + 1) ∨ at' s (i + 2) < 128 ∨ 192 ≤ at' s (i + 2) ∨ at' s (i + 3) < 128 ∨ 192 ≤ at' s (i + 3)) : rn s i = (0, 0) := by
  have := at_lt s (i + 1)
  have := at_lt s (i + 2)
  have := at_lt s (i + 3)
  refine rn_none s i ?_
  rw [dec]
  unfold decodeN
  rw [if_neg (by omega), if_neg (by omega), if_neg (by omega), if_neg (by omega)]
theorem rn_width (s : ByteArray) (i : Nat) (h : i < s.size) : (rn s i).2 ≤ 4 ∧ i + (rn s i).2 ≤ s.size := by
  have hw := decodeL_le (s.data.toList.drop i) (drop_ne s i h)
  rw [decodeL_drop, List.length_drop] at hw
  have e : s.data.toList.length = s.size := by cases s; simp [ByteArray.size]
  have h4 : (Utf8.decode s i).2 ≤ 4 := by
    rw [dec]; unfold decodeN
    repeat' split
    all_goals simp
  unfold rn
  split
  · simp; omega
  · omega
theorem rn_le (s : ByteArray) (i : Nat) : (rn s i).1 ≤ 1114111 := by
  unfold rn
  split
  · simp
  · have := decodeL_rune (s.data.toList.drop i)
    rw [decodeL_drop] at this
    exact this
/-- The text from a place on, by the reference's Rune. -/
theorem okD_rn (p : Nat → Bool) (s : ByteArray) (i : Nat) (h : i < s.size) : okD p (s.data.toList.drop i) = if (rn s i).2 = 0 then false else if p (rn s i).1 then okD p (s.data.toList.drop (i + (rn s i).2)) else false := by
  rw [okD_step p _ (drop_ne s i h), decodeL_drop, List.drop_drop]
  have hw := decodeL_width (s.data.toList.drop i)
  rw [decodeL_drop] at hw
  unfold rn
  by_cases hb : (Utf8.decode s i).1 = 65533 ∧ (Utf8.decode s i).2 = 1
  · rw [if_pos hb, if_pos hb, if_pos rfl]
  · rw [if_neg hb, if_neg hb]
    simp only [show ¬ (Utf8.decode s i).2 = 0 by omega, if_false]
end Go.Proofs.YtfefcfjedlidnaaDoor.Utf
