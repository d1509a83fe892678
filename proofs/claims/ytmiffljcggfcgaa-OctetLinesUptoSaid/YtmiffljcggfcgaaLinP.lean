/- A text cut at its first line's end: strings.Cut at "\n", without its package variable. Lines: the plain law. -/
import Derived.Test.YtmiffljcggfcgaaHexP
import Derived.BigRegion
namespace Go.Proofs.Ytmiffljcggfcgaa.Lin
open Go Go.RowKit Go.Proofs.Ytmiffljcggfcgaa.Cop Go.Proofs.Ytmiffljcggfcgaa.Oct Go.Proofs.Ytmiffljcggfcgaa.Hex
set_option linter.unusedVariables false
set_option linter.unusedSimpArgs false

/-- The lines of what is left, behind the beginning of one. -/
def lin : List UInt8 → List UInt8 → List (List UInt8)
  | cur, [] => if cur = [] then [] else [cur]
  | cur, c :: r => if c = 10 then cur :: lin [] r else lin (cur ++ [c]) r
def lines (l : List UInt8) : List (List UInt8) := lin [] l
/-- The first line, and what is behind it. -/
def head (l : List UInt8) : List UInt8 := if 0 ≤ ix l 10 then l.take (ix l 10).toNat else l
def behind (l : List UInt8) : List UInt8 := if 0 ≤ ix l 10 then l.drop ((ix l 10).toNat + 1) else []
theorem lin_head : ∀ (l cur : List UInt8), (l ≠ [] ∨ cur ≠ []) → lin cur l = (cur ++ head l) :: lines (behind l)
  | [], cur, h => by
    have hc : cur ≠ [] := by rcases h with h | h; · exact absurd rfl h
                             · exact h
    simp [lin, hc, head, behind, ix_nil, lines]
  | c :: r, cur, h => by
    unfold lin head behind
    rw [ix_cons]
    by_cases e : c = 10
    · rw [if_pos e, if_pos e]
      simp [lines]
    · rw [if_neg e, if_neg e]
      have ih := lin_head r (cur ++ [c]) (.inr (by simp))
      rw [ih]
      unfold head behind
      by_cases e2 : ix r 10 = -1
      · rw [if_pos e2, e2]; simp
      · rw [if_neg e2]
        have h0 : 0 ≤ ix r 10 := by have := ix_ge r 10; omega
        have e3 : (ix r 10 + 1).toNat = (ix r 10).toNat + 1 := by omega
        rw [if_pos h0, if_pos h0, if_pos (by omega), if_pos (by omega), e3]
        simp
theorem lines_head (l : List UInt8) (h : l ≠ []) : lines l = head l :: lines (behind l) := by
  have := lin_head l [] (.inl h)
  rw [List.nil_append] at this
  exact this
theorem behind_lt (l : List UInt8) (h : l ≠ []) : (behind l).length < l.length := by
  have hl : 0 < l.length := List.length_pos_iff.2 h
  unfold behind
  split
  · rw [List.length_drop]; omega
  · simpa using hl
theorem lines_length : ∀ (n : Nat) (l : List UInt8), l.length ≤ n → (lines l).length ≤ n
  | n, [], _ => by simp [lines, lin]
  | 0, c :: r, h => by simp at h
  | n + 1, c :: r, h => by
    rw [lines_head _ (by simp), List.length_cons]
    have hb := behind_lt (c :: r) (by simp)
    have := lines_length n (behind (c :: r)) (by omega)
    omega

set_option maxRecDepth 100000 in
theorem sindex (s : ByteArray) (w : World) (hs : s.size ≤ 9223372036854775807) :
    Calls Try.prog 81 #[.string s, .string ⟨#[10]⟩] w fun e w' => e = .returned (.int .i64 (ix s.data.toList 10)) ∧ w' = w := by
  have hc := Try.stringslite_IndexByte s 10 w
  have HC := Lib.hid hc
  clear hc
  by_cases he : (⟨#[10]⟩ : ByteArray) = s
  · subst he
    go_enter Try.func81, Try.ntmps81
    go_wp2_with fail
    go_ret
    exact ⟨rfl, rfl⟩
  · have d2 : decide ((⟨#[10]⟩ : ByteArray) = s) = false := decide_eq_false he
    go_enter Try.func81, Try.ntmps81
    go_wp2_with ((with_reducible refine gate_dst (N := 22) rfl ?_); go_loud (refine wp_eq_str rfl _ _ _ _ rfl rfl rfl (d2) ?_))
    refine HC.out.mono ?_
    rintro e w' ⟨rfl, rfl⟩
    go_wp2_with fail
    go_ret
    exact ⟨rfl, rfl⟩

theorem ext_str (s : ByteArray) (a b : Nat) : s.extract a b = str ((s.data.toList.drop a).take (b - a)) := by
  apply ByteArray.ext
  rw [ByteArray.data_extract]
  apply Array.ext'
  rw [Array.toList_extract, List.extract_eq_take_drop]
  rfl
theorem ext_take (s : ByteArray) (k : Nat) : s.extract 0 k = str (s.data.toList.take k) := by rw [ext_str]; simp
theorem ext_drop (s : ByteArray) (k : Nat) : s.extract k s.size = str (s.data.toList.drop k) := by
  rw [ext_str, List.take_of_length_le (by rw [List.length_drop]; exact Nat.le_refl _)]
def found (l : List UInt8) : Bool := decide (0 ≤ ix l 10)
set_option maxHeartbeats 1000000 in
set_option maxRecDepth 100000 in
theorem scut (s : ByteArray) (w : World) (hs : s.size ≤ 9223372036854775806) :
    Calls Try.prog 77 #[.string s, .string ⟨#[10]⟩] w fun e w' => e = .returned (.tuple #[.string (str (head s.data.toList)), .string (str (behind s.data.toList)), .bool (found s.data.toList)]) ∧ ∃ n, w' = w.drewN n := by
  have hi := sindex s w (by omega)
  have hlt := ix_lt s.data.toList 10
  have hsl : s.data.toList.length = s.size := rfl
  unfold head behind found
  by_cases h0 : 0 ≤ ix s.data.toList 10
  · obtain ⟨k, hk⟩ : ∃ k : Nat, ix s.data.toList 10 = (k : Int) := ⟨(ix s.data.toList 10).toNat, by omega⟩
    rw [hk] at hi hlt ⊢
    rw [if_pos (by omega), if_pos (by omega), Int.toNat_natCast, decide_eq_true (by omega)]
    have d1 : decide ((0 : Int) ≤ (k : Int)) = true := decide_eq_true (by omega)
    have d2 : decide ((k : Int) < 0) = false := decide_eq_false (by omega)
    have hks : k + 1 ≤ s.size := by omega
    have hks' : (k : Int) + 1 ≤ (s.size : Int) := by omega
    have HI := Lib.hid hi
    clear hi hk h0 hlt
    go_enter Try.func77, Try.ntmps77
    go_wp2_with fail
    refine HI.out.mono ?_
    rintro e w' ⟨rfl, rfl⟩
    go_wp2_with fail
    go_region
    all_goals
      go_wp2_with fail
      go_ret3
      refine ⟨?_, _, rfl⟩
      have e1 := ext_take s k
      have e2 := ext_drop s (k + 1)
      rw [← e1, ← e2]
      rfl
  · have h1 : ix s.data.toList 10 = -1 := by have := ix_ge s.data.toList 10; omega
    rw [h1] at hi ⊢
    rw [if_neg (by omega), if_neg (by omega)]
    have HI := Lib.hid hi
    clear hi h0 h1 hlt
    go_enter Try.func77, Try.ntmps77
    go_wp2_with fail
    refine HI.out.mono ?_
    rintro e w' ⟨rfl, rfl⟩
    go_wp2_with fail
    go_ret3
    exact ⟨rfl, 0, rfl⟩
end Go.Proofs.Ytmiffljcggfcgaa.Lin
