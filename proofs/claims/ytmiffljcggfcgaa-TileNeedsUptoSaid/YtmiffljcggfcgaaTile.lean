/- Contracts of the numbers behind tiles in a log (height, wrong, over, Width, Levels), the program's and the reference's: all numbers. -/
import Derived.Test.YtmiffljcggfcgaaProg
import Derived.Test.YtmiffljcggfcgaaLib
namespace Go.Proofs.Ytmiffljcggfcgaa.Til
open Go Go.RowKit Go.Proofs.Ytmiffljcggfcgaa.Cop
set_option linter.unusedVariables false
set_option linter.unusedSimpArgs false

/-- Is it a height? -/
def ht (h : Int) : Bool := decide (1 ≤ h ∧ h ≤ 8)
theorem ht_yes {h : Int} (e : ht h = true) : h = 1 ∨ h = 2 ∨ h = 3 ∨ h = 4 ∨ h = 5 ∨ h = 6 ∨ h = 7 ∨ h = 8 := by
  have := of_decide_eq_true e; omega
theorem ht_no {h : Int} (e : ht h = false) : ¬ (1 ≤ h ∧ h ≤ 8) := of_decide_eq_false e

theorem height_calls (h : Int) (w : World) : Calls Try.prog 49 #[.int .i64 h] w fun e w' => e = .returned (.bool (ht h)) ∧ w = w' := by
  by_cases c1 : 1 ≤ h
  · by_cases c2 : h ≤ 8
    · have e : ht h = true := decide_eq_true ⟨c1, c2⟩
      rw [e]
      go_enter Try.func49, Try.ntmps49
      go_wp2
      go_ret
      exact ⟨by simp, rfl⟩
    · have e : ht h = false := decide_eq_false (by omega)
      rw [e]
      go_enter Try.func49, Try.ntmps49
      go_wp2
      go_ret
      exact ⟨by simp, rfl⟩
  · have e : ht h = false := decide_eq_false (by omega)
    rw [e]
    go_enter Try.func49, Try.ntmps49
    go_wp2
    go_ret
    exact ⟨by simp, rfl⟩

theorem rheight_calls (h : Int) (w : World) : Calls Try.prog 51 #[.int .i64 h] w fun e w' => e = .returned (.bool (ht h)) ∧ w = w' := by
  by_cases c1 : 1 ≤ h
  · by_cases c2 : h ≤ 8
    · have e : ht h = true := decide_eq_true ⟨c1, c2⟩
      rw [e]
      go_enter Try.func51, Try.ntmps51
      go_wp2
      go_ret
      exact ⟨by simp, rfl⟩
    · have e : ht h = false := decide_eq_false (by omega)
      rw [e]
      go_enter Try.func51, Try.ntmps51
      go_wp2
      go_ret
      exact ⟨by simp, rfl⟩
  · have e : ht h = false := decide_eq_false (by omega)
    rw [e]
    go_enter Try.func51, Try.ntmps51
    go_wp2
    go_ret
    exact ⟨by simp, rfl⟩

/-- 2 to a height. -/
def full (h : Int) : Int := 2 ^ h.toNat
theorem full_cases {h : Int} (e : ht h = true) : (h = 1 ∧ full h = 2) ∨ (h = 2 ∧ full h = 4) ∨ (h = 3 ∧ full h = 8) ∨ (h = 4 ∧ full h = 16) ∨ (h = 5 ∧ full h = 32) ∨ (h = 6 ∧ full h = 64) ∨ (h = 7 ∧ full h = 128) ∨ (h = 8 ∧ full h = 256) := by
  rcases ht_yes e with rfl | rfl | rfl | rfl | rfl | rfl | rfl | rfl <;> simp [full]

theorem full_calls (h : Int) (w : World) (e : ht h = true) : Calls Try.prog 53 #[.int .i64 h] w fun e w' => e = .returned (.int .i64 (full h)) ∧ w = w' := by
  rcases full_cases e with ⟨rfl, hf⟩ | ⟨rfl, hf⟩ | ⟨rfl, hf⟩ | ⟨rfl, hf⟩ | ⟨rfl, hf⟩ | ⟨rfl, hf⟩ | ⟨rfl, hf⟩ | ⟨rfl, hf⟩ <;> rw [hf] <;> clear hf e
  all_goals
    go_enter Try.func53, Try.ntmps53
    go_wp2
    go_ret
    exact ⟨rfl, rfl⟩

/-- What is wrong with a height and a size. -/
def wr (h n : Int) : Int := if ht h = true then (if n < 0 then 40 else if 281474976710656 < n then 40 else 0) else 2
theorem wrong_calls (h n : Int) (w : World) : Calls Try.prog 54 #[.int .i64 h, .int .i64 n] w fun e w' => e = .returned (.int .i64 (wr h n)) ∧ w = w' := by
  cases hh : ht h with
  | false =>
    have e : wr h n = 2 := by unfold wr; rw [if_neg (by rw [hh]; decide)]
    rw [e]
    clear e
    have HH := Lib.hid hh
    clear hh
    go_enter Try.func54, Try.ntmps54
    go_wp2_with fail
    refine (height_calls h w).mono ?_
    rintro e w' ⟨rfl, rfl⟩
    rw [HH.out]
    go_wp2
    go_ret
    exact ⟨rfl, rfl⟩
  | true =>
    have HH := Lib.hid hh
    have e0 : wr h n = if n < 0 then 40 else if 281474976710656 < n then 40 else 0 := by unfold wr; rw [if_pos hh]
    rw [e0]
    clear e0 hh
    by_cases c1 : n < 0
    · rw [if_pos c1]
      go_enter Try.func54, Try.ntmps54
      go_wp2_with fail
      refine (height_calls h w).mono ?_
      rintro e w' ⟨rfl, rfl⟩
      rw [HH.out]
      go_wp2
      go_ret
      exact ⟨rfl, rfl⟩
    · rw [if_neg c1]
      have d1 : decide (n < 0) = false := decide_eq_false c1
      by_cases c2 : 281474976710656 < n
      · rw [if_pos c2]
        go_enter Try.func54, Try.ntmps54
        go_wp2_with fail
        refine (height_calls h w).mono ?_
        rintro e w' ⟨rfl, rfl⟩
        rw [HH.out]
        go_wp2
        go_ret
        exact ⟨rfl, rfl⟩
      · rw [if_neg c2]
        go_enter Try.func54, Try.ntmps54
        go_wp2_with fail
        refine (height_calls h w).mono ?_
        rintro e w' ⟨rfl, rfl⟩
        rw [HH.out]
        go_wp2
        go_ret
        exact ⟨rfl, rfl⟩

/-- How many digests a level has over n leaves. -/
def over (h : Int) (l n : Nat) : Nat := n / 2 ^ (h.toNat * l)


theorem over_zero (h : Int) (l n : Nat) (hn : n ≤ 281474976710656) (hl : 48 < h.toNat * l) : over h l n = 0 := by
  unfold over
  apply Nat.div_eq_of_lt
  have : (2 : Nat) ^ 49 ≤ 2 ^ (h.toNat * l) := Nat.pow_le_pow_right (by decide) (by omega)
  omega

theorem over_calls (h : Int) (l n : Nat) (w : World) (e : ht h = true) (hl : l ≤ 9223372036854775807) (hn : n ≤ 281474976710656) : Calls Try.prog 55 #[.int .i64 h, .int .i64 (l : Int), .int .i64 (n : Int)] w fun e w' => e = .returned (.int .i64 (over h l n : Int)) ∧ w = w' := by
  have hz := over_zero h l n hn
  have ho : over h l n = n / 2 ^ (h.toNat * l) := rfl
  generalize hg : over h l n = r at *
  have HZ := Lib.hid hz
  have HO := Lib.hid ho
  clear hz ho hg
  rcases ht_yes e with rfl | rfl | rfl | rfl | rfl | rfl | rfl | rfl <;> clear e
  all_goals
    go_enter Try.func55, Try.ntmps55
    go_wp2
  all_goals
    go_ret
    refine ⟨?_, rfl⟩
    first
      | (have hz : r = 0 := HZ.out (by simp; omega)
         subst hz; rfl)
      | (rw [HO.out]; simp; done)

/-- The reference's loop comes to the same. -/
theorem rover_calls (h : Int) (l n : Nat) (w : World) (e : ht h = true) (hl : l ≤ 9223372036854775807) (hn : n ≤ 281474976710656) : Calls Try.prog 56 #[.int .i64 h, .int .i64 (l : Int), .int .i64 (n : Int)] w fun e w' => e = .returned (.int .i64 (over h l n : Int)) ∧ w = w' := by
  have hs : ∀ k : Nat, over h k n / 2 ^ h.toNat = over h (k + 1) n := by
    intro k
    unfold over
    rw [Nat.div_div_eq_div_mul, ← Nat.pow_add, Nat.mul_succ]
  have h0 : over h 0 n = n := by unfold over; simp
  have hle : ∀ k, over h k n ≤ n := fun k => Nat.div_le_self _ _
  have hzz : ∀ k, k ≤ l → over h k n = 0 → over h l n = 0 := by
    intro k hk hz
    unfold over at hz ⊢
    have hp : 2 ^ (h.toNat * k) ≤ 2 ^ (h.toNat * l) := Nat.pow_le_pow_right (by decide) (Nat.mul_le_mul_left _ hk)
    have : n < 2 ^ (h.toNat * k) := by
      rcases Nat.lt_or_ge n (2 ^ (h.toNat * k)) with hlt | hge
      · exact hlt
      · have := Nat.div_pos hge (Nat.two_pow_pos _); omega
    exact Nat.div_eq_of_lt (by omega)
  obtain ⟨ov, hov⟩ : ∃ ov : Nat → Nat, ∀ k, over h k n = ov k := ⟨_, fun _ => rfl⟩
  simp only [hov] at hs h0 hle hzz
  rw [hov l]
  have HS := Lib.hid hs
  have H0 := Lib.hid h0
  have HL := Lib.hid hle
  have HZ := Lib.hid hzz
  clear hs h0 hle hzz hov
  rcases ht_yes e with rfl | rfl | rfl | rfl | rfl | rfl | rfl | rfl <;> clear e
  all_goals
    go_enter Try.func56, Try.ntmps56
    go_wp2_with fail
    go_loop [2, 7] (fun u i => ∃ k : Nat, k ≤ l ∧ i = .int .i64 (k : Int) ∧ u = .int .i64 (ov k : Int)) (fun _ i => l - (intOf i).toNat)
    case atStart => exact ⟨0, Nat.zero_le _, rfl, by rw [H0.out]⟩
    case round =>
      obtain ⟨k, hk, rfl, rfl⟩ := hrel
      have hm := HL.out k
      have hd := HS.out k
      obtain ⟨m, hmm⟩ : ∃ m, m = ov k := ⟨_, rfl⟩
      rw [← hmm] at hm hd ⊢
      have HM := Lib.hid hmm
      have HD := Lib.hid hd
      clear hmm hd
      by_cases hlt : k < l
      · by_cases hpos : 0 < m
        · have d1 : decide ((k : Int) < (l : Int)) = true := decide_eq_true (by omega)
          have d2 : decide ((0 : Int) < (m : Int)) = true := decide_eq_true (by omega)
          go_wp2
          go_round
          case rel => exact ⟨k + 1, by omega, by go_num, by rw [← HD.out]; rfl⟩
          case measure => simp [intOf]; omega
        · have d1 : decide ((k : Int) < (l : Int)) = true := decide_eq_true (by omega)
          have hm0 : m = 0 := by omega
          subst hm0
          go_wp2
          go_ret
          have := HZ.out k hk HM.out.symm
          exact ⟨by rw [this]; rfl, rfl⟩
      · have hkl : k = l := by omega
        subst hkl
        go_wp2
        go_ret
        exact ⟨by rw [← HM.out]; rfl, rfl⟩
end Go.Proofs.Ytmiffljcggfcgaa.Til
