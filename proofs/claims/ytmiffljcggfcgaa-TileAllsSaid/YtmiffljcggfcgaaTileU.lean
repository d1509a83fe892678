/- Contracts of Levels, the program's and the reference's. -/
import Derived.Test.YtmiffljcggfcgaaTileW
namespace Go.Proofs.Ytmiffljcggfcgaa.Til
open Go Go.RowKit Go.Proofs.Ytmiffljcggfcgaa.Cop
set_option linter.unusedVariables false
set_option linter.unusedSimpArgs false

/-- How many levels: the first that is empty. -/
def isLv (h : Int) (n L : Nat) : Prop := over h L n = 0 ∧ ∀ k, k < L → 0 < over h k n
noncomputable def lv (h : Int) (n : Nat) : Nat := Classical.epsilon (isLv h n)
theorem isLv_one {h : Int} {n L M : Nat} (a : isLv h n L) (b : isLv h n M) : L = M := by
  rcases Nat.lt_trichotomy L M with hlt | he | hlt
  · have := b.2 L hlt; have := a.1; omega
  · exact he
  · have := a.2 M hlt; have := b.1; omega
theorem lv_eq {h : Int} {n L : Nat} (a : isLv h n L) : lv h n = L := isLv_one (Classical.epsilon_spec ⟨L, a⟩) a
theorem over_succ (h : Int) (k n : Nat) : over h k n / 2 ^ h.toNat = over h (k + 1) n := by
  unfold over
  rw [Nat.div_div_eq_div_mul, ← Nat.pow_add, Nat.mul_succ]
theorem over_0 (h : Int) (n : Nat) : over h 0 n = n := by unfold over; simp

theorem wr_ok {h n : Int} (e : ht h = true) (a : 0 ≤ n) (b : n ≤ 281474976710656) : wr h n = 0 := by
  unfold wr; rw [if_pos e, if_neg (by omega), if_neg (by omega)]

set_option maxHeartbeats 2000000 in
set_option maxRecDepth 100000 in
theorem levels_yes (h : Int) (n : Nat) (w : World) (hh : ht h = true) (hn : n ≤ 281474976710656) :
    Calls Try.prog 21 #[.int .i64 h, .int .i64 (n : Int)] w fun e w' => e = .returned (.tuple #[.int .i64 (lv h n : Int), .int .i64 0]) ∧ Below w.heap.size w w' := by
  have hw := wrong_calls h n w
  rw [wr_ok hh (by omega) (by omega)] at hw
  have hs := fun k => over_succ h k n
  have h0 := over_0 h n
  have hz := fun L => @lv_eq h n L
  unfold isLv at hz
  obtain ⟨ov, hov⟩ : ∃ ov : Nat → Nat, ∀ k, over h k n = ov k := ⟨_, fun _ => rfl⟩
  obtain ⟨r, hr⟩ : ∃ r : Nat, lv h n = r := ⟨_, rfl⟩
  simp only [hov, hr] at hs h0 hz ⊢
  have HS := Lib.hid hs
  have H0 := Lib.hid h0
  have HZ := Lib.hid hz
  have HW := Lib.hid hw
  have HH := Lib.hid hh
  clear hs h0 hz hov hr hw hh
  rcases ht_yes HH.out with rfl | rfl | rfl | rfl | rfl | rfl | rfl | rfl <;> clear HH
  all_goals
    go_enter Try.func21, Try.ntmps21
    go_wp2_with fail
    refine HW.out.mono ?_
    rintro e w' ⟨rfl, rfl⟩
    go_wp2_with fail
    go_loop [1, 7] (fun u i => ∃ k m : Nat, u = .int .i64 (m : Int) ∧ i = .int .i64 (k : Int) ∧ m + k ≤ 281474976710656 ∧ Hid (m = ov k ∧ ∀ j, j < k → 0 < ov j)) (fun u _ => (intOf u).toNat)
    case atStart => exact ⟨0, n, rfl, rfl, by omega, Lib.hid ⟨H0.out.symm, fun j hj => absurd hj (Nat.not_lt_zero j)⟩⟩
    case round =>
      obtain ⟨k, m, rfl, rfl, hkm, HI⟩ := hrel
      have hd := HS.out k
      rw [← HI.out.1] at hd
      have HD := Lib.hid hd
      clear hd
      by_cases hpos : 0 < m
      · have d2 : decide ((0 : Int) < (m : Int)) = true := decide_eq_true (by omega)
        go_wp2
        go_round
        case rel =>
          refine ⟨k + 1, _, ?_, by go_num, ?_, Lib.hid ⟨HD.out, fun j hj => ?_⟩⟩
          · simp only [k1, k2, k3, k4, k5, k6, k7, k8, Nat.reducePow]; congr 1
          · simp only [k1, k2, k3, k4, k5, k6, k7, k8, Nat.reducePow]; omega
          · rcases Nat.lt_or_ge j k with hlt | hge
            · exact HI.out.2 j hlt
            · have : j = k := by omega
              subst this
              rw [← HI.out.1]; exact hpos
        case measure => simp [intOf]; omega
      · have d2 : decide ((0 : Int) < (m : Int)) = false := decide_eq_false (by omega)
        go_wp2
        go_ret2
        have e : r = k := HZ.out k ⟨by rw [← HI.out.1]; omega, HI.out.2⟩
        exact ⟨by rw [e]; rfl, Below.refl _ _⟩

theorem wr_no' {h n : Int} (e : wr h n ≠ 0) : wr h n = 2 ∨ wr h n = 40 := wr_no e
noncomputable def lvo (h n : Int) : Int := if wr h n = 0 then (lv h n.toNat : Int) else 0

set_option maxRecDepth 100000 in
/-- The program's Levels. -/
theorem levels_calls (h n : Int) (w : World) (hn : -9223372036854775808 ≤ n ∧ n ≤ 9223372036854775807) :
    Calls Try.prog 21 #[.int .i64 h, .int .i64 n] w fun e w' => e = .returned (.tuple #[.int .i64 (lvo h n), .int .i64 (wr h n)]) ∧ Below w.heap.size w w' := by
  by_cases e0 : wr h n = 0
  · obtain ⟨hh, _, _⟩ := wr_zero e0
    obtain ⟨n, rfl⟩ : ∃ k : Nat, n = (k : Int) := ⟨n.toNat, by omega⟩
    have := levels_yes h n w hh (by omega)
    unfold lvo
    rw [if_pos e0, e0]
    exact this
  · unfold lvo
    rw [if_neg e0]
    have hc := wrong_calls h n w
    rcases wr_no e0 with hw | hw
    all_goals
      rw [hw] at hc ⊢
      have HC := Lib.hid hc
      clear hc hw e0
      go_enter Try.func21, Try.ntmps21
      go_wp2_with fail
      refine HC.out.mono ?_
      rintro e w' ⟨rfl, rfl⟩
      go_wp2_with fail
      go_ret2
      exact ⟨rfl, Below.refl _ _⟩

theorem over_49 (h : Int) (k n : Nat) (hh : ht h = true) (hn : n ≤ 281474976710656) (hk : 49 ≤ k) : over h k n = 0 := by
  refine over_zero h k n hn ?_
  have : 1 ≤ h.toNat := by rcases ht_yes hh with rfl | rfl | rfl | rfl | rfl | rfl | rfl | rfl <;> decide
  have := Nat.mul_le_mul_right k this
  omega

set_option maxRecDepth 100000 in
theorem rlevels_yes (h : Int) (n : Nat) (w : World) (hh : ht h = true) (hn : n ≤ 281474976710656) :
    Calls Try.prog 22 #[.int .i64 h, .int .i64 (n : Int)] w fun e w' => e = .returned (.tuple #[.int .i64 (lv h n : Int), .int .i64 0]) ∧ Below w.heap.size w w' := by
  have hw := rheight_calls h w
  rw [hh] at hw
  have hz := fun L => @lv_eq h n L
  unfold isLv at hz
  have hov := fun k hk => rover_calls h k n w hh hk hn
  have h49 := fun k => over_49 h k n hh hn
  obtain ⟨ov, hov'⟩ : ∃ ov : Nat → Nat, ∀ k, over h k n = ov k := ⟨_, fun _ => rfl⟩
  obtain ⟨r, hr⟩ : ∃ r : Nat, lv h n = r := ⟨_, rfl⟩
  simp only [hov', hr] at hz hov h49 ⊢
  have HZ := Lib.hid hz
  have HW := Lib.hid hw
  have HO := Lib.hid hov
  have H4 := Lib.hid h49
  clear hz hov' hov hr hw hh h49
  go_enter Try.func22, Try.ntmps22
  go_wp2_with fail
  refine HW.out.mono ?_
  rintro e w' ⟨rfl, rfl⟩
  go_wp2_with fail
  go_loop [6] (fun i => ∃ k : Nat, i = .int .i64 (k : Int) ∧ k ≤ 49 ∧ Hid (∀ j, j < k → 0 < ov j)) (fun i => 49 - (intOf i).toNat)
  case atStart => exact ⟨0, rfl, by omega, Lib.hid fun j hj => absurd hj (Nat.not_lt_zero j)⟩
  case round =>
    obtain ⟨k, rfl, hk, HI⟩ := hrel
    have hc := HO.out k (by omega)
    obtain ⟨m, hm⟩ : ∃ m, m = ov k := ⟨_, rfl⟩
    rw [← hm] at hc
    have HM := Lib.hid hm
    have HC := Lib.hid hc
    clear hm hc
    by_cases hpos : 0 < m
    · have d2 : decide ((0 : Int) < (m : Int)) = true := decide_eq_true (by omega)
      have hk' : k < 49 := by
        rcases Nat.lt_or_ge k 49 with hlt | hge
        · exact hlt
        · have := H4.out k hge
          rw [← HM.out] at this; omega
      go_wp2_with fail
      refine HC.out.mono ?_
      rintro e w' ⟨rfl, rfl⟩
      go_wp2_with fail
      go_round
      case rel =>
        refine ⟨k + 1, by go_num, by omega, Lib.hid fun j hj => ?_⟩
        rcases Nat.lt_or_ge j k with hlt | hge
        · exact HI.out j hlt
        · have : j = k := by omega
          subst this
          rw [← HM.out]; exact hpos
      case measure => simp [intOf]; omega
    · have d2 : decide ((0 : Int) < (m : Int)) = false := decide_eq_false (by omega)
      go_wp2_with fail
      refine HC.out.mono ?_
      rintro e w' ⟨rfl, rfl⟩
      go_wp2_with fail
      go_ret2
      have e : r = k := HZ.out k ⟨by rw [← HM.out]; omega, HI.out⟩
      exact ⟨by rw [e]; rfl, Below.refl _ _⟩

set_option maxRecDepth 100000 in
/-- The reference's Levels. -/
theorem rlevels_calls (h n : Int) (w : World) (hn : -9223372036854775808 ≤ n ∧ n ≤ 9223372036854775807) :
    Calls Try.prog 22 #[.int .i64 h, .int .i64 n] w fun e w' => e = .returned (.tuple #[.int .i64 (lvo h n), .int .i64 (wr h n)]) ∧ Below w.heap.size w w' := by
  by_cases e0 : wr h n = 0
  · obtain ⟨hh, _, _⟩ := wr_zero e0
    obtain ⟨n, rfl⟩ : ∃ k : Nat, n = (k : Int) := ⟨n.toNat, by omega⟩
    have := rlevels_yes h n w hh (by omega)
    unfold lvo
    rw [if_pos e0, e0]
    exact this
  · unfold lvo
    rw [if_neg e0]
    unfold wr at e0 ⊢
    have hht := rheight_calls h w
    by_cases hh : ht h = true
    case neg =>
      rw [if_neg hh]
      have hh : ht h = false := by simpa using hh
      rw [hh] at hht
      have HT := Lib.hid hht
      clear hht hh e0
      go_enter Try.func22, Try.ntmps22
      go_wp2_with fail
      refine HT.out.mono ?_
      rintro e w' ⟨rfl, rfl⟩
      go_wp2_with fail
      go_ret2
      exact ⟨rfl, Below.refl _ _⟩
    rw [if_pos hh] at e0 ⊢
    rw [hh] at hht
    have HT := Lib.hid hht
    clear hht hh
    by_cases cn : n < 0
    · rw [if_pos cn]
      clear e0
      go_enter Try.func22, Try.ntmps22
      go_wp2_with fail
      refine HT.out.mono ?_
      rintro e w' ⟨rfl, rfl⟩
      go_wp2_with fail
      go_ret2
      exact ⟨rfl, Below.refl _ _⟩
    by_cases cm : 281474976710656 < n
    · rw [if_neg cn, if_pos cm]
      clear e0
      go_enter Try.func22, Try.ntmps22
      go_wp2_with fail
      refine HT.out.mono ?_
      rintro e w' ⟨rfl, rfl⟩
      go_wp2_with fail
      go_ret2
      exact ⟨rfl, Below.refl _ _⟩
    · rw [if_neg cn, if_neg cm] at e0
      exact absurd rfl e0
end Go.Proofs.Ytmiffljcggfcgaa.Til
