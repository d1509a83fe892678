/- Contracts of the reference's Width, and of Levels, the program's and the reference's. -/
import Derived.Test.YtmiffljcggfcgaaTileW
import Derived.BigRegion
namespace Go.Proofs.Ytmiffljcggfcgaa.Til
open Go Go.RowKit Go.Proofs.Ytmiffljcggfcgaa.Cop
set_option linter.unusedVariables false
set_option linter.unusedSimpArgs false

theorem f1 : full 1 = 2 := rfl
theorem f2 : full 2 = 4 := rfl
theorem f3 : full 3 = 8 := rfl
theorem f4 : full 4 = 16 := rfl
theorem f5 : full 5 = 32 := rfl
theorem f6 : full 6 = 64 := rfl
theorem f7 : full 7 = 128 := rfl
theorem f8 : full 8 = 256 := rfl

set_option maxHeartbeats 2000000 in
set_option maxRecDepth 100000 in
theorem rwidth_yes (h : Int) (l i n : Nat) (w : World) (hl : l ≤ 9223372036854775807) (hi : i ≤ 9223372036854775807) (e0 : wdErr h l i n = 0) :
    Calls Try.prog 20 #[.int .i64 h, .int .i64 (l : Int), .int .i64 (i : Int), .int .i64 (n : Int)] w fun e w' => e = .returned (.tuple #[.int .i64 (tw h (over h l n) i : Int), .int .i64 0]) ∧ Below w.heap.size w w' := by
  obtain ⟨hh, hn0, hn, _, _⟩ := wdErr_zero e0
  have hov := rover_calls h l n w hh hl (by omega)
  have hle : over h l n ≤ 281474976710656 := Nat.le_trans (Nat.div_le_self _ _) (by omega)
  have hht := rheight_calls h w
  rw [hh] at hht
  have hful := full_calls h w hh
  generalize over h l n = a at hov hle ⊢
  have HO := Lib.hid hov
  have HF := Lib.hid hful
  have HT := Lib.hid hht
  have HH := Lib.hid hh
  clear hov hht hful hh e0
  by_cases c : a / 2 ^ h.toNat < i
  · rw [tw_small a i c]
    have d1 : decide ((a : Int) / ((2 ^ h.toNat : Nat) : Int) < (i : Int)) = true := decide_eq_true (by exact_mod_cast c)
    rcases ht_yes HH.out with rfl | rfl | rfl | rfl | rfl | rfl | rfl | rfl
    all_goals
      clear HH c
      simp only [k1, k2, k3, k4, k5, k6, k7, k8, Nat.reducePow, c1, c2, c3, c4, c5, c6, c7, c8] at d1
      simp only [f1, f2, f3, f4, f5, f6, f7, f8] at HF
      go_enter Try.func20, Try.ntmps20
      go_wp2_with fail
      refine HT.out.mono ?_
      rintro e w' ⟨rfl, rfl⟩
      go_wp2_with fail
      refine HO.out.mono ?_
      rintro e w' ⟨rfl, rfl⟩
      go_wp2_with fail
      refine HF.out.mono ?_
      rintro e w' ⟨rfl, rfl⟩
      go_wp2_with fail
    all_goals (try go_ret2)
    all_goals (try exact ⟨rfl, Below.refl _ _⟩)
  · obtain ⟨v, hv⟩ : ∃ v : Int, v = (tw h a i : Int) := ⟨_, rfl⟩
    rw [← hv]
    rw [tw_big a i c] at hv
    have d1 : decide ((a : Int) / ((2 ^ h.toNat : Nat) : Int) < (i : Int)) = false := decide_eq_false (by exact_mod_cast c)
    have d2 : (i : Int) * ((2 ^ h.toNat : Nat) : Int) ≤ a := by
      exact_mod_cast Nat.le_trans (Nat.mul_le_mul_right _ (by omega)) (Nat.div_mul_le_self a _)
    have HV := Lib.hid hv
    clear hv
    by_cases c' : ((2 ^ h.toNat : Nat) : Int) < (a : Int) - (i : Int) * ((2 ^ h.toNat : Nat) : Int)
    · have d3 := decide_eq_true c'
      rcases ht_yes HH.out with rfl | rfl | rfl | rfl | rfl | rfl | rfl | rfl
      all_goals
        clear HH c
        simp only [k1, k2, k3, k4, k5, k6, k7, k8, Nat.reducePow, c1, c2, c3, c4, c5, c6, c7, c8] at d1 d2 d3 c' HV
        simp only [f1, f2, f3, f4, f5, f6, f7, f8] at HF
        go_enter Try.func20, Try.ntmps20
        go_wp2_with fail
        refine HT.out.mono ?_
        rintro e w' ⟨rfl, rfl⟩
        go_wp2_with fail
        refine HO.out.mono ?_
        rintro e w' ⟨rfl, rfl⟩
        go_wp2_with fail
        refine HF.out.mono ?_
        rintro e w' ⟨rfl, rfl⟩
        go_wp2_with fail
        refine HF.out.mono ?_
        rintro e w' ⟨rfl, rfl⟩
        go_wp2_with fail
        refine HF.out.mono ?_
        rintro e w' ⟨rfl, rfl⟩
        go_wp2_with fail
        refine HF.out.mono ?_
        rintro e w' ⟨rfl, rfl⟩
        go_wp2_with fail
      all_goals (try go_ret2)
      all_goals
        have hv := HV.out
        exact ⟨congrArg (fun t : Int => Ending.returned (.tuple #[.int .i64 t, .int .i64 0])) (by omega), Below.refl _ _⟩
    · have d3 := decide_eq_false c'
      rcases ht_yes HH.out with rfl | rfl | rfl | rfl | rfl | rfl | rfl | rfl
      all_goals
        clear HH c
        simp only [k1, k2, k3, k4, k5, k6, k7, k8, Nat.reducePow, c1, c2, c3, c4, c5, c6, c7, c8] at d1 d2 d3 c' HV
        simp only [f1, f2, f3, f4, f5, f6, f7, f8] at HF
        go_enter Try.func20, Try.ntmps20
        go_wp2_with fail
        refine HT.out.mono ?_
        rintro e w' ⟨rfl, rfl⟩
        go_wp2_with fail
        refine HO.out.mono ?_
        rintro e w' ⟨rfl, rfl⟩
        go_wp2_with fail
        refine HF.out.mono ?_
        rintro e w' ⟨rfl, rfl⟩
        go_wp2_with fail
        refine HF.out.mono ?_
        rintro e w' ⟨rfl, rfl⟩
        go_wp2_with fail
        refine HF.out.mono ?_
        rintro e w' ⟨rfl, rfl⟩
        go_wp2_with fail
      all_goals (try go_ret2)
      all_goals
        have hv := HV.out
        exact ⟨congrArg (fun t : Int => Ending.returned (.tuple #[.int .i64 t, .int .i64 0])) (by omega), Below.refl _ _⟩

set_option maxRecDepth 100000 in
theorem rwidth_no (h l i n : Int) (w : World) (hl : -9223372036854775808 ≤ l ∧ l ≤ 9223372036854775807) (hi : -9223372036854775808 ≤ i ∧ i ≤ 9223372036854775807) (hn : -9223372036854775808 ≤ n ∧ n ≤ 9223372036854775807) (e0 : wdErr h l i n ≠ 0) :
    Calls Try.prog 20 #[.int .i64 h, .int .i64 l, .int .i64 i, .int .i64 n] w fun e w' => e = .returned (.tuple #[.int .i64 0, .int .i64 (wdErr h l i n)]) ∧ Below w.heap.size w w' := by
  have hht := rheight_calls h w
  unfold wdErr wr at e0 ⊢
  by_cases hh : ht h = true
  case neg =>
    have hh : ht h = false := by simpa using hh
    have er : (if l < 0 then (2 : Int) else if i < 0 then 2 else if ht h = true then (if n < 0 then 40 else if 281474976710656 < n then 40 else 0) else 2) = 2 := by
      rw [hh]; repeat' split
      all_goals simp_all
    rw [er]
    rw [hh] at hht
    have HT := Lib.hid hht
    clear hht er hh e0
    go_enter Try.func20, Try.ntmps20
    go_wp2_with fail
    refine HT.out.mono ?_
    rintro e w' ⟨rfl, rfl⟩
    go_wp2_with fail
    go_ret2
    exact ⟨rfl, Below.refl _ _⟩
  rw [hh] at hht
  simp only [hh] at e0 ⊢
  have HT := Lib.hid hht
  clear hht hh
  by_cases cl : l < 0
  · rw [if_pos cl]
    clear e0
    go_enter Try.func20, Try.ntmps20
    go_wp2_with fail
    refine HT.out.mono ?_
    rintro e w' ⟨rfl, rfl⟩
    go_wp2_with fail
    go_ret2
    exact ⟨rfl, Below.refl _ _⟩
  rw [if_neg cl] at e0 ⊢
  by_cases ci : i < 0
  · rw [if_pos ci]
    clear e0
    go_enter Try.func20, Try.ntmps20
    go_wp2_with fail
    refine HT.out.mono ?_
    rintro e w' ⟨rfl, rfl⟩
    go_wp2_with fail
    go_ret2
    exact ⟨rfl, Below.refl _ _⟩
  rw [if_neg ci] at e0 ⊢
  by_cases cn : n < 0
  · rw [if_pos trivial, if_pos cn]
    clear e0
    go_enter Try.func20, Try.ntmps20
    go_wp2_with fail
    refine HT.out.mono ?_
    rintro e w' ⟨rfl, rfl⟩
    go_wp2_with fail
    go_ret2
    exact ⟨rfl, Below.refl _ _⟩
  by_cases cm : 281474976710656 < n
  · rw [if_pos trivial, if_neg cn, if_pos cm]
    clear e0
    go_enter Try.func20, Try.ntmps20
    go_wp2_with fail
    refine HT.out.mono ?_
    rintro e w' ⟨rfl, rfl⟩
    go_wp2_with fail
    go_ret2
    exact ⟨rfl, Below.refl _ _⟩
  · rw [if_pos trivial, if_neg cn, if_neg cm] at e0
    exact absurd rfl e0

/-- The reference's width. -/
theorem rwidth_calls (h l i n : Int) (w : World) (hl : -9223372036854775808 ≤ l ∧ l ≤ 9223372036854775807) (hi : -9223372036854775808 ≤ i ∧ i ≤ 9223372036854775807) (hn : -9223372036854775808 ≤ n ∧ n ≤ 9223372036854775807) :
    Calls Try.prog 20 #[.int .i64 h, .int .i64 l, .int .i64 i, .int .i64 n] w fun e w' => e = .returned (.tuple #[.int .i64 (wid h l i n), .int .i64 (wdErr h l i n)]) ∧ Below w.heap.size w w' := by
  by_cases e0 : wdErr h l i n = 0
  · obtain ⟨_, _, _, _, _⟩ := wdErr_zero e0
    obtain ⟨l, rfl⟩ : ∃ k : Nat, l = (k : Int) := ⟨l.toNat, by omega⟩
    obtain ⟨i, rfl⟩ : ∃ k : Nat, i = (k : Int) := ⟨i.toNat, by omega⟩
    obtain ⟨n, rfl⟩ : ∃ k : Nat, n = (k : Int) := ⟨n.toNat, by omega⟩
    have := rwidth_yes h l i n w (by omega) (by omega) e0
    unfold wid
    rw [if_pos e0, e0]
    exact this
  · have := rwidth_no h l i n w hl hi hn e0
    unfold wid
    rw [if_neg e0]
    exact this
end Go.Proofs.Ytmiffljcggfcgaa.Til
