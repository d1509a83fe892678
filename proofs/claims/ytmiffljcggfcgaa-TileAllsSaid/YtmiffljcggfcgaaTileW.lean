/- Contracts of Width and Levels, the program's and the reference's: all numbers. -/
import Derived.Test.YtmiffljcggfcgaaTile
import Derived.BigRegion
namespace Go.Proofs.Ytmiffljcggfcgaa.Til
open Go Go.RowKit Go.Proofs.Ytmiffljcggfcgaa.Cop
set_option linter.unusedVariables false
set_option linter.unusedSimpArgs false

/-- What is wrong with a tile's place. -/
def wdErr (h l i n : Int) : Int := if l < 0 then 2 else if i < 0 then 2 else wr h n
/-- How many digests the i-th tile has, of a in all. -/
def tw (h : Int) (a i : Nat) : Nat := if a / 2 ^ h.toNat < i then 0 else min (a - i * 2 ^ h.toNat) (2 ^ h.toNat)
def wid (h l i n : Int) : Int := if wdErr h l i n = 0 then (tw h (over h l.toNat n.toNat) i.toNat : Int) else 0

theorem wr_zero {h n : Int} (e : wr h n = 0) : ht h = true ∧ 0 ≤ n ∧ n ≤ 281474976710656 := by
  unfold wr at e
  split at e
  · rename_i hh
    split at e; · omega
    split at e; · omega
    exact ⟨hh, by omega, by omega⟩
  · omega
theorem wdErr_zero {h l i n : Int} (e : wdErr h l i n = 0) : ht h = true ∧ 0 ≤ n ∧ n ≤ 281474976710656 ∧ 0 ≤ l ∧ 0 ≤ i := by
  unfold wdErr at e
  split at e; · omega
  split at e; · omega
  obtain ⟨a, b, c⟩ := wr_zero e
  exact ⟨a, b, c, by omega, by omega⟩

theorem tw_small {h : Int} (a i : Nat) (c : a / 2 ^ h.toNat < i) : tw h a i = 0 := by unfold tw; rw [if_pos c]

theorem tw_big {h : Int} (a i : Nat) (c : ¬ a / 2 ^ h.toNat < i) : (tw h a i : Int) = min ((a : Int) - i * (2 ^ h.toNat : Nat)) (2 ^ h.toNat : Nat) := by
  unfold tw; rw [if_neg c]
  have : i * 2 ^ h.toNat ≤ a := Nat.le_trans (Nat.mul_le_mul_right _ (by omega)) (Nat.div_mul_le_self a _)
  omega

theorem c1 : ((2 : Nat) : Int) = 2 := rfl
theorem c2 : ((4 : Nat) : Int) = 4 := rfl
theorem c3 : ((8 : Nat) : Int) = 8 := rfl
theorem c4 : ((16 : Nat) : Int) = 16 := rfl
theorem c5 : ((32 : Nat) : Int) = 32 := rfl
theorem c6 : ((64 : Nat) : Int) = 64 := rfl
theorem c7 : ((128 : Nat) : Int) = 128 := rfl
theorem c8 : ((256 : Nat) : Int) = 256 := rfl
theorem k1 : (1 : Int).toNat = 1 := rfl
theorem k2 : (2 : Int).toNat = 2 := rfl
theorem k3 : (3 : Int).toNat = 3 := rfl
theorem k4 : (4 : Int).toNat = 4 := rfl
theorem k5 : (5 : Int).toNat = 5 := rfl
theorem k6 : (6 : Int).toNat = 6 := rfl
theorem k7 : (7 : Int).toNat = 7 := rfl
theorem k8 : (8 : Int).toNat = 8 := rfl

theorem max2_int (k k' : IntKind) (x y : Int) : Builtin.max2 (.int k x) (.int k' y) = pure (.int k (if x < y then y else x)) := by simp only [Builtin.max2, gt_iff_lt]
theorem min2_int (k k' : IntKind) (x y : Int) : Builtin.min2 (.int k x) (.int k' y) = pure (.int k (if y < x then y else x)) := by simp only [Builtin.min2]
theorem max_two (ats : Array TypeId) (ty : TypeId) (a b : Value) : Builtin.max_ ats ty #[a, b] = (Builtin.max2 a b >>= fun s => pure s) := by simp only [Builtin.max_, List.foldlM_cons, List.foldlM_nil]
theorem min_two (ats : Array TypeId) (ty : TypeId) (a b : Value) : Builtin.min_ ats ty #[a, b] = (Builtin.min2 a b >>= fun s => pure s) := by simp only [Builtin.min_, List.foldlM_cons, List.foldlM_nil]
attribute [local go_sem] min2_int min_two

set_option maxRecDepth 100000 in
theorem width_yes (h : Int) (l i n : Nat) (w : World) (hl : l ≤ 9223372036854775807) (hi : i ≤ 9223372036854775807) (e0 : wdErr h l i n = 0) :
    Calls Try.prog 19 #[.int .i64 h, .int .i64 (l : Int), .int .i64 (i : Int), .int .i64 (n : Int)] w fun e w' => e = .returned (.tuple #[.int .i64 (tw h (over h l n) i : Int), .int .i64 0]) ∧ Below w.heap.size w w' := by
  obtain ⟨hh, hn0, hn, _, _⟩ := wdErr_zero e0
  have hw : wr h n = 0 := by unfold wdErr at e0; rw [if_neg (by omega), if_neg (by omega)] at e0; exact e0
  have hov := over_calls h l n w hh hl (by omega)
  have hle : over h l n ≤ 281474976710656 := Nat.le_trans (Nat.div_le_self _ _) (by omega)
  generalize over h l n = a at hov hle ⊢
  have HO := Lib.hid hov
  have HW := Lib.hid hw
  have HH := Lib.hid hh
  clear hov hw hh e0
  by_cases c : a / 2 ^ h.toNat < i
  · rw [tw_small a i c]
    have d1 : decide ((a : Int) / ((2 ^ h.toNat : Nat) : Int) < (i : Int)) = true := decide_eq_true (by exact_mod_cast c)
    rcases ht_yes HH.out with rfl | rfl | rfl | rfl | rfl | rfl | rfl | rfl
    all_goals
      clear HH c
      simp only [k1, k2, k3, k4, k5, k6, k7, k8, Nat.reducePow, c1, c2, c3, c4, c5, c6, c7, c8] at d1
      go_enter Try.func19, Try.ntmps19
      go_wp2_with fail
      refine (wrong_calls _ n w).mono ?_
      rintro e w' ⟨rfl, rfl⟩
      rw [HW.out]
      go_wp2_with fail
      refine HO.out.mono ?_
      rintro e w' ⟨rfl, rfl⟩
      go_wp2_with fail
    all_goals (try go_ret2)
    all_goals (try exact ⟨rfl, Below.refl _ _⟩)
  · obtain ⟨v, hv⟩ : ∃ v : Int, v = (tw h a i : Int) := ⟨_, rfl⟩
    rw [← hv]
    rw [tw_big a i c] at hv
    have d1 : decide ((a : Int) / ((2 ^ h.toNat : Nat) : Int) < (i : Int)) = false := decide_eq_false (by exact_mod_cast c)
    have d2 : (i : Int) * ((2 ^ h.toNat : Nat) : Int) ≤ a := by
      exact_mod_cast Nat.le_trans (Nat.mul_le_mul_right _ (by omega)) (Nat.div_mul_le_self a _)
    have HV := Lib.hid hv
    clear hv
    rcases ht_yes HH.out with rfl | rfl | rfl | rfl | rfl | rfl | rfl | rfl
    all_goals
      clear HH c
      simp only [k1, k2, k3, k4, k5, k6, k7, k8, Nat.reducePow, c1, c2, c3, c4, c5, c6, c7, c8] at d1 d2 HV
      go_enter Try.func19, Try.ntmps19
      go_wp2_with fail
      refine (wrong_calls _ n w).mono ?_
      rintro e w' ⟨rfl, rfl⟩
      rw [HW.out]
      go_wp2_with fail
      refine HO.out.mono ?_
      rintro e w' ⟨rfl, rfl⟩
      go_wp2_with (go_region)
    all_goals (try go_ret2)
    all_goals
      have hv := HV.out
      exact ⟨congrArg (fun t : Int => Ending.returned (.tuple #[.int .i64 t, .int .i64 0])) (by omega), (Below.refl _ _).drew⟩

theorem wr_no {h n : Int} (e : wr h n ≠ 0) : wr h n = 2 ∨ wr h n = 40 := by
  unfold wr at e ⊢
  repeat' split
  all_goals simp_all

set_option maxRecDepth 100000 in
theorem width_no (h l i n : Int) (w : World) (hl : -9223372036854775808 ≤ l ∧ l ≤ 9223372036854775807) (hi : -9223372036854775808 ≤ i ∧ i ≤ 9223372036854775807) (hn : -9223372036854775808 ≤ n ∧ n ≤ 9223372036854775807) (e0 : wdErr h l i n ≠ 0) :
    Calls Try.prog 19 #[.int .i64 h, .int .i64 l, .int .i64 i, .int .i64 n] w fun e w' => e = .returned (.tuple #[.int .i64 0, .int .i64 (wdErr h l i n)]) ∧ Below w.heap.size w w' := by
  unfold wdErr at e0 ⊢
  by_cases cl : l < 0
  · rw [if_pos cl]
    clear e0
    go_enter Try.func19, Try.ntmps19
    go_wp2_with fail
    go_ret2
    exact ⟨rfl, Below.refl _ _⟩
  rw [if_neg cl] at e0 ⊢
  by_cases ci : i < 0
  · rw [if_pos ci]
    clear e0
    go_enter Try.func19, Try.ntmps19
    go_wp2_with fail
    go_ret2
    exact ⟨rfl, Below.refl _ _⟩
  rw [if_neg ci] at e0 ⊢
  have hc := wrong_calls h n w
  rcases wr_no e0 with hw | hw
  all_goals
    rw [hw] at hc ⊢
    have HC := Lib.hid hc
    clear hc hw e0
    go_enter Try.func19, Try.ntmps19
    go_wp2_with fail
    refine HC.out.mono ?_
    rintro e w' ⟨rfl, rfl⟩
    go_wp2_with fail
    go_ret2
    exact ⟨rfl, Below.refl _ _⟩

/-- The program's width. -/
theorem width_calls (h l i n : Int) (w : World) (hl : -9223372036854775808 ≤ l ∧ l ≤ 9223372036854775807) (hi : -9223372036854775808 ≤ i ∧ i ≤ 9223372036854775807) (hn : -9223372036854775808 ≤ n ∧ n ≤ 9223372036854775807) :
    Calls Try.prog 19 #[.int .i64 h, .int .i64 l, .int .i64 i, .int .i64 n] w fun e w' => e = .returned (.tuple #[.int .i64 (wid h l i n), .int .i64 (wdErr h l i n)]) ∧ Below w.heap.size w w' := by
  by_cases e0 : wdErr h l i n = 0
  · obtain ⟨_, _, _, _, _⟩ := wdErr_zero e0
    obtain ⟨l, rfl⟩ : ∃ k : Nat, l = (k : Int) := ⟨l.toNat, by omega⟩
    obtain ⟨i, rfl⟩ : ∃ k : Nat, i = (k : Int) := ⟨i.toNat, by omega⟩
    obtain ⟨n, rfl⟩ : ∃ k : Nat, n = (k : Int) := ⟨n.toNat, by omega⟩
    have := width_yes h l i n w (by omega) (by omega) e0
    unfold wid
    rw [if_pos e0, e0]
    exact this
  · have := width_no h l i n w hl hi hn e0
    unfold wid
    rw [if_neg e0]
    exact this
end Go.Proofs.Ytmiffljcggfcgaa.Til
