/- The way down a tree, plain: the greatest power of two below a number; how many steps. -/
import Derived.Lib.BitFns
import Derived.Lib.Hide
namespace Go.Proofs.YtnecgoahdkfbeaaDoor.Ver
open Go
set_option linter.unusedVariables false
theorem bitLen_spec : ∀ (x : Nat), 0 < x → x < 2 ^ 64 → 1 ≤ Lib.bitLen x ∧ 2 ^ (Lib.bitLen x - 1) ≤ x ∧ x < 2 ^ Lib.bitLen x := by
  intro x
  induction x using Nat.strongRecOn with
  | ind x ih =>
    intro h0 h1
    rw [Lib.bitLen_half x (by omega) h1]
    by_cases h : x = 1
    · subst h; decide
    · obtain ⟨q1, q2, q3⟩ := ih (x / 2) (by omega) (by omega) (by omega)
      refine ⟨by omega, ?_, ?_⟩
      · rw [show 1 + Lib.bitLen (x / 2) - 1 = (Lib.bitLen (x / 2) - 1) + 1 by omega, Nat.pow_succ]
        omega
      · rw [Nat.add_comm, Nat.pow_succ]
        omega
/-- The greatest power of two below n (above 1). -/
def H (n : Nat) : Nat := 2 ^ (Lib.bitLen (n - 1) - 1)
theorem H_spec (n : Nat) (h : 2 ≤ n) (h' : n ≤ 281474976710656) : 1 ≤ H n ∧ H n < n ∧ n ≤ 2 * H n := by
  obtain ⟨q1, q2, q3⟩ := bitLen_spec (n - 1) (by omega) (by omega)
  unfold H
  refine ⟨Nat.one_le_two_pow, by omega, ?_⟩
  have : 2 * 2 ^ (Lib.bitLen (n - 1) - 1) = 2 ^ Lib.bitLen (n - 1) := by
    rw [Nat.mul_comm, ← Nat.pow_succ, Nat.succ_eq_add_one, show Lib.bitLen (n - 1) - 1 + 1 = Lib.bitLen (n - 1) by omega]
  omega
theorem H_uniq (n j : Nat) (h : 2 ≤ n) (h' : n ≤ 281474976710656) (h1 : 2 ^ j < n) (h2 : n ≤ 2 * 2 ^ j) : 2 ^ j = H n := by
  obtain ⟨q1, q2, q3⟩ := H_spec n h h'
  unfold H at *
  rcases Nat.lt_trichotomy j (Lib.bitLen (n - 1) - 1) with c | c | c
  · have := Nat.pow_le_pow_right (show 0 < 2 by decide) (show j + 1 ≤ Lib.bitLen (n - 1) - 1 by omega)
    rw [Nat.pow_succ] at this
    omega
  · rw [c]
  · have := Nat.pow_le_pow_right (show 0 < 2 by decide) (show Lib.bitLen (n - 1) - 1 + 1 ≤ j by omega)
    rw [Nat.pow_succ] at this
    omega
theorem H_le (n k : Nat) (h : 2 ≤ n) (h' : n ≤ 281474976710656) (hk : n ≤ 2 ^ (k + 1)) : H n ≤ 2 ^ k := by
  obtain ⟨q1, q2, q3⟩ := H_spec n h h'
  unfold H at *
  rcases Nat.lt_or_ge k (Lib.bitLen (n - 1) - 1) with c | c
  · have := Nat.pow_le_pow_right (show 0 < 2 by decide) (show k + 1 ≤ Lib.bitLen (n - 1) - 1 by omega)
    omega
  · exact Nat.pow_le_pow_right (by decide) c
/-- The way down to a leaf: is it in the first half? -/
def wayG : Nat → Nat → Nat → List Bool
  | 0, _, _ => []
  | f + 1, i, n => if n ≤ 1 then [] else if i < H n then true :: wayG f i (H n) else false :: wayG f (i - H n) (n - H n)
def wayL (i n : Nat) : List Bool := wayG 49 i n
theorem wayG_len : ∀ (f i n : Nat), (wayG f i n).length ≤ f
  | 0, _, _ => by simp [wayG]
  | f + 1, i, n => by
    unfold wayG
    have h1 := wayG_len f i (H n)
    have h2 := wayG_len f (i - H n) (n - H n)
    split
    · simp
    · split <;> simp <;> omega
theorem wayG_fuel : ∀ (k f g i n : Nat), n ≤ 281474976710656 → n ≤ 2 ^ k → k ≤ f → k ≤ g → wayG f i n = wayG g i n
  | 0, f, g, i, n, hn, hk, hf, hg => by
    have h1 : n ≤ 1 := by simpa using hk
    cases f <;> cases g <;> simp [wayG, h1]
  | k + 1, 0, g, i, n, hn, hk, hf, hg => by omega
  | k + 1, f + 1, 0, i, n, hn, hk, hf, hg => by omega
  | k + 1, f + 1, g + 1, i, n, hn, hk, hf, hg => by
    unfold wayG
    by_cases h1 : n ≤ 1
    · simp [h1]
    · rw [if_neg h1, if_neg h1]
      obtain ⟨q1, q2, q3⟩ := H_spec n (by omega) hn
      have q4 := H_le n k (by omega) hn hk
      rw [wayG_fuel k f g i (H n) (by omega) q4 (by omega) (by omega), wayG_fuel k f g (i - H n) (n - H n) (by omega) (by omega) (by omega) (by omega)]
theorem wayL_one (i : Nat) : wayL i 1 = [] := by simp [wayL, wayG]
theorem wayL_step (i n : Nat) (h : 2 ≤ n) (h' : n ≤ 281474976710656) : wayL i n = if i < H n then true :: wayL i (H n) else false :: wayL (i - H n) (n - H n) := by
  obtain ⟨q1, q2, q3⟩ := H_spec n h h'
  have q4 := H_le n 47 h h' (by omega)
  unfold wayL
  rw [show (49 : Nat) = 48 + 1 from rfl, wayG, if_neg (by omega), wayG_fuel 47 48 49 i (H n) (by omega) q4 (by omega) (by omega), wayG_fuel 47 48 49 (i - H n) (n - H n) (by omega) (by omega) (by omega) (by omega)]
theorem wayL_len (i n : Nat) : (wayL i n).length ≤ 49 := wayG_len 49 i n
/-- The way down to the part that ends at m; whole: it begins at the leaf 0. -/
def stG : Nat → Nat → Nat → List Bool × Bool
  | 0, _, _ => ([], true)
  | f + 1, m, n => if m = n then ([], true) else if m ≤ H n then (true :: (stG f m (H n)).1, (stG f m (H n)).2) else (false :: (stG f (m - H n) (n - H n)).1, false)
def stL (m n : Nat) : List Bool × Bool := stG 49 m n
theorem stG_len : ∀ (f i n : Nat), (stG f i n).1.length ≤ f
  | 0, _, _ => by simp [stG]
  | f + 1, i, n => by
    unfold stG
    have h1 := stG_len f i (H n)
    have h2 := stG_len f (i - H n) (n - H n)
    split
    · simp
    · split <;> simp <;> omega
theorem stG_fuel : ∀ (k f g m n : Nat), n ≤ 281474976710656 → 1 ≤ m → m ≤ n → n ≤ 2 ^ k → k ≤ f → k ≤ g → stG f m n = stG g m n
  | 0, f, g, m, n, hn, hm, hmn, hk, hf, hg => by
    have h1 : m = n := by have : n ≤ 1 := by simpa using hk
                          omega
    cases f <;> cases g <;> simp [stG, h1]
  | k + 1, 0, g, m, n, hn, hm, hmn, hk, hf, hg => by omega
  | k + 1, f + 1, 0, m, n, hn, hm, hmn, hk, hf, hg => by omega
  | k + 1, f + 1, g + 1, m, n, hn, hm, hmn, hk, hf, hg => by
    unfold stG
    by_cases h1 : m = n
    · simp [h1]
    · rw [if_neg h1, if_neg h1]
      obtain ⟨q1, q2, q3⟩ := H_spec n (by omega) hn
      have q4 := H_le n k (by omega) hn hk
      by_cases h2 : m ≤ H n
      · rw [if_pos h2, if_pos h2, stG_fuel k f g m (H n) (by omega) hm h2 q4 (by omega) (by omega)]
      · rw [if_neg h2, if_neg h2, stG_fuel k f g (m - H n) (n - H n) (by omega) (by omega) (by omega) (by omega) (by omega) (by omega)]
theorem stL_one (n : Nat) : stL n n = ([], true) := by simp [stL, stG]
theorem stL_step (m n : Nat) (hm : 1 ≤ m) (h : m < n) (h' : n ≤ 281474976710656) : stL m n = if m ≤ H n then (true :: (stL m (H n)).1, (stL m (H n)).2) else (false :: (stL (m - H n) (n - H n)).1, false) := by
  obtain ⟨q1, q2, q3⟩ := H_spec n (by omega) h'
  have q4 := H_le n 47 (by omega) h' (by omega)
  unfold stL
  rw [show (49 : Nat) = 48 + 1 from rfl, stG, if_neg (by omega)]
  by_cases h2 : m ≤ H n
  · rw [if_pos h2, if_pos h2, stG_fuel 47 48 49 m (H n) (by omega) hm h2 q4 (by omega) (by omega)]
  · rw [if_neg h2, if_neg h2, stG_fuel 47 48 49 (m - H n) (n - H n) (by omega) (by omega) (by omega) (by omega) (by omega) (by omega)]
theorem stL_len (m n : Nat) : (stL m n).1.length ≤ 49 := stG_len 49 m n
end Go.Proofs.YtnecgoahdkfbeaaDoor.Ver
