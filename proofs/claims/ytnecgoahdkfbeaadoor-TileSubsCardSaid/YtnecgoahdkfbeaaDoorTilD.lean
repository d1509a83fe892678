/- The numbers behind a node in a tile: valid nodes, valid tiles, the tile of a node; shifts. -/
import Derived.Test.YtnecgoahdkfbeaaDoorEng
namespace Go.Proofs.YtnecgoahdkfbeaaDoor.Tid
open Go Go.Op
set_option linter.unusedVariables false
set_option linter.unusedSimpArgs false
theorem pow_min {b : Nat} (h : b ≤ 63) : min b IntKind.i64.bits = b := by show min b 64 = b; omega
theorem two_i (n : Nat) : (2 : Int) ^ n = ((2 ^ n : Nat) : Int) := by push_cast; rfl
theorem fdiv_nat (a b : Nat) : (a : Int).fdiv (b : Int) = ((a / b : Nat) : Int) := by
  rw [Int.fdiv_eq_ediv_of_nonneg _ (by omega)]; rfl
/-- 2^48 shifted to the right. -/
theorem shr48 {b : Int} (h0 : 0 ≤ b) (h : b ≤ 48) : (281474976710656 : Int).fdiv (2 ^ (min b.toNat IntKind.i64.bits)) = ((2 ^ (48 - b.toNat) : Nat) : Int) := by
  rw [pow_min (by omega), two_i, show (281474976710656 : Int) = ((2 ^ 48 : Nat) : Int) from rfl, fdiv_nat, Nat.pow_div (by omega) (by omega)]
theorem shl_eq {a b : Int} {x y : Nat} (ha : a = (x : Int)) (hb : b = (y : Int)) (hy : y ≤ 63) (hs : x * 2 ^ y ≤ 9223372036854775807) : IntKind.i64.wrap (a * 2 ^ (min b.toNat IntKind.i64.bits)) = ((x * 2 ^ y : Nat) : Int) := by
  subst ha hb
  rw [Int.toNat_natCast, pow_min hy, two_i, ← Int.natCast_mul]
  generalize x * 2 ^ y = z at hs ⊢
  exact Eng.w64 (by omega)
theorem shr_eq {a b : Int} {x y : Nat} (ha : a = (x : Int)) (hb : b = (y : Int)) (hy : y ≤ 63) : a.fdiv (2 ^ (min b.toNat IntKind.i64.bits)) = ((x / 2 ^ y : Nat) : Int) := by
  subst ha hb
  rw [Int.toNat_natCast, pow_min hy, two_i, fdiv_nat]
/-- The last bits. -/
theorem and_eq {k : Nat} (x : Nat) (hk : k ≤ 62) (hx : x < 9223372036854775808) (w : World) (P : Program) {b : Int} (hb : b = ((2 ^ k : Nat) : Int) - 1) : (Op.intBits .and .i64 (x : Int) b).run P w = .ok (.int .i64 ((x % 2 ^ k : Nat) : Int)) w := by
  have hp : 1 ≤ 2 ^ k := Nat.one_le_two_pow
  have hp2 : 2 ^ k ≤ 2 ^ 62 := Nat.pow_le_pow_right (by omega) hk
  have e : b = ((2 ^ k - 1 : Nat) : Int) := by omega
  rw [e]
  have hz : (BitVec.ofInt 64 (x : Int) &&& BitVec.ofInt 64 ((2 ^ k - 1 : Nat) : Int)).toNat = x % 2 ^ k := by
    rw [BitVec.toNat_and, BitVec.ofInt_natCast, BitVec.ofInt_natCast, BitVec.toNat_ofNat, BitVec.toNat_ofNat, Nat.mod_eq_of_lt (by omega), Nat.mod_eq_of_lt (by omega), Nat.and_two_pow_sub_one_eq_mod]
  show Result.ok (Value.int .i64 (IntKind.i64.wrap ((BitVec.ofInt 64 (x : Int) &&& BitVec.ofInt 64 ((2 ^ k - 1 : Nat) : Int)).toNat : Int))) w = _
  have hm : x % 2 ^ k ≤ x := Nat.mod_le _ _
  rw [hz, Eng.w64 (r := ((x % 2 ^ k : Nat) : Int)) (by omega)]
def ht (h : Int) : Bool := decide (1 ≤ h ∧ h ≤ 8)
theorem ht_yes {h : Int} (e : ht h = true) : 1 ≤ h ∧ h ≤ 8 := of_decide_eq_true e
theorem ht_nat {h : Int} (e : ht h = true) : ∃ n : Nat, h = (n : Int) ∧ 1 ≤ n ∧ n ≤ 8 := by
  have := ht_yes e; exact ⟨h.toNat, by omega, by omega, by omega⟩
def nv (l i : Int) : Bool := decide (0 ≤ l ∧ l ≤ 48 ∧ 0 ≤ i ∧ i < ((2 ^ (48 - l.toNat) : Nat) : Int))
theorem nv_yes {l i : Int} (h : nv l i = true) : 0 ≤ l ∧ l ≤ 48 ∧ 0 ≤ i ∧ i < ((2 ^ (48 - l.toNat) : Nat) : Int) := of_decide_eq_true h
theorem nv_nat {l i : Int} (h : nv l i = true) : ∃ a b : Nat, l = (a : Int) ∧ i = (b : Int) ∧ a ≤ 48 ∧ b < 2 ^ (48 - a) := by
  obtain ⟨h1, h2, h3, h4⟩ := nv_yes h
  obtain ⟨a, rfl⟩ := Int.eq_ofNat_of_zero_le h1
  obtain ⟨b, rfl⟩ := Int.eq_ofNat_of_zero_le h3
  exact ⟨a, b, rfl, rfl, by omega, by simp only [Int.toNat_natCast] at h4; exact_mod_cast h4⟩
/-- The bound of what is shifted. -/
theorem sh_lt {a b h : Nat} (hh : 1 ≤ h) (ha : a ≤ 48) (hb : b < 2 ^ (48 - a)) : b * 2 ^ (a % h) < 2 ^ 48 := by
  have h1 : a % h ≤ a := Nat.mod_le _ _
  calc b * 2 ^ (a % h) < 2 ^ (48 - a) * 2 ^ (a % h) := Nat.mul_lt_mul_of_pos_right hb (Nat.two_pow_pos _)
    _ = 2 ^ (48 - a + a % h) := by rw [Nat.pow_add]
    _ ≤ 2 ^ 48 := Nat.pow_le_pow_right (by omega) (by omega)
theorem pow8 {h : Nat} (hh : h ≤ 8) : 2 ^ h ≤ 256 := Nat.pow_le_pow_right (n := 2) (by omega) hh
theorem tmod_nat (a b : Nat) : (a : Int).tmod (b : Int) = ((a % b : Nat) : Int) := rfl
theorem tdiv_nat (a b : Nat) : (a : Int).tdiv (b : Int) = ((a / b : Nat) : Int) := rfl
theorem nv_lt {l i : Int} (h : nv l i = true) : i < 281474976710656 := by
  obtain ⟨h1, h2, h3, h4⟩ := nv_yes h
  have : 2 ^ (48 - l.toNat) ≤ 2 ^ 48 := Nat.pow_le_pow_right (by omega) (by omega)
  omega
/-- Valid tiles. -/
def tv (h l i w : Int) : Bool := decide (ht h = true ∧ 0 ≤ l ∧ 0 ≤ i ∧ 1 ≤ w ∧ w ≤ ((2 ^ h.toNat : Nat) : Int) ∧ nv (l * h) (i * ((2 ^ h.toNat : Nat) : Int) + w - 1) = true)
theorem tv_yes {h l i w : Int} (e : tv h l i w = true) : ht h = true ∧ 0 ≤ l ∧ 0 ≤ i ∧ 1 ≤ w ∧ w ≤ ((2 ^ h.toNat : Nat) : Int) ∧ nv (l * h) (i * ((2 ^ h.toNat : Nat) : Int) + w - 1) = true := of_decide_eq_true e
theorem h8 {h : Int} (e : ht h = true) : h = 1 ∨ h = 2 ∨ h = 3 ∨ h = 4 ∨ h = 5 ∨ h = 6 ∨ h = 7 ∨ h = 8 := by have := ht_yes e; omega
theorem quo48 {h : Int} (e : ht h = true) : IntKind.i64.wrap ((48 : Int).tdiv h) = 48 / h := by
  rcases h8 e with rfl | rfl | rfl | rfl | rfl | rfl | rfl | rfl <;> rfl
theorem lh {h l : Int} (e : ht h = true) : 48 / h < l ↔ 48 < l * h := by
  rcases h8 e with rfl | rfl | rfl | rfl | rfl | rfl | rfl | rfl <;> omega
theorem lh0 {h l : Int} (e : ht h = true) (h0 : 0 ≤ l) (h1 : l ≤ 48) : 0 ≤ l * h ∧ l * h ≤ 384 := by
  rcases h8 e with rfl | rfl | rfl | rfl | rfl | rfl | rfl | rfl <;> omega
theorem pwb {h : Int} (e : ht h = true) : 2 ≤ 2 ^ h.toNat ∧ 2 ^ h.toNat ≤ 256 := by
  rcases h8 e with rfl | rfl | rfl | rfl | rfl | rfl | rfl | rfl <;> decide
theorem ip {h i : Int} (e : ht h = true) (h0 : 0 ≤ i) : i ≤ i * ((2 ^ h.toNat : Nat) : Int) := by
  have := (pwb e).1
  calc i = i * 1 := by omega
    _ ≤ _ := Int.mul_le_mul_of_nonneg_left (by omega) h0
theorem ip2 {h i : Int} (e : ht h = true) (h0 : 0 ≤ i) (h1 : i ≤ 281474976710656) : i * ((2 ^ h.toNat : Nat) : Int) ≤ 72057594037927936 := by
  have := (pwb e).2
  calc i * ((2 ^ h.toNat : Nat) : Int) ≤ i * 256 := Int.mul_le_mul_of_nonneg_left (by omega) h0
    _ ≤ _ := by omega
theorem shlP {h i : Int} (e : ht h = true) (h0 : 0 ≤ i) (h1 : i ≤ 281474976710656) : IntKind.i64.wrap (i * 2 ^ (min h.toNat IntKind.i64.bits)) = i * ((2 ^ h.toNat : Nat) : Int) := by
  have h2 := ip2 e h0 h1
  have h3 := ip e h0
  rw [pow_min (by have := ht_yes e; omega), two_i]
  exact Eng.w64 (by omega)
theorem one_shl {h : Int} (e : ht h = true) : IntKind.i64.wrap (1 * 2 ^ (min h.toNat IntKind.i64.bits)) = ((2 ^ h.toNat : Nat) : Int) := by
  have := pwb e
  rw [pow_min (by have := ht_yes e; omega), two_i, Int.one_mul]
  exact Eng.w64 (by omega)
theorem tvF {h l i w : Int} (c : ht h = false ∨ l < 0 ∨ (ht h = true ∧ 48 < l * h) ∨ i < 0 ∨ (ht h = true ∧ 281474976710656 < i) ∨ w < 1 ∨ ((2 ^ h.toNat : Nat) : Int) < w ∨ (ht h = true ∧ 0 ≤ i ∧ ((2 ^ (48 - h.toNat) : Nat) : Int) < i)) : tv h l i w = false := by
  rw [← Bool.not_eq_true]
  intro e
  obtain ⟨h1, h2, h3, h4, h5, h6⟩ := tv_yes e
  have n1 := nv_lt h6
  obtain ⟨n2, n3, n4, n5⟩ := nv_yes h6
  have hp := ip h1 h3
  rcases c with c | c | ⟨c0, c⟩ | c | ⟨c0, c⟩ | c | c | ⟨c0, c1, c⟩
  · rw [h1] at c; cases c
  · omega
  · omega
  · omega
  · omega
  · omega
  · omega
  · have hm : ((2 ^ (48 - h.toNat) : Nat) : Int) * ((2 ^ h.toNat : Nat) : Int) ≤ i * ((2 ^ h.toNat : Nat) : Int) := Int.mul_le_mul_of_nonneg_right (by omega) (by omega)
    rw [← Int.natCast_mul, ← Nat.pow_add, show 48 - h.toNat + h.toNat = 48 from by have := ht_yes h1; omega] at hm
    omega
theorem tvT {h l i w : Int} (h1 : ht h = true) (h2 : 0 ≤ l) (h3 : 0 ≤ i) (h4 : 1 ≤ w) (h5 : w ≤ ((2 ^ h.toNat : Nat) : Int)) : nv (l * h) (i * ((2 ^ h.toNat : Nat) : Int) + w - 1) = tv h l i w := by
  cases e : nv (l * h) (i * ((2 ^ h.toNat : Nat) : Int) + w - 1) with
  | true => exact (decide_eq_true ⟨h1, h2, h3, h4, h5, e⟩).symm
  | false => exact (decide_eq_false (fun c => by rw [e] at c; exact absurd c.2.2.2.2.2 (by decide))).symm
/-- Where a node's digests lie: the first, one behind the last. -/
def oS (n a b : Nat) : Nat := b * 2 ^ (a % n)
def oF (n a b : Nat) : Nat := oS n a b % 2 ^ n
def oT (n a b : Nat) : Nat := oF n a b + 2 ^ (a % n)
theorem o_bounds {n a b : Nat} (h1 : 1 ≤ n) (h8 : n ≤ 8) (ha : a ≤ 48) (hb : b < 2 ^ (48 - a)) : oS n a b < 281474976710656 ∧ oF n a b < 2 ^ n ∧ 2 ^ n ≤ 256 ∧ 1 ≤ 2 ^ n ∧ a % n ≤ 7 ∧ 2 ^ (a % n) ≤ 128 ∧ 1 ≤ 2 ^ (a % n) ∧ a / n ≤ 48 ∧ oS n a b / 2 ^ n ≤ oS n a b := by
  have hm : a % n < n := Nat.mod_lt _ (by omega)
  refine ⟨sh_lt h1 ha hb, Nat.mod_lt _ (Nat.two_pow_pos _), pow8 h8, Nat.one_le_two_pow, by omega, ?_, Nat.one_le_two_pow, Nat.le_trans (Nat.div_le_self _ _) ha, Nat.div_le_self _ _⟩
  exact Nat.le_trans (Nat.pow_le_pow_right (n := 2) (by omega) (show a % n ≤ 7 by omega)) (by decide)
end Go.Proofs.YtnecgoahdkfbeaaDoor.Tid
