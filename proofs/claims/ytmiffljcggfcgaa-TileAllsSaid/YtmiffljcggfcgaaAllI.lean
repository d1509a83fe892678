/- tile.All: the tiles in order (plain), and the iterator's contract. -/
import Derived.RangeFuncNested
import Derived.RangeFuncBound
import Derived.RangeFuncCalls
import Derived.RangeFuncLeaves
import Derived.Shelf.Abstract
import Derived.Shelf.RegionOpen
import Derived.WalkKit
import Derived.OwnWalkIn
import Derived.TacticsInMore
import Derived.LoopNIn
import Derived.LoopIn
import Derived.BigRegionIn
import Derived.Test.YtmiffljcggfcgaaTileU
import Derived.Test.YtmiffljcggfcgaaIn
import Derived.Test.YtmiffljcggfcgaaChunk
namespace Go.Proofs.Ytmiffljcggfcgaa.Til
open Go Go.RowKit Go.Shelf Go.Proofs.Ytmiffljcggfcgaa.Cop Go.Proofs.Ytmiffljcggfcgaa.Chk
set_option linter.unusedVariables false
set_option linter.unusedSimpArgs false
attribute [local go_sem] Oper.semAt_some
attribute [local go_sem] min2_int min_two

/-- How many tiles a level of a digests has. -/
def cnt (h : Int) (a : Nat) : Nat := (a + (2 ^ h.toNat - 1)) / 2 ^ h.toNat
theorem cnt_lt (h : Int) (a i : Nat) : i < cnt h a ↔ i * 2 ^ h.toNat < a := by
  have hp : 0 < 2 ^ h.toNat := Nat.pow_pos (by decide)
  unfold cnt
  rw [Nat.lt_div_iff_mul_lt hp]
  omega
/-- A level's tiles from the i-th on; all from a level on. -/
def atL (h : Int) (n L i : Nat) : List (Nat × Nat) := (List.range' i (cnt h (over h L n) - i)).map fun j => (L, j)
noncomputable def levL (h : Int) (n L : Nat) : List (Nat × Nat) := (List.range' L (lv h n - L)).flatMap fun M => atL h n M 0
theorem atL_step (h : Int) (n L i : Nat) (hi : i < cnt h (over h L n)) : atL h n L i = (L, i) :: atL h n L (i + 1) := by
  unfold atL
  rw [show cnt h (over h L n) - i = cnt h (over h L n) - (i + 1) + 1 from by omega, List.range'_succ, List.map_cons]
theorem atL_end (h : Int) (n L i : Nat) (hi : ¬ i < cnt h (over h L n)) : atL h n L i = [] := by
  unfold atL
  rw [show cnt h (over h L n) - i = 0 from by omega]; rfl
theorem levL_step (h : Int) (n L : Nat) (hL : L < lv h n) : levL h n L = atL h n L 0 ++ levL h n (L + 1) := by
  unfold levL
  rw [show lv h n - L = lv h n - (L + 1) + 1 from by omega, List.range'_succ, List.flatMap_cons]
theorem levL_end (h : Int) (n L : Nat) (hL : ¬ L < lv h n) : levL h n L = [] := by
  unfold levL
  rw [show lv h n - L = 0 from by omega]; rfl
/-- All tiles, where height and size are right. -/
noncomputable def allT (h n : Int) : List (Nat × Nat) := if wr h n = 0 then levL h n.toNat 0 else []
/-- A tile as a value. -/
def tileV (h : Int) (n : Nat) (x : Nat × Nat) : Value := .agg #[.int .i64 h, .int .i64 (x.1 : Int), .int .i64 (x.2 : Int), .int .i64 (tw h (over h x.1 n) x.2 : Int)]
theorem all_calls (h n : Int) (w : World) : Calls Try.prog 24 #[.int .i64 h, .int .i64 n] w fun e w' => e = .returned (.func (.func 57) #[] #[.pointer (some ⟨w.heap.size, 0, none⟩), .pointer (some ⟨w.heap.size + 1, 0, none⟩)]) ∧ w' = (w.alloc (.cells #[.int .i64 h] 3)).alloc (.cells #[.int .i64 n] 3) := by
  go_enter Try.func24, Try.ntmps24
  go_wp2_with fail
  go_ret
  exact ⟨rfl, rfl⟩
theorem lv_le (h : Int) (n : Nat) (hh : ht h = true) (hn : n ≤ 281474976710656) : lv h n ≤ 49 := by
  have key : ∀ m : Nat, (∃ k, k ≤ m ∧ over h k n = 0) → ∃ L, L ≤ m ∧ isLv h n L := by
    intro m
    induction m with
    | zero =>
      rintro ⟨k, hk, hz⟩
      have : k = 0 := by omega
      subst this
      exact ⟨0, Nat.le_refl _, hz, fun j hj => absurd hj (Nat.not_lt_zero j)⟩
    | succ m ih =>
      rintro ⟨k, hk, hz⟩
      by_cases hm : ∃ j, j ≤ m ∧ over h j n = 0
      · obtain ⟨L, h1, h2⟩ := ih hm
        exact ⟨L, by omega, h2⟩
      · have : k = m + 1 := by
          rcases Nat.lt_or_ge m k with h1 | h1
          · omega
          · exact absurd ⟨k, h1, hz⟩ hm
        subst this
        exact ⟨m + 1, Nat.le_refl _, hz, fun j hj => Nat.pos_of_ne_zero (fun e => hm ⟨j, by omega, e⟩)⟩
  obtain ⟨L, h1, h2⟩ := key 49 ⟨49, Nat.le_refl _, over_49 h 49 n hh hn (Nat.le_refl _)⟩
  rw [lv_eq h2]; exact h1

theorem cell_lt {w : World} {b o : Nat} {v : Value} (h : w.cell? ⟨b, o, none⟩ = some v) : b < w.heap.size := by
  rcases Nat.lt_or_ge b w.heap.size with h' | h'
  · exact h'
  · simp [World.cell?, Array.getElem?_eq_none h'] at h
theorem over_le (h : Int) (L n : Nat) : over h L n ≤ n := Nat.div_le_self _ _
theorem tw_min (h : Int) (a j : Nat) (hj : j * 2 ^ h.toNat < a) : tw h a j = min (a - j * 2 ^ h.toNat) (2 ^ h.toNat) := by
  unfold tw
  rw [if_neg]
  have hp : 0 < 2 ^ h.toNat := Nat.pow_pos (by decide)
  rw [Nat.div_lt_iff_lt_mul hp]
  omega

end Go.Proofs.Ytmiffljcggfcgaa.Til
