/- The pure statement of TileOf, over numbers alone: the tile of the program is the tile of the reference, for every height and node. -/
import Derived.Test.YtmiffljcggfcgaaPTileOfx
namespace Go.Proofs.Ytmiffljcggfcgaa.PTileOf
open Go.RowKit Go.Proofs.YtmiffljcggfcgaaW.PrintWords Go.Proofs.YtmiffljcggfcgaaW.PrintMore

theorem wraps_i64p (n : Int) (h₀ : 0 ≤ n) (h₁ : n < 2 ^ 63) : IntKind.i64.wrap n = n := by rw [IntKind.wrap_i64]; omega

theorem u64_id (n : Int) (h₀ : 0 ≤ n) (h₁ : n ≤ 48) : IntKind.u64.wrap n = n := by
  simp only [IntKind.wrap, IntKind.bits, IntKind.signed]
  simp only [Bool.false_and, Bool.false_eq_true, if_false]
  omega

theorem valid_same (l i : Int) : coppiceref06_Valid.f l i = node_Valid.f l i := by
  unfold coppiceref06_Valid.f node_Valid.f
  by_cases h0 : l ≥ 0
  · by_cases h1 : l ≤ 48
    · rw [if_pos h0, if_pos h0, if_pos h1, if_pos h1, u64_id l h0 h1]
    · rw [if_pos h0, if_pos h0, if_neg h1, if_neg h1]
  · rw [if_neg h0, if_neg h0]

theorem valid_some (l i : Int) : ∃ b, node_Valid.f l i = some b ∧ (b = true → 0 ≤ l ∧ l ≤ 48 ∧ 0 ≤ i ∧ i < 281474976710656 / 2 ^ l.toNat) := by
  unfold node_Valid.f
  by_cases h0 : l ≥ 0
  · by_cases h1 : l ≤ 48
    · by_cases h2 : i ≥ 0
      · rw [if_pos h0, if_pos h1, if_pos h2, if_pos h0]
        refine ⟨_, rfl, fun h => ⟨h0, h1, h2, ?_⟩⟩
        have := of_decide_eq_true h
        unfold shr at this
        have e : min l.toNat IntKind.i64.bits = l.toNat := Nat.min_eq_left (by simp only [IntKind.bits]; omega)
        rw [e] at this
        exact this
      · rw [if_pos h0, if_pos h1, if_neg h2]; exact ⟨_, rfl, fun h => by cases h⟩
    · rw [if_pos h0, if_neg h1]; exact ⟨_, rfl, fun h => by cases h⟩
  · rw [if_neg h0]; exact ⟨_, rfl, fun h => by cases h⟩

theorem shl_val (i r : Int) (h0 : 0 ≤ r) (h1 : r ≤ 48) (h2 : 0 ≤ i) (h3 : i * 2 ^ r.toNat < 2 ^ 63) : shl .i64 i r = i * 2 ^ r.toNat := by
  unfold shl
  have e : min r.toNat IntKind.i64.bits = r.toNat := Nat.min_eq_left (by simp only [IntKind.bits]; omega)
  rw [e]
  refine wraps_i64p _ ?_ h3
  exact Int.mul_nonneg h2 (Int.le_of_lt (Int.pow_pos (by decide)))

/-- The shifted index stays below 2^48. -/
theorem shifted_lt (l i r : Nat) (hr : r ≤ l) (hi : i < 281474976710656 / 2 ^ l) : i * 2 ^ r < 281474976710656 := by
  have h1 : i * 2 ^ l < 281474976710656 := by
    have hp : 0 < 2 ^ l := Nat.two_pow_pos l
    have := Nat.div_mul_le_self 281474976710656 (2 ^ l)
    have h2 : i * 2 ^ l < (281474976710656 / 2 ^ l) * 2 ^ l := Nat.mul_lt_mul_of_pos_right hi hp
    omega
  have h3 : 2 ^ r ≤ 2 ^ l := Nat.pow_le_pow_right (by decide) hr
  have h4 : i * 2 ^ r ≤ i * 2 ^ l := Nat.mul_le_mul_left i h3
  omega

theorem full_val (h : Int) (h1 : 1 ≤ h) (h8 : h ≤ 8) : coppiceref10_Full.f h = some (2 ^ h.toNat) := by
  unfold coppiceref10_Full.f
  rw [u64_id h (by omega) (by omega), if_pos (by omega)]
  have : h = 1 ∨ h = 2 ∨ h = 3 ∨ h = 4 ∨ h = 5 ∨ h = 6 ∨ h = 7 ∨ h = 8 := by omega
  rcases this with rfl | rfl | rfl | rfl | rfl | rfl | rfl | rfl <;> rfl

theorem shl_one (h : Int) (h1 : 1 ≤ h) (h8 : h ≤ 8) : shl .i64 1 h = 2 ^ h.toNat := by
  have : h = 1 ∨ h = 2 ∨ h = 3 ∨ h = 4 ∨ h = 5 ∨ h = 6 ∨ h = 7 ∨ h = 8 := by omega
  rcases this with rfl | rfl | rfl | rfl | rfl | rfl | rfl | rfl <;> rfl

theorem of_same (k : Nat) (h l i : Int) : coppiceref10_Of.f (k + 1) h l i = tile_Of.f h l i ∧ ∃ r, tile_Of.f h l i = some r := by
  unfold coppiceref10_Of.f tile_Of.f coppiceref10_Height.f tile_height.f
  rw [valid_same]
  by_cases h1 : h ≥ 1
  · by_cases h8 : h ≤ 8
    · rw [if_pos h1]
      simp only [decide_eq_true h8, Option.bind_some, if_true]
      obtain ⟨b, hb, hv⟩ := valid_some l i
      rw [hb]
      simp only [Option.bind_some]
      cases b with
      | false => exact ⟨by simp [coppiceref10_Of.j0], _, rfl⟩
      | true =>
        obtain ⟨g0, g1, g2, g3⟩ := hv rfl
        have hne : ¬ h = 0 := by omega
        have hm0 : 0 ≤ Int.tmod l h := Int.tmod_nonneg _ g0
        have hm1 : Int.tmod l h ≤ l := by
          rw [Int.tmod_eq_emod_of_nonneg g0]
          obtain ⟨L, rfl⟩ := Int.eq_ofNat_of_zero_le g0
          obtain ⟨H, rfl⟩ := Int.eq_ofNat_of_zero_le (show (0 : Int) ≤ h by omega)
          exact_mod_cast Nat.mod_le L H
        have hsh : i * 2 ^ (Int.tmod l h).toNat < 2 ^ 48 := by
          obtain ⟨L, rfl⟩ := Int.eq_ofNat_of_zero_le g0
          obtain ⟨I, rfl⟩ := Int.eq_ofNat_of_zero_le g2
          obtain ⟨R, hR⟩ := Int.eq_ofNat_of_zero_le hm0
          rw [hR] at hm1 ⊢
          have := shifted_lt L I R (by omega) (by
            rw [Int.toNat_natCast] at g3
            have e : ((281474976710656 / 2 ^ L : Nat) : Int) = 281474976710656 / 2 ^ L := by rw [Int.natCast_ediv, Int.natCast_pow]; rfl
            rw [← e] at g3
            exact Int.ofNat_lt.1 g3)
          rw [Int.toNat_natCast]
          exact_mod_cast this
        have hsh0 : 0 ≤ i * 2 ^ (Int.tmod l h).toNat := Int.mul_nonneg g2 (Int.le_of_lt (Int.pow_pos (by decide)))
        have hs := shl_val i (Int.tmod l h) hm0 (by omega) g2 (by omega)
        simp only [coppiceref10_Of.j0, Bool.not_true, Bool.false_eq_true, if_false, if_true]
        rw [if_neg hne, if_neg hne, u64_id _ hm0 (by omega), if_pos hm0, if_pos hm0, if_pos (by omega), full_val h h1 h8]
        have hp : (0 : Int) < 2 ^ h.toNat := Int.pow_pos (by decide)
        have hp' : ¬ ((2 : Int) ^ h.toNat = 0) := by omega
        simp only [Option.bind_some]
        rw [if_neg hp', if_neg hp', hs, shl_one h h1 h8]
        generalize hA : i * 2 ^ (Int.tmod l h).toNat = A at *
        have hpb : (2 : Int) ^ h.toNat ≤ 256 := by
          have : h = 1 ∨ h = 2 ∨ h = 3 ∨ h = 4 ∨ h = 5 ∨ h = 6 ∨ h = 7 ∨ h = 8 := by omega
          rcases this with rfl | rfl | rfl | rfl | rfl | rfl | rfl | rfl <;> decide
        have e1 : Go.bits .and .i64 A (wrap64 ((2 : Int) ^ h.toNat - 1)) = A % 2 ^ h.toNat := by
          have ew : wrap64 ((2 : Int) ^ h.toNat - 1) = 2 ^ h.toNat - 1 := by unfold wrap64; omega
          rw [ew]
          exact bits_mask .i64 63 (by decide) wraps_i64p h.toNat (by omega) A hsh0 (by omega)
        have e2 : Int.tmod A (2 ^ h.toNat) = A % 2 ^ h.toNat := Int.tmod_eq_emod_of_nonneg hsh0
        have e3 : wrap64 (Int.tdiv A (2 ^ h.toNat)) = A / 2 ^ h.toNat := by
          rw [Int.tdiv_eq_ediv_of_nonneg hsh0]
          have b0 : 0 ≤ A / 2 ^ h.toNat := Int.ediv_nonneg hsh0 (by omega)
          have b1 : A / 2 ^ h.toNat ≤ A := Int.ediv_le_self _ hsh0
          unfold wrap64; omega
        have e4 : shr .i64 A h = A / 2 ^ h.toNat := by
          unfold shr
          rw [Nat.min_eq_left (by simp only [IntKind.bits]; omega)]
        rw [e1, e2, e3, e4]
        exact ⟨rfl, _, rfl⟩
    · rw [if_pos h1]
      simp only [decide_eq_false h8, Option.bind_some, Bool.false_eq_true, if_false]
      exact ⟨by simp [coppiceref10_Of.j0], _, rfl⟩
  · rw [if_neg h1]
    simp only [Option.bind_some, Bool.false_eq_true, if_false]
    exact ⟨by simp [coppiceref10_Of.j0], _, rfl⟩

theorem pure_TileOf (h l i : Int) : coppicelaw10_TileOf.f 1 h l i = some true := by
  obtain ⟨e, r, hr⟩ := of_same 0 h l i
  unfold coppicelaw10_TileOf.f
  rw [e, hr]
  simp [coppicelaw10_names.f]
end Go.Proofs.Ytmiffljcggfcgaa.PTileOf
