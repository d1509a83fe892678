/- Numbers told to the base 10: strconv.Itoa by the kit's contract, the reference's Digits. -/
import Derived.Lib.ItoaLen
import Derived.Lib.ItoaNum
import Derived.Test.YtfefcfjedlidnaaDoorLib
import Derived.Test.YtfefcfjedlidnaaDoorShelf
namespace Go.Proofs.YtfefcfjedlidnaaDoor.Ito
open Go Go.RowKit Go.Proofs.YtfefcfjedlidnaaDoor.Cop
set_option linter.unusedVariables false
set_option linter.unusedSimpArgs false
/-- The library's table of powers lies as its text lays it. -/
def Pows (w : World) : Prop := Lib.TabIs Tryd.prog w "internal/strconv.uint64pow10" .u64 Lib.pow10Tab
theorem var_below {w w' : World} {n : String} {cs : Array Value} (h : w.var? Tryd.prog n = some cs) {B : Nat} (hb : Below B w w') (hB : w.heap.size ≤ B) : w'.var? Tryd.prog n = some cs := by
  unfold World.var? at h ⊢
  cases hg : Tryd.prog.globalNamed n with
  | none => simp [hg] at h
  | some g =>
    simp only [hg, Option.bind_some] at h ⊢
    have hlt : g < w.heap.size := by
      rcases Nat.lt_or_ge g w.heap.size with h' | h'
      · exact h'
      · simp [Array.getElem?_eq_none h'] at h
    rw [hb.block g (by omega)]
    exact h
theorem Pows.below {w w' : World} (h : Pows w) (hb : Below w.heap.size w w') : Pows w' := var_below h hb (Nat.le_refl _)
theorem below_grow (w : World) (k : Nat) (os : Array Obj) : Below w.heap.size w (Sort.grow (w.drewN k) os) :=
  ⟨rfl, rfl, rfl, by simp [Sort.grow], fun j hj => by
    show (w.heap ++ os)[j]? = _
    rw [Array.getElem?_append_left hj]⟩
theorem itoa_calls (n : Int) (h0 : -9223372036854775808 ≤ n) (h1 : n ≤ 9223372036854775807) (w : World) (hP : Pows w) : Calls Tryd.prog 74 #[.int .i64 n] w fun e w' => e = .returned (.string (str (Lib.itoa n))) ∧ Below w.heap.size w w' := by
  refine (Tryd.strconv_Itoa n h0 h1 w hP).mono ?_
  rintro e w' ⟨rfl, k, os, rfl⟩
  exact ⟨rfl, below_grow w k os⟩
theorem dig_small (n : Nat) (h : n < 10) : Lib.decDigits n = [UInt8.ofNat (48 + n)] := by rw [Lib.decDigits, dif_pos h]
theorem dig_big (n : Nat) (h : ¬ n < 10) : Lib.decDigits n = Lib.decDigits (n / 10) ++ Lib.decDigits (n % 10) := by
  rw [Lib.decDigits, dif_neg h, dig_small (n % 10) (by omega)]
theorem dig_len (n : Nat) (h : n ≤ 9223372036854775807) : (Lib.decDigits n).length ≤ 21 := by
  have := Lib.itoa_length_le (n : Int) (by omega) (by omega)
  unfold Lib.itoa at this
  rw [if_neg (by omega)] at this
  simpa using this
theorem itoa_nat (n : Nat) : Lib.itoa (n : Int) = Lib.decDigits n := by
  unfold Lib.itoa
  rw [if_neg (by omega)]
  simp
theorem cut_dig (n : Nat) (h : n < 10) : (⟨#[48, 49, 50, 51, 52, 53, 54, 55, 56, 57]⟩ : ByteArray).extract n (n + 1) = str (Lib.decDigits n) := by
  rw [dig_small n h]
  have h' : n = 0 ∨ n = 1 ∨ n = 2 ∨ n = 3 ∨ n = 4 ∨ n = 5 ∨ n = 6 ∨ n = 7 ∨ n = 8 ∨ n = 9 := by omega
  rcases h' with rfl | rfl | rfl | rfl | rfl | rfl | rfl | rfl | rfl | rfl <;> rfl
set_option maxRecDepth 100000 in
theorem digits_calls : ∀ (n : Nat), n ≤ 9223372036854775807 → ∀ (w : World), Calls Tryd.prog 76 #[.int .i64 (n : Int)] w fun e w' => e = .returned (.string (str (Lib.decDigits n))) ∧ w = w' := by
  intro n
  induction n using Nat.strongRecOn with
  | ind n ih =>
    intro hn w
    by_cases h : n < 10
    · clear ih hn
      have h' : n = 0 ∨ n = 1 ∨ n = 2 ∨ n = 3 ∨ n = 4 ∨ n = 5 ∨ n = 6 ∨ n = 7 ∨ n = 8 ∨ n = 9 := by omega
      clear h
      rcases h' with rfl | rfl | rfl | rfl | rfl | rfl | rfl | rfl | rfl | rfl <;> (rw [dig_small _ (by decide)]; go_enter Tryd.func76, Tryd.ntmps76; go_wp2_with fail; go_ret; exact ⟨rfl, rfl⟩)
    · have h1 := ih (n / 10) (by omega) (by omega)
      have h2 := ih (n % 10) (by omega) (by omega)
      have l1 := dig_len (n / 10) (by omega)
      have l2 := dig_len (n % 10) (by omega)
      rw [dig_big n h]
      generalize Lib.decDigits (n / 10) = a at *
      generalize Lib.decDigits (n % 10) = b at *
      obtain ⟨q, hq⟩ : ∃ q : Nat, n / 10 = q := ⟨_, rfl⟩
      obtain ⟨m, hm⟩ : ∃ m : Nat, n % 10 = m := ⟨_, rfl⟩
      rw [hq] at h1
      rw [hm] at h2
      have e1 : (n : Int) / 10 = (q : Int) := by omega
      have e2 : (n : Int) % 10 = (m : Int) := by omega
      clear ih hq hm
      go_enter Tryd.func76, Tryd.ntmps76
      go_wp2_with (first | (go_at_call 76; (first | (with_reducible refine (h1 _).mono ?_) | (with_reducible refine (h2 _).mono ?_)); rintro e w' ⟨rfl, rfl⟩) | ((with_reducible refine gate_dst (N := 15) rfl ?_); go_loud (refine wp_add_str rfl _ _ _ _ rfl (p := a) (q := b) rfl rfl rfl rfl (by omega) ?_)))
      go_ret
      exact ⟨rfl, rfl⟩
end Go.Proofs.YtfefcfjedlidnaaDoor.Ito
