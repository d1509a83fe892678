/- The reference's Rune. -/
import Derived.Test.YtfefcfjedlidnaaDoorByt
import Derived.Test.YtfefcfjedlidnaaDoorUtf
namespace Go.Proofs.YtfefcfjedlidnaaDoor.Utf
open Go Go.RowKit Go.Proofs.YtfefcfjedlidnaaDoor.Cop
set_option linter.unusedVariables false
set_option linter.unusedSimpArgs false

set_option maxRecDepth 100000 in
theorem and31 : ∀ X : Fin 256, bits .and .i64 ((X.val : Nat) : Int) 31 = ((X.val % 32 : Nat) : Int) := by decide
set_option maxRecDepth 100000 in
theorem and15 : ∀ X : Fin 256, bits .and .i64 ((X.val : Nat) : Int) 15 = ((X.val % 16 : Nat) : Int) := by decide
set_option maxRecDepth 100000 in
theorem and7 : ∀ X : Fin 256, bits .and .i64 ((X.val : Nat) : Int) 7 = ((X.val % 8 : Nat) : Int) := by decide
set_option maxRecDepth 100000 in
theorem and63 : ∀ X : Fin 256, bits .and .i64 ((X.val : Nat) : Int) 63 = ((X.val % 64 : Nat) : Int) := by decide
theorem ix_str (s : ByteArray) (k : Nat) (h : k < s.size) (w : World) : (Instr.index 9 (.string s) (.int .i64 (k : Int))).run Tryd.prog w = .ok (.int .u8 (at' s k : Int)) w := by
  have e : s[k]? = some (s.data.toList.getD k 0) := by
    cases s with
    | mk d =>
      have hk : k < d.size := h
      rw [getElem?_pos _ k h]
      congr 1
      show d[k] = d.toList.getD k 0
      simp [List.getD, hk]
  simp [Instr.index, asIntOf, run_underlying Tryd.underlying9, Result.andThen, e, at']
section
variable {ops : Array Oper} {rest : List Oper} {o : Oper} {a : Act} {Q : Exit → Act → World → Prop} {w : World}
/-- s[k], as a number with its facts. -/
theorem wp_ixS (hg : Region.wanted o (yielded ops a.tmps) = true) (x y : Operand) (ho : o.op = .index 9 x y) {s : ByteArray} (hx : a.eval x = .string s) {z : Int} (hy : a.eval y = .int .i64 z) (k : Nat) (hz : z = (k : Int)) (hk : k < s.size)
    (h : ∀ b : Nat, at' s k = b → b < 256 → wrap64 (b : Int) = (b : Int) → wpList Tryd.prog ops Q rest (a.put o.dst (.int .u8 (b : Int))) w) : wpList Tryd.prog ops Q (o :: rest) a w := by
  subst hz
  refine wp_run hg (v := .int .u8 (at' s k : Int)) (w' := w) ?_ (h _ rfl (at_lt s k) ?_)
  · unfold execOp
    simp [ho, hx, hy, ix_str s k hk, Result.andThen]
  · have := at_lt s k
    unfold wrap64; omega
end
/-- What the loop has got ahead of its c-th further byte. -/
def acc (s : ByteArray) (i v0 : Nat) : Nat → Nat
  | 0 => v0
  | 1 => v0
  | c + 2 => acc s i v0 (c + 1) * 64 + at' s (i + (c + 1)) % 64
theorem acc_step (s : ByteArray) (i v0 c : Nat) (h : 1 ≤ c) : acc s i v0 (c + 1) = acc s i v0 c * 64 + at' s (i + c) % 64 := by
  obtain ⟨d, rfl⟩ : ∃ d, c = d + 1 := ⟨c - 1, by omega⟩
  rfl
theorem acc_lt (s : ByteArray) (i v0 : Nat) (h : v0 < 32) : ∀ c, c ≤ 4 → acc s i v0 c < 8388608
  | 0, _ => by simp [acc]; omega
  | 1, _ => by simp [acc]; omega
  | 2, _ => by simp [acc]; omega
  | 3, _ => by simp [acc]; omega
  | 4, _ => by simp [acc]; omega
  | k + 5, hk => by omega
set_option maxRecDepth 100000 in
theorem rune1_calls (s : ByteArray) (i : Nat) (hi : i < s.size) (hs : s.size ≤ 1048576) (w : World) (c0 : at' s i < 128) :
    Calls Tryd.prog 80 #[.string s, .int .i64 (i : Int)] w fun e w' => e = .returned (.tuple #[.int .i64 ((rn s i).1 : Int), .int .i64 ((rn s i).2 : Int)]) ∧ w = w' := by
  rw [rn_ascii s i c0]
  have HC := Lib.hid c0
  clear c0
  go_enter Tryd.func80, Tryd.ntmps80
  go_wp2_with ((with_reducible refine gate_dst (N := 14) rfl ?_); go_loud (refine wp_ixS rfl _ _ rfl rfl rfl i rfl hi ?_); intro b hb hb2 hb3; have hb4 : b < 128 := by rw [← hb]; exact HC.out)
  go_ret2
  exact ⟨by rw [hb]; rfl, rfl⟩
set_option maxRecDepth 100000 in
set_option maxHeartbeats 2000000 in
theorem rune2_calls (s : ByteArray) (i : Nat) (hi : i < s.size) (hs : s.size ≤ 1048576) (w : World) (c0 : 194 ≤ at' s i) (c1 : at' s i < 224) :
    Calls Tryd.prog 80 #[.string s, .int .i64 (i : Int)] w fun e w' => e = .returned (.tuple #[.int .i64 ((rn s i).1 : Int), .int .i64 ((rn s i).2 : Int)]) ∧ w = w' := by
  have C0 := Lib.hid c0
  have C1 := Lib.hid c1
  clear c0 c1
  by_cases hn : s.size - i < 2
  · rw [rn2_no s i C0.out C1.out (.inl hn)]
    have hn2 : (s.size : Int) - (i : Int) < 2 := by omega
    clear hn
    go_enter Tryd.func80, Tryd.ntmps80
    go_wp2_with ((with_reducible refine gate_dst (N := 14) rfl ?_); go_loud (refine wp_ixS rfl _ _ rfl rfl rfl i rfl hi ?_); intro b hb hb2 hb3; have hb4 : 194 ≤ b := (by rw [← hb]; exact C0.out); have hb5 : b < 224 := (by rw [← hb]; exact C1.out))
    go_ret2
    exact ⟨rfl, rfl⟩
  · obtain ⟨r, hr⟩ : ∃ r, rn s i = r := ⟨_, rfl⟩
    have HR := Lib.hid hr
    rw [hr]
    clear hr
    have hn2 : ¬ (s.size : Int) - (i : Int) < 2 := by omega
    have hn3 : i + 2 ≤ s.size := by omega
    clear hn
    go_enter Tryd.func80, Tryd.ntmps80
    go_wp2_with ((with_reducible refine gate_dst (N := 14) rfl ?_); go_loud (refine wp_ixS rfl _ _ rfl rfl rfl i rfl hi ?_); intro b hb hb2 hb3; have hb4 : 194 ≤ b := (by rw [← hb]; exact C0.out); have hb5 : b < 224 := (by rw [← hb]; exact C1.out); obtain ⟨v0, hv0, hv1, hv2⟩ : ∃ v0 : Nat, bits .and .i64 (b : Int) 31 = (v0 : Int) ∧ v0 < 32 ∧ Hid (v0 = b % 32) := ⟨b % 32, and31 ⟨b, hb2⟩, by omega, Lib.hid rfl⟩)
    have HB := Lib.hid hb
    clear hb hn2 hb3 hv0 hb4 hb5
    go_loop [8, 10] (fun x y => ∃ q c : Nat, 1 ≤ c ∧ c ≤ 2 ∧ x = .int .i64 (q : Int) ∧ y = .int .i64 (c : Int) ∧ q < 8388608 ∧ Hid (q = acc s i v0 c ∧ ∀ j, 1 ≤ j → j < c → 128 ≤ at' s (i + j) ∧ at' s (i + j) < 192)) (fun _ y => 5 - (intOf y).toNat)
    case atStart => exact ⟨v0, 1, by omega, by omega, rfl, rfl, by omega, Lib.hid ⟨rfl, fun j h1 h2 => by omega⟩⟩
    case round =>
      obtain ⟨q, c, hc1, hc2, rfl, rfl, hq, HQ⟩ := hrel
      by_cases hc : c < 2
      · have e1 : decide ((c : Int) < 2) = true := decide_eq_true (by omega)
        by_cases hlo : at' s (i + c) < 128
        · have HX := Lib.hid hlo
          clear hlo
          obtain rfl : r = (0, 0) := by
            rw [← HR.out]
            refine rn2_no s i C0.out C1.out (.inr ?_)
            have hx := HX.out
            obtain rfl : c = 1 := by omega
            omega
          go_wp2_with ((with_reducible refine gate_dst (N := 63) rfl ?_); go_loud (refine wp_ixS rfl _ _ rfl rfl rfl (i + c) (by first | omega | (simp; omega)) (by omega) ?_); intro b1 hd hd2 hd3; have hd4 : b1 < 128 := (by rw [← hd]; exact HX.out); clear hd)
          go_ret2
          exact ⟨rfl, rfl⟩
        by_cases hhi : 192 ≤ at' s (i + c)
        · have HX := Lib.hid hhi
          clear hhi
          clear hlo
          obtain rfl : r = (0, 0) := by
            rw [← HR.out]
            refine rn2_no s i C0.out C1.out (.inr ?_)
            have hx := HX.out
            obtain rfl : c = 1 := by omega
            omega
          go_wp2_with ((with_reducible refine gate_dst (N := 63) rfl ?_); go_loud (refine wp_ixS rfl _ _ rfl rfl rfl (i + c) (by first | omega | (simp; omega)) (by omega) ?_); intro b1 hd hd2 hd3; have hd4 : 192 ≤ b1 := (by rw [← hd]; exact HX.out); clear hd)
          go_ret2
          exact ⟨rfl, rfl⟩
        have HX := Lib.hid (show 128 ≤ at' s (i + c) ∧ at' s (i + c) < 192 by omega)
        clear hlo hhi
        obtain ⟨q2, hq2⟩ : ∃ q2, acc s i v0 (c + 1) = q2 := ⟨_, rfl⟩
        have hq3 : q2 < 8388608 := by rw [← hq2]; exact acc_lt s i v0 (by omega) _ (by omega)
        have HQ2 := Lib.hid hq2
        clear hq2
        obtain ⟨u, hu⟩ : ∃ u, at' s (i + c) % 64 = u := ⟨_, rfl⟩
        have hu2 : q2 = q * 64 + u := by rw [← HQ2.out, acc_step s i v0 c hc1, HQ.out.1, hu]
        have e4 : (q : Int) * 64 + (u : Int) = (q2 : Int) := by omega
        have hu3 : u < 64 := by omega
        have HU := Lib.hid hu
        clear hu hu2
        go_wp2_with ((with_reducible refine gate_dst (N := 63) rfl ?_); go_loud (refine wp_ixS rfl _ _ rfl rfl rfl (i + c) (by first | omega | (simp; omega)) (by omega) ?_); intro b1 hd hd2 hd3; have hd4 : 128 ≤ b1 := (by rw [← hd]; exact HX.out.1); have hd5 : b1 < 192 := (by rw [← hd]; exact HX.out.2); have hd6 : bits .and .i64 (b1 : Int) 63 = (u : Int) := (by rw [← HU.out, hd]; exact and63 ⟨b1, hd2⟩); clear hd)
        go_round
        case rel => exact ⟨q2, c + 1, by omega, by omega, (by first | rfl | rw [e4]), by go_num, hq3, Lib.hid ⟨HQ2.out.symm, fun j h1 h2 => by
          rcases Nat.lt_or_ge j c with h | h
          · exact HQ.out.2 j h1 h
          · obtain rfl : j = c := by omega
            exact HX.out⟩⟩
        case measure => simp [intOf]; omega
      · have e1 : decide ((c : Int) < 2) = false := decide_eq_false (by omega)
        obtain rfl : c = 2 := by omega
        have hqv : q = v0 * 64 + at' s (i + 1) % 64 := by rw [HQ.out.1]; rfl
        have hvb : v0 = at' s i % 32 := by rw [hv2.out, HB.out]
        clear hc e1
        have hl0 := C0.out
        have hl1 := C1.out
        have g0 : 128 ≤ q := by omega
        have g1 : q < 2048 := by omega
        obtain rfl : r = (q, 2) := by rw [← HR.out, rn2 s i C0.out C1.out (by omega) (HQ.out.2 1 (by omega) (by omega)), hqv, hvb]
        clear hqv hvb hl0 hl1
        go_wp2_with fail
        go_ret2
        exact ⟨rfl, rfl⟩
set_option maxRecDepth 100000 in
set_option maxHeartbeats 2000000 in
theorem rune3_calls (s : ByteArray) (i : Nat) (hi : i < s.size) (hs : s.size ≤ 1048576) (w : World) (c0 : 224 ≤ at' s i) (c1 : at' s i < 240) :
    Calls Tryd.prog 80 #[.string s, .int .i64 (i : Int)] w fun e w' => e = .returned (.tuple #[.int .i64 ((rn s i).1 : Int), .int .i64 ((rn s i).2 : Int)]) ∧ w = w' := by
  have C0 := Lib.hid c0
  have C1 := Lib.hid c1
  clear c0 c1
  by_cases hn : s.size - i < 3
  · rw [rn3_no s i C0.out C1.out (.inl hn)]
    have hn2 : (s.size : Int) - (i : Int) < 3 := by omega
    clear hn
    go_enter Tryd.func80, Tryd.ntmps80
    go_wp2_with ((with_reducible refine gate_dst (N := 14) rfl ?_); go_loud (refine wp_ixS rfl _ _ rfl rfl rfl i rfl hi ?_); intro b hb hb2 hb3; have hb4 : 224 ≤ b := (by rw [← hb]; exact C0.out); have hb5 : b < 240 := (by rw [← hb]; exact C1.out))
    go_ret2
    exact ⟨rfl, rfl⟩
  · obtain ⟨r, hr⟩ : ∃ r, rn s i = r := ⟨_, rfl⟩
    have HR := Lib.hid hr
    rw [hr]
    clear hr
    have hn2 : ¬ (s.size : Int) - (i : Int) < 3 := by omega
    have hn3 : i + 3 ≤ s.size := by omega
    clear hn
    go_enter Tryd.func80, Tryd.ntmps80
    go_wp2_with ((with_reducible refine gate_dst (N := 14) rfl ?_); go_loud (refine wp_ixS rfl _ _ rfl rfl rfl i rfl hi ?_); intro b hb hb2 hb3; have hb4 : 224 ≤ b := (by rw [← hb]; exact C0.out); have hb5 : b < 240 := (by rw [← hb]; exact C1.out); obtain ⟨v0, hv0, hv1, hv2⟩ : ∃ v0 : Nat, bits .and .i64 (b : Int) 15 = (v0 : Int) ∧ v0 < 16 ∧ Hid (v0 = b % 16) := ⟨b % 16, and15 ⟨b, hb2⟩, by omega, Lib.hid rfl⟩)
    have HB := Lib.hid hb
    clear hb hn2 hb3 hv0 hb4 hb5
    go_loop [8, 10] (fun x y => ∃ q c : Nat, 1 ≤ c ∧ c ≤ 3 ∧ x = .int .i64 (q : Int) ∧ y = .int .i64 (c : Int) ∧ q < 8388608 ∧ Hid (q = acc s i v0 c ∧ ∀ j, 1 ≤ j → j < c → 128 ≤ at' s (i + j) ∧ at' s (i + j) < 192)) (fun _ y => 5 - (intOf y).toNat)
    case atStart => exact ⟨v0, 1, by omega, by omega, rfl, rfl, by omega, Lib.hid ⟨rfl, fun j h1 h2 => by omega⟩⟩
    case round =>
      obtain ⟨q, c, hc1, hc2, rfl, rfl, hq, HQ⟩ := hrel
      by_cases hc : c < 3
      · have e1 : decide ((c : Int) < 3) = true := decide_eq_true (by omega)
        by_cases hlo : at' s (i + c) < 128
        · have HX := Lib.hid hlo
          clear hlo
          obtain rfl : r = (0, 0) := by
            rw [← HR.out]
            refine rn3_no s i C0.out C1.out (.inr ?_)
            have hx := HX.out
            rcases (show c = 1 ∨ c = 2 by omega) with rfl | rfl <;> omega
          go_wp2_with ((with_reducible refine gate_dst (N := 63) rfl ?_); go_loud (refine wp_ixS rfl _ _ rfl rfl rfl (i + c) (by first | omega | (simp; omega)) (by omega) ?_); intro b1 hd hd2 hd3; have hd4 : b1 < 128 := (by rw [← hd]; exact HX.out); clear hd)
          go_ret2
          exact ⟨rfl, rfl⟩
        by_cases hhi : 192 ≤ at' s (i + c)
        · have HX := Lib.hid hhi
          clear hhi
          clear hlo
          obtain rfl : r = (0, 0) := by
            rw [← HR.out]
            refine rn3_no s i C0.out C1.out (.inr ?_)
            have hx := HX.out
            rcases (show c = 1 ∨ c = 2 by omega) with rfl | rfl <;> omega
          go_wp2_with ((with_reducible refine gate_dst (N := 63) rfl ?_); go_loud (refine wp_ixS rfl _ _ rfl rfl rfl (i + c) (by first | omega | (simp; omega)) (by omega) ?_); intro b1 hd hd2 hd3; have hd4 : 192 ≤ b1 := (by rw [← hd]; exact HX.out); clear hd)
          go_ret2
          exact ⟨rfl, rfl⟩
        have HX := Lib.hid (show 128 ≤ at' s (i + c) ∧ at' s (i + c) < 192 by omega)
        clear hlo hhi
        obtain ⟨q2, hq2⟩ : ∃ q2, acc s i v0 (c + 1) = q2 := ⟨_, rfl⟩
        have hq3 : q2 < 8388608 := by rw [← hq2]; exact acc_lt s i v0 (by omega) _ (by omega)
        have HQ2 := Lib.hid hq2
        clear hq2
        obtain ⟨u, hu⟩ : ∃ u, at' s (i + c) % 64 = u := ⟨_, rfl⟩
        have hu2 : q2 = q * 64 + u := by rw [← HQ2.out, acc_step s i v0 c hc1, HQ.out.1, hu]
        have e4 : (q : Int) * 64 + (u : Int) = (q2 : Int) := by omega
        have hu3 : u < 64 := by omega
        have HU := Lib.hid hu
        clear hu hu2
        go_wp2_with ((with_reducible refine gate_dst (N := 63) rfl ?_); go_loud (refine wp_ixS rfl _ _ rfl rfl rfl (i + c) (by first | omega | (simp; omega)) (by omega) ?_); intro b1 hd hd2 hd3; have hd4 : 128 ≤ b1 := (by rw [← hd]; exact HX.out.1); have hd5 : b1 < 192 := (by rw [← hd]; exact HX.out.2); have hd6 : bits .and .i64 (b1 : Int) 63 = (u : Int) := (by rw [← HU.out, hd]; exact and63 ⟨b1, hd2⟩); clear hd)
        go_round
        case rel => exact ⟨q2, c + 1, by omega, by omega, (by first | rfl | rw [e4]), by go_num, hq3, Lib.hid ⟨HQ2.out.symm, fun j h1 h2 => by
          rcases Nat.lt_or_ge j c with h | h
          · exact HQ.out.2 j h1 h
          · obtain rfl : j = c := by omega
            exact HX.out⟩⟩
        case measure => simp [intOf]; omega
      · have e1 : decide ((c : Int) < 3) = false := decide_eq_false (by omega)
        obtain rfl : c = 3 := by omega
        have hqv : q = (v0 * 64 + at' s (i + 1) % 64) * 64 + at' s (i + 2) % 64 := by rw [HQ.out.1]; rfl
        have hvb : v0 = at' s i % 16 := by rw [hv2.out, HB.out]
        clear hc e1
        have hr0 := rn3 s i C0.out C1.out (by omega) (HQ.out.2 1 (by omega) (by omega)) (HQ.out.2 2 (by omega) (by omega)) q (by rw [hqv, hvb])
        rw [HR.out] at hr0
        have g2 : q < 65536 := by omega
        clear hqv hvb
        by_cases g0_ : q < 2048
        · obtain rfl : r = (0, 0) := by rw [hr0, if_pos (by omega)]
          clear hr0
          go_wp2_with fail
          go_ret2
          exact ⟨rfl, rfl⟩
        by_cases g1_ : 55296 ≤ q ∧ q < 57344
        · obtain rfl : r = (0, 0) := by rw [hr0, if_pos (by omega)]
          clear hr0
          have f1 := g1_.1
          have f2 := g1_.2
          clear g1_
          go_wp2_with fail
          go_ret2
          exact ⟨rfl, rfl⟩
        obtain rfl : r = (q, 3) := by rw [hr0, if_neg (by omega)]
        clear hr0
        rcases (show q < 55296 ∨ 57344 ≤ q by omega) with f1 | f1
        · clear g1_
          go_wp2_with fail
          go_ret2
          exact ⟨rfl, rfl⟩
        · clear g1_
          go_wp2_with fail
          go_ret2
          exact ⟨rfl, rfl⟩
set_option maxRecDepth 100000 in
set_option maxHeartbeats 2000000 in
theorem rune4_calls (s : ByteArray) (i : Nat) (hi : i < s.size) (hs : s.size ≤ 1048576) (w : World) (c0 : 240 ≤ at' s i) (c1 : at' s i < 245) :
    Calls Tryd.prog 80 #[.string s, .int .i64 (i : Int)] w fun e w' => e = .returned (.tuple #[.int .i64 ((rn s i).1 : Int), .int .i64 ((rn s i).2 : Int)]) ∧ w = w' := by
  have C0 := Lib.hid c0
  have C1 := Lib.hid c1
  clear c0 c1
  by_cases hn : s.size - i < 4
  · rw [rn4_no s i C0.out C1.out (.inl hn)]
    have hn2 : (s.size : Int) - (i : Int) < 4 := by omega
    clear hn
    go_enter Tryd.func80, Tryd.ntmps80
    go_wp2_with ((with_reducible refine gate_dst (N := 14) rfl ?_); go_loud (refine wp_ixS rfl _ _ rfl rfl rfl i rfl hi ?_); intro b hb hb2 hb3; have hb4 : 240 ≤ b := (by rw [← hb]; exact C0.out); have hb5 : b < 245 := (by rw [← hb]; exact C1.out))
    go_ret2
    exact ⟨rfl, rfl⟩
  · obtain ⟨r, hr⟩ : ∃ r, rn s i = r := ⟨_, rfl⟩
    have HR := Lib.hid hr
    rw [hr]
    clear hr
    have hn2 : ¬ (s.size : Int) - (i : Int) < 4 := by omega
    have hn3 : i + 4 ≤ s.size := by omega
    clear hn
    go_enter Tryd.func80, Tryd.ntmps80
    go_wp2_with ((with_reducible refine gate_dst (N := 14) rfl ?_); go_loud (refine wp_ixS rfl _ _ rfl rfl rfl i rfl hi ?_); intro b hb hb2 hb3; have hb4 : 240 ≤ b := (by rw [← hb]; exact C0.out); have hb5 : b < 245 := (by rw [← hb]; exact C1.out); obtain ⟨v0, hv0, hv1, hv2⟩ : ∃ v0 : Nat, bits .and .i64 (b : Int) 7 = (v0 : Int) ∧ v0 < 8 ∧ Hid (v0 = b % 8) := ⟨b % 8, and7 ⟨b, hb2⟩, by omega, Lib.hid rfl⟩)
    have HB := Lib.hid hb
    clear hb hn2 hb3 hv0 hb4 hb5
    go_loop [8, 10] (fun x y => ∃ q c : Nat, 1 ≤ c ∧ c ≤ 4 ∧ x = .int .i64 (q : Int) ∧ y = .int .i64 (c : Int) ∧ q < 8388608 ∧ Hid (q = acc s i v0 c ∧ ∀ j, 1 ≤ j → j < c → 128 ≤ at' s (i + j) ∧ at' s (i + j) < 192)) (fun _ y => 5 - (intOf y).toNat)
    case atStart => exact ⟨v0, 1, by omega, by omega, rfl, rfl, by omega, Lib.hid ⟨rfl, fun j h1 h2 => by omega⟩⟩
    case round =>
      obtain ⟨q, c, hc1, hc2, rfl, rfl, hq, HQ⟩ := hrel
      by_cases hc : c < 4
      · have e1 : decide ((c : Int) < 4) = true := decide_eq_true (by omega)
        by_cases hlo : at' s (i + c) < 128
        · have HX := Lib.hid hlo
          clear hlo
          obtain rfl : r = (0, 0) := by
            rw [← HR.out]
            refine rn4_no s i C0.out C1.out (.inr ?_)
            have hx := HX.out
            rcases (show c = 1 ∨ c = 2 ∨ c = 3 by omega) with rfl | rfl | rfl <;> omega
          go_wp2_with ((with_reducible refine gate_dst (N := 63) rfl ?_); go_loud (refine wp_ixS rfl _ _ rfl rfl rfl (i + c) (by first | omega | (simp; omega)) (by omega) ?_); intro b1 hd hd2 hd3; have hd4 : b1 < 128 := (by rw [← hd]; exact HX.out); clear hd)
          go_ret2
          exact ⟨rfl, rfl⟩
        by_cases hhi : 192 ≤ at' s (i + c)
        · have HX := Lib.hid hhi
          clear hhi
          clear hlo
          obtain rfl : r = (0, 0) := by
            rw [← HR.out]
            refine rn4_no s i C0.out C1.out (.inr ?_)
            have hx := HX.out
            rcases (show c = 1 ∨ c = 2 ∨ c = 3 by omega) with rfl | rfl | rfl <;> omega
          go_wp2_with ((with_reducible refine gate_dst (N := 63) rfl ?_); go_loud (refine wp_ixS rfl _ _ rfl rfl rfl (i + c) (by first | omega | (simp; omega)) (by omega) ?_); intro b1 hd hd2 hd3; have hd4 : 192 ≤ b1 := (by rw [← hd]; exact HX.out); clear hd)
          go_ret2
          exact ⟨rfl, rfl⟩
        have HX := Lib.hid (show 128 ≤ at' s (i + c) ∧ at' s (i + c) < 192 by omega)
        clear hlo hhi
        obtain ⟨q2, hq2⟩ : ∃ q2, acc s i v0 (c + 1) = q2 := ⟨_, rfl⟩
        have hq3 : q2 < 8388608 := by rw [← hq2]; exact acc_lt s i v0 (by omega) _ (by omega)
        have HQ2 := Lib.hid hq2
        clear hq2
        obtain ⟨u, hu⟩ : ∃ u, at' s (i + c) % 64 = u := ⟨_, rfl⟩
        have hu2 : q2 = q * 64 + u := by rw [← HQ2.out, acc_step s i v0 c hc1, HQ.out.1, hu]
        have e4 : (q : Int) * 64 + (u : Int) = (q2 : Int) := by omega
        have hu3 : u < 64 := by omega
        have HU := Lib.hid hu
        clear hu hu2
        go_wp2_with ((with_reducible refine gate_dst (N := 63) rfl ?_); go_loud (refine wp_ixS rfl _ _ rfl rfl rfl (i + c) (by first | omega | (simp; omega)) (by omega) ?_); intro b1 hd hd2 hd3; have hd4 : 128 ≤ b1 := (by rw [← hd]; exact HX.out.1); have hd5 : b1 < 192 := (by rw [← hd]; exact HX.out.2); have hd6 : bits .and .i64 (b1 : Int) 63 = (u : Int) := (by rw [← HU.out, hd]; exact and63 ⟨b1, hd2⟩); clear hd)
        go_round
        case rel => exact ⟨q2, c + 1, by omega, by omega, (by first | rfl | rw [e4]), by go_num, hq3, Lib.hid ⟨HQ2.out.symm, fun j h1 h2 => by
          rcases Nat.lt_or_ge j c with h | h
          · exact HQ.out.2 j h1 h
          · obtain rfl : j = c := by omega
            exact HX.out⟩⟩
        case measure => simp [intOf]; omega
      · have e1 : decide ((c : Int) < 4) = false := decide_eq_false (by omega)
        obtain rfl : c = 4 := by omega
        have hqv : q = ((v0 * 64 + at' s (i + 1) % 64) * 64 + at' s (i + 2) % 64) * 64 + at' s (i + 3) % 64 := by rw [HQ.out.1]; rfl
        have hvb : v0 = at' s i % 8 := by rw [hv2.out, HB.out]
        clear hc e1
        have hr0 := rn4 s i C0.out C1.out (by omega) (HQ.out.2 1 (by omega) (by omega)) (HQ.out.2 2 (by omega) (by omega)) (HQ.out.2 3 (by omega) (by omega)) q (by rw [hqv, hvb])
        rw [HR.out] at hr0
        clear hqv hvb
        by_cases g0_ : q < 65536
        · obtain rfl : r = (0, 0) := by rw [hr0, if_pos (by omega)]
          clear hr0
          go_wp2_with fail
          go_ret2
          exact ⟨rfl, rfl⟩
        by_cases g1_ : 1114111 < q
        · obtain rfl : r = (0, 0) := by rw [hr0, if_pos (by omega)]
          clear hr0
          go_wp2_with fail
          go_ret2
          exact ⟨rfl, rfl⟩
        obtain rfl : r = (q, 4) := by rw [hr0, if_neg (by omega)]
        clear hr0
        have f1 : 57344 ≤ q := by omega
        go_wp2_with fail
        go_ret2
        exact ⟨rfl, rfl⟩
set_option maxRecDepth 100000 in
theorem runea_calls (s : ByteArray) (i : Nat) (hi : i < s.size) (hs : s.size ≤ 1048576) (w : World) (c0 : 128 ≤ at' s i ∧ at' s i < 194) :
    Calls Tryd.prog 80 #[.string s, .int .i64 (i : Int)] w fun e w' => e = .returned (.tuple #[.int .i64 ((rn s i).1 : Int), .int .i64 ((rn s i).2 : Int)]) ∧ w = w' := by
  rw [rn_bad s i (by omega)]
  have HC := Lib.hid c0
  clear c0
  go_enter Tryd.func80, Tryd.ntmps80
  go_wp2_with ((with_reducible refine gate_dst (N := 14) rfl ?_); go_loud (refine wp_ixS rfl _ _ rfl rfl rfl i rfl hi ?_); intro b hb hb2 hb3; have hb4 : 128 ≤ b := (by rw [← hb]; exact HC.out.1); have hb5 : b < 194 := (by rw [← hb]; exact HC.out.2))
  go_ret2
  exact ⟨rfl, rfl⟩
set_option maxRecDepth 100000 in
theorem runeb_calls (s : ByteArray) (i : Nat) (hi : i < s.size) (hs : s.size ≤ 1048576) (w : World) (c0 : 245 ≤ at' s i) :
    Calls Tryd.prog 80 #[.string s, .int .i64 (i : Int)] w fun e w' => e = .returned (.tuple #[.int .i64 ((rn s i).1 : Int), .int .i64 ((rn s i).2 : Int)]) ∧ w = w' := by
  rw [rn_bad s i (by omega)]
  have HC := Lib.hid c0
  clear c0
  go_enter Tryd.func80, Tryd.ntmps80
  go_wp2_with ((with_reducible refine gate_dst (N := 14) rfl ?_); go_loud (refine wp_ixS rfl _ _ rfl rfl rfl i rfl hi ?_); intro b hb hb2 hb3; have hb4 : 245 ≤ b := (by rw [← hb]; exact HC.out))
  go_ret2
  exact ⟨rfl, rfl⟩
theorem rune_calls (s : ByteArray) (i : Nat) (hi : i < s.size) (hs : s.size ≤ 1048576) (w : World) :
    Calls Tryd.prog 80 #[.string s, .int .i64 (i : Int)] w fun e w' => e = .returned (.tuple #[.int .i64 ((rn s i).1 : Int), .int .i64 ((rn s i).2 : Int)]) ∧ w = w' := by
  rcases Nat.lt_or_ge (at' s i) 128 with h | h
  · exact rune1_calls s i hi hs w h
  rcases Nat.lt_or_ge (at' s i) 194 with h1 | h1
  · exact runea_calls s i hi hs w ⟨h, h1⟩
  rcases Nat.lt_or_ge (at' s i) 224 with h2 | h2
  · exact rune2_calls s i hi hs w h1 h2
  rcases Nat.lt_or_ge (at' s i) 240 with h3 | h3
  · exact rune3_calls s i hi hs w h2 h3
  rcases Nat.lt_or_ge (at' s i) 245 with h4 | h4
  · exact rune4_calls s i hi hs w h3 h4
  · exact runeb_calls s i hi hs w h4
end Go.Proofs.YtfefcfjedlidnaaDoor.Utf
