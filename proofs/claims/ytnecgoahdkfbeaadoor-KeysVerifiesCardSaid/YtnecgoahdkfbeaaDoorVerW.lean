/- verify.half, way, steps, Length, Steps and the reference's. -/
import Derived.WalkMore
import Derived.Deep.LoopGhost
import Derived.Test.YtnecgoahdkfbeaaDoorVerP
import Derived.Test.YtnecgoahdkfbeaaDoorLib
import Derived.Test.YtnecgoahdkfbeaaDoorShelfB
namespace Go.Proofs.YtnecgoahdkfbeaaDoor.Ver
open Go Go.RowKit Go.Proofs.YtnecgoahdkfbeaaDoor.Cop
set_option linter.unusedVariables false
set_option linter.unusedSimpArgs false
theorem pow_toNat (b : Nat) : (2 : Int) ^ b = ((2 ^ b : Nat) : Int) := by
  induction b with
  | zero => rfl
  | succ b ih => rw [Int.pow_succ, ih, Nat.pow_succ]; omega
set_option maxRecDepth 100000 in
theorem half_calls (n : Nat) (h : 2 ≤ n) (h' : n ≤ 281474976710656) (w : World) : Calls Tryd.prog 189 #[.int .i64 (n : Int)] w fun e w' => e = .returned (.int .i64 (H n : Int)) ∧ w = w' := by
  have hb := Tryd.bits_Len ((n - 1 : Nat) : Int) w (by omega) (by omega)
  obtain ⟨q1, q2, q3⟩ := bitLen_spec (n - 1) (by omega) (by omega)
  have q4 := Lib.bitLen_le (n - 1) 48 (by decide) (by omega)
  have hH : 2 ^ (Lib.bitLen (n - 1) - 1) = H n := rfl
  obtain ⟨hn1, hn2, hn3⟩ := H_spec n h h'
  rw [show (((n - 1 : Nat) : Int)).toNat = n - 1 by omega] at hb
  obtain ⟨L, hL⟩ : ∃ L, Lib.bitLen (n - 1) = L := ⟨_, rfl⟩
  rw [hL] at hb hH q4 q1
  obtain ⟨m, hm⟩ : ∃ m, n - 1 = m := ⟨_, rfl⟩
  rw [hm] at hb
  obtain ⟨b, rfl⟩ : ∃ b, L = b + 1 := ⟨L - 1, by omega⟩
  rw [Nat.add_sub_cancel] at hH
  have e1 : (n : Int) - 1 = (m : Int) := by omega
  have e2 : ((b + 1 : Nat) : Int) - 1 = (b : Int) := by omega
  have hpow : (2 : Int) ^ b = (H n : Int) := by rw [pow_toNat, hH]
  have hHb : (H n : Int) ≤ 281474976710656 := by omega
  generalize H n = Hn at hpow hH hHb ⊢
  generalize b + 1 = L at hb e2
  have HB := Lib.hid hb
  have HP := Lib.hid hpow
  have hb47 : b ≤ 47 := by omega
  clear hb q2 q3 q1 q4 hL hm hpow hH hn1 hn2 hn3
  go_enter Tryd.func189, Tryd.ntmps189
  go_wp2_with (go_at_call 229; go_loud (refine HB.out.mono ?_); rintro e w' ⟨rfl, rfl⟩)
  go_ret
  have hw : wrap64 (Hn : Int) = (Hn : Int) := by unfold wrap64; omega
  exact ⟨by rw [HP.out, hw]; rfl, rfl⟩
set_option maxRecDepth 100000 in
theorem rhalf_calls (n : Nat) (h : 2 ≤ n) (h' : n ≤ 281474976710656) (w : World) : Calls Tryd.prog 193 #[.int .i64 (n : Int)] w fun e w' => e = .returned (.int .i64 (H n : Int)) ∧ w = w' := by
  have hu := fun j => H_uniq n j h h'
  have HU := Lib.hid hu
  clear hu
  go_enter Tryd.func193, Tryd.ntmps193
  go_wp2_with fail
  go_loop [3] (fun x => ∃ p : Nat, x = .int .i64 (p : Int) ∧ 1 ≤ p ∧ p < n ∧ Hid (∃ j, p = 2 ^ j)) (fun x => n - (intOf x).toNat)
  case atStart => exact ⟨1, rfl, by omega, by omega, ⟨0, rfl⟩⟩
  case round =>
    obtain ⟨p, rfl, hp1, hp2, HP⟩ := hrel
    by_cases hc : p * 2 < n
    · have e1 : (p : Int) * 2 = ((p * 2 : Nat) : Int) := by omega
      have hn2 : Hid (∃ j, p * 2 = 2 ^ j) := by
        obtain ⟨j, hj⟩ := HP.out
        exact ⟨j + 1, by rw [hj, Nat.pow_succ]⟩
      generalize p * 2 = q at *
      have hq : p < q := by omega
      go_wp2_with fail
      go_round
      case rel => exact ⟨q, by first | rfl | rw [e1], by omega, hc, hn2⟩
      case measure => simp [intOf]; omega
    · have hfin : p = H n := by
        obtain ⟨j, hj⟩ := HP.out
        rw [hj]
        exact HU.out j (by omega) (by omega)
      have HF := Lib.hid hfin
      have hc2 : n ≤ p * 2 := by omega
      clear hfin hc
      go_wp2_with fail
      go_ret
      exact ⟨by rw [HF.out]; rfl, rfl⟩
theorem infoT : (Tryd.prog.info? 207).map (fun i => (i.zero, i.size, i.bytes)) = some (some (.bool false), 1, 1) := by kernel_rfl
/-- A slice of turns of the call's own. -/
def OwnT (B : Nat) (w : World) (v : Value) (l : List Bool) : Prop := w.ownsRow B 207 1 v l.length (l.map Value.bool)
theorem OwnT.nil (B : Nat) (w : World) : OwnT B w (.slice none 0 0) [] := World.ownsRow_nil _ _ _ _
theorem OwnT.len {B : Nat} {w : World} {v : Value} {l : List Bool} (h : OwnT B w v l) : ∃ a c, v = .slice a l.length c := by
  rcases h.2 with ⟨rfl, h1⟩ | ⟨g, cap, cur, rfl, _⟩
  · exact ⟨none, 0, by rw [h1]⟩
  · exact ⟨_, _, rfl⟩
section
variable {ops : Array Oper} {rest : List Oper} {o : Oper} {a : Act} {Q : Exit → Act → World → Prop} {w : World}
/-- append(l, b): b lies in a block of its own, the last one. -/
theorem wp_appT (hg : o.guard = none) (s x : Operand) (ho : o.op = .call { callee := .builtin .append, args := #[s, x], argTypes := #[205, 205] })
    {base : Nat} {v : Value} {l : List Bool} {b : Bool} (hown : OwnT base w v l) (hs : a.eval s = v) {ad : Addr} {c : Nat} (hx : a.eval x = .slice (some ad) 1 c) (hc : w.cell? ad = some (.bool b)) (hl : l.length ≤ 1000) (hbase : base ≤ w.heap.size)
    (h : ∀ v' w', OwnT base w' v' (l ++ [b]) → w.grownBy w' v.ownBlock → wpList Tryd.prog ops Q rest (a.put o.dst v') w') : wpList Tryd.prog ops Q (o :: rest) a w := by
  obtain ⟨i, hi, hz, hi1, hi2⟩ := info_parts infoT
  refine wpList_append_own w hg s x 205 ho base 207 i (.bool false) 1 1 Tryd.underlying205 hi hz hi1 hi2 rfl (by decide) v l.length (l.map Value.bool) hs hown ad 1 c [.bool b] hx rfl ?_ (by intro u hu; simp at hu; subst hu; rfl) (by unfold maxLen; omega) (by omega) hbase (fun v' w' h1 h2 _ => h v' w' ?_ h2)
  · intro j u hu
    cases j with
    | zero => simp at hu; subst hu; rw [show ad.add 0 = ad by unfold Addr.add; simp]; exact hc
    | succ j => simp at hu
  · unfold OwnT
    rw [List.length_append, List.map_append]
    exact h1
end
theorem cell_new (w : World) (b : Bool) : (w.alloc (.cells #[.bool b] 207)).cell? ⟨w.heap.size, 0, none⟩ = some (.bool b) := (Blk.new w [.bool b] 207).cell 0
set_option maxRecDepth 100000 in
theorem way_calls (i n : Nat) (hi : i < n) (h' : n ≤ 281474976710656) (w : World) : Calls Tryd.prog 134 #[.int .i64 (i : Int), .int .i64 (n : Int)] w fun e w' => ∃ v, e = .returned v ∧ OwnT w.heap.size w' v (wayL i n) ∧ Below w.heap.size w w' := by
  obtain ⟨F, hF⟩ : ∃ l, wayL i n = l := ⟨_, rfl⟩
  rw [hF]
  have HF := Lib.hid hF
  clear hF
  go_enter Tryd.func134, Tryd.ntmps134
  go_wp2_with fail
  go_step3
  go_wp2_with fail
  go_step3
  go_wp2_with fail
  go_loopw [0, 1, 5, 6] (fun x y v _ wr => ∃ (j m : Nat) (l : List Bool), x = .int .i64 (j : Int) ∧ y = .int .i64 (m : Int) ∧ j < m ∧ m ≤ n ∧ OwnT w.heap.size wr v l ∧ Below w.heap.size w wr ∧ Hid (l ++ wayL j m = F ∧ l.length + (wayL j m).length ≤ 49)) (fun _ y _ _ _ => (intOf y).toNat)
  case atStart => exact ⟨i, n, [], rfl, rfl, hi, Nat.le_refl _, OwnT.nil _ _, Below.refl _ _, HF.out, by simp; exact wayL_len i n⟩
  case round =>
    obtain ⟨j, m, l, rfl, rfl, hj, hm, hown, hb, HL⟩ := hrel
    by_cases h1 : m = 1
    · subst h1
      obtain rfl : l = F := by rw [← HL.out.1, wayL_one, List.append_nil]
      go_wp2_with fail
      try rw [Exit.noGoto_ret]
      go_ret
      exact ⟨_, rfl, hown, hb⟩
    · have hne : ((m : Int) == 1) = false := by simp; omega
      have hH := half_calls m (by omega) (by omega)
      obtain ⟨q1, q2, q3⟩ := H_spec m (by omega) (by omega)
      have hst := wayL_step j m (by omega) (by omega)
      have hll : l.length ≤ 49 := by have := HL.out.2; omega
      obtain ⟨k, hk⟩ : ∃ k, H m = k := ⟨_, rfl⟩
      rw [hk] at hH q1 q2 q3 hst
      clear hk
      have HST := Lib.hid hst
      have hz := hb.size
      by_cases hlt : j < k
      · have HN : Hid ((l ++ [true]) ++ wayL j k = F ∧ (l ++ [true]).length + (wayL j k).length ≤ 49) := by
          have q := HL.out
          rw [HST.out, if_pos hlt] at q
          exact ⟨by rw [List.append_assoc]; exact q.1, by have := q.2; simp at this ⊢; omega⟩
        have hown' := fun o => hown.alloc o
        clear hst HST HL h1
        go_wp2_with (first | (go_at_call 189; go_loud (refine (hH _).mono ?_); rintro e w' ⟨rfl, rfl⟩) | ((with_reducible refine gate_dst (N := 16) rfl ?_); go_loud (refine wp_appT rfl _ _ rfl (hown' _) rfl (ad := ⟨wr.heap.size, 0, none⟩) (b := true) rfl (cell_new wr true) (by omega) (by simp; omega) ?_); intro v2 w2 hown2 hg2))
        have hb2 : Below w.heap.size w w2 := (hb.alloc hb.size _).grown hg2 (by simp; omega) (fun r e => (World.ownsRow.lt hown r e).1)
        go_roundw
        case rel => exact ⟨j, k, l ++ [true], rfl, rfl, hlt, by omega, hown2, hb2, HN⟩
        case measure => simp [intOf]; omega
      · have HN : Hid ((l ++ [false]) ++ wayL (j - k) (m - k) = F ∧ (l ++ [false]).length + (wayL (j - k) (m - k)).length ≤ 49) := by
          have q := HL.out
          rw [HST.out, if_neg hlt] at q
          exact ⟨by rw [List.append_assoc]; exact q.1, by have := q.2; simp at this ⊢; omega⟩
        obtain ⟨j2, hj2⟩ : ∃ x, j - k = x := ⟨_, rfl⟩
        obtain ⟨m2, hm2⟩ : ∃ x, m - k = x := ⟨_, rfl⟩
        rw [hj2, hm2] at HN
        have e1 : (j : Int) - (k : Int) = (j2 : Int) := by omega
        have e2 : (m : Int) - (k : Int) = (m2 : Int) := by omega
        have e3 : j2 < m2 := by omega
        have e4 : m2 < m := by omega
        have hown' := fun o => hown.alloc o
        clear hst HST HL h1 hj2 hm2
        go_wp2_with (first | (go_at_call 189; go_loud (refine (hH _).mono ?_); rintro e w' ⟨rfl, rfl⟩) | ((with_reducible refine gate_dst (N := 16) rfl ?_); go_loud (refine wp_appT rfl _ _ rfl (hown' _) rfl (ad := ⟨wr.heap.size, 0, none⟩) (b := false) rfl (cell_new wr false) (by omega) (by simp; omega) ?_); intro v2 w2 hown2 hg2))
        have hb2 : Below w.heap.size w w2 := (hb.alloc hb.size _).grown hg2 (by simp; omega) (fun r e => (World.ownsRow.lt hown r e).1)
        go_roundw
        case rel => exact ⟨j2, m2, l ++ [false], by first | rfl | rw [e1], by first | rfl | rw [e2], e3, by omega, hown2, hb2, HN⟩
        case measure => simp [intOf]; omega
/-- How many digests a proof has. -/
def rightB (i n : Int) : Bool := decide (1 ≤ n) && decide (n ≤ 281474976710656) && decide (0 ≤ i) && decide (i < n)
def lenN (i n : Int) : Nat := (wayL i.toNat n.toNat).length
def ordB (m n : Int) : Bool := decide (1 ≤ m) && decide (m ≤ n) && decide (n ≤ 281474976710656)
def stN (m n : Int) : Nat := (stL m.toNat n.toNat).1.length + if (stL m.toNat n.toNat).2 then 0 else 1
set_option maxRecDepth 100000 in
theorem right_calls (i n : Int) (w : World) : Calls Tryd.prog 133 #[.int .i64 i, .int .i64 n] w fun e w' => e = .returned (.bool (rightB i n)) ∧ w = w' := by
  unfold rightB
  rcases (show n < 1 ∨ 281474976710656 < n ∨ (1 ≤ n ∧ n ≤ 281474976710656 ∧ i < 0) ∨ (1 ≤ n ∧ n ≤ 281474976710656 ∧ 0 ≤ i) by omega) with h | h | ⟨h1, h2, h3⟩ | ⟨h1, h2, h3⟩
  · have d : decide (1 ≤ n) = false := decide_eq_false (by omega)
    rw [d]
    go_enter Tryd.func133, Tryd.ntmps133
    go_wp2_with fail
    go_ret
    exact ⟨rfl, rfl⟩
  · have d : decide (1 ≤ n) = true := decide_eq_true (by omega)
    have d2 : decide (n ≤ 281474976710656) = false := decide_eq_false (by omega)
    rw [d, d2]
    go_enter Tryd.func133, Tryd.ntmps133
    go_wp2_with fail
    go_ret
    exact ⟨rfl, rfl⟩
  · have d : decide (1 ≤ n) = true := decide_eq_true (by omega)
    have d2 : decide (n ≤ 281474976710656) = true := decide_eq_true (by omega)
    have d3 : decide (0 ≤ i) = false := decide_eq_false (by omega)
    rw [d, d2, d3]
    go_enter Tryd.func133, Tryd.ntmps133
    go_wp2_with fail
    go_ret
    exact ⟨rfl, rfl⟩
  · have d : decide (1 ≤ n) = true := decide_eq_true (by omega)
    have d2 : decide (n ≤ 281474976710656) = true := decide_eq_true (by omega)
    have d3 : decide (0 ≤ i) = true := decide_eq_true (by omega)
    rw [d, d2, d3]
    go_enter Tryd.func133, Tryd.ntmps133
    go_wp2_with fail
    go_ret
    exact ⟨rfl, rfl⟩
set_option maxRecDepth 100000 in
theorem deep_calls : ∀ (k i n : Nat), n ≤ k → i < n → n ≤ 281474976710656 → ∀ (w : World), Calls Tryd.prog 192 #[.int .i64 (i : Int), .int .i64 (n : Int)] w fun e w' => e = .returned (.int .i64 ((wayL i n).length : Int)) ∧ w = w' := by
  intro k
  induction k with
  | zero => intro i n h1 h2; omega
  | succ k ih =>
    intro i n hk hi hn w
    by_cases h1 : n = 1
    · subst h1
      rw [wayL_one]
      clear ih
      go_enter Tryd.func192, Tryd.ntmps192
      go_wp2_with fail
      go_ret
      exact ⟨rfl, rfl⟩
    · have hne : ((n : Int) == 1) = false := by simp; omega
      have hH := rhalf_calls n (by omega) (by omega)
      obtain ⟨q1, q2, q3⟩ := H_spec n (by omega) (by omega)
      have hst := wayL_step i n (by omega) (by omega)
      have hl1 := wayL_len i (H n)
      have hl2 := wayL_len (i - H n) (n - H n)
      have ih1 := ih i (H n) (by omega)
      have ih2 := ih (i - H n) (n - H n) (by omega)
      rw [hst]
      obtain ⟨K, hK⟩ : ∃ K, H n = K := ⟨_, rfl⟩
      rw [hK] at hH q1 q2 q3 hl1 hl2 ih1 ih2 ⊢
      clear hst
      by_cases hlt : i < K
      · have ih1' := ih1 hlt (by omega)
        rw [if_pos hlt, List.length_cons]
        generalize (wayL i K).length = L at ih1' hl1 ⊢
        have HI := Lib.hid ih1'
        clear ih ih1 ih2 ih1' hK hl2 h1
        have hc : ((L + 1 : Nat) : Int) = 1 + (L : Int) := by omega
        rw [hc]
        clear hc
        go_enter Tryd.func192, Tryd.ntmps192
        go_wp2_with (first | (go_at_call 193; go_loud (refine (hH _).mono ?_); rintro e w' ⟨rfl, rfl⟩) | (go_at_call 192; go_loud (refine (HI.out _).mono ?_); rintro e w' ⟨rfl, rfl⟩))
        go_ret
        exact ⟨rfl, rfl⟩
      · have ih2' := ih2 (by omega) (by omega)
        rw [if_neg hlt, List.length_cons]
        generalize (wayL (i - K) (n - K)).length = L at ih2' hl2 ⊢
        obtain ⟨j2, hj2⟩ : ∃ x, i - K = x := ⟨_, rfl⟩
        obtain ⟨m2, hm2⟩ : ∃ x, n - K = x := ⟨_, rfl⟩
        rw [hj2, hm2] at ih2'
        have e1 : (i : Int) - (K : Int) = (j2 : Int) := by omega
        have e2 : (n : Int) - (K : Int) = (m2 : Int) := by omega
        have HI := Lib.hid ih2'
        clear ih ih1 ih2 ih2' hK hl1 h1 hj2 hm2
        have hc : ((L + 1 : Nat) : Int) = 1 + (L : Int) := by omega
        rw [hc]
        clear hc
        go_enter Tryd.func192, Tryd.ntmps192
        go_wp2_with (first | (go_at_call 193; go_loud (refine (hH _).mono ?_); rintro e w' ⟨rfl, rfl⟩) | (go_at_call 192; go_loud (refine (HI.out _).mono ?_); rintro e w' ⟨rfl, rfl⟩))
        go_ret
        exact ⟨rfl, rfl⟩
set_option maxRecDepth 100000 in
theorem rlength_calls (i n : Int) (w : World) : Calls Tryd.prog 140 #[.int .i64 i, .int .i64 n] w fun e w' => e = .returned (if rightB i n then .tuple #[.int .i64 (lenN i n : Int), .int .i64 0] else .tuple #[.int .i64 0, .int .i64 40]) ∧ w = w' := by
  by_cases hc : 1 ≤ n ∧ n ≤ 281474976710656 ∧ 0 ≤ i ∧ i < n
  · obtain ⟨b1, b2, b3, b4⟩ := hc
    rw [show rightB i n = true by simp [rightB]; omega, if_pos rfl]
    obtain ⟨i, rfl⟩ := Int.eq_ofNat_of_zero_le b3
    obtain ⟨n, rfl⟩ := Int.eq_ofNat_of_zero_le (show 0 ≤ n by omega)
    have hw := deep_calls n i n (Nat.le_refl _) (by omega) (by omega) w
    rw [show lenN (i : Int) (n : Int) = (wayL i n).length from rfl]
    generalize (wayL i n).length = L at hw ⊢
    have d1 : decide ((n : Int) < 1) = false := decide_eq_false (by omega)
    have d2 : decide (281474976710656 < (n : Int)) = false := decide_eq_false (by omega)
    have d3 : decide ((i : Int) < 0) = false := decide_eq_false (by omega)
    have d4 : decide ((n : Int) ≤ (i : Int)) = false := decide_eq_false (by omega)
    go_enter Tryd.func140, Tryd.ntmps140
    go_wp2_with (go_at_call 192; go_loud (refine hw.mono ?_); rintro e w' ⟨rfl, rfl⟩)
    go_ret2
    exact ⟨rfl, rfl⟩
  · rw [show rightB i n = false by simp [rightB]; omega]
    rcases (show n < 1 ∨ (1 ≤ n ∧ 281474976710656 < n) ∨ (1 ≤ n ∧ n ≤ 281474976710656 ∧ i < 0) ∨ (1 ≤ n ∧ n ≤ 281474976710656 ∧ 0 ≤ i ∧ n ≤ i) by omega) with h | ⟨h1, h2⟩ | ⟨h1, h2, h3⟩ | ⟨h1, h2, h3, h4⟩ <;>
    · clear hc
      go_enter Tryd.func140, Tryd.ntmps140
      go_wp2_with fail
      go_ret2
      exact ⟨rfl, rfl⟩
end Go.Proofs.YtnecgoahdkfbeaaDoor.Ver
