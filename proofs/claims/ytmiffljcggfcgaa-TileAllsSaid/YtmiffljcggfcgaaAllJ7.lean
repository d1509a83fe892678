/- tile.All's iterator at the height 7. -/
import Derived.Test.YtmiffljcggfcgaaAllI
namespace Go.Proofs.Ytmiffljcggfcgaa.Til
open Go Go.RowKit Go.Shelf Go.Proofs.Ytmiffljcggfcgaa.Cop Go.Proofs.Ytmiffljcggfcgaa.Chk
set_option linter.unusedVariables false
set_option linter.unusedSimpArgs false
attribute [local go_sem] Oper.semAt_some
attribute [local go_sem] min2_int min_two

set_option maxRecDepth 100000 in
set_option maxHeartbeats 4000000 in
theorem all1_in_7 (l Bh Bn m : Nat) (hm : m ≤ 281474976710656) (J Jx : List (Nat × Nat) → World → Prop)
    (hY : ∀ pre x W, J pre W → pre.length < (levL 7 m 0).length + 1 → YieldAt Fence.wide (2 - 1) Try.prog l #[tileV 7 m x] W fun e W' =>
      (e = .returned (.bool true) ∧ J (pre ++ [x]) W' ∧ Keep2 Bh Bn W W') ∨ (e = .returned (.bool false) ∧ Jx (pre ++ [x]) W'))
    (W : World) (hBh : W.cell? ⟨Bh, 0, none⟩ = some (.int .i64 7)) (hBn : W.cell? ⟨Bn, 0, none⟩ = some (.int .i64 (m : Int))) (hJb : ∀ pre A B, J pre A → Below A.heap.size A B → J pre B) (h0 : J [] W) :
    CallsIn Fence.wide 2 Try.prog 57 #[.func (.yield l) #[] #[], .pointer (some ⟨Bh, 0, none⟩), .pointer (some ⟨Bn, 0, none⟩)] W fun e W' => (∃ v, e = .returned v) ∧
      ((∃ ys : List (Nat × Nat), ys = levL 7 m 0 ∧ J ys W') ∨ (∃ pre, (∃ t, pre ++ t = levL 7 m 0) ∧ Jx pre W')) := by
  have hlc : ∀ w, Calls Try.prog 21 #[.int .i64 7, .int .i64 (m : Int)] w fun e w' => e = .returned (.tuple #[.int .i64 (lv 7 m : Int), .int .i64 0]) ∧ Below w.heap.size w w' := fun w => levels_yes 7 m w (by decide) hm
  have hoc : ∀ (L : Nat) w, L ≤ 49 → Calls Try.prog 55 #[.int .i64 7, .int .i64 (L : Int), .int .i64 (m : Int)] w fun e w' => e = .returned (.int .i64 (over 7 L m : Int)) ∧ w = w' := fun L w hL => over_calls 7 L m w (by decide) (by omega) hm
  have hlv := lv_le 7 m (by decide) hm
  have HLC := Lib.hid hlc
  have HOC := Lib.hid hoc
  have HYY := Lib.hid hY
  have HJB := Lib.hid hJb
  clear hlc hoc hY hJb
  obtain ⟨lvn, hlvn⟩ : ∃ x, lv 7 m = x := ⟨_, rfl⟩
  rw [hlvn] at hlv HLC
  have HLV := Lib.hid hlvn
  clear hlvn
  have hcnt : ∀ a i, i < cnt 7 a ↔ i * 2 ^ (7 : Int).toNat < a := fun a i => cnt_lt 7 a i
  refine callsIn_of_wp Try.func57 rfl trivial ?_ rfl
  simp only [Try.ntmps57, List.size_toArray, List.length_cons, List.length_nil, Nat.reduceAdd, Nat.reduceSub, Array.replicate_succ, Array.replicate_zero, List.push_toArray, List.append_toArray, List.nil_append, List.cons_append]
  simp only [k7, Nat.reducePow] at hcnt
  have HCNT := Lib.hid hcnt
  clear hcnt
  gi_wp2_with (refine ⟨trivial, ?_⟩; gi_at_call 21; refine (callsIn_wide.2 (HLC.out _)).mono ?_; rintro e w1 ⟨rfl, hb1⟩)
  have hJ1 := HJB.out [] _ _ h0 hb1
  have hch1 := (hb1.cell (p := ⟨Bh, 0, none⟩) (cell_lt hBh)).trans hBh
  have hcn1 := (hb1.cell (p := ⟨Bn, 0, none⟩) (cell_lt hBn)).trans hBn
  clear hb1 h0 hBh hBn
  gi_loopw [16] (fun i wr => ∃ (L : Nat) (ys : List (Nat × Nat)), L ≤ lvn ∧ i = .int .i64 (L : Int) ∧ Hid (ys ++ levL 7 m L = levL 7 m 0) ∧ J ys wr ∧ wr.cell? ⟨Bh, 0, none⟩ = some (.int .i64 7) ∧ wr.cell? ⟨Bn, 0, none⟩ = some (.int .i64 (m : Int))) (fun i _ => lvn - (intOf i).toNat)
  case atStart => exact ⟨0, [], Nat.zero_le _, rfl, Lib.hid rfl, hJ1, hch1, hcn1⟩
  case round =>
    obtain ⟨L, ys, hL, rfl, HYS, hJs, hch, hcn⟩ := hrel
    obtain ⟨w0, hw0⟩ : ∃ w0 : World, w0 = wr := ⟨_, rfl⟩
    subst hw0
    by_cases hlt : L < lvn
    · have d1 : decide ((L : Int) < (lvn : Int)) = true := decide_eq_true (by omega)
      obtain ⟨a, ha⟩ : ∃ a, over 7 L m = a := ⟨_, rfl⟩
      have hal : a ≤ m := by rw [← ha]; exact over_le 7 L m
      have hoc := HOC.out L
      rw [ha] at hoc
      have HOCL := Lib.hid hoc
      have hst := levL_step 7 m L (by rw [HLV.out]; exact hlt)
      have HA := Lib.hid ha
      have HST := Lib.hid hst
      clear hoc ha hst
      gi_wp2_with (refine ⟨trivial, ?_⟩; gi_at_call 55; refine (callsIn_wide.2 (HOCL.out _ (by omega))).mono ?_; rintro e w' ⟨rfl, rfl⟩)
      gi_loopw [8] (fun i wr => ∃ (j : Nat) (zs : List (Nat × Nat)), j ≤ cnt 7 a ∧ i = .int .i64 (j : Int) ∧ Hid (zs ++ (atL 7 m L j ++ levL 7 m (L + 1)) = levL 7 m 0) ∧ J zs wr ∧ wr.cell? ⟨Bh, 0, none⟩ = some (.int .i64 7) ∧ wr.cell? ⟨Bn, 0, none⟩ = some (.int .i64 (m : Int))) (fun i _ => cnt 7 a - (intOf i).toNat)
      case atStart => exact ⟨0, ys, Nat.zero_le _, rfl, Lib.hid (by have := HYS.out; rw [HST.out] at this; exact this), hJs, hch, hcn⟩
      case round =>
        obtain ⟨j, zs, hj, rfl, HZS, hJz, hch2, hcn2⟩ := hrel
        have hjc := HCNT.out a j
        have hjb : j ≤ a := by
          rcases Nat.lt_or_ge j (cnt 7 a) with h1 | h1
          · have := hjc.1 h1; omega
          · have h2 : j = cnt 7 a := by omega
            rcases Nat.eq_zero_or_pos j with h3 | h3
            · omega
            · have := (HCNT.out a (j - 1)).1 (by omega)
              omega
        by_cases hlt2 : j < cnt 7 a
        · have hpa : j * 128 < a := hjc.1 hlt2
          have HLT2 := Lib.hid hlt2
          clear hjc
          have d2 : decide ((j : Int) * 128 < (a : Int)) = true := decide_eq_true (by omega)
          gi_wp2_with fail
          obtain ⟨p, hp⟩ : ∃ p : Nat, p = j * 128 := ⟨_, rfl⟩
          obtain ⟨t, ht'⟩ : ∃ t : Nat, t = tw 7 a j := ⟨_, rfl⟩
          have htm : t = min (a - j * 128) 128 := by rw [ht', tw_min 7 a j (by simpa only [k7, Nat.reducePow] using hpa)]; rfl
          have e0 : IntKind.i64.wrap 128 = 128 := IntWalk.i64_in _ (by omega)
          obtain ⟨q, hq⟩ : ∃ q : Nat, q = a - j * 128 := ⟨_, rfl⟩
          have e1 : IntKind.i64.wrap ((j : Int) * 128) = (p : Int) := by rw [IntWalk.i64_in _ (by omega)]; omega
          have e3 : IntKind.i64.wrap ((a : Int) - (p : Int)) = (q : Int) := by rw [IntWalk.i64_in _ (by omega)]; omega
          have d3 : decide ((p : Int) < (a : Int)) = true := decide_eq_true (by omega)
          have e2 : (if (128 : Int) < (q : Int) then (128 : Int) else (q : Int)) = (t : Int) := by split <;> omega
          clear hp hq
          have HT := Lib.hid ht'
          have hlen : zs.length < (levL 7 m 0).length + 1 := by have := congrArg List.length HZS.out; rw [List.length_append] at this; omega
          have hJd := HJB.out zs _ _ hJz ((Below.refl wr.heap.size wr).drew)
          obtain ⟨fn, tmps, assign, body, hy, hR⟩ := HYY.out zs (L, j) wr.drew hJd hlen
          have hty : tileV 7 m (L, j) = .agg #[.int .i64 7, .int .i64 (L : Int), .int .i64 (j : Int), .int .i64 (t : Int)] := by
            unfold tileV
            rw [HT.out, ← HA.out]
          rw [hty] at hy
          have hR2 := hR.mono (R' := fun e W' => ∃ b : Bool, e = .returned (.bool b) ∧ ((b = true ∧ J (zs ++ [(L, j)]) W' ∧ Keep2 Bh Bn wr.drew W') ∨ (b = false ∧ Jx (zs ++ [(L, j)]) W'))) (fun e W' h => by
            rcases h with ⟨h1, h2, h3⟩ | ⟨h1, h2⟩
            · exact ⟨true, h1, .inl ⟨rfl, h2, h3⟩⟩
            · exact ⟨false, h1, .inr ⟨rfl, h2⟩⟩)
          have hmix : Try.prog.follows .mixedOrders = true := by kernel_rfl
          clear ht' htm hlt2 hty hJd hlen
          gi_region_with_o (refine hR2.mono ?_; rintro e W3 ⟨b, rfl, h3⟩; have H3 := Lib.hid h3; clear h3)
          all_goals
            have hat := atL_step 7 m L j (by rw [HA.out]; exact HLT2.out)
            have hz := HZS.out
            rw [hat] at hz
            have HZ2 : Hid ((zs ++ [(L, j)]) ++ (atL 7 m L (j + 1) ++ levL 7 m (L + 1)) = levL 7 m 0) := by
              show _ = _
              rw [← hz]; simp
            have hjlt : j + 1 ≤ cnt 7 a := HLT2.out
            clear hat hz hR hR2 hy e0 e1 e2 e3 hpa
            rcases H3.out with ⟨rfl, hJ3, hk3⟩ | ⟨rfl, hJx3⟩
            · have hch3 : W3.cell? ⟨Bh, 0, none⟩ = some (.int .i64 7) := hk3.cell1.trans hch2
              have hcn3 : W3.cell? ⟨Bn, 0, none⟩ = some (.int .i64 (m : Int)) := hk3.cell2.trans hcn2
              gi_wp2_with fail
              go_roundw
              case rel => exact ⟨j + 1, _, hjlt, by first | rfl | go_num, HZ2, hJ3, hch3, hcn3⟩
              case measure => simp [intOf]; omega
            · gi_wp2_with fail
              refine bodyPost_ret (results_none rfl _ _ _) rfl ?_
              exact ⟨⟨_, rfl⟩, .inr ⟨_, ⟨_, HZ2.out⟩, hJx3⟩⟩
        · have hpa : ¬ j * 128 < a := fun h => hlt2 (hjc.2 h)
          have d2 : decide ((j : Int) * 128 < (a : Int)) = false := decide_eq_false (by omega)
          have hz := HZS.out
          rw [atL_end 7 m L j (by rw [HA.out]; exact hlt2), List.nil_append] at hz
          have HZ2 := Lib.hid hz
          clear hz hjc
          gi_wp2_with fail
          go_roundw
          case rel => exact ⟨L + 1, zs, by omega, by first | rfl | go_num, HZ2, hJz, hch2, hcn2⟩
          case measure => simp [intOf]; omega
    · have hLe : L = lvn := by omega
      have d1 : decide ((L : Int) < (lvn : Int)) = false := decide_eq_false (by omega)
      gi_wp2_with fail
      go_end0
      refine ⟨⟨_, rfl⟩, .inl ⟨ys, ?_, hJs⟩⟩
      have := HYS.out
      rw [levL_end 7 m L (by rw [HLV.out]; omega), List.append_nil] at this
      exact this
end Go.Proofs.Ytmiffljcggfcgaa.Til
