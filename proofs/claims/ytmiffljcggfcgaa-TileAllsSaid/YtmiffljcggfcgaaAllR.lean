/- The reference's All: its contract. -/
import Derived.Test.YtmiffljcggfcgaaAllI
import Derived.Test.YtmiffljcggfcgaaTileV
namespace Go.Proofs.Ytmiffljcggfcgaa.Til
open Go Go.RowKit Go.Proofs.Ytmiffljcggfcgaa.Cop
set_option linter.unusedVariables false
set_option linter.unusedSimpArgs false

theorem infoT : (Try.prog.info? 25).map (fun i => (i.zero, i.size, i.bytes)) = some (some (.agg #[.int .i64 0, .int .i64 0, .int .i64 0, .int .i64 0]), 4, 32) := by kernel_rfl
theorem sizeT : (Try.prog.info? 25).map (fun i => i.size) = some 4 := by kernel_rfl
theorem aggT (w : World) : (isAgg 25).run Try.prog w = .ok true w := by kernel_rfl
/-- A tile's cells. -/
def tcs (h : Int) (m : Nat) (x : Nat × Nat) : List Value := [.int .i64 h, .int .i64 (x.1 : Int), .int .i64 (x.2 : Int), .int .i64 (tw h (over h x.1 m) x.2 : Int)]
theorem tcs_len (h : Int) (m : Nat) (ys : List (Nat × Nat)) : (ys.flatMap (tcs h m)).length = ys.length * 4 := by
  induction ys with
  | nil => rfl
  | cons x r ih => rw [List.flatMap_cons, List.length_append, ih, List.length_cons]; simp [tcs]; omega
theorem tcs_one (h : Int) (m : Nat) (x : Nat × Nat) : ∀ u ∈ tcs h m x, u.oneCell' = true := by
  intro u hu
  simp only [tcs, List.mem_cons, List.not_mem_nil, or_false] at hu
  rcases hu with rfl | rfl | rfl | rfl <;> rfl
def OwnT (base : Nat) (w : World) (h : Int) (m : Nat) (v : Value) (ys : List (Nat × Nat)) : Prop := w.ownsRow base 25 4 v ys.length (ys.flatMap (tcs h m))
theorem OwnT.nil (base : Nat) (w : World) (h : Int) (m : Nat) : OwnT base w h m (.slice none 0 0) [] := World.ownsRow_nil _ _ _ _
/-- How far the reference is: what it has is a beginning; while there is room, what lacks is 'rest'. -/
def Far (k : Nat) (E ys rest : List (Nat × Nat)) : Prop := ys.length ≤ k ∧ ((ys.length < k ∧ ys ++ rest = E) ∨ (ys.length = k ∧ ∃ t, ys ++ t = E))
theorem Far.fin {k : Nat} {E ys : List (Nat × Nat)} (h : Far k E ys []) : ys = E.take k := by
  rcases h.2 with ⟨h1, h2⟩ | ⟨h1, t, h2⟩
  · rw [List.append_nil] at h2
    rw [← h2, List.take_of_length_le (by omega)]
  · rw [← h2, ← h1, List.take_left']; rfl
theorem Far.full {k : Nat} {E ys rest rest' : List (Nat × Nat)} (h : Far k E ys rest) (hk : ¬ ys.length < k) : Far k E ys rest' := by
  rcases h.2 with ⟨h1, _⟩ | h1
  · exact absurd h1 hk
  · exact ⟨h.1, .inr h1⟩
theorem Far.same {k : Nat} {E ys rest rest' : List (Nat × Nat)} (h : Far k E ys rest) (e : rest = rest') : Far k E ys rest' := e ▸ h
theorem Far.more {k : Nat} {E ys rest : List (Nat × Nat)} {x : Nat × Nat} (h : Far k E ys (x :: rest)) (hk : ys.length < k) : Far k E (ys ++ [x]) rest := by
  rcases h.2 with ⟨h1, h2⟩ | ⟨h1, _⟩
  · refine ⟨by simp; omega, ?_⟩
    have h3 : (ys ++ [x]) ++ rest = E := by rw [← h2]; simp
    rcases Nat.lt_or_ge (ys.length + 1) k with h4 | h4
    · exact .inl ⟨by simpa using h4, h3⟩
    · exact .inr ⟨by simp; omega, rest, h3⟩
  · omega
theorem ownT_below {base : Nat} {w w' : World} {h : Int} {m : Nat} {v : Value} {ys : List (Nat × Nat)} (ho : OwnT base w h m v ys) (hb : Below w.heap.size w w') : OwnT base w' h m v ys := own_below ho hb
theorem tw_zero (h : Int) (hh : ht h = true) (a i : Nat) : tw h a i = 0 ↔ ¬ i < cnt h a := by
  rw [cnt_lt]
  have hp : 0 < 2 ^ h.toNat := Nat.pow_pos (by decide)
  constructor
  · intro h0 hlt
    rw [tw_min h a i hlt] at h0
    omega
  · intro hn
    unfold tw
    split
    · rfl
    · omega

set_option maxHeartbeats 4000000 in
set_option maxRecDepth 100000 in
theorem rall_yes (h : Int) (m k : Nat) (w : World) (hh : ht h = true) (hm : m ≤ 281474976710656) (hk0 : 1 ≤ k) (hk : k ≤ 500) :
    Calls Try.prog 23 #[.int .i64 h, .int .i64 (m : Int), .int .i64 (k : Int)] w fun e w' => ∃ v, e = .returned v ∧ OwnT w.heap.size w' h m v ((levL h m 0).take k) ∧ Below w.heap.size w w' := by
  have hrl : ∀ w, Calls Try.prog 22 #[.int .i64 h, .int .i64 (m : Int)] w fun e w' => e = .returned (.tuple #[.int .i64 (lv h m : Int), .int .i64 0]) ∧ Below w.heap.size w w' := fun w => rlevels_yes h m w hh hm
  have hlv := lv_le h m hh hm
  obtain ⟨lvn, hlvn⟩ : ∃ x, lv h m = x := ⟨_, rfl⟩
  rw [hlvn] at hlv hrl
  obtain ⟨E, hE⟩ : ∃ E, levL h m 0 = E := ⟨_, rfl⟩
  have hrw : ∀ (L i : Nat) w, L ≤ 60 → i ≤ 1000 → Calls Try.prog 20 #[.int .i64 h, .int .i64 (L : Int), .int .i64 (i : Int), .int .i64 (m : Int)] w fun e w' => e = .returned (.tuple #[.int .i64 (tw h (over h L m) i : Int), .int .i64 0]) ∧ Below w.heap.size w w' := by
    intro L i w hL hi
    exact rwidth_yes h L i m w (by omega) (by omega) (by unfold wdErr; rw [if_neg (by omega), if_neg (by omega)]; exact wr_ok hh (by omega) (by omega))
  have HRL := Lib.hid hrl
  have HRW := Lib.hid hrw
  have HLV := Lib.hid hlvn
  have HE := Lib.hid hE
  have HH := Lib.hid hh
  rw [hE]
  clear hrl hrw hlvn hE hh
  go_enter Try.func23, Try.ntmps23
  go_wp2_with fail
  refine (HRL.out _).mono ?_
  rintro e w1 ⟨rfl, hb1⟩
  go_wp2_with fail
  go_loopw [7, 10] (fun u i wr => ∃ (L : Nat) (ys : List (Nat × Nat)), L ≤ lvn ∧ i = .int .i64 (L : Int) ∧ OwnT w.heap.size wr h m u ys ∧ Hid (Far k E ys (levL h m L)) ∧ ys.length ≤ k ∧ Below w.heap.size w wr) (fun _ i _ => lvn - (intOf i).toNat)
  case atStart => exact ⟨0, [], Nat.zero_le _, rfl, OwnT.nil _ _ _ _, Lib.hid ⟨by simp, .inl ⟨by simp; omega, HE.out⟩⟩, by simp, hb1⟩
  case round =>
    obtain ⟨L, ys, hL, rfl, hown, HF, hys, hbel⟩ := hrel
    obtain ⟨w0, hw0⟩ : ∃ w0 : World, w0 = wr := ⟨_, rfl⟩
    subst hw0
    by_cases hlt : L < lvn
    · have d1 : decide ((L : Int) < (lvn : Int)) = true := decide_eq_true (by omega)
      have hst := levL_step h m L (by rw [HLV.out]; exact hlt)
      have HST := Lib.hid hst
      clear hst
      go_wp2_with fail
      go_loopw [7, 11] (fun u i wr => ∃ (j : Nat) (zs : List (Nat × Nat)), i = .int .i64 (j : Int) ∧ OwnT w.heap.size wr h m u zs ∧ Hid (Far k E zs (atL h m L j ++ levL h m (L + 1))) ∧ zs.length ≤ k ∧ j ≤ zs.length ∧ Below w.heap.size w wr) (fun _ i _ => k + 1 - (intOf i).toNat)
      case atStart => exact ⟨0, ys, rfl, hown, Lib.hid (HF.out.same HST.out), hys, by omega, hbel⟩
      case round =>
        obtain ⟨j, zs, rfl, hown2, HF2, hzs, hjz, hbel2⟩ := hrel
        by_cases hroom : zs.length < k
        · have d2 : decide ((zs.length : Int) < (k : Int)) = true := decide_eq_true (by omega)
          obtain ⟨t, ht'⟩ : ∃ t, tw h (over h L m) j = t := ⟨_, rfl⟩
          have hrw := HRW.out L j
          rw [ht'] at hrw
          have HRW2 := Lib.hid hrw
          have htz := tw_zero h HH.out (over h L m) j
          rw [ht'] at htz
          have HTZ := Lib.hid htz
          have HT := Lib.hid ht'
          clear hrw htz ht'
          by_cases hz : t = 0
          · have d3 : ((t : Int) == 0) = true := by simp; omega
            have hf2 := HF2.out
            rw [atL_end h m L j (HTZ.out.1 hz), List.nil_append] at hf2
            have HF3 := Lib.hid hf2
            clear hf2 hz
            go_wp2_with (first | ((with_reducible refine gate_dst (N := 28) rfl ?_); go_loud (refine wp_len rfl _ 34 25 rfl Try.underlying34 rfl (Row.of_own hown2) ?_)) | (go_at_call 20; go_loud (refine (HRW2.out _ (by omega) (by omega)).mono ?_); rintro e w2 ⟨rfl, hb2⟩))
            have hown3 : OwnT w.heap.size w2 h m _ zs := ownT_below hown2 hb2
            have hbel3 := hbel2.trans (hb2.mono hbel2.size)
            go_roundw
            case rel => exact ⟨L + 1, zs, by omega, by first | rfl | go_num, hown3, HF3, hzs, hbel3⟩
            case measure => simp [intOf]; omega
          · have d3 : ((t : Int) == 0) = false := by simp; omega
            have hlt2 : j < cnt h (over h L m) := by
              by_cases hc : j < cnt h (over h L m)
              · exact hc
              · exact absurd (HTZ.out.2 hc) hz
            have hf2 := HF2.out
            rw [atL_step h m L j hlt2, List.cons_append] at hf2
            have HF3 := Lib.hid (hf2.more hroom)
            clear hf2 hz hlt2
            go_wp2_with (first | ((with_reducible refine gate_dst (N := 28) rfl ?_); go_loud (refine wp_len rfl _ 34 25 rfl Try.underlying34 rfl (Row.of_own hown2) ?_)) | (go_at_call 20; go_loud (refine (HRW2.out _ (by omega) (by omega)).mono ?_); rintro e w2 ⟨rfl, hb2⟩; have hown3 : OwnT w.heap.size w2 h m _ zs := ownT_below hown2 hb2; have hbel3 := hbel2.trans (hb2.mono hbel2.size)) | ((with_reducible refine gate_dst (N := 50) rfl ?_); (refine wp_append rfl (.tmp 43) (.tmp 49) 34 25 rfl Try.underlying34 infoT rfl (by decide) (base := w.heap.size) (n := zs.length) (xs := zs.flatMap (tcs h m)) rfl (World.ownsRow.alloc hown3 _) (m := 1) (cs := [.int .i64 h, .int .i64 (L : Int), .int .i64 (j : Int), .int .i64 (t : Int)]) rfl (Row.lit _ [.int .i64 h, .int .i64 (L : Int), .int .i64 (j : Int), .int .i64 (t : Int)] _ 1 (by unfold maxLen; omega)) rfl (by intro u hu; simp only [List.mem_cons, List.not_mem_nil, or_false] at hu; rcases hu with rfl | rfl | rfl | rfl <;> rfl) (by unfold maxLen; omega) (by omega) (by have := hbel3.size; simp; omega) ?_); intro v' w3 hown4 hgrow4))
            have hbel4 : Below w.heap.size w w3 := (hbel3.alloc hbel3.size _).grown hgrow4 (by have := hbel3.size; simp; omega) (fun q hq => (World.ownsRow.lt hown3 q hq).1)
            have hown5 : OwnT w.heap.size w3 h m v' (zs ++ [(L, j)]) := by
              unfold OwnT
              rw [List.length_append, List.flatMap_append]
              have e : [(L, j)].flatMap (tcs h m) = [.int .i64 h, .int .i64 (L : Int), .int .i64 (j : Int), .int .i64 (t : Int)] := by
                simp only [List.flatMap_cons, List.flatMap_nil, List.append_nil, tcs, HT.out]
              rw [e]
              exact hown4
            clear hown4 hgrow4 hown3 hown2
            go_roundw
            case rel => exact ⟨j + 1, _, by first | rfl | go_num, hown5, HF3, by simp; omega, by simp; omega, hbel4⟩
            case measure => simp [intOf]; omega
        · have d2 : decide ((zs.length : Int) < (k : Int)) = false := decide_eq_false (by omega)
          have HF3 := Lib.hid (HF2.out.full (rest' := levL h m (L + 1)) hroom)
          go_wp2_with ((with_reducible refine gate_dst (N := 28) rfl ?_); go_loud (refine wp_len rfl _ 34 25 rfl Try.underlying34 rfl (Row.of_own hown2) ?_))
          go_roundw
          case rel => exact ⟨L + 1, zs, by omega, by first | rfl | go_num, hown2, HF3, hzs, hbel2⟩
          case measure => simp [intOf]; omega
    · have d1 : decide ((L : Int) < (lvn : Int)) = false := decide_eq_false (by omega)
      have hf := HF.out
      rw [levL_end h m L (by rw [HLV.out]; omega)] at hf
      have hfin := hf.fin
      have HFIN := Lib.hid hfin
      clear hf hfin
      go_wp2_with fail
      go_ret
      exact ⟨_, rfl, by rw [← HFIN.out]; exact hown, hbel⟩

theorem rall_calls (h n : Int) (k : Nat) (w : World) (hn : -9223372036854775808 ≤ n ∧ n ≤ 9223372036854775807) (hk0 : 1 ≤ k) (hk : k ≤ 500) :
    Calls Try.prog 23 #[.int .i64 h, .int .i64 n, .int .i64 (k : Int)] w fun e w' => ∃ v, e = .returned v ∧ OwnT w.heap.size w' h n.toNat v ((allT h n).take k) ∧ Below w.heap.size w w' := by
  by_cases e0 : wr h n = 0
  · obtain ⟨hh, h0, h1⟩ := wr_zero e0
    obtain ⟨m, rfl⟩ : ∃ m : Nat, n = (m : Int) := ⟨n.toNat, by omega⟩
    have := rall_yes h m k w hh (by omega) hk0 hk
    unfold allT
    rw [if_pos e0, Int.toNat_natCast]
    exact this
  · have hl := fun w => rlevels_calls h n w hn
    have e1 : allT h n = [] := by unfold allT; rw [if_neg e0]
    rw [e1]
    obtain ⟨x, hx⟩ : ∃ x, wr h n = x := ⟨_, rfl⟩
    obtain ⟨y, hy⟩ : ∃ y, lvo h n = y := ⟨_, rfl⟩
    rw [hx] at e0
    simp only [hx, hy] at hl
    have d1 : (x != 0) = true := by simpa using e0
    have HL := Lib.hid hl
    clear hl hx hy e1 e0
    go_enter Try.func23, Try.ntmps23
    go_wp2_with fail
    refine (HL.out _).mono ?_
    rintro e w1 ⟨rfl, hb1⟩
    go_wp2_with fail
    go_ret
    exact ⟨_, rfl, by rw [List.take_nil]; exact OwnT.nil _ _ _ _, hb1⟩
end Go.Proofs.Ytmiffljcggfcgaa.Til
