/- Unbase64, the reference's: its contract. -/
import Derived.Test.YtmiffljcggfcgaaB64P
namespace Go.Proofs.Ytmiffljcggfcgaa.B64
open Go Go.RowKit Go.Proofs.Ytmiffljcggfcgaa.Cop Go.Proofs.Ytmiffljcggfcgaa.Oct Go.Proofs.Ytmiffljcggfcgaa.Hex
set_option linter.unusedVariables false
set_option linter.unusedSimpArgs false

/-- The code from the test of the letters on. -/
def cut0 (l : List UInt8) (k n : Nat) : Prop := (k = 0 ∧ n = l.length) ∨ (k = 1 ∧ n = t1 l l.length ∧ n < l.length) ∨ (k = 2 ∧ n = tn l)

set_option maxHeartbeats 4000000 in
set_option maxRecDepth 100000 in
theorem runb_calls (s : ByteArray) (w : World) (hs : s.size ≤ 1048576) : Calls Try.prog 44 #[.string s] w (SixRet s.data.toList w) := by
  have hlen : s.data.toList.length = s.size := rfl
  have htn := tn_le s.data.toList
  have ht1 := t1_le s.data.toList s.size
  have hstop : ∀ n, n ≤ s.size → ¬ (0 < n ∧ s.data.toList.getD (n - 1) 0 = 61) → t1 s.data.toList n = n := by
    intro n _ h; unfold t1; rw [if_neg h]
  have hgo : ∀ n, n ≤ s.size → (0 < n ∧ s.data.toList.getD (n - 1) 0 = 61) → t1 s.data.toList n = n - 1 := by
    intro n _ h; unfold t1; rw [if_pos h]
  have htd : tn s.data.toList = t1 s.data.toList (t1 s.data.toList s.size) := rfl
  have hbl := body_length s.data.toList
  have hle := good_le SX (body s.data.toList)
  rw [hbl] at hle
  have hsb : ∀ k (h : k < s.size) (h2 : k < tn s.data.toList), s[k] = (body s.data.toList)[k]'(by rw [hbl]; exact h2) := by
    intro k h h2
    rw [bget s k h]
    unfold body
    rw [List.getElem_take]
  have hyes : ∀ k (h : k < s.size), k < good SX (body s.data.toList) → 0 ≤ sv s[k] := by
    intro k h h2
    rw [hsb k h (by omega)]
    exact good_yes SX _ k h2
  have hno : ∀ k (h : k < s.size), k = good SX (body s.data.toList) → k < tn s.data.toList → sv s[k] < 0 := by
    intro k h e h2
    subst e
    rw [hsb _ h h2]
    exact good_no SX _ (by rw [hbl]; exact h2)
  have hrd : ∀ k (h : k < s.size), k < tn s.data.toList → read6 ((body s.data.toList).take (k + 1)) = step6 (read6 ((body s.data.toList).take k)) (sv s[k]).toNat := by
    intro k h h2
    rw [read6_succ _ k (by rw [hbl]; exact h2), hsb k h h2]
  have hr0 : read6 ((body s.data.toList).take 0) = (0, 0, []) := rfl
  have hrn : (body s.data.toList).take (tn s.data.toList) = body s.data.toList := List.take_of_length_le (by rw [hbl]; exact Nat.le_refl _)
  have hov := @six_over s.data.toList
  have hfi := @six_fine s.data.toList
  have hba := @six_bad s.data.toList
  have hpa := @six_odd s.data.toList
  rw [hlen] at hov hfi hpa
  unfold SixRet
  rw [hlen] at htn
  obtain ⟨ra, hra⟩ : ∃ x, sAt s.data.toList = x := ⟨_, rfl⟩
  obtain ⟨re, hre⟩ : ∃ x, sErr s.data.toList = x := ⟨_, rfl⟩
  obtain ⟨rb, hrb⟩ : ∃ x, sBytes s.data.toList = x := ⟨_, rfl⟩
  obtain ⟨rd, hrdd⟩ : ∃ rd : Nat → Nat × Nat × List UInt8, ∀ k, read6 ((body s.data.toList).take k) = rd k := ⟨_, fun _ => rfl⟩
  obtain ⟨g, hg⟩ : ∃ g, good SX (body s.data.toList) = g := ⟨_, rfl⟩
  rw [hra, hre, hrb] at hov hfi hba hpa
  rw [hra, hre, hrb]
  rw [← hrn] at hov hfi
  rw [hrdd] at hov hfi
  rw [hrn] at hov hfi
  simp only [hrdd] at hrd hr0
  simp only [hg] at hyes hno hov hfi hba hpa hle
  clear hra hre hrb hsb hbl hrdd
  obtain ⟨N, hN⟩ : ∃ N, N = tn s.data.toList := ⟨_, rfl⟩
  rw [← hN] at htn htd hle hno hrd hov hfi hba hpa
  have HY := Lib.hid hyes
  have HNO := Lib.hid hno
  have HRD := Lib.hid hrd
  have HR0 := Lib.hid hr0
  have HOV := Lib.hid hov
  have HFI := Lib.hid hfi
  have HBA := Lib.hid hba
  have HPA := Lib.hid hpa
  clear hyes hno hrd hr0 hov hfi hba hpa hrn hg
  have HSTOP := Lib.hid hstop
  have HGO := Lib.hid hgo
  have HTD := Lib.hid htd
  have HN := Lib.hid hN
  clear hstop hgo htd hN
  go_enter Try.func44, Try.ntmps44
  go_wp2_with fail
  go_loop [5, 6] (fun x y => ∃ n k : Nat, x = .int .i64 (n : Int) ∧ y = .int .i64 (k : Int) ∧ n ≤ s.size ∧ k ≤ 2 ∧ Hid ((k = 0 ∧ n = s.size) ∨ (k = 1 ∧ n = t1 s.data.toList s.size) ∨ (k = 2 ∧ n = N))) (fun _ y => 2 - (intOf y).toNat)
  case atStart => exact ⟨s.size, 0, rfl, rfl, Nat.le_refl _, by omega, Lib.hid (.inl ⟨rfl, rfl⟩)⟩
  case round =>
    obtain ⟨n, k, rfl, rfl, hn, hk, HK⟩ := hrel
    have hgd : ∀ (h : n - 1 < s.size), s.data.toList.getD (n - 1) 0 = s[n - 1] := fun h => bgetD s (n - 1) h
    by_cases hc : k < 2 ∧ 0 < n ∧ s.data.toList.getD (n - 1) 0 = 61
    · obtain ⟨c1, c2, c3⟩ := hc
      have hlt : n - 1 < s.size := by omega
      have h61 : s[n - 1] = 61 := by rw [← hgd hlt]; exact c3
      have hstep := HGO.out n hn ⟨c2, c3⟩
      have hnext : (k + 1 = 0 ∧ n - 1 = s.size) ∨ (k + 1 = 1 ∧ n - 1 = t1 s.data.toList s.size) ∨ (k + 1 = 2 ∧ n - 1 = N) := by
        rcases HK.out with ⟨e1, e2⟩ | ⟨e1, e2⟩ | ⟨e1, e2⟩
        · exact .inr (.inl ⟨by omega, by rw [← hstep, e2]⟩)
        · exact .inr (.inr ⟨by omega, by rw [HTD.out, ← e2, hstep]⟩)
        · omega
      obtain ⟨q, hq⟩ : ∃ q : Nat, q = n - 1 := ⟨_, rfl⟩
      rw [← hq] at hnext
      have hqn : (n : Int) - 1 = (q : Int) := by omega
      have hqlt : q < s.size := by omega
      have h61' : ((s[q].toNat : Int) == 61) = true := by
        have : s[q] = 61 := by subst hq; exact h61
        rw [this]; rfl
      have d1 : decide ((k : Int) < 2) = true := decide_eq_true (by omega)
      have d2 : decide ((0 : Int) < (n : Int)) = true := decide_eq_true (by omega)
      have HN2 := Lib.hid hnext
      have HQ := Lib.hid hq
      clear h61 hstep hnext c3 hgd hq hlt
      go_wp2_with fail
      go_round
      case rel => exact ⟨q, k + 1, rfl, by go_num, by omega, by omega, HN2⟩
      case measure => simp [intOf]; omega
    · have hnN : n = N := by
        rcases HK.out with ⟨e1, e2⟩ | ⟨e1, e2⟩ | ⟨e1, e2⟩
        · have h1 := HSTOP.out n hn (fun h => hc ⟨by omega, h⟩)
          rw [HTD.out, ← e2, h1, h1]
        · have h1 := HSTOP.out n hn (fun h => hc ⟨by omega, h⟩)
          rw [HTD.out, ← e2, h1]
        · exact e2
      have hkn : ¬ k < 2 ∨ (k < 2 ∧ n = 0) ∨ (k < 2 ∧ 0 < n ∧ ∃ h : n - 1 < s.size, s[n - 1] ≠ 61) := by
        by_cases c1 : k < 2
        · by_cases c2 : 0 < n
          · refine .inr (.inr ⟨c1, c2, by omega, fun h => hc ⟨c1, c2, ?_⟩⟩)
            rw [hgd (by omega)]; exact h
          · exact .inr (.inl ⟨c1, by omega⟩)
        · exact .inl c1
      subst hnN
      clear hc hgd HK HSTOP HGO HTD HN
      rcases hkn with c1 | ⟨c1, c2⟩ | ⟨c1, c2, c4, c3⟩
      · have d1 : decide ((k : Int) < 2) = false := decide_eq_false (by omega)
        go_wp2_with fail
        go_loop [7] (fun i => ∃ j : Nat, j ≤ g ∧ i = .int .i64 (j : Int)) (fun i => n - (intOf i).toNat)
        case atStart => exact ⟨0, Nat.zero_le _, rfl⟩
        case round =>
          obtain ⟨j, hj, rfl⟩ := hrel
          by_cases hlt : j < n
          · have e1 : decide ((j : Int) < (n : Int)) = true := decide_eq_true (by omega)
            have e2 : decide (j < n) = true := decide_eq_true hlt
            have hjs : j < s.size := by omega
            have hc := pls s[j]
            by_cases hjg : j < g
            · have hp := HY.out j hjs hjg
              obtain ⟨z, hz⟩ : ∃ z, z = sv s[j] := ⟨_, rfl⟩
              rw [← hz] at hp
              simp only [← hz] at hc
              have HC := Lib.hid hc
              clear hc hz
              go_wp2_with (go_at_call 64; go_loud (refine (HC.out _).mono ?_); rintro e w' ⟨rfl, rfl⟩)
              go_round
              case rel => exact ⟨j + 1, by omega, by go_num⟩
              case measure => simp [intOf]; omega
            · have hje : j = g := by omega
              have hp := HNO.out j hjs hje hlt
              obtain ⟨r1, r2, r3⟩ := HBA.out (by omega)
              obtain ⟨z, hz⟩ : ∃ z, z = sv s[j] := ⟨_, rfl⟩
              rw [← hz] at hp
              simp only [← hz] at hc
              have HC := Lib.hid hc
              subst hje
              have R1 := Lib.hid r1
              have R2 := Lib.hid r2
              have R3 := Lib.hid r3
              clear hc hz r1 r2 r3
              go_wp2_with (go_at_call 64; go_loud (refine (HC.out _).mono ?_); rintro e w' ⟨rfl, rfl⟩)
              go_ret3
              exact ⟨_, by rw [R1.out, R2.out]; rfl, by rw [R3.out]; exact Own.nil _ _, Below.refl _ _⟩
          have e1 : decide ((j : Int) < (n : Int)) = false := decide_eq_false (by omega)
          have e2 : decide (j < n) = false := decide_eq_false hlt
          have hgn : ¬ g < n := by omega
          by_cases hpar : s.size % 4 = 0
          case neg =>
            obtain ⟨r1, r2, r3⟩ := HPA.out hgn hpar
            have d7 : ((s.size : Int) % 4 == 0) = false := by simp; omega
            have d8 : ((s.size : Int) % 4 != 0) = true := by simp; omega
            have R1 := Lib.hid r1
            have R2 := Lib.hid r2
            have R3 := Lib.hid r3
            clear r1 r2 r3 hpar
            go_wp2_with fail
            go_ret3
            exact ⟨_, by rw [R1.out, R2.out]; rfl, by rw [R3.out]; exact Own.nil _ _, Below.refl _ _⟩
          have d7 : ((s.size : Int) % 4 == 0) = true := by simp; omega
          have d8 : ((s.size : Int) % 4 != 0) = false := by simp; omega
          have hov := HOV.out hgn hpar
          have hfi := HFI.out hgn hpar
          have HOV2 := Lib.hid hov
          have HFI2 := Lib.hid hfi
          clear hov hfi hpar HOV HFI HPA HBA HNO
          go_wp2_with fail
          go_loopw [8, 9, 10, 11] (fun u x y i wr => ∃ (i' m t : Nat) (out : List UInt8), i' ≤ n ∧ x = .int .i64 (m : Int) ∧ y = .int .i64 (t : Int) ∧ i = .int .i64 (i' : Int) ∧ Own w.heap.size wr u out ∧ Hid (rd i' = (m, t, out)) ∧ (t = 0 ∨ t = 2 ∨ t = 4 ∨ t = 6) ∧ m < 2 ^ t ∧ out.length ≤ i' ∧ Below w.heap.size w wr) (fun _ _ _ i _ => n - (intOf i).toNat)
          case atStart => exact ⟨0, 0, 0, [], Nat.zero_le _, rfl, rfl, rfl, Own.nil _ _, HR0, .inl rfl, by decide, Nat.le_refl _, Below.refl _ _⟩
          case round =>
            obtain ⟨i, m, t, out, hi, rfl, rfl, rfl, hown, HK, ht, hm, hlo, hbel⟩ := hrel
            by_cases hin : i < n
            · have e7 : decide ((i : Int) < (n : Int)) = true := decide_eq_true (by omega)
              have e8 : decide (i < n) = true := decide_eq_true hin
              have his : i < s.size := by omega
              have hp := HY.out i his (by omega)
              have hsl := sv_lt s[i]
              have hst := HRD.out i his hin
              rw [HK.out] at hst
              have hc := pls s[i]
              obtain ⟨d, hd⟩ : ∃ d : Nat, sv s[i] = (d : Int) := ⟨(sv s[i]).toNat, by omega⟩
              simp only [hd] at hc hst hsl
              rw [Int.toNat_natCast] at hst
              unfold step6 at hst
              have HC := Lib.hid hc
              have hd64 : d < 64 := by omega
              clear hc hd hp hsl
              obtain ⟨x, hx⟩ : ∃ x : Nat, x = m * 64 + d := ⟨_, rfl⟩
              rw [← hx] at hst
              have hroom : out.length ≤ 1048576 := by omega
              rcases ht with rfl | rfl | rfl | rfl
              · simp only [Nat.reduceAdd, Nat.reduceLeDiff, if_false, Nat.reducePow] at hst hm
                have e3 : (m : Int) * 64 + (d : Int) = (x : Int) := by omega
                have HST := Lib.hid hst
                have hx6 : x < 2 ^ 6 := by omega
                have HX := Lib.hid hx
                clear hst hx
                go_wp2_with (go_at_call 64; go_loud (refine (HC.out _).mono ?_); rintro e w' ⟨rfl, rfl⟩)
                go_roundw
                case rel => exact ⟨i + 1, x, 6, out, by omega, rfl, rfl, by go_num, hown, HST, by omega, hx6, by omega, hbel⟩
                case measure => simp [intOf]; omega
              · simp only [Nat.reduceAdd, Nat.reduceSub, Nat.reduceLeDiff, if_true, Nat.reducePow] at hst hm
                have hm64 : m < 64 := by omega
                have hxb : x < 4096 := by omega
                have e3 : (m : Int) * 64 + (d : Int) = (x : Int) := by omega
                have hxt : x / 1 < 256 := by omega
                have hbt : ((x : Int) % 256 : Int) = ((UInt8.ofNat (x / 1)).toNat : Int) := by rw [UInt8.toNat_ofNat']; omega
                obtain ⟨y, hy⟩ : ∃ y : Nat, y = x % 1 := ⟨_, rfl⟩
                have hyl : y < 2 ^ 0 := by rw [hy]; exact Nat.mod_lt _ (by decide)
                have e5 : (x : Int) % 1 = (y : Int) := by rw [hy]; rfl
                have e6 : ((x : Int)).tmod 1 = (y : Int) := by rw [Int.tmod_eq_emod_of_nonneg (by omega)]; exact e5
                rw [← hy] at hst
                have HST := Lib.hid hst
                have HX := Lib.hid hx
                have HM := Lib.hid hm
                have HBT := Lib.hid hbt
                have HYL := Lib.hid hyl
                have HYE := Lib.hid hy
                clear hst hx hm hbt hyl hy hxt
                go_wp2_with (first | (go_at_call 64; go_loud (refine (HC.out _).mono ?_); rintro e w' ⟨rfl, rfl⟩) | ((with_reducible refine gate_dst (N := 73) rfl ?_); (refine wp_append rfl (.tmp 66) (.tmp 72) 52 5 rfl Try.underlying52 info8 rfl (by decide) (base := w.heap.size) (n := out.length) (xs := bcs out) rfl (hown.alloc _) rfl (Row.one _ _ _) rfl (one_one rfl) (by unfold maxLen; omega) (by omega) (by have := hbel.size; simp; omega) ?_); intro v' w3 hown2 hgrow2))
                have hbel2 : Below w.heap.size w w3 := (hbel.alloc hbel.size _).grown hgrow2 (by have := hbel.size; simp; omega) (fun j hj => (hown.lt j hj).1)
                have hown3 : Own w.heap.size w3 v' (out ++ [UInt8.ofNat (x / 1)]) := by
                  unfold Own
                  rw [List.length_append, bcs_append]
                  rw [HBT.out] at hown2
                  exact hown2
                clear hown2 hgrow2 hown
                go_roundw
                case rel => exact ⟨i + 1, y, 0, _, by omega, (by rw [show y = 0 from by have := HYL.out; omega]; try rfl), rfl, by go_num, hown3, HST, by omega, HYL.out, by rw [List.length_append]; simp; omega, hbel2⟩
                case measure => simp [intOf]; omega
              · simp only [Nat.reduceAdd, Nat.reduceSub, Nat.reduceLeDiff, if_true, Nat.reducePow] at hst hm
                have hm64 : m < 64 := by omega
                have hxb : x < 4096 := by omega
                have e3 : (m : Int) * 64 + (d : Int) = (x : Int) := by omega
                have hxt : x / 4 < 256 := by omega
                have hbt : ((x : Int) / 4 % 256 : Int) = ((UInt8.ofNat (x / 4)).toNat : Int) := by rw [UInt8.toNat_ofNat']; omega
                obtain ⟨y, hy⟩ : ∃ y : Nat, y = x % 4 := ⟨_, rfl⟩
                have hyl : y < 2 ^ 2 := by rw [hy]; exact Nat.mod_lt _ (by decide)
                have e5 : (x : Int) % 4 = (y : Int) := by rw [hy]; rfl
                have e6 : ((x : Int)).tmod 4 = (y : Int) := by rw [Int.tmod_eq_emod_of_nonneg (by omega)]; exact e5
                rw [← hy] at hst
                have HST := Lib.hid hst
                have HX := Lib.hid hx
                have HM := Lib.hid hm
                have HBT := Lib.hid hbt
                have HYL := Lib.hid hyl
                have HYE := Lib.hid hy
                clear hst hx hm hbt hyl hy hxt
                go_wp2_with (first | (go_at_call 64; go_loud (refine (HC.out _).mono ?_); rintro e w' ⟨rfl, rfl⟩) | ((with_reducible refine gate_dst (N := 73) rfl ?_); (refine wp_append rfl (.tmp 66) (.tmp 72) 52 5 rfl Try.underlying52 info8 rfl (by decide) (base := w.heap.size) (n := out.length) (xs := bcs out) rfl (hown.alloc _) rfl (Row.one _ _ _) rfl (one_one rfl) (by unfold maxLen; omega) (by omega) (by have := hbel.size; simp; omega) ?_); intro v' w3 hown2 hgrow2))
                have hbel2 : Below w.heap.size w w3 := (hbel.alloc hbel.size _).grown hgrow2 (by have := hbel.size; simp; omega) (fun j hj => (hown.lt j hj).1)
                have hown3 : Own w.heap.size w3 v' (out ++ [UInt8.ofNat (x / 4)]) := by
                  unfold Own
                  rw [List.length_append, bcs_append]
                  rw [HBT.out] at hown2
                  exact hown2
                clear hown2 hgrow2 hown
                go_roundw
                case rel => exact ⟨i + 1, y, 2, _, by omega, rfl, rfl, by go_num, hown3, HST, by omega, HYL.out, by rw [List.length_append]; simp; omega, hbel2⟩
                case measure => simp [intOf]; omega
              · simp only [Nat.reduceAdd, Nat.reduceSub, Nat.reduceLeDiff, if_true, Nat.reducePow] at hst hm
                have hm64 : m < 64 := by omega
                have hxb : x < 4096 := by omega
                have e3 : (m : Int) * 64 + (d : Int) = (x : Int) := by omega
                have hxt : x / 16 < 256 := by omega
                have hbt : ((x : Int) / 16 : Int) = ((UInt8.ofNat (x / 16)).toNat : Int) := by rw [UInt8.toNat_ofNat']; omega
                obtain ⟨y, hy⟩ : ∃ y : Nat, y = x % 16 := ⟨_, rfl⟩
                have hyl : y < 2 ^ 4 := by rw [hy]; exact Nat.mod_lt _ (by decide)
                have e5 : (x : Int) % 16 = (y : Int) := by rw [hy]; rfl
                have e6 : ((x : Int)).tmod 16 = (y : Int) := by rw [Int.tmod_eq_emod_of_nonneg (by omega)]; exact e5
                rw [← hy] at hst
                have HST := Lib.hid hst
                have HX := Lib.hid hx
                have HM := Lib.hid hm
                have HBT := Lib.hid hbt
                have HYL := Lib.hid hyl
                have HYE := Lib.hid hy
                clear hst hx hm hbt hyl hy hxt
                go_wp2_with (first | (go_at_call 64; go_loud (refine (HC.out _).mono ?_); rintro e w' ⟨rfl, rfl⟩) | ((with_reducible refine gate_dst (N := 73) rfl ?_); (refine wp_append rfl (.tmp 66) (.tmp 72) 52 5 rfl Try.underlying52 info8 rfl (by decide) (base := w.heap.size) (n := out.length) (xs := bcs out) rfl (hown.alloc _) rfl (Row.one _ _ _) rfl (one_one rfl) (by unfold maxLen; omega) (by omega) (by have := hbel.size; simp; omega) ?_); intro v' w3 hown2 hgrow2))
                have hbel2 : Below w.heap.size w w3 := (hbel.alloc hbel.size _).grown hgrow2 (by have := hbel.size; simp; omega) (fun j hj => (hown.lt j hj).1)
                have hown3 : Own w.heap.size w3 v' (out ++ [UInt8.ofNat (x / 16)]) := by
                  unfold Own
                  rw [List.length_append, bcs_append]
                  rw [HBT.out] at hown2
                  exact hown2
                clear hown2 hgrow2 hown
                go_roundw
                case rel => exact ⟨i + 1, y, 4, _, by omega, rfl, rfl, by go_num, hown3, HST, by omega, HYL.out, by rw [List.length_append]; simp; omega, hbel2⟩
                case measure => simp [intOf]; omega
            · have hkb : i = n := by omega
              have e7 : decide ((i : Int) < (n : Int)) = false := decide_eq_false (by omega)
              have e8 : decide (i < n) = false := decide_eq_false hin
              have hst := HK.out
              rw [hkb] at hst
              by_cases hm0 : m = 0
              · obtain ⟨r1, r2, r3⟩ := HFI2.out (by rw [hst]; exact hm0)
                rw [hst] at r3
                subst hm0
                have R1 := Lib.hid r1
                have R2 := Lib.hid r2
                have R3 := Lib.hid r3
                clear r1 r2 r3 hst hkb
                go_wp2_with fail
                go_ret3
                exact ⟨_, by rw [R1.out, R2.out]; rfl, by rw [R3.out]; exact hown, hbel⟩
              · obtain ⟨r1, r2, r3⟩ := HOV2.out (by rw [hst]; exact hm0)
                have R1 := Lib.hid r1
                have R2 := Lib.hid r2
                have R3 := Lib.hid r3
                have d5 : ((m : Int) == 0) = false := by simp; omega
                have d6 : ((m : Int) != 0) = true := by simp; omega
                clear r1 r2 r3 hst hkb
                go_wp2_with fail
                go_ret3
                exact ⟨_, by rw [R1.out, R2.out]; rfl, by rw [R3.out]; exact Own.nil _ _, hbel⟩
      · subst c2
        have hg0 : g = 0 := by omega
        subst hg0
        have d1 : decide ((k : Int) < 2) = true := decide_eq_true (by omega)
        go_wp2_with fail
        go_loop [7] (fun i => i = .int .i64 ((0 : Nat) : Int)) (fun i => 0)
        case atStart => rfl
        case round =>
          obtain rfl := hrel
          by_cases hpar : s.size % 4 = 0
          case neg =>
            obtain ⟨r1, r2, r3⟩ := HPA.out (by omega) hpar
            have d7 : ((s.size : Int) % 4 == 0) = false := by simp; omega
            have d8 : ((s.size : Int) % 4 != 0) = true := by simp; omega
            have R1 := Lib.hid r1
            have R2 := Lib.hid r2
            have R3 := Lib.hid r3
            clear r1 r2 r3 hpar
            go_wp2_with fail
            go_ret3
            exact ⟨_, by rw [R1.out, R2.out]; rfl, by rw [R3.out]; exact Own.nil _ _, Below.refl _ _⟩
          have d7 : ((s.size : Int) % 4 == 0) = true := by simp; omega
          have d8 : ((s.size : Int) % 4 != 0) = false := by simp; omega
          obtain ⟨r1, r2, r3⟩ := HFI.out (by omega) hpar (by rw [HR0.out])
          rw [HR0.out] at r3
          have R1 := Lib.hid r1
          have R2 := Lib.hid r2
          have R3 := Lib.hid r3
          clear r1 r2 r3 hpar HOV HFI HPA HBA HNO
          go_wp2_with fail
          go_loop [8, 9, 10, 11] (fun u x y i => u = .slice none 0 0 ∧ x = .int .i64 0 ∧ i = .int .i64 0) (fun _ _ _ _ => 0)
          case atStart => exact ⟨rfl, rfl, rfl⟩
          case round =>
            obtain ⟨rfl, rfl, rfl⟩ := hrel
            go_wp2_with fail
            go_ret3
            exact ⟨_, by rw [R1.out, R2.out]; rfl, by rw [R3.out]; exact Own.nil _ _, Below.refl _ _⟩
      · obtain ⟨q, hq⟩ : ∃ q : Nat, q = n - 1 := ⟨_, rfl⟩
        have hqn : (n : Int) - 1 = (q : Int) := by omega
        have hqlt : q < s.size := by omega
        have h61' : ((s[q].toNat : Int) == 61) = false := by
          have hne : s[q] ≠ 61 := by subst hq; exact c3
          have : s[q].toNat ≠ 61 := fun h => hne (UInt8.toNat_inj.1 h)
          simp; omega
        have d1 : decide ((k : Int) < 2) = true := decide_eq_true (by omega)
        have d2 : decide ((0 : Int) < (n : Int)) = true := decide_eq_true (by omega)
        have HQ := Lib.hid hq
        clear c3 c4 hq
        go_wp2_with fail
        go_loop [7] (fun i => ∃ j : Nat, j ≤ g ∧ i = .int .i64 (j : Int)) (fun i => n - (intOf i).toNat)
        case atStart => exact ⟨0, Nat.zero_le _, rfl⟩
        case round =>
          obtain ⟨j, hj, rfl⟩ := hrel
          by_cases hlt : j < n
          · have e1 : decide ((j : Int) < (n : Int)) = true := decide_eq_true (by omega)
            have e2 : decide (j < n) = true := decide_eq_true hlt
            have hjs : j < s.size := by omega
            have hc := pls s[j]
            by_cases hjg : j < g
            · have hp := HY.out j hjs hjg
              obtain ⟨z, hz⟩ : ∃ z, z = sv s[j] := ⟨_, rfl⟩
              rw [← hz] at hp
              simp only [← hz] at hc
              have HC := Lib.hid hc
              clear hc hz
              go_wp2_with (go_at_call 64; go_loud (refine (HC.out _).mono ?_); rintro e w' ⟨rfl, rfl⟩)
              go_round
              case rel => exact ⟨j + 1, by omega, by go_num⟩
              case measure => simp [intOf]; omega
            · have hje : j = g := by omega
              have hp := HNO.out j hjs hje hlt
              obtain ⟨r1, r2, r3⟩ := HBA.out (by omega)
              obtain ⟨z, hz⟩ : ∃ z, z = sv s[j] := ⟨_, rfl⟩
              rw [← hz] at hp
              simp only [← hz] at hc
              have HC := Lib.hid hc
              subst hje
              have R1 := Lib.hid r1
              have R2 := Lib.hid r2
              have R3 := Lib.hid r3
              clear hc hz r1 r2 r3
              go_wp2_with (go_at_call 64; go_loud (refine (HC.out _).mono ?_); rintro e w' ⟨rfl, rfl⟩)
              go_ret3
              exact ⟨_, by rw [R1.out, R2.out]; rfl, by rw [R3.out]; exact Own.nil _ _, Below.refl _ _⟩
          have e1 : decide ((j : Int) < (n : Int)) = false := decide_eq_false (by omega)
          have e2 : decide (j < n) = false := decide_eq_false hlt
          have hgn : ¬ g < n := by omega
          by_cases hpar : s.size % 4 = 0
          case neg =>
            obtain ⟨r1, r2, r3⟩ := HPA.out hgn hpar
            have d7 : ((s.size : Int) % 4 == 0) = false := by simp; omega
            have d8 : ((s.size : Int) % 4 != 0) = true := by simp; omega
            have R1 := Lib.hid r1
            have R2 := Lib.hid r2
            have R3 := Lib.hid r3
            clear r1 r2 r3 hpar
            go_wp2_with fail
            go_ret3
            exact ⟨_, by rw [R1.out, R2.out]; rfl, by rw [R3.out]; exact Own.nil _ _, Below.refl _ _⟩
          have d7 : ((s.size : Int) % 4 == 0) = true := by simp; omega
          have d8 : ((s.size : Int) % 4 != 0) = false := by simp; omega
          have hov := HOV.out hgn hpar
          have hfi := HFI.out hgn hpar
          have HOV2 := Lib.hid hov
          have HFI2 := Lib.hid hfi
          clear hov hfi hpar HOV HFI HPA HBA HNO
          go_wp2_with fail
          go_loopw [8, 9, 10, 11] (fun u x y i wr => ∃ (i' m t : Nat) (out : List UInt8), i' ≤ n ∧ x = .int .i64 (m : Int) ∧ y = .int .i64 (t : Int) ∧ i = .int .i64 (i' : Int) ∧ Own w.heap.size wr u out ∧ Hid (rd i' = (m, t, out)) ∧ (t = 0 ∨ t = 2 ∨ t = 4 ∨ t = 6) ∧ m < 2 ^ t ∧ out.length ≤ i' ∧ Below w.heap.size w wr) (fun _ _ _ i _ => n - (intOf i).toNat)
          case atStart => exact ⟨0, 0, 0, [], Nat.zero_le _, rfl, rfl, rfl, Own.nil _ _, HR0, .inl rfl, by decide, Nat.le_refl _, Below.refl _ _⟩
          case round =>
            obtain ⟨i, m, t, out, hi, rfl, rfl, rfl, hown, HK, ht, hm, hlo, hbel⟩ := hrel
            by_cases hin : i < n
            · have e7 : decide ((i : Int) < (n : Int)) = true := decide_eq_true (by omega)
              have e8 : decide (i < n) = true := decide_eq_true hin
              have his : i < s.size := by omega
              have hp := HY.out i his (by omega)
              have hsl := sv_lt s[i]
              have hst := HRD.out i his hin
              rw [HK.out] at hst
              have hc := pls s[i]
              obtain ⟨d, hd⟩ : ∃ d : Nat, sv s[i] = (d : Int) := ⟨(sv s[i]).toNat, by omega⟩
              simp only [hd] at hc hst hsl
              rw [Int.toNat_natCast] at hst
              unfold step6 at hst
              have HC := Lib.hid hc
              have hd64 : d < 64 := by omega
              clear hc hd hp hsl
              obtain ⟨x, hx⟩ : ∃ x : Nat, x = m * 64 + d := ⟨_, rfl⟩
              rw [← hx] at hst
              have hroom : out.length ≤ 1048576 := by omega
              rcases ht with rfl | rfl | rfl | rfl
              · simp only [Nat.reduceAdd, Nat.reduceLeDiff, if_false, Nat.reducePow] at hst hm
                have e3 : (m : Int) * 64 + (d : Int) = (x : Int) := by omega
                have HST := Lib.hid hst
                have hx6 : x < 2 ^ 6 := by omega
                have HX := Lib.hid hx
                clear hst hx
                go_wp2_with (go_at_call 64; go_loud (refine (HC.out _).mono ?_); rintro e w' ⟨rfl, rfl⟩)
                go_roundw
                case rel => exact ⟨i + 1, x, 6, out, by omega, rfl, rfl, by go_num, hown, HST, by omega, hx6, by omega, hbel⟩
                case measure => simp [intOf]; omega
              · simp only [Nat.reduceAdd, Nat.reduceSub, Nat.reduceLeDiff, if_true, Nat.reducePow] at hst hm
                have hm64 : m < 64 := by omega
                have hxb : x < 4096 := by omega
                have e3 : (m : Int) * 64 + (d : Int) = (x : Int) := by omega
                have hxt : x / 1 < 256 := by omega
                have hbt : ((x : Int) % 256 : Int) = ((UInt8.ofNat (x / 1)).toNat : Int) := by rw [UInt8.toNat_ofNat']; omega
                obtain ⟨y, hy⟩ : ∃ y : Nat, y = x % 1 := ⟨_, rfl⟩
                have hyl : y < 2 ^ 0 := by rw [hy]; exact Nat.mod_lt _ (by decide)
                have e5 : (x : Int) % 1 = (y : Int) := by rw [hy]; rfl
                have e6 : ((x : Int)).tmod 1 = (y : Int) := by rw [Int.tmod_eq_emod_of_nonneg (by omega)]; exact e5
                rw [← hy] at hst
                have HST := Lib.hid hst
                have HX := Lib.hid hx
                have HM := Lib.hid hm
                have HBT := Lib.hid hbt
                have HYL := Lib.hid hyl
                have HYE := Lib.hid hy
                clear hst hx hm hbt hyl hy hxt
                go_wp2_with (first | (go_at_call 64; go_loud (refine (HC.out _).mono ?_); rintro e w' ⟨rfl, rfl⟩) | ((with_reducible refine gate_dst (N := 73) rfl ?_); (refine wp_append rfl (.tmp 66) (.tmp 72) 52 5 rfl Try.underlying52 info8 rfl (by decide) (base := w.heap.size) (n := out.length) (xs := bcs out) rfl (hown.alloc _) rfl (Row.one _ _ _) rfl (one_one rfl) (by unfold maxLen; omega) (by omega) (by have := hbel.size; simp; omega) ?_); intro v' w3 hown2 hgrow2))
                have hbel2 : Below w.heap.size w w3 := (hbel.alloc hbel.size _).grown hgrow2 (by have := hbel.size; simp; omega) (fun j hj => (hown.lt j hj).1)
                have hown3 : Own w.heap.size w3 v' (out ++ [UInt8.ofNat (x / 1)]) := by
                  unfold Own
                  rw [List.length_append, bcs_append]
                  rw [HBT.out] at hown2
                  exact hown2
                clear hown2 hgrow2 hown
                go_roundw
                case rel => exact ⟨i + 1, y, 0, _, by omega, (by rw [show y = 0 from by have := HYL.out; omega]; try rfl), rfl, by go_num, hown3, HST, by omega, HYL.out, by rw [List.length_append]; simp; omega, hbel2⟩
                case measure => simp [intOf]; omega
              · simp only [Nat.reduceAdd, Nat.reduceSub, Nat.reduceLeDiff, if_true, Nat.reducePow] at hst hm
                have hm64 : m < 64 := by omega
                have hxb : x < 4096 := by omega
                have e3 : (m : Int) * 64 + (d : Int) = (x : Int) := by omega
                have hxt : x / 4 < 256 := by omega
                have hbt : ((x : Int) / 4 % 256 : Int) = ((UInt8.ofNat (x / 4)).toNat : Int) := by rw [UInt8.toNat_ofNat']; omega
                obtain ⟨y, hy⟩ : ∃ y : Nat, y = x % 4 := ⟨_, rfl⟩
                have hyl : y < 2 ^ 2 := by rw [hy]; exact Nat.mod_lt _ (by decide)
                have e5 : (x : Int) % 4 = (y : Int) := by rw [hy]; rfl
                have e6 : ((x : Int)).tmod 4 = (y : Int) := by rw [Int.tmod_eq_emod_of_nonneg (by omega)]; exact e5
                rw [← hy] at hst
                have HST := Lib.hid hst
                have HX := Lib.hid hx
                have HM := Lib.hid hm
                have HBT := Lib.hid hbt
                have HYL := Lib.hid hyl
                have HYE := Lib.hid hy
                clear hst hx hm hbt hyl hy hxt
                go_wp2_with (first | (go_at_call 64; go_loud (refine (HC.out _).mono ?_); rintro e w' ⟨rfl, rfl⟩) | ((with_reducible refine gate_dst (N := 73) rfl ?_); (refine wp_append rfl (.tmp 66) (.tmp 72) 52 5 rfl Try.underlying52 info8 rfl (by decide) (base := w.heap.size) (n := out.length) (xs := bcs out) rfl (hown.alloc _) rfl (Row.one _ _ _) rfl (one_one rfl) (by unfold maxLen; omega) (by omega) (by have := hbel.size; simp; omega) ?_); intro v' w3 hown2 hgrow2))
                have hbel2 : Below w.heap.size w w3 := (hbel.alloc hbel.size _).grown hgrow2 (by have := hbel.size; simp; omega) (fun j hj => (hown.lt j hj).1)
                have hown3 : Own w.heap.size w3 v' (out ++ [UInt8.ofNat (x / 4)]) := by
                  unfold Own
                  rw [List.length_append, bcs_append]
                  rw [HBT.out] at hown2
                  exact hown2
                clear hown2 hgrow2 hown
                go_roundw
                case rel => exact ⟨i + 1, y, 2, _, by omega, rfl, rfl, by go_num, hown3, HST, by omega, HYL.out, by rw [List.length_append]; simp; omega, hbel2⟩
                case measure => simp [intOf]; omega
              · simp only [Nat.reduceAdd, Nat.reduceSub, Nat.reduceLeDiff, if_true, Nat.reducePow] at hst hm
                have hm64 : m < 64 := by omega
                have hxb : x < 4096 := by omega
                have e3 : (m : Int) * 64 + (d : Int) = (x : Int) := by omega
                have hxt : x / 16 < 256 := by omega
                have hbt : ((x : Int) / 16 : Int) = ((UInt8.ofNat (x / 16)).toNat : Int) := by rw [UInt8.toNat_ofNat']; omega
                obtain ⟨y, hy⟩ : ∃ y : Nat, y = x % 16 := ⟨_, rfl⟩
                have hyl : y < 2 ^ 4 := by rw [hy]; exact Nat.mod_lt _ (by decide)
                have e5 : (x : Int) % 16 = (y : Int) := by rw [hy]; rfl
                have e6 : ((x : Int)).tmod 16 = (y : Int) := by rw [Int.tmod_eq_emod_of_nonneg (by omega)]; exact e5
                rw [← hy] at hst
                have HST := Lib.hid hst
                have HX := Lib.hid hx
                have HM := Lib.hid hm
                have HBT := Lib.hid hbt
                have HYL := Lib.hid hyl
                have HYE := Lib.hid hy
                clear hst hx hm hbt hyl hy hxt
                go_wp2_with (first | (go_at_call 64; go_loud (refine (HC.out _).mono ?_); rintro e w' ⟨rfl, rfl⟩) | ((with_reducible refine gate_dst (N := 73) rfl ?_); (refine wp_append rfl (.tmp 66) (.tmp 72) 52 5 rfl Try.underlying52 info8 rfl (by decide) (base := w.heap.size) (n := out.length) (xs := bcs out) rfl (hown.alloc _) rfl (Row.one _ _ _) rfl (one_one rfl) (by unfold maxLen; omega) (by omega) (by have := hbel.size; simp; omega) ?_); intro v' w3 hown2 hgrow2))
                have hbel2 : Below w.heap.size w w3 := (hbel.alloc hbel.size _).grown hgrow2 (by have := hbel.size; simp; omega) (fun j hj => (hown.lt j hj).1)
                have hown3 : Own w.heap.size w3 v' (out ++ [UInt8.ofNat (x / 16)]) := by
                  unfold Own
                  rw [List.length_append, bcs_append]
                  rw [HBT.out] at hown2
                  exact hown2
                clear hown2 hgrow2 hown
                go_roundw
                case rel => exact ⟨i + 1, y, 4, _, by omega, rfl, rfl, by go_num, hown3, HST, by omega, HYL.out, by rw [List.length_append]; simp; omega, hbel2⟩
                case measure => simp [intOf]; omega
            · have hkb : i = n := by omega
              have e7 : decide ((i : Int) < (n : Int)) = false := decide_eq_false (by omega)
              have e8 : decide (i < n) = false := decide_eq_false hin
              have hst := HK.out
              rw [hkb] at hst
              by_cases hm0 : m = 0
              · obtain ⟨r1, r2, r3⟩ := HFI2.out (by rw [hst]; exact hm0)
                rw [hst] at r3
                subst hm0
                have R1 := Lib.hid r1
                have R2 := Lib.hid r2
                have R3 := Lib.hid r3
                clear r1 r2 r3 hst hkb
                go_wp2_with fail
                go_ret3
                exact ⟨_, by rw [R1.out, R2.out]; rfl, by rw [R3.out]; exact hown, hbel⟩
              · obtain ⟨r1, r2, r3⟩ := HOV2.out (by rw [hst]; exact hm0)
                have R1 := Lib.hid r1
                have R2 := Lib.hid r2
                have R3 := Lib.hid r3
                have d5 : ((m : Int) == 0) = false := by simp; omega
                have d6 : ((m : Int) != 0) = true := by simp; omega
                clear r1 r2 r3 hst hkb
                go_wp2_with fail
                go_ret3
                exact ⟨_, by rw [R1.out, R2.out, hqn]; rfl, by rw [R3.out]; exact Own.nil _ _, hbel⟩
end Go.Proofs.Ytmiffljcggfcgaa.B64
