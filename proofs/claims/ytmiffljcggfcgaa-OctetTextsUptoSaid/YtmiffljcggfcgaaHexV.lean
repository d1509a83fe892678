/- Unhex, the program's and the reference's: their contracts, whole. -/
import Derived.Test.YtmiffljcggfcgaaHexU
namespace Go.Proofs.Ytmiffljcggfcgaa.Hex
open Go Go.RowKit Go.Proofs.Ytmiffljcggfcgaa.Cop Go.Proofs.Ytmiffljcggfcgaa.Oct
set_option linter.unusedVariables false
set_option linter.unusedSimpArgs false

theorem hOk_yes {l : List UInt8} (h : hOk l = true) : good HX l = l.length ∧ l.length % 2 = 0 := by
  unfold hOk at h
  simp only [Bool.and_eq_true, decide_eq_true_eq] at h
  exact h
theorem hAt_yes {l : List UInt8} (h : hOk l = true) : hAt l = 0 := by
  obtain ⟨a, b⟩ := hOk_yes h
  unfold hAt
  rw [if_neg (by omega), if_pos b]

/-- What comes back where a text is told to the base 16. -/
def HexRet (l : List UInt8) (w : World) : Ending → World → Prop := fun e w' =>
  ∃ v, e = .returned (.tuple #[v, .int .i64 (hAt l : Int), .int .i64 (hErr l)]) ∧ Own w.heap.size w' v (hBytes l) ∧ Below w.heap.size w w'

set_option maxRecDepth 100000 in
theorem unhex_calls (s : ByteArray) (w : World) (hs : s.size ≤ 140737488351232) : Calls Try.prog 38 #[.string s] w (HexRet s.data.toList w) := by
  have hlen : s.data.toList.length = s.size := rfl
  unfold HexRet
  by_cases hok : hOk s.data.toList = true
  · obtain ⟨a, b⟩ := hOk_yes hok
    refine (unhex_loop s w hs a b).mono ?_
    rintro e w' ⟨v, rfl, ho, hb⟩
    exact ⟨v, by rw [hAt_yes hok]; unfold hErr; rw [if_pos hok]; rfl, by unfold hBytes; rw [if_pos hok]; exact ho, hb⟩
  · unfold hBytes hErr
    rw [if_neg hok, if_neg hok]
    have hoc := odd_calls s ⟨#[48, 49, 50, 51, 52, 53, 54, 55, 56, 57, 97, 98, 99, 100, 101, 102]⟩ w (by unfold maxLen; omega)
    have hod : odd (ByteArray.mk #[48, 49, 50, 51, 52, 53, 54, 55, 56, 57, 97, 98, 99, 100, 101, 102]).data.toList s.data.toList = odd HX s.data.toList := rfl
    rw [hod] at hoc
    by_cases hg : good HX s.data.toList < s.size
    · have e1 : odd HX s.data.toList = (good HX s.data.toList : Int) := by unfold odd; rw [hlen, if_pos hg]
      have e2 : hAt s.data.toList = good HX s.data.toList := by unfold hAt; rw [hlen, if_pos hg]
      rw [e1] at hoc
      rw [e2]
      generalize good HX s.data.toList = g at hoc hg ⊢
      have HO := Lib.hid hoc
      clear hoc hod hlen e1 e2 hok
      go_enter Try.func38, Try.ntmps38
      go_wp2_with fail
      refine HO.out.mono ?_
      rintro e w1 ⟨rfl, hb1⟩
      go_wp2_with fail
      go_ret3
      exact ⟨_, rfl, Own.nil _ _, hb1⟩
    · have e1 : odd HX s.data.toList = -1 := by unfold odd; rw [hlen, if_neg hg]
      have hle := good_le HX s.data.toList
      have hn2 : ¬ s.size % 2 = 0 := by
        intro h
        apply hok
        unfold hOk
        simp only [Bool.and_eq_true, decide_eq_true_eq]
        exact ⟨by omega, h⟩
      have e2 : hAt s.data.toList = s.size := by unfold hAt; rw [hlen, if_neg hg, if_neg hn2]
      rw [e1] at hoc
      rw [e2]
      have d0 : ((s.size : Int) % 2 == 1) = true := by simp; omega
      have HO := Lib.hid hoc
      clear hoc hod hlen e1 e2 hok hle hg hn2
      go_enter Try.func38, Try.ntmps38
      go_wp2_with fail
      refine HO.out.mono ?_
      rintro e w1 ⟨rfl, hb1⟩
      go_wp2_with fail
      go_ret3
      exact ⟨_, rfl, Own.nil _ _, hb1⟩

theorem add_byte (s : ByteArray) (k p q : Nat) (h3 : p < s.size) (h4 : q < s.size) (hp : p = 2 * k) (hq : q = 2 * k + 1) (hpos : 0 ≤ hv s[p] ∧ 0 ≤ hv s[q]) :
    IntKind.u8.wrap (IntKind.i64.wrap (IntKind.i64.wrap (hv s[p] * 16) + hv s[q])) = ((hpair s.data.toList k).toNat : Int) := by
  unfold hpair
  rw [← hq, ← hp, bgetD s p h3, bgetD s q h4]
  have h1 := hv_lt s[p]
  have h2 := hv_lt s[q]
  obtain ⟨a, ha⟩ : ∃ a : Nat, hv s[p] = (a : Int) := ⟨(hv s[p]).toNat, by have : 0 ≤ hv s[p] := hpos.1; omega⟩
  obtain ⟨b, hb⟩ : ∃ b : Nat, hv s[q] = (b : Int) := ⟨(hv s[q]).toNat, by have : 0 ≤ hv s[q] := hpos.2; omega⟩
  rw [ha] at h1 ⊢
  rw [hb] at h2 ⊢
  rw [IntWalk.i64_in ((a : Int) * 16) (by omega), IntWalk.i64_in ((a : Int) * 16 + b) (by omega)]
  rw [IntWalk.u8_in _ (by omega)]
  simp only [Int.toNat_natCast, UInt8.toNat_ofNat']
  omega

set_option maxHeartbeats 2000000 in
set_option maxRecDepth 100000 in
theorem runhex_calls (s : ByteArray) (w : World) (hs : s.size ≤ 140737488351232) : Calls Try.prog 39 #[.string s] w (HexRet s.data.toList w) := by
  have hlen : s.data.toList.length = s.size := rfl
  unfold HexRet
  obtain ⟨g, hgg⟩ : ∃ g, g = good HX s.data.toList := ⟨_, rfl⟩
  have hle := good_le HX s.data.toList
  rw [← hgg, hlen] at hle
  have HGG := Lib.hid hgg
  have hyes : ∀ k (h : k < s.size), k < g → 0 ≤ hv s[k] := by
    intro k h hk
    rw [bget s k h]
    exact good_yes HX s.data.toList k (by rw [← hgg]; exact hk)
  have hno : ∀ (h : g < s.size), hv s[g] < 0 := by
    intro h
    subst hgg
    rw [bget s _ h]
    exact good_no HX s.data.toList h
  have HY := Lib.hid hyes
  have HN := Lib.hid hno
  have hfinb : g < s.size → hAt s.data.toList = g ∧ hErr s.data.toList = 11 ∧ hBytes s.data.toList = [] := by
    intro h
    have hok : ¬ hOk s.data.toList = true := by
      intro hok
      have := (hOk_yes hok).1
      omega
    refine ⟨?_, ?_, ?_⟩
    · unfold hAt; rw [← hgg, hlen, if_pos h]
    · unfold hErr; rw [if_neg hok]
    · unfold hBytes; rw [if_neg hok]
  have hfino : ¬ g < s.size → ¬ s.size % 2 = 0 → hAt s.data.toList = s.size ∧ hErr s.data.toList = 11 ∧ hBytes s.data.toList = [] := by
    intro h h2
    have hok : ¬ hOk s.data.toList = true := by
      intro hok
      have := (hOk_yes hok).2
      omega
    refine ⟨?_, ?_, ?_⟩
    · unfold hAt; rw [← hgg, hlen, if_neg h, if_neg h2]
    · unfold hErr; rw [if_neg hok]
    · unfold hBytes; rw [if_neg hok]
  have hfine : ¬ g < s.size → s.size % 2 = 0 → hAt s.data.toList = 0 ∧ hErr s.data.toList = 0 ∧ hBytes s.data.toList = pairs s.data.toList (s.size / 2) := by
    intro h h2
    have hok : hOk s.data.toList = true := by
      unfold hOk
      simp only [Bool.and_eq_true, decide_eq_true_eq]
      exact ⟨by omega, h2⟩
    refine ⟨hAt_yes hok, ?_, ?_⟩
    · unfold hErr; rw [if_pos hok]
    · unfold hBytes; rw [if_pos hok, hlen]
  obtain ⟨ra, hra⟩ : ∃ x, hAt s.data.toList = x := ⟨_, rfl⟩
  obtain ⟨re, hre⟩ : ∃ x, hErr s.data.toList = x := ⟨_, rfl⟩
  obtain ⟨rb, hrb⟩ : ∃ x, hBytes s.data.toList = x := ⟨_, rfl⟩
  rw [hra, hre, hrb] at hfinb hfino hfine ⊢
  clear hra hre hrb
  have HB := Lib.hid hfinb
  have HO := Lib.hid hfino
  have HE := Lib.hid hfine
  clear hgg hyes hno hfinb hfino hfine
  go_enter Try.func39, Try.ntmps39
  go_wp2_with fail
  go_loop [5] (fun i => ∃ k : Nat, k ≤ g ∧ i = .int .i64 (k : Int)) (fun i => s.size - (intOf i).toNat)
  case atStart => exact ⟨0, Nat.zero_le _, rfl⟩
  case round =>
    obtain ⟨k, hk, rfl⟩ := hrel
    by_cases hlt : k < s.size
    · have d1 : decide ((k : Int) < (s.size : Int)) = true := decide_eq_true (by omega)
      have hc := plh s[k] w
      by_cases hkg : k < g
      · have hp := HY.out k hlt hkg
        obtain ⟨z, hz⟩ : ∃ z, z = hv s[k] := ⟨_, rfl⟩
        rw [← hz] at hc hp
        have HC := Lib.hid hc
        clear hc hz
        go_wp2_with (go_at_call 64; go_loud (refine HC.out.mono ?_); rintro e w' ⟨rfl, rfl⟩)
        go_round
        case rel => exact ⟨k + 1, by omega, by go_num⟩
        case measure => simp [intOf]; omega
      · have hke : k = g := by omega
        subst hke
        have hp := HN.out hlt
        obtain ⟨r1, r2, r3⟩ := HB.out hlt
        obtain ⟨z, hz⟩ : ∃ z, z = hv s[k] := ⟨_, rfl⟩
        rw [← hz] at hc hp
        have HC := Lib.hid hc
        have R1 := Lib.hid r1
        have R2 := Lib.hid r2
        have R3 := Lib.hid r3
        clear hc hz r1 r2 r3 HB HO HE HY HN
        go_wp2_with (go_at_call 64; go_loud (refine HC.out.mono ?_); rintro e w' ⟨rfl, rfl⟩)
        go_ret3
        exact ⟨_, by rw [R1.out, R2.out]; rfl, by rw [R3.out]; exact Own.nil _ _, Below.refl _ _⟩
    · have d1 : decide ((k : Int) < (s.size : Int)) = false := decide_eq_false (by omega)
      have hge : ¬ g < s.size := by omega
      by_cases hpar : s.size % 2 = 0
      case neg =>
        have d2 : ((s.size : Int) % 2 == 0) = false := by simp; omega
        obtain ⟨r1, r2, r3⟩ := HO.out hge hpar
        have R1 := Lib.hid r1
        have R2 := Lib.hid r2
        have R3 := Lib.hid r3
        clear r1 r2 r3 HB HO HE HY HN hpar
        go_wp2_with fail
        go_ret3
        exact ⟨_, by rw [R1.out, R2.out]; rfl, by rw [R3.out]; exact Own.nil _ _, Below.refl _ _⟩
      have d2 : ((s.size : Int) % 2 == 0) = true := by simp; omega
      obtain ⟨r1, r2, r3⟩ := HE.out hge hpar
      have R1 := Lib.hid r1
      have R2 := Lib.hid r2
      have R3 := Lib.hid r3
      have HPAR := Lib.hid hpar
      clear r1 r2 r3 HB HO HE HN hpar
      go_wp2_with fail
      go_loopw [6, 7] (fun u i wr => ∃ j p : Nat, j ≤ s.size / 2 ∧ p = 2 * j ∧ i = .int .i64 (p : Int) ∧ Own w.heap.size wr u (pairs s.data.toList j) ∧ Below w.heap.size w wr) (fun _ i _ => s.size + 2 - (intOf i).toNat)
      case atStart => exact ⟨0, 0, Nat.zero_le _, rfl, rfl, Own.nil _ _, Below.refl _ _⟩
      case round =>
        obtain ⟨j, p, hj, hp, rfl, hown, hbel⟩ := hrel
        have hpar := HPAR.out
        by_cases hlt2 : j < s.size / 2
        · have d3 : decide ((p : Int) < (s.size : Int)) = true := decide_eq_true (by omega)
          have d4 : decide (p < s.size) = true := decide_eq_true (by omega)
          obtain ⟨q, hq⟩ : ∃ q : Nat, q = 2 * j + 1 := ⟨_, rfl⟩
          have i3 : p < s.size := by omega
          have i4 : q < s.size := by omega
          have e2 : IntKind.i64.wrap ((p : Int) + 1) = (q : Int) := by rw [IntWalk.i64_in _ (by omega)]; omega
          have hp0 : p + 2 = 2 * (j + 1) := by omega
          have hbb := add_byte s j p q i3 i4 hp hq ⟨HY.out p i3 (by omega), HY.out q i4 (by omega)⟩
          have HBB := Lib.hid hbb
          have HP := Lib.hid hp0
          clear hp hq hbb hp0 hpar
          go_wp2_with fail
          go_region_law (first | (go_simp; go_at_call 64; go_loud (refine (plh _ _).mono ?_); rintro e w' ⟨rfl, rfl⟩) | (refine step_append rfl (.tmp 32) (.tmp 45) 52 5 rfl Try.underlying52 info8 rfl (by decide) (base := w.heap.size) (n := (pairs s.data.toList j).length) (xs := bcs (pairs s.data.toList j)) rfl (hown.alloc _) (m := 1) (cs := [_]) rfl (Row.one _ _ _) rfl (one_one rfl) (by have := pairs_length s.data.toList j; unfold maxLen; omega) (by have := pairs_length s.data.toList j; omega) (by have := hbel.size; simp; omega) ?_; intro v' w2 hown2 hgrow2))
          all_goals
            have hbel2 : Below w.heap.size w w2 := ((hbel.alloc hbel.size _).drew).grown hgrow2 (by have := hbel.size; simp; omega) (fun j hj => (hown.lt j hj).1)
            have hown3 : Own w.heap.size w2 v' (pairs s.data.toList (j + 1)) := by
              unfold Own
              rw [pairs_succ, List.length_append, bcs_append]
              rw [HBB.out] at hown2
              exact hown2
            clear hown2 hgrow2 hown HBB
            go_wp2
            go_roundw
            case rel => exact ⟨j + 1, p + 2, by omega, HP.out, by go_num, hown3, hbel2⟩
            case measure => simp [intOf]; omega
        · have hje : j = s.size / 2 := by omega
          have d3 : decide ((p : Int) < (s.size : Int)) = false := decide_eq_false (by omega)
          subst hje
          have d4 : decide (p < s.size) = false := decide_eq_false (by omega)
          have d5 : ¬ p < s.size := by omega
          clear hp hpar
          go_wp2_with fail
          go_ret3
          exact ⟨_, by rw [R1.out, R2.out]; rfl, by rw [R3.out]; exact hown, hbel⟩
end Go.Proofs.Ytmiffljcggfcgaa.Hex
