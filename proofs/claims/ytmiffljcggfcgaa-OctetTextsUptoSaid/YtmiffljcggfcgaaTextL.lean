/- The law OctetTexts: its walk (texts and bytes of at most 2^20). -/
import Derived.Test.YtmiffljcggfcgaaB64V
import Derived.Test.YtmiffljcggfcgaaB64C
import Derived.Test.YtmiffljcggfcgaaTextP
namespace Go.Proofs.Ytmiffljcggfcgaa.Txt
open Go Go.RowKit Go.Proofs.Ytmiffljcggfcgaa.Cop Go.Proofs.Ytmiffljcggfcgaa.Oct Go.Proofs.Ytmiffljcggfcgaa.Hex Go.Proofs.Ytmiffljcggfcgaa.B64 Go.Proofs.Ytmiffljcggfcgaa.Chk
set_option linter.unusedVariables false
set_option linter.unusedSimpArgs false

theorem str_list (l : List UInt8) : (str l).data.toList = l := rfl
theorem str_len (l : List UInt8) : (str l).size = l.length := rfl
theorem str_of (s : ByteArray) : str s.data.toList = s := rfl
theorem b64_ge : ∀ l : List UInt8, l.length ≤ (b64 l).length
  | [] => by simp [b64]
  | [a] => by simp [b64, enc]
  | [a, b] => by simp [b64, enc]
  | a :: b :: c :: r => by
    have := b64_ge r
    simp [b64, enc]; omega
theorem hErr_two (l : List UInt8) : hErr l = 0 ∨ hErr l = 11 := by unfold hErr; split <;> simp
theorem sErr_two (l : List UInt8) : sErr l = 0 ∨ sErr l = 11 := by unfold sErr; split <;> simp

set_option maxHeartbeats 4000000 in
set_option maxRecDepth 100000 in
theorem text_law (v : Value) (bs : List UInt8) (s : ByteArray) (w : World) (h : Rd w v bs) (hl : bs.length ≤ 1048576) (hs : s.size ≤ 1048576) :
    Calls Try.prog 13 #[v, .string s] w fun e w' => e = .returned (.bool true) ∧ Below w.heap.size w w' := by
  obtain ⟨t1, ht1⟩ : ∃ t, t = str (hexOf bs) := ⟨_, rfl⟩
  obtain ⟨t2, ht2⟩ : ∃ t, t = str (b64 bs) := ⟨_, rfl⟩
  have cHex : ∀ w v, Rd w v bs → Calls Try.prog 40 #[v] w fun e w' => e = .returned (.string t1) ∧ Below w.heap.size w w' := fun w v h => by rw [ht1]; exact hex_calls v bs w h hl
  have cSix : ∀ w v, Rd w v bs → Calls Try.prog 45 #[v] w fun e w' => e = .returned (.string t2) ∧ Below w.heap.size w w' := fun w v h => by rw [ht2]; exact base64_calls v bs w h hl
  have uHex : ∃ a : Int, ∀ w, Calls Try.prog 38 #[.string t1] w fun e w' => ∃ x, e = .returned (.tuple #[x, .int .i64 a, .int .i64 0]) ∧ Go.Proofs.Ytmiffljcggfcgaa.Oct.Own w.heap.size w' x bs ∧ Below w.heap.size w w' := by
    refine ⟨(hAt (hexOf bs) : Int), fun w => ?_⟩
    have hc := unhex_calls t1 w (by rw [ht1, str_len, hexOf_length]; omega)
    unfold HexRet at hc
    rw [ht1] at hc
    rw [str_list, (hex_back bs).1, (hex_back bs).2, ← ht1] at hc
    exact hc
  have uSix : ∃ a : Int, ∀ w, Calls Try.prog 43 #[.string t2] w fun e w' => ∃ x, e = .returned (.tuple #[x, .int .i64 a, .int .i64 0]) ∧ Go.Proofs.Ytmiffljcggfcgaa.Oct.Own w.heap.size w' x bs ∧ Below w.heap.size w w' := by
    refine ⟨sAt (b64 bs), fun w => ?_⟩
    have hbl := b64_length bs
    have hc := unb_calls t2 w (by rw [ht2, str_len]; omega)
    unfold SixRet at hc
    rw [ht2] at hc
    rw [str_list, (six_back bs).1, (six_back bs).2, ← ht2] at hc
    exact hc
  obtain ⟨a1, uHex⟩ := uHex
  obtain ⟨a2, uSix⟩ := uSix
  have vHex : ∃ (a er : Int) (X : List UInt8), (er = 0 ∨ er = 11) ∧ (∀ w, Calls Try.prog 38 #[.string s] w fun e w' => ∃ x, e = .returned (.tuple #[x, .int .i64 a, .int .i64 er]) ∧ Go.Proofs.Ytmiffljcggfcgaa.Oct.Own w.heap.size w' x X ∧ Below w.heap.size w w') ∧
      (er = 0 → ∀ w v, Rd w v X → Calls Try.prog 40 #[v] w fun e w' => e = .returned (.string s) ∧ Below w.heap.size w w') := by
    refine ⟨(hAt s.data.toList : Int), hErr s.data.toList, hBytes s.data.toList, hErr_two _, fun w => unhex_calls s w (by omega), fun h0 w v hv => ?_⟩
    have ht := hex_text s.data.toList h0
    have hlen := congrArg List.length ht
    rw [hexOf_length] at hlen
    have hsl : s.data.toList.length = s.size := rfl
    have hc := hex_calls v _ w hv (by omega)
    rw [ht, str_of] at hc
    exact hc
  have vSix : ∃ (a er : Int) (X : List UInt8), (er = 0 ∨ er = 11) ∧ (∀ w, Calls Try.prog 43 #[.string s] w fun e w' => ∃ x, e = .returned (.tuple #[x, .int .i64 a, .int .i64 er]) ∧ Go.Proofs.Ytmiffljcggfcgaa.Oct.Own w.heap.size w' x X ∧ Below w.heap.size w w') ∧
      (er = 0 → ∀ w v, Rd w v X → Calls Try.prog 45 #[v] w fun e w' => e = .returned (.string s) ∧ Below w.heap.size w w') := by
    refine ⟨sAt s.data.toList, sErr s.data.toList, sBytes s.data.toList, sErr_two _, fun w => unb_calls s w (by omega), fun h0 w v hv => ?_⟩
    have ht := six_text s.data.toList h0
    have hlen := congrArg List.length ht
    have hge := b64_ge (sBytes s.data.toList)
    have hsl : s.data.toList.length = s.size := rfl
    have hc := base64_calls v _ w hv (by omega)
    rw [ht, str_of] at hc
    exact hc
  obtain ⟨a3, er, X, her, uX, cX⟩ := vHex
  obtain ⟨a4, fr, Y, hfr, uY, cY⟩ := vSix
  have CHEX := Lib.hid cHex
  have CSIX := Lib.hid cSix
  have UHEX := Lib.hid uHex
  have USIX := Lib.hid uSix
  have UX := Lib.hid uX
  have UY := Lib.hid uY
  have HER := Lib.hid her
  have HFR := Lib.hid hfr
  have CX := Lib.hid cX
  have CY := Lib.hid cY
  clear cHex cSix uHex uSix uX uY her hfr cX cY ht1 ht2
  go_enter Try.func13, Try.ntmps13
  go_wp2_with fail
  refine (CHEX.out w v h).mono ?_
  rintro e w1 ⟨rfl, hb1⟩
  go_wp2_with fail
  refine (UHEX.out w1).mono ?_
  rintro e w2 ⟨x, rfl, hx, hb2⟩
  have hB2 : Below w.heap.size w w2 := hb1.trans (hb2.mono hb1.size)
  go_wp2_with fail
  refine (CSIX.out w2 v (h.below hB2)).mono ?_
  rintro e w3 ⟨rfl, hb3⟩
  have hB3 : Below w.heap.size w w3 := hB2.trans (hb3.mono hB2.size)
  go_wp2_with fail
  refine (USIX.out w3).mono ?_
  rintro e w4 ⟨y, rfl, hy, hb4⟩
  have hB4 : Below w.heap.size w w4 := hB3.trans (hb4.mono hB3.size)
  have hx4 := (hx.below hb3).below hb4
  have h4 := h.below hB4
  go_wp2_with (first | ((with_reducible refine gate_dst (N := 37) rfl ?_); go_loud (refine wp_strB rfl _ rfl hx4.rd rfl ?_)) | ((with_reducible refine gate_dst (N := 39) rfl ?_); go_loud (refine wp_strB rfl _ rfl h4 rfl ?_)) | ((with_reducible refine gate_dst (N := 44) rfl ?_); go_loud (refine wp_strB rfl _ rfl hy.rd rfl ?_)) | ((with_reducible refine gate_dst (N := 46) rfl ?_); go_loud (refine wp_strB rfl _ rfl h4 rfl ?_)) | ((with_reducible refine gate_dst (N := 40) rfl ?_); go_loud (refine wp_neq_str rfl _ _ _ _ rfl rfl rfl (b := false) (decide_eq_true rfl) ?_)) | ((with_reducible refine gate_dst (N := 47) rfl ?_); go_loud (refine wp_neq_str rfl _ _ _ _ rfl rfl rfl (b := false) (decide_eq_true rfl) ?_)))
  refine (UX.out w4).mono ?_
  rintro e w5 ⟨p, rfl, hp, hb5⟩
  have hB5 : Below w.heap.size w w5 := hB4.trans (hb5.mono hB4.size)
  go_wp2_with fail
  refine (UY.out w5).mono ?_
  rintro e w6 ⟨q, rfl, hq, hb6⟩
  have hB6 : Below w.heap.size w w6 := hB5.trans (hb6.mono hB5.size)
  have hp6 := (hp.below hb6).rd
  have hq6 := hq.rd
  clear hx hy hx4 h4 hb1 hb2 hb3 hb4 hb5 hb6 hp hq
  rcases HER.out with rfl | rfl <;> rcases HFR.out with rfl | rfl
  · have c1 := CX.out rfl
    have c2 := CY.out rfl
    have C1 := Lib.hid c1
    have C2 := Lib.hid c2
    clear c1 c2
    go_wp2_with (first | (go_at_call 40; go_loud (refine (C1.out _ _ hp6).mono ?_); rintro e w7 ⟨rfl, hb7⟩; have hq7 := hq6.below hb7) | (go_at_call 45; go_loud (refine (C2.out _ _ hq7).mono ?_); rintro e w8 ⟨rfl, hb8⟩) | ((with_reducible refine gate_dst (N := 67) rfl ?_); go_loud (refine wp_eq_str rfl _ _ _ _ rfl rfl rfl (decide_eq_true rfl) ?_)) | ((with_reducible refine gate_dst (N := 76) rfl ?_); go_loud (refine wp_eq_str rfl _ _ _ _ rfl rfl rfl (decide_eq_true rfl) ?_)))
    go_ret
    exact ⟨rfl, (hB6.trans (hb7.mono hB6.size)).trans (hb8.mono (by have := hB6.size; have := hb7.size; omega))⟩
  · have c1 := CX.out rfl
    have C1 := Lib.hid c1
    clear c1
    go_wp2_with (first | (go_at_call 40; go_loud (refine (C1.out _ _ hp6).mono ?_); rintro e w7 ⟨rfl, hb7⟩) | ((with_reducible refine gate_dst (N := 67) rfl ?_); go_loud (refine wp_eq_str rfl _ _ _ _ rfl rfl rfl (decide_eq_true rfl) ?_)))
    go_ret
    exact ⟨rfl, hB6.trans (hb7.mono hB6.size)⟩
  · have c2 := CY.out rfl
    have C2 := Lib.hid c2
    clear c2
    go_wp2_with (first | (go_at_call 45; go_loud (refine (C2.out _ _ hq6).mono ?_); rintro e w8 ⟨rfl, hb8⟩) | ((with_reducible refine gate_dst (N := 76) rfl ?_); go_loud (refine wp_eq_str rfl _ _ _ _ rfl rfl rfl (decide_eq_true rfl) ?_)))
    go_ret
    exact ⟨rfl, hB6.trans (hb8.mono hB6.size)⟩
  · go_wp2_with fail
    go_ret
    exact ⟨rfl, hB6⟩
end Go.Proofs.Ytmiffljcggfcgaa.Txt
