/- Unbase64, the program's: its whole contract. -/
import Derived.Test.YtmiffljcggfcgaaB64U
namespace Go.Proofs.Ytmiffljcggfcgaa.B64
open Go Go.RowKit Go.Proofs.Ytmiffljcggfcgaa.Cop Go.Proofs.Ytmiffljcggfcgaa.Oct Go.Proofs.Ytmiffljcggfcgaa.Hex
set_option linter.unusedVariables false
set_option linter.unusedSimpArgs false

theorem trim1 (s : ByteArray) (w : World) (hs : s.size ≤ 9223372036854775807) : Calls Try.prog 67 #[.string s, .string ⟨#[61]⟩] w fun e w' => e = .returned (.string ⟨(Lib.trimSuffix s.data.toList [61]).toArray⟩) ∧ w = w' := by
  refine (Try.strings_TrimSuffix s ⟨#[61]⟩ w hs).mono ?_
  rintro e w' ⟨rfl, rfl⟩
  exact ⟨rfl, rfl⟩

set_option maxHeartbeats 1000000 in
set_option maxRecDepth 100000 in
theorem unb_calls (s : ByteArray) (w : World) (hs : s.size ≤ 2097152) : Calls Try.prog 43 #[.string s] w (SixRet s.data.toList w) := by
  have hlen : s.data.toList.length = s.size := rfl
  obtain ⟨b1, hb1⟩ : ∃ b1 : ByteArray, b1 = ⟨(Lib.trimSuffix s.data.toList [61]).toArray⟩ := ⟨_, rfl⟩
  have hd1 : b1.data.toList = s.data.toList.take (t1 s.data.toList s.size) := by rw [hb1]; exact trim_eq _
  have hs1 : b1.size ≤ 2097152 := by
    have : b1.data.toList.length = b1.size := rfl
    rw [hd1, List.length_take] at this
    omega
  obtain ⟨b, hb⟩ : ∃ b : ByteArray, b = ⟨(Lib.trimSuffix b1.data.toList [61]).toArray⟩ := ⟨_, rfl⟩
  have hd : b.data.toList = body s.data.toList := by
    rw [hb]
    show Lib.trimSuffix b1.data.toList [61] = _
    rw [hd1, trim_take _ _ (by rw [hlen]; exact t1_le _ _)]
    rfl
  have ht1 := trim1 s w (by omega)
  have ht2 := trim1 b1 w (by omega)
  rw [← hb1] at ht1
  rw [← hb] at ht2
  have hbl : b.size = tn s.data.toList := by
    have : b.data.toList.length = tn s.data.toList := by rw [hd]; exact body_length _
    exact this
  have htn := tn_le s.data.toList
  rw [hlen] at htn
  have hod := odd_calls b ⟨#[65, 66, 67, 68, 69, 70, 71, 72, 73, 74, 75, 76, 77, 78, 79, 80, 81, 82, 83, 84, 85, 86, 87, 88, 89, 90, 97, 98, 99, 100, 101, 102, 103, 104, 105, 106, 107, 108, 109, 110, 111, 112, 113, 114, 115, 116, 117, 118, 119, 120, 121, 122, 48, 49, 50, 51, 52, 53, 54, 55, 56, 57, 43, 47]⟩ w (by unfold maxLen; omega)
  have ho2 : odd (ByteArray.mk #[65, 66, 67, 68, 69, 70, 71, 72, 73, 74, 75, 76, 77, 78, 79, 80, 81, 82, 83, 84, 85, 86, 87, 88, 89, 90, 97, 98, 99, 100, 101, 102, 103, 104, 105, 106, 107, 108, 109, 110, 111, 112, 113, 114, 115, 116, 117, 118, 119, 120, 121, 122, 48, 49, 50, 51, 52, 53, 54, 55, 56, 57, 43, 47]).data.toList b.data.toList = if good SX (body s.data.toList) < tn s.data.toList then (good SX (body s.data.toList) : Int) else -1 := by
    rw [hd]
    unfold odd
    rw [body_length]
    rfl
  rw [ho2] at hod
  by_cases hg : good SX (body s.data.toList) < tn s.data.toList
  · obtain ⟨r1, r2, r3⟩ := six_bad hg
    rw [if_pos hg] at hod
    unfold SixRet
    rw [r1, r2, r3]
    generalize good SX (body s.data.toList) = g at hod hg ⊢
    have H1 := Lib.hid ht1
    have H2 := Lib.hid ht2
    have HO := Lib.hid hod
    clear ht1 ht2 hod ho2 r1 r2 r3 hd hd1 hb hb1 hlen hbl
    go_enter Try.func43, Try.ntmps43
    go_wp2_with fail
    refine H1.out.mono ?_
    rintro e w' ⟨rfl, rfl⟩
    go_wp2_with fail
    refine H2.out.mono ?_
    rintro e w' ⟨rfl, rfl⟩
    go_wp2_with fail
    refine HO.out.mono ?_
    rintro e w2 ⟨rfl, hb2⟩
    go_wp2_with fail
    go_ret3
    exact ⟨_, rfl, Own.nil _ _, hb2⟩
  rw [if_neg hg] at hod
  by_cases h4 : s.size % 4 = 0
  · exact unb_loop s b w w hs hd hg h4 ⟨b1, hs1, ht1, ht2⟩ hod
  · obtain ⟨r1, r2, r3⟩ := six_odd hg h4
    unfold SixRet
    rw [r1, r2, r3, hlen]
    have H1 := Lib.hid ht1
    have H2 := Lib.hid ht2
    have HO := Lib.hid hod
    have d0 : ((s.size : Int) % 4 == 0) = false := by simp; omega
    have d0' : ((s.size : Int) % 4 != 0) = true := by simp; omega
    clear ht1 ht2 hod ho2 r1 r2 r3 hd hd1 hb hb1 hlen hbl hg h4
    go_enter Try.func43, Try.ntmps43
    go_wp2_with fail
    refine H1.out.mono ?_
    rintro e w' ⟨rfl, rfl⟩
    go_wp2_with fail
    refine H2.out.mono ?_
    rintro e w' ⟨rfl, rfl⟩
    go_wp2_with fail
    refine HO.out.mono ?_
    rintro e w2 ⟨rfl, hb2⟩
    go_wp2_with fail
    go_ret3
    exact ⟨_, rfl, Own.nil _ _, hb2⟩
end Go.Proofs.Ytmiffljcggfcgaa.B64
