/- Unbase64, the program's: its contract. -/
import Derived.Test.YtmiffljcggfcgaaB64P
import Derived.Laws.BitsAllLaws
namespace Go.Proofs.Ytmiffljcggfcgaa.B64
open Go Go.RowKit Go.Proofs.Ytmiffljcggfcgaa.Cop Go.Proofs.Ytmiffljcggfcgaa.Oct Go.Proofs.Ytmiffljcggfcgaa.Hex
set_option linter.unusedVariables false
set_option linter.unusedSimpArgs false

theorem or_six : ∀ a d : Fin 64, bits BinOp.or IntKind.u32 ((a.val : Int) * 64) (d.val : Int) = ((a.val * 64 + d.val : Nat) : Int) := by decide +kernel

theorem and_zero (x : Nat) (h : x < 4096) : bits BinOp.and IntKind.u32 (x : Int) 0 = 0 := by
  simp [bits]; rfl
theorem and_3 (x : Nat) (h : x < 4096) : bits BinOp.and IntKind.u32 (x : Int) 3 = ((x % 4 : Nat) : Int) := by
  have := u32_and_nat x 3 (by omega) (by decide)
  rw [show ((3 : Nat) : Int) = 3 from rfl] at this
  rw [this, Nat.and_two_pow_sub_one_eq_mod x 2]
theorem and_15 (x : Nat) (h : x < 4096) : bits BinOp.and IntKind.u32 (x : Int) 15 = ((x % 16 : Nat) : Int) := by
  have := u32_and_nat x 15 (by omega) (by decide)
  rw [show ((15 : Nat) : Int) = 15 from rfl] at this
  rw [this, Nat.and_two_pow_sub_one_eq_mod x 4]
theorem or_eq (m d : Nat) (h1 : m < 64) (h2 : d < 64) : bits BinOp.or IntKind.u32 ((m : Int) * 64) (d : Int) = ((m * 64 + d : Nat) : Int) := or_six ⟨m, h1⟩ ⟨d, h2⟩

set_option maxHeartbeats 2000000 in
set_option maxRecDepth 100000 in
theorem unb_loop (s b : ByteArray) (w w1 : World) (hs : s.size ≤ 2097152) (hb : b.data.toList = body s.data.toList) (hg : ¬ good SX (body s.data.toList) < tn s.data.toList) (h4 : s.size % 4 = 0)
    (htr : ∃ b1 : ByteArray, b1.size ≤ 2097152 ∧ Calls Try.prog 67 #[.string s, .string ⟨#[61]⟩] w (fun e w' => e = .returned (.string b1) ∧ w = w') ∧ Calls Try.prog 67 #[.string b1, .string ⟨#[61]⟩] w (fun e w' => e = .returned (.string b) ∧ w = w'))
    (hod : Calls Try.prog 62 #[.string b, .string ⟨#[65, 66, 67, 68, 69, 70, 71, 72, 73, 74, 75, 76, 77, 78, 79, 80, 81, 82, 83, 84, 85, 86, 87, 88, 89, 90, 97, 98, 99, 100, 101, 102, 103, 104, 105, 106, 107, 108, 109, 110, 111, 112, 113, 114, 115, 116, 117, 118, 119, 120, 121, 122, 48, 49, 50, 51, 52, 53, 54, 55, 56, 57, 43, 47]⟩] w (fun e w' => e = .returned (.int .i64 (-1)) ∧ Below w.heap.size w w')) :
    Calls Try.prog 43 #[.string s] w (SixRet s.data.toList w) := by
  have hbl : b.size = tn s.data.toList := by
    have : b.data.toList.length = tn s.data.toList := by rw [hb]; exact body_length _
    exact this
  have htn := tn_le s.data.toList
  have hsl : s.data.toList.length = s.size := rfl
  have hov := @six_over s.data.toList hg h4
  have hfi := @six_fine s.data.toList hg h4
  have hyes : ∀ k (h : k < b.size), 0 ≤ sv b[k] := by
    intro k h
    have hl := good_le SX (body s.data.toList)
    have hbb := body_length s.data.toList
    have e : b[k] = (body s.data.toList)[k]'(by rw [hbb, ← hbl]; exact h) := by
      rw [bget b k h]
      congr 1
    rw [e]
    exact good_yes SX _ k (by omega)
  have hrd : ∀ k (h : k < b.size), read6 ((body s.data.toList).take (k + 1)) = step6 (read6 ((body s.data.toList).take k)) (sv b[k]).toNat := by
    intro k h
    rw [read6_succ _ k (by rw [body_length, ← hbl]; exact h), bget b k h]
    congr 3
    simp only [hb]
  have hr0 : read6 ((body s.data.toList).take 0) = (0, 0, []) := rfl
  have hrn : (body s.data.toList).take b.size = body s.data.toList := List.take_of_length_le (by rw [body_length, hbl]; exact Nat.le_refl _)
  unfold SixRet
  obtain ⟨ra, hra⟩ : ∃ x, sAt s.data.toList = x := ⟨_, rfl⟩
  obtain ⟨re, hre⟩ : ∃ x, sErr s.data.toList = x := ⟨_, rfl⟩
  obtain ⟨rb, hrb⟩ : ∃ x, sBytes s.data.toList = x := ⟨_, rfl⟩
  rw [hra, hre, hrb] at hov hfi
  rw [hra, hre, hrb]
  rw [← hbl] at hov htn
  clear hra hre hrb hsl hg
  obtain ⟨rd, hrdd⟩ : ∃ rd : Nat → Nat × Nat × List UInt8, ∀ k, read6 ((body s.data.toList).take k) = rd k := ⟨_, fun _ => rfl⟩
  rw [← hrn] at hov hfi
  simp only [hrdd] at hrd hr0 hov hfi
  obtain ⟨b1, hb1s, ht1, ht2⟩ := htr
  have HOV := Lib.hid hov
  have HFI := Lib.hid hfi
  have HY := Lib.hid hyes
  have HRD := Lib.hid hrd
  have HR0 := Lib.hid hr0
  have HT1 := Lib.hid ht1
  have HT2 := Lib.hid ht2
  have HOD := Lib.hid hod
  have hbs : b.size ≤ 2097152 := Nat.le_trans htn hs
  have d0 : ((s.size : Int) % 4 == 0) = true := by simp; omega
  have d0' : ((s.size : Int) % 4 != 0) = false := by simp; omega
  clear hov hfi hyes hrd hr0 ht1 ht2 hod hrn hrdd hbl htn hb h4
  go_enter Try.func43, Try.ntmps43
  go_wp2_with fail
  refine HT1.out.mono ?_
  rintro e w' ⟨rfl, rfl⟩
  go_wp2_with fail
  refine HT2.out.mono ?_
  rintro e w' ⟨rfl, rfl⟩
  go_wp2_with fail
  refine HOD.out.mono ?_
  rintro e w2 ⟨rfl, hb2⟩
  go_wp2_with fail
  go_loopw [2, 7, 8, 26] (fun u x y i wr => ∃ (k m t : Nat) (out : List UInt8), k ≤ b.size ∧ x = .int .u32 (m : Int) ∧ y = .int .i64 (t : Int) ∧ i = .int .i64 (k : Int) ∧ Own w.heap.size wr u out ∧ Hid (rd k = (m, t, out)) ∧ (t = 0 ∨ t = 2 ∨ t = 4 ∨ t = 6) ∧ m < 2 ^ t ∧ out.length ≤ k ∧ Below w.heap.size w wr) (fun _ _ _ i _ => b.size - (intOf i).toNat)
  case atStart => exact ⟨0, 0, 0, [], Nat.zero_le _, rfl, rfl, rfl, Own.nil _ _, HR0, .inl rfl, by decide, Nat.le_refl _, hb2⟩
  case round =>
    obtain ⟨k, m, t, out, hk, rfl, rfl, rfl, hown, HK, ht, hm, hlo, hbel⟩ := hrel
    by_cases hlt : k < b.size
    · have d1 : decide ((k : Int) < (b.size : Int)) = true := decide_eq_true (by omega)
      have hp := HY.out k hlt
      have hsl := sv_lt b[k]
      have hst := HRD.out k hlt
      rw [HK.out] at hst
      have hc := ixs b[k]
      obtain ⟨d, hd⟩ : ∃ d : Nat, sv b[k] = (d : Int) := ⟨(sv b[k]).toNat, by omega⟩
      simp only [hd] at hc hst hsl
      rw [Int.toNat_natCast] at hst
      unfold step6 at hst
      have HC := Lib.hid hc
      have hd64 : d < 64 := by omega
      clear hc hd hp hsl
      obtain ⟨x, hx⟩ : ∃ x : Nat, x = m * 64 + d := ⟨_, rfl⟩
      rw [← hx] at hst
      have hroom : out.length ≤ 2097152 := by omega
      rcases ht with rfl | rfl | rfl | rfl
      · simp only [Nat.reduceAdd, Nat.reduceLeDiff, if_false, Nat.reducePow] at hst hm
        have e3 := or_eq m d (by omega) hd64
        rw [← hx] at e3
        have HST := Lib.hid hst
        have hx6 : x < 2 ^ 6 := by omega
        clear hst hx
        go_wp2_with (go_at_call 63; go_loud (refine (HC.out _).mono ?_); rintro e w' ⟨rfl, rfl⟩)
        go_roundw
        case rel => exact ⟨k + 1, x, 6, out, by omega, rfl, rfl, by go_num, hown, HST, by omega, hx6, by omega, hbel⟩
        case measure => simp [intOf]; omega
      · simp only [Nat.reduceAdd, Nat.reduceSub, Nat.reduceLeDiff, if_true, Nat.reducePow] at hst hm
        have hm64 : m < 64 := by omega
        have e3 := or_eq m d hm64 hd64
        rw [← hx] at e3
        have hxb : x < 4096 := by omega
        have hxt : x / 1 < 256 := by omega
        have hbt : ((x : Int) % 256 : Int) = ((UInt8.ofNat (x / 1)).toNat : Int) := by rw [UInt8.toNat_ofNat']; omega
        obtain ⟨y, hy⟩ : ∃ y : Nat, y = x % 1 := ⟨_, rfl⟩
        have hyl : y < 2 ^ 0 := by rw [hy]; exact Nat.mod_lt _ (by decide)
        have e5 : (x : Int) % 1 = (y : Int) := by rw [hy]; rfl
        have e4 : bits BinOp.and IntKind.u32 (x : Int) 0 = 0 := and_zero x hxb
        rw [← hy] at hst
        have HST := Lib.hid hst
        have HX := Lib.hid hx
        have HM := Lib.hid hm
        have HBT := Lib.hid hbt
        have HYL := Lib.hid hyl
        have HYE := Lib.hid hy
        clear hst hx hm hbt hyl hy hxt
        go_wp2_with (first | (go_at_call 63; go_loud (refine (HC.out _).mono ?_); rintro e w' ⟨rfl, rfl⟩) | ((with_reducible refine gate_dst (N := 49) rfl ?_); (refine wp_append rfl (.tmp 43) (.tmp 48) 52 5 rfl Try.underlying52 info8 rfl (by decide) (base := w.heap.size) (n := out.length) (xs := bcs out) rfl (hown.alloc _) rfl (Row.one _ _ _) rfl (one_one rfl) (by unfold maxLen; omega) (by omega) (by have := hbel.size; simp; omega) ?_); intro v' w3 hown2 hgrow2))
        have hbel2 : Below w.heap.size w w3 := (hbel.alloc hbel.size _).grown hgrow2 (by have := hbel.size; simp; omega) (fun j hj => (hown.lt j hj).1)
        have hown3 : Own w.heap.size w3 v' (out ++ [UInt8.ofNat (x / 1)]) := by
          unfold Own
          rw [List.length_append, bcs_append]
          rw [HBT.out] at hown2
          exact hown2
        clear hown2 hgrow2 hown
        go_roundw
        case rel => exact ⟨k + 1, y, 0, _, by omega, by rw [show y = 0 from by have := HYL.out; omega]; rfl, rfl, by go_num, hown3, HST, by omega, HYL.out, by rw [List.length_append]; simp; omega, hbel2⟩
        case measure => simp [intOf]; omega
      · simp only [Nat.reduceAdd, Nat.reduceSub, Nat.reduceLeDiff, if_true, Nat.reducePow] at hst hm
        have hm64 : m < 64 := by omega
        have e3 := or_eq m d hm64 hd64
        rw [← hx] at e3
        have hxb : x < 4096 := by omega
        have hxt : x / 4 < 256 := by omega
        have hbt : ((x : Int) / 4 % 256 : Int) = ((UInt8.ofNat (x / 4)).toNat : Int) := by rw [UInt8.toNat_ofNat']; omega
        obtain ⟨y, hy⟩ : ∃ y : Nat, y = x % 4 := ⟨_, rfl⟩
        have hyl : y < 2 ^ 2 := by rw [hy]; exact Nat.mod_lt _ (by decide)
        have e5 : (x : Int) % 4 = (y : Int) := by rw [hy]; rfl
        have e4 : bits BinOp.and IntKind.u32 (x : Int) 0 = 0 := and_zero x hxb
        have e6 := and_3 x hxb
        rw [← hy] at e6
        rw [← hy] at hst
        have HST := Lib.hid hst
        have HX := Lib.hid hx
        have HM := Lib.hid hm
        have HBT := Lib.hid hbt
        have HYL := Lib.hid hyl
        have HYE := Lib.hid hy
        clear hst hx hm hbt hyl hy hxt
        go_wp2_with (first | (go_at_call 63; go_loud (refine (HC.out _).mono ?_); rintro e w' ⟨rfl, rfl⟩) | ((with_reducible refine gate_dst (N := 49) rfl ?_); (refine wp_append rfl (.tmp 43) (.tmp 48) 52 5 rfl Try.underlying52 info8 rfl (by decide) (base := w.heap.size) (n := out.length) (xs := bcs out) rfl (hown.alloc _) rfl (Row.one _ _ _) rfl (one_one rfl) (by unfold maxLen; omega) (by omega) (by have := hbel.size; simp; omega) ?_); intro v' w3 hown2 hgrow2))
        have hbel2 : Below w.heap.size w w3 := (hbel.alloc hbel.size _).grown hgrow2 (by have := hbel.size; simp; omega) (fun j hj => (hown.lt j hj).1)
        have hown3 : Own w.heap.size w3 v' (out ++ [UInt8.ofNat (x / 4)]) := by
          unfold Own
          rw [List.length_append, bcs_append]
          rw [HBT.out] at hown2
          exact hown2
        clear hown2 hgrow2 hown
        go_roundw
        case rel => exact ⟨k + 1, y, 2, _, by omega, rfl, rfl, by go_num, hown3, HST, by omega, HYL.out, by rw [List.length_append]; simp; omega, hbel2⟩
        case measure => simp [intOf]; omega
      · simp only [Nat.reduceAdd, Nat.reduceSub, Nat.reduceLeDiff, if_true, Nat.reducePow] at hst hm
        have hm64 : m < 64 := by omega
        have e3 := or_eq m d hm64 hd64
        rw [← hx] at e3
        have hxb : x < 4096 := by omega
        have hxt : x / 16 < 256 := by omega
        have hbt : ((x : Int) / 16 : Int) = ((UInt8.ofNat (x / 16)).toNat : Int) := by rw [UInt8.toNat_ofNat']; omega
        obtain ⟨y, hy⟩ : ∃ y : Nat, y = x % 16 := ⟨_, rfl⟩
        have hyl : y < 2 ^ 4 := by rw [hy]; exact Nat.mod_lt _ (by decide)
        have e5 : (x : Int) % 16 = (y : Int) := by rw [hy]; rfl
        have e4 : bits BinOp.and IntKind.u32 (x : Int) 0 = 0 := and_zero x hxb
        have e6 := and_15 x hxb
        rw [← hy] at e6
        rw [← hy] at hst
        have HST := Lib.hid hst
        have HX := Lib.hid hx
        have HM := Lib.hid hm
        have HBT := Lib.hid hbt
        have HYL := Lib.hid hyl
        have HYE := Lib.hid hy
        clear hst hx hm hbt hyl hy hxt
        go_wp2_with (first | (go_at_call 63; go_loud (refine (HC.out _).mono ?_); rintro e w' ⟨rfl, rfl⟩) | ((with_reducible refine gate_dst (N := 49) rfl ?_); (refine wp_append rfl (.tmp 43) (.tmp 48) 52 5 rfl Try.underlying52 info8 rfl (by decide) (base := w.heap.size) (n := out.length) (xs := bcs out) rfl (hown.alloc _) rfl (Row.one _ _ _) rfl (one_one rfl) (by unfold maxLen; omega) (by omega) (by have := hbel.size; simp; omega) ?_); intro v' w3 hown2 hgrow2))
        have hbel2 : Below w.heap.size w w3 := (hbel.alloc hbel.size _).grown hgrow2 (by have := hbel.size; simp; omega) (fun j hj => (hown.lt j hj).1)
        have hown3 : Own w.heap.size w3 v' (out ++ [UInt8.ofNat (x / 16)]) := by
          unfold Own
          rw [List.length_append, bcs_append]
          rw [HBT.out] at hown2
          exact hown2
        clear hown2 hgrow2 hown
        go_roundw
        case rel => exact ⟨k + 1, y, 4, _, by omega, rfl, rfl, by go_num, hown3, HST, by omega, HYL.out, by rw [List.length_append]; simp; omega, hbel2⟩
        case measure => simp [intOf]; omega
    · have hkb : k = b.size := by omega
      have d1 : decide ((k : Int) < (b.size : Int)) = false := decide_eq_false (by omega)
      have hst := HK.out
      rw [hkb] at hst
      by_cases hm0 : m = 0
      · obtain ⟨r1, r2, r3⟩ := HFI.out (by rw [hst]; exact hm0)
        rw [hst] at r3
        subst hm0
        have R1 := Lib.hid r1
        have R2 := Lib.hid r2
        have R3 := Lib.hid r3
        clear r1 r2 r3 hst hkb
        go_wp2_with fail
        go_ret3
        exact ⟨_, by rw [R1.out, R2.out]; rfl, by rw [R3.out]; exact hown, hbel⟩
      · obtain ⟨r1, r2, r3⟩ := HOV.out (by rw [hst]; exact hm0)
        have R1 := Lib.hid r1
        have R2 := Lib.hid r2
        have R3 := Lib.hid r3
        have d5 : ((m : Int) == 0) = false := by simp; omega
        have d6 : ((m : Int) != 0) = true := by simp; omega
        clear r1 r2 r3 hst hkb
        go_wp2_with fail
        go_ret3
        exact ⟨_, by rw [R1.out, R2.out]; rfl, by rw [R3.out]; exact Own.nil _ _, hbel⟩
end Go.Proofs.Ytmiffljcggfcgaa.B64
