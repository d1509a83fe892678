/- checkpoint.Format and the reference's. -/
import Derived.Test.YtfefcfjedlidnaaDoorCkN
import Derived.Test.YtfefcfjedlidnaaDoorInv
import Derived.Test.YtfefcfjedlidnaaDoorIto
import Derived.Test.YtfefcfjedlidnaaDoorB64C
namespace Go.Proofs.YtfefcfjedlidnaaDoor.Sha
open Go Go.RowKit Go.Proofs Go.Proofs.YtfefcfjedlidnaaDoor.Cop Go.Proofs.YtfefcfjedlidnaaDoor.Oct Go.Proofs.YtfefcfjedlidnaaDoor.Utf Go.Proofs.YtfefcfjedlidnaaDoor.Ito Go.Proofs.YtfefcfjedlidnaaDoor.B64
set_option linter.unusedVariables false
set_option linter.unusedSimpArgs false
/-- A checkpoint's text. -/
def ckT (s : ByteArray) (n : Int) (d : List UInt8) : List UInt8 := ((((s.data.toList ++ [10]) ++ Lib.itoa n) ++ [10]) ++ b64 d) ++ [10]
theorem str_self (s : ByteArray) : s = str s.data.toList := by cases s; simp [str]
theorem may_parts {s : ByteArray} {n : Int} {d : List UInt8} (h : mayB s n d = true) : s.size ≤ 100 ∧ 0 ≤ n ∧ n ≤ 281474976710656 := by
  unfold mayB origB at h
  simp only [Bool.and_eq_true, decide_eq_true_eq] at h
  exact ⟨h.1.1.1.1.2, h.1.1.2, h.1.2⟩
def frF (g : Nat) (L : List Value) (u : Nat → Value) : Array Value := #[.agg L.toArray, .pointer (some ⟨g, 0, none⟩), u 2, u 3, .agg L.toArray, .bool true, .bool false, u 7, u 8, u 9, u 10, u 11, u 12, u 13, u 14, u 15, u 16, u 17, u 18, u 19]
def valF (g : Nat) (s : ByteArray) (n : Int) (d : List UInt8) : Nat → Value
  | 0 => .pointer (some ⟨g, 0, none⟩)
  | 1 => .string s
  | 2 => .string (str (s.data.toList ++ [10]))
  | 3 => .pointer (some ⟨g, 1, none⟩)
  | 4 => .int .i64 n
  | 5 => .string (str (Lib.itoa n))
  | 6 => .string (str ((s.data.toList ++ [10]) ++ Lib.itoa n))
  | 7 => .string (str (((s.data.toList ++ [10]) ++ Lib.itoa n) ++ [10]))
  | 8 => .pointer (some ⟨g, 2, none⟩)
  | 9 => .slice (some ⟨g, 2, none⟩) 32 32
  | 10 => .string (str (b64 d))
  | 11 => .string (str ((((s.data.toList ++ [10]) ++ Lib.itoa n) ++ [10]) ++ b64 d))
  | 12 => .string (str (ckT s n d))
  | 13 => .string (str (ckT s n d))
  | _ => .int .i64 0
theorem slice2_rd {w : World} {g : Nat} {s : ByteArray} {n : Int} {d : List UInt8} (h : Blk w g 51 (ckL s n d)) (hd : d.length = 32) : Rd w (.slice (some ⟨g, 2, none⟩) 32 32) d := by
  refine ⟨_, _, by rw [hd], by omega, by unfold maxLen; omega, (fun e => by cases e), ?_⟩
  intro ad had j u hu
  cases had
  exact ck_dig s n d h j u hu
theorem c15 {i : Nat} (h : i < 15) : i = 0 ∨ i = 1 ∨ i = 2 ∨ i = 3 ∨ i = 4 ∨ i = 5 ∨ i = 6 ∨ i = 7 ∨ i = 8 ∨ i = 9 ∨ i = 10 ∨ i = 11 ∨ i = 12 ∨ i = 13 ∨ i = 14 := by omega
set_option maxRecDepth 100000 in
theorem format_calls (s : ByteArray) (n : Int) (d : List UInt8) (hd : d.length = 32) (w : World) (hT : Tabs w) (hK : Kon w) (hP : Pows w) : Calls Tryd.prog 28 #[ckV s n d] w fun e w' => e = .returned (if mayB s n d then .tuple #[.string (str (ckT s n d)), .int .i64 0] else .tuple #[.string ⟨#[]⟩, .int .i64 2]) ∧ Below w.heap.size w w' := by
  have hma : ∀ w', Below w.heap.size w w' → Calls Tryd.prog 72 #[ckV s n d] w' fun e w'' => e = .returned (.bool (mayB s n d)) ∧ Below w'.heap.size w' w'' := fun w' hb => may_calls s n d hd w' (Utf8Tabs_below hT hb) (hK.below hb)
  have hl := ck_len s n d hd
  have HMA := Lib.hid hma
  have HL := Lib.hid hl
  have HP := Lib.hid hP
  have HD := Lib.hid hd
  obtain ⟨MA, hMA⟩ : ∃ b, mayB s n d = b := ⟨_, rfl⟩
  have HM := Lib.hid hMA
  rw [hMA] at HMA ⊢
  clear hma hl hd hT hK hP hMA
  go_enter Tryd.func28, Tryd.ntmps28
  go_wp2_with (first | (((with_reducible refine gate_dst (N := 1) rfl ?_); go_loud (refine wp_box rfl _ _ rfl (v := ckV s n d) rfl ?_); intro w1 hk1 hb1 hz1); rw [ck_cells] at hk1) | (((with_reducible refine gate_dst (N := 4) rfl ?_); go_loud (refine wp_load_blk rfl 51 _ rfl aggCk sizeCk rfl hk1 (HL.out) ?_))))
  refine (HMA.out w1 hb1).mono ?_
  rintro e w2 ⟨rfl, hb2⟩
  have hk2 := hk1.below hb2
  have hb02 : Below w.heap.size w w2 := hb1.trans (hb2.mono hb1.size)
  clear hk1
  cases MA with
  | false =>
    go_wp2_with fail
    go_ret2
    exact ⟨rfl, hb02⟩
  | true =>
    go_wp2_with fail
    obtain ⟨p1, p2, p3⟩ := may_parts HM.out
    have hil := Lib.itoa_length_le n (by omega) (by omega)
    have hbl := b64_length d
    have hsl : s.data.toList.length = s.size := rfl
    have hdl := HD.out
    refine wp_region_pure (frF w.heap.size (ckL s n d)) (fun k => if k = 2 then .string ⟨#[]⟩ else if k = 3 then .int .i64 0 else undef) (valF w.heap.size s n d) (by kernel_rfl) (by kernel_rfl) (by kernel_rfl) ?_ ?_ ?_
    · intro i hi u v
      have h15 : i < 15 := hi
      rcases c15 h15 with rfl | rfl | rfl | rfl | rfl | rfl | rfl | rfl | rfl | rfl | rfl | rfl | rfl | rfl | rfl <;> rfl
    · intro i o ho u W hb hdep K hK
      have h15 : i < 15 := (Array.getElem?_eq_some_iff.1 ho).1
      have hkW : Blk W w.heap.size 51 (ckL s n d) := hk2.below hb
      have hbW : Below w.heap.size w W := hb02.trans (hb.mono hb02.size)
      have K0 := hK W (Below.refl _ _)
      rcases c15 h15 with rfl | rfl | rfl | rfl | rfl | rfl | rfl | rfl | rfl | rfl | rfl | rfl | rfl | rfl | rfl <;> obtain rfl := Option.some.inj ho
      · refine st_run rfl (v := valF w.heap.size s n d 0) (w' := W) ?_ K0
        unfold frF valF; go_simp
      · have hu : u 7 = .pointer (some ⟨w.heap.size, 0, none⟩) := hdep ⟨0, .data⟩ (by simp) rfl
        exact st_load1 (by rfl) 9 (.tmp 7) (by rfl) ck_s1 ck_s3 (by exact hu) (hkW.cell 0) K0
      · have hu : u 8 = .string s := hdep ⟨1, .data⟩ (by simp) rfl
        exact st_addS (by rfl) 9 9 (.tmp 8) _ (by rfl) (by exact hu) (by rfl) ((str_self s)) (q := [10]) (by rfl) (by simp; omega) K0
      · refine st_run rfl (v := valF w.heap.size s n d 3) (w' := W) ?_ K0
        unfold frF valF; go_simp
      · have hu : u 10 = .pointer (some ⟨w.heap.size, 1, none⟩) := hdep ⟨3, .data⟩ (by simp) rfl
        exact st_load1 (by rfl) 3 (.tmp 10) (by rfl) ck_s2 ck_s4 (by exact hu) (hkW.cell 1) K0
      · have hu : u 11 = .int .i64 n := hdep ⟨4, .data⟩ (by simp) rfl
        have hc : Calls Tryd.prog 74 #[.int .i64 n] W fun e w' => e = .returned (.string (str (Lib.itoa n))) ∧ Below W.heap.size W w' := itoa_calls n (by omega) (by omega) W (HP.out.below hbW)
        rw [← hu] at hc
        have HC := Lib.hid hc
        clear hc hu hdep K0 ho
        refine st_want (a := { tmps := frF w.heap.size (ckL s n d) u, defers := [] }) rfl ?_
        unfold frF
        go_simp
        refine HC.out.mono ?_
        rintro e w' ⟨rfl, hb'⟩
        exact hK w' hb'
      · have hu : u 9 = .string (str (s.data.toList ++ [10])) := hdep ⟨2, .data⟩ (by simp) rfl
        have hu2 : u 12 = .string (str (Lib.itoa n)) := hdep ⟨5, .data⟩ (by simp) rfl
        exact st_addS (by rfl) 9 9 (.tmp 9) (.tmp 12) (by rfl) (by exact hu) (by exact hu2) (by rfl) (q := _) (by rfl) (by simp; omega) K0
      · have hu : u 13 = .string (str ((s.data.toList ++ [10]) ++ Lib.itoa n)) := hdep ⟨6, .data⟩ (by simp) rfl
        exact st_addS (by rfl) 9 9 (.tmp 13) _ (by rfl) (by exact hu) (by rfl) (by rfl) (q := [10]) (by rfl) (by simp; omega) K0
      · refine st_run rfl (v := valF w.heap.size s n d 8) (w' := W) ?_ K0
        unfold frF valF; go_simp
      · have hu : u 15 = .pointer (some ⟨w.heap.size, 2, none⟩) := hdep ⟨8, .data⟩ (by simp) rfl
        refine st_run rfl (v := valF w.heap.size s n d 9) (w' := W) ?_ K0
        unfold frF valF; go_simp
      · have hu : u 16 = .slice (some ⟨w.heap.size, 2, none⟩) 32 32 := hdep ⟨9, .data⟩ (by simp) rfl
        have hc : Calls Tryd.prog 75 #[.slice (some ⟨w.heap.size, 2, none⟩) 32 32] W fun e w' => e = .returned (.string (str (b64 d))) ∧ Below W.heap.size W w' := Go.Proofs.YtfefcfjedlidnaaDoor.Chk.base64_calls _ d W (slice2_rd hkW HD.out) (by omega)
        rw [← hu] at hc
        have HC := Lib.hid hc
        clear hc hu hdep K0 ho
        refine st_want (a := { tmps := frF w.heap.size (ckL s n d) u, defers := [] }) rfl ?_
        unfold frF
        go_simp
        refine HC.out.mono ?_
        rintro e w' ⟨rfl, hb'⟩
        exact hK w' hb'
      · have hu : u 14 = .string (str (((s.data.toList ++ [10]) ++ Lib.itoa n) ++ [10])) := hdep ⟨7, .data⟩ (by simp) rfl
        have hu2 : u 17 = .string (str (b64 d)) := hdep ⟨10, .data⟩ (by simp) rfl
        exact st_addS (by rfl) 9 9 (.tmp 14) (.tmp 17) (by rfl) (by exact hu) (by exact hu2) (by rfl) (q := _) (by rfl) (by simp; omega) K0
      · have hu : u 18 = .string (str ((((s.data.toList ++ [10]) ++ Lib.itoa n) ++ [10]) ++ b64 d)) := hdep ⟨11, .data⟩ (by simp) rfl
        exact st_addS (by rfl) 9 9 (.tmp 18) _ (by rfl) (by exact hu) (by rfl) (by rfl) (q := [10]) (by rfl) (by simp; omega) K0
      · have hu : u 19 = .string (str (ckT s n d)) := hdep ⟨12, .data⟩ (by simp) rfl
        refine st_run rfl (v := valF w.heap.size s n d 13) (w' := W) ?_ K0
        unfold frF valF; go_simp
      · refine st_run rfl (v := valF w.heap.size s n d 14) (w' := W) ?_ K0
        unfold frF valF; go_simp
    · intro u W hb hV
      have e2 : u 2 = .string (str (ckT s n d)) := hV 13 (by decide)
      have e3 : u 3 = .int .i64 0 := hV 14 (by decide)
      have hbW : Below w.heap.size w W := hb02.trans (hb.mono hb02.size)
      unfold frF
      rw [e2, e3]
      clear e2 e3 hV hb
      go_wp2_with fail
      go_ret2
      exact ⟨rfl, hbW⟩
set_option maxRecDepth 100000 in
theorem rformat_calls (s : ByteArray) (n : Int) (d : List UInt8) (hd : d.length = 32) (w : World) : Calls Tryd.prog 29 #[ckV s n d] w fun e w' => e = .returned (if mayB s n d then .tuple #[.string (str (ckT s n d)), .int .i64 0] else .tuple #[.string ⟨#[]⟩, .int .i64 2]) ∧ Below w.heap.size w w' := by
  have hma : ∀ w', Below w.heap.size w w' → Calls Tryd.prog 27 #[ckV s n d] w' fun e w'' => e = .returned (.bool (mayB s n d)) ∧ Below w'.heap.size w' w'' := fun w' hb => rmay_calls s n d hd w'
  have hl := ck_len s n d hd
  have HMA := Lib.hid hma
  have HL := Lib.hid hl
  have HD := Lib.hid hd
  obtain ⟨MA, hMA⟩ : ∃ b, mayB s n d = b := ⟨_, rfl⟩
  have HM := Lib.hid hMA
  rw [hMA] at HMA ⊢
  clear hma hl hd hMA
  go_enter Tryd.func29, Tryd.ntmps29
  go_wp2_with (first | (((with_reducible refine gate_dst (N := 1) rfl ?_); go_loud (refine wp_box rfl _ _ rfl (v := ckV s n d) rfl ?_); intro w1 hk1 hb1 hz1); rw [ck_cells] at hk1) | (((with_reducible refine gate_dst (N := 4) rfl ?_); go_loud (refine wp_load_blk rfl 51 _ rfl aggCk sizeCk rfl hk1 (HL.out) ?_))))
  refine (HMA.out w1 hb1).mono ?_
  rintro e w2 ⟨rfl, hb2⟩
  have hk2 := hk1.below hb2
  have hb02 : Below w.heap.size w w2 := hb1.trans (hb2.mono hb1.size)
  clear hk1
  cases MA with
  | false =>
    go_wp2_with fail
    go_ret2
    exact ⟨rfl, hb02⟩
  | true =>
    go_wp2_with fail
    obtain ⟨p1, p2, p3⟩ := may_parts HM.out
    have hil := Lib.itoa_length_le n (by omega) (by omega)
    have hbl := b64_length d
    have hsl : s.data.toList.length = s.size := rfl
    have hdl := HD.out
    refine wp_region_pure (frF w.heap.size (ckL s n d)) (fun k => if k = 2 then .string ⟨#[]⟩ else if k = 3 then .int .i64 0 else undef) (valF w.heap.size s n d) (by kernel_rfl) (by kernel_rfl) (by kernel_rfl) ?_ ?_ ?_
    · intro i hi u v
      have h15 : i < 15 := hi
      rcases c15 h15 with rfl | rfl | rfl | rfl | rfl | rfl | rfl | rfl | rfl | rfl | rfl | rfl | rfl | rfl | rfl <;> rfl
    · intro i o ho u W hb hdep K hK
      have h15 : i < 15 := (Array.getElem?_eq_some_iff.1 ho).1
      have hkW : Blk W w.heap.size 51 (ckL s n d) := hk2.below hb
      have hbW : Below w.heap.size w W := hb02.trans (hb.mono hb02.size)
      have K0 := hK W (Below.refl _ _)
      rcases c15 h15 with rfl | rfl | rfl | rfl | rfl | rfl | rfl | rfl | rfl | rfl | rfl | rfl | rfl | rfl | rfl <;> obtain rfl := Option.some.inj ho
      · refine st_run rfl (v := valF w.heap.size s n d 0) (w' := W) ?_ K0
        unfold frF valF; go_simp
      · have hu : u 7 = .pointer (some ⟨w.heap.size, 0, none⟩) := hdep ⟨0, .data⟩ (by simp) rfl
        exact st_load1 (by rfl) 9 (.tmp 7) (by rfl) ck_s1 ck_s3 (by exact hu) (hkW.cell 0) K0
      · have hu : u 8 = .string s := hdep ⟨1, .data⟩ (by simp) rfl
        exact st_addS (by rfl) 9 9 (.tmp 8) _ (by rfl) (by exact hu) (by rfl) ((str_self s)) (q := [10]) (by rfl) (by simp; omega) K0
      · refine st_run rfl (v := valF w.heap.size s n d 3) (w' := W) ?_ K0
        unfold frF valF; go_simp
      · have hu : u 10 = .pointer (some ⟨w.heap.size, 1, none⟩) := hdep ⟨3, .data⟩ (by simp) rfl
        exact st_load1 (by rfl) 3 (.tmp 10) (by rfl) ck_s2 ck_s4 (by exact hu) (hkW.cell 1) K0
      · have hu : u 11 = .int .i64 n := hdep ⟨4, .data⟩ (by simp) rfl
        have hc : Calls Tryd.prog 76 #[.int .i64 n] W fun e w' => e = .returned (.string (str (Lib.itoa n))) ∧ Below W.heap.size W w' := by
          obtain ⟨k, rfl⟩ := Int.eq_ofNat_of_zero_le p2
          rw [itoa_nat]
          exact (digits_calls k (by omega) W).mono (by rintro e w' ⟨rfl, rfl⟩; exact ⟨rfl, Below.refl _ _⟩)
        rw [← hu] at hc
        have HC := Lib.hid hc
        clear hc hu hdep K0 ho
        refine st_want (a := { tmps := frF w.heap.size (ckL s n d) u, defers := [] }) rfl ?_
        unfold frF
        go_simp
        refine HC.out.mono ?_
        rintro e w' ⟨rfl, hb'⟩
        exact hK w' hb'
      · have hu : u 9 = .string (str (s.data.toList ++ [10])) := hdep ⟨2, .data⟩ (by simp) rfl
        have hu2 : u 12 = .string (str (Lib.itoa n)) := hdep ⟨5, .data⟩ (by simp) rfl
        exact st_addS (by rfl) 9 9 (.tmp 9) (.tmp 12) (by rfl) (by exact hu) (by exact hu2) (by rfl) (q := _) (by rfl) (by simp; omega) K0
      · have hu : u 13 = .string (str ((s.data.toList ++ [10]) ++ Lib.itoa n)) := hdep ⟨6, .data⟩ (by simp) rfl
        exact st_addS (by rfl) 9 9 (.tmp 13) _ (by rfl) (by exact hu) (by rfl) (by rfl) (q := [10]) (by rfl) (by simp; omega) K0
      · refine st_run rfl (v := valF w.heap.size s n d 8) (w' := W) ?_ K0
        unfold frF valF; go_simp
      · have hu : u 15 = .pointer (some ⟨w.heap.size, 2, none⟩) := hdep ⟨8, .data⟩ (by simp) rfl
        refine st_run rfl (v := valF w.heap.size s n d 9) (w' := W) ?_ K0
        unfold frF valF; go_simp
      · have hu : u 16 = .slice (some ⟨w.heap.size, 2, none⟩) 32 32 := hdep ⟨9, .data⟩ (by simp) rfl
        have hc : Calls Tryd.prog 77 #[.slice (some ⟨w.heap.size, 2, none⟩) 32 32] W fun e w' => e = .returned (.string (str (b64 d))) ∧ Below W.heap.size W w' := rb64_calls _ d W (slice2_rd hkW HD.out) (by omega)
        rw [← hu] at hc
        have HC := Lib.hid hc
        clear hc hu hdep K0 ho
        refine st_want (a := { tmps := frF w.heap.size (ckL s n d) u, defers := [] }) rfl ?_
        unfold frF
        go_simp
        refine HC.out.mono ?_
        rintro e w' ⟨rfl, hb'⟩
        exact hK w' hb'
      · have hu : u 14 = .string (str (((s.data.toList ++ [10]) ++ Lib.itoa n) ++ [10])) := hdep ⟨7, .data⟩ (by simp) rfl
        have hu2 : u 17 = .string (str (b64 d)) := hdep ⟨10, .data⟩ (by simp) rfl
        exact st_addS (by rfl) 9 9 (.tmp 14) (.tmp 17) (by rfl) (by exact hu) (by exact hu2) (by rfl) (q := _) (by rfl) (by simp; omega) K0
      · have hu : u 18 = .string (str ((((s.data.toList ++ [10]) ++ Lib.itoa n) ++ [10]) ++ b64 d)) := hdep ⟨11, .data⟩ (by simp) rfl
        exact st_addS (by rfl) 9 9 (.tmp 18) _ (by rfl) (by exact hu) (by rfl) (by rfl) (q := [10]) (by rfl) (by simp; omega) K0
      · have hu : u 19 = .string (str (ckT s n d)) := hdep ⟨12, .data⟩ (by simp) rfl
        refine st_run rfl (v := valF w.heap.size s n d 13) (w' := W) ?_ K0
        unfold frF valF; go_simp
      · refine st_run rfl (v := valF w.heap.size s n d 14) (w' := W) ?_ K0
        unfold frF valF; go_simp
    · intro u W hb hV
      have e2 : u 2 = .string (str (ckT s n d)) := hV 13 (by decide)
      have e3 : u 3 = .int .i64 0 := hV 14 (by decide)
      have hbW : Below w.heap.size w W := hb02.trans (hb.mono hb02.size)
      unfold frF
      rw [e2, e3]
      clear e2 e3 hV hb
      go_wp2_with fail
      go_ret2
      exact ⟨rfl, hbW⟩
end Go.Proofs.YtfefcfjedlidnaaDoor.Sha
