/- checkpoint.may (as XCkM, for the program). -/
import Derived.Test.YtfefcfjedlidnaaDoorCkM
namespace Go.Proofs.YtfefcfjedlidnaaDoor.Sha
open Go Go.RowKit Go.Proofs Go.Proofs.YtfefcfjedlidnaaDoor.Cop Go.Proofs.YtfefcfjedlidnaaDoor.Oct Go.Proofs.YtfefcfjedlidnaaDoor.Utf
set_option linter.unusedVariables false
set_option linter.unusedSimpArgs false
attribute [local go_sem ↓] ldD
attribute [local go_sem] undef_guard
set_option maxRecDepth 100000 in
set_option maxHeartbeats 1000000 in
theorem may_calls (s : ByteArray) (n : Int) (d : List UInt8) (hd : d.length = 32) (w : World) (hT : Tabs w) (hK : Kon w) : Calls Tryd.prog 72 #[ckV s n d] w fun e w' => e = .returned (.bool (mayB s n d)) ∧ Below w.heap.size w w' := by
  have hro : ∀ w', Below w.heap.size w w' → Calls Tryd.prog 30 #[.string s] w' fun e w'' => e = .returned (.bool (origB s)) ∧ Below w'.heap.size w' w'' := fun w' hb => origin_calls s w' (Utf8Tabs_below hT hb)
  have hem : ∀ w', Below w.heap.size w w' → Calls Tryd.prog 101 #[] w' fun e w'' => e = .returned (dg (sha [])) ∧ Below w'.heap.size w' w'' := fun w' hb => empty_calls w' (hK.below hb)
  have hsl := sha_len []
  obtain ⟨MB, hMB⟩ : ∃ b, mayB s n d = b := ⟨_, rfl⟩
  have hMB2 := hMB
  unfold mayB at hMB2
  obtain ⟨out, hout⟩ : ∃ o, sha [] = o := ⟨_, rfl⟩
  rw [hout] at hsl hem hMB2
  rw [hMB]
  have HSL := Lib.hid hsl
  have HD := Lib.hid hd
  have HEM := Lib.hid hem
  clear hMB hout hsl hd hem hT hK
  cases ho : origB s with
  | false =>
    obtain rfl : MB = false := by rw [← hMB2, ho]; rfl
    rw [ho] at hro
    clear hMB2 ho
    go_enter Tryd.func72, Tryd.ntmps72
    go_wp2_with (((with_reducible refine gate_dst (N := 1) rfl ?_); go_loud (refine wp_box rfl _ _ rfl (v := ckV s n d) rfl ?_); intro w1 hk1 hb1 hz1); rw [ck_cells] at hk1; have k0 : w1.cell? ⟨w.heap.size, 0, none⟩ = some (.string s) := hk1.cell 0; have k1 : w1.cell? ⟨w.heap.size, 1, none⟩ = some (.int .i64 n) := hk1.cell 1)
    first | (go_region_law (first | (go_simp; go_at_call 30; go_loud (refine (hro _ (by first | exact hb1 | exact hb1.drew)).mono ?_); rintro e w2 ⟨rfl, hb2⟩; have hb3 : Below w1.heap.size w1 w2 := ⟨hb2.1, hb2.2, hb2.3, hb2.4, hb2.5⟩; have hk2 := hk1.below hb3; have m1 : w2.cell? ⟨w.heap.size, 1, none⟩ = some (.int .i64 n) := hk2.cell 1; have hbe : Below w.heap.size w w2 := hb1.trans (hb3.mono hb1.size)))) | fail "region"
    all_goals
      go_wp2_with fail
      go_ret
      exact ⟨rfl, by first | exact hbe | exact hbe.drew | exact hbf | exact hbf.drew⟩
  | true =>
    rw [ho] at hro hMB2
    rcases (show n < 0 ∨ 281474976710656 < n ∨ (0 < n ∧ n ≤ 281474976710656) ∨ n = 0 by omega) with q | q | q | q
    · obtain rfl : MB = false := by rw [← hMB2]; simp; omega
      have f0 : decide (0 ≤ n) = false := decide_eq_false (by omega)
      clear hMB2 ho q
      go_enter Tryd.func72, Tryd.ntmps72
      go_wp2_with (((with_reducible refine gate_dst (N := 1) rfl ?_); go_loud (refine wp_box rfl _ _ rfl (v := ckV s n d) rfl ?_); intro w1 hk1 hb1 hz1); rw [ck_cells] at hk1; have k0 : w1.cell? ⟨w.heap.size, 0, none⟩ = some (.string s) := hk1.cell 0; have k1 : w1.cell? ⟨w.heap.size, 1, none⟩ = some (.int .i64 n) := hk1.cell 1)
      first | (go_region_law (first | (go_simp; go_at_call 30; go_loud (refine (hro _ (by first | exact hb1 | exact hb1.drew)).mono ?_); rintro e w2 ⟨rfl, hb2⟩; have hb3 : Below w1.heap.size w1 w2 := ⟨hb2.1, hb2.2, hb2.3, hb2.4, hb2.5⟩; have hk2 := hk1.below hb3; have m1 : w2.cell? ⟨w.heap.size, 1, none⟩ = some (.int .i64 n) := hk2.cell 1; have hbe : Below w.heap.size w w2 := hb1.trans (hb3.mono hb1.size)))) | fail "region"
      all_goals
        go_wp2_with fail
        go_ret
        exact ⟨rfl, by first | exact hbe | exact hbe.drew | exact hbf | exact hbf.drew⟩
    · obtain rfl : MB = false := by rw [← hMB2]; simp; omega
      have f0 : decide (0 ≤ n) = true := decide_eq_true (by omega)
      have f1 : decide (n ≤ 281474976710656) = false := decide_eq_false (by omega)
      clear hMB2 ho q
      go_enter Tryd.func72, Tryd.ntmps72
      go_wp2_with (((with_reducible refine gate_dst (N := 1) rfl ?_); go_loud (refine wp_box rfl _ _ rfl (v := ckV s n d) rfl ?_); intro w1 hk1 hb1 hz1); rw [ck_cells] at hk1; have k0 : w1.cell? ⟨w.heap.size, 0, none⟩ = some (.string s) := hk1.cell 0; have k1 : w1.cell? ⟨w.heap.size, 1, none⟩ = some (.int .i64 n) := hk1.cell 1)
      first | (go_region_law (first | (go_simp; go_at_call 30; go_loud (refine (hro _ (by first | exact hb1 | exact hb1.drew)).mono ?_); rintro e w2 ⟨rfl, hb2⟩; have hb3 : Below w1.heap.size w1 w2 := ⟨hb2.1, hb2.2, hb2.3, hb2.4, hb2.5⟩; have hk2 := hk1.below hb3; have m1 : w2.cell? ⟨w.heap.size, 1, none⟩ = some (.int .i64 n) := hk2.cell 1; have hbe : Below w.heap.size w w2 := hb1.trans (hb3.mono hb1.size)))) | fail "region"
      all_goals
        go_wp2_with fail
        go_ret
        exact ⟨rfl, by first | exact hbe | exact hbe.drew | exact hbf | exact hbf.drew⟩
    · obtain rfl : MB = true := by rw [← hMB2]; simp; omega
      have f0 : decide (0 ≤ n) = true := decide_eq_true (by omega)
      have f1 : decide (n ≤ 281474976710656) = true := decide_eq_true (by omega)
      have f2 : decide (0 < n) = true := decide_eq_true (by omega)
      clear hMB2 ho q
      go_enter Tryd.func72, Tryd.ntmps72
      go_wp2_with (((with_reducible refine gate_dst (N := 1) rfl ?_); go_loud (refine wp_box rfl _ _ rfl (v := ckV s n d) rfl ?_); intro w1 hk1 hb1 hz1); rw [ck_cells] at hk1; have k0 : w1.cell? ⟨w.heap.size, 0, none⟩ = some (.string s) := hk1.cell 0; have k1 : w1.cell? ⟨w.heap.size, 1, none⟩ = some (.int .i64 n) := hk1.cell 1)
      first | (go_region_law (first | (go_simp; go_at_call 30; go_loud (refine (hro _ (by first | exact hb1 | exact hb1.drew)).mono ?_); rintro e w2 ⟨rfl, hb2⟩; have hb3 : Below w1.heap.size w1 w2 := ⟨hb2.1, hb2.2, hb2.3, hb2.4, hb2.5⟩; have hk2 := hk1.below hb3; have m1 : w2.cell? ⟨w.heap.size, 1, none⟩ = some (.int .i64 n) := hk2.cell 1; have hbe : Below w.heap.size w w2 := hb1.trans (hb3.mono hb1.size)))) | fail "region"
      all_goals
        go_wp2_with fail
        go_ret
        exact ⟨rfl, by first | exact hbe | exact hbe.drew | exact hbf | exact hbf.drew⟩
    · obtain rfl : (d == out) = MB := by rw [← hMB2, q]; simp
      have f0 : decide (0 ≤ n) = true := decide_eq_true (by omega)
      have f1 : decide (n ≤ 281474976710656) = true := decide_eq_true (by omega)
      have f2 : decide (0 < n) = false := decide_eq_false (by omega)
      have heq : ∀ w, (binOp .eql 28 (.agg (bcs d).toArray) (.agg (bcs out).toArray)).run Tryd.prog w = .ok (.bool (d == out)) w := fun w => run_eql_bytes (P := Tryd.prog) w 28 5 32 Tryd.underlying28 Tryd.underlying5 (fun w => Go.Proofs.YtfefcfjedlidnaaDoor.Cop.run_sizeOf size8 w) d out HD.out HSL.out
      generalize (d == out) = R at heq ⊢
      have HDL : Hid ((bcs d).length = 32) := by rw [bcs_length]; exact HD.out
      clear hMB2 ho q
      go_enter Tryd.func72, Tryd.ntmps72
      go_wp2_with (((with_reducible refine gate_dst (N := 1) rfl ?_); go_loud (refine wp_box rfl _ _ rfl (v := ckV s n d) rfl ?_); intro w1 hk1 hb1 hz1); rw [ck_cells] at hk1; have k0 : w1.cell? ⟨w.heap.size, 0, none⟩ = some (.string s) := hk1.cell 0; have k1 : w1.cell? ⟨w.heap.size, 1, none⟩ = some (.int .i64 n) := hk1.cell 1)
      first | (go_region_law (first | (go_simp; go_at_call 30; go_loud (refine (hro _ (by first | exact hb1 | exact hb1.drew)).mono ?_); rintro e w2 ⟨rfl, hb2⟩; have hb3 : Below w1.heap.size w1 w2 := ⟨hb2.1, hb2.2, hb2.3, hb2.4, hb2.5⟩; have hk2 := hk1.below hb3; have m1 : w2.cell? ⟨w.heap.size, 1, none⟩ = some (.int .i64 n) := hk2.cell 1; have hbe : Below w.heap.size w w2 := hb1.trans (hb3.mono hb1.size); have la : isAt w2 (.pointer (some ⟨w.heap.size, 2, none⟩)) 32 = true := isAt_of (ck_dig s n d hk2) HDL.out; have va : atV w2 (.pointer (some ⟨w.heap.size, 2, none⟩)) 32 = bcs d := atV_of (ck_dig s n d hk2) HDL.out) | (go_simp; go_at_call 101; go_loud (refine (HEM.out _ hbe).mono ?_); rintro e w3 ⟨rfl, hb4⟩; have hk3 := hk2.below hb4; have lb : isAt w3 (.pointer (some ⟨w.heap.size, 2, none⟩)) 32 = true := isAt_of (ck_dig s n d hk3) HDL.out; have vb : atV w3 (.pointer (some ⟨w.heap.size, 2, none⟩)) 32 = bcs d := atV_of (ck_dig s n d hk3) HDL.out; have hbf : Below w.heap.size w w3 := hbe.trans (hb4.mono hbe.size); unfold dg))) | fail "region"
      all_goals
        go_wp2_with fail
        go_ret
        exact ⟨rfl, by first | exact hbe | exact hbe.drew | exact hbf | exact hbf.drew⟩
end Go.Proofs.YtfefcfjedlidnaaDoor.Sha
