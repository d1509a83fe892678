/- checkpoint.may and the reference's May. -/
import Derived.Test.YtfefcfjedlidnaaDoorCkE
import Derived.Test.YtfefcfjedlidnaaDoorUtV
namespace Go.Proofs.YtfefcfjedlidnaaDoor.Sha
open Go Go.RowKit Go.Proofs.YtfefcfjedlidnaaDoor.Cop Go.Proofs.YtfefcfjedlidnaaDoor.Oct Go.Proofs.YtfefcfjedlidnaaDoor.Utf
set_option linter.unusedVariables false
set_option linter.unusedSimpArgs false
/-- A checkpoint's cells, and its value. -/
def ckL (s : ByteArray) (n : Int) (d : List UInt8) : List Value := .string s :: .int .i64 n :: bcs d
def ckV (s : ByteArray) (n : Int) (d : List UInt8) : Value := .agg (ckL s n d).toArray
theorem ck_cells (s : ByteArray) (n : Int) (d : List UInt8) : (ckV s n d).cells.toList = ckL s n d := by simp [ckV, Value.cells]
theorem ck_dig (s : ByteArray) (n : Int) (d : List UInt8) {w : World} {g : Nat} (h : Blk w g 51 (ckL s n d)) : ∀ j u, (bcs d)[j]? = some u → w.cell? ((⟨g, 2, none⟩ : Addr).add j) = some u := by
  intro j u hu
  have e : (⟨g, 2, none⟩ : Addr).add j = ⟨g, 2 + j, none⟩ := by unfold Addr.add; split <;> simp_all
  rw [e, h.cell, ← hu]
  unfold ckL
  rw [Nat.add_comm 2 j]
  rfl
theorem ldD (ρ : Operand → Value) (x : Operand) (dst : Option Tmp) (ty : TypeId) (pos : String) (after : Array Edge) (guard : Option (Nat × Bool)) (w : World) (h : isAt w (ρ x) 32 = true) : (execOp ρ { dst, op := .load 28 x, type := ty, pos, after, guard }).run Tryd.prog w = .ok (.value (.agg (atV w (ρ x) 32).toArray)) w := run_load_atV aggD sizeD ρ x dst ty pos after guard w h
attribute [local go_sem ↓] ldD
theorem undef_guard (b : Bool) : (Go.yielded.match_1 (fun _ => Option Bool) (some undef) (fun b => some b) (fun _ => none) = some b) = False := by cases b <;> exact eq_false (by intro h; cases h)
attribute [local go_sem] undef_guard
def mayB (s : ByteArray) (n : Int) (d : List UInt8) : Bool := origB s && decide (0 ≤ n) && decide (n ≤ 281474976710656) && (decide (0 < n) || (d == sha []))
set_option maxRecDepth 100000 in
set_option maxHeartbeats 1000000 in
theorem rmay_calls (s : ByteArray) (n : Int) (d : List UInt8) (hd : d.length = 32) (w : World) : Calls Tryd.prog 27 #[ckV s n d] w fun e w' => e = .returned (.bool (mayB s n d)) ∧ Below w.heap.size w w' := by
  have hro : ∀ w', Below w.heap.size w w' → Calls Tryd.prog 31 #[.string s] w' fun e w'' => e = .returned (.bool (origB s)) ∧ Below w'.heap.size w' w'' := fun w' hb => (rorigin_calls s w').mono (by rintro e w'' ⟨rfl, rfl⟩; exact ⟨rfl, Below.refl _ _⟩)
  have hem : ∀ w', Below w.heap.size w w' → Calls Tryd.prog 73 #[] w' fun e w'' => e = .returned (dg (sha [])) ∧ Below w'.heap.size w' w'' := fun w' hb => rempty_calls w'
  have hsl := sha_len []
  obtain ⟨MB, hMB⟩ : ∃ b, mayB s n d = b := ⟨_, rfl⟩
  have hMB2 := hMB
  unfold mayB at hMB2
  obtain ⟨out, hout⟩ : ∃ o, sha [] = o := ⟨_, rfl⟩
  rw [hout] at hsl hem hMB2
  rw [hMB]
  have HSL := Lib.hid hsl
  have HD := Lib.hid hd
  have HEM := Lib.hid hem
  clear hMB hout hsl hd hem
  cases ho : origB s with
  | false =>
    obtain rfl : MB = false := by rw [← hMB2, ho]; rfl
    rw [ho] at hro
    clear hMB2 ho
    go_enter Tryd.func27, Tryd.ntmps27
    go_wp2_with (((with_reducible refine gate_dst (N := 1) rfl ?_); go_loud (refine wp_box rfl _ _ rfl (v := ckV s n d) rfl ?_); intro w1 hk1 hb1 hz1); rw [ck_cells] at hk1; have k0 : w1.cell? ⟨w.heap.size, 0, none⟩ = some (.string s) := hk1.cell 0; have k1 : w1.cell? ⟨w.heap.size, 1, none⟩ = some (.int .i64 n) := hk1.cell 1)
    first | (go_region_law (first | (go_simp; go_at_call 31; go_loud (refine (hro _ (by first | exact hb1 | exact hb1.drew)).mono ?_); rintro e w2 ⟨rfl, hb2⟩; have hb3 : Below w1.heap.size w1 w2 := ⟨hb2.1, hb2.2, hb2.3, hb2.4, hb2.5⟩; have hk2 := hk1.below hb3; have m1 : w2.cell? ⟨w.heap.size, 1, none⟩ = some (.int .i64 n) := hk2.cell 1; have hbe : Below w.heap.size w w2 := hb1.trans (hb3.mono hb1.size)))) | fail "region"
    all_goals
      go_wp2_with fail
      go_ret
      exact ⟨rfl, by first | exact hbe | exact hbe.drew | exact hbf | exact hbf.drew⟩
  | true =>
    rw [ho] at hro hMB2
    rcases (show n < 0 ∨ 281474976710656 < n ∨ (0 < n ∧ n ≤ 281474976710656) ∨ n = 0 by omega) with q | q | q | q
    · obtain rfl : MB = false := by rw [← hMB2]; simp; omega
      have f0 : decide (0 ≤ n) = false := decide_eq_false (by omega)
      clear hMB2 ho q
      go_enter Tryd.func27, Tryd.ntmps27
      go_wp2_with (((with_reducible refine gate_dst (N := 1) rfl ?_); go_loud (refine wp_box rfl _ _ rfl (v := ckV s n d) rfl ?_); intro w1 hk1 hb1 hz1); rw [ck_cells] at hk1; have k0 : w1.cell? ⟨w.heap.size, 0, none⟩ = some (.string s) := hk1.cell 0; have k1 : w1.cell? ⟨w.heap.size, 1, none⟩ = some (.int .i64 n) := hk1.cell 1)
      first | (go_region_law (first | (go_simp; go_at_call 31; go_loud (refine (hro _ (by first | exact hb1 | exact hb1.drew)).mono ?_); rintro e w2 ⟨rfl, hb2⟩; have hb3 : Below w1.heap.size w1 w2 := ⟨hb2.1, hb2.2, hb2.3, hb2.4, hb2.5⟩; have hk2 := hk1.below hb3; have m1 : w2.cell? ⟨w.heap.size, 1, none⟩ = some (.int .i64 n) := hk2.cell 1; have hbe : Below w.heap.size w w2 := hb1.trans (hb3.mono hb1.size)))) | fail "region"
      all_goals
        go_wp2_with fail
        go_ret
        exact ⟨rfl, by first | exact hbe | exact hbe.drew | exact hbf | exact hbf.drew⟩
    · obtain rfl : MB = false := by rw [← hMB2]; simp; omega
      have f0 : decide (0 ≤ n) = true := decide_eq_true (by omega)
      have f1 : decide (n ≤ 281474976710656) = false := decide_eq_false (by omega)
      clear hMB2 ho q
      go_enter Tryd.func27, Tryd.ntmps27
      go_wp2_with (((with_reducible refine gate_dst (N := 1) rfl ?_); go_loud (refine wp_box rfl _ _ rfl (v := ckV s n d) rfl ?_); intro w1 hk1 hb1 hz1); rw [ck_cells] at hk1; have k0 : w1.cell? ⟨w.heap.size, 0, none⟩ = some (.string s) := hk1.cell 0; have k1 : w1.cell? ⟨w.heap.size, 1, none⟩ = some (.int .i64 n) := hk1.cell 1)
      first | (go_region_law (first | (go_simp; go_at_call 31; go_loud (refine (hro _ (by first | exact hb1 | exact hb1.drew)).mono ?_); rintro e w2 ⟨rfl, hb2⟩; have hb3 : Below w1.heap.size w1 w2 := ⟨hb2.1, hb2.2, hb2.3, hb2.4, hb2.5⟩; have hk2 := hk1.below hb3; have m1 : w2.cell? ⟨w.heap.size, 1, none⟩ = some (.int .i64 n) := hk2.cell 1; have hbe : Below w.heap.size w w2 := hb1.trans (hb3.mono hb1.size)))) | fail "region"
      all_goals
        go_wp2_with fail
        go_ret
        exact ⟨rfl, by first | exact hbe | exact hbe.drew | exact hbf | exact hbf.drew⟩
    · obtain rfl : MB = true := by rw [← hMB2]; simp; omega
      have f0 : decide (0 ≤ n) = true := decide_eq_true (by omega)
      have f1 : decide (n ≤ 281474976710656) = true := decide_eq_true (by omega)
      have f2 : decide (0 < n) = true := decide_eq_true (by omega)
      clear hMB2 ho q
      go_enter Tryd.func27, Tryd.ntmps27
      go_wp2_with (((with_reducible refine gate_dst (N := 1) rfl ?_); go_loud (refine wp_box rfl _ _ rfl (v := ckV s n d) rfl ?_); intro w1 hk1 hb1 hz1); rw [ck_cells] at hk1; have k0 : w1.cell? ⟨w.heap.size, 0, none⟩ = some (.string s) := hk1.cell 0; have k1 : w1.cell? ⟨w.heap.size, 1, none⟩ = some (.int .i64 n) := hk1.cell 1)
      first | (go_region_law (first | (go_simp; go_at_call 31; go_loud (refine (hro _ (by first | exact hb1 | exact hb1.drew)).mono ?_); rintro e w2 ⟨rfl, hb2⟩; have hb3 : Below w1.heap.size w1 w2 := ⟨hb2.1, hb2.2, hb2.3, hb2.4, hb2.5⟩; have hk2 := hk1.below hb3; have m1 : w2.cell? ⟨w.heap.size, 1, none⟩ = some (.int .i64 n) := hk2.cell 1; have hbe : Below w.heap.size w w2 := hb1.trans (hb3.mono hb1.size)))) | fail "region"
      all_goals
        go_wp2_with fail
        go_ret
        exact ⟨rfl, by first | exact hbe | exact hbe.drew | exact hbf | exact hbf.drew⟩
    · obtain rfl : (d == out) = MB := by rw [← hMB2, q]; simp
      have f0 : decide (0 ≤ n) = true := decide_eq_true (by omega)
      have f1 : decide (n ≤ 281474976710656) = true := decide_eq_true (by omega)
      have f2 : decide (0 < n) = false := decide_eq_false (by omega)
      have heq : ∀ w, (binOp .eql 28 (.agg (bcs d).toArray) (.agg (bcs out).toArray)).run Tryd.prog w = .ok (.bool (d == out)) w := fun w => run_eql_bytes (P := Tryd.prog) w 28 5 32 Tryd.underlying28 Tryd.underlying5 (fun w => Go.Proofs.YtfefcfjedlidnaaDoor.Cop.run_sizeOf size8 w) d out HD.out HSL.out
      generalize (d == out) = R at heq ⊢
      have HDL : Hid ((bcs d).length = 32) := by rw [bcs_length]; exact HD.out
      clear hMB2 ho q
      go_enter Tryd.func27, Tryd.ntmps27
      go_wp2_with (((with_reducible refine gate_dst (N := 1) rfl ?_); go_loud (refine wp_box rfl _ _ rfl (v := ckV s n d) rfl ?_); intro w1 hk1 hb1 hz1); rw [ck_cells] at hk1; have k0 : w1.cell? ⟨w.heap.size, 0, none⟩ = some (.string s) := hk1.cell 0; have k1 : w1.cell? ⟨w.heap.size, 1, none⟩ = some (.int .i64 n) := hk1.cell 1)
      first | (go_region_law (first | (go_simp; go_at_call 31; go_loud (refine (hro _ (by first | exact hb1 | exact hb1.drew)).mono ?_); rintro e w2 ⟨rfl, hb2⟩; have hb3 : Below w1.heap.size w1 w2 := ⟨hb2.1, hb2.2, hb2.3, hb2.4, hb2.5⟩; have hk2 := hk1.below hb3; have m1 : w2.cell? ⟨w.heap.size, 1, none⟩ = some (.int .i64 n) := hk2.cell 1; have hbe : Below w.heap.size w w2 := hb1.trans (hb3.mono hb1.size); have la : isAt w2 (.pointer (some ⟨w.heap.size, 2, none⟩)) 32 = true := isAt_of (ck_dig s n d hk2) HDL.out; have va : atV w2 (.pointer (some ⟨w.heap.size, 2, none⟩)) 32 = bcs d := atV_of (ck_dig s n d hk2) HDL.out) | (go_simp; go_at_call 73; go_loud (refine (HEM.out _ hbe).mono ?_); rintro e w3 ⟨rfl, hb4⟩; have hk3 := hk2.below hb4; have lb : isAt w3 (.pointer (some ⟨w.heap.size, 2, none⟩)) 32 = true := isAt_of (ck_dig s n d hk3) HDL.out; have vb : atV w3 (.pointer (some ⟨w.heap.size, 2, none⟩)) 32 = bcs d := atV_of (ck_dig s n d hk3) HDL.out; have hbf : Below w.heap.size w w3 := hbe.trans (hb4.mono hbe.size); unfold dg))) | fail "region"
      all_goals
        go_wp2_with fail
        go_ret
        exact ⟨rfl, by first | exact hbe | exact hbe.drew | exact hbf | exact hbf.drew⟩
end Go.Proofs.YtfefcfjedlidnaaDoor.Sha
