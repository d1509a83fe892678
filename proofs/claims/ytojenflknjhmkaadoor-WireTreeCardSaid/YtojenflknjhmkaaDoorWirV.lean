/- wire.count, Valid and the reference's. -/
import Derived.Test.YtojenflknjhmkaaDoorVerW
namespace Go.Proofs.YtojenflknjhmkaaDoor.Wir
open Go Go.RowKit Go.Proofs.YtojenflknjhmkaaDoor.Cop Go.Proofs.YtojenflknjhmkaaDoor.Ver
set_option linter.unusedVariables false
set_option linter.unusedSimpArgs false
/-- A proof's cells. -/
def prL (k f s : Int) (v : Value) : List Value := [.int .i64 k, .int .i64 f, .int .i64 s, v]
def prV (k f s : Int) (v : Value) : Value := .agg (prL k f s v).toArray
theorem pr_cells (k f s : Int) (v : Value) : (prV k f s v).cells.toList = prL k f s v := by simp [prV, Value.cells]
theorem aggPr (w : World) : (isAgg 35).run Tryd.prog w = .ok true w := by kernel_rfl
theorem sizePr : (Tryd.prog.info? 35).map (fun i => i.size) = some 4 := by kernel_rfl
/-- How many digests a proof has, if there is such a proof. -/
def cntN (k f s : Int) : Option Nat := if k = 1 then (if rightB f s then some (lenN f s) else none) else if k = 2 then (if ordB f s then some (stN f s) else none) else none
def cntV (k f s : Int) : Value := match cntN k f s with | some n => .tuple #[.int .i64 (n : Int), .bool true] | none => .tuple #[.int .i64 0, .bool false]
set_option maxRecDepth 100000 in
theorem count_calls (k f s : Int) (v : Value) (w : World) : Calls Tryd.prog 68 #[prV k f s v] w fun e w' => e = .returned (cntV k f s) ∧ Below w.heap.size w w' := by
  have h1 := fun w => length_calls f s w
  have h2 := fun w => vsteps_calls f s w
  rcases (show k = 1 ∨ k = 2 ∨ (k ≠ 1 ∧ k ≠ 2) by omega) with rfl | rfl | ⟨hk1, hk2⟩
  · have e : cntV 1 f s = if rightB f s then .tuple #[.int .i64 (lenN f s : Int), .bool true] else .tuple #[.int .i64 0, .bool false] := by
      simp only [cntV, cntN, if_true]
      cases rightB f s <;> rfl
    rw [e]
    generalize rightB f s = R at h1
    generalize lenN f s = N at h1
    have H1 := Lib.hid h1
    clear h1 h2 e
    cases R with
    | true =>
      go_enter Tryd.func68, Tryd.ntmps68
      go_wp2_with (first | (((with_reducible refine gate_dst (N := 1) rfl ?_); go_loud (refine wp_box rfl _ _ rfl (v := prV 1 f s v) rfl ?_); intro w1 hk1 hb1 hz1); rw [pr_cells] at hk1; have c0 : w1.cell? ⟨w.heap.size, 0, none⟩ = some (.int .i64 1) := hk1.cell 0; have c1 : w1.cell? ⟨w.heap.size, 1, none⟩ = some (.int .i64 f) := hk1.cell 1; have c2 : w1.cell? ⟨w.heap.size, 2, none⟩ = some (.int .i64 s) := hk1.cell 2) | (go_at_call 120; go_loud (refine (H1.out _).mono ?_); rintro e w2 ⟨rfl, hb2⟩))
      go_ret2
      exact ⟨rfl, hb1.trans (hb2.mono hb1.size)⟩
    | false =>
      go_enter Tryd.func68, Tryd.ntmps68
      go_wp2_with (first | (((with_reducible refine gate_dst (N := 1) rfl ?_); go_loud (refine wp_box rfl _ _ rfl (v := prV 1 f s v) rfl ?_); intro w1 hk1 hb1 hz1); rw [pr_cells] at hk1; have c0 : w1.cell? ⟨w.heap.size, 0, none⟩ = some (.int .i64 1) := hk1.cell 0; have c1 : w1.cell? ⟨w.heap.size, 1, none⟩ = some (.int .i64 f) := hk1.cell 1; have c2 : w1.cell? ⟨w.heap.size, 2, none⟩ = some (.int .i64 s) := hk1.cell 2) | (go_at_call 120; go_loud (refine (H1.out _).mono ?_); rintro e w2 ⟨rfl, hb2⟩))
      go_ret2
      exact ⟨rfl, hb1.trans (hb2.mono hb1.size)⟩
  · have e : cntV 2 f s = if ordB f s then .tuple #[.int .i64 (stN f s : Int), .bool true] else .tuple #[.int .i64 0, .bool false] := by
      simp only [cntV, cntN, if_true, show ¬ (2 : Int) = 1 by decide, if_false]
      cases ordB f s <;> rfl
    rw [e]
    generalize ordB f s = R at h2
    generalize stN f s = N at h2
    have H2 := Lib.hid h2
    clear h1 h2 e
    cases R with
    | true =>
      go_enter Tryd.func68, Tryd.ntmps68
      go_wp2_with (first | (((with_reducible refine gate_dst (N := 1) rfl ?_); go_loud (refine wp_box rfl _ _ rfl (v := prV 2 f s v) rfl ?_); intro w1 hk1 hb1 hz1); rw [pr_cells] at hk1; have c0 : w1.cell? ⟨w.heap.size, 0, none⟩ = some (.int .i64 2) := hk1.cell 0; have c1 : w1.cell? ⟨w.heap.size, 1, none⟩ = some (.int .i64 f) := hk1.cell 1; have c2 : w1.cell? ⟨w.heap.size, 2, none⟩ = some (.int .i64 s) := hk1.cell 2) | (go_at_call 121; go_loud (refine (H2.out _).mono ?_); rintro e w2 ⟨rfl, hb2⟩))
      go_ret2
      exact ⟨rfl, hb1.trans (hb2.mono hb1.size)⟩
    | false =>
      go_enter Tryd.func68, Tryd.ntmps68
      go_wp2_with (first | (((with_reducible refine gate_dst (N := 1) rfl ?_); go_loud (refine wp_box rfl _ _ rfl (v := prV 2 f s v) rfl ?_); intro w1 hk1 hb1 hz1); rw [pr_cells] at hk1; have c0 : w1.cell? ⟨w.heap.size, 0, none⟩ = some (.int .i64 2) := hk1.cell 0; have c1 : w1.cell? ⟨w.heap.size, 1, none⟩ = some (.int .i64 f) := hk1.cell 1; have c2 : w1.cell? ⟨w.heap.size, 2, none⟩ = some (.int .i64 s) := hk1.cell 2) | (go_at_call 121; go_loud (refine (H2.out _).mono ?_); rintro e w2 ⟨rfl, hb2⟩))
      go_ret2
      exact ⟨rfl, hb1.trans (hb2.mono hb1.size)⟩
  · rw [show cntV k f s = .tuple #[.int .i64 0, .bool false] by simp only [cntV, cntN, if_neg hk1, if_neg hk2]]
    have e1 : ((k : Int) == 1) = false := by simp; omega
    have e2 : ((k : Int) == 2) = false := by simp; omega
    clear h1 h2 hk1 hk2
    go_enter Tryd.func68, Tryd.ntmps68
    go_wp2_with (((with_reducible refine gate_dst (N := 1) rfl ?_); go_loud (refine wp_box rfl _ _ rfl (v := prV k f s v) rfl ?_); intro w1 hk1 hb1 hz1); rw [pr_cells] at hk1; have c0 : w1.cell? ⟨w.heap.size, 0, none⟩ = some (.int .i64 k) := hk1.cell 0)
    go_ret2
    exact ⟨rfl, hb1⟩
set_option maxRecDepth 100000 in
theorem rcount_calls (k f s : Int) (v : Value) (w : World) : Calls Tryd.prog 72 #[prV k f s v] w fun e w' => e = .returned (cntV k f s) ∧ Below w.heap.size w w' := by
  have h1 := fun w => rlength_calls f s w
  have h2 := fun w => rsteps_calls f s w
  rcases (show k = 1 ∨ k = 2 ∨ (k ≠ 1 ∧ k ≠ 2) by omega) with rfl | rfl | ⟨hk1, hk2⟩
  · have e : cntV 1 f s = if rightB f s then .tuple #[.int .i64 (lenN f s : Int), .bool true] else .tuple #[.int .i64 0, .bool false] := by
      simp only [cntV, cntN, if_true]
      cases rightB f s <;> rfl
    rw [e]
    generalize rightB f s = R at h1
    generalize lenN f s = N at h1
    have H1 := Lib.hid h1
    clear h1 h2 e
    cases R <;>
    · go_enter Tryd.func72, Tryd.ntmps72
      go_wp2_with (first | (((with_reducible refine gate_dst (N := 1) rfl ?_); go_loud (refine wp_box rfl _ _ rfl (v := prV 1 f s v) rfl ?_); intro w1 hk1 hb1 hz1); rw [pr_cells] at hk1; have c0 : w1.cell? ⟨w.heap.size, 0, none⟩ = some (.int .i64 1) := hk1.cell 0; have c1 : w1.cell? ⟨w.heap.size, 1, none⟩ = some (.int .i64 f) := hk1.cell 1; have c2 : w1.cell? ⟨w.heap.size, 2, none⟩ = some (.int .i64 s) := hk1.cell 2) | (go_at_call 125; go_loud (refine (H1.out _).mono ?_); rintro e w' ⟨rfl, rfl⟩))
      go_ret2
      exact ⟨rfl, hb1⟩
  · have e : cntV 2 f s = if ordB f s then .tuple #[.int .i64 (stN f s : Int), .bool true] else .tuple #[.int .i64 0, .bool false] := by
      simp only [cntV, cntN, if_true, show ¬ (2 : Int) = 1 by decide, if_false]
      cases ordB f s <;> rfl
    rw [e]
    generalize ordB f s = R at h2
    generalize stN f s = N at h2
    have H2 := Lib.hid h2
    clear h1 h2 e
    cases R <;>
    · go_enter Tryd.func72, Tryd.ntmps72
      go_wp2_with (first | (((with_reducible refine gate_dst (N := 1) rfl ?_); go_loud (refine wp_box rfl _ _ rfl (v := prV 2 f s v) rfl ?_); intro w1 hk1 hb1 hz1); rw [pr_cells] at hk1; have c0 : w1.cell? ⟨w.heap.size, 0, none⟩ = some (.int .i64 2) := hk1.cell 0; have c1 : w1.cell? ⟨w.heap.size, 1, none⟩ = some (.int .i64 f) := hk1.cell 1; have c2 : w1.cell? ⟨w.heap.size, 2, none⟩ = some (.int .i64 s) := hk1.cell 2) | (go_at_call 126; go_loud (refine (H2.out _).mono ?_); rintro e w' ⟨rfl, rfl⟩))
      go_ret2
      exact ⟨rfl, hb1⟩
  · rw [show cntV k f s = .tuple #[.int .i64 0, .bool false] by simp only [cntV, cntN, if_neg hk1, if_neg hk2]]
    have e1 : ((k : Int) == 1) = false := by simp; omega
    have e2 : ((k : Int) == 2) = false := by simp; omega
    clear h1 h2 hk1 hk2
    go_enter Tryd.func72, Tryd.ntmps72
    go_wp2_with (((with_reducible refine gate_dst (N := 1) rfl ?_); go_loud (refine wp_box rfl _ _ rfl (v := prV k f s v) rfl ?_); intro w1 hk1 hb1 hz1); rw [pr_cells] at hk1; have c0 : w1.cell? ⟨w.heap.size, 0, none⟩ = some (.int .i64 k) := hk1.cell 0)
    go_ret2
    exact ⟨rfl, hb1⟩
/-- May a proof be? -/
def valB (k f s : Int) (n : Nat) : Bool := match cntN k f s with | some m => m == n | none => false
set_option maxRecDepth 100000 in
theorem valid_calls (k f s : Int) (a : Option Addr) (n c : Nat) (hn : n ≤ 9223372036854775807) (w : World) : Calls Tryd.prog 28 #[prV k f s (.slice a n c)] w fun e w' => e = .returned (.bool (valB k f s n)) ∧ Below w.heap.size w w' := by
  have hc := fun w => count_calls k f s (.slice a n c) w
  unfold valB
  unfold cntV at hc
  cases hcn : cntN k f s with
  | none =>
    rw [hcn] at hc
    have HC := Lib.hid hc
    clear hc hcn
    go_enter Tryd.func28, Tryd.ntmps28
    go_wp2_with (first | (((with_reducible refine gate_dst (N := 1) rfl ?_); go_loud (refine wp_box rfl _ _ rfl (v := prV k f s (.slice a n c)) rfl ?_); intro w1 hk1 hb1 hz1); rw [pr_cells] at hk1) | (((with_reducible refine gate_dst (N := 6) rfl ?_); go_loud (refine wp_load_blk rfl 35 _ rfl aggPr sizePr rfl hk1 (rfl) ?_))) | (go_at_call 68; go_loud (refine (HC.out _).mono ?_); rintro e w2 ⟨rfl, hb2⟩))
    go_ret
    exact ⟨rfl, hb1.trans (hb2.mono hb1.size)⟩
  | some m =>
    rw [hcn] at hc
    have HC := Lib.hid hc
    clear hc hcn
    obtain ⟨r, hr⟩ : ∃ r, (m == n) = r := ⟨_, rfl⟩
    have hr2 : ((m : Int) == (n : Int)) = r := by
      rw [← hr, Bool.eq_iff_iff]; simp only [beq_iff_eq]; omega
    show Calls _ _ _ _ fun e w' => e = .returned (.bool (m == n)) ∧ _
    rw [hr]
    clear hr
    go_enter Tryd.func28, Tryd.ntmps28
    go_wp2_with (first | (((with_reducible refine gate_dst (N := 1) rfl ?_); go_loud (refine wp_box rfl _ _ rfl (v := prV k f s (.slice a n c)) rfl ?_); intro w1 hk1 hb1 hz1); rw [pr_cells] at hk1) | (((with_reducible refine gate_dst (N := 6) rfl ?_); go_loud (refine wp_load_blk rfl 35 _ rfl aggPr sizePr rfl hk1 (rfl) ?_))) | (go_at_call 68; go_loud (refine (HC.out _).mono ?_); rintro e w2 ⟨rfl, hb2⟩; have c3 : w2.cell? ⟨w.heap.size, 3, none⟩ = some (.slice a n c) := (hk1.below hb2).cell 3))
    go_ret
    exact ⟨rfl, hb1.trans (hb2.mono hb1.size)⟩
set_option maxRecDepth 100000 in
theorem rvalid_calls (k f s : Int) (a : Option Addr) (n c : Nat) (hn : n ≤ 9223372036854775807) (w : World) : Calls Tryd.prog 109 #[prV k f s (.slice a n c)] w fun e w' => e = .returned (.bool (valB k f s n)) ∧ Below w.heap.size w w' := by
  have hc := fun w => rcount_calls k f s (.slice a n c) w
  unfold valB
  unfold cntV at hc
  cases hcn : cntN k f s with
  | none =>
    rw [hcn] at hc
    have HC := Lib.hid hc
    clear hc hcn
    go_enter Tryd.func109, Tryd.ntmps109
    go_wp2_with (first | (((with_reducible refine gate_dst (N := 1) rfl ?_); go_loud (refine wp_box rfl _ _ rfl (v := prV k f s (.slice a n c)) rfl ?_); intro w1 hk1 hb1 hz1); rw [pr_cells] at hk1) | (((with_reducible refine gate_dst (N := 6) rfl ?_); go_loud (refine wp_load_blk rfl 35 _ rfl aggPr sizePr rfl hk1 (rfl) ?_))) | (go_at_call 72; go_loud (refine (HC.out _).mono ?_); rintro e w2 ⟨rfl, hb2⟩))
    go_ret
    exact ⟨rfl, hb1.trans (hb2.mono hb1.size)⟩
  | some m =>
    rw [hcn] at hc
    have HC := Lib.hid hc
    clear hc hcn
    obtain ⟨r, hr⟩ : ∃ r, (m == n) = r := ⟨_, rfl⟩
    have hr2 : ((n : Int) == (m : Int)) = r := by
      rw [← hr, Bool.eq_iff_iff]; simp only [beq_iff_eq]; omega
    show Calls _ _ _ _ fun e w' => e = .returned (.bool (m == n)) ∧ _
    rw [hr]
    clear hr
    go_enter Tryd.func109, Tryd.ntmps109
    go_wp2_with (first | (((with_reducible refine gate_dst (N := 1) rfl ?_); go_loud (refine wp_box rfl _ _ rfl (v := prV k f s (.slice a n c)) rfl ?_); intro w1 hk1 hb1 hz1); rw [pr_cells] at hk1) | (((with_reducible refine gate_dst (N := 6) rfl ?_); go_loud (refine wp_load_blk rfl 35 _ rfl aggPr sizePr rfl hk1 (rfl) ?_))) | (go_at_call 72; go_loud (refine (HC.out _).mono ?_); rintro e w2 ⟨rfl, hb2⟩; have c3 : w2.cell? ⟨w.heap.size, 3, none⟩ = some (.slice a n c) := (hk1.below hb2).cell 3))
    go_ret
    exact ⟨rfl, hb1.trans (hb2.mono hb1.size)⟩
end Go.Proofs.YtojenflknjhmkaaDoor.Wir
