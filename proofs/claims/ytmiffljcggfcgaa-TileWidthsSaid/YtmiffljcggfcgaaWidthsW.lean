/- The law TileWidths: its walk. -/
import Derived.Test.YtmiffljcggfcgaaTileV
import Derived.Test.YtmiffljcggfcgaaTileU
namespace Go.Proofs.Ytmiffljcggfcgaa.Til
open Go Go.RowKit Go.Proofs.Ytmiffljcggfcgaa.Cop
set_option linter.unusedVariables false
set_option linter.unusedSimpArgs false

theorem names_calls (w : World) : Calls Try.prog 16 #[] w fun e w' => e = .returned (.bool true) ∧ w = w' := by
  go_enter Try.func16, Try.ntmps16
  go_wp2_with fail
  go_ret
  exact ⟨rfl, rfl⟩

set_option maxRecDepth 100000 in
theorem widths_law (h l i u n : Int) (w : World) (hh : -9223372036854775808 ≤ h ∧ h ≤ 9223372036854775807) (hl : -9223372036854775808 ≤ l ∧ l ≤ 9223372036854775807) (hi : -9223372036854775808 ≤ i ∧ i ≤ 9223372036854775807) (hn : -9223372036854775808 ≤ n ∧ n ≤ 9223372036854775807) :
    Calls Try.prog 5 #[.agg #[.int .i64 h, .int .i64 l, .int .i64 i, .int .i64 u], .int .i64 n] w fun e w' => e = .returned (.bool true) ∧ Below w.heap.size w w' := by
  have cw := fun w => width_calls h l i n w hl hi hn
  have rw_ := fun w => rwidth_calls h l i n w hl hi hn
  have cl := fun w => levels_calls h n w hn
  have rl := fun w => rlevels_calls h n w hn
  generalize wid h l i n = x at *
  generalize wdErr h l i n = y at *
  generalize lvo h n = z at *
  generalize wr h n = q at *
  go_enter Try.func5, Try.ntmps5
  go_wp2_with (((with_reducible refine gate_dst (N := 2) rfl ?_); go_loud (refine wp_box rfl _ _ rfl (v := .agg #[.int .i64 h, .int .i64 l, .int .i64 i, .int .i64 u]) rfl ?_); intro w1 hk1 hb1 hz1); have f0 : w1.cell? ⟨w.heap.size, 0, none⟩ = some (.int .i64 h) := hk1.cell 0; have f1 : w1.cell? ⟨w.heap.size, 1, none⟩ = some (.int .i64 l) := hk1.cell 1; have f2 : w1.cell? ⟨w.heap.size, 2, none⟩ = some (.int .i64 i) := hk1.cell 2)
  refine (cw w1).mono ?_
  rintro e w2 ⟨rfl, b2⟩
  have hk2 := hk1.below b2
  have g0 : w2.cell? ⟨w.heap.size, 0, none⟩ = some (.int .i64 h) := hk2.cell 0; have g1 : w2.cell? ⟨w.heap.size, 1, none⟩ = some (.int .i64 l) := hk2.cell 1; have g2 : w2.cell? ⟨w.heap.size, 2, none⟩ = some (.int .i64 i) := hk2.cell 2
  go_wp2_with fail
  refine (rw_ w2).mono ?_
  rintro e w3 ⟨rfl, b3⟩
  have hk3 := hk2.below b3
  have p0 : w3.cell? ⟨w.heap.size, 0, none⟩ = some (.int .i64 h) := hk3.cell 0
  go_wp2_with fail
  refine (cl w3).mono ?_
  rintro e w4 ⟨rfl, b4⟩
  have hk4 := hk3.below b4
  have r0 : w4.cell? ⟨w.heap.size, 0, none⟩ = some (.int .i64 h) := hk4.cell 0
  go_wp2_with fail
  refine (rl w4).mono ?_
  rintro e w5 ⟨rfl, b5⟩
  have hB : Below w.heap.size w w5 := (((hb1.trans (b2.mono (by omega))).trans (b3.mono (by have := b2.size; omega))).trans (b4.mono (by have := b2.size; have := b3.size; omega))).trans (b5.mono (by have := b2.size; have := b3.size; have := b4.size; omega))
  go_wp2_with fail
  refine (names_calls w5).mono ?_
  rintro e w' ⟨rfl, rfl⟩
  go_wp2_with fail
  go_ret
  exact ⟨rfl, hB⟩
end Go.Proofs.Ytmiffljcggfcgaa.Til
