/- A disk that no call made: nil, or the zero value: what is asked of it. -/
import Derived.Test.YtjgbmkmkhngddaaGreatDoorByt
namespace Go.Proofs.YtjgbmkmkhngddaaGreatDoor.Nob
open Go Go.RowKit Go.Proofs.YtjgbmkmkhngddaaGreatDoor.Cop Go.Proofs.YtjgbmkmkhngddaaGreatDoor.Oct
set_option linter.unusedVariables false
set_option linter.unusedSimpArgs false

theorem run_eql_nomap (w : World) : (binOp .eql 47 (.map none) (.map none)).run Tryz.prog w = .ok (.bool true) w := by
  have h : ∀ d : Nat, (Op.equalIn (d + 1) 47 (.map none) (.map none)).run Tryz.prog w = .ok true w := fun d => by
    simp [Op.equalIn, run_underlying Tryz.underlying47]
  simp only [binOp]
  simp [Op.equal, Op.maxDepth, h 9999]
attribute [local go_sem] run_eql_nomap
/-- No call made it. -/
def NoDisk (w : World) (v : Value) : Prop := v = .pointer none ∨ ∃ b, v = .pointer (some ⟨b, 0, none⟩) ∧ w.cell? ⟨b, 1, none⟩ = some (.map none)
theorem NoDisk.below {w w' : World} {v : Value} (h : NoDisk w v) (hb : Below w.heap.size w w') : NoDisk w' v := by
  rcases h with h | ⟨b, h1, h2⟩
  · exact .inl h
  · refine .inr ⟨b, h1, ?_⟩
    have hlt : b < w.heap.size := by
      rcases Nat.lt_or_ge b w.heap.size with h' | h'
      · exact h'
      · simp [World.cell?, Array.getElem?_eq_none h'] at h2
    exact (hb.cell (p := ⟨b, 1, none⟩) hlt).trans h2
set_option maxRecDepth 100000 in
theorem none_calls (v : Value) (w : World) (h : NoDisk w v) : Calls Tryz.prog 49 #[v] w fun e w' => e = .returned (.bool true) ∧ w = w' := by
  rcases h with rfl | ⟨b, rfl, hc⟩
  · go_enter Tryz.func49, Tryz.ntmps49
    go_wp2_with fail
    go_ret
    exact ⟨rfl, rfl⟩
  · go_enter Tryz.func49, Tryz.ntmps49
    go_wp2_with fail
    go_ret
    exact ⟨rfl, rfl⟩
set_option maxRecDepth 100000 in
theorem sector_calls (v : Value) (w : World) (h : NoDisk w v) : Calls Tryz.prog 20 #[v] w fun e w' => e = .returned (.int .i64 0) ∧ w = w' := by
  have hn := none_calls v w h
  go_enter Tryz.func20, Tryz.ntmps20
  go_wp2_with fail
  refine hn.mono ?_
  rintro e w' ⟨rfl, rfl⟩
  go_wp2_with fail
  go_ret
  exact ⟨rfl, rfl⟩
end Go.Proofs.YtjgbmkmkhngddaaGreatDoor.Nob
