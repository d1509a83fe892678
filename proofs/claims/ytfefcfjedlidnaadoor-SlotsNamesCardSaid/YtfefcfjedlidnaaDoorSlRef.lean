/- The law SlotsNames: the reference's empty disk. -/
import Derived.Test.YtfefcfjedlidnaaDoorSlRead
namespace Go.Proofs.YtfefcfjedlidnaaDoor.Slo
open Go Go.RowKit Go.Proofs.YtfefcfjedlidnaaDoor.Cop Go.Proofs.YtfefcfjedlidnaaDoor.Oct
set_option linter.unusedVariables false
set_option linter.unusedSimpArgs false

/-- An empty disk of the reference's. -/
def RDisk (w : World) (v : Value) : Prop := ∃ b, v = .pointer (some ⟨b, 0, none⟩) ∧ w.cell? ⟨b, 1, none⟩ = some (.slice none 0 0)
theorem RDisk.below {w w' : World} {v : Value} (h : RDisk w v) (hb : Below w.heap.size w w') : RDisk w' v := by
  obtain ⟨b, h0, h1⟩ := h
  exact ⟨b, h0, cell_below hb _ _ h1⟩
theorem RDisk.drew {w : World} {v : Value} (h : RDisk w v) : RDisk w.drew v := h
set_option maxRecDepth 100000 in
theorem find_calls (v : Value) (s : ByteArray) (w : World) (h : RDisk w v) : Calls Tryd.prog 148 #[v, .string s] w fun e w' => e = .returned (.tuple #[.int .i64 0, .bool false]) ∧ Below w.heap.size w w' := by
  obtain ⟨b, rfl, h1⟩ := h
  go_enter Tryd.func148, Tryd.ntmps148
  go_wp2_with fail
  go_loop [6] (fun i => i = .int .i64 0) (fun _ => 0)
  case atStart => rfl
  case round =>
    subst hrel
    go_wp2_with fail
    go_region
    go_wp2_with fail
    go_ret2
    exact ⟨rfl, (Below.refl _ _).drew⟩
set_option maxRecDepth 100000 in
theorem all_calls (v : Value) (s : ByteArray) (w : World) (h : RDisk w v) : Calls Tryd.prog 115 #[v, .string s] w fun e w' => e = .returned (.tuple #[.string { data := #[] }, .bool false]) ∧ Below w.heap.size w w' := by
  have hf := find_calls v s w h
  obtain ⟨b, rfl, h1⟩ := h
  go_enter Tryd.func115, Tryd.ntmps115
  go_wp2_with fail
  refine hf.mono ?_
  rintro e w1 ⟨rfl, hb1⟩
  go_wp2_with fail
  go_ret2
  exact ⟨rfl, hb1⟩
set_option maxRecDepth 100000 in
theorem rslot_calls (v : Value) (s : ByteArray) (k : Int) (w : World) (h : RDisk w v) :
    Calls Tryd.prog 71 #[v, .string s, .int .i64 k] w fun e w' => e = .returned (.tuple #[.slice none 0 0, .int .i64 0, .int .i64 (slotE s k)]) ∧ Below w.heap.size w w' := by
  have hm := rmay_calls s w
  have hle := okn_le s
  have ha := fun f => all_calls v f w h
  have hfl := rfile_calls s k w
  obtain ⟨b, rfl, h1⟩ := h
  unfold slotE
  generalize fileOf s k = f at hfl
  cases ho : okn 100 s <;> rw [ho] at hm <;> rw [ho] at hle <;> clear ho
  · clear hle
    go_enter Tryd.func71, Tryd.ntmps71
    go_wp2_with fail
    refine hm.mono ?_
    rintro e w' ⟨rfl, rfl⟩
    go_wp2_with fail
    go_ret3
    exact ⟨rfl, Below.refl _ _⟩
  · by_cases hk : k = 0 ∨ k = 1
    · have e0 : (if k = 0 ∨ k = 1 then (121 : Int) else 2) = 121 := if_pos hk
      rw [if_pos rfl, e0]
      clear e0
      have hfl' := hfl (hle rfl)
      clear hfl hle
      rcases hk with rfl | rfl
      · go_enter Tryd.func71, Tryd.ntmps71
        go_wp2_with fail
        refine hm.mono ?_
        rintro e w' ⟨rfl, rfl⟩
        go_wp2_with fail
        refine hfl'.mono ?_
        rintro e w' ⟨rfl, rfl⟩
        go_wp2_with fail
        refine (ha f).mono ?_
        rintro e w1 ⟨rfl, hb1⟩
        go_wp2_with fail
        go_ret3
        exact ⟨rfl, hb1⟩
      · go_enter Tryd.func71, Tryd.ntmps71
        go_wp2_with fail
        refine hm.mono ?_
        rintro e w' ⟨rfl, rfl⟩
        go_wp2_with fail
        refine hfl'.mono ?_
        rintro e w' ⟨rfl, rfl⟩
        go_wp2_with fail
        refine (ha f).mono ?_
        rintro e w1 ⟨rfl, hb1⟩
        go_wp2_with fail
        go_ret3
        exact ⟨rfl, hb1⟩
    · have e0 : (if k = 0 ∨ k = 1 then (121 : Int) else 2) = 2 := if_neg hk
      rw [if_pos rfl, e0]
      clear e0 hfl hle
      rcases Int.lt_or_le k 0 with q | q
      · have q0 : decide (k < 0) = true := by simp; omega
        clear hk
        go_enter Tryd.func71, Tryd.ntmps71
        go_wp2_with fail
        refine hm.mono ?_
        rintro e w' ⟨rfl, rfl⟩
        go_wp2_with fail
        go_ret3
        exact ⟨rfl, Below.refl _ _⟩
      · have q0 : decide (k < 0) = false := by simp; omega
        have q1 : decide (1 < k) = true := by simp; omega
        clear hk
        go_enter Tryd.func71, Tryd.ntmps71
        go_wp2_with fail
        refine hm.mono ?_
        rintro e w' ⟨rfl, rfl⟩
        go_wp2_with fail
        go_ret3
        exact ⟨rfl, Below.refl _ _⟩
set_option maxRecDepth 100000 in
theorem rlatest_calls (v : Value) (s : ByteArray) (w : World) (h : RDisk w v) :
    Calls Tryd.prog 69 #[v, .string s] w fun e w' => e = .returned (.tuple #[.slice none 0 0, .int .i64 0, if okn 100 s then .int .i64 121 else .int .i64 2]) ∧ Below w.heap.size w w' := by
  have hs := fun k w h => rslot_calls v s k w h
  unfold slotE at hs
  cases ho : okn 100 s <;> rw [ho] at hs <;> clear ho
  · go_enter Tryd.func69, Tryd.ntmps69
    go_wp2_with fail
    refine (hs 0 w h).mono ?_
    rintro e w1 ⟨rfl, hb1⟩
    go_wp2_with fail
    go_ret3
    exact ⟨rfl, hb1⟩
  · have h0 := hs 0 w h
    have h1 := fun w h => hs 1 w h
    simp only [if_true, true_or, or_true] at h0 h1
    clear hs
    go_enter Tryd.func69, Tryd.ntmps69
    go_wp2_with fail
    refine h0.mono ?_
    rintro e w1 ⟨rfl, hb1⟩
    go_wp2_with fail
    refine (h1 w1 (h.below hb1)).mono ?_
    rintro e w2 ⟨rfl, hb2⟩
    go_wp2_with fail
    go_ret3
    exact ⟨rfl, hb1.trans (hb2.mono hb1.size)⟩
end Go.Proofs.YtfefcfjedlidnaaDoor.Slo
