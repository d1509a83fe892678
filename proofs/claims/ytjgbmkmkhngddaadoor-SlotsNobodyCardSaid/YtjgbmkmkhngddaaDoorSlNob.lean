/- The law SlotsNobody: its walk. -/
import Derived.Test.YtjgbmkmkhngddaaDoorNoDisk
namespace Go.Proofs.YtjgbmkmkhngddaaDoor.Nob
open Go Go.RowKit Go.Proofs.YtjgbmkmkhngddaaDoor.Cop Go.Proofs.YtjgbmkmkhngddaaDoor.Oct
set_option linter.unusedVariables false
set_option linter.unusedSimpArgs false

set_option maxRecDepth 100000 in
theorem wrong_calls (v : Value) (s : ByteArray) (w : World) (h : NoDisk w v) : Calls Tryd.prog 49 #[v, .string s] w fun e w' => e = .returned (.int .i64 1) ∧ w = w' := by
  have hn := sector_calls v w h
  go_enter Tryd.func49, Tryd.ntmps49
  go_wp2_with fail
  refine hn.mono ?_
  rintro e w' ⟨rfl, rfl⟩
  go_wp2_with fail
  go_ret
  exact ⟨rfl, rfl⟩
set_option maxRecDepth 100000 in
theorem latest_calls (v : Value) (s : ByteArray) (w : World) (h : NoDisk w v) : Calls Tryd.prog 12 #[v, .string s] w fun e w' => e = .returned (.tuple #[.slice none 0 0, .int .i64 0, .int .i64 1]) ∧ w = w' := by
  have hn := wrong_calls v s w h
  go_enter Tryd.func12, Tryd.ntmps12
  go_wp2_with fail
  refine hn.mono ?_
  rintro e w' ⟨rfl, rfl⟩
  go_wp2_with fail
  go_ret3
  exact ⟨rfl, rfl⟩
set_option maxRecDepth 100000 in
theorem slot_calls (v : Value) (s : ByteArray) (i : Int) (w : World) (h : NoDisk w v) : Calls Tryd.prog 13 #[v, .string s, .int .i64 i] w fun e w' => e = .returned (.tuple #[.slice none 0 0, .int .i64 0, .int .i64 1]) ∧ w = w' := by
  have hn := wrong_calls v s w h
  go_enter Tryd.func13, Tryd.ntmps13
  go_wp2_with fail
  refine hn.mono ?_
  rintro e w' ⟨rfl, rfl⟩
  go_wp2_with fail
  go_ret3
  exact ⟨rfl, rfl⟩
set_option maxRecDepth 100000 in
theorem publish_calls (v : Value) (s : ByteArray) (r : Value) (w : World) (h : NoDisk w v) : Calls Tryd.prog 14 #[v, .string s, r] w fun e w' => e = .returned (.int .i64 1) ∧ w = w' := by
  have hn := wrong_calls v s w h
  go_enter Tryd.func14, Tryd.ntmps14
  go_wp2_with fail
  refine hn.mono ?_
  rintro e w' ⟨rfl, rfl⟩
  go_wp2_with fail
  go_ret
  exact ⟨rfl, rfl⟩

set_option maxHeartbeats 1000000 in
set_option maxRecDepth 100000 in
theorem slots_law (s : ByteArray) (r : Value) (w : World) :
    Calls Tryd.prog 3 #[.string s, r] w fun e w' => e = .returned (.bool true) ∧ Below w.heap.size w w' := by
  go_enter Tryd.func3, Tryd.ntmps3
  go_wp2_with fail
  obtain ⟨W0, hW0⟩ : ∃ W0, ((w.alloc (.cells #[.int .i64 0, .map none, .slice none 0 0] 27)).alloc (.cells #[.pointer none, .pointer (some ⟨w.heap.size, 0, none⟩)] 23)) = W0 := ⟨_, rfl⟩
  have g0 : Blk W0 w.heap.size 27 [.int .i64 0, .map none, .slice none 0 0] := by
    rw [← hW0]; exact (Blk.new w _ _).below ((Below.refl _ _).alloc (Nat.le_refl _) _)
  have g1 : Blk W0 (w.heap.size + 1) 23 [.pointer none, .pointer (some ⟨w.heap.size, 0, none⟩)] := by
    rw [← hW0]
    have h := Blk.new (w.alloc (.cells #[.int .i64 0, .map none, .slice none 0 0] 27)) [.pointer none, .pointer (some ⟨w.heap.size, 0, none⟩)] 23
    rwa [World.size_alloc] at h
  have hbel : Below w.heap.size w W0 := by rw [← hW0]; exact ((Below.refl _ _).alloc (Nat.le_refl _) _).alloc (by simp) _
  have c0 := g1.cell 0
  have c1 := g1.cell 1
  rw [List.getElem?_cons_zero] at c0
  rw [List.getElem?_cons_succ, List.getElem?_cons_zero] at c1
  have n0 : NoDisk W0 (.pointer none) := .inl rfl
  have n1 : NoDisk W0 (.pointer (some ⟨w.heap.size, 0, none⟩)) := .inr ⟨_, rfl, g0.cell 1⟩
  have N0 := Lib.hid n0
  have N1 := Lib.hid n1
  rw [hW0]
  clear hW0 g0 g1 n0 n1
  go_loop [17] (fun i => i = .int .i64 0 ∨ i = .int .i64 1 ∨ i = .int .i64 2) (fun i => (2 - intOf i).toNat)
  case atStart => exact .inl rfl
  case round =>
    rcases hrel with rfl | rfl | rfl
    · go_wp2_with (first | (go_at_call 12; go_loud (refine (latest_calls _ _ _ N0.out).mono ?_); rintro e w' ⟨rfl, rfl⟩) | (go_at_call 13; go_loud (refine (slot_calls _ _ _ _ N0.out).mono ?_); rintro e w' ⟨rfl, rfl⟩) | (go_at_call 14; go_loud (refine (publish_calls _ _ _ _ N0.out).mono ?_); rintro e w' ⟨rfl, rfl⟩))
      go_round
      case rel => exact .inr (.inl rfl)
      case measure => simp [intOf]
    · go_wp2_with (first | (go_at_call 12; go_loud (refine (latest_calls _ _ _ N1.out).mono ?_); rintro e w' ⟨rfl, rfl⟩) | (go_at_call 13; go_loud (refine (slot_calls _ _ _ _ N1.out).mono ?_); rintro e w' ⟨rfl, rfl⟩) | (go_at_call 14; go_loud (refine (publish_calls _ _ _ _ N1.out).mono ?_); rintro e w' ⟨rfl, rfl⟩))
      go_round
      case rel => exact .inr (.inr rfl)
      case measure => simp [intOf]
    · go_wp2_with fail
      go_ret
      exact ⟨rfl, hbel⟩
end Go.Proofs.YtjgbmkmkhngddaaDoor.Nob
