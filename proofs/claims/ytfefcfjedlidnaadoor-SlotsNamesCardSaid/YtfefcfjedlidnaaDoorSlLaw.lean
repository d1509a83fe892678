/- The law SlotsNames: its walk. -/
import Derived.Test.YtfefcfjedlidnaaDoorSlRef
namespace Go.Proofs.YtfefcfjedlidnaaDoor.Slo
open Go Go.RowKit Go.Proofs.YtfefcfjedlidnaaDoor.Cop Go.Proofs.YtfefcfjedlidnaaDoor.Oct
set_option linter.unusedVariables false
set_option linter.unusedSimpArgs false

theorem mkm (w : World) : (Instr.makeMap 97 none).run Tryd.prog w = .ok (.map (some w.heap.size)) (w.alloc (.map #[] 0)) := rfl
theorem conv0 (w : World) : (convert 24 9 (.slice none 0 0)).run Tryd.prog w = .ok (.string { data := #[] }) w := by
  rw [run_convert_bytes_string w 24 9 5 none _ _ Tryd.underlying24 Tryd.underlying5 Tryd.underlying9]
  rfl
attribute [local go_sem] mkm conv0
set_option maxRecDepth 100000 in
theorem codes_calls (w : World) : Calls Tryd.prog 22 #[] w fun e w' => e = .returned (.bool true) ∧ w = w' := by
  go_enter Tryd.func22, Tryd.ntmps22
  go_wp2_with fail
  go_ret
  exact ⟨rfl, rfl⟩
set_option maxRecDepth 100000 in
theorem dnew_calls (w : World) : Calls Tryd.prog 19 #[.int .i64 8] w fun e w' => (∃ v, e = .returned (.tuple #[v, .int .i64 0]) ∧ Disk w' v) ∧ Below w.heap.size w w' := by
  have hbel : Below w.heap.size w ((w.alloc (.map #[] 0)).alloc (.cells #[.int .i64 8, .map (some w.heap.size), .slice none 0 0] 100)) := ((Below.refl _ _).alloc (Nat.le_refl _) _).alloc (by simp) _
  have hd : Disk ((w.alloc (.map #[] 0)).alloc (.cells #[.int .i64 8, .map (some w.heap.size), .slice none 0 0] 100)) (.pointer (some ⟨w.heap.size + 1, 0, none⟩)) := by
    have hb := Blk.new (w.alloc (.map #[] 0)) [.int .i64 8, .map (some w.heap.size), .slice none 0 0] 100
    rw [World.size_alloc] at hb
    have hm : (w.alloc (.map #[] 0)).heap[w.heap.size]? = some (.map #[] 0) := heap_alloc_new w _
    have hb2 : Below (w.alloc (.map #[] 0)).heap.size (w.alloc (.map #[] 0)) ((w.alloc (.map #[] 0)).alloc (.cells #[.int .i64 8, .map (some w.heap.size), .slice none 0 0] 100)) := (Below.refl _ _).alloc (Nat.le_refl _) _
    exact ⟨_, _, rfl, hb.cell 0, hb.cell 1, (hb2.block _ (by simp)).trans hm⟩
  go_enter Tryd.func19, Tryd.ntmps19
  go_wp2_with fail
  go_ret2
  exact ⟨⟨_, rfl, hd⟩, hbel⟩
set_option maxRecDepth 100000 in
theorem rnew_calls (w : World) : Calls Tryd.prog 20 #[.int .i64 8] w fun e w' => (∃ v, e = .returned (.tuple #[v, .int .i64 0]) ∧ RDisk w' v) ∧ Below w.heap.size w w' := by
  have hbel : Below w.heap.size w (w.alloc (.cells #[.int .i64 8, .slice none 0 0, .slice none 0 0] 103)) := (Below.refl _ _).alloc (Nat.le_refl _) _
  have hb := Blk.new w [.int .i64 8, .slice none 0 0, .slice none 0 0] 103
  have hd : RDisk (w.alloc (.cells #[.int .i64 8, .slice none 0 0, .slice none 0 0] 103)) (.pointer (some ⟨w.heap.size, 0, none⟩)) := ⟨_, rfl, hb.cell 1⟩
  clear hb
  go_enter Tryd.func20, Tryd.ntmps20
  go_wp2_with fail
  go_ret2
  exact ⟨⟨_, rfl, hd⟩, hbel⟩
set_option maxRecDepth 100000 in
theorem looks_calls (v r : Value) (s : ByteArray) (k : Int) (w : World) (h : Disk w v) (hr : RDisk w r) :
    Calls Tryd.prog 21 #[v, r, .string s, .int .i64 k] w fun e w' => e = .returned (.bool true) ∧ Below w.heap.size w w' := by
  obtain ⟨E, hE⟩ : ∃ E : Int, (if okn 100 s then (.int .i64 121 : Value) else .int .i64 2) = .int .i64 E := by cases okn 100 s <;> exact ⟨_, rfl⟩
  have l1 := fun w h => latest_calls v s w h
  have l2 := fun w h => rlatest_calls r s w h
  have l3 := fun w h => slot_calls v s k w h
  have l4 := fun w h => rslot_calls r s k w h
  rw [hE] at l1 l2
  generalize slotE s k = F at l3 l4
  clear hE
  have L2 := Lib.hid l2
  have L3 := Lib.hid l3
  have L4 := Lib.hid l4
  have H := Lib.hid h
  have HR := Lib.hid hr
  have l1' := l1 w h
  clear l1 l2 l3 l4 h hr
  go_enter Tryd.func21, Tryd.ntmps21
  go_wp2_with fail
  refine l1'.mono ?_
  rintro e w1 ⟨rfl, hb1⟩
  go_wp2_with fail
  refine (L2.out w1 (HR.out.below hb1)).mono ?_
  rintro e w2 ⟨rfl, hb2⟩
  have b2 := hb1.trans (hb2.mono hb1.size)
  go_wp2_with fail
  refine (L3.out w2 (H.out.below b2)).mono ?_
  rintro e w3 ⟨rfl, hb3⟩
  have b3 := b2.trans (hb3.mono b2.size)
  go_wp2_with fail
  refine (L4.out w3 (HR.out.below b3)).mono ?_
  rintro e w4 ⟨rfl, hb4⟩
  have b4 := b3.trans (hb4.mono b3.size)
  go_wp2_with fail
  go_ret
  exact ⟨rfl, b4⟩
set_option maxRecDepth 100000 in
theorem slotsNames_law (s : ByteArray) (k : Int) (w : World) :
    Calls Tryd.prog 4 #[.string s, .int .i64 k] w fun e w' => e = .returned (.bool true) ∧ Below w.heap.size w w' := by
  obtain ⟨A, B, E, hE⟩ : ∃ (A B : ByteArray) (E : Int), (if okn 100 s then (.tuple #[.string (s ++ d0), .string (s ++ d1), .int .i64 0] : Value) else .tuple #[.string ByteArray.empty, .string ByteArray.empty, .int .i64 2]) = .tuple #[.string A, .string B, .int .i64 E] := by
    cases okn 100 s <;> exact ⟨_, _, _, rfl⟩
  have n1 := names_calls s w
  have n2 := fun w => rnames_calls s w
  rw [hE] at n1 n2
  clear hE
  have N2 := Lib.hid n2
  clear n2
  go_enter Tryd.func4, Tryd.ntmps4
  go_wp2_with fail
  refine n1.mono ?_
  rintro e w1 ⟨rfl, hb1⟩
  go_wp2_with fail
  refine (N2.out w1).mono ?_
  rintro e w' ⟨rfl, rfl⟩
  go_wp2_with fail
  refine (dnew_calls w1).mono ?_
  rintro e w2 ⟨⟨v, rfl, hd⟩, hb2⟩
  have b2 := hb1.trans (hb2.mono hb1.size)
  have HD := Lib.hid hd
  clear hd
  go_wp2_with fail
  refine (rnew_calls w2).mono ?_
  rintro e w3 ⟨⟨r, rfl, hr⟩, hb3⟩
  have b3 := b2.trans (hb3.mono b2.size)
  have HR := Lib.hid hr
  clear hr
  have hl := looks_calls v r s k w3 (HD.out.below hb3) HR.out
  go_wp2_with fail
  refine hl.mono ?_
  rintro e w4 ⟨rfl, hb4⟩
  have b4 := b3.trans (hb4.mono b3.size)
  go_wp2_with fail
  refine (codes_calls w4).mono ?_
  rintro e w' ⟨rfl, rfl⟩
  go_wp2_with fail
  go_ret
  exact ⟨rfl, b4⟩
end Go.Proofs.YtfefcfjedlidnaaDoor.Slo
