/- Words as bytes, the padding, whole blocks one after another: the walks of both sides' small functions. -/
import Derived.Test.YtnecgoahdkfbeaaDoorShaD
import Derived.Test.YtnecgoahdkfbeaaDoorPut
namespace Go.Proofs.YtnecgoahdkfbeaaDoor.Sha
open Go Go.RowKit Go.Proofs.YtnecgoahdkfbeaaDoor.Cop Go.Proofs.YtnecgoahdkfbeaaDoor.Oct
set_option linter.unusedVariables false
set_option linter.unusedSimpArgs false
section
variable {P : Program} {ops : Array Oper} {rest : List Oper} {o : Oper} {a : Act} {Q : Exit → Act → World → Prop} {w : World}
/-- An element of an array's value. -/
theorem wp_index_val (hg : Region.wanted o (yielded ops a.tmps) = true) (t e : TypeId) (n : Nat) (x i : Operand) (ho : o.op = .index t x i) (ht : P.underlying t = some (.array n e)) (hs : (P.info? e).map (fun i => i.size) = some 1) (hagg : ∀ w, (isAgg e).run P w = .ok false w)
    {cs : List Value} (hx : a.eval x = .agg cs.toArray) {k : IntKind} {j : Nat} (hi : a.eval i = .int k (j : Int)) (hj : j < n) {u : Value} (hu : cs[j]? = some u)
    (h : wpList P ops Q rest (a.put o.dst u) w) : wpList P ops Q (o :: rest) a w := by
  have e1 : (j : Int) < (n : Int) := by omega
  have e2 : ¬ n ≤ j := by omega
  have hrun : (Instr.index t (.agg cs.toArray) (.int k (j : Int))).run P w = .ok u w := by
    simp [Instr.index, asIntOf, run_underlying ht, e1, e2, hj, Go.Proofs.YtnecgoahdkfbeaaDoor.Cop.run_sizeOf hs, part, hagg, hu]
  refine wp_run hg (v := u) (w' := w) ?_ h
  unfold execOp
  simp [ho, hx, hi, hrun, Result.andThen]
end
section
variable {ops : Array Oper} {rest : List Oper} {o : Oper} {a : Act} {Q : Exit → Act → World → Prop} {w : World}
/-- make([]byte, n, m). -/
theorem wp_makeLC (hg : Region.wanted o (yielded ops a.tmps) = true) (l c : Operand) (ho : o.op = .makeSlice 48 l c) (n m : Nat) (hl : a.eval l = .int .i64 (n : Int)) (hc : a.eval c = .int .i64 (m : Int)) (hnm : n ≤ m) (hn : m ≤ 140737488355328)
    (h : ∀ w', Blk w' w.heap.size 5 (bcs (List.replicate m 0)) → Below w.heap.size w w' → w.heap.size < w'.heap.size → wpList Tryd.prog ops Q rest (a.put o.dst (.slice (some ⟨w.heap.size, 0, none⟩) n m)) w') : wpList Tryd.prog ops Q (o :: rest) a w := by
  obtain ⟨i, hi, hz, hi1, hi2⟩ := info_parts info8
  have hrun := run_make (P := Tryd.prog) w 48 5 i (.int .u8 0) Tryd.underlying48 hi hz .i64 .i64 (n : Int) (m : Int) (by omega) (by omega) (by rw [hi2]; omega) (by omega)
  rw [Int.toNat_natCast, Int.toNat_natCast, hi1, Nat.mul_one] at hrun
  have hcells : madeCells (Value.int .u8 0).cells m = (bcs (List.replicate m 0)).toArray := by
    have := toList_madeCells_one (.int .u8 0) m
    rw [show (Value.int .u8 0).cells = #[.int .u8 0] from rfl]
    apply Array.ext'
    rw [this]
    simp [bcs]
  rw [hcells] at hrun
  refine wp_run hg (v := .slice (some ⟨w.heap.size, 0, none⟩) n m) (w' := w.alloc (.cells (bcs (List.replicate m 0)).toArray 5)) ?_ (h _ (Blk.new w _ _) ((Below.refl _ _).alloc (Nat.le_refl _) _) (by simp))
  unfold execOp
  simp [ho, hl, hc, hrun, Result.andThen]
end
theorem agg32 (w : World) : (isAgg 197).run Tryd.prog w = .ok false w := by kernel_rfl
theorem wd_at {h : List Int} (hh : Wd h) {j : Nat} (hj : j < 8) : ∃ x : Nat, x < 4294967296 ∧ (wcs h)[j]? = some (u32c (x : Int)) ∧ h.take (j + 1) = h.take j ++ [(x : Int)] := by
  obtain ⟨h1, h2⟩ := hh
  have hlt : j < h.length := by omega
  obtain ⟨g0, g1⟩ := h2 _ (List.getElem_mem hlt)
  refine ⟨h[j].toNat, by omega, ?_, ?_⟩
  · unfold wcs
    rw [List.getElem?_map, List.getElem?_eq_getElem hlt, Option.map_some, show ((h[j].toNat : Nat) : Int) = h[j] from by omega]
  · rw [take_snoc h j hlt, show ((h[j].toNat : Nat) : Int) = h[j] from by omega]
set_option maxRecDepth 100000 in
set_option maxHeartbeats 1000000 in
theorem words_calls (iw : List Int) (w : World) (hh : Wd iw) : Calls Tryd.prog 228 #[wagg iw] w (RetRow 5 1 (wordsB iw).length (bcs (wordsB iw)) w) := by
  have HH := Lib.hid hh
  have HL := Lib.hid (show (wcs iw).length = 8 by rw [wcs_len]; exact hh.1)
  clear hh
  go_enter Tryd.func228, Tryd.ntmps228
  go_wp2_with (first | (((with_reducible refine gate_dst (N := 1) rfl ?_); go_loud (refine wp_box rfl _ _ rfl (v := wagg iw) rfl ?_); intro w1 hk1 hb1 hz1)) | ((with_reducible refine gate_dst (N := 6) rfl ?_); go_loud (refine wp_load_blk rfl 253 _ rfl aggW8 sizeW8 rfl hk1 (HL.out) ?_)))
  have hk1' : Blk w1 w.heap.size 253 (wcs iw) := hk1
  show Code.wp _ _ _ _ _
  obtain ⟨B, hB⟩ : ∃ B, w.heap.size = B := ⟨_, rfl⟩
  have HB := Lib.hid hB
  rw [hB] at hb1 hz1 ⊢
  clear hk1 hk1' hB
  go_loopw [3, 7] (fun u i wr => ∃ j : Nat, j ≤ 8 ∧ i = .int .i64 (j : Int) ∧ Own B wr u (wordsB (iw.take j)) ∧ Below B w wr ∧ B ≤ wr.heap.size) (fun _ i _ => 8 - (intOf i).toNat)
  case atStart => exact ⟨0, by omega, rfl, Own.nil _ _, hb1, by omega⟩
  case round =>
    clear hb1 hz1
    obtain ⟨j, hj, rfl, hown, hbel, hBs⟩ := hrel
    by_cases hlt : j < 8
    · have d1 : decide ((j : Int) < 8) = true := decide_eq_true (by omega)
      obtain ⟨x, hx, hat, htk⟩ := wd_at HH.out hlt
      have hbe := be_four x hx
      have hbl : (wordsB (iw.take j)).length ≤ 32 := by rw [wordsB_len, List.length_take]; omega
      have HTK := Lib.hid htk
      have HBE := Lib.hid hbe
      have HAT := Lib.hid hat
      clear htk hbe hat
      go_wp2_with (first | ((with_reducible refine gate_dst (N := 9) rfl ?_); go_loud (refine wp_index_val rfl 253 197 8 _ _ rfl Tryd.underlying253 sizeU32 agg32 (cs := wcs iw) rfl (j := j) rfl hlt HAT.out ?_)) | (((with_reducible refine gate_dst (N := 23) rfl ?_); go_loud (refine wp_appB rfl (.tmp 10) (.tmp 22) rfl (hown.alloc _) rfl (lit4 (be_length x 4) HBE.out _ _) rfl (by have hq := be_length x 4; show (wordsB (iw.take j)).length + (be x 4).length ≤ _; omega) (by simp; omega) ?_); intro v' w3 hown3 hgrow3)))
      have hown4 : Own B w3 v' (wordsB (iw.take (j + 1))) := by rw [HTK.out, wordsB_snoc, Int.toNat_natCast]; exact hown3
      have hbel4 : Below B w w3 := (hbel.alloc hBs _).grown hgrow3 (by simp; omega) (fun r e => (World.ownsRow.lt hown r e).1)
      have hs3 := hgrow3.size
      simp at hs3
      clear hown3 hgrow3 hown hbel
      go_roundw
      case rel => exact ⟨j + 1, by omega, by first | rfl | go_num, hown4, hbel4, by omega⟩
      case measure => simp [intOf]; omega
    · have d1 : decide ((j : Int) < 8) = false := decide_eq_false (by omega)
      have h8 : iw.take j = iw := List.take_of_length_le (by rw [HH.out.1]; omega)
      rw [h8] at hown
      clear h8
      go_wp2_with fail
      go_ret
      exact ⟨_, rfl, by rw [HB.out]; exact hown, by rw [HB.out]; exact hbel⟩
set_option maxRecDepth 100000 in
set_option maxHeartbeats 1000000 in
theorem rwords_calls (iw : List Int) (w : World) (hh : Wd iw) : Calls Tryd.prog 231 #[wagg iw] w (RetRow 5 1 (wordsB iw).length (bcs (wordsB iw)) w) := by
  have HH := Lib.hid hh
  clear hh
  obtain ⟨B, hB⟩ : ∃ B, w.heap.size = B := ⟨_, rfl⟩
  have HB := Lib.hid hB
  clear hB
  go_enter Tryd.func231, Tryd.ntmps231
  go_wp2_with (first | (((with_reducible refine gate_dst (N := 1) rfl ?_); go_loud (refine wp_box rfl _ _ rfl (v := wagg iw) rfl ?_); intro w1 hk1 hb1 hz1)))
  rw [HB.out] at hk1 hb1 hz1 ⊢
  have hk1' : Blk w1 B 253 (wcs iw) := hk1
  clear hk1
  go_loopw [3, 4] (fun u i wr => ∃ j : Nat, j ≤ 8 ∧ i = .int .i64 (j : Int) ∧ Own (B + 1) wr u (wordsB (iw.take j)) ∧ Blk wr B 253 (wcs iw) ∧ Below B w wr ∧ B + 1 ≤ wr.heap.size) (fun _ i _ => 8 - (intOf i).toNat)
  case atStart => exact ⟨0, by omega, rfl, Own.nil _ _, hk1', hb1, by omega⟩
  case round =>
    clear hb1 hz1 hk1'
    obtain ⟨j, hj, rfl, hown, hk, hbel, hBs⟩ := hrel
    by_cases hlt : j < 8
    · have d1 : decide ((j : Int) < 8) = true := decide_eq_true (by omega)
      have i1 : (j : Int) < 8 := by omega
      obtain ⟨x, hx, hat, htk⟩ := wd_at HH.out hlt
      have hbl : (wordsB (iw.take j)).length ≤ 32 := by rw [wordsB_len, List.length_take]; omega
      have HTK := Lib.hid htk
      have cx : wr.cell? ⟨B, j, none⟩ = some (u32c (x : Int)) := by rw [hk.cell]; exact hat
      have hx64 : (x : Int) < 18446744073709551616 := by omega
      clear htk hat
      go_wp2_with (first | (go_at_call 102; go_loud (refine (number_calls x 4 _ (by omega) (by omega)).mono ?_); rintro e w2 ⟨vn, rfl, hn, hb2⟩; have hown2 := own_below hown hb2; have hk2 := hk.below hb2) | (((with_reducible refine gate_dst (N := 15) rfl ?_); go_loud (refine wp_appB rfl (.tmp 9) (.tmp 14) rfl hown2 rfl hn.rd rfl (by have hq := be_length x 4; show (wordsB (iw.take j)).length + (be x 4).length ≤ _; omega) (by have := hb2.size; omega) ?_); intro v' w3 hown3 hgrow3)))
      have hown4 : Own (B + 1) w3 v' (wordsB (iw.take (j + 1))) := by rw [HTK.out, wordsB_snoc, Int.toNat_natCast]; exact hown3
      have hs2 := hb2.size
      have hs3 := hgrow3.size
      have hbel4 : Below B w w3 := (hbel.trans (hb2.mono (by omega))).grown hgrow3 (by omega) (fun r e => by have := (World.ownsRow.lt hown2 r e).1; omega)
      have hk3 : Blk w3 B 253 (wcs iw) := hk2.grown hgrow3 (fun e => by have := (World.ownsRow.lt hown2 B e.symm).1; omega)
      clear hown3 hgrow3 hown hbel hk hk2 hown2 hn hb2 cx
      go_roundw
      case rel => exact ⟨j + 1, by omega, by first | rfl | go_num, hown4, hk3, hbel4, by omega⟩
      case measure => simp [intOf]; omega
    · have d1 : decide ((j : Int) < 8) = false := decide_eq_false (by omega)
      have h8 : iw.take j = iw := List.take_of_length_le (by rw [HH.out.1]; omega)
      rw [h8] at hown
      clear h8
      go_wp2_with fail
      go_ret
      exact ⟨_, rfl, by rw [HB.out]; exact own_mono hown (by omega), by rw [HB.out]; exact hbel⟩
end Go.Proofs.YtnecgoahdkfbeaaDoor.Sha
