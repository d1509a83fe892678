/- A block's compression: the walk of the program's Compress. -/
import Derived.Test.YtnecgoahdkfbeaaDoorShaS
namespace Go.Proofs.YtnecgoahdkfbeaaDoor.Sha
open Go Go.RowKit Go.Proofs.YtnecgoahdkfbeaaDoor.Cop
set_option linter.unusedVariables false
set_option linter.unusedSimpArgs false
theorem zeroW8 (w : World) : (zeroValue 253).run Tryd.prog w = .ok (.agg #[.int .u32 0, .int .u32 0, .int .u32 0, .int .u32 0, .int .u32 0, .int .u32 0, .int .u32 0, .int .u32 0]) w := by kernel_rfl
theorem sizeW8 : (Tryd.prog.info? 253).map (fun i => i.size) = some 8 := by kernel_rfl
theorem aggW8 (w : World) : (isAgg 253).run Tryd.prog w = .ok true w := by kernel_rfl
theorem sizeB64 : (Tryd.prog.info? 305).map (fun i => i.size) = some 64 := by kernel_rfl
theorem aggB64 (w : World) : (isAgg 305).run Tryd.prog w = .ok true w := by kernel_rfl
/-- The package's variable holds the rounds' constants. -/
def Kon (w : World) : Prop := ∀ i, i < 64 → w.cell? ⟨7, i, none⟩ = some (u32c (kt.getD i 0))
theorem Kon.below {w w' : World} (h : Kon w) (hb : Below w.heap.size w w') : Kon w' := fun i hi => cell_below hb _ _ (h i hi)
theorem Kon.lt {w : World} (h : Kon w) : 7 < w.heap.size := cell_lt (h 0 (by omega))
theorem Kon.drewN {w : World} (h : Kon w) (n : Nat) : Kon (w.drewN n) := h
abbrev wagg (l : List Int) : Value := .agg (wcs l).toArray
def CompRet (h : List Int) (bs : List UInt8) (w : World) (e : Ending) (w' : World) : Prop := e = .returned (wagg (comp h bs)) ∧ Below w.heap.size w w'
/-- Between the rounds. -/
def CRel (B H W S R : Nat) (h ws s : List Int) (w wr : World) : Prop :=
  Blk wr S 253 (wcs s) ∧ Blk wr W 318 (wcs ws) ∧ Blk wr H 253 (wcs h) ∧ Blk wr R 253 (wcs [0, 0, 0, 0, 0, 0, 0, 0]) ∧ Below B w wr ∧ B ≤ S ∧ H ≠ S ∧ W ≠ S ∧ R ≠ S ∧ B ≤ R
theorem CRel.drewN {B H W S R : Nat} {h ws s : List Int} {w wr : World} (x : CRel B H W S R h ws s w wr) (n : Nat) : CRel B H W S R h ws s w (wr.drewN n) := ⟨x.1, x.2.1, x.2.2.1, x.2.2.2.1, ⟨x.2.2.2.2.1.1, x.2.2.2.2.1.2, x.2.2.2.2.1.3, x.2.2.2.2.1.4, x.2.2.2.2.1.5⟩, x.2.2.2.2.2⟩
theorem CRel.store {B H W S R : Nat} {h ws s s' : List Int} {w wr wr' : World} (x : CRel B H W S R h ws s w wr) (hk : Blk wr' S 253 (wcs s')) (hg : wr.grownBy wr' (some S)) : CRel B H W S R h ws s' w wr' := by
  obtain ⟨h1, h2, h3, h4, h5, h6, h7, h8, h9, h10⟩ := x
  have := h1.lt
  exact ⟨hk, h2.grown hg (by simpa using h8), h3.grown hg (by simpa using h7), h4.grown hg (by simpa using h9), h5.grown hg (by omega) (fun r e => by injection e with e; omega), h6, h7, h8, h9, h10⟩
theorem hH_step {w w1 w2 w3 w4 w5 w6 : World} {t : TypeId} {cs : List Value} (hk1 : Blk w1 w.heap.size t cs) (hb2 : Below w1.heap.size w1 w2) (hb3 : Below w2.heap.size w2 w3) (hb4 : Below w3.heap.size w3 w4) (hb5 : Below w4.heap.size w4 w5) (hg6 : w5.grownBy w6 (some w4.heap.size)) : Blk w6 w.heap.size t cs :=
  ((((hk1.below hb2).below hb3).below hb4).below hb5).grown hg6 (by
    have := hk1.lt
    have := hb2.size
    have := hb3.size
    have := hb4.size
    simp
    omega)
theorem rnd_eq {k u : Int} {ws h : List Int} {t : Nat} {s : List Int} (hs : rds ws h t = s) (hk : kt.getD t 0 = k) (hw : ws.getD t 0 = u) : rds ws h (t + 1) = rnd k u s := by
  rw [rds, hs, hk, hw]
set_option maxRecDepth 100000 in
set_option maxHeartbeats 2000000 in
theorem comp_calls (h : List Int) (bs : List UInt8) (w : World) (hh : h.length = 8) (hl : bs.length = 64) (hK : Kon w) : Calls Tryd.prog 246 #[wagg h, dg bs] w (CompRet h bs w) := by
  have HL := Lib.hid hl
  have HHL := Lib.hid hh
  have hsch := fun w => sch_calls bs w hl
  unfold SchRet at hsch
  obtain ⟨ws, hws⟩ : ∃ ws, wl bs 64 = ws := ⟨_, rfl⟩
  have hwl : ws.length = 64 := by rw [← hws]; exact wl_len bs 64
  rw [hws] at hsch
  unfold CompRet
  obtain ⟨fin, hfin⟩ : ∃ f, comp h bs = f := ⟨_, rfl⟩
  rw [hfin]
  have hfin2 : adds (rds ws h 64) h = fin := by rw [← hfin, ← hws]; rfl
  have HF := Lib.hid hfin2
  have HSCH := Lib.hid hsch
  have HWL := Lib.hid hwl
  have HK := Lib.hid hK
  have hwsz : (wcs ws).length = 64 := by rw [wcs_len]; exact hwl
  have hhz : (wcs h).length = 8 := by rw [wcs_len]; exact hh
  have hbz : (bcs bs).length = 64 := by rw [bcs_length]; exact hl
  have HWSZ := Lib.hid hwsz
  have HHZ := Lib.hid hhz
  have HBZ := Lib.hid hbz
  clear hl hh hsch hws hwl hfin hfin2 hK hwsz hhz hbz
  go_enter Tryd.func246, Tryd.ntmps246
  go_wp2_with (first | (((with_reducible refine gate_dst (N := 2) rfl ?_); go_loud (refine wp_box rfl _ _ rfl (v := wagg h) rfl ?_); intro w1 hk1 hb1 hz1)) | (((with_reducible refine gate_dst (N := 3) rfl ?_); go_loud (refine wp_box rfl _ _ rfl (v := dg bs) rfl ?_); intro w2 hk2 hb2 hz2)) | (((with_reducible refine gate_dst (N := 4) rfl ?_); go_loud (refine wp_alloc rfl _ rfl zeroW8 ?_); intro w3 hk3 hb3 hz3)) | (((with_reducible refine gate_dst (N := 13) rfl ?_); go_loud (refine wp_load_blk rfl 305 _ rfl aggB64 sizeB64 rfl (hk2.below hb3) (HBZ.out) ?_))) | (go_at_call 260; go_loud (refine (HSCH.out _).mono ?_); rintro e w4 ⟨rfl, hb4⟩) | (((with_reducible refine gate_dst (N := 5) rfl ?_); go_loud (refine wp_alloc rfl _ rfl zeroW ?_); intro w5 hk5 hb5 hz5)) | (((with_reducible refine gate_store (t := 318) (p := 5) rfl ?_); go_loud (refine wp_store_blk rfl 318 _ _ rfl rfl sizeW rfl hk5 (rfl) (v := wagg ws) rfl ((by simpa [Value.cells] using HWSZ.out)) ((by intro u hu; exact wcs_one ws u (by simpa [Value.cells] using hu))) ?_); intro w6 hk6 hg6); have hH6 := hH_step hk1 hb2 hb3 hb4 hb5 hg6) | (((with_reducible refine gate_dst (N := 15) rfl ?_); go_loud (refine wp_load_blk rfl 253 _ rfl aggW8 sizeW8 rfl hH6 (HHZ.out) ?_))) | (((with_reducible refine gate_dst (N := 6) rfl ?_); go_loud (refine wp_alloc rfl _ rfl zeroW8 ?_); intro w7 hk7 hb7 hz7)) | (((with_reducible refine gate_store (t := 253) (p := 6) rfl ?_); go_loud (refine wp_store_blk rfl 253 _ _ rfl rfl sizeW8 rfl hk7 (rfl) (v := wagg h) rfl ((by simpa [Value.cells] using HHZ.out)) ((by intro u hu; exact wcs_one h u (by simpa [Value.cells] using hu))) ?_); intro w8 hk8 hg8)))
  have z1 := hb1.size
  have z2 := hb2.size
  have z3 := hb3.size
  have z4 := hb4.size
  have z5 := hb5.size
  have z6 := hg6.size
  have z7 := hb7.size
  have b6 : Below w.heap.size w w6 := ((((hb1.trans (hb2.mono (by omega))).trans (hb3.mono (by omega))).trans (hb4.mono (by omega))).trans (hb5.mono (by omega))).grown hg6 (by omega) (fun r e => by injection e with e; omega)
  have b8 : Below w.heap.size w w8 := (b6.trans (hb7.mono (by omega))).grown hg8 (by omega) (fun r e => by injection e with e; omega)
  have hR6 : Blk w6 w2.heap.size 253 (wcs [0, 0, 0, 0, 0, 0, 0, 0]) := (((show Blk w3 w2.heap.size 253 (wcs [0, 0, 0, 0, 0, 0, 0, 0]) from hk3).below hb4).below hb5).grown hg6 (by simp; omega)
  have hk6' : Blk w6 w4.heap.size 318 (wcs ws) := hk6
  have hk8' : Blk w8 w6.heap.size 253 (wcs h) := hk8
  have hrel0 : CRel w.heap.size w.heap.size w4.heap.size w6.heap.size w2.heap.size h ws (rds ws h 0) w w8 :=
    ⟨hk8', (hk6'.below hb7).grown hg8 (by simp; omega), (hH6.below hb7).grown hg8 (by simp; omega), (hR6.below hb7).grown hg8 (by simp; omega), b8, by omega, by omega, by omega, by omega, by omega⟩
  obtain ⟨B, hB⟩ : ∃ B, w.heap.size = B := ⟨_, rfl⟩
  obtain ⟨W, hW⟩ : ∃ B, w4.heap.size = B := ⟨_, rfl⟩
  obtain ⟨S, hS⟩ : ∃ B, w6.heap.size = B := ⟨_, rfl⟩
  obtain ⟨R, hR⟩ : ∃ B, w2.heap.size = B := ⟨_, rfl⟩
  have HB := Lib.hid hB
  rw [hB, hW, hS, hR] at hrel0
  rw [hB, hW, hS, hR]
  have hK5 : 7 < B := by have := HK.out.lt; omega
  clear hB hW hS hR z1 z2 z3 z4 z5 z6 z7 b6 b8 hR6 hk6 hk6' hk8 hk8' hg8 hk7 hb7 hz7 hH6 hg6 hk5 hb5 hz5 hb4 hk3 hb3 hz3 hk2 hb2 hz2 hk1 hb1 hz1
  go_loopw [16] (fun i wr => ∃ t : Nat, t ≤ 64 ∧ i = .int .i64 (t : Int) ∧ CRel B B W S R h ws (rds ws h t) w wr) (fun i _ => 64 - (intOf i).toNat)
  case atStart => exact ⟨0, by omega, rfl, hrel0⟩
  case round =>
    obtain ⟨t, ht, rfl, hR⟩ := hrel
    clear hrel0
    by_cases hlt : t < 64
    · have d1 : decide ((t : Int) < 64) = true := decide_eq_true (by omega)
      have i1 : (t : Int) < 64 := by omega
      obtain ⟨s0, s1, s2, s3, s4, s5, s6, s7, hs⟩ := eight (rds ws h t) (rds_len ws h HHL.out t)
      obtain ⟨k, hk⟩ : ∃ k, kt.getD t 0 = k := ⟨_, rfl⟩
      obtain ⟨u, hu⟩ : ∃ k, ws.getD t 0 = k := ⟨_, rfl⟩
      have HRN := Lib.hid (rnd_eq hs hk hu)
      have hS := hR.1
      rw [hs] at hS
      have c0 := hS.cell 0
      have c1 := hS.cell 1
      have c2 := hS.cell 2
      have c3 := hS.cell 3
      have c4 := hS.cell 4
      have c5 := hS.cell 5
      have c6 := hS.cell 6
      have c7 := hS.cell 7
      simp only [wcs, List.map_cons, List.map_nil, List.getElem?_cons_zero, List.getElem?_cons_succ] at c0 c1 c2 c3 c4 c5 c6 c7
      have cw : wr.cell? ⟨W, t, none⟩ = some (u32c u) := by
        rw [hR.2.1.cell]
        unfold wcs
        rw [List.getElem?_map, ← hu, List.getD_eq_getElem?_getD, List.getElem?_eq_getElem (by rw [HWL.out]; exact hlt)]
        rfl
      have ck : wr.cell? ⟨7, t, none⟩ = some (u32c k) := by
        rw [← hk]
        exact (HK.out.below (by rw [HB.out]; exact hR.2.2.2.2.1)) t hlt
      have HS := Lib.hid hs
      clear hs hk hu
      go_wp2_with fail
      go_quiet (fail)
      go_wp2_with fail
      clear hS
      replace c0 : (wr.drewN nq).cell? ⟨S, 0, none⟩ = some (u32c s0) := c0
      replace c1 : (wr.drewN nq).cell? ⟨S, 1, none⟩ = some (u32c s1) := c1
      replace c2 : (wr.drewN nq).cell? ⟨S, 2, none⟩ = some (u32c s2) := c2
      replace c3 : (wr.drewN nq).cell? ⟨S, 3, none⟩ = some (u32c s3) := c3
      replace c4 : (wr.drewN nq).cell? ⟨S, 4, none⟩ = some (u32c s4) := c4
      replace c5 : (wr.drewN nq).cell? ⟨S, 5, none⟩ = some (u32c s5) := c5
      replace c6 : (wr.drewN nq).cell? ⟨S, 6, none⟩ = some (u32c s6) := c6
      replace c7 : (wr.drewN nq).cell? ⟨S, 7, none⟩ = some (u32c s7) := c7
      replace cw : (wr.drewN nq).cell? ⟨W, t, none⟩ = some (u32c u) := cw
      replace ck : (wr.drewN nq).cell? ⟨7, t, none⟩ = some (u32c k) := ck
      have hR1 := hR.drewN nq
      clear hR
      generalize wr.drewN nq = W1 at hR1 c0 c1 c2 c3 c4 c5 c6 c7 cw ck ⊢
      go_quiet ((go_at_call 261; exact Calls.quiet_of_same (ror_any _ _ _ (by rfl))))
      go_wp2_with fail
      replace c0 : (W1.drewN nq).cell? ⟨S, 0, none⟩ = some (u32c s0) := c0
      replace c1 : (W1.drewN nq).cell? ⟨S, 1, none⟩ = some (u32c s1) := c1
      replace c2 : (W1.drewN nq).cell? ⟨S, 2, none⟩ = some (u32c s2) := c2
      replace c3 : (W1.drewN nq).cell? ⟨S, 3, none⟩ = some (u32c s3) := c3
      replace c4 : (W1.drewN nq).cell? ⟨S, 4, none⟩ = some (u32c s4) := c4
      replace c5 : (W1.drewN nq).cell? ⟨S, 5, none⟩ = some (u32c s5) := c5
      replace c6 : (W1.drewN nq).cell? ⟨S, 6, none⟩ = some (u32c s6) := c6
      replace c7 : (W1.drewN nq).cell? ⟨S, 7, none⟩ = some (u32c s7) := c7
      replace cw : (W1.drewN nq).cell? ⟨W, t, none⟩ = some (u32c u) := cw
      replace ck : (W1.drewN nq).cell? ⟨7, t, none⟩ = some (u32c k) := ck
      have hR2 := hR1.drewN nq
      clear hR1
      generalize W1.drewN nq = W2 at hR2 c0 c1 c2 c3 c4 c5 c6 c7 cw ck ⊢
      go_quiet ((go_at_call 261; exact Calls.quiet_of_same (ror_any _ _ _ (by rfl))))
      have hR3 := hR2.drewN nq
      have hS3 := hR3.1
      rw [HS.out] at hS3
      have hnl := rnd_len k u [s0, s1, s2, s3, s4, s5, s6, s7] rfl
      go_wp2_with (((with_reducible refine gate_store (t := 253) (p := 6) rfl ?_); go_loud (refine wp_store_blk rfl 253 _ _ rfl rfl sizeW8 rfl hS3 (rfl) (v := wagg (rnd k u [s0, s1, s2, s3, s4, s5, s6, s7])) rfl (rfl) ((by intro u' hu; exact wcs_one _ u' (by simpa [Value.cells] using hu))) ?_); intro w9 hk9 hg9))
      have hk10 : Blk w9 S 253 (wcs (rnd k u [s0, s1, s2, s3, s4, s5, s6, s7])) := hk9
      rw [← HRN.out] at hk10
      have hR4 := hR3.store hk10 hg9
      clear c0 c1 c2 c3 c4 c5 c6 c7 cw ck hk9 hg9 hR2 hR3 hS3
      go_roundw
      case rel => exact ⟨t + 1, by omega, by first | rfl | go_num, hR4⟩
      case measure => simp [intOf]; omega
    · have d1 : decide ((t : Int) < 64) = false := decide_eq_false (by omega)
      have h64 := Lib.hid (show t = 64 by omega)
      obtain ⟨s, hs⟩ : ∃ s, rds ws h 64 = s := ⟨_, rfl⟩
      have hsl : s.length = 8 := by rw [← hs]; exact rds_len ws h HHL.out 64
      have hfin : adds s h = fin := by rw [← hs]; exact HF.out
      rw [h64.out, hs] at hR
      have HSL := Lib.hid hsl
      have HFIN := Lib.hid hfin
      clear hs hsl hfin hlt ht
      go_wp2_with fail
      clear d1
      go_loopw [98] (fun i wr => ∃ j : Nat, j ≤ 8 ∧ i = .int .i64 (j : Int) ∧ ∃ l, CRel B B W S R h ws l w wr ∧ Hid (wcs l = sarr s h j)) (fun i _ => 8 - (intOf i).toNat)
      case atStart => exact ⟨0, by omega, rfl, s, hR, Lib.hid (sarr_zero s h).symm⟩
      case round =>
        clear hR
        obtain ⟨j, hj, rfl, l, hR, HLJ⟩ := hrel
        by_cases hlt : j < 8
        · have d1 : decide ((j : Int) < 8) = true := decide_eq_true (by omega)
          have i1 : (j : Int) < 8 := by omega
          obtain ⟨x, hx⟩ : ∃ x, s.getD j 0 = x := ⟨_, rfl⟩
          obtain ⟨y, hy⟩ : ∃ x, h.getD j 0 = x := ⟨_, rfl⟩
          have cx : wr.cell? ⟨S, j, none⟩ = some (u32c x) := by
            rw [hR.1.cell, HLJ.out, sarr_at s h j HSL.out HHL.out hlt, hx]
          have cy : wr.cell? ⟨B, j, none⟩ = some (u32c y) := by
            rw [hR.2.2.1.cell]
            unfold wcs
            rw [List.getElem?_map, ← hy, List.getD_eq_getElem?_getD, List.getElem?_eq_getElem (by rw [HHL.out]; exact hlt)]
            rfl
          have hset := sarr_set s h j HSL.out HHL.out hlt
          rw [hx, hy] at hset
          have HSET := Lib.hid hset
          have hl8 : (wcs l).length = 8 := by rw [HLJ.out]; exact sarr_len s h j HSL.out HHL.out hj
          have HL8 := Lib.hid hl8
          clear hx hy hset hl8
          go_wp2_with fail
          go_still_tail 8, (by kernel_rfl)
          refine wp_store_cell (w := wr.drew) rfl 197 _ _ rfl rfl sizeU32 (g := S) (i := j) rfl hR.1 (by rw [HL8.out]; exact hlt) (v := u32c (IntKind.u32.wrap (x + y))) rfl rfl rfl ?_
          intro w9 hk9 hg9
          obtain ⟨l', hl'⟩ : ∃ l', l' = (adds s h).take (j + 1) ++ s.drop (j + 1) := ⟨_, rfl⟩
          have hlw : wcs l' = sarr s h (j + 1) := by rw [hl']; rfl
          rw [HLJ.out, HSET.out, ← hlw] at hk9
          have hR9 := (hR.drewN 1).store hk9 (by exact hg9)
          have HLW := Lib.hid hlw
          clear cx cy hk9 hg9 hR hl' hlw
          go_wp2_with fail
          go_roundw
          case rel => exact ⟨j + 1, by omega, by first | rfl | go_num, l', hR9, HLW⟩
          case measure => simp [intOf]; omega
        · have d1 : decide ((j : Int) < 8) = false := decide_eq_false (by omega)
          have h8 : j = 8 := by omega
          obtain ⟨hS, _, _, hRR, hbel, hBS, _, _, _, hBR⟩ := hR
          have hlf : wcs l = wcs fin := by rw [HLJ.out, h8, sarr_full s h HSL.out HHL.out, HFIN.out]
          rw [hlf] at hS
          have hfl : (wcs fin).length = 8 := by rw [wcs_len, ← HFIN.out]; exact adds_len s h HSL.out HHL.out
          have HFL := Lib.hid hfl
          clear hlf hfl h8
          go_wp2_with (first | ((with_reducible refine gate_dst (N := 110) rfl ?_); go_loud (refine wp_load_blk rfl 253 _ rfl aggW8 sizeW8 rfl hS (HFL.out) ?_)) | (((with_reducible refine gate_store (t := 253) (p := 4) rfl ?_); go_loud (refine wp_store_blk rfl 253 _ _ rfl rfl sizeW8 rfl hRR (rfl) (v := wagg fin) rfl ((by simpa [Value.cells] using HFL.out)) ((by intro u hu; exact wcs_one fin u (by simpa [Value.cells] using hu))) ?_); intro w9 hk9 hg9)))
          have hk10 : Blk w9 R 253 (wcs fin) := hk9
          have hb9 : Below w.heap.size w w9 := by
            rw [HB.out]
            have := hRR.lt
            exact hbel.grown hg9 (by omega) (fun r e => by injection e with e; omega)
          clear hk9 hg9 hS hRR
          refine bodyPost_ret (results_blk1 (cs := wcs fin) rfl aggW8 sizeW8 _ rfl hk10 HFL.out) rfl ?_
          exact ⟨rfl, hb9⟩
end Go.Proofs.YtnecgoahdkfbeaaDoor.Sha
