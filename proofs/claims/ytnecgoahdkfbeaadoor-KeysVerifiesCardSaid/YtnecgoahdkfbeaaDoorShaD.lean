/- A block's compression: the walk of the reference's Compress. -/
import Derived.Test.YtnecgoahdkfbeaaDoorShaK
import Derived.Test.YtnecgoahdkfbeaaDoorShaR
import Derived.Test.YtnecgoahdkfbeaaDoorShaT
namespace Go.Proofs.YtnecgoahdkfbeaaDoor.Sha
open Go Go.RowKit Go.Proofs.YtnecgoahdkfbeaaDoor.Cop
set_option linter.unusedVariables false
set_option linter.unusedSimpArgs false
set_option maxRecDepth 100000 in
theorem beg_calls (w : World) : Calls Tryd.prog 223 #[] w fun e w' => e = .returned (wagg h0) ∧ Below w.heap.size w w' := by
  go_enter Tryd.func223, Tryd.ntmps223
  go_wp2_with (first | (((with_reducible refine gate_dst (N := 0) rfl ?_); go_loud (refine wp_alloc rfl _ rfl zeroW8 ?_); intro w1 hk1 hb1 hz1)) | (((with_reducible refine gate_store (t := 253) (p := 0) rfl ?_); go_loud (refine wp_store_blk rfl 253 _ _ rfl rfl sizeW8 rfl hk1 (rfl) (v := wagg h0) rfl (rfl) ((by intro u hu; exact wcs_one h0 u (by simpa [Value.cells] using hu))) ?_); intro w2 hk2 hg2)))
  have hk3 : Blk w2 w.heap.size 253 (wcs h0) := hk2
  refine bodyPost_ret (results_blk1 (cs := wcs h0) rfl aggW8 sizeW8 _ rfl hk3 rfl) rfl ?_
  exact ⟨rfl, hb1.grown hg2 (by omega) (fun r e => by injection e with e; omega)⟩
set_option maxRecDepth 100000 in
theorem rbeg_calls (w : World) : Calls Tryd.prog 191 #[] w fun e w' => e = .returned (wagg h0) ∧ Below w.heap.size w w' := by
  go_enter Tryd.func191, Tryd.ntmps191
  go_wp2_with (first | (((with_reducible refine gate_dst (N := 0) rfl ?_); go_loud (refine wp_alloc rfl _ rfl zeroW8 ?_); intro w1 hk1 hb1 hz1)) | (((with_reducible refine gate_store (t := 253) (p := 0) rfl ?_); go_loud (refine wp_store_blk rfl 253 _ _ rfl rfl sizeW8 rfl hk1 (rfl) (v := wagg h0) rfl (rfl) ((by intro u hu; exact wcs_one h0 u (by simpa [Value.cells] using hu))) ?_); intro w2 hk2 hg2)))
  have hk3 : Blk w2 w.heap.size 253 (wcs h0) := hk2
  refine bodyPost_ret (results_blk1 (cs := wcs h0) rfl aggW8 sizeW8 _ rfl hk3 rfl) rfl ?_
  exact ⟨rfl, hb1.grown hg2 (by omega) (fun r e => by injection e with e; omega)⟩
/-- The words while they are moved one place on. -/
def sh (s : List Int) (i : Nat) : List Int := s.take (i + 1) ++ (s.drop i).take (7 - i)
theorem sh_start (s : List Int) (h : s.length = 8) : sh s 7 = s := by simp [sh, h, List.take_of_length_le (show s.length ≤ 8 by omega)]
theorem sh_len (s : List Int) (i : Nat) (h : s.length = 8) (hi : i ≤ 7) : (sh s i).length = 8 := by
  unfold sh
  rw [List.length_append, List.length_take, List.length_take, List.length_drop]
  omega
theorem seven {i : Nat} (h0 : 0 < i) (h : i ≤ 7) : i = 1 ∨ i = 2 ∨ i = 3 ∨ i = 4 ∨ i = 5 ∨ i = 6 ∨ i = 7 := by omega
theorem sh_step (s : List Int) (i : Nat) (h : s.length = 8) (h0 : 0 < i) (hi : i ≤ 7) : (wcs (sh s i)).set i (u32c (s.getD (i - 1) 0)) = wcs (sh s (i - 1)) := by
  obtain ⟨s0, s1, s2, s3, s4, s5, s6, s7, rfl⟩ := eight s h
  rcases seven h0 hi with rfl | rfl | rfl | rfl | rfl | rfl | rfl <;> rfl
theorem sh_at (s : List Int) (i : Nat) (h : s.length = 8) (h0 : 0 < i) (hi : i ≤ 7) : (wcs (sh s i))[i - 1]? = some (u32c (s.getD (i - 1) 0)) := by
  obtain ⟨s0, s1, s2, s3, s4, s5, s6, s7, rfl⟩ := eight s h
  rcases seven h0 hi with rfl | rfl | rfl | rfl | rfl | rfl | rfl <;> rfl
set_option maxRecDepth 100000 in
set_option maxHeartbeats 2000000 in
theorem rcomp_calls (iw : List Int) (bs : List UInt8) (w : World) (hh : iw.length = 8) (hl : bs.length = 64) : Calls Tryd.prog 248 #[wagg iw, dg bs] w (CompRet iw bs w) := by
  have HL := Lib.hid hl
  have HHL := Lib.hid hh
  have hsch := fun w => rsch_calls bs w hl
  unfold SchRet at hsch
  obtain ⟨ws, hws⟩ : ∃ ws, wl bs 64 = ws := ⟨_, rfl⟩
  have hwl : ws.length = 64 := by rw [← hws]; exact wl_len bs 64
  rw [hws] at hsch
  unfold CompRet
  obtain ⟨fin, hfin⟩ : ∃ f, comp iw bs = f := ⟨_, rfl⟩
  rw [hfin]
  have hfin2 : adds (rds ws iw 64) iw = fin := by rw [← hfin, ← hws]; rfl
  have HF := Lib.hid hfin2
  have HSCH := Lib.hid hsch
  have HWL := Lib.hid hwl
  have hwsz : (wcs ws).length = 64 := by rw [wcs_len]; exact hwl
  have hhz : (wcs iw).length = 8 := by rw [wcs_len]; exact hh
  have hbz : (bcs bs).length = 64 := by rw [bcs_length]; exact hl
  have HWSZ := Lib.hid hwsz
  have HHZ := Lib.hid hhz
  have HBZ := Lib.hid hbz
  clear hl hh hsch hws hwl hfin hfin2 hwsz hhz hbz
  go_enter Tryd.func248, Tryd.ntmps248
  go_wp2_with (first | (((with_reducible refine gate_dst (N := 2) rfl ?_); go_loud (refine wp_box rfl _ _ rfl (v := wagg iw) rfl ?_); intro w1 hk1 hb1 hz1)) | (((with_reducible refine gate_dst (N := 3) rfl ?_); go_loud (refine wp_box rfl _ _ rfl (v := dg bs) rfl ?_); intro w2 hk2 hb2 hz2)) | (((with_reducible refine gate_dst (N := 4) rfl ?_); go_loud (refine wp_alloc rfl _ rfl zeroW8 ?_); intro w3 hk3 hb3 hz3)) | (((with_reducible refine gate_dst (N := 15) rfl ?_); go_loud (refine wp_load_blk rfl 305 _ rfl aggB64 sizeB64 rfl (hk2.below hb3) (HBZ.out) ?_))) | (go_at_call 262; go_loud (refine (HSCH.out _).mono ?_); rintro e w4 ⟨rfl, hb4⟩) | (((with_reducible refine gate_dst (N := 5) rfl ?_); go_loud (refine wp_alloc rfl _ rfl zeroW ?_); intro w5 hk5 hb5 hz5)) | (((with_reducible refine gate_store (t := 318) (p := 5) rfl ?_); go_loud (refine wp_store_blk rfl 318 _ _ rfl rfl sizeW rfl hk5 (rfl) (v := wagg ws) rfl ((by simpa [Value.cells] using HWSZ.out)) ((by intro u hu; exact wcs_one ws u (by simpa [Value.cells] using hu))) ?_); intro w6 hk6 hg6); have hH6 := hH_step hk1 hb2 hb3 hb4 hb5 hg6) | (go_at_call 263; go_loud (refine (con_calls _).mono ?_); rintro e w7 ⟨rfl, hb7⟩) | (((with_reducible refine gate_dst (N := 6) rfl ?_); go_loud (refine wp_alloc rfl _ rfl zeroW ?_); intro w8 hk8 hb8 hz8)) | (((with_reducible refine gate_store (t := 318) (p := 6) rfl ?_); go_loud (refine wp_store_blk rfl 318 _ _ rfl rfl sizeW rfl hk8 (rfl) (v := wagg kt) rfl (rfl) ((by intro u hu; exact wcs_one kt u (by simpa [Value.cells] using hu))) ?_); intro w9 hk9 hg9); have hH9 := ((hH6.below hb7).below hb8).grown hg9 (by have := hH6.lt; have := hb7.size; simp; omega)) | (((with_reducible refine gate_dst (N := 18) rfl ?_); go_loud (refine wp_load_blk rfl 253 _ rfl aggW8 sizeW8 rfl hH9 (HHZ.out) ?_))) | (((with_reducible refine gate_dst (N := 7) rfl ?_); go_loud (refine wp_alloc rfl _ rfl zeroW8 ?_); intro w10 hk10 hb10 hz10)) | (((with_reducible refine gate_store (t := 253) (p := 7) rfl ?_); go_loud (refine wp_store_blk rfl 253 _ _ rfl rfl sizeW8 rfl hk10 (rfl) (v := wagg iw) rfl ((by simpa [Value.cells] using HHZ.out)) ((by intro u hu; exact wcs_one iw u (by simpa [Value.cells] using hu))) ?_); intro w11 hk11 hg11)))
  have z1 := hb1.size
  have z2 := hb2.size
  have z3 := hb3.size
  have z4 := hb4.size
  have z5 := hb5.size
  have z6 := hg6.size
  have z7 := hb7.size
  have z8 := hb8.size
  have z9 := hg9.size
  have z10 := hb10.size
  have b6 : Below w.heap.size w w6 := ((((hb1.trans (hb2.mono (by omega))).trans (hb3.mono (by omega))).trans (hb4.mono (by omega))).trans (hb5.mono (by omega))).grown hg6 (by omega) (fun r e => by injection e with e; omega)
  have b9 : Below w.heap.size w w9 := ((b6.trans (hb7.mono (by omega))).trans (hb8.mono (by omega))).grown hg9 (by omega) (fun r e => by injection e with e; omega)
  have b11 : Below w.heap.size w w11 := (b9.trans (hb10.mono (by omega))).grown hg11 (by omega) (fun r e => by injection e with e; omega)
  have hR6 : Blk w6 w2.heap.size 253 (wcs [0, 0, 0, 0, 0, 0, 0, 0]) := (((show Blk w3 w2.heap.size 253 (wcs [0, 0, 0, 0, 0, 0, 0, 0]) from hk3).below hb4).below hb5).grown hg6 (by simp; omega)
  have hR9 : Blk w9 w2.heap.size 253 (wcs [0, 0, 0, 0, 0, 0, 0, 0]) := ((hR6.below hb7).below hb8).grown hg9 (by simp; omega)
  have hk6' : Blk w6 w4.heap.size 318 (wcs ws) := hk6
  have hW9 : Blk w9 w4.heap.size 318 (wcs ws) := ((hk6'.below hb7).below hb8).grown hg9 (by have := hk6'.lt; simp; omega)
  have hC9 : Blk w9 w7.heap.size 318 (wcs kt) := hk9
  have hk11' : Blk w11 w9.heap.size 253 (wcs iw) := hk11
  have hrel0 : CRel w.heap.size w.heap.size w4.heap.size w9.heap.size w2.heap.size iw ws (rds ws iw 0) w w11 :=
    ⟨hk11', (hW9.below hb10).grown hg11 (by have := hW9.lt; simp; omega), (hH9.below hb10).grown hg11 (by simp; omega), (hR9.below hb10).grown hg11 (by simp; omega), b11, by omega, by omega, by have := hW9.lt; omega, by omega, by omega⟩
  have hcon0 : Blk w11 w7.heap.size 318 (wcs kt) := (hC9.below hb10).grown hg11 (by have := hC9.lt; simp; omega)
  have hCS : w7.heap.size ≠ w9.heap.size := by have := hC9.lt; omega
  obtain ⟨B, hB⟩ : ∃ B, w.heap.size = B := ⟨_, rfl⟩
  obtain ⟨W, hW⟩ : ∃ B, w4.heap.size = B := ⟨_, rfl⟩
  obtain ⟨C, hC⟩ : ∃ B, w7.heap.size = B := ⟨_, rfl⟩
  obtain ⟨S, hS⟩ : ∃ B, w9.heap.size = B := ⟨_, rfl⟩
  obtain ⟨R, hR⟩ : ∃ B, w2.heap.size = B := ⟨_, rfl⟩
  have HB := Lib.hid hB
  rw [hB, hW, hS, hR] at hrel0
  rw [hC] at hcon0
  rw [hC, hS] at hCS
  rw [hB, hW, hC, hS, hR]
  clear hB hW hS hR hC z1 z2 z3 z4 z5 z6 z7 z8 z9 z10 b6 b9 b11 hR6 hR9 hk6 hk6' hW9 hC9 hk9 hk11 hk11' hg11 hk10 hb10 hz10 hH9 hg9 hk8 hb8 hz8 hb7 hH6 hg6 hk5 hb5 hz5 hb4 hk3 hb3 hz3 hk2 hb2 hz2 hk1 hb1 hz1
  go_loopw [8] (fun i wr => ∃ t : Nat, t ≤ 64 ∧ i = .int .i64 (t : Int) ∧ CRel B B W S R iw ws (rds ws iw t) w wr ∧ Blk wr C 318 (wcs kt)) (fun i _ => 64 - (intOf i).toNat)
  case atStart => exact ⟨0, by omega, rfl, hrel0, hcon0⟩
  case round =>
    obtain ⟨t, ht, rfl, hR, hC⟩ := hrel
    clear hrel0 hcon0
    obtain ⟨w0, hw0⟩ : ∃ w0 : World, w0 = wr := ⟨_, rfl⟩
    subst hw0
    by_cases hlt : t < 64
    · have d1 : decide ((t : Int) < 64) = true := decide_eq_true (by omega)
      have i1 : (t : Int) < 64 := by omega
      obtain ⟨s0, s1, s2, s3, s4, s5, s6, s7, hs⟩ := eight (rds ws iw t) (rds_len ws iw HHL.out t)
      obtain ⟨k, hk⟩ : ∃ k, kt.getD t 0 = k := ⟨_, rfl⟩
      obtain ⟨u, hu⟩ : ∃ k, ws.getD t 0 = k := ⟨_, rfl⟩
      have HRN := Lib.hid (rnd_eq hs hk hu)
      rw [hs] at hR
      have c0 := hR.1.cell 0
      have c1 := hR.1.cell 1
      have c2 := hR.1.cell 2
      have c3 := hR.1.cell 3
      have c4 := hR.1.cell 4
      have c5 := hR.1.cell 5
      have c6 := hR.1.cell 6
      have c7 := hR.1.cell 7
      simp only [wcs, List.map_cons, List.map_nil, List.getElem?_cons_zero, List.getElem?_cons_succ] at c0 c1 c2 c3 c4 c5 c6 c7
      have cw : w0.cell? ⟨W, t, none⟩ = some (u32c u) := by
        rw [hR.2.1.cell]
        unfold wcs
        rw [List.getElem?_map, ← hu, List.getD_eq_getElem?_getD, List.getElem?_eq_getElem (by rw [HWL.out]; exact hlt)]
        rfl
      have ck : w0.cell? ⟨C, t, none⟩ = some (u32c k) := by
        rw [hC.cell]
        unfold wcs
        rw [List.getElem?_map, ← hk, List.getD_eq_getElem?_getD, List.getElem?_eq_getElem (show t < kt.length from hlt)]
        rfl
      clear hs hk hu
      go_wp2_with fail
      go_quiet ((go_at_call 264; exact Calls.quiet_of_same (rror_any _ _ _ (by rfl))))
      go_wp2_with fail
      replace c0 : (w0.drewN nq).cell? ⟨S, 0, none⟩ = some (u32c s0) := c0
      replace c1 : (w0.drewN nq).cell? ⟨S, 1, none⟩ = some (u32c s1) := c1
      replace c2 : (w0.drewN nq).cell? ⟨S, 2, none⟩ = some (u32c s2) := c2
      replace c3 : (w0.drewN nq).cell? ⟨S, 3, none⟩ = some (u32c s3) := c3
      replace c4 : (w0.drewN nq).cell? ⟨S, 4, none⟩ = some (u32c s4) := c4
      replace c5 : (w0.drewN nq).cell? ⟨S, 5, none⟩ = some (u32c s5) := c5
      replace c6 : (w0.drewN nq).cell? ⟨S, 6, none⟩ = some (u32c s6) := c6
      replace c7 : (w0.drewN nq).cell? ⟨S, 7, none⟩ = some (u32c s7) := c7
      replace cw : (w0.drewN nq).cell? ⟨W, t, none⟩ = some (u32c u) := cw
      replace ck : (w0.drewN nq).cell? ⟨C, t, none⟩ = some (u32c k) := ck
      have hR1 := hR.drewN nq
      have hC1 : Blk (w0.drewN nq) C 318 (wcs kt) := hC
      clear hR hC
      generalize w0.drewN nq = W1 at hR1 hC1 c0 c1 c2 c3 c4 c5 c6 c7 cw ck ⊢
      go_quiet ((go_at_call 264; exact Calls.quiet_of_same (rror_any _ _ _ (by rfl))))
      go_wp2_with fail
      have hR2 := hR1.drewN nq
      have hC2 : Blk (W1.drewN nq) C 318 (wcs kt) := hC1
      clear hR1 hC1 c0 c1 c2 c3 c4 c5 c6 c7 cw ck
      generalize W1.drewN nq = W2 at hR2 hC2 ⊢
      go_loopw [13] (fun i wr => ∃ j : Nat, j ≤ 7 ∧ i = .int .i64 (j : Int) ∧ CRel B B W S R iw ws (sh [s0, s1, s2, s3, s4, s5, s6, s7] j) w wr ∧ Blk wr C 318 (wcs kt)) (fun i _ => (intOf i).toNat)
      case atStart => exact ⟨7, by omega, rfl, hR2, hC2⟩
      case round =>
        clear hR2 hC2
        obtain ⟨j, hj, rfl, hR, hC⟩ := hrel
        by_cases hp : 0 < j
        · have d2 : decide ((0 : Int) < (j : Int)) = true := decide_eq_true (by omega)
          have e1 : (j : Int) - 1 = ((j - 1 : Nat) : Int) := by omega
          have j8 : (j : Int) < 8 := by omega
          have j9 : ((j - 1 : Nat) : Int) < 8 := by omega
          have hst := sh_step [s0, s1, s2, s3, s4, s5, s6, s7] j rfl hp hj
          have hat := sh_at [s0, s1, s2, s3, s4, s5, s6, s7] j rfl hp hj
          have hln := sh_len [s0, s1, s2, s3, s4, s5, s6, s7] j rfl hj
          obtain ⟨x, hx⟩ : ∃ x, [s0, s1, s2, s3, s4, s5, s6, s7].getD (j - 1) 0 = x := ⟨_, rfl⟩
          rw [hx] at hst hat
          have cx : wr.cell? ⟨S, j - 1, none⟩ = some (u32c x) := by rw [hR.1.cell]; exact hat
          have HST := Lib.hid hst
          have HLN := Lib.hid hln
          clear hst hat hx hln
          have hm : (j - 1) + 1 = j := by omega
          have HM := Lib.hid hm
          clear hm
          generalize j - 1 = m at *
          go_wp2_with ((with_reducible refine gate_store (t := 197) (p := 90) rfl ?_); go_loud (refine wp_store_cell rfl 197 _ _ rfl rfl sizeU32 (g := S) (i := j) rfl hR.1 (by rw [wcs_len, HLN.out]; omega) (v := u32c x) rfl rfl rfl ?_); intro w9 hk9 hg9)
          rw [HST.out] at hk9
          have hR9 := hR.store hk9 hg9
          have hC9 := hC.grown hg9 (by simpa using hCS)
          clear cx hk9 hg9 hR hC
          go_roundw
          case rel => exact ⟨m, by have := HM.out; omega, by first | rfl | go_num, hR9, hC9⟩
          case measure => have := HM.out; simp [intOf]; omega
        · have d2 : decide ((0 : Int) < (j : Int)) = false := decide_eq_false (by omega)
          have hj0 : j = 0 := by omega
          have hR0 : CRel B B W S R iw ws [s0, s0, s1, s2, s3, s4, s5, s6] w wr := by rw [hj0] at hR; exact hR
          clear hR
          have c3 := hR0.1.cell 4
          simp only [wcs, List.map_cons, List.map_nil, List.getElem?_cons_zero, List.getElem?_cons_succ] at c3
          have hC0 := hC
          clear hC
          go_wp2_with (first | ((with_reducible refine gate_store (t := 197) (p := 95) rfl ?_); go_loud (refine wp_store_cell rfl 197 _ _ rfl rfl sizeU32 (g := S) (i := 4) rfl hR0.1 (by show 4 < 8; omega) (v := u32c ((s3 + rx k u s4 s5 s6 s7 % 4294967296) % 4294967296)) rfl rfl rfl ?_); intro w9 hk9 hg9) | ((with_reducible refine gate_store (t := 197) (p := 99) rfl ?_); go_loud (refine wp_store_cell rfl 197 _ _ rfl rfl sizeU32 (g := S) (i := 0) rfl hk9 (by show 0 < 8; omega) (v := u32c ((rx k u s4 s5 s6 s7 % 4294967296 + ry s0 s1 s2 % 4294967296) % 4294967296)) rfl rfl rfl ?_); intro w10 hk10 hg10))
          have hka : Blk w9 S 253 (wcs [s0, s0, s1, s2, (s3 + rx k u s4 s5 s6 s7) % 4294967296, s4, s5, s6]) := by
            have e : (s3 + rx k u s4 s5 s6 s7 % 4294967296) % 4294967296 = (s3 + rx k u s4 s5 s6 s7) % 4294967296 := by omega
            rw [e] at hk9
            exact hk9
          have hkb : Blk w10 S 253 (wcs (rnd k u [s0, s1, s2, s3, s4, s5, s6, s7])) := by
            have e : (s3 + rx k u s4 s5 s6 s7 % 4294967296) % 4294967296 = (s3 + rx k u s4 s5 s6 s7) % 4294967296 := by omega
            have e2 : (rx k u s4 s5 s6 s7 % 4294967296 + ry s0 s1 s2 % 4294967296) % 4294967296 = (rx k u s4 s5 s6 s7 + ry s0 s1 s2) % 4294967296 := by omega
            rw [e, e2] at hk10
            exact hk10
          have hR9 := hR0.store hka hg9
          have hR10 := hR9.store hkb hg10
          have hC10 := (hC0.grown hg9 (by simpa using hCS)).grown hg10 (by simpa using hCS)
          rw [← HRN.out] at hR10
          clear c3 hk9 hg9 hk10 hg10 hR0 hR9 hC0 hka hkb
          go_roundw
          case rel => exact ⟨t + 1, by omega, by first | rfl | go_num, hR10, hC10⟩
          case measure => simp [intOf]; omega
    · have d1 : decide ((t : Int) < 64) = false := decide_eq_false (by omega)
      have h64 := Lib.hid (show t = 64 by omega)
      obtain ⟨s, hs⟩ : ∃ s, rds ws iw 64 = s := ⟨_, rfl⟩
      have hsl : s.length = 8 := by rw [← hs]; exact rds_len ws iw HHL.out 64
      have hfin : adds s iw = fin := by rw [← hs]; exact HF.out
      rw [h64.out, hs] at hR
      have HSL := Lib.hid hsl
      have HFIN := Lib.hid hfin
      clear hs hsl hfin hlt ht
      go_wp2_with fail
      clear d1
      go_loopw [14] (fun i wr => ∃ j : Nat, j ≤ 8 ∧ i = .int .i64 (j : Int) ∧ ∃ l, CRel B B W S R iw ws l w wr ∧ Hid (wcs l = sarr s iw j)) (fun i _ => 8 - (intOf i).toNat)
      case atStart => exact ⟨0, by omega, rfl, s, hR, Lib.hid (sarr_zero s iw).symm⟩
      case round =>
        clear hR
        obtain ⟨j, hj, rfl, l, hR, HLJ⟩ := hrel
        by_cases hlt : j < 8
        · have d1 : decide ((j : Int) < 8) = true := decide_eq_true (by omega)
          have i1 : (j : Int) < 8 := by omega
          obtain ⟨x, hx⟩ : ∃ x, s.getD j 0 = x := ⟨_, rfl⟩
          obtain ⟨y, hy⟩ : ∃ x, iw.getD j 0 = x := ⟨_, rfl⟩
          have cx : wr.cell? ⟨S, j, none⟩ = some (u32c x) := by
            rw [hR.1.cell, HLJ.out, sarr_at s iw j HSL.out HHL.out hlt, hx]
          have cy : wr.cell? ⟨B, j, none⟩ = some (u32c y) := by
            rw [hR.2.2.1.cell]
            unfold wcs
            rw [List.getElem?_map, ← hy, List.getD_eq_getElem?_getD, List.getElem?_eq_getElem (by rw [HHL.out]; exact hlt)]
            rfl
          have hset := sarr_set s iw j HSL.out HHL.out hlt
          rw [hx, hy] at hset
          have HSET := Lib.hid hset
          have hl8 : (wcs l).length = 8 := by rw [HLJ.out]; exact sarr_len s iw j HSL.out HHL.out hj
          have HL8 := Lib.hid hl8
          clear hx hy hset hl8
          go_wp2_with fail
          go_still_tail 9, (by kernel_rfl)
          refine wp_store_cell (w := wr.drew) rfl 197 _ _ rfl rfl sizeU32 (g := S) (i := j) rfl hR.1 (by rw [HL8.out]; exact hlt) (v := u32c (IntKind.u32.wrap (x + y))) rfl rfl rfl ?_
          intro w9 hk9 hg9
          obtain ⟨l', hl'⟩ : ∃ l', l' = (adds s iw).take (j + 1) ++ s.drop (j + 1) := ⟨_, rfl⟩
          have hlw : wcs l' = sarr s iw (j + 1) := by rw [hl']; rfl
          rw [HLJ.out, HSET.out, ← hlw] at hk9
          have hR9 := (hR.drewN 1).store hk9 (by exact hg9)
          have HLW := Lib.hid hlw
          clear cx cy hk9 hg9 hR hl' hlw
          go_wp2_with fail
          go_roundw
          case rel => exact ⟨j + 1, by omega, by first | rfl | go_num, l', hR9, HLW⟩
          case measure => simp [intOf]; omega
        · have d1 : decide ((j : Int) < 8) = false := decide_eq_false (by omega)
          have h8 : j = 8 := by omega
          obtain ⟨hS, _, _, hRR, hbel, hBS, _, _, _, hBR⟩ := hR
          have hlf : wcs l = wcs fin := by rw [HLJ.out, h8, sarr_full s iw HSL.out HHL.out, HFIN.out]
          rw [hlf] at hS
          have hfl : (wcs fin).length = 8 := by rw [wcs_len, ← HFIN.out]; exact adds_len s iw HSL.out HHL.out
          have HFL := Lib.hid hfl
          clear hlf hfl h8
          go_wp2_with (first | ((with_reducible refine gate_dst (N := 113) rfl ?_); go_loud (refine wp_load_blk rfl 253 _ rfl aggW8 sizeW8 rfl hS (HFL.out) ?_)) | (((with_reducible refine gate_store (t := 253) (p := 4) rfl ?_); go_loud (refine wp_store_blk rfl 253 _ _ rfl rfl sizeW8 rfl hRR (rfl) (v := wagg fin) rfl ((by simpa [Value.cells] using HFL.out)) ((by intro u hu; exact wcs_one fin u (by simpa [Value.cells] using hu))) ?_); intro w9 hk9 hg9)))
          have hk10 : Blk w9 R 253 (wcs fin) := hk9
          have hb9 : Below w.heap.size w w9 := by
            rw [HB.out]
            have := hRR.lt
            exact hbel.grown hg9 (by omega) (fun r e => by injection e with e; omega)
          clear hk9 hg9 hS hRR
          refine bodyPost_ret (results_blk1 (cs := wcs fin) rfl aggW8 sizeW8 _ rfl hk10 HFL.out) rfl ?_
          exact ⟨rfl, hb9⟩
end Go.Proofs.YtnecgoahdkfbeaaDoor.Sha
