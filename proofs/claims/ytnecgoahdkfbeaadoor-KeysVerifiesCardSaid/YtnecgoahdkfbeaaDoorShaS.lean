/- The words of a block: the walks of Schedule, the program's and the reference's. -/
import Derived.Test.YtnecgoahdkfbeaaDoorShaP
namespace Go.Proofs.YtnecgoahdkfbeaaDoor.Sha
open Go Go.RowKit Go.Proofs.YtnecgoahdkfbeaaDoor.Cop
set_option linter.unusedVariables false
set_option linter.unusedSimpArgs false
theorem zeroW (w : World) : (zeroValue 318).run Tryd.prog w = .ok (.agg (Array.replicate 64 (.int .u32 0))) w := by kernel_rfl
theorem sizeW : (Tryd.prog.info? 318).map (fun i => i.size) = some 64 := by kernel_rfl
theorem aggW (w : World) : (isAgg 318).run Tryd.prog w = .ok true w := by kernel_rfl
theorem sizeU32 : (Tryd.prog.info? 197).map (fun i => i.size) = some 1 := by kernel_rfl
section
variable {P : Program} {ops : Array Oper} {rest : List Oper} {o : Oper} {a : Act} {Q : Exit → Act → World → Prop} {w : World}
/-- An array's slice from a place on. -/
theorem wp_slice_arr (hg : Region.wanted o (yielded ops a.tmps) = true) (t e : TypeId) (n : Nat) (x : Operand) (lo : Option Operand) (ho : o.op = .slice t x lo none none) (ht : P.underlying t = some (.array n e)) (hs : (P.info? e).map (fun i => i.size) = some 1)
    {G : Nat} (hx : a.eval x = .pointer (some ⟨G, 0, none⟩)) (l : Nat) (hlo : lo.map a.eval = none ∧ l = 0 ∨ ∃ k, lo.map a.eval = some (.int k (l : Int))) (h1 : l < n)
    (h : wpList P ops Q rest (a.put o.dst (.slice (some ⟨G, l, none⟩) (n - l) (n - l))) w) : wpList P ops Q (o :: rest) a w := by
  have hrun : (Instr.sliceAt t (.pointer (some ⟨G, 0, none⟩)) (lo.map a.eval) none none).run P w = .ok (.slice (some ⟨G, l, none⟩) (n - l) (n - l)) w := by
    have hsz := Go.Proofs.YtnecgoahdkfbeaaDoor.Cop.run_sizeOf hs w
    have e1 : (l : Int) ≤ (n : Int) := by omega
    have e2 : ¬ n = l := by omega
    have e3 : ¬ n < l := by omega
    rcases hlo with ⟨hlo, rfl⟩ | ⟨k, hlo⟩ <;> rw [hlo] <;>
      simp [Instr.sliceAt, Instr.sureAddr, run_underlying ht, Instr.sliceBounds, Instr.sliceBound, asIntOf, hsz, e1, e2, e3, addr_add]
  refine wp_run hg (v := .slice (some ⟨G, l, none⟩) (n - l) (n - l)) (w' := w) ?_ h
  unfold execOp
  simp [ho, hx, hrun, Result.andThen]
end
theorem results_blk1 {P : Program} {w : World} {fn : Func} {p : Tmp} {ty : TypeId} (h : fn.results = #[.cell p ty]) (hagg : ∀ w, (isAgg ty).run P w = .ok true w) {sz : Nat} (hs : (P.info? ty).map (fun i => i.size) = some sz)
    (tmps : Array Value) {g : Nat} (hp : tmps.getD p undef = .pointer (some ⟨g, 0, none⟩)) {t' : TypeId} {cs : List Value} (hb : Blk w g t' cs) (hl : cs.length = sz) :
    (results fn tmps).run P w = .ok (.agg cs.toArray) w := by
  have hld := run_loadCells_list (P := P) w ⟨g, 0, none⟩ cs (fun j u hu => by rw [addr_add, hb.cell]; exact hu)
  rw [hl] at hld
  have hp' : tmps[p]?.getD undef = .pointer (some ⟨g, 0, none⟩) := by simpa using hp
  simp [results, h, hp', asAddr, loadVar, hagg, Go.Proofs.YtnecgoahdkfbeaaDoor.Cop.run_sizeOf hs, hld, Result.andThen]
/-- What Schedule hands back: the words of the block. -/
def SchRet (bs : List UInt8) (w : World) (e : Ending) (w' : World) : Prop := e = .returned (.agg (wcs (wl bs 64)).toArray) ∧ Below w.heap.size w w'
theorem byte_at {wr : World} {G t' : Nat} {bs : List UInt8} (hB : Blk wr G t' (bcs bs)) (i : Nat) (h : i < bs.length) : ∃ b : Nat, b < 256 ∧ (bs.getD i 0).toNat = b ∧ wr.cell? ⟨G, i, none⟩ = some (.int .u8 (b : Int)) :=
  ⟨(bs.getD i 0).toNat, UInt8.toNat_lt _, rfl, by rw [hB.cell, bcs_get, List.getElem?_eq_getElem h, List.getD_eq_getElem?_getD, List.getElem?_eq_getElem h]; rfl⟩
def SRel (G1 G2 B : Nat) (bs : List UInt8) (w : World) (t : Nat) (wr : World) : Prop :=
  Blk wr G2 318 (warr bs t) ∧ Blk wr G1 305 (bcs bs) ∧ Below B w wr ∧ B ≤ G2 ∧ G1 ≠ G2
theorem SRel.more {G1 G2 B : Nat} {bs : List UInt8} {w wr wr' : World} {t : Nat} {x : Int} (h : SRel G1 G2 B bs w t wr) (ht : t < 64) (hx : wn bs (wl bs t) t = x) (hk : Blk wr' G2 318 ((warr bs t).set t (u32c x))) (hg : wr.grownBy wr' (some G2)) : SRel G1 G2 B bs w (t + 1) wr' := by
  obtain ⟨h1, h2, h3, h4, h5⟩ := h
  subst hx
  rw [warr_set bs t ht] at hk
  have := h1.lt
  exact ⟨hk, h2.grown hg (by simpa using h5), h3.grown hg (by omega) (fun r e => by injection e with e; omega), h4, h5⟩
theorem SRel.drewN {G1 G2 B : Nat} {bs : List UInt8} {w wr : World} {t : Nat} (h : SRel G1 G2 B bs w t wr) (n : Nat) : SRel G1 G2 B bs w t (wr.drewN n) := ⟨h.1, h.2.1, ⟨h.2.2.1.1, h.2.2.1.2, h.2.2.1.3, h.2.2.1.4, h.2.2.1.5⟩, h.2.2.2⟩
set_option maxRecDepth 100000 in
set_option maxHeartbeats 1000000 in
theorem sch_calls (bs : List UInt8) (w : World) (hl : bs.length = 64) : Calls Tryd.prog 260 #[dg bs] w (SchRet bs w) := by
  have HL := Lib.hid hl
  clear hl
  unfold SchRet
  obtain ⟨ws, hws⟩ : ∃ ws, wl bs 64 = ws := ⟨_, rfl⟩
  rw [hws]
  have HWS := Lib.hid hws
  clear hws
  go_enter Tryd.func260, Tryd.ntmps260
  go_wp2_with (first | (((with_reducible refine gate_dst (N := 1) rfl ?_); go_loud (refine wp_box rfl _ _ rfl (v := dg bs) rfl ?_); intro w1 hk1 hb1 hz1)) | (((with_reducible refine gate_dst (N := 2) rfl ?_); go_loud (refine wp_alloc rfl _ rfl zeroW ?_); intro w2 hk2 hb2 hz2)))
  have hrel0 : SRel w.heap.size w1.heap.size w.heap.size bs w 0 w2 := ⟨hk2, hk1.below hb2, hb1.trans (hb2.mono (by omega)), by omega, by omega⟩
  obtain ⟨B, hB⟩ : ∃ B, w.heap.size = B := ⟨_, rfl⟩
  obtain ⟨G, hG⟩ : ∃ G, w1.heap.size = G := ⟨_, rfl⟩
  have HB := Lib.hid hB
  rw [hB, hG] at hrel0 ⊢
  clear hB hG hk1 hb1 hz1 hk2 hb2 hz2
  go_loopw [8] (fun i wr => ∃ t : Nat, t ≤ 16 ∧ i = .int .i64 (t : Int) ∧ SRel B G B bs w t wr) (fun i _ => 16 - (intOf i).toNat)
  case atStart => exact ⟨0, by omega, rfl, hrel0⟩
  case round =>
    obtain ⟨t, ht, rfl, hR⟩ := hrel
    clear hrel0
    by_cases hlt : t < 16
    · have d1 : decide ((t : Int) < 16) = true := decide_eq_true (by omega)
      obtain ⟨b0, l0, v0, c0⟩ := byte_at hR.2.1 (4 * t) (by rw [HL.out]; omega)
      obtain ⟨b1, l1, v1, c1⟩ := byte_at hR.2.1 (4 * t + 1) (by rw [HL.out]; omega)
      obtain ⟨b2, l2, v2, c2⟩ := byte_at hR.2.1 (4 * t + 2) (by rw [HL.out]; omega)
      obtain ⟨b3, l3, v3, c3⟩ := byte_at hR.2.1 (4 * t + 3) (by rw [HL.out]; omega)
      have ho := or_three b0 b1 b2 b3 l0 l1 l2 l3
      have hw : wn bs (wl bs t) t = (b0 : Int) * 16777216 + (b1 : Int) * 65536 + (b2 : Int) * 256 + (b3 : Int) := by
        unfold wn
        rw [if_pos hlt]
        unfold be4
        rw [v0, v1, v2, v3]
      obtain ⟨x, hx⟩ : ∃ x : Int, (b0 : Int) * 16777216 + (b1 : Int) * 65536 + (b2 : Int) * 256 + (b3 : Int) = x := ⟨_, rfl⟩
      rw [hx] at ho hw
      have HW := Lib.hid hw
      have q0 : IntKind.u32.wrap (b0 : Int) = (b0 : Int) := u32_wrap_id _ (by omega) (by omega)
      have q1 : IntKind.u32.wrap (b1 : Int) = (b1 : Int) := u32_wrap_id _ (by omega) (by omega)
      have q2 : IntKind.u32.wrap (b2 : Int) = (b2 : Int) := u32_wrap_id _ (by omega) (by omega)
      have q3 : IntKind.u32.wrap (b3 : Int) = (b3 : Int) := u32_wrap_id _ (by omega) (by omega)
      have p0 : IntKind.u32.wrap ((b0 : Int) * 16777216) = (b0 : Int) * 16777216 := u32_wrap_id _ (by omega) (by omega)
      have p1 : IntKind.u32.wrap ((b1 : Int) * 65536) = (b1 : Int) * 65536 := u32_wrap_id _ (by omega) (by omega)
      have p2 : IntKind.u32.wrap ((b2 : Int) * 256) = (b2 : Int) * 256 := u32_wrap_id _ (by omega) (by omega)
      clear v0 v1 v2 v3 hx hw
      go_wp2_with ((with_reducible refine gate_dst (N := 13) rfl ?_); go_loud (refine wp_slice_arr rfl 305 5 64 _ _ rfl Tryd.underlying305 (by kernel_rfl) rfl (4 * t) (.inr ⟨.i64, by rfl⟩) (by omega) ?_))
      obtain ⟨r, hr⟩ : ∃ r, 64 - 4 * t = r := ⟨_, rfl⟩
      rw [hr]
      have r0 : 0 < r := by omega
      have r1 : (1 : Int) < (r : Int) := by omega
      have r2 : (2 : Int) < (r : Int) := by omega
      have r3 : (3 : Int) < (r : Int) := by omega
      have i1 : (t : Int) < 64 := by omega
      clear hr
      go_still_tail 24, (by kernel_rfl)
      refine wp_store_cell (w := wr.drew) rfl 197 _ _ rfl rfl sizeU32 (g := G) (i := t) rfl hR.1 (by rw [warr_len bs t (by omega)]; omega) (v := u32c x) rfl rfl rfl ?_
      intro w3 hk3 hg3
      have hR3 := (hR.drewN 1).more (by omega) HW.out hk3 (by exact hg3)
      go_wp2_with fail
      go_roundw
      case rel => exact ⟨t + 1, by omega, by first | rfl | go_num, hR3⟩
      case measure => simp [intOf]; omega
    · have d1 : decide ((t : Int) < 16) = false := decide_eq_false (by omega)
      have h16 := Lib.hid (show t = 16 by omega)
      go_wp2_with fail
      clear d1 hlt ht
      go_loopw [5] (fun i wr => ∃ t : Nat, 16 ≤ t ∧ t ≤ 64 ∧ i = .int .i64 (t : Int) ∧ SRel B G B bs w t wr) (fun i _ => 64 - (intOf i).toNat)
      case atStart => exact ⟨16, by omega, by omega, rfl, h16.out ▸ hR⟩
      case round =>
        clear hR
        obtain ⟨t, ht0, ht, rfl, hR⟩ := hrel
        by_cases hlt : t < 64
        · have d1 : decide ((t : Int) < 64) = true := decide_eq_true (by omega)
          have i1 : (t : Int) < 64 := by omega
          obtain ⟨a, ha⟩ : ∃ a, (wl bs t).getD (t - 2) 0 = a := ⟨_, rfl⟩
          obtain ⟨c, hc⟩ : ∃ a, (wl bs t).getD (t - 7) 0 = a := ⟨_, rfl⟩
          obtain ⟨b, hb⟩ : ∃ a, (wl bs t).getD (t - 15) 0 = a := ⟨_, rfl⟩
          obtain ⟨d, hd⟩ : ∃ a, (wl bs t).getD (t - 16) 0 = a := ⟨_, rfl⟩
          have c2 : wr.cell? ⟨G, t - 2, none⟩ = some (u32c a) := by rw [hR.1.cell, warr_at bs t _ (by omega), ha]
          have c7 : wr.cell? ⟨G, t - 7, none⟩ = some (u32c c) := by rw [hR.1.cell, warr_at bs t _ (by omega), hc]
          have c15 : wr.cell? ⟨G, t - 15, none⟩ = some (u32c b) := by rw [hR.1.cell, warr_at bs t _ (by omega), hb]
          have c16 : wr.cell? ⟨G, t - 16, none⟩ = some (u32c d) := by rw [hR.1.cell, warr_at bs t _ (by omega), hd]
          have hx : wn bs (wl bs t) t = nextw a c b d := by
            unfold wn
            rw [if_neg (by omega), ha, hb, hc, hd]
          have HX := Lib.hid hx
          have e2 : IntKind.i64.wrap ((t : Int) - 2) = ((t - 2 : Nat) : Int) := by rw [IntKind.wrap_i64]; omega
          have e7 : IntKind.i64.wrap ((t : Int) - 7) = ((t - 7 : Nat) : Int) := by rw [IntKind.wrap_i64]; omega
          have e15 : IntKind.i64.wrap ((t : Int) - 15) = ((t - 15 : Nat) : Int) := by rw [IntKind.wrap_i64]; omega
          have e16 : IntKind.i64.wrap ((t : Int) - 16) = ((t - 16 : Nat) : Int) := by rw [IntKind.wrap_i64]; omega
          have j2 : ((t - 2 : Nat) : Int) < 64 := by omega
          have j7 : ((t - 7 : Nat) : Int) < 64 := by omega
          have j15 : ((t - 15 : Nat) : Int) < 64 := by omega
          have j16 : ((t - 16 : Nat) : Int) < 64 := by omega
          generalize t - 2 = p2 at *
          generalize t - 7 = p7 at *
          generalize t - 15 = p15 at *
          generalize t - 16 = p16 at *
          clear ha hb hc hd hx
          go_wp2_with fail
          go_quiet (fail)
          go_wp2_with fail
          have hR2 := hR.drewN nq
          have d7 : (wr.drewN nq).cell? ⟨G, p7, none⟩ = some (u32c c) := c7
          have d16 : (wr.drewN nq).cell? ⟨G, p16, none⟩ = some (u32c d) := c16
          clear c2 c7 c15 c16 hR
          generalize wr.drewN nq = W at hR2 d7 d16 ⊢
          go_still_tail 29, (by kernel_rfl)
          repeat (first | still_step | still_call (ror_any _ _ _ (by rfl)))
          refine wpStill_nil ?_
          refine wp_store_cell (w := W.drew) rfl 197 _ _ rfl rfl sizeU32 (g := G) (i := t) rfl hR2.1 (by rw [warr_len bs t (by omega)]; omega) (v := u32c (nextw a c b d)) rfl rfl rfl ?_
          intro w3 hk3 hg3
          have hR3 := (hR2.drewN 1).more (by omega) HX.out hk3 (by exact hg3)
          clear d7 d16 hR2 hk3 hg3
          go_wp2_with fail
          go_roundw
          case rel => exact ⟨t + 1, by omega, by omega, by first | rfl | go_num, hR3⟩
          case measure => simp [intOf]; omega
        · have d1 : decide ((t : Int) < 64) = false := decide_eq_false (by omega)
          have h64 : t = 64 := by omega
          have hk := hR.1
          have hb := hR.2.2.1
          have hBG := hR.2.2.2.1
          clear hR
          rw [h64, warr_full, HWS.out] at hk
          have HWL := Lib.hid (show ws.length = 64 by rw [← HWS.out]; exact wl_len bs 64)
          clear h64
          go_wp2_with (first | ((with_reducible refine gate_dst (N := 80) rfl ?_); go_loud (refine wp_load_blk rfl 318 _ rfl aggW sizeW rfl hk ((by rw [wcs_len]; exact HWL.out)) ?_)) | (((with_reducible refine gate_store (t := 318) (p := 2) rfl ?_); go_loud (refine wp_store_blk rfl 318 _ _ rfl rfl sizeW rfl hk ((by rw [wcs_len]; exact HWL.out)) (v := .agg (wcs ws).toArray) rfl ((by simpa [Value.cells, wcs] using HWL.out)) ((by intro u hu; exact wcs_one ws u (by simpa [Value.cells] using hu))) ?_); intro w5 hk5 hg5)))
          have hk6 : Blk w5 G 318 (wcs ws) := hk5
          have hlen : (wcs ws).length = 64 := by rw [wcs_len]; exact HWL.out
          have hb6 : Below w.heap.size w w5 := by
            rw [HB.out]
            have := hk.lt
            exact hb.grown hg5 (by omega) (fun r e => by injection e with e; omega)
          have HLEN := Lib.hid hlen
          clear hk5 hk hg5 hb hlen
          refine bodyPost_ret (results_blk1 (cs := wcs ws) rfl aggW sizeW _ rfl hk6 HLEN.out) rfl ?_
          exact ⟨rfl, hb6⟩
end Go.Proofs.YtnecgoahdkfbeaaDoor.Sha
