/- The words of a block: the walk of the reference's Schedule. -/
import Derived.Test.YtnecgoahdkfbeaaDoorShaS
import Derived.Test.YtnecgoahdkfbeaaDoorOctD
namespace Go.Proofs.YtnecgoahdkfbeaaDoor.Sha
open Go Go.RowKit Go.Proofs.YtnecgoahdkfbeaaDoor.Cop Go.Proofs.YtnecgoahdkfbeaaDoor.Oct
set_option linter.unusedVariables false
set_option linter.unusedSimpArgs false
theorem gv_be4 (bs : List UInt8) (t : Nat) (h : 4 * t + 4 ≤ bs.length) : (gv bs (4 * (t : Int)) 4 : Int) = be4 bs t := by
  have hr : room bs.length (4 * (t : Int)) 4 = 0 := by unfold room; simp; omega
  unfold gv
  rw [if_pos hr, show (4 * (t : Int)).toNat = 4 * t from by omega]
  have e : (bs.drop (4 * t)).take 4 = [bs.getD (4 * t) 0, bs.getD (4 * t + 1) 0, bs.getD (4 * t + 2) 0, bs.getD (4 * t + 3) 0] := by
    simp only [List.getD_eq_getElem?_getD, List.getElem?_eq_getElem (show 4 * t < bs.length by omega), List.getElem?_eq_getElem (show 4 * t + 1 < bs.length by omega), List.getElem?_eq_getElem (show 4 * t + 2 < bs.length by omega), List.getElem?_eq_getElem (show 4 * t + 3 < bs.length by omega), Option.getD_some]
    rw [List.drop_eq_getElem_cons (by omega), List.drop_eq_getElem_cons (by omega), List.drop_eq_getElem_cons (by omega), List.drop_eq_getElem_cons (by omega)]
    rfl
  rw [e]
  unfold be4 num
  simp only [List.foldl_cons, List.foldl_nil]
  omega
theorem be4_lt (bs : List UInt8) (t : Nat) : 0 ≤ be4 bs t ∧ be4 bs t < 4294967296 := by
  unfold be4
  have h0 := UInt8.toNat_lt (bs.getD (4 * t) 0)
  have h1 := UInt8.toNat_lt (bs.getD (4 * t + 1) 0)
  have h2 := UInt8.toNat_lt (bs.getD (4 * t + 2) 0)
  have h3 := UInt8.toNat_lt (bs.getD (4 * t + 3) 0)
  omega
set_option maxRecDepth 100000 in
set_option maxHeartbeats 1000000 in
theorem rsch_calls (bs : List UInt8) (w : World) (hl : bs.length = 64) : Calls Tryd.prog 262 #[dg bs] w (SchRet bs w) := by
  have HL := Lib.hid hl
  clear hl
  unfold SchRet
  obtain ⟨ws, hws⟩ : ∃ ws, wl bs 64 = ws := ⟨_, rfl⟩
  rw [hws]
  have HWS := Lib.hid hws
  clear hws
  go_enter Tryd.func262, Tryd.ntmps262
  go_wp2_with (first | (((with_reducible refine gate_dst (N := 1) rfl ?_); go_loud (refine wp_box rfl _ _ rfl (v := dg bs) rfl ?_); intro w1 hk1 hb1 hz1)) | (((with_reducible refine gate_dst (N := 2) rfl ?_); go_loud (refine wp_alloc rfl _ rfl zeroW ?_); intro w2 hk2 hb2 hz2)) | (((with_reducible refine gate_dst (N := 3) rfl ?_); go_loud (refine wp_alloc rfl _ rfl zeroW ?_); intro w3 hk3 hb3 hz3)))
  have hrel0 : SRel w.heap.size w2.heap.size w.heap.size bs w 0 w3 := ⟨hk3, (hk1.below hb2).below hb3, (hb1.trans (hb2.mono (by omega))).trans (hb3.mono (by omega)), by omega, by omega⟩
  have hres : Blk w3 w1.heap.size 318 (List.replicate 64 (u32c 0)) := hk2.below hb3
  obtain ⟨B, hB⟩ : ∃ B, w.heap.size = B := ⟨_, rfl⟩
  obtain ⟨R, hR⟩ : ∃ G, w1.heap.size = G := ⟨_, rfl⟩
  obtain ⟨G, hG⟩ : ∃ G, w2.heap.size = G := ⟨_, rfl⟩
  have hBR : B ≤ R := by omega
  have hRG : R ≠ G := by omega
  have HB := Lib.hid hB
  rw [hB, hG] at hrel0
  rw [hR] at hres
  rw [hB, hR, hG]
  clear hB hG hR hk1 hb1 hz1 hk2 hb2 hz2 hk3 hb3 hz3
  go_loopw [4] (fun i wr => ∃ t : Nat, t ≤ 64 ∧ i = .int .i64 (t : Int) ∧ SRel B G B bs w t wr ∧ Blk wr R 318 (List.replicate 64 (u32c 0))) (fun i _ => 64 - (intOf i).toNat)
  case atStart => exact ⟨0, by omega, rfl, hrel0, hres⟩
  case round =>
    obtain ⟨t, ht, rfl, hR, hres'⟩ := hrel
    clear hrel0 hres
    by_cases hlt : t < 64
    · have d1 : decide ((t : Int) < 64) = true := decide_eq_true (by omega)
      have i1 : (t : Int) < 64 := by omega
      by_cases h16 : t < 16
      · have d2 : decide ((t : Int) < 16) = true := decide_eq_true (by omega)
        have hbs : Bs wr (.slice (some ⟨B, 0, none⟩) 64 64) bs := ⟨Rd.of_blk hR.2.1 64 HL.out (by decide), by rw [HL.out]; omega⟩
        have hread := rread_calls (.slice (some ⟨B, 0, none⟩) 64 64) bs (4 * (t : Int)) 4 wr hbs (by omega) (by omega)
        have hg := gv_be4 bs t (by rw [HL.out]; omega)
        have hbl := be4_lt bs t
        have hw : wn bs (wl bs t) t = be4 bs t := by unfold wn; rw [if_pos h16]
        have HW := Lib.hid hw
        obtain ⟨x, hx⟩ : ∃ x, be4 bs t = x := ⟨_, rfl⟩
        rw [hx] at hg hbl HW
        have q : IntKind.u32.wrap x = x := u32_wrap_id _ hbl.1 hbl.2
        have HG := Lib.hid hg
        have HREAD := Lib.hid hread
        clear hread hg hw hx h16
        go_wp2_with ((with_reducible refine gate_dst (N := 17) rfl ?_); go_loud (refine wp_slice_arr rfl 305 5 64 _ none rfl Tryd.underlying305 (by kernel_rfl) rfl 0 (.inl ⟨rfl, rfl⟩) (by omega) ?_))
        refine (HREAD.out).mono ?_
        intro e w' hq
        obtain ⟨rfl, rfl⟩ := hq.out
        clear hq
        rw [HG.out]
        have c0 : ∃ z, wr.cell? ⟨G, t, none⟩ = some z := ⟨(warr bs t)[t]'(by rw [warr_len bs t (by omega)]; omega), by rw [hR.1.cell, List.getElem?_eq_getElem]⟩
        go_wp2_with ((with_reducible refine gate_store (t := 197) (p := 27) rfl ?_); go_loud (refine wp_store_cell rfl 197 _ _ rfl rfl sizeU32 (g := G) (i := t) rfl hR.1 (by rw [warr_len bs t (by omega)]; omega) (v := u32c x) rfl rfl rfl ?_); intro w4 hk4 hg4)
        have hR3 := hR.more (by omega) HW.out hk4 hg4
        have hres3 := hres'.grown hg4 (by simpa using hRG)
        go_roundw
        case rel => exact ⟨t + 1, by omega, by first | rfl | go_num, hR3, hres3⟩
        case measure => simp [intOf]; omega
      · have d2 : decide ((t : Int) < 16) = false := decide_eq_false (by omega)
        obtain ⟨a, ha⟩ : ∃ a, (wl bs t).getD (t - 2) 0 = a := ⟨_, rfl⟩
        obtain ⟨c, hc⟩ : ∃ a, (wl bs t).getD (t - 7) 0 = a := ⟨_, rfl⟩
        obtain ⟨b, hb⟩ : ∃ a, (wl bs t).getD (t - 15) 0 = a := ⟨_, rfl⟩
        obtain ⟨d, hd⟩ : ∃ a, (wl bs t).getD (t - 16) 0 = a := ⟨_, rfl⟩
        have c2 : wr.cell? ⟨G, t - 2, none⟩ = some (u32c a) := by rw [hR.1.cell, warr_at bs t _ (by omega), ha]
        have c7 : wr.cell? ⟨G, t - 7, none⟩ = some (u32c c) := by rw [hR.1.cell, warr_at bs t _ (by omega), hc]
        have c15 : wr.cell? ⟨G, t - 15, none⟩ = some (u32c b) := by rw [hR.1.cell, warr_at bs t _ (by omega), hb]
        have c16 : wr.cell? ⟨G, t - 16, none⟩ = some (u32c d) := by rw [hR.1.cell, warr_at bs t _ (by omega), hd]
        have hx : wn bs (wl bs t) t = nextw a c b d := by
          unfold wn
          rw [if_neg (by omega), ha, hb, hc, hd]
        have HX := Lib.hid hx
        have e2 : IntKind.i64.wrap ((t : Int) - 2) = ((t - 2 : Nat) : Int) := by rw [IntKind.wrap_i64]; omega
        have e7 : IntKind.i64.wrap ((t : Int) - 7) = ((t - 7 : Nat) : Int) := by rw [IntKind.wrap_i64]; omega
        have e15 : IntKind.i64.wrap ((t : Int) - 15) = ((t - 15 : Nat) : Int) := by rw [IntKind.wrap_i64]; omega
        have e16 : IntKind.i64.wrap ((t : Int) - 16) = ((t - 16 : Nat) : Int) := by rw [IntKind.wrap_i64]; omega
        have s2 : (t : Int) - 2 = ((t - 2 : Nat) : Int) := by omega
        have s15 : (t : Int) - 15 = ((t - 15 : Nat) : Int) := by omega
        have j2 : ((t - 2 : Nat) : Int) < 64 := by omega
        have j7 : ((t - 7 : Nat) : Int) < 64 := by omega
        have j15 : ((t - 15 : Nat) : Int) < 64 := by omega
        have j16 : ((t - 16 : Nat) : Int) < 64 := by omega
        generalize t - 2 = p2 at *
        generalize t - 7 = p7 at *
        generalize t - 15 = p15 at *
        generalize t - 16 = p16 at *
        clear ha hb hc hd hx
        go_wp2_with fail
        clear s2 s15 c2 c15
        go_still_tail 29, (by kernel_rfl)
        repeat (first | still_step | still_call (rror_any _ _ _ (by rfl)))
        refine wpStill_nil ?_
        refine wp_store_cell (w := wr.drew) rfl 197 _ _ rfl rfl sizeU32 (g := G) (i := t) rfl hR.1 (by rw [warr_len bs t (by omega)]; omega) (v := u32c (nextw a c b d)) rfl rfl rfl ?_
        intro w3 hk3 hg3
        have hR3 := (hR.drewN 1).more (by omega) HX.out hk3 (by exact hg3)
        have hres3 : Blk w3 R 318 (List.replicate 64 (u32c 0)) := Blk.grown (w := wr.drew) hres' hg3 (by simpa using hRG)
        clear c7 c16 hR hk3 hg3
        go_wp2_with fail
        go_roundw
        case rel => exact ⟨t + 1, by omega, by first | rfl | go_num, hR3, hres3⟩
        case measure => simp [intOf]; omega
    · have d1 : decide ((t : Int) < 64) = false := decide_eq_false (by omega)
      have h64 : t = 64 := by omega
      have hk := hR.1
      have hb := hR.2.2.1
      have hBG := hR.2.2.2.1
      clear hR
      rw [h64, warr_full, HWS.out] at hk
      have HWL := Lib.hid (show ws.length = 64 by rw [← HWS.out]; exact wl_len bs 64)
      clear h64
      go_wp2_with (first | ((with_reducible refine gate_dst (N := 65) rfl ?_); go_loud (refine wp_load_blk rfl 318 _ rfl aggW sizeW rfl hk ((by rw [wcs_len]; exact HWL.out)) ?_)) | (((with_reducible refine gate_store (t := 318) (p := 2) rfl ?_); go_loud (refine wp_store_blk rfl 318 _ _ rfl rfl sizeW rfl hres' (rfl) (v := .agg (wcs ws).toArray) rfl ((by simpa [Value.cells, wcs] using HWL.out)) ((by intro u hu; exact wcs_one ws u (by simpa [Value.cells] using hu))) ?_); intro w5 hk5 hg5)))
      have hk6 : Blk w5 R 318 (wcs ws) := hk5
      have hlen : (wcs ws).length = 64 := by rw [wcs_len]; exact HWL.out
      have hb6 : Below w.heap.size w w5 := by
        rw [HB.out]
        have := hk.lt
        exact hb.grown hg5 (by omega) (fun r e => by injection e with e; omega)
      have HLEN := Lib.hid hlen
      clear hk5 hk hg5 hb hlen
      refine bodyPost_ret (results_blk1 (cs := wcs ws) rfl aggW sizeW _ rfl hk6 HLEN.out) rfl ?_
      exact ⟨rfl, hb6⟩
end Go.Proofs.YtnecgoahdkfbeaaDoor.Sha
