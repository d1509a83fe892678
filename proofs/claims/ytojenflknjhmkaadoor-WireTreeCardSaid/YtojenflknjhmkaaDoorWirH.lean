/- wire.Decode. -/
import Derived.Test.YtojenflknjhmkaaDoorWirG
namespace Go.Proofs.YtojenflknjhmkaaDoor.Wir
open Go Go.RowKit Go.Proofs.YtojenflknjhmkaaDoor Go.Proofs.YtojenflknjhmkaaDoor.Cop Go.Proofs.YtojenflknjhmkaaDoor.Ver Go.Proofs.YtojenflknjhmkaaDoor.Oct Go.Proofs.YtojenflknjhmkaaDoor.Dsl
set_option linter.unusedVariables false
set_option linter.unusedSimpArgs false
theorem zr35_wh (w : World) : (zeroValue 35).run Tryd.prog w = .ok (.agg #[(.int .i64 0), (.int .i64 0), (.int .i64 0), (.slice none 0 0)]) w := by kernel_rfl
theorem zr25_wh (w : World) : (zeroValue 25).run Tryd.prog w = .ok (.int .i64 0) w := by kernel_rfl
theorem zr3_wh (w : World) : (zeroValue 3).run Tryd.prog w = .ok (.int .i64 0) w := by kernel_rfl
theorem sz3_wh : (Tryd.prog.info? 3).map (fun i => i.size) = some 1 := by kernel_rfl
theorem sz5_wh : (Tryd.prog.info? 5).map (fun i => i.size) = some 1 := by kernel_rfl
theorem ag5_wh (w : World) : (isAgg 5).run Tryd.prog w = .ok false w := by kernel_rfl
theorem en66_wh : Eng.Entr Tryd.prog 66 := ⟨_, Tryd.func66, by kernel_rfl, by kernel_rfl⟩
theorem en80_wh : Eng.Entr Tryd.prog 80 := ⟨_, Tryd.func80, by kernel_rfl, by kernel_rfl⟩
theorem sz35_wh : (Tryd.prog.info? 35).map (fun i => i.size) = some 4 := by kernel_rfl
theorem en81_wh : Eng.Entr Tryd.prog 81 := ⟨_, Tryd.func81, by kernel_rfl, by kernel_rfl⟩
theorem zr24_wh (w : World) : (zeroValue 24).run Tryd.prog w = .ok (dg Oct.dz) w := by kernel_rfl
theorem sz24_wh : (Tryd.prog.info? 24).map (fun i => i.size) = some 32 := by kernel_rfl
theorem ag29_wh (w : World) : (isAgg 29).run Tryd.prog w = .ok false w := by kernel_rfl
theorem ag24_wh (w : World) : (isAgg 24).run Tryd.prog w = .ok true w := by kernel_rfl
theorem in24_wh : (Tryd.prog.info? 24).map (fun i => (i.zero, i.size, i.bytes)) = some (some (dg Oct.dz), 32, 32) := by kernel_rfl
theorem sz29_wh : (Tryd.prog.info? 29).map (fun i => i.size) = some 1 := by kernel_rfl
theorem ag35_wh (w : World) : (isAgg 35).run Tryd.prog w = .ok true w := by kernel_rfl
theorem en28_wh : Eng.Entr Tryd.prog 28 := ⟨_, Tryd.func28, by kernel_rfl, by kernel_rfl⟩
theorem sz25_wh : (Tryd.prog.info? 25).map (fun i => i.size) = some 1 := by kernel_rfl
theorem en79_wh : Eng.Entr Tryd.prog 79 := ⟨_, Tryd.func79, by kernel_rfl, by kernel_rfl⟩
theorem ag25_wh (w : World) : (isAgg 25).run Tryd.prog w = .ok false w := by kernel_rfl
set_option maxRecDepth 100000 in
set_option maxHeartbeats 4000000 in
theorem decode_calls (v : Value) (b : List UInt8) (w : World) (h : Bs w v b) : Calls Tryd.prog 29 #[v] w (DecR b w) := by
  have hnb := nB_lt b
  have hkb := kB_lt b
  have hfb := fB_lt b
  have hsb := sB_lt b
  have hbl := h.2
  refine Eng.enterD (l := [v]) Tryd.func29 rfl 86 rfl (by simp) ?_
  refine Eng.seqk fun K1 hK1 => ?_
  refine Eng.reg ?_
  refine Eng.al rfl rfl rfl zr35_wh (cs := [(.int .i64 0), (.int .i64 0), (.int .i64 0), (.slice none 0 0)]) rfl ?_
  intro w2 hk2 hb2 hz2
  refine Eng.al rfl rfl rfl zr25_wh (cs := [(.int .i64 0)]) rfl ?_
  intro w3 hk3 hb3 hz3
  refine Eng.nil ?_
  refine hK1 _ _ ?_
  refine Eng.seqk fun K4 hK4 => ?_
  refine Eng.reg ?_
  refine Eng.al rfl rfl rfl zr3_wh (cs := [(.int .i64 0)]) rfl ?_
  intro w5 hk5 hb5 hz5
  refine Eng.stB (v := (.int .i64 0)) rfl rfl rfl sz3_wh rfl hk5 rfl rfl (cs' := [(.int .i64 0)]) rfl rfl (Eng.one_cons rfl Eng.one_nil) ?_
  intro w6 hk6 hg6
  refine Eng.nil ?_
  refine hK4 _ _ ?_
  refine Eng.seqk fun K7 hK7 => ?_
  refine Eng.reg ?_
  refine Eng.sv rfl rfl (Eng.x_mf (cap := [(.pointer (some ⟨w3.heap.size, 0, none⟩)), (.pointer (some ⟨w2.heap.size, 0, none⟩)), (.pointer (some ⟨w.heap.size, 0, none⟩))]) rfl rfl) ?_
  refine Eng.sd rfl rfl (Eng.x_df (cap := #[(.pointer (some ⟨w3.heap.size, 0, none⟩)), (.pointer (some ⟨w2.heap.size, 0, none⟩)), (.pointer (some ⟨w.heap.size, 0, none⟩))]) rfl rfl) ?_
  refine Eng.nil ?_
  refine hK7 _ _ ?_
  refine Eng.seqk fun K8 hK8 => ?_
  refine Eng.reg ?_
  refine Eng.sv rfl rfl (Eng.x_mv (v := v) rfl rfl) ?_
  have hB0_2 : Below w.heap.size w w3 := (hb2).trans (hb3.mono (hb2).size)
  have hB0_3 : Below w.heap.size w w5 := (hB0_2).trans (hb5.mono (hB0_2).size)
  have hB0_4 : Below w.heap.size w w6 := (hB0_3).grown hg6 (hB0_3).size (fun k e => by cases e; exact Nat.le_trans (hB0_2).size (Nat.le_refl _))
  have hr9 := (h).below hB0_4
  refine Eng.sv rfl rfl (Eng.x_len (v := v) (r := (b.length : Int)) rfl Tryd.underlying22 rfl (hr9).1 rfl) ?_
  by_cases h18 : ((b.length : Int) : Int) ≥ 18
  · skip
    refine Eng.sv rfl rfl (Eng.x_ge (r := true) rfl rfl rfl (decide_eq_true (by omega))) ?_
    refine Eng.sv rfl rfl (Eng.x_mv (v := (.bool true)) rfl rfl) ?_
    refine Eng.sv (Eng.gt rfl rfl rfl rfl) rfl (Eng.x_mv (v := v) rfl rfl) ?_
    refine Eng.sv (Eng.gt rfl rfl rfl rfl) rfl (Eng.x_len (v := v) (r := (b.length : Int)) rfl Tryd.underlying22 rfl (hr9).1 rfl) ?_
    refine Eng.sv (Eng.gt rfl rfl rfl rfl) rfl (Eng.x_mv (v := v) rfl rfl) ?_
    refine Eng.sv (Eng.gt rfl rfl rfl rfl) rfl (Eng.x_ia (v := v) (j := 17) rfl Tryd.underlying22 sz5_wh (by decide) rfl rfl (hr9).1 (by rw [Nat.mul_one]; exact bcs_length _) (rfl) (by omega)) ?_
    refine Eng.sv (Eng.gt rfl rfl rfl rfl) rfl (Eng.x_ld1 (v := (.int .u8 (nB b : Int))) rfl ag5_wh rfl (Eng.rd_at (hr9).1 (by omega))) ?_
    refine Eng.sv (Eng.gt rfl rfl rfl rfl) rfl (Eng.x_conv rfl Tryd.underlying5 Tryd.underlying3 rfl (Eng.w64 (r := (nB b : Int)) (by omega))) ?_
    refine Eng.sv (Eng.gt rfl rfl rfl rfl) rfl (Eng.x_mul rfl rfl rfl (Eng.w64 (r := (32 * (nB b : Int))) (by omega))) ?_
    refine Eng.sv (Eng.gt rfl rfl rfl rfl) rfl (Eng.x_add rfl rfl rfl (Eng.w64 (r := (18 + (32 * (nB b : Int)))) (by omega))) ?_
    by_cases h28 : ((b.length : Int) : Int) = (18 + (32 * (nB b : Int)))
    · skip
      refine Eng.sv (Eng.gt rfl rfl rfl rfl) rfl (Eng.x_eq (r := true) rfl rfl rfl (Eng.eq_t (by omega))) ?_
      refine Eng.sv rfl rfl (Eng.x_pick (v := (.bool true)) rfl rfl rfl rfl rfl) ?_
      refine Eng.sc rfl (Eng.xc (vl := [(.bool true), (.int .i64 0)]) rfl rfl rfl en66_wh) (must_ok _ _) ?_
      rintro _ _ ⟨rfl, rfl⟩
      refine Eng.aft_v rfl ?_
      refine Eng.nil ?_
      refine hK8 _ _ ?_
      refine Eng.seqk fun K11 hK11 => ?_
      refine Eng.reg ?_
      refine Eng.sv rfl rfl (Eng.x_mv (v := v) rfl rfl) ?_
      refine Eng.sc rfl (Eng.xc (vl := [v, (.int .i64 1)]) rfl rfl rfl en80_wh) ((g64_calls v b 1 _ hr9 (by omega)).mono fun _ _ => GetR.out) ?_
      rintro _ _ ⟨rfl, rfl⟩
      refine Eng.aft_v rfl ?_
      refine Eng.sv rfl rfl (Eng.x_mv (v := (.tuple #[(.int .u64 (fB b : Int)), (.int .i64 (gn b 1 8)), (.int .i64 (room b.length 1 8))])) rfl rfl) ?_
      refine Eng.sv rfl rfl (Eng.x_ext (v := (.int .u64 (fB b : Int))) rfl rfl rfl) ?_
      refine Eng.sv rfl rfl (Eng.x_ext (v := (.int .i64 (gn b 1 8))) rfl rfl rfl) ?_
      refine Eng.sv rfl rfl (Eng.x_ext (v := (.int .i64 (room b.length 1 8))) rfl rfl rfl) ?_
      refine Eng.sv rfl rfl (Eng.x_as (v := (.int .u64 (fB b : Int))) rfl rfl) ?_
      refine Eng.sv rfl rfl (Eng.x_as (v := (.int .i64 (gn b 1 8))) rfl rfl) ?_
      refine Eng.sv rfl rfl (Eng.x_as (v := (.int .i64 (room b.length 1 8))) rfl rfl) ?_
      refine Eng.nil ?_
      refine hK11 _ _ ?_
      refine Eng.seqk fun K13 hK13 => ?_
      refine Eng.reg ?_
      refine Eng.sv rfl rfl (Eng.x_mv (v := v) rfl rfl) ?_
      refine Eng.sc rfl (Eng.xc (vl := [v, (.int .i64 9)]) rfl rfl rfl en80_wh) ((g64_calls v b 9 _ hr9 (by omega)).mono fun _ _ => GetR.out) ?_
      rintro _ _ ⟨rfl, rfl⟩
      refine Eng.aft_v rfl ?_
      refine Eng.sv rfl rfl (Eng.x_mv (v := (.tuple #[(.int .u64 (sB b : Int)), (.int .i64 (gn b 9 8)), (.int .i64 (room b.length 9 8))])) rfl rfl) ?_
      refine Eng.sv rfl rfl (Eng.x_ext (v := (.int .u64 (sB b : Int))) rfl rfl rfl) ?_
      refine Eng.sv rfl rfl (Eng.x_ext (v := (.int .i64 (gn b 9 8))) rfl rfl rfl) ?_
      refine Eng.sv rfl rfl (Eng.x_ext (v := (.int .i64 (room b.length 9 8))) rfl rfl rfl) ?_
      refine Eng.sv rfl rfl (Eng.x_as (v := (.int .u64 (sB b : Int))) rfl rfl) ?_
      refine Eng.sv rfl rfl (Eng.x_as (v := (.int .i64 (gn b 9 8))) rfl rfl) ?_
      refine Eng.sv rfl rfl (Eng.x_as (v := (.int .i64 (room b.length 9 8))) rfl rfl) ?_
      refine Eng.nil ?_
      refine hK13 _ _ ?_
      refine Eng.seqk fun K15 hK15 => ?_
      refine Eng.reg ?_
      refine Eng.sv rfl rfl (Eng.x_mv (v := (.int .u64 (fB b : Int))) rfl rfl) ?_
      by_cases h44 : ((fB b : Int) : Int) ≤ 281474976710656
      · skip
        refine Eng.sv rfl rfl (Eng.x_le (r := true) rfl rfl rfl (decide_eq_true (by omega))) ?_
        refine Eng.sv rfl rfl (Eng.x_mv (v := (.bool true)) rfl rfl) ?_
        refine Eng.sv (Eng.gt rfl rfl rfl rfl) rfl (Eng.x_mv (v := (.int .u64 (sB b : Int))) rfl rfl) ?_
        by_cases h47 : ((sB b : Int) : Int) ≤ 281474976710656
        · skip
          refine Eng.sv (Eng.gt rfl rfl rfl rfl) rfl (Eng.x_le (r := true) rfl rfl rfl (decide_eq_true (by omega))) ?_
          refine Eng.sv rfl rfl (Eng.x_pick (v := (.bool true)) rfl rfl rfl rfl rfl) ?_
          refine Eng.sc rfl (Eng.xc (vl := [(.bool true), (.int .i64 0)]) rfl rfl rfl en66_wh) (must_ok _ _) ?_
          rintro _ _ ⟨rfl, rfl⟩
          refine Eng.aft_v rfl ?_
          refine Eng.nil ?_
          refine hK15 _ _ ?_
          refine Eng.seqk fun K17 hK17 => ?_
          refine Eng.reg ?_
          refine Eng.sv rfl rfl (Eng.x_mv (v := v) rfl rfl) ?_
          refine Eng.sv rfl rfl (Eng.x_ia (v := v) (j := 0) rfl Tryd.underlying22 sz5_wh (by decide) rfl rfl (hr9).1 (by rw [Nat.mul_one]; exact bcs_length _) (rfl) (by omega)) ?_
          refine Eng.sv rfl rfl (Eng.x_ld1 (v := (.int .u8 (kB b : Int))) rfl ag5_wh rfl (Eng.rd_at (hr9).1 (by omega))) ?_
          refine Eng.sv rfl rfl (Eng.x_conv rfl Tryd.underlying5 Tryd.underlying3 rfl (Eng.w64 (r := (kB b : Int)) (by omega))) ?_
          refine Eng.sv rfl rfl (Eng.x_mv (v := (.int .u64 (fB b : Int))) rfl rfl) ?_
          refine Eng.sv rfl rfl (Eng.x_conv rfl Tryd.underlying101 Tryd.underlying3 rfl (Eng.w64 (r := (fB b : Int)) (by omega))) ?_
          refine Eng.sv rfl rfl (Eng.x_mv (v := (.int .u64 (sB b : Int))) rfl rfl) ?_
          refine Eng.sv rfl rfl (Eng.x_conv rfl Tryd.underlying101 Tryd.underlying3 rfl (Eng.w64 (r := (sB b : Int)) (by omega))) ?_
          refine Eng.sv rfl rfl (Eng.x_build (ps := [(0, (.int .i64 (kB b : Int))), (1, (.int .i64 (fB b : Int))), (2, (.int .i64 (sB b : Int)))]) (v := (.agg #[(.int .i64 (kB b : Int)), (.int .i64 (fB b : Int)), (.int .i64 (sB b : Int)), (.slice none 0 0)])) rfl rfl (by kernel_rfl)) ?_
          have hk18 := (((hk2).below hb3).below hb5).grown hg6 (fun e => absurd (Option.some.inj e) (Nat.ne_of_lt (Nat.lt_of_lt_of_le hz2 (Nat.le_trans (hb3).size (Nat.le_refl _)))))
          refine Eng.stB (v := (.agg #[(.int .i64 (kB b : Int)), (.int .i64 (fB b : Int)), (.int .i64 (sB b : Int)), (.slice none 0 0)])) rfl rfl rfl sz35_wh rfl hk18 rfl rfl (cs' := [(.int .i64 (kB b : Int)), (.int .i64 (fB b : Int)), (.int .i64 (sB b : Int)), (.slice none 0 0)]) rfl rfl (Eng.one_cons rfl (Eng.one_cons rfl (Eng.one_cons rfl (Eng.one_cons rfl Eng.one_nil)))) ?_
          intro w19 hk19 hg19
          refine Eng.nil ?_
          refine hK17 _ _ ?_
          refine Eng.seqk fun K20 hK20 => ?_
          refine Eng.seqk fun K21 hK21 => ?_
          refine Eng.reg ?_
          refine Eng.sv rfl rfl (Eng.x_mv (v := v) rfl rfl) ?_
          have hB0_5 : Below w.heap.size w w19 := (hB0_4).grown hg19 (hB0_4).size (fun k e => by cases e; exact Nat.le_trans (Nat.le_refl _) (Nat.le_refl _))
          have hr22 := (h).below hB0_5
          refine Eng.sv rfl rfl (Eng.x_ia (v := v) (j := 17) rfl Tryd.underlying22 sz5_wh (by decide) rfl rfl (hr22).1 (by rw [Nat.mul_one]; exact bcs_length _) (rfl) (by omega)) ?_
          refine Eng.sv rfl rfl (Eng.x_ld1 (v := (.int .u8 (nB b : Int))) rfl ag5_wh rfl (Eng.rd_at (hr22).1 (by omega))) ?_
          refine Eng.sv rfl rfl (Eng.x_conv rfl Tryd.underlying5 Tryd.underlying3 rfl (Eng.w64 (r := (nB b : Int)) (by omega))) ?_
          refine Eng.sv rfl rfl (Eng.x_mv (v := (.int .i64 0)) rfl rfl) ?_
          refine Eng.nil ?_
          refine hK21 _ _ ?_
          refine Eng.blk ?_
          have hk24 := (((hk3).below hb5).grown hg6 (fun e => absurd (Option.some.inj e) (Nat.ne_of_lt (Nat.lt_of_lt_of_le hz3 (Nat.le_trans (Nat.le_refl _) (Nat.le_refl _)))))).grown hg19 (fun e => absurd (Option.some.inj e) (Nat.ne_of_gt (Nat.lt_of_lt_of_le hz2 (Nat.le_trans (Nat.le_refl _) (Nat.le_refl _)))))
          have hk25 := (hk6).grown hg19 (fun e => absurd (Option.some.inj e) (Nat.ne_of_gt (Nat.lt_of_lt_of_le hz2 (Nat.le_trans (hb3).size (Nat.le_refl _)))))
          refine Eng.loopN (fun zz u w' => ∃ (k : Nat), ∃ (vp : Value), zz = nB b - k ∧ k ≤ nB b ∧ Eng.Has u [(0, v), (2, (.pointer (some ⟨w.heap.size, 0, none⟩))), (3, (.pointer (some ⟨w2.heap.size, 0, none⟩))), (62, (.int .i64 (nB b : Int))), (63, (.int .i64 (k : Int)))] ∧ Below w.heap.size w w' ∧ w19.heap.size ≤ w'.heap.size ∧ Blk w' w.heap.size 35 [(.int .i64 (kB b : Int)), (.int .i64 (fB b : Int)), (.int .i64 (sB b : Int)), vp] ∧ Blk w' w2.heap.size 25 [(.int .i64 0)] ∧ Blk w' w3.heap.size 3 [(.int .i64 0)] ∧ Eng.OwnD w19.heap.size w' vp (dB b k)) _ ⟨0, (.slice none 0 0), rfl, by omega, ⟨rfl, rfl, rfl, rfl, (Eng.ie (by first | omega | rfl)), trivial⟩, hB0_5, (Nat.le_refl _), hk19, hk24, hk25, (Eng.OwnD.nil _ _)⟩ ?_
          rintro _ u23 w23 ⟨k, vp, rfl, hs23_0, hH23, hBL23, hzL23, hkL23_0, hkL23_1, hkL23_2, hrL23_0⟩ K23 hK23
          obtain ⟨u23, rfl⟩ := hH23.ex
          refine Eng.seqk fun K26 hK26 => ?_
          refine Eng.reg ?_
          by_cases h64 : ((k : Int) : Int) < (nB b : Int)
          · skip
            refine Eng.sv rfl rfl (Eng.x_lt (r := true) rfl rfl rfl (decide_eq_true (by omega))) ?_
            refine Eng.nil ?_
            refine hK26 _ _ ?_
            refine Eng.seqk fun K27 hK27 => ?_
            refine Eng.cond_t rfl ?_
            refine Eng.skp ?_
            refine hK27 _ _ ?_
            refine Eng.seqk fun K28 hK28 => ?_
            refine Eng.blk ?_
            refine Eng.seqk fun K29 hK29 => ?_
            refine Eng.reg ?_
            refine Eng.sv rfl rfl (Eng.x_mv (v := (.int .i64 (k : Int))) rfl rfl) ?_
            refine Eng.sv rfl rfl (Eng.x_as (v := (.int .i64 (k : Int))) rfl rfl) ?_
            refine Eng.nil ?_
            refine hK29 _ _ ?_
            refine Eng.seqk fun K30 hK30 => ?_
            refine Eng.reg ?_
            refine Eng.sv rfl rfl (Eng.x_mv (v := v) rfl rfl) ?_
            refine Eng.sv rfl rfl (Eng.x_mv (v := (.int .i64 (k : Int))) rfl rfl) ?_
            refine Eng.sv rfl rfl (Eng.x_mul rfl rfl rfl (Eng.w64 (r := (32 * (k : Int))) (by omega))) ?_
            refine Eng.sv rfl rfl (Eng.x_add rfl rfl rfl (Eng.w64 (r := (18 + (32 * (k : Int)))) (by omega))) ?_
            have hr31 := (h).below hBL23
            refine Eng.sc rfl (Eng.xc (vl := [v, (.int .i64 (18 + (32 * (k : Int))))]) rfl rfl rfl en81_wh) ((gdig_calls v b (18 + 32 * (k : Int)) _ hr31 (by omega)).mono fun _ _ => GetD.out) ?_
            rintro _ w32 ⟨rfl, hb32⟩
            refine Eng.aft_v rfl ?_
            refine Eng.sv rfl rfl (Eng.x_mv (v := (.tuple #[(dg (gd b (18 + 32 * (k : Int)))), (.int .i64 (gn b (18 + 32 * (k : Int)) 32)), (.int .i64 (room b.length (18 + 32 * (k : Int)) 32))])) rfl rfl) ?_
            refine Eng.sv rfl rfl (Eng.x_ext (v := (dg (gd b (18 + 32 * (k : Int))))) rfl rfl rfl) ?_
            refine Eng.sv rfl rfl (Eng.x_ext (v := (.int .i64 (gn b (18 + 32 * (k : Int)) 32))) rfl rfl rfl) ?_
            refine Eng.sv rfl rfl (Eng.x_ext (v := (.int .i64 (room b.length (18 + 32 * (k : Int)) 32))) rfl rfl rfl) ?_
            refine Eng.al rfl rfl rfl zr24_wh (cs := (bcs Oct.dz)) rfl ?_
            intro w33 hk33 hb33 hz33
            refine Eng.stB (v := (dg (gd b (18 + 32 * (k : Int))))) rfl rfl rfl sz24_wh rfl hk33 rfl rfl (cs' := (bcs (gd b (18 + 32 * (k : Int))))) rfl ((bcs_length _).trans (gd_length _ _)) (bcs_one _) ?_
            intro w34 hk34 hg34
            refine Eng.sv rfl rfl (Eng.x_as (v := (.int .i64 (gn b (18 + 32 * (k : Int)) 32))) rfl rfl) ?_
            refine Eng.sv rfl rfl (Eng.x_as (v := (.int .i64 (room b.length (18 + 32 * (k : Int)) 32))) rfl rfl) ?_
            refine Eng.nil ?_
            refine hK30 _ _ ?_
            refine Eng.reg ?_
            refine Eng.sv rfl rfl (Eng.x_fa (v := (.pointer (some ⟨w.heap.size, 3, none⟩))) rfl rfl (by kernel_rfl)) ?_
            have hB1_3 : Below w2.heap.size w2 w5 := (hb3).trans (hb5.mono (hb3).size)
            have hB1_4 : Below w2.heap.size w2 w6 := (hB1_3).grown hg6 (hB1_3).size (fun k e => by cases e; exact Nat.le_trans (hb3).size (Nat.le_refl _))
            have hk35 := (((hkL23_0).below hb32).below hb33).grown hg34 (fun e => absurd (Option.some.inj e) (Nat.ne_of_lt (Nat.lt_of_lt_of_le hz2 (Nat.le_trans (Nat.le_trans (Nat.le_trans (Nat.le_trans (hB1_4).size (hg19).size) hzL23) (hb32).size) (Nat.le_refl _)))))
            refine Eng.sv rfl rfl (Eng.x_ld1 (v := vp) rfl ag29_wh rfl ((hk35).cell 3)) ?_
            refine Eng.sv rfl rfl (Eng.x_ldB (v := (dg (gd b (18 + 32 * (k : Int))))) rfl ag24_wh sz24_wh rfl hk34 ((bcs_length _).trans (gd_length _ _)) rfl) ?_
            refine Eng.bs (vs := [(dg (gd b (18 + 32 * (k : Int))))]) (cs := (Dsl.dcs [(gd b (18 + 32 * (k : Int)))])) rfl rfl rfl Tryd.underlying29 in24_wh (dg_size dz_length) (by decide) rfl rfl (by decide) (by decide) (Eng.all_cons (p := fun v => v.cells.size = 32) (Eng.dg_cells (gd_length _ _)) Eng.all_nil) (by simp [Dsl.dcs, Value.cells]) ?_
            intro w36 hk36 hb36 hz36
            have hr38 := ((((hrL23_0).below hb32).below hb33).kept hg34 (.inr (fun e => absurd ((World.ownsRow.lt (hrL23_0).1) _ e).2 (Nat.not_lt_of_le (Nat.le_trans (hb32).size (Nat.le_refl _)))))).below hb36
            refine Eng.apD rfl rfl rfl rfl hr38 rfl (Eng.ds_lit hk36 (Eng.all32_one (gd_length _ _)) (Nat.le_of_ble_eq_true rfl)) (by simp only [dB_length, List.length_singleton]; omega) (Nat.le_trans (Nat.le_trans (Nat.le_trans (Nat.le_trans hzL23 (hb32).size) (hb33).size) (hg34).size) (hb36).size) ?_
            intro v37 w37 ho37 hg37
            rw [← dB_succ] at ho37
            refine Eng.sv rfl rfl (Eng.x_fa (v := (.pointer (some ⟨w.heap.size, 3, none⟩))) rfl rfl (by kernel_rfl)) ?_
            have hk39 := ((hk35).below hb36).grown hg37 (fun e => absurd ((World.ownsRow.lt (hrL23_0).1) _ e.symm).1 (Nat.not_le_of_lt (Nat.lt_of_lt_of_le hz2 (Nat.le_trans (hB1_4).size (hg19).size))))
            refine Eng.stC (v := v37) rfl rfl rfl sz29_wh rfl hk39 (Nat.le_of_ble_eq_true rfl) rfl (Eng.Row.one (ho37).row) (Eng.Row.cells1 (ho37).row) (cs' := [(.int .i64 (kB b : Int)), (.int .i64 (fB b : Int)), (.int .i64 (sB b : Int)), v37]) rfl ?_
            intro w40 hk40 hg40
            refine Eng.nil ?_
            refine Eng.nb ?_
            refine hK28 _ _ ?_
            refine Eng.reg ?_
            refine Eng.sv rfl rfl (Eng.x_add rfl rfl rfl (Eng.w64 (r := ((k : Int) + 1)) (by omega))) ?_
            refine Eng.sv rfl rfl (Eng.x_mv (v := (.int .i64 ((k : Int) + 1))) rfl rfl) ?_
            refine Eng.nil ?_
            have hr41 := (ho37).kept hg40 (.inr (fun e => absurd ((World.ownsRow.lt (ho37).1) _ e).1 (Nat.not_le_of_lt (Nat.lt_of_lt_of_le hz2 (Nat.le_trans (hB1_4).size (hg19).size)))))
            have hB0_7 : Below w.heap.size w w32 := (hBL23).trans (hb32.mono (hBL23).size)
            have hB0_8 : Below w.heap.size w w33 := (hB0_7).trans (hb33.mono (hB0_7).size)
            have hB0_9 : Below w.heap.size w w34 := (hB0_8).grown hg34 (hB0_8).size (fun k e => by cases e; exact Nat.le_trans (hB0_7).size (Nat.le_refl _))
            have hB0_10 : Below w.heap.size w w36 := (hB0_9).trans (hb36.mono (hB0_9).size)
            have hB0_11 : Below w.heap.size w w37 := (hB0_10).grown hg37 (hB0_10).size (fun k e => Nat.le_trans (hB0_5).size ((World.ownsRow.lt (hrL23_0).1) _ e).1)
            have hB0_12 : Below w.heap.size w w40 := (hB0_11).grown hg40 (hB0_11).size (fun k e => by cases e; exact Nat.le_trans (Nat.le_refl _) (Nat.le_refl _))
            have hB2_4 : Below w3.heap.size w3 w6 := (hb5).grown hg6 (hb5).size (fun k e => by cases e; exact Nat.le_trans (Nat.le_refl _) (Nat.le_refl _))
            have hk42 := ((((((hkL23_1).below hb32).below hb33).grown hg34 (fun e => absurd (Option.some.inj e) (Nat.ne_of_lt (Nat.lt_of_lt_of_le hz3 (Nat.le_trans (Nat.le_trans (Nat.le_trans (Nat.le_trans (hB2_4).size (hg19).size) hzL23) (hb32).size) (Nat.le_refl _)))))).below hb36).grown hg37 (fun e => absurd ((World.ownsRow.lt (hrL23_0).1) _ e.symm).1 (Nat.not_le_of_lt (Nat.lt_of_lt_of_le hz3 (Nat.le_trans (hB2_4).size (hg19).size))))).grown hg40 (fun e => absurd (Option.some.inj e) (Nat.ne_of_gt (Nat.lt_of_lt_of_le hz2 (Nat.le_trans (Nat.le_refl _) (Nat.le_refl _)))))
            have hk43 := ((((((hkL23_2).below hb32).below hb33).grown hg34 (fun e => absurd (Option.some.inj e) (Nat.ne_of_lt (Nat.lt_of_lt_of_le hz5 (Nat.le_trans (Nat.le_trans (Nat.le_trans (Nat.le_trans (hg6).size (hg19).size) hzL23) (hb32).size) (Nat.le_refl _)))))).below hb36).grown hg37 (fun e => absurd ((World.ownsRow.lt (hrL23_0).1) _ e.symm).1 (Nat.not_le_of_lt (Nat.lt_of_lt_of_le hz5 (Nat.le_trans (hg6).size (hg19).size))))).grown hg40 (fun e => absurd (Option.some.inj e) (Nat.ne_of_gt (Nat.lt_of_lt_of_le hz2 (Nat.le_trans (hb3).size (Nat.le_refl _)))))
            exact hK23 _ _ _ ⟨k + 1, v37, rfl, by omega, ⟨rfl, rfl, rfl, rfl, (Eng.ie (by first | omega | rfl)), trivial⟩, hB0_12, (Nat.le_trans (Nat.le_trans (Nat.le_trans (Nat.le_trans (Nat.le_trans (Nat.le_trans hzL23 (hb32).size) (hb33).size) (hg34).size) (hb36).size) (hg37).size) (hg40).size), hk40, hk42, hk43, hr41⟩ (by omega)
          · skip
            refine Eng.sv rfl rfl (Eng.x_lt (r := false) rfl rfl rfl (decide_eq_false (by omega))) ?_
            refine Eng.nil ?_
            refine hK26 _ _ ?_
            refine Eng.seqk fun K44 hK44 => ?_
            refine Eng.cond_f rfl ?_
            refine Eng.xt ?_
            refine Eng.te ?_
            refine Eng.te ?_
            refine Eng.be ?_
            refine hK20 _ _ ?_
            refine Eng.seqk fun K45 hK45 => ?_
            refine Eng.reg ?_
            refine Eng.sv rfl rfl (Eng.x_ldB (v := (.agg #[(.int .i64 (kB b : Int)), (.int .i64 (fB b : Int)), (.int .i64 (sB b : Int)), vp])) rfl ag35_wh sz35_wh rfl hkL23_0 rfl rfl) ?_
            refine Eng.sc rfl (Eng.xc (vl := [(.agg #[(.int .i64 (kB b : Int)), (.int .i64 (fB b : Int)), (.int .i64 (sB b : Int)), vp])]) rfl rfl rfl en28_wh) (valid_row _ _ _ vp (dB b k) _ (hrL23_0).ds) ?_
            rintro _ w46 ⟨rfl, hb46⟩
            refine Eng.aft_v rfl ?_
            rcases Eng.tf (valB (kB b) (fB b) (sB b) (dB b k).length) with hval | hval
            · skip
              rw [hval]
              refine Eng.sc rfl (Eng.xc (vl := [(.bool true), (.int .i64 0)]) rfl rfl rfl en66_wh) (must_ok _ _) ?_
              rintro _ _ ⟨rfl, rfl⟩
              refine Eng.aft_v rfl ?_
              refine Eng.nil ?_
              refine hK45 _ _ ?_
              refine Eng.seqk fun K48 hK48 => ?_
              refine Eng.reg ?_
              have hk49 := (hkL23_0).below hb46
              refine Eng.sv rfl rfl (Eng.x_ldB (v := (.agg #[(.int .i64 (kB b : Int)), (.int .i64 (fB b : Int)), (.int .i64 (sB b : Int)), vp])) rfl ag35_wh sz35_wh rfl hk49 rfl rfl) ?_
              have hr51 := (hrL23_0).below hb46
              refine Eng.stB (v := (.agg #[(.int .i64 (kB b : Int)), (.int .i64 (fB b : Int)), (.int .i64 (sB b : Int)), vp])) rfl rfl rfl sz35_wh rfl hk49 rfl rfl (cs' := [(.int .i64 (kB b : Int)), (.int .i64 (fB b : Int)), (.int .i64 (sB b : Int)), vp]) rfl rfl (Eng.one_cons rfl (Eng.one_cons rfl (Eng.one_cons rfl (Eng.one_cons (Eng.Row.one (hr51).row) Eng.one_nil)))) ?_
              intro w50 hk50 hg50
              have hk52 := ((hkL23_1).below hb46).grown hg50 (fun e => absurd (Option.some.inj e) (Nat.ne_of_gt (Nat.lt_of_lt_of_le hz2 (Nat.le_trans (Nat.le_refl _) (Nat.le_refl _)))))
              refine Eng.stB (v := (.int .i64 0)) rfl rfl rfl sz25_wh rfl hk52 rfl rfl (cs' := [(.int .i64 0)]) rfl rfl (Eng.one_cons rfl Eng.one_nil) ?_
              intro w53 hk53 hg53
              refine Eng.nil ?_
              refine hK48 _ _ ?_
              refine Eng.rt ?_
              have hk54 := (((hkL23_2).below hb46).grown hg50 (fun e => absurd (Option.some.inj e) (Nat.ne_of_gt (Nat.lt_of_lt_of_le hz2 (Nat.le_trans (hb3).size (Nat.le_refl _)))))).grown hg53 (fun e => absurd (Option.some.inj e) (Nat.ne_of_gt (Nat.lt_of_lt_of_le hz3 (Nat.le_trans (Nat.le_refl _) (Nat.le_refl _)))))
              have hk55 := (hk50).grown hg53 (fun e => absurd (Option.some.inj e) (Nat.ne_of_lt (Nat.lt_of_lt_of_le hz2 (Nat.le_trans (Nat.le_refl _) (Nat.le_refl _)))))
              refine Eng.leaveR (cap := [(.pointer (some ⟨w3.heap.size, 0, none⟩)), (.pointer (some ⟨w2.heap.size, 0, none⟩)), (.pointer (some ⟨w.heap.size, 0, none⟩))]) en79_wh (dclo_ret _ _ _ _) ?_
              rintro _ rfl
              have hB0_7 : Below w.heap.size w w46 := (hBL23).trans (hb46.mono (hBL23).size)
              have hB0_8 : Below w.heap.size w w50 := (hB0_7).grown hg50 (hB0_7).size (fun k e => by cases e; exact Nat.le_trans (Nat.le_refl _) (Nat.le_refl _))
              have hB0_9 : Below w.heap.size w w53 := (hB0_8).grown hg53 (hB0_8).size (fun k e => by cases e; exact Nat.le_trans (hb2).size (Nat.le_refl _))
              have hB1_3 : Below w2.heap.size w2 w5 := (hb3).trans (hb5.mono (hb3).size)
              have hB1_4 : Below w2.heap.size w2 w6 := (hB1_3).grown hg6 (hB1_3).size (fun k e => by cases e; exact Nat.le_trans (hb3).size (Nat.le_refl _))
              have hB2_4 : Below w3.heap.size w3 w6 := (hb5).grown hg6 (hb5).size (fun k e => by cases e; exact Nat.le_trans (Nat.le_refl _) (Nat.le_refl _))
              have hr57 := ((hr51).kept hg50 (.inr (fun e => absurd ((World.ownsRow.lt (hrL23_0).1) _ e).1 (Nat.not_le_of_lt (Nat.lt_of_lt_of_le hz2 (Nat.le_trans (hB1_4).size (hg19).size)))))).kept hg53 (.inr (fun e => absurd ((World.ownsRow.lt (hrL23_0).1) _ e).1 (Nat.not_le_of_lt (Nat.lt_of_lt_of_le hz3 (Nat.le_trans (hB2_4).size (hg19).size)))))
              have hkn : k = nB b := by omega
              have hok := okB_v (by omega) (by omega) (by omega : fB b ≤ 281474976710656) (by omega)
              rw [dB_length, hkn] at hval
              rw [hkn] at hr57
              exact ⟨_, Eng.res2 rfl (Eng.rdc rfl (Eng.lvB ag35_wh sz35_wh hk55 rfl rfl)) (Eng.rdc rfl (Eng.lv1 ag25_wh ((hk53).cell 0))), by unfold DecR; exact ⟨hB0_9, .inl ⟨hok.trans hval, _, rfl, (hr57).mono (hB0_5).size⟩⟩⟩
            · skip
              rw [hval]
              refine Eng.sc rfl (Eng.xc (vl := [(.bool false), (.int .i64 0)]) rfl rfl rfl en66_wh) (must_no _ _) ?_
              rintro _ _ ⟨rfl, rfl⟩
              refine Eng.aft_p ?_
              refine Eng.tp ?_
              have hk58 := (hkL23_2).below hb46
              have hk59 := (hkL23_1).below hb46
              have hk60 := (hkL23_0).below hb46
              refine Eng.leaveP (cap := [(.pointer (some ⟨w3.heap.size, 0, none⟩)), (.pointer (some ⟨w2.heap.size, 0, none⟩)), (.pointer (some ⟨w.heap.size, 0, none⟩))]) en79_wh (dclo_flt 0 _ _ _ _ _ _ rfl [] _ hk58 hk59 hk60 (Nat.ne_of_gt (Nat.lt_of_lt_of_le hz3 (Nat.le_trans (Nat.le_refl _) (Nat.le_refl _)))) (Nat.ne_of_lt (Nat.lt_of_lt_of_le hz2 (Nat.le_trans (hb3).size (Nat.le_refl _)))) (Nat.ne_of_lt (Nat.lt_of_lt_of_le hz2 (Nat.le_trans (Nat.le_refl _) (Nat.le_refl _))))) ?_
              rintro z613 ⟨z612, ⟨z610, z611, z61a, z61b, z61c, z61d, z61e⟩, z61f, z61g⟩
              have hk62 := (z61e).grown z61f (fun e => absurd (Option.some.inj e) (Nat.ne_of_gt (Nat.lt_of_lt_of_le hz2 (Nat.le_trans (Nat.le_refl _) (Nat.le_refl _)))))
              have hB0_7 : Below w.heap.size w w46 := (hBL23).trans (hb46.mono (hBL23).size)
              have hB0_8 : Below w.heap.size w z610 := (hB0_7).trans (z61a.mono (hB0_7).size)
              have hB0_9 : Below w.heap.size w z611 := (hB0_8).grown z61b (hB0_8).size (fun k e => by cases e; exact Nat.le_trans (hB0_2).size (Nat.le_refl _))
              have hB0_10 : Below w.heap.size w z612 := (hB0_9).grown z61c (hB0_9).size (fun k e => by cases e; exact Nat.le_trans (hb2).size (Nat.le_refl _))
              have hB0_11 : Below w.heap.size w z613 := (hB0_10).grown z61f (hB0_10).size (fun k e => by cases e; exact Nat.le_trans (Nat.le_refl _) (Nat.le_refl _))
              exact ⟨_, Eng.res2 rfl (Eng.rdc rfl (Eng.lvB ag35_wh sz35_wh z61g rfl rfl)) (Eng.rdc rfl (Eng.lv1 ag25_wh ((hk62).cell 0))), by unfold DecR; exact ⟨hB0_11, .inr ⟨(okB_v (by omega) (by omega) (by omega : fB b ≤ 281474976710656) (by omega)).trans (by rw [dB_length] at hval; rw [← hval]; congr 1; omega), rfl⟩⟩⟩
        · skip
          refine Eng.sv (Eng.gt rfl rfl rfl rfl) rfl (Eng.x_le (r := false) rfl rfl rfl (decide_eq_false (by omega))) ?_
          refine Eng.sv rfl rfl (Eng.x_pick (v := (.bool false)) rfl rfl rfl rfl rfl) ?_
          refine Eng.sc rfl (Eng.xc (vl := [(.bool false), (.int .i64 0)]) rfl rfl rfl en66_wh) (must_no _ _) ?_
          rintro _ _ ⟨rfl, rfl⟩
          refine Eng.aft_p ?_
          refine Eng.tp ?_
          have hk63 := ((hk3).below hb5).grown hg6 (fun e => absurd (Option.some.inj e) (Nat.ne_of_lt (Nat.lt_of_lt_of_le hz3 (Nat.le_trans (Nat.le_refl _) (Nat.le_refl _)))))
          have hk64 := (((hk2).below hb3).below hb5).grown hg6 (fun e => absurd (Option.some.inj e) (Nat.ne_of_lt (Nat.lt_of_lt_of_le hz2 (Nat.le_trans (hb3).size (Nat.le_refl _)))))
          refine Eng.leaveP (cap := [(.pointer (some ⟨w3.heap.size, 0, none⟩)), (.pointer (some ⟨w2.heap.size, 0, none⟩)), (.pointer (some ⟨w.heap.size, 0, none⟩))]) en79_wh (dclo_flt 0 _ _ _ _ _ _ rfl [] _ hk6 hk63 hk64 (Nat.ne_of_gt (Nat.lt_of_lt_of_le hz3 (Nat.le_trans (Nat.le_refl _) (Nat.le_refl _)))) (Nat.ne_of_lt (Nat.lt_of_lt_of_le hz2 (Nat.le_trans (hb3).size (Nat.le_refl _)))) (Nat.ne_of_lt (Nat.lt_of_lt_of_le hz2 (Nat.le_trans (Nat.le_refl _) (Nat.le_refl _))))) ?_
          rintro z653 ⟨z652, ⟨z650, z651, z65a, z65b, z65c, z65d, z65e⟩, z65f, z65g⟩
          have hk66 := (z65e).grown z65f (fun e => absurd (Option.some.inj e) (Nat.ne_of_gt (Nat.lt_of_lt_of_le hz2 (Nat.le_trans (Nat.le_refl _) (Nat.le_refl _)))))
          have hB0_5 : Below w.heap.size w z650 := (hB0_4).trans (z65a.mono (hB0_4).size)
          have hB0_6 : Below w.heap.size w z651 := (hB0_5).grown z65b (hB0_5).size (fun k e => by cases e; exact Nat.le_trans (hB0_2).size (Nat.le_refl _))
          have hB0_7 : Below w.heap.size w z652 := (hB0_6).grown z65c (hB0_6).size (fun k e => by cases e; exact Nat.le_trans (hb2).size (Nat.le_refl _))
          have hB0_8 : Below w.heap.size w z653 := (hB0_7).grown z65f (hB0_7).size (fun k e => by cases e; exact Nat.le_trans (Nat.le_refl _) (Nat.le_refl _))
          exact ⟨_, Eng.res2 rfl (Eng.rdc rfl (Eng.lvB ag35_wh sz35_wh z65g rfl rfl)) (Eng.rdc rfl (Eng.lv1 ag25_wh ((hk66).cell 0))), by unfold DecR; exact ⟨hB0_8, .inr ⟨okB_f4 (by omega), rfl⟩⟩⟩
      · skip
        refine Eng.sv rfl rfl (Eng.x_le (r := false) rfl rfl rfl (decide_eq_false (by omega))) ?_
        refine Eng.sv rfl rfl (Eng.x_mv (v := (.bool false)) rfl rfl) ?_
        refine Eng.sg (Eng.gf rfl rfl rfl rfl) rfl ?_
        refine Eng.sg (Eng.gf rfl rfl rfl rfl) rfl ?_
        refine Eng.sv rfl rfl (Eng.x_pick (v := (.bool false)) rfl rfl rfl rfl rfl) ?_
        refine Eng.sc rfl (Eng.xc (vl := [(.bool false), (.int .i64 0)]) rfl rfl rfl en66_wh) (must_no _ _) ?_
        rintro _ _ ⟨rfl, rfl⟩
        refine Eng.aft_p ?_
        refine Eng.tp ?_
        have hk67 := ((hk3).below hb5).grown hg6 (fun e => absurd (Option.some.inj e) (Nat.ne_of_lt (Nat.lt_of_lt_of_le hz3 (Nat.le_trans (Nat.le_refl _) (Nat.le_refl _)))))
        have hk68 := (((hk2).below hb3).below hb5).grown hg6 (fun e => absurd (Option.some.inj e) (Nat.ne_of_lt (Nat.lt_of_lt_of_le hz2 (Nat.le_trans (hb3).size (Nat.le_refl _)))))
        refine Eng.leaveP (cap := [(.pointer (some ⟨w3.heap.size, 0, none⟩)), (.pointer (some ⟨w2.heap.size, 0, none⟩)), (.pointer (some ⟨w.heap.size, 0, none⟩))]) en79_wh (dclo_flt 0 _ _ _ _ _ _ rfl [] _ hk6 hk67 hk68 (Nat.ne_of_gt (Nat.lt_of_lt_of_le hz3 (Nat.le_trans (Nat.le_refl _) (Nat.le_refl _)))) (Nat.ne_of_lt (Nat.lt_of_lt_of_le hz2 (Nat.le_trans (hb3).size (Nat.le_refl _)))) (Nat.ne_of_lt (Nat.lt_of_lt_of_le hz2 (Nat.le_trans (Nat.le_refl _) (Nat.le_refl _))))) ?_
        rintro z693 ⟨z692, ⟨z690, z691, z69a, z69b, z69c, z69d, z69e⟩, z69f, z69g⟩
        have hk70 := (z69e).grown z69f (fun e => absurd (Option.some.inj e) (Nat.ne_of_gt (Nat.lt_of_lt_of_le hz2 (Nat.le_trans (Nat.le_refl _) (Nat.le_refl _)))))
        have hB0_5 : Below w.heap.size w z690 := (hB0_4).trans (z69a.mono (hB0_4).size)
        have hB0_6 : Below w.heap.size w z691 := (hB0_5).grown z69b (hB0_5).size (fun k e => by cases e; exact Nat.le_trans (hB0_2).size (Nat.le_refl _))
        have hB0_7 : Below w.heap.size w z692 := (hB0_6).grown z69c (hB0_6).size (fun k e => by cases e; exact Nat.le_trans (hb2).size (Nat.le_refl _))
        have hB0_8 : Below w.heap.size w z693 := (hB0_7).grown z69f (hB0_7).size (fun k e => by cases e; exact Nat.le_trans (Nat.le_refl _) (Nat.le_refl _))
        exact ⟨_, Eng.res2 rfl (Eng.rdc rfl (Eng.lvB ag35_wh sz35_wh z69g rfl rfl)) (Eng.rdc rfl (Eng.lv1 ag25_wh ((hk70).cell 0))), by unfold DecR; exact ⟨hB0_8, .inr ⟨okB_f3 (by omega), rfl⟩⟩⟩
    · skip
      refine Eng.sv (Eng.gt rfl rfl rfl rfl) rfl (Eng.x_eq (r := false) rfl rfl rfl (Eng.eq_f (by omega))) ?_
      refine Eng.sv rfl rfl (Eng.x_pick (v := (.bool false)) rfl rfl rfl rfl rfl) ?_
      refine Eng.sc rfl (Eng.xc (vl := [(.bool false), (.int .i64 0)]) rfl rfl rfl en66_wh) (must_no _ _) ?_
      rintro _ _ ⟨rfl, rfl⟩
      refine Eng.aft_p ?_
      refine Eng.tp ?_
      have hk71 := ((hk3).below hb5).grown hg6 (fun e => absurd (Option.some.inj e) (Nat.ne_of_lt (Nat.lt_of_lt_of_le hz3 (Nat.le_trans (Nat.le_refl _) (Nat.le_refl _)))))
      have hk72 := (((hk2).below hb3).below hb5).grown hg6 (fun e => absurd (Option.some.inj e) (Nat.ne_of_lt (Nat.lt_of_lt_of_le hz2 (Nat.le_trans (hb3).size (Nat.le_refl _)))))
      refine Eng.leaveP (cap := [(.pointer (some ⟨w3.heap.size, 0, none⟩)), (.pointer (some ⟨w2.heap.size, 0, none⟩)), (.pointer (some ⟨w.heap.size, 0, none⟩))]) en79_wh (dclo_flt 0 _ _ _ _ _ _ rfl [] _ hk6 hk71 hk72 (Nat.ne_of_gt (Nat.lt_of_lt_of_le hz3 (Nat.le_trans (Nat.le_refl _) (Nat.le_refl _)))) (Nat.ne_of_lt (Nat.lt_of_lt_of_le hz2 (Nat.le_trans (hb3).size (Nat.le_refl _)))) (Nat.ne_of_lt (Nat.lt_of_lt_of_le hz2 (Nat.le_trans (Nat.le_refl _) (Nat.le_refl _))))) ?_
      rintro z733 ⟨z732, ⟨z730, z731, z73a, z73b, z73c, z73d, z73e⟩, z73f, z73g⟩
      have hk74 := (z73e).grown z73f (fun e => absurd (Option.some.inj e) (Nat.ne_of_gt (Nat.lt_of_lt_of_le hz2 (Nat.le_trans (Nat.le_refl _) (Nat.le_refl _)))))
      have hB0_5 : Below w.heap.size w z730 := (hB0_4).trans (z73a.mono (hB0_4).size)
      have hB0_6 : Below w.heap.size w z731 := (hB0_5).grown z73b (hB0_5).size (fun k e => by cases e; exact Nat.le_trans (hB0_2).size (Nat.le_refl _))
      have hB0_7 : Below w.heap.size w z732 := (hB0_6).grown z73c (hB0_6).size (fun k e => by cases e; exact Nat.le_trans (hb2).size (Nat.le_refl _))
      have hB0_8 : Below w.heap.size w z733 := (hB0_7).grown z73f (hB0_7).size (fun k e => by cases e; exact Nat.le_trans (Nat.le_refl _) (Nat.le_refl _))
      exact ⟨_, Eng.res2 rfl (Eng.rdc rfl (Eng.lvB ag35_wh sz35_wh z73g rfl rfl)) (Eng.rdc rfl (Eng.lv1 ag25_wh ((hk74).cell 0))), by unfold DecR; exact ⟨hB0_8, .inr ⟨okB_f2 (by omega), rfl⟩⟩⟩
  · skip
    refine Eng.sv rfl rfl (Eng.x_ge (r := false) rfl rfl rfl (decide_eq_false (by omega))) ?_
    refine Eng.sv rfl rfl (Eng.x_mv (v := (.bool false)) rfl rfl) ?_
    refine Eng.sg (Eng.gf rfl rfl rfl rfl) rfl ?_
    refine Eng.sg (Eng.gf rfl rfl rfl rfl) rfl ?_
    refine Eng.sg (Eng.gf rfl rfl rfl rfl) rfl ?_
    refine Eng.sg (Eng.gf rfl rfl rfl rfl) rfl ?_
    refine Eng.sg (Eng.gf rfl rfl rfl rfl) rfl ?_
    refine Eng.sg (Eng.gf rfl rfl rfl rfl) rfl ?_
    refine Eng.sg (Eng.gf rfl rfl rfl rfl) rfl ?_
    refine Eng.sg (Eng.gf rfl rfl rfl rfl) rfl ?_
    refine Eng.sg (Eng.gf rfl rfl rfl rfl) rfl ?_
    refine Eng.sv rfl rfl (Eng.x_pick (v := (.bool false)) rfl rfl rfl rfl rfl) ?_
    refine Eng.sc rfl (Eng.xc (vl := [(.bool false), (.int .i64 0)]) rfl rfl rfl en66_wh) (must_no _ _) ?_
    rintro _ _ ⟨rfl, rfl⟩
    refine Eng.aft_p ?_
    refine Eng.tp ?_
    have hk75 := ((hk3).below hb5).grown hg6 (fun e => absurd (Option.some.inj e) (Nat.ne_of_lt (Nat.lt_of_lt_of_le hz3 (Nat.le_trans (Nat.le_refl _) (Nat.le_refl _)))))
    have hk76 := (((hk2).below hb3).below hb5).grown hg6 (fun e => absurd (Option.some.inj e) (Nat.ne_of_lt (Nat.lt_of_lt_of_le hz2 (Nat.le_trans (hb3).size (Nat.le_refl _)))))
    refine Eng.leaveP (cap := [(.pointer (some ⟨w3.heap.size, 0, none⟩)), (.pointer (some ⟨w2.heap.size, 0, none⟩)), (.pointer (some ⟨w.heap.size, 0, none⟩))]) en79_wh (dclo_flt 0 _ _ _ _ _ _ rfl [] _ hk6 hk75 hk76 (Nat.ne_of_gt (Nat.lt_of_lt_of_le hz3 (Nat.le_trans (Nat.le_refl _) (Nat.le_refl _)))) (Nat.ne_of_lt (Nat.lt_of_lt_of_le hz2 (Nat.le_trans (hb3).size (Nat.le_refl _)))) (Nat.ne_of_lt (Nat.lt_of_lt_of_le hz2 (Nat.le_trans (Nat.le_refl _) (Nat.le_refl _))))) ?_
    rintro z773 ⟨z772, ⟨z770, z771, z77a, z77b, z77c, z77d, z77e⟩, z77f, z77g⟩
    have hk78 := (z77e).grown z77f (fun e => absurd (Option.some.inj e) (Nat.ne_of_gt (Nat.lt_of_lt_of_le hz2 (Nat.le_trans (Nat.le_refl _) (Nat.le_refl _)))))
    have hB0_5 : Below w.heap.size w z770 := (hB0_4).trans (z77a.mono (hB0_4).size)
    have hB0_6 : Below w.heap.size w z771 := (hB0_5).grown z77b (hB0_5).size (fun k e => by cases e; exact Nat.le_trans (hB0_2).size (Nat.le_refl _))
    have hB0_7 : Below w.heap.size w z772 := (hB0_6).grown z77c (hB0_6).size (fun k e => by cases e; exact Nat.le_trans (hb2).size (Nat.le_refl _))
    have hB0_8 : Below w.heap.size w z773 := (hB0_7).grown z77f (hB0_7).size (fun k e => by cases e; exact Nat.le_trans (Nat.le_refl _) (Nat.le_refl _))
    exact ⟨_, Eng.res2 rfl (Eng.rdc rfl (Eng.lvB ag35_wh sz35_wh z77g rfl rfl)) (Eng.rdc rfl (Eng.lv1 ag25_wh ((hk78).cell 0))), by unfold DecR; exact ⟨hB0_8, .inr ⟨okB_f1 (by omega), rfl⟩⟩⟩
end Go.Proofs.YtojenflknjhmkaaDoor.Wir
