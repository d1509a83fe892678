/- The law WireDecodes. -/
import Derived.Test.YtojenflknjhmkaaWirH
import Derived.Test.YtojenflknjhmkaaSam
namespace Go.Proofs.Ytojenflknjhmkaa.Wir
open Go Go.RowKit Go.Proofs.Ytojenflknjhmkaa Go.Proofs.Ytojenflknjhmkaa.Cop Go.Proofs.Ytojenflknjhmkaa.Ver Go.Proofs.Ytojenflknjhmkaa.Oct Go.Proofs.Ytojenflknjhmkaa.Dsl
set_option linter.unusedVariables false
set_option linter.unusedSimpArgs false
theorem sz5_wm : (Try.prog.info? 5).map (fun i => i.size) = some 1 := by kernel_rfl
theorem in5_wm : (Try.prog.info? 5).map (fun i => (i.zero, i.size, i.bytes)) = some (some (.int .u8 0), 1, 1) := by kernel_rfl
theorem en4_wm : Eng.Entr Try.prog 4 := ⟨_, Try.func4, by kernel_rfl, by kernel_rfl⟩
theorem zr25_wm (w : World) : (zeroValue 25).run Try.prog w = .ok (.agg #[(.int .i64 0), (.int .i64 0), (.int .i64 0), (.slice none 0 0)]) w := by kernel_rfl
theorem sz25_wm : (Try.prog.info? 25).map (fun i => i.size) = some 4 := by kernel_rfl
theorem en5_wm : Eng.Entr Try.prog 5 := ⟨_, Try.func5, by kernel_rfl, by kernel_rfl⟩
theorem ag25_wm (w : World) : (isAgg 25).run Try.prog w = .ok true w := by kernel_rfl
theorem en6_wm : Eng.Entr Try.prog 6 := ⟨_, Try.func6, by kernel_rfl, by kernel_rfl⟩
theorem ag23_wm (w : World) : (isAgg 23).run Try.prog w = .ok false w := by kernel_rfl
theorem sz33_wm : (Try.prog.info? 33).map (fun i => i.size) = some 32 := by kernel_rfl
theorem en7_wm : Eng.Entr Try.prog 7 := ⟨_, Try.func7, by kernel_rfl, by kernel_rfl⟩
theorem DecR.ok {b : List UInt8} {w w' : World} {e : Ending} (h : DecR b w e w') (hk : okB b = true) : ∃ v', e = .returned (.tuple #[prV (kB b) (fB b) (sB b) v', .int .i64 0]) ∧ Eng.OwnD w.heap.size w' v' (dB b (nB b)) ∧ Below w.heap.size w w' := by
  obtain ⟨hb, ⟨_, v, h1, h2⟩ | ⟨h1, _⟩⟩ := h
  · exact ⟨v, h1, h2, hb⟩
  · rw [hk] at h1; cases h1
theorem DecR.no {b : List UInt8} {w w' : World} {e : Ending} (h : DecR b w e w') (hk : okB b = false) : e = .returned (.tuple #[prV 0 0 0 (.slice none 0 0), .int .i64 80]) ∧ Below w.heap.size w w' := by
  obtain ⟨hb, ⟨h1, _⟩ | ⟨_, h1⟩⟩ := h
  · rw [hk] at h1; cases h1
  · exact ⟨h1, hb⟩
set_option maxRecDepth 100000 in
set_option maxHeartbeats 4000000 in
theorem law_ok (v : Value) (b : List UInt8) (w : World) (h : Bs w v b) (hl : b.length ≤ 140737488351232) (hok : okB b = true) : Calls Try.prog 3 #[v] w (fun e w' => e = .returned (.bool true) ∧ Below w.heap.size w w') := by
  have hnb := nB_lt b
  refine Eng.enter (l := [v]) Try.func3 rfl 72 rfl (by simp) ?_
  refine Eng.seqk fun K1 hK1 => ?_
  refine Eng.reg ?_
  refine Eng.sv rfl rfl (Eng.x_as (v := (.bool false)) rfl rfl) ?_
  refine Eng.nil ?_
  refine hK1 _ _ ?_
  refine Eng.seqk fun K2 hK2 => ?_
  refine Eng.reg ?_
  refine Eng.sv rfl rfl (Eng.x_bs0 rfl Try.underlying22 sz5_wm) ?_
  generalize hw3 : World.alloc w (.cells #[] 5) = w3
  have hb3 : Below w.heap.size w w3 := hw3 ▸ Eng.below_al _ _
  have hz3 : w.heap.size < w3.heap.size := hw3 ▸ Eng.lt_al _ _
  have ho3 : Own w.heap.size w3 (.slice (some ⟨w.heap.size, 0, none⟩) 0 0) [] := hw3 ▸ Own.lit0 _ (Nat.le_refl _)
  refine Eng.sv rfl rfl (Eng.x_mv (v := v) rfl rfl) ?_
  have hr5 := (h).below hb3
  refine Eng.apB rfl rfl rfl rfl ho3 rfl (hr5).1 (by simp; omega) (hb3).size ?_
  intro v4 w4 ho4 hg4
  rw [List.nil_append] at ho4
  refine Eng.bs (vs := [(.int .u8 90)]) (cs := (bcs [90])) rfl rfl rfl Try.underlying22 in5_wm rfl (by decide) rfl rfl (by decide) (by decide) (by simp [Value.cells]) rfl ?_
  intro w6 hk6 hb6 hz6
  have hr8 := (ho4).below hb6
  have hB0_2 : Below w.heap.size w w4 := (hb3).grown hg4 (hb3).size (fun k e => Nat.le_trans (Nat.le_refl _) ((World.ownsRow.lt ho3) _ e).1)
  have hB0_3 : Below w.heap.size w w6 := (hB0_2).trans (hb6.mono (hB0_2).size)
  refine Eng.apB rfl rfl rfl rfl hr8 rfl (Rd.of_blk hk6 1 rfl (by decide)) (by simp; omega) (hB0_3).size ?_
  intro v7 w7 ho7 hg7
  refine Eng.sv rfl rfl (Eng.x_as (v := v7) rfl rfl) ?_
  refine Eng.nil ?_
  refine hK2 _ _ ?_
  refine Eng.seqk fun K9 hK9 => ?_
  refine Eng.reg ?_
  refine Eng.sv rfl rfl (Eng.x_mv (v := v7) rfl rfl) ?_
  refine Eng.sv rfl rfl (Eng.x_mv (v := v) rfl rfl) ?_
  have hB0_4 : Below w.heap.size w w7 := (hB0_3).grown hg7 (hB0_3).size (fun k e => Nat.le_trans (Nat.le_refl _) ((World.ownsRow.lt ho4) _ e).1)
  have hr10 := (h).below hB0_4
  refine Eng.sv rfl rfl (Eng.x_len (v := v) (r := (b.length : Int)) rfl Try.underlying22 rfl (hr10).1 rfl) ?_
  refine Eng.sv rfl rfl (Eng.x_sl (v := v7) rfl Try.underlying22 sz5_wm rfl (ho7).rd 0 b.length (.inl ⟨rfl, rfl⟩) (Eng.bd (k := .i64) rfl) (Nat.zero_le _) (by simp)) ?_
  have hq11 : Rd w7 (Eng.sCut v7 0 b.length 1) (b) := (Eng.rd_pre (ho7).rd)
  refine Eng.sc rfl (Eng.xc (vl := [(Eng.sCut v7 0 b.length 1)]) rfl rfl rfl en4_wm) ((decode_calls (Eng.sCut v7 0 b.length 1) b _ ⟨hq11, by omega⟩).mono fun _ _ h => h.ok hok) ?_
  rintro _ w12 ⟨vx, rfl, ho12, hb12⟩
  refine Eng.aft_v rfl ?_
  refine Eng.sv rfl rfl (Eng.x_mv (v := (.tuple #[(.agg #[(.int .i64 (kB b : Int)), (.int .i64 (fB b : Int)), (.int .i64 (sB b : Int)), vx]), (.int .i64 0)])) rfl rfl) ?_
  refine Eng.sv rfl rfl (Eng.x_ext (v := (.agg #[(.int .i64 (kB b : Int)), (.int .i64 (fB b : Int)), (.int .i64 (sB b : Int)), vx])) rfl rfl rfl) ?_
  refine Eng.sv rfl rfl (Eng.x_ext (v := (.int .i64 0)) rfl rfl rfl) ?_
  refine Eng.al rfl rfl rfl zr25_wm (cs := [(.int .i64 0), (.int .i64 0), (.int .i64 0), (.slice none 0 0)]) rfl ?_
  intro w13 hk13 hb13 hz13
  have hr15 := (ho12).below hb13
  refine Eng.stB rfl rfl rfl sz25_wm rfl hk13 rfl rfl (cs' := [(.int .i64 (kB b : Int)), (.int .i64 (fB b : Int)), (.int .i64 (sB b : Int)), vx]) rfl rfl (Eng.one_cons rfl (Eng.one_cons rfl (Eng.one_cons rfl (Eng.one_cons (Eng.Row.one (hr15).row) Eng.one_nil)))) ?_
  intro w14 hk14 hg14
  refine Eng.sv rfl rfl (Eng.x_as (v := (.int .i64 0)) rfl rfl) ?_
  refine Eng.nil ?_
  refine hK9 _ _ ?_
  refine Eng.seqk fun K16 hK16 => ?_
  refine Eng.reg ?_
  refine Eng.sv rfl rfl (Eng.x_mv (v := v7) rfl rfl) ?_
  refine Eng.sv rfl rfl (Eng.x_mv (v := v) rfl rfl) ?_
  have hB0_5 : Below w.heap.size w w12 := (hB0_4).trans (hb12.mono (hB0_4).size)
  have hB0_6 : Below w.heap.size w w13 := (hB0_5).trans (hb13.mono (hB0_5).size)
  have hB0_7 : Below w.heap.size w w14 := (hB0_6).grown hg14 (hB0_6).size (fun k e => by cases e; exact Nat.le_trans (hB0_5).size (Nat.le_refl _))
  have hr17 := (h).below hB0_7
  refine Eng.sv rfl rfl (Eng.x_len (v := v) (r := (b.length : Int)) rfl Try.underlying22 rfl (hr17).1 rfl) ?_
  have hr18 := (((ho7).below hb12).below hb13).kept hg14 (.inr (fun e => absurd ((World.ownsRow.lt ho7) _ e).2 (Nat.not_lt_of_le (Nat.le_trans (hb12).size (Nat.le_refl _)))))
  refine Eng.sv rfl rfl (Eng.x_sl (v := v7) rfl Try.underlying22 sz5_wm rfl (hr18).rd 0 b.length (.inl ⟨rfl, rfl⟩) (Eng.bd (k := .i64) rfl) (Nat.zero_le _) (by simp)) ?_
  have hq19 : Rd w14 (Eng.sCut v7 0 b.length 1) (b) := (Eng.rd_pre (hr18).rd)
  refine Eng.sc rfl (Eng.xc (vl := [(Eng.sCut v7 0 b.length 1)]) rfl rfl rfl en4_wm) ((decode_calls (Eng.sCut v7 0 b.length 1) b _ ⟨hq19, by omega⟩).mono fun _ _ h => h.ok hok) ?_
  rintro _ w20 ⟨vy, rfl, ho20, hb20⟩
  refine Eng.aft_v rfl ?_
  refine Eng.sv rfl rfl (Eng.x_mv (v := (.tuple #[(.agg #[(.int .i64 (kB b : Int)), (.int .i64 (fB b : Int)), (.int .i64 (sB b : Int)), vy]), (.int .i64 0)])) rfl rfl) ?_
  refine Eng.sv rfl rfl (Eng.x_ext (v := (.agg #[(.int .i64 (kB b : Int)), (.int .i64 (fB b : Int)), (.int .i64 (sB b : Int)), vy])) rfl rfl rfl) ?_
  refine Eng.sv rfl rfl (Eng.x_ext (v := (.int .i64 0)) rfl rfl rfl) ?_
  refine Eng.al rfl rfl rfl zr25_wm (cs := [(.int .i64 0), (.int .i64 0), (.int .i64 0), (.slice none 0 0)]) rfl ?_
  intro w21 hk21 hb21 hz21
  have hr23 := (ho20).below hb21
  refine Eng.stB rfl rfl rfl sz25_wm rfl hk21 rfl rfl (cs' := [(.int .i64 (kB b : Int)), (.int .i64 (fB b : Int)), (.int .i64 (sB b : Int)), vy]) rfl rfl (Eng.one_cons rfl (Eng.one_cons rfl (Eng.one_cons rfl (Eng.one_cons (Eng.Row.one (hr23).row) Eng.one_nil)))) ?_
  intro w22 hk22 hg22
  refine Eng.sv rfl rfl (Eng.x_as (v := (.int .i64 0)) rfl rfl) ?_
  refine Eng.nil ?_
  refine hK16 _ _ ?_
  refine Eng.seqk fun K24 hK24 => ?_
  refine Eng.reg ?_
  refine Eng.sv rfl rfl (Eng.x_mv (v := v) rfl rfl) ?_
  have hB0_8 : Below w.heap.size w w20 := (hB0_7).trans (hb20.mono (hB0_7).size)
  have hB0_9 : Below w.heap.size w w21 := (hB0_8).trans (hb21.mono (hB0_8).size)
  have hB0_10 : Below w.heap.size w w22 := (hB0_9).grown hg22 (hB0_9).size (fun k e => by cases e; exact Nat.le_trans (hB0_8).size (Nat.le_refl _))
  have hr25 := (h).below hB0_10
  refine Eng.sc rfl (Eng.xc (vl := [v]) rfl rfl rfl en5_wm) ((rdecode_calls v b _ hr25).mono fun _ _ h => h.ok hok) ?_
  rintro _ w26 ⟨vz, rfl, ho26, hb26⟩
  refine Eng.aft_v rfl ?_
  refine Eng.sv rfl rfl (Eng.x_mv (v := (.tuple #[(.agg #[(.int .i64 (kB b : Int)), (.int .i64 (fB b : Int)), (.int .i64 (sB b : Int)), vz]), (.int .i64 0)])) rfl rfl) ?_
  refine Eng.sv rfl rfl (Eng.x_ext (v := (.agg #[(.int .i64 (kB b : Int)), (.int .i64 (fB b : Int)), (.int .i64 (sB b : Int)), vz])) rfl rfl rfl) ?_
  refine Eng.sv rfl rfl (Eng.x_ext (v := (.int .i64 0)) rfl rfl rfl) ?_
  refine Eng.al rfl rfl rfl zr25_wm (cs := [(.int .i64 0), (.int .i64 0), (.int .i64 0), (.slice none 0 0)]) rfl ?_
  intro w27 hk27 hb27 hz27
  have hr29 := (ho26).below hb27
  refine Eng.stB rfl rfl rfl sz25_wm rfl hk27 rfl rfl (cs' := [(.int .i64 (kB b : Int)), (.int .i64 (fB b : Int)), (.int .i64 (sB b : Int)), vz]) rfl rfl (Eng.one_cons rfl (Eng.one_cons rfl (Eng.one_cons rfl (Eng.one_cons (Eng.Row.one (hr29).row) Eng.one_nil)))) ?_
  intro w28 hk28 hg28
  refine Eng.sv rfl rfl (Eng.x_as (v := (.int .i64 0)) rfl rfl) ?_
  refine Eng.nil ?_
  refine hK24 _ _ ?_
  refine Eng.seqk fun K30 hK30 => ?_
  refine Eng.seqk fun K31 hK31 => ?_
  refine Eng.reg ?_
  have hk32 := ((((((hk14).below hb20).below hb21).grown hg22 (fun e => absurd (Option.some.inj e) (Nat.ne_of_lt (Nat.lt_of_lt_of_le hz13 (Nat.le_trans (Nat.le_trans (hg14).size (hb20).size) (Nat.le_refl _)))))).below hb26).below hb27).grown hg28 (fun e => absurd (Option.some.inj e) (Nat.ne_of_lt (Nat.lt_of_lt_of_le hz13 (Nat.le_trans (Nat.le_trans (Nat.le_trans (Nat.le_trans (Nat.le_trans (hg14).size (hb20).size) (hb21).size) (hg22).size) (hb26).size) (Nat.le_refl _)))))
  refine Eng.sv rfl rfl (Eng.x_ldB (v := (.agg #[(.int .i64 (kB b : Int)), (.int .i64 (fB b : Int)), (.int .i64 (sB b : Int)), vx])) rfl ag25_wm sz25_wm rfl hk32 rfl rfl) ?_
  refine Eng.sv rfl rfl (Eng.x_ldB (v := (.agg #[(.int .i64 (kB b : Int)), (.int .i64 (fB b : Int)), (.int .i64 (sB b : Int)), vz])) rfl ag25_wm sz25_wm rfl hk28 rfl rfl) ?_
  have hB5_7 : Below w12.heap.size w12 w14 := (hb13).grown hg14 (hb13).size (fun k e => by cases e; exact Nat.le_trans (Nat.le_refl _) (Nat.le_refl _))
  have hB5_8 : Below w12.heap.size w12 w20 := (hB5_7).trans (hb20.mono (hB5_7).size)
  have hB5_9 : Below w12.heap.size w12 w21 := (hB5_8).trans (hb21.mono (hB5_8).size)
  have hB5_10 : Below w12.heap.size w12 w22 := (hB5_9).grown hg22 (hB5_9).size (fun k e => by cases e; exact Nat.le_trans (hB5_8).size (Nat.le_refl _))
  have hB5_11 : Below w12.heap.size w12 w26 := (hB5_10).trans (hb26.mono (hB5_10).size)
  have hr33 := (((((((hr15).kept hg14 (.inr (fun e => absurd ((World.ownsRow.lt (ho12).1) _ e).2 (Nat.not_lt_of_le (Nat.le_trans (Nat.le_refl _) (Nat.le_refl _)))))).below hb20).below hb21).kept hg22 (.inr (fun e => absurd ((World.ownsRow.lt (ho12).1) _ e).2 (Nat.not_lt_of_le (Nat.le_trans (hB5_8).size (Nat.le_refl _)))))).below hb26).below hb27).kept hg28 (.inr (fun e => absurd ((World.ownsRow.lt (ho12).1) _ e).2 (Nat.not_lt_of_le (Nat.le_trans (hB5_11).size (Nat.le_refl _)))))
  have hr34 := (hr29).kept hg28 (.inr (fun e => absurd ((World.ownsRow.lt (ho26).1) _ e).2 (Nat.not_lt_of_le (Nat.le_trans (Nat.le_refl _) (Nat.le_refl _)))))
  refine Eng.sc rfl (Eng.xc (vl := [(.agg #[(.int .i64 (kB b : Int)), (.int .i64 (fB b : Int)), (.int .i64 (sB b : Int)), vx]), (.agg #[(.int .i64 (kB b : Int)), (.int .i64 (fB b : Int)), (.int .i64 (sB b : Int)), vz])]) rfl rfl rfl en6_wm) (Sam.same_calls _ _ _ vx vz (dB b (nB b)) _ (hr33).ds (hr34).ds) ?_
  rintro _ w35 ⟨rfl, hb35⟩
  refine Eng.aft_v rfl ?_
  refine Eng.sv rfl rfl (Eng.x_not (v := (.bool false)) rfl rfl rfl) ?_
  refine Eng.sv rfl rfl (Eng.x_mv (v := (.bool false)) rfl rfl) ?_
  refine Eng.sv (Eng.gt rfl rfl rfl rfl) rfl (Eng.x_mv (v := (.int .i64 0)) rfl rfl) ?_
  refine Eng.sv (Eng.gt rfl rfl rfl rfl) rfl (Eng.x_mv (v := (.int .i64 0)) rfl rfl) ?_
  refine Eng.sv (Eng.gt rfl rfl rfl rfl) rfl (Eng.x_ne (r := false) rfl rfl rfl (Eng.ne_f (by omega))) ?_
  refine Eng.sv rfl rfl (Eng.x_pick (v := (.bool false)) rfl rfl rfl rfl rfl) ?_
  refine Eng.sv rfl rfl (Eng.x_mv (v := (.bool false)) rfl rfl) ?_
  refine Eng.sv (Eng.gt rfl rfl rfl rfl) rfl (Eng.x_mv (v := v7) rfl rfl) ?_
  have hB4_6 : Below w7.heap.size w7 w13 := (hb12).trans (hb13.mono (hb12).size)
  have hB4_7 : Below w7.heap.size w7 w14 := (hB4_6).grown hg14 (hB4_6).size (fun k e => by cases e; exact Nat.le_trans (hb12).size (Nat.le_refl _))
  have hB4_8 : Below w7.heap.size w7 w20 := (hB4_7).trans (hb20.mono (hB4_7).size)
  have hB4_9 : Below w7.heap.size w7 w21 := (hB4_8).trans (hb21.mono (hB4_8).size)
  have hB4_10 : Below w7.heap.size w7 w22 := (hB4_9).grown hg22 (hB4_9).size (fun k e => by cases e; exact Nat.le_trans (hB4_8).size (Nat.le_refl _))
  have hB4_11 : Below w7.heap.size w7 w26 := (hB4_10).trans (hb26.mono (hB4_10).size)
  have hr36 := (((((((hr18).below hb20).below hb21).kept hg22 (.inr (fun e => absurd ((World.ownsRow.lt ho7) _ e).2 (Nat.not_lt_of_le (Nat.le_trans (hB4_8).size (Nat.le_refl _)))))).below hb26).below hb27).kept hg28 (.inr (fun e => absurd ((World.ownsRow.lt ho7) _ e).2 (Nat.not_lt_of_le (Nat.le_trans (hB4_11).size (Nat.le_refl _)))))).below hb35
  refine Eng.sv (Eng.gt rfl rfl rfl rfl) rfl (Eng.x_str (v := v7) (bs := ((b) ++ [90])) rfl Try.underlying22 Try.underlying5 Try.underlying9 rfl (hr36).rd) ?_
  refine Eng.sv (Eng.gt rfl rfl rfl rfl) rfl (Eng.x_mv (v := v) rfl rfl) ?_
  have hB0_11 : Below w.heap.size w w26 := (hB0_10).trans (hb26.mono (hB0_10).size)
  have hB0_12 : Below w.heap.size w w27 := (hB0_11).trans (hb27.mono (hB0_11).size)
  have hB0_13 : Below w.heap.size w w28 := (hB0_12).grown hg28 (hB0_12).size (fun k e => by cases e; exact Nat.le_trans (hB0_11).size (Nat.le_refl _))
  have hB0_14 : Below w.heap.size w w35 := (hB0_13).trans (hb35.mono (hB0_13).size)
  have hr37 := (h).below hB0_14
  refine Eng.sv (Eng.gt rfl rfl rfl rfl) rfl (Eng.x_str (v := v) (bs := b) rfl Try.underlying22 Try.underlying5 Try.underlying9 rfl (hr37).1) ?_
  refine Eng.sv (Eng.gt rfl rfl rfl rfl) rfl (Eng.x_addS (p := b) (q := [90]) (r := (b ++ [90])) rfl rfl rfl rfl (by simp; omega)) ?_
  refine Eng.sv (Eng.gt rfl rfl rfl rfl) rfl (Eng.x_neS (p := ((b) ++ [90])) (q := (b ++ [90])) (r := false) rfl rfl rfl (by simp)) ?_
  refine Eng.sv rfl rfl (Eng.x_pick (v := (.bool false)) rfl rfl rfl rfl rfl) ?_
  refine Eng.nil ?_
  refine hK31 _ _ ?_
  refine Eng.cond_f rfl ?_
  refine wp_skip ?_
  refine hK30 _ _ ?_
  refine Eng.seqk fun K38 hK38 => ?_
  refine Eng.seqk fun K39 hK39 => ?_
  refine Eng.reg ?_
  refine Eng.sv rfl rfl (Eng.x_as (v := (.int .i64 0)) rfl rfl) ?_
  refine Eng.nil ?_
  refine hK39 _ _ ?_
  refine wp_block ?_
  have hk41 := (hk32).below hb35
  have hk42 := ((((hk22).below hb26).below hb27).grown hg28 (fun e => absurd (Option.some.inj e) (Nat.ne_of_lt (Nat.lt_of_lt_of_le hz21 (Nat.le_trans (Nat.le_trans (hg22).size (hb26).size) (Nat.le_refl _)))))).below hb35
  have hk43 := (hk28).below hb35
  have hr44 := (hr33).below hb35
  have hB8_10 : Below w20.heap.size w20 w22 := (hb21).grown hg22 (hb21).size (fun k e => by cases e; exact Nat.le_trans (Nat.le_refl _) (Nat.le_refl _))
  have hB8_11 : Below w20.heap.size w20 w26 := (hB8_10).trans (hb26.mono (hB8_10).size)
  have hr45 := (((((hr23).kept hg22 (.inr (fun e => absurd ((World.ownsRow.lt (ho20).1) _ e).2 (Nat.not_lt_of_le (Nat.le_trans (Nat.le_refl _) (Nat.le_refl _)))))).below hb26).below hb27).kept hg28 (.inr (fun e => absurd ((World.ownsRow.lt (ho20).1) _ e).2 (Nat.not_lt_of_le (Nat.le_trans (hB8_11).size (Nat.le_refl _)))))).below hb35
  have hr46 := (hr34).below hb35
  refine Eng.loopN (fun n u w' => ∃ (i : Nat), ∃ (es : List (List UInt8)), n = nB b - i ∧ i ≤ nB b ∧ es.length = nB b ∧ Eng.Has u [(2, (.bool false)), (4, (.pointer (some ⟨w12.heap.size, 0, none⟩))), (6, (.pointer (some ⟨w20.heap.size, 0, none⟩))), (8, (.pointer (some ⟨w26.heap.size, 0, none⟩))), (10, (.int .i64 (i : Int)))] ∧ Below w.heap.size w w' ∧ w35.heap.size ≤ w'.heap.size ∧ Blk w' w12.heap.size 25 [(.int .i64 (kB b : Int)), (.int .i64 (fB b : Int)), (.int .i64 (sB b : Int)), vx] ∧ Blk w' w20.heap.size 25 [(.int .i64 (kB b : Int)), (.int .i64 (fB b : Int)), (.int .i64 (sB b : Int)), vy] ∧ Blk w' w26.heap.size 25 [(.int .i64 (kB b : Int)), (.int .i64 (fB b : Int)), (.int .i64 (sB b : Int)), vz] ∧ Eng.OwnD w7.heap.size w' vx es ∧ Eng.OwnD w14.heap.size w' vy (dB b (nB b)) ∧ Eng.OwnD w22.heap.size w' vz (dB b (nB b))) _ ⟨0, dB b (nB b), rfl, Nat.zero_le _, dB_length _ _, ⟨rfl, rfl, rfl, rfl, (Eng.ie (by omega)), trivial⟩, hB0_14, (Nat.le_refl _), hk41, hk42, hk43, hr44, hr45, hr46⟩ ?_
  rintro _ u40 w40 ⟨i, es, rfl, hs40_0, hs40_1, hH40, hBL40, hzL40, hkL40_0, hkL40_1, hkL40_2, hrL40_0, hrL40_1, hrL40_2⟩ K40 hK40
  obtain ⟨u40, rfl⟩ := hH40.ex
  refine Eng.seqk fun K47 hK47 => ?_
  refine Eng.seqk fun K48 hK48 => ?_
  refine Eng.reg ?_
  refine Eng.sv rfl rfl (Eng.x_mv (v := (.int .i64 (i : Int))) rfl rfl) ?_
  refine Eng.sv rfl rfl (Eng.x_fa (v := (.pointer (some ⟨w12.heap.size, 3, none⟩))) rfl rfl (by kernel_rfl)) ?_
  refine Eng.sv rfl rfl (Eng.x_ld1 (v := vx) rfl ag23_wm rfl ((hkL40_0).cell 3)) ?_
  refine Eng.sv rfl rfl (Eng.x_len (v := vx) (r := (es.length : Int)) rfl Try.underlying23 rfl (hrL40_0).row rfl) ?_
  by_cases h58 : ((i : Int) : Int) < (es.length : Int)
  · skip
    refine Eng.sv rfl rfl (Eng.x_lt (r := true) rfl rfl rfl (decide_eq_true (by omega))) ?_
    refine Eng.nil ?_
    refine hK48 _ _ ?_
    refine Eng.cond_t rfl ?_
    refine wp_skip ?_
    refine hK47 _ _ ?_
    refine Eng.seqk fun K49 hK49 => ?_
    refine wp_block ?_
    refine Eng.reg ?_
    refine Eng.sv rfl rfl (Eng.x_fa (v := (.pointer (some ⟨w12.heap.size, 3, none⟩))) rfl rfl (by kernel_rfl)) ?_
    refine Eng.sv rfl rfl (Eng.x_ld1 (v := vx) rfl ag23_wm rfl ((hkL40_0).cell 3)) ?_
    refine Eng.sv rfl rfl (Eng.x_mv (v := (.int .i64 (i : Int))) rfl rfl) ?_
    refine Eng.sv rfl rfl (Eng.x_build (ps := [(0, (.int .u8 7))]) (v := (dg [7, 0, 0, 0, 0, 0, 0, 0, 0, 0, 0, 0, 0, 0, 0, 0, 0, 0, 0, 0, 0, 0, 0, 0, 0, 0, 0, 0, 0, 0, 0, 0])) rfl rfl (by kernel_rfl)) ?_
    refine Eng.sv rfl rfl (Eng.x_ia (v := vx) (j := i) rfl Try.underlying23 sz33_wm (by decide) rfl rfl (hrL40_0).row (Dsl.dcs_len _ (hrL40_0).2) (by omega) (by omega)) ?_
    refine Eng.stDg (i := i) rfl rfl rfl hrL40_0 (by omega) rfl rfl rfl ?_
    intro w50 ho50 hg50
    refine Eng.nil ?_
    refine Eng.nb ?_
    refine hK49 _ _ ?_
    refine Eng.reg ?_
    refine Eng.sv rfl rfl (Eng.x_mv (v := (.int .i64 (i : Int))) rfl rfl) ?_
    refine Eng.sv rfl rfl (Eng.x_add rfl rfl rfl (Eng.w64 (r := ((i : Int) + 1)) (by omega))) ?_
    refine Eng.sv rfl rfl (Eng.x_as (v := (.int .i64 ((i : Int) + 1))) rfl rfl) ?_
    refine Eng.nil ?_
    have hr51 := (hrL40_1).kept hg50 (Eng.own_ne (fun a b ha hb => Nat.ne_of_gt (Nat.lt_of_lt_of_le ((World.ownsRow.lt (ho12).1) _ hb).2 (Nat.le_trans (hB5_7).size ((World.ownsRow.lt (ho20).1) _ ha).1))))
    have hr52 := (hrL40_2).kept hg50 (Eng.own_ne (fun a b ha hb => Nat.ne_of_gt (Nat.lt_of_lt_of_le ((World.ownsRow.lt (ho12).1) _ hb).2 (Nat.le_trans (hB5_10).size ((World.ownsRow.lt (ho26).1) _ ha).1))))
    have hB0_16 : Below w.heap.size w w50 := (hBL40).grown hg50 (hBL40).size (fun k e => Nat.le_trans (hB0_4).size ((World.ownsRow.lt (ho12).1) _ e).1)
    have hk53 := (hkL40_0).grown hg50 (fun e => absurd ((World.ownsRow.lt (ho12).1) _ e.symm).2 (Nat.not_lt_of_le (Nat.le_trans (Nat.le_refl _) (Nat.le_refl _))))
    have hk54 := (hkL40_1).grown hg50 (fun e => absurd ((World.ownsRow.lt (ho12).1) _ e.symm).2 (Nat.not_lt_of_le (Nat.le_trans (hB5_8).size (Nat.le_refl _))))
    have hk55 := (hkL40_2).grown hg50 (fun e => absurd ((World.ownsRow.lt (ho12).1) _ e.symm).2 (Nat.not_lt_of_le (Nat.le_trans (hB5_11).size (Nat.le_refl _))))
    exact hK40 _ _ _ ⟨i + 1, (es).set i [7, 0, 0, 0, 0, 0, 0, 0, 0, 0, 0, 0, 0, 0, 0, 0, 0, 0, 0, 0, 0, 0, 0, 0, 0, 0, 0, 0, 0, 0, 0, 0], rfl, by omega, by rw [List.length_set]; omega, ⟨rfl, rfl, rfl, rfl, (Eng.ie (by omega)), trivial⟩, hB0_16, (Nat.le_trans hzL40 (hg50).size), hk53, hk54, hk55, ho50, hr51, hr52⟩ (by omega)
  · skip
    refine Eng.sv rfl rfl (Eng.x_lt (r := false) rfl rfl rfl (decide_eq_false (by omega))) ?_
    refine Eng.nil ?_
    refine hK48 _ _ ?_
    refine Eng.cond_f rfl ?_
    refine wp_exit ?_
    refine Eng.te ?_
    refine Eng.te ?_
    refine Eng.be ?_
    refine hK38 _ _ ?_
    refine Eng.seqk fun K56 hK56 => ?_
    refine Eng.reg ?_
    refine Eng.sv rfl rfl (Eng.x_ldB (v := (.agg #[(.int .i64 (kB b : Int)), (.int .i64 (fB b : Int)), (.int .i64 (sB b : Int)), vy])) rfl ag25_wm sz25_wm rfl hkL40_1 rfl rfl) ?_
    refine Eng.sv rfl rfl (Eng.x_ldB (v := (.agg #[(.int .i64 (kB b : Int)), (.int .i64 (fB b : Int)), (.int .i64 (sB b : Int)), vz])) rfl ag25_wm sz25_wm rfl hkL40_2 rfl rfl) ?_
    refine Eng.sc rfl (Eng.xc (vl := [(.agg #[(.int .i64 (kB b : Int)), (.int .i64 (fB b : Int)), (.int .i64 (sB b : Int)), vy]), (.agg #[(.int .i64 (kB b : Int)), (.int .i64 (fB b : Int)), (.int .i64 (sB b : Int)), vz])]) rfl rfl rfl en6_wm) (Sam.same_calls _ _ _ vy vz (dB b (nB b)) _ (hrL40_1).ds (hrL40_2).ds) ?_
    rintro _ w57 ⟨rfl, hb57⟩
    refine Eng.aft_v rfl ?_
    refine Eng.sv rfl rfl (Eng.x_mv (v := (.bool true)) rfl rfl) ?_
    refine Eng.sc (Eng.gt rfl rfl rfl rfl) (Eng.xc (vl := []) rfl rfl rfl en7_wm) (Sam.names_calls _) ?_
    rintro _ _ ⟨rfl, rfl⟩
    refine Eng.aft_v rfl ?_
    refine Eng.sv rfl rfl (Eng.x_pick (v := (.bool true)) rfl rfl rfl rfl rfl) ?_
    refine Eng.sv rfl rfl (Eng.x_as (v := (.bool true)) rfl rfl) ?_
    refine Eng.nil ?_
    refine hK56 _ _ ?_
    refine wp_ret ?_
    refine Eng.ret (Eng.res1 (v1 := (.bool true)) rfl (Eng.rdt rfl)) ?_
    have hB0_16 : Below w.heap.size w w57 := (hBL40).trans (hb57.mono (hBL40).size)
    exact ⟨rfl, hB0_16⟩
set_option maxRecDepth 100000 in
set_option maxHeartbeats 4000000 in
theorem law_no (v : Value) (b : List UInt8) (w : World) (h : Bs w v b) (hl : b.length ≤ 140737488351232) (hok : okB b = false) : Calls Try.prog 3 #[v] w (fun e w' => e = .returned (.bool true) ∧ Below w.heap.size w w') := by
  have hnb := nB_lt b
  refine Eng.enter (l := [v]) Try.func3 rfl 72 rfl (by simp) ?_
  refine Eng.seqk fun K1 hK1 => ?_
  refine Eng.reg ?_
  refine Eng.sv rfl rfl (Eng.x_as (v := (.bool false)) rfl rfl) ?_
  refine Eng.nil ?_
  refine hK1 _ _ ?_
  refine Eng.seqk fun K2 hK2 => ?_
  refine Eng.reg ?_
  refine Eng.sv rfl rfl (Eng.x_bs0 rfl Try.underlying22 sz5_wm) ?_
  generalize hw3 : World.alloc w (.cells #[] 5) = w3
  have hb3 : Below w.heap.size w w3 := hw3 ▸ Eng.below_al _ _
  have hz3 : w.heap.size < w3.heap.size := hw3 ▸ Eng.lt_al _ _
  have ho3 : Own w.heap.size w3 (.slice (some ⟨w.heap.size, 0, none⟩) 0 0) [] := hw3 ▸ Own.lit0 _ (Nat.le_refl _)
  refine Eng.sv rfl rfl (Eng.x_mv (v := v) rfl rfl) ?_
  have hr5 := (h).below hb3
  refine Eng.apB rfl rfl rfl rfl ho3 rfl (hr5).1 (by simp; omega) (hb3).size ?_
  intro v4 w4 ho4 hg4
  rw [List.nil_append] at ho4
  refine Eng.bs (vs := [(.int .u8 90)]) (cs := (bcs [90])) rfl rfl rfl Try.underlying22 in5_wm rfl (by decide) rfl rfl (by decide) (by decide) (by simp [Value.cells]) rfl ?_
  intro w6 hk6 hb6 hz6
  have hr8 := (ho4).below hb6
  have hB0_2 : Below w.heap.size w w4 := (hb3).grown hg4 (hb3).size (fun k e => Nat.le_trans (Nat.le_refl _) ((World.ownsRow.lt ho3) _ e).1)
  have hB0_3 : Below w.heap.size w w6 := (hB0_2).trans (hb6.mono (hB0_2).size)
  refine Eng.apB rfl rfl rfl rfl hr8 rfl (Rd.of_blk hk6 1 rfl (by decide)) (by simp; omega) (hB0_3).size ?_
  intro v7 w7 ho7 hg7
  refine Eng.sv rfl rfl (Eng.x_as (v := v7) rfl rfl) ?_
  refine Eng.nil ?_
  refine hK2 _ _ ?_
  refine Eng.seqk fun K9 hK9 => ?_
  refine Eng.reg ?_
  refine Eng.sv rfl rfl (Eng.x_mv (v := v7) rfl rfl) ?_
  refine Eng.sv rfl rfl (Eng.x_mv (v := v) rfl rfl) ?_
  have hB0_4 : Below w.heap.size w w7 := (hB0_3).grown hg7 (hB0_3).size (fun k e => Nat.le_trans (Nat.le_refl _) ((World.ownsRow.lt ho4) _ e).1)
  have hr10 := (h).below hB0_4
  refine Eng.sv rfl rfl (Eng.x_len (v := v) (r := (b.length : Int)) rfl Try.underlying22 rfl (hr10).1 rfl) ?_
  refine Eng.sv rfl rfl (Eng.x_sl (v := v7) rfl Try.underlying22 sz5_wm rfl (ho7).rd 0 b.length (.inl ⟨rfl, rfl⟩) (Eng.bd (k := .i64) rfl) (Nat.zero_le _) (by simp)) ?_
  have hq11 : Rd w7 (Eng.sCut v7 0 b.length 1) (b) := (Eng.rd_pre (ho7).rd)
  refine Eng.sc rfl (Eng.xc (vl := [(Eng.sCut v7 0 b.length 1)]) rfl rfl rfl en4_wm) ((decode_calls (Eng.sCut v7 0 b.length 1) b _ ⟨hq11, by omega⟩).mono fun _ _ h => h.no hok) ?_
  rintro _ w12 ⟨rfl, hb12⟩
  refine Eng.aft_v rfl ?_
  refine Eng.sv rfl rfl (Eng.x_mv (v := (.tuple #[(.agg #[(.int .i64 0), (.int .i64 0), (.int .i64 0), (.slice none 0 0)]), (.int .i64 80)])) rfl rfl) ?_
  refine Eng.sv rfl rfl (Eng.x_ext (v := (.agg #[(.int .i64 0), (.int .i64 0), (.int .i64 0), (.slice none 0 0)])) rfl rfl rfl) ?_
  refine Eng.sv rfl rfl (Eng.x_ext (v := (.int .i64 80)) rfl rfl rfl) ?_
  refine Eng.al rfl rfl rfl zr25_wm (cs := [(.int .i64 0), (.int .i64 0), (.int .i64 0), (.slice none 0 0)]) rfl ?_
  intro w13 hk13 hb13 hz13
  refine Eng.stB rfl rfl rfl sz25_wm rfl hk13 rfl rfl (cs' := [(.int .i64 0), (.int .i64 0), (.int .i64 0), (.slice none 0 0)]) rfl rfl (Eng.one_cons rfl (Eng.one_cons rfl (Eng.one_cons rfl (Eng.one_cons rfl Eng.one_nil)))) ?_
  intro w14 hk14 hg14
  refine Eng.sv rfl rfl (Eng.x_as (v := (.int .i64 80)) rfl rfl) ?_
  refine Eng.nil ?_
  refine hK9 _ _ ?_
  refine Eng.seqk fun K15 hK15 => ?_
  refine Eng.reg ?_
  refine Eng.sv rfl rfl (Eng.x_mv (v := v7) rfl rfl) ?_
  refine Eng.sv rfl rfl (Eng.x_mv (v := v) rfl rfl) ?_
  have hB0_5 : Below w.heap.size w w12 := (hB0_4).trans (hb12.mono (hB0_4).size)
  have hB0_6 : Below w.heap.size w w13 := (hB0_5).trans (hb13.mono (hB0_5).size)
  have hB0_7 : Below w.heap.size w w14 := (hB0_6).grown hg14 (hB0_6).size (fun k e => by cases e; exact Nat.le_trans (hB0_5).size (Nat.le_refl _))
  have hr16 := (h).below hB0_7
  refine Eng.sv rfl rfl (Eng.x_len (v := v) (r := (b.length : Int)) rfl Try.underlying22 rfl (hr16).1 rfl) ?_
  have hr17 := (((ho7).below hb12).below hb13).kept hg14 (.inr (fun e => absurd ((World.ownsRow.lt ho7) _ e).2 (Nat.not_lt_of_le (Nat.le_trans (hb12).size (Nat.le_refl _)))))
  refine Eng.sv rfl rfl (Eng.x_sl (v := v7) rfl Try.underlying22 sz5_wm rfl (hr17).rd 0 b.length (.inl ⟨rfl, rfl⟩) (Eng.bd (k := .i64) rfl) (Nat.zero_le _) (by simp)) ?_
  have hq18 : Rd w14 (Eng.sCut v7 0 b.length 1) (b) := (Eng.rd_pre (hr17).rd)
  refine Eng.sc rfl (Eng.xc (vl := [(Eng.sCut v7 0 b.length 1)]) rfl rfl rfl en4_wm) ((decode_calls (Eng.sCut v7 0 b.length 1) b _ ⟨hq18, by omega⟩).mono fun _ _ h => h.no hok) ?_
  rintro _ w19 ⟨rfl, hb19⟩
  refine Eng.aft_v rfl ?_
  refine Eng.sv rfl rfl (Eng.x_mv (v := (.tuple #[(.agg #[(.int .i64 0), (.int .i64 0), (.int .i64 0), (.slice none 0 0)]), (.int .i64 80)])) rfl rfl) ?_
  refine Eng.sv rfl rfl (Eng.x_ext (v := (.agg #[(.int .i64 0), (.int .i64 0), (.int .i64 0), (.slice none 0 0)])) rfl rfl rfl) ?_
  refine Eng.sv rfl rfl (Eng.x_ext (v := (.int .i64 80)) rfl rfl rfl) ?_
  refine Eng.al rfl rfl rfl zr25_wm (cs := [(.int .i64 0), (.int .i64 0), (.int .i64 0), (.slice none 0 0)]) rfl ?_
  intro w20 hk20 hb20 hz20
  refine Eng.stB rfl rfl rfl sz25_wm rfl hk20 rfl rfl (cs' := [(.int .i64 0), (.int .i64 0), (.int .i64 0), (.slice none 0 0)]) rfl rfl (Eng.one_cons rfl (Eng.one_cons rfl (Eng.one_cons rfl (Eng.one_cons rfl Eng.one_nil)))) ?_
  intro w21 hk21 hg21
  refine Eng.sv rfl rfl (Eng.x_as (v := (.int .i64 80)) rfl rfl) ?_
  refine Eng.nil ?_
  refine hK15 _ _ ?_
  refine Eng.seqk fun K22 hK22 => ?_
  refine Eng.reg ?_
  refine Eng.sv rfl rfl (Eng.x_mv (v := v) rfl rfl) ?_
  have hB0_8 : Below w.heap.size w w19 := (hB0_7).trans (hb19.mono (hB0_7).size)
  have hB0_9 : Below w.heap.size w w20 := (hB0_8).trans (hb20.mono (hB0_8).size)
  have hB0_10 : Below w.heap.size w w21 := (hB0_9).grown hg21 (hB0_9).size (fun k e => by cases e; exact Nat.le_trans (hB0_8).size (Nat.le_refl _))
  have hr23 := (h).below hB0_10
  refine Eng.sc rfl (Eng.xc (vl := [v]) rfl rfl rfl en5_wm) ((rdecode_calls v b _ hr23).mono fun _ _ h => h.no hok) ?_
  rintro _ w24 ⟨rfl, hb24⟩
  refine Eng.aft_v rfl ?_
  refine Eng.sv rfl rfl (Eng.x_mv (v := (.tuple #[(.agg #[(.int .i64 0), (.int .i64 0), (.int .i64 0), (.slice none 0 0)]), (.int .i64 80)])) rfl rfl) ?_
  refine Eng.sv rfl rfl (Eng.x_ext (v := (.agg #[(.int .i64 0), (.int .i64 0), (.int .i64 0), (.slice none 0 0)])) rfl rfl rfl) ?_
  refine Eng.sv rfl rfl (Eng.x_ext (v := (.int .i64 80)) rfl rfl rfl) ?_
  refine Eng.al rfl rfl rfl zr25_wm (cs := [(.int .i64 0), (.int .i64 0), (.int .i64 0), (.slice none 0 0)]) rfl ?_
  intro w25 hk25 hb25 hz25
  refine Eng.stB rfl rfl rfl sz25_wm rfl hk25 rfl rfl (cs' := [(.int .i64 0), (.int .i64 0), (.int .i64 0), (.slice none 0 0)]) rfl rfl (Eng.one_cons rfl (Eng.one_cons rfl (Eng.one_cons rfl (Eng.one_cons rfl Eng.one_nil)))) ?_
  intro w26 hk26 hg26
  refine Eng.sv rfl rfl (Eng.x_as (v := (.int .i64 80)) rfl rfl) ?_
  refine Eng.nil ?_
  refine hK22 _ _ ?_
  refine Eng.seqk fun K27 hK27 => ?_
  refine Eng.seqk fun K28 hK28 => ?_
  refine Eng.reg ?_
  have hk29 := ((((((hk14).below hb19).below hb20).grown hg21 (fun e => absurd (Option.some.inj e) (Nat.ne_of_lt (Nat.lt_of_lt_of_le hz13 (Nat.le_trans (Nat.le_trans (hg14).size (hb19).size) (Nat.le_refl _)))))).below hb24).below hb25).grown hg26 (fun e => absurd (Option.some.inj e) (Nat.ne_of_lt (Nat.lt_of_lt_of_le hz13 (Nat.le_trans (Nat.le_trans (Nat.le_trans (Nat.le_trans (Nat.le_trans (hg14).size (hb19).size) (hb20).size) (hg21).size) (hb24).size) (Nat.le_refl _)))))
  refine Eng.sv rfl rfl (Eng.x_ldB (v := (.agg #[(.int .i64 0), (.int .i64 0), (.int .i64 0), (.slice none 0 0)])) rfl ag25_wm sz25_wm rfl hk29 rfl rfl) ?_
  refine Eng.sv rfl rfl (Eng.x_ldB (v := (.agg #[(.int .i64 0), (.int .i64 0), (.int .i64 0), (.slice none 0 0)])) rfl ag25_wm sz25_wm rfl hk26 rfl rfl) ?_
  refine Eng.sc rfl (Eng.xc (vl := [(.agg #[(.int .i64 0), (.int .i64 0), (.int .i64 0), (.slice none 0 0)]), (.agg #[(.int .i64 0), (.int .i64 0), (.int .i64 0), (.slice none 0 0)])]) rfl rfl rfl en6_wm) (Sam.same_calls _ _ _ (.slice none 0 0) (.slice none 0 0) [] _ (Eng.ds_nil _) (Eng.ds_nil _)) ?_
  rintro _ w30 ⟨rfl, hb30⟩
  refine Eng.aft_v rfl ?_
  refine Eng.sv rfl rfl (Eng.x_not (v := (.bool false)) rfl rfl rfl) ?_
  refine Eng.sv rfl rfl (Eng.x_mv (v := (.bool false)) rfl rfl) ?_
  refine Eng.sv (Eng.gt rfl rfl rfl rfl) rfl (Eng.x_mv (v := (.int .i64 80)) rfl rfl) ?_
  refine Eng.sv (Eng.gt rfl rfl rfl rfl) rfl (Eng.x_mv (v := (.int .i64 80)) rfl rfl) ?_
  refine Eng.sv (Eng.gt rfl rfl rfl rfl) rfl (Eng.x_ne (r := false) rfl rfl rfl (Eng.ne_f (by omega))) ?_
  refine Eng.sv rfl rfl (Eng.x_pick (v := (.bool false)) rfl rfl rfl rfl rfl) ?_
  refine Eng.sv rfl rfl (Eng.x_mv (v := (.bool false)) rfl rfl) ?_
  refine Eng.sv (Eng.gt rfl rfl rfl rfl) rfl (Eng.x_mv (v := v7) rfl rfl) ?_
  have hB4_6 : Below w7.heap.size w7 w13 := (hb12).trans (hb13.mono (hb12).size)
  have hB4_7 : Below w7.heap.size w7 w14 := (hB4_6).grown hg14 (hB4_6).size (fun k e => by cases e; exact Nat.le_trans (hb12).size (Nat.le_refl _))
  have hB4_8 : Below w7.heap.size w7 w19 := (hB4_7).trans (hb19.mono (hB4_7).size)
  have hB4_9 : Below w7.heap.size w7 w20 := (hB4_8).trans (hb20.mono (hB4_8).size)
  have hB4_10 : Below w7.heap.size w7 w21 := (hB4_9).grown hg21 (hB4_9).size (fun k e => by cases e; exact Nat.le_trans (hB4_8).size (Nat.le_refl _))
  have hB4_11 : Below w7.heap.size w7 w24 := (hB4_10).trans (hb24.mono (hB4_10).size)
  have hr31 := (((((((hr17).below hb19).below hb20).kept hg21 (.inr (fun e => absurd ((World.ownsRow.lt ho7) _ e).2 (Nat.not_lt_of_le (Nat.le_trans (hB4_8).size (Nat.le_refl _)))))).below hb24).below hb25).kept hg26 (.inr (fun e => absurd ((World.ownsRow.lt ho7) _ e).2 (Nat.not_lt_of_le (Nat.le_trans (hB4_11).size (Nat.le_refl _)))))).below hb30
  refine Eng.sv (Eng.gt rfl rfl rfl rfl) rfl (Eng.x_str (v := v7) (bs := ((b) ++ [90])) rfl Try.underlying22 Try.underlying5 Try.underlying9 rfl (hr31).rd) ?_
  refine Eng.sv (Eng.gt rfl rfl rfl rfl) rfl (Eng.x_mv (v := v) rfl rfl) ?_
  have hB0_11 : Below w.heap.size w w24 := (hB0_10).trans (hb24.mono (hB0_10).size)
  have hB0_12 : Below w.heap.size w w25 := (hB0_11).trans (hb25.mono (hB0_11).size)
  have hB0_13 : Below w.heap.size w w26 := (hB0_12).grown hg26 (hB0_12).size (fun k e => by cases e; exact Nat.le_trans (hB0_11).size (Nat.le_refl _))
  have hB0_14 : Below w.heap.size w w30 := (hB0_13).trans (hb30.mono (hB0_13).size)
  have hr32 := (h).below hB0_14
  refine Eng.sv (Eng.gt rfl rfl rfl rfl) rfl (Eng.x_str (v := v) (bs := b) rfl Try.underlying22 Try.underlying5 Try.underlying9 rfl (hr32).1) ?_
  refine Eng.sv (Eng.gt rfl rfl rfl rfl) rfl (Eng.x_addS (p := b) (q := [90]) (r := (b ++ [90])) rfl rfl rfl rfl (by simp; omega)) ?_
  refine Eng.sv (Eng.gt rfl rfl rfl rfl) rfl (Eng.x_neS (p := ((b) ++ [90])) (q := (b ++ [90])) (r := false) rfl rfl rfl (by simp)) ?_
  refine Eng.sv rfl rfl (Eng.x_pick (v := (.bool false)) rfl rfl rfl rfl rfl) ?_
  refine Eng.nil ?_
  refine hK28 _ _ ?_
  refine Eng.cond_f rfl ?_
  refine wp_skip ?_
  refine hK27 _ _ ?_
  refine Eng.seqk fun K33 hK33 => ?_
  refine Eng.seqk fun K34 hK34 => ?_
  refine Eng.reg ?_
  refine Eng.sv rfl rfl (Eng.x_as (v := (.int .i64 0)) rfl rfl) ?_
  refine Eng.nil ?_
  refine hK34 _ _ ?_
  refine wp_block ?_
  have hk36 := (hk29).below hb30
  have hk37 := ((((hk21).below hb24).below hb25).grown hg26 (fun e => absurd (Option.some.inj e) (Nat.ne_of_lt (Nat.lt_of_lt_of_le hz20 (Nat.le_trans (Nat.le_trans (hg21).size (hb24).size) (Nat.le_refl _)))))).below hb30
  have hk38 := (hk26).below hb30
  refine Eng.loopN (fun n u w' => n = 0 ∧ Eng.Has u [(2, (.bool false)), (4, (.pointer (some ⟨w12.heap.size, 0, none⟩))), (6, (.pointer (some ⟨w19.heap.size, 0, none⟩))), (8, (.pointer (some ⟨w24.heap.size, 0, none⟩))), (10, (.int .i64 0))] ∧ Below w.heap.size w w' ∧ w30.heap.size ≤ w'.heap.size ∧ Blk w' w12.heap.size 25 [(.int .i64 0), (.int .i64 0), (.int .i64 0), (.slice none 0 0)] ∧ Blk w' w19.heap.size 25 [(.int .i64 0), (.int .i64 0), (.int .i64 0), (.slice none 0 0)] ∧ Blk w' w24.heap.size 25 [(.int .i64 0), (.int .i64 0), (.int .i64 0), (.slice none 0 0)]) _ ⟨rfl, ⟨rfl, rfl, rfl, rfl, rfl, trivial⟩, hB0_14, (Nat.le_refl _), hk36, hk37, hk38⟩ ?_
  rintro _ u35 w35 ⟨rfl, hH35, hBL35, hzL35, hkL35_0, hkL35_1, hkL35_2⟩ K35 hK35
  obtain ⟨u35, rfl⟩ := hH35.ex
  refine Eng.seqk fun K39 hK39 => ?_
  refine Eng.seqk fun K40 hK40 => ?_
  refine Eng.reg ?_
  refine Eng.sv rfl rfl (Eng.x_mv (v := (.int .i64 0)) rfl rfl) ?_
  refine Eng.sv rfl rfl (Eng.x_fa (v := (.pointer (some ⟨w12.heap.size, 3, none⟩))) rfl rfl (by kernel_rfl)) ?_
  refine Eng.sv rfl rfl (Eng.x_ld1 (v := (.slice none 0 0)) rfl ag23_wm rfl ((hkL35_0).cell 3)) ?_
  refine Eng.sv rfl rfl (Eng.x_len (v := (.slice none 0 0)) (r := (0 : Int)) rfl Try.underlying23 rfl (Row.nil _) rfl) ?_
  refine Eng.sv rfl rfl (Eng.x_lt (r := false) rfl rfl rfl (decide_eq_false (by omega))) ?_
  refine Eng.nil ?_
  refine hK40 _ _ ?_
  refine Eng.cond_f rfl ?_
  refine wp_exit ?_
  refine Eng.te ?_
  refine Eng.te ?_
  refine Eng.be ?_
  refine hK33 _ _ ?_
  refine Eng.seqk fun K41 hK41 => ?_
  refine Eng.reg ?_
  refine Eng.sv rfl rfl (Eng.x_ldB (v := (.agg #[(.int .i64 0), (.int .i64 0), (.int .i64 0), (.slice none 0 0)])) rfl ag25_wm sz25_wm rfl hkL35_1 rfl rfl) ?_
  refine Eng.sv rfl rfl (Eng.x_ldB (v := (.agg #[(.int .i64 0), (.int .i64 0), (.int .i64 0), (.slice none 0 0)])) rfl ag25_wm sz25_wm rfl hkL35_2 rfl rfl) ?_
  refine Eng.sc rfl (Eng.xc (vl := [(.agg #[(.int .i64 0), (.int .i64 0), (.int .i64 0), (.slice none 0 0)]), (.agg #[(.int .i64 0), (.int .i64 0), (.int .i64 0), (.slice none 0 0)])]) rfl rfl rfl en6_wm) (Sam.same_calls _ _ _ (.slice none 0 0) (.slice none 0 0) [] _ (Eng.ds_nil _) (Eng.ds_nil _)) ?_
  rintro _ w42 ⟨rfl, hb42⟩
  refine Eng.aft_v rfl ?_
  refine Eng.sv rfl rfl (Eng.x_mv (v := (.bool true)) rfl rfl) ?_
  refine Eng.sc (Eng.gt rfl rfl rfl rfl) (Eng.xc (vl := []) rfl rfl rfl en7_wm) (Sam.names_calls _) ?_
  rintro _ _ ⟨rfl, rfl⟩
  refine Eng.aft_v rfl ?_
  refine Eng.sv rfl rfl (Eng.x_pick (v := (.bool true)) rfl rfl rfl rfl rfl) ?_
  refine Eng.sv rfl rfl (Eng.x_as (v := (.bool true)) rfl rfl) ?_
  refine Eng.nil ?_
  refine hK41 _ _ ?_
  refine wp_ret ?_
  refine Eng.ret (Eng.res1 (v1 := (.bool true)) rfl (Eng.rdt rfl)) ?_
  have hB0_16 : Below w.heap.size w w42 := (hBL35).trans (hb42.mono (hBL35).size)
  exact ⟨rfl, hB0_16⟩
theorem decodes_law (v : Value) (b : List UInt8) (w : World) (h : Bs w v b) (hl : b.length ≤ 140737488351232) : Calls Try.prog 3 #[v] w fun e w' => e = .returned (.bool true) ∧ Below w.heap.size w w' := by
  rcases Eng.tf (okB b) with hok | hok
  · exact law_ok v b w h hl hok
  · exact law_no v b w h hl hok
end Go.Proofs.Ytojenflknjhmkaa.Wir
