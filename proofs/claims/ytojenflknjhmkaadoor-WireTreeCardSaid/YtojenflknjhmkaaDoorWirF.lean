/- The reference's Decode of a proof. -/
import Derived.Test.YtojenflknjhmkaaDoorWirD
import Derived.Test.YtojenflknjhmkaaDoorEngD
namespace Go.Proofs.YtojenflknjhmkaaDoor.Wir
open Go Go.RowKit Go.Proofs.YtojenflknjhmkaaDoor Go.Proofs.YtojenflknjhmkaaDoor.Cop Go.Proofs.YtojenflknjhmkaaDoor.Ver Go.Proofs.YtojenflknjhmkaaDoor.Oct Go.Proofs.YtojenflknjhmkaaDoor.Dsl
set_option linter.unusedVariables false
set_option linter.unusedSimpArgs false
theorem zr35_wf (w : World) : (zeroValue 35).run Tryd.prog w = .ok (.agg #[(.int .i64 0), (.int .i64 0), (.int .i64 0), (.slice none 0 0)]) w := by kernel_rfl
theorem sz35_wf : (Tryd.prog.info? 35).map (fun i => i.size) = some 4 := by kernel_rfl
theorem ag35_wf (w : World) : (isAgg 35).run Tryd.prog w = .ok true w := by kernel_rfl
theorem sz5_wf : (Tryd.prog.info? 5).map (fun i => i.size) = some 1 := by kernel_rfl
theorem ag5_wf (w : World) : (isAgg 5).run Tryd.prog w = .ok false w := by kernel_rfl
theorem en108_wf : Eng.Entr Tryd.prog 108 := ⟨_, Tryd.func108, by kernel_rfl, by kernel_rfl⟩
theorem en74_wf : Eng.Entr Tryd.prog 74 := ⟨_, Tryd.func74, by kernel_rfl, by kernel_rfl⟩
theorem zr23_wf (w : World) : (zeroValue 23).run Tryd.prog w = .ok (dg Oct.dz) w := by kernel_rfl
theorem sz23_wf : (Tryd.prog.info? 23).map (fun i => i.size) = some 32 := by kernel_rfl
theorem ag29_wf (w : World) : (isAgg 29).run Tryd.prog w = .ok false w := by kernel_rfl
theorem ag23_wf (w : World) : (isAgg 23).run Tryd.prog w = .ok true w := by kernel_rfl
theorem in24_wf : (Tryd.prog.info? 24).map (fun i => (i.zero, i.size, i.bytes)) = some (some (dg Oct.dz), 32, 32) := by kernel_rfl
theorem sz29_wf : (Tryd.prog.info? 29).map (fun i => i.size) = some 1 := by kernel_rfl
theorem en109_wf : Eng.Entr Tryd.prog 109 := ⟨_, Tryd.func109, by kernel_rfl, by kernel_rfl⟩
/-- What both decoders tell: a proof with digests of its own, or none. -/
def DecR (b : List UInt8) (w : World) (e : Ending) (w' : World) : Prop :=
  Below w.heap.size w w' ∧ ((okB b = true ∧ ∃ v', e = .returned (.tuple #[prV (kB b) (fB b) (sB b) v', .int .i64 0]) ∧ Eng.OwnD w.heap.size w' v' (dB b (nB b))) ∨ (okB b = false ∧ e = .returned (.tuple #[prV 0 0 0 (.slice none 0 0), .int .i64 80])))
set_option maxRecDepth 100000 in
set_option maxHeartbeats 4000000 in
theorem rdecode_calls (v : Value) (b : List UInt8) (w : World) (h : Bs w v b) : Calls Tryd.prog 51 #[v] w (DecR b w) := by
  have hnb := nB_lt b
  have hkb := kB_lt b
  have hfb := fB_lt b
  have hsb := sB_lt b
  have hbl := h.2
  refine Eng.enter (l := [v]) Tryd.func51 rfl 86 rfl (by simp) ?_
  refine Eng.seqk fun K1 hK1 => ?_
  refine Eng.reg ?_
  refine Eng.al rfl rfl rfl zr35_wf (cs := [(.int .i64 0), (.int .i64 0), (.int .i64 0), (.slice none 0 0)]) rfl ?_
  intro w2 hk2 hb2 hz2
  refine Eng.sv rfl rfl (Eng.x_as (v := (.int .i64 0)) rfl rfl) ?_
  refine Eng.nil ?_
  refine hK1 _ _ ?_
  refine Eng.seqk fun K3 hK3 => ?_
  refine Eng.seqk fun K4 hK4 => ?_
  refine Eng.reg ?_
  refine Eng.sv rfl rfl (Eng.x_mv (v := v) rfl rfl) ?_
  have hr5 := (h).below hb2
  refine Eng.sv rfl rfl (Eng.x_len (v := v) (r := (b.length : Int)) rfl Tryd.underlying22 rfl (hr5).1 rfl) ?_
  by_cases h17 : ((b.length : Int) : Int) < 18
  · skip
    refine Eng.sv rfl rfl (Eng.x_lt (r := true) rfl rfl rfl (decide_eq_true (by omega))) ?_
    refine Eng.sv rfl rfl (Eng.x_mv (v := (.bool true)) rfl rfl) ?_
    refine Eng.sg (Eng.gf rfl rfl rfl rfl) rfl ?_
    refine Eng.sg (Eng.gf rfl rfl rfl rfl) rfl ?_
    refine Eng.sg (Eng.gf rfl rfl rfl rfl) rfl ?_
    refine Eng.sg (Eng.gf rfl rfl rfl rfl) rfl ?_
    refine Eng.sg (Eng.gf rfl rfl rfl rfl) rfl ?_
    refine Eng.sg (Eng.gf rfl rfl rfl rfl) rfl ?_
    refine Eng.sg (Eng.gf rfl rfl rfl rfl) rfl ?_
    refine Eng.sg (Eng.gf rfl rfl rfl rfl) rfl ?_
    refine Eng.sg (Eng.gf rfl rfl rfl rfl) rfl ?_
    refine Eng.sv rfl rfl (Eng.x_pick (v := (.bool true)) rfl rfl rfl rfl rfl) ?_
    refine Eng.nil ?_
    refine hK4 _ _ ?_
    refine Eng.cond_t rfl ?_
    refine Eng.seqk fun K6 hK6 => ?_
    refine Eng.reg ?_
    refine Eng.sv rfl rfl (Eng.x_build (ps := []) (v := (.agg #[(.int .i64 0), (.int .i64 0), (.int .i64 0), (.slice none 0 0)])) rfl rfl (by kernel_rfl)) ?_
    refine Eng.stB (v := (.agg #[(.int .i64 0), (.int .i64 0), (.int .i64 0), (.slice none 0 0)])) rfl rfl rfl sz35_wf rfl hk2 rfl rfl (cs' := [(.int .i64 0), (.int .i64 0), (.int .i64 0), (.slice none 0 0)]) rfl rfl (Eng.one_cons rfl (Eng.one_cons rfl (Eng.one_cons rfl (Eng.one_cons rfl Eng.one_nil)))) ?_
    intro w7 hk7 hg7
    refine Eng.sv rfl rfl (Eng.x_as (v := (.int .i64 80)) rfl rfl) ?_
    refine Eng.nil ?_
    refine hK6 _ _ ?_
    refine Eng.rt ?_
    refine Eng.tr ?_
    refine Eng.ret (Eng.res2 (v1 := (.agg #[(.int .i64 0), (.int .i64 0), (.int .i64 0), (.slice none 0 0)])) (v2 := (.int .i64 80)) rfl (Eng.rdc rfl (Eng.lvB ag35_wf sz35_wf hk7 rfl rfl)) (Eng.rdt rfl)) ?_
    unfold DecR
    have hB0_2 : Below w.heap.size w w7 := (hb2).grown hg7 (hb2).size (fun k e => by cases e; exact Nat.le_trans (Nat.le_refl _) (Nat.le_refl _))
    exact ⟨hB0_2, .inr ⟨okB_f1 (by omega), rfl⟩⟩
  · skip
    refine Eng.sv rfl rfl (Eng.x_lt (r := false) rfl rfl rfl (decide_eq_false (by omega))) ?_
    refine Eng.sv rfl rfl (Eng.x_mv (v := (.bool false)) rfl rfl) ?_
    refine Eng.sv (Eng.gt rfl rfl rfl rfl) rfl (Eng.x_mv (v := v) rfl rfl) ?_
    refine Eng.sv (Eng.gt rfl rfl rfl rfl) rfl (Eng.x_len (v := v) (r := (b.length : Int)) rfl Tryd.underlying22 rfl (hr5).1 rfl) ?_
    refine Eng.sv (Eng.gt rfl rfl rfl rfl) rfl (Eng.x_mv (v := v) rfl rfl) ?_
    refine Eng.sv (Eng.gt rfl rfl rfl rfl) rfl (Eng.x_ia (v := v) (j := 17) rfl Tryd.underlying22 sz5_wf (by decide) rfl rfl (hr5).1 (by rw [Nat.mul_one]; exact bcs_length _) (rfl) (by omega)) ?_
    refine Eng.sv (Eng.gt rfl rfl rfl rfl) rfl (Eng.x_ld1 (v := (.int .u8 (nB b : Int))) rfl ag5_wf rfl (Eng.rd_at (hr5).1 (by omega))) ?_
    refine Eng.sv (Eng.gt rfl rfl rfl rfl) rfl (Eng.x_conv rfl Tryd.underlying5 Tryd.underlying3 rfl (Eng.w64 (r := (nB b : Int)) (by omega))) ?_
    refine Eng.sv (Eng.gt rfl rfl rfl rfl) rfl (Eng.x_mul rfl rfl rfl (Eng.w64 (r := (32 * (nB b : Int))) (by omega))) ?_
    refine Eng.sv (Eng.gt rfl rfl rfl rfl) rfl (Eng.x_add rfl rfl rfl (Eng.w64 (r := (18 + (32 * (nB b : Int)))) (by omega))) ?_
    by_cases h27 : ((b.length : Int) : Int) ≠ (18 + (32 * (nB b : Int)))
    · skip
      refine Eng.sv (Eng.gt rfl rfl rfl rfl) rfl (Eng.x_ne (r := true) rfl rfl rfl (Eng.ne_t (by omega))) ?_
      refine Eng.sv rfl rfl (Eng.x_pick (v := (.bool true)) rfl rfl rfl rfl rfl) ?_
      refine Eng.nil ?_
      refine hK4 _ _ ?_
      refine Eng.cond_t rfl ?_
      refine Eng.seqk fun K8 hK8 => ?_
      refine Eng.reg ?_
      refine Eng.sv rfl rfl (Eng.x_build (ps := []) (v := (.agg #[(.int .i64 0), (.int .i64 0), (.int .i64 0), (.slice none 0 0)])) rfl rfl (by kernel_rfl)) ?_
      refine Eng.stB (v := (.agg #[(.int .i64 0), (.int .i64 0), (.int .i64 0), (.slice none 0 0)])) rfl rfl rfl sz35_wf rfl hk2 rfl rfl (cs' := [(.int .i64 0), (.int .i64 0), (.int .i64 0), (.slice none 0 0)]) rfl rfl (Eng.one_cons rfl (Eng.one_cons rfl (Eng.one_cons rfl (Eng.one_cons rfl Eng.one_nil)))) ?_
      intro w9 hk9 hg9
      refine Eng.sv rfl rfl (Eng.x_as (v := (.int .i64 80)) rfl rfl) ?_
      refine Eng.nil ?_
      refine hK8 _ _ ?_
      refine Eng.rt ?_
      refine Eng.tr ?_
      refine Eng.ret (Eng.res2 (v1 := (.agg #[(.int .i64 0), (.int .i64 0), (.int .i64 0), (.slice none 0 0)])) (v2 := (.int .i64 80)) rfl (Eng.rdc rfl (Eng.lvB ag35_wf sz35_wf hk9 rfl rfl)) (Eng.rdt rfl)) ?_
      unfold DecR
      have hB0_2 : Below w.heap.size w w9 := (hb2).grown hg9 (hb2).size (fun k e => by cases e; exact Nat.le_trans (Nat.le_refl _) (Nat.le_refl _))
      exact ⟨hB0_2, .inr ⟨okB_f2 (by omega), rfl⟩⟩
    · skip
      refine Eng.sv (Eng.gt rfl rfl rfl rfl) rfl (Eng.x_ne (r := false) rfl rfl rfl (Eng.ne_f (by omega))) ?_
      refine Eng.sv rfl rfl (Eng.x_pick (v := (.bool false)) rfl rfl rfl rfl rfl) ?_
      refine Eng.nil ?_
      refine hK4 _ _ ?_
      refine Eng.cond_f rfl ?_
      refine Eng.skp ?_
      refine hK3 _ _ ?_
      refine Eng.seqk fun K10 hK10 => ?_
      refine Eng.reg ?_
      refine Eng.sv rfl rfl (Eng.x_mv (v := v) rfl rfl) ?_
      refine Eng.sc rfl (Eng.xc (vl := [v, (.int .i64 1), (.int .i64 8)]) rfl rfl rfl en108_wf) ((rread_calls v b 1 8 _ hr5 (by omega) (by omega)).mono fun _ _ => GetR.out) ?_
      rintro _ _ ⟨rfl, rfl⟩
      refine Eng.aft_v rfl ?_
      refine Eng.sv rfl rfl (Eng.x_mv (v := (.tuple #[(.int .u64 (fB b : Int)), (.int .i64 (gn b 1 8)), (.int .i64 (room b.length 1 8))])) rfl rfl) ?_
      refine Eng.sv rfl rfl (Eng.x_ext (v := (.int .u64 (fB b : Int))) rfl rfl rfl) ?_
      refine Eng.sv rfl rfl (Eng.x_ext (v := (.int .i64 (gn b 1 8))) rfl rfl rfl) ?_
      refine Eng.sv rfl rfl (Eng.x_ext (v := (.int .i64 (room b.length 1 8))) rfl rfl rfl) ?_
      refine Eng.sv rfl rfl (Eng.x_as (v := (.int .u64 (fB b : Int))) rfl rfl) ?_
      refine Eng.sv rfl rfl (Eng.x_as (v := (.int .i64 (gn b 1 8))) rfl rfl) ?_
      refine Eng.sv rfl rfl (Eng.x_as (v := (.int .i64 (room b.length 1 8))) rfl rfl) ?_
      refine Eng.nil ?_
      refine hK10 _ _ ?_
      refine Eng.seqk fun K12 hK12 => ?_
      refine Eng.reg ?_
      refine Eng.sv rfl rfl (Eng.x_mv (v := v) rfl rfl) ?_
      refine Eng.sc rfl (Eng.xc (vl := [v, (.int .i64 9), (.int .i64 8)]) rfl rfl rfl en108_wf) ((rread_calls v b 9 8 _ hr5 (by omega) (by omega)).mono fun _ _ => GetR.out) ?_
      rintro _ _ ⟨rfl, rfl⟩
      refine Eng.aft_v rfl ?_
      refine Eng.sv rfl rfl (Eng.x_mv (v := (.tuple #[(.int .u64 (sB b : Int)), (.int .i64 (gn b 9 8)), (.int .i64 (room b.length 9 8))])) rfl rfl) ?_
      refine Eng.sv rfl rfl (Eng.x_ext (v := (.int .u64 (sB b : Int))) rfl rfl rfl) ?_
      refine Eng.sv rfl rfl (Eng.x_ext (v := (.int .i64 (gn b 9 8))) rfl rfl rfl) ?_
      refine Eng.sv rfl rfl (Eng.x_ext (v := (.int .i64 (room b.length 9 8))) rfl rfl rfl) ?_
      refine Eng.sv rfl rfl (Eng.x_as (v := (.int .u64 (sB b : Int))) rfl rfl) ?_
      refine Eng.sv rfl rfl (Eng.x_as (v := (.int .i64 (gn b 9 8))) rfl rfl) ?_
      refine Eng.sv rfl rfl (Eng.x_as (v := (.int .i64 (room b.length 9 8))) rfl rfl) ?_
      refine Eng.nil ?_
      refine hK12 _ _ ?_
      refine Eng.seqk fun K14 hK14 => ?_
      refine Eng.seqk fun K15 hK15 => ?_
      refine Eng.reg ?_
      refine Eng.sv rfl rfl (Eng.x_mv (v := (.int .u64 (fB b : Int))) rfl rfl) ?_
      by_cases h43 : ((fB b : Int) : Int) > 281474976710656
      · skip
        refine Eng.sv rfl rfl (Eng.x_gt (r := true) rfl rfl rfl (decide_eq_true (by omega))) ?_
        refine Eng.sv rfl rfl (Eng.x_mv (v := (.bool true)) rfl rfl) ?_
        refine Eng.sg (Eng.gf rfl rfl rfl rfl) rfl ?_
        refine Eng.sg (Eng.gf rfl rfl rfl rfl) rfl ?_
        refine Eng.sv rfl rfl (Eng.x_pick (v := (.bool true)) rfl rfl rfl rfl rfl) ?_
        refine Eng.nil ?_
        refine hK15 _ _ ?_
        refine Eng.cond_t rfl ?_
        refine Eng.seqk fun K16 hK16 => ?_
        refine Eng.reg ?_
        refine Eng.sv rfl rfl (Eng.x_build (ps := []) (v := (.agg #[(.int .i64 0), (.int .i64 0), (.int .i64 0), (.slice none 0 0)])) rfl rfl (by kernel_rfl)) ?_
        refine Eng.stB (v := (.agg #[(.int .i64 0), (.int .i64 0), (.int .i64 0), (.slice none 0 0)])) rfl rfl rfl sz35_wf rfl hk2 rfl rfl (cs' := [(.int .i64 0), (.int .i64 0), (.int .i64 0), (.slice none 0 0)]) rfl rfl (Eng.one_cons rfl (Eng.one_cons rfl (Eng.one_cons rfl (Eng.one_cons rfl Eng.one_nil)))) ?_
        intro w17 hk17 hg17
        refine Eng.sv rfl rfl (Eng.x_as (v := (.int .i64 80)) rfl rfl) ?_
        refine Eng.nil ?_
        refine hK16 _ _ ?_
        refine Eng.rt ?_
        refine Eng.tr ?_
        refine Eng.ret (Eng.res2 (v1 := (.agg #[(.int .i64 0), (.int .i64 0), (.int .i64 0), (.slice none 0 0)])) (v2 := (.int .i64 80)) rfl (Eng.rdc rfl (Eng.lvB ag35_wf sz35_wf hk17 rfl rfl)) (Eng.rdt rfl)) ?_
        unfold DecR
        have hB0_2 : Below w.heap.size w w17 := (hb2).grown hg17 (hb2).size (fun k e => by cases e; exact Nat.le_trans (Nat.le_refl _) (Nat.le_refl _))
        exact ⟨hB0_2, .inr ⟨okB_f3 (by omega), rfl⟩⟩
      · skip
        refine Eng.sv rfl rfl (Eng.x_gt (r := false) rfl rfl rfl (decide_eq_false (by omega))) ?_
        refine Eng.sv rfl rfl (Eng.x_mv (v := (.bool false)) rfl rfl) ?_
        refine Eng.sv (Eng.gt rfl rfl rfl rfl) rfl (Eng.x_mv (v := (.int .u64 (sB b : Int))) rfl rfl) ?_
        by_cases h46 : ((sB b : Int) : Int) > 281474976710656
        · skip
          refine Eng.sv (Eng.gt rfl rfl rfl rfl) rfl (Eng.x_gt (r := true) rfl rfl rfl (decide_eq_true (by omega))) ?_
          refine Eng.sv rfl rfl (Eng.x_pick (v := (.bool true)) rfl rfl rfl rfl rfl) ?_
          refine Eng.nil ?_
          refine hK15 _ _ ?_
          refine Eng.cond_t rfl ?_
          refine Eng.seqk fun K18 hK18 => ?_
          refine Eng.reg ?_
          refine Eng.sv rfl rfl (Eng.x_build (ps := []) (v := (.agg #[(.int .i64 0), (.int .i64 0), (.int .i64 0), (.slice none 0 0)])) rfl rfl (by kernel_rfl)) ?_
          refine Eng.stB (v := (.agg #[(.int .i64 0), (.int .i64 0), (.int .i64 0), (.slice none 0 0)])) rfl rfl rfl sz35_wf rfl hk2 rfl rfl (cs' := [(.int .i64 0), (.int .i64 0), (.int .i64 0), (.slice none 0 0)]) rfl rfl (Eng.one_cons rfl (Eng.one_cons rfl (Eng.one_cons rfl (Eng.one_cons rfl Eng.one_nil)))) ?_
          intro w19 hk19 hg19
          refine Eng.sv rfl rfl (Eng.x_as (v := (.int .i64 80)) rfl rfl) ?_
          refine Eng.nil ?_
          refine hK18 _ _ ?_
          refine Eng.rt ?_
          refine Eng.tr ?_
          refine Eng.ret (Eng.res2 (v1 := (.agg #[(.int .i64 0), (.int .i64 0), (.int .i64 0), (.slice none 0 0)])) (v2 := (.int .i64 80)) rfl (Eng.rdc rfl (Eng.lvB ag35_wf sz35_wf hk19 rfl rfl)) (Eng.rdt rfl)) ?_
          unfold DecR
          have hB0_2 : Below w.heap.size w w19 := (hb2).grown hg19 (hb2).size (fun k e => by cases e; exact Nat.le_trans (Nat.le_refl _) (Nat.le_refl _))
          exact ⟨hB0_2, .inr ⟨okB_f4 (by omega), rfl⟩⟩
        · skip
          refine Eng.sv (Eng.gt rfl rfl rfl rfl) rfl (Eng.x_gt (r := false) rfl rfl rfl (decide_eq_false (by omega))) ?_
          refine Eng.sv rfl rfl (Eng.x_pick (v := (.bool false)) rfl rfl rfl rfl rfl) ?_
          refine Eng.nil ?_
          refine hK15 _ _ ?_
          refine Eng.cond_f rfl ?_
          refine Eng.skp ?_
          refine hK14 _ _ ?_
          refine Eng.seqk fun K20 hK20 => ?_
          refine Eng.reg ?_
          refine Eng.sv rfl rfl (Eng.x_mv (v := v) rfl rfl) ?_
          refine Eng.sv rfl rfl (Eng.x_ia (v := v) (j := 0) rfl Tryd.underlying22 sz5_wf (by decide) rfl rfl (hr5).1 (by rw [Nat.mul_one]; exact bcs_length _) (rfl) (by omega)) ?_
          refine Eng.sv rfl rfl (Eng.x_ld1 (v := (.int .u8 (kB b : Int))) rfl ag5_wf rfl (Eng.rd_at (hr5).1 (by omega))) ?_
          refine Eng.sv rfl rfl (Eng.x_conv rfl Tryd.underlying5 Tryd.underlying3 rfl (Eng.w64 (r := (kB b : Int)) (by omega))) ?_
          refine Eng.sv rfl rfl (Eng.x_mv (v := (.int .u64 (fB b : Int))) rfl rfl) ?_
          refine Eng.sv rfl rfl (Eng.x_conv rfl Tryd.underlying101 Tryd.underlying3 rfl (Eng.w64 (r := (fB b : Int)) (by omega))) ?_
          refine Eng.sv rfl rfl (Eng.x_mv (v := (.int .u64 (sB b : Int))) rfl rfl) ?_
          refine Eng.sv rfl rfl (Eng.x_conv rfl Tryd.underlying101 Tryd.underlying3 rfl (Eng.w64 (r := (sB b : Int)) (by omega))) ?_
          refine Eng.sv rfl rfl (Eng.x_build (ps := [(0, (.int .i64 (kB b : Int))), (1, (.int .i64 (fB b : Int))), (2, (.int .i64 (sB b : Int)))]) (v := (.agg #[(.int .i64 (kB b : Int)), (.int .i64 (fB b : Int)), (.int .i64 (sB b : Int)), (.slice none 0 0)])) rfl rfl (by kernel_rfl)) ?_
          refine Eng.al rfl rfl rfl zr35_wf (cs := [(.int .i64 0), (.int .i64 0), (.int .i64 0), (.slice none 0 0)]) rfl ?_
          intro w21 hk21 hb21 hz21
          refine Eng.stB (v := (.agg #[(.int .i64 (kB b : Int)), (.int .i64 (fB b : Int)), (.int .i64 (sB b : Int)), (.slice none 0 0)])) rfl rfl rfl sz35_wf rfl hk21 rfl rfl (cs' := [(.int .i64 (kB b : Int)), (.int .i64 (fB b : Int)), (.int .i64 (sB b : Int)), (.slice none 0 0)]) rfl rfl (Eng.one_cons rfl (Eng.one_cons rfl (Eng.one_cons rfl (Eng.one_cons rfl Eng.one_nil)))) ?_
          intro w22 hk22 hg22
          refine Eng.nil ?_
          refine hK20 _ _ ?_
          refine Eng.seqk fun K23 hK23 => ?_
          refine Eng.seqk fun K24 hK24 => ?_
          refine Eng.reg ?_
          refine Eng.sv rfl rfl (Eng.x_as (v := (.int .i64 0)) rfl rfl) ?_
          refine Eng.nil ?_
          refine hK24 _ _ ?_
          refine Eng.blk ?_
          have hk26 := ((hk2).below hb21).grown hg22 (fun e => absurd (Option.some.inj e) (Nat.ne_of_lt (Nat.lt_of_lt_of_le hz2 (Nat.le_trans (Nat.le_refl _) (Nat.le_refl _)))))
          have hB0_2 : Below w.heap.size w w21 := (hb2).trans (hb21.mono (hb2).size)
          have hB0_3 : Below w.heap.size w w22 := (hB0_2).grown hg22 (hB0_2).size (fun k e => by cases e; exact Nat.le_trans (hb2).size (Nat.le_refl _))
          refine Eng.loopN (fun zz u w' => ∃ (k : Nat), ∃ (vp : Value), zz = nB b - k ∧ k ≤ nB b ∧ Eng.Has u [(0, v), (2, (.pointer (some ⟨w.heap.size, 0, none⟩))), (3, (.int .i64 0)), (10, (.pointer (some ⟨w2.heap.size, 0, none⟩))), (11, (.int .i64 (k : Int)))] ∧ Below w.heap.size w w' ∧ w22.heap.size ≤ w'.heap.size ∧ Blk w' w.heap.size 35 [(.int .i64 0), (.int .i64 0), (.int .i64 0), (.slice none 0 0)] ∧ Blk w' w2.heap.size 35 [(.int .i64 (kB b : Int)), (.int .i64 (fB b : Int)), (.int .i64 (sB b : Int)), vp] ∧ Eng.OwnD w22.heap.size w' vp (dB b k)) _ ⟨0, (.slice none 0 0), rfl, by omega, ⟨rfl, rfl, rfl, rfl, (Eng.ie (by first | omega | rfl)), trivial⟩, hB0_3, (Nat.le_refl _), hk26, hk22, (Eng.OwnD.nil _ _)⟩ ?_
          rintro _ u25 w25 ⟨k, vp, rfl, hs25_0, hH25, hBL25, hzL25, hkL25_0, hkL25_1, hrL25_0⟩ K25 hK25
          obtain ⟨u25, rfl⟩ := hH25.ex
          refine Eng.seqk fun K27 hK27 => ?_
          refine Eng.seqk fun K28 hK28 => ?_
          refine Eng.reg ?_
          refine Eng.sv rfl rfl (Eng.x_mv (v := (.int .i64 (k : Int))) rfl rfl) ?_
          refine Eng.sv rfl rfl (Eng.x_mv (v := v) rfl rfl) ?_
          have hr29 := (h).below hBL25
          refine Eng.sv rfl rfl (Eng.x_ia (v := v) (j := 17) rfl Tryd.underlying22 sz5_wf (by decide) rfl rfl (hr29).1 (by rw [Nat.mul_one]; exact bcs_length _) (rfl) (by omega)) ?_
          refine Eng.sv rfl rfl (Eng.x_ld1 (v := (.int .u8 (nB b : Int))) rfl ag5_wf rfl (Eng.rd_at (hr29).1 (by omega))) ?_
          refine Eng.sv rfl rfl (Eng.x_conv rfl Tryd.underlying5 Tryd.underlying3 rfl (Eng.w64 (r := (nB b : Int)) (by omega))) ?_
          by_cases h63 : ((k : Int) : Int) < (nB b : Int)
          · skip
            refine Eng.sv rfl rfl (Eng.x_lt (r := true) rfl rfl rfl (decide_eq_true (by omega))) ?_
            refine Eng.nil ?_
            refine hK28 _ _ ?_
            refine Eng.cond_t rfl ?_
            refine Eng.skp ?_
            refine hK27 _ _ ?_
            refine Eng.seqk fun K30 hK30 => ?_
            refine Eng.blk ?_
            refine Eng.seqk fun K31 hK31 => ?_
            refine Eng.reg ?_
            refine Eng.sv rfl rfl (Eng.x_mv (v := v) rfl rfl) ?_
            refine Eng.sv rfl rfl (Eng.x_mv (v := (.int .i64 (k : Int))) rfl rfl) ?_
            refine Eng.sv rfl rfl (Eng.x_mul rfl rfl rfl (Eng.w64 (r := (32 * (k : Int))) (by omega))) ?_
            refine Eng.sv rfl rfl (Eng.x_add rfl rfl rfl (Eng.w64 (r := (18 + (32 * (k : Int)))) (by omega))) ?_
            refine Eng.sc rfl (Eng.xc (vl := [v, (.int .i64 (18 + (32 * (k : Int))))]) rfl rfl rfl en74_wf) ((rdig_calls v b (18 + 32 * (k : Int)) _ hr29 (by omega)).mono fun _ _ => GetD.out) ?_
            rintro _ w32 ⟨rfl, hb32⟩
            refine Eng.aft_v rfl ?_
            refine Eng.sv rfl rfl (Eng.x_mv (v := (.tuple #[(dg (gd b (18 + 32 * (k : Int)))), (.int .i64 (gn b (18 + 32 * (k : Int)) 32)), (.int .i64 (room b.length (18 + 32 * (k : Int)) 32))])) rfl rfl) ?_
            refine Eng.sv rfl rfl (Eng.x_ext (v := (dg (gd b (18 + 32 * (k : Int))))) rfl rfl rfl) ?_
            refine Eng.sv rfl rfl (Eng.x_ext (v := (.int .i64 (gn b (18 + 32 * (k : Int)) 32))) rfl rfl rfl) ?_
            refine Eng.sv rfl rfl (Eng.x_ext (v := (.int .i64 (room b.length (18 + 32 * (k : Int)) 32))) rfl rfl rfl) ?_
            refine Eng.al rfl rfl rfl zr23_wf (cs := (bcs Oct.dz)) rfl ?_
            intro w33 hk33 hb33 hz33
            refine Eng.stB (v := (dg (gd b (18 + 32 * (k : Int))))) rfl rfl rfl sz23_wf rfl hk33 rfl rfl (cs' := (bcs (gd b (18 + 32 * (k : Int))))) rfl ((bcs_length _).trans (gd_length _ _)) (bcs_one _) ?_
            intro w34 hk34 hg34
            refine Eng.sv rfl rfl (Eng.x_as (v := (.int .i64 (gn b (18 + 32 * (k : Int)) 32))) rfl rfl) ?_
            refine Eng.sv rfl rfl (Eng.x_as (v := (.int .i64 (room b.length (18 + 32 * (k : Int)) 32))) rfl rfl) ?_
            refine Eng.nil ?_
            refine hK31 _ _ ?_
            refine Eng.reg ?_
            refine Eng.sv rfl rfl (Eng.x_fa (v := (.pointer (some ⟨w2.heap.size, 3, none⟩))) rfl rfl (by kernel_rfl)) ?_
            have hk35 := (((hkL25_1).below hb32).below hb33).grown hg34 (fun e => absurd (Option.some.inj e) (Nat.ne_of_lt (Nat.lt_of_lt_of_le hz21 (Nat.le_trans (Nat.le_trans (Nat.le_trans (hg22).size hzL25) (hb32).size) (Nat.le_refl _)))))
            refine Eng.sv rfl rfl (Eng.x_ld1 (v := vp) rfl ag29_wf rfl ((hk35).cell 3)) ?_
            refine Eng.sv rfl rfl (Eng.x_ldB (v := (dg (gd b (18 + 32 * (k : Int))))) rfl ag23_wf sz23_wf rfl hk34 ((bcs_length _).trans (gd_length _ _)) rfl) ?_
            refine Eng.bs (vs := [(dg (gd b (18 + 32 * (k : Int))))]) (cs := (Dsl.dcs [(gd b (18 + 32 * (k : Int)))])) rfl rfl rfl Tryd.underlying29 in24_wf (dg_size dz_length) (by decide) rfl rfl (by decide) (by decide) (Eng.all_cons (p := fun v => v.cells.size = 32) (Eng.dg_cells (gd_length _ _)) Eng.all_nil) (by simp [Dsl.dcs, Value.cells]) ?_
            intro w36 hk36 hb36 hz36
            have hr38 := ((((hrL25_0).below hb32).below hb33).kept hg34 (.inr (fun e => absurd ((World.ownsRow.lt (hrL25_0).1) _ e).2 (Nat.not_lt_of_le (Nat.le_trans (hb32).size (Nat.le_refl _)))))).below hb36
            refine Eng.apD rfl rfl rfl rfl hr38 rfl (Eng.ds_lit hk36 (Eng.all32_one (gd_length _ _)) (Nat.le_of_ble_eq_true rfl)) (by simp only [dB_length, List.length_singleton]; omega) (Nat.le_trans (Nat.le_trans (Nat.le_trans (Nat.le_trans hzL25 (hb32).size) (hb33).size) (hg34).size) (hb36).size) ?_
            intro v37 w37 ho37 hg37
            rw [← dB_succ] at ho37
            refine Eng.sv rfl rfl (Eng.x_fa (v := (.pointer (some ⟨w2.heap.size, 3, none⟩))) rfl rfl (by kernel_rfl)) ?_
            have hk39 := ((hk35).below hb36).grown hg37 (fun e => absurd ((World.ownsRow.lt (hrL25_0).1) _ e.symm).1 (Nat.not_le_of_lt (Nat.lt_of_lt_of_le hz21 (hg22).size)))
            refine Eng.stC (v := v37) rfl rfl rfl sz29_wf rfl hk39 (Nat.le_of_ble_eq_true rfl) rfl (Eng.Row.one (ho37).row) (Eng.Row.cells1 (ho37).row) (cs' := [(.int .i64 (kB b : Int)), (.int .i64 (fB b : Int)), (.int .i64 (sB b : Int)), v37]) rfl ?_
            intro w40 hk40 hg40
            refine Eng.nil ?_
            refine Eng.nb ?_
            refine hK30 _ _ ?_
            refine Eng.reg ?_
            refine Eng.sv rfl rfl (Eng.x_mv (v := (.int .i64 (k : Int))) rfl rfl) ?_
            refine Eng.sv rfl rfl (Eng.x_add rfl rfl rfl (Eng.w64 (r := ((k : Int) + 1)) (by omega))) ?_
            refine Eng.sv rfl rfl (Eng.x_as (v := (.int .i64 ((k : Int) + 1))) rfl rfl) ?_
            refine Eng.nil ?_
            have hr41 := (ho37).kept hg40 (.inr (fun e => absurd ((World.ownsRow.lt (ho37).1) _ e).1 (Nat.not_le_of_lt (Nat.lt_of_lt_of_le hz21 (hg22).size))))
            have hB0_5 : Below w.heap.size w w32 := (hBL25).trans (hb32.mono (hBL25).size)
            have hB0_6 : Below w.heap.size w w33 := (hB0_5).trans (hb33.mono (hB0_5).size)
            have hB0_7 : Below w.heap.size w w34 := (hB0_6).grown hg34 (hB0_6).size (fun k e => by cases e; exact Nat.le_trans (hB0_5).size (Nat.le_refl _))
            have hB0_8 : Below w.heap.size w w36 := (hB0_7).trans (hb36.mono (hB0_7).size)
            have hB0_9 : Below w.heap.size w w37 := (hB0_8).grown hg37 (hB0_8).size (fun k e => Nat.le_trans (hB0_3).size ((World.ownsRow.lt (hrL25_0).1) _ e).1)
            have hB0_10 : Below w.heap.size w w40 := (hB0_9).grown hg40 (hB0_9).size (fun k e => by cases e; exact Nat.le_trans (hb2).size (Nat.le_refl _))
            have hB1_3 : Below w2.heap.size w2 w22 := (hb21).grown hg22 (hb21).size (fun k e => by cases e; exact Nat.le_trans (Nat.le_refl _) (Nat.le_refl _))
            have hk42 := ((((((hkL25_0).below hb32).below hb33).grown hg34 (fun e => absurd (Option.some.inj e) (Nat.ne_of_lt (Nat.lt_of_lt_of_le hz2 (Nat.le_trans (Nat.le_trans (Nat.le_trans (hB1_3).size hzL25) (hb32).size) (Nat.le_refl _)))))).below hb36).grown hg37 (fun e => absurd ((World.ownsRow.lt (hrL25_0).1) _ e.symm).1 (Nat.not_le_of_lt (Nat.lt_of_lt_of_le hz2 (hB1_3).size)))).grown hg40 (fun e => absurd (Option.some.inj e) (Nat.ne_of_lt (Nat.lt_of_lt_of_le hz2 (Nat.le_trans (Nat.le_refl _) (Nat.le_refl _)))))
            exact hK25 _ _ _ ⟨k + 1, v37, rfl, by omega, ⟨rfl, rfl, rfl, rfl, (Eng.ie (by first | omega | rfl)), trivial⟩, hB0_10, (Nat.le_trans (Nat.le_trans (Nat.le_trans (Nat.le_trans (Nat.le_trans (Nat.le_trans hzL25 (hb32).size) (hb33).size) (hg34).size) (hb36).size) (hg37).size) (hg40).size), hk42, hk40, hr41⟩ (by omega)
          · skip
            refine Eng.sv rfl rfl (Eng.x_lt (r := false) rfl rfl rfl (decide_eq_false (by omega))) ?_
            refine Eng.nil ?_
            refine hK28 _ _ ?_
            refine Eng.cond_f rfl ?_
            refine Eng.xt ?_
            refine Eng.te ?_
            refine Eng.te ?_
            refine Eng.be ?_
            refine hK23 _ _ ?_
            refine Eng.seqk fun K43 hK43 => ?_
            refine Eng.seqk fun K44 hK44 => ?_
            refine Eng.reg ?_
            refine Eng.sv rfl rfl (Eng.x_ldB (v := (.agg #[(.int .i64 (kB b : Int)), (.int .i64 (fB b : Int)), (.int .i64 (sB b : Int)), vp])) rfl ag35_wf sz35_wf rfl hkL25_1 rfl rfl) ?_
            refine Eng.sc rfl (Eng.xc (vl := [(.agg #[(.int .i64 (kB b : Int)), (.int .i64 (fB b : Int)), (.int .i64 (sB b : Int)), vp])]) rfl rfl rfl en109_wf) (rvalid_row _ _ _ vp (dB b k) _ (hrL25_0).ds) ?_
            rintro _ w45 ⟨rfl, hb45⟩
            refine Eng.aft_v rfl ?_
            refine Eng.sv rfl rfl (Eng.x_not (v := (.bool (!(valB (kB b) (fB b) (sB b) (dB b k).length)))) rfl rfl rfl) ?_
            refine Eng.nil ?_
            refine hK44 _ _ ?_
            refine Eng.cond_b rfl (fun hc46 => ?_) (fun hc46 => ?_)
            · skip
              refine Eng.seqk fun K47 hK47 => ?_
              refine Eng.reg ?_
              refine Eng.sv rfl rfl (Eng.x_build (ps := []) (v := (.agg #[(.int .i64 0), (.int .i64 0), (.int .i64 0), (.slice none 0 0)])) rfl rfl (by kernel_rfl)) ?_
              have hk48 := (hkL25_0).below hb45
              refine Eng.stB (v := (.agg #[(.int .i64 0), (.int .i64 0), (.int .i64 0), (.slice none 0 0)])) rfl rfl rfl sz35_wf rfl hk48 rfl rfl (cs' := [(.int .i64 0), (.int .i64 0), (.int .i64 0), (.slice none 0 0)]) rfl rfl (Eng.one_cons rfl (Eng.one_cons rfl (Eng.one_cons rfl (Eng.one_cons rfl Eng.one_nil)))) ?_
              intro w49 hk49 hg49
              refine Eng.sv rfl rfl (Eng.x_as (v := (.int .i64 80)) rfl rfl) ?_
              refine Eng.nil ?_
              refine hK47 _ _ ?_
              refine Eng.rt ?_
              refine Eng.tr ?_
              refine Eng.ret (Eng.res2 (v1 := (.agg #[(.int .i64 0), (.int .i64 0), (.int .i64 0), (.slice none 0 0)])) (v2 := (.int .i64 80)) rfl (Eng.rdc rfl (Eng.lvB ag35_wf sz35_wf hk49 rfl rfl)) (Eng.rdt rfl)) ?_
              unfold DecR
              have hB0_5 : Below w.heap.size w w45 := (hBL25).trans (hb45.mono (hBL25).size)
              have hB0_6 : Below w.heap.size w w49 := (hB0_5).grown hg49 (hB0_5).size (fun k e => by cases e; exact Nat.le_trans (Nat.le_refl _) (Nat.le_refl _))
              have hkn : k = nB b := by omega
              have hok := okB_v (by omega) (by omega) (by omega : fB b ≤ 281474976710656) (by omega)
              rw [dB_length, hkn] at hc46
              exact ⟨hB0_6, .inr ⟨by rw [hok]; simpa using hc46, rfl⟩⟩
            · skip
              refine Eng.skp ?_
              refine hK43 _ _ ?_
              refine Eng.seqk fun K50 hK50 => ?_
              refine Eng.reg ?_
              have hk51 := (hkL25_1).below hb45
              refine Eng.sv rfl rfl (Eng.x_ldB (v := (.agg #[(.int .i64 (kB b : Int)), (.int .i64 (fB b : Int)), (.int .i64 (sB b : Int)), vp])) rfl ag35_wf sz35_wf rfl hk51 rfl rfl) ?_
              have hk52 := (hkL25_0).below hb45
              have hr54 := (hrL25_0).below hb45
              refine Eng.stB (v := (.agg #[(.int .i64 (kB b : Int)), (.int .i64 (fB b : Int)), (.int .i64 (sB b : Int)), vp])) rfl rfl rfl sz35_wf rfl hk52 rfl rfl (cs' := [(.int .i64 (kB b : Int)), (.int .i64 (fB b : Int)), (.int .i64 (sB b : Int)), vp]) rfl rfl (Eng.one_cons rfl (Eng.one_cons rfl (Eng.one_cons rfl (Eng.one_cons (Eng.Row.one (hr54).row) Eng.one_nil)))) ?_
              intro w53 hk53 hg53
              refine Eng.sv rfl rfl (Eng.x_as (v := (.int .i64 0)) rfl rfl) ?_
              refine Eng.nil ?_
              refine hK50 _ _ ?_
              refine Eng.rt ?_
              refine Eng.ret (Eng.res2 (v1 := (.agg #[(.int .i64 (kB b : Int)), (.int .i64 (fB b : Int)), (.int .i64 (sB b : Int)), vp])) (v2 := (.int .i64 0)) rfl (Eng.rdc rfl (Eng.lvB ag35_wf sz35_wf hk53 rfl rfl)) (Eng.rdt rfl)) ?_
              unfold DecR
              have hB0_5 : Below w.heap.size w w45 := (hBL25).trans (hb45.mono (hBL25).size)
              have hB0_6 : Below w.heap.size w w53 := (hB0_5).grown hg53 (hB0_5).size (fun k e => by cases e; exact Nat.le_trans (Nat.le_refl _) (Nat.le_refl _))
              have hkn : k = nB b := by omega
              have hok := okB_v (by omega) (by omega) (by omega : fB b ≤ 281474976710656) (by omega)
              rw [dB_length, hkn] at hc46
              have hB1_3 : Below w2.heap.size w2 w22 := (hb21).grown hg22 (hb21).size (fun k e => by cases e; exact Nat.le_trans (Nat.le_refl _) (Nat.le_refl _))
              have hr55 := (hr54).kept hg53 (.inr (fun e => absurd ((World.ownsRow.lt (hrL25_0).1) _ e).1 (Nat.not_le_of_lt (Nat.lt_of_lt_of_le hz2 (hB1_3).size))))
              rw [hkn] at hr55
              exact ⟨hB0_6, .inl ⟨by rw [hok]; simpa using hc46, _, rfl, (hr55).mono (hB0_3).size⟩⟩
end Go.Proofs.YtojenflknjhmkaaDoor.Wir
