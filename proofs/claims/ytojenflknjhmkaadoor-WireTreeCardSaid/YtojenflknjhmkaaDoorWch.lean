/- wire.Check, CheckTwo and the reference's; the law WireChecks. -/
import Derived.Test.YtojenflknjhmkaaDoorVfz
import Derived.Test.YtojenflknjhmkaaDoorWirH
import Derived.Test.YtojenflknjhmkaaDoorWirF
namespace Go.Proofs.YtojenflknjhmkaaDoor.Wch
open Go Go.RowKit Go.Proofs.YtojenflknjhmkaaDoor Go.Proofs.YtojenflknjhmkaaDoor.Cop Go.Proofs.YtojenflknjhmkaaDoor.Ver Go.Proofs.YtojenflknjhmkaaDoor.Tre Go.Proofs.YtojenflknjhmkaaDoor.Oct Go.Proofs.YtojenflknjhmkaaDoor.Dsl Go.Proofs.YtojenflknjhmkaaDoor.Sha Go.Proofs.YtojenflknjhmkaaDoor.Vfy Go.Proofs.YtojenflknjhmkaaDoor.Wir
set_option linter.unusedVariables false
set_option linter.unusedSimpArgs false
theorem en29_wk : Eng.Entr Tryd.prog 29 := ⟨_, Tryd.func29, by kernel_rfl, by kernel_rfl⟩
theorem zr35_wk (w : World) : (zeroValue 35).run Tryd.prog w = .ok (.agg #[(.int .i64 0), (.int .i64 0), (.int .i64 0), (.slice none 0 0)]) w := by kernel_rfl
theorem sz35_wk : (Tryd.prog.info? 35).map (fun i => i.size) = some 4 := by kernel_rfl
theorem ag3_wk (w : World) : (isAgg 3).run Tryd.prog w = .ok false w := by kernel_rfl
theorem ag24_wk (w : World) : (isAgg 24).run Tryd.prog w = .ok true w := by kernel_rfl
theorem sz24_wk : (Tryd.prog.info? 24).map (fun i => i.size) = some 32 := by kernel_rfl
theorem ag29_wk (w : World) : (isAgg 29).run Tryd.prog w = .ok false w := by kernel_rfl
theorem en50_wk : Eng.Entr Tryd.prog 50 := ⟨_, Tryd.func50, by kernel_rfl, by kernel_rfl⟩
theorem en51_wk : Eng.Entr Tryd.prog 51 := ⟨_, Tryd.func51, by kernel_rfl, by kernel_rfl⟩
theorem en52_wk : Eng.Entr Tryd.prog 52 := ⟨_, Tryd.func52, by kernel_rfl, by kernel_rfl⟩
theorem en53_wk : Eng.Entr Tryd.prog 53 := ⟨_, Tryd.func53, by kernel_rfl, by kernel_rfl⟩
theorem en54_wk : Eng.Entr Tryd.prog 54 := ⟨_, Tryd.func54, by kernel_rfl, by kernel_rfl⟩
theorem sz5_wk : (Tryd.prog.info? 5).map (fun i => i.size) = some 1 := by kernel_rfl
theorem en14_wk : Eng.Entr Tryd.prog 14 := ⟨_, Tryd.func14, by kernel_rfl, by kernel_rfl⟩
theorem en15_wk : Eng.Entr Tryd.prog 15 := ⟨_, Tryd.func15, by kernel_rfl, by kernel_rfl⟩
theorem en16_wk : Eng.Entr Tryd.prog 16 := ⟨_, Tryd.func16, by kernel_rfl, by kernel_rfl⟩
theorem en17_wk : Eng.Entr Tryd.prog 17 := ⟨_, Tryd.func17, by kernel_rfl, by kernel_rfl⟩
theorem dec_ok {b : List UInt8} {w w' : World} {e : Ending} (h : DecR b w e w') (hk : okB b = true) : ∃ v', e = .returned (.tuple #[prV (kB b) (fB b) (sB b) v', .int .i64 0]) ∧ Eng.OwnD w.heap.size w' v' (dB b (nB b)) ∧ Below w.heap.size w w' := by
  obtain ⟨hb, ⟨_, v, h1, h2⟩ | ⟨h1, _⟩⟩ := h
  · exact ⟨v, h1, h2, hb⟩
  · rw [hk] at h1; cases h1
theorem dec_no {b : List UInt8} {w w' : World} {e : Ending} (h : DecR b w e w') (hk : okB b = false) : e = .returned (.tuple #[prV 0 0 0 (.slice none 0 0), .int .i64 80]) ∧ Below w.heap.size w w' := by
  obtain ⟨hb, ⟨h1, _⟩ | ⟨_, h1⟩⟩ := h
  · rw [hk] at h1; cases h1
  · exact ⟨h1, hb⟩
/-- What bytes tell of a leaf and a root, and of two roots. -/
def chk1 (b x y : List UInt8) : Int := if okB b then (if kB b = 1 then inclE (rootE (fB b) (sB b) (dB b (nB b)).length) (rootD x (fB b) (sB b) (dB b (nB b))) y else 2) else 80
def chk2 (b x y : List UInt8) : Int := if okB b then (if kB b = 2 then consE (rootsE (fB b) (sB b) (dB b (nB b)).length) (rootsD x (fB b) (sB b) (dB b (nB b))) (x, y) else 2) else 80
set_option maxRecDepth 100000 in
set_option maxHeartbeats 4000000 in
theorem chk1_ok (v : Value) (b x y : List UInt8) (w : World) (h : Bs w v b) (hx : x.length = 32) (hy : y.length = 32) (hK : Kon w) (hok : okB b = true) : Calls Tryd.prog 14 #[v, (dg x), (dg y)] w (fun e w' => e = .returned (.int .i64 (chk1 b x y)) ∧ Below w.heap.size w w') := by
  have hkb := kB_lt b
  refine Eng.enter (l := [v, (dg x), (dg y)]) Tryd.func14 rfl 31 rfl (by simp) ?_
  refine Eng.seqk fun K1 hK1 => ?_
  refine Eng.reg ?_
  refine Eng.bo (v := (dg x)) (cs := (bcs x)) rfl rfl rfl rfl rfl ?_
  intro w2 hk2 hb2 hz2
  refine Eng.bo (v := (dg y)) (cs := (bcs y)) rfl rfl rfl rfl rfl ?_
  intro w3 hk3 hb3 hz3
  refine Eng.sv rfl rfl (Eng.x_as (v := (.int .i64 0)) rfl rfl) ?_
  refine Eng.nil ?_
  refine hK1 _ _ ?_
  refine Eng.seqk fun K4 hK4 => ?_
  refine Eng.reg ?_
  refine Eng.sv rfl rfl (Eng.x_mv (v := v) rfl rfl) ?_
  have hB0_2 : Below w.heap.size w w3 := (hb2).trans (hb3.mono (hb2).size)
  have hr5 := (h).below hB0_2
  refine Eng.sc rfl (Eng.xc (vl := [v]) rfl rfl rfl en29_wk) ((decode_calls v b _ hr5).mono fun _ _ h => dec_ok h hok) ?_
  rintro _ w6 ⟨vx, rfl, ho6, hb6⟩
  refine Eng.aft_v rfl ?_
  refine Eng.sv rfl rfl (Eng.x_mv (v := (.tuple #[(.agg #[(.int .i64 (kB b : Int)), (.int .i64 (fB b : Int)), (.int .i64 (sB b : Int)), vx]), (.int .i64 0)])) rfl rfl) ?_
  refine Eng.sv rfl rfl (Eng.x_ext (v := (.agg #[(.int .i64 (kB b : Int)), (.int .i64 (fB b : Int)), (.int .i64 (sB b : Int)), vx])) rfl rfl rfl) ?_
  refine Eng.sv rfl rfl (Eng.x_ext (v := (.int .i64 0)) rfl rfl rfl) ?_
  refine Eng.al rfl rfl rfl zr35_wk (cs := [(.int .i64 0), (.int .i64 0), (.int .i64 0), (.slice none 0 0)]) rfl ?_
  intro w7 hk7 hb7 hz7
  have hr9 := (ho6).below hb7
  refine Eng.stB (v := (.agg #[(.int .i64 (kB b : Int)), (.int .i64 (fB b : Int)), (.int .i64 (sB b : Int)), vx])) rfl rfl rfl sz35_wk rfl hk7 rfl rfl (cs' := [(.int .i64 (kB b : Int)), (.int .i64 (fB b : Int)), (.int .i64 (sB b : Int)), vx]) rfl rfl (Eng.one_cons rfl (Eng.one_cons rfl (Eng.one_cons rfl (Eng.one_cons (Eng.Row.one (hr9).row) Eng.one_nil)))) ?_
  intro w8 hk8 hg8
  refine Eng.sv rfl rfl (Eng.x_as (v := (.int .i64 0)) rfl rfl) ?_
  refine Eng.nil ?_
  refine hK4 _ _ ?_
  refine Eng.seqk fun K10 hK10 => ?_
  refine Eng.blk ?_
  refine Eng.seqk fun K11 hK11 => ?_
  refine Eng.reg ?_
  refine Eng.sv rfl rfl (Eng.x_mv (v := (.int .i64 0)) rfl rfl) ?_
  refine Eng.sv rfl rfl (Eng.x_ne (r := false) rfl rfl rfl (Eng.ne_f (by omega))) ?_
  refine Eng.sv rfl rfl (Eng.x_as (v := (.bool false)) rfl rfl) ?_
  refine Eng.nil ?_
  refine hK11 _ _ ?_
  refine Eng.cond_f rfl ?_
  refine Eng.seqk fun K12 hK12 => ?_
  refine Eng.reg ?_
  refine Eng.sv rfl rfl (Eng.x_fa (v := (.pointer (some ⟨w6.heap.size, 0, none⟩))) rfl rfl (by kernel_rfl)) ?_
  refine Eng.sv rfl rfl (Eng.x_ld1 (v := (.int .i64 (kB b : Int))) rfl ag3_wk rfl ((hk8).cell 0)) ?_
  by_cases h21 : ((kB b : Int) : Int) ≠ 1
  · skip
    refine Eng.sv rfl rfl (Eng.x_ne (r := true) rfl rfl rfl (Eng.ne_t (by omega))) ?_
    refine Eng.sv rfl rfl (Eng.x_as (v := (.bool true)) rfl rfl) ?_
    refine Eng.nil ?_
    refine hK12 _ _ ?_
    refine Eng.cond_t rfl ?_
    refine Eng.seqk fun K13 hK13 => ?_
    refine Eng.reg ?_
    refine Eng.sv rfl rfl (Eng.x_as (v := (.int .i64 2)) rfl rfl) ?_
    refine Eng.nil ?_
    refine hK13 _ _ ?_
    refine Eng.rt ?_
    refine Eng.br ?_
    refine Eng.tr ?_
    refine Eng.ret (Eng.res1 (v1 := (.int .i64 2)) rfl (Eng.rdt rfl)) ?_
    have hB0_3 : Below w.heap.size w w6 := (hB0_2).trans (hb6.mono (hB0_2).size)
    have hB0_4 : Below w.heap.size w w7 := (hB0_3).trans (hb7.mono (hB0_3).size)
    have hB0_5 : Below w.heap.size w w8 := (hB0_4).grown hg8 (hB0_4).size (fun k e => by cases e; exact Nat.le_trans (hB0_3).size (Nat.le_refl _))
    have hk : kB b ≠ 1 := by omega
    exact ⟨by simp [chk1, hok, hk], hB0_5⟩
  · skip
    refine Eng.sv rfl rfl (Eng.x_ne (r := false) rfl rfl rfl (Eng.ne_f (by omega))) ?_
    refine Eng.sv rfl rfl (Eng.x_as (v := (.bool false)) rfl rfl) ?_
    refine Eng.nil ?_
    refine hK12 _ _ ?_
    refine Eng.cond_f rfl ?_
    refine Eng.skp ?_
    refine Eng.nb ?_
    refine hK10 _ _ ?_
    refine Eng.seqk fun K14 hK14 => ?_
    refine Eng.reg ?_
    have hB1_3 : Below w2.heap.size w2 w6 := (hb3).trans (hb6.mono (hb3).size)
    have hk15 := ((((hk2).below hb3).below hb6).below hb7).grown hg8 (fun e => absurd (Option.some.inj e) (Nat.ne_of_lt (Nat.lt_of_lt_of_le hz2 (Nat.le_trans (hB1_3).size (Nat.le_refl _)))))
    refine Eng.sv rfl rfl (Eng.x_ldB (v := (dg x)) rfl ag24_wk sz24_wk rfl hk15 ((bcs_length _).trans hx) rfl) ?_
    refine Eng.sv rfl rfl (Eng.x_fa (v := (.pointer (some ⟨w6.heap.size, 1, none⟩))) rfl rfl (by kernel_rfl)) ?_
    refine Eng.sv rfl rfl (Eng.x_ld1 (v := (.int .i64 (fB b : Int))) rfl ag3_wk rfl ((hk8).cell 1)) ?_
    refine Eng.sv rfl rfl (Eng.x_fa (v := (.pointer (some ⟨w6.heap.size, 2, none⟩))) rfl rfl (by kernel_rfl)) ?_
    refine Eng.sv rfl rfl (Eng.x_ld1 (v := (.int .i64 (sB b : Int))) rfl ag3_wk rfl ((hk8).cell 2)) ?_
    refine Eng.sv rfl rfl (Eng.x_fa (v := (.pointer (some ⟨w6.heap.size, 3, none⟩))) rfl rfl (by kernel_rfl)) ?_
    refine Eng.sv rfl rfl (Eng.x_ld1 (v := vx) rfl ag29_wk rfl ((hk8).cell 3)) ?_
    have hk16 := (((hk3).below hb6).below hb7).grown hg8 (fun e => absurd (Option.some.inj e) (Nat.ne_of_lt (Nat.lt_of_lt_of_le hz3 (Nat.le_trans (hb6).size (Nat.le_refl _)))))
    refine Eng.sv rfl rfl (Eng.x_ldB (v := (dg y)) rfl ag24_wk sz24_wk rfl hk16 ((bcs_length _).trans hy) rfl) ?_
    have hr17 := (hr9).kept hg8 (.inr (fun e => absurd ((World.ownsRow.lt (ho6).1) _ e).2 (Nat.not_lt_of_le (Nat.le_trans (Nat.le_refl _) (Nat.le_refl _)))))
    have hB0_3 : Below w.heap.size w w6 := (hB0_2).trans (hb6.mono (hB0_2).size)
    have hB0_4 : Below w.heap.size w w7 := (hB0_3).trans (hb7.mono (hB0_3).size)
    have hB0_5 : Below w.heap.size w w8 := (hB0_4).grown hg8 (hB0_4).size (fun k e => by cases e; exact Nat.le_trans (hB0_3).size (Nat.le_refl _))
    have hr18 := (hK).below hB0_5
    refine Eng.sc rfl (Eng.xc (vl := [(dg x), (.int .i64 (fB b : Int)), (.int .i64 (sB b : Int)), vx, (dg y)]) rfl rfl rfl en50_wk) (incl_calls x hx _ _ _ _ _ (hr17).ds y hy hr18) ?_
    rintro _ w19 ⟨rfl, hb19⟩
    refine Eng.aft_v rfl ?_
    refine Eng.sv rfl rfl (Eng.x_as (v := (.int .i64 (inclE (rootE (fB b) (sB b) (dB b (nB b)).length) (rootD x (fB b) (sB b) (dB b (nB b))) y))) rfl rfl) ?_
    refine Eng.nil ?_
    refine hK14 _ _ ?_
    refine Eng.rt ?_
    refine Eng.ret (Eng.res1 (v1 := (.int .i64 (inclE (rootE (fB b) (sB b) (dB b (nB b)).length) (rootD x (fB b) (sB b) (dB b (nB b))) y))) rfl (Eng.rdt rfl)) ?_
    have hB0_6 : Below w.heap.size w w19 := (hB0_5).trans (hb19.mono (hB0_5).size)
    have hk : kB b = 1 := by omega
    exact ⟨by simp [chk1, hok, hk], hB0_6⟩
set_option maxRecDepth 100000 in
set_option maxHeartbeats 4000000 in
theorem chk1_no (v : Value) (b x y : List UInt8) (w : World) (h : Bs w v b) (hx : x.length = 32) (hy : y.length = 32) (hK : Kon w) (hok : okB b = false) : Calls Tryd.prog 14 #[v, (dg x), (dg y)] w (fun e w' => e = .returned (.int .i64 (chk1 b x y)) ∧ Below w.heap.size w w') := by
  have hkb := kB_lt b
  refine Eng.enter (l := [v, (dg x), (dg y)]) Tryd.func14 rfl 31 rfl (by simp) ?_
  refine Eng.seqk fun K1 hK1 => ?_
  refine Eng.reg ?_
  refine Eng.bo (v := (dg x)) (cs := (bcs x)) rfl rfl rfl rfl rfl ?_
  intro w2 hk2 hb2 hz2
  refine Eng.bo (v := (dg y)) (cs := (bcs y)) rfl rfl rfl rfl rfl ?_
  intro w3 hk3 hb3 hz3
  refine Eng.sv rfl rfl (Eng.x_as (v := (.int .i64 0)) rfl rfl) ?_
  refine Eng.nil ?_
  refine hK1 _ _ ?_
  refine Eng.seqk fun K4 hK4 => ?_
  refine Eng.reg ?_
  refine Eng.sv rfl rfl (Eng.x_mv (v := v) rfl rfl) ?_
  have hB0_2 : Below w.heap.size w w3 := (hb2).trans (hb3.mono (hb2).size)
  have hr5 := (h).below hB0_2
  refine Eng.sc rfl (Eng.xc (vl := [v]) rfl rfl rfl en29_wk) ((decode_calls v b _ hr5).mono fun _ _ h => dec_no h hok) ?_
  rintro _ w6 ⟨rfl, hb6⟩
  refine Eng.aft_v rfl ?_
  refine Eng.sv rfl rfl (Eng.x_mv (v := (.tuple #[(.agg #[(.int .i64 0), (.int .i64 0), (.int .i64 0), (.slice none 0 0)]), (.int .i64 80)])) rfl rfl) ?_
  refine Eng.sv rfl rfl (Eng.x_ext (v := (.agg #[(.int .i64 0), (.int .i64 0), (.int .i64 0), (.slice none 0 0)])) rfl rfl rfl) ?_
  refine Eng.sv rfl rfl (Eng.x_ext (v := (.int .i64 80)) rfl rfl rfl) ?_
  refine Eng.al rfl rfl rfl zr35_wk (cs := [(.int .i64 0), (.int .i64 0), (.int .i64 0), (.slice none 0 0)]) rfl ?_
  intro w7 hk7 hb7 hz7
  refine Eng.stB (v := (.agg #[(.int .i64 0), (.int .i64 0), (.int .i64 0), (.slice none 0 0)])) rfl rfl rfl sz35_wk rfl hk7 rfl rfl (cs' := [(.int .i64 0), (.int .i64 0), (.int .i64 0), (.slice none 0 0)]) rfl rfl (Eng.one_cons rfl (Eng.one_cons rfl (Eng.one_cons rfl (Eng.one_cons rfl Eng.one_nil)))) ?_
  intro w8 hk8 hg8
  refine Eng.sv rfl rfl (Eng.x_as (v := (.int .i64 80)) rfl rfl) ?_
  refine Eng.nil ?_
  refine hK4 _ _ ?_
  refine Eng.seqk fun K9 hK9 => ?_
  refine Eng.blk ?_
  refine Eng.seqk fun K10 hK10 => ?_
  refine Eng.reg ?_
  refine Eng.sv rfl rfl (Eng.x_mv (v := (.int .i64 80)) rfl rfl) ?_
  refine Eng.sv rfl rfl (Eng.x_ne (r := true) rfl rfl rfl (Eng.ne_t (by omega))) ?_
  refine Eng.sv rfl rfl (Eng.x_as (v := (.bool true)) rfl rfl) ?_
  refine Eng.nil ?_
  refine hK10 _ _ ?_
  refine Eng.cond_t rfl ?_
  refine Eng.seqk fun K11 hK11 => ?_
  refine Eng.reg ?_
  refine Eng.sv rfl rfl (Eng.x_mv (v := (.int .i64 80)) rfl rfl) ?_
  refine Eng.sv rfl rfl (Eng.x_as (v := (.int .i64 80)) rfl rfl) ?_
  refine Eng.nil ?_
  refine hK11 _ _ ?_
  refine Eng.rt ?_
  refine Eng.br ?_
  refine Eng.tr ?_
  refine Eng.ret (Eng.res1 (v1 := (.int .i64 80)) rfl (Eng.rdt rfl)) ?_
  have hB0_3 : Below w.heap.size w w6 := (hB0_2).trans (hb6.mono (hB0_2).size)
  have hB0_4 : Below w.heap.size w w7 := (hB0_3).trans (hb7.mono (hB0_3).size)
  have hB0_5 : Below w.heap.size w w8 := (hB0_4).grown hg8 (hB0_4).size (fun k e => by cases e; exact Nat.le_trans (hB0_3).size (Nat.le_refl _))
  exact ⟨by simp [chk1, hok], hB0_5⟩
theorem chk1_calls (v : Value) (b x y : List UInt8) (w : World) (h : Bs w v b) (hx : x.length = 32) (hy : y.length = 32) (hK : Kon w) : Calls Tryd.prog 14 #[v, dg x, dg y] w (fun e w' => e = .returned (.int .i64 (chk1 b x y)) ∧ Below w.heap.size w w') := by
  rcases Eng.tf (okB b) with hok | hok
  · exact chk1_ok v b x y w h hx hy hK hok
  · exact chk1_no v b x y w h hx hy hK hok
set_option maxRecDepth 100000 in
set_option maxHeartbeats 4000000 in
theorem rchk1_ok (v : Value) (b x y : List UInt8) (w : World) (h : Bs w v b) (hx : x.length = 32) (hy : y.length = 32) (hok : okB b = true) : Calls Tryd.prog 15 #[v, (dg x), (dg y)] w (fun e w' => e = .returned (.int .i64 (chk1 b x y)) ∧ Below w.heap.size w w') := by
  have hkb := kB_lt b
  refine Eng.enter (l := [v, (dg x), (dg y)]) Tryd.func15 rfl 29 rfl (by simp) ?_
  refine Eng.seqk fun K1 hK1 => ?_
  refine Eng.reg ?_
  refine Eng.bo (v := (dg x)) (cs := (bcs x)) rfl rfl rfl rfl rfl ?_
  intro w2 hk2 hb2 hz2
  refine Eng.bo (v := (dg y)) (cs := (bcs y)) rfl rfl rfl rfl rfl ?_
  intro w3 hk3 hb3 hz3
  refine Eng.sv rfl rfl (Eng.x_as (v := (.int .i64 0)) rfl rfl) ?_
  refine Eng.nil ?_
  refine hK1 _ _ ?_
  refine Eng.seqk fun K4 hK4 => ?_
  refine Eng.reg ?_
  refine Eng.sv rfl rfl (Eng.x_mv (v := v) rfl rfl) ?_
  have hB0_2 : Below w.heap.size w w3 := (hb2).trans (hb3.mono (hb2).size)
  have hr5 := (h).below hB0_2
  refine Eng.sc rfl (Eng.xc (vl := [v]) rfl rfl rfl en51_wk) ((rdecode_calls v b _ hr5).mono fun _ _ h => dec_ok h hok) ?_
  rintro _ w6 ⟨vx, rfl, ho6, hb6⟩
  refine Eng.aft_v rfl ?_
  refine Eng.sv rfl rfl (Eng.x_mv (v := (.tuple #[(.agg #[(.int .i64 (kB b : Int)), (.int .i64 (fB b : Int)), (.int .i64 (sB b : Int)), vx]), (.int .i64 0)])) rfl rfl) ?_
  refine Eng.sv rfl rfl (Eng.x_ext (v := (.agg #[(.int .i64 (kB b : Int)), (.int .i64 (fB b : Int)), (.int .i64 (sB b : Int)), vx])) rfl rfl rfl) ?_
  refine Eng.sv rfl rfl (Eng.x_ext (v := (.int .i64 0)) rfl rfl rfl) ?_
  refine Eng.al rfl rfl rfl zr35_wk (cs := [(.int .i64 0), (.int .i64 0), (.int .i64 0), (.slice none 0 0)]) rfl ?_
  intro w7 hk7 hb7 hz7
  have hr9 := (ho6).below hb7
  refine Eng.stB (v := (.agg #[(.int .i64 (kB b : Int)), (.int .i64 (fB b : Int)), (.int .i64 (sB b : Int)), vx])) rfl rfl rfl sz35_wk rfl hk7 rfl rfl (cs' := [(.int .i64 (kB b : Int)), (.int .i64 (fB b : Int)), (.int .i64 (sB b : Int)), vx]) rfl rfl (Eng.one_cons rfl (Eng.one_cons rfl (Eng.one_cons rfl (Eng.one_cons (Eng.Row.one (hr9).row) Eng.one_nil)))) ?_
  intro w8 hk8 hg8
  refine Eng.sv rfl rfl (Eng.x_as (v := (.int .i64 0)) rfl rfl) ?_
  refine Eng.nil ?_
  refine hK4 _ _ ?_
  refine Eng.seqk fun K10 hK10 => ?_
  refine Eng.seqk fun K11 hK11 => ?_
  refine Eng.reg ?_
  refine Eng.sv rfl rfl (Eng.x_mv (v := (.int .i64 0)) rfl rfl) ?_
  refine Eng.sv rfl rfl (Eng.x_ne (r := false) rfl rfl rfl (Eng.ne_f (by omega))) ?_
  refine Eng.nil ?_
  refine hK11 _ _ ?_
  refine Eng.cond_f rfl ?_
  refine Eng.skp ?_
  refine hK10 _ _ ?_
  refine Eng.seqk fun K12 hK12 => ?_
  refine Eng.seqk fun K13 hK13 => ?_
  refine Eng.reg ?_
  refine Eng.sv rfl rfl (Eng.x_fa (v := (.pointer (some ⟨w6.heap.size, 0, none⟩))) rfl rfl (by kernel_rfl)) ?_
  refine Eng.sv rfl rfl (Eng.x_ld1 (v := (.int .i64 (kB b : Int))) rfl ag3_wk rfl ((hk8).cell 0)) ?_
  by_cases h19 : ((kB b : Int) : Int) ≠ 1
  · skip
    refine Eng.sv rfl rfl (Eng.x_ne (r := true) rfl rfl rfl (Eng.ne_t (by omega))) ?_
    refine Eng.nil ?_
    refine hK13 _ _ ?_
    refine Eng.cond_t rfl ?_
    refine Eng.seqk fun K14 hK14 => ?_
    refine Eng.reg ?_
    refine Eng.sv rfl rfl (Eng.x_as (v := (.int .i64 2)) rfl rfl) ?_
    refine Eng.nil ?_
    refine hK14 _ _ ?_
    refine Eng.rt ?_
    refine Eng.tr ?_
    refine Eng.ret (Eng.res1 (v1 := (.int .i64 2)) rfl (Eng.rdt rfl)) ?_
    have hB0_3 : Below w.heap.size w w6 := (hB0_2).trans (hb6.mono (hB0_2).size)
    have hB0_4 : Below w.heap.size w w7 := (hB0_3).trans (hb7.mono (hB0_3).size)
    have hB0_5 : Below w.heap.size w w8 := (hB0_4).grown hg8 (hB0_4).size (fun k e => by cases e; exact Nat.le_trans (hB0_3).size (Nat.le_refl _))
    have hk : kB b ≠ 1 := by omega
    exact ⟨by simp [chk1, hok, hk], hB0_5⟩
  · skip
    refine Eng.sv rfl rfl (Eng.x_ne (r := false) rfl rfl rfl (Eng.ne_f (by omega))) ?_
    refine Eng.nil ?_
    refine hK13 _ _ ?_
    refine Eng.cond_f rfl ?_
    refine Eng.skp ?_
    refine hK12 _ _ ?_
    refine Eng.seqk fun K15 hK15 => ?_
    refine Eng.reg ?_
    have hB1_3 : Below w2.heap.size w2 w6 := (hb3).trans (hb6.mono (hb3).size)
    have hk16 := ((((hk2).below hb3).below hb6).below hb7).grown hg8 (fun e => absurd (Option.some.inj e) (Nat.ne_of_lt (Nat.lt_of_lt_of_le hz2 (Nat.le_trans (hB1_3).size (Nat.le_refl _)))))
    refine Eng.sv rfl rfl (Eng.x_ldB (v := (dg x)) rfl ag24_wk sz24_wk rfl hk16 ((bcs_length _).trans hx) rfl) ?_
    refine Eng.sv rfl rfl (Eng.x_fa (v := (.pointer (some ⟨w6.heap.size, 1, none⟩))) rfl rfl (by kernel_rfl)) ?_
    refine Eng.sv rfl rfl (Eng.x_ld1 (v := (.int .i64 (fB b : Int))) rfl ag3_wk rfl ((hk8).cell 1)) ?_
    refine Eng.sv rfl rfl (Eng.x_fa (v := (.pointer (some ⟨w6.heap.size, 2, none⟩))) rfl rfl (by kernel_rfl)) ?_
    refine Eng.sv rfl rfl (Eng.x_ld1 (v := (.int .i64 (sB b : Int))) rfl ag3_wk rfl ((hk8).cell 2)) ?_
    refine Eng.sv rfl rfl (Eng.x_fa (v := (.pointer (some ⟨w6.heap.size, 3, none⟩))) rfl rfl (by kernel_rfl)) ?_
    refine Eng.sv rfl rfl (Eng.x_ld1 (v := vx) rfl ag29_wk rfl ((hk8).cell 3)) ?_
    have hk17 := (((hk3).below hb6).below hb7).grown hg8 (fun e => absurd (Option.some.inj e) (Nat.ne_of_lt (Nat.lt_of_lt_of_le hz3 (Nat.le_trans (hb6).size (Nat.le_refl _)))))
    refine Eng.sv rfl rfl (Eng.x_ldB (v := (dg y)) rfl ag24_wk sz24_wk rfl hk17 ((bcs_length _).trans hy) rfl) ?_
    have hr18 := (hr9).kept hg8 (.inr (fun e => absurd ((World.ownsRow.lt (ho6).1) _ e).2 (Nat.not_lt_of_le (Nat.le_trans (Nat.le_refl _) (Nat.le_refl _)))))
    refine Eng.sc rfl (Eng.xc (vl := [(dg x), (.int .i64 (fB b : Int)), (.int .i64 (sB b : Int)), vx, (dg y)]) rfl rfl rfl en52_wk) (rincl_calls x hx _ _ _ _ _ (hr18).ds y hy) ?_
    rintro _ w19 ⟨rfl, hb19⟩
    refine Eng.aft_v rfl ?_
    refine Eng.sv rfl rfl (Eng.x_as (v := (.int .i64 (inclE (rootE (fB b) (sB b) (dB b (nB b)).length) (rootD x (fB b) (sB b) (dB b (nB b))) y))) rfl rfl) ?_
    refine Eng.nil ?_
    refine hK15 _ _ ?_
    refine Eng.rt ?_
    refine Eng.ret (Eng.res1 (v1 := (.int .i64 (inclE (rootE (fB b) (sB b) (dB b (nB b)).length) (rootD x (fB b) (sB b) (dB b (nB b))) y))) rfl (Eng.rdt rfl)) ?_
    have hB0_3 : Below w.heap.size w w6 := (hB0_2).trans (hb6.mono (hB0_2).size)
    have hB0_4 : Below w.heap.size w w7 := (hB0_3).trans (hb7.mono (hB0_3).size)
    have hB0_5 : Below w.heap.size w w8 := (hB0_4).grown hg8 (hB0_4).size (fun k e => by cases e; exact Nat.le_trans (hB0_3).size (Nat.le_refl _))
    have hB0_6 : Below w.heap.size w w19 := (hB0_5).trans (hb19.mono (hB0_5).size)
    have hk : kB b = 1 := by omega
    exact ⟨by simp [chk1, hok, hk], hB0_6⟩
set_option maxRecDepth 100000 in
set_option maxHeartbeats 4000000 in
theorem rchk1_no (v : Value) (b x y : List UInt8) (w : World) (h : Bs w v b) (hx : x.length = 32) (hy : y.length = 32) (hok : okB b = false) : Calls Tryd.prog 15 #[v, (dg x), (dg y)] w (fun e w' => e = .returned (.int .i64 (chk1 b x y)) ∧ Below w.heap.size w w') := by
  have hkb := kB_lt b
  refine Eng.enter (l := [v, (dg x), (dg y)]) Tryd.func15 rfl 29 rfl (by simp) ?_
  refine Eng.seqk fun K1 hK1 => ?_
  refine Eng.reg ?_
  refine Eng.bo (v := (dg x)) (cs := (bcs x)) rfl rfl rfl rfl rfl ?_
  intro w2 hk2 hb2 hz2
  refine Eng.bo (v := (dg y)) (cs := (bcs y)) rfl rfl rfl rfl rfl ?_
  intro w3 hk3 hb3 hz3
  refine Eng.sv rfl rfl (Eng.x_as (v := (.int .i64 0)) rfl rfl) ?_
  refine Eng.nil ?_
  refine hK1 _ _ ?_
  refine Eng.seqk fun K4 hK4 => ?_
  refine Eng.reg ?_
  refine Eng.sv rfl rfl (Eng.x_mv (v := v) rfl rfl) ?_
  have hB0_2 : Below w.heap.size w w3 := (hb2).trans (hb3.mono (hb2).size)
  have hr5 := (h).below hB0_2
  refine Eng.sc rfl (Eng.xc (vl := [v]) rfl rfl rfl en51_wk) ((rdecode_calls v b _ hr5).mono fun _ _ h => dec_no h hok) ?_
  rintro _ w6 ⟨rfl, hb6⟩
  refine Eng.aft_v rfl ?_
  refine Eng.sv rfl rfl (Eng.x_mv (v := (.tuple #[(.agg #[(.int .i64 0), (.int .i64 0), (.int .i64 0), (.slice none 0 0)]), (.int .i64 80)])) rfl rfl) ?_
  refine Eng.sv rfl rfl (Eng.x_ext (v := (.agg #[(.int .i64 0), (.int .i64 0), (.int .i64 0), (.slice none 0 0)])) rfl rfl rfl) ?_
  refine Eng.sv rfl rfl (Eng.x_ext (v := (.int .i64 80)) rfl rfl rfl) ?_
  refine Eng.al rfl rfl rfl zr35_wk (cs := [(.int .i64 0), (.int .i64 0), (.int .i64 0), (.slice none 0 0)]) rfl ?_
  intro w7 hk7 hb7 hz7
  refine Eng.stB (v := (.agg #[(.int .i64 0), (.int .i64 0), (.int .i64 0), (.slice none 0 0)])) rfl rfl rfl sz35_wk rfl hk7 rfl rfl (cs' := [(.int .i64 0), (.int .i64 0), (.int .i64 0), (.slice none 0 0)]) rfl rfl (Eng.one_cons rfl (Eng.one_cons rfl (Eng.one_cons rfl (Eng.one_cons rfl Eng.one_nil)))) ?_
  intro w8 hk8 hg8
  refine Eng.sv rfl rfl (Eng.x_as (v := (.int .i64 80)) rfl rfl) ?_
  refine Eng.nil ?_
  refine hK4 _ _ ?_
  refine Eng.seqk fun K9 hK9 => ?_
  refine Eng.seqk fun K10 hK10 => ?_
  refine Eng.reg ?_
  refine Eng.sv rfl rfl (Eng.x_mv (v := (.int .i64 80)) rfl rfl) ?_
  refine Eng.sv rfl rfl (Eng.x_ne (r := true) rfl rfl rfl (Eng.ne_t (by omega))) ?_
  refine Eng.nil ?_
  refine hK10 _ _ ?_
  refine Eng.cond_t rfl ?_
  refine Eng.seqk fun K11 hK11 => ?_
  refine Eng.reg ?_
  refine Eng.sv rfl rfl (Eng.x_mv (v := (.int .i64 80)) rfl rfl) ?_
  refine Eng.sv rfl rfl (Eng.x_as (v := (.int .i64 80)) rfl rfl) ?_
  refine Eng.nil ?_
  refine hK11 _ _ ?_
  refine Eng.rt ?_
  refine Eng.tr ?_
  refine Eng.ret (Eng.res1 (v1 := (.int .i64 80)) rfl (Eng.rdt rfl)) ?_
  have hB0_3 : Below w.heap.size w w6 := (hB0_2).trans (hb6.mono (hB0_2).size)
  have hB0_4 : Below w.heap.size w w7 := (hB0_3).trans (hb7.mono (hB0_3).size)
  have hB0_5 : Below w.heap.size w w8 := (hB0_4).grown hg8 (hB0_4).size (fun k e => by cases e; exact Nat.le_trans (hB0_3).size (Nat.le_refl _))
  exact ⟨by simp [chk1, hok], hB0_5⟩
theorem rchk1_calls (v : Value) (b x y : List UInt8) (w : World) (h : Bs w v b) (hx : x.length = 32) (hy : y.length = 32) : Calls Tryd.prog 15 #[v, dg x, dg y] w (fun e w' => e = .returned (.int .i64 (chk1 b x y)) ∧ Below w.heap.size w w') := by
  rcases Eng.tf (okB b) with hok | hok
  · exact rchk1_ok v b x y w h hx hy hok
  · exact rchk1_no v b x y w h hx hy hok
set_option maxRecDepth 100000 in
set_option maxHeartbeats 4000000 in
theorem chk2_ok (v : Value) (b x y : List UInt8) (w : World) (h : Bs w v b) (hx : x.length = 32) (hy : y.length = 32) (hK : Kon w) (hok : okB b = true) : Calls Tryd.prog 16 #[v, (dg x), (dg y)] w (fun e w' => e = .returned (.int .i64 (chk2 b x y)) ∧ Below w.heap.size w w') := by
  have hkb := kB_lt b
  refine Eng.enter (l := [v, (dg x), (dg y)]) Tryd.func16 rfl 31 rfl (by simp) ?_
  refine Eng.seqk fun K1 hK1 => ?_
  refine Eng.reg ?_
  refine Eng.bo (v := (dg x)) (cs := (bcs x)) rfl rfl rfl rfl rfl ?_
  intro w2 hk2 hb2 hz2
  refine Eng.bo (v := (dg y)) (cs := (bcs y)) rfl rfl rfl rfl rfl ?_
  intro w3 hk3 hb3 hz3
  refine Eng.sv rfl rfl (Eng.x_as (v := (.int .i64 0)) rfl rfl) ?_
  refine Eng.nil ?_
  refine hK1 _ _ ?_
  refine Eng.seqk fun K4 hK4 => ?_
  refine Eng.reg ?_
  refine Eng.sv rfl rfl (Eng.x_mv (v := v) rfl rfl) ?_
  have hB0_2 : Below w.heap.size w w3 := (hb2).trans (hb3.mono (hb2).size)
  have hr5 := (h).below hB0_2
  refine Eng.sc rfl (Eng.xc (vl := [v]) rfl rfl rfl en29_wk) ((decode_calls v b _ hr5).mono fun _ _ h => dec_ok h hok) ?_
  rintro _ w6 ⟨vx, rfl, ho6, hb6⟩
  refine Eng.aft_v rfl ?_
  refine Eng.sv rfl rfl (Eng.x_mv (v := (.tuple #[(.agg #[(.int .i64 (kB b : Int)), (.int .i64 (fB b : Int)), (.int .i64 (sB b : Int)), vx]), (.int .i64 0)])) rfl rfl) ?_
  refine Eng.sv rfl rfl (Eng.x_ext (v := (.agg #[(.int .i64 (kB b : Int)), (.int .i64 (fB b : Int)), (.int .i64 (sB b : Int)), vx])) rfl rfl rfl) ?_
  refine Eng.sv rfl rfl (Eng.x_ext (v := (.int .i64 0)) rfl rfl rfl) ?_
  refine Eng.al rfl rfl rfl zr35_wk (cs := [(.int .i64 0), (.int .i64 0), (.int .i64 0), (.slice none 0 0)]) rfl ?_
  intro w7 hk7 hb7 hz7
  have hr9 := (ho6).below hb7
  refine Eng.stB (v := (.agg #[(.int .i64 (kB b : Int)), (.int .i64 (fB b : Int)), (.int .i64 (sB b : Int)), vx])) rfl rfl rfl sz35_wk rfl hk7 rfl rfl (cs' := [(.int .i64 (kB b : Int)), (.int .i64 (fB b : Int)), (.int .i64 (sB b : Int)), vx]) rfl rfl (Eng.one_cons rfl (Eng.one_cons rfl (Eng.one_cons rfl (Eng.one_cons (Eng.Row.one (hr9).row) Eng.one_nil)))) ?_
  intro w8 hk8 hg8
  refine Eng.sv rfl rfl (Eng.x_as (v := (.int .i64 0)) rfl rfl) ?_
  refine Eng.nil ?_
  refine hK4 _ _ ?_
  refine Eng.seqk fun K10 hK10 => ?_
  refine Eng.blk ?_
  refine Eng.seqk fun K11 hK11 => ?_
  refine Eng.reg ?_
  refine Eng.sv rfl rfl (Eng.x_mv (v := (.int .i64 0)) rfl rfl) ?_
  refine Eng.sv rfl rfl (Eng.x_ne (r := false) rfl rfl rfl (Eng.ne_f (by omega))) ?_
  refine Eng.sv rfl rfl (Eng.x_as (v := (.bool false)) rfl rfl) ?_
  refine Eng.nil ?_
  refine hK11 _ _ ?_
  refine Eng.cond_f rfl ?_
  refine Eng.seqk fun K12 hK12 => ?_
  refine Eng.reg ?_
  refine Eng.sv rfl rfl (Eng.x_fa (v := (.pointer (some ⟨w6.heap.size, 0, none⟩))) rfl rfl (by kernel_rfl)) ?_
  refine Eng.sv rfl rfl (Eng.x_ld1 (v := (.int .i64 (kB b : Int))) rfl ag3_wk rfl ((hk8).cell 0)) ?_
  by_cases h21 : ((kB b : Int) : Int) ≠ 2
  · skip
    refine Eng.sv rfl rfl (Eng.x_ne (r := true) rfl rfl rfl (Eng.ne_t (by omega))) ?_
    refine Eng.sv rfl rfl (Eng.x_as (v := (.bool true)) rfl rfl) ?_
    refine Eng.nil ?_
    refine hK12 _ _ ?_
    refine Eng.cond_t rfl ?_
    refine Eng.seqk fun K13 hK13 => ?_
    refine Eng.reg ?_
    refine Eng.sv rfl rfl (Eng.x_as (v := (.int .i64 2)) rfl rfl) ?_
    refine Eng.nil ?_
    refine hK13 _ _ ?_
    refine Eng.rt ?_
    refine Eng.br ?_
    refine Eng.tr ?_
    refine Eng.ret (Eng.res1 (v1 := (.int .i64 2)) rfl (Eng.rdt rfl)) ?_
    have hB0_3 : Below w.heap.size w w6 := (hB0_2).trans (hb6.mono (hB0_2).size)
    have hB0_4 : Below w.heap.size w w7 := (hB0_3).trans (hb7.mono (hB0_3).size)
    have hB0_5 : Below w.heap.size w w8 := (hB0_4).grown hg8 (hB0_4).size (fun k e => by cases e; exact Nat.le_trans (hB0_3).size (Nat.le_refl _))
    have hk : kB b ≠ 2 := by omega
    exact ⟨by simp [chk2, hok, hk], hB0_5⟩
  · skip
    refine Eng.sv rfl rfl (Eng.x_ne (r := false) rfl rfl rfl (Eng.ne_f (by omega))) ?_
    refine Eng.sv rfl rfl (Eng.x_as (v := (.bool false)) rfl rfl) ?_
    refine Eng.nil ?_
    refine hK12 _ _ ?_
    refine Eng.cond_f rfl ?_
    refine Eng.skp ?_
    refine Eng.nb ?_
    refine hK10 _ _ ?_
    refine Eng.seqk fun K14 hK14 => ?_
    refine Eng.reg ?_
    refine Eng.sv rfl rfl (Eng.x_fa (v := (.pointer (some ⟨w6.heap.size, 1, none⟩))) rfl rfl (by kernel_rfl)) ?_
    refine Eng.sv rfl rfl (Eng.x_ld1 (v := (.int .i64 (fB b : Int))) rfl ag3_wk rfl ((hk8).cell 1)) ?_
    refine Eng.sv rfl rfl (Eng.x_fa (v := (.pointer (some ⟨w6.heap.size, 2, none⟩))) rfl rfl (by kernel_rfl)) ?_
    refine Eng.sv rfl rfl (Eng.x_ld1 (v := (.int .i64 (sB b : Int))) rfl ag3_wk rfl ((hk8).cell 2)) ?_
    have hB1_3 : Below w2.heap.size w2 w6 := (hb3).trans (hb6.mono (hb3).size)
    have hk15 := ((((hk2).below hb3).below hb6).below hb7).grown hg8 (fun e => absurd (Option.some.inj e) (Nat.ne_of_lt (Nat.lt_of_lt_of_le hz2 (Nat.le_trans (hB1_3).size (Nat.le_refl _)))))
    refine Eng.sv rfl rfl (Eng.x_ldB (v := (dg x)) rfl ag24_wk sz24_wk rfl hk15 ((bcs_length _).trans hx) rfl) ?_
    have hk16 := (((hk3).below hb6).below hb7).grown hg8 (fun e => absurd (Option.some.inj e) (Nat.ne_of_lt (Nat.lt_of_lt_of_le hz3 (Nat.le_trans (hb6).size (Nat.le_refl _)))))
    refine Eng.sv rfl rfl (Eng.x_ldB (v := (dg y)) rfl ag24_wk sz24_wk rfl hk16 ((bcs_length _).trans hy) rfl) ?_
    refine Eng.sv rfl rfl (Eng.x_fa (v := (.pointer (some ⟨w6.heap.size, 3, none⟩))) rfl rfl (by kernel_rfl)) ?_
    refine Eng.sv rfl rfl (Eng.x_ld1 (v := vx) rfl ag29_wk rfl ((hk8).cell 3)) ?_
    have hr17 := (hr9).kept hg8 (.inr (fun e => absurd ((World.ownsRow.lt (ho6).1) _ e).2 (Nat.not_lt_of_le (Nat.le_trans (Nat.le_refl _) (Nat.le_refl _)))))
    have hB0_3 : Below w.heap.size w w6 := (hB0_2).trans (hb6.mono (hB0_2).size)
    have hB0_4 : Below w.heap.size w w7 := (hB0_3).trans (hb7.mono (hB0_3).size)
    have hB0_5 : Below w.heap.size w w8 := (hB0_4).grown hg8 (hB0_4).size (fun k e => by cases e; exact Nat.le_trans (hB0_3).size (Nat.le_refl _))
    have hr18 := (hK).below hB0_5
    refine Eng.sc rfl (Eng.xc (vl := [(.int .i64 (fB b : Int)), (.int .i64 (sB b : Int)), (dg x), (dg y), vx]) rfl rfl rfl en53_wk) (cons_calls x hx _ _ _ _ _ (hr17).ds y hy hr18) ?_
    rintro _ w19 ⟨rfl, hb19⟩
    refine Eng.aft_v rfl ?_
    refine Eng.sv rfl rfl (Eng.x_as (v := (.int .i64 (consE (rootsE (fB b) (sB b) (dB b (nB b)).length) (rootsD x (fB b) (sB b) (dB b (nB b))) (x, y)))) rfl rfl) ?_
    refine Eng.nil ?_
    refine hK14 _ _ ?_
    refine Eng.rt ?_
    refine Eng.ret (Eng.res1 (v1 := (.int .i64 (consE (rootsE (fB b) (sB b) (dB b (nB b)).length) (rootsD x (fB b) (sB b) (dB b (nB b))) (x, y)))) rfl (Eng.rdt rfl)) ?_
    have hB0_6 : Below w.heap.size w w19 := (hB0_5).trans (hb19.mono (hB0_5).size)
    have hk : kB b = 2 := by omega
    exact ⟨by simp [chk2, hok, hk], hB0_6⟩
set_option maxRecDepth 100000 in
set_option maxHeartbeats 4000000 in
theorem chk2_no (v : Value) (b x y : List UInt8) (w : World) (h : Bs w v b) (hx : x.length = 32) (hy : y.length = 32) (hK : Kon w) (hok : okB b = false) : Calls Tryd.prog 16 #[v, (dg x), (dg y)] w (fun e w' => e = .returned (.int .i64 (chk2 b x y)) ∧ Below w.heap.size w w') := by
  have hkb := kB_lt b
  refine Eng.enter (l := [v, (dg x), (dg y)]) Tryd.func16 rfl 31 rfl (by simp) ?_
  refine Eng.seqk fun K1 hK1 => ?_
  refine Eng.reg ?_
  refine Eng.bo (v := (dg x)) (cs := (bcs x)) rfl rfl rfl rfl rfl ?_
  intro w2 hk2 hb2 hz2
  refine Eng.bo (v := (dg y)) (cs := (bcs y)) rfl rfl rfl rfl rfl ?_
  intro w3 hk3 hb3 hz3
  refine Eng.sv rfl rfl (Eng.x_as (v := (.int .i64 0)) rfl rfl) ?_
  refine Eng.nil ?_
  refine hK1 _ _ ?_
  refine Eng.seqk fun K4 hK4 => ?_
  refine Eng.reg ?_
  refine Eng.sv rfl rfl (Eng.x_mv (v := v) rfl rfl) ?_
  have hB0_2 : Below w.heap.size w w3 := (hb2).trans (hb3.mono (hb2).size)
  have hr5 := (h).below hB0_2
  refine Eng.sc rfl (Eng.xc (vl := [v]) rfl rfl rfl en29_wk) ((decode_calls v b _ hr5).mono fun _ _ h => dec_no h hok) ?_
  rintro _ w6 ⟨rfl, hb6⟩
  refine Eng.aft_v rfl ?_
  refine Eng.sv rfl rfl (Eng.x_mv (v := (.tuple #[(.agg #[(.int .i64 0), (.int .i64 0), (.int .i64 0), (.slice none 0 0)]), (.int .i64 80)])) rfl rfl) ?_
  refine Eng.sv rfl rfl (Eng.x_ext (v := (.agg #[(.int .i64 0), (.int .i64 0), (.int .i64 0), (.slice none 0 0)])) rfl rfl rfl) ?_
  refine Eng.sv rfl rfl (Eng.x_ext (v := (.int .i64 80)) rfl rfl rfl) ?_
  refine Eng.al rfl rfl rfl zr35_wk (cs := [(.int .i64 0), (.int .i64 0), (.int .i64 0), (.slice none 0 0)]) rfl ?_
  intro w7 hk7 hb7 hz7
  refine Eng.stB (v := (.agg #[(.int .i64 0), (.int .i64 0), (.int .i64 0), (.slice none 0 0)])) rfl rfl rfl sz35_wk rfl hk7 rfl rfl (cs' := [(.int .i64 0), (.int .i64 0), (.int .i64 0), (.slice none 0 0)]) rfl rfl (Eng.one_cons rfl (Eng.one_cons rfl (Eng.one_cons rfl (Eng.one_cons rfl Eng.one_nil)))) ?_
  intro w8 hk8 hg8
  refine Eng.sv rfl rfl (Eng.x_as (v := (.int .i64 80)) rfl rfl) ?_
  refine Eng.nil ?_
  refine hK4 _ _ ?_
  refine Eng.seqk fun K9 hK9 => ?_
  refine Eng.blk ?_
  refine Eng.seqk fun K10 hK10 => ?_
  refine Eng.reg ?_
  refine Eng.sv rfl rfl (Eng.x_mv (v := (.int .i64 80)) rfl rfl) ?_
  refine Eng.sv rfl rfl (Eng.x_ne (r := true) rfl rfl rfl (Eng.ne_t (by omega))) ?_
  refine Eng.sv rfl rfl (Eng.x_as (v := (.bool true)) rfl rfl) ?_
  refine Eng.nil ?_
  refine hK10 _ _ ?_
  refine Eng.cond_t rfl ?_
  refine Eng.seqk fun K11 hK11 => ?_
  refine Eng.reg ?_
  refine Eng.sv rfl rfl (Eng.x_mv (v := (.int .i64 80)) rfl rfl) ?_
  refine Eng.sv rfl rfl (Eng.x_as (v := (.int .i64 80)) rfl rfl) ?_
  refine Eng.nil ?_
  refine hK11 _ _ ?_
  refine Eng.rt ?_
  refine Eng.br ?_
  refine Eng.tr ?_
  refine Eng.ret (Eng.res1 (v1 := (.int .i64 80)) rfl (Eng.rdt rfl)) ?_
  have hB0_3 : Below w.heap.size w w6 := (hB0_2).trans (hb6.mono (hB0_2).size)
  have hB0_4 : Below w.heap.size w w7 := (hB0_3).trans (hb7.mono (hB0_3).size)
  have hB0_5 : Below w.heap.size w w8 := (hB0_4).grown hg8 (hB0_4).size (fun k e => by cases e; exact Nat.le_trans (hB0_3).size (Nat.le_refl _))
  exact ⟨by simp [chk2, hok], hB0_5⟩
theorem chk2_calls (v : Value) (b x y : List UInt8) (w : World) (h : Bs w v b) (hx : x.length = 32) (hy : y.length = 32) (hK : Kon w) : Calls Tryd.prog 16 #[v, dg x, dg y] w (fun e w' => e = .returned (.int .i64 (chk2 b x y)) ∧ Below w.heap.size w w') := by
  rcases Eng.tf (okB b) with hok | hok
  · exact chk2_ok v b x y w h hx hy hK hok
  · exact chk2_no v b x y w h hx hy hK hok
set_option maxRecDepth 100000 in
set_option maxHeartbeats 4000000 in
theorem rchk2_ok (v : Value) (b x y : List UInt8) (w : World) (h : Bs w v b) (hx : x.length = 32) (hy : y.length = 32) (hok : okB b = true) : Calls Tryd.prog 17 #[v, (dg x), (dg y)] w (fun e w' => e = .returned (.int .i64 (chk2 b x y)) ∧ Below w.heap.size w w') := by
  have hkb := kB_lt b
  refine Eng.enter (l := [v, (dg x), (dg y)]) Tryd.func17 rfl 29 rfl (by simp) ?_
  refine Eng.seqk fun K1 hK1 => ?_
  refine Eng.reg ?_
  refine Eng.bo (v := (dg x)) (cs := (bcs x)) rfl rfl rfl rfl rfl ?_
  intro w2 hk2 hb2 hz2
  refine Eng.bo (v := (dg y)) (cs := (bcs y)) rfl rfl rfl rfl rfl ?_
  intro w3 hk3 hb3 hz3
  refine Eng.sv rfl rfl (Eng.x_as (v := (.int .i64 0)) rfl rfl) ?_
  refine Eng.nil ?_
  refine hK1 _ _ ?_
  refine Eng.seqk fun K4 hK4 => ?_
  refine Eng.reg ?_
  refine Eng.sv rfl rfl (Eng.x_mv (v := v) rfl rfl) ?_
  have hB0_2 : Below w.heap.size w w3 := (hb2).trans (hb3.mono (hb2).size)
  have hr5 := (h).below hB0_2
  refine Eng.sc rfl (Eng.xc (vl := [v]) rfl rfl rfl en51_wk) ((rdecode_calls v b _ hr5).mono fun _ _ h => dec_ok h hok) ?_
  rintro _ w6 ⟨vx, rfl, ho6, hb6⟩
  refine Eng.aft_v rfl ?_
  refine Eng.sv rfl rfl (Eng.x_mv (v := (.tuple #[(.agg #[(.int .i64 (kB b : Int)), (.int .i64 (fB b : Int)), (.int .i64 (sB b : Int)), vx]), (.int .i64 0)])) rfl rfl) ?_
  refine Eng.sv rfl rfl (Eng.x_ext (v := (.agg #[(.int .i64 (kB b : Int)), (.int .i64 (fB b : Int)), (.int .i64 (sB b : Int)), vx])) rfl rfl rfl) ?_
  refine Eng.sv rfl rfl (Eng.x_ext (v := (.int .i64 0)) rfl rfl rfl) ?_
  refine Eng.al rfl rfl rfl zr35_wk (cs := [(.int .i64 0), (.int .i64 0), (.int .i64 0), (.slice none 0 0)]) rfl ?_
  intro w7 hk7 hb7 hz7
  have hr9 := (ho6).below hb7
  refine Eng.stB (v := (.agg #[(.int .i64 (kB b : Int)), (.int .i64 (fB b : Int)), (.int .i64 (sB b : Int)), vx])) rfl rfl rfl sz35_wk rfl hk7 rfl rfl (cs' := [(.int .i64 (kB b : Int)), (.int .i64 (fB b : Int)), (.int .i64 (sB b : Int)), vx]) rfl rfl (Eng.one_cons rfl (Eng.one_cons rfl (Eng.one_cons rfl (Eng.one_cons (Eng.Row.one (hr9).row) Eng.one_nil)))) ?_
  intro w8 hk8 hg8
  refine Eng.sv rfl rfl (Eng.x_as (v := (.int .i64 0)) rfl rfl) ?_
  refine Eng.nil ?_
  refine hK4 _ _ ?_
  refine Eng.seqk fun K10 hK10 => ?_
  refine Eng.seqk fun K11 hK11 => ?_
  refine Eng.reg ?_
  refine Eng.sv rfl rfl (Eng.x_mv (v := (.int .i64 0)) rfl rfl) ?_
  refine Eng.sv rfl rfl (Eng.x_ne (r := false) rfl rfl rfl (Eng.ne_f (by omega))) ?_
  refine Eng.nil ?_
  refine hK11 _ _ ?_
  refine Eng.cond_f rfl ?_
  refine Eng.skp ?_
  refine hK10 _ _ ?_
  refine Eng.seqk fun K12 hK12 => ?_
  refine Eng.seqk fun K13 hK13 => ?_
  refine Eng.reg ?_
  refine Eng.sv rfl rfl (Eng.x_fa (v := (.pointer (some ⟨w6.heap.size, 0, none⟩))) rfl rfl (by kernel_rfl)) ?_
  refine Eng.sv rfl rfl (Eng.x_ld1 (v := (.int .i64 (kB b : Int))) rfl ag3_wk rfl ((hk8).cell 0)) ?_
  by_cases h19 : ((kB b : Int) : Int) ≠ 2
  · skip
    refine Eng.sv rfl rfl (Eng.x_ne (r := true) rfl rfl rfl (Eng.ne_t (by omega))) ?_
    refine Eng.nil ?_
    refine hK13 _ _ ?_
    refine Eng.cond_t rfl ?_
    refine Eng.seqk fun K14 hK14 => ?_
    refine Eng.reg ?_
    refine Eng.sv rfl rfl (Eng.x_as (v := (.int .i64 2)) rfl rfl) ?_
    refine Eng.nil ?_
    refine hK14 _ _ ?_
    refine Eng.rt ?_
    refine Eng.tr ?_
    refine Eng.ret (Eng.res1 (v1 := (.int .i64 2)) rfl (Eng.rdt rfl)) ?_
    have hB0_3 : Below w.heap.size w w6 := (hB0_2).trans (hb6.mono (hB0_2).size)
    have hB0_4 : Below w.heap.size w w7 := (hB0_3).trans (hb7.mono (hB0_3).size)
    have hB0_5 : Below w.heap.size w w8 := (hB0_4).grown hg8 (hB0_4).size (fun k e => by cases e; exact Nat.le_trans (hB0_3).size (Nat.le_refl _))
    have hk : kB b ≠ 2 := by omega
    exact ⟨by simp [chk2, hok, hk], hB0_5⟩
  · skip
    refine Eng.sv rfl rfl (Eng.x_ne (r := false) rfl rfl rfl (Eng.ne_f (by omega))) ?_
    refine Eng.nil ?_
    refine hK13 _ _ ?_
    refine Eng.cond_f rfl ?_
    refine Eng.skp ?_
    refine hK12 _ _ ?_
    refine Eng.seqk fun K15 hK15 => ?_
    refine Eng.reg ?_
    refine Eng.sv rfl rfl (Eng.x_fa (v := (.pointer (some ⟨w6.heap.size, 1, none⟩))) rfl rfl (by kernel_rfl)) ?_
    refine Eng.sv rfl rfl (Eng.x_ld1 (v := (.int .i64 (fB b : Int))) rfl ag3_wk rfl ((hk8).cell 1)) ?_
    refine Eng.sv rfl rfl (Eng.x_fa (v := (.pointer (some ⟨w6.heap.size, 2, none⟩))) rfl rfl (by kernel_rfl)) ?_
    refine Eng.sv rfl rfl (Eng.x_ld1 (v := (.int .i64 (sB b : Int))) rfl ag3_wk rfl ((hk8).cell 2)) ?_
    have hB1_3 : Below w2.heap.size w2 w6 := (hb3).trans (hb6.mono (hb3).size)
    have hk16 := ((((hk2).below hb3).below hb6).below hb7).grown hg8 (fun e => absurd (Option.some.inj e) (Nat.ne_of_lt (Nat.lt_of_lt_of_le hz2 (Nat.le_trans (hB1_3).size (Nat.le_refl _)))))
    refine Eng.sv rfl rfl (Eng.x_ldB (v := (dg x)) rfl ag24_wk sz24_wk rfl hk16 ((bcs_length _).trans hx) rfl) ?_
    have hk17 := (((hk3).below hb6).below hb7).grown hg8 (fun e => absurd (Option.some.inj e) (Nat.ne_of_lt (Nat.lt_of_lt_of_le hz3 (Nat.le_trans (hb6).size (Nat.le_refl _)))))
    refine Eng.sv rfl rfl (Eng.x_ldB (v := (dg y)) rfl ag24_wk sz24_wk rfl hk17 ((bcs_length _).trans hy) rfl) ?_
    refine Eng.sv rfl rfl (Eng.x_fa (v := (.pointer (some ⟨w6.heap.size, 3, none⟩))) rfl rfl (by kernel_rfl)) ?_
    refine Eng.sv rfl rfl (Eng.x_ld1 (v := vx) rfl ag29_wk rfl ((hk8).cell 3)) ?_
    have hr18 := (hr9).kept hg8 (.inr (fun e => absurd ((World.ownsRow.lt (ho6).1) _ e).2 (Nat.not_lt_of_le (Nat.le_trans (Nat.le_refl _) (Nat.le_refl _)))))
    refine Eng.sc rfl (Eng.xc (vl := [(.int .i64 (fB b : Int)), (.int .i64 (sB b : Int)), (dg x), (dg y), vx]) rfl rfl rfl en54_wk) (rcons_calls x hx _ _ _ _ _ (hr18).ds y hy) ?_
    rintro _ w19 ⟨rfl, hb19⟩
    refine Eng.aft_v rfl ?_
    refine Eng.sv rfl rfl (Eng.x_as (v := (.int .i64 (consE (rootsE (fB b) (sB b) (dB b (nB b)).length) (rootsD x (fB b) (sB b) (dB b (nB b))) (x, y)))) rfl rfl) ?_
    refine Eng.nil ?_
    refine hK15 _ _ ?_
    refine Eng.rt ?_
    refine Eng.ret (Eng.res1 (v1 := (.int .i64 (consE (rootsE (fB b) (sB b) (dB b (nB b)).length) (rootsD x (fB b) (sB b) (dB b (nB b))) (x, y)))) rfl (Eng.rdt rfl)) ?_
    have hB0_3 : Below w.heap.size w w6 := (hB0_2).trans (hb6.mono (hB0_2).size)
    have hB0_4 : Below w.heap.size w w7 := (hB0_3).trans (hb7.mono (hB0_3).size)
    have hB0_5 : Below w.heap.size w w8 := (hB0_4).grown hg8 (hB0_4).size (fun k e => by cases e; exact Nat.le_trans (hB0_3).size (Nat.le_refl _))
    have hB0_6 : Below w.heap.size w w19 := (hB0_5).trans (hb19.mono (hB0_5).size)
    have hk : kB b = 2 := by omega
    exact ⟨by simp [chk2, hok, hk], hB0_6⟩
set_option maxRecDepth 100000 in
set_option maxHeartbeats 4000000 in
theorem rchk2_no (v : Value) (b x y : List UInt8) (w : World) (h : Bs w v b) (hx : x.length = 32) (hy : y.length = 32) (hok : okB b = false) : Calls Tryd.prog 17 #[v, (dg x), (dg y)] w (fun e w' => e = .returned (.int .i64 (chk2 b x y)) ∧ Below w.heap.size w w') := by
  have hkb := kB_lt b
  refine Eng.enter (l := [v, (dg x), (dg y)]) Tryd.func17 rfl 29 rfl (by simp) ?_
  refine Eng.seqk fun K1 hK1 => ?_
  refine Eng.reg ?_
  refine Eng.bo (v := (dg x)) (cs := (bcs x)) rfl rfl rfl rfl rfl ?_
  intro w2 hk2 hb2 hz2
  refine Eng.bo (v := (dg y)) (cs := (bcs y)) rfl rfl rfl rfl rfl ?_
  intro w3 hk3 hb3 hz3
  refine Eng.sv rfl rfl (Eng.x_as (v := (.int .i64 0)) rfl rfl) ?_
  refine Eng.nil ?_
  refine hK1 _ _ ?_
  refine Eng.seqk fun K4 hK4 => ?_
  refine Eng.reg ?_
  refine Eng.sv rfl rfl (Eng.x_mv (v := v) rfl rfl) ?_
  have hB0_2 : Below w.heap.size w w3 := (hb2).trans (hb3.mono (hb2).size)
  have hr5 := (h).below hB0_2
  refine Eng.sc rfl (Eng.xc (vl := [v]) rfl rfl rfl en51_wk) ((rdecode_calls v b _ hr5).mono fun _ _ h => dec_no h hok) ?_
  rintro _ w6 ⟨rfl, hb6⟩
  refine Eng.aft_v rfl ?_
  refine Eng.sv rfl rfl (Eng.x_mv (v := (.tuple #[(.agg #[(.int .i64 0), (.int .i64 0), (.int .i64 0), (.slice none 0 0)]), (.int .i64 80)])) rfl rfl) ?_
  refine Eng.sv rfl rfl (Eng.x_ext (v := (.agg #[(.int .i64 0), (.int .i64 0), (.int .i64 0), (.slice none 0 0)])) rfl rfl rfl) ?_
  refine Eng.sv rfl rfl (Eng.x_ext (v := (.int .i64 80)) rfl rfl rfl) ?_
  refine Eng.al rfl rfl rfl zr35_wk (cs := [(.int .i64 0), (.int .i64 0), (.int .i64 0), (.slice none 0 0)]) rfl ?_
  intro w7 hk7 hb7 hz7
  refine Eng.stB (v := (.agg #[(.int .i64 0), (.int .i64 0), (.int .i64 0), (.slice none 0 0)])) rfl rfl rfl sz35_wk rfl hk7 rfl rfl (cs' := [(.int .i64 0), (.int .i64 0), (.int .i64 0), (.slice none 0 0)]) rfl rfl (Eng.one_cons rfl (Eng.one_cons rfl (Eng.one_cons rfl (Eng.one_cons rfl Eng.one_nil)))) ?_
  intro w8 hk8 hg8
  refine Eng.sv rfl rfl (Eng.x_as (v := (.int .i64 80)) rfl rfl) ?_
  refine Eng.nil ?_
  refine hK4 _ _ ?_
  refine Eng.seqk fun K9 hK9 => ?_
  refine Eng.seqk fun K10 hK10 => ?_
  refine Eng.reg ?_
  refine Eng.sv rfl rfl (Eng.x_mv (v := (.int .i64 80)) rfl rfl) ?_
  refine Eng.sv rfl rfl (Eng.x_ne (r := true) rfl rfl rfl (Eng.ne_t (by omega))) ?_
  refine Eng.nil ?_
  refine hK10 _ _ ?_
  refine Eng.cond_t rfl ?_
  refine Eng.seqk fun K11 hK11 => ?_
  refine Eng.reg ?_
  refine Eng.sv rfl rfl (Eng.x_mv (v := (.int .i64 80)) rfl rfl) ?_
  refine Eng.sv rfl rfl (Eng.x_as (v := (.int .i64 80)) rfl rfl) ?_
  refine Eng.nil ?_
  refine hK11 _ _ ?_
  refine Eng.rt ?_
  refine Eng.tr ?_
  refine Eng.ret (Eng.res1 (v1 := (.int .i64 80)) rfl (Eng.rdt rfl)) ?_
  have hB0_3 : Below w.heap.size w w6 := (hB0_2).trans (hb6.mono (hB0_2).size)
  have hB0_4 : Below w.heap.size w w7 := (hB0_3).trans (hb7.mono (hB0_3).size)
  have hB0_5 : Below w.heap.size w w8 := (hB0_4).grown hg8 (hB0_4).size (fun k e => by cases e; exact Nat.le_trans (hB0_3).size (Nat.le_refl _))
  exact ⟨by simp [chk2, hok], hB0_5⟩
theorem rchk2_calls (v : Value) (b x y : List UInt8) (w : World) (h : Bs w v b) (hx : x.length = 32) (hy : y.length = 32) : Calls Tryd.prog 17 #[v, dg x, dg y] w (fun e w' => e = .returned (.int .i64 (chk2 b x y)) ∧ Below w.heap.size w w') := by
  rcases Eng.tf (okB b) with hok | hok
  · exact rchk2_ok v b x y w h hx hy hok
  · exact rchk2_no v b x y w h hx hy hok
set_option maxRecDepth 100000 in
set_option maxHeartbeats 4000000 in
theorem law_calls (v : Value) (b x y : List UInt8) (w : World) (h : Bs w v b) (hx : x.length = 32) (hy : y.length = 32) (hK : Kon w) : Calls Tryd.prog 3 #[v, (dg x), (dg y)] w (fun e w' => e = .returned (.bool true) ∧ Below w.heap.size w w') := by
  have hbl := h.2
  refine Eng.enter (l := [v, (dg x), (dg y)]) Tryd.func3 rfl 38 rfl (by simp) ?_
  refine Eng.seqk fun K1 hK1 => ?_
  refine Eng.reg ?_
  refine Eng.bo (v := (dg x)) (cs := (bcs x)) rfl rfl rfl rfl rfl ?_
  intro w2 hk2 hb2 hz2
  refine Eng.bo (v := (dg y)) (cs := (bcs y)) rfl rfl rfl rfl rfl ?_
  intro w3 hk3 hb3 hz3
  refine Eng.sv rfl rfl (Eng.x_as (v := (.bool false)) rfl rfl) ?_
  refine Eng.nil ?_
  refine hK1 _ _ ?_
  refine Eng.seqk fun K4 hK4 => ?_
  refine Eng.reg ?_
  refine Eng.sv rfl rfl (Eng.x_bs0 rfl Tryd.underlying22 sz5_wk) ?_
  generalize hw5 : World.alloc w3 (.cells #[] 5) = w5
  have hb5 : Below w3.heap.size w3 w5 := hw5 ▸ Eng.below_al _ _
  have hz5 : w3.heap.size < w5.heap.size := hw5 ▸ Eng.lt_al _ _
  have ho5 : Own w3.heap.size w5 (.slice (some ⟨w3.heap.size, 0, none⟩) 0 0) [] := hw5 ▸ Own.lit0 _ (Nat.le_refl _)
  refine Eng.sv rfl rfl (Eng.x_mv (v := v) rfl rfl) ?_
  have hB0_2 : Below w.heap.size w w3 := (hb2).trans (hb3.mono (hb2).size)
  have hB0_3 : Below w.heap.size w w5 := (hB0_2).trans (hb5.mono (hB0_2).size)
  have hr7 := (h).below hB0_3
  refine Eng.apB rfl rfl rfl rfl ho5 rfl (hr7).1 (by simp; omega) (hb5).size ?_
  intro v6 w6 ho6 hg6
  rw [List.nil_append] at ho6
  refine Eng.sv rfl rfl (Eng.x_as (v := v6) rfl rfl) ?_
  refine Eng.nil ?_
  refine hK4 _ _ ?_
  refine Eng.seqk fun K8 hK8 => ?_
  have hk10 := (((hk2).below hb3).below hb5).grown hg6 (fun e => absurd ((World.ownsRow.lt ho5) _ e.symm).1 (Nat.not_le_of_lt (Nat.lt_of_lt_of_le hz2 (hb3).size)))
  have hk11 := ((hk3).below hb5).grown hg6 (fun e => absurd ((World.ownsRow.lt ho5) _ e.symm).1 (Nat.not_le_of_lt (Nat.lt_of_lt_of_le hz3 (Nat.le_refl _))))
  have hB0_4 : Below w.heap.size w w6 := (hB0_3).grown hg6 (hB0_3).size (fun k e => Nat.le_trans (hB0_2).size ((World.ownsRow.lt ho5) _ e).1)
  have hr12 := (hK).below hB0_4
  have hr13 := (h).below hB0_4
  refine Eng.draw 28 [fun (vQ : Value) (_ : World) => vQ = v6, fun (vQ : Value) (_ : World) => vQ = (dg x), fun (vQ : Value) (_ : World) => vQ = (dg y), fun (vQ : Value) (_ : World) => vQ = (.int .i64 (chk1 b x y)), fun (vQ : Value) (_ : World) => vQ = v, fun (vQ : Value) (_ : World) => vQ = (dg x), fun (vQ : Value) (_ : World) => vQ = (dg y), fun (vQ : Value) (_ : World) => vQ = (.int .i64 (chk1 b x y)), fun (vQ : Value) (_ : World) => vQ = (.bool true), fun (vQ : Value) (_ : World) => vQ = (.bool true), fun (vQ : Value) (_ : World) => vQ = v6, fun (vQ : Value) (_ : World) => vQ = (dg x), fun (vQ : Value) (_ : World) => vQ = (dg y), fun (vQ : Value) (_ : World) => vQ = (.int .i64 (chk2 b x y)), fun (vQ : Value) (_ : World) => vQ = v, fun (vQ : Value) (_ : World) => vQ = (dg x), fun (vQ : Value) (_ : World) => vQ = (dg y), fun (vQ : Value) (_ : World) => vQ = (.int .i64 (chk2 b x y)), fun (vQ : Value) (_ : World) => vQ = (.bool true), fun (vQ : Value) (_ : World) => vQ = (.bool true), fun (vQ : Value) (_ : World) => vQ = (.bool true), fun (vQ : Value) (_ : World) => vQ = v6, fun (vQ : Value) (_ : World) => vQ = (.string (str (b))), fun (vQ : Value) (_ : World) => vQ = v, fun (vQ : Value) (_ : World) => vQ = (.string (str b)), fun (vQ : Value) (_ : World) => vQ = (.bool true), fun (vQ : Value) (_ : World) => vQ = (.bool true), fun (vQ : Value) (_ : World) => vQ = (.bool true)] (by kernel_rfl) (by kernel_rfl) (by kernel_rfl) (by kernel_rfl) rfl rfl ?_ ?_ ?_
  · exact ⟨fun _ _ _ h _ => h, fun _ _ _ h _ => h, fun _ _ _ h _ => h, fun _ _ _ h _ => h, fun _ _ _ h _ => h, fun _ _ _ h _ => h, fun _ _ _ h _ => h, fun _ _ _ h _ => h, fun _ _ _ h _ => h, fun _ _ _ h _ => h, fun _ _ _ h _ => h, fun _ _ _ h _ => h, fun _ _ _ h _ => h, fun _ _ _ h _ => h, fun _ _ _ h _ => h, fun _ _ _ h _ => h, fun _ _ _ h _ => h, fun _ _ _ h _ => h, fun _ _ _ h _ => h, fun _ _ _ h _ => h, fun _ _ _ h _ => h, fun _ _ _ h _ => h, fun _ _ _ h _ => h, fun _ _ _ h _ => h, fun _ _ _ h _ => h, fun _ _ _ h _ => h, fun _ _ _ h _ => h, fun _ _ _ h _ => h, trivial⟩
  · refine ⟨?_, ?_, ?_, ?_, ?_, ?_, ?_, ?_, ?_, ?_, ?_, ?_, ?_, ?_, ?_, ?_, ?_, ?_, ?_, ?_, ?_, ?_, ?_, ?_, ?_, ?_, ?_, ?_, trivial⟩
    · intro u' W hbW hkp hdp K hK
      refine Eng.dv rfl rfl ?_ (hK _ _ (Below.refl _ _) rfl)
      exact (Eng.x_mv (v := v6) rfl (show Eng.opv 38 u' (.tmp 7) = v6 from hkp 7 rfl))
    · intro u' W hbW hkp hdp K hK
      refine Eng.dv rfl rfl ?_ (hK _ _ (Below.refl _ _) rfl)
      exact (Eng.x_ldB (v := (dg x)) rfl ag24_wk sz24_wk (show Eng.opv 38 u' (.tmp 4) = (.pointer (some ⟨w.heap.size, 0, none⟩)) from hkp 4 rfl) ((hk10).below hbW) ((bcs_length _).trans hx) rfl)
    · intro u' W hbW hkp hdp K hK
      refine Eng.dv rfl rfl ?_ (hK _ _ (Below.refl _ _) rfl)
      exact (Eng.x_ldB (v := (dg y)) rfl ag24_wk sz24_wk (show Eng.opv 38 u' (.tmp 5) = (.pointer (some ⟨w2.heap.size, 0, none⟩)) from hkp 5 rfl) ((hk11).below hbW) ((bcs_length _).trans hy) rfl)
    · intro u' W hbW hkp hdp K hK
      have e0 : (fun (vQ : Value) (_ : World) => vQ = v6) (u' 11) W := hdp.1
      have e1 : (fun (vQ : Value) (_ : World) => vQ = (dg x)) (u' 12) W := hdp.2.1
      have e2 : (fun (vQ : Value) (_ : World) => vQ = (dg y)) (u' 13) W := hdp.2.2.1
      refine Eng.dc (vs := #[v6, (dg x), (dg y)]) rfl ?_ (chk1_calls _ b x y _ ⟨(((ho6).below hbW)).rd, hbl⟩ hx hy ((hr12).below hbW)) ?_
      · exact Eng.xc (xs := #[(Go.Operand.tmp 11), (Go.Operand.tmp 12), (Go.Operand.tmp 13)]) (vl := [v6, (dg x), (dg y)]) rfl rfl (Eng.lc (show Eng.opv 38 u' (.tmp 11) = v6 from e0) (Eng.lc (show Eng.opv 38 u' (.tmp 12) = (dg x) from e1) (Eng.lc (show Eng.opv 38 u' (.tmp 13) = (dg y) from e2) rfl))) en14_wk
      rintro _ W2 ⟨rfl, hb2⟩
      exact Eng.aft_v rfl (hK _ _ hb2 rfl)
    · intro u' W hbW hkp hdp K hK
      refine Eng.dv rfl rfl ?_ (hK _ _ (Below.refl _ _) rfl)
      exact (Eng.x_mv (v := v) rfl (show Eng.opv 38 u' (.tmp 0) = v from hkp 0 rfl))
    · intro u' W hbW hkp hdp K hK
      refine Eng.dv rfl rfl ?_ (hK _ _ (Below.refl _ _) rfl)
      exact (Eng.x_ldB (v := (dg x)) rfl ag24_wk sz24_wk (show Eng.opv 38 u' (.tmp 4) = (.pointer (some ⟨w.heap.size, 0, none⟩)) from hkp 4 rfl) ((hk10).below hbW) ((bcs_length _).trans hx) rfl)
    · intro u' W hbW hkp hdp K hK
      refine Eng.dv rfl rfl ?_ (hK _ _ (Below.refl _ _) rfl)
      exact (Eng.x_ldB (v := (dg y)) rfl ag24_wk sz24_wk (show Eng.opv 38 u' (.tmp 5) = (.pointer (some ⟨w2.heap.size, 0, none⟩)) from hkp 5 rfl) ((hk11).below hbW) ((bcs_length _).trans hy) rfl)
    · intro u' W hbW hkp hdp K hK
      have e4 : (fun (vQ : Value) (_ : World) => vQ = v) (u' 15) W := hdp.1
      have e5 : (fun (vQ : Value) (_ : World) => vQ = (dg x)) (u' 16) W := hdp.2.1
      have e6 : (fun (vQ : Value) (_ : World) => vQ = (dg y)) (u' 17) W := hdp.2.2.1
      refine Eng.dc (vs := #[v, (dg x), (dg y)]) rfl ?_ (rchk1_calls _ b x y _ ((hr13).below hbW) hx hy) ?_
      · exact Eng.xc (xs := #[(Go.Operand.tmp 15), (Go.Operand.tmp 16), (Go.Operand.tmp 17)]) (vl := [v, (dg x), (dg y)]) rfl rfl (Eng.lc (show Eng.opv 38 u' (.tmp 15) = v from e4) (Eng.lc (show Eng.opv 38 u' (.tmp 16) = (dg x) from e5) (Eng.lc (show Eng.opv 38 u' (.tmp 17) = (dg y) from e6) rfl))) en15_wk
      rintro _ W2 ⟨rfl, hb2⟩
      exact Eng.aft_v rfl (hK _ _ hb2 rfl)
    · intro u' W hbW hkp hdp K hK
      have e3 : (fun (vQ : Value) (_ : World) => vQ = (.int .i64 (chk1 b x y))) (u' 14) W := hdp.1
      have e7 : (fun (vQ : Value) (_ : World) => vQ = (.int .i64 (chk1 b x y))) (u' 18) W := hdp.2.1
      refine Eng.dv rfl rfl ?_ (hK _ _ (Below.refl _ _) rfl)
      exact (Eng.x_eq (r := true) rfl (show Eng.opv 38 u' (.tmp 14) = (.int .i64 (chk1 b x y)) from e3) (show Eng.opv 38 u' (.tmp 18) = (.int .i64 (chk1 b x y)) from e7) (Eng.eq_t (rfl)))
    · intro u' W hbW hkp hdp K hK
      have e8 : (fun (vQ : Value) (_ : World) => vQ = (.bool true)) (u' 19) W := hdp.1
      refine Eng.dv rfl rfl ?_ (hK _ _ (Below.refl _ _) rfl)
      exact (Eng.x_mv (v := (.bool true)) rfl (show Eng.opv 38 u' (.tmp 19) = (.bool true) from e8))
    · intro u' W hbW hkp hdp K hK
      have e9 : (fun (vQ : Value) (_ : World) => vQ = (.bool true)) (u' 20) W := hdp.1
      refine Eng.dv (Eng.gt rfl rfl rfl (show Eng.opv 38 u' (.tmp 20) = (.bool true) from e9)) rfl ?_ (hK _ _ (Below.refl _ _) rfl)
      exact (Eng.x_mv (v := v6) rfl (show Eng.opv 38 u' (.tmp 7) = v6 from hkp 7 rfl))
    · intro u' W hbW hkp hdp K hK
      have e9 : (fun (vQ : Value) (_ : World) => vQ = (.bool true)) (u' 20) W := hdp.1
      refine Eng.dv (Eng.gt rfl rfl rfl (show Eng.opv 38 u' (.tmp 20) = (.bool true) from e9)) rfl ?_ (hK _ _ (Below.refl _ _) rfl)
      exact (Eng.x_ldB (v := (dg x)) rfl ag24_wk sz24_wk (show Eng.opv 38 u' (.tmp 4) = (.pointer (some ⟨w.heap.size, 0, none⟩)) from hkp 4 rfl) ((hk10).below hbW) ((bcs_length _).trans hx) rfl)
    · intro u' W hbW hkp hdp K hK
      have e9 : (fun (vQ : Value) (_ : World) => vQ = (.bool true)) (u' 20) W := hdp.1
      refine Eng.dv (Eng.gt rfl rfl rfl (show Eng.opv 38 u' (.tmp 20) = (.bool true) from e9)) rfl ?_ (hK _ _ (Below.refl _ _) rfl)
      exact (Eng.x_ldB (v := (dg y)) rfl ag24_wk sz24_wk (show Eng.opv 38 u' (.tmp 5) = (.pointer (some ⟨w2.heap.size, 0, none⟩)) from hkp 5 rfl) ((hk11).below hbW) ((bcs_length _).trans hy) rfl)
    · intro u' W hbW hkp hdp K hK
      have e9 : (fun (vQ : Value) (_ : World) => vQ = (.bool true)) (u' 20) W := hdp.2.2.2.1
      have e10 : (fun (vQ : Value) (_ : World) => vQ = v6) (u' 21) W := hdp.1
      have e11 : (fun (vQ : Value) (_ : World) => vQ = (dg x)) (u' 22) W := hdp.2.1
      have e12 : (fun (vQ : Value) (_ : World) => vQ = (dg y)) (u' 23) W := hdp.2.2.1
      refine Eng.dc (vs := #[v6, (dg x), (dg y)]) (Eng.gt rfl rfl rfl (show Eng.opv 38 u' (.tmp 20) = (.bool true) from e9)) ?_ (chk2_calls _ b x y _ ⟨(((ho6).below hbW)).rd, hbl⟩ hx hy ((hr12).below hbW)) ?_
      · exact Eng.xc (xs := #[(Go.Operand.tmp 21), (Go.Operand.tmp 22), (Go.Operand.tmp 23)]) (vl := [v6, (dg x), (dg y)]) rfl rfl (Eng.lc (show Eng.opv 38 u' (.tmp 21) = v6 from e10) (Eng.lc (show Eng.opv 38 u' (.tmp 22) = (dg x) from e11) (Eng.lc (show Eng.opv 38 u' (.tmp 23) = (dg y) from e12) rfl))) en16_wk
      rintro _ W2 ⟨rfl, hb2⟩
      exact Eng.aft_v rfl (hK _ _ hb2 rfl)
    · intro u' W hbW hkp hdp K hK
      have e9 : (fun (vQ : Value) (_ : World) => vQ = (.bool true)) (u' 20) W := hdp.1
      refine Eng.dv (Eng.gt rfl rfl rfl (show Eng.opv 38 u' (.tmp 20) = (.bool true) from e9)) rfl ?_ (hK _ _ (Below.refl _ _) rfl)
      exact (Eng.x_mv (v := v) rfl (show Eng.opv 38 u' (.tmp 0) = v from hkp 0 rfl))
    · intro u' W hbW hkp hdp K hK
      have e9 : (fun (vQ : Value) (_ : World) => vQ = (.bool true)) (u' 20) W := hdp.1
      refine Eng.dv (Eng.gt rfl rfl rfl (show Eng.opv 38 u' (.tmp 20) = (.bool true) from e9)) rfl ?_ (hK _ _ (Below.refl _ _) rfl)
      exact (Eng.x_ldB (v := (dg x)) rfl ag24_wk sz24_wk (show Eng.opv 38 u' (.tmp 4) = (.pointer (some ⟨w.heap.size, 0, none⟩)) from hkp 4 rfl) ((hk10).below hbW) ((bcs_length _).trans hx) rfl)
    · intro u' W hbW hkp hdp K hK
      have e9 : (fun (vQ : Value) (_ : World) => vQ = (.bool true)) (u' 20) W := hdp.1
      refine Eng.dv (Eng.gt rfl rfl rfl (show Eng.opv 38 u' (.tmp 20) = (.bool true) from e9)) rfl ?_ (hK _ _ (Below.refl _ _) rfl)
      exact (Eng.x_ldB (v := (dg y)) rfl ag24_wk sz24_wk (show Eng.opv 38 u' (.tmp 5) = (.pointer (some ⟨w2.heap.size, 0, none⟩)) from hkp 5 rfl) ((hk11).below hbW) ((bcs_length _).trans hy) rfl)
    · intro u' W hbW hkp hdp K hK
      have e9 : (fun (vQ : Value) (_ : World) => vQ = (.bool true)) (u' 20) W := hdp.2.2.2.2.1
      have e14 : (fun (vQ : Value) (_ : World) => vQ = v) (u' 25) W := hdp.1
      have e15 : (fun (vQ : Value) (_ : World) => vQ = (dg x)) (u' 26) W := hdp.2.1
      have e16 : (fun (vQ : Value) (_ : World) => vQ = (dg y)) (u' 27) W := hdp.2.2.1
      refine Eng.dc (vs := #[v, (dg x), (dg y)]) (Eng.gt rfl rfl rfl (show Eng.opv 38 u' (.tmp 20) = (.bool true) from e9)) ?_ (rchk2_calls _ b x y _ ((hr13).below hbW) hx hy) ?_
      · exact Eng.xc (xs := #[(Go.Operand.tmp 25), (Go.Operand.tmp 26), (Go.Operand.tmp 27)]) (vl := [v, (dg x), (dg y)]) rfl rfl (Eng.lc (show Eng.opv 38 u' (.tmp 25) = v from e14) (Eng.lc (show Eng.opv 38 u' (.tmp 26) = (dg x) from e15) (Eng.lc (show Eng.opv 38 u' (.tmp 27) = (dg y) from e16) rfl))) en17_wk
      rintro _ W2 ⟨rfl, hb2⟩
      exact Eng.aft_v rfl (hK _ _ hb2 rfl)
    · intro u' W hbW hkp hdp K hK
      have e9 : (fun (vQ : Value) (_ : World) => vQ = (.bool true)) (u' 20) W := hdp.2.2.1
      have e13 : (fun (vQ : Value) (_ : World) => vQ = (.int .i64 (chk2 b x y))) (u' 24) W := hdp.1
      have e17 : (fun (vQ : Value) (_ : World) => vQ = (.int .i64 (chk2 b x y))) (u' 28) W := hdp.2.1
      refine Eng.dv (Eng.gt rfl rfl rfl (show Eng.opv 38 u' (.tmp 20) = (.bool true) from e9)) rfl ?_ (hK _ _ (Below.refl _ _) rfl)
      exact (Eng.x_eq (r := true) rfl (show Eng.opv 38 u' (.tmp 24) = (.int .i64 (chk2 b x y)) from e13) (show Eng.opv 38 u' (.tmp 28) = (.int .i64 (chk2 b x y)) from e17) (Eng.eq_t (rfl)))
    · intro u' W hbW hkp hdp K hK
      have e9 : (fun (vQ : Value) (_ : World) => vQ = (.bool true)) (u' 20) W := hdp.1
      have e18 : (fun (vQ : Value) (_ : World) => vQ = (.bool true)) (u' 29) W := hdp.2.1
      refine Eng.dv rfl rfl ?_ (hK _ _ (Below.refl _ _) rfl)
      exact (Eng.x_pick (v := (.bool true)) rfl (show Eng.opv 38 u' (.tmp 20) = (.bool true) from e9) (show Eng.opv 38 u' (.tmp 29) = (.bool true) from e18) rfl rfl)
    · intro u' W hbW hkp hdp K hK
      have e19 : (fun (vQ : Value) (_ : World) => vQ = (.bool true)) (u' 30) W := hdp.1
      refine Eng.dv rfl rfl ?_ (hK _ _ (Below.refl _ _) rfl)
      exact (Eng.x_mv (v := (.bool true)) rfl (show Eng.opv 38 u' (.tmp 30) = (.bool true) from e19))
    · intro u' W hbW hkp hdp K hK
      have e20 : (fun (vQ : Value) (_ : World) => vQ = (.bool true)) (u' 31) W := hdp.1
      refine Eng.dv (Eng.gt rfl rfl rfl (show Eng.opv 38 u' (.tmp 31) = (.bool true) from e20)) rfl ?_ (hK _ _ (Below.refl _ _) rfl)
      exact (Eng.x_mv (v := v6) rfl (show Eng.opv 38 u' (.tmp 7) = v6 from hkp 7 rfl))
    · intro u' W hbW hkp hdp K hK
      have e20 : (fun (vQ : Value) (_ : World) => vQ = (.bool true)) (u' 31) W := hdp.2.1
      have e21 : (fun (vQ : Value) (_ : World) => vQ = v6) (u' 32) W := hdp.1
      refine Eng.dv (Eng.gt rfl rfl rfl (show Eng.opv 38 u' (.tmp 31) = (.bool true) from e20)) rfl ?_ (hK _ _ (Below.refl _ _) rfl)
      exact (Eng.x_str (v := v6) (bs := (b)) rfl Tryd.underlying22 Tryd.underlying5 Tryd.underlying9 (show Eng.opv 38 u' (.tmp 32) = v6 from e21) (((ho6).below hbW)).rd)
    · intro u' W hbW hkp hdp K hK
      have e20 : (fun (vQ : Value) (_ : World) => vQ = (.bool true)) (u' 31) W := hdp.1
      refine Eng.dv (Eng.gt rfl rfl rfl (show Eng.opv 38 u' (.tmp 31) = (.bool true) from e20)) rfl ?_ (hK _ _ (Below.refl _ _) rfl)
      exact (Eng.x_mv (v := v) rfl (show Eng.opv 38 u' (.tmp 0) = v from hkp 0 rfl))
    · intro u' W hbW hkp hdp K hK
      have e20 : (fun (vQ : Value) (_ : World) => vQ = (.bool true)) (u' 31) W := hdp.2.1
      have e23 : (fun (vQ : Value) (_ : World) => vQ = v) (u' 34) W := hdp.1
      refine Eng.dv (Eng.gt rfl rfl rfl (show Eng.opv 38 u' (.tmp 31) = (.bool true) from e20)) rfl ?_ (hK _ _ (Below.refl _ _) rfl)
      exact (Eng.x_str (v := v) (bs := b) rfl Tryd.underlying22 Tryd.underlying5 Tryd.underlying9 (show Eng.opv 38 u' (.tmp 34) = v from e23) (((hr13).below hbW)).1)
    · intro u' W hbW hkp hdp K hK
      have e20 : (fun (vQ : Value) (_ : World) => vQ = (.bool true)) (u' 31) W := hdp.2.2.1
      have e22 : (fun (vQ : Value) (_ : World) => vQ = (.string (str (b)))) (u' 33) W := hdp.1
      have e24 : (fun (vQ : Value) (_ : World) => vQ = (.string (str b))) (u' 35) W := hdp.2.1
      refine Eng.dv (Eng.gt rfl rfl rfl (show Eng.opv 38 u' (.tmp 31) = (.bool true) from e20)) rfl ?_ (hK _ _ (Below.refl _ _) rfl)
      exact (Eng.x_eqS (p := (b)) (q := b) (r := true) rfl (show Eng.opv 38 u' (.tmp 33) = (.string (str (b))) from e22) (show Eng.opv 38 u' (.tmp 35) = (.string (str b)) from e24) (by simp))
    · intro u' W hbW hkp hdp K hK
      have e20 : (fun (vQ : Value) (_ : World) => vQ = (.bool true)) (u' 31) W := hdp.1
      have e25 : (fun (vQ : Value) (_ : World) => vQ = (.bool true)) (u' 36) W := hdp.2.1
      refine Eng.dv rfl rfl ?_ (hK _ _ (Below.refl _ _) rfl)
      exact (Eng.x_pick (v := (.bool true)) rfl (show Eng.opv 38 u' (.tmp 31) = (.bool true) from e20) (show Eng.opv 38 u' (.tmp 36) = (.bool true) from e25) rfl rfl)
    · intro u' W hbW hkp hdp K hK
      have e26 : (fun (vQ : Value) (_ : World) => vQ = (.bool true)) (u' 37) W := hdp.1
      refine Eng.dv rfl rfl ?_ (hK _ _ (Below.refl _ _) rfl)
      exact (Eng.x_as (v := (.bool true)) rfl (show Eng.opv 38 u' (.tmp 37) = (.bool true) from e26))
  · intro ud9 w9 hb9 hkp9 ⟨f9_0, f9_1, f9_2, f9_3, f9_4, f9_5, f9_6, f9_7, f9_8, f9_9, f9_10, f9_11, f9_12, f9_13, f9_14, f9_15, f9_16, f9_17, f9_18, f9_19, f9_20, f9_21, f9_22, f9_23, f9_24, f9_25, f9_26, f9_27, _⟩
    obtain rfl := Eng.collect (l := [(11, v6), (12, (dg x)), (13, (dg y)), (14, (.int .i64 (chk1 b x y))), (15, v), (16, (dg x)), (17, (dg y)), (18, (.int .i64 (chk1 b x y))), (19, (.bool true)), (20, (.bool true)), (21, v6), (22, (dg x)), (23, (dg y)), (24, (.int .i64 (chk2 b x y))), (25, v), (26, (dg x)), (27, (dg y)), (28, (.int .i64 (chk2 b x y))), (29, (.bool true)), (30, (.bool true)), (31, (.bool true)), (32, v6), (33, (.string (str (b)))), (34, v), (35, (.string (str b))), (36, (.bool true)), (37, (.bool true)), (6, (.bool true))]) hkp9 ⟨f9_0, f9_1, f9_2, f9_3, f9_4, f9_5, f9_6, f9_7, f9_8, f9_9, f9_10, f9_11, f9_12, f9_13, f9_14, f9_15, f9_16, f9_17, f9_18, f9_19, f9_20, f9_21, f9_22, f9_23, f9_24, f9_25, f9_26, f9_27, trivial⟩ rfl
    refine Eng.nil ?_
    refine hK8 _ _ ?_
    refine Eng.rt ?_
    refine Eng.ret (Eng.res1 (v1 := (.bool true)) rfl (Eng.rdt rfl)) ?_
    have hB0_5 : Below w.heap.size w w9 := (hB0_4).trans (hb9.mono (hB0_4).size)
    exact ⟨rfl, hB0_5⟩
end Go.Proofs.YtojenflknjhmkaaDoor.Wch
