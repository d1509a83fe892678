/- The digests in a tile's bytes, and the reference's Root of digests. -/
import Derived.Test.YtojenflknjhmkaaDoorTilO
import Derived.Test.YtojenflknjhmkaaDoorTilR
import Derived.Test.YtojenflknjhmkaaDoorRot
namespace Go.Proofs.YtojenflknjhmkaaDoor.Tid
open Go Go.RowKit Go.Proofs.YtojenflknjhmkaaDoor Go.Proofs.YtojenflknjhmkaaDoor.Cop Go.Proofs.YtojenflknjhmkaaDoor.Ver Go.Proofs.YtojenflknjhmkaaDoor.Tre Go.Proofs.YtojenflknjhmkaaDoor.TreP Go.Proofs.YtojenflknjhmkaaDoor.Vfy Go.Proofs.YtojenflknjhmkaaDoor.Oct Go.Proofs.YtojenflknjhmkaaDoor.Dsl Go.Proofs.YtojenflknjhmkaaDoor.Sha
set_option linter.unusedVariables false
set_option linter.unusedSimpArgs false
theorem en81_ts : Eng.Entr Tryd.prog 81 := ⟨_, Tryd.func81, by kernel_rfl, by kernel_rfl⟩
theorem zr24_ts (w : World) : (zeroValue 24).run Tryd.prog w = .ok (dg Oct.dz) w := by kernel_rfl
theorem sz24_ts : (Tryd.prog.info? 24).map (fun i => i.size) = some 32 := by kernel_rfl
theorem ag24_ts (w : World) : (isAgg 24).run Tryd.prog w = .ok true w := by kernel_rfl
theorem in24_ts : (Tryd.prog.info? 24).map (fun i => (i.zero, i.size, i.bytes)) = some (some (dg Oct.dz), 32, 32) := by kernel_rfl
theorem en74_ts : Eng.Entr Tryd.prog 74 := ⟨_, Tryd.func74, by kernel_rfl, by kernel_rfl⟩
theorem zr23_ts (w : World) : (zeroValue 23).run Tryd.prog w = .ok (dg Oct.dz) w := by kernel_rfl
theorem sz23_ts : (Tryd.prog.info? 23).map (fun i => i.size) = some 32 := by kernel_rfl
theorem ag23_ts (w : World) : (isAgg 23).run Tryd.prog w = .ok true w := by kernel_rfl
theorem en197_ts : Eng.Entr Tryd.prog 197 := ⟨_, Tryd.func197, by kernel_rfl, by kernel_rfl⟩
theorem en151_ts : Eng.Entr Tryd.prog 151 := ⟨_, Tryd.func151, by kernel_rfl, by kernel_rfl⟩
theorem en156_ts : Eng.Entr Tryd.prog 156 := ⟨_, Tryd.func156, by kernel_rfl, by kernel_rfl⟩
theorem en105_ts : Eng.Entr Tryd.prog 105 := ⟨_, Tryd.func105, by kernel_rfl, by kernel_rfl⟩
theorem en157_ts : Eng.Entr Tryd.prog 157 := ⟨_, Tryd.func157, by kernel_rfl, by kernel_rfl⟩
def dL (b : List UInt8) (n : Nat) : List (List UInt8) := (List.range n).map fun i : Nat => gd b (32 * (i : Int))
theorem dL_length (b : List UInt8) (n : Nat) : (dL b n).length = n := by simp [dL]
theorem dL_32 (b : List UInt8) (n : Nat) : All32 (dL b n) := by
  intro d hd
  obtain ⟨i, _, rfl⟩ := List.mem_map.1 hd
  exact gd_length _ _
theorem dL_succ (b : List UInt8) (n : Nat) : dL b (n + 1) = dL b n ++ [gd b (32 * (n : Int))] := by simp [dL, List.range_succ]
set_option maxRecDepth 100000 in
set_option maxHeartbeats 4000000 in
theorem pdigs_calls (v : Value) (b : List UInt8) (w : World) (h : Bs w v b) : Calls Tryd.prog 102 #[v] w (fun e w' => ∃ v', e = .returned v' ∧ Eng.OwnD w.heap.size w' v' (dL b (b.length / 32)) ∧ Below w.heap.size w w') := by
  have hbl := h.2
  refine Eng.enter (l := [v]) Tryd.func102 rfl 28 rfl (by simp) ?_
  refine Eng.seqk fun K1 hK1 => ?_
  refine Eng.reg ?_
  refine Eng.sv rfl rfl (Eng.x_as (v := (.slice none 0 0)) rfl rfl) ?_
  refine Eng.nil ?_
  refine hK1 _ _ ?_
  refine Eng.seqk fun K2 hK2 => ?_
  refine Eng.reg ?_
  refine Eng.sv rfl rfl (Eng.x_as (v := (.slice none 0 0)) rfl rfl) ?_
  refine Eng.nil ?_
  refine hK2 _ _ ?_
  refine Eng.seqk fun K3 hK3 => ?_
  refine Eng.seqk fun K4 hK4 => ?_
  refine Eng.reg ?_
  refine Eng.sv rfl rfl (Eng.x_mv (v := v) rfl rfl) ?_
  refine Eng.sv rfl rfl (Eng.x_len (v := v) (r := (b.length : Int)) rfl Tryd.underlying22 rfl (h).1 rfl) ?_
  refine Eng.sv rfl rfl (Eng.x_quo rfl rfl rfl (by decide) (r := ((b.length / 32 : Nat) : Int)) (Eng.w64 ⟨tdiv_nat b.length 32, by omega, by omega⟩)) ?_
  refine Eng.sv rfl rfl (Eng.x_mv (v := (.int .i64 0)) rfl rfl) ?_
  refine Eng.nil ?_
  refine hK4 _ _ ?_
  refine Eng.blk ?_
  refine Eng.loopN (fun zz u w' => ∃ (k : Nat), ∃ (vp : Value), zz = b.length / 32 - k ∧ k ≤ b.length / 32 ∧ Eng.Has u [(0, v), (2, (.slice none 0 0)), (3, vp), (10, (.int .i64 ((b.length / 32 : Nat) : Int))), (11, (.int .i64 (k : Int)))] ∧ Below w.heap.size w w' ∧ w.heap.size ≤ w'.heap.size ∧ Eng.OwnD w.heap.size w' vp (dL b k)) _ ⟨0, (.slice none 0 0), rfl, by omega, ⟨rfl, rfl, rfl, rfl, (Eng.ie (by first | omega | rfl)), trivial⟩, (Below.refl _ _), (Nat.le_refl _), (Eng.OwnD.nil _ _)⟩ ?_
  rintro _ u5 w5 ⟨k, vp, rfl, hs5_0, hH5, hBL5, hzL5, hrL5_0⟩ K5 hK5
  obtain ⟨u5, rfl⟩ := hH5.ex
  refine Eng.seqk fun K6 hK6 => ?_
  refine Eng.reg ?_
  by_cases h12 : ((k : Int) : Int) < ((b.length / 32 : Nat) : Int)
  · skip
    refine Eng.sv rfl rfl (Eng.x_lt (r := true) rfl rfl rfl (decide_eq_true (by omega))) ?_
    refine Eng.nil ?_
    refine hK6 _ _ ?_
    refine Eng.seqk fun K7 hK7 => ?_
    refine Eng.cond_t rfl ?_
    refine Eng.skp ?_
    refine hK7 _ _ ?_
    refine Eng.seqk fun K8 hK8 => ?_
    refine Eng.blk ?_
    refine Eng.seqk fun K9 hK9 => ?_
    refine Eng.reg ?_
    refine Eng.sv rfl rfl (Eng.x_mv (v := (.int .i64 (k : Int))) rfl rfl) ?_
    refine Eng.sv rfl rfl (Eng.x_as (v := (.int .i64 (k : Int))) rfl rfl) ?_
    refine Eng.nil ?_
    refine hK9 _ _ ?_
    refine Eng.seqk fun K10 hK10 => ?_
    refine Eng.reg ?_
    refine Eng.sv rfl rfl (Eng.x_mv (v := v) rfl rfl) ?_
    refine Eng.sv rfl rfl (Eng.x_mv (v := (.int .i64 (k : Int))) rfl rfl) ?_
    refine Eng.sv rfl rfl (Eng.x_mul rfl rfl rfl (Eng.w64 (r := (32 * (k : Int))) (by omega))) ?_
    have hr11 := (h).below hBL5
    refine Eng.sc rfl (Eng.xc (vl := [v, (.int .i64 (32 * (k : Int)))]) rfl rfl rfl en81_ts) ((gdig_calls v b (32 * (k : Int)) _ hr11 (by omega)).mono fun _ _ => GetD.out) ?_
    rintro _ w12 ⟨rfl, hb12⟩
    refine Eng.aft_v rfl ?_
    refine Eng.sv rfl rfl (Eng.x_mv (v := (.tuple #[(dg (gd b (32 * (k : Int)))), (.int .i64 (gn b (32 * (k : Int)) 32)), (.int .i64 (room b.length (32 * (k : Int)) 32))])) rfl rfl) ?_
    refine Eng.sv rfl rfl (Eng.x_ext (v := (dg (gd b (32 * (k : Int))))) rfl rfl rfl) ?_
    refine Eng.sv rfl rfl (Eng.x_ext (v := (.int .i64 (gn b (32 * (k : Int)) 32))) rfl rfl rfl) ?_
    refine Eng.sv rfl rfl (Eng.x_ext (v := (.int .i64 (room b.length (32 * (k : Int)) 32))) rfl rfl rfl) ?_
    refine Eng.al rfl rfl rfl zr24_ts (cs := (bcs Oct.dz)) rfl ?_
    intro w13 hk13 hb13 hz13
    refine Eng.stB (v := (dg (gd b (32 * (k : Int))))) rfl rfl rfl sz24_ts rfl hk13 rfl rfl (cs' := (bcs (gd b (32 * (k : Int))))) rfl ((bcs_length _).trans (gd_length _ _)) (bcs_one _) ?_
    intro w14 hk14 hg14
    refine Eng.sv rfl rfl (Eng.x_as (v := (.int .i64 (gn b (32 * (k : Int)) 32))) rfl rfl) ?_
    refine Eng.sv rfl rfl (Eng.x_as (v := (.int .i64 (room b.length (32 * (k : Int)) 32))) rfl rfl) ?_
    refine Eng.nil ?_
    refine hK10 _ _ ?_
    refine Eng.reg ?_
    refine Eng.sv rfl rfl (Eng.x_mv (v := vp) rfl rfl) ?_
    refine Eng.sv rfl rfl (Eng.x_ldB (v := (dg (gd b (32 * (k : Int))))) rfl ag24_ts sz24_ts rfl hk14 ((bcs_length _).trans (gd_length _ _)) rfl) ?_
    refine Eng.bs (vs := [(dg (gd b (32 * (k : Int))))]) (cs := (Dsl.dcs [(gd b (32 * (k : Int)))])) rfl rfl rfl Tryd.underlying29 in24_ts (dg_size dz_length) (by decide) rfl rfl (by decide) (by decide) (Eng.all_cons (p := fun v => v.cells.size = 32) (Eng.dg_cells (gd_length _ _)) Eng.all_nil) (by simp [Dsl.dcs, Value.cells]) ?_
    intro w15 hk15 hb15 hz15
    have hr17 := ((((hrL5_0).below hb12).below hb13).kept hg14 (.inr (fun e => absurd ((World.ownsRow.lt (hrL5_0).1) _ e).2 (Nat.not_lt_of_le (Nat.le_trans (hb12).size (Nat.le_refl _)))))).below hb15
    have hB0_2 : Below w.heap.size w w12 := (hBL5).trans (hb12.mono (hBL5).size)
    have hB0_3 : Below w.heap.size w w13 := (hB0_2).trans (hb13.mono (hB0_2).size)
    have hB0_4 : Below w.heap.size w w14 := (hB0_3).grown hg14 (hB0_3).size (fun k e => by cases e; exact Nat.le_trans (hB0_2).size (Nat.le_refl _))
    have hB0_5 : Below w.heap.size w w15 := (hB0_4).trans (hb15.mono (hB0_4).size)
    refine Eng.apD rfl rfl rfl rfl hr17 rfl (Eng.ds_lit hk15 (Eng.all32_one (gd_length _ _)) (Nat.le_of_ble_eq_true rfl)) (by simp only [dL_length, List.length_singleton]; omega) (hB0_5).size ?_
    intro v16 w16 ho16 hg16
    rw [← dL_succ] at ho16
    refine Eng.sv rfl rfl (Eng.x_as (v := v16) rfl rfl) ?_
    refine Eng.nil ?_
    refine Eng.nb ?_
    refine hK8 _ _ ?_
    refine Eng.reg ?_
    refine Eng.sv rfl rfl (Eng.x_add rfl rfl rfl (Eng.w64 (r := ((k : Int) + 1)) (by omega))) ?_
    refine Eng.sv rfl rfl (Eng.x_mv (v := (.int .i64 ((k : Int) + 1))) rfl rfl) ?_
    refine Eng.nil ?_
    have hB0_6 : Below w.heap.size w w16 := (hB0_5).grown hg16 (hB0_5).size (fun k e => Nat.le_trans (Nat.le_refl _) ((World.ownsRow.lt (hrL5_0).1) _ e).1)
    exact hK5 _ _ _ ⟨k + 1, v16, rfl, by omega, ⟨rfl, rfl, rfl, rfl, (Eng.ie (by first | omega | rfl)), trivial⟩, hB0_6, (hB0_6).size, ho16⟩ (by omega)
  · skip
    refine Eng.sv rfl rfl (Eng.x_lt (r := false) rfl rfl rfl (decide_eq_false (by omega))) ?_
    refine Eng.nil ?_
    refine hK6 _ _ ?_
    refine Eng.seqk fun K18 hK18 => ?_
    refine Eng.cond_f rfl ?_
    refine Eng.xt ?_
    refine Eng.te ?_
    refine Eng.te ?_
    refine Eng.be ?_
    refine hK3 _ _ ?_
    refine Eng.seqk fun K19 hK19 => ?_
    refine Eng.reg ?_
    refine Eng.sv rfl rfl (Eng.x_mv (v := vp) rfl rfl) ?_
    refine Eng.sv rfl rfl (Eng.x_as (v := vp) rfl rfl) ?_
    refine Eng.nil ?_
    refine hK19 _ _ ?_
    refine Eng.rt ?_
    refine Eng.ret (Eng.res1 (v1 := vp) rfl (Eng.rdt rfl)) ?_
    have hkn : k = b.length / 32 := by omega
    rw [hkn] at hrL5_0
    exact ⟨_, rfl, (hrL5_0).mono (Nat.le_refl _), hBL5⟩
set_option maxRecDepth 100000 in
set_option maxHeartbeats 4000000 in
theorem rdigs_calls (v : Value) (b : List UInt8) (w : World) (h : Bs w v b) : Calls Tryd.prog 106 #[v] w (fun e w' => ∃ v', e = .returned v' ∧ Eng.OwnD w.heap.size w' v' (dL b (b.length / 32)) ∧ Below w.heap.size w w') := by
  have hbl := h.2
  refine Eng.enter (l := [v]) Tryd.func106 rfl 27 rfl (by simp) ?_
  refine Eng.seqk fun K1 hK1 => ?_
  refine Eng.reg ?_
  refine Eng.sv rfl rfl (Eng.x_as (v := (.slice none 0 0)) rfl rfl) ?_
  refine Eng.nil ?_
  refine hK1 _ _ ?_
  refine Eng.seqk fun K2 hK2 => ?_
  refine Eng.reg ?_
  refine Eng.sv rfl rfl (Eng.x_as (v := (.slice none 0 0)) rfl rfl) ?_
  refine Eng.nil ?_
  refine hK2 _ _ ?_
  refine Eng.seqk fun K3 hK3 => ?_
  refine Eng.seqk fun K4 hK4 => ?_
  refine Eng.reg ?_
  refine Eng.sv rfl rfl (Eng.x_as (v := (.int .i64 0)) rfl rfl) ?_
  refine Eng.nil ?_
  refine hK4 _ _ ?_
  refine Eng.blk ?_
  refine Eng.loopN (fun zz u w' => ∃ (k : Nat), ∃ (vp : Value), zz = b.length / 32 - k ∧ k ≤ b.length / 32 ∧ Eng.Has u [(0, v), (2, (.slice none 0 0)), (3, vp), (4, (.int .i64 (32 * (k : Int))))] ∧ Below w.heap.size w w' ∧ w.heap.size ≤ w'.heap.size ∧ Eng.OwnD w.heap.size w' vp (dL b k)) _ ⟨0, (.slice none 0 0), rfl, by omega, ⟨rfl, rfl, rfl, (Eng.ie (by first | omega | rfl)), trivial⟩, (Below.refl _ _), (Nat.le_refl _), (Eng.OwnD.nil _ _)⟩ ?_
  rintro _ u5 w5 ⟨k, vp, rfl, hs5_0, hH5, hBL5, hzL5, hrL5_0⟩ K5 hK5
  obtain ⟨u5, rfl⟩ := hH5.ex
  refine Eng.seqk fun K6 hK6 => ?_
  refine Eng.seqk fun K7 hK7 => ?_
  refine Eng.reg ?_
  refine Eng.sv rfl rfl (Eng.x_mv (v := (.int .i64 (32 * (k : Int)))) rfl rfl) ?_
  refine Eng.sv rfl rfl (Eng.x_add rfl rfl rfl (Eng.w64 (r := ((32 * (k : Int)) + 32)) (by omega))) ?_
  refine Eng.sv rfl rfl (Eng.x_mv (v := v) rfl rfl) ?_
  have hr8 := (h).below hBL5
  refine Eng.sv rfl rfl (Eng.x_len (v := v) (r := (b.length : Int)) rfl Tryd.underlying22 rfl (hr8).1 rfl) ?_
  by_cases h12 : (((32 * (k : Int)) + 32) : Int) ≤ (b.length : Int)
  · skip
    refine Eng.sv rfl rfl (Eng.x_le (r := true) rfl rfl rfl (decide_eq_true (by omega))) ?_
    refine Eng.nil ?_
    refine hK7 _ _ ?_
    refine Eng.cond_t rfl ?_
    refine Eng.skp ?_
    refine hK6 _ _ ?_
    refine Eng.seqk fun K9 hK9 => ?_
    refine Eng.blk ?_
    refine Eng.seqk fun K10 hK10 => ?_
    refine Eng.reg ?_
    refine Eng.sv rfl rfl (Eng.x_mv (v := v) rfl rfl) ?_
    refine Eng.sv rfl rfl (Eng.x_mv (v := (.int .i64 (32 * (k : Int)))) rfl rfl) ?_
    refine Eng.sc rfl (Eng.xc (vl := [v, (.int .i64 (32 * (k : Int)))]) rfl rfl rfl en74_ts) ((rdig_calls v b (32 * (k : Int)) _ hr8 (by omega)).mono fun _ _ => GetD.out) ?_
    rintro _ w11 ⟨rfl, hb11⟩
    refine Eng.aft_v rfl ?_
    refine Eng.sv rfl rfl (Eng.x_mv (v := (.tuple #[(dg (gd b (32 * (k : Int)))), (.int .i64 (gn b (32 * (k : Int)) 32)), (.int .i64 (room b.length (32 * (k : Int)) 32))])) rfl rfl) ?_
    refine Eng.sv rfl rfl (Eng.x_ext (v := (dg (gd b (32 * (k : Int))))) rfl rfl rfl) ?_
    refine Eng.sv rfl rfl (Eng.x_ext (v := (.int .i64 (gn b (32 * (k : Int)) 32))) rfl rfl rfl) ?_
    refine Eng.sv rfl rfl (Eng.x_ext (v := (.int .i64 (room b.length (32 * (k : Int)) 32))) rfl rfl rfl) ?_
    refine Eng.al rfl rfl rfl zr23_ts (cs := (bcs Oct.dz)) rfl ?_
    intro w12 hk12 hb12 hz12
    refine Eng.stB (v := (dg (gd b (32 * (k : Int))))) rfl rfl rfl sz23_ts rfl hk12 rfl rfl (cs' := (bcs (gd b (32 * (k : Int))))) rfl ((bcs_length _).trans (gd_length _ _)) (bcs_one _) ?_
    intro w13 hk13 hg13
    refine Eng.sv rfl rfl (Eng.x_as (v := (.int .i64 (gn b (32 * (k : Int)) 32))) rfl rfl) ?_
    refine Eng.sv rfl rfl (Eng.x_as (v := (.int .i64 (room b.length (32 * (k : Int)) 32))) rfl rfl) ?_
    refine Eng.nil ?_
    refine hK10 _ _ ?_
    refine Eng.reg ?_
    refine Eng.sv rfl rfl (Eng.x_mv (v := vp) rfl rfl) ?_
    refine Eng.sv rfl rfl (Eng.x_ldB (v := (dg (gd b (32 * (k : Int))))) rfl ag23_ts sz23_ts rfl hk13 ((bcs_length _).trans (gd_length _ _)) rfl) ?_
    refine Eng.bs (vs := [(dg (gd b (32 * (k : Int))))]) (cs := (Dsl.dcs [(gd b (32 * (k : Int)))])) rfl rfl rfl Tryd.underlying29 in24_ts (dg_size dz_length) (by decide) rfl rfl (by decide) (by decide) (Eng.all_cons (p := fun v => v.cells.size = 32) (Eng.dg_cells (gd_length _ _)) Eng.all_nil) (by simp [Dsl.dcs, Value.cells]) ?_
    intro w14 hk14 hb14 hz14
    have hr16 := ((((hrL5_0).below hb11).below hb12).kept hg13 (.inr (fun e => absurd ((World.ownsRow.lt (hrL5_0).1) _ e).2 (Nat.not_lt_of_le (Nat.le_trans (hb11).size (Nat.le_refl _)))))).below hb14
    have hB0_2 : Below w.heap.size w w11 := (hBL5).trans (hb11.mono (hBL5).size)
    have hB0_3 : Below w.heap.size w w12 := (hB0_2).trans (hb12.mono (hB0_2).size)
    have hB0_4 : Below w.heap.size w w13 := (hB0_3).grown hg13 (hB0_3).size (fun k e => by cases e; exact Nat.le_trans (hB0_2).size (Nat.le_refl _))
    have hB0_5 : Below w.heap.size w w14 := (hB0_4).trans (hb14.mono (hB0_4).size)
    refine Eng.apD rfl rfl rfl rfl hr16 rfl (Eng.ds_lit hk14 (Eng.all32_one (gd_length _ _)) (Nat.le_of_ble_eq_true rfl)) (by simp only [dL_length, List.length_singleton]; omega) (hB0_5).size ?_
    intro v15 w15 ho15 hg15
    rw [← dL_succ] at ho15
    refine Eng.sv rfl rfl (Eng.x_as (v := v15) rfl rfl) ?_
    refine Eng.nil ?_
    refine Eng.nb ?_
    refine hK9 _ _ ?_
    refine Eng.reg ?_
    refine Eng.sv rfl rfl (Eng.x_mv (v := (.int .i64 (32 * (k : Int)))) rfl rfl) ?_
    refine Eng.sv rfl rfl (Eng.x_add rfl rfl rfl (Eng.w64 (r := ((32 * (k : Int)) + 32)) (by omega))) ?_
    refine Eng.sv rfl rfl (Eng.x_as (v := (.int .i64 ((32 * (k : Int)) + 32))) rfl rfl) ?_
    refine Eng.nil ?_
    have hB0_6 : Below w.heap.size w w15 := (hB0_5).grown hg15 (hB0_5).size (fun k e => Nat.le_trans (Nat.le_refl _) ((World.ownsRow.lt (hrL5_0).1) _ e).1)
    exact hK5 _ _ _ ⟨k + 1, v15, rfl, by omega, ⟨rfl, rfl, rfl, (Eng.ie (by first | omega | rfl)), trivial⟩, hB0_6, (hB0_6).size, ho15⟩ (by omega)
  · skip
    refine Eng.sv rfl rfl (Eng.x_le (r := false) rfl rfl rfl (decide_eq_false (by omega))) ?_
    refine Eng.nil ?_
    refine hK7 _ _ ?_
    refine Eng.cond_f rfl ?_
    refine Eng.xt ?_
    refine Eng.te ?_
    refine Eng.te ?_
    refine Eng.be ?_
    refine hK3 _ _ ?_
    refine Eng.seqk fun K17 hK17 => ?_
    refine Eng.reg ?_
    refine Eng.sv rfl rfl (Eng.x_mv (v := vp) rfl rfl) ?_
    refine Eng.sv rfl rfl (Eng.x_as (v := vp) rfl rfl) ?_
    refine Eng.nil ?_
    refine hK17 _ _ ?_
    refine Eng.rt ?_
    refine Eng.ret (Eng.res1 (v1 := vp) rfl (Eng.rdt rfl)) ?_
    have hkn : k = b.length / 32 := by omega
    rw [hkn] at hrL5_0
    exact ⟨_, rfl, (hrL5_0).mono (Nat.le_refl _), hBL5⟩
set_option maxRecDepth 100000 in
set_option maxHeartbeats 4000000 in
theorem rhalf4_calls (n : Nat) (h : 2 ≤ n) (h' : n ≤ 281474976710656) (w : World) : Calls Tryd.prog 156 #[(.int .i64 (n : Int))] w (fun e w' => e = .returned (.int .i64 (H n : Int)) ∧ Below w.heap.size w w') := by
  refine Eng.enter (l := [(.int .i64 (n : Int))]) Tryd.func156 rfl 12 rfl (by simp) ?_
  refine Eng.seqk fun K1 hK1 => ?_
  refine Eng.reg ?_
  refine Eng.sv rfl rfl (Eng.x_as (v := (.int .i64 0)) rfl rfl) ?_
  refine Eng.nil ?_
  refine hK1 _ _ ?_
  refine Eng.seqk fun K2 hK2 => ?_
  refine Eng.reg ?_
  refine Eng.sv rfl rfl (Eng.x_as (v := (.int .i64 1)) rfl rfl) ?_
  refine Eng.nil ?_
  refine hK2 _ _ ?_
  refine Eng.seqk fun K3 hK3 => ?_
  refine Eng.blk ?_
  refine Eng.loopN (fun zz u w' => ∃ (j : Nat), zz = n - 2 ^ j ∧ 2 ^ j < n ∧ Eng.Has u [(0, (.int .i64 (n : Int))), (2, (.int .i64 0)), (3, (.int .i64 ((2 ^ j : Nat) : Int)))] ∧ Below w.heap.size w w' ∧ w.heap.size ≤ w'.heap.size) _ ⟨0, rfl, (by show 2 ^ 0 < n; rw [Nat.pow_zero]; omega), ⟨rfl, rfl, (Eng.ie (by first | omega | rfl)), trivial⟩, (Below.refl _ _), (Nat.le_refl _)⟩ ?_
  rintro _ u4 w4 ⟨j, rfl, hs4_0, hH4, hBL4, hzL4⟩ K4 hK4
  obtain ⟨u4, rfl⟩ := hH4.ex
  have hs_ : 2 ^ j < n := hs4_0
  have hj0 := Nat.two_pow_pos j
  have hjs := Nat.pow_succ 2 j
  refine Eng.seqk fun K5 hK5 => ?_
  refine Eng.seqk fun K6 hK6 => ?_
  refine Eng.reg ?_
  refine Eng.sv rfl rfl (Eng.x_mv (v := (.int .i64 ((2 ^ j : Nat) : Int))) rfl rfl) ?_
  refine Eng.sv rfl rfl (Eng.x_mv (v := (.int .i64 (n : Int))) rfl rfl) ?_
  refine Eng.sv rfl rfl (Eng.x_mv (v := (.int .i64 ((2 ^ j : Nat) : Int))) rfl rfl) ?_
  refine Eng.sv rfl rfl (Eng.x_sub rfl rfl rfl (Eng.w64 (r := ((n : Int) - ((2 ^ j : Nat) : Int))) (by omega))) ?_
  by_cases h8 : (((2 ^ j : Nat) : Int) : Int) < ((n : Int) - ((2 ^ j : Nat) : Int))
  · skip
    refine Eng.sv rfl rfl (Eng.x_lt (r := true) rfl rfl rfl (decide_eq_true (by omega))) ?_
    refine Eng.nil ?_
    refine hK6 _ _ ?_
    refine Eng.cond_t rfl ?_
    refine Eng.skp ?_
    refine hK5 _ _ ?_
    refine Eng.blk ?_
    refine Eng.reg ?_
    refine Eng.sv rfl rfl (Eng.x_mv (v := (.int .i64 ((2 ^ j : Nat) : Int))) rfl rfl) ?_
    refine Eng.sv rfl rfl (Eng.x_mul rfl rfl rfl (Eng.w64 (r := ((2 ^ (j + 1) : Nat) : Int)) (by omega))) ?_
    refine Eng.sv rfl rfl (Eng.x_as (v := (.int .i64 ((2 ^ (j + 1) : Nat) : Int))) rfl rfl) ?_
    refine Eng.nil ?_
    refine Eng.nb ?_
    exact hK4 _ _ _ ⟨j + 1, rfl, (by rw [Nat.pow_succ]; omega), ⟨rfl, rfl, rfl, trivial⟩, hBL4, (hBL4).size⟩ (by omega)
  · skip
    refine Eng.sv rfl rfl (Eng.x_lt (r := false) rfl rfl rfl (decide_eq_false (by omega))) ?_
    refine Eng.nil ?_
    refine hK6 _ _ ?_
    refine Eng.cond_f rfl ?_
    refine Eng.xt ?_
    refine Eng.te ?_
    refine Eng.te ?_
    refine Eng.be ?_
    refine hK3 _ _ ?_
    refine Eng.seqk fun K7 hK7 => ?_
    refine Eng.reg ?_
    refine Eng.sv rfl rfl (Eng.x_mv (v := (.int .i64 ((2 ^ j : Nat) : Int))) rfl rfl) ?_
    refine Eng.sv rfl rfl (Eng.x_as (v := (.int .i64 ((2 ^ j : Nat) : Int))) rfl rfl) ?_
    refine Eng.nil ?_
    refine hK7 _ _ ?_
    refine Eng.rt ?_
    refine Eng.ret (Eng.res1 (v1 := (.int .i64 ((2 ^ j : Nat) : Int))) rfl (Eng.rdt rfl)) ?_
    exact ⟨by rw [H_uniq n j h h' hs_ (by omega)], hBL4⟩
set_option maxRecDepth 100000 in
set_option maxHeartbeats 4000000 in
theorem rempty_calls (w : World) : Calls Tryd.prog 151 #[] w (fun e w' => e = .returned (dg (sha [])) ∧ Below w.heap.size w w') := by
  refine Eng.enter (l := []) Tryd.func151 rfl 2 rfl (by simp) ?_
  refine Eng.seqk fun K1 hK1 => ?_
  refine Eng.reg ?_
  refine Eng.al rfl rfl rfl zr24_ts (cs := (bcs Oct.dz)) rfl ?_
  intro w2 hk2 hb2 hz2
  refine Eng.nil ?_
  refine hK1 _ _ ?_
  refine Eng.seqk fun K3 hK3 => ?_
  refine Eng.reg ?_
  refine Eng.sc rfl (Eng.xc (vl := [(.slice none 0 0)]) rfl rfl rfl en197_ts) (rsum_calls (.slice none 0 0) [] _ (Row.nil _) (by simp)) ?_
  rintro _ w4 ⟨rfl, hb4⟩
  refine Eng.aft_v rfl ?_
  have hk5 := (hk2).below hb4
  refine Eng.stB (v := (dg (sha []))) rfl rfl rfl sz24_ts rfl hk5 rfl rfl (cs' := (bcs (sha []))) rfl ((bcs_length _).trans (sha_len _)) (bcs_one _) ?_
  intro w6 hk6 hg6
  refine Eng.nil ?_
  refine hK3 _ _ ?_
  refine Eng.rt ?_
  refine Eng.ret (Eng.res1 (v1 := (dg (sha []))) rfl (Eng.rdc rfl (Eng.lvB ag24_ts sz24_ts hk6 ((bcs_length _).trans (sha_len _)) rfl))) ?_
  have hB0_2 : Below w.heap.size w w4 := (hb2).trans (hb4.mono (hb2).size)
  have hB0_3 : Below w.heap.size w w6 := (hB0_2).grown hg6 (hB0_2).size (fun k e => by cases e; exact Nat.le_trans (Nat.le_refl _) (Nat.le_refl _))
  exact ⟨rfl, hB0_3⟩
theorem ds_suf {w : World} {v : Value} {xs : List (List UInt8)} (h : Ds w v xs) {n : Nat} (hn : n ≤ xs.length) : Ds w (Eng.sCut v n xs.length 32) (xs.drop n) := by
  have := Eng.ds_cut h hn (Nat.le_refl _)
  rwa [List.take_of_length_le (by rw [List.length_drop]; exact Nat.le_refl _)] at this
def RootC (n : Nat) : Prop := ∀ (v : Value) (ds : List (List UInt8)) (w : World), Ds w v ds → ds.length = n → n ≤ 281474976710656 → Calls Tryd.prog 105 #[v] w fun e w' => e = .returned (dg (rootS ds)) ∧ Below w.heap.size w w'
theorem rootS_len (ds : List (List UInt8)) (h : All32 ds) (hl : ds.length ≤ 281474976710656) : (rootS ds).length = 32 := by
  unfold rootS
  split
  · exact sha_len _
  · exact R_len ds h (by omega)
theorem rootS_step (ds : List (List UInt8)) (h : 2 ≤ ds.length) (h' : ds.length ≤ 281474976710656) : rootS ds = nodeS (rootS (ds.take (H ds.length))) (rootS (ds.drop (H ds.length))) := by
  obtain ⟨q1, q2, q3⟩ := H_spec ds.length h h'
  unfold rootS
  rw [if_neg (by omega), if_neg (by rw [List.length_take]; omega), if_neg (by rw [List.length_drop]; omega), R_step ds h h']
set_option maxRecDepth 100000 in
set_option maxHeartbeats 4000000 in
theorem root4_step (n : Nat) (ih : ∀ m, m < n → RootC m) (v : Value) (ds : List (List UInt8)) (w : World) (h : Ds w v ds) (hn : ds.length = n) (hm : n ≤ 281474976710656) : Calls Tryd.prog 105 #[v] w (fun e w' => e = .returned (dg (rootS ds)) ∧ Below w.heap.size w w') := by
  have hsm := h.1.small
  refine Eng.enter (l := [v]) Tryd.func105 rfl 26 rfl (by simp) ?_
  refine Eng.seqk fun K1 hK1 => ?_
  refine Eng.reg ?_
  refine Eng.al rfl rfl rfl zr24_ts (cs := (bcs Oct.dz)) rfl ?_
  intro w2 hk2 hb2 hz2
  refine Eng.nil ?_
  refine hK1 _ _ ?_
  refine Eng.seqk fun K3 hK3 => ?_
  refine Eng.seqk fun K4 hK4 => ?_
  refine Eng.reg ?_
  refine Eng.sv rfl rfl (Eng.x_mv (v := v) rfl rfl) ?_
  have hr5 := (h).below hb2
  refine Eng.sv rfl rfl (Eng.x_len (v := v) (r := (ds.length : Int)) rfl Tryd.underlying29 rfl (hr5).1 rfl) ?_
  by_cases h6 : ((ds.length : Int) : Int) = 0
  · skip
    refine Eng.sv rfl rfl (Eng.x_eq (r := true) rfl rfl rfl (Eng.eq_t (by omega))) ?_
    refine Eng.nil ?_
    refine hK4 _ _ ?_
    refine Eng.cond_t rfl ?_
    refine Eng.seqk fun K6 hK6 => ?_
    refine Eng.reg ?_
    refine Eng.sc rfl (Eng.xc (vl := []) rfl rfl rfl en151_ts) (rempty_calls _) ?_
    rintro _ w7 ⟨rfl, hb7⟩
    refine Eng.aft_v rfl ?_
    have hk8 := (hk2).below hb7
    refine Eng.stB (v := (dg (sha []))) rfl rfl rfl sz24_ts rfl hk8 rfl rfl (cs' := (bcs (sha []))) rfl ((bcs_length _).trans (sha_len _)) (bcs_one _) ?_
    intro w9 hk9 hg9
    refine Eng.nil ?_
    refine hK6 _ _ ?_
    refine Eng.rt ?_
    refine Eng.tr ?_
    refine Eng.ret (Eng.res1 (v1 := (dg (sha []))) rfl (Eng.rdc rfl (Eng.lvB ag24_ts sz24_ts hk9 ((bcs_length _).trans (sha_len _)) rfl))) ?_
    have hB0_2 : Below w.heap.size w w7 := (hb2).trans (hb7.mono (hb2).size)
    have hB0_3 : Below w.heap.size w w9 := (hB0_2).grown hg9 (hB0_2).size (fun k e => by cases e; exact Nat.le_trans (Nat.le_refl _) (Nat.le_refl _))
    exact ⟨by unfold rootS; rw [if_pos (by omega)], hB0_3⟩
  · skip
    refine Eng.sv rfl rfl (Eng.x_eq (r := false) rfl rfl rfl (Eng.eq_f (by omega))) ?_
    refine Eng.nil ?_
    refine hK4 _ _ ?_
    refine Eng.cond_f rfl ?_
    refine Eng.skp ?_
    refine hK3 _ _ ?_
    refine Eng.seqk fun K10 hK10 => ?_
    refine Eng.seqk fun K11 hK11 => ?_
    refine Eng.reg ?_
    refine Eng.sv rfl rfl (Eng.x_mv (v := v) rfl rfl) ?_
    refine Eng.sv rfl rfl (Eng.x_len (v := v) (r := (ds.length : Int)) rfl Tryd.underlying29 rfl (hr5).1 rfl) ?_
    by_cases h10 : ((ds.length : Int) : Int) = 1
    · skip
      refine Eng.sv rfl rfl (Eng.x_eq (r := true) rfl rfl rfl (Eng.eq_t (by omega))) ?_
      refine Eng.nil ?_
      refine hK11 _ _ ?_
      refine Eng.cond_t rfl ?_
      refine Eng.seqk fun K12 hK12 => ?_
      refine Eng.reg ?_
      refine Eng.sv rfl rfl (Eng.x_mv (v := v) rfl rfl) ?_
      refine Eng.sv rfl rfl (Eng.x_ia (v := v) (j := 0) rfl Tryd.underlying29 sz24_ts (by decide) rfl rfl (hr5).1 (Dsl.dcs_len _ (hr5).2) (rfl) (by omega)) ?_
      refine Eng.sv rfl rfl (Eng.x_ldA (v := (dg ((ds).getD 0 []))) rfl ag24_ts sz24_ts rfl ((bcs_length _).trans (Eng.ds_len hr5 (by omega))) (Eng.ds_at hr5 (by omega)) rfl) ?_
      refine Eng.stB (v := (dg ((ds).getD 0 []))) rfl rfl rfl sz24_ts rfl hk2 rfl rfl (cs' := (bcs ((ds).getD 0 []))) rfl ((bcs_length _).trans (Eng.ds_len hr5 (by omega))) (bcs_one _) ?_
      intro w13 hk13 hg13
      refine Eng.nil ?_
      refine hK12 _ _ ?_
      refine Eng.rt ?_
      refine Eng.tr ?_
      refine Eng.ret (Eng.res1 (v1 := (dg ((ds).getD 0 []))) rfl (Eng.rdc rfl (Eng.lvB ag24_ts sz24_ts hk13 ((bcs_length _).trans (Eng.ds_len hr5 (by omega))) rfl))) ?_
      have hB0_2 : Below w.heap.size w w13 := (hb2).grown hg13 (hb2).size (fun k e => by cases e; exact Nat.le_trans (Nat.le_refl _) (Nat.le_refl _))
      exact ⟨by unfold rootS; rw [if_neg (by omega), R_one ds (by omega)], hB0_2⟩
    · skip
      obtain ⟨q1, q2, q3⟩ := H_spec ds.length (by omega) (by omega)
      refine Eng.sv rfl rfl (Eng.x_eq (r := false) rfl rfl rfl (Eng.eq_f (by omega))) ?_
      refine Eng.nil ?_
      refine hK11 _ _ ?_
      refine Eng.cond_f rfl ?_
      refine Eng.skp ?_
      refine hK10 _ _ ?_
      refine Eng.seqk fun K14 hK14 => ?_
      refine Eng.reg ?_
      refine Eng.sv rfl rfl (Eng.x_mv (v := v) rfl rfl) ?_
      refine Eng.sv rfl rfl (Eng.x_len (v := v) (r := (ds.length : Int)) rfl Tryd.underlying29 rfl (hr5).1 rfl) ?_
      refine Eng.sc rfl (Eng.xc (vl := [(.int .i64 (ds.length : Int))]) rfl rfl rfl en156_ts) (rhalf4_calls ds.length (by omega) (by omega) _) ?_
      rintro _ w15 ⟨rfl, hb15⟩
      refine Eng.aft_v rfl ?_
      refine Eng.sv rfl rfl (Eng.x_as (v := (.int .i64 (H ds.length : Int))) rfl rfl) ?_
      refine Eng.nil ?_
      refine hK14 _ _ ?_
      refine Eng.seqk fun K16 hK16 => ?_
      have hB0_2 : Below w.heap.size w w15 := (hb2).trans (hb15.mono (hb2).size)
      have hr18 := (h).below hB0_2
      have hq19 : Dsl.Ds w (Eng.sCut v 0 (H ds.length) 32) (ds.take (H ds.length)) := (ds_pre h (by omega))
      have hr20 := (hq19).below hB0_2
      have hq21 : Dsl.Ds w (Eng.sCut v (H ds.length) ds.length 32) (ds.drop (H ds.length)) := (ds_suf h (by omega))
      have hr22 := (hq21).below hB0_2
      refine Eng.draw 9 [fun (vQ : Value) (_ : World) => vQ = v, fun (vQ : Value) (_ : World) => vQ = (.int .i64 (H ds.length : Int)), fun (vQ : Value) (_ : World) => vQ = (Eng.sCut v 0 (H ds.length) 32), fun (vQ : Value) (_ : World) => vQ = (dg (rootS (ds.take (H ds.length)))), fun (vQ : Value) (_ : World) => vQ = v, fun (vQ : Value) (_ : World) => vQ = (.int .i64 (H ds.length : Int)), fun (vQ : Value) (_ : World) => vQ = (Eng.sCut v (H ds.length) ds.length 32), fun (vQ : Value) (_ : World) => vQ = (dg (rootS (ds.drop (H ds.length)))), fun (vQ : Value) (_ : World) => vQ = (dg (nodeS (rootS (ds.take (H ds.length))) (rootS (ds.drop (H ds.length)))))] (by kernel_rfl) (by kernel_rfl) (by kernel_rfl) (by kernel_rfl) rfl rfl ?_ ?_ ?_
      · exact ⟨fun _ _ _ h _ => h, fun _ _ _ h _ => h, fun _ _ _ h _ => h, fun _ _ _ h _ => h, fun _ _ _ h _ => h, fun _ _ _ h _ => h, fun _ _ _ h _ => h, fun _ _ _ h _ => h, fun _ _ _ h _ => h, trivial⟩
      · refine ⟨?_, ?_, ?_, ?_, ?_, ?_, ?_, ?_, ?_, trivial⟩
        · intro u' W hbW hkp hdp K hK
          refine Eng.dv rfl rfl ?_ (hK _ _ (Below.refl _ _) rfl)
          exact (Eng.x_mv (v := v) rfl (show Eng.opv 26 u' (.tmp 0) = v from hkp 0 rfl))
        · intro u' W hbW hkp hdp K hK
          refine Eng.dv rfl rfl ?_ (hK _ _ (Below.refl _ _) rfl)
          exact (Eng.x_mv (v := (.int .i64 (H ds.length : Int))) rfl (show Eng.opv 26 u' (.tmp 3) = (.int .i64 (H ds.length : Int)) from hkp 3 rfl))
        · intro u' W hbW hkp hdp K hK
          have e0 : (fun (vQ : Value) (_ : World) => vQ = v) (u' 17) W := hdp.1
          have e1 : (fun (vQ : Value) (_ : World) => vQ = (.int .i64 (H ds.length : Int))) (u' 18) W := hdp.2.1
          refine Eng.dv rfl rfl ?_ (hK _ _ (Below.refl _ _) rfl)
          exact (Eng.x_sl (v := v) rfl Tryd.underlying29 sz24_ts (show Eng.opv 26 u' (.tmp 17) = v from e0) (((hr18).below hbW)).1 0 (H ds.length) (.inl ⟨rfl, rfl⟩) (Eng.bd (k := .i64) (show Eng.opv 26 u' (.tmp 18) = (.int .i64 (H ds.length : Int)) from e1)) (by omega) (by omega))
        · intro u' W hbW hkp hdp K hK
          have e2 : (fun (vQ : Value) (_ : World) => vQ = (Eng.sCut v 0 (H ds.length) 32)) (u' 19) W := hdp.1
          refine Eng.dc (vs := #[(Eng.sCut v 0 (H ds.length) 32)]) rfl ?_ (ih _ (by simp only [List.length_take, List.length_drop]; omega) _ _ _ ((hr20).below hbW) rfl (by simp only [List.length_take, List.length_drop]; omega)) ?_
          · exact Eng.xc (xs := #[(Go.Operand.tmp 19)]) (vl := [(Eng.sCut v 0 (H ds.length) 32)]) rfl rfl (Eng.lc (show Eng.opv 26 u' (.tmp 19) = (Eng.sCut v 0 (H ds.length) 32) from e2) rfl) en105_ts
          rintro _ W2 ⟨rfl, hb2⟩
          exact Eng.aft_v rfl (hK _ _ hb2 rfl)
        · intro u' W hbW hkp hdp K hK
          refine Eng.dv rfl rfl ?_ (hK _ _ (Below.refl _ _) rfl)
          exact (Eng.x_mv (v := v) rfl (show Eng.opv 26 u' (.tmp 0) = v from hkp 0 rfl))
        · intro u' W hbW hkp hdp K hK
          refine Eng.dv rfl rfl ?_ (hK _ _ (Below.refl _ _) rfl)
          exact (Eng.x_mv (v := (.int .i64 (H ds.length : Int))) rfl (show Eng.opv 26 u' (.tmp 3) = (.int .i64 (H ds.length : Int)) from hkp 3 rfl))
        · intro u' W hbW hkp hdp K hK
          have e4 : (fun (vQ : Value) (_ : World) => vQ = v) (u' 21) W := hdp.1
          have e5 : (fun (vQ : Value) (_ : World) => vQ = (.int .i64 (H ds.length : Int))) (u' 22) W := hdp.2.1
          refine Eng.dv rfl rfl ?_ (hK _ _ (Below.refl _ _) rfl)
          exact (Eng.x_sl (v := v) rfl Tryd.underlying29 sz24_ts (show Eng.opv 26 u' (.tmp 21) = v from e4) (((hr18).below hbW)).1 (H ds.length) ds.length (Eng.bd (k := .i64) (show Eng.opv 26 u' (.tmp 22) = (.int .i64 (H ds.length : Int)) from e5)) (.inl ⟨rfl, rfl⟩) (by omega) (by omega))
        · intro u' W hbW hkp hdp K hK
          have e6 : (fun (vQ : Value) (_ : World) => vQ = (Eng.sCut v (H ds.length) ds.length 32)) (u' 23) W := hdp.1
          refine Eng.dc (vs := #[(Eng.sCut v (H ds.length) ds.length 32)]) rfl ?_ (ih _ (by simp only [List.length_take, List.length_drop]; omega) _ _ _ ((hr22).below hbW) rfl (by simp only [List.length_take, List.length_drop]; omega)) ?_
          · exact Eng.xc (xs := #[(Go.Operand.tmp 23)]) (vl := [(Eng.sCut v (H ds.length) ds.length 32)]) rfl rfl (Eng.lc (show Eng.opv 26 u' (.tmp 23) = (Eng.sCut v (H ds.length) ds.length 32) from e6) rfl) en105_ts
          rintro _ W2 ⟨rfl, hb2⟩
          exact Eng.aft_v rfl (hK _ _ hb2 rfl)
        · intro u' W hbW hkp hdp K hK
          have e3 : (fun (vQ : Value) (_ : World) => vQ = (dg (rootS (ds.take (H ds.length))))) (u' 20) W := hdp.1
          have e7 : (fun (vQ : Value) (_ : World) => vQ = (dg (rootS (ds.drop (H ds.length))))) (u' 24) W := hdp.2.1
          refine Eng.dc (vs := #[(dg (rootS (ds.take (H ds.length)))), (dg (rootS (ds.drop (H ds.length))))]) rfl ?_ (rnode_calls _ _ (rootS_len _ (fun d hd => h.2 d (List.mem_of_mem_take hd)) (by simp only [List.length_take, List.length_drop]; omega)) (rootS_len _ (fun d hd => h.2 d (List.mem_of_mem_drop hd)) (by simp only [List.length_take, List.length_drop]; omega)) _) ?_
          · exact Eng.xc (xs := #[(Go.Operand.tmp 20), (Go.Operand.tmp 24)]) (vl := [(dg (rootS (ds.take (H ds.length)))), (dg (rootS (ds.drop (H ds.length))))]) rfl rfl (Eng.lc (show Eng.opv 26 u' (.tmp 20) = (dg (rootS (ds.take (H ds.length)))) from e3) (Eng.lc (show Eng.opv 26 u' (.tmp 24) = (dg (rootS (ds.drop (H ds.length)))) from e7) rfl)) en157_ts
          rintro _ W2 ⟨rfl, hb2⟩
          exact Eng.aft_v rfl (hK _ _ hb2 rfl)
      · intro ud17 w17 hb17 hkp17 ⟨f17_0, f17_1, f17_2, f17_3, f17_4, f17_5, f17_6, f17_7, f17_8, _⟩
        obtain rfl := Eng.collect (l := [(17, v), (18, (.int .i64 (H ds.length : Int))), (19, (Eng.sCut v 0 (H ds.length) 32)), (20, (dg (rootS (ds.take (H ds.length))))), (21, v), (22, (.int .i64 (H ds.length : Int))), (23, (Eng.sCut v (H ds.length) ds.length 32)), (24, (dg (rootS (ds.drop (H ds.length))))), (25, (dg (nodeS (rootS (ds.take (H ds.length))) (rootS (ds.drop (H ds.length))))))]) hkp17 ⟨f17_0, f17_1, f17_2, f17_3, f17_4, f17_5, f17_6, f17_7, f17_8, trivial⟩ rfl
        have hk23 := ((hk2).below hb15).below hb17
        refine Eng.stB (v := (dg (nodeS (rootS (ds.take (H ds.length))) (rootS (ds.drop (H ds.length)))))) rfl rfl rfl sz24_ts rfl hk23 rfl rfl (cs' := (bcs (nodeS (rootS (ds.take (H ds.length))) (rootS (ds.drop (H ds.length)))))) rfl ((bcs_length _).trans (nodeS_len _ _)) (bcs_one _) ?_
        intro w24 hk24 hg24
        refine Eng.nil ?_
        refine hK16 _ _ ?_
        refine Eng.rt ?_
        refine Eng.ret (Eng.res1 (v1 := (dg (nodeS (rootS (ds.take (H ds.length))) (rootS (ds.drop (H ds.length)))))) rfl (Eng.rdc rfl (Eng.lvB ag24_ts sz24_ts hk24 ((bcs_length _).trans (nodeS_len _ _)) rfl))) ?_
        have hB0_3 : Below w.heap.size w w17 := (hB0_2).trans (hb17.mono (hB0_2).size)
        have hB0_4 : Below w.heap.size w w24 := (hB0_3).grown hg24 (hB0_3).size (fun k e => by cases e; exact Nat.le_trans (Nat.le_refl _) (Nat.le_refl _))
        exact ⟨by rw [rootS_step ds (by omega) (by omega)], hB0_4⟩
theorem root4_calls (n : Nat) : RootC n := by
  induction n using Nat.strongRecOn with
  | ind n ih => exact fun v ds w h hn hm => root4_step n ih v ds w h hn hm
end Go.Proofs.YtojenflknjhmkaaDoor.Tid
