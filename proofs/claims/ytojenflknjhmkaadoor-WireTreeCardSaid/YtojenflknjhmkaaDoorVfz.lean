/- verify.Roots, Consistency and the reference's. -/
import Derived.Test.YtojenflknjhmkaaDoorVfy
namespace Go.Proofs.YtojenflknjhmkaaDoor.Vfy
open Go Go.RowKit Go.Proofs.YtojenflknjhmkaaDoor Go.Proofs.YtojenflknjhmkaaDoor.Cop Go.Proofs.YtojenflknjhmkaaDoor.Ver Go.Proofs.YtojenflknjhmkaaDoor.Tre Go.Proofs.YtojenflknjhmkaaDoor.Oct Go.Proofs.YtojenflknjhmkaaDoor.Dsl Go.Proofs.YtojenflknjhmkaaDoor.Sha
set_option linter.unusedVariables false
set_option linter.unusedSimpArgs false
theorem zr24_vz (w : World) : (zeroValue 24).run Tryd.prog w = .ok (dg Oct.dz) w := by kernel_rfl
theorem en161_vz : Eng.Entr Tryd.prog 161 := ⟨_, Tryd.func161, by kernel_rfl, by kernel_rfl⟩
theorem ag24_vz (w : World) : (isAgg 24).run Tryd.prog w = .ok true w := by kernel_rfl
theorem sz24_vz : (Tryd.prog.info? 24).map (fun i => i.size) = some 32 := by kernel_rfl
theorem en162_vz : Eng.Entr Tryd.prog 162 := ⟨_, Tryd.func162, by kernel_rfl, by kernel_rfl⟩
theorem en163_vz : Eng.Entr Tryd.prog 163 := ⟨_, Tryd.func163, by kernel_rfl, by kernel_rfl⟩
theorem sz210_vz : (Tryd.prog.info? 210).map (fun i => i.size) = some 1 := by kernel_rfl
theorem ag210_vz (w : World) : (isAgg 210).run Tryd.prog w = .ok false w := by kernel_rfl
theorem en60_vz : Eng.Entr Tryd.prog 60 := ⟨_, Tryd.func60, by kernel_rfl, by kernel_rfl⟩
theorem en199_vz : Eng.Entr Tryd.prog 199 := ⟨_, Tryd.func199, by kernel_rfl, by kernel_rfl⟩
theorem en164_vz : Eng.Entr Tryd.prog 164 := ⟨_, Tryd.func164, by kernel_rfl, by kernel_rfl⟩
theorem en157_vz : Eng.Entr Tryd.prog 157 := ⟨_, Tryd.func157, by kernel_rfl, by kernel_rfl⟩
theorem en126_vz : Eng.Entr Tryd.prog 126 := ⟨_, Tryd.func126, by kernel_rfl, by kernel_rfl⟩
theorem en111_vz : Eng.Entr Tryd.prog 111 := ⟨_, Tryd.func111, by kernel_rfl, by kernel_rfl⟩
theorem sz5_vz : (Tryd.prog.info? 5).map (fun i => i.size) = some 1 := by kernel_rfl
theorem en112_vz : Eng.Entr Tryd.prog 112 := ⟨_, Tryd.func112, by kernel_rfl, by kernel_rfl⟩
theorem ord_is {m n : Int} {b : Bool} (h : ordB m n = b) (w : World) : Calls Tryd.prog 161 #[.int .i64 m, .int .i64 n] w fun e w' => e = .returned (.bool b) ∧ w = w' := h ▸ ordered_calls m n w
theorem stepsW {m n : Int} (h : ordB m n = true) {b : Bool} (hw : (stL m.toNat n.toNat).2 = b) (w : World) : Calls Tryd.prog 162 #[.int .i64 m, .int .i64 n] w fun e w' => ∃ v, e = .returned (.tuple #[v, .bool b]) ∧ OwnT w.heap.size w' v (stL m.toNat n.toNat).1 ∧ Below w.heap.size w w' := hw ▸ stepsI m n h w
theorem countW {m n : Int} {b : Bool} (hw : (stL m.toNat n.toNat).2 = b) {v : Value} {B : Nat} {w : World} (h : OwnT B w v (stL m.toNat n.toNat).1) : Calls Tryd.prog 163 #[v, .bool b] w fun e w' => e = .returned (.int .i64 (stN m n : Int)) ∧ w = w' := by
  have := count_calls v _ (stL m.toNat n.toNat).2 B w h (stL_len _ _)
  rw [hw] at this
  unfold stN
  rw [hw]; exact this
theorem ds_get {w : World} {v : Value} {xs : List (List UInt8)} (h : Ds w v xs) (h0 : 0 < xs.length) : (xs.getD 0 []).length = 32 := Eng.ds_len h h0
set_option maxRecDepth 100000 in
set_option maxHeartbeats 4000000 in
theorem roots_no (d : List UInt8) (hd : d.length = 32) (m n : Int) (v : Value) (xs : List (List UInt8)) (w : World) (h : Ds w v xs) (hK : Kon w) (hr : ordB m n = false) : Calls Tryd.prog 111 #[(dg d), (.int .i64 m), (.int .i64 n), v] w (fun e w' => e = .returned (.tuple #[dg (rootsD d m n xs).1, dg (rootsD d m n xs).2, .int .i64 (rootsE m n xs.length)]) ∧ Below w.heap.size w w') := by
  have hsm := h.1.small
  refine Eng.enter (l := [(dg d), (.int .i64 m), (.int .i64 n), v]) Tryd.func111 rfl 71 rfl (by simp) ?_
  refine Eng.seqk fun K1 hK1 => ?_
  refine Eng.reg ?_
  refine Eng.bo (v := (dg d)) (cs := (bcs d)) rfl rfl rfl rfl rfl ?_
  intro w2 hk2 hb2 hz2
  refine Eng.al rfl rfl rfl zr24_vz (cs := (bcs Oct.dz)) rfl ?_
  intro w3 hk3 hb3 hz3
  refine Eng.al rfl rfl rfl zr24_vz (cs := (bcs Oct.dz)) rfl ?_
  intro w4 hk4 hb4 hz4
  refine Eng.sv rfl rfl (Eng.x_as (v := (.int .i64 0)) rfl rfl) ?_
  refine Eng.nil ?_
  refine hK1 _ _ ?_
  refine Eng.seqk fun K5 hK5 => ?_
  refine Eng.seqk fun K6 hK6 => ?_
  refine Eng.reg ?_
  refine Eng.sv rfl rfl (Eng.x_mv (v := (.int .i64 m)) rfl rfl) ?_
  refine Eng.sv rfl rfl (Eng.x_mv (v := (.int .i64 n)) rfl rfl) ?_
  refine Eng.sc rfl (Eng.xc (vl := [(.int .i64 m), (.int .i64 n)]) rfl rfl rfl en161_vz) (ord_is hr _) ?_
  rintro _ _ ⟨rfl, rfl⟩
  refine Eng.aft_v rfl ?_
  refine Eng.sv rfl rfl (Eng.x_not (v := (.bool true)) rfl rfl rfl) ?_
  refine Eng.nil ?_
  refine hK6 _ _ ?_
  refine Eng.cond_t rfl ?_
  refine Eng.seqk fun K8 hK8 => ?_
  have hk9 := (hk3).below hb4
  refine Eng.drawS 3 [fun (vQ : Value) (_ : World) => vQ = (dg Oct.dz), fun (vQ : Value) (_ : World) => vQ = (dg Oct.dz), fun (_ : Value) (_ : World) => True] [⟨w2.heap.size, 24, (bcs Oct.dz), [(2, (bcs Oct.dz))]⟩] (by kernel_rfl) (by kernel_rfl) (by kernel_rfl) (by kernel_rfl) (by rfl) (by rfl) rfl rfl ?_ ⟨trivial, trivial⟩ ⟨hk9, trivial⟩ ?_ ?_ ?_
  · exact ⟨trivial, trivial, fun _ _ => trivial, trivial⟩
  · exact ⟨fun _ _ _ _ h _ _ => h, fun _ _ _ _ h _ _ => h, fun _ _ _ _ _ _ _ => trivial, trivial⟩
  · refine ⟨?_, ?_, ?_, trivial⟩
    · intro u' W hbW hkp hdp hEd K hK
      have hE0 : Blk W w2.heap.size 24 (bcs Oct.dz) := hEd.1
      have hK := Eng.sdv rfl hK
      refine Eng.dv rfl rfl ?_ (hK _ _ (Below.refl _ _) rfl)
      exact (Eng.x_ldB (v := (dg Oct.dz)) rfl ag24_vz sz24_vz (show Eng.opv 71 u' (.tmp 8) = (.pointer (some ⟨w2.heap.size, 0, none⟩)) from hkp 8 rfl) hE0 rfl rfl)
    · intro u' W hbW hkp hdp hEd K hK
      have hK := Eng.sdv rfl hK
      refine Eng.dv rfl rfl ?_ (hK _ _ (Below.refl _ _) rfl)
      exact (Eng.x_ldB (v := (dg Oct.dz)) rfl ag24_vz sz24_vz (show Eng.opv 71 u' (.tmp 9) = (.pointer (some ⟨w3.heap.size, 0, none⟩)) from hkp 9 rfl) (Eng.blk_grL (hk4) hbW (Eng.nin_cons (Nat.ne_of_gt (Nat.lt_of_lt_of_le hz3 (Nat.le_trans (Nat.le_refl _) (Nat.le_refl _)))) Eng.nin_nil)) rfl rfl)
    · intro u' W hbW hkp hdp hEd K hK
      have e0 : (fun (vQ : Value) (_ : World) => vQ = (dg Oct.dz)) (u' 19) W := hdp.1
      have hE0 : Blk W w2.heap.size 24 (bcs Oct.dz) := hEd.1
      exact Eng.sstB (v := (dg Oct.dz)) rfl rfl rfl sz24_vz rfl rfl (show Eng.opv 71 u' (.tmp 8) = (.pointer (some ⟨w2.heap.size, 0, none⟩)) from hkp 8 rfl) hE0 rfl (show Eng.opv 71 u' (.tmp 19) = (dg Oct.dz) from e0) rfl rfl (bcs_one _) hK
  · intro ud10 w10 hb10 hkp10 ⟨f10_0, f10_1, _, _⟩ hBF10
    have hkF10_0 : Blk w10 w2.heap.size 24 (bcs Oct.dz) := hBF10.1
    obtain rfl := Eng.collectS (l := [(19, (dg Oct.dz)), (20, (dg Oct.dz))]) hkp10 ⟨f10_0, f10_1, trivial⟩ rfl
    have hk11 := Eng.blk_grL (hk4) hb10 (Eng.nin_cons (Nat.ne_of_gt (Nat.lt_of_lt_of_le hz3 (Nat.le_trans (Nat.le_refl _) (Nat.le_refl _)))) Eng.nin_nil)
    refine Eng.stB (v := (dg Oct.dz)) rfl rfl rfl sz24_vz rfl hk11 rfl rfl (cs' := (bcs Oct.dz)) rfl rfl (bcs_one _) ?_
    intro w12 hk12 hg12
    refine Eng.sv rfl rfl (Eng.x_as (v := (.int .i64 40)) rfl rfl) ?_
    refine Eng.nil ?_
    refine hK8 _ _ ?_
    refine Eng.rt ?_
    refine Eng.tr ?_
    have hk13 := (hkF10_0).grown hg12 (fun e => absurd (Option.some.inj e) (Nat.ne_of_lt (Nat.lt_of_lt_of_le hz3 (Nat.le_trans (Nat.le_refl _) (Nat.le_refl _)))))
    refine Eng.ret (Eng.res3 (v1 := (dg Oct.dz)) (v2 := (dg Oct.dz)) (v3 := (.int .i64 40)) rfl (Eng.rdc rfl (Eng.lvB ag24_vz sz24_vz hk13 rfl rfl)) (Eng.rdc rfl (Eng.lvB ag24_vz sz24_vz hk12 rfl rfl)) (Eng.rdt rfl)) ?_
    have hB0_2 : Below w.heap.size w w3 := (hb2).trans (hb3.mono (hb2).size)
    have hB0_3 : Below w.heap.size w w4 := (hB0_2).trans (hb4.mono (hB0_2).size)
    have hB0_4 : Below w.heap.size w w10 := Eng.bel_grL (hB0_3) hb10 (hB0_3).size (Eng.le_cons (Nat.le_trans (hb2).size (Nat.le_refl _)) Eng.le_nil)
    have hB0_5 : Below w.heap.size w w12 := (hB0_4).grown hg12 (hB0_4).size (fun k e => by cases e; exact Nat.le_trans (hB0_2).size (Nat.le_refl _))
    exact ⟨by simp [rootsD, rootsE, hr], hB0_5⟩
set_option maxRecDepth 100000 in
set_option maxHeartbeats 4000000 in
theorem roots_t (d : List UInt8) (hd : d.length = 32) (m n : Int) (v : Value) (xs : List (List UInt8)) (w : World) (h : Ds w v xs) (hK : Kon w) (hr : ordB m n = true) (hw : (stL m.toNat n.toNat).2 = true) : Calls Tryd.prog 111 #[(dg d), (.int .i64 m), (.int .i64 n), v] w (fun e w' => e = .returned (.tuple #[dg (rootsD d m n xs).1, dg (rootsD d m n xs).2, .int .i64 (rootsE m n xs.length)]) ∧ Below w.heap.size w w') := by
  have hsm := h.1.small
  refine Eng.enter (l := [(dg d), (.int .i64 m), (.int .i64 n), v]) Tryd.func111 rfl 71 rfl (by simp) ?_
  refine Eng.seqk fun K1 hK1 => ?_
  refine Eng.reg ?_
  refine Eng.bo (v := (dg d)) (cs := (bcs d)) rfl rfl rfl rfl rfl ?_
  intro w2 hk2 hb2 hz2
  refine Eng.al rfl rfl rfl zr24_vz (cs := (bcs Oct.dz)) rfl ?_
  intro w3 hk3 hb3 hz3
  refine Eng.al rfl rfl rfl zr24_vz (cs := (bcs Oct.dz)) rfl ?_
  intro w4 hk4 hb4 hz4
  refine Eng.sv rfl rfl (Eng.x_as (v := (.int .i64 0)) rfl rfl) ?_
  refine Eng.nil ?_
  refine hK1 _ _ ?_
  refine Eng.seqk fun K5 hK5 => ?_
  refine Eng.seqk fun K6 hK6 => ?_
  refine Eng.reg ?_
  refine Eng.sv rfl rfl (Eng.x_mv (v := (.int .i64 m)) rfl rfl) ?_
  refine Eng.sv rfl rfl (Eng.x_mv (v := (.int .i64 n)) rfl rfl) ?_
  refine Eng.sc rfl (Eng.xc (vl := [(.int .i64 m), (.int .i64 n)]) rfl rfl rfl en161_vz) (ord_is hr _) ?_
  rintro _ _ ⟨rfl, rfl⟩
  refine Eng.aft_v rfl ?_
  refine Eng.sv rfl rfl (Eng.x_not (v := (.bool false)) rfl rfl rfl) ?_
  refine Eng.nil ?_
  refine hK6 _ _ ?_
  refine Eng.cond_f rfl ?_
  refine Eng.skp ?_
  refine hK5 _ _ ?_
  refine Eng.seqk fun K8 hK8 => ?_
  refine Eng.reg ?_
  refine Eng.sv rfl rfl (Eng.x_mv (v := (.int .i64 m)) rfl rfl) ?_
  refine Eng.sv rfl rfl (Eng.x_mv (v := (.int .i64 n)) rfl rfl) ?_
  refine Eng.sc rfl (Eng.xc (vl := [(.int .i64 m), (.int .i64 n)]) rfl rfl rfl en162_vz) (stepsW hr hw _) ?_
  rintro _ w9 ⟨vl9, rfl, ho9, hb9⟩
  refine Eng.aft_v rfl ?_
  refine Eng.sv rfl rfl (Eng.x_mv (v := (.tuple #[vl9, (.bool true)])) rfl rfl) ?_
  refine Eng.sv rfl rfl (Eng.x_ext (v := vl9) rfl rfl rfl) ?_
  refine Eng.sv rfl rfl (Eng.x_ext (v := (.bool true)) rfl rfl rfl) ?_
  refine Eng.sv rfl rfl (Eng.x_as (v := vl9) rfl rfl) ?_
  refine Eng.sv rfl rfl (Eng.x_as (v := (.bool true)) rfl rfl) ?_
  refine Eng.nil ?_
  refine hK8 _ _ ?_
  refine Eng.seqk fun K10 hK10 => ?_
  refine Eng.seqk fun K11 hK11 => ?_
  refine Eng.reg ?_
  refine Eng.sv rfl rfl (Eng.x_mv (v := vl9) rfl rfl) ?_
  refine Eng.sv rfl rfl (Eng.x_mv (v := (.bool true)) rfl rfl) ?_
  refine Eng.sc rfl (Eng.xc (vl := [vl9, (.bool true)]) rfl rfl rfl en163_vz) (countW hw ho9) ?_
  rintro _ _ ⟨rfl, rfl⟩
  refine Eng.aft_v rfl ?_
  refine Eng.sv rfl rfl (Eng.x_mv (v := v) rfl rfl) ?_
  have hB0_2 : Below w.heap.size w w3 := (hb2).trans (hb3.mono (hb2).size)
  have hB0_3 : Below w.heap.size w w4 := (hB0_2).trans (hb4.mono (hB0_2).size)
  have hB0_4 : Below w.heap.size w w9 := (hB0_3).trans (hb9.mono (hB0_3).size)
  have hr13 := (h).below hB0_4
  refine Eng.sv rfl rfl (Eng.x_len (v := v) (r := (xs.length : Int)) rfl Tryd.underlying29 rfl (hr13).1 rfl) ?_
  by_cases h32 : ((stN m n : Int) : Int) ≠ (xs.length : Int)
  · skip
    refine Eng.sv rfl rfl (Eng.x_ne (r := true) rfl rfl rfl (Eng.ne_t (by omega))) ?_
    refine Eng.nil ?_
    refine hK11 _ _ ?_
    refine Eng.cond_t rfl ?_
    refine Eng.seqk fun K14 hK14 => ?_
    have hk15 := ((hk3).below hb4).below hb9
    have hk17 := (hk4).below hb9
    refine Eng.drawS 3 [fun (vQ : Value) (_ : World) => vQ = (dg Oct.dz), fun (vQ : Value) (_ : World) => vQ = (dg Oct.dz), fun (_ : Value) (_ : World) => True] [⟨w2.heap.size, 24, (bcs Oct.dz), [(2, (bcs Oct.dz))]⟩] (by kernel_rfl) (by kernel_rfl) (by kernel_rfl) (by kernel_rfl) (by rfl) (by rfl) rfl rfl ?_ ⟨trivial, trivial⟩ ⟨hk15, trivial⟩ ?_ ?_ ?_
    · exact ⟨trivial, trivial, fun _ _ => trivial, trivial⟩
    · exact ⟨fun _ _ _ _ h _ _ => h, fun _ _ _ _ h _ _ => h, fun _ _ _ _ _ _ _ => trivial, trivial⟩
    · refine ⟨?_, ?_, ?_, trivial⟩
      · intro u' W hbW hkp hdp hEd K hK
        have hE0 : Blk W w2.heap.size 24 (bcs Oct.dz) := hEd.1
        have hK := Eng.sdv rfl hK
        refine Eng.dv rfl rfl ?_ (hK _ _ (Below.refl _ _) rfl)
        exact (Eng.x_ldB (v := (dg Oct.dz)) rfl ag24_vz sz24_vz (show Eng.opv 71 u' (.tmp 8) = (.pointer (some ⟨w2.heap.size, 0, none⟩)) from hkp 8 rfl) hE0 rfl rfl)
      · intro u' W hbW hkp hdp hEd K hK
        have hK := Eng.sdv rfl hK
        refine Eng.dv rfl rfl ?_ (hK _ _ (Below.refl _ _) rfl)
        exact (Eng.x_ldB (v := (dg Oct.dz)) rfl ag24_vz sz24_vz (show Eng.opv 71 u' (.tmp 9) = (.pointer (some ⟨w3.heap.size, 0, none⟩)) from hkp 9 rfl) (Eng.blk_grL (hk17) hbW (Eng.nin_cons (Nat.ne_of_gt (Nat.lt_of_lt_of_le hz3 (Nat.le_trans (Nat.le_refl _) (Nat.le_refl _)))) Eng.nin_nil)) rfl rfl)
      · intro u' W hbW hkp hdp hEd K hK
        have e0 : (fun (vQ : Value) (_ : World) => vQ = (dg Oct.dz)) (u' 33) W := hdp.1
        have hE0 : Blk W w2.heap.size 24 (bcs Oct.dz) := hEd.1
        exact Eng.sstB (v := (dg Oct.dz)) rfl rfl rfl sz24_vz rfl rfl (show Eng.opv 71 u' (.tmp 8) = (.pointer (some ⟨w2.heap.size, 0, none⟩)) from hkp 8 rfl) hE0 rfl (show Eng.opv 71 u' (.tmp 33) = (dg Oct.dz) from e0) rfl rfl (bcs_one _) hK
    · intro ud16 w16 hb16 hkp16 ⟨f16_0, f16_1, _, _⟩ hBF16
      have hkF16_0 : Blk w16 w2.heap.size 24 (bcs Oct.dz) := hBF16.1
      obtain rfl := Eng.collectS (l := [(33, (dg Oct.dz)), (34, (dg Oct.dz))]) hkp16 ⟨f16_0, f16_1, trivial⟩ rfl
      have hk18 := Eng.blk_grL (hk17) hb16 (Eng.nin_cons (Nat.ne_of_gt (Nat.lt_of_lt_of_le hz3 (Nat.le_trans (Nat.le_refl _) (Nat.le_refl _)))) Eng.nin_nil)
      refine Eng.stB (v := (dg Oct.dz)) rfl rfl rfl sz24_vz rfl hk18 rfl rfl (cs' := (bcs Oct.dz)) rfl rfl (bcs_one _) ?_
      intro w19 hk19 hg19
      refine Eng.sv rfl rfl (Eng.x_as (v := (.int .i64 70)) rfl rfl) ?_
      refine Eng.nil ?_
      refine hK14 _ _ ?_
      refine Eng.rt ?_
      refine Eng.tr ?_
      have hk20 := (hkF16_0).grown hg19 (fun e => absurd (Option.some.inj e) (Nat.ne_of_lt (Nat.lt_of_lt_of_le hz3 (Nat.le_trans (Nat.le_refl _) (Nat.le_refl _)))))
      refine Eng.ret (Eng.res3 (v1 := (dg Oct.dz)) (v2 := (dg Oct.dz)) (v3 := (.int .i64 70)) rfl (Eng.rdc rfl (Eng.lvB ag24_vz sz24_vz hk20 rfl rfl)) (Eng.rdc rfl (Eng.lvB ag24_vz sz24_vz hk19 rfl rfl)) (Eng.rdt rfl)) ?_
      have hB0_5 : Below w.heap.size w w16 := Eng.bel_grL (hB0_4) hb16 (hB0_4).size (Eng.le_cons (Nat.le_trans (hb2).size (Nat.le_refl _)) Eng.le_nil)
      have hB0_6 : Below w.heap.size w w19 := (hB0_5).grown hg19 (hB0_5).size (fun k e => by cases e; exact Nat.le_trans (hB0_2).size (Nat.le_refl _))
      have hne : stN m n ≠ xs.length := by omega
      exact ⟨by simp [rootsD, rootsE, hr, hne], hB0_6⟩
  · skip
    have hsn : stN m n = (stL m.toNat n.toNat).1.length + 0 := by unfold stN; rw [hw]; rfl
    have hLn : (stL m.toNat n.toNat).1.length = xs.length := by omega
    refine Eng.sv rfl rfl (Eng.x_ne (r := false) rfl rfl rfl (Eng.ne_f (by omega))) ?_
    refine Eng.nil ?_
    refine hK11 _ _ ?_
    refine Eng.cond_f rfl ?_
    refine Eng.skp ?_
    refine hK10 _ _ ?_
    refine Eng.seqk fun K21 hK21 => ?_
    refine Eng.reg ?_
    have hk22 := (((hk2).below hb3).below hb4).below hb9
    refine Eng.sv rfl rfl (Eng.x_ldB (v := (dg d)) rfl ag24_vz sz24_vz rfl hk22 ((bcs_length _).trans hd) rfl) ?_
    have hk23 := ((hk3).below hb4).below hb9
    refine Eng.stB (v := (dg d)) rfl rfl rfl sz24_vz rfl hk23 rfl rfl (cs' := (bcs d)) rfl ((bcs_length _).trans hd) (bcs_one _) ?_
    intro w24 hk24 hg24
    refine Eng.nil ?_
    refine hK21 _ _ ?_
    refine Eng.seqk fun K25 hK25 => ?_
    refine Eng.seqk fun K26 hK26 => ?_
    refine Eng.reg ?_
    refine Eng.sv rfl rfl (Eng.x_mv (v := (.bool true)) rfl rfl) ?_
    refine Eng.sv rfl rfl (Eng.x_not (v := (.bool false)) rfl rfl rfl) ?_
    refine Eng.nil ?_
    refine hK26 _ _ ?_
    refine Eng.cond_f rfl ?_
    refine Eng.skp ?_
    refine hK25 _ _ ?_
    refine Eng.seqk fun K27 hK27 => ?_
    refine Eng.reg ?_
    refine Eng.sv rfl rfl (Eng.x_ldB (v := (dg d)) rfl ag24_vz sz24_vz rfl hk24 ((bcs_length _).trans hd) rfl) ?_
    have hk28 := ((hk4).below hb9).grown hg24 (fun e => absurd (Option.some.inj e) (Nat.ne_of_gt (Nat.lt_of_lt_of_le hz3 (Nat.le_trans (Nat.le_refl _) (Nat.le_refl _)))))
    refine Eng.stB (v := (dg d)) rfl rfl rfl sz24_vz rfl hk28 rfl rfl (cs' := (bcs d)) rfl ((bcs_length _).trans hd) (bcs_one _) ?_
    intro w29 hk29 hg29
    refine Eng.nil ?_
    refine hK27 _ _ ?_
    refine Eng.seqk fun K30 hK30 => ?_
    refine Eng.seqk fun K31 hK31 => ?_
    refine Eng.reg ?_
    refine Eng.sv rfl rfl (Eng.x_mv (v := v) rfl rfl) ?_
    have hB0_5 : Below w.heap.size w w24 := (hB0_4).grown hg24 (hB0_4).size (fun k e => by cases e; exact Nat.le_trans (hb2).size (Nat.le_refl _))
    have hB0_6 : Below w.heap.size w w29 := (hB0_5).grown hg29 (hB0_5).size (fun k e => by cases e; exact Nat.le_trans (hB0_2).size (Nat.le_refl _))
    have hr32 := (h).below hB0_6
    refine Eng.sv rfl rfl (Eng.x_len (v := v) (r := (xs.length : Int)) rfl Tryd.underlying29 rfl (hr32).1 rfl) ?_
    refine Eng.sv rfl rfl (Eng.x_mv (v := (.int .i64 0)) rfl rfl) ?_
    refine Eng.nil ?_
    refine hK31 _ _ ?_
    refine Eng.blk ?_
    have hk34 := (hk24).grown hg29 (fun e => absurd (Option.some.inj e) (Nat.ne_of_lt (Nat.lt_of_lt_of_le hz3 (Nat.le_trans (Nat.le_refl _) (Nat.le_refl _)))))
    have hr35 := ((ho9).kept hg24 (.inr (fun e => absurd ((World.ownsRow.lt ho9) _ e).1 (Nat.not_le_of_lt (Nat.lt_of_lt_of_le hz3 (hb4).size))))).kept hg29 (.inr (fun e => absurd ((World.ownsRow.lt ho9) _ e).1 (Nat.not_le_of_lt (Nat.lt_of_lt_of_le hz4 (Nat.le_refl _)))))
    refine Eng.loopN (fun zz u w' => ∃ (k : Nat), zz = xs.length - k ∧ k ≤ xs.length ∧ Eng.Has u [(8, (.pointer (some ⟨w2.heap.size, 0, none⟩))), (9, (.pointer (some ⟨w3.heap.size, 0, none⟩))), (10, (.int .i64 0)), (11, vl9), (44, v), (45, (.int .i64 (xs.length : Int))), (46, (.int .i64 (k : Int)))] ∧ Below w.heap.size w w' ∧ w29.heap.size ≤ w'.heap.size ∧ Blk w' w2.heap.size 24 (bcs ((up2 d (stL m.toNat n.toNat).1 xs k).1)) ∧ Blk w' w3.heap.size 24 (bcs ((up2 d (stL m.toNat n.toNat).1 xs k).2)) ∧ OwnT w4.heap.size w' vl9 ((stL m.toNat n.toNat).1)) _ ⟨0, rfl, by omega, ⟨rfl, rfl, rfl, rfl, rfl, rfl, (Eng.ie (by first | omega | rfl)), trivial⟩, hB0_6, (Nat.le_refl _), hk34, hk29, hr35⟩ ?_
    rintro _ u33 w33 ⟨k, rfl, hs33_0, hH33, hBL33, hzL33, hkL33_0, hkL33_1, hrL33_0⟩ K33 hK33
    obtain ⟨u33, rfl⟩ := hH33.ex
    refine Eng.seqk fun K36 hK36 => ?_
    refine Eng.reg ?_
    by_cases h47 : ((k : Int) : Int) < (xs.length : Int)
    · skip
      refine Eng.sv rfl rfl (Eng.x_lt (r := true) rfl rfl rfl (decide_eq_true (by omega))) ?_
      refine Eng.nil ?_
      refine hK36 _ _ ?_
      refine Eng.seqk fun K37 hK37 => ?_
      refine Eng.cond_t rfl ?_
      refine Eng.skp ?_
      refine hK37 _ _ ?_
      refine Eng.seqk fun K38 hK38 => ?_
      refine Eng.blk ?_
      refine Eng.seqk fun K39 hK39 => ?_
      refine Eng.reg ?_
      refine Eng.sv rfl rfl (Eng.x_mv (v := (.int .i64 (k : Int))) rfl rfl) ?_
      have hr40 := (h).below hBL33
      refine Eng.sv rfl rfl (Eng.x_ia (v := v) (j := k) rfl Tryd.underlying29 sz24_vz (by decide) rfl rfl (hr40).1 (Dsl.dcs_len _ (hr40).2) (by omega) (by omega)) ?_
      refine Eng.sv rfl rfl (Eng.x_ldA (v := (dg ((xs).getD k []))) rfl ag24_vz sz24_vz rfl ((bcs_length _).trans (Eng.ds_len hr40 (by omega))) (Eng.ds_at hr40 (by omega)) rfl) ?_
      refine Eng.al rfl rfl rfl zr24_vz (cs := (bcs Oct.dz)) rfl ?_
      intro w41 hk41 hb41 hz41
      refine Eng.sv rfl rfl (Eng.x_as (v := (.int .i64 (k : Int))) rfl rfl) ?_
      refine Eng.stB (v := (dg ((xs).getD k []))) rfl rfl rfl sz24_vz rfl hk41 rfl rfl (cs' := (bcs ((xs).getD k []))) rfl ((bcs_length _).trans (Eng.ds_len hr40 (by omega))) (bcs_one _) ?_
      intro w42 hk42 hg42
      refine Eng.nil ?_
      refine hK39 _ _ ?_
      refine Eng.seqk fun K43 hK43 => ?_
      refine Eng.seqk fun K44 hK44 => ?_
      refine Eng.reg ?_
      refine Eng.sv rfl rfl (Eng.x_mv (v := vl9) rfl rfl) ?_
      refine Eng.sv rfl rfl (Eng.x_mv (v := vl9) rfl rfl) ?_
      have hr45 := ((hrL33_0).below hb41).kept hg42 (.inr (fun e => absurd ((World.ownsRow.lt ho9) _ e).2 (Nat.not_lt_of_le (Nat.le_trans (Nat.le_trans (Nat.le_trans (hg24).size (hg29).size) hzL33) (Nat.le_refl _)))))
      refine Eng.sv rfl rfl (Eng.x_len (v := vl9) (r := (((stL m.toNat n.toNat).1).length : Int)) rfl Tryd.underlying208 rfl (Row.of_own hr45) rfl) ?_
      refine Eng.sv rfl rfl (Eng.x_sub rfl rfl rfl (Eng.w64 (r := ((((stL m.toNat n.toNat).1).length : Int) - 1)) (by omega))) ?_
      refine Eng.sv rfl rfl (Eng.x_mv (v := (.int .i64 (k : Int))) rfl rfl) ?_
      refine Eng.sv rfl rfl (Eng.x_sub rfl rfl rfl (Eng.w64 (r := (((stL m.toNat n.toNat).1.length - 1 - k : Nat) : Int)) (by omega))) ?_
      refine Eng.sv rfl rfl (Eng.x_ia (v := vl9) (j := (stL m.toNat n.toNat).1.length - 1 - k) rfl Tryd.underlying208 sz210_vz (by decide) rfl rfl (Row.of_own hr45) (by rw [Nat.mul_one]; exact List.length_map _) (by omega) (by omega)) ?_
      refine Eng.sv rfl rfl (Eng.x_ld1 (v := (.bool (((stL m.toNat n.toNat).1).getD ((stL m.toNat n.toNat).1.length - 1 - k) false))) rfl ag210_vz rfl (Eng.row_get (Row.of_own hr45) (Eng.map_get Value.bool _ false (by omega)))) ?_
      refine Eng.nil ?_
      refine hK44 _ _ ?_
      refine Eng.cond_b rfl (fun hc46 => ?_) (fun hc46 => ?_)
      · skip
        refine Eng.seqk fun K47 hK47 => ?_
        refine Eng.reg ?_
        have hk48 := ((hkL33_1).below hb41).grown hg42 (fun e => absurd (Option.some.inj e) (Nat.ne_of_lt (Nat.lt_of_lt_of_le hz4 (Nat.le_trans (Nat.le_trans (Nat.le_trans (Nat.le_trans (hb9).size (hg24).size) (hg29).size) hzL33) (Nat.le_refl _)))))
        refine Eng.sv rfl rfl (Eng.x_ldB (v := (dg ((up2 d (stL m.toNat n.toNat).1 xs k).2))) rfl ag24_vz sz24_vz rfl hk48 ((bcs_length _).trans (up2_len2 _ _ _ _ hd)) rfl) ?_
        refine Eng.sv rfl rfl (Eng.x_ldB (v := (dg ((xs).getD k []))) rfl ag24_vz sz24_vz rfl hk42 ((bcs_length _).trans (Eng.ds_len hr40 (by omega))) rfl) ?_
        have hB0_8 : Below w.heap.size w w41 := (hBL33).trans (hb41.mono (hBL33).size)
        have hB0_9 : Below w.heap.size w w42 := (hB0_8).grown hg42 (hB0_8).size (fun k e => by cases e; exact Nat.le_trans (hBL33).size (Nat.le_refl _))
        have hr49 := (hK).below hB0_9
        refine Eng.sc rfl (Eng.xc (vl := [(dg ((up2 d (stL m.toNat n.toNat).1 xs k).2)), (dg ((xs).getD k []))]) rfl rfl rfl en60_vz) (node_eq (up2_t (l := (stL m.toNat n.toNat).1) (by omega) (by omega) hc46).2 (up2_len2 _ _ _ _ hd) (Eng.ds_len hr40 (by omega)) _ hr49) ?_
        rintro _ w50 ⟨rfl, hb50⟩
        refine Eng.aft_v rfl ?_
        have hk51 := (hk48).below hb50
        refine Eng.stB (v := (dg ((up2 d (stL m.toNat n.toNat).1 xs (k + 1)).2))) rfl rfl rfl sz24_vz rfl hk51 ((bcs_length _).trans (up2_len2 _ _ _ _ hd)) rfl (cs' := (bcs ((up2 d (stL m.toNat n.toNat).1 xs (k + 1)).2))) rfl ((bcs_length _).trans (up2_len2 _ _ _ _ hd)) (bcs_one _) ?_
        intro w52 hk52 hg52
        refine Eng.nil ?_
        refine hK47 _ _ ?_
        refine Eng.xt ?_
        refine Eng.te ?_
        refine Eng.be ?_
        refine hK38 _ _ ?_
        refine Eng.reg ?_
        refine Eng.sv rfl rfl (Eng.x_add rfl rfl rfl (Eng.w64 (r := ((k : Int) + 1)) (by omega))) ?_
        refine Eng.sv rfl rfl (Eng.x_mv (v := (.int .i64 ((k : Int) + 1))) rfl rfl) ?_
        refine Eng.nil ?_
        have hB2_4 : Below w3.heap.size w3 w9 := (hb4).trans (hb9.mono (hb4).size)
        have hk53 := ((((hkL33_0).below hb41).grown hg42 (fun e => absurd (Option.some.inj e) (Nat.ne_of_lt (Nat.lt_of_lt_of_le hz3 (Nat.le_trans (Nat.le_trans (Nat.le_trans (Nat.le_trans (hB2_4).size (hg24).size) (hg29).size) hzL33) (Nat.le_refl _)))))).below hb50).grown hg52 (fun e => absurd (Option.some.inj e) (Nat.ne_of_lt (Nat.lt_of_lt_of_le hz3 (Nat.le_trans (Nat.le_refl _) (Nat.le_refl _)))))
        have hu54 := hk53
        rw [(up2_t (l := (stL m.toNat n.toNat).1) (by omega) (by omega) hc46).1] at hu54
        have hr55 := ((hr45).below hb50).kept hg52 (.inr (fun e => absurd ((World.ownsRow.lt ho9) _ e).1 (Nat.not_le_of_lt (Nat.lt_of_lt_of_le hz4 (Nat.le_refl _)))))
        have hB0_10 : Below w.heap.size w w50 := (hB0_9).trans (hb50.mono (hB0_9).size)
        have hB0_11 : Below w.heap.size w w52 := (hB0_10).grown hg52 (hB0_10).size (fun k e => by cases e; exact Nat.le_trans (hB0_2).size (Nat.le_refl _))
        exact hK33 _ _ _ ⟨k + 1, rfl, by omega, ⟨rfl, rfl, rfl, rfl, rfl, rfl, (Eng.ie (by first | omega | rfl)), trivial⟩, hB0_11, (Nat.le_trans (Nat.le_trans (Nat.le_trans (Nat.le_trans hzL33 (hb41).size) (hg42).size) (hb50).size) (hg52).size), hu54, hk52, hr55⟩ (by omega)
      · skip
        refine Eng.skp ?_
        refine hK43 _ _ ?_
        have hB2_4 : Below w3.heap.size w3 w9 := (hb4).trans (hb9.mono (hb4).size)
        have hk57 := ((hkL33_0).below hb41).grown hg42 (fun e => absurd (Option.some.inj e) (Nat.ne_of_lt (Nat.lt_of_lt_of_le hz3 (Nat.le_trans (Nat.le_trans (Nat.le_trans (Nat.le_trans (hB2_4).size (hg24).size) (hg29).size) hzL33) (Nat.le_refl _)))))
        have hB0_8 : Below w.heap.size w w41 := (hBL33).trans (hb41.mono (hBL33).size)
        have hB0_9 : Below w.heap.size w w42 := (hB0_8).grown hg42 (hB0_8).size (fun k e => by cases e; exact Nat.le_trans (hBL33).size (Nat.le_refl _))
        have hr58 := (hK).below hB0_9
        have hk59 := ((hkL33_1).below hb41).grown hg42 (fun e => absurd (Option.some.inj e) (Nat.ne_of_lt (Nat.lt_of_lt_of_le hz4 (Nat.le_trans (Nat.le_trans (Nat.le_trans (Nat.le_trans (hb9).size (hg24).size) (hg29).size) hzL33) (Nat.le_refl _)))))
        refine Eng.draw 6 [fun (vQ : Value) (_ : World) => vQ = (dg ((xs).getD k [])), fun (vQ : Value) (_ : World) => vQ = (dg ((up2 d (stL m.toNat n.toNat).1 xs k).1)), fun (vQ : Value) (_ : World) => vQ = (dg ((up2 d (stL m.toNat n.toNat).1 xs (k + 1)).1)), fun (vQ : Value) (_ : World) => vQ = (dg ((xs).getD k [])), fun (vQ : Value) (_ : World) => vQ = (dg ((up2 d (stL m.toNat n.toNat).1 xs k).2)), fun (vQ : Value) (_ : World) => vQ = (dg ((up2 d (stL m.toNat n.toNat).1 xs (k + 1)).2))] (by kernel_rfl) (by kernel_rfl) (by kernel_rfl) (by kernel_rfl) rfl rfl ?_ ?_ ?_
        · exact ⟨fun _ _ _ h _ => h, fun _ _ _ h _ => h, fun _ _ _ h _ => h, fun _ _ _ h _ => h, fun _ _ _ h _ => h, fun _ _ _ h _ => h, trivial⟩
        · refine ⟨?_, ?_, ?_, ?_, ?_, ?_, trivial⟩
          · intro u' W hbW hkp hdp K hK
            refine Eng.dv rfl rfl ?_ (hK _ _ (Below.refl _ _) rfl)
            exact (Eng.x_ldB (v := (dg ((xs).getD k []))) rfl ag24_vz sz24_vz (show Eng.opv 71 u' (.tmp 14) = (.pointer (some ⟨w33.heap.size, 0, none⟩)) from hkp 14 rfl) ((hk42).below hbW) ((bcs_length _).trans (Eng.ds_len hr40 (by omega))) rfl)
          · intro u' W hbW hkp hdp K hK
            refine Eng.dv rfl rfl ?_ (hK _ _ (Below.refl _ _) rfl)
            exact (Eng.x_ldB (v := (dg ((up2 d (stL m.toNat n.toNat).1 xs k).1))) rfl ag24_vz sz24_vz (show Eng.opv 71 u' (.tmp 8) = (.pointer (some ⟨w2.heap.size, 0, none⟩)) from hkp 8 rfl) ((hk57).below hbW) ((bcs_length _).trans (up2_len1 _ _ _ _ hd)) rfl)
          · intro u' W hbW hkp hdp K hK
            have e0 : (fun (vQ : Value) (_ : World) => vQ = (dg ((xs).getD k []))) (u' 62) W := hdp.1
            have e1 : (fun (vQ : Value) (_ : World) => vQ = (dg ((up2 d (stL m.toNat n.toNat).1 xs k).1))) (u' 63) W := hdp.2.1
            refine Eng.dc (vs := #[(dg ((xs).getD k [])), (dg ((up2 d (stL m.toNat n.toNat).1 xs k).1))]) rfl ?_ (node_eq (up2_f (l := (stL m.toNat n.toNat).1) (by omega) (by omega) hc46).1 (Eng.ds_len hr40 (by omega)) (up2_len1 _ _ _ _ hd) _ ((hr58).below hbW)) ?_
            · exact Eng.xc (xs := #[(Go.Operand.tmp 62), (Go.Operand.tmp 63)]) (vl := [(dg ((xs).getD k [])), (dg ((up2 d (stL m.toNat n.toNat).1 xs k).1))]) rfl rfl (Eng.lc (show Eng.opv 71 u' (.tmp 62) = (dg ((xs).getD k [])) from e0) (Eng.lc (show Eng.opv 71 u' (.tmp 63) = (dg ((up2 d (stL m.toNat n.toNat).1 xs k).1)) from e1) rfl)) en60_vz
            rintro _ W2 ⟨rfl, hb2⟩
            exact Eng.aft_v rfl (hK _ _ hb2 rfl)
          · intro u' W hbW hkp hdp K hK
            refine Eng.dv rfl rfl ?_ (hK _ _ (Below.refl _ _) rfl)
            exact (Eng.x_ldB (v := (dg ((xs).getD k []))) rfl ag24_vz sz24_vz (show Eng.opv 71 u' (.tmp 14) = (.pointer (some ⟨w33.heap.size, 0, none⟩)) from hkp 14 rfl) ((hk42).below hbW) ((bcs_length _).trans (Eng.ds_len hr40 (by omega))) rfl)
          · intro u' W hbW hkp hdp K hK
            refine Eng.dv rfl rfl ?_ (hK _ _ (Below.refl _ _) rfl)
            exact (Eng.x_ldB (v := (dg ((up2 d (stL m.toNat n.toNat).1 xs k).2))) rfl ag24_vz sz24_vz (show Eng.opv 71 u' (.tmp 9) = (.pointer (some ⟨w3.heap.size, 0, none⟩)) from hkp 9 rfl) ((hk59).below hbW) ((bcs_length _).trans (up2_len2 _ _ _ _ hd)) rfl)
          · intro u' W hbW hkp hdp K hK
            have e3 : (fun (vQ : Value) (_ : World) => vQ = (dg ((xs).getD k []))) (u' 65) W := hdp.1
            have e4 : (fun (vQ : Value) (_ : World) => vQ = (dg ((up2 d (stL m.toNat n.toNat).1 xs k).2))) (u' 66) W := hdp.2.1
            refine Eng.dc (vs := #[(dg ((xs).getD k [])), (dg ((up2 d (stL m.toNat n.toNat).1 xs k).2))]) rfl ?_ (node_eq (up2_f (l := (stL m.toNat n.toNat).1) (by omega) (by omega) hc46).2 (Eng.ds_len hr40 (by omega)) (up2_len2 _ _ _ _ hd) _ ((hr58).below hbW)) ?_
            · exact Eng.xc (xs := #[(Go.Operand.tmp 65), (Go.Operand.tmp 66)]) (vl := [(dg ((xs).getD k [])), (dg ((up2 d (stL m.toNat n.toNat).1 xs k).2))]) rfl rfl (Eng.lc (show Eng.opv 71 u' (.tmp 65) = (dg ((xs).getD k [])) from e3) (Eng.lc (show Eng.opv 71 u' (.tmp 66) = (dg ((up2 d (stL m.toNat n.toNat).1 xs k).2)) from e4) rfl)) en60_vz
            rintro _ W2 ⟨rfl, hb2⟩
            exact Eng.aft_v rfl (hK _ _ hb2 rfl)
        · intro ud56 w56 hb56 hkp56 ⟨f56_0, f56_1, f56_2, f56_3, f56_4, f56_5, _⟩
          obtain rfl := Eng.collect (l := [(62, (dg ((xs).getD k []))), (63, (dg ((up2 d (stL m.toNat n.toNat).1 xs k).1))), (64, (dg ((up2 d (stL m.toNat n.toNat).1 xs (k + 1)).1))), (65, (dg ((xs).getD k []))), (66, (dg ((up2 d (stL m.toNat n.toNat).1 xs k).2))), (67, (dg ((up2 d (stL m.toNat n.toNat).1 xs (k + 1)).2)))]) hkp56 ⟨f56_0, f56_1, f56_2, f56_3, f56_4, f56_5, trivial⟩ rfl
          have hk60 := (hk57).below hb56
          refine Eng.stB (v := (dg ((up2 d (stL m.toNat n.toNat).1 xs (k + 1)).1))) rfl rfl rfl sz24_vz rfl hk60 ((bcs_length _).trans (up2_len1 _ _ _ _ hd)) rfl (cs' := (bcs ((up2 d (stL m.toNat n.toNat).1 xs (k + 1)).1))) rfl ((bcs_length _).trans (up2_len1 _ _ _ _ hd)) (bcs_one _) ?_
          intro w61 hk61 hg61
          have hk62 := ((hk59).below hb56).grown hg61 (fun e => absurd (Option.some.inj e) (Nat.ne_of_gt (Nat.lt_of_lt_of_le hz3 (Nat.le_trans (Nat.le_refl _) (Nat.le_refl _)))))
          refine Eng.stB (v := (dg ((up2 d (stL m.toNat n.toNat).1 xs (k + 1)).2))) rfl rfl rfl sz24_vz rfl hk62 ((bcs_length _).trans (up2_len2 _ _ _ _ hd)) rfl (cs' := (bcs ((up2 d (stL m.toNat n.toNat).1 xs (k + 1)).2))) rfl ((bcs_length _).trans (up2_len2 _ _ _ _ hd)) (bcs_one _) ?_
          intro w63 hk63 hg63
          refine Eng.nil ?_
          refine Eng.nb ?_
          refine hK38 _ _ ?_
          refine Eng.reg ?_
          refine Eng.sv rfl rfl (Eng.x_add rfl rfl rfl (Eng.w64 (r := ((k : Int) + 1)) (by omega))) ?_
          refine Eng.sv rfl rfl (Eng.x_mv (v := (.int .i64 ((k : Int) + 1))) rfl rfl) ?_
          refine Eng.nil ?_
          have hr64 := (((hr45).below hb56).kept hg61 (.inr (fun e => absurd ((World.ownsRow.lt ho9) _ e).1 (Nat.not_le_of_lt (Nat.lt_of_lt_of_le hz3 (hb4).size))))).kept hg63 (.inr (fun e => absurd ((World.ownsRow.lt ho9) _ e).1 (Nat.not_le_of_lt (Nat.lt_of_lt_of_le hz4 (Nat.le_refl _)))))
          have hB0_10 : Below w.heap.size w w56 := (hB0_9).trans (hb56.mono (hB0_9).size)
          have hB0_11 : Below w.heap.size w w61 := (hB0_10).grown hg61 (hB0_10).size (fun k e => by cases e; exact Nat.le_trans (hb2).size (Nat.le_refl _))
          have hB0_12 : Below w.heap.size w w63 := (hB0_11).grown hg63 (hB0_11).size (fun k e => by cases e; exact Nat.le_trans (hB0_2).size (Nat.le_refl _))
          have hk65 := (hk61).grown hg63 (fun e => absurd (Option.some.inj e) (Nat.ne_of_lt (Nat.lt_of_lt_of_le hz3 (Nat.le_trans (Nat.le_refl _) (Nat.le_refl _)))))
          exact hK33 _ _ _ ⟨k + 1, rfl, by omega, ⟨rfl, rfl, rfl, rfl, rfl, rfl, (Eng.ie (by first | omega | rfl)), trivial⟩, hB0_12, (Nat.le_trans (Nat.le_trans (Nat.le_trans (Nat.le_trans (Nat.le_trans hzL33 (hb41).size) (hg42).size) (hb56).size) (hg61).size) (hg63).size), hk65, hk63, hr64⟩ (by omega)
    · skip
      refine Eng.sv rfl rfl (Eng.x_lt (r := false) rfl rfl rfl (decide_eq_false (by omega))) ?_
      refine Eng.nil ?_
      refine hK36 _ _ ?_
      refine Eng.seqk fun K66 hK66 => ?_
      refine Eng.cond_f rfl ?_
      refine Eng.xt ?_
      refine Eng.te ?_
      refine Eng.te ?_
      refine Eng.be ?_
      refine hK30 _ _ ?_
      refine Eng.seqk fun K67 hK67 => ?_
      refine Eng.drawS 3 [fun (vQ : Value) (_ : World) => vQ = (dg ((up2 d (stL m.toNat n.toNat).1 xs k).1)), fun (vQ : Value) (_ : World) => vQ = (dg ((up2 d (stL m.toNat n.toNat).1 xs k).2)), fun (_ : Value) (_ : World) => True] [⟨w2.heap.size, 24, (bcs ((up2 d (stL m.toNat n.toNat).1 xs k).1)), [(2, (bcs ((up2 d (stL m.toNat n.toNat).1 xs k).1)))]⟩] (by kernel_rfl) (by kernel_rfl) (by kernel_rfl) (by kernel_rfl) (by rfl) (by rfl) rfl rfl ?_ ⟨trivial, trivial⟩ ⟨hkL33_0, trivial⟩ ?_ ?_ ?_
      · exact ⟨trivial, trivial, fun _ _ => trivial, trivial⟩
      · exact ⟨fun _ _ _ _ h _ _ => h, fun _ _ _ _ h _ _ => h, fun _ _ _ _ _ _ _ => trivial, trivial⟩
      · refine ⟨?_, ?_, ?_, trivial⟩
        · intro u' W hbW hkp hdp hEd K hK
          have hE0 : Blk W w2.heap.size 24 (bcs ((up2 d (stL m.toNat n.toNat).1 xs k).1)) := hEd.1
          have hK := Eng.sdv rfl hK
          refine Eng.dv rfl rfl ?_ (hK _ _ (Below.refl _ _) rfl)
          exact (Eng.x_ldB (v := (dg ((up2 d (stL m.toNat n.toNat).1 xs k).1))) rfl ag24_vz sz24_vz (show Eng.opv 71 u' (.tmp 8) = (.pointer (some ⟨w2.heap.size, 0, none⟩)) from hkp 8 rfl) hE0 ((bcs_length _).trans (up2_len1 _ _ _ _ hd)) rfl)
        · intro u' W hbW hkp hdp hEd K hK
          have hK := Eng.sdv rfl hK
          refine Eng.dv rfl rfl ?_ (hK _ _ (Below.refl _ _) rfl)
          exact (Eng.x_ldB (v := (dg ((up2 d (stL m.toNat n.toNat).1 xs k).2))) rfl ag24_vz sz24_vz (show Eng.opv 71 u' (.tmp 9) = (.pointer (some ⟨w3.heap.size, 0, none⟩)) from hkp 9 rfl) (Eng.blk_grL (hkL33_1) hbW (Eng.nin_cons (Nat.ne_of_gt (Nat.lt_of_lt_of_le hz3 (Nat.le_trans (Nat.le_refl _) (Nat.le_refl _)))) Eng.nin_nil)) ((bcs_length _).trans (up2_len2 _ _ _ _ hd)) rfl)
        · intro u' W hbW hkp hdp hEd K hK
          have e0 : (fun (vQ : Value) (_ : World) => vQ = (dg ((up2 d (stL m.toNat n.toNat).1 xs k).1))) (u' 69) W := hdp.1
          have hE0 : Blk W w2.heap.size 24 (bcs ((up2 d (stL m.toNat n.toNat).1 xs k).1)) := hEd.1
          exact Eng.sstB (v := (dg ((up2 d (stL m.toNat n.toNat).1 xs k).1))) rfl rfl rfl sz24_vz rfl rfl (show Eng.opv 71 u' (.tmp 8) = (.pointer (some ⟨w2.heap.size, 0, none⟩)) from hkp 8 rfl) hE0 ((bcs_length _).trans (up2_len1 _ _ _ _ hd)) (show Eng.opv 71 u' (.tmp 69) = (dg ((up2 d (stL m.toNat n.toNat).1 xs k).1)) from e0) rfl ((bcs_length _).trans (up2_len1 _ _ _ _ hd)) (bcs_one _) hK
      · intro ud68 w68 hb68 hkp68 ⟨f68_0, f68_1, _, _⟩ hBF68
        have hkF68_0 : Blk w68 w2.heap.size 24 (bcs ((up2 d (stL m.toNat n.toNat).1 xs k).1)) := hBF68.1
        obtain rfl := Eng.collectS (l := [(69, (dg ((up2 d (stL m.toNat n.toNat).1 xs k).1))), (70, (dg ((up2 d (stL m.toNat n.toNat).1 xs k).2)))]) hkp68 ⟨f68_0, f68_1, trivial⟩ rfl
        have hk69 := Eng.blk_grL (hkL33_1) hb68 (Eng.nin_cons (Nat.ne_of_gt (Nat.lt_of_lt_of_le hz3 (Nat.le_trans (Nat.le_refl _) (Nat.le_refl _)))) Eng.nin_nil)
        refine Eng.stB (v := (dg ((up2 d (stL m.toNat n.toNat).1 xs k).2))) rfl rfl rfl sz24_vz rfl hk69 ((bcs_length _).trans (up2_len2 _ _ _ _ hd)) rfl (cs' := (bcs ((up2 d (stL m.toNat n.toNat).1 xs k).2))) rfl ((bcs_length _).trans (up2_len2 _ _ _ _ hd)) (bcs_one _) ?_
        intro w70 hk70 hg70
        refine Eng.sv rfl rfl (Eng.x_as (v := (.int .i64 0)) rfl rfl) ?_
        refine Eng.nil ?_
        refine hK67 _ _ ?_
        refine Eng.rt ?_
        have hk71 := (hkF68_0).grown hg70 (fun e => absurd (Option.some.inj e) (Nat.ne_of_lt (Nat.lt_of_lt_of_le hz3 (Nat.le_trans (Nat.le_refl _) (Nat.le_refl _)))))
        refine Eng.ret (Eng.res3 (v1 := (dg ((up2 d (stL m.toNat n.toNat).1 xs k).1))) (v2 := (dg ((up2 d (stL m.toNat n.toNat).1 xs k).2))) (v3 := (.int .i64 0)) rfl (Eng.rdc rfl (Eng.lvB ag24_vz sz24_vz hk71 ((bcs_length _).trans (up2_len1 _ _ _ _ hd)) rfl)) (Eng.rdc rfl (Eng.lvB ag24_vz sz24_vz hk70 ((bcs_length _).trans (up2_len2 _ _ _ _ hd)) rfl)) (Eng.rdt rfl)) ?_
        have hB0_8 : Below w.heap.size w w68 := Eng.bel_grL (hBL33) hb68 (hBL33).size (Eng.le_cons (Nat.le_trans (hb2).size (Nat.le_refl _)) Eng.le_nil)
        have hB0_9 : Below w.heap.size w w70 := (hB0_8).grown hg70 (hB0_8).size (fun k e => by cases e; exact Nat.le_trans (hB0_2).size (Nat.le_refl _))
        have hE : rootsE m n xs.length = 0 := by simp [rootsE, hr, show stN m n = xs.length by omega]
        have hkl : k = xs.length := by omega
        have hup : up2 d (stL m.toNat n.toNat).1 xs k = rootsD d m n xs := by unfold rootsD two; rw [if_pos hE, hw, hkl, ← hLn]; exact up2_all _ _ _ hLn
        exact ⟨by rw [hE, hup], hB0_9⟩
set_option maxRecDepth 100000 in
set_option maxHeartbeats 4000000 in
theorem roots_f (d : List UInt8) (hd : d.length = 32) (m n : Int) (v : Value) (xs : List (List UInt8)) (w : World) (h : Ds w v xs) (hK : Kon w) (hr : ordB m n = true) (hw : (stL m.toNat n.toNat).2 = false) : Calls Tryd.prog 111 #[(dg d), (.int .i64 m), (.int .i64 n), v] w (fun e w' => e = .returned (.tuple #[dg (rootsD d m n xs).1, dg (rootsD d m n xs).2, .int .i64 (rootsE m n xs.length)]) ∧ Below w.heap.size w w') := by
  have hsm := h.1.small
  refine Eng.enter (l := [(dg d), (.int .i64 m), (.int .i64 n), v]) Tryd.func111 rfl 71 rfl (by simp) ?_
  refine Eng.seqk fun K1 hK1 => ?_
  refine Eng.reg ?_
  refine Eng.bo (v := (dg d)) (cs := (bcs d)) rfl rfl rfl rfl rfl ?_
  intro w2 hk2 hb2 hz2
  refine Eng.al rfl rfl rfl zr24_vz (cs := (bcs Oct.dz)) rfl ?_
  intro w3 hk3 hb3 hz3
  refine Eng.al rfl rfl rfl zr24_vz (cs := (bcs Oct.dz)) rfl ?_
  intro w4 hk4 hb4 hz4
  refine Eng.sv rfl rfl (Eng.x_as (v := (.int .i64 0)) rfl rfl) ?_
  refine Eng.nil ?_
  refine hK1 _ _ ?_
  refine Eng.seqk fun K5 hK5 => ?_
  refine Eng.seqk fun K6 hK6 => ?_
  refine Eng.reg ?_
  refine Eng.sv rfl rfl (Eng.x_mv (v := (.int .i64 m)) rfl rfl) ?_
  refine Eng.sv rfl rfl (Eng.x_mv (v := (.int .i64 n)) rfl rfl) ?_
  refine Eng.sc rfl (Eng.xc (vl := [(.int .i64 m), (.int .i64 n)]) rfl rfl rfl en161_vz) (ord_is hr _) ?_
  rintro _ _ ⟨rfl, rfl⟩
  refine Eng.aft_v rfl ?_
  refine Eng.sv rfl rfl (Eng.x_not (v := (.bool false)) rfl rfl rfl) ?_
  refine Eng.nil ?_
  refine hK6 _ _ ?_
  refine Eng.cond_f rfl ?_
  refine Eng.skp ?_
  refine hK5 _ _ ?_
  refine Eng.seqk fun K8 hK8 => ?_
  refine Eng.reg ?_
  refine Eng.sv rfl rfl (Eng.x_mv (v := (.int .i64 m)) rfl rfl) ?_
  refine Eng.sv rfl rfl (Eng.x_mv (v := (.int .i64 n)) rfl rfl) ?_
  refine Eng.sc rfl (Eng.xc (vl := [(.int .i64 m), (.int .i64 n)]) rfl rfl rfl en162_vz) (stepsW hr hw _) ?_
  rintro _ w9 ⟨vl9, rfl, ho9, hb9⟩
  refine Eng.aft_v rfl ?_
  refine Eng.sv rfl rfl (Eng.x_mv (v := (.tuple #[vl9, (.bool false)])) rfl rfl) ?_
  refine Eng.sv rfl rfl (Eng.x_ext (v := vl9) rfl rfl rfl) ?_
  refine Eng.sv rfl rfl (Eng.x_ext (v := (.bool false)) rfl rfl rfl) ?_
  refine Eng.sv rfl rfl (Eng.x_as (v := vl9) rfl rfl) ?_
  refine Eng.sv rfl rfl (Eng.x_as (v := (.bool false)) rfl rfl) ?_
  refine Eng.nil ?_
  refine hK8 _ _ ?_
  refine Eng.seqk fun K10 hK10 => ?_
  refine Eng.seqk fun K11 hK11 => ?_
  refine Eng.reg ?_
  refine Eng.sv rfl rfl (Eng.x_mv (v := vl9) rfl rfl) ?_
  refine Eng.sv rfl rfl (Eng.x_mv (v := (.bool false)) rfl rfl) ?_
  refine Eng.sc rfl (Eng.xc (vl := [vl9, (.bool false)]) rfl rfl rfl en163_vz) (countW hw ho9) ?_
  rintro _ _ ⟨rfl, rfl⟩
  refine Eng.aft_v rfl ?_
  refine Eng.sv rfl rfl (Eng.x_mv (v := v) rfl rfl) ?_
  have hB0_2 : Below w.heap.size w w3 := (hb2).trans (hb3.mono (hb2).size)
  have hB0_3 : Below w.heap.size w w4 := (hB0_2).trans (hb4.mono (hB0_2).size)
  have hB0_4 : Below w.heap.size w w9 := (hB0_3).trans (hb9.mono (hB0_3).size)
  have hr13 := (h).below hB0_4
  refine Eng.sv rfl rfl (Eng.x_len (v := v) (r := (xs.length : Int)) rfl Tryd.underlying29 rfl (hr13).1 rfl) ?_
  by_cases h32 : ((stN m n : Int) : Int) ≠ (xs.length : Int)
  · skip
    refine Eng.sv rfl rfl (Eng.x_ne (r := true) rfl rfl rfl (Eng.ne_t (by omega))) ?_
    refine Eng.nil ?_
    refine hK11 _ _ ?_
    refine Eng.cond_t rfl ?_
    refine Eng.seqk fun K14 hK14 => ?_
    have hk15 := ((hk3).below hb4).below hb9
    have hk17 := (hk4).below hb9
    refine Eng.drawS 3 [fun (vQ : Value) (_ : World) => vQ = (dg Oct.dz), fun (vQ : Value) (_ : World) => vQ = (dg Oct.dz), fun (_ : Value) (_ : World) => True] [⟨w2.heap.size, 24, (bcs Oct.dz), [(2, (bcs Oct.dz))]⟩] (by kernel_rfl) (by kernel_rfl) (by kernel_rfl) (by kernel_rfl) (by rfl) (by rfl) rfl rfl ?_ ⟨trivial, trivial⟩ ⟨hk15, trivial⟩ ?_ ?_ ?_
    · exact ⟨trivial, trivial, fun _ _ => trivial, trivial⟩
    · exact ⟨fun _ _ _ _ h _ _ => h, fun _ _ _ _ h _ _ => h, fun _ _ _ _ _ _ _ => trivial, trivial⟩
    · refine ⟨?_, ?_, ?_, trivial⟩
      · intro u' W hbW hkp hdp hEd K hK
        have hE0 : Blk W w2.heap.size 24 (bcs Oct.dz) := hEd.1
        have hK := Eng.sdv rfl hK
        refine Eng.dv rfl rfl ?_ (hK _ _ (Below.refl _ _) rfl)
        exact (Eng.x_ldB (v := (dg Oct.dz)) rfl ag24_vz sz24_vz (show Eng.opv 71 u' (.tmp 8) = (.pointer (some ⟨w2.heap.size, 0, none⟩)) from hkp 8 rfl) hE0 rfl rfl)
      · intro u' W hbW hkp hdp hEd K hK
        have hK := Eng.sdv rfl hK
        refine Eng.dv rfl rfl ?_ (hK _ _ (Below.refl _ _) rfl)
        exact (Eng.x_ldB (v := (dg Oct.dz)) rfl ag24_vz sz24_vz (show Eng.opv 71 u' (.tmp 9) = (.pointer (some ⟨w3.heap.size, 0, none⟩)) from hkp 9 rfl) (Eng.blk_grL (hk17) hbW (Eng.nin_cons (Nat.ne_of_gt (Nat.lt_of_lt_of_le hz3 (Nat.le_trans (Nat.le_refl _) (Nat.le_refl _)))) Eng.nin_nil)) rfl rfl)
      · intro u' W hbW hkp hdp hEd K hK
        have e0 : (fun (vQ : Value) (_ : World) => vQ = (dg Oct.dz)) (u' 33) W := hdp.1
        have hE0 : Blk W w2.heap.size 24 (bcs Oct.dz) := hEd.1
        exact Eng.sstB (v := (dg Oct.dz)) rfl rfl rfl sz24_vz rfl rfl (show Eng.opv 71 u' (.tmp 8) = (.pointer (some ⟨w2.heap.size, 0, none⟩)) from hkp 8 rfl) hE0 rfl (show Eng.opv 71 u' (.tmp 33) = (dg Oct.dz) from e0) rfl rfl (bcs_one _) hK
    · intro ud16 w16 hb16 hkp16 ⟨f16_0, f16_1, _, _⟩ hBF16
      have hkF16_0 : Blk w16 w2.heap.size 24 (bcs Oct.dz) := hBF16.1
      obtain rfl := Eng.collectS (l := [(33, (dg Oct.dz)), (34, (dg Oct.dz))]) hkp16 ⟨f16_0, f16_1, trivial⟩ rfl
      have hk18 := Eng.blk_grL (hk17) hb16 (Eng.nin_cons (Nat.ne_of_gt (Nat.lt_of_lt_of_le hz3 (Nat.le_trans (Nat.le_refl _) (Nat.le_refl _)))) Eng.nin_nil)
      refine Eng.stB (v := (dg Oct.dz)) rfl rfl rfl sz24_vz rfl hk18 rfl rfl (cs' := (bcs Oct.dz)) rfl rfl (bcs_one _) ?_
      intro w19 hk19 hg19
      refine Eng.sv rfl rfl (Eng.x_as (v := (.int .i64 70)) rfl rfl) ?_
      refine Eng.nil ?_
      refine hK14 _ _ ?_
      refine Eng.rt ?_
      refine Eng.tr ?_
      have hk20 := (hkF16_0).grown hg19 (fun e => absurd (Option.some.inj e) (Nat.ne_of_lt (Nat.lt_of_lt_of_le hz3 (Nat.le_trans (Nat.le_refl _) (Nat.le_refl _)))))
      refine Eng.ret (Eng.res3 (v1 := (dg Oct.dz)) (v2 := (dg Oct.dz)) (v3 := (.int .i64 70)) rfl (Eng.rdc rfl (Eng.lvB ag24_vz sz24_vz hk20 rfl rfl)) (Eng.rdc rfl (Eng.lvB ag24_vz sz24_vz hk19 rfl rfl)) (Eng.rdt rfl)) ?_
      have hB0_5 : Below w.heap.size w w16 := Eng.bel_grL (hB0_4) hb16 (hB0_4).size (Eng.le_cons (Nat.le_trans (hb2).size (Nat.le_refl _)) Eng.le_nil)
      have hB0_6 : Below w.heap.size w w19 := (hB0_5).grown hg19 (hB0_5).size (fun k e => by cases e; exact Nat.le_trans (hB0_2).size (Nat.le_refl _))
      have hne : stN m n ≠ xs.length := by omega
      exact ⟨by simp [rootsD, rootsE, hr, hne], hB0_6⟩
  · skip
    have hsn : stN m n = (stL m.toNat n.toNat).1.length + 1 := by unfold stN; rw [hw]; rfl
    have hx1 : 1 ≤ xs.length := by omega
    have hd0 := ds_get h hx1
    have hLn : (stL m.toNat n.toNat).1.length = xs.tail.length := by rw [List.length_tail]; omega
    refine Eng.sv rfl rfl (Eng.x_ne (r := false) rfl rfl rfl (Eng.ne_f (by omega))) ?_
    refine Eng.nil ?_
    refine hK11 _ _ ?_
    refine Eng.cond_f rfl ?_
    refine Eng.skp ?_
    refine hK10 _ _ ?_
    refine Eng.seqk fun K21 hK21 => ?_
    refine Eng.reg ?_
    have hk22 := (((hk2).below hb3).below hb4).below hb9
    refine Eng.sv rfl rfl (Eng.x_ldB (v := (dg d)) rfl ag24_vz sz24_vz rfl hk22 ((bcs_length _).trans hd) rfl) ?_
    have hk23 := ((hk3).below hb4).below hb9
    refine Eng.stB (v := (dg d)) rfl rfl rfl sz24_vz rfl hk23 rfl rfl (cs' := (bcs d)) rfl ((bcs_length _).trans hd) (bcs_one _) ?_
    intro w24 hk24 hg24
    refine Eng.nil ?_
    refine hK21 _ _ ?_
    refine Eng.seqk fun K25 hK25 => ?_
    refine Eng.seqk fun K26 hK26 => ?_
    refine Eng.reg ?_
    refine Eng.sv rfl rfl (Eng.x_mv (v := (.bool false)) rfl rfl) ?_
    refine Eng.sv rfl rfl (Eng.x_not (v := (.bool true)) rfl rfl rfl) ?_
    refine Eng.nil ?_
    refine hK26 _ _ ?_
    refine Eng.cond_t rfl ?_
    have hB0_5 : Below w.heap.size w w24 := (hB0_4).grown hg24 (hB0_4).size (fun k e => by cases e; exact Nat.le_trans (hb2).size (Nat.le_refl _))
    have hr28 := (h).below hB0_5
    have hq29 : Dsl.Ds w (Eng.sCut v 1 xs.length 32) (xs.tail) := (ds_tl h (by omega))
    refine Eng.drawS 6 [fun (vQ : Value) (_ : World) => vQ = v, fun (vQ : Value) (_ : World) => vQ = (.pointer (some ((Eng.sAddr v).add (0 * 32)))), fun (vQ : Value) (_ : World) => vQ = (dg ((xs).getD 0 [])), fun (vQ : Value) (_ : World) => vQ = v, fun (vQ : Value) (_ : World) => vQ = (Eng.sCut v 1 xs.length 32), fun (_ : Value) (_ : World) => True] [⟨w2.heap.size, 24, (bcs d), [(5, (bcs ((xs).getD 0 [])))]⟩] (by kernel_rfl) (by kernel_rfl) (by kernel_rfl) (by kernel_rfl) (by rfl) (by rfl) rfl rfl ?_ ⟨trivial, trivial⟩ ⟨hk24, trivial⟩ ?_ ?_ ?_
    · exact ⟨trivial, trivial, trivial, trivial, trivial, fun _ _ => trivial, trivial⟩
    · exact ⟨fun _ _ _ _ h _ _ => h, fun _ _ _ _ h _ _ => h, fun _ _ _ _ h _ _ => h, fun _ _ _ _ h _ _ => h, fun _ _ _ _ h _ _ => h, fun _ _ _ _ _ _ _ => trivial, trivial⟩
    · refine ⟨?_, ?_, ?_, ?_, ?_, ?_, trivial⟩
      · intro u' W hbW hkp hdp hEd K hK
        have hK := Eng.sdv rfl hK
        refine Eng.dv rfl rfl ?_ (hK _ _ (Below.refl _ _) rfl)
        exact (Eng.x_mv (v := v) rfl (show Eng.opv 71 u' (.tmp 3) = v from hkp 3 rfl))
      · intro u' W hbW hkp hdp hEd K hK
        have e0 : (fun (vQ : Value) (_ : World) => vQ = v) (u' 38) W := hdp.1
        have hK := Eng.sdv rfl hK
        refine Eng.dv rfl rfl ?_ (hK _ _ (Below.refl _ _) rfl)
        exact (Eng.x_ia (v := v) (j := 0) rfl Tryd.underlying29 sz24_vz (by decide) (show Eng.opv 71 u' (.tmp 38) = v from e0) rfl (((h).below (Eng.bel_grL (hB0_5) hbW (hB0_5).size (Eng.le_cons (Nat.le_trans (hb2).size (Nat.le_refl _)) Eng.le_nil)))).1 (Dsl.dcs_len _ (((h).below (Eng.bel_grL (hB0_5) hbW (hB0_5).size (Eng.le_cons (Nat.le_trans (hb2).size (Nat.le_refl _)) Eng.le_nil)))).2) (rfl) (by omega))
      · intro u' W hbW hkp hdp hEd K hK
        have e1 : (fun (vQ : Value) (_ : World) => vQ = (.pointer (some ((Eng.sAddr v).add (0 * 32))))) (u' 39) W := hdp.1
        have hK := Eng.sdv rfl hK
        refine Eng.dv rfl rfl ?_ (hK _ _ (Below.refl _ _) rfl)
        exact (Eng.x_ldA (v := (dg ((xs).getD 0 []))) rfl ag24_vz sz24_vz (show Eng.opv 71 u' (.tmp 39) = (.pointer (some ((Eng.sAddr v).add (0 * 32)))) from e1) ((bcs_length _).trans (Eng.ds_len hr28 (by omega))) (Eng.ds_at ((h).below (Eng.bel_grL (hB0_5) hbW (hB0_5).size (Eng.le_cons (Nat.le_trans (hb2).size (Nat.le_refl _)) Eng.le_nil))) (by omega)) rfl)
      · intro u' W hbW hkp hdp hEd K hK
        have hK := Eng.sdv rfl hK
        refine Eng.dv rfl rfl ?_ (hK _ _ (Below.refl _ _) rfl)
        exact (Eng.x_mv (v := v) rfl (show Eng.opv 71 u' (.tmp 3) = v from hkp 3 rfl))
      · intro u' W hbW hkp hdp hEd K hK
        have e3 : (fun (vQ : Value) (_ : World) => vQ = v) (u' 41) W := hdp.1
        have hK := Eng.sdv rfl hK
        refine Eng.dv rfl rfl ?_ (hK _ _ (Below.refl _ _) rfl)
        exact (Eng.x_sl (v := v) rfl Tryd.underlying29 sz24_vz (show Eng.opv 71 u' (.tmp 41) = v from e3) (((h).below (Eng.bel_grL (hB0_5) hbW (hB0_5).size (Eng.le_cons (Nat.le_trans (hb2).size (Nat.le_refl _)) Eng.le_nil)))).1 1 xs.length (Eng.bd (k := .i64) rfl) (.inl ⟨rfl, rfl⟩) (by omega) (by omega))
      · intro u' W hbW hkp hdp hEd K hK
        have e2 : (fun (vQ : Value) (_ : World) => vQ = (dg ((xs).getD 0 []))) (u' 40) W := hdp.1
        have hE0 : Blk W w2.heap.size 24 (bcs d) := hEd.1
        exact Eng.sstB (v := (dg ((xs).getD 0 []))) rfl rfl rfl sz24_vz rfl rfl (show Eng.opv 71 u' (.tmp 8) = (.pointer (some ⟨w2.heap.size, 0, none⟩)) from hkp 8 rfl) hE0 ((bcs_length _).trans hd) (show Eng.opv 71 u' (.tmp 40) = (dg ((xs).getD 0 [])) from e2) rfl ((bcs_length _).trans (Eng.ds_len hr28 (by omega))) (bcs_one _) hK
    · intro ud27 w27 hb27 hkp27 ⟨f27_0, f27_1, f27_2, f27_3, f27_4, _, _⟩ hBF27
      have hkF27_0 : Blk w27 w2.heap.size 24 (bcs ((xs).getD 0 [])) := hBF27.1
      obtain rfl := Eng.collectS (l := [(38, v), (39, (.pointer (some ((Eng.sAddr v).add (0 * 32))))), (40, (dg ((xs).getD 0 []))), (41, v), (42, (Eng.sCut v 1 xs.length 32))]) hkp27 ⟨f27_0, f27_1, f27_2, f27_3, f27_4, trivial⟩ rfl
      refine Eng.sv rfl rfl (Eng.x_as (v := (Eng.sCut v 1 xs.length 32)) rfl rfl) ?_
      refine Eng.nil ?_
      refine hK25 _ _ ?_
      refine Eng.seqk fun K30 hK30 => ?_
      refine Eng.reg ?_
      refine Eng.sv rfl rfl (Eng.x_ldB (v := (dg ((xs).getD 0 []))) rfl ag24_vz sz24_vz rfl hkF27_0 ((bcs_length _).trans (Eng.ds_len hr28 (by omega))) rfl) ?_
      have hk31 := Eng.blk_grL (((hk4).below hb9).grown hg24 (fun e => absurd (Option.some.inj e) (Nat.ne_of_gt (Nat.lt_of_lt_of_le hz3 (Nat.le_trans (Nat.le_refl _) (Nat.le_refl _)))))) hb27 (Eng.nin_cons (Nat.ne_of_gt (Nat.lt_of_lt_of_le hz3 (Nat.le_trans (Nat.le_refl _) (Nat.le_refl _)))) Eng.nin_nil)
      refine Eng.stB (v := (dg ((xs).getD 0 []))) rfl rfl rfl sz24_vz rfl hk31 rfl rfl (cs' := (bcs ((xs).getD 0 []))) rfl ((bcs_length _).trans (Eng.ds_len hr28 (by omega))) (bcs_one _) ?_
      intro w32 hk32 hg32
      refine Eng.nil ?_
      refine hK30 _ _ ?_
      refine Eng.seqk fun K33 hK33 => ?_
      refine Eng.seqk fun K34 hK34 => ?_
      refine Eng.reg ?_
      refine Eng.sv rfl rfl (Eng.x_mv (v := (Eng.sCut v 1 xs.length 32)) rfl rfl) ?_
      have hB0_6 : Below w.heap.size w w27 := Eng.bel_grL (hB0_5) hb27 (hB0_5).size (Eng.le_cons (Nat.le_trans (hb2).size (Nat.le_refl _)) Eng.le_nil)
      have hB0_7 : Below w.heap.size w w32 := (hB0_6).grown hg32 (hB0_6).size (fun k e => by cases e; exact Nat.le_trans (hB0_2).size (Nat.le_refl _))
      have hr35 := (hq29).below hB0_7
      refine Eng.sv rfl rfl (Eng.x_len (v := (Eng.sCut v 1 xs.length 32)) (r := (xs.tail.length : Int)) rfl Tryd.underlying29 rfl (hr35).1 rfl) ?_
      refine Eng.sv rfl rfl (Eng.x_mv (v := (.int .i64 0)) rfl rfl) ?_
      refine Eng.nil ?_
      refine hK34 _ _ ?_
      refine Eng.blk ?_
      have hk37 := (hkF27_0).grown hg32 (fun e => absurd (Option.some.inj e) (Nat.ne_of_lt (Nat.lt_of_lt_of_le hz3 (Nat.le_trans (Nat.le_refl _) (Nat.le_refl _)))))
      have hr38 := (((ho9).kept hg24 (.inr (fun e => absurd ((World.ownsRow.lt ho9) _ e).1 (Nat.not_le_of_lt (Nat.lt_of_lt_of_le hz3 (hb4).size))))).grL hb27 (fun k e => (Eng.nin_cons (fun q => absurd ((World.ownsRow.lt ho9) _ (show (vl9).ownBlock = some (w2.heap.size) from e.trans (congrArg some q))).1 (Nat.not_le_of_lt (Nat.lt_of_lt_of_le hz3 (hb4).size))) Eng.nin_nil))).kept hg32 (.inr (fun e => absurd ((World.ownsRow.lt ho9) _ e).1 (Nat.not_le_of_lt (Nat.lt_of_lt_of_le hz4 (Nat.le_refl _)))))
      refine Eng.loopN (fun zz u w' => ∃ (k : Nat), zz = xs.tail.length - k ∧ k ≤ xs.tail.length ∧ Eng.Has u [(8, (.pointer (some ⟨w2.heap.size, 0, none⟩))), (9, (.pointer (some ⟨w3.heap.size, 0, none⟩))), (10, (.int .i64 0)), (11, vl9), (44, (Eng.sCut v 1 xs.length 32)), (45, (.int .i64 (xs.tail.length : Int))), (46, (.int .i64 (k : Int)))] ∧ Below w.heap.size w w' ∧ w32.heap.size ≤ w'.heap.size ∧ Blk w' w2.heap.size 24 (bcs ((up2 (xs.getD 0 []) (stL m.toNat n.toNat).1 xs.tail k).1)) ∧ Blk w' w3.heap.size 24 (bcs ((up2 (xs.getD 0 []) (stL m.toNat n.toNat).1 xs.tail k).2)) ∧ OwnT w4.heap.size w' vl9 ((stL m.toNat n.toNat).1)) _ ⟨0, rfl, by omega, ⟨rfl, rfl, rfl, rfl, rfl, rfl, (Eng.ie (by first | omega | rfl)), trivial⟩, hB0_7, (Nat.le_refl _), hk37, hk32, hr38⟩ ?_
      rintro _ u36 w36 ⟨k, rfl, hs36_0, hH36, hBL36, hzL36, hkL36_0, hkL36_1, hrL36_0⟩ K36 hK36
      obtain ⟨u36, rfl⟩ := hH36.ex
      refine Eng.seqk fun K39 hK39 => ?_
      refine Eng.reg ?_
      by_cases h47 : ((k : Int) : Int) < (xs.tail.length : Int)
      · skip
        refine Eng.sv rfl rfl (Eng.x_lt (r := true) rfl rfl rfl (decide_eq_true (by omega))) ?_
        refine Eng.nil ?_
        refine hK39 _ _ ?_
        refine Eng.seqk fun K40 hK40 => ?_
        refine Eng.cond_t rfl ?_
        refine Eng.skp ?_
        refine hK40 _ _ ?_
        refine Eng.seqk fun K41 hK41 => ?_
        refine Eng.blk ?_
        refine Eng.seqk fun K42 hK42 => ?_
        refine Eng.reg ?_
        refine Eng.sv rfl rfl (Eng.x_mv (v := (.int .i64 (k : Int))) rfl rfl) ?_
        have hr43 := (hq29).below hBL36
        refine Eng.sv rfl rfl (Eng.x_ia (v := (Eng.sCut v 1 xs.length 32)) (j := k) rfl Tryd.underlying29 sz24_vz (by decide) rfl rfl (hr43).1 (Dsl.dcs_len _ (hr43).2) (by omega) (by omega)) ?_
        refine Eng.sv rfl rfl (Eng.x_ldA (v := (dg ((xs.tail).getD k []))) rfl ag24_vz sz24_vz rfl ((bcs_length _).trans (Eng.ds_len hr43 (by omega))) (Eng.ds_at hr43 (by omega)) rfl) ?_
        refine Eng.al rfl rfl rfl zr24_vz (cs := (bcs Oct.dz)) rfl ?_
        intro w44 hk44 hb44 hz44
        refine Eng.sv rfl rfl (Eng.x_as (v := (.int .i64 (k : Int))) rfl rfl) ?_
        refine Eng.stB (v := (dg ((xs.tail).getD k []))) rfl rfl rfl sz24_vz rfl hk44 rfl rfl (cs' := (bcs ((xs.tail).getD k []))) rfl ((bcs_length _).trans (Eng.ds_len hr43 (by omega))) (bcs_one _) ?_
        intro w45 hk45 hg45
        refine Eng.nil ?_
        refine hK42 _ _ ?_
        refine Eng.seqk fun K46 hK46 => ?_
        refine Eng.seqk fun K47 hK47 => ?_
        refine Eng.reg ?_
        refine Eng.sv rfl rfl (Eng.x_mv (v := vl9) rfl rfl) ?_
        refine Eng.sv rfl rfl (Eng.x_mv (v := vl9) rfl rfl) ?_
        have hr48 := ((hrL36_0).below hb44).kept hg45 (.inr (fun e => absurd ((World.ownsRow.lt ho9) _ e).2 (Nat.not_lt_of_le (Nat.le_trans (Nat.le_trans (Nat.le_trans (Nat.le_trans (hg24).size (hb27).size) (hg32).size) hzL36) (Nat.le_refl _)))))
        refine Eng.sv rfl rfl (Eng.x_len (v := vl9) (r := (((stL m.toNat n.toNat).1).length : Int)) rfl Tryd.underlying208 rfl (Row.of_own hr48) rfl) ?_
        refine Eng.sv rfl rfl (Eng.x_sub rfl rfl rfl (Eng.w64 (r := ((((stL m.toNat n.toNat).1).length : Int) - 1)) (by omega))) ?_
        refine Eng.sv rfl rfl (Eng.x_mv (v := (.int .i64 (k : Int))) rfl rfl) ?_
        refine Eng.sv rfl rfl (Eng.x_sub rfl rfl rfl (Eng.w64 (r := (((stL m.toNat n.toNat).1.length - 1 - k : Nat) : Int)) (by omega))) ?_
        refine Eng.sv rfl rfl (Eng.x_ia (v := vl9) (j := (stL m.toNat n.toNat).1.length - 1 - k) rfl Tryd.underlying208 sz210_vz (by decide) rfl rfl (Row.of_own hr48) (by rw [Nat.mul_one]; exact List.length_map _) (by omega) (by omega)) ?_
        refine Eng.sv rfl rfl (Eng.x_ld1 (v := (.bool (((stL m.toNat n.toNat).1).getD ((stL m.toNat n.toNat).1.length - 1 - k) false))) rfl ag210_vz rfl (Eng.row_get (Row.of_own hr48) (Eng.map_get Value.bool _ false (by omega)))) ?_
        refine Eng.nil ?_
        refine hK47 _ _ ?_
        refine Eng.cond_b rfl (fun hc49 => ?_) (fun hc49 => ?_)
        · skip
          refine Eng.seqk fun K50 hK50 => ?_
          refine Eng.reg ?_
          have hk51 := ((hkL36_1).below hb44).grown hg45 (fun e => absurd (Option.some.inj e) (Nat.ne_of_lt (Nat.lt_of_lt_of_le hz4 (Nat.le_trans (Nat.le_trans (Nat.le_trans (Nat.le_trans (Nat.le_trans (hb9).size (hg24).size) (hb27).size) (hg32).size) hzL36) (Nat.le_refl _)))))
          refine Eng.sv rfl rfl (Eng.x_ldB (v := (dg ((up2 (xs.getD 0 []) (stL m.toNat n.toNat).1 xs.tail k).2))) rfl ag24_vz sz24_vz rfl hk51 ((bcs_length _).trans (up2_len2 _ _ _ _ hd0)) rfl) ?_
          refine Eng.sv rfl rfl (Eng.x_ldB (v := (dg ((xs.tail).getD k []))) rfl ag24_vz sz24_vz rfl hk45 ((bcs_length _).trans (Eng.ds_len hr43 (by omega))) rfl) ?_
          have hB0_9 : Below w.heap.size w w44 := (hBL36).trans (hb44.mono (hBL36).size)
          have hB0_10 : Below w.heap.size w w45 := (hB0_9).grown hg45 (hB0_9).size (fun k e => by cases e; exact Nat.le_trans (hBL36).size (Nat.le_refl _))
          have hr52 := (hK).below hB0_10
          refine Eng.sc rfl (Eng.xc (vl := [(dg ((up2 (xs.getD 0 []) (stL m.toNat n.toNat).1 xs.tail k).2)), (dg ((xs.tail).getD k []))]) rfl rfl rfl en60_vz) (node_eq (up2_t (l := (stL m.toNat n.toNat).1) (by omega) (by omega) hc49).2 (up2_len2 _ _ _ _ hd0) (Eng.ds_len hr43 (by omega)) _ hr52) ?_
          rintro _ w53 ⟨rfl, hb53⟩
          refine Eng.aft_v rfl ?_
          have hk54 := (hk51).below hb53
          refine Eng.stB (v := (dg ((up2 (xs.getD 0 []) (stL m.toNat n.toNat).1 xs.tail (k + 1)).2))) rfl rfl rfl sz24_vz rfl hk54 ((bcs_length _).trans (up2_len2 _ _ _ _ hd0)) rfl (cs' := (bcs ((up2 (xs.getD 0 []) (stL m.toNat n.toNat).1 xs.tail (k + 1)).2))) rfl ((bcs_length _).trans (up2_len2 _ _ _ _ hd0)) (bcs_one _) ?_
          intro w55 hk55 hg55
          refine Eng.nil ?_
          refine hK50 _ _ ?_
          refine Eng.xt ?_
          refine Eng.te ?_
          refine Eng.be ?_
          refine hK41 _ _ ?_
          refine Eng.reg ?_
          refine Eng.sv rfl rfl (Eng.x_add rfl rfl rfl (Eng.w64 (r := ((k : Int) + 1)) (by omega))) ?_
          refine Eng.sv rfl rfl (Eng.x_mv (v := (.int .i64 ((k : Int) + 1))) rfl rfl) ?_
          refine Eng.nil ?_
          have hB2_4 : Below w3.heap.size w3 w9 := (hb4).trans (hb9.mono (hb4).size)
          have hk56 := ((((hkL36_0).below hb44).grown hg45 (fun e => absurd (Option.some.inj e) (Nat.ne_of_lt (Nat.lt_of_lt_of_le hz3 (Nat.le_trans (Nat.le_trans (Nat.le_trans (Nat.le_trans (Nat.le_trans (hB2_4).size (hg24).size) (hb27).size) (hg32).size) hzL36) (Nat.le_refl _)))))).below hb53).grown hg55 (fun e => absurd (Option.some.inj e) (Nat.ne_of_lt (Nat.lt_of_lt_of_le hz3 (Nat.le_trans (Nat.le_refl _) (Nat.le_refl _)))))
          have hu57 := hk56
          rw [(up2_t (l := (stL m.toNat n.toNat).1) (by omega) (by omega) hc49).1] at hu57
          have hr58 := ((hr48).below hb53).kept hg55 (.inr (fun e => absurd ((World.ownsRow.lt ho9) _ e).1 (Nat.not_le_of_lt (Nat.lt_of_lt_of_le hz4 (Nat.le_refl _)))))
          have hB0_11 : Below w.heap.size w w53 := (hB0_10).trans (hb53.mono (hB0_10).size)
          have hB0_12 : Below w.heap.size w w55 := (hB0_11).grown hg55 (hB0_11).size (fun k e => by cases e; exact Nat.le_trans (hB0_2).size (Nat.le_refl _))
          exact hK36 _ _ _ ⟨k + 1, rfl, by omega, ⟨rfl, rfl, rfl, rfl, rfl, rfl, (Eng.ie (by first | omega | rfl)), trivial⟩, hB0_12, (Nat.le_trans (Nat.le_trans (Nat.le_trans (Nat.le_trans hzL36 (hb44).size) (hg45).size) (hb53).size) (hg55).size), hu57, hk55, hr58⟩ (by omega)
        · skip
          refine Eng.skp ?_
          refine hK46 _ _ ?_
          have hB2_4 : Below w3.heap.size w3 w9 := (hb4).trans (hb9.mono (hb4).size)
          have hk60 := ((hkL36_0).below hb44).grown hg45 (fun e => absurd (Option.some.inj e) (Nat.ne_of_lt (Nat.lt_of_lt_of_le hz3 (Nat.le_trans (Nat.le_trans (Nat.le_trans (Nat.le_trans (Nat.le_trans (hB2_4).size (hg24).size) (hb27).size) (hg32).size) hzL36) (Nat.le_refl _)))))
          have hB0_9 : Below w.heap.size w w44 := (hBL36).trans (hb44.mono (hBL36).size)
          have hB0_10 : Below w.heap.size w w45 := (hB0_9).grown hg45 (hB0_9).size (fun k e => by cases e; exact Nat.le_trans (hBL36).size (Nat.le_refl _))
          have hr61 := (hK).below hB0_10
          have hk62 := ((hkL36_1).below hb44).grown hg45 (fun e => absurd (Option.some.inj e) (Nat.ne_of_lt (Nat.lt_of_lt_of_le hz4 (Nat.le_trans (Nat.le_trans (Nat.le_trans (Nat.le_trans (Nat.le_trans (hb9).size (hg24).size) (hb27).size) (hg32).size) hzL36) (Nat.le_refl _)))))
          refine Eng.draw 6 [fun (vQ : Value) (_ : World) => vQ = (dg ((xs.tail).getD k [])), fun (vQ : Value) (_ : World) => vQ = (dg ((up2 (xs.getD 0 []) (stL m.toNat n.toNat).1 xs.tail k).1)), fun (vQ : Value) (_ : World) => vQ = (dg ((up2 (xs.getD 0 []) (stL m.toNat n.toNat).1 xs.tail (k + 1)).1)), fun (vQ : Value) (_ : World) => vQ = (dg ((xs.tail).getD k [])), fun (vQ : Value) (_ : World) => vQ = (dg ((up2 (xs.getD 0 []) (stL m.toNat n.toNat).1 xs.tail k).2)), fun (vQ : Value) (_ : World) => vQ = (dg ((up2 (xs.getD 0 []) (stL m.toNat n.toNat).1 xs.tail (k + 1)).2))] (by kernel_rfl) (by kernel_rfl) (by kernel_rfl) (by kernel_rfl) rfl rfl ?_ ?_ ?_
          · exact ⟨fun _ _ _ h _ => h, fun _ _ _ h _ => h, fun _ _ _ h _ => h, fun _ _ _ h _ => h, fun _ _ _ h _ => h, fun _ _ _ h _ => h, trivial⟩
          · refine ⟨?_, ?_, ?_, ?_, ?_, ?_, trivial⟩
            · intro u' W hbW hkp hdp K hK
              refine Eng.dv rfl rfl ?_ (hK _ _ (Below.refl _ _) rfl)
              exact (Eng.x_ldB (v := (dg ((xs.tail).getD k []))) rfl ag24_vz sz24_vz (show Eng.opv 71 u' (.tmp 14) = (.pointer (some ⟨w36.heap.size, 0, none⟩)) from hkp 14 rfl) ((hk45).below hbW) ((bcs_length _).trans (Eng.ds_len hr43 (by omega))) rfl)
            · intro u' W hbW hkp hdp K hK
              refine Eng.dv rfl rfl ?_ (hK _ _ (Below.refl _ _) rfl)
              exact (Eng.x_ldB (v := (dg ((up2 (xs.getD 0 []) (stL m.toNat n.toNat).1 xs.tail k).1))) rfl ag24_vz sz24_vz (show Eng.opv 71 u' (.tmp 8) = (.pointer (some ⟨w2.heap.size, 0, none⟩)) from hkp 8 rfl) ((hk60).below hbW) ((bcs_length _).trans (up2_len1 _ _ _ _ hd0)) rfl)
            · intro u' W hbW hkp hdp K hK
              have e0 : (fun (vQ : Value) (_ : World) => vQ = (dg ((xs.tail).getD k []))) (u' 62) W := hdp.1
              have e1 : (fun (vQ : Value) (_ : World) => vQ = (dg ((up2 (xs.getD 0 []) (stL m.toNat n.toNat).1 xs.tail k).1))) (u' 63) W := hdp.2.1
              refine Eng.dc (vs := #[(dg ((xs.tail).getD k [])), (dg ((up2 (xs.getD 0 []) (stL m.toNat n.toNat).1 xs.tail k).1))]) rfl ?_ (node_eq (up2_f (l := (stL m.toNat n.toNat).1) (by omega) (by omega) hc49).1 (Eng.ds_len hr43 (by omega)) (up2_len1 _ _ _ _ hd0) _ ((hr61).below hbW)) ?_
              · exact Eng.xc (xs := #[(Go.Operand.tmp 62), (Go.Operand.tmp 63)]) (vl := [(dg ((xs.tail).getD k [])), (dg ((up2 (xs.getD 0 []) (stL m.toNat n.toNat).1 xs.tail k).1))]) rfl rfl (Eng.lc (show Eng.opv 71 u' (.tmp 62) = (dg ((xs.tail).getD k [])) from e0) (Eng.lc (show Eng.opv 71 u' (.tmp 63) = (dg ((up2 (xs.getD 0 []) (stL m.toNat n.toNat).1 xs.tail k).1)) from e1) rfl)) en60_vz
              rintro _ W2 ⟨rfl, hb2⟩
              exact Eng.aft_v rfl (hK _ _ hb2 rfl)
            · intro u' W hbW hkp hdp K hK
              refine Eng.dv rfl rfl ?_ (hK _ _ (Below.refl _ _) rfl)
              exact (Eng.x_ldB (v := (dg ((xs.tail).getD k []))) rfl ag24_vz sz24_vz (show Eng.opv 71 u' (.tmp 14) = (.pointer (some ⟨w36.heap.size, 0, none⟩)) from hkp 14 rfl) ((hk45).below hbW) ((bcs_length _).trans (Eng.ds_len hr43 (by omega))) rfl)
            · intro u' W hbW hkp hdp K hK
              refine Eng.dv rfl rfl ?_ (hK _ _ (Below.refl _ _) rfl)
              exact (Eng.x_ldB (v := (dg ((up2 (xs.getD 0 []) (stL m.toNat n.toNat).1 xs.tail k).2))) rfl ag24_vz sz24_vz (show Eng.opv 71 u' (.tmp 9) = (.pointer (some ⟨w3.heap.size, 0, none⟩)) from hkp 9 rfl) ((hk62).below hbW) ((bcs_length _).trans (up2_len2 _ _ _ _ hd0)) rfl)
            · intro u' W hbW hkp hdp K hK
              have e3 : (fun (vQ : Value) (_ : World) => vQ = (dg ((xs.tail).getD k []))) (u' 65) W := hdp.1
              have e4 : (fun (vQ : Value) (_ : World) => vQ = (dg ((up2 (xs.getD 0 []) (stL m.toNat n.toNat).1 xs.tail k).2))) (u' 66) W := hdp.2.1
              refine Eng.dc (vs := #[(dg ((xs.tail).getD k [])), (dg ((up2 (xs.getD 0 []) (stL m.toNat n.toNat).1 xs.tail k).2))]) rfl ?_ (node_eq (up2_f (l := (stL m.toNat n.toNat).1) (by omega) (by omega) hc49).2 (Eng.ds_len hr43 (by omega)) (up2_len2 _ _ _ _ hd0) _ ((hr61).below hbW)) ?_
              · exact Eng.xc (xs := #[(Go.Operand.tmp 65), (Go.Operand.tmp 66)]) (vl := [(dg ((xs.tail).getD k [])), (dg ((up2 (xs.getD 0 []) (stL m.toNat n.toNat).1 xs.tail k).2))]) rfl rfl (Eng.lc (show Eng.opv 71 u' (.tmp 65) = (dg ((xs.tail).getD k [])) from e3) (Eng.lc (show Eng.opv 71 u' (.tmp 66) = (dg ((up2 (xs.getD 0 []) (stL m.toNat n.toNat).1 xs.tail k).2)) from e4) rfl)) en60_vz
              rintro _ W2 ⟨rfl, hb2⟩
              exact Eng.aft_v rfl (hK _ _ hb2 rfl)
          · intro ud59 w59 hb59 hkp59 ⟨f59_0, f59_1, f59_2, f59_3, f59_4, f59_5, _⟩
            obtain rfl := Eng.collect (l := [(62, (dg ((xs.tail).getD k []))), (63, (dg ((up2 (xs.getD 0 []) (stL m.toNat n.toNat).1 xs.tail k).1))), (64, (dg ((up2 (xs.getD 0 []) (stL m.toNat n.toNat).1 xs.tail (k + 1)).1))), (65, (dg ((xs.tail).getD k []))), (66, (dg ((up2 (xs.getD 0 []) (stL m.toNat n.toNat).1 xs.tail k).2))), (67, (dg ((up2 (xs.getD 0 []) (stL m.toNat n.toNat).1 xs.tail (k + 1)).2)))]) hkp59 ⟨f59_0, f59_1, f59_2, f59_3, f59_4, f59_5, trivial⟩ rfl
            have hk63 := (hk60).below hb59
            refine Eng.stB (v := (dg ((up2 (xs.getD 0 []) (stL m.toNat n.toNat).1 xs.tail (k + 1)).1))) rfl rfl rfl sz24_vz rfl hk63 ((bcs_length _).trans (up2_len1 _ _ _ _ hd0)) rfl (cs' := (bcs ((up2 (xs.getD 0 []) (stL m.toNat n.toNat).1 xs.tail (k + 1)).1))) rfl ((bcs_length _).trans (up2_len1 _ _ _ _ hd0)) (bcs_one _) ?_
            intro w64 hk64 hg64
            have hk65 := ((hk62).below hb59).grown hg64 (fun e => absurd (Option.some.inj e) (Nat.ne_of_gt (Nat.lt_of_lt_of_le hz3 (Nat.le_trans (Nat.le_refl _) (Nat.le_refl _)))))
            refine Eng.stB (v := (dg ((up2 (xs.getD 0 []) (stL m.toNat n.toNat).1 xs.tail (k + 1)).2))) rfl rfl rfl sz24_vz rfl hk65 ((bcs_length _).trans (up2_len2 _ _ _ _ hd0)) rfl (cs' := (bcs ((up2 (xs.getD 0 []) (stL m.toNat n.toNat).1 xs.tail (k + 1)).2))) rfl ((bcs_length _).trans (up2_len2 _ _ _ _ hd0)) (bcs_one _) ?_
            intro w66 hk66 hg66
            refine Eng.nil ?_
            refine Eng.nb ?_
            refine hK41 _ _ ?_
            refine Eng.reg ?_
            refine Eng.sv rfl rfl (Eng.x_add rfl rfl rfl (Eng.w64 (r := ((k : Int) + 1)) (by omega))) ?_
            refine Eng.sv rfl rfl (Eng.x_mv (v := (.int .i64 ((k : Int) + 1))) rfl rfl) ?_
            refine Eng.nil ?_
            have hr67 := (((hr48).below hb59).kept hg64 (.inr (fun e => absurd ((World.ownsRow.lt ho9) _ e).1 (Nat.not_le_of_lt (Nat.lt_of_lt_of_le hz3 (hb4).size))))).kept hg66 (.inr (fun e => absurd ((World.ownsRow.lt ho9) _ e).1 (Nat.not_le_of_lt (Nat.lt_of_lt_of_le hz4 (Nat.le_refl _)))))
            have hB0_11 : Below w.heap.size w w59 := (hB0_10).trans (hb59.mono (hB0_10).size)
            have hB0_12 : Below w.heap.size w w64 := (hB0_11).grown hg64 (hB0_11).size (fun k e => by cases e; exact Nat.le_trans (hb2).size (Nat.le_refl _))
            have hB0_13 : Below w.heap.size w w66 := (hB0_12).grown hg66 (hB0_12).size (fun k e => by cases e; exact Nat.le_trans (hB0_2).size (Nat.le_refl _))
            have hk68 := (hk64).grown hg66 (fun e => absurd (Option.some.inj e) (Nat.ne_of_lt (Nat.lt_of_lt_of_le hz3 (Nat.le_trans (Nat.le_refl _) (Nat.le_refl _)))))
            exact hK36 _ _ _ ⟨k + 1, rfl, by omega, ⟨rfl, rfl, rfl, rfl, rfl, rfl, (Eng.ie (by first | omega | rfl)), trivial⟩, hB0_13, (Nat.le_trans (Nat.le_trans (Nat.le_trans (Nat.le_trans (Nat.le_trans hzL36 (hb44).size) (hg45).size) (hb59).size) (hg64).size) (hg66).size), hk68, hk66, hr67⟩ (by omega)
      · skip
        refine Eng.sv rfl rfl (Eng.x_lt (r := false) rfl rfl rfl (decide_eq_false (by omega))) ?_
        refine Eng.nil ?_
        refine hK39 _ _ ?_
        refine Eng.seqk fun K69 hK69 => ?_
        refine Eng.cond_f rfl ?_
        refine Eng.xt ?_
        refine Eng.te ?_
        refine Eng.te ?_
        refine Eng.be ?_
        refine hK33 _ _ ?_
        refine Eng.seqk fun K70 hK70 => ?_
        refine Eng.drawS 3 [fun (vQ : Value) (_ : World) => vQ = (dg ((up2 (xs.getD 0 []) (stL m.toNat n.toNat).1 xs.tail k).1)), fun (vQ : Value) (_ : World) => vQ = (dg ((up2 (xs.getD 0 []) (stL m.toNat n.toNat).1 xs.tail k).2)), fun (_ : Value) (_ : World) => True] [⟨w2.heap.size, 24, (bcs ((up2 (xs.getD 0 []) (stL m.toNat n.toNat).1 xs.tail k).1)), [(2, (bcs ((up2 (xs.getD 0 []) (stL m.toNat n.toNat).1 xs.tail k).1)))]⟩] (by kernel_rfl) (by kernel_rfl) (by kernel_rfl) (by kernel_rfl) (by rfl) (by rfl) rfl rfl ?_ ⟨trivial, trivial⟩ ⟨hkL36_0, trivial⟩ ?_ ?_ ?_
        · exact ⟨trivial, trivial, fun _ _ => trivial, trivial⟩
        · exact ⟨fun _ _ _ _ h _ _ => h, fun _ _ _ _ h _ _ => h, fun _ _ _ _ _ _ _ => trivial, trivial⟩
        · refine ⟨?_, ?_, ?_, trivial⟩
          · intro u' W hbW hkp hdp hEd K hK
            have hE0 : Blk W w2.heap.size 24 (bcs ((up2 (xs.getD 0 []) (stL m.toNat n.toNat).1 xs.tail k).1)) := hEd.1
            have hK := Eng.sdv rfl hK
            refine Eng.dv rfl rfl ?_ (hK _ _ (Below.refl _ _) rfl)
            exact (Eng.x_ldB (v := (dg ((up2 (xs.getD 0 []) (stL m.toNat n.toNat).1 xs.tail k).1))) rfl ag24_vz sz24_vz (show Eng.opv 71 u' (.tmp 8) = (.pointer (some ⟨w2.heap.size, 0, none⟩)) from hkp 8 rfl) hE0 ((bcs_length _).trans (up2_len1 _ _ _ _ hd0)) rfl)
          · intro u' W hbW hkp hdp hEd K hK
            have hK := Eng.sdv rfl hK
            refine Eng.dv rfl rfl ?_ (hK _ _ (Below.refl _ _) rfl)
            exact (Eng.x_ldB (v := (dg ((up2 (xs.getD 0 []) (stL m.toNat n.toNat).1 xs.tail k).2))) rfl ag24_vz sz24_vz (show Eng.opv 71 u' (.tmp 9) = (.pointer (some ⟨w3.heap.size, 0, none⟩)) from hkp 9 rfl) (Eng.blk_grL (hkL36_1) hbW (Eng.nin_cons (Nat.ne_of_gt (Nat.lt_of_lt_of_le hz3 (Nat.le_trans (Nat.le_refl _) (Nat.le_refl _)))) Eng.nin_nil)) ((bcs_length _).trans (up2_len2 _ _ _ _ hd0)) rfl)
          · intro u' W hbW hkp hdp hEd K hK
            have e0 : (fun (vQ : Value) (_ : World) => vQ = (dg ((up2 (xs.getD 0 []) (stL m.toNat n.toNat).1 xs.tail k).1))) (u' 69) W := hdp.1
            have hE0 : Blk W w2.heap.size 24 (bcs ((up2 (xs.getD 0 []) (stL m.toNat n.toNat).1 xs.tail k).1)) := hEd.1
            exact Eng.sstB (v := (dg ((up2 (xs.getD 0 []) (stL m.toNat n.toNat).1 xs.tail k).1))) rfl rfl rfl sz24_vz rfl rfl (show Eng.opv 71 u' (.tmp 8) = (.pointer (some ⟨w2.heap.size, 0, none⟩)) from hkp 8 rfl) hE0 ((bcs_length _).trans (up2_len1 _ _ _ _ hd0)) (show Eng.opv 71 u' (.tmp 69) = (dg ((up2 (xs.getD 0 []) (stL m.toNat n.toNat).1 xs.tail k).1)) from e0) rfl ((bcs_length _).trans (up2_len1 _ _ _ _ hd0)) (bcs_one _) hK
        · intro ud71 w71 hb71 hkp71 ⟨f71_0, f71_1, _, _⟩ hBF71
          have hkF71_0 : Blk w71 w2.heap.size 24 (bcs ((up2 (xs.getD 0 []) (stL m.toNat n.toNat).1 xs.tail k).1)) := hBF71.1
          obtain rfl := Eng.collectS (l := [(69, (dg ((up2 (xs.getD 0 []) (stL m.toNat n.toNat).1 xs.tail k).1))), (70, (dg ((up2 (xs.getD 0 []) (stL m.toNat n.toNat).1 xs.tail k).2)))]) hkp71 ⟨f71_0, f71_1, trivial⟩ rfl
          have hk72 := Eng.blk_grL (hkL36_1) hb71 (Eng.nin_cons (Nat.ne_of_gt (Nat.lt_of_lt_of_le hz3 (Nat.le_trans (Nat.le_refl _) (Nat.le_refl _)))) Eng.nin_nil)
          refine Eng.stB (v := (dg ((up2 (xs.getD 0 []) (stL m.toNat n.toNat).1 xs.tail k).2))) rfl rfl rfl sz24_vz rfl hk72 ((bcs_length _).trans (up2_len2 _ _ _ _ hd0)) rfl (cs' := (bcs ((up2 (xs.getD 0 []) (stL m.toNat n.toNat).1 xs.tail k).2))) rfl ((bcs_length _).trans (up2_len2 _ _ _ _ hd0)) (bcs_one _) ?_
          intro w73 hk73 hg73
          refine Eng.sv rfl rfl (Eng.x_as (v := (.int .i64 0)) rfl rfl) ?_
          refine Eng.nil ?_
          refine hK70 _ _ ?_
          refine Eng.rt ?_
          have hk74 := (hkF71_0).grown hg73 (fun e => absurd (Option.some.inj e) (Nat.ne_of_lt (Nat.lt_of_lt_of_le hz3 (Nat.le_trans (Nat.le_refl _) (Nat.le_refl _)))))
          refine Eng.ret (Eng.res3 (v1 := (dg ((up2 (xs.getD 0 []) (stL m.toNat n.toNat).1 xs.tail k).1))) (v2 := (dg ((up2 (xs.getD 0 []) (stL m.toNat n.toNat).1 xs.tail k).2))) (v3 := (.int .i64 0)) rfl (Eng.rdc rfl (Eng.lvB ag24_vz sz24_vz hk74 ((bcs_length _).trans (up2_len1 _ _ _ _ hd0)) rfl)) (Eng.rdc rfl (Eng.lvB ag24_vz sz24_vz hk73 ((bcs_length _).trans (up2_len2 _ _ _ _ hd0)) rfl)) (Eng.rdt rfl)) ?_
          have hB0_9 : Below w.heap.size w w71 := Eng.bel_grL (hBL36) hb71 (hBL36).size (Eng.le_cons (Nat.le_trans (hb2).size (Nat.le_refl _)) Eng.le_nil)
          have hB0_10 : Below w.heap.size w w73 := (hB0_9).grown hg73 (hB0_9).size (fun k e => by cases e; exact Nat.le_trans (hB0_2).size (Nat.le_refl _))
          have hE : rootsE m n xs.length = 0 := by simp [rootsE, hr, show stN m n = xs.length by omega]
          have hkl : k = xs.tail.length := by omega
          have hup : up2 (xs.getD 0 []) (stL m.toNat n.toNat).1 xs.tail k = rootsD d m n xs := by unfold rootsD two; rw [if_pos hE, hw, hkl, ← hLn]; exact up2_all _ _ _ hLn
          exact ⟨by rw [hE, hup], hB0_10⟩
theorem roots_calls (d : List UInt8) (hd : d.length = 32) (m n : Int) (v : Value) (xs : List (List UInt8)) (w : World) (h : Ds w v xs) (hK : Kon w) : Calls Tryd.prog 111 #[dg d, .int .i64 m, .int .i64 n, v] w (fun e w' => e = .returned (.tuple #[dg (rootsD d m n xs).1, dg (rootsD d m n xs).2, .int .i64 (rootsE m n xs.length)]) ∧ Below w.heap.size w w') := by
  rcases Eng.tf (ordB m n) with hr | hr
  · rcases Eng.tf (stL m.toNat n.toNat).2 with hw | hw
    · exact roots_t d hd m n v xs w h hK hr hw
    · exact roots_f d hd m n v xs w h hK hr hw
  · exact roots_no d hd m n v xs w h hK hr
def TwoC (n : Nat) : Prop := ∀ (m : Nat) (d : List UInt8) (v : Value) (xs : List (List UInt8)) (wh : Bool) (w : World), 1 ≤ m → m ≤ n → n ≤ 281474976710656 → d.length = 32 → Ds w v xs → xs.length = (stL m n).1.length + (if wh && (stL m n).2 then 0 else 1) → Calls Tryd.prog 164 #[dg d, .int .i64 (m : Int), .int .i64 (n : Int), v, .bool wh] w (fun e w' => ∃ a b, e = .returned (.tuple #[dg a, dg b]) ∧ a.length = 32 ∧ b.length = 32 ∧ (a, b) = two d (stL m n).1 (wh && (stL m n).2) xs ∧ Below w.heap.size w w')
theorem st_t {m n : Nat} (h1 : 1 ≤ m) (h2 : m < n) (hn : n ≤ 281474976710656) (hm : m ≤ H n) : stL m n = (true :: (stL m (H n)).1, (stL m (H n)).2) := by rw [stL_step m n h1 h2 hn, if_pos hm]
theorem st_f {m n : Nat} (h1 : 1 ≤ m) (h2 : m < n) (hn : n ≤ 281474976710656) (hm : ¬ m ≤ H n) : stL m n = (false :: (stL (m - H n) (n - H n)).1, false) := by rw [stL_step m n h1 h2 hn, if_neg hm]
theorem pair_t {a b x : List UInt8} {p : List UInt8 × List UInt8} (h : (a, b) = p) : (a, nodeS b x) = step2 p (true, x) := by rw [← h]; rfl
theorem pair_f {a b x : List UInt8} {p : List UInt8 × List UInt8} (h : (a, b) = p) : (nodeS x a, nodeS x b) = step2 p (false, x) := by rw [← h]; rfl
set_option maxRecDepth 100000 in
set_option maxHeartbeats 4000000 in
theorem two_step (n : Nat) (ih : ∀ k, k < n → TwoC k) (m : Nat) (d : List UInt8) (v : Value) (xs : List (List UInt8)) (wh : Bool) (w : World) (h1 : 1 ≤ m) (hml : m ≤ n) (hn : n ≤ 281474976710656) (hd : d.length = 32) (h : Ds w v xs) (hx : xs.length = (stL m n).1.length + (if wh && (stL m n).2 then 0 else 1)) : Calls Tryd.prog 164 #[(dg d), (.int .i64 (m : Int)), (.int .i64 (n : Int)), v, (.bool wh)] w (fun e w' => ∃ a b, e = .returned (.tuple #[dg a, dg b]) ∧ a.length = 32 ∧ b.length = 32 ∧ (a, b) = two d (stL m n).1 (wh && (stL m n).2) xs ∧ Below w.heap.size w w') := by
  have hsm := h.1.small
  refine Eng.enter (l := [(dg d), (.int .i64 (m : Int)), (.int .i64 (n : Int)), v, (.bool wh)]) Tryd.func164 rfl 78 rfl (by simp) ?_
  refine Eng.seqk fun K1 hK1 => ?_
  refine Eng.reg ?_
  refine Eng.bo (v := (dg d)) (cs := (bcs d)) rfl rfl rfl rfl rfl ?_
  intro w2 hk2 hb2 hz2
  refine Eng.al rfl rfl rfl zr24_vz (cs := (bcs Oct.dz)) rfl ?_
  intro w3 hk3 hb3 hz3
  refine Eng.al rfl rfl rfl zr24_vz (cs := (bcs Oct.dz)) rfl ?_
  intro w4 hk4 hb4 hz4
  refine Eng.nil ?_
  refine hK1 _ _ ?_
  refine Eng.seqk fun K5 hK5 => ?_
  refine Eng.seqk fun K6 hK6 => ?_
  refine Eng.reg ?_
  refine Eng.sv rfl rfl (Eng.x_mv (v := (.int .i64 (m : Int))) rfl rfl) ?_
  refine Eng.sv rfl rfl (Eng.x_mv (v := (.int .i64 (n : Int))) rfl rfl) ?_
  by_cases h21 : ((m : Int) : Int) = (n : Int)
  · skip
    have hmn : m = n := by omega
    refine Eng.sv rfl rfl (Eng.x_eq (r := true) rfl rfl rfl (Eng.eq_t (by omega))) ?_
    refine Eng.nil ?_
    refine hK6 _ _ ?_
    refine Eng.cond_t rfl ?_
    refine Eng.seqk fun K7 hK7 => ?_
    refine Eng.seqk fun K8 hK8 => ?_
    refine Eng.reg ?_
    refine Eng.sv rfl rfl (Eng.x_mv (v := (.bool wh)) rfl rfl) ?_
    refine Eng.nil ?_
    refine hK8 _ _ ?_
    refine Eng.cond_b rfl (fun hc9 => ?_) (fun hc9 => ?_)
    · skip
      refine Eng.seqk fun K10 hK10 => ?_
      have hk11 := (hk3).below hb4
      have hk13 := ((hk2).below hb3).below hb4
      refine Eng.drawS 3 [fun (vQ : Value) (_ : World) => vQ = (dg d), fun (vQ : Value) (_ : World) => vQ = (dg d), fun (_ : Value) (_ : World) => True] [⟨w2.heap.size, 24, (bcs Oct.dz), [(2, (bcs d))]⟩] (by kernel_rfl) (by kernel_rfl) (by kernel_rfl) (by kernel_rfl) (by rfl) (by rfl) rfl rfl ?_ ⟨trivial, trivial⟩ ⟨hk11, trivial⟩ ?_ ?_ ?_
      · exact ⟨trivial, trivial, fun _ _ => trivial, trivial⟩
      · exact ⟨fun _ _ _ _ h _ _ => h, fun _ _ _ _ h _ _ => h, fun _ _ _ _ _ _ _ => trivial, trivial⟩
      · refine ⟨?_, ?_, ?_, trivial⟩
        · intro u' W hbW hkp hdp hEd K hK
          have hK := Eng.sdv rfl hK
          refine Eng.dv rfl rfl ?_ (hK _ _ (Below.refl _ _) rfl)
          exact (Eng.x_ldB (v := (dg d)) rfl ag24_vz sz24_vz (show Eng.opv 78 u' (.tmp 5) = (.pointer (some ⟨w.heap.size, 0, none⟩)) from hkp 5 rfl) (Eng.blk_grL (hk13) hbW (Eng.nin_cons (Nat.ne_of_lt (Nat.lt_of_lt_of_le hz2 (Nat.le_trans (Nat.le_refl _) (Nat.le_refl _)))) Eng.nin_nil)) ((bcs_length _).trans hd) rfl)
        · intro u' W hbW hkp hdp hEd K hK
          have hK := Eng.sdv rfl hK
          refine Eng.dv rfl rfl ?_ (hK _ _ (Below.refl _ _) rfl)
          exact (Eng.x_ldB (v := (dg d)) rfl ag24_vz sz24_vz (show Eng.opv 78 u' (.tmp 5) = (.pointer (some ⟨w.heap.size, 0, none⟩)) from hkp 5 rfl) (Eng.blk_grL (hk13) hbW (Eng.nin_cons (Nat.ne_of_lt (Nat.lt_of_lt_of_le hz2 (Nat.le_trans (Nat.le_refl _) (Nat.le_refl _)))) Eng.nin_nil)) ((bcs_length _).trans hd) rfl)
        · intro u' W hbW hkp hdp hEd K hK
          have e0 : (fun (vQ : Value) (_ : World) => vQ = (dg d)) (u' 23) W := hdp.1
          have hE0 : Blk W w2.heap.size 24 (bcs Oct.dz) := hEd.1
          exact Eng.sstB (v := (dg d)) rfl rfl rfl sz24_vz rfl rfl (show Eng.opv 78 u' (.tmp 10) = (.pointer (some ⟨w2.heap.size, 0, none⟩)) from hkp 10 rfl) hE0 rfl (show Eng.opv 78 u' (.tmp 23) = (dg d) from e0) rfl ((bcs_length _).trans hd) (bcs_one _) hK
      · intro ud12 w12 hb12 hkp12 ⟨f12_0, f12_1, _, _⟩ hBF12
        have hkF12_0 : Blk w12 w2.heap.size 24 (bcs d) := hBF12.1
        obtain rfl := Eng.collectS (l := [(23, (dg d)), (24, (dg d))]) hkp12 ⟨f12_0, f12_1, trivial⟩ rfl
        have hk14 := Eng.blk_grL (hk4) hb12 (Eng.nin_cons (Nat.ne_of_gt (Nat.lt_of_lt_of_le hz3 (Nat.le_trans (Nat.le_refl _) (Nat.le_refl _)))) Eng.nin_nil)
        refine Eng.stB (v := (dg d)) rfl rfl rfl sz24_vz rfl hk14 rfl rfl (cs' := (bcs d)) rfl ((bcs_length _).trans hd) (bcs_one _) ?_
        intro w15 hk15 hg15
        refine Eng.nil ?_
        refine hK10 _ _ ?_
        refine Eng.rt ?_
        refine Eng.tr ?_
        refine Eng.tr ?_
        have hk16 := (hkF12_0).grown hg15 (fun e => absurd (Option.some.inj e) (Nat.ne_of_lt (Nat.lt_of_lt_of_le hz3 (Nat.le_trans (Nat.le_refl _) (Nat.le_refl _)))))
        refine Eng.ret (Eng.res2 (v1 := (dg d)) (v2 := (dg d)) rfl (Eng.rdc rfl (Eng.lvB ag24_vz sz24_vz hk16 ((bcs_length _).trans hd) rfl)) (Eng.rdc rfl (Eng.lvB ag24_vz sz24_vz hk15 ((bcs_length _).trans hd) rfl))) ?_
        have hB0_2 : Below w.heap.size w w3 := (hb2).trans (hb3.mono (hb2).size)
        have hB0_3 : Below w.heap.size w w4 := (hB0_2).trans (hb4.mono (hB0_2).size)
        have hB0_4 : Below w.heap.size w w12 := Eng.bel_grL (hB0_3) hb12 (hB0_3).size (Eng.le_cons (Nat.le_trans (hb2).size (Nat.le_refl _)) Eng.le_nil)
        have hB0_5 : Below w.heap.size w w15 := (hB0_4).grown hg15 (hB0_4).size (fun k e => by cases e; exact Nat.le_trans (hB0_2).size (Nat.le_refl _))
        have hlA : d.length = 32 := hd
        have hlB : d.length = 32 := hd
        exact ⟨_, _, rfl, hlA, hlB, by rw [hmn, stL_one, hc9]; rfl, hB0_5⟩
    · skip
      refine Eng.skp ?_
      refine hK7 _ _ ?_
      refine Eng.seqk fun K17 hK17 => ?_
      have hk18 := (hk3).below hb4
      have hB0_2 : Below w.heap.size w w3 := (hb2).trans (hb3.mono (hb2).size)
      have hB0_3 : Below w.heap.size w w4 := (hB0_2).trans (hb4.mono (hB0_2).size)
      have hr20 := (h).below hB0_3
      refine Eng.drawS 7 [fun (vQ : Value) (_ : World) => vQ = v, fun (vQ : Value) (_ : World) => vQ = (.pointer (some ((Eng.sAddr v).add (0 * 32)))), fun (vQ : Value) (_ : World) => vQ = (dg ((xs).getD 0 [])), fun (vQ : Value) (_ : World) => vQ = v, fun (vQ : Value) (_ : World) => vQ = (.pointer (some ((Eng.sAddr v).add (0 * 32)))), fun (vQ : Value) (_ : World) => vQ = (dg ((xs).getD 0 [])), fun (_ : Value) (_ : World) => True] [⟨w2.heap.size, 24, (bcs Oct.dz), [(6, (bcs ((xs).getD 0 [])))]⟩] (by kernel_rfl) (by kernel_rfl) (by kernel_rfl) (by kernel_rfl) (by rfl) (by rfl) rfl rfl ?_ ⟨trivial, trivial⟩ ⟨hk18, trivial⟩ ?_ ?_ ?_
      · exact ⟨trivial, trivial, trivial, trivial, trivial, trivial, fun _ _ => trivial, trivial⟩
      · exact ⟨fun _ _ _ _ h _ _ => h, fun _ _ _ _ h _ _ => h, fun _ _ _ _ h _ _ => h, fun _ _ _ _ h _ _ => h, fun _ _ _ _ h _ _ => h, fun _ _ _ _ h _ _ => h, fun _ _ _ _ _ _ _ => trivial, trivial⟩
      · refine ⟨?_, ?_, ?_, ?_, ?_, ?_, ?_, trivial⟩
        · intro u' W hbW hkp hdp hEd K hK
          have hK := Eng.sdv rfl hK
          refine Eng.dv rfl rfl ?_ (hK _ _ (Below.refl _ _) rfl)
          exact (Eng.x_mv (v := v) rfl (show Eng.opv 78 u' (.tmp 3) = v from hkp 3 rfl))
        · intro u' W hbW hkp hdp hEd K hK
          have e0 : (fun (vQ : Value) (_ : World) => vQ = v) (u' 25) W := hdp.1
          have hK := Eng.sdv rfl hK
          refine Eng.dv rfl rfl ?_ (hK _ _ (Below.refl _ _) rfl)
          exact (Eng.x_ia (v := v) (j := 0) rfl Tryd.underlying29 sz24_vz (by decide) (show Eng.opv 78 u' (.tmp 25) = v from e0) rfl (((h).below (Eng.bel_grL (hB0_3) hbW (hB0_3).size (Eng.le_cons (Nat.le_trans (hb2).size (Nat.le_refl _)) Eng.le_nil)))).1 (Dsl.dcs_len _ (((h).below (Eng.bel_grL (hB0_3) hbW (hB0_3).size (Eng.le_cons (Nat.le_trans (hb2).size (Nat.le_refl _)) Eng.le_nil)))).2) (rfl) (by subst hmn; rw [stL_one] at hx; simp_all))
        · intro u' W hbW hkp hdp hEd K hK
          have e1 : (fun (vQ : Value) (_ : World) => vQ = (.pointer (some ((Eng.sAddr v).add (0 * 32))))) (u' 26) W := hdp.1
          have hK := Eng.sdv rfl hK
          refine Eng.dv rfl rfl ?_ (hK _ _ (Below.refl _ _) rfl)
          exact (Eng.x_ldA (v := (dg ((xs).getD 0 []))) rfl ag24_vz sz24_vz (show Eng.opv 78 u' (.tmp 26) = (.pointer (some ((Eng.sAddr v).add (0 * 32)))) from e1) ((bcs_length _).trans (Eng.ds_len hr20 (by subst hmn; rw [stL_one] at hx; simp_all))) (Eng.ds_at ((h).below (Eng.bel_grL (hB0_3) hbW (hB0_3).size (Eng.le_cons (Nat.le_trans (hb2).size (Nat.le_refl _)) Eng.le_nil))) (by subst hmn; rw [stL_one] at hx; simp_all)) rfl)
        · intro u' W hbW hkp hdp hEd K hK
          have hK := Eng.sdv rfl hK
          refine Eng.dv rfl rfl ?_ (hK _ _ (Below.refl _ _) rfl)
          exact (Eng.x_mv (v := v) rfl (show Eng.opv 78 u' (.tmp 3) = v from hkp 3 rfl))
        · intro u' W hbW hkp hdp hEd K hK
          have e3 : (fun (vQ : Value) (_ : World) => vQ = v) (u' 28) W := hdp.1
          have hK := Eng.sdv rfl hK
          refine Eng.dv rfl rfl ?_ (hK _ _ (Below.refl _ _) rfl)
          exact (Eng.x_ia (v := v) (j := 0) rfl Tryd.underlying29 sz24_vz (by decide) (show Eng.opv 78 u' (.tmp 28) = v from e3) rfl (((h).below (Eng.bel_grL (hB0_3) hbW (hB0_3).size (Eng.le_cons (Nat.le_trans (hb2).size (Nat.le_refl _)) Eng.le_nil)))).1 (Dsl.dcs_len _ (((h).below (Eng.bel_grL (hB0_3) hbW (hB0_3).size (Eng.le_cons (Nat.le_trans (hb2).size (Nat.le_refl _)) Eng.le_nil)))).2) (rfl) (by subst hmn; rw [stL_one] at hx; simp_all))
        · intro u' W hbW hkp hdp hEd K hK
          have e4 : (fun (vQ : Value) (_ : World) => vQ = (.pointer (some ((Eng.sAddr v).add (0 * 32))))) (u' 29) W := hdp.1
          have hK := Eng.sdv rfl hK
          refine Eng.dv rfl rfl ?_ (hK _ _ (Below.refl _ _) rfl)
          exact (Eng.x_ldA (v := (dg ((xs).getD 0 []))) rfl ag24_vz sz24_vz (show Eng.opv 78 u' (.tmp 29) = (.pointer (some ((Eng.sAddr v).add (0 * 32)))) from e4) ((bcs_length _).trans (Eng.ds_len hr20 (by subst hmn; rw [stL_one] at hx; simp_all))) (Eng.ds_at ((h).below (Eng.bel_grL (hB0_3) hbW (hB0_3).size (Eng.le_cons (Nat.le_trans (hb2).size (Nat.le_refl _)) Eng.le_nil))) (by subst hmn; rw [stL_one] at hx; simp_all)) rfl)
        · intro u' W hbW hkp hdp hEd K hK
          have e2 : (fun (vQ : Value) (_ : World) => vQ = (dg ((xs).getD 0 []))) (u' 27) W := hdp.1
          have hE0 : Blk W w2.heap.size 24 (bcs Oct.dz) := hEd.1
          exact Eng.sstB (v := (dg ((xs).getD 0 []))) rfl rfl rfl sz24_vz rfl rfl (show Eng.opv 78 u' (.tmp 10) = (.pointer (some ⟨w2.heap.size, 0, none⟩)) from hkp 10 rfl) hE0 rfl (show Eng.opv 78 u' (.tmp 27) = (dg ((xs).getD 0 [])) from e2) rfl ((bcs_length _).trans (Eng.ds_len hr20 (by subst hmn; rw [stL_one] at hx; simp_all))) (bcs_one _) hK
      · intro ud19 w19 hb19 hkp19 ⟨f19_0, f19_1, f19_2, f19_3, f19_4, f19_5, _, _⟩ hBF19
        have hkF19_0 : Blk w19 w2.heap.size 24 (bcs ((xs).getD 0 [])) := hBF19.1
        obtain rfl := Eng.collectS (l := [(25, v), (26, (.pointer (some ((Eng.sAddr v).add (0 * 32))))), (27, (dg ((xs).getD 0 []))), (28, v), (29, (.pointer (some ((Eng.sAddr v).add (0 * 32))))), (30, (dg ((xs).getD 0 [])))]) hkp19 ⟨f19_0, f19_1, f19_2, f19_3, f19_4, f19_5, trivial⟩ rfl
        have hk21 := Eng.blk_grL (hk4) hb19 (Eng.nin_cons (Nat.ne_of_gt (Nat.lt_of_lt_of_le hz3 (Nat.le_trans (Nat.le_refl _) (Nat.le_refl _)))) Eng.nin_nil)
        refine Eng.stB (v := (dg ((xs).getD 0 []))) rfl rfl rfl sz24_vz rfl hk21 rfl rfl (cs' := (bcs ((xs).getD 0 []))) rfl ((bcs_length _).trans (Eng.ds_len hr20 (by subst hmn; rw [stL_one] at hx; simp_all))) (bcs_one _) ?_
        intro w22 hk22 hg22
        refine Eng.nil ?_
        refine hK17 _ _ ?_
        refine Eng.rt ?_
        refine Eng.tr ?_
        have hk23 := (hkF19_0).grown hg22 (fun e => absurd (Option.some.inj e) (Nat.ne_of_lt (Nat.lt_of_lt_of_le hz3 (Nat.le_trans (Nat.le_refl _) (Nat.le_refl _)))))
        refine Eng.ret (Eng.res2 (v1 := (dg ((xs).getD 0 []))) (v2 := (dg ((xs).getD 0 []))) rfl (Eng.rdc rfl (Eng.lvB ag24_vz sz24_vz hk23 ((bcs_length _).trans (Eng.ds_len hr20 (by subst hmn; rw [stL_one] at hx; simp_all))) rfl)) (Eng.rdc rfl (Eng.lvB ag24_vz sz24_vz hk22 ((bcs_length _).trans (Eng.ds_len hr20 (by subst hmn; rw [stL_one] at hx; simp_all))) rfl))) ?_
        have hB0_4 : Below w.heap.size w w19 := Eng.bel_grL (hB0_3) hb19 (hB0_3).size (Eng.le_cons (Nat.le_trans (hb2).size (Nat.le_refl _)) Eng.le_nil)
        have hB0_5 : Below w.heap.size w w22 := (hB0_4).grown hg22 (hB0_4).size (fun k e => by cases e; exact Nat.le_trans (hB0_2).size (Nat.le_refl _))
        have hlA : ((xs).getD 0 []).length = 32 := (Eng.ds_len hr20 (by subst hmn; rw [stL_one] at hx; simp_all))
        have hlB : ((xs).getD 0 []).length = 32 := (Eng.ds_len hr20 (by subst hmn; rw [stL_one] at hx; simp_all))
        exact ⟨_, _, rfl, hlA, hlB, by rw [hmn, stL_one, hc9]; rfl, hB0_5⟩
  · skip
    have hlt : m < n := by omega
    have h2 : 2 ≤ n := by omega
    obtain ⟨q1, q2, q3⟩ := H_spec n h2 hn
    refine Eng.sv rfl rfl (Eng.x_eq (r := false) rfl rfl rfl (Eng.eq_f (by omega))) ?_
    refine Eng.nil ?_
    refine hK6 _ _ ?_
    refine Eng.cond_f rfl ?_
    refine Eng.skp ?_
    refine hK5 _ _ ?_
    refine Eng.seqk fun K24 hK24 => ?_
    refine Eng.reg ?_
    refine Eng.sv rfl rfl (Eng.x_mv (v := (.int .i64 (n : Int))) rfl rfl) ?_
    refine Eng.sc rfl (Eng.xc (vl := [(.int .i64 (n : Int))]) rfl rfl rfl en199_vz) (rhalf_calls n h2 hn _) ?_
    rintro _ _ ⟨rfl, rfl⟩
    have hxp : 1 ≤ xs.length := by rw [stL_step m n h1 hlt hn] at hx; split at hx <;> simp at hx <;> omega
    refine Eng.aft_v rfl ?_
    refine Eng.sv rfl rfl (Eng.x_as (v := (.int .i64 (H n : Int))) rfl rfl) ?_
    refine Eng.nil ?_
    refine hK24 _ _ ?_
    refine Eng.seqk fun K26 hK26 => ?_
    refine Eng.reg ?_
    refine Eng.sv rfl rfl (Eng.x_mv (v := v) rfl rfl) ?_
    refine Eng.sv rfl rfl (Eng.x_mv (v := v) rfl rfl) ?_
    have hB0_2 : Below w.heap.size w w3 := (hb2).trans (hb3.mono (hb2).size)
    have hB0_3 : Below w.heap.size w w4 := (hB0_2).trans (hb4.mono (hB0_2).size)
    have hr27 := (h).below hB0_3
    refine Eng.sv rfl rfl (Eng.x_len (v := v) (r := (xs.length : Int)) rfl Tryd.underlying29 rfl (hr27).1 rfl) ?_
    refine Eng.sv rfl rfl (Eng.x_sub rfl rfl rfl (Eng.w64 (r := ((xs.length - 1 : Nat) : Int)) (by omega))) ?_
    refine Eng.sv rfl rfl (Eng.x_ia (v := v) (j := xs.length - 1) rfl Tryd.underlying29 sz24_vz (by decide) rfl rfl (hr27).1 (Dsl.dcs_len _ (hr27).2) (by omega) (by omega)) ?_
    refine Eng.sv rfl rfl (Eng.x_ldA (v := (dg ((xs).getD (xs.length - 1) []))) rfl ag24_vz sz24_vz rfl ((bcs_length _).trans (Eng.ds_len hr27 (by omega))) (Eng.ds_at hr27 (by omega)) rfl) ?_
    refine Eng.al rfl rfl rfl zr24_vz (cs := (bcs Oct.dz)) rfl ?_
    intro w28 hk28 hb28 hz28
    refine Eng.stB (v := (dg ((xs).getD (xs.length - 1) []))) rfl rfl rfl sz24_vz rfl hk28 rfl rfl (cs' := (bcs ((xs).getD (xs.length - 1) []))) rfl ((bcs_length _).trans (Eng.ds_len hr27 (by omega))) (bcs_one _) ?_
    intro w29 hk29 hg29
    refine Eng.nil ?_
    refine hK26 _ _ ?_
    refine Eng.seqk fun K30 hK30 => ?_
    refine Eng.reg ?_
    refine Eng.sv rfl rfl (Eng.x_mv (v := v) rfl rfl) ?_
    refine Eng.sv rfl rfl (Eng.x_mv (v := v) rfl rfl) ?_
    have hB0_4 : Below w.heap.size w w28 := (hB0_3).trans (hb28.mono (hB0_3).size)
    have hB0_5 : Below w.heap.size w w29 := (hB0_4).grown hg29 (hB0_4).size (fun k e => by cases e; exact Nat.le_trans (hB0_3).size (Nat.le_refl _))
    have hr31 := (h).below hB0_5
    refine Eng.sv rfl rfl (Eng.x_len (v := v) (r := (xs.length : Int)) rfl Tryd.underlying29 rfl (hr31).1 rfl) ?_
    refine Eng.sv rfl rfl (Eng.x_sub rfl rfl rfl (Eng.w64 (r := ((xs.length - 1 : Nat) : Int)) (by omega))) ?_
    have hq32 : Dsl.Ds w (Eng.sCut v 0 (xs.length - 1) 32) (xs.take (xs.length - 1)) := (ds_pre h (by omega))
    refine Eng.sv rfl rfl (Eng.x_sl (v := v) rfl Tryd.underlying29 sz24_vz rfl (hr31).1 0 (xs.length - 1) (.inl ⟨rfl, rfl⟩) (Eng.bd (k := .i64) rfl) (by omega) (by omega)) ?_
    refine Eng.sv rfl rfl (Eng.x_as (v := (Eng.sCut v 0 (xs.length - 1) 32)) rfl rfl) ?_
    refine Eng.nil ?_
    refine hK30 _ _ ?_
    refine Eng.seqk fun K33 hK33 => ?_
    refine Eng.seqk fun K34 hK34 => ?_
    refine Eng.reg ?_
    refine Eng.sv rfl rfl (Eng.x_mv (v := (.int .i64 (m : Int))) rfl rfl) ?_
    refine Eng.sv rfl rfl (Eng.x_mv (v := (.int .i64 (H n : Int))) rfl rfl) ?_
    by_cases h46 : ((m : Int) : Int) ≤ (H n : Int)
    · skip
      have hxs : xs.length = (stL m (H n)).1.length + 1 + (if wh && (stL m (H n)).2 then 0 else 1) := by rw [st_t h1 hlt hn (by omega)] at hx; exact hx
      refine Eng.sv rfl rfl (Eng.x_le (r := true) rfl rfl rfl (decide_eq_true (by omega))) ?_
      refine Eng.nil ?_
      refine hK34 _ _ ?_
      refine Eng.cond_t rfl ?_
      refine Eng.seqk fun K35 hK35 => ?_
      refine Eng.reg ?_
      have hB1_3 : Below w2.heap.size w2 w4 := (hb3).trans (hb4.mono (hb3).size)
      have hk36 := ((((hk2).below hb3).below hb4).below hb28).grown hg29 (fun e => absurd (Option.some.inj e) (Nat.ne_of_lt (Nat.lt_of_lt_of_le hz2 (Nat.le_trans (hB1_3).size (Nat.le_refl _)))))
      refine Eng.sv rfl rfl (Eng.x_ldB (v := (dg d)) rfl ag24_vz sz24_vz rfl hk36 ((bcs_length _).trans hd) rfl) ?_
      refine Eng.sv rfl rfl (Eng.x_mv (v := (.int .i64 (m : Int))) rfl rfl) ?_
      refine Eng.sv rfl rfl (Eng.x_mv (v := (.int .i64 (H n : Int))) rfl rfl) ?_
      refine Eng.sv rfl rfl (Eng.x_mv (v := (Eng.sCut v 0 (xs.length - 1) 32)) rfl rfl) ?_
      refine Eng.sv rfl rfl (Eng.x_mv (v := (.bool wh)) rfl rfl) ?_
      have hr37 := (hq32).below hB0_5
      refine Eng.sc rfl (Eng.xc (vl := [(dg d), (.int .i64 (m : Int)), (.int .i64 (H n : Int)), (Eng.sCut v 0 (xs.length - 1) 32), (.bool wh)]) rfl rfl rfl en164_vz) (ih (H n) (by omega) (m) d _ (xs.take (xs.length - 1)) wh _ (by omega) (by omega) (by omega) hd hr37 (by rw [List.length_take]; (try simp only [Bool.false_and, Bool.false_eq_true, if_false]); omega)) ?_
      rintro _ w38 ⟨a38, b38, rfl, ha38, hc38, he38, hb38⟩
      refine Eng.aft_v rfl ?_
      refine Eng.sv rfl rfl (Eng.x_mv (v := (.tuple #[(dg a38), (dg b38)])) rfl rfl) ?_
      refine Eng.sv rfl rfl (Eng.x_ext (v := (dg a38)) rfl rfl rfl) ?_
      refine Eng.sv rfl rfl (Eng.x_ext (v := (dg b38)) rfl rfl rfl) ?_
      refine Eng.al rfl rfl rfl zr24_vz (cs := (bcs Oct.dz)) rfl ?_
      intro w39 hk39 hb39 hz39
      refine Eng.al rfl rfl rfl zr24_vz (cs := (bcs Oct.dz)) rfl ?_
      intro w40 hk40 hb40 hz40
      have hk41 := (hk39).below hb40
      refine Eng.stB (v := (dg a38)) rfl rfl rfl sz24_vz rfl hk41 rfl rfl (cs' := (bcs a38)) rfl ((bcs_length _).trans ha38) (bcs_one _) ?_
      intro w42 hk42 hg42
      have hk43 := (hk40).grown hg42 (fun e => absurd (Option.some.inj e) (Nat.ne_of_gt (Nat.lt_of_lt_of_le hz39 (Nat.le_trans (Nat.le_refl _) (Nat.le_refl _)))))
      refine Eng.stB (v := (dg b38)) rfl rfl rfl sz24_vz rfl hk43 rfl rfl (cs' := (bcs b38)) rfl ((bcs_length _).trans hc38) (bcs_one _) ?_
      intro w44 hk44 hg44
      refine Eng.nil ?_
      refine hK35 _ _ ?_
      refine Eng.seqk fun K45 hK45 => ?_
      have hk47 := (hk42).grown hg44 (fun e => absurd (Option.some.inj e) (Nat.ne_of_lt (Nat.lt_of_lt_of_le hz39 (Nat.le_trans (Nat.le_refl _) (Nat.le_refl _)))))
      have hk48 := (((((hk29).below hb38).below hb39).below hb40).grown hg42 (fun e => absurd (Option.some.inj e) (Nat.ne_of_lt (Nat.lt_of_lt_of_le hz28 (Nat.le_trans (Nat.le_trans (hg29).size (hb38).size) (Nat.le_refl _)))))).grown hg44 (fun e => absurd (Option.some.inj e) (Nat.ne_of_lt (Nat.lt_of_lt_of_le hz28 (Nat.le_trans (Nat.le_trans (Nat.le_trans (hg29).size (hb38).size) (hb39).size) (Nat.le_refl _)))))
      refine Eng.draw 4 [fun (vQ : Value) (_ : World) => vQ = (dg a38), fun (vQ : Value) (_ : World) => vQ = (dg b38), fun (vQ : Value) (_ : World) => vQ = (dg ((xs).getD (xs.length - 1) [])), fun (vQ : Value) (_ : World) => vQ = (dg (nodeS b38 ((xs).getD (xs.length - 1) [])))] (by kernel_rfl) (by kernel_rfl) (by kernel_rfl) (by kernel_rfl) rfl rfl ?_ ?_ ?_
      · exact ⟨fun _ _ _ h _ => h, fun _ _ _ h _ => h, fun _ _ _ h _ => h, fun _ _ _ h _ => h, trivial⟩
      · refine ⟨?_, ?_, ?_, ?_, trivial⟩
        · intro u' W hbW hkp hdp K hK
          refine Eng.dv rfl rfl ?_ (hK _ _ (Below.refl _ _) rfl)
          exact (Eng.x_ldB (v := (dg a38)) rfl ag24_vz sz24_vz (show Eng.opv 78 u' (.tmp 15) = (.pointer (some ⟨w38.heap.size, 0, none⟩)) from hkp 15 rfl) ((hk47).below hbW) ((bcs_length _).trans ha38) rfl)
        · intro u' W hbW hkp hdp K hK
          refine Eng.dv rfl rfl ?_ (hK _ _ (Below.refl _ _) rfl)
          exact (Eng.x_ldB (v := (dg b38)) rfl ag24_vz sz24_vz (show Eng.opv 78 u' (.tmp 16) = (.pointer (some ⟨w39.heap.size, 0, none⟩)) from hkp 16 rfl) ((hk44).below hbW) ((bcs_length _).trans hc38) rfl)
        · intro u' W hbW hkp hdp K hK
          refine Eng.dv rfl rfl ?_ (hK _ _ (Below.refl _ _) rfl)
          exact (Eng.x_ldB (v := (dg ((xs).getD (xs.length - 1) []))) rfl ag24_vz sz24_vz (show Eng.opv 78 u' (.tmp 13) = (.pointer (some ⟨w4.heap.size, 0, none⟩)) from hkp 13 rfl) ((hk48).below hbW) ((bcs_length _).trans (Eng.ds_len hr27 (by omega))) rfl)
        · intro u' W hbW hkp hdp K hK
          have e1 : (fun (vQ : Value) (_ : World) => vQ = (dg b38)) (u' 57) W := hdp.1
          have e2 : (fun (vQ : Value) (_ : World) => vQ = (dg ((xs).getD (xs.length - 1) []))) (u' 58) W := hdp.2.1
          refine Eng.dc (vs := #[(dg b38), (dg ((xs).getD (xs.length - 1) []))]) rfl ?_ (rnode_calls b38 ((xs).getD (xs.length - 1) []) hc38 (Eng.ds_len hr27 (by omega)) _) ?_
          · exact Eng.xc (xs := #[(Go.Operand.tmp 57), (Go.Operand.tmp 58)]) (vl := [(dg b38), (dg ((xs).getD (xs.length - 1) []))]) rfl rfl (Eng.lc (show Eng.opv 78 u' (.tmp 57) = (dg b38) from e1) (Eng.lc (show Eng.opv 78 u' (.tmp 58) = (dg ((xs).getD (xs.length - 1) [])) from e2) rfl)) en157_vz
          rintro _ W2 ⟨rfl, hb2⟩
          exact Eng.aft_v rfl (hK _ _ hb2 rfl)
      · intro ud46 w46 hb46 hkp46 ⟨f46_0, f46_1, f46_2, f46_3, _⟩
        obtain rfl := Eng.collect (l := [(56, (dg a38)), (57, (dg b38)), (58, (dg ((xs).getD (xs.length - 1) []))), (59, (dg (nodeS b38 ((xs).getD (xs.length - 1) []))))]) hkp46 ⟨f46_0, f46_1, f46_2, f46_3, trivial⟩ rfl
        have hB2_4 : Below w3.heap.size w3 w28 := (hb4).trans (hb28.mono (hb4).size)
        have hB2_5 : Below w3.heap.size w3 w29 := (hB2_4).grown hg29 (hB2_4).size (fun k e => by cases e; exact Nat.le_trans (hb4).size (Nat.le_refl _))
        have hB2_6 : Below w3.heap.size w3 w38 := (hB2_5).trans (hb38.mono (hB2_5).size)
        have hB2_7 : Below w3.heap.size w3 w39 := (hB2_6).trans (hb39.mono (hB2_6).size)
        have hk49 := (((((((((hk3).below hb4).below hb28).grown hg29 (fun e => absurd (Option.some.inj e) (Nat.ne_of_lt (Nat.lt_of_lt_of_le hz3 (Nat.le_trans (hb4).size (Nat.le_refl _)))))).below hb38).below hb39).below hb40).grown hg42 (fun e => absurd (Option.some.inj e) (Nat.ne_of_lt (Nat.lt_of_lt_of_le hz3 (Nat.le_trans (hB2_6).size (Nat.le_refl _)))))).grown hg44 (fun e => absurd (Option.some.inj e) (Nat.ne_of_lt (Nat.lt_of_lt_of_le hz3 (Nat.le_trans (hB2_7).size (Nat.le_refl _)))))).below hb46
        refine Eng.stB (v := (dg a38)) rfl rfl rfl sz24_vz rfl hk49 rfl rfl (cs' := (bcs a38)) rfl ((bcs_length _).trans ha38) (bcs_one _) ?_
        intro w50 hk50 hg50
        have hB3_5 : Below w4.heap.size w4 w29 := (hb28).grown hg29 (hb28).size (fun k e => by cases e; exact Nat.le_trans (Nat.le_refl _) (Nat.le_refl _))
        have hB3_6 : Below w4.heap.size w4 w38 := (hB3_5).trans (hb38.mono (hB3_5).size)
        have hB3_7 : Below w4.heap.size w4 w39 := (hB3_6).trans (hb39.mono (hB3_6).size)
        have hk51 := (((((((((hk4).below hb28).grown hg29 (fun e => absurd (Option.some.inj e) (Nat.ne_of_lt (Nat.lt_of_lt_of_le hz4 (Nat.le_trans (Nat.le_refl _) (Nat.le_refl _)))))).below hb38).below hb39).below hb40).grown hg42 (fun e => absurd (Option.some.inj e) (Nat.ne_of_lt (Nat.lt_of_lt_of_le hz4 (Nat.le_trans (hB3_6).size (Nat.le_refl _)))))).grown hg44 (fun e => absurd (Option.some.inj e) (Nat.ne_of_lt (Nat.lt_of_lt_of_le hz4 (Nat.le_trans (hB3_7).size (Nat.le_refl _)))))).below hb46).grown hg50 (fun e => absurd (Option.some.inj e) (Nat.ne_of_gt (Nat.lt_of_lt_of_le hz3 (Nat.le_trans (Nat.le_refl _) (Nat.le_refl _)))))
        refine Eng.stB (v := (dg (nodeS b38 ((xs).getD (xs.length - 1) [])))) rfl rfl rfl sz24_vz rfl hk51 rfl rfl (cs' := (bcs (nodeS b38 ((xs).getD (xs.length - 1) [])))) rfl ((bcs_length _).trans (nodeS_len _ _)) (bcs_one _) ?_
        intro w52 hk52 hg52
        refine Eng.nil ?_
        refine hK45 _ _ ?_
        refine Eng.rt ?_
        refine Eng.tr ?_
        have hk53 := (hk50).grown hg52 (fun e => absurd (Option.some.inj e) (Nat.ne_of_lt (Nat.lt_of_lt_of_le hz3 (Nat.le_trans (Nat.le_refl _) (Nat.le_refl _)))))
        refine Eng.ret (Eng.res2 (v1 := (dg a38)) (v2 := (dg (nodeS b38 ((xs).getD (xs.length - 1) [])))) rfl (Eng.rdc rfl (Eng.lvB ag24_vz sz24_vz hk53 ((bcs_length _).trans ha38) rfl)) (Eng.rdc rfl (Eng.lvB ag24_vz sz24_vz hk52 ((bcs_length _).trans (nodeS_len _ _)) rfl))) ?_
        have hB0_6 : Below w.heap.size w w38 := (hB0_5).trans (hb38.mono (hB0_5).size)
        have hB0_7 : Below w.heap.size w w39 := (hB0_6).trans (hb39.mono (hB0_6).size)
        have hB0_8 : Below w.heap.size w w40 := (hB0_7).trans (hb40.mono (hB0_7).size)
        have hB0_9 : Below w.heap.size w w42 := (hB0_8).grown hg42 (hB0_8).size (fun k e => by cases e; exact Nat.le_trans (hB0_6).size (Nat.le_refl _))
        have hB0_10 : Below w.heap.size w w44 := (hB0_9).grown hg44 (hB0_9).size (fun k e => by cases e; exact Nat.le_trans (hB0_7).size (Nat.le_refl _))
        have hB0_11 : Below w.heap.size w w46 := (hB0_10).trans (hb46.mono (hB0_10).size)
        have hB0_12 : Below w.heap.size w w50 := (hB0_11).grown hg50 (hB0_11).size (fun k e => by cases e; exact Nat.le_trans (hb2).size (Nat.le_refl _))
        have hB0_13 : Below w.heap.size w w52 := (hB0_12).grown hg52 (hB0_12).size (fun k e => by cases e; exact Nat.le_trans (hB0_2).size (Nat.le_refl _))
        exact ⟨_, _, rfl, ha38, (nodeS_len _ _), by rw [st_t h1 hlt hn (by omega)]; exact (pair_t he38).trans (two_top _ _ _ _ _ (by rw [st_t h1 hlt hn (by omega)] at hx; simpa [Nat.add_assoc, Nat.add_comm, Nat.add_left_comm] using hx)).symm, hB0_13⟩
    · skip
      have hxs : xs.length = (stL (m - H n) (n - H n)).1.length + 1 + 1 := by rw [st_f h1 hlt hn (by omega), Bool.and_false] at hx; exact hx
      refine Eng.sv rfl rfl (Eng.x_le (r := false) rfl rfl rfl (decide_eq_false (by omega))) ?_
      refine Eng.nil ?_
      refine hK34 _ _ ?_
      refine Eng.cond_f rfl ?_
      refine Eng.skp ?_
      refine hK33 _ _ ?_
      refine Eng.seqk fun K54 hK54 => ?_
      refine Eng.reg ?_
      have hB1_3 : Below w2.heap.size w2 w4 := (hb3).trans (hb4.mono (hb3).size)
      have hk55 := ((((hk2).below hb3).below hb4).below hb28).grown hg29 (fun e => absurd (Option.some.inj e) (Nat.ne_of_lt (Nat.lt_of_lt_of_le hz2 (Nat.le_trans (hB1_3).size (Nat.le_refl _)))))
      refine Eng.sv rfl rfl (Eng.x_ldB (v := (dg d)) rfl ag24_vz sz24_vz rfl hk55 ((bcs_length _).trans hd) rfl) ?_
      refine Eng.sv rfl rfl (Eng.x_mv (v := (.int .i64 (m : Int))) rfl rfl) ?_
      refine Eng.sv rfl rfl (Eng.x_mv (v := (.int .i64 (H n : Int))) rfl rfl) ?_
      refine Eng.sv rfl rfl (Eng.x_sub rfl rfl rfl (Eng.w64 (r := ((m - H n : Nat) : Int)) (by omega))) ?_
      refine Eng.sv rfl rfl (Eng.x_mv (v := (.int .i64 (n : Int))) rfl rfl) ?_
      refine Eng.sv rfl rfl (Eng.x_mv (v := (.int .i64 (H n : Int))) rfl rfl) ?_
      refine Eng.sv rfl rfl (Eng.x_sub rfl rfl rfl (Eng.w64 (r := ((n - H n : Nat) : Int)) (by omega))) ?_
      refine Eng.sv rfl rfl (Eng.x_mv (v := (Eng.sCut v 0 (xs.length - 1) 32)) rfl rfl) ?_
      have hr56 := (hq32).below hB0_5
      refine Eng.sc rfl (Eng.xc (vl := [(dg d), (.int .i64 ((m - H n : Nat) : Int)), (.int .i64 ((n - H n : Nat) : Int)), (Eng.sCut v 0 (xs.length - 1) 32), (.bool false)]) rfl rfl rfl en164_vz) (ih (n - H n) (by omega) (m - H n) d _ (xs.take (xs.length - 1)) false _ (by omega) (by omega) (by omega) hd hr56 (by rw [List.length_take]; (try simp only [Bool.false_and, Bool.false_eq_true, if_false]); omega)) ?_
      rintro _ w57 ⟨a57, b57, rfl, ha57, hc57, he57, hb57⟩
      refine Eng.aft_v rfl ?_
      refine Eng.sv rfl rfl (Eng.x_mv (v := (.tuple #[(dg a57), (dg b57)])) rfl rfl) ?_
      refine Eng.sv rfl rfl (Eng.x_ext (v := (dg a57)) rfl rfl rfl) ?_
      refine Eng.sv rfl rfl (Eng.x_ext (v := (dg b57)) rfl rfl rfl) ?_
      refine Eng.al rfl rfl rfl zr24_vz (cs := (bcs Oct.dz)) rfl ?_
      intro w58 hk58 hb58 hz58
      refine Eng.al rfl rfl rfl zr24_vz (cs := (bcs Oct.dz)) rfl ?_
      intro w59 hk59 hb59 hz59
      have hk60 := (hk58).below hb59
      refine Eng.stB (v := (dg a57)) rfl rfl rfl sz24_vz rfl hk60 rfl rfl (cs' := (bcs a57)) rfl ((bcs_length _).trans ha57) (bcs_one _) ?_
      intro w61 hk61 hg61
      have hk62 := (hk59).grown hg61 (fun e => absurd (Option.some.inj e) (Nat.ne_of_gt (Nat.lt_of_lt_of_le hz58 (Nat.le_trans (Nat.le_refl _) (Nat.le_refl _)))))
      refine Eng.stB (v := (dg b57)) rfl rfl rfl sz24_vz rfl hk62 rfl rfl (cs' := (bcs b57)) rfl ((bcs_length _).trans hc57) (bcs_one _) ?_
      intro w63 hk63 hg63
      refine Eng.nil ?_
      refine hK54 _ _ ?_
      refine Eng.seqk fun K64 hK64 => ?_
      have hk66 := (((((hk29).below hb57).below hb58).below hb59).grown hg61 (fun e => absurd (Option.some.inj e) (Nat.ne_of_lt (Nat.lt_of_lt_of_le hz28 (Nat.le_trans (Nat.le_trans (hg29).size (hb57).size) (Nat.le_refl _)))))).grown hg63 (fun e => absurd (Option.some.inj e) (Nat.ne_of_lt (Nat.lt_of_lt_of_le hz28 (Nat.le_trans (Nat.le_trans (Nat.le_trans (hg29).size (hb57).size) (hb58).size) (Nat.le_refl _)))))
      have hk67 := (hk61).grown hg63 (fun e => absurd (Option.some.inj e) (Nat.ne_of_lt (Nat.lt_of_lt_of_le hz58 (Nat.le_trans (Nat.le_refl _) (Nat.le_refl _)))))
      refine Eng.draw 6 [fun (vQ : Value) (_ : World) => vQ = (dg ((xs).getD (xs.length - 1) [])), fun (vQ : Value) (_ : World) => vQ = (dg a57), fun (vQ : Value) (_ : World) => vQ = (dg (nodeS ((xs).getD (xs.length - 1) []) a57)), fun (vQ : Value) (_ : World) => vQ = (dg ((xs).getD (xs.length - 1) [])), fun (vQ : Value) (_ : World) => vQ = (dg b57), fun (vQ : Value) (_ : World) => vQ = (dg (nodeS ((xs).getD (xs.length - 1) []) b57))] (by kernel_rfl) (by kernel_rfl) (by kernel_rfl) (by kernel_rfl) rfl rfl ?_ ?_ ?_
      · exact ⟨fun _ _ _ h _ => h, fun _ _ _ h _ => h, fun _ _ _ h _ => h, fun _ _ _ h _ => h, fun _ _ _ h _ => h, fun _ _ _ h _ => h, trivial⟩
      · refine ⟨?_, ?_, ?_, ?_, ?_, ?_, trivial⟩
        · intro u' W hbW hkp hdp K hK
          refine Eng.dv rfl rfl ?_ (hK _ _ (Below.refl _ _) rfl)
          exact (Eng.x_ldB (v := (dg ((xs).getD (xs.length - 1) []))) rfl ag24_vz sz24_vz (show Eng.opv 78 u' (.tmp 13) = (.pointer (some ⟨w4.heap.size, 0, none⟩)) from hkp 13 rfl) ((hk66).below hbW) ((bcs_length _).trans (Eng.ds_len hr27 (by omega))) rfl)
        · intro u' W hbW hkp hdp K hK
          refine Eng.dv rfl rfl ?_ (hK _ _ (Below.refl _ _) rfl)
          exact (Eng.x_ldB (v := (dg a57)) rfl ag24_vz sz24_vz (show Eng.opv 78 u' (.tmp 17) = (.pointer (some ⟨w57.heap.size, 0, none⟩)) from hkp 17 rfl) ((hk67).below hbW) ((bcs_length _).trans ha57) rfl)
        · intro u' W hbW hkp hdp K hK
          have e0 : (fun (vQ : Value) (_ : World) => vQ = (dg ((xs).getD (xs.length - 1) []))) (u' 72) W := hdp.1
          have e1 : (fun (vQ : Value) (_ : World) => vQ = (dg a57)) (u' 73) W := hdp.2.1
          refine Eng.dc (vs := #[(dg ((xs).getD (xs.length - 1) [])), (dg a57)]) rfl ?_ (rnode_calls ((xs).getD (xs.length - 1) []) a57 (Eng.ds_len hr27 (by omega)) ha57 _) ?_
          · exact Eng.xc (xs := #[(Go.Operand.tmp 72), (Go.Operand.tmp 73)]) (vl := [(dg ((xs).getD (xs.length - 1) [])), (dg a57)]) rfl rfl (Eng.lc (show Eng.opv 78 u' (.tmp 72) = (dg ((xs).getD (xs.length - 1) [])) from e0) (Eng.lc (show Eng.opv 78 u' (.tmp 73) = (dg a57) from e1) rfl)) en157_vz
          rintro _ W2 ⟨rfl, hb2⟩
          exact Eng.aft_v rfl (hK _ _ hb2 rfl)
        · intro u' W hbW hkp hdp K hK
          refine Eng.dv rfl rfl ?_ (hK _ _ (Below.refl _ _) rfl)
          exact (Eng.x_ldB (v := (dg ((xs).getD (xs.length - 1) []))) rfl ag24_vz sz24_vz (show Eng.opv 78 u' (.tmp 13) = (.pointer (some ⟨w4.heap.size, 0, none⟩)) from hkp 13 rfl) ((hk66).below hbW) ((bcs_length _).trans (Eng.ds_len hr27 (by omega))) rfl)
        · intro u' W hbW hkp hdp K hK
          refine Eng.dv rfl rfl ?_ (hK _ _ (Below.refl _ _) rfl)
          exact (Eng.x_ldB (v := (dg b57)) rfl ag24_vz sz24_vz (show Eng.opv 78 u' (.tmp 18) = (.pointer (some ⟨w58.heap.size, 0, none⟩)) from hkp 18 rfl) ((hk63).below hbW) ((bcs_length _).trans hc57) rfl)
        · intro u' W hbW hkp hdp K hK
          have e3 : (fun (vQ : Value) (_ : World) => vQ = (dg ((xs).getD (xs.length - 1) []))) (u' 75) W := hdp.1
          have e4 : (fun (vQ : Value) (_ : World) => vQ = (dg b57)) (u' 76) W := hdp.2.1
          refine Eng.dc (vs := #[(dg ((xs).getD (xs.length - 1) [])), (dg b57)]) rfl ?_ (rnode_calls ((xs).getD (xs.length - 1) []) b57 (Eng.ds_len hr27 (by omega)) hc57 _) ?_
          · exact Eng.xc (xs := #[(Go.Operand.tmp 75), (Go.Operand.tmp 76)]) (vl := [(dg ((xs).getD (xs.length - 1) [])), (dg b57)]) rfl rfl (Eng.lc (show Eng.opv 78 u' (.tmp 75) = (dg ((xs).getD (xs.length - 1) [])) from e3) (Eng.lc (show Eng.opv 78 u' (.tmp 76) = (dg b57) from e4) rfl)) en157_vz
          rintro _ W2 ⟨rfl, hb2⟩
          exact Eng.aft_v rfl (hK _ _ hb2 rfl)
      · intro ud65 w65 hb65 hkp65 ⟨f65_0, f65_1, f65_2, f65_3, f65_4, f65_5, _⟩
        obtain rfl := Eng.collect (l := [(72, (dg ((xs).getD (xs.length - 1) []))), (73, (dg a57)), (74, (dg (nodeS ((xs).getD (xs.length - 1) []) a57))), (75, (dg ((xs).getD (xs.length - 1) []))), (76, (dg b57)), (77, (dg (nodeS ((xs).getD (xs.length - 1) []) b57)))]) hkp65 ⟨f65_0, f65_1, f65_2, f65_3, f65_4, f65_5, trivial⟩ rfl
        have hB2_4 : Below w3.heap.size w3 w28 := (hb4).trans (hb28.mono (hb4).size)
        have hB2_5 : Below w3.heap.size w3 w29 := (hB2_4).grown hg29 (hB2_4).size (fun k e => by cases e; exact Nat.le_trans (hb4).size (Nat.le_refl _))
        have hB2_6 : Below w3.heap.size w3 w57 := (hB2_5).trans (hb57.mono (hB2_5).size)
        have hB2_7 : Below w3.heap.size w3 w58 := (hB2_6).trans (hb58.mono (hB2_6).size)
        have hk68 := (((((((((hk3).below hb4).below hb28).grown hg29 (fun e => absurd (Option.some.inj e) (Nat.ne_of_lt (Nat.lt_of_lt_of_le hz3 (Nat.le_trans (hb4).size (Nat.le_refl _)))))).below hb57).below hb58).below hb59).grown hg61 (fun e => absurd (Option.some.inj e) (Nat.ne_of_lt (Nat.lt_of_lt_of_le hz3 (Nat.le_trans (hB2_6).size (Nat.le_refl _)))))).grown hg63 (fun e => absurd (Option.some.inj e) (Nat.ne_of_lt (Nat.lt_of_lt_of_le hz3 (Nat.le_trans (hB2_7).size (Nat.le_refl _)))))).below hb65
        refine Eng.stB (v := (dg (nodeS ((xs).getD (xs.length - 1) []) a57))) rfl rfl rfl sz24_vz rfl hk68 rfl rfl (cs' := (bcs (nodeS ((xs).getD (xs.length - 1) []) a57))) rfl ((bcs_length _).trans (nodeS_len _ _)) (bcs_one _) ?_
        intro w69 hk69 hg69
        have hB3_5 : Below w4.heap.size w4 w29 := (hb28).grown hg29 (hb28).size (fun k e => by cases e; exact Nat.le_trans (Nat.le_refl _) (Nat.le_refl _))
        have hB3_6 : Below w4.heap.size w4 w57 := (hB3_5).trans (hb57.mono (hB3_5).size)
        have hB3_7 : Below w4.heap.size w4 w58 := (hB3_6).trans (hb58.mono (hB3_6).size)
        have hk70 := (((((((((hk4).below hb28).grown hg29 (fun e => absurd (Option.some.inj e) (Nat.ne_of_lt (Nat.lt_of_lt_of_le hz4 (Nat.le_trans (Nat.le_refl _) (Nat.le_refl _)))))).below hb57).below hb58).below hb59).grown hg61 (fun e => absurd (Option.some.inj e) (Nat.ne_of_lt (Nat.lt_of_lt_of_le hz4 (Nat.le_trans (hB3_6).size (Nat.le_refl _)))))).grown hg63 (fun e => absurd (Option.some.inj e) (Nat.ne_of_lt (Nat.lt_of_lt_of_le hz4 (Nat.le_trans (hB3_7).size (Nat.le_refl _)))))).below hb65).grown hg69 (fun e => absurd (Option.some.inj e) (Nat.ne_of_gt (Nat.lt_of_lt_of_le hz3 (Nat.le_trans (Nat.le_refl _) (Nat.le_refl _)))))
        refine Eng.stB (v := (dg (nodeS ((xs).getD (xs.length - 1) []) b57))) rfl rfl rfl sz24_vz rfl hk70 rfl rfl (cs' := (bcs (nodeS ((xs).getD (xs.length - 1) []) b57))) rfl ((bcs_length _).trans (nodeS_len _ _)) (bcs_one _) ?_
        intro w71 hk71 hg71
        refine Eng.nil ?_
        refine hK64 _ _ ?_
        refine Eng.rt ?_
        have hk72 := (hk69).grown hg71 (fun e => absurd (Option.some.inj e) (Nat.ne_of_lt (Nat.lt_of_lt_of_le hz3 (Nat.le_trans (Nat.le_refl _) (Nat.le_refl _)))))
        refine Eng.ret (Eng.res2 (v1 := (dg (nodeS ((xs).getD (xs.length - 1) []) a57))) (v2 := (dg (nodeS ((xs).getD (xs.length - 1) []) b57))) rfl (Eng.rdc rfl (Eng.lvB ag24_vz sz24_vz hk72 ((bcs_length _).trans (nodeS_len _ _)) rfl)) (Eng.rdc rfl (Eng.lvB ag24_vz sz24_vz hk71 ((bcs_length _).trans (nodeS_len _ _)) rfl))) ?_
        have hB0_6 : Below w.heap.size w w57 := (hB0_5).trans (hb57.mono (hB0_5).size)
        have hB0_7 : Below w.heap.size w w58 := (hB0_6).trans (hb58.mono (hB0_6).size)
        have hB0_8 : Below w.heap.size w w59 := (hB0_7).trans (hb59.mono (hB0_7).size)
        have hB0_9 : Below w.heap.size w w61 := (hB0_8).grown hg61 (hB0_8).size (fun k e => by cases e; exact Nat.le_trans (hB0_6).size (Nat.le_refl _))
        have hB0_10 : Below w.heap.size w w63 := (hB0_9).grown hg63 (hB0_9).size (fun k e => by cases e; exact Nat.le_trans (hB0_7).size (Nat.le_refl _))
        have hB0_11 : Below w.heap.size w w65 := (hB0_10).trans (hb65.mono (hB0_10).size)
        have hB0_12 : Below w.heap.size w w69 := (hB0_11).grown hg69 (hB0_11).size (fun k e => by cases e; exact Nat.le_trans (hb2).size (Nat.le_refl _))
        have hB0_13 : Below w.heap.size w w71 := (hB0_12).grown hg71 (hB0_12).size (fun k e => by cases e; exact Nat.le_trans (hB0_2).size (Nat.le_refl _))
        exact ⟨_, _, rfl, (nodeS_len _ _), (nodeS_len _ _), by rw [st_f h1 hlt hn (by omega), Bool.and_false]; rw [Bool.false_and] at he57; exact (pair_f he57).trans (two_top _ _ _ _ _ (by rw [st_f h1 hlt hn (by omega)] at hx; simpa [Nat.add_assoc, Nat.add_comm, Nat.add_left_comm] using hx)).symm, hB0_13⟩
theorem two_calls (n : Nat) : TwoC n := by
  induction n using Nat.strongRecOn with
  | ind n ih => exact fun m d v xs wh w => two_step n ih m d v xs wh w
theorem twoI {m n : Int} (hr : ordB m n = true) {d : List UInt8} (hd : d.length = 32) {v : Value} {xs : List (List UInt8)} {w : World} (h : Ds w v xs) (hl : stN m n = xs.length) : Calls Tryd.prog 164 #[dg d, .int .i64 m, .int .i64 n, v, .bool true] w fun e w' => ∃ a b, e = .returned (.tuple #[dg a, dg b]) ∧ a.length = 32 ∧ b.length = 32 ∧ (a, b) = rootsD d m n xs ∧ Below w.heap.size w w' := by
  obtain ⟨h1, h2, h3⟩ := ordB_iff.1 hr
  have hE : rootsE m n xs.length = 0 := by simp [rootsE, hr, hl]
  unfold rootsD
  rw [if_pos hE]
  obtain ⟨a, rfl⟩ : ∃ a : Nat, m = (a : Int) := ⟨m.toNat, by omega⟩
  obtain ⟨b, rfl⟩ : ∃ b : Nat, n = (b : Int) := ⟨n.toNat, by omega⟩
  have := two_calls b a d v xs true w (by omega) (by omega) (by omega) hd h (by rw [Bool.true_and]; exact hl.symm)
  simpa only [Bool.true_and, Int.toNat_natCast] using this
set_option maxRecDepth 100000 in
set_option maxHeartbeats 4000000 in
theorem rroots_ok (d : List UInt8) (hd : d.length = 32) (m n : Int) (v : Value) (xs : List (List UInt8)) (w : World) (h : Ds w v xs) (hr : ordB m n = true) : Calls Tryd.prog 112 #[(dg d), (.int .i64 m), (.int .i64 n), v] w (fun e w' => e = .returned (.tuple #[dg (rootsD d m n xs).1, dg (rootsD d m n xs).2, .int .i64 (rootsE m n xs.length)]) ∧ Below w.heap.size w w') := by
  have hsm := h.1.small
  refine Eng.enter (l := [(dg d), (.int .i64 m), (.int .i64 n), v]) Tryd.func112 rfl 42 rfl (by simp) ?_
  refine Eng.seqk fun K1 hK1 => ?_
  refine Eng.reg ?_
  refine Eng.bo (v := (dg d)) (cs := (bcs d)) rfl rfl rfl rfl rfl ?_
  intro w2 hk2 hb2 hz2
  refine Eng.al rfl rfl rfl zr24_vz (cs := (bcs Oct.dz)) rfl ?_
  intro w3 hk3 hb3 hz3
  refine Eng.al rfl rfl rfl zr24_vz (cs := (bcs Oct.dz)) rfl ?_
  intro w4 hk4 hb4 hz4
  refine Eng.sv rfl rfl (Eng.x_as (v := (.int .i64 0)) rfl rfl) ?_
  refine Eng.nil ?_
  refine hK1 _ _ ?_
  refine Eng.seqk fun K5 hK5 => ?_
  refine Eng.reg ?_
  refine Eng.sv rfl rfl (Eng.x_mv (v := (.int .i64 m)) rfl rfl) ?_
  refine Eng.sv rfl rfl (Eng.x_mv (v := (.int .i64 n)) rfl rfl) ?_
  refine Eng.sc rfl (Eng.xc (vl := [(.int .i64 m), (.int .i64 n)]) rfl rfl rfl en126_vz) (rst_ok hr _) ?_
  rintro _ _ ⟨rfl, rfl⟩
  refine Eng.aft_v rfl ?_
  refine Eng.sv rfl rfl (Eng.x_mv (v := (.tuple #[(.int .i64 (stN m n : Int)), (.int .i64 0)])) rfl rfl) ?_
  refine Eng.sv rfl rfl (Eng.x_ext (v := (.int .i64 (stN m n : Int))) rfl rfl rfl) ?_
  refine Eng.sv rfl rfl (Eng.x_ext (v := (.int .i64 0)) rfl rfl rfl) ?_
  refine Eng.sv rfl rfl (Eng.x_as (v := (.int .i64 (stN m n : Int))) rfl rfl) ?_
  refine Eng.sv rfl rfl (Eng.x_as (v := (.int .i64 0)) rfl rfl) ?_
  refine Eng.nil ?_
  refine hK5 _ _ ?_
  refine Eng.seqk fun K7 hK7 => ?_
  refine Eng.seqk fun K8 hK8 => ?_
  refine Eng.reg ?_
  refine Eng.sv rfl rfl (Eng.x_mv (v := (.int .i64 0)) rfl rfl) ?_
  refine Eng.sv rfl rfl (Eng.x_ne (r := false) rfl rfl rfl (Eng.ne_f (by omega))) ?_
  refine Eng.nil ?_
  refine hK8 _ _ ?_
  refine Eng.cond_f rfl ?_
  refine Eng.skp ?_
  refine hK7 _ _ ?_
  refine Eng.seqk fun K9 hK9 => ?_
  refine Eng.seqk fun K10 hK10 => ?_
  refine Eng.reg ?_
  refine Eng.sv rfl rfl (Eng.x_mv (v := v) rfl rfl) ?_
  have hB0_2 : Below w.heap.size w w3 := (hb2).trans (hb3.mono (hb2).size)
  have hB0_3 : Below w.heap.size w w4 := (hB0_2).trans (hb4.mono (hB0_2).size)
  have hr11 := (h).below hB0_3
  refine Eng.sv rfl rfl (Eng.x_len (v := v) (r := (xs.length : Int)) rfl Tryd.underlying29 rfl (hr11).1 rfl) ?_
  refine Eng.sv rfl rfl (Eng.x_mv (v := (.int .i64 (stN m n : Int))) rfl rfl) ?_
  by_cases h29 : ((xs.length : Int) : Int) ≠ (stN m n : Int)
  · skip
    refine Eng.sv rfl rfl (Eng.x_ne (r := true) rfl rfl rfl (Eng.ne_t (by omega))) ?_
    refine Eng.nil ?_
    refine hK10 _ _ ?_
    refine Eng.cond_t rfl ?_
    refine Eng.seqk fun K12 hK12 => ?_
    refine Eng.reg ?_
    refine Eng.sv rfl rfl (Eng.x_build (ps := []) (v := (dg Oct.dz)) rfl rfl (by kernel_rfl)) ?_
    refine Eng.sv rfl rfl (Eng.x_build (ps := []) (v := (dg Oct.dz)) rfl rfl (by kernel_rfl)) ?_
    have hk13 := (hk3).below hb4
    refine Eng.stB (v := (dg Oct.dz)) rfl rfl rfl sz24_vz rfl hk13 rfl rfl (cs' := (bcs Oct.dz)) rfl rfl (bcs_one _) ?_
    intro w14 hk14 hg14
    have hk15 := (hk4).grown hg14 (fun e => absurd (Option.some.inj e) (Nat.ne_of_gt (Nat.lt_of_lt_of_le hz3 (Nat.le_trans (Nat.le_refl _) (Nat.le_refl _)))))
    refine Eng.stB (v := (dg Oct.dz)) rfl rfl rfl sz24_vz rfl hk15 rfl rfl (cs' := (bcs Oct.dz)) rfl rfl (bcs_one _) ?_
    intro w16 hk16 hg16
    refine Eng.sv rfl rfl (Eng.x_as (v := (.int .i64 70)) rfl rfl) ?_
    refine Eng.nil ?_
    refine hK12 _ _ ?_
    refine Eng.rt ?_
    refine Eng.tr ?_
    have hk17 := (hk14).grown hg16 (fun e => absurd (Option.some.inj e) (Nat.ne_of_lt (Nat.lt_of_lt_of_le hz3 (Nat.le_trans (Nat.le_refl _) (Nat.le_refl _)))))
    refine Eng.ret (Eng.res3 (v1 := (dg Oct.dz)) (v2 := (dg Oct.dz)) (v3 := (.int .i64 70)) rfl (Eng.rdc rfl (Eng.lvB ag24_vz sz24_vz hk17 rfl rfl)) (Eng.rdc rfl (Eng.lvB ag24_vz sz24_vz hk16 rfl rfl)) (Eng.rdt rfl)) ?_
    have hB0_4 : Below w.heap.size w w14 := (hB0_3).grown hg14 (hB0_3).size (fun k e => by cases e; exact Nat.le_trans (hb2).size (Nat.le_refl _))
    have hB0_5 : Below w.heap.size w w16 := (hB0_4).grown hg16 (hB0_4).size (fun k e => by cases e; exact Nat.le_trans (hB0_2).size (Nat.le_refl _))
    have hne : stN m n ≠ xs.length := by omega
    exact ⟨by simp [rootsD, rootsE, hr, hne], hB0_5⟩
  · skip
    refine Eng.sv rfl rfl (Eng.x_ne (r := false) rfl rfl rfl (Eng.ne_f (by omega))) ?_
    refine Eng.nil ?_
    refine hK10 _ _ ?_
    refine Eng.cond_f rfl ?_
    refine Eng.skp ?_
    refine hK9 _ _ ?_
    refine Eng.seqk fun K18 hK18 => ?_
    refine Eng.reg ?_
    have hk19 := ((hk2).below hb3).below hb4
    refine Eng.sv rfl rfl (Eng.x_ldB (v := (dg d)) rfl ag24_vz sz24_vz rfl hk19 ((bcs_length _).trans hd) rfl) ?_
    refine Eng.sv rfl rfl (Eng.x_mv (v := (.int .i64 m)) rfl rfl) ?_
    refine Eng.sv rfl rfl (Eng.x_mv (v := (.int .i64 n)) rfl rfl) ?_
    refine Eng.sv rfl rfl (Eng.x_mv (v := v) rfl rfl) ?_
    refine Eng.sc rfl (Eng.xc (vl := [(dg d), (.int .i64 m), (.int .i64 n), v, (.bool true)]) rfl rfl rfl en164_vz) (twoI hr hd hr11 (by omega)) ?_
    rintro _ w20 ⟨a20, b20, rfl, ha20, hc20, he20, hb20⟩
    refine Eng.aft_v rfl ?_
    refine Eng.sv rfl rfl (Eng.x_mv (v := (.tuple #[(dg a20), (dg b20)])) rfl rfl) ?_
    refine Eng.sv rfl rfl (Eng.x_ext (v := (dg a20)) rfl rfl rfl) ?_
    refine Eng.sv rfl rfl (Eng.x_ext (v := (dg b20)) rfl rfl rfl) ?_
    refine Eng.al rfl rfl rfl zr24_vz (cs := (bcs Oct.dz)) rfl ?_
    intro w21 hk21 hb21 hz21
    refine Eng.al rfl rfl rfl zr24_vz (cs := (bcs Oct.dz)) rfl ?_
    intro w22 hk22 hb22 hz22
    have hk23 := (hk21).below hb22
    refine Eng.stB (v := (dg a20)) rfl rfl rfl sz24_vz rfl hk23 rfl rfl (cs' := (bcs a20)) rfl ((bcs_length _).trans ha20) (bcs_one _) ?_
    intro w24 hk24 hg24
    have hk25 := (hk22).grown hg24 (fun e => absurd (Option.some.inj e) (Nat.ne_of_gt (Nat.lt_of_lt_of_le hz21 (Nat.le_trans (Nat.le_refl _) (Nat.le_refl _)))))
    refine Eng.stB (v := (dg b20)) rfl rfl rfl sz24_vz rfl hk25 rfl rfl (cs' := (bcs b20)) rfl ((bcs_length _).trans hc20) (bcs_one _) ?_
    intro w26 hk26 hg26
    refine Eng.nil ?_
    refine hK18 _ _ ?_
    refine Eng.seqk fun K27 hK27 => ?_
    have hB2_4 : Below w3.heap.size w3 w20 := (hb4).trans (hb20.mono (hb4).size)
    have hB2_5 : Below w3.heap.size w3 w21 := (hB2_4).trans (hb21.mono (hB2_4).size)
    have hk28 := ((((((hk3).below hb4).below hb20).below hb21).below hb22).grown hg24 (fun e => absurd (Option.some.inj e) (Nat.ne_of_lt (Nat.lt_of_lt_of_le hz3 (Nat.le_trans (hB2_4).size (Nat.le_refl _)))))).grown hg26 (fun e => absurd (Option.some.inj e) (Nat.ne_of_lt (Nat.lt_of_lt_of_le hz3 (Nat.le_trans (hB2_5).size (Nat.le_refl _)))))
    have hk30 := (hk24).grown hg26 (fun e => absurd (Option.some.inj e) (Nat.ne_of_lt (Nat.lt_of_lt_of_le hz21 (Nat.le_trans (Nat.le_refl _) (Nat.le_refl _)))))
    refine Eng.drawS 3 [fun (vQ : Value) (_ : World) => vQ = (dg a20), fun (vQ : Value) (_ : World) => vQ = (dg b20), fun (_ : Value) (_ : World) => True] [⟨w2.heap.size, 24, (bcs Oct.dz), [(2, (bcs a20))]⟩] (by kernel_rfl) (by kernel_rfl) (by kernel_rfl) (by kernel_rfl) (by rfl) (by rfl) rfl rfl ?_ ⟨trivial, trivial⟩ ⟨hk28, trivial⟩ ?_ ?_ ?_
    · exact ⟨trivial, trivial, fun _ _ => trivial, trivial⟩
    · exact ⟨fun _ _ _ _ h _ _ => h, fun _ _ _ _ h _ _ => h, fun _ _ _ _ _ _ _ => trivial, trivial⟩
    · refine ⟨?_, ?_, ?_, trivial⟩
      · intro u' W hbW hkp hdp hEd K hK
        have hK := Eng.sdv rfl hK
        refine Eng.dv rfl rfl ?_ (hK _ _ (Below.refl _ _) rfl)
        exact (Eng.x_ldB (v := (dg a20)) rfl ag24_vz sz24_vz (show Eng.opv 42 u' (.tmp 13) = (.pointer (some ⟨w20.heap.size, 0, none⟩)) from hkp 13 rfl) (Eng.blk_grL (hk30) hbW (Eng.nin_cons (Nat.ne_of_gt (Nat.lt_of_lt_of_le hz3 (Nat.le_trans (hB2_4).size (Nat.le_refl _)))) Eng.nin_nil)) ((bcs_length _).trans ha20) rfl)
      · intro u' W hbW hkp hdp hEd K hK
        have hK := Eng.sdv rfl hK
        refine Eng.dv rfl rfl ?_ (hK _ _ (Below.refl _ _) rfl)
        exact (Eng.x_ldB (v := (dg b20)) rfl ag24_vz sz24_vz (show Eng.opv 42 u' (.tmp 14) = (.pointer (some ⟨w21.heap.size, 0, none⟩)) from hkp 14 rfl) (Eng.blk_grL (hk26) hbW (Eng.nin_cons (Nat.ne_of_gt (Nat.lt_of_lt_of_le hz3 (Nat.le_trans (hB2_5).size (Nat.le_refl _)))) Eng.nin_nil)) ((bcs_length _).trans hc20) rfl)
      · intro u' W hbW hkp hdp hEd K hK
        have e0 : (fun (vQ : Value) (_ : World) => vQ = (dg a20)) (u' 40) W := hdp.1
        have hE0 : Blk W w2.heap.size 24 (bcs Oct.dz) := hEd.1
        exact Eng.sstB (v := (dg a20)) rfl rfl rfl sz24_vz rfl rfl (show Eng.opv 42 u' (.tmp 8) = (.pointer (some ⟨w2.heap.size, 0, none⟩)) from hkp 8 rfl) hE0 rfl (show Eng.opv 42 u' (.tmp 40) = (dg a20) from e0) rfl ((bcs_length _).trans ha20) (bcs_one _) hK
    · intro ud29 w29 hb29 hkp29 ⟨f29_0, f29_1, _, _⟩ hBF29
      have hkF29_0 : Blk w29 w2.heap.size 24 (bcs a20) := hBF29.1
      obtain rfl := Eng.collectS (l := [(40, (dg a20)), (41, (dg b20))]) hkp29 ⟨f29_0, f29_1, trivial⟩ rfl
      have hB3_5 : Below w4.heap.size w4 w21 := (hb20).trans (hb21.mono (hb20).size)
      have hk31 := Eng.blk_grL ((((((hk4).below hb20).below hb21).below hb22).grown hg24 (fun e => absurd (Option.some.inj e) (Nat.ne_of_lt (Nat.lt_of_lt_of_le hz4 (Nat.le_trans (hb20).size (Nat.le_refl _)))))).grown hg26 (fun e => absurd (Option.some.inj e) (Nat.ne_of_lt (Nat.lt_of_lt_of_le hz4 (Nat.le_trans (hB3_5).size (Nat.le_refl _)))))) hb29 (Eng.nin_cons (Nat.ne_of_gt (Nat.lt_of_lt_of_le hz3 (Nat.le_trans (Nat.le_refl _) (Nat.le_refl _)))) Eng.nin_nil)
      refine Eng.stB (v := (dg b20)) rfl rfl rfl sz24_vz rfl hk31 rfl rfl (cs' := (bcs b20)) rfl ((bcs_length _).trans hc20) (bcs_one _) ?_
      intro w32 hk32 hg32
      refine Eng.sv rfl rfl (Eng.x_as (v := (.int .i64 0)) rfl rfl) ?_
      refine Eng.nil ?_
      refine hK27 _ _ ?_
      refine Eng.rt ?_
      have hk33 := (hkF29_0).grown hg32 (fun e => absurd (Option.some.inj e) (Nat.ne_of_lt (Nat.lt_of_lt_of_le hz3 (Nat.le_trans (Nat.le_refl _) (Nat.le_refl _)))))
      refine Eng.ret (Eng.res3 (v1 := (dg a20)) (v2 := (dg b20)) (v3 := (.int .i64 0)) rfl (Eng.rdc rfl (Eng.lvB ag24_vz sz24_vz hk33 ((bcs_length _).trans ha20) rfl)) (Eng.rdc rfl (Eng.lvB ag24_vz sz24_vz hk32 ((bcs_length _).trans hc20) rfl)) (Eng.rdt rfl)) ?_
      have hB0_4 : Below w.heap.size w w20 := (hB0_3).trans (hb20.mono (hB0_3).size)
      have hB0_5 : Below w.heap.size w w21 := (hB0_4).trans (hb21.mono (hB0_4).size)
      have hB0_6 : Below w.heap.size w w22 := (hB0_5).trans (hb22.mono (hB0_5).size)
      have hB0_7 : Below w.heap.size w w24 := (hB0_6).grown hg24 (hB0_6).size (fun k e => by cases e; exact Nat.le_trans (hB0_4).size (Nat.le_refl _))
      have hB0_8 : Below w.heap.size w w26 := (hB0_7).grown hg26 (hB0_7).size (fun k e => by cases e; exact Nat.le_trans (hB0_5).size (Nat.le_refl _))
      have hB0_9 : Below w.heap.size w w29 := Eng.bel_grL (hB0_8) hb29 (hB0_8).size (Eng.le_cons (Nat.le_trans (hb2).size (Nat.le_refl _)) Eng.le_nil)
      have hB0_10 : Below w.heap.size w w32 := (hB0_9).grown hg32 (hB0_9).size (fun k e => by cases e; exact Nat.le_trans (hB0_2).size (Nat.le_refl _))
      have hE : rootsE m n xs.length = 0 := by simp [rootsE, hr, show stN m n = xs.length by omega]
      exact ⟨by rw [hE, ← he20], hB0_10⟩
set_option maxRecDepth 100000 in
set_option maxHeartbeats 4000000 in
theorem rroots_no (d : List UInt8) (hd : d.length = 32) (m n : Int) (v : Value) (xs : List (List UInt8)) (w : World) (h : Ds w v xs) (hr : ordB m n = false) : Calls Tryd.prog 112 #[(dg d), (.int .i64 m), (.int .i64 n), v] w (fun e w' => e = .returned (.tuple #[dg (rootsD d m n xs).1, dg (rootsD d m n xs).2, .int .i64 (rootsE m n xs.length)]) ∧ Below w.heap.size w w') := by
  have hsm := h.1.small
  refine Eng.enter (l := [(dg d), (.int .i64 m), (.int .i64 n), v]) Tryd.func112 rfl 42 rfl (by simp) ?_
  refine Eng.seqk fun K1 hK1 => ?_
  refine Eng.reg ?_
  refine Eng.bo (v := (dg d)) (cs := (bcs d)) rfl rfl rfl rfl rfl ?_
  intro w2 hk2 hb2 hz2
  refine Eng.al rfl rfl rfl zr24_vz (cs := (bcs Oct.dz)) rfl ?_
  intro w3 hk3 hb3 hz3
  refine Eng.al rfl rfl rfl zr24_vz (cs := (bcs Oct.dz)) rfl ?_
  intro w4 hk4 hb4 hz4
  refine Eng.sv rfl rfl (Eng.x_as (v := (.int .i64 0)) rfl rfl) ?_
  refine Eng.nil ?_
  refine hK1 _ _ ?_
  refine Eng.seqk fun K5 hK5 => ?_
  refine Eng.reg ?_
  refine Eng.sv rfl rfl (Eng.x_mv (v := (.int .i64 m)) rfl rfl) ?_
  refine Eng.sv rfl rfl (Eng.x_mv (v := (.int .i64 n)) rfl rfl) ?_
  refine Eng.sc rfl (Eng.xc (vl := [(.int .i64 m), (.int .i64 n)]) rfl rfl rfl en126_vz) (rst_no hr _) ?_
  rintro _ _ ⟨rfl, rfl⟩
  refine Eng.aft_v rfl ?_
  refine Eng.sv rfl rfl (Eng.x_mv (v := (.tuple #[(.int .i64 0), (.int .i64 40)])) rfl rfl) ?_
  refine Eng.sv rfl rfl (Eng.x_ext (v := (.int .i64 0)) rfl rfl rfl) ?_
  refine Eng.sv rfl rfl (Eng.x_ext (v := (.int .i64 40)) rfl rfl rfl) ?_
  refine Eng.sv rfl rfl (Eng.x_as (v := (.int .i64 0)) rfl rfl) ?_
  refine Eng.sv rfl rfl (Eng.x_as (v := (.int .i64 40)) rfl rfl) ?_
  refine Eng.nil ?_
  refine hK5 _ _ ?_
  refine Eng.seqk fun K7 hK7 => ?_
  refine Eng.seqk fun K8 hK8 => ?_
  refine Eng.reg ?_
  refine Eng.sv rfl rfl (Eng.x_mv (v := (.int .i64 40)) rfl rfl) ?_
  refine Eng.sv rfl rfl (Eng.x_ne (r := true) rfl rfl rfl (Eng.ne_t (by omega))) ?_
  refine Eng.nil ?_
  refine hK8 _ _ ?_
  refine Eng.cond_t rfl ?_
  refine Eng.seqk fun K9 hK9 => ?_
  refine Eng.reg ?_
  refine Eng.sv rfl rfl (Eng.x_build (ps := []) (v := (dg Oct.dz)) rfl rfl (by kernel_rfl)) ?_
  refine Eng.sv rfl rfl (Eng.x_build (ps := []) (v := (dg Oct.dz)) rfl rfl (by kernel_rfl)) ?_
  refine Eng.sv rfl rfl (Eng.x_mv (v := (.int .i64 40)) rfl rfl) ?_
  have hk10 := (hk3).below hb4
  refine Eng.stB (v := (dg Oct.dz)) rfl rfl rfl sz24_vz rfl hk10 rfl rfl (cs' := (bcs Oct.dz)) rfl rfl (bcs_one _) ?_
  intro w11 hk11 hg11
  have hk12 := (hk4).grown hg11 (fun e => absurd (Option.some.inj e) (Nat.ne_of_gt (Nat.lt_of_lt_of_le hz3 (Nat.le_trans (Nat.le_refl _) (Nat.le_refl _)))))
  refine Eng.stB (v := (dg Oct.dz)) rfl rfl rfl sz24_vz rfl hk12 rfl rfl (cs' := (bcs Oct.dz)) rfl rfl (bcs_one _) ?_
  intro w13 hk13 hg13
  refine Eng.sv rfl rfl (Eng.x_as (v := (.int .i64 40)) rfl rfl) ?_
  refine Eng.nil ?_
  refine hK9 _ _ ?_
  refine Eng.rt ?_
  refine Eng.tr ?_
  have hk14 := (hk11).grown hg13 (fun e => absurd (Option.some.inj e) (Nat.ne_of_lt (Nat.lt_of_lt_of_le hz3 (Nat.le_trans (Nat.le_refl _) (Nat.le_refl _)))))
  refine Eng.ret (Eng.res3 (v1 := (dg Oct.dz)) (v2 := (dg Oct.dz)) (v3 := (.int .i64 40)) rfl (Eng.rdc rfl (Eng.lvB ag24_vz sz24_vz hk14 rfl rfl)) (Eng.rdc rfl (Eng.lvB ag24_vz sz24_vz hk13 rfl rfl)) (Eng.rdt rfl)) ?_
  have hB0_2 : Below w.heap.size w w3 := (hb2).trans (hb3.mono (hb2).size)
  have hB0_3 : Below w.heap.size w w4 := (hB0_2).trans (hb4.mono (hB0_2).size)
  have hB0_4 : Below w.heap.size w w11 := (hB0_3).grown hg11 (hB0_3).size (fun k e => by cases e; exact Nat.le_trans (hb2).size (Nat.le_refl _))
  have hB0_5 : Below w.heap.size w w13 := (hB0_4).grown hg13 (hB0_4).size (fun k e => by cases e; exact Nat.le_trans (hB0_2).size (Nat.le_refl _))
  exact ⟨by simp [rootsD, rootsE, hr], hB0_5⟩
theorem rroots_calls (d : List UInt8) (hd : d.length = 32) (m n : Int) (v : Value) (xs : List (List UInt8)) (w : World) (h : Ds w v xs) : Calls Tryd.prog 112 #[dg d, .int .i64 m, .int .i64 n, v] w (fun e w' => e = .returned (.tuple #[dg (rootsD d m n xs).1, dg (rootsD d m n xs).2, .int .i64 (rootsE m n xs.length)]) ∧ Below w.heap.size w w') := by
  rcases Eng.tf (ordB m n) with hr | hr
  · exact rroots_ok d hd m n v xs w h hr
  · exact rroots_no d hd m n v xs w h hr
theorem rootsD_len (d : List UInt8) (hd : d.length = 32) (m n : Int) (xs : List (List UInt8)) (h : All32 xs) : (rootsD d m n xs).1.length = 32 ∧ (rootsD d m n xs).2.length = 32 := by
  unfold rootsD
  split
  · rename_i hE
    refine two_len _ _ _ _ hd ?_
    cases e : (stL m.toNat n.toNat).2 with
    | true => exact .inl rfl
    | false =>
      refine .inr ⟨?_, h⟩
      unfold rootsE at hE
      split at hE
      · split at hE
        · rename_i hs
          have hs : stN m n = xs.length := hs
          unfold stN at hs; rw [e] at hs; simp at hs; omega
        · cases hE
      · cases hE
  · exact ⟨rfl, rfl⟩
set_option maxRecDepth 100000 in
set_option maxHeartbeats 4000000 in
theorem cons_calls (d : List UInt8) (hd : d.length = 32) (m n : Int) (v : Value) (xs : List (List UInt8)) (w : World) (h : Ds w v xs) (r : List UInt8) (hr : r.length = 32) (hK : Kon w) : Calls Tryd.prog 53 #[(.int .i64 m), (.int .i64 n), (dg d), (dg r), v] w (fun e w' => e = .returned (.int .i64 (consE (rootsE m n xs.length) (rootsD d m n xs) (d, r))) ∧ Below w.heap.size w w') := by
  refine Eng.enter (l := [(.int .i64 m), (.int .i64 n), (dg d), (dg r), v]) Tryd.func53 rfl 36 rfl (by simp) ?_
  refine Eng.seqk fun K1 hK1 => ?_
  refine Eng.reg ?_
  refine Eng.bo (v := (dg d)) (cs := (bcs d)) rfl rfl rfl rfl rfl ?_
  intro w2 hk2 hb2 hz2
  refine Eng.bo (v := (dg r)) (cs := (bcs r)) rfl rfl rfl rfl rfl ?_
  intro w3 hk3 hb3 hz3
  refine Eng.sv rfl rfl (Eng.x_as (v := (.int .i64 0)) rfl rfl) ?_
  refine Eng.nil ?_
  refine hK1 _ _ ?_
  refine Eng.seqk fun K4 hK4 => ?_
  refine Eng.reg ?_
  have hk5 := (hk2).below hb3
  refine Eng.sv rfl rfl (Eng.x_ldB (v := (dg d)) rfl ag24_vz sz24_vz rfl hk5 ((bcs_length _).trans hd) rfl) ?_
  refine Eng.sv rfl rfl (Eng.x_mv (v := (.int .i64 m)) rfl rfl) ?_
  refine Eng.sv rfl rfl (Eng.x_mv (v := (.int .i64 n)) rfl rfl) ?_
  refine Eng.sv rfl rfl (Eng.x_mv (v := v) rfl rfl) ?_
  have hB0_2 : Below w.heap.size w w3 := (hb2).trans (hb3.mono (hb2).size)
  have hr6 := (h).below hB0_2
  have hr7 := (hK).below hB0_2
  refine Eng.sc rfl (Eng.xc (vl := [(dg d), (.int .i64 m), (.int .i64 n), v]) rfl rfl rfl en111_vz) (roots_calls d hd m n _ xs _ hr6 hr7) ?_
  rintro _ w8 ⟨rfl, hb8⟩
  refine Eng.aft_v rfl ?_
  refine Eng.sv rfl rfl (Eng.x_mv (v := (.tuple #[(dg ((rootsD d m n xs).1)), (dg ((rootsD d m n xs).2)), (.int .i64 (rootsE m n xs.length))])) rfl rfl) ?_
  refine Eng.sv rfl rfl (Eng.x_ext (v := (dg ((rootsD d m n xs).1))) rfl rfl rfl) ?_
  refine Eng.sv rfl rfl (Eng.x_ext (v := (dg ((rootsD d m n xs).2))) rfl rfl rfl) ?_
  refine Eng.sv rfl rfl (Eng.x_ext (v := (.int .i64 (rootsE m n xs.length))) rfl rfl rfl) ?_
  refine Eng.al rfl rfl rfl zr24_vz (cs := (bcs Oct.dz)) rfl ?_
  intro w9 hk9 hb9 hz9
  refine Eng.al rfl rfl rfl zr24_vz (cs := (bcs Oct.dz)) rfl ?_
  intro w10 hk10 hb10 hz10
  have hk11 := (hk9).below hb10
  refine Eng.stB (v := (dg ((rootsD d m n xs).1))) rfl rfl rfl sz24_vz rfl hk11 rfl rfl (cs' := (bcs ((rootsD d m n xs).1))) rfl ((bcs_length _).trans ((rootsD_len d hd m n xs h.2).1)) (bcs_one _) ?_
  intro w12 hk12 hg12
  have hk13 := (hk10).grown hg12 (fun e => absurd (Option.some.inj e) (Nat.ne_of_gt (Nat.lt_of_lt_of_le hz9 (Nat.le_trans (Nat.le_refl _) (Nat.le_refl _)))))
  refine Eng.stB (v := (dg ((rootsD d m n xs).2))) rfl rfl rfl sz24_vz rfl hk13 rfl rfl (cs' := (bcs ((rootsD d m n xs).2))) rfl ((bcs_length _).trans ((rootsD_len d hd m n xs h.2).2)) (bcs_one _) ?_
  intro w14 hk14 hg14
  refine Eng.sv rfl rfl (Eng.x_as (v := (.int .i64 (rootsE m n xs.length))) rfl rfl) ?_
  refine Eng.nil ?_
  refine hK4 _ _ ?_
  refine Eng.seqk fun K15 hK15 => ?_
  refine Eng.blk ?_
  refine Eng.seqk fun K16 hK16 => ?_
  refine Eng.reg ?_
  refine Eng.sv rfl rfl (Eng.x_mv (v := (.int .i64 (rootsE m n xs.length))) rfl rfl) ?_
  by_cases h25 : ((rootsE m n xs.length) : Int) ≠ 0
  · skip
    refine Eng.sv rfl rfl (Eng.x_ne (r := true) rfl rfl rfl (Eng.ne_t (by omega))) ?_
    refine Eng.sv rfl rfl (Eng.x_as (v := (.bool true)) rfl rfl) ?_
    refine Eng.nil ?_
    refine hK16 _ _ ?_
    refine Eng.cond_t rfl ?_
    refine Eng.seqk fun K17 hK17 => ?_
    refine Eng.reg ?_
    refine Eng.sv rfl rfl (Eng.x_mv (v := (.int .i64 (rootsE m n xs.length))) rfl rfl) ?_
    refine Eng.sv rfl rfl (Eng.x_as (v := (.int .i64 (rootsE m n xs.length))) rfl rfl) ?_
    refine Eng.nil ?_
    refine hK17 _ _ ?_
    refine Eng.rt ?_
    refine Eng.br ?_
    refine Eng.tr ?_
    refine Eng.ret (Eng.res1 (v1 := (.int .i64 (rootsE m n xs.length))) rfl (Eng.rdt rfl)) ?_
    have hB0_3 : Below w.heap.size w w8 := (hB0_2).trans (hb8.mono (hB0_2).size)
    have hB0_4 : Below w.heap.size w w9 := (hB0_3).trans (hb9.mono (hB0_3).size)
    have hB0_5 : Below w.heap.size w w10 := (hB0_4).trans (hb10.mono (hB0_4).size)
    have hB0_6 : Below w.heap.size w w12 := (hB0_5).grown hg12 (hB0_5).size (fun k e => by cases e; exact Nat.le_trans (hB0_3).size (Nat.le_refl _))
    have hB0_7 : Below w.heap.size w w14 := (hB0_6).grown hg14 (hB0_6).size (fun k e => by cases e; exact Nat.le_trans (hB0_4).size (Nat.le_refl _))
    try simp only [ne_eq, Decidable.not_not] at h25
    exact ⟨by simp [consE, h25], hB0_7⟩
  · skip
    refine Eng.sv rfl rfl (Eng.x_ne (r := false) rfl rfl rfl (Eng.ne_f (by omega))) ?_
    refine Eng.sv rfl rfl (Eng.x_as (v := (.bool false)) rfl rfl) ?_
    refine Eng.nil ?_
    refine hK16 _ _ ?_
    refine Eng.cond_f rfl ?_
    refine Eng.seqk fun K18 hK18 => ?_
    refine Eng.reg ?_
    have hk19 := (hk12).grown hg14 (fun e => absurd (Option.some.inj e) (Nat.ne_of_lt (Nat.lt_of_lt_of_le hz9 (Nat.le_trans (Nat.le_refl _) (Nat.le_refl _)))))
    refine Eng.sv rfl rfl (Eng.x_ldB (v := (dg ((rootsD d m n xs).1))) rfl ag24_vz sz24_vz rfl hk19 ((bcs_length _).trans ((rootsD_len d hd m n xs h.2).1)) rfl) ?_
    have hB1_3 : Below w2.heap.size w2 w8 := (hb3).trans (hb8.mono (hb3).size)
    have hB1_4 : Below w2.heap.size w2 w9 := (hB1_3).trans (hb9.mono (hB1_3).size)
    have hk20 := (((((hk5).below hb8).below hb9).below hb10).grown hg12 (fun e => absurd (Option.some.inj e) (Nat.ne_of_lt (Nat.lt_of_lt_of_le hz2 (Nat.le_trans (hB1_3).size (Nat.le_refl _)))))).grown hg14 (fun e => absurd (Option.some.inj e) (Nat.ne_of_lt (Nat.lt_of_lt_of_le hz2 (Nat.le_trans (hB1_4).size (Nat.le_refl _)))))
    refine Eng.sv rfl rfl (Eng.x_ldB (v := (dg d)) rfl ag24_vz sz24_vz rfl hk20 ((bcs_length _).trans hd) rfl) ?_
    by_cases h30 : (((rootsD d m n xs).1) : List UInt8) ≠ d
    · skip
      refine Eng.sv rfl rfl (Eng.x_neA (p := ((rootsD d m n xs).1)) (q := d) (r := true) rfl Tryd.underlying24 Tryd.underlying5 sz5_vz (by kernel_rfl) rfl rfl ((rootsD_len d hd m n xs h.2).1) hd (by simpa using h30)) ?_
      refine Eng.sv rfl rfl (Eng.x_mv (v := (.bool true)) rfl rfl) ?_
      refine Eng.sg (Eng.gf rfl rfl rfl rfl) rfl ?_
      refine Eng.sg (Eng.gf rfl rfl rfl rfl) rfl ?_
      refine Eng.sg (Eng.gf rfl rfl rfl rfl) rfl ?_
      refine Eng.sv rfl rfl (Eng.x_pick (v := (.bool true)) rfl rfl rfl rfl rfl) ?_
      refine Eng.sv rfl rfl (Eng.x_as (v := (.bool true)) rfl rfl) ?_
      refine Eng.nil ?_
      refine hK18 _ _ ?_
      refine Eng.cond_t rfl ?_
      refine Eng.seqk fun K21 hK21 => ?_
      refine Eng.reg ?_
      refine Eng.sv rfl rfl (Eng.x_as (v := (.int .i64 71)) rfl rfl) ?_
      refine Eng.nil ?_
      refine hK21 _ _ ?_
      refine Eng.rt ?_
      refine Eng.br ?_
      refine Eng.tr ?_
      refine Eng.ret (Eng.res1 (v1 := (.int .i64 71)) rfl (Eng.rdt rfl)) ?_
      have hB0_3 : Below w.heap.size w w8 := (hB0_2).trans (hb8.mono (hB0_2).size)
      have hB0_4 : Below w.heap.size w w9 := (hB0_3).trans (hb9.mono (hB0_3).size)
      have hB0_5 : Below w.heap.size w w10 := (hB0_4).trans (hb10.mono (hB0_4).size)
      have hB0_6 : Below w.heap.size w w12 := (hB0_5).grown hg12 (hB0_5).size (fun k e => by cases e; exact Nat.le_trans (hB0_3).size (Nat.le_refl _))
      have hB0_7 : Below w.heap.size w w14 := (hB0_6).grown hg14 (hB0_6).size (fun k e => by cases e; exact Nat.le_trans (hB0_4).size (Nat.le_refl _))
      try simp only [ne_eq, Decidable.not_not] at h25
      try simp only [ne_eq, Decidable.not_not] at h30
      exact ⟨by simp [consE, h25, h30], hB0_7⟩
    · skip
      refine Eng.sv rfl rfl (Eng.x_neA (p := ((rootsD d m n xs).1)) (q := d) (r := false) rfl Tryd.underlying24 Tryd.underlying5 sz5_vz (by kernel_rfl) rfl rfl ((rootsD_len d hd m n xs h.2).1) hd (by simpa using h30)) ?_
      refine Eng.sv rfl rfl (Eng.x_mv (v := (.bool false)) rfl rfl) ?_
      refine Eng.sv (Eng.gt rfl rfl rfl rfl) rfl (Eng.x_ldB (v := (dg ((rootsD d m n xs).2))) rfl ag24_vz sz24_vz rfl hk14 ((bcs_length _).trans ((rootsD_len d hd m n xs h.2).2)) rfl) ?_
      have hB2_4 : Below w3.heap.size w3 w9 := (hb8).trans (hb9.mono (hb8).size)
      have hk22 := (((((hk3).below hb8).below hb9).below hb10).grown hg12 (fun e => absurd (Option.some.inj e) (Nat.ne_of_lt (Nat.lt_of_lt_of_le hz3 (Nat.le_trans (hb8).size (Nat.le_refl _)))))).grown hg14 (fun e => absurd (Option.some.inj e) (Nat.ne_of_lt (Nat.lt_of_lt_of_le hz3 (Nat.le_trans (hB2_4).size (Nat.le_refl _)))))
      refine Eng.sv (Eng.gt rfl rfl rfl rfl) rfl (Eng.x_ldB (v := (dg r)) rfl ag24_vz sz24_vz rfl hk22 ((bcs_length _).trans hr) rfl) ?_
      by_cases h34 : (((rootsD d m n xs).2) : List UInt8) ≠ r
      · skip
        refine Eng.sv (Eng.gt rfl rfl rfl rfl) rfl (Eng.x_neA (p := ((rootsD d m n xs).2)) (q := r) (r := true) rfl Tryd.underlying24 Tryd.underlying5 sz5_vz (by kernel_rfl) rfl rfl ((rootsD_len d hd m n xs h.2).2) hr (by simpa using h34)) ?_
        refine Eng.sv rfl rfl (Eng.x_pick (v := (.bool true)) rfl rfl rfl rfl rfl) ?_
        refine Eng.sv rfl rfl (Eng.x_as (v := (.bool true)) rfl rfl) ?_
        refine Eng.nil ?_
        refine hK18 _ _ ?_
        refine Eng.cond_t rfl ?_
        refine Eng.seqk fun K23 hK23 => ?_
        refine Eng.reg ?_
        refine Eng.sv rfl rfl (Eng.x_as (v := (.int .i64 71)) rfl rfl) ?_
        refine Eng.nil ?_
        refine hK23 _ _ ?_
        refine Eng.rt ?_
        refine Eng.br ?_
        refine Eng.tr ?_
        refine Eng.ret (Eng.res1 (v1 := (.int .i64 71)) rfl (Eng.rdt rfl)) ?_
        have hB0_3 : Below w.heap.size w w8 := (hB0_2).trans (hb8.mono (hB0_2).size)
        have hB0_4 : Below w.heap.size w w9 := (hB0_3).trans (hb9.mono (hB0_3).size)
        have hB0_5 : Below w.heap.size w w10 := (hB0_4).trans (hb10.mono (hB0_4).size)
        have hB0_6 : Below w.heap.size w w12 := (hB0_5).grown hg12 (hB0_5).size (fun k e => by cases e; exact Nat.le_trans (hB0_3).size (Nat.le_refl _))
        have hB0_7 : Below w.heap.size w w14 := (hB0_6).grown hg14 (hB0_6).size (fun k e => by cases e; exact Nat.le_trans (hB0_4).size (Nat.le_refl _))
        try simp only [ne_eq, Decidable.not_not] at h25
        try simp only [ne_eq, Decidable.not_not] at h30
        try simp only [ne_eq, Decidable.not_not] at h34
        exact ⟨by simp [consE, h25, h30, h34], hB0_7⟩
      · skip
        refine Eng.sv (Eng.gt rfl rfl rfl rfl) rfl (Eng.x_neA (p := ((rootsD d m n xs).2)) (q := r) (r := false) rfl Tryd.underlying24 Tryd.underlying5 sz5_vz (by kernel_rfl) rfl rfl ((rootsD_len d hd m n xs h.2).2) hr (by simpa using h34)) ?_
        refine Eng.sv rfl rfl (Eng.x_pick (v := (.bool false)) rfl rfl rfl rfl rfl) ?_
        refine Eng.sv rfl rfl (Eng.x_as (v := (.bool false)) rfl rfl) ?_
        refine Eng.nil ?_
        refine hK18 _ _ ?_
        refine Eng.cond_f rfl ?_
        refine Eng.skp ?_
        refine Eng.nb ?_
        refine hK15 _ _ ?_
        refine Eng.seqk fun K24 hK24 => ?_
        refine Eng.reg ?_
        refine Eng.sv rfl rfl (Eng.x_as (v := (.int .i64 0)) rfl rfl) ?_
        refine Eng.nil ?_
        refine hK24 _ _ ?_
        refine Eng.rt ?_
        refine Eng.ret (Eng.res1 (v1 := (.int .i64 0)) rfl (Eng.rdt rfl)) ?_
        have hB0_3 : Below w.heap.size w w8 := (hB0_2).trans (hb8.mono (hB0_2).size)
        have hB0_4 : Below w.heap.size w w9 := (hB0_3).trans (hb9.mono (hB0_3).size)
        have hB0_5 : Below w.heap.size w w10 := (hB0_4).trans (hb10.mono (hB0_4).size)
        have hB0_6 : Below w.heap.size w w12 := (hB0_5).grown hg12 (hB0_5).size (fun k e => by cases e; exact Nat.le_trans (hB0_3).size (Nat.le_refl _))
        have hB0_7 : Below w.heap.size w w14 := (hB0_6).grown hg14 (hB0_6).size (fun k e => by cases e; exact Nat.le_trans (hB0_4).size (Nat.le_refl _))
        try simp only [ne_eq, Decidable.not_not] at h25
        try simp only [ne_eq, Decidable.not_not] at h30
        try simp only [ne_eq, Decidable.not_not] at h34
        exact ⟨by simp [consE, h25, h30, h34], hB0_7⟩
set_option maxRecDepth 100000 in
set_option maxHeartbeats 4000000 in
theorem rcons_calls (d : List UInt8) (hd : d.length = 32) (m n : Int) (v : Value) (xs : List (List UInt8)) (w : World) (h : Ds w v xs) (r : List UInt8) (hr : r.length = 32) : Calls Tryd.prog 54 #[(.int .i64 m), (.int .i64 n), (dg d), (dg r), v] w (fun e w' => e = .returned (.int .i64 (consE (rootsE m n xs.length) (rootsD d m n xs) (d, r))) ∧ Below w.heap.size w w') := by
  refine Eng.enter (l := [(.int .i64 m), (.int .i64 n), (dg d), (dg r), v]) Tryd.func54 rfl 36 rfl (by simp) ?_
  refine Eng.seqk fun K1 hK1 => ?_
  refine Eng.reg ?_
  refine Eng.bo (v := (dg d)) (cs := (bcs d)) rfl rfl rfl rfl rfl ?_
  intro w2 hk2 hb2 hz2
  refine Eng.bo (v := (dg r)) (cs := (bcs r)) rfl rfl rfl rfl rfl ?_
  intro w3 hk3 hb3 hz3
  refine Eng.sv rfl rfl (Eng.x_as (v := (.int .i64 0)) rfl rfl) ?_
  refine Eng.nil ?_
  refine hK1 _ _ ?_
  refine Eng.seqk fun K4 hK4 => ?_
  refine Eng.reg ?_
  have hk5 := (hk2).below hb3
  refine Eng.sv rfl rfl (Eng.x_ldB (v := (dg d)) rfl ag24_vz sz24_vz rfl hk5 ((bcs_length _).trans hd) rfl) ?_
  refine Eng.sv rfl rfl (Eng.x_mv (v := (.int .i64 m)) rfl rfl) ?_
  refine Eng.sv rfl rfl (Eng.x_mv (v := (.int .i64 n)) rfl rfl) ?_
  refine Eng.sv rfl rfl (Eng.x_mv (v := v) rfl rfl) ?_
  have hB0_2 : Below w.heap.size w w3 := (hb2).trans (hb3.mono (hb2).size)
  have hr6 := (h).below hB0_2
  refine Eng.sc rfl (Eng.xc (vl := [(dg d), (.int .i64 m), (.int .i64 n), v]) rfl rfl rfl en112_vz) (rroots_calls d hd m n _ xs _ hr6) ?_
  rintro _ w7 ⟨rfl, hb7⟩
  refine Eng.aft_v rfl ?_
  refine Eng.sv rfl rfl (Eng.x_mv (v := (.tuple #[(dg ((rootsD d m n xs).1)), (dg ((rootsD d m n xs).2)), (.int .i64 (rootsE m n xs.length))])) rfl rfl) ?_
  refine Eng.sv rfl rfl (Eng.x_ext (v := (dg ((rootsD d m n xs).1))) rfl rfl rfl) ?_
  refine Eng.sv rfl rfl (Eng.x_ext (v := (dg ((rootsD d m n xs).2))) rfl rfl rfl) ?_
  refine Eng.sv rfl rfl (Eng.x_ext (v := (.int .i64 (rootsE m n xs.length))) rfl rfl rfl) ?_
  refine Eng.al rfl rfl rfl zr24_vz (cs := (bcs Oct.dz)) rfl ?_
  intro w8 hk8 hb8 hz8
  refine Eng.al rfl rfl rfl zr24_vz (cs := (bcs Oct.dz)) rfl ?_
  intro w9 hk9 hb9 hz9
  have hk10 := (hk8).below hb9
  refine Eng.stB (v := (dg ((rootsD d m n xs).1))) rfl rfl rfl sz24_vz rfl hk10 rfl rfl (cs' := (bcs ((rootsD d m n xs).1))) rfl ((bcs_length _).trans ((rootsD_len d hd m n xs h.2).1)) (bcs_one _) ?_
  intro w11 hk11 hg11
  have hk12 := (hk9).grown hg11 (fun e => absurd (Option.some.inj e) (Nat.ne_of_gt (Nat.lt_of_lt_of_le hz8 (Nat.le_trans (Nat.le_refl _) (Nat.le_refl _)))))
  refine Eng.stB (v := (dg ((rootsD d m n xs).2))) rfl rfl rfl sz24_vz rfl hk12 rfl rfl (cs' := (bcs ((rootsD d m n xs).2))) rfl ((bcs_length _).trans ((rootsD_len d hd m n xs h.2).2)) (bcs_one _) ?_
  intro w13 hk13 hg13
  refine Eng.sv rfl rfl (Eng.x_as (v := (.int .i64 (rootsE m n xs.length))) rfl rfl) ?_
  refine Eng.nil ?_
  refine hK4 _ _ ?_
  refine Eng.seqk fun K14 hK14 => ?_
  refine Eng.seqk fun K15 hK15 => ?_
  refine Eng.reg ?_
  refine Eng.sv rfl rfl (Eng.x_mv (v := (.int .i64 (rootsE m n xs.length))) rfl rfl) ?_
  by_cases h24 : ((rootsE m n xs.length) : Int) = 0
  · skip
    refine Eng.sv rfl rfl (Eng.x_eq (r := true) rfl rfl rfl (Eng.eq_t (by omega))) ?_
    refine Eng.sv rfl rfl (Eng.x_mv (v := (.bool true)) rfl rfl) ?_
    have hk16 := (hk11).grown hg13 (fun e => absurd (Option.some.inj e) (Nat.ne_of_lt (Nat.lt_of_lt_of_le hz8 (Nat.le_trans (Nat.le_refl _) (Nat.le_refl _)))))
    refine Eng.sv (Eng.gt rfl rfl rfl rfl) rfl (Eng.x_ldB (v := (dg ((rootsD d m n xs).1))) rfl ag24_vz sz24_vz rfl hk16 ((bcs_length _).trans ((rootsD_len d hd m n xs h.2).1)) rfl) ?_
    have hB1_3 : Below w2.heap.size w2 w7 := (hb3).trans (hb7.mono (hb3).size)
    have hB1_4 : Below w2.heap.size w2 w8 := (hB1_3).trans (hb8.mono (hB1_3).size)
    have hk17 := (((((hk5).below hb7).below hb8).below hb9).grown hg11 (fun e => absurd (Option.some.inj e) (Nat.ne_of_lt (Nat.lt_of_lt_of_le hz2 (Nat.le_trans (hB1_3).size (Nat.le_refl _)))))).grown hg13 (fun e => absurd (Option.some.inj e) (Nat.ne_of_lt (Nat.lt_of_lt_of_le hz2 (Nat.le_trans (hB1_4).size (Nat.le_refl _)))))
    refine Eng.sv (Eng.gt rfl rfl rfl rfl) rfl (Eng.x_ldB (v := (dg d)) rfl ag24_vz sz24_vz rfl hk17 ((bcs_length _).trans hd) rfl) ?_
    by_cases h28 : (((rootsD d m n xs).1) : List UInt8) ≠ d
    · skip
      refine Eng.sv (Eng.gt rfl rfl rfl rfl) rfl (Eng.x_neA (p := ((rootsD d m n xs).1)) (q := d) (r := true) rfl Tryd.underlying24 Tryd.underlying5 sz5_vz (by kernel_rfl) rfl rfl ((rootsD_len d hd m n xs h.2).1) hd (by simpa using h28)) ?_
      refine Eng.sv (Eng.gt rfl rfl rfl rfl) rfl (Eng.x_mv (v := (.bool true)) rfl rfl) ?_
      refine Eng.sg (Eng.gf rfl rfl rfl rfl) rfl ?_
      refine Eng.sg (Eng.gf rfl rfl rfl rfl) rfl ?_
      refine Eng.sg (Eng.gf rfl rfl rfl rfl) rfl ?_
      refine Eng.sv (Eng.gt rfl rfl rfl rfl) rfl (Eng.x_pick (v := (.bool true)) rfl rfl rfl rfl rfl) ?_
      refine Eng.sv rfl rfl (Eng.x_pick (v := (.bool true)) rfl rfl rfl rfl rfl) ?_
      refine Eng.nil ?_
      refine hK15 _ _ ?_
      refine Eng.cond_t rfl ?_
      refine Eng.seqk fun K18 hK18 => ?_
      refine Eng.reg ?_
      refine Eng.sv rfl rfl (Eng.x_as (v := (.int .i64 71)) rfl rfl) ?_
      refine Eng.nil ?_
      refine hK18 _ _ ?_
      refine Eng.rt ?_
      refine Eng.tr ?_
      refine Eng.ret (Eng.res1 (v1 := (.int .i64 71)) rfl (Eng.rdt rfl)) ?_
      have hB0_3 : Below w.heap.size w w7 := (hB0_2).trans (hb7.mono (hB0_2).size)
      have hB0_4 : Below w.heap.size w w8 := (hB0_3).trans (hb8.mono (hB0_3).size)
      have hB0_5 : Below w.heap.size w w9 := (hB0_4).trans (hb9.mono (hB0_4).size)
      have hB0_6 : Below w.heap.size w w11 := (hB0_5).grown hg11 (hB0_5).size (fun k e => by cases e; exact Nat.le_trans (hB0_3).size (Nat.le_refl _))
      have hB0_7 : Below w.heap.size w w13 := (hB0_6).grown hg13 (hB0_6).size (fun k e => by cases e; exact Nat.le_trans (hB0_4).size (Nat.le_refl _))
      try simp only [ne_eq, Decidable.not_not] at h24
      try simp only [ne_eq, Decidable.not_not] at h28
      exact ⟨by simp [consE, h24, h28], hB0_7⟩
    · skip
      refine Eng.sv (Eng.gt rfl rfl rfl rfl) rfl (Eng.x_neA (p := ((rootsD d m n xs).1)) (q := d) (r := false) rfl Tryd.underlying24 Tryd.underlying5 sz5_vz (by kernel_rfl) rfl rfl ((rootsD_len d hd m n xs h.2).1) hd (by simpa using h28)) ?_
      refine Eng.sv (Eng.gt rfl rfl rfl rfl) rfl (Eng.x_mv (v := (.bool false)) rfl rfl) ?_
      refine Eng.sv (Eng.gt rfl rfl rfl rfl) rfl (Eng.x_ldB (v := (dg ((rootsD d m n xs).2))) rfl ag24_vz sz24_vz rfl hk13 ((bcs_length _).trans ((rootsD_len d hd m n xs h.2).2)) rfl) ?_
      have hB2_4 : Below w3.heap.size w3 w8 := (hb7).trans (hb8.mono (hb7).size)
      have hk19 := (((((hk3).below hb7).below hb8).below hb9).grown hg11 (fun e => absurd (Option.some.inj e) (Nat.ne_of_lt (Nat.lt_of_lt_of_le hz3 (Nat.le_trans (hb7).size (Nat.le_refl _)))))).grown hg13 (fun e => absurd (Option.some.inj e) (Nat.ne_of_lt (Nat.lt_of_lt_of_le hz3 (Nat.le_trans (hB2_4).size (Nat.le_refl _)))))
      refine Eng.sv (Eng.gt rfl rfl rfl rfl) rfl (Eng.x_ldB (v := (dg r)) rfl ag24_vz sz24_vz rfl hk19 ((bcs_length _).trans hr) rfl) ?_
      by_cases h32 : (((rootsD d m n xs).2) : List UInt8) ≠ r
      · skip
        refine Eng.sv (Eng.gt rfl rfl rfl rfl) rfl (Eng.x_neA (p := ((rootsD d m n xs).2)) (q := r) (r := true) rfl Tryd.underlying24 Tryd.underlying5 sz5_vz (by kernel_rfl) rfl rfl ((rootsD_len d hd m n xs h.2).2) hr (by simpa using h32)) ?_
        refine Eng.sv (Eng.gt rfl rfl rfl rfl) rfl (Eng.x_pick (v := (.bool true)) rfl rfl rfl rfl rfl) ?_
        refine Eng.sv rfl rfl (Eng.x_pick (v := (.bool true)) rfl rfl rfl rfl rfl) ?_
        refine Eng.nil ?_
        refine hK15 _ _ ?_
        refine Eng.cond_t rfl ?_
        refine Eng.seqk fun K20 hK20 => ?_
        refine Eng.reg ?_
        refine Eng.sv rfl rfl (Eng.x_as (v := (.int .i64 71)) rfl rfl) ?_
        refine Eng.nil ?_
        refine hK20 _ _ ?_
        refine Eng.rt ?_
        refine Eng.tr ?_
        refine Eng.ret (Eng.res1 (v1 := (.int .i64 71)) rfl (Eng.rdt rfl)) ?_
        have hB0_3 : Below w.heap.size w w7 := (hB0_2).trans (hb7.mono (hB0_2).size)
        have hB0_4 : Below w.heap.size w w8 := (hB0_3).trans (hb8.mono (hB0_3).size)
        have hB0_5 : Below w.heap.size w w9 := (hB0_4).trans (hb9.mono (hB0_4).size)
        have hB0_6 : Below w.heap.size w w11 := (hB0_5).grown hg11 (hB0_5).size (fun k e => by cases e; exact Nat.le_trans (hB0_3).size (Nat.le_refl _))
        have hB0_7 : Below w.heap.size w w13 := (hB0_6).grown hg13 (hB0_6).size (fun k e => by cases e; exact Nat.le_trans (hB0_4).size (Nat.le_refl _))
        try simp only [ne_eq, Decidable.not_not] at h24
        try simp only [ne_eq, Decidable.not_not] at h28
        try simp only [ne_eq, Decidable.not_not] at h32
        exact ⟨by simp [consE, h24, h28, h32], hB0_7⟩
      · skip
        refine Eng.sv (Eng.gt rfl rfl rfl rfl) rfl (Eng.x_neA (p := ((rootsD d m n xs).2)) (q := r) (r := false) rfl Tryd.underlying24 Tryd.underlying5 sz5_vz (by kernel_rfl) rfl rfl ((rootsD_len d hd m n xs h.2).2) hr (by simpa using h32)) ?_
        refine Eng.sv (Eng.gt rfl rfl rfl rfl) rfl (Eng.x_pick (v := (.bool false)) rfl rfl rfl rfl rfl) ?_
        refine Eng.sv rfl rfl (Eng.x_pick (v := (.bool false)) rfl rfl rfl rfl rfl) ?_
        refine Eng.nil ?_
        refine hK15 _ _ ?_
        refine Eng.cond_f rfl ?_
        refine Eng.skp ?_
        refine hK14 _ _ ?_
        refine Eng.seqk fun K21 hK21 => ?_
        refine Eng.reg ?_
        refine Eng.sv rfl rfl (Eng.x_mv (v := (.int .i64 (rootsE m n xs.length))) rfl rfl) ?_
        refine Eng.sv rfl rfl (Eng.x_as (v := (.int .i64 (rootsE m n xs.length))) rfl rfl) ?_
        refine Eng.nil ?_
        refine hK21 _ _ ?_
        refine Eng.rt ?_
        refine Eng.ret (Eng.res1 (v1 := (.int .i64 (rootsE m n xs.length))) rfl (Eng.rdt rfl)) ?_
        have hB0_3 : Below w.heap.size w w7 := (hB0_2).trans (hb7.mono (hB0_2).size)
        have hB0_4 : Below w.heap.size w w8 := (hB0_3).trans (hb8.mono (hB0_3).size)
        have hB0_5 : Below w.heap.size w w9 := (hB0_4).trans (hb9.mono (hB0_4).size)
        have hB0_6 : Below w.heap.size w w11 := (hB0_5).grown hg11 (hB0_5).size (fun k e => by cases e; exact Nat.le_trans (hB0_3).size (Nat.le_refl _))
        have hB0_7 : Below w.heap.size w w13 := (hB0_6).grown hg13 (hB0_6).size (fun k e => by cases e; exact Nat.le_trans (hB0_4).size (Nat.le_refl _))
        try simp only [ne_eq, Decidable.not_not] at h24
        try simp only [ne_eq, Decidable.not_not] at h28
        try simp only [ne_eq, Decidable.not_not] at h32
        exact ⟨by simp [consE, h24, h28, h32], hB0_7⟩
  · skip
    refine Eng.sv rfl rfl (Eng.x_eq (r := false) rfl rfl rfl (Eng.eq_f (by omega))) ?_
    refine Eng.sv rfl rfl (Eng.x_mv (v := (.bool false)) rfl rfl) ?_
    refine Eng.sg (Eng.gf rfl rfl rfl rfl) rfl ?_
    refine Eng.sg (Eng.gf rfl rfl rfl rfl) rfl ?_
    refine Eng.sg (Eng.gf rfl rfl rfl rfl) rfl ?_
    refine Eng.sg (Eng.gf rfl rfl rfl rfl) rfl ?_
    refine Eng.sg (Eng.gu rfl rfl rfl rfl) rfl ?_
    refine Eng.sg (Eng.gu rfl rfl rfl rfl) rfl ?_
    refine Eng.sg (Eng.gu rfl rfl rfl rfl) rfl ?_
    refine Eng.sg (Eng.gf rfl rfl rfl rfl) rfl ?_
    refine Eng.sv rfl rfl (Eng.x_pick (v := (.bool false)) rfl rfl rfl rfl rfl) ?_
    refine Eng.nil ?_
    refine hK15 _ _ ?_
    refine Eng.cond_f rfl ?_
    refine Eng.skp ?_
    refine hK14 _ _ ?_
    refine Eng.seqk fun K22 hK22 => ?_
    refine Eng.reg ?_
    refine Eng.sv rfl rfl (Eng.x_mv (v := (.int .i64 (rootsE m n xs.length))) rfl rfl) ?_
    refine Eng.sv rfl rfl (Eng.x_as (v := (.int .i64 (rootsE m n xs.length))) rfl rfl) ?_
    refine Eng.nil ?_
    refine hK22 _ _ ?_
    refine Eng.rt ?_
    refine Eng.ret (Eng.res1 (v1 := (.int .i64 (rootsE m n xs.length))) rfl (Eng.rdt rfl)) ?_
    have hB0_3 : Below w.heap.size w w7 := (hB0_2).trans (hb7.mono (hB0_2).size)
    have hB0_4 : Below w.heap.size w w8 := (hB0_3).trans (hb8.mono (hB0_3).size)
    have hB0_5 : Below w.heap.size w w9 := (hB0_4).trans (hb9.mono (hB0_4).size)
    have hB0_6 : Below w.heap.size w w11 := (hB0_5).grown hg11 (hB0_5).size (fun k e => by cases e; exact Nat.le_trans (hB0_3).size (Nat.le_refl _))
    have hB0_7 : Below w.heap.size w w13 := (hB0_6).grown hg13 (hB0_6).size (fun k e => by cases e; exact Nat.le_trans (hB0_4).size (Nat.le_refl _))
    try simp only [ne_eq, Decidable.not_not] at h24
    exact ⟨by simp [consE, h24], hB0_7⟩
end Go.Proofs.YtojenflknjhmkaaDoor.Vfy
