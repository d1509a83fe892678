/- The law package's same, of two proofs that are one; its names. -/
import Derived.Test.YtojenflknjhmkaaWirD
import Derived.Test.YtojenflknjhmkaaEngD
namespace Go.Proofs.Ytojenflknjhmkaa.Sam
open Go Go.RowKit Go.Proofs.Ytojenflknjhmkaa Go.Proofs.Ytojenflknjhmkaa.Cop Go.Proofs.Ytojenflknjhmkaa.Oct Go.Proofs.Ytojenflknjhmkaa.Dsl
set_option linter.unusedVariables false
set_option linter.unusedSimpArgs false
theorem ag3_sam (w : World) : (isAgg 3).run Try.prog w = .ok false w := by kernel_rfl
theorem ag23_sam (w : World) : (isAgg 23).run Try.prog w = .ok false w := by kernel_rfl
theorem sz33_sam : (Try.prog.info? 33).map (fun i => i.size) = some 32 := by kernel_rfl
theorem ag33_sam (w : World) : (isAgg 33).run Try.prog w = .ok true w := by kernel_rfl
theorem sz5_sam : (Try.prog.info? 5).map (fun i => i.size) = some 1 := by kernel_rfl
set_option maxRecDepth 100000 in
set_option maxHeartbeats 4000000 in
theorem same_calls (k f s : Int) (vp vq : Value) (ds : List (List UInt8)) (w : World) (hp : Ds w vp ds) (hq : Ds w vq ds) : Calls Try.prog 6 #[(.agg #[(.int .i64 k), (.int .i64 f), (.int .i64 s), vp]), (.agg #[(.int .i64 k), (.int .i64 f), (.int .i64 s), vq])] w (fun e w' => e = .returned (.bool true) ∧ Below w.heap.size w w') := by
  have hsm := hp.small
  refine Eng.enter (l := [(.agg #[(.int .i64 k), (.int .i64 f), (.int .i64 s), vp]), (.agg #[(.int .i64 k), (.int .i64 f), (.int .i64 s), vq])]) Try.func6 rfl 52 rfl (by simp) ?_
  refine Eng.seqk fun K1 hK1 => ?_
  refine Eng.reg ?_
  refine Eng.bo (cs := [(.int .i64 k), (.int .i64 f), (.int .i64 s), vp]) rfl rfl rfl rfl rfl ?_
  intro w2 hk2 hb2 hz2
  refine Eng.bo (cs := [(.int .i64 k), (.int .i64 f), (.int .i64 s), vq]) rfl rfl rfl rfl rfl ?_
  intro w3 hk3 hb3 hz3
  refine Eng.sv rfl rfl (Eng.x_as (v := (.bool false)) rfl rfl) ?_
  refine Eng.nil ?_
  refine hK1 _ _ ?_
  refine Eng.seqk fun K4 hK4 => ?_
  refine Eng.seqk fun K5 hK5 => ?_
  refine Eng.reg ?_
  refine Eng.sv rfl rfl (Eng.x_fa (v := (.pointer (some ⟨w.heap.size, 0, none⟩))) rfl rfl (by kernel_rfl)) ?_
  have hk6 := (hk2).below hb3
  refine Eng.sv rfl rfl (Eng.x_ld1 (v := (.int .i64 k)) rfl ag3_sam rfl ((hk6).cell 0)) ?_
  refine Eng.sv rfl rfl (Eng.x_fa (v := (.pointer (some ⟨w2.heap.size, 0, none⟩))) rfl rfl (by kernel_rfl)) ?_
  refine Eng.sv rfl rfl (Eng.x_ld1 (v := (.int .i64 k)) rfl ag3_sam rfl ((hk3).cell 0)) ?_
  refine Eng.sv rfl rfl (Eng.x_ne (r := false) rfl rfl rfl (Eng.ne_f (by omega))) ?_
  refine Eng.sv rfl rfl (Eng.x_mv (v := (.bool false)) rfl rfl) ?_
  refine Eng.sv (Eng.gt rfl rfl rfl rfl) rfl (Eng.x_fa (v := (.pointer (some ⟨w.heap.size, 1, none⟩))) rfl rfl (by kernel_rfl)) ?_
  refine Eng.sv (Eng.gt rfl rfl rfl rfl) rfl (Eng.x_ld1 (v := (.int .i64 f)) rfl ag3_sam rfl ((hk6).cell 1)) ?_
  refine Eng.sv (Eng.gt rfl rfl rfl rfl) rfl (Eng.x_fa (v := (.pointer (some ⟨w2.heap.size, 1, none⟩))) rfl rfl (by kernel_rfl)) ?_
  refine Eng.sv (Eng.gt rfl rfl rfl rfl) rfl (Eng.x_ld1 (v := (.int .i64 f)) rfl ag3_sam rfl ((hk3).cell 1)) ?_
  refine Eng.sv (Eng.gt rfl rfl rfl rfl) rfl (Eng.x_ne (r := false) rfl rfl rfl (Eng.ne_f (by omega))) ?_
  refine Eng.sv rfl rfl (Eng.x_pick (v := (.bool false)) rfl rfl rfl rfl rfl) ?_
  refine Eng.sv rfl rfl (Eng.x_mv (v := (.bool false)) rfl rfl) ?_
  refine Eng.sv (Eng.gt rfl rfl rfl rfl) rfl (Eng.x_fa (v := (.pointer (some ⟨w.heap.size, 2, none⟩))) rfl rfl (by kernel_rfl)) ?_
  refine Eng.sv (Eng.gt rfl rfl rfl rfl) rfl (Eng.x_ld1 (v := (.int .i64 s)) rfl ag3_sam rfl ((hk6).cell 2)) ?_
  refine Eng.sv (Eng.gt rfl rfl rfl rfl) rfl (Eng.x_fa (v := (.pointer (some ⟨w2.heap.size, 2, none⟩))) rfl rfl (by kernel_rfl)) ?_
  refine Eng.sv (Eng.gt rfl rfl rfl rfl) rfl (Eng.x_ld1 (v := (.int .i64 s)) rfl ag3_sam rfl ((hk3).cell 2)) ?_
  refine Eng.sv (Eng.gt rfl rfl rfl rfl) rfl (Eng.x_ne (r := false) rfl rfl rfl (Eng.ne_f (by omega))) ?_
  refine Eng.sv rfl rfl (Eng.x_pick (v := (.bool false)) rfl rfl rfl rfl rfl) ?_
  refine Eng.sv rfl rfl (Eng.x_mv (v := (.bool false)) rfl rfl) ?_
  refine Eng.sv (Eng.gt rfl rfl rfl rfl) rfl (Eng.x_fa (v := (.pointer (some ⟨w.heap.size, 3, none⟩))) rfl rfl (by kernel_rfl)) ?_
  refine Eng.sv (Eng.gt rfl rfl rfl rfl) rfl (Eng.x_ld1 (v := vp) rfl ag23_sam rfl ((hk6).cell 3)) ?_
  have hB0_2 : Below w.heap.size w w3 := (hb2).trans (hb3.mono (hb2).size)
  have hr7 := (hp).below hB0_2
  refine Eng.sv (Eng.gt rfl rfl rfl rfl) rfl (Eng.x_len (v := vp) (r := (ds.length : Int)) rfl Try.underlying23 rfl (hr7).1 rfl) ?_
  refine Eng.sv (Eng.gt rfl rfl rfl rfl) rfl (Eng.x_fa (v := (.pointer (some ⟨w2.heap.size, 3, none⟩))) rfl rfl (by kernel_rfl)) ?_
  refine Eng.sv (Eng.gt rfl rfl rfl rfl) rfl (Eng.x_ld1 (v := vq) rfl ag23_sam rfl ((hk3).cell 3)) ?_
  have hr8 := (hq).below hB0_2
  refine Eng.sv (Eng.gt rfl rfl rfl rfl) rfl (Eng.x_len (v := vq) (r := (ds.length : Int)) rfl Try.underlying23 rfl (hr8).1 rfl) ?_
  refine Eng.sv (Eng.gt rfl rfl rfl rfl) rfl (Eng.x_ne (r := false) rfl rfl rfl (Eng.ne_f (by omega))) ?_
  refine Eng.sv rfl rfl (Eng.x_pick (v := (.bool false)) rfl rfl rfl rfl rfl) ?_
  refine Eng.nil ?_
  refine hK5 _ _ ?_
  refine Eng.cond_f rfl ?_
  refine wp_skip ?_
  refine hK4 _ _ ?_
  refine Eng.seqk fun K9 hK9 => ?_
  refine Eng.seqk fun K10 hK10 => ?_
  refine Eng.reg ?_
  refine Eng.sv rfl rfl (Eng.x_as (v := (.int .i64 0)) rfl rfl) ?_
  refine Eng.nil ?_
  refine hK10 _ _ ?_
  refine wp_block ?_
  refine Eng.loopN (fun n u w' => ∃ (i : Nat), n = ds.length - i ∧ i ≤ ds.length ∧ Eng.Has u [(2, (.pointer (some ⟨w.heap.size, 0, none⟩))), (3, (.pointer (some ⟨w2.heap.size, 0, none⟩))), (5, (.int .i64 (i : Int)))] ∧ Below w.heap.size w w' ∧ w3.heap.size ≤ w'.heap.size ∧ Blk w' w.heap.size 25 [(.int .i64 k), (.int .i64 f), (.int .i64 s), vp] ∧ Blk w' w2.heap.size 25 [(.int .i64 k), (.int .i64 f), (.int .i64 s), vq]) _ ⟨0, rfl, by omega, ⟨rfl, rfl, (Eng.ie (by omega)), trivial⟩, hB0_2, (Nat.le_refl _), hk6, hk3⟩ ?_
  rintro _ u11 w11 ⟨i, rfl, hs11_0, hH11, hBL11, hzL11, hkL11_0, hkL11_1⟩ K11 hK11
  obtain ⟨u11, rfl⟩ := hH11.ex
  refine Eng.seqk fun K12 hK12 => ?_
  refine Eng.seqk fun K13 hK13 => ?_
  refine Eng.reg ?_
  refine Eng.sv rfl rfl (Eng.x_mv (v := (.int .i64 (i : Int))) rfl rfl) ?_
  refine Eng.sv rfl rfl (Eng.x_fa (v := (.pointer (some ⟨w.heap.size, 3, none⟩))) rfl rfl (by kernel_rfl)) ?_
  refine Eng.sv rfl rfl (Eng.x_ld1 (v := vp) rfl ag23_sam rfl ((hkL11_0).cell 3)) ?_
  have hr14 := (hp).below hBL11
  refine Eng.sv rfl rfl (Eng.x_len (v := vp) (r := (ds.length : Int)) rfl Try.underlying23 rfl (hr14).1 rfl) ?_
  by_cases h38 : ((i : Int) : Int) < (ds.length : Int)
  · skip
    refine Eng.sv rfl rfl (Eng.x_lt (r := true) rfl rfl rfl (decide_eq_true (by omega))) ?_
    refine Eng.nil ?_
    refine hK13 _ _ ?_
    refine Eng.cond_t rfl ?_
    refine wp_skip ?_
    refine hK12 _ _ ?_
    refine Eng.seqk fun K15 hK15 => ?_
    refine wp_block ?_
    refine Eng.seqk fun K16 hK16 => ?_
    have hr18 := (hq).below hBL11
    refine Eng.draw 11 [fun v _ => v = (.pointer (some ⟨w.heap.size, 3, none⟩)), fun v _ => v = vp, fun v _ => v = (.int .i64 (i : Int)), fun v _ => v = (.pointer (some ((Eng.sAddr vp).add (i * 32)))), fun v _ => v = (dg ((ds).getD i [])), fun v _ => v = (.pointer (some ⟨w2.heap.size, 3, none⟩)), fun v _ => v = vq, fun v _ => v = (.int .i64 (i : Int)), fun v _ => v = (.pointer (some ((Eng.sAddr vq).add (i * 32)))), fun v _ => v = (dg ((ds).getD i [])), fun v _ => v = (.bool false)] (by kernel_rfl) (by kernel_rfl) (by kernel_rfl) (by kernel_rfl) rfl rfl ?_ ?_ ?_
    · exact ⟨fun _ _ _ h _ => h, fun _ _ _ h _ => h, fun _ _ _ h _ => h, fun _ _ _ h _ => h, fun _ _ _ h _ => h, fun _ _ _ h _ => h, fun _ _ _ h _ => h, fun _ _ _ h _ => h, fun _ _ _ h _ => h, fun _ _ _ h _ => h, fun _ _ _ h _ => h, trivial⟩
    · refine ⟨?_, ?_, ?_, ?_, ?_, ?_, ?_, ?_, ?_, ?_, ?_, trivial⟩
      · intro u' W hbW hkp hdp K hK
        refine Eng.dv rfl rfl ?_ (hK _ _ (Below.refl _ _) rfl)
        exact (Eng.x_fa (v := (.pointer (some ⟨w.heap.size, 3, none⟩))) rfl (show Eng.opv 52 u' (.tmp 2) = (.pointer (some ⟨w.heap.size, 0, none⟩)) from hkp 2 rfl) (by kernel_rfl))
      · intro u' W hbW hkp hdp K hK
        have e0 : (fun v _ => v = (.pointer (some ⟨w.heap.size, 3, none⟩))) (u' 41) W := hdp.1
        refine Eng.dv rfl rfl ?_ (hK _ _ (Below.refl _ _) rfl)
        exact (Eng.x_ld1 (v := vp) rfl ag23_sam (show Eng.opv 52 u' (.tmp 41) = (.pointer (some ⟨w.heap.size, 3, none⟩)) from e0) ((((hkL11_0).below hbW)).cell 3))
      · intro u' W hbW hkp hdp K hK
        refine Eng.dv rfl rfl ?_ (hK _ _ (Below.refl _ _) rfl)
        exact (Eng.x_mv (v := (.int .i64 (i : Int))) rfl (show Eng.opv 52 u' (.tmp 5) = (.int .i64 (i : Int)) from hkp 5 rfl))
      · intro u' W hbW hkp hdp K hK
        have e1 : (fun v _ => v = vp) (u' 42) W := hdp.1
        have e2 : (fun v _ => v = (.int .i64 (i : Int))) (u' 43) W := hdp.2.1
        refine Eng.dv rfl rfl ?_ (hK _ _ (Below.refl _ _) rfl)
        exact (Eng.x_ia (v := vp) (j := i) rfl Try.underlying23 sz33_sam (by decide) (show Eng.opv 52 u' (.tmp 42) = vp from e1) (show Eng.opv 52 u' (.tmp 43) = (.int .i64 (i : Int)) from e2) (((hr14).below hbW)).1 (Dsl.dcs_len _ (((hr14).below hbW)).2) (by omega) (by omega))
      · intro u' W hbW hkp hdp K hK
        have e3 : (fun v _ => v = (.pointer (some ((Eng.sAddr vp).add (i * 32))))) (u' 44) W := hdp.1
        refine Eng.dv rfl rfl ?_ (hK _ _ (Below.refl _ _) rfl)
        exact (Eng.x_ldA (v := (dg ((ds).getD i []))) rfl ag33_sam sz33_sam (show Eng.opv 52 u' (.tmp 44) = (.pointer (some ((Eng.sAddr vp).add (i * 32)))) from e3) ((bcs_length _).trans (Eng.ds_len ((hr14).below hbW) (by omega))) (Eng.ds_at ((hr14).below hbW) (by omega)) rfl)
      · intro u' W hbW hkp hdp K hK
        refine Eng.dv rfl rfl ?_ (hK _ _ (Below.refl _ _) rfl)
        exact (Eng.x_fa (v := (.pointer (some ⟨w2.heap.size, 3, none⟩))) rfl (show Eng.opv 52 u' (.tmp 3) = (.pointer (some ⟨w2.heap.size, 0, none⟩)) from hkp 3 rfl) (by kernel_rfl))
      · intro u' W hbW hkp hdp K hK
        have e5 : (fun v _ => v = (.pointer (some ⟨w2.heap.size, 3, none⟩))) (u' 46) W := hdp.1
        refine Eng.dv rfl rfl ?_ (hK _ _ (Below.refl _ _) rfl)
        exact (Eng.x_ld1 (v := vq) rfl ag23_sam (show Eng.opv 52 u' (.tmp 46) = (.pointer (some ⟨w2.heap.size, 3, none⟩)) from e5) ((((hkL11_1).below hbW)).cell 3))
      · intro u' W hbW hkp hdp K hK
        refine Eng.dv rfl rfl ?_ (hK _ _ (Below.refl _ _) rfl)
        exact (Eng.x_mv (v := (.int .i64 (i : Int))) rfl (show Eng.opv 52 u' (.tmp 5) = (.int .i64 (i : Int)) from hkp 5 rfl))
      · intro u' W hbW hkp hdp K hK
        have e6 : (fun v _ => v = vq) (u' 47) W := hdp.1
        have e7 : (fun v _ => v = (.int .i64 (i : Int))) (u' 48) W := hdp.2.1
        refine Eng.dv rfl rfl ?_ (hK _ _ (Below.refl _ _) rfl)
        exact (Eng.x_ia (v := vq) (j := i) rfl Try.underlying23 sz33_sam (by decide) (show Eng.opv 52 u' (.tmp 47) = vq from e6) (show Eng.opv 52 u' (.tmp 48) = (.int .i64 (i : Int)) from e7) (((hr18).below hbW)).1 (Dsl.dcs_len _ (((hr18).below hbW)).2) (by omega) (by omega))
      · intro u' W hbW hkp hdp K hK
        have e8 : (fun v _ => v = (.pointer (some ((Eng.sAddr vq).add (i * 32))))) (u' 49) W := hdp.1
        refine Eng.dv rfl rfl ?_ (hK _ _ (Below.refl _ _) rfl)
        exact (Eng.x_ldA (v := (dg ((ds).getD i []))) rfl ag33_sam sz33_sam (show Eng.opv 52 u' (.tmp 49) = (.pointer (some ((Eng.sAddr vq).add (i * 32)))) from e8) ((bcs_length _).trans (Eng.ds_len ((hr18).below hbW) (by omega))) (Eng.ds_at ((hr18).below hbW) (by omega)) rfl)
      · intro u' W hbW hkp hdp K hK
        have e4 : (fun v _ => v = (dg ((ds).getD i []))) (u' 45) W := hdp.1
        have e9 : (fun v _ => v = (dg ((ds).getD i []))) (u' 50) W := hdp.2.1
        refine Eng.dv rfl rfl ?_ (hK _ _ (Below.refl _ _) rfl)
        exact (Eng.x_neA (p := ((ds).getD i [])) (q := ((ds).getD i [])) (r := false) rfl Try.underlying33 Try.underlying5 sz5_sam (by kernel_rfl) (show Eng.opv 52 u' (.tmp 45) = (dg ((ds).getD i [])) from e4) (show Eng.opv 52 u' (.tmp 50) = (dg ((ds).getD i [])) from e9) (Eng.ds_len ((hr14).below hbW) (by omega)) (Eng.ds_len ((hr18).below hbW) (by omega)) (by simp))
    · intro ud17 w17 hb17 hkp17 ⟨f17_0, f17_1, f17_2, f17_3, f17_4, f17_5, f17_6, f17_7, f17_8, f17_9, f17_10, _⟩
      obtain rfl := Eng.collect (l := [(41, (.pointer (some ⟨w.heap.size, 3, none⟩))), (42, vp), (43, (.int .i64 (i : Int))), (44, (.pointer (some ((Eng.sAddr vp).add (i * 32))))), (45, (dg ((ds).getD i []))), (46, (.pointer (some ⟨w2.heap.size, 3, none⟩))), (47, vq), (48, (.int .i64 (i : Int))), (49, (.pointer (some ((Eng.sAddr vq).add (i * 32))))), (50, (dg ((ds).getD i []))), (51, (.bool false))]) hkp17 ⟨f17_0, f17_1, f17_2, f17_3, f17_4, f17_5, f17_6, f17_7, f17_8, f17_9, f17_10, trivial⟩ rfl
      refine Eng.nil ?_
      refine hK16 _ _ ?_
      refine Eng.cond_f rfl ?_
      refine wp_skip ?_
      refine Eng.nb ?_
      refine hK15 _ _ ?_
      refine Eng.reg ?_
      refine Eng.sv rfl rfl (Eng.x_mv (v := (.int .i64 (i : Int))) rfl rfl) ?_
      refine Eng.sv rfl rfl (Eng.x_add rfl rfl rfl (Eng.w64 (r := ((i : Int) + 1)) (by omega))) ?_
      refine Eng.sv rfl rfl (Eng.x_as (v := (.int .i64 ((i : Int) + 1))) rfl rfl) ?_
      refine Eng.nil ?_
      have hB0_4 : Below w.heap.size w w17 := (hBL11).trans (hb17.mono (hBL11).size)
      have hk19 := (hkL11_0).below hb17
      have hk20 := (hkL11_1).below hb17
      exact hK11 _ _ _ ⟨i + 1, rfl, by omega, ⟨rfl, rfl, (Eng.ie (by omega)), trivial⟩, hB0_4, (Nat.le_trans hzL11 (hb17).size), hk19, hk20⟩ (by omega)
  · skip
    refine Eng.sv rfl rfl (Eng.x_lt (r := false) rfl rfl rfl (decide_eq_false (by omega))) ?_
    refine Eng.nil ?_
    refine hK13 _ _ ?_
    refine Eng.cond_f rfl ?_
    refine wp_exit ?_
    refine Eng.te ?_
    refine Eng.te ?_
    refine Eng.be ?_
    refine hK9 _ _ ?_
    refine Eng.seqk fun K21 hK21 => ?_
    refine Eng.reg ?_
    refine Eng.sv rfl rfl (Eng.x_as (v := (.bool true)) rfl rfl) ?_
    refine Eng.nil ?_
    refine hK21 _ _ ?_
    refine wp_ret ?_
    refine Eng.ret (Eng.res1 (v1 := (.bool true)) rfl (Eng.rdt rfl)) ?_
    exact ⟨rfl, hBL11⟩
set_option maxRecDepth 100000 in
set_option maxHeartbeats 4000000 in
theorem names_calls (w : World) : Calls Try.prog 7 #[] w (fun e w' => e = .returned (.bool true) ∧ w = w') := by
  refine Eng.enter (l := []) Try.func7 rfl 1 rfl (by simp) ?_
  refine Eng.seqk fun K1 hK1 => ?_
  refine Eng.reg ?_
  refine Eng.sv rfl rfl (Eng.x_as (v := (.bool false)) rfl rfl) ?_
  refine Eng.nil ?_
  refine hK1 _ _ ?_
  refine Eng.seqk fun K2 hK2 => ?_
  refine Eng.reg ?_
  refine Eng.sv rfl rfl (Eng.x_as (v := (.bool true)) rfl rfl) ?_
  refine Eng.nil ?_
  refine hK2 _ _ ?_
  refine wp_ret ?_
  refine Eng.ret (Eng.res1 (v1 := (.bool true)) rfl (Eng.rdt rfl)) ?_
  exact ⟨rfl, rfl⟩
end Go.Proofs.Ytojenflknjhmkaa.Sam
