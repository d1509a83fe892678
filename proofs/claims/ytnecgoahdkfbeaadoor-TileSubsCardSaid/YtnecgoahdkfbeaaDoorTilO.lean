/- Valid tiles, the tile of a node: the program's and the reference's. -/
import Derived.Test.YtnecgoahdkfbeaaDoorTilH
import Derived.Test.YtnecgoahdkfbeaaDoorEngS
namespace Go.Proofs.YtnecgoahdkfbeaaDoor.Tid
open Go Go.RowKit Go.Proofs.YtnecgoahdkfbeaaDoor.Cop
set_option linter.unusedVariables false
set_option linter.unusedSimpArgs false
theorem ag3_to (w : World) : (isAgg 3).run Tryd.prog w = .ok false w := by kernel_rfl
theorem en49_to : Eng.Entr Tryd.prog 49 := ⟨_, Tryd.func49, by kernel_rfl, by kernel_rfl⟩
theorem en54_to : Eng.Entr Tryd.prog 54 := ⟨_, Tryd.func54, by kernel_rfl, by kernel_rfl⟩
theorem zr23_to (w : World) : (zeroValue 23).run Tryd.prog w = .ok (.agg #[(.int .i64 0), (.int .i64 0), (.int .i64 0), (.int .i64 0)]) w := by kernel_rfl
theorem ag23_to (w : World) : (isAgg 23).run Tryd.prog w = .ok true w := by kernel_rfl
theorem sz23_to : (Tryd.prog.info? 23).map (fun i => i.size) = some 4 := by kernel_rfl
theorem ag38_to (w : World) : (isAgg 38).run Tryd.prog w = .ok true w := by kernel_rfl
theorem sz38_to : (Tryd.prog.info? 38).map (fun i => i.size) = some 2 := by kernel_rfl
set_option maxRecDepth 100000 in
set_option maxHeartbeats 4000000 in
theorem tvalid_calls (h l i w_ : Int) (w : World) : Calls Tryd.prog 15 #[(.agg #[(.int .i64 h), (.int .i64 l), (.int .i64 i), (.int .i64 w_)])] w (fun e w' => e = .returned (.bool (tv h l i w_)) ∧ Below w.heap.size w w') := by
  refine Eng.enter (l := [(.agg #[(.int .i64 h), (.int .i64 l), (.int .i64 i), (.int .i64 w_)])]) Tryd.func15 rfl 59 rfl (by simp) ?_
  refine Eng.seqk fun K1 hK1 => ?_
  refine Eng.reg ?_
  refine Eng.bo (v := (.agg #[(.int .i64 h), (.int .i64 l), (.int .i64 i), (.int .i64 w_)])) (cs := [(.int .i64 h), (.int .i64 l), (.int .i64 i), (.int .i64 w_)]) rfl rfl rfl rfl rfl ?_
  intro w2 hk2 hb2 hz2
  refine Eng.sv rfl rfl (Eng.x_as (v := (.bool false)) rfl rfl) ?_
  refine Eng.nil ?_
  refine hK1 _ _ ?_
  refine Eng.seqk fun K3 hK3 => ?_
  refine Eng.seqk fun K4 hK4 => ?_
  by_cases q0 : ht h = false
  · skip
    refine Eng.draw 40 [fun vQ _ => vQ = (.pointer (some ⟨w.heap.size, 0, none⟩)), fun vQ _ => vQ = (.int .i64 h), fun vQ _ => vQ = (.bool false), fun vQ _ => vQ = (.bool true), fun vQ _ => vQ = (.bool true), fun vQ _ => vQ = undef, fun vQ _ => vQ = undef, fun vQ _ => vQ = undef, fun vQ _ => vQ = (.bool true), fun vQ _ => vQ = (.bool true), fun vQ _ => vQ = undef, fun vQ _ => vQ = undef, fun vQ _ => vQ = undef, fun vQ _ => vQ = undef, fun vQ _ => vQ = undef, fun vQ _ => vQ = undef, fun vQ _ => vQ = (.bool true), fun vQ _ => vQ = (.bool true), fun vQ _ => vQ = undef, fun vQ _ => vQ = undef, fun vQ _ => vQ = undef, fun vQ _ => vQ = (.bool true), fun vQ _ => vQ = (.bool true), fun vQ _ => vQ = undef, fun vQ _ => vQ = undef, fun vQ _ => vQ = undef, fun vQ _ => vQ = (.bool true), fun vQ _ => vQ = (.bool true), fun vQ _ => vQ = undef, fun vQ _ => vQ = undef, fun vQ _ => vQ = undef, fun vQ _ => vQ = (.bool true), fun vQ _ => vQ = (.bool true), fun vQ _ => vQ = undef, fun vQ _ => vQ = undef, fun vQ _ => vQ = undef, fun vQ _ => vQ = undef, fun vQ _ => vQ = undef, fun vQ _ => vQ = undef, fun vQ _ => vQ = (.bool true)] (by kernel_rfl) (by kernel_rfl) (by kernel_rfl) (by kernel_rfl) rfl rfl ?_ ?_ ?_
    · exact ⟨fun _ _ _ h _ => h, fun _ _ _ h _ => h, fun _ _ _ h _ => h, fun _ _ _ h _ => h, fun _ _ _ h _ => h, fun _ _ _ h _ => h, fun _ _ _ h _ => h, fun _ _ _ h _ => h, fun _ _ _ h _ => h, fun _ _ _ h _ => h, fun _ _ _ h _ => h, fun _ _ _ h _ => h, fun _ _ _ h _ => h, fun _ _ _ h _ => h, fun _ _ _ h _ => h, fun _ _ _ h _ => h, fun _ _ _ h _ => h, fun _ _ _ h _ => h, fun _ _ _ h _ => h, fun _ _ _ h _ => h, fun _ _ _ h _ => h, fun _ _ _ h _ => h, fun _ _ _ h _ => h, fun _ _ _ h _ => h, fun _ _ _ h _ => h, fun _ _ _ h _ => h, fun _ _ _ h _ => h, fun _ _ _ h _ => h, fun _ _ _ h _ => h, fun _ _ _ h _ => h, fun _ _ _ h _ => h, fun _ _ _ h _ => h, fun _ _ _ h _ => h, fun _ _ _ h _ => h, fun _ _ _ h _ => h, fun _ _ _ h _ => h, fun _ _ _ h _ => h, fun _ _ _ h _ => h, fun _ _ _ h _ => h, fun _ _ _ h _ => h, trivial⟩
    · refine ⟨?_, ?_, ?_, ?_, ?_, ?_, ?_, ?_, ?_, ?_, ?_, ?_, ?_, ?_, ?_, ?_, ?_, ?_, ?_, ?_, ?_, ?_, ?_, ?_, ?_, ?_, ?_, ?_, ?_, ?_, ?_, ?_, ?_, ?_, ?_, ?_, ?_, ?_, ?_, ?_, trivial⟩
      · intro u' W hbW hkp hdp K hK
        refine Eng.dv rfl rfl ?_ (hK _ _ (Below.refl _ _) rfl)
        exact (Eng.x_fa (v := (.pointer (some ⟨w.heap.size, 0, none⟩))) rfl (show Eng.opv 59 u' (.tmp 1) = (.pointer (some ⟨w.heap.size, 0, none⟩)) from hkp 1 rfl) (by kernel_rfl))
      · intro u' W hbW hkp hdp K hK
        have e0 : u' 3 = (.pointer (some ⟨w.heap.size, 0, none⟩)) := hdp.1
        refine Eng.dv rfl rfl ?_ (hK _ _ (Below.refl _ _) rfl)
        exact (Eng.x_ld1 (v := (.int .i64 h)) rfl ag3_to (show Eng.opv 59 u' (.tmp 3) = (.pointer (some ⟨w.heap.size, 0, none⟩)) from e0) ((((hk2).below hbW)).cell 0))
      · intro u' W hbW hkp hdp K hK
        have e1 : u' 4 = (.int .i64 h) := hdp.1
        refine Eng.dc (vs := #[(.int .i64 h)]) rfl ?_ (height_is q0 _) ?_
        · exact Eng.xc (xs := #[(Go.Operand.tmp 4)]) (vl := [(.int .i64 h)]) rfl rfl (Eng.lc (show Eng.opv 59 u' (.tmp 4) = (.int .i64 h) from e1) rfl) en49_to
        rintro _ W2 ⟨rfl, hb2⟩
        exact Eng.aft_v rfl (hK _ _ hb2 rfl)
      · intro u' W hbW hkp hdp K hK
        have e2 : u' 5 = (.bool false) := hdp.1
        refine Eng.dv rfl rfl ?_ (hK _ _ (Below.refl _ _) rfl)
        exact (Eng.x_not (v := (.bool true)) rfl (show Eng.opv 59 u' (.tmp 5) = (.bool false) from e2) rfl)
      · intro u' W hbW hkp hdp K hK
        have e3 : u' 6 = (.bool true) := hdp.1
        refine Eng.dv rfl rfl ?_ (hK _ _ (Below.refl _ _) rfl)
        exact (Eng.x_mv (v := (.bool true)) rfl (show Eng.opv 59 u' (.tmp 6) = (.bool true) from e3))
      · intro u' W hbW hkp hdp K hK
        have e4 : u' 7 = (.bool true) := hdp.1
        exact Eng.dg0 (Eng.gf rfl rfl rfl (show Eng.opv 59 u' (.tmp 7) = (.bool true) from e4)) rfl (hK _ _ (Below.refl _ _) rfl)
      · intro u' W hbW hkp hdp K hK
        have e4 : u' 7 = (.bool true) := hdp.2.1
        exact Eng.dg0 (Eng.gf rfl rfl rfl (show Eng.opv 59 u' (.tmp 7) = (.bool true) from e4)) rfl (hK _ _ (Below.refl _ _) rfl)
      · intro u' W hbW hkp hdp K hK
        have e4 : u' 7 = (.bool true) := hdp.2.1
        exact Eng.dg0 (Eng.gf rfl rfl rfl (show Eng.opv 59 u' (.tmp 7) = (.bool true) from e4)) rfl (hK _ _ (Below.refl _ _) rfl)
      · intro u' W hbW hkp hdp K hK
        have e4 : u' 7 = (.bool true) := hdp.1
        have e7 : u' 10 = undef := hdp.2.1
        refine Eng.dv rfl rfl ?_ (hK _ _ (Below.refl _ _) rfl)
        exact (Eng.x_pick (v := (.bool true)) rfl (show Eng.opv 59 u' (.tmp 7) = (.bool true) from e4) rfl (show Eng.opv 59 u' (.tmp 10) = undef from e7) rfl)
      · intro u' W hbW hkp hdp K hK
        have e8 : u' 11 = (.bool true) := hdp.1
        refine Eng.dv rfl rfl ?_ (hK _ _ (Below.refl _ _) rfl)
        exact (Eng.x_mv (v := (.bool true)) rfl (show Eng.opv 59 u' (.tmp 11) = (.bool true) from e8))
      · intro u' W hbW hkp hdp K hK
        have e9 : u' 12 = (.bool true) := hdp.1
        exact Eng.dg0 (Eng.gf rfl rfl rfl (show Eng.opv 59 u' (.tmp 12) = (.bool true) from e9)) rfl (hK _ _ (Below.refl _ _) rfl)
      · intro u' W hbW hkp hdp K hK
        have e9 : u' 12 = (.bool true) := hdp.2.1
        exact Eng.dg0 (Eng.gf rfl rfl rfl (show Eng.opv 59 u' (.tmp 12) = (.bool true) from e9)) rfl (hK _ _ (Below.refl _ _) rfl)
      · intro u' W hbW hkp hdp K hK
        have e9 : u' 12 = (.bool true) := hdp.1
        exact Eng.dg0 (Eng.gf rfl rfl rfl (show Eng.opv 59 u' (.tmp 12) = (.bool true) from e9)) rfl (hK _ _ (Below.refl _ _) rfl)
      · intro u' W hbW hkp hdp K hK
        have e9 : u' 12 = (.bool true) := hdp.2.1
        exact Eng.dg0 (Eng.gf rfl rfl rfl (show Eng.opv 59 u' (.tmp 12) = (.bool true) from e9)) rfl (hK _ _ (Below.refl _ _) rfl)
      · intro u' W hbW hkp hdp K hK
        have e9 : u' 12 = (.bool true) := hdp.2.1
        exact Eng.dg0 (Eng.gf rfl rfl rfl (show Eng.opv 59 u' (.tmp 12) = (.bool true) from e9)) rfl (hK _ _ (Below.refl _ _) rfl)
      · intro u' W hbW hkp hdp K hK
        have e9 : u' 12 = (.bool true) := hdp.2.2.1
        exact Eng.dg0 (Eng.gf rfl rfl rfl (show Eng.opv 59 u' (.tmp 12) = (.bool true) from e9)) rfl (hK _ _ (Below.refl _ _) rfl)
      · intro u' W hbW hkp hdp K hK
        have e9 : u' 12 = (.bool true) := hdp.1
        have e15 : u' 18 = undef := hdp.2.1
        refine Eng.dv rfl rfl ?_ (hK _ _ (Below.refl _ _) rfl)
        exact (Eng.x_pick (v := (.bool true)) rfl (show Eng.opv 59 u' (.tmp 12) = (.bool true) from e9) rfl (show Eng.opv 59 u' (.tmp 18) = undef from e15) rfl)
      · intro u' W hbW hkp hdp K hK
        have e16 : u' 19 = (.bool true) := hdp.1
        refine Eng.dv rfl rfl ?_ (hK _ _ (Below.refl _ _) rfl)
        exact (Eng.x_mv (v := (.bool true)) rfl (show Eng.opv 59 u' (.tmp 19) = (.bool true) from e16))
      · intro u' W hbW hkp hdp K hK
        have e17 : u' 20 = (.bool true) := hdp.1
        exact Eng.dg0 (Eng.gf rfl rfl rfl (show Eng.opv 59 u' (.tmp 20) = (.bool true) from e17)) rfl (hK _ _ (Below.refl _ _) rfl)
      · intro u' W hbW hkp hdp K hK
        have e17 : u' 20 = (.bool true) := hdp.2.1
        exact Eng.dg0 (Eng.gf rfl rfl rfl (show Eng.opv 59 u' (.tmp 20) = (.bool true) from e17)) rfl (hK _ _ (Below.refl _ _) rfl)
      · intro u' W hbW hkp hdp K hK
        have e17 : u' 20 = (.bool true) := hdp.2.1
        exact Eng.dg0 (Eng.gf rfl rfl rfl (show Eng.opv 59 u' (.tmp 20) = (.bool true) from e17)) rfl (hK _ _ (Below.refl _ _) rfl)
      · intro u' W hbW hkp hdp K hK
        have e17 : u' 20 = (.bool true) := hdp.1
        have e20 : u' 23 = undef := hdp.2.1
        refine Eng.dv rfl rfl ?_ (hK _ _ (Below.refl _ _) rfl)
        exact (Eng.x_pick (v := (.bool true)) rfl (show Eng.opv 59 u' (.tmp 20) = (.bool true) from e17) rfl (show Eng.opv 59 u' (.tmp 23) = undef from e20) rfl)
      · intro u' W hbW hkp hdp K hK
        have e21 : u' 24 = (.bool true) := hdp.1
        refine Eng.dv rfl rfl ?_ (hK _ _ (Below.refl _ _) rfl)
        exact (Eng.x_mv (v := (.bool true)) rfl (show Eng.opv 59 u' (.tmp 24) = (.bool true) from e21))
      · intro u' W hbW hkp hdp K hK
        have e22 : u' 25 = (.bool true) := hdp.1
        exact Eng.dg0 (Eng.gf rfl rfl rfl (show Eng.opv 59 u' (.tmp 25) = (.bool true) from e22)) rfl (hK _ _ (Below.refl _ _) rfl)
      · intro u' W hbW hkp hdp K hK
        have e22 : u' 25 = (.bool true) := hdp.2.1
        exact Eng.dg0 (Eng.gf rfl rfl rfl (show Eng.opv 59 u' (.tmp 25) = (.bool true) from e22)) rfl (hK _ _ (Below.refl _ _) rfl)
      · intro u' W hbW hkp hdp K hK
        have e22 : u' 25 = (.bool true) := hdp.2.1
        exact Eng.dg0 (Eng.gf rfl rfl rfl (show Eng.opv 59 u' (.tmp 25) = (.bool true) from e22)) rfl (hK _ _ (Below.refl _ _) rfl)
      · intro u' W hbW hkp hdp K hK
        have e22 : u' 25 = (.bool true) := hdp.1
        have e25 : u' 28 = undef := hdp.2.1
        refine Eng.dv rfl rfl ?_ (hK _ _ (Below.refl _ _) rfl)
        exact (Eng.x_pick (v := (.bool true)) rfl (show Eng.opv 59 u' (.tmp 25) = (.bool true) from e22) rfl (show Eng.opv 59 u' (.tmp 28) = undef from e25) rfl)
      · intro u' W hbW hkp hdp K hK
        have e26 : u' 29 = (.bool true) := hdp.1
        refine Eng.dv rfl rfl ?_ (hK _ _ (Below.refl _ _) rfl)
        exact (Eng.x_mv (v := (.bool true)) rfl (show Eng.opv 59 u' (.tmp 29) = (.bool true) from e26))
      · intro u' W hbW hkp hdp K hK
        have e27 : u' 30 = (.bool true) := hdp.1
        exact Eng.dg0 (Eng.gf rfl rfl rfl (show Eng.opv 59 u' (.tmp 30) = (.bool true) from e27)) rfl (hK _ _ (Below.refl _ _) rfl)
      · intro u' W hbW hkp hdp K hK
        have e27 : u' 30 = (.bool true) := hdp.2.1
        exact Eng.dg0 (Eng.gf rfl rfl rfl (show Eng.opv 59 u' (.tmp 30) = (.bool true) from e27)) rfl (hK _ _ (Below.refl _ _) rfl)
      · intro u' W hbW hkp hdp K hK
        have e27 : u' 30 = (.bool true) := hdp.2.1
        exact Eng.dg0 (Eng.gf rfl rfl rfl (show Eng.opv 59 u' (.tmp 30) = (.bool true) from e27)) rfl (hK _ _ (Below.refl _ _) rfl)
      · intro u' W hbW hkp hdp K hK
        have e27 : u' 30 = (.bool true) := hdp.1
        have e30 : u' 33 = undef := hdp.2.1
        refine Eng.dv rfl rfl ?_ (hK _ _ (Below.refl _ _) rfl)
        exact (Eng.x_pick (v := (.bool true)) rfl (show Eng.opv 59 u' (.tmp 30) = (.bool true) from e27) rfl (show Eng.opv 59 u' (.tmp 33) = undef from e30) rfl)
      · intro u' W hbW hkp hdp K hK
        have e31 : u' 34 = (.bool true) := hdp.1
        refine Eng.dv rfl rfl ?_ (hK _ _ (Below.refl _ _) rfl)
        exact (Eng.x_mv (v := (.bool true)) rfl (show Eng.opv 59 u' (.tmp 34) = (.bool true) from e31))
      · intro u' W hbW hkp hdp K hK
        have e32 : u' 35 = (.bool true) := hdp.1
        exact Eng.dg0 (Eng.gf rfl rfl rfl (show Eng.opv 59 u' (.tmp 35) = (.bool true) from e32)) rfl (hK _ _ (Below.refl _ _) rfl)
      · intro u' W hbW hkp hdp K hK
        have e32 : u' 35 = (.bool true) := hdp.2.1
        exact Eng.dg0 (Eng.gf rfl rfl rfl (show Eng.opv 59 u' (.tmp 35) = (.bool true) from e32)) rfl (hK _ _ (Below.refl _ _) rfl)
      · intro u' W hbW hkp hdp K hK
        have e32 : u' 35 = (.bool true) := hdp.1
        exact Eng.dg0 (Eng.gf rfl rfl rfl (show Eng.opv 59 u' (.tmp 35) = (.bool true) from e32)) rfl (hK _ _ (Below.refl _ _) rfl)
      · intro u' W hbW hkp hdp K hK
        have e32 : u' 35 = (.bool true) := hdp.2.1
        exact Eng.dg0 (Eng.gf rfl rfl rfl (show Eng.opv 59 u' (.tmp 35) = (.bool true) from e32)) rfl (hK _ _ (Below.refl _ _) rfl)
      · intro u' W hbW hkp hdp K hK
        have e32 : u' 35 = (.bool true) := hdp.2.1
        exact Eng.dg0 (Eng.gf rfl rfl rfl (show Eng.opv 59 u' (.tmp 35) = (.bool true) from e32)) rfl (hK _ _ (Below.refl _ _) rfl)
      · intro u' W hbW hkp hdp K hK
        have e32 : u' 35 = (.bool true) := hdp.2.2.1
        exact Eng.dg0 (Eng.gf rfl rfl rfl (show Eng.opv 59 u' (.tmp 35) = (.bool true) from e32)) rfl (hK _ _ (Below.refl _ _) rfl)
      · intro u' W hbW hkp hdp K hK
        have e32 : u' 35 = (.bool true) := hdp.1
        have e38 : u' 41 = undef := hdp.2.1
        refine Eng.dv rfl rfl ?_ (hK _ _ (Below.refl _ _) rfl)
        exact (Eng.x_pick (v := (.bool true)) rfl (show Eng.opv 59 u' (.tmp 35) = (.bool true) from e32) rfl (show Eng.opv 59 u' (.tmp 41) = undef from e38) rfl)
    · intro ud5 w5 hb5 hkp5 ⟨f5_0, f5_1, f5_2, f5_3, f5_4, f5_5, f5_6, f5_7, f5_8, f5_9, f5_10, f5_11, f5_12, f5_13, f5_14, f5_15, f5_16, f5_17, f5_18, f5_19, f5_20, f5_21, f5_22, f5_23, f5_24, f5_25, f5_26, f5_27, f5_28, f5_29, f5_30, f5_31, f5_32, f5_33, f5_34, f5_35, f5_36, f5_37, f5_38, f5_39, _⟩
      have hH5 : Eng.Has ud5 [(3, (.pointer (some ⟨w.heap.size, 0, none⟩))), (4, (.int .i64 h)), (5, (.bool false)), (6, (.bool true)), (7, (.bool true)), (8, undef), (9, undef), (10, undef), (11, (.bool true)), (12, (.bool true)), (13, undef), (14, undef), (15, undef), (16, undef), (17, undef), (18, undef), (19, (.bool true)), (20, (.bool true)), (21, undef), (22, undef), (23, undef), (24, (.bool true)), (25, (.bool true)), (26, undef), (27, undef), (28, undef), (29, (.bool true)), (30, (.bool true)), (31, undef), (32, undef), (33, undef), (34, (.bool true)), (35, (.bool true)), (36, undef), (37, undef), (38, undef), (39, undef), (40, undef), (41, undef), (42, (.bool true))] := ⟨f5_0, f5_1, f5_2, f5_3, f5_4, f5_5, f5_6, f5_7, f5_8, f5_9, f5_10, f5_11, f5_12, f5_13, f5_14, f5_15, f5_16, f5_17, f5_18, f5_19, f5_20, f5_21, f5_22, f5_23, f5_24, f5_25, f5_26, f5_27, f5_28, f5_29, f5_30, f5_31, f5_32, f5_33, f5_34, f5_35, f5_36, f5_37, f5_38, f5_39, trivial⟩
      obtain rfl := Eng.collect hkp5 hH5 rfl
      refine Eng.nil ?_
      refine hK4 _ _ ?_
      refine Eng.cond_t rfl ?_
      refine Eng.seqk fun K6 hK6 => ?_
      refine Eng.reg ?_
      refine Eng.sv rfl rfl (Eng.x_as (v := (.bool false)) rfl rfl) ?_
      refine Eng.nil ?_
      refine hK6 _ _ ?_
      refine Eng.rt ?_
      refine Eng.tr ?_
      refine Eng.ret (Eng.res1 (v1 := (.bool false)) rfl (Eng.rdt rfl)) ?_
      have hB0_2 : Below w.heap.size w w5 := (hb2).trans (hb5.mono (hb2).size)
      exact ⟨by rw [tvF (.inl q0)], hB0_2⟩
  · skip
    have hh : ht h = true := by simpa using q0
    have hh8 := ht_yes hh
    have hpw := pwb hh
    by_cases q1 : l < 0
    · skip
      refine Eng.draw 40 [fun vQ _ => vQ = (.pointer (some ⟨w.heap.size, 0, none⟩)), fun vQ _ => vQ = (.int .i64 h), fun vQ _ => vQ = (.bool true), fun vQ _ => vQ = (.bool false), fun vQ _ => vQ = (.bool false), fun vQ _ => vQ = (.pointer (some ⟨w.heap.size, 1, none⟩)), fun vQ _ => vQ = (.int .i64 l), fun vQ _ => vQ = (.bool true), fun vQ _ => vQ = (.bool true), fun vQ _ => vQ = (.bool true), fun vQ _ => vQ = undef, fun vQ _ => vQ = undef, fun vQ _ => vQ = undef, fun vQ _ => vQ = undef, fun vQ _ => vQ = undef, fun vQ _ => vQ = undef, fun vQ _ => vQ = (.bool true), fun vQ _ => vQ = (.bool true), fun vQ _ => vQ = undef, fun vQ _ => vQ = undef, fun vQ _ => vQ = undef, fun vQ _ => vQ = (.bool true), fun vQ _ => vQ = (.bool true), fun vQ _ => vQ = undef, fun vQ _ => vQ = undef, fun vQ _ => vQ = undef, fun vQ _ => vQ = (.bool true), fun vQ _ => vQ = (.bool true), fun vQ _ => vQ = undef, fun vQ _ => vQ = undef, fun vQ _ => vQ = undef, fun vQ _ => vQ = (.bool true), fun vQ _ => vQ = (.bool true), fun vQ _ => vQ = undef, fun vQ _ => vQ = undef, fun vQ _ => vQ = undef, fun vQ _ => vQ = undef, fun vQ _ => vQ = undef, fun vQ _ => vQ = undef, fun vQ _ => vQ = (.bool true)] (by kernel_rfl) (by kernel_rfl) (by kernel_rfl) (by kernel_rfl) rfl rfl ?_ ?_ ?_
      · exact ⟨fun _ _ _ h _ => h, fun _ _ _ h _ => h, fun _ _ _ h _ => h, fun _ _ _ h _ => h, fun _ _ _ h _ => h, fun _ _ _ h _ => h, fun _ _ _ h _ => h, fun _ _ _ h _ => h, fun _ _ _ h _ => h, fun _ _ _ h _ => h, fun _ _ _ h _ => h, fun _ _ _ h _ => h, fun _ _ _ h _ => h, fun _ _ _ h _ => h, fun _ _ _ h _ => h, fun _ _ _ h _ => h, fun _ _ _ h _ => h, fun _ _ _ h _ => h, fun _ _ _ h _ => h, fun _ _ _ h _ => h, fun _ _ _ h _ => h, fun _ _ _ h _ => h, fun _ _ _ h _ => h, fun _ _ _ h _ => h, fun _ _ _ h _ => h, fun _ _ _ h _ => h, fun _ _ _ h _ => h, fun _ _ _ h _ => h, fun _ _ _ h _ => h, fun _ _ _ h _ => h, fun _ _ _ h _ => h, fun _ _ _ h _ => h, fun _ _ _ h _ => h, fun _ _ _ h _ => h, fun _ _ _ h _ => h, fun _ _ _ h _ => h, fun _ _ _ h _ => h, fun _ _ _ h _ => h, fun _ _ _ h _ => h, fun _ _ _ h _ => h, trivial⟩
      · refine ⟨?_, ?_, ?_, ?_, ?_, ?_, ?_, ?_, ?_, ?_, ?_, ?_, ?_, ?_, ?_, ?_, ?_, ?_, ?_, ?_, ?_, ?_, ?_, ?_, ?_, ?_, ?_, ?_, ?_, ?_, ?_, ?_, ?_, ?_, ?_, ?_, ?_, ?_, ?_, ?_, trivial⟩
        · intro u' W hbW hkp hdp K hK
          refine Eng.dv rfl rfl ?_ (hK _ _ (Below.refl _ _) rfl)
          exact (Eng.x_fa (v := (.pointer (some ⟨w.heap.size, 0, none⟩))) rfl (show Eng.opv 59 u' (.tmp 1) = (.pointer (some ⟨w.heap.size, 0, none⟩)) from hkp 1 rfl) (by kernel_rfl))
        · intro u' W hbW hkp hdp K hK
          have e0 : u' 3 = (.pointer (some ⟨w.heap.size, 0, none⟩)) := hdp.1
          refine Eng.dv rfl rfl ?_ (hK _ _ (Below.refl _ _) rfl)
          exact (Eng.x_ld1 (v := (.int .i64 h)) rfl ag3_to (show Eng.opv 59 u' (.tmp 3) = (.pointer (some ⟨w.heap.size, 0, none⟩)) from e0) ((((hk2).below hbW)).cell 0))
        · intro u' W hbW hkp hdp K hK
          have e1 : u' 4 = (.int .i64 h) := hdp.1
          refine Eng.dc (vs := #[(.int .i64 h)]) rfl ?_ (height_is hh _) ?_
          · exact Eng.xc (xs := #[(Go.Operand.tmp 4)]) (vl := [(.int .i64 h)]) rfl rfl (Eng.lc (show Eng.opv 59 u' (.tmp 4) = (.int .i64 h) from e1) rfl) en49_to
          rintro _ W2 ⟨rfl, hb2⟩
          exact Eng.aft_v rfl (hK _ _ hb2 rfl)
        · intro u' W hbW hkp hdp K hK
          have e2 : u' 5 = (.bool true) := hdp.1
          refine Eng.dv rfl rfl ?_ (hK _ _ (Below.refl _ _) rfl)
          exact (Eng.x_not (v := (.bool false)) rfl (show Eng.opv 59 u' (.tmp 5) = (.bool true) from e2) rfl)
        · intro u' W hbW hkp hdp K hK
          have e3 : u' 6 = (.bool false) := hdp.1
          refine Eng.dv rfl rfl ?_ (hK _ _ (Below.refl _ _) rfl)
          exact (Eng.x_mv (v := (.bool false)) rfl (show Eng.opv 59 u' (.tmp 6) = (.bool false) from e3))
        · intro u' W hbW hkp hdp K hK
          have e4 : u' 7 = (.bool false) := hdp.1
          refine Eng.dv (Eng.gt rfl rfl rfl (show Eng.opv 59 u' (.tmp 7) = (.bool false) from e4)) rfl ?_ (hK _ _ (Below.refl _ _) rfl)
          exact (Eng.x_fa (v := (.pointer (some ⟨w.heap.size, 1, none⟩))) rfl (show Eng.opv 59 u' (.tmp 1) = (.pointer (some ⟨w.heap.size, 0, none⟩)) from hkp 1 rfl) (by kernel_rfl))
        · intro u' W hbW hkp hdp K hK
          have e4 : u' 7 = (.bool false) := hdp.2.1
          have e5 : u' 8 = (.pointer (some ⟨w.heap.size, 1, none⟩)) := hdp.1
          refine Eng.dv (Eng.gt rfl rfl rfl (show Eng.opv 59 u' (.tmp 7) = (.bool false) from e4)) rfl ?_ (hK _ _ (Below.refl _ _) rfl)
          exact (Eng.x_ld1 (v := (.int .i64 l)) rfl ag3_to (show Eng.opv 59 u' (.tmp 8) = (.pointer (some ⟨w.heap.size, 1, none⟩)) from e5) ((((hk2).below hbW)).cell 1))
        · intro u' W hbW hkp hdp K hK
          have e4 : u' 7 = (.bool false) := hdp.2.1
          have e6 : u' 9 = (.int .i64 l) := hdp.1
          refine Eng.dv (Eng.gt rfl rfl rfl (show Eng.opv 59 u' (.tmp 7) = (.bool false) from e4)) rfl ?_ (hK _ _ (Below.refl _ _) rfl)
          exact (Eng.x_lt (r := true) rfl (show Eng.opv 59 u' (.tmp 9) = (.int .i64 l) from e6) rfl (decide_eq_true (by omega)))
        · intro u' W hbW hkp hdp K hK
          have e4 : u' 7 = (.bool false) := hdp.1
          have e7 : u' 10 = (.bool true) := hdp.2.1
          refine Eng.dv rfl rfl ?_ (hK _ _ (Below.refl _ _) rfl)
          exact (Eng.x_pick (v := (.bool true)) rfl (show Eng.opv 59 u' (.tmp 7) = (.bool false) from e4) rfl (show Eng.opv 59 u' (.tmp 10) = (.bool true) from e7) rfl)
        · intro u' W hbW hkp hdp K hK
          have e8 : u' 11 = (.bool true) := hdp.1
          refine Eng.dv rfl rfl ?_ (hK _ _ (Below.refl _ _) rfl)
          exact (Eng.x_mv (v := (.bool true)) rfl (show Eng.opv 59 u' (.tmp 11) = (.bool true) from e8))
        · intro u' W hbW hkp hdp K hK
          have e9 : u' 12 = (.bool true) := hdp.1
          exact Eng.dg0 (Eng.gf rfl rfl rfl (show Eng.opv 59 u' (.tmp 12) = (.bool true) from e9)) rfl (hK _ _ (Below.refl _ _) rfl)
        · intro u' W hbW hkp hdp K hK
          have e9 : u' 12 = (.bool true) := hdp.2.1
          exact Eng.dg0 (Eng.gf rfl rfl rfl (show Eng.opv 59 u' (.tmp 12) = (.bool true) from e9)) rfl (hK _ _ (Below.refl _ _) rfl)
        · intro u' W hbW hkp hdp K hK
          have e9 : u' 12 = (.bool true) := hdp.1
          exact Eng.dg0 (Eng.gf rfl rfl rfl (show Eng.opv 59 u' (.tmp 12) = (.bool true) from e9)) rfl (hK _ _ (Below.refl _ _) rfl)
        · intro u' W hbW hkp hdp K hK
          have e9 : u' 12 = (.bool true) := hdp.2.1
          exact Eng.dg0 (Eng.gf rfl rfl rfl (show Eng.opv 59 u' (.tmp 12) = (.bool true) from e9)) rfl (hK _ _ (Below.refl _ _) rfl)
        · intro u' W hbW hkp hdp K hK
          have e9 : u' 12 = (.bool true) := hdp.2.1
          exact Eng.dg0 (Eng.gf rfl rfl rfl (show Eng.opv 59 u' (.tmp 12) = (.bool true) from e9)) rfl (hK _ _ (Below.refl _ _) rfl)
        · intro u' W hbW hkp hdp K hK
          have e9 : u' 12 = (.bool true) := hdp.2.2.1
          exact Eng.dg0 (Eng.gf rfl rfl rfl (show Eng.opv 59 u' (.tmp 12) = (.bool true) from e9)) rfl (hK _ _ (Below.refl _ _) rfl)
        · intro u' W hbW hkp hdp K hK
          have e9 : u' 12 = (.bool true) := hdp.1
          have e15 : u' 18 = undef := hdp.2.1
          refine Eng.dv rfl rfl ?_ (hK _ _ (Below.refl _ _) rfl)
          exact (Eng.x_pick (v := (.bool true)) rfl (show Eng.opv 59 u' (.tmp 12) = (.bool true) from e9) rfl (show Eng.opv 59 u' (.tmp 18) = undef from e15) rfl)
        · intro u' W hbW hkp hdp K hK
          have e16 : u' 19 = (.bool true) := hdp.1
          refine Eng.dv rfl rfl ?_ (hK _ _ (Below.refl _ _) rfl)
          exact (Eng.x_mv (v := (.bool true)) rfl (show Eng.opv 59 u' (.tmp 19) = (.bool true) from e16))
        · intro u' W hbW hkp hdp K hK
          have e17 : u' 20 = (.bool true) := hdp.1
          exact Eng.dg0 (Eng.gf rfl rfl rfl (show Eng.opv 59 u' (.tmp 20) = (.bool true) from e17)) rfl (hK _ _ (Below.refl _ _) rfl)
        · intro u' W hbW hkp hdp K hK
          have e17 : u' 20 = (.bool true) := hdp.2.1
          exact Eng.dg0 (Eng.gf rfl rfl rfl (show Eng.opv 59 u' (.tmp 20) = (.bool true) from e17)) rfl (hK _ _ (Below.refl _ _) rfl)
        · intro u' W hbW hkp hdp K hK
          have e17 : u' 20 = (.bool true) := hdp.2.1
          exact Eng.dg0 (Eng.gf rfl rfl rfl (show Eng.opv 59 u' (.tmp 20) = (.bool true) from e17)) rfl (hK _ _ (Below.refl _ _) rfl)
        · intro u' W hbW hkp hdp K hK
          have e17 : u' 20 = (.bool true) := hdp.1
          have e20 : u' 23 = undef := hdp.2.1
          refine Eng.dv rfl rfl ?_ (hK _ _ (Below.refl _ _) rfl)
          exact (Eng.x_pick (v := (.bool true)) rfl (show Eng.opv 59 u' (.tmp 20) = (.bool true) from e17) rfl (show Eng.opv 59 u' (.tmp 23) = undef from e20) rfl)
        · intro u' W hbW hkp hdp K hK
          have e21 : u' 24 = (.bool true) := hdp.1
          refine Eng.dv rfl rfl ?_ (hK _ _ (Below.refl _ _) rfl)
          exact (Eng.x_mv (v := (.bool true)) rfl (show Eng.opv 59 u' (.tmp 24) = (.bool true) from e21))
        · intro u' W hbW hkp hdp K hK
          have e22 : u' 25 = (.bool true) := hdp.1
          exact Eng.dg0 (Eng.gf rfl rfl rfl (show Eng.opv 59 u' (.tmp 25) = (.bool true) from e22)) rfl (hK _ _ (Below.refl _ _) rfl)
        · intro u' W hbW hkp hdp K hK
          have e22 : u' 25 = (.bool true) := hdp.2.1
          exact Eng.dg0 (Eng.gf rfl rfl rfl (show Eng.opv 59 u' (.tmp 25) = (.bool true) from e22)) rfl (hK _ _ (Below.refl _ _) rfl)
        · intro u' W hbW hkp hdp K hK
          have e22 : u' 25 = (.bool true) := hdp.2.1
          exact Eng.dg0 (Eng.gf rfl rfl rfl (show Eng.opv 59 u' (.tmp 25) = (.bool true) from e22)) rfl (hK _ _ (Below.refl _ _) rfl)
        · intro u' W hbW hkp hdp K hK
          have e22 : u' 25 = (.bool true) := hdp.1
          have e25 : u' 28 = undef := hdp.2.1
          refine Eng.dv rfl rfl ?_ (hK _ _ (Below.refl _ _) rfl)
          exact (Eng.x_pick (v := (.bool true)) rfl (show Eng.opv 59 u' (.tmp 25) = (.bool true) from e22) rfl (show Eng.opv 59 u' (.tmp 28) = undef from e25) rfl)
        · intro u' W hbW hkp hdp K hK
          have e26 : u' 29 = (.bool true) := hdp.1
          refine Eng.dv rfl rfl ?_ (hK _ _ (Below.refl _ _) rfl)
          exact (Eng.x_mv (v := (.bool true)) rfl (show Eng.opv 59 u' (.tmp 29) = (.bool true) from e26))
        · intro u' W hbW hkp hdp K hK
          have e27 : u' 30 = (.bool true) := hdp.1
          exact Eng.dg0 (Eng.gf rfl rfl rfl (show Eng.opv 59 u' (.tmp 30) = (.bool true) from e27)) rfl (hK _ _ (Below.refl _ _) rfl)
        · intro u' W hbW hkp hdp K hK
          have e27 : u' 30 = (.bool true) := hdp.2.1
          exact Eng.dg0 (Eng.gf rfl rfl rfl (show Eng.opv 59 u' (.tmp 30) = (.bool true) from e27)) rfl (hK _ _ (Below.refl _ _) rfl)
        · intro u' W hbW hkp hdp K hK
          have e27 : u' 30 = (.bool true) := hdp.2.1
          exact Eng.dg0 (Eng.gf rfl rfl rfl (show Eng.opv 59 u' (.tmp 30) = (.bool true) from e27)) rfl (hK _ _ (Below.refl _ _) rfl)
        · intro u' W hbW hkp hdp K hK
          have e27 : u' 30 = (.bool true) := hdp.1
          have e30 : u' 33 = undef := hdp.2.1
          refine Eng.dv rfl rfl ?_ (hK _ _ (Below.refl _ _) rfl)
          exact (Eng.x_pick (v := (.bool true)) rfl (show Eng.opv 59 u' (.tmp 30) = (.bool true) from e27) rfl (show Eng.opv 59 u' (.tmp 33) = undef from e30) rfl)
        · intro u' W hbW hkp hdp K hK
          have e31 : u' 34 = (.bool true) := hdp.1
          refine Eng.dv rfl rfl ?_ (hK _ _ (Below.refl _ _) rfl)
          exact (Eng.x_mv (v := (.bool true)) rfl (show Eng.opv 59 u' (.tmp 34) = (.bool true) from e31))
        · intro u' W hbW hkp hdp K hK
          have e32 : u' 35 = (.bool true) := hdp.1
          exact Eng.dg0 (Eng.gf rfl rfl rfl (show Eng.opv 59 u' (.tmp 35) = (.bool true) from e32)) rfl (hK _ _ (Below.refl _ _) rfl)
        · intro u' W hbW hkp hdp K hK
          have e32 : u' 35 = (.bool true) := hdp.2.1
          exact Eng.dg0 (Eng.gf rfl rfl rfl (show Eng.opv 59 u' (.tmp 35) = (.bool true) from e32)) rfl (hK _ _ (Below.refl _ _) rfl)
        · intro u' W hbW hkp hdp K hK
          have e32 : u' 35 = (.bool true) := hdp.1
          exact Eng.dg0 (Eng.gf rfl rfl rfl (show Eng.opv 59 u' (.tmp 35) = (.bool true) from e32)) rfl (hK _ _ (Below.refl _ _) rfl)
        · intro u' W hbW hkp hdp K hK
          have e32 : u' 35 = (.bool true) := hdp.2.1
          exact Eng.dg0 (Eng.gf rfl rfl rfl (show Eng.opv 59 u' (.tmp 35) = (.bool true) from e32)) rfl (hK _ _ (Below.refl _ _) rfl)
        · intro u' W hbW hkp hdp K hK
          have e32 : u' 35 = (.bool true) := hdp.2.1
          exact Eng.dg0 (Eng.gf rfl rfl rfl (show Eng.opv 59 u' (.tmp 35) = (.bool true) from e32)) rfl (hK _ _ (Below.refl _ _) rfl)
        · intro u' W hbW hkp hdp K hK
          have e32 : u' 35 = (.bool true) := hdp.2.2.1
          exact Eng.dg0 (Eng.gf rfl rfl rfl (show Eng.opv 59 u' (.tmp 35) = (.bool true) from e32)) rfl (hK _ _ (Below.refl _ _) rfl)
        · intro u' W hbW hkp hdp K hK
          have e32 : u' 35 = (.bool true) := hdp.1
          have e38 : u' 41 = undef := hdp.2.1
          refine Eng.dv rfl rfl ?_ (hK _ _ (Below.refl _ _) rfl)
          exact (Eng.x_pick (v := (.bool true)) rfl (show Eng.opv 59 u' (.tmp 35) = (.bool true) from e32) rfl (show Eng.opv 59 u' (.tmp 41) = undef from e38) rfl)
      · intro ud7 w7 hb7 hkp7 ⟨f7_0, f7_1, f7_2, f7_3, f7_4, f7_5, f7_6, f7_7, f7_8, f7_9, f7_10, f7_11, f7_12, f7_13, f7_14, f7_15, f7_16, f7_17, f7_18, f7_19, f7_20, f7_21, f7_22, f7_23, f7_24, f7_25, f7_26, f7_27, f7_28, f7_29, f7_30, f7_31, f7_32, f7_33, f7_34, f7_35, f7_36, f7_37, f7_38, f7_39, _⟩
        have hH7 : Eng.Has ud7 [(3, (.pointer (some ⟨w.heap.size, 0, none⟩))), (4, (.int .i64 h)), (5, (.bool true)), (6, (.bool false)), (7, (.bool false)), (8, (.pointer (some ⟨w.heap.size, 1, none⟩))), (9, (.int .i64 l)), (10, (.bool true)), (11, (.bool true)), (12, (.bool true)), (13, undef), (14, undef), (15, undef), (16, undef), (17, undef), (18, undef), (19, (.bool true)), (20, (.bool true)), (21, undef), (22, undef), (23, undef), (24, (.bool true)), (25, (.bool true)), (26, undef), (27, undef), (28, undef), (29, (.bool true)), (30, (.bool true)), (31, undef), (32, undef), (33, undef), (34, (.bool true)), (35, (.bool true)), (36, undef), (37, undef), (38, undef), (39, undef), (40, undef), (41, undef), (42, (.bool true))] := ⟨f7_0, f7_1, f7_2, f7_3, f7_4, f7_5, f7_6, f7_7, f7_8, f7_9, f7_10, f7_11, f7_12, f7_13, f7_14, f7_15, f7_16, f7_17, f7_18, f7_19, f7_20, f7_21, f7_22, f7_23, f7_24, f7_25, f7_26, f7_27, f7_28, f7_29, f7_30, f7_31, f7_32, f7_33, f7_34, f7_35, f7_36, f7_37, f7_38, f7_39, trivial⟩
        obtain rfl := Eng.collect hkp7 hH7 rfl
        refine Eng.nil ?_
        refine hK4 _ _ ?_
        refine Eng.cond_t rfl ?_
        refine Eng.seqk fun K8 hK8 => ?_
        refine Eng.reg ?_
        refine Eng.sv rfl rfl (Eng.x_as (v := (.bool false)) rfl rfl) ?_
        refine Eng.nil ?_
        refine hK8 _ _ ?_
        refine Eng.rt ?_
        refine Eng.tr ?_
        refine Eng.ret (Eng.res1 (v1 := (.bool false)) rfl (Eng.rdt rfl)) ?_
        have hB0_2 : Below w.heap.size w w7 := (hb2).trans (hb7.mono (hb2).size)
        exact ⟨by rw [tvF (.inr (.inl q1))], hB0_2⟩
    · skip
      by_cases q2 : 48 / h < l
      · skip
        refine Eng.draw 40 [fun vQ _ => vQ = (.pointer (some ⟨w.heap.size, 0, none⟩)), fun vQ _ => vQ = (.int .i64 h), fun vQ _ => vQ = (.bool true), fun vQ _ => vQ = (.bool false), fun vQ _ => vQ = (.bool false), fun vQ _ => vQ = (.pointer (some ⟨w.heap.size, 1, none⟩)), fun vQ _ => vQ = (.int .i64 l), fun vQ _ => vQ = (.bool false), fun vQ _ => vQ = (.bool false), fun vQ _ => vQ = (.bool false), fun vQ _ => vQ = (.pointer (some ⟨w.heap.size, 1, none⟩)), fun vQ _ => vQ = (.int .i64 l), fun vQ _ => vQ = (.pointer (some ⟨w.heap.size, 0, none⟩)), fun vQ _ => vQ = (.int .i64 h), fun vQ _ => vQ = (.int .i64 (48 / h)), fun vQ _ => vQ = (.bool true), fun vQ _ => vQ = (.bool true), fun vQ _ => vQ = (.bool true), fun vQ _ => vQ = undef, fun vQ _ => vQ = undef, fun vQ _ => vQ = undef, fun vQ _ => vQ = (.bool true), fun vQ _ => vQ = (.bool true), fun vQ _ => vQ = undef, fun vQ _ => vQ = undef, fun vQ _ => vQ = undef, fun vQ _ => vQ = (.bool true), fun vQ _ => vQ = (.bool true), fun vQ _ => vQ = undef, fun vQ _ => vQ = undef, fun vQ _ => vQ = undef, fun vQ _ => vQ = (.bool true), fun vQ _ => vQ = (.bool true), fun vQ _ => vQ = undef, fun vQ _ => vQ = undef, fun vQ _ => vQ = undef, fun vQ _ => vQ = undef, fun vQ _ => vQ = undef, fun vQ _ => vQ = undef, fun vQ _ => vQ = (.bool true)] (by kernel_rfl) (by kernel_rfl) (by kernel_rfl) (by kernel_rfl) rfl rfl ?_ ?_ ?_
        · exact ⟨fun _ _ _ h _ => h, fun _ _ _ h _ => h, fun _ _ _ h _ => h, fun _ _ _ h _ => h, fun _ _ _ h _ => h, fun _ _ _ h _ => h, fun _ _ _ h _ => h, fun _ _ _ h _ => h, fun _ _ _ h _ => h, fun _ _ _ h _ => h, fun _ _ _ h _ => h, fun _ _ _ h _ => h, fun _ _ _ h _ => h, fun _ _ _ h _ => h, fun _ _ _ h _ => h, fun _ _ _ h _ => h, fun _ _ _ h _ => h, fun _ _ _ h _ => h, fun _ _ _ h _ => h, fun _ _ _ h _ => h, fun _ _ _ h _ => h, fun _ _ _ h _ => h, fun _ _ _ h _ => h, fun _ _ _ h _ => h, fun _ _ _ h _ => h, fun _ _ _ h _ => h, fun _ _ _ h _ => h, fun _ _ _ h _ => h, fun _ _ _ h _ => h, fun _ _ _ h _ => h, fun _ _ _ h _ => h, fun _ _ _ h _ => h, fun _ _ _ h _ => h, fun _ _ _ h _ => h, fun _ _ _ h _ => h, fun _ _ _ h _ => h, fun _ _ _ h _ => h, fun _ _ _ h _ => h, fun _ _ _ h _ => h, fun _ _ _ h _ => h, trivial⟩
        · refine ⟨?_, ?_, ?_, ?_, ?_, ?_, ?_, ?_, ?_, ?_, ?_, ?_, ?_, ?_, ?_, ?_, ?_, ?_, ?_, ?_, ?_, ?_, ?_, ?_, ?_, ?_, ?_, ?_, ?_, ?_, ?_, ?_, ?_, ?_, ?_, ?_, ?_, ?_, ?_, ?_, trivial⟩
          · intro u' W hbW hkp hdp K hK
            refine Eng.dv rfl rfl ?_ (hK _ _ (Below.refl _ _) rfl)
            exact (Eng.x_fa (v := (.pointer (some ⟨w.heap.size, 0, none⟩))) rfl (show Eng.opv 59 u' (.tmp 1) = (.pointer (some ⟨w.heap.size, 0, none⟩)) from hkp 1 rfl) (by kernel_rfl))
          · intro u' W hbW hkp hdp K hK
            have e0 : u' 3 = (.pointer (some ⟨w.heap.size, 0, none⟩)) := hdp.1
            refine Eng.dv rfl rfl ?_ (hK _ _ (Below.refl _ _) rfl)
            exact (Eng.x_ld1 (v := (.int .i64 h)) rfl ag3_to (show Eng.opv 59 u' (.tmp 3) = (.pointer (some ⟨w.heap.size, 0, none⟩)) from e0) ((((hk2).below hbW)).cell 0))
          · intro u' W hbW hkp hdp K hK
            have e1 : u' 4 = (.int .i64 h) := hdp.1
            refine Eng.dc (vs := #[(.int .i64 h)]) rfl ?_ (height_is hh _) ?_
            · exact Eng.xc (xs := #[(Go.Operand.tmp 4)]) (vl := [(.int .i64 h)]) rfl rfl (Eng.lc (show Eng.opv 59 u' (.tmp 4) = (.int .i64 h) from e1) rfl) en49_to
            rintro _ W2 ⟨rfl, hb2⟩
            exact Eng.aft_v rfl (hK _ _ hb2 rfl)
          · intro u' W hbW hkp hdp K hK
            have e2 : u' 5 = (.bool true) := hdp.1
            refine Eng.dv rfl rfl ?_ (hK _ _ (Below.refl _ _) rfl)
            exact (Eng.x_not (v := (.bool false)) rfl (show Eng.opv 59 u' (.tmp 5) = (.bool true) from e2) rfl)
          · intro u' W hbW hkp hdp K hK
            have e3 : u' 6 = (.bool false) := hdp.1
            refine Eng.dv rfl rfl ?_ (hK _ _ (Below.refl _ _) rfl)
            exact (Eng.x_mv (v := (.bool false)) rfl (show Eng.opv 59 u' (.tmp 6) = (.bool false) from e3))
          · intro u' W hbW hkp hdp K hK
            have e4 : u' 7 = (.bool false) := hdp.1
            refine Eng.dv (Eng.gt rfl rfl rfl (show Eng.opv 59 u' (.tmp 7) = (.bool false) from e4)) rfl ?_ (hK _ _ (Below.refl _ _) rfl)
            exact (Eng.x_fa (v := (.pointer (some ⟨w.heap.size, 1, none⟩))) rfl (show Eng.opv 59 u' (.tmp 1) = (.pointer (some ⟨w.heap.size, 0, none⟩)) from hkp 1 rfl) (by kernel_rfl))
          · intro u' W hbW hkp hdp K hK
            have e4 : u' 7 = (.bool false) := hdp.2.1
            have e5 : u' 8 = (.pointer (some ⟨w.heap.size, 1, none⟩)) := hdp.1
            refine Eng.dv (Eng.gt rfl rfl rfl (show Eng.opv 59 u' (.tmp 7) = (.bool false) from e4)) rfl ?_ (hK _ _ (Below.refl _ _) rfl)
            exact (Eng.x_ld1 (v := (.int .i64 l)) rfl ag3_to (show Eng.opv 59 u' (.tmp 8) = (.pointer (some ⟨w.heap.size, 1, none⟩)) from e5) ((((hk2).below hbW)).cell 1))
          · intro u' W hbW hkp hdp K hK
            have e4 : u' 7 = (.bool false) := hdp.2.1
            have e6 : u' 9 = (.int .i64 l) := hdp.1
            refine Eng.dv (Eng.gt rfl rfl rfl (show Eng.opv 59 u' (.tmp 7) = (.bool false) from e4)) rfl ?_ (hK _ _ (Below.refl _ _) rfl)
            exact (Eng.x_lt (r := false) rfl (show Eng.opv 59 u' (.tmp 9) = (.int .i64 l) from e6) rfl (decide_eq_false (by omega)))
          · intro u' W hbW hkp hdp K hK
            have e4 : u' 7 = (.bool false) := hdp.1
            have e7 : u' 10 = (.bool false) := hdp.2.1
            refine Eng.dv rfl rfl ?_ (hK _ _ (Below.refl _ _) rfl)
            exact (Eng.x_pick (v := (.bool false)) rfl (show Eng.opv 59 u' (.tmp 7) = (.bool false) from e4) rfl (show Eng.opv 59 u' (.tmp 10) = (.bool false) from e7) rfl)
          · intro u' W hbW hkp hdp K hK
            have e8 : u' 11 = (.bool false) := hdp.1
            refine Eng.dv rfl rfl ?_ (hK _ _ (Below.refl _ _) rfl)
            exact (Eng.x_mv (v := (.bool false)) rfl (show Eng.opv 59 u' (.tmp 11) = (.bool false) from e8))
          · intro u' W hbW hkp hdp K hK
            have e9 : u' 12 = (.bool false) := hdp.1
            refine Eng.dv (Eng.gt rfl rfl rfl (show Eng.opv 59 u' (.tmp 12) = (.bool false) from e9)) rfl ?_ (hK _ _ (Below.refl _ _) rfl)
            exact (Eng.x_fa (v := (.pointer (some ⟨w.heap.size, 1, none⟩))) rfl (show Eng.opv 59 u' (.tmp 1) = (.pointer (some ⟨w.heap.size, 0, none⟩)) from hkp 1 rfl) (by kernel_rfl))
          · intro u' W hbW hkp hdp K hK
            have e9 : u' 12 = (.bool false) := hdp.2.1
            have e10 : u' 13 = (.pointer (some ⟨w.heap.size, 1, none⟩)) := hdp.1
            refine Eng.dv (Eng.gt rfl rfl rfl (show Eng.opv 59 u' (.tmp 12) = (.bool false) from e9)) rfl ?_ (hK _ _ (Below.refl _ _) rfl)
            exact (Eng.x_ld1 (v := (.int .i64 l)) rfl ag3_to (show Eng.opv 59 u' (.tmp 13) = (.pointer (some ⟨w.heap.size, 1, none⟩)) from e10) ((((hk2).below hbW)).cell 1))
          · intro u' W hbW hkp hdp K hK
            have e9 : u' 12 = (.bool false) := hdp.1
            refine Eng.dv (Eng.gt rfl rfl rfl (show Eng.opv 59 u' (.tmp 12) = (.bool false) from e9)) rfl ?_ (hK _ _ (Below.refl _ _) rfl)
            exact (Eng.x_fa (v := (.pointer (some ⟨w.heap.size, 0, none⟩))) rfl (show Eng.opv 59 u' (.tmp 1) = (.pointer (some ⟨w.heap.size, 0, none⟩)) from hkp 1 rfl) (by kernel_rfl))
          · intro u' W hbW hkp hdp K hK
            have e9 : u' 12 = (.bool false) := hdp.2.1
            have e12 : u' 15 = (.pointer (some ⟨w.heap.size, 0, none⟩)) := hdp.1
            refine Eng.dv (Eng.gt rfl rfl rfl (show Eng.opv 59 u' (.tmp 12) = (.bool false) from e9)) rfl ?_ (hK _ _ (Below.refl _ _) rfl)
            exact (Eng.x_ld1 (v := (.int .i64 h)) rfl ag3_to (show Eng.opv 59 u' (.tmp 15) = (.pointer (some ⟨w.heap.size, 0, none⟩)) from e12) ((((hk2).below hbW)).cell 0))
          · intro u' W hbW hkp hdp K hK
            have e9 : u' 12 = (.bool false) := hdp.2.1
            have e13 : u' 16 = (.int .i64 h) := hdp.1
            refine Eng.dv (Eng.gt rfl rfl rfl (show Eng.opv 59 u' (.tmp 12) = (.bool false) from e9)) rfl ?_ (hK _ _ (Below.refl _ _) rfl)
            exact (Eng.x_quo rfl rfl (show Eng.opv 59 u' (.tmp 16) = (.int .i64 h) from e13) (by omega) (r := 48 / h) (quo48 hh))
          · intro u' W hbW hkp hdp K hK
            have e9 : u' 12 = (.bool false) := hdp.2.2.1
            have e11 : u' 14 = (.int .i64 l) := hdp.1
            have e14 : u' 17 = (.int .i64 (48 / h)) := hdp.2.1
            refine Eng.dv (Eng.gt rfl rfl rfl (show Eng.opv 59 u' (.tmp 12) = (.bool false) from e9)) rfl ?_ (hK _ _ (Below.refl _ _) rfl)
            exact (Eng.x_gt (r := true) rfl (show Eng.opv 59 u' (.tmp 14) = (.int .i64 l) from e11) (show Eng.opv 59 u' (.tmp 17) = (.int .i64 (48 / h)) from e14) (decide_eq_true (by omega)))
          · intro u' W hbW hkp hdp K hK
            have e9 : u' 12 = (.bool false) := hdp.1
            have e15 : u' 18 = (.bool true) := hdp.2.1
            refine Eng.dv rfl rfl ?_ (hK _ _ (Below.refl _ _) rfl)
            exact (Eng.x_pick (v := (.bool true)) rfl (show Eng.opv 59 u' (.tmp 12) = (.bool false) from e9) rfl (show Eng.opv 59 u' (.tmp 18) = (.bool true) from e15) rfl)
          · intro u' W hbW hkp hdp K hK
            have e16 : u' 19 = (.bool true) := hdp.1
            refine Eng.dv rfl rfl ?_ (hK _ _ (Below.refl _ _) rfl)
            exact (Eng.x_mv (v := (.bool true)) rfl (show Eng.opv 59 u' (.tmp 19) = (.bool true) from e16))
          · intro u' W hbW hkp hdp K hK
            have e17 : u' 20 = (.bool true) := hdp.1
            exact Eng.dg0 (Eng.gf rfl rfl rfl (show Eng.opv 59 u' (.tmp 20) = (.bool true) from e17)) rfl (hK _ _ (Below.refl _ _) rfl)
          · intro u' W hbW hkp hdp K hK
            have e17 : u' 20 = (.bool true) := hdp.2.1
            exact Eng.dg0 (Eng.gf rfl rfl rfl (show Eng.opv 59 u' (.tmp 20) = (.bool true) from e17)) rfl (hK _ _ (Below.refl _ _) rfl)
          · intro u' W hbW hkp hdp K hK
            have e17 : u' 20 = (.bool true) := hdp.2.1
            exact Eng.dg0 (Eng.gf rfl rfl rfl (show Eng.opv 59 u' (.tmp 20) = (.bool true) from e17)) rfl (hK _ _ (Below.refl _ _) rfl)
          · intro u' W hbW hkp hdp K hK
            have e17 : u' 20 = (.bool true) := hdp.1
            have e20 : u' 23 = undef := hdp.2.1
            refine Eng.dv rfl rfl ?_ (hK _ _ (Below.refl _ _) rfl)
            exact (Eng.x_pick (v := (.bool true)) rfl (show Eng.opv 59 u' (.tmp 20) = (.bool true) from e17) rfl (show Eng.opv 59 u' (.tmp 23) = undef from e20) rfl)
          · intro u' W hbW hkp hdp K hK
            have e21 : u' 24 = (.bool true) := hdp.1
            refine Eng.dv rfl rfl ?_ (hK _ _ (Below.refl _ _) rfl)
            exact (Eng.x_mv (v := (.bool true)) rfl (show Eng.opv 59 u' (.tmp 24) = (.bool true) from e21))
          · intro u' W hbW hkp hdp K hK
            have e22 : u' 25 = (.bool true) := hdp.1
            exact Eng.dg0 (Eng.gf rfl rfl rfl (show Eng.opv 59 u' (.tmp 25) = (.bool true) from e22)) rfl (hK _ _ (Below.refl _ _) rfl)
          · intro u' W hbW hkp hdp K hK
            have e22 : u' 25 = (.bool true) := hdp.2.1
            exact Eng.dg0 (Eng.gf rfl rfl rfl (show Eng.opv 59 u' (.tmp 25) = (.bool true) from e22)) rfl (hK _ _ (Below.refl _ _) rfl)
          · intro u' W hbW hkp hdp K hK
            have e22 : u' 25 = (.bool true) := hdp.2.1
            exact Eng.dg0 (Eng.gf rfl rfl rfl (show Eng.opv 59 u' (.tmp 25) = (.bool true) from e22)) rfl (hK _ _ (Below.refl _ _) rfl)
          · intro u' W hbW hkp hdp K hK
            have e22 : u' 25 = (.bool true) := hdp.1
            have e25 : u' 28 = undef := hdp.2.1
            refine Eng.dv rfl rfl ?_ (hK _ _ (Below.refl _ _) rfl)
            exact (Eng.x_pick (v := (.bool true)) rfl (show Eng.opv 59 u' (.tmp 25) = (.bool true) from e22) rfl (show Eng.opv 59 u' (.tmp 28) = undef from e25) rfl)
          · intro u' W hbW hkp hdp K hK
            have e26 : u' 29 = (.bool true) := hdp.1
            refine Eng.dv rfl rfl ?_ (hK _ _ (Below.refl _ _) rfl)
            exact (Eng.x_mv (v := (.bool true)) rfl (show Eng.opv 59 u' (.tmp 29) = (.bool true) from e26))
          · intro u' W hbW hkp hdp K hK
            have e27 : u' 30 = (.bool true) := hdp.1
            exact Eng.dg0 (Eng.gf rfl rfl rfl (show Eng.opv 59 u' (.tmp 30) = (.bool true) from e27)) rfl (hK _ _ (Below.refl _ _) rfl)
          · intro u' W hbW hkp hdp K hK
            have e27 : u' 30 = (.bool true) := hdp.2.1
            exact Eng.dg0 (Eng.gf rfl rfl rfl (show Eng.opv 59 u' (.tmp 30) = (.bool true) from e27)) rfl (hK _ _ (Below.refl _ _) rfl)
          · intro u' W hbW hkp hdp K hK
            have e27 : u' 30 = (.bool true) := hdp.2.1
            exact Eng.dg0 (Eng.gf rfl rfl rfl (show Eng.opv 59 u' (.tmp 30) = (.bool true) from e27)) rfl (hK _ _ (Below.refl _ _) rfl)
          · intro u' W hbW hkp hdp K hK
            have e27 : u' 30 = (.bool true) := hdp.1
            have e30 : u' 33 = undef := hdp.2.1
            refine Eng.dv rfl rfl ?_ (hK _ _ (Below.refl _ _) rfl)
            exact (Eng.x_pick (v := (.bool true)) rfl (show Eng.opv 59 u' (.tmp 30) = (.bool true) from e27) rfl (show Eng.opv 59 u' (.tmp 33) = undef from e30) rfl)
          · intro u' W hbW hkp hdp K hK
            have e31 : u' 34 = (.bool true) := hdp.1
            refine Eng.dv rfl rfl ?_ (hK _ _ (Below.refl _ _) rfl)
            exact (Eng.x_mv (v := (.bool true)) rfl (show Eng.opv 59 u' (.tmp 34) = (.bool true) from e31))
          · intro u' W hbW hkp hdp K hK
            have e32 : u' 35 = (.bool true) := hdp.1
            exact Eng.dg0 (Eng.gf rfl rfl rfl (show Eng.opv 59 u' (.tmp 35) = (.bool true) from e32)) rfl (hK _ _ (Below.refl _ _) rfl)
          · intro u' W hbW hkp hdp K hK
            have e32 : u' 35 = (.bool true) := hdp.2.1
            exact Eng.dg0 (Eng.gf rfl rfl rfl (show Eng.opv 59 u' (.tmp 35) = (.bool true) from e32)) rfl (hK _ _ (Below.refl _ _) rfl)
          · intro u' W hbW hkp hdp K hK
            have e32 : u' 35 = (.bool true) := hdp.1
            exact Eng.dg0 (Eng.gf rfl rfl rfl (show Eng.opv 59 u' (.tmp 35) = (.bool true) from e32)) rfl (hK _ _ (Below.refl _ _) rfl)
          · intro u' W hbW hkp hdp K hK
            have e32 : u' 35 = (.bool true) := hdp.2.1
            exact Eng.dg0 (Eng.gf rfl rfl rfl (show Eng.opv 59 u' (.tmp 35) = (.bool true) from e32)) rfl (hK _ _ (Below.refl _ _) rfl)
          · intro u' W hbW hkp hdp K hK
            have e32 : u' 35 = (.bool true) := hdp.2.1
            exact Eng.dg0 (Eng.gf rfl rfl rfl (show Eng.opv 59 u' (.tmp 35) = (.bool true) from e32)) rfl (hK _ _ (Below.refl _ _) rfl)
          · intro u' W hbW hkp hdp K hK
            have e32 : u' 35 = (.bool true) := hdp.2.2.1
            exact Eng.dg0 (Eng.gf rfl rfl rfl (show Eng.opv 59 u' (.tmp 35) = (.bool true) from e32)) rfl (hK _ _ (Below.refl _ _) rfl)
          · intro u' W hbW hkp hdp K hK
            have e32 : u' 35 = (.bool true) := hdp.1
            have e38 : u' 41 = undef := hdp.2.1
            refine Eng.dv rfl rfl ?_ (hK _ _ (Below.refl _ _) rfl)
            exact (Eng.x_pick (v := (.bool true)) rfl (show Eng.opv 59 u' (.tmp 35) = (.bool true) from e32) rfl (show Eng.opv 59 u' (.tmp 41) = undef from e38) rfl)
        · intro ud9 w9 hb9 hkp9 ⟨f9_0, f9_1, f9_2, f9_3, f9_4, f9_5, f9_6, f9_7, f9_8, f9_9, f9_10, f9_11, f9_12, f9_13, f9_14, f9_15, f9_16, f9_17, f9_18, f9_19, f9_20, f9_21, f9_22, f9_23, f9_24, f9_25, f9_26, f9_27, f9_28, f9_29, f9_30, f9_31, f9_32, f9_33, f9_34, f9_35, f9_36, f9_37, f9_38, f9_39, _⟩
          have hH9 : Eng.Has ud9 [(3, (.pointer (some ⟨w.heap.size, 0, none⟩))), (4, (.int .i64 h)), (5, (.bool true)), (6, (.bool false)), (7, (.bool false)), (8, (.pointer (some ⟨w.heap.size, 1, none⟩))), (9, (.int .i64 l)), (10, (.bool false)), (11, (.bool false)), (12, (.bool false)), (13, (.pointer (some ⟨w.heap.size, 1, none⟩))), (14, (.int .i64 l)), (15, (.pointer (some ⟨w.heap.size, 0, none⟩))), (16, (.int .i64 h)), (17, (.int .i64 (48 / h))), (18, (.bool true)), (19, (.bool true)), (20, (.bool true)), (21, undef), (22, undef), (23, undef), (24, (.bool true)), (25, (.bool true)), (26, undef), (27, undef), (28, undef), (29, (.bool true)), (30, (.bool true)), (31, undef), (32, undef), (33, undef), (34, (.bool true)), (35, (.bool true)), (36, undef), (37, undef), (38, undef), (39, undef), (40, undef), (41, undef), (42, (.bool true))] := ⟨f9_0, f9_1, f9_2, f9_3, f9_4, f9_5, f9_6, f9_7, f9_8, f9_9, f9_10, f9_11, f9_12, f9_13, f9_14, f9_15, f9_16, f9_17, f9_18, f9_19, f9_20, f9_21, f9_22, f9_23, f9_24, f9_25, f9_26, f9_27, f9_28, f9_29, f9_30, f9_31, f9_32, f9_33, f9_34, f9_35, f9_36, f9_37, f9_38, f9_39, trivial⟩
          obtain rfl := Eng.collect hkp9 hH9 rfl
          refine Eng.nil ?_
          refine hK4 _ _ ?_
          refine Eng.cond_t rfl ?_
          refine Eng.seqk fun K10 hK10 => ?_
          refine Eng.reg ?_
          refine Eng.sv rfl rfl (Eng.x_as (v := (.bool false)) rfl rfl) ?_
          refine Eng.nil ?_
          refine hK10 _ _ ?_
          refine Eng.rt ?_
          refine Eng.tr ?_
          refine Eng.ret (Eng.res1 (v1 := (.bool false)) rfl (Eng.rdt rfl)) ?_
          have hB0_2 : Below w.heap.size w w9 := (hb2).trans (hb9.mono (hb2).size)
          exact ⟨by rw [tvF (.inr (.inr (.inl ⟨hh, (lh hh).1 q2⟩)))], hB0_2⟩
      · skip
        have hlh : ¬ 48 < l * h := fun c => q2 ((lh hh).2 c)
        have hlh0 := (lh0 (l := l) hh (by omega) (by have := lh hh (l := l); rcases h8 hh with rfl | rfl | rfl | rfl | rfl | rfl | rfl | rfl <;> omega)).1
        by_cases q3 : i < 0
        · skip
          refine Eng.draw 40 [fun vQ _ => vQ = (.pointer (some ⟨w.heap.size, 0, none⟩)), fun vQ _ => vQ = (.int .i64 h), fun vQ _ => vQ = (.bool true), fun vQ _ => vQ = (.bool false), fun vQ _ => vQ = (.bool false), fun vQ _ => vQ = (.pointer (some ⟨w.heap.size, 1, none⟩)), fun vQ _ => vQ = (.int .i64 l), fun vQ _ => vQ = (.bool false), fun vQ _ => vQ = (.bool false), fun vQ _ => vQ = (.bool false), fun vQ _ => vQ = (.pointer (some ⟨w.heap.size, 1, none⟩)), fun vQ _ => vQ = (.int .i64 l), fun vQ _ => vQ = (.pointer (some ⟨w.heap.size, 0, none⟩)), fun vQ _ => vQ = (.int .i64 h), fun vQ _ => vQ = (.int .i64 (48 / h)), fun vQ _ => vQ = (.bool false), fun vQ _ => vQ = (.bool false), fun vQ _ => vQ = (.bool false), fun vQ _ => vQ = (.pointer (some ⟨w.heap.size, 2, none⟩)), fun vQ _ => vQ = (.int .i64 i), fun vQ _ => vQ = (.bool true), fun vQ _ => vQ = (.bool true), fun vQ _ => vQ = (.bool true), fun vQ _ => vQ = undef, fun vQ _ => vQ = undef, fun vQ _ => vQ = undef, fun vQ _ => vQ = (.bool true), fun vQ _ => vQ = (.bool true), fun vQ _ => vQ = undef, fun vQ _ => vQ = undef, fun vQ _ => vQ = undef, fun vQ _ => vQ = (.bool true), fun vQ _ => vQ = (.bool true), fun vQ _ => vQ = undef, fun vQ _ => vQ = undef, fun vQ _ => vQ = undef, fun vQ _ => vQ = undef, fun vQ _ => vQ = undef, fun vQ _ => vQ = undef, fun vQ _ => vQ = (.bool true)] (by kernel_rfl) (by kernel_rfl) (by kernel_rfl) (by kernel_rfl) rfl rfl ?_ ?_ ?_
          · exact ⟨fun _ _ _ h _ => h, fun _ _ _ h _ => h, fun _ _ _ h _ => h, fun _ _ _ h _ => h, fun _ _ _ h _ => h, fun _ _ _ h _ => h, fun _ _ _ h _ => h, fun _ _ _ h _ => h, fun _ _ _ h _ => h, fun _ _ _ h _ => h, fun _ _ _ h _ => h, fun _ _ _ h _ => h, fun _ _ _ h _ => h, fun _ _ _ h _ => h, fun _ _ _ h _ => h, fun _ _ _ h _ => h, fun _ _ _ h _ => h, fun _ _ _ h _ => h, fun _ _ _ h _ => h, fun _ _ _ h _ => h, fun _ _ _ h _ => h, fun _ _ _ h _ => h, fun _ _ _ h _ => h, fun _ _ _ h _ => h, fun _ _ _ h _ => h, fun _ _ _ h _ => h, fun _ _ _ h _ => h, fun _ _ _ h _ => h, fun _ _ _ h _ => h, fun _ _ _ h _ => h, fun _ _ _ h _ => h, fun _ _ _ h _ => h, fun _ _ _ h _ => h, fun _ _ _ h _ => h, fun _ _ _ h _ => h, fun _ _ _ h _ => h, fun _ _ _ h _ => h, fun _ _ _ h _ => h, fun _ _ _ h _ => h, fun _ _ _ h _ => h, trivial⟩
          · refine ⟨?_, ?_, ?_, ?_, ?_, ?_, ?_, ?_, ?_, ?_, ?_, ?_, ?_, ?_, ?_, ?_, ?_, ?_, ?_, ?_, ?_, ?_, ?_, ?_, ?_, ?_, ?_, ?_, ?_, ?_, ?_, ?_, ?_, ?_, ?_, ?_, ?_, ?_, ?_, ?_, trivial⟩
            · intro u' W hbW hkp hdp K hK
              refine Eng.dv rfl rfl ?_ (hK _ _ (Below.refl _ _) rfl)
              exact (Eng.x_fa (v := (.pointer (some ⟨w.heap.size, 0, none⟩))) rfl (show Eng.opv 59 u' (.tmp 1) = (.pointer (some ⟨w.heap.size, 0, none⟩)) from hkp 1 rfl) (by kernel_rfl))
            · intro u' W hbW hkp hdp K hK
              have e0 : u' 3 = (.pointer (some ⟨w.heap.size, 0, none⟩)) := hdp.1
              refine Eng.dv rfl rfl ?_ (hK _ _ (Below.refl _ _) rfl)
              exact (Eng.x_ld1 (v := (.int .i64 h)) rfl ag3_to (show Eng.opv 59 u' (.tmp 3) = (.pointer (some ⟨w.heap.size, 0, none⟩)) from e0) ((((hk2).below hbW)).cell 0))
            · intro u' W hbW hkp hdp K hK
              have e1 : u' 4 = (.int .i64 h) := hdp.1
              refine Eng.dc (vs := #[(.int .i64 h)]) rfl ?_ (height_is hh _) ?_
              · exact Eng.xc (xs := #[(Go.Operand.tmp 4)]) (vl := [(.int .i64 h)]) rfl rfl (Eng.lc (show Eng.opv 59 u' (.tmp 4) = (.int .i64 h) from e1) rfl) en49_to
              rintro _ W2 ⟨rfl, hb2⟩
              exact Eng.aft_v rfl (hK _ _ hb2 rfl)
            · intro u' W hbW hkp hdp K hK
              have e2 : u' 5 = (.bool true) := hdp.1
              refine Eng.dv rfl rfl ?_ (hK _ _ (Below.refl _ _) rfl)
              exact (Eng.x_not (v := (.bool false)) rfl (show Eng.opv 59 u' (.tmp 5) = (.bool true) from e2) rfl)
            · intro u' W hbW hkp hdp K hK
              have e3 : u' 6 = (.bool false) := hdp.1
              refine Eng.dv rfl rfl ?_ (hK _ _ (Below.refl _ _) rfl)
              exact (Eng.x_mv (v := (.bool false)) rfl (show Eng.opv 59 u' (.tmp 6) = (.bool false) from e3))
            · intro u' W hbW hkp hdp K hK
              have e4 : u' 7 = (.bool false) := hdp.1
              refine Eng.dv (Eng.gt rfl rfl rfl (show Eng.opv 59 u' (.tmp 7) = (.bool false) from e4)) rfl ?_ (hK _ _ (Below.refl _ _) rfl)
              exact (Eng.x_fa (v := (.pointer (some ⟨w.heap.size, 1, none⟩))) rfl (show Eng.opv 59 u' (.tmp 1) = (.pointer (some ⟨w.heap.size, 0, none⟩)) from hkp 1 rfl) (by kernel_rfl))
            · intro u' W hbW hkp hdp K hK
              have e4 : u' 7 = (.bool false) := hdp.2.1
              have e5 : u' 8 = (.pointer (some ⟨w.heap.size, 1, none⟩)) := hdp.1
              refine Eng.dv (Eng.gt rfl rfl rfl (show Eng.opv 59 u' (.tmp 7) = (.bool false) from e4)) rfl ?_ (hK _ _ (Below.refl _ _) rfl)
              exact (Eng.x_ld1 (v := (.int .i64 l)) rfl ag3_to (show Eng.opv 59 u' (.tmp 8) = (.pointer (some ⟨w.heap.size, 1, none⟩)) from e5) ((((hk2).below hbW)).cell 1))
            · intro u' W hbW hkp hdp K hK
              have e4 : u' 7 = (.bool false) := hdp.2.1
              have e6 : u' 9 = (.int .i64 l) := hdp.1
              refine Eng.dv (Eng.gt rfl rfl rfl (show Eng.opv 59 u' (.tmp 7) = (.bool false) from e4)) rfl ?_ (hK _ _ (Below.refl _ _) rfl)
              exact (Eng.x_lt (r := false) rfl (show Eng.opv 59 u' (.tmp 9) = (.int .i64 l) from e6) rfl (decide_eq_false (by omega)))
            · intro u' W hbW hkp hdp K hK
              have e4 : u' 7 = (.bool false) := hdp.1
              have e7 : u' 10 = (.bool false) := hdp.2.1
              refine Eng.dv rfl rfl ?_ (hK _ _ (Below.refl _ _) rfl)
              exact (Eng.x_pick (v := (.bool false)) rfl (show Eng.opv 59 u' (.tmp 7) = (.bool false) from e4) rfl (show Eng.opv 59 u' (.tmp 10) = (.bool false) from e7) rfl)
            · intro u' W hbW hkp hdp K hK
              have e8 : u' 11 = (.bool false) := hdp.1
              refine Eng.dv rfl rfl ?_ (hK _ _ (Below.refl _ _) rfl)
              exact (Eng.x_mv (v := (.bool false)) rfl (show Eng.opv 59 u' (.tmp 11) = (.bool false) from e8))
            · intro u' W hbW hkp hdp K hK
              have e9 : u' 12 = (.bool false) := hdp.1
              refine Eng.dv (Eng.gt rfl rfl rfl (show Eng.opv 59 u' (.tmp 12) = (.bool false) from e9)) rfl ?_ (hK _ _ (Below.refl _ _) rfl)
              exact (Eng.x_fa (v := (.pointer (some ⟨w.heap.size, 1, none⟩))) rfl (show Eng.opv 59 u' (.tmp 1) = (.pointer (some ⟨w.heap.size, 0, none⟩)) from hkp 1 rfl) (by kernel_rfl))
            · intro u' W hbW hkp hdp K hK
              have e9 : u' 12 = (.bool false) := hdp.2.1
              have e10 : u' 13 = (.pointer (some ⟨w.heap.size, 1, none⟩)) := hdp.1
              refine Eng.dv (Eng.gt rfl rfl rfl (show Eng.opv 59 u' (.tmp 12) = (.bool false) from e9)) rfl ?_ (hK _ _ (Below.refl _ _) rfl)
              exact (Eng.x_ld1 (v := (.int .i64 l)) rfl ag3_to (show Eng.opv 59 u' (.tmp 13) = (.pointer (some ⟨w.heap.size, 1, none⟩)) from e10) ((((hk2).below hbW)).cell 1))
            · intro u' W hbW hkp hdp K hK
              have e9 : u' 12 = (.bool false) := hdp.1
              refine Eng.dv (Eng.gt rfl rfl rfl (show Eng.opv 59 u' (.tmp 12) = (.bool false) from e9)) rfl ?_ (hK _ _ (Below.refl _ _) rfl)
              exact (Eng.x_fa (v := (.pointer (some ⟨w.heap.size, 0, none⟩))) rfl (show Eng.opv 59 u' (.tmp 1) = (.pointer (some ⟨w.heap.size, 0, none⟩)) from hkp 1 rfl) (by kernel_rfl))
            · intro u' W hbW hkp hdp K hK
              have e9 : u' 12 = (.bool false) := hdp.2.1
              have e12 : u' 15 = (.pointer (some ⟨w.heap.size, 0, none⟩)) := hdp.1
              refine Eng.dv (Eng.gt rfl rfl rfl (show Eng.opv 59 u' (.tmp 12) = (.bool false) from e9)) rfl ?_ (hK _ _ (Below.refl _ _) rfl)
              exact (Eng.x_ld1 (v := (.int .i64 h)) rfl ag3_to (show Eng.opv 59 u' (.tmp 15) = (.pointer (some ⟨w.heap.size, 0, none⟩)) from e12) ((((hk2).below hbW)).cell 0))
            · intro u' W hbW hkp hdp K hK
              have e9 : u' 12 = (.bool false) := hdp.2.1
              have e13 : u' 16 = (.int .i64 h) := hdp.1
              refine Eng.dv (Eng.gt rfl rfl rfl (show Eng.opv 59 u' (.tmp 12) = (.bool false) from e9)) rfl ?_ (hK _ _ (Below.refl _ _) rfl)
              exact (Eng.x_quo rfl rfl (show Eng.opv 59 u' (.tmp 16) = (.int .i64 h) from e13) (by omega) (r := 48 / h) (quo48 hh))
            · intro u' W hbW hkp hdp K hK
              have e9 : u' 12 = (.bool false) := hdp.2.2.1
              have e11 : u' 14 = (.int .i64 l) := hdp.1
              have e14 : u' 17 = (.int .i64 (48 / h)) := hdp.2.1
              refine Eng.dv (Eng.gt rfl rfl rfl (show Eng.opv 59 u' (.tmp 12) = (.bool false) from e9)) rfl ?_ (hK _ _ (Below.refl _ _) rfl)
              exact (Eng.x_gt (r := false) rfl (show Eng.opv 59 u' (.tmp 14) = (.int .i64 l) from e11) (show Eng.opv 59 u' (.tmp 17) = (.int .i64 (48 / h)) from e14) (decide_eq_false (by omega)))
            · intro u' W hbW hkp hdp K hK
              have e9 : u' 12 = (.bool false) := hdp.1
              have e15 : u' 18 = (.bool false) := hdp.2.1
              refine Eng.dv rfl rfl ?_ (hK _ _ (Below.refl _ _) rfl)
              exact (Eng.x_pick (v := (.bool false)) rfl (show Eng.opv 59 u' (.tmp 12) = (.bool false) from e9) rfl (show Eng.opv 59 u' (.tmp 18) = (.bool false) from e15) rfl)
            · intro u' W hbW hkp hdp K hK
              have e16 : u' 19 = (.bool false) := hdp.1
              refine Eng.dv rfl rfl ?_ (hK _ _ (Below.refl _ _) rfl)
              exact (Eng.x_mv (v := (.bool false)) rfl (show Eng.opv 59 u' (.tmp 19) = (.bool false) from e16))
            · intro u' W hbW hkp hdp K hK
              have e17 : u' 20 = (.bool false) := hdp.1
              refine Eng.dv (Eng.gt rfl rfl rfl (show Eng.opv 59 u' (.tmp 20) = (.bool false) from e17)) rfl ?_ (hK _ _ (Below.refl _ _) rfl)
              exact (Eng.x_fa (v := (.pointer (some ⟨w.heap.size, 2, none⟩))) rfl (show Eng.opv 59 u' (.tmp 1) = (.pointer (some ⟨w.heap.size, 0, none⟩)) from hkp 1 rfl) (by kernel_rfl))
            · intro u' W hbW hkp hdp K hK
              have e17 : u' 20 = (.bool false) := hdp.2.1
              have e18 : u' 21 = (.pointer (some ⟨w.heap.size, 2, none⟩)) := hdp.1
              refine Eng.dv (Eng.gt rfl rfl rfl (show Eng.opv 59 u' (.tmp 20) = (.bool false) from e17)) rfl ?_ (hK _ _ (Below.refl _ _) rfl)
              exact (Eng.x_ld1 (v := (.int .i64 i)) rfl ag3_to (show Eng.opv 59 u' (.tmp 21) = (.pointer (some ⟨w.heap.size, 2, none⟩)) from e18) ((((hk2).below hbW)).cell 2))
            · intro u' W hbW hkp hdp K hK
              have e17 : u' 20 = (.bool false) := hdp.2.1
              have e19 : u' 22 = (.int .i64 i) := hdp.1
              refine Eng.dv (Eng.gt rfl rfl rfl (show Eng.opv 59 u' (.tmp 20) = (.bool false) from e17)) rfl ?_ (hK _ _ (Below.refl _ _) rfl)
              exact (Eng.x_lt (r := true) rfl (show Eng.opv 59 u' (.tmp 22) = (.int .i64 i) from e19) rfl (decide_eq_true (by omega)))
            · intro u' W hbW hkp hdp K hK
              have e17 : u' 20 = (.bool false) := hdp.1
              have e20 : u' 23 = (.bool true) := hdp.2.1
              refine Eng.dv rfl rfl ?_ (hK _ _ (Below.refl _ _) rfl)
              exact (Eng.x_pick (v := (.bool true)) rfl (show Eng.opv 59 u' (.tmp 20) = (.bool false) from e17) rfl (show Eng.opv 59 u' (.tmp 23) = (.bool true) from e20) rfl)
            · intro u' W hbW hkp hdp K hK
              have e21 : u' 24 = (.bool true) := hdp.1
              refine Eng.dv rfl rfl ?_ (hK _ _ (Below.refl _ _) rfl)
              exact (Eng.x_mv (v := (.bool true)) rfl (show Eng.opv 59 u' (.tmp 24) = (.bool true) from e21))
            · intro u' W hbW hkp hdp K hK
              have e22 : u' 25 = (.bool true) := hdp.1
              exact Eng.dg0 (Eng.gf rfl rfl rfl (show Eng.opv 59 u' (.tmp 25) = (.bool true) from e22)) rfl (hK _ _ (Below.refl _ _) rfl)
            · intro u' W hbW hkp hdp K hK
              have e22 : u' 25 = (.bool true) := hdp.2.1
              exact Eng.dg0 (Eng.gf rfl rfl rfl (show Eng.opv 59 u' (.tmp 25) = (.bool true) from e22)) rfl (hK _ _ (Below.refl _ _) rfl)
            · intro u' W hbW hkp hdp K hK
              have e22 : u' 25 = (.bool true) := hdp.2.1
              exact Eng.dg0 (Eng.gf rfl rfl rfl (show Eng.opv 59 u' (.tmp 25) = (.bool true) from e22)) rfl (hK _ _ (Below.refl _ _) rfl)
            · intro u' W hbW hkp hdp K hK
              have e22 : u' 25 = (.bool true) := hdp.1
              have e25 : u' 28 = undef := hdp.2.1
              refine Eng.dv rfl rfl ?_ (hK _ _ (Below.refl _ _) rfl)
              exact (Eng.x_pick (v := (.bool true)) rfl (show Eng.opv 59 u' (.tmp 25) = (.bool true) from e22) rfl (show Eng.opv 59 u' (.tmp 28) = undef from e25) rfl)
            · intro u' W hbW hkp hdp K hK
              have e26 : u' 29 = (.bool true) := hdp.1
              refine Eng.dv rfl rfl ?_ (hK _ _ (Below.refl _ _) rfl)
              exact (Eng.x_mv (v := (.bool true)) rfl (show Eng.opv 59 u' (.tmp 29) = (.bool true) from e26))
            · intro u' W hbW hkp hdp K hK
              have e27 : u' 30 = (.bool true) := hdp.1
              exact Eng.dg0 (Eng.gf rfl rfl rfl (show Eng.opv 59 u' (.tmp 30) = (.bool true) from e27)) rfl (hK _ _ (Below.refl _ _) rfl)
            · intro u' W hbW hkp hdp K hK
              have e27 : u' 30 = (.bool true) := hdp.2.1
              exact Eng.dg0 (Eng.gf rfl rfl rfl (show Eng.opv 59 u' (.tmp 30) = (.bool true) from e27)) rfl (hK _ _ (Below.refl _ _) rfl)
            · intro u' W hbW hkp hdp K hK
              have e27 : u' 30 = (.bool true) := hdp.2.1
              exact Eng.dg0 (Eng.gf rfl rfl rfl (show Eng.opv 59 u' (.tmp 30) = (.bool true) from e27)) rfl (hK _ _ (Below.refl _ _) rfl)
            · intro u' W hbW hkp hdp K hK
              have e27 : u' 30 = (.bool true) := hdp.1
              have e30 : u' 33 = undef := hdp.2.1
              refine Eng.dv rfl rfl ?_ (hK _ _ (Below.refl _ _) rfl)
              exact (Eng.x_pick (v := (.bool true)) rfl (show Eng.opv 59 u' (.tmp 30) = (.bool true) from e27) rfl (show Eng.opv 59 u' (.tmp 33) = undef from e30) rfl)
            · intro u' W hbW hkp hdp K hK
              have e31 : u' 34 = (.bool true) := hdp.1
              refine Eng.dv rfl rfl ?_ (hK _ _ (Below.refl _ _) rfl)
              exact (Eng.x_mv (v := (.bool true)) rfl (show Eng.opv 59 u' (.tmp 34) = (.bool true) from e31))
            · intro u' W hbW hkp hdp K hK
              have e32 : u' 35 = (.bool true) := hdp.1
              exact Eng.dg0 (Eng.gf rfl rfl rfl (show Eng.opv 59 u' (.tmp 35) = (.bool true) from e32)) rfl (hK _ _ (Below.refl _ _) rfl)
            · intro u' W hbW hkp hdp K hK
              have e32 : u' 35 = (.bool true) := hdp.2.1
              exact Eng.dg0 (Eng.gf rfl rfl rfl (show Eng.opv 59 u' (.tmp 35) = (.bool true) from e32)) rfl (hK _ _ (Below.refl _ _) rfl)
            · intro u' W hbW hkp hdp K hK
              have e32 : u' 35 = (.bool true) := hdp.1
              exact Eng.dg0 (Eng.gf rfl rfl rfl (show Eng.opv 59 u' (.tmp 35) = (.bool true) from e32)) rfl (hK _ _ (Below.refl _ _) rfl)
            · intro u' W hbW hkp hdp K hK
              have e32 : u' 35 = (.bool true) := hdp.2.1
              exact Eng.dg0 (Eng.gf rfl rfl rfl (show Eng.opv 59 u' (.tmp 35) = (.bool true) from e32)) rfl (hK _ _ (Below.refl _ _) rfl)
            · intro u' W hbW hkp hdp K hK
              have e32 : u' 35 = (.bool true) := hdp.2.1
              exact Eng.dg0 (Eng.gf rfl rfl rfl (show Eng.opv 59 u' (.tmp 35) = (.bool true) from e32)) rfl (hK _ _ (Below.refl _ _) rfl)
            · intro u' W hbW hkp hdp K hK
              have e32 : u' 35 = (.bool true) := hdp.2.2.1
              exact Eng.dg0 (Eng.gf rfl rfl rfl (show Eng.opv 59 u' (.tmp 35) = (.bool true) from e32)) rfl (hK _ _ (Below.refl _ _) rfl)
            · intro u' W hbW hkp hdp K hK
              have e32 : u' 35 = (.bool true) := hdp.1
              have e38 : u' 41 = undef := hdp.2.1
              refine Eng.dv rfl rfl ?_ (hK _ _ (Below.refl _ _) rfl)
              exact (Eng.x_pick (v := (.bool true)) rfl (show Eng.opv 59 u' (.tmp 35) = (.bool true) from e32) rfl (show Eng.opv 59 u' (.tmp 41) = undef from e38) rfl)
          · intro ud11 w11 hb11 hkp11 ⟨f11_0, f11_1, f11_2, f11_3, f11_4, f11_5, f11_6, f11_7, f11_8, f11_9, f11_10, f11_11, f11_12, f11_13, f11_14, f11_15, f11_16, f11_17, f11_18, f11_19, f11_20, f11_21, f11_22, f11_23, f11_24, f11_25, f11_26, f11_27, f11_28, f11_29, f11_30, f11_31, f11_32, f11_33, f11_34, f11_35, f11_36, f11_37, f11_38, f11_39, _⟩
            have hH11 : Eng.Has ud11 [(3, (.pointer (some ⟨w.heap.size, 0, none⟩))), (4, (.int .i64 h)), (5, (.bool true)), (6, (.bool false)), (7, (.bool false)), (8, (.pointer (some ⟨w.heap.size, 1, none⟩))), (9, (.int .i64 l)), (10, (.bool false)), (11, (.bool false)), (12, (.bool false)), (13, (.pointer (some ⟨w.heap.size, 1, none⟩))), (14, (.int .i64 l)), (15, (.pointer (some ⟨w.heap.size, 0, none⟩))), (16, (.int .i64 h)), (17, (.int .i64 (48 / h))), (18, (.bool false)), (19, (.bool false)), (20, (.bool false)), (21, (.pointer (some ⟨w.heap.size, 2, none⟩))), (22, (.int .i64 i)), (23, (.bool true)), (24, (.bool true)), (25, (.bool true)), (26, undef), (27, undef), (28, undef), (29, (.bool true)), (30, (.bool true)), (31, undef), (32, undef), (33, undef), (34, (.bool true)), (35, (.bool true)), (36, undef), (37, undef), (38, undef), (39, undef), (40, undef), (41, undef), (42, (.bool true))] := ⟨f11_0, f11_1, f11_2, f11_3, f11_4, f11_5, f11_6, f11_7, f11_8, f11_9, f11_10, f11_11, f11_12, f11_13, f11_14, f11_15, f11_16, f11_17, f11_18, f11_19, f11_20, f11_21, f11_22, f11_23, f11_24, f11_25, f11_26, f11_27, f11_28, f11_29, f11_30, f11_31, f11_32, f11_33, f11_34, f11_35, f11_36, f11_37, f11_38, f11_39, trivial⟩
            obtain rfl := Eng.collect hkp11 hH11 rfl
            refine Eng.nil ?_
            refine hK4 _ _ ?_
            refine Eng.cond_t rfl ?_
            refine Eng.seqk fun K12 hK12 => ?_
            refine Eng.reg ?_
            refine Eng.sv rfl rfl (Eng.x_as (v := (.bool false)) rfl rfl) ?_
            refine Eng.nil ?_
            refine hK12 _ _ ?_
            refine Eng.rt ?_
            refine Eng.tr ?_
            refine Eng.ret (Eng.res1 (v1 := (.bool false)) rfl (Eng.rdt rfl)) ?_
            have hB0_2 : Below w.heap.size w w11 := (hb2).trans (hb11.mono (hb2).size)
            exact ⟨by rw [tvF (.inr (.inr (.inr (.inl q3))))], hB0_2⟩
        · skip
          by_cases q4 : 281474976710656 < i
          · skip
            refine Eng.draw 40 [fun vQ _ => vQ = (.pointer (some ⟨w.heap.size, 0, none⟩)), fun vQ _ => vQ = (.int .i64 h), fun vQ _ => vQ = (.bool true), fun vQ _ => vQ = (.bool false), fun vQ _ => vQ = (.bool false), fun vQ _ => vQ = (.pointer (some ⟨w.heap.size, 1, none⟩)), fun vQ _ => vQ = (.int .i64 l), fun vQ _ => vQ = (.bool false), fun vQ _ => vQ = (.bool false), fun vQ _ => vQ = (.bool false), fun vQ _ => vQ = (.pointer (some ⟨w.heap.size, 1, none⟩)), fun vQ _ => vQ = (.int .i64 l), fun vQ _ => vQ = (.pointer (some ⟨w.heap.size, 0, none⟩)), fun vQ _ => vQ = (.int .i64 h), fun vQ _ => vQ = (.int .i64 (48 / h)), fun vQ _ => vQ = (.bool false), fun vQ _ => vQ = (.bool false), fun vQ _ => vQ = (.bool false), fun vQ _ => vQ = (.pointer (some ⟨w.heap.size, 2, none⟩)), fun vQ _ => vQ = (.int .i64 i), fun vQ _ => vQ = (.bool false), fun vQ _ => vQ = (.bool false), fun vQ _ => vQ = (.bool false), fun vQ _ => vQ = (.pointer (some ⟨w.heap.size, 2, none⟩)), fun vQ _ => vQ = (.int .i64 i), fun vQ _ => vQ = (.bool true), fun vQ _ => vQ = (.bool true), fun vQ _ => vQ = (.bool true), fun vQ _ => vQ = undef, fun vQ _ => vQ = undef, fun vQ _ => vQ = undef, fun vQ _ => vQ = (.bool true), fun vQ _ => vQ = (.bool true), fun vQ _ => vQ = undef, fun vQ _ => vQ = undef, fun vQ _ => vQ = undef, fun vQ _ => vQ = undef, fun vQ _ => vQ = undef, fun vQ _ => vQ = undef, fun vQ _ => vQ = (.bool true)] (by kernel_rfl) (by kernel_rfl) (by kernel_rfl) (by kernel_rfl) rfl rfl ?_ ?_ ?_
            · exact ⟨fun _ _ _ h _ => h, fun _ _ _ h _ => h, fun _ _ _ h _ => h, fun _ _ _ h _ => h, fun _ _ _ h _ => h, fun _ _ _ h _ => h, fun _ _ _ h _ => h, fun _ _ _ h _ => h, fun _ _ _ h _ => h, fun _ _ _ h _ => h, fun _ _ _ h _ => h, fun _ _ _ h _ => h, fun _ _ _ h _ => h, fun _ _ _ h _ => h, fun _ _ _ h _ => h, fun _ _ _ h _ => h, fun _ _ _ h _ => h, fun _ _ _ h _ => h, fun _ _ _ h _ => h, fun _ _ _ h _ => h, fun _ _ _ h _ => h, fun _ _ _ h _ => h, fun _ _ _ h _ => h, fun _ _ _ h _ => h, fun _ _ _ h _ => h, fun _ _ _ h _ => h, fun _ _ _ h _ => h, fun _ _ _ h _ => h, fun _ _ _ h _ => h, fun _ _ _ h _ => h, fun _ _ _ h _ => h, fun _ _ _ h _ => h, fun _ _ _ h _ => h, fun _ _ _ h _ => h, fun _ _ _ h _ => h, fun _ _ _ h _ => h, fun _ _ _ h _ => h, fun _ _ _ h _ => h, fun _ _ _ h _ => h, fun _ _ _ h _ => h, trivial⟩
            · refine ⟨?_, ?_, ?_, ?_, ?_, ?_, ?_, ?_, ?_, ?_, ?_, ?_, ?_, ?_, ?_, ?_, ?_, ?_, ?_, ?_, ?_, ?_, ?_, ?_, ?_, ?_, ?_, ?_, ?_, ?_, ?_, ?_, ?_, ?_, ?_, ?_, ?_, ?_, ?_, ?_, trivial⟩
              · intro u' W hbW hkp hdp K hK
                refine Eng.dv rfl rfl ?_ (hK _ _ (Below.refl _ _) rfl)
                exact (Eng.x_fa (v := (.pointer (some ⟨w.heap.size, 0, none⟩))) rfl (show Eng.opv 59 u' (.tmp 1) = (.pointer (some ⟨w.heap.size, 0, none⟩)) from hkp 1 rfl) (by kernel_rfl))
              · intro u' W hbW hkp hdp K hK
                have e0 : u' 3 = (.pointer (some ⟨w.heap.size, 0, none⟩)) := hdp.1
                refine Eng.dv rfl rfl ?_ (hK _ _ (Below.refl _ _) rfl)
                exact (Eng.x_ld1 (v := (.int .i64 h)) rfl ag3_to (show Eng.opv 59 u' (.tmp 3) = (.pointer (some ⟨w.heap.size, 0, none⟩)) from e0) ((((hk2).below hbW)).cell 0))
              · intro u' W hbW hkp hdp K hK
                have e1 : u' 4 = (.int .i64 h) := hdp.1
                refine Eng.dc (vs := #[(.int .i64 h)]) rfl ?_ (height_is hh _) ?_
                · exact Eng.xc (xs := #[(Go.Operand.tmp 4)]) (vl := [(.int .i64 h)]) rfl rfl (Eng.lc (show Eng.opv 59 u' (.tmp 4) = (.int .i64 h) from e1) rfl) en49_to
                rintro _ W2 ⟨rfl, hb2⟩
                exact Eng.aft_v rfl (hK _ _ hb2 rfl)
              · intro u' W hbW hkp hdp K hK
                have e2 : u' 5 = (.bool true) := hdp.1
                refine Eng.dv rfl rfl ?_ (hK _ _ (Below.refl _ _) rfl)
                exact (Eng.x_not (v := (.bool false)) rfl (show Eng.opv 59 u' (.tmp 5) = (.bool true) from e2) rfl)
              · intro u' W hbW hkp hdp K hK
                have e3 : u' 6 = (.bool false) := hdp.1
                refine Eng.dv rfl rfl ?_ (hK _ _ (Below.refl _ _) rfl)
                exact (Eng.x_mv (v := (.bool false)) rfl (show Eng.opv 59 u' (.tmp 6) = (.bool false) from e3))
              · intro u' W hbW hkp hdp K hK
                have e4 : u' 7 = (.bool false) := hdp.1
                refine Eng.dv (Eng.gt rfl rfl rfl (show Eng.opv 59 u' (.tmp 7) = (.bool false) from e4)) rfl ?_ (hK _ _ (Below.refl _ _) rfl)
                exact (Eng.x_fa (v := (.pointer (some ⟨w.heap.size, 1, none⟩))) rfl (show Eng.opv 59 u' (.tmp 1) = (.pointer (some ⟨w.heap.size, 0, none⟩)) from hkp 1 rfl) (by kernel_rfl))
              · intro u' W hbW hkp hdp K hK
                have e4 : u' 7 = (.bool false) := hdp.2.1
                have e5 : u' 8 = (.pointer (some ⟨w.heap.size, 1, none⟩)) := hdp.1
                refine Eng.dv (Eng.gt rfl rfl rfl (show Eng.opv 59 u' (.tmp 7) = (.bool false) from e4)) rfl ?_ (hK _ _ (Below.refl _ _) rfl)
                exact (Eng.x_ld1 (v := (.int .i64 l)) rfl ag3_to (show Eng.opv 59 u' (.tmp 8) = (.pointer (some ⟨w.heap.size, 1, none⟩)) from e5) ((((hk2).below hbW)).cell 1))
              · intro u' W hbW hkp hdp K hK
                have e4 : u' 7 = (.bool false) := hdp.2.1
                have e6 : u' 9 = (.int .i64 l) := hdp.1
                refine Eng.dv (Eng.gt rfl rfl rfl (show Eng.opv 59 u' (.tmp 7) = (.bool false) from e4)) rfl ?_ (hK _ _ (Below.refl _ _) rfl)
                exact (Eng.x_lt (r := false) rfl (show Eng.opv 59 u' (.tmp 9) = (.int .i64 l) from e6) rfl (decide_eq_false (by omega)))
              · intro u' W hbW hkp hdp K hK
                have e4 : u' 7 = (.bool false) := hdp.1
                have e7 : u' 10 = (.bool false) := hdp.2.1
                refine Eng.dv rfl rfl ?_ (hK _ _ (Below.refl _ _) rfl)
                exact (Eng.x_pick (v := (.bool false)) rfl (show Eng.opv 59 u' (.tmp 7) = (.bool false) from e4) rfl (show Eng.opv 59 u' (.tmp 10) = (.bool false) from e7) rfl)
              · intro u' W hbW hkp hdp K hK
                have e8 : u' 11 = (.bool false) := hdp.1
                refine Eng.dv rfl rfl ?_ (hK _ _ (Below.refl _ _) rfl)
                exact (Eng.x_mv (v := (.bool false)) rfl (show Eng.opv 59 u' (.tmp 11) = (.bool false) from e8))
              · intro u' W hbW hkp hdp K hK
                have e9 : u' 12 = (.bool false) := hdp.1
                refine Eng.dv (Eng.gt rfl rfl rfl (show Eng.opv 59 u' (.tmp 12) = (.bool false) from e9)) rfl ?_ (hK _ _ (Below.refl _ _) rfl)
                exact (Eng.x_fa (v := (.pointer (some ⟨w.heap.size, 1, none⟩))) rfl (show Eng.opv 59 u' (.tmp 1) = (.pointer (some ⟨w.heap.size, 0, none⟩)) from hkp 1 rfl) (by kernel_rfl))
              · intro u' W hbW hkp hdp K hK
                have e9 : u' 12 = (.bool false) := hdp.2.1
                have e10 : u' 13 = (.pointer (some ⟨w.heap.size, 1, none⟩)) := hdp.1
                refine Eng.dv (Eng.gt rfl rfl rfl (show Eng.opv 59 u' (.tmp 12) = (.bool false) from e9)) rfl ?_ (hK _ _ (Below.refl _ _) rfl)
                exact (Eng.x_ld1 (v := (.int .i64 l)) rfl ag3_to (show Eng.opv 59 u' (.tmp 13) = (.pointer (some ⟨w.heap.size, 1, none⟩)) from e10) ((((hk2).below hbW)).cell 1))
              · intro u' W hbW hkp hdp K hK
                have e9 : u' 12 = (.bool false) := hdp.1
                refine Eng.dv (Eng.gt rfl rfl rfl (show Eng.opv 59 u' (.tmp 12) = (.bool false) from e9)) rfl ?_ (hK _ _ (Below.refl _ _) rfl)
                exact (Eng.x_fa (v := (.pointer (some ⟨w.heap.size, 0, none⟩))) rfl (show Eng.opv 59 u' (.tmp 1) = (.pointer (some ⟨w.heap.size, 0, none⟩)) from hkp 1 rfl) (by kernel_rfl))
              · intro u' W hbW hkp hdp K hK
                have e9 : u' 12 = (.bool false) := hdp.2.1
                have e12 : u' 15 = (.pointer (some ⟨w.heap.size, 0, none⟩)) := hdp.1
                refine Eng.dv (Eng.gt rfl rfl rfl (show Eng.opv 59 u' (.tmp 12) = (.bool false) from e9)) rfl ?_ (hK _ _ (Below.refl _ _) rfl)
                exact (Eng.x_ld1 (v := (.int .i64 h)) rfl ag3_to (show Eng.opv 59 u' (.tmp 15) = (.pointer (some ⟨w.heap.size, 0, none⟩)) from e12) ((((hk2).below hbW)).cell 0))
              · intro u' W hbW hkp hdp K hK
                have e9 : u' 12 = (.bool false) := hdp.2.1
                have e13 : u' 16 = (.int .i64 h) := hdp.1
                refine Eng.dv (Eng.gt rfl rfl rfl (show Eng.opv 59 u' (.tmp 12) = (.bool false) from e9)) rfl ?_ (hK _ _ (Below.refl _ _) rfl)
                exact (Eng.x_quo rfl rfl (show Eng.opv 59 u' (.tmp 16) = (.int .i64 h) from e13) (by omega) (r := 48 / h) (quo48 hh))
              · intro u' W hbW hkp hdp K hK
                have e9 : u' 12 = (.bool false) := hdp.2.2.1
                have e11 : u' 14 = (.int .i64 l) := hdp.1
                have e14 : u' 17 = (.int .i64 (48 / h)) := hdp.2.1
                refine Eng.dv (Eng.gt rfl rfl rfl (show Eng.opv 59 u' (.tmp 12) = (.bool false) from e9)) rfl ?_ (hK _ _ (Below.refl _ _) rfl)
                exact (Eng.x_gt (r := false) rfl (show Eng.opv 59 u' (.tmp 14) = (.int .i64 l) from e11) (show Eng.opv 59 u' (.tmp 17) = (.int .i64 (48 / h)) from e14) (decide_eq_false (by omega)))
              · intro u' W hbW hkp hdp K hK
                have e9 : u' 12 = (.bool false) := hdp.1
                have e15 : u' 18 = (.bool false) := hdp.2.1
                refine Eng.dv rfl rfl ?_ (hK _ _ (Below.refl _ _) rfl)
                exact (Eng.x_pick (v := (.bool false)) rfl (show Eng.opv 59 u' (.tmp 12) = (.bool false) from e9) rfl (show Eng.opv 59 u' (.tmp 18) = (.bool false) from e15) rfl)
              · intro u' W hbW hkp hdp K hK
                have e16 : u' 19 = (.bool false) := hdp.1
                refine Eng.dv rfl rfl ?_ (hK _ _ (Below.refl _ _) rfl)
                exact (Eng.x_mv (v := (.bool false)) rfl (show Eng.opv 59 u' (.tmp 19) = (.bool false) from e16))
              · intro u' W hbW hkp hdp K hK
                have e17 : u' 20 = (.bool false) := hdp.1
                refine Eng.dv (Eng.gt rfl rfl rfl (show Eng.opv 59 u' (.tmp 20) = (.bool false) from e17)) rfl ?_ (hK _ _ (Below.refl _ _) rfl)
                exact (Eng.x_fa (v := (.pointer (some ⟨w.heap.size, 2, none⟩))) rfl (show Eng.opv 59 u' (.tmp 1) = (.pointer (some ⟨w.heap.size, 0, none⟩)) from hkp 1 rfl) (by kernel_rfl))
              · intro u' W hbW hkp hdp K hK
                have e17 : u' 20 = (.bool false) := hdp.2.1
                have e18 : u' 21 = (.pointer (some ⟨w.heap.size, 2, none⟩)) := hdp.1
                refine Eng.dv (Eng.gt rfl rfl rfl (show Eng.opv 59 u' (.tmp 20) = (.bool false) from e17)) rfl ?_ (hK _ _ (Below.refl _ _) rfl)
                exact (Eng.x_ld1 (v := (.int .i64 i)) rfl ag3_to (show Eng.opv 59 u' (.tmp 21) = (.pointer (some ⟨w.heap.size, 2, none⟩)) from e18) ((((hk2).below hbW)).cell 2))
              · intro u' W hbW hkp hdp K hK
                have e17 : u' 20 = (.bool false) := hdp.2.1
                have e19 : u' 22 = (.int .i64 i) := hdp.1
                refine Eng.dv (Eng.gt rfl rfl rfl (show Eng.opv 59 u' (.tmp 20) = (.bool false) from e17)) rfl ?_ (hK _ _ (Below.refl _ _) rfl)
                exact (Eng.x_lt (r := false) rfl (show Eng.opv 59 u' (.tmp 22) = (.int .i64 i) from e19) rfl (decide_eq_false (by omega)))
              · intro u' W hbW hkp hdp K hK
                have e17 : u' 20 = (.bool false) := hdp.1
                have e20 : u' 23 = (.bool false) := hdp.2.1
                refine Eng.dv rfl rfl ?_ (hK _ _ (Below.refl _ _) rfl)
                exact (Eng.x_pick (v := (.bool false)) rfl (show Eng.opv 59 u' (.tmp 20) = (.bool false) from e17) rfl (show Eng.opv 59 u' (.tmp 23) = (.bool false) from e20) rfl)
              · intro u' W hbW hkp hdp K hK
                have e21 : u' 24 = (.bool false) := hdp.1
                refine Eng.dv rfl rfl ?_ (hK _ _ (Below.refl _ _) rfl)
                exact (Eng.x_mv (v := (.bool false)) rfl (show Eng.opv 59 u' (.tmp 24) = (.bool false) from e21))
              · intro u' W hbW hkp hdp K hK
                have e22 : u' 25 = (.bool false) := hdp.1
                refine Eng.dv (Eng.gt rfl rfl rfl (show Eng.opv 59 u' (.tmp 25) = (.bool false) from e22)) rfl ?_ (hK _ _ (Below.refl _ _) rfl)
                exact (Eng.x_fa (v := (.pointer (some ⟨w.heap.size, 2, none⟩))) rfl (show Eng.opv 59 u' (.tmp 1) = (.pointer (some ⟨w.heap.size, 0, none⟩)) from hkp 1 rfl) (by kernel_rfl))
              · intro u' W hbW hkp hdp K hK
                have e22 : u' 25 = (.bool false) := hdp.2.1
                have e23 : u' 26 = (.pointer (some ⟨w.heap.size, 2, none⟩)) := hdp.1
                refine Eng.dv (Eng.gt rfl rfl rfl (show Eng.opv 59 u' (.tmp 25) = (.bool false) from e22)) rfl ?_ (hK _ _ (Below.refl _ _) rfl)
                exact (Eng.x_ld1 (v := (.int .i64 i)) rfl ag3_to (show Eng.opv 59 u' (.tmp 26) = (.pointer (some ⟨w.heap.size, 2, none⟩)) from e23) ((((hk2).below hbW)).cell 2))
              · intro u' W hbW hkp hdp K hK
                have e22 : u' 25 = (.bool false) := hdp.2.1
                have e24 : u' 27 = (.int .i64 i) := hdp.1
                refine Eng.dv (Eng.gt rfl rfl rfl (show Eng.opv 59 u' (.tmp 25) = (.bool false) from e22)) rfl ?_ (hK _ _ (Below.refl _ _) rfl)
                exact (Eng.x_gt (r := true) rfl (show Eng.opv 59 u' (.tmp 27) = (.int .i64 i) from e24) rfl (decide_eq_true (by omega)))
              · intro u' W hbW hkp hdp K hK
                have e22 : u' 25 = (.bool false) := hdp.1
                have e25 : u' 28 = (.bool true) := hdp.2.1
                refine Eng.dv rfl rfl ?_ (hK _ _ (Below.refl _ _) rfl)
                exact (Eng.x_pick (v := (.bool true)) rfl (show Eng.opv 59 u' (.tmp 25) = (.bool false) from e22) rfl (show Eng.opv 59 u' (.tmp 28) = (.bool true) from e25) rfl)
              · intro u' W hbW hkp hdp K hK
                have e26 : u' 29 = (.bool true) := hdp.1
                refine Eng.dv rfl rfl ?_ (hK _ _ (Below.refl _ _) rfl)
                exact (Eng.x_mv (v := (.bool true)) rfl (show Eng.opv 59 u' (.tmp 29) = (.bool true) from e26))
              · intro u' W hbW hkp hdp K hK
                have e27 : u' 30 = (.bool true) := hdp.1
                exact Eng.dg0 (Eng.gf rfl rfl rfl (show Eng.opv 59 u' (.tmp 30) = (.bool true) from e27)) rfl (hK _ _ (Below.refl _ _) rfl)
              · intro u' W hbW hkp hdp K hK
                have e27 : u' 30 = (.bool true) := hdp.2.1
                exact Eng.dg0 (Eng.gf rfl rfl rfl (show Eng.opv 59 u' (.tmp 30) = (.bool true) from e27)) rfl (hK _ _ (Below.refl _ _) rfl)
              · intro u' W hbW hkp hdp K hK
                have e27 : u' 30 = (.bool true) := hdp.2.1
                exact Eng.dg0 (Eng.gf rfl rfl rfl (show Eng.opv 59 u' (.tmp 30) = (.bool true) from e27)) rfl (hK _ _ (Below.refl _ _) rfl)
              · intro u' W hbW hkp hdp K hK
                have e27 : u' 30 = (.bool true) := hdp.1
                have e30 : u' 33 = undef := hdp.2.1
                refine Eng.dv rfl rfl ?_ (hK _ _ (Below.refl _ _) rfl)
                exact (Eng.x_pick (v := (.bool true)) rfl (show Eng.opv 59 u' (.tmp 30) = (.bool true) from e27) rfl (show Eng.opv 59 u' (.tmp 33) = undef from e30) rfl)
              · intro u' W hbW hkp hdp K hK
                have e31 : u' 34 = (.bool true) := hdp.1
                refine Eng.dv rfl rfl ?_ (hK _ _ (Below.refl _ _) rfl)
                exact (Eng.x_mv (v := (.bool true)) rfl (show Eng.opv 59 u' (.tmp 34) = (.bool true) from e31))
              · intro u' W hbW hkp hdp K hK
                have e32 : u' 35 = (.bool true) := hdp.1
                exact Eng.dg0 (Eng.gf rfl rfl rfl (show Eng.opv 59 u' (.tmp 35) = (.bool true) from e32)) rfl (hK _ _ (Below.refl _ _) rfl)
              · intro u' W hbW hkp hdp K hK
                have e32 : u' 35 = (.bool true) := hdp.2.1
                exact Eng.dg0 (Eng.gf rfl rfl rfl (show Eng.opv 59 u' (.tmp 35) = (.bool true) from e32)) rfl (hK _ _ (Below.refl _ _) rfl)
              · intro u' W hbW hkp hdp K hK
                have e32 : u' 35 = (.bool true) := hdp.1
                exact Eng.dg0 (Eng.gf rfl rfl rfl (show Eng.opv 59 u' (.tmp 35) = (.bool true) from e32)) rfl (hK _ _ (Below.refl _ _) rfl)
              · intro u' W hbW hkp hdp K hK
                have e32 : u' 35 = (.bool true) := hdp.2.1
                exact Eng.dg0 (Eng.gf rfl rfl rfl (show Eng.opv 59 u' (.tmp 35) = (.bool true) from e32)) rfl (hK _ _ (Below.refl _ _) rfl)
              · intro u' W hbW hkp hdp K hK
                have e32 : u' 35 = (.bool true) := hdp.2.1
                exact Eng.dg0 (Eng.gf rfl rfl rfl (show Eng.opv 59 u' (.tmp 35) = (.bool true) from e32)) rfl (hK _ _ (Below.refl _ _) rfl)
              · intro u' W hbW hkp hdp K hK
                have e32 : u' 35 = (.bool true) := hdp.2.2.1
                exact Eng.dg0 (Eng.gf rfl rfl rfl (show Eng.opv 59 u' (.tmp 35) = (.bool true) from e32)) rfl (hK _ _ (Below.refl _ _) rfl)
              · intro u' W hbW hkp hdp K hK
                have e32 : u' 35 = (.bool true) := hdp.1
                have e38 : u' 41 = undef := hdp.2.1
                refine Eng.dv rfl rfl ?_ (hK _ _ (Below.refl _ _) rfl)
                exact (Eng.x_pick (v := (.bool true)) rfl (show Eng.opv 59 u' (.tmp 35) = (.bool true) from e32) rfl (show Eng.opv 59 u' (.tmp 41) = undef from e38) rfl)
            · intro ud13 w13 hb13 hkp13 ⟨f13_0, f13_1, f13_2, f13_3, f13_4, f13_5, f13_6, f13_7, f13_8, f13_9, f13_10, f13_11, f13_12, f13_13, f13_14, f13_15, f13_16, f13_17, f13_18, f13_19, f13_20, f13_21, f13_22, f13_23, f13_24, f13_25, f13_26, f13_27, f13_28, f13_29, f13_30, f13_31, f13_32, f13_33, f13_34, f13_35, f13_36, f13_37, f13_38, f13_39, _⟩
              have hH13 : Eng.Has ud13 [(3, (.pointer (some ⟨w.heap.size, 0, none⟩))), (4, (.int .i64 h)), (5, (.bool true)), (6, (.bool false)), (7, (.bool false)), (8, (.pointer (some ⟨w.heap.size, 1, none⟩))), (9, (.int .i64 l)), (10, (.bool false)), (11, (.bool false)), (12, (.bool false)), (13, (.pointer (some ⟨w.heap.size, 1, none⟩))), (14, (.int .i64 l)), (15, (.pointer (some ⟨w.heap.size, 0, none⟩))), (16, (.int .i64 h)), (17, (.int .i64 (48 / h))), (18, (.bool false)), (19, (.bool false)), (20, (.bool false)), (21, (.pointer (some ⟨w.heap.size, 2, none⟩))), (22, (.int .i64 i)), (23, (.bool false)), (24, (.bool false)), (25, (.bool false)), (26, (.pointer (some ⟨w.heap.size, 2, none⟩))), (27, (.int .i64 i)), (28, (.bool true)), (29, (.bool true)), (30, (.bool true)), (31, undef), (32, undef), (33, undef), (34, (.bool true)), (35, (.bool true)), (36, undef), (37, undef), (38, undef), (39, undef), (40, undef), (41, undef), (42, (.bool true))] := ⟨f13_0, f13_1, f13_2, f13_3, f13_4, f13_5, f13_6, f13_7, f13_8, f13_9, f13_10, f13_11, f13_12, f13_13, f13_14, f13_15, f13_16, f13_17, f13_18, f13_19, f13_20, f13_21, f13_22, f13_23, f13_24, f13_25, f13_26, f13_27, f13_28, f13_29, f13_30, f13_31, f13_32, f13_33, f13_34, f13_35, f13_36, f13_37, f13_38, f13_39, trivial⟩
              obtain rfl := Eng.collect hkp13 hH13 rfl
              refine Eng.nil ?_
              refine hK4 _ _ ?_
              refine Eng.cond_t rfl ?_
              refine Eng.seqk fun K14 hK14 => ?_
              refine Eng.reg ?_
              refine Eng.sv rfl rfl (Eng.x_as (v := (.bool false)) rfl rfl) ?_
              refine Eng.nil ?_
              refine hK14 _ _ ?_
              refine Eng.rt ?_
              refine Eng.tr ?_
              refine Eng.ret (Eng.res1 (v1 := (.bool false)) rfl (Eng.rdt rfl)) ?_
              have hB0_2 : Below w.heap.size w w13 := (hb2).trans (hb13.mono (hb2).size)
              exact ⟨by rw [tvF (.inr (.inr (.inr (.inr (.inl ⟨hh, q4⟩)))))], hB0_2⟩
          · skip
            have hi1 := ip hh (show 0 ≤ i by omega)
            have hi2 := ip2 hh (show 0 ≤ i by omega) (by omega)
            by_cases q5 : w_ < 1
            · skip
              refine Eng.draw 40 [fun vQ _ => vQ = (.pointer (some ⟨w.heap.size, 0, none⟩)), fun vQ _ => vQ = (.int .i64 h), fun vQ _ => vQ = (.bool true), fun vQ _ => vQ = (.bool false), fun vQ _ => vQ = (.bool false), fun vQ _ => vQ = (.pointer (some ⟨w.heap.size, 1, none⟩)), fun vQ _ => vQ = (.int .i64 l), fun vQ _ => vQ = (.bool false), fun vQ _ => vQ = (.bool false), fun vQ _ => vQ = (.bool false), fun vQ _ => vQ = (.pointer (some ⟨w.heap.size, 1, none⟩)), fun vQ _ => vQ = (.int .i64 l), fun vQ _ => vQ = (.pointer (some ⟨w.heap.size, 0, none⟩)), fun vQ _ => vQ = (.int .i64 h), fun vQ _ => vQ = (.int .i64 (48 / h)), fun vQ _ => vQ = (.bool false), fun vQ _ => vQ = (.bool false), fun vQ _ => vQ = (.bool false), fun vQ _ => vQ = (.pointer (some ⟨w.heap.size, 2, none⟩)), fun vQ _ => vQ = (.int .i64 i), fun vQ _ => vQ = (.bool false), fun vQ _ => vQ = (.bool false), fun vQ _ => vQ = (.bool false), fun vQ _ => vQ = (.pointer (some ⟨w.heap.size, 2, none⟩)), fun vQ _ => vQ = (.int .i64 i), fun vQ _ => vQ = (.bool false), fun vQ _ => vQ = (.bool false), fun vQ _ => vQ = (.bool false), fun vQ _ => vQ = (.pointer (some ⟨w.heap.size, 3, none⟩)), fun vQ _ => vQ = (.int .i64 w_), fun vQ _ => vQ = (.bool true), fun vQ _ => vQ = (.bool true), fun vQ _ => vQ = (.bool true), fun vQ _ => vQ = undef, fun vQ _ => vQ = undef, fun vQ _ => vQ = undef, fun vQ _ => vQ = undef, fun vQ _ => vQ = undef, fun vQ _ => vQ = undef, fun vQ _ => vQ = (.bool true)] (by kernel_rfl) (by kernel_rfl) (by kernel_rfl) (by kernel_rfl) rfl rfl ?_ ?_ ?_
              · exact ⟨fun _ _ _ h _ => h, fun _ _ _ h _ => h, fun _ _ _ h _ => h, fun _ _ _ h _ => h, fun _ _ _ h _ => h, fun _ _ _ h _ => h, fun _ _ _ h _ => h, fun _ _ _ h _ => h, fun _ _ _ h _ => h, fun _ _ _ h _ => h, fun _ _ _ h _ => h, fun _ _ _ h _ => h, fun _ _ _ h _ => h, fun _ _ _ h _ => h, fun _ _ _ h _ => h, fun _ _ _ h _ => h, fun _ _ _ h _ => h, fun _ _ _ h _ => h, fun _ _ _ h _ => h, fun _ _ _ h _ => h, fun _ _ _ h _ => h, fun _ _ _ h _ => h, fun _ _ _ h _ => h, fun _ _ _ h _ => h, fun _ _ _ h _ => h, fun _ _ _ h _ => h, fun _ _ _ h _ => h, fun _ _ _ h _ => h, fun _ _ _ h _ => h, fun _ _ _ h _ => h, fun _ _ _ h _ => h, fun _ _ _ h _ => h, fun _ _ _ h _ => h, fun _ _ _ h _ => h, fun _ _ _ h _ => h, fun _ _ _ h _ => h, fun _ _ _ h _ => h, fun _ _ _ h _ => h, fun _ _ _ h _ => h, fun _ _ _ h _ => h, trivial⟩
              · refine ⟨?_, ?_, ?_, ?_, ?_, ?_, ?_, ?_, ?_, ?_, ?_, ?_, ?_, ?_, ?_, ?_, ?_, ?_, ?_, ?_, ?_, ?_, ?_, ?_, ?_, ?_, ?_, ?_, ?_, ?_, ?_, ?_, ?_, ?_, ?_, ?_, ?_, ?_, ?_, ?_, trivial⟩
                · intro u' W hbW hkp hdp K hK
                  refine Eng.dv rfl rfl ?_ (hK _ _ (Below.refl _ _) rfl)
                  exact (Eng.x_fa (v := (.pointer (some ⟨w.heap.size, 0, none⟩))) rfl (show Eng.opv 59 u' (.tmp 1) = (.pointer (some ⟨w.heap.size, 0, none⟩)) from hkp 1 rfl) (by kernel_rfl))
                · intro u' W hbW hkp hdp K hK
                  have e0 : u' 3 = (.pointer (some ⟨w.heap.size, 0, none⟩)) := hdp.1
                  refine Eng.dv rfl rfl ?_ (hK _ _ (Below.refl _ _) rfl)
                  exact (Eng.x_ld1 (v := (.int .i64 h)) rfl ag3_to (show Eng.opv 59 u' (.tmp 3) = (.pointer (some ⟨w.heap.size, 0, none⟩)) from e0) ((((hk2).below hbW)).cell 0))
                · intro u' W hbW hkp hdp K hK
                  have e1 : u' 4 = (.int .i64 h) := hdp.1
                  refine Eng.dc (vs := #[(.int .i64 h)]) rfl ?_ (height_is hh _) ?_
                  · exact Eng.xc (xs := #[(Go.Operand.tmp 4)]) (vl := [(.int .i64 h)]) rfl rfl (Eng.lc (show Eng.opv 59 u' (.tmp 4) = (.int .i64 h) from e1) rfl) en49_to
                  rintro _ W2 ⟨rfl, hb2⟩
                  exact Eng.aft_v rfl (hK _ _ hb2 rfl)
                · intro u' W hbW hkp hdp K hK
                  have e2 : u' 5 = (.bool true) := hdp.1
                  refine Eng.dv rfl rfl ?_ (hK _ _ (Below.refl _ _) rfl)
                  exact (Eng.x_not (v := (.bool false)) rfl (show Eng.opv 59 u' (.tmp 5) = (.bool true) from e2) rfl)
                · intro u' W hbW hkp hdp K hK
                  have e3 : u' 6 = (.bool false) := hdp.1
                  refine Eng.dv rfl rfl ?_ (hK _ _ (Below.refl _ _) rfl)
                  exact (Eng.x_mv (v := (.bool false)) rfl (show Eng.opv 59 u' (.tmp 6) = (.bool false) from e3))
                · intro u' W hbW hkp hdp K hK
                  have e4 : u' 7 = (.bool false) := hdp.1
                  refine Eng.dv (Eng.gt rfl rfl rfl (show Eng.opv 59 u' (.tmp 7) = (.bool false) from e4)) rfl ?_ (hK _ _ (Below.refl _ _) rfl)
                  exact (Eng.x_fa (v := (.pointer (some ⟨w.heap.size, 1, none⟩))) rfl (show Eng.opv 59 u' (.tmp 1) = (.pointer (some ⟨w.heap.size, 0, none⟩)) from hkp 1 rfl) (by kernel_rfl))
                · intro u' W hbW hkp hdp K hK
                  have e4 : u' 7 = (.bool false) := hdp.2.1
                  have e5 : u' 8 = (.pointer (some ⟨w.heap.size, 1, none⟩)) := hdp.1
                  refine Eng.dv (Eng.gt rfl rfl rfl (show Eng.opv 59 u' (.tmp 7) = (.bool false) from e4)) rfl ?_ (hK _ _ (Below.refl _ _) rfl)
                  exact (Eng.x_ld1 (v := (.int .i64 l)) rfl ag3_to (show Eng.opv 59 u' (.tmp 8) = (.pointer (some ⟨w.heap.size, 1, none⟩)) from e5) ((((hk2).below hbW)).cell 1))
                · intro u' W hbW hkp hdp K hK
                  have e4 : u' 7 = (.bool false) := hdp.2.1
                  have e6 : u' 9 = (.int .i64 l) := hdp.1
                  refine Eng.dv (Eng.gt rfl rfl rfl (show Eng.opv 59 u' (.tmp 7) = (.bool false) from e4)) rfl ?_ (hK _ _ (Below.refl _ _) rfl)
                  exact (Eng.x_lt (r := false) rfl (show Eng.opv 59 u' (.tmp 9) = (.int .i64 l) from e6) rfl (decide_eq_false (by omega)))
                · intro u' W hbW hkp hdp K hK
                  have e4 : u' 7 = (.bool false) := hdp.1
                  have e7 : u' 10 = (.bool false) := hdp.2.1
                  refine Eng.dv rfl rfl ?_ (hK _ _ (Below.refl _ _) rfl)
                  exact (Eng.x_pick (v := (.bool false)) rfl (show Eng.opv 59 u' (.tmp 7) = (.bool false) from e4) rfl (show Eng.opv 59 u' (.tmp 10) = (.bool false) from e7) rfl)
                · intro u' W hbW hkp hdp K hK
                  have e8 : u' 11 = (.bool false) := hdp.1
                  refine Eng.dv rfl rfl ?_ (hK _ _ (Below.refl _ _) rfl)
                  exact (Eng.x_mv (v := (.bool false)) rfl (show Eng.opv 59 u' (.tmp 11) = (.bool false) from e8))
                · intro u' W hbW hkp hdp K hK
                  have e9 : u' 12 = (.bool false) := hdp.1
                  refine Eng.dv (Eng.gt rfl rfl rfl (show Eng.opv 59 u' (.tmp 12) = (.bool false) from e9)) rfl ?_ (hK _ _ (Below.refl _ _) rfl)
                  exact (Eng.x_fa (v := (.pointer (some ⟨w.heap.size, 1, none⟩))) rfl (show Eng.opv 59 u' (.tmp 1) = (.pointer (some ⟨w.heap.size, 0, none⟩)) from hkp 1 rfl) (by kernel_rfl))
                · intro u' W hbW hkp hdp K hK
                  have e9 : u' 12 = (.bool false) := hdp.2.1
                  have e10 : u' 13 = (.pointer (some ⟨w.heap.size, 1, none⟩)) := hdp.1
                  refine Eng.dv (Eng.gt rfl rfl rfl (show Eng.opv 59 u' (.tmp 12) = (.bool false) from e9)) rfl ?_ (hK _ _ (Below.refl _ _) rfl)
                  exact (Eng.x_ld1 (v := (.int .i64 l)) rfl ag3_to (show Eng.opv 59 u' (.tmp 13) = (.pointer (some ⟨w.heap.size, 1, none⟩)) from e10) ((((hk2).below hbW)).cell 1))
                · intro u' W hbW hkp hdp K hK
                  have e9 : u' 12 = (.bool false) := hdp.1
                  refine Eng.dv (Eng.gt rfl rfl rfl (show Eng.opv 59 u' (.tmp 12) = (.bool false) from e9)) rfl ?_ (hK _ _ (Below.refl _ _) rfl)
                  exact (Eng.x_fa (v := (.pointer (some ⟨w.heap.size, 0, none⟩))) rfl (show Eng.opv 59 u' (.tmp 1) = (.pointer (some ⟨w.heap.size, 0, none⟩)) from hkp 1 rfl) (by kernel_rfl))
                · intro u' W hbW hkp hdp K hK
                  have e9 : u' 12 = (.bool false) := hdp.2.1
                  have e12 : u' 15 = (.pointer (some ⟨w.heap.size, 0, none⟩)) := hdp.1
                  refine Eng.dv (Eng.gt rfl rfl rfl (show Eng.opv 59 u' (.tmp 12) = (.bool false) from e9)) rfl ?_ (hK _ _ (Below.refl _ _) rfl)
                  exact (Eng.x_ld1 (v := (.int .i64 h)) rfl ag3_to (show Eng.opv 59 u' (.tmp 15) = (.pointer (some ⟨w.heap.size, 0, none⟩)) from e12) ((((hk2).below hbW)).cell 0))
                · intro u' W hbW hkp hdp K hK
                  have e9 : u' 12 = (.bool false) := hdp.2.1
                  have e13 : u' 16 = (.int .i64 h) := hdp.1
                  refine Eng.dv (Eng.gt rfl rfl rfl (show Eng.opv 59 u' (.tmp 12) = (.bool false) from e9)) rfl ?_ (hK _ _ (Below.refl _ _) rfl)
                  exact (Eng.x_quo rfl rfl (show Eng.opv 59 u' (.tmp 16) = (.int .i64 h) from e13) (by omega) (r := 48 / h) (quo48 hh))
                · intro u' W hbW hkp hdp K hK
                  have e9 : u' 12 = (.bool false) := hdp.2.2.1
                  have e11 : u' 14 = (.int .i64 l) := hdp.1
                  have e14 : u' 17 = (.int .i64 (48 / h)) := hdp.2.1
                  refine Eng.dv (Eng.gt rfl rfl rfl (show Eng.opv 59 u' (.tmp 12) = (.bool false) from e9)) rfl ?_ (hK _ _ (Below.refl _ _) rfl)
                  exact (Eng.x_gt (r := false) rfl (show Eng.opv 59 u' (.tmp 14) = (.int .i64 l) from e11) (show Eng.opv 59 u' (.tmp 17) = (.int .i64 (48 / h)) from e14) (decide_eq_false (by omega)))
                · intro u' W hbW hkp hdp K hK
                  have e9 : u' 12 = (.bool false) := hdp.1
                  have e15 : u' 18 = (.bool false) := hdp.2.1
                  refine Eng.dv rfl rfl ?_ (hK _ _ (Below.refl _ _) rfl)
                  exact (Eng.x_pick (v := (.bool false)) rfl (show Eng.opv 59 u' (.tmp 12) = (.bool false) from e9) rfl (show Eng.opv 59 u' (.tmp 18) = (.bool false) from e15) rfl)
                · intro u' W hbW hkp hdp K hK
                  have e16 : u' 19 = (.bool false) := hdp.1
                  refine Eng.dv rfl rfl ?_ (hK _ _ (Below.refl _ _) rfl)
                  exact (Eng.x_mv (v := (.bool false)) rfl (show Eng.opv 59 u' (.tmp 19) = (.bool false) from e16))
                · intro u' W hbW hkp hdp K hK
                  have e17 : u' 20 = (.bool false) := hdp.1
                  refine Eng.dv (Eng.gt rfl rfl rfl (show Eng.opv 59 u' (.tmp 20) = (.bool false) from e17)) rfl ?_ (hK _ _ (Below.refl _ _) rfl)
                  exact (Eng.x_fa (v := (.pointer (some ⟨w.heap.size, 2, none⟩))) rfl (show Eng.opv 59 u' (.tmp 1) = (.pointer (some ⟨w.heap.size, 0, none⟩)) from hkp 1 rfl) (by kernel_rfl))
                · intro u' W hbW hkp hdp K hK
                  have e17 : u' 20 = (.bool false) := hdp.2.1
                  have e18 : u' 21 = (.pointer (some ⟨w.heap.size, 2, none⟩)) := hdp.1
                  refine Eng.dv (Eng.gt rfl rfl rfl (show Eng.opv 59 u' (.tmp 20) = (.bool false) from e17)) rfl ?_ (hK _ _ (Below.refl _ _) rfl)
                  exact (Eng.x_ld1 (v := (.int .i64 i)) rfl ag3_to (show Eng.opv 59 u' (.tmp 21) = (.pointer (some ⟨w.heap.size, 2, none⟩)) from e18) ((((hk2).below hbW)).cell 2))
                · intro u' W hbW hkp hdp K hK
                  have e17 : u' 20 = (.bool false) := hdp.2.1
                  have e19 : u' 22 = (.int .i64 i) := hdp.1
                  refine Eng.dv (Eng.gt rfl rfl rfl (show Eng.opv 59 u' (.tmp 20) = (.bool false) from e17)) rfl ?_ (hK _ _ (Below.refl _ _) rfl)
                  exact (Eng.x_lt (r := false) rfl (show Eng.opv 59 u' (.tmp 22) = (.int .i64 i) from e19) rfl (decide_eq_false (by omega)))
                · intro u' W hbW hkp hdp K hK
                  have e17 : u' 20 = (.bool false) := hdp.1
                  have e20 : u' 23 = (.bool false) := hdp.2.1
                  refine Eng.dv rfl rfl ?_ (hK _ _ (Below.refl _ _) rfl)
                  exact (Eng.x_pick (v := (.bool false)) rfl (show Eng.opv 59 u' (.tmp 20) = (.bool false) from e17) rfl (show Eng.opv 59 u' (.tmp 23) = (.bool false) from e20) rfl)
                · intro u' W hbW hkp hdp K hK
                  have e21 : u' 24 = (.bool false) := hdp.1
                  refine Eng.dv rfl rfl ?_ (hK _ _ (Below.refl _ _) rfl)
                  exact (Eng.x_mv (v := (.bool false)) rfl (show Eng.opv 59 u' (.tmp 24) = (.bool false) from e21))
                · intro u' W hbW hkp hdp K hK
                  have e22 : u' 25 = (.bool false) := hdp.1
                  refine Eng.dv (Eng.gt rfl rfl rfl (show Eng.opv 59 u' (.tmp 25) = (.bool false) from e22)) rfl ?_ (hK _ _ (Below.refl _ _) rfl)
                  exact (Eng.x_fa (v := (.pointer (some ⟨w.heap.size, 2, none⟩))) rfl (show Eng.opv 59 u' (.tmp 1) = (.pointer (some ⟨w.heap.size, 0, none⟩)) from hkp 1 rfl) (by kernel_rfl))
                · intro u' W hbW hkp hdp K hK
                  have e22 : u' 25 = (.bool false) := hdp.2.1
                  have e23 : u' 26 = (.pointer (some ⟨w.heap.size, 2, none⟩)) := hdp.1
                  refine Eng.dv (Eng.gt rfl rfl rfl (show Eng.opv 59 u' (.tmp 25) = (.bool false) from e22)) rfl ?_ (hK _ _ (Below.refl _ _) rfl)
                  exact (Eng.x_ld1 (v := (.int .i64 i)) rfl ag3_to (show Eng.opv 59 u' (.tmp 26) = (.pointer (some ⟨w.heap.size, 2, none⟩)) from e23) ((((hk2).below hbW)).cell 2))
                · intro u' W hbW hkp hdp K hK
                  have e22 : u' 25 = (.bool false) := hdp.2.1
                  have e24 : u' 27 = (.int .i64 i) := hdp.1
                  refine Eng.dv (Eng.gt rfl rfl rfl (show Eng.opv 59 u' (.tmp 25) = (.bool false) from e22)) rfl ?_ (hK _ _ (Below.refl _ _) rfl)
                  exact (Eng.x_gt (r := false) rfl (show Eng.opv 59 u' (.tmp 27) = (.int .i64 i) from e24) rfl (decide_eq_false (by omega)))
                · intro u' W hbW hkp hdp K hK
                  have e22 : u' 25 = (.bool false) := hdp.1
                  have e25 : u' 28 = (.bool false) := hdp.2.1
                  refine Eng.dv rfl rfl ?_ (hK _ _ (Below.refl _ _) rfl)
                  exact (Eng.x_pick (v := (.bool false)) rfl (show Eng.opv 59 u' (.tmp 25) = (.bool false) from e22) rfl (show Eng.opv 59 u' (.tmp 28) = (.bool false) from e25) rfl)
                · intro u' W hbW hkp hdp K hK
                  have e26 : u' 29 = (.bool false) := hdp.1
                  refine Eng.dv rfl rfl ?_ (hK _ _ (Below.refl _ _) rfl)
                  exact (Eng.x_mv (v := (.bool false)) rfl (show Eng.opv 59 u' (.tmp 29) = (.bool false) from e26))
                · intro u' W hbW hkp hdp K hK
                  have e27 : u' 30 = (.bool false) := hdp.1
                  refine Eng.dv (Eng.gt rfl rfl rfl (show Eng.opv 59 u' (.tmp 30) = (.bool false) from e27)) rfl ?_ (hK _ _ (Below.refl _ _) rfl)
                  exact (Eng.x_fa (v := (.pointer (some ⟨w.heap.size, 3, none⟩))) rfl (show Eng.opv 59 u' (.tmp 1) = (.pointer (some ⟨w.heap.size, 0, none⟩)) from hkp 1 rfl) (by kernel_rfl))
                · intro u' W hbW hkp hdp K hK
                  have e27 : u' 30 = (.bool false) := hdp.2.1
                  have e28 : u' 31 = (.pointer (some ⟨w.heap.size, 3, none⟩)) := hdp.1
                  refine Eng.dv (Eng.gt rfl rfl rfl (show Eng.opv 59 u' (.tmp 30) = (.bool false) from e27)) rfl ?_ (hK _ _ (Below.refl _ _) rfl)
                  exact (Eng.x_ld1 (v := (.int .i64 w_)) rfl ag3_to (show Eng.opv 59 u' (.tmp 31) = (.pointer (some ⟨w.heap.size, 3, none⟩)) from e28) ((((hk2).below hbW)).cell 3))
                · intro u' W hbW hkp hdp K hK
                  have e27 : u' 30 = (.bool false) := hdp.2.1
                  have e29 : u' 32 = (.int .i64 w_) := hdp.1
                  refine Eng.dv (Eng.gt rfl rfl rfl (show Eng.opv 59 u' (.tmp 30) = (.bool false) from e27)) rfl ?_ (hK _ _ (Below.refl _ _) rfl)
                  exact (Eng.x_lt (r := true) rfl (show Eng.opv 59 u' (.tmp 32) = (.int .i64 w_) from e29) rfl (decide_eq_true (by omega)))
                · intro u' W hbW hkp hdp K hK
                  have e27 : u' 30 = (.bool false) := hdp.1
                  have e30 : u' 33 = (.bool true) := hdp.2.1
                  refine Eng.dv rfl rfl ?_ (hK _ _ (Below.refl _ _) rfl)
                  exact (Eng.x_pick (v := (.bool true)) rfl (show Eng.opv 59 u' (.tmp 30) = (.bool false) from e27) rfl (show Eng.opv 59 u' (.tmp 33) = (.bool true) from e30) rfl)
                · intro u' W hbW hkp hdp K hK
                  have e31 : u' 34 = (.bool true) := hdp.1
                  refine Eng.dv rfl rfl ?_ (hK _ _ (Below.refl _ _) rfl)
                  exact (Eng.x_mv (v := (.bool true)) rfl (show Eng.opv 59 u' (.tmp 34) = (.bool true) from e31))
                · intro u' W hbW hkp hdp K hK
                  have e32 : u' 35 = (.bool true) := hdp.1
                  exact Eng.dg0 (Eng.gf rfl rfl rfl (show Eng.opv 59 u' (.tmp 35) = (.bool true) from e32)) rfl (hK _ _ (Below.refl _ _) rfl)
                · intro u' W hbW hkp hdp K hK
                  have e32 : u' 35 = (.bool true) := hdp.2.1
                  exact Eng.dg0 (Eng.gf rfl rfl rfl (show Eng.opv 59 u' (.tmp 35) = (.bool true) from e32)) rfl (hK _ _ (Below.refl _ _) rfl)
                · intro u' W hbW hkp hdp K hK
                  have e32 : u' 35 = (.bool true) := hdp.1
                  exact Eng.dg0 (Eng.gf rfl rfl rfl (show Eng.opv 59 u' (.tmp 35) = (.bool true) from e32)) rfl (hK _ _ (Below.refl _ _) rfl)
                · intro u' W hbW hkp hdp K hK
                  have e32 : u' 35 = (.bool true) := hdp.2.1
                  exact Eng.dg0 (Eng.gf rfl rfl rfl (show Eng.opv 59 u' (.tmp 35) = (.bool true) from e32)) rfl (hK _ _ (Below.refl _ _) rfl)
                · intro u' W hbW hkp hdp K hK
                  have e32 : u' 35 = (.bool true) := hdp.2.1
                  exact Eng.dg0 (Eng.gf rfl rfl rfl (show Eng.opv 59 u' (.tmp 35) = (.bool true) from e32)) rfl (hK _ _ (Below.refl _ _) rfl)
                · intro u' W hbW hkp hdp K hK
                  have e32 : u' 35 = (.bool true) := hdp.2.2.1
                  exact Eng.dg0 (Eng.gf rfl rfl rfl (show Eng.opv 59 u' (.tmp 35) = (.bool true) from e32)) rfl (hK _ _ (Below.refl _ _) rfl)
                · intro u' W hbW hkp hdp K hK
                  have e32 : u' 35 = (.bool true) := hdp.1
                  have e38 : u' 41 = undef := hdp.2.1
                  refine Eng.dv rfl rfl ?_ (hK _ _ (Below.refl _ _) rfl)
                  exact (Eng.x_pick (v := (.bool true)) rfl (show Eng.opv 59 u' (.tmp 35) = (.bool true) from e32) rfl (show Eng.opv 59 u' (.tmp 41) = undef from e38) rfl)
              · intro ud15 w15 hb15 hkp15 ⟨f15_0, f15_1, f15_2, f15_3, f15_4, f15_5, f15_6, f15_7, f15_8, f15_9, f15_10, f15_11, f15_12, f15_13, f15_14, f15_15, f15_16, f15_17, f15_18, f15_19, f15_20, f15_21, f15_22, f15_23, f15_24, f15_25, f15_26, f15_27, f15_28, f15_29, f15_30, f15_31, f15_32, f15_33, f15_34, f15_35, f15_36, f15_37, f15_38, f15_39, _⟩
                have hH15 : Eng.Has ud15 [(3, (.pointer (some ⟨w.heap.size, 0, none⟩))), (4, (.int .i64 h)), (5, (.bool true)), (6, (.bool false)), (7, (.bool false)), (8, (.pointer (some ⟨w.heap.size, 1, none⟩))), (9, (.int .i64 l)), (10, (.bool false)), (11, (.bool false)), (12, (.bool false)), (13, (.pointer (some ⟨w.heap.size, 1, none⟩))), (14, (.int .i64 l)), (15, (.pointer (some ⟨w.heap.size, 0, none⟩))), (16, (.int .i64 h)), (17, (.int .i64 (48 / h))), (18, (.bool false)), (19, (.bool false)), (20, (.bool false)), (21, (.pointer (some ⟨w.heap.size, 2, none⟩))), (22, (.int .i64 i)), (23, (.bool false)), (24, (.bool false)), (25, (.bool false)), (26, (.pointer (some ⟨w.heap.size, 2, none⟩))), (27, (.int .i64 i)), (28, (.bool false)), (29, (.bool false)), (30, (.bool false)), (31, (.pointer (some ⟨w.heap.size, 3, none⟩))), (32, (.int .i64 w_)), (33, (.bool true)), (34, (.bool true)), (35, (.bool true)), (36, undef), (37, undef), (38, undef), (39, undef), (40, undef), (41, undef), (42, (.bool true))] := ⟨f15_0, f15_1, f15_2, f15_3, f15_4, f15_5, f15_6, f15_7, f15_8, f15_9, f15_10, f15_11, f15_12, f15_13, f15_14, f15_15, f15_16, f15_17, f15_18, f15_19, f15_20, f15_21, f15_22, f15_23, f15_24, f15_25, f15_26, f15_27, f15_28, f15_29, f15_30, f15_31, f15_32, f15_33, f15_34, f15_35, f15_36, f15_37, f15_38, f15_39, trivial⟩
                obtain rfl := Eng.collect hkp15 hH15 rfl
                refine Eng.nil ?_
                refine hK4 _ _ ?_
                refine Eng.cond_t rfl ?_
                refine Eng.seqk fun K16 hK16 => ?_
                refine Eng.reg ?_
                refine Eng.sv rfl rfl (Eng.x_as (v := (.bool false)) rfl rfl) ?_
                refine Eng.nil ?_
                refine hK16 _ _ ?_
                refine Eng.rt ?_
                refine Eng.tr ?_
                refine Eng.ret (Eng.res1 (v1 := (.bool false)) rfl (Eng.rdt rfl)) ?_
                have hB0_2 : Below w.heap.size w w15 := (hb2).trans (hb15.mono (hb2).size)
                exact ⟨by rw [tvF (.inr (.inr (.inr (.inr (.inr (.inl q5))))))], hB0_2⟩
            · skip
              by_cases q6 : ((2 ^ h.toNat : Nat) : Int) < w_
              · skip
                refine Eng.draw 40 [fun vQ _ => vQ = (.pointer (some ⟨w.heap.size, 0, none⟩)), fun vQ _ => vQ = (.int .i64 h), fun vQ _ => vQ = (.bool true), fun vQ _ => vQ = (.bool false), fun vQ _ => vQ = (.bool false), fun vQ _ => vQ = (.pointer (some ⟨w.heap.size, 1, none⟩)), fun vQ _ => vQ = (.int .i64 l), fun vQ _ => vQ = (.bool false), fun vQ _ => vQ = (.bool false), fun vQ _ => vQ = (.bool false), fun vQ _ => vQ = (.pointer (some ⟨w.heap.size, 1, none⟩)), fun vQ _ => vQ = (.int .i64 l), fun vQ _ => vQ = (.pointer (some ⟨w.heap.size, 0, none⟩)), fun vQ _ => vQ = (.int .i64 h), fun vQ _ => vQ = (.int .i64 (48 / h)), fun vQ _ => vQ = (.bool false), fun vQ _ => vQ = (.bool false), fun vQ _ => vQ = (.bool false), fun vQ _ => vQ = (.pointer (some ⟨w.heap.size, 2, none⟩)), fun vQ _ => vQ = (.int .i64 i), fun vQ _ => vQ = (.bool false), fun vQ _ => vQ = (.bool false), fun vQ _ => vQ = (.bool false), fun vQ _ => vQ = (.pointer (some ⟨w.heap.size, 2, none⟩)), fun vQ _ => vQ = (.int .i64 i), fun vQ _ => vQ = (.bool false), fun vQ _ => vQ = (.bool false), fun vQ _ => vQ = (.bool false), fun vQ _ => vQ = (.pointer (some ⟨w.heap.size, 3, none⟩)), fun vQ _ => vQ = (.int .i64 w_), fun vQ _ => vQ = (.bool false), fun vQ _ => vQ = (.bool false), fun vQ _ => vQ = (.bool false), fun vQ _ => vQ = (.pointer (some ⟨w.heap.size, 3, none⟩)), fun vQ _ => vQ = (.int .i64 w_), fun vQ _ => vQ = (.pointer (some ⟨w.heap.size, 0, none⟩)), fun vQ _ => vQ = (.int .i64 h), fun vQ _ => vQ = (.int .i64 ((2 ^ h.toNat : Nat) : Int)), fun vQ _ => vQ = (.bool true), fun vQ _ => vQ = (.bool true)] (by kernel_rfl) (by kernel_rfl) (by kernel_rfl) (by kernel_rfl) rfl rfl ?_ ?_ ?_
                · exact ⟨fun _ _ _ h _ => h, fun _ _ _ h _ => h, fun _ _ _ h _ => h, fun _ _ _ h _ => h, fun _ _ _ h _ => h, fun _ _ _ h _ => h, fun _ _ _ h _ => h, fun _ _ _ h _ => h, fun _ _ _ h _ => h, fun _ _ _ h _ => h, fun _ _ _ h _ => h, fun _ _ _ h _ => h, fun _ _ _ h _ => h, fun _ _ _ h _ => h, fun _ _ _ h _ => h, fun _ _ _ h _ => h, fun _ _ _ h _ => h, fun _ _ _ h _ => h, fun _ _ _ h _ => h, fun _ _ _ h _ => h, fun _ _ _ h _ => h, fun _ _ _ h _ => h, fun _ _ _ h _ => h, fun _ _ _ h _ => h, fun _ _ _ h _ => h, fun _ _ _ h _ => h, fun _ _ _ h _ => h, fun _ _ _ h _ => h, fun _ _ _ h _ => h, fun _ _ _ h _ => h, fun _ _ _ h _ => h, fun _ _ _ h _ => h, fun _ _ _ h _ => h, fun _ _ _ h _ => h, fun _ _ _ h _ => h, fun _ _ _ h _ => h, fun _ _ _ h _ => h, fun _ _ _ h _ => h, fun _ _ _ h _ => h, fun _ _ _ h _ => h, trivial⟩
                · refine ⟨?_, ?_, ?_, ?_, ?_, ?_, ?_, ?_, ?_, ?_, ?_, ?_, ?_, ?_, ?_, ?_, ?_, ?_, ?_, ?_, ?_, ?_, ?_, ?_, ?_, ?_, ?_, ?_, ?_, ?_, ?_, ?_, ?_, ?_, ?_, ?_, ?_, ?_, ?_, ?_, trivial⟩
                  · intro u' W hbW hkp hdp K hK
                    refine Eng.dv rfl rfl ?_ (hK _ _ (Below.refl _ _) rfl)
                    exact (Eng.x_fa (v := (.pointer (some ⟨w.heap.size, 0, none⟩))) rfl (show Eng.opv 59 u' (.tmp 1) = (.pointer (some ⟨w.heap.size, 0, none⟩)) from hkp 1 rfl) (by kernel_rfl))
                  · intro u' W hbW hkp hdp K hK
                    have e0 : u' 3 = (.pointer (some ⟨w.heap.size, 0, none⟩)) := hdp.1
                    refine Eng.dv rfl rfl ?_ (hK _ _ (Below.refl _ _) rfl)
                    exact (Eng.x_ld1 (v := (.int .i64 h)) rfl ag3_to (show Eng.opv 59 u' (.tmp 3) = (.pointer (some ⟨w.heap.size, 0, none⟩)) from e0) ((((hk2).below hbW)).cell 0))
                  · intro u' W hbW hkp hdp K hK
                    have e1 : u' 4 = (.int .i64 h) := hdp.1
                    refine Eng.dc (vs := #[(.int .i64 h)]) rfl ?_ (height_is hh _) ?_
                    · exact Eng.xc (xs := #[(Go.Operand.tmp 4)]) (vl := [(.int .i64 h)]) rfl rfl (Eng.lc (show Eng.opv 59 u' (.tmp 4) = (.int .i64 h) from e1) rfl) en49_to
                    rintro _ W2 ⟨rfl, hb2⟩
                    exact Eng.aft_v rfl (hK _ _ hb2 rfl)
                  · intro u' W hbW hkp hdp K hK
                    have e2 : u' 5 = (.bool true) := hdp.1
                    refine Eng.dv rfl rfl ?_ (hK _ _ (Below.refl _ _) rfl)
                    exact (Eng.x_not (v := (.bool false)) rfl (show Eng.opv 59 u' (.tmp 5) = (.bool true) from e2) rfl)
                  · intro u' W hbW hkp hdp K hK
                    have e3 : u' 6 = (.bool false) := hdp.1
                    refine Eng.dv rfl rfl ?_ (hK _ _ (Below.refl _ _) rfl)
                    exact (Eng.x_mv (v := (.bool false)) rfl (show Eng.opv 59 u' (.tmp 6) = (.bool false) from e3))
                  · intro u' W hbW hkp hdp K hK
                    have e4 : u' 7 = (.bool false) := hdp.1
                    refine Eng.dv (Eng.gt rfl rfl rfl (show Eng.opv 59 u' (.tmp 7) = (.bool false) from e4)) rfl ?_ (hK _ _ (Below.refl _ _) rfl)
                    exact (Eng.x_fa (v := (.pointer (some ⟨w.heap.size, 1, none⟩))) rfl (show Eng.opv 59 u' (.tmp 1) = (.pointer (some ⟨w.heap.size, 0, none⟩)) from hkp 1 rfl) (by kernel_rfl))
                  · intro u' W hbW hkp hdp K hK
                    have e4 : u' 7 = (.bool false) := hdp.2.1
                    have e5 : u' 8 = (.pointer (some ⟨w.heap.size, 1, none⟩)) := hdp.1
                    refine Eng.dv (Eng.gt rfl rfl rfl (show Eng.opv 59 u' (.tmp 7) = (.bool false) from e4)) rfl ?_ (hK _ _ (Below.refl _ _) rfl)
                    exact (Eng.x_ld1 (v := (.int .i64 l)) rfl ag3_to (show Eng.opv 59 u' (.tmp 8) = (.pointer (some ⟨w.heap.size, 1, none⟩)) from e5) ((((hk2).below hbW)).cell 1))
                  · intro u' W hbW hkp hdp K hK
                    have e4 : u' 7 = (.bool false) := hdp.2.1
                    have e6 : u' 9 = (.int .i64 l) := hdp.1
                    refine Eng.dv (Eng.gt rfl rfl rfl (show Eng.opv 59 u' (.tmp 7) = (.bool false) from e4)) rfl ?_ (hK _ _ (Below.refl _ _) rfl)
                    exact (Eng.x_lt (r := false) rfl (show Eng.opv 59 u' (.tmp 9) = (.int .i64 l) from e6) rfl (decide_eq_false (by omega)))
                  · intro u' W hbW hkp hdp K hK
                    have e4 : u' 7 = (.bool false) := hdp.1
                    have e7 : u' 10 = (.bool false) := hdp.2.1
                    refine Eng.dv rfl rfl ?_ (hK _ _ (Below.refl _ _) rfl)
                    exact (Eng.x_pick (v := (.bool false)) rfl (show Eng.opv 59 u' (.tmp 7) = (.bool false) from e4) rfl (show Eng.opv 59 u' (.tmp 10) = (.bool false) from e7) rfl)
                  · intro u' W hbW hkp hdp K hK
                    have e8 : u' 11 = (.bool false) := hdp.1
                    refine Eng.dv rfl rfl ?_ (hK _ _ (Below.refl _ _) rfl)
                    exact (Eng.x_mv (v := (.bool false)) rfl (show Eng.opv 59 u' (.tmp 11) = (.bool false) from e8))
                  · intro u' W hbW hkp hdp K hK
                    have e9 : u' 12 = (.bool false) := hdp.1
                    refine Eng.dv (Eng.gt rfl rfl rfl (show Eng.opv 59 u' (.tmp 12) = (.bool false) from e9)) rfl ?_ (hK _ _ (Below.refl _ _) rfl)
                    exact (Eng.x_fa (v := (.pointer (some ⟨w.heap.size, 1, none⟩))) rfl (show Eng.opv 59 u' (.tmp 1) = (.pointer (some ⟨w.heap.size, 0, none⟩)) from hkp 1 rfl) (by kernel_rfl))
                  · intro u' W hbW hkp hdp K hK
                    have e9 : u' 12 = (.bool false) := hdp.2.1
                    have e10 : u' 13 = (.pointer (some ⟨w.heap.size, 1, none⟩)) := hdp.1
                    refine Eng.dv (Eng.gt rfl rfl rfl (show Eng.opv 59 u' (.tmp 12) = (.bool false) from e9)) rfl ?_ (hK _ _ (Below.refl _ _) rfl)
                    exact (Eng.x_ld1 (v := (.int .i64 l)) rfl ag3_to (show Eng.opv 59 u' (.tmp 13) = (.pointer (some ⟨w.heap.size, 1, none⟩)) from e10) ((((hk2).below hbW)).cell 1))
                  · intro u' W hbW hkp hdp K hK
                    have e9 : u' 12 = (.bool false) := hdp.1
                    refine Eng.dv (Eng.gt rfl rfl rfl (show Eng.opv 59 u' (.tmp 12) = (.bool false) from e9)) rfl ?_ (hK _ _ (Below.refl _ _) rfl)
                    exact (Eng.x_fa (v := (.pointer (some ⟨w.heap.size, 0, none⟩))) rfl (show Eng.opv 59 u' (.tmp 1) = (.pointer (some ⟨w.heap.size, 0, none⟩)) from hkp 1 rfl) (by kernel_rfl))
                  · intro u' W hbW hkp hdp K hK
                    have e9 : u' 12 = (.bool false) := hdp.2.1
                    have e12 : u' 15 = (.pointer (some ⟨w.heap.size, 0, none⟩)) := hdp.1
                    refine Eng.dv (Eng.gt rfl rfl rfl (show Eng.opv 59 u' (.tmp 12) = (.bool false) from e9)) rfl ?_ (hK _ _ (Below.refl _ _) rfl)
                    exact (Eng.x_ld1 (v := (.int .i64 h)) rfl ag3_to (show Eng.opv 59 u' (.tmp 15) = (.pointer (some ⟨w.heap.size, 0, none⟩)) from e12) ((((hk2).below hbW)).cell 0))
                  · intro u' W hbW hkp hdp K hK
                    have e9 : u' 12 = (.bool false) := hdp.2.1
                    have e13 : u' 16 = (.int .i64 h) := hdp.1
                    refine Eng.dv (Eng.gt rfl rfl rfl (show Eng.opv 59 u' (.tmp 12) = (.bool false) from e9)) rfl ?_ (hK _ _ (Below.refl _ _) rfl)
                    exact (Eng.x_quo rfl rfl (show Eng.opv 59 u' (.tmp 16) = (.int .i64 h) from e13) (by omega) (r := 48 / h) (quo48 hh))
                  · intro u' W hbW hkp hdp K hK
                    have e9 : u' 12 = (.bool false) := hdp.2.2.1
                    have e11 : u' 14 = (.int .i64 l) := hdp.1
                    have e14 : u' 17 = (.int .i64 (48 / h)) := hdp.2.1
                    refine Eng.dv (Eng.gt rfl rfl rfl (show Eng.opv 59 u' (.tmp 12) = (.bool false) from e9)) rfl ?_ (hK _ _ (Below.refl _ _) rfl)
                    exact (Eng.x_gt (r := false) rfl (show Eng.opv 59 u' (.tmp 14) = (.int .i64 l) from e11) (show Eng.opv 59 u' (.tmp 17) = (.int .i64 (48 / h)) from e14) (decide_eq_false (by omega)))
                  · intro u' W hbW hkp hdp K hK
                    have e9 : u' 12 = (.bool false) := hdp.1
                    have e15 : u' 18 = (.bool false) := hdp.2.1
                    refine Eng.dv rfl rfl ?_ (hK _ _ (Below.refl _ _) rfl)
                    exact (Eng.x_pick (v := (.bool false)) rfl (show Eng.opv 59 u' (.tmp 12) = (.bool false) from e9) rfl (show Eng.opv 59 u' (.tmp 18) = (.bool false) from e15) rfl)
                  · intro u' W hbW hkp hdp K hK
                    have e16 : u' 19 = (.bool false) := hdp.1
                    refine Eng.dv rfl rfl ?_ (hK _ _ (Below.refl _ _) rfl)
                    exact (Eng.x_mv (v := (.bool false)) rfl (show Eng.opv 59 u' (.tmp 19) = (.bool false) from e16))
                  · intro u' W hbW hkp hdp K hK
                    have e17 : u' 20 = (.bool false) := hdp.1
                    refine Eng.dv (Eng.gt rfl rfl rfl (show Eng.opv 59 u' (.tmp 20) = (.bool false) from e17)) rfl ?_ (hK _ _ (Below.refl _ _) rfl)
                    exact (Eng.x_fa (v := (.pointer (some ⟨w.heap.size, 2, none⟩))) rfl (show Eng.opv 59 u' (.tmp 1) = (.pointer (some ⟨w.heap.size, 0, none⟩)) from hkp 1 rfl) (by kernel_rfl))
                  · intro u' W hbW hkp hdp K hK
                    have e17 : u' 20 = (.bool false) := hdp.2.1
                    have e18 : u' 21 = (.pointer (some ⟨w.heap.size, 2, none⟩)) := hdp.1
                    refine Eng.dv (Eng.gt rfl rfl rfl (show Eng.opv 59 u' (.tmp 20) = (.bool false) from e17)) rfl ?_ (hK _ _ (Below.refl _ _) rfl)
                    exact (Eng.x_ld1 (v := (.int .i64 i)) rfl ag3_to (show Eng.opv 59 u' (.tmp 21) = (.pointer (some ⟨w.heap.size, 2, none⟩)) from e18) ((((hk2).below hbW)).cell 2))
                  · intro u' W hbW hkp hdp K hK
                    have e17 : u' 20 = (.bool false) := hdp.2.1
                    have e19 : u' 22 = (.int .i64 i) := hdp.1
                    refine Eng.dv (Eng.gt rfl rfl rfl (show Eng.opv 59 u' (.tmp 20) = (.bool false) from e17)) rfl ?_ (hK _ _ (Below.refl _ _) rfl)
                    exact (Eng.x_lt (r := false) rfl (show Eng.opv 59 u' (.tmp 22) = (.int .i64 i) from e19) rfl (decide_eq_false (by omega)))
                  · intro u' W hbW hkp hdp K hK
                    have e17 : u' 20 = (.bool false) := hdp.1
                    have e20 : u' 23 = (.bool false) := hdp.2.1
                    refine Eng.dv rfl rfl ?_ (hK _ _ (Below.refl _ _) rfl)
                    exact (Eng.x_pick (v := (.bool false)) rfl (show Eng.opv 59 u' (.tmp 20) = (.bool false) from e17) rfl (show Eng.opv 59 u' (.tmp 23) = (.bool false) from e20) rfl)
                  · intro u' W hbW hkp hdp K hK
                    have e21 : u' 24 = (.bool false) := hdp.1
                    refine Eng.dv rfl rfl ?_ (hK _ _ (Below.refl _ _) rfl)
                    exact (Eng.x_mv (v := (.bool false)) rfl (show Eng.opv 59 u' (.tmp 24) = (.bool false) from e21))
                  · intro u' W hbW hkp hdp K hK
                    have e22 : u' 25 = (.bool false) := hdp.1
                    refine Eng.dv (Eng.gt rfl rfl rfl (show Eng.opv 59 u' (.tmp 25) = (.bool false) from e22)) rfl ?_ (hK _ _ (Below.refl _ _) rfl)
                    exact (Eng.x_fa (v := (.pointer (some ⟨w.heap.size, 2, none⟩))) rfl (show Eng.opv 59 u' (.tmp 1) = (.pointer (some ⟨w.heap.size, 0, none⟩)) from hkp 1 rfl) (by kernel_rfl))
                  · intro u' W hbW hkp hdp K hK
                    have e22 : u' 25 = (.bool false) := hdp.2.1
                    have e23 : u' 26 = (.pointer (some ⟨w.heap.size, 2, none⟩)) := hdp.1
                    refine Eng.dv (Eng.gt rfl rfl rfl (show Eng.opv 59 u' (.tmp 25) = (.bool false) from e22)) rfl ?_ (hK _ _ (Below.refl _ _) rfl)
                    exact (Eng.x_ld1 (v := (.int .i64 i)) rfl ag3_to (show Eng.opv 59 u' (.tmp 26) = (.pointer (some ⟨w.heap.size, 2, none⟩)) from e23) ((((hk2).below hbW)).cell 2))
                  · intro u' W hbW hkp hdp K hK
                    have e22 : u' 25 = (.bool false) := hdp.2.1
                    have e24 : u' 27 = (.int .i64 i) := hdp.1
                    refine Eng.dv (Eng.gt rfl rfl rfl (show Eng.opv 59 u' (.tmp 25) = (.bool false) from e22)) rfl ?_ (hK _ _ (Below.refl _ _) rfl)
                    exact (Eng.x_gt (r := false) rfl (show Eng.opv 59 u' (.tmp 27) = (.int .i64 i) from e24) rfl (decide_eq_false (by omega)))
                  · intro u' W hbW hkp hdp K hK
                    have e22 : u' 25 = (.bool false) := hdp.1
                    have e25 : u' 28 = (.bool false) := hdp.2.1
                    refine Eng.dv rfl rfl ?_ (hK _ _ (Below.refl _ _) rfl)
                    exact (Eng.x_pick (v := (.bool false)) rfl (show Eng.opv 59 u' (.tmp 25) = (.bool false) from e22) rfl (show Eng.opv 59 u' (.tmp 28) = (.bool false) from e25) rfl)
                  · intro u' W hbW hkp hdp K hK
                    have e26 : u' 29 = (.bool false) := hdp.1
                    refine Eng.dv rfl rfl ?_ (hK _ _ (Below.refl _ _) rfl)
                    exact (Eng.x_mv (v := (.bool false)) rfl (show Eng.opv 59 u' (.tmp 29) = (.bool false) from e26))
                  · intro u' W hbW hkp hdp K hK
                    have e27 : u' 30 = (.bool false) := hdp.1
                    refine Eng.dv (Eng.gt rfl rfl rfl (show Eng.opv 59 u' (.tmp 30) = (.bool false) from e27)) rfl ?_ (hK _ _ (Below.refl _ _) rfl)
                    exact (Eng.x_fa (v := (.pointer (some ⟨w.heap.size, 3, none⟩))) rfl (show Eng.opv 59 u' (.tmp 1) = (.pointer (some ⟨w.heap.size, 0, none⟩)) from hkp 1 rfl) (by kernel_rfl))
                  · intro u' W hbW hkp hdp K hK
                    have e27 : u' 30 = (.bool false) := hdp.2.1
                    have e28 : u' 31 = (.pointer (some ⟨w.heap.size, 3, none⟩)) := hdp.1
                    refine Eng.dv (Eng.gt rfl rfl rfl (show Eng.opv 59 u' (.tmp 30) = (.bool false) from e27)) rfl ?_ (hK _ _ (Below.refl _ _) rfl)
                    exact (Eng.x_ld1 (v := (.int .i64 w_)) rfl ag3_to (show Eng.opv 59 u' (.tmp 31) = (.pointer (some ⟨w.heap.size, 3, none⟩)) from e28) ((((hk2).below hbW)).cell 3))
                  · intro u' W hbW hkp hdp K hK
                    have e27 : u' 30 = (.bool false) := hdp.2.1
                    have e29 : u' 32 = (.int .i64 w_) := hdp.1
                    refine Eng.dv (Eng.gt rfl rfl rfl (show Eng.opv 59 u' (.tmp 30) = (.bool false) from e27)) rfl ?_ (hK _ _ (Below.refl _ _) rfl)
                    exact (Eng.x_lt (r := false) rfl (show Eng.opv 59 u' (.tmp 32) = (.int .i64 w_) from e29) rfl (decide_eq_false (by omega)))
                  · intro u' W hbW hkp hdp K hK
                    have e27 : u' 30 = (.bool false) := hdp.1
                    have e30 : u' 33 = (.bool false) := hdp.2.1
                    refine Eng.dv rfl rfl ?_ (hK _ _ (Below.refl _ _) rfl)
                    exact (Eng.x_pick (v := (.bool false)) rfl (show Eng.opv 59 u' (.tmp 30) = (.bool false) from e27) rfl (show Eng.opv 59 u' (.tmp 33) = (.bool false) from e30) rfl)
                  · intro u' W hbW hkp hdp K hK
                    have e31 : u' 34 = (.bool false) := hdp.1
                    refine Eng.dv rfl rfl ?_ (hK _ _ (Below.refl _ _) rfl)
                    exact (Eng.x_mv (v := (.bool false)) rfl (show Eng.opv 59 u' (.tmp 34) = (.bool false) from e31))
                  · intro u' W hbW hkp hdp K hK
                    have e32 : u' 35 = (.bool false) := hdp.1
                    refine Eng.dv (Eng.gt rfl rfl rfl (show Eng.opv 59 u' (.tmp 35) = (.bool false) from e32)) rfl ?_ (hK _ _ (Below.refl _ _) rfl)
                    exact (Eng.x_fa (v := (.pointer (some ⟨w.heap.size, 3, none⟩))) rfl (show Eng.opv 59 u' (.tmp 1) = (.pointer (some ⟨w.heap.size, 0, none⟩)) from hkp 1 rfl) (by kernel_rfl))
                  · intro u' W hbW hkp hdp K hK
                    have e32 : u' 35 = (.bool false) := hdp.2.1
                    have e33 : u' 36 = (.pointer (some ⟨w.heap.size, 3, none⟩)) := hdp.1
                    refine Eng.dv (Eng.gt rfl rfl rfl (show Eng.opv 59 u' (.tmp 35) = (.bool false) from e32)) rfl ?_ (hK _ _ (Below.refl _ _) rfl)
                    exact (Eng.x_ld1 (v := (.int .i64 w_)) rfl ag3_to (show Eng.opv 59 u' (.tmp 36) = (.pointer (some ⟨w.heap.size, 3, none⟩)) from e33) ((((hk2).below hbW)).cell 3))
                  · intro u' W hbW hkp hdp K hK
                    have e32 : u' 35 = (.bool false) := hdp.1
                    refine Eng.dv (Eng.gt rfl rfl rfl (show Eng.opv 59 u' (.tmp 35) = (.bool false) from e32)) rfl ?_ (hK _ _ (Below.refl _ _) rfl)
                    exact (Eng.x_fa (v := (.pointer (some ⟨w.heap.size, 0, none⟩))) rfl (show Eng.opv 59 u' (.tmp 1) = (.pointer (some ⟨w.heap.size, 0, none⟩)) from hkp 1 rfl) (by kernel_rfl))
                  · intro u' W hbW hkp hdp K hK
                    have e32 : u' 35 = (.bool false) := hdp.2.1
                    have e35 : u' 38 = (.pointer (some ⟨w.heap.size, 0, none⟩)) := hdp.1
                    refine Eng.dv (Eng.gt rfl rfl rfl (show Eng.opv 59 u' (.tmp 35) = (.bool false) from e32)) rfl ?_ (hK _ _ (Below.refl _ _) rfl)
                    exact (Eng.x_ld1 (v := (.int .i64 h)) rfl ag3_to (show Eng.opv 59 u' (.tmp 38) = (.pointer (some ⟨w.heap.size, 0, none⟩)) from e35) ((((hk2).below hbW)).cell 0))
                  · intro u' W hbW hkp hdp K hK
                    have e32 : u' 35 = (.bool false) := hdp.2.1
                    have e36 : u' 39 = (.int .i64 h) := hdp.1
                    refine Eng.dv (Eng.gt rfl rfl rfl (show Eng.opv 59 u' (.tmp 35) = (.bool false) from e32)) rfl ?_ (hK _ _ (Below.refl _ _) rfl)
                    exact (Eng.x_shl rfl rfl (show Eng.opv 59 u' (.tmp 39) = (.int .i64 h) from e36) (by omega) (r := ((2 ^ h.toNat : Nat) : Int)) (one_shl hh))
                  · intro u' W hbW hkp hdp K hK
                    have e32 : u' 35 = (.bool false) := hdp.2.2.1
                    have e34 : u' 37 = (.int .i64 w_) := hdp.1
                    have e37 : u' 40 = (.int .i64 ((2 ^ h.toNat : Nat) : Int)) := hdp.2.1
                    refine Eng.dv (Eng.gt rfl rfl rfl (show Eng.opv 59 u' (.tmp 35) = (.bool false) from e32)) rfl ?_ (hK _ _ (Below.refl _ _) rfl)
                    exact (Eng.x_gt (r := true) rfl (show Eng.opv 59 u' (.tmp 37) = (.int .i64 w_) from e34) (show Eng.opv 59 u' (.tmp 40) = (.int .i64 ((2 ^ h.toNat : Nat) : Int)) from e37) (decide_eq_true (by omega)))
                  · intro u' W hbW hkp hdp K hK
                    have e32 : u' 35 = (.bool false) := hdp.1
                    have e38 : u' 41 = (.bool true) := hdp.2.1
                    refine Eng.dv rfl rfl ?_ (hK _ _ (Below.refl _ _) rfl)
                    exact (Eng.x_pick (v := (.bool true)) rfl (show Eng.opv 59 u' (.tmp 35) = (.bool false) from e32) rfl (show Eng.opv 59 u' (.tmp 41) = (.bool true) from e38) rfl)
                · intro ud17 w17 hb17 hkp17 ⟨f17_0, f17_1, f17_2, f17_3, f17_4, f17_5, f17_6, f17_7, f17_8, f17_9, f17_10, f17_11, f17_12, f17_13, f17_14, f17_15, f17_16, f17_17, f17_18, f17_19, f17_20, f17_21, f17_22, f17_23, f17_24, f17_25, f17_26, f17_27, f17_28, f17_29, f17_30, f17_31, f17_32, f17_33, f17_34, f17_35, f17_36, f17_37, f17_38, f17_39, _⟩
                  have hH17 : Eng.Has ud17 [(3, (.pointer (some ⟨w.heap.size, 0, none⟩))), (4, (.int .i64 h)), (5, (.bool true)), (6, (.bool false)), (7, (.bool false)), (8, (.pointer (some ⟨w.heap.size, 1, none⟩))), (9, (.int .i64 l)), (10, (.bool false)), (11, (.bool false)), (12, (.bool false)), (13, (.pointer (some ⟨w.heap.size, 1, none⟩))), (14, (.int .i64 l)), (15, (.pointer (some ⟨w.heap.size, 0, none⟩))), (16, (.int .i64 h)), (17, (.int .i64 (48 / h))), (18, (.bool false)), (19, (.bool false)), (20, (.bool false)), (21, (.pointer (some ⟨w.heap.size, 2, none⟩))), (22, (.int .i64 i)), (23, (.bool false)), (24, (.bool false)), (25, (.bool false)), (26, (.pointer (some ⟨w.heap.size, 2, none⟩))), (27, (.int .i64 i)), (28, (.bool false)), (29, (.bool false)), (30, (.bool false)), (31, (.pointer (some ⟨w.heap.size, 3, none⟩))), (32, (.int .i64 w_)), (33, (.bool false)), (34, (.bool false)), (35, (.bool false)), (36, (.pointer (some ⟨w.heap.size, 3, none⟩))), (37, (.int .i64 w_)), (38, (.pointer (some ⟨w.heap.size, 0, none⟩))), (39, (.int .i64 h)), (40, (.int .i64 ((2 ^ h.toNat : Nat) : Int))), (41, (.bool true)), (42, (.bool true))] := ⟨f17_0, f17_1, f17_2, f17_3, f17_4, f17_5, f17_6, f17_7, f17_8, f17_9, f17_10, f17_11, f17_12, f17_13, f17_14, f17_15, f17_16, f17_17, f17_18, f17_19, f17_20, f17_21, f17_22, f17_23, f17_24, f17_25, f17_26, f17_27, f17_28, f17_29, f17_30, f17_31, f17_32, f17_33, f17_34, f17_35, f17_36, f17_37, f17_38, f17_39, trivial⟩
                  obtain rfl := Eng.collect hkp17 hH17 rfl
                  refine Eng.nil ?_
                  refine hK4 _ _ ?_
                  refine Eng.cond_t rfl ?_
                  refine Eng.seqk fun K18 hK18 => ?_
                  refine Eng.reg ?_
                  refine Eng.sv rfl rfl (Eng.x_as (v := (.bool false)) rfl rfl) ?_
                  refine Eng.nil ?_
                  refine hK18 _ _ ?_
                  refine Eng.rt ?_
                  refine Eng.tr ?_
                  refine Eng.ret (Eng.res1 (v1 := (.bool false)) rfl (Eng.rdt rfl)) ?_
                  have hB0_2 : Below w.heap.size w w17 := (hb2).trans (hb17.mono (hb2).size)
                  exact ⟨by rw [tvF (.inr (.inr (.inr (.inr (.inr (.inr (.inl q6)))))))], hB0_2⟩
              · skip
                refine Eng.draw 40 [fun vQ _ => vQ = (.pointer (some ⟨w.heap.size, 0, none⟩)), fun vQ _ => vQ = (.int .i64 h), fun vQ _ => vQ = (.bool true), fun vQ _ => vQ = (.bool false), fun vQ _ => vQ = (.bool false), fun vQ _ => vQ = (.pointer (some ⟨w.heap.size, 1, none⟩)), fun vQ _ => vQ = (.int .i64 l), fun vQ _ => vQ = (.bool false), fun vQ _ => vQ = (.bool false), fun vQ _ => vQ = (.bool false), fun vQ _ => vQ = (.pointer (some ⟨w.heap.size, 1, none⟩)), fun vQ _ => vQ = (.int .i64 l), fun vQ _ => vQ = (.pointer (some ⟨w.heap.size, 0, none⟩)), fun vQ _ => vQ = (.int .i64 h), fun vQ _ => vQ = (.int .i64 (48 / h)), fun vQ _ => vQ = (.bool false), fun vQ _ => vQ = (.bool false), fun vQ _ => vQ = (.bool false), fun vQ _ => vQ = (.pointer (some ⟨w.heap.size, 2, none⟩)), fun vQ _ => vQ = (.int .i64 i), fun vQ _ => vQ = (.bool false), fun vQ _ => vQ = (.bool false), fun vQ _ => vQ = (.bool false), fun vQ _ => vQ = (.pointer (some ⟨w.heap.size, 2, none⟩)), fun vQ _ => vQ = (.int .i64 i), fun vQ _ => vQ = (.bool false), fun vQ _ => vQ = (.bool false), fun vQ _ => vQ = (.bool false), fun vQ _ => vQ = (.pointer (some ⟨w.heap.size, 3, none⟩)), fun vQ _ => vQ = (.int .i64 w_), fun vQ _ => vQ = (.bool false), fun vQ _ => vQ = (.bool false), fun vQ _ => vQ = (.bool false), fun vQ _ => vQ = (.pointer (some ⟨w.heap.size, 3, none⟩)), fun vQ _ => vQ = (.int .i64 w_), fun vQ _ => vQ = (.pointer (some ⟨w.heap.size, 0, none⟩)), fun vQ _ => vQ = (.int .i64 h), fun vQ _ => vQ = (.int .i64 ((2 ^ h.toNat : Nat) : Int)), fun vQ _ => vQ = (.bool false), fun vQ _ => vQ = (.bool false)] (by kernel_rfl) (by kernel_rfl) (by kernel_rfl) (by kernel_rfl) rfl rfl ?_ ?_ ?_
                · exact ⟨fun _ _ _ h _ => h, fun _ _ _ h _ => h, fun _ _ _ h _ => h, fun _ _ _ h _ => h, fun _ _ _ h _ => h, fun _ _ _ h _ => h, fun _ _ _ h _ => h, fun _ _ _ h _ => h, fun _ _ _ h _ => h, fun _ _ _ h _ => h, fun _ _ _ h _ => h, fun _ _ _ h _ => h, fun _ _ _ h _ => h, fun _ _ _ h _ => h, fun _ _ _ h _ => h, fun _ _ _ h _ => h, fun _ _ _ h _ => h, fun _ _ _ h _ => h, fun _ _ _ h _ => h, fun _ _ _ h _ => h, fun _ _ _ h _ => h, fun _ _ _ h _ => h, fun _ _ _ h _ => h, fun _ _ _ h _ => h, fun _ _ _ h _ => h, fun _ _ _ h _ => h, fun _ _ _ h _ => h, fun _ _ _ h _ => h, fun _ _ _ h _ => h, fun _ _ _ h _ => h, fun _ _ _ h _ => h, fun _ _ _ h _ => h, fun _ _ _ h _ => h, fun _ _ _ h _ => h, fun _ _ _ h _ => h, fun _ _ _ h _ => h, fun _ _ _ h _ => h, fun _ _ _ h _ => h, fun _ _ _ h _ => h, fun _ _ _ h _ => h, trivial⟩
                · refine ⟨?_, ?_, ?_, ?_, ?_, ?_, ?_, ?_, ?_, ?_, ?_, ?_, ?_, ?_, ?_, ?_, ?_, ?_, ?_, ?_, ?_, ?_, ?_, ?_, ?_, ?_, ?_, ?_, ?_, ?_, ?_, ?_, ?_, ?_, ?_, ?_, ?_, ?_, ?_, ?_, trivial⟩
                  · intro u' W hbW hkp hdp K hK
                    refine Eng.dv rfl rfl ?_ (hK _ _ (Below.refl _ _) rfl)
                    exact (Eng.x_fa (v := (.pointer (some ⟨w.heap.size, 0, none⟩))) rfl (show Eng.opv 59 u' (.tmp 1) = (.pointer (some ⟨w.heap.size, 0, none⟩)) from hkp 1 rfl) (by kernel_rfl))
                  · intro u' W hbW hkp hdp K hK
                    have e0 : u' 3 = (.pointer (some ⟨w.heap.size, 0, none⟩)) := hdp.1
                    refine Eng.dv rfl rfl ?_ (hK _ _ (Below.refl _ _) rfl)
                    exact (Eng.x_ld1 (v := (.int .i64 h)) rfl ag3_to (show Eng.opv 59 u' (.tmp 3) = (.pointer (some ⟨w.heap.size, 0, none⟩)) from e0) ((((hk2).below hbW)).cell 0))
                  · intro u' W hbW hkp hdp K hK
                    have e1 : u' 4 = (.int .i64 h) := hdp.1
                    refine Eng.dc (vs := #[(.int .i64 h)]) rfl ?_ (height_is hh _) ?_
                    · exact Eng.xc (xs := #[(Go.Operand.tmp 4)]) (vl := [(.int .i64 h)]) rfl rfl (Eng.lc (show Eng.opv 59 u' (.tmp 4) = (.int .i64 h) from e1) rfl) en49_to
                    rintro _ W2 ⟨rfl, hb2⟩
                    exact Eng.aft_v rfl (hK _ _ hb2 rfl)
                  · intro u' W hbW hkp hdp K hK
                    have e2 : u' 5 = (.bool true) := hdp.1
                    refine Eng.dv rfl rfl ?_ (hK _ _ (Below.refl _ _) rfl)
                    exact (Eng.x_not (v := (.bool false)) rfl (show Eng.opv 59 u' (.tmp 5) = (.bool true) from e2) rfl)
                  · intro u' W hbW hkp hdp K hK
                    have e3 : u' 6 = (.bool false) := hdp.1
                    refine Eng.dv rfl rfl ?_ (hK _ _ (Below.refl _ _) rfl)
                    exact (Eng.x_mv (v := (.bool false)) rfl (show Eng.opv 59 u' (.tmp 6) = (.bool false) from e3))
                  · intro u' W hbW hkp hdp K hK
                    have e4 : u' 7 = (.bool false) := hdp.1
                    refine Eng.dv (Eng.gt rfl rfl rfl (show Eng.opv 59 u' (.tmp 7) = (.bool false) from e4)) rfl ?_ (hK _ _ (Below.refl _ _) rfl)
                    exact (Eng.x_fa (v := (.pointer (some ⟨w.heap.size, 1, none⟩))) rfl (show Eng.opv 59 u' (.tmp 1) = (.pointer (some ⟨w.heap.size, 0, none⟩)) from hkp 1 rfl) (by kernel_rfl))
                  · intro u' W hbW hkp hdp K hK
                    have e4 : u' 7 = (.bool false) := hdp.2.1
                    have e5 : u' 8 = (.pointer (some ⟨w.heap.size, 1, none⟩)) := hdp.1
                    refine Eng.dv (Eng.gt rfl rfl rfl (show Eng.opv 59 u' (.tmp 7) = (.bool false) from e4)) rfl ?_ (hK _ _ (Below.refl _ _) rfl)
                    exact (Eng.x_ld1 (v := (.int .i64 l)) rfl ag3_to (show Eng.opv 59 u' (.tmp 8) = (.pointer (some ⟨w.heap.size, 1, none⟩)) from e5) ((((hk2).below hbW)).cell 1))
                  · intro u' W hbW hkp hdp K hK
                    have e4 : u' 7 = (.bool false) := hdp.2.1
                    have e6 : u' 9 = (.int .i64 l) := hdp.1
                    refine Eng.dv (Eng.gt rfl rfl rfl (show Eng.opv 59 u' (.tmp 7) = (.bool false) from e4)) rfl ?_ (hK _ _ (Below.refl _ _) rfl)
                    exact (Eng.x_lt (r := false) rfl (show Eng.opv 59 u' (.tmp 9) = (.int .i64 l) from e6) rfl (decide_eq_false (by omega)))
                  · intro u' W hbW hkp hdp K hK
                    have e4 : u' 7 = (.bool false) := hdp.1
                    have e7 : u' 10 = (.bool false) := hdp.2.1
                    refine Eng.dv rfl rfl ?_ (hK _ _ (Below.refl _ _) rfl)
                    exact (Eng.x_pick (v := (.bool false)) rfl (show Eng.opv 59 u' (.tmp 7) = (.bool false) from e4) rfl (show Eng.opv 59 u' (.tmp 10) = (.bool false) from e7) rfl)
                  · intro u' W hbW hkp hdp K hK
                    have e8 : u' 11 = (.bool false) := hdp.1
                    refine Eng.dv rfl rfl ?_ (hK _ _ (Below.refl _ _) rfl)
                    exact (Eng.x_mv (v := (.bool false)) rfl (show Eng.opv 59 u' (.tmp 11) = (.bool false) from e8))
                  · intro u' W hbW hkp hdp K hK
                    have e9 : u' 12 = (.bool false) := hdp.1
                    refine Eng.dv (Eng.gt rfl rfl rfl (show Eng.opv 59 u' (.tmp 12) = (.bool false) from e9)) rfl ?_ (hK _ _ (Below.refl _ _) rfl)
                    exact (Eng.x_fa (v := (.pointer (some ⟨w.heap.size, 1, none⟩))) rfl (show Eng.opv 59 u' (.tmp 1) = (.pointer (some ⟨w.heap.size, 0, none⟩)) from hkp 1 rfl) (by kernel_rfl))
                  · intro u' W hbW hkp hdp K hK
                    have e9 : u' 12 = (.bool false) := hdp.2.1
                    have e10 : u' 13 = (.pointer (some ⟨w.heap.size, 1, none⟩)) := hdp.1
                    refine Eng.dv (Eng.gt rfl rfl rfl (show Eng.opv 59 u' (.tmp 12) = (.bool false) from e9)) rfl ?_ (hK _ _ (Below.refl _ _) rfl)
                    exact (Eng.x_ld1 (v := (.int .i64 l)) rfl ag3_to (show Eng.opv 59 u' (.tmp 13) = (.pointer (some ⟨w.heap.size, 1, none⟩)) from e10) ((((hk2).below hbW)).cell 1))
                  · intro u' W hbW hkp hdp K hK
                    have e9 : u' 12 = (.bool false) := hdp.1
                    refine Eng.dv (Eng.gt rfl rfl rfl (show Eng.opv 59 u' (.tmp 12) = (.bool false) from e9)) rfl ?_ (hK _ _ (Below.refl _ _) rfl)
                    exact (Eng.x_fa (v := (.pointer (some ⟨w.heap.size, 0, none⟩))) rfl (show Eng.opv 59 u' (.tmp 1) = (.pointer (some ⟨w.heap.size, 0, none⟩)) from hkp 1 rfl) (by kernel_rfl))
                  · intro u' W hbW hkp hdp K hK
                    have e9 : u' 12 = (.bool false) := hdp.2.1
                    have e12 : u' 15 = (.pointer (some ⟨w.heap.size, 0, none⟩)) := hdp.1
                    refine Eng.dv (Eng.gt rfl rfl rfl (show Eng.opv 59 u' (.tmp 12) = (.bool false) from e9)) rfl ?_ (hK _ _ (Below.refl _ _) rfl)
                    exact (Eng.x_ld1 (v := (.int .i64 h)) rfl ag3_to (show Eng.opv 59 u' (.tmp 15) = (.pointer (some ⟨w.heap.size, 0, none⟩)) from e12) ((((hk2).below hbW)).cell 0))
                  · intro u' W hbW hkp hdp K hK
                    have e9 : u' 12 = (.bool false) := hdp.2.1
                    have e13 : u' 16 = (.int .i64 h) := hdp.1
                    refine Eng.dv (Eng.gt rfl rfl rfl (show Eng.opv 59 u' (.tmp 12) = (.bool false) from e9)) rfl ?_ (hK _ _ (Below.refl _ _) rfl)
                    exact (Eng.x_quo rfl rfl (show Eng.opv 59 u' (.tmp 16) = (.int .i64 h) from e13) (by omega) (r := 48 / h) (quo48 hh))
                  · intro u' W hbW hkp hdp K hK
                    have e9 : u' 12 = (.bool false) := hdp.2.2.1
                    have e11 : u' 14 = (.int .i64 l) := hdp.1
                    have e14 : u' 17 = (.int .i64 (48 / h)) := hdp.2.1
                    refine Eng.dv (Eng.gt rfl rfl rfl (show Eng.opv 59 u' (.tmp 12) = (.bool false) from e9)) rfl ?_ (hK _ _ (Below.refl _ _) rfl)
                    exact (Eng.x_gt (r := false) rfl (show Eng.opv 59 u' (.tmp 14) = (.int .i64 l) from e11) (show Eng.opv 59 u' (.tmp 17) = (.int .i64 (48 / h)) from e14) (decide_eq_false (by omega)))
                  · intro u' W hbW hkp hdp K hK
                    have e9 : u' 12 = (.bool false) := hdp.1
                    have e15 : u' 18 = (.bool false) := hdp.2.1
                    refine Eng.dv rfl rfl ?_ (hK _ _ (Below.refl _ _) rfl)
                    exact (Eng.x_pick (v := (.bool false)) rfl (show Eng.opv 59 u' (.tmp 12) = (.bool false) from e9) rfl (show Eng.opv 59 u' (.tmp 18) = (.bool false) from e15) rfl)
                  · intro u' W hbW hkp hdp K hK
                    have e16 : u' 19 = (.bool false) := hdp.1
                    refine Eng.dv rfl rfl ?_ (hK _ _ (Below.refl _ _) rfl)
                    exact (Eng.x_mv (v := (.bool false)) rfl (show Eng.opv 59 u' (.tmp 19) = (.bool false) from e16))
                  · intro u' W hbW hkp hdp K hK
                    have e17 : u' 20 = (.bool false) := hdp.1
                    refine Eng.dv (Eng.gt rfl rfl rfl (show Eng.opv 59 u' (.tmp 20) = (.bool false) from e17)) rfl ?_ (hK _ _ (Below.refl _ _) rfl)
                    exact (Eng.x_fa (v := (.pointer (some ⟨w.heap.size, 2, none⟩))) rfl (show Eng.opv 59 u' (.tmp 1) = (.pointer (some ⟨w.heap.size, 0, none⟩)) from hkp 1 rfl) (by kernel_rfl))
                  · intro u' W hbW hkp hdp K hK
                    have e17 : u' 20 = (.bool false) := hdp.2.1
                    have e18 : u' 21 = (.pointer (some ⟨w.heap.size, 2, none⟩)) := hdp.1
                    refine Eng.dv (Eng.gt rfl rfl rfl (show Eng.opv 59 u' (.tmp 20) = (.bool false) from e17)) rfl ?_ (hK _ _ (Below.refl _ _) rfl)
                    exact (Eng.x_ld1 (v := (.int .i64 i)) rfl ag3_to (show Eng.opv 59 u' (.tmp 21) = (.pointer (some ⟨w.heap.size, 2, none⟩)) from e18) ((((hk2).below hbW)).cell 2))
                  · intro u' W hbW hkp hdp K hK
                    have e17 : u' 20 = (.bool false) := hdp.2.1
                    have e19 : u' 22 = (.int .i64 i) := hdp.1
                    refine Eng.dv (Eng.gt rfl rfl rfl (show Eng.opv 59 u' (.tmp 20) = (.bool false) from e17)) rfl ?_ (hK _ _ (Below.refl _ _) rfl)
                    exact (Eng.x_lt (r := false) rfl (show Eng.opv 59 u' (.tmp 22) = (.int .i64 i) from e19) rfl (decide_eq_false (by omega)))
                  · intro u' W hbW hkp hdp K hK
                    have e17 : u' 20 = (.bool false) := hdp.1
                    have e20 : u' 23 = (.bool false) := hdp.2.1
                    refine Eng.dv rfl rfl ?_ (hK _ _ (Below.refl _ _) rfl)
                    exact (Eng.x_pick (v := (.bool false)) rfl (show Eng.opv 59 u' (.tmp 20) = (.bool false) from e17) rfl (show Eng.opv 59 u' (.tmp 23) = (.bool false) from e20) rfl)
                  · intro u' W hbW hkp hdp K hK
                    have e21 : u' 24 = (.bool false) := hdp.1
                    refine Eng.dv rfl rfl ?_ (hK _ _ (Below.refl _ _) rfl)
                    exact (Eng.x_mv (v := (.bool false)) rfl (show Eng.opv 59 u' (.tmp 24) = (.bool false) from e21))
                  · intro u' W hbW hkp hdp K hK
                    have e22 : u' 25 = (.bool false) := hdp.1
                    refine Eng.dv (Eng.gt rfl rfl rfl (show Eng.opv 59 u' (.tmp 25) = (.bool false) from e22)) rfl ?_ (hK _ _ (Below.refl _ _) rfl)
                    exact (Eng.x_fa (v := (.pointer (some ⟨w.heap.size, 2, none⟩))) rfl (show Eng.opv 59 u' (.tmp 1) = (.pointer (some ⟨w.heap.size, 0, none⟩)) from hkp 1 rfl) (by kernel_rfl))
                  · intro u' W hbW hkp hdp K hK
                    have e22 : u' 25 = (.bool false) := hdp.2.1
                    have e23 : u' 26 = (.pointer (some ⟨w.heap.size, 2, none⟩)) := hdp.1
                    refine Eng.dv (Eng.gt rfl rfl rfl (show Eng.opv 59 u' (.tmp 25) = (.bool false) from e22)) rfl ?_ (hK _ _ (Below.refl _ _) rfl)
                    exact (Eng.x_ld1 (v := (.int .i64 i)) rfl ag3_to (show Eng.opv 59 u' (.tmp 26) = (.pointer (some ⟨w.heap.size, 2, none⟩)) from e23) ((((hk2).below hbW)).cell 2))
                  · intro u' W hbW hkp hdp K hK
                    have e22 : u' 25 = (.bool false) := hdp.2.1
                    have e24 : u' 27 = (.int .i64 i) := hdp.1
                    refine Eng.dv (Eng.gt rfl rfl rfl (show Eng.opv 59 u' (.tmp 25) = (.bool false) from e22)) rfl ?_ (hK _ _ (Below.refl _ _) rfl)
                    exact (Eng.x_gt (r := false) rfl (show Eng.opv 59 u' (.tmp 27) = (.int .i64 i) from e24) rfl (decide_eq_false (by omega)))
                  · intro u' W hbW hkp hdp K hK
                    have e22 : u' 25 = (.bool false) := hdp.1
                    have e25 : u' 28 = (.bool false) := hdp.2.1
                    refine Eng.dv rfl rfl ?_ (hK _ _ (Below.refl _ _) rfl)
                    exact (Eng.x_pick (v := (.bool false)) rfl (show Eng.opv 59 u' (.tmp 25) = (.bool false) from e22) rfl (show Eng.opv 59 u' (.tmp 28) = (.bool false) from e25) rfl)
                  · intro u' W hbW hkp hdp K hK
                    have e26 : u' 29 = (.bool false) := hdp.1
                    refine Eng.dv rfl rfl ?_ (hK _ _ (Below.refl _ _) rfl)
                    exact (Eng.x_mv (v := (.bool false)) rfl (show Eng.opv 59 u' (.tmp 29) = (.bool false) from e26))
                  · intro u' W hbW hkp hdp K hK
                    have e27 : u' 30 = (.bool false) := hdp.1
                    refine Eng.dv (Eng.gt rfl rfl rfl (show Eng.opv 59 u' (.tmp 30) = (.bool false) from e27)) rfl ?_ (hK _ _ (Below.refl _ _) rfl)
                    exact (Eng.x_fa (v := (.pointer (some ⟨w.heap.size, 3, none⟩))) rfl (show Eng.opv 59 u' (.tmp 1) = (.pointer (some ⟨w.heap.size, 0, none⟩)) from hkp 1 rfl) (by kernel_rfl))
                  · intro u' W hbW hkp hdp K hK
                    have e27 : u' 30 = (.bool false) := hdp.2.1
                    have e28 : u' 31 = (.pointer (some ⟨w.heap.size, 3, none⟩)) := hdp.1
                    refine Eng.dv (Eng.gt rfl rfl rfl (show Eng.opv 59 u' (.tmp 30) = (.bool false) from e27)) rfl ?_ (hK _ _ (Below.refl _ _) rfl)
                    exact (Eng.x_ld1 (v := (.int .i64 w_)) rfl ag3_to (show Eng.opv 59 u' (.tmp 31) = (.pointer (some ⟨w.heap.size, 3, none⟩)) from e28) ((((hk2).below hbW)).cell 3))
                  · intro u' W hbW hkp hdp K hK
                    have e27 : u' 30 = (.bool false) := hdp.2.1
                    have e29 : u' 32 = (.int .i64 w_) := hdp.1
                    refine Eng.dv (Eng.gt rfl rfl rfl (show Eng.opv 59 u' (.tmp 30) = (.bool false) from e27)) rfl ?_ (hK _ _ (Below.refl _ _) rfl)
                    exact (Eng.x_lt (r := false) rfl (show Eng.opv 59 u' (.tmp 32) = (.int .i64 w_) from e29) rfl (decide_eq_false (by omega)))
                  · intro u' W hbW hkp hdp K hK
                    have e27 : u' 30 = (.bool false) := hdp.1
                    have e30 : u' 33 = (.bool false) := hdp.2.1
                    refine Eng.dv rfl rfl ?_ (hK _ _ (Below.refl _ _) rfl)
                    exact (Eng.x_pick (v := (.bool false)) rfl (show Eng.opv 59 u' (.tmp 30) = (.bool false) from e27) rfl (show Eng.opv 59 u' (.tmp 33) = (.bool false) from e30) rfl)
                  · intro u' W hbW hkp hdp K hK
                    have e31 : u' 34 = (.bool false) := hdp.1
                    refine Eng.dv rfl rfl ?_ (hK _ _ (Below.refl _ _) rfl)
                    exact (Eng.x_mv (v := (.bool false)) rfl (show Eng.opv 59 u' (.tmp 34) = (.bool false) from e31))
                  · intro u' W hbW hkp hdp K hK
                    have e32 : u' 35 = (.bool false) := hdp.1
                    refine Eng.dv (Eng.gt rfl rfl rfl (show Eng.opv 59 u' (.tmp 35) = (.bool false) from e32)) rfl ?_ (hK _ _ (Below.refl _ _) rfl)
                    exact (Eng.x_fa (v := (.pointer (some ⟨w.heap.size, 3, none⟩))) rfl (show Eng.opv 59 u' (.tmp 1) = (.pointer (some ⟨w.heap.size, 0, none⟩)) from hkp 1 rfl) (by kernel_rfl))
                  · intro u' W hbW hkp hdp K hK
                    have e32 : u' 35 = (.bool false) := hdp.2.1
                    have e33 : u' 36 = (.pointer (some ⟨w.heap.size, 3, none⟩)) := hdp.1
                    refine Eng.dv (Eng.gt rfl rfl rfl (show Eng.opv 59 u' (.tmp 35) = (.bool false) from e32)) rfl ?_ (hK _ _ (Below.refl _ _) rfl)
                    exact (Eng.x_ld1 (v := (.int .i64 w_)) rfl ag3_to (show Eng.opv 59 u' (.tmp 36) = (.pointer (some ⟨w.heap.size, 3, none⟩)) from e33) ((((hk2).below hbW)).cell 3))
                  · intro u' W hbW hkp hdp K hK
                    have e32 : u' 35 = (.bool false) := hdp.1
                    refine Eng.dv (Eng.gt rfl rfl rfl (show Eng.opv 59 u' (.tmp 35) = (.bool false) from e32)) rfl ?_ (hK _ _ (Below.refl _ _) rfl)
                    exact (Eng.x_fa (v := (.pointer (some ⟨w.heap.size, 0, none⟩))) rfl (show Eng.opv 59 u' (.tmp 1) = (.pointer (some ⟨w.heap.size, 0, none⟩)) from hkp 1 rfl) (by kernel_rfl))
                  · intro u' W hbW hkp hdp K hK
                    have e32 : u' 35 = (.bool false) := hdp.2.1
                    have e35 : u' 38 = (.pointer (some ⟨w.heap.size, 0, none⟩)) := hdp.1
                    refine Eng.dv (Eng.gt rfl rfl rfl (show Eng.opv 59 u' (.tmp 35) = (.bool false) from e32)) rfl ?_ (hK _ _ (Below.refl _ _) rfl)
                    exact (Eng.x_ld1 (v := (.int .i64 h)) rfl ag3_to (show Eng.opv 59 u' (.tmp 38) = (.pointer (some ⟨w.heap.size, 0, none⟩)) from e35) ((((hk2).below hbW)).cell 0))
                  · intro u' W hbW hkp hdp K hK
                    have e32 : u' 35 = (.bool false) := hdp.2.1
                    have e36 : u' 39 = (.int .i64 h) := hdp.1
                    refine Eng.dv (Eng.gt rfl rfl rfl (show Eng.opv 59 u' (.tmp 35) = (.bool false) from e32)) rfl ?_ (hK _ _ (Below.refl _ _) rfl)
                    exact (Eng.x_shl rfl rfl (show Eng.opv 59 u' (.tmp 39) = (.int .i64 h) from e36) (by omega) (r := ((2 ^ h.toNat : Nat) : Int)) (one_shl hh))
                  · intro u' W hbW hkp hdp K hK
                    have e32 : u' 35 = (.bool false) := hdp.2.2.1
                    have e34 : u' 37 = (.int .i64 w_) := hdp.1
                    have e37 : u' 40 = (.int .i64 ((2 ^ h.toNat : Nat) : Int)) := hdp.2.1
                    refine Eng.dv (Eng.gt rfl rfl rfl (show Eng.opv 59 u' (.tmp 35) = (.bool false) from e32)) rfl ?_ (hK _ _ (Below.refl _ _) rfl)
                    exact (Eng.x_gt (r := false) rfl (show Eng.opv 59 u' (.tmp 37) = (.int .i64 w_) from e34) (show Eng.opv 59 u' (.tmp 40) = (.int .i64 ((2 ^ h.toNat : Nat) : Int)) from e37) (decide_eq_false (by omega)))
                  · intro u' W hbW hkp hdp K hK
                    have e32 : u' 35 = (.bool false) := hdp.1
                    have e38 : u' 41 = (.bool false) := hdp.2.1
                    refine Eng.dv rfl rfl ?_ (hK _ _ (Below.refl _ _) rfl)
                    exact (Eng.x_pick (v := (.bool false)) rfl (show Eng.opv 59 u' (.tmp 35) = (.bool false) from e32) rfl (show Eng.opv 59 u' (.tmp 41) = (.bool false) from e38) rfl)
                · intro ud19 w19 hb19 hkp19 ⟨f19_0, f19_1, f19_2, f19_3, f19_4, f19_5, f19_6, f19_7, f19_8, f19_9, f19_10, f19_11, f19_12, f19_13, f19_14, f19_15, f19_16, f19_17, f19_18, f19_19, f19_20, f19_21, f19_22, f19_23, f19_24, f19_25, f19_26, f19_27, f19_28, f19_29, f19_30, f19_31, f19_32, f19_33, f19_34, f19_35, f19_36, f19_37, f19_38, f19_39, _⟩
                  have hH19 : Eng.Has ud19 [(3, (.pointer (some ⟨w.heap.size, 0, none⟩))), (4, (.int .i64 h)), (5, (.bool true)), (6, (.bool false)), (7, (.bool false)), (8, (.pointer (some ⟨w.heap.size, 1, none⟩))), (9, (.int .i64 l)), (10, (.bool false)), (11, (.bool false)), (12, (.bool false)), (13, (.pointer (some ⟨w.heap.size, 1, none⟩))), (14, (.int .i64 l)), (15, (.pointer (some ⟨w.heap.size, 0, none⟩))), (16, (.int .i64 h)), (17, (.int .i64 (48 / h))), (18, (.bool false)), (19, (.bool false)), (20, (.bool false)), (21, (.pointer (some ⟨w.heap.size, 2, none⟩))), (22, (.int .i64 i)), (23, (.bool false)), (24, (.bool false)), (25, (.bool false)), (26, (.pointer (some ⟨w.heap.size, 2, none⟩))), (27, (.int .i64 i)), (28, (.bool false)), (29, (.bool false)), (30, (.bool false)), (31, (.pointer (some ⟨w.heap.size, 3, none⟩))), (32, (.int .i64 w_)), (33, (.bool false)), (34, (.bool false)), (35, (.bool false)), (36, (.pointer (some ⟨w.heap.size, 3, none⟩))), (37, (.int .i64 w_)), (38, (.pointer (some ⟨w.heap.size, 0, none⟩))), (39, (.int .i64 h)), (40, (.int .i64 ((2 ^ h.toNat : Nat) : Int))), (41, (.bool false)), (42, (.bool false))] := ⟨f19_0, f19_1, f19_2, f19_3, f19_4, f19_5, f19_6, f19_7, f19_8, f19_9, f19_10, f19_11, f19_12, f19_13, f19_14, f19_15, f19_16, f19_17, f19_18, f19_19, f19_20, f19_21, f19_22, f19_23, f19_24, f19_25, f19_26, f19_27, f19_28, f19_29, f19_30, f19_31, f19_32, f19_33, f19_34, f19_35, f19_36, f19_37, f19_38, f19_39, trivial⟩
                  obtain rfl := Eng.collect hkp19 hH19 rfl
                  refine Eng.nil ?_
                  refine hK4 _ _ ?_
                  refine Eng.cond_f rfl ?_
                  refine Eng.skp ?_
                  refine hK3 _ _ ?_
                  refine Eng.seqk fun K20 hK20 => ?_
                  have hk22 := (hk2).below hb19
                  refine Eng.draw 17 [fun vQ _ => vQ = (.pointer (some ⟨w.heap.size, 1, none⟩)), fun vQ _ => vQ = (.int .i64 l), fun vQ _ => vQ = (.pointer (some ⟨w.heap.size, 0, none⟩)), fun vQ _ => vQ = (.int .i64 h), fun vQ _ => vQ = (.int .i64 (l * h)), fun vQ _ => vQ = (.pointer (some ⟨w.heap.size, 2, none⟩)), fun vQ _ => vQ = (.int .i64 i), fun vQ _ => vQ = (.pointer (some ⟨w.heap.size, 0, none⟩)), fun vQ _ => vQ = (.int .i64 h), fun vQ _ => vQ = (.int .i64 (i * ((2 ^ h.toNat : Nat) : Int))), fun vQ _ => vQ = (.pointer (some ⟨w.heap.size, 3, none⟩)), fun vQ _ => vQ = (.int .i64 w_), fun vQ _ => vQ = (.int .i64 ((i * ((2 ^ h.toNat : Nat) : Int)) + w_)), fun vQ _ => vQ = (.int .i64 (((i * ((2 ^ h.toNat : Nat) : Int)) + w_) - 1)), fun vQ _ => vQ = (.agg #[(.int .i64 (l * h)), (.int .i64 (((i * ((2 ^ h.toNat : Nat) : Int)) + w_) - 1))]), fun vQ _ => vQ = (.bool (nv (l * h) (((i * ((2 ^ h.toNat : Nat) : Int)) + w_) - 1))), fun vQ _ => vQ = (.bool (nv (l * h) (((i * ((2 ^ h.toNat : Nat) : Int)) + w_) - 1)))] (by kernel_rfl) (by kernel_rfl) (by kernel_rfl) (by kernel_rfl) rfl rfl ?_ ?_ ?_
                  · exact ⟨fun _ _ _ h _ => h, fun _ _ _ h _ => h, fun _ _ _ h _ => h, fun _ _ _ h _ => h, fun _ _ _ h _ => h, fun _ _ _ h _ => h, fun _ _ _ h _ => h, fun _ _ _ h _ => h, fun _ _ _ h _ => h, fun _ _ _ h _ => h, fun _ _ _ h _ => h, fun _ _ _ h _ => h, fun _ _ _ h _ => h, fun _ _ _ h _ => h, fun _ _ _ h _ => h, fun _ _ _ h _ => h, fun _ _ _ h _ => h, trivial⟩
                  · refine ⟨?_, ?_, ?_, ?_, ?_, ?_, ?_, ?_, ?_, ?_, ?_, ?_, ?_, ?_, ?_, ?_, ?_, trivial⟩
                    · intro u' W hbW hkp hdp K hK
                      refine Eng.dv rfl rfl ?_ (hK _ _ (Below.refl _ _) rfl)
                      exact (Eng.x_fa (v := (.pointer (some ⟨w.heap.size, 1, none⟩))) rfl (show Eng.opv 59 u' (.tmp 1) = (.pointer (some ⟨w.heap.size, 0, none⟩)) from hkp 1 rfl) (by kernel_rfl))
                    · intro u' W hbW hkp hdp K hK
                      have e0 : u' 43 = (.pointer (some ⟨w.heap.size, 1, none⟩)) := hdp.1
                      refine Eng.dv rfl rfl ?_ (hK _ _ (Below.refl _ _) rfl)
                      exact (Eng.x_ld1 (v := (.int .i64 l)) rfl ag3_to (show Eng.opv 59 u' (.tmp 43) = (.pointer (some ⟨w.heap.size, 1, none⟩)) from e0) ((((hk22).below hbW)).cell 1))
                    · intro u' W hbW hkp hdp K hK
                      refine Eng.dv rfl rfl ?_ (hK _ _ (Below.refl _ _) rfl)
                      exact (Eng.x_fa (v := (.pointer (some ⟨w.heap.size, 0, none⟩))) rfl (show Eng.opv 59 u' (.tmp 1) = (.pointer (some ⟨w.heap.size, 0, none⟩)) from hkp 1 rfl) (by kernel_rfl))
                    · intro u' W hbW hkp hdp K hK
                      have e2 : u' 45 = (.pointer (some ⟨w.heap.size, 0, none⟩)) := hdp.1
                      refine Eng.dv rfl rfl ?_ (hK _ _ (Below.refl _ _) rfl)
                      exact (Eng.x_ld1 (v := (.int .i64 h)) rfl ag3_to (show Eng.opv 59 u' (.tmp 45) = (.pointer (some ⟨w.heap.size, 0, none⟩)) from e2) ((((hk22).below hbW)).cell 0))
                    · intro u' W hbW hkp hdp K hK
                      have e1 : u' 44 = (.int .i64 l) := hdp.1
                      have e3 : u' 46 = (.int .i64 h) := hdp.2.1
                      refine Eng.dv rfl rfl ?_ (hK _ _ (Below.refl _ _) rfl)
                      exact (Eng.x_mul rfl (show Eng.opv 59 u' (.tmp 44) = (.int .i64 l) from e1) (show Eng.opv 59 u' (.tmp 46) = (.int .i64 h) from e3) (Eng.w64 (r := (l * h)) (by omega)))
                    · intro u' W hbW hkp hdp K hK
                      refine Eng.dv rfl rfl ?_ (hK _ _ (Below.refl _ _) rfl)
                      exact (Eng.x_fa (v := (.pointer (some ⟨w.heap.size, 2, none⟩))) rfl (show Eng.opv 59 u' (.tmp 1) = (.pointer (some ⟨w.heap.size, 0, none⟩)) from hkp 1 rfl) (by kernel_rfl))
                    · intro u' W hbW hkp hdp K hK
                      have e5 : u' 48 = (.pointer (some ⟨w.heap.size, 2, none⟩)) := hdp.1
                      refine Eng.dv rfl rfl ?_ (hK _ _ (Below.refl _ _) rfl)
                      exact (Eng.x_ld1 (v := (.int .i64 i)) rfl ag3_to (show Eng.opv 59 u' (.tmp 48) = (.pointer (some ⟨w.heap.size, 2, none⟩)) from e5) ((((hk22).below hbW)).cell 2))
                    · intro u' W hbW hkp hdp K hK
                      refine Eng.dv rfl rfl ?_ (hK _ _ (Below.refl _ _) rfl)
                      exact (Eng.x_fa (v := (.pointer (some ⟨w.heap.size, 0, none⟩))) rfl (show Eng.opv 59 u' (.tmp 1) = (.pointer (some ⟨w.heap.size, 0, none⟩)) from hkp 1 rfl) (by kernel_rfl))
                    · intro u' W hbW hkp hdp K hK
                      have e7 : u' 50 = (.pointer (some ⟨w.heap.size, 0, none⟩)) := hdp.1
                      refine Eng.dv rfl rfl ?_ (hK _ _ (Below.refl _ _) rfl)
                      exact (Eng.x_ld1 (v := (.int .i64 h)) rfl ag3_to (show Eng.opv 59 u' (.tmp 50) = (.pointer (some ⟨w.heap.size, 0, none⟩)) from e7) ((((hk22).below hbW)).cell 0))
                    · intro u' W hbW hkp hdp K hK
                      have e6 : u' 49 = (.int .i64 i) := hdp.1
                      have e8 : u' 51 = (.int .i64 h) := hdp.2.1
                      refine Eng.dv rfl rfl ?_ (hK _ _ (Below.refl _ _) rfl)
                      exact (Eng.x_shl rfl (show Eng.opv 59 u' (.tmp 49) = (.int .i64 i) from e6) (show Eng.opv 59 u' (.tmp 51) = (.int .i64 h) from e8) (by omega) (r := (i * ((2 ^ h.toNat : Nat) : Int))) (shlP hh (by omega) (by omega)))
                    · intro u' W hbW hkp hdp K hK
                      refine Eng.dv rfl rfl ?_ (hK _ _ (Below.refl _ _) rfl)
                      exact (Eng.x_fa (v := (.pointer (some ⟨w.heap.size, 3, none⟩))) rfl (show Eng.opv 59 u' (.tmp 1) = (.pointer (some ⟨w.heap.size, 0, none⟩)) from hkp 1 rfl) (by kernel_rfl))
                    · intro u' W hbW hkp hdp K hK
                      have e10 : u' 53 = (.pointer (some ⟨w.heap.size, 3, none⟩)) := hdp.1
                      refine Eng.dv rfl rfl ?_ (hK _ _ (Below.refl _ _) rfl)
                      exact (Eng.x_ld1 (v := (.int .i64 w_)) rfl ag3_to (show Eng.opv 59 u' (.tmp 53) = (.pointer (some ⟨w.heap.size, 3, none⟩)) from e10) ((((hk22).below hbW)).cell 3))
                    · intro u' W hbW hkp hdp K hK
                      have e9 : u' 52 = (.int .i64 (i * ((2 ^ h.toNat : Nat) : Int))) := hdp.1
                      have e11 : u' 54 = (.int .i64 w_) := hdp.2.1
                      refine Eng.dv rfl rfl ?_ (hK _ _ (Below.refl _ _) rfl)
                      exact (Eng.x_add rfl (show Eng.opv 59 u' (.tmp 52) = (.int .i64 (i * ((2 ^ h.toNat : Nat) : Int))) from e9) (show Eng.opv 59 u' (.tmp 54) = (.int .i64 w_) from e11) (Eng.w64 (r := ((i * ((2 ^ h.toNat : Nat) : Int)) + w_)) (by omega)))
                    · intro u' W hbW hkp hdp K hK
                      have e12 : u' 55 = (.int .i64 ((i * ((2 ^ h.toNat : Nat) : Int)) + w_)) := hdp.1
                      refine Eng.dv rfl rfl ?_ (hK _ _ (Below.refl _ _) rfl)
                      exact (Eng.x_sub rfl (show Eng.opv 59 u' (.tmp 55) = (.int .i64 ((i * ((2 ^ h.toNat : Nat) : Int)) + w_)) from e12) rfl (Eng.w64 (r := (((i * ((2 ^ h.toNat : Nat) : Int)) + w_) - 1)) (by omega)))
                    · intro u' W hbW hkp hdp K hK
                      have e4 : u' 47 = (.int .i64 (l * h)) := hdp.1
                      have e13 : u' 56 = (.int .i64 (((i * ((2 ^ h.toNat : Nat) : Int)) + w_) - 1)) := hdp.2.1
                      refine Eng.dv rfl rfl ?_ (hK _ _ (Below.refl _ _) rfl)
                      exact (Eng.x_build (ps := [(0, (.int .i64 (l * h))), (1, (.int .i64 (((i * ((2 ^ h.toNat : Nat) : Int)) + w_) - 1)))]) (v := (.agg #[(.int .i64 (l * h)), (.int .i64 (((i * ((2 ^ h.toNat : Nat) : Int)) + w_) - 1))])) rfl (by exact (Eng.lc (Eng.pr (show Eng.opv 59 u' (.tmp 47) = (.int .i64 (l * h)) from e4)) (Eng.lc (Eng.pr (show Eng.opv 59 u' (.tmp 56) = (.int .i64 (((i * ((2 ^ h.toNat : Nat) : Int)) + w_) - 1)) from e13)) rfl))) (by kernel_rfl))
                    · intro u' W hbW hkp hdp K hK
                      have e14 : u' 57 = (.agg #[(.int .i64 (l * h)), (.int .i64 (((i * ((2 ^ h.toNat : Nat) : Int)) + w_) - 1))]) := hdp.1
                      refine Eng.dc (vs := #[(.agg #[(.int .i64 (l * h)), (.int .i64 (((i * ((2 ^ h.toNat : Nat) : Int)) + w_) - 1))])]) rfl ?_ (nvalid_calls _ _ _) ?_
                      · exact Eng.xc (xs := #[(Go.Operand.tmp 57)]) (vl := [(.agg #[(.int .i64 (l * h)), (.int .i64 (((i * ((2 ^ h.toNat : Nat) : Int)) + w_) - 1))])]) rfl rfl (Eng.lc (show Eng.opv 59 u' (.tmp 57) = (.agg #[(.int .i64 (l * h)), (.int .i64 (((i * ((2 ^ h.toNat : Nat) : Int)) + w_) - 1))]) from e14) rfl) en54_to
                      rintro _ W2 ⟨rfl, hb2⟩
                      exact Eng.aft_v rfl (hK _ _ hb2 rfl)
                    · intro u' W hbW hkp hdp K hK
                      have e15 : u' 58 = (.bool (nv (l * h) (((i * ((2 ^ h.toNat : Nat) : Int)) + w_) - 1))) := hdp.1
                      refine Eng.dv rfl rfl ?_ (hK _ _ (Below.refl _ _) rfl)
                      exact (Eng.x_as (v := (.bool (nv (l * h) (((i * ((2 ^ h.toNat : Nat) : Int)) + w_) - 1)))) rfl (show Eng.opv 59 u' (.tmp 58) = (.bool (nv (l * h) (((i * ((2 ^ h.toNat : Nat) : Int)) + w_) - 1))) from e15))
                  · intro ud21 w21 hb21 hkp21 ⟨f21_0, f21_1, f21_2, f21_3, f21_4, f21_5, f21_6, f21_7, f21_8, f21_9, f21_10, f21_11, f21_12, f21_13, f21_14, f21_15, f21_16, _⟩
                    obtain rfl := Eng.collect (l := [(43, (.pointer (some ⟨w.heap.size, 1, none⟩))), (44, (.int .i64 l)), (45, (.pointer (some ⟨w.heap.size, 0, none⟩))), (46, (.int .i64 h)), (47, (.int .i64 (l * h))), (48, (.pointer (some ⟨w.heap.size, 2, none⟩))), (49, (.int .i64 i)), (50, (.pointer (some ⟨w.heap.size, 0, none⟩))), (51, (.int .i64 h)), (52, (.int .i64 (i * ((2 ^ h.toNat : Nat) : Int)))), (53, (.pointer (some ⟨w.heap.size, 3, none⟩))), (54, (.int .i64 w_)), (55, (.int .i64 ((i * ((2 ^ h.toNat : Nat) : Int)) + w_))), (56, (.int .i64 (((i * ((2 ^ h.toNat : Nat) : Int)) + w_) - 1))), (57, (.agg #[(.int .i64 (l * h)), (.int .i64 (((i * ((2 ^ h.toNat : Nat) : Int)) + w_) - 1))])), (58, (.bool (nv (l * h) (((i * ((2 ^ h.toNat : Nat) : Int)) + w_) - 1)))), (2, (.bool (nv (l * h) (((i * ((2 ^ h.toNat : Nat) : Int)) + w_) - 1))))]) hkp21 ⟨f21_0, f21_1, f21_2, f21_3, f21_4, f21_5, f21_6, f21_7, f21_8, f21_9, f21_10, f21_11, f21_12, f21_13, f21_14, f21_15, f21_16, trivial⟩ rfl
                    refine Eng.nil ?_
                    refine hK20 _ _ ?_
                    refine Eng.rt ?_
                    refine Eng.ret (Eng.res1 (v1 := (.bool (nv (l * h) (((i * ((2 ^ h.toNat : Nat) : Int)) + w_) - 1)))) rfl (Eng.rdt rfl)) ?_
                    have hB0_2 : Below w.heap.size w w19 := (hb2).trans (hb19.mono (hb2).size)
                    have hB0_3 : Below w.heap.size w w21 := (hB0_2).trans (hb21.mono (hB0_2).size)
                    exact ⟨by rw [tvT hh (by omega) (by omega) (by omega) (by omega)], hB0_3⟩
set_option maxRecDepth 100000 in
set_option maxHeartbeats 4000000 in
theorem of_no (h l i : Int) (hno : (ht h && nv l i) = false) (w : World) : Calls Tryd.prog 18 #[(.int .i64 h), (.agg #[(.int .i64 l), (.int .i64 i)])] w (fun e w' => e = .returned (.tuple #[(.agg #[.int .i64 0, .int .i64 0, .int .i64 0, .int .i64 0]), .int .i64 0, .int .i64 0, .int .i64 2]) ∧ Below w.heap.size w w') := by
  refine Eng.enter (l := [(.int .i64 h), (.agg #[(.int .i64 l), (.int .i64 i)])]) Tryd.func18 rfl 48 rfl (by simp) ?_
  refine Eng.seqk fun K1 hK1 => ?_
  refine Eng.reg ?_
  refine Eng.bo (v := (.agg #[(.int .i64 l), (.int .i64 i)])) (cs := [(.int .i64 l), (.int .i64 i)]) rfl rfl rfl rfl rfl ?_
  intro w2 hk2 hb2 hz2
  refine Eng.al rfl rfl rfl zr23_to (cs := [(.int .i64 0), (.int .i64 0), (.int .i64 0), (.int .i64 0)]) rfl ?_
  intro w3 hk3 hb3 hz3
  refine Eng.sv rfl rfl (Eng.x_as (v := (.int .i64 0)) rfl rfl) ?_
  refine Eng.sv rfl rfl (Eng.x_as (v := (.int .i64 0)) rfl rfl) ?_
  refine Eng.sv rfl rfl (Eng.x_as (v := (.int .i64 0)) rfl rfl) ?_
  refine Eng.nil ?_
  refine hK1 _ _ ?_
  refine Eng.seqk fun K4 hK4 => ?_
  refine Eng.seqk fun K5 hK5 => ?_
  by_cases q0 : ht h = false
  · skip
    refine Eng.reg ?_
    refine Eng.sv rfl rfl (Eng.x_mv (v := (.int .i64 h)) rfl rfl) ?_
    refine Eng.sc rfl (Eng.xc (vl := [(.int .i64 h)]) rfl rfl rfl en49_to) (height_is q0 _) ?_
    rintro _ w6 ⟨rfl, hb6⟩
    refine Eng.aft_v rfl ?_
    refine Eng.sv rfl rfl (Eng.x_not (v := (.bool true)) rfl rfl rfl) ?_
    refine Eng.sv rfl rfl (Eng.x_mv (v := (.bool true)) rfl rfl) ?_
    refine Eng.sg (Eng.gf rfl rfl rfl rfl) rfl ?_
    refine Eng.sg (Eng.gf rfl rfl rfl rfl) rfl ?_
    refine Eng.sg (Eng.gf rfl rfl rfl rfl) rfl ?_
    refine Eng.sv rfl rfl (Eng.x_pick (v := (.bool true)) rfl rfl rfl rfl rfl) ?_
    refine Eng.nil ?_
    refine hK5 _ _ ?_
    refine Eng.cond_t rfl ?_
    refine Eng.seqk fun K7 hK7 => ?_
    refine Eng.reg ?_
    have hk8 := (hk3).below hb6
    refine Eng.sv rfl rfl (Eng.x_ldB (v := (.agg #[(.int .i64 0), (.int .i64 0), (.int .i64 0), (.int .i64 0)])) rfl ag23_to sz23_to rfl hk8 rfl rfl) ?_
    refine Eng.stB (v := (.agg #[(.int .i64 0), (.int .i64 0), (.int .i64 0), (.int .i64 0)])) rfl rfl rfl sz23_to rfl hk8 rfl rfl (cs' := [(.int .i64 0), (.int .i64 0), (.int .i64 0), (.int .i64 0)]) rfl rfl (Eng.one_cons rfl (Eng.one_cons rfl (Eng.one_cons rfl (Eng.one_cons rfl Eng.one_nil)))) ?_
    intro w9 hk9 hg9
    refine Eng.sv rfl rfl (Eng.x_as (v := (.int .i64 0)) rfl rfl) ?_
    refine Eng.sv rfl rfl (Eng.x_as (v := (.int .i64 0)) rfl rfl) ?_
    refine Eng.sv rfl rfl (Eng.x_as (v := (.int .i64 2)) rfl rfl) ?_
    refine Eng.nil ?_
    refine hK7 _ _ ?_
    refine Eng.rt ?_
    refine Eng.tr ?_
    refine Eng.ret (Eng.res4 (v1 := (.agg #[(.int .i64 0), (.int .i64 0), (.int .i64 0), (.int .i64 0)])) (v2 := (.int .i64 0)) (v3 := (.int .i64 0)) (v4 := (.int .i64 2)) rfl (Eng.rdc rfl (Eng.lvB ag23_to sz23_to hk9 rfl rfl)) (Eng.rdt rfl) (Eng.rdt rfl) (Eng.rdt rfl)) ?_
    have hB0_2 : Below w.heap.size w w3 := (hb2).trans (hb3.mono (hb2).size)
    have hB0_3 : Below w.heap.size w w6 := (hB0_2).trans (hb6.mono (hB0_2).size)
    have hB0_4 : Below w.heap.size w w9 := (hB0_3).grown hg9 (hB0_3).size (fun k e => by cases e; exact Nat.le_trans (hb2).size (Nat.le_refl _))
    exact ⟨rfl, hB0_4⟩
  · skip
    have hh : ht h = true := by simpa using q0
    have hv : nv l i = false := by rw [hh] at hno; simpa using hno
    refine Eng.reg ?_
    refine Eng.sv rfl rfl (Eng.x_mv (v := (.int .i64 h)) rfl rfl) ?_
    refine Eng.sc rfl (Eng.xc (vl := [(.int .i64 h)]) rfl rfl rfl en49_to) (height_is hh _) ?_
    rintro _ w10 ⟨rfl, hb10⟩
    refine Eng.aft_v rfl ?_
    refine Eng.sv rfl rfl (Eng.x_not (v := (.bool false)) rfl rfl rfl) ?_
    refine Eng.sv rfl rfl (Eng.x_mv (v := (.bool false)) rfl rfl) ?_
    have hk11 := ((hk2).below hb3).below hb10
    refine Eng.sv (Eng.gt rfl rfl rfl rfl) rfl (Eng.x_ldB (v := (.agg #[(.int .i64 l), (.int .i64 i)])) rfl ag38_to sz38_to rfl hk11 rfl rfl) ?_
    refine Eng.sc (Eng.gt rfl rfl rfl rfl) (Eng.xc (vl := [(.agg #[(.int .i64 l), (.int .i64 i)])]) rfl rfl rfl en54_to) (nvalid_is hv _) ?_
    rintro _ w12 ⟨rfl, hb12⟩
    refine Eng.aft_v rfl ?_
    refine Eng.sv (Eng.gt rfl rfl rfl rfl) rfl (Eng.x_not (v := (.bool true)) rfl rfl rfl) ?_
    refine Eng.sv rfl rfl (Eng.x_pick (v := (.bool true)) rfl rfl rfl rfl rfl) ?_
    refine Eng.nil ?_
    refine hK5 _ _ ?_
    refine Eng.cond_t rfl ?_
    refine Eng.seqk fun K13 hK13 => ?_
    refine Eng.reg ?_
    have hk14 := ((hk3).below hb10).below hb12
    refine Eng.sv rfl rfl (Eng.x_ldB (v := (.agg #[(.int .i64 0), (.int .i64 0), (.int .i64 0), (.int .i64 0)])) rfl ag23_to sz23_to rfl hk14 rfl rfl) ?_
    refine Eng.stB (v := (.agg #[(.int .i64 0), (.int .i64 0), (.int .i64 0), (.int .i64 0)])) rfl rfl rfl sz23_to rfl hk14 rfl rfl (cs' := [(.int .i64 0), (.int .i64 0), (.int .i64 0), (.int .i64 0)]) rfl rfl (Eng.one_cons rfl (Eng.one_cons rfl (Eng.one_cons rfl (Eng.one_cons rfl Eng.one_nil)))) ?_
    intro w15 hk15 hg15
    refine Eng.sv rfl rfl (Eng.x_as (v := (.int .i64 0)) rfl rfl) ?_
    refine Eng.sv rfl rfl (Eng.x_as (v := (.int .i64 0)) rfl rfl) ?_
    refine Eng.sv rfl rfl (Eng.x_as (v := (.int .i64 2)) rfl rfl) ?_
    refine Eng.nil ?_
    refine hK13 _ _ ?_
    refine Eng.rt ?_
    refine Eng.tr ?_
    refine Eng.ret (Eng.res4 (v1 := (.agg #[(.int .i64 0), (.int .i64 0), (.int .i64 0), (.int .i64 0)])) (v2 := (.int .i64 0)) (v3 := (.int .i64 0)) (v4 := (.int .i64 2)) rfl (Eng.rdc rfl (Eng.lvB ag23_to sz23_to hk15 rfl rfl)) (Eng.rdt rfl) (Eng.rdt rfl) (Eng.rdt rfl)) ?_
    have hB0_2 : Below w.heap.size w w3 := (hb2).trans (hb3.mono (hb2).size)
    have hB0_3 : Below w.heap.size w w10 := (hB0_2).trans (hb10.mono (hB0_2).size)
    have hB0_4 : Below w.heap.size w w12 := (hB0_3).trans (hb12.mono (hB0_3).size)
    have hB0_5 : Below w.heap.size w w15 := (hB0_4).grown hg15 (hB0_4).size (fun k e => by cases e; exact Nat.le_trans (hb2).size (Nat.le_refl _))
    exact ⟨rfl, hB0_5⟩
set_option maxRecDepth 100000 in
set_option maxHeartbeats 4000000 in
theorem of_yes (n a b : Nat) (h1 : 1 ≤ n) (h8 : n ≤ 8) (ha : a ≤ 48) (hb : b < 2 ^ (48 - a)) (w : World) : Calls Tryd.prog 18 #[(.int .i64 (n : Int)), (.agg #[(.int .i64 (a : Int)), (.int .i64 (b : Int))])] w (fun e w' => e = .returned (.tuple #[(.agg #[.int .i64 (n : Int), .int .i64 ((a / n : Nat) : Int), .int .i64 ((oS n a b / 2 ^ n : Nat) : Int), .int .i64 (oT n a b : Int)]), .int .i64 (oF n a b : Int), .int .i64 (oT n a b : Int), .int .i64 0]) ∧ Below w.heap.size w w') := by
  have hv : nv (a : Int) (b : Int) = true := decide_eq_true ⟨by omega, by omega, by omega, by simp only [Int.toNat_natCast]; exact_mod_cast hb⟩
  obtain ⟨b1, b2, b3, b4, b5, b6, b7, b8, b9⟩ := o_bounds h1 h8 ha hb
  refine Eng.enter (l := [(.int .i64 (n : Int)), (.agg #[(.int .i64 (a : Int)), (.int .i64 (b : Int))])]) Tryd.func18 rfl 48 rfl (by simp) ?_
  refine Eng.seqk fun K1 hK1 => ?_
  refine Eng.reg ?_
  refine Eng.bo (v := (.agg #[(.int .i64 (a : Int)), (.int .i64 (b : Int))])) (cs := [(.int .i64 (a : Int)), (.int .i64 (b : Int))]) rfl rfl rfl rfl rfl ?_
  intro w2 hk2 hb2 hz2
  refine Eng.al rfl rfl rfl zr23_to (cs := [(.int .i64 0), (.int .i64 0), (.int .i64 0), (.int .i64 0)]) rfl ?_
  intro w3 hk3 hb3 hz3
  refine Eng.sv rfl rfl (Eng.x_as (v := (.int .i64 0)) rfl rfl) ?_
  refine Eng.sv rfl rfl (Eng.x_as (v := (.int .i64 0)) rfl rfl) ?_
  refine Eng.sv rfl rfl (Eng.x_as (v := (.int .i64 0)) rfl rfl) ?_
  refine Eng.nil ?_
  refine hK1 _ _ ?_
  refine Eng.seqk fun K4 hK4 => ?_
  refine Eng.seqk fun K5 hK5 => ?_
  refine Eng.reg ?_
  refine Eng.sv rfl rfl (Eng.x_mv (v := (.int .i64 (n : Int))) rfl rfl) ?_
  refine Eng.sc rfl (Eng.xc (vl := [(.int .i64 (n : Int))]) rfl rfl rfl en49_to) (height_is (b := true) (decide_eq_true (by omega)) _) ?_
  rintro _ w6 ⟨rfl, hb6⟩
  refine Eng.aft_v rfl ?_
  refine Eng.sv rfl rfl (Eng.x_not (v := (.bool false)) rfl rfl rfl) ?_
  refine Eng.sv rfl rfl (Eng.x_mv (v := (.bool false)) rfl rfl) ?_
  have hk7 := ((hk2).below hb3).below hb6
  refine Eng.sv (Eng.gt rfl rfl rfl rfl) rfl (Eng.x_ldB (v := (.agg #[(.int .i64 (a : Int)), (.int .i64 (b : Int))])) rfl ag38_to sz38_to rfl hk7 rfl rfl) ?_
  refine Eng.sc (Eng.gt rfl rfl rfl rfl) (Eng.xc (vl := [(.agg #[(.int .i64 (a : Int)), (.int .i64 (b : Int))])]) rfl rfl rfl en54_to) (nvalid_is hv _) ?_
  rintro _ w8 ⟨rfl, hb8⟩
  refine Eng.aft_v rfl ?_
  refine Eng.sv (Eng.gt rfl rfl rfl rfl) rfl (Eng.x_not (v := (.bool false)) rfl rfl rfl) ?_
  refine Eng.sv rfl rfl (Eng.x_pick (v := (.bool false)) rfl rfl rfl rfl rfl) ?_
  refine Eng.nil ?_
  refine hK5 _ _ ?_
  refine Eng.cond_f rfl ?_
  refine Eng.skp ?_
  refine hK4 _ _ ?_
  refine Eng.seqk fun K9 hK9 => ?_
  refine Eng.reg ?_
  refine Eng.sv rfl rfl (Eng.x_fa (v := (.pointer (some ⟨w.heap.size, 0, none⟩))) rfl rfl (by kernel_rfl)) ?_
  have hk10 := (hk7).below hb8
  refine Eng.sv rfl rfl (Eng.x_ld1 (v := (.int .i64 (a : Int))) rfl ag3_to rfl ((hk10).cell 0)) ?_
  refine Eng.sv rfl rfl (Eng.x_mv (v := (.int .i64 (n : Int))) rfl rfl) ?_
  refine Eng.sv rfl rfl (Eng.x_rem rfl rfl rfl (by omega) (r := ((a % n : Nat) : Int)) (tmod_nat _ _)) ?_
  refine Eng.sv rfl rfl (Eng.x_as (v := (.int .i64 ((a % n : Nat) : Int))) rfl rfl) ?_
  refine Eng.nil ?_
  refine hK9 _ _ ?_
  refine Eng.seqk fun K11 hK11 => ?_
  refine Eng.reg ?_
  refine Eng.sv rfl rfl (Eng.x_fa (v := (.pointer (some ⟨w.heap.size, 1, none⟩))) rfl rfl (by kernel_rfl)) ?_
  refine Eng.sv rfl rfl (Eng.x_ld1 (v := (.int .i64 (b : Int))) rfl ag3_to rfl ((hk10).cell 1)) ?_
  refine Eng.sv rfl rfl (Eng.x_mv (v := (.int .i64 ((a % n : Nat) : Int))) rfl rfl) ?_
  refine Eng.sv rfl rfl (Eng.x_shl rfl rfl rfl (by omega) (r := ((oS n a b : Nat) : Int)) (shl_eq rfl rfl (by omega) (by show oS n a b ≤ _; omega))) ?_
  refine Eng.sv rfl rfl (Eng.x_as (v := (.int .i64 ((oS n a b : Nat) : Int))) rfl rfl) ?_
  refine Eng.nil ?_
  refine hK11 _ _ ?_
  refine Eng.seqk fun K12 hK12 => ?_
  refine Eng.reg ?_
  refine Eng.sv rfl rfl (Eng.x_mv (v := (.int .i64 ((oS n a b : Nat) : Int))) rfl rfl) ?_
  refine Eng.sv rfl rfl (Eng.x_mv (v := (.int .i64 (n : Int))) rfl rfl) ?_
  refine Eng.sv rfl rfl (Eng.x_shl rfl rfl rfl (by omega) (r := ((2 ^ n : Nat) : Int)) ((shl_eq (x := 1) rfl rfl (by omega) (by omega)).trans (by rw [Nat.one_mul]))) ?_
  refine Eng.sv rfl rfl (Eng.x_sub rfl rfl rfl (Eng.w64 (r := (((2 ^ n : Nat) : Int) - 1)) (by omega))) ?_
  refine Eng.sv rfl rfl (Eng.x_bits (v := (.int .i64 ((oF n a b : Nat) : Int))) rfl (by simp) rfl rfl (and_eq _ (by omega) (by omega) _ _ rfl)) ?_
  refine Eng.sv rfl rfl (Eng.x_as (v := (.int .i64 ((oF n a b : Nat) : Int))) rfl rfl) ?_
  refine Eng.nil ?_
  refine hK12 _ _ ?_
  refine Eng.seqk fun K13 hK13 => ?_
  refine Eng.reg ?_
  refine Eng.sv rfl rfl (Eng.x_mv (v := (.int .i64 ((oF n a b : Nat) : Int))) rfl rfl) ?_
  refine Eng.sv rfl rfl (Eng.x_mv (v := (.int .i64 ((a % n : Nat) : Int))) rfl rfl) ?_
  refine Eng.sv rfl rfl (Eng.x_shl rfl rfl rfl (by omega) (r := ((2 ^ (a % n) : Nat) : Int)) ((shl_eq (x := 1) rfl rfl (by omega) (by omega)).trans (by rw [Nat.one_mul]))) ?_
  refine Eng.sv rfl rfl (Eng.x_add rfl rfl rfl (Eng.w64 (r := ((oT n a b : Nat) : Int)) (by unfold oT; omega))) ?_
  refine Eng.sv rfl rfl (Eng.x_as (v := (.int .i64 ((oT n a b : Nat) : Int))) rfl rfl) ?_
  refine Eng.nil ?_
  refine hK13 _ _ ?_
  refine Eng.seqk fun K14 hK14 => ?_
  have hk15 := ((hk3).below hb6).below hb8
  refine Eng.drawS 14 [fun vQ _ => vQ = (.int .i64 (n : Int)), fun vQ _ => vQ = (.pointer (some ⟨w.heap.size, 0, none⟩)), fun vQ _ => vQ = (.int .i64 (a : Int)), fun vQ _ => vQ = (.int .i64 (n : Int)), fun vQ _ => vQ = (.int .i64 ((a / n : Nat) : Int)), fun vQ _ => vQ = (.int .i64 ((oS n a b : Nat) : Int)), fun vQ _ => vQ = (.int .i64 (n : Int)), fun vQ _ => vQ = (.int .i64 ((oS n a b / 2 ^ n : Nat) : Int)), fun vQ _ => vQ = (.int .i64 ((oT n a b : Nat) : Int)), fun vQ _ => vQ = (.agg #[(.int .i64 (n : Int)), (.int .i64 ((a / n : Nat) : Int)), (.int .i64 ((oS n a b / 2 ^ n : Nat) : Int)), (.int .i64 ((oT n a b : Nat) : Int))]), fun vQ _ => vQ = (.int .i64 ((oF n a b : Nat) : Int)), fun vQ _ => vQ = (.int .i64 ((oT n a b : Nat) : Int)), fun (_ : Value) (_ : World) => True, fun vQ _ => vQ = (.int .i64 ((oF n a b : Nat) : Int))] [⟨w2.heap.size, 23, [(.int .i64 0), (.int .i64 0), (.int .i64 0), (.int .i64 0)], [(12, [(.int .i64 (n : Int)), (.int .i64 ((a / n : Nat) : Int)), (.int .i64 ((oS n a b / 2 ^ n : Nat) : Int)), (.int .i64 ((oT n a b : Nat) : Int))])]⟩] (by kernel_rfl) (by kernel_rfl) (by kernel_rfl) (by kernel_rfl) (by rfl) (by rfl) rfl rfl ?_ ⟨trivial, trivial⟩ ⟨hk15, trivial⟩ ?_ ?_ ?_
  · exact ⟨trivial, trivial, trivial, trivial, trivial, trivial, trivial, trivial, trivial, trivial, trivial, trivial, fun _ _ => trivial, trivial, trivial⟩
  · exact ⟨fun _ _ _ _ h _ _ => h, fun _ _ _ _ h _ _ => h, fun _ _ _ _ h _ _ => h, fun _ _ _ _ h _ _ => h, fun _ _ _ _ h _ _ => h, fun _ _ _ _ h _ _ => h, fun _ _ _ _ h _ _ => h, fun _ _ _ _ h _ _ => h, fun _ _ _ _ h _ _ => h, fun _ _ _ _ h _ _ => h, fun _ _ _ _ h _ _ => h, fun _ _ _ _ h _ _ => h, fun _ _ _ _ _ _ _ => trivial, fun _ _ _ _ h _ _ => h, trivial⟩
  · refine ⟨?_, ?_, ?_, ?_, ?_, ?_, ?_, ?_, ?_, ?_, ?_, ?_, ?_, ?_, trivial⟩
    · intro u' W hbW hkp hdp hEd K hK
      have hK := Eng.sdv rfl hK
      refine Eng.dv rfl rfl ?_ (hK _ _ (Below.refl _ _) rfl)
      exact (Eng.x_mv (v := (.int .i64 (n : Int))) rfl (show Eng.opv 48 u' (.tmp 0) = (.int .i64 (n : Int)) from hkp 0 rfl))
    · intro u' W hbW hkp hdp hEd K hK
      have hK := Eng.sdv rfl hK
      refine Eng.dv rfl rfl ?_ (hK _ _ (Below.refl _ _) rfl)
      exact (Eng.x_fa (v := (.pointer (some ⟨w.heap.size, 0, none⟩))) rfl (show Eng.opv 48 u' (.tmp 3) = (.pointer (some ⟨w.heap.size, 0, none⟩)) from hkp 3 rfl) (by kernel_rfl))
    · intro u' W hbW hkp hdp hEd K hK
      have e1 : u' 37 = (.pointer (some ⟨w.heap.size, 0, none⟩)) := hdp.1
      have hK := Eng.sdv rfl hK
      refine Eng.dv rfl rfl ?_ (hK _ _ (Below.refl _ _) rfl)
      exact (Eng.x_ld1 (v := (.int .i64 (a : Int))) rfl ag3_to (show Eng.opv 48 u' (.tmp 37) = (.pointer (some ⟨w.heap.size, 0, none⟩)) from e1) (((Eng.blk_grL (hk10) hbW (Eng.nin_cons (Nat.ne_of_lt (Nat.lt_of_lt_of_le hz2 (Nat.le_trans (Nat.le_refl _) (Nat.le_refl _)))) Eng.nin_nil))).cell 0))
    · intro u' W hbW hkp hdp hEd K hK
      have hK := Eng.sdv rfl hK
      refine Eng.dv rfl rfl ?_ (hK _ _ (Below.refl _ _) rfl)
      exact (Eng.x_mv (v := (.int .i64 (n : Int))) rfl (show Eng.opv 48 u' (.tmp 0) = (.int .i64 (n : Int)) from hkp 0 rfl))
    · intro u' W hbW hkp hdp hEd K hK
      have e2 : u' 38 = (.int .i64 (a : Int)) := hdp.1
      have e3 : u' 39 = (.int .i64 (n : Int)) := hdp.2.1
      have hK := Eng.sdv rfl hK
      refine Eng.dv rfl rfl ?_ (hK _ _ (Below.refl _ _) rfl)
      exact (Eng.x_quo rfl (show Eng.opv 48 u' (.tmp 38) = (.int .i64 (a : Int)) from e2) (show Eng.opv 48 u' (.tmp 39) = (.int .i64 (n : Int)) from e3) (by omega) (r := ((a / n : Nat) : Int)) (Eng.w64 ⟨tdiv_nat _ _, Int.le_trans (by decide) (Int.natCast_nonneg _), by omega⟩))
    · intro u' W hbW hkp hdp hEd K hK
      have hK := Eng.sdv rfl hK
      refine Eng.dv rfl rfl ?_ (hK _ _ (Below.refl _ _) rfl)
      exact (Eng.x_mv (v := (.int .i64 ((oS n a b : Nat) : Int))) rfl (show Eng.opv 48 u' (.tmp 9) = (.int .i64 ((oS n a b : Nat) : Int)) from hkp 9 rfl))
    · intro u' W hbW hkp hdp hEd K hK
      have hK := Eng.sdv rfl hK
      refine Eng.dv rfl rfl ?_ (hK _ _ (Below.refl _ _) rfl)
      exact (Eng.x_mv (v := (.int .i64 (n : Int))) rfl (show Eng.opv 48 u' (.tmp 0) = (.int .i64 (n : Int)) from hkp 0 rfl))
    · intro u' W hbW hkp hdp hEd K hK
      have e5 : u' 41 = (.int .i64 ((oS n a b : Nat) : Int)) := hdp.1
      have e6 : u' 42 = (.int .i64 (n : Int)) := hdp.2.1
      have hK := Eng.sdv rfl hK
      refine Eng.dv rfl rfl ?_ (hK _ _ (Below.refl _ _) rfl)
      exact (Eng.x_shr rfl (show Eng.opv 48 u' (.tmp 41) = (.int .i64 ((oS n a b : Nat) : Int)) from e5) (show Eng.opv 48 u' (.tmp 42) = (.int .i64 (n : Int)) from e6) (by omega) (r := ((oS n a b / 2 ^ n : Nat) : Int)) (shr_eq rfl rfl (by omega)))
    · intro u' W hbW hkp hdp hEd K hK
      have hK := Eng.sdv rfl hK
      refine Eng.dv rfl rfl ?_ (hK _ _ (Below.refl _ _) rfl)
      exact (Eng.x_mv (v := (.int .i64 ((oT n a b : Nat) : Int))) rfl (show Eng.opv 48 u' (.tmp 6) = (.int .i64 ((oT n a b : Nat) : Int)) from hkp 6 rfl))
    · intro u' W hbW hkp hdp hEd K hK
      have e0 : u' 36 = (.int .i64 (n : Int)) := hdp.1
      have e4 : u' 40 = (.int .i64 ((a / n : Nat) : Int)) := hdp.2.1
      have e7 : u' 43 = (.int .i64 ((oS n a b / 2 ^ n : Nat) : Int)) := hdp.2.2.1
      have e8 : u' 44 = (.int .i64 ((oT n a b : Nat) : Int)) := hdp.2.2.2.1
      have hK := Eng.sdv rfl hK
      refine Eng.dv rfl rfl ?_ (hK _ _ (Below.refl _ _) rfl)
      exact (Eng.x_build (ps := [(0, (.int .i64 (n : Int))), (1, (.int .i64 ((a / n : Nat) : Int))), (2, (.int .i64 ((oS n a b / 2 ^ n : Nat) : Int))), (3, (.int .i64 ((oT n a b : Nat) : Int)))]) (v := (.agg #[(.int .i64 (n : Int)), (.int .i64 ((a / n : Nat) : Int)), (.int .i64 ((oS n a b / 2 ^ n : Nat) : Int)), (.int .i64 ((oT n a b : Nat) : Int))])) rfl (by exact (Eng.lc (Eng.pr (show Eng.opv 48 u' (.tmp 36) = (.int .i64 (n : Int)) from e0)) (Eng.lc (Eng.pr (show Eng.opv 48 u' (.tmp 40) = (.int .i64 ((a / n : Nat) : Int)) from e4)) (Eng.lc (Eng.pr (show Eng.opv 48 u' (.tmp 43) = (.int .i64 ((oS n a b / 2 ^ n : Nat) : Int)) from e7)) (Eng.lc (Eng.pr (show Eng.opv 48 u' (.tmp 44) = (.int .i64 ((oT n a b : Nat) : Int)) from e8)) rfl))))) (by kernel_rfl))
    · intro u' W hbW hkp hdp hEd K hK
      have hK := Eng.sdv rfl hK
      refine Eng.dv rfl rfl ?_ (hK _ _ (Below.refl _ _) rfl)
      exact (Eng.x_mv (v := (.int .i64 ((oF n a b : Nat) : Int))) rfl (show Eng.opv 48 u' (.tmp 5) = (.int .i64 ((oF n a b : Nat) : Int)) from hkp 5 rfl))
    · intro u' W hbW hkp hdp hEd K hK
      have hK := Eng.sdv rfl hK
      refine Eng.dv rfl rfl ?_ (hK _ _ (Below.refl _ _) rfl)
      exact (Eng.x_mv (v := (.int .i64 ((oT n a b : Nat) : Int))) rfl (show Eng.opv 48 u' (.tmp 6) = (.int .i64 ((oT n a b : Nat) : Int)) from hkp 6 rfl))
    · intro u' W hbW hkp hdp hEd K hK
      have e9 : u' 45 = (.agg #[(.int .i64 (n : Int)), (.int .i64 ((a / n : Nat) : Int)), (.int .i64 ((oS n a b / 2 ^ n : Nat) : Int)), (.int .i64 ((oT n a b : Nat) : Int))]) := hdp.1
      have hE0 : Blk W w2.heap.size 23 [(.int .i64 0), (.int .i64 0), (.int .i64 0), (.int .i64 0)] := hEd.1
      exact Eng.sstB (v := (.agg #[(.int .i64 (n : Int)), (.int .i64 ((a / n : Nat) : Int)), (.int .i64 ((oS n a b / 2 ^ n : Nat) : Int)), (.int .i64 ((oT n a b : Nat) : Int))])) rfl rfl rfl sz23_to rfl rfl (show Eng.opv 48 u' (.tmp 4) = (.pointer (some ⟨w2.heap.size, 0, none⟩)) from hkp 4 rfl) hE0 rfl (show Eng.opv 48 u' (.tmp 45) = (.agg #[(.int .i64 (n : Int)), (.int .i64 ((a / n : Nat) : Int)), (.int .i64 ((oS n a b / 2 ^ n : Nat) : Int)), (.int .i64 ((oT n a b : Nat) : Int))]) from e9) rfl rfl (Eng.one_cons rfl (Eng.one_cons rfl (Eng.one_cons rfl (Eng.one_cons rfl Eng.one_nil)))) hK
    · intro u' W hbW hkp hdp hEd K hK
      have e10 : u' 46 = (.int .i64 ((oF n a b : Nat) : Int)) := hdp.1
      have hK := Eng.sdv rfl hK
      refine Eng.dv rfl rfl ?_ (hK _ _ (Below.refl _ _) rfl)
      exact (Eng.x_as (v := (.int .i64 ((oF n a b : Nat) : Int))) rfl (show Eng.opv 48 u' (.tmp 46) = (.int .i64 ((oF n a b : Nat) : Int)) from e10))
  · intro ud16 w16 hb16 hkp16 ⟨f16_0, f16_1, f16_2, f16_3, f16_4, f16_5, f16_6, f16_7, f16_8, f16_9, f16_10, f16_11, _, f16_13, _⟩ hBF16
    have hkF16_0 : Blk w16 w2.heap.size 23 [(.int .i64 (n : Int)), (.int .i64 ((a / n : Nat) : Int)), (.int .i64 ((oS n a b / 2 ^ n : Nat) : Int)), (.int .i64 ((oT n a b : Nat) : Int))] := hBF16.1
    obtain rfl := Eng.collectS (l := [(36, (.int .i64 (n : Int))), (37, (.pointer (some ⟨w.heap.size, 0, none⟩))), (38, (.int .i64 (a : Int))), (39, (.int .i64 (n : Int))), (40, (.int .i64 ((a / n : Nat) : Int))), (41, (.int .i64 ((oS n a b : Nat) : Int))), (42, (.int .i64 (n : Int))), (43, (.int .i64 ((oS n a b / 2 ^ n : Nat) : Int))), (44, (.int .i64 ((oT n a b : Nat) : Int))), (45, (.agg #[(.int .i64 (n : Int)), (.int .i64 ((a / n : Nat) : Int)), (.int .i64 ((oS n a b / 2 ^ n : Nat) : Int)), (.int .i64 ((oT n a b : Nat) : Int))])), (46, (.int .i64 ((oF n a b : Nat) : Int))), (47, (.int .i64 ((oT n a b : Nat) : Int))), (5, (.int .i64 ((oF n a b : Nat) : Int)))]) hkp16 ⟨f16_0, f16_1, f16_2, f16_3, f16_4, f16_5, f16_6, f16_7, f16_8, f16_9, f16_10, f16_11, f16_13, trivial⟩ rfl
    refine Eng.sv rfl rfl (Eng.x_as (v := (.int .i64 ((oT n a b : Nat) : Int))) rfl rfl) ?_
    refine Eng.sv rfl rfl (Eng.x_as (v := (.int .i64 0)) rfl rfl) ?_
    refine Eng.nil ?_
    refine hK14 _ _ ?_
    refine Eng.rt ?_
    refine Eng.ret (Eng.res4 (v1 := (.agg #[(.int .i64 (n : Int)), (.int .i64 ((a / n : Nat) : Int)), (.int .i64 ((oS n a b / 2 ^ n : Nat) : Int)), (.int .i64 ((oT n a b : Nat) : Int))])) (v2 := (.int .i64 ((oF n a b : Nat) : Int))) (v3 := (.int .i64 ((oT n a b : Nat) : Int))) (v4 := (.int .i64 0)) rfl (Eng.rdc rfl (Eng.lvB ag23_to sz23_to hkF16_0 rfl rfl)) (Eng.rdt rfl) (Eng.rdt rfl) (Eng.rdt rfl)) ?_
    have hB0_2 : Below w.heap.size w w3 := (hb2).trans (hb3.mono (hb2).size)
    have hB0_3 : Below w.heap.size w w6 := (hB0_2).trans (hb6.mono (hB0_2).size)
    have hB0_4 : Below w.heap.size w w8 := (hB0_3).trans (hb8.mono (hB0_3).size)
    have hB0_5 : Below w.heap.size w w16 := Eng.bel_grL (hB0_4) hb16 (hB0_4).size (Eng.le_cons (Nat.le_trans (hb2).size (Nat.le_refl _)) Eng.le_nil)
    exact ⟨rfl, hB0_5⟩
end Go.Proofs.YtnecgoahdkfbeaaDoor.Tid
