/- Valid tiles, the tile of a node: the reference's. -/
import Derived.Test.YtnecgoahdkfbeaaDoorTilO
namespace Go.Proofs.YtnecgoahdkfbeaaDoor.Tid
open Go Go.RowKit Go.Proofs.YtnecgoahdkfbeaaDoor.Cop
set_option linter.unusedVariables false
set_option linter.unusedSimpArgs false
theorem ag3_tr (w : World) : (isAgg 3).run Tryd.prog w = .ok false w := by kernel_rfl
theorem en53_tr : Eng.Entr Tryd.prog 53 := ⟨_, Tryd.func53, by kernel_rfl, by kernel_rfl⟩
theorem en45_tr : Eng.Entr Tryd.prog 45 := ⟨_, Tryd.func45, by kernel_rfl, by kernel_rfl⟩
theorem en55_tr : Eng.Entr Tryd.prog 55 := ⟨_, Tryd.func55, by kernel_rfl, by kernel_rfl⟩
set_option maxRecDepth 100000 in
set_option maxHeartbeats 4000000 in
theorem rtvalid_calls (h l i w_ : Int) (w : World) : Calls Tryd.prog 16 #[(.agg #[(.int .i64 h), (.int .i64 l), (.int .i64 i), (.int .i64 w_)])] w (fun e w' => e = .returned (.bool (tv h l i w_)) ∧ Below w.heap.size w w') := by
  refine Eng.enter (l := [(.agg #[(.int .i64 h), (.int .i64 l), (.int .i64 i), (.int .i64 w_)])]) Tryd.func16 rfl 65 rfl (by simp) ?_
  refine Eng.seqk fun K1 hK1 => ?_
  refine Eng.reg ?_
  refine Eng.bo (v := (.agg #[(.int .i64 h), (.int .i64 l), (.int .i64 i), (.int .i64 w_)])) (cs := [(.int .i64 h), (.int .i64 l), (.int .i64 i), (.int .i64 w_)]) rfl rfl rfl rfl rfl ?_
  intro w2 hk2 hb2 hz2
  refine Eng.sv rfl rfl (Eng.x_as (v := (.bool false)) rfl rfl) ?_
  refine Eng.nil ?_
  refine hK1 _ _ ?_
  refine Eng.seqk fun K3 hK3 => ?_
  refine Eng.seqk fun K4 hK4 => ?_
  by_cases q0 : ht h = false
  · skip
    refine Eng.draw 32 [fun vQ _ => vQ = (.pointer (some ⟨w.heap.size, 0, none⟩)), fun vQ _ => vQ = (.int .i64 h), fun vQ _ => vQ = (.bool false), fun vQ _ => vQ = (.bool true), fun vQ _ => vQ = (.bool true), fun vQ _ => vQ = undef, fun vQ _ => vQ = undef, fun vQ _ => vQ = undef, fun vQ _ => vQ = (.bool true), fun vQ _ => vQ = (.bool true), fun vQ _ => vQ = undef, fun vQ _ => vQ = undef, fun vQ _ => vQ = undef, fun vQ _ => vQ = (.bool true), fun vQ _ => vQ = (.bool true), fun vQ _ => vQ = undef, fun vQ _ => vQ = undef, fun vQ _ => vQ = undef, fun vQ _ => vQ = (.bool true), fun vQ _ => vQ = (.bool true), fun vQ _ => vQ = undef, fun vQ _ => vQ = undef, fun vQ _ => vQ = undef, fun vQ _ => vQ = (.bool true), fun vQ _ => vQ = (.bool true), fun vQ _ => vQ = undef, fun vQ _ => vQ = undef, fun vQ _ => vQ = undef, fun vQ _ => vQ = undef, fun vQ _ => vQ = undef, fun vQ _ => vQ = undef, fun vQ _ => vQ = (.bool true)] (by kernel_rfl) (by kernel_rfl) (by kernel_rfl) (by kernel_rfl) rfl rfl ?_ ?_ ?_
    · exact ⟨fun _ _ _ h _ => h, fun _ _ _ h _ => h, fun _ _ _ h _ => h, fun _ _ _ h _ => h, fun _ _ _ h _ => h, fun _ _ _ h _ => h, fun _ _ _ h _ => h, fun _ _ _ h _ => h, fun _ _ _ h _ => h, fun _ _ _ h _ => h, fun _ _ _ h _ => h, fun _ _ _ h _ => h, fun _ _ _ h _ => h, fun _ _ _ h _ => h, fun _ _ _ h _ => h, fun _ _ _ h _ => h, fun _ _ _ h _ => h, fun _ _ _ h _ => h, fun _ _ _ h _ => h, fun _ _ _ h _ => h, fun _ _ _ h _ => h, fun _ _ _ h _ => h, fun _ _ _ h _ => h, fun _ _ _ h _ => h, fun _ _ _ h _ => h, fun _ _ _ h _ => h, fun _ _ _ h _ => h, fun _ _ _ h _ => h, fun _ _ _ h _ => h, fun _ _ _ h _ => h, fun _ _ _ h _ => h, fun _ _ _ h _ => h, trivial⟩
    · refine ⟨?_, ?_, ?_, ?_, ?_, ?_, ?_, ?_, ?_, ?_, ?_, ?_, ?_, ?_, ?_, ?_, ?_, ?_, ?_, ?_, ?_, ?_, ?_, ?_, ?_, ?_, ?_, ?_, ?_, ?_, ?_, ?_, trivial⟩
      · intro u' W hbW hkp hdp K hK
        refine Eng.dv rfl rfl ?_ (hK _ _ (Below.refl _ _) rfl)
        exact (Eng.x_fa (v := (.pointer (some ⟨w.heap.size, 0, none⟩))) rfl (show Eng.opv 65 u' (.tmp 1) = (.pointer (some ⟨w.heap.size, 0, none⟩)) from hkp 1 rfl) (by kernel_rfl))
      · intro u' W hbW hkp hdp K hK
        have e0 : u' 4 = (.pointer (some ⟨w.heap.size, 0, none⟩)) := hdp.1
        refine Eng.dv rfl rfl ?_ (hK _ _ (Below.refl _ _) rfl)
        exact (Eng.x_ld1 (v := (.int .i64 h)) rfl ag3_tr (show Eng.opv 65 u' (.tmp 4) = (.pointer (some ⟨w.heap.size, 0, none⟩)) from e0) ((((hk2).below hbW)).cell 0))
      · intro u' W hbW hkp hdp K hK
        have e1 : u' 5 = (.int .i64 h) := hdp.1
        refine Eng.dc (vs := #[(.int .i64 h)]) rfl ?_ (rheight_is q0 _) ?_
        · exact Eng.xc (xs := #[(Go.Operand.tmp 5)]) (vl := [(.int .i64 h)]) rfl rfl (Eng.lc (show Eng.opv 65 u' (.tmp 5) = (.int .i64 h) from e1) rfl) en53_tr
        rintro _ W2 ⟨rfl, hb2⟩
        exact Eng.aft_v rfl (hK _ _ hb2 rfl)
      · intro u' W hbW hkp hdp K hK
        have e2 : u' 6 = (.bool false) := hdp.1
        refine Eng.dv rfl rfl ?_ (hK _ _ (Below.refl _ _) rfl)
        exact (Eng.x_not (v := (.bool true)) rfl (show Eng.opv 65 u' (.tmp 6) = (.bool false) from e2) rfl)
      · intro u' W hbW hkp hdp K hK
        have e3 : u' 7 = (.bool true) := hdp.1
        refine Eng.dv rfl rfl ?_ (hK _ _ (Below.refl _ _) rfl)
        exact (Eng.x_mv (v := (.bool true)) rfl (show Eng.opv 65 u' (.tmp 7) = (.bool true) from e3))
      · intro u' W hbW hkp hdp K hK
        have e4 : u' 8 = (.bool true) := hdp.1
        exact Eng.dg0 (Eng.gf rfl rfl rfl (show Eng.opv 65 u' (.tmp 8) = (.bool true) from e4)) rfl (hK _ _ (Below.refl _ _) rfl)
      · intro u' W hbW hkp hdp K hK
        have e4 : u' 8 = (.bool true) := hdp.2.1
        exact Eng.dg0 (Eng.gf rfl rfl rfl (show Eng.opv 65 u' (.tmp 8) = (.bool true) from e4)) rfl (hK _ _ (Below.refl _ _) rfl)
      · intro u' W hbW hkp hdp K hK
        have e4 : u' 8 = (.bool true) := hdp.2.1
        exact Eng.dg0 (Eng.gf rfl rfl rfl (show Eng.opv 65 u' (.tmp 8) = (.bool true) from e4)) rfl (hK _ _ (Below.refl _ _) rfl)
      · intro u' W hbW hkp hdp K hK
        have e4 : u' 8 = (.bool true) := hdp.1
        have e7 : u' 11 = undef := hdp.2.1
        refine Eng.dv rfl rfl ?_ (hK _ _ (Below.refl _ _) rfl)
        exact (Eng.x_pick (v := (.bool true)) rfl (show Eng.opv 65 u' (.tmp 8) = (.bool true) from e4) rfl (show Eng.opv 65 u' (.tmp 11) = undef from e7) rfl)
      · intro u' W hbW hkp hdp K hK
        have e8 : u' 12 = (.bool true) := hdp.1
        refine Eng.dv rfl rfl ?_ (hK _ _ (Below.refl _ _) rfl)
        exact (Eng.x_mv (v := (.bool true)) rfl (show Eng.opv 65 u' (.tmp 12) = (.bool true) from e8))
      · intro u' W hbW hkp hdp K hK
        have e9 : u' 13 = (.bool true) := hdp.1
        exact Eng.dg0 (Eng.gf rfl rfl rfl (show Eng.opv 65 u' (.tmp 13) = (.bool true) from e9)) rfl (hK _ _ (Below.refl _ _) rfl)
      · intro u' W hbW hkp hdp K hK
        have e9 : u' 13 = (.bool true) := hdp.2.1
        exact Eng.dg0 (Eng.gf rfl rfl rfl (show Eng.opv 65 u' (.tmp 13) = (.bool true) from e9)) rfl (hK _ _ (Below.refl _ _) rfl)
      · intro u' W hbW hkp hdp K hK
        have e9 : u' 13 = (.bool true) := hdp.2.1
        exact Eng.dg0 (Eng.gf rfl rfl rfl (show Eng.opv 65 u' (.tmp 13) = (.bool true) from e9)) rfl (hK _ _ (Below.refl _ _) rfl)
      · intro u' W hbW hkp hdp K hK
        have e9 : u' 13 = (.bool true) := hdp.1
        have e12 : u' 16 = undef := hdp.2.1
        refine Eng.dv rfl rfl ?_ (hK _ _ (Below.refl _ _) rfl)
        exact (Eng.x_pick (v := (.bool true)) rfl (show Eng.opv 65 u' (.tmp 13) = (.bool true) from e9) rfl (show Eng.opv 65 u' (.tmp 16) = undef from e12) rfl)
      · intro u' W hbW hkp hdp K hK
        have e13 : u' 17 = (.bool true) := hdp.1
        refine Eng.dv rfl rfl ?_ (hK _ _ (Below.refl _ _) rfl)
        exact (Eng.x_mv (v := (.bool true)) rfl (show Eng.opv 65 u' (.tmp 17) = (.bool true) from e13))
      · intro u' W hbW hkp hdp K hK
        have e14 : u' 18 = (.bool true) := hdp.1
        exact Eng.dg0 (Eng.gf rfl rfl rfl (show Eng.opv 65 u' (.tmp 18) = (.bool true) from e14)) rfl (hK _ _ (Below.refl _ _) rfl)
      · intro u' W hbW hkp hdp K hK
        have e14 : u' 18 = (.bool true) := hdp.2.1
        exact Eng.dg0 (Eng.gf rfl rfl rfl (show Eng.opv 65 u' (.tmp 18) = (.bool true) from e14)) rfl (hK _ _ (Below.refl _ _) rfl)
      · intro u' W hbW hkp hdp K hK
        have e14 : u' 18 = (.bool true) := hdp.2.1
        exact Eng.dg0 (Eng.gf rfl rfl rfl (show Eng.opv 65 u' (.tmp 18) = (.bool true) from e14)) rfl (hK _ _ (Below.refl _ _) rfl)
      · intro u' W hbW hkp hdp K hK
        have e14 : u' 18 = (.bool true) := hdp.1
        have e17 : u' 21 = undef := hdp.2.1
        refine Eng.dv rfl rfl ?_ (hK _ _ (Below.refl _ _) rfl)
        exact (Eng.x_pick (v := (.bool true)) rfl (show Eng.opv 65 u' (.tmp 18) = (.bool true) from e14) rfl (show Eng.opv 65 u' (.tmp 21) = undef from e17) rfl)
      · intro u' W hbW hkp hdp K hK
        have e18 : u' 22 = (.bool true) := hdp.1
        refine Eng.dv rfl rfl ?_ (hK _ _ (Below.refl _ _) rfl)
        exact (Eng.x_mv (v := (.bool true)) rfl (show Eng.opv 65 u' (.tmp 22) = (.bool true) from e18))
      · intro u' W hbW hkp hdp K hK
        have e19 : u' 23 = (.bool true) := hdp.1
        exact Eng.dg0 (Eng.gf rfl rfl rfl (show Eng.opv 65 u' (.tmp 23) = (.bool true) from e19)) rfl (hK _ _ (Below.refl _ _) rfl)
      · intro u' W hbW hkp hdp K hK
        have e19 : u' 23 = (.bool true) := hdp.2.1
        exact Eng.dg0 (Eng.gf rfl rfl rfl (show Eng.opv 65 u' (.tmp 23) = (.bool true) from e19)) rfl (hK _ _ (Below.refl _ _) rfl)
      · intro u' W hbW hkp hdp K hK
        have e19 : u' 23 = (.bool true) := hdp.2.1
        exact Eng.dg0 (Eng.gf rfl rfl rfl (show Eng.opv 65 u' (.tmp 23) = (.bool true) from e19)) rfl (hK _ _ (Below.refl _ _) rfl)
      · intro u' W hbW hkp hdp K hK
        have e19 : u' 23 = (.bool true) := hdp.1
        have e22 : u' 26 = undef := hdp.2.1
        refine Eng.dv rfl rfl ?_ (hK _ _ (Below.refl _ _) rfl)
        exact (Eng.x_pick (v := (.bool true)) rfl (show Eng.opv 65 u' (.tmp 23) = (.bool true) from e19) rfl (show Eng.opv 65 u' (.tmp 26) = undef from e22) rfl)
      · intro u' W hbW hkp hdp K hK
        have e23 : u' 27 = (.bool true) := hdp.1
        refine Eng.dv rfl rfl ?_ (hK _ _ (Below.refl _ _) rfl)
        exact (Eng.x_mv (v := (.bool true)) rfl (show Eng.opv 65 u' (.tmp 27) = (.bool true) from e23))
      · intro u' W hbW hkp hdp K hK
        have e24 : u' 28 = (.bool true) := hdp.1
        exact Eng.dg0 (Eng.gf rfl rfl rfl (show Eng.opv 65 u' (.tmp 28) = (.bool true) from e24)) rfl (hK _ _ (Below.refl _ _) rfl)
      · intro u' W hbW hkp hdp K hK
        have e24 : u' 28 = (.bool true) := hdp.2.1
        exact Eng.dg0 (Eng.gf rfl rfl rfl (show Eng.opv 65 u' (.tmp 28) = (.bool true) from e24)) rfl (hK _ _ (Below.refl _ _) rfl)
      · intro u' W hbW hkp hdp K hK
        have e24 : u' 28 = (.bool true) := hdp.1
        exact Eng.dg0 (Eng.gf rfl rfl rfl (show Eng.opv 65 u' (.tmp 28) = (.bool true) from e24)) rfl (hK _ _ (Below.refl _ _) rfl)
      · intro u' W hbW hkp hdp K hK
        have e24 : u' 28 = (.bool true) := hdp.2.1
        exact Eng.dg0 (Eng.gf rfl rfl rfl (show Eng.opv 65 u' (.tmp 28) = (.bool true) from e24)) rfl (hK _ _ (Below.refl _ _) rfl)
      · intro u' W hbW hkp hdp K hK
        have e24 : u' 28 = (.bool true) := hdp.2.1
        exact Eng.dg0 (Eng.gf rfl rfl rfl (show Eng.opv 65 u' (.tmp 28) = (.bool true) from e24)) rfl (hK _ _ (Below.refl _ _) rfl)
      · intro u' W hbW hkp hdp K hK
        have e24 : u' 28 = (.bool true) := hdp.2.2.1
        exact Eng.dg0 (Eng.gf rfl rfl rfl (show Eng.opv 65 u' (.tmp 28) = (.bool true) from e24)) rfl (hK _ _ (Below.refl _ _) rfl)
      · intro u' W hbW hkp hdp K hK
        have e24 : u' 28 = (.bool true) := hdp.1
        have e30 : u' 34 = undef := hdp.2.1
        refine Eng.dv rfl rfl ?_ (hK _ _ (Below.refl _ _) rfl)
        exact (Eng.x_pick (v := (.bool true)) rfl (show Eng.opv 65 u' (.tmp 28) = (.bool true) from e24) rfl (show Eng.opv 65 u' (.tmp 34) = undef from e30) rfl)
    · intro ud5 w5 hb5 hkp5 ⟨f5_0, f5_1, f5_2, f5_3, f5_4, f5_5, f5_6, f5_7, f5_8, f5_9, f5_10, f5_11, f5_12, f5_13, f5_14, f5_15, f5_16, f5_17, f5_18, f5_19, f5_20, f5_21, f5_22, f5_23, f5_24, f5_25, f5_26, f5_27, f5_28, f5_29, f5_30, f5_31, _⟩
      obtain rfl := Eng.collect (l := [(4, (.pointer (some ⟨w.heap.size, 0, none⟩))), (5, (.int .i64 h)), (6, (.bool false)), (7, (.bool true)), (8, (.bool true)), (9, undef), (10, undef), (11, undef), (12, (.bool true)), (13, (.bool true)), (14, undef), (15, undef), (16, undef), (17, (.bool true)), (18, (.bool true)), (19, undef), (20, undef), (21, undef), (22, (.bool true)), (23, (.bool true)), (24, undef), (25, undef), (26, undef), (27, (.bool true)), (28, (.bool true)), (29, undef), (30, undef), (31, undef), (32, undef), (33, undef), (34, undef), (35, (.bool true))]) hkp5 ⟨f5_0, f5_1, f5_2, f5_3, f5_4, f5_5, f5_6, f5_7, f5_8, f5_9, f5_10, f5_11, f5_12, f5_13, f5_14, f5_15, f5_16, f5_17, f5_18, f5_19, f5_20, f5_21, f5_22, f5_23, f5_24, f5_25, f5_26, f5_27, f5_28, f5_29, f5_30, f5_31, trivial⟩ rfl
      refine Eng.nil ?_
      refine hK4 _ _ ?_
      refine Eng.cond_t rfl ?_
      refine Eng.seqk fun K6 hK6 => ?_
      refine Eng.reg ?_
      refine Eng.sv rfl rfl (Eng.x_as (v := (.bool false)) rfl rfl) ?_
      refine Eng.nil ?_
      refine hK6 _ _ ?_
      refine Eng.rt ?_
      refine Eng.tr ?_
      refine Eng.ret (Eng.res1 (v1 := (.bool false)) rfl (Eng.rdt rfl)) ?_
      have hB0_2 : Below w.heap.size w w5 := (hb2).trans (hb5.mono (hb2).size)
      exact ⟨by rw [tvF (.inl q0)], hB0_2⟩
  · skip
    have hh : ht h = true := by simpa using q0
    have hh8 := ht_yes hh
    have hpw := pwb hh
    by_cases q1 : l < 0
    · skip
      refine Eng.draw 32 [fun vQ _ => vQ = (.pointer (some ⟨w.heap.size, 0, none⟩)), fun vQ _ => vQ = (.int .i64 h), fun vQ _ => vQ = (.bool true), fun vQ _ => vQ = (.bool false), fun vQ _ => vQ = (.bool false), fun vQ _ => vQ = (.pointer (some ⟨w.heap.size, 1, none⟩)), fun vQ _ => vQ = (.int .i64 l), fun vQ _ => vQ = (.bool true), fun vQ _ => vQ = (.bool true), fun vQ _ => vQ = (.bool true), fun vQ _ => vQ = undef, fun vQ _ => vQ = undef, fun vQ _ => vQ = undef, fun vQ _ => vQ = (.bool true), fun vQ _ => vQ = (.bool true), fun vQ _ => vQ = undef, fun vQ _ => vQ = undef, fun vQ _ => vQ = undef, fun vQ _ => vQ = (.bool true), fun vQ _ => vQ = (.bool true), fun vQ _ => vQ = undef, fun vQ _ => vQ = undef, fun vQ _ => vQ = undef, fun vQ _ => vQ = (.bool true), fun vQ _ => vQ = (.bool true), fun vQ _ => vQ = undef, fun vQ _ => vQ = undef, fun vQ _ => vQ = undef, fun vQ _ => vQ = undef, fun vQ _ => vQ = undef, fun vQ _ => vQ = undef, fun vQ _ => vQ = (.bool true)] (by kernel_rfl) (by kernel_rfl) (by kernel_rfl) (by kernel_rfl) rfl rfl ?_ ?_ ?_
      · exact ⟨fun _ _ _ h _ => h, fun _ _ _ h _ => h, fun _ _ _ h _ => h, fun _ _ _ h _ => h, fun _ _ _ h _ => h, fun _ _ _ h _ => h, fun _ _ _ h _ => h, fun _ _ _ h _ => h, fun _ _ _ h _ => h, fun _ _ _ h _ => h, fun _ _ _ h _ => h, fun _ _ _ h _ => h, fun _ _ _ h _ => h, fun _ _ _ h _ => h, fun _ _ _ h _ => h, fun _ _ _ h _ => h, fun _ _ _ h _ => h, fun _ _ _ h _ => h, fun _ _ _ h _ => h, fun _ _ _ h _ => h, fun _ _ _ h _ => h, fun _ _ _ h _ => h, fun _ _ _ h _ => h, fun _ _ _ h _ => h, fun _ _ _ h _ => h, fun _ _ _ h _ => h, fun _ _ _ h _ => h, fun _ _ _ h _ => h, fun _ _ _ h _ => h, fun _ _ _ h _ => h, fun _ _ _ h _ => h, fun _ _ _ h _ => h, trivial⟩
      · refine ⟨?_, ?_, ?_, ?_, ?_, ?_, ?_, ?_, ?_, ?_, ?_, ?_, ?_, ?_, ?_, ?_, ?_, ?_, ?_, ?_, ?_, ?_, ?_, ?_, ?_, ?_, ?_, ?_, ?_, ?_, ?_, ?_, trivial⟩
        · intro u' W hbW hkp hdp K hK
          refine Eng.dv rfl rfl ?_ (hK _ _ (Below.refl _ _) rfl)
          exact (Eng.x_fa (v := (.pointer (some ⟨w.heap.size, 0, none⟩))) rfl (show Eng.opv 65 u' (.tmp 1) = (.pointer (some ⟨w.heap.size, 0, none⟩)) from hkp 1 rfl) (by kernel_rfl))
        · intro u' W hbW hkp hdp K hK
          have e0 : u' 4 = (.pointer (some ⟨w.heap.size, 0, none⟩)) := hdp.1
          refine Eng.dv rfl rfl ?_ (hK _ _ (Below.refl _ _) rfl)
          exact (Eng.x_ld1 (v := (.int .i64 h)) rfl ag3_tr (show Eng.opv 65 u' (.tmp 4) = (.pointer (some ⟨w.heap.size, 0, none⟩)) from e0) ((((hk2).below hbW)).cell 0))
        · intro u' W hbW hkp hdp K hK
          have e1 : u' 5 = (.int .i64 h) := hdp.1
          refine Eng.dc (vs := #[(.int .i64 h)]) rfl ?_ (rheight_is hh _) ?_
          · exact Eng.xc (xs := #[(Go.Operand.tmp 5)]) (vl := [(.int .i64 h)]) rfl rfl (Eng.lc (show Eng.opv 65 u' (.tmp 5) = (.int .i64 h) from e1) rfl) en53_tr
          rintro _ W2 ⟨rfl, hb2⟩
          exact Eng.aft_v rfl (hK _ _ hb2 rfl)
        · intro u' W hbW hkp hdp K hK
          have e2 : u' 6 = (.bool true) := hdp.1
          refine Eng.dv rfl rfl ?_ (hK _ _ (Below.refl _ _) rfl)
          exact (Eng.x_not (v := (.bool false)) rfl (show Eng.opv 65 u' (.tmp 6) = (.bool true) from e2) rfl)
        · intro u' W hbW hkp hdp K hK
          have e3 : u' 7 = (.bool false) := hdp.1
          refine Eng.dv rfl rfl ?_ (hK _ _ (Below.refl _ _) rfl)
          exact (Eng.x_mv (v := (.bool false)) rfl (show Eng.opv 65 u' (.tmp 7) = (.bool false) from e3))
        · intro u' W hbW hkp hdp K hK
          have e4 : u' 8 = (.bool false) := hdp.1
          refine Eng.dv (Eng.gt rfl rfl rfl (show Eng.opv 65 u' (.tmp 8) = (.bool false) from e4)) rfl ?_ (hK _ _ (Below.refl _ _) rfl)
          exact (Eng.x_fa (v := (.pointer (some ⟨w.heap.size, 1, none⟩))) rfl (show Eng.opv 65 u' (.tmp 1) = (.pointer (some ⟨w.heap.size, 0, none⟩)) from hkp 1 rfl) (by kernel_rfl))
        · intro u' W hbW hkp hdp K hK
          have e4 : u' 8 = (.bool false) := hdp.2.1
          have e5 : u' 9 = (.pointer (some ⟨w.heap.size, 1, none⟩)) := hdp.1
          refine Eng.dv (Eng.gt rfl rfl rfl (show Eng.opv 65 u' (.tmp 8) = (.bool false) from e4)) rfl ?_ (hK _ _ (Below.refl _ _) rfl)
          exact (Eng.x_ld1 (v := (.int .i64 l)) rfl ag3_tr (show Eng.opv 65 u' (.tmp 9) = (.pointer (some ⟨w.heap.size, 1, none⟩)) from e5) ((((hk2).below hbW)).cell 1))
        · intro u' W hbW hkp hdp K hK
          have e4 : u' 8 = (.bool false) := hdp.2.1
          have e6 : u' 10 = (.int .i64 l) := hdp.1
          refine Eng.dv (Eng.gt rfl rfl rfl (show Eng.opv 65 u' (.tmp 8) = (.bool false) from e4)) rfl ?_ (hK _ _ (Below.refl _ _) rfl)
          exact (Eng.x_lt (r := true) rfl (show Eng.opv 65 u' (.tmp 10) = (.int .i64 l) from e6) rfl (decide_eq_true (by omega)))
        · intro u' W hbW hkp hdp K hK
          have e4 : u' 8 = (.bool false) := hdp.1
          have e7 : u' 11 = (.bool true) := hdp.2.1
          refine Eng.dv rfl rfl ?_ (hK _ _ (Below.refl _ _) rfl)
          exact (Eng.x_pick (v := (.bool true)) rfl (show Eng.opv 65 u' (.tmp 8) = (.bool false) from e4) rfl (show Eng.opv 65 u' (.tmp 11) = (.bool true) from e7) rfl)
        · intro u' W hbW hkp hdp K hK
          have e8 : u' 12 = (.bool true) := hdp.1
          refine Eng.dv rfl rfl ?_ (hK _ _ (Below.refl _ _) rfl)
          exact (Eng.x_mv (v := (.bool true)) rfl (show Eng.opv 65 u' (.tmp 12) = (.bool true) from e8))
        · intro u' W hbW hkp hdp K hK
          have e9 : u' 13 = (.bool true) := hdp.1
          exact Eng.dg0 (Eng.gf rfl rfl rfl (show Eng.opv 65 u' (.tmp 13) = (.bool true) from e9)) rfl (hK _ _ (Below.refl _ _) rfl)
        · intro u' W hbW hkp hdp K hK
          have e9 : u' 13 = (.bool true) := hdp.2.1
          exact Eng.dg0 (Eng.gf rfl rfl rfl (show Eng.opv 65 u' (.tmp 13) = (.bool true) from e9)) rfl (hK _ _ (Below.refl _ _) rfl)
        · intro u' W hbW hkp hdp K hK
          have e9 : u' 13 = (.bool true) := hdp.2.1
          exact Eng.dg0 (Eng.gf rfl rfl rfl (show Eng.opv 65 u' (.tmp 13) = (.bool true) from e9)) rfl (hK _ _ (Below.refl _ _) rfl)
        · intro u' W hbW hkp hdp K hK
          have e9 : u' 13 = (.bool true) := hdp.1
          have e12 : u' 16 = undef := hdp.2.1
          refine Eng.dv rfl rfl ?_ (hK _ _ (Below.refl _ _) rfl)
          exact (Eng.x_pick (v := (.bool true)) rfl (show Eng.opv 65 u' (.tmp 13) = (.bool true) from e9) rfl (show Eng.opv 65 u' (.tmp 16) = undef from e12) rfl)
        · intro u' W hbW hkp hdp K hK
          have e13 : u' 17 = (.bool true) := hdp.1
          refine Eng.dv rfl rfl ?_ (hK _ _ (Below.refl _ _) rfl)
          exact (Eng.x_mv (v := (.bool true)) rfl (show Eng.opv 65 u' (.tmp 17) = (.bool true) from e13))
        · intro u' W hbW hkp hdp K hK
          have e14 : u' 18 = (.bool true) := hdp.1
          exact Eng.dg0 (Eng.gf rfl rfl rfl (show Eng.opv 65 u' (.tmp 18) = (.bool true) from e14)) rfl (hK _ _ (Below.refl _ _) rfl)
        · intro u' W hbW hkp hdp K hK
          have e14 : u' 18 = (.bool true) := hdp.2.1
          exact Eng.dg0 (Eng.gf rfl rfl rfl (show Eng.opv 65 u' (.tmp 18) = (.bool true) from e14)) rfl (hK _ _ (Below.refl _ _) rfl)
        · intro u' W hbW hkp hdp K hK
          have e14 : u' 18 = (.bool true) := hdp.2.1
          exact Eng.dg0 (Eng.gf rfl rfl rfl (show Eng.opv 65 u' (.tmp 18) = (.bool true) from e14)) rfl (hK _ _ (Below.refl _ _) rfl)
        · intro u' W hbW hkp hdp K hK
          have e14 : u' 18 = (.bool true) := hdp.1
          have e17 : u' 21 = undef := hdp.2.1
          refine Eng.dv rfl rfl ?_ (hK _ _ (Below.refl _ _) rfl)
          exact (Eng.x_pick (v := (.bool true)) rfl (show Eng.opv 65 u' (.tmp 18) = (.bool true) from e14) rfl (show Eng.opv 65 u' (.tmp 21) = undef from e17) rfl)
        · intro u' W hbW hkp hdp K hK
          have e18 : u' 22 = (.bool true) := hdp.1
          refine Eng.dv rfl rfl ?_ (hK _ _ (Below.refl _ _) rfl)
          exact (Eng.x_mv (v := (.bool true)) rfl (show Eng.opv 65 u' (.tmp 22) = (.bool true) from e18))
        · intro u' W hbW hkp hdp K hK
          have e19 : u' 23 = (.bool true) := hdp.1
          exact Eng.dg0 (Eng.gf rfl rfl rfl (show Eng.opv 65 u' (.tmp 23) = (.bool true) from e19)) rfl (hK _ _ (Below.refl _ _) rfl)
        · intro u' W hbW hkp hdp K hK
          have e19 : u' 23 = (.bool true) := hdp.2.1
          exact Eng.dg0 (Eng.gf rfl rfl rfl (show Eng.opv 65 u' (.tmp 23) = (.bool true) from e19)) rfl (hK _ _ (Below.refl _ _) rfl)
        · intro u' W hbW hkp hdp K hK
          have e19 : u' 23 = (.bool true) := hdp.2.1
          exact Eng.dg0 (Eng.gf rfl rfl rfl (show Eng.opv 65 u' (.tmp 23) = (.bool true) from e19)) rfl (hK _ _ (Below.refl _ _) rfl)
        · intro u' W hbW hkp hdp K hK
          have e19 : u' 23 = (.bool true) := hdp.1
          have e22 : u' 26 = undef := hdp.2.1
          refine Eng.dv rfl rfl ?_ (hK _ _ (Below.refl _ _) rfl)
          exact (Eng.x_pick (v := (.bool true)) rfl (show Eng.opv 65 u' (.tmp 23) = (.bool true) from e19) rfl (show Eng.opv 65 u' (.tmp 26) = undef from e22) rfl)
        · intro u' W hbW hkp hdp K hK
          have e23 : u' 27 = (.bool true) := hdp.1
          refine Eng.dv rfl rfl ?_ (hK _ _ (Below.refl _ _) rfl)
          exact (Eng.x_mv (v := (.bool true)) rfl (show Eng.opv 65 u' (.tmp 27) = (.bool true) from e23))
        · intro u' W hbW hkp hdp K hK
          have e24 : u' 28 = (.bool true) := hdp.1
          exact Eng.dg0 (Eng.gf rfl rfl rfl (show Eng.opv 65 u' (.tmp 28) = (.bool true) from e24)) rfl (hK _ _ (Below.refl _ _) rfl)
        · intro u' W hbW hkp hdp K hK
          have e24 : u' 28 = (.bool true) := hdp.2.1
          exact Eng.dg0 (Eng.gf rfl rfl rfl (show Eng.opv 65 u' (.tmp 28) = (.bool true) from e24)) rfl (hK _ _ (Below.refl _ _) rfl)
        · intro u' W hbW hkp hdp K hK
          have e24 : u' 28 = (.bool true) := hdp.1
          exact Eng.dg0 (Eng.gf rfl rfl rfl (show Eng.opv 65 u' (.tmp 28) = (.bool true) from e24)) rfl (hK _ _ (Below.refl _ _) rfl)
        · intro u' W hbW hkp hdp K hK
          have e24 : u' 28 = (.bool true) := hdp.2.1
          exact Eng.dg0 (Eng.gf rfl rfl rfl (show Eng.opv 65 u' (.tmp 28) = (.bool true) from e24)) rfl (hK _ _ (Below.refl _ _) rfl)
        · intro u' W hbW hkp hdp K hK
          have e24 : u' 28 = (.bool true) := hdp.2.1
          exact Eng.dg0 (Eng.gf rfl rfl rfl (show Eng.opv 65 u' (.tmp 28) = (.bool true) from e24)) rfl (hK _ _ (Below.refl _ _) rfl)
        · intro u' W hbW hkp hdp K hK
          have e24 : u' 28 = (.bool true) := hdp.2.2.1
          exact Eng.dg0 (Eng.gf rfl rfl rfl (show Eng.opv 65 u' (.tmp 28) = (.bool true) from e24)) rfl (hK _ _ (Below.refl _ _) rfl)
        · intro u' W hbW hkp hdp K hK
          have e24 : u' 28 = (.bool true) := hdp.1
          have e30 : u' 34 = undef := hdp.2.1
          refine Eng.dv rfl rfl ?_ (hK _ _ (Below.refl _ _) rfl)
          exact (Eng.x_pick (v := (.bool true)) rfl (show Eng.opv 65 u' (.tmp 28) = (.bool true) from e24) rfl (show Eng.opv 65 u' (.tmp 34) = undef from e30) rfl)
      · intro ud7 w7 hb7 hkp7 ⟨f7_0, f7_1, f7_2, f7_3, f7_4, f7_5, f7_6, f7_7, f7_8, f7_9, f7_10, f7_11, f7_12, f7_13, f7_14, f7_15, f7_16, f7_17, f7_18, f7_19, f7_20, f7_21, f7_22, f7_23, f7_24, f7_25, f7_26, f7_27, f7_28, f7_29, f7_30, f7_31, _⟩
        obtain rfl := Eng.collect (l := [(4, (.pointer (some ⟨w.heap.size, 0, none⟩))), (5, (.int .i64 h)), (6, (.bool true)), (7, (.bool false)), (8, (.bool false)), (9, (.pointer (some ⟨w.heap.size, 1, none⟩))), (10, (.int .i64 l)), (11, (.bool true)), (12, (.bool true)), (13, (.bool true)), (14, undef), (15, undef), (16, undef), (17, (.bool true)), (18, (.bool true)), (19, undef), (20, undef), (21, undef), (22, (.bool true)), (23, (.bool true)), (24, undef), (25, undef), (26, undef), (27, (.bool true)), (28, (.bool true)), (29, undef), (30, undef), (31, undef), (32, undef), (33, undef), (34, undef), (35, (.bool true))]) hkp7 ⟨f7_0, f7_1, f7_2, f7_3, f7_4, f7_5, f7_6, f7_7, f7_8, f7_9, f7_10, f7_11, f7_12, f7_13, f7_14, f7_15, f7_16, f7_17, f7_18, f7_19, f7_20, f7_21, f7_22, f7_23, f7_24, f7_25, f7_26, f7_27, f7_28, f7_29, f7_30, f7_31, trivial⟩ rfl
        refine Eng.nil ?_
        refine hK4 _ _ ?_
        refine Eng.cond_t rfl ?_
        refine Eng.seqk fun K8 hK8 => ?_
        refine Eng.reg ?_
        refine Eng.sv rfl rfl (Eng.x_as (v := (.bool false)) rfl rfl) ?_
        refine Eng.nil ?_
        refine hK8 _ _ ?_
        refine Eng.rt ?_
        refine Eng.tr ?_
        refine Eng.ret (Eng.res1 (v1 := (.bool false)) rfl (Eng.rdt rfl)) ?_
        have hB0_2 : Below w.heap.size w w7 := (hb2).trans (hb7.mono (hb2).size)
        exact ⟨by rw [tvF (.inr (.inl q1))], hB0_2⟩
    · skip
      by_cases q2 : 48 < l
      · skip
        refine Eng.draw 32 [fun vQ _ => vQ = (.pointer (some ⟨w.heap.size, 0, none⟩)), fun vQ _ => vQ = (.int .i64 h), fun vQ _ => vQ = (.bool true), fun vQ _ => vQ = (.bool false), fun vQ _ => vQ = (.bool false), fun vQ _ => vQ = (.pointer (some ⟨w.heap.size, 1, none⟩)), fun vQ _ => vQ = (.int .i64 l), fun vQ _ => vQ = (.bool false), fun vQ _ => vQ = (.bool false), fun vQ _ => vQ = (.bool false), fun vQ _ => vQ = (.pointer (some ⟨w.heap.size, 1, none⟩)), fun vQ _ => vQ = (.int .i64 l), fun vQ _ => vQ = (.bool true), fun vQ _ => vQ = (.bool true), fun vQ _ => vQ = (.bool true), fun vQ _ => vQ = undef, fun vQ _ => vQ = undef, fun vQ _ => vQ = undef, fun vQ _ => vQ = (.bool true), fun vQ _ => vQ = (.bool true), fun vQ _ => vQ = undef, fun vQ _ => vQ = undef, fun vQ _ => vQ = undef, fun vQ _ => vQ = (.bool true), fun vQ _ => vQ = (.bool true), fun vQ _ => vQ = undef, fun vQ _ => vQ = undef, fun vQ _ => vQ = undef, fun vQ _ => vQ = undef, fun vQ _ => vQ = undef, fun vQ _ => vQ = undef, fun vQ _ => vQ = (.bool true)] (by kernel_rfl) (by kernel_rfl) (by kernel_rfl) (by kernel_rfl) rfl rfl ?_ ?_ ?_
        · exact ⟨fun _ _ _ h _ => h, fun _ _ _ h _ => h, fun _ _ _ h _ => h, fun _ _ _ h _ => h, fun _ _ _ h _ => h, fun _ _ _ h _ => h, fun _ _ _ h _ => h, fun _ _ _ h _ => h, fun _ _ _ h _ => h, fun _ _ _ h _ => h, fun _ _ _ h _ => h, fun _ _ _ h _ => h, fun _ _ _ h _ => h, fun _ _ _ h _ => h, fun _ _ _ h _ => h, fun _ _ _ h _ => h, fun _ _ _ h _ => h, fun _ _ _ h _ => h, fun _ _ _ h _ => h, fun _ _ _ h _ => h, fun _ _ _ h _ => h, fun _ _ _ h _ => h, fun _ _ _ h _ => h, fun _ _ _ h _ => h, fun _ _ _ h _ => h, fun _ _ _ h _ => h, fun _ _ _ h _ => h, fun _ _ _ h _ => h, fun _ _ _ h _ => h, fun _ _ _ h _ => h, fun _ _ _ h _ => h, fun _ _ _ h _ => h, trivial⟩
        · refine ⟨?_, ?_, ?_, ?_, ?_, ?_, ?_, ?_, ?_, ?_, ?_, ?_, ?_, ?_, ?_, ?_, ?_, ?_, ?_, ?_, ?_, ?_, ?_, ?_, ?_, ?_, ?_, ?_, ?_, ?_, ?_, ?_, trivial⟩
          · intro u' W hbW hkp hdp K hK
            refine Eng.dv rfl rfl ?_ (hK _ _ (Below.refl _ _) rfl)
            exact (Eng.x_fa (v := (.pointer (some ⟨w.heap.size, 0, none⟩))) rfl (show Eng.opv 65 u' (.tmp 1) = (.pointer (some ⟨w.heap.size, 0, none⟩)) from hkp 1 rfl) (by kernel_rfl))
          · intro u' W hbW hkp hdp K hK
            have e0 : u' 4 = (.pointer (some ⟨w.heap.size, 0, none⟩)) := hdp.1
            refine Eng.dv rfl rfl ?_ (hK _ _ (Below.refl _ _) rfl)
            exact (Eng.x_ld1 (v := (.int .i64 h)) rfl ag3_tr (show Eng.opv 65 u' (.tmp 4) = (.pointer (some ⟨w.heap.size, 0, none⟩)) from e0) ((((hk2).below hbW)).cell 0))
          · intro u' W hbW hkp hdp K hK
            have e1 : u' 5 = (.int .i64 h) := hdp.1
            refine Eng.dc (vs := #[(.int .i64 h)]) rfl ?_ (rheight_is hh _) ?_
            · exact Eng.xc (xs := #[(Go.Operand.tmp 5)]) (vl := [(.int .i64 h)]) rfl rfl (Eng.lc (show Eng.opv 65 u' (.tmp 5) = (.int .i64 h) from e1) rfl) en53_tr
            rintro _ W2 ⟨rfl, hb2⟩
            exact Eng.aft_v rfl (hK _ _ hb2 rfl)
          · intro u' W hbW hkp hdp K hK
            have e2 : u' 6 = (.bool true) := hdp.1
            refine Eng.dv rfl rfl ?_ (hK _ _ (Below.refl _ _) rfl)
            exact (Eng.x_not (v := (.bool false)) rfl (show Eng.opv 65 u' (.tmp 6) = (.bool true) from e2) rfl)
          · intro u' W hbW hkp hdp K hK
            have e3 : u' 7 = (.bool false) := hdp.1
            refine Eng.dv rfl rfl ?_ (hK _ _ (Below.refl _ _) rfl)
            exact (Eng.x_mv (v := (.bool false)) rfl (show Eng.opv 65 u' (.tmp 7) = (.bool false) from e3))
          · intro u' W hbW hkp hdp K hK
            have e4 : u' 8 = (.bool false) := hdp.1
            refine Eng.dv (Eng.gt rfl rfl rfl (show Eng.opv 65 u' (.tmp 8) = (.bool false) from e4)) rfl ?_ (hK _ _ (Below.refl _ _) rfl)
            exact (Eng.x_fa (v := (.pointer (some ⟨w.heap.size, 1, none⟩))) rfl (show Eng.opv 65 u' (.tmp 1) = (.pointer (some ⟨w.heap.size, 0, none⟩)) from hkp 1 rfl) (by kernel_rfl))
          · intro u' W hbW hkp hdp K hK
            have e4 : u' 8 = (.bool false) := hdp.2.1
            have e5 : u' 9 = (.pointer (some ⟨w.heap.size, 1, none⟩)) := hdp.1
            refine Eng.dv (Eng.gt rfl rfl rfl (show Eng.opv 65 u' (.tmp 8) = (.bool false) from e4)) rfl ?_ (hK _ _ (Below.refl _ _) rfl)
            exact (Eng.x_ld1 (v := (.int .i64 l)) rfl ag3_tr (show Eng.opv 65 u' (.tmp 9) = (.pointer (some ⟨w.heap.size, 1, none⟩)) from e5) ((((hk2).below hbW)).cell 1))
          · intro u' W hbW hkp hdp K hK
            have e4 : u' 8 = (.bool false) := hdp.2.1
            have e6 : u' 10 = (.int .i64 l) := hdp.1
            refine Eng.dv (Eng.gt rfl rfl rfl (show Eng.opv 65 u' (.tmp 8) = (.bool false) from e4)) rfl ?_ (hK _ _ (Below.refl _ _) rfl)
            exact (Eng.x_lt (r := false) rfl (show Eng.opv 65 u' (.tmp 10) = (.int .i64 l) from e6) rfl (decide_eq_false (by omega)))
          · intro u' W hbW hkp hdp K hK
            have e4 : u' 8 = (.bool false) := hdp.1
            have e7 : u' 11 = (.bool false) := hdp.2.1
            refine Eng.dv rfl rfl ?_ (hK _ _ (Below.refl _ _) rfl)
            exact (Eng.x_pick (v := (.bool false)) rfl (show Eng.opv 65 u' (.tmp 8) = (.bool false) from e4) rfl (show Eng.opv 65 u' (.tmp 11) = (.bool false) from e7) rfl)
          · intro u' W hbW hkp hdp K hK
            have e8 : u' 12 = (.bool false) := hdp.1
            refine Eng.dv rfl rfl ?_ (hK _ _ (Below.refl _ _) rfl)
            exact (Eng.x_mv (v := (.bool false)) rfl (show Eng.opv 65 u' (.tmp 12) = (.bool false) from e8))
          · intro u' W hbW hkp hdp K hK
            have e9 : u' 13 = (.bool false) := hdp.1
            refine Eng.dv (Eng.gt rfl rfl rfl (show Eng.opv 65 u' (.tmp 13) = (.bool false) from e9)) rfl ?_ (hK _ _ (Below.refl _ _) rfl)
            exact (Eng.x_fa (v := (.pointer (some ⟨w.heap.size, 1, none⟩))) rfl (show Eng.opv 65 u' (.tmp 1) = (.pointer (some ⟨w.heap.size, 0, none⟩)) from hkp 1 rfl) (by kernel_rfl))
          · intro u' W hbW hkp hdp K hK
            have e9 : u' 13 = (.bool false) := hdp.2.1
            have e10 : u' 14 = (.pointer (some ⟨w.heap.size, 1, none⟩)) := hdp.1
            refine Eng.dv (Eng.gt rfl rfl rfl (show Eng.opv 65 u' (.tmp 13) = (.bool false) from e9)) rfl ?_ (hK _ _ (Below.refl _ _) rfl)
            exact (Eng.x_ld1 (v := (.int .i64 l)) rfl ag3_tr (show Eng.opv 65 u' (.tmp 14) = (.pointer (some ⟨w.heap.size, 1, none⟩)) from e10) ((((hk2).below hbW)).cell 1))
          · intro u' W hbW hkp hdp K hK
            have e9 : u' 13 = (.bool false) := hdp.2.1
            have e11 : u' 15 = (.int .i64 l) := hdp.1
            refine Eng.dv (Eng.gt rfl rfl rfl (show Eng.opv 65 u' (.tmp 13) = (.bool false) from e9)) rfl ?_ (hK _ _ (Below.refl _ _) rfl)
            exact (Eng.x_gt (r := true) rfl (show Eng.opv 65 u' (.tmp 15) = (.int .i64 l) from e11) rfl (decide_eq_true (by omega)))
          · intro u' W hbW hkp hdp K hK
            have e9 : u' 13 = (.bool false) := hdp.1
            have e12 : u' 16 = (.bool true) := hdp.2.1
            refine Eng.dv rfl rfl ?_ (hK _ _ (Below.refl _ _) rfl)
            exact (Eng.x_pick (v := (.bool true)) rfl (show Eng.opv 65 u' (.tmp 13) = (.bool false) from e9) rfl (show Eng.opv 65 u' (.tmp 16) = (.bool true) from e12) rfl)
          · intro u' W hbW hkp hdp K hK
            have e13 : u' 17 = (.bool true) := hdp.1
            refine Eng.dv rfl rfl ?_ (hK _ _ (Below.refl _ _) rfl)
            exact (Eng.x_mv (v := (.bool true)) rfl (show Eng.opv 65 u' (.tmp 17) = (.bool true) from e13))
          · intro u' W hbW hkp hdp K hK
            have e14 : u' 18 = (.bool true) := hdp.1
            exact Eng.dg0 (Eng.gf rfl rfl rfl (show Eng.opv 65 u' (.tmp 18) = (.bool true) from e14)) rfl (hK _ _ (Below.refl _ _) rfl)
          · intro u' W hbW hkp hdp K hK
            have e14 : u' 18 = (.bool true) := hdp.2.1
            exact Eng.dg0 (Eng.gf rfl rfl rfl (show Eng.opv 65 u' (.tmp 18) = (.bool true) from e14)) rfl (hK _ _ (Below.refl _ _) rfl)
          · intro u' W hbW hkp hdp K hK
            have e14 : u' 18 = (.bool true) := hdp.2.1
            exact Eng.dg0 (Eng.gf rfl rfl rfl (show Eng.opv 65 u' (.tmp 18) = (.bool true) from e14)) rfl (hK _ _ (Below.refl _ _) rfl)
          · intro u' W hbW hkp hdp K hK
            have e14 : u' 18 = (.bool true) := hdp.1
            have e17 : u' 21 = undef := hdp.2.1
            refine Eng.dv rfl rfl ?_ (hK _ _ (Below.refl _ _) rfl)
            exact (Eng.x_pick (v := (.bool true)) rfl (show Eng.opv 65 u' (.tmp 18) = (.bool true) from e14) rfl (show Eng.opv 65 u' (.tmp 21) = undef from e17) rfl)
          · intro u' W hbW hkp hdp K hK
            have e18 : u' 22 = (.bool true) := hdp.1
            refine Eng.dv rfl rfl ?_ (hK _ _ (Below.refl _ _) rfl)
            exact (Eng.x_mv (v := (.bool true)) rfl (show Eng.opv 65 u' (.tmp 22) = (.bool true) from e18))
          · intro u' W hbW hkp hdp K hK
            have e19 : u' 23 = (.bool true) := hdp.1
            exact Eng.dg0 (Eng.gf rfl rfl rfl (show Eng.opv 65 u' (.tmp 23) = (.bool true) from e19)) rfl (hK _ _ (Below.refl _ _) rfl)
          · intro u' W hbW hkp hdp K hK
            have e19 : u' 23 = (.bool true) := hdp.2.1
            exact Eng.dg0 (Eng.gf rfl rfl rfl (show Eng.opv 65 u' (.tmp 23) = (.bool true) from e19)) rfl (hK _ _ (Below.refl _ _) rfl)
          · intro u' W hbW hkp hdp K hK
            have e19 : u' 23 = (.bool true) := hdp.2.1
            exact Eng.dg0 (Eng.gf rfl rfl rfl (show Eng.opv 65 u' (.tmp 23) = (.bool true) from e19)) rfl (hK _ _ (Below.refl _ _) rfl)
          · intro u' W hbW hkp hdp K hK
            have e19 : u' 23 = (.bool true) := hdp.1
            have e22 : u' 26 = undef := hdp.2.1
            refine Eng.dv rfl rfl ?_ (hK _ _ (Below.refl _ _) rfl)
            exact (Eng.x_pick (v := (.bool true)) rfl (show Eng.opv 65 u' (.tmp 23) = (.bool true) from e19) rfl (show Eng.opv 65 u' (.tmp 26) = undef from e22) rfl)
          · intro u' W hbW hkp hdp K hK
            have e23 : u' 27 = (.bool true) := hdp.1
            refine Eng.dv rfl rfl ?_ (hK _ _ (Below.refl _ _) rfl)
            exact (Eng.x_mv (v := (.bool true)) rfl (show Eng.opv 65 u' (.tmp 27) = (.bool true) from e23))
          · intro u' W hbW hkp hdp K hK
            have e24 : u' 28 = (.bool true) := hdp.1
            exact Eng.dg0 (Eng.gf rfl rfl rfl (show Eng.opv 65 u' (.tmp 28) = (.bool true) from e24)) rfl (hK _ _ (Below.refl _ _) rfl)
          · intro u' W hbW hkp hdp K hK
            have e24 : u' 28 = (.bool true) := hdp.2.1
            exact Eng.dg0 (Eng.gf rfl rfl rfl (show Eng.opv 65 u' (.tmp 28) = (.bool true) from e24)) rfl (hK _ _ (Below.refl _ _) rfl)
          · intro u' W hbW hkp hdp K hK
            have e24 : u' 28 = (.bool true) := hdp.1
            exact Eng.dg0 (Eng.gf rfl rfl rfl (show Eng.opv 65 u' (.tmp 28) = (.bool true) from e24)) rfl (hK _ _ (Below.refl _ _) rfl)
          · intro u' W hbW hkp hdp K hK
            have e24 : u' 28 = (.bool true) := hdp.2.1
            exact Eng.dg0 (Eng.gf rfl rfl rfl (show Eng.opv 65 u' (.tmp 28) = (.bool true) from e24)) rfl (hK _ _ (Below.refl _ _) rfl)
          · intro u' W hbW hkp hdp K hK
            have e24 : u' 28 = (.bool true) := hdp.2.1
            exact Eng.dg0 (Eng.gf rfl rfl rfl (show Eng.opv 65 u' (.tmp 28) = (.bool true) from e24)) rfl (hK _ _ (Below.refl _ _) rfl)
          · intro u' W hbW hkp hdp K hK
            have e24 : u' 28 = (.bool true) := hdp.2.2.1
            exact Eng.dg0 (Eng.gf rfl rfl rfl (show Eng.opv 65 u' (.tmp 28) = (.bool true) from e24)) rfl (hK _ _ (Below.refl _ _) rfl)
          · intro u' W hbW hkp hdp K hK
            have e24 : u' 28 = (.bool true) := hdp.1
            have e30 : u' 34 = undef := hdp.2.1
            refine Eng.dv rfl rfl ?_ (hK _ _ (Below.refl _ _) rfl)
            exact (Eng.x_pick (v := (.bool true)) rfl (show Eng.opv 65 u' (.tmp 28) = (.bool true) from e24) rfl (show Eng.opv 65 u' (.tmp 34) = undef from e30) rfl)
        · intro ud9 w9 hb9 hkp9 ⟨f9_0, f9_1, f9_2, f9_3, f9_4, f9_5, f9_6, f9_7, f9_8, f9_9, f9_10, f9_11, f9_12, f9_13, f9_14, f9_15, f9_16, f9_17, f9_18, f9_19, f9_20, f9_21, f9_22, f9_23, f9_24, f9_25, f9_26, f9_27, f9_28, f9_29, f9_30, f9_31, _⟩
          obtain rfl := Eng.collect (l := [(4, (.pointer (some ⟨w.heap.size, 0, none⟩))), (5, (.int .i64 h)), (6, (.bool true)), (7, (.bool false)), (8, (.bool false)), (9, (.pointer (some ⟨w.heap.size, 1, none⟩))), (10, (.int .i64 l)), (11, (.bool false)), (12, (.bool false)), (13, (.bool false)), (14, (.pointer (some ⟨w.heap.size, 1, none⟩))), (15, (.int .i64 l)), (16, (.bool true)), (17, (.bool true)), (18, (.bool true)), (19, undef), (20, undef), (21, undef), (22, (.bool true)), (23, (.bool true)), (24, undef), (25, undef), (26, undef), (27, (.bool true)), (28, (.bool true)), (29, undef), (30, undef), (31, undef), (32, undef), (33, undef), (34, undef), (35, (.bool true))]) hkp9 ⟨f9_0, f9_1, f9_2, f9_3, f9_4, f9_5, f9_6, f9_7, f9_8, f9_9, f9_10, f9_11, f9_12, f9_13, f9_14, f9_15, f9_16, f9_17, f9_18, f9_19, f9_20, f9_21, f9_22, f9_23, f9_24, f9_25, f9_26, f9_27, f9_28, f9_29, f9_30, f9_31, trivial⟩ rfl
          refine Eng.nil ?_
          refine hK4 _ _ ?_
          refine Eng.cond_t rfl ?_
          refine Eng.seqk fun K10 hK10 => ?_
          refine Eng.reg ?_
          refine Eng.sv rfl rfl (Eng.x_as (v := (.bool false)) rfl rfl) ?_
          refine Eng.nil ?_
          refine hK10 _ _ ?_
          refine Eng.rt ?_
          refine Eng.tr ?_
          refine Eng.ret (Eng.res1 (v1 := (.bool false)) rfl (Eng.rdt rfl)) ?_
          have hB0_2 : Below w.heap.size w w9 := (hb2).trans (hb9.mono (hb2).size)
          exact ⟨by rw [tvF (.inr (.inr (.inl ⟨hh, by have := (lh hh (l := l)); rcases h8 hh with rfl | rfl | rfl | rfl | rfl | rfl | rfl | rfl <;> omega⟩)))], hB0_2⟩
      · skip
        have hlh0 := lh0 hh (show 0 ≤ l by omega) (by omega)
        by_cases q3 : i < 0
        · skip
          refine Eng.draw 32 [fun vQ _ => vQ = (.pointer (some ⟨w.heap.size, 0, none⟩)), fun vQ _ => vQ = (.int .i64 h), fun vQ _ => vQ = (.bool true), fun vQ _ => vQ = (.bool false), fun vQ _ => vQ = (.bool false), fun vQ _ => vQ = (.pointer (some ⟨w.heap.size, 1, none⟩)), fun vQ _ => vQ = (.int .i64 l), fun vQ _ => vQ = (.bool false), fun vQ _ => vQ = (.bool false), fun vQ _ => vQ = (.bool false), fun vQ _ => vQ = (.pointer (some ⟨w.heap.size, 1, none⟩)), fun vQ _ => vQ = (.int .i64 l), fun vQ _ => vQ = (.bool false), fun vQ _ => vQ = (.bool false), fun vQ _ => vQ = (.bool false), fun vQ _ => vQ = (.pointer (some ⟨w.heap.size, 2, none⟩)), fun vQ _ => vQ = (.int .i64 i), fun vQ _ => vQ = (.bool true), fun vQ _ => vQ = (.bool true), fun vQ _ => vQ = (.bool true), fun vQ _ => vQ = undef, fun vQ _ => vQ = undef, fun vQ _ => vQ = undef, fun vQ _ => vQ = (.bool true), fun vQ _ => vQ = (.bool true), fun vQ _ => vQ = undef, fun vQ _ => vQ = undef, fun vQ _ => vQ = undef, fun vQ _ => vQ = undef, fun vQ _ => vQ = undef, fun vQ _ => vQ = undef, fun vQ _ => vQ = (.bool true)] (by kernel_rfl) (by kernel_rfl) (by kernel_rfl) (by kernel_rfl) rfl rfl ?_ ?_ ?_
          · exact ⟨fun _ _ _ h _ => h, fun _ _ _ h _ => h, fun _ _ _ h _ => h, fun _ _ _ h _ => h, fun _ _ _ h _ => h, fun _ _ _ h _ => h, fun _ _ _ h _ => h, fun _ _ _ h _ => h, fun _ _ _ h _ => h, fun _ _ _ h _ => h, fun _ _ _ h _ => h, fun _ _ _ h _ => h, fun _ _ _ h _ => h, fun _ _ _ h _ => h, fun _ _ _ h _ => h, fun _ _ _ h _ => h, fun _ _ _ h _ => h, fun _ _ _ h _ => h, fun _ _ _ h _ => h, fun _ _ _ h _ => h, fun _ _ _ h _ => h, fun _ _ _ h _ => h, fun _ _ _ h _ => h, fun _ _ _ h _ => h, fun _ _ _ h _ => h, fun _ _ _ h _ => h, fun _ _ _ h _ => h, fun _ _ _ h _ => h, fun _ _ _ h _ => h, fun _ _ _ h _ => h, fun _ _ _ h _ => h, fun _ _ _ h _ => h, trivial⟩
          · refine ⟨?_, ?_, ?_, ?_, ?_, ?_, ?_, ?_, ?_, ?_, ?_, ?_, ?_, ?_, ?_, ?_, ?_, ?_, ?_, ?_, ?_, ?_, ?_, ?_, ?_, ?_, ?_, ?_, ?_, ?_, ?_, ?_, trivial⟩
            · intro u' W hbW hkp hdp K hK
              refine Eng.dv rfl rfl ?_ (hK _ _ (Below.refl _ _) rfl)
              exact (Eng.x_fa (v := (.pointer (some ⟨w.heap.size, 0, none⟩))) rfl (show Eng.opv 65 u' (.tmp 1) = (.pointer (some ⟨w.heap.size, 0, none⟩)) from hkp 1 rfl) (by kernel_rfl))
            · intro u' W hbW hkp hdp K hK
              have e0 : u' 4 = (.pointer (some ⟨w.heap.size, 0, none⟩)) := hdp.1
              refine Eng.dv rfl rfl ?_ (hK _ _ (Below.refl _ _) rfl)
              exact (Eng.x_ld1 (v := (.int .i64 h)) rfl ag3_tr (show Eng.opv 65 u' (.tmp 4) = (.pointer (some ⟨w.heap.size, 0, none⟩)) from e0) ((((hk2).below hbW)).cell 0))
            · intro u' W hbW hkp hdp K hK
              have e1 : u' 5 = (.int .i64 h) := hdp.1
              refine Eng.dc (vs := #[(.int .i64 h)]) rfl ?_ (rheight_is hh _) ?_
              · exact Eng.xc (xs := #[(Go.Operand.tmp 5)]) (vl := [(.int .i64 h)]) rfl rfl (Eng.lc (show Eng.opv 65 u' (.tmp 5) = (.int .i64 h) from e1) rfl) en53_tr
              rintro _ W2 ⟨rfl, hb2⟩
              exact Eng.aft_v rfl (hK _ _ hb2 rfl)
            · intro u' W hbW hkp hdp K hK
              have e2 : u' 6 = (.bool true) := hdp.1
              refine Eng.dv rfl rfl ?_ (hK _ _ (Below.refl _ _) rfl)
              exact (Eng.x_not (v := (.bool false)) rfl (show Eng.opv 65 u' (.tmp 6) = (.bool true) from e2) rfl)
            · intro u' W hbW hkp hdp K hK
              have e3 : u' 7 = (.bool false) := hdp.1
              refine Eng.dv rfl rfl ?_ (hK _ _ (Below.refl _ _) rfl)
              exact (Eng.x_mv (v := (.bool false)) rfl (show Eng.opv 65 u' (.tmp 7) = (.bool false) from e3))
            · intro u' W hbW hkp hdp K hK
              have e4 : u' 8 = (.bool false) := hdp.1
              refine Eng.dv (Eng.gt rfl rfl rfl (show Eng.opv 65 u' (.tmp 8) = (.bool false) from e4)) rfl ?_ (hK _ _ (Below.refl _ _) rfl)
              exact (Eng.x_fa (v := (.pointer (some ⟨w.heap.size, 1, none⟩))) rfl (show Eng.opv 65 u' (.tmp 1) = (.pointer (some ⟨w.heap.size, 0, none⟩)) from hkp 1 rfl) (by kernel_rfl))
            · intro u' W hbW hkp hdp K hK
              have e4 : u' 8 = (.bool false) := hdp.2.1
              have e5 : u' 9 = (.pointer (some ⟨w.heap.size, 1, none⟩)) := hdp.1
              refine Eng.dv (Eng.gt rfl rfl rfl (show Eng.opv 65 u' (.tmp 8) = (.bool false) from e4)) rfl ?_ (hK _ _ (Below.refl _ _) rfl)
              exact (Eng.x_ld1 (v := (.int .i64 l)) rfl ag3_tr (show Eng.opv 65 u' (.tmp 9) = (.pointer (some ⟨w.heap.size, 1, none⟩)) from e5) ((((hk2).below hbW)).cell 1))
            · intro u' W hbW hkp hdp K hK
              have e4 : u' 8 = (.bool false) := hdp.2.1
              have e6 : u' 10 = (.int .i64 l) := hdp.1
              refine Eng.dv (Eng.gt rfl rfl rfl (show Eng.opv 65 u' (.tmp 8) = (.bool false) from e4)) rfl ?_ (hK _ _ (Below.refl _ _) rfl)
              exact (Eng.x_lt (r := false) rfl (show Eng.opv 65 u' (.tmp 10) = (.int .i64 l) from e6) rfl (decide_eq_false (by omega)))
            · intro u' W hbW hkp hdp K hK
              have e4 : u' 8 = (.bool false) := hdp.1
              have e7 : u' 11 = (.bool false) := hdp.2.1
              refine Eng.dv rfl rfl ?_ (hK _ _ (Below.refl _ _) rfl)
              exact (Eng.x_pick (v := (.bool false)) rfl (show Eng.opv 65 u' (.tmp 8) = (.bool false) from e4) rfl (show Eng.opv 65 u' (.tmp 11) = (.bool false) from e7) rfl)
            · intro u' W hbW hkp hdp K hK
              have e8 : u' 12 = (.bool false) := hdp.1
              refine Eng.dv rfl rfl ?_ (hK _ _ (Below.refl _ _) rfl)
              exact (Eng.x_mv (v := (.bool false)) rfl (show Eng.opv 65 u' (.tmp 12) = (.bool false) from e8))
            · intro u' W hbW hkp hdp K hK
              have e9 : u' 13 = (.bool false) := hdp.1
              refine Eng.dv (Eng.gt rfl rfl rfl (show Eng.opv 65 u' (.tmp 13) = (.bool false) from e9)) rfl ?_ (hK _ _ (Below.refl _ _) rfl)
              exact (Eng.x_fa (v := (.pointer (some ⟨w.heap.size, 1, none⟩))) rfl (show Eng.opv 65 u' (.tmp 1) = (.pointer (some ⟨w.heap.size, 0, none⟩)) from hkp 1 rfl) (by kernel_rfl))
            · intro u' W hbW hkp hdp K hK
              have e9 : u' 13 = (.bool false) := hdp.2.1
              have e10 : u' 14 = (.pointer (some ⟨w.heap.size, 1, none⟩)) := hdp.1
              refine Eng.dv (Eng.gt rfl rfl rfl (show Eng.opv 65 u' (.tmp 13) = (.bool false) from e9)) rfl ?_ (hK _ _ (Below.refl _ _) rfl)
              exact (Eng.x_ld1 (v := (.int .i64 l)) rfl ag3_tr (show Eng.opv 65 u' (.tmp 14) = (.pointer (some ⟨w.heap.size, 1, none⟩)) from e10) ((((hk2).below hbW)).cell 1))
            · intro u' W hbW hkp hdp K hK
              have e9 : u' 13 = (.bool false) := hdp.2.1
              have e11 : u' 15 = (.int .i64 l) := hdp.1
              refine Eng.dv (Eng.gt rfl rfl rfl (show Eng.opv 65 u' (.tmp 13) = (.bool false) from e9)) rfl ?_ (hK _ _ (Below.refl _ _) rfl)
              exact (Eng.x_gt (r := false) rfl (show Eng.opv 65 u' (.tmp 15) = (.int .i64 l) from e11) rfl (decide_eq_false (by omega)))
            · intro u' W hbW hkp hdp K hK
              have e9 : u' 13 = (.bool false) := hdp.1
              have e12 : u' 16 = (.bool false) := hdp.2.1
              refine Eng.dv rfl rfl ?_ (hK _ _ (Below.refl _ _) rfl)
              exact (Eng.x_pick (v := (.bool false)) rfl (show Eng.opv 65 u' (.tmp 13) = (.bool false) from e9) rfl (show Eng.opv 65 u' (.tmp 16) = (.bool false) from e12) rfl)
            · intro u' W hbW hkp hdp K hK
              have e13 : u' 17 = (.bool false) := hdp.1
              refine Eng.dv rfl rfl ?_ (hK _ _ (Below.refl _ _) rfl)
              exact (Eng.x_mv (v := (.bool false)) rfl (show Eng.opv 65 u' (.tmp 17) = (.bool false) from e13))
            · intro u' W hbW hkp hdp K hK
              have e14 : u' 18 = (.bool false) := hdp.1
              refine Eng.dv (Eng.gt rfl rfl rfl (show Eng.opv 65 u' (.tmp 18) = (.bool false) from e14)) rfl ?_ (hK _ _ (Below.refl _ _) rfl)
              exact (Eng.x_fa (v := (.pointer (some ⟨w.heap.size, 2, none⟩))) rfl (show Eng.opv 65 u' (.tmp 1) = (.pointer (some ⟨w.heap.size, 0, none⟩)) from hkp 1 rfl) (by kernel_rfl))
            · intro u' W hbW hkp hdp K hK
              have e14 : u' 18 = (.bool false) := hdp.2.1
              have e15 : u' 19 = (.pointer (some ⟨w.heap.size, 2, none⟩)) := hdp.1
              refine Eng.dv (Eng.gt rfl rfl rfl (show Eng.opv 65 u' (.tmp 18) = (.bool false) from e14)) rfl ?_ (hK _ _ (Below.refl _ _) rfl)
              exact (Eng.x_ld1 (v := (.int .i64 i)) rfl ag3_tr (show Eng.opv 65 u' (.tmp 19) = (.pointer (some ⟨w.heap.size, 2, none⟩)) from e15) ((((hk2).below hbW)).cell 2))
            · intro u' W hbW hkp hdp K hK
              have e14 : u' 18 = (.bool false) := hdp.2.1
              have e16 : u' 20 = (.int .i64 i) := hdp.1
              refine Eng.dv (Eng.gt rfl rfl rfl (show Eng.opv 65 u' (.tmp 18) = (.bool false) from e14)) rfl ?_ (hK _ _ (Below.refl _ _) rfl)
              exact (Eng.x_lt (r := true) rfl (show Eng.opv 65 u' (.tmp 20) = (.int .i64 i) from e16) rfl (decide_eq_true (by omega)))
            · intro u' W hbW hkp hdp K hK
              have e14 : u' 18 = (.bool false) := hdp.1
              have e17 : u' 21 = (.bool true) := hdp.2.1
              refine Eng.dv rfl rfl ?_ (hK _ _ (Below.refl _ _) rfl)
              exact (Eng.x_pick (v := (.bool true)) rfl (show Eng.opv 65 u' (.tmp 18) = (.bool false) from e14) rfl (show Eng.opv 65 u' (.tmp 21) = (.bool true) from e17) rfl)
            · intro u' W hbW hkp hdp K hK
              have e18 : u' 22 = (.bool true) := hdp.1
              refine Eng.dv rfl rfl ?_ (hK _ _ (Below.refl _ _) rfl)
              exact (Eng.x_mv (v := (.bool true)) rfl (show Eng.opv 65 u' (.tmp 22) = (.bool true) from e18))
            · intro u' W hbW hkp hdp K hK
              have e19 : u' 23 = (.bool true) := hdp.1
              exact Eng.dg0 (Eng.gf rfl rfl rfl (show Eng.opv 65 u' (.tmp 23) = (.bool true) from e19)) rfl (hK _ _ (Below.refl _ _) rfl)
            · intro u' W hbW hkp hdp K hK
              have e19 : u' 23 = (.bool true) := hdp.2.1
              exact Eng.dg0 (Eng.gf rfl rfl rfl (show Eng.opv 65 u' (.tmp 23) = (.bool true) from e19)) rfl (hK _ _ (Below.refl _ _) rfl)
            · intro u' W hbW hkp hdp K hK
              have e19 : u' 23 = (.bool true) := hdp.2.1
              exact Eng.dg0 (Eng.gf rfl rfl rfl (show Eng.opv 65 u' (.tmp 23) = (.bool true) from e19)) rfl (hK _ _ (Below.refl _ _) rfl)
            · intro u' W hbW hkp hdp K hK
              have e19 : u' 23 = (.bool true) := hdp.1
              have e22 : u' 26 = undef := hdp.2.1
              refine Eng.dv rfl rfl ?_ (hK _ _ (Below.refl _ _) rfl)
              exact (Eng.x_pick (v := (.bool true)) rfl (show Eng.opv 65 u' (.tmp 23) = (.bool true) from e19) rfl (show Eng.opv 65 u' (.tmp 26) = undef from e22) rfl)
            · intro u' W hbW hkp hdp K hK
              have e23 : u' 27 = (.bool true) := hdp.1
              refine Eng.dv rfl rfl ?_ (hK _ _ (Below.refl _ _) rfl)
              exact (Eng.x_mv (v := (.bool true)) rfl (show Eng.opv 65 u' (.tmp 27) = (.bool true) from e23))
            · intro u' W hbW hkp hdp K hK
              have e24 : u' 28 = (.bool true) := hdp.1
              exact Eng.dg0 (Eng.gf rfl rfl rfl (show Eng.opv 65 u' (.tmp 28) = (.bool true) from e24)) rfl (hK _ _ (Below.refl _ _) rfl)
            · intro u' W hbW hkp hdp K hK
              have e24 : u' 28 = (.bool true) := hdp.2.1
              exact Eng.dg0 (Eng.gf rfl rfl rfl (show Eng.opv 65 u' (.tmp 28) = (.bool true) from e24)) rfl (hK _ _ (Below.refl _ _) rfl)
            · intro u' W hbW hkp hdp K hK
              have e24 : u' 28 = (.bool true) := hdp.1
              exact Eng.dg0 (Eng.gf rfl rfl rfl (show Eng.opv 65 u' (.tmp 28) = (.bool true) from e24)) rfl (hK _ _ (Below.refl _ _) rfl)
            · intro u' W hbW hkp hdp K hK
              have e24 : u' 28 = (.bool true) := hdp.2.1
              exact Eng.dg0 (Eng.gf rfl rfl rfl (show Eng.opv 65 u' (.tmp 28) = (.bool true) from e24)) rfl (hK _ _ (Below.refl _ _) rfl)
            · intro u' W hbW hkp hdp K hK
              have e24 : u' 28 = (.bool true) := hdp.2.1
              exact Eng.dg0 (Eng.gf rfl rfl rfl (show Eng.opv 65 u' (.tmp 28) = (.bool true) from e24)) rfl (hK _ _ (Below.refl _ _) rfl)
            · intro u' W hbW hkp hdp K hK
              have e24 : u' 28 = (.bool true) := hdp.2.2.1
              exact Eng.dg0 (Eng.gf rfl rfl rfl (show Eng.opv 65 u' (.tmp 28) = (.bool true) from e24)) rfl (hK _ _ (Below.refl _ _) rfl)
            · intro u' W hbW hkp hdp K hK
              have e24 : u' 28 = (.bool true) := hdp.1
              have e30 : u' 34 = undef := hdp.2.1
              refine Eng.dv rfl rfl ?_ (hK _ _ (Below.refl _ _) rfl)
              exact (Eng.x_pick (v := (.bool true)) rfl (show Eng.opv 65 u' (.tmp 28) = (.bool true) from e24) rfl (show Eng.opv 65 u' (.tmp 34) = undef from e30) rfl)
          · intro ud11 w11 hb11 hkp11 ⟨f11_0, f11_1, f11_2, f11_3, f11_4, f11_5, f11_6, f11_7, f11_8, f11_9, f11_10, f11_11, f11_12, f11_13, f11_14, f11_15, f11_16, f11_17, f11_18, f11_19, f11_20, f11_21, f11_22, f11_23, f11_24, f11_25, f11_26, f11_27, f11_28, f11_29, f11_30, f11_31, _⟩
            obtain rfl := Eng.collect (l := [(4, (.pointer (some ⟨w.heap.size, 0, none⟩))), (5, (.int .i64 h)), (6, (.bool true)), (7, (.bool false)), (8, (.bool false)), (9, (.pointer (some ⟨w.heap.size, 1, none⟩))), (10, (.int .i64 l)), (11, (.bool false)), (12, (.bool false)), (13, (.bool false)), (14, (.pointer (some ⟨w.heap.size, 1, none⟩))), (15, (.int .i64 l)), (16, (.bool false)), (17, (.bool false)), (18, (.bool false)), (19, (.pointer (some ⟨w.heap.size, 2, none⟩))), (20, (.int .i64 i)), (21, (.bool true)), (22, (.bool true)), (23, (.bool true)), (24, undef), (25, undef), (26, undef), (27, (.bool true)), (28, (.bool true)), (29, undef), (30, undef), (31, undef), (32, undef), (33, undef), (34, undef), (35, (.bool true))]) hkp11 ⟨f11_0, f11_1, f11_2, f11_3, f11_4, f11_5, f11_6, f11_7, f11_8, f11_9, f11_10, f11_11, f11_12, f11_13, f11_14, f11_15, f11_16, f11_17, f11_18, f11_19, f11_20, f11_21, f11_22, f11_23, f11_24, f11_25, f11_26, f11_27, f11_28, f11_29, f11_30, f11_31, trivial⟩ rfl
            refine Eng.nil ?_
            refine hK4 _ _ ?_
            refine Eng.cond_t rfl ?_
            refine Eng.seqk fun K12 hK12 => ?_
            refine Eng.reg ?_
            refine Eng.sv rfl rfl (Eng.x_as (v := (.bool false)) rfl rfl) ?_
            refine Eng.nil ?_
            refine hK12 _ _ ?_
            refine Eng.rt ?_
            refine Eng.tr ?_
            refine Eng.ret (Eng.res1 (v1 := (.bool false)) rfl (Eng.rdt rfl)) ?_
            have hB0_2 : Below w.heap.size w w11 := (hb2).trans (hb11.mono (hb2).size)
            exact ⟨by rw [tvF (.inr (.inr (.inr (.inl q3))))], hB0_2⟩
        · skip
          by_cases q4 : w_ < 1
          · skip
            refine Eng.draw 32 [fun vQ _ => vQ = (.pointer (some ⟨w.heap.size, 0, none⟩)), fun vQ _ => vQ = (.int .i64 h), fun vQ _ => vQ = (.bool true), fun vQ _ => vQ = (.bool false), fun vQ _ => vQ = (.bool false), fun vQ _ => vQ = (.pointer (some ⟨w.heap.size, 1, none⟩)), fun vQ _ => vQ = (.int .i64 l), fun vQ _ => vQ = (.bool false), fun vQ _ => vQ = (.bool false), fun vQ _ => vQ = (.bool false), fun vQ _ => vQ = (.pointer (some ⟨w.heap.size, 1, none⟩)), fun vQ _ => vQ = (.int .i64 l), fun vQ _ => vQ = (.bool false), fun vQ _ => vQ = (.bool false), fun vQ _ => vQ = (.bool false), fun vQ _ => vQ = (.pointer (some ⟨w.heap.size, 2, none⟩)), fun vQ _ => vQ = (.int .i64 i), fun vQ _ => vQ = (.bool false), fun vQ _ => vQ = (.bool false), fun vQ _ => vQ = (.bool false), fun vQ _ => vQ = (.pointer (some ⟨w.heap.size, 3, none⟩)), fun vQ _ => vQ = (.int .i64 w_), fun vQ _ => vQ = (.bool true), fun vQ _ => vQ = (.bool true), fun vQ _ => vQ = (.bool true), fun vQ _ => vQ = undef, fun vQ _ => vQ = undef, fun vQ _ => vQ = undef, fun vQ _ => vQ = undef, fun vQ _ => vQ = undef, fun vQ _ => vQ = undef, fun vQ _ => vQ = (.bool true)] (by kernel_rfl) (by kernel_rfl) (by kernel_rfl) (by kernel_rfl) rfl rfl ?_ ?_ ?_
            · exact ⟨fun _ _ _ h _ => h, fun _ _ _ h _ => h, fun _ _ _ h _ => h, fun _ _ _ h _ => h, fun _ _ _ h _ => h, fun _ _ _ h _ => h, fun _ _ _ h _ => h, fun _ _ _ h _ => h, fun _ _ _ h _ => h, fun _ _ _ h _ => h, fun _ _ _ h _ => h, fun _ _ _ h _ => h, fun _ _ _ h _ => h, fun _ _ _ h _ => h, fun _ _ _ h _ => h, fun _ _ _ h _ => h, fun _ _ _ h _ => h, fun _ _ _ h _ => h, fun _ _ _ h _ => h, fun _ _ _ h _ => h, fun _ _ _ h _ => h, fun _ _ _ h _ => h, fun _ _ _ h _ => h, fun _ _ _ h _ => h, fun _ _ _ h _ => h, fun _ _ _ h _ => h, fun _ _ _ h _ => h, fun _ _ _ h _ => h, fun _ _ _ h _ => h, fun _ _ _ h _ => h, fun _ _ _ h _ => h, fun _ _ _ h _ => h, trivial⟩
            · refine ⟨?_, ?_, ?_, ?_, ?_, ?_, ?_, ?_, ?_, ?_, ?_, ?_, ?_, ?_, ?_, ?_, ?_, ?_, ?_, ?_, ?_, ?_, ?_, ?_, ?_, ?_, ?_, ?_, ?_, ?_, ?_, ?_, trivial⟩
              · intro u' W hbW hkp hdp K hK
                refine Eng.dv rfl rfl ?_ (hK _ _ (Below.refl _ _) rfl)
                exact (Eng.x_fa (v := (.pointer (some ⟨w.heap.size, 0, none⟩))) rfl (show Eng.opv 65 u' (.tmp 1) = (.pointer (some ⟨w.heap.size, 0, none⟩)) from hkp 1 rfl) (by kernel_rfl))
              · intro u' W hbW hkp hdp K hK
                have e0 : u' 4 = (.pointer (some ⟨w.heap.size, 0, none⟩)) := hdp.1
                refine Eng.dv rfl rfl ?_ (hK _ _ (Below.refl _ _) rfl)
                exact (Eng.x_ld1 (v := (.int .i64 h)) rfl ag3_tr (show Eng.opv 65 u' (.tmp 4) = (.pointer (some ⟨w.heap.size, 0, none⟩)) from e0) ((((hk2).below hbW)).cell 0))
              · intro u' W hbW hkp hdp K hK
                have e1 : u' 5 = (.int .i64 h) := hdp.1
                refine Eng.dc (vs := #[(.int .i64 h)]) rfl ?_ (rheight_is hh _) ?_
                · exact Eng.xc (xs := #[(Go.Operand.tmp 5)]) (vl := [(.int .i64 h)]) rfl rfl (Eng.lc (show Eng.opv 65 u' (.tmp 5) = (.int .i64 h) from e1) rfl) en53_tr
                rintro _ W2 ⟨rfl, hb2⟩
                exact Eng.aft_v rfl (hK _ _ hb2 rfl)
              · intro u' W hbW hkp hdp K hK
                have e2 : u' 6 = (.bool true) := hdp.1
                refine Eng.dv rfl rfl ?_ (hK _ _ (Below.refl _ _) rfl)
                exact (Eng.x_not (v := (.bool false)) rfl (show Eng.opv 65 u' (.tmp 6) = (.bool true) from e2) rfl)
              · intro u' W hbW hkp hdp K hK
                have e3 : u' 7 = (.bool false) := hdp.1
                refine Eng.dv rfl rfl ?_ (hK _ _ (Below.refl _ _) rfl)
                exact (Eng.x_mv (v := (.bool false)) rfl (show Eng.opv 65 u' (.tmp 7) = (.bool false) from e3))
              · intro u' W hbW hkp hdp K hK
                have e4 : u' 8 = (.bool false) := hdp.1
                refine Eng.dv (Eng.gt rfl rfl rfl (show Eng.opv 65 u' (.tmp 8) = (.bool false) from e4)) rfl ?_ (hK _ _ (Below.refl _ _) rfl)
                exact (Eng.x_fa (v := (.pointer (some ⟨w.heap.size, 1, none⟩))) rfl (show Eng.opv 65 u' (.tmp 1) = (.pointer (some ⟨w.heap.size, 0, none⟩)) from hkp 1 rfl) (by kernel_rfl))
              · intro u' W hbW hkp hdp K hK
                have e4 : u' 8 = (.bool false) := hdp.2.1
                have e5 : u' 9 = (.pointer (some ⟨w.heap.size, 1, none⟩)) := hdp.1
                refine Eng.dv (Eng.gt rfl rfl rfl (show Eng.opv 65 u' (.tmp 8) = (.bool false) from e4)) rfl ?_ (hK _ _ (Below.refl _ _) rfl)
                exact (Eng.x_ld1 (v := (.int .i64 l)) rfl ag3_tr (show Eng.opv 65 u' (.tmp 9) = (.pointer (some ⟨w.heap.size, 1, none⟩)) from e5) ((((hk2).below hbW)).cell 1))
              · intro u' W hbW hkp hdp K hK
                have e4 : u' 8 = (.bool false) := hdp.2.1
                have e6 : u' 10 = (.int .i64 l) := hdp.1
                refine Eng.dv (Eng.gt rfl rfl rfl (show Eng.opv 65 u' (.tmp 8) = (.bool false) from e4)) rfl ?_ (hK _ _ (Below.refl _ _) rfl)
                exact (Eng.x_lt (r := false) rfl (show Eng.opv 65 u' (.tmp 10) = (.int .i64 l) from e6) rfl (decide_eq_false (by omega)))
              · intro u' W hbW hkp hdp K hK
                have e4 : u' 8 = (.bool false) := hdp.1
                have e7 : u' 11 = (.bool false) := hdp.2.1
                refine Eng.dv rfl rfl ?_ (hK _ _ (Below.refl _ _) rfl)
                exact (Eng.x_pick (v := (.bool false)) rfl (show Eng.opv 65 u' (.tmp 8) = (.bool false) from e4) rfl (show Eng.opv 65 u' (.tmp 11) = (.bool false) from e7) rfl)
              · intro u' W hbW hkp hdp K hK
                have e8 : u' 12 = (.bool false) := hdp.1
                refine Eng.dv rfl rfl ?_ (hK _ _ (Below.refl _ _) rfl)
                exact (Eng.x_mv (v := (.bool false)) rfl (show Eng.opv 65 u' (.tmp 12) = (.bool false) from e8))
              · intro u' W hbW hkp hdp K hK
                have e9 : u' 13 = (.bool false) := hdp.1
                refine Eng.dv (Eng.gt rfl rfl rfl (show Eng.opv 65 u' (.tmp 13) = (.bool false) from e9)) rfl ?_ (hK _ _ (Below.refl _ _) rfl)
                exact (Eng.x_fa (v := (.pointer (some ⟨w.heap.size, 1, none⟩))) rfl (show Eng.opv 65 u' (.tmp 1) = (.pointer (some ⟨w.heap.size, 0, none⟩)) from hkp 1 rfl) (by kernel_rfl))
              · intro u' W hbW hkp hdp K hK
                have e9 : u' 13 = (.bool false) := hdp.2.1
                have e10 : u' 14 = (.pointer (some ⟨w.heap.size, 1, none⟩)) := hdp.1
                refine Eng.dv (Eng.gt rfl rfl rfl (show Eng.opv 65 u' (.tmp 13) = (.bool false) from e9)) rfl ?_ (hK _ _ (Below.refl _ _) rfl)
                exact (Eng.x_ld1 (v := (.int .i64 l)) rfl ag3_tr (show Eng.opv 65 u' (.tmp 14) = (.pointer (some ⟨w.heap.size, 1, none⟩)) from e10) ((((hk2).below hbW)).cell 1))
              · intro u' W hbW hkp hdp K hK
                have e9 : u' 13 = (.bool false) := hdp.2.1
                have e11 : u' 15 = (.int .i64 l) := hdp.1
                refine Eng.dv (Eng.gt rfl rfl rfl (show Eng.opv 65 u' (.tmp 13) = (.bool false) from e9)) rfl ?_ (hK _ _ (Below.refl _ _) rfl)
                exact (Eng.x_gt (r := false) rfl (show Eng.opv 65 u' (.tmp 15) = (.int .i64 l) from e11) rfl (decide_eq_false (by omega)))
              · intro u' W hbW hkp hdp K hK
                have e9 : u' 13 = (.bool false) := hdp.1
                have e12 : u' 16 = (.bool false) := hdp.2.1
                refine Eng.dv rfl rfl ?_ (hK _ _ (Below.refl _ _) rfl)
                exact (Eng.x_pick (v := (.bool false)) rfl (show Eng.opv 65 u' (.tmp 13) = (.bool false) from e9) rfl (show Eng.opv 65 u' (.tmp 16) = (.bool false) from e12) rfl)
              · intro u' W hbW hkp hdp K hK
                have e13 : u' 17 = (.bool false) := hdp.1
                refine Eng.dv rfl rfl ?_ (hK _ _ (Below.refl _ _) rfl)
                exact (Eng.x_mv (v := (.bool false)) rfl (show Eng.opv 65 u' (.tmp 17) = (.bool false) from e13))
              · intro u' W hbW hkp hdp K hK
                have e14 : u' 18 = (.bool false) := hdp.1
                refine Eng.dv (Eng.gt rfl rfl rfl (show Eng.opv 65 u' (.tmp 18) = (.bool false) from e14)) rfl ?_ (hK _ _ (Below.refl _ _) rfl)
                exact (Eng.x_fa (v := (.pointer (some ⟨w.heap.size, 2, none⟩))) rfl (show Eng.opv 65 u' (.tmp 1) = (.pointer (some ⟨w.heap.size, 0, none⟩)) from hkp 1 rfl) (by kernel_rfl))
              · intro u' W hbW hkp hdp K hK
                have e14 : u' 18 = (.bool false) := hdp.2.1
                have e15 : u' 19 = (.pointer (some ⟨w.heap.size, 2, none⟩)) := hdp.1
                refine Eng.dv (Eng.gt rfl rfl rfl (show Eng.opv 65 u' (.tmp 18) = (.bool false) from e14)) rfl ?_ (hK _ _ (Below.refl _ _) rfl)
                exact (Eng.x_ld1 (v := (.int .i64 i)) rfl ag3_tr (show Eng.opv 65 u' (.tmp 19) = (.pointer (some ⟨w.heap.size, 2, none⟩)) from e15) ((((hk2).below hbW)).cell 2))
              · intro u' W hbW hkp hdp K hK
                have e14 : u' 18 = (.bool false) := hdp.2.1
                have e16 : u' 20 = (.int .i64 i) := hdp.1
                refine Eng.dv (Eng.gt rfl rfl rfl (show Eng.opv 65 u' (.tmp 18) = (.bool false) from e14)) rfl ?_ (hK _ _ (Below.refl _ _) rfl)
                exact (Eng.x_lt (r := false) rfl (show Eng.opv 65 u' (.tmp 20) = (.int .i64 i) from e16) rfl (decide_eq_false (by omega)))
              · intro u' W hbW hkp hdp K hK
                have e14 : u' 18 = (.bool false) := hdp.1
                have e17 : u' 21 = (.bool false) := hdp.2.1
                refine Eng.dv rfl rfl ?_ (hK _ _ (Below.refl _ _) rfl)
                exact (Eng.x_pick (v := (.bool false)) rfl (show Eng.opv 65 u' (.tmp 18) = (.bool false) from e14) rfl (show Eng.opv 65 u' (.tmp 21) = (.bool false) from e17) rfl)
              · intro u' W hbW hkp hdp K hK
                have e18 : u' 22 = (.bool false) := hdp.1
                refine Eng.dv rfl rfl ?_ (hK _ _ (Below.refl _ _) rfl)
                exact (Eng.x_mv (v := (.bool false)) rfl (show Eng.opv 65 u' (.tmp 22) = (.bool false) from e18))
              · intro u' W hbW hkp hdp K hK
                have e19 : u' 23 = (.bool false) := hdp.1
                refine Eng.dv (Eng.gt rfl rfl rfl (show Eng.opv 65 u' (.tmp 23) = (.bool false) from e19)) rfl ?_ (hK _ _ (Below.refl _ _) rfl)
                exact (Eng.x_fa (v := (.pointer (some ⟨w.heap.size, 3, none⟩))) rfl (show Eng.opv 65 u' (.tmp 1) = (.pointer (some ⟨w.heap.size, 0, none⟩)) from hkp 1 rfl) (by kernel_rfl))
              · intro u' W hbW hkp hdp K hK
                have e19 : u' 23 = (.bool false) := hdp.2.1
                have e20 : u' 24 = (.pointer (some ⟨w.heap.size, 3, none⟩)) := hdp.1
                refine Eng.dv (Eng.gt rfl rfl rfl (show Eng.opv 65 u' (.tmp 23) = (.bool false) from e19)) rfl ?_ (hK _ _ (Below.refl _ _) rfl)
                exact (Eng.x_ld1 (v := (.int .i64 w_)) rfl ag3_tr (show Eng.opv 65 u' (.tmp 24) = (.pointer (some ⟨w.heap.size, 3, none⟩)) from e20) ((((hk2).below hbW)).cell 3))
              · intro u' W hbW hkp hdp K hK
                have e19 : u' 23 = (.bool false) := hdp.2.1
                have e21 : u' 25 = (.int .i64 w_) := hdp.1
                refine Eng.dv (Eng.gt rfl rfl rfl (show Eng.opv 65 u' (.tmp 23) = (.bool false) from e19)) rfl ?_ (hK _ _ (Below.refl _ _) rfl)
                exact (Eng.x_lt (r := true) rfl (show Eng.opv 65 u' (.tmp 25) = (.int .i64 w_) from e21) rfl (decide_eq_true (by omega)))
              · intro u' W hbW hkp hdp K hK
                have e19 : u' 23 = (.bool false) := hdp.1
                have e22 : u' 26 = (.bool true) := hdp.2.1
                refine Eng.dv rfl rfl ?_ (hK _ _ (Below.refl _ _) rfl)
                exact (Eng.x_pick (v := (.bool true)) rfl (show Eng.opv 65 u' (.tmp 23) = (.bool false) from e19) rfl (show Eng.opv 65 u' (.tmp 26) = (.bool true) from e22) rfl)
              · intro u' W hbW hkp hdp K hK
                have e23 : u' 27 = (.bool true) := hdp.1
                refine Eng.dv rfl rfl ?_ (hK _ _ (Below.refl _ _) rfl)
                exact (Eng.x_mv (v := (.bool true)) rfl (show Eng.opv 65 u' (.tmp 27) = (.bool true) from e23))
              · intro u' W hbW hkp hdp K hK
                have e24 : u' 28 = (.bool true) := hdp.1
                exact Eng.dg0 (Eng.gf rfl rfl rfl (show Eng.opv 65 u' (.tmp 28) = (.bool true) from e24)) rfl (hK _ _ (Below.refl _ _) rfl)
              · intro u' W hbW hkp hdp K hK
                have e24 : u' 28 = (.bool true) := hdp.2.1
                exact Eng.dg0 (Eng.gf rfl rfl rfl (show Eng.opv 65 u' (.tmp 28) = (.bool true) from e24)) rfl (hK _ _ (Below.refl _ _) rfl)
              · intro u' W hbW hkp hdp K hK
                have e24 : u' 28 = (.bool true) := hdp.1
                exact Eng.dg0 (Eng.gf rfl rfl rfl (show Eng.opv 65 u' (.tmp 28) = (.bool true) from e24)) rfl (hK _ _ (Below.refl _ _) rfl)
              · intro u' W hbW hkp hdp K hK
                have e24 : u' 28 = (.bool true) := hdp.2.1
                exact Eng.dg0 (Eng.gf rfl rfl rfl (show Eng.opv 65 u' (.tmp 28) = (.bool true) from e24)) rfl (hK _ _ (Below.refl _ _) rfl)
              · intro u' W hbW hkp hdp K hK
                have e24 : u' 28 = (.bool true) := hdp.2.1
                exact Eng.dg0 (Eng.gf rfl rfl rfl (show Eng.opv 65 u' (.tmp 28) = (.bool true) from e24)) rfl (hK _ _ (Below.refl _ _) rfl)
              · intro u' W hbW hkp hdp K hK
                have e24 : u' 28 = (.bool true) := hdp.2.2.1
                exact Eng.dg0 (Eng.gf rfl rfl rfl (show Eng.opv 65 u' (.tmp 28) = (.bool true) from e24)) rfl (hK _ _ (Below.refl _ _) rfl)
              · intro u' W hbW hkp hdp K hK
                have e24 : u' 28 = (.bool true) := hdp.1
                have e30 : u' 34 = undef := hdp.2.1
                refine Eng.dv rfl rfl ?_ (hK _ _ (Below.refl _ _) rfl)
                exact (Eng.x_pick (v := (.bool true)) rfl (show Eng.opv 65 u' (.tmp 28) = (.bool true) from e24) rfl (show Eng.opv 65 u' (.tmp 34) = undef from e30) rfl)
            · intro ud13 w13 hb13 hkp13 ⟨f13_0, f13_1, f13_2, f13_3, f13_4, f13_5, f13_6, f13_7, f13_8, f13_9, f13_10, f13_11, f13_12, f13_13, f13_14, f13_15, f13_16, f13_17, f13_18, f13_19, f13_20, f13_21, f13_22, f13_23, f13_24, f13_25, f13_26, f13_27, f13_28, f13_29, f13_30, f13_31, _⟩
              obtain rfl := Eng.collect (l := [(4, (.pointer (some ⟨w.heap.size, 0, none⟩))), (5, (.int .i64 h)), (6, (.bool true)), (7, (.bool false)), (8, (.bool false)), (9, (.pointer (some ⟨w.heap.size, 1, none⟩))), (10, (.int .i64 l)), (11, (.bool false)), (12, (.bool false)), (13, (.bool false)), (14, (.pointer (some ⟨w.heap.size, 1, none⟩))), (15, (.int .i64 l)), (16, (.bool false)), (17, (.bool false)), (18, (.bool false)), (19, (.pointer (some ⟨w.heap.size, 2, none⟩))), (20, (.int .i64 i)), (21, (.bool false)), (22, (.bool false)), (23, (.bool false)), (24, (.pointer (some ⟨w.heap.size, 3, none⟩))), (25, (.int .i64 w_)), (26, (.bool true)), (27, (.bool true)), (28, (.bool true)), (29, undef), (30, undef), (31, undef), (32, undef), (33, undef), (34, undef), (35, (.bool true))]) hkp13 ⟨f13_0, f13_1, f13_2, f13_3, f13_4, f13_5, f13_6, f13_7, f13_8, f13_9, f13_10, f13_11, f13_12, f13_13, f13_14, f13_15, f13_16, f13_17, f13_18, f13_19, f13_20, f13_21, f13_22, f13_23, f13_24, f13_25, f13_26, f13_27, f13_28, f13_29, f13_30, f13_31, trivial⟩ rfl
              refine Eng.nil ?_
              refine hK4 _ _ ?_
              refine Eng.cond_t rfl ?_
              refine Eng.seqk fun K14 hK14 => ?_
              refine Eng.reg ?_
              refine Eng.sv rfl rfl (Eng.x_as (v := (.bool false)) rfl rfl) ?_
              refine Eng.nil ?_
              refine hK14 _ _ ?_
              refine Eng.rt ?_
              refine Eng.tr ?_
              refine Eng.ret (Eng.res1 (v1 := (.bool false)) rfl (Eng.rdt rfl)) ?_
              have hB0_2 : Below w.heap.size w w13 := (hb2).trans (hb13.mono (hb2).size)
              exact ⟨by rw [tvF (.inr (.inr (.inr (.inr (.inr (.inl q4))))))], hB0_2⟩
          · skip
            by_cases q5 : ((2 ^ h.toNat : Nat) : Int) < w_
            · skip
              refine Eng.draw 32 [fun vQ _ => vQ = (.pointer (some ⟨w.heap.size, 0, none⟩)), fun vQ _ => vQ = (.int .i64 h), fun vQ _ => vQ = (.bool true), fun vQ _ => vQ = (.bool false), fun vQ _ => vQ = (.bool false), fun vQ _ => vQ = (.pointer (some ⟨w.heap.size, 1, none⟩)), fun vQ _ => vQ = (.int .i64 l), fun vQ _ => vQ = (.bool false), fun vQ _ => vQ = (.bool false), fun vQ _ => vQ = (.bool false), fun vQ _ => vQ = (.pointer (some ⟨w.heap.size, 1, none⟩)), fun vQ _ => vQ = (.int .i64 l), fun vQ _ => vQ = (.bool false), fun vQ _ => vQ = (.bool false), fun vQ _ => vQ = (.bool false), fun vQ _ => vQ = (.pointer (some ⟨w.heap.size, 2, none⟩)), fun vQ _ => vQ = (.int .i64 i), fun vQ _ => vQ = (.bool false), fun vQ _ => vQ = (.bool false), fun vQ _ => vQ = (.bool false), fun vQ _ => vQ = (.pointer (some ⟨w.heap.size, 3, none⟩)), fun vQ _ => vQ = (.int .i64 w_), fun vQ _ => vQ = (.bool false), fun vQ _ => vQ = (.bool false), fun vQ _ => vQ = (.bool false), fun vQ _ => vQ = (.pointer (some ⟨w.heap.size, 3, none⟩)), fun vQ _ => vQ = (.int .i64 w_), fun vQ _ => vQ = (.pointer (some ⟨w.heap.size, 0, none⟩)), fun vQ _ => vQ = (.int .i64 h), fun vQ _ => vQ = (.int .i64 ((2 ^ h.toNat : Nat) : Int)), fun vQ _ => vQ = (.bool true), fun vQ _ => vQ = (.bool true)] (by kernel_rfl) (by kernel_rfl) (by kernel_rfl) (by kernel_rfl) rfl rfl ?_ ?_ ?_
              · exact ⟨fun _ _ _ h _ => h, fun _ _ _ h _ => h, fun _ _ _ h _ => h, fun _ _ _ h _ => h, fun _ _ _ h _ => h, fun _ _ _ h _ => h, fun _ _ _ h _ => h, fun _ _ _ h _ => h, fun _ _ _ h _ => h, fun _ _ _ h _ => h, fun _ _ _ h _ => h, fun _ _ _ h _ => h, fun _ _ _ h _ => h, fun _ _ _ h _ => h, fun _ _ _ h _ => h, fun _ _ _ h _ => h, fun _ _ _ h _ => h, fun _ _ _ h _ => h, fun _ _ _ h _ => h, fun _ _ _ h _ => h, fun _ _ _ h _ => h, fun _ _ _ h _ => h, fun _ _ _ h _ => h, fun _ _ _ h _ => h, fun _ _ _ h _ => h, fun _ _ _ h _ => h, fun _ _ _ h _ => h, fun _ _ _ h _ => h, fun _ _ _ h _ => h, fun _ _ _ h _ => h, fun _ _ _ h _ => h, fun _ _ _ h _ => h, trivial⟩
              · refine ⟨?_, ?_, ?_, ?_, ?_, ?_, ?_, ?_, ?_, ?_, ?_, ?_, ?_, ?_, ?_, ?_, ?_, ?_, ?_, ?_, ?_, ?_, ?_, ?_, ?_, ?_, ?_, ?_, ?_, ?_, ?_, ?_, trivial⟩
                · intro u' W hbW hkp hdp K hK
                  refine Eng.dv rfl rfl ?_ (hK _ _ (Below.refl _ _) rfl)
                  exact (Eng.x_fa (v := (.pointer (some ⟨w.heap.size, 0, none⟩))) rfl (show Eng.opv 65 u' (.tmp 1) = (.pointer (some ⟨w.heap.size, 0, none⟩)) from hkp 1 rfl) (by kernel_rfl))
                · intro u' W hbW hkp hdp K hK
                  have e0 : u' 4 = (.pointer (some ⟨w.heap.size, 0, none⟩)) := hdp.1
                  refine Eng.dv rfl rfl ?_ (hK _ _ (Below.refl _ _) rfl)
                  exact (Eng.x_ld1 (v := (.int .i64 h)) rfl ag3_tr (show Eng.opv 65 u' (.tmp 4) = (.pointer (some ⟨w.heap.size, 0, none⟩)) from e0) ((((hk2).below hbW)).cell 0))
                · intro u' W hbW hkp hdp K hK
                  have e1 : u' 5 = (.int .i64 h) := hdp.1
                  refine Eng.dc (vs := #[(.int .i64 h)]) rfl ?_ (rheight_is hh _) ?_
                  · exact Eng.xc (xs := #[(Go.Operand.tmp 5)]) (vl := [(.int .i64 h)]) rfl rfl (Eng.lc (show Eng.opv 65 u' (.tmp 5) = (.int .i64 h) from e1) rfl) en53_tr
                  rintro _ W2 ⟨rfl, hb2⟩
                  exact Eng.aft_v rfl (hK _ _ hb2 rfl)
                · intro u' W hbW hkp hdp K hK
                  have e2 : u' 6 = (.bool true) := hdp.1
                  refine Eng.dv rfl rfl ?_ (hK _ _ (Below.refl _ _) rfl)
                  exact (Eng.x_not (v := (.bool false)) rfl (show Eng.opv 65 u' (.tmp 6) = (.bool true) from e2) rfl)
                · intro u' W hbW hkp hdp K hK
                  have e3 : u' 7 = (.bool false) := hdp.1
                  refine Eng.dv rfl rfl ?_ (hK _ _ (Below.refl _ _) rfl)
                  exact (Eng.x_mv (v := (.bool false)) rfl (show Eng.opv 65 u' (.tmp 7) = (.bool false) from e3))
                · intro u' W hbW hkp hdp K hK
                  have e4 : u' 8 = (.bool false) := hdp.1
                  refine Eng.dv (Eng.gt rfl rfl rfl (show Eng.opv 65 u' (.tmp 8) = (.bool false) from e4)) rfl ?_ (hK _ _ (Below.refl _ _) rfl)
                  exact (Eng.x_fa (v := (.pointer (some ⟨w.heap.size, 1, none⟩))) rfl (show Eng.opv 65 u' (.tmp 1) = (.pointer (some ⟨w.heap.size, 0, none⟩)) from hkp 1 rfl) (by kernel_rfl))
                · intro u' W hbW hkp hdp K hK
                  have e4 : u' 8 = (.bool false) := hdp.2.1
                  have e5 : u' 9 = (.pointer (some ⟨w.heap.size, 1, none⟩)) := hdp.1
                  refine Eng.dv (Eng.gt rfl rfl rfl (show Eng.opv 65 u' (.tmp 8) = (.bool false) from e4)) rfl ?_ (hK _ _ (Below.refl _ _) rfl)
                  exact (Eng.x_ld1 (v := (.int .i64 l)) rfl ag3_tr (show Eng.opv 65 u' (.tmp 9) = (.pointer (some ⟨w.heap.size, 1, none⟩)) from e5) ((((hk2).below hbW)).cell 1))
                · intro u' W hbW hkp hdp K hK
                  have e4 : u' 8 = (.bool false) := hdp.2.1
                  have e6 : u' 10 = (.int .i64 l) := hdp.1
                  refine Eng.dv (Eng.gt rfl rfl rfl (show Eng.opv 65 u' (.tmp 8) = (.bool false) from e4)) rfl ?_ (hK _ _ (Below.refl _ _) rfl)
                  exact (Eng.x_lt (r := false) rfl (show Eng.opv 65 u' (.tmp 10) = (.int .i64 l) from e6) rfl (decide_eq_false (by omega)))
                · intro u' W hbW hkp hdp K hK
                  have e4 : u' 8 = (.bool false) := hdp.1
                  have e7 : u' 11 = (.bool false) := hdp.2.1
                  refine Eng.dv rfl rfl ?_ (hK _ _ (Below.refl _ _) rfl)
                  exact (Eng.x_pick (v := (.bool false)) rfl (show Eng.opv 65 u' (.tmp 8) = (.bool false) from e4) rfl (show Eng.opv 65 u' (.tmp 11) = (.bool false) from e7) rfl)
                · intro u' W hbW hkp hdp K hK
                  have e8 : u' 12 = (.bool false) := hdp.1
                  refine Eng.dv rfl rfl ?_ (hK _ _ (Below.refl _ _) rfl)
                  exact (Eng.x_mv (v := (.bool false)) rfl (show Eng.opv 65 u' (.tmp 12) = (.bool false) from e8))
                · intro u' W hbW hkp hdp K hK
                  have e9 : u' 13 = (.bool false) := hdp.1
                  refine Eng.dv (Eng.gt rfl rfl rfl (show Eng.opv 65 u' (.tmp 13) = (.bool false) from e9)) rfl ?_ (hK _ _ (Below.refl _ _) rfl)
                  exact (Eng.x_fa (v := (.pointer (some ⟨w.heap.size, 1, none⟩))) rfl (show Eng.opv 65 u' (.tmp 1) = (.pointer (some ⟨w.heap.size, 0, none⟩)) from hkp 1 rfl) (by kernel_rfl))
                · intro u' W hbW hkp hdp K hK
                  have e9 : u' 13 = (.bool false) := hdp.2.1
                  have e10 : u' 14 = (.pointer (some ⟨w.heap.size, 1, none⟩)) := hdp.1
                  refine Eng.dv (Eng.gt rfl rfl rfl (show Eng.opv 65 u' (.tmp 13) = (.bool false) from e9)) rfl ?_ (hK _ _ (Below.refl _ _) rfl)
                  exact (Eng.x_ld1 (v := (.int .i64 l)) rfl ag3_tr (show Eng.opv 65 u' (.tmp 14) = (.pointer (some ⟨w.heap.size, 1, none⟩)) from e10) ((((hk2).below hbW)).cell 1))
                · intro u' W hbW hkp hdp K hK
                  have e9 : u' 13 = (.bool false) := hdp.2.1
                  have e11 : u' 15 = (.int .i64 l) := hdp.1
                  refine Eng.dv (Eng.gt rfl rfl rfl (show Eng.opv 65 u' (.tmp 13) = (.bool false) from e9)) rfl ?_ (hK _ _ (Below.refl _ _) rfl)
                  exact (Eng.x_gt (r := false) rfl (show Eng.opv 65 u' (.tmp 15) = (.int .i64 l) from e11) rfl (decide_eq_false (by omega)))
                · intro u' W hbW hkp hdp K hK
                  have e9 : u' 13 = (.bool false) := hdp.1
                  have e12 : u' 16 = (.bool false) := hdp.2.1
                  refine Eng.dv rfl rfl ?_ (hK _ _ (Below.refl _ _) rfl)
                  exact (Eng.x_pick (v := (.bool false)) rfl (show Eng.opv 65 u' (.tmp 13) = (.bool false) from e9) rfl (show Eng.opv 65 u' (.tmp 16) = (.bool false) from e12) rfl)
                · intro u' W hbW hkp hdp K hK
                  have e13 : u' 17 = (.bool false) := hdp.1
                  refine Eng.dv rfl rfl ?_ (hK _ _ (Below.refl _ _) rfl)
                  exact (Eng.x_mv (v := (.bool false)) rfl (show Eng.opv 65 u' (.tmp 17) = (.bool false) from e13))
                · intro u' W hbW hkp hdp K hK
                  have e14 : u' 18 = (.bool false) := hdp.1
                  refine Eng.dv (Eng.gt rfl rfl rfl (show Eng.opv 65 u' (.tmp 18) = (.bool false) from e14)) rfl ?_ (hK _ _ (Below.refl _ _) rfl)
                  exact (Eng.x_fa (v := (.pointer (some ⟨w.heap.size, 2, none⟩))) rfl (show Eng.opv 65 u' (.tmp 1) = (.pointer (some ⟨w.heap.size, 0, none⟩)) from hkp 1 rfl) (by kernel_rfl))
                · intro u' W hbW hkp hdp K hK
                  have e14 : u' 18 = (.bool false) := hdp.2.1
                  have e15 : u' 19 = (.pointer (some ⟨w.heap.size, 2, none⟩)) := hdp.1
                  refine Eng.dv (Eng.gt rfl rfl rfl (show Eng.opv 65 u' (.tmp 18) = (.bool false) from e14)) rfl ?_ (hK _ _ (Below.refl _ _) rfl)
                  exact (Eng.x_ld1 (v := (.int .i64 i)) rfl ag3_tr (show Eng.opv 65 u' (.tmp 19) = (.pointer (some ⟨w.heap.size, 2, none⟩)) from e15) ((((hk2).below hbW)).cell 2))
                · intro u' W hbW hkp hdp K hK
                  have e14 : u' 18 = (.bool false) := hdp.2.1
                  have e16 : u' 20 = (.int .i64 i) := hdp.1
                  refine Eng.dv (Eng.gt rfl rfl rfl (show Eng.opv 65 u' (.tmp 18) = (.bool false) from e14)) rfl ?_ (hK _ _ (Below.refl _ _) rfl)
                  exact (Eng.x_lt (r := false) rfl (show Eng.opv 65 u' (.tmp 20) = (.int .i64 i) from e16) rfl (decide_eq_false (by omega)))
                · intro u' W hbW hkp hdp K hK
                  have e14 : u' 18 = (.bool false) := hdp.1
                  have e17 : u' 21 = (.bool false) := hdp.2.1
                  refine Eng.dv rfl rfl ?_ (hK _ _ (Below.refl _ _) rfl)
                  exact (Eng.x_pick (v := (.bool false)) rfl (show Eng.opv 65 u' (.tmp 18) = (.bool false) from e14) rfl (show Eng.opv 65 u' (.tmp 21) = (.bool false) from e17) rfl)
                · intro u' W hbW hkp hdp K hK
                  have e18 : u' 22 = (.bool false) := hdp.1
                  refine Eng.dv rfl rfl ?_ (hK _ _ (Below.refl _ _) rfl)
                  exact (Eng.x_mv (v := (.bool false)) rfl (show Eng.opv 65 u' (.tmp 22) = (.bool false) from e18))
                · intro u' W hbW hkp hdp K hK
                  have e19 : u' 23 = (.bool false) := hdp.1
                  refine Eng.dv (Eng.gt rfl rfl rfl (show Eng.opv 65 u' (.tmp 23) = (.bool false) from e19)) rfl ?_ (hK _ _ (Below.refl _ _) rfl)
                  exact (Eng.x_fa (v := (.pointer (some ⟨w.heap.size, 3, none⟩))) rfl (show Eng.opv 65 u' (.tmp 1) = (.pointer (some ⟨w.heap.size, 0, none⟩)) from hkp 1 rfl) (by kernel_rfl))
                · intro u' W hbW hkp hdp K hK
                  have e19 : u' 23 = (.bool false) := hdp.2.1
                  have e20 : u' 24 = (.pointer (some ⟨w.heap.size, 3, none⟩)) := hdp.1
                  refine Eng.dv (Eng.gt rfl rfl rfl (show Eng.opv 65 u' (.tmp 23) = (.bool false) from e19)) rfl ?_ (hK _ _ (Below.refl _ _) rfl)
                  exact (Eng.x_ld1 (v := (.int .i64 w_)) rfl ag3_tr (show Eng.opv 65 u' (.tmp 24) = (.pointer (some ⟨w.heap.size, 3, none⟩)) from e20) ((((hk2).below hbW)).cell 3))
                · intro u' W hbW hkp hdp K hK
                  have e19 : u' 23 = (.bool false) := hdp.2.1
                  have e21 : u' 25 = (.int .i64 w_) := hdp.1
                  refine Eng.dv (Eng.gt rfl rfl rfl (show Eng.opv 65 u' (.tmp 23) = (.bool false) from e19)) rfl ?_ (hK _ _ (Below.refl _ _) rfl)
                  exact (Eng.x_lt (r := false) rfl (show Eng.opv 65 u' (.tmp 25) = (.int .i64 w_) from e21) rfl (decide_eq_false (by omega)))
                · intro u' W hbW hkp hdp K hK
                  have e19 : u' 23 = (.bool false) := hdp.1
                  have e22 : u' 26 = (.bool false) := hdp.2.1
                  refine Eng.dv rfl rfl ?_ (hK _ _ (Below.refl _ _) rfl)
                  exact (Eng.x_pick (v := (.bool false)) rfl (show Eng.opv 65 u' (.tmp 23) = (.bool false) from e19) rfl (show Eng.opv 65 u' (.tmp 26) = (.bool false) from e22) rfl)
                · intro u' W hbW hkp hdp K hK
                  have e23 : u' 27 = (.bool false) := hdp.1
                  refine Eng.dv rfl rfl ?_ (hK _ _ (Below.refl _ _) rfl)
                  exact (Eng.x_mv (v := (.bool false)) rfl (show Eng.opv 65 u' (.tmp 27) = (.bool false) from e23))
                · intro u' W hbW hkp hdp K hK
                  have e24 : u' 28 = (.bool false) := hdp.1
                  refine Eng.dv (Eng.gt rfl rfl rfl (show Eng.opv 65 u' (.tmp 28) = (.bool false) from e24)) rfl ?_ (hK _ _ (Below.refl _ _) rfl)
                  exact (Eng.x_fa (v := (.pointer (some ⟨w.heap.size, 3, none⟩))) rfl (show Eng.opv 65 u' (.tmp 1) = (.pointer (some ⟨w.heap.size, 0, none⟩)) from hkp 1 rfl) (by kernel_rfl))
                · intro u' W hbW hkp hdp K hK
                  have e24 : u' 28 = (.bool false) := hdp.2.1
                  have e25 : u' 29 = (.pointer (some ⟨w.heap.size, 3, none⟩)) := hdp.1
                  refine Eng.dv (Eng.gt rfl rfl rfl (show Eng.opv 65 u' (.tmp 28) = (.bool false) from e24)) rfl ?_ (hK _ _ (Below.refl _ _) rfl)
                  exact (Eng.x_ld1 (v := (.int .i64 w_)) rfl ag3_tr (show Eng.opv 65 u' (.tmp 29) = (.pointer (some ⟨w.heap.size, 3, none⟩)) from e25) ((((hk2).below hbW)).cell 3))
                · intro u' W hbW hkp hdp K hK
                  have e24 : u' 28 = (.bool false) := hdp.1
                  refine Eng.dv (Eng.gt rfl rfl rfl (show Eng.opv 65 u' (.tmp 28) = (.bool false) from e24)) rfl ?_ (hK _ _ (Below.refl _ _) rfl)
                  exact (Eng.x_fa (v := (.pointer (some ⟨w.heap.size, 0, none⟩))) rfl (show Eng.opv 65 u' (.tmp 1) = (.pointer (some ⟨w.heap.size, 0, none⟩)) from hkp 1 rfl) (by kernel_rfl))
                · intro u' W hbW hkp hdp K hK
                  have e24 : u' 28 = (.bool false) := hdp.2.1
                  have e27 : u' 31 = (.pointer (some ⟨w.heap.size, 0, none⟩)) := hdp.1
                  refine Eng.dv (Eng.gt rfl rfl rfl (show Eng.opv 65 u' (.tmp 28) = (.bool false) from e24)) rfl ?_ (hK _ _ (Below.refl _ _) rfl)
                  exact (Eng.x_ld1 (v := (.int .i64 h)) rfl ag3_tr (show Eng.opv 65 u' (.tmp 31) = (.pointer (some ⟨w.heap.size, 0, none⟩)) from e27) ((((hk2).below hbW)).cell 0))
                · intro u' W hbW hkp hdp K hK
                  have e24 : u' 28 = (.bool false) := hdp.2.1
                  have e28 : u' 32 = (.int .i64 h) := hdp.1
                  refine Eng.dc (vs := #[(.int .i64 h)]) (Eng.gt rfl rfl rfl (show Eng.opv 65 u' (.tmp 28) = (.bool false) from e24)) ?_ (full_is hh _) ?_
                  · exact Eng.xc (xs := #[(Go.Operand.tmp 32)]) (vl := [(.int .i64 h)]) rfl rfl (Eng.lc (show Eng.opv 65 u' (.tmp 32) = (.int .i64 h) from e28) rfl) en45_tr
                  rintro _ W2 ⟨rfl, hb2⟩
                  exact Eng.aft_v rfl (hK _ _ hb2 rfl)
                · intro u' W hbW hkp hdp K hK
                  have e24 : u' 28 = (.bool false) := hdp.2.2.1
                  have e26 : u' 30 = (.int .i64 w_) := hdp.1
                  have e29 : u' 33 = (.int .i64 ((2 ^ h.toNat : Nat) : Int)) := hdp.2.1
                  refine Eng.dv (Eng.gt rfl rfl rfl (show Eng.opv 65 u' (.tmp 28) = (.bool false) from e24)) rfl ?_ (hK _ _ (Below.refl _ _) rfl)
                  exact (Eng.x_gt (r := true) rfl (show Eng.opv 65 u' (.tmp 30) = (.int .i64 w_) from e26) (show Eng.opv 65 u' (.tmp 33) = (.int .i64 ((2 ^ h.toNat : Nat) : Int)) from e29) (decide_eq_true (by omega)))
                · intro u' W hbW hkp hdp K hK
                  have e24 : u' 28 = (.bool false) := hdp.1
                  have e30 : u' 34 = (.bool true) := hdp.2.1
                  refine Eng.dv rfl rfl ?_ (hK _ _ (Below.refl _ _) rfl)
                  exact (Eng.x_pick (v := (.bool true)) rfl (show Eng.opv 65 u' (.tmp 28) = (.bool false) from e24) rfl (show Eng.opv 65 u' (.tmp 34) = (.bool true) from e30) rfl)
              · intro ud15 w15 hb15 hkp15 ⟨f15_0, f15_1, f15_2, f15_3, f15_4, f15_5, f15_6, f15_7, f15_8, f15_9, f15_10, f15_11, f15_12, f15_13, f15_14, f15_15, f15_16, f15_17, f15_18, f15_19, f15_20, f15_21, f15_22, f15_23, f15_24, f15_25, f15_26, f15_27, f15_28, f15_29, f15_30, f15_31, _⟩
                obtain rfl := Eng.collect (l := [(4, (.pointer (some ⟨w.heap.size, 0, none⟩))), (5, (.int .i64 h)), (6, (.bool true)), (7, (.bool false)), (8, (.bool false)), (9, (.pointer (some ⟨w.heap.size, 1, none⟩))), (10, (.int .i64 l)), (11, (.bool false)), (12, (.bool false)), (13, (.bool false)), (14, (.pointer (some ⟨w.heap.size, 1, none⟩))), (15, (.int .i64 l)), (16, (.bool false)), (17, (.bool false)), (18, (.bool false)), (19, (.pointer (some ⟨w.heap.size, 2, none⟩))), (20, (.int .i64 i)), (21, (.bool false)), (22, (.bool false)), (23, (.bool false)), (24, (.pointer (some ⟨w.heap.size, 3, none⟩))), (25, (.int .i64 w_)), (26, (.bool false)), (27, (.bool false)), (28, (.bool false)), (29, (.pointer (some ⟨w.heap.size, 3, none⟩))), (30, (.int .i64 w_)), (31, (.pointer (some ⟨w.heap.size, 0, none⟩))), (32, (.int .i64 h)), (33, (.int .i64 ((2 ^ h.toNat : Nat) : Int))), (34, (.bool true)), (35, (.bool true))]) hkp15 ⟨f15_0, f15_1, f15_2, f15_3, f15_4, f15_5, f15_6, f15_7, f15_8, f15_9, f15_10, f15_11, f15_12, f15_13, f15_14, f15_15, f15_16, f15_17, f15_18, f15_19, f15_20, f15_21, f15_22, f15_23, f15_24, f15_25, f15_26, f15_27, f15_28, f15_29, f15_30, f15_31, trivial⟩ rfl
                refine Eng.nil ?_
                refine hK4 _ _ ?_
                refine Eng.cond_t rfl ?_
                refine Eng.seqk fun K16 hK16 => ?_
                refine Eng.reg ?_
                refine Eng.sv rfl rfl (Eng.x_as (v := (.bool false)) rfl rfl) ?_
                refine Eng.nil ?_
                refine hK16 _ _ ?_
                refine Eng.rt ?_
                refine Eng.tr ?_
                refine Eng.ret (Eng.res1 (v1 := (.bool false)) rfl (Eng.rdt rfl)) ?_
                have hB0_2 : Below w.heap.size w w15 := (hb2).trans (hb15.mono (hb2).size)
                exact ⟨by rw [tvF (.inr (.inr (.inr (.inr (.inr (.inr (.inl q5)))))))], hB0_2⟩
            · skip
              refine Eng.draw 32 [fun vQ _ => vQ = (.pointer (some ⟨w.heap.size, 0, none⟩)), fun vQ _ => vQ = (.int .i64 h), fun vQ _ => vQ = (.bool true), fun vQ _ => vQ = (.bool false), fun vQ _ => vQ = (.bool false), fun vQ _ => vQ = (.pointer (some ⟨w.heap.size, 1, none⟩)), fun vQ _ => vQ = (.int .i64 l), fun vQ _ => vQ = (.bool false), fun vQ _ => vQ = (.bool false), fun vQ _ => vQ = (.bool false), fun vQ _ => vQ = (.pointer (some ⟨w.heap.size, 1, none⟩)), fun vQ _ => vQ = (.int .i64 l), fun vQ _ => vQ = (.bool false), fun vQ _ => vQ = (.bool false), fun vQ _ => vQ = (.bool false), fun vQ _ => vQ = (.pointer (some ⟨w.heap.size, 2, none⟩)), fun vQ _ => vQ = (.int .i64 i), fun vQ _ => vQ = (.bool false), fun vQ _ => vQ = (.bool false), fun vQ _ => vQ = (.bool false), fun vQ _ => vQ = (.pointer (some ⟨w.heap.size, 3, none⟩)), fun vQ _ => vQ = (.int .i64 w_), fun vQ _ => vQ = (.bool false), fun vQ _ => vQ = (.bool false), fun vQ _ => vQ = (.bool false), fun vQ _ => vQ = (.pointer (some ⟨w.heap.size, 3, none⟩)), fun vQ _ => vQ = (.int .i64 w_), fun vQ _ => vQ = (.pointer (some ⟨w.heap.size, 0, none⟩)), fun vQ _ => vQ = (.int .i64 h), fun vQ _ => vQ = (.int .i64 ((2 ^ h.toNat : Nat) : Int)), fun vQ _ => vQ = (.bool false), fun vQ _ => vQ = (.bool false)] (by kernel_rfl) (by kernel_rfl) (by kernel_rfl) (by kernel_rfl) rfl rfl ?_ ?_ ?_
              · exact ⟨fun _ _ _ h _ => h, fun _ _ _ h _ => h, fun _ _ _ h _ => h, fun _ _ _ h _ => h, fun _ _ _ h _ => h, fun _ _ _ h _ => h, fun _ _ _ h _ => h, fun _ _ _ h _ => h, fun _ _ _ h _ => h, fun _ _ _ h _ => h, fun _ _ _ h _ => h, fun _ _ _ h _ => h, fun _ _ _ h _ => h, fun _ _ _ h _ => h, fun _ _ _ h _ => h, fun _ _ _ h _ => h, fun _ _ _ h _ => h, fun _ _ _ h _ => h, fun _ _ _ h _ => h, fun _ _ _ h _ => h, fun _ _ _ h _ => h, fun _ _ _ h _ => h, fun _ _ _ h _ => h, fun _ _ _ h _ => h, fun _ _ _ h _ => h, fun _ _ _ h _ => h, fun _ _ _ h _ => h, fun _ _ _ h _ => h, fun _ _ _ h _ => h, fun _ _ _ h _ => h, fun _ _ _ h _ => h, fun _ _ _ h _ => h, trivial⟩
              · refine ⟨?_, ?_, ?_, ?_, ?_, ?_, ?_, ?_, ?_, ?_, ?_, ?_, ?_, ?_, ?_, ?_, ?_, ?_, ?_, ?_, ?_, ?_, ?_, ?_, ?_, ?_, ?_, ?_, ?_, ?_, ?_, ?_, trivial⟩
                · intro u' W hbW hkp hdp K hK
                  refine Eng.dv rfl rfl ?_ (hK _ _ (Below.refl _ _) rfl)
                  exact (Eng.x_fa (v := (.pointer (some ⟨w.heap.size, 0, none⟩))) rfl (show Eng.opv 65 u' (.tmp 1) = (.pointer (some ⟨w.heap.size, 0, none⟩)) from hkp 1 rfl) (by kernel_rfl))
                · intro u' W hbW hkp hdp K hK
                  have e0 : u' 4 = (.pointer (some ⟨w.heap.size, 0, none⟩)) := hdp.1
                  refine Eng.dv rfl rfl ?_ (hK _ _ (Below.refl _ _) rfl)
                  exact (Eng.x_ld1 (v := (.int .i64 h)) rfl ag3_tr (show Eng.opv 65 u' (.tmp 4) = (.pointer (some ⟨w.heap.size, 0, none⟩)) from e0) ((((hk2).below hbW)).cell 0))
                · intro u' W hbW hkp hdp K hK
                  have e1 : u' 5 = (.int .i64 h) := hdp.1
                  refine Eng.dc (vs := #[(.int .i64 h)]) rfl ?_ (rheight_is hh _) ?_
                  · exact Eng.xc (xs := #[(Go.Operand.tmp 5)]) (vl := [(.int .i64 h)]) rfl rfl (Eng.lc (show Eng.opv 65 u' (.tmp 5) = (.int .i64 h) from e1) rfl) en53_tr
                  rintro _ W2 ⟨rfl, hb2⟩
                  exact Eng.aft_v rfl (hK _ _ hb2 rfl)
                · intro u' W hbW hkp hdp K hK
                  have e2 : u' 6 = (.bool true) := hdp.1
                  refine Eng.dv rfl rfl ?_ (hK _ _ (Below.refl _ _) rfl)
                  exact (Eng.x_not (v := (.bool false)) rfl (show Eng.opv 65 u' (.tmp 6) = (.bool true) from e2) rfl)
                · intro u' W hbW hkp hdp K hK
                  have e3 : u' 7 = (.bool false) := hdp.1
                  refine Eng.dv rfl rfl ?_ (hK _ _ (Below.refl _ _) rfl)
                  exact (Eng.x_mv (v := (.bool false)) rfl (show Eng.opv 65 u' (.tmp 7) = (.bool false) from e3))
                · intro u' W hbW hkp hdp K hK
                  have e4 : u' 8 = (.bool false) := hdp.1
                  refine Eng.dv (Eng.gt rfl rfl rfl (show Eng.opv 65 u' (.tmp 8) = (.bool false) from e4)) rfl ?_ (hK _ _ (Below.refl _ _) rfl)
                  exact (Eng.x_fa (v := (.pointer (some ⟨w.heap.size, 1, none⟩))) rfl (show Eng.opv 65 u' (.tmp 1) = (.pointer (some ⟨w.heap.size, 0, none⟩)) from hkp 1 rfl) (by kernel_rfl))
                · intro u' W hbW hkp hdp K hK
                  have e4 : u' 8 = (.bool false) := hdp.2.1
                  have e5 : u' 9 = (.pointer (some ⟨w.heap.size, 1, none⟩)) := hdp.1
                  refine Eng.dv (Eng.gt rfl rfl rfl (show Eng.opv 65 u' (.tmp 8) = (.bool false) from e4)) rfl ?_ (hK _ _ (Below.refl _ _) rfl)
                  exact (Eng.x_ld1 (v := (.int .i64 l)) rfl ag3_tr (show Eng.opv 65 u' (.tmp 9) = (.pointer (some ⟨w.heap.size, 1, none⟩)) from e5) ((((hk2).below hbW)).cell 1))
                · intro u' W hbW hkp hdp K hK
                  have e4 : u' 8 = (.bool false) := hdp.2.1
                  have e6 : u' 10 = (.int .i64 l) := hdp.1
                  refine Eng.dv (Eng.gt rfl rfl rfl (show Eng.opv 65 u' (.tmp 8) = (.bool false) from e4)) rfl ?_ (hK _ _ (Below.refl _ _) rfl)
                  exact (Eng.x_lt (r := false) rfl (show Eng.opv 65 u' (.tmp 10) = (.int .i64 l) from e6) rfl (decide_eq_false (by omega)))
                · intro u' W hbW hkp hdp K hK
                  have e4 : u' 8 = (.bool false) := hdp.1
                  have e7 : u' 11 = (.bool false) := hdp.2.1
                  refine Eng.dv rfl rfl ?_ (hK _ _ (Below.refl _ _) rfl)
                  exact (Eng.x_pick (v := (.bool false)) rfl (show Eng.opv 65 u' (.tmp 8) = (.bool false) from e4) rfl (show Eng.opv 65 u' (.tmp 11) = (.bool false) from e7) rfl)
                · intro u' W hbW hkp hdp K hK
                  have e8 : u' 12 = (.bool false) := hdp.1
                  refine Eng.dv rfl rfl ?_ (hK _ _ (Below.refl _ _) rfl)
                  exact (Eng.x_mv (v := (.bool false)) rfl (show Eng.opv 65 u' (.tmp 12) = (.bool false) from e8))
                · intro u' W hbW hkp hdp K hK
                  have e9 : u' 13 = (.bool false) := hdp.1
                  refine Eng.dv (Eng.gt rfl rfl rfl (show Eng.opv 65 u' (.tmp 13) = (.bool false) from e9)) rfl ?_ (hK _ _ (Below.refl _ _) rfl)
                  exact (Eng.x_fa (v := (.pointer (some ⟨w.heap.size, 1, none⟩))) rfl (show Eng.opv 65 u' (.tmp 1) = (.pointer (some ⟨w.heap.size, 0, none⟩)) from hkp 1 rfl) (by kernel_rfl))
                · intro u' W hbW hkp hdp K hK
                  have e9 : u' 13 = (.bool false) := hdp.2.1
                  have e10 : u' 14 = (.pointer (some ⟨w.heap.size, 1, none⟩)) := hdp.1
                  refine Eng.dv (Eng.gt rfl rfl rfl (show Eng.opv 65 u' (.tmp 13) = (.bool false) from e9)) rfl ?_ (hK _ _ (Below.refl _ _) rfl)
                  exact (Eng.x_ld1 (v := (.int .i64 l)) rfl ag3_tr (show Eng.opv 65 u' (.tmp 14) = (.pointer (some ⟨w.heap.size, 1, none⟩)) from e10) ((((hk2).below hbW)).cell 1))
                · intro u' W hbW hkp hdp K hK
                  have e9 : u' 13 = (.bool false) := hdp.2.1
                  have e11 : u' 15 = (.int .i64 l) := hdp.1
                  refine Eng.dv (Eng.gt rfl rfl rfl (show Eng.opv 65 u' (.tmp 13) = (.bool false) from e9)) rfl ?_ (hK _ _ (Below.refl _ _) rfl)
                  exact (Eng.x_gt (r := false) rfl (show Eng.opv 65 u' (.tmp 15) = (.int .i64 l) from e11) rfl (decide_eq_false (by omega)))
                · intro u' W hbW hkp hdp K hK
                  have e9 : u' 13 = (.bool false) := hdp.1
                  have e12 : u' 16 = (.bool false) := hdp.2.1
                  refine Eng.dv rfl rfl ?_ (hK _ _ (Below.refl _ _) rfl)
                  exact (Eng.x_pick (v := (.bool false)) rfl (show Eng.opv 65 u' (.tmp 13) = (.bool false) from e9) rfl (show Eng.opv 65 u' (.tmp 16) = (.bool false) from e12) rfl)
                · intro u' W hbW hkp hdp K hK
                  have e13 : u' 17 = (.bool false) := hdp.1
                  refine Eng.dv rfl rfl ?_ (hK _ _ (Below.refl _ _) rfl)
                  exact (Eng.x_mv (v := (.bool false)) rfl (show Eng.opv 65 u' (.tmp 17) = (.bool false) from e13))
                · intro u' W hbW hkp hdp K hK
                  have e14 : u' 18 = (.bool false) := hdp.1
                  refine Eng.dv (Eng.gt rfl rfl rfl (show Eng.opv 65 u' (.tmp 18) = (.bool false) from e14)) rfl ?_ (hK _ _ (Below.refl _ _) rfl)
                  exact (Eng.x_fa (v := (.pointer (some ⟨w.heap.size, 2, none⟩))) rfl (show Eng.opv 65 u' (.tmp 1) = (.pointer (some ⟨w.heap.size, 0, none⟩)) from hkp 1 rfl) (by kernel_rfl))
                · intro u' W hbW hkp hdp K hK
                  have e14 : u' 18 = (.bool false) := hdp.2.1
                  have e15 : u' 19 = (.pointer (some ⟨w.heap.size, 2, none⟩)) := hdp.1
                  refine Eng.dv (Eng.gt rfl rfl rfl (show Eng.opv 65 u' (.tmp 18) = (.bool false) from e14)) rfl ?_ (hK _ _ (Below.refl _ _) rfl)
                  exact (Eng.x_ld1 (v := (.int .i64 i)) rfl ag3_tr (show Eng.opv 65 u' (.tmp 19) = (.pointer (some ⟨w.heap.size, 2, none⟩)) from e15) ((((hk2).below hbW)).cell 2))
                · intro u' W hbW hkp hdp K hK
                  have e14 : u' 18 = (.bool false) := hdp.2.1
                  have e16 : u' 20 = (.int .i64 i) := hdp.1
                  refine Eng.dv (Eng.gt rfl rfl rfl (show Eng.opv 65 u' (.tmp 18) = (.bool false) from e14)) rfl ?_ (hK _ _ (Below.refl _ _) rfl)
                  exact (Eng.x_lt (r := false) rfl (show Eng.opv 65 u' (.tmp 20) = (.int .i64 i) from e16) rfl (decide_eq_false (by omega)))
                · intro u' W hbW hkp hdp K hK
                  have e14 : u' 18 = (.bool false) := hdp.1
                  have e17 : u' 21 = (.bool false) := hdp.2.1
                  refine Eng.dv rfl rfl ?_ (hK _ _ (Below.refl _ _) rfl)
                  exact (Eng.x_pick (v := (.bool false)) rfl (show Eng.opv 65 u' (.tmp 18) = (.bool false) from e14) rfl (show Eng.opv 65 u' (.tmp 21) = (.bool false) from e17) rfl)
                · intro u' W hbW hkp hdp K hK
                  have e18 : u' 22 = (.bool false) := hdp.1
                  refine Eng.dv rfl rfl ?_ (hK _ _ (Below.refl _ _) rfl)
                  exact (Eng.x_mv (v := (.bool false)) rfl (show Eng.opv 65 u' (.tmp 22) = (.bool false) from e18))
                · intro u' W hbW hkp hdp K hK
                  have e19 : u' 23 = (.bool false) := hdp.1
                  refine Eng.dv (Eng.gt rfl rfl rfl (show Eng.opv 65 u' (.tmp 23) = (.bool false) from e19)) rfl ?_ (hK _ _ (Below.refl _ _) rfl)
                  exact (Eng.x_fa (v := (.pointer (some ⟨w.heap.size, 3, none⟩))) rfl (show Eng.opv 65 u' (.tmp 1) = (.pointer (some ⟨w.heap.size, 0, none⟩)) from hkp 1 rfl) (by kernel_rfl))
                · intro u' W hbW hkp hdp K hK
                  have e19 : u' 23 = (.bool false) := hdp.2.1
                  have e20 : u' 24 = (.pointer (some ⟨w.heap.size, 3, none⟩)) := hdp.1
                  refine Eng.dv (Eng.gt rfl rfl rfl (show Eng.opv 65 u' (.tmp 23) = (.bool false) from e19)) rfl ?_ (hK _ _ (Below.refl _ _) rfl)
                  exact (Eng.x_ld1 (v := (.int .i64 w_)) rfl ag3_tr (show Eng.opv 65 u' (.tmp 24) = (.pointer (some ⟨w.heap.size, 3, none⟩)) from e20) ((((hk2).below hbW)).cell 3))
                · intro u' W hbW hkp hdp K hK
                  have e19 : u' 23 = (.bool false) := hdp.2.1
                  have e21 : u' 25 = (.int .i64 w_) := hdp.1
                  refine Eng.dv (Eng.gt rfl rfl rfl (show Eng.opv 65 u' (.tmp 23) = (.bool false) from e19)) rfl ?_ (hK _ _ (Below.refl _ _) rfl)
                  exact (Eng.x_lt (r := false) rfl (show Eng.opv 65 u' (.tmp 25) = (.int .i64 w_) from e21) rfl (decide_eq_false (by omega)))
                · intro u' W hbW hkp hdp K hK
                  have e19 : u' 23 = (.bool false) := hdp.1
                  have e22 : u' 26 = (.bool false) := hdp.2.1
                  refine Eng.dv rfl rfl ?_ (hK _ _ (Below.refl _ _) rfl)
                  exact (Eng.x_pick (v := (.bool false)) rfl (show Eng.opv 65 u' (.tmp 23) = (.bool false) from e19) rfl (show Eng.opv 65 u' (.tmp 26) = (.bool false) from e22) rfl)
                · intro u' W hbW hkp hdp K hK
                  have e23 : u' 27 = (.bool false) := hdp.1
                  refine Eng.dv rfl rfl ?_ (hK _ _ (Below.refl _ _) rfl)
                  exact (Eng.x_mv (v := (.bool false)) rfl (show Eng.opv 65 u' (.tmp 27) = (.bool false) from e23))
                · intro u' W hbW hkp hdp K hK
                  have e24 : u' 28 = (.bool false) := hdp.1
                  refine Eng.dv (Eng.gt rfl rfl rfl (show Eng.opv 65 u' (.tmp 28) = (.bool false) from e24)) rfl ?_ (hK _ _ (Below.refl _ _) rfl)
                  exact (Eng.x_fa (v := (.pointer (some ⟨w.heap.size, 3, none⟩))) rfl (show Eng.opv 65 u' (.tmp 1) = (.pointer (some ⟨w.heap.size, 0, none⟩)) from hkp 1 rfl) (by kernel_rfl))
                · intro u' W hbW hkp hdp K hK
                  have e24 : u' 28 = (.bool false) := hdp.2.1
                  have e25 : u' 29 = (.pointer (some ⟨w.heap.size, 3, none⟩)) := hdp.1
                  refine Eng.dv (Eng.gt rfl rfl rfl (show Eng.opv 65 u' (.tmp 28) = (.bool false) from e24)) rfl ?_ (hK _ _ (Below.refl _ _) rfl)
                  exact (Eng.x_ld1 (v := (.int .i64 w_)) rfl ag3_tr (show Eng.opv 65 u' (.tmp 29) = (.pointer (some ⟨w.heap.size, 3, none⟩)) from e25) ((((hk2).below hbW)).cell 3))
                · intro u' W hbW hkp hdp K hK
                  have e24 : u' 28 = (.bool false) := hdp.1
                  refine Eng.dv (Eng.gt rfl rfl rfl (show Eng.opv 65 u' (.tmp 28) = (.bool false) from e24)) rfl ?_ (hK _ _ (Below.refl _ _) rfl)
                  exact (Eng.x_fa (v := (.pointer (some ⟨w.heap.size, 0, none⟩))) rfl (show Eng.opv 65 u' (.tmp 1) = (.pointer (some ⟨w.heap.size, 0, none⟩)) from hkp 1 rfl) (by kernel_rfl))
                · intro u' W hbW hkp hdp K hK
                  have e24 : u' 28 = (.bool false) := hdp.2.1
                  have e27 : u' 31 = (.pointer (some ⟨w.heap.size, 0, none⟩)) := hdp.1
                  refine Eng.dv (Eng.gt rfl rfl rfl (show Eng.opv 65 u' (.tmp 28) = (.bool false) from e24)) rfl ?_ (hK _ _ (Below.refl _ _) rfl)
                  exact (Eng.x_ld1 (v := (.int .i64 h)) rfl ag3_tr (show Eng.opv 65 u' (.tmp 31) = (.pointer (some ⟨w.heap.size, 0, none⟩)) from e27) ((((hk2).below hbW)).cell 0))
                · intro u' W hbW hkp hdp K hK
                  have e24 : u' 28 = (.bool false) := hdp.2.1
                  have e28 : u' 32 = (.int .i64 h) := hdp.1
                  refine Eng.dc (vs := #[(.int .i64 h)]) (Eng.gt rfl rfl rfl (show Eng.opv 65 u' (.tmp 28) = (.bool false) from e24)) ?_ (full_is hh _) ?_
                  · exact Eng.xc (xs := #[(Go.Operand.tmp 32)]) (vl := [(.int .i64 h)]) rfl rfl (Eng.lc (show Eng.opv 65 u' (.tmp 32) = (.int .i64 h) from e28) rfl) en45_tr
                  rintro _ W2 ⟨rfl, hb2⟩
                  exact Eng.aft_v rfl (hK _ _ hb2 rfl)
                · intro u' W hbW hkp hdp K hK
                  have e24 : u' 28 = (.bool false) := hdp.2.2.1
                  have e26 : u' 30 = (.int .i64 w_) := hdp.1
                  have e29 : u' 33 = (.int .i64 ((2 ^ h.toNat : Nat) : Int)) := hdp.2.1
                  refine Eng.dv (Eng.gt rfl rfl rfl (show Eng.opv 65 u' (.tmp 28) = (.bool false) from e24)) rfl ?_ (hK _ _ (Below.refl _ _) rfl)
                  exact (Eng.x_gt (r := false) rfl (show Eng.opv 65 u' (.tmp 30) = (.int .i64 w_) from e26) (show Eng.opv 65 u' (.tmp 33) = (.int .i64 ((2 ^ h.toNat : Nat) : Int)) from e29) (decide_eq_false (by omega)))
                · intro u' W hbW hkp hdp K hK
                  have e24 : u' 28 = (.bool false) := hdp.1
                  have e30 : u' 34 = (.bool false) := hdp.2.1
                  refine Eng.dv rfl rfl ?_ (hK _ _ (Below.refl _ _) rfl)
                  exact (Eng.x_pick (v := (.bool false)) rfl (show Eng.opv 65 u' (.tmp 28) = (.bool false) from e24) rfl (show Eng.opv 65 u' (.tmp 34) = (.bool false) from e30) rfl)
              · intro ud17 w17 hb17 hkp17 ⟨f17_0, f17_1, f17_2, f17_3, f17_4, f17_5, f17_6, f17_7, f17_8, f17_9, f17_10, f17_11, f17_12, f17_13, f17_14, f17_15, f17_16, f17_17, f17_18, f17_19, f17_20, f17_21, f17_22, f17_23, f17_24, f17_25, f17_26, f17_27, f17_28, f17_29, f17_30, f17_31, _⟩
                obtain rfl := Eng.collect (l := [(4, (.pointer (some ⟨w.heap.size, 0, none⟩))), (5, (.int .i64 h)), (6, (.bool true)), (7, (.bool false)), (8, (.bool false)), (9, (.pointer (some ⟨w.heap.size, 1, none⟩))), (10, (.int .i64 l)), (11, (.bool false)), (12, (.bool false)), (13, (.bool false)), (14, (.pointer (some ⟨w.heap.size, 1, none⟩))), (15, (.int .i64 l)), (16, (.bool false)), (17, (.bool false)), (18, (.bool false)), (19, (.pointer (some ⟨w.heap.size, 2, none⟩))), (20, (.int .i64 i)), (21, (.bool false)), (22, (.bool false)), (23, (.bool false)), (24, (.pointer (some ⟨w.heap.size, 3, none⟩))), (25, (.int .i64 w_)), (26, (.bool false)), (27, (.bool false)), (28, (.bool false)), (29, (.pointer (some ⟨w.heap.size, 3, none⟩))), (30, (.int .i64 w_)), (31, (.pointer (some ⟨w.heap.size, 0, none⟩))), (32, (.int .i64 h)), (33, (.int .i64 ((2 ^ h.toNat : Nat) : Int))), (34, (.bool false)), (35, (.bool false))]) hkp17 ⟨f17_0, f17_1, f17_2, f17_3, f17_4, f17_5, f17_6, f17_7, f17_8, f17_9, f17_10, f17_11, f17_12, f17_13, f17_14, f17_15, f17_16, f17_17, f17_18, f17_19, f17_20, f17_21, f17_22, f17_23, f17_24, f17_25, f17_26, f17_27, f17_28, f17_29, f17_30, f17_31, trivial⟩ rfl
                refine Eng.nil ?_
                refine hK4 _ _ ?_
                refine Eng.cond_f rfl ?_
                refine Eng.skp ?_
                refine hK3 _ _ ?_
                refine Eng.seqk fun K18 hK18 => ?_
                refine Eng.reg ?_
                refine Eng.sv rfl rfl (Eng.x_fa (v := (.pointer (some ⟨w.heap.size, 1, none⟩))) rfl rfl (by kernel_rfl)) ?_
                have hk19 := (hk2).below hb17
                refine Eng.sv rfl rfl (Eng.x_ld1 (v := (.int .i64 l)) rfl ag3_tr rfl ((hk19).cell 1)) ?_
                refine Eng.sv rfl rfl (Eng.x_fa (v := (.pointer (some ⟨w.heap.size, 0, none⟩))) rfl rfl (by kernel_rfl)) ?_
                refine Eng.sv rfl rfl (Eng.x_ld1 (v := (.int .i64 h)) rfl ag3_tr rfl ((hk19).cell 0)) ?_
                refine Eng.sv rfl rfl (Eng.x_mul rfl rfl rfl (Eng.w64 (r := (l * h)) (by omega))) ?_
                refine Eng.sv rfl rfl (Eng.x_as (v := (.int .i64 (l * h))) rfl rfl) ?_
                refine Eng.nil ?_
                refine hK18 _ _ ?_
                refine Eng.seqk fun K20 hK20 => ?_
                refine Eng.seqk fun K21 hK21 => ?_
                by_cases r0 : 48 < l * h
                · skip
                  refine Eng.reg ?_
                  refine Eng.sv rfl rfl (Eng.x_mv (v := (.int .i64 (l * h))) rfl rfl) ?_
                  refine Eng.sv rfl rfl (Eng.x_gt (r := true) rfl rfl rfl (decide_eq_true (by omega))) ?_
                  refine Eng.sv rfl rfl (Eng.x_mv (v := (.bool true)) rfl rfl) ?_
                  refine Eng.sg (Eng.gf rfl rfl rfl rfl) rfl ?_
                  refine Eng.sg (Eng.gf rfl rfl rfl rfl) rfl ?_
                  refine Eng.sg (Eng.gf rfl rfl rfl rfl) rfl ?_
                  refine Eng.sg (Eng.gf rfl rfl rfl rfl) rfl ?_
                  refine Eng.sg (Eng.gf rfl rfl rfl rfl) rfl ?_
                  refine Eng.sg (Eng.gf rfl rfl rfl rfl) rfl ?_
                  refine Eng.sg (Eng.gf rfl rfl rfl rfl) rfl ?_
                  refine Eng.sv rfl rfl (Eng.x_pick (v := (.bool true)) rfl rfl rfl rfl rfl) ?_
                  refine Eng.nil ?_
                  refine hK21 _ _ ?_
                  refine Eng.cond_t rfl ?_
                  refine Eng.seqk fun K22 hK22 => ?_
                  refine Eng.reg ?_
                  refine Eng.sv rfl rfl (Eng.x_as (v := (.bool false)) rfl rfl) ?_
                  refine Eng.nil ?_
                  refine hK22 _ _ ?_
                  refine Eng.rt ?_
                  refine Eng.tr ?_
                  refine Eng.ret (Eng.res1 (v1 := (.bool false)) rfl (Eng.rdt rfl)) ?_
                  have hB0_2 : Below w.heap.size w w17 := (hb2).trans (hb17.mono (hb2).size)
                  exact ⟨by rw [tvF (.inr (.inr (.inl ⟨hh, r0⟩)))], hB0_2⟩
                · skip
                  by_cases r1 : ((2 ^ (48 - h.toNat) : Nat) : Int) < i
                  · skip
                    refine Eng.reg ?_
                    refine Eng.sv rfl rfl (Eng.x_mv (v := (.int .i64 (l * h))) rfl rfl) ?_
                    refine Eng.sv rfl rfl (Eng.x_gt (r := false) rfl rfl rfl (decide_eq_false (by omega))) ?_
                    refine Eng.sv rfl rfl (Eng.x_mv (v := (.bool false)) rfl rfl) ?_
                    refine Eng.sv (Eng.gt rfl rfl rfl rfl) rfl (Eng.x_fa (v := (.pointer (some ⟨w.heap.size, 2, none⟩))) rfl rfl (by kernel_rfl)) ?_
                    refine Eng.sv (Eng.gt rfl rfl rfl rfl) rfl (Eng.x_ld1 (v := (.int .i64 i)) rfl ag3_tr rfl ((hk19).cell 2)) ?_
                    refine Eng.sv (Eng.gt rfl rfl rfl rfl) rfl (Eng.x_fa (v := (.pointer (some ⟨w.heap.size, 0, none⟩))) rfl rfl (by kernel_rfl)) ?_
                    refine Eng.sv (Eng.gt rfl rfl rfl rfl) rfl (Eng.x_ld1 (v := (.int .i64 h)) rfl ag3_tr rfl ((hk19).cell 0)) ?_
                    refine Eng.sv (Eng.gt rfl rfl rfl rfl) rfl (Eng.x_conv rfl Tryd.underlying3 Tryd.underlying39 rfl (Eng.wu64 (r := h) (by omega))) ?_
                    refine Eng.sv (Eng.gt rfl rfl rfl rfl) rfl (Eng.x_shr rfl rfl rfl (by omega) (r := ((2 ^ (48 - h.toNat) : Nat) : Int)) (shr48 (by omega) (by omega))) ?_
                    refine Eng.sv (Eng.gt rfl rfl rfl rfl) rfl (Eng.x_gt (r := true) rfl rfl rfl (decide_eq_true (by omega))) ?_
                    refine Eng.sv rfl rfl (Eng.x_pick (v := (.bool true)) rfl rfl rfl rfl rfl) ?_
                    refine Eng.nil ?_
                    refine hK21 _ _ ?_
                    refine Eng.cond_t rfl ?_
                    refine Eng.seqk fun K23 hK23 => ?_
                    refine Eng.reg ?_
                    refine Eng.sv rfl rfl (Eng.x_as (v := (.bool false)) rfl rfl) ?_
                    refine Eng.nil ?_
                    refine hK23 _ _ ?_
                    refine Eng.rt ?_
                    refine Eng.tr ?_
                    refine Eng.ret (Eng.res1 (v1 := (.bool false)) rfl (Eng.rdt rfl)) ?_
                    have hB0_2 : Below w.heap.size w w17 := (hb2).trans (hb17.mono (hb2).size)
                    exact ⟨by rw [tvF (.inr (.inr (.inr (.inr (.inr (.inr (.inr (⟨hh, by omega, r1⟩))))))))], hB0_2⟩
                  · skip
                    have hR : 2 ^ (48 - h.toNat) ≤ 2 ^ 48 := Nat.pow_le_pow_right (by omega) (by omega)
                    have hi1 := ip hh (show 0 ≤ i by omega)
                    have hi2 := ip2 hh (show 0 ≤ i by omega) (by omega)
                    refine Eng.reg ?_
                    refine Eng.sv rfl rfl (Eng.x_mv (v := (.int .i64 (l * h))) rfl rfl) ?_
                    refine Eng.sv rfl rfl (Eng.x_gt (r := false) rfl rfl rfl (decide_eq_false (by omega))) ?_
                    refine Eng.sv rfl rfl (Eng.x_mv (v := (.bool false)) rfl rfl) ?_
                    refine Eng.sv (Eng.gt rfl rfl rfl rfl) rfl (Eng.x_fa (v := (.pointer (some ⟨w.heap.size, 2, none⟩))) rfl rfl (by kernel_rfl)) ?_
                    refine Eng.sv (Eng.gt rfl rfl rfl rfl) rfl (Eng.x_ld1 (v := (.int .i64 i)) rfl ag3_tr rfl ((hk19).cell 2)) ?_
                    refine Eng.sv (Eng.gt rfl rfl rfl rfl) rfl (Eng.x_fa (v := (.pointer (some ⟨w.heap.size, 0, none⟩))) rfl rfl (by kernel_rfl)) ?_
                    refine Eng.sv (Eng.gt rfl rfl rfl rfl) rfl (Eng.x_ld1 (v := (.int .i64 h)) rfl ag3_tr rfl ((hk19).cell 0)) ?_
                    refine Eng.sv (Eng.gt rfl rfl rfl rfl) rfl (Eng.x_conv rfl Tryd.underlying3 Tryd.underlying39 rfl (Eng.wu64 (r := h) (by omega))) ?_
                    refine Eng.sv (Eng.gt rfl rfl rfl rfl) rfl (Eng.x_shr rfl rfl rfl (by omega) (r := ((2 ^ (48 - h.toNat) : Nat) : Int)) (shr48 (by omega) (by omega))) ?_
                    refine Eng.sv (Eng.gt rfl rfl rfl rfl) rfl (Eng.x_gt (r := false) rfl rfl rfl (decide_eq_false (by omega))) ?_
                    refine Eng.sv rfl rfl (Eng.x_pick (v := (.bool false)) rfl rfl rfl rfl rfl) ?_
                    refine Eng.nil ?_
                    refine hK21 _ _ ?_
                    refine Eng.cond_f rfl ?_
                    refine Eng.skp ?_
                    refine hK20 _ _ ?_
                    refine Eng.seqk fun K24 hK24 => ?_
                    refine Eng.reg ?_
                    refine Eng.sv rfl rfl (Eng.x_mv (v := (.int .i64 (l * h))) rfl rfl) ?_
                    refine Eng.sv rfl rfl (Eng.x_fa (v := (.pointer (some ⟨w.heap.size, 2, none⟩))) rfl rfl (by kernel_rfl)) ?_
                    refine Eng.sv rfl rfl (Eng.x_ld1 (v := (.int .i64 i)) rfl ag3_tr rfl ((hk19).cell 2)) ?_
                    refine Eng.sv rfl rfl (Eng.x_fa (v := (.pointer (some ⟨w.heap.size, 0, none⟩))) rfl rfl (by kernel_rfl)) ?_
                    refine Eng.sv rfl rfl (Eng.x_ld1 (v := (.int .i64 h)) rfl ag3_tr rfl ((hk19).cell 0)) ?_
                    refine Eng.sv rfl rfl (Eng.x_conv rfl Tryd.underlying3 Tryd.underlying39 rfl (Eng.wu64 (r := h) (by omega))) ?_
                    refine Eng.sv rfl rfl (Eng.x_shl rfl rfl rfl (by omega) (r := (i * ((2 ^ h.toNat : Nat) : Int))) (shlP hh (by omega) (by omega))) ?_
                    refine Eng.sv rfl rfl (Eng.x_fa (v := (.pointer (some ⟨w.heap.size, 3, none⟩))) rfl rfl (by kernel_rfl)) ?_
                    refine Eng.sv rfl rfl (Eng.x_ld1 (v := (.int .i64 w_)) rfl ag3_tr rfl ((hk19).cell 3)) ?_
                    refine Eng.sv rfl rfl (Eng.x_add rfl rfl rfl (Eng.w64 (r := ((i * ((2 ^ h.toNat : Nat) : Int)) + w_)) (by omega))) ?_
                    refine Eng.sv rfl rfl (Eng.x_sub rfl rfl rfl (Eng.w64 (r := (((i * ((2 ^ h.toNat : Nat) : Int)) + w_) - 1)) (by omega))) ?_
                    refine Eng.sv rfl rfl (Eng.x_build (ps := [(0, (.int .i64 (l * h))), (1, (.int .i64 (((i * ((2 ^ h.toNat : Nat) : Int)) + w_) - 1)))]) (v := (.agg #[(.int .i64 (l * h)), (.int .i64 (((i * ((2 ^ h.toNat : Nat) : Int)) + w_) - 1))])) rfl rfl (by kernel_rfl)) ?_
                    refine Eng.sc rfl (Eng.xc (vl := [(.agg #[(.int .i64 (l * h)), (.int .i64 (((i * ((2 ^ h.toNat : Nat) : Int)) + w_) - 1))])]) rfl rfl rfl en55_tr) (rnvalid_calls _ _ _) ?_
                    rintro _ w25 ⟨rfl, hb25⟩
                    refine Eng.aft_v rfl ?_
                    refine Eng.sv rfl rfl (Eng.x_as (v := (.bool (nv (l * h) (((i * ((2 ^ h.toNat : Nat) : Int)) + w_) - 1)))) rfl rfl) ?_
                    refine Eng.nil ?_
                    refine hK24 _ _ ?_
                    refine Eng.rt ?_
                    refine Eng.ret (Eng.res1 (v1 := (.bool (nv (l * h) (((i * ((2 ^ h.toNat : Nat) : Int)) + w_) - 1)))) rfl (Eng.rdt rfl)) ?_
                    have hB0_2 : Below w.heap.size w w17 := (hb2).trans (hb17.mono (hb2).size)
                    have hB0_3 : Below w.heap.size w w25 := (hB0_2).trans (hb25.mono (hB0_2).size)
                    exact ⟨by rw [tvT hh (by omega) (by omega) (by omega) (by omega)], hB0_3⟩
end Go.Proofs.YtnecgoahdkfbeaaDoor.Tid
