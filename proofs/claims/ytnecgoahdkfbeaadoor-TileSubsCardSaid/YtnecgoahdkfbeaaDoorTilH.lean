/- Heights, valid nodes, valid tiles, the tile of a node: the program's and the reference's. -/
import Derived.Test.YtnecgoahdkfbeaaDoorTilD
import Derived.Test.YtnecgoahdkfbeaaDoorByt
namespace Go.Proofs.YtnecgoahdkfbeaaDoor.Tid
open Go Go.RowKit Go.Proofs.YtnecgoahdkfbeaaDoor.Cop
set_option linter.unusedVariables false
set_option linter.unusedSimpArgs false
theorem ag3_th (w : World) : (isAgg 3).run Tryd.prog w = .ok false w := by kernel_rfl
set_option maxRecDepth 100000 in
set_option maxHeartbeats 4000000 in
theorem height_calls (h : Int) (w : World) : Calls Tryd.prog 49 #[(.int .i64 h)] w (fun e w' => e = .returned (.bool (ht h)) ∧ Below w.heap.size w w') := by
  refine Eng.enter (l := [(.int .i64 h)]) Tryd.func49 rfl 9 rfl (by simp) ?_
  refine Eng.seqk fun K1 hK1 => ?_
  refine Eng.reg ?_
  refine Eng.sv rfl rfl (Eng.x_as (v := (.bool false)) rfl rfl) ?_
  refine Eng.nil ?_
  refine hK1 _ _ ?_
  refine Eng.seqk fun K2 hK2 => ?_
  by_cases q0 : 1 ≤ h
  · skip
    by_cases q1 : h ≤ 8
    · skip
      refine Eng.reg ?_
      refine Eng.sv rfl rfl (Eng.x_mv (v := (.int .i64 h)) rfl rfl) ?_
      refine Eng.sv rfl rfl (Eng.x_ge (r := true) rfl rfl rfl (decide_eq_true (by omega))) ?_
      refine Eng.sv rfl rfl (Eng.x_mv (v := (.bool true)) rfl rfl) ?_
      refine Eng.sv (Eng.gt rfl rfl rfl rfl) rfl (Eng.x_mv (v := (.int .i64 h)) rfl rfl) ?_
      refine Eng.sv (Eng.gt rfl rfl rfl rfl) rfl (Eng.x_le (r := true) rfl rfl rfl (decide_eq_true (by omega))) ?_
      refine Eng.sv rfl rfl (Eng.x_pick (v := (.bool true)) rfl rfl rfl rfl rfl) ?_
      refine Eng.sv rfl rfl (Eng.x_as (v := (.bool true)) rfl rfl) ?_
      refine Eng.nil ?_
      refine hK2 _ _ ?_
      refine Eng.rt ?_
      refine Eng.ret (Eng.res1 (v1 := (.bool true)) rfl (Eng.rdt rfl)) ?_
      exact ⟨by rw [show ht h = true from decide_eq_true (by omega)], Below.refl _ _⟩
    · skip
      refine Eng.reg ?_
      refine Eng.sv rfl rfl (Eng.x_mv (v := (.int .i64 h)) rfl rfl) ?_
      refine Eng.sv rfl rfl (Eng.x_ge (r := true) rfl rfl rfl (decide_eq_true (by omega))) ?_
      refine Eng.sv rfl rfl (Eng.x_mv (v := (.bool true)) rfl rfl) ?_
      refine Eng.sv (Eng.gt rfl rfl rfl rfl) rfl (Eng.x_mv (v := (.int .i64 h)) rfl rfl) ?_
      refine Eng.sv (Eng.gt rfl rfl rfl rfl) rfl (Eng.x_le (r := false) rfl rfl rfl (decide_eq_false (by omega))) ?_
      refine Eng.sv rfl rfl (Eng.x_pick (v := (.bool false)) rfl rfl rfl rfl rfl) ?_
      refine Eng.sv rfl rfl (Eng.x_as (v := (.bool false)) rfl rfl) ?_
      refine Eng.nil ?_
      refine hK2 _ _ ?_
      refine Eng.rt ?_
      refine Eng.ret (Eng.res1 (v1 := (.bool false)) rfl (Eng.rdt rfl)) ?_
      exact ⟨by rw [show ht h = false from decide_eq_false (by omega)], Below.refl _ _⟩
  · skip
    refine Eng.reg ?_
    refine Eng.sv rfl rfl (Eng.x_mv (v := (.int .i64 h)) rfl rfl) ?_
    refine Eng.sv rfl rfl (Eng.x_ge (r := false) rfl rfl rfl (decide_eq_false (by omega))) ?_
    refine Eng.sv rfl rfl (Eng.x_mv (v := (.bool false)) rfl rfl) ?_
    refine Eng.sg (Eng.gf rfl rfl rfl rfl) rfl ?_
    refine Eng.sg (Eng.gf rfl rfl rfl rfl) rfl ?_
    refine Eng.sv rfl rfl (Eng.x_pick (v := (.bool false)) rfl rfl rfl rfl rfl) ?_
    refine Eng.sv rfl rfl (Eng.x_as (v := (.bool false)) rfl rfl) ?_
    refine Eng.nil ?_
    refine hK2 _ _ ?_
    refine Eng.rt ?_
    refine Eng.ret (Eng.res1 (v1 := (.bool false)) rfl (Eng.rdt rfl)) ?_
    exact ⟨by rw [show ht h = false from decide_eq_false (by omega)], Below.refl _ _⟩
theorem height_is {b : Bool} {h : Int} (e : ht h = b) (w : World) : Calls Tryd.prog 49 #[.int .i64 h] w fun e w' => e = .returned (.bool b) ∧ Below w.heap.size w w' := e ▸ height_calls h w
set_option maxRecDepth 100000 in
set_option maxHeartbeats 4000000 in
theorem rheight_calls (h : Int) (w : World) : Calls Tryd.prog 53 #[(.int .i64 h)] w (fun e w' => e = .returned (.bool (ht h)) ∧ Below w.heap.size w w') := by
  refine Eng.enter (l := [(.int .i64 h)]) Tryd.func53 rfl 9 rfl (by simp) ?_
  refine Eng.seqk fun K1 hK1 => ?_
  refine Eng.reg ?_
  refine Eng.sv rfl rfl (Eng.x_as (v := (.bool false)) rfl rfl) ?_
  refine Eng.nil ?_
  refine hK1 _ _ ?_
  refine Eng.seqk fun K2 hK2 => ?_
  by_cases q0 : 1 ≤ h
  · skip
    by_cases q1 : h ≤ 8
    · skip
      refine Eng.reg ?_
      refine Eng.sv rfl rfl (Eng.x_mv (v := (.int .i64 h)) rfl rfl) ?_
      refine Eng.sv rfl rfl (Eng.x_ge (r := true) rfl rfl rfl (decide_eq_true (by omega))) ?_
      refine Eng.sv rfl rfl (Eng.x_mv (v := (.bool true)) rfl rfl) ?_
      refine Eng.sv (Eng.gt rfl rfl rfl rfl) rfl (Eng.x_mv (v := (.int .i64 h)) rfl rfl) ?_
      refine Eng.sv (Eng.gt rfl rfl rfl rfl) rfl (Eng.x_le (r := true) rfl rfl rfl (decide_eq_true (by omega))) ?_
      refine Eng.sv rfl rfl (Eng.x_pick (v := (.bool true)) rfl rfl rfl rfl rfl) ?_
      refine Eng.sv rfl rfl (Eng.x_as (v := (.bool true)) rfl rfl) ?_
      refine Eng.nil ?_
      refine hK2 _ _ ?_
      refine Eng.rt ?_
      refine Eng.ret (Eng.res1 (v1 := (.bool true)) rfl (Eng.rdt rfl)) ?_
      exact ⟨by rw [show ht h = true from decide_eq_true (by omega)], Below.refl _ _⟩
    · skip
      refine Eng.reg ?_
      refine Eng.sv rfl rfl (Eng.x_mv (v := (.int .i64 h)) rfl rfl) ?_
      refine Eng.sv rfl rfl (Eng.x_ge (r := true) rfl rfl rfl (decide_eq_true (by omega))) ?_
      refine Eng.sv rfl rfl (Eng.x_mv (v := (.bool true)) rfl rfl) ?_
      refine Eng.sv (Eng.gt rfl rfl rfl rfl) rfl (Eng.x_mv (v := (.int .i64 h)) rfl rfl) ?_
      refine Eng.sv (Eng.gt rfl rfl rfl rfl) rfl (Eng.x_le (r := false) rfl rfl rfl (decide_eq_false (by omega))) ?_
      refine Eng.sv rfl rfl (Eng.x_pick (v := (.bool false)) rfl rfl rfl rfl rfl) ?_
      refine Eng.sv rfl rfl (Eng.x_as (v := (.bool false)) rfl rfl) ?_
      refine Eng.nil ?_
      refine hK2 _ _ ?_
      refine Eng.rt ?_
      refine Eng.ret (Eng.res1 (v1 := (.bool false)) rfl (Eng.rdt rfl)) ?_
      exact ⟨by rw [show ht h = false from decide_eq_false (by omega)], Below.refl _ _⟩
  · skip
    refine Eng.reg ?_
    refine Eng.sv rfl rfl (Eng.x_mv (v := (.int .i64 h)) rfl rfl) ?_
    refine Eng.sv rfl rfl (Eng.x_ge (r := false) rfl rfl rfl (decide_eq_false (by omega))) ?_
    refine Eng.sv rfl rfl (Eng.x_mv (v := (.bool false)) rfl rfl) ?_
    refine Eng.sg (Eng.gf rfl rfl rfl rfl) rfl ?_
    refine Eng.sg (Eng.gf rfl rfl rfl rfl) rfl ?_
    refine Eng.sv rfl rfl (Eng.x_pick (v := (.bool false)) rfl rfl rfl rfl rfl) ?_
    refine Eng.sv rfl rfl (Eng.x_as (v := (.bool false)) rfl rfl) ?_
    refine Eng.nil ?_
    refine hK2 _ _ ?_
    refine Eng.rt ?_
    refine Eng.ret (Eng.res1 (v1 := (.bool false)) rfl (Eng.rdt rfl)) ?_
    exact ⟨by rw [show ht h = false from decide_eq_false (by omega)], Below.refl _ _⟩
theorem rheight_is {b : Bool} {h : Int} (e : ht h = b) (w : World) : Calls Tryd.prog 53 #[.int .i64 h] w fun e w' => e = .returned (.bool b) ∧ Below w.heap.size w w' := e ▸ rheight_calls h w
set_option maxRecDepth 100000 in
set_option maxHeartbeats 4000000 in
theorem full_calls (n : Nat) (h1 : n ≤ 8) (w : World) : Calls Tryd.prog 45 #[(.int .i64 (n : Int))] w (fun e w' => e = .returned (.int .i64 ((2 ^ n : Nat) : Int)) ∧ Below w.heap.size w w') := by
  refine Eng.enter (l := [(.int .i64 (n : Int))]) Tryd.func45 rfl 6 rfl (by simp) ?_
  refine Eng.seqk fun K1 hK1 => ?_
  refine Eng.reg ?_
  refine Eng.sv rfl rfl (Eng.x_as (v := (.int .i64 0)) rfl rfl) ?_
  refine Eng.nil ?_
  refine hK1 _ _ ?_
  refine Eng.seqk fun K2 hK2 => ?_
  refine Eng.reg ?_
  refine Eng.sv rfl rfl (Eng.x_mv (v := (.int .i64 (n : Int))) rfl rfl) ?_
  refine Eng.sv rfl rfl (Eng.x_conv rfl Tryd.underlying3 Tryd.underlying39 rfl (Eng.wu64 (r := (n : Int)) (by omega))) ?_
  refine Eng.sv rfl rfl (Eng.x_shl rfl rfl rfl (by omega) (r := ((2 ^ n : Nat) : Int)) ((shl_eq (x := 1) (y := n) rfl rfl (by omega) (by have := pow8 h1; omega)).trans (by rw [Nat.one_mul]))) ?_
  refine Eng.sv rfl rfl (Eng.x_as (v := (.int .i64 ((2 ^ n : Nat) : Int))) rfl rfl) ?_
  refine Eng.nil ?_
  refine hK2 _ _ ?_
  refine Eng.rt ?_
  refine Eng.ret (Eng.res1 (v1 := (.int .i64 ((2 ^ n : Nat) : Int))) rfl (Eng.rdt rfl)) ?_
  exact ⟨rfl, Below.refl _ _⟩
theorem full_is {h : Int} (e : ht h = true) (w : World) : Calls Tryd.prog 45 #[.int .i64 h] w fun e w' => e = .returned (.int .i64 ((2 ^ h.toNat : Nat) : Int)) ∧ Below w.heap.size w w' := by
  have hh := ht_yes e
  have := full_calls h.toNat (by omega) w
  rwa [Int.toNat_of_nonneg (by omega)] at this
set_option maxRecDepth 100000 in
set_option maxHeartbeats 4000000 in
theorem nvalid_calls (l i : Int) (w : World) : Calls Tryd.prog 54 #[(.agg #[(.int .i64 l), (.int .i64 i)])] w (fun e w' => e = .returned (.bool (nv l i)) ∧ Below w.heap.size w w') := by
  obtain ⟨p, hp⟩ : ∃ p : Int, p = ((2 ^ (48 - l.toNat) : Nat) : Int) := ⟨_, rfl⟩
  refine Eng.enter (l := [(.agg #[(.int .i64 l), (.int .i64 i)])]) Tryd.func54 rfl 24 rfl (by simp) ?_
  refine Eng.seqk fun K1 hK1 => ?_
  refine Eng.reg ?_
  refine Eng.bo (v := (.agg #[(.int .i64 l), (.int .i64 i)])) (cs := [(.int .i64 l), (.int .i64 i)]) rfl rfl rfl rfl rfl ?_
  intro w2 hk2 hb2 hz2
  refine Eng.sv rfl rfl (Eng.x_as (v := (.bool false)) rfl rfl) ?_
  refine Eng.nil ?_
  refine hK1 _ _ ?_
  refine Eng.seqk fun K3 hK3 => ?_
  by_cases q0 : 0 ≤ l
  · skip
    by_cases q1 : l ≤ 48
    · skip
      by_cases q2 : 0 ≤ i
      · skip
        by_cases q3 : i < p
        · skip
          refine Eng.draw 22 [fun vQ _ => vQ = (.pointer (some ⟨w.heap.size, 0, none⟩)), fun vQ _ => vQ = (.int .i64 l), fun vQ _ => vQ = (.bool true), fun vQ _ => vQ = (.bool true), fun vQ _ => vQ = (.pointer (some ⟨w.heap.size, 0, none⟩)), fun vQ _ => vQ = (.int .i64 l), fun vQ _ => vQ = (.bool true), fun vQ _ => vQ = (.bool true), fun vQ _ => vQ = (.bool true), fun vQ _ => vQ = (.pointer (some ⟨w.heap.size, 1, none⟩)), fun vQ _ => vQ = (.int .i64 i), fun vQ _ => vQ = (.bool true), fun vQ _ => vQ = (.bool true), fun vQ _ => vQ = (.bool true), fun vQ _ => vQ = (.pointer (some ⟨w.heap.size, 1, none⟩)), fun vQ _ => vQ = (.int .i64 i), fun vQ _ => vQ = (.pointer (some ⟨w.heap.size, 0, none⟩)), fun vQ _ => vQ = (.int .i64 l), fun vQ _ => vQ = (.int .i64 p), fun vQ _ => vQ = (.bool true), fun vQ _ => vQ = (.bool true), fun vQ _ => vQ = (.bool true)] (by kernel_rfl) (by kernel_rfl) (by kernel_rfl) (by kernel_rfl) rfl rfl ?_ ?_ ?_
          · exact ⟨fun _ _ _ h _ => h, fun _ _ _ h _ => h, fun _ _ _ h _ => h, fun _ _ _ h _ => h, fun _ _ _ h _ => h, fun _ _ _ h _ => h, fun _ _ _ h _ => h, fun _ _ _ h _ => h, fun _ _ _ h _ => h, fun _ _ _ h _ => h, fun _ _ _ h _ => h, fun _ _ _ h _ => h, fun _ _ _ h _ => h, fun _ _ _ h _ => h, fun _ _ _ h _ => h, fun _ _ _ h _ => h, fun _ _ _ h _ => h, fun _ _ _ h _ => h, fun _ _ _ h _ => h, fun _ _ _ h _ => h, fun _ _ _ h _ => h, fun _ _ _ h _ => h, trivial⟩
          · refine ⟨?_, ?_, ?_, ?_, ?_, ?_, ?_, ?_, ?_, ?_, ?_, ?_, ?_, ?_, ?_, ?_, ?_, ?_, ?_, ?_, ?_, ?_, trivial⟩
            · intro u' W hbW hkp hdp K hK
              refine Eng.dv rfl rfl ?_ (hK _ _ (Below.refl _ _) rfl)
              exact (Eng.x_fa (v := (.pointer (some ⟨w.heap.size, 0, none⟩))) rfl (show Eng.opv 24 u' (.tmp 1) = (.pointer (some ⟨w.heap.size, 0, none⟩)) from hkp 1 rfl) (by kernel_rfl))
            · intro u' W hbW hkp hdp K hK
              have e0 : u' 3 = (.pointer (some ⟨w.heap.size, 0, none⟩)) := hdp.1
              refine Eng.dv rfl rfl ?_ (hK _ _ (Below.refl _ _) rfl)
              exact (Eng.x_ld1 (v := (.int .i64 l)) rfl ag3_th (show Eng.opv 24 u' (.tmp 3) = (.pointer (some ⟨w.heap.size, 0, none⟩)) from e0) ((((hk2).below hbW)).cell 0))
            · intro u' W hbW hkp hdp K hK
              have e1 : u' 4 = (.int .i64 l) := hdp.1
              refine Eng.dv rfl rfl ?_ (hK _ _ (Below.refl _ _) rfl)
              exact (Eng.x_ge (r := true) rfl (show Eng.opv 24 u' (.tmp 4) = (.int .i64 l) from e1) rfl (decide_eq_true (by omega)))
            · intro u' W hbW hkp hdp K hK
              have e2 : u' 5 = (.bool true) := hdp.1
              refine Eng.dv rfl rfl ?_ (hK _ _ (Below.refl _ _) rfl)
              exact (Eng.x_mv (v := (.bool true)) rfl (show Eng.opv 24 u' (.tmp 5) = (.bool true) from e2))
            · intro u' W hbW hkp hdp K hK
              have e3 : u' 6 = (.bool true) := hdp.1
              refine Eng.dv (Eng.gt rfl rfl rfl (show Eng.opv 24 u' (.tmp 6) = (.bool true) from e3)) rfl ?_ (hK _ _ (Below.refl _ _) rfl)
              exact (Eng.x_fa (v := (.pointer (some ⟨w.heap.size, 0, none⟩))) rfl (show Eng.opv 24 u' (.tmp 1) = (.pointer (some ⟨w.heap.size, 0, none⟩)) from hkp 1 rfl) (by kernel_rfl))
            · intro u' W hbW hkp hdp K hK
              have e3 : u' 6 = (.bool true) := hdp.2.1
              have e4 : u' 7 = (.pointer (some ⟨w.heap.size, 0, none⟩)) := hdp.1
              refine Eng.dv (Eng.gt rfl rfl rfl (show Eng.opv 24 u' (.tmp 6) = (.bool true) from e3)) rfl ?_ (hK _ _ (Below.refl _ _) rfl)
              exact (Eng.x_ld1 (v := (.int .i64 l)) rfl ag3_th (show Eng.opv 24 u' (.tmp 7) = (.pointer (some ⟨w.heap.size, 0, none⟩)) from e4) ((((hk2).below hbW)).cell 0))
            · intro u' W hbW hkp hdp K hK
              have e3 : u' 6 = (.bool true) := hdp.2.1
              have e5 : u' 8 = (.int .i64 l) := hdp.1
              refine Eng.dv (Eng.gt rfl rfl rfl (show Eng.opv 24 u' (.tmp 6) = (.bool true) from e3)) rfl ?_ (hK _ _ (Below.refl _ _) rfl)
              exact (Eng.x_le (r := true) rfl (show Eng.opv 24 u' (.tmp 8) = (.int .i64 l) from e5) rfl (decide_eq_true (by omega)))
            · intro u' W hbW hkp hdp K hK
              have e3 : u' 6 = (.bool true) := hdp.1
              have e6 : u' 9 = (.bool true) := hdp.2.1
              refine Eng.dv rfl rfl ?_ (hK _ _ (Below.refl _ _) rfl)
              exact (Eng.x_pick (v := (.bool true)) rfl (show Eng.opv 24 u' (.tmp 6) = (.bool true) from e3) (show Eng.opv 24 u' (.tmp 9) = (.bool true) from e6) rfl rfl)
            · intro u' W hbW hkp hdp K hK
              have e7 : u' 10 = (.bool true) := hdp.1
              refine Eng.dv rfl rfl ?_ (hK _ _ (Below.refl _ _) rfl)
              exact (Eng.x_mv (v := (.bool true)) rfl (show Eng.opv 24 u' (.tmp 10) = (.bool true) from e7))
            · intro u' W hbW hkp hdp K hK
              have e8 : u' 11 = (.bool true) := hdp.1
              refine Eng.dv (Eng.gt rfl rfl rfl (show Eng.opv 24 u' (.tmp 11) = (.bool true) from e8)) rfl ?_ (hK _ _ (Below.refl _ _) rfl)
              exact (Eng.x_fa (v := (.pointer (some ⟨w.heap.size, 1, none⟩))) rfl (show Eng.opv 24 u' (.tmp 1) = (.pointer (some ⟨w.heap.size, 0, none⟩)) from hkp 1 rfl) (by kernel_rfl))
            · intro u' W hbW hkp hdp K hK
              have e8 : u' 11 = (.bool true) := hdp.2.1
              have e9 : u' 12 = (.pointer (some ⟨w.heap.size, 1, none⟩)) := hdp.1
              refine Eng.dv (Eng.gt rfl rfl rfl (show Eng.opv 24 u' (.tmp 11) = (.bool true) from e8)) rfl ?_ (hK _ _ (Below.refl _ _) rfl)
              exact (Eng.x_ld1 (v := (.int .i64 i)) rfl ag3_th (show Eng.opv 24 u' (.tmp 12) = (.pointer (some ⟨w.heap.size, 1, none⟩)) from e9) ((((hk2).below hbW)).cell 1))
            · intro u' W hbW hkp hdp K hK
              have e8 : u' 11 = (.bool true) := hdp.2.1
              have e10 : u' 13 = (.int .i64 i) := hdp.1
              refine Eng.dv (Eng.gt rfl rfl rfl (show Eng.opv 24 u' (.tmp 11) = (.bool true) from e8)) rfl ?_ (hK _ _ (Below.refl _ _) rfl)
              exact (Eng.x_ge (r := true) rfl (show Eng.opv 24 u' (.tmp 13) = (.int .i64 i) from e10) rfl (decide_eq_true (by omega)))
            · intro u' W hbW hkp hdp K hK
              have e8 : u' 11 = (.bool true) := hdp.1
              have e11 : u' 14 = (.bool true) := hdp.2.1
              refine Eng.dv rfl rfl ?_ (hK _ _ (Below.refl _ _) rfl)
              exact (Eng.x_pick (v := (.bool true)) rfl (show Eng.opv 24 u' (.tmp 11) = (.bool true) from e8) (show Eng.opv 24 u' (.tmp 14) = (.bool true) from e11) rfl rfl)
            · intro u' W hbW hkp hdp K hK
              have e12 : u' 15 = (.bool true) := hdp.1
              refine Eng.dv rfl rfl ?_ (hK _ _ (Below.refl _ _) rfl)
              exact (Eng.x_mv (v := (.bool true)) rfl (show Eng.opv 24 u' (.tmp 15) = (.bool true) from e12))
            · intro u' W hbW hkp hdp K hK
              have e13 : u' 16 = (.bool true) := hdp.1
              refine Eng.dv (Eng.gt rfl rfl rfl (show Eng.opv 24 u' (.tmp 16) = (.bool true) from e13)) rfl ?_ (hK _ _ (Below.refl _ _) rfl)
              exact (Eng.x_fa (v := (.pointer (some ⟨w.heap.size, 1, none⟩))) rfl (show Eng.opv 24 u' (.tmp 1) = (.pointer (some ⟨w.heap.size, 0, none⟩)) from hkp 1 rfl) (by kernel_rfl))
            · intro u' W hbW hkp hdp K hK
              have e13 : u' 16 = (.bool true) := hdp.2.1
              have e14 : u' 17 = (.pointer (some ⟨w.heap.size, 1, none⟩)) := hdp.1
              refine Eng.dv (Eng.gt rfl rfl rfl (show Eng.opv 24 u' (.tmp 16) = (.bool true) from e13)) rfl ?_ (hK _ _ (Below.refl _ _) rfl)
              exact (Eng.x_ld1 (v := (.int .i64 i)) rfl ag3_th (show Eng.opv 24 u' (.tmp 17) = (.pointer (some ⟨w.heap.size, 1, none⟩)) from e14) ((((hk2).below hbW)).cell 1))
            · intro u' W hbW hkp hdp K hK
              have e13 : u' 16 = (.bool true) := hdp.1
              refine Eng.dv (Eng.gt rfl rfl rfl (show Eng.opv 24 u' (.tmp 16) = (.bool true) from e13)) rfl ?_ (hK _ _ (Below.refl _ _) rfl)
              exact (Eng.x_fa (v := (.pointer (some ⟨w.heap.size, 0, none⟩))) rfl (show Eng.opv 24 u' (.tmp 1) = (.pointer (some ⟨w.heap.size, 0, none⟩)) from hkp 1 rfl) (by kernel_rfl))
            · intro u' W hbW hkp hdp K hK
              have e13 : u' 16 = (.bool true) := hdp.2.1
              have e16 : u' 19 = (.pointer (some ⟨w.heap.size, 0, none⟩)) := hdp.1
              refine Eng.dv (Eng.gt rfl rfl rfl (show Eng.opv 24 u' (.tmp 16) = (.bool true) from e13)) rfl ?_ (hK _ _ (Below.refl _ _) rfl)
              exact (Eng.x_ld1 (v := (.int .i64 l)) rfl ag3_th (show Eng.opv 24 u' (.tmp 19) = (.pointer (some ⟨w.heap.size, 0, none⟩)) from e16) ((((hk2).below hbW)).cell 0))
            · intro u' W hbW hkp hdp K hK
              have e13 : u' 16 = (.bool true) := hdp.2.1
              have e17 : u' 20 = (.int .i64 l) := hdp.1
              refine Eng.dv (Eng.gt rfl rfl rfl (show Eng.opv 24 u' (.tmp 16) = (.bool true) from e13)) rfl ?_ (hK _ _ (Below.refl _ _) rfl)
              exact (Eng.x_shr rfl rfl (show Eng.opv 24 u' (.tmp 20) = (.int .i64 l) from e17) (q0) (r := p) (by rw [hp]; exact shr48 q0 q1))
            · intro u' W hbW hkp hdp K hK
              have e13 : u' 16 = (.bool true) := hdp.2.2.1
              have e15 : u' 18 = (.int .i64 i) := hdp.1
              have e18 : u' 21 = (.int .i64 p) := hdp.2.1
              refine Eng.dv (Eng.gt rfl rfl rfl (show Eng.opv 24 u' (.tmp 16) = (.bool true) from e13)) rfl ?_ (hK _ _ (Below.refl _ _) rfl)
              exact (Eng.x_lt (r := true) rfl (show Eng.opv 24 u' (.tmp 18) = (.int .i64 i) from e15) (show Eng.opv 24 u' (.tmp 21) = (.int .i64 p) from e18) (decide_eq_true (by omega)))
            · intro u' W hbW hkp hdp K hK
              have e13 : u' 16 = (.bool true) := hdp.1
              have e19 : u' 22 = (.bool true) := hdp.2.1
              refine Eng.dv rfl rfl ?_ (hK _ _ (Below.refl _ _) rfl)
              exact (Eng.x_pick (v := (.bool true)) rfl (show Eng.opv 24 u' (.tmp 16) = (.bool true) from e13) (show Eng.opv 24 u' (.tmp 22) = (.bool true) from e19) rfl rfl)
            · intro u' W hbW hkp hdp K hK
              have e20 : u' 23 = (.bool true) := hdp.1
              refine Eng.dv rfl rfl ?_ (hK _ _ (Below.refl _ _) rfl)
              exact (Eng.x_as (v := (.bool true)) rfl (show Eng.opv 24 u' (.tmp 23) = (.bool true) from e20))
          · intro ud4 w4 hb4 hkp4 ⟨f4_0, f4_1, f4_2, f4_3, f4_4, f4_5, f4_6, f4_7, f4_8, f4_9, f4_10, f4_11, f4_12, f4_13, f4_14, f4_15, f4_16, f4_17, f4_18, f4_19, f4_20, f4_21, _⟩
            obtain rfl := Eng.collect (l := [(3, (.pointer (some ⟨w.heap.size, 0, none⟩))), (4, (.int .i64 l)), (5, (.bool true)), (6, (.bool true)), (7, (.pointer (some ⟨w.heap.size, 0, none⟩))), (8, (.int .i64 l)), (9, (.bool true)), (10, (.bool true)), (11, (.bool true)), (12, (.pointer (some ⟨w.heap.size, 1, none⟩))), (13, (.int .i64 i)), (14, (.bool true)), (15, (.bool true)), (16, (.bool true)), (17, (.pointer (some ⟨w.heap.size, 1, none⟩))), (18, (.int .i64 i)), (19, (.pointer (some ⟨w.heap.size, 0, none⟩))), (20, (.int .i64 l)), (21, (.int .i64 p)), (22, (.bool true)), (23, (.bool true)), (2, (.bool true))]) hkp4 ⟨f4_0, f4_1, f4_2, f4_3, f4_4, f4_5, f4_6, f4_7, f4_8, f4_9, f4_10, f4_11, f4_12, f4_13, f4_14, f4_15, f4_16, f4_17, f4_18, f4_19, f4_20, f4_21, trivial⟩ rfl
            refine Eng.nil ?_
            refine hK3 _ _ ?_
            refine Eng.rt ?_
            refine Eng.ret (Eng.res1 (v1 := (.bool true)) rfl (Eng.rdt rfl)) ?_
            have hB0_2 : Below w.heap.size w w4 := (hb2).trans (hb4.mono (hb2).size)
            exact ⟨by rw [show nv l i = true from decide_eq_true (by rw [← hp]; omega)], hB0_2⟩
        · skip
          refine Eng.draw 22 [fun vQ _ => vQ = (.pointer (some ⟨w.heap.size, 0, none⟩)), fun vQ _ => vQ = (.int .i64 l), fun vQ _ => vQ = (.bool true), fun vQ _ => vQ = (.bool true), fun vQ _ => vQ = (.pointer (some ⟨w.heap.size, 0, none⟩)), fun vQ _ => vQ = (.int .i64 l), fun vQ _ => vQ = (.bool true), fun vQ _ => vQ = (.bool true), fun vQ _ => vQ = (.bool true), fun vQ _ => vQ = (.pointer (some ⟨w.heap.size, 1, none⟩)), fun vQ _ => vQ = (.int .i64 i), fun vQ _ => vQ = (.bool true), fun vQ _ => vQ = (.bool true), fun vQ _ => vQ = (.bool true), fun vQ _ => vQ = (.pointer (some ⟨w.heap.size, 1, none⟩)), fun vQ _ => vQ = (.int .i64 i), fun vQ _ => vQ = (.pointer (some ⟨w.heap.size, 0, none⟩)), fun vQ _ => vQ = (.int .i64 l), fun vQ _ => vQ = (.int .i64 p), fun vQ _ => vQ = (.bool false), fun vQ _ => vQ = (.bool false), fun vQ _ => vQ = (.bool false)] (by kernel_rfl) (by kernel_rfl) (by kernel_rfl) (by kernel_rfl) rfl rfl ?_ ?_ ?_
          · exact ⟨fun _ _ _ h _ => h, fun _ _ _ h _ => h, fun _ _ _ h _ => h, fun _ _ _ h _ => h, fun _ _ _ h _ => h, fun _ _ _ h _ => h, fun _ _ _ h _ => h, fun _ _ _ h _ => h, fun _ _ _ h _ => h, fun _ _ _ h _ => h, fun _ _ _ h _ => h, fun _ _ _ h _ => h, fun _ _ _ h _ => h, fun _ _ _ h _ => h, fun _ _ _ h _ => h, fun _ _ _ h _ => h, fun _ _ _ h _ => h, fun _ _ _ h _ => h, fun _ _ _ h _ => h, fun _ _ _ h _ => h, fun _ _ _ h _ => h, fun _ _ _ h _ => h, trivial⟩
          · refine ⟨?_, ?_, ?_, ?_, ?_, ?_, ?_, ?_, ?_, ?_, ?_, ?_, ?_, ?_, ?_, ?_, ?_, ?_, ?_, ?_, ?_, ?_, trivial⟩
            · intro u' W hbW hkp hdp K hK
              refine Eng.dv rfl rfl ?_ (hK _ _ (Below.refl _ _) rfl)
              exact (Eng.x_fa (v := (.pointer (some ⟨w.heap.size, 0, none⟩))) rfl (show Eng.opv 24 u' (.tmp 1) = (.pointer (some ⟨w.heap.size, 0, none⟩)) from hkp 1 rfl) (by kernel_rfl))
            · intro u' W hbW hkp hdp K hK
              have e0 : u' 3 = (.pointer (some ⟨w.heap.size, 0, none⟩)) := hdp.1
              refine Eng.dv rfl rfl ?_ (hK _ _ (Below.refl _ _) rfl)
              exact (Eng.x_ld1 (v := (.int .i64 l)) rfl ag3_th (show Eng.opv 24 u' (.tmp 3) = (.pointer (some ⟨w.heap.size, 0, none⟩)) from e0) ((((hk2).below hbW)).cell 0))
            · intro u' W hbW hkp hdp K hK
              have e1 : u' 4 = (.int .i64 l) := hdp.1
              refine Eng.dv rfl rfl ?_ (hK _ _ (Below.refl _ _) rfl)
              exact (Eng.x_ge (r := true) rfl (show Eng.opv 24 u' (.tmp 4) = (.int .i64 l) from e1) rfl (decide_eq_true (by omega)))
            · intro u' W hbW hkp hdp K hK
              have e2 : u' 5 = (.bool true) := hdp.1
              refine Eng.dv rfl rfl ?_ (hK _ _ (Below.refl _ _) rfl)
              exact (Eng.x_mv (v := (.bool true)) rfl (show Eng.opv 24 u' (.tmp 5) = (.bool true) from e2))
            · intro u' W hbW hkp hdp K hK
              have e3 : u' 6 = (.bool true) := hdp.1
              refine Eng.dv (Eng.gt rfl rfl rfl (show Eng.opv 24 u' (.tmp 6) = (.bool true) from e3)) rfl ?_ (hK _ _ (Below.refl _ _) rfl)
              exact (Eng.x_fa (v := (.pointer (some ⟨w.heap.size, 0, none⟩))) rfl (show Eng.opv 24 u' (.tmp 1) = (.pointer (some ⟨w.heap.size, 0, none⟩)) from hkp 1 rfl) (by kernel_rfl))
            · intro u' W hbW hkp hdp K hK
              have e3 : u' 6 = (.bool true) := hdp.2.1
              have e4 : u' 7 = (.pointer (some ⟨w.heap.size, 0, none⟩)) := hdp.1
              refine Eng.dv (Eng.gt rfl rfl rfl (show Eng.opv 24 u' (.tmp 6) = (.bool true) from e3)) rfl ?_ (hK _ _ (Below.refl _ _) rfl)
              exact (Eng.x_ld1 (v := (.int .i64 l)) rfl ag3_th (show Eng.opv 24 u' (.tmp 7) = (.pointer (some ⟨w.heap.size, 0, none⟩)) from e4) ((((hk2).below hbW)).cell 0))
            · intro u' W hbW hkp hdp K hK
              have e3 : u' 6 = (.bool true) := hdp.2.1
              have e5 : u' 8 = (.int .i64 l) := hdp.1
              refine Eng.dv (Eng.gt rfl rfl rfl (show Eng.opv 24 u' (.tmp 6) = (.bool true) from e3)) rfl ?_ (hK _ _ (Below.refl _ _) rfl)
              exact (Eng.x_le (r := true) rfl (show Eng.opv 24 u' (.tmp 8) = (.int .i64 l) from e5) rfl (decide_eq_true (by omega)))
            · intro u' W hbW hkp hdp K hK
              have e3 : u' 6 = (.bool true) := hdp.1
              have e6 : u' 9 = (.bool true) := hdp.2.1
              refine Eng.dv rfl rfl ?_ (hK _ _ (Below.refl _ _) rfl)
              exact (Eng.x_pick (v := (.bool true)) rfl (show Eng.opv 24 u' (.tmp 6) = (.bool true) from e3) (show Eng.opv 24 u' (.tmp 9) = (.bool true) from e6) rfl rfl)
            · intro u' W hbW hkp hdp K hK
              have e7 : u' 10 = (.bool true) := hdp.1
              refine Eng.dv rfl rfl ?_ (hK _ _ (Below.refl _ _) rfl)
              exact (Eng.x_mv (v := (.bool true)) rfl (show Eng.opv 24 u' (.tmp 10) = (.bool true) from e7))
            · intro u' W hbW hkp hdp K hK
              have e8 : u' 11 = (.bool true) := hdp.1
              refine Eng.dv (Eng.gt rfl rfl rfl (show Eng.opv 24 u' (.tmp 11) = (.bool true) from e8)) rfl ?_ (hK _ _ (Below.refl _ _) rfl)
              exact (Eng.x_fa (v := (.pointer (some ⟨w.heap.size, 1, none⟩))) rfl (show Eng.opv 24 u' (.tmp 1) = (.pointer (some ⟨w.heap.size, 0, none⟩)) from hkp 1 rfl) (by kernel_rfl))
            · intro u' W hbW hkp hdp K hK
              have e8 : u' 11 = (.bool true) := hdp.2.1
              have e9 : u' 12 = (.pointer (some ⟨w.heap.size, 1, none⟩)) := hdp.1
              refine Eng.dv (Eng.gt rfl rfl rfl (show Eng.opv 24 u' (.tmp 11) = (.bool true) from e8)) rfl ?_ (hK _ _ (Below.refl _ _) rfl)
              exact (Eng.x_ld1 (v := (.int .i64 i)) rfl ag3_th (show Eng.opv 24 u' (.tmp 12) = (.pointer (some ⟨w.heap.size, 1, none⟩)) from e9) ((((hk2).below hbW)).cell 1))
            · intro u' W hbW hkp hdp K hK
              have e8 : u' 11 = (.bool true) := hdp.2.1
              have e10 : u' 13 = (.int .i64 i) := hdp.1
              refine Eng.dv (Eng.gt rfl rfl rfl (show Eng.opv 24 u' (.tmp 11) = (.bool true) from e8)) rfl ?_ (hK _ _ (Below.refl _ _) rfl)
              exact (Eng.x_ge (r := true) rfl (show Eng.opv 24 u' (.tmp 13) = (.int .i64 i) from e10) rfl (decide_eq_true (by omega)))
            · intro u' W hbW hkp hdp K hK
              have e8 : u' 11 = (.bool true) := hdp.1
              have e11 : u' 14 = (.bool true) := hdp.2.1
              refine Eng.dv rfl rfl ?_ (hK _ _ (Below.refl _ _) rfl)
              exact (Eng.x_pick (v := (.bool true)) rfl (show Eng.opv 24 u' (.tmp 11) = (.bool true) from e8) (show Eng.opv 24 u' (.tmp 14) = (.bool true) from e11) rfl rfl)
            · intro u' W hbW hkp hdp K hK
              have e12 : u' 15 = (.bool true) := hdp.1
              refine Eng.dv rfl rfl ?_ (hK _ _ (Below.refl _ _) rfl)
              exact (Eng.x_mv (v := (.bool true)) rfl (show Eng.opv 24 u' (.tmp 15) = (.bool true) from e12))
            · intro u' W hbW hkp hdp K hK
              have e13 : u' 16 = (.bool true) := hdp.1
              refine Eng.dv (Eng.gt rfl rfl rfl (show Eng.opv 24 u' (.tmp 16) = (.bool true) from e13)) rfl ?_ (hK _ _ (Below.refl _ _) rfl)
              exact (Eng.x_fa (v := (.pointer (some ⟨w.heap.size, 1, none⟩))) rfl (show Eng.opv 24 u' (.tmp 1) = (.pointer (some ⟨w.heap.size, 0, none⟩)) from hkp 1 rfl) (by kernel_rfl))
            · intro u' W hbW hkp hdp K hK
              have e13 : u' 16 = (.bool true) := hdp.2.1
              have e14 : u' 17 = (.pointer (some ⟨w.heap.size, 1, none⟩)) := hdp.1
              refine Eng.dv (Eng.gt rfl rfl rfl (show Eng.opv 24 u' (.tmp 16) = (.bool true) from e13)) rfl ?_ (hK _ _ (Below.refl _ _) rfl)
              exact (Eng.x_ld1 (v := (.int .i64 i)) rfl ag3_th (show Eng.opv 24 u' (.tmp 17) = (.pointer (some ⟨w.heap.size, 1, none⟩)) from e14) ((((hk2).below hbW)).cell 1))
            · intro u' W hbW hkp hdp K hK
              have e13 : u' 16 = (.bool true) := hdp.1
              refine Eng.dv (Eng.gt rfl rfl rfl (show Eng.opv 24 u' (.tmp 16) = (.bool true) from e13)) rfl ?_ (hK _ _ (Below.refl _ _) rfl)
              exact (Eng.x_fa (v := (.pointer (some ⟨w.heap.size, 0, none⟩))) rfl (show Eng.opv 24 u' (.tmp 1) = (.pointer (some ⟨w.heap.size, 0, none⟩)) from hkp 1 rfl) (by kernel_rfl))
            · intro u' W hbW hkp hdp K hK
              have e13 : u' 16 = (.bool true) := hdp.2.1
              have e16 : u' 19 = (.pointer (some ⟨w.heap.size, 0, none⟩)) := hdp.1
              refine Eng.dv (Eng.gt rfl rfl rfl (show Eng.opv 24 u' (.tmp 16) = (.bool true) from e13)) rfl ?_ (hK _ _ (Below.refl _ _) rfl)
              exact (Eng.x_ld1 (v := (.int .i64 l)) rfl ag3_th (show Eng.opv 24 u' (.tmp 19) = (.pointer (some ⟨w.heap.size, 0, none⟩)) from e16) ((((hk2).below hbW)).cell 0))
            · intro u' W hbW hkp hdp K hK
              have e13 : u' 16 = (.bool true) := hdp.2.1
              have e17 : u' 20 = (.int .i64 l) := hdp.1
              refine Eng.dv (Eng.gt rfl rfl rfl (show Eng.opv 24 u' (.tmp 16) = (.bool true) from e13)) rfl ?_ (hK _ _ (Below.refl _ _) rfl)
              exact (Eng.x_shr rfl rfl (show Eng.opv 24 u' (.tmp 20) = (.int .i64 l) from e17) (q0) (r := p) (by rw [hp]; exact shr48 q0 q1))
            · intro u' W hbW hkp hdp K hK
              have e13 : u' 16 = (.bool true) := hdp.2.2.1
              have e15 : u' 18 = (.int .i64 i) := hdp.1
              have e18 : u' 21 = (.int .i64 p) := hdp.2.1
              refine Eng.dv (Eng.gt rfl rfl rfl (show Eng.opv 24 u' (.tmp 16) = (.bool true) from e13)) rfl ?_ (hK _ _ (Below.refl _ _) rfl)
              exact (Eng.x_lt (r := false) rfl (show Eng.opv 24 u' (.tmp 18) = (.int .i64 i) from e15) (show Eng.opv 24 u' (.tmp 21) = (.int .i64 p) from e18) (decide_eq_false (by omega)))
            · intro u' W hbW hkp hdp K hK
              have e13 : u' 16 = (.bool true) := hdp.1
              have e19 : u' 22 = (.bool false) := hdp.2.1
              refine Eng.dv rfl rfl ?_ (hK _ _ (Below.refl _ _) rfl)
              exact (Eng.x_pick (v := (.bool false)) rfl (show Eng.opv 24 u' (.tmp 16) = (.bool true) from e13) (show Eng.opv 24 u' (.tmp 22) = (.bool false) from e19) rfl rfl)
            · intro u' W hbW hkp hdp K hK
              have e20 : u' 23 = (.bool false) := hdp.1
              refine Eng.dv rfl rfl ?_ (hK _ _ (Below.refl _ _) rfl)
              exact (Eng.x_as (v := (.bool false)) rfl (show Eng.opv 24 u' (.tmp 23) = (.bool false) from e20))
          · intro ud5 w5 hb5 hkp5 ⟨f5_0, f5_1, f5_2, f5_3, f5_4, f5_5, f5_6, f5_7, f5_8, f5_9, f5_10, f5_11, f5_12, f5_13, f5_14, f5_15, f5_16, f5_17, f5_18, f5_19, f5_20, f5_21, _⟩
            obtain rfl := Eng.collect (l := [(3, (.pointer (some ⟨w.heap.size, 0, none⟩))), (4, (.int .i64 l)), (5, (.bool true)), (6, (.bool true)), (7, (.pointer (some ⟨w.heap.size, 0, none⟩))), (8, (.int .i64 l)), (9, (.bool true)), (10, (.bool true)), (11, (.bool true)), (12, (.pointer (some ⟨w.heap.size, 1, none⟩))), (13, (.int .i64 i)), (14, (.bool true)), (15, (.bool true)), (16, (.bool true)), (17, (.pointer (some ⟨w.heap.size, 1, none⟩))), (18, (.int .i64 i)), (19, (.pointer (some ⟨w.heap.size, 0, none⟩))), (20, (.int .i64 l)), (21, (.int .i64 p)), (22, (.bool false)), (23, (.bool false)), (2, (.bool false))]) hkp5 ⟨f5_0, f5_1, f5_2, f5_3, f5_4, f5_5, f5_6, f5_7, f5_8, f5_9, f5_10, f5_11, f5_12, f5_13, f5_14, f5_15, f5_16, f5_17, f5_18, f5_19, f5_20, f5_21, trivial⟩ rfl
            refine Eng.nil ?_
            refine hK3 _ _ ?_
            refine Eng.rt ?_
            refine Eng.ret (Eng.res1 (v1 := (.bool false)) rfl (Eng.rdt rfl)) ?_
            have hB0_2 : Below w.heap.size w w5 := (hb2).trans (hb5.mono (hb2).size)
            exact ⟨by rw [show nv l i = false from decide_eq_false (by rw [← hp]; omega)], hB0_2⟩
      · skip
        refine Eng.draw 22 [fun vQ _ => vQ = (.pointer (some ⟨w.heap.size, 0, none⟩)), fun vQ _ => vQ = (.int .i64 l), fun vQ _ => vQ = (.bool true), fun vQ _ => vQ = (.bool true), fun vQ _ => vQ = (.pointer (some ⟨w.heap.size, 0, none⟩)), fun vQ _ => vQ = (.int .i64 l), fun vQ _ => vQ = (.bool true), fun vQ _ => vQ = (.bool true), fun vQ _ => vQ = (.bool true), fun vQ _ => vQ = (.pointer (some ⟨w.heap.size, 1, none⟩)), fun vQ _ => vQ = (.int .i64 i), fun vQ _ => vQ = (.bool false), fun vQ _ => vQ = (.bool false), fun vQ _ => vQ = (.bool false), fun vQ _ => vQ = undef, fun vQ _ => vQ = undef, fun vQ _ => vQ = undef, fun vQ _ => vQ = undef, fun vQ _ => vQ = undef, fun vQ _ => vQ = undef, fun vQ _ => vQ = (.bool false), fun vQ _ => vQ = (.bool false)] (by kernel_rfl) (by kernel_rfl) (by kernel_rfl) (by kernel_rfl) rfl rfl ?_ ?_ ?_
        · exact ⟨fun _ _ _ h _ => h, fun _ _ _ h _ => h, fun _ _ _ h _ => h, fun _ _ _ h _ => h, fun _ _ _ h _ => h, fun _ _ _ h _ => h, fun _ _ _ h _ => h, fun _ _ _ h _ => h, fun _ _ _ h _ => h, fun _ _ _ h _ => h, fun _ _ _ h _ => h, fun _ _ _ h _ => h, fun _ _ _ h _ => h, fun _ _ _ h _ => h, fun _ _ _ h _ => h, fun _ _ _ h _ => h, fun _ _ _ h _ => h, fun _ _ _ h _ => h, fun _ _ _ h _ => h, fun _ _ _ h _ => h, fun _ _ _ h _ => h, fun _ _ _ h _ => h, trivial⟩
        · refine ⟨?_, ?_, ?_, ?_, ?_, ?_, ?_, ?_, ?_, ?_, ?_, ?_, ?_, ?_, ?_, ?_, ?_, ?_, ?_, ?_, ?_, ?_, trivial⟩
          · intro u' W hbW hkp hdp K hK
            refine Eng.dv rfl rfl ?_ (hK _ _ (Below.refl _ _) rfl)
            exact (Eng.x_fa (v := (.pointer (some ⟨w.heap.size, 0, none⟩))) rfl (show Eng.opv 24 u' (.tmp 1) = (.pointer (some ⟨w.heap.size, 0, none⟩)) from hkp 1 rfl) (by kernel_rfl))
          · intro u' W hbW hkp hdp K hK
            have e0 : u' 3 = (.pointer (some ⟨w.heap.size, 0, none⟩)) := hdp.1
            refine Eng.dv rfl rfl ?_ (hK _ _ (Below.refl _ _) rfl)
            exact (Eng.x_ld1 (v := (.int .i64 l)) rfl ag3_th (show Eng.opv 24 u' (.tmp 3) = (.pointer (some ⟨w.heap.size, 0, none⟩)) from e0) ((((hk2).below hbW)).cell 0))
          · intro u' W hbW hkp hdp K hK
            have e1 : u' 4 = (.int .i64 l) := hdp.1
            refine Eng.dv rfl rfl ?_ (hK _ _ (Below.refl _ _) rfl)
            exact (Eng.x_ge (r := true) rfl (show Eng.opv 24 u' (.tmp 4) = (.int .i64 l) from e1) rfl (decide_eq_true (by omega)))
          · intro u' W hbW hkp hdp K hK
            have e2 : u' 5 = (.bool true) := hdp.1
            refine Eng.dv rfl rfl ?_ (hK _ _ (Below.refl _ _) rfl)
            exact (Eng.x_mv (v := (.bool true)) rfl (show Eng.opv 24 u' (.tmp 5) = (.bool true) from e2))
          · intro u' W hbW hkp hdp K hK
            have e3 : u' 6 = (.bool true) := hdp.1
            refine Eng.dv (Eng.gt rfl rfl rfl (show Eng.opv 24 u' (.tmp 6) = (.bool true) from e3)) rfl ?_ (hK _ _ (Below.refl _ _) rfl)
            exact (Eng.x_fa (v := (.pointer (some ⟨w.heap.size, 0, none⟩))) rfl (show Eng.opv 24 u' (.tmp 1) = (.pointer (some ⟨w.heap.size, 0, none⟩)) from hkp 1 rfl) (by kernel_rfl))
          · intro u' W hbW hkp hdp K hK
            have e3 : u' 6 = (.bool true) := hdp.2.1
            have e4 : u' 7 = (.pointer (some ⟨w.heap.size, 0, none⟩)) := hdp.1
            refine Eng.dv (Eng.gt rfl rfl rfl (show Eng.opv 24 u' (.tmp 6) = (.bool true) from e3)) rfl ?_ (hK _ _ (Below.refl _ _) rfl)
            exact (Eng.x_ld1 (v := (.int .i64 l)) rfl ag3_th (show Eng.opv 24 u' (.tmp 7) = (.pointer (some ⟨w.heap.size, 0, none⟩)) from e4) ((((hk2).below hbW)).cell 0))
          · intro u' W hbW hkp hdp K hK
            have e3 : u' 6 = (.bool true) := hdp.2.1
            have e5 : u' 8 = (.int .i64 l) := hdp.1
            refine Eng.dv (Eng.gt rfl rfl rfl (show Eng.opv 24 u' (.tmp 6) = (.bool true) from e3)) rfl ?_ (hK _ _ (Below.refl _ _) rfl)
            exact (Eng.x_le (r := true) rfl (show Eng.opv 24 u' (.tmp 8) = (.int .i64 l) from e5) rfl (decide_eq_true (by omega)))
          · intro u' W hbW hkp hdp K hK
            have e3 : u' 6 = (.bool true) := hdp.1
            have e6 : u' 9 = (.bool true) := hdp.2.1
            refine Eng.dv rfl rfl ?_ (hK _ _ (Below.refl _ _) rfl)
            exact (Eng.x_pick (v := (.bool true)) rfl (show Eng.opv 24 u' (.tmp 6) = (.bool true) from e3) (show Eng.opv 24 u' (.tmp 9) = (.bool true) from e6) rfl rfl)
          · intro u' W hbW hkp hdp K hK
            have e7 : u' 10 = (.bool true) := hdp.1
            refine Eng.dv rfl rfl ?_ (hK _ _ (Below.refl _ _) rfl)
            exact (Eng.x_mv (v := (.bool true)) rfl (show Eng.opv 24 u' (.tmp 10) = (.bool true) from e7))
          · intro u' W hbW hkp hdp K hK
            have e8 : u' 11 = (.bool true) := hdp.1
            refine Eng.dv (Eng.gt rfl rfl rfl (show Eng.opv 24 u' (.tmp 11) = (.bool true) from e8)) rfl ?_ (hK _ _ (Below.refl _ _) rfl)
            exact (Eng.x_fa (v := (.pointer (some ⟨w.heap.size, 1, none⟩))) rfl (show Eng.opv 24 u' (.tmp 1) = (.pointer (some ⟨w.heap.size, 0, none⟩)) from hkp 1 rfl) (by kernel_rfl))
          · intro u' W hbW hkp hdp K hK
            have e8 : u' 11 = (.bool true) := hdp.2.1
            have e9 : u' 12 = (.pointer (some ⟨w.heap.size, 1, none⟩)) := hdp.1
            refine Eng.dv (Eng.gt rfl rfl rfl (show Eng.opv 24 u' (.tmp 11) = (.bool true) from e8)) rfl ?_ (hK _ _ (Below.refl _ _) rfl)
            exact (Eng.x_ld1 (v := (.int .i64 i)) rfl ag3_th (show Eng.opv 24 u' (.tmp 12) = (.pointer (some ⟨w.heap.size, 1, none⟩)) from e9) ((((hk2).below hbW)).cell 1))
          · intro u' W hbW hkp hdp K hK
            have e8 : u' 11 = (.bool true) := hdp.2.1
            have e10 : u' 13 = (.int .i64 i) := hdp.1
            refine Eng.dv (Eng.gt rfl rfl rfl (show Eng.opv 24 u' (.tmp 11) = (.bool true) from e8)) rfl ?_ (hK _ _ (Below.refl _ _) rfl)
            exact (Eng.x_ge (r := false) rfl (show Eng.opv 24 u' (.tmp 13) = (.int .i64 i) from e10) rfl (decide_eq_false (by omega)))
          · intro u' W hbW hkp hdp K hK
            have e8 : u' 11 = (.bool true) := hdp.1
            have e11 : u' 14 = (.bool false) := hdp.2.1
            refine Eng.dv rfl rfl ?_ (hK _ _ (Below.refl _ _) rfl)
            exact (Eng.x_pick (v := (.bool false)) rfl (show Eng.opv 24 u' (.tmp 11) = (.bool true) from e8) (show Eng.opv 24 u' (.tmp 14) = (.bool false) from e11) rfl rfl)
          · intro u' W hbW hkp hdp K hK
            have e12 : u' 15 = (.bool false) := hdp.1
            refine Eng.dv rfl rfl ?_ (hK _ _ (Below.refl _ _) rfl)
            exact (Eng.x_mv (v := (.bool false)) rfl (show Eng.opv 24 u' (.tmp 15) = (.bool false) from e12))
          · intro u' W hbW hkp hdp K hK
            have e13 : u' 16 = (.bool false) := hdp.1
            exact Eng.dg0 (Eng.gf rfl rfl rfl (show Eng.opv 24 u' (.tmp 16) = (.bool false) from e13)) rfl (hK _ _ (Below.refl _ _) rfl)
          · intro u' W hbW hkp hdp K hK
            have e13 : u' 16 = (.bool false) := hdp.2.1
            exact Eng.dg0 (Eng.gf rfl rfl rfl (show Eng.opv 24 u' (.tmp 16) = (.bool false) from e13)) rfl (hK _ _ (Below.refl _ _) rfl)
          · intro u' W hbW hkp hdp K hK
            have e13 : u' 16 = (.bool false) := hdp.1
            exact Eng.dg0 (Eng.gf rfl rfl rfl (show Eng.opv 24 u' (.tmp 16) = (.bool false) from e13)) rfl (hK _ _ (Below.refl _ _) rfl)
          · intro u' W hbW hkp hdp K hK
            have e13 : u' 16 = (.bool false) := hdp.2.1
            exact Eng.dg0 (Eng.gf rfl rfl rfl (show Eng.opv 24 u' (.tmp 16) = (.bool false) from e13)) rfl (hK _ _ (Below.refl _ _) rfl)
          · intro u' W hbW hkp hdp K hK
            have e13 : u' 16 = (.bool false) := hdp.2.1
            exact Eng.dg0 (Eng.gf rfl rfl rfl (show Eng.opv 24 u' (.tmp 16) = (.bool false) from e13)) rfl (hK _ _ (Below.refl _ _) rfl)
          · intro u' W hbW hkp hdp K hK
            have e13 : u' 16 = (.bool false) := hdp.2.2.1
            exact Eng.dg0 (Eng.gf rfl rfl rfl (show Eng.opv 24 u' (.tmp 16) = (.bool false) from e13)) rfl (hK _ _ (Below.refl _ _) rfl)
          · intro u' W hbW hkp hdp K hK
            have e13 : u' 16 = (.bool false) := hdp.1
            have e19 : u' 22 = undef := hdp.2.1
            refine Eng.dv rfl rfl ?_ (hK _ _ (Below.refl _ _) rfl)
            exact (Eng.x_pick (v := (.bool false)) rfl (show Eng.opv 24 u' (.tmp 16) = (.bool false) from e13) (show Eng.opv 24 u' (.tmp 22) = undef from e19) rfl rfl)
          · intro u' W hbW hkp hdp K hK
            have e20 : u' 23 = (.bool false) := hdp.1
            refine Eng.dv rfl rfl ?_ (hK _ _ (Below.refl _ _) rfl)
            exact (Eng.x_as (v := (.bool false)) rfl (show Eng.opv 24 u' (.tmp 23) = (.bool false) from e20))
        · intro ud6 w6 hb6 hkp6 ⟨f6_0, f6_1, f6_2, f6_3, f6_4, f6_5, f6_6, f6_7, f6_8, f6_9, f6_10, f6_11, f6_12, f6_13, f6_14, f6_15, f6_16, f6_17, f6_18, f6_19, f6_20, f6_21, _⟩
          obtain rfl := Eng.collect (l := [(3, (.pointer (some ⟨w.heap.size, 0, none⟩))), (4, (.int .i64 l)), (5, (.bool true)), (6, (.bool true)), (7, (.pointer (some ⟨w.heap.size, 0, none⟩))), (8, (.int .i64 l)), (9, (.bool true)), (10, (.bool true)), (11, (.bool true)), (12, (.pointer (some ⟨w.heap.size, 1, none⟩))), (13, (.int .i64 i)), (14, (.bool false)), (15, (.bool false)), (16, (.bool false)), (17, undef), (18, undef), (19, undef), (20, undef), (21, undef), (22, undef), (23, (.bool false)), (2, (.bool false))]) hkp6 ⟨f6_0, f6_1, f6_2, f6_3, f6_4, f6_5, f6_6, f6_7, f6_8, f6_9, f6_10, f6_11, f6_12, f6_13, f6_14, f6_15, f6_16, f6_17, f6_18, f6_19, f6_20, f6_21, trivial⟩ rfl
          refine Eng.nil ?_
          refine hK3 _ _ ?_
          refine Eng.rt ?_
          refine Eng.ret (Eng.res1 (v1 := (.bool false)) rfl (Eng.rdt rfl)) ?_
          have hB0_2 : Below w.heap.size w w6 := (hb2).trans (hb6.mono (hb2).size)
          exact ⟨by rw [show nv l i = false from decide_eq_false (by rw [← hp]; omega)], hB0_2⟩
    · skip
      refine Eng.draw 22 [fun vQ _ => vQ = (.pointer (some ⟨w.heap.size, 0, none⟩)), fun vQ _ => vQ = (.int .i64 l), fun vQ _ => vQ = (.bool true), fun vQ _ => vQ = (.bool true), fun vQ _ => vQ = (.pointer (some ⟨w.heap.size, 0, none⟩)), fun vQ _ => vQ = (.int .i64 l), fun vQ _ => vQ = (.bool false), fun vQ _ => vQ = (.bool false), fun vQ _ => vQ = (.bool false), fun vQ _ => vQ = undef, fun vQ _ => vQ = undef, fun vQ _ => vQ = undef, fun vQ _ => vQ = (.bool false), fun vQ _ => vQ = (.bool false), fun vQ _ => vQ = undef, fun vQ _ => vQ = undef, fun vQ _ => vQ = undef, fun vQ _ => vQ = undef, fun vQ _ => vQ = undef, fun vQ _ => vQ = undef, fun vQ _ => vQ = (.bool false), fun vQ _ => vQ = (.bool false)] (by kernel_rfl) (by kernel_rfl) (by kernel_rfl) (by kernel_rfl) rfl rfl ?_ ?_ ?_
      · exact ⟨fun _ _ _ h _ => h, fun _ _ _ h _ => h, fun _ _ _ h _ => h, fun _ _ _ h _ => h, fun _ _ _ h _ => h, fun _ _ _ h _ => h, fun _ _ _ h _ => h, fun _ _ _ h _ => h, fun _ _ _ h _ => h, fun _ _ _ h _ => h, fun _ _ _ h _ => h, fun _ _ _ h _ => h, fun _ _ _ h _ => h, fun _ _ _ h _ => h, fun _ _ _ h _ => h, fun _ _ _ h _ => h, fun _ _ _ h _ => h, fun _ _ _ h _ => h, fun _ _ _ h _ => h, fun _ _ _ h _ => h, fun _ _ _ h _ => h, fun _ _ _ h _ => h, trivial⟩
      · refine ⟨?_, ?_, ?_, ?_, ?_, ?_, ?_, ?_, ?_, ?_, ?_, ?_, ?_, ?_, ?_, ?_, ?_, ?_, ?_, ?_, ?_, ?_, trivial⟩
        · intro u' W hbW hkp hdp K hK
          refine Eng.dv rfl rfl ?_ (hK _ _ (Below.refl _ _) rfl)
          exact (Eng.x_fa (v := (.pointer (some ⟨w.heap.size, 0, none⟩))) rfl (show Eng.opv 24 u' (.tmp 1) = (.pointer (some ⟨w.heap.size, 0, none⟩)) from hkp 1 rfl) (by kernel_rfl))
        · intro u' W hbW hkp hdp K hK
          have e0 : u' 3 = (.pointer (some ⟨w.heap.size, 0, none⟩)) := hdp.1
          refine Eng.dv rfl rfl ?_ (hK _ _ (Below.refl _ _) rfl)
          exact (Eng.x_ld1 (v := (.int .i64 l)) rfl ag3_th (show Eng.opv 24 u' (.tmp 3) = (.pointer (some ⟨w.heap.size, 0, none⟩)) from e0) ((((hk2).below hbW)).cell 0))
        · intro u' W hbW hkp hdp K hK
          have e1 : u' 4 = (.int .i64 l) := hdp.1
          refine Eng.dv rfl rfl ?_ (hK _ _ (Below.refl _ _) rfl)
          exact (Eng.x_ge (r := true) rfl (show Eng.opv 24 u' (.tmp 4) = (.int .i64 l) from e1) rfl (decide_eq_true (by omega)))
        · intro u' W hbW hkp hdp K hK
          have e2 : u' 5 = (.bool true) := hdp.1
          refine Eng.dv rfl rfl ?_ (hK _ _ (Below.refl _ _) rfl)
          exact (Eng.x_mv (v := (.bool true)) rfl (show Eng.opv 24 u' (.tmp 5) = (.bool true) from e2))
        · intro u' W hbW hkp hdp K hK
          have e3 : u' 6 = (.bool true) := hdp.1
          refine Eng.dv (Eng.gt rfl rfl rfl (show Eng.opv 24 u' (.tmp 6) = (.bool true) from e3)) rfl ?_ (hK _ _ (Below.refl _ _) rfl)
          exact (Eng.x_fa (v := (.pointer (some ⟨w.heap.size, 0, none⟩))) rfl (show Eng.opv 24 u' (.tmp 1) = (.pointer (some ⟨w.heap.size, 0, none⟩)) from hkp 1 rfl) (by kernel_rfl))
        · intro u' W hbW hkp hdp K hK
          have e3 : u' 6 = (.bool true) := hdp.2.1
          have e4 : u' 7 = (.pointer (some ⟨w.heap.size, 0, none⟩)) := hdp.1
          refine Eng.dv (Eng.gt rfl rfl rfl (show Eng.opv 24 u' (.tmp 6) = (.bool true) from e3)) rfl ?_ (hK _ _ (Below.refl _ _) rfl)
          exact (Eng.x_ld1 (v := (.int .i64 l)) rfl ag3_th (show Eng.opv 24 u' (.tmp 7) = (.pointer (some ⟨w.heap.size, 0, none⟩)) from e4) ((((hk2).below hbW)).cell 0))
        · intro u' W hbW hkp hdp K hK
          have e3 : u' 6 = (.bool true) := hdp.2.1
          have e5 : u' 8 = (.int .i64 l) := hdp.1
          refine Eng.dv (Eng.gt rfl rfl rfl (show Eng.opv 24 u' (.tmp 6) = (.bool true) from e3)) rfl ?_ (hK _ _ (Below.refl _ _) rfl)
          exact (Eng.x_le (r := false) rfl (show Eng.opv 24 u' (.tmp 8) = (.int .i64 l) from e5) rfl (decide_eq_false (by omega)))
        · intro u' W hbW hkp hdp K hK
          have e3 : u' 6 = (.bool true) := hdp.1
          have e6 : u' 9 = (.bool false) := hdp.2.1
          refine Eng.dv rfl rfl ?_ (hK _ _ (Below.refl _ _) rfl)
          exact (Eng.x_pick (v := (.bool false)) rfl (show Eng.opv 24 u' (.tmp 6) = (.bool true) from e3) (show Eng.opv 24 u' (.tmp 9) = (.bool false) from e6) rfl rfl)
        · intro u' W hbW hkp hdp K hK
          have e7 : u' 10 = (.bool false) := hdp.1
          refine Eng.dv rfl rfl ?_ (hK _ _ (Below.refl _ _) rfl)
          exact (Eng.x_mv (v := (.bool false)) rfl (show Eng.opv 24 u' (.tmp 10) = (.bool false) from e7))
        · intro u' W hbW hkp hdp K hK
          have e8 : u' 11 = (.bool false) := hdp.1
          exact Eng.dg0 (Eng.gf rfl rfl rfl (show Eng.opv 24 u' (.tmp 11) = (.bool false) from e8)) rfl (hK _ _ (Below.refl _ _) rfl)
        · intro u' W hbW hkp hdp K hK
          have e8 : u' 11 = (.bool false) := hdp.2.1
          exact Eng.dg0 (Eng.gf rfl rfl rfl (show Eng.opv 24 u' (.tmp 11) = (.bool false) from e8)) rfl (hK _ _ (Below.refl _ _) rfl)
        · intro u' W hbW hkp hdp K hK
          have e8 : u' 11 = (.bool false) := hdp.2.1
          exact Eng.dg0 (Eng.gf rfl rfl rfl (show Eng.opv 24 u' (.tmp 11) = (.bool false) from e8)) rfl (hK _ _ (Below.refl _ _) rfl)
        · intro u' W hbW hkp hdp K hK
          have e8 : u' 11 = (.bool false) := hdp.1
          have e11 : u' 14 = undef := hdp.2.1
          refine Eng.dv rfl rfl ?_ (hK _ _ (Below.refl _ _) rfl)
          exact (Eng.x_pick (v := (.bool false)) rfl (show Eng.opv 24 u' (.tmp 11) = (.bool false) from e8) (show Eng.opv 24 u' (.tmp 14) = undef from e11) rfl rfl)
        · intro u' W hbW hkp hdp K hK
          have e12 : u' 15 = (.bool false) := hdp.1
          refine Eng.dv rfl rfl ?_ (hK _ _ (Below.refl _ _) rfl)
          exact (Eng.x_mv (v := (.bool false)) rfl (show Eng.opv 24 u' (.tmp 15) = (.bool false) from e12))
        · intro u' W hbW hkp hdp K hK
          have e13 : u' 16 = (.bool false) := hdp.1
          exact Eng.dg0 (Eng.gf rfl rfl rfl (show Eng.opv 24 u' (.tmp 16) = (.bool false) from e13)) rfl (hK _ _ (Below.refl _ _) rfl)
        · intro u' W hbW hkp hdp K hK
          have e13 : u' 16 = (.bool false) := hdp.2.1
          exact Eng.dg0 (Eng.gf rfl rfl rfl (show Eng.opv 24 u' (.tmp 16) = (.bool false) from e13)) rfl (hK _ _ (Below.refl _ _) rfl)
        · intro u' W hbW hkp hdp K hK
          have e13 : u' 16 = (.bool false) := hdp.1
          exact Eng.dg0 (Eng.gf rfl rfl rfl (show Eng.opv 24 u' (.tmp 16) = (.bool false) from e13)) rfl (hK _ _ (Below.refl _ _) rfl)
        · intro u' W hbW hkp hdp K hK
          have e13 : u' 16 = (.bool false) := hdp.2.1
          exact Eng.dg0 (Eng.gf rfl rfl rfl (show Eng.opv 24 u' (.tmp 16) = (.bool false) from e13)) rfl (hK _ _ (Below.refl _ _) rfl)
        · intro u' W hbW hkp hdp K hK
          have e13 : u' 16 = (.bool false) := hdp.2.1
          exact Eng.dg0 (Eng.gf rfl rfl rfl (show Eng.opv 24 u' (.tmp 16) = (.bool false) from e13)) rfl (hK _ _ (Below.refl _ _) rfl)
        · intro u' W hbW hkp hdp K hK
          have e13 : u' 16 = (.bool false) := hdp.2.2.1
          exact Eng.dg0 (Eng.gf rfl rfl rfl (show Eng.opv 24 u' (.tmp 16) = (.bool false) from e13)) rfl (hK _ _ (Below.refl _ _) rfl)
        · intro u' W hbW hkp hdp K hK
          have e13 : u' 16 = (.bool false) := hdp.1
          have e19 : u' 22 = undef := hdp.2.1
          refine Eng.dv rfl rfl ?_ (hK _ _ (Below.refl _ _) rfl)
          exact (Eng.x_pick (v := (.bool false)) rfl (show Eng.opv 24 u' (.tmp 16) = (.bool false) from e13) (show Eng.opv 24 u' (.tmp 22) = undef from e19) rfl rfl)
        · intro u' W hbW hkp hdp K hK
          have e20 : u' 23 = (.bool false) := hdp.1
          refine Eng.dv rfl rfl ?_ (hK _ _ (Below.refl _ _) rfl)
          exact (Eng.x_as (v := (.bool false)) rfl (show Eng.opv 24 u' (.tmp 23) = (.bool false) from e20))
      · intro ud7 w7 hb7 hkp7 ⟨f7_0, f7_1, f7_2, f7_3, f7_4, f7_5, f7_6, f7_7, f7_8, f7_9, f7_10, f7_11, f7_12, f7_13, f7_14, f7_15, f7_16, f7_17, f7_18, f7_19, f7_20, f7_21, _⟩
        obtain rfl := Eng.collect (l := [(3, (.pointer (some ⟨w.heap.size, 0, none⟩))), (4, (.int .i64 l)), (5, (.bool true)), (6, (.bool true)), (7, (.pointer (some ⟨w.heap.size, 0, none⟩))), (8, (.int .i64 l)), (9, (.bool false)), (10, (.bool false)), (11, (.bool false)), (12, undef), (13, undef), (14, undef), (15, (.bool false)), (16, (.bool false)), (17, undef), (18, undef), (19, undef), (20, undef), (21, undef), (22, undef), (23, (.bool false)), (2, (.bool false))]) hkp7 ⟨f7_0, f7_1, f7_2, f7_3, f7_4, f7_5, f7_6, f7_7, f7_8, f7_9, f7_10, f7_11, f7_12, f7_13, f7_14, f7_15, f7_16, f7_17, f7_18, f7_19, f7_20, f7_21, trivial⟩ rfl
        refine Eng.nil ?_
        refine hK3 _ _ ?_
        refine Eng.rt ?_
        refine Eng.ret (Eng.res1 (v1 := (.bool false)) rfl (Eng.rdt rfl)) ?_
        have hB0_2 : Below w.heap.size w w7 := (hb2).trans (hb7.mono (hb2).size)
        exact ⟨by rw [show nv l i = false from decide_eq_false (by rw [← hp]; omega)], hB0_2⟩
  · skip
    refine Eng.draw 22 [fun vQ _ => vQ = (.pointer (some ⟨w.heap.size, 0, none⟩)), fun vQ _ => vQ = (.int .i64 l), fun vQ _ => vQ = (.bool false), fun vQ _ => vQ = (.bool false), fun vQ _ => vQ = undef, fun vQ _ => vQ = undef, fun vQ _ => vQ = undef, fun vQ _ => vQ = (.bool false), fun vQ _ => vQ = (.bool false), fun vQ _ => vQ = undef, fun vQ _ => vQ = undef, fun vQ _ => vQ = undef, fun vQ _ => vQ = (.bool false), fun vQ _ => vQ = (.bool false), fun vQ _ => vQ = undef, fun vQ _ => vQ = undef, fun vQ _ => vQ = undef, fun vQ _ => vQ = undef, fun vQ _ => vQ = undef, fun vQ _ => vQ = undef, fun vQ _ => vQ = (.bool false), fun vQ _ => vQ = (.bool false)] (by kernel_rfl) (by kernel_rfl) (by kernel_rfl) (by kernel_rfl) rfl rfl ?_ ?_ ?_
    · exact ⟨fun _ _ _ h _ => h, fun _ _ _ h _ => h, fun _ _ _ h _ => h, fun _ _ _ h _ => h, fun _ _ _ h _ => h, fun _ _ _ h _ => h, fun _ _ _ h _ => h, fun _ _ _ h _ => h, fun _ _ _ h _ => h, fun _ _ _ h _ => h, fun _ _ _ h _ => h, fun _ _ _ h _ => h, fun _ _ _ h _ => h, fun _ _ _ h _ => h, fun _ _ _ h _ => h, fun _ _ _ h _ => h, fun _ _ _ h _ => h, fun _ _ _ h _ => h, fun _ _ _ h _ => h, fun _ _ _ h _ => h, fun _ _ _ h _ => h, fun _ _ _ h _ => h, trivial⟩
    · refine ⟨?_, ?_, ?_, ?_, ?_, ?_, ?_, ?_, ?_, ?_, ?_, ?_, ?_, ?_, ?_, ?_, ?_, ?_, ?_, ?_, ?_, ?_, trivial⟩
      · intro u' W hbW hkp hdp K hK
        refine Eng.dv rfl rfl ?_ (hK _ _ (Below.refl _ _) rfl)
        exact (Eng.x_fa (v := (.pointer (some ⟨w.heap.size, 0, none⟩))) rfl (show Eng.opv 24 u' (.tmp 1) = (.pointer (some ⟨w.heap.size, 0, none⟩)) from hkp 1 rfl) (by kernel_rfl))
      · intro u' W hbW hkp hdp K hK
        have e0 : u' 3 = (.pointer (some ⟨w.heap.size, 0, none⟩)) := hdp.1
        refine Eng.dv rfl rfl ?_ (hK _ _ (Below.refl _ _) rfl)
        exact (Eng.x_ld1 (v := (.int .i64 l)) rfl ag3_th (show Eng.opv 24 u' (.tmp 3) = (.pointer (some ⟨w.heap.size, 0, none⟩)) from e0) ((((hk2).below hbW)).cell 0))
      · intro u' W hbW hkp hdp K hK
        have e1 : u' 4 = (.int .i64 l) := hdp.1
        refine Eng.dv rfl rfl ?_ (hK _ _ (Below.refl _ _) rfl)
        exact (Eng.x_ge (r := false) rfl (show Eng.opv 24 u' (.tmp 4) = (.int .i64 l) from e1) rfl (decide_eq_false (by omega)))
      · intro u' W hbW hkp hdp K hK
        have e2 : u' 5 = (.bool false) := hdp.1
        refine Eng.dv rfl rfl ?_ (hK _ _ (Below.refl _ _) rfl)
        exact (Eng.x_mv (v := (.bool false)) rfl (show Eng.opv 24 u' (.tmp 5) = (.bool false) from e2))
      · intro u' W hbW hkp hdp K hK
        have e3 : u' 6 = (.bool false) := hdp.1
        exact Eng.dg0 (Eng.gf rfl rfl rfl (show Eng.opv 24 u' (.tmp 6) = (.bool false) from e3)) rfl (hK _ _ (Below.refl _ _) rfl)
      · intro u' W hbW hkp hdp K hK
        have e3 : u' 6 = (.bool false) := hdp.2.1
        exact Eng.dg0 (Eng.gf rfl rfl rfl (show Eng.opv 24 u' (.tmp 6) = (.bool false) from e3)) rfl (hK _ _ (Below.refl _ _) rfl)
      · intro u' W hbW hkp hdp K hK
        have e3 : u' 6 = (.bool false) := hdp.2.1
        exact Eng.dg0 (Eng.gf rfl rfl rfl (show Eng.opv 24 u' (.tmp 6) = (.bool false) from e3)) rfl (hK _ _ (Below.refl _ _) rfl)
      · intro u' W hbW hkp hdp K hK
        have e3 : u' 6 = (.bool false) := hdp.1
        have e6 : u' 9 = undef := hdp.2.1
        refine Eng.dv rfl rfl ?_ (hK _ _ (Below.refl _ _) rfl)
        exact (Eng.x_pick (v := (.bool false)) rfl (show Eng.opv 24 u' (.tmp 6) = (.bool false) from e3) (show Eng.opv 24 u' (.tmp 9) = undef from e6) rfl rfl)
      · intro u' W hbW hkp hdp K hK
        have e7 : u' 10 = (.bool false) := hdp.1
        refine Eng.dv rfl rfl ?_ (hK _ _ (Below.refl _ _) rfl)
        exact (Eng.x_mv (v := (.bool false)) rfl (show Eng.opv 24 u' (.tmp 10) = (.bool false) from e7))
      · intro u' W hbW hkp hdp K hK
        have e8 : u' 11 = (.bool false) := hdp.1
        exact Eng.dg0 (Eng.gf rfl rfl rfl (show Eng.opv 24 u' (.tmp 11) = (.bool false) from e8)) rfl (hK _ _ (Below.refl _ _) rfl)
      · intro u' W hbW hkp hdp K hK
        have e8 : u' 11 = (.bool false) := hdp.2.1
        exact Eng.dg0 (Eng.gf rfl rfl rfl (show Eng.opv 24 u' (.tmp 11) = (.bool false) from e8)) rfl (hK _ _ (Below.refl _ _) rfl)
      · intro u' W hbW hkp hdp K hK
        have e8 : u' 11 = (.bool false) := hdp.2.1
        exact Eng.dg0 (Eng.gf rfl rfl rfl (show Eng.opv 24 u' (.tmp 11) = (.bool false) from e8)) rfl (hK _ _ (Below.refl _ _) rfl)
      · intro u' W hbW hkp hdp K hK
        have e8 : u' 11 = (.bool false) := hdp.1
        have e11 : u' 14 = undef := hdp.2.1
        refine Eng.dv rfl rfl ?_ (hK _ _ (Below.refl _ _) rfl)
        exact (Eng.x_pick (v := (.bool false)) rfl (show Eng.opv 24 u' (.tmp 11) = (.bool false) from e8) (show Eng.opv 24 u' (.tmp 14) = undef from e11) rfl rfl)
      · intro u' W hbW hkp hdp K hK
        have e12 : u' 15 = (.bool false) := hdp.1
        refine Eng.dv rfl rfl ?_ (hK _ _ (Below.refl _ _) rfl)
        exact (Eng.x_mv (v := (.bool false)) rfl (show Eng.opv 24 u' (.tmp 15) = (.bool false) from e12))
      · intro u' W hbW hkp hdp K hK
        have e13 : u' 16 = (.bool false) := hdp.1
        exact Eng.dg0 (Eng.gf rfl rfl rfl (show Eng.opv 24 u' (.tmp 16) = (.bool false) from e13)) rfl (hK _ _ (Below.refl _ _) rfl)
      · intro u' W hbW hkp hdp K hK
        have e13 : u' 16 = (.bool false) := hdp.2.1
        exact Eng.dg0 (Eng.gf rfl rfl rfl (show Eng.opv 24 u' (.tmp 16) = (.bool false) from e13)) rfl (hK _ _ (Below.refl _ _) rfl)
      · intro u' W hbW hkp hdp K hK
        have e13 : u' 16 = (.bool false) := hdp.1
        exact Eng.dg0 (Eng.gf rfl rfl rfl (show Eng.opv 24 u' (.tmp 16) = (.bool false) from e13)) rfl (hK _ _ (Below.refl _ _) rfl)
      · intro u' W hbW hkp hdp K hK
        have e13 : u' 16 = (.bool false) := hdp.2.1
        exact Eng.dg0 (Eng.gf rfl rfl rfl (show Eng.opv 24 u' (.tmp 16) = (.bool false) from e13)) rfl (hK _ _ (Below.refl _ _) rfl)
      · intro u' W hbW hkp hdp K hK
        have e13 : u' 16 = (.bool false) := hdp.2.1
        exact Eng.dg0 (Eng.gf rfl rfl rfl (show Eng.opv 24 u' (.tmp 16) = (.bool false) from e13)) rfl (hK _ _ (Below.refl _ _) rfl)
      · intro u' W hbW hkp hdp K hK
        have e13 : u' 16 = (.bool false) := hdp.2.2.1
        exact Eng.dg0 (Eng.gf rfl rfl rfl (show Eng.opv 24 u' (.tmp 16) = (.bool false) from e13)) rfl (hK _ _ (Below.refl _ _) rfl)
      · intro u' W hbW hkp hdp K hK
        have e13 : u' 16 = (.bool false) := hdp.1
        have e19 : u' 22 = undef := hdp.2.1
        refine Eng.dv rfl rfl ?_ (hK _ _ (Below.refl _ _) rfl)
        exact (Eng.x_pick (v := (.bool false)) rfl (show Eng.opv 24 u' (.tmp 16) = (.bool false) from e13) (show Eng.opv 24 u' (.tmp 22) = undef from e19) rfl rfl)
      · intro u' W hbW hkp hdp K hK
        have e20 : u' 23 = (.bool false) := hdp.1
        refine Eng.dv rfl rfl ?_ (hK _ _ (Below.refl _ _) rfl)
        exact (Eng.x_as (v := (.bool false)) rfl (show Eng.opv 24 u' (.tmp 23) = (.bool false) from e20))
    · intro ud8 w8 hb8 hkp8 ⟨f8_0, f8_1, f8_2, f8_3, f8_4, f8_5, f8_6, f8_7, f8_8, f8_9, f8_10, f8_11, f8_12, f8_13, f8_14, f8_15, f8_16, f8_17, f8_18, f8_19, f8_20, f8_21, _⟩
      obtain rfl := Eng.collect (l := [(3, (.pointer (some ⟨w.heap.size, 0, none⟩))), (4, (.int .i64 l)), (5, (.bool false)), (6, (.bool false)), (7, undef), (8, undef), (9, undef), (10, (.bool false)), (11, (.bool false)), (12, undef), (13, undef), (14, undef), (15, (.bool false)), (16, (.bool false)), (17, undef), (18, undef), (19, undef), (20, undef), (21, undef), (22, undef), (23, (.bool false)), (2, (.bool false))]) hkp8 ⟨f8_0, f8_1, f8_2, f8_3, f8_4, f8_5, f8_6, f8_7, f8_8, f8_9, f8_10, f8_11, f8_12, f8_13, f8_14, f8_15, f8_16, f8_17, f8_18, f8_19, f8_20, f8_21, trivial⟩ rfl
      refine Eng.nil ?_
      refine hK3 _ _ ?_
      refine Eng.rt ?_
      refine Eng.ret (Eng.res1 (v1 := (.bool false)) rfl (Eng.rdt rfl)) ?_
      have hB0_2 : Below w.heap.size w w8 := (hb2).trans (hb8.mono (hb2).size)
      exact ⟨by rw [show nv l i = false from decide_eq_false (by rw [← hp]; omega)], hB0_2⟩
theorem nvalid_is {b : Bool} {l i : Int} (e : nv l i = b) (w : World) : Calls Tryd.prog 54 #[(.agg #[(.int .i64 l), (.int .i64 i)])] w fun e w' => e = .returned (.bool b) ∧ Below w.heap.size w w' := e ▸ nvalid_calls l i w
set_option maxRecDepth 100000 in
set_option maxHeartbeats 4000000 in
theorem rnvalid_calls (l i : Int) (w : World) : Calls Tryd.prog 55 #[(.agg #[(.int .i64 l), (.int .i64 i)])] w (fun e w' => e = .returned (.bool (nv l i)) ∧ Below w.heap.size w w') := by
  obtain ⟨p, hp⟩ : ∃ p : Int, p = ((2 ^ (48 - l.toNat) : Nat) : Int) := ⟨_, rfl⟩
  refine Eng.enter (l := [(.agg #[(.int .i64 l), (.int .i64 i)])]) Tryd.func55 rfl 25 rfl (by simp) ?_
  refine Eng.seqk fun K1 hK1 => ?_
  refine Eng.reg ?_
  refine Eng.bo (v := (.agg #[(.int .i64 l), (.int .i64 i)])) (cs := [(.int .i64 l), (.int .i64 i)]) rfl rfl rfl rfl rfl ?_
  intro w2 hk2 hb2 hz2
  refine Eng.sv rfl rfl (Eng.x_as (v := (.bool false)) rfl rfl) ?_
  refine Eng.nil ?_
  refine hK1 _ _ ?_
  refine Eng.seqk fun K3 hK3 => ?_
  by_cases q0 : 0 ≤ l
  · skip
    by_cases q1 : l ≤ 48
    · skip
      by_cases q2 : 0 ≤ i
      · skip
        by_cases q3 : i < p
        · skip
          refine Eng.reg ?_
          refine Eng.sv rfl rfl (Eng.x_fa (v := (.pointer (some ⟨w.heap.size, 0, none⟩))) rfl rfl (by kernel_rfl)) ?_
          refine Eng.sv rfl rfl (Eng.x_ld1 (v := (.int .i64 l)) rfl ag3_th rfl ((hk2).cell 0)) ?_
          refine Eng.sv rfl rfl (Eng.x_ge (r := true) rfl rfl rfl (decide_eq_true (by omega))) ?_
          refine Eng.sv rfl rfl (Eng.x_mv (v := (.bool true)) rfl rfl) ?_
          refine Eng.sv (Eng.gt rfl rfl rfl rfl) rfl (Eng.x_fa (v := (.pointer (some ⟨w.heap.size, 0, none⟩))) rfl rfl (by kernel_rfl)) ?_
          refine Eng.sv (Eng.gt rfl rfl rfl rfl) rfl (Eng.x_ld1 (v := (.int .i64 l)) rfl ag3_th rfl ((hk2).cell 0)) ?_
          refine Eng.sv (Eng.gt rfl rfl rfl rfl) rfl (Eng.x_le (r := true) rfl rfl rfl (decide_eq_true (by omega))) ?_
          refine Eng.sv rfl rfl (Eng.x_pick (v := (.bool true)) rfl rfl rfl rfl rfl) ?_
          refine Eng.sv rfl rfl (Eng.x_mv (v := (.bool true)) rfl rfl) ?_
          refine Eng.sv (Eng.gt rfl rfl rfl rfl) rfl (Eng.x_fa (v := (.pointer (some ⟨w.heap.size, 1, none⟩))) rfl rfl (by kernel_rfl)) ?_
          refine Eng.sv (Eng.gt rfl rfl rfl rfl) rfl (Eng.x_ld1 (v := (.int .i64 i)) rfl ag3_th rfl ((hk2).cell 1)) ?_
          refine Eng.sv (Eng.gt rfl rfl rfl rfl) rfl (Eng.x_ge (r := true) rfl rfl rfl (decide_eq_true (by omega))) ?_
          refine Eng.sv rfl rfl (Eng.x_pick (v := (.bool true)) rfl rfl rfl rfl rfl) ?_
          refine Eng.sv rfl rfl (Eng.x_mv (v := (.bool true)) rfl rfl) ?_
          refine Eng.sv (Eng.gt rfl rfl rfl rfl) rfl (Eng.x_fa (v := (.pointer (some ⟨w.heap.size, 1, none⟩))) rfl rfl (by kernel_rfl)) ?_
          refine Eng.sv (Eng.gt rfl rfl rfl rfl) rfl (Eng.x_ld1 (v := (.int .i64 i)) rfl ag3_th rfl ((hk2).cell 1)) ?_
          refine Eng.sv (Eng.gt rfl rfl rfl rfl) rfl (Eng.x_fa (v := (.pointer (some ⟨w.heap.size, 0, none⟩))) rfl rfl (by kernel_rfl)) ?_
          refine Eng.sv (Eng.gt rfl rfl rfl rfl) rfl (Eng.x_ld1 (v := (.int .i64 l)) rfl ag3_th rfl ((hk2).cell 0)) ?_
          refine Eng.sv (Eng.gt rfl rfl rfl rfl) rfl (Eng.x_conv rfl Tryd.underlying3 Tryd.underlying39 rfl (Eng.wu64 (r := l) (by omega))) ?_
          refine Eng.sv (Eng.gt rfl rfl rfl rfl) rfl (Eng.x_shr rfl rfl rfl (q0) (r := p) (by rw [hp]; exact shr48 q0 q1)) ?_
          refine Eng.sv (Eng.gt rfl rfl rfl rfl) rfl (Eng.x_lt (r := true) rfl rfl rfl (decide_eq_true (by omega))) ?_
          refine Eng.sv rfl rfl (Eng.x_pick (v := (.bool true)) rfl rfl rfl rfl rfl) ?_
          refine Eng.sv rfl rfl (Eng.x_as (v := (.bool true)) rfl rfl) ?_
          refine Eng.nil ?_
          refine hK3 _ _ ?_
          refine Eng.rt ?_
          refine Eng.ret (Eng.res1 (v1 := (.bool true)) rfl (Eng.rdt rfl)) ?_
          exact ⟨by rw [show nv l i = true from decide_eq_true (by rw [← hp]; omega)], hb2⟩
        · skip
          refine Eng.reg ?_
          refine Eng.sv rfl rfl (Eng.x_fa (v := (.pointer (some ⟨w.heap.size, 0, none⟩))) rfl rfl (by kernel_rfl)) ?_
          refine Eng.sv rfl rfl (Eng.x_ld1 (v := (.int .i64 l)) rfl ag3_th rfl ((hk2).cell 0)) ?_
          refine Eng.sv rfl rfl (Eng.x_ge (r := true) rfl rfl rfl (decide_eq_true (by omega))) ?_
          refine Eng.sv rfl rfl (Eng.x_mv (v := (.bool true)) rfl rfl) ?_
          refine Eng.sv (Eng.gt rfl rfl rfl rfl) rfl (Eng.x_fa (v := (.pointer (some ⟨w.heap.size, 0, none⟩))) rfl rfl (by kernel_rfl)) ?_
          refine Eng.sv (Eng.gt rfl rfl rfl rfl) rfl (Eng.x_ld1 (v := (.int .i64 l)) rfl ag3_th rfl ((hk2).cell 0)) ?_
          refine Eng.sv (Eng.gt rfl rfl rfl rfl) rfl (Eng.x_le (r := true) rfl rfl rfl (decide_eq_true (by omega))) ?_
          refine Eng.sv rfl rfl (Eng.x_pick (v := (.bool true)) rfl rfl rfl rfl rfl) ?_
          refine Eng.sv rfl rfl (Eng.x_mv (v := (.bool true)) rfl rfl) ?_
          refine Eng.sv (Eng.gt rfl rfl rfl rfl) rfl (Eng.x_fa (v := (.pointer (some ⟨w.heap.size, 1, none⟩))) rfl rfl (by kernel_rfl)) ?_
          refine Eng.sv (Eng.gt rfl rfl rfl rfl) rfl (Eng.x_ld1 (v := (.int .i64 i)) rfl ag3_th rfl ((hk2).cell 1)) ?_
          refine Eng.sv (Eng.gt rfl rfl rfl rfl) rfl (Eng.x_ge (r := true) rfl rfl rfl (decide_eq_true (by omega))) ?_
          refine Eng.sv rfl rfl (Eng.x_pick (v := (.bool true)) rfl rfl rfl rfl rfl) ?_
          refine Eng.sv rfl rfl (Eng.x_mv (v := (.bool true)) rfl rfl) ?_
          refine Eng.sv (Eng.gt rfl rfl rfl rfl) rfl (Eng.x_fa (v := (.pointer (some ⟨w.heap.size, 1, none⟩))) rfl rfl (by kernel_rfl)) ?_
          refine Eng.sv (Eng.gt rfl rfl rfl rfl) rfl (Eng.x_ld1 (v := (.int .i64 i)) rfl ag3_th rfl ((hk2).cell 1)) ?_
          refine Eng.sv (Eng.gt rfl rfl rfl rfl) rfl (Eng.x_fa (v := (.pointer (some ⟨w.heap.size, 0, none⟩))) rfl rfl (by kernel_rfl)) ?_
          refine Eng.sv (Eng.gt rfl rfl rfl rfl) rfl (Eng.x_ld1 (v := (.int .i64 l)) rfl ag3_th rfl ((hk2).cell 0)) ?_
          refine Eng.sv (Eng.gt rfl rfl rfl rfl) rfl (Eng.x_conv rfl Tryd.underlying3 Tryd.underlying39 rfl (Eng.wu64 (r := l) (by omega))) ?_
          refine Eng.sv (Eng.gt rfl rfl rfl rfl) rfl (Eng.x_shr rfl rfl rfl (q0) (r := p) (by rw [hp]; exact shr48 q0 q1)) ?_
          refine Eng.sv (Eng.gt rfl rfl rfl rfl) rfl (Eng.x_lt (r := false) rfl rfl rfl (decide_eq_false (by omega))) ?_
          refine Eng.sv rfl rfl (Eng.x_pick (v := (.bool false)) rfl rfl rfl rfl rfl) ?_
          refine Eng.sv rfl rfl (Eng.x_as (v := (.bool false)) rfl rfl) ?_
          refine Eng.nil ?_
          refine hK3 _ _ ?_
          refine Eng.rt ?_
          refine Eng.ret (Eng.res1 (v1 := (.bool false)) rfl (Eng.rdt rfl)) ?_
          exact ⟨by rw [show nv l i = false from decide_eq_false (by rw [← hp]; omega)], hb2⟩
      · skip
        refine Eng.reg ?_
        refine Eng.sv rfl rfl (Eng.x_fa (v := (.pointer (some ⟨w.heap.size, 0, none⟩))) rfl rfl (by kernel_rfl)) ?_
        refine Eng.sv rfl rfl (Eng.x_ld1 (v := (.int .i64 l)) rfl ag3_th rfl ((hk2).cell 0)) ?_
        refine Eng.sv rfl rfl (Eng.x_ge (r := true) rfl rfl rfl (decide_eq_true (by omega))) ?_
        refine Eng.sv rfl rfl (Eng.x_mv (v := (.bool true)) rfl rfl) ?_
        refine Eng.sv (Eng.gt rfl rfl rfl rfl) rfl (Eng.x_fa (v := (.pointer (some ⟨w.heap.size, 0, none⟩))) rfl rfl (by kernel_rfl)) ?_
        refine Eng.sv (Eng.gt rfl rfl rfl rfl) rfl (Eng.x_ld1 (v := (.int .i64 l)) rfl ag3_th rfl ((hk2).cell 0)) ?_
        refine Eng.sv (Eng.gt rfl rfl rfl rfl) rfl (Eng.x_le (r := true) rfl rfl rfl (decide_eq_true (by omega))) ?_
        refine Eng.sv rfl rfl (Eng.x_pick (v := (.bool true)) rfl rfl rfl rfl rfl) ?_
        refine Eng.sv rfl rfl (Eng.x_mv (v := (.bool true)) rfl rfl) ?_
        refine Eng.sv (Eng.gt rfl rfl rfl rfl) rfl (Eng.x_fa (v := (.pointer (some ⟨w.heap.size, 1, none⟩))) rfl rfl (by kernel_rfl)) ?_
        refine Eng.sv (Eng.gt rfl rfl rfl rfl) rfl (Eng.x_ld1 (v := (.int .i64 i)) rfl ag3_th rfl ((hk2).cell 1)) ?_
        refine Eng.sv (Eng.gt rfl rfl rfl rfl) rfl (Eng.x_ge (r := false) rfl rfl rfl (decide_eq_false (by omega))) ?_
        refine Eng.sv rfl rfl (Eng.x_pick (v := (.bool false)) rfl rfl rfl rfl rfl) ?_
        refine Eng.sv rfl rfl (Eng.x_mv (v := (.bool false)) rfl rfl) ?_
        refine Eng.sg (Eng.gf rfl rfl rfl rfl) rfl ?_
        refine Eng.sg (Eng.gf rfl rfl rfl rfl) rfl ?_
        refine Eng.sg (Eng.gf rfl rfl rfl rfl) rfl ?_
        refine Eng.sg (Eng.gf rfl rfl rfl rfl) rfl ?_
        refine Eng.sg (Eng.gf rfl rfl rfl rfl) rfl ?_
        refine Eng.sg (Eng.gf rfl rfl rfl rfl) rfl ?_
        refine Eng.sg (Eng.gf rfl rfl rfl rfl) rfl ?_
        refine Eng.sv rfl rfl (Eng.x_pick (v := (.bool false)) rfl rfl rfl rfl rfl) ?_
        refine Eng.sv rfl rfl (Eng.x_as (v := (.bool false)) rfl rfl) ?_
        refine Eng.nil ?_
        refine hK3 _ _ ?_
        refine Eng.rt ?_
        refine Eng.ret (Eng.res1 (v1 := (.bool false)) rfl (Eng.rdt rfl)) ?_
        exact ⟨by rw [show nv l i = false from decide_eq_false (by rw [← hp]; omega)], hb2⟩
    · skip
      refine Eng.reg ?_
      refine Eng.sv rfl rfl (Eng.x_fa (v := (.pointer (some ⟨w.heap.size, 0, none⟩))) rfl rfl (by kernel_rfl)) ?_
      refine Eng.sv rfl rfl (Eng.x_ld1 (v := (.int .i64 l)) rfl ag3_th rfl ((hk2).cell 0)) ?_
      refine Eng.sv rfl rfl (Eng.x_ge (r := true) rfl rfl rfl (decide_eq_true (by omega))) ?_
      refine Eng.sv rfl rfl (Eng.x_mv (v := (.bool true)) rfl rfl) ?_
      refine Eng.sv (Eng.gt rfl rfl rfl rfl) rfl (Eng.x_fa (v := (.pointer (some ⟨w.heap.size, 0, none⟩))) rfl rfl (by kernel_rfl)) ?_
      refine Eng.sv (Eng.gt rfl rfl rfl rfl) rfl (Eng.x_ld1 (v := (.int .i64 l)) rfl ag3_th rfl ((hk2).cell 0)) ?_
      refine Eng.sv (Eng.gt rfl rfl rfl rfl) rfl (Eng.x_le (r := false) rfl rfl rfl (decide_eq_false (by omega))) ?_
      refine Eng.sv rfl rfl (Eng.x_pick (v := (.bool false)) rfl rfl rfl rfl rfl) ?_
      refine Eng.sv rfl rfl (Eng.x_mv (v := (.bool false)) rfl rfl) ?_
      refine Eng.sg (Eng.gf rfl rfl rfl rfl) rfl ?_
      refine Eng.sg (Eng.gf rfl rfl rfl rfl) rfl ?_
      refine Eng.sg (Eng.gf rfl rfl rfl rfl) rfl ?_
      refine Eng.sv rfl rfl (Eng.x_pick (v := (.bool false)) rfl rfl rfl rfl rfl) ?_
      refine Eng.sv rfl rfl (Eng.x_mv (v := (.bool false)) rfl rfl) ?_
      refine Eng.sg (Eng.gf rfl rfl rfl rfl) rfl ?_
      refine Eng.sg (Eng.gf rfl rfl rfl rfl) rfl ?_
      refine Eng.sg (Eng.gf rfl rfl rfl rfl) rfl ?_
      refine Eng.sg (Eng.gf rfl rfl rfl rfl) rfl ?_
      refine Eng.sg (Eng.gf rfl rfl rfl rfl) rfl ?_
      refine Eng.sg (Eng.gf rfl rfl rfl rfl) rfl ?_
      refine Eng.sg (Eng.gf rfl rfl rfl rfl) rfl ?_
      refine Eng.sv rfl rfl (Eng.x_pick (v := (.bool false)) rfl rfl rfl rfl rfl) ?_
      refine Eng.sv rfl rfl (Eng.x_as (v := (.bool false)) rfl rfl) ?_
      refine Eng.nil ?_
      refine hK3 _ _ ?_
      refine Eng.rt ?_
      refine Eng.ret (Eng.res1 (v1 := (.bool false)) rfl (Eng.rdt rfl)) ?_
      exact ⟨by rw [show nv l i = false from decide_eq_false (by rw [← hp]; omega)], hb2⟩
  · skip
    refine Eng.reg ?_
    refine Eng.sv rfl rfl (Eng.x_fa (v := (.pointer (some ⟨w.heap.size, 0, none⟩))) rfl rfl (by kernel_rfl)) ?_
    refine Eng.sv rfl rfl (Eng.x_ld1 (v := (.int .i64 l)) rfl ag3_th rfl ((hk2).cell 0)) ?_
    refine Eng.sv rfl rfl (Eng.x_ge (r := false) rfl rfl rfl (decide_eq_false (by omega))) ?_
    refine Eng.sv rfl rfl (Eng.x_mv (v := (.bool false)) rfl rfl) ?_
    refine Eng.sg (Eng.gf rfl rfl rfl rfl) rfl ?_
    refine Eng.sg (Eng.gf rfl rfl rfl rfl) rfl ?_
    refine Eng.sg (Eng.gf rfl rfl rfl rfl) rfl ?_
    refine Eng.sv rfl rfl (Eng.x_pick (v := (.bool false)) rfl rfl rfl rfl rfl) ?_
    refine Eng.sv rfl rfl (Eng.x_mv (v := (.bool false)) rfl rfl) ?_
    refine Eng.sg (Eng.gf rfl rfl rfl rfl) rfl ?_
    refine Eng.sg (Eng.gf rfl rfl rfl rfl) rfl ?_
    refine Eng.sg (Eng.gf rfl rfl rfl rfl) rfl ?_
    refine Eng.sv rfl rfl (Eng.x_pick (v := (.bool false)) rfl rfl rfl rfl rfl) ?_
    refine Eng.sv rfl rfl (Eng.x_mv (v := (.bool false)) rfl rfl) ?_
    refine Eng.sg (Eng.gf rfl rfl rfl rfl) rfl ?_
    refine Eng.sg (Eng.gf rfl rfl rfl rfl) rfl ?_
    refine Eng.sg (Eng.gf rfl rfl rfl rfl) rfl ?_
    refine Eng.sg (Eng.gf rfl rfl rfl rfl) rfl ?_
    refine Eng.sg (Eng.gf rfl rfl rfl rfl) rfl ?_
    refine Eng.sg (Eng.gf rfl rfl rfl rfl) rfl ?_
    refine Eng.sg (Eng.gf rfl rfl rfl rfl) rfl ?_
    refine Eng.sv rfl rfl (Eng.x_pick (v := (.bool false)) rfl rfl rfl rfl rfl) ?_
    refine Eng.sv rfl rfl (Eng.x_as (v := (.bool false)) rfl rfl) ?_
    refine Eng.nil ?_
    refine hK3 _ _ ?_
    refine Eng.rt ?_
    refine Eng.ret (Eng.res1 (v1 := (.bool false)) rfl (Eng.rdt rfl)) ?_
    exact ⟨by rw [show nv l i = false from decide_eq_false (by rw [← hp]; omega)], hb2⟩
theorem rnvalid_is {b : Bool} {l i : Int} (e : nv l i = b) (w : World) : Calls Tryd.prog 55 #[(.agg #[(.int .i64 l), (.int .i64 i)])] w fun e w' => e = .returned (.bool b) ∧ Below w.heap.size w w' := e ▸ rnvalid_calls l i w
end Go.Proofs.YtnecgoahdkfbeaaDoor.Tid
