/- wire.must, wire.caught; the closure that Decode and Parse defer; wire.Decode. -/
import Derived.Test.YtojenflknjhmkaaDoorWirF
namespace Go.Proofs.YtojenflknjhmkaaDoor.Wir
open Go Go.RowKit Go.Proofs.YtojenflknjhmkaaDoor Go.Proofs.YtojenflknjhmkaaDoor.Cop Go.Proofs.YtojenflknjhmkaaDoor.Ver Go.Proofs.YtojenflknjhmkaaDoor.Oct Go.Proofs.YtojenflknjhmkaaDoor.Dsl
set_option linter.unusedVariables false
set_option linter.unusedSimpArgs false
theorem zr180_wg (w : World) : (zeroValue 180).run Tryd.prog w = .ok (.agg #[(.int .i64 0)]) w := by kernel_rfl
theorem sz180_wg : (Tryd.prog.info? 180).map (fun i => i.size) = some 1 := by kernel_rfl
theorem ag3_wg (w : World) : (isAgg 3).run Tryd.prog w = .ok false w := by kernel_rfl
theorem sz3_wg : (Tryd.prog.info? 3).map (fun i => i.size) = some 1 := by kernel_rfl
theorem sz25_wg : (Tryd.prog.info? 25).map (fun i => i.size) = some 1 := by kernel_rfl
theorem en63_wg : Eng.Entr Tryd.prog 63 := ⟨_, Tryd.func63, by kernel_rfl, by kernel_rfl⟩
theorem sz35_wg : (Tryd.prog.info? 35).map (fun i => i.size) = some 4 := by kernel_rfl
set_option maxRecDepth 100000 in
set_option maxHeartbeats 4000000 in
theorem must_ok (i : Int) (w : World) : Calls Tryd.prog 66 #[(.bool true), (.int .i64 i)] w (fun e w' => e = .returned (.tuple #[]) ∧ w = w') := by
  refine Eng.enter (l := [(.bool true), (.int .i64 i)]) Tryd.func66 rfl 9 rfl (by simp) ?_
  refine Eng.seqk fun K1 hK1 => ?_
  refine Eng.reg ?_
  refine Eng.sv rfl rfl (Eng.x_mv (v := (.bool true)) rfl rfl) ?_
  refine Eng.sv rfl rfl (Eng.x_not (v := (.bool false)) rfl rfl rfl) ?_
  refine Eng.nil ?_
  refine hK1 _ _ ?_
  refine Eng.cond_f rfl ?_
  refine Eng.skp ?_
  refine Eng.fin (Eng.res0 rfl ) ?_
  exact ⟨rfl, rfl⟩
set_option maxRecDepth 100000 in
set_option maxHeartbeats 4000000 in
theorem must_no (i : Int) (w : World) : Calls Tryd.prog 66 #[(.bool false), (.int .i64 i)] w (fun e w' => e = .panicked [{ v := (.iface 180 (.agg #[.int .i64 i])), recovered := false }] ∧ w = w') := by
  refine Eng.enter (l := [(.bool false), (.int .i64 i)]) Tryd.func66 rfl 9 rfl (by simp) ?_
  refine Eng.seqk fun K1 hK1 => ?_
  refine Eng.reg ?_
  refine Eng.sv rfl rfl (Eng.x_mv (v := (.bool false)) rfl rfl) ?_
  refine Eng.sv rfl rfl (Eng.x_not (v := (.bool true)) rfl rfl rfl) ?_
  refine Eng.nil ?_
  refine hK1 _ _ ?_
  refine Eng.cond_t rfl ?_
  refine Eng.reg ?_
  refine Eng.sv rfl rfl (Eng.x_mv (v := (.int .i64 i)) rfl rfl) ?_
  refine Eng.sv rfl rfl (Eng.x_build (ps := [(0, (.int .i64 i))]) (v := (.agg #[(.int .i64 i)])) rfl rfl (by kernel_rfl)) ?_
  refine Eng.sv rfl rfl (Eng.x_mi rfl rfl (by kernel_rfl)) ?_
  refine Eng.sp rfl (Eng.x_panic rfl rfl) ?_
  refine ⟨rfl, ?_⟩
  exact ⟨rfl, rfl⟩
/-- What the catching of a fault leaves. -/
def Caught (i : Int) (A E : Nat) (w w' : World) : Prop := ∃ w1 w2, Below w.heap.size w w1 ∧ w1.grownBy w2 (some A) ∧ w2.grownBy w' (some E) ∧ Blk w' A 3 [.int .i64 i] ∧ Blk w' E 25 [.int .i64 80]
set_option maxRecDepth 100000 in
set_option maxHeartbeats 4000000 in
theorem caught_nil (a b : Option Addr) (w : World) : Calls Tryd.prog 63 #[Value.nilIface, (.pointer a), (.pointer b)] w (fun e w' => e = .returned (.bool false) ∧ w = w') := by
  refine Eng.enter (l := [Value.nilIface, (.pointer a), (.pointer b)]) Tryd.func63 rfl 25 rfl (by simp) ?_
  refine Eng.seqk fun K1 hK1 => ?_
  refine Eng.reg ?_
  refine Eng.sv rfl rfl (Eng.x_as (v := (.bool false)) rfl rfl) ?_
  refine Eng.nil ?_
  refine hK1 _ _ ?_
  refine Eng.seqk fun K2 hK2 => ?_
  refine Eng.seqk fun K3 hK3 => ?_
  refine Eng.reg ?_
  refine Eng.sv rfl rfl (Eng.x_mv (v := Value.nilIface) rfl rfl) ?_
  refine Eng.sv rfl rfl (Eng.x_nilI (b := true) rfl rfl rfl rfl Tryd.underlying20) ?_
  refine Eng.nil ?_
  refine hK3 _ _ ?_
  refine Eng.cond_t rfl ?_
  refine Eng.seqk fun K4 hK4 => ?_
  refine Eng.reg ?_
  refine Eng.sv rfl rfl (Eng.x_as (v := (.bool false)) rfl rfl) ?_
  refine Eng.nil ?_
  refine hK4 _ _ ?_
  refine Eng.rt ?_
  refine Eng.tr ?_
  refine Eng.ret (Eng.res1 (v1 := (.bool false)) rfl (Eng.rdt rfl)) ?_
  exact ⟨rfl, rfl⟩
set_option maxRecDepth 100000 in
set_option maxHeartbeats 4000000 in
theorem caught_flt (i x y : Int) (A E : Nat) (w : World) (ha : Blk w A 3 [.int .i64 x]) (he : Blk w E 25 [.int .i64 y]) (hne : A ≠ E) : Calls Tryd.prog 63 #[(Value.iface 180 (.agg #[.int .i64 i])), (.pointer (some ⟨A, 0, none⟩)), (.pointer (some ⟨E, 0, none⟩))] w (fun e w' => e = .returned (.bool true) ∧ Caught i A E w w') := by
  refine Eng.enter (l := [(Value.iface 180 (.agg #[.int .i64 i])), (.pointer (some ⟨A, 0, none⟩)), (.pointer (some ⟨E, 0, none⟩))]) Tryd.func63 rfl 25 rfl (by simp) ?_
  refine Eng.seqk fun K1 hK1 => ?_
  refine Eng.reg ?_
  refine Eng.sv rfl rfl (Eng.x_as (v := (.bool false)) rfl rfl) ?_
  refine Eng.nil ?_
  refine hK1 _ _ ?_
  refine Eng.seqk fun K2 hK2 => ?_
  refine Eng.seqk fun K3 hK3 => ?_
  refine Eng.reg ?_
  refine Eng.sv rfl rfl (Eng.x_mv (v := (Value.iface 180 (.agg #[.int .i64 i]))) rfl rfl) ?_
  refine Eng.sv rfl rfl (Eng.x_nilI (b := false) rfl rfl rfl rfl Tryd.underlying20) ?_
  refine Eng.nil ?_
  refine hK3 _ _ ?_
  refine Eng.cond_f rfl ?_
  refine Eng.skp ?_
  refine hK2 _ _ ?_
  refine Eng.seqk fun K4 hK4 => ?_
  refine Eng.reg ?_
  refine Eng.sv rfl rfl (Eng.x_mv (v := (Value.iface 180 (.agg #[.int .i64 i]))) rfl rfl) ?_
  refine Eng.sv rfl rfl (Eng.x_ta (v := (.tuple #[(.agg #[(.int .i64 i)]), (.bool true)])) rfl rfl (by kernel_rfl)) ?_
  refine Eng.sv rfl rfl (Eng.x_mv (v := (.tuple #[(.agg #[(.int .i64 i)]), (.bool true)])) rfl rfl) ?_
  refine Eng.sv rfl rfl (Eng.x_ext (v := (.agg #[(.int .i64 i)])) rfl rfl rfl) ?_
  refine Eng.sv rfl rfl (Eng.x_ext (v := (.bool true)) rfl rfl rfl) ?_
  refine Eng.al rfl rfl rfl zr180_wg (cs := [(.int .i64 0)]) rfl ?_
  intro w5 hk5 hb5 hz5
  refine Eng.stB (v := (.agg #[(.int .i64 i)])) rfl rfl rfl sz180_wg rfl hk5 rfl rfl (cs' := [(.int .i64 i)]) rfl rfl (Eng.one_cons rfl Eng.one_nil) ?_
  intro w6 hk6 hg6
  refine Eng.sv rfl rfl (Eng.x_as (v := (.bool true)) rfl rfl) ?_
  refine Eng.nil ?_
  refine hK4 _ _ ?_
  refine Eng.seqk fun K7 hK7 => ?_
  refine Eng.seqk fun K8 hK8 => ?_
  refine Eng.reg ?_
  refine Eng.sv rfl rfl (Eng.x_mv (v := (.bool true)) rfl rfl) ?_
  refine Eng.sv rfl rfl (Eng.x_not (v := (.bool false)) rfl rfl rfl) ?_
  refine Eng.nil ?_
  refine hK8 _ _ ?_
  refine Eng.cond_f rfl ?_
  refine Eng.skp ?_
  refine hK7 _ _ ?_
  refine Eng.seqk fun K9 hK9 => ?_
  refine Eng.reg ?_
  refine Eng.sv rfl rfl (Eng.x_mv (v := (.pointer (some ⟨A, 0, none⟩))) rfl rfl) ?_
  refine Eng.sv rfl rfl (Eng.x_mv (v := (.pointer (some ⟨E, 0, none⟩))) rfl rfl) ?_
  refine Eng.sv rfl rfl (Eng.x_fa (v := (.pointer (some ⟨w.heap.size, 0, none⟩))) rfl rfl (by kernel_rfl)) ?_
  refine Eng.sv rfl rfl (Eng.x_ld1 (v := (.int .i64 i)) rfl ag3_wg rfl ((hk6).cell 0)) ?_
  refine Eng.sv rfl rfl (Eng.x_nck rfl rfl) ?_
  have hk10 := ((ha).below hb5).grown hg6 (fun e => absurd (Option.some.inj e) (Nat.ne_of_lt (Nat.lt_of_lt_of_le (ha).lt (Nat.le_trans (Nat.le_refl _) (Nat.le_refl _)))))
  refine Eng.stB (v := (.int .i64 i)) rfl rfl rfl sz3_wg rfl hk10 rfl rfl (cs' := [(.int .i64 i)]) rfl rfl (Eng.one_cons rfl Eng.one_nil) ?_
  intro w11 hk11 hg11
  refine Eng.sv rfl rfl (Eng.x_nck rfl rfl) ?_
  have hk12 := (((he).below hb5).grown hg6 (fun e => absurd (Option.some.inj e) (Nat.ne_of_lt (Nat.lt_of_lt_of_le (he).lt (Nat.le_trans (Nat.le_refl _) (Nat.le_refl _)))))).grown hg11 (fun e => absurd (Option.some.inj e) hne.symm)
  refine Eng.stB (v := (.int .i64 80)) rfl rfl rfl sz25_wg rfl hk12 rfl rfl (cs' := [(.int .i64 80)]) rfl rfl (Eng.one_cons rfl Eng.one_nil) ?_
  intro w13 hk13 hg13
  refine Eng.nil ?_
  refine hK9 _ _ ?_
  refine Eng.seqk fun K14 hK14 => ?_
  refine Eng.reg ?_
  refine Eng.sv rfl rfl (Eng.x_as (v := (.bool true)) rfl rfl) ?_
  refine Eng.nil ?_
  refine hK14 _ _ ?_
  refine Eng.rt ?_
  refine Eng.ret (Eng.res1 (v1 := (.bool true)) rfl (Eng.rdt rfl)) ?_
  have hk15 := (hk11).grown hg13 (fun e => absurd (Option.some.inj e) hne)
  have hB0_2 : Below w.heap.size w w6 := (hb5).grown hg6 (hb5).size (fun k e => by cases e; exact Nat.le_trans (Nat.le_refl _) (Nat.le_refl _))
  exact ⟨rfl, _, _, hB0_2, hg11, hg13, hk15, hk13⟩
/-- What the deferred closure leaves of a fault. -/
def Closed (i : Int) (A E G : Nat) (w w' : World) : Prop := ∃ w1, Caught i A E w w1 ∧ w1.grownBy w' (some G) ∧ Blk w' G 35 (prL 0 0 0 (.slice none 0 0))
set_option maxRecDepth 100000 in
set_option maxHeartbeats 4000000 in
theorem dclo_flt (i x y : Int) (A E G : Nat) (cs : List Value) (hcs : cs.length = 4) (older : List PanicEntry) (w : World) (ha : Blk w A 3 [.int .i64 x]) (he : Blk w E 25 [.int .i64 y]) (hg : Blk w G 35 cs) (hne : A ≠ E) (hga : G ≠ A) (hge : G ≠ E) : CallsD Tryd.prog 79 #[(.pointer (some ⟨A, 0, none⟩)), (.pointer (some ⟨E, 0, none⟩)), (.pointer (some ⟨G, 0, none⟩))] (.panicking ({ v := (Value.iface 180 (.agg #[.int .i64 i])), recovered := false } :: older)) w (fun e u' w' => (∃ v, e = .returned v) ∧ u' = .panicking ({ v := (Value.iface 180 (.agg #[.int .i64 i])), recovered := true } :: older) ∧ Closed i A E G w w') := by
  refine Eng.enterS (args := [(.pointer (some ⟨A, 0, none⟩)), (.pointer (some ⟨E, 0, none⟩)), (.pointer (some ⟨G, 0, none⟩))]) (u₁ := (.panicking ({ v := (Value.iface 180 (.agg #[.int .i64 i])), recovered := true } :: older))) (x := (Value.iface 180 (.agg #[.int .i64 i]))) Tryd.func79 rfl 6 rfl (by simp) rfl rfl rfl (.inl ⟨_, _, rfl, rfl, rfl⟩) ?_
  refine Eng.sc rfl (Eng.xc (vl := [(Value.iface 180 (.agg #[.int .i64 i])), (.pointer (some ⟨A, 0, none⟩)), (.pointer (some ⟨E, 0, none⟩))]) rfl rfl rfl en63_wg) (caught_flt i x y A E _ ha he hne) ?_
  rintro _ w1 ⟨rfl, wa1, wb1, hc1, hd1, he1, hkA1, hkE1⟩
  refine Eng.aft_v rfl ?_
  refine Eng.nil ?_
  refine Eng.tw ?_
  refine Eng.cond_t rfl ?_
  refine Eng.reg ?_
  refine Eng.sv rfl rfl (Eng.x_build (ps := []) (v := (.agg #[(.int .i64 0), (.int .i64 0), (.int .i64 0), (.slice none 0 0)])) rfl rfl (by kernel_rfl)) ?_
  have hk2 := (((hg).below hc1).grown hd1 (fun e => absurd (Option.some.inj e) hga)).grown he1 (fun e => absurd (Option.some.inj e) hge)
  refine Eng.stB (v := (.agg #[(.int .i64 0), (.int .i64 0), (.int .i64 0), (.slice none 0 0)])) rfl rfl rfl sz35_wg rfl hk2 hcs rfl (cs' := [(.int .i64 0), (.int .i64 0), (.int .i64 0), (.slice none 0 0)]) rfl rfl (Eng.one_cons rfl (Eng.one_cons rfl (Eng.one_cons rfl (Eng.one_cons rfl Eng.one_nil)))) ?_
  intro w3 hk3 hg3
  refine Eng.nil ?_
  refine Eng.fin (Eng.res0 rfl ) ?_
  exact ⟨⟨_, rfl⟩, rfl, _, ⟨_, _, hc1, hd1, he1, hkA1, hkE1⟩, hg3, hk3⟩
set_option maxRecDepth 100000 in
set_option maxHeartbeats 4000000 in
theorem dclo_ret (A E G : Nat) (w : World) : CallsD Tryd.prog 79 #[(.pointer (some ⟨A, 0, none⟩)), (.pointer (some ⟨E, 0, none⟩)), (.pointer (some ⟨G, 0, none⟩))] .returning w (fun e u' w' => (∃ v, e = .returned v) ∧ u' = .returning ∧ w = w') := by
  refine Eng.enterS (args := [(.pointer (some ⟨A, 0, none⟩)), (.pointer (some ⟨E, 0, none⟩)), (.pointer (some ⟨G, 0, none⟩))]) (u₁ := .returning) (x := Value.nilIface) Tryd.func79 rfl 6 rfl (by simp) rfl rfl rfl (.inr ⟨rfl, rfl, rfl⟩) ?_
  refine Eng.sc rfl (Eng.xc (vl := [Value.nilIface, (.pointer (some ⟨A, 0, none⟩)), (.pointer (some ⟨E, 0, none⟩))]) rfl rfl rfl en63_wg) (caught_nil _ _ _) ?_
  rintro _ _ ⟨rfl, rfl⟩
  refine Eng.aft_v rfl ?_
  refine Eng.nil ?_
  refine Eng.tw ?_
  refine Eng.cond_f rfl ?_
  refine Eng.skp ?_
  refine Eng.fin (Eng.res0 rfl ) ?_
  exact ⟨⟨_, rfl⟩, rfl, rfl⟩
end Go.Proofs.YtojenflknjhmkaaDoor.Wir
