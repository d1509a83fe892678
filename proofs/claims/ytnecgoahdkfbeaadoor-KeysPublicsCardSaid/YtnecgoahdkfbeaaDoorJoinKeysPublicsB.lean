/- Several texts in one: Key; Open; OpenSd. -/
import Derived.Test.YtnecgoahdkfbeaaDoorOne
import Derived.Test.YtnecgoahdkfbeaaDoorJoinKeysPublicsA
import Derived.Test.YtnecgoahdkfbeaaDoorByt
import Derived.ProofKit
import Derived.OpenShut
import Derived.SizedLaws
import Derived.Lib.SmallJoins
import Derived.Deep.Slices
import Derived.ShutString
section
namespace Go.Proofs.YtnecgoahdkfbeaaDoor.Mac
open Go Go.RowKit Go.Proofs.YtnecgoahdkfbeaaDoor Go.Proofs.YtnecgoahdkfbeaaDoor.Cop Go.Proofs.YtnecgoahdkfbeaaDoor.Oct Go.Proofs.YtnecgoahdkfbeaaDoor.Dsl Go.Proofs.YtnecgoahdkfbeaaDoor.Sha Go.Proofs.YtnecgoahdkfbeaaDoor.Tre Go.Proofs.YtnecgoahdkfbeaaDoor.TreP Go.Proofs.YtnecgoahdkfbeaaDoor.Ver Go.Proofs.YtnecgoahdkfbeaaDoor.Vfy Go.Proofs.YtnecgoahdkfbeaaDoor.Tid
set_option linter.unusedVariables false
set_option linter.unusedSimpArgs false
theorem zr45_ky (w : World) : (zeroValue 45).run Tryd.prog w = .ok (dg Oct.dz) w := by kernel_rfl
theorem in48_ky : (Tryd.prog.info? 48).map (fun i => (i.zero, i.size, i.bytes)) = some (some (.slice none 0 0), 1, 24) := by kernel_rfl
theorem en135_ky : Eng.Entr Tryd.prog 135 := ⟨_, Tryd.func135, by kernel_rfl, by kernel_rfl⟩
theorem sz45_ky : (Tryd.prog.info? 45).map (fun i => i.size) = some 32 := by kernel_rfl
theorem ag45_ky (w : World) : (isAgg 45).run Tryd.prog w = .ok true w := by kernel_rfl
theorem in5_ky : (Tryd.prog.info? 5).map (fun i => (i.zero, i.size, i.bytes)) = some (some (.int .u8 0), 1, 1) := by kernel_rfl
theorem en139_ky : Eng.Entr Tryd.prog 139 := ⟨_, Tryd.func139, by kernel_rfl, by kernel_rfl⟩
theorem en122_ky : Eng.Entr Tryd.prog 122 := ⟨_, Tryd.func122, by kernel_rfl, by kernel_rfl⟩
theorem en183_ky : Eng.Entr Tryd.prog 183 := ⟨_, Tryd.func183, by kernel_rfl, by kernel_rfl⟩
theorem en121_ky : Eng.Entr Tryd.prog 121 := ⟨_, Tryd.func121, by kernel_rfl, by kernel_rfl⟩
theorem en120_ky : Eng.Entr Tryd.prog 120 := ⟨_, Tryd.func120, by kernel_rfl, by kernel_rfl⟩
theorem sz5_ky : (Tryd.prog.info? 5).map (fun i => i.size) = some 1 := by kernel_rfl
theorem en72_ky : Eng.Entr Tryd.prog 72 := ⟨_, Tryd.func72, by kernel_rfl, by kernel_rfl⟩
theorem in45_ky : (Tryd.prog.info? 45).map (fun i => (i.zero, i.size, i.bytes)) = some (some (dg Oct.dz), 32, 32) := by kernel_rfl
theorem en127_ky : Eng.Entr Tryd.prog 127 := ⟨_, Tryd.func127, by kernel_rfl, by kernel_rfl⟩
theorem en126_ky : Eng.Entr Tryd.prog 126 := ⟨_, Tryd.func126, by kernel_rfl, by kernel_rfl⟩
theorem en77_ky : Eng.Entr Tryd.prog 77 := ⟨_, Tryd.func77, by kernel_rfl, by kernel_rfl⟩
theorem en63_ky : Eng.Entr Tryd.prog 63 := ⟨_, Tryd.func63, by kernel_rfl, by kernel_rfl⟩
theorem en65_ky : Eng.Entr Tryd.prog 65 := ⟨_, Tryd.func65, by kernel_rfl, by kernel_rfl⟩
theorem en64_ky : Eng.Entr Tryd.prog 64 := ⟨_, Tryd.func64, by kernel_rfl, by kernel_rfl⟩
theorem en58_ky : Eng.Entr Tryd.prog 58 := ⟨_, Tryd.func58, by kernel_rfl, by kernel_rfl⟩
theorem en66_ky : Eng.Entr Tryd.prog 66 := ⟨_, Tryd.func66, by kernel_rfl, by kernel_rfl⟩
theorem en68_ky : Eng.Entr Tryd.prog 68 := ⟨_, Tryd.func68, by kernel_rfl, by kernel_rfl⟩
theorem en67_ky : Eng.Entr Tryd.prog 67 := ⟨_, Tryd.func67, by kernel_rfl, by kernel_rfl⟩
theorem ag3_ky (w : World) : (isAgg 3).run Tryd.prog w = .ok false w := by kernel_rfl
theorem en26_ky : Eng.Entr Tryd.prog 26 := ⟨_, Tryd.func26, by kernel_rfl, by kernel_rfl⟩
theorem en25_ky : Eng.Entr Tryd.prog 25 := ⟨_, Tryd.func25, by kernel_rfl, by kernel_rfl⟩
theorem en27_ky : Eng.Entr Tryd.prog 27 := ⟨_, Tryd.func27, by kernel_rfl, by kernel_rfl⟩
theorem en28_ky : Eng.Entr Tryd.prog 28 := ⟨_, Tryd.func28, by kernel_rfl, by kernel_rfl⟩
theorem of1_calls (d : List UInt8) (v : Value) (vs : List Value) (w : World) (h : Eng.BBs w v vs [d]) (hd : d.length = 32) (hK : Kon w) : Calls Tryd.prog 135 #[.int .u8 0, v] w fun e w' => e = .returned (dg (leafS d)) ∧ Below w.heap.size w w' := by
  have := of_calls 0 v vs [d] w h (by simp; omega) (by simp; omega) hK
  simpa [leafS] using this
/-- The leaves of a tree of keys. -/
def lvS (sd : List UInt8) (n : Nat) : List (List UInt8) := (List.range n).map fun i => leafS (pubS (seedS sd i))
theorem lvS_succ (sd : List UInt8) (n : Nat) : lvS sd (n + 1) = lvS sd n ++ [leafS (pubS (seedS sd n))] := by simp [lvS, List.range_succ]
theorem lvS_len (sd : List UInt8) (n : Nat) : (lvS sd n).length = n := by simp [lvS]
theorem lvS_32 (sd : List UInt8) (n : Nat) : All32 (lvS sd n) := by
  intro d hd
  unfold lvS at hd
  obtain ⟨i, _, rfl⟩ := List.mem_map.1 hd
  exact leafS_len _
def kh (h : Int) : Bool := decide (0 ≤ h ∧ h ≤ 10)
theorem kh_nat {h : Int} (e : ¬ kh h = false) : ∃ n : Nat, h = (n : Int) ∧ n ≤ 10 ∧ 2 ^ n ≤ 1024 := by
  have e : kh h = true := by simpa using e
  have := of_decide_eq_true e
  exact ⟨h.toNat, by omega, by omega, Nat.pow_le_pow_right (n := 2) (by omega) (show h.toNat ≤ 10 by omega)⟩
/-- The public key of a seed. -/
def kpS (sd : List UInt8) (h : Int) : List UInt8 × Int := if kh h = true then (rootS (lvS sd (2 ^ h.toNat)), 0) else (dz, 2)
theorem kpS_no {sd : List UInt8} {h : Int} (e : kh h = false) : kpS sd h = (dz, 2) := by unfold kpS; rw [if_neg (by rw [e]; decide)]
theorem kpS_yes {sd : List UInt8} {h : Int} {n : Nat} (e : ¬ kh h = false) (e1 : h = (n : Int)) : kpS sd h = (rootS (lvS sd (2 ^ n)), 0) := by unfold kpS; rw [if_pos (by simpa using e), e1, Int.toNat_natCast]
theorem root_lv (sd : List UInt8) {n : Nat} (hp : 2 ^ n ≤ 1024) : (rootS (lvS sd (2 ^ n))).length = 32 := rootS_len _ (lvS_32 _ _) (by rw [lvS_len]; omega)
theorem kpS_len (sd : List UInt8) (h : Int) : (kpS sd h).1.length = 32 := by
  by_cases e : kh h = false
  · rw [kpS_no e]; exact dz_length
  · obtain ⟨n, e1, _, hp⟩ := kh_nat e
    rw [kpS_yes e e1]; exact root_lv sd hp
def lst (h : Int) : Int := if 3 < h ∧ h ≤ 10 then h.tmod 4 else h
set_option maxRecDepth 100000 in
set_option maxHeartbeats 4000000 in
theorem leaf_calls (v : Value) (d : List UInt8) (w : World) (h : Rd w v d) (hd : d.length = 32) (hKn : Kon w) : Calls Tryd.prog 72 #[v] w (fun e w' => e = .returned (dg (leafS d)) ∧ Below w.heap.size w w') := by
  refine Eng.enter (l := [v]) Tryd.func72 rfl 6 rfl (by simp) ?_
  refine Eng.seqk fun K1 hK1 => ?_
  refine Eng.reg ?_
  refine Eng.al rfl rfl rfl zr45_ky (cs := (bcs Oct.dz)) rfl ?_
  intro w2 hk2 hb2 hz2
  refine Eng.nil ?_
  refine hK1 _ _ ?_
  refine Eng.seqk fun K3 hK3 => ?_
  refine Eng.reg ?_
  refine Eng.sv rfl rfl (Eng.x_mv (v := v) rfl rfl) ?_
  have hr5 := (h).below hb2
  refine Eng.bs (vs := [v]) (cs := [v]) rfl rfl rfl Tryd.underlying73 in48_ky rfl (by decide) rfl rfl (by decide) (by decide) (Eng.all_cons (p := fun v => v.cells.size = 1) (by rw [(Eng.Row.cells1 hr5)]; rfl) Eng.all_nil) (by simp [(Eng.Row.cells1 hr5)]) ?_
  intro w4 hk4 hb4 hz4
  have hB0_2 : Below w.heap.size w w4 := (hb2).trans (hb4.mono (hb2).size)
  have hr6 := (h).below hB0_2
  have hr7 := (hKn).below hB0_2
  refine Eng.sc rfl (Eng.xc (vl := [(.int .u8 0), (.slice (some ⟨w2.heap.size, 0, none⟩) 1 1)]) rfl rfl rfl en135_ky) (of1_calls d _ _ _ (Eng.bb_one hk4 hr6) hd hr7) ?_
  rintro _ w8 ⟨rfl, hb8⟩
  refine Eng.aft_v rfl ?_
  have hk9 := ((hk2).below hb4).below hb8
  refine Eng.stB (v := (dg (leafS d))) rfl rfl rfl sz45_ky rfl hk9 rfl rfl (cs' := (bcs (leafS d))) rfl ((bcs_length _).trans (leafS_len _)) (bcs_one _) ?_
  intro w10 hk10 hg10
  refine Eng.nil ?_
  refine hK3 _ _ ?_
  refine Eng.rt ?_
  refine Eng.ret (Eng.res1 (v1 := (dg (leafS d))) rfl (Eng.rdc rfl (Eng.lvB ag45_ky sz45_ky hk10 ((bcs_length _).trans (leafS_len _)) rfl))) ?_
  have hB0_3 : Below w.heap.size w w8 := (hB0_2).trans (hb8.mono (hB0_2).size)
  have hB0_4 : Below w.heap.size w w10 := (hB0_3).grown hg10 (hB0_3).size (fun k e => by cases e; exact Nat.le_trans (Nat.le_refl _) (Nat.le_refl _))
  exact ⟨rfl, hB0_4⟩
set_option maxRecDepth 100000 in
set_option maxHeartbeats 4000000 in
theorem rleaf_calls (v : Value) (d : List UInt8) (w : World) (h : Rd w v d) (hd : d.length = 32) : Calls Tryd.prog 77 #[v] w (fun e w' => e = .returned (dg (leafS d)) ∧ Below w.heap.size w w') := by
  refine Eng.enter (l := [v]) Tryd.func77 rfl 7 rfl (by simp) ?_
  refine Eng.seqk fun K1 hK1 => ?_
  refine Eng.reg ?_
  refine Eng.al rfl rfl rfl zr45_ky (cs := (bcs Oct.dz)) rfl ?_
  intro w2 hk2 hb2 hz2
  refine Eng.nil ?_
  refine hK1 _ _ ?_
  refine Eng.seqk fun K3 hK3 => ?_
  refine Eng.reg ?_
  refine Eng.bs (vs := [(.int .u8 0)]) (cs := (bcs [0])) rfl rfl rfl Tryd.underlying48 in5_ky rfl (by decide) rfl rfl (by decide) (by decide) (by simp [Value.cells]) rfl ?_
  intro w4 hk4 hb4 hz4
  refine Eng.sv rfl rfl (Eng.x_mv (v := v) rfl rfl) ?_
  have hB0_2 : Below w.heap.size w w4 := (hb2).trans (hb4.mono (hb2).size)
  have hr6 := (h).below hB0_2
  refine Eng.apB rfl rfl rfl rfl (Eng.own_lit (base := w2.heap.size) hk4 (Nat.le_refl _) (Nat.le_of_ble_eq_true rfl)) rfl hr6 (by simp only [List.length_cons, List.length_nil]; omega) (hb4).size ?_
  intro v5 w5 ho5 hg5
  refine Eng.sc rfl (Eng.xc (vl := [v5]) rfl rfl rfl en139_ky) (rsum_calls _ (([0] ++ d)) _ (ho5).rd (by simp only [List.length_append, List.length_cons, List.length_nil]; omega)) ?_
  rintro _ w7 ⟨rfl, hb7⟩
  refine Eng.aft_v rfl ?_
  have hk8 := (((hk2).below hb4).grown hg5 (fun e => absurd ((World.ownsRow.lt (Eng.own_lit (base := w2.heap.size) hk4 (Nat.le_refl _) (Nat.le_of_ble_eq_true rfl))) _ e.symm).1 (Nat.not_le_of_lt (Nat.lt_of_lt_of_le hz2 (Nat.le_refl _))))).below hb7
  refine Eng.stB (v := (dg (sha ([0] ++ d)))) rfl rfl rfl sz45_ky rfl hk8 rfl rfl (cs' := (bcs (sha ([0] ++ d)))) rfl ((bcs_length _).trans (sha_len _)) (bcs_one _) ?_
  intro w9 hk9 hg9
  refine Eng.nil ?_
  refine hK3 _ _ ?_
  refine Eng.rt ?_
  refine Eng.ret (Eng.res1 (v1 := (dg (sha ([0] ++ d)))) rfl (Eng.rdc rfl (Eng.lvB ag45_ky sz45_ky hk9 ((bcs_length _).trans (sha_len _)) rfl))) ?_
  have hB0_3 : Below w.heap.size w w5 := (hB0_2).grown hg5 (hB0_2).size (fun k e => Nat.le_trans (hb2).size ((World.ownsRow.lt (Eng.own_lit (base := w2.heap.size) hk4 (Nat.le_refl _) (Nat.le_of_ble_eq_true rfl))) _ e).1)
  have hB0_4 : Below w.heap.size w w7 := (hB0_3).trans (hb7.mono (hB0_3).size)
  have hB0_5 : Below w.heap.size w w9 := (hB0_4).grown hg9 (hB0_4).size (fun k e => by cases e; exact Nat.le_trans (Nat.le_refl _) (Nat.le_refl _))
  exact ⟨rfl, hB0_5⟩
set_option maxRecDepth 100000 in
set_option maxHeartbeats 4000000 in
theorem seeds_calls (sd : List UInt8) (w : World) (h32 : sd.length = 32) : Calls Tryd.prog 65 #[(dg sd)] w (fun e w' => ∃ b, e = .returned (.func (.func 121) #[] #[.pointer (some ⟨b, 0, none⟩)]) ∧ Blk w' b 45 (bcs sd) ∧ w.heap.size ≤ b ∧ Below w.heap.size w w') := by
  refine Eng.enter (l := [(dg sd)]) Tryd.func65 rfl 4 rfl (by simp) ?_
  refine Eng.seqk fun K1 hK1 => ?_
  refine Eng.reg ?_
  refine Eng.bo (v := (dg sd)) (cs := (bcs sd)) rfl rfl rfl rfl rfl ?_
  intro w2 hk2 hb2 hz2
  refine Eng.sv rfl rfl (Eng.x_as (v := Value.nilFunc) rfl rfl) ?_
  refine Eng.nil ?_
  refine hK1 _ _ ?_
  refine Eng.seqk fun K3 hK3 => ?_
  refine Eng.reg ?_
  refine Eng.sv rfl rfl (Eng.x_mf (cap := [(.pointer (some ⟨w.heap.size, 0, none⟩))]) rfl rfl) ?_
  refine Eng.sv rfl rfl (Eng.x_as (v := (.func (.func 121) #[] #[(.pointer (some ⟨w.heap.size, 0, none⟩))])) rfl rfl) ?_
  refine Eng.nil ?_
  refine hK3 _ _ ?_
  refine Eng.rt ?_
  refine Eng.ret (Eng.res1 (v1 := (.func (.func 121) #[] #[(.pointer (some ⟨w.heap.size, 0, none⟩))])) rfl (Eng.rdt rfl)) ?_
  exact ⟨_, rfl, hk2, Nat.le_refl _, hb2⟩
set_option maxRecDepth 100000 in
set_option maxHeartbeats 4000000 in
theorem seed1_calls (gs i : Nat) (sd : List UInt8) (w : World) (h32 : sd.length = 32) (hkg : Blk w gs 45 (bcs sd)) (hi : i ≤ 9223372036854775807) (hKn : Kon w) : Calls Tryd.prog 121 #[(.int .i64 (i : Int)), (.pointer (some ⟨gs, 0, none⟩))] w (fun e w' => e = .returned (dg (seedS sd i)) ∧ Below w.heap.size w w') := by
  refine Eng.enter (l := [(.int .i64 (i : Int)), (.pointer (some ⟨gs, 0, none⟩))]) Tryd.func121 rfl 13 rfl (by simp) ?_
  refine Eng.seqk fun K1 hK1 => ?_
  refine Eng.reg ?_
  refine Eng.al rfl rfl rfl zr45_ky (cs := (bcs Oct.dz)) rfl ?_
  intro w2 hk2 hb2 hz2
  refine Eng.nil ?_
  refine hK1 _ _ ?_
  refine Eng.seqk fun K3 hK3 => ?_
  refine Eng.reg ?_
  have hk4 := (hkg).below hb2
  refine Eng.sv rfl rfl (Eng.x_ldB (v := (dg sd)) rfl ag45_ky sz45_ky rfl hk4 ((bcs_length _).trans h32) rfl) ?_
  refine Eng.sv rfl rfl (Eng.x_mv (v := (.int .i64 (i : Int))) rfl rfl) ?_
  have hr5 := (hKn).below hb2
  refine Eng.sc rfl (Eng.xc (vl := [(dg sd), (.string (str [107, 101, 121, 115])), (.int .i64 (i : Int))]) rfl rfl rfl en122_ky) (child_calls sd [107, 101, 121, 115] i _ h32 (by decide) (by decide) (by omega) hr5) ?_
  rintro _ w6 ⟨rfl, hb6⟩
  refine Eng.aft_v rfl ?_
  refine Eng.sv rfl rfl (Eng.x_mv (v := (.tuple #[(dg (seedS sd i)), (.int .i64 0)])) rfl rfl) ?_
  refine Eng.sv rfl rfl (Eng.x_ext (v := (dg (seedS sd i))) rfl rfl rfl) ?_
  refine Eng.sv rfl rfl (Eng.x_ext (v := (.int .i64 0)) rfl rfl rfl) ?_
  refine Eng.al rfl rfl rfl zr45_ky (cs := (bcs Oct.dz)) rfl ?_
  intro w7 hk7 hb7 hz7
  refine Eng.stB (v := (dg (seedS sd i))) rfl rfl rfl sz45_ky rfl hk7 rfl rfl (cs' := (bcs (seedS sd i))) rfl ((bcs_length _).trans (childS_len _ _ _)) (bcs_one _) ?_
  intro w8 hk8 hg8
  refine Eng.sv rfl rfl (Eng.x_as (v := (.int .i64 0)) rfl rfl) ?_
  refine Eng.nil ?_
  refine hK3 _ _ ?_
  refine Eng.seqk fun K9 hK9 => ?_
  refine Eng.reg ?_
  refine Eng.sv rfl rfl (Eng.x_ldB (v := (dg (seedS sd i))) rfl ag45_ky sz45_ky rfl hk8 ((bcs_length _).trans (childS_len _ _ _)) rfl) ?_
  have hk10 := (((hk2).below hb6).below hb7).grown hg8 (fun e => absurd (Option.some.inj e) (Nat.ne_of_lt (Nat.lt_of_lt_of_le hz2 (Nat.le_trans (hb6).size (Nat.le_refl _)))))
  refine Eng.stB (v := (dg (seedS sd i))) rfl rfl rfl sz45_ky rfl hk10 rfl rfl (cs' := (bcs (seedS sd i))) rfl ((bcs_length _).trans (childS_len _ _ _)) (bcs_one _) ?_
  intro w11 hk11 hg11
  refine Eng.nil ?_
  refine hK9 _ _ ?_
  refine Eng.rt ?_
  refine Eng.ret (Eng.res1 (v1 := (dg (seedS sd i))) rfl (Eng.rdc rfl (Eng.lvB ag45_ky sz45_ky hk11 ((bcs_length _).trans (childS_len _ _ _)) rfl))) ?_
  have hB0_2 : Below w.heap.size w w6 := (hb2).trans (hb6.mono (hb2).size)
  have hB0_3 : Below w.heap.size w w7 := (hB0_2).trans (hb7.mono (hB0_2).size)
  have hB0_4 : Below w.heap.size w w8 := (hB0_3).grown hg8 (hB0_3).size (fun k e => by cases e; exact Nat.le_trans (hB0_2).size (Nat.le_refl _))
  have hB0_5 : Below w.heap.size w w11 := (hB0_4).grown hg11 (hB0_4).size (fun k e => by cases e; exact Nat.le_trans (Nat.le_refl _) (Nat.le_refl _))
  exact ⟨rfl, hB0_5⟩
set_option maxRecDepth 100000 in
set_option maxHeartbeats 4000000 in
theorem rseed_calls (sd : List UInt8) (i : Nat) (w : World) (h32 : sd.length = 32) (hi : i ≤ 9223372036854775807) : Calls Tryd.prog 127 #[(dg sd), (.int .i64 (i : Int))] w (fun e w' => e = .returned (dg (seedS sd i)) ∧ Below w.heap.size w w') := by
  refine Eng.enter (l := [(dg sd), (.int .i64 (i : Int))]) Tryd.func127 rfl 14 rfl (by simp) ?_
  refine Eng.seqk fun K1 hK1 => ?_
  refine Eng.reg ?_
  refine Eng.bo (v := (dg sd)) (cs := (bcs sd)) rfl rfl rfl rfl rfl ?_
  intro w2 hk2 hb2 hz2
  refine Eng.al rfl rfl rfl zr45_ky (cs := (bcs Oct.dz)) rfl ?_
  intro w3 hk3 hb3 hz3
  refine Eng.nil ?_
  refine hK1 _ _ ?_
  refine Eng.seqk fun K4 hK4 => ?_
  refine Eng.reg ?_
  have hk5 := (hk2).below hb3
  refine Eng.sv rfl rfl (Eng.x_ldB (v := (dg sd)) rfl ag45_ky sz45_ky rfl hk5 ((bcs_length _).trans h32) rfl) ?_
  refine Eng.sv rfl rfl (Eng.x_mv (v := (.int .i64 (i : Int))) rfl rfl) ?_
  refine Eng.sc rfl (Eng.xc (vl := [(dg sd), (.string (str [107, 101, 121, 115])), (.int .i64 (i : Int))]) rfl rfl rfl en183_ky) (rchild_calls sd [107, 101, 121, 115] i _ h32 (by decide) (by decide) (by omega)) ?_
  rintro _ w6 ⟨rfl, hb6⟩
  refine Eng.aft_v rfl ?_
  refine Eng.sv rfl rfl (Eng.x_mv (v := (.tuple #[(dg (seedS sd i)), (.int .i64 0)])) rfl rfl) ?_
  refine Eng.sv rfl rfl (Eng.x_ext (v := (dg (seedS sd i))) rfl rfl rfl) ?_
  refine Eng.sv rfl rfl (Eng.x_ext (v := (.int .i64 0)) rfl rfl rfl) ?_
  refine Eng.al rfl rfl rfl zr45_ky (cs := (bcs Oct.dz)) rfl ?_
  intro w7 hk7 hb7 hz7
  refine Eng.stB (v := (dg (seedS sd i))) rfl rfl rfl sz45_ky rfl hk7 rfl rfl (cs' := (bcs (seedS sd i))) rfl ((bcs_length _).trans (childS_len _ _ _)) (bcs_one _) ?_
  intro w8 hk8 hg8
  refine Eng.sv rfl rfl (Eng.x_as (v := (.int .i64 0)) rfl rfl) ?_
  refine Eng.nil ?_
  refine hK4 _ _ ?_
  refine Eng.seqk fun K9 hK9 => ?_
  refine Eng.reg ?_
  refine Eng.sv rfl rfl (Eng.x_ldB (v := (dg (seedS sd i))) rfl ag45_ky sz45_ky rfl hk8 ((bcs_length _).trans (childS_len _ _ _)) rfl) ?_
  have hk10 := (((hk3).below hb6).below hb7).grown hg8 (fun e => absurd (Option.some.inj e) (Nat.ne_of_lt (Nat.lt_of_lt_of_le hz3 (Nat.le_trans (hb6).size (Nat.le_refl _)))))
  refine Eng.stB (v := (dg (seedS sd i))) rfl rfl rfl sz45_ky rfl hk10 rfl rfl (cs' := (bcs (seedS sd i))) rfl ((bcs_length _).trans (childS_len _ _ _)) (bcs_one _) ?_
  intro w11 hk11 hg11
  refine Eng.nil ?_
  refine hK9 _ _ ?_
  refine Eng.rt ?_
  refine Eng.ret (Eng.res1 (v1 := (dg (seedS sd i))) rfl (Eng.rdc rfl (Eng.lvB ag45_ky sz45_ky hk11 ((bcs_length _).trans (childS_len _ _ _)) rfl))) ?_
  have hB0_2 : Below w.heap.size w w3 := (hb2).trans (hb3.mono (hb2).size)
  have hB0_3 : Below w.heap.size w w6 := (hB0_2).trans (hb6.mono (hB0_2).size)
  have hB0_4 : Below w.heap.size w w7 := (hB0_3).trans (hb7.mono (hB0_3).size)
  have hB0_5 : Below w.heap.size w w8 := (hB0_4).grown hg8 (hB0_4).size (fun k e => by cases e; exact Nat.le_trans (hB0_3).size (Nat.le_refl _))
  have hB0_6 : Below w.heap.size w w11 := (hB0_5).grown hg11 (hB0_5).size (fun k e => by cases e; exact Nat.le_trans (hb2).size (Nat.le_refl _))
  exact ⟨rfl, hB0_6⟩
set_option maxRecDepth 100000 in
set_option maxHeartbeats 4000000 in
theorem leaves_calls (gs n : Nat) (h : Int) (sd : List UInt8) (w : World) (h32 : sd.length = 32) (e1 : h = (n : Int)) (hn : n ≤ 10) (hp : 2 ^ n ≤ 1024) (hkg : Blk w gs 45 (bcs sd)) (hKn : Kon w) : Calls Tryd.prog 64 #[(.func (.func 121) #[] #[(.pointer (some ⟨gs, 0, none⟩))]), (.int .i64 h)] w (fun e w' => ∃ v, e = .returned v ∧ Eng.OwnD w.heap.size w' v (lvS sd (2 ^ n)) ∧ Below w.heap.size w w') := by
  refine Eng.enter (l := [(.func (.func 121) #[] #[(.pointer (some ⟨gs, 0, none⟩))]), (.int .i64 h)]) Tryd.func64 rfl 24 rfl (by simp) ?_
  refine Eng.seqk fun K1 hK1 => ?_
  refine Eng.reg ?_
  refine Eng.sv rfl rfl (Eng.x_as (v := (.slice none 0 0)) rfl rfl) ?_
  refine Eng.nil ?_
  refine hK1 _ _ ?_
  refine Eng.seqk fun K2 hK2 => ?_
  refine Eng.reg ?_
  refine Eng.sv rfl rfl (Eng.x_as (v := (.slice none 0 0)) rfl rfl) ?_
  refine Eng.nil ?_
  refine hK2 _ _ ?_
  refine Eng.seqk fun K3 hK3 => ?_
  refine Eng.seqk fun K4 hK4 => ?_
  refine Eng.reg ?_
  refine Eng.sv rfl rfl (Eng.x_mv (v := (.int .i64 h)) rfl rfl) ?_
  refine Eng.sv rfl rfl (Eng.x_shl rfl rfl rfl (by omega) (r := ((2 ^ n : Nat) : Int)) ((shl_eq (x := 1) rfl e1 (by omega) (by rw [Nat.one_mul]; omega)).trans (by rw [Nat.one_mul]))) ?_
  refine Eng.sv rfl rfl (Eng.x_mv (v := (.int .i64 0)) rfl rfl) ?_
  refine Eng.nil ?_
  refine hK4 _ _ ?_
  refine Eng.blk ?_
  refine Eng.loopN (fun zz u w' => ∃ (i : Nat), ∃ (vl : Value), zz = 2 ^ n - i ∧ i ≤ 2 ^ n ∧ Eng.Has u [(0, (.func (.func 121) #[] #[(.pointer (some ⟨gs, 0, none⟩))])), (4, (.slice none 0 0)), (5, vl), (9, (.int .i64 ((2 ^ n : Nat) : Int))), (10, (.int .i64 (i : Int)))] ∧ Below w.heap.size w w' ∧ w.heap.size ≤ w'.heap.size ∧ Blk w' gs 45 (bcs sd) ∧ Eng.OwnD w.heap.size w' vl (lvS sd i)) _ ⟨0, (.slice none 0 0), rfl, (Nat.zero_le _), ⟨rfl, rfl, rfl, rfl, (Eng.ie (by first | omega | rfl)), trivial⟩, (Below.refl _ _), (Nat.le_refl _), hkg, (Eng.OwnD.nil _ _)⟩ ?_
  rintro _ u5 w5 ⟨i, vl, rfl, hs5_0, hH5, hBL5, hzL5, hkL5_0, hrL5_0⟩ K5 hK5
  obtain ⟨u5, rfl⟩ := hH5.ex
  refine Eng.seqk fun K6 hK6 => ?_
  refine Eng.reg ?_
  by_cases h11 : ((i : Int) : Int) < ((2 ^ n : Nat) : Int)
  · skip
    refine Eng.sv rfl rfl (Eng.x_lt (r := true) rfl rfl rfl (decide_eq_true (by omega))) ?_
    refine Eng.nil ?_
    refine hK6 _ _ ?_
    refine Eng.seqk fun K7 hK7 => ?_
    refine Eng.cond_t rfl ?_
    refine Eng.skp ?_
    refine hK7 _ _ ?_
    refine Eng.seqk fun K8 hK8 => ?_
    refine Eng.blk ?_
    refine Eng.seqk fun K9 hK9 => ?_
    refine Eng.reg ?_
    refine Eng.sv rfl rfl (Eng.x_mv (v := (.int .i64 (i : Int))) rfl rfl) ?_
    refine Eng.sv rfl rfl (Eng.x_as (v := (.int .i64 (i : Int))) rfl rfl) ?_
    refine Eng.nil ?_
    refine hK9 _ _ ?_
    refine Eng.seqk fun K10 hK10 => ?_
    refine Eng.reg ?_
    refine Eng.sv rfl rfl (Eng.x_mv (v := (.func (.func 121) #[] #[(.pointer (some ⟨gs, 0, none⟩))])) rfl rfl) ?_
    refine Eng.sv rfl rfl (Eng.x_mv (v := (.int .i64 (i : Int))) rfl rfl) ?_
    have hr11 := (hKn).below hBL5
    refine Eng.sc rfl (Eng.xcv (first := []) (cap := [(.pointer (some ⟨gs, 0, none⟩))]) (vl := [(.int .i64 (i : Int)), (.pointer (some ⟨gs, 0, none⟩))]) rfl rfl rfl en121_ky) (seed1_calls gs i sd _ h32 hkL5_0 (by omega) hr11) ?_
    rintro _ w12 ⟨rfl, hb12⟩
    refine Eng.aft_v rfl ?_
    have hB0_2 : Below w.heap.size w w12 := (hBL5).trans (hb12.mono (hBL5).size)
    have hr13 := (hKn).below hB0_2
    refine Eng.sc rfl (Eng.xc (vl := [(dg (seedS sd i))]) rfl rfl rfl en120_ky) (pub_calls (seedS sd i) _ (childS_len _ _ _) hr13) ?_
    rintro _ w14 ⟨rfl, hb14⟩
    refine Eng.aft_v rfl ?_
    refine Eng.al rfl rfl rfl zr45_ky (cs := (bcs Oct.dz)) rfl ?_
    intro w15 hk15 hb15 hz15
    refine Eng.stB (v := (dg (pubS (seedS sd i)))) rfl rfl rfl sz45_ky rfl hk15 rfl rfl (cs' := (bcs (pubS (seedS sd i)))) rfl ((bcs_length _).trans (pubS_len _)) (bcs_one _) ?_
    intro w16 hk16 hg16
    refine Eng.nil ?_
    refine hK10 _ _ ?_
    refine Eng.reg ?_
    refine Eng.sv rfl rfl (Eng.x_mv (v := vl) rfl rfl) ?_
    refine Eng.sv rfl rfl (Eng.x_slA rfl Tryd.underlying45 sz5_ky rfl) ?_
    have hB0_3 : Below w.heap.size w w14 := (hB0_2).trans (hb14.mono (hB0_2).size)
    have hB0_4 : Below w.heap.size w w15 := (hB0_3).trans (hb15.mono (hB0_3).size)
    have hB0_5 : Below w.heap.size w w16 := (hB0_4).grown hg16 (hB0_4).size (fun k e => by cases e; exact Nat.le_trans (hB0_3).size (Nat.le_refl _))
    have hr17 := (hKn).below hB0_5
    refine Eng.sc rfl (Eng.xc (vl := [(.slice (some ⟨w14.heap.size, 0, none⟩) 32 32)]) rfl rfl rfl en72_ky) (leaf_calls _ (pubS (seedS sd i)) _ (Rd.of_blk hk16 32 (pubS_len _) (by decide)) (pubS_len _) hr17) ?_
    rintro _ w18 ⟨rfl, hb18⟩
    refine Eng.aft_v rfl ?_
    refine Eng.bs (vs := [(dg (leafS (pubS (seedS sd i))))]) (cs := (Dsl.dcs [(leafS (pubS (seedS sd i)))])) rfl rfl rfl Tryd.underlying36 in45_ky (dg_size dz_length) (by decide) rfl rfl (by decide) (by decide) (Eng.all_cons (p := fun v => v.cells.size = 32) (Eng.dg_cells (leafS_len _)) Eng.all_nil) (by simp [Dsl.dcs, Value.cells]) ?_
    intro w19 hk19 hb19 hz19
    have hB1_3 : Below w5.heap.size w5 w14 := (hb12).trans (hb14.mono (hb12).size)
    have hr21 := ((((((hrL5_0).below hb12).below hb14).below hb15).kept hg16 (.inr (fun e => absurd ((World.ownsRow.lt (hrL5_0).1) _ e).2 (Nat.not_lt_of_le (Nat.le_trans (hB1_3).size (Nat.le_refl _)))))).below hb18).below hb19
    have hB0_6 : Below w.heap.size w w18 := (hB0_5).trans (hb18.mono (hB0_5).size)
    have hB0_7 : Below w.heap.size w w19 := (hB0_6).trans (hb19.mono (hB0_6).size)
    refine Eng.apD rfl rfl rfl rfl hr21 rfl (Eng.ds_lit hk19 (Eng.all32_one (leafS_len _)) (Nat.le_of_ble_eq_true rfl)) (by rw [lvS_len]; simp only [List.length_cons, List.length_nil]; omega) (hB0_7).size ?_
    intro v20 w20 ho20 hg20
    rw [← lvS_succ] at ho20
    refine Eng.sv rfl rfl (Eng.x_as (v := v20) rfl rfl) ?_
    refine Eng.nil ?_
    refine Eng.nb ?_
    refine hK8 _ _ ?_
    refine Eng.reg ?_
    refine Eng.sv rfl rfl (Eng.x_add rfl rfl rfl (Eng.w64 (r := ((i + 1 : Nat) : Int)) (by omega))) ?_
    refine Eng.sv rfl rfl (Eng.x_mv (v := (.int .i64 ((i + 1 : Nat) : Int))) rfl rfl) ?_
    refine Eng.nil ?_
    have hB0_8 : Below w.heap.size w w20 := (hB0_7).grown hg20 (hB0_7).size (fun k e => Nat.le_trans (Nat.le_refl _) ((World.ownsRow.lt (hrL5_0).1) _ e).1)
    have hk22 := (((((((hkL5_0).below hb12).below hb14).below hb15).grown hg16 (fun e => absurd (Option.some.inj e) (Nat.ne_of_lt (Nat.lt_of_lt_of_le (hkg).lt (Nat.le_trans (hB0_3).size (Nat.le_refl _)))))).below hb18).below hb19).grown hg20 (fun e => absurd ((World.ownsRow.lt (hrL5_0).1) _ e.symm).1 (Nat.not_le_of_lt (Nat.lt_of_lt_of_le (hkg).lt (Nat.le_refl _))))
    exact hK5 _ _ _ ⟨i + 1, v20, rfl, by omega, ⟨rfl, rfl, rfl, rfl, (Eng.ie (by first | omega | rfl)), trivial⟩, hB0_8, (hB0_8).size, hk22, ho20⟩ (by omega)
  · skip
    refine Eng.sv rfl rfl (Eng.x_lt (r := false) rfl rfl rfl (decide_eq_false (by omega))) ?_
    refine Eng.nil ?_
    refine hK6 _ _ ?_
    refine Eng.seqk fun K23 hK23 => ?_
    refine Eng.cond_f rfl ?_
    refine Eng.xt ?_
    refine Eng.te ?_
    refine Eng.te ?_
    refine Eng.be ?_
    refine hK3 _ _ ?_
    refine Eng.seqk fun K24 hK24 => ?_
    refine Eng.reg ?_
    refine Eng.sv rfl rfl (Eng.x_mv (v := vl) rfl rfl) ?_
    refine Eng.sv rfl rfl (Eng.x_as (v := vl) rfl rfl) ?_
    refine Eng.nil ?_
    refine hK24 _ _ ?_
    refine Eng.rt ?_
    refine Eng.ret (Eng.res1 (v1 := vl) rfl (Eng.rdt rfl)) ?_
    have hix : i = 2 ^ n := by omega
    rw [hix] at hrL5_0
    exact ⟨_, rfl, (hrL5_0).mono (Nat.le_refl _), hBL5⟩
set_option maxRecDepth 100000 in
set_option maxHeartbeats 4000000 in
theorem rleaves_calls (n : Nat) (h : Int) (sd : List UInt8) (w : World) (h32 : sd.length = 32) (e1 : h = (n : Int)) (hn : n ≤ 10) (hp : 2 ^ n ≤ 1024) : Calls Tryd.prog 68 #[(dg sd), (.int .i64 h)] w (fun e w' => ∃ v, e = .returned v ∧ Eng.OwnD w.heap.size w' v (lvS sd (2 ^ n)) ∧ Below w.heap.size w w') := by
  refine Eng.enter (l := [(dg sd), (.int .i64 h)]) Tryd.func68 rfl 25 rfl (by simp) ?_
  refine Eng.seqk fun K1 hK1 => ?_
  refine Eng.reg ?_
  refine Eng.bo (v := (dg sd)) (cs := (bcs sd)) rfl rfl rfl rfl rfl ?_
  intro w2 hk2 hb2 hz2
  refine Eng.sv rfl rfl (Eng.x_as (v := (.slice none 0 0)) rfl rfl) ?_
  refine Eng.nil ?_
  refine hK1 _ _ ?_
  refine Eng.seqk fun K3 hK3 => ?_
  refine Eng.reg ?_
  refine Eng.sv rfl rfl (Eng.x_as (v := (.slice none 0 0)) rfl rfl) ?_
  refine Eng.nil ?_
  refine hK3 _ _ ?_
  refine Eng.seqk fun K4 hK4 => ?_
  refine Eng.seqk fun K5 hK5 => ?_
  refine Eng.reg ?_
  refine Eng.sv rfl rfl (Eng.x_as (v := (.int .i64 0)) rfl rfl) ?_
  refine Eng.nil ?_
  refine hK5 _ _ ?_
  refine Eng.blk ?_
  refine Eng.loopN (fun zz u w' => ∃ (i : Nat), ∃ (vl : Value), zz = 2 ^ n - i ∧ i ≤ 2 ^ n ∧ Eng.Has u [(1, (.int .i64 h)), (2, (.pointer (some ⟨w.heap.size, 0, none⟩))), (4, (.slice none 0 0)), (5, vl), (6, (.int .i64 (i : Int)))] ∧ Below w.heap.size w w' ∧ w2.heap.size ≤ w'.heap.size ∧ Blk w' w.heap.size 45 (bcs sd) ∧ Eng.OwnD w2.heap.size w' vl (lvS sd i)) _ ⟨0, (.slice none 0 0), rfl, (Nat.zero_le _), ⟨rfl, rfl, rfl, rfl, (Eng.ie (by first | omega | rfl)), trivial⟩, hb2, (Nat.le_refl _), hk2, (Eng.OwnD.nil _ _)⟩ ?_
  rintro _ u6 w6 ⟨i, vl, rfl, hs6_0, hH6, hBL6, hzL6, hkL6_0, hrL6_0⟩ K6 hK6
  obtain ⟨u6, rfl⟩ := hH6.ex
  refine Eng.seqk fun K7 hK7 => ?_
  refine Eng.seqk fun K8 hK8 => ?_
  refine Eng.reg ?_
  refine Eng.sv rfl rfl (Eng.x_mv (v := (.int .i64 (i : Int))) rfl rfl) ?_
  refine Eng.sv rfl rfl (Eng.x_mv (v := (.int .i64 h)) rfl rfl) ?_
  refine Eng.sv rfl rfl (Eng.x_conv rfl Tryd.underlying3 Tryd.underlying39 rfl (Eng.wu64 (r := h) (by omega))) ?_
  refine Eng.sv rfl rfl (Eng.x_shl rfl rfl rfl (by omega) (r := ((2 ^ n : Nat) : Int)) ((shl_eq (x := 1) rfl e1 (by omega) (by rw [Nat.one_mul]; omega)).trans (by rw [Nat.one_mul]))) ?_
  by_cases h12 : ((i : Int) : Int) < ((2 ^ n : Nat) : Int)
  · skip
    refine Eng.sv rfl rfl (Eng.x_lt (r := true) rfl rfl rfl (decide_eq_true (by omega))) ?_
    refine Eng.nil ?_
    refine hK8 _ _ ?_
    refine Eng.cond_t rfl ?_
    refine Eng.skp ?_
    refine hK7 _ _ ?_
    refine Eng.seqk fun K9 hK9 => ?_
    refine Eng.blk ?_
    refine Eng.seqk fun K10 hK10 => ?_
    refine Eng.reg ?_
    refine Eng.sv rfl rfl (Eng.x_ldB (v := (dg sd)) rfl ag45_ky sz45_ky rfl hkL6_0 ((bcs_length _).trans h32) rfl) ?_
    refine Eng.sv rfl rfl (Eng.x_mv (v := (.int .i64 (i : Int))) rfl rfl) ?_
    refine Eng.sc rfl (Eng.xc (vl := [(dg sd), (.int .i64 (i : Int))]) rfl rfl rfl en127_ky) (rseed_calls sd i _ h32 (by omega)) ?_
    rintro _ w11 ⟨rfl, hb11⟩
    refine Eng.aft_v rfl ?_
    refine Eng.sc rfl (Eng.xc (vl := [(dg (seedS sd i))]) rfl rfl rfl en126_ky) (rpub_calls (seedS sd i) _ (childS_len _ _ _)) ?_
    rintro _ w12 ⟨rfl, hb12⟩
    refine Eng.aft_v rfl ?_
    refine Eng.al rfl rfl rfl zr45_ky (cs := (bcs Oct.dz)) rfl ?_
    intro w13 hk13 hb13 hz13
    refine Eng.stB (v := (dg (pubS (seedS sd i)))) rfl rfl rfl sz45_ky rfl hk13 rfl rfl (cs' := (bcs (pubS (seedS sd i)))) rfl ((bcs_length _).trans (pubS_len _)) (bcs_one _) ?_
    intro w14 hk14 hg14
    refine Eng.nil ?_
    refine hK10 _ _ ?_
    refine Eng.reg ?_
    refine Eng.sv rfl rfl (Eng.x_mv (v := vl) rfl rfl) ?_
    refine Eng.sv rfl rfl (Eng.x_slA rfl Tryd.underlying45 sz5_ky rfl) ?_
    refine Eng.sc rfl (Eng.xc (vl := [(.slice (some ⟨w12.heap.size, 0, none⟩) 32 32)]) rfl rfl rfl en77_ky) (rleaf_calls _ (pubS (seedS sd i)) _ (Rd.of_blk hk14 32 (pubS_len _) (by decide)) (pubS_len _)) ?_
    rintro _ w15 ⟨rfl, hb15⟩
    refine Eng.aft_v rfl ?_
    refine Eng.bs (vs := [(dg (leafS (pubS (seedS sd i))))]) (cs := (Dsl.dcs [(leafS (pubS (seedS sd i)))])) rfl rfl rfl Tryd.underlying36 in45_ky (dg_size dz_length) (by decide) rfl rfl (by decide) (by decide) (Eng.all_cons (p := fun v => v.cells.size = 32) (Eng.dg_cells (leafS_len _)) Eng.all_nil) (by simp [Dsl.dcs, Value.cells]) ?_
    intro w16 hk16 hb16 hz16
    have hB2_4 : Below w6.heap.size w6 w12 := (hb11).trans (hb12.mono (hb11).size)
    have hr18 := ((((((hrL6_0).below hb11).below hb12).below hb13).kept hg14 (.inr (fun e => absurd ((World.ownsRow.lt (hrL6_0).1) _ e).2 (Nat.not_lt_of_le (Nat.le_trans (hB2_4).size (Nat.le_refl _)))))).below hb15).below hb16
    refine Eng.apD rfl rfl rfl rfl hr18 rfl (Eng.ds_lit hk16 (Eng.all32_one (leafS_len _)) (Nat.le_of_ble_eq_true rfl)) (by rw [lvS_len]; simp only [List.length_cons, List.length_nil]; omega) (Nat.le_trans (Nat.le_trans (Nat.le_trans (Nat.le_trans (Nat.le_trans (Nat.le_trans hzL6 (hb11).size) (hb12).size) (hb13).size) (hg14).size) (hb15).size) (hb16).size) ?_
    intro v17 w17 ho17 hg17
    rw [← lvS_succ] at ho17
    refine Eng.sv rfl rfl (Eng.x_as (v := v17) rfl rfl) ?_
    refine Eng.nil ?_
    refine Eng.nb ?_
    refine hK9 _ _ ?_
    refine Eng.reg ?_
    refine Eng.sv rfl rfl (Eng.x_mv (v := (.int .i64 (i : Int))) rfl rfl) ?_
    refine Eng.sv rfl rfl (Eng.x_add rfl rfl rfl (Eng.w64 (r := ((i + 1 : Nat) : Int)) (by omega))) ?_
    refine Eng.sv rfl rfl (Eng.x_as (v := (.int .i64 ((i + 1 : Nat) : Int))) rfl rfl) ?_
    refine Eng.nil ?_
    have hB0_3 : Below w.heap.size w w11 := (hBL6).trans (hb11.mono (hBL6).size)
    have hB0_4 : Below w.heap.size w w12 := (hB0_3).trans (hb12.mono (hB0_3).size)
    have hB0_5 : Below w.heap.size w w13 := (hB0_4).trans (hb13.mono (hB0_4).size)
    have hB0_6 : Below w.heap.size w w14 := (hB0_5).grown hg14 (hB0_5).size (fun k e => by cases e; exact Nat.le_trans (hB0_4).size (Nat.le_refl _))
    have hB0_7 : Below w.heap.size w w15 := (hB0_6).trans (hb15.mono (hB0_6).size)
    have hB0_8 : Below w.heap.size w w16 := (hB0_7).trans (hb16.mono (hB0_7).size)
    have hB0_9 : Below w.heap.size w w17 := (hB0_8).grown hg17 (hB0_8).size (fun k e => Nat.le_trans (hb2).size ((World.ownsRow.lt (hrL6_0).1) _ e).1)
    have hk19 := (((((((hkL6_0).below hb11).below hb12).below hb13).grown hg14 (fun e => absurd (Option.some.inj e) (Nat.ne_of_lt (Nat.lt_of_lt_of_le hz2 (Nat.le_trans (Nat.le_trans (Nat.le_trans hzL6 (hb11).size) (hb12).size) (Nat.le_refl _)))))).below hb15).below hb16).grown hg17 (fun e => absurd ((World.ownsRow.lt (hrL6_0).1) _ e.symm).1 (Nat.not_le_of_lt (Nat.lt_of_lt_of_le hz2 (Nat.le_refl _))))
    exact hK6 _ _ _ ⟨i + 1, v17, rfl, by omega, ⟨rfl, rfl, rfl, rfl, (Eng.ie (by first | omega | rfl)), trivial⟩, hB0_9, (Nat.le_trans (Nat.le_trans (Nat.le_trans (Nat.le_trans (Nat.le_trans (Nat.le_trans (Nat.le_trans hzL6 (hb11).size) (hb12).size) (hb13).size) (hg14).size) (hb15).size) (hb16).size) (hg17).size), hk19, ho17⟩ (by omega)
  · skip
    refine Eng.sv rfl rfl (Eng.x_lt (r := false) rfl rfl rfl (decide_eq_false (by omega))) ?_
    refine Eng.nil ?_
    refine hK8 _ _ ?_
    refine Eng.cond_f rfl ?_
    refine Eng.xt ?_
    refine Eng.te ?_
    refine Eng.te ?_
    refine Eng.be ?_
    refine hK4 _ _ ?_
    refine Eng.seqk fun K20 hK20 => ?_
    refine Eng.reg ?_
    refine Eng.sv rfl rfl (Eng.x_mv (v := vl) rfl rfl) ?_
    refine Eng.sv rfl rfl (Eng.x_as (v := vl) rfl rfl) ?_
    refine Eng.nil ?_
    refine hK20 _ _ ?_
    refine Eng.rt ?_
    refine Eng.ret (Eng.res1 (v1 := vl) rfl (Eng.rdt rfl)) ?_
    have hix : i = 2 ^ n := by omega
    rw [hix] at hrL6_0
    exact ⟨_, rfl, (hrL6_0).mono (hb2).size, hBL6⟩
set_option maxRecDepth 100000 in
set_option maxHeartbeats 4000000 in
theorem kheight_calls (h : Int) (w : World) : Calls Tryd.prog 63 #[(.int .i64 h)] w (fun e w' => e = .returned (.bool (kh h)) ∧ Below w.heap.size w w') := by
  refine Eng.enter (l := [(.int .i64 h)]) Tryd.func63 rfl 9 rfl (by simp) ?_
  refine Eng.seqk fun K1 hK1 => ?_
  refine Eng.reg ?_
  refine Eng.sv rfl rfl (Eng.x_as (v := (.bool false)) rfl rfl) ?_
  refine Eng.nil ?_
  refine hK1 _ _ ?_
  refine Eng.seqk fun K2 hK2 => ?_
  by_cases q0 : 0 ≤ h
  · skip
    by_cases q1 : h ≤ 10
    · skip
      refine Eng.reg ?_
      refine Eng.sv rfl rfl (Eng.x_mv (v := (.int .i64 h)) rfl rfl) ?_
      refine Eng.sv rfl rfl (Eng.x_ge (r := true) rfl rfl rfl (decide_eq_true (by omega))) ?_
      refine Eng.sv rfl rfl (Eng.x_mv (v := (.bool true)) rfl rfl) ?_
      refine Eng.sv (Eng.gt rfl rfl rfl rfl) rfl (Eng.x_mv (v := (.int .i64 h)) rfl rfl) ?_
      refine Eng.sv (Eng.gt rfl rfl rfl rfl) rfl (Eng.x_le (r := true) rfl rfl rfl (decide_eq_true (by omega))) ?_
      refine Eng.sv rfl rfl (Eng.x_pick (v := (.bool true)) rfl rfl rfl rfl rfl) ?_
      refine Eng.sv rfl rfl (Eng.x_as (v := (.bool true)) rfl rfl) ?_
      refine Eng.nil ?_
      refine hK2 _ _ ?_
      refine Eng.rt ?_
      refine Eng.ret (Eng.res1 (v1 := (.bool true)) rfl (Eng.rdt rfl)) ?_
      exact ⟨by unfold kh; simp only [decide_eq_true (show (0 ≤ h ∧ h ≤ 10) by omega)], (Below.refl _ _)⟩
    · skip
      refine Eng.reg ?_
      refine Eng.sv rfl rfl (Eng.x_mv (v := (.int .i64 h)) rfl rfl) ?_
      refine Eng.sv rfl rfl (Eng.x_ge (r := true) rfl rfl rfl (decide_eq_true (by omega))) ?_
      refine Eng.sv rfl rfl (Eng.x_mv (v := (.bool true)) rfl rfl) ?_
      refine Eng.sv (Eng.gt rfl rfl rfl rfl) rfl (Eng.x_mv (v := (.int .i64 h)) rfl rfl) ?_
      refine Eng.sv (Eng.gt rfl rfl rfl rfl) rfl (Eng.x_le (r := false) rfl rfl rfl (decide_eq_false (by omega))) ?_
      refine Eng.sv rfl rfl (Eng.x_pick (v := (.bool false)) rfl rfl rfl rfl rfl) ?_
      refine Eng.sv rfl rfl (Eng.x_as (v := (.bool false)) rfl rfl) ?_
      refine Eng.nil ?_
      refine hK2 _ _ ?_
      refine Eng.rt ?_
      refine Eng.ret (Eng.res1 (v1 := (.bool false)) rfl (Eng.rdt rfl)) ?_
      exact ⟨by unfold kh; simp only [decide_eq_false (show ¬ (0 ≤ h ∧ h ≤ 10) by omega)], (Below.refl _ _)⟩
  · skip
    refine Eng.reg ?_
    refine Eng.sv rfl rfl (Eng.x_mv (v := (.int .i64 h)) rfl rfl) ?_
    refine Eng.sv rfl rfl (Eng.x_ge (r := false) rfl rfl rfl (decide_eq_false (by omega))) ?_
    refine Eng.sv rfl rfl (Eng.x_mv (v := (.bool false)) rfl rfl) ?_
    refine Eng.sg (Eng.gf rfl rfl rfl rfl) rfl ?_
    refine Eng.sg (Eng.gf rfl rfl rfl rfl) rfl ?_
    refine Eng.sv rfl rfl (Eng.x_pick (v := (.bool false)) rfl rfl rfl rfl rfl) ?_
    refine Eng.sv rfl rfl (Eng.x_as (v := (.bool false)) rfl rfl) ?_
    refine Eng.nil ?_
    refine hK2 _ _ ?_
    refine Eng.rt ?_
    refine Eng.ret (Eng.res1 (v1 := (.bool false)) rfl (Eng.rdt rfl)) ?_
    exact ⟨by unfold kh; simp only [decide_eq_false (show ¬ (0 ≤ h ∧ h ≤ 10) by omega)], (Below.refl _ _)⟩
theorem kheight_is {b : Bool} {h : Int} (e : kh h = b) (w : World) : Calls Tryd.prog 63 #[.int .i64 h] w fun e w' => e = .returned (.bool b) ∧ Below w.heap.size w w' := e ▸ kheight_calls h w
set_option maxRecDepth 100000 in
set_option maxHeartbeats 4000000 in
theorem rkheight_calls (h : Int) (w : World) : Calls Tryd.prog 66 #[(.int .i64 h)] w (fun e w' => e = .returned (.bool (kh h)) ∧ Below w.heap.size w w') := by
  refine Eng.enter (l := [(.int .i64 h)]) Tryd.func66 rfl 9 rfl (by simp) ?_
  refine Eng.seqk fun K1 hK1 => ?_
  refine Eng.reg ?_
  refine Eng.sv rfl rfl (Eng.x_as (v := (.bool false)) rfl rfl) ?_
  refine Eng.nil ?_
  refine hK1 _ _ ?_
  refine Eng.seqk fun K2 hK2 => ?_
  by_cases q0 : 0 ≤ h
  · skip
    by_cases q1 : h ≤ 10
    · skip
      refine Eng.reg ?_
      refine Eng.sv rfl rfl (Eng.x_mv (v := (.int .i64 h)) rfl rfl) ?_
      refine Eng.sv rfl rfl (Eng.x_ge (r := true) rfl rfl rfl (decide_eq_true (by omega))) ?_
      refine Eng.sv rfl rfl (Eng.x_mv (v := (.bool true)) rfl rfl) ?_
      refine Eng.sv (Eng.gt rfl rfl rfl rfl) rfl (Eng.x_mv (v := (.int .i64 h)) rfl rfl) ?_
      refine Eng.sv (Eng.gt rfl rfl rfl rfl) rfl (Eng.x_le (r := true) rfl rfl rfl (decide_eq_true (by omega))) ?_
      refine Eng.sv rfl rfl (Eng.x_pick (v := (.bool true)) rfl rfl rfl rfl rfl) ?_
      refine Eng.sv rfl rfl (Eng.x_as (v := (.bool true)) rfl rfl) ?_
      refine Eng.nil ?_
      refine hK2 _ _ ?_
      refine Eng.rt ?_
      refine Eng.ret (Eng.res1 (v1 := (.bool true)) rfl (Eng.rdt rfl)) ?_
      exact ⟨by unfold kh; simp only [decide_eq_true (show (0 ≤ h ∧ h ≤ 10) by omega)], (Below.refl _ _)⟩
    · skip
      refine Eng.reg ?_
      refine Eng.sv rfl rfl (Eng.x_mv (v := (.int .i64 h)) rfl rfl) ?_
      refine Eng.sv rfl rfl (Eng.x_ge (r := true) rfl rfl rfl (decide_eq_true (by omega))) ?_
      refine Eng.sv rfl rfl (Eng.x_mv (v := (.bool true)) rfl rfl) ?_
      refine Eng.sv (Eng.gt rfl rfl rfl rfl) rfl (Eng.x_mv (v := (.int .i64 h)) rfl rfl) ?_
      refine Eng.sv (Eng.gt rfl rfl rfl rfl) rfl (Eng.x_le (r := false) rfl rfl rfl (decide_eq_false (by omega))) ?_
      refine Eng.sv rfl rfl (Eng.x_pick (v := (.bool false)) rfl rfl rfl rfl rfl) ?_
      refine Eng.sv rfl rfl (Eng.x_as (v := (.bool false)) rfl rfl) ?_
      refine Eng.nil ?_
      refine hK2 _ _ ?_
      refine Eng.rt ?_
      refine Eng.ret (Eng.res1 (v1 := (.bool false)) rfl (Eng.rdt rfl)) ?_
      exact ⟨by unfold kh; simp only [decide_eq_false (show ¬ (0 ≤ h ∧ h ≤ 10) by omega)], (Below.refl _ _)⟩
  · skip
    refine Eng.reg ?_
    refine Eng.sv rfl rfl (Eng.x_mv (v := (.int .i64 h)) rfl rfl) ?_
    refine Eng.sv rfl rfl (Eng.x_ge (r := false) rfl rfl rfl (decide_eq_false (by omega))) ?_
    refine Eng.sv rfl rfl (Eng.x_mv (v := (.bool false)) rfl rfl) ?_
    refine Eng.sg (Eng.gf rfl rfl rfl rfl) rfl ?_
    refine Eng.sg (Eng.gf rfl rfl rfl rfl) rfl ?_
    refine Eng.sv rfl rfl (Eng.x_pick (v := (.bool false)) rfl rfl rfl rfl rfl) ?_
    refine Eng.sv rfl rfl (Eng.x_as (v := (.bool false)) rfl rfl) ?_
    refine Eng.nil ?_
    refine hK2 _ _ ?_
    refine Eng.rt ?_
    refine Eng.ret (Eng.res1 (v1 := (.bool false)) rfl (Eng.rdt rfl)) ?_
    exact ⟨by unfold kh; simp only [decide_eq_false (show ¬ (0 ≤ h ∧ h ≤ 10) by omega)], (Below.refl _ _)⟩
theorem rkheight_is {b : Bool} {h : Int} (e : kh h = b) (w : World) : Calls Tryd.prog 66 #[.int .i64 h] w fun e w' => e = .returned (.bool b) ∧ Below w.heap.size w w' := e ▸ rkheight_calls h w
set_option maxRecDepth 100000 in
set_option maxHeartbeats 4000000 in
theorem kpub_calls (sd : List UInt8) (h : Int) (w : World) (h32 : sd.length = 32) (hKn : Kon w) : Calls Tryd.prog 25 #[(dg sd), (.int .i64 h)] w (fun e w' => e = .returned (.tuple #[dg (kpS sd h).1, .int .i64 (kpS sd h).2]) ∧ Below w.heap.size w w') := by
  refine Eng.enter (l := [(dg sd), (.int .i64 h)]) Tryd.func25 rfl 15 rfl (by simp) ?_
  refine Eng.seqk fun K1 hK1 => ?_
  refine Eng.reg ?_
  refine Eng.bo (v := (dg sd)) (cs := (bcs sd)) rfl rfl rfl rfl rfl ?_
  intro w2 hk2 hb2 hz2
  refine Eng.al rfl rfl rfl zr45_ky (cs := (bcs Oct.dz)) rfl ?_
  intro w3 hk3 hb3 hz3
  refine Eng.sv rfl rfl (Eng.x_as (v := (.int .i64 0)) rfl rfl) ?_
  refine Eng.nil ?_
  refine hK1 _ _ ?_
  refine Eng.seqk fun K4 hK4 => ?_
  refine Eng.seqk fun K5 hK5 => ?_
  by_cases q0 : kh h = false
  · skip
    refine Eng.reg ?_
    refine Eng.sv rfl rfl (Eng.x_mv (v := (.int .i64 h)) rfl rfl) ?_
    refine Eng.sc rfl (Eng.xc (vl := [(.int .i64 h)]) rfl rfl rfl en63_ky) (kheight_is q0 _) ?_
    rintro _ w6 ⟨rfl, hb6⟩
    refine Eng.aft_v rfl ?_
    refine Eng.sv rfl rfl (Eng.x_not (v := (.bool true)) rfl rfl rfl) ?_
    refine Eng.nil ?_
    refine hK5 _ _ ?_
    refine Eng.cond_t rfl ?_
    refine Eng.seqk fun K7 hK7 => ?_
    refine Eng.reg ?_
    refine Eng.sv rfl rfl (Eng.x_build (ps := []) (v := (dg Oct.dz)) rfl rfl (by kernel_rfl)) ?_
    have hk8 := (hk3).below hb6
    refine Eng.stB (v := (dg Oct.dz)) rfl rfl rfl sz45_ky rfl hk8 rfl rfl (cs' := (bcs Oct.dz)) rfl rfl (bcs_one _) ?_
    intro w9 hk9 hg9
    refine Eng.sv rfl rfl (Eng.x_as (v := (.int .i64 2)) rfl rfl) ?_
    refine Eng.nil ?_
    refine hK7 _ _ ?_
    refine Eng.rt ?_
    refine Eng.tr ?_
    refine Eng.ret (Eng.res2 (v1 := (dg Oct.dz)) (v2 := (.int .i64 2)) rfl (Eng.rdc rfl (Eng.lvB ag45_ky sz45_ky hk9 rfl rfl)) (Eng.rdt rfl)) ?_
    have hB0_2 : Below w.heap.size w w3 := (hb2).trans (hb3.mono (hb2).size)
    have hB0_3 : Below w.heap.size w w6 := (hB0_2).trans (hb6.mono (hB0_2).size)
    have hB0_4 : Below w.heap.size w w9 := (hB0_3).grown hg9 (hB0_3).size (fun k e => by cases e; exact Nat.le_trans (hb2).size (Nat.le_refl _))
    exact ⟨by rw [kpS_no q0], hB0_4⟩
  · skip
    obtain ⟨n, e1, hn, hp⟩ := kh_nat q0
    refine Eng.reg ?_
    refine Eng.sv rfl rfl (Eng.x_mv (v := (.int .i64 h)) rfl rfl) ?_
    refine Eng.sc rfl (Eng.xc (vl := [(.int .i64 h)]) rfl rfl rfl en63_ky) (kheight_is (by simpa using q0) _) ?_
    rintro _ w10 ⟨rfl, hb10⟩
    refine Eng.aft_v rfl ?_
    refine Eng.sv rfl rfl (Eng.x_not (v := (.bool false)) rfl rfl rfl) ?_
    refine Eng.nil ?_
    refine hK5 _ _ ?_
    refine Eng.cond_f rfl ?_
    refine Eng.skp ?_
    refine hK4 _ _ ?_
    refine Eng.seqk fun K11 hK11 => ?_
    refine Eng.reg ?_
    have hk12 := ((hk2).below hb3).below hb10
    refine Eng.sv rfl rfl (Eng.x_ldB (v := (dg sd)) rfl ag45_ky sz45_ky rfl hk12 ((bcs_length _).trans h32) rfl) ?_
    refine Eng.sc rfl (Eng.xc (vl := [(dg sd)]) rfl rfl rfl en65_ky) (seeds_calls sd _ h32) ?_
    rintro _ w13 ⟨b13, rfl, hk13, hl13, hb13⟩
    refine Eng.aft_v rfl ?_
    refine Eng.sv rfl rfl (Eng.x_mv (v := (.int .i64 h)) rfl rfl) ?_
    have hB0_2 : Below w.heap.size w w3 := (hb2).trans (hb3.mono (hb2).size)
    have hB0_3 : Below w.heap.size w w10 := (hB0_2).trans (hb10.mono (hB0_2).size)
    have hB0_4 : Below w.heap.size w w13 := (hB0_3).trans (hb13.mono (hB0_3).size)
    have hr14 := (hKn).below hB0_4
    refine Eng.sc rfl (Eng.xc (vl := [(.func (.func 121) #[] #[(.pointer (some ⟨b13, 0, none⟩))]), (.int .i64 h)]) rfl rfl rfl en64_ky) (leaves_calls b13 n h sd _ h32 e1 hn hp hk13 hr14) ?_
    rintro _ w15 ⟨vx15, rfl, ho15, hb15⟩
    refine Eng.aft_v rfl ?_
    have hB0_5 : Below w.heap.size w w15 := (hB0_4).trans (hb15.mono (hB0_4).size)
    have hr16 := (hKn).below hB0_5
    refine Eng.sc rfl (Eng.xc (vl := [vx15]) rfl rfl rfl en58_ky) (troot_calls _ (lvS sd (2 ^ n)) _ ho15.ds (by rw [lvS_len]; omega) hr16) ?_
    rintro _ w17 ⟨rfl, hb17⟩
    refine Eng.aft_v rfl ?_
    have hk18 := ((((hk3).below hb10).below hb13).below hb15).below hb17
    refine Eng.stB (v := (dg (rootS (lvS sd (2 ^ n))))) rfl rfl rfl sz45_ky rfl hk18 rfl rfl (cs' := (bcs (rootS (lvS sd (2 ^ n))))) rfl ((bcs_length _).trans (root_lv sd hp)) (bcs_one _) ?_
    intro w19 hk19 hg19
    refine Eng.sv rfl rfl (Eng.x_as (v := (.int .i64 0)) rfl rfl) ?_
    refine Eng.nil ?_
    refine hK11 _ _ ?_
    refine Eng.rt ?_
    refine Eng.ret (Eng.res2 (v1 := (dg (rootS (lvS sd (2 ^ n))))) (v2 := (.int .i64 0)) rfl (Eng.rdc rfl (Eng.lvB ag45_ky sz45_ky hk19 ((bcs_length _).trans (root_lv sd hp)) rfl)) (Eng.rdt rfl)) ?_
    have hB0_6 : Below w.heap.size w w17 := (hB0_5).trans (hb17.mono (hB0_5).size)
    have hB0_7 : Below w.heap.size w w19 := (hB0_6).grown hg19 (hB0_6).size (fun k e => by cases e; exact Nat.le_trans (hb2).size (Nat.le_refl _))
    exact ⟨by rw [kpS_yes q0 e1], hB0_7⟩
set_option maxRecDepth 100000 in
set_option maxHeartbeats 4000000 in
theorem rkpub_calls (sd : List UInt8) (h : Int) (w : World) (h32 : sd.length = 32) : Calls Tryd.prog 27 #[(dg sd), (.int .i64 h)] w (fun e w' => e = .returned (.tuple #[dg (kpS sd h).1, .int .i64 (kpS sd h).2]) ∧ Below w.heap.size w w') := by
  refine Eng.enter (l := [(dg sd), (.int .i64 h)]) Tryd.func27 rfl 14 rfl (by simp) ?_
  refine Eng.seqk fun K1 hK1 => ?_
  refine Eng.reg ?_
  refine Eng.bo (v := (dg sd)) (cs := (bcs sd)) rfl rfl rfl rfl rfl ?_
  intro w2 hk2 hb2 hz2
  refine Eng.al rfl rfl rfl zr45_ky (cs := (bcs Oct.dz)) rfl ?_
  intro w3 hk3 hb3 hz3
  refine Eng.sv rfl rfl (Eng.x_as (v := (.int .i64 0)) rfl rfl) ?_
  refine Eng.nil ?_
  refine hK1 _ _ ?_
  refine Eng.seqk fun K4 hK4 => ?_
  refine Eng.seqk fun K5 hK5 => ?_
  by_cases q0 : kh h = false
  · skip
    refine Eng.reg ?_
    refine Eng.sv rfl rfl (Eng.x_mv (v := (.int .i64 h)) rfl rfl) ?_
    refine Eng.sc rfl (Eng.xc (vl := [(.int .i64 h)]) rfl rfl rfl en66_ky) (rkheight_is q0 _) ?_
    rintro _ w6 ⟨rfl, hb6⟩
    refine Eng.aft_v rfl ?_
    refine Eng.sv rfl rfl (Eng.x_not (v := (.bool true)) rfl rfl rfl) ?_
    refine Eng.nil ?_
    refine hK5 _ _ ?_
    refine Eng.cond_t rfl ?_
    refine Eng.seqk fun K7 hK7 => ?_
    refine Eng.reg ?_
    refine Eng.sv rfl rfl (Eng.x_build (ps := []) (v := (dg Oct.dz)) rfl rfl (by kernel_rfl)) ?_
    have hk8 := (hk3).below hb6
    refine Eng.stB (v := (dg Oct.dz)) rfl rfl rfl sz45_ky rfl hk8 rfl rfl (cs' := (bcs Oct.dz)) rfl rfl (bcs_one _) ?_
    intro w9 hk9 hg9
    refine Eng.sv rfl rfl (Eng.x_as (v := (.int .i64 2)) rfl rfl) ?_
    refine Eng.nil ?_
    refine hK7 _ _ ?_
    refine Eng.rt ?_
    refine Eng.tr ?_
    refine Eng.ret (Eng.res2 (v1 := (dg Oct.dz)) (v2 := (.int .i64 2)) rfl (Eng.rdc rfl (Eng.lvB ag45_ky sz45_ky hk9 rfl rfl)) (Eng.rdt rfl)) ?_
    have hB0_2 : Below w.heap.size w w3 := (hb2).trans (hb3.mono (hb2).size)
    have hB0_3 : Below w.heap.size w w6 := (hB0_2).trans (hb6.mono (hB0_2).size)
    have hB0_4 : Below w.heap.size w w9 := (hB0_3).grown hg9 (hB0_3).size (fun k e => by cases e; exact Nat.le_trans (hb2).size (Nat.le_refl _))
    exact ⟨by rw [kpS_no q0], hB0_4⟩
  · skip
    obtain ⟨n, e1, hn, hp⟩ := kh_nat q0
    refine Eng.reg ?_
    refine Eng.sv rfl rfl (Eng.x_mv (v := (.int .i64 h)) rfl rfl) ?_
    refine Eng.sc rfl (Eng.xc (vl := [(.int .i64 h)]) rfl rfl rfl en66_ky) (rkheight_is (by simpa using q0) _) ?_
    rintro _ w10 ⟨rfl, hb10⟩
    refine Eng.aft_v rfl ?_
    refine Eng.sv rfl rfl (Eng.x_not (v := (.bool false)) rfl rfl rfl) ?_
    refine Eng.nil ?_
    refine hK5 _ _ ?_
    refine Eng.cond_f rfl ?_
    refine Eng.skp ?_
    refine hK4 _ _ ?_
    refine Eng.seqk fun K11 hK11 => ?_
    refine Eng.reg ?_
    have hk12 := ((hk2).below hb3).below hb10
    refine Eng.sv rfl rfl (Eng.x_ldB (v := (dg sd)) rfl ag45_ky sz45_ky rfl hk12 ((bcs_length _).trans h32) rfl) ?_
    refine Eng.sv rfl rfl (Eng.x_mv (v := (.int .i64 h)) rfl rfl) ?_
    refine Eng.sc rfl (Eng.xc (vl := [(dg sd), (.int .i64 h)]) rfl rfl rfl en68_ky) (rleaves_calls n h sd _ h32 e1 hn hp) ?_
    rintro _ w13 ⟨vx13, rfl, ho13, hb13⟩
    refine Eng.aft_v rfl ?_
    refine Eng.sc rfl (Eng.xc (vl := [vx13]) rfl rfl rfl en67_ky) (root4_calls _ _ (lvS sd (2 ^ n)) _ ho13.ds rfl (by rw [lvS_len]; omega)) ?_
    rintro _ w14 ⟨rfl, hb14⟩
    refine Eng.aft_v rfl ?_
    have hk15 := (((hk3).below hb10).below hb13).below hb14
    refine Eng.stB (v := (dg (rootS (lvS sd (2 ^ n))))) rfl rfl rfl sz45_ky rfl hk15 rfl rfl (cs' := (bcs (rootS (lvS sd (2 ^ n))))) rfl ((bcs_length _).trans (root_lv sd hp)) (bcs_one _) ?_
    intro w16 hk16 hg16
    refine Eng.sv rfl rfl (Eng.x_as (v := (.int .i64 0)) rfl rfl) ?_
    refine Eng.nil ?_
    refine hK11 _ _ ?_
    refine Eng.rt ?_
    refine Eng.ret (Eng.res2 (v1 := (dg (rootS (lvS sd (2 ^ n))))) (v2 := (.int .i64 0)) rfl (Eng.rdc rfl (Eng.lvB ag45_ky sz45_ky hk16 ((bcs_length _).trans (root_lv sd hp)) rfl)) (Eng.rdt rfl)) ?_
    have hB0_2 : Below w.heap.size w w3 := (hb2).trans (hb3.mono (hb2).size)
    have hB0_3 : Below w.heap.size w w10 := (hB0_2).trans (hb10.mono (hB0_2).size)
    have hB0_4 : Below w.heap.size w w13 := (hB0_3).trans (hb13.mono (hB0_3).size)
    have hB0_5 : Below w.heap.size w w14 := (hB0_4).trans (hb14.mono (hB0_4).size)
    have hB0_6 : Below w.heap.size w w16 := (hB0_5).grown hg16 (hB0_5).size (fun k e => by cases e; exact Nat.le_trans (hb2).size (Nat.le_refl _))
    exact ⟨by rw [kpS_yes q0 e1], hB0_6⟩
set_option maxRecDepth 100000 in
set_option maxHeartbeats 4000000 in
theorem least_calls (h : Int) (w : World) : Calls Tryd.prog 26 #[(.int .i64 h)] w (fun e w' => e = .returned (.int .i64 (lst h)) ∧ Below w.heap.size w w') := by
  refine Eng.enter (l := [(.int .i64 h)]) Tryd.func26 rfl 12 rfl (by simp) ?_
  refine Eng.seqk fun K1 hK1 => ?_
  refine Eng.reg ?_
  refine Eng.sv rfl rfl (Eng.x_as (v := (.int .i64 0)) rfl rfl) ?_
  refine Eng.nil ?_
  refine hK1 _ _ ?_
  refine Eng.seqk fun K2 hK2 => ?_
  refine Eng.seqk fun K3 hK3 => ?_
  by_cases q0 : 3 < h
  · skip
    by_cases q1 : h ≤ 10
    · skip
      refine Eng.reg ?_
      refine Eng.sv rfl rfl (Eng.x_mv (v := (.int .i64 h)) rfl rfl) ?_
      refine Eng.sv rfl rfl (Eng.x_gt (r := true) rfl rfl rfl (decide_eq_true (by omega))) ?_
      refine Eng.sv rfl rfl (Eng.x_mv (v := (.bool true)) rfl rfl) ?_
      refine Eng.sv (Eng.gt rfl rfl rfl rfl) rfl (Eng.x_mv (v := (.int .i64 h)) rfl rfl) ?_
      refine Eng.sv (Eng.gt rfl rfl rfl rfl) rfl (Eng.x_le (r := true) rfl rfl rfl (decide_eq_true (by omega))) ?_
      refine Eng.sv rfl rfl (Eng.x_pick (v := (.bool true)) rfl rfl rfl rfl rfl) ?_
      refine Eng.nil ?_
      refine hK3 _ _ ?_
      refine Eng.cond_t rfl ?_
      refine Eng.seqk fun K4 hK4 => ?_
      refine Eng.reg ?_
      refine Eng.sv rfl rfl (Eng.x_mv (v := (.int .i64 h)) rfl rfl) ?_
      refine Eng.sv rfl rfl (Eng.x_rem rfl rfl rfl (by decide) (r := h.tmod 4) (rfl)) ?_
      refine Eng.sv rfl rfl (Eng.x_as (v := (.int .i64 (h.tmod 4))) rfl rfl) ?_
      refine Eng.nil ?_
      refine hK4 _ _ ?_
      refine Eng.rt ?_
      refine Eng.tr ?_
      refine Eng.ret (Eng.res1 (v1 := (.int .i64 (h.tmod 4))) rfl (Eng.rdt rfl)) ?_
      exact ⟨by unfold lst; rw [if_pos (by omega)], (Below.refl _ _)⟩
    · skip
      refine Eng.reg ?_
      refine Eng.sv rfl rfl (Eng.x_mv (v := (.int .i64 h)) rfl rfl) ?_
      refine Eng.sv rfl rfl (Eng.x_gt (r := true) rfl rfl rfl (decide_eq_true (by omega))) ?_
      refine Eng.sv rfl rfl (Eng.x_mv (v := (.bool true)) rfl rfl) ?_
      refine Eng.sv (Eng.gt rfl rfl rfl rfl) rfl (Eng.x_mv (v := (.int .i64 h)) rfl rfl) ?_
      refine Eng.sv (Eng.gt rfl rfl rfl rfl) rfl (Eng.x_le (r := false) rfl rfl rfl (decide_eq_false (by omega))) ?_
      refine Eng.sv rfl rfl (Eng.x_pick (v := (.bool false)) rfl rfl rfl rfl rfl) ?_
      refine Eng.nil ?_
      refine hK3 _ _ ?_
      refine Eng.cond_f rfl ?_
      refine Eng.skp ?_
      refine hK2 _ _ ?_
      refine Eng.seqk fun K5 hK5 => ?_
      refine Eng.reg ?_
      refine Eng.sv rfl rfl (Eng.x_mv (v := (.int .i64 h)) rfl rfl) ?_
      refine Eng.sv rfl rfl (Eng.x_as (v := (.int .i64 h)) rfl rfl) ?_
      refine Eng.nil ?_
      refine hK5 _ _ ?_
      refine Eng.rt ?_
      refine Eng.ret (Eng.res1 (v1 := (.int .i64 h)) rfl (Eng.rdt rfl)) ?_
      exact ⟨by unfold lst; rw [if_neg (by omega)], (Below.refl _ _)⟩
  · skip
    refine Eng.reg ?_
    refine Eng.sv rfl rfl (Eng.x_mv (v := (.int .i64 h)) rfl rfl) ?_
    refine Eng.sv rfl rfl (Eng.x_gt (r := false) rfl rfl rfl (decide_eq_false (by omega))) ?_
    refine Eng.sv rfl rfl (Eng.x_mv (v := (.bool false)) rfl rfl) ?_
    refine Eng.sg (Eng.gf rfl rfl rfl rfl) rfl ?_
    refine Eng.sg (Eng.gf rfl rfl rfl rfl) rfl ?_
    refine Eng.sv rfl rfl (Eng.x_pick (v := (.bool false)) rfl rfl rfl rfl rfl) ?_
    refine Eng.nil ?_
    refine hK3 _ _ ?_
    refine Eng.cond_f rfl ?_
    refine Eng.skp ?_
    refine hK2 _ _ ?_
    refine Eng.seqk fun K6 hK6 => ?_
    refine Eng.reg ?_
    refine Eng.sv rfl rfl (Eng.x_mv (v := (.int .i64 h)) rfl rfl) ?_
    refine Eng.sv rfl rfl (Eng.x_as (v := (.int .i64 h)) rfl rfl) ?_
    refine Eng.nil ?_
    refine hK6 _ _ ?_
    refine Eng.rt ?_
    refine Eng.ret (Eng.res1 (v1 := (.int .i64 h)) rfl (Eng.rdt rfl)) ?_
    exact ⟨by unfold lst; rw [if_neg (by omega)], (Below.refl _ _)⟩
set_option maxRecDepth 100000 in
set_option maxHeartbeats 4000000 in
theorem knames_calls (w : World) : Calls Tryd.prog 28 #[] w (fun e w' => e = .returned (.bool true) ∧ Below w.heap.size w w') := by
  refine Eng.enter (l := []) Tryd.func28 rfl 1 rfl (by simp) ?_
  refine Eng.seqk fun K1 hK1 => ?_
  refine Eng.reg ?_
  refine Eng.sv rfl rfl (Eng.x_as (v := (.bool false)) rfl rfl) ?_
  refine Eng.nil ?_
  refine hK1 _ _ ?_
  refine Eng.seqk fun K2 hK2 => ?_
  refine Eng.reg ?_
  refine Eng.sv rfl rfl (Eng.x_as (v := (.bool true)) rfl rfl) ?_
  refine Eng.nil ?_
  refine hK2 _ _ ?_
  refine Eng.rt ?_
  refine Eng.ret (Eng.res1 (v1 := (.bool true)) rfl (Eng.rdt rfl)) ?_
  exact ⟨rfl, (Below.refl _ _)⟩
set_option maxRecDepth 100000 in
set_option maxHeartbeats 4000000 in
theorem publics_law (sd : List UInt8) (h : Int) (w : World) (h32 : sd.length = 32) (hKn : Kon w) : Calls Tryd.prog 7 #[(.agg ((bcs sd) ++ [(.int .i64 h)] : List Value).toArray)] w (fun e w' => e = .returned (.bool true) ∧ Below w.heap.size w w') := by
  obtain ⟨xP0, hxP0⟩ : ∃ x, x = (Value.agg ((bcs sd) ++ [(.int .i64 h)] : List Value).toArray) := ⟨_, rfl⟩
  rw [← hxP0]
  refine Eng.enter (l := [xP0]) Tryd.func7 rfl 36 rfl (by simp) ?_
  subst hxP0
  refine Eng.seqk fun K1 hK1 => ?_
  refine Eng.reg ?_
  refine Eng.bo (v := (.agg ((bcs sd) ++ [(.int .i64 h)] : List Value).toArray)) (cs := ((bcs sd) ++ [(.int .i64 h)])) rfl rfl rfl rfl rfl ?_
  intro w2 hk2 hb2 hz2
  refine Eng.sv rfl rfl (Eng.x_as (v := (.bool false)) rfl rfl) ?_
  refine Eng.nil ?_
  refine hK1 _ _ ?_
  refine Eng.seqk fun K3 hK3 => ?_
  have hr5 := (hKn).below hb2
  refine Eng.drawL 11 10 [8] [fun vQ _ => vQ = (.pointer (some ⟨w.heap.size, 0, none⟩)), fun vQ _ => vQ = (dg sd), fun vQ _ => vQ = (.pointer (some ⟨w.heap.size, 32, none⟩)), fun vQ _ => vQ = (.int .i64 h), fun vQ _ => vQ = (.int .i64 (lst h)), fun vQ _ => vQ = (.tuple #[(dg ((kpS sd (lst h)).1)), (.int .i64 ((kpS sd (lst h)).2))]), fun vQ _ => vQ = (.tuple #[(dg ((kpS sd (lst h)).1)), (.int .i64 ((kpS sd (lst h)).2))]), fun vQ _ => vQ = (dg ((kpS sd (lst h)).1)), fun vQ _ => vQ = (.int .i64 ((kpS sd (lst h)).2)), fun (v : Value) (W : World) => ∃ g, v = .pointer (some ⟨g, 0, none⟩) ∧ Blk W g 45 (bcs Oct.dz) ∧ w2.heap.size ≤ g, fun (_ : Value) (_ : World) => True] (fun (uP : Nat → Value) (V W : World) => ∃ g, uP 3 = .pointer (some ⟨g, 0, none⟩) ∧ V.grownBy W (some g) ∧ Blk W g 45 (bcs ((kpS sd (lst h)).1)) ∧ w2.heap.size ≤ g) (by kernel_rfl) (by kernel_rfl) (by kernel_rfl) (by kernel_rfl) (by kernel_rfl) (by kernel_rfl) rfl (by kernel_rfl) rfl rfl ?_ rfl ?_ ?_ ?_
  · exact ⟨fun _ _ _ _ h _ _ => h, fun _ _ _ _ h _ _ => h, fun _ _ _ _ h _ _ => h, fun _ _ _ _ h _ _ => h, fun _ _ _ _ h _ _ => h, fun _ _ _ _ h _ _ => h, fun _ _ _ _ h _ _ => h, fun _ _ _ _ h _ _ => h, fun _ _ _ _ h _ _ => h, fun hE v W W' ⟨g, h1, h2, h3⟩ h0 hb => ⟨g, h1, Eng.blk_grL h2 hb (fun hm => Nat.lt_irrefl _ (Nat.lt_of_lt_of_le (hE _ hm) h3)), h3⟩, fun _ _ _ _ _ _ _ => trivial, trivial⟩
  · refine ⟨?_, ?_, ?_, ?_, ?_, ?_, ?_, ?_, ?_, ?_, ?_, trivial⟩
    · refine ⟨fun h_ => absurd h_ (by decide), fun _ => ?_⟩
      intro u' W hbW hkp hdp hEd K hK
      have hK := Eng.sdv rfl hK
      refine Eng.dv rfl rfl ?_ (hK _ _ (Below.refl _ _) rfl)
      exact (Eng.x_fa (v := (.pointer (some ⟨w.heap.size, 0, none⟩))) rfl (show Eng.opv 36 u' (.tmp 1) = (.pointer (some ⟨w.heap.size, 0, none⟩)) from hkp 1 rfl) (by kernel_rfl))
    · refine ⟨fun h_ => absurd h_ (by decide), fun _ => ?_⟩
      intro u' W hbW hkp hdp hEd K hK
      have e0 : u' 8 = (.pointer (some ⟨w.heap.size, 0, none⟩)) := hdp.1
      have hK := Eng.sdv rfl hK
      refine Eng.dv rfl rfl ?_ (hK _ _ (Below.refl _ _) rfl)
      exact (Eng.x_ldA (v := (dg sd)) rfl ag45_ky sz45_ky (show Eng.opv 36 u' (.tmp 8) = (.pointer (some ⟨w.heap.size, 0, none⟩)) from e0) ((bcs_length _).trans h32) (Eng.blk_head (mid := (bcs sd)) (Eng.blk_grL (hk2) hbW Eng.nin_nil)) rfl)
    · refine ⟨fun h_ => absurd h_ (by decide), fun _ => ?_⟩
      intro u' W hbW hkp hdp hEd K hK
      have hK := Eng.sdv rfl hK
      refine Eng.dv rfl rfl ?_ (hK _ _ (Below.refl _ _) rfl)
      exact (Eng.x_fa (v := (.pointer (some ⟨w.heap.size, 32, none⟩))) rfl (show Eng.opv 36 u' (.tmp 1) = (.pointer (some ⟨w.heap.size, 0, none⟩)) from hkp 1 rfl) (by kernel_rfl))
    · refine ⟨fun h_ => absurd h_ (by decide), fun _ => ?_⟩
      intro u' W hbW hkp hdp hEd K hK
      have e2 : u' 10 = (.pointer (some ⟨w.heap.size, 32, none⟩)) := hdp.1
      have hK := Eng.sdv rfl hK
      refine Eng.dv rfl rfl ?_ (hK _ _ (Below.refl _ _) rfl)
      exact (Eng.x_ld1 (v := (.int .i64 h)) rfl ag3_ky (show Eng.opv 36 u' (.tmp 10) = (.pointer (some ⟨w.heap.size, 32, none⟩)) from e2) (Eng.blk_one (pre := (bcs sd)) (Eng.blk_grL (hk2) hbW Eng.nin_nil) (Eng.len_dg h32)))
    · refine ⟨fun h_ => absurd h_ (by decide), fun _ => ?_⟩
      intro u' W hbW hkp hdp hEd K hK
      have e3 : u' 11 = (.int .i64 h) := hdp.1
      have hK := Eng.sdv rfl hK
      refine Eng.dc (vs := #[(.int .i64 h)]) rfl ?_ (least_calls h _) ?_
      · exact Eng.xc (xs := #[(Go.Operand.tmp 11)]) (vl := [(.int .i64 h)]) rfl rfl (Eng.lc (show Eng.opv 36 u' (.tmp 11) = (.int .i64 h) from e3) rfl) en26_ky
      rintro _ W2 ⟨rfl, hb2⟩
      exact Eng.aft_v rfl (hK _ _ hb2 rfl)
    · refine ⟨fun h_ => absurd h_ (by decide), fun _ => ?_⟩
      intro u' W hbW hkp hdp hEd K hK
      have e1 : u' 9 = (dg sd) := hdp.1
      have e4 : u' 12 = (.int .i64 (lst h)) := hdp.2.1
      have hK := Eng.sdv rfl hK
      refine Eng.dc (vs := #[(dg sd), (.int .i64 (lst h))]) rfl ?_ (kpub_calls sd (lst h) _ h32 ((hKn).below (Eng.bel_grL (hb2) hbW (hb2).size Eng.le_nil))) ?_
      · exact Eng.xc (xs := #[(Go.Operand.tmp 9), (Go.Operand.tmp 12)]) (vl := [(dg sd), (.int .i64 (lst h))]) rfl rfl (Eng.lc (show Eng.opv 36 u' (.tmp 9) = (dg sd) from e1) (Eng.lc (show Eng.opv 36 u' (.tmp 12) = (.int .i64 (lst h)) from e4) rfl)) en25_ky
      rintro _ W2 ⟨rfl, hb2⟩
      exact Eng.aft_v rfl (hK _ _ hb2 rfl)
    · refine ⟨fun h_ => absurd h_ (by decide), fun _ => ?_⟩
      intro u' W hbW hkp hdp hEd K hK
      have e5 : u' 13 = (.tuple #[(dg ((kpS sd (lst h)).1)), (.int .i64 ((kpS sd (lst h)).2))]) := hdp.1
      have hK := Eng.sdv rfl hK
      refine Eng.dv rfl rfl ?_ (hK _ _ (Below.refl _ _) rfl)
      exact (Eng.x_mv (v := (.tuple #[(dg ((kpS sd (lst h)).1)), (.int .i64 ((kpS sd (lst h)).2))])) rfl (show Eng.opv 36 u' (.tmp 13) = (.tuple #[(dg ((kpS sd (lst h)).1)), (.int .i64 ((kpS sd (lst h)).2))]) from e5))
    · refine ⟨fun h_ => absurd h_ (by decide), fun _ => ?_⟩
      intro u' W hbW hkp hdp hEd K hK
      have e6 : u' 7 = (.tuple #[(dg ((kpS sd (lst h)).1)), (.int .i64 ((kpS sd (lst h)).2))]) := hdp.1
      have hK := Eng.sdv rfl hK
      refine Eng.dv rfl rfl ?_ (hK _ _ (Below.refl _ _) rfl)
      exact (Eng.x_ext (v := (dg ((kpS sd (lst h)).1))) rfl (show Eng.opv 36 u' (.tmp 7) = (.tuple #[(dg ((kpS sd (lst h)).1)), (.int .i64 ((kpS sd (lst h)).2))]) from e6) rfl)
    · refine ⟨fun h_ => absurd h_ (by decide), fun _ => ?_⟩
      intro u' W hbW hkp hdp hEd K hK
      have e6 : u' 7 = (.tuple #[(dg ((kpS sd (lst h)).1)), (.int .i64 ((kpS sd (lst h)).2))]) := hdp.1
      have hK := Eng.sdv rfl hK
      refine Eng.dv rfl rfl ?_ (hK _ _ (Below.refl _ _) rfl)
      exact (Eng.x_ext (v := (.int .i64 ((kpS sd (lst h)).2))) rfl (show Eng.opv 36 u' (.tmp 7) = (.tuple #[(dg ((kpS sd (lst h)).1)), (.int .i64 ((kpS sd (lst h)).2))]) from e6) rfl)
    · refine ⟨fun h_ => absurd h_ (by decide), fun _ => ?_⟩
      intro u' W hbW hkp hdp hEd K hK
      have hK := Eng.sdv rfl hK
      exact Eng.dv rfl rfl (Eng.x_al rfl zr45_ky) (hK _ _ (Eng.below_al _ _) ⟨_, rfl, Eng.blk_al _ _ _ rfl, hbW.size⟩)
    · refine ⟨fun _ => ?_, fun h_ => absurd h_ (by decide)⟩
      intro u' W hbV hkp hdp K hK
      have hbW := Eng.GrL.of_below (E := []) (w := w2) hbV
      obtain ⟨gd4_9, e9, hkx9, hlx9⟩ : (fun (v : Value) (W : World) => ∃ g, v = .pointer (some ⟨g, 0, none⟩) ∧ Blk W g 45 (bcs Oct.dz) ∧ w2.heap.size ≤ g) (u' 3) W := hdp.1
      have e7 : u' 14 = (dg ((kpS sd (lst h)).1)) := hdp.2.1
      refine Eng.sstB (FL := []) (BL := [⟨gd4_9, 45, (bcs Oct.dz), [(10, (bcs ((kpS sd (lst h)).1)))]⟩]) (i := 10) (v := (dg ((kpS sd (lst h)).1))) rfl rfl rfl sz45_ky rfl rfl (show Eng.opv 36 u' (.tmp 3) = (.pointer (some ⟨gd4_9, 0, none⟩)) from e9) hkx9 rfl (show Eng.opv 36 u' (.tmp 14) = (dg ((kpS sd (lst h)).1)) from e7) rfl ((bcs_length _).trans (kpS_len _ _)) (bcs_one _) ?_
      exact Eng.outS_st rfl (fun W2 hgr hk2 => hK W2 ⟨gd4_9, e9, hgr, hk2, hlx9⟩)
  · refine ⟨?_, trivial⟩
    · refine ⟨fun uP v V W ⟨g, h1, h2⟩ => ⟨g, (Eng.upd_other uP 15 v 3 (by decide)).trans h1, h2⟩, fun o ho u' V W hdp K hK => ?_⟩
      obtain rfl := Eng.someInj ho
      have e6 : u' 7 = (.tuple #[(dg ((kpS sd (lst h)).1)), (.int .i64 ((kpS sd (lst h)).2))]) := hdp.1
      refine Eng.dv rfl rfl ?_ (hK _ rfl)
      exact (Eng.x_ext (v := (.int .i64 ((kpS sd (lst h)).2))) rfl (show Eng.opv 36 u' (.tmp 7) = (.tuple #[(dg ((kpS sd (lst h)).1)), (.int .i64 ((kpS sd (lst h)).2))]) from e6) rfl)
  · intro ud4 w4 wB4 hb4 hkp4 ⟨f4_0, f4_1, f4_2, f4_3, f4_4, f4_5, f4_6, f4_7, f4_8, ⟨gd4_9, f4_9, hkd4_9, hld4_9⟩, _, _⟩ ⟨gP4, eP4, hgP4, hkP4, hlP4⟩
    obtain rfl := Eng.collectS (l := [(8, (.pointer (some ⟨w.heap.size, 0, none⟩))), (9, (dg sd)), (10, (.pointer (some ⟨w.heap.size, 32, none⟩))), (11, (.int .i64 h)), (12, (.int .i64 (lst h))), (13, (.tuple #[(dg ((kpS sd (lst h)).1)), (.int .i64 ((kpS sd (lst h)).2))])), (7, (.tuple #[(dg ((kpS sd (lst h)).1)), (.int .i64 ((kpS sd (lst h)).2))])), (14, (dg ((kpS sd (lst h)).1))), (15, (.int .i64 ((kpS sd (lst h)).2))), (3, (.pointer (some ⟨gP4, 0, none⟩)))]) hkp4 ⟨f4_0, f4_1, f4_2, f4_3, f4_4, f4_5, f4_6, f4_7, f4_8, eP4, trivial⟩ rfl
    refine Eng.sv rfl rfl (Eng.x_as (v := (.int .i64 ((kpS sd (lst h)).2))) rfl rfl) ?_
    refine Eng.nil ?_
    refine hK3 _ _ ?_
    refine Eng.seqk fun K6 hK6 => ?_
    have hk8 := ((hk2).below hb4).grown hgP4 (fun e => absurd (Option.some.inj e) (Nat.ne_of_lt (Nat.lt_of_lt_of_le hz2 (Nat.le_trans (Nat.le_refl _) hlP4))))
    refine Eng.drawL 11 10 [8] [fun vQ _ => vQ = (.pointer (some ⟨w.heap.size, 0, none⟩)), fun vQ _ => vQ = (dg sd), fun vQ _ => vQ = (.pointer (some ⟨w.heap.size, 32, none⟩)), fun vQ _ => vQ = (.int .i64 h), fun vQ _ => vQ = (.int .i64 (lst h)), fun vQ _ => vQ = (.tuple #[(dg ((kpS sd (lst h)).1)), (.int .i64 ((kpS sd (lst h)).2))]), fun vQ _ => vQ = (.tuple #[(dg ((kpS sd (lst h)).1)), (.int .i64 ((kpS sd (lst h)).2))]), fun vQ _ => vQ = (dg ((kpS sd (lst h)).1)), fun vQ _ => vQ = (.int .i64 ((kpS sd (lst h)).2)), fun (v : Value) (W : World) => ∃ g, v = .pointer (some ⟨g, 0, none⟩) ∧ Blk W g 45 (bcs Oct.dz) ∧ wB4.heap.size ≤ g, fun (_ : Value) (_ : World) => True] (fun (uP : Nat → Value) (V W : World) => ∃ g, uP 5 = .pointer (some ⟨g, 0, none⟩) ∧ V.grownBy W (some g) ∧ Blk W g 45 (bcs ((kpS sd (lst h)).1)) ∧ wB4.heap.size ≤ g) (by kernel_rfl) (by kernel_rfl) (by kernel_rfl) (by kernel_rfl) (by kernel_rfl) (by kernel_rfl) rfl (by kernel_rfl) rfl rfl ?_ rfl ?_ ?_ ?_
    · exact ⟨fun _ _ _ _ h _ _ => h, fun _ _ _ _ h _ _ => h, fun _ _ _ _ h _ _ => h, fun _ _ _ _ h _ _ => h, fun _ _ _ _ h _ _ => h, fun _ _ _ _ h _ _ => h, fun _ _ _ _ h _ _ => h, fun _ _ _ _ h _ _ => h, fun _ _ _ _ h _ _ => h, fun hE v W W' ⟨g, h1, h2, h3⟩ h0 hb => ⟨g, h1, Eng.blk_grL h2 hb (fun hm => Nat.lt_irrefl _ (Nat.lt_of_lt_of_le (hE _ hm) h3)), h3⟩, fun _ _ _ _ _ _ _ => trivial, trivial⟩
    · refine ⟨?_, ?_, ?_, ?_, ?_, ?_, ?_, ?_, ?_, ?_, ?_, trivial⟩
      · refine ⟨fun h_ => absurd h_ (by decide), fun _ => ?_⟩
        intro u' W hbW hkp hdp hEd K hK
        have hK := Eng.sdv rfl hK
        refine Eng.dv rfl rfl ?_ (hK _ _ (Below.refl _ _) rfl)
        exact (Eng.x_fa (v := (.pointer (some ⟨w.heap.size, 0, none⟩))) rfl (show Eng.opv 36 u' (.tmp 1) = (.pointer (some ⟨w.heap.size, 0, none⟩)) from hkp 1 rfl) (by kernel_rfl))
      · refine ⟨fun h_ => absurd h_ (by decide), fun _ => ?_⟩
        intro u' W hbW hkp hdp hEd K hK
        have e0 : u' 17 = (.pointer (some ⟨w.heap.size, 0, none⟩)) := hdp.1
        have hK := Eng.sdv rfl hK
        refine Eng.dv rfl rfl ?_ (hK _ _ (Below.refl _ _) rfl)
        exact (Eng.x_ldA (v := (dg sd)) rfl ag45_ky sz45_ky (show Eng.opv 36 u' (.tmp 17) = (.pointer (some ⟨w.heap.size, 0, none⟩)) from e0) ((bcs_length _).trans h32) (Eng.blk_head (mid := (bcs sd)) (Eng.blk_grL (hk8) hbW Eng.nin_nil)) rfl)
      · refine ⟨fun h_ => absurd h_ (by decide), fun _ => ?_⟩
        intro u' W hbW hkp hdp hEd K hK
        have hK := Eng.sdv rfl hK
        refine Eng.dv rfl rfl ?_ (hK _ _ (Below.refl _ _) rfl)
        exact (Eng.x_fa (v := (.pointer (some ⟨w.heap.size, 32, none⟩))) rfl (show Eng.opv 36 u' (.tmp 1) = (.pointer (some ⟨w.heap.size, 0, none⟩)) from hkp 1 rfl) (by kernel_rfl))
      · refine ⟨fun h_ => absurd h_ (by decide), fun _ => ?_⟩
        intro u' W hbW hkp hdp hEd K hK
        have e2 : u' 19 = (.pointer (some ⟨w.heap.size, 32, none⟩)) := hdp.1
        have hK := Eng.sdv rfl hK
        refine Eng.dv rfl rfl ?_ (hK _ _ (Below.refl _ _) rfl)
        exact (Eng.x_ld1 (v := (.int .i64 h)) rfl ag3_ky (show Eng.opv 36 u' (.tmp 19) = (.pointer (some ⟨w.heap.size, 32, none⟩)) from e2) (Eng.blk_one (pre := (bcs sd)) (Eng.blk_grL (hk8) hbW Eng.nin_nil) (Eng.len_dg h32)))
      · refine ⟨fun h_ => absurd h_ (by decide), fun _ => ?_⟩
        intro u' W hbW hkp hdp hEd K hK
        have e3 : u' 20 = (.int .i64 h) := hdp.1
        have hK := Eng.sdv rfl hK
        refine Eng.dc (vs := #[(.int .i64 h)]) rfl ?_ (least_calls h _) ?_
        · exact Eng.xc (xs := #[(Go.Operand.tmp 20)]) (vl := [(.int .i64 h)]) rfl rfl (Eng.lc (show Eng.opv 36 u' (.tmp 20) = (.int .i64 h) from e3) rfl) en26_ky
        rintro _ W2 ⟨rfl, hb2⟩
        exact Eng.aft_v rfl (hK _ _ hb2 rfl)
      · refine ⟨fun h_ => absurd h_ (by decide), fun _ => ?_⟩
        intro u' W hbW hkp hdp hEd K hK
        have e1 : u' 18 = (dg sd) := hdp.1
        have e4 : u' 21 = (.int .i64 (lst h)) := hdp.2.1
        have hK := Eng.sdv rfl hK
        refine Eng.dc (vs := #[(dg sd), (.int .i64 (lst h))]) rfl ?_ (rkpub_calls sd (lst h) _ h32) ?_
        · exact Eng.xc (xs := #[(Go.Operand.tmp 18), (Go.Operand.tmp 21)]) (vl := [(dg sd), (.int .i64 (lst h))]) rfl rfl (Eng.lc (show Eng.opv 36 u' (.tmp 18) = (dg sd) from e1) (Eng.lc (show Eng.opv 36 u' (.tmp 21) = (.int .i64 (lst h)) from e4) rfl)) en27_ky
        rintro _ W2 ⟨rfl, hb2⟩
        exact Eng.aft_v rfl (hK _ _ hb2 rfl)
      · refine ⟨fun h_ => absurd h_ (by decide), fun _ => ?_⟩
        intro u' W hbW hkp hdp hEd K hK
        have e5 : u' 22 = (.tuple #[(dg ((kpS sd (lst h)).1)), (.int .i64 ((kpS sd (lst h)).2))]) := hdp.1
        have hK := Eng.sdv rfl hK
        refine Eng.dv rfl rfl ?_ (hK _ _ (Below.refl _ _) rfl)
        exact (Eng.x_mv (v := (.tuple #[(dg ((kpS sd (lst h)).1)), (.int .i64 ((kpS sd (lst h)).2))])) rfl (show Eng.opv 36 u' (.tmp 22) = (.tuple #[(dg ((kpS sd (lst h)).1)), (.int .i64 ((kpS sd (lst h)).2))]) from e5))
      · refine ⟨fun h_ => absurd h_ (by decide), fun _ => ?_⟩
        intro u' W hbW hkp hdp hEd K hK
        have e6 : u' 16 = (.tuple #[(dg ((kpS sd (lst h)).1)), (.int .i64 ((kpS sd (lst h)).2))]) := hdp.1
        have hK := Eng.sdv rfl hK
        refine Eng.dv rfl rfl ?_ (hK _ _ (Below.refl _ _) rfl)
        exact (Eng.x_ext (v := (dg ((kpS sd (lst h)).1))) rfl (show Eng.opv 36 u' (.tmp 16) = (.tuple #[(dg ((kpS sd (lst h)).1)), (.int .i64 ((kpS sd (lst h)).2))]) from e6) rfl)
      · refine ⟨fun h_ => absurd h_ (by decide), fun _ => ?_⟩
        intro u' W hbW hkp hdp hEd K hK
        have e6 : u' 16 = (.tuple #[(dg ((kpS sd (lst h)).1)), (.int .i64 ((kpS sd (lst h)).2))]) := hdp.1
        have hK := Eng.sdv rfl hK
        refine Eng.dv rfl rfl ?_ (hK _ _ (Below.refl _ _) rfl)
        exact (Eng.x_ext (v := (.int .i64 ((kpS sd (lst h)).2))) rfl (show Eng.opv 36 u' (.tmp 16) = (.tuple #[(dg ((kpS sd (lst h)).1)), (.int .i64 ((kpS sd (lst h)).2))]) from e6) rfl)
      · refine ⟨fun h_ => absurd h_ (by decide), fun _ => ?_⟩
        intro u' W hbW hkp hdp hEd K hK
        have hK := Eng.sdv rfl hK
        exact Eng.dv rfl rfl (Eng.x_al rfl zr45_ky) (hK _ _ (Eng.below_al _ _) ⟨_, rfl, Eng.blk_al _ _ _ rfl, hbW.size⟩)
      · refine ⟨fun _ => ?_, fun h_ => absurd h_ (by decide)⟩
        intro u' W hbV hkp hdp K hK
        have hbW := Eng.GrL.of_below (E := []) (w := wB4) hbV
        obtain ⟨gd7_9, e9, hkx9, hlx9⟩ : (fun (v : Value) (W : World) => ∃ g, v = .pointer (some ⟨g, 0, none⟩) ∧ Blk W g 45 (bcs Oct.dz) ∧ wB4.heap.size ≤ g) (u' 5) W := hdp.1
        have e7 : u' 23 = (dg ((kpS sd (lst h)).1)) := hdp.2.1
        refine Eng.sstB (FL := []) (BL := [⟨gd7_9, 45, (bcs Oct.dz), [(10, (bcs ((kpS sd (lst h)).1)))]⟩]) (i := 10) (v := (dg ((kpS sd (lst h)).1))) rfl rfl rfl sz45_ky rfl rfl (show Eng.opv 36 u' (.tmp 5) = (.pointer (some ⟨gd7_9, 0, none⟩)) from e9) hkx9 rfl (show Eng.opv 36 u' (.tmp 23) = (dg ((kpS sd (lst h)).1)) from e7) rfl ((bcs_length _).trans (kpS_len _ _)) (bcs_one _) ?_
        exact Eng.outS_st rfl (fun W2 hgr hk2 => hK W2 ⟨gd7_9, e9, hgr, hk2, hlx9⟩)
    · refine ⟨?_, trivial⟩
      · refine ⟨fun uP v V W ⟨g, h1, h2⟩ => ⟨g, (Eng.upd_other uP 24 v 5 (by decide)).trans h1, h2⟩, fun o ho u' V W hdp K hK => ?_⟩
        obtain rfl := Eng.someInj ho
        have e6 : u' 16 = (.tuple #[(dg ((kpS sd (lst h)).1)), (.int .i64 ((kpS sd (lst h)).2))]) := hdp.1
        refine Eng.dv rfl rfl ?_ (hK _ rfl)
        exact (Eng.x_ext (v := (.int .i64 ((kpS sd (lst h)).2))) rfl (show Eng.opv 36 u' (.tmp 16) = (.tuple #[(dg ((kpS sd (lst h)).1)), (.int .i64 ((kpS sd (lst h)).2))]) from e6) rfl)
    · intro ud7 w7 wB7 hb7 hkp7 ⟨f7_0, f7_1, f7_2, f7_3, f7_4, f7_5, f7_6, f7_7, f7_8, ⟨gd7_9, f7_9, hkd7_9, hld7_9⟩, _, _⟩ ⟨gP7, eP7, hgP7, hkP7, hlP7⟩
      obtain rfl := Eng.collectS (l := [(17, (.pointer (some ⟨w.heap.size, 0, none⟩))), (18, (dg sd)), (19, (.pointer (some ⟨w.heap.size, 32, none⟩))), (20, (.int .i64 h)), (21, (.int .i64 (lst h))), (22, (.tuple #[(dg ((kpS sd (lst h)).1)), (.int .i64 ((kpS sd (lst h)).2))])), (16, (.tuple #[(dg ((kpS sd (lst h)).1)), (.int .i64 ((kpS sd (lst h)).2))])), (23, (dg ((kpS sd (lst h)).1))), (24, (.int .i64 ((kpS sd (lst h)).2))), (5, (.pointer (some ⟨gP7, 0, none⟩)))]) hkp7 ⟨f7_0, f7_1, f7_2, f7_3, f7_4, f7_5, f7_6, f7_7, f7_8, eP7, trivial⟩ rfl
      refine Eng.sv rfl rfl (Eng.x_as (v := (.int .i64 ((kpS sd (lst h)).2))) rfl rfl) ?_
      refine Eng.nil ?_
      refine hK6 _ _ ?_
      refine Eng.seqk fun K9 hK9 => ?_
      refine Eng.reg ?_
      have hk10 := ((hkP4).below hb7).grown hgP7 (fun e => absurd (Option.some.inj e) (Nat.ne_of_lt (Nat.lt_of_lt_of_le (hkP4).lt (Nat.le_trans (Nat.le_refl _) hlP7))))
      refine Eng.sv rfl rfl (Eng.x_ldB (v := (dg ((kpS sd (lst h)).1))) rfl ag45_ky sz45_ky rfl hk10 ((bcs_length _).trans (kpS_len _ _)) rfl) ?_
      refine Eng.sv rfl rfl (Eng.x_ldB (v := (dg ((kpS sd (lst h)).1))) rfl ag45_ky sz45_ky rfl hkP7 ((bcs_length _).trans (kpS_len _ _)) rfl) ?_
      refine Eng.sv rfl rfl (Eng.x_eqA (p := ((kpS sd (lst h)).1)) (q := ((kpS sd (lst h)).1)) (r := true) rfl Tryd.underlying45 Tryd.underlying5 sz5_ky (by kernel_rfl) rfl rfl (kpS_len _ _) (kpS_len _ _) (by simp)) ?_
      refine Eng.sv rfl rfl (Eng.x_mv (v := (.bool true)) rfl rfl) ?_
      refine Eng.sv (Eng.gt rfl rfl rfl rfl) rfl (Eng.x_mv (v := (.int .i64 ((kpS sd (lst h)).2))) rfl rfl) ?_
      refine Eng.sv (Eng.gt rfl rfl rfl rfl) rfl (Eng.x_mv (v := (.int .i64 ((kpS sd (lst h)).2))) rfl rfl) ?_
      refine Eng.sv (Eng.gt rfl rfl rfl rfl) rfl (Eng.x_eq (r := true) rfl rfl rfl (Eng.eq_t (rfl))) ?_
      refine Eng.sv rfl rfl (Eng.x_pick (v := (.bool true)) rfl rfl rfl rfl rfl) ?_
      refine Eng.sv rfl rfl (Eng.x_mv (v := (.bool true)) rfl rfl) ?_
      refine Eng.sc (Eng.gt rfl rfl rfl rfl) (Eng.xc (vl := []) rfl rfl rfl en28_ky) (knames_calls _) ?_
      rintro _ w11 ⟨rfl, hb11⟩
      refine Eng.aft_v rfl ?_
      refine Eng.sv rfl rfl (Eng.x_pick (v := (.bool true)) rfl rfl rfl rfl rfl) ?_
      refine Eng.sv rfl rfl (Eng.x_as (v := (.bool true)) rfl rfl) ?_
      refine Eng.nil ?_
      refine hK9 _ _ ?_
      refine Eng.rt ?_
      refine Eng.ret (Eng.res1 (v1 := (.bool true)) rfl (Eng.rdt rfl)) ?_
      have hB0_2 : Below w.heap.size w w4 := (hb2).trans (hb4.mono (hb2).size)
      have hB0_3 : Below w.heap.size w wB4 := (hB0_2).grown hgP4 (hB0_2).size (fun k e => by cases e; exact Nat.le_trans (hb2).size hlP4)
      have hB0_4 : Below w.heap.size w w7 := (hB0_3).trans (hb7.mono (hB0_3).size)
      have hB0_5 : Below w.heap.size w wB7 := (hB0_4).grown hgP7 (hB0_4).size (fun k e => by cases e; exact Nat.le_trans (hB0_3).size hlP7)
      have hB0_6 : Below w.heap.size w w11 := (hB0_5).trans (hb11.mono (hB0_5).size)
      exact ⟨rfl, hB0_6⟩
end Go.Proofs.YtnecgoahdkfbeaaDoor.Mac
end

section
namespace Go.Proofs.YtnecgoahdkfbeaaDoor.Opn
open Go Go.RowKit Go.Proofs.YtnecgoahdkfbeaaDoor.Cop Go.ChangeShapes Go.WideShapes Go.ChangeAt
open Go.ChangeMaps (open_string shut_string)
set_option linter.unusedVariables false
set_option linter.unusedSimpArgs false

theorem own : ownKnob Tryd.prog.godebug = none := by kernel_rfl
theorem laidOut : laidOutB Tryd.prog = true := by kernel_rfl

section
variable {H : Type} {enc : TypeId × Value → H} {W : World}

theorem wf_int {k : IntKind} {n : Int} (h : (Lit.int k n).wf = true) : k.min ≤ n ∧ n ≤ k.max := by
  simpa [Lit.wf] using h
theorem wf_i64 {n : Int} (h : (Lit.int .i64 n).wf = true) : -9223372036854775808 ≤ n ∧ n ≤ 9223372036854775807 := by
  have := wf_int h; simpa [IntKind.min, IntKind.max, IntKind.signed, IntKind.bits] using this
theorem wf_u64 {n : Int} (h : (Lit.int .u64 n).wf = true) : ∃ x : Nat, n = (x : Int) ∧ x < 18446744073709551616 := by
  have := wf_int h
  simp only [IntKind.min, IntKind.max, IntKind.signed, IntKind.bits] at this
  simp at this
  obtain ⟨x, rfl⟩ := Int.eq_ofNat_of_zero_le this.1
  exact ⟨x, rfl, by omega⟩
theorem wf_u32 {n : Int} (h : (Lit.int .u32 n).wf = true) : ∃ x : Nat, n = (x : Int) ∧ x < 4294967296 := by
  have := wf_int h
  simp only [IntKind.min, IntKind.max, IntKind.signed, IntKind.bits] at this
  simp at this
  obtain ⟨x, rfl⟩ := Int.eq_ofNat_of_zero_le this.1
  exact ⟨x, rfl, by omega⟩
theorem wf_u8 {n : Int} (h : (Lit.int .u8 n).wf = true) : ∃ x : UInt8, n = (x.toNat : Int) := by
  have := wf_int h
  simp only [IntKind.min, IntKind.max, IntKind.signed, IntKind.bits] at this
  simp at this
  obtain ⟨x, rfl⟩ := Int.eq_ofNat_of_zero_le this.1
  refine ⟨UInt8.ofNat x, ?_⟩
  rw [UInt8.toNat_ofNat']
  omega

/-- Numbers that are bytes. -/
theorem bytes_of (zs : List Int) (h : ∀ n ∈ zs, (Lit.int .u8 n).wf = true) : ∃ bs : List UInt8, zs.map (Value.int .u8) = bcs bs ∧ bs.length = zs.length := by
  induction zs with
  | nil => exact ⟨[], rfl, rfl⟩
  | cons z zs ih =>
    obtain ⟨bs, h1, h2⟩ := ih (fun n hn => h n (by simp [hn]))
    obtain ⟨b, rfl⟩ := wf_u8 (h z (by simp))
    exact ⟨b :: bs, by simp [bcs] at h1 ⊢; exact h1, by simp [h2]⟩

theorem cells8 : Tryd.prog.cellsOf 5 = 1 := by kernel_rfl
theorem bytes8 : Tryd.prog.bytesOf 5 = 1 := by kernel_rfl

set_option maxRecDepth 100000 in
/-- An argument that is a slice of bytes. -/
theorem open_bytes {base : Nat} {v : Value} {d : DataW H} {p : List MemPlace} (hval : Value.okWide Tryd.prog W .any base 48 v) (h : DataW.Trod enc Tryd.prog W 0 (fun _ => true) true 48 v d p)
    (hsz : ∀ elems spare, d = .slice elems spare → (elems.length + spare.length) * Tryd.prog.bytesOf 5 ≤ reachBytes) : ∃ bs : List UInt8, Oct.Rd W v bs ∧ bs.length ≤ 140737488351232 := by
  obtain ⟨a0, len, cap, rfl⟩ := okWide_slice Tryd.underlying48 hval
  obtain ⟨fuel, hf⟩ := h
  rcases open_ints Tryd.underlying48 Tryd.underlying5 cells8 hf with ⟨hcs, _⟩ | ⟨x, l, c, zs, hcs, _, hl, hm, hz, hx, hcell, hwz⟩
  · simp [Value.cells] at hcs
    obtain ⟨rfl, rfl, rfl⟩ := hcs
    exact ⟨[], Row.nil W, Nat.zero_le _⟩
  · simp [Value.cells] at hcs
    obtain ⟨rfl, rfl, rfl⟩ := hcs
    simp only [if_true] at hz
    simp only [Prod.mk.injEq] at hx
    have hs := hsz _ _ hx.1
    rw [bytes8] at hs
    simp only [lits, List.length_map, List.length_take, List.length_drop, reachBytes] at hs
    obtain ⟨bs, h1, h2⟩ := bytes_of (zs.take len) (fun n hn => hwz n (List.mem_of_mem_take hn))
    have h3 : bs.length = len := by rw [h2, List.length_take]; omega
    refine ⟨bs, ⟨some x, cap, by rw [h3], by rw [h3]; exact hl, hm, (fun h => by cases h), (fun ad had j u hu => ?_)⟩, by omega⟩
    cases had
    rw [← h1] at hu
    have hj : j < len := by
      have := (List.getElem?_eq_some_iff.1 hu).1
      simp at this; omega
    rw [hcell j (by omega)]
    rw [← hu]
    simp [hj, List.getElem?_eq_getElem (show j < zs.length by omega)]

/-- The cells of an array of bytes. -/
theorem bytes_of_array {t e : TypeId} {n fuel : Nat} {cs : List Value} {x : DataW H × List MemPlace} {w : World} {base : Nat} {spare : Nat → Bool} {held : Bool} (ht : Tryd.prog.underlying t = some (.array n e)) (he : Tryd.prog.underlying e = some (.int .u8)) (h1 : Tryd.prog.cellsOf e = 1) (hn : Tryd.prog.cellsOf t = n)
    (h : DataW.trod enc Tryd.prog w base spare held fuel t cs = some x) : ∃ d : List UInt8, cs = bcs d ∧ d.length = n := by
  obtain ⟨xs, m, rfl, _, hl, hxl, hel⟩ := DataW.trod_array ht h
  rw [hn] at hl
  have each : ∀ i, i < n → ∃ b : UInt8, cs[i]? = some (u8c b) := by
    intro i hi
    have hq := hel i hi
    rw [h1, Nat.mul_one, List.getElem?_eq_getElem (by omega)] at hq
    obtain ⟨z, hz, _, hw⟩ := DataW.trod_int he hq
    obtain ⟨b, rfl⟩ := wf_u8 hw
    refine ⟨b, ?_⟩
    have : ((cs.drop i).take 1)[0]? = some (u8c b) := by rw [hz]; rfl
    simpa using this
  obtain ⟨f, hf⟩ := Deep.choose_lt each
  refine ⟨(List.range n).map f, ?_, by simp⟩
  apply List.ext_getElem?
  intro i
  by_cases hi : i < n
  · rw [hf i hi]; simp [bcs, hi]
  · rw [List.getElem?_eq_none (by omega), List.getElem?_eq_none (by simp [bcs]; omega)]

theorem cellsD : Tryd.prog.cellsOf 45 = 32 := by kernel_rfl
set_option maxRecDepth 100000 in
/-- An argument that is a digest. -/
theorem open_digest {base : Nat} {v : Value} {d : DataW H} {p : List MemPlace} (hval : Value.okWide Tryd.prog W .any base 45 v) (h : DataW.Trod enc Tryd.prog W 0 (fun _ => true) true 45 v d p) :
    ∃ ds : List UInt8, v = dg ds ∧ ds.length = 32 := by
  simp only [Value.okWide, Tryd.underlying45] at hval
  obtain ⟨cs, rfl, hsz, _⟩ := hval
  obtain ⟨fuel, hf⟩ := h
  obtain ⟨ds, h1, h2⟩ := bytes_of_array Tryd.underlying45 Tryd.underlying5 cells8 cellsD hf
  refine ⟨ds, ?_, h2⟩
  have e : cs = (bcs ds).toArray := by rw [← h1]; simp [Value.cells]
  rw [e]
end
end Go.Proofs.YtnecgoahdkfbeaaDoor.Opn
end

section
namespace Go.Proofs.YtnecgoahdkfbeaaDoor.Opn
open Go Go.RowKit Go.Proofs.YtnecgoahdkfbeaaDoor.Cop Go.ChangeShapes Go.WideShapes Go.ChangeAt Go.Joins Go.Deep
set_option linter.unusedVariables false
set_option maxRecDepth 100000 in
theorem open_sd {H : Type} {enc : TypeId × Value → H} {W : World} {base : Nat} {v : Value} {d : DataW H} {p : List MemPlace} (hval : Value.okWide Tryd.prog W .any base 61 v) (h : DataW.Trod enc Tryd.prog W 0 (fun _ => true) true 61 v d p) :
    ∃ (ds : List UInt8) (n : Int), v = .agg (bcs ds ++ [Value.int .i64 n] : List Value).toArray ∧ ds.length = 32 ∧ -9223372036854775808 ≤ n ∧ n ≤ 9223372036854775807 := by
  have hc : Tryd.prog.cellsOf 61 = 33 := by kernel_rfl
  have hu : Tryd.prog.underlying 61 = some (.struct (Tryd.prog.fieldsOf 61)) := by kernel_rfl
  have hf : Tryd.prog.fieldsOf 61 = #[⟨"Seed", 45, 0, false, "", "", 0⟩, ⟨"Height", 3, 32, false, "", "", 32⟩] := by kernel_rfl
  rw [hf] at hu
  obtain ⟨cs, rfl, hsz⟩ := okWide_struct hu hval
  obtain ⟨fuel, hfu⟩ := h
  obtain ⟨xs, n, _, _, hl, hlen, hg⟩ := DataW.trod_struct hu hfu
  have g0 := hg 0 ⟨"Seed", 45, 0, false, "", "", 0⟩ rfl
  have g1 := hg 1 ⟨"Height", 3, 32, false, "", "", 32⟩ rfl
  dsimp only at g0 g1
  have k1 : Tryd.prog.cellsOf 3 = 1 := by kernel_rfl
  have k0 : Tryd.prog.cellsOf 45 = 32 := by kernel_rfl
  rw [k0] at g0
  rw [k1] at g1
  rw [hc] at hsz
  obtain ⟨l⟩ := cs
  have hl33 : l.length = 33 := by simpa using hsz
  simp only [Value.cells, List.drop_zero] at g0 g1
  rw [List.getElem?_eq_getElem (by rw [hlen]; decide)] at g0 g1
  obtain ⟨x, hx⟩ : ∃ x, l.drop 32 = [x] := by
    have : (l.drop 32).length = 1 := by rw [List.length_drop]; omega
    match hq : l.drop 32, this with
    | [x], _ => exact ⟨x, rfl⟩
  have e32 : l = l.take 32 ++ [x] := by rw [← hx, List.take_append_drop]
  simp only [hx, List.take_succ_cons, List.take_zero] at g1
  obtain ⟨m, e1, _, wf⟩ := DataW.trod_int Tryd.underlying3 g1
  obtain ⟨ds, e0, h0⟩ := bytes_of_array Tryd.underlying45 Tryd.underlying5 cells8 cellsD g0
  simp at e0 e1
  have wm := wf_i64 wf
  refine ⟨ds, m, ?_, h0, wm.1, wm.2⟩
  rw [e32, e0, e1]
  try rfl
end Go.Proofs.YtnecgoahdkfbeaaDoor.Opn
end
