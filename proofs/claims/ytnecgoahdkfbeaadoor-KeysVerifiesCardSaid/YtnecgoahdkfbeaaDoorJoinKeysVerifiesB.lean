/- Several texts in one: Key; EngI; Dgt; Kvf; Open; OpenSg. -/
import Derived.Test.YtnecgoahdkfbeaaDoorOne
import Derived.Test.YtnecgoahdkfbeaaDoorJoinKeysVerifiesA
import Derived.Test.YtnecgoahdkfbeaaDoorEngM
import Derived.Test.YtnecgoahdkfbeaaDoorOctD
import Derived.Test.YtnecgoahdkfbeaaDoorByt
import Derived.ProofKit
import Derived.OpenShut
import Derived.SizedLaws
import Derived.Lib.SmallJoins
import Derived.Deep.Slices
import Derived.ShutString
section
namespace Go.Proofs.YtnecgoahdkfbeaaDoor.Mac
open Go Go.RowKit Go.Proofs.YtnecgoahdkfbeaaDoor Go.Proofs.YtnecgoahdkfbeaaDoor.Cop Go.Proofs.YtnecgoahdkfbeaaDoor.Oct Go.Proofs.YtnecgoahdkfbeaaDoor.Dsl Go.Proofs.YtnecgoahdkfbeaaDoor.Sha Go.Proofs.YtnecgoahdkfbeaaDoor.Tre Go.Proofs.YtnecgoahdkfbeaaDoor.TreP Go.Proofs.YtnecgoahdkfbeaaDoor.Ver Go.Proofs.YtnecgoahdkfbeaaDoor.Vfy Go.Proofs.YtnecgoahdkfbeaaDoor.Tid
set_option linter.unusedVariables false
set_option linter.unusedSimpArgs false
theorem zr45_ky (w : World) : (zeroValue 45).run Tryd.prog w = .ok (dg Oct.dz) w := by kernel_rfl
theorem in48_ky : (Tryd.prog.info? 48).map (fun i => (i.zero, i.size, i.bytes)) = some (some (.slice none 0 0), 1, 24) := by kernel_rfl
theorem en135_ky : Eng.Entr Tryd.prog 135 := ⟨_, Tryd.func135, by kernel_rfl, by kernel_rfl⟩
theorem sz45_ky : (Tryd.prog.info? 45).map (fun i => i.size) = some 32 := by kernel_rfl
theorem ag45_ky (w : World) : (isAgg 45).run Tryd.prog w = .ok true w := by kernel_rfl
theorem in5_ky : (Tryd.prog.info? 5).map (fun i => (i.zero, i.size, i.bytes)) = some (some (.int .u8 0), 1, 1) := by kernel_rfl
theorem en139_ky : Eng.Entr Tryd.prog 139 := ⟨_, Tryd.func139, by kernel_rfl, by kernel_rfl⟩
theorem en122_ky : Eng.Entr Tryd.prog 122 := ⟨_, Tryd.func122, by kernel_rfl, by kernel_rfl⟩
theorem en183_ky : Eng.Entr Tryd.prog 183 := ⟨_, Tryd.func183, by kernel_rfl, by kernel_rfl⟩
theorem en121_ky : Eng.Entr Tryd.prog 121 := ⟨_, Tryd.func121, by kernel_rfl, by kernel_rfl⟩
theorem en120_ky : Eng.Entr Tryd.prog 120 := ⟨_, Tryd.func120, by kernel_rfl, by kernel_rfl⟩
theorem sz5_ky : (Tryd.prog.info? 5).map (fun i => i.size) = some 1 := by kernel_rfl
theorem en72_ky : Eng.Entr Tryd.prog 72 := ⟨_, Tryd.func72, by kernel_rfl, by kernel_rfl⟩
theorem in45_ky : (Tryd.prog.info? 45).map (fun i => (i.zero, i.size, i.bytes)) = some (some (dg Oct.dz), 32, 32) := by kernel_rfl
theorem en127_ky : Eng.Entr Tryd.prog 127 := ⟨_, Tryd.func127, by kernel_rfl, by kernel_rfl⟩
theorem en126_ky : Eng.Entr Tryd.prog 126 := ⟨_, Tryd.func126, by kernel_rfl, by kernel_rfl⟩
theorem en77_ky : Eng.Entr Tryd.prog 77 := ⟨_, Tryd.func77, by kernel_rfl, by kernel_rfl⟩
theorem en63_ky : Eng.Entr Tryd.prog 63 := ⟨_, Tryd.func63, by kernel_rfl, by kernel_rfl⟩
theorem en65_ky : Eng.Entr Tryd.prog 65 := ⟨_, Tryd.func65, by kernel_rfl, by kernel_rfl⟩
theorem en64_ky : Eng.Entr Tryd.prog 64 := ⟨_, Tryd.func64, by kernel_rfl, by kernel_rfl⟩
theorem en58_ky : Eng.Entr Tryd.prog 58 := ⟨_, Tryd.func58, by kernel_rfl, by kernel_rfl⟩
theorem en66_ky : Eng.Entr Tryd.prog 66 := ⟨_, Tryd.func66, by kernel_rfl, by kernel_rfl⟩
theorem en68_ky : Eng.Entr Tryd.prog 68 := ⟨_, Tryd.func68, by kernel_rfl, by kernel_rfl⟩
theorem en67_ky : Eng.Entr Tryd.prog 67 := ⟨_, Tryd.func67, by kernel_rfl, by kernel_rfl⟩
theorem ag3_ky (w : World) : (isAgg 3).run Tryd.prog w = .ok false w := by kernel_rfl
theorem en26_ky : Eng.Entr Tryd.prog 26 := ⟨_, Tryd.func26, by kernel_rfl, by kernel_rfl⟩
theorem en25_ky : Eng.Entr Tryd.prog 25 := ⟨_, Tryd.func25, by kernel_rfl, by kernel_rfl⟩
theorem en27_ky : Eng.Entr Tryd.prog 27 := ⟨_, Tryd.func27, by kernel_rfl, by kernel_rfl⟩
theorem en28_ky : Eng.Entr Tryd.prog 28 := ⟨_, Tryd.func28, by kernel_rfl, by kernel_rfl⟩
theorem of1_calls (d : List UInt8) (v : Value) (vs : List Value) (w : World) (h : Eng.BBs w v vs [d]) (hd : d.length = 32) (hK : Kon w) : Calls Tryd.prog 135 #[.int .u8 0, v] w fun e w' => e = .returned (dg (leafS d)) ∧ Below w.heap.size w w' := by
  have := of_calls 0 v vs [d] w h (by simp; omega) (by simp; omega) hK
  simpa [leafS] using this
/-- The leaves of a tree of keys. -/
def lvS (sd : List UInt8) (n : Nat) : List (List UInt8) := (List.range n).map fun i => leafS (pubS (seedS sd i))
theorem lvS_succ (sd : List UInt8) (n : Nat) : lvS sd (n + 1) = lvS sd n ++ [leafS (pubS (seedS sd n))] := by simp [lvS, List.range_succ]
theorem lvS_len (sd : List UInt8) (n : Nat) : (lvS sd n).length = n := by simp [lvS]
theorem lvS_32 (sd : List UInt8) (n : Nat) : All32 (lvS sd n) := by
  intro d hd
  unfold lvS at hd
  obtain ⟨i, _, rfl⟩ := List.mem_map.1 hd
  exact leafS_len _
def kh (h : Int) : Bool := decide (0 ≤ h ∧ h ≤ 10)
theorem kh_nat {h : Int} (e : ¬ kh h = false) : ∃ n : Nat, h = (n : Int) ∧ n ≤ 10 ∧ 2 ^ n ≤ 1024 := by
  have e : kh h = true := by simpa using e
  have := of_decide_eq_true e
  exact ⟨h.toNat, by omega, by omega, Nat.pow_le_pow_right (n := 2) (by omega) (show h.toNat ≤ 10 by omega)⟩
/-- The public key of a seed. -/
def kpS (sd : List UInt8) (h : Int) : List UInt8 × Int := if kh h = true then (rootS (lvS sd (2 ^ h.toNat)), 0) else (dz, 2)
theorem kpS_no {sd : List UInt8} {h : Int} (e : kh h = false) : kpS sd h = (dz, 2) := by unfold kpS; rw [if_neg (by rw [e]; decide)]
theorem kpS_yes {sd : List UInt8} {h : Int} {n : Nat} (e : ¬ kh h = false) (e1 : h = (n : Int)) : kpS sd h = (rootS (lvS sd (2 ^ n)), 0) := by unfold kpS; rw [if_pos (by simpa using e), e1, Int.toNat_natCast]
theorem root_lv (sd : List UInt8) {n : Nat} (hp : 2 ^ n ≤ 1024) : (rootS (lvS sd (2 ^ n))).length = 32 := rootS_len _ (lvS_32 _ _) (by rw [lvS_len]; omega)
theorem kpS_len (sd : List UInt8) (h : Int) : (kpS sd h).1.length = 32 := by
  by_cases e : kh h = false
  · rw [kpS_no e]; exact dz_length
  · obtain ⟨n, e1, _, hp⟩ := kh_nat e
    rw [kpS_yes e e1]; exact root_lv sd hp
def lst (h : Int) : Int := if 3 < h ∧ h ≤ 10 then h.tmod 4 else h
set_option maxRecDepth 100000 in
set_option maxHeartbeats 4000000 in
theorem leaf_calls (v : Value) (d : List UInt8) (w : World) (h : Rd w v d) (hd : d.length = 32) (hKn : Kon w) : Calls Tryd.prog 72 #[v] w (fun e w' => e = .returned (dg (leafS d)) ∧ Below w.heap.size w w') := by
  refine Eng.enter (l := [v]) Tryd.func72 rfl 6 rfl (by simp) ?_
  refine Eng.seqk fun K1 hK1 => ?_
  refine Eng.reg ?_
  refine Eng.al rfl rfl rfl zr45_ky (cs := (bcs Oct.dz)) rfl ?_
  intro w2 hk2 hb2 hz2
  refine Eng.nil ?_
  refine hK1 _ _ ?_
  refine Eng.seqk fun K3 hK3 => ?_
  refine Eng.reg ?_
  refine Eng.sv rfl rfl (Eng.x_mv (v := v) rfl rfl) ?_
  have hr5 := (h).below hb2
  refine Eng.bs (vs := [v]) (cs := [v]) rfl rfl rfl Tryd.underlying73 in48_ky rfl (by decide) rfl rfl (by decide) (by decide) (Eng.all_cons (p := fun v => v.cells.size = 1) (by rw [(Eng.Row.cells1 hr5)]; rfl) Eng.all_nil) (by simp [(Eng.Row.cells1 hr5)]) ?_
  intro w4 hk4 hb4 hz4
  have hB0_2 : Below w.heap.size w w4 := (hb2).trans (hb4.mono (hb2).size)
  have hr6 := (h).below hB0_2
  have hr7 := (hKn).below hB0_2
  refine Eng.sc rfl (Eng.xc (vl := [(.int .u8 0), (.slice (some ⟨w2.heap.size, 0, none⟩) 1 1)]) rfl rfl rfl en135_ky) (of1_calls d _ _ _ (Eng.bb_one hk4 hr6) hd hr7) ?_
  rintro _ w8 ⟨rfl, hb8⟩
  refine Eng.aft_v rfl ?_
  have hk9 := ((hk2).below hb4).below hb8
  refine Eng.stB (v := (dg (leafS d))) rfl rfl rfl sz45_ky rfl hk9 rfl rfl (cs' := (bcs (leafS d))) rfl ((bcs_length _).trans (leafS_len _)) (bcs_one _) ?_
  intro w10 hk10 hg10
  refine Eng.nil ?_
  refine hK3 _ _ ?_
  refine Eng.rt ?_
  refine Eng.ret (Eng.res1 (v1 := (dg (leafS d))) rfl (Eng.rdc rfl (Eng.lvB ag45_ky sz45_ky hk10 ((bcs_length _).trans (leafS_len _)) rfl))) ?_
  have hB0_3 : Below w.heap.size w w8 := (hB0_2).trans (hb8.mono (hB0_2).size)
  have hB0_4 : Below w.heap.size w w10 := (hB0_3).grown hg10 (hB0_3).size (fun k e => by cases e; exact Nat.le_trans (Nat.le_refl _) (Nat.le_refl _))
  exact ⟨rfl, hB0_4⟩
set_option maxRecDepth 100000 in
set_option maxHeartbeats 4000000 in
theorem rleaf_calls (v : Value) (d : List UInt8) (w : World) (h : Rd w v d) (hd : d.length = 32) : Calls Tryd.prog 77 #[v] w (fun e w' => e = .returned (dg (leafS d)) ∧ Below w.heap.size w w') := by
  refine Eng.enter (l := [v]) Tryd.func77 rfl 7 rfl (by simp) ?_
  refine Eng.seqk fun K1 hK1 => ?_
  refine Eng.reg ?_
  refine Eng.al rfl rfl rfl zr45_ky (cs := (bcs Oct.dz)) rfl ?_
  intro w2 hk2 hb2 hz2
  refine Eng.nil ?_
  refine hK1 _ _ ?_
  refine Eng.seqk fun K3 hK3 => ?_
  refine Eng.reg ?_
  refine Eng.bs (vs := [(.int .u8 0)]) (cs := (bcs [0])) rfl rfl rfl Tryd.underlying48 in5_ky rfl (by decide) rfl rfl (by decide) (by decide) (by simp [Value.cells]) rfl ?_
  intro w4 hk4 hb4 hz4
  refine Eng.sv rfl rfl (Eng.x_mv (v := v) rfl rfl) ?_
  have hB0_2 : Below w.heap.size w w4 := (hb2).trans (hb4.mono (hb2).size)
  have hr6 := (h).below hB0_2
  refine Eng.apB rfl rfl rfl rfl (Eng.own_lit (base := w2.heap.size) hk4 (Nat.le_refl _) (Nat.le_of_ble_eq_true rfl)) rfl hr6 (by simp only [List.length_cons, List.length_nil]; omega) (hb4).size ?_
  intro v5 w5 ho5 hg5
  refine Eng.sc rfl (Eng.xc (vl := [v5]) rfl rfl rfl en139_ky) (rsum_calls _ (([0] ++ d)) _ (ho5).rd (by simp only [List.length_append, List.length_cons, List.length_nil]; omega)) ?_
  rintro _ w7 ⟨rfl, hb7⟩
  refine Eng.aft_v rfl ?_
  have hk8 := (((hk2).below hb4).grown hg5 (fun e => absurd ((World.ownsRow.lt (Eng.own_lit (base := w2.heap.size) hk4 (Nat.le_refl _) (Nat.le_of_ble_eq_true rfl))) _ e.symm).1 (Nat.not_le_of_lt (Nat.lt_of_lt_of_le hz2 (Nat.le_refl _))))).below hb7
  refine Eng.stB (v := (dg (sha ([0] ++ d)))) rfl rfl rfl sz45_ky rfl hk8 rfl rfl (cs' := (bcs (sha ([0] ++ d)))) rfl ((bcs_length _).trans (sha_len _)) (bcs_one _) ?_
  intro w9 hk9 hg9
  refine Eng.nil ?_
  refine hK3 _ _ ?_
  refine Eng.rt ?_
  refine Eng.ret (Eng.res1 (v1 := (dg (sha ([0] ++ d)))) rfl (Eng.rdc rfl (Eng.lvB ag45_ky sz45_ky hk9 ((bcs_length _).trans (sha_len _)) rfl))) ?_
  have hB0_3 : Below w.heap.size w w5 := (hB0_2).grown hg5 (hB0_2).size (fun k e => Nat.le_trans (hb2).size ((World.ownsRow.lt (Eng.own_lit (base := w2.heap.size) hk4 (Nat.le_refl _) (Nat.le_of_ble_eq_true rfl))) _ e).1)
  have hB0_4 : Below w.heap.size w w7 := (hB0_3).trans (hb7.mono (hB0_3).size)
  have hB0_5 : Below w.heap.size w w9 := (hB0_4).grown hg9 (hB0_4).size (fun k e => by cases e; exact Nat.le_trans (Nat.le_refl _) (Nat.le_refl _))
  exact ⟨rfl, hB0_5⟩
set_option maxRecDepth 100000 in
set_option maxHeartbeats 4000000 in
theorem seeds_calls (sd : List UInt8) (w : World) (h32 : sd.length = 32) : Calls Tryd.prog 65 #[(dg sd)] w (fun e w' => ∃ b, e = .returned (.func (.func 121) #[] #[.pointer (some ⟨b, 0, none⟩)]) ∧ Blk w' b 45 (bcs sd) ∧ w.heap.size ≤ b ∧ Below w.heap.size w w') := by
  refine Eng.enter (l := [(dg sd)]) Tryd.func65 rfl 4 rfl (by simp) ?_
  refine Eng.seqk fun K1 hK1 => ?_
  refine Eng.reg ?_
  refine Eng.bo (v := (dg sd)) (cs := (bcs sd)) rfl rfl rfl rfl rfl ?_
  intro w2 hk2 hb2 hz2
  refine Eng.sv rfl rfl (Eng.x_as (v := Value.nilFunc) rfl rfl) ?_
  refine Eng.nil ?_
  refine hK1 _ _ ?_
  refine Eng.seqk fun K3 hK3 => ?_
  refine Eng.reg ?_
  refine Eng.sv rfl rfl (Eng.x_mf (cap := [(.pointer (some ⟨w.heap.size, 0, none⟩))]) rfl rfl) ?_
  refine Eng.sv rfl rfl (Eng.x_as (v := (.func (.func 121) #[] #[(.pointer (some ⟨w.heap.size, 0, none⟩))])) rfl rfl) ?_
  refine Eng.nil ?_
  refine hK3 _ _ ?_
  refine Eng.rt ?_
  refine Eng.ret (Eng.res1 (v1 := (.func (.func 121) #[] #[(.pointer (some ⟨w.heap.size, 0, none⟩))])) rfl (Eng.rdt rfl)) ?_
  exact ⟨_, rfl, hk2, Nat.le_refl _, hb2⟩
set_option maxRecDepth 100000 in
set_option maxHeartbeats 4000000 in
theorem seed1_calls (gs i : Nat) (sd : List UInt8) (w : World) (h32 : sd.length = 32) (hkg : Blk w gs 45 (bcs sd)) (hi : i ≤ 9223372036854775807) (hKn : Kon w) : Calls Tryd.prog 121 #[(.int .i64 (i : Int)), (.pointer (some ⟨gs, 0, none⟩))] w (fun e w' => e = .returned (dg (seedS sd i)) ∧ Below w.heap.size w w') := by
  refine Eng.enter (l := [(.int .i64 (i : Int)), (.pointer (some ⟨gs, 0, none⟩))]) Tryd.func121 rfl 13 rfl (by simp) ?_
  refine Eng.seqk fun K1 hK1 => ?_
  refine Eng.reg ?_
  refine Eng.al rfl rfl rfl zr45_ky (cs := (bcs Oct.dz)) rfl ?_
  intro w2 hk2 hb2 hz2
  refine Eng.nil ?_
  refine hK1 _ _ ?_
  refine Eng.seqk fun K3 hK3 => ?_
  refine Eng.reg ?_
  have hk4 := (hkg).below hb2
  refine Eng.sv rfl rfl (Eng.x_ldB (v := (dg sd)) rfl ag45_ky sz45_ky rfl hk4 ((bcs_length _).trans h32) rfl) ?_
  refine Eng.sv rfl rfl (Eng.x_mv (v := (.int .i64 (i : Int))) rfl rfl) ?_
  have hr5 := (hKn).below hb2
  refine Eng.sc rfl (Eng.xc (vl := [(dg sd), (.string (str [107, 101, 121, 115])), (.int .i64 (i : Int))]) rfl rfl rfl en122_ky) (child_calls sd [107, 101, 121, 115] i _ h32 (by decide) (by decide) (by omega) hr5) ?_
  rintro _ w6 ⟨rfl, hb6⟩
  refine Eng.aft_v rfl ?_
  refine Eng.sv rfl rfl (Eng.x_mv (v := (.tuple #[(dg (seedS sd i)), (.int .i64 0)])) rfl rfl) ?_
  refine Eng.sv rfl rfl (Eng.x_ext (v := (dg (seedS sd i))) rfl rfl rfl) ?_
  refine Eng.sv rfl rfl (Eng.x_ext (v := (.int .i64 0)) rfl rfl rfl) ?_
  refine Eng.al rfl rfl rfl zr45_ky (cs := (bcs Oct.dz)) rfl ?_
  intro w7 hk7 hb7 hz7
  refine Eng.stB (v := (dg (seedS sd i))) rfl rfl rfl sz45_ky rfl hk7 rfl rfl (cs' := (bcs (seedS sd i))) rfl ((bcs_length _).trans (childS_len _ _ _)) (bcs_one _) ?_
  intro w8 hk8 hg8
  refine Eng.sv rfl rfl (Eng.x_as (v := (.int .i64 0)) rfl rfl) ?_
  refine Eng.nil ?_
  refine hK3 _ _ ?_
  refine Eng.seqk fun K9 hK9 => ?_
  refine Eng.reg ?_
  refine Eng.sv rfl rfl (Eng.x_ldB (v := (dg (seedS sd i))) rfl ag45_ky sz45_ky rfl hk8 ((bcs_length _).trans (childS_len _ _ _)) rfl) ?_
  have hk10 := (((hk2).below hb6).below hb7).grown hg8 (fun e => absurd (Option.some.inj e) (Nat.ne_of_lt (Nat.lt_of_lt_of_le hz2 (Nat.le_trans (hb6).size (Nat.le_refl _)))))
  refine Eng.stB (v := (dg (seedS sd i))) rfl rfl rfl sz45_ky rfl hk10 rfl rfl (cs' := (bcs (seedS sd i))) rfl ((bcs_length _).trans (childS_len _ _ _)) (bcs_one _) ?_
  intro w11 hk11 hg11
  refine Eng.nil ?_
  refine hK9 _ _ ?_
  refine Eng.rt ?_
  refine Eng.ret (Eng.res1 (v1 := (dg (seedS sd i))) rfl (Eng.rdc rfl (Eng.lvB ag45_ky sz45_ky hk11 ((bcs_length _).trans (childS_len _ _ _)) rfl))) ?_
  have hB0_2 : Below w.heap.size w w6 := (hb2).trans (hb6.mono (hb2).size)
  have hB0_3 : Below w.heap.size w w7 := (hB0_2).trans (hb7.mono (hB0_2).size)
  have hB0_4 : Below w.heap.size w w8 := (hB0_3).grown hg8 (hB0_3).size (fun k e => by cases e; exact Nat.le_trans (hB0_2).size (Nat.le_refl _))
  have hB0_5 : Below w.heap.size w w11 := (hB0_4).grown hg11 (hB0_4).size (fun k e => by cases e; exact Nat.le_trans (Nat.le_refl _) (Nat.le_refl _))
  exact ⟨rfl, hB0_5⟩
set_option maxRecDepth 100000 in
set_option maxHeartbeats 4000000 in
theorem rseed_calls (sd : List UInt8) (i : Nat) (w : World) (h32 : sd.length = 32) (hi : i ≤ 9223372036854775807) : Calls Tryd.prog 127 #[(dg sd), (.int .i64 (i : Int))] w (fun e w' => e = .returned (dg (seedS sd i)) ∧ Below w.heap.size w w') := by
  refine Eng.enter (l := [(dg sd), (.int .i64 (i : Int))]) Tryd.func127 rfl 14 rfl (by simp) ?_
  refine Eng.seqk fun K1 hK1 => ?_
  refine Eng.reg ?_
  refine Eng.bo (v := (dg sd)) (cs := (bcs sd)) rfl rfl rfl rfl rfl ?_
  intro w2 hk2 hb2 hz2
  refine Eng.al rfl rfl rfl zr45_ky (cs := (bcs Oct.dz)) rfl ?_
  intro w3 hk3 hb3 hz3
  refine Eng.nil ?_
  refine hK1 _ _ ?_
  refine Eng.seqk fun K4 hK4 => ?_
  refine Eng.reg ?_
  have hk5 := (hk2).below hb3
  refine Eng.sv rfl rfl (Eng.x_ldB (v := (dg sd)) rfl ag45_ky sz45_ky rfl hk5 ((bcs_length _).trans h32) rfl) ?_
  refine Eng.sv rfl rfl (Eng.x_mv (v := (.int .i64 (i : Int))) rfl rfl) ?_
  refine Eng.sc rfl (Eng.xc (vl := [(dg sd), (.string (str [107, 101, 121, 115])), (.int .i64 (i : Int))]) rfl rfl rfl en183_ky) (rchild_calls sd [107, 101, 121, 115] i _ h32 (by decide) (by decide) (by omega)) ?_
  rintro _ w6 ⟨rfl, hb6⟩
  refine Eng.aft_v rfl ?_
  refine Eng.sv rfl rfl (Eng.x_mv (v := (.tuple #[(dg (seedS sd i)), (.int .i64 0)])) rfl rfl) ?_
  refine Eng.sv rfl rfl (Eng.x_ext (v := (dg (seedS sd i))) rfl rfl rfl) ?_
  refine Eng.sv rfl rfl (Eng.x_ext (v := (.int .i64 0)) rfl rfl rfl) ?_
  refine Eng.al rfl rfl rfl zr45_ky (cs := (bcs Oct.dz)) rfl ?_
  intro w7 hk7 hb7 hz7
  refine Eng.stB (v := (dg (seedS sd i))) rfl rfl rfl sz45_ky rfl hk7 rfl rfl (cs' := (bcs (seedS sd i))) rfl ((bcs_length _).trans (childS_len _ _ _)) (bcs_one _) ?_
  intro w8 hk8 hg8
  refine Eng.sv rfl rfl (Eng.x_as (v := (.int .i64 0)) rfl rfl) ?_
  refine Eng.nil ?_
  refine hK4 _ _ ?_
  refine Eng.seqk fun K9 hK9 => ?_
  refine Eng.reg ?_
  refine Eng.sv rfl rfl (Eng.x_ldB (v := (dg (seedS sd i))) rfl ag45_ky sz45_ky rfl hk8 ((bcs_length _).trans (childS_len _ _ _)) rfl) ?_
  have hk10 := (((hk3).below hb6).below hb7).grown hg8 (fun e => absurd (Option.some.inj e) (Nat.ne_of_lt (Nat.lt_of_lt_of_le hz3 (Nat.le_trans (hb6).size (Nat.le_refl _)))))
  refine Eng.stB (v := (dg (seedS sd i))) rfl rfl rfl sz45_ky rfl hk10 rfl rfl (cs' := (bcs (seedS sd i))) rfl ((bcs_length _).trans (childS_len _ _ _)) (bcs_one _) ?_
  intro w11 hk11 hg11
  refine Eng.nil ?_
  refine hK9 _ _ ?_
  refine Eng.rt ?_
  refine Eng.ret (Eng.res1 (v1 := (dg (seedS sd i))) rfl (Eng.rdc rfl (Eng.lvB ag45_ky sz45_ky hk11 ((bcs_length _).trans (childS_len _ _ _)) rfl))) ?_
  have hB0_2 : Below w.heap.size w w3 := (hb2).trans (hb3.mono (hb2).size)
  have hB0_3 : Below w.heap.size w w6 := (hB0_2).trans (hb6.mono (hB0_2).size)
  have hB0_4 : Below w.heap.size w w7 := (hB0_3).trans (hb7.mono (hB0_3).size)
  have hB0_5 : Below w.heap.size w w8 := (hB0_4).grown hg8 (hB0_4).size (fun k e => by cases e; exact Nat.le_trans (hB0_3).size (Nat.le_refl _))
  have hB0_6 : Below w.heap.size w w11 := (hB0_5).grown hg11 (hB0_5).size (fun k e => by cases e; exact Nat.le_trans (hb2).size (Nat.le_refl _))
  exact ⟨rfl, hB0_6⟩
set_option maxRecDepth 100000 in
set_option maxHeartbeats 4000000 in
theorem leaves_calls (gs n : Nat) (h : Int) (sd : List UInt8) (w : World) (h32 : sd.length = 32) (e1 : h = (n : Int)) (hn : n ≤ 10) (hp : 2 ^ n ≤ 1024) (hkg : Blk w gs 45 (bcs sd)) (hKn : Kon w) : Calls Tryd.prog 64 #[(.func (.func 121) #[] #[(.pointer (some ⟨gs, 0, none⟩))]), (.int .i64 h)] w (fun e w' => ∃ v, e = .returned v ∧ Eng.OwnD w.heap.size w' v (lvS sd (2 ^ n)) ∧ Below w.heap.size w w') := by
  refine Eng.enter (l := [(.func (.func 121) #[] #[(.pointer (some ⟨gs, 0, none⟩))]), (.int .i64 h)]) Tryd.func64 rfl 24 rfl (by simp) ?_
  refine Eng.seqk fun K1 hK1 => ?_
  refine Eng.reg ?_
  refine Eng.sv rfl rfl (Eng.x_as (v := (.slice none 0 0)) rfl rfl) ?_
  refine Eng.nil ?_
  refine hK1 _ _ ?_
  refine Eng.seqk fun K2 hK2 => ?_
  refine Eng.reg ?_
  refine Eng.sv rfl rfl (Eng.x_as (v := (.slice none 0 0)) rfl rfl) ?_
  refine Eng.nil ?_
  refine hK2 _ _ ?_
  refine Eng.seqk fun K3 hK3 => ?_
  refine Eng.seqk fun K4 hK4 => ?_
  refine Eng.reg ?_
  refine Eng.sv rfl rfl (Eng.x_mv (v := (.int .i64 h)) rfl rfl) ?_
  refine Eng.sv rfl rfl (Eng.x_shl rfl rfl rfl (by omega) (r := ((2 ^ n : Nat) : Int)) ((shl_eq (x := 1) rfl e1 (by omega) (by rw [Nat.one_mul]; omega)).trans (by rw [Nat.one_mul]))) ?_
  refine Eng.sv rfl rfl (Eng.x_mv (v := (.int .i64 0)) rfl rfl) ?_
  refine Eng.nil ?_
  refine hK4 _ _ ?_
  refine Eng.blk ?_
  refine Eng.loopN (fun zz u w' => ∃ (i : Nat), ∃ (vl : Value), zz = 2 ^ n - i ∧ i ≤ 2 ^ n ∧ Eng.Has u [(0, (.func (.func 121) #[] #[(.pointer (some ⟨gs, 0, none⟩))])), (4, (.slice none 0 0)), (5, vl), (9, (.int .i64 ((2 ^ n : Nat) : Int))), (10, (.int .i64 (i : Int)))] ∧ Below w.heap.size w w' ∧ w.heap.size ≤ w'.heap.size ∧ Blk w' gs 45 (bcs sd) ∧ Eng.OwnD w.heap.size w' vl (lvS sd i)) _ ⟨0, (.slice none 0 0), rfl, (Nat.zero_le _), ⟨rfl, rfl, rfl, rfl, (Eng.ie (by first | omega | rfl)), trivial⟩, (Below.refl _ _), (Nat.le_refl _), hkg, (Eng.OwnD.nil _ _)⟩ ?_
  rintro _ u5 w5 ⟨i, vl, rfl, hs5_0, hH5, hBL5, hzL5, hkL5_0, hrL5_0⟩ K5 hK5
  obtain ⟨u5, rfl⟩ := hH5.ex
  refine Eng.seqk fun K6 hK6 => ?_
  refine Eng.reg ?_
  by_cases h11 : ((i : Int) : Int) < ((2 ^ n : Nat) : Int)
  · skip
    refine Eng.sv rfl rfl (Eng.x_lt (r := true) rfl rfl rfl (decide_eq_true (by omega))) ?_
    refine Eng.nil ?_
    refine hK6 _ _ ?_
    refine Eng.seqk fun K7 hK7 => ?_
    refine Eng.cond_t rfl ?_
    refine Eng.skp ?_
    refine hK7 _ _ ?_
    refine Eng.seqk fun K8 hK8 => ?_
    refine Eng.blk ?_
    refine Eng.seqk fun K9 hK9 => ?_
    refine Eng.reg ?_
    refine Eng.sv rfl rfl (Eng.x_mv (v := (.int .i64 (i : Int))) rfl rfl) ?_
    refine Eng.sv rfl rfl (Eng.x_as (v := (.int .i64 (i : Int))) rfl rfl) ?_
    refine Eng.nil ?_
    refine hK9 _ _ ?_
    refine Eng.seqk fun K10 hK10 => ?_
    refine Eng.reg ?_
    refine Eng.sv rfl rfl (Eng.x_mv (v := (.func (.func 121) #[] #[(.pointer (some ⟨gs, 0, none⟩))])) rfl rfl) ?_
    refine Eng.sv rfl rfl (Eng.x_mv (v := (.int .i64 (i : Int))) rfl rfl) ?_
    have hr11 := (hKn).below hBL5
    refine Eng.sc rfl (Eng.xcv (first := []) (cap := [(.pointer (some ⟨gs, 0, none⟩))]) (vl := [(.int .i64 (i : Int)), (.pointer (some ⟨gs, 0, none⟩))]) rfl rfl rfl en121_ky) (seed1_calls gs i sd _ h32 hkL5_0 (by omega) hr11) ?_
    rintro _ w12 ⟨rfl, hb12⟩
    refine Eng.aft_v rfl ?_
    have hB0_2 : Below w.heap.size w w12 := (hBL5).trans (hb12.mono (hBL5).size)
    have hr13 := (hKn).below hB0_2
    refine Eng.sc rfl (Eng.xc (vl := [(dg (seedS sd i))]) rfl rfl rfl en120_ky) (pub_calls (seedS sd i) _ (childS_len _ _ _) hr13) ?_
    rintro _ w14 ⟨rfl, hb14⟩
    refine Eng.aft_v rfl ?_
    refine Eng.al rfl rfl rfl zr45_ky (cs := (bcs Oct.dz)) rfl ?_
    intro w15 hk15 hb15 hz15
    refine Eng.stB (v := (dg (pubS (seedS sd i)))) rfl rfl rfl sz45_ky rfl hk15 rfl rfl (cs' := (bcs (pubS (seedS sd i)))) rfl ((bcs_length _).trans (pubS_len _)) (bcs_one _) ?_
    intro w16 hk16 hg16
    refine Eng.nil ?_
    refine hK10 _ _ ?_
    refine Eng.reg ?_
    refine Eng.sv rfl rfl (Eng.x_mv (v := vl) rfl rfl) ?_
    refine Eng.sv rfl rfl (Eng.x_slA rfl Tryd.underlying45 sz5_ky rfl) ?_
    have hB0_3 : Below w.heap.size w w14 := (hB0_2).trans (hb14.mono (hB0_2).size)
    have hB0_4 : Below w.heap.size w w15 := (hB0_3).trans (hb15.mono (hB0_3).size)
    have hB0_5 : Below w.heap.size w w16 := (hB0_4).grown hg16 (hB0_4).size (fun k e => by cases e; exact Nat.le_trans (hB0_3).size (Nat.le_refl _))
    have hr17 := (hKn).below hB0_5
    refine Eng.sc rfl (Eng.xc (vl := [(.slice (some ⟨w14.heap.size, 0, none⟩) 32 32)]) rfl rfl rfl en72_ky) (leaf_calls _ (pubS (seedS sd i)) _ (Rd.of_blk hk16 32 (pubS_len _) (by decide)) (pubS_len _) hr17) ?_
    rintro _ w18 ⟨rfl, hb18⟩
    refine Eng.aft_v rfl ?_
    refine Eng.bs (vs := [(dg (leafS (pubS (seedS sd i))))]) (cs := (Dsl.dcs [(leafS (pubS (seedS sd i)))])) rfl rfl rfl Tryd.underlying36 in45_ky (dg_size dz_length) (by decide) rfl rfl (by decide) (by decide) (Eng.all_cons (p := fun v => v.cells.size = 32) (Eng.dg_cells (leafS_len _)) Eng.all_nil) (by simp [Dsl.dcs, Value.cells]) ?_
    intro w19 hk19 hb19 hz19
    have hB1_3 : Below w5.heap.size w5 w14 := (hb12).trans (hb14.mono (hb12).size)
    have hr21 := ((((((hrL5_0).below hb12).below hb14).below hb15).kept hg16 (.inr (fun e => absurd ((World.ownsRow.lt (hrL5_0).1) _ e).2 (Nat.not_lt_of_le (Nat.le_trans (hB1_3).size (Nat.le_refl _)))))).below hb18).below hb19
    have hB0_6 : Below w.heap.size w w18 := (hB0_5).trans (hb18.mono (hB0_5).size)
    have hB0_7 : Below w.heap.size w w19 := (hB0_6).trans (hb19.mono (hB0_6).size)
    refine Eng.apD rfl rfl rfl rfl hr21 rfl (Eng.ds_lit hk19 (Eng.all32_one (leafS_len _)) (Nat.le_of_ble_eq_true rfl)) (by rw [lvS_len]; simp only [List.length_cons, List.length_nil]; omega) (hB0_7).size ?_
    intro v20 w20 ho20 hg20
    rw [← lvS_succ] at ho20
    refine Eng.sv rfl rfl (Eng.x_as (v := v20) rfl rfl) ?_
    refine Eng.nil ?_
    refine Eng.nb ?_
    refine hK8 _ _ ?_
    refine Eng.reg ?_
    refine Eng.sv rfl rfl (Eng.x_add rfl rfl rfl (Eng.w64 (r := ((i + 1 : Nat) : Int)) (by omega))) ?_
    refine Eng.sv rfl rfl (Eng.x_mv (v := (.int .i64 ((i + 1 : Nat) : Int))) rfl rfl) ?_
    refine Eng.nil ?_
    have hB0_8 : Below w.heap.size w w20 := (hB0_7).grown hg20 (hB0_7).size (fun k e => Nat.le_trans (Nat.le_refl _) ((World.ownsRow.lt (hrL5_0).1) _ e).1)
    have hk22 := (((((((hkL5_0).below hb12).below hb14).below hb15).grown hg16 (fun e => absurd (Option.some.inj e) (Nat.ne_of_lt (Nat.lt_of_lt_of_le (hkg).lt (Nat.le_trans (hB0_3).size (Nat.le_refl _)))))).below hb18).below hb19).grown hg20 (fun e => absurd ((World.ownsRow.lt (hrL5_0).1) _ e.symm).1 (Nat.not_le_of_lt (Nat.lt_of_lt_of_le (hkg).lt (Nat.le_refl _))))
    exact hK5 _ _ _ ⟨i + 1, v20, rfl, by omega, ⟨rfl, rfl, rfl, rfl, (Eng.ie (by first | omega | rfl)), trivial⟩, hB0_8, (hB0_8).size, hk22, ho20⟩ (by omega)
  · skip
    refine Eng.sv rfl rfl (Eng.x_lt (r := false) rfl rfl rfl (decide_eq_false (by omega))) ?_
    refine Eng.nil ?_
    refine hK6 _ _ ?_
    refine Eng.seqk fun K23 hK23 => ?_
    refine Eng.cond_f rfl ?_
    refine Eng.xt ?_
    refine Eng.te ?_
    refine Eng.te ?_
    refine Eng.be ?_
    refine hK3 _ _ ?_
    refine Eng.seqk fun K24 hK24 => ?_
    refine Eng.reg ?_
    refine Eng.sv rfl rfl (Eng.x_mv (v := vl) rfl rfl) ?_
    refine Eng.sv rfl rfl (Eng.x_as (v := vl) rfl rfl) ?_
    refine Eng.nil ?_
    refine hK24 _ _ ?_
    refine Eng.rt ?_
    refine Eng.ret (Eng.res1 (v1 := vl) rfl (Eng.rdt rfl)) ?_
    have hix : i = 2 ^ n := by omega
    rw [hix] at hrL5_0
    exact ⟨_, rfl, (hrL5_0).mono (Nat.le_refl _), hBL5⟩
set_option maxRecDepth 100000 in
set_option maxHeartbeats 4000000 in
theorem rleaves_calls (n : Nat) (h : Int) (sd : List UInt8) (w : World) (h32 : sd.length = 32) (e1 : h = (n : Int)) (hn : n ≤ 10) (hp : 2 ^ n ≤ 1024) : Calls Tryd.prog 68 #[(dg sd), (.int .i64 h)] w (fun e w' => ∃ v, e = .returned v ∧ Eng.OwnD w.heap.size w' v (lvS sd (2 ^ n)) ∧ Below w.heap.size w w') := by
  refine Eng.enter (l := [(dg sd), (.int .i64 h)]) Tryd.func68 rfl 25 rfl (by simp) ?_
  refine Eng.seqk fun K1 hK1 => ?_
  refine Eng.reg ?_
  refine Eng.bo (v := (dg sd)) (cs := (bcs sd)) rfl rfl rfl rfl rfl ?_
  intro w2 hk2 hb2 hz2
  refine Eng.sv rfl rfl (Eng.x_as (v := (.slice none 0 0)) rfl rfl) ?_
  refine Eng.nil ?_
  refine hK1 _ _ ?_
  refine Eng.seqk fun K3 hK3 => ?_
  refine Eng.reg ?_
  refine Eng.sv rfl rfl (Eng.x_as (v := (.slice none 0 0)) rfl rfl) ?_
  refine Eng.nil ?_
  refine hK3 _ _ ?_
  refine Eng.seqk fun K4 hK4 => ?_
  refine Eng.seqk fun K5 hK5 => ?_
  refine Eng.reg ?_
  refine Eng.sv rfl rfl (Eng.x_as (v := (.int .i64 0)) rfl rfl) ?_
  refine Eng.nil ?_
  refine hK5 _ _ ?_
  refine Eng.blk ?_
  refine Eng.loopN (fun zz u w' => ∃ (i : Nat), ∃ (vl : Value), zz = 2 ^ n - i ∧ i ≤ 2 ^ n ∧ Eng.Has u [(1, (.int .i64 h)), (2, (.pointer (some ⟨w.heap.size, 0, none⟩))), (4, (.slice none 0 0)), (5, vl), (6, (.int .i64 (i : Int)))] ∧ Below w.heap.size w w' ∧ w2.heap.size ≤ w'.heap.size ∧ Blk w' w.heap.size 45 (bcs sd) ∧ Eng.OwnD w2.heap.size w' vl (lvS sd i)) _ ⟨0, (.slice none 0 0), rfl, (Nat.zero_le _), ⟨rfl, rfl, rfl, rfl, (Eng.ie (by first | omega | rfl)), trivial⟩, hb2, (Nat.le_refl _), hk2, (Eng.OwnD.nil _ _)⟩ ?_
  rintro _ u6 w6 ⟨i, vl, rfl, hs6_0, hH6, hBL6, hzL6, hkL6_0, hrL6_0⟩ K6 hK6
  obtain ⟨u6, rfl⟩ := hH6.ex
  refine Eng.seqk fun K7 hK7 => ?_
  refine Eng.seqk fun K8 hK8 => ?_
  refine Eng.reg ?_
  refine Eng.sv rfl rfl (Eng.x_mv (v := (.int .i64 (i : Int))) rfl rfl) ?_
  refine Eng.sv rfl rfl (Eng.x_mv (v := (.int .i64 h)) rfl rfl) ?_
  refine Eng.sv rfl rfl (Eng.x_conv rfl Tryd.underlying3 Tryd.underlying39 rfl (Eng.wu64 (r := h) (by omega))) ?_
  refine Eng.sv rfl rfl (Eng.x_shl rfl rfl rfl (by omega) (r := ((2 ^ n : Nat) : Int)) ((shl_eq (x := 1) rfl e1 (by omega) (by rw [Nat.one_mul]; omega)).trans (by rw [Nat.one_mul]))) ?_
  by_cases h12 : ((i : Int) : Int) < ((2 ^ n : Nat) : Int)
  · skip
    refine Eng.sv rfl rfl (Eng.x_lt (r := true) rfl rfl rfl (decide_eq_true (by omega))) ?_
    refine Eng.nil ?_
    refine hK8 _ _ ?_
    refine Eng.cond_t rfl ?_
    refine Eng.skp ?_
    refine hK7 _ _ ?_
    refine Eng.seqk fun K9 hK9 => ?_
    refine Eng.blk ?_
    refine Eng.seqk fun K10 hK10 => ?_
    refine Eng.reg ?_
    refine Eng.sv rfl rfl (Eng.x_ldB (v := (dg sd)) rfl ag45_ky sz45_ky rfl hkL6_0 ((bcs_length _).trans h32) rfl) ?_
    refine Eng.sv rfl rfl (Eng.x_mv (v := (.int .i64 (i : Int))) rfl rfl) ?_
    refine Eng.sc rfl (Eng.xc (vl := [(dg sd), (.int .i64 (i : Int))]) rfl rfl rfl en127_ky) (rseed_calls sd i _ h32 (by omega)) ?_
    rintro _ w11 ⟨rfl, hb11⟩
    refine Eng.aft_v rfl ?_
    refine Eng.sc rfl (Eng.xc (vl := [(dg (seedS sd i))]) rfl rfl rfl en126_ky) (rpub_calls (seedS sd i) _ (childS_len _ _ _)) ?_
    rintro _ w12 ⟨rfl, hb12⟩
    refine Eng.aft_v rfl ?_
    refine Eng.al rfl rfl rfl zr45_ky (cs := (bcs Oct.dz)) rfl ?_
    intro w13 hk13 hb13 hz13
    refine Eng.stB (v := (dg (pubS (seedS sd i)))) rfl rfl rfl sz45_ky rfl hk13 rfl rfl (cs' := (bcs (pubS (seedS sd i)))) rfl ((bcs_length _).trans (pubS_len _)) (bcs_one _) ?_
    intro w14 hk14 hg14
    refine Eng.nil ?_
    refine hK10 _ _ ?_
    refine Eng.reg ?_
    refine Eng.sv rfl rfl (Eng.x_mv (v := vl) rfl rfl) ?_
    refine Eng.sv rfl rfl (Eng.x_slA rfl Tryd.underlying45 sz5_ky rfl) ?_
    refine Eng.sc rfl (Eng.xc (vl := [(.slice (some ⟨w12.heap.size, 0, none⟩) 32 32)]) rfl rfl rfl en77_ky) (rleaf_calls _ (pubS (seedS sd i)) _ (Rd.of_blk hk14 32 (pubS_len _) (by decide)) (pubS_len _)) ?_
    rintro _ w15 ⟨rfl, hb15⟩
    refine Eng.aft_v rfl ?_
    refine Eng.bs (vs := [(dg (leafS (pubS (seedS sd i))))]) (cs := (Dsl.dcs [(leafS (pubS (seedS sd i)))])) rfl rfl rfl Tryd.underlying36 in45_ky (dg_size dz_length) (by decide) rfl rfl (by decide) (by decide) (Eng.all_cons (p := fun v => v.cells.size = 32) (Eng.dg_cells (leafS_len _)) Eng.all_nil) (by simp [Dsl.dcs, Value.cells]) ?_
    intro w16 hk16 hb16 hz16
    have hB2_4 : Below w6.heap.size w6 w12 := (hb11).trans (hb12.mono (hb11).size)
    have hr18 := ((((((hrL6_0).below hb11).below hb12).below hb13).kept hg14 (.inr (fun e => absurd ((World.ownsRow.lt (hrL6_0).1) _ e).2 (Nat.not_lt_of_le (Nat.le_trans (hB2_4).size (Nat.le_refl _)))))).below hb15).below hb16
    refine Eng.apD rfl rfl rfl rfl hr18 rfl (Eng.ds_lit hk16 (Eng.all32_one (leafS_len _)) (Nat.le_of_ble_eq_true rfl)) (by rw [lvS_len]; simp only [List.length_cons, List.length_nil]; omega) (Nat.le_trans (Nat.le_trans (Nat.le_trans (Nat.le_trans (Nat.le_trans (Nat.le_trans hzL6 (hb11).size) (hb12).size) (hb13).size) (hg14).size) (hb15).size) (hb16).size) ?_
    intro v17 w17 ho17 hg17
    rw [← lvS_succ] at ho17
    refine Eng.sv rfl rfl (Eng.x_as (v := v17) rfl rfl) ?_
    refine Eng.nil ?_
    refine Eng.nb ?_
    refine hK9 _ _ ?_
    refine Eng.reg ?_
    refine Eng.sv rfl rfl (Eng.x_mv (v := (.int .i64 (i : Int))) rfl rfl) ?_
    refine Eng.sv rfl rfl (Eng.x_add rfl rfl rfl (Eng.w64 (r := ((i + 1 : Nat) : Int)) (by omega))) ?_
    refine Eng.sv rfl rfl (Eng.x_as (v := (.int .i64 ((i + 1 : Nat) : Int))) rfl rfl) ?_
    refine Eng.nil ?_
    have hB0_3 : Below w.heap.size w w11 := (hBL6).trans (hb11.mono (hBL6).size)
    have hB0_4 : Below w.heap.size w w12 := (hB0_3).trans (hb12.mono (hB0_3).size)
    have hB0_5 : Below w.heap.size w w13 := (hB0_4).trans (hb13.mono (hB0_4).size)
    have hB0_6 : Below w.heap.size w w14 := (hB0_5).grown hg14 (hB0_5).size (fun k e => by cases e; exact Nat.le_trans (hB0_4).size (Nat.le_refl _))
    have hB0_7 : Below w.heap.size w w15 := (hB0_6).trans (hb15.mono (hB0_6).size)
    have hB0_8 : Below w.heap.size w w16 := (hB0_7).trans (hb16.mono (hB0_7).size)
    have hB0_9 : Below w.heap.size w w17 := (hB0_8).grown hg17 (hB0_8).size (fun k e => Nat.le_trans (hb2).size ((World.ownsRow.lt (hrL6_0).1) _ e).1)
    have hk19 := (((((((hkL6_0).below hb11).below hb12).below hb13).grown hg14 (fun e => absurd (Option.some.inj e) (Nat.ne_of_lt (Nat.lt_of_lt_of_le hz2 (Nat.le_trans (Nat.le_trans (Nat.le_trans hzL6 (hb11).size) (hb12).size) (Nat.le_refl _)))))).below hb15).below hb16).grown hg17 (fun e => absurd ((World.ownsRow.lt (hrL6_0).1) _ e.symm).1 (Nat.not_le_of_lt (Nat.lt_of_lt_of_le hz2 (Nat.le_refl _))))
    exact hK6 _ _ _ ⟨i + 1, v17, rfl, by omega, ⟨rfl, rfl, rfl, rfl, (Eng.ie (by first | omega | rfl)), trivial⟩, hB0_9, (Nat.le_trans (Nat.le_trans (Nat.le_trans (Nat.le_trans (Nat.le_trans (Nat.le_trans (Nat.le_trans hzL6 (hb11).size) (hb12).size) (hb13).size) (hg14).size) (hb15).size) (hb16).size) (hg17).size), hk19, ho17⟩ (by omega)
  · skip
    refine Eng.sv rfl rfl (Eng.x_lt (r := false) rfl rfl rfl (decide_eq_false (by omega))) ?_
    refine Eng.nil ?_
    refine hK8 _ _ ?_
    refine Eng.cond_f rfl ?_
    refine Eng.xt ?_
    refine Eng.te ?_
    refine Eng.te ?_
    refine Eng.be ?_
    refine hK4 _ _ ?_
    refine Eng.seqk fun K20 hK20 => ?_
    refine Eng.reg ?_
    refine Eng.sv rfl rfl (Eng.x_mv (v := vl) rfl rfl) ?_
    refine Eng.sv rfl rfl (Eng.x_as (v := vl) rfl rfl) ?_
    refine Eng.nil ?_
    refine hK20 _ _ ?_
    refine Eng.rt ?_
    refine Eng.ret (Eng.res1 (v1 := vl) rfl (Eng.rdt rfl)) ?_
    have hix : i = 2 ^ n := by omega
    rw [hix] at hrL6_0
    exact ⟨_, rfl, (hrL6_0).mono (hb2).size, hBL6⟩
set_option maxRecDepth 100000 in
set_option maxHeartbeats 4000000 in
theorem kheight_calls (h : Int) (w : World) : Calls Tryd.prog 63 #[(.int .i64 h)] w (fun e w' => e = .returned (.bool (kh h)) ∧ Below w.heap.size w w') := by
  refine Eng.enter (l := [(.int .i64 h)]) Tryd.func63 rfl 9 rfl (by simp) ?_
  refine Eng.seqk fun K1 hK1 => ?_
  refine Eng.reg ?_
  refine Eng.sv rfl rfl (Eng.x_as (v := (.bool false)) rfl rfl) ?_
  refine Eng.nil ?_
  refine hK1 _ _ ?_
  refine Eng.seqk fun K2 hK2 => ?_
  by_cases q0 : 0 ≤ h
  · skip
    by_cases q1 : h ≤ 10
    · skip
      refine Eng.reg ?_
      refine Eng.sv rfl rfl (Eng.x_mv (v := (.int .i64 h)) rfl rfl) ?_
      refine Eng.sv rfl rfl (Eng.x_ge (r := true) rfl rfl rfl (decide_eq_true (by omega))) ?_
      refine Eng.sv rfl rfl (Eng.x_mv (v := (.bool true)) rfl rfl) ?_
      refine Eng.sv (Eng.gt rfl rfl rfl rfl) rfl (Eng.x_mv (v := (.int .i64 h)) rfl rfl) ?_
      refine Eng.sv (Eng.gt rfl rfl rfl rfl) rfl (Eng.x_le (r := true) rfl rfl rfl (decide_eq_true (by omega))) ?_
      refine Eng.sv rfl rfl (Eng.x_pick (v := (.bool true)) rfl rfl rfl rfl rfl) ?_
      refine Eng.sv rfl rfl (Eng.x_as (v := (.bool true)) rfl rfl) ?_
      refine Eng.nil ?_
      refine hK2 _ _ ?_
      refine Eng.rt ?_
      refine Eng.ret (Eng.res1 (v1 := (.bool true)) rfl (Eng.rdt rfl)) ?_
      exact ⟨by unfold kh; simp only [decide_eq_true (show (0 ≤ h ∧ h ≤ 10) by omega)], (Below.refl _ _)⟩
    · skip
      refine Eng.reg ?_
      refine Eng.sv rfl rfl (Eng.x_mv (v := (.int .i64 h)) rfl rfl) ?_
      refine Eng.sv rfl rfl (Eng.x_ge (r := true) rfl rfl rfl (decide_eq_true (by omega))) ?_
      refine Eng.sv rfl rfl (Eng.x_mv (v := (.bool true)) rfl rfl) ?_
      refine Eng.sv (Eng.gt rfl rfl rfl rfl) rfl (Eng.x_mv (v := (.int .i64 h)) rfl rfl) ?_
      refine Eng.sv (Eng.gt rfl rfl rfl rfl) rfl (Eng.x_le (r := false) rfl rfl rfl (decide_eq_false (by omega))) ?_
      refine Eng.sv rfl rfl (Eng.x_pick (v := (.bool false)) rfl rfl rfl rfl rfl) ?_
      refine Eng.sv rfl rfl (Eng.x_as (v := (.bool false)) rfl rfl) ?_
      refine Eng.nil ?_
      refine hK2 _ _ ?_
      refine Eng.rt ?_
      refine Eng.ret (Eng.res1 (v1 := (.bool false)) rfl (Eng.rdt rfl)) ?_
      exact ⟨by unfold kh; simp only [decide_eq_false (show ¬ (0 ≤ h ∧ h ≤ 10) by omega)], (Below.refl _ _)⟩
  · skip
    refine Eng.reg ?_
    refine Eng.sv rfl rfl (Eng.x_mv (v := (.int .i64 h)) rfl rfl) ?_
    refine Eng.sv rfl rfl (Eng.x_ge (r := false) rfl rfl rfl (decide_eq_false (by omega))) ?_
    refine Eng.sv rfl rfl (Eng.x_mv (v := (.bool false)) rfl rfl) ?_
    refine Eng.sg (Eng.gf rfl rfl rfl rfl) rfl ?_
    refine Eng.sg (Eng.gf rfl rfl rfl rfl) rfl ?_
    refine Eng.sv rfl rfl (Eng.x_pick (v := (.bool false)) rfl rfl rfl rfl rfl) ?_
    refine Eng.sv rfl rfl (Eng.x_as (v := (.bool false)) rfl rfl) ?_
    refine Eng.nil ?_
    refine hK2 _ _ ?_
    refine Eng.rt ?_
    refine Eng.ret (Eng.res1 (v1 := (.bool false)) rfl (Eng.rdt rfl)) ?_
    exact ⟨by unfold kh; simp only [decide_eq_false (show ¬ (0 ≤ h ∧ h ≤ 10) by omega)], (Below.refl _ _)⟩
theorem kheight_is {b : Bool} {h : Int} (e : kh h = b) (w : World) : Calls Tryd.prog 63 #[.int .i64 h] w fun e w' => e = .returned (.bool b) ∧ Below w.heap.size w w' := e ▸ kheight_calls h w
set_option maxRecDepth 100000 in
set_option maxHeartbeats 4000000 in
theorem rkheight_calls (h : Int) (w : World) : Calls Tryd.prog 66 #[(.int .i64 h)] w (fun e w' => e = .returned (.bool (kh h)) ∧ Below w.heap.size w w') := by
  refine Eng.enter (l := [(.int .i64 h)]) Tryd.func66 rfl 9 rfl (by simp) ?_
  refine Eng.seqk fun K1 hK1 => ?_
  refine Eng.reg ?_
  refine Eng.sv rfl rfl (Eng.x_as (v := (.bool false)) rfl rfl) ?_
  refine Eng.nil ?_
  refine hK1 _ _ ?_
  refine Eng.seqk fun K2 hK2 => ?_
  by_cases q0 : 0 ≤ h
  · skip
    by_cases q1 : h ≤ 10
    · skip
      refine Eng.reg ?_
      refine Eng.sv rfl rfl (Eng.x_mv (v := (.int .i64 h)) rfl rfl) ?_
      refine Eng.sv rfl rfl (Eng.x_ge (r := true) rfl rfl rfl (decide_eq_true (by omega))) ?_
      refine Eng.sv rfl rfl (Eng.x_mv (v := (.bool true)) rfl rfl) ?_
      refine Eng.sv (Eng.gt rfl rfl rfl rfl) rfl (Eng.x_mv (v := (.int .i64 h)) rfl rfl) ?_
      refine Eng.sv (Eng.gt rfl rfl rfl rfl) rfl (Eng.x_le (r := true) rfl rfl rfl (decide_eq_true (by omega))) ?_
      refine Eng.sv rfl rfl (Eng.x_pick (v := (.bool true)) rfl rfl rfl rfl rfl) ?_
      refine Eng.sv rfl rfl (Eng.x_as (v := (.bool true)) rfl rfl) ?_
      refine Eng.nil ?_
      refine hK2 _ _ ?_
      refine Eng.rt ?_
      refine Eng.ret (Eng.res1 (v1 := (.bool true)) rfl (Eng.rdt rfl)) ?_
      exact ⟨by unfold kh; simp only [decide_eq_true (show (0 ≤ h ∧ h ≤ 10) by omega)], (Below.refl _ _)⟩
    · skip
      refine Eng.reg ?_
      refine Eng.sv rfl rfl (Eng.x_mv (v := (.int .i64 h)) rfl rfl) ?_
      refine Eng.sv rfl rfl (Eng.x_ge (r := true) rfl rfl rfl (decide_eq_true (by omega))) ?_
      refine Eng.sv rfl rfl (Eng.x_mv (v := (.bool true)) rfl rfl) ?_
      refine Eng.sv (Eng.gt rfl rfl rfl rfl) rfl (Eng.x_mv (v := (.int .i64 h)) rfl rfl) ?_
      refine Eng.sv (Eng.gt rfl rfl rfl rfl) rfl (Eng.x_le (r := false) rfl rfl rfl (decide_eq_false (by omega))) ?_
      refine Eng.sv rfl rfl (Eng.x_pick (v := (.bool false)) rfl rfl rfl rfl rfl) ?_
      refine Eng.sv rfl rfl (Eng.x_as (v := (.bool false)) rfl rfl) ?_
      refine Eng.nil ?_
      refine hK2 _ _ ?_
      refine Eng.rt ?_
      refine Eng.ret (Eng.res1 (v1 := (.bool false)) rfl (Eng.rdt rfl)) ?_
      exact ⟨by unfold kh; simp only [decide_eq_false (show ¬ (0 ≤ h ∧ h ≤ 10) by omega)], (Below.refl _ _)⟩
  · skip
    refine Eng.reg ?_
    refine Eng.sv rfl rfl (Eng.x_mv (v := (.int .i64 h)) rfl rfl) ?_
    refine Eng.sv rfl rfl (Eng.x_ge (r := false) rfl rfl rfl (decide_eq_false (by omega))) ?_
    refine Eng.sv rfl rfl (Eng.x_mv (v := (.bool false)) rfl rfl) ?_
    refine Eng.sg (Eng.gf rfl rfl rfl rfl) rfl ?_
    refine Eng.sg (Eng.gf rfl rfl rfl rfl) rfl ?_
    refine Eng.sv rfl rfl (Eng.x_pick (v := (.bool false)) rfl rfl rfl rfl rfl) ?_
    refine Eng.sv rfl rfl (Eng.x_as (v := (.bool false)) rfl rfl) ?_
    refine Eng.nil ?_
    refine hK2 _ _ ?_
    refine Eng.rt ?_
    refine Eng.ret (Eng.res1 (v1 := (.bool false)) rfl (Eng.rdt rfl)) ?_
    exact ⟨by unfold kh; simp only [decide_eq_false (show ¬ (0 ≤ h ∧ h ≤ 10) by omega)], (Below.refl _ _)⟩
theorem rkheight_is {b : Bool} {h : Int} (e : kh h = b) (w : World) : Calls Tryd.prog 66 #[.int .i64 h] w fun e w' => e = .returned (.bool b) ∧ Below w.heap.size w w' := e ▸ rkheight_calls h w
set_option maxRecDepth 100000 in
set_option maxHeartbeats 4000000 in
theorem kpub_calls (sd : List UInt8) (h : Int) (w : World) (h32 : sd.length = 32) (hKn : Kon w) : Calls Tryd.prog 25 #[(dg sd), (.int .i64 h)] w (fun e w' => e = .returned (.tuple #[dg (kpS sd h).1, .int .i64 (kpS sd h).2]) ∧ Below w.heap.size w w') := by
  refine Eng.enter (l := [(dg sd), (.int .i64 h)]) Tryd.func25 rfl 15 rfl (by simp) ?_
  refine Eng.seqk fun K1 hK1 => ?_
  refine Eng.reg ?_
  refine Eng.bo (v := (dg sd)) (cs := (bcs sd)) rfl rfl rfl rfl rfl ?_
  intro w2 hk2 hb2 hz2
  refine Eng.al rfl rfl rfl zr45_ky (cs := (bcs Oct.dz)) rfl ?_
  intro w3 hk3 hb3 hz3
  refine Eng.sv rfl rfl (Eng.x_as (v := (.int .i64 0)) rfl rfl) ?_
  refine Eng.nil ?_
  refine hK1 _ _ ?_
  refine Eng.seqk fun K4 hK4 => ?_
  refine Eng.seqk fun K5 hK5 => ?_
  by_cases q0 : kh h = false
  · skip
    refine Eng.reg ?_
    refine Eng.sv rfl rfl (Eng.x_mv (v := (.int .i64 h)) rfl rfl) ?_
    refine Eng.sc rfl (Eng.xc (vl := [(.int .i64 h)]) rfl rfl rfl en63_ky) (kheight_is q0 _) ?_
    rintro _ w6 ⟨rfl, hb6⟩
    refine Eng.aft_v rfl ?_
    refine Eng.sv rfl rfl (Eng.x_not (v := (.bool true)) rfl rfl rfl) ?_
    refine Eng.nil ?_
    refine hK5 _ _ ?_
    refine Eng.cond_t rfl ?_
    refine Eng.seqk fun K7 hK7 => ?_
    refine Eng.reg ?_
    refine Eng.sv rfl rfl (Eng.x_build (ps := []) (v := (dg Oct.dz)) rfl rfl (by kernel_rfl)) ?_
    have hk8 := (hk3).below hb6
    refine Eng.stB (v := (dg Oct.dz)) rfl rfl rfl sz45_ky rfl hk8 rfl rfl (cs' := (bcs Oct.dz)) rfl rfl (bcs_one _) ?_
    intro w9 hk9 hg9
    refine Eng.sv rfl rfl (Eng.x_as (v := (.int .i64 2)) rfl rfl) ?_
    refine Eng.nil ?_
    refine hK7 _ _ ?_
    refine Eng.rt ?_
    refine Eng.tr ?_
    refine Eng.ret (Eng.res2 (v1 := (dg Oct.dz)) (v2 := (.int .i64 2)) rfl (Eng.rdc rfl (Eng.lvB ag45_ky sz45_ky hk9 rfl rfl)) (Eng.rdt rfl)) ?_
    have hB0_2 : Below w.heap.size w w3 := (hb2).trans (hb3.mono (hb2).size)
    have hB0_3 : Below w.heap.size w w6 := (hB0_2).trans (hb6.mono (hB0_2).size)
    have hB0_4 : Below w.heap.size w w9 := (hB0_3).grown hg9 (hB0_3).size (fun k e => by cases e; exact Nat.le_trans (hb2).size (Nat.le_refl _))
    exact ⟨by rw [kpS_no q0], hB0_4⟩
  · skip
    obtain ⟨n, e1, hn, hp⟩ := kh_nat q0
    refine Eng.reg ?_
    refine Eng.sv rfl rfl (Eng.x_mv (v := (.int .i64 h)) rfl rfl) ?_
    refine Eng.sc rfl (Eng.xc (vl := [(.int .i64 h)]) rfl rfl rfl en63_ky) (kheight_is (by simpa using q0) _) ?_
    rintro _ w10 ⟨rfl, hb10⟩
    refine Eng.aft_v rfl ?_
    refine Eng.sv rfl rfl (Eng.x_not (v := (.bool false)) rfl rfl rfl) ?_
    refine Eng.nil ?_
    refine hK5 _ _ ?_
    refine Eng.cond_f rfl ?_
    refine Eng.skp ?_
    refine hK4 _ _ ?_
    refine Eng.seqk fun K11 hK11 => ?_
    refine Eng.reg ?_
    have hk12 := ((hk2).below hb3).below hb10
    refine Eng.sv rfl rfl (Eng.x_ldB (v := (dg sd)) rfl ag45_ky sz45_ky rfl hk12 ((bcs_length _).trans h32) rfl) ?_
    refine Eng.sc rfl (Eng.xc (vl := [(dg sd)]) rfl rfl rfl en65_ky) (seeds_calls sd _ h32) ?_
    rintro _ w13 ⟨b13, rfl, hk13, hl13, hb13⟩
    refine Eng.aft_v rfl ?_
    refine Eng.sv rfl rfl (Eng.x_mv (v := (.int .i64 h)) rfl rfl) ?_
    have hB0_2 : Below w.heap.size w w3 := (hb2).trans (hb3.mono (hb2).size)
    have hB0_3 : Below w.heap.size w w10 := (hB0_2).trans (hb10.mono (hB0_2).size)
    have hB0_4 : Below w.heap.size w w13 := (hB0_3).trans (hb13.mono (hB0_3).size)
    have hr14 := (hKn).below hB0_4
    refine Eng.sc rfl (Eng.xc (vl := [(.func (.func 121) #[] #[(.pointer (some ⟨b13, 0, none⟩))]), (.int .i64 h)]) rfl rfl rfl en64_ky) (leaves_calls b13 n h sd _ h32 e1 hn hp hk13 hr14) ?_
    rintro _ w15 ⟨vx15, rfl, ho15, hb15⟩
    refine Eng.aft_v rfl ?_
    have hB0_5 : Below w.heap.size w w15 := (hB0_4).trans (hb15.mono (hB0_4).size)
    have hr16 := (hKn).below hB0_5
    refine Eng.sc rfl (Eng.xc (vl := [vx15]) rfl rfl rfl en58_ky) (troot_calls _ (lvS sd (2 ^ n)) _ ho15.ds (by rw [lvS_len]; omega) hr16) ?_
    rintro _ w17 ⟨rfl, hb17⟩
    refine Eng.aft_v rfl ?_
    have hk18 := ((((hk3).below hb10).below hb13).below hb15).below hb17
    refine Eng.stB (v := (dg (rootS (lvS sd (2 ^ n))))) rfl rfl rfl sz45_ky rfl hk18 rfl rfl (cs' := (bcs (rootS (lvS sd (2 ^ n))))) rfl ((bcs_length _).trans (root_lv sd hp)) (bcs_one _) ?_
    intro w19 hk19 hg19
    refine Eng.sv rfl rfl (Eng.x_as (v := (.int .i64 0)) rfl rfl) ?_
    refine Eng.nil ?_
    refine hK11 _ _ ?_
    refine Eng.rt ?_
    refine Eng.ret (Eng.res2 (v1 := (dg (rootS (lvS sd (2 ^ n))))) (v2 := (.int .i64 0)) rfl (Eng.rdc rfl (Eng.lvB ag45_ky sz45_ky hk19 ((bcs_length _).trans (root_lv sd hp)) rfl)) (Eng.rdt rfl)) ?_
    have hB0_6 : Below w.heap.size w w17 := (hB0_5).trans (hb17.mono (hB0_5).size)
    have hB0_7 : Below w.heap.size w w19 := (hB0_6).grown hg19 (hB0_6).size (fun k e => by cases e; exact Nat.le_trans (hb2).size (Nat.le_refl _))
    exact ⟨by rw [kpS_yes q0 e1], hB0_7⟩
set_option maxRecDepth 100000 in
set_option maxHeartbeats 4000000 in
theorem rkpub_calls (sd : List UInt8) (h : Int) (w : World) (h32 : sd.length = 32) : Calls Tryd.prog 27 #[(dg sd), (.int .i64 h)] w (fun e w' => e = .returned (.tuple #[dg (kpS sd h).1, .int .i64 (kpS sd h).2]) ∧ Below w.heap.size w w') := by
  refine Eng.enter (l := [(dg sd), (.int .i64 h)]) Tryd.func27 rfl 14 rfl (by simp) ?_
  refine Eng.seqk fun K1 hK1 => ?_
  refine Eng.reg ?_
  refine Eng.bo (v := (dg sd)) (cs := (bcs sd)) rfl rfl rfl rfl rfl ?_
  intro w2 hk2 hb2 hz2
  refine Eng.al rfl rfl rfl zr45_ky (cs := (bcs Oct.dz)) rfl ?_
  intro w3 hk3 hb3 hz3
  refine Eng.sv rfl rfl (Eng.x_as (v := (.int .i64 0)) rfl rfl) ?_
  refine Eng.nil ?_
  refine hK1 _ _ ?_
  refine Eng.seqk fun K4 hK4 => ?_
  refine Eng.seqk fun K5 hK5 => ?_
  by_cases q0 : kh h = false
  · skip
    refine Eng.reg ?_
    refine Eng.sv rfl rfl (Eng.x_mv (v := (.int .i64 h)) rfl rfl) ?_
    refine Eng.sc rfl (Eng.xc (vl := [(.int .i64 h)]) rfl rfl rfl en66_ky) (rkheight_is q0 _) ?_
    rintro _ w6 ⟨rfl, hb6⟩
    refine Eng.aft_v rfl ?_
    refine Eng.sv rfl rfl (Eng.x_not (v := (.bool true)) rfl rfl rfl) ?_
    refine Eng.nil ?_
    refine hK5 _ _ ?_
    refine Eng.cond_t rfl ?_
    refine Eng.seqk fun K7 hK7 => ?_
    refine Eng.reg ?_
    refine Eng.sv rfl rfl (Eng.x_build (ps := []) (v := (dg Oct.dz)) rfl rfl (by kernel_rfl)) ?_
    have hk8 := (hk3).below hb6
    refine Eng.stB (v := (dg Oct.dz)) rfl rfl rfl sz45_ky rfl hk8 rfl rfl (cs' := (bcs Oct.dz)) rfl rfl (bcs_one _) ?_
    intro w9 hk9 hg9
    refine Eng.sv rfl rfl (Eng.x_as (v := (.int .i64 2)) rfl rfl) ?_
    refine Eng.nil ?_
    refine hK7 _ _ ?_
    refine Eng.rt ?_
    refine Eng.tr ?_
    refine Eng.ret (Eng.res2 (v1 := (dg Oct.dz)) (v2 := (.int .i64 2)) rfl (Eng.rdc rfl (Eng.lvB ag45_ky sz45_ky hk9 rfl rfl)) (Eng.rdt rfl)) ?_
    have hB0_2 : Below w.heap.size w w3 := (hb2).trans (hb3.mono (hb2).size)
    have hB0_3 : Below w.heap.size w w6 := (hB0_2).trans (hb6.mono (hB0_2).size)
    have hB0_4 : Below w.heap.size w w9 := (hB0_3).grown hg9 (hB0_3).size (fun k e => by cases e; exact Nat.le_trans (hb2).size (Nat.le_refl _))
    exact ⟨by rw [kpS_no q0], hB0_4⟩
  · skip
    obtain ⟨n, e1, hn, hp⟩ := kh_nat q0
    refine Eng.reg ?_
    refine Eng.sv rfl rfl (Eng.x_mv (v := (.int .i64 h)) rfl rfl) ?_
    refine Eng.sc rfl (Eng.xc (vl := [(.int .i64 h)]) rfl rfl rfl en66_ky) (rkheight_is (by simpa using q0) _) ?_
    rintro _ w10 ⟨rfl, hb10⟩
    refine Eng.aft_v rfl ?_
    refine Eng.sv rfl rfl (Eng.x_not (v := (.bool false)) rfl rfl rfl) ?_
    refine Eng.nil ?_
    refine hK5 _ _ ?_
    refine Eng.cond_f rfl ?_
    refine Eng.skp ?_
    refine hK4 _ _ ?_
    refine Eng.seqk fun K11 hK11 => ?_
    refine Eng.reg ?_
    have hk12 := ((hk2).below hb3).below hb10
    refine Eng.sv rfl rfl (Eng.x_ldB (v := (dg sd)) rfl ag45_ky sz45_ky rfl hk12 ((bcs_length _).trans h32) rfl) ?_
    refine Eng.sv rfl rfl (Eng.x_mv (v := (.int .i64 h)) rfl rfl) ?_
    refine Eng.sc rfl (Eng.xc (vl := [(dg sd), (.int .i64 h)]) rfl rfl rfl en68_ky) (rleaves_calls n h sd _ h32 e1 hn hp) ?_
    rintro _ w13 ⟨vx13, rfl, ho13, hb13⟩
    refine Eng.aft_v rfl ?_
    refine Eng.sc rfl (Eng.xc (vl := [vx13]) rfl rfl rfl en67_ky) (root4_calls _ _ (lvS sd (2 ^ n)) _ ho13.ds rfl (by rw [lvS_len]; omega)) ?_
    rintro _ w14 ⟨rfl, hb14⟩
    refine Eng.aft_v rfl ?_
    have hk15 := (((hk3).below hb10).below hb13).below hb14
    refine Eng.stB (v := (dg (rootS (lvS sd (2 ^ n))))) rfl rfl rfl sz45_ky rfl hk15 rfl rfl (cs' := (bcs (rootS (lvS sd (2 ^ n))))) rfl ((bcs_length _).trans (root_lv sd hp)) (bcs_one _) ?_
    intro w16 hk16 hg16
    refine Eng.sv rfl rfl (Eng.x_as (v := (.int .i64 0)) rfl rfl) ?_
    refine Eng.nil ?_
    refine hK11 _ _ ?_
    refine Eng.rt ?_
    refine Eng.ret (Eng.res2 (v1 := (dg (rootS (lvS sd (2 ^ n))))) (v2 := (.int .i64 0)) rfl (Eng.rdc rfl (Eng.lvB ag45_ky sz45_ky hk16 ((bcs_length _).trans (root_lv sd hp)) rfl)) (Eng.rdt rfl)) ?_
    have hB0_2 : Below w.heap.size w w3 := (hb2).trans (hb3.mono (hb2).size)
    have hB0_3 : Below w.heap.size w w10 := (hB0_2).trans (hb10.mono (hB0_2).size)
    have hB0_4 : Below w.heap.size w w13 := (hB0_3).trans (hb13.mono (hB0_3).size)
    have hB0_5 : Below w.heap.size w w14 := (hB0_4).trans (hb14.mono (hB0_4).size)
    have hB0_6 : Below w.heap.size w w16 := (hB0_5).grown hg16 (hB0_5).size (fun k e => by cases e; exact Nat.le_trans (hb2).size (Nat.le_refl _))
    exact ⟨by rw [kpS_yes q0 e1], hB0_6⟩
set_option maxRecDepth 100000 in
set_option maxHeartbeats 4000000 in
theorem least_calls (h : Int) (w : World) : Calls Tryd.prog 26 #[(.int .i64 h)] w (fun e w' => e = .returned (.int .i64 (lst h)) ∧ Below w.heap.size w w') := by
  refine Eng.enter (l := [(.int .i64 h)]) Tryd.func26 rfl 12 rfl (by simp) ?_
  refine Eng.seqk fun K1 hK1 => ?_
  refine Eng.reg ?_
  refine Eng.sv rfl rfl (Eng.x_as (v := (.int .i64 0)) rfl rfl) ?_
  refine Eng.nil ?_
  refine hK1 _ _ ?_
  refine Eng.seqk fun K2 hK2 => ?_
  refine Eng.seqk fun K3 hK3 => ?_
  by_cases q0 : 3 < h
  · skip
    by_cases q1 : h ≤ 10
    · skip
      refine Eng.reg ?_
      refine Eng.sv rfl rfl (Eng.x_mv (v := (.int .i64 h)) rfl rfl) ?_
      refine Eng.sv rfl rfl (Eng.x_gt (r := true) rfl rfl rfl (decide_eq_true (by omega))) ?_
      refine Eng.sv rfl rfl (Eng.x_mv (v := (.bool true)) rfl rfl) ?_
      refine Eng.sv (Eng.gt rfl rfl rfl rfl) rfl (Eng.x_mv (v := (.int .i64 h)) rfl rfl) ?_
      refine Eng.sv (Eng.gt rfl rfl rfl rfl) rfl (Eng.x_le (r := true) rfl rfl rfl (decide_eq_true (by omega))) ?_
      refine Eng.sv rfl rfl (Eng.x_pick (v := (.bool true)) rfl rfl rfl rfl rfl) ?_
      refine Eng.nil ?_
      refine hK3 _ _ ?_
      refine Eng.cond_t rfl ?_
      refine Eng.seqk fun K4 hK4 => ?_
      refine Eng.reg ?_
      refine Eng.sv rfl rfl (Eng.x_mv (v := (.int .i64 h)) rfl rfl) ?_
      refine Eng.sv rfl rfl (Eng.x_rem rfl rfl rfl (by decide) (r := h.tmod 4) (rfl)) ?_
      refine Eng.sv rfl rfl (Eng.x_as (v := (.int .i64 (h.tmod 4))) rfl rfl) ?_
      refine Eng.nil ?_
      refine hK4 _ _ ?_
      refine Eng.rt ?_
      refine Eng.tr ?_
      refine Eng.ret (Eng.res1 (v1 := (.int .i64 (h.tmod 4))) rfl (Eng.rdt rfl)) ?_
      exact ⟨by unfold lst; rw [if_pos (by omega)], (Below.refl _ _)⟩
    · skip
      refine Eng.reg ?_
      refine Eng.sv rfl rfl (Eng.x_mv (v := (.int .i64 h)) rfl rfl) ?_
      refine Eng.sv rfl rfl (Eng.x_gt (r := true) rfl rfl rfl (decide_eq_true (by omega))) ?_
      refine Eng.sv rfl rfl (Eng.x_mv (v := (.bool true)) rfl rfl) ?_
      refine Eng.sv (Eng.gt rfl rfl rfl rfl) rfl (Eng.x_mv (v := (.int .i64 h)) rfl rfl) ?_
      refine Eng.sv (Eng.gt rfl rfl rfl rfl) rfl (Eng.x_le (r := false) rfl rfl rfl (decide_eq_false (by omega))) ?_
      refine Eng.sv rfl rfl (Eng.x_pick (v := (.bool false)) rfl rfl rfl rfl rfl) ?_
      refine Eng.nil ?_
      refine hK3 _ _ ?_
      refine Eng.cond_f rfl ?_
      refine Eng.skp ?_
      refine hK2 _ _ ?_
      refine Eng.seqk fun K5 hK5 => ?_
      refine Eng.reg ?_
      refine Eng.sv rfl rfl (Eng.x_mv (v := (.int .i64 h)) rfl rfl) ?_
      refine Eng.sv rfl rfl (Eng.x_as (v := (.int .i64 h)) rfl rfl) ?_
      refine Eng.nil ?_
      refine hK5 _ _ ?_
      refine Eng.rt ?_
      refine Eng.ret (Eng.res1 (v1 := (.int .i64 h)) rfl (Eng.rdt rfl)) ?_
      exact ⟨by unfold lst; rw [if_neg (by omega)], (Below.refl _ _)⟩
  · skip
    refine Eng.reg ?_
    refine Eng.sv rfl rfl (Eng.x_mv (v := (.int .i64 h)) rfl rfl) ?_
    refine Eng.sv rfl rfl (Eng.x_gt (r := false) rfl rfl rfl (decide_eq_false (by omega))) ?_
    refine Eng.sv rfl rfl (Eng.x_mv (v := (.bool false)) rfl rfl) ?_
    refine Eng.sg (Eng.gf rfl rfl rfl rfl) rfl ?_
    refine Eng.sg (Eng.gf rfl rfl rfl rfl) rfl ?_
    refine Eng.sv rfl rfl (Eng.x_pick (v := (.bool false)) rfl rfl rfl rfl rfl) ?_
    refine Eng.nil ?_
    refine hK3 _ _ ?_
    refine Eng.cond_f rfl ?_
    refine Eng.skp ?_
    refine hK2 _ _ ?_
    refine Eng.seqk fun K6 hK6 => ?_
    refine Eng.reg ?_
    refine Eng.sv rfl rfl (Eng.x_mv (v := (.int .i64 h)) rfl rfl) ?_
    refine Eng.sv rfl rfl (Eng.x_as (v := (.int .i64 h)) rfl rfl) ?_
    refine Eng.nil ?_
    refine hK6 _ _ ?_
    refine Eng.rt ?_
    refine Eng.ret (Eng.res1 (v1 := (.int .i64 h)) rfl (Eng.rdt rfl)) ?_
    exact ⟨by unfold lst; rw [if_neg (by omega)], (Below.refl _ _)⟩
set_option maxRecDepth 100000 in
set_option maxHeartbeats 4000000 in
theorem knames_calls (w : World) : Calls Tryd.prog 28 #[] w (fun e w' => e = .returned (.bool true) ∧ Below w.heap.size w w') := by
  refine Eng.enter (l := []) Tryd.func28 rfl 1 rfl (by simp) ?_
  refine Eng.seqk fun K1 hK1 => ?_
  refine Eng.reg ?_
  refine Eng.sv rfl rfl (Eng.x_as (v := (.bool false)) rfl rfl) ?_
  refine Eng.nil ?_
  refine hK1 _ _ ?_
  refine Eng.seqk fun K2 hK2 => ?_
  refine Eng.reg ?_
  refine Eng.sv rfl rfl (Eng.x_as (v := (.bool true)) rfl rfl) ?_
  refine Eng.nil ?_
  refine hK2 _ _ ?_
  refine Eng.rt ?_
  refine Eng.ret (Eng.res1 (v1 := (.bool true)) rfl (Eng.rdt rfl)) ?_
  exact ⟨rfl, (Below.refl _ _)⟩
set_option maxRecDepth 100000 in
set_option maxHeartbeats 4000000 in
theorem publics_law (sd : List UInt8) (h : Int) (w : World) (h32 : sd.length = 32) (hKn : Kon w) : Calls Tryd.prog 7 #[(.agg ((bcs sd) ++ [(.int .i64 h)] : List Value).toArray)] w (fun e w' => e = .returned (.bool true) ∧ Below w.heap.size w w') := by
  obtain ⟨xP0, hxP0⟩ : ∃ x, x = (Value.agg ((bcs sd) ++ [(.int .i64 h)] : List Value).toArray) := ⟨_, rfl⟩
  rw [← hxP0]
  refine Eng.enter (l := [xP0]) Tryd.func7 rfl 36 rfl (by simp) ?_
  subst hxP0
  refine Eng.seqk fun K1 hK1 => ?_
  refine Eng.reg ?_
  refine Eng.bo (v := (.agg ((bcs sd) ++ [(.int .i64 h)] : List Value).toArray)) (cs := ((bcs sd) ++ [(.int .i64 h)])) rfl rfl rfl rfl rfl ?_
  intro w2 hk2 hb2 hz2
  refine Eng.sv rfl rfl (Eng.x_as (v := (.bool false)) rfl rfl) ?_
  refine Eng.nil ?_
  refine hK1 _ _ ?_
  refine Eng.seqk fun K3 hK3 => ?_
  have hr5 := (hKn).below hb2
  refine Eng.drawL 11 10 [8] [fun vQ _ => vQ = (.pointer (some ⟨w.heap.size, 0, none⟩)), fun vQ _ => vQ = (dg sd), fun vQ _ => vQ = (.pointer (some ⟨w.heap.size, 32, none⟩)), fun vQ _ => vQ = (.int .i64 h), fun vQ _ => vQ = (.int .i64 (lst h)), fun vQ _ => vQ = (.tuple #[(dg ((kpS sd (lst h)).1)), (.int .i64 ((kpS sd (lst h)).2))]), fun vQ _ => vQ = (.tuple #[(dg ((kpS sd (lst h)).1)), (.int .i64 ((kpS sd (lst h)).2))]), fun vQ _ => vQ = (dg ((kpS sd (lst h)).1)), fun vQ _ => vQ = (.int .i64 ((kpS sd (lst h)).2)), fun (v : Value) (W : World) => ∃ g, v = .pointer (some ⟨g, 0, none⟩) ∧ Blk W g 45 (bcs Oct.dz) ∧ w2.heap.size ≤ g, fun (_ : Value) (_ : World) => True] (fun (uP : Nat → Value) (V W : World) => ∃ g, uP 3 = .pointer (some ⟨g, 0, none⟩) ∧ V.grownBy W (some g) ∧ Blk W g 45 (bcs ((kpS sd (lst h)).1)) ∧ w2.heap.size ≤ g) (by kernel_rfl) (by kernel_rfl) (by kernel_rfl) (by kernel_rfl) (by kernel_rfl) (by kernel_rfl) rfl (by kernel_rfl) rfl rfl ?_ rfl ?_ ?_ ?_
  · exact ⟨fun _ _ _ _ h _ _ => h, fun _ _ _ _ h _ _ => h, fun _ _ _ _ h _ _ => h, fun _ _ _ _ h _ _ => h, fun _ _ _ _ h _ _ => h, fun _ _ _ _ h _ _ => h, fun _ _ _ _ h _ _ => h, fun _ _ _ _ h _ _ => h, fun _ _ _ _ h _ _ => h, fun hE v W W' ⟨g, h1, h2, h3⟩ h0 hb => ⟨g, h1, Eng.blk_grL h2 hb (fun hm => Nat.lt_irrefl _ (Nat.lt_of_lt_of_le (hE _ hm) h3)), h3⟩, fun _ _ _ _ _ _ _ => trivial, trivial⟩
  · refine ⟨?_, ?_, ?_, ?_, ?_, ?_, ?_, ?_, ?_, ?_, ?_, trivial⟩
    · refine ⟨fun h_ => absurd h_ (by decide), fun _ => ?_⟩
      intro u' W hbW hkp hdp hEd K hK
      have hK := Eng.sdv rfl hK
      refine Eng.dv rfl rfl ?_ (hK _ _ (Below.refl _ _) rfl)
      exact (Eng.x_fa (v := (.pointer (some ⟨w.heap.size, 0, none⟩))) rfl (show Eng.opv 36 u' (.tmp 1) = (.pointer (some ⟨w.heap.size, 0, none⟩)) from hkp 1 rfl) (by kernel_rfl))
    · refine ⟨fun h_ => absurd h_ (by decide), fun _ => ?_⟩
      intro u' W hbW hkp hdp hEd K hK
      have e0 : u' 8 = (.pointer (some ⟨w.heap.size, 0, none⟩)) := hdp.1
      have hK := Eng.sdv rfl hK
      refine Eng.dv rfl rfl ?_ (hK _ _ (Below.refl _ _) rfl)
      exact (Eng.x_ldA (v := (dg sd)) rfl ag45_ky sz45_ky (show Eng.opv 36 u' (.tmp 8) = (.pointer (some ⟨w.heap.size, 0, none⟩)) from e0) ((bcs_length _).trans h32) (Eng.blk_head (mid := (bcs sd)) (Eng.blk_grL (hk2) hbW Eng.nin_nil)) rfl)
    · refine ⟨fun h_ => absurd h_ (by decide), fun _ => ?_⟩
      intro u' W hbW hkp hdp hEd K hK
      have hK := Eng.sdv rfl hK
      refine Eng.dv rfl rfl ?_ (hK _ _ (Below.refl _ _) rfl)
      exact (Eng.x_fa (v := (.pointer (some ⟨w.heap.size, 32, none⟩))) rfl (show Eng.opv 36 u' (.tmp 1) = (.pointer (some ⟨w.heap.size, 0, none⟩)) from hkp 1 rfl) (by kernel_rfl))
    · refine ⟨fun h_ => absurd h_ (by decide), fun _ => ?_⟩
      intro u' W hbW hkp hdp hEd K hK
      have e2 : u' 10 = (.pointer (some ⟨w.heap.size, 32, none⟩)) := hdp.1
      have hK := Eng.sdv rfl hK
      refine Eng.dv rfl rfl ?_ (hK _ _ (Below.refl _ _) rfl)
      exact (Eng.x_ld1 (v := (.int .i64 h)) rfl ag3_ky (show Eng.opv 36 u' (.tmp 10) = (.pointer (some ⟨w.heap.size, 32, none⟩)) from e2) (Eng.blk_one (pre := (bcs sd)) (Eng.blk_grL (hk2) hbW Eng.nin_nil) (Eng.len_dg h32)))
    · refine ⟨fun h_ => absurd h_ (by decide), fun _ => ?_⟩
      intro u' W hbW hkp hdp hEd K hK
      have e3 : u' 11 = (.int .i64 h) := hdp.1
      have hK := Eng.sdv rfl hK
      refine Eng.dc (vs := #[(.int .i64 h)]) rfl ?_ (least_calls h _) ?_
      · exact Eng.xc (xs := #[(Go.Operand.tmp 11)]) (vl := [(.int .i64 h)]) rfl rfl (Eng.lc (show Eng.opv 36 u' (.tmp 11) = (.int .i64 h) from e3) rfl) en26_ky
      rintro _ W2 ⟨rfl, hb2⟩
      exact Eng.aft_v rfl (hK _ _ hb2 rfl)
    · refine ⟨fun h_ => absurd h_ (by decide), fun _ => ?_⟩
      intro u' W hbW hkp hdp hEd K hK
      have e1 : u' 9 = (dg sd) := hdp.1
      have e4 : u' 12 = (.int .i64 (lst h)) := hdp.2.1
      have hK := Eng.sdv rfl hK
      refine Eng.dc (vs := #[(dg sd), (.int .i64 (lst h))]) rfl ?_ (kpub_calls sd (lst h) _ h32 ((hKn).below (Eng.bel_grL (hb2) hbW (hb2).size Eng.le_nil))) ?_
      · exact Eng.xc (xs := #[(Go.Operand.tmp 9), (Go.Operand.tmp 12)]) (vl := [(dg sd), (.int .i64 (lst h))]) rfl rfl (Eng.lc (show Eng.opv 36 u' (.tmp 9) = (dg sd) from e1) (Eng.lc (show Eng.opv 36 u' (.tmp 12) = (.int .i64 (lst h)) from e4) rfl)) en25_ky
      rintro _ W2 ⟨rfl, hb2⟩
      exact Eng.aft_v rfl (hK _ _ hb2 rfl)
    · refine ⟨fun h_ => absurd h_ (by decide), fun _ => ?_⟩
      intro u' W hbW hkp hdp hEd K hK
      have e5 : u' 13 = (.tuple #[(dg ((kpS sd (lst h)).1)), (.int .i64 ((kpS sd (lst h)).2))]) := hdp.1
      have hK := Eng.sdv rfl hK
      refine Eng.dv rfl rfl ?_ (hK _ _ (Below.refl _ _) rfl)
      exact (Eng.x_mv (v := (.tuple #[(dg ((kpS sd (lst h)).1)), (.int .i64 ((kpS sd (lst h)).2))])) rfl (show Eng.opv 36 u' (.tmp 13) = (.tuple #[(dg ((kpS sd (lst h)).1)), (.int .i64 ((kpS sd (lst h)).2))]) from e5))
    · refine ⟨fun h_ => absurd h_ (by decide), fun _ => ?_⟩
      intro u' W hbW hkp hdp hEd K hK
      have e6 : u' 7 = (.tuple #[(dg ((kpS sd (lst h)).1)), (.int .i64 ((kpS sd (lst h)).2))]) := hdp.1
      have hK := Eng.sdv rfl hK
      refine Eng.dv rfl rfl ?_ (hK _ _ (Below.refl _ _) rfl)
      exact (Eng.x_ext (v := (dg ((kpS sd (lst h)).1))) rfl (show Eng.opv 36 u' (.tmp 7) = (.tuple #[(dg ((kpS sd (lst h)).1)), (.int .i64 ((kpS sd (lst h)).2))]) from e6) rfl)
    · refine ⟨fun h_ => absurd h_ (by decide), fun _ => ?_⟩
      intro u' W hbW hkp hdp hEd K hK
      have e6 : u' 7 = (.tuple #[(dg ((kpS sd (lst h)).1)), (.int .i64 ((kpS sd (lst h)).2))]) := hdp.1
      have hK := Eng.sdv rfl hK
      refine Eng.dv rfl rfl ?_ (hK _ _ (Below.refl _ _) rfl)
      exact (Eng.x_ext (v := (.int .i64 ((kpS sd (lst h)).2))) rfl (show Eng.opv 36 u' (.tmp 7) = (.tuple #[(dg ((kpS sd (lst h)).1)), (.int .i64 ((kpS sd (lst h)).2))]) from e6) rfl)
    · refine ⟨fun h_ => absurd h_ (by decide), fun _ => ?_⟩
      intro u' W hbW hkp hdp hEd K hK
      have hK := Eng.sdv rfl hK
      exact Eng.dv rfl rfl (Eng.x_al rfl zr45_ky) (hK _ _ (Eng.below_al _ _) ⟨_, rfl, Eng.blk_al _ _ _ rfl, hbW.size⟩)
    · refine ⟨fun _ => ?_, fun h_ => absurd h_ (by decide)⟩
      intro u' W hbV hkp hdp K hK
      have hbW := Eng.GrL.of_below (E := []) (w := w2) hbV
      obtain ⟨gd4_9, e9, hkx9, hlx9⟩ : (fun (v : Value) (W : World) => ∃ g, v = .pointer (some ⟨g, 0, none⟩) ∧ Blk W g 45 (bcs Oct.dz) ∧ w2.heap.size ≤ g) (u' 3) W := hdp.1
      have e7 : u' 14 = (dg ((kpS sd (lst h)).1)) := hdp.2.1
      refine Eng.sstB (FL := []) (BL := [⟨gd4_9, 45, (bcs Oct.dz), [(10, (bcs ((kpS sd (lst h)).1)))]⟩]) (i := 10) (v := (dg ((kpS sd (lst h)).1))) rfl rfl rfl sz45_ky rfl rfl (show Eng.opv 36 u' (.tmp 3) = (.pointer (some ⟨gd4_9, 0, none⟩)) from e9) hkx9 rfl (show Eng.opv 36 u' (.tmp 14) = (dg ((kpS sd (lst h)).1)) from e7) rfl ((bcs_length _).trans (kpS_len _ _)) (bcs_one _) ?_
      exact Eng.outS_st rfl (fun W2 hgr hk2 => hK W2 ⟨gd4_9, e9, hgr, hk2, hlx9⟩)
  · refine ⟨?_, trivial⟩
    · refine ⟨fun uP v V W ⟨g, h1, h2⟩ => ⟨g, (Eng.upd_other uP 15 v 3 (by decide)).trans h1, h2⟩, fun o ho u' V W hdp K hK => ?_⟩
      obtain rfl := Eng.someInj ho
      have e6 : u' 7 = (.tuple #[(dg ((kpS sd (lst h)).1)), (.int .i64 ((kpS sd (lst h)).2))]) := hdp.1
      refine Eng.dv rfl rfl ?_ (hK _ rfl)
      exact (Eng.x_ext (v := (.int .i64 ((kpS sd (lst h)).2))) rfl (show Eng.opv 36 u' (.tmp 7) = (.tuple #[(dg ((kpS sd (lst h)).1)), (.int .i64 ((kpS sd (lst h)).2))]) from e6) rfl)
  · intro ud4 w4 wB4 hb4 hkp4 ⟨f4_0, f4_1, f4_2, f4_3, f4_4, f4_5, f4_6, f4_7, f4_8, ⟨gd4_9, f4_9, hkd4_9, hld4_9⟩, _, _⟩ ⟨gP4, eP4, hgP4, hkP4, hlP4⟩
    obtain rfl := Eng.collectS (l := [(8, (.pointer (some ⟨w.heap.size, 0, none⟩))), (9, (dg sd)), (10, (.pointer (some ⟨w.heap.size, 32, none⟩))), (11, (.int .i64 h)), (12, (.int .i64 (lst h))), (13, (.tuple #[(dg ((kpS sd (lst h)).1)), (.int .i64 ((kpS sd (lst h)).2))])), (7, (.tuple #[(dg ((kpS sd (lst h)).1)), (.int .i64 ((kpS sd (lst h)).2))])), (14, (dg ((kpS sd (lst h)).1))), (15, (.int .i64 ((kpS sd (lst h)).2))), (3, (.pointer (some ⟨gP4, 0, none⟩)))]) hkp4 ⟨f4_0, f4_1, f4_2, f4_3, f4_4, f4_5, f4_6, f4_7, f4_8, eP4, trivial⟩ rfl
    refine Eng.sv rfl rfl (Eng.x_as (v := (.int .i64 ((kpS sd (lst h)).2))) rfl rfl) ?_
    refine Eng.nil ?_
    refine hK3 _ _ ?_
    refine Eng.seqk fun K6 hK6 => ?_
    have hk8 := ((hk2).below hb4).grown hgP4 (fun e => absurd (Option.some.inj e) (Nat.ne_of_lt (Nat.lt_of_lt_of_le hz2 (Nat.le_trans (Nat.le_refl _) hlP4))))
    refine Eng.drawL 11 10 [8] [fun vQ _ => vQ = (.pointer (some ⟨w.heap.size, 0, none⟩)), fun vQ _ => vQ = (dg sd), fun vQ _ => vQ = (.pointer (some ⟨w.heap.size, 32, none⟩)), fun vQ _ => vQ = (.int .i64 h), fun vQ _ => vQ = (.int .i64 (lst h)), fun vQ _ => vQ = (.tuple #[(dg ((kpS sd (lst h)).1)), (.int .i64 ((kpS sd (lst h)).2))]), fun vQ _ => vQ = (.tuple #[(dg ((kpS sd (lst h)).1)), (.int .i64 ((kpS sd (lst h)).2))]), fun vQ _ => vQ = (dg ((kpS sd (lst h)).1)), fun vQ _ => vQ = (.int .i64 ((kpS sd (lst h)).2)), fun (v : Value) (W : World) => ∃ g, v = .pointer (some ⟨g, 0, none⟩) ∧ Blk W g 45 (bcs Oct.dz) ∧ wB4.heap.size ≤ g, fun (_ : Value) (_ : World) => True] (fun (uP : Nat → Value) (V W : World) => ∃ g, uP 5 = .pointer (some ⟨g, 0, none⟩) ∧ V.grownBy W (some g) ∧ Blk W g 45 (bcs ((kpS sd (lst h)).1)) ∧ wB4.heap.size ≤ g) (by kernel_rfl) (by kernel_rfl) (by kernel_rfl) (by kernel_rfl) (by kernel_rfl) (by kernel_rfl) rfl (by kernel_rfl) rfl rfl ?_ rfl ?_ ?_ ?_
    · exact ⟨fun _ _ _ _ h _ _ => h, fun _ _ _ _ h _ _ => h, fun _ _ _ _ h _ _ => h, fun _ _ _ _ h _ _ => h, fun _ _ _ _ h _ _ => h, fun _ _ _ _ h _ _ => h, fun _ _ _ _ h _ _ => h, fun _ _ _ _ h _ _ => h, fun _ _ _ _ h _ _ => h, fun hE v W W' ⟨g, h1, h2, h3⟩ h0 hb => ⟨g, h1, Eng.blk_grL h2 hb (fun hm => Nat.lt_irrefl _ (Nat.lt_of_lt_of_le (hE _ hm) h3)), h3⟩, fun _ _ _ _ _ _ _ => trivial, trivial⟩
    · refine ⟨?_, ?_, ?_, ?_, ?_, ?_, ?_, ?_, ?_, ?_, ?_, trivial⟩
      · refine ⟨fun h_ => absurd h_ (by decide), fun _ => ?_⟩
        intro u' W hbW hkp hdp hEd K hK
        have hK := Eng.sdv rfl hK
        refine Eng.dv rfl rfl ?_ (hK _ _ (Below.refl _ _) rfl)
        exact (Eng.x_fa (v := (.pointer (some ⟨w.heap.size, 0, none⟩))) rfl (show Eng.opv 36 u' (.tmp 1) = (.pointer (some ⟨w.heap.size, 0, none⟩)) from hkp 1 rfl) (by kernel_rfl))
      · refine ⟨fun h_ => absurd h_ (by decide), fun _ => ?_⟩
        intro u' W hbW hkp hdp hEd K hK
        have e0 : u' 17 = (.pointer (some ⟨w.heap.size, 0, none⟩)) := hdp.1
        have hK := Eng.sdv rfl hK
        refine Eng.dv rfl rfl ?_ (hK _ _ (Below.refl _ _) rfl)
        exact (Eng.x_ldA (v := (dg sd)) rfl ag45_ky sz45_ky (show Eng.opv 36 u' (.tmp 17) = (.pointer (some ⟨w.heap.size, 0, none⟩)) from e0) ((bcs_length _).trans h32) (Eng.blk_head (mid := (bcs sd)) (Eng.blk_grL (hk8) hbW Eng.nin_nil)) rfl)
      · refine ⟨fun h_ => absurd h_ (by decide), fun _ => ?_⟩
        intro u' W hbW hkp hdp hEd K hK
        have hK := Eng.sdv rfl hK
        refine Eng.dv rfl rfl ?_ (hK _ _ (Below.refl _ _) rfl)
        exact (Eng.x_fa (v := (.pointer (some ⟨w.heap.size, 32, none⟩))) rfl (show Eng.opv 36 u' (.tmp 1) = (.pointer (some ⟨w.heap.size, 0, none⟩)) from hkp 1 rfl) (by kernel_rfl))
      · refine ⟨fun h_ => absurd h_ (by decide), fun _ => ?_⟩
        intro u' W hbW hkp hdp hEd K hK
        have e2 : u' 19 = (.pointer (some ⟨w.heap.size, 32, none⟩)) := hdp.1
        have hK := Eng.sdv rfl hK
        refine Eng.dv rfl rfl ?_ (hK _ _ (Below.refl _ _) rfl)
        exact (Eng.x_ld1 (v := (.int .i64 h)) rfl ag3_ky (show Eng.opv 36 u' (.tmp 19) = (.pointer (some ⟨w.heap.size, 32, none⟩)) from e2) (Eng.blk_one (pre := (bcs sd)) (Eng.blk_grL (hk8) hbW Eng.nin_nil) (Eng.len_dg h32)))
      · refine ⟨fun h_ => absurd h_ (by decide), fun _ => ?_⟩
        intro u' W hbW hkp hdp hEd K hK
        have e3 : u' 20 = (.int .i64 h) := hdp.1
        have hK := Eng.sdv rfl hK
        refine Eng.dc (vs := #[(.int .i64 h)]) rfl ?_ (least_calls h _) ?_
        · exact Eng.xc (xs := #[(Go.Operand.tmp 20)]) (vl := [(.int .i64 h)]) rfl rfl (Eng.lc (show Eng.opv 36 u' (.tmp 20) = (.int .i64 h) from e3) rfl) en26_ky
        rintro _ W2 ⟨rfl, hb2⟩
        exact Eng.aft_v rfl (hK _ _ hb2 rfl)
      · refine ⟨fun h_ => absurd h_ (by decide), fun _ => ?_⟩
        intro u' W hbW hkp hdp hEd K hK
        have e1 : u' 18 = (dg sd) := hdp.1
        have e4 : u' 21 = (.int .i64 (lst h)) := hdp.2.1
        have hK := Eng.sdv rfl hK
        refine Eng.dc (vs := #[(dg sd), (.int .i64 (lst h))]) rfl ?_ (rkpub_calls sd (lst h) _ h32) ?_
        · exact Eng.xc (xs := #[(Go.Operand.tmp 18), (Go.Operand.tmp 21)]) (vl := [(dg sd), (.int .i64 (lst h))]) rfl rfl (Eng.lc (show Eng.opv 36 u' (.tmp 18) = (dg sd) from e1) (Eng.lc (show Eng.opv 36 u' (.tmp 21) = (.int .i64 (lst h)) from e4) rfl)) en27_ky
        rintro _ W2 ⟨rfl, hb2⟩
        exact Eng.aft_v rfl (hK _ _ hb2 rfl)
      · refine ⟨fun h_ => absurd h_ (by decide), fun _ => ?_⟩
        intro u' W hbW hkp hdp hEd K hK
        have e5 : u' 22 = (.tuple #[(dg ((kpS sd (lst h)).1)), (.int .i64 ((kpS sd (lst h)).2))]) := hdp.1
        have hK := Eng.sdv rfl hK
        refine Eng.dv rfl rfl ?_ (hK _ _ (Below.refl _ _) rfl)
        exact (Eng.x_mv (v := (.tuple #[(dg ((kpS sd (lst h)).1)), (.int .i64 ((kpS sd (lst h)).2))])) rfl (show Eng.opv 36 u' (.tmp 22) = (.tuple #[(dg ((kpS sd (lst h)).1)), (.int .i64 ((kpS sd (lst h)).2))]) from e5))
      · refine ⟨fun h_ => absurd h_ (by decide), fun _ => ?_⟩
        intro u' W hbW hkp hdp hEd K hK
        have e6 : u' 16 = (.tuple #[(dg ((kpS sd (lst h)).1)), (.int .i64 ((kpS sd (lst h)).2))]) := hdp.1
        have hK := Eng.sdv rfl hK
        refine Eng.dv rfl rfl ?_ (hK _ _ (Below.refl _ _) rfl)
        exact (Eng.x_ext (v := (dg ((kpS sd (lst h)).1))) rfl (show Eng.opv 36 u' (.tmp 16) = (.tuple #[(dg ((kpS sd (lst h)).1)), (.int .i64 ((kpS sd (lst h)).2))]) from e6) rfl)
      · refine ⟨fun h_ => absurd h_ (by decide), fun _ => ?_⟩
        intro u' W hbW hkp hdp hEd K hK
        have e6 : u' 16 = (.tuple #[(dg ((kpS sd (lst h)).1)), (.int .i64 ((kpS sd (lst h)).2))]) := hdp.1
        have hK := Eng.sdv rfl hK
        refine Eng.dv rfl rfl ?_ (hK _ _ (Below.refl _ _) rfl)
        exact (Eng.x_ext (v := (.int .i64 ((kpS sd (lst h)).2))) rfl (show Eng.opv 36 u' (.tmp 16) = (.tuple #[(dg ((kpS sd (lst h)).1)), (.int .i64 ((kpS sd (lst h)).2))]) from e6) rfl)
      · refine ⟨fun h_ => absurd h_ (by decide), fun _ => ?_⟩
        intro u' W hbW hkp hdp hEd K hK
        have hK := Eng.sdv rfl hK
        exact Eng.dv rfl rfl (Eng.x_al rfl zr45_ky) (hK _ _ (Eng.below_al _ _) ⟨_, rfl, Eng.blk_al _ _ _ rfl, hbW.size⟩)
      · refine ⟨fun _ => ?_, fun h_ => absurd h_ (by decide)⟩
        intro u' W hbV hkp hdp K hK
        have hbW := Eng.GrL.of_below (E := []) (w := wB4) hbV
        obtain ⟨gd7_9, e9, hkx9, hlx9⟩ : (fun (v : Value) (W : World) => ∃ g, v = .pointer (some ⟨g, 0, none⟩) ∧ Blk W g 45 (bcs Oct.dz) ∧ wB4.heap.size ≤ g) (u' 5) W := hdp.1
        have e7 : u' 23 = (dg ((kpS sd (lst h)).1)) := hdp.2.1
        refine Eng.sstB (FL := []) (BL := [⟨gd7_9, 45, (bcs Oct.dz), [(10, (bcs ((kpS sd (lst h)).1)))]⟩]) (i := 10) (v := (dg ((kpS sd (lst h)).1))) rfl rfl rfl sz45_ky rfl rfl (show Eng.opv 36 u' (.tmp 5) = (.pointer (some ⟨gd7_9, 0, none⟩)) from e9) hkx9 rfl (show Eng.opv 36 u' (.tmp 23) = (dg ((kpS sd (lst h)).1)) from e7) rfl ((bcs_length _).trans (kpS_len _ _)) (bcs_one _) ?_
        exact Eng.outS_st rfl (fun W2 hgr hk2 => hK W2 ⟨gd7_9, e9, hgr, hk2, hlx9⟩)
    · refine ⟨?_, trivial⟩
      · refine ⟨fun uP v V W ⟨g, h1, h2⟩ => ⟨g, (Eng.upd_other uP 24 v 5 (by decide)).trans h1, h2⟩, fun o ho u' V W hdp K hK => ?_⟩
        obtain rfl := Eng.someInj ho
        have e6 : u' 16 = (.tuple #[(dg ((kpS sd (lst h)).1)), (.int .i64 ((kpS sd (lst h)).2))]) := hdp.1
        refine Eng.dv rfl rfl ?_ (hK _ rfl)
        exact (Eng.x_ext (v := (.int .i64 ((kpS sd (lst h)).2))) rfl (show Eng.opv 36 u' (.tmp 16) = (.tuple #[(dg ((kpS sd (lst h)).1)), (.int .i64 ((kpS sd (lst h)).2))]) from e6) rfl)
    · intro ud7 w7 wB7 hb7 hkp7 ⟨f7_0, f7_1, f7_2, f7_3, f7_4, f7_5, f7_6, f7_7, f7_8, ⟨gd7_9, f7_9, hkd7_9, hld7_9⟩, _, _⟩ ⟨gP7, eP7, hgP7, hkP7, hlP7⟩
      obtain rfl := Eng.collectS (l := [(17, (.pointer (some ⟨w.heap.size, 0, none⟩))), (18, (dg sd)), (19, (.pointer (some ⟨w.heap.size, 32, none⟩))), (20, (.int .i64 h)), (21, (.int .i64 (lst h))), (22, (.tuple #[(dg ((kpS sd (lst h)).1)), (.int .i64 ((kpS sd (lst h)).2))])), (16, (.tuple #[(dg ((kpS sd (lst h)).1)), (.int .i64 ((kpS sd (lst h)).2))])), (23, (dg ((kpS sd (lst h)).1))), (24, (.int .i64 ((kpS sd (lst h)).2))), (5, (.pointer (some ⟨gP7, 0, none⟩)))]) hkp7 ⟨f7_0, f7_1, f7_2, f7_3, f7_4, f7_5, f7_6, f7_7, f7_8, eP7, trivial⟩ rfl
      refine Eng.sv rfl rfl (Eng.x_as (v := (.int .i64 ((kpS sd (lst h)).2))) rfl rfl) ?_
      refine Eng.nil ?_
      refine hK6 _ _ ?_
      refine Eng.seqk fun K9 hK9 => ?_
      refine Eng.reg ?_
      have hk10 := ((hkP4).below hb7).grown hgP7 (fun e => absurd (Option.some.inj e) (Nat.ne_of_lt (Nat.lt_of_lt_of_le (hkP4).lt (Nat.le_trans (Nat.le_refl _) hlP7))))
      refine Eng.sv rfl rfl (Eng.x_ldB (v := (dg ((kpS sd (lst h)).1))) rfl ag45_ky sz45_ky rfl hk10 ((bcs_length _).trans (kpS_len _ _)) rfl) ?_
      refine Eng.sv rfl rfl (Eng.x_ldB (v := (dg ((kpS sd (lst h)).1))) rfl ag45_ky sz45_ky rfl hkP7 ((bcs_length _).trans (kpS_len _ _)) rfl) ?_
      refine Eng.sv rfl rfl (Eng.x_eqA (p := ((kpS sd (lst h)).1)) (q := ((kpS sd (lst h)).1)) (r := true) rfl Tryd.underlying45 Tryd.underlying5 sz5_ky (by kernel_rfl) rfl rfl (kpS_len _ _) (kpS_len _ _) (by simp)) ?_
      refine Eng.sv rfl rfl (Eng.x_mv (v := (.bool true)) rfl rfl) ?_
      refine Eng.sv (Eng.gt rfl rfl rfl rfl) rfl (Eng.x_mv (v := (.int .i64 ((kpS sd (lst h)).2))) rfl rfl) ?_
      refine Eng.sv (Eng.gt rfl rfl rfl rfl) rfl (Eng.x_mv (v := (.int .i64 ((kpS sd (lst h)).2))) rfl rfl) ?_
      refine Eng.sv (Eng.gt rfl rfl rfl rfl) rfl (Eng.x_eq (r := true) rfl rfl rfl (Eng.eq_t (rfl))) ?_
      refine Eng.sv rfl rfl (Eng.x_pick (v := (.bool true)) rfl rfl rfl rfl rfl) ?_
      refine Eng.sv rfl rfl (Eng.x_mv (v := (.bool true)) rfl rfl) ?_
      refine Eng.sc (Eng.gt rfl rfl rfl rfl) (Eng.xc (vl := []) rfl rfl rfl en28_ky) (knames_calls _) ?_
      rintro _ w11 ⟨rfl, hb11⟩
      refine Eng.aft_v rfl ?_
      refine Eng.sv rfl rfl (Eng.x_pick (v := (.bool true)) rfl rfl rfl rfl rfl) ?_
      refine Eng.sv rfl rfl (Eng.x_as (v := (.bool true)) rfl rfl) ?_
      refine Eng.nil ?_
      refine hK9 _ _ ?_
      refine Eng.rt ?_
      refine Eng.ret (Eng.res1 (v1 := (.bool true)) rfl (Eng.rdt rfl)) ?_
      have hB0_2 : Below w.heap.size w w4 := (hb2).trans (hb4.mono (hb2).size)
      have hB0_3 : Below w.heap.size w wB4 := (hB0_2).grown hgP4 (hB0_2).size (fun k e => by cases e; exact Nat.le_trans (hb2).size hlP4)
      have hB0_4 : Below w.heap.size w w7 := (hB0_3).trans (hb7.mono (hB0_3).size)
      have hB0_5 : Below w.heap.size w wB7 := (hB0_4).grown hgP7 (hB0_4).size (fun k e => by cases e; exact Nat.le_trans (hB0_3).size hlP7)
      have hB0_6 : Below w.heap.size w w11 := (hB0_5).trans (hb11.mono (hB0_5).size)
      exact ⟨rfl, hB0_6⟩
end Go.Proofs.YtnecgoahdkfbeaaDoor.Mac
end

section
namespace Go.Proofs.YtnecgoahdkfbeaaDoor.Eng
open Go Go.RowKit Go.Proofs.YtnecgoahdkfbeaaDoor.Cop Go.Proofs.YtnecgoahdkfbeaaDoor.Oct
set_option linter.unusedVariables false
set_option linter.unusedSimpArgs false
/-- The cells of numbers. -/
def ics (l : List Nat) : List Value := l.map fun x : Nat => Value.int .i64 (x : Int)
theorem ics_len {l : List Nat} {n : Nat} (h : l.length = n) : (ics l).length = n := by simp [ics, h]
theorem ics_one (l : List Nat) : ∀ u ∈ ics l, u.oneCell' = true := by
  intro u hu
  obtain ⟨x, _, rfl⟩ := List.mem_map.1 hu
  rfl
theorem ics_at {l : List Nat} {j : Nat} (h : j < l.length) : (ics l)[j]? = some (.int .i64 ((l.getD j 0 : Nat) : Int)) := by
  unfold ics
  rw [List.getElem?_map, List.getElem?_eq_getElem h, List.getD_eq_getElem?_getD, List.getElem?_eq_getElem h]
  rfl
theorem ics_set (l : List Nat) (j x : Nat) : (ics l).set j (.int .i64 (x : Int)) = ics (l.set j x) := by simp [ics, List.map_set]
theorem bcs_atD {l : List UInt8} {j : Nat} (h : j < l.length) : (bcs l)[j]? = some (.int .u8 ((l.getD j 0).toNat : Int)) := by
  unfold bcs
  rw [List.getElem?_map, List.getElem?_eq_getElem h, List.getD_eq_getElem?_getD, List.getElem?_eq_getElem h]
  rfl
theorem add1 (g j : Nat) : (⟨g, 0, none⟩ : Addr).add (j * 1) = ⟨g, j, none⟩ := by rw [Nat.mul_one]; exact addr_add g j
section
variable {r : Option (Option Nat)} {P : Program} {ops : Array Oper} {rest : List Oper} {o : Oper} {Q : Exit → Act → World → Prop} {N : Nat} {u : Nat → Value} {dl : List Deferred} {w : World} {ρ : Operand → Value}
/-- A number of an array in a block is written. -/
theorem stI (hg : Region.wanted o (yielded ops (fr N u)) = true) (hd : o.dst = none) {t : TypeId} {x y : Operand} (ho : o.op = .store t x y) (hs : (P.info? t).map (fun i => i.size) = some 1) {g : Nat} {T : TypeId} {l : List Nat} (hk : Blk w g T (ics l)) {j : Nat} (hj : j < l.length) (hx : opv N u x = .pointer (some ⟨g, j, none⟩)) {b : Nat} (hy : opv N u y = .int .i64 (b : Int))
    (h : ∀ w', Blk w' g T (ics (l.set j b)) → w.grownBy w' (some g) → wpS r P ops Q rest (act N u dl) w') : wpS r P ops Q (o :: rest) (act N u dl) w :=
  stC (v := .int .i64 (b : Int)) (cs' := ics (l.set j b)) hg hd ho hs hx hk (by rw [ics_len rfl]; exact hj) hy rfl rfl (ics_set l j b) h
/-- A number of an array's value. -/
theorem x_ixI {t e : TypeId} {n : Nat} {x i : Operand} (ho : o.op = .index t x i) (ht : P.underlying t = some (.array n e)) (hs : (P.info? e).map (fun i => i.size) = some 1) (hag : ∀ w, (isAgg e).run P w = .ok false w) {l : List Nat} (hl : l.length = n) (hx : ρ x = .agg (ics l).toArray) {k : IntKind} {iv : Int} (hi : ρ i = .int k iv) {j : Nat} (hj : iv = (j : Int)) (hlt : j < n) : (execOp ρ o).run P w = .ok (.value (.int .i64 ((l.getD j 0 : Nat) : Int))) w := by
  subst hj
  have hat := ics_at (l := l) (j := j) (by omega)
  have e1 : (j : Int) < (n : Int) := by omega
  have e2 : ¬ n ≤ j := by omega
  have hrun : (Instr.index t (.agg (ics l).toArray) (.int k (j : Int))).run P w = .ok (.int .i64 ((l.getD j 0 : Nat) : Int)) w := by
    simp [Instr.index, asIntOf, run_underlying ht, e1, e2, hlt, Cop.run_sizeOf hs, part, hag, hat]
  unfold execOp
  simp [ho, hx, hi, hrun, Result.andThen]
end
/-- A slice cut with three bounds. -/
def sCut3 (v : Value) (l h m sz : Nat) : Value :=
  match v with
  | .slice a _ _ => .slice (if m = l then a else a.map (·.add (l * sz))) (h - l) (m - l)
  | v => v
theorem Row.cut3 {w : World} {v : Value} {n sz : Nat} {cs : List Value} (hr : Row w v n cs) (hl : cs.length = n * sz) {l h m : Nat} (h1 : l ≤ h) (h2 : h ≤ m) (h3 : m ≤ n) : Row w (sCut3 v l h m sz) (h - l) ((cs.drop (l * sz)).take ((h - l) * sz)) := by
  obtain ⟨ao, cap, rfl, q1, q2, q3, q4⟩ := hr
  refine ⟨_, _, rfl, by omega, by omega, ?_, ?_⟩
  · intro hnone
    split at hnone
    · have hz : h - l = 0 := by omega
      exact ⟨by omega, by rw [hz]; simp⟩
    · cases ao with
      | none => obtain ⟨rfl, rfl⟩ := q3 rfl; exact ⟨by omega, by simp⟩
      | some _ => simp at hnone
  · intro ad had j u hu
    rw [List.getElem?_take] at hu
    split at hu
    · rename_i hj
      rw [List.getElem?_drop] at hu
      have hne : ¬ m = l := by
        intro e
        have : h - l = 0 := by omega
        rw [this] at hj
        omega
      rw [if_neg hne] at had
      cases ao with
      | none => simp at had
      | some ad0 =>
        simp at had
        subst had
        have := q4 ad0 rfl _ _ hu
        rwa [show (ad0.add (l * sz)).add j = ad0.add (l * sz + j) from by unfold Addr.add; by_cases ha : l * sz = 0 <;> by_cases hb : j = 0 <;> simp [ha, hb, Nat.add_assoc]]
    · cases hu
theorem rd_cut3 {w : World} {v : Value} {bs : List UInt8} (h : Rd w v bs) {l hh m : Nat} (h1 : l ≤ hh) (h2 : hh ≤ m) (h3 : m ≤ bs.length) : Rd w (sCut3 v l hh m 1) ((bs.drop l).take (hh - l)) := by
  have := Row.cut3 (sz := 1) h (by rw [Nat.mul_one]; exact bcs_length bs) h1 h2 h3
  rw [Nat.mul_one, Nat.mul_one] at this
  have e : ((bs.drop l).take (hh - l)).length = hh - l := by rw [List.length_take, List.length_drop]; omega
  unfold Rd
  rw [e]
  have e2 : bcs ((bs.drop l).take (hh - l)) = ((bcs bs).drop l).take (hh - l) := by simp [bcs, List.map_take, List.map_drop]
  rw [e2]; exact this
section
variable {r : Option (Option Nat)} {P : Program} {ops : Array Oper} {rest : List Oper} {o : Oper} {Q : Exit → Act → World → Prop} {N : Nat} {u : Nat → Value} {dl : List Deferred} {w : World} {ρ : Operand → Value}
theorem x_sl3 {t e : TypeId} {x lo hi mx : Operand} (ho : o.op = .slice t x (some lo) (some hi) (some mx)) (ht : P.underlying t = some (.slice e)) {sz : Nat} (hs : (P.info? e).map (fun i => i.size) = some sz) {v : Value} (hx : ρ x = v) {n : Nat} {cs : List Value} (hr : Row w v n cs) (l h m : Nat) {k1 k2 k3 : IntKind} (hlo : ρ lo = .int k1 (l : Int)) (hhi : ρ hi = .int k2 (h : Int)) (hmx : ρ mx = .int k3 (m : Int)) (h1 : l ≤ h) (h2 : h ≤ m) (h3 : m ≤ n) : (execOp ρ o).run P w = .ok (.value (sCut3 v l h m sz)) w := by
  obtain ⟨ao, cap, rfl, q1, q2, q3, q4⟩ := hr
  have hrun : (Instr.sliceAt t (.slice ao n cap) (some (.int k1 (l : Int))) (some (.int k2 (h : Int))) (some (.int k3 (m : Int)))).run P w = .ok (sCut3 (.slice ao n cap) l h m sz) w := by
    have hsz := Cop.run_sizeOf hs w
    have e1 : (l : Int) ≤ (h : Int) := by omega
    have e2 : (h : Int) ≤ (m : Int) := by omega
    have e3 : (m : Int) ≤ (cap : Int) := by omega
    have e4 : ¬ cap < m := by omega
    have e5 : ¬ h < l := by omega
    have e6 : ¬ m < h := by omega
    have e7 : m ≤ cap := by omega
    simp [Instr.sliceAt, run_underlying ht, Instr.slice, Instr.sliceBounds, Instr.sliceBound, asIntOf, hsz, e1, e2, e3, h1, h2, e4, e5, e6, e7, sCut3]
  unfold execOp; rw [ho]
  simp [hx, hlo, hhi, hmx, hrun, Result.andThen]
/-- A byte of an array in a block is written. -/
theorem stAB (hg : Region.wanted o (yielded ops (fr N u)) = true) (hd : o.dst = none) {t : TypeId} {x y : Operand} (ho : o.op = .store t x y) (hs : (P.info? t).map (fun i => i.size) = some 1) {g : Nat} {T : TypeId} {l : List UInt8} (hk : Blk w g T (bcs l)) {j : Nat} (hj : j < l.length) (hx : opv N u x = .pointer (some ⟨g, j, none⟩)) {b : UInt8} (hy : opv N u y = .int .u8 (b.toNat : Int))
    (h : ∀ w', Blk w' g T (bcs (l.set j b)) → w.grownBy w' (some g) → wpS r P ops Q rest (act N u dl) w') : wpS r P ops Q (o :: rest) (act N u dl) w :=
  stC (v := .int .u8 (b.toNat : Int)) (cs' := bcs (l.set j b)) hg hd ho hs hx hk (by rw [bcs_length]; exact hj) hy rfl rfl (by simp [bcs, List.map_set]) h
end
end Go.Proofs.YtnecgoahdkfbeaaDoor.Eng
end

section
namespace Go.Proofs.YtnecgoahdkfbeaaDoor.Mac
open Go Go.RowKit Go.Proofs.YtnecgoahdkfbeaaDoor Go.Proofs.YtnecgoahdkfbeaaDoor.Cop Go.Proofs.YtnecgoahdkfbeaaDoor.Oct Go.Proofs.YtnecgoahdkfbeaaDoor.Tid
set_option linter.unusedVariables false
set_option linter.unusedSimpArgs false
theorem zr200_dgt (w : World) : (zeroValue 200).run Tryd.prog w = .ok (.agg (Eng.ics (List.replicate 133 0)).toArray) w := by kernel_rfl
theorem sz5_dgt : (Tryd.prog.info? 5).map (fun i => i.size) = some 1 := by kernel_rfl
theorem ag5_dgt (w : World) : (isAgg 5).run Tryd.prog w = .ok false w := by kernel_rfl
theorem sz3_dgt : (Tryd.prog.info? 3).map (fun i => i.size) = some 1 := by kernel_rfl
theorem ag3_dgt (w : World) : (isAgg 3).run Tryd.prog w = .ok false w := by kernel_rfl
theorem ag200_dgt (w : World) : (isAgg 200).run Tryd.prog w = .ok true w := by kernel_rfl
theorem sz200_dgt : (Tryd.prog.info? 200).map (fun i => i.size) = some 133 := by kernel_rfl
/-- The i-th digit of a digest; what lacks in the first n of them; all numbers. -/
def dig (d : List UInt8) (i : Nat) : Nat := (d.getD (i / 4) 0).toNat / 2 ^ (6 - 2 * (i % 4)) % 4
theorem dig_lt (d : List UInt8) (i : Nat) : dig d i < 4 := Nat.mod_lt _ (by decide)
def sumD (d : List UInt8) : Nat → Nat
  | 0 => 0
  | n + 1 => sumD d n + (3 - dig d n)
theorem sumD_le (d : List UInt8) : ∀ n, sumD d n ≤ 3 * n
  | 0 => Nat.le_refl _
  | n + 1 => by have := sumD_le d n; unfold sumD; omega
def dgs (d : List UInt8) (i : Nat) : List Nat := (List.range i).map (dig d)
theorem dgs_len (d : List UInt8) (i : Nat) : (dgs d i).length = i := by simp [dgs]
theorem dgs_succ (d : List UInt8) (i : Nat) : dgs d (i + 1) = dgs d i ++ [dig d i] := by simp [dgs, List.range_succ]
/-- The last k numbers. -/
def fin (s : Nat) : Nat → List Nat
  | 0 => []
  | k + 1 => s / 4 ^ k % 4 :: fin s k
theorem fin_len (s : Nat) : ∀ k, (fin s k).length = k
  | 0 => rfl
  | k + 1 => by simp [fin, fin_len s k]
theorem fin_lt (s : Nat) : ∀ k, ∀ x ∈ fin s k, x < 4
  | k + 1, x, h => by
    rcases List.mem_cons.1 h with rfl | h
    · exact Nat.mod_lt _ (by decide)
    · exact fin_lt s k x h
def mid1 (d : List UInt8) (i : Nat) : List Nat := dgs d i ++ List.replicate (133 - i) 0
def mid2 (d : List UInt8) (s k : Nat) : List Nat := dgs d 128 ++ (List.replicate (5 - k) 0 ++ fin s k)
def digits (d : List UInt8) : List Nat := mid2 d (sumD d 128) 5
theorem mid1_len (d : List UInt8) {i : Nat} (h : i ≤ 133) : (mid1 d i).length = 133 := by simp [mid1, dgs_len]; omega
theorem mid2_len (d : List UInt8) (s : Nat) {k : Nat} (h : k ≤ 5) : (mid2 d s k).length = 133 := by simp [mid2, dgs_len, fin_len]; omega
theorem digits_len (d : List UInt8) : (digits d).length = 133 := mid2_len d _ (Nat.le_refl _)
theorem digits_lt (d : List UInt8) : ∀ x ∈ digits d, x < 4 := by
  intro x h
  unfold digits mid2 at h
  rcases List.mem_append.1 h with h | h
  · unfold dgs at h
    obtain ⟨i, _, rfl⟩ := List.mem_map.1 h
    exact dig_lt d i
  · simp at h
    exact fin_lt _ _ x h
theorem mid1_zero (d : List UInt8) : mid1 d 0 = List.replicate 133 0 := rfl
theorem set_at {α : Type} (A B : List α) (x y : α) {j : Nat} (h : j = A.length) : (A ++ x :: B).set j y = A ++ y :: B := by subst h; simp
theorem mid1_set (d : List UInt8) {i : Nat} (h : i < 133) : (mid1 d i).set i (dig d i) = mid1 d (i + 1) := by
  unfold mid1
  rw [show 133 - i = (133 - (i + 1)) + 1 by omega, List.replicate_succ, set_at _ _ _ _ (dgs_len d i).symm, dgs_succ, List.append_assoc]
  rfl
theorem mid1_get (d : List UInt8) {i : Nat} : (mid1 d (i + 1)).getD i 0 = dig d i := by
  unfold mid1
  rw [List.getD_eq_getElem?_getD, List.getElem?_append_left (by rw [dgs_len]; omega), dgs_succ, List.getElem?_append_right (by rw [dgs_len]; omega), dgs_len, Nat.sub_self]
  rfl
theorem mid_two (d : List UInt8) (s : Nat) : mid1 d 128 = mid2 d s 0 := by simp [mid1, mid2, fin]
theorem mid2_set (d : List UInt8) (s : Nat) {k j : Nat} (h : k < 5) (hj : j = 132 - k) : (mid2 d s k).set j (s / 4 ^ k % 4) = mid2 d s (k + 1) := by
  have e : List.replicate (5 - k) 0 = List.replicate (5 - (k + 1)) 0 ++ [0] := by rw [show 5 - k = (5 - (k + 1)) + 1 by omega, List.replicate_succ']
  unfold mid2
  rw [e, List.append_assoc, ← List.append_assoc (dgs d 128)]
  show (dgs d 128 ++ List.replicate (5 - (k + 1)) 0 ++ 0 :: fin s k).set j _ = _
  rw [set_at _ _ _ _ (by simp [dgs_len]; omega), List.append_assoc]
  rfl
theorem shr_any {kk : IntKind} {a b : Int} {x y : Nat} (ha : a = (x : Int)) (hb : b = (y : Int)) (hy : y ≤ kk.bits) : a.fdiv (2 ^ (min b.toNat kk.bits)) = ((x / 2 ^ y : Nat) : Int) := by
  subst ha hb
  rw [Int.toNat_natCast, Nat.min_eq_left hy, two_i, fdiv_nat]
theorem four_pow (k : Nat) : 2 ^ (2 * k) = 4 ^ k := by rw [Nat.pow_mul]
set_option maxRecDepth 100000 in
set_option maxHeartbeats 4000000 in
theorem digits_calls (d : List UInt8) (w : World) (hd : d.length = 32) : Calls Tryd.prog 129 #[(dg d)] w (fun e w' => e = .returned (.agg (Eng.ics (digits d)).toArray) ∧ Below w.heap.size w w') := by
  refine Eng.enter (l := [(dg d)]) Tryd.func129 rfl 43 rfl (by simp) ?_
  refine Eng.seqk fun K1 hK1 => ?_
  refine Eng.reg ?_
  refine Eng.bo (v := (dg d)) (cs := (bcs d)) rfl rfl rfl rfl rfl ?_
  intro w2 hk2 hb2 hz2
  refine Eng.al rfl rfl rfl zr200_dgt (cs := (Eng.ics (List.replicate 133 0))) rfl ?_
  intro w3 hk3 hb3 hz3
  refine Eng.nil ?_
  refine hK1 _ _ ?_
  refine Eng.seqk fun K4 hK4 => ?_
  refine Eng.reg ?_
  refine Eng.al rfl rfl rfl zr200_dgt (cs := (Eng.ics (List.replicate 133 0))) rfl ?_
  intro w5 hk5 hb5 hz5
  refine Eng.nil ?_
  refine hK4 _ _ ?_
  refine Eng.seqk fun K6 hK6 => ?_
  refine Eng.reg ?_
  refine Eng.sv rfl rfl (Eng.x_as (v := (.int .i64 0)) rfl rfl) ?_
  refine Eng.nil ?_
  refine hK6 _ _ ?_
  refine Eng.seqk fun K7 hK7 => ?_
  refine Eng.seqk fun K8 hK8 => ?_
  refine Eng.reg ?_
  refine Eng.sv rfl rfl (Eng.x_mv (v := (.int .i64 0)) rfl rfl) ?_
  refine Eng.nil ?_
  refine hK8 _ _ ?_
  refine Eng.blk ?_
  have hk10 := ((hk2).below hb3).below hb5
  have hk11 := (hk3).below hb5
  have hB0_2 : Below w.heap.size w w3 := (hb2).trans (hb3.mono (hb2).size)
  have hB0_3 : Below w.heap.size w w5 := (hB0_2).trans (hb5.mono (hB0_2).size)
  refine Eng.loopN (fun zz u w' => ∃ (i : Nat), zz = 128 - i ∧ i ≤ 128 ∧ Eng.Has u [(1, (.pointer (some ⟨w.heap.size, 0, none⟩))), (2, (.pointer (some ⟨w2.heap.size, 0, none⟩))), (3, (.pointer (some ⟨w3.heap.size, 0, none⟩))), (4, (.int .i64 (sumD d i : Int))), (7, (.int .i64 (i : Int)))] ∧ Below w.heap.size w w' ∧ w5.heap.size ≤ w'.heap.size ∧ Blk w' w.heap.size 45 (bcs d) ∧ Blk w' w2.heap.size 200 (Eng.ics (List.replicate 133 0)) ∧ Blk w' w3.heap.size 200 (Eng.ics (mid1 d i))) _ ⟨0, rfl, by omega, ⟨rfl, rfl, rfl, (Eng.ie (by first | omega | rfl)), (Eng.ie (by first | omega | rfl)), trivial⟩, hB0_3, (Nat.le_refl _), hk10, hk11, hk5⟩ ?_
  rintro _ u9 w9 ⟨i, rfl, hs9_0, hH9, hBL9, hzL9, hkL9_0, hkL9_1, hkL9_2⟩ K9 hK9
  obtain ⟨u9, rfl⟩ := hH9.ex
  have hsl := sumD_le d i
  have hdl := dig_lt d i
  have hmg := mid1_get d (i := i)
  have hss : sumD d (i + 1) = sumD d i + (3 - dig d i) := rfl
  have hbt := (d.getD (i / 4) 0).toNat_lt
  have hbq : ((d.getD (i / 4) 0).toNat / 2 ^ (6 - 2 * (i % 4)) : Nat) ≤ (d.getD (i / 4) 0).toNat := Nat.div_le_self _ _
  refine Eng.seqk fun K12 hK12 => ?_
  refine Eng.reg ?_
  by_cases h8 : ((i : Int) : Int) < 128
  · skip
    refine Eng.sv rfl rfl (Eng.x_lt (r := true) rfl rfl rfl (decide_eq_true (by omega))) ?_
    refine Eng.nil ?_
    refine hK12 _ _ ?_
    refine Eng.seqk fun K13 hK13 => ?_
    refine Eng.cond_t rfl ?_
    refine Eng.skp ?_
    refine hK13 _ _ ?_
    refine Eng.seqk fun K14 hK14 => ?_
    refine Eng.blk ?_
    refine Eng.seqk fun K15 hK15 => ?_
    refine Eng.reg ?_
    refine Eng.sv rfl rfl (Eng.x_mv (v := (.int .i64 (i : Int))) rfl rfl) ?_
    refine Eng.sv rfl rfl (Eng.x_as (v := (.int .i64 (i : Int))) rfl rfl) ?_
    refine Eng.nil ?_
    refine hK15 _ _ ?_
    refine Eng.seqk fun K16 hK16 => ?_
    refine Eng.reg ?_
    refine Eng.sv rfl rfl (Eng.x_mv (v := (.int .i64 (i : Int))) rfl rfl) ?_
    refine Eng.sv rfl rfl (Eng.x_mv (v := (.int .i64 (i : Int))) rfl rfl) ?_
    refine Eng.sv rfl rfl (Eng.x_quo rfl rfl rfl (by decide) (r := ((i / 4 : Nat) : Int)) (Eng.w64 ⟨tdiv_nat i 4, by omega, by omega⟩)) ?_
    refine Eng.sv rfl rfl (Eng.x_iaA (j := (i / 4)) rfl Tryd.underlying45 sz5_dgt rfl rfl (rfl) (by omega) (Eng.add1 _ _)) ?_
    refine Eng.sv rfl rfl (Eng.x_ld1 (v := (.int .u8 (((d).getD (i / 4) 0).toNat : Int))) rfl ag5_dgt rfl (((hkL9_0).cell (i / 4)).trans (Eng.bcs_atD (by omega)))) ?_
    refine Eng.sv rfl rfl (Eng.x_mv (v := (.int .i64 (i : Int))) rfl rfl) ?_
    refine Eng.sv rfl rfl (Eng.x_rem rfl rfl rfl (by decide) (r := ((i % 4 : Nat) : Int)) (tmod_nat i 4)) ?_
    refine Eng.sv rfl rfl (Eng.x_mul rfl rfl rfl (Eng.w64 (r := ((2 * (i % 4) : Nat) : Int)) (by omega))) ?_
    refine Eng.sv rfl rfl (Eng.x_sub rfl rfl rfl (Eng.w64 (r := ((6 - 2 * (i % 4) : Nat) : Int)) (by omega))) ?_
    refine Eng.sv rfl rfl (Eng.x_shr rfl rfl rfl (by omega) (r := (((d.getD (i / 4) 0).toNat / 2 ^ (6 - 2 * (i % 4)) : Nat) : Int)) (shr_any (kk := .u8) rfl rfl (show 6 - 2 * (i % 4) ≤ 8 by omega))) ?_
    refine Eng.sv rfl rfl (Eng.x_conv rfl Tryd.underlying5 Tryd.underlying3 rfl (Eng.w64 (r := (((d.getD (i / 4) 0).toNat / 2 ^ (6 - 2 * (i % 4)) : Nat) : Int)) (⟨rfl, Int.le_trans (by decide) (Int.natCast_nonneg _), by omega⟩))) ?_
    refine Eng.sv rfl rfl (Eng.x_bits (v := (.int .i64 (dig d i : Int))) rfl (by simp) rfl rfl (and_eq (k := 2) ((d.getD (i / 4) 0).toNat / 2 ^ (6 - 2 * (i % 4)) : Nat) (by omega) (by omega) _ _ rfl)) ?_
    refine Eng.sv rfl rfl (Eng.x_iaA (j := i) rfl Tryd.underlying200 sz3_dgt rfl rfl (rfl) (by omega) (Eng.add1 _ _)) ?_
    refine Eng.stI (j := i) (b := dig d i) rfl rfl rfl sz3_dgt hkL9_2 (by rw [mid1_len d (by omega)]; omega) rfl rfl ?_
    intro w17 hk17 hg17
    rw [mid1_set d (by omega)] at hk17
    refine Eng.nil ?_
    refine hK16 _ _ ?_
    refine Eng.reg ?_
    refine Eng.sv rfl rfl (Eng.x_mv (v := (.int .i64 (sumD d i : Int))) rfl rfl) ?_
    refine Eng.sv rfl rfl (Eng.x_mv (v := (.int .i64 (i : Int))) rfl rfl) ?_
    refine Eng.sv rfl rfl (Eng.x_iaA (j := i) rfl Tryd.underlying200 sz3_dgt rfl rfl (rfl) (by omega) (Eng.add1 _ _)) ?_
    refine Eng.sv rfl rfl (Eng.x_ld1 (v := (.int .i64 ((((mid1 d (i + 1))).getD i 0 : Nat) : Int))) rfl ag3_dgt rfl (((hk17).cell i).trans (Eng.ics_at (by rw [mid1_len d (by omega)]; omega)))) ?_
    refine Eng.sv rfl rfl (Eng.x_sub rfl rfl rfl (Eng.w64 (r := ((3 - dig d i : Nat) : Int)) (by omega))) ?_
    refine Eng.sv rfl rfl (Eng.x_add rfl rfl rfl (Eng.w64 (r := (sumD d (i + 1) : Int)) (by omega))) ?_
    refine Eng.sv rfl rfl (Eng.x_as (v := (.int .i64 (sumD d (i + 1) : Int))) rfl rfl) ?_
    refine Eng.nil ?_
    refine Eng.nb ?_
    refine hK14 _ _ ?_
    refine Eng.reg ?_
    refine Eng.sv rfl rfl (Eng.x_add rfl rfl rfl (Eng.w64 (r := ((i + 1 : Nat) : Int)) (by omega))) ?_
    refine Eng.sv rfl rfl (Eng.x_mv (v := (.int .i64 ((i + 1 : Nat) : Int))) rfl rfl) ?_
    refine Eng.nil ?_
    have hB0_5 : Below w.heap.size w w17 := (hBL9).grown hg17 (hBL9).size (fun k e => by cases e; exact Nat.le_trans (hB0_2).size (Nat.le_refl _))
    have hk18 := (hkL9_0).grown hg17 (fun e => absurd (Option.some.inj e) (Nat.ne_of_lt (Nat.lt_of_lt_of_le hz2 (Nat.le_trans (hb3).size (Nat.le_refl _)))))
    have hk19 := (hkL9_1).grown hg17 (fun e => absurd (Option.some.inj e) (Nat.ne_of_lt (Nat.lt_of_lt_of_le hz3 (Nat.le_trans (Nat.le_refl _) (Nat.le_refl _)))))
    exact hK9 _ _ _ ⟨i + 1, rfl, by omega, ⟨rfl, rfl, rfl, rfl, (Eng.ie (by first | omega | rfl)), trivial⟩, hB0_5, (Nat.le_trans hzL9 (hg17).size), hk18, hk19, hk17⟩ (by omega)
  · skip
    refine Eng.sv rfl rfl (Eng.x_lt (r := false) rfl rfl rfl (decide_eq_false (by omega))) ?_
    refine Eng.nil ?_
    refine hK12 _ _ ?_
    refine Eng.seqk fun K20 hK20 => ?_
    refine Eng.cond_f rfl ?_
    refine Eng.xt ?_
    refine Eng.te ?_
    refine Eng.te ?_
    refine Eng.be ?_
    refine hK7 _ _ ?_
    refine Eng.seqk fun K21 hK21 => ?_
    refine Eng.seqk fun K22 hK22 => ?_
    refine Eng.reg ?_
    refine Eng.sv rfl rfl (Eng.x_mv (v := (.int .i64 0)) rfl rfl) ?_
    refine Eng.nil ?_
    refine hK22 _ _ ?_
    refine Eng.blk ?_
    have hi8 : i = 128 := by omega
    have hs8 : sumD d i = sumD d 128 := by rw [hi8]
    have hkm := hkL9_2
    rw [hi8, mid_two d (sumD d 128)] at hkm
    refine Eng.loopN (fun zz u w' => ∃ (k : Nat), zz = 5 - k ∧ k ≤ 5 ∧ Eng.Has u [(2, (.pointer (some ⟨w2.heap.size, 0, none⟩))), (3, (.pointer (some ⟨w3.heap.size, 0, none⟩))), (4, (.int .i64 (sumD d 128 : Int))), (30, (.int .i64 (k : Int)))] ∧ Below w.heap.size w w' ∧ w9.heap.size ≤ w'.heap.size ∧ Blk w' w2.heap.size 200 (Eng.ics (List.replicate 133 0)) ∧ Blk w' w3.heap.size 200 (Eng.ics (mid2 d (sumD d 128) k))) _ ⟨0, rfl, by omega, ⟨rfl, rfl, (Eng.ie (by first | omega | rfl)), (Eng.ie (by first | omega | rfl)), trivial⟩, hBL9, (Nat.le_refl _), hkL9_1, hkm⟩ ?_
    rintro _ u23 w23 ⟨k, rfl, hs23_0, hH23, hBL23, hzL23, hkL23_0, hkL23_1⟩ K23 hK23
    obtain ⟨u23, rfl⟩ := hH23.ex
    have hsl := sumD_le d 128
    have hsq : sumD d 128 / 2 ^ (2 * k) ≤ sumD d 128 := Nat.div_le_self _ _
    have hsq2 : sumD d 128 / 4 ^ (k + 1) ≤ sumD d 128 := Nat.div_le_self _ _
    have hsq0 : sumD d 128 / 4 ^ 0 = sumD d 128 := by simp
    refine Eng.seqk fun K24 hK24 => ?_
    refine Eng.reg ?_
    by_cases h31 : ((k : Int) : Int) < 5
    · skip
      refine Eng.sv rfl rfl (Eng.x_lt (r := true) rfl rfl rfl (decide_eq_true (by omega))) ?_
      refine Eng.nil ?_
      refine hK24 _ _ ?_
      refine Eng.seqk fun K25 hK25 => ?_
      refine Eng.cond_t rfl ?_
      refine Eng.skp ?_
      refine hK25 _ _ ?_
      refine Eng.seqk fun K26 hK26 => ?_
      refine Eng.blk ?_
      refine Eng.seqk fun K27 hK27 => ?_
      refine Eng.reg ?_
      refine Eng.sv rfl rfl (Eng.x_mv (v := (.int .i64 (k : Int))) rfl rfl) ?_
      refine Eng.sv rfl rfl (Eng.x_as (v := (.int .i64 (k : Int))) rfl rfl) ?_
      refine Eng.nil ?_
      refine hK27 _ _ ?_
      refine Eng.reg ?_
      refine Eng.sv rfl rfl (Eng.x_mv (v := (.int .i64 (k : Int))) rfl rfl) ?_
      refine Eng.sv rfl rfl (Eng.x_sub rfl rfl rfl (Eng.w64 (r := ((132 - k : Nat) : Int)) (by omega))) ?_
      refine Eng.sv rfl rfl (Eng.x_mv (v := (.int .i64 (sumD d 128 : Int))) rfl rfl) ?_
      refine Eng.sv rfl rfl (Eng.x_mv (v := (.int .i64 (k : Int))) rfl rfl) ?_
      refine Eng.sv rfl rfl (Eng.x_mul rfl rfl rfl (Eng.w64 (r := ((2 * k : Nat) : Int)) (by omega))) ?_
      refine Eng.sv rfl rfl (Eng.x_shr rfl rfl rfl (by omega) (r := ((sumD d 128 / 2 ^ (2 * k) : Nat) : Int)) (shr_eq rfl rfl (by omega))) ?_
      refine Eng.sv rfl rfl (Eng.x_bits (v := (.int .i64 ((sumD d 128 / 4 ^ k % 4 : Nat) : Int))) rfl (by simp) rfl rfl (by rw [← four_pow]; exact and_eq (k := 2) (sumD d 128 / 2 ^ (2 * k)) (by omega) (by omega) _ _ rfl)) ?_
      refine Eng.sv rfl rfl (Eng.x_iaA (j := (132 - k)) rfl Tryd.underlying200 sz3_dgt rfl rfl (rfl) (by omega) (Eng.add1 _ _)) ?_
      refine Eng.stI (j := (132 - k)) (b := (sumD d 128 / 4 ^ k % 4 : Nat)) rfl rfl rfl sz3_dgt hkL23_1 (by rw [mid2_len d _ (by omega)]; omega) rfl rfl ?_
      intro w28 hk28 hg28
      rw [mid2_set d _ (by omega) rfl] at hk28
      refine Eng.nil ?_
      refine Eng.nb ?_
      refine hK26 _ _ ?_
      refine Eng.reg ?_
      refine Eng.sv rfl rfl (Eng.x_add rfl rfl rfl (Eng.w64 (r := ((k + 1 : Nat) : Int)) (by omega))) ?_
      refine Eng.sv rfl rfl (Eng.x_mv (v := (.int .i64 ((k + 1 : Nat) : Int))) rfl rfl) ?_
      refine Eng.nil ?_
      have hB0_6 : Below w.heap.size w w28 := (hBL23).grown hg28 (hBL23).size (fun k e => by cases e; exact Nat.le_trans (hB0_2).size (Nat.le_refl _))
      have hk29 := (hkL23_0).grown hg28 (fun e => absurd (Option.some.inj e) (Nat.ne_of_lt (Nat.lt_of_lt_of_le hz3 (Nat.le_trans (Nat.le_refl _) (Nat.le_refl _)))))
      exact hK23 _ _ _ ⟨k + 1, rfl, by omega, ⟨rfl, rfl, rfl, (Eng.ie (by first | omega | rfl)), trivial⟩, hB0_6, (Nat.le_trans hzL23 (hg28).size), hk29, hk28⟩ (by omega)
    · skip
      refine Eng.sv rfl rfl (Eng.x_lt (r := false) rfl rfl rfl (decide_eq_false (by omega))) ?_
      refine Eng.nil ?_
      refine hK24 _ _ ?_
      refine Eng.seqk fun K30 hK30 => ?_
      refine Eng.cond_f rfl ?_
      refine Eng.xt ?_
      refine Eng.te ?_
      refine Eng.te ?_
      refine Eng.be ?_
      refine hK21 _ _ ?_
      refine Eng.seqk fun K31 hK31 => ?_
      refine Eng.reg ?_
      refine Eng.sv rfl rfl (Eng.x_ldB (v := (.agg (Eng.ics (mid2 d (sumD d 128) k)).toArray)) rfl ag200_dgt sz200_dgt rfl hkL23_1 (Eng.ics_len (mid2_len d _ (by omega))) rfl) ?_
      refine Eng.stB (v := (.agg (Eng.ics (mid2 d (sumD d 128) k)).toArray)) rfl rfl rfl sz200_dgt rfl hkL23_0 (Eng.ics_len List.length_replicate) rfl (cs' := (Eng.ics (mid2 d (sumD d 128) k))) rfl (Eng.ics_len (mid2_len d _ (by omega))) (Eng.ics_one _) ?_
      intro w32 hk32 hg32
      refine Eng.nil ?_
      refine hK31 _ _ ?_
      refine Eng.rt ?_
      refine Eng.ret (Eng.res1 (v1 := (.agg (Eng.ics (mid2 d (sumD d 128) k)).toArray)) rfl (Eng.rdc rfl (Eng.lvB ag200_dgt sz200_dgt hk32 (Eng.ics_len (mid2_len d _ (by omega))) rfl))) ?_
      have hk5 : k = 5 := by omega
      have hB0_6 : Below w.heap.size w w32 := (hBL23).grown hg32 (hBL23).size (fun k e => by cases e; exact Nat.le_trans (hb2).size (Nat.le_refl _))
      exact ⟨by rw [hk5]; rfl, hB0_6⟩
set_option maxRecDepth 100000 in
set_option maxHeartbeats 4000000 in
theorem rdigits_calls (d : List UInt8) (w : World) (hd : d.length = 32) : Calls Tryd.prog 137 #[(dg d)] w (fun e w' => e = .returned (.agg (Eng.ics (digits d)).toArray) ∧ Below w.heap.size w w') := by
  refine Eng.enter (l := [(dg d)]) Tryd.func137 rfl 42 rfl (by simp) ?_
  refine Eng.seqk fun K1 hK1 => ?_
  refine Eng.reg ?_
  refine Eng.bo (v := (dg d)) (cs := (bcs d)) rfl rfl rfl rfl rfl ?_
  intro w2 hk2 hb2 hz2
  refine Eng.al rfl rfl rfl zr200_dgt (cs := (Eng.ics (List.replicate 133 0))) rfl ?_
  intro w3 hk3 hb3 hz3
  refine Eng.nil ?_
  refine hK1 _ _ ?_
  refine Eng.seqk fun K4 hK4 => ?_
  refine Eng.reg ?_
  refine Eng.al rfl rfl rfl zr200_dgt (cs := (Eng.ics (List.replicate 133 0))) rfl ?_
  intro w5 hk5 hb5 hz5
  refine Eng.nil ?_
  refine hK4 _ _ ?_
  refine Eng.seqk fun K6 hK6 => ?_
  refine Eng.reg ?_
  refine Eng.sv rfl rfl (Eng.x_as (v := (.int .i64 0)) rfl rfl) ?_
  refine Eng.nil ?_
  refine hK6 _ _ ?_
  refine Eng.seqk fun K7 hK7 => ?_
  refine Eng.seqk fun K8 hK8 => ?_
  refine Eng.reg ?_
  refine Eng.sv rfl rfl (Eng.x_as (v := (.int .i64 0)) rfl rfl) ?_
  refine Eng.nil ?_
  refine hK8 _ _ ?_
  refine Eng.blk ?_
  have hk10 := ((hk2).below hb3).below hb5
  have hk11 := (hk3).below hb5
  have hB0_2 : Below w.heap.size w w3 := (hb2).trans (hb3.mono (hb2).size)
  have hB0_3 : Below w.heap.size w w5 := (hB0_2).trans (hb5.mono (hB0_2).size)
  refine Eng.loopN (fun zz u w' => ∃ (i : Nat), zz = 128 - i ∧ i ≤ 128 ∧ Eng.Has u [(1, (.pointer (some ⟨w.heap.size, 0, none⟩))), (2, (.pointer (some ⟨w2.heap.size, 0, none⟩))), (3, (.pointer (some ⟨w3.heap.size, 0, none⟩))), (4, (.int .i64 (sumD d i : Int))), (5, (.int .i64 (i : Int)))] ∧ Below w.heap.size w w' ∧ w5.heap.size ≤ w'.heap.size ∧ Blk w' w.heap.size 45 (bcs d) ∧ Blk w' w2.heap.size 200 (Eng.ics (List.replicate 133 0)) ∧ Blk w' w3.heap.size 200 (Eng.ics (mid1 d i))) _ ⟨0, rfl, by omega, ⟨rfl, rfl, rfl, (Eng.ie (by first | omega | rfl)), (Eng.ie (by first | omega | rfl)), trivial⟩, hB0_3, (Nat.le_refl _), hk10, hk11, hk5⟩ ?_
  rintro _ u9 w9 ⟨i, rfl, hs9_0, hH9, hBL9, hzL9, hkL9_0, hkL9_1, hkL9_2⟩ K9 hK9
  obtain ⟨u9, rfl⟩ := hH9.ex
  have hsl := sumD_le d i
  have hdl := dig_lt d i
  have hmg := mid1_get d (i := i)
  have hss : sumD d (i + 1) = sumD d i + (3 - dig d i) := rfl
  have hbt := (d.getD (i / 4) 0).toNat_lt
  have hbq : ((d.getD (i / 4) 0).toNat / 2 ^ (6 - 2 * (i % 4)) : Nat) ≤ (d.getD (i / 4) 0).toNat := Nat.div_le_self _ _
  refine Eng.seqk fun K12 hK12 => ?_
  refine Eng.seqk fun K13 hK13 => ?_
  refine Eng.reg ?_
  refine Eng.sv rfl rfl (Eng.x_mv (v := (.int .i64 (i : Int))) rfl rfl) ?_
  by_cases h8 : ((i : Int) : Int) < 128
  · skip
    refine Eng.sv rfl rfl (Eng.x_lt (r := true) rfl rfl rfl (decide_eq_true (by omega))) ?_
    refine Eng.nil ?_
    refine hK13 _ _ ?_
    refine Eng.cond_t rfl ?_
    refine Eng.skp ?_
    refine hK12 _ _ ?_
    refine Eng.seqk fun K14 hK14 => ?_
    refine Eng.blk ?_
    refine Eng.seqk fun K15 hK15 => ?_
    refine Eng.reg ?_
    refine Eng.sv rfl rfl (Eng.x_mv (v := (.int .i64 (i : Int))) rfl rfl) ?_
    refine Eng.sv rfl rfl (Eng.x_mv (v := (.int .i64 (i : Int))) rfl rfl) ?_
    refine Eng.sv rfl rfl (Eng.x_quo rfl rfl rfl (by decide) (r := ((i / 4 : Nat) : Int)) (Eng.w64 ⟨tdiv_nat i 4, by omega, by omega⟩)) ?_
    refine Eng.sv rfl rfl (Eng.x_iaA (j := (i / 4)) rfl Tryd.underlying45 sz5_dgt rfl rfl (rfl) (by omega) (Eng.add1 _ _)) ?_
    refine Eng.sv rfl rfl (Eng.x_ld1 (v := (.int .u8 (((d).getD (i / 4) 0).toNat : Int))) rfl ag5_dgt rfl (((hkL9_0).cell (i / 4)).trans (Eng.bcs_atD (by omega)))) ?_
    refine Eng.sv rfl rfl (Eng.x_conv rfl Tryd.underlying5 Tryd.underlying3 rfl (Eng.w64 (r := ((d.getD (i / 4) 0).toNat : Int)) (by omega))) ?_
    refine Eng.sv rfl rfl (Eng.x_mv (v := (.int .i64 (i : Int))) rfl rfl) ?_
    refine Eng.sv rfl rfl (Eng.x_rem rfl rfl rfl (by decide) (r := ((i % 4 : Nat) : Int)) (tmod_nat i 4)) ?_
    refine Eng.sv rfl rfl (Eng.x_mul rfl rfl rfl (Eng.w64 (r := ((2 * (i % 4) : Nat) : Int)) (by omega))) ?_
    refine Eng.sv rfl rfl (Eng.x_sub rfl rfl rfl (Eng.w64 (r := ((6 - 2 * (i % 4) : Nat) : Int)) (by omega))) ?_
    refine Eng.sv rfl rfl (Eng.x_conv rfl Tryd.underlying3 Tryd.underlying39 rfl (Eng.wu64 (r := ((6 - 2 * (i % 4) : Nat) : Int)) (by omega))) ?_
    refine Eng.sv rfl rfl (Eng.x_shr rfl rfl rfl (by omega) (r := (((d.getD (i / 4) 0).toNat / 2 ^ (6 - 2 * (i % 4)) : Nat) : Int)) (shr_any (kk := .i64) rfl rfl (show 6 - 2 * (i % 4) ≤ 64 by omega))) ?_
    refine Eng.sv rfl rfl (Eng.x_bits (v := (.int .i64 (dig d i : Int))) rfl (by simp) rfl rfl (and_eq (k := 2) ((d.getD (i / 4) 0).toNat / 2 ^ (6 - 2 * (i % 4)) : Nat) (by omega) (by omega) _ _ rfl)) ?_
    refine Eng.sv rfl rfl (Eng.x_iaA (j := i) rfl Tryd.underlying200 sz3_dgt rfl rfl (rfl) (by omega) (Eng.add1 _ _)) ?_
    refine Eng.stI (j := i) (b := dig d i) rfl rfl rfl sz3_dgt hkL9_2 (by rw [mid1_len d (by omega)]; omega) rfl rfl ?_
    intro w16 hk16 hg16
    rw [mid1_set d (by omega)] at hk16
    refine Eng.nil ?_
    refine hK15 _ _ ?_
    refine Eng.reg ?_
    refine Eng.sv rfl rfl (Eng.x_mv (v := (.int .i64 (sumD d i : Int))) rfl rfl) ?_
    refine Eng.sv rfl rfl (Eng.x_add rfl rfl rfl (Eng.w64 (r := ((sumD d i + 3 : Nat) : Int)) (by omega))) ?_
    refine Eng.sv rfl rfl (Eng.x_mv (v := (.int .i64 (i : Int))) rfl rfl) ?_
    refine Eng.sv rfl rfl (Eng.x_iaA (j := i) rfl Tryd.underlying200 sz3_dgt rfl rfl (rfl) (by omega) (Eng.add1 _ _)) ?_
    refine Eng.sv rfl rfl (Eng.x_ld1 (v := (.int .i64 ((((mid1 d (i + 1))).getD i 0 : Nat) : Int))) rfl ag3_dgt rfl (((hk16).cell i).trans (Eng.ics_at (by rw [mid1_len d (by omega)]; omega)))) ?_
    refine Eng.sv rfl rfl (Eng.x_sub rfl rfl rfl (Eng.w64 (r := (sumD d (i + 1) : Int)) (by omega))) ?_
    refine Eng.sv rfl rfl (Eng.x_as (v := (.int .i64 (sumD d (i + 1) : Int))) rfl rfl) ?_
    refine Eng.nil ?_
    refine Eng.nb ?_
    refine hK14 _ _ ?_
    refine Eng.reg ?_
    refine Eng.sv rfl rfl (Eng.x_mv (v := (.int .i64 (i : Int))) rfl rfl) ?_
    refine Eng.sv rfl rfl (Eng.x_add rfl rfl rfl (Eng.w64 (r := ((i + 1 : Nat) : Int)) (by omega))) ?_
    refine Eng.sv rfl rfl (Eng.x_as (v := (.int .i64 ((i + 1 : Nat) : Int))) rfl rfl) ?_
    refine Eng.nil ?_
    have hB0_5 : Below w.heap.size w w16 := (hBL9).grown hg16 (hBL9).size (fun k e => by cases e; exact Nat.le_trans (hB0_2).size (Nat.le_refl _))
    have hk17 := (hkL9_0).grown hg16 (fun e => absurd (Option.some.inj e) (Nat.ne_of_lt (Nat.lt_of_lt_of_le hz2 (Nat.le_trans (hb3).size (Nat.le_refl _)))))
    have hk18 := (hkL9_1).grown hg16 (fun e => absurd (Option.some.inj e) (Nat.ne_of_lt (Nat.lt_of_lt_of_le hz3 (Nat.le_trans (Nat.le_refl _) (Nat.le_refl _)))))
    exact hK9 _ _ _ ⟨i + 1, rfl, by omega, ⟨rfl, rfl, rfl, rfl, (Eng.ie (by first | omega | rfl)), trivial⟩, hB0_5, (Nat.le_trans hzL9 (hg16).size), hk17, hk18, hk16⟩ (by omega)
  · skip
    refine Eng.sv rfl rfl (Eng.x_lt (r := false) rfl rfl rfl (decide_eq_false (by omega))) ?_
    refine Eng.nil ?_
    refine hK13 _ _ ?_
    refine Eng.cond_f rfl ?_
    refine Eng.xt ?_
    refine Eng.te ?_
    refine Eng.te ?_
    refine Eng.be ?_
    refine hK7 _ _ ?_
    refine Eng.seqk fun K19 hK19 => ?_
    refine Eng.seqk fun K20 hK20 => ?_
    refine Eng.reg ?_
    refine Eng.sv rfl rfl (Eng.x_as (v := (.int .i64 132)) rfl rfl) ?_
    refine Eng.nil ?_
    refine hK20 _ _ ?_
    refine Eng.blk ?_
    have hi8 : i = 128 := by omega
    have hs8 : sumD d i = sumD d 128 := by rw [hi8]
    have hkm := hkL9_2
    rw [hi8, mid_two d (sumD d 128)] at hkm
    refine Eng.loopN (fun zz u w' => ∃ (k : Nat), zz = 5 - k ∧ k ≤ 5 ∧ Eng.Has u [(2, (.pointer (some ⟨w2.heap.size, 0, none⟩))), (3, (.pointer (some ⟨w3.heap.size, 0, none⟩))), (4, (.int .i64 ((sumD d 128 / 4 ^ k : Nat) : Int))), (6, (.int .i64 ((132 - k : Nat) : Int)))] ∧ Below w.heap.size w w' ∧ w9.heap.size ≤ w'.heap.size ∧ Blk w' w2.heap.size 200 (Eng.ics (List.replicate 133 0)) ∧ Blk w' w3.heap.size 200 (Eng.ics (mid2 d (sumD d 128) k))) _ ⟨0, rfl, by omega, ⟨rfl, rfl, (Eng.ie (by first | omega | rfl)), (Eng.ie (by first | omega | rfl)), trivial⟩, hBL9, (Nat.le_refl _), hkL9_1, hkm⟩ ?_
    rintro _ u21 w21 ⟨k, rfl, hs21_0, hH21, hBL21, hzL21, hkL21_0, hkL21_1⟩ K21 hK21
    obtain ⟨u21, rfl⟩ := hH21.ex
    have hsl := sumD_le d 128
    have hsq : sumD d 128 / 2 ^ (2 * k) ≤ sumD d 128 := Nat.div_le_self _ _
    have hsq2 : sumD d 128 / 4 ^ (k + 1) ≤ sumD d 128 := Nat.div_le_self _ _
    have hsq0 : sumD d 128 / 4 ^ 0 = sumD d 128 := by simp
    refine Eng.seqk fun K22 hK22 => ?_
    refine Eng.seqk fun K23 hK23 => ?_
    refine Eng.reg ?_
    refine Eng.sv rfl rfl (Eng.x_mv (v := (.int .i64 ((132 - k : Nat) : Int))) rfl rfl) ?_
    by_cases h32 : (((132 - k : Nat) : Int) : Int) ≥ 128
    · skip
      refine Eng.sv rfl rfl (Eng.x_ge (r := true) rfl rfl rfl (decide_eq_true (by omega))) ?_
      refine Eng.nil ?_
      refine hK23 _ _ ?_
      refine Eng.cond_t rfl ?_
      refine Eng.skp ?_
      refine hK22 _ _ ?_
      refine Eng.seqk fun K24 hK24 => ?_
      refine Eng.blk ?_
      refine Eng.seqk fun K25 hK25 => ?_
      refine Eng.reg ?_
      refine Eng.sv rfl rfl (Eng.x_mv (v := (.int .i64 ((132 - k : Nat) : Int))) rfl rfl) ?_
      refine Eng.sv rfl rfl (Eng.x_mv (v := (.int .i64 ((sumD d 128 / 4 ^ k : Nat) : Int))) rfl rfl) ?_
      refine Eng.sv rfl rfl (Eng.x_rem rfl rfl rfl (by decide) (r := ((sumD d 128 / 4 ^ k % 4 : Nat) : Int)) (tmod_nat _ 4)) ?_
      refine Eng.sv rfl rfl (Eng.x_iaA (j := (132 - k)) rfl Tryd.underlying200 sz3_dgt rfl rfl (rfl) (by omega) (Eng.add1 _ _)) ?_
      refine Eng.stI (j := (132 - k)) (b := (sumD d 128 / 4 ^ k % 4 : Nat)) rfl rfl rfl sz3_dgt hkL21_1 (by rw [mid2_len d _ (by omega)]; omega) rfl rfl ?_
      intro w26 hk26 hg26
      rw [mid2_set d _ (by omega) rfl] at hk26
      refine Eng.nil ?_
      refine hK25 _ _ ?_
      refine Eng.reg ?_
      refine Eng.sv rfl rfl (Eng.x_mv (v := (.int .i64 ((sumD d 128 / 4 ^ k : Nat) : Int))) rfl rfl) ?_
      refine Eng.sv rfl rfl (Eng.x_quo rfl rfl rfl (by decide) (r := ((sumD d 128 / 4 ^ (k + 1) : Nat) : Int)) (Eng.w64 ⟨(tdiv_nat _ 4).trans (by rw [Nat.div_div_eq_div_mul, ← Nat.pow_succ]), Int.le_trans (by decide) (Int.natCast_nonneg _), by omega⟩)) ?_
      refine Eng.sv rfl rfl (Eng.x_as (v := (.int .i64 ((sumD d 128 / 4 ^ (k + 1) : Nat) : Int))) rfl rfl) ?_
      refine Eng.nil ?_
      refine Eng.nb ?_
      refine hK24 _ _ ?_
      refine Eng.reg ?_
      refine Eng.sv rfl rfl (Eng.x_mv (v := (.int .i64 ((132 - k : Nat) : Int))) rfl rfl) ?_
      refine Eng.sv rfl rfl (Eng.x_sub rfl rfl rfl (Eng.w64 (r := ((132 - (k + 1) : Nat) : Int)) (by omega))) ?_
      refine Eng.sv rfl rfl (Eng.x_as (v := (.int .i64 ((132 - (k + 1) : Nat) : Int))) rfl rfl) ?_
      refine Eng.nil ?_
      have hB0_6 : Below w.heap.size w w26 := (hBL21).grown hg26 (hBL21).size (fun k e => by cases e; exact Nat.le_trans (hB0_2).size (Nat.le_refl _))
      have hk27 := (hkL21_0).grown hg26 (fun e => absurd (Option.some.inj e) (Nat.ne_of_lt (Nat.lt_of_lt_of_le hz3 (Nat.le_trans (Nat.le_refl _) (Nat.le_refl _)))))
      exact hK21 _ _ _ ⟨k + 1, rfl, by omega, ⟨rfl, rfl, rfl, rfl, trivial⟩, hB0_6, (Nat.le_trans hzL21 (hg26).size), hk27, hk26⟩ (by omega)
    · skip
      refine Eng.sv rfl rfl (Eng.x_ge (r := false) rfl rfl rfl (decide_eq_false (by omega))) ?_
      refine Eng.nil ?_
      refine hK23 _ _ ?_
      refine Eng.cond_f rfl ?_
      refine Eng.xt ?_
      refine Eng.te ?_
      refine Eng.te ?_
      refine Eng.be ?_
      refine hK19 _ _ ?_
      refine Eng.seqk fun K28 hK28 => ?_
      refine Eng.reg ?_
      refine Eng.sv rfl rfl (Eng.x_ldB (v := (.agg (Eng.ics (mid2 d (sumD d 128) k)).toArray)) rfl ag200_dgt sz200_dgt rfl hkL21_1 (Eng.ics_len (mid2_len d _ (by omega))) rfl) ?_
      refine Eng.stB (v := (.agg (Eng.ics (mid2 d (sumD d 128) k)).toArray)) rfl rfl rfl sz200_dgt rfl hkL21_0 (Eng.ics_len List.length_replicate) rfl (cs' := (Eng.ics (mid2 d (sumD d 128) k))) rfl (Eng.ics_len (mid2_len d _ (by omega))) (Eng.ics_one _) ?_
      intro w29 hk29 hg29
      refine Eng.nil ?_
      refine hK28 _ _ ?_
      refine Eng.rt ?_
      refine Eng.ret (Eng.res1 (v1 := (.agg (Eng.ics (mid2 d (sumD d 128) k)).toArray)) rfl (Eng.rdc rfl (Eng.lvB ag200_dgt sz200_dgt hk29 (Eng.ics_len (mid2_len d _ (by omega))) rfl))) ?_
      have hk5 : k = 5 := by omega
      have hB0_6 : Below w.heap.size w w29 := (hBL21).grown hg29 (hBL21).size (fun k e => by cases e; exact Nat.le_trans (hb2).size (Nat.le_refl _))
      exact ⟨by rw [hk5]; rfl, hB0_6⟩
end Go.Proofs.YtnecgoahdkfbeaaDoor.Mac
end

section
namespace Go.Proofs.YtnecgoahdkfbeaaDoor.Mac
open Go Go.RowKit Go.Proofs.YtnecgoahdkfbeaaDoor Go.Proofs.YtnecgoahdkfbeaaDoor.Cop Go.Proofs.YtnecgoahdkfbeaaDoor.Oct Go.Proofs.YtnecgoahdkfbeaaDoor.Dsl Go.Proofs.YtnecgoahdkfbeaaDoor.Sha Go.Proofs.YtnecgoahdkfbeaaDoor.Tre Go.Proofs.YtnecgoahdkfbeaaDoor.TreP Go.Proofs.YtnecgoahdkfbeaaDoor.Ver Go.Proofs.YtnecgoahdkfbeaaDoor.Vfy Go.Proofs.YtnecgoahdkfbeaaDoor.Tid
set_option linter.unusedVariables false
set_option linter.unusedSimpArgs false
theorem zr45_kv (w : World) : (zeroValue 45).run Tryd.prog w = .ok (dg Oct.dz) w := by kernel_rfl
theorem sz5_kv : (Tryd.prog.info? 5).map (fun i => i.size) = some 1 := by kernel_rfl
theorem ag5_kv (w : World) : (isAgg 5).run Tryd.prog w = .ok false w := by kernel_rfl
theorem ag45_kv (w : World) : (isAgg 45).run Tryd.prog w = .ok true w := by kernel_rfl
theorem sz45_kv : (Tryd.prog.info? 45).map (fun i => i.size) = some 32 := by kernel_rfl
theorem en119_kv : Eng.Entr Tryd.prog 119 := ⟨_, Tryd.func119, by kernel_rfl, by kernel_rfl⟩
theorem in5_kv : (Tryd.prog.info? 5).map (fun i => (i.zero, i.size, i.bytes)) = some (some (.int .u8 0), 1, 1) := by kernel_rfl
theorem en129_kv : Eng.Entr Tryd.prog 129 := ⟨_, Tryd.func129, by kernel_rfl, by kernel_rfl⟩
theorem sz3_kv : (Tryd.prog.info? 3).map (fun i => i.size) = some 1 := by kernel_rfl
theorem ag3_kv (w : World) : (isAgg 3).run Tryd.prog w = .ok false w := by kernel_rfl
theorem en131_kv : Eng.Entr Tryd.prog 131 := ⟨_, Tryd.func131, by kernel_rfl, by kernel_rfl⟩
theorem en130_kv : Eng.Entr Tryd.prog 130 := ⟨_, Tryd.func130, by kernel_rfl, by kernel_rfl⟩
theorem en132_kv : Eng.Entr Tryd.prog 132 := ⟨_, Tryd.func132, by kernel_rfl, by kernel_rfl⟩
theorem en136_kv : Eng.Entr Tryd.prog 136 := ⟨_, Tryd.func136, by kernel_rfl, by kernel_rfl⟩
theorem en137_kv : Eng.Entr Tryd.prog 137 := ⟨_, Tryd.func137, by kernel_rfl, by kernel_rfl⟩
theorem zr200_kv (w : World) : (zeroValue 200).run Tryd.prog w = .ok (.agg (Eng.ics (List.replicate 133 0)).toArray) w := by kernel_rfl
theorem sz200_kv : (Tryd.prog.info? 200).map (fun i => i.size) = some 133 := by kernel_rfl
theorem en138_kv : Eng.Entr Tryd.prog 138 := ⟨_, Tryd.func138, by kernel_rfl, by kernel_rfl⟩
theorem en139_kv : Eng.Entr Tryd.prog 139 := ⟨_, Tryd.func139, by kernel_rfl, by kernel_rfl⟩
theorem en128_kv : Eng.Entr Tryd.prog 128 := ⟨_, Tryd.func128, by kernel_rfl, by kernel_rfl⟩
theorem in45_kv : (Tryd.prog.info? 45).map (fun i => (i.zero, i.size, i.bytes)) = some (some (dg Oct.dz), 32, 32) := by kernel_rfl
theorem en63_kv : Eng.Entr Tryd.prog 63 := ⟨_, Tryd.func63, by kernel_rfl, by kernel_rfl⟩
theorem en69_kv : Eng.Entr Tryd.prog 69 := ⟨_, Tryd.func69, by kernel_rfl, by kernel_rfl⟩
theorem en70_kv : Eng.Entr Tryd.prog 70 := ⟨_, Tryd.func70, by kernel_rfl, by kernel_rfl⟩
theorem en72_kv : Eng.Entr Tryd.prog 72 := ⟨_, Tryd.func72, by kernel_rfl, by kernel_rfl⟩
theorem en71_kv : Eng.Entr Tryd.prog 71 := ⟨_, Tryd.func71, by kernel_rfl, by kernel_rfl⟩
theorem en66_kv : Eng.Entr Tryd.prog 66 := ⟨_, Tryd.func66, by kernel_rfl, by kernel_rfl⟩
theorem en73_kv : Eng.Entr Tryd.prog 73 := ⟨_, Tryd.func73, by kernel_rfl, by kernel_rfl⟩
theorem en74_kv : Eng.Entr Tryd.prog 74 := ⟨_, Tryd.func74, by kernel_rfl, by kernel_rfl⟩
theorem en75_kv : Eng.Entr Tryd.prog 75 := ⟨_, Tryd.func75, by kernel_rfl, by kernel_rfl⟩
theorem zr44_kv (w : World) : (zeroValue 44).run Tryd.prog w = .ok (dg Oct.dz) w := by kernel_rfl
theorem sz44_kv : (Tryd.prog.info? 44).map (fun i => i.size) = some 32 := by kernel_rfl
theorem ag44_kv (w : World) : (isAgg 44).run Tryd.prog w = .ok true w := by kernel_rfl
theorem en77_kv : Eng.Entr Tryd.prog 77 := ⟨_, Tryd.func77, by kernel_rfl, by kernel_rfl⟩
theorem en76_kv : Eng.Entr Tryd.prog 76 := ⟨_, Tryd.func76, by kernel_rfl, by kernel_rfl⟩
theorem ag48_kv (w : World) : (isAgg 48).run Tryd.prog w = .ok false w := by kernel_rfl
theorem en29_kv : Eng.Entr Tryd.prog 29 := ⟨_, Tryd.func29, by kernel_rfl, by kernel_rfl⟩
theorem en30_kv : Eng.Entr Tryd.prog 30 := ⟨_, Tryd.func30, by kernel_rfl, by kernel_rfl⟩
theorem en28_kv : Eng.Entr Tryd.prog 28 := ⟨_, Tryd.func28, by kernel_rfl, by kernel_rfl⟩
/-- The digest that begins at a byte. -/
def sl (b : List UInt8) (p : Nat) : List UInt8 := (b.drop p).take 32
theorem sl_len {b : List UInt8} {p : Nat} (h : p + 32 ≤ b.length) : (sl b p).length = 32 := by unfold sl; rw [List.length_take, List.length_drop]; omega
theorem room0 {l p n : Nat} (h : p + n ≤ l) : room l (p : Int) n = 0 := by unfold room; rw [if_neg (by omega), if_neg (by omega), if_neg (by omega)]
theorem getD_in {b : List UInt8} {p : Nat} (h : p + 32 ≤ b.length) {w : World} {e : Ending} {w' : World} (hg : GetD b (p : Int) w e w') : e = .returned (.tuple #[dg (sl b p), .int .i64 ((p + 32 : Nat) : Int), .int .i64 0]) ∧ Below w.heap.size w w' := by
  obtain ⟨h1, h2⟩ := hg
  rw [if_pos (room0 h)] at h2
  exact ⟨h2, h1⟩
theorem getR_in {k : IntKind} {b : List UInt8} (h : 4 ≤ b.length) {w : World} {e : Ending} {w' : World} (hg : GetR k b 0 4 w e w') : e = .returned (.tuple #[.int k (num (b.take 4) : Int), .int .i64 4, .int .i64 0]) ∧ Below w.heap.size w w' := by
  obtain ⟨h1, h2⟩ := hg
  have r0 : room b.length 0 4 = 0 := room0 (p := 0) (n := 4) (by omega)
  rw [if_pos r0] at h2
  subst h1
  exact ⟨h2, Below.refl _ _⟩
theorem num4 (b : List UInt8) : num (b.take 4) ≤ 4294967295 := by have := num_take_lt b 4 4 (Nat.le_refl _); omega
def atTo (b : List UInt8) (p k : Nat) : List UInt8 := (b.drop p).take k ++ List.replicate (32 - k) 0
theorem atTo_len {b : List UInt8} {p k : Nat} (h : p + 32 ≤ b.length) (hk : k ≤ 32) : (atTo b p k).length = 32 := by simp [atTo]; omega
theorem atTo_set {b : List UInt8} {p k : Nat} (h : p + 32 ≤ b.length) (hk : k < 32) : (atTo b p k).set k (b.getD (p + k) 0) = atTo b p (k + 1) := by
  have hl : ((b.drop p).take k).length = k := by rw [List.length_take, List.length_drop]; omega
  unfold atTo
  rw [show 32 - k = (32 - (k + 1)) + 1 by omega, List.replicate_succ, set_at _ _ _ _ hl.symm, List.take_add_one, List.append_assoc]
  congr 1
  rw [List.getElem?_drop, List.getD_eq_getElem?_getD, List.getElem?_eq_getElem (by omega)]
  rfl
/-- What a signature of a digest leads to. -/
def dgt (d : List UInt8) (j : Nat) : Nat := (digits d).getD j 0
theorem dgt_le (d : List UInt8) (j : Nat) : dgt d j ≤ 3 := by
  unfold dgt
  by_cases h : j < (digits d).length
  · rw [List.getD_eq_getElem?_getD, List.getElem?_eq_getElem h]
    have := digits_lt d _ (List.getElem_mem h); show (digits d)[j] ≤ 3; omega
  · rw [List.getD_eq_getElem?_getD, List.getElem?_eq_none (by omega)]; exact Nat.zero_le _
def chS (d b : List UInt8) (j : Nat) : List UInt8 := chainN (sl b 0) j (3 - dgt d j) (dgt d j) (sl b (32 + 32 * j))
def recB (d b : List UInt8) (i : Nat) : List UInt8 := ([3] ++ sl b 0) ++ ((List.range i).map (chS d b)).flatten
def recS (d b : List UInt8) : List UInt8 := sha (recB d b 133)
theorem recS_len (d b : List UInt8) : (recS d b).length = 32 := sha_len _
theorem recB_zero (d b : List UInt8) : recB d b 0 = [3] ++ sl b 0 := by simp [recB]
theorem recB_succ (d b : List UInt8) (i : Nat) : recB d b i ++ chS d b i = recB d b (i + 1) := by simp [recB, List.range_succ]
theorem chS_len {d b : List UInt8} (hl : b.length = 4288) {j : Nat} (hj : j < 133) : (chS d b j).length = 32 := chainN_len _ _ _ _ _ (sl_len (by omega))
theorem recB_len {d b : List UInt8} (hl : b.length = 4288) : ∀ {i : Nat}, i ≤ 133 → (recB d b i).length = 33 + 32 * i
  | 0, _ => by have := sl_len (b := b) (p := 0) (by omega); rw [recB_zero, List.length_append, this]; rfl
  | i + 1, h => by rw [← recB_succ, List.length_append, recB_len hl (by omega), chS_len hl (by omega)]; omega
/-- The path in a signature. -/
def pthS (b : List UInt8) (n : Nat) : List (List UInt8) := (List.range n).map fun j => sl b (4292 + 32 * j)
theorem pthS_succ (b : List UInt8) (n : Nat) : pthS b (n + 1) = pthS b n ++ [sl b (4292 + 32 * n)] := by simp [pthS, List.range_succ]
theorem pthS_len (b : List UInt8) (n : Nat) : (pthS b n).length = n := by simp [pthS]
def sigS (b : List UInt8) : List UInt8 := (b.drop 4).take 4288
theorem sigS_len {b : List UInt8} (h : 4292 ≤ b.length) : (sigS b).length = 4288 := by unfold sigS; rw [List.length_take, List.length_drop]; omega
/-- The root that a signature leads to; what Verify tells. -/
def gotS (d b : List UInt8) (n : Nat) : List UInt8 := rootD (leafS (recS d (sigS b))) (num (b.take 4) : Int) ((2 ^ n : Nat) : Int) (pthS b n)
theorem gotS_len (d b : List UInt8) (n : Nat) : (gotS d b n).length = 32 := rootD_len _ _ _ _ (leafS_len _)
def vfK (r : List UInt8) (h : Int) (d b : List UInt8) : Int × Int :=
  if kh h = true then
    if (b.length : Int) ≠ 4292 + 32 * h then (0, 190)
    else if 2 ^ h.toNat ≤ num (b.take 4) then (0, 190)
    else if gotS d b h.toNat ≠ r then (0, 71)
    else ((num (b.take 4) : Int), 0)
  else (0, 2)
theorem vf_no {r d b : List UInt8} {h : Int} (e : kh h = false) : vfK r h d b = (0, 2) := by unfold vfK; rw [if_neg (by rw [e]; decide)]
theorem vf_len {r d b : List UInt8} {h : Int} (e : ¬ kh h = false) (hl : (b.length : Int) ≠ 4292 + 32 * h) : vfK r h d b = (0, 190) := by unfold vfK; rw [if_pos (by simpa using e), if_pos hl]
theorem vf_big {r d b : List UInt8} {h : Int} {n : Nat} (e : ¬ kh h = false) (e1 : h = (n : Int)) (hl : (b.length : Int) = 4292 + 32 * h) (hb : 2 ^ n ≤ num (b.take 4)) : vfK r h d b = (0, 190) := by subst e1; unfold vfK; rw [if_pos (by simpa using e), if_neg (by omega), if_pos (by rw [Int.toNat_natCast]; exact hb)]
theorem vf_root {r d b : List UInt8} {h : Int} {n : Nat} (e : ¬ kh h = false) (e1 : h = (n : Int)) (hl : (b.length : Int) = 4292 + 32 * h) (hb : ¬ 2 ^ n ≤ num (b.take 4)) (hr : gotS d b n ≠ r) : vfK r h d b = (0, 71) := by subst e1; unfold vfK; rw [if_pos (by simpa using e), if_neg (by omega), if_neg (by rw [Int.toNat_natCast]; exact hb), if_pos (by rw [Int.toNat_natCast]; exact hr)]
theorem vf_ok {r d b : List UInt8} {h : Int} {n : Nat} (e : ¬ kh h = false) (e1 : h = (n : Int)) (hl : (b.length : Int) = 4292 + 32 * h) (hb : ¬ 2 ^ n ≤ num (b.take 4)) (hr : gotS d b n = r) : vfK r h d b = ((num (b.take 4) : Int), 0) := by subst e1; unfold vfK; rw [if_pos (by simpa using e), if_neg (by omega), if_neg (by rw [Int.toNat_natCast]; exact hb), if_neg (by rw [Int.toNat_natCast]; exact fun q => q hr)]
theorem shl1_u64 {b : Int} {n : Nat} (hb : b = (n : Int)) (hn : n ≤ 10) (hp : 2 ^ n ≤ 1024) : IntKind.u64.wrap (1 * 2 ^ (min b.toNat IntKind.u64.bits)) = ((2 ^ n : Nat) : Int) := by
  subst hb
  rw [Int.toNat_natCast, show min n IntKind.u64.bits = n from (by show min n 64 = n; omega), two_i, Int.one_mul]
  exact Eng.wu64 ⟨rfl, Int.natCast_nonneg _, by omega⟩
theorem bs_pre90 {w : World} {v : Value} {b : List UInt8} (h : Rd w v (([] ++ b) ++ [90])) : Rd w (Eng.sCut v 0 b.length 1) b := by
  have := Eng.rd_cut h (l := 0) (h := b.length) (Nat.zero_le _) (by simp)
  show Row w _ b.length (bcs b)
  simpa [Rd] using this
theorem rroot_calls (d : List UInt8) (hd : d.length = 32) (i n : Int) (v : Value) (xs : List (List UInt8)) (w : World) (h : Ds w v xs) : Calls Tryd.prog 76 #[dg d, .int .i64 i, .int .i64 n, v] w fun e w' => e = .returned (.tuple #[dg (rootD d i n xs), .int .i64 (rootE i n xs.length)]) ∧ Below w.heap.size w w' := by
  cases hr : rightB i n with
  | true => exact rroot_ok d hd i n v xs w h hr
  | false => exact rroot_no d hd i n v xs w h hr
set_option maxRecDepth 100000 in
set_option maxHeartbeats 4000000 in
theorem rat_calls (v : Value) (b : List UInt8) (i : Nat) (w : World) (h : Rd w v b) (hl : 32 * i + 32 ≤ b.length) (hi : i ≤ 1000) : Calls Tryd.prog 136 #[v, (.int .i64 (i : Int))] w (fun e w' => e = .returned (dg (sl b (32 * i))) ∧ Below w.heap.size w w') := by
  refine Eng.enter (l := [v, (.int .i64 (i : Int))]) Tryd.func136 rfl 21 rfl (by simp) ?_
  refine Eng.seqk fun K1 hK1 => ?_
  refine Eng.reg ?_
  refine Eng.al rfl rfl rfl zr45_kv (cs := (bcs Oct.dz)) rfl ?_
  intro w2 hk2 hb2 hz2
  refine Eng.nil ?_
  refine hK1 _ _ ?_
  refine Eng.seqk fun K3 hK3 => ?_
  refine Eng.reg ?_
  refine Eng.al rfl rfl rfl zr45_kv (cs := (bcs Oct.dz)) rfl ?_
  intro w4 hk4 hb4 hz4
  refine Eng.nil ?_
  refine hK3 _ _ ?_
  refine Eng.seqk fun K5 hK5 => ?_
  refine Eng.seqk fun K6 hK6 => ?_
  refine Eng.reg ?_
  refine Eng.sv rfl rfl (Eng.x_as (v := (.int .i64 0)) rfl rfl) ?_
  refine Eng.nil ?_
  refine hK6 _ _ ?_
  refine Eng.blk ?_
  have hk8 := (hk2).below hb4
  have hB0_2 : Below w.heap.size w w4 := (hb2).trans (hb4.mono (hb2).size)
  refine Eng.loopN (fun zz u w' => ∃ (k : Nat), zz = 32 - k ∧ k ≤ 32 ∧ Eng.Has u [(0, v), (1, (.int .i64 (i : Int))), (4, (.pointer (some ⟨w.heap.size, 0, none⟩))), (5, (.pointer (some ⟨w2.heap.size, 0, none⟩))), (6, (.int .i64 (k : Int)))] ∧ Below w.heap.size w w' ∧ w4.heap.size ≤ w'.heap.size ∧ Blk w' w.heap.size 45 (bcs Oct.dz) ∧ Blk w' w2.heap.size 45 (bcs (atTo b (32 * i) k))) _ ⟨0, rfl, by omega, ⟨rfl, rfl, rfl, rfl, (Eng.ie (by first | omega | rfl)), trivial⟩, hB0_2, (Nat.le_refl _), hk8, hk4⟩ ?_
  rintro _ u7 w7 ⟨k, rfl, hs7_0, hH7, hBL7, hzL7, hkL7_0, hkL7_1⟩ K7 hK7
  obtain ⟨u7, rfl⟩ := hH7.ex
  refine Eng.seqk fun K9 hK9 => ?_
  refine Eng.seqk fun K10 hK10 => ?_
  refine Eng.reg ?_
  refine Eng.sv rfl rfl (Eng.x_mv (v := (.int .i64 (k : Int))) rfl rfl) ?_
  by_cases h8 : ((k : Int) : Int) < 32
  · skip
    refine Eng.sv rfl rfl (Eng.x_lt (r := true) rfl rfl rfl (decide_eq_true (by omega))) ?_
    refine Eng.nil ?_
    refine hK10 _ _ ?_
    refine Eng.cond_t rfl ?_
    refine Eng.skp ?_
    refine hK9 _ _ ?_
    refine Eng.seqk fun K11 hK11 => ?_
    refine Eng.blk ?_
    refine Eng.reg ?_
    refine Eng.sv rfl rfl (Eng.x_mv (v := (.int .i64 (k : Int))) rfl rfl) ?_
    refine Eng.sv rfl rfl (Eng.x_mv (v := v) rfl rfl) ?_
    refine Eng.sv rfl rfl (Eng.x_mv (v := (.int .i64 (i : Int))) rfl rfl) ?_
    refine Eng.sv rfl rfl (Eng.x_mul rfl rfl rfl (Eng.w64 (r := ((32 * i : Nat) : Int)) (by omega))) ?_
    refine Eng.sv rfl rfl (Eng.x_mv (v := (.int .i64 (k : Int))) rfl rfl) ?_
    refine Eng.sv rfl rfl (Eng.x_add rfl rfl rfl (Eng.w64 (r := ((32 * i + k : Nat) : Int)) (by omega))) ?_
    have hr12 := (h).below hBL7
    refine Eng.sv rfl rfl (Eng.x_ia (v := v) (j := (32 * i + k)) rfl Tryd.underlying48 sz5_kv (by decide) rfl rfl hr12 (by rw [Nat.mul_one]; exact bcs_length _) (rfl) (by omega)) ?_
    refine Eng.sv rfl rfl (Eng.x_ld1 (v := (.int .u8 (((b).getD (32 * i + k) 0).toNat : Int))) rfl ag5_kv rfl (Eng.rd_at hr12 (by omega))) ?_
    refine Eng.sv rfl rfl (Eng.x_iaA (j := k) rfl Tryd.underlying45 sz5_kv rfl rfl (rfl) (by omega) (Eng.add1 _ _)) ?_
    refine Eng.stAB (j := k) (b := ((b).getD (32 * i + k) 0)) rfl rfl rfl sz5_kv hkL7_1 (by rw [atTo_len hl (by omega)]; omega) rfl rfl ?_
    intro w13 hk13 hg13
    rw [atTo_set hl (by omega)] at hk13
    refine Eng.nil ?_
    refine Eng.nb ?_
    refine hK11 _ _ ?_
    refine Eng.reg ?_
    refine Eng.sv rfl rfl (Eng.x_mv (v := (.int .i64 (k : Int))) rfl rfl) ?_
    refine Eng.sv rfl rfl (Eng.x_add rfl rfl rfl (Eng.w64 (r := ((k + 1 : Nat) : Int)) (by omega))) ?_
    refine Eng.sv rfl rfl (Eng.x_as (v := (.int .i64 ((k + 1 : Nat) : Int))) rfl rfl) ?_
    refine Eng.nil ?_
    have hB0_4 : Below w.heap.size w w13 := (hBL7).grown hg13 (hBL7).size (fun k e => by cases e; exact Nat.le_trans (hb2).size (Nat.le_refl _))
    have hk14 := (hkL7_0).grown hg13 (fun e => absurd (Option.some.inj e) (Nat.ne_of_lt (Nat.lt_of_lt_of_le hz2 (Nat.le_trans (Nat.le_refl _) (Nat.le_refl _)))))
    exact hK7 _ _ _ ⟨k + 1, rfl, by omega, ⟨rfl, rfl, rfl, rfl, (Eng.ie (by first | omega | rfl)), trivial⟩, hB0_4, (Nat.le_trans hzL7 (hg13).size), hk14, hk13⟩ (by omega)
  · skip
    refine Eng.sv rfl rfl (Eng.x_lt (r := false) rfl rfl rfl (decide_eq_false (by omega))) ?_
    refine Eng.nil ?_
    refine hK10 _ _ ?_
    refine Eng.cond_f rfl ?_
    refine Eng.xt ?_
    refine Eng.te ?_
    refine Eng.te ?_
    refine Eng.be ?_
    refine hK5 _ _ ?_
    refine Eng.seqk fun K15 hK15 => ?_
    refine Eng.reg ?_
    refine Eng.sv rfl rfl (Eng.x_ldB (v := (dg (atTo b (32 * i) k))) rfl ag45_kv sz45_kv rfl hkL7_1 ((bcs_length _).trans (atTo_len hl (by omega))) rfl) ?_
    refine Eng.stB (v := (dg (atTo b (32 * i) k))) rfl rfl rfl sz45_kv rfl hkL7_0 rfl rfl (cs' := (bcs (atTo b (32 * i) k))) rfl ((bcs_length _).trans (atTo_len hl (by omega))) (bcs_one _) ?_
    intro w16 hk16 hg16
    refine Eng.nil ?_
    refine hK15 _ _ ?_
    refine Eng.rt ?_
    refine Eng.ret (Eng.res1 (v1 := (dg (atTo b (32 * i) k))) rfl (Eng.rdc rfl (Eng.lvB ag45_kv sz45_kv hk16 ((bcs_length _).trans (atTo_len hl (by omega))) rfl))) ?_
    have hk32 : k = 32 := by omega
    have hB0_4 : Below w.heap.size w w16 := (hBL7).grown hg16 (hBL7).size (fun k e => by cases e; exact Nat.le_trans (Nat.le_refl _) (Nat.le_refl _))
    exact ⟨by rw [hk32]; simp [atTo, sl], hB0_4⟩
set_option maxRecDepth 100000 in
set_option maxHeartbeats 4000000 in
theorem rec_calls (d b : List UInt8) (v : Value) (w : World) (hd : d.length = 32) (h : Rd w v b) (hl : b.length = 4288) (hKn : Kon w) : Calls Tryd.prog 70 #[(dg d), v] w (fun e w' => e = .returned (.tuple #[dg (recS d b), .int .i64 0]) ∧ Below w.heap.size w w') := by
  refine Eng.enter (l := [(dg d), v]) Tryd.func70 rfl 52 rfl (by simp) ?_
  refine Eng.seqk fun K1 hK1 => ?_
  refine Eng.reg ?_
  refine Eng.bo (v := (dg d)) (cs := (bcs d)) rfl rfl rfl rfl rfl ?_
  intro w2 hk2 hb2 hz2
  refine Eng.al rfl rfl rfl zr45_kv (cs := (bcs Oct.dz)) rfl ?_
  intro w3 hk3 hb3 hz3
  refine Eng.sv rfl rfl (Eng.x_as (v := (.int .i64 0)) rfl rfl) ?_
  refine Eng.nil ?_
  refine hK1 _ _ ?_
  refine Eng.seqk fun K4 hK4 => ?_
  refine Eng.seqk fun K5 hK5 => ?_
  refine Eng.reg ?_
  refine Eng.sv rfl rfl (Eng.x_mv (v := v) rfl rfl) ?_
  have hB0_2 : Below w.heap.size w w3 := (hb2).trans (hb3.mono (hb2).size)
  have hr6 := (h).below hB0_2
  refine Eng.sv rfl rfl (Eng.x_len (v := v) (r := (b.length : Int)) rfl Tryd.underlying48 rfl hr6 rfl) ?_
  refine Eng.sv rfl rfl (Eng.x_ne (r := false) rfl rfl rfl (Eng.ne_f (by omega))) ?_
  refine Eng.nil ?_
  refine hK5 _ _ ?_
  refine Eng.cond_f rfl ?_
  refine Eng.skp ?_
  refine hK4 _ _ ?_
  refine Eng.seqk fun K7 hK7 => ?_
  refine Eng.reg ?_
  refine Eng.sv rfl rfl (Eng.x_mv (v := v) rfl rfl) ?_
  refine Eng.sc rfl (Eng.xc (vl := [v, (.int .i64 0)]) rfl rfl rfl en119_kv) ((gdig_calls v b ((0 : Nat) : Int) _ ⟨hr6, by omega⟩ (by omega)).mono fun _ _ => getD_in (by omega)) ?_
  rintro _ w8 ⟨rfl, hb8⟩
  refine Eng.aft_v rfl ?_
  refine Eng.sv rfl rfl (Eng.x_mv (v := (.tuple #[(dg (sl b (0))), (.int .i64 ((0 + 32 : Nat) : Int)), (.int .i64 0)])) rfl rfl) ?_
  refine Eng.sv rfl rfl (Eng.x_ext (v := (dg (sl b (0)))) rfl rfl rfl) ?_
  refine Eng.sv rfl rfl (Eng.x_ext (v := (.int .i64 ((0 + 32 : Nat) : Int))) rfl rfl rfl) ?_
  refine Eng.sv rfl rfl (Eng.x_ext (v := (.int .i64 0)) rfl rfl rfl) ?_
  refine Eng.al rfl rfl rfl zr45_kv (cs := (bcs Oct.dz)) rfl ?_
  intro w9 hk9 hb9 hz9
  refine Eng.stB (v := (dg (sl b (0)))) rfl rfl rfl sz45_kv rfl hk9 rfl rfl (cs' := (bcs (sl b (0)))) rfl ((bcs_length _).trans (sl_len (by omega))) (bcs_one _) ?_
  intro w10 hk10 hg10
  refine Eng.sv rfl rfl (Eng.x_as (v := (.int .i64 ((0 + 32 : Nat) : Int))) rfl rfl) ?_
  refine Eng.sv rfl rfl (Eng.x_as (v := (.int .i64 0)) rfl rfl) ?_
  refine Eng.nil ?_
  refine hK7 _ _ ?_
  refine Eng.seqk fun K11 hK11 => ?_
  refine Eng.reg ?_
  refine Eng.bs (vs := [(.int .u8 3)]) (cs := (bcs [3])) rfl rfl rfl Tryd.underlying48 in5_kv rfl (by decide) rfl rfl (by decide) (by decide) (by simp [Value.cells]) rfl ?_
  intro w12 hk12 hb12 hz12
  have hk13 := (hk10).below hb12
  refine Eng.sv rfl rfl (Eng.x_slA rfl Tryd.underlying45 sz5_kv rfl) ?_
  refine Eng.apB rfl rfl rfl rfl (Eng.own_lit (base := w10.heap.size) hk12 (Nat.le_refl _) (Nat.le_of_ble_eq_true rfl)) rfl (Rd.of_blk hk13 32 (sl_len (by omega)) (by decide)) (by simp only [List.length_append, List.length_cons, List.length_nil, sl_len (show 0 + 32 ≤ b.length by omega)]; omega) (hb12).size ?_
  intro v14 w14 ho14 hg14
  refine Eng.sv rfl rfl (Eng.x_as (v := v14) rfl rfl) ?_
  refine Eng.nil ?_
  refine hK11 _ _ ?_
  refine Eng.seqk fun K15 hK15 => ?_
  refine Eng.seqk fun K16 hK16 => ?_
  refine Eng.reg ?_
  have hB1_3 : Below w2.heap.size w2 w8 := (hb3).trans (hb8.mono (hb3).size)
  have hB1_4 : Below w2.heap.size w2 w9 := (hB1_3).trans (hb9.mono (hB1_3).size)
  have hB1_5 : Below w2.heap.size w2 w10 := (hB1_4).grown hg10 (hB1_4).size (fun k e => by cases e; exact Nat.le_trans (hB1_3).size (Nat.le_refl _))
  have hk17 := ((((((hk2).below hb3).below hb8).below hb9).grown hg10 (fun e => absurd (Option.some.inj e) (Nat.ne_of_lt (Nat.lt_of_lt_of_le hz2 (Nat.le_trans (hB1_3).size (Nat.le_refl _)))))).below hb12).grown hg14 (fun e => absurd ((World.ownsRow.lt (Eng.own_lit (base := w10.heap.size) hk12 (Nat.le_refl _) (Nat.le_of_ble_eq_true rfl))) _ e.symm).1 (Nat.not_le_of_lt (Nat.lt_of_lt_of_le hz2 (hB1_5).size)))
  refine Eng.sv rfl rfl (Eng.x_ldB (v := (dg d)) rfl ag45_kv sz45_kv rfl hk17 ((bcs_length _).trans hd) rfl) ?_
  refine Eng.sc rfl (Eng.xc (vl := [(dg d)]) rfl rfl rfl en129_kv) (digits_calls d _ hd) ?_
  rintro _ w18 ⟨rfl, hb18⟩
  refine Eng.aft_v rfl ?_
  refine Eng.sv rfl rfl (Eng.x_mv (v := (.int .i64 0)) rfl rfl) ?_
  refine Eng.nil ?_
  refine hK16 _ _ ?_
  refine Eng.blk ?_
  have hr19 := (ho14).below hb18
  have hB2_4 : Below w3.heap.size w3 w9 := (hb8).trans (hb9.mono (hb8).size)
  have hB2_5 : Below w3.heap.size w3 w10 := (hB2_4).grown hg10 (hB2_4).size (fun k e => by cases e; exact Nat.le_trans (hb8).size (Nat.le_refl _))
  have hk21 := ((((((hk3).below hb8).below hb9).grown hg10 (fun e => absurd (Option.some.inj e) (Nat.ne_of_lt (Nat.lt_of_lt_of_le hz3 (Nat.le_trans (hb8).size (Nat.le_refl _)))))).below hb12).grown hg14 (fun e => absurd ((World.ownsRow.lt (Eng.own_lit (base := w10.heap.size) hk12 (Nat.le_refl _) (Nat.le_of_ble_eq_true rfl))) _ e.symm).1 (Nat.not_le_of_lt (Nat.lt_of_lt_of_le hz3 (hB2_5).size)))).below hb18
  have hk22 := ((hk13).grown hg14 (fun e => absurd ((World.ownsRow.lt (Eng.own_lit (base := w10.heap.size) hk12 (Nat.le_refl _) (Nat.le_of_ble_eq_true rfl))) _ e.symm).1 (Nat.not_le_of_lt (Nat.lt_of_lt_of_le hz9 (hg10).size)))).below hb18
  have hB0_3 : Below w.heap.size w w8 := (hB0_2).trans (hb8.mono (hB0_2).size)
  have hB0_4 : Below w.heap.size w w9 := (hB0_3).trans (hb9.mono (hB0_3).size)
  have hB0_5 : Below w.heap.size w w10 := (hB0_4).grown hg10 (hB0_4).size (fun k e => by cases e; exact Nat.le_trans (hB0_3).size (Nat.le_refl _))
  have hB0_6 : Below w.heap.size w w12 := (hB0_5).trans (hb12.mono (hB0_5).size)
  have hB0_7 : Below w.heap.size w w14 := (hB0_6).grown hg14 (hB0_6).size (fun k e => Nat.le_trans (hB0_5).size ((World.ownsRow.lt (Eng.own_lit (base := w10.heap.size) hk12 (Nat.le_refl _) (Nat.le_of_ble_eq_true rfl))) _ e).1)
  have hB0_8 : Below w.heap.size w w18 := (hB0_7).trans (hb18.mono (hB0_7).size)
  refine Eng.loopN (fun zz u w' => ∃ (i : Nat), ∃ (vb : Value), zz = 133 - i ∧ i ≤ 133 ∧ Eng.Has u [(1, v), (4, (.pointer (some ⟨w2.heap.size, 0, none⟩))), (5, (.int .i64 0)), (6, (.pointer (some ⟨w8.heap.size, 0, none⟩))), (7, (.int .i64 ((32 + 32 * i : Nat) : Int))), (9, vb), (29, (.agg (Eng.ics (digits d)).toArray)), (30, (.int .i64 (i : Int)))] ∧ Below w.heap.size w w' ∧ w18.heap.size ≤ w'.heap.size ∧ Blk w' w2.heap.size 45 (bcs Oct.dz) ∧ Blk w' w8.heap.size 45 (bcs (sl b (0))) ∧ Oct.Own w10.heap.size w' vb (recB d b i)) _ ⟨0, v14, rfl, by omega, ⟨rfl, rfl, rfl, rfl, (Eng.ie (by first | omega | rfl)), rfl, rfl, (Eng.ie (by first | omega | rfl)), trivial⟩, hB0_8, (Nat.le_refl _), hk21, hk22, (by rw [recB_zero]; exact hr19)⟩ ?_
  rintro _ u20 w20 ⟨i, vb, rfl, hs20_0, hH20, hBL20, hzL20, hkL20_0, hkL20_1, hrL20_0⟩ K20 hK20
  obtain ⟨u20, rfl⟩ := hH20.ex
  have hrl := recB_len (d := d) hl hs20_0
  have hdl := dgt_le d i
  refine Eng.seqk fun K23 hK23 => ?_
  refine Eng.reg ?_
  by_cases h31 : ((i : Int) : Int) < 133
  · skip
    refine Eng.sv rfl rfl (Eng.x_lt (r := true) rfl rfl rfl (decide_eq_true (by omega))) ?_
    refine Eng.nil ?_
    refine hK23 _ _ ?_
    refine Eng.seqk fun K24 hK24 => ?_
    refine Eng.cond_t rfl ?_
    refine Eng.skp ?_
    refine hK24 _ _ ?_
    refine Eng.seqk fun K25 hK25 => ?_
    refine Eng.blk ?_
    refine Eng.seqk fun K26 hK26 => ?_
    refine Eng.reg ?_
    refine Eng.sv rfl rfl (Eng.x_mv (v := (.int .i64 (i : Int))) rfl rfl) ?_
    refine Eng.sv rfl rfl (Eng.x_ixI (l := (digits d)) (j := i) rfl Tryd.underlying200 sz3_kv ag3_kv (digits_len d) rfl rfl (by omega) (by omega)) ?_
    refine Eng.sv rfl rfl (Eng.x_as (v := (.int .i64 (i : Int))) rfl rfl) ?_
    refine Eng.sv rfl rfl (Eng.x_as (v := (.int .i64 ((((digits d)).getD i 0 : Nat) : Int))) rfl rfl) ?_
    refine Eng.nil ?_
    refine hK26 _ _ ?_
    refine Eng.seqk fun K27 hK27 => ?_
    refine Eng.reg ?_
    refine Eng.sv rfl rfl (Eng.x_mv (v := v) rfl rfl) ?_
    refine Eng.sv rfl rfl (Eng.x_mv (v := (.int .i64 ((32 + 32 * i : Nat) : Int))) rfl rfl) ?_
    have hr28 := (h).below hBL20
    refine Eng.sc rfl (Eng.xc (vl := [v, (.int .i64 ((32 + 32 * i : Nat) : Int))]) rfl rfl rfl en119_kv) ((gdig_calls v b ((32 + 32 * i : Nat) : Int) _ ⟨hr28, by omega⟩ (by omega)).mono fun _ _ => getD_in (by omega)) ?_
    rintro _ w29 ⟨rfl, hb29⟩
    refine Eng.aft_v rfl ?_
    refine Eng.sv rfl rfl (Eng.x_mv (v := (.tuple #[(dg (sl b (32 + 32 * i))), (.int .i64 ((32 + 32 * i + 32 : Nat) : Int)), (.int .i64 0)])) rfl rfl) ?_
    refine Eng.sv rfl rfl (Eng.x_ext (v := (dg (sl b (32 + 32 * i)))) rfl rfl rfl) ?_
    refine Eng.sv rfl rfl (Eng.x_ext (v := (.int .i64 ((32 + 32 * i + 32 : Nat) : Int))) rfl rfl rfl) ?_
    refine Eng.sv rfl rfl (Eng.x_ext (v := (.int .i64 0)) rfl rfl rfl) ?_
    refine Eng.al rfl rfl rfl zr45_kv (cs := (bcs Oct.dz)) rfl ?_
    intro w30 hk30 hb30 hz30
    refine Eng.stB (v := (dg (sl b (32 + 32 * i)))) rfl rfl rfl sz45_kv rfl hk30 rfl rfl (cs' := (bcs (sl b (32 + 32 * i)))) rfl ((bcs_length _).trans (sl_len (by omega))) (bcs_one _) ?_
    intro w31 hk31 hg31
    refine Eng.sv rfl rfl (Eng.x_as (v := (.int .i64 ((32 + 32 * i + 32 : Nat) : Int))) rfl rfl) ?_
    refine Eng.sv rfl rfl (Eng.x_as (v := (.int .i64 0)) rfl rfl) ?_
    refine Eng.nil ?_
    refine hK27 _ _ ?_
    refine Eng.seqk fun K32 hK32 => ?_
    refine Eng.reg ?_
    refine Eng.sv rfl rfl (Eng.x_mv (v := vb) rfl rfl) ?_
    have hk33 := (((hkL20_1).below hb29).below hb30).grown hg31 (fun e => absurd (Option.some.inj e) (Nat.ne_of_lt (Nat.lt_of_lt_of_le hz9 (Nat.le_trans (Nat.le_trans (Nat.le_trans (Nat.le_trans (Nat.le_trans (Nat.le_trans (hg10).size (hb12).size) (hg14).size) (hb18).size) hzL20) (hb29).size) (Nat.le_refl _)))))
    refine Eng.sv rfl rfl (Eng.x_ldB (v := (dg (sl b (0)))) rfl ag45_kv sz45_kv rfl hk33 ((bcs_length _).trans (sl_len (by omega))) rfl) ?_
    refine Eng.sv rfl rfl (Eng.x_mv (v := (.int .i64 (i : Int))) rfl rfl) ?_
    refine Eng.sv rfl rfl (Eng.x_mv (v := (.int .i64 ((((digits d)).getD i 0 : Nat) : Int))) rfl rfl) ?_
    refine Eng.sv rfl rfl (Eng.x_ldB (v := (dg (sl b (32 + 32 * i)))) rfl ag45_kv sz45_kv rfl hk31 ((bcs_length _).trans (sl_len (by omega))) rfl) ?_
    have hB0_10 : Below w.heap.size w w29 := (hBL20).trans (hb29.mono (hBL20).size)
    have hB0_11 : Below w.heap.size w w30 := (hB0_10).trans (hb30.mono (hB0_10).size)
    have hB0_12 : Below w.heap.size w w31 := (hB0_11).grown hg31 (hB0_11).size (fun k e => by cases e; exact Nat.le_trans (hB0_10).size (Nat.le_refl _))
    have hr34 := (hKn).below hB0_12
    refine Eng.sc rfl (Eng.xc (vl := [(dg (sl b (0))), (.int .i64 (i : Int)), (.int .i64 ((((digits d)).getD i 0 : Nat) : Int)), (.int .i64 3), (dg (sl b (32 + 32 * i)))]) rfl rfl rfl en131_kv) (chain_calls (sl b 0) (sl b (32 + 32 * i)) i (dgt d i) 3 _ (sl_len (by omega)) (sl_len (by omega)) (by omega) hdl (by omega) hr34) ?_
    rintro _ w35 ⟨rfl, hb35⟩
    refine Eng.aft_v rfl ?_
    have hr36 := ((((hrL20_0).below hb29).below hb30).kept hg31 (.inr (fun e => absurd ((World.ownsRow.lt hrL20_0) _ e).2 (Nat.not_lt_of_le (Nat.le_trans (hb29).size (Nat.le_refl _)))))).below hb35
    refine Eng.sc rfl (Eng.xc (vl := [vb, (dg (chS d b i))]) rfl rfl rfl en130_kv) (putD_own ⟨(hr36).rd, by rw [hrl]; omega⟩ (chS_len hl (by omega))) ?_
    rintro _ w37 ⟨vx37, rfl, ho37, hb37⟩
    refine Eng.aft_v rfl ?_
    refine Eng.sv rfl rfl (Eng.x_as (v := vx37) rfl rfl) ?_
    refine Eng.nil ?_
    refine hK32 _ _ ?_
    refine Eng.reg ?_
    refine Eng.sv rfl rfl (Eng.x_mv (v := (.int .i64 ((32 + 32 * i + 32 : Nat) : Int))) rfl rfl) ?_
    refine Eng.sv rfl rfl (Eng.x_as (v := (.int .i64 ((32 + 32 * i + 32 : Nat) : Int))) rfl rfl) ?_
    refine Eng.nil ?_
    refine Eng.nb ?_
    refine hK25 _ _ ?_
    refine Eng.reg ?_
    refine Eng.sv rfl rfl (Eng.x_add rfl rfl rfl (Eng.w64 (r := ((i + 1 : Nat) : Int)) (by omega))) ?_
    refine Eng.sv rfl rfl (Eng.x_mv (v := (.int .i64 ((i + 1 : Nat) : Int))) rfl rfl) ?_
    refine Eng.nil ?_
    have hB5_7 : Below w10.heap.size w10 w14 := (hb12).grown hg14 (hb12).size (fun k e => Nat.le_trans (Nat.le_refl _) ((World.ownsRow.lt (Eng.own_lit (base := w10.heap.size) hk12 (Nat.le_refl _) (Nat.le_of_ble_eq_true rfl))) _ e).1)
    have hB5_8 : Below w10.heap.size w10 w18 := (hB5_7).trans (hb18.mono (hB5_7).size)
    have hB0_13 : Below w.heap.size w w35 := (hB0_12).trans (hb35.mono (hB0_12).size)
    have hB0_14 : Below w.heap.size w w37 := (hB0_13).trans (hb37.mono (hB0_13).size)
    have hB2_6 : Below w3.heap.size w3 w12 := (hB2_5).trans (hb12.mono (hB2_5).size)
    have hB2_7 : Below w3.heap.size w3 w14 := (hB2_6).grown hg14 (hB2_6).size (fun k e => Nat.le_trans (hB2_5).size ((World.ownsRow.lt (Eng.own_lit (base := w10.heap.size) hk12 (Nat.le_refl _) (Nat.le_of_ble_eq_true rfl))) _ e).1)
    have hB2_8 : Below w3.heap.size w3 w18 := (hB2_7).trans (hb18.mono (hB2_7).size)
    have hk38 := (((((hkL20_0).below hb29).below hb30).grown hg31 (fun e => absurd (Option.some.inj e) (Nat.ne_of_lt (Nat.lt_of_lt_of_le hz3 (Nat.le_trans (Nat.le_trans (Nat.le_trans (hB2_8).size hzL20) (hb29).size) (Nat.le_refl _)))))).below hb35).below hb37
    have hk39 := ((hk33).below hb35).below hb37
    exact hK20 _ _ _ ⟨i + 1, vx37, rfl, by omega, ⟨rfl, rfl, rfl, rfl, (Eng.ie (by first | omega | rfl)), rfl, rfl, (Eng.ie (by first | omega | rfl)), trivial⟩, hB0_14, (Nat.le_trans (Nat.le_trans (Nat.le_trans (Nat.le_trans (Nat.le_trans hzL20 (hb29).size) (hb30).size) (hg31).size) (hb35).size) (hb37).size), hk38, hk39, (by rw [← recB_succ]; exact (ho37).mono (Nat.le_trans (Nat.le_trans (Nat.le_trans (Nat.le_trans (Nat.le_trans (hB5_8).size hzL20) (hb29).size) (hb30).size) (hg31).size) (hb35).size))⟩ (by omega)
  · skip
    refine Eng.sv rfl rfl (Eng.x_lt (r := false) rfl rfl rfl (decide_eq_false (by omega))) ?_
    refine Eng.nil ?_
    refine hK23 _ _ ?_
    refine Eng.seqk fun K40 hK40 => ?_
    refine Eng.cond_f rfl ?_
    refine Eng.xt ?_
    refine Eng.te ?_
    refine Eng.te ?_
    refine Eng.be ?_
    refine hK15 _ _ ?_
    refine Eng.seqk fun K41 hK41 => ?_
    refine Eng.reg ?_
    refine Eng.sv rfl rfl (Eng.x_mv (v := vb) rfl rfl) ?_
    have hr42 := (hKn).below hBL20
    refine Eng.sc rfl (Eng.xc (vl := [vb]) rfl rfl rfl en132_kv) (hsum_calls _ (recB d b i) _ (hrL20_0).rd (Inn.own hrL20_0) (by rw [hrl]; omega) hr42) ?_
    rintro _ w43 ⟨rfl, hb43⟩
    refine Eng.aft_v rfl ?_
    have hk44 := (hkL20_0).below hb43
    refine Eng.stB (v := (dg (sha (recB d b i)))) rfl rfl rfl sz45_kv rfl hk44 rfl rfl (cs' := (bcs (sha (recB d b i)))) rfl ((bcs_length _).trans (sha_len _)) (bcs_one _) ?_
    intro w45 hk45 hg45
    refine Eng.sv rfl rfl (Eng.x_as (v := (.int .i64 0)) rfl rfl) ?_
    refine Eng.nil ?_
    refine hK41 _ _ ?_
    refine Eng.rt ?_
    refine Eng.ret (Eng.res2 (v1 := (dg (sha (recB d b i)))) (v2 := (.int .i64 0)) rfl (Eng.rdc rfl (Eng.lvB ag45_kv sz45_kv hk45 ((bcs_length _).trans (sha_len _)) rfl)) (Eng.rdt rfl)) ?_
    have q_ : i = 133 := by omega
    have hB0_10 : Below w.heap.size w w43 := (hBL20).trans (hb43.mono (hBL20).size)
    have hB0_11 : Below w.heap.size w w45 := (hB0_10).grown hg45 (hB0_10).size (fun k e => by cases e; exact Nat.le_trans (hb2).size (Nat.le_refl _))
    exact ⟨by rw [q_]; rfl, hB0_11⟩
theorem sl_at (b : List UInt8) (i : Nat) : sl b (32 * (1 + i)) = sl b (32 + 32 * i) := by rw [Nat.mul_add]
set_option maxRecDepth 100000 in
set_option maxHeartbeats 4000000 in
theorem rrec_calls (d b : List UInt8) (v : Value) (w : World) (hd : d.length = 32) (h : Rd w v b) (hl : b.length = 4288) : Calls Tryd.prog 74 #[(dg d), v] w (fun e w' => e = .returned (.tuple #[dg (recS d b), .int .i64 0]) ∧ Below w.heap.size w w') := by
  refine Eng.enter (l := [(dg d), v]) Tryd.func74 rfl 41 rfl (by simp) ?_
  refine Eng.seqk fun K1 hK1 => ?_
  refine Eng.reg ?_
  refine Eng.bo (v := (dg d)) (cs := (bcs d)) rfl rfl rfl rfl rfl ?_
  intro w2 hk2 hb2 hz2
  refine Eng.al rfl rfl rfl zr45_kv (cs := (bcs Oct.dz)) rfl ?_
  intro w3 hk3 hb3 hz3
  refine Eng.sv rfl rfl (Eng.x_as (v := (.int .i64 0)) rfl rfl) ?_
  refine Eng.nil ?_
  refine hK1 _ _ ?_
  refine Eng.seqk fun K4 hK4 => ?_
  refine Eng.seqk fun K5 hK5 => ?_
  refine Eng.reg ?_
  refine Eng.sv rfl rfl (Eng.x_mv (v := v) rfl rfl) ?_
  have hB0_2 : Below w.heap.size w w3 := (hb2).trans (hb3.mono (hb2).size)
  have hr6 := (h).below hB0_2
  refine Eng.sv rfl rfl (Eng.x_len (v := v) (r := (b.length : Int)) rfl Tryd.underlying48 rfl hr6 rfl) ?_
  refine Eng.sv rfl rfl (Eng.x_ne (r := false) rfl rfl rfl (Eng.ne_f (by omega))) ?_
  refine Eng.nil ?_
  refine hK5 _ _ ?_
  refine Eng.cond_f rfl ?_
  refine Eng.skp ?_
  refine hK4 _ _ ?_
  refine Eng.seqk fun K7 hK7 => ?_
  refine Eng.reg ?_
  refine Eng.sv rfl rfl (Eng.x_mv (v := v) rfl rfl) ?_
  refine Eng.sc rfl (Eng.xc (vl := [v, (.int .i64 0)]) rfl rfl rfl en136_kv) (rat_calls _ b 0 _ hr6 (by omega) (by omega)) ?_
  rintro _ w8 ⟨rfl, hb8⟩
  refine Eng.aft_v rfl ?_
  refine Eng.al rfl rfl rfl zr45_kv (cs := (bcs Oct.dz)) rfl ?_
  intro w9 hk9 hb9 hz9
  refine Eng.stB (v := (dg (sl b 0))) rfl rfl rfl sz45_kv rfl hk9 rfl rfl (cs' := (bcs (sl b 0))) rfl ((bcs_length _).trans (sl_len (by omega))) (bcs_one _) ?_
  intro w10 hk10 hg10
  refine Eng.nil ?_
  refine hK7 _ _ ?_
  refine Eng.seqk fun K11 hK11 => ?_
  refine Eng.reg ?_
  have hB1_3 : Below w2.heap.size w2 w8 := (hb3).trans (hb8.mono (hb3).size)
  have hk12 := ((((hk2).below hb3).below hb8).below hb9).grown hg10 (fun e => absurd (Option.some.inj e) (Nat.ne_of_lt (Nat.lt_of_lt_of_le hz2 (Nat.le_trans (hB1_3).size (Nat.le_refl _)))))
  refine Eng.sv rfl rfl (Eng.x_ldB (v := (dg d)) rfl ag45_kv sz45_kv rfl hk12 ((bcs_length _).trans hd) rfl) ?_
  refine Eng.sc rfl (Eng.xc (vl := [(dg d)]) rfl rfl rfl en137_kv) (rdigits_calls d _ hd) ?_
  rintro _ w13 ⟨rfl, hb13⟩
  refine Eng.aft_v rfl ?_
  refine Eng.al rfl rfl rfl zr200_kv (cs := (Eng.ics (List.replicate 133 0))) rfl ?_
  intro w14 hk14 hb14 hz14
  refine Eng.stB (v := (.agg (Eng.ics (digits d)).toArray)) rfl rfl rfl sz200_kv rfl hk14 (Eng.ics_len List.length_replicate) rfl (cs' := (Eng.ics (digits d))) rfl (Eng.ics_len (digits_len d)) (Eng.ics_one _) ?_
  intro w15 hk15 hg15
  refine Eng.nil ?_
  refine hK11 _ _ ?_
  refine Eng.seqk fun K16 hK16 => ?_
  refine Eng.reg ?_
  refine Eng.bs (vs := [(.int .u8 3)]) (cs := (bcs [3])) rfl rfl rfl Tryd.underlying48 in5_kv rfl (by decide) rfl rfl (by decide) (by decide) (by simp [Value.cells]) rfl ?_
  intro w17 hk17 hb17 hz17
  have hk18 := ((((hk10).below hb13).below hb14).grown hg15 (fun e => absurd (Option.some.inj e) (Nat.ne_of_lt (Nat.lt_of_lt_of_le hz9 (Nat.le_trans (Nat.le_trans (hg10).size (hb13).size) (Nat.le_refl _)))))).below hb17
  refine Eng.sv rfl rfl (Eng.x_slA rfl Tryd.underlying45 sz5_kv rfl) ?_
  refine Eng.apB rfl rfl rfl rfl (Eng.own_lit (base := w15.heap.size) hk17 (Nat.le_refl _) (Nat.le_of_ble_eq_true rfl)) rfl (Rd.of_blk hk18 32 (sl_len (by omega)) (by decide)) (by simp only [List.length_append, List.length_cons, List.length_nil, sl_len (show 0 + 32 ≤ b.length by omega)]; omega) (hb17).size ?_
  intro v19 w19 ho19 hg19
  refine Eng.sv rfl rfl (Eng.x_as (v := v19) rfl rfl) ?_
  refine Eng.nil ?_
  refine hK16 _ _ ?_
  refine Eng.seqk fun K20 hK20 => ?_
  refine Eng.seqk fun K21 hK21 => ?_
  refine Eng.reg ?_
  refine Eng.sv rfl rfl (Eng.x_as (v := (.int .i64 0)) rfl rfl) ?_
  refine Eng.nil ?_
  refine hK21 _ _ ?_
  refine Eng.blk ?_
  have hB2_4 : Below w3.heap.size w3 w9 := (hb8).trans (hb9.mono (hb8).size)
  have hB2_5 : Below w3.heap.size w3 w10 := (hB2_4).grown hg10 (hB2_4).size (fun k e => by cases e; exact Nat.le_trans (hb8).size (Nat.le_refl _))
  have hB2_6 : Below w3.heap.size w3 w13 := (hB2_5).trans (hb13.mono (hB2_5).size)
  have hB2_7 : Below w3.heap.size w3 w14 := (hB2_6).trans (hb14.mono (hB2_6).size)
  have hB2_8 : Below w3.heap.size w3 w15 := (hB2_7).grown hg15 (hB2_7).size (fun k e => by cases e; exact Nat.le_trans (hB2_6).size (Nat.le_refl _))
  have hk23 := ((((((((hk3).below hb8).below hb9).grown hg10 (fun e => absurd (Option.some.inj e) (Nat.ne_of_lt (Nat.lt_of_lt_of_le hz3 (Nat.le_trans (hb8).size (Nat.le_refl _)))))).below hb13).below hb14).grown hg15 (fun e => absurd (Option.some.inj e) (Nat.ne_of_lt (Nat.lt_of_lt_of_le hz3 (Nat.le_trans (hB2_6).size (Nat.le_refl _)))))).below hb17).grown hg19 (fun e => absurd ((World.ownsRow.lt (Eng.own_lit (base := w15.heap.size) hk17 (Nat.le_refl _) (Nat.le_of_ble_eq_true rfl))) _ e.symm).1 (Nat.not_le_of_lt (Nat.lt_of_lt_of_le hz3 (hB2_8).size)))
  have hk24 := (hk18).grown hg19 (fun e => absurd ((World.ownsRow.lt (Eng.own_lit (base := w15.heap.size) hk17 (Nat.le_refl _) (Nat.le_of_ble_eq_true rfl))) _ e.symm).1 (Nat.not_le_of_lt (Nat.lt_of_lt_of_le hz9 (Nat.le_trans (Nat.le_trans (Nat.le_trans (hg10).size (hb13).size) (hb14).size) (hg15).size))))
  have hk25 := ((hk15).below hb17).grown hg19 (fun e => absurd ((World.ownsRow.lt (Eng.own_lit (base := w15.heap.size) hk17 (Nat.le_refl _) (Nat.le_of_ble_eq_true rfl))) _ e.symm).1 (Nat.not_le_of_lt (Nat.lt_of_lt_of_le hz14 (hg15).size)))
  have hB0_3 : Below w.heap.size w w8 := (hB0_2).trans (hb8.mono (hB0_2).size)
  have hB0_4 : Below w.heap.size w w9 := (hB0_3).trans (hb9.mono (hB0_3).size)
  have hB0_5 : Below w.heap.size w w10 := (hB0_4).grown hg10 (hB0_4).size (fun k e => by cases e; exact Nat.le_trans (hB0_3).size (Nat.le_refl _))
  have hB0_6 : Below w.heap.size w w13 := (hB0_5).trans (hb13.mono (hB0_5).size)
  have hB0_7 : Below w.heap.size w w14 := (hB0_6).trans (hb14.mono (hB0_6).size)
  have hB0_8 : Below w.heap.size w w15 := (hB0_7).grown hg15 (hB0_7).size (fun k e => by cases e; exact Nat.le_trans (hB0_6).size (Nat.le_refl _))
  have hB0_9 : Below w.heap.size w w17 := (hB0_8).trans (hb17.mono (hB0_8).size)
  have hB0_10 : Below w.heap.size w w19 := (hB0_9).grown hg19 (hB0_9).size (fun k e => Nat.le_trans (hB0_8).size ((World.ownsRow.lt (Eng.own_lit (base := w15.heap.size) hk17 (Nat.le_refl _) (Nat.le_of_ble_eq_true rfl))) _ e).1)
  refine Eng.loopN (fun zz u w' => ∃ (i : Nat), ∃ (vb : Value), zz = 133 - i ∧ i ≤ 133 ∧ Eng.Has u [(1, v), (4, (.pointer (some ⟨w2.heap.size, 0, none⟩))), (5, (.int .i64 0)), (6, (.pointer (some ⟨w8.heap.size, 0, none⟩))), (7, (.pointer (some ⟨w13.heap.size, 0, none⟩))), (8, vb), (9, (.int .i64 (i : Int)))] ∧ Below w.heap.size w w' ∧ w19.heap.size ≤ w'.heap.size ∧ Blk w' w2.heap.size 45 (bcs Oct.dz) ∧ Blk w' w8.heap.size 45 (bcs (sl b 0)) ∧ Blk w' w13.heap.size 200 (Eng.ics (digits d)) ∧ Oct.Own w15.heap.size w' vb (recB d b i)) _ ⟨0, v19, rfl, by omega, ⟨rfl, rfl, rfl, rfl, rfl, rfl, (Eng.ie (by first | omega | rfl)), trivial⟩, hB0_10, (Nat.le_refl _), hk23, hk24, hk25, (by rw [recB_zero]; exact ho19)⟩ ?_
  rintro _ u22 w22 ⟨i, vb, rfl, hs22_0, hH22, hBL22, hzL22, hkL22_0, hkL22_1, hkL22_2, hrL22_0⟩ K22 hK22
  obtain ⟨u22, rfl⟩ := hH22.ex
  have hrl := recB_len (d := d) hl hs22_0
  have hdl := dgt_le d i
  refine Eng.seqk fun K26 hK26 => ?_
  refine Eng.seqk fun K27 hK27 => ?_
  refine Eng.reg ?_
  refine Eng.sv rfl rfl (Eng.x_mv (v := (.int .i64 (i : Int))) rfl rfl) ?_
  by_cases h23 : ((i : Int) : Int) < 133
  · skip
    refine Eng.sv rfl rfl (Eng.x_lt (r := true) rfl rfl rfl (decide_eq_true (by omega))) ?_
    refine Eng.nil ?_
    refine hK27 _ _ ?_
    refine Eng.cond_t rfl ?_
    refine Eng.skp ?_
    refine hK26 _ _ ?_
    refine Eng.seqk fun K28 hK28 => ?_
    refine Eng.blk ?_
    refine Eng.seqk fun K29 hK29 => ?_
    have hr31 := (h).below hBL22
    refine Eng.draw 11 [fun vQ _ => vQ = (dg (sl b 0)), fun vQ _ => vQ = (.int .i64 (i : Int)), fun vQ _ => vQ = (.int .i64 (i : Int)), fun vQ _ => vQ = (.pointer (some ⟨w13.heap.size, i, none⟩)), fun vQ _ => vQ = (.int .i64 ((((digits d)).getD i 0 : Nat) : Int)), fun vQ _ => vQ = v, fun vQ _ => vQ = (.int .i64 (i : Int)), fun vQ _ => vQ = (.int .i64 ((1 + i : Nat) : Int)), fun vQ _ => vQ = (dg (sl b (32 + 32 * i))), fun vQ _ => vQ = (dg (chS d b i)), fun (v : Value) (W : World) => ∃ g, v = .pointer (some ⟨g, 0, none⟩) ∧ Blk W g 45 (bcs Oct.dz) ∧ w22.heap.size ≤ g] (by kernel_rfl) (by kernel_rfl) (by kernel_rfl) (by kernel_rfl) rfl rfl ?_ ?_ ?_
    · exact ⟨fun _ _ _ h _ => h, fun _ _ _ h _ => h, fun _ _ _ h _ => h, fun _ _ _ h _ => h, fun _ _ _ h _ => h, fun _ _ _ h _ => h, fun _ _ _ h _ => h, fun _ _ _ h _ => h, fun _ _ _ h _ => h, fun _ _ _ h _ => h, fun v W W' ⟨g, h1, h2, h3⟩ hb => ⟨g, h1, h2.below hb, h3⟩, trivial⟩
    · refine ⟨?_, ?_, ?_, ?_, ?_, ?_, ?_, ?_, ?_, ?_, ?_, trivial⟩
      · intro u' W hbW hkp hdp K hK
        refine Eng.dv rfl rfl ?_ (hK _ _ (Below.refl _ _) rfl)
        exact (Eng.x_ldB (v := (dg (sl b 0))) rfl ag45_kv sz45_kv (show Eng.opv 41 u' (.tmp 6) = (.pointer (some ⟨w8.heap.size, 0, none⟩)) from hkp 6 rfl) ((hkL22_1).below hbW) ((bcs_length _).trans (sl_len (by omega))) rfl)
      · intro u' W hbW hkp hdp K hK
        refine Eng.dv rfl rfl ?_ (hK _ _ (Below.refl _ _) rfl)
        exact (Eng.x_mv (v := (.int .i64 (i : Int))) rfl (show Eng.opv 41 u' (.tmp 9) = (.int .i64 (i : Int)) from hkp 9 rfl))
      · intro u' W hbW hkp hdp K hK
        refine Eng.dv rfl rfl ?_ (hK _ _ (Below.refl _ _) rfl)
        exact (Eng.x_mv (v := (.int .i64 (i : Int))) rfl (show Eng.opv 41 u' (.tmp 9) = (.int .i64 (i : Int)) from hkp 9 rfl))
      · intro u' W hbW hkp hdp K hK
        have e2 : u' 28 = (.int .i64 (i : Int)) := hdp.1
        refine Eng.dv rfl rfl ?_ (hK _ _ (Below.refl _ _) rfl)
        exact (Eng.x_iaA (j := i) rfl Tryd.underlying200 sz3_kv (show Eng.opv 41 u' (.tmp 7) = (.pointer (some ⟨w13.heap.size, 0, none⟩)) from hkp 7 rfl) (show Eng.opv 41 u' (.tmp 28) = (.int .i64 (i : Int)) from e2) (rfl) (by omega) (Eng.add1 _ _))
      · intro u' W hbW hkp hdp K hK
        have e3 : u' 29 = (.pointer (some ⟨w13.heap.size, i, none⟩)) := hdp.1
        refine Eng.dv rfl rfl ?_ (hK _ _ (Below.refl _ _) rfl)
        exact (Eng.x_ld1 (v := (.int .i64 ((((digits d)).getD i 0 : Nat) : Int))) rfl ag3_kv (show Eng.opv 41 u' (.tmp 29) = (.pointer (some ⟨w13.heap.size, i, none⟩)) from e3) (((((hkL22_2).below hbW)).cell i).trans (Eng.ics_at (by rw [digits_len]; omega))))
      · intro u' W hbW hkp hdp K hK
        refine Eng.dv rfl rfl ?_ (hK _ _ (Below.refl _ _) rfl)
        exact (Eng.x_mv (v := v) rfl (show Eng.opv 41 u' (.tmp 1) = v from hkp 1 rfl))
      · intro u' W hbW hkp hdp K hK
        refine Eng.dv rfl rfl ?_ (hK _ _ (Below.refl _ _) rfl)
        exact (Eng.x_mv (v := (.int .i64 (i : Int))) rfl (show Eng.opv 41 u' (.tmp 9) = (.int .i64 (i : Int)) from hkp 9 rfl))
      · intro u' W hbW hkp hdp K hK
        have e6 : u' 32 = (.int .i64 (i : Int)) := hdp.1
        refine Eng.dv rfl rfl ?_ (hK _ _ (Below.refl _ _) rfl)
        exact (Eng.x_add rfl rfl (show Eng.opv 41 u' (.tmp 32) = (.int .i64 (i : Int)) from e6) (Eng.w64 (r := ((1 + i : Nat) : Int)) (by omega)))
      · intro u' W hbW hkp hdp K hK
        have e5 : u' 31 = v := hdp.1
        have e7 : u' 33 = (.int .i64 ((1 + i : Nat) : Int)) := hdp.2.1
        refine Eng.dc (vs := #[v, (.int .i64 ((1 + i : Nat) : Int))]) rfl ?_ ((sl_at b i ▸ rat_calls _ b (1 + i) _ ((hr31).below hbW) (by omega) (by omega))) ?_
        · exact Eng.xc (xs := #[(Go.Operand.tmp 31), (Go.Operand.tmp 33)]) (vl := [v, (.int .i64 ((1 + i : Nat) : Int))]) rfl rfl (Eng.lc (show Eng.opv 41 u' (.tmp 31) = v from e5) (Eng.lc (show Eng.opv 41 u' (.tmp 33) = (.int .i64 ((1 + i : Nat) : Int)) from e7) rfl)) en136_kv
        rintro _ W2 ⟨rfl, hb2⟩
        exact Eng.aft_v rfl (hK _ _ hb2 rfl)
      · intro u' W hbW hkp hdp K hK
        have e0 : u' 26 = (dg (sl b 0)) := hdp.1
        have e1 : u' 27 = (.int .i64 (i : Int)) := hdp.2.1
        have e4 : u' 30 = (.int .i64 ((((digits d)).getD i 0 : Nat) : Int)) := hdp.2.2.1
        have e8 : u' 34 = (dg (sl b (32 + 32 * i))) := hdp.2.2.2.1
        refine Eng.dc (vs := #[(dg (sl b 0)), (.int .i64 (i : Int)), (.int .i64 ((((digits d)).getD i 0 : Nat) : Int)), (.int .i64 3), (dg (sl b (32 + 32 * i)))]) rfl ?_ (rchain_calls (sl b 0) (sl b (32 + 32 * i)) i (dgt d i) 3 _ (sl_len (by omega)) (sl_len (by omega)) (by omega) hdl (by omega)) ?_
        · exact Eng.xc (xs := #[(Go.Operand.tmp 26), (Go.Operand.tmp 27), (Go.Operand.tmp 30), (Go.Operand.const (Go.Value.int Go.IntKind.i64 3)), (Go.Operand.tmp 34)]) (vl := [(dg (sl b 0)), (.int .i64 (i : Int)), (.int .i64 ((((digits d)).getD i 0 : Nat) : Int)), (.int .i64 3), (dg (sl b (32 + 32 * i)))]) rfl rfl (Eng.lc (show Eng.opv 41 u' (.tmp 26) = (dg (sl b 0)) from e0) (Eng.lc (show Eng.opv 41 u' (.tmp 27) = (.int .i64 (i : Int)) from e1) (Eng.lc (show Eng.opv 41 u' (.tmp 30) = (.int .i64 ((((digits d)).getD i 0 : Nat) : Int)) from e4) (Eng.lc rfl (Eng.lc (show Eng.opv 41 u' (.tmp 34) = (dg (sl b (32 + 32 * i))) from e8) rfl))))) en138_kv
        rintro _ W2 ⟨rfl, hb2⟩
        exact Eng.aft_v rfl (hK _ _ hb2 rfl)
      · intro u' W hbW hkp hdp K hK
        exact Eng.dv rfl rfl (Eng.x_al rfl zr45_kv) (hK _ _ (Eng.below_al _ _) ⟨_, rfl, Eng.blk_al _ _ _ rfl, hbW.size⟩)
    · intro ud30 w30 hb30 hkp30 ⟨f30_0, f30_1, f30_2, f30_3, f30_4, f30_5, f30_6, f30_7, f30_8, f30_9, ⟨gd30_10, f30_10, hkd30_10, hld30_10⟩, _⟩
      obtain rfl := Eng.collect (l := [(26, (dg (sl b 0))), (27, (.int .i64 (i : Int))), (28, (.int .i64 (i : Int))), (29, (.pointer (some ⟨w13.heap.size, i, none⟩))), (30, (.int .i64 ((((digits d)).getD i 0 : Nat) : Int))), (31, v), (32, (.int .i64 (i : Int))), (33, (.int .i64 ((1 + i : Nat) : Int))), (34, (dg (sl b (32 + 32 * i)))), (35, (dg (chS d b i))), (10, (.pointer (some ⟨gd30_10, 0, none⟩)))]) hkp30 ⟨f30_0, f30_1, f30_2, f30_3, f30_4, f30_5, f30_6, f30_7, f30_8, f30_9, f30_10, trivial⟩ rfl
      refine Eng.stB (v := (dg (chS d b i))) rfl rfl rfl sz45_kv rfl hkd30_10 rfl rfl (cs' := (bcs (chS d b i))) rfl ((bcs_length _).trans (chS_len hl (by omega))) (bcs_one _) ?_
      intro w32 hk32 hg32
      refine Eng.nil ?_
      refine hK29 _ _ ?_
      refine Eng.reg ?_
      refine Eng.sv rfl rfl (Eng.x_mv (v := vb) rfl rfl) ?_
      refine Eng.sv rfl rfl (Eng.x_slA rfl Tryd.underlying45 sz5_kv rfl) ?_
      have hr34 := ((hrL22_0).below hb30).kept hg32 (.inr (fun e => absurd ((World.ownsRow.lt hrL22_0) _ e).2 (Nat.not_lt_of_le (Nat.le_trans (Nat.le_refl _) hld30_10))))
      have hB8_10 : Below w15.heap.size w15 w19 := (hb17).grown hg19 (hb17).size (fun k e => Nat.le_trans (Nat.le_refl _) ((World.ownsRow.lt (Eng.own_lit (base := w15.heap.size) hk17 (Nat.le_refl _) (Nat.le_of_ble_eq_true rfl))) _ e).1)
      refine Eng.apB rfl rfl rfl rfl hr34 rfl (Rd.of_blk hk32 32 (chS_len hl (by omega)) (by decide)) (by rw [hrl, chS_len hl (by omega)]; omega) (Nat.le_trans (Nat.le_trans (Nat.le_trans (hB8_10).size hzL22) (hb30).size) (hg32).size) ?_
      intro v33 w33 ho33 hg33
      refine Eng.sv rfl rfl (Eng.x_as (v := v33) rfl rfl) ?_
      refine Eng.nil ?_
      refine Eng.nb ?_
      refine hK28 _ _ ?_
      refine Eng.reg ?_
      refine Eng.sv rfl rfl (Eng.x_mv (v := (.int .i64 (i : Int))) rfl rfl) ?_
      refine Eng.sv rfl rfl (Eng.x_add rfl rfl rfl (Eng.w64 (r := ((i + 1 : Nat) : Int)) (by omega))) ?_
      refine Eng.sv rfl rfl (Eng.x_as (v := (.int .i64 ((i + 1 : Nat) : Int))) rfl rfl) ?_
      refine Eng.nil ?_
      have hB0_12 : Below w.heap.size w w30 := (hBL22).trans (hb30.mono (hBL22).size)
      have hB0_13 : Below w.heap.size w w32 := (hB0_12).grown hg32 (hB0_12).size (fun k e => by cases e; exact Nat.le_trans (hBL22).size hld30_10)
      have hB0_14 : Below w.heap.size w w33 := (hB0_13).grown hg33 (hB0_13).size (fun k e => Nat.le_trans (hB0_8).size ((World.ownsRow.lt hrL22_0) _ e).1)
      have hB2_9 : Below w3.heap.size w3 w17 := (hB2_8).trans (hb17.mono (hB2_8).size)
      have hB2_10 : Below w3.heap.size w3 w19 := (hB2_9).grown hg19 (hB2_9).size (fun k e => Nat.le_trans (hB2_8).size ((World.ownsRow.lt (Eng.own_lit (base := w15.heap.size) hk17 (Nat.le_refl _) (Nat.le_of_ble_eq_true rfl))) _ e).1)
      have hk35 := (((hkL22_0).below hb30).grown hg32 (fun e => absurd (Option.some.inj e) (Nat.ne_of_lt (Nat.lt_of_lt_of_le hz3 (Nat.le_trans (Nat.le_trans (hB2_10).size hzL22) hld30_10))))).grown hg33 (fun e => absurd ((World.ownsRow.lt hrL22_0) _ e.symm).1 (Nat.not_le_of_lt (Nat.lt_of_lt_of_le hz3 (hB2_8).size)))
      have hk36 := (((hkL22_1).below hb30).grown hg32 (fun e => absurd (Option.some.inj e) (Nat.ne_of_lt (Nat.lt_of_lt_of_le hz9 (Nat.le_trans (Nat.le_trans (Nat.le_trans (Nat.le_trans (Nat.le_trans (Nat.le_trans (Nat.le_trans (hg10).size (hb13).size) (hb14).size) (hg15).size) (hb17).size) (hg19).size) hzL22) hld30_10))))).grown hg33 (fun e => absurd ((World.ownsRow.lt hrL22_0) _ e.symm).1 (Nat.not_le_of_lt (Nat.lt_of_lt_of_le hz9 (Nat.le_trans (Nat.le_trans (Nat.le_trans (hg10).size (hb13).size) (hb14).size) (hg15).size))))
      have hk37 := (((hkL22_2).below hb30).grown hg32 (fun e => absurd (Option.some.inj e) (Nat.ne_of_lt (Nat.lt_of_lt_of_le hz14 (Nat.le_trans (Nat.le_trans (Nat.le_trans (Nat.le_trans (hg15).size (hb17).size) (hg19).size) hzL22) hld30_10))))).grown hg33 (fun e => absurd ((World.ownsRow.lt hrL22_0) _ e.symm).1 (Nat.not_le_of_lt (Nat.lt_of_lt_of_le hz14 (hg15).size)))
      exact hK22 _ _ _ ⟨i + 1, v33, rfl, by omega, ⟨rfl, rfl, rfl, rfl, rfl, rfl, (Eng.ie (by first | omega | rfl)), trivial⟩, hB0_14, (Nat.le_trans (Nat.le_trans (Nat.le_trans hzL22 (hb30).size) (hg32).size) (hg33).size), hk35, hk36, hk37, (by rw [← recB_succ]; exact (ho33).mono (Nat.le_refl _))⟩ (by omega)
  · skip
    refine Eng.sv rfl rfl (Eng.x_lt (r := false) rfl rfl rfl (decide_eq_false (by omega))) ?_
    refine Eng.nil ?_
    refine hK27 _ _ ?_
    refine Eng.cond_f rfl ?_
    refine Eng.xt ?_
    refine Eng.te ?_
    refine Eng.te ?_
    refine Eng.be ?_
    refine hK20 _ _ ?_
    refine Eng.seqk fun K38 hK38 => ?_
    refine Eng.reg ?_
    refine Eng.sv rfl rfl (Eng.x_mv (v := vb) rfl rfl) ?_
    refine Eng.sc rfl (Eng.xc (vl := [vb]) rfl rfl rfl en139_kv) (rsum_calls _ (recB d b i) _ (hrL22_0).rd (by rw [hrl]; omega)) ?_
    rintro _ w39 ⟨rfl, hb39⟩
    refine Eng.aft_v rfl ?_
    have hk40 := (hkL22_0).below hb39
    refine Eng.stB (v := (dg (sha (recB d b i)))) rfl rfl rfl sz45_kv rfl hk40 rfl rfl (cs' := (bcs (sha (recB d b i)))) rfl ((bcs_length _).trans (sha_len _)) (bcs_one _) ?_
    intro w41 hk41 hg41
    refine Eng.sv rfl rfl (Eng.x_as (v := (.int .i64 0)) rfl rfl) ?_
    refine Eng.nil ?_
    refine hK38 _ _ ?_
    refine Eng.rt ?_
    refine Eng.ret (Eng.res2 (v1 := (dg (sha (recB d b i)))) (v2 := (.int .i64 0)) rfl (Eng.rdc rfl (Eng.lvB ag45_kv sz45_kv hk41 ((bcs_length _).trans (sha_len _)) rfl)) (Eng.rdt rfl)) ?_
    have q_ : i = 133 := by omega
    have hB0_12 : Below w.heap.size w w39 := (hBL22).trans (hb39.mono (hBL22).size)
    have hB0_13 : Below w.heap.size w w41 := (hB0_12).grown hg41 (hB0_12).size (fun k e => by cases e; exact Nat.le_trans (hb2).size (Nat.le_refl _))
    exact ⟨by rw [q_]; rfl, hB0_13⟩
set_option maxRecDepth 100000 in
set_option maxHeartbeats 4000000 in
theorem parts_calls (v : Value) (b : List UInt8) (h : Int) (n : Nat) (w : World) (hb : Rd w v b) (e1 : h = (n : Int)) (hn : n ≤ 10) (hl : b.length = 4292 + 32 * n) : Calls Tryd.prog 69 #[v, (.int .i64 h)] w (fun e w' => ∃ v2, e = .returned (.tuple #[.int .i64 (num (b.take 4) : Int), Eng.sCut3 v 4 4292 4292 1, v2]) ∧ Eng.OwnD w.heap.size w' v2 (pthS b n) ∧ Below w.heap.size w w') := by
  have hnm := num4 b
  refine Eng.enter (l := [v, (.int .i64 h)]) Tryd.func69 rfl 50 rfl (by simp) ?_
  refine Eng.seqk fun K1 hK1 => ?_
  refine Eng.reg ?_
  refine Eng.sv rfl rfl (Eng.x_as (v := (.int .i64 0)) rfl rfl) ?_
  refine Eng.sv rfl rfl (Eng.x_as (v := (.slice none 0 0)) rfl rfl) ?_
  refine Eng.sv rfl rfl (Eng.x_as (v := (.slice none 0 0)) rfl rfl) ?_
  refine Eng.nil ?_
  refine hK1 _ _ ?_
  refine Eng.seqk fun K2 hK2 => ?_
  refine Eng.reg ?_
  refine Eng.sv rfl rfl (Eng.x_mv (v := v) rfl rfl) ?_
  refine Eng.sc rfl (Eng.xc (vl := [v, (.int .i64 0)]) rfl rfl rfl en128_kv) ((g32_calls v b 0 _ ⟨hb, by omega⟩ (by omega)).mono fun _ _ => getR_in (by omega)) ?_
  rintro _ w3 ⟨rfl, hb3⟩
  refine Eng.aft_v rfl ?_
  refine Eng.sv rfl rfl (Eng.x_mv (v := (.tuple #[(.int .u32 (num (b.take 4) : Int)), (.int .i64 4), (.int .i64 0)])) rfl rfl) ?_
  refine Eng.sv rfl rfl (Eng.x_ext (v := (.int .u32 (num (b.take 4) : Int))) rfl rfl rfl) ?_
  refine Eng.sv rfl rfl (Eng.x_ext (v := (.int .i64 4)) rfl rfl rfl) ?_
  refine Eng.sv rfl rfl (Eng.x_ext (v := (.int .i64 0)) rfl rfl rfl) ?_
  refine Eng.sv rfl rfl (Eng.x_as (v := (.int .u32 (num (b.take 4) : Int))) rfl rfl) ?_
  refine Eng.sv rfl rfl (Eng.x_as (v := (.int .i64 4)) rfl rfl) ?_
  refine Eng.sv rfl rfl (Eng.x_as (v := (.int .i64 0)) rfl rfl) ?_
  refine Eng.nil ?_
  refine hK2 _ _ ?_
  refine Eng.seqk fun K4 hK4 => ?_
  refine Eng.reg ?_
  refine Eng.sv rfl rfl (Eng.x_mv (v := v) rfl rfl) ?_
  refine Eng.sv rfl rfl (Eng.x_mv (v := (.int .i64 4)) rfl rfl) ?_
  refine Eng.sv rfl rfl (Eng.x_mv (v := (.int .i64 4)) rfl rfl) ?_
  refine Eng.sv rfl rfl (Eng.x_add rfl rfl rfl (Eng.w64 (r := 4292) (by omega))) ?_
  refine Eng.sv rfl rfl (Eng.x_mv (v := (.int .i64 4)) rfl rfl) ?_
  refine Eng.sv rfl rfl (Eng.x_add rfl rfl rfl (Eng.w64 (r := 4292) (by omega))) ?_
  have hr5 := (hb).below hb3
  have hq6 : Rd w3 (Eng.sCut3 v 4 4292 4292 1) (sigS b) := (Eng.rd_cut3 (l := 4) (hh := 4292) (m := 4292) hr5 (by omega) (by omega) (by omega))
  refine Eng.sv rfl rfl (Eng.x_sl3 (v := v) rfl Tryd.underlying48 sz5_kv rfl hr5 4 4292 4292 rfl rfl rfl (by omega) (by omega) (by omega)) ?_
  refine Eng.sv rfl rfl (Eng.x_as (v := (Eng.sCut3 v 4 4292 4292 1)) rfl rfl) ?_
  refine Eng.nil ?_
  refine hK4 _ _ ?_
  refine Eng.seqk fun K7 hK7 => ?_
  refine Eng.reg ?_
  refine Eng.sv rfl rfl (Eng.x_as (v := (.slice none 0 0)) rfl rfl) ?_
  refine Eng.nil ?_
  refine hK7 _ _ ?_
  refine Eng.seqk fun K8 hK8 => ?_
  refine Eng.reg ?_
  refine Eng.sv rfl rfl (Eng.x_mv (v := (.int .i64 4)) rfl rfl) ?_
  refine Eng.sv rfl rfl (Eng.x_add rfl rfl rfl (Eng.w64 (r := 4292) (by omega))) ?_
  refine Eng.sv rfl rfl (Eng.x_as (v := (.int .i64 4292)) rfl rfl) ?_
  refine Eng.nil ?_
  refine hK8 _ _ ?_
  refine Eng.seqk fun K9 hK9 => ?_
  refine Eng.seqk fun K10 hK10 => ?_
  refine Eng.reg ?_
  refine Eng.sv rfl rfl (Eng.x_mv (v := (.int .i64 h)) rfl rfl) ?_
  refine Eng.sv rfl rfl (Eng.x_mv (v := (.int .i64 0)) rfl rfl) ?_
  refine Eng.nil ?_
  refine hK10 _ _ ?_
  refine Eng.blk ?_
  refine Eng.loopN (fun zz u w' => ∃ (i : Nat), ∃ (vl : Value), zz = n - i ∧ i ≤ n ∧ Eng.Has u [(0, v), (4, (.int .i64 0)), (5, (.slice none 0 0)), (6, (.slice none 0 0)), (7, (.int .u32 (num (b.take 4) : Int))), (8, (.int .i64 ((4292 + 32 * i : Nat) : Int))), (10, (Eng.sCut3 v 4 4292 4292 1)), (11, vl), (30, (.int .i64 h)), (31, (.int .i64 (i : Int)))] ∧ Below w.heap.size w w' ∧ w3.heap.size ≤ w'.heap.size ∧ Eng.OwnD w3.heap.size w' vl (pthS b i)) _ ⟨0, (.slice none 0 0), rfl, (Nat.zero_le _), ⟨rfl, rfl, rfl, rfl, rfl, (Eng.ie (by first | omega | rfl)), rfl, rfl, rfl, (Eng.ie (by first | omega | rfl)), trivial⟩, hb3, (Nat.le_refl _), (Eng.OwnD.nil _ _)⟩ ?_
  rintro _ u11 w11 ⟨i, vl, rfl, hs11_0, hH11, hBL11, hzL11, hrL11_0⟩ K11 hK11
  obtain ⟨u11, rfl⟩ := hH11.ex
  refine Eng.seqk fun K12 hK12 => ?_
  refine Eng.reg ?_
  by_cases h32 : ((i : Int) : Int) < h
  · skip
    refine Eng.sv rfl rfl (Eng.x_lt (r := true) rfl rfl rfl (decide_eq_true (by omega))) ?_
    refine Eng.nil ?_
    refine hK12 _ _ ?_
    refine Eng.seqk fun K13 hK13 => ?_
    refine Eng.cond_t rfl ?_
    refine Eng.skp ?_
    refine hK13 _ _ ?_
    refine Eng.seqk fun K14 hK14 => ?_
    refine Eng.blk ?_
    refine Eng.seqk fun K15 hK15 => ?_
    refine Eng.reg ?_
    refine Eng.sv rfl rfl (Eng.x_mv (v := v) rfl rfl) ?_
    refine Eng.sv rfl rfl (Eng.x_mv (v := (.int .i64 ((4292 + 32 * i : Nat) : Int))) rfl rfl) ?_
    have hr16 := (hb).below hBL11
    refine Eng.sc rfl (Eng.xc (vl := [v, (.int .i64 ((4292 + 32 * i : Nat) : Int))]) rfl rfl rfl en119_kv) ((gdig_calls v b ((4292 + 32 * i : Nat) : Int) _ ⟨hr16, by omega⟩ (by omega)).mono fun _ _ => getD_in (by omega)) ?_
    rintro _ w17 ⟨rfl, hb17⟩
    refine Eng.aft_v rfl ?_
    refine Eng.sv rfl rfl (Eng.x_mv (v := (.tuple #[(dg (sl b (4292 + 32 * i))), (.int .i64 ((4292 + 32 * i + 32 : Nat) : Int)), (.int .i64 0)])) rfl rfl) ?_
    refine Eng.sv rfl rfl (Eng.x_ext (v := (dg (sl b (4292 + 32 * i)))) rfl rfl rfl) ?_
    refine Eng.sv rfl rfl (Eng.x_ext (v := (.int .i64 ((4292 + 32 * i + 32 : Nat) : Int))) rfl rfl rfl) ?_
    refine Eng.sv rfl rfl (Eng.x_ext (v := (.int .i64 0)) rfl rfl rfl) ?_
    refine Eng.al rfl rfl rfl zr45_kv (cs := (bcs Oct.dz)) rfl ?_
    intro w18 hk18 hb18 hz18
    refine Eng.stB (v := (dg (sl b (4292 + 32 * i)))) rfl rfl rfl sz45_kv rfl hk18 rfl rfl (cs' := (bcs (sl b (4292 + 32 * i)))) rfl ((bcs_length _).trans (sl_len (by omega))) (bcs_one _) ?_
    intro w19 hk19 hg19
    refine Eng.sv rfl rfl (Eng.x_as (v := (.int .i64 ((4292 + 32 * i + 32 : Nat) : Int))) rfl rfl) ?_
    refine Eng.sv rfl rfl (Eng.x_as (v := (.int .i64 0)) rfl rfl) ?_
    refine Eng.nil ?_
    refine hK15 _ _ ?_
    refine Eng.seqk fun K20 hK20 => ?_
    refine Eng.reg ?_
    refine Eng.sv rfl rfl (Eng.x_mv (v := vl) rfl rfl) ?_
    refine Eng.sv rfl rfl (Eng.x_ldB (v := (dg (sl b (4292 + 32 * i)))) rfl ag45_kv sz45_kv rfl hk19 ((bcs_length _).trans (sl_len (by omega))) rfl) ?_
    refine Eng.bs (vs := [(dg (sl b (4292 + 32 * i)))]) (cs := (Dsl.dcs [(sl b (4292 + 32 * i))])) rfl rfl rfl Tryd.underlying36 in45_kv (dg_size dz_length) (by decide) rfl rfl (by decide) (by decide) (Eng.all_cons (p := fun v => v.cells.size = 32) (Eng.dg_cells (sl_len (by omega))) Eng.all_nil) (by simp [Dsl.dcs, Value.cells]) ?_
    intro w21 hk21 hb21 hz21
    have hr23 := ((((hrL11_0).below hb17).below hb18).kept hg19 (.inr (fun e => absurd ((World.ownsRow.lt (hrL11_0).1) _ e).2 (Nat.not_lt_of_le (Nat.le_trans (hb17).size (Nat.le_refl _)))))).below hb21
    refine Eng.apD rfl rfl rfl rfl hr23 rfl (Eng.ds_lit hk21 (Eng.all32_one (sl_len (by omega))) (Nat.le_of_ble_eq_true rfl)) (by rw [pthS_len]; simp only [List.length_cons, List.length_nil]; omega) (Nat.le_trans (Nat.le_trans (Nat.le_trans (Nat.le_trans hzL11 (hb17).size) (hb18).size) (hg19).size) (hb21).size) ?_
    intro v22 w22 ho22 hg22
    rw [← pthS_succ] at ho22
    refine Eng.sv rfl rfl (Eng.x_as (v := v22) rfl rfl) ?_
    refine Eng.nil ?_
    refine hK20 _ _ ?_
    refine Eng.reg ?_
    refine Eng.sv rfl rfl (Eng.x_mv (v := (.int .i64 ((4292 + 32 * i + 32 : Nat) : Int))) rfl rfl) ?_
    refine Eng.sv rfl rfl (Eng.x_as (v := (.int .i64 ((4292 + 32 * i + 32 : Nat) : Int))) rfl rfl) ?_
    refine Eng.nil ?_
    refine Eng.nb ?_
    refine hK14 _ _ ?_
    refine Eng.reg ?_
    refine Eng.sv rfl rfl (Eng.x_add rfl rfl rfl (Eng.w64 (r := ((i + 1 : Nat) : Int)) (by omega))) ?_
    refine Eng.sv rfl rfl (Eng.x_mv (v := (.int .i64 ((i + 1 : Nat) : Int))) rfl rfl) ?_
    refine Eng.nil ?_
    have hB0_3 : Below w.heap.size w w17 := (hBL11).trans (hb17.mono (hBL11).size)
    have hB0_4 : Below w.heap.size w w18 := (hB0_3).trans (hb18.mono (hB0_3).size)
    have hB0_5 : Below w.heap.size w w19 := (hB0_4).grown hg19 (hB0_4).size (fun k e => by cases e; exact Nat.le_trans (hB0_3).size (Nat.le_refl _))
    have hB0_6 : Below w.heap.size w w21 := (hB0_5).trans (hb21.mono (hB0_5).size)
    have hB0_7 : Below w.heap.size w w22 := (hB0_6).grown hg22 (hB0_6).size (fun k e => Nat.le_trans (hb3).size ((World.ownsRow.lt (hrL11_0).1) _ e).1)
    exact hK11 _ _ _ ⟨i + 1, v22, rfl, by omega, ⟨rfl, rfl, rfl, rfl, rfl, (Eng.ie (by first | omega | rfl)), rfl, rfl, rfl, (Eng.ie (by first | omega | rfl)), trivial⟩, hB0_7, (Nat.le_trans (Nat.le_trans (Nat.le_trans (Nat.le_trans (Nat.le_trans hzL11 (hb17).size) (hb18).size) (hg19).size) (hb21).size) (hg22).size), ho22⟩ (by omega)
  · skip
    refine Eng.sv rfl rfl (Eng.x_lt (r := false) rfl rfl rfl (decide_eq_false (by omega))) ?_
    refine Eng.nil ?_
    refine hK12 _ _ ?_
    refine Eng.seqk fun K24 hK24 => ?_
    refine Eng.cond_f rfl ?_
    refine Eng.xt ?_
    refine Eng.te ?_
    refine Eng.te ?_
    refine Eng.be ?_
    refine hK9 _ _ ?_
    refine Eng.seqk fun K25 hK25 => ?_
    refine Eng.reg ?_
    refine Eng.sv rfl rfl (Eng.x_mv (v := (.int .u32 (num (b.take 4) : Int))) rfl rfl) ?_
    refine Eng.sv rfl rfl (Eng.x_conv rfl Tryd.underlying197 Tryd.underlying3 rfl (Eng.w64 (r := (num (b.take 4) : Int)) (by omega))) ?_
    refine Eng.sv rfl rfl (Eng.x_mv (v := (Eng.sCut3 v 4 4292 4292 1)) rfl rfl) ?_
    refine Eng.sv rfl rfl (Eng.x_mv (v := vl) rfl rfl) ?_
    refine Eng.sv rfl rfl (Eng.x_as (v := (.int .i64 (num (b.take 4) : Int))) rfl rfl) ?_
    refine Eng.sv rfl rfl (Eng.x_as (v := (Eng.sCut3 v 4 4292 4292 1)) rfl rfl) ?_
    refine Eng.sv rfl rfl (Eng.x_as (v := vl) rfl rfl) ?_
    refine Eng.nil ?_
    refine hK25 _ _ ?_
    refine Eng.rt ?_
    refine Eng.ret (Eng.res3 (v1 := (.int .i64 (num (b.take 4) : Int))) (v2 := (Eng.sCut3 v 4 4292 4292 1)) (v3 := vl) rfl (Eng.rdt rfl) (Eng.rdt rfl) (Eng.rdt rfl)) ?_
    have hin : i = n := by omega
    rw [hin] at hrL11_0
    exact ⟨_, rfl, (hrL11_0).mono (hb3).size, hBL11⟩
set_option maxRecDepth 100000 in
set_option maxHeartbeats 4000000 in
theorem verify_calls (r d b : List UInt8) (h : Int) (v : Value) (w : World) (hr32 : r.length = 32) (hd : d.length = 32) (hb : Rd w v b) (hbl : b.length ≤ 140737488355000) (hKn : Kon w) : Calls Tryd.prog 29 #[(dg r), (.int .i64 h), (dg d), v] w (fun e w' => e = .returned (.tuple #[.int .i64 (vfK r h d b).1, .int .i64 (vfK r h d b).2]) ∧ Below w.heap.size w w') := by
  refine Eng.enter (l := [(dg r), (.int .i64 h), (dg d), v]) Tryd.func29 rfl 57 rfl (by simp) ?_
  refine Eng.seqk fun K1 hK1 => ?_
  refine Eng.reg ?_
  refine Eng.bo (v := (dg r)) (cs := (bcs r)) rfl rfl rfl rfl rfl ?_
  intro w2 hk2 hb2 hz2
  refine Eng.bo (v := (dg d)) (cs := (bcs d)) rfl rfl rfl rfl rfl ?_
  intro w3 hk3 hb3 hz3
  refine Eng.sv rfl rfl (Eng.x_as (v := (.int .i64 0)) rfl rfl) ?_
  refine Eng.sv rfl rfl (Eng.x_as (v := (.int .i64 0)) rfl rfl) ?_
  refine Eng.nil ?_
  refine hK1 _ _ ?_
  refine Eng.seqk fun K4 hK4 => ?_
  refine Eng.seqk fun K5 hK5 => ?_
  by_cases q0 : kh h = false
  · skip
    refine Eng.reg ?_
    refine Eng.sv rfl rfl (Eng.x_mv (v := (.int .i64 h)) rfl rfl) ?_
    refine Eng.sc rfl (Eng.xc (vl := [(.int .i64 h)]) rfl rfl rfl en63_kv) (kheight_is q0 _) ?_
    rintro _ w6 ⟨rfl, hb6⟩
    refine Eng.aft_v rfl ?_
    refine Eng.sv rfl rfl (Eng.x_not (v := (.bool true)) rfl rfl rfl) ?_
    refine Eng.nil ?_
    refine hK5 _ _ ?_
    refine Eng.cond_t rfl ?_
    refine Eng.seqk fun K7 hK7 => ?_
    refine Eng.reg ?_
    refine Eng.sv rfl rfl (Eng.x_as (v := (.int .i64 0)) rfl rfl) ?_
    refine Eng.sv rfl rfl (Eng.x_as (v := (.int .i64 2)) rfl rfl) ?_
    refine Eng.nil ?_
    refine hK7 _ _ ?_
    refine Eng.rt ?_
    refine Eng.tr ?_
    refine Eng.ret (Eng.res2 (v1 := (.int .i64 0)) (v2 := (.int .i64 2)) rfl (Eng.rdt rfl) (Eng.rdt rfl)) ?_
    have hB0_2 : Below w.heap.size w w3 := (hb2).trans (hb3.mono (hb2).size)
    have hB0_3 : Below w.heap.size w w6 := (hB0_2).trans (hb6.mono (hB0_2).size)
    exact ⟨by rw [vf_no q0], hB0_3⟩
  · skip
    obtain ⟨n, e1, hn, hp⟩ := kh_nat q0
    have hnm := num4 b
    refine Eng.reg ?_
    refine Eng.sv rfl rfl (Eng.x_mv (v := (.int .i64 h)) rfl rfl) ?_
    refine Eng.sc rfl (Eng.xc (vl := [(.int .i64 h)]) rfl rfl rfl en63_kv) (kheight_is (by simpa using q0) _) ?_
    rintro _ w8 ⟨rfl, hb8⟩
    refine Eng.aft_v rfl ?_
    refine Eng.sv rfl rfl (Eng.x_not (v := (.bool false)) rfl rfl rfl) ?_
    refine Eng.nil ?_
    refine hK5 _ _ ?_
    refine Eng.cond_f rfl ?_
    refine Eng.skp ?_
    refine hK4 _ _ ?_
    refine Eng.seqk fun K9 hK9 => ?_
    refine Eng.seqk fun K10 hK10 => ?_
    refine Eng.reg ?_
    refine Eng.sv rfl rfl (Eng.x_mv (v := v) rfl rfl) ?_
    have hB0_2 : Below w.heap.size w w3 := (hb2).trans (hb3.mono (hb2).size)
    have hB0_3 : Below w.heap.size w w8 := (hB0_2).trans (hb8.mono (hB0_2).size)
    have hr11 := (hb).below hB0_3
    refine Eng.sv rfl rfl (Eng.x_len (v := v) (r := (b.length : Int)) rfl Tryd.underlying48 rfl hr11 rfl) ?_
    refine Eng.sv rfl rfl (Eng.x_mv (v := (.int .i64 h)) rfl rfl) ?_
    refine Eng.sv rfl rfl (Eng.x_mul rfl rfl rfl (Eng.w64 (r := (32 * h)) (by omega))) ?_
    refine Eng.sv rfl rfl (Eng.x_add rfl rfl rfl (Eng.w64 (r := (4292 + 32 * h)) (by omega))) ?_
    by_cases hL : ((b.length : Int) : Int) ≠ (4292 + 32 * h)
    · skip
      refine Eng.sv rfl rfl (Eng.x_ne (r := true) rfl rfl rfl (Eng.ne_t (by omega))) ?_
      refine Eng.nil ?_
      refine hK10 _ _ ?_
      refine Eng.cond_t rfl ?_
      refine Eng.seqk fun K12 hK12 => ?_
      refine Eng.reg ?_
      refine Eng.sv rfl rfl (Eng.x_as (v := (.int .i64 0)) rfl rfl) ?_
      refine Eng.sv rfl rfl (Eng.x_as (v := (.int .i64 190)) rfl rfl) ?_
      refine Eng.nil ?_
      refine hK12 _ _ ?_
      refine Eng.rt ?_
      refine Eng.tr ?_
      refine Eng.ret (Eng.res2 (v1 := (.int .i64 0)) (v2 := (.int .i64 190)) rfl (Eng.rdt rfl) (Eng.rdt rfl)) ?_
      exact ⟨by rw [vf_len q0 hL], hB0_3⟩
    · skip
      have hln : b.length = 4292 + 32 * n := by omega
      refine Eng.sv rfl rfl (Eng.x_ne (r := false) rfl rfl rfl (Eng.ne_f (by omega))) ?_
      refine Eng.nil ?_
      refine hK10 _ _ ?_
      refine Eng.cond_f rfl ?_
      refine Eng.skp ?_
      refine hK9 _ _ ?_
      refine Eng.seqk fun K13 hK13 => ?_
      refine Eng.reg ?_
      refine Eng.sv rfl rfl (Eng.x_mv (v := v) rfl rfl) ?_
      refine Eng.sv rfl rfl (Eng.x_mv (v := (.int .i64 h)) rfl rfl) ?_
      refine Eng.sc rfl (Eng.xc (vl := [v, (.int .i64 h)]) rfl rfl rfl en69_kv) (parts_calls _ b h n _ hr11 e1 hn hln) ?_
      rintro _ w14 ⟨vx14, rfl, ho14, hb14⟩
      refine Eng.aft_v rfl ?_
      refine Eng.sv rfl rfl (Eng.x_mv (v := (.tuple #[(.int .i64 (num (b.take 4) : Int)), (Eng.sCut3 v 4 4292 4292 1), vx14])) rfl rfl) ?_
      refine Eng.sv rfl rfl (Eng.x_ext (v := (.int .i64 (num (b.take 4) : Int))) rfl rfl rfl) ?_
      refine Eng.sv rfl rfl (Eng.x_ext (v := (Eng.sCut3 v 4 4292 4292 1)) rfl rfl rfl) ?_
      refine Eng.sv rfl rfl (Eng.x_ext (v := vx14) rfl rfl rfl) ?_
      refine Eng.sv rfl rfl (Eng.x_as (v := (.int .i64 (num (b.take 4) : Int))) rfl rfl) ?_
      refine Eng.sv rfl rfl (Eng.x_as (v := (Eng.sCut3 v 4 4292 4292 1)) rfl rfl) ?_
      refine Eng.sv rfl rfl (Eng.x_as (v := vx14) rfl rfl) ?_
      refine Eng.nil ?_
      refine hK13 _ _ ?_
      refine Eng.seqk fun K15 hK15 => ?_
      refine Eng.seqk fun K16 hK16 => ?_
      refine Eng.reg ?_
      refine Eng.sv rfl rfl (Eng.x_mv (v := (.int .i64 (num (b.take 4) : Int))) rfl rfl) ?_
      refine Eng.sv rfl rfl (Eng.x_mv (v := (.int .i64 h)) rfl rfl) ?_
      refine Eng.sv rfl rfl (Eng.x_shl rfl rfl rfl (by omega) (r := ((2 ^ n : Nat) : Int)) ((shl_eq (x := 1) rfl e1 (by omega) (by rw [Nat.one_mul]; omega)).trans (by rw [Nat.one_mul]))) ?_
      by_cases hB : ((num (b.take 4) : Int) : Int) ≥ ((2 ^ n : Nat) : Int)
      · skip
        refine Eng.sv rfl rfl (Eng.x_ge (r := true) rfl rfl rfl (decide_eq_true (by omega))) ?_
        refine Eng.nil ?_
        refine hK16 _ _ ?_
        refine Eng.cond_t rfl ?_
        refine Eng.seqk fun K17 hK17 => ?_
        refine Eng.reg ?_
        refine Eng.sv rfl rfl (Eng.x_as (v := (.int .i64 0)) rfl rfl) ?_
        refine Eng.sv rfl rfl (Eng.x_as (v := (.int .i64 190)) rfl rfl) ?_
        refine Eng.nil ?_
        refine hK17 _ _ ?_
        refine Eng.rt ?_
        refine Eng.tr ?_
        refine Eng.ret (Eng.res2 (v1 := (.int .i64 0)) (v2 := (.int .i64 190)) rfl (Eng.rdt rfl) (Eng.rdt rfl)) ?_
        have hB0_4 : Below w.heap.size w w14 := (hB0_3).trans (hb14.mono (hB0_3).size)
        exact ⟨by rw [vf_big q0 e1 (by omega) (by omega)], hB0_4⟩
      · skip
        refine Eng.sv rfl rfl (Eng.x_ge (r := false) rfl rfl rfl (decide_eq_false (by omega))) ?_
        refine Eng.nil ?_
        refine hK16 _ _ ?_
        refine Eng.cond_f rfl ?_
        refine Eng.skp ?_
        refine hK15 _ _ ?_
        refine Eng.seqk fun K18 hK18 => ?_
        refine Eng.reg ?_
        have hk19 := ((hk3).below hb8).below hb14
        refine Eng.sv rfl rfl (Eng.x_ldB (v := (dg d)) rfl ag45_kv sz45_kv rfl hk19 ((bcs_length _).trans hd) rfl) ?_
        refine Eng.sv rfl rfl (Eng.x_mv (v := (Eng.sCut3 v 4 4292 4292 1)) rfl rfl) ?_
        have hr20 := ((Eng.rd_cut3 (l := 4) (hh := 4292) (m := 4292) hr11 (by omega) (by omega) (by omega))).below hb14
        have hB0_4 : Below w.heap.size w w14 := (hB0_3).trans (hb14.mono (hB0_3).size)
        have hr21 := (hKn).below hB0_4
        refine Eng.sc rfl (Eng.xc (vl := [(dg d), (Eng.sCut3 v 4 4292 4292 1)]) rfl rfl rfl en70_kv) (rec_calls d (sigS b) _ _ hd hr20 (sigS_len (by omega)) hr21) ?_
        rintro _ w22 ⟨rfl, hb22⟩
        refine Eng.aft_v rfl ?_
        refine Eng.sv rfl rfl (Eng.x_mv (v := (.tuple #[(dg (recS d (sigS b))), (.int .i64 0)])) rfl rfl) ?_
        refine Eng.sv rfl rfl (Eng.x_ext (v := (dg (recS d (sigS b)))) rfl rfl rfl) ?_
        refine Eng.sv rfl rfl (Eng.x_ext (v := (.int .i64 0)) rfl rfl rfl) ?_
        refine Eng.al rfl rfl rfl zr45_kv (cs := (bcs Oct.dz)) rfl ?_
        intro w23 hk23 hb23 hz23
        refine Eng.stB (v := (dg (recS d (sigS b)))) rfl rfl rfl sz45_kv rfl hk23 rfl rfl (cs' := (bcs (recS d (sigS b)))) rfl ((bcs_length _).trans (recS_len _ _)) (bcs_one _) ?_
        intro w24 hk24 hg24
        refine Eng.sv rfl rfl (Eng.x_as (v := (.int .i64 0)) rfl rfl) ?_
        refine Eng.nil ?_
        refine hK18 _ _ ?_
        refine Eng.seqk fun K25 hK25 => ?_
        refine Eng.seqk fun K26 hK26 => ?_
        have hB0_5 : Below w.heap.size w w22 := (hB0_4).trans (hb22.mono (hB0_4).size)
        have hB0_6 : Below w.heap.size w w23 := (hB0_5).trans (hb23.mono (hB0_5).size)
        have hB0_7 : Below w.heap.size w w24 := (hB0_6).grown hg24 (hB0_6).size (fun k e => by cases e; exact Nat.le_trans (hB0_5).size (Nat.le_refl _))
        have hr28 := (hKn).below hB0_7
        have hr29 := (((ho14).below hb22).below hb23).kept hg24 (.inr (fun e => absurd ((World.ownsRow.lt (ho14).1) _ e).2 (Nat.not_lt_of_le (Nat.le_trans (hb22).size (Nat.le_refl _)))))
        refine Eng.drawL 12 11 [9] [fun vQ _ => vQ = (.slice (some ⟨w22.heap.size, 0, none⟩) 32 32), fun vQ _ => vQ = (dg (leafS (recS d (sigS b)))), fun vQ _ => vQ = (.int .i64 (num (b.take 4) : Int)), fun vQ _ => vQ = (.int .i64 h), fun vQ _ => vQ = (.int .i64 ((2 ^ n : Nat) : Int)), fun vQ _ => vQ = vx14, fun vQ _ => vQ = (.tuple #[(dg (gotS d b n)), (.int .i64 (rootE (num (b.take 4) : Int) ((2 ^ n : Nat) : Int) (pthS b n).length))]), fun vQ _ => vQ = (.tuple #[(dg (gotS d b n)), (.int .i64 (rootE (num (b.take 4) : Int) ((2 ^ n : Nat) : Int) (pthS b n).length))]), fun vQ _ => vQ = (dg (gotS d b n)), fun vQ _ => vQ = (.int .i64 (rootE (num (b.take 4) : Int) ((2 ^ n : Nat) : Int) (pthS b n).length)), fun (v : Value) (W : World) => ∃ g, v = .pointer (some ⟨g, 0, none⟩) ∧ Blk W g 45 (bcs Oct.dz) ∧ w24.heap.size ≤ g, fun (_ : Value) (_ : World) => True] (fun (uP : Nat → Value) (V W : World) => ∃ g, uP 15 = .pointer (some ⟨g, 0, none⟩) ∧ V.grownBy W (some g) ∧ Blk W g 45 (bcs (gotS d b n)) ∧ w24.heap.size ≤ g) (by kernel_rfl) (by kernel_rfl) (by kernel_rfl) (by kernel_rfl) (by kernel_rfl) (by kernel_rfl) rfl (by kernel_rfl) rfl rfl ?_ rfl ?_ ?_ ?_
        · exact ⟨fun _ _ _ _ h _ _ => h, fun _ _ _ _ h _ _ => h, fun _ _ _ _ h _ _ => h, fun _ _ _ _ h _ _ => h, fun _ _ _ _ h _ _ => h, fun _ _ _ _ h _ _ => h, fun _ _ _ _ h _ _ => h, fun _ _ _ _ h _ _ => h, fun _ _ _ _ h _ _ => h, fun _ _ _ _ h _ _ => h, fun hE v W W' ⟨g, h1, h2, h3⟩ h0 hb => ⟨g, h1, Eng.blk_grL h2 hb (fun hm => Nat.lt_irrefl _ (Nat.lt_of_lt_of_le (hE _ hm) h3)), h3⟩, fun _ _ _ _ _ _ _ => trivial, trivial⟩
        · refine ⟨?_, ?_, ?_, ?_, ?_, ?_, ?_, ?_, ?_, ?_, ?_, ?_, trivial⟩
          · refine ⟨fun h_ => absurd h_ (by decide), fun _ => ?_⟩
            intro u' W hbW hkp hdp hEd K hK
            have hK := Eng.sdv rfl hK
            refine Eng.dv rfl rfl ?_ (hK _ _ (Below.refl _ _) rfl)
            exact (Eng.x_slA rfl Tryd.underlying45 sz5_kv (show Eng.opv 57 u' (.tmp 13) = (.pointer (some ⟨w22.heap.size, 0, none⟩)) from hkp 13 rfl))
          · refine ⟨fun h_ => absurd h_ (by decide), fun _ => ?_⟩
            intro u' W hbW hkp hdp hEd K hK
            have e0 : u' 44 = (.slice (some ⟨w22.heap.size, 0, none⟩) 32 32) := hdp.1
            have hK := Eng.sdv rfl hK
            refine Eng.dc (vs := #[(.slice (some ⟨w22.heap.size, 0, none⟩) 32 32)]) rfl ?_ (leaf_calls _ (recS d (sigS b)) _ (((Rd.of_blk hk24 32 (recS_len _ _) (by decide))).below (Eng.bel_grL ((Below.refl _ _)) hbW (Nat.le_refl _) Eng.le_nil)) (recS_len _ _) ((hKn).below (Eng.bel_grL (hB0_7) hbW (hB0_7).size Eng.le_nil))) ?_
            · exact Eng.xc (xs := #[(Go.Operand.tmp 44)]) (vl := [(.slice (some ⟨w22.heap.size, 0, none⟩) 32 32)]) rfl rfl (Eng.lc (show Eng.opv 57 u' (.tmp 44) = (.slice (some ⟨w22.heap.size, 0, none⟩) 32 32) from e0) rfl) en72_kv
            rintro _ W2 ⟨rfl, hb2⟩
            exact Eng.aft_v rfl (hK _ _ hb2 rfl)
          · refine ⟨fun h_ => absurd h_ (by decide), fun _ => ?_⟩
            intro u' W hbW hkp hdp hEd K hK
            have hK := Eng.sdv rfl hK
            refine Eng.dv rfl rfl ?_ (hK _ _ (Below.refl _ _) rfl)
            exact (Eng.x_mv (v := (.int .i64 (num (b.take 4) : Int))) rfl (show Eng.opv 57 u' (.tmp 10) = (.int .i64 (num (b.take 4) : Int)) from hkp 10 rfl))
          · refine ⟨fun h_ => absurd h_ (by decide), fun _ => ?_⟩
            intro u' W hbW hkp hdp hEd K hK
            have hK := Eng.sdv rfl hK
            refine Eng.dv rfl rfl ?_ (hK _ _ (Below.refl _ _) rfl)
            exact (Eng.x_mv (v := (.int .i64 h)) rfl (show Eng.opv 57 u' (.tmp 1) = (.int .i64 h) from hkp 1 rfl))
          · refine ⟨fun h_ => absurd h_ (by decide), fun _ => ?_⟩
            intro u' W hbW hkp hdp hEd K hK
            have e3 : u' 47 = (.int .i64 h) := hdp.1
            have hK := Eng.sdv rfl hK
            refine Eng.dv rfl rfl ?_ (hK _ _ (Below.refl _ _) rfl)
            exact (Eng.x_shl rfl rfl (show Eng.opv 57 u' (.tmp 47) = (.int .i64 h) from e3) (by omega) (r := ((2 ^ n : Nat) : Int)) ((shl_eq (x := 1) rfl e1 (by omega) (by rw [Nat.one_mul]; omega)).trans (by rw [Nat.one_mul])))
          · refine ⟨fun h_ => absurd h_ (by decide), fun _ => ?_⟩
            intro u' W hbW hkp hdp hEd K hK
            have hK := Eng.sdv rfl hK
            refine Eng.dv rfl rfl ?_ (hK _ _ (Below.refl _ _) rfl)
            exact (Eng.x_mv (v := vx14) rfl (show Eng.opv 57 u' (.tmp 12) = vx14 from hkp 12 rfl))
          · refine ⟨fun h_ => absurd h_ (by decide), fun _ => ?_⟩
            intro u' W hbW hkp hdp hEd K hK
            have e1 : u' 45 = (dg (leafS (recS d (sigS b)))) := hdp.1
            have e2 : u' 46 = (.int .i64 (num (b.take 4) : Int)) := hdp.2.1
            have e4 : u' 48 = (.int .i64 ((2 ^ n : Nat) : Int)) := hdp.2.2.1
            have e5 : u' 49 = vx14 := hdp.2.2.2.1
            have hK := Eng.sdv rfl hK
            refine Eng.dc (vs := #[(dg (leafS (recS d (sigS b)))), (.int .i64 (num (b.take 4) : Int)), (.int .i64 ((2 ^ n : Nat) : Int)), vx14]) rfl ?_ (root_calls _ (leafS_len _) (num (b.take 4) : Int) ((2 ^ n : Nat) : Int) _ (pthS b n) _ (((hr29).grL hbW (fun k e => Eng.nin_nil))).ds ((hKn).below (Eng.bel_grL (hB0_7) hbW (hB0_7).size Eng.le_nil))) ?_
            · exact Eng.xc (xs := #[(Go.Operand.tmp 45), (Go.Operand.tmp 46), (Go.Operand.tmp 48), (Go.Operand.tmp 49)]) (vl := [(dg (leafS (recS d (sigS b)))), (.int .i64 (num (b.take 4) : Int)), (.int .i64 ((2 ^ n : Nat) : Int)), vx14]) rfl rfl (Eng.lc (show Eng.opv 57 u' (.tmp 45) = (dg (leafS (recS d (sigS b)))) from e1) (Eng.lc (show Eng.opv 57 u' (.tmp 46) = (.int .i64 (num (b.take 4) : Int)) from e2) (Eng.lc (show Eng.opv 57 u' (.tmp 48) = (.int .i64 ((2 ^ n : Nat) : Int)) from e4) (Eng.lc (show Eng.opv 57 u' (.tmp 49) = vx14 from e5) rfl)))) en71_kv
            rintro _ W2 ⟨rfl, hb2⟩
            exact Eng.aft_v rfl (hK _ _ hb2 rfl)
          · refine ⟨fun h_ => absurd h_ (by decide), fun _ => ?_⟩
            intro u' W hbW hkp hdp hEd K hK
            have e6 : u' 50 = (.tuple #[(dg (gotS d b n)), (.int .i64 (rootE (num (b.take 4) : Int) ((2 ^ n : Nat) : Int) (pthS b n).length))]) := hdp.1
            have hK := Eng.sdv rfl hK
            refine Eng.dv rfl rfl ?_ (hK _ _ (Below.refl _ _) rfl)
            exact (Eng.x_mv (v := (.tuple #[(dg (gotS d b n)), (.int .i64 (rootE (num (b.take 4) : Int) ((2 ^ n : Nat) : Int) (pthS b n).length))])) rfl (show Eng.opv 57 u' (.tmp 50) = (.tuple #[(dg (gotS d b n)), (.int .i64 (rootE (num (b.take 4) : Int) ((2 ^ n : Nat) : Int) (pthS b n).length))]) from e6))
          · refine ⟨fun h_ => absurd h_ (by decide), fun _ => ?_⟩
            intro u' W hbW hkp hdp hEd K hK
            have e7 : u' 43 = (.tuple #[(dg (gotS d b n)), (.int .i64 (rootE (num (b.take 4) : Int) ((2 ^ n : Nat) : Int) (pthS b n).length))]) := hdp.1
            have hK := Eng.sdv rfl hK
            refine Eng.dv rfl rfl ?_ (hK _ _ (Below.refl _ _) rfl)
            exact (Eng.x_ext (v := (dg (gotS d b n))) rfl (show Eng.opv 57 u' (.tmp 43) = (.tuple #[(dg (gotS d b n)), (.int .i64 (rootE (num (b.take 4) : Int) ((2 ^ n : Nat) : Int) (pthS b n).length))]) from e7) rfl)
          · refine ⟨fun h_ => absurd h_ (by decide), fun _ => ?_⟩
            intro u' W hbW hkp hdp hEd K hK
            have e7 : u' 43 = (.tuple #[(dg (gotS d b n)), (.int .i64 (rootE (num (b.take 4) : Int) ((2 ^ n : Nat) : Int) (pthS b n).length))]) := hdp.1
            have hK := Eng.sdv rfl hK
            refine Eng.dv rfl rfl ?_ (hK _ _ (Below.refl _ _) rfl)
            exact (Eng.x_ext (v := (.int .i64 (rootE (num (b.take 4) : Int) ((2 ^ n : Nat) : Int) (pthS b n).length))) rfl (show Eng.opv 57 u' (.tmp 43) = (.tuple #[(dg (gotS d b n)), (.int .i64 (rootE (num (b.take 4) : Int) ((2 ^ n : Nat) : Int) (pthS b n).length))]) from e7) rfl)
          · refine ⟨fun h_ => absurd h_ (by decide), fun _ => ?_⟩
            intro u' W hbW hkp hdp hEd K hK
            have hK := Eng.sdv rfl hK
            exact Eng.dv rfl rfl (Eng.x_al rfl zr45_kv) (hK _ _ (Eng.below_al _ _) ⟨_, rfl, Eng.blk_al _ _ _ rfl, hbW.size⟩)
          · refine ⟨fun _ => ?_, fun h_ => absurd h_ (by decide)⟩
            intro u' W hbV hkp hdp K hK
            have hbW := Eng.GrL.of_below (E := []) (w := w24) hbV
            obtain ⟨gd27_10, e10, hkx10, hlx10⟩ : (fun (v : Value) (W : World) => ∃ g, v = .pointer (some ⟨g, 0, none⟩) ∧ Blk W g 45 (bcs Oct.dz) ∧ w24.heap.size ≤ g) (u' 15) W := hdp.1
            have e8 : u' 51 = (dg (gotS d b n)) := hdp.2.1
            refine Eng.sstB (FL := []) (BL := [⟨gd27_10, 45, (bcs Oct.dz), [(11, (bcs (gotS d b n)))]⟩]) (i := 11) (v := (dg (gotS d b n))) rfl rfl rfl sz45_kv rfl rfl (show Eng.opv 57 u' (.tmp 15) = (.pointer (some ⟨gd27_10, 0, none⟩)) from e10) hkx10 rfl (show Eng.opv 57 u' (.tmp 51) = (dg (gotS d b n)) from e8) rfl ((bcs_length _).trans (gotS_len _ _ _)) (bcs_one _) ?_
            exact Eng.outS_st rfl (fun W2 hgr hk2 => hK W2 ⟨gd27_10, e10, hgr, hk2, hlx10⟩)
        · refine ⟨?_, trivial⟩
          · refine ⟨fun uP v V W ⟨g, h1, h2⟩ => ⟨g, (Eng.upd_other uP 52 v 15 (by decide)).trans h1, h2⟩, fun o ho u' V W hdp K hK => ?_⟩
            obtain rfl := Eng.someInj ho
            have e7 : u' 43 = (.tuple #[(dg (gotS d b n)), (.int .i64 (rootE (num (b.take 4) : Int) ((2 ^ n : Nat) : Int) (pthS b n).length))]) := hdp.1
            refine Eng.dv rfl rfl ?_ (hK _ rfl)
            exact (Eng.x_ext (v := (.int .i64 (rootE (num (b.take 4) : Int) ((2 ^ n : Nat) : Int) (pthS b n).length))) rfl (show Eng.opv 57 u' (.tmp 43) = (.tuple #[(dg (gotS d b n)), (.int .i64 (rootE (num (b.take 4) : Int) ((2 ^ n : Nat) : Int) (pthS b n).length))]) from e7) rfl)
        · intro ud27 w27 wB27 hb27 hkp27 ⟨f27_0, f27_1, f27_2, f27_3, f27_4, f27_5, f27_6, f27_7, f27_8, f27_9, ⟨gd27_10, f27_10, hkd27_10, hld27_10⟩, _, _⟩ ⟨gP27, eP27, hgP27, hkP27, hlP27⟩
          obtain rfl := Eng.collectS (l := [(44, (.slice (some ⟨w22.heap.size, 0, none⟩) 32 32)), (45, (dg (leafS (recS d (sigS b))))), (46, (.int .i64 (num (b.take 4) : Int))), (47, (.int .i64 h)), (48, (.int .i64 ((2 ^ n : Nat) : Int))), (49, vx14), (50, (.tuple #[(dg (gotS d b n)), (.int .i64 (rootE (num (b.take 4) : Int) ((2 ^ n : Nat) : Int) (pthS b n).length))])), (43, (.tuple #[(dg (gotS d b n)), (.int .i64 (rootE (num (b.take 4) : Int) ((2 ^ n : Nat) : Int) (pthS b n).length))])), (51, (dg (gotS d b n))), (52, (.int .i64 (rootE (num (b.take 4) : Int) ((2 ^ n : Nat) : Int) (pthS b n).length))), (15, (.pointer (some ⟨gP27, 0, none⟩)))]) hkp27 ⟨f27_0, f27_1, f27_2, f27_3, f27_4, f27_5, f27_6, f27_7, f27_8, f27_9, eP27, trivial⟩ rfl
          refine Eng.sv rfl rfl (Eng.x_as (v := (.int .i64 (rootE (num (b.take 4) : Int) ((2 ^ n : Nat) : Int) (pthS b n).length))) rfl rfl) ?_
          refine Eng.nil ?_
          refine hK26 _ _ ?_
          refine Eng.seqk fun K30 hK30 => ?_
          refine Eng.reg ?_
          refine Eng.sv rfl rfl (Eng.x_ldB (v := (dg (gotS d b n))) rfl ag45_kv sz45_kv rfl hkP27 ((bcs_length _).trans (gotS_len _ _ _)) rfl) ?_
          have hB1_3 : Below w2.heap.size w2 w8 := (hb3).trans (hb8.mono (hb3).size)
          have hB1_4 : Below w2.heap.size w2 w14 := (hB1_3).trans (hb14.mono (hB1_3).size)
          have hB1_5 : Below w2.heap.size w2 w22 := (hB1_4).trans (hb22.mono (hB1_4).size)
          have hB1_6 : Below w2.heap.size w2 w23 := (hB1_5).trans (hb23.mono (hB1_5).size)
          have hB1_7 : Below w2.heap.size w2 w24 := (hB1_6).grown hg24 (hB1_6).size (fun k e => by cases e; exact Nat.le_trans (hB1_5).size (Nat.le_refl _))
          have hk31 := ((((((((hk2).below hb3).below hb8).below hb14).below hb22).below hb23).grown hg24 (fun e => absurd (Option.some.inj e) (Nat.ne_of_lt (Nat.lt_of_lt_of_le hz2 (Nat.le_trans (hB1_5).size (Nat.le_refl _)))))).below hb27).grown hgP27 (fun e => absurd (Option.some.inj e) (Nat.ne_of_lt (Nat.lt_of_lt_of_le hz2 (Nat.le_trans (hB1_7).size hlP27))))
          refine Eng.sv rfl rfl (Eng.x_ldB (v := (dg r)) rfl ag45_kv sz45_kv rfl hk31 ((bcs_length _).trans hr32) rfl) ?_
          by_cases hR : ((gotS d b n) : List UInt8) ≠ r
          · skip
            refine Eng.sv rfl rfl (Eng.x_neA (p := (gotS d b n)) (q := r) (r := true) rfl Tryd.underlying45 Tryd.underlying5 sz5_kv (by kernel_rfl) rfl rfl (gotS_len _ _ _) hr32 (by simpa using hR)) ?_
            refine Eng.nil ?_
            refine hK30 _ _ ?_
            refine Eng.cond_t rfl ?_
            refine Eng.seqk fun K32 hK32 => ?_
            refine Eng.reg ?_
            refine Eng.sv rfl rfl (Eng.x_as (v := (.int .i64 0)) rfl rfl) ?_
            refine Eng.sv rfl rfl (Eng.x_as (v := (.int .i64 71)) rfl rfl) ?_
            refine Eng.nil ?_
            refine hK32 _ _ ?_
            refine Eng.rt ?_
            refine Eng.tr ?_
            refine Eng.ret (Eng.res2 (v1 := (.int .i64 0)) (v2 := (.int .i64 71)) rfl (Eng.rdt rfl) (Eng.rdt rfl)) ?_
            have hB0_8 : Below w.heap.size w w27 := (hB0_7).trans (hb27.mono (hB0_7).size)
            have hB0_9 : Below w.heap.size w wB27 := (hB0_8).grown hgP27 (hB0_8).size (fun k e => by cases e; exact Nat.le_trans (hB0_7).size hlP27)
            exact ⟨by rw [vf_root q0 e1 (by omega) (by omega) hR], hB0_9⟩
          · skip
            refine Eng.sv rfl rfl (Eng.x_neA (p := (gotS d b n)) (q := r) (r := false) rfl Tryd.underlying45 Tryd.underlying5 sz5_kv (by kernel_rfl) rfl rfl (gotS_len _ _ _) hr32 (by simpa using hR)) ?_
            refine Eng.nil ?_
            refine hK30 _ _ ?_
            refine Eng.cond_f rfl ?_
            refine Eng.skp ?_
            refine hK25 _ _ ?_
            refine Eng.seqk fun K33 hK33 => ?_
            refine Eng.reg ?_
            refine Eng.sv rfl rfl (Eng.x_mv (v := (.int .i64 (num (b.take 4) : Int))) rfl rfl) ?_
            refine Eng.sv rfl rfl (Eng.x_as (v := (.int .i64 (num (b.take 4) : Int))) rfl rfl) ?_
            refine Eng.sv rfl rfl (Eng.x_as (v := (.int .i64 0)) rfl rfl) ?_
            refine Eng.nil ?_
            refine hK33 _ _ ?_
            refine Eng.rt ?_
            refine Eng.ret (Eng.res2 (v1 := (.int .i64 (num (b.take 4) : Int))) (v2 := (.int .i64 0)) rfl (Eng.rdt rfl) (Eng.rdt rfl)) ?_
            have hB0_8 : Below w.heap.size w w27 := (hB0_7).trans (hb27.mono (hB0_7).size)
            have hB0_9 : Below w.heap.size w wB27 := (hB0_8).grown hgP27 (hB0_8).size (fun k e => by cases e; exact Nat.le_trans (hB0_7).size hlP27)
            exact ⟨by rw [vf_ok q0 e1 (by omega) (by omega) (by simpa using hR)], hB0_9⟩
set_option maxRecDepth 100000 in
set_option maxHeartbeats 4000000 in
theorem rverify_calls (r d b : List UInt8) (h : Int) (v : Value) (w : World) (hr32 : r.length = 32) (hd : d.length = 32) (hb : Rd w v b) (hbl : b.length ≤ 140737488355000) : Calls Tryd.prog 30 #[(dg r), (.int .i64 h), (dg d), v] w (fun e w' => e = .returned (.tuple #[.int .i64 (vfK r h d b).1, .int .i64 (vfK r h d b).2]) ∧ Below w.heap.size w w') := by
  refine Eng.enter (l := [(dg r), (.int .i64 h), (dg d), v]) Tryd.func30 rfl 84 rfl (by simp) ?_
  refine Eng.seqk fun K1 hK1 => ?_
  refine Eng.reg ?_
  refine Eng.bo (v := (dg r)) (cs := (bcs r)) rfl rfl rfl rfl rfl ?_
  intro w2 hk2 hb2 hz2
  refine Eng.bo (v := (dg d)) (cs := (bcs d)) rfl rfl rfl rfl rfl ?_
  intro w3 hk3 hb3 hz3
  refine Eng.sv rfl rfl (Eng.x_as (v := (.int .i64 0)) rfl rfl) ?_
  refine Eng.sv rfl rfl (Eng.x_as (v := (.int .i64 0)) rfl rfl) ?_
  refine Eng.nil ?_
  refine hK1 _ _ ?_
  refine Eng.seqk fun K4 hK4 => ?_
  refine Eng.seqk fun K5 hK5 => ?_
  by_cases q0 : kh h = false
  · skip
    refine Eng.reg ?_
    refine Eng.sv rfl rfl (Eng.x_mv (v := (.int .i64 h)) rfl rfl) ?_
    refine Eng.sc rfl (Eng.xc (vl := [(.int .i64 h)]) rfl rfl rfl en66_kv) (rkheight_is q0 _) ?_
    rintro _ w6 ⟨rfl, hb6⟩
    refine Eng.aft_v rfl ?_
    refine Eng.sv rfl rfl (Eng.x_not (v := (.bool true)) rfl rfl rfl) ?_
    refine Eng.nil ?_
    refine hK5 _ _ ?_
    refine Eng.cond_t rfl ?_
    refine Eng.seqk fun K7 hK7 => ?_
    refine Eng.reg ?_
    refine Eng.sv rfl rfl (Eng.x_as (v := (.int .i64 0)) rfl rfl) ?_
    refine Eng.sv rfl rfl (Eng.x_as (v := (.int .i64 2)) rfl rfl) ?_
    refine Eng.nil ?_
    refine hK7 _ _ ?_
    refine Eng.rt ?_
    refine Eng.tr ?_
    refine Eng.ret (Eng.res2 (v1 := (.int .i64 0)) (v2 := (.int .i64 2)) rfl (Eng.rdt rfl) (Eng.rdt rfl)) ?_
    have hB0_2 : Below w.heap.size w w3 := (hb2).trans (hb3.mono (hb2).size)
    have hB0_3 : Below w.heap.size w w6 := (hB0_2).trans (hb6.mono (hB0_2).size)
    exact ⟨by rw [vf_no q0], hB0_3⟩
  · skip
    obtain ⟨n, e1, hn, hp⟩ := kh_nat q0
    have hnm := num4 b
    refine Eng.reg ?_
    refine Eng.sv rfl rfl (Eng.x_mv (v := (.int .i64 h)) rfl rfl) ?_
    refine Eng.sc rfl (Eng.xc (vl := [(.int .i64 h)]) rfl rfl rfl en66_kv) (rkheight_is (by simpa using q0) _) ?_
    rintro _ w8 ⟨rfl, hb8⟩
    refine Eng.aft_v rfl ?_
    refine Eng.sv rfl rfl (Eng.x_not (v := (.bool false)) rfl rfl rfl) ?_
    refine Eng.nil ?_
    refine hK5 _ _ ?_
    refine Eng.cond_f rfl ?_
    refine Eng.skp ?_
    refine hK4 _ _ ?_
    refine Eng.seqk fun K9 hK9 => ?_
    refine Eng.seqk fun K10 hK10 => ?_
    refine Eng.reg ?_
    refine Eng.sv rfl rfl (Eng.x_mv (v := v) rfl rfl) ?_
    have hB0_2 : Below w.heap.size w w3 := (hb2).trans (hb3.mono (hb2).size)
    have hB0_3 : Below w.heap.size w w8 := (hB0_2).trans (hb8.mono (hB0_2).size)
    have hr11 := (hb).below hB0_3
    refine Eng.sv rfl rfl (Eng.x_len (v := v) (r := (b.length : Int)) rfl Tryd.underlying48 rfl hr11 rfl) ?_
    refine Eng.sv rfl rfl (Eng.x_mv (v := (.int .i64 h)) rfl rfl) ?_
    refine Eng.sv rfl rfl (Eng.x_mul rfl rfl rfl (Eng.w64 (r := (32 * h)) (by omega))) ?_
    refine Eng.sv rfl rfl (Eng.x_add rfl rfl rfl (Eng.w64 (r := (4292 + 32 * h)) (by omega))) ?_
    by_cases hL : ((b.length : Int) : Int) ≠ (4292 + 32 * h)
    · skip
      refine Eng.sv rfl rfl (Eng.x_ne (r := true) rfl rfl rfl (Eng.ne_t (by omega))) ?_
      refine Eng.nil ?_
      refine hK10 _ _ ?_
      refine Eng.cond_t rfl ?_
      refine Eng.seqk fun K12 hK12 => ?_
      refine Eng.reg ?_
      refine Eng.sv rfl rfl (Eng.x_as (v := (.int .i64 0)) rfl rfl) ?_
      refine Eng.sv rfl rfl (Eng.x_as (v := (.int .i64 190)) rfl rfl) ?_
      refine Eng.nil ?_
      refine hK12 _ _ ?_
      refine Eng.rt ?_
      refine Eng.tr ?_
      refine Eng.ret (Eng.res2 (v1 := (.int .i64 0)) (v2 := (.int .i64 190)) rfl (Eng.rdt rfl) (Eng.rdt rfl)) ?_
      exact ⟨by rw [vf_len q0 hL], hB0_3⟩
    · skip
      have hln : b.length = 4292 + 32 * n := by omega
      refine Eng.sv rfl rfl (Eng.x_ne (r := false) rfl rfl rfl (Eng.ne_f (by omega))) ?_
      refine Eng.nil ?_
      refine hK10 _ _ ?_
      refine Eng.cond_f rfl ?_
      refine Eng.skp ?_
      refine hK9 _ _ ?_
      refine Eng.seqk fun K13 hK13 => ?_
      refine Eng.reg ?_
      refine Eng.sv rfl rfl (Eng.x_mv (v := v) rfl rfl) ?_
      refine Eng.sc rfl (Eng.xc (vl := [v, (.int .i64 0), (.int .i64 4)]) rfl rfl rfl en73_kv) ((rread_calls v b 0 4 _ ⟨hr11, by omega⟩ (by omega) (by omega)).mono fun _ _ => getR_in (by omega)) ?_
      rintro _ w14 ⟨rfl, hb14⟩
      refine Eng.aft_v rfl ?_
      refine Eng.sv rfl rfl (Eng.x_mv (v := (.tuple #[(.int .u64 (num (b.take 4) : Int)), (.int .i64 4), (.int .i64 0)])) rfl rfl) ?_
      refine Eng.sv rfl rfl (Eng.x_ext (v := (.int .u64 (num (b.take 4) : Int))) rfl rfl rfl) ?_
      refine Eng.sv rfl rfl (Eng.x_ext (v := (.int .i64 4)) rfl rfl rfl) ?_
      refine Eng.sv rfl rfl (Eng.x_ext (v := (.int .i64 0)) rfl rfl rfl) ?_
      refine Eng.sv rfl rfl (Eng.x_as (v := (.int .u64 (num (b.take 4) : Int))) rfl rfl) ?_
      refine Eng.sv rfl rfl (Eng.x_as (v := (.int .i64 4)) rfl rfl) ?_
      refine Eng.sv rfl rfl (Eng.x_as (v := (.int .i64 0)) rfl rfl) ?_
      refine Eng.nil ?_
      refine hK13 _ _ ?_
      refine Eng.seqk fun K15 hK15 => ?_
      refine Eng.seqk fun K16 hK16 => ?_
      refine Eng.reg ?_
      refine Eng.sv rfl rfl (Eng.x_mv (v := (.int .u64 (num (b.take 4) : Int))) rfl rfl) ?_
      refine Eng.sv rfl rfl (Eng.x_mv (v := (.int .i64 h)) rfl rfl) ?_
      refine Eng.sv rfl rfl (Eng.x_conv rfl Tryd.underlying3 Tryd.underlying39 rfl (Eng.wu64 (r := h) (by omega))) ?_
      refine Eng.sv rfl rfl (Eng.x_shl rfl rfl rfl (by omega) (r := ((2 ^ n : Nat) : Int)) (shl1_u64 e1 hn hp)) ?_
      by_cases hB : ((num (b.take 4) : Int) : Int) ≥ ((2 ^ n : Nat) : Int)
      · skip
        refine Eng.sv rfl rfl (Eng.x_ge (r := true) rfl rfl rfl (decide_eq_true (by omega))) ?_
        refine Eng.nil ?_
        refine hK16 _ _ ?_
        refine Eng.cond_t rfl ?_
        refine Eng.seqk fun K17 hK17 => ?_
        refine Eng.reg ?_
        refine Eng.sv rfl rfl (Eng.x_as (v := (.int .i64 0)) rfl rfl) ?_
        refine Eng.sv rfl rfl (Eng.x_as (v := (.int .i64 190)) rfl rfl) ?_
        refine Eng.nil ?_
        refine hK17 _ _ ?_
        refine Eng.rt ?_
        refine Eng.tr ?_
        refine Eng.ret (Eng.res2 (v1 := (.int .i64 0)) (v2 := (.int .i64 190)) rfl (Eng.rdt rfl) (Eng.rdt rfl)) ?_
        have hB0_4 : Below w.heap.size w w14 := (hB0_3).trans (hb14.mono (hB0_3).size)
        exact ⟨by rw [vf_big q0 e1 (by omega) (by omega)], hB0_4⟩
      · skip
        refine Eng.sv rfl rfl (Eng.x_ge (r := false) rfl rfl rfl (decide_eq_false (by omega))) ?_
        refine Eng.nil ?_
        refine hK16 _ _ ?_
        refine Eng.cond_f rfl ?_
        refine Eng.skp ?_
        refine hK15 _ _ ?_
        refine Eng.seqk fun K18 hK18 => ?_
        have hk20 := ((hk3).below hb8).below hb14
        have hB0_4 : Below w.heap.size w w14 := (hB0_3).trans (hb14.mono (hB0_3).size)
        have hr21 := (hb).below hB0_4
        have hq22 : Rd w (Eng.sCut v 4 4292 1) (sigS b) := (Eng.rd_cut hb (by omega) (by omega))
        have hr23 := (hq22).below hB0_4
        refine Eng.drawL 9 8 [6] [fun vQ _ => vQ = (dg d), fun vQ _ => vQ = v, fun vQ _ => vQ = (Eng.sCut v 4 4292 1), fun vQ _ => vQ = (.tuple #[(dg (recS d (sigS b))), (.int .i64 0)]), fun vQ _ => vQ = (.tuple #[(dg (recS d (sigS b))), (.int .i64 0)]), fun vQ _ => vQ = (dg (recS d (sigS b))), fun vQ _ => vQ = (.int .i64 0), fun (v : Value) (W : World) => ∃ g, v = .pointer (some ⟨g, 0, none⟩) ∧ Blk W g 45 (bcs Oct.dz) ∧ w14.heap.size ≤ g, fun (_ : Value) (_ : World) => True] (fun (uP : Nat → Value) (V W : World) => ∃ g, uP 13 = .pointer (some ⟨g, 0, none⟩) ∧ V.grownBy W (some g) ∧ Blk W g 45 (bcs (recS d (sigS b))) ∧ w14.heap.size ≤ g) (by kernel_rfl) (by kernel_rfl) (by kernel_rfl) (by kernel_rfl) (by kernel_rfl) (by kernel_rfl) rfl (by kernel_rfl) rfl rfl ?_ rfl ?_ ?_ ?_
        · exact ⟨fun _ _ _ _ h _ _ => h, fun _ _ _ _ h _ _ => h, fun _ _ _ _ h _ _ => h, fun _ _ _ _ h _ _ => h, fun _ _ _ _ h _ _ => h, fun _ _ _ _ h _ _ => h, fun _ _ _ _ h _ _ => h, fun hE v W W' ⟨g, h1, h2, h3⟩ h0 hb => ⟨g, h1, Eng.blk_grL h2 hb (fun hm => Nat.lt_irrefl _ (Nat.lt_of_lt_of_le (hE _ hm) h3)), h3⟩, fun _ _ _ _ _ _ _ => trivial, trivial⟩
        · refine ⟨?_, ?_, ?_, ?_, ?_, ?_, ?_, ?_, ?_, trivial⟩
          · refine ⟨fun h_ => absurd h_ (by decide), fun _ => ?_⟩
            intro u' W hbW hkp hdp hEd K hK
            have hK := Eng.sdv rfl hK
            refine Eng.dv rfl rfl ?_ (hK _ _ (Below.refl _ _) rfl)
            exact (Eng.x_ldB (v := (dg d)) rfl ag45_kv sz45_kv (show Eng.opv 84 u' (.tmp 6) = (.pointer (some ⟨w2.heap.size, 0, none⟩)) from hkp 6 rfl) (Eng.blk_grL (hk20) hbW Eng.nin_nil) ((bcs_length _).trans hd) rfl)
          · refine ⟨fun h_ => absurd h_ (by decide), fun _ => ?_⟩
            intro u' W hbW hkp hdp hEd K hK
            have hK := Eng.sdv rfl hK
            refine Eng.dv rfl rfl ?_ (hK _ _ (Below.refl _ _) rfl)
            exact (Eng.x_mv (v := v) rfl (show Eng.opv 84 u' (.tmp 3) = v from hkp 3 rfl))
          · refine ⟨fun h_ => absurd h_ (by decide), fun _ => ?_⟩
            intro u' W hbW hkp hdp hEd K hK
            have e1 : u' 44 = v := hdp.1
            have hK := Eng.sdv rfl hK
            refine Eng.dv rfl rfl ?_ (hK _ _ (Below.refl _ _) rfl)
            exact (Eng.x_sl (v := v) rfl Tryd.underlying48 sz5_kv (show Eng.opv 84 u' (.tmp 44) = v from e1) ((hb).below (Eng.bel_grL (hB0_4) hbW (hB0_4).size Eng.le_nil)) 4 4292 (Eng.bd (k := .i64) rfl) (Eng.bd (k := .i64) rfl) (by omega) (by omega))
          · refine ⟨fun h_ => absurd h_ (by decide), fun _ => ?_⟩
            intro u' W hbW hkp hdp hEd K hK
            have e0 : u' 43 = (dg d) := hdp.1
            have e2 : u' 45 = (Eng.sCut v 4 4292 1) := hdp.2.1
            have hK := Eng.sdv rfl hK
            refine Eng.dc (vs := #[(dg d), (Eng.sCut v 4 4292 1)]) rfl ?_ (rrec_calls d (sigS b) _ _ hd ((hq22).below (Eng.bel_grL (hB0_4) hbW (hB0_4).size Eng.le_nil)) (sigS_len (by omega))) ?_
            · exact Eng.xc (xs := #[(Go.Operand.tmp 43), (Go.Operand.tmp 45)]) (vl := [(dg d), (Eng.sCut v 4 4292 1)]) rfl rfl (Eng.lc (show Eng.opv 84 u' (.tmp 43) = (dg d) from e0) (Eng.lc (show Eng.opv 84 u' (.tmp 45) = (Eng.sCut v 4 4292 1) from e2) rfl)) en74_kv
            rintro _ W2 ⟨rfl, hb2⟩
            exact Eng.aft_v rfl (hK _ _ hb2 rfl)
          · refine ⟨fun h_ => absurd h_ (by decide), fun _ => ?_⟩
            intro u' W hbW hkp hdp hEd K hK
            have e3 : u' 46 = (.tuple #[(dg (recS d (sigS b))), (.int .i64 0)]) := hdp.1
            have hK := Eng.sdv rfl hK
            refine Eng.dv rfl rfl ?_ (hK _ _ (Below.refl _ _) rfl)
            exact (Eng.x_mv (v := (.tuple #[(dg (recS d (sigS b))), (.int .i64 0)])) rfl (show Eng.opv 84 u' (.tmp 46) = (.tuple #[(dg (recS d (sigS b))), (.int .i64 0)]) from e3))
          · refine ⟨fun h_ => absurd h_ (by decide), fun _ => ?_⟩
            intro u' W hbW hkp hdp hEd K hK
            have e4 : u' 42 = (.tuple #[(dg (recS d (sigS b))), (.int .i64 0)]) := hdp.1
            have hK := Eng.sdv rfl hK
            refine Eng.dv rfl rfl ?_ (hK _ _ (Below.refl _ _) rfl)
            exact (Eng.x_ext (v := (dg (recS d (sigS b)))) rfl (show Eng.opv 84 u' (.tmp 42) = (.tuple #[(dg (recS d (sigS b))), (.int .i64 0)]) from e4) rfl)
          · refine ⟨fun h_ => absurd h_ (by decide), fun _ => ?_⟩
            intro u' W hbW hkp hdp hEd K hK
            have e4 : u' 42 = (.tuple #[(dg (recS d (sigS b))), (.int .i64 0)]) := hdp.1
            have hK := Eng.sdv rfl hK
            refine Eng.dv rfl rfl ?_ (hK _ _ (Below.refl _ _) rfl)
            exact (Eng.x_ext (v := (.int .i64 0)) rfl (show Eng.opv 84 u' (.tmp 42) = (.tuple #[(dg (recS d (sigS b))), (.int .i64 0)]) from e4) rfl)
          · refine ⟨fun h_ => absurd h_ (by decide), fun _ => ?_⟩
            intro u' W hbW hkp hdp hEd K hK
            have hK := Eng.sdv rfl hK
            exact Eng.dv rfl rfl (Eng.x_al rfl zr45_kv) (hK _ _ (Eng.below_al _ _) ⟨_, rfl, Eng.blk_al _ _ _ rfl, hbW.size⟩)
          · refine ⟨fun _ => ?_, fun h_ => absurd h_ (by decide)⟩
            intro u' W hbV hkp hdp K hK
            have hbW := Eng.GrL.of_below (E := []) (w := w14) hbV
            obtain ⟨gd19_7, e7, hkx7, hlx7⟩ : (fun (v : Value) (W : World) => ∃ g, v = .pointer (some ⟨g, 0, none⟩) ∧ Blk W g 45 (bcs Oct.dz) ∧ w14.heap.size ≤ g) (u' 13) W := hdp.1
            have e5 : u' 47 = (dg (recS d (sigS b))) := hdp.2.1
            refine Eng.sstB (FL := []) (BL := [⟨gd19_7, 45, (bcs Oct.dz), [(8, (bcs (recS d (sigS b))))]⟩]) (i := 8) (v := (dg (recS d (sigS b)))) rfl rfl rfl sz45_kv rfl rfl (show Eng.opv 84 u' (.tmp 13) = (.pointer (some ⟨gd19_7, 0, none⟩)) from e7) hkx7 rfl (show Eng.opv 84 u' (.tmp 47) = (dg (recS d (sigS b))) from e5) rfl ((bcs_length _).trans (recS_len _ _)) (bcs_one _) ?_
            exact Eng.outS_st rfl (fun W2 hgr hk2 => hK W2 ⟨gd19_7, e7, hgr, hk2, hlx7⟩)
        · refine ⟨?_, trivial⟩
          · refine ⟨fun uP v V W ⟨g, h1, h2⟩ => ⟨g, (Eng.upd_other uP 48 v 13 (by decide)).trans h1, h2⟩, fun o ho u' V W hdp K hK => ?_⟩
            obtain rfl := Eng.someInj ho
            have e4 : u' 42 = (.tuple #[(dg (recS d (sigS b))), (.int .i64 0)]) := hdp.1
            refine Eng.dv rfl rfl ?_ (hK _ rfl)
            exact (Eng.x_ext (v := (.int .i64 0)) rfl (show Eng.opv 84 u' (.tmp 42) = (.tuple #[(dg (recS d (sigS b))), (.int .i64 0)]) from e4) rfl)
        · intro ud19 w19 wB19 hb19 hkp19 ⟨f19_0, f19_1, f19_2, f19_3, f19_4, f19_5, f19_6, ⟨gd19_7, f19_7, hkd19_7, hld19_7⟩, _, _⟩ ⟨gP19, eP19, hgP19, hkP19, hlP19⟩
          obtain rfl := Eng.collectS (l := [(43, (dg d)), (44, v), (45, (Eng.sCut v 4 4292 1)), (46, (.tuple #[(dg (recS d (sigS b))), (.int .i64 0)])), (42, (.tuple #[(dg (recS d (sigS b))), (.int .i64 0)])), (47, (dg (recS d (sigS b)))), (48, (.int .i64 0)), (13, (.pointer (some ⟨gP19, 0, none⟩)))]) hkp19 ⟨f19_0, f19_1, f19_2, f19_3, f19_4, f19_5, f19_6, eP19, trivial⟩ rfl
          refine Eng.sv rfl rfl (Eng.x_as (v := (.int .i64 0)) rfl rfl) ?_
          refine Eng.nil ?_
          refine hK18 _ _ ?_
          refine Eng.seqk fun K24 hK24 => ?_
          refine Eng.reg ?_
          refine Eng.sv rfl rfl (Eng.x_as (v := (.slice none 0 0)) rfl rfl) ?_
          refine Eng.nil ?_
          refine hK24 _ _ ?_
          refine Eng.seqk fun K25 hK25 => ?_
          refine Eng.seqk fun K26 hK26 => ?_
          refine Eng.reg ?_
          refine Eng.sv rfl rfl (Eng.x_as (v := (.int .i64 0)) rfl rfl) ?_
          refine Eng.nil ?_
          refine hK26 _ _ ?_
          refine Eng.blk ?_
          have hB1_3 : Below w2.heap.size w2 w8 := (hb3).trans (hb8.mono (hb3).size)
          have hB1_4 : Below w2.heap.size w2 w14 := (hB1_3).trans (hb14.mono (hB1_3).size)
          have hk28 := (((((hk2).below hb3).below hb8).below hb14).below hb19).grown hgP19 (fun e => absurd (Option.some.inj e) (Nat.ne_of_lt (Nat.lt_of_lt_of_le hz2 (Nat.le_trans (hB1_4).size hlP19))))
          have hB0_5 : Below w.heap.size w w19 := (hB0_4).trans (hb19.mono (hB0_4).size)
          have hB0_6 : Below w.heap.size w wB19 := (hB0_5).grown hgP19 (hB0_5).size (fun k e => by cases e; exact Nat.le_trans (hB0_4).size hlP19)
          refine Eng.loopN (fun zz u w' => ∃ (i : Nat), ∃ (vl : Value), zz = n - i ∧ i ≤ n ∧ Eng.Has u [(1, (.int .i64 h)), (3, v), (4, (.pointer (some ⟨w.heap.size, 0, none⟩))), (8, (.int .i64 0)), (9, (.int .i64 0)), (10, (.int .u64 (num (b.take 4) : Int))), (13, (.pointer (some ⟨gP19, 0, none⟩))), (15, vl), (16, (.int .i64 (i : Int)))] ∧ Below w.heap.size w w' ∧ wB19.heap.size ≤ w'.heap.size ∧ Blk w' w.heap.size 45 (bcs r) ∧ Blk w' gP19 45 (bcs (recS d (sigS b))) ∧ Eng.OwnD wB19.heap.size w' vl (pthS b i)) _ ⟨0, (.slice none 0 0), rfl, (Nat.zero_le _), ⟨rfl, rfl, rfl, rfl, rfl, rfl, rfl, rfl, (Eng.ie (by first | omega | rfl)), trivial⟩, hB0_6, (Nat.le_refl _), hk28, hkP19, (Eng.OwnD.nil _ _)⟩ ?_
          rintro _ u27 w27 ⟨i, vl, rfl, hs27_0, hH27, hBL27, hzL27, hkL27_0, hkL27_1, hrL27_0⟩ K27 hK27
          obtain ⟨u27, rfl⟩ := hH27.ex
          refine Eng.seqk fun K29 hK29 => ?_
          refine Eng.seqk fun K30 hK30 => ?_
          refine Eng.reg ?_
          refine Eng.sv rfl rfl (Eng.x_mv (v := (.int .i64 (i : Int))) rfl rfl) ?_
          refine Eng.sv rfl rfl (Eng.x_mv (v := (.int .i64 h)) rfl rfl) ?_
          by_cases h51 : ((i : Int) : Int) < h
          · skip
            refine Eng.sv rfl rfl (Eng.x_lt (r := true) rfl rfl rfl (decide_eq_true (by omega))) ?_
            refine Eng.nil ?_
            refine hK30 _ _ ?_
            refine Eng.cond_t rfl ?_
            refine Eng.skp ?_
            refine hK29 _ _ ?_
            refine Eng.seqk fun K31 hK31 => ?_
            refine Eng.blk ?_
            refine Eng.seqk fun K32 hK32 => ?_
            refine Eng.reg ?_
            refine Eng.sv rfl rfl (Eng.x_mv (v := v) rfl rfl) ?_
            refine Eng.sv rfl rfl (Eng.x_mv (v := (.int .i64 (i : Int))) rfl rfl) ?_
            refine Eng.sv rfl rfl (Eng.x_mul rfl rfl rfl (Eng.w64 (r := ((32 * i : Nat) : Int)) (by omega))) ?_
            refine Eng.sv rfl rfl (Eng.x_add rfl rfl rfl (Eng.w64 (r := ((4292 + 32 * i : Nat) : Int)) (by omega))) ?_
            have hr33 := (hb).below hBL27
            refine Eng.sc rfl (Eng.xc (vl := [v, (.int .i64 ((4292 + 32 * i : Nat) : Int))]) rfl rfl rfl en75_kv) ((rdig_calls v b ((4292 + 32 * i : Nat) : Int) _ ⟨hr33, by omega⟩ (by omega)).mono fun _ _ => getD_in (by omega)) ?_
            rintro _ w34 ⟨rfl, hb34⟩
            refine Eng.aft_v rfl ?_
            refine Eng.sv rfl rfl (Eng.x_mv (v := (.tuple #[(dg (sl b (4292 + 32 * i))), (.int .i64 ((4292 + 32 * i + 32 : Nat) : Int)), (.int .i64 0)])) rfl rfl) ?_
            refine Eng.sv rfl rfl (Eng.x_ext (v := (dg (sl b (4292 + 32 * i)))) rfl rfl rfl) ?_
            refine Eng.sv rfl rfl (Eng.x_ext (v := (.int .i64 ((4292 + 32 * i + 32 : Nat) : Int))) rfl rfl rfl) ?_
            refine Eng.sv rfl rfl (Eng.x_ext (v := (.int .i64 0)) rfl rfl rfl) ?_
            refine Eng.al rfl rfl rfl zr44_kv (cs := (bcs Oct.dz)) rfl ?_
            intro w35 hk35 hb35 hz35
            refine Eng.stB (v := (dg (sl b (4292 + 32 * i)))) rfl rfl rfl sz44_kv rfl hk35 rfl rfl (cs' := (bcs (sl b (4292 + 32 * i)))) rfl ((bcs_length _).trans (sl_len (by omega))) (bcs_one _) ?_
            intro w36 hk36 hg36
            refine Eng.sv rfl rfl (Eng.x_as (v := (.int .i64 ((4292 + 32 * i + 32 : Nat) : Int))) rfl rfl) ?_
            refine Eng.sv rfl rfl (Eng.x_as (v := (.int .i64 0)) rfl rfl) ?_
            refine Eng.nil ?_
            refine hK32 _ _ ?_
            refine Eng.reg ?_
            refine Eng.sv rfl rfl (Eng.x_mv (v := vl) rfl rfl) ?_
            refine Eng.sv rfl rfl (Eng.x_ldB (v := (dg (sl b (4292 + 32 * i)))) rfl ag44_kv sz44_kv rfl hk36 ((bcs_length _).trans (sl_len (by omega))) rfl) ?_
            refine Eng.bs (vs := [(dg (sl b (4292 + 32 * i)))]) (cs := (Dsl.dcs [(sl b (4292 + 32 * i))])) rfl rfl rfl Tryd.underlying36 in45_kv (dg_size dz_length) (by decide) rfl rfl (by decide) (by decide) (Eng.all_cons (p := fun v => v.cells.size = 32) (Eng.dg_cells (sl_len (by omega))) Eng.all_nil) (by simp [Dsl.dcs, Value.cells]) ?_
            intro w37 hk37 hb37 hz37
            have hr39 := ((((hrL27_0).below hb34).below hb35).kept hg36 (.inr (fun e => absurd ((World.ownsRow.lt (hrL27_0).1) _ e).2 (Nat.not_lt_of_le (Nat.le_trans (hb34).size (Nat.le_refl _)))))).below hb37
            refine Eng.apD rfl rfl rfl rfl hr39 rfl (Eng.ds_lit hk37 (Eng.all32_one (sl_len (by omega))) (Nat.le_of_ble_eq_true rfl)) (by rw [pthS_len]; simp only [List.length_cons, List.length_nil]; omega) (Nat.le_trans (Nat.le_trans (Nat.le_trans (Nat.le_trans hzL27 (hb34).size) (hb35).size) (hg36).size) (hb37).size) ?_
            intro v38 w38 ho38 hg38
            rw [← pthS_succ] at ho38
            refine Eng.sv rfl rfl (Eng.x_as (v := v38) rfl rfl) ?_
            refine Eng.nil ?_
            refine Eng.nb ?_
            refine hK31 _ _ ?_
            refine Eng.reg ?_
            refine Eng.sv rfl rfl (Eng.x_mv (v := (.int .i64 (i : Int))) rfl rfl) ?_
            refine Eng.sv rfl rfl (Eng.x_add rfl rfl rfl (Eng.w64 (r := ((i + 1 : Nat) : Int)) (by omega))) ?_
            refine Eng.sv rfl rfl (Eng.x_as (v := (.int .i64 ((i + 1 : Nat) : Int))) rfl rfl) ?_
            refine Eng.nil ?_
            have hB0_8 : Below w.heap.size w w34 := (hBL27).trans (hb34.mono (hBL27).size)
            have hB0_9 : Below w.heap.size w w35 := (hB0_8).trans (hb35.mono (hB0_8).size)
            have hB0_10 : Below w.heap.size w w36 := (hB0_9).grown hg36 (hB0_9).size (fun k e => by cases e; exact Nat.le_trans (hB0_8).size (Nat.le_refl _))
            have hB0_11 : Below w.heap.size w w37 := (hB0_10).trans (hb37.mono (hB0_10).size)
            have hB0_12 : Below w.heap.size w w38 := (hB0_11).grown hg38 (hB0_11).size (fun k e => Nat.le_trans (hB0_6).size ((World.ownsRow.lt (hrL27_0).1) _ e).1)
            have hB1_5 : Below w2.heap.size w2 w19 := (hB1_4).trans (hb19.mono (hB1_4).size)
            have hB1_6 : Below w2.heap.size w2 wB19 := (hB1_5).grown hgP19 (hB1_5).size (fun k e => by cases e; exact Nat.le_trans (hB1_4).size hlP19)
            have hk40 := (((((hkL27_0).below hb34).below hb35).grown hg36 (fun e => absurd (Option.some.inj e) (Nat.ne_of_lt (Nat.lt_of_lt_of_le hz2 (Nat.le_trans (Nat.le_trans (Nat.le_trans (hB1_6).size hzL27) (hb34).size) (Nat.le_refl _)))))).below hb37).grown hg38 (fun e => absurd ((World.ownsRow.lt (hrL27_0).1) _ e.symm).1 (Nat.not_le_of_lt (Nat.lt_of_lt_of_le hz2 (hB1_6).size)))
            have hk41 := (((((hkL27_1).below hb34).below hb35).grown hg36 (fun e => absurd (Option.some.inj e) (Nat.ne_of_lt (Nat.lt_of_lt_of_le (hkP19).lt (Nat.le_trans (Nat.le_trans hzL27 (hb34).size) (Nat.le_refl _)))))).below hb37).grown hg38 (fun e => absurd ((World.ownsRow.lt (hrL27_0).1) _ e.symm).1 (Nat.not_le_of_lt (Nat.lt_of_lt_of_le (hkP19).lt (Nat.le_refl _))))
            exact hK27 _ _ _ ⟨i + 1, v38, rfl, by omega, ⟨rfl, rfl, rfl, rfl, rfl, rfl, rfl, rfl, (Eng.ie (by first | omega | rfl)), trivial⟩, hB0_12, (Nat.le_trans (Nat.le_trans (Nat.le_trans (Nat.le_trans (Nat.le_trans hzL27 (hb34).size) (hb35).size) (hg36).size) (hb37).size) (hg38).size), hk40, hk41, ho38⟩ (by omega)
          · skip
            have hin : i = n := by omega
            refine Eng.sv rfl rfl (Eng.x_lt (r := false) rfl rfl rfl (decide_eq_false (by omega))) ?_
            refine Eng.nil ?_
            refine hK30 _ _ ?_
            refine Eng.cond_f rfl ?_
            refine Eng.xt ?_
            refine Eng.te ?_
            refine Eng.te ?_
            refine Eng.be ?_
            refine hK25 _ _ ?_
            refine Eng.seqk fun K42 hK42 => ?_
            refine Eng.reg ?_
            refine Eng.sv rfl rfl (Eng.x_slA rfl Tryd.underlying45 sz5_kv rfl) ?_
            refine Eng.sc rfl (Eng.xc (vl := [(.slice (some ⟨gP19, 0, none⟩) 32 32)]) rfl rfl rfl en77_kv) (rleaf_calls _ (recS d (sigS b)) _ (Rd.of_blk hkL27_1 32 (recS_len _ _) (by decide)) (recS_len _ _)) ?_
            rintro _ w43 ⟨rfl, hb43⟩
            refine Eng.aft_v rfl ?_
            refine Eng.sv rfl rfl (Eng.x_mv (v := (.int .u64 (num (b.take 4) : Int))) rfl rfl) ?_
            refine Eng.sv rfl rfl (Eng.x_conv rfl Tryd.underlying123 Tryd.underlying3 rfl (Eng.w64 (r := (num (b.take 4) : Int)) (by omega))) ?_
            refine Eng.sv rfl rfl (Eng.x_mv (v := (.int .i64 h)) rfl rfl) ?_
            refine Eng.sv rfl rfl (Eng.x_conv rfl Tryd.underlying3 Tryd.underlying39 rfl (Eng.wu64 (r := h) (by omega))) ?_
            refine Eng.sv rfl rfl (Eng.x_shl rfl rfl rfl (by omega) (r := ((2 ^ n : Nat) : Int)) ((shl_eq (x := 1) rfl e1 (by omega) (by rw [Nat.one_mul]; omega)).trans (by rw [Nat.one_mul]))) ?_
            refine Eng.sv rfl rfl (Eng.x_mv (v := vl) rfl rfl) ?_
            have hr44 := (hrL27_0).below hb43
            have hpq := (hr44).ds
            rw [hin] at hpq
            refine Eng.sc rfl (Eng.xc (vl := [(dg (leafS (recS d (sigS b)))), (.int .i64 (num (b.take 4) : Int)), (.int .i64 ((2 ^ n : Nat) : Int)), vl]) rfl rfl rfl en76_kv) (rroot_calls _ (leafS_len _) (num (b.take 4) : Int) ((2 ^ n : Nat) : Int) _ (pthS b n) _ hpq) ?_
            rintro _ w45 ⟨rfl, hb45⟩
            refine Eng.aft_v rfl ?_
            refine Eng.sv rfl rfl (Eng.x_mv (v := (.tuple #[(dg (gotS d b n)), (.int .i64 (rootE (num (b.take 4) : Int) ((2 ^ n : Nat) : Int) (pthS b n).length))])) rfl rfl) ?_
            refine Eng.sv rfl rfl (Eng.x_ext (v := (dg (gotS d b n))) rfl rfl rfl) ?_
            refine Eng.sv rfl rfl (Eng.x_ext (v := (.int .i64 (rootE (num (b.take 4) : Int) ((2 ^ n : Nat) : Int) (pthS b n).length))) rfl rfl rfl) ?_
            refine Eng.al rfl rfl rfl zr45_kv (cs := (bcs Oct.dz)) rfl ?_
            intro w46 hk46 hb46 hz46
            refine Eng.stB (v := (dg (gotS d b n))) rfl rfl rfl sz45_kv rfl hk46 rfl rfl (cs' := (bcs (gotS d b n))) rfl ((bcs_length _).trans (gotS_len _ _ _)) (bcs_one _) ?_
            intro w47 hk47 hg47
            refine Eng.sv rfl rfl (Eng.x_as (v := (.int .i64 (rootE (num (b.take 4) : Int) ((2 ^ n : Nat) : Int) (pthS b n).length))) rfl rfl) ?_
            refine Eng.nil ?_
            refine hK42 _ _ ?_
            refine Eng.seqk fun K48 hK48 => ?_
            refine Eng.seqk fun K49 hK49 => ?_
            refine Eng.reg ?_
            refine Eng.sv rfl rfl (Eng.x_ldB (v := (dg (gotS d b n))) rfl ag45_kv sz45_kv rfl hk47 ((bcs_length _).trans (gotS_len _ _ _)) rfl) ?_
            have hB1_5 : Below w2.heap.size w2 w19 := (hB1_4).trans (hb19.mono (hB1_4).size)
            have hB1_6 : Below w2.heap.size w2 wB19 := (hB1_5).grown hgP19 (hB1_5).size (fun k e => by cases e; exact Nat.le_trans (hB1_4).size hlP19)
            have hk50 := ((((hkL27_0).below hb43).below hb45).below hb46).grown hg47 (fun e => absurd (Option.some.inj e) (Nat.ne_of_lt (Nat.lt_of_lt_of_le hz2 (Nat.le_trans (Nat.le_trans (Nat.le_trans (Nat.le_trans (hB1_6).size hzL27) (hb43).size) (hb45).size) (Nat.le_refl _)))))
            refine Eng.sv rfl rfl (Eng.x_ldB (v := (dg r)) rfl ag45_kv sz45_kv rfl hk50 ((bcs_length _).trans hr32) rfl) ?_
            by_cases hR : ((gotS d b n) : List UInt8) ≠ r
            · skip
              refine Eng.sv rfl rfl (Eng.x_neA (p := (gotS d b n)) (q := r) (r := true) rfl Tryd.underlying45 Tryd.underlying5 sz5_kv (by kernel_rfl) rfl rfl (gotS_len _ _ _) hr32 (by simpa using hR)) ?_
              refine Eng.nil ?_
              refine hK49 _ _ ?_
              refine Eng.cond_t rfl ?_
              refine Eng.seqk fun K51 hK51 => ?_
              refine Eng.reg ?_
              refine Eng.sv rfl rfl (Eng.x_as (v := (.int .i64 0)) rfl rfl) ?_
              refine Eng.sv rfl rfl (Eng.x_as (v := (.int .i64 71)) rfl rfl) ?_
              refine Eng.nil ?_
              refine hK51 _ _ ?_
              refine Eng.rt ?_
              refine Eng.tr ?_
              refine Eng.ret (Eng.res2 (v1 := (.int .i64 0)) (v2 := (.int .i64 71)) rfl (Eng.rdt rfl) (Eng.rdt rfl)) ?_
              have hB0_8 : Below w.heap.size w w43 := (hBL27).trans (hb43.mono (hBL27).size)
              have hB0_9 : Below w.heap.size w w45 := (hB0_8).trans (hb45.mono (hB0_8).size)
              have hB0_10 : Below w.heap.size w w46 := (hB0_9).trans (hb46.mono (hB0_9).size)
              have hB0_11 : Below w.heap.size w w47 := (hB0_10).grown hg47 (hB0_10).size (fun k e => by cases e; exact Nat.le_trans (hB0_9).size (Nat.le_refl _))
              exact ⟨by rw [vf_root q0 e1 (by omega) (by omega) hR], hB0_11⟩
            · skip
              refine Eng.sv rfl rfl (Eng.x_neA (p := (gotS d b n)) (q := r) (r := false) rfl Tryd.underlying45 Tryd.underlying5 sz5_kv (by kernel_rfl) rfl rfl (gotS_len _ _ _) hr32 (by simpa using hR)) ?_
              refine Eng.nil ?_
              refine hK49 _ _ ?_
              refine Eng.cond_f rfl ?_
              refine Eng.skp ?_
              refine hK48 _ _ ?_
              refine Eng.seqk fun K52 hK52 => ?_
              refine Eng.reg ?_
              refine Eng.sv rfl rfl (Eng.x_mv (v := (.int .u64 (num (b.take 4) : Int))) rfl rfl) ?_
              refine Eng.sv rfl rfl (Eng.x_conv rfl Tryd.underlying123 Tryd.underlying3 rfl (Eng.w64 (r := (num (b.take 4) : Int)) (by omega))) ?_
              refine Eng.sv rfl rfl (Eng.x_as (v := (.int .i64 (num (b.take 4) : Int))) rfl rfl) ?_
              refine Eng.sv rfl rfl (Eng.x_as (v := (.int .i64 0)) rfl rfl) ?_
              refine Eng.nil ?_
              refine hK52 _ _ ?_
              refine Eng.rt ?_
              refine Eng.ret (Eng.res2 (v1 := (.int .i64 (num (b.take 4) : Int))) (v2 := (.int .i64 0)) rfl (Eng.rdt rfl) (Eng.rdt rfl)) ?_
              have hB0_8 : Below w.heap.size w w43 := (hBL27).trans (hb43.mono (hBL27).size)
              have hB0_9 : Below w.heap.size w w45 := (hB0_8).trans (hb45.mono (hB0_8).size)
              have hB0_10 : Below w.heap.size w w46 := (hB0_9).trans (hb46.mono (hB0_9).size)
              have hB0_11 : Below w.heap.size w w47 := (hB0_10).grown hg47 (hB0_10).size (fun k e => by cases e; exact Nat.le_trans (hB0_9).size (Nat.le_refl _))
              exact ⟨by rw [vf_ok q0 e1 (by omega) (by omega) (by simpa using hR)], hB0_11⟩
set_option maxRecDepth 100000 in
set_option maxHeartbeats 4000000 in
theorem verifies_law (r d b : List UInt8) (h : Int) (v : Value) (w : World) (hr32 : r.length = 32) (hd : d.length = 32) (hb : Rd w v b) (hbl : b.length ≤ 140737488355000) (hKn : Kon w) : Calls Tryd.prog 8 #[(.agg ((bcs r) ++ (.int .i64 h) :: (bcs d) ++ [v] : List Value).toArray)] w (fun e w' => e = .returned (.bool true) ∧ Below w.heap.size w w') := by
  obtain ⟨xP0, hxP0⟩ : ∃ x, x = (Value.agg ((bcs r) ++ (.int .i64 h) :: (bcs d) ++ [v] : List Value).toArray) := ⟨_, rfl⟩
  rw [← hxP0]
  refine Eng.enter (l := [xP0]) Tryd.func8 rfl 61 rfl (by simp) ?_
  subst hxP0
  refine Eng.seqk fun K1 hK1 => ?_
  refine Eng.reg ?_
  refine Eng.bo (v := (.agg ((bcs r) ++ (.int .i64 h) :: (bcs d) ++ [v] : List Value).toArray)) (cs := ((bcs r) ++ (.int .i64 h) :: (bcs d) ++ [v])) rfl rfl rfl rfl rfl ?_
  intro w2 hk2 hb2 hz2
  refine Eng.sv rfl rfl (Eng.x_as (v := (.bool false)) rfl rfl) ?_
  refine Eng.nil ?_
  refine hK1 _ _ ?_
  refine Eng.seqk fun K3 hK3 => ?_
  refine Eng.reg ?_
  refine Eng.sv rfl rfl (Eng.x_bs0 rfl Tryd.underlying48 sz5_kv) ?_
  generalize hw4 : World.alloc w2 (.cells #[] 5) = w4
  have hb4 : Below w2.heap.size w2 w4 := hw4 ▸ Eng.below_al _ _
  have hz4 : w2.heap.size < w4.heap.size := hw4 ▸ Eng.lt_al _ _
  have ho4 : Oct.Own w2.heap.size w4 (.slice (some ⟨w2.heap.size, 0, none⟩) 0 0) [] := hw4 ▸ Own.lit0 _ (Nat.le_refl _)
  refine Eng.sv rfl rfl (Eng.x_fa (v := (.pointer (some ⟨w.heap.size, 65, none⟩))) rfl rfl (by kernel_rfl)) ?_
  have hk5 := (hk2).below hb4
  refine Eng.sv rfl rfl (Eng.x_ld1 (v := v) rfl ag48_kv rfl (Eng.blk_one (pre := ((bcs r) ++ (.int .i64 h) :: (bcs d))) hk5 (Eng.len_app (Eng.len_dg hr32) (Eng.len_cons (.int .i64 h) (Eng.len_dg hd))))) ?_
  have hB0_2 : Below w.heap.size w w4 := (hb2).trans (hb4.mono (hb2).size)
  have hr7 := (hb).below hB0_2
  refine Eng.apB rfl rfl rfl rfl ho4 rfl hr7 (by simp only [List.length_nil]; omega) (hb4).size ?_
  intro v6 w6 ho6 hg6
  rw [List.nil_append] at ho6
  refine Eng.bs (vs := [(.int .u8 90)]) (cs := (bcs [90])) rfl rfl rfl Tryd.underlying48 in5_kv rfl (by decide) rfl rfl (by decide) (by decide) (by simp [Value.cells]) rfl ?_
  intro w8 hk8 hb8 hz8
  have hr10 := (ho6).below hb8
  have hB1_3 : Below w2.heap.size w2 w6 := (hb4).grown hg6 (hb4).size (fun k e => Nat.le_trans (Nat.le_refl _) ((World.ownsRow.lt ho4) _ e).1)
  have hB1_4 : Below w2.heap.size w2 w8 := (hB1_3).trans (hb8.mono (hB1_3).size)
  refine Eng.apB rfl rfl rfl rfl hr10 rfl ((Eng.own_lit (base := w6.heap.size) hk8 (Nat.le_refl _) (Nat.le_of_ble_eq_true rfl))).rd (by simp only [List.length_append, List.length_cons, List.length_nil]; omega) (hB1_4).size ?_
  intro v9 w9 ho9 hg9
  refine Eng.sv rfl rfl (Eng.x_as (v := v9) rfl rfl) ?_
  refine Eng.nil ?_
  refine hK3 _ _ ?_
  refine Eng.seqk fun K11 hK11 => ?_
  have hk13 := (((hk5).grown hg6 (fun e => absurd ((World.ownsRow.lt ho4) _ e.symm).1 (Nat.not_le_of_lt (Nat.lt_of_lt_of_le hz2 (Nat.le_refl _))))).below hb8).grown hg9 (fun e => absurd ((World.ownsRow.lt ho6) _ e.symm).1 (Nat.not_le_of_lt (Nat.lt_of_lt_of_le hz2 (Nat.le_refl _))))
  have hB0_3 : Below w.heap.size w w6 := (hB0_2).grown hg6 (hB0_2).size (fun k e => Nat.le_trans (hb2).size ((World.ownsRow.lt ho4) _ e).1)
  have hB0_4 : Below w.heap.size w w8 := (hB0_3).trans (hb8.mono (hB0_3).size)
  have hB0_5 : Below w.heap.size w w9 := (hB0_4).grown hg9 (hB0_4).size (fun k e => Nat.le_trans (hb2).size ((World.ownsRow.lt ho6) _ e).1)
  have hr14 := (hb).below hB0_5
  have hq15 : Rd w9 (Eng.sCut v9 0 b.length 1) (b) := (bs_pre90 (ho9).rd)
  have hr16 := (hKn).below hB0_5
  refine Eng.draw 17 [fun vQ _ => vQ = (.pointer (some ⟨w.heap.size, 0, none⟩)), fun vQ _ => vQ = (dg r), fun vQ _ => vQ = (.pointer (some ⟨w.heap.size, 32, none⟩)), fun vQ _ => vQ = (.int .i64 h), fun vQ _ => vQ = (.pointer (some ⟨w.heap.size, 33, none⟩)), fun vQ _ => vQ = (dg d), fun vQ _ => vQ = v9, fun vQ _ => vQ = (.pointer (some ⟨w.heap.size, 65, none⟩)), fun vQ _ => vQ = v, fun vQ _ => vQ = (.int .i64 (b.length : Int)), fun vQ _ => vQ = (Eng.sCut v9 0 b.length 1), fun vQ _ => vQ = (.tuple #[(.int .i64 ((vfK r h d b).1)), (.int .i64 ((vfK r h d b).2))]), fun vQ _ => vQ = (.tuple #[(.int .i64 ((vfK r h d b).1)), (.int .i64 ((vfK r h d b).2))]), fun vQ _ => vQ = (.int .i64 ((vfK r h d b).1)), fun vQ _ => vQ = (.int .i64 ((vfK r h d b).2)), fun vQ _ => vQ = (.int .i64 ((vfK r h d b).1)), fun vQ _ => vQ = (.int .i64 ((vfK r h d b).2))] (by kernel_rfl) (by kernel_rfl) (by kernel_rfl) (by kernel_rfl) rfl rfl ?_ ?_ ?_
  · exact ⟨fun _ _ _ h _ => h, fun _ _ _ h _ => h, fun _ _ _ h _ => h, fun _ _ _ h _ => h, fun _ _ _ h _ => h, fun _ _ _ h _ => h, fun _ _ _ h _ => h, fun _ _ _ h _ => h, fun _ _ _ h _ => h, fun _ _ _ h _ => h, fun _ _ _ h _ => h, fun _ _ _ h _ => h, fun _ _ _ h _ => h, fun _ _ _ h _ => h, fun _ _ _ h _ => h, fun _ _ _ h _ => h, fun _ _ _ h _ => h, trivial⟩
  · refine ⟨?_, ?_, ?_, ?_, ?_, ?_, ?_, ?_, ?_, ?_, ?_, ?_, ?_, ?_, ?_, ?_, ?_, trivial⟩
    · intro u' W hbW hkp hdp K hK
      refine Eng.dv rfl rfl ?_ (hK _ _ (Below.refl _ _) rfl)
      exact (Eng.x_fa (v := (.pointer (some ⟨w.heap.size, 0, none⟩))) rfl (show Eng.opv 61 u' (.tmp 1) = (.pointer (some ⟨w.heap.size, 0, none⟩)) from hkp 1 rfl) (by kernel_rfl))
    · intro u' W hbW hkp hdp K hK
      have e0 : u' 15 = (.pointer (some ⟨w.heap.size, 0, none⟩)) := hdp.1
      refine Eng.dv rfl rfl ?_ (hK _ _ (Below.refl _ _) rfl)
      exact (Eng.x_ldA (v := (dg r)) rfl ag45_kv sz45_kv (show Eng.opv 61 u' (.tmp 15) = (.pointer (some ⟨w.heap.size, 0, none⟩)) from e0) ((bcs_length _).trans hr32) (Eng.blk_head (mid := (bcs r)) (post := ((.int .i64 h) :: (bcs d) ++ [v])) (by have q_ := ((hk13).below hbW); simpa only [List.append_assoc, List.cons_append, List.nil_append] using q_)) rfl)
    · intro u' W hbW hkp hdp K hK
      refine Eng.dv rfl rfl ?_ (hK _ _ (Below.refl _ _) rfl)
      exact (Eng.x_fa (v := (.pointer (some ⟨w.heap.size, 32, none⟩))) rfl (show Eng.opv 61 u' (.tmp 1) = (.pointer (some ⟨w.heap.size, 0, none⟩)) from hkp 1 rfl) (by kernel_rfl))
    · intro u' W hbW hkp hdp K hK
      have e2 : u' 17 = (.pointer (some ⟨w.heap.size, 32, none⟩)) := hdp.1
      refine Eng.dv rfl rfl ?_ (hK _ _ (Below.refl _ _) rfl)
      exact (Eng.x_ld1 (v := (.int .i64 h)) rfl ag3_kv (show Eng.opv 61 u' (.tmp 17) = (.pointer (some ⟨w.heap.size, 32, none⟩)) from e2) (Eng.blk_one (pre := (bcs r)) (post := ((bcs d) ++ [v])) (by have q_ := ((hk13).below hbW); simpa only [List.append_assoc, List.cons_append, List.nil_append] using q_) (Eng.len_dg hr32)))
    · intro u' W hbW hkp hdp K hK
      refine Eng.dv rfl rfl ?_ (hK _ _ (Below.refl _ _) rfl)
      exact (Eng.x_fa (v := (.pointer (some ⟨w.heap.size, 33, none⟩))) rfl (show Eng.opv 61 u' (.tmp 1) = (.pointer (some ⟨w.heap.size, 0, none⟩)) from hkp 1 rfl) (by kernel_rfl))
    · intro u' W hbW hkp hdp K hK
      have e4 : u' 19 = (.pointer (some ⟨w.heap.size, 33, none⟩)) := hdp.1
      refine Eng.dv rfl rfl ?_ (hK _ _ (Below.refl _ _) rfl)
      exact (Eng.x_ldA (v := (dg d)) rfl ag45_kv sz45_kv (show Eng.opv 61 u' (.tmp 19) = (.pointer (some ⟨w.heap.size, 33, none⟩)) from e4) ((bcs_length _).trans hd) (Eng.blk_part (pre := ((bcs r) ++ [(.int .i64 h)])) (mid := (bcs d)) (post := [v]) (by have q_ := ((hk13).below hbW); simpa only [List.append_assoc, List.cons_append, List.nil_append] using q_) (Eng.len_app (Eng.len_dg hr32) (Eng.len_cons (.int .i64 h) (rfl : ([] : List Value).length = 0)))) rfl)
    · intro u' W hbW hkp hdp K hK
      refine Eng.dv rfl rfl ?_ (hK _ _ (Below.refl _ _) rfl)
      exact (Eng.x_mv (v := v9) rfl (show Eng.opv 61 u' (.tmp 3) = v9 from hkp 3 rfl))
    · intro u' W hbW hkp hdp K hK
      refine Eng.dv rfl rfl ?_ (hK _ _ (Below.refl _ _) rfl)
      exact (Eng.x_fa (v := (.pointer (some ⟨w.heap.size, 65, none⟩))) rfl (show Eng.opv 61 u' (.tmp 1) = (.pointer (some ⟨w.heap.size, 0, none⟩)) from hkp 1 rfl) (by kernel_rfl))
    · intro u' W hbW hkp hdp K hK
      have e7 : u' 22 = (.pointer (some ⟨w.heap.size, 65, none⟩)) := hdp.1
      refine Eng.dv rfl rfl ?_ (hK _ _ (Below.refl _ _) rfl)
      exact (Eng.x_ld1 (v := v) rfl ag48_kv (show Eng.opv 61 u' (.tmp 22) = (.pointer (some ⟨w.heap.size, 65, none⟩)) from e7) (Eng.blk_one (pre := ((bcs r) ++ (.int .i64 h) :: (bcs d))) ((hk13).below hbW) (Eng.len_app (Eng.len_dg hr32) (Eng.len_cons (.int .i64 h) (Eng.len_dg hd)))))
    · intro u' W hbW hkp hdp K hK
      have e8 : u' 23 = v := hdp.1
      refine Eng.dv rfl rfl ?_ (hK _ _ (Below.refl _ _) rfl)
      exact (Eng.x_len (v := v) (r := (b.length : Int)) rfl Tryd.underlying48 (show Eng.opv 61 u' (.tmp 23) = v from e8) ((hr14).below hbW) rfl)
    · intro u' W hbW hkp hdp K hK
      have e6 : u' 21 = v9 := hdp.1
      have e9 : u' 24 = (.int .i64 (b.length : Int)) := hdp.2.1
      refine Eng.dv rfl rfl ?_ (hK _ _ (Below.refl _ _) rfl)
      exact (Eng.x_sl (v := v9) rfl Tryd.underlying48 sz5_kv (show Eng.opv 61 u' (.tmp 21) = v9 from e6) (((ho9).below hbW)).rd 0 b.length (.inl ⟨rfl, rfl⟩) (Eng.bd (k := .i64) (show Eng.opv 61 u' (.tmp 24) = (.int .i64 (b.length : Int)) from e9)) (by omega) (by simp only [List.length_append, List.length_cons, List.length_nil]; omega))
    · intro u' W hbW hkp hdp K hK
      have e1 : u' 16 = (dg r) := hdp.1
      have e3 : u' 18 = (.int .i64 h) := hdp.2.1
      have e5 : u' 20 = (dg d) := hdp.2.2.1
      have e10 : u' 25 = (Eng.sCut v9 0 b.length 1) := hdp.2.2.2.1
      refine Eng.dc (vs := #[(dg r), (.int .i64 h), (dg d), (Eng.sCut v9 0 b.length 1)]) rfl ?_ (verify_calls r d b h _ _ hr32 hd ((hq15).below hbW) hbl ((hr16).below hbW)) ?_
      · exact Eng.xc (xs := #[(Go.Operand.tmp 16), (Go.Operand.tmp 18), (Go.Operand.tmp 20), (Go.Operand.tmp 25)]) (vl := [(dg r), (.int .i64 h), (dg d), (Eng.sCut v9 0 b.length 1)]) rfl rfl (Eng.lc (show Eng.opv 61 u' (.tmp 16) = (dg r) from e1) (Eng.lc (show Eng.opv 61 u' (.tmp 18) = (.int .i64 h) from e3) (Eng.lc (show Eng.opv 61 u' (.tmp 20) = (dg d) from e5) (Eng.lc (show Eng.opv 61 u' (.tmp 25) = (Eng.sCut v9 0 b.length 1) from e10) rfl)))) en29_kv
      rintro _ W2 ⟨rfl, hb2⟩
      exact Eng.aft_v rfl (hK _ _ hb2 rfl)
    · intro u' W hbW hkp hdp K hK
      have e11 : u' 26 = (.tuple #[(.int .i64 ((vfK r h d b).1)), (.int .i64 ((vfK r h d b).2))]) := hdp.1
      refine Eng.dv rfl rfl ?_ (hK _ _ (Below.refl _ _) rfl)
      exact (Eng.x_mv (v := (.tuple #[(.int .i64 ((vfK r h d b).1)), (.int .i64 ((vfK r h d b).2))])) rfl (show Eng.opv 61 u' (.tmp 26) = (.tuple #[(.int .i64 ((vfK r h d b).1)), (.int .i64 ((vfK r h d b).2))]) from e11))
    · intro u' W hbW hkp hdp K hK
      have e12 : u' 14 = (.tuple #[(.int .i64 ((vfK r h d b).1)), (.int .i64 ((vfK r h d b).2))]) := hdp.1
      refine Eng.dv rfl rfl ?_ (hK _ _ (Below.refl _ _) rfl)
      exact (Eng.x_ext (v := (.int .i64 ((vfK r h d b).1))) rfl (show Eng.opv 61 u' (.tmp 14) = (.tuple #[(.int .i64 ((vfK r h d b).1)), (.int .i64 ((vfK r h d b).2))]) from e12) rfl)
    · intro u' W hbW hkp hdp K hK
      have e12 : u' 14 = (.tuple #[(.int .i64 ((vfK r h d b).1)), (.int .i64 ((vfK r h d b).2))]) := hdp.1
      refine Eng.dv rfl rfl ?_ (hK _ _ (Below.refl _ _) rfl)
      exact (Eng.x_ext (v := (.int .i64 ((vfK r h d b).2))) rfl (show Eng.opv 61 u' (.tmp 14) = (.tuple #[(.int .i64 ((vfK r h d b).1)), (.int .i64 ((vfK r h d b).2))]) from e12) rfl)
    · intro u' W hbW hkp hdp K hK
      have e13 : u' 27 = (.int .i64 ((vfK r h d b).1)) := hdp.1
      refine Eng.dv rfl rfl ?_ (hK _ _ (Below.refl _ _) rfl)
      exact (Eng.x_as (v := (.int .i64 ((vfK r h d b).1))) rfl (show Eng.opv 61 u' (.tmp 27) = (.int .i64 ((vfK r h d b).1)) from e13))
    · intro u' W hbW hkp hdp K hK
      have e14 : u' 28 = (.int .i64 ((vfK r h d b).2)) := hdp.1
      refine Eng.dv rfl rfl ?_ (hK _ _ (Below.refl _ _) rfl)
      exact (Eng.x_as (v := (.int .i64 ((vfK r h d b).2))) rfl (show Eng.opv 61 u' (.tmp 28) = (.int .i64 ((vfK r h d b).2)) from e14))
  · intro ud12 w12 hb12 hkp12 ⟨f12_0, f12_1, f12_2, f12_3, f12_4, f12_5, f12_6, f12_7, f12_8, f12_9, f12_10, f12_11, f12_12, f12_13, f12_14, f12_15, f12_16, _⟩
    obtain rfl := Eng.collect (l := [(15, (.pointer (some ⟨w.heap.size, 0, none⟩))), (16, (dg r)), (17, (.pointer (some ⟨w.heap.size, 32, none⟩))), (18, (.int .i64 h)), (19, (.pointer (some ⟨w.heap.size, 33, none⟩))), (20, (dg d)), (21, v9), (22, (.pointer (some ⟨w.heap.size, 65, none⟩))), (23, v), (24, (.int .i64 (b.length : Int))), (25, (Eng.sCut v9 0 b.length 1)), (26, (.tuple #[(.int .i64 ((vfK r h d b).1)), (.int .i64 ((vfK r h d b).2))])), (14, (.tuple #[(.int .i64 ((vfK r h d b).1)), (.int .i64 ((vfK r h d b).2))])), (27, (.int .i64 ((vfK r h d b).1))), (28, (.int .i64 ((vfK r h d b).2))), (4, (.int .i64 ((vfK r h d b).1))), (5, (.int .i64 ((vfK r h d b).2)))]) hkp12 ⟨f12_0, f12_1, f12_2, f12_3, f12_4, f12_5, f12_6, f12_7, f12_8, f12_9, f12_10, f12_11, f12_12, f12_13, f12_14, f12_15, f12_16, trivial⟩ rfl
    refine Eng.nil ?_
    refine hK11 _ _ ?_
    refine Eng.seqk fun K17 hK17 => ?_
    refine Eng.reg ?_
    refine Eng.sv rfl rfl (Eng.x_fa (v := (.pointer (some ⟨w.heap.size, 0, none⟩))) rfl rfl (by kernel_rfl)) ?_
    have hk18 := (hk13).below hb12
    refine Eng.sv rfl rfl (Eng.x_ldA (v := (dg r)) rfl ag45_kv sz45_kv rfl ((bcs_length _).trans hr32) (Eng.blk_head (mid := (bcs r)) (post := ((.int .i64 h) :: (bcs d) ++ [v])) (by have q_ := hk18; simpa only [List.append_assoc, List.cons_append, List.nil_append] using q_)) rfl) ?_
    refine Eng.sv rfl rfl (Eng.x_fa (v := (.pointer (some ⟨w.heap.size, 32, none⟩))) rfl rfl (by kernel_rfl)) ?_
    refine Eng.sv rfl rfl (Eng.x_ld1 (v := (.int .i64 h)) rfl ag3_kv rfl (Eng.blk_one (pre := (bcs r)) (post := ((bcs d) ++ [v])) (by have q_ := hk18; simpa only [List.append_assoc, List.cons_append, List.nil_append] using q_) (Eng.len_dg hr32))) ?_
    refine Eng.sv rfl rfl (Eng.x_fa (v := (.pointer (some ⟨w.heap.size, 33, none⟩))) rfl rfl (by kernel_rfl)) ?_
    refine Eng.sv rfl rfl (Eng.x_ldA (v := (dg d)) rfl ag45_kv sz45_kv rfl ((bcs_length _).trans hd) (Eng.blk_part (pre := ((bcs r) ++ [(.int .i64 h)])) (mid := (bcs d)) (post := [v]) (by have q_ := hk18; simpa only [List.append_assoc, List.cons_append, List.nil_append] using q_) (Eng.len_app (Eng.len_dg hr32) (Eng.len_cons (.int .i64 h) (rfl : ([] : List Value).length = 0)))) rfl) ?_
    refine Eng.sv rfl rfl (Eng.x_fa (v := (.pointer (some ⟨w.heap.size, 65, none⟩))) rfl rfl (by kernel_rfl)) ?_
    refine Eng.sv rfl rfl (Eng.x_ld1 (v := v) rfl ag48_kv rfl (Eng.blk_one (pre := ((bcs r) ++ (.int .i64 h) :: (bcs d))) hk18 (Eng.len_app (Eng.len_dg hr32) (Eng.len_cons (.int .i64 h) (Eng.len_dg hd))))) ?_
    have hB0_6 : Below w.heap.size w w12 := (hB0_5).trans (hb12.mono (hB0_5).size)
    have hr19 := (hb).below hB0_6
    refine Eng.sc rfl (Eng.xc (vl := [(dg r), (.int .i64 h), (dg d), v]) rfl rfl rfl en30_kv) (rverify_calls r d b h _ _ hr32 hd hr19 hbl) ?_
    rintro _ w20 ⟨rfl, hb20⟩
    refine Eng.aft_v rfl ?_
    refine Eng.sv rfl rfl (Eng.x_mv (v := (.tuple #[(.int .i64 ((vfK r h d b).1)), (.int .i64 ((vfK r h d b).2))])) rfl rfl) ?_
    refine Eng.sv rfl rfl (Eng.x_ext (v := (.int .i64 ((vfK r h d b).1))) rfl rfl rfl) ?_
    refine Eng.sv rfl rfl (Eng.x_ext (v := (.int .i64 ((vfK r h d b).2))) rfl rfl rfl) ?_
    refine Eng.sv rfl rfl (Eng.x_as (v := (.int .i64 ((vfK r h d b).1))) rfl rfl) ?_
    refine Eng.sv rfl rfl (Eng.x_as (v := (.int .i64 ((vfK r h d b).2))) rfl rfl) ?_
    refine Eng.nil ?_
    refine hK17 _ _ ?_
    refine Eng.seqk fun K21 hK21 => ?_
    refine Eng.reg ?_
    refine Eng.sv rfl rfl (Eng.x_mv (v := (.int .i64 ((vfK r h d b).1))) rfl rfl) ?_
    refine Eng.sv rfl rfl (Eng.x_mv (v := (.int .i64 ((vfK r h d b).1))) rfl rfl) ?_
    refine Eng.sv rfl rfl (Eng.x_eq (r := true) rfl rfl rfl (Eng.eq_t (rfl))) ?_
    refine Eng.sv rfl rfl (Eng.x_mv (v := (.bool true)) rfl rfl) ?_
    refine Eng.sv (Eng.gt rfl rfl rfl rfl) rfl (Eng.x_mv (v := (.int .i64 ((vfK r h d b).2))) rfl rfl) ?_
    refine Eng.sv (Eng.gt rfl rfl rfl rfl) rfl (Eng.x_mv (v := (.int .i64 ((vfK r h d b).2))) rfl rfl) ?_
    refine Eng.sv (Eng.gt rfl rfl rfl rfl) rfl (Eng.x_eq (r := true) rfl rfl rfl (Eng.eq_t (rfl))) ?_
    refine Eng.sv rfl rfl (Eng.x_pick (v := (.bool true)) rfl rfl rfl rfl rfl) ?_
    refine Eng.sv rfl rfl (Eng.x_mv (v := (.bool true)) rfl rfl) ?_
    refine Eng.sv (Eng.gt rfl rfl rfl rfl) rfl (Eng.x_mv (v := v9) rfl rfl) ?_
    have hr22 := ((ho9).below hb12).below hb20
    refine Eng.sv (Eng.gt rfl rfl rfl rfl) rfl (Eng.x_str (v := v9) (bs := ((b) ++ [90])) rfl Tryd.underlying48 Tryd.underlying5 Tryd.underlying9 rfl (hr22).rd) ?_
    refine Eng.sv (Eng.gt rfl rfl rfl rfl) rfl (Eng.x_fa (v := (.pointer (some ⟨w.heap.size, 65, none⟩))) rfl rfl (by kernel_rfl)) ?_
    have hk23 := (hk18).below hb20
    refine Eng.sv (Eng.gt rfl rfl rfl rfl) rfl (Eng.x_ld1 (v := v) rfl ag48_kv rfl (Eng.blk_one (pre := ((bcs r) ++ (.int .i64 h) :: (bcs d))) hk23 (Eng.len_app (Eng.len_dg hr32) (Eng.len_cons (.int .i64 h) (Eng.len_dg hd))))) ?_
    have hB0_7 : Below w.heap.size w w20 := (hB0_6).trans (hb20.mono (hB0_6).size)
    have hr24 := (hb).below hB0_7
    refine Eng.sv (Eng.gt rfl rfl rfl rfl) rfl (Eng.x_str (v := v) (bs := b) rfl Tryd.underlying48 Tryd.underlying5 Tryd.underlying9 rfl hr24) ?_
    refine Eng.sv (Eng.gt rfl rfl rfl rfl) rfl (Eng.x_addS (p := b) (q := [90]) (r := (b ++ [90])) rfl rfl rfl rfl (by simp only [List.length_cons, List.length_nil]; omega)) ?_
    refine Eng.sv (Eng.gt rfl rfl rfl rfl) rfl (Eng.x_eqS (p := ((b) ++ [90])) (q := (b ++ [90])) (r := true) rfl rfl rfl (by simp)) ?_
    refine Eng.sv rfl rfl (Eng.x_pick (v := (.bool true)) rfl rfl rfl rfl rfl) ?_
    refine Eng.sv rfl rfl (Eng.x_mv (v := (.bool true)) rfl rfl) ?_
    refine Eng.sc (Eng.gt rfl rfl rfl rfl) (Eng.xc (vl := []) rfl rfl rfl en28_kv) (knames_calls _) ?_
    rintro _ w25 ⟨rfl, hb25⟩
    refine Eng.aft_v rfl ?_
    refine Eng.sv rfl rfl (Eng.x_pick (v := (.bool true)) rfl rfl rfl rfl rfl) ?_
    refine Eng.sv rfl rfl (Eng.x_as (v := (.bool true)) rfl rfl) ?_
    refine Eng.nil ?_
    refine hK21 _ _ ?_
    refine Eng.rt ?_
    refine Eng.ret (Eng.res1 (v1 := (.bool true)) rfl (Eng.rdt rfl)) ?_
    have hB0_8 : Below w.heap.size w w25 := (hB0_7).trans (hb25.mono (hB0_7).size)
    exact ⟨rfl, hB0_8⟩
end Go.Proofs.YtnecgoahdkfbeaaDoor.Mac
end

section
namespace Go.Proofs.YtnecgoahdkfbeaaDoor.Opn
open Go Go.RowKit Go.Proofs.YtnecgoahdkfbeaaDoor.Cop Go.ChangeShapes Go.WideShapes Go.ChangeAt
open Go.ChangeMaps (open_string shut_string)
set_option linter.unusedVariables false
set_option linter.unusedSimpArgs false

theorem own : ownKnob Tryd.prog.godebug = none := by kernel_rfl
theorem laidOut : laidOutB Tryd.prog = true := by kernel_rfl

section
variable {H : Type} {enc : TypeId × Value → H} {W : World}

theorem wf_int {k : IntKind} {n : Int} (h : (Lit.int k n).wf = true) : k.min ≤ n ∧ n ≤ k.max := by
  simpa [Lit.wf] using h
theorem wf_i64 {n : Int} (h : (Lit.int .i64 n).wf = true) : -9223372036854775808 ≤ n ∧ n ≤ 9223372036854775807 := by
  have := wf_int h; simpa [IntKind.min, IntKind.max, IntKind.signed, IntKind.bits] using this
theorem wf_u64 {n : Int} (h : (Lit.int .u64 n).wf = true) : ∃ x : Nat, n = (x : Int) ∧ x < 18446744073709551616 := by
  have := wf_int h
  simp only [IntKind.min, IntKind.max, IntKind.signed, IntKind.bits] at this
  simp at this
  obtain ⟨x, rfl⟩ := Int.eq_ofNat_of_zero_le this.1
  exact ⟨x, rfl, by omega⟩
theorem wf_u32 {n : Int} (h : (Lit.int .u32 n).wf = true) : ∃ x : Nat, n = (x : Int) ∧ x < 4294967296 := by
  have := wf_int h
  simp only [IntKind.min, IntKind.max, IntKind.signed, IntKind.bits] at this
  simp at this
  obtain ⟨x, rfl⟩ := Int.eq_ofNat_of_zero_le this.1
  exact ⟨x, rfl, by omega⟩
theorem wf_u8 {n : Int} (h : (Lit.int .u8 n).wf = true) : ∃ x : UInt8, n = (x.toNat : Int) := by
  have := wf_int h
  simp only [IntKind.min, IntKind.max, IntKind.signed, IntKind.bits] at this
  simp at this
  obtain ⟨x, rfl⟩ := Int.eq_ofNat_of_zero_le this.1
  refine ⟨UInt8.ofNat x, ?_⟩
  rw [UInt8.toNat_ofNat']
  omega

/-- Numbers that are bytes. -/
theorem bytes_of (zs : List Int) (h : ∀ n ∈ zs, (Lit.int .u8 n).wf = true) : ∃ bs : List UInt8, zs.map (Value.int .u8) = bcs bs ∧ bs.length = zs.length := by
  induction zs with
  | nil => exact ⟨[], rfl, rfl⟩
  | cons z zs ih =>
    obtain ⟨bs, h1, h2⟩ := ih (fun n hn => h n (by simp [hn]))
    obtain ⟨b, rfl⟩ := wf_u8 (h z (by simp))
    exact ⟨b :: bs, by simp [bcs] at h1 ⊢; exact h1, by simp [h2]⟩

theorem cells8 : Tryd.prog.cellsOf 5 = 1 := by kernel_rfl
theorem bytes8 : Tryd.prog.bytesOf 5 = 1 := by kernel_rfl

set_option maxRecDepth 100000 in
/-- An argument that is a slice of bytes. -/
theorem open_bytes {base : Nat} {v : Value} {d : DataW H} {p : List MemPlace} (hval : Value.okWide Tryd.prog W .any base 48 v) (h : DataW.Trod enc Tryd.prog W 0 (fun _ => true) true 48 v d p)
    (hsz : ∀ elems spare, d = .slice elems spare → (elems.length + spare.length) * Tryd.prog.bytesOf 5 ≤ reachBytes) : ∃ bs : List UInt8, Oct.Rd W v bs ∧ bs.length ≤ 140737488351232 := by
  obtain ⟨a0, len, cap, rfl⟩ := okWide_slice Tryd.underlying48 hval
  obtain ⟨fuel, hf⟩ := h
  rcases open_ints Tryd.underlying48 Tryd.underlying5 cells8 hf with ⟨hcs, _⟩ | ⟨x, l, c, zs, hcs, _, hl, hm, hz, hx, hcell, hwz⟩
  · simp [Value.cells] at hcs
    obtain ⟨rfl, rfl, rfl⟩ := hcs
    exact ⟨[], Row.nil W, Nat.zero_le _⟩
  · simp [Value.cells] at hcs
    obtain ⟨rfl, rfl, rfl⟩ := hcs
    simp only [if_true] at hz
    simp only [Prod.mk.injEq] at hx
    have hs := hsz _ _ hx.1
    rw [bytes8] at hs
    simp only [lits, List.length_map, List.length_take, List.length_drop, reachBytes] at hs
    obtain ⟨bs, h1, h2⟩ := bytes_of (zs.take len) (fun n hn => hwz n (List.mem_of_mem_take hn))
    have h3 : bs.length = len := by rw [h2, List.length_take]; omega
    refine ⟨bs, ⟨some x, cap, by rw [h3], by rw [h3]; exact hl, hm, (fun h => by cases h), (fun ad had j u hu => ?_)⟩, by omega⟩
    cases had
    rw [← h1] at hu
    have hj : j < len := by
      have := (List.getElem?_eq_some_iff.1 hu).1
      simp at this; omega
    rw [hcell j (by omega)]
    rw [← hu]
    simp [hj, List.getElem?_eq_getElem (show j < zs.length by omega)]

/-- The cells of an array of bytes. -/
theorem bytes_of_array {t e : TypeId} {n fuel : Nat} {cs : List Value} {x : DataW H × List MemPlace} {w : World} {base : Nat} {spare : Nat → Bool} {held : Bool} (ht : Tryd.prog.underlying t = some (.array n e)) (he : Tryd.prog.underlying e = some (.int .u8)) (h1 : Tryd.prog.cellsOf e = 1) (hn : Tryd.prog.cellsOf t = n)
    (h : DataW.trod enc Tryd.prog w base spare held fuel t cs = some x) : ∃ d : List UInt8, cs = bcs d ∧ d.length = n := by
  obtain ⟨xs, m, rfl, _, hl, hxl, hel⟩ := DataW.trod_array ht h
  rw [hn] at hl
  have each : ∀ i, i < n → ∃ b : UInt8, cs[i]? = some (u8c b) := by
    intro i hi
    have hq := hel i hi
    rw [h1, Nat.mul_one, List.getElem?_eq_getElem (by omega)] at hq
    obtain ⟨z, hz, _, hw⟩ := DataW.trod_int he hq
    obtain ⟨b, rfl⟩ := wf_u8 hw
    refine ⟨b, ?_⟩
    have : ((cs.drop i).take 1)[0]? = some (u8c b) := by rw [hz]; rfl
    simpa using this
  obtain ⟨f, hf⟩ := Deep.choose_lt each
  refine ⟨(List.range n).map f, ?_, by simp⟩
  apply List.ext_getElem?
  intro i
  by_cases hi : i < n
  · rw [hf i hi]; simp [bcs, hi]
  · rw [List.getElem?_eq_none (by omega), List.getElem?_eq_none (by simp [bcs]; omega)]

theorem cellsD : Tryd.prog.cellsOf 45 = 32 := by kernel_rfl
set_option maxRecDepth 100000 in
/-- An argument that is a digest. -/
theorem open_digest {base : Nat} {v : Value} {d : DataW H} {p : List MemPlace} (hval : Value.okWide Tryd.prog W .any base 45 v) (h : DataW.Trod enc Tryd.prog W 0 (fun _ => true) true 45 v d p) :
    ∃ ds : List UInt8, v = dg ds ∧ ds.length = 32 := by
  simp only [Value.okWide, Tryd.underlying45] at hval
  obtain ⟨cs, rfl, hsz, _⟩ := hval
  obtain ⟨fuel, hf⟩ := h
  obtain ⟨ds, h1, h2⟩ := bytes_of_array Tryd.underlying45 Tryd.underlying5 cells8 cellsD hf
  refine ⟨ds, ?_, h2⟩
  have e : cs = (bcs ds).toArray := by rw [← h1]; simp [Value.cells]
  rw [e]
end
end Go.Proofs.YtnecgoahdkfbeaaDoor.Opn
end

section
namespace Go.Proofs.YtnecgoahdkfbeaaDoor.Opn
open Go Go.RowKit Go.Proofs.YtnecgoahdkfbeaaDoor.Cop Go.ChangeShapes Go.WideShapes Go.ChangeAt Go.Joins Go.Deep
set_option linter.unusedVariables false
theorem sg_head {H : Type} {P : Program} {t : TypeId} {ts : List TypeId} {d : DataW H} {r : List (DataW H)} {q : Nat → Bool} (h : (DataW.weightsEach P (t :: ts) (d :: r)).all q = true) : (d.weights P t).all q = true := by
  simp only [DataW.weightsEach, List.all_append, Bool.and_eq_true] at h
  exact h.1
set_option maxRecDepth 100000 in
theorem open_sg {H : Type} {enc : TypeId × Value → H} {W : World} {base : Nat} {v : Value} {d : DataW H} {p : List MemPlace} (hval : Value.okWide Tryd.prog W .any base 68 v) (h : DataW.Trod enc Tryd.prog W 0 (fun _ => true) true 68 v d p)
    (hw : (DataW.weights Tryd.prog 68 d).all (· ≤ reachBytes) = true) :
    ∃ (r : List UInt8) (n : Int) (ds : List UInt8) (u : Value) (b : List UInt8), v = .agg (bcs r ++ Value.int .i64 n :: bcs ds ++ [u] : List Value).toArray ∧ r.length = 32 ∧ ds.length = 32 ∧ Oct.Rd W u b ∧ b.length ≤ 140737488351232 := by
  have hc : Tryd.prog.cellsOf 68 = 66 := by kernel_rfl
  have hu : Tryd.prog.underlying 68 = some (.struct (Tryd.prog.fieldsOf 68)) := by kernel_rfl
  have hf : Tryd.prog.fieldsOf 68 = #[⟨"Root", 45, 0, false, "", "", 0⟩, ⟨"Height", 3, 32, false, "", "", 32⟩, ⟨"Digest", 45, 33, false, "", "", 40⟩, ⟨"Signature", 48, 65, false, "", "", 72⟩] := by kernel_rfl
  rw [hf] at hu
  obtain ⟨cs, rfl, hsz⟩ := okWide_struct hu hval
  obtain ⟨fuel, hfu⟩ := h
  obtain ⟨xs, n, _, hy, hl, hlen, hg⟩ := DataW.trod_struct hu hfu
  have g0 := hg 0 ⟨"Root", 45, 0, false, "", "", 0⟩ rfl
  have g1 := hg 1 ⟨"Height", 3, 32, false, "", "", 32⟩ rfl
  have g2 := hg 2 ⟨"Digest", 45, 33, false, "", "", 40⟩ rfl
  have g3 := hg 3 ⟨"Signature", 48, 65, false, "", "", 72⟩ rfl
  dsimp only at g0 g1 g2 g3
  have k1 : Tryd.prog.cellsOf 3 = 1 := by kernel_rfl
  have k0 : Tryd.prog.cellsOf 45 = 32 := by kernel_rfl
  have k3 : Tryd.prog.cellsOf 48 = 1 := by kernel_rfl
  rw [k0] at g0 g2
  rw [k1] at g1
  rw [k3] at g3
  rw [hc] at hsz
  obtain ⟨l⟩ := cs
  have hl66 : l.length = 66 := by simpa using hsz
  simp only [Value.cells, List.drop_zero] at g0 g1 g2 g3
  match xs, hlen with
  | [x0, x1, x2, x3], hlen =>
    simp only [List.getElem?_cons_zero, List.getElem?_cons_succ] at g0 g1 g2 g3
    obtain ⟨y, hy1⟩ : ∃ y, (l.drop 32).take 1 = [y] := by
      have : ((l.drop 32).take 1).length = 1 := by rw [List.length_take, List.length_drop]; omega
      match hq : (l.drop 32).take 1, this with
      | [y], _ => exact ⟨y, rfl⟩
    obtain ⟨u, hu1⟩ : ∃ u, (l.drop 65).take 1 = [u] := by
      have : ((l.drop 65).take 1).length = 1 := by rw [List.length_take, List.length_drop]; omega
      match hq : (l.drop 65).take 1, this with
      | [u], _ => exact ⟨u, rfl⟩
    rw [hy1] at g1
    rw [hu1] at g3
    obtain ⟨m, e1, _, _⟩ := DataW.trod_int Tryd.underlying3 g1
    obtain ⟨r, e0, h0⟩ := bytes_of_array Tryd.underlying45 Tryd.underlying5 cells8 cellsD g0
    obtain ⟨ds, e2, h2⟩ := bytes_of_array Tryd.underlying45 Tryd.underlying5 cells8 cellsD g2
    simp at e1
    have el : l = l.take 32 ++ ((l.drop 32).take 1 ++ ((l.drop 33).take 32 ++ (l.drop 65).take 1)) := by
      have a1 : l.drop 65 = (l.drop 65).take 1 := (List.take_of_length_le (by rw [List.length_drop]; omega)).symm
      have a2 : l.drop 33 = (l.drop 33).take 32 ++ l.drop 65 := by rw [show (65 : Nat) = 33 + 32 from rfl, ← List.drop_drop, List.take_append_drop]
      have a3 : l.drop 32 = (l.drop 32).take 1 ++ l.drop 33 := by rw [show (33 : Nat) = 32 + 1 from rfl, ← List.drop_drop, List.take_append_drop]
      rw [← a1, ← a2, ← a3, List.take_append_drop]
    have hb : ∃ b : List UInt8, Oct.Rd W u b ∧ b.length ≤ 140737488351232 := by
      rcases open_ints Tryd.underlying48 Tryd.underlying5 cells8 g3 with ⟨hcs, _⟩ | ⟨x, len, cap, zs, hcs, _, hl, hm, hz, hx, hcell, hwz⟩
      · simp at hcs
        subst hcs
        exact ⟨[], Row.nil W, Nat.zero_le _⟩
      · simp at hcs
        subst hcs
        simp only [if_true] at hz
        simp only [Prod.mk.injEq] at hx hy
        have hs : (DataW.weights Tryd.prog 48 x3.1).all (· ≤ reachBytes) = true := by
          obtain ⟨hy, _⟩ := hy
          subst hy
          simp only [DataW.weights, hu, List.map_cons, List.map_nil, DataW.weightsEach, List.all_append, Bool.and_eq_true] at hw
          exact hw.2.2.2.1
        rw [hx] at hs
        simp only [DataW.weights, Tryd.underlying48, bytes8, List.all_cons, Bool.and_eq_true, decide_eq_true_eq] at hs
        have hs := hs.1
        simp only [lits, List.length_map, List.length_take, List.length_drop, reachBytes] at hs
        obtain ⟨bs, h1, h2⟩ := bytes_of (zs.take len) (fun n hn => hwz n (List.mem_of_mem_take hn))
        have h3 : bs.length = len := by rw [h2, List.length_take]; omega
        refine ⟨bs, ⟨some x, cap, by rw [h3], by rw [h3]; exact hl, hm, (fun h => by cases h), (fun ad had j u hu => ?_)⟩, by omega⟩
        cases had
        rw [← h1] at hu
        have hj : j < len := by
          have := (List.getElem?_eq_some_iff.1 hu).1
          simp at this; omega
        rw [hcell j (by omega)]
        rw [← hu]
        simp [hj, List.getElem?_eq_getElem (show j < zs.length by omega)]
    obtain ⟨b, hb1, hb2⟩ := hb
    refine ⟨r, m, ds, u, b, ?_, h0, h2, hb1, hb2⟩
    have e3 : l = bcs r ++ Value.int .i64 m :: bcs ds ++ [u] := by
      rw [el, e0, hy1, e2, hu1, e1]
      simp
    rw [e3]
end Go.Proofs.YtnecgoahdkfbeaaDoor.Opn
end
