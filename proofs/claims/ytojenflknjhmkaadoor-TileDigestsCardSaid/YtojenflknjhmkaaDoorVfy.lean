/- verify.Root, Inclusion, Roots, Consistency and the reference's. -/
import Derived.Test.YtojenflknjhmkaaDoorVfyP
import Derived.Test.YtojenflknjhmkaaDoorEngT
namespace Go.Proofs.YtojenflknjhmkaaDoor.Vfy
open Go Go.RowKit Go.Proofs.YtojenflknjhmkaaDoor Go.Proofs.YtojenflknjhmkaaDoor.Cop Go.Proofs.YtojenflknjhmkaaDoor.Ver Go.Proofs.YtojenflknjhmkaaDoor.Tre Go.Proofs.YtojenflknjhmkaaDoor.Oct Go.Proofs.YtojenflknjhmkaaDoor.Dsl Go.Proofs.YtojenflknjhmkaaDoor.Sha
set_option linter.unusedVariables false
set_option linter.unusedSimpArgs false
theorem zr24_vf (w : World) : (zeroValue 24).run Tryd.prog w = .ok (dg Oct.dz) w := by kernel_rfl
theorem en158_vf : Eng.Entr Tryd.prog 158 := ⟨_, Tryd.func158, by kernel_rfl, by kernel_rfl⟩
theorem en159_vf : Eng.Entr Tryd.prog 159 := ⟨_, Tryd.func159, by kernel_rfl, by kernel_rfl⟩
theorem sz24_vf : (Tryd.prog.info? 24).map (fun i => i.size) = some 32 := by kernel_rfl
theorem ag24_vf (w : World) : (isAgg 24).run Tryd.prog w = .ok true w := by kernel_rfl
theorem sz210_vf : (Tryd.prog.info? 210).map (fun i => i.size) = some 1 := by kernel_rfl
theorem ag210_vf (w : World) : (isAgg 210).run Tryd.prog w = .ok false w := by kernel_rfl
theorem en60_vf : Eng.Entr Tryd.prog 60 := ⟨_, Tryd.func60, by kernel_rfl, by kernel_rfl⟩
theorem en199_vf : Eng.Entr Tryd.prog 199 := ⟨_, Tryd.func199, by kernel_rfl, by kernel_rfl⟩
theorem en160_vf : Eng.Entr Tryd.prog 160 := ⟨_, Tryd.func160, by kernel_rfl, by kernel_rfl⟩
theorem en157_vf : Eng.Entr Tryd.prog 157 := ⟨_, Tryd.func157, by kernel_rfl, by kernel_rfl⟩
theorem en125_vf : Eng.Entr Tryd.prog 125 := ⟨_, Tryd.func125, by kernel_rfl, by kernel_rfl⟩
theorem en107_vf : Eng.Entr Tryd.prog 107 := ⟨_, Tryd.func107, by kernel_rfl, by kernel_rfl⟩
theorem sz5_vf : (Tryd.prog.info? 5).map (fun i => i.size) = some 1 := by kernel_rfl
theorem en110_vf : Eng.Entr Tryd.prog 110 := ⟨_, Tryd.func110, by kernel_rfl, by kernel_rfl⟩
theorem _root_.Go.Proofs.YtojenflknjhmkaaDoor.Ver.OwnT.below {B : Nat} {w w' : World} {v : Value} {l : List Bool} (h : OwnT B w v l) (hb : Below w.heap.size w w') : OwnT B w' v l := own_below h hb
theorem _root_.Go.Proofs.YtojenflknjhmkaaDoor.Ver.OwnT.kept {B : Nat} {w w' : World} {v : Value} {l : List Bool} (h : OwnT B w v l) {row : Option Nat} (hg : w.grownBy w' row) (hne : v.ownBlock = none ∨ v.ownBlock ≠ row) : OwnT B w' v l := World.ownsRow.kept h hg hne
theorem _root_.Go.Proofs.YtojenflknjhmkaaDoor.Ver.OwnT.grL {E : List Nat} {B : Nat} {w w' : World} {v : Value} {l : List Bool} (h : OwnT B w v l) (hg : Eng.GrL E w w') (hn : ∀ g, v.ownBlock = some g → g ∉ E) : OwnT B w' v l := Eng.own_grL h hg hn
theorem rightB_iff {i n : Int} : rightB i n = true ↔ 1 ≤ n ∧ n ≤ 281474976710656 ∧ 0 ≤ i ∧ i < n := by simp [rightB, and_assoc]
theorem ordB_iff {m n : Int} : ordB m n = true ↔ 1 ≤ m ∧ m ≤ n ∧ n ≤ 281474976710656 := by simp [ordB, and_assoc]
theorem wayI (i n : Int) (h : rightB i n = true) (w : World) : Calls Tryd.prog 159 #[.int .i64 i, .int .i64 n] w fun e w' => ∃ v, e = .returned v ∧ OwnT w.heap.size w' v (wayL i.toNat n.toNat) ∧ Below w.heap.size w w' := by
  obtain ⟨h1, h2, h3, h4⟩ := rightB_iff.1 h
  obtain ⟨a, rfl⟩ : ∃ a : Nat, i = (a : Int) := ⟨i.toNat, by omega⟩
  obtain ⟨b, rfl⟩ : ∃ b : Nat, n = (b : Int) := ⟨n.toNat, by omega⟩
  exact way_calls a b (by omega) (by omega) w
theorem stepsI (m n : Int) (h : ordB m n = true) (w : World) : Calls Tryd.prog 162 #[.int .i64 m, .int .i64 n] w fun e w' => ∃ v, e = .returned (.tuple #[v, .bool (stL m.toNat n.toNat).2]) ∧ OwnT w.heap.size w' v (stL m.toNat n.toNat).1 ∧ Below w.heap.size w w' := by
  obtain ⟨h1, h2, h3⟩ := ordB_iff.1 h
  obtain ⟨a, rfl⟩ : ∃ a : Nat, m = (a : Int) := ⟨m.toNat, by omega⟩
  obtain ⟨b, rfl⟩ : ∃ b : Nat, n = (b : Int) := ⟨n.toNat, by omega⟩
  exact steps_calls a b (by omega) (by omega) (by omega) w
theorem node_eq {a b c : List UInt8} (e : nodeS a b = c) (ha : a.length = 32) (hb : b.length = 32) (w : World) (hK : Kon w) : Calls Tryd.prog 60 #[dg a, dg b] w fun e w' => e = .returned (dg c) ∧ Below w.heap.size w w' := by
  subst e; exact node_calls a b ha hb w hK
theorem rnode_eq {a b c : List UInt8} (e : nodeS a b = c) (ha : a.length = 32) (hb : b.length = 32) (w : World) : Calls Tryd.prog 157 #[dg a, dg b] w fun e w' => e = .returned (dg c) ∧ Below w.heap.size w w' := by
  subst e; exact rnode_calls a b ha hb w
theorem rlen_ok {i n : Int} (h : rightB i n = true) (w : World) : Calls Tryd.prog 125 #[.int .i64 i, .int .i64 n] w fun e w' => e = .returned (.tuple #[.int .i64 (lenN i n : Int), .int .i64 0]) ∧ w = w' := by
  have := rlength_calls i n w; rw [h] at this; simpa using this
theorem rlen_no {i n : Int} (h : rightB i n = false) (w : World) : Calls Tryd.prog 125 #[.int .i64 i, .int .i64 n] w fun e w' => e = .returned (.tuple #[.int .i64 0, .int .i64 40]) ∧ w = w' := by
  have := rlength_calls i n w; rw [h] at this; simpa using this
theorem rst_ok {i n : Int} (h : ordB i n = true) (w : World) : Calls Tryd.prog 126 #[.int .i64 i, .int .i64 n] w fun e w' => e = .returned (.tuple #[.int .i64 (stN i n : Int), .int .i64 0]) ∧ w = w' := by
  have := rsteps_calls i n w; rw [h] at this; simpa using this
theorem rst_no {i n : Int} (h : ordB i n = false) (w : World) : Calls Tryd.prog 126 #[.int .i64 i, .int .i64 n] w fun e w' => e = .returned (.tuple #[.int .i64 0, .int .i64 40]) ∧ w = w' := by
  have := rsteps_calls i n w; rw [h] at this; simpa using this
theorem ds_pre {w : World} {v : Value} {xs : List (List UInt8)} (h : Ds w v xs) {n : Nat} (hn : n ≤ xs.length) : Ds w (Eng.sCut v 0 n 32) (xs.take n) := by
  have := Eng.ds_cut h (l := 0) (h := n) (Nat.zero_le _) hn
  simpa using this
theorem ds_tl {w : World} {v : Value} {xs : List (List UInt8)} (h : Ds w v xs) (hn : 1 ≤ xs.length) : Ds w (Eng.sCut v 1 xs.length 32) xs.tail := by
  have := Eng.ds_cut h (l := 1) (h := xs.length) hn (Nat.le_refl _)
  have e : (xs.drop 1).take (xs.length - 1) = xs.tail := by rw [List.take_of_length_le (by rw [List.length_drop]; exact Nat.le_refl _), List.drop_one]
  rw [e] at this; exact this
def inclE (e : Int) (p q : List UInt8) : Int := if e = 0 then (if p = q then 0 else 71) else e
def consE (e : Int) (p q : List UInt8 × List UInt8) : Int := if e = 0 then (if p.1 = q.1 ∧ p.2 = q.2 then 0 else 71) else e
set_option maxRecDepth 100000 in
set_option maxHeartbeats 4000000 in
theorem root_calls (d : List UInt8) (hd : d.length = 32) (i n : Int) (v : Value) (xs : List (List UInt8)) (w : World) (h : Ds w v xs) (hK : Kon w) : Calls Tryd.prog 107 #[(dg d), (.int .i64 i), (.int .i64 n), v] w (fun e w' => e = .returned (.tuple #[dg (rootD d i n xs), .int .i64 (rootE i n xs.length)]) ∧ Below w.heap.size w w') := by
  have hsm := h.1.small
  refine Eng.enter (l := [(dg d), (.int .i64 i), (.int .i64 n), v]) Tryd.func107 rfl 52 rfl (by simp) ?_
  refine Eng.seqk fun K1 hK1 => ?_
  refine Eng.reg ?_
  refine Eng.bo (v := (dg d)) (cs := (bcs d)) rfl rfl rfl rfl rfl ?_
  intro w2 hk2 hb2 hz2
  refine Eng.al rfl rfl rfl zr24_vf (cs := (bcs Oct.dz)) rfl ?_
  intro w3 hk3 hb3 hz3
  refine Eng.sv rfl rfl (Eng.x_as (v := (.int .i64 0)) rfl rfl) ?_
  refine Eng.nil ?_
  refine hK1 _ _ ?_
  refine Eng.seqk fun K4 hK4 => ?_
  refine Eng.seqk fun K5 hK5 => ?_
  refine Eng.reg ?_
  refine Eng.sv rfl rfl (Eng.x_mv (v := (.int .i64 i)) rfl rfl) ?_
  refine Eng.sv rfl rfl (Eng.x_mv (v := (.int .i64 n)) rfl rfl) ?_
  refine Eng.sc rfl (Eng.xc (vl := [(.int .i64 i), (.int .i64 n)]) rfl rfl rfl en158_vf) (right_calls i n _) ?_
  rintro _ _ ⟨rfl, rfl⟩
  refine Eng.aft_v rfl ?_
  rcases Eng.tf (rightB i n) with hr | hr
  · skip
    rw [hr]
    refine Eng.sv rfl rfl (Eng.x_not (v := (.bool false)) rfl rfl rfl) ?_
    refine Eng.nil ?_
    refine hK5 _ _ ?_
    refine Eng.cond_f rfl ?_
    refine Eng.skp ?_
    refine hK4 _ _ ?_
    refine Eng.seqk fun K7 hK7 => ?_
    refine Eng.reg ?_
    refine Eng.sv rfl rfl (Eng.x_mv (v := (.int .i64 i)) rfl rfl) ?_
    refine Eng.sv rfl rfl (Eng.x_mv (v := (.int .i64 n)) rfl rfl) ?_
    refine Eng.sc rfl (Eng.xc (vl := [(.int .i64 i), (.int .i64 n)]) rfl rfl rfl en159_vf) (wayI i n hr _) ?_
    rintro _ w8 ⟨vl8, rfl, ho8, hb8⟩
    refine Eng.aft_v rfl ?_
    refine Eng.sv rfl rfl (Eng.x_as (v := vl8) rfl rfl) ?_
    refine Eng.nil ?_
    refine hK7 _ _ ?_
    refine Eng.seqk fun K9 hK9 => ?_
    refine Eng.seqk fun K10 hK10 => ?_
    refine Eng.reg ?_
    refine Eng.sv rfl rfl (Eng.x_mv (v := vl8) rfl rfl) ?_
    refine Eng.sv rfl rfl (Eng.x_len (v := vl8) (r := ((wayL i.toNat n.toNat).length : Int)) rfl Tryd.underlying208 rfl (Row.of_own ho8) rfl) ?_
    refine Eng.sv rfl rfl (Eng.x_mv (v := v) rfl rfl) ?_
    have hB0_2 : Below w.heap.size w w3 := (hb2).trans (hb3.mono (hb2).size)
    have hB0_3 : Below w.heap.size w w8 := (hB0_2).trans (hb8.mono (hB0_2).size)
    have hr11 := (h).below hB0_3
    refine Eng.sv rfl rfl (Eng.x_len (v := v) (r := (xs.length : Int)) rfl Tryd.underlying29 rfl (hr11).1 rfl) ?_
    by_cases h26 : (((wayL i.toNat n.toNat).length : Int) : Int) ≠ (xs.length : Int)
    · skip
      refine Eng.sv rfl rfl (Eng.x_ne (r := true) rfl rfl rfl (Eng.ne_t (by omega))) ?_
      refine Eng.nil ?_
      refine hK10 _ _ ?_
      refine Eng.cond_t rfl ?_
      refine Eng.seqk fun K12 hK12 => ?_
      refine Eng.reg ?_
      refine Eng.sv rfl rfl (Eng.x_build (ps := []) (v := (dg Oct.dz)) rfl rfl (by kernel_rfl)) ?_
      have hk13 := (hk3).below hb8
      refine Eng.stB (v := (dg Oct.dz)) rfl rfl rfl sz24_vf rfl hk13 rfl rfl (cs' := (bcs Oct.dz)) rfl rfl (bcs_one _) ?_
      intro w14 hk14 hg14
      refine Eng.sv rfl rfl (Eng.x_as (v := (.int .i64 70)) rfl rfl) ?_
      refine Eng.nil ?_
      refine hK12 _ _ ?_
      refine Eng.rt ?_
      refine Eng.tr ?_
      refine Eng.ret (Eng.res2 (v1 := (dg Oct.dz)) (v2 := (.int .i64 70)) rfl (Eng.rdc rfl (Eng.lvB ag24_vf sz24_vf hk14 rfl rfl)) (Eng.rdt rfl)) ?_
      have hB0_4 : Below w.heap.size w w14 := (hB0_3).grown hg14 (hB0_3).size (fun k e => by cases e; exact Nat.le_trans (hb2).size (Nat.le_refl _))
      have hnl : lenN i n ≠ xs.length := fun e => h26 (by rw [← e]; rfl)
      exact ⟨by simp [rootD, rootE, hr, hnl], hB0_4⟩
    · skip
      refine Eng.sv rfl rfl (Eng.x_ne (r := false) rfl rfl rfl (Eng.ne_f (by omega))) ?_
      refine Eng.nil ?_
      refine hK10 _ _ ?_
      refine Eng.cond_f rfl ?_
      refine Eng.skp ?_
      refine hK9 _ _ ?_
      refine Eng.seqk fun K15 hK15 => ?_
      refine Eng.reg ?_
      have hk16 := ((hk2).below hb3).below hb8
      refine Eng.sv rfl rfl (Eng.x_ldB (v := (dg d)) rfl ag24_vf sz24_vf rfl hk16 ((bcs_length _).trans hd) rfl) ?_
      refine Eng.al rfl rfl rfl zr24_vf (cs := (bcs Oct.dz)) rfl ?_
      intro w17 hk17 hb17 hz17
      refine Eng.stB (v := (dg d)) rfl rfl rfl sz24_vf rfl hk17 rfl rfl (cs' := (bcs d)) rfl ((bcs_length _).trans hd) (bcs_one _) ?_
      intro w18 hk18 hg18
      refine Eng.nil ?_
      refine hK15 _ _ ?_
      refine Eng.seqk fun K19 hK19 => ?_
      refine Eng.seqk fun K20 hK20 => ?_
      refine Eng.reg ?_
      refine Eng.sv rfl rfl (Eng.x_mv (v := v) rfl rfl) ?_
      have hB0_4 : Below w.heap.size w w17 := (hB0_3).trans (hb17.mono (hB0_3).size)
      have hB0_5 : Below w.heap.size w w18 := (hB0_4).grown hg18 (hB0_4).size (fun k e => by cases e; exact Nat.le_trans (hB0_3).size (Nat.le_refl _))
      have hr21 := (h).below hB0_5
      refine Eng.sv rfl rfl (Eng.x_len (v := v) (r := (xs.length : Int)) rfl Tryd.underlying29 rfl (hr21).1 rfl) ?_
      refine Eng.sv rfl rfl (Eng.x_mv (v := (.int .i64 0)) rfl rfl) ?_
      refine Eng.nil ?_
      refine hK20 _ _ ?_
      refine Eng.blk ?_
      have hk23 := (((hk3).below hb8).below hb17).grown hg18 (fun e => absurd (Option.some.inj e) (Nat.ne_of_lt (Nat.lt_of_lt_of_le hz3 (Nat.le_trans (hb8).size (Nat.le_refl _)))))
      have hr24 := ((ho8).below hb17).kept hg18 (.inr (fun e => absurd ((World.ownsRow.lt ho8) _ e).2 (Nat.not_lt_of_le (Nat.le_trans (Nat.le_refl _) (Nat.le_refl _)))))
      refine Eng.loopN (fun zz u w' => ∃ (k : Nat), zz = xs.length - k ∧ k ≤ xs.length ∧ Eng.Has u [(8, (.pointer (some ⟨w2.heap.size, 0, none⟩))), (9, (.int .i64 0)), (10, vl8), (11, (.pointer (some ⟨w8.heap.size, 0, none⟩))), (29, v), (30, (.int .i64 (xs.length : Int))), (31, (.int .i64 (k : Int)))] ∧ Below w.heap.size w w' ∧ w18.heap.size ≤ w'.heap.size ∧ Blk w' w2.heap.size 24 (bcs Oct.dz) ∧ Blk w' w8.heap.size 24 (bcs (upK d (wayL i.toNat n.toNat) xs k)) ∧ OwnT w3.heap.size w' vl8 (wayL i.toNat n.toNat)) _ ⟨0, rfl, by omega, ⟨rfl, rfl, rfl, rfl, rfl, rfl, (Eng.ie (by first | omega | rfl)), trivial⟩, hB0_5, (Nat.le_refl _), hk23, hk18, hr24⟩ ?_
      rintro _ u22 w22 ⟨k, rfl, hs22_0, hH22, hBL22, hzL22, hkL22_0, hkL22_1, hrL22_0⟩ K22 hK22
      obtain ⟨u22, rfl⟩ := hH22.ex
      refine Eng.seqk fun K25 hK25 => ?_
      refine Eng.reg ?_
      by_cases h32 : ((k : Int) : Int) < (xs.length : Int)
      · skip
        refine Eng.sv rfl rfl (Eng.x_lt (r := true) rfl rfl rfl (decide_eq_true (by omega))) ?_
        refine Eng.nil ?_
        refine hK25 _ _ ?_
        refine Eng.seqk fun K26 hK26 => ?_
        refine Eng.cond_t rfl ?_
        refine Eng.skp ?_
        refine hK26 _ _ ?_
        refine Eng.seqk fun K27 hK27 => ?_
        refine Eng.blk ?_
        refine Eng.seqk fun K28 hK28 => ?_
        refine Eng.reg ?_
        refine Eng.sv rfl rfl (Eng.x_mv (v := (.int .i64 (k : Int))) rfl rfl) ?_
        have hr29 := (h).below hBL22
        refine Eng.sv rfl rfl (Eng.x_ia (v := v) (j := k) rfl Tryd.underlying29 sz24_vf (by decide) rfl rfl (hr29).1 (Dsl.dcs_len _ (hr29).2) (by omega) (by omega)) ?_
        refine Eng.sv rfl rfl (Eng.x_ldA (v := (dg ((xs).getD k []))) rfl ag24_vf sz24_vf rfl ((bcs_length _).trans (Eng.ds_len hr29 (by omega))) (Eng.ds_at hr29 (by omega)) rfl) ?_
        refine Eng.al rfl rfl rfl zr24_vf (cs := (bcs Oct.dz)) rfl ?_
        intro w30 hk30 hb30 hz30
        refine Eng.sv rfl rfl (Eng.x_as (v := (.int .i64 (k : Int))) rfl rfl) ?_
        refine Eng.stB (v := (dg ((xs).getD k []))) rfl rfl rfl sz24_vf rfl hk30 rfl rfl (cs' := (bcs ((xs).getD k []))) rfl ((bcs_length _).trans (Eng.ds_len hr29 (by omega))) (bcs_one _) ?_
        intro w31 hk31 hg31
        refine Eng.nil ?_
        refine hK28 _ _ ?_
        refine Eng.seqk fun K32 hK32 => ?_
        refine Eng.reg ?_
        refine Eng.sv rfl rfl (Eng.x_mv (v := vl8) rfl rfl) ?_
        refine Eng.sv rfl rfl (Eng.x_mv (v := vl8) rfl rfl) ?_
        have hB3_5 : Below w8.heap.size w8 w18 := (hb17).grown hg18 (hb17).size (fun k e => by cases e; exact Nat.le_trans (Nat.le_refl _) (Nat.le_refl _))
        have hr33 := ((hrL22_0).below hb30).kept hg31 (.inr (fun e => absurd ((World.ownsRow.lt ho8) _ e).2 (Nat.not_lt_of_le (Nat.le_trans (Nat.le_trans (hB3_5).size hzL22) (Nat.le_refl _)))))
        refine Eng.sv rfl rfl (Eng.x_len (v := vl8) (r := ((wayL i.toNat n.toNat).length : Int)) rfl Tryd.underlying208 rfl (Row.of_own hr33) rfl) ?_
        refine Eng.sv rfl rfl (Eng.x_sub rfl rfl rfl (Eng.w64 (r := (((wayL i.toNat n.toNat).length : Int) - 1)) (by omega))) ?_
        refine Eng.sv rfl rfl (Eng.x_mv (v := (.int .i64 (k : Int))) rfl rfl) ?_
        refine Eng.sv rfl rfl (Eng.x_sub rfl rfl rfl (Eng.w64 (r := (((wayL i.toNat n.toNat).length - 1 - k : Nat) : Int)) (by omega))) ?_
        refine Eng.sv rfl rfl (Eng.x_ia (v := vl8) (j := (wayL i.toNat n.toNat).length - 1 - k) rfl Tryd.underlying208 sz210_vf (by decide) rfl rfl (Row.of_own hr33) (by rw [Nat.mul_one]; exact List.length_map _) (by omega) (by omega)) ?_
        refine Eng.sv rfl rfl (Eng.x_ld1 (v := (.bool (((wayL i.toNat n.toNat)).getD ((wayL i.toNat n.toNat).length - 1 - k) false))) rfl ag210_vf rfl (Eng.row_get (Row.of_own hr33) (Eng.map_get Value.bool _ false (by omega)))) ?_
        refine Eng.nil ?_
        refine hK32 _ _ ?_
        refine Eng.cond_b rfl (fun hc34 => ?_) (fun hc34 => ?_)
        · skip
          refine Eng.reg ?_
          have hk35 := ((hkL22_1).below hb30).grown hg31 (fun e => absurd (Option.some.inj e) (Nat.ne_of_lt (Nat.lt_of_lt_of_le hz17 (Nat.le_trans (Nat.le_trans (hg18).size hzL22) (Nat.le_refl _)))))
          refine Eng.sv rfl rfl (Eng.x_ldB (v := (dg (upK d (wayL i.toNat n.toNat) xs k))) rfl ag24_vf sz24_vf rfl hk35 ((bcs_length _).trans (upK_len _ _ _ _ hd)) rfl) ?_
          refine Eng.sv rfl rfl (Eng.x_ldB (v := (dg ((xs).getD k []))) rfl ag24_vf sz24_vf rfl hk31 ((bcs_length _).trans (Eng.ds_len hr29 (by omega))) rfl) ?_
          have hB0_7 : Below w.heap.size w w30 := (hBL22).trans (hb30.mono (hBL22).size)
          have hB0_8 : Below w.heap.size w w31 := (hB0_7).grown hg31 (hB0_7).size (fun k e => by cases e; exact Nat.le_trans (hBL22).size (Nat.le_refl _))
          have hr36 := (hK).below hB0_8
          refine Eng.sc rfl (Eng.xc (vl := [(dg (upK d (wayL i.toNat n.toNat) xs k)), (dg ((xs).getD k []))]) rfl rfl rfl en60_vf) (node_eq (upK_t (l := (wayL i.toNat n.toNat)) (by omega) (by omega) hc34) (upK_len _ _ _ _ hd) (Eng.ds_len hr29 (by omega)) _ hr36) ?_
          rintro _ w37 ⟨rfl, hb37⟩
          refine Eng.aft_v rfl ?_
          have hk38 := (hk35).below hb37
          refine Eng.stB (v := (dg (upK d (wayL i.toNat n.toNat) xs (k + 1)))) rfl rfl rfl sz24_vf rfl hk38 ((bcs_length _).trans (upK_len _ _ _ _ hd)) rfl (cs' := (bcs (upK d (wayL i.toNat n.toNat) xs (k + 1)))) rfl ((bcs_length _).trans (upK_len _ _ _ _ hd)) (bcs_one _) ?_
          intro w39 hk39 hg39
          refine Eng.nil ?_
          refine Eng.nb ?_
          refine hK27 _ _ ?_
          refine Eng.reg ?_
          refine Eng.sv rfl rfl (Eng.x_add rfl rfl rfl (Eng.w64 (r := ((k : Int) + 1)) (by omega))) ?_
          refine Eng.sv rfl rfl (Eng.x_mv (v := (.int .i64 ((k : Int) + 1))) rfl rfl) ?_
          refine Eng.nil ?_
          have hr40 := ((hr33).below hb37).kept hg39 (.inr (fun e => absurd ((World.ownsRow.lt ho8) _ e).2 (Nat.not_lt_of_le (Nat.le_trans (Nat.le_refl _) (Nat.le_refl _)))))
          have hB0_9 : Below w.heap.size w w37 := (hB0_8).trans (hb37.mono (hB0_8).size)
          have hB0_10 : Below w.heap.size w w39 := (hB0_9).grown hg39 (hB0_9).size (fun k e => by cases e; exact Nat.le_trans (hB0_3).size (Nat.le_refl _))
          have hB2_4 : Below w3.heap.size w3 w17 := (hb8).trans (hb17.mono (hb8).size)
          have hB2_5 : Below w3.heap.size w3 w18 := (hB2_4).grown hg18 (hB2_4).size (fun k e => by cases e; exact Nat.le_trans (hb8).size (Nat.le_refl _))
          have hk41 := ((((hkL22_0).below hb30).grown hg31 (fun e => absurd (Option.some.inj e) (Nat.ne_of_lt (Nat.lt_of_lt_of_le hz3 (Nat.le_trans (Nat.le_trans (hB2_5).size hzL22) (Nat.le_refl _)))))).below hb37).grown hg39 (fun e => absurd (Option.some.inj e) (Nat.ne_of_lt (Nat.lt_of_lt_of_le hz3 (Nat.le_trans (hb8).size (Nat.le_refl _)))))
          exact hK22 _ _ _ ⟨k + 1, rfl, by omega, ⟨rfl, rfl, rfl, rfl, rfl, rfl, (Eng.ie (by first | omega | rfl)), trivial⟩, hB0_10, (Nat.le_trans (Nat.le_trans (Nat.le_trans (Nat.le_trans hzL22 (hb30).size) (hg31).size) (hb37).size) (hg39).size), hk41, hk39, hr40⟩ (by omega)
        · skip
          refine Eng.reg ?_
          refine Eng.sv rfl rfl (Eng.x_ldB (v := (dg ((xs).getD k []))) rfl ag24_vf sz24_vf rfl hk31 ((bcs_length _).trans (Eng.ds_len hr29 (by omega))) rfl) ?_
          have hk42 := ((hkL22_1).below hb30).grown hg31 (fun e => absurd (Option.some.inj e) (Nat.ne_of_lt (Nat.lt_of_lt_of_le hz17 (Nat.le_trans (Nat.le_trans (hg18).size hzL22) (Nat.le_refl _)))))
          refine Eng.sv rfl rfl (Eng.x_ldB (v := (dg (upK d (wayL i.toNat n.toNat) xs k))) rfl ag24_vf sz24_vf rfl hk42 ((bcs_length _).trans (upK_len _ _ _ _ hd)) rfl) ?_
          have hB0_7 : Below w.heap.size w w30 := (hBL22).trans (hb30.mono (hBL22).size)
          have hB0_8 : Below w.heap.size w w31 := (hB0_7).grown hg31 (hB0_7).size (fun k e => by cases e; exact Nat.le_trans (hBL22).size (Nat.le_refl _))
          have hr43 := (hK).below hB0_8
          refine Eng.sc rfl (Eng.xc (vl := [(dg ((xs).getD k [])), (dg (upK d (wayL i.toNat n.toNat) xs k))]) rfl rfl rfl en60_vf) (node_eq (upK_f (l := (wayL i.toNat n.toNat)) (by omega) (by omega) hc34) (Eng.ds_len hr29 (by omega)) (upK_len _ _ _ _ hd) _ hr43) ?_
          rintro _ w44 ⟨rfl, hb44⟩
          refine Eng.aft_v rfl ?_
          have hk45 := (hk42).below hb44
          refine Eng.stB (v := (dg (upK d (wayL i.toNat n.toNat) xs (k + 1)))) rfl rfl rfl sz24_vf rfl hk45 ((bcs_length _).trans (upK_len _ _ _ _ hd)) rfl (cs' := (bcs (upK d (wayL i.toNat n.toNat) xs (k + 1)))) rfl ((bcs_length _).trans (upK_len _ _ _ _ hd)) (bcs_one _) ?_
          intro w46 hk46 hg46
          refine Eng.nil ?_
          refine Eng.nb ?_
          refine hK27 _ _ ?_
          refine Eng.reg ?_
          refine Eng.sv rfl rfl (Eng.x_add rfl rfl rfl (Eng.w64 (r := ((k : Int) + 1)) (by omega))) ?_
          refine Eng.sv rfl rfl (Eng.x_mv (v := (.int .i64 ((k : Int) + 1))) rfl rfl) ?_
          refine Eng.nil ?_
          have hr47 := ((hr33).below hb44).kept hg46 (.inr (fun e => absurd ((World.ownsRow.lt ho8) _ e).2 (Nat.not_lt_of_le (Nat.le_trans (Nat.le_refl _) (Nat.le_refl _)))))
          have hB0_9 : Below w.heap.size w w44 := (hB0_8).trans (hb44.mono (hB0_8).size)
          have hB0_10 : Below w.heap.size w w46 := (hB0_9).grown hg46 (hB0_9).size (fun k e => by cases e; exact Nat.le_trans (hB0_3).size (Nat.le_refl _))
          have hB2_4 : Below w3.heap.size w3 w17 := (hb8).trans (hb17.mono (hb8).size)
          have hB2_5 : Below w3.heap.size w3 w18 := (hB2_4).grown hg18 (hB2_4).size (fun k e => by cases e; exact Nat.le_trans (hb8).size (Nat.le_refl _))
          have hk48 := ((((hkL22_0).below hb30).grown hg31 (fun e => absurd (Option.some.inj e) (Nat.ne_of_lt (Nat.lt_of_lt_of_le hz3 (Nat.le_trans (Nat.le_trans (hB2_5).size hzL22) (Nat.le_refl _)))))).below hb44).grown hg46 (fun e => absurd (Option.some.inj e) (Nat.ne_of_lt (Nat.lt_of_lt_of_le hz3 (Nat.le_trans (hb8).size (Nat.le_refl _)))))
          exact hK22 _ _ _ ⟨k + 1, rfl, by omega, ⟨rfl, rfl, rfl, rfl, rfl, rfl, (Eng.ie (by first | omega | rfl)), trivial⟩, hB0_10, (Nat.le_trans (Nat.le_trans (Nat.le_trans (Nat.le_trans hzL22 (hb30).size) (hg31).size) (hb44).size) (hg46).size), hk48, hk46, hr47⟩ (by omega)
      · skip
        refine Eng.sv rfl rfl (Eng.x_lt (r := false) rfl rfl rfl (decide_eq_false (by omega))) ?_
        refine Eng.nil ?_
        refine hK25 _ _ ?_
        refine Eng.seqk fun K49 hK49 => ?_
        refine Eng.cond_f rfl ?_
        refine Eng.xt ?_
        refine Eng.te ?_
        refine Eng.te ?_
        refine Eng.be ?_
        refine hK19 _ _ ?_
        refine Eng.seqk fun K50 hK50 => ?_
        refine Eng.reg ?_
        refine Eng.sv rfl rfl (Eng.x_ldB (v := (dg (upK d (wayL i.toNat n.toNat) xs k))) rfl ag24_vf sz24_vf rfl hkL22_1 ((bcs_length _).trans (upK_len _ _ _ _ hd)) rfl) ?_
        refine Eng.stB (v := (dg (upK d (wayL i.toNat n.toNat) xs k))) rfl rfl rfl sz24_vf rfl hkL22_0 rfl rfl (cs' := (bcs (upK d (wayL i.toNat n.toNat) xs k))) rfl ((bcs_length _).trans (upK_len _ _ _ _ hd)) (bcs_one _) ?_
        intro w51 hk51 hg51
        refine Eng.sv rfl rfl (Eng.x_as (v := (.int .i64 0)) rfl rfl) ?_
        refine Eng.nil ?_
        refine hK50 _ _ ?_
        refine Eng.rt ?_
        refine Eng.ret (Eng.res2 (v1 := (dg (upK d (wayL i.toNat n.toNat) xs k))) (v2 := (.int .i64 0)) rfl (Eng.rdc rfl (Eng.lvB ag24_vf sz24_vf hk51 ((bcs_length _).trans (upK_len _ _ _ _ hd)) rfl)) (Eng.rdt rfl)) ?_
        have hB0_7 : Below w.heap.size w w51 := (hBL22).grown hg51 (hBL22).size (fun k e => by cases e; exact Nat.le_trans (hb2).size (Nat.le_refl _))
        have hln : lenN i n = xs.length := by have := h26; unfold lenN; omega
        have hE : rootE i n xs.length = 0 := by simp [rootE, hr, hln]
        have hkl : k = xs.length := by omega
        have hup : upK d (wayL i.toNat n.toNat) xs k = rootD d i n xs := by unfold rootD; rw [if_pos hE, hkl, ← hln]; exact upK_all _ _ _ hln
        exact ⟨by rw [hE, hup], hB0_7⟩
  · skip
    rw [hr]
    refine Eng.sv rfl rfl (Eng.x_not (v := (.bool true)) rfl rfl rfl) ?_
    refine Eng.nil ?_
    refine hK5 _ _ ?_
    refine Eng.cond_t rfl ?_
    refine Eng.seqk fun K52 hK52 => ?_
    refine Eng.reg ?_
    refine Eng.sv rfl rfl (Eng.x_build (ps := []) (v := (dg Oct.dz)) rfl rfl (by kernel_rfl)) ?_
    refine Eng.stB (v := (dg Oct.dz)) rfl rfl rfl sz24_vf rfl hk3 rfl rfl (cs' := (bcs Oct.dz)) rfl rfl (bcs_one _) ?_
    intro w53 hk53 hg53
    refine Eng.sv rfl rfl (Eng.x_as (v := (.int .i64 40)) rfl rfl) ?_
    refine Eng.nil ?_
    refine hK52 _ _ ?_
    refine Eng.rt ?_
    refine Eng.tr ?_
    refine Eng.ret (Eng.res2 (v1 := (dg Oct.dz)) (v2 := (.int .i64 40)) rfl (Eng.rdc rfl (Eng.lvB ag24_vf sz24_vf hk53 rfl rfl)) (Eng.rdt rfl)) ?_
    have hB0_2 : Below w.heap.size w w3 := (hb2).trans (hb3.mono (hb2).size)
    have hB0_3 : Below w.heap.size w w53 := (hB0_2).grown hg53 (hB0_2).size (fun k e => by cases e; exact Nat.le_trans (hb2).size (Nat.le_refl _))
    exact ⟨by simp [rootD, rootE, hr], hB0_3⟩
def UpC (n : Nat) : Prop := ∀ (i : Nat) (d : List UInt8) (v : Value) (xs : List (List UInt8)) (w : World), i < n → n ≤ 281474976710656 → d.length = 32 → Ds w v xs → xs.length = (wayL i n).length → Calls Tryd.prog 160 #[dg d, .int .i64 (i : Int), .int .i64 (n : Int), v] w fun e w' => e = .returned (dg (climb d (wayL i n).reverse xs)) ∧ Below w.heap.size w w'
theorem up_t {d : List UInt8} {i n : Nat} {xs : List (List UInt8)} (h2 : 2 ≤ n) (hn : n ≤ 281474976710656) (hi : i < H n) (hx : xs.length = (wayL i n).length) : nodeS (climb d (wayL i (H n)).reverse (xs.take (xs.length - 1))) (xs.getD (xs.length - 1) []) = climb d (wayL i n).reverse xs := by
  rw [wayL_step i n h2 hn, if_pos hi] at hx ⊢
  rw [climb_top _ _ _ _ (by simpa using hx)]; rfl
theorem up_f {d : List UInt8} {i n : Nat} {xs : List (List UInt8)} (h2 : 2 ≤ n) (hn : n ≤ 281474976710656) (hi : ¬ i < H n) (hx : xs.length = (wayL i n).length) : nodeS (xs.getD (xs.length - 1) []) (climb d (wayL (i - H n) (n - H n)).reverse (xs.take (xs.length - 1))) = climb d (wayL i n).reverse xs := by
  rw [wayL_step i n h2 hn, if_neg hi] at hx ⊢
  rw [climb_top _ _ _ _ (by simpa using hx)]; rfl
theorem way_pos {i n : Nat} (h2 : 2 ≤ n) (hn : n ≤ 281474976710656) : (wayL i n).length = (if i < H n then (wayL i (H n)).length else (wayL (i - H n) (n - H n)).length) + 1 := by
  rw [wayL_step i n h2 hn]; split <;> rfl
set_option maxRecDepth 100000 in
set_option maxHeartbeats 4000000 in
theorem up_step (n : Nat) (ih : ∀ m, m < n → UpC m) (i : Nat) (d : List UInt8) (v : Value) (xs : List (List UInt8)) (w : World) (hi : i < n) (hn : n ≤ 281474976710656) (hd : d.length = 32) (h : Ds w v xs) (hx : xs.length = (wayL i n).length) : Calls Tryd.prog 160 #[(dg d), (.int .i64 (i : Int)), (.int .i64 (n : Int)), v] w (fun e w' => e = .returned (dg (climb d (wayL i n).reverse xs)) ∧ Below w.heap.size w w') := by
  have hsm := h.1.small
  refine Eng.enter (l := [(dg d), (.int .i64 (i : Int)), (.int .i64 (n : Int)), v]) Tryd.func160 rfl 49 rfl (by simp) ?_
  refine Eng.seqk fun K1 hK1 => ?_
  refine Eng.reg ?_
  refine Eng.bo (v := (dg d)) (cs := (bcs d)) rfl rfl rfl rfl rfl ?_
  intro w2 hk2 hb2 hz2
  refine Eng.al rfl rfl rfl zr24_vf (cs := (bcs Oct.dz)) rfl ?_
  intro w3 hk3 hb3 hz3
  refine Eng.nil ?_
  refine hK1 _ _ ?_
  refine Eng.seqk fun K4 hK4 => ?_
  refine Eng.seqk fun K5 hK5 => ?_
  refine Eng.reg ?_
  refine Eng.sv rfl rfl (Eng.x_mv (v := (.int .i64 (n : Int))) rfl rfl) ?_
  by_cases h13 : ((n : Int) : Int) = 1
  · skip
    refine Eng.sv rfl rfl (Eng.x_eq (r := true) rfl rfl rfl (Eng.eq_t (by omega))) ?_
    refine Eng.nil ?_
    refine hK5 _ _ ?_
    refine Eng.cond_t rfl ?_
    refine Eng.seqk fun K6 hK6 => ?_
    refine Eng.reg ?_
    have hk7 := (hk2).below hb3
    refine Eng.sv rfl rfl (Eng.x_ldB (v := (dg d)) rfl ag24_vf sz24_vf rfl hk7 ((bcs_length _).trans hd) rfl) ?_
    refine Eng.stB (v := (dg d)) rfl rfl rfl sz24_vf rfl hk3 rfl rfl (cs' := (bcs d)) rfl ((bcs_length _).trans hd) (bcs_one _) ?_
    intro w8 hk8 hg8
    refine Eng.nil ?_
    refine hK6 _ _ ?_
    refine Eng.rt ?_
    refine Eng.tr ?_
    refine Eng.ret (Eng.res1 (v1 := (dg d)) rfl (Eng.rdc rfl (Eng.lvB ag24_vf sz24_vf hk8 ((bcs_length _).trans hd) rfl))) ?_
    have hB0_2 : Below w.heap.size w w3 := (hb2).trans (hb3.mono (hb2).size)
    have hB0_3 : Below w.heap.size w w8 := (hB0_2).grown hg8 (hB0_2).size (fun k e => by cases e; exact Nat.le_trans (hb2).size (Nat.le_refl _))
    have e1 : n = 1 := by omega
    exact ⟨by subst e1; rw [wayL_one]; rfl, hB0_3⟩
  · skip
    have h2 : 2 ≤ n := by omega
    obtain ⟨q1, q2, q3⟩ := H_spec n h2 hn
    have hwp := way_pos (i := i) h2 hn
    refine Eng.sv rfl rfl (Eng.x_eq (r := false) rfl rfl rfl (Eng.eq_f (by omega))) ?_
    refine Eng.nil ?_
    refine hK5 _ _ ?_
    refine Eng.cond_f rfl ?_
    refine Eng.skp ?_
    refine hK4 _ _ ?_
    refine Eng.seqk fun K9 hK9 => ?_
    refine Eng.reg ?_
    refine Eng.sv rfl rfl (Eng.x_mv (v := (.int .i64 (n : Int))) rfl rfl) ?_
    refine Eng.sc rfl (Eng.xc (vl := [(.int .i64 (n : Int))]) rfl rfl rfl en199_vf) (rhalf_calls n h2 hn _) ?_
    rintro _ _ ⟨rfl, rfl⟩
    refine Eng.aft_v rfl ?_
    refine Eng.sv rfl rfl (Eng.x_as (v := (.int .i64 (H n : Int))) rfl rfl) ?_
    refine Eng.nil ?_
    refine hK9 _ _ ?_
    refine Eng.seqk fun K11 hK11 => ?_
    refine Eng.reg ?_
    refine Eng.sv rfl rfl (Eng.x_mv (v := v) rfl rfl) ?_
    refine Eng.sv rfl rfl (Eng.x_mv (v := v) rfl rfl) ?_
    have hB0_2 : Below w.heap.size w w3 := (hb2).trans (hb3.mono (hb2).size)
    have hr12 := (h).below hB0_2
    refine Eng.sv rfl rfl (Eng.x_len (v := v) (r := (xs.length : Int)) rfl Tryd.underlying29 rfl (hr12).1 rfl) ?_
    refine Eng.sv rfl rfl (Eng.x_sub rfl rfl rfl (Eng.w64 (r := ((xs.length - 1 : Nat) : Int)) (by omega))) ?_
    refine Eng.sv rfl rfl (Eng.x_ia (v := v) (j := xs.length - 1) rfl Tryd.underlying29 sz24_vf (by decide) rfl rfl (hr12).1 (Dsl.dcs_len _ (hr12).2) (by omega) (by omega)) ?_
    refine Eng.sv rfl rfl (Eng.x_ldA (v := (dg ((xs).getD (xs.length - 1) []))) rfl ag24_vf sz24_vf rfl ((bcs_length _).trans (Eng.ds_len hr12 (by omega))) (Eng.ds_at hr12 (by omega)) rfl) ?_
    refine Eng.al rfl rfl rfl zr24_vf (cs := (bcs Oct.dz)) rfl ?_
    intro w13 hk13 hb13 hz13
    refine Eng.stB (v := (dg ((xs).getD (xs.length - 1) []))) rfl rfl rfl sz24_vf rfl hk13 rfl rfl (cs' := (bcs ((xs).getD (xs.length - 1) []))) rfl ((bcs_length _).trans (Eng.ds_len hr12 (by omega))) (bcs_one _) ?_
    intro w14 hk14 hg14
    refine Eng.nil ?_
    refine hK11 _ _ ?_
    refine Eng.seqk fun K15 hK15 => ?_
    refine Eng.reg ?_
    refine Eng.sv rfl rfl (Eng.x_mv (v := v) rfl rfl) ?_
    refine Eng.sv rfl rfl (Eng.x_mv (v := v) rfl rfl) ?_
    have hB0_3 : Below w.heap.size w w13 := (hB0_2).trans (hb13.mono (hB0_2).size)
    have hB0_4 : Below w.heap.size w w14 := (hB0_3).grown hg14 (hB0_3).size (fun k e => by cases e; exact Nat.le_trans (hB0_2).size (Nat.le_refl _))
    have hr16 := (h).below hB0_4
    refine Eng.sv rfl rfl (Eng.x_len (v := v) (r := (xs.length : Int)) rfl Tryd.underlying29 rfl (hr16).1 rfl) ?_
    refine Eng.sv rfl rfl (Eng.x_sub rfl rfl rfl (Eng.w64 (r := ((xs.length - 1 : Nat) : Int)) (by omega))) ?_
    have hq17 : Dsl.Ds w (Eng.sCut v 0 (xs.length - 1) 32) (xs.take (xs.length - 1)) := (ds_pre h (by omega))
    refine Eng.sv rfl rfl (Eng.x_sl (v := v) rfl Tryd.underlying29 sz24_vf rfl (hr16).1 0 (xs.length - 1) (.inl ⟨rfl, rfl⟩) (Eng.bd (k := .i64) rfl) (by omega) (by omega)) ?_
    refine Eng.sv rfl rfl (Eng.x_as (v := (Eng.sCut v 0 (xs.length - 1) 32)) rfl rfl) ?_
    refine Eng.nil ?_
    refine hK15 _ _ ?_
    refine Eng.seqk fun K18 hK18 => ?_
    refine Eng.seqk fun K19 hK19 => ?_
    refine Eng.reg ?_
    refine Eng.sv rfl rfl (Eng.x_mv (v := (.int .i64 (i : Int))) rfl rfl) ?_
    refine Eng.sv rfl rfl (Eng.x_mv (v := (.int .i64 (H n : Int))) rfl rfl) ?_
    by_cases h30 : ((i : Int) : Int) < (H n : Int)
    · skip
      rw [if_pos (by omega)] at hwp
      refine Eng.sv rfl rfl (Eng.x_lt (r := true) rfl rfl rfl (decide_eq_true (by omega))) ?_
      refine Eng.nil ?_
      refine hK19 _ _ ?_
      refine Eng.cond_t rfl ?_
      refine Eng.seqk fun K20 hK20 => ?_
      have hk22 := (((hk2).below hb3).below hb13).grown hg14 (fun e => absurd (Option.some.inj e) (Nat.ne_of_lt (Nat.lt_of_lt_of_le hz2 (Nat.le_trans (hb3).size (Nat.le_refl _)))))
      have hr23 := (hq17).below hB0_4
      refine Eng.draw 7 [fun (vQ : Value) (_ : World) => vQ = (dg d), fun (vQ : Value) (_ : World) => vQ = (.int .i64 (i : Int)), fun (vQ : Value) (_ : World) => vQ = (.int .i64 (H n : Int)), fun (vQ : Value) (_ : World) => vQ = (Eng.sCut v 0 (xs.length - 1) 32), fun (vQ : Value) (_ : World) => vQ = (dg (climb d (wayL (i) (H n)).reverse (xs.take (xs.length - 1)))), fun (vQ : Value) (_ : World) => vQ = (dg ((xs).getD (xs.length - 1) [])), fun (vQ : Value) (_ : World) => vQ = (dg (climb d (wayL i n).reverse xs))] (by kernel_rfl) (by kernel_rfl) (by kernel_rfl) (by kernel_rfl) rfl rfl ?_ ?_ ?_
      · exact ⟨fun _ _ _ h _ => h, fun _ _ _ h _ => h, fun _ _ _ h _ => h, fun _ _ _ h _ => h, fun _ _ _ h _ => h, fun _ _ _ h _ => h, fun _ _ _ h _ => h, trivial⟩
      · refine ⟨?_, ?_, ?_, ?_, ?_, ?_, ?_, trivial⟩
        · intro u' W hbW hkp hdp K hK
          refine Eng.dv rfl rfl ?_ (hK _ _ (Below.refl _ _) rfl)
          exact (Eng.x_ldB (v := (dg d)) rfl ag24_vf sz24_vf (show Eng.opv 49 u' (.tmp 4) = (.pointer (some ⟨w.heap.size, 0, none⟩)) from hkp 4 rfl) ((hk22).below hbW) ((bcs_length _).trans hd) rfl)
        · intro u' W hbW hkp hdp K hK
          refine Eng.dv rfl rfl ?_ (hK _ _ (Below.refl _ _) rfl)
          exact (Eng.x_mv (v := (.int .i64 (i : Int))) rfl (show Eng.opv 49 u' (.tmp 1) = (.int .i64 (i : Int)) from hkp 1 rfl))
        · intro u' W hbW hkp hdp K hK
          refine Eng.dv rfl rfl ?_ (hK _ _ (Below.refl _ _) rfl)
          exact (Eng.x_mv (v := (.int .i64 (H n : Int))) rfl (show Eng.opv 49 u' (.tmp 9) = (.int .i64 (H n : Int)) from hkp 9 rfl))
        · intro u' W hbW hkp hdp K hK
          refine Eng.dv rfl rfl ?_ (hK _ _ (Below.refl _ _) rfl)
          exact (Eng.x_mv (v := (Eng.sCut v 0 (xs.length - 1) 32)) rfl (show Eng.opv 49 u' (.tmp 11) = (Eng.sCut v 0 (xs.length - 1) 32) from hkp 11 rfl))
        · intro u' W hbW hkp hdp K hK
          have e0 : (fun (vQ : Value) (_ : World) => vQ = (dg d)) (u' 31) W := hdp.1
          have e1 : (fun (vQ : Value) (_ : World) => vQ = (.int .i64 (i : Int))) (u' 32) W := hdp.2.1
          have e2 : (fun (vQ : Value) (_ : World) => vQ = (.int .i64 (H n : Int))) (u' 33) W := hdp.2.2.1
          have e3 : (fun (vQ : Value) (_ : World) => vQ = (Eng.sCut v 0 (xs.length - 1) 32)) (u' 34) W := hdp.2.2.2.1
          refine Eng.dc (vs := #[(dg d), (.int .i64 (i : Int)), (.int .i64 (H n : Int)), (Eng.sCut v 0 (xs.length - 1) 32)]) rfl ?_ (ih (H n) (by omega) (i) d _ (xs.take (xs.length - 1)) _ (by omega) (by omega) hd ((hr23).below hbW) (by rw [List.length_take]; omega)) ?_
          · exact Eng.xc (xs := #[(Go.Operand.tmp 31), (Go.Operand.tmp 32), (Go.Operand.tmp 33), (Go.Operand.tmp 34)]) (vl := [(dg d), (.int .i64 (i : Int)), (.int .i64 (H n : Int)), (Eng.sCut v 0 (xs.length - 1) 32)]) rfl rfl (Eng.lc (show Eng.opv 49 u' (.tmp 31) = (dg d) from e0) (Eng.lc (show Eng.opv 49 u' (.tmp 32) = (.int .i64 (i : Int)) from e1) (Eng.lc (show Eng.opv 49 u' (.tmp 33) = (.int .i64 (H n : Int)) from e2) (Eng.lc (show Eng.opv 49 u' (.tmp 34) = (Eng.sCut v 0 (xs.length - 1) 32) from e3) rfl)))) en160_vf
          rintro _ W2 ⟨rfl, hb2⟩
          exact Eng.aft_v rfl (hK _ _ hb2 rfl)
        · intro u' W hbW hkp hdp K hK
          refine Eng.dv rfl rfl ?_ (hK _ _ (Below.refl _ _) rfl)
          exact (Eng.x_ldB (v := (dg ((xs).getD (xs.length - 1) []))) rfl ag24_vf sz24_vf (show Eng.opv 49 u' (.tmp 10) = (.pointer (some ⟨w3.heap.size, 0, none⟩)) from hkp 10 rfl) ((hk14).below hbW) ((bcs_length _).trans (Eng.ds_len hr12 (by omega))) rfl)
        · intro u' W hbW hkp hdp K hK
          have e4 : (fun (vQ : Value) (_ : World) => vQ = (dg (climb d (wayL (i) (H n)).reverse (xs.take (xs.length - 1))))) (u' 35) W := hdp.1
          have e5 : (fun (vQ : Value) (_ : World) => vQ = (dg ((xs).getD (xs.length - 1) []))) (u' 36) W := hdp.2.1
          refine Eng.dc (vs := #[(dg (climb d (wayL (i) (H n)).reverse (xs.take (xs.length - 1)))), (dg ((xs).getD (xs.length - 1) []))]) rfl ?_ (rnode_eq (up_t h2 hn (by omega) hx) (climb_len _ _ _ hd) (Eng.ds_len hr12 (by omega)) _) ?_
          · exact Eng.xc (xs := #[(Go.Operand.tmp 35), (Go.Operand.tmp 36)]) (vl := [(dg (climb d (wayL (i) (H n)).reverse (xs.take (xs.length - 1)))), (dg ((xs).getD (xs.length - 1) []))]) rfl rfl (Eng.lc (show Eng.opv 49 u' (.tmp 35) = (dg (climb d (wayL (i) (H n)).reverse (xs.take (xs.length - 1)))) from e4) (Eng.lc (show Eng.opv 49 u' (.tmp 36) = (dg ((xs).getD (xs.length - 1) [])) from e5) rfl)) en157_vf
          rintro _ W2 ⟨rfl, hb2⟩
          exact Eng.aft_v rfl (hK _ _ hb2 rfl)
      · intro ud21 w21 hb21 hkp21 ⟨f21_0, f21_1, f21_2, f21_3, f21_4, f21_5, f21_6, _⟩
        obtain rfl := Eng.collect (l := [(31, (dg d)), (32, (.int .i64 (i : Int))), (33, (.int .i64 (H n : Int))), (34, (Eng.sCut v 0 (xs.length - 1) 32)), (35, (dg (climb d (wayL (i) (H n)).reverse (xs.take (xs.length - 1))))), (36, (dg ((xs).getD (xs.length - 1) []))), (37, (dg (climb d (wayL i n).reverse xs)))]) hkp21 ⟨f21_0, f21_1, f21_2, f21_3, f21_4, f21_5, f21_6, trivial⟩ rfl
        have hk24 := (((hk3).below hb13).grown hg14 (fun e => absurd (Option.some.inj e) (Nat.ne_of_lt (Nat.lt_of_lt_of_le hz3 (Nat.le_trans (Nat.le_refl _) (Nat.le_refl _)))))).below hb21
        refine Eng.stB (v := (dg (climb d (wayL i n).reverse xs))) rfl rfl rfl sz24_vf rfl hk24 rfl rfl (cs' := (bcs (climb d (wayL i n).reverse xs))) rfl ((bcs_length _).trans (climb_len _ _ _ hd)) (bcs_one _) ?_
        intro w25 hk25 hg25
        refine Eng.nil ?_
        refine hK20 _ _ ?_
        refine Eng.rt ?_
        refine Eng.tr ?_
        refine Eng.ret (Eng.res1 (v1 := (dg (climb d (wayL i n).reverse xs))) rfl (Eng.rdc rfl (Eng.lvB ag24_vf sz24_vf hk25 ((bcs_length _).trans (climb_len _ _ _ hd)) rfl))) ?_
        have hB0_5 : Below w.heap.size w w21 := (hB0_4).trans (hb21.mono (hB0_4).size)
        have hB0_6 : Below w.heap.size w w25 := (hB0_5).grown hg25 (hB0_5).size (fun k e => by cases e; exact Nat.le_trans (hb2).size (Nat.le_refl _))
        exact ⟨rfl, hB0_6⟩
    · skip
      rw [if_neg (by omega)] at hwp
      refine Eng.sv rfl rfl (Eng.x_lt (r := false) rfl rfl rfl (decide_eq_false (by omega))) ?_
      refine Eng.nil ?_
      refine hK19 _ _ ?_
      refine Eng.cond_f rfl ?_
      refine Eng.skp ?_
      refine hK18 _ _ ?_
      refine Eng.seqk fun K26 hK26 => ?_
      have hk28 := (((hk2).below hb3).below hb13).grown hg14 (fun e => absurd (Option.some.inj e) (Nat.ne_of_lt (Nat.lt_of_lt_of_le hz2 (Nat.le_trans (hb3).size (Nat.le_refl _)))))
      have hr29 := (hq17).below hB0_4
      refine Eng.draw 11 [fun (vQ : Value) (_ : World) => vQ = (dg ((xs).getD (xs.length - 1) [])), fun (vQ : Value) (_ : World) => vQ = (dg d), fun (vQ : Value) (_ : World) => vQ = (.int .i64 (i : Int)), fun (vQ : Value) (_ : World) => vQ = (.int .i64 (H n : Int)), fun (vQ : Value) (_ : World) => vQ = (.int .i64 ((i - H n : Nat) : Int)), fun (vQ : Value) (_ : World) => vQ = (.int .i64 (n : Int)), fun (vQ : Value) (_ : World) => vQ = (.int .i64 (H n : Int)), fun (vQ : Value) (_ : World) => vQ = (.int .i64 ((n - H n : Nat) : Int)), fun (vQ : Value) (_ : World) => vQ = (Eng.sCut v 0 (xs.length - 1) 32), fun (vQ : Value) (_ : World) => vQ = (dg (climb d (wayL (i - H n) (n - H n)).reverse (xs.take (xs.length - 1)))), fun (vQ : Value) (_ : World) => vQ = (dg (climb d (wayL i n).reverse xs))] (by kernel_rfl) (by kernel_rfl) (by kernel_rfl) (by kernel_rfl) rfl rfl ?_ ?_ ?_
      · exact ⟨fun _ _ _ h _ => h, fun _ _ _ h _ => h, fun _ _ _ h _ => h, fun _ _ _ h _ => h, fun _ _ _ h _ => h, fun _ _ _ h _ => h, fun _ _ _ h _ => h, fun _ _ _ h _ => h, fun _ _ _ h _ => h, fun _ _ _ h _ => h, fun _ _ _ h _ => h, trivial⟩
      · refine ⟨?_, ?_, ?_, ?_, ?_, ?_, ?_, ?_, ?_, ?_, ?_, trivial⟩
        · intro u' W hbW hkp hdp K hK
          refine Eng.dv rfl rfl ?_ (hK _ _ (Below.refl _ _) rfl)
          exact (Eng.x_ldB (v := (dg ((xs).getD (xs.length - 1) []))) rfl ag24_vf sz24_vf (show Eng.opv 49 u' (.tmp 10) = (.pointer (some ⟨w3.heap.size, 0, none⟩)) from hkp 10 rfl) ((hk14).below hbW) ((bcs_length _).trans (Eng.ds_len hr12 (by omega))) rfl)
        · intro u' W hbW hkp hdp K hK
          refine Eng.dv rfl rfl ?_ (hK _ _ (Below.refl _ _) rfl)
          exact (Eng.x_ldB (v := (dg d)) rfl ag24_vf sz24_vf (show Eng.opv 49 u' (.tmp 4) = (.pointer (some ⟨w.heap.size, 0, none⟩)) from hkp 4 rfl) ((hk28).below hbW) ((bcs_length _).trans hd) rfl)
        · intro u' W hbW hkp hdp K hK
          refine Eng.dv rfl rfl ?_ (hK _ _ (Below.refl _ _) rfl)
          exact (Eng.x_mv (v := (.int .i64 (i : Int))) rfl (show Eng.opv 49 u' (.tmp 1) = (.int .i64 (i : Int)) from hkp 1 rfl))
        · intro u' W hbW hkp hdp K hK
          refine Eng.dv rfl rfl ?_ (hK _ _ (Below.refl _ _) rfl)
          exact (Eng.x_mv (v := (.int .i64 (H n : Int))) rfl (show Eng.opv 49 u' (.tmp 9) = (.int .i64 (H n : Int)) from hkp 9 rfl))
        · intro u' W hbW hkp hdp K hK
          have e2 : (fun (vQ : Value) (_ : World) => vQ = (.int .i64 (i : Int))) (u' 40) W := hdp.1
          have e3 : (fun (vQ : Value) (_ : World) => vQ = (.int .i64 (H n : Int))) (u' 41) W := hdp.2.1
          refine Eng.dv rfl rfl ?_ (hK _ _ (Below.refl _ _) rfl)
          exact (Eng.x_sub rfl (show Eng.opv 49 u' (.tmp 40) = (.int .i64 (i : Int)) from e2) (show Eng.opv 49 u' (.tmp 41) = (.int .i64 (H n : Int)) from e3) (Eng.w64 (r := ((i - H n : Nat) : Int)) (by omega)))
        · intro u' W hbW hkp hdp K hK
          refine Eng.dv rfl rfl ?_ (hK _ _ (Below.refl _ _) rfl)
          exact (Eng.x_mv (v := (.int .i64 (n : Int))) rfl (show Eng.opv 49 u' (.tmp 2) = (.int .i64 (n : Int)) from hkp 2 rfl))
        · intro u' W hbW hkp hdp K hK
          refine Eng.dv rfl rfl ?_ (hK _ _ (Below.refl _ _) rfl)
          exact (Eng.x_mv (v := (.int .i64 (H n : Int))) rfl (show Eng.opv 49 u' (.tmp 9) = (.int .i64 (H n : Int)) from hkp 9 rfl))
        · intro u' W hbW hkp hdp K hK
          have e5 : (fun (vQ : Value) (_ : World) => vQ = (.int .i64 (n : Int))) (u' 43) W := hdp.1
          have e6 : (fun (vQ : Value) (_ : World) => vQ = (.int .i64 (H n : Int))) (u' 44) W := hdp.2.1
          refine Eng.dv rfl rfl ?_ (hK _ _ (Below.refl _ _) rfl)
          exact (Eng.x_sub rfl (show Eng.opv 49 u' (.tmp 43) = (.int .i64 (n : Int)) from e5) (show Eng.opv 49 u' (.tmp 44) = (.int .i64 (H n : Int)) from e6) (Eng.w64 (r := ((n - H n : Nat) : Int)) (by omega)))
        · intro u' W hbW hkp hdp K hK
          refine Eng.dv rfl rfl ?_ (hK _ _ (Below.refl _ _) rfl)
          exact (Eng.x_mv (v := (Eng.sCut v 0 (xs.length - 1) 32)) rfl (show Eng.opv 49 u' (.tmp 11) = (Eng.sCut v 0 (xs.length - 1) 32) from hkp 11 rfl))
        · intro u' W hbW hkp hdp K hK
          have e1 : (fun (vQ : Value) (_ : World) => vQ = (dg d)) (u' 39) W := hdp.1
          have e4 : (fun (vQ : Value) (_ : World) => vQ = (.int .i64 ((i - H n : Nat) : Int))) (u' 42) W := hdp.2.1
          have e7 : (fun (vQ : Value) (_ : World) => vQ = (.int .i64 ((n - H n : Nat) : Int))) (u' 45) W := hdp.2.2.1
          have e8 : (fun (vQ : Value) (_ : World) => vQ = (Eng.sCut v 0 (xs.length - 1) 32)) (u' 46) W := hdp.2.2.2.1
          refine Eng.dc (vs := #[(dg d), (.int .i64 ((i - H n : Nat) : Int)), (.int .i64 ((n - H n : Nat) : Int)), (Eng.sCut v 0 (xs.length - 1) 32)]) rfl ?_ (ih (n - H n) (by omega) (i - H n) d _ (xs.take (xs.length - 1)) _ (by omega) (by omega) hd ((hr29).below hbW) (by rw [List.length_take]; omega)) ?_
          · exact Eng.xc (xs := #[(Go.Operand.tmp 39), (Go.Operand.tmp 42), (Go.Operand.tmp 45), (Go.Operand.tmp 46)]) (vl := [(dg d), (.int .i64 ((i - H n : Nat) : Int)), (.int .i64 ((n - H n : Nat) : Int)), (Eng.sCut v 0 (xs.length - 1) 32)]) rfl rfl (Eng.lc (show Eng.opv 49 u' (.tmp 39) = (dg d) from e1) (Eng.lc (show Eng.opv 49 u' (.tmp 42) = (.int .i64 ((i - H n : Nat) : Int)) from e4) (Eng.lc (show Eng.opv 49 u' (.tmp 45) = (.int .i64 ((n - H n : Nat) : Int)) from e7) (Eng.lc (show Eng.opv 49 u' (.tmp 46) = (Eng.sCut v 0 (xs.length - 1) 32) from e8) rfl)))) en160_vf
          rintro _ W2 ⟨rfl, hb2⟩
          exact Eng.aft_v rfl (hK _ _ hb2 rfl)
        · intro u' W hbW hkp hdp K hK
          have e0 : (fun (vQ : Value) (_ : World) => vQ = (dg ((xs).getD (xs.length - 1) []))) (u' 38) W := hdp.1
          have e9 : (fun (vQ : Value) (_ : World) => vQ = (dg (climb d (wayL (i - H n) (n - H n)).reverse (xs.take (xs.length - 1))))) (u' 47) W := hdp.2.1
          refine Eng.dc (vs := #[(dg ((xs).getD (xs.length - 1) [])), (dg (climb d (wayL (i - H n) (n - H n)).reverse (xs.take (xs.length - 1))))]) rfl ?_ (rnode_eq (up_f h2 hn (by omega) hx) (Eng.ds_len hr12 (by omega)) (climb_len _ _ _ hd) _) ?_
          · exact Eng.xc (xs := #[(Go.Operand.tmp 38), (Go.Operand.tmp 47)]) (vl := [(dg ((xs).getD (xs.length - 1) [])), (dg (climb d (wayL (i - H n) (n - H n)).reverse (xs.take (xs.length - 1))))]) rfl rfl (Eng.lc (show Eng.opv 49 u' (.tmp 38) = (dg ((xs).getD (xs.length - 1) [])) from e0) (Eng.lc (show Eng.opv 49 u' (.tmp 47) = (dg (climb d (wayL (i - H n) (n - H n)).reverse (xs.take (xs.length - 1)))) from e9) rfl)) en157_vf
          rintro _ W2 ⟨rfl, hb2⟩
          exact Eng.aft_v rfl (hK _ _ hb2 rfl)
      · intro ud27 w27 hb27 hkp27 ⟨f27_0, f27_1, f27_2, f27_3, f27_4, f27_5, f27_6, f27_7, f27_8, f27_9, f27_10, _⟩
        obtain rfl := Eng.collect (l := [(38, (dg ((xs).getD (xs.length - 1) []))), (39, (dg d)), (40, (.int .i64 (i : Int))), (41, (.int .i64 (H n : Int))), (42, (.int .i64 ((i - H n : Nat) : Int))), (43, (.int .i64 (n : Int))), (44, (.int .i64 (H n : Int))), (45, (.int .i64 ((n - H n : Nat) : Int))), (46, (Eng.sCut v 0 (xs.length - 1) 32)), (47, (dg (climb d (wayL (i - H n) (n - H n)).reverse (xs.take (xs.length - 1))))), (48, (dg (climb d (wayL i n).reverse xs)))]) hkp27 ⟨f27_0, f27_1, f27_2, f27_3, f27_4, f27_5, f27_6, f27_7, f27_8, f27_9, f27_10, trivial⟩ rfl
        have hk30 := (((hk3).below hb13).grown hg14 (fun e => absurd (Option.some.inj e) (Nat.ne_of_lt (Nat.lt_of_lt_of_le hz3 (Nat.le_trans (Nat.le_refl _) (Nat.le_refl _)))))).below hb27
        refine Eng.stB (v := (dg (climb d (wayL i n).reverse xs))) rfl rfl rfl sz24_vf rfl hk30 rfl rfl (cs' := (bcs (climb d (wayL i n).reverse xs))) rfl ((bcs_length _).trans (climb_len _ _ _ hd)) (bcs_one _) ?_
        intro w31 hk31 hg31
        refine Eng.nil ?_
        refine hK26 _ _ ?_
        refine Eng.rt ?_
        refine Eng.ret (Eng.res1 (v1 := (dg (climb d (wayL i n).reverse xs))) rfl (Eng.rdc rfl (Eng.lvB ag24_vf sz24_vf hk31 ((bcs_length _).trans (climb_len _ _ _ hd)) rfl))) ?_
        have hB0_5 : Below w.heap.size w w27 := (hB0_4).trans (hb27.mono (hB0_4).size)
        have hB0_6 : Below w.heap.size w w31 := (hB0_5).grown hg31 (hB0_5).size (fun k e => by cases e; exact Nat.le_trans (hb2).size (Nat.le_refl _))
        exact ⟨rfl, hB0_6⟩
theorem up_calls (n : Nat) : UpC n := by
  induction n using Nat.strongRecOn with
  | ind n ih => exact fun i d v xs w => up_step n ih i d v xs w
theorem upI {i n : Int} (hr : rightB i n = true) {d : List UInt8} (hd : d.length = 32) {v : Value} {xs : List (List UInt8)} {w : World} (h : Ds w v xs) (hl : lenN i n = xs.length) : Calls Tryd.prog 160 #[dg d, .int .i64 i, .int .i64 n, v] w fun e w' => e = .returned (dg (rootD d i n xs)) ∧ Below w.heap.size w w' := by
  obtain ⟨h1, h2, h3, h4⟩ := rightB_iff.1 hr
  have hE : rootE i n xs.length = 0 := by simp [rootE, hr, hl]
  unfold rootD
  rw [if_pos hE]
  obtain ⟨a, rfl⟩ : ∃ a : Nat, i = (a : Int) := ⟨i.toNat, by omega⟩
  obtain ⟨b, rfl⟩ : ∃ b : Nat, n = (b : Int) := ⟨n.toNat, by omega⟩
  exact up_calls b a d v xs w (by omega) (by omega) hd h hl.symm
set_option maxRecDepth 100000 in
set_option maxHeartbeats 4000000 in
theorem rroot_ok (d : List UInt8) (hd : d.length = 32) (i n : Int) (v : Value) (xs : List (List UInt8)) (w : World) (h : Ds w v xs) (hr : rightB i n = true) : Calls Tryd.prog 110 #[(dg d), (.int .i64 i), (.int .i64 n), v] w (fun e w' => e = .returned (.tuple #[dg (rootD d i n xs), .int .i64 (rootE i n xs.length)]) ∧ Below w.heap.size w w') := by
  have hsm := h.1.small
  refine Eng.enter (l := [(dg d), (.int .i64 i), (.int .i64 n), v]) Tryd.func110 rfl 32 rfl (by simp) ?_
  refine Eng.seqk fun K1 hK1 => ?_
  refine Eng.reg ?_
  refine Eng.bo (v := (dg d)) (cs := (bcs d)) rfl rfl rfl rfl rfl ?_
  intro w2 hk2 hb2 hz2
  refine Eng.al rfl rfl rfl zr24_vf (cs := (bcs Oct.dz)) rfl ?_
  intro w3 hk3 hb3 hz3
  refine Eng.sv rfl rfl (Eng.x_as (v := (.int .i64 0)) rfl rfl) ?_
  refine Eng.nil ?_
  refine hK1 _ _ ?_
  refine Eng.seqk fun K4 hK4 => ?_
  refine Eng.reg ?_
  refine Eng.sv rfl rfl (Eng.x_mv (v := (.int .i64 i)) rfl rfl) ?_
  refine Eng.sv rfl rfl (Eng.x_mv (v := (.int .i64 n)) rfl rfl) ?_
  refine Eng.sc rfl (Eng.xc (vl := [(.int .i64 i), (.int .i64 n)]) rfl rfl rfl en125_vf) (rlen_ok hr _) ?_
  rintro _ _ ⟨rfl, rfl⟩
  refine Eng.aft_v rfl ?_
  refine Eng.sv rfl rfl (Eng.x_mv (v := (.tuple #[(.int .i64 (lenN i n : Int)), (.int .i64 0)])) rfl rfl) ?_
  refine Eng.sv rfl rfl (Eng.x_ext (v := (.int .i64 (lenN i n : Int))) rfl rfl rfl) ?_
  refine Eng.sv rfl rfl (Eng.x_ext (v := (.int .i64 0)) rfl rfl rfl) ?_
  refine Eng.sv rfl rfl (Eng.x_as (v := (.int .i64 (lenN i n : Int))) rfl rfl) ?_
  refine Eng.sv rfl rfl (Eng.x_as (v := (.int .i64 0)) rfl rfl) ?_
  refine Eng.nil ?_
  refine hK4 _ _ ?_
  refine Eng.seqk fun K6 hK6 => ?_
  refine Eng.seqk fun K7 hK7 => ?_
  refine Eng.reg ?_
  refine Eng.sv rfl rfl (Eng.x_mv (v := (.int .i64 0)) rfl rfl) ?_
  refine Eng.sv rfl rfl (Eng.x_ne (r := false) rfl rfl rfl (Eng.ne_f (by omega))) ?_
  refine Eng.nil ?_
  refine hK7 _ _ ?_
  refine Eng.cond_f rfl ?_
  refine Eng.skp ?_
  refine hK6 _ _ ?_
  refine Eng.seqk fun K8 hK8 => ?_
  refine Eng.seqk fun K9 hK9 => ?_
  refine Eng.reg ?_
  refine Eng.sv rfl rfl (Eng.x_mv (v := v) rfl rfl) ?_
  have hB0_2 : Below w.heap.size w w3 := (hb2).trans (hb3.mono (hb2).size)
  have hr10 := (h).below hB0_2
  refine Eng.sv rfl rfl (Eng.x_len (v := v) (r := (xs.length : Int)) rfl Tryd.underlying29 rfl (hr10).1 rfl) ?_
  refine Eng.sv rfl rfl (Eng.x_mv (v := (.int .i64 (lenN i n : Int))) rfl rfl) ?_
  by_cases h25 : ((xs.length : Int) : Int) ≠ (lenN i n : Int)
  · skip
    refine Eng.sv rfl rfl (Eng.x_ne (r := true) rfl rfl rfl (Eng.ne_t (by omega))) ?_
    refine Eng.nil ?_
    refine hK9 _ _ ?_
    refine Eng.cond_t rfl ?_
    refine Eng.seqk fun K11 hK11 => ?_
    refine Eng.reg ?_
    refine Eng.sv rfl rfl (Eng.x_build (ps := []) (v := (dg Oct.dz)) rfl rfl (by kernel_rfl)) ?_
    refine Eng.stB (v := (dg Oct.dz)) rfl rfl rfl sz24_vf rfl hk3 rfl rfl (cs' := (bcs Oct.dz)) rfl rfl (bcs_one _) ?_
    intro w12 hk12 hg12
    refine Eng.sv rfl rfl (Eng.x_as (v := (.int .i64 70)) rfl rfl) ?_
    refine Eng.nil ?_
    refine hK11 _ _ ?_
    refine Eng.rt ?_
    refine Eng.tr ?_
    refine Eng.ret (Eng.res2 (v1 := (dg Oct.dz)) (v2 := (.int .i64 70)) rfl (Eng.rdc rfl (Eng.lvB ag24_vf sz24_vf hk12 rfl rfl)) (Eng.rdt rfl)) ?_
    have hB0_3 : Below w.heap.size w w12 := (hB0_2).grown hg12 (hB0_2).size (fun k e => by cases e; exact Nat.le_trans (hb2).size (Nat.le_refl _))
    have hnl : lenN i n ≠ xs.length := by omega
    exact ⟨by simp [rootD, rootE, hr, hnl], hB0_3⟩
  · skip
    refine Eng.sv rfl rfl (Eng.x_ne (r := false) rfl rfl rfl (Eng.ne_f (by omega))) ?_
    refine Eng.nil ?_
    refine hK9 _ _ ?_
    refine Eng.cond_f rfl ?_
    refine Eng.skp ?_
    refine hK8 _ _ ?_
    refine Eng.seqk fun K13 hK13 => ?_
    refine Eng.reg ?_
    have hk14 := (hk2).below hb3
    refine Eng.sv rfl rfl (Eng.x_ldB (v := (dg d)) rfl ag24_vf sz24_vf rfl hk14 ((bcs_length _).trans hd) rfl) ?_
    refine Eng.sv rfl rfl (Eng.x_mv (v := (.int .i64 i)) rfl rfl) ?_
    refine Eng.sv rfl rfl (Eng.x_mv (v := (.int .i64 n)) rfl rfl) ?_
    refine Eng.sv rfl rfl (Eng.x_mv (v := v) rfl rfl) ?_
    refine Eng.sc rfl (Eng.xc (vl := [(dg d), (.int .i64 i), (.int .i64 n), v]) rfl rfl rfl en160_vf) (upI hr hd hr10 (by omega)) ?_
    rintro _ w15 ⟨rfl, hb15⟩
    refine Eng.aft_v rfl ?_
    have hk16 := (hk3).below hb15
    refine Eng.stB (v := (dg (rootD d i n xs))) rfl rfl rfl sz24_vf rfl hk16 rfl rfl (cs' := (bcs (rootD d i n xs))) rfl ((bcs_length _).trans (rootD_len _ _ _ _ hd)) (bcs_one _) ?_
    intro w17 hk17 hg17
    refine Eng.sv rfl rfl (Eng.x_as (v := (.int .i64 0)) rfl rfl) ?_
    refine Eng.nil ?_
    refine hK13 _ _ ?_
    refine Eng.rt ?_
    refine Eng.ret (Eng.res2 (v1 := (dg (rootD d i n xs))) (v2 := (.int .i64 0)) rfl (Eng.rdc rfl (Eng.lvB ag24_vf sz24_vf hk17 ((bcs_length _).trans (rootD_len _ _ _ _ hd)) rfl)) (Eng.rdt rfl)) ?_
    have hB0_3 : Below w.heap.size w w15 := (hB0_2).trans (hb15.mono (hB0_2).size)
    have hB0_4 : Below w.heap.size w w17 := (hB0_3).grown hg17 (hB0_3).size (fun k e => by cases e; exact Nat.le_trans (hb2).size (Nat.le_refl _))
    have hE : rootE i n xs.length = 0 := by simp [rootE, hr, show lenN i n = xs.length by omega]
    exact ⟨by rw [hE], hB0_4⟩
set_option maxRecDepth 100000 in
set_option maxHeartbeats 4000000 in
theorem rroot_no (d : List UInt8) (hd : d.length = 32) (i n : Int) (v : Value) (xs : List (List UInt8)) (w : World) (h : Ds w v xs) (hr : rightB i n = false) : Calls Tryd.prog 110 #[(dg d), (.int .i64 i), (.int .i64 n), v] w (fun e w' => e = .returned (.tuple #[dg (rootD d i n xs), .int .i64 (rootE i n xs.length)]) ∧ Below w.heap.size w w') := by
  have hsm := h.1.small
  refine Eng.enter (l := [(dg d), (.int .i64 i), (.int .i64 n), v]) Tryd.func110 rfl 32 rfl (by simp) ?_
  refine Eng.seqk fun K1 hK1 => ?_
  refine Eng.reg ?_
  refine Eng.bo (v := (dg d)) (cs := (bcs d)) rfl rfl rfl rfl rfl ?_
  intro w2 hk2 hb2 hz2
  refine Eng.al rfl rfl rfl zr24_vf (cs := (bcs Oct.dz)) rfl ?_
  intro w3 hk3 hb3 hz3
  refine Eng.sv rfl rfl (Eng.x_as (v := (.int .i64 0)) rfl rfl) ?_
  refine Eng.nil ?_
  refine hK1 _ _ ?_
  refine Eng.seqk fun K4 hK4 => ?_
  refine Eng.reg ?_
  refine Eng.sv rfl rfl (Eng.x_mv (v := (.int .i64 i)) rfl rfl) ?_
  refine Eng.sv rfl rfl (Eng.x_mv (v := (.int .i64 n)) rfl rfl) ?_
  refine Eng.sc rfl (Eng.xc (vl := [(.int .i64 i), (.int .i64 n)]) rfl rfl rfl en125_vf) (rlen_no hr _) ?_
  rintro _ _ ⟨rfl, rfl⟩
  refine Eng.aft_v rfl ?_
  refine Eng.sv rfl rfl (Eng.x_mv (v := (.tuple #[(.int .i64 0), (.int .i64 40)])) rfl rfl) ?_
  refine Eng.sv rfl rfl (Eng.x_ext (v := (.int .i64 0)) rfl rfl rfl) ?_
  refine Eng.sv rfl rfl (Eng.x_ext (v := (.int .i64 40)) rfl rfl rfl) ?_
  refine Eng.sv rfl rfl (Eng.x_as (v := (.int .i64 0)) rfl rfl) ?_
  refine Eng.sv rfl rfl (Eng.x_as (v := (.int .i64 40)) rfl rfl) ?_
  refine Eng.nil ?_
  refine hK4 _ _ ?_
  refine Eng.seqk fun K6 hK6 => ?_
  refine Eng.seqk fun K7 hK7 => ?_
  refine Eng.reg ?_
  refine Eng.sv rfl rfl (Eng.x_mv (v := (.int .i64 40)) rfl rfl) ?_
  refine Eng.sv rfl rfl (Eng.x_ne (r := true) rfl rfl rfl (Eng.ne_t (by omega))) ?_
  refine Eng.nil ?_
  refine hK7 _ _ ?_
  refine Eng.cond_t rfl ?_
  refine Eng.seqk fun K8 hK8 => ?_
  refine Eng.reg ?_
  refine Eng.sv rfl rfl (Eng.x_build (ps := []) (v := (dg Oct.dz)) rfl rfl (by kernel_rfl)) ?_
  refine Eng.sv rfl rfl (Eng.x_mv (v := (.int .i64 40)) rfl rfl) ?_
  refine Eng.stB (v := (dg Oct.dz)) rfl rfl rfl sz24_vf rfl hk3 rfl rfl (cs' := (bcs Oct.dz)) rfl rfl (bcs_one _) ?_
  intro w9 hk9 hg9
  refine Eng.sv rfl rfl (Eng.x_as (v := (.int .i64 40)) rfl rfl) ?_
  refine Eng.nil ?_
  refine hK8 _ _ ?_
  refine Eng.rt ?_
  refine Eng.tr ?_
  refine Eng.ret (Eng.res2 (v1 := (dg Oct.dz)) (v2 := (.int .i64 40)) rfl (Eng.rdc rfl (Eng.lvB ag24_vf sz24_vf hk9 rfl rfl)) (Eng.rdt rfl)) ?_
  have hB0_2 : Below w.heap.size w w3 := (hb2).trans (hb3.mono (hb2).size)
  have hB0_3 : Below w.heap.size w w9 := (hB0_2).grown hg9 (hB0_2).size (fun k e => by cases e; exact Nat.le_trans (hb2).size (Nat.le_refl _))
  exact ⟨by simp [rootD, rootE, hr], hB0_3⟩
theorem rroot_calls (d : List UInt8) (hd : d.length = 32) (i n : Int) (v : Value) (xs : List (List UInt8)) (w : World) (h : Ds w v xs) : Calls Tryd.prog 110 #[dg d, .int .i64 i, .int .i64 n, v] w (fun e w' => e = .returned (.tuple #[dg (rootD d i n xs), .int .i64 (rootE i n xs.length)]) ∧ Below w.heap.size w w') := by
  rcases Eng.tf (rightB i n) with hr | hr
  · exact rroot_ok d hd i n v xs w h hr
  · exact rroot_no d hd i n v xs w h hr
set_option maxRecDepth 100000 in
set_option maxHeartbeats 4000000 in
theorem incl_calls (d : List UInt8) (hd : d.length = 32) (i n : Int) (v : Value) (xs : List (List UInt8)) (w : World) (h : Ds w v xs) (r : List UInt8) (hr : r.length = 32) (hK : Kon w) : Calls Tryd.prog 50 #[(dg d), (.int .i64 i), (.int .i64 n), v, (dg r)] w (fun e w' => e = .returned (.int .i64 (inclE (rootE i n xs.length) (rootD d i n xs) r)) ∧ Below w.heap.size w w') := by
  refine Eng.enter (l := [(dg d), (.int .i64 i), (.int .i64 n), v, (dg r)]) Tryd.func50 rfl 29 rfl (by simp) ?_
  refine Eng.seqk fun K1 hK1 => ?_
  refine Eng.reg ?_
  refine Eng.bo (v := (dg d)) (cs := (bcs d)) rfl rfl rfl rfl rfl ?_
  intro w2 hk2 hb2 hz2
  refine Eng.bo (v := (dg r)) (cs := (bcs r)) rfl rfl rfl rfl rfl ?_
  intro w3 hk3 hb3 hz3
  refine Eng.sv rfl rfl (Eng.x_as (v := (.int .i64 0)) rfl rfl) ?_
  refine Eng.nil ?_
  refine hK1 _ _ ?_
  refine Eng.seqk fun K4 hK4 => ?_
  refine Eng.reg ?_
  have hk5 := (hk2).below hb3
  refine Eng.sv rfl rfl (Eng.x_ldB (v := (dg d)) rfl ag24_vf sz24_vf rfl hk5 ((bcs_length _).trans hd) rfl) ?_
  refine Eng.sv rfl rfl (Eng.x_mv (v := (.int .i64 i)) rfl rfl) ?_
  refine Eng.sv rfl rfl (Eng.x_mv (v := (.int .i64 n)) rfl rfl) ?_
  refine Eng.sv rfl rfl (Eng.x_mv (v := v) rfl rfl) ?_
  have hB0_2 : Below w.heap.size w w3 := (hb2).trans (hb3.mono (hb2).size)
  have hr6 := (h).below hB0_2
  have hr7 := (hK).below hB0_2
  refine Eng.sc rfl (Eng.xc (vl := [(dg d), (.int .i64 i), (.int .i64 n), v]) rfl rfl rfl en107_vf) (root_calls d hd i n _ xs _ hr6 hr7) ?_
  rintro _ w8 ⟨rfl, hb8⟩
  refine Eng.aft_v rfl ?_
  refine Eng.sv rfl rfl (Eng.x_mv (v := (.tuple #[(dg (rootD d i n xs)), (.int .i64 (rootE i n xs.length))])) rfl rfl) ?_
  refine Eng.sv rfl rfl (Eng.x_ext (v := (dg (rootD d i n xs))) rfl rfl rfl) ?_
  refine Eng.sv rfl rfl (Eng.x_ext (v := (.int .i64 (rootE i n xs.length))) rfl rfl rfl) ?_
  refine Eng.al rfl rfl rfl zr24_vf (cs := (bcs Oct.dz)) rfl ?_
  intro w9 hk9 hb9 hz9
  refine Eng.stB (v := (dg (rootD d i n xs))) rfl rfl rfl sz24_vf rfl hk9 rfl rfl (cs' := (bcs (rootD d i n xs))) rfl ((bcs_length _).trans (rootD_len _ _ _ _ hd)) (bcs_one _) ?_
  intro w10 hk10 hg10
  refine Eng.sv rfl rfl (Eng.x_as (v := (.int .i64 (rootE i n xs.length))) rfl rfl) ?_
  refine Eng.nil ?_
  refine hK4 _ _ ?_
  refine Eng.seqk fun K11 hK11 => ?_
  refine Eng.blk ?_
  refine Eng.seqk fun K12 hK12 => ?_
  refine Eng.reg ?_
  refine Eng.sv rfl rfl (Eng.x_mv (v := (.int .i64 (rootE i n xs.length))) rfl rfl) ?_
  by_cases h23 : ((rootE i n xs.length) : Int) ≠ 0
  · skip
    refine Eng.sv rfl rfl (Eng.x_ne (r := true) rfl rfl rfl (Eng.ne_t (by omega))) ?_
    refine Eng.sv rfl rfl (Eng.x_as (v := (.bool true)) rfl rfl) ?_
    refine Eng.nil ?_
    refine hK12 _ _ ?_
    refine Eng.cond_t rfl ?_
    refine Eng.seqk fun K13 hK13 => ?_
    refine Eng.reg ?_
    refine Eng.sv rfl rfl (Eng.x_mv (v := (.int .i64 (rootE i n xs.length))) rfl rfl) ?_
    refine Eng.sv rfl rfl (Eng.x_as (v := (.int .i64 (rootE i n xs.length))) rfl rfl) ?_
    refine Eng.nil ?_
    refine hK13 _ _ ?_
    refine Eng.rt ?_
    refine Eng.br ?_
    refine Eng.tr ?_
    refine Eng.ret (Eng.res1 (v1 := (.int .i64 (rootE i n xs.length))) rfl (Eng.rdt rfl)) ?_
    have hB0_3 : Below w.heap.size w w8 := (hB0_2).trans (hb8.mono (hB0_2).size)
    have hB0_4 : Below w.heap.size w w9 := (hB0_3).trans (hb9.mono (hB0_3).size)
    have hB0_5 : Below w.heap.size w w10 := (hB0_4).grown hg10 (hB0_4).size (fun k e => by cases e; exact Nat.le_trans (hB0_3).size (Nat.le_refl _))
    try simp only [ne_eq, Decidable.not_not] at h23
    exact ⟨by simp [inclE, h23], hB0_5⟩
  · skip
    refine Eng.sv rfl rfl (Eng.x_ne (r := false) rfl rfl rfl (Eng.ne_f (by omega))) ?_
    refine Eng.sv rfl rfl (Eng.x_as (v := (.bool false)) rfl rfl) ?_
    refine Eng.nil ?_
    refine hK12 _ _ ?_
    refine Eng.cond_f rfl ?_
    refine Eng.seqk fun K14 hK14 => ?_
    refine Eng.reg ?_
    refine Eng.sv rfl rfl (Eng.x_ldB (v := (dg (rootD d i n xs))) rfl ag24_vf sz24_vf rfl hk10 ((bcs_length _).trans (rootD_len _ _ _ _ hd)) rfl) ?_
    have hk15 := (((hk3).below hb8).below hb9).grown hg10 (fun e => absurd (Option.some.inj e) (Nat.ne_of_lt (Nat.lt_of_lt_of_le hz3 (Nat.le_trans (hb8).size (Nat.le_refl _)))))
    refine Eng.sv rfl rfl (Eng.x_ldB (v := (dg r)) rfl ag24_vf sz24_vf rfl hk15 ((bcs_length _).trans hr) rfl) ?_
    by_cases h28 : ((rootD d i n xs) : List UInt8) ≠ r
    · skip
      refine Eng.sv rfl rfl (Eng.x_neA (p := (rootD d i n xs)) (q := r) (r := true) rfl Tryd.underlying24 Tryd.underlying5 sz5_vf (by kernel_rfl) rfl rfl (rootD_len _ _ _ _ hd) hr (by simpa using h28)) ?_
      refine Eng.sv rfl rfl (Eng.x_as (v := (.bool true)) rfl rfl) ?_
      refine Eng.nil ?_
      refine hK14 _ _ ?_
      refine Eng.cond_t rfl ?_
      refine Eng.seqk fun K16 hK16 => ?_
      refine Eng.reg ?_
      refine Eng.sv rfl rfl (Eng.x_as (v := (.int .i64 71)) rfl rfl) ?_
      refine Eng.nil ?_
      refine hK16 _ _ ?_
      refine Eng.rt ?_
      refine Eng.br ?_
      refine Eng.tr ?_
      refine Eng.ret (Eng.res1 (v1 := (.int .i64 71)) rfl (Eng.rdt rfl)) ?_
      have hB0_3 : Below w.heap.size w w8 := (hB0_2).trans (hb8.mono (hB0_2).size)
      have hB0_4 : Below w.heap.size w w9 := (hB0_3).trans (hb9.mono (hB0_3).size)
      have hB0_5 : Below w.heap.size w w10 := (hB0_4).grown hg10 (hB0_4).size (fun k e => by cases e; exact Nat.le_trans (hB0_3).size (Nat.le_refl _))
      try simp only [ne_eq, Decidable.not_not] at h23
      try simp only [ne_eq, Decidable.not_not] at h28
      exact ⟨by simp [inclE, h23, h28], hB0_5⟩
    · skip
      refine Eng.sv rfl rfl (Eng.x_neA (p := (rootD d i n xs)) (q := r) (r := false) rfl Tryd.underlying24 Tryd.underlying5 sz5_vf (by kernel_rfl) rfl rfl (rootD_len _ _ _ _ hd) hr (by simpa using h28)) ?_
      refine Eng.sv rfl rfl (Eng.x_as (v := (.bool false)) rfl rfl) ?_
      refine Eng.nil ?_
      refine hK14 _ _ ?_
      refine Eng.cond_f rfl ?_
      refine Eng.skp ?_
      refine Eng.nb ?_
      refine hK11 _ _ ?_
      refine Eng.seqk fun K17 hK17 => ?_
      refine Eng.reg ?_
      refine Eng.sv rfl rfl (Eng.x_as (v := (.int .i64 0)) rfl rfl) ?_
      refine Eng.nil ?_
      refine hK17 _ _ ?_
      refine Eng.rt ?_
      refine Eng.ret (Eng.res1 (v1 := (.int .i64 0)) rfl (Eng.rdt rfl)) ?_
      have hB0_3 : Below w.heap.size w w8 := (hB0_2).trans (hb8.mono (hB0_2).size)
      have hB0_4 : Below w.heap.size w w9 := (hB0_3).trans (hb9.mono (hB0_3).size)
      have hB0_5 : Below w.heap.size w w10 := (hB0_4).grown hg10 (hB0_4).size (fun k e => by cases e; exact Nat.le_trans (hB0_3).size (Nat.le_refl _))
      try simp only [ne_eq, Decidable.not_not] at h23
      try simp only [ne_eq, Decidable.not_not] at h28
      exact ⟨by simp [inclE, h23, h28], hB0_5⟩
set_option maxRecDepth 100000 in
set_option maxHeartbeats 4000000 in
theorem rincl_calls (d : List UInt8) (hd : d.length = 32) (i n : Int) (v : Value) (xs : List (List UInt8)) (w : World) (h : Ds w v xs) (r : List UInt8) (hr : r.length = 32) : Calls Tryd.prog 52 #[(dg d), (.int .i64 i), (.int .i64 n), v, (dg r)] w (fun e w' => e = .returned (.int .i64 (inclE (rootE i n xs.length) (rootD d i n xs) r)) ∧ Below w.heap.size w w') := by
  refine Eng.enter (l := [(dg d), (.int .i64 i), (.int .i64 n), v, (dg r)]) Tryd.func52 rfl 29 rfl (by simp) ?_
  refine Eng.seqk fun K1 hK1 => ?_
  refine Eng.reg ?_
  refine Eng.bo (v := (dg d)) (cs := (bcs d)) rfl rfl rfl rfl rfl ?_
  intro w2 hk2 hb2 hz2
  refine Eng.bo (v := (dg r)) (cs := (bcs r)) rfl rfl rfl rfl rfl ?_
  intro w3 hk3 hb3 hz3
  refine Eng.sv rfl rfl (Eng.x_as (v := (.int .i64 0)) rfl rfl) ?_
  refine Eng.nil ?_
  refine hK1 _ _ ?_
  refine Eng.seqk fun K4 hK4 => ?_
  refine Eng.reg ?_
  have hk5 := (hk2).below hb3
  refine Eng.sv rfl rfl (Eng.x_ldB (v := (dg d)) rfl ag24_vf sz24_vf rfl hk5 ((bcs_length _).trans hd) rfl) ?_
  refine Eng.sv rfl rfl (Eng.x_mv (v := (.int .i64 i)) rfl rfl) ?_
  refine Eng.sv rfl rfl (Eng.x_mv (v := (.int .i64 n)) rfl rfl) ?_
  refine Eng.sv rfl rfl (Eng.x_mv (v := v) rfl rfl) ?_
  have hB0_2 : Below w.heap.size w w3 := (hb2).trans (hb3.mono (hb2).size)
  have hr6 := (h).below hB0_2
  refine Eng.sc rfl (Eng.xc (vl := [(dg d), (.int .i64 i), (.int .i64 n), v]) rfl rfl rfl en110_vf) (rroot_calls d hd i n _ xs _ hr6) ?_
  rintro _ w7 ⟨rfl, hb7⟩
  refine Eng.aft_v rfl ?_
  refine Eng.sv rfl rfl (Eng.x_mv (v := (.tuple #[(dg (rootD d i n xs)), (.int .i64 (rootE i n xs.length))])) rfl rfl) ?_
  refine Eng.sv rfl rfl (Eng.x_ext (v := (dg (rootD d i n xs))) rfl rfl rfl) ?_
  refine Eng.sv rfl rfl (Eng.x_ext (v := (.int .i64 (rootE i n xs.length))) rfl rfl rfl) ?_
  refine Eng.al rfl rfl rfl zr24_vf (cs := (bcs Oct.dz)) rfl ?_
  intro w8 hk8 hb8 hz8
  refine Eng.stB (v := (dg (rootD d i n xs))) rfl rfl rfl sz24_vf rfl hk8 rfl rfl (cs' := (bcs (rootD d i n xs))) rfl ((bcs_length _).trans (rootD_len _ _ _ _ hd)) (bcs_one _) ?_
  intro w9 hk9 hg9
  refine Eng.sv rfl rfl (Eng.x_as (v := (.int .i64 (rootE i n xs.length))) rfl rfl) ?_
  refine Eng.nil ?_
  refine hK4 _ _ ?_
  refine Eng.seqk fun K10 hK10 => ?_
  refine Eng.seqk fun K11 hK11 => ?_
  refine Eng.reg ?_
  refine Eng.sv rfl rfl (Eng.x_mv (v := (.int .i64 (rootE i n xs.length))) rfl rfl) ?_
  by_cases h22 : ((rootE i n xs.length) : Int) = 0
  · skip
    refine Eng.sv rfl rfl (Eng.x_eq (r := true) rfl rfl rfl (Eng.eq_t (by omega))) ?_
    refine Eng.sv rfl rfl (Eng.x_mv (v := (.bool true)) rfl rfl) ?_
    refine Eng.sv (Eng.gt rfl rfl rfl rfl) rfl (Eng.x_ldB (v := (dg (rootD d i n xs))) rfl ag24_vf sz24_vf rfl hk9 ((bcs_length _).trans (rootD_len _ _ _ _ hd)) rfl) ?_
    have hk12 := (((hk3).below hb7).below hb8).grown hg9 (fun e => absurd (Option.some.inj e) (Nat.ne_of_lt (Nat.lt_of_lt_of_le hz3 (Nat.le_trans (hb7).size (Nat.le_refl _)))))
    refine Eng.sv (Eng.gt rfl rfl rfl rfl) rfl (Eng.x_ldB (v := (dg r)) rfl ag24_vf sz24_vf rfl hk12 ((bcs_length _).trans hr) rfl) ?_
    by_cases h26 : ((rootD d i n xs) : List UInt8) ≠ r
    · skip
      refine Eng.sv (Eng.gt rfl rfl rfl rfl) rfl (Eng.x_neA (p := (rootD d i n xs)) (q := r) (r := true) rfl Tryd.underlying24 Tryd.underlying5 sz5_vf (by kernel_rfl) rfl rfl (rootD_len _ _ _ _ hd) hr (by simpa using h26)) ?_
      refine Eng.sv rfl rfl (Eng.x_pick (v := (.bool true)) rfl rfl rfl rfl rfl) ?_
      refine Eng.nil ?_
      refine hK11 _ _ ?_
      refine Eng.cond_t rfl ?_
      refine Eng.seqk fun K13 hK13 => ?_
      refine Eng.reg ?_
      refine Eng.sv rfl rfl (Eng.x_as (v := (.int .i64 71)) rfl rfl) ?_
      refine Eng.nil ?_
      refine hK13 _ _ ?_
      refine Eng.rt ?_
      refine Eng.tr ?_
      refine Eng.ret (Eng.res1 (v1 := (.int .i64 71)) rfl (Eng.rdt rfl)) ?_
      have hB0_3 : Below w.heap.size w w7 := (hB0_2).trans (hb7.mono (hB0_2).size)
      have hB0_4 : Below w.heap.size w w8 := (hB0_3).trans (hb8.mono (hB0_3).size)
      have hB0_5 : Below w.heap.size w w9 := (hB0_4).grown hg9 (hB0_4).size (fun k e => by cases e; exact Nat.le_trans (hB0_3).size (Nat.le_refl _))
      try simp only [ne_eq, Decidable.not_not] at h22
      try simp only [ne_eq, Decidable.not_not] at h26
      exact ⟨by simp [inclE, h22, h26], hB0_5⟩
    · skip
      refine Eng.sv (Eng.gt rfl rfl rfl rfl) rfl (Eng.x_neA (p := (rootD d i n xs)) (q := r) (r := false) rfl Tryd.underlying24 Tryd.underlying5 sz5_vf (by kernel_rfl) rfl rfl (rootD_len _ _ _ _ hd) hr (by simpa using h26)) ?_
      refine Eng.sv rfl rfl (Eng.x_pick (v := (.bool false)) rfl rfl rfl rfl rfl) ?_
      refine Eng.nil ?_
      refine hK11 _ _ ?_
      refine Eng.cond_f rfl ?_
      refine Eng.skp ?_
      refine hK10 _ _ ?_
      refine Eng.seqk fun K14 hK14 => ?_
      refine Eng.reg ?_
      refine Eng.sv rfl rfl (Eng.x_mv (v := (.int .i64 (rootE i n xs.length))) rfl rfl) ?_
      refine Eng.sv rfl rfl (Eng.x_as (v := (.int .i64 (rootE i n xs.length))) rfl rfl) ?_
      refine Eng.nil ?_
      refine hK14 _ _ ?_
      refine Eng.rt ?_
      refine Eng.ret (Eng.res1 (v1 := (.int .i64 (rootE i n xs.length))) rfl (Eng.rdt rfl)) ?_
      have hB0_3 : Below w.heap.size w w7 := (hB0_2).trans (hb7.mono (hB0_2).size)
      have hB0_4 : Below w.heap.size w w8 := (hB0_3).trans (hb8.mono (hB0_3).size)
      have hB0_5 : Below w.heap.size w w9 := (hB0_4).grown hg9 (hB0_4).size (fun k e => by cases e; exact Nat.le_trans (hB0_3).size (Nat.le_refl _))
      try simp only [ne_eq, Decidable.not_not] at h22
      try simp only [ne_eq, Decidable.not_not] at h26
      exact ⟨by simp [inclE, h22, h26], hB0_5⟩
  · skip
    refine Eng.sv rfl rfl (Eng.x_eq (r := false) rfl rfl rfl (Eng.eq_f (by omega))) ?_
    refine Eng.sv rfl rfl (Eng.x_mv (v := (.bool false)) rfl rfl) ?_
    refine Eng.sg (Eng.gf rfl rfl rfl rfl) rfl ?_
    refine Eng.sg (Eng.gf rfl rfl rfl rfl) rfl ?_
    refine Eng.sg (Eng.gf rfl rfl rfl rfl) rfl ?_
    refine Eng.sv rfl rfl (Eng.x_pick (v := (.bool false)) rfl rfl rfl rfl rfl) ?_
    refine Eng.nil ?_
    refine hK11 _ _ ?_
    refine Eng.cond_f rfl ?_
    refine Eng.skp ?_
    refine hK10 _ _ ?_
    refine Eng.seqk fun K15 hK15 => ?_
    refine Eng.reg ?_
    refine Eng.sv rfl rfl (Eng.x_mv (v := (.int .i64 (rootE i n xs.length))) rfl rfl) ?_
    refine Eng.sv rfl rfl (Eng.x_as (v := (.int .i64 (rootE i n xs.length))) rfl rfl) ?_
    refine Eng.nil ?_
    refine hK15 _ _ ?_
    refine Eng.rt ?_
    refine Eng.ret (Eng.res1 (v1 := (.int .i64 (rootE i n xs.length))) rfl (Eng.rdt rfl)) ?_
    have hB0_3 : Below w.heap.size w w7 := (hB0_2).trans (hb7.mono (hB0_2).size)
    have hB0_4 : Below w.heap.size w w8 := (hB0_3).trans (hb8.mono (hB0_3).size)
    have hB0_5 : Below w.heap.size w w9 := (hB0_4).grown hg9 (hB0_4).size (fun k e => by cases e; exact Nat.le_trans (hB0_3).size (Nat.le_refl _))
    try simp only [ne_eq, Decidable.not_not] at h22
    exact ⟨by simp [inclE, h22], hB0_5⟩
end Go.Proofs.YtojenflknjhmkaaDoor.Vfy
