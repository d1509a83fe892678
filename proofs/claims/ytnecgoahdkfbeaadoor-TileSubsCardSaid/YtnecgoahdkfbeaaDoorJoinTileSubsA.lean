/- Several texts in one: Vfy; Rot; TilS; EngQ; TilG; EngE; Sub; Tby; Wid. -/
import Derived.Test.YtnecgoahdkfbeaaDoorVfyP
import Derived.Test.YtnecgoahdkfbeaaDoorEngT
import Derived.Test.YtnecgoahdkfbeaaDoorRoo
import Derived.Test.YtnecgoahdkfbeaaDoorTilO
import Derived.Test.YtnecgoahdkfbeaaDoorTilR
import Derived.Test.YtnecgoahdkfbeaaDoorEngS
import Derived.Laws.StructEq
import Derived.Test.YtnecgoahdkfbeaaDoorEng
section
namespace Go.Proofs.YtnecgoahdkfbeaaDoor.Vfy
open Go Go.RowKit Go.Proofs.YtnecgoahdkfbeaaDoor Go.Proofs.YtnecgoahdkfbeaaDoor.Cop Go.Proofs.YtnecgoahdkfbeaaDoor.Ver Go.Proofs.YtnecgoahdkfbeaaDoor.Tre Go.Proofs.YtnecgoahdkfbeaaDoor.Oct Go.Proofs.YtnecgoahdkfbeaaDoor.Dsl Go.Proofs.YtnecgoahdkfbeaaDoor.Sha
set_option linter.unusedVariables false
set_option linter.unusedSimpArgs false
theorem zr45_vf (w : World) : (zeroValue 45).run Tryd.prog w = .ok (dg Oct.dz) w := by kernel_rfl
theorem en133_vf : Eng.Entr Tryd.prog 133 := ⟨_, Tryd.func133, by kernel_rfl, by kernel_rfl⟩
theorem en134_vf : Eng.Entr Tryd.prog 134 := ⟨_, Tryd.func134, by kernel_rfl, by kernel_rfl⟩
theorem sz45_vf : (Tryd.prog.info? 45).map (fun i => i.size) = some 32 := by kernel_rfl
theorem ag45_vf (w : World) : (isAgg 45).run Tryd.prog w = .ok true w := by kernel_rfl
theorem sz207_vf : (Tryd.prog.info? 207).map (fun i => i.size) = some 1 := by kernel_rfl
theorem ag207_vf (w : World) : (isAgg 207).run Tryd.prog w = .ok false w := by kernel_rfl
theorem en117_vf : Eng.Entr Tryd.prog 117 := ⟨_, Tryd.func117, by kernel_rfl, by kernel_rfl⟩
theorem en193_vf : Eng.Entr Tryd.prog 193 := ⟨_, Tryd.func193, by kernel_rfl, by kernel_rfl⟩
theorem en141_vf : Eng.Entr Tryd.prog 141 := ⟨_, Tryd.func141, by kernel_rfl, by kernel_rfl⟩
theorem en125_vf : Eng.Entr Tryd.prog 125 := ⟨_, Tryd.func125, by kernel_rfl, by kernel_rfl⟩
theorem en140_vf : Eng.Entr Tryd.prog 140 := ⟨_, Tryd.func140, by kernel_rfl, by kernel_rfl⟩
theorem _root_.Go.Proofs.YtnecgoahdkfbeaaDoor.Ver.OwnT.below {B : Nat} {w w' : World} {v : Value} {l : List Bool} (h : OwnT B w v l) (hb : Below w.heap.size w w') : OwnT B w' v l := own_below h hb
theorem _root_.Go.Proofs.YtnecgoahdkfbeaaDoor.Ver.OwnT.kept {B : Nat} {w w' : World} {v : Value} {l : List Bool} (h : OwnT B w v l) {row : Option Nat} (hg : w.grownBy w' row) (hne : v.ownBlock = none ∨ v.ownBlock ≠ row) : OwnT B w' v l := World.ownsRow.kept h hg hne
theorem _root_.Go.Proofs.YtnecgoahdkfbeaaDoor.Ver.OwnT.grL {E : List Nat} {B : Nat} {w w' : World} {v : Value} {l : List Bool} (h : OwnT B w v l) (hg : Eng.GrL E w w') (hn : ∀ g, v.ownBlock = some g → g ∉ E) : OwnT B w' v l := Eng.own_grL h hg hn
theorem rightB_iff {i n : Int} : rightB i n = true ↔ 1 ≤ n ∧ n ≤ 281474976710656 ∧ 0 ≤ i ∧ i < n := by simp [rightB, and_assoc]
theorem ordB_iff {m n : Int} : ordB m n = true ↔ 1 ≤ m ∧ m ≤ n ∧ n ≤ 281474976710656 := by simp [ordB, and_assoc]
theorem wayI (i n : Int) (h : rightB i n = true) (w : World) : Calls Tryd.prog 134 #[.int .i64 i, .int .i64 n] w fun e w' => ∃ v, e = .returned v ∧ OwnT w.heap.size w' v (wayL i.toNat n.toNat) ∧ Below w.heap.size w w' := by
  obtain ⟨h1, h2, h3, h4⟩ := rightB_iff.1 h
  obtain ⟨a, rfl⟩ : ∃ a : Nat, i = (a : Int) := ⟨i.toNat, by omega⟩
  obtain ⟨b, rfl⟩ : ∃ b : Nat, n = (b : Int) := ⟨n.toNat, by omega⟩
  exact way_calls a b (by omega) (by omega) w
theorem node_eq {a b c : List UInt8} (e : nodeS a b = c) (ha : a.length = 32) (hb : b.length = 32) (w : World) (hK : Kon w) : Calls Tryd.prog 117 #[dg a, dg b] w fun e w' => e = .returned (dg c) ∧ Below w.heap.size w w' := by
  subst e; exact node_calls a b ha hb w hK
theorem rnode_eq {a b c : List UInt8} (e : nodeS a b = c) (ha : a.length = 32) (hb : b.length = 32) (w : World) : Calls Tryd.prog 125 #[dg a, dg b] w fun e w' => e = .returned (dg c) ∧ Below w.heap.size w w' := by
  subst e; exact rnode_calls a b ha hb w
theorem rlen_ok {i n : Int} (h : rightB i n = true) (w : World) : Calls Tryd.prog 140 #[.int .i64 i, .int .i64 n] w fun e w' => e = .returned (.tuple #[.int .i64 (lenN i n : Int), .int .i64 0]) ∧ w = w' := by
  have := rlength_calls i n w; rw [h] at this; simpa using this
theorem rlen_no {i n : Int} (h : rightB i n = false) (w : World) : Calls Tryd.prog 140 #[.int .i64 i, .int .i64 n] w fun e w' => e = .returned (.tuple #[.int .i64 0, .int .i64 40]) ∧ w = w' := by
  have := rlength_calls i n w; rw [h] at this; simpa using this
theorem ds_pre {w : World} {v : Value} {xs : List (List UInt8)} (h : Ds w v xs) {n : Nat} (hn : n ≤ xs.length) : Ds w (Eng.sCut v 0 n 32) (xs.take n) := by
  have := Eng.ds_cut h (l := 0) (h := n) (Nat.zero_le _) hn
  simpa using this
theorem ds_tl {w : World} {v : Value} {xs : List (List UInt8)} (h : Ds w v xs) (hn : 1 ≤ xs.length) : Ds w (Eng.sCut v 1 xs.length 32) xs.tail := by
  have := Eng.ds_cut h (l := 1) (h := xs.length) hn (Nat.le_refl _)
  have e : (xs.drop 1).take (xs.length - 1) = xs.tail := by rw [List.take_of_length_le (by rw [List.length_drop]; exact Nat.le_refl _), List.drop_one]
  rw [e] at this; exact this
def inclE (e : Int) (p q : List UInt8) : Int := if e = 0 then (if p = q then 0 else 71) else e
def consE (e : Int) (p q : List UInt8 × List UInt8) : Int := if e = 0 then (if p.1 = q.1 ∧ p.2 = q.2 then 0 else 71) else e
set_option maxRecDepth 100000 in
set_option maxHeartbeats 4000000 in
theorem root_calls (d : List UInt8) (hd : d.length = 32) (i n : Int) (v : Value) (xs : List (List UInt8)) (w : World) (h : Ds w v xs) (hK : Kon w) : Calls Tryd.prog 71 #[(dg d), (.int .i64 i), (.int .i64 n), v] w (fun e w' => e = .returned (.tuple #[dg (rootD d i n xs), .int .i64 (rootE i n xs.length)]) ∧ Below w.heap.size w w') := by
  have hsm := h.1.small
  refine Eng.enter (l := [(dg d), (.int .i64 i), (.int .i64 n), v]) Tryd.func71 rfl 52 rfl (by simp) ?_
  refine Eng.seqk fun K1 hK1 => ?_
  refine Eng.reg ?_
  refine Eng.bo (v := (dg d)) (cs := (bcs d)) rfl rfl rfl rfl rfl ?_
  intro w2 hk2 hb2 hz2
  refine Eng.al rfl rfl rfl zr45_vf (cs := (bcs Oct.dz)) rfl ?_
  intro w3 hk3 hb3 hz3
  refine Eng.sv rfl rfl (Eng.x_as (v := (.int .i64 0)) rfl rfl) ?_
  refine Eng.nil ?_
  refine hK1 _ _ ?_
  refine Eng.seqk fun K4 hK4 => ?_
  refine Eng.seqk fun K5 hK5 => ?_
  refine Eng.reg ?_
  refine Eng.sv rfl rfl (Eng.x_mv (v := (.int .i64 i)) rfl rfl) ?_
  refine Eng.sv rfl rfl (Eng.x_mv (v := (.int .i64 n)) rfl rfl) ?_
  refine Eng.sc rfl (Eng.xc (vl := [(.int .i64 i), (.int .i64 n)]) rfl rfl rfl en133_vf) (right_calls i n _) ?_
  rintro _ _ ⟨rfl, rfl⟩
  refine Eng.aft_v rfl ?_
  rcases Eng.tf (rightB i n) with hr | hr
  · skip
    rw [hr]
    refine Eng.sv rfl rfl (Eng.x_not (v := (.bool false)) rfl rfl rfl) ?_
    refine Eng.nil ?_
    refine hK5 _ _ ?_
    refine Eng.cond_f rfl ?_
    refine Eng.skp ?_
    refine hK4 _ _ ?_
    refine Eng.seqk fun K7 hK7 => ?_
    refine Eng.reg ?_
    refine Eng.sv rfl rfl (Eng.x_mv (v := (.int .i64 i)) rfl rfl) ?_
    refine Eng.sv rfl rfl (Eng.x_mv (v := (.int .i64 n)) rfl rfl) ?_
    refine Eng.sc rfl (Eng.xc (vl := [(.int .i64 i), (.int .i64 n)]) rfl rfl rfl en134_vf) (wayI i n hr _) ?_
    rintro _ w8 ⟨vl8, rfl, ho8, hb8⟩
    refine Eng.aft_v rfl ?_
    refine Eng.sv rfl rfl (Eng.x_as (v := vl8) rfl rfl) ?_
    refine Eng.nil ?_
    refine hK7 _ _ ?_
    refine Eng.seqk fun K9 hK9 => ?_
    refine Eng.seqk fun K10 hK10 => ?_
    refine Eng.reg ?_
    refine Eng.sv rfl rfl (Eng.x_mv (v := vl8) rfl rfl) ?_
    refine Eng.sv rfl rfl (Eng.x_len (v := vl8) (r := ((wayL i.toNat n.toNat).length : Int)) rfl Tryd.underlying205 rfl (Row.of_own ho8) rfl) ?_
    refine Eng.sv rfl rfl (Eng.x_mv (v := v) rfl rfl) ?_
    have hB0_2 : Below w.heap.size w w3 := (hb2).trans (hb3.mono (hb2).size)
    have hB0_3 : Below w.heap.size w w8 := (hB0_2).trans (hb8.mono (hB0_2).size)
    have hr11 := (h).below hB0_3
    refine Eng.sv rfl rfl (Eng.x_len (v := v) (r := (xs.length : Int)) rfl Tryd.underlying36 rfl (hr11).1 rfl) ?_
    by_cases h26 : (((wayL i.toNat n.toNat).length : Int) : Int) ≠ (xs.length : Int)
    · skip
      refine Eng.sv rfl rfl (Eng.x_ne (r := true) rfl rfl rfl (Eng.ne_t (by omega))) ?_
      refine Eng.nil ?_
      refine hK10 _ _ ?_
      refine Eng.cond_t rfl ?_
      refine Eng.seqk fun K12 hK12 => ?_
      refine Eng.reg ?_
      refine Eng.sv rfl rfl (Eng.x_build (ps := []) (v := (dg Oct.dz)) rfl rfl (by kernel_rfl)) ?_
      have hk13 := (hk3).below hb8
      refine Eng.stB (v := (dg Oct.dz)) rfl rfl rfl sz45_vf rfl hk13 rfl rfl (cs' := (bcs Oct.dz)) rfl rfl (bcs_one _) ?_
      intro w14 hk14 hg14
      refine Eng.sv rfl rfl (Eng.x_as (v := (.int .i64 70)) rfl rfl) ?_
      refine Eng.nil ?_
      refine hK12 _ _ ?_
      refine Eng.rt ?_
      refine Eng.tr ?_
      refine Eng.ret (Eng.res2 (v1 := (dg Oct.dz)) (v2 := (.int .i64 70)) rfl (Eng.rdc rfl (Eng.lvB ag45_vf sz45_vf hk14 rfl rfl)) (Eng.rdt rfl)) ?_
      have hB0_4 : Below w.heap.size w w14 := (hB0_3).grown hg14 (hB0_3).size (fun k e => by cases e; exact Nat.le_trans (hb2).size (Nat.le_refl _))
      have hnl : lenN i n ≠ xs.length := fun e => h26 (by rw [← e]; rfl)
      exact ⟨by simp [rootD, rootE, hr, hnl], hB0_4⟩
    · skip
      refine Eng.sv rfl rfl (Eng.x_ne (r := false) rfl rfl rfl (Eng.ne_f (by omega))) ?_
      refine Eng.nil ?_
      refine hK10 _ _ ?_
      refine Eng.cond_f rfl ?_
      refine Eng.skp ?_
      refine hK9 _ _ ?_
      refine Eng.seqk fun K15 hK15 => ?_
      refine Eng.reg ?_
      have hk16 := ((hk2).below hb3).below hb8
      refine Eng.sv rfl rfl (Eng.x_ldB (v := (dg d)) rfl ag45_vf sz45_vf rfl hk16 ((bcs_length _).trans hd) rfl) ?_
      refine Eng.al rfl rfl rfl zr45_vf (cs := (bcs Oct.dz)) rfl ?_
      intro w17 hk17 hb17 hz17
      refine Eng.stB (v := (dg d)) rfl rfl rfl sz45_vf rfl hk17 rfl rfl (cs' := (bcs d)) rfl ((bcs_length _).trans hd) (bcs_one _) ?_
      intro w18 hk18 hg18
      refine Eng.nil ?_
      refine hK15 _ _ ?_
      refine Eng.seqk fun K19 hK19 => ?_
      refine Eng.seqk fun K20 hK20 => ?_
      refine Eng.reg ?_
      refine Eng.sv rfl rfl (Eng.x_mv (v := v) rfl rfl) ?_
      have hB0_4 : Below w.heap.size w w17 := (hB0_3).trans (hb17.mono (hB0_3).size)
      have hB0_5 : Below w.heap.size w w18 := (hB0_4).grown hg18 (hB0_4).size (fun k e => by cases e; exact Nat.le_trans (hB0_3).size (Nat.le_refl _))
      have hr21 := (h).below hB0_5
      refine Eng.sv rfl rfl (Eng.x_len (v := v) (r := (xs.length : Int)) rfl Tryd.underlying36 rfl (hr21).1 rfl) ?_
      refine Eng.sv rfl rfl (Eng.x_mv (v := (.int .i64 0)) rfl rfl) ?_
      refine Eng.nil ?_
      refine hK20 _ _ ?_
      refine Eng.blk ?_
      have hk23 := (((hk3).below hb8).below hb17).grown hg18 (fun e => absurd (Option.some.inj e) (Nat.ne_of_lt (Nat.lt_of_lt_of_le hz3 (Nat.le_trans (hb8).size (Nat.le_refl _)))))
      have hr24 := ((ho8).below hb17).kept hg18 (.inr (fun e => absurd ((World.ownsRow.lt ho8) _ e).2 (Nat.not_lt_of_le (Nat.le_trans (Nat.le_refl _) (Nat.le_refl _)))))
      refine Eng.loopN (fun zz u w' => ∃ (k : Nat), zz = xs.length - k ∧ k ≤ xs.length ∧ Eng.Has u [(8, (.pointer (some ⟨w2.heap.size, 0, none⟩))), (9, (.int .i64 0)), (10, vl8), (11, (.pointer (some ⟨w8.heap.size, 0, none⟩))), (29, v), (30, (.int .i64 (xs.length : Int))), (31, (.int .i64 (k : Int)))] ∧ Below w.heap.size w w' ∧ w18.heap.size ≤ w'.heap.size ∧ Blk w' w2.heap.size 45 (bcs Oct.dz) ∧ Blk w' w8.heap.size 45 (bcs (upK d (wayL i.toNat n.toNat) xs k)) ∧ OwnT w3.heap.size w' vl8 (wayL i.toNat n.toNat)) _ ⟨0, rfl, by omega, ⟨rfl, rfl, rfl, rfl, rfl, rfl, (Eng.ie (by first | omega | rfl)), trivial⟩, hB0_5, (Nat.le_refl _), hk23, hk18, hr24⟩ ?_
      rintro _ u22 w22 ⟨k, rfl, hs22_0, hH22, hBL22, hzL22, hkL22_0, hkL22_1, hrL22_0⟩ K22 hK22
      obtain ⟨u22, rfl⟩ := hH22.ex
      refine Eng.seqk fun K25 hK25 => ?_
      refine Eng.reg ?_
      by_cases h32 : ((k : Int) : Int) < (xs.length : Int)
      · skip
        refine Eng.sv rfl rfl (Eng.x_lt (r := true) rfl rfl rfl (decide_eq_true (by omega))) ?_
        refine Eng.nil ?_
        refine hK25 _ _ ?_
        refine Eng.seqk fun K26 hK26 => ?_
        refine Eng.cond_t rfl ?_
        refine Eng.skp ?_
        refine hK26 _ _ ?_
        refine Eng.seqk fun K27 hK27 => ?_
        refine Eng.blk ?_
        refine Eng.seqk fun K28 hK28 => ?_
        refine Eng.reg ?_
        refine Eng.sv rfl rfl (Eng.x_mv (v := (.int .i64 (k : Int))) rfl rfl) ?_
        have hr29 := (h).below hBL22
        refine Eng.sv rfl rfl (Eng.x_ia (v := v) (j := k) rfl Tryd.underlying36 sz45_vf (by decide) rfl rfl (hr29).1 (Dsl.dcs_len _ (hr29).2) (by omega) (by omega)) ?_
        refine Eng.sv rfl rfl (Eng.x_ldA (v := (dg ((xs).getD k []))) rfl ag45_vf sz45_vf rfl ((bcs_length _).trans (Eng.ds_len hr29 (by omega))) (Eng.ds_at hr29 (by omega)) rfl) ?_
        refine Eng.al rfl rfl rfl zr45_vf (cs := (bcs Oct.dz)) rfl ?_
        intro w30 hk30 hb30 hz30
        refine Eng.sv rfl rfl (Eng.x_as (v := (.int .i64 (k : Int))) rfl rfl) ?_
        refine Eng.stB (v := (dg ((xs).getD k []))) rfl rfl rfl sz45_vf rfl hk30 rfl rfl (cs' := (bcs ((xs).getD k []))) rfl ((bcs_length _).trans (Eng.ds_len hr29 (by omega))) (bcs_one _) ?_
        intro w31 hk31 hg31
        refine Eng.nil ?_
        refine hK28 _ _ ?_
        refine Eng.seqk fun K32 hK32 => ?_
        refine Eng.reg ?_
        refine Eng.sv rfl rfl (Eng.x_mv (v := vl8) rfl rfl) ?_
        refine Eng.sv rfl rfl (Eng.x_mv (v := vl8) rfl rfl) ?_
        have hB3_5 : Below w8.heap.size w8 w18 := (hb17).grown hg18 (hb17).size (fun k e => by cases e; exact Nat.le_trans (Nat.le_refl _) (Nat.le_refl _))
        have hr33 := ((hrL22_0).below hb30).kept hg31 (.inr (fun e => absurd ((World.ownsRow.lt ho8) _ e).2 (Nat.not_lt_of_le (Nat.le_trans (Nat.le_trans (hB3_5).size hzL22) (Nat.le_refl _)))))
        refine Eng.sv rfl rfl (Eng.x_len (v := vl8) (r := ((wayL i.toNat n.toNat).length : Int)) rfl Tryd.underlying205 rfl (Row.of_own hr33) rfl) ?_
        refine Eng.sv rfl rfl (Eng.x_sub rfl rfl rfl (Eng.w64 (r := (((wayL i.toNat n.toNat).length : Int) - 1)) (by omega))) ?_
        refine Eng.sv rfl rfl (Eng.x_mv (v := (.int .i64 (k : Int))) rfl rfl) ?_
        refine Eng.sv rfl rfl (Eng.x_sub rfl rfl rfl (Eng.w64 (r := (((wayL i.toNat n.toNat).length - 1 - k : Nat) : Int)) (by omega))) ?_
        refine Eng.sv rfl rfl (Eng.x_ia (v := vl8) (j := (wayL i.toNat n.toNat).length - 1 - k) rfl Tryd.underlying205 sz207_vf (by decide) rfl rfl (Row.of_own hr33) (by rw [Nat.mul_one]; exact List.length_map _) (by omega) (by omega)) ?_
        refine Eng.sv rfl rfl (Eng.x_ld1 (v := (.bool (((wayL i.toNat n.toNat)).getD ((wayL i.toNat n.toNat).length - 1 - k) false))) rfl ag207_vf rfl (Eng.row_get (Row.of_own hr33) (Eng.map_get Value.bool _ false (by omega)))) ?_
        refine Eng.nil ?_
        refine hK32 _ _ ?_
        refine Eng.cond_b rfl (fun hc34 => ?_) (fun hc34 => ?_)
        · skip
          refine Eng.reg ?_
          have hk35 := ((hkL22_1).below hb30).grown hg31 (fun e => absurd (Option.some.inj e) (Nat.ne_of_lt (Nat.lt_of_lt_of_le hz17 (Nat.le_trans (Nat.le_trans (hg18).size hzL22) (Nat.le_refl _)))))
          refine Eng.sv rfl rfl (Eng.x_ldB (v := (dg (upK d (wayL i.toNat n.toNat) xs k))) rfl ag45_vf sz45_vf rfl hk35 ((bcs_length _).trans (upK_len _ _ _ _ hd)) rfl) ?_
          refine Eng.sv rfl rfl (Eng.x_ldB (v := (dg ((xs).getD k []))) rfl ag45_vf sz45_vf rfl hk31 ((bcs_length _).trans (Eng.ds_len hr29 (by omega))) rfl) ?_
          have hB0_7 : Below w.heap.size w w30 := (hBL22).trans (hb30.mono (hBL22).size)
          have hB0_8 : Below w.heap.size w w31 := (hB0_7).grown hg31 (hB0_7).size (fun k e => by cases e; exact Nat.le_trans (hBL22).size (Nat.le_refl _))
          have hr36 := (hK).below hB0_8
          refine Eng.sc rfl (Eng.xc (vl := [(dg (upK d (wayL i.toNat n.toNat) xs k)), (dg ((xs).getD k []))]) rfl rfl rfl en117_vf) (node_eq (upK_t (l := (wayL i.toNat n.toNat)) (by omega) (by omega) hc34) (upK_len _ _ _ _ hd) (Eng.ds_len hr29 (by omega)) _ hr36) ?_
          rintro _ w37 ⟨rfl, hb37⟩
          refine Eng.aft_v rfl ?_
          have hk38 := (hk35).below hb37
          refine Eng.stB (v := (dg (upK d (wayL i.toNat n.toNat) xs (k + 1)))) rfl rfl rfl sz45_vf rfl hk38 ((bcs_length _).trans (upK_len _ _ _ _ hd)) rfl (cs' := (bcs (upK d (wayL i.toNat n.toNat) xs (k + 1)))) rfl ((bcs_length _).trans (upK_len _ _ _ _ hd)) (bcs_one _) ?_
          intro w39 hk39 hg39
          refine Eng.nil ?_
          refine Eng.nb ?_
          refine hK27 _ _ ?_
          refine Eng.reg ?_
          refine Eng.sv rfl rfl (Eng.x_add rfl rfl rfl (Eng.w64 (r := ((k : Int) + 1)) (by omega))) ?_
          refine Eng.sv rfl rfl (Eng.x_mv (v := (.int .i64 ((k : Int) + 1))) rfl rfl) ?_
          refine Eng.nil ?_
          have hr40 := ((hr33).below hb37).kept hg39 (.inr (fun e => absurd ((World.ownsRow.lt ho8) _ e).2 (Nat.not_lt_of_le (Nat.le_trans (Nat.le_refl _) (Nat.le_refl _)))))
          have hB0_9 : Below w.heap.size w w37 := (hB0_8).trans (hb37.mono (hB0_8).size)
          have hB0_10 : Below w.heap.size w w39 := (hB0_9).grown hg39 (hB0_9).size (fun k e => by cases e; exact Nat.le_trans (hB0_3).size (Nat.le_refl _))
          have hB2_4 : Below w3.heap.size w3 w17 := (hb8).trans (hb17.mono (hb8).size)
          have hB2_5 : Below w3.heap.size w3 w18 := (hB2_4).grown hg18 (hB2_4).size (fun k e => by cases e; exact Nat.le_trans (hb8).size (Nat.le_refl _))
          have hk41 := ((((hkL22_0).below hb30).grown hg31 (fun e => absurd (Option.some.inj e) (Nat.ne_of_lt (Nat.lt_of_lt_of_le hz3 (Nat.le_trans (Nat.le_trans (hB2_5).size hzL22) (Nat.le_refl _)))))).below hb37).grown hg39 (fun e => absurd (Option.some.inj e) (Nat.ne_of_lt (Nat.lt_of_lt_of_le hz3 (Nat.le_trans (hb8).size (Nat.le_refl _)))))
          exact hK22 _ _ _ ⟨k + 1, rfl, by omega, ⟨rfl, rfl, rfl, rfl, rfl, rfl, (Eng.ie (by first | omega | rfl)), trivial⟩, hB0_10, (Nat.le_trans (Nat.le_trans (Nat.le_trans (Nat.le_trans hzL22 (hb30).size) (hg31).size) (hb37).size) (hg39).size), hk41, hk39, hr40⟩ (by omega)
        · skip
          refine Eng.reg ?_
          refine Eng.sv rfl rfl (Eng.x_ldB (v := (dg ((xs).getD k []))) rfl ag45_vf sz45_vf rfl hk31 ((bcs_length _).trans (Eng.ds_len hr29 (by omega))) rfl) ?_
          have hk42 := ((hkL22_1).below hb30).grown hg31 (fun e => absurd (Option.some.inj e) (Nat.ne_of_lt (Nat.lt_of_lt_of_le hz17 (Nat.le_trans (Nat.le_trans (hg18).size hzL22) (Nat.le_refl _)))))
          refine Eng.sv rfl rfl (Eng.x_ldB (v := (dg (upK d (wayL i.toNat n.toNat) xs k))) rfl ag45_vf sz45_vf rfl hk42 ((bcs_length _).trans (upK_len _ _ _ _ hd)) rfl) ?_
          have hB0_7 : Below w.heap.size w w30 := (hBL22).trans (hb30.mono (hBL22).size)
          have hB0_8 : Below w.heap.size w w31 := (hB0_7).grown hg31 (hB0_7).size (fun k e => by cases e; exact Nat.le_trans (hBL22).size (Nat.le_refl _))
          have hr43 := (hK).below hB0_8
          refine Eng.sc rfl (Eng.xc (vl := [(dg ((xs).getD k [])), (dg (upK d (wayL i.toNat n.toNat) xs k))]) rfl rfl rfl en117_vf) (node_eq (upK_f (l := (wayL i.toNat n.toNat)) (by omega) (by omega) hc34) (Eng.ds_len hr29 (by omega)) (upK_len _ _ _ _ hd) _ hr43) ?_
          rintro _ w44 ⟨rfl, hb44⟩
          refine Eng.aft_v rfl ?_
          have hk45 := (hk42).below hb44
          refine Eng.stB (v := (dg (upK d (wayL i.toNat n.toNat) xs (k + 1)))) rfl rfl rfl sz45_vf rfl hk45 ((bcs_length _).trans (upK_len _ _ _ _ hd)) rfl (cs' := (bcs (upK d (wayL i.toNat n.toNat) xs (k + 1)))) rfl ((bcs_length _).trans (upK_len _ _ _ _ hd)) (bcs_one _) ?_
          intro w46 hk46 hg46
          refine Eng.nil ?_
          refine Eng.nb ?_
          refine hK27 _ _ ?_
          refine Eng.reg ?_
          refine Eng.sv rfl rfl (Eng.x_add rfl rfl rfl (Eng.w64 (r := ((k : Int) + 1)) (by omega))) ?_
          refine Eng.sv rfl rfl (Eng.x_mv (v := (.int .i64 ((k : Int) + 1))) rfl rfl) ?_
          refine Eng.nil ?_
          have hr47 := ((hr33).below hb44).kept hg46 (.inr (fun e => absurd ((World.ownsRow.lt ho8) _ e).2 (Nat.not_lt_of_le (Nat.le_trans (Nat.le_refl _) (Nat.le_refl _)))))
          have hB0_9 : Below w.heap.size w w44 := (hB0_8).trans (hb44.mono (hB0_8).size)
          have hB0_10 : Below w.heap.size w w46 := (hB0_9).grown hg46 (hB0_9).size (fun k e => by cases e; exact Nat.le_trans (hB0_3).size (Nat.le_refl _))
          have hB2_4 : Below w3.heap.size w3 w17 := (hb8).trans (hb17.mono (hb8).size)
          have hB2_5 : Below w3.heap.size w3 w18 := (hB2_4).grown hg18 (hB2_4).size (fun k e => by cases e; exact Nat.le_trans (hb8).size (Nat.le_refl _))
          have hk48 := ((((hkL22_0).below hb30).grown hg31 (fun e => absurd (Option.some.inj e) (Nat.ne_of_lt (Nat.lt_of_lt_of_le hz3 (Nat.le_trans (Nat.le_trans (hB2_5).size hzL22) (Nat.le_refl _)))))).below hb44).grown hg46 (fun e => absurd (Option.some.inj e) (Nat.ne_of_lt (Nat.lt_of_lt_of_le hz3 (Nat.le_trans (hb8).size (Nat.le_refl _)))))
          exact hK22 _ _ _ ⟨k + 1, rfl, by omega, ⟨rfl, rfl, rfl, rfl, rfl, rfl, (Eng.ie (by first | omega | rfl)), trivial⟩, hB0_10, (Nat.le_trans (Nat.le_trans (Nat.le_trans (Nat.le_trans hzL22 (hb30).size) (hg31).size) (hb44).size) (hg46).size), hk48, hk46, hr47⟩ (by omega)
      · skip
        refine Eng.sv rfl rfl (Eng.x_lt (r := false) rfl rfl rfl (decide_eq_false (by omega))) ?_
        refine Eng.nil ?_
        refine hK25 _ _ ?_
        refine Eng.seqk fun K49 hK49 => ?_
        refine Eng.cond_f rfl ?_
        refine Eng.xt ?_
        refine Eng.te ?_
        refine Eng.te ?_
        refine Eng.be ?_
        refine hK19 _ _ ?_
        refine Eng.seqk fun K50 hK50 => ?_
        refine Eng.reg ?_
        refine Eng.sv rfl rfl (Eng.x_ldB (v := (dg (upK d (wayL i.toNat n.toNat) xs k))) rfl ag45_vf sz45_vf rfl hkL22_1 ((bcs_length _).trans (upK_len _ _ _ _ hd)) rfl) ?_
        refine Eng.stB (v := (dg (upK d (wayL i.toNat n.toNat) xs k))) rfl rfl rfl sz45_vf rfl hkL22_0 rfl rfl (cs' := (bcs (upK d (wayL i.toNat n.toNat) xs k))) rfl ((bcs_length _).trans (upK_len _ _ _ _ hd)) (bcs_one _) ?_
        intro w51 hk51 hg51
        refine Eng.sv rfl rfl (Eng.x_as (v := (.int .i64 0)) rfl rfl) ?_
        refine Eng.nil ?_
        refine hK50 _ _ ?_
        refine Eng.rt ?_
        refine Eng.ret (Eng.res2 (v1 := (dg (upK d (wayL i.toNat n.toNat) xs k))) (v2 := (.int .i64 0)) rfl (Eng.rdc rfl (Eng.lvB ag45_vf sz45_vf hk51 ((bcs_length _).trans (upK_len _ _ _ _ hd)) rfl)) (Eng.rdt rfl)) ?_
        have hB0_7 : Below w.heap.size w w51 := (hBL22).grown hg51 (hBL22).size (fun k e => by cases e; exact Nat.le_trans (hb2).size (Nat.le_refl _))
        have hln : lenN i n = xs.length := by have := h26; unfold lenN; omega
        have hE : rootE i n xs.length = 0 := by simp [rootE, hr, hln]
        have hkl : k = xs.length := by omega
        have hup : upK d (wayL i.toNat n.toNat) xs k = rootD d i n xs := by unfold rootD; rw [if_pos hE, hkl, ← hln]; exact upK_all _ _ _ hln
        exact ⟨by rw [hE, hup], hB0_7⟩
  · skip
    rw [hr]
    refine Eng.sv rfl rfl (Eng.x_not (v := (.bool true)) rfl rfl rfl) ?_
    refine Eng.nil ?_
    refine hK5 _ _ ?_
    refine Eng.cond_t rfl ?_
    refine Eng.seqk fun K52 hK52 => ?_
    refine Eng.reg ?_
    refine Eng.sv rfl rfl (Eng.x_build (ps := []) (v := (dg Oct.dz)) rfl rfl (by kernel_rfl)) ?_
    refine Eng.stB (v := (dg Oct.dz)) rfl rfl rfl sz45_vf rfl hk3 rfl rfl (cs' := (bcs Oct.dz)) rfl rfl (bcs_one _) ?_
    intro w53 hk53 hg53
    refine Eng.sv rfl rfl (Eng.x_as (v := (.int .i64 40)) rfl rfl) ?_
    refine Eng.nil ?_
    refine hK52 _ _ ?_
    refine Eng.rt ?_
    refine Eng.tr ?_
    refine Eng.ret (Eng.res2 (v1 := (dg Oct.dz)) (v2 := (.int .i64 40)) rfl (Eng.rdc rfl (Eng.lvB ag45_vf sz45_vf hk53 rfl rfl)) (Eng.rdt rfl)) ?_
    have hB0_2 : Below w.heap.size w w3 := (hb2).trans (hb3.mono (hb2).size)
    have hB0_3 : Below w.heap.size w w53 := (hB0_2).grown hg53 (hB0_2).size (fun k e => by cases e; exact Nat.le_trans (hb2).size (Nat.le_refl _))
    exact ⟨by simp [rootD, rootE, hr], hB0_3⟩
def UpC (n : Nat) : Prop := ∀ (i : Nat) (d : List UInt8) (v : Value) (xs : List (List UInt8)) (w : World), i < n → n ≤ 281474976710656 → d.length = 32 → Ds w v xs → xs.length = (wayL i n).length → Calls Tryd.prog 141 #[dg d, .int .i64 (i : Int), .int .i64 (n : Int), v] w fun e w' => e = .returned (dg (climb d (wayL i n).reverse xs)) ∧ Below w.heap.size w w'
theorem up_t {d : List UInt8} {i n : Nat} {xs : List (List UInt8)} (h2 : 2 ≤ n) (hn : n ≤ 281474976710656) (hi : i < H n) (hx : xs.length = (wayL i n).length) : nodeS (climb d (wayL i (H n)).reverse (xs.take (xs.length - 1))) (xs.getD (xs.length - 1) []) = climb d (wayL i n).reverse xs := by
  rw [wayL_step i n h2 hn, if_pos hi] at hx ⊢
  rw [climb_top _ _ _ _ (by simpa using hx)]; rfl
theorem up_f {d : List UInt8} {i n : Nat} {xs : List (List UInt8)} (h2 : 2 ≤ n) (hn : n ≤ 281474976710656) (hi : ¬ i < H n) (hx : xs.length = (wayL i n).length) : nodeS (xs.getD (xs.length - 1) []) (climb d (wayL (i - H n) (n - H n)).reverse (xs.take (xs.length - 1))) = climb d (wayL i n).reverse xs := by
  rw [wayL_step i n h2 hn, if_neg hi] at hx ⊢
  rw [climb_top _ _ _ _ (by simpa using hx)]; rfl
theorem way_pos {i n : Nat} (h2 : 2 ≤ n) (hn : n ≤ 281474976710656) : (wayL i n).length = (if i < H n then (wayL i (H n)).length else (wayL (i - H n) (n - H n)).length) + 1 := by
  rw [wayL_step i n h2 hn]; split <;> rfl
set_option maxRecDepth 100000 in
set_option maxHeartbeats 4000000 in
theorem up_step (n : Nat) (ih : ∀ m, m < n → UpC m) (i : Nat) (d : List UInt8) (v : Value) (xs : List (List UInt8)) (w : World) (hi : i < n) (hn : n ≤ 281474976710656) (hd : d.length = 32) (h : Ds w v xs) (hx : xs.length = (wayL i n).length) : Calls Tryd.prog 141 #[(dg d), (.int .i64 (i : Int)), (.int .i64 (n : Int)), v] w (fun e w' => e = .returned (dg (climb d (wayL i n).reverse xs)) ∧ Below w.heap.size w w') := by
  have hsm := h.1.small
  refine Eng.enter (l := [(dg d), (.int .i64 (i : Int)), (.int .i64 (n : Int)), v]) Tryd.func141 rfl 49 rfl (by simp) ?_
  refine Eng.seqk fun K1 hK1 => ?_
  refine Eng.reg ?_
  refine Eng.bo (v := (dg d)) (cs := (bcs d)) rfl rfl rfl rfl rfl ?_
  intro w2 hk2 hb2 hz2
  refine Eng.al rfl rfl rfl zr45_vf (cs := (bcs Oct.dz)) rfl ?_
  intro w3 hk3 hb3 hz3
  refine Eng.nil ?_
  refine hK1 _ _ ?_
  refine Eng.seqk fun K4 hK4 => ?_
  refine Eng.seqk fun K5 hK5 => ?_
  refine Eng.reg ?_
  refine Eng.sv rfl rfl (Eng.x_mv (v := (.int .i64 (n : Int))) rfl rfl) ?_
  by_cases h13 : ((n : Int) : Int) = 1
  · skip
    refine Eng.sv rfl rfl (Eng.x_eq (r := true) rfl rfl rfl (Eng.eq_t (by omega))) ?_
    refine Eng.nil ?_
    refine hK5 _ _ ?_
    refine Eng.cond_t rfl ?_
    refine Eng.seqk fun K6 hK6 => ?_
    refine Eng.reg ?_
    have hk7 := (hk2).below hb3
    refine Eng.sv rfl rfl (Eng.x_ldB (v := (dg d)) rfl ag45_vf sz45_vf rfl hk7 ((bcs_length _).trans hd) rfl) ?_
    refine Eng.stB (v := (dg d)) rfl rfl rfl sz45_vf rfl hk3 rfl rfl (cs' := (bcs d)) rfl ((bcs_length _).trans hd) (bcs_one _) ?_
    intro w8 hk8 hg8
    refine Eng.nil ?_
    refine hK6 _ _ ?_
    refine Eng.rt ?_
    refine Eng.tr ?_
    refine Eng.ret (Eng.res1 (v1 := (dg d)) rfl (Eng.rdc rfl (Eng.lvB ag45_vf sz45_vf hk8 ((bcs_length _).trans hd) rfl))) ?_
    have hB0_2 : Below w.heap.size w w3 := (hb2).trans (hb3.mono (hb2).size)
    have hB0_3 : Below w.heap.size w w8 := (hB0_2).grown hg8 (hB0_2).size (fun k e => by cases e; exact Nat.le_trans (hb2).size (Nat.le_refl _))
    have e1 : n = 1 := by omega
    exact ⟨by subst e1; rw [wayL_one]; rfl, hB0_3⟩
  · skip
    have h2 : 2 ≤ n := by omega
    obtain ⟨q1, q2, q3⟩ := H_spec n h2 hn
    have hwp := way_pos (i := i) h2 hn
    refine Eng.sv rfl rfl (Eng.x_eq (r := false) rfl rfl rfl (Eng.eq_f (by omega))) ?_
    refine Eng.nil ?_
    refine hK5 _ _ ?_
    refine Eng.cond_f rfl ?_
    refine Eng.skp ?_
    refine hK4 _ _ ?_
    refine Eng.seqk fun K9 hK9 => ?_
    refine Eng.reg ?_
    refine Eng.sv rfl rfl (Eng.x_mv (v := (.int .i64 (n : Int))) rfl rfl) ?_
    refine Eng.sc rfl (Eng.xc (vl := [(.int .i64 (n : Int))]) rfl rfl rfl en193_vf) (rhalf_calls n h2 hn _) ?_
    rintro _ _ ⟨rfl, rfl⟩
    refine Eng.aft_v rfl ?_
    refine Eng.sv rfl rfl (Eng.x_as (v := (.int .i64 (H n : Int))) rfl rfl) ?_
    refine Eng.nil ?_
    refine hK9 _ _ ?_
    refine Eng.seqk fun K11 hK11 => ?_
    refine Eng.reg ?_
    refine Eng.sv rfl rfl (Eng.x_mv (v := v) rfl rfl) ?_
    refine Eng.sv rfl rfl (Eng.x_mv (v := v) rfl rfl) ?_
    have hB0_2 : Below w.heap.size w w3 := (hb2).trans (hb3.mono (hb2).size)
    have hr12 := (h).below hB0_2
    refine Eng.sv rfl rfl (Eng.x_len (v := v) (r := (xs.length : Int)) rfl Tryd.underlying36 rfl (hr12).1 rfl) ?_
    refine Eng.sv rfl rfl (Eng.x_sub rfl rfl rfl (Eng.w64 (r := ((xs.length - 1 : Nat) : Int)) (by omega))) ?_
    refine Eng.sv rfl rfl (Eng.x_ia (v := v) (j := xs.length - 1) rfl Tryd.underlying36 sz45_vf (by decide) rfl rfl (hr12).1 (Dsl.dcs_len _ (hr12).2) (by omega) (by omega)) ?_
    refine Eng.sv rfl rfl (Eng.x_ldA (v := (dg ((xs).getD (xs.length - 1) []))) rfl ag45_vf sz45_vf rfl ((bcs_length _).trans (Eng.ds_len hr12 (by omega))) (Eng.ds_at hr12 (by omega)) rfl) ?_
    refine Eng.al rfl rfl rfl zr45_vf (cs := (bcs Oct.dz)) rfl ?_
    intro w13 hk13 hb13 hz13
    refine Eng.stB (v := (dg ((xs).getD (xs.length - 1) []))) rfl rfl rfl sz45_vf rfl hk13 rfl rfl (cs' := (bcs ((xs).getD (xs.length - 1) []))) rfl ((bcs_length _).trans (Eng.ds_len hr12 (by omega))) (bcs_one _) ?_
    intro w14 hk14 hg14
    refine Eng.nil ?_
    refine hK11 _ _ ?_
    refine Eng.seqk fun K15 hK15 => ?_
    refine Eng.reg ?_
    refine Eng.sv rfl rfl (Eng.x_mv (v := v) rfl rfl) ?_
    refine Eng.sv rfl rfl (Eng.x_mv (v := v) rfl rfl) ?_
    have hB0_3 : Below w.heap.size w w13 := (hB0_2).trans (hb13.mono (hB0_2).size)
    have hB0_4 : Below w.heap.size w w14 := (hB0_3).grown hg14 (hB0_3).size (fun k e => by cases e; exact Nat.le_trans (hB0_2).size (Nat.le_refl _))
    have hr16 := (h).below hB0_4
    refine Eng.sv rfl rfl (Eng.x_len (v := v) (r := (xs.length : Int)) rfl Tryd.underlying36 rfl (hr16).1 rfl) ?_
    refine Eng.sv rfl rfl (Eng.x_sub rfl rfl rfl (Eng.w64 (r := ((xs.length - 1 : Nat) : Int)) (by omega))) ?_
    have hq17 : Dsl.Ds w (Eng.sCut v 0 (xs.length - 1) 32) (xs.take (xs.length - 1)) := (ds_pre h (by omega))
    refine Eng.sv rfl rfl (Eng.x_sl (v := v) rfl Tryd.underlying36 sz45_vf rfl (hr16).1 0 (xs.length - 1) (.inl ⟨rfl, rfl⟩) (Eng.bd (k := .i64) rfl) (by omega) (by omega)) ?_
    refine Eng.sv rfl rfl (Eng.x_as (v := (Eng.sCut v 0 (xs.length - 1) 32)) rfl rfl) ?_
    refine Eng.nil ?_
    refine hK15 _ _ ?_
    refine Eng.seqk fun K18 hK18 => ?_
    refine Eng.seqk fun K19 hK19 => ?_
    refine Eng.reg ?_
    refine Eng.sv rfl rfl (Eng.x_mv (v := (.int .i64 (i : Int))) rfl rfl) ?_
    refine Eng.sv rfl rfl (Eng.x_mv (v := (.int .i64 (H n : Int))) rfl rfl) ?_
    by_cases h30 : ((i : Int) : Int) < (H n : Int)
    · skip
      rw [if_pos (by omega)] at hwp
      refine Eng.sv rfl rfl (Eng.x_lt (r := true) rfl rfl rfl (decide_eq_true (by omega))) ?_
      refine Eng.nil ?_
      refine hK19 _ _ ?_
      refine Eng.cond_t rfl ?_
      refine Eng.seqk fun K20 hK20 => ?_
      have hk22 := (((hk2).below hb3).below hb13).grown hg14 (fun e => absurd (Option.some.inj e) (Nat.ne_of_lt (Nat.lt_of_lt_of_le hz2 (Nat.le_trans (hb3).size (Nat.le_refl _)))))
      have hr23 := (hq17).below hB0_4
      refine Eng.draw 7 [fun (vQ : Value) (_ : World) => vQ = (dg d), fun (vQ : Value) (_ : World) => vQ = (.int .i64 (i : Int)), fun (vQ : Value) (_ : World) => vQ = (.int .i64 (H n : Int)), fun (vQ : Value) (_ : World) => vQ = (Eng.sCut v 0 (xs.length - 1) 32), fun (vQ : Value) (_ : World) => vQ = (dg (climb d (wayL (i) (H n)).reverse (xs.take (xs.length - 1)))), fun (vQ : Value) (_ : World) => vQ = (dg ((xs).getD (xs.length - 1) [])), fun (vQ : Value) (_ : World) => vQ = (dg (climb d (wayL i n).reverse xs))] (by kernel_rfl) (by kernel_rfl) (by kernel_rfl) (by kernel_rfl) rfl rfl ?_ ?_ ?_
      · exact ⟨fun _ _ _ h _ => h, fun _ _ _ h _ => h, fun _ _ _ h _ => h, fun _ _ _ h _ => h, fun _ _ _ h _ => h, fun _ _ _ h _ => h, fun _ _ _ h _ => h, trivial⟩
      · refine ⟨?_, ?_, ?_, ?_, ?_, ?_, ?_, trivial⟩
        · intro u' W hbW hkp hdp K hK
          refine Eng.dv rfl rfl ?_ (hK _ _ (Below.refl _ _) rfl)
          exact (Eng.x_ldB (v := (dg d)) rfl ag45_vf sz45_vf (show Eng.opv 49 u' (.tmp 4) = (.pointer (some ⟨w.heap.size, 0, none⟩)) from hkp 4 rfl) ((hk22).below hbW) ((bcs_length _).trans hd) rfl)
        · intro u' W hbW hkp hdp K hK
          refine Eng.dv rfl rfl ?_ (hK _ _ (Below.refl _ _) rfl)
          exact (Eng.x_mv (v := (.int .i64 (i : Int))) rfl (show Eng.opv 49 u' (.tmp 1) = (.int .i64 (i : Int)) from hkp 1 rfl))
        · intro u' W hbW hkp hdp K hK
          refine Eng.dv rfl rfl ?_ (hK _ _ (Below.refl _ _) rfl)
          exact (Eng.x_mv (v := (.int .i64 (H n : Int))) rfl (show Eng.opv 49 u' (.tmp 9) = (.int .i64 (H n : Int)) from hkp 9 rfl))
        · intro u' W hbW hkp hdp K hK
          refine Eng.dv rfl rfl ?_ (hK _ _ (Below.refl _ _) rfl)
          exact (Eng.x_mv (v := (Eng.sCut v 0 (xs.length - 1) 32)) rfl (show Eng.opv 49 u' (.tmp 11) = (Eng.sCut v 0 (xs.length - 1) 32) from hkp 11 rfl))
        · intro u' W hbW hkp hdp K hK
          have e0 : (fun (vQ : Value) (_ : World) => vQ = (dg d)) (u' 31) W := hdp.1
          have e1 : (fun (vQ : Value) (_ : World) => vQ = (.int .i64 (i : Int))) (u' 32) W := hdp.2.1
          have e2 : (fun (vQ : Value) (_ : World) => vQ = (.int .i64 (H n : Int))) (u' 33) W := hdp.2.2.1
          have e3 : (fun (vQ : Value) (_ : World) => vQ = (Eng.sCut v 0 (xs.length - 1) 32)) (u' 34) W := hdp.2.2.2.1
          refine Eng.dc (vs := #[(dg d), (.int .i64 (i : Int)), (.int .i64 (H n : Int)), (Eng.sCut v 0 (xs.length - 1) 32)]) rfl ?_ (ih (H n) (by omega) (i) d _ (xs.take (xs.length - 1)) _ (by omega) (by omega) hd ((hr23).below hbW) (by rw [List.length_take]; omega)) ?_
          · exact Eng.xc (xs := #[(Go.Operand.tmp 31), (Go.Operand.tmp 32), (Go.Operand.tmp 33), (Go.Operand.tmp 34)]) (vl := [(dg d), (.int .i64 (i : Int)), (.int .i64 (H n : Int)), (Eng.sCut v 0 (xs.length - 1) 32)]) rfl rfl (Eng.lc (show Eng.opv 49 u' (.tmp 31) = (dg d) from e0) (Eng.lc (show Eng.opv 49 u' (.tmp 32) = (.int .i64 (i : Int)) from e1) (Eng.lc (show Eng.opv 49 u' (.tmp 33) = (.int .i64 (H n : Int)) from e2) (Eng.lc (show Eng.opv 49 u' (.tmp 34) = (Eng.sCut v 0 (xs.length - 1) 32) from e3) rfl)))) en141_vf
          rintro _ W2 ⟨rfl, hb2⟩
          exact Eng.aft_v rfl (hK _ _ hb2 rfl)
        · intro u' W hbW hkp hdp K hK
          refine Eng.dv rfl rfl ?_ (hK _ _ (Below.refl _ _) rfl)
          exact (Eng.x_ldB (v := (dg ((xs).getD (xs.length - 1) []))) rfl ag45_vf sz45_vf (show Eng.opv 49 u' (.tmp 10) = (.pointer (some ⟨w3.heap.size, 0, none⟩)) from hkp 10 rfl) ((hk14).below hbW) ((bcs_length _).trans (Eng.ds_len hr12 (by omega))) rfl)
        · intro u' W hbW hkp hdp K hK
          have e4 : (fun (vQ : Value) (_ : World) => vQ = (dg (climb d (wayL (i) (H n)).reverse (xs.take (xs.length - 1))))) (u' 35) W := hdp.1
          have e5 : (fun (vQ : Value) (_ : World) => vQ = (dg ((xs).getD (xs.length - 1) []))) (u' 36) W := hdp.2.1
          refine Eng.dc (vs := #[(dg (climb d (wayL (i) (H n)).reverse (xs.take (xs.length - 1)))), (dg ((xs).getD (xs.length - 1) []))]) rfl ?_ (rnode_eq (up_t h2 hn (by omega) hx) (climb_len _ _ _ hd) (Eng.ds_len hr12 (by omega)) _) ?_
          · exact Eng.xc (xs := #[(Go.Operand.tmp 35), (Go.Operand.tmp 36)]) (vl := [(dg (climb d (wayL (i) (H n)).reverse (xs.take (xs.length - 1)))), (dg ((xs).getD (xs.length - 1) []))]) rfl rfl (Eng.lc (show Eng.opv 49 u' (.tmp 35) = (dg (climb d (wayL (i) (H n)).reverse (xs.take (xs.length - 1)))) from e4) (Eng.lc (show Eng.opv 49 u' (.tmp 36) = (dg ((xs).getD (xs.length - 1) [])) from e5) rfl)) en125_vf
          rintro _ W2 ⟨rfl, hb2⟩
          exact Eng.aft_v rfl (hK _ _ hb2 rfl)
      · intro ud21 w21 hb21 hkp21 ⟨f21_0, f21_1, f21_2, f21_3, f21_4, f21_5, f21_6, _⟩
        obtain rfl := Eng.collect (l := [(31, (dg d)), (32, (.int .i64 (i : Int))), (33, (.int .i64 (H n : Int))), (34, (Eng.sCut v 0 (xs.length - 1) 32)), (35, (dg (climb d (wayL (i) (H n)).reverse (xs.take (xs.length - 1))))), (36, (dg ((xs).getD (xs.length - 1) []))), (37, (dg (climb d (wayL i n).reverse xs)))]) hkp21 ⟨f21_0, f21_1, f21_2, f21_3, f21_4, f21_5, f21_6, trivial⟩ rfl
        have hk24 := (((hk3).below hb13).grown hg14 (fun e => absurd (Option.some.inj e) (Nat.ne_of_lt (Nat.lt_of_lt_of_le hz3 (Nat.le_trans (Nat.le_refl _) (Nat.le_refl _)))))).below hb21
        refine Eng.stB (v := (dg (climb d (wayL i n).reverse xs))) rfl rfl rfl sz45_vf rfl hk24 rfl rfl (cs' := (bcs (climb d (wayL i n).reverse xs))) rfl ((bcs_length _).trans (climb_len _ _ _ hd)) (bcs_one _) ?_
        intro w25 hk25 hg25
        refine Eng.nil ?_
        refine hK20 _ _ ?_
        refine Eng.rt ?_
        refine Eng.tr ?_
        refine Eng.ret (Eng.res1 (v1 := (dg (climb d (wayL i n).reverse xs))) rfl (Eng.rdc rfl (Eng.lvB ag45_vf sz45_vf hk25 ((bcs_length _).trans (climb_len _ _ _ hd)) rfl))) ?_
        have hB0_5 : Below w.heap.size w w21 := (hB0_4).trans (hb21.mono (hB0_4).size)
        have hB0_6 : Below w.heap.size w w25 := (hB0_5).grown hg25 (hB0_5).size (fun k e => by cases e; exact Nat.le_trans (hb2).size (Nat.le_refl _))
        exact ⟨rfl, hB0_6⟩
    · skip
      rw [if_neg (by omega)] at hwp
      refine Eng.sv rfl rfl (Eng.x_lt (r := false) rfl rfl rfl (decide_eq_false (by omega))) ?_
      refine Eng.nil ?_
      refine hK19 _ _ ?_
      refine Eng.cond_f rfl ?_
      refine Eng.skp ?_
      refine hK18 _ _ ?_
      refine Eng.seqk fun K26 hK26 => ?_
      have hk28 := (((hk2).below hb3).below hb13).grown hg14 (fun e => absurd (Option.some.inj e) (Nat.ne_of_lt (Nat.lt_of_lt_of_le hz2 (Nat.le_trans (hb3).size (Nat.le_refl _)))))
      have hr29 := (hq17).below hB0_4
      refine Eng.draw 11 [fun (vQ : Value) (_ : World) => vQ = (dg ((xs).getD (xs.length - 1) [])), fun (vQ : Value) (_ : World) => vQ = (dg d), fun (vQ : Value) (_ : World) => vQ = (.int .i64 (i : Int)), fun (vQ : Value) (_ : World) => vQ = (.int .i64 (H n : Int)), fun (vQ : Value) (_ : World) => vQ = (.int .i64 ((i - H n : Nat) : Int)), fun (vQ : Value) (_ : World) => vQ = (.int .i64 (n : Int)), fun (vQ : Value) (_ : World) => vQ = (.int .i64 (H n : Int)), fun (vQ : Value) (_ : World) => vQ = (.int .i64 ((n - H n : Nat) : Int)), fun (vQ : Value) (_ : World) => vQ = (Eng.sCut v 0 (xs.length - 1) 32), fun (vQ : Value) (_ : World) => vQ = (dg (climb d (wayL (i - H n) (n - H n)).reverse (xs.take (xs.length - 1)))), fun (vQ : Value) (_ : World) => vQ = (dg (climb d (wayL i n).reverse xs))] (by kernel_rfl) (by kernel_rfl) (by kernel_rfl) (by kernel_rfl) rfl rfl ?_ ?_ ?_
      · exact ⟨fun _ _ _ h _ => h, fun _ _ _ h _ => h, fun _ _ _ h _ => h, fun _ _ _ h _ => h, fun _ _ _ h _ => h, fun _ _ _ h _ => h, fun _ _ _ h _ => h, fun _ _ _ h _ => h, fun _ _ _ h _ => h, fun _ _ _ h _ => h, fun _ _ _ h _ => h, trivial⟩
      · refine ⟨?_, ?_, ?_, ?_, ?_, ?_, ?_, ?_, ?_, ?_, ?_, trivial⟩
        · intro u' W hbW hkp hdp K hK
          refine Eng.dv rfl rfl ?_ (hK _ _ (Below.refl _ _) rfl)
          exact (Eng.x_ldB (v := (dg ((xs).getD (xs.length - 1) []))) rfl ag45_vf sz45_vf (show Eng.opv 49 u' (.tmp 10) = (.pointer (some ⟨w3.heap.size, 0, none⟩)) from hkp 10 rfl) ((hk14).below hbW) ((bcs_length _).trans (Eng.ds_len hr12 (by omega))) rfl)
        · intro u' W hbW hkp hdp K hK
          refine Eng.dv rfl rfl ?_ (hK _ _ (Below.refl _ _) rfl)
          exact (Eng.x_ldB (v := (dg d)) rfl ag45_vf sz45_vf (show Eng.opv 49 u' (.tmp 4) = (.pointer (some ⟨w.heap.size, 0, none⟩)) from hkp 4 rfl) ((hk28).below hbW) ((bcs_length _).trans hd) rfl)
        · intro u' W hbW hkp hdp K hK
          refine Eng.dv rfl rfl ?_ (hK _ _ (Below.refl _ _) rfl)
          exact (Eng.x_mv (v := (.int .i64 (i : Int))) rfl (show Eng.opv 49 u' (.tmp 1) = (.int .i64 (i : Int)) from hkp 1 rfl))
        · intro u' W hbW hkp hdp K hK
          refine Eng.dv rfl rfl ?_ (hK _ _ (Below.refl _ _) rfl)
          exact (Eng.x_mv (v := (.int .i64 (H n : Int))) rfl (show Eng.opv 49 u' (.tmp 9) = (.int .i64 (H n : Int)) from hkp 9 rfl))
        · intro u' W hbW hkp hdp K hK
          have e2 : (fun (vQ : Value) (_ : World) => vQ = (.int .i64 (i : Int))) (u' 40) W := hdp.1
          have e3 : (fun (vQ : Value) (_ : World) => vQ = (.int .i64 (H n : Int))) (u' 41) W := hdp.2.1
          refine Eng.dv rfl rfl ?_ (hK _ _ (Below.refl _ _) rfl)
          exact (Eng.x_sub rfl (show Eng.opv 49 u' (.tmp 40) = (.int .i64 (i : Int)) from e2) (show Eng.opv 49 u' (.tmp 41) = (.int .i64 (H n : Int)) from e3) (Eng.w64 (r := ((i - H n : Nat) : Int)) (by omega)))
        · intro u' W hbW hkp hdp K hK
          refine Eng.dv rfl rfl ?_ (hK _ _ (Below.refl _ _) rfl)
          exact (Eng.x_mv (v := (.int .i64 (n : Int))) rfl (show Eng.opv 49 u' (.tmp 2) = (.int .i64 (n : Int)) from hkp 2 rfl))
        · intro u' W hbW hkp hdp K hK
          refine Eng.dv rfl rfl ?_ (hK _ _ (Below.refl _ _) rfl)
          exact (Eng.x_mv (v := (.int .i64 (H n : Int))) rfl (show Eng.opv 49 u' (.tmp 9) = (.int .i64 (H n : Int)) from hkp 9 rfl))
        · intro u' W hbW hkp hdp K hK
          have e5 : (fun (vQ : Value) (_ : World) => vQ = (.int .i64 (n : Int))) (u' 43) W := hdp.1
          have e6 : (fun (vQ : Value) (_ : World) => vQ = (.int .i64 (H n : Int))) (u' 44) W := hdp.2.1
          refine Eng.dv rfl rfl ?_ (hK _ _ (Below.refl _ _) rfl)
          exact (Eng.x_sub rfl (show Eng.opv 49 u' (.tmp 43) = (.int .i64 (n : Int)) from e5) (show Eng.opv 49 u' (.tmp 44) = (.int .i64 (H n : Int)) from e6) (Eng.w64 (r := ((n - H n : Nat) : Int)) (by omega)))
        · intro u' W hbW hkp hdp K hK
          refine Eng.dv rfl rfl ?_ (hK _ _ (Below.refl _ _) rfl)
          exact (Eng.x_mv (v := (Eng.sCut v 0 (xs.length - 1) 32)) rfl (show Eng.opv 49 u' (.tmp 11) = (Eng.sCut v 0 (xs.length - 1) 32) from hkp 11 rfl))
        · intro u' W hbW hkp hdp K hK
          have e1 : (fun (vQ : Value) (_ : World) => vQ = (dg d)) (u' 39) W := hdp.1
          have e4 : (fun (vQ : Value) (_ : World) => vQ = (.int .i64 ((i - H n : Nat) : Int))) (u' 42) W := hdp.2.1
          have e7 : (fun (vQ : Value) (_ : World) => vQ = (.int .i64 ((n - H n : Nat) : Int))) (u' 45) W := hdp.2.2.1
          have e8 : (fun (vQ : Value) (_ : World) => vQ = (Eng.sCut v 0 (xs.length - 1) 32)) (u' 46) W := hdp.2.2.2.1
          refine Eng.dc (vs := #[(dg d), (.int .i64 ((i - H n : Nat) : Int)), (.int .i64 ((n - H n : Nat) : Int)), (Eng.sCut v 0 (xs.length - 1) 32)]) rfl ?_ (ih (n - H n) (by omega) (i - H n) d _ (xs.take (xs.length - 1)) _ (by omega) (by omega) hd ((hr29).below hbW) (by rw [List.length_take]; omega)) ?_
          · exact Eng.xc (xs := #[(Go.Operand.tmp 39), (Go.Operand.tmp 42), (Go.Operand.tmp 45), (Go.Operand.tmp 46)]) (vl := [(dg d), (.int .i64 ((i - H n : Nat) : Int)), (.int .i64 ((n - H n : Nat) : Int)), (Eng.sCut v 0 (xs.length - 1) 32)]) rfl rfl (Eng.lc (show Eng.opv 49 u' (.tmp 39) = (dg d) from e1) (Eng.lc (show Eng.opv 49 u' (.tmp 42) = (.int .i64 ((i - H n : Nat) : Int)) from e4) (Eng.lc (show Eng.opv 49 u' (.tmp 45) = (.int .i64 ((n - H n : Nat) : Int)) from e7) (Eng.lc (show Eng.opv 49 u' (.tmp 46) = (Eng.sCut v 0 (xs.length - 1) 32) from e8) rfl)))) en141_vf
          rintro _ W2 ⟨rfl, hb2⟩
          exact Eng.aft_v rfl (hK _ _ hb2 rfl)
        · intro u' W hbW hkp hdp K hK
          have e0 : (fun (vQ : Value) (_ : World) => vQ = (dg ((xs).getD (xs.length - 1) []))) (u' 38) W := hdp.1
          have e9 : (fun (vQ : Value) (_ : World) => vQ = (dg (climb d (wayL (i - H n) (n - H n)).reverse (xs.take (xs.length - 1))))) (u' 47) W := hdp.2.1
          refine Eng.dc (vs := #[(dg ((xs).getD (xs.length - 1) [])), (dg (climb d (wayL (i - H n) (n - H n)).reverse (xs.take (xs.length - 1))))]) rfl ?_ (rnode_eq (up_f h2 hn (by omega) hx) (Eng.ds_len hr12 (by omega)) (climb_len _ _ _ hd) _) ?_
          · exact Eng.xc (xs := #[(Go.Operand.tmp 38), (Go.Operand.tmp 47)]) (vl := [(dg ((xs).getD (xs.length - 1) [])), (dg (climb d (wayL (i - H n) (n - H n)).reverse (xs.take (xs.length - 1))))]) rfl rfl (Eng.lc (show Eng.opv 49 u' (.tmp 38) = (dg ((xs).getD (xs.length - 1) [])) from e0) (Eng.lc (show Eng.opv 49 u' (.tmp 47) = (dg (climb d (wayL (i - H n) (n - H n)).reverse (xs.take (xs.length - 1)))) from e9) rfl)) en125_vf
          rintro _ W2 ⟨rfl, hb2⟩
          exact Eng.aft_v rfl (hK _ _ hb2 rfl)
      · intro ud27 w27 hb27 hkp27 ⟨f27_0, f27_1, f27_2, f27_3, f27_4, f27_5, f27_6, f27_7, f27_8, f27_9, f27_10, _⟩
        obtain rfl := Eng.collect (l := [(38, (dg ((xs).getD (xs.length - 1) []))), (39, (dg d)), (40, (.int .i64 (i : Int))), (41, (.int .i64 (H n : Int))), (42, (.int .i64 ((i - H n : Nat) : Int))), (43, (.int .i64 (n : Int))), (44, (.int .i64 (H n : Int))), (45, (.int .i64 ((n - H n : Nat) : Int))), (46, (Eng.sCut v 0 (xs.length - 1) 32)), (47, (dg (climb d (wayL (i - H n) (n - H n)).reverse (xs.take (xs.length - 1))))), (48, (dg (climb d (wayL i n).reverse xs)))]) hkp27 ⟨f27_0, f27_1, f27_2, f27_3, f27_4, f27_5, f27_6, f27_7, f27_8, f27_9, f27_10, trivial⟩ rfl
        have hk30 := (((hk3).below hb13).grown hg14 (fun e => absurd (Option.some.inj e) (Nat.ne_of_lt (Nat.lt_of_lt_of_le hz3 (Nat.le_trans (Nat.le_refl _) (Nat.le_refl _)))))).below hb27
        refine Eng.stB (v := (dg (climb d (wayL i n).reverse xs))) rfl rfl rfl sz45_vf rfl hk30 rfl rfl (cs' := (bcs (climb d (wayL i n).reverse xs))) rfl ((bcs_length _).trans (climb_len _ _ _ hd)) (bcs_one _) ?_
        intro w31 hk31 hg31
        refine Eng.nil ?_
        refine hK26 _ _ ?_
        refine Eng.rt ?_
        refine Eng.ret (Eng.res1 (v1 := (dg (climb d (wayL i n).reverse xs))) rfl (Eng.rdc rfl (Eng.lvB ag45_vf sz45_vf hk31 ((bcs_length _).trans (climb_len _ _ _ hd)) rfl))) ?_
        have hB0_5 : Below w.heap.size w w27 := (hB0_4).trans (hb27.mono (hB0_4).size)
        have hB0_6 : Below w.heap.size w w31 := (hB0_5).grown hg31 (hB0_5).size (fun k e => by cases e; exact Nat.le_trans (hb2).size (Nat.le_refl _))
        exact ⟨rfl, hB0_6⟩
theorem up_calls (n : Nat) : UpC n := by
  induction n using Nat.strongRecOn with
  | ind n ih => exact fun i d v xs w => up_step n ih i d v xs w
theorem upI {i n : Int} (hr : rightB i n = true) {d : List UInt8} (hd : d.length = 32) {v : Value} {xs : List (List UInt8)} {w : World} (h : Ds w v xs) (hl : lenN i n = xs.length) : Calls Tryd.prog 141 #[dg d, .int .i64 i, .int .i64 n, v] w fun e w' => e = .returned (dg (rootD d i n xs)) ∧ Below w.heap.size w w' := by
  obtain ⟨h1, h2, h3, h4⟩ := rightB_iff.1 hr
  have hE : rootE i n xs.length = 0 := by simp [rootE, hr, hl]
  unfold rootD
  rw [if_pos hE]
  obtain ⟨a, rfl⟩ : ∃ a : Nat, i = (a : Int) := ⟨i.toNat, by omega⟩
  obtain ⟨b, rfl⟩ : ∃ b : Nat, n = (b : Int) := ⟨n.toNat, by omega⟩
  exact up_calls b a d v xs w (by omega) (by omega) hd h hl.symm
set_option maxRecDepth 100000 in
set_option maxHeartbeats 4000000 in
theorem rroot_ok (d : List UInt8) (hd : d.length = 32) (i n : Int) (v : Value) (xs : List (List UInt8)) (w : World) (h : Ds w v xs) (hr : rightB i n = true) : Calls Tryd.prog 76 #[(dg d), (.int .i64 i), (.int .i64 n), v] w (fun e w' => e = .returned (.tuple #[dg (rootD d i n xs), .int .i64 (rootE i n xs.length)]) ∧ Below w.heap.size w w') := by
  have hsm := h.1.small
  refine Eng.enter (l := [(dg d), (.int .i64 i), (.int .i64 n), v]) Tryd.func76 rfl 32 rfl (by simp) ?_
  refine Eng.seqk fun K1 hK1 => ?_
  refine Eng.reg ?_
  refine Eng.bo (v := (dg d)) (cs := (bcs d)) rfl rfl rfl rfl rfl ?_
  intro w2 hk2 hb2 hz2
  refine Eng.al rfl rfl rfl zr45_vf (cs := (bcs Oct.dz)) rfl ?_
  intro w3 hk3 hb3 hz3
  refine Eng.sv rfl rfl (Eng.x_as (v := (.int .i64 0)) rfl rfl) ?_
  refine Eng.nil ?_
  refine hK1 _ _ ?_
  refine Eng.seqk fun K4 hK4 => ?_
  refine Eng.reg ?_
  refine Eng.sv rfl rfl (Eng.x_mv (v := (.int .i64 i)) rfl rfl) ?_
  refine Eng.sv rfl rfl (Eng.x_mv (v := (.int .i64 n)) rfl rfl) ?_
  refine Eng.sc rfl (Eng.xc (vl := [(.int .i64 i), (.int .i64 n)]) rfl rfl rfl en140_vf) (rlen_ok hr _) ?_
  rintro _ _ ⟨rfl, rfl⟩
  refine Eng.aft_v rfl ?_
  refine Eng.sv rfl rfl (Eng.x_mv (v := (.tuple #[(.int .i64 (lenN i n : Int)), (.int .i64 0)])) rfl rfl) ?_
  refine Eng.sv rfl rfl (Eng.x_ext (v := (.int .i64 (lenN i n : Int))) rfl rfl rfl) ?_
  refine Eng.sv rfl rfl (Eng.x_ext (v := (.int .i64 0)) rfl rfl rfl) ?_
  refine Eng.sv rfl rfl (Eng.x_as (v := (.int .i64 (lenN i n : Int))) rfl rfl) ?_
  refine Eng.sv rfl rfl (Eng.x_as (v := (.int .i64 0)) rfl rfl) ?_
  refine Eng.nil ?_
  refine hK4 _ _ ?_
  refine Eng.seqk fun K6 hK6 => ?_
  refine Eng.seqk fun K7 hK7 => ?_
  refine Eng.reg ?_
  refine Eng.sv rfl rfl (Eng.x_mv (v := (.int .i64 0)) rfl rfl) ?_
  refine Eng.sv rfl rfl (Eng.x_ne (r := false) rfl rfl rfl (Eng.ne_f (by omega))) ?_
  refine Eng.nil ?_
  refine hK7 _ _ ?_
  refine Eng.cond_f rfl ?_
  refine Eng.skp ?_
  refine hK6 _ _ ?_
  refine Eng.seqk fun K8 hK8 => ?_
  refine Eng.seqk fun K9 hK9 => ?_
  refine Eng.reg ?_
  refine Eng.sv rfl rfl (Eng.x_mv (v := v) rfl rfl) ?_
  have hB0_2 : Below w.heap.size w w3 := (hb2).trans (hb3.mono (hb2).size)
  have hr10 := (h).below hB0_2
  refine Eng.sv rfl rfl (Eng.x_len (v := v) (r := (xs.length : Int)) rfl Tryd.underlying36 rfl (hr10).1 rfl) ?_
  refine Eng.sv rfl rfl (Eng.x_mv (v := (.int .i64 (lenN i n : Int))) rfl rfl) ?_
  by_cases h25 : ((xs.length : Int) : Int) ≠ (lenN i n : Int)
  · skip
    refine Eng.sv rfl rfl (Eng.x_ne (r := true) rfl rfl rfl (Eng.ne_t (by omega))) ?_
    refine Eng.nil ?_
    refine hK9 _ _ ?_
    refine Eng.cond_t rfl ?_
    refine Eng.seqk fun K11 hK11 => ?_
    refine Eng.reg ?_
    refine Eng.sv rfl rfl (Eng.x_build (ps := []) (v := (dg Oct.dz)) rfl rfl (by kernel_rfl)) ?_
    refine Eng.stB (v := (dg Oct.dz)) rfl rfl rfl sz45_vf rfl hk3 rfl rfl (cs' := (bcs Oct.dz)) rfl rfl (bcs_one _) ?_
    intro w12 hk12 hg12
    refine Eng.sv rfl rfl (Eng.x_as (v := (.int .i64 70)) rfl rfl) ?_
    refine Eng.nil ?_
    refine hK11 _ _ ?_
    refine Eng.rt ?_
    refine Eng.tr ?_
    refine Eng.ret (Eng.res2 (v1 := (dg Oct.dz)) (v2 := (.int .i64 70)) rfl (Eng.rdc rfl (Eng.lvB ag45_vf sz45_vf hk12 rfl rfl)) (Eng.rdt rfl)) ?_
    have hB0_3 : Below w.heap.size w w12 := (hB0_2).grown hg12 (hB0_2).size (fun k e => by cases e; exact Nat.le_trans (hb2).size (Nat.le_refl _))
    have hnl : lenN i n ≠ xs.length := by omega
    exact ⟨by simp [rootD, rootE, hr, hnl], hB0_3⟩
  · skip
    refine Eng.sv rfl rfl (Eng.x_ne (r := false) rfl rfl rfl (Eng.ne_f (by omega))) ?_
    refine Eng.nil ?_
    refine hK9 _ _ ?_
    refine Eng.cond_f rfl ?_
    refine Eng.skp ?_
    refine hK8 _ _ ?_
    refine Eng.seqk fun K13 hK13 => ?_
    refine Eng.reg ?_
    have hk14 := (hk2).below hb3
    refine Eng.sv rfl rfl (Eng.x_ldB (v := (dg d)) rfl ag45_vf sz45_vf rfl hk14 ((bcs_length _).trans hd) rfl) ?_
    refine Eng.sv rfl rfl (Eng.x_mv (v := (.int .i64 i)) rfl rfl) ?_
    refine Eng.sv rfl rfl (Eng.x_mv (v := (.int .i64 n)) rfl rfl) ?_
    refine Eng.sv rfl rfl (Eng.x_mv (v := v) rfl rfl) ?_
    refine Eng.sc rfl (Eng.xc (vl := [(dg d), (.int .i64 i), (.int .i64 n), v]) rfl rfl rfl en141_vf) (upI hr hd hr10 (by omega)) ?_
    rintro _ w15 ⟨rfl, hb15⟩
    refine Eng.aft_v rfl ?_
    have hk16 := (hk3).below hb15
    refine Eng.stB (v := (dg (rootD d i n xs))) rfl rfl rfl sz45_vf rfl hk16 rfl rfl (cs' := (bcs (rootD d i n xs))) rfl ((bcs_length _).trans (rootD_len _ _ _ _ hd)) (bcs_one _) ?_
    intro w17 hk17 hg17
    refine Eng.sv rfl rfl (Eng.x_as (v := (.int .i64 0)) rfl rfl) ?_
    refine Eng.nil ?_
    refine hK13 _ _ ?_
    refine Eng.rt ?_
    refine Eng.ret (Eng.res2 (v1 := (dg (rootD d i n xs))) (v2 := (.int .i64 0)) rfl (Eng.rdc rfl (Eng.lvB ag45_vf sz45_vf hk17 ((bcs_length _).trans (rootD_len _ _ _ _ hd)) rfl)) (Eng.rdt rfl)) ?_
    have hB0_3 : Below w.heap.size w w15 := (hB0_2).trans (hb15.mono (hB0_2).size)
    have hB0_4 : Below w.heap.size w w17 := (hB0_3).grown hg17 (hB0_3).size (fun k e => by cases e; exact Nat.le_trans (hb2).size (Nat.le_refl _))
    have hE : rootE i n xs.length = 0 := by simp [rootE, hr, show lenN i n = xs.length by omega]
    exact ⟨by rw [hE], hB0_4⟩
set_option maxRecDepth 100000 in
set_option maxHeartbeats 4000000 in
theorem rroot_no (d : List UInt8) (hd : d.length = 32) (i n : Int) (v : Value) (xs : List (List UInt8)) (w : World) (h : Ds w v xs) (hr : rightB i n = false) : Calls Tryd.prog 76 #[(dg d), (.int .i64 i), (.int .i64 n), v] w (fun e w' => e = .returned (.tuple #[dg (rootD d i n xs), .int .i64 (rootE i n xs.length)]) ∧ Below w.heap.size w w') := by
  have hsm := h.1.small
  refine Eng.enter (l := [(dg d), (.int .i64 i), (.int .i64 n), v]) Tryd.func76 rfl 32 rfl (by simp) ?_
  refine Eng.seqk fun K1 hK1 => ?_
  refine Eng.reg ?_
  refine Eng.bo (v := (dg d)) (cs := (bcs d)) rfl rfl rfl rfl rfl ?_
  intro w2 hk2 hb2 hz2
  refine Eng.al rfl rfl rfl zr45_vf (cs := (bcs Oct.dz)) rfl ?_
  intro w3 hk3 hb3 hz3
  refine Eng.sv rfl rfl (Eng.x_as (v := (.int .i64 0)) rfl rfl) ?_
  refine Eng.nil ?_
  refine hK1 _ _ ?_
  refine Eng.seqk fun K4 hK4 => ?_
  refine Eng.reg ?_
  refine Eng.sv rfl rfl (Eng.x_mv (v := (.int .i64 i)) rfl rfl) ?_
  refine Eng.sv rfl rfl (Eng.x_mv (v := (.int .i64 n)) rfl rfl) ?_
  refine Eng.sc rfl (Eng.xc (vl := [(.int .i64 i), (.int .i64 n)]) rfl rfl rfl en140_vf) (rlen_no hr _) ?_
  rintro _ _ ⟨rfl, rfl⟩
  refine Eng.aft_v rfl ?_
  refine Eng.sv rfl rfl (Eng.x_mv (v := (.tuple #[(.int .i64 0), (.int .i64 40)])) rfl rfl) ?_
  refine Eng.sv rfl rfl (Eng.x_ext (v := (.int .i64 0)) rfl rfl rfl) ?_
  refine Eng.sv rfl rfl (Eng.x_ext (v := (.int .i64 40)) rfl rfl rfl) ?_
  refine Eng.sv rfl rfl (Eng.x_as (v := (.int .i64 0)) rfl rfl) ?_
  refine Eng.sv rfl rfl (Eng.x_as (v := (.int .i64 40)) rfl rfl) ?_
  refine Eng.nil ?_
  refine hK4 _ _ ?_
  refine Eng.seqk fun K6 hK6 => ?_
  refine Eng.seqk fun K7 hK7 => ?_
  refine Eng.reg ?_
  refine Eng.sv rfl rfl (Eng.x_mv (v := (.int .i64 40)) rfl rfl) ?_
  refine Eng.sv rfl rfl (Eng.x_ne (r := true) rfl rfl rfl (Eng.ne_t (by omega))) ?_
  refine Eng.nil ?_
  refine hK7 _ _ ?_
  refine Eng.cond_t rfl ?_
  refine Eng.seqk fun K8 hK8 => ?_
  refine Eng.reg ?_
  refine Eng.sv rfl rfl (Eng.x_build (ps := []) (v := (dg Oct.dz)) rfl rfl (by kernel_rfl)) ?_
  refine Eng.sv rfl rfl (Eng.x_mv (v := (.int .i64 40)) rfl rfl) ?_
  refine Eng.stB (v := (dg Oct.dz)) rfl rfl rfl sz45_vf rfl hk3 rfl rfl (cs' := (bcs Oct.dz)) rfl rfl (bcs_one _) ?_
  intro w9 hk9 hg9
  refine Eng.sv rfl rfl (Eng.x_as (v := (.int .i64 40)) rfl rfl) ?_
  refine Eng.nil ?_
  refine hK8 _ _ ?_
  refine Eng.rt ?_
  refine Eng.tr ?_
  refine Eng.ret (Eng.res2 (v1 := (dg Oct.dz)) (v2 := (.int .i64 40)) rfl (Eng.rdc rfl (Eng.lvB ag45_vf sz45_vf hk9 rfl rfl)) (Eng.rdt rfl)) ?_
  have hB0_2 : Below w.heap.size w w3 := (hb2).trans (hb3.mono (hb2).size)
  have hB0_3 : Below w.heap.size w w9 := (hB0_2).grown hg9 (hB0_2).size (fun k e => by cases e; exact Nat.le_trans (hb2).size (Nat.le_refl _))
  exact ⟨by simp [rootD, rootE, hr], hB0_3⟩
theorem rroot_calls (d : List UInt8) (hd : d.length = 32) (i n : Int) (v : Value) (xs : List (List UInt8)) (w : World) (h : Ds w v xs) : Calls Tryd.prog 76 #[dg d, .int .i64 i, .int .i64 n, v] w (fun e w' => e = .returned (.tuple #[dg (rootD d i n xs), .int .i64 (rootE i n xs.length)]) ∧ Below w.heap.size w w') := by
  rcases Eng.tf (rightB i n) with hr | hr
  · exact rroot_ok d hd i n v xs w h hr
  · exact rroot_no d hd i n v xs w h hr
end Go.Proofs.YtnecgoahdkfbeaaDoor.Vfy
end

section
namespace Go.Proofs.YtnecgoahdkfbeaaDoor.TreP
open Go Go.RowKit Go.Proofs.YtnecgoahdkfbeaaDoor Go.Proofs.YtnecgoahdkfbeaaDoor.Cop Go.Proofs.YtnecgoahdkfbeaaDoor.Ver Go.Proofs.YtnecgoahdkfbeaaDoor.Tre Go.Proofs.YtnecgoahdkfbeaaDoor.Vfy Go.Proofs.YtnecgoahdkfbeaaDoor.Oct Go.Proofs.YtnecgoahdkfbeaaDoor.Dsl Go.Proofs.YtnecgoahdkfbeaaDoor.Sha
set_option linter.unusedVariables false
set_option linter.unusedSimpArgs false
theorem zr45_rt (w : World) : (zeroValue 45).run Tryd.prog w = .ok (dg Oct.dz) w := by kernel_rfl
theorem en132_rt : Eng.Entr Tryd.prog 132 := ⟨_, Tryd.func132, by kernel_rfl, by kernel_rfl⟩
theorem sz45_rt : (Tryd.prog.info? 45).map (fun i => i.size) = some 32 := by kernel_rfl
theorem ag45_rt (w : World) : (isAgg 45).run Tryd.prog w = .ok true w := by kernel_rfl
theorem en116_rt : Eng.Entr Tryd.prog 116 := ⟨_, Tryd.func116, by kernel_rfl, by kernel_rfl⟩
theorem zr187_rt (w : World) : (zeroValue 187).run Tryd.prog w = .ok (.agg ((.int .i64 0) :: (bcs Oct.dz) : List Value).toArray) w := by kernel_rfl
theorem sz187_rt : (Tryd.prog.info? 187).map (fun i => i.size) = some 33 := by kernel_rfl
theorem ag187_rt (w : World) : (isAgg 187).run Tryd.prog w = .ok true w := by kernel_rfl
theorem inL187_rt : (Tryd.prog.info? 187).map (fun i => (i.zero, i.size, i.bytes)) = some (some (.agg (encP (0, Oct.dz)).toArray), 33, 40) := by kernel_rfl
theorem ag3_rt (w : World) : (isAgg 3).run Tryd.prog w = .ok false w := by kernel_rfl
theorem en117_rt : Eng.Entr Tryd.prog 117 := ⟨_, Tryd.func117, by kernel_rfl, by kernel_rfl⟩
theorem en118_rt : Eng.Entr Tryd.prog 118 := ⟨_, Tryd.func118, by kernel_rfl, by kernel_rfl⟩
theorem en177_rt : Eng.Entr Tryd.prog 177 := ⟨_, Tryd.func177, by kernel_rfl, by kernel_rfl⟩
theorem updZ2 (u : Nat → Value) (p q : Nat) (a b : Value) : Eng.updZ u #[p, q] #[a, b] = Eng.upd (Eng.upd u p a) q b := by simp [Eng.updZ]
theorem own_at {w : World} {base : Nat} {e : TypeId} {sz : Nat} {v : Value} {n : Nat} {xs : List Value} (h : w.ownsRow base e sz v n xs) {g7 z : Nat} (hg : ∀ g, v.ownBlock = some g → g ≠ g7) (hz : z < w.heap.size) (hz7 : z ≠ g7) : ∃ y, y < w.heap.size ∧ (∀ a n c, v = .slice (some a) n c → a.block = y) ∧ y ≠ g7 := by
  rcases h.2 with ⟨rfl, _⟩ | ⟨g, cap, cur, rfl, _, hh, _⟩
  · exact ⟨z, hz, (fun a n c e => by cases e), hz7⟩
  · exact ⟨g, (Array.getElem?_eq_some_iff.1 hh).1, (fun a n c e => by cases e; rfl), hg g rfl⟩
theorem rev_last {q : Nat × List UInt8} {r s : List (Nat × List UInt8)} (h : s = q :: r) : s.reverse.getD (s.reverse.length - 1) dP = q ∧ s.reverse.take (s.reverse.length - 1) = r.reverse := by
  subst h
  rw [List.reverse_cons, List.length_append]
  simp
theorem cons_of {s : List (Nat × List UInt8)} (h : ¬ s.length = 0) : ∃ q r, s = q :: r := by
  cases s with
  | nil => exact absurd rfl h
  | cons q r => exact ⟨q, r, rfl⟩
theorem all32_sub {a b c : List (List UInt8)} (h : All32 c) {k : Nat} (e : a ++ b = c.take k) : All32 b := fun d hd => h d (List.mem_of_mem_take (by rw [← e]; exact List.mem_append_right _ hd))
theorem len_sub {a b c : List (List UInt8)} {k : Nat} (e : a ++ b = c.take k) : a.length + b.length ≤ c.length := by
  have := congrArg List.length e
  rw [List.length_append, List.length_take] at this; omega
set_option maxRecDepth 100000 in
set_option maxHeartbeats 4000000 in
theorem empty_calls (w : World) (hK : Kon w) : Calls Tryd.prog 116 #[] w (fun e w' => e = .returned (dg (sha [])) ∧ Below w.heap.size w w') := by
  refine Eng.enter (l := []) Tryd.func116 rfl 2 rfl (by simp) ?_
  refine Eng.seqk fun K1 hK1 => ?_
  refine Eng.reg ?_
  refine Eng.al rfl rfl rfl zr45_rt (cs := (bcs Oct.dz)) rfl ?_
  intro w2 hk2 hb2 hz2
  refine Eng.nil ?_
  refine hK1 _ _ ?_
  refine Eng.seqk fun K3 hK3 => ?_
  refine Eng.reg ?_
  have hr4 := (hK).below hb2
  refine Eng.sc rfl (Eng.xc (vl := [(.slice none 0 0)]) rfl rfl rfl en132_rt) (hsum_calls (.slice none 0 0) [] _ (Row.nil _) (fun _ _ _ e => by cases e) (by simp) hr4) ?_
  rintro _ w5 ⟨rfl, hb5⟩
  refine Eng.aft_v rfl ?_
  have hk6 := (hk2).below hb5
  refine Eng.stB (v := (dg (sha []))) rfl rfl rfl sz45_rt rfl hk6 rfl rfl (cs' := (bcs (sha []))) rfl ((bcs_length _).trans (sha_len _)) (bcs_one _) ?_
  intro w7 hk7 hg7
  refine Eng.nil ?_
  refine hK3 _ _ ?_
  refine Eng.rt ?_
  refine Eng.ret (Eng.res1 (v1 := (dg (sha []))) rfl (Eng.rdc rfl (Eng.lvB ag45_rt sz45_rt hk7 ((bcs_length _).trans (sha_len _)) rfl))) ?_
  have hB0_2 : Below w.heap.size w w5 := (hb2).trans (hb5.mono (hb2).size)
  have hB0_3 : Below w.heap.size w w7 := (hB0_2).grown hg7 (hB0_2).size (fun k e => by cases e; exact Nat.le_trans (Nat.le_refl _) (Nat.le_refl _))
  exact ⟨rfl, hB0_3⟩
set_option maxRecDepth 100000 in
set_option maxHeartbeats 4000000 in
theorem troot_calls (v : Value) (ds : List (List UInt8)) (w : World) (h : Ds w v ds) (hm : ds.length ≤ 281474976710656) (hK : Kon w) : Calls Tryd.prog 58 #[v] w (fun e w' => e = .returned (dg (rootS ds)) ∧ Below w.heap.size w w') := by
  have hsm := h.1.small
  refine Eng.enterM (l := [v]) Tryd.func58 rfl 81 rfl (by simp) ?_
  refine Eng.seqk fun K1 hK1 => ?_
  refine Eng.reg ?_
  refine Eng.al rfl rfl rfl zr45_rt (cs := (bcs Oct.dz)) rfl ?_
  intro w2 hk2 hb2 hz2
  refine Eng.nil ?_
  refine hK1 _ _ ?_
  refine Eng.seqk fun K3 hK3 => ?_
  refine Eng.seqk fun K4 hK4 => ?_
  refine Eng.reg ?_
  refine Eng.sv rfl rfl (Eng.x_mv (v := v) rfl rfl) ?_
  have hr5 := (h).below hb2
  refine Eng.sv rfl rfl (Eng.x_len (v := v) (r := (ds.length : Int)) rfl Tryd.underlying36 rfl (hr5).1 rfl) ?_
  by_cases h12 : ((ds.length : Int) : Int) = 0
  · skip
    refine Eng.sv rfl rfl (Eng.x_eq (r := true) rfl rfl rfl (Eng.eq_t (by omega))) ?_
    refine Eng.nil ?_
    refine hK4 _ _ ?_
    refine Eng.cond_t rfl ?_
    refine Eng.seqk fun K6 hK6 => ?_
    refine Eng.reg ?_
    have hr7 := (hK).below hb2
    refine Eng.sc rfl (Eng.xc (vl := []) rfl rfl rfl en116_rt) (empty_calls _ hr7) ?_
    rintro _ w8 ⟨rfl, hb8⟩
    refine Eng.aft_v rfl ?_
    have hk9 := (hk2).below hb8
    refine Eng.stB (v := (dg (sha []))) rfl rfl rfl sz45_rt rfl hk9 rfl rfl (cs' := (bcs (sha []))) rfl ((bcs_length _).trans (sha_len _)) (bcs_one _) ?_
    intro w10 hk10 hg10
    refine Eng.nil ?_
    refine hK6 _ _ ?_
    refine Eng.rt ?_
    refine Eng.tr ?_
    refine Eng.retM (Eng.res1 (v1 := (dg (sha []))) rfl (Eng.rdc rfl (Eng.lvB ag45_rt sz45_rt hk10 ((bcs_length _).trans (sha_len _)) rfl))) ?_
    have hB0_2 : Below w.heap.size w w8 := (hb2).trans (hb8.mono (hb2).size)
    have hB0_3 : Below w.heap.size w w10 := (hB0_2).grown hg10 (hB0_2).size (fun k e => by cases e; exact Nat.le_trans (Nat.le_refl _) (Nat.le_refl _))
    exact ⟨by unfold rootS; rw [if_pos (by omega)], hB0_3⟩
  · skip
    have hR32 : (R ds).length = 32 := R_len ds h.2 (by omega)
    refine Eng.sv rfl rfl (Eng.x_eq (r := false) rfl rfl rfl (Eng.eq_f (by omega))) ?_
    refine Eng.nil ?_
    refine hK4 _ _ ?_
    refine Eng.cond_f rfl ?_
    refine Eng.skp ?_
    refine hK3 _ _ ?_
    refine Eng.seqk fun K11 hK11 => ?_
    refine Eng.reg ?_
    refine Eng.sv rfl rfl (Eng.x_as (v := (.slice none 0 0)) rfl rfl) ?_
    refine Eng.nil ?_
    refine hK11 _ _ ?_
    refine Eng.seqk fun K12 hK12 => ?_
    refine Eng.seqk fun K13 hK13 => ?_
    refine Eng.reg ?_
    refine Eng.sv rfl rfl (Eng.x_mv (v := v) rfl rfl) ?_
    refine Eng.sv rfl rfl (Eng.x_len (v := v) (r := (ds.length : Int)) rfl Tryd.underlying36 rfl (hr5).1 rfl) ?_
    refine Eng.sv rfl rfl (Eng.x_mv (v := (.int .i64 0)) rfl rfl) ?_
    refine Eng.nil ?_
    refine hK13 _ _ ?_
    refine Eng.blk ?_
    refine Eng.loopN (fun zz u w' => ∃ (k : Nat), ∃ (s : List (Nat × List UInt8)), ∃ (vp : Value), zz = ds.length - k ∧ k ≤ ds.length ∧ PK s (ds.take k) 0 ∧ Eng.Has u [(2, (.pointer (some ⟨w.heap.size, 0, none⟩))), (3, vp), (14, v), (15, (.int .i64 (ds.length : Int))), (16, (.int .i64 (k : Int)))] ∧ Below w.heap.size w w' ∧ w2.heap.size ≤ w'.heap.size ∧ Blk w' w.heap.size 45 (bcs Oct.dz) ∧ Eng.OwnL 187 33 encP w2.heap.size w' vp s.reverse) _ ⟨0, [], (.slice none 0 0), rfl, Nat.zero_le _, rfl, ⟨rfl, rfl, rfl, rfl, (Eng.ie (by first | omega | rfl)), trivial⟩, hb2, (Nat.le_refl _), hk2, (Eng.OwnL.nil _ _ _ _ _)⟩ ?_
    rintro _ u14 w14 ⟨k, s, vp, rfl, hs14_0, hs14_1, hH14, hBL14, hzL14, hkL14_0, hrL14_0⟩ K14 hK14
    obtain ⟨u14, rfl⟩ := hH14.ex
    have hk_ : k ≤ ds.length := hs14_0
    have hs_ : PK s (ds.take k) 0 := hs14_1
    refine Eng.seqk fun K15 hK15 => ?_
    refine Eng.reg ?_
    by_cases h17 : ((k : Int) : Int) < (ds.length : Int)
    · skip
      refine Eng.sv rfl rfl (Eng.x_lt (r := true) rfl rfl rfl (decide_eq_true (by omega))) ?_
      refine Eng.nil ?_
      refine hK15 _ _ ?_
      refine Eng.seqk fun K16 hK16 => ?_
      refine Eng.cond_t rfl ?_
      refine Eng.skp ?_
      refine hK16 _ _ ?_
      refine Eng.seqk fun K17 hK17 => ?_
      refine Eng.blk ?_
      refine Eng.seqk fun K18 hK18 => ?_
      refine Eng.reg ?_
      have hr19 := (h).below hBL14
      refine Eng.sv rfl rfl (Eng.x_ia (v := v) (j := k) rfl Tryd.underlying36 sz45_rt (by decide) rfl rfl (hr19).1 (Dsl.dcs_len _ (hr19).2) (by omega) (by omega)) ?_
      refine Eng.sv rfl rfl (Eng.x_ldA (v := (dg ((ds).getD k []))) rfl ag45_rt sz45_rt rfl ((bcs_length _).trans (Eng.ds_len hr19 (by omega))) (Eng.ds_at hr19 (by omega)) rfl) ?_
      refine Eng.al rfl rfl rfl zr45_rt (cs := (bcs Oct.dz)) rfl ?_
      intro w20 hk20 hb20 hz20
      refine Eng.stB (v := (dg ((ds).getD k []))) rfl rfl rfl sz45_rt rfl hk20 rfl rfl (cs' := (bcs ((ds).getD k []))) rfl ((bcs_length _).trans (Eng.ds_len hr19 (by omega))) (bcs_one _) ?_
      intro w21 hk21 hg21
      refine Eng.nil ?_
      refine hK18 _ _ ?_
      refine Eng.seqk fun K22 hK22 => ?_
      refine Eng.reg ?_
      refine Eng.sv rfl rfl (Eng.x_ldB (v := (dg ((ds).getD k []))) rfl ag45_rt sz45_rt rfl hk21 ((bcs_length _).trans (Eng.ds_len hr19 (by omega))) rfl) ?_
      refine Eng.sv rfl rfl (Eng.x_build (ps := [(0, (.int .i64 1)), (1, (dg ((ds).getD k [])))]) (v := (.agg ((.int .i64 1) :: (bcs ((ds).getD k [])) : List Value).toArray)) rfl rfl (bldP 1 ((ds).getD k []) (Eng.ds_len hr19 (by omega)) _)) ?_
      refine Eng.al rfl rfl rfl zr187_rt (cs := ((.int .i64 0) :: (bcs Oct.dz))) rfl ?_
      intro w23 hk23 hb23 hz23
      refine Eng.stB (v := (.agg ((.int .i64 1) :: (bcs ((ds).getD k [])) : List Value).toArray)) rfl rfl rfl sz187_rt rfl hk23 (Eng.len_cons (.int .i64 0) (Eng.len_dg Oct.dz_length)) rfl (cs' := ((.int .i64 1) :: (bcs ((ds).getD k [])))) rfl (Eng.len_cons (.int .i64 1) (Eng.len_dg (Eng.ds_len hr19 (by omega)))) (Eng.one_cons rfl (bcs_one _)) ?_
      intro w24 hk24 hg24
      refine Eng.nil ?_
      refine hK22 _ _ ?_
      refine Eng.seqk fun K25 hK25 => ?_
      refine Eng.blk ?_
      have hx32 : (ds.getD k []).length = 32 := by rw [List.getD_eq_getElem?_getD, List.getElem?_eq_getElem (by omega)]; exact h.2 _ (List.getElem_mem _)
      have q26 : Blk w24 w21.heap.size 187 (.int .i64 ((2 ^ 0 : Nat) : Int) :: bcs (R [ds.getD k []])) := by rw [R_one [ds.getD k []] (by simp)]; exact hk24
      have hcat : ds.take k ++ [ds.getD k []] = ds.take (k + 1) := by rw [take_snoc ds k (by omega), List.getD_eq_getElem?_getD, List.getElem?_eq_getElem (by omega)]; rfl
      have hB2_4 : Below w14.heap.size w14 w21 := (hb20).grown hg21 (hb20).size (fun k e => by cases e; exact Nat.le_trans (Nat.le_refl _) (Nat.le_refl _))
      have hr27 := ((((hrL14_0).below hb20).kept hg21 (.inr (fun e => absurd ((World.ownsRow.lt (hrL14_0).1) _ e).2 (Nat.not_lt_of_le (Nat.le_trans (Nat.le_refl _) (Nat.le_refl _)))))).below hb23).kept hg24 (.inr (fun e => absurd ((World.ownsRow.lt (hrL14_0).1) _ e).2 (Nat.not_lt_of_le (Nat.le_trans (hB2_4).size (Nat.le_refl _)))))
      have hk29 := ((((hkL14_0).below hb20).grown hg21 (fun e => absurd (Option.some.inj e) (Nat.ne_of_lt (Nat.lt_of_lt_of_le hz2 (Nat.le_trans hzL14 (Nat.le_refl _)))))).below hb23).grown hg24 (fun e => absurd (Option.some.inj e) (Nat.ne_of_lt (Nat.lt_of_lt_of_le hz2 (Nat.le_trans (Nat.le_trans (Nat.le_trans hzL14 (hb20).size) (hg21).size) (Nat.le_refl _)))))
      have hB0_3 : Below w.heap.size w w20 := (hBL14).trans (hb20.mono (hBL14).size)
      have hB0_4 : Below w.heap.size w w21 := (hB0_3).grown hg21 (hB0_3).size (fun k e => by cases e; exact Nat.le_trans (hBL14).size (Nat.le_refl _))
      have hB0_5 : Below w.heap.size w w23 := (hB0_4).trans (hb23.mono (hB0_4).size)
      have hB0_6 : Below w.heap.size w w24 := (hB0_5).grown hg24 (hB0_5).size (fun k e => by cases e; exact Nat.le_trans (hB0_4).size (Nat.le_refl _))
      refine Eng.loopN (fun zz u w' => ∃ (j : Nat), ∃ (s1 : List (Nat × List UInt8)), ∃ (a1 : List (List UInt8)), ∃ (b1 : List (List UInt8)), ∃ (vi : Value), zz = s1.length ∧ PK s1 a1 j ∧ b1.length = 2 ^ j ∧ a1 ++ b1 = ds.take (k + 1) ∧ Eng.Has u [(2, (.pointer (some ⟨w.heap.size, 0, none⟩))), (3, vi), (6, (.pointer (some ⟨w21.heap.size, 0, none⟩))), (14, v), (15, (.int .i64 (ds.length : Int))), (16, (.int .i64 (k : Int)))] ∧ Below w.heap.size w w' ∧ w24.heap.size ≤ w'.heap.size ∧ Blk w' w.heap.size 45 (bcs Oct.dz) ∧ Blk w' w21.heap.size 187 ((.int .i64 ((2 ^ j : Nat) : Int)) :: (bcs (R b1))) ∧ Eng.OwnL 187 33 encP w2.heap.size w' vi s1.reverse ∧ (∀ g_, vi.ownBlock = some g_ → g_ < w21.heap.size)) _ ⟨0, s, ds.take k, [ds.getD k []], vp, rfl, hs_, rfl, hcat, ⟨rfl, rfl, rfl, rfl, rfl, rfl, trivial⟩, hB0_6, (Nat.le_refl _), hk29, q26, hr27, (fun g_ e_ => Nat.lt_of_lt_of_le ((World.ownsRow.lt (hrL14_0).1) g_ e_).2 (hB2_4).size)⟩ ?_
      rintro _ u28 w28 ⟨j, s1, a1, b1, vi, rfl, hs28_0, hs28_1, hs28_2, hH28, hBL28, hzL28, hkL28_0, hkL28_1, hrL28_0, hvlt⟩ K28 hK28
      obtain ⟨u28, rfl⟩ := hH28.ex
      have hPK : PK s1 a1 j := hs28_0
      have hbl : b1.length = 2 ^ j := hs28_1
      have hab : a1 ++ b1 = ds.take (k + 1) := hs28_2
      have hj0 : 0 < 2 ^ j := Nat.pos_of_ne_zero (by simp)
      have hRb : (R b1).length = 32 := R_len b1 (all32_sub h.2 hab) (by omega)
      have hlen := len_sub hab
      have hsh : s1.length ≤ 50 := PK.short hPK (by omega)
      have hlr : s1.reverse.length = s1.length := List.length_reverse
      have hP : ∀ p ∈ s1.reverse, p.2.length = 32 := fun p hp => PK.mem32 hPK (fun d hd => h.2 d (List.mem_of_mem_take (by rw [← hab]; exact List.mem_append_left _ hd))) p (List.mem_reverse.1 hp)
      have hltV : ∀ g_, vi.ownBlock = some g_ → w2.heap.size ≤ g_ ∧ g_ < w21.heap.size := fun g_ e_ => ⟨((World.ownsRow.lt (hrL28_0).1) g_ e_).1, hvlt g_ e_⟩
      refine Eng.seqk fun K30 hK30 => ?_
      refine Eng.seqk fun K31 hK31 => ?_
      by_cases hz : s1.length = 0
      · skip
        have hst : s1 = [] ∨ ∃ q r, s1 = q :: r ∧ q.1 ≠ 2 ^ j := .inl (List.eq_nil_of_length_eq_zero hz)
        refine Eng.draw 15 [fun (vQ : Value) (_ : World) => vQ = vi, fun (vQ : Value) (_ : World) => vQ = (.int .i64 (s1.reverse.length : Int)), fun (vQ : Value) (_ : World) => vQ = (.bool false), fun (vQ : Value) (_ : World) => vQ = (.bool false), fun (vQ : Value) (_ : World) => vQ = undef, fun (vQ : Value) (_ : World) => vQ = undef, fun (vQ : Value) (_ : World) => vQ = undef, fun (vQ : Value) (_ : World) => vQ = undef, fun (vQ : Value) (_ : World) => vQ = undef, fun (vQ : Value) (_ : World) => vQ = undef, fun (vQ : Value) (_ : World) => vQ = undef, fun (vQ : Value) (_ : World) => vQ = undef, fun (vQ : Value) (_ : World) => vQ = undef, fun (vQ : Value) (_ : World) => vQ = undef, fun (vQ : Value) (_ : World) => vQ = (.bool false)] (by kernel_rfl) (by kernel_rfl) (by kernel_rfl) (by kernel_rfl) rfl rfl ?_ ?_ ?_
        · exact ⟨fun _ _ _ h _ => h, fun _ _ _ h _ => h, fun _ _ _ h _ => h, fun _ _ _ h _ => h, fun _ _ _ h _ => h, fun _ _ _ h _ => h, fun _ _ _ h _ => h, fun _ _ _ h _ => h, fun _ _ _ h _ => h, fun _ _ _ h _ => h, fun _ _ _ h _ => h, fun _ _ _ h _ => h, fun _ _ _ h _ => h, fun _ _ _ h _ => h, fun _ _ _ h _ => h, trivial⟩
        · refine ⟨?_, ?_, ?_, ?_, ?_, ?_, ?_, ?_, ?_, ?_, ?_, ?_, ?_, ?_, ?_, trivial⟩
          · intro u' W hbW hkp hdp K hK
            refine Eng.dv rfl rfl ?_ (hK _ _ (Below.refl _ _) rfl)
            exact (Eng.x_mv (v := vi) rfl (show Eng.opv 81 u' (.tmp 3) = vi from hkp 3 rfl))
          · intro u' W hbW hkp hdp K hK
            have e0 : (fun (vQ : Value) (_ : World) => vQ = vi) (u' 22) W := hdp.1
            refine Eng.dv rfl rfl ?_ (hK _ _ (Below.refl _ _) rfl)
            exact (Eng.x_len (v := vi) (r := (s1.reverse.length : Int)) rfl Tryd.underlying185 (show Eng.opv 81 u' (.tmp 22) = vi from e0) (((hrL28_0).below hbW)).row rfl)
          · intro u' W hbW hkp hdp K hK
            have e1 : (fun (vQ : Value) (_ : World) => vQ = (.int .i64 (s1.reverse.length : Int))) (u' 23) W := hdp.1
            refine Eng.dv rfl rfl ?_ (hK _ _ (Below.refl _ _) rfl)
            exact (Eng.x_gt (r := false) rfl (show Eng.opv 81 u' (.tmp 23) = (.int .i64 (s1.reverse.length : Int)) from e1) rfl (decide_eq_false (by omega)))
          · intro u' W hbW hkp hdp K hK
            have e2 : (fun (vQ : Value) (_ : World) => vQ = (.bool false)) (u' 24) W := hdp.1
            refine Eng.dv rfl rfl ?_ (hK _ _ (Below.refl _ _) rfl)
            exact (Eng.x_mv (v := (.bool false)) rfl (show Eng.opv 81 u' (.tmp 24) = (.bool false) from e2))
          · intro u' W hbW hkp hdp K hK
            have e3 : (fun (vQ : Value) (_ : World) => vQ = (.bool false)) (u' 25) W := hdp.1
            exact Eng.dg0 (Eng.gf rfl rfl rfl (show Eng.opv 81 u' (.tmp 25) = (.bool false) from e3)) rfl (hK _ _ (Below.refl _ _) rfl)
          · intro u' W hbW hkp hdp K hK
            have e3 : (fun (vQ : Value) (_ : World) => vQ = (.bool false)) (u' 25) W := hdp.1
            exact Eng.dg0 (Eng.gf rfl rfl rfl (show Eng.opv 81 u' (.tmp 25) = (.bool false) from e3)) rfl (hK _ _ (Below.refl _ _) rfl)
          · intro u' W hbW hkp hdp K hK
            have e3 : (fun (vQ : Value) (_ : World) => vQ = (.bool false)) (u' 25) W := hdp.2.1
            exact Eng.dg0 (Eng.gf rfl rfl rfl (show Eng.opv 81 u' (.tmp 25) = (.bool false) from e3)) rfl (hK _ _ (Below.refl _ _) rfl)
          · intro u' W hbW hkp hdp K hK
            have e3 : (fun (vQ : Value) (_ : World) => vQ = (.bool false)) (u' 25) W := hdp.2.1
            exact Eng.dg0 (Eng.gf rfl rfl rfl (show Eng.opv 81 u' (.tmp 25) = (.bool false) from e3)) rfl (hK _ _ (Below.refl _ _) rfl)
          · intro u' W hbW hkp hdp K hK
            have e3 : (fun (vQ : Value) (_ : World) => vQ = (.bool false)) (u' 25) W := hdp.2.2.1
            exact Eng.dg0 (Eng.gf rfl rfl rfl (show Eng.opv 81 u' (.tmp 25) = (.bool false) from e3)) rfl (hK _ _ (Below.refl _ _) rfl)
          · intro u' W hbW hkp hdp K hK
            have e3 : (fun (vQ : Value) (_ : World) => vQ = (.bool false)) (u' 25) W := hdp.2.1
            exact Eng.dg0 (Eng.gf rfl rfl rfl (show Eng.opv 81 u' (.tmp 25) = (.bool false) from e3)) rfl (hK _ _ (Below.refl _ _) rfl)
          · intro u' W hbW hkp hdp K hK
            have e3 : (fun (vQ : Value) (_ : World) => vQ = (.bool false)) (u' 25) W := hdp.2.1
            exact Eng.dg0 (Eng.gf rfl rfl rfl (show Eng.opv 81 u' (.tmp 25) = (.bool false) from e3)) rfl (hK _ _ (Below.refl _ _) rfl)
          · intro u' W hbW hkp hdp K hK
            have e3 : (fun (vQ : Value) (_ : World) => vQ = (.bool false)) (u' 25) W := hdp.1
            exact Eng.dg0 (Eng.gf rfl rfl rfl (show Eng.opv 81 u' (.tmp 25) = (.bool false) from e3)) rfl (hK _ _ (Below.refl _ _) rfl)
          · intro u' W hbW hkp hdp K hK
            have e3 : (fun (vQ : Value) (_ : World) => vQ = (.bool false)) (u' 25) W := hdp.2.1
            exact Eng.dg0 (Eng.gf rfl rfl rfl (show Eng.opv 81 u' (.tmp 25) = (.bool false) from e3)) rfl (hK _ _ (Below.refl _ _) rfl)
          · intro u' W hbW hkp hdp K hK
            have e3 : (fun (vQ : Value) (_ : World) => vQ = (.bool false)) (u' 25) W := hdp.2.2.1
            exact Eng.dg0 (Eng.gf rfl rfl rfl (show Eng.opv 81 u' (.tmp 25) = (.bool false) from e3)) rfl (hK _ _ (Below.refl _ _) rfl)
          · intro u' W hbW hkp hdp K hK
            have e3 : (fun (vQ : Value) (_ : World) => vQ = (.bool false)) (u' 25) W := hdp.1
            have e13 : (fun (vQ : Value) (_ : World) => vQ = undef) (u' 35) W := hdp.2.1
            refine Eng.dv rfl rfl ?_ (hK _ _ (Below.refl _ _) rfl)
            exact (Eng.x_pick (v := (.bool false)) rfl (show Eng.opv 81 u' (.tmp 25) = (.bool false) from e3) (show Eng.opv 81 u' (.tmp 35) = undef from e13) rfl rfl)
        · intro ud32 w32 hb32 hkp32 ⟨f32_0, f32_1, f32_2, f32_3, f32_4, f32_5, f32_6, f32_7, f32_8, f32_9, f32_10, f32_11, f32_12, f32_13, f32_14, _⟩
          obtain rfl := Eng.collect (l := [(22, vi), (23, (.int .i64 (s1.reverse.length : Int))), (24, (.bool false)), (25, (.bool false)), (26, undef), (27, undef), (28, undef), (29, undef), (30, undef), (31, undef), (32, undef), (33, undef), (34, undef), (35, undef), (36, (.bool false))]) hkp32 ⟨f32_0, f32_1, f32_2, f32_3, f32_4, f32_5, f32_6, f32_7, f32_8, f32_9, f32_10, f32_11, f32_12, f32_13, f32_14, trivial⟩ rfl
          refine Eng.nil ?_
          refine hK31 _ _ ?_
          refine Eng.cond_f rfl ?_
          refine Eng.xt ?_
          refine Eng.te ?_
          refine Eng.te ?_
          refine Eng.be ?_
          refine hK25 _ _ ?_
          refine Eng.reg ?_
          refine Eng.sv rfl rfl (Eng.x_mv (v := vi) rfl rfl) ?_
          have hk33 := (hkL28_1).below hb32
          refine Eng.sv rfl rfl (Eng.x_ldB (v := (.agg ((.int .i64 ((2 ^ j : Nat) : Int)) :: (bcs (R b1)) : List Value).toArray)) rfl ag187_rt sz187_rt rfl hk33 (Eng.len_cons (.int .i64 ((2 ^ j : Nat) : Int)) (Eng.len_dg hRb)) rfl) ?_
          refine Eng.bs (vs := [(.agg ((.int .i64 ((2 ^ j : Nat) : Int)) :: (bcs (R b1)) : List Value).toArray)]) (cs := ((.int .i64 ((2 ^ j : Nat) : Int)) :: (bcs (R b1)))) rfl rfl rfl Tryd.underlying185 inL187_rt zP (by decide) rfl rfl (by decide) (by decide) (Eng.all_cons (p := fun v => v.cells.size = 33) (by simpa [Value.cells] using ((Eng.len_cons (.int .i64 ((2 ^ j : Nat) : Int)) (Eng.len_dg hRb)) : (((.int .i64 ((2 ^ j : Nat) : Int)) :: (bcs (R b1))) : List Value).length = 33)) Eng.all_nil) (by simp [Value.cells]) ?_
          intro w34 hk34 hb34 hz34
          have hr36 := ((hrL28_0).below hb32).below hb34
          refine Eng.apL (enc := encP) rfl rfl rfl Tryd.underlying185 inL187_rt zP (by decide) rfl hr36 rfl (Eng.rl_one (enc := encP) (sz := 33) (a := (2 ^ j, R b1)) hk34 (Eng.len_cons (.int .i64 ((2 ^ j : Nat) : Int)) (Eng.len_dg hRb))) (fun a _ c hc => one_part a c hc) (by simp only [List.length_cons, List.length_nil]; unfold maxLen; omega) (by simp only [List.length_cons, List.length_nil]; omega) (Nat.le_trans (Nat.le_trans (Nat.le_trans (Nat.le_trans (Nat.le_trans (Nat.le_trans (Nat.le_trans hzL14 (hb20).size) (hg21).size) (hb23).size) (hg24).size) hzL28) (hb32).size) (hb34).size) ?_
          intro v35 w35 ho35 hg35
          rw [← List.reverse_cons] at ho35
          refine Eng.sv rfl rfl (Eng.x_as (v := v35) rfl rfl) ?_
          refine Eng.nil ?_
          refine Eng.nb ?_
          refine hK17 _ _ ?_
          refine Eng.reg ?_
          refine Eng.sv rfl rfl (Eng.x_add rfl rfl rfl (Eng.w64 (r := ((k : Int) + 1)) (by omega))) ?_
          refine Eng.sv rfl rfl (Eng.x_mv (v := (.int .i64 ((k : Int) + 1))) rfl rfl) ?_
          refine Eng.nil ?_
          have hB0_8 : Below w.heap.size w w32 := (hBL28).trans (hb32.mono (hBL28).size)
          have hB0_9 : Below w.heap.size w w34 := (hB0_8).trans (hb34.mono (hB0_8).size)
          have hB0_10 : Below w.heap.size w w35 := (hB0_9).grown hg35 (hB0_9).size (fun k e => Nat.le_trans (hb2).size (hltV _ e).1)
          have hk37 := (((hkL28_0).below hb32).below hb34).grown hg35 (fun e => absurd (hltV _ e.symm).1 (Nat.not_le_of_lt (Nat.lt_of_lt_of_le hz2 (Nat.le_refl _))))
          exact hK14 _ _ _ ⟨k + 1, ((2 ^ j, R b1) :: s1), v35, rfl, by omega, (by rw [← hab]; exact PK.stay hPK hst hbl), ⟨rfl, rfl, rfl, rfl, (Eng.ie (by first | omega | rfl)), trivial⟩, hB0_10, (Nat.le_trans (Nat.le_trans (Nat.le_trans (Nat.le_trans (Nat.le_trans (Nat.le_trans (Nat.le_trans (Nat.le_trans hzL14 (hb20).size) (hg21).size) (hb23).size) (hg24).size) hzL28) (hb32).size) (hb34).size) (hg35).size), hk37, ho35⟩ (by omega)
      · skip
        obtain ⟨q, r, hqr⟩ := cons_of hz
        have hql := (rev_last hqr).1
        have hcut := (rev_last hqr).2
        by_cases hq : q.1 = 2 ^ j
        · skip
          obtain ⟨a2, b2, m1, m2, m3, m4⟩ := PK.merge (hqr ▸ hPK) hq hbl (by rw [List.length_append]; omega)
          have hlen2 := len_sub (m3.trans hab)
          have hRb2 : (R b2).length = 32 := R_len b2 (all32_sub h.2 (m3.trans hab)) (by rw [m2]; exact Nat.pos_of_ne_zero (by simp))
          have hp2 := Nat.pow_succ 2 j
          refine Eng.draw 15 [fun (vQ : Value) (_ : World) => vQ = vi, fun (vQ : Value) (_ : World) => vQ = (.int .i64 (s1.reverse.length : Int)), fun (vQ : Value) (_ : World) => vQ = (.bool true), fun (vQ : Value) (_ : World) => vQ = (.bool true), fun (vQ : Value) (_ : World) => vQ = vi, fun (vQ : Value) (_ : World) => vQ = vi, fun (vQ : Value) (_ : World) => vQ = (.int .i64 (s1.reverse.length : Int)), fun (vQ : Value) (_ : World) => vQ = (.int .i64 ((s1.reverse.length - 1 : Nat) : Int)), fun (vQ : Value) (_ : World) => vQ = (.pointer (some ((Eng.sAddr vi).add ((s1.reverse.length - 1) * 33)))), fun (vQ : Value) (_ : World) => vQ = (.pointer (some (((Eng.sAddr vi).add ((s1.reverse.length - 1) * 33)).add 0))), fun (vQ : Value) (_ : World) => vQ = (.int .i64 (((s1.reverse).getD (s1.reverse.length - 1) dP).1 : Int)), fun (vQ : Value) (_ : World) => vQ = (.pointer (some ⟨w21.heap.size, 0, none⟩)), fun (vQ : Value) (_ : World) => vQ = (.int .i64 ((2 ^ j : Nat) : Int)), fun (vQ : Value) (_ : World) => vQ = (.bool true), fun (vQ : Value) (_ : World) => vQ = (.bool true)] (by kernel_rfl) (by kernel_rfl) (by kernel_rfl) (by kernel_rfl) rfl rfl ?_ ?_ ?_
          · exact ⟨fun _ _ _ h _ => h, fun _ _ _ h _ => h, fun _ _ _ h _ => h, fun _ _ _ h _ => h, fun _ _ _ h _ => h, fun _ _ _ h _ => h, fun _ _ _ h _ => h, fun _ _ _ h _ => h, fun _ _ _ h _ => h, fun _ _ _ h _ => h, fun _ _ _ h _ => h, fun _ _ _ h _ => h, fun _ _ _ h _ => h, fun _ _ _ h _ => h, fun _ _ _ h _ => h, trivial⟩
          · refine ⟨?_, ?_, ?_, ?_, ?_, ?_, ?_, ?_, ?_, ?_, ?_, ?_, ?_, ?_, ?_, trivial⟩
            · intro u' W hbW hkp hdp K hK
              refine Eng.dv rfl rfl ?_ (hK _ _ (Below.refl _ _) rfl)
              exact (Eng.x_mv (v := vi) rfl (show Eng.opv 81 u' (.tmp 3) = vi from hkp 3 rfl))
            · intro u' W hbW hkp hdp K hK
              have e0 : (fun (vQ : Value) (_ : World) => vQ = vi) (u' 22) W := hdp.1
              refine Eng.dv rfl rfl ?_ (hK _ _ (Below.refl _ _) rfl)
              exact (Eng.x_len (v := vi) (r := (s1.reverse.length : Int)) rfl Tryd.underlying185 (show Eng.opv 81 u' (.tmp 22) = vi from e0) (((hrL28_0).below hbW)).row rfl)
            · intro u' W hbW hkp hdp K hK
              have e1 : (fun (vQ : Value) (_ : World) => vQ = (.int .i64 (s1.reverse.length : Int))) (u' 23) W := hdp.1
              refine Eng.dv rfl rfl ?_ (hK _ _ (Below.refl _ _) rfl)
              exact (Eng.x_gt (r := true) rfl (show Eng.opv 81 u' (.tmp 23) = (.int .i64 (s1.reverse.length : Int)) from e1) rfl (decide_eq_true (by omega)))
            · intro u' W hbW hkp hdp K hK
              have e2 : (fun (vQ : Value) (_ : World) => vQ = (.bool true)) (u' 24) W := hdp.1
              refine Eng.dv rfl rfl ?_ (hK _ _ (Below.refl _ _) rfl)
              exact (Eng.x_mv (v := (.bool true)) rfl (show Eng.opv 81 u' (.tmp 24) = (.bool true) from e2))
            · intro u' W hbW hkp hdp K hK
              have e3 : (fun (vQ : Value) (_ : World) => vQ = (.bool true)) (u' 25) W := hdp.1
              refine Eng.dv (Eng.gt rfl rfl rfl (show Eng.opv 81 u' (.tmp 25) = (.bool true) from e3)) rfl ?_ (hK _ _ (Below.refl _ _) rfl)
              exact (Eng.x_mv (v := vi) rfl (show Eng.opv 81 u' (.tmp 3) = vi from hkp 3 rfl))
            · intro u' W hbW hkp hdp K hK
              have e3 : (fun (vQ : Value) (_ : World) => vQ = (.bool true)) (u' 25) W := hdp.1
              refine Eng.dv (Eng.gt rfl rfl rfl (show Eng.opv 81 u' (.tmp 25) = (.bool true) from e3)) rfl ?_ (hK _ _ (Below.refl _ _) rfl)
              exact (Eng.x_mv (v := vi) rfl (show Eng.opv 81 u' (.tmp 3) = vi from hkp 3 rfl))
            · intro u' W hbW hkp hdp K hK
              have e3 : (fun (vQ : Value) (_ : World) => vQ = (.bool true)) (u' 25) W := hdp.2.1
              have e5 : (fun (vQ : Value) (_ : World) => vQ = vi) (u' 27) W := hdp.1
              refine Eng.dv (Eng.gt rfl rfl rfl (show Eng.opv 81 u' (.tmp 25) = (.bool true) from e3)) rfl ?_ (hK _ _ (Below.refl _ _) rfl)
              exact (Eng.x_len (v := vi) (r := (s1.reverse.length : Int)) rfl Tryd.underlying185 (show Eng.opv 81 u' (.tmp 27) = vi from e5) (((hrL28_0).below hbW)).row rfl)
            · intro u' W hbW hkp hdp K hK
              have e3 : (fun (vQ : Value) (_ : World) => vQ = (.bool true)) (u' 25) W := hdp.2.1
              have e6 : (fun (vQ : Value) (_ : World) => vQ = (.int .i64 (s1.reverse.length : Int))) (u' 28) W := hdp.1
              refine Eng.dv (Eng.gt rfl rfl rfl (show Eng.opv 81 u' (.tmp 25) = (.bool true) from e3)) rfl ?_ (hK _ _ (Below.refl _ _) rfl)
              exact (Eng.x_sub rfl (show Eng.opv 81 u' (.tmp 28) = (.int .i64 (s1.reverse.length : Int)) from e6) rfl (Eng.w64 (r := ((s1.reverse.length - 1 : Nat) : Int)) (by omega)))
            · intro u' W hbW hkp hdp K hK
              have e3 : (fun (vQ : Value) (_ : World) => vQ = (.bool true)) (u' 25) W := hdp.2.2.1
              have e4 : (fun (vQ : Value) (_ : World) => vQ = vi) (u' 26) W := hdp.1
              have e7 : (fun (vQ : Value) (_ : World) => vQ = (.int .i64 ((s1.reverse.length - 1 : Nat) : Int))) (u' 29) W := hdp.2.1
              refine Eng.dv (Eng.gt rfl rfl rfl (show Eng.opv 81 u' (.tmp 25) = (.bool true) from e3)) rfl ?_ (hK _ _ (Below.refl _ _) rfl)
              exact (Eng.x_ia (v := vi) (j := s1.reverse.length - 1) rfl Tryd.underlying185 sz187_rt (by decide) (show Eng.opv 81 u' (.tmp 26) = vi from e4) (show Eng.opv 81 u' (.tmp 29) = (.int .i64 ((s1.reverse.length - 1 : Nat) : Int)) from e7) (((hrL28_0).below hbW)).row (Eng.flat_len (((hrL28_0).below hbW)).2) (by omega) (by omega))
            · intro u' W hbW hkp hdp K hK
              have e3 : (fun (vQ : Value) (_ : World) => vQ = (.bool true)) (u' 25) W := hdp.2.1
              have e8 : (fun (vQ : Value) (_ : World) => vQ = (.pointer (some ((Eng.sAddr vi).add ((s1.reverse.length - 1) * 33))))) (u' 30) W := hdp.1
              refine Eng.dv (Eng.gt rfl rfl rfl (show Eng.opv 81 u' (.tmp 25) = (.bool true) from e3)) rfl ?_ (hK _ _ (Below.refl _ _) rfl)
              exact (Eng.x_fa (v := (.pointer (some (((Eng.sAddr vi).add ((s1.reverse.length - 1) * 33)).add 0)))) rfl (show Eng.opv 81 u' (.tmp 30) = (.pointer (some ((Eng.sAddr vi).add ((s1.reverse.length - 1) * 33)))) from e8) (by kernel_rfl))
            · intro u' W hbW hkp hdp K hK
              have e3 : (fun (vQ : Value) (_ : World) => vQ = (.bool true)) (u' 25) W := hdp.2.1
              have e9 : (fun (vQ : Value) (_ : World) => vQ = (.pointer (some (((Eng.sAddr vi).add ((s1.reverse.length - 1) * 33)).add 0)))) (u' 31) W := hdp.1
              refine Eng.dv (Eng.gt rfl rfl rfl (show Eng.opv 81 u' (.tmp 25) = (.bool true) from e3)) rfl ?_ (hK _ _ (Below.refl _ _) rfl)
              exact (Eng.x_ld1 (v := (.int .i64 (((s1.reverse).getD (s1.reverse.length - 1) dP).1 : Int))) rfl ag3_rt (show Eng.opv 81 u' (.tmp 31) = (.pointer (some (((Eng.sAddr vi).add ((s1.reverse.length - 1) * 33)).add 0))) from e9) (Eng.rl_cell (((hrL28_0).below hbW)).rl dP (by omega) rfl))
            · intro u' W hbW hkp hdp K hK
              have e3 : (fun (vQ : Value) (_ : World) => vQ = (.bool true)) (u' 25) W := hdp.1
              refine Eng.dv (Eng.gt rfl rfl rfl (show Eng.opv 81 u' (.tmp 25) = (.bool true) from e3)) rfl ?_ (hK _ _ (Below.refl _ _) rfl)
              exact (Eng.x_fa (v := (.pointer (some ⟨w21.heap.size, 0, none⟩))) rfl (show Eng.opv 81 u' (.tmp 6) = (.pointer (some ⟨w21.heap.size, 0, none⟩)) from hkp 6 rfl) (by kernel_rfl))
            · intro u' W hbW hkp hdp K hK
              have e3 : (fun (vQ : Value) (_ : World) => vQ = (.bool true)) (u' 25) W := hdp.2.1
              have e11 : (fun (vQ : Value) (_ : World) => vQ = (.pointer (some ⟨w21.heap.size, 0, none⟩))) (u' 33) W := hdp.1
              refine Eng.dv (Eng.gt rfl rfl rfl (show Eng.opv 81 u' (.tmp 25) = (.bool true) from e3)) rfl ?_ (hK _ _ (Below.refl _ _) rfl)
              exact (Eng.x_ld1 (v := (.int .i64 ((2 ^ j : Nat) : Int))) rfl ag3_rt (show Eng.opv 81 u' (.tmp 33) = (.pointer (some ⟨w21.heap.size, 0, none⟩)) from e11) ((((hkL28_1).below hbW)).cell 0))
            · intro u' W hbW hkp hdp K hK
              have e3 : (fun (vQ : Value) (_ : World) => vQ = (.bool true)) (u' 25) W := hdp.2.2.1
              have e10 : (fun (vQ : Value) (_ : World) => vQ = (.int .i64 (((s1.reverse).getD (s1.reverse.length - 1) dP).1 : Int))) (u' 32) W := hdp.1
              have e12 : (fun (vQ : Value) (_ : World) => vQ = (.int .i64 ((2 ^ j : Nat) : Int))) (u' 34) W := hdp.2.1
              refine Eng.dv (Eng.gt rfl rfl rfl (show Eng.opv 81 u' (.tmp 25) = (.bool true) from e3)) rfl ?_ (hK _ _ (Below.refl _ _) rfl)
              exact (Eng.x_eq (r := true) rfl (show Eng.opv 81 u' (.tmp 32) = (.int .i64 (((s1.reverse).getD (s1.reverse.length - 1) dP).1 : Int)) from e10) (show Eng.opv 81 u' (.tmp 34) = (.int .i64 ((2 ^ j : Nat) : Int)) from e12) (Eng.eq_t (by rw [hql]; omega)))
            · intro u' W hbW hkp hdp K hK
              have e3 : (fun (vQ : Value) (_ : World) => vQ = (.bool true)) (u' 25) W := hdp.1
              have e13 : (fun (vQ : Value) (_ : World) => vQ = (.bool true)) (u' 35) W := hdp.2.1
              refine Eng.dv rfl rfl ?_ (hK _ _ (Below.refl _ _) rfl)
              exact (Eng.x_pick (v := (.bool true)) rfl (show Eng.opv 81 u' (.tmp 25) = (.bool true) from e3) (show Eng.opv 81 u' (.tmp 35) = (.bool true) from e13) rfl rfl)
          · intro ud38 w38 hb38 hkp38 ⟨f38_0, f38_1, f38_2, f38_3, f38_4, f38_5, f38_6, f38_7, f38_8, f38_9, f38_10, f38_11, f38_12, f38_13, f38_14, _⟩
            obtain rfl := Eng.collect (l := [(22, vi), (23, (.int .i64 (s1.reverse.length : Int))), (24, (.bool true)), (25, (.bool true)), (26, vi), (27, vi), (28, (.int .i64 (s1.reverse.length : Int))), (29, (.int .i64 ((s1.reverse.length - 1 : Nat) : Int))), (30, (.pointer (some ((Eng.sAddr vi).add ((s1.reverse.length - 1) * 33))))), (31, (.pointer (some (((Eng.sAddr vi).add ((s1.reverse.length - 1) * 33)).add 0)))), (32, (.int .i64 (((s1.reverse).getD (s1.reverse.length - 1) dP).1 : Int))), (33, (.pointer (some ⟨w21.heap.size, 0, none⟩))), (34, (.int .i64 ((2 ^ j : Nat) : Int))), (35, (.bool true)), (36, (.bool true))]) hkp38 ⟨f38_0, f38_1, f38_2, f38_3, f38_4, f38_5, f38_6, f38_7, f38_8, f38_9, f38_10, f38_11, f38_12, f38_13, f38_14, trivial⟩ rfl
            refine Eng.nil ?_
            refine hK31 _ _ ?_
            refine Eng.cond_t rfl ?_
            refine Eng.skp ?_
            refine hK30 _ _ ?_
            refine Eng.blk ?_
            refine Eng.seqk fun K39 hK39 => ?_
            have hk41 := (hkL28_1).below hb38
            have hr42 := (hrL28_0).below hb38
            have hB0_8 : Below w.heap.size w w38 := (hBL28).trans (hb38.mono (hBL28).size)
            have hr43 := (hK).below hB0_8
            refine Eng.draw 14 [fun (vQ : Value) (_ : World) => vQ = (.pointer (some ⟨w21.heap.size, 0, none⟩)), fun (vQ : Value) (_ : World) => vQ = (.int .i64 ((2 ^ j : Nat) : Int)), fun (vQ : Value) (_ : World) => vQ = (.int .i64 ((2 ^ (j + 1) : Nat) : Int)), fun (vQ : Value) (_ : World) => vQ = vi, fun (vQ : Value) (_ : World) => vQ = vi, fun (vQ : Value) (_ : World) => vQ = (.int .i64 (s1.reverse.length : Int)), fun (vQ : Value) (_ : World) => vQ = (.int .i64 ((s1.reverse.length - 1 : Nat) : Int)), fun (vQ : Value) (_ : World) => vQ = (.pointer (some ((Eng.sAddr vi).add ((s1.reverse.length - 1) * 33)))), fun (vQ : Value) (_ : World) => vQ = (.pointer (some (((Eng.sAddr vi).add ((s1.reverse.length - 1) * 33)).add 1))), fun (vQ : Value) (_ : World) => vQ = (dg (((s1.reverse).getD (s1.reverse.length - 1) dP).2)), fun (vQ : Value) (_ : World) => vQ = (.pointer (some ⟨w21.heap.size, 1, none⟩)), fun (vQ : Value) (_ : World) => vQ = (dg (R b1)), fun (vQ : Value) (_ : World) => vQ = (dg (R b2)), fun (vQ : Value) (_ : World) => vQ = (.agg ((.int .i64 ((2 ^ (j + 1) : Nat) : Int)) :: (bcs (R b2)) : List Value).toArray)] (by kernel_rfl) (by kernel_rfl) (by kernel_rfl) (by kernel_rfl) rfl rfl ?_ ?_ ?_
            · exact ⟨fun _ _ _ h _ => h, fun _ _ _ h _ => h, fun _ _ _ h _ => h, fun _ _ _ h _ => h, fun _ _ _ h _ => h, fun _ _ _ h _ => h, fun _ _ _ h _ => h, fun _ _ _ h _ => h, fun _ _ _ h _ => h, fun _ _ _ h _ => h, fun _ _ _ h _ => h, fun _ _ _ h _ => h, fun _ _ _ h _ => h, fun _ _ _ h _ => h, trivial⟩
            · refine ⟨?_, ?_, ?_, ?_, ?_, ?_, ?_, ?_, ?_, ?_, ?_, ?_, ?_, ?_, trivial⟩
              · intro u' W hbW hkp hdp K hK
                refine Eng.dv rfl rfl ?_ (hK _ _ (Below.refl _ _) rfl)
                exact (Eng.x_fa (v := (.pointer (some ⟨w21.heap.size, 0, none⟩))) rfl (show Eng.opv 81 u' (.tmp 6) = (.pointer (some ⟨w21.heap.size, 0, none⟩)) from hkp 6 rfl) (by kernel_rfl))
              · intro u' W hbW hkp hdp K hK
                have e0 : (fun (vQ : Value) (_ : World) => vQ = (.pointer (some ⟨w21.heap.size, 0, none⟩))) (u' 37) W := hdp.1
                refine Eng.dv rfl rfl ?_ (hK _ _ (Below.refl _ _) rfl)
                exact (Eng.x_ld1 (v := (.int .i64 ((2 ^ j : Nat) : Int))) rfl ag3_rt (show Eng.opv 81 u' (.tmp 37) = (.pointer (some ⟨w21.heap.size, 0, none⟩)) from e0) ((((hk41).below hbW)).cell 0))
              · intro u' W hbW hkp hdp K hK
                have e1 : (fun (vQ : Value) (_ : World) => vQ = (.int .i64 ((2 ^ j : Nat) : Int))) (u' 38) W := hdp.1
                refine Eng.dv rfl rfl ?_ (hK _ _ (Below.refl _ _) rfl)
                exact (Eng.x_mul rfl rfl (show Eng.opv 81 u' (.tmp 38) = (.int .i64 ((2 ^ j : Nat) : Int)) from e1) (Eng.w64 (r := ((2 ^ (j + 1) : Nat) : Int)) (by omega)))
              · intro u' W hbW hkp hdp K hK
                refine Eng.dv rfl rfl ?_ (hK _ _ (Below.refl _ _) rfl)
                exact (Eng.x_mv (v := vi) rfl (show Eng.opv 81 u' (.tmp 3) = vi from hkp 3 rfl))
              · intro u' W hbW hkp hdp K hK
                refine Eng.dv rfl rfl ?_ (hK _ _ (Below.refl _ _) rfl)
                exact (Eng.x_mv (v := vi) rfl (show Eng.opv 81 u' (.tmp 3) = vi from hkp 3 rfl))
              · intro u' W hbW hkp hdp K hK
                have e4 : (fun (vQ : Value) (_ : World) => vQ = vi) (u' 41) W := hdp.1
                refine Eng.dv rfl rfl ?_ (hK _ _ (Below.refl _ _) rfl)
                exact (Eng.x_len (v := vi) (r := (s1.reverse.length : Int)) rfl Tryd.underlying185 (show Eng.opv 81 u' (.tmp 41) = vi from e4) (((hr42).below hbW)).row rfl)
              · intro u' W hbW hkp hdp K hK
                have e5 : (fun (vQ : Value) (_ : World) => vQ = (.int .i64 (s1.reverse.length : Int))) (u' 42) W := hdp.1
                refine Eng.dv rfl rfl ?_ (hK _ _ (Below.refl _ _) rfl)
                exact (Eng.x_sub rfl (show Eng.opv 81 u' (.tmp 42) = (.int .i64 (s1.reverse.length : Int)) from e5) rfl (Eng.w64 (r := ((s1.reverse.length - 1 : Nat) : Int)) (by omega)))
              · intro u' W hbW hkp hdp K hK
                have e3 : (fun (vQ : Value) (_ : World) => vQ = vi) (u' 40) W := hdp.1
                have e6 : (fun (vQ : Value) (_ : World) => vQ = (.int .i64 ((s1.reverse.length - 1 : Nat) : Int))) (u' 43) W := hdp.2.1
                refine Eng.dv rfl rfl ?_ (hK _ _ (Below.refl _ _) rfl)
                exact (Eng.x_ia (v := vi) (j := s1.reverse.length - 1) rfl Tryd.underlying185 sz187_rt (by decide) (show Eng.opv 81 u' (.tmp 40) = vi from e3) (show Eng.opv 81 u' (.tmp 43) = (.int .i64 ((s1.reverse.length - 1 : Nat) : Int)) from e6) (((hr42).below hbW)).row (Eng.flat_len (((hr42).below hbW)).2) (by omega) (by omega))
              · intro u' W hbW hkp hdp K hK
                have e7 : (fun (vQ : Value) (_ : World) => vQ = (.pointer (some ((Eng.sAddr vi).add ((s1.reverse.length - 1) * 33))))) (u' 44) W := hdp.1
                refine Eng.dv rfl rfl ?_ (hK _ _ (Below.refl _ _) rfl)
                exact (Eng.x_fa (v := (.pointer (some (((Eng.sAddr vi).add ((s1.reverse.length - 1) * 33)).add 1)))) rfl (show Eng.opv 81 u' (.tmp 44) = (.pointer (some ((Eng.sAddr vi).add ((s1.reverse.length - 1) * 33)))) from e7) (by kernel_rfl))
              · intro u' W hbW hkp hdp K hK
                have e8 : (fun (vQ : Value) (_ : World) => vQ = (.pointer (some (((Eng.sAddr vi).add ((s1.reverse.length - 1) * 33)).add 1)))) (u' 45) W := hdp.1
                refine Eng.dv rfl rfl ?_ (hK _ _ (Below.refl _ _) rfl)
                exact (Eng.x_ldA (v := (dg (((s1.reverse).getD (s1.reverse.length - 1) dP).2))) rfl ag45_rt sz45_rt (show Eng.opv 81 u' (.tmp 45) = (.pointer (some (((Eng.sAddr vi).add ((s1.reverse.length - 1) * 33)).add 1))) from e8) ((bcs_length _).trans (hP _ (Eng.getD_mem (d := dP) (l := s1.reverse) (by omega)))) (Eng.rl_tail (pre := [(.int .i64 (((s1.reverse).getD (s1.reverse.length - 1) dP).1 : Int))]) (mid := (bcs (((s1.reverse).getD (s1.reverse.length - 1) dP).2))) (((hr42).below hbW)).rl dP (by omega) rfl rfl) rfl)
              · intro u' W hbW hkp hdp K hK
                refine Eng.dv rfl rfl ?_ (hK _ _ (Below.refl _ _) rfl)
                exact (Eng.x_fa (v := (.pointer (some ⟨w21.heap.size, 1, none⟩))) rfl (show Eng.opv 81 u' (.tmp 6) = (.pointer (some ⟨w21.heap.size, 0, none⟩)) from hkp 6 rfl) (by kernel_rfl))
              · intro u' W hbW hkp hdp K hK
                have e10 : (fun (vQ : Value) (_ : World) => vQ = (.pointer (some ⟨w21.heap.size, 1, none⟩))) (u' 47) W := hdp.1
                refine Eng.dv rfl rfl ?_ (hK _ _ (Below.refl _ _) rfl)
                exact (Eng.x_ldA (v := (dg (R b1))) rfl ag45_rt sz45_rt (show Eng.opv 81 u' (.tmp 47) = (.pointer (some ⟨w21.heap.size, 1, none⟩)) from e10) ((bcs_length _).trans hRb) (Eng.blk_tail (pre := [(.int .i64 ((2 ^ j : Nat) : Int))]) (mid := (bcs (R b1))) ((hk41).below hbW) rfl) rfl)
              · intro u' W hbW hkp hdp K hK
                have e9 : (fun (vQ : Value) (_ : World) => vQ = (dg (((s1.reverse).getD (s1.reverse.length - 1) dP).2))) (u' 46) W := hdp.1
                have e11 : (fun (vQ : Value) (_ : World) => vQ = (dg (R b1))) (u' 48) W := hdp.2.1
                refine Eng.dc (vs := #[(dg (((s1.reverse).getD (s1.reverse.length - 1) dP).2)), (dg (R b1))]) rfl ?_ (node_eq (c := R b2) (by rw [hql]; exact m4) (hP _ (Eng.getD_mem (d := dP) (l := s1.reverse) (by omega))) hRb _ ((hr43).below hbW)) ?_
                · exact Eng.xc (xs := #[(Go.Operand.tmp 46), (Go.Operand.tmp 48)]) (vl := [(dg (((s1.reverse).getD (s1.reverse.length - 1) dP).2)), (dg (R b1))]) rfl rfl (Eng.lc (show Eng.opv 81 u' (.tmp 46) = (dg (((s1.reverse).getD (s1.reverse.length - 1) dP).2)) from e9) (Eng.lc (show Eng.opv 81 u' (.tmp 48) = (dg (R b1)) from e11) rfl)) en117_rt
                rintro _ W2 ⟨rfl, hb2⟩
                exact Eng.aft_v rfl (hK _ _ hb2 rfl)
              · intro u' W hbW hkp hdp K hK
                have e2 : (fun (vQ : Value) (_ : World) => vQ = (.int .i64 ((2 ^ (j + 1) : Nat) : Int))) (u' 39) W := hdp.1
                have e12 : (fun (vQ : Value) (_ : World) => vQ = (dg (R b2))) (u' 49) W := hdp.2.1
                refine Eng.dv rfl rfl ?_ (hK _ _ (Below.refl _ _) rfl)
                exact (Eng.x_build (ps := [(0, (.int .i64 ((2 ^ (j + 1) : Nat) : Int))), (1, (dg (R b2)))]) (v := (.agg ((.int .i64 ((2 ^ (j + 1) : Nat) : Int)) :: (bcs (R b2)) : List Value).toArray)) rfl (by exact (Eng.lc (Eng.pr (show Eng.opv 81 u' (.tmp 39) = (.int .i64 ((2 ^ (j + 1) : Nat) : Int)) from e2)) (Eng.lc (Eng.pr (show Eng.opv 81 u' (.tmp 49) = (dg (R b2)) from e12)) rfl))) (bldP (2 ^ (j + 1) : Nat) (R b2) hRb2 _))
            · intro ud40 w40 hb40 hkp40 ⟨f40_0, f40_1, f40_2, f40_3, f40_4, f40_5, f40_6, f40_7, f40_8, f40_9, f40_10, f40_11, f40_12, f40_13, _⟩
              obtain rfl := Eng.collect (l := [(37, (.pointer (some ⟨w21.heap.size, 0, none⟩))), (38, (.int .i64 ((2 ^ j : Nat) : Int))), (39, (.int .i64 ((2 ^ (j + 1) : Nat) : Int))), (40, vi), (41, vi), (42, (.int .i64 (s1.reverse.length : Int))), (43, (.int .i64 ((s1.reverse.length - 1 : Nat) : Int))), (44, (.pointer (some ((Eng.sAddr vi).add ((s1.reverse.length - 1) * 33))))), (45, (.pointer (some (((Eng.sAddr vi).add ((s1.reverse.length - 1) * 33)).add 1)))), (46, (dg (((s1.reverse).getD (s1.reverse.length - 1) dP).2))), (47, (.pointer (some ⟨w21.heap.size, 1, none⟩))), (48, (dg (R b1))), (49, (dg (R b2))), (50, (.agg ((.int .i64 ((2 ^ (j + 1) : Nat) : Int)) :: (bcs (R b2)) : List Value).toArray))]) hkp40 ⟨f40_0, f40_1, f40_2, f40_3, f40_4, f40_5, f40_6, f40_7, f40_8, f40_9, f40_10, f40_11, f40_12, f40_13, trivial⟩ rfl
              have hk44 := (hk41).below hb40
              refine Eng.stB (v := (.agg ((.int .i64 ((2 ^ (j + 1) : Nat) : Int)) :: (bcs (R b2)) : List Value).toArray)) rfl rfl rfl sz187_rt rfl hk44 (Eng.len_cons (.int .i64 ((2 ^ j : Nat) : Int)) (Eng.len_dg hRb)) rfl (cs' := ((.int .i64 ((2 ^ (j + 1) : Nat) : Int)) :: (bcs (R b2)))) rfl (Eng.len_cons (.int .i64 ((2 ^ (j + 1) : Nat) : Int)) (Eng.len_dg hRb2)) (Eng.one_cons rfl (bcs_one _)) ?_
              intro w45 hk45 hg45
              refine Eng.nil ?_
              refine hK39 _ _ ?_
              refine Eng.reg ?_
              refine Eng.sv rfl rfl (Eng.x_mv (v := vi) rfl rfl) ?_
              refine Eng.sv rfl rfl (Eng.x_mv (v := vi) rfl rfl) ?_
              have hr46 := ((hr42).below hb40).kept hg45 (.inr (fun e => absurd (hltV _ e).2 (Nat.not_lt_of_le (Nat.le_trans (Nat.le_refl _) (Nat.le_refl _)))))
              refine Eng.sv rfl rfl (Eng.x_len (v := vi) (r := (s1.reverse.length : Int)) rfl Tryd.underlying185 rfl (hr46).row rfl) ?_
              refine Eng.sv rfl rfl (Eng.x_sub rfl rfl rfl (Eng.w64 (r := ((s1.reverse.length - 1 : Nat) : Int)) (by omega))) ?_
              have hq47 : Eng.OwnL 187 33 encP w2.heap.size w45 (Eng.sCut vi 0 (s1.reverse.length - 1) 33) r.reverse := (by have q_ := (Eng.ol_pre (n := (s1.reverse.length - 1)) hr46 (by omega)).1; rw [hcut] at q_; exact q_)
              have hlt48 : ∀ g_, ((Eng.sCut vi 0 (s1.reverse.length - 1) 33)).ownBlock = some g_ → w2.heap.size ≤ g_ ∧ g_ < w21.heap.size := fun g_ e_ => hltV g_ (((Eng.ol_pre hr46 (by omega)).2).symm.trans e_)
              refine Eng.sv rfl rfl (Eng.x_sl (v := vi) rfl Tryd.underlying185 sz187_rt rfl (hr46).row 0 (s1.reverse.length - 1) (.inl ⟨rfl, rfl⟩) (Eng.bd (k := .i64) rfl) (by omega) (by omega)) ?_
              refine Eng.sv rfl rfl (Eng.x_as (v := (Eng.sCut vi 0 (s1.reverse.length - 1) 33)) rfl rfl) ?_
              refine Eng.nil ?_
              refine Eng.nb ?_
              have hB0_9 : Below w.heap.size w w40 := (hB0_8).trans (hb40.mono (hB0_8).size)
              have hB0_10 : Below w.heap.size w w45 := (hB0_9).grown hg45 (hB0_9).size (fun k e => by cases e; exact Nat.le_trans (hB0_4).size (Nat.le_refl _))
              have hk49 := (((hkL28_0).below hb38).below hb40).grown hg45 (fun e => absurd (Option.some.inj e) (Nat.ne_of_lt (Nat.lt_of_lt_of_le hz2 (Nat.le_trans (Nat.le_trans (Nat.le_trans hzL14 (hb20).size) (hg21).size) (Nat.le_refl _)))))
              exact hK28 _ _ _ ⟨j + 1, r, a2, b2, (Eng.sCut vi 0 (s1.reverse.length - 1) 33), rfl, m1, m2, (m3.trans hab), ⟨rfl, rfl, rfl, rfl, rfl, rfl, trivial⟩, hB0_10, (Nat.le_trans (Nat.le_trans (Nat.le_trans hzL28 (hb38).size) (hb40).size) (hg45).size), hk49, hk45, hq47, (fun g_ e_ => Nat.lt_of_lt_of_le (hlt48 g_ e_).2 (Nat.le_refl _))⟩ (by rw [hqr]; simp)
        · skip
          have hst : s1 = [] ∨ ∃ q r, s1 = q :: r ∧ q.1 ≠ 2 ^ j := .inr ⟨q, r, hqr, hq⟩
          refine Eng.draw 15 [fun (vQ : Value) (_ : World) => vQ = vi, fun (vQ : Value) (_ : World) => vQ = (.int .i64 (s1.reverse.length : Int)), fun (vQ : Value) (_ : World) => vQ = (.bool true), fun (vQ : Value) (_ : World) => vQ = (.bool true), fun (vQ : Value) (_ : World) => vQ = vi, fun (vQ : Value) (_ : World) => vQ = vi, fun (vQ : Value) (_ : World) => vQ = (.int .i64 (s1.reverse.length : Int)), fun (vQ : Value) (_ : World) => vQ = (.int .i64 ((s1.reverse.length - 1 : Nat) : Int)), fun (vQ : Value) (_ : World) => vQ = (.pointer (some ((Eng.sAddr vi).add ((s1.reverse.length - 1) * 33)))), fun (vQ : Value) (_ : World) => vQ = (.pointer (some (((Eng.sAddr vi).add ((s1.reverse.length - 1) * 33)).add 0))), fun (vQ : Value) (_ : World) => vQ = (.int .i64 (((s1.reverse).getD (s1.reverse.length - 1) dP).1 : Int)), fun (vQ : Value) (_ : World) => vQ = (.pointer (some ⟨w21.heap.size, 0, none⟩)), fun (vQ : Value) (_ : World) => vQ = (.int .i64 ((2 ^ j : Nat) : Int)), fun (vQ : Value) (_ : World) => vQ = (.bool false), fun (vQ : Value) (_ : World) => vQ = (.bool false)] (by kernel_rfl) (by kernel_rfl) (by kernel_rfl) (by kernel_rfl) rfl rfl ?_ ?_ ?_
          · exact ⟨fun _ _ _ h _ => h, fun _ _ _ h _ => h, fun _ _ _ h _ => h, fun _ _ _ h _ => h, fun _ _ _ h _ => h, fun _ _ _ h _ => h, fun _ _ _ h _ => h, fun _ _ _ h _ => h, fun _ _ _ h _ => h, fun _ _ _ h _ => h, fun _ _ _ h _ => h, fun _ _ _ h _ => h, fun _ _ _ h _ => h, fun _ _ _ h _ => h, fun _ _ _ h _ => h, trivial⟩
          · refine ⟨?_, ?_, ?_, ?_, ?_, ?_, ?_, ?_, ?_, ?_, ?_, ?_, ?_, ?_, ?_, trivial⟩
            · intro u' W hbW hkp hdp K hK
              refine Eng.dv rfl rfl ?_ (hK _ _ (Below.refl _ _) rfl)
              exact (Eng.x_mv (v := vi) rfl (show Eng.opv 81 u' (.tmp 3) = vi from hkp 3 rfl))
            · intro u' W hbW hkp hdp K hK
              have e0 : (fun (vQ : Value) (_ : World) => vQ = vi) (u' 22) W := hdp.1
              refine Eng.dv rfl rfl ?_ (hK _ _ (Below.refl _ _) rfl)
              exact (Eng.x_len (v := vi) (r := (s1.reverse.length : Int)) rfl Tryd.underlying185 (show Eng.opv 81 u' (.tmp 22) = vi from e0) (((hrL28_0).below hbW)).row rfl)
            · intro u' W hbW hkp hdp K hK
              have e1 : (fun (vQ : Value) (_ : World) => vQ = (.int .i64 (s1.reverse.length : Int))) (u' 23) W := hdp.1
              refine Eng.dv rfl rfl ?_ (hK _ _ (Below.refl _ _) rfl)
              exact (Eng.x_gt (r := true) rfl (show Eng.opv 81 u' (.tmp 23) = (.int .i64 (s1.reverse.length : Int)) from e1) rfl (decide_eq_true (by omega)))
            · intro u' W hbW hkp hdp K hK
              have e2 : (fun (vQ : Value) (_ : World) => vQ = (.bool true)) (u' 24) W := hdp.1
              refine Eng.dv rfl rfl ?_ (hK _ _ (Below.refl _ _) rfl)
              exact (Eng.x_mv (v := (.bool true)) rfl (show Eng.opv 81 u' (.tmp 24) = (.bool true) from e2))
            · intro u' W hbW hkp hdp K hK
              have e3 : (fun (vQ : Value) (_ : World) => vQ = (.bool true)) (u' 25) W := hdp.1
              refine Eng.dv (Eng.gt rfl rfl rfl (show Eng.opv 81 u' (.tmp 25) = (.bool true) from e3)) rfl ?_ (hK _ _ (Below.refl _ _) rfl)
              exact (Eng.x_mv (v := vi) rfl (show Eng.opv 81 u' (.tmp 3) = vi from hkp 3 rfl))
            · intro u' W hbW hkp hdp K hK
              have e3 : (fun (vQ : Value) (_ : World) => vQ = (.bool true)) (u' 25) W := hdp.1
              refine Eng.dv (Eng.gt rfl rfl rfl (show Eng.opv 81 u' (.tmp 25) = (.bool true) from e3)) rfl ?_ (hK _ _ (Below.refl _ _) rfl)
              exact (Eng.x_mv (v := vi) rfl (show Eng.opv 81 u' (.tmp 3) = vi from hkp 3 rfl))
            · intro u' W hbW hkp hdp K hK
              have e3 : (fun (vQ : Value) (_ : World) => vQ = (.bool true)) (u' 25) W := hdp.2.1
              have e5 : (fun (vQ : Value) (_ : World) => vQ = vi) (u' 27) W := hdp.1
              refine Eng.dv (Eng.gt rfl rfl rfl (show Eng.opv 81 u' (.tmp 25) = (.bool true) from e3)) rfl ?_ (hK _ _ (Below.refl _ _) rfl)
              exact (Eng.x_len (v := vi) (r := (s1.reverse.length : Int)) rfl Tryd.underlying185 (show Eng.opv 81 u' (.tmp 27) = vi from e5) (((hrL28_0).below hbW)).row rfl)
            · intro u' W hbW hkp hdp K hK
              have e3 : (fun (vQ : Value) (_ : World) => vQ = (.bool true)) (u' 25) W := hdp.2.1
              have e6 : (fun (vQ : Value) (_ : World) => vQ = (.int .i64 (s1.reverse.length : Int))) (u' 28) W := hdp.1
              refine Eng.dv (Eng.gt rfl rfl rfl (show Eng.opv 81 u' (.tmp 25) = (.bool true) from e3)) rfl ?_ (hK _ _ (Below.refl _ _) rfl)
              exact (Eng.x_sub rfl (show Eng.opv 81 u' (.tmp 28) = (.int .i64 (s1.reverse.length : Int)) from e6) rfl (Eng.w64 (r := ((s1.reverse.length - 1 : Nat) : Int)) (by omega)))
            · intro u' W hbW hkp hdp K hK
              have e3 : (fun (vQ : Value) (_ : World) => vQ = (.bool true)) (u' 25) W := hdp.2.2.1
              have e4 : (fun (vQ : Value) (_ : World) => vQ = vi) (u' 26) W := hdp.1
              have e7 : (fun (vQ : Value) (_ : World) => vQ = (.int .i64 ((s1.reverse.length - 1 : Nat) : Int))) (u' 29) W := hdp.2.1
              refine Eng.dv (Eng.gt rfl rfl rfl (show Eng.opv 81 u' (.tmp 25) = (.bool true) from e3)) rfl ?_ (hK _ _ (Below.refl _ _) rfl)
              exact (Eng.x_ia (v := vi) (j := s1.reverse.length - 1) rfl Tryd.underlying185 sz187_rt (by decide) (show Eng.opv 81 u' (.tmp 26) = vi from e4) (show Eng.opv 81 u' (.tmp 29) = (.int .i64 ((s1.reverse.length - 1 : Nat) : Int)) from e7) (((hrL28_0).below hbW)).row (Eng.flat_len (((hrL28_0).below hbW)).2) (by omega) (by omega))
            · intro u' W hbW hkp hdp K hK
              have e3 : (fun (vQ : Value) (_ : World) => vQ = (.bool true)) (u' 25) W := hdp.2.1
              have e8 : (fun (vQ : Value) (_ : World) => vQ = (.pointer (some ((Eng.sAddr vi).add ((s1.reverse.length - 1) * 33))))) (u' 30) W := hdp.1
              refine Eng.dv (Eng.gt rfl rfl rfl (show Eng.opv 81 u' (.tmp 25) = (.bool true) from e3)) rfl ?_ (hK _ _ (Below.refl _ _) rfl)
              exact (Eng.x_fa (v := (.pointer (some (((Eng.sAddr vi).add ((s1.reverse.length - 1) * 33)).add 0)))) rfl (show Eng.opv 81 u' (.tmp 30) = (.pointer (some ((Eng.sAddr vi).add ((s1.reverse.length - 1) * 33)))) from e8) (by kernel_rfl))
            · intro u' W hbW hkp hdp K hK
              have e3 : (fun (vQ : Value) (_ : World) => vQ = (.bool true)) (u' 25) W := hdp.2.1
              have e9 : (fun (vQ : Value) (_ : World) => vQ = (.pointer (some (((Eng.sAddr vi).add ((s1.reverse.length - 1) * 33)).add 0)))) (u' 31) W := hdp.1
              refine Eng.dv (Eng.gt rfl rfl rfl (show Eng.opv 81 u' (.tmp 25) = (.bool true) from e3)) rfl ?_ (hK _ _ (Below.refl _ _) rfl)
              exact (Eng.x_ld1 (v := (.int .i64 (((s1.reverse).getD (s1.reverse.length - 1) dP).1 : Int))) rfl ag3_rt (show Eng.opv 81 u' (.tmp 31) = (.pointer (some (((Eng.sAddr vi).add ((s1.reverse.length - 1) * 33)).add 0))) from e9) (Eng.rl_cell (((hrL28_0).below hbW)).rl dP (by omega) rfl))
            · intro u' W hbW hkp hdp K hK
              have e3 : (fun (vQ : Value) (_ : World) => vQ = (.bool true)) (u' 25) W := hdp.1
              refine Eng.dv (Eng.gt rfl rfl rfl (show Eng.opv 81 u' (.tmp 25) = (.bool true) from e3)) rfl ?_ (hK _ _ (Below.refl _ _) rfl)
              exact (Eng.x_fa (v := (.pointer (some ⟨w21.heap.size, 0, none⟩))) rfl (show Eng.opv 81 u' (.tmp 6) = (.pointer (some ⟨w21.heap.size, 0, none⟩)) from hkp 6 rfl) (by kernel_rfl))
            · intro u' W hbW hkp hdp K hK
              have e3 : (fun (vQ : Value) (_ : World) => vQ = (.bool true)) (u' 25) W := hdp.2.1
              have e11 : (fun (vQ : Value) (_ : World) => vQ = (.pointer (some ⟨w21.heap.size, 0, none⟩))) (u' 33) W := hdp.1
              refine Eng.dv (Eng.gt rfl rfl rfl (show Eng.opv 81 u' (.tmp 25) = (.bool true) from e3)) rfl ?_ (hK _ _ (Below.refl _ _) rfl)
              exact (Eng.x_ld1 (v := (.int .i64 ((2 ^ j : Nat) : Int))) rfl ag3_rt (show Eng.opv 81 u' (.tmp 33) = (.pointer (some ⟨w21.heap.size, 0, none⟩)) from e11) ((((hkL28_1).below hbW)).cell 0))
            · intro u' W hbW hkp hdp K hK
              have e3 : (fun (vQ : Value) (_ : World) => vQ = (.bool true)) (u' 25) W := hdp.2.2.1
              have e10 : (fun (vQ : Value) (_ : World) => vQ = (.int .i64 (((s1.reverse).getD (s1.reverse.length - 1) dP).1 : Int))) (u' 32) W := hdp.1
              have e12 : (fun (vQ : Value) (_ : World) => vQ = (.int .i64 ((2 ^ j : Nat) : Int))) (u' 34) W := hdp.2.1
              refine Eng.dv (Eng.gt rfl rfl rfl (show Eng.opv 81 u' (.tmp 25) = (.bool true) from e3)) rfl ?_ (hK _ _ (Below.refl _ _) rfl)
              exact (Eng.x_eq (r := false) rfl (show Eng.opv 81 u' (.tmp 32) = (.int .i64 (((s1.reverse).getD (s1.reverse.length - 1) dP).1 : Int)) from e10) (show Eng.opv 81 u' (.tmp 34) = (.int .i64 ((2 ^ j : Nat) : Int)) from e12) (Eng.eq_f (by rw [hql]; omega)))
            · intro u' W hbW hkp hdp K hK
              have e3 : (fun (vQ : Value) (_ : World) => vQ = (.bool true)) (u' 25) W := hdp.1
              have e13 : (fun (vQ : Value) (_ : World) => vQ = (.bool false)) (u' 35) W := hdp.2.1
              refine Eng.dv rfl rfl ?_ (hK _ _ (Below.refl _ _) rfl)
              exact (Eng.x_pick (v := (.bool false)) rfl (show Eng.opv 81 u' (.tmp 25) = (.bool true) from e3) (show Eng.opv 81 u' (.tmp 35) = (.bool false) from e13) rfl rfl)
          · intro ud50 w50 hb50 hkp50 ⟨f50_0, f50_1, f50_2, f50_3, f50_4, f50_5, f50_6, f50_7, f50_8, f50_9, f50_10, f50_11, f50_12, f50_13, f50_14, _⟩
            obtain rfl := Eng.collect (l := [(22, vi), (23, (.int .i64 (s1.reverse.length : Int))), (24, (.bool true)), (25, (.bool true)), (26, vi), (27, vi), (28, (.int .i64 (s1.reverse.length : Int))), (29, (.int .i64 ((s1.reverse.length - 1 : Nat) : Int))), (30, (.pointer (some ((Eng.sAddr vi).add ((s1.reverse.length - 1) * 33))))), (31, (.pointer (some (((Eng.sAddr vi).add ((s1.reverse.length - 1) * 33)).add 0)))), (32, (.int .i64 (((s1.reverse).getD (s1.reverse.length - 1) dP).1 : Int))), (33, (.pointer (some ⟨w21.heap.size, 0, none⟩))), (34, (.int .i64 ((2 ^ j : Nat) : Int))), (35, (.bool false)), (36, (.bool false))]) hkp50 ⟨f50_0, f50_1, f50_2, f50_3, f50_4, f50_5, f50_6, f50_7, f50_8, f50_9, f50_10, f50_11, f50_12, f50_13, f50_14, trivial⟩ rfl
            refine Eng.nil ?_
            refine hK31 _ _ ?_
            refine Eng.cond_f rfl ?_
            refine Eng.xt ?_
            refine Eng.te ?_
            refine Eng.te ?_
            refine Eng.be ?_
            refine hK25 _ _ ?_
            refine Eng.reg ?_
            refine Eng.sv rfl rfl (Eng.x_mv (v := vi) rfl rfl) ?_
            have hk51 := (hkL28_1).below hb50
            refine Eng.sv rfl rfl (Eng.x_ldB (v := (.agg ((.int .i64 ((2 ^ j : Nat) : Int)) :: (bcs (R b1)) : List Value).toArray)) rfl ag187_rt sz187_rt rfl hk51 (Eng.len_cons (.int .i64 ((2 ^ j : Nat) : Int)) (Eng.len_dg hRb)) rfl) ?_
            refine Eng.bs (vs := [(.agg ((.int .i64 ((2 ^ j : Nat) : Int)) :: (bcs (R b1)) : List Value).toArray)]) (cs := ((.int .i64 ((2 ^ j : Nat) : Int)) :: (bcs (R b1)))) rfl rfl rfl Tryd.underlying185 inL187_rt zP (by decide) rfl rfl (by decide) (by decide) (Eng.all_cons (p := fun v => v.cells.size = 33) (by simpa [Value.cells] using ((Eng.len_cons (.int .i64 ((2 ^ j : Nat) : Int)) (Eng.len_dg hRb)) : (((.int .i64 ((2 ^ j : Nat) : Int)) :: (bcs (R b1))) : List Value).length = 33)) Eng.all_nil) (by simp [Value.cells]) ?_
            intro w52 hk52 hb52 hz52
            have hr54 := ((hrL28_0).below hb50).below hb52
            refine Eng.apL (enc := encP) rfl rfl rfl Tryd.underlying185 inL187_rt zP (by decide) rfl hr54 rfl (Eng.rl_one (enc := encP) (sz := 33) (a := (2 ^ j, R b1)) hk52 (Eng.len_cons (.int .i64 ((2 ^ j : Nat) : Int)) (Eng.len_dg hRb))) (fun a _ c hc => one_part a c hc) (by simp only [List.length_cons, List.length_nil]; unfold maxLen; omega) (by simp only [List.length_cons, List.length_nil]; omega) (Nat.le_trans (Nat.le_trans (Nat.le_trans (Nat.le_trans (Nat.le_trans (Nat.le_trans (Nat.le_trans hzL14 (hb20).size) (hg21).size) (hb23).size) (hg24).size) hzL28) (hb50).size) (hb52).size) ?_
            intro v53 w53 ho53 hg53
            rw [← List.reverse_cons] at ho53
            refine Eng.sv rfl rfl (Eng.x_as (v := v53) rfl rfl) ?_
            refine Eng.nil ?_
            refine Eng.nb ?_
            refine hK17 _ _ ?_
            refine Eng.reg ?_
            refine Eng.sv rfl rfl (Eng.x_add rfl rfl rfl (Eng.w64 (r := ((k : Int) + 1)) (by omega))) ?_
            refine Eng.sv rfl rfl (Eng.x_mv (v := (.int .i64 ((k : Int) + 1))) rfl rfl) ?_
            refine Eng.nil ?_
            have hB0_8 : Below w.heap.size w w50 := (hBL28).trans (hb50.mono (hBL28).size)
            have hB0_9 : Below w.heap.size w w52 := (hB0_8).trans (hb52.mono (hB0_8).size)
            have hB0_10 : Below w.heap.size w w53 := (hB0_9).grown hg53 (hB0_9).size (fun k e => Nat.le_trans (hb2).size (hltV _ e).1)
            have hk55 := (((hkL28_0).below hb50).below hb52).grown hg53 (fun e => absurd (hltV _ e.symm).1 (Nat.not_le_of_lt (Nat.lt_of_lt_of_le hz2 (Nat.le_refl _))))
            exact hK14 _ _ _ ⟨k + 1, ((2 ^ j, R b1) :: s1), v53, rfl, by omega, (by rw [← hab]; exact PK.stay hPK hst hbl), ⟨rfl, rfl, rfl, rfl, (Eng.ie (by first | omega | rfl)), trivial⟩, hB0_10, (Nat.le_trans (Nat.le_trans (Nat.le_trans (Nat.le_trans (Nat.le_trans (Nat.le_trans (Nat.le_trans (Nat.le_trans hzL14 (hb20).size) (hg21).size) (hb23).size) (hg24).size) hzL28) (hb50).size) (hb52).size) (hg53).size), hk55, ho53⟩ (by omega)
    · skip
      have hkn : k = ds.length := by omega
      obtain ⟨q0, r0, hqr0, hfr0⟩ := PK.root (by rw [hkn, List.take_length] at hs_; exact hs_) (by omega) hm
      have hql0 := (rev_last hqr0).1
      have hcut0 := (rev_last hqr0).2
      have hfold0 : foldP (s.reverse.getD (s.reverse.length - 1) dP).2 r0 = R ds := by rw [hql0]; exact hfr0
      have hln0 : 0 < s.reverse.length := by rw [hqr0]; simp
      have hP0 : ∀ p ∈ s.reverse, p.2.length = 32 := fun p hp => PK.mem32 (by rw [hkn, List.take_length] at hs_; exact hs_) h.2 p (List.mem_reverse.1 hp)
      have hP := hP0
      have hd0 : (s.reverse.getD (s.reverse.length - 1) dP).2.length = 32 := hP0 _ (Eng.getD_mem (by omega))
      have hsm0 : s.reverse.length ≤ 50 := by have := PK.short hs_ (by rw [List.length_take]; omega); rw [List.length_reverse]; exact this
      refine Eng.sv rfl rfl (Eng.x_lt (r := false) rfl rfl rfl (decide_eq_false (by omega))) ?_
      refine Eng.nil ?_
      refine hK15 _ _ ?_
      refine Eng.seqk fun K56 hK56 => ?_
      refine Eng.cond_f rfl ?_
      refine Eng.xt ?_
      refine Eng.te ?_
      refine Eng.te ?_
      refine Eng.be ?_
      refine hK12 _ _ ?_
      refine Eng.seqk fun K57 hK57 => ?_
      refine Eng.reg ?_
      refine Eng.sv rfl rfl (Eng.x_mv (v := vp) rfl rfl) ?_
      refine Eng.sv rfl rfl (Eng.x_mv (v := vp) rfl rfl) ?_
      refine Eng.sv rfl rfl (Eng.x_len (v := vp) (r := (s.reverse.length : Int)) rfl Tryd.underlying185 rfl (hrL14_0).row rfl) ?_
      refine Eng.sv rfl rfl (Eng.x_sub rfl rfl rfl (Eng.w64 (r := ((s.reverse.length - 1 : Nat) : Int)) (by omega))) ?_
      refine Eng.sv rfl rfl (Eng.x_ia (v := vp) (j := s.reverse.length - 1) rfl Tryd.underlying185 sz187_rt (by decide) rfl rfl (hrL14_0).row (Eng.flat_len (hrL14_0).2) (by omega) (by omega)) ?_
      refine Eng.sv rfl rfl (Eng.x_fa (v := (.pointer (some (((Eng.sAddr vp).add ((s.reverse.length - 1) * 33)).add 1)))) rfl rfl (by kernel_rfl)) ?_
      refine Eng.sv rfl rfl (Eng.x_ldA (v := (dg (((s.reverse).getD (s.reverse.length - 1) dP).2))) rfl ag45_rt sz45_rt rfl ((bcs_length _).trans (hP _ (Eng.getD_mem (d := dP) (l := s.reverse) (by omega)))) (Eng.rl_tail (pre := [(.int .i64 (((s.reverse).getD (s.reverse.length - 1) dP).1 : Int))]) (mid := (bcs (((s.reverse).getD (s.reverse.length - 1) dP).2))) (hrL14_0).rl dP (by omega) rfl rfl) rfl) ?_
      refine Eng.al rfl rfl rfl zr45_rt (cs := (bcs Oct.dz)) rfl ?_
      intro w58 hk58 hb58 hz58
      refine Eng.stB (v := (dg (((s.reverse).getD (s.reverse.length - 1) dP).2))) rfl rfl rfl sz45_rt rfl hk58 rfl rfl (cs' := (bcs (((s.reverse).getD (s.reverse.length - 1) dP).2))) rfl ((bcs_length _).trans (hP _ (Eng.getD_mem (d := dP) (l := s.reverse) (by omega)))) (bcs_one _) ?_
      intro w59 hk59 hg59
      refine Eng.nil ?_
      refine hK57 _ _ ?_
      refine Eng.seqk fun K60 hK60 => ?_
      refine Eng.seqk fun K61 hK61 => ?_
      refine Eng.reg ?_
      refine Eng.sv rfl rfl (Eng.x_mv (v := vp) rfl rfl) ?_
      refine Eng.sv rfl rfl (Eng.x_mv (v := vp) rfl rfl) ?_
      have hr62 := ((hrL14_0).below hb58).kept hg59 (.inr (fun e => absurd ((World.ownsRow.lt (hrL14_0).1) _ e).2 (Nat.not_lt_of_le (Nat.le_trans (Nat.le_refl _) (Nat.le_refl _)))))
      refine Eng.sv rfl rfl (Eng.x_len (v := vp) (r := (s.reverse.length : Int)) rfl Tryd.underlying185 rfl (hr62).row rfl) ?_
      refine Eng.sv rfl rfl (Eng.x_sub rfl rfl rfl (Eng.w64 (r := ((s.reverse.length - 1 : Nat) : Int)) (by omega))) ?_
      have hq63 : Eng.OwnL 187 33 encP w2.heap.size w59 (Eng.sCut vp 0 (s.reverse.length - 1) 33) ((s.reverse).take (s.reverse.length - 1)) := (Eng.ol_pre hr62 (by omega)).1
      have hlt64 : ∀ g_, ((Eng.sCut vp 0 (s.reverse.length - 1) 33)).ownBlock = some g_ → w2.heap.size ≤ g_ ∧ g_ < w14.heap.size := fun g_ e_ => (World.ownsRow.lt (hrL14_0).1) g_ (((Eng.ol_pre hr62 (by omega)).2).symm.trans e_)
      refine Eng.sv rfl rfl (Eng.x_sl (v := vp) rfl Tryd.underlying185 sz187_rt rfl (hr62).row 0 (s.reverse.length - 1) (.inl ⟨rfl, rfl⟩) (Eng.bd (k := .i64) rfl) (by omega) (by omega)) ?_
      refine Eng.sc rfl (Eng.xc (vl := [(Eng.sCut vp 0 (s.reverse.length - 1) 33)]) rfl rfl rfl en118_rt) (bwd_calls _ _ _ _ (hq63).row) ?_
      rintro _ w65 ⟨b65, rfl, hk65, hl65, hb65⟩
      refine Eng.aft_v rfl ?_
      refine Eng.nil ?_
      refine hK61 _ _ ?_
      refine Eng.blk ?_
      have hr66 := (hq63).below hb65
      have hk67 := (((hkL14_0).below hb58).grown hg59 (fun e => absurd (Option.some.inj e) (Nat.ne_of_lt (Nat.lt_of_lt_of_le hz2 (Nat.le_trans hzL14 (Nat.le_refl _)))))).below hb65
      have hk68 := (hk59).below hb65
      obtain ⟨LL, hLL⟩ : ∃ LL, LL = (s.reverse).take (s.reverse.length - 1) := ⟨_, rfl⟩
      have hrow : Eng.OwnL 187 33 encP w2.heap.size w65 (Eng.sCut vp 0 (s.reverse.length - 1) 33) LL := by rw [hLL]; exact hr66
      have hPL : ∀ p ∈ LL, p.2.length = 32 := fun p hp => hP0 p (by rw [hLL] at hp; exact List.mem_of_mem_take hp)
      obtain ⟨y, hyl, hyb, hyn⟩ := own_at hrow.1 (g7 := w14.heap.size) (z := w.heap.size) (fun g e => fun q => absurd (hlt64 _ (show ((Eng.sCut vp 0 (s.reverse.length - 1) 33)).ownBlock = some (w14.heap.size) from e.trans (congrArg some q))).2 (Nat.not_lt_of_le (Nat.le_trans (Nat.le_refl _) (Nat.le_refl _)))) (hk67).lt (Nat.ne_of_lt (Nat.lt_of_lt_of_le hz2 (Nat.le_trans hzL14 (Nat.le_refl _))))
      have hbl_ : b65 < w65.heap.size := (hk65).lt
      have hbn : b65 ≠ w14.heap.size := (Nat.ne_of_gt (Nat.lt_of_lt_of_le hz58 (Nat.le_trans (hg59).size hl65)))
      have hB0_3 : Below w.heap.size w w58 := (hBL14).trans (hb58.mono (hBL14).size)
      have hB0_4 : Below w.heap.size w w59 := (hB0_3).grown hg59 (hB0_3).size (fun k e => by cases e; exact Nat.le_trans (hBL14).size (Nat.le_refl _))
      have hB0_5 : Below w.heap.size w w65 := (hB0_4).trans (hb65.mono (hB0_4).size)
      refine Eng.rfun (α := { j : Nat // j < LL.length }) (gf := 177) (lb := #[.pointer (some ⟨b65, 0, none⟩)]) rfl en177_rt (bwd_stops LL hPL b65 y (Eng.sCut vp 0 (s.reverse.length - 1) 33) _ hk65 hrow.rl hyb hyl) (fun h k => h.trans k) (fun W l o o_ hl ho _ _ => Eng.Two.put (Nat.ne_of_lt (Nat.lt_of_lt_of_le hbl_ hl)) (Nat.ne_of_lt (Nat.lt_of_lt_of_le hyl hl))) (Below.refl _ _) (fun _ => rfl) (fun (pre : List { j : Nat // j < LL.length }) W => Below w.heap.size w W ∧ w65.heap.size ≤ W.heap.size ∧ Blk W w.heap.size 45 (bcs Oct.dz) ∧ Blk W w14.heap.size 45 (bcs (foldB LL (((s.reverse).getD (s.reverse.length - 1) dP).2) pre))) (fun _ _ _ => False) (fun x u_ W => ∃ gx, Eng.Has u_ [(2, (.pointer (some ⟨w.heap.size, 0, none⟩))), (7, (.pointer (some ⟨w14.heap.size, 0, none⟩))), (9, (.pointer (some ⟨gx, 0, none⟩)))] ∧ Blk W gx 187 (encP (LL.getD x.1 dP)) ∧ w65.heap.size ≤ gx) ?_ ?_ ?_ ?_ ?_ ?_ ?_ ?_
      · exact fun pre A B row ⟨h1, h2, h3, h4⟩ hg hr => ⟨Eng.belF h1 hg hr (hB0_5).size (Nat.le_trans (hB0_5).size h2), Nat.le_trans h2 hg.size, Eng.blkF h3 hg hr, Eng.blkF h4 hg hr⟩
      · exact fun c s A B row h _ _ => h
      · exact fun x u_ _ A B row ⟨gx, h1, h2, h3⟩ hg hr => ⟨gx, h1, Eng.blkF h2 hg hr, h3⟩
      · exact ⟨hB0_5, Nat.le_refl _, hk67, hk68⟩
      · intro lr pre x w69 K ⟨hi169, hi269, hi369, hi469⟩ hK_
        show Eng.wpC _ _ _ _ (Eng.act _ (Eng.updZ _ #[74, 75] #[_, _]) _) _
        rw [updZ2]
        refine Eng.reg ?_
        refine Eng.al rfl rfl rfl zr187_rt (cs := ((.int .i64 0) :: (bcs Oct.dz))) rfl ?_
        intro w70 hk70 hb70 hz70
        refine Eng.stB (v := (.agg (encP (LL.getD x.1 dP)).toArray)) rfl rfl rfl sz187_rt rfl hk70 (Eng.len_cons (.int .i64 0) (Eng.len_dg Oct.dz_length)) rfl (cs' := (encP (LL.getD x.1 dP))) rfl (encP_len (hPL _ (Eng.getD_mem x.2))) (one_part _) ?_
        intro w71 hk71 hg71
        refine Eng.nil ?_
        have hB0_7 : Below w.heap.size w w70 := (hi169).trans (hb70.mono (hi169).size)
        have hB0_8 : Below w.heap.size w w71 := (hB0_7).grown hg71 (hB0_7).size (fun k e => by cases e; exact Nat.le_trans (hi169).size (Nat.le_refl _))
        have hB6_8 : Below w69.heap.size w69 w71 := (hb70).grown hg71 (hb70).size (fun k e => by cases e; exact Nat.le_trans (Nat.le_refl _) (Nat.le_refl _))
        have hk72 := ((hi369).below hb70).grown hg71 (fun e => absurd (Option.some.inj e) (Nat.ne_of_lt (Nat.lt_of_lt_of_le hz2 (Nat.le_trans (Nat.le_trans (Nat.le_trans (Nat.le_trans (Nat.le_trans hzL14 (hb58).size) (hg59).size) (hb65).size) hi269) (Nat.le_refl _)))))
        have hk73 := ((hi469).below hb70).grown hg71 (fun e => absurd (Option.some.inj e) (Nat.ne_of_lt (Nat.lt_of_lt_of_le hz58 (Nat.le_trans (Nat.le_trans (Nat.le_trans (hg59).size (hb65).size) hi269) (Nat.le_refl _)))))
        exact hK_ _ _ ((Eng.keeps_below hb70).trans (Eng.keeps_grown hk70 hg71)) ((Eng.Two.below hb70 (Nat.lt_of_lt_of_le (Nat.lt_of_lt_of_le hbl_ hi269) (Nat.le_refl _)) (Nat.lt_of_lt_of_le (Nat.lt_of_lt_of_le hyl hi269) (Nat.le_refl _))).trans (Eng.Two.grown hg71 (Nat.lt_of_lt_of_le (Nat.lt_of_lt_of_le hbl_ hi269) (hb70).size) (Nat.lt_of_lt_of_le (Nat.lt_of_lt_of_le hyl hi269) (hb70).size) (Nat.ne_of_lt (Nat.lt_of_lt_of_le hbl_ (Nat.le_trans hi269 (Nat.le_refl _)))) (Nat.ne_of_lt (Nat.lt_of_lt_of_le hyl (Nat.le_trans hi269 (Nat.le_refl _)))))) ⟨hB0_8, Nat.le_trans hi269 (hB6_8).size, hk72, hk73⟩ ⟨w69.heap.size, ⟨rfl, rfl, rfl, trivial⟩, hk71, (Nat.le_trans hi269 (Nat.le_refl _))⟩
      · rintro lr pre x u_ w74 ⟨hi174, hi274, hi374, hi474⟩ ⟨gx, hH_, hgx, hgl⟩ hlen_
        obtain ⟨u9_, rfl⟩ := hH_.ex
        refine Eng.blk ?_
        refine Eng.reg ?_
        refine Eng.sv rfl rfl (Eng.x_fa (v := (.pointer (some ⟨gx, 1, none⟩))) rfl rfl (by kernel_rfl)) ?_
        refine Eng.sv rfl rfl (Eng.x_ldA (v := (dg ((LL.getD x.1 dP).2))) rfl ag45_rt sz45_rt rfl ((bcs_length _).trans (hPL _ (Eng.getD_mem x.2))) (Eng.blk_tail (pre := [(.int .i64 ((LL.getD x.1 dP).1 : Int))]) (mid := (bcs ((LL.getD x.1 dP).2))) hgx rfl) rfl) ?_
        refine Eng.sv rfl rfl (Eng.x_ldB (v := (dg (foldB LL (((s.reverse).getD (s.reverse.length - 1) dP).2) pre))) rfl ag45_rt sz45_rt rfl hi474 ((bcs_length _).trans (foldB_len LL _ hd0 _)) rfl) ?_
        have hr75 := (hK).below hi174
        refine Eng.sc rfl (Eng.xc (vl := [(dg ((LL.getD x.1 dP).2)), (dg (foldB LL (((s.reverse).getD (s.reverse.length - 1) dP).2) pre))]) rfl rfl rfl en117_rt) (node_calls _ _ (hPL _ (Eng.getD_mem x.2)) (foldB_len LL _ hd0 _) _ hr75) ?_
        rintro _ w76 ⟨rfl, hb76⟩
        refine Eng.aft_v rfl ?_
        have hk77 := (hi474).below hb76
        refine Eng.stB (v := (dg (nodeS (LL.getD x.1 dP).2 (foldB LL (((s.reverse).getD (s.reverse.length - 1) dP).2) pre)))) rfl rfl rfl sz45_rt rfl hk77 ((bcs_length _).trans (foldB_len LL _ hd0 _)) rfl (cs' := (bcs (nodeS (LL.getD x.1 dP).2 (foldB LL (((s.reverse).getD (s.reverse.length - 1) dP).2) pre)))) rfl ((bcs_length _).trans (nodeS_len _ _)) (bcs_one _) ?_
        intro w78 hk78 hg78
        refine Eng.nil ?_
        refine Eng.nb ?_
        have hB0_7 : Below w.heap.size w w76 := (hi174).trans (hb76.mono (hi174).size)
        have hB0_8 : Below w.heap.size w w78 := (hB0_7).grown hg78 (hB0_7).size (fun k e => by cases e; exact Nat.le_trans (hBL14).size (Nat.le_refl _))
        have hk79 := ((hi374).below hb76).grown hg78 (fun e => absurd (Option.some.inj e) (Nat.ne_of_lt (Nat.lt_of_lt_of_le hz2 (Nat.le_trans hzL14 (Nat.le_refl _)))))
        exact ⟨((Eng.keeps_below hb76).trans (Eng.keeps_grown hk77 hg78)), ((Eng.Two.below hb76 (Nat.lt_of_lt_of_le (Nat.lt_of_lt_of_le hbl_ hi274) (Nat.le_refl _)) (Nat.lt_of_lt_of_le (Nat.lt_of_lt_of_le hyl hi274) (Nat.le_refl _))).trans (Eng.Two.grown hg78 (Nat.lt_of_lt_of_le (Nat.lt_of_lt_of_le hbl_ hi274) (hb76).size) (Nat.lt_of_lt_of_le (Nat.lt_of_lt_of_le hyl hi274) (hb76).size) hbn hyn)), hB0_8, Nat.le_trans hi274 (Nat.le_trans (hb76).size (hg78).size), hk79, by rw [foldB_snoc]; exact hk78⟩
      · intro D81 xs w80 hDD81 hS_ ⟨hi180, hi280, hi380, hi480⟩ hfD81
        rw [foldB_all LL _ xs hS_, hLL, hcut0, List.reverse_reverse, hfold0] at hi480
        refine Eng.nb ?_
        refine hK60 _ _ ?_
        refine Eng.seqk fun K82 hK82 => ?_
        refine Eng.reg ?_
        refine Eng.sv rfl rfl (Eng.x_ldB (v := (dg (R ds))) rfl ag45_rt sz45_rt rfl hi480 ((bcs_length _).trans hR32) rfl) ?_
        refine Eng.stB (v := (dg (R ds))) rfl rfl rfl sz45_rt rfl hi380 rfl rfl (cs' := (bcs (R ds))) rfl ((bcs_length _).trans hR32) (bcs_one _) ?_
        intro w83 hk83 hg83
        refine Eng.nil ?_
        refine hK82 _ _ ?_
        refine Eng.rt ?_
        have hDD := (hfD81).grown hg83 (fun e => absurd (Option.some.inj e) (Nat.ne_of_gt (Nat.lt_of_lt_of_le hz2 (Nat.le_trans (Nat.le_trans (Nat.le_trans (Nat.le_trans hzL14 (hb58).size) (hg59).size) (hb65).size) hDD81))))
        refine Eng.retC hDD (fun w_ _ _ hbk_ => Eng.res1 (v1 := (dg (R ds))) rfl (Eng.rdc rfl (Eng.lvB ag45_rt sz45_rt (hbk_ _ _ _ hk83) ((bcs_length _).trans hR32) rfl))) (fun w_ hw_ => ?_)
        have hB0_7 : Below w.heap.size w w83 := (hi180).grown hg83 (hi180).size (fun k e => by cases e; exact Nat.le_trans (Nat.le_refl _) (Nat.le_refl _))
        have hBC := (hB0_7).trans (hw_.mono (Nat.le_trans (hB0_5).size hDD81))
        exact ⟨by unfold rootS; rw [if_neg (by omega)], hBC⟩
      · intro D_ c_ pre_ W_ _ _ hx_ _; exact hx_.elim
end Go.Proofs.YtnecgoahdkfbeaaDoor.TreP
end

section
namespace Go.Proofs.YtnecgoahdkfbeaaDoor.Tid
open Go Go.RowKit Go.Proofs.YtnecgoahdkfbeaaDoor Go.Proofs.YtnecgoahdkfbeaaDoor.Cop Go.Proofs.YtnecgoahdkfbeaaDoor.Ver Go.Proofs.YtnecgoahdkfbeaaDoor.Tre Go.Proofs.YtnecgoahdkfbeaaDoor.TreP Go.Proofs.YtnecgoahdkfbeaaDoor.Vfy Go.Proofs.YtnecgoahdkfbeaaDoor.Oct Go.Proofs.YtnecgoahdkfbeaaDoor.Dsl Go.Proofs.YtnecgoahdkfbeaaDoor.Sha
set_option linter.unusedVariables false
set_option linter.unusedSimpArgs false
theorem en119_ts : Eng.Entr Tryd.prog 119 := ⟨_, Tryd.func119, by kernel_rfl, by kernel_rfl⟩
theorem zr45_ts (w : World) : (zeroValue 45).run Tryd.prog w = .ok (dg Oct.dz) w := by kernel_rfl
theorem sz45_ts : (Tryd.prog.info? 45).map (fun i => i.size) = some 32 := by kernel_rfl
theorem ag45_ts (w : World) : (isAgg 45).run Tryd.prog w = .ok true w := by kernel_rfl
theorem in45_ts : (Tryd.prog.info? 45).map (fun i => (i.zero, i.size, i.bytes)) = some (some (dg Oct.dz), 32, 32) := by kernel_rfl
theorem en139_ts : Eng.Entr Tryd.prog 139 := ⟨_, Tryd.func139, by kernel_rfl, by kernel_rfl⟩
theorem en123_ts : Eng.Entr Tryd.prog 123 := ⟨_, Tryd.func123, by kernel_rfl, by kernel_rfl⟩
theorem en124_ts : Eng.Entr Tryd.prog 124 := ⟨_, Tryd.func124, by kernel_rfl, by kernel_rfl⟩
theorem en67_ts : Eng.Entr Tryd.prog 67 := ⟨_, Tryd.func67, by kernel_rfl, by kernel_rfl⟩
theorem en125_ts : Eng.Entr Tryd.prog 125 := ⟨_, Tryd.func125, by kernel_rfl, by kernel_rfl⟩
def dL (b : List UInt8) (n : Nat) : List (List UInt8) := (List.range n).map fun i : Nat => gd b (32 * (i : Int))
theorem dL_length (b : List UInt8) (n : Nat) : (dL b n).length = n := by simp [dL]
theorem dL_32 (b : List UInt8) (n : Nat) : All32 (dL b n) := by
  intro d hd
  obtain ⟨i, _, rfl⟩ := List.mem_map.1 hd
  exact gd_length _ _
theorem dL_succ (b : List UInt8) (n : Nat) : dL b (n + 1) = dL b n ++ [gd b (32 * (n : Int))] := by simp [dL, List.range_succ]
set_option maxRecDepth 100000 in
set_option maxHeartbeats 4000000 in
theorem pdigs_calls (v : Value) (b : List UInt8) (w : World) (h : Bs w v b) : Calls Tryd.prog 59 #[v] w (fun e w' => ∃ v', e = .returned v' ∧ Eng.OwnD w.heap.size w' v' (dL b (b.length / 32)) ∧ Below w.heap.size w w') := by
  have hbl := h.2
  refine Eng.enter (l := [v]) Tryd.func59 rfl 28 rfl (by simp) ?_
  refine Eng.seqk fun K1 hK1 => ?_
  refine Eng.reg ?_
  refine Eng.sv rfl rfl (Eng.x_as (v := (.slice none 0 0)) rfl rfl) ?_
  refine Eng.nil ?_
  refine hK1 _ _ ?_
  refine Eng.seqk fun K2 hK2 => ?_
  refine Eng.reg ?_
  refine Eng.sv rfl rfl (Eng.x_as (v := (.slice none 0 0)) rfl rfl) ?_
  refine Eng.nil ?_
  refine hK2 _ _ ?_
  refine Eng.seqk fun K3 hK3 => ?_
  refine Eng.seqk fun K4 hK4 => ?_
  refine Eng.reg ?_
  refine Eng.sv rfl rfl (Eng.x_mv (v := v) rfl rfl) ?_
  refine Eng.sv rfl rfl (Eng.x_len (v := v) (r := (b.length : Int)) rfl Tryd.underlying48 rfl (h).1 rfl) ?_
  refine Eng.sv rfl rfl (Eng.x_quo rfl rfl rfl (by decide) (r := ((b.length / 32 : Nat) : Int)) (Eng.w64 ⟨tdiv_nat b.length 32, by omega, by omega⟩)) ?_
  refine Eng.sv rfl rfl (Eng.x_mv (v := (.int .i64 0)) rfl rfl) ?_
  refine Eng.nil ?_
  refine hK4 _ _ ?_
  refine Eng.blk ?_
  refine Eng.loopN (fun zz u w' => ∃ (k : Nat), ∃ (vp : Value), zz = b.length / 32 - k ∧ k ≤ b.length / 32 ∧ Eng.Has u [(0, v), (2, (.slice none 0 0)), (3, vp), (10, (.int .i64 ((b.length / 32 : Nat) : Int))), (11, (.int .i64 (k : Int)))] ∧ Below w.heap.size w w' ∧ w.heap.size ≤ w'.heap.size ∧ Eng.OwnD w.heap.size w' vp (dL b k)) _ ⟨0, (.slice none 0 0), rfl, by omega, ⟨rfl, rfl, rfl, rfl, (Eng.ie (by first | omega | rfl)), trivial⟩, (Below.refl _ _), (Nat.le_refl _), (Eng.OwnD.nil _ _)⟩ ?_
  rintro _ u5 w5 ⟨k, vp, rfl, hs5_0, hH5, hBL5, hzL5, hrL5_0⟩ K5 hK5
  obtain ⟨u5, rfl⟩ := hH5.ex
  refine Eng.seqk fun K6 hK6 => ?_
  refine Eng.reg ?_
  by_cases h12 : ((k : Int) : Int) < ((b.length / 32 : Nat) : Int)
  · skip
    refine Eng.sv rfl rfl (Eng.x_lt (r := true) rfl rfl rfl (decide_eq_true (by omega))) ?_
    refine Eng.nil ?_
    refine hK6 _ _ ?_
    refine Eng.seqk fun K7 hK7 => ?_
    refine Eng.cond_t rfl ?_
    refine Eng.skp ?_
    refine hK7 _ _ ?_
    refine Eng.seqk fun K8 hK8 => ?_
    refine Eng.blk ?_
    refine Eng.seqk fun K9 hK9 => ?_
    refine Eng.reg ?_
    refine Eng.sv rfl rfl (Eng.x_mv (v := (.int .i64 (k : Int))) rfl rfl) ?_
    refine Eng.sv rfl rfl (Eng.x_as (v := (.int .i64 (k : Int))) rfl rfl) ?_
    refine Eng.nil ?_
    refine hK9 _ _ ?_
    refine Eng.seqk fun K10 hK10 => ?_
    refine Eng.reg ?_
    refine Eng.sv rfl rfl (Eng.x_mv (v := v) rfl rfl) ?_
    refine Eng.sv rfl rfl (Eng.x_mv (v := (.int .i64 (k : Int))) rfl rfl) ?_
    refine Eng.sv rfl rfl (Eng.x_mul rfl rfl rfl (Eng.w64 (r := (32 * (k : Int))) (by omega))) ?_
    have hr11 := (h).below hBL5
    refine Eng.sc rfl (Eng.xc (vl := [v, (.int .i64 (32 * (k : Int)))]) rfl rfl rfl en119_ts) ((gdig_calls v b (32 * (k : Int)) _ hr11 (by omega)).mono fun _ _ => GetD.out) ?_
    rintro _ w12 ⟨rfl, hb12⟩
    refine Eng.aft_v rfl ?_
    refine Eng.sv rfl rfl (Eng.x_mv (v := (.tuple #[(dg (gd b (32 * (k : Int)))), (.int .i64 (gn b (32 * (k : Int)) 32)), (.int .i64 (room b.length (32 * (k : Int)) 32))])) rfl rfl) ?_
    refine Eng.sv rfl rfl (Eng.x_ext (v := (dg (gd b (32 * (k : Int))))) rfl rfl rfl) ?_
    refine Eng.sv rfl rfl (Eng.x_ext (v := (.int .i64 (gn b (32 * (k : Int)) 32))) rfl rfl rfl) ?_
    refine Eng.sv rfl rfl (Eng.x_ext (v := (.int .i64 (room b.length (32 * (k : Int)) 32))) rfl rfl rfl) ?_
    refine Eng.al rfl rfl rfl zr45_ts (cs := (bcs Oct.dz)) rfl ?_
    intro w13 hk13 hb13 hz13
    refine Eng.stB (v := (dg (gd b (32 * (k : Int))))) rfl rfl rfl sz45_ts rfl hk13 rfl rfl (cs' := (bcs (gd b (32 * (k : Int))))) rfl ((bcs_length _).trans (gd_length _ _)) (bcs_one _) ?_
    intro w14 hk14 hg14
    refine Eng.sv rfl rfl (Eng.x_as (v := (.int .i64 (gn b (32 * (k : Int)) 32))) rfl rfl) ?_
    refine Eng.sv rfl rfl (Eng.x_as (v := (.int .i64 (room b.length (32 * (k : Int)) 32))) rfl rfl) ?_
    refine Eng.nil ?_
    refine hK10 _ _ ?_
    refine Eng.reg ?_
    refine Eng.sv rfl rfl (Eng.x_mv (v := vp) rfl rfl) ?_
    refine Eng.sv rfl rfl (Eng.x_ldB (v := (dg (gd b (32 * (k : Int))))) rfl ag45_ts sz45_ts rfl hk14 ((bcs_length _).trans (gd_length _ _)) rfl) ?_
    refine Eng.bs (vs := [(dg (gd b (32 * (k : Int))))]) (cs := (Dsl.dcs [(gd b (32 * (k : Int)))])) rfl rfl rfl Tryd.underlying36 in45_ts (dg_size dz_length) (by decide) rfl rfl (by decide) (by decide) (Eng.all_cons (p := fun v => v.cells.size = 32) (Eng.dg_cells (gd_length _ _)) Eng.all_nil) (by simp [Dsl.dcs, Value.cells]) ?_
    intro w15 hk15 hb15 hz15
    have hr17 := ((((hrL5_0).below hb12).below hb13).kept hg14 (.inr (fun e => absurd ((World.ownsRow.lt (hrL5_0).1) _ e).2 (Nat.not_lt_of_le (Nat.le_trans (hb12).size (Nat.le_refl _)))))).below hb15
    have hB0_2 : Below w.heap.size w w12 := (hBL5).trans (hb12.mono (hBL5).size)
    have hB0_3 : Below w.heap.size w w13 := (hB0_2).trans (hb13.mono (hB0_2).size)
    have hB0_4 : Below w.heap.size w w14 := (hB0_3).grown hg14 (hB0_3).size (fun k e => by cases e; exact Nat.le_trans (hB0_2).size (Nat.le_refl _))
    have hB0_5 : Below w.heap.size w w15 := (hB0_4).trans (hb15.mono (hB0_4).size)
    refine Eng.apD rfl rfl rfl rfl hr17 rfl (Eng.ds_lit hk15 (Eng.all32_one (gd_length _ _)) (Nat.le_of_ble_eq_true rfl)) (by simp only [dL_length, List.length_singleton]; omega) (hB0_5).size ?_
    intro v16 w16 ho16 hg16
    rw [← dL_succ] at ho16
    refine Eng.sv rfl rfl (Eng.x_as (v := v16) rfl rfl) ?_
    refine Eng.nil ?_
    refine Eng.nb ?_
    refine hK8 _ _ ?_
    refine Eng.reg ?_
    refine Eng.sv rfl rfl (Eng.x_add rfl rfl rfl (Eng.w64 (r := ((k : Int) + 1)) (by omega))) ?_
    refine Eng.sv rfl rfl (Eng.x_mv (v := (.int .i64 ((k : Int) + 1))) rfl rfl) ?_
    refine Eng.nil ?_
    have hB0_6 : Below w.heap.size w w16 := (hB0_5).grown hg16 (hB0_5).size (fun k e => Nat.le_trans (Nat.le_refl _) ((World.ownsRow.lt (hrL5_0).1) _ e).1)
    exact hK5 _ _ _ ⟨k + 1, v16, rfl, by omega, ⟨rfl, rfl, rfl, rfl, (Eng.ie (by first | omega | rfl)), trivial⟩, hB0_6, (hB0_6).size, ho16⟩ (by omega)
  · skip
    refine Eng.sv rfl rfl (Eng.x_lt (r := false) rfl rfl rfl (decide_eq_false (by omega))) ?_
    refine Eng.nil ?_
    refine hK6 _ _ ?_
    refine Eng.seqk fun K18 hK18 => ?_
    refine Eng.cond_f rfl ?_
    refine Eng.xt ?_
    refine Eng.te ?_
    refine Eng.te ?_
    refine Eng.be ?_
    refine hK3 _ _ ?_
    refine Eng.seqk fun K19 hK19 => ?_
    refine Eng.reg ?_
    refine Eng.sv rfl rfl (Eng.x_mv (v := vp) rfl rfl) ?_
    refine Eng.sv rfl rfl (Eng.x_as (v := vp) rfl rfl) ?_
    refine Eng.nil ?_
    refine hK19 _ _ ?_
    refine Eng.rt ?_
    refine Eng.ret (Eng.res1 (v1 := vp) rfl (Eng.rdt rfl)) ?_
    have hkn : k = b.length / 32 := by omega
    rw [hkn] at hrL5_0
    exact ⟨_, rfl, (hrL5_0).mono (Nat.le_refl _), hBL5⟩
set_option maxRecDepth 100000 in
set_option maxHeartbeats 4000000 in
theorem rhalf4_calls (n : Nat) (h : 2 ≤ n) (h' : n ≤ 281474976710656) (w : World) : Calls Tryd.prog 124 #[(.int .i64 (n : Int))] w (fun e w' => e = .returned (.int .i64 (H n : Int)) ∧ Below w.heap.size w w') := by
  refine Eng.enter (l := [(.int .i64 (n : Int))]) Tryd.func124 rfl 12 rfl (by simp) ?_
  refine Eng.seqk fun K1 hK1 => ?_
  refine Eng.reg ?_
  refine Eng.sv rfl rfl (Eng.x_as (v := (.int .i64 0)) rfl rfl) ?_
  refine Eng.nil ?_
  refine hK1 _ _ ?_
  refine Eng.seqk fun K2 hK2 => ?_
  refine Eng.reg ?_
  refine Eng.sv rfl rfl (Eng.x_as (v := (.int .i64 1)) rfl rfl) ?_
  refine Eng.nil ?_
  refine hK2 _ _ ?_
  refine Eng.seqk fun K3 hK3 => ?_
  refine Eng.blk ?_
  refine Eng.loopN (fun zz u w' => ∃ (j : Nat), zz = n - 2 ^ j ∧ 2 ^ j < n ∧ Eng.Has u [(0, (.int .i64 (n : Int))), (2, (.int .i64 0)), (3, (.int .i64 ((2 ^ j : Nat) : Int)))] ∧ Below w.heap.size w w' ∧ w.heap.size ≤ w'.heap.size) _ ⟨0, rfl, (by show 2 ^ 0 < n; rw [Nat.pow_zero]; omega), ⟨rfl, rfl, (Eng.ie (by first | omega | rfl)), trivial⟩, (Below.refl _ _), (Nat.le_refl _)⟩ ?_
  rintro _ u4 w4 ⟨j, rfl, hs4_0, hH4, hBL4, hzL4⟩ K4 hK4
  obtain ⟨u4, rfl⟩ := hH4.ex
  have hs_ : 2 ^ j < n := hs4_0
  have hj0 := Nat.two_pow_pos j
  have hjs := Nat.pow_succ 2 j
  refine Eng.seqk fun K5 hK5 => ?_
  refine Eng.seqk fun K6 hK6 => ?_
  refine Eng.reg ?_
  refine Eng.sv rfl rfl (Eng.x_mv (v := (.int .i64 ((2 ^ j : Nat) : Int))) rfl rfl) ?_
  refine Eng.sv rfl rfl (Eng.x_mv (v := (.int .i64 (n : Int))) rfl rfl) ?_
  refine Eng.sv rfl rfl (Eng.x_mv (v := (.int .i64 ((2 ^ j : Nat) : Int))) rfl rfl) ?_
  refine Eng.sv rfl rfl (Eng.x_sub rfl rfl rfl (Eng.w64 (r := ((n : Int) - ((2 ^ j : Nat) : Int))) (by omega))) ?_
  by_cases h8 : (((2 ^ j : Nat) : Int) : Int) < ((n : Int) - ((2 ^ j : Nat) : Int))
  · skip
    refine Eng.sv rfl rfl (Eng.x_lt (r := true) rfl rfl rfl (decide_eq_true (by omega))) ?_
    refine Eng.nil ?_
    refine hK6 _ _ ?_
    refine Eng.cond_t rfl ?_
    refine Eng.skp ?_
    refine hK5 _ _ ?_
    refine Eng.blk ?_
    refine Eng.reg ?_
    refine Eng.sv rfl rfl (Eng.x_mv (v := (.int .i64 ((2 ^ j : Nat) : Int))) rfl rfl) ?_
    refine Eng.sv rfl rfl (Eng.x_mul rfl rfl rfl (Eng.w64 (r := ((2 ^ (j + 1) : Nat) : Int)) (by omega))) ?_
    refine Eng.sv rfl rfl (Eng.x_as (v := (.int .i64 ((2 ^ (j + 1) : Nat) : Int))) rfl rfl) ?_
    refine Eng.nil ?_
    refine Eng.nb ?_
    exact hK4 _ _ _ ⟨j + 1, rfl, (by rw [Nat.pow_succ]; omega), ⟨rfl, rfl, rfl, trivial⟩, hBL4, (hBL4).size⟩ (by omega)
  · skip
    refine Eng.sv rfl rfl (Eng.x_lt (r := false) rfl rfl rfl (decide_eq_false (by omega))) ?_
    refine Eng.nil ?_
    refine hK6 _ _ ?_
    refine Eng.cond_f rfl ?_
    refine Eng.xt ?_
    refine Eng.te ?_
    refine Eng.te ?_
    refine Eng.be ?_
    refine hK3 _ _ ?_
    refine Eng.seqk fun K7 hK7 => ?_
    refine Eng.reg ?_
    refine Eng.sv rfl rfl (Eng.x_mv (v := (.int .i64 ((2 ^ j : Nat) : Int))) rfl rfl) ?_
    refine Eng.sv rfl rfl (Eng.x_as (v := (.int .i64 ((2 ^ j : Nat) : Int))) rfl rfl) ?_
    refine Eng.nil ?_
    refine hK7 _ _ ?_
    refine Eng.rt ?_
    refine Eng.ret (Eng.res1 (v1 := (.int .i64 ((2 ^ j : Nat) : Int))) rfl (Eng.rdt rfl)) ?_
    exact ⟨by rw [H_uniq n j h h' hs_ (by omega)], hBL4⟩
set_option maxRecDepth 100000 in
set_option maxHeartbeats 4000000 in
theorem rempty_calls (w : World) : Calls Tryd.prog 123 #[] w (fun e w' => e = .returned (dg (sha [])) ∧ Below w.heap.size w w') := by
  refine Eng.enter (l := []) Tryd.func123 rfl 2 rfl (by simp) ?_
  refine Eng.seqk fun K1 hK1 => ?_
  refine Eng.reg ?_
  refine Eng.al rfl rfl rfl zr45_ts (cs := (bcs Oct.dz)) rfl ?_
  intro w2 hk2 hb2 hz2
  refine Eng.nil ?_
  refine hK1 _ _ ?_
  refine Eng.seqk fun K3 hK3 => ?_
  refine Eng.reg ?_
  refine Eng.sc rfl (Eng.xc (vl := [(.slice none 0 0)]) rfl rfl rfl en139_ts) (rsum_calls (.slice none 0 0) [] _ (Row.nil _) (by simp)) ?_
  rintro _ w4 ⟨rfl, hb4⟩
  refine Eng.aft_v rfl ?_
  have hk5 := (hk2).below hb4
  refine Eng.stB (v := (dg (sha []))) rfl rfl rfl sz45_ts rfl hk5 rfl rfl (cs' := (bcs (sha []))) rfl ((bcs_length _).trans (sha_len _)) (bcs_one _) ?_
  intro w6 hk6 hg6
  refine Eng.nil ?_
  refine hK3 _ _ ?_
  refine Eng.rt ?_
  refine Eng.ret (Eng.res1 (v1 := (dg (sha []))) rfl (Eng.rdc rfl (Eng.lvB ag45_ts sz45_ts hk6 ((bcs_length _).trans (sha_len _)) rfl))) ?_
  have hB0_2 : Below w.heap.size w w4 := (hb2).trans (hb4.mono (hb2).size)
  have hB0_3 : Below w.heap.size w w6 := (hB0_2).grown hg6 (hB0_2).size (fun k e => by cases e; exact Nat.le_trans (Nat.le_refl _) (Nat.le_refl _))
  exact ⟨rfl, hB0_3⟩
theorem ds_suf {w : World} {v : Value} {xs : List (List UInt8)} (h : Ds w v xs) {n : Nat} (hn : n ≤ xs.length) : Ds w (Eng.sCut v n xs.length 32) (xs.drop n) := by
  have := Eng.ds_cut h hn (Nat.le_refl _)
  rwa [List.take_of_length_le (by rw [List.length_drop]; exact Nat.le_refl _)] at this
def RootC (n : Nat) : Prop := ∀ (v : Value) (ds : List (List UInt8)) (w : World), Ds w v ds → ds.length = n → n ≤ 281474976710656 → Calls Tryd.prog 67 #[v] w fun e w' => e = .returned (dg (rootS ds)) ∧ Below w.heap.size w w'
theorem rootS_len (ds : List (List UInt8)) (h : All32 ds) (hl : ds.length ≤ 281474976710656) : (rootS ds).length = 32 := by
  unfold rootS
  split
  · exact sha_len _
  · exact R_len ds h (by omega)
theorem rootS_step (ds : List (List UInt8)) (h : 2 ≤ ds.length) (h' : ds.length ≤ 281474976710656) : rootS ds = nodeS (rootS (ds.take (H ds.length))) (rootS (ds.drop (H ds.length))) := by
  obtain ⟨q1, q2, q3⟩ := H_spec ds.length h h'
  unfold rootS
  rw [if_neg (by omega), if_neg (by rw [List.length_take]; omega), if_neg (by rw [List.length_drop]; omega), R_step ds h h']
set_option maxRecDepth 100000 in
set_option maxHeartbeats 4000000 in
theorem root4_step (n : Nat) (ih : ∀ m, m < n → RootC m) (v : Value) (ds : List (List UInt8)) (w : World) (h : Ds w v ds) (hn : ds.length = n) (hm : n ≤ 281474976710656) : Calls Tryd.prog 67 #[v] w (fun e w' => e = .returned (dg (rootS ds)) ∧ Below w.heap.size w w') := by
  have hsm := h.1.small
  refine Eng.enter (l := [v]) Tryd.func67 rfl 26 rfl (by simp) ?_
  refine Eng.seqk fun K1 hK1 => ?_
  refine Eng.reg ?_
  refine Eng.al rfl rfl rfl zr45_ts (cs := (bcs Oct.dz)) rfl ?_
  intro w2 hk2 hb2 hz2
  refine Eng.nil ?_
  refine hK1 _ _ ?_
  refine Eng.seqk fun K3 hK3 => ?_
  refine Eng.seqk fun K4 hK4 => ?_
  refine Eng.reg ?_
  refine Eng.sv rfl rfl (Eng.x_mv (v := v) rfl rfl) ?_
  have hr5 := (h).below hb2
  refine Eng.sv rfl rfl (Eng.x_len (v := v) (r := (ds.length : Int)) rfl Tryd.underlying36 rfl (hr5).1 rfl) ?_
  by_cases h6 : ((ds.length : Int) : Int) = 0
  · skip
    refine Eng.sv rfl rfl (Eng.x_eq (r := true) rfl rfl rfl (Eng.eq_t (by omega))) ?_
    refine Eng.nil ?_
    refine hK4 _ _ ?_
    refine Eng.cond_t rfl ?_
    refine Eng.seqk fun K6 hK6 => ?_
    refine Eng.reg ?_
    refine Eng.sc rfl (Eng.xc (vl := []) rfl rfl rfl en123_ts) (rempty_calls _) ?_
    rintro _ w7 ⟨rfl, hb7⟩
    refine Eng.aft_v rfl ?_
    have hk8 := (hk2).below hb7
    refine Eng.stB (v := (dg (sha []))) rfl rfl rfl sz45_ts rfl hk8 rfl rfl (cs' := (bcs (sha []))) rfl ((bcs_length _).trans (sha_len _)) (bcs_one _) ?_
    intro w9 hk9 hg9
    refine Eng.nil ?_
    refine hK6 _ _ ?_
    refine Eng.rt ?_
    refine Eng.tr ?_
    refine Eng.ret (Eng.res1 (v1 := (dg (sha []))) rfl (Eng.rdc rfl (Eng.lvB ag45_ts sz45_ts hk9 ((bcs_length _).trans (sha_len _)) rfl))) ?_
    have hB0_2 : Below w.heap.size w w7 := (hb2).trans (hb7.mono (hb2).size)
    have hB0_3 : Below w.heap.size w w9 := (hB0_2).grown hg9 (hB0_2).size (fun k e => by cases e; exact Nat.le_trans (Nat.le_refl _) (Nat.le_refl _))
    exact ⟨by unfold rootS; rw [if_pos (by omega)], hB0_3⟩
  · skip
    refine Eng.sv rfl rfl (Eng.x_eq (r := false) rfl rfl rfl (Eng.eq_f (by omega))) ?_
    refine Eng.nil ?_
    refine hK4 _ _ ?_
    refine Eng.cond_f rfl ?_
    refine Eng.skp ?_
    refine hK3 _ _ ?_
    refine Eng.seqk fun K10 hK10 => ?_
    refine Eng.seqk fun K11 hK11 => ?_
    refine Eng.reg ?_
    refine Eng.sv rfl rfl (Eng.x_mv (v := v) rfl rfl) ?_
    refine Eng.sv rfl rfl (Eng.x_len (v := v) (r := (ds.length : Int)) rfl Tryd.underlying36 rfl (hr5).1 rfl) ?_
    by_cases h10 : ((ds.length : Int) : Int) = 1
    · skip
      refine Eng.sv rfl rfl (Eng.x_eq (r := true) rfl rfl rfl (Eng.eq_t (by omega))) ?_
      refine Eng.nil ?_
      refine hK11 _ _ ?_
      refine Eng.cond_t rfl ?_
      refine Eng.seqk fun K12 hK12 => ?_
      refine Eng.reg ?_
      refine Eng.sv rfl rfl (Eng.x_mv (v := v) rfl rfl) ?_
      refine Eng.sv rfl rfl (Eng.x_ia (v := v) (j := 0) rfl Tryd.underlying36 sz45_ts (by decide) rfl rfl (hr5).1 (Dsl.dcs_len _ (hr5).2) (rfl) (by omega)) ?_
      refine Eng.sv rfl rfl (Eng.x_ldA (v := (dg ((ds).getD 0 []))) rfl ag45_ts sz45_ts rfl ((bcs_length _).trans (Eng.ds_len hr5 (by omega))) (Eng.ds_at hr5 (by omega)) rfl) ?_
      refine Eng.stB (v := (dg ((ds).getD 0 []))) rfl rfl rfl sz45_ts rfl hk2 rfl rfl (cs' := (bcs ((ds).getD 0 []))) rfl ((bcs_length _).trans (Eng.ds_len hr5 (by omega))) (bcs_one _) ?_
      intro w13 hk13 hg13
      refine Eng.nil ?_
      refine hK12 _ _ ?_
      refine Eng.rt ?_
      refine Eng.tr ?_
      refine Eng.ret (Eng.res1 (v1 := (dg ((ds).getD 0 []))) rfl (Eng.rdc rfl (Eng.lvB ag45_ts sz45_ts hk13 ((bcs_length _).trans (Eng.ds_len hr5 (by omega))) rfl))) ?_
      have hB0_2 : Below w.heap.size w w13 := (hb2).grown hg13 (hb2).size (fun k e => by cases e; exact Nat.le_trans (Nat.le_refl _) (Nat.le_refl _))
      exact ⟨by unfold rootS; rw [if_neg (by omega), R_one ds (by omega)], hB0_2⟩
    · skip
      obtain ⟨q1, q2, q3⟩ := H_spec ds.length (by omega) (by omega)
      refine Eng.sv rfl rfl (Eng.x_eq (r := false) rfl rfl rfl (Eng.eq_f (by omega))) ?_
      refine Eng.nil ?_
      refine hK11 _ _ ?_
      refine Eng.cond_f rfl ?_
      refine Eng.skp ?_
      refine hK10 _ _ ?_
      refine Eng.seqk fun K14 hK14 => ?_
      refine Eng.reg ?_
      refine Eng.sv rfl rfl (Eng.x_mv (v := v) rfl rfl) ?_
      refine Eng.sv rfl rfl (Eng.x_len (v := v) (r := (ds.length : Int)) rfl Tryd.underlying36 rfl (hr5).1 rfl) ?_
      refine Eng.sc rfl (Eng.xc (vl := [(.int .i64 (ds.length : Int))]) rfl rfl rfl en124_ts) (rhalf4_calls ds.length (by omega) (by omega) _) ?_
      rintro _ w15 ⟨rfl, hb15⟩
      refine Eng.aft_v rfl ?_
      refine Eng.sv rfl rfl (Eng.x_as (v := (.int .i64 (H ds.length : Int))) rfl rfl) ?_
      refine Eng.nil ?_
      refine hK14 _ _ ?_
      refine Eng.seqk fun K16 hK16 => ?_
      have hB0_2 : Below w.heap.size w w15 := (hb2).trans (hb15.mono (hb2).size)
      have hr18 := (h).below hB0_2
      have hq19 : Dsl.Ds w (Eng.sCut v 0 (H ds.length) 32) (ds.take (H ds.length)) := (ds_pre h (by omega))
      have hr20 := (hq19).below hB0_2
      have hq21 : Dsl.Ds w (Eng.sCut v (H ds.length) ds.length 32) (ds.drop (H ds.length)) := (ds_suf h (by omega))
      have hr22 := (hq21).below hB0_2
      refine Eng.draw 9 [fun (vQ : Value) (_ : World) => vQ = v, fun (vQ : Value) (_ : World) => vQ = (.int .i64 (H ds.length : Int)), fun (vQ : Value) (_ : World) => vQ = (Eng.sCut v 0 (H ds.length) 32), fun (vQ : Value) (_ : World) => vQ = (dg (rootS (ds.take (H ds.length)))), fun (vQ : Value) (_ : World) => vQ = v, fun (vQ : Value) (_ : World) => vQ = (.int .i64 (H ds.length : Int)), fun (vQ : Value) (_ : World) => vQ = (Eng.sCut v (H ds.length) ds.length 32), fun (vQ : Value) (_ : World) => vQ = (dg (rootS (ds.drop (H ds.length)))), fun (vQ : Value) (_ : World) => vQ = (dg (nodeS (rootS (ds.take (H ds.length))) (rootS (ds.drop (H ds.length)))))] (by kernel_rfl) (by kernel_rfl) (by kernel_rfl) (by kernel_rfl) rfl rfl ?_ ?_ ?_
      · exact ⟨fun _ _ _ h _ => h, fun _ _ _ h _ => h, fun _ _ _ h _ => h, fun _ _ _ h _ => h, fun _ _ _ h _ => h, fun _ _ _ h _ => h, fun _ _ _ h _ => h, fun _ _ _ h _ => h, fun _ _ _ h _ => h, trivial⟩
      · refine ⟨?_, ?_, ?_, ?_, ?_, ?_, ?_, ?_, ?_, trivial⟩
        · intro u' W hbW hkp hdp K hK
          refine Eng.dv rfl rfl ?_ (hK _ _ (Below.refl _ _) rfl)
          exact (Eng.x_mv (v := v) rfl (show Eng.opv 26 u' (.tmp 0) = v from hkp 0 rfl))
        · intro u' W hbW hkp hdp K hK
          refine Eng.dv rfl rfl ?_ (hK _ _ (Below.refl _ _) rfl)
          exact (Eng.x_mv (v := (.int .i64 (H ds.length : Int))) rfl (show Eng.opv 26 u' (.tmp 3) = (.int .i64 (H ds.length : Int)) from hkp 3 rfl))
        · intro u' W hbW hkp hdp K hK
          have e0 : (fun (vQ : Value) (_ : World) => vQ = v) (u' 17) W := hdp.1
          have e1 : (fun (vQ : Value) (_ : World) => vQ = (.int .i64 (H ds.length : Int))) (u' 18) W := hdp.2.1
          refine Eng.dv rfl rfl ?_ (hK _ _ (Below.refl _ _) rfl)
          exact (Eng.x_sl (v := v) rfl Tryd.underlying36 sz45_ts (show Eng.opv 26 u' (.tmp 17) = v from e0) (((hr18).below hbW)).1 0 (H ds.length) (.inl ⟨rfl, rfl⟩) (Eng.bd (k := .i64) (show Eng.opv 26 u' (.tmp 18) = (.int .i64 (H ds.length : Int)) from e1)) (by omega) (by omega))
        · intro u' W hbW hkp hdp K hK
          have e2 : (fun (vQ : Value) (_ : World) => vQ = (Eng.sCut v 0 (H ds.length) 32)) (u' 19) W := hdp.1
          refine Eng.dc (vs := #[(Eng.sCut v 0 (H ds.length) 32)]) rfl ?_ (ih _ (by simp only [List.length_take, List.length_drop]; omega) _ _ _ ((hr20).below hbW) rfl (by simp only [List.length_take, List.length_drop]; omega)) ?_
          · exact Eng.xc (xs := #[(Go.Operand.tmp 19)]) (vl := [(Eng.sCut v 0 (H ds.length) 32)]) rfl rfl (Eng.lc (show Eng.opv 26 u' (.tmp 19) = (Eng.sCut v 0 (H ds.length) 32) from e2) rfl) en67_ts
          rintro _ W2 ⟨rfl, hb2⟩
          exact Eng.aft_v rfl (hK _ _ hb2 rfl)
        · intro u' W hbW hkp hdp K hK
          refine Eng.dv rfl rfl ?_ (hK _ _ (Below.refl _ _) rfl)
          exact (Eng.x_mv (v := v) rfl (show Eng.opv 26 u' (.tmp 0) = v from hkp 0 rfl))
        · intro u' W hbW hkp hdp K hK
          refine Eng.dv rfl rfl ?_ (hK _ _ (Below.refl _ _) rfl)
          exact (Eng.x_mv (v := (.int .i64 (H ds.length : Int))) rfl (show Eng.opv 26 u' (.tmp 3) = (.int .i64 (H ds.length : Int)) from hkp 3 rfl))
        · intro u' W hbW hkp hdp K hK
          have e4 : (fun (vQ : Value) (_ : World) => vQ = v) (u' 21) W := hdp.1
          have e5 : (fun (vQ : Value) (_ : World) => vQ = (.int .i64 (H ds.length : Int))) (u' 22) W := hdp.2.1
          refine Eng.dv rfl rfl ?_ (hK _ _ (Below.refl _ _) rfl)
          exact (Eng.x_sl (v := v) rfl Tryd.underlying36 sz45_ts (show Eng.opv 26 u' (.tmp 21) = v from e4) (((hr18).below hbW)).1 (H ds.length) ds.length (Eng.bd (k := .i64) (show Eng.opv 26 u' (.tmp 22) = (.int .i64 (H ds.length : Int)) from e5)) (.inl ⟨rfl, rfl⟩) (by omega) (by omega))
        · intro u' W hbW hkp hdp K hK
          have e6 : (fun (vQ : Value) (_ : World) => vQ = (Eng.sCut v (H ds.length) ds.length 32)) (u' 23) W := hdp.1
          refine Eng.dc (vs := #[(Eng.sCut v (H ds.length) ds.length 32)]) rfl ?_ (ih _ (by simp only [List.length_take, List.length_drop]; omega) _ _ _ ((hr22).below hbW) rfl (by simp only [List.length_take, List.length_drop]; omega)) ?_
          · exact Eng.xc (xs := #[(Go.Operand.tmp 23)]) (vl := [(Eng.sCut v (H ds.length) ds.length 32)]) rfl rfl (Eng.lc (show Eng.opv 26 u' (.tmp 23) = (Eng.sCut v (H ds.length) ds.length 32) from e6) rfl) en67_ts
          rintro _ W2 ⟨rfl, hb2⟩
          exact Eng.aft_v rfl (hK _ _ hb2 rfl)
        · intro u' W hbW hkp hdp K hK
          have e3 : (fun (vQ : Value) (_ : World) => vQ = (dg (rootS (ds.take (H ds.length))))) (u' 20) W := hdp.1
          have e7 : (fun (vQ : Value) (_ : World) => vQ = (dg (rootS (ds.drop (H ds.length))))) (u' 24) W := hdp.2.1
          refine Eng.dc (vs := #[(dg (rootS (ds.take (H ds.length)))), (dg (rootS (ds.drop (H ds.length))))]) rfl ?_ (rnode_calls _ _ (rootS_len _ (fun d hd => h.2 d (List.mem_of_mem_take hd)) (by simp only [List.length_take, List.length_drop]; omega)) (rootS_len _ (fun d hd => h.2 d (List.mem_of_mem_drop hd)) (by simp only [List.length_take, List.length_drop]; omega)) _) ?_
          · exact Eng.xc (xs := #[(Go.Operand.tmp 20), (Go.Operand.tmp 24)]) (vl := [(dg (rootS (ds.take (H ds.length)))), (dg (rootS (ds.drop (H ds.length))))]) rfl rfl (Eng.lc (show Eng.opv 26 u' (.tmp 20) = (dg (rootS (ds.take (H ds.length)))) from e3) (Eng.lc (show Eng.opv 26 u' (.tmp 24) = (dg (rootS (ds.drop (H ds.length)))) from e7) rfl)) en125_ts
          rintro _ W2 ⟨rfl, hb2⟩
          exact Eng.aft_v rfl (hK _ _ hb2 rfl)
      · intro ud17 w17 hb17 hkp17 ⟨f17_0, f17_1, f17_2, f17_3, f17_4, f17_5, f17_6, f17_7, f17_8, _⟩
        obtain rfl := Eng.collect (l := [(17, v), (18, (.int .i64 (H ds.length : Int))), (19, (Eng.sCut v 0 (H ds.length) 32)), (20, (dg (rootS (ds.take (H ds.length))))), (21, v), (22, (.int .i64 (H ds.length : Int))), (23, (Eng.sCut v (H ds.length) ds.length 32)), (24, (dg (rootS (ds.drop (H ds.length))))), (25, (dg (nodeS (rootS (ds.take (H ds.length))) (rootS (ds.drop (H ds.length))))))]) hkp17 ⟨f17_0, f17_1, f17_2, f17_3, f17_4, f17_5, f17_6, f17_7, f17_8, trivial⟩ rfl
        have hk23 := ((hk2).below hb15).below hb17
        refine Eng.stB (v := (dg (nodeS (rootS (ds.take (H ds.length))) (rootS (ds.drop (H ds.length)))))) rfl rfl rfl sz45_ts rfl hk23 rfl rfl (cs' := (bcs (nodeS (rootS (ds.take (H ds.length))) (rootS (ds.drop (H ds.length)))))) rfl ((bcs_length _).trans (nodeS_len _ _)) (bcs_one _) ?_
        intro w24 hk24 hg24
        refine Eng.nil ?_
        refine hK16 _ _ ?_
        refine Eng.rt ?_
        refine Eng.ret (Eng.res1 (v1 := (dg (nodeS (rootS (ds.take (H ds.length))) (rootS (ds.drop (H ds.length)))))) rfl (Eng.rdc rfl (Eng.lvB ag45_ts sz45_ts hk24 ((bcs_length _).trans (nodeS_len _ _)) rfl))) ?_
        have hB0_3 : Below w.heap.size w w17 := (hB0_2).trans (hb17.mono (hB0_2).size)
        have hB0_4 : Below w.heap.size w w24 := (hB0_3).grown hg24 (hB0_3).size (fun k e => by cases e; exact Nat.le_trans (Nat.le_refl _) (Nat.le_refl _))
        exact ⟨by rw [rootS_step ds (by omega) (by omega)], hB0_4⟩
theorem root4_calls (n : Nat) : RootC n := by
  induction n using Nat.strongRecOn with
  | ind n ih => exact fun v ds w h hn hm => root4_step n ih v ds w h hn hm
end Go.Proofs.YtnecgoahdkfbeaaDoor.Tid
end

section
namespace Go.Proofs.YtnecgoahdkfbeaaDoor.Eng
open Go Go.RowKit Go.Proofs.YtnecgoahdkfbeaaDoor.Cop
set_option linter.unusedVariables false
set_option linter.unusedSimpArgs false
section
variable {r : Option (Option Nat)} {P : Program} {Q : Exit → Act → World → Prop} {N : Nat} {ds : List Deferred}
theorem GrL.nil_below {w W : World} (h : GrL [] w W) : Below w.heap.size w W := h.below (Nat.le_refl _) (fun g hg => by cases hg)
theorem someInj {α : Type} {a b : α} (h : some a = some b) : a = b := Option.some.inj h
theorem outS_st {FL : List (Value → World → Prop)} {g : Nat} {t : TypeId} {c0 cs : List Value} {s : Nat} {o : Oper} {u : Nat → Value} {W : World} {K : Act → World → Prop} (hd : o.dst = none) (hK : ∀ W', W.grownBy W' (some g) → Blk W' g t cs → K (act N u ds) W') : OutS N ds FL [⟨g, t, c0, [(s, cs)]⟩] u W s o K := by
  unfold OutS; rw [hd]
  simp only [tgt, List.lookup, beq_self_eq_true]
  exact hK
/-- The store's step. -/
def StepSt (r : Option (Option Nat)) (P : Program) (ops : Array Oper) (Q : Exit → Act → World → Prop) (N : Nat) (ds : List Deferred) (FL : List (Value → World → Prop)) (PS : (Nat → Value) → World → World → Prop) (m : Nat) (u : Nat → Value) (w : World) (s : Nat) (o : Oper) : Prop :=
  ∀ (u' : Nat → Value) (V : World), Below w.heap.size w V → KeepsI ops m s u u' → Deps ops FL m u' V (preds ops s) → ∀ K : Act → World → Prop, (∀ W, PS u' V W → K (act N u' ds) W) → DS r P ops Q N ds o u' V K
def StepsL (r : Option (Option Nat)) (P : Program) (ops : Array Oper) (Q : Exit → Act → World → Prop) (N : Nat) (ds : List Deferred) (FL : List (Value → World → Prop)) (PS : (Nat → Value) → World → World → Prop) (s m : Nat) (u : Nat → Value) (w : World) : Nat → List Oper → Prop
  | _, [] => True
  | i, o :: l => ((Nat.beq i s = true → StepSt r P ops Q N ds FL PS m u w i o) ∧ (Nat.beq i s = false → StepE r P ops Q N ds FL [] [] m u w i o)) ∧ StepsL r P ops Q N ds FL PS s m u w (i + 1) l
/-- A floating operation's step, behind the store. -/
def StepsX (r : Option (Option Nat)) (P : Program) (ops : Array Oper) (Q : Exit → Act → World → Prop) (N : Nat) (ds : List Deferred) (FL : List (Value → World → Prop)) (PS : (Nat → Value) → World → World → Prop) (m : Nat) : List Nat → Prop
  | [] => True
  | x :: X => ((∀ u' v V W, PS u' V W → PS (upd u' (dstOf ops x) v) V W) ∧ ∀ o, ops[x]? = some o → ∀ (u' : Nat → Value) (V W : World), Deps ops FL m u' V (preds ops x) → ∀ K : Act → World → Prop, (∀ v, fat FL x v V → K (act N (upd u' (dstOf ops x) v) ds) W) → DS r P ops Q N ds o u' W K) ∧ StepsX r P ops Q N ds FL PS m X
theorem stepsL_at {ops : Array Oper} {FL : List (Value → World → Prop)} {PS : (Nat → Value) → World → World → Prop} {s m : Nat} {u : Nat → Value} {w : World} : ∀ {l : List Oper} {i : Nat}, StepsL r P ops Q N ds FL PS s m u w i l → ∀ {j : Nat} {o : Oper}, l[j]? = some o → (Nat.beq (i + j) s = true → StepSt r P ops Q N ds FL PS m u w (i + j) o) ∧ (Nat.beq (i + j) s = false → StepE r P ops Q N ds FL [] [] m u w (i + j) o)
  | [], _, _, j, o, h => by simp at h
  | o' :: l, i, hs, 0, o, h => by simp at h; subst h; exact hs.1
  | o' :: l, i, hs, j + 1, o, h => by
    have := stepsL_at (l := l) (i := i + 1) hs.2 (j := j) (o := o) (by simpa using h)
    rwa [show i + 1 + j = i + (j + 1) by omega] at this
theorem stepsX_at {ops : Array Oper} {FL : List (Value → World → Prop)} {PS : (Nat → Value) → World → World → Prop} {m : Nat} : ∀ {X : List Nat}, StepsX r P ops Q N ds FL PS m X → ∀ x ∈ X, (∀ u' v V W, PS u' V W → PS (upd u' (dstOf ops x) v) V W) ∧ ∀ o, ops[x]? = some o → ∀ (u' : Nat → Value) (V W : World), Deps ops FL m u' V (preds ops x) → ∀ K : Act → World → Prop, (∀ v, fat FL x v V → K (act N (upd u' (dstOf ops x) v) ds) W) → DS r P ops Q N ds o u' W K
  | [], _, x, hx => by cases hx
  | y :: X, h, x, hx => by
    rcases List.mem_cons.1 hx with rfl | hx
    · exact h.1
    · exact stepsX_at h.2 x hx
/-- All that do not float come ahead of the store. -/
def floatB (ops : Array Oper) (m s : Nat) (X : List Nat) : Bool := (List.range m).all fun i => Nat.beq i s || X.contains i || (preds ops s).contains i
def dstB (ops : Array Oper) (m s : Nat) : Bool := (List.range m).all fun i => Nat.beq i s || !noDst ops i
theorem drawL {id : Nat} {l : List Oper} {u : Nat → Value} {w : World} (m s : Nat) (X : List Nat) (FL : List (Value → World → Prop)) (PS : (Nat → Value) → World → World → Prop) (hm : P.follows .mixedOrders = true) (hac : acyc l.toArray = true) (hh : headS l.toArray m = true) (ht : tailB l.toArray m = true) (hfl : floatB l.toArray m s X = true) (hdb : dstB l.toArray m s = true) (hsm : Nat.blt s m = true) (hnd : noDst l.toArray s = true) (hlen : FL.length = m) (hle : Nat.ble m l.length = true)
    (hst : StabE [] w FL) (hT : fat FL s = fun _ _ => True) (hstep : StepsL r P l.toArray Q N ds FL PS s m u w 0 (l.take m)) (hX : StepsX r P l.toArray Q N ds FL PS m X)
    (hfin : ∀ u' V W, Below w.heap.size w V → KeepsS l.toArray m u u' → Facs l.toArray u' V 0 FL → PS u' V W → wpS r P l.toArray Q (l.drop m) (act N u' ds) W) :
    wpC r P (.region id l.toArray true) Q (act N u ds) w := by
  have hml : m ≤ l.length := Nat.le_of_ble_eq_true hle
  have hsm : s < m := Nat.le_of_ble_eq_true hsm
  have hT2 : ∀ v W, fat FL s v W := fun v W => by rw [hT]; trivial
  have hE0 : ∀ g ∈ ([] : List Nat), g < w.heap.size := fun g hg => by cases hg
  have hdst : ∀ j, j < m → j ≠ s → noDst l.toArray j = false := by
    intro j hj hjs
    have := List.all_eq_true.1 hdb j (List.mem_range.2 hj)
    have e : Nat.beq j s = false := by
      cases e : Nat.beq j s with
      | false => rfl
      | true => exact absurd (Nat.eq_of_beq_eq_true e) hjs
    rw [e] at this; simpa using this
  have hdne : ∀ i j, i < m → j < m → j ≠ i → ∀ x y, hasDst l.toArray i x = true → hasDst l.toArray j y = true → y ≠ x := by
    intro i j hi hj hji x y hx hy e
    subst e
    have h1 := List.all_eq_true.1 (List.all_eq_true.1 hh i (List.mem_range.2 hi)) j (List.mem_range.2 hj)
    have hij : (i == j) = false := by simpa using fun e => hji e.symm
    rw [hij, Bool.false_or] at h1
    unfold hasDst at hx hy
    cases h2 : l.toArray[i]? with
    | none => rw [h2] at hx; cases hx
    | some a =>
      cases h3 : l.toArray[j]? with
      | none => rw [h3] at hy; cases hy
      | some b =>
        rw [h2] at hx h1; rw [h3] at hy h1
        cases h4 : a.dst with
        | none => simp only [h4] at hx; cases hx
        | some p =>
          cases h5 : b.dst with
          | none => simp only [h5] at hy; cases hy
          | some q =>
            simp only [h4, h5] at hx hy h1
            rw [Nat.eq_of_beq_eq_true hx, Nat.eq_of_beq_eq_true hy] at h1
            simp at h1
  have hasOf : ∀ j, j < m → noDst l.toArray j = false → hasDst l.toArray j (dstOf l.toArray j) = true := by
    intro j hj hnj
    have hj2 : j < l.length := by omega
    unfold noDst at hnj
    unfold hasDst dstOf
    simp only [List.getElem?_toArray, List.getElem?_eq_getElem hj2] at hnj ⊢
    cases e : l[j].dst with
    | none => rw [e] at hnj; cases hnj
    | some y => simp
  have hFall : ∀ {D : Nat → Bool} {u' : Nat → Value} {W : World}, (∀ j, j < m → D j = true → j ≠ s → fat FL j (u' (dstOf l.toArray j)) W) → ∀ j, j < m → D j = true → fat FL j (u' (dstOf l.toArray j)) W := by
    intro D u' W h j hj hD
    by_cases e : j = s
    · subst e; exact hT2 _ _
    · exact h j hj hD e
  refine region_invC (fun D a W => (∀ j, m ≤ j → j < l.length → D j = false) ∧ (∃ u', a = act N u' ds ∧ KeepsD l.toArray m D u u' ∧
      ((D s = false ∧ Below w.heap.size w W ∧ ∀ j, j < m → D j = true → j ≠ s → fat FL j (u' (dstOf l.toArray j)) W) ∨
       (D s = true ∧ ∃ V, Below w.heap.size w V ∧ PS u' V W ∧ ∀ j, j < m → D j = true → j ≠ s → fat FL j (u' (dstOf l.toArray j)) V))) ∨
      ∃ t, m ≤ t ∧ t < l.length ∧ (∀ j, j ≤ t → D j = true) ∧ (∀ j, t < j → j < l.length → D j = false) ∧ wpS r P l.toArray Q (l.drop (t + 1)) a W) hm hac ?_ ?_ ?_
  · exact .inl ⟨fun _ _ _ => rfl, u, rfl, fun _ _ => rfl, .inl ⟨rfl, (Below.refl _ _).drew, fun _ _ h => by cases h⟩⟩
  · intro i o ho D a W hdi hdep hcl hI K hK
    have hi : i < l.length := by simpa using (Array.getElem?_eq_some_iff.1 ho).1
    have hol : l[i]? = some o := by simpa using ho
    have hdp : ∀ k ∈ preds l.toArray i, D k = true := by
      intro j hj
      unfold preds at hj
      rw [ho] at hj
      obtain ⟨e, he, rfl⟩ := List.mem_map.1 hj
      obtain ⟨he1, he2⟩ := List.mem_filter.1 he
      exact hdep e (Array.mem_toList_iff.1 he1) he2
    by_cases him : i < m
    · rcases hI with ⟨htl, u', rfl, hk, hAB⟩ | ⟨t, ht1, ht2, ht3, _⟩
      · have hs := stepsL_at hstep (j := i) (o := o) (by rw [List.getElem?_take, if_pos him]; exact hol)
        rw [Nat.zero_add] at hs
        have htl' : ∀ j, m ≤ j → j < l.length → Cop.upd D i j = false := fun j h1 h2 => by rw [Cop.upd_other D i j (by omega)]; exact htl j h1 h2
        by_cases his : i = s
        · -- the store
          subst his
          rcases hAB with ⟨_, hb, hF⟩ | ⟨hDs, _⟩
          · refine (hs.1 (Nat.beq_refl i) u' W hb (hk.keepsI hcl hdi) (deps_of _ fun j hj hjm => hFall hF j hjm (hdp j hj)) K (fun W' hps => hK _ _ (.inl ⟨htl', u', rfl, fun k hk2 => hk k (fun j hj hd => updF (hk2 j hj hd)), .inr ⟨Cop.upd_same D i, W, hb, hps, fun j hj hD hji => ?_⟩⟩))).out
            rw [Cop.upd_other D i j hji] at hD
            exact hF j hj hD hji
          · rw [hdi] at hDs; cases hDs
        · have hnj := hdst i him his
          have hii := hasOf i him hnj
          have hod : o.dst = some (dstOf l.toArray i) := by
            unfold hasDst at hii; rw [ho] at hii
            cases e : o.dst with
            | none => simp only [e] at hii; cases hii
            | some p => simp only [e] at hii; rw [Nat.eq_of_beq_eq_true hii]
          have hkeep : ∀ v, KeepsD l.toArray m (Cop.upd D i) u (Eng.upd u' (dstOf l.toArray i) v) := by
            intro v k hk2
            have hne : k ≠ dstOf l.toArray i := by
              intro e
              have := hk2 i him (by rw [e]; exact hii)
              rw [Cop.upd_same] at this; cases this
            rw [Eng.upd_other u' _ v k hne]
            exact hk k (fun j hj hd => updF (hk2 j hj hd))
          have hFu : ∀ {v : Value} {W1 : World}, fat FL i v W1 → (∀ j, j < m → D j = true → j ≠ s → fat FL j (u' (dstOf l.toArray j)) W1) → ∀ j, j < m → Cop.upd D i j = true → j ≠ s → fat FL j (Eng.upd u' (dstOf l.toArray i) v (dstOf l.toArray j)) W1 := by
            intro v W1 hf hF j hj hD hjs
            by_cases hji : j = i
            · subst hji; rw [Eng.upd_same]; exact hf
            · rw [Cop.upd_other D i j hji] at hD
              rw [Eng.upd_other u' _ v _ (hdne i j him hj hji _ _ hii (hasOf j hj (hdst j hj hjs)))]
              exact hF j hj hD hjs
          rcases hAB with ⟨hDs, hb, hF⟩ | ⟨hDs, V, hb, hps, hF⟩
          · have hbe : Nat.beq i s = false := by
              cases e : Nat.beq i s with
              | false => rfl
              | true => exact absurd (Nat.eq_of_beq_eq_true e) his
            refine (hs.2 hbe u' W (GrL.of_below hb) (hk.keepsI hcl hdi) (deps_of _ fun j hj hjm => hFall hF j hjm (hdp j hj)) trivial K ?_).out
            unfold OutS; rw [hod]
            intro v W' hb' hf
            refine hK _ _ (.inl ⟨htl', _, rfl, hkeep v, .inl ⟨by rw [Cop.upd_other D i s (fun e => his e.symm)]; exact hDs, hb.trans (hb'.mono hb.size), hFu hf fun j hj hD hjs => ?_⟩⟩)
            exact fat_stabE hst hE0 j _ _ _ (hF j hj hD hjs) hb.size (GrL.of_below hb')
          · have hxm : i ∈ X := by
              have := List.all_eq_true.1 hfl i (List.mem_range.2 him)
              have hbe : Nat.beq i s = false := by
                cases e : Nat.beq i s with
                | false => rfl
                | true => exact absurd (Nat.eq_of_beq_eq_true e) his
              rw [hbe, Bool.false_or] at this
              rcases Bool.or_eq_true_iff.1 this with q | q
              · simpa using q
              · have := preds_closed hcl hDs (show i ∈ preds l.toArray s by simpa using q)
                rw [hdi] at this; cases this
            obtain ⟨hx1, hx2⟩ := stepsX_at hX i hxm
            refine (hx2 o ho u' V W (deps_of _ fun j hj hjm => hFall hF j hjm (hdp j hj)) K (fun v hf => ?_)).out
            exact hK _ _ (.inl ⟨htl', _, rfl, hkeep v, .inr ⟨by rw [Cop.upd_other D i s (fun e => his e.symm)]; exact hDs, V, hb, hx1 u' v V W hps, hFu hf hF⟩⟩)
      · have := ht3 i (by omega)
        rw [hdi] at this; cases this
    · have him : m ≤ i := by omega
      have hall := tail_all ht hcl ho him hdep
      have hw : wpS r P l.toArray Q (o :: l.drop (i + 1)) a W := by
        have hd : l.drop i = o :: l.drop (i + 1) := by
          rw [List.drop_eq_getElem_cons hi]
          congr 1
          rw [List.getElem?_eq_getElem hi] at hol
          exact Option.some.inj hol
        rcases hI with ⟨htl, u', rfl, hk, hAB⟩ | ⟨t, ht1, ht2, ht3, ht4, hw⟩
        · have him2 : i = m := by
            by_cases h : m < i
            · have := hall m h
              rw [htl m (Nat.le_refl _) (by omega)] at this; cases this
            · omega
          subst him2
          rw [← hd]
          rcases hAB with ⟨hDs, _⟩ | ⟨hDs, V, hb, hps, hF⟩
          · rw [hall s hsm] at hDs; cases hDs
          · exact hfin u' V W hb hk.keepsS (facs_of FL 0 fun j hj => by rw [Nat.zero_add]; exact hFall hF j (by omega) (hall j (by omega))) hps
        · have hit : i = t + 1 := by
            by_cases h : i ≤ t
            · have := ht3 i h; rw [hdi] at this; cases this
            · by_cases h2 : t + 1 < i
              · have := hall (t + 1) h2
                rw [ht4 (t + 1) (by omega) (by omega)] at this; cases this
              · omega
          subst hit
          rw [← hd]; exact hw
      have hup : ∀ j, j ≤ i → Cop.upd D i j = true := by
        intro j hj
        by_cases hji : j = i
        · subst hji; exact Cop.upd_same D j
        · rw [Cop.upd_other D i j hji]; exact hall j (by omega)
      have hdown : ∀ j, i < j → j < l.length → Cop.upd D i j = false := by
        intro j h1 h2
        rw [Cop.upd_other D i j (by omega)]
        rcases hI with ⟨htl, _⟩ | ⟨t, ht1, ht2, ht3, ht4, _⟩
        · exact htl j (by omega) h2
        · by_cases h : t < j
          · exact ht4 j h h2
          · have := ht3 i (by omega); rw [hdi] at this; cases this
      have hK2 : ∀ a' W', wpS r P l.toArray Q (l.drop (i + 1)) a' W' → K a' W' := fun a' W' h => hK _ _ (.inr ⟨i, him, hi, hup, hdown, h⟩)
      replace hw := wpS_open hw
      split at hw
      · rename_i hwd
        rw [if_pos hwd]
        exact opC_mono hK2 hw
      · rename_i hwd
        rw [if_neg hwd]
        exact hK2 _ _ hw
  · intro D a W hall hI
    rcases hI with ⟨htl, u', rfl, hk, hAB⟩ | ⟨t, ht1, ht2, ht3, ht4, hw⟩
    · have hmn : m = l.length := by
        by_cases h : m < l.length
        · have := hall m (by simpa using h)
          rw [htl m (Nat.le_refl _) h] at this; cases this
        · omega
      have hall2 : ∀ j, j < m → D j = true := fun j hj => hall j (by simp; omega)
      rcases hAB with ⟨hDs, _⟩ | ⟨hDs, V, hb, hps, hF⟩
      · rw [hall2 s hsm] at hDs; cases hDs
      · have := hfin u' V W hb hk.keepsS (facs_of FL 0 fun j hj => by rw [Nat.zero_add]; exact hFall hF j (by omega) (hall2 j (by omega))) hps
        rw [hmn, List.drop_length] at this
        exact wpS_nil this
    · have : t + 1 = l.length := by
        by_cases h : t + 1 < l.length
        · have := hall (t + 1) (by simpa using h)
          rw [ht4 (t + 1) (by omega) h] at this; cases this
        · omega
      rw [this, List.drop_length] at hw
      exact wpS_nil hw
end
end Go.Proofs.YtnecgoahdkfbeaaDoor.Eng
end

section
namespace Go.Proofs.YtnecgoahdkfbeaaDoor.Tid
open Go Go.RowKit Go.Proofs.YtnecgoahdkfbeaaDoor Go.Proofs.YtnecgoahdkfbeaaDoor.Cop Go.Proofs.YtnecgoahdkfbeaaDoor.Ver Go.Proofs.YtnecgoahdkfbeaaDoor.Tre Go.Proofs.YtnecgoahdkfbeaaDoor.TreP Go.Proofs.YtnecgoahdkfbeaaDoor.Vfy Go.Proofs.YtnecgoahdkfbeaaDoor.Oct Go.Proofs.YtnecgoahdkfbeaaDoor.Dsl Go.Proofs.YtnecgoahdkfbeaaDoor.Sha
set_option linter.unusedVariables false
set_option linter.unusedSimpArgs false
theorem zr45_tg (w : World) : (zeroValue 45).run Tryd.prog w = .ok (dg Oct.dz) w := by kernel_rfl
theorem ag23_tg (w : World) : (isAgg 23).run Tryd.prog w = .ok true w := by kernel_rfl
theorem sz23_tg : (Tryd.prog.info? 23).map (fun i => i.size) = some 4 := by kernel_rfl
theorem en15_tg : Eng.Entr Tryd.prog 15 := ⟨_, Tryd.func15, by kernel_rfl, by kernel_rfl⟩
theorem sz45_tg : (Tryd.prog.info? 45).map (fun i => i.size) = some 32 := by kernel_rfl
theorem ag45_tg (w : World) : (isAgg 45).run Tryd.prog w = .ok true w := by kernel_rfl
theorem ag38_tg (w : World) : (isAgg 38).run Tryd.prog w = .ok true w := by kernel_rfl
theorem sz38_tg : (Tryd.prog.info? 38).map (fun i => i.size) = some 2 := by kernel_rfl
theorem en54_tg : Eng.Entr Tryd.prog 54 := ⟨_, Tryd.func54, by kernel_rfl, by kernel_rfl⟩
theorem ag3_tg (w : World) : (isAgg 3).run Tryd.prog w = .ok false w := by kernel_rfl
theorem en18_tg : Eng.Entr Tryd.prog 18 := ⟨_, Tryd.func18, by kernel_rfl, by kernel_rfl⟩
theorem zr23_tg (w : World) : (zeroValue 23).run Tryd.prog w = .ok (.agg #[(.int .i64 0), (.int .i64 0), (.int .i64 0), (.int .i64 0)]) w := by kernel_rfl
theorem sz5_tg : (Tryd.prog.info? 5).map (fun i => i.size) = some 1 := by kernel_rfl
theorem en59_tg : Eng.Entr Tryd.prog 59 := ⟨_, Tryd.func59, by kernel_rfl, by kernel_rfl⟩
theorem en58_tg : Eng.Entr Tryd.prog 58 := ⟨_, Tryd.func58, by kernel_rfl, by kernel_rfl⟩
/-- What Digest and Root of a tile tell. -/
def digOf (h l i x nl ni : Int) (b : List UInt8) : List UInt8 × Int :=
  if tv h l i x = true ∧ nv nl ni = true then
    if (b.length : Int) ≠ 32 * x then (dz, 101)
    else if ((nl.toNat / h.toNat : Nat) : Int) ≠ l ∨ ((oS h.toNat nl.toNat ni.toNat / 2 ^ h.toNat : Nat) : Int) ≠ i ∨ x < (oT h.toNat nl.toNat ni.toNat : Int) then (dz, 40)
    else (rootS (((dL b (b.length / 32)).drop (oF h.toNat nl.toNat ni.toNat)).take (oT h.toNat nl.toNat ni.toNat - oF h.toNat nl.toNat ni.toNat)), 0)
  else (dz, 2)
def rotOf (h l i x : Int) (b : List UInt8) : List UInt8 × Int :=
  if tv h l i x = true then if (b.length : Int) ≠ 32 * x then (dz, 101) else (rootS (dL b (b.length / 32)), 0) else (dz, 2)
theorem dg_bad {h l i x nl ni : Int} {b : List UInt8} (c : tv h l i x = false ∨ nv nl ni = false) : digOf h l i x nl ni b = (dz, 2) := by
  unfold digOf; rw [if_neg]; rintro ⟨c1, c2⟩; rcases c with c | c
  · rw [c1] at c; cases c
  · rw [c2] at c; cases c
theorem dg_len {h l i x nl ni : Int} {b : List UInt8} (c1 : tv h l i x = true) (c2 : nv nl ni = true) (c : (b.length : Int) ≠ 32 * x) : digOf h l i x nl ni b = (dz, 101) := by
  unfold digOf; rw [if_pos ⟨c1, c2⟩, if_pos c]
section
variable {h l i x nl ni : Int} {b : List UInt8} {n a c : Nat}
theorem dg_out (c1 : tv h l i x = true) (c2 : nv nl ni = true) (c3 : (b.length : Int) = 32 * x) (e1 : h = (n : Int)) (e2 : nl = (a : Int)) (e3 : ni = (c : Int)) (hc : ((a / n : Nat) : Int) ≠ l ∨ ((oS n a c / 2 ^ n : Nat) : Int) ≠ i ∨ x < (oT n a c : Int)) : digOf h l i x nl ni b = (dz, 40) := by
  subst e1 e2 e3
  unfold digOf; rw [if_pos ⟨c1, c2⟩, if_neg (by omega)]
  simp only [Int.toNat_natCast]
  rw [if_pos hc]
theorem dg_ok (c1 : tv h l i x = true) (c2 : nv nl ni = true) (c3 : (b.length : Int) = 32 * x) (e1 : h = (n : Int)) (e2 : nl = (a : Int)) (e3 : ni = (c : Int)) (r1 : ((a / n : Nat) : Int) = l) (r2 : ((oS n a c / 2 ^ n : Nat) : Int) = i) (r3 : ¬ x < (oT n a c : Int)) : digOf h l i x nl ni b = (rootS (((dL b (b.length / 32)).drop (oF n a c)).take (oT n a c - oF n a c)), 0) := by
  subst e1 e2 e3
  unfold digOf; rw [if_pos ⟨c1, c2⟩, if_neg (by omega)]
  simp only [Int.toNat_natCast]
  rw [if_neg (fun q => q.elim (fun q => q r1) (fun q => q.elim (fun q => q r2) r3))]
theorem of_is (hn : ht h = true) (hv : nv nl ni = true) (w : World) : ∃ n a b : Nat, h = (n : Int) ∧ nl = (a : Int) ∧ ni = (b : Int) ∧ 1 ≤ n ∧ n ≤ 8 ∧ a ≤ 48 ∧ b < 2 ^ (48 - a) ∧ ∀ w, Calls Tryd.prog 18 #[.int .i64 h, .agg #[.int .i64 nl, .int .i64 ni]] w fun e w' => e = .returned (.tuple #[.agg #[.int .i64 (n : Int), .int .i64 ((a / n : Nat) : Int), .int .i64 ((oS n a b / 2 ^ n : Nat) : Int), .int .i64 (oT n a b : Int)], .int .i64 (oF n a b : Int), .int .i64 (oT n a b : Int), .int .i64 0]) ∧ Below w.heap.size w w' := by
  obtain ⟨n, e1, h1, h2⟩ := ht_nat hn
  obtain ⟨a, b, e2, e3, h3, h4⟩ := nv_nat hv
  subst e1 e2 e3
  exact ⟨n, a, b, rfl, rfl, rfl, h1, h2, h3, h4, fun w => of_yes n a b h1 h2 h3 h4 w⟩
end
theorem gd_in {b : List UInt8} {p : Nat} (h : p + 32 ≤ b.length) : gd b (p : Int) = (b.drop p).take 32 := by
  unfold gd
  have hr : room b.length (p : Int) 32 = 0 := by unfold room; rw [if_neg (by omega), if_neg (by omega), if_neg (by omega)]
  rw [if_pos hr]; rfl
theorem dL_get {b : List UInt8} {n j : Nat} (hj : j < n) : (dL b n)[j]? = some (gd b (32 * (j : Int))) := by
  unfold dL; rw [List.getElem?_map, List.getElem?_range hj]; rfl
/-- Digests of a part of the bytes. -/
theorem dL_cut {b : List UInt8} {f t : Nat} (h1 : f ≤ t) (h2 : 32 * t ≤ b.length) : dL ((b.drop (32 * f)).take (32 * t - 32 * f)) (((b.drop (32 * f)).take (32 * t - 32 * f)).length / 32) = ((dL b (b.length / 32)).drop f).take (t - f) := by
  have hl : ((b.drop (32 * f)).take (32 * t - 32 * f)).length = 32 * (t - f) := by rw [List.length_take, List.length_drop]; omega
  rw [hl, show 32 * (t - f) / 32 = t - f by omega]
  apply List.ext_getElem?
  intro j
  by_cases hj : j < t - f
  · rw [dL_get hj, List.getElem?_take_of_lt hj, List.getElem?_drop, dL_get (by omega)]
    have e1 : (32 * (j : Int)) = ((32 * j : Nat) : Int) := by omega
    have e2 : (32 * ((f + j : Nat) : Int)) = ((32 * (f + j) : Nat) : Int) := by omega
    rw [e1, e2, gd_in (by rw [hl]; omega), gd_in (by omega), List.drop_take, List.drop_drop, List.take_take, show 32 * f + 32 * j = 32 * (f + j) by omega, Nat.min_eq_left (by omega)]
  · rw [List.getElem?_eq_none (by rw [dL_length]; omega), List.getElem?_eq_none (by rw [List.length_take]; omega)]
theorem all32_mid {l : List (List UInt8)} (h : All32 l) (f k : Nat) : All32 ((l.drop f).take k) := fun d hd => h d (List.mem_of_mem_drop (List.mem_of_mem_take hd))
theorem bs_pre {w : World} {v : Value} {b : List UInt8} (h : Rd w v (([] ++ b) ++ [90])) : Rd w (Eng.sCut v 0 b.length 1) b := by
  have := Eng.rd_cut h (l := 0) (h := b.length) (Nat.zero_le _) (by simp)
  show Row w _ b.length (bcs b)
  simpa [Rd] using this
theorem oF_le (n a b : Nat) : oF n a b ≤ oT n a b := Nat.le_add_right _ _
theorem tvalid_is {b : Bool} {h l i x : Int} (e : tv h l i x = b) (w : World) : Calls Tryd.prog 15 #[(.agg #[(.int .i64 h), (.int .i64 l), (.int .i64 i), (.int .i64 x)])] w fun e w' => e = .returned (.bool b) ∧ Below w.heap.size w w' := e ▸ tvalid_calls h l i x w
theorem rtvalid_is {b : Bool} {h l i x : Int} (e : tv h l i x = b) (w : World) : Calls Tryd.prog 16 #[(.agg #[(.int .i64 h), (.int .i64 l), (.int .i64 i), (.int .i64 x)])] w fun e w' => e = .returned (.bool b) ∧ Below w.heap.size w w' := e ▸ rtvalid_calls h l i x w
set_option maxRecDepth 100000 in
set_option maxHeartbeats 4000000 in
theorem digest_calls (h l i x nl ni : Int) (v : Value) (b : List UInt8) (w : World) (hb : Bs w v b) (hKn : Kon w) : Calls Tryd.prog 20 #[(.agg #[(.int .i64 h), (.int .i64 l), (.int .i64 i), (.int .i64 x)]), v, (.agg #[(.int .i64 nl), (.int .i64 ni)])] w (fun e w' => e = .returned (.tuple #[dg (digOf h l i x nl ni b).1, .int .i64 (digOf h l i x nl ni b).2]) ∧ Below w.heap.size w w') := by
  have hbl := hb.2
  refine Eng.enter (l := [(.agg #[(.int .i64 h), (.int .i64 l), (.int .i64 i), (.int .i64 x)]), v, (.agg #[(.int .i64 nl), (.int .i64 ni)])]) Tryd.func20 rfl 64 rfl (by simp) ?_
  refine Eng.seqk fun K1 hK1 => ?_
  refine Eng.reg ?_
  refine Eng.bo (v := (.agg #[(.int .i64 h), (.int .i64 l), (.int .i64 i), (.int .i64 x)])) (cs := [(.int .i64 h), (.int .i64 l), (.int .i64 i), (.int .i64 x)]) rfl rfl rfl rfl rfl ?_
  intro w2 hk2 hb2 hz2
  refine Eng.bo (v := (.agg #[(.int .i64 nl), (.int .i64 ni)])) (cs := [(.int .i64 nl), (.int .i64 ni)]) rfl rfl rfl rfl rfl ?_
  intro w3 hk3 hb3 hz3
  refine Eng.al rfl rfl rfl zr45_tg (cs := (bcs Oct.dz)) rfl ?_
  intro w4 hk4 hb4 hz4
  refine Eng.sv rfl rfl (Eng.x_as (v := (.int .i64 0)) rfl rfl) ?_
  refine Eng.nil ?_
  refine hK1 _ _ ?_
  refine Eng.seqk fun K5 hK5 => ?_
  refine Eng.seqk fun K6 hK6 => ?_
  by_cases q0 : tv h l i x = false
  · skip
    refine Eng.reg ?_
    have hk7 := ((hk2).below hb3).below hb4
    refine Eng.sv rfl rfl (Eng.x_ldB (v := (.agg #[(.int .i64 h), (.int .i64 l), (.int .i64 i), (.int .i64 x)])) rfl ag23_tg sz23_tg rfl hk7 rfl rfl) ?_
    refine Eng.sc rfl (Eng.xc (vl := [(.agg #[(.int .i64 h), (.int .i64 l), (.int .i64 i), (.int .i64 x)])]) rfl rfl rfl en15_tg) (tvalid_is q0 _) ?_
    rintro _ w8 ⟨rfl, hb8⟩
    refine Eng.aft_v rfl ?_
    refine Eng.sv rfl rfl (Eng.x_not (v := (.bool true)) rfl rfl rfl) ?_
    refine Eng.sv rfl rfl (Eng.x_mv (v := (.bool true)) rfl rfl) ?_
    refine Eng.sg (Eng.gf rfl rfl rfl rfl) rfl ?_
    refine Eng.sg (Eng.gf rfl rfl rfl rfl) rfl ?_
    refine Eng.sg (Eng.gf rfl rfl rfl rfl) rfl ?_
    refine Eng.sv rfl rfl (Eng.x_pick (v := (.bool true)) rfl rfl rfl rfl rfl) ?_
    refine Eng.nil ?_
    refine hK6 _ _ ?_
    refine Eng.cond_t rfl ?_
    refine Eng.seqk fun K9 hK9 => ?_
    refine Eng.reg ?_
    refine Eng.sv rfl rfl (Eng.x_build (ps := []) (v := (dg Oct.dz)) rfl rfl (by kernel_rfl)) ?_
    have hk10 := (hk4).below hb8
    refine Eng.stB (v := (dg Oct.dz)) rfl rfl rfl sz45_tg rfl hk10 rfl rfl (cs' := (bcs Oct.dz)) rfl rfl (bcs_one _) ?_
    intro w11 hk11 hg11
    refine Eng.sv rfl rfl (Eng.x_as (v := (.int .i64 2)) rfl rfl) ?_
    refine Eng.nil ?_
    refine hK9 _ _ ?_
    refine Eng.rt ?_
    refine Eng.tr ?_
    refine Eng.ret (Eng.res2 (v1 := (dg Oct.dz)) (v2 := (.int .i64 2)) rfl (Eng.rdc rfl (Eng.lvB ag45_tg sz45_tg hk11 rfl rfl)) (Eng.rdt rfl)) ?_
    have hB0_2 : Below w.heap.size w w3 := (hb2).trans (hb3.mono (hb2).size)
    have hB0_3 : Below w.heap.size w w4 := (hB0_2).trans (hb4.mono (hB0_2).size)
    have hB0_4 : Below w.heap.size w w8 := (hB0_3).trans (hb8.mono (hB0_3).size)
    have hB0_5 : Below w.heap.size w w11 := (hB0_4).grown hg11 (hB0_4).size (fun k e => by cases e; exact Nat.le_trans (hB0_2).size (Nat.le_refl _))
    exact ⟨by rw [dg_bad (.inl q0)], hB0_5⟩
  · skip
    have ht1 : tv h l i x = true := by simpa using q0
    obtain ⟨t1, t2, t3, t4, t5, t6⟩ := tv_yes ht1
    have hpw := pwb t1
    by_cases q1 : nv nl ni = false
    · skip
      refine Eng.reg ?_
      have hk12 := ((hk2).below hb3).below hb4
      refine Eng.sv rfl rfl (Eng.x_ldB (v := (.agg #[(.int .i64 h), (.int .i64 l), (.int .i64 i), (.int .i64 x)])) rfl ag23_tg sz23_tg rfl hk12 rfl rfl) ?_
      refine Eng.sc rfl (Eng.xc (vl := [(.agg #[(.int .i64 h), (.int .i64 l), (.int .i64 i), (.int .i64 x)])]) rfl rfl rfl en15_tg) (tvalid_is ht1 _) ?_
      rintro _ w13 ⟨rfl, hb13⟩
      refine Eng.aft_v rfl ?_
      refine Eng.sv rfl rfl (Eng.x_not (v := (.bool false)) rfl rfl rfl) ?_
      refine Eng.sv rfl rfl (Eng.x_mv (v := (.bool false)) rfl rfl) ?_
      have hk14 := ((hk3).below hb4).below hb13
      refine Eng.sv (Eng.gt rfl rfl rfl rfl) rfl (Eng.x_ldB (v := (.agg #[(.int .i64 nl), (.int .i64 ni)])) rfl ag38_tg sz38_tg rfl hk14 rfl rfl) ?_
      refine Eng.sc (Eng.gt rfl rfl rfl rfl) (Eng.xc (vl := [(.agg #[(.int .i64 nl), (.int .i64 ni)])]) rfl rfl rfl en54_tg) (nvalid_is q1 _) ?_
      rintro _ w15 ⟨rfl, hb15⟩
      refine Eng.aft_v rfl ?_
      refine Eng.sv (Eng.gt rfl rfl rfl rfl) rfl (Eng.x_not (v := (.bool true)) rfl rfl rfl) ?_
      refine Eng.sv rfl rfl (Eng.x_pick (v := (.bool true)) rfl rfl rfl rfl rfl) ?_
      refine Eng.nil ?_
      refine hK6 _ _ ?_
      refine Eng.cond_t rfl ?_
      refine Eng.seqk fun K16 hK16 => ?_
      refine Eng.reg ?_
      refine Eng.sv rfl rfl (Eng.x_build (ps := []) (v := (dg Oct.dz)) rfl rfl (by kernel_rfl)) ?_
      have hk17 := ((hk4).below hb13).below hb15
      refine Eng.stB (v := (dg Oct.dz)) rfl rfl rfl sz45_tg rfl hk17 rfl rfl (cs' := (bcs Oct.dz)) rfl rfl (bcs_one _) ?_
      intro w18 hk18 hg18
      refine Eng.sv rfl rfl (Eng.x_as (v := (.int .i64 2)) rfl rfl) ?_
      refine Eng.nil ?_
      refine hK16 _ _ ?_
      refine Eng.rt ?_
      refine Eng.tr ?_
      refine Eng.ret (Eng.res2 (v1 := (dg Oct.dz)) (v2 := (.int .i64 2)) rfl (Eng.rdc rfl (Eng.lvB ag45_tg sz45_tg hk18 rfl rfl)) (Eng.rdt rfl)) ?_
      have hB0_2 : Below w.heap.size w w3 := (hb2).trans (hb3.mono (hb2).size)
      have hB0_3 : Below w.heap.size w w4 := (hB0_2).trans (hb4.mono (hB0_2).size)
      have hB0_4 : Below w.heap.size w w13 := (hB0_3).trans (hb13.mono (hB0_3).size)
      have hB0_5 : Below w.heap.size w w15 := (hB0_4).trans (hb15.mono (hB0_4).size)
      have hB0_6 : Below w.heap.size w w18 := (hB0_5).grown hg18 (hB0_5).size (fun k e => by cases e; exact Nat.le_trans (hB0_2).size (Nat.le_refl _))
      exact ⟨by rw [dg_bad (.inr q1)], hB0_6⟩
    · skip
      have hn1 : nv nl ni = true := by simpa using q1
      obtain ⟨n, a, c, e1, e2, e3, h1, h8, ha, hc, hof⟩ := of_is t1 hn1 w
      obtain ⟨b1, b2, b3, b4, b5, b6, b7, b8, b9⟩ := o_bounds h1 h8 ha hc
      have hft := oF_le n a c
      have hx2 : x ≤ 256 := by omega
      refine Eng.reg ?_
      have hk19 := ((hk2).below hb3).below hb4
      refine Eng.sv rfl rfl (Eng.x_ldB (v := (.agg #[(.int .i64 h), (.int .i64 l), (.int .i64 i), (.int .i64 x)])) rfl ag23_tg sz23_tg rfl hk19 rfl rfl) ?_
      refine Eng.sc rfl (Eng.xc (vl := [(.agg #[(.int .i64 h), (.int .i64 l), (.int .i64 i), (.int .i64 x)])]) rfl rfl rfl en15_tg) (tvalid_is ht1 _) ?_
      rintro _ w20 ⟨rfl, hb20⟩
      refine Eng.aft_v rfl ?_
      refine Eng.sv rfl rfl (Eng.x_not (v := (.bool false)) rfl rfl rfl) ?_
      refine Eng.sv rfl rfl (Eng.x_mv (v := (.bool false)) rfl rfl) ?_
      have hk21 := ((hk3).below hb4).below hb20
      refine Eng.sv (Eng.gt rfl rfl rfl rfl) rfl (Eng.x_ldB (v := (.agg #[(.int .i64 nl), (.int .i64 ni)])) rfl ag38_tg sz38_tg rfl hk21 rfl rfl) ?_
      refine Eng.sc (Eng.gt rfl rfl rfl rfl) (Eng.xc (vl := [(.agg #[(.int .i64 nl), (.int .i64 ni)])]) rfl rfl rfl en54_tg) (nvalid_is hn1 _) ?_
      rintro _ w22 ⟨rfl, hb22⟩
      refine Eng.aft_v rfl ?_
      refine Eng.sv (Eng.gt rfl rfl rfl rfl) rfl (Eng.x_not (v := (.bool false)) rfl rfl rfl) ?_
      refine Eng.sv rfl rfl (Eng.x_pick (v := (.bool false)) rfl rfl rfl rfl rfl) ?_
      refine Eng.nil ?_
      refine hK6 _ _ ?_
      refine Eng.cond_f rfl ?_
      refine Eng.skp ?_
      refine hK5 _ _ ?_
      refine Eng.seqk fun K23 hK23 => ?_
      refine Eng.seqk fun K24 hK24 => ?_
      refine Eng.reg ?_
      refine Eng.sv rfl rfl (Eng.x_mv (v := v) rfl rfl) ?_
      have hB0_2 : Below w.heap.size w w3 := (hb2).trans (hb3.mono (hb2).size)
      have hB0_3 : Below w.heap.size w w4 := (hB0_2).trans (hb4.mono (hB0_2).size)
      have hB0_4 : Below w.heap.size w w20 := (hB0_3).trans (hb20.mono (hB0_3).size)
      have hB0_5 : Below w.heap.size w w22 := (hB0_4).trans (hb22.mono (hB0_4).size)
      have hr25 := (hb).below hB0_5
      refine Eng.sv rfl rfl (Eng.x_len (v := v) (r := (b.length : Int)) rfl Tryd.underlying48 rfl (hr25).1 rfl) ?_
      refine Eng.sv rfl rfl (Eng.x_fa (v := (.pointer (some ⟨w.heap.size, 3, none⟩))) rfl rfl (by kernel_rfl)) ?_
      have hk26 := ((hk19).below hb20).below hb22
      refine Eng.sv rfl rfl (Eng.x_ld1 (v := (.int .i64 x)) rfl ag3_tg rfl ((hk26).cell 3)) ?_
      refine Eng.sv rfl rfl (Eng.x_mul rfl rfl rfl (Eng.w64 (r := (32 * x)) (by omega))) ?_
      by_cases hl : ((b.length : Int) : Int) ≠ (32 * x)
      · skip
        refine Eng.sv rfl rfl (Eng.x_ne (r := true) rfl rfl rfl (Eng.ne_t (by omega))) ?_
        refine Eng.nil ?_
        refine hK24 _ _ ?_
        refine Eng.cond_t rfl ?_
        refine Eng.seqk fun K27 hK27 => ?_
        refine Eng.reg ?_
        refine Eng.sv rfl rfl (Eng.x_build (ps := []) (v := (dg Oct.dz)) rfl rfl (by kernel_rfl)) ?_
        have hk28 := ((hk4).below hb20).below hb22
        refine Eng.stB (v := (dg Oct.dz)) rfl rfl rfl sz45_tg rfl hk28 rfl rfl (cs' := (bcs Oct.dz)) rfl rfl (bcs_one _) ?_
        intro w29 hk29 hg29
        refine Eng.sv rfl rfl (Eng.x_as (v := (.int .i64 101)) rfl rfl) ?_
        refine Eng.nil ?_
        refine hK27 _ _ ?_
        refine Eng.rt ?_
        refine Eng.tr ?_
        refine Eng.ret (Eng.res2 (v1 := (dg Oct.dz)) (v2 := (.int .i64 101)) rfl (Eng.rdc rfl (Eng.lvB ag45_tg sz45_tg hk29 rfl rfl)) (Eng.rdt rfl)) ?_
        have hB0_6 : Below w.heap.size w w29 := (hB0_5).grown hg29 (hB0_5).size (fun k e => by cases e; exact Nat.le_trans (hB0_2).size (Nat.le_refl _))
        exact ⟨by rw [dg_len ht1 hn1 hl], hB0_6⟩
      · skip
        refine Eng.sv rfl rfl (Eng.x_ne (r := false) rfl rfl rfl (Eng.ne_f (by omega))) ?_
        refine Eng.nil ?_
        refine hK24 _ _ ?_
        refine Eng.cond_f rfl ?_
        refine Eng.skp ?_
        refine hK23 _ _ ?_
        refine Eng.seqk fun K30 hK30 => ?_
        refine Eng.reg ?_
        refine Eng.sv rfl rfl (Eng.x_fa (v := (.pointer (some ⟨w.heap.size, 0, none⟩))) rfl rfl (by kernel_rfl)) ?_
        refine Eng.sv rfl rfl (Eng.x_ld1 (v := (.int .i64 h)) rfl ag3_tg rfl ((hk26).cell 0)) ?_
        have hk31 := (hk21).below hb22
        refine Eng.sv rfl rfl (Eng.x_ldB (v := (.agg #[(.int .i64 nl), (.int .i64 ni)])) rfl ag38_tg sz38_tg rfl hk31 rfl rfl) ?_
        refine Eng.sc rfl (Eng.xc (vl := [(.int .i64 h), (.agg #[(.int .i64 nl), (.int .i64 ni)])]) rfl rfl rfl en18_tg) (hof _) ?_
        rintro _ w32 ⟨rfl, hb32⟩
        refine Eng.aft_v rfl ?_
        refine Eng.sv rfl rfl (Eng.x_mv (v := (.tuple #[(.agg #[(.int .i64 (n : Int)), (.int .i64 ((a / n : Nat) : Int)), (.int .i64 ((oS n a c / 2 ^ n : Nat) : Int)), (.int .i64 (oT n a c : Int))]), (.int .i64 (oF n a c : Int)), (.int .i64 (oT n a c : Int)), (.int .i64 0)])) rfl rfl) ?_
        refine Eng.sv rfl rfl (Eng.x_ext (v := (.agg #[(.int .i64 (n : Int)), (.int .i64 ((a / n : Nat) : Int)), (.int .i64 ((oS n a c / 2 ^ n : Nat) : Int)), (.int .i64 (oT n a c : Int))])) rfl rfl rfl) ?_
        refine Eng.sv rfl rfl (Eng.x_ext (v := (.int .i64 (oF n a c : Int))) rfl rfl rfl) ?_
        refine Eng.sv rfl rfl (Eng.x_ext (v := (.int .i64 (oT n a c : Int))) rfl rfl rfl) ?_
        refine Eng.sv rfl rfl (Eng.x_ext (v := (.int .i64 0)) rfl rfl rfl) ?_
        refine Eng.al rfl rfl rfl zr23_tg (cs := [(.int .i64 0), (.int .i64 0), (.int .i64 0), (.int .i64 0)]) rfl ?_
        intro w33 hk33 hb33 hz33
        refine Eng.stB (v := (.agg #[(.int .i64 (n : Int)), (.int .i64 ((a / n : Nat) : Int)), (.int .i64 ((oS n a c / 2 ^ n : Nat) : Int)), (.int .i64 (oT n a c : Int))])) rfl rfl rfl sz23_tg rfl hk33 rfl rfl (cs' := [(.int .i64 (n : Int)), (.int .i64 ((a / n : Nat) : Int)), (.int .i64 ((oS n a c / 2 ^ n : Nat) : Int)), (.int .i64 (oT n a c : Int))]) rfl rfl (Eng.one_cons rfl (Eng.one_cons rfl (Eng.one_cons rfl (Eng.one_cons rfl Eng.one_nil)))) ?_
        intro w34 hk34 hg34
        refine Eng.sv rfl rfl (Eng.x_as (v := (.int .i64 (oF n a c : Int))) rfl rfl) ?_
        refine Eng.sv rfl rfl (Eng.x_as (v := (.int .i64 (oT n a c : Int))) rfl rfl) ?_
        refine Eng.sv rfl rfl (Eng.x_as (v := (.int .i64 0)) rfl rfl) ?_
        refine Eng.nil ?_
        refine hK30 _ _ ?_
        refine Eng.seqk fun K35 hK35 => ?_
        refine Eng.seqk fun K36 hK36 => ?_
        by_cases r0 : ((a / n : Nat) : Int) ≠ l
        · skip
          refine Eng.reg ?_
          refine Eng.sv rfl rfl (Eng.x_fa (v := (.pointer (some ⟨w32.heap.size, 1, none⟩))) rfl rfl (by kernel_rfl)) ?_
          refine Eng.sv rfl rfl (Eng.x_ld1 (v := (.int .i64 ((a / n : Nat) : Int))) rfl ag3_tg rfl ((hk34).cell 1)) ?_
          refine Eng.sv rfl rfl (Eng.x_fa (v := (.pointer (some ⟨w.heap.size, 1, none⟩))) rfl rfl (by kernel_rfl)) ?_
          have hB1_3 : Below w2.heap.size w2 w4 := (hb3).trans (hb4.mono (hb3).size)
          have hB1_4 : Below w2.heap.size w2 w20 := (hB1_3).trans (hb20.mono (hB1_3).size)
          have hB1_5 : Below w2.heap.size w2 w22 := (hB1_4).trans (hb22.mono (hB1_4).size)
          have hB1_6 : Below w2.heap.size w2 w32 := (hB1_5).trans (hb32.mono (hB1_5).size)
          have hk37 := (((hk26).below hb32).below hb33).grown hg34 (fun e => absurd (Option.some.inj e) (Nat.ne_of_lt (Nat.lt_of_lt_of_le hz2 (Nat.le_trans (hB1_6).size (Nat.le_refl _)))))
          refine Eng.sv rfl rfl (Eng.x_ld1 (v := (.int .i64 l)) rfl ag3_tg rfl ((hk37).cell 1)) ?_
          refine Eng.sv rfl rfl (Eng.x_ne (r := true) rfl rfl rfl (Eng.ne_t (by omega))) ?_
          refine Eng.sv rfl rfl (Eng.x_mv (v := (.bool true)) rfl rfl) ?_
          refine Eng.sg (Eng.gf rfl rfl rfl rfl) rfl ?_
          refine Eng.sg (Eng.gf rfl rfl rfl rfl) rfl ?_
          refine Eng.sg (Eng.gf rfl rfl rfl rfl) rfl ?_
          refine Eng.sg (Eng.gf rfl rfl rfl rfl) rfl ?_
          refine Eng.sg (Eng.gf rfl rfl rfl rfl) rfl ?_
          refine Eng.sv rfl rfl (Eng.x_pick (v := (.bool true)) rfl rfl rfl rfl rfl) ?_
          refine Eng.sv rfl rfl (Eng.x_mv (v := (.bool true)) rfl rfl) ?_
          refine Eng.sg (Eng.gf rfl rfl rfl rfl) rfl ?_
          refine Eng.sg (Eng.gf rfl rfl rfl rfl) rfl ?_
          refine Eng.sg (Eng.gf rfl rfl rfl rfl) rfl ?_
          refine Eng.sg (Eng.gf rfl rfl rfl rfl) rfl ?_
          refine Eng.sv rfl rfl (Eng.x_pick (v := (.bool true)) rfl rfl rfl rfl rfl) ?_
          refine Eng.nil ?_
          refine hK36 _ _ ?_
          refine Eng.cond_t rfl ?_
          refine Eng.seqk fun K38 hK38 => ?_
          refine Eng.reg ?_
          refine Eng.sv rfl rfl (Eng.x_build (ps := []) (v := (dg Oct.dz)) rfl rfl (by kernel_rfl)) ?_
          have hB3_5 : Below w4.heap.size w4 w22 := (hb20).trans (hb22.mono (hb20).size)
          have hB3_6 : Below w4.heap.size w4 w32 := (hB3_5).trans (hb32.mono (hB3_5).size)
          have hk39 := (((((hk4).below hb20).below hb22).below hb32).below hb33).grown hg34 (fun e => absurd (Option.some.inj e) (Nat.ne_of_lt (Nat.lt_of_lt_of_le hz4 (Nat.le_trans (hB3_6).size (Nat.le_refl _)))))
          refine Eng.stB (v := (dg Oct.dz)) rfl rfl rfl sz45_tg rfl hk39 rfl rfl (cs' := (bcs Oct.dz)) rfl rfl (bcs_one _) ?_
          intro w40 hk40 hg40
          refine Eng.sv rfl rfl (Eng.x_as (v := (.int .i64 40)) rfl rfl) ?_
          refine Eng.nil ?_
          refine hK38 _ _ ?_
          refine Eng.rt ?_
          refine Eng.tr ?_
          refine Eng.ret (Eng.res2 (v1 := (dg Oct.dz)) (v2 := (.int .i64 40)) rfl (Eng.rdc rfl (Eng.lvB ag45_tg sz45_tg hk40 rfl rfl)) (Eng.rdt rfl)) ?_
          have hB0_6 : Below w.heap.size w w32 := (hB0_5).trans (hb32.mono (hB0_5).size)
          have hB0_7 : Below w.heap.size w w33 := (hB0_6).trans (hb33.mono (hB0_6).size)
          have hB0_8 : Below w.heap.size w w34 := (hB0_7).grown hg34 (hB0_7).size (fun k e => by cases e; exact Nat.le_trans (hB0_6).size (Nat.le_refl _))
          have hB0_9 : Below w.heap.size w w40 := (hB0_8).grown hg40 (hB0_8).size (fun k e => by cases e; exact Nat.le_trans (hB0_2).size (Nat.le_refl _))
          exact ⟨by rw [dg_out ht1 hn1 (by omega) e1 e2 e3 (.inl r0)], hB0_9⟩
        · skip
          by_cases r1 : ((oS n a c / 2 ^ n : Nat) : Int) ≠ i
          · skip
            refine Eng.reg ?_
            refine Eng.sv rfl rfl (Eng.x_fa (v := (.pointer (some ⟨w32.heap.size, 1, none⟩))) rfl rfl (by kernel_rfl)) ?_
            refine Eng.sv rfl rfl (Eng.x_ld1 (v := (.int .i64 ((a / n : Nat) : Int))) rfl ag3_tg rfl ((hk34).cell 1)) ?_
            refine Eng.sv rfl rfl (Eng.x_fa (v := (.pointer (some ⟨w.heap.size, 1, none⟩))) rfl rfl (by kernel_rfl)) ?_
            have hB1_3 : Below w2.heap.size w2 w4 := (hb3).trans (hb4.mono (hb3).size)
            have hB1_4 : Below w2.heap.size w2 w20 := (hB1_3).trans (hb20.mono (hB1_3).size)
            have hB1_5 : Below w2.heap.size w2 w22 := (hB1_4).trans (hb22.mono (hB1_4).size)
            have hB1_6 : Below w2.heap.size w2 w32 := (hB1_5).trans (hb32.mono (hB1_5).size)
            have hk41 := (((hk26).below hb32).below hb33).grown hg34 (fun e => absurd (Option.some.inj e) (Nat.ne_of_lt (Nat.lt_of_lt_of_le hz2 (Nat.le_trans (hB1_6).size (Nat.le_refl _)))))
            refine Eng.sv rfl rfl (Eng.x_ld1 (v := (.int .i64 l)) rfl ag3_tg rfl ((hk41).cell 1)) ?_
            refine Eng.sv rfl rfl (Eng.x_ne (r := false) rfl rfl rfl (Eng.ne_f (by omega))) ?_
            refine Eng.sv rfl rfl (Eng.x_mv (v := (.bool false)) rfl rfl) ?_
            refine Eng.sv (Eng.gt rfl rfl rfl rfl) rfl (Eng.x_fa (v := (.pointer (some ⟨w32.heap.size, 2, none⟩))) rfl rfl (by kernel_rfl)) ?_
            refine Eng.sv (Eng.gt rfl rfl rfl rfl) rfl (Eng.x_ld1 (v := (.int .i64 ((oS n a c / 2 ^ n : Nat) : Int))) rfl ag3_tg rfl ((hk34).cell 2)) ?_
            refine Eng.sv (Eng.gt rfl rfl rfl rfl) rfl (Eng.x_fa (v := (.pointer (some ⟨w.heap.size, 2, none⟩))) rfl rfl (by kernel_rfl)) ?_
            refine Eng.sv (Eng.gt rfl rfl rfl rfl) rfl (Eng.x_ld1 (v := (.int .i64 i)) rfl ag3_tg rfl ((hk41).cell 2)) ?_
            refine Eng.sv (Eng.gt rfl rfl rfl rfl) rfl (Eng.x_ne (r := true) rfl rfl rfl (Eng.ne_t (by omega))) ?_
            refine Eng.sv rfl rfl (Eng.x_pick (v := (.bool true)) rfl rfl rfl rfl rfl) ?_
            refine Eng.sv rfl rfl (Eng.x_mv (v := (.bool true)) rfl rfl) ?_
            refine Eng.sg (Eng.gf rfl rfl rfl rfl) rfl ?_
            refine Eng.sg (Eng.gf rfl rfl rfl rfl) rfl ?_
            refine Eng.sg (Eng.gf rfl rfl rfl rfl) rfl ?_
            refine Eng.sg (Eng.gf rfl rfl rfl rfl) rfl ?_
            refine Eng.sv rfl rfl (Eng.x_pick (v := (.bool true)) rfl rfl rfl rfl rfl) ?_
            refine Eng.nil ?_
            refine hK36 _ _ ?_
            refine Eng.cond_t rfl ?_
            refine Eng.seqk fun K42 hK42 => ?_
            refine Eng.reg ?_
            refine Eng.sv rfl rfl (Eng.x_build (ps := []) (v := (dg Oct.dz)) rfl rfl (by kernel_rfl)) ?_
            have hB3_5 : Below w4.heap.size w4 w22 := (hb20).trans (hb22.mono (hb20).size)
            have hB3_6 : Below w4.heap.size w4 w32 := (hB3_5).trans (hb32.mono (hB3_5).size)
            have hk43 := (((((hk4).below hb20).below hb22).below hb32).below hb33).grown hg34 (fun e => absurd (Option.some.inj e) (Nat.ne_of_lt (Nat.lt_of_lt_of_le hz4 (Nat.le_trans (hB3_6).size (Nat.le_refl _)))))
            refine Eng.stB (v := (dg Oct.dz)) rfl rfl rfl sz45_tg rfl hk43 rfl rfl (cs' := (bcs Oct.dz)) rfl rfl (bcs_one _) ?_
            intro w44 hk44 hg44
            refine Eng.sv rfl rfl (Eng.x_as (v := (.int .i64 40)) rfl rfl) ?_
            refine Eng.nil ?_
            refine hK42 _ _ ?_
            refine Eng.rt ?_
            refine Eng.tr ?_
            refine Eng.ret (Eng.res2 (v1 := (dg Oct.dz)) (v2 := (.int .i64 40)) rfl (Eng.rdc rfl (Eng.lvB ag45_tg sz45_tg hk44 rfl rfl)) (Eng.rdt rfl)) ?_
            have hB0_6 : Below w.heap.size w w32 := (hB0_5).trans (hb32.mono (hB0_5).size)
            have hB0_7 : Below w.heap.size w w33 := (hB0_6).trans (hb33.mono (hB0_6).size)
            have hB0_8 : Below w.heap.size w w34 := (hB0_7).grown hg34 (hB0_7).size (fun k e => by cases e; exact Nat.le_trans (hB0_6).size (Nat.le_refl _))
            have hB0_9 : Below w.heap.size w w44 := (hB0_8).grown hg44 (hB0_8).size (fun k e => by cases e; exact Nat.le_trans (hB0_2).size (Nat.le_refl _))
            exact ⟨by rw [dg_out ht1 hn1 (by omega) e1 e2 e3 (.inr (.inl r1))], hB0_9⟩
          · skip
            by_cases r2 : x < (oT n a c : Int)
            · skip
              refine Eng.reg ?_
              refine Eng.sv rfl rfl (Eng.x_fa (v := (.pointer (some ⟨w32.heap.size, 1, none⟩))) rfl rfl (by kernel_rfl)) ?_
              refine Eng.sv rfl rfl (Eng.x_ld1 (v := (.int .i64 ((a / n : Nat) : Int))) rfl ag3_tg rfl ((hk34).cell 1)) ?_
              refine Eng.sv rfl rfl (Eng.x_fa (v := (.pointer (some ⟨w.heap.size, 1, none⟩))) rfl rfl (by kernel_rfl)) ?_
              have hB1_3 : Below w2.heap.size w2 w4 := (hb3).trans (hb4.mono (hb3).size)
              have hB1_4 : Below w2.heap.size w2 w20 := (hB1_3).trans (hb20.mono (hB1_3).size)
              have hB1_5 : Below w2.heap.size w2 w22 := (hB1_4).trans (hb22.mono (hB1_4).size)
              have hB1_6 : Below w2.heap.size w2 w32 := (hB1_5).trans (hb32.mono (hB1_5).size)
              have hk45 := (((hk26).below hb32).below hb33).grown hg34 (fun e => absurd (Option.some.inj e) (Nat.ne_of_lt (Nat.lt_of_lt_of_le hz2 (Nat.le_trans (hB1_6).size (Nat.le_refl _)))))
              refine Eng.sv rfl rfl (Eng.x_ld1 (v := (.int .i64 l)) rfl ag3_tg rfl ((hk45).cell 1)) ?_
              refine Eng.sv rfl rfl (Eng.x_ne (r := false) rfl rfl rfl (Eng.ne_f (by omega))) ?_
              refine Eng.sv rfl rfl (Eng.x_mv (v := (.bool false)) rfl rfl) ?_
              refine Eng.sv (Eng.gt rfl rfl rfl rfl) rfl (Eng.x_fa (v := (.pointer (some ⟨w32.heap.size, 2, none⟩))) rfl rfl (by kernel_rfl)) ?_
              refine Eng.sv (Eng.gt rfl rfl rfl rfl) rfl (Eng.x_ld1 (v := (.int .i64 ((oS n a c / 2 ^ n : Nat) : Int))) rfl ag3_tg rfl ((hk34).cell 2)) ?_
              refine Eng.sv (Eng.gt rfl rfl rfl rfl) rfl (Eng.x_fa (v := (.pointer (some ⟨w.heap.size, 2, none⟩))) rfl rfl (by kernel_rfl)) ?_
              refine Eng.sv (Eng.gt rfl rfl rfl rfl) rfl (Eng.x_ld1 (v := (.int .i64 i)) rfl ag3_tg rfl ((hk45).cell 2)) ?_
              refine Eng.sv (Eng.gt rfl rfl rfl rfl) rfl (Eng.x_ne (r := false) rfl rfl rfl (Eng.ne_f (by omega))) ?_
              refine Eng.sv rfl rfl (Eng.x_pick (v := (.bool false)) rfl rfl rfl rfl rfl) ?_
              refine Eng.sv rfl rfl (Eng.x_mv (v := (.bool false)) rfl rfl) ?_
              refine Eng.sv (Eng.gt rfl rfl rfl rfl) rfl (Eng.x_mv (v := (.int .i64 (oT n a c : Int))) rfl rfl) ?_
              refine Eng.sv (Eng.gt rfl rfl rfl rfl) rfl (Eng.x_fa (v := (.pointer (some ⟨w.heap.size, 3, none⟩))) rfl rfl (by kernel_rfl)) ?_
              refine Eng.sv (Eng.gt rfl rfl rfl rfl) rfl (Eng.x_ld1 (v := (.int .i64 x)) rfl ag3_tg rfl ((hk45).cell 3)) ?_
              refine Eng.sv (Eng.gt rfl rfl rfl rfl) rfl (Eng.x_gt (r := true) rfl rfl rfl (decide_eq_true (by omega))) ?_
              refine Eng.sv rfl rfl (Eng.x_pick (v := (.bool true)) rfl rfl rfl rfl rfl) ?_
              refine Eng.nil ?_
              refine hK36 _ _ ?_
              refine Eng.cond_t rfl ?_
              refine Eng.seqk fun K46 hK46 => ?_
              refine Eng.reg ?_
              refine Eng.sv rfl rfl (Eng.x_build (ps := []) (v := (dg Oct.dz)) rfl rfl (by kernel_rfl)) ?_
              have hB3_5 : Below w4.heap.size w4 w22 := (hb20).trans (hb22.mono (hb20).size)
              have hB3_6 : Below w4.heap.size w4 w32 := (hB3_5).trans (hb32.mono (hB3_5).size)
              have hk47 := (((((hk4).below hb20).below hb22).below hb32).below hb33).grown hg34 (fun e => absurd (Option.some.inj e) (Nat.ne_of_lt (Nat.lt_of_lt_of_le hz4 (Nat.le_trans (hB3_6).size (Nat.le_refl _)))))
              refine Eng.stB (v := (dg Oct.dz)) rfl rfl rfl sz45_tg rfl hk47 rfl rfl (cs' := (bcs Oct.dz)) rfl rfl (bcs_one _) ?_
              intro w48 hk48 hg48
              refine Eng.sv rfl rfl (Eng.x_as (v := (.int .i64 40)) rfl rfl) ?_
              refine Eng.nil ?_
              refine hK46 _ _ ?_
              refine Eng.rt ?_
              refine Eng.tr ?_
              refine Eng.ret (Eng.res2 (v1 := (dg Oct.dz)) (v2 := (.int .i64 40)) rfl (Eng.rdc rfl (Eng.lvB ag45_tg sz45_tg hk48 rfl rfl)) (Eng.rdt rfl)) ?_
              have hB0_6 : Below w.heap.size w w32 := (hB0_5).trans (hb32.mono (hB0_5).size)
              have hB0_7 : Below w.heap.size w w33 := (hB0_6).trans (hb33.mono (hB0_6).size)
              have hB0_8 : Below w.heap.size w w34 := (hB0_7).grown hg34 (hB0_7).size (fun k e => by cases e; exact Nat.le_trans (hB0_6).size (Nat.le_refl _))
              have hB0_9 : Below w.heap.size w w48 := (hB0_8).grown hg48 (hB0_8).size (fun k e => by cases e; exact Nat.le_trans (hB0_2).size (Nat.le_refl _))
              exact ⟨by rw [dg_out ht1 hn1 (by omega) e1 e2 e3 (.inr (.inr r2))], hB0_9⟩
            · skip
              refine Eng.reg ?_
              refine Eng.sv rfl rfl (Eng.x_fa (v := (.pointer (some ⟨w32.heap.size, 1, none⟩))) rfl rfl (by kernel_rfl)) ?_
              refine Eng.sv rfl rfl (Eng.x_ld1 (v := (.int .i64 ((a / n : Nat) : Int))) rfl ag3_tg rfl ((hk34).cell 1)) ?_
              refine Eng.sv rfl rfl (Eng.x_fa (v := (.pointer (some ⟨w.heap.size, 1, none⟩))) rfl rfl (by kernel_rfl)) ?_
              have hB1_3 : Below w2.heap.size w2 w4 := (hb3).trans (hb4.mono (hb3).size)
              have hB1_4 : Below w2.heap.size w2 w20 := (hB1_3).trans (hb20.mono (hB1_3).size)
              have hB1_5 : Below w2.heap.size w2 w22 := (hB1_4).trans (hb22.mono (hB1_4).size)
              have hB1_6 : Below w2.heap.size w2 w32 := (hB1_5).trans (hb32.mono (hB1_5).size)
              have hk49 := (((hk26).below hb32).below hb33).grown hg34 (fun e => absurd (Option.some.inj e) (Nat.ne_of_lt (Nat.lt_of_lt_of_le hz2 (Nat.le_trans (hB1_6).size (Nat.le_refl _)))))
              refine Eng.sv rfl rfl (Eng.x_ld1 (v := (.int .i64 l)) rfl ag3_tg rfl ((hk49).cell 1)) ?_
              refine Eng.sv rfl rfl (Eng.x_ne (r := false) rfl rfl rfl (Eng.ne_f (by omega))) ?_
              refine Eng.sv rfl rfl (Eng.x_mv (v := (.bool false)) rfl rfl) ?_
              refine Eng.sv (Eng.gt rfl rfl rfl rfl) rfl (Eng.x_fa (v := (.pointer (some ⟨w32.heap.size, 2, none⟩))) rfl rfl (by kernel_rfl)) ?_
              refine Eng.sv (Eng.gt rfl rfl rfl rfl) rfl (Eng.x_ld1 (v := (.int .i64 ((oS n a c / 2 ^ n : Nat) : Int))) rfl ag3_tg rfl ((hk34).cell 2)) ?_
              refine Eng.sv (Eng.gt rfl rfl rfl rfl) rfl (Eng.x_fa (v := (.pointer (some ⟨w.heap.size, 2, none⟩))) rfl rfl (by kernel_rfl)) ?_
              refine Eng.sv (Eng.gt rfl rfl rfl rfl) rfl (Eng.x_ld1 (v := (.int .i64 i)) rfl ag3_tg rfl ((hk49).cell 2)) ?_
              refine Eng.sv (Eng.gt rfl rfl rfl rfl) rfl (Eng.x_ne (r := false) rfl rfl rfl (Eng.ne_f (by omega))) ?_
              refine Eng.sv rfl rfl (Eng.x_pick (v := (.bool false)) rfl rfl rfl rfl rfl) ?_
              refine Eng.sv rfl rfl (Eng.x_mv (v := (.bool false)) rfl rfl) ?_
              refine Eng.sv (Eng.gt rfl rfl rfl rfl) rfl (Eng.x_mv (v := (.int .i64 (oT n a c : Int))) rfl rfl) ?_
              refine Eng.sv (Eng.gt rfl rfl rfl rfl) rfl (Eng.x_fa (v := (.pointer (some ⟨w.heap.size, 3, none⟩))) rfl rfl (by kernel_rfl)) ?_
              refine Eng.sv (Eng.gt rfl rfl rfl rfl) rfl (Eng.x_ld1 (v := (.int .i64 x)) rfl ag3_tg rfl ((hk49).cell 3)) ?_
              refine Eng.sv (Eng.gt rfl rfl rfl rfl) rfl (Eng.x_gt (r := false) rfl rfl rfl (decide_eq_false (by omega))) ?_
              refine Eng.sv rfl rfl (Eng.x_pick (v := (.bool false)) rfl rfl rfl rfl rfl) ?_
              refine Eng.nil ?_
              refine hK36 _ _ ?_
              refine Eng.cond_f rfl ?_
              refine Eng.skp ?_
              refine hK35 _ _ ?_
              refine Eng.seqk fun K50 hK50 => ?_
              refine Eng.reg ?_
              refine Eng.sv rfl rfl (Eng.x_mv (v := v) rfl rfl) ?_
              refine Eng.sv rfl rfl (Eng.x_mv (v := (.int .i64 (oF n a c : Int))) rfl rfl) ?_
              refine Eng.sv rfl rfl (Eng.x_mul rfl rfl rfl (Eng.w64 (r := ((32 * oF n a c : Nat) : Int)) (by omega))) ?_
              refine Eng.sv rfl rfl (Eng.x_mv (v := (.int .i64 (oT n a c : Int))) rfl rfl) ?_
              refine Eng.sv rfl rfl (Eng.x_mul rfl rfl rfl (Eng.w64 (r := ((32 * oT n a c : Nat) : Int)) (by omega))) ?_
              have hB0_6 : Below w.heap.size w w32 := (hB0_5).trans (hb32.mono (hB0_5).size)
              have hB0_7 : Below w.heap.size w w33 := (hB0_6).trans (hb33.mono (hB0_6).size)
              have hB0_8 : Below w.heap.size w w34 := (hB0_7).grown hg34 (hB0_7).size (fun k e => by cases e; exact Nat.le_trans (hB0_6).size (Nat.le_refl _))
              have hr51 := (hb).below hB0_8
              have hq52 : Rd w (Eng.sCut v (32 * oF n a c) (32 * oT n a c) 1) (((b).drop (32 * oF n a c)).take ((32 * oT n a c) - (32 * oF n a c))) := (Eng.rd_cut (hb).1 (by omega) (by omega))
              refine Eng.sv rfl rfl (Eng.x_sl (v := v) rfl Tryd.underlying48 sz5_tg rfl (hr51).1 (32 * oF n a c) (32 * oT n a c) (Eng.bd (k := .i64) rfl) (Eng.bd (k := .i64) rfl) (by omega) (by omega)) ?_
              have hr53 := (hq52).below hB0_8
              refine Eng.sc rfl (Eng.xc (vl := [(Eng.sCut v (32 * oF n a c) (32 * oT n a c) 1)]) rfl rfl rfl en59_tg) (pdigs_calls (Eng.sCut v (32 * oF n a c) (32 * oT n a c) 1) (((b).drop (32 * oF n a c)).take ((32 * oT n a c) - (32 * oF n a c))) _ ⟨hr53, by have := hb.2; simp only [List.length_take, List.length_drop]; show _ ≤ _; omega⟩) ?_
              rintro _ w54 ⟨vx54, rfl, ho54, hb54⟩
              refine Eng.aft_v rfl ?_
              have hB0_9 : Below w.heap.size w w54 := (hB0_8).trans (hb54.mono (hB0_8).size)
              have hr55 := (hKn).below hB0_9
              refine Eng.sc rfl (Eng.xc (vl := [vx54]) rfl rfl rfl en58_tg) (troot_calls _ (dL (((b).drop (32 * oF n a c)).take ((32 * oT n a c) - (32 * oF n a c))) ((((b).drop (32 * oF n a c)).take ((32 * oT n a c) - (32 * oF n a c))).length / 32)) _ (ho54).ds (by simp only [List.length_take, List.length_drop, dL_length]; omega) hr55) ?_
              rintro _ w56 ⟨rfl, hb56⟩
              refine Eng.aft_v rfl ?_
              have hB3_5 : Below w4.heap.size w4 w22 := (hb20).trans (hb22.mono (hb20).size)
              have hB3_6 : Below w4.heap.size w4 w32 := (hB3_5).trans (hb32.mono (hB3_5).size)
              have hk57 := (((((((hk4).below hb20).below hb22).below hb32).below hb33).grown hg34 (fun e => absurd (Option.some.inj e) (Nat.ne_of_lt (Nat.lt_of_lt_of_le hz4 (Nat.le_trans (hB3_6).size (Nat.le_refl _)))))).below hb54).below hb56
              refine Eng.stB (v := (dg (rootS (dL (((b).drop (32 * oF n a c)).take ((32 * oT n a c) - (32 * oF n a c))) ((((b).drop (32 * oF n a c)).take ((32 * oT n a c) - (32 * oF n a c))).length / 32))))) rfl rfl rfl sz45_tg rfl hk57 rfl rfl (cs' := (bcs (rootS (dL (((b).drop (32 * oF n a c)).take ((32 * oT n a c) - (32 * oF n a c))) ((((b).drop (32 * oF n a c)).take ((32 * oT n a c) - (32 * oF n a c))).length / 32))))) rfl ((bcs_length _).trans (rootS_len _ ((ho54).ds).2 (by simp only [List.length_take, List.length_drop, dL_length]; omega))) (bcs_one _) ?_
              intro w58 hk58 hg58
              refine Eng.sv rfl rfl (Eng.x_as (v := (.int .i64 0)) rfl rfl) ?_
              refine Eng.nil ?_
              refine hK50 _ _ ?_
              refine Eng.rt ?_
              refine Eng.ret (Eng.res2 (v1 := (dg (rootS (dL (((b).drop (32 * oF n a c)).take ((32 * oT n a c) - (32 * oF n a c))) ((((b).drop (32 * oF n a c)).take ((32 * oT n a c) - (32 * oF n a c))).length / 32))))) (v2 := (.int .i64 0)) rfl (Eng.rdc rfl (Eng.lvB ag45_tg sz45_tg hk58 ((bcs_length _).trans (rootS_len _ ((ho54).ds).2 (by simp only [List.length_take, List.length_drop, dL_length]; omega))) rfl)) (Eng.rdt rfl)) ?_
              have hB0_10 : Below w.heap.size w w56 := (hB0_9).trans (hb56.mono (hB0_9).size)
              have hB0_11 : Below w.heap.size w w58 := (hB0_10).grown hg58 (hB0_10).size (fun k e => by cases e; exact Nat.le_trans (hB0_2).size (Nat.le_refl _))
              exact ⟨by rw [dg_ok ht1 hn1 (by omega) e1 e2 e3 (by omega) (by omega) r2, dL_cut hft (by omega)], hB0_11⟩
set_option maxRecDepth 100000 in
set_option maxHeartbeats 4000000 in
theorem troott_calls (h l i x : Int) (v : Value) (b : List UInt8) (w : World) (hb : Bs w v b) (hKn : Kon w) : Calls Tryd.prog 24 #[(.agg #[(.int .i64 h), (.int .i64 l), (.int .i64 i), (.int .i64 x)]), v] w (fun e w' => e = .returned (.tuple #[dg (rotOf h l i x b).1, .int .i64 (rotOf h l i x b).2]) ∧ Below w.heap.size w w') := by
  have hbl := hb.2
  refine Eng.enter (l := [(.agg #[(.int .i64 h), (.int .i64 l), (.int .i64 i), (.int .i64 x)]), v]) Tryd.func24 rfl 22 rfl (by simp) ?_
  refine Eng.seqk fun K1 hK1 => ?_
  refine Eng.reg ?_
  refine Eng.bo (v := (.agg #[(.int .i64 h), (.int .i64 l), (.int .i64 i), (.int .i64 x)])) (cs := [(.int .i64 h), (.int .i64 l), (.int .i64 i), (.int .i64 x)]) rfl rfl rfl rfl rfl ?_
  intro w2 hk2 hb2 hz2
  refine Eng.al rfl rfl rfl zr45_tg (cs := (bcs Oct.dz)) rfl ?_
  intro w3 hk3 hb3 hz3
  refine Eng.sv rfl rfl (Eng.x_as (v := (.int .i64 0)) rfl rfl) ?_
  refine Eng.nil ?_
  refine hK1 _ _ ?_
  refine Eng.seqk fun K4 hK4 => ?_
  refine Eng.blk ?_
  refine Eng.seqk fun K5 hK5 => ?_
  by_cases q0 : tv h l i x = false
  · skip
    refine Eng.reg ?_
    have hk6 := (hk2).below hb3
    refine Eng.sv rfl rfl (Eng.x_ldB (v := (.agg #[(.int .i64 h), (.int .i64 l), (.int .i64 i), (.int .i64 x)])) rfl ag23_tg sz23_tg rfl hk6 rfl rfl) ?_
    refine Eng.sc rfl (Eng.xc (vl := [(.agg #[(.int .i64 h), (.int .i64 l), (.int .i64 i), (.int .i64 x)])]) rfl rfl rfl en15_tg) (tvalid_is q0 _) ?_
    rintro _ w7 ⟨rfl, hb7⟩
    refine Eng.aft_v rfl ?_
    refine Eng.sv rfl rfl (Eng.x_not (v := (.bool true)) rfl rfl rfl) ?_
    refine Eng.sv rfl rfl (Eng.x_as (v := (.bool true)) rfl rfl) ?_
    refine Eng.nil ?_
    refine hK5 _ _ ?_
    refine Eng.cond_t rfl ?_
    refine Eng.seqk fun K8 hK8 => ?_
    refine Eng.reg ?_
    refine Eng.sv rfl rfl (Eng.x_build (ps := []) (v := (dg Oct.dz)) rfl rfl (by kernel_rfl)) ?_
    have hk9 := (hk3).below hb7
    refine Eng.stB (v := (dg Oct.dz)) rfl rfl rfl sz45_tg rfl hk9 rfl rfl (cs' := (bcs Oct.dz)) rfl rfl (bcs_one _) ?_
    intro w10 hk10 hg10
    refine Eng.sv rfl rfl (Eng.x_as (v := (.int .i64 2)) rfl rfl) ?_
    refine Eng.nil ?_
    refine hK8 _ _ ?_
    refine Eng.rt ?_
    refine Eng.br ?_
    refine Eng.tr ?_
    refine Eng.ret (Eng.res2 (v1 := (dg Oct.dz)) (v2 := (.int .i64 2)) rfl (Eng.rdc rfl (Eng.lvB ag45_tg sz45_tg hk10 rfl rfl)) (Eng.rdt rfl)) ?_
    have hB0_2 : Below w.heap.size w w3 := (hb2).trans (hb3.mono (hb2).size)
    have hB0_3 : Below w.heap.size w w7 := (hB0_2).trans (hb7.mono (hB0_2).size)
    have hB0_4 : Below w.heap.size w w10 := (hB0_3).grown hg10 (hB0_3).size (fun k e => by cases e; exact Nat.le_trans (hb2).size (Nat.le_refl _))
    exact ⟨by unfold rotOf; rw [if_neg (by rw [q0]; decide)], hB0_4⟩
  · skip
    have ht1 : tv h l i x = true := by simpa using q0
    obtain ⟨t1, t2, t3, t4, t5, t6⟩ := tv_yes ht1
    have hpw := pwb t1
    have hx2 : x ≤ 256 := by omega
    refine Eng.reg ?_
    have hk11 := (hk2).below hb3
    refine Eng.sv rfl rfl (Eng.x_ldB (v := (.agg #[(.int .i64 h), (.int .i64 l), (.int .i64 i), (.int .i64 x)])) rfl ag23_tg sz23_tg rfl hk11 rfl rfl) ?_
    refine Eng.sc rfl (Eng.xc (vl := [(.agg #[(.int .i64 h), (.int .i64 l), (.int .i64 i), (.int .i64 x)])]) rfl rfl rfl en15_tg) (tvalid_is ht1 _) ?_
    rintro _ w12 ⟨rfl, hb12⟩
    refine Eng.aft_v rfl ?_
    refine Eng.sv rfl rfl (Eng.x_not (v := (.bool false)) rfl rfl rfl) ?_
    refine Eng.sv rfl rfl (Eng.x_as (v := (.bool false)) rfl rfl) ?_
    refine Eng.nil ?_
    refine hK5 _ _ ?_
    refine Eng.cond_f rfl ?_
    refine Eng.seqk fun K13 hK13 => ?_
    refine Eng.reg ?_
    refine Eng.sv rfl rfl (Eng.x_mv (v := v) rfl rfl) ?_
    have hB0_2 : Below w.heap.size w w3 := (hb2).trans (hb3.mono (hb2).size)
    have hB0_3 : Below w.heap.size w w12 := (hB0_2).trans (hb12.mono (hB0_2).size)
    have hr14 := (hb).below hB0_3
    refine Eng.sv rfl rfl (Eng.x_len (v := v) (r := (b.length : Int)) rfl Tryd.underlying48 rfl (hr14).1 rfl) ?_
    refine Eng.sv rfl rfl (Eng.x_fa (v := (.pointer (some ⟨w.heap.size, 3, none⟩))) rfl rfl (by kernel_rfl)) ?_
    have hk15 := (hk11).below hb12
    refine Eng.sv rfl rfl (Eng.x_ld1 (v := (.int .i64 x)) rfl ag3_tg rfl ((hk15).cell 3)) ?_
    refine Eng.sv rfl rfl (Eng.x_mul rfl rfl rfl (Eng.w64 (r := (32 * x)) (by omega))) ?_
    by_cases hl : ((b.length : Int) : Int) ≠ (32 * x)
    · skip
      refine Eng.sv rfl rfl (Eng.x_ne (r := true) rfl rfl rfl (Eng.ne_t (by omega))) ?_
      refine Eng.sv rfl rfl (Eng.x_as (v := (.bool true)) rfl rfl) ?_
      refine Eng.nil ?_
      refine hK13 _ _ ?_
      refine Eng.cond_t rfl ?_
      refine Eng.seqk fun K16 hK16 => ?_
      refine Eng.reg ?_
      refine Eng.sv rfl rfl (Eng.x_build (ps := []) (v := (dg Oct.dz)) rfl rfl (by kernel_rfl)) ?_
      have hk17 := (hk3).below hb12
      refine Eng.stB (v := (dg Oct.dz)) rfl rfl rfl sz45_tg rfl hk17 rfl rfl (cs' := (bcs Oct.dz)) rfl rfl (bcs_one _) ?_
      intro w18 hk18 hg18
      refine Eng.sv rfl rfl (Eng.x_as (v := (.int .i64 101)) rfl rfl) ?_
      refine Eng.nil ?_
      refine hK16 _ _ ?_
      refine Eng.rt ?_
      refine Eng.br ?_
      refine Eng.tr ?_
      refine Eng.ret (Eng.res2 (v1 := (dg Oct.dz)) (v2 := (.int .i64 101)) rfl (Eng.rdc rfl (Eng.lvB ag45_tg sz45_tg hk18 rfl rfl)) (Eng.rdt rfl)) ?_
      have hB0_4 : Below w.heap.size w w18 := (hB0_3).grown hg18 (hB0_3).size (fun k e => by cases e; exact Nat.le_trans (hb2).size (Nat.le_refl _))
      exact ⟨by unfold rotOf; rw [if_pos ht1, if_pos hl], hB0_4⟩
    · skip
      refine Eng.sv rfl rfl (Eng.x_ne (r := false) rfl rfl rfl (Eng.ne_f (by omega))) ?_
      refine Eng.sv rfl rfl (Eng.x_as (v := (.bool false)) rfl rfl) ?_
      refine Eng.nil ?_
      refine hK13 _ _ ?_
      refine Eng.cond_f rfl ?_
      refine Eng.skp ?_
      refine Eng.nb ?_
      refine hK4 _ _ ?_
      refine Eng.seqk fun K19 hK19 => ?_
      refine Eng.reg ?_
      refine Eng.sv rfl rfl (Eng.x_mv (v := v) rfl rfl) ?_
      refine Eng.sc rfl (Eng.xc (vl := [v]) rfl rfl rfl en59_tg) (pdigs_calls v b _ ⟨(hr14).1, by have := hb.2; show _ ≤ _; omega⟩) ?_
      rintro _ w20 ⟨vx20, rfl, ho20, hb20⟩
      refine Eng.aft_v rfl ?_
      have hB0_4 : Below w.heap.size w w20 := (hB0_3).trans (hb20.mono (hB0_3).size)
      have hr21 := (hKn).below hB0_4
      refine Eng.sc rfl (Eng.xc (vl := [vx20]) rfl rfl rfl en58_tg) (troot_calls _ (dL b (b.length / 32)) _ (ho20).ds (by simp only [List.length_take, List.length_drop, dL_length]; omega) hr21) ?_
      rintro _ w22 ⟨rfl, hb22⟩
      refine Eng.aft_v rfl ?_
      have hk23 := (((hk3).below hb12).below hb20).below hb22
      refine Eng.stB (v := (dg (rootS (dL b (b.length / 32))))) rfl rfl rfl sz45_tg rfl hk23 rfl rfl (cs' := (bcs (rootS (dL b (b.length / 32))))) rfl ((bcs_length _).trans (rootS_len _ ((ho20).ds).2 (by simp only [List.length_take, List.length_drop, dL_length]; omega))) (bcs_one _) ?_
      intro w24 hk24 hg24
      refine Eng.sv rfl rfl (Eng.x_as (v := (.int .i64 0)) rfl rfl) ?_
      refine Eng.nil ?_
      refine hK19 _ _ ?_
      refine Eng.rt ?_
      refine Eng.ret (Eng.res2 (v1 := (dg (rootS (dL b (b.length / 32))))) (v2 := (.int .i64 0)) rfl (Eng.rdc rfl (Eng.lvB ag45_tg sz45_tg hk24 ((bcs_length _).trans (rootS_len _ ((ho20).ds).2 (by simp only [List.length_take, List.length_drop, dL_length]; omega))) rfl)) (Eng.rdt rfl)) ?_
      have hB0_5 : Below w.heap.size w w22 := (hB0_4).trans (hb22.mono (hB0_4).size)
      have hB0_6 : Below w.heap.size w w24 := (hB0_5).grown hg24 (hB0_5).size (fun k e => by cases e; exact Nat.le_trans (hb2).size (Nat.le_refl _))
      exact ⟨by unfold rotOf; rw [if_pos ht1, if_neg hl], hB0_6⟩
set_option maxRecDepth 100000 in
set_option maxHeartbeats 4000000 in
theorem names_calls (w : World) : Calls Tryd.prog 17 #[] w (fun e w' => e = .returned (.bool true) ∧ Below w.heap.size w w') := by
  refine Eng.enter (l := []) Tryd.func17 rfl 1 rfl (by simp) ?_
  refine Eng.seqk fun K1 hK1 => ?_
  refine Eng.reg ?_
  refine Eng.sv rfl rfl (Eng.x_as (v := (.bool false)) rfl rfl) ?_
  refine Eng.nil ?_
  refine hK1 _ _ ?_
  refine Eng.seqk fun K2 hK2 => ?_
  refine Eng.reg ?_
  refine Eng.sv rfl rfl (Eng.x_as (v := (.bool true)) rfl rfl) ?_
  refine Eng.nil ?_
  refine hK2 _ _ ?_
  refine Eng.rt ?_
  refine Eng.ret (Eng.res1 (v1 := (.bool true)) rfl (Eng.rdt rfl)) ?_
  exact ⟨rfl, Below.refl _ _⟩
theorem digOf_len (h l i x nl ni : Int) (b : List UInt8) : (digOf h l i x nl ni b).1.length = 32 := by
  unfold digOf
  split
  · split
    · exact dz_length
    · split
      · exact dz_length
      · rename_i c1 c2 c3
        obtain ⟨t1, t2, t3, t4, t5, t6⟩ := tv_yes c1.1
        have hpw := pwb t1
        exact rootS_len _ (all32_mid (dL_32 _ _) _ _) (by rw [List.length_take, List.length_drop, dL_length]; omega)
  · exact dz_length
theorem rotOf_len (h l i x : Int) (b : List UInt8) : (rotOf h l i x b).1.length = 32 := by
  unfold rotOf
  split
  · split
    · exact dz_length
    · rename_i c1 c2
      obtain ⟨t1, t2, t3, t4, t5, t6⟩ := tv_yes c1
      have hpw := pwb t1
      exact rootS_len _ (dL_32 _ _) (by rw [dL_length]; omega)
  · exact dz_length
end Go.Proofs.YtnecgoahdkfbeaaDoor.Tid
end

section
namespace Go.Proofs.YtnecgoahdkfbeaaDoor.Eng
open Go Go.RowKit Go.Proofs.YtnecgoahdkfbeaaDoor.Cop
set_option linter.unusedVariables false
set_option linter.unusedSimpArgs false
section
variable {P : Program} {w : World} {d : Nat} {xs ys : Array Value} {f : Field} {fs : List Field} {r s : Bool} {ρ : Operand → Value} {o : Oper}
/-- A field that is a number. -/
theorem eqf_int {k : IntKind} {a b : Int} (hn : (f.name == "_") = false) (hu : P.underlying f.type = some (.int k)) (ha : (part f.type xs f.offset).run P w = .ok (.int k a) w) (hb : (part f.type ys f.offset).run P w = .ok (.int k b) w) (hr : (Op.eqFields (d + 1) xs ys fs).run P w = .ok s w) : (Op.eqFields (d + 1) xs ys (f :: fs)).run P w = .ok ((a == b) && s) w := by
  have hn' : f.name ≠ "_" := by simpa using hn
  have he : (Op.equalIn (d + 1) f.type (.int k a) (.int k b)).run P w = .ok (a == b) w := by
    unfold Op.equalIn; simp [run_underlying hu, Result.andThen]
  rw [Op.eqFields]
  simp only [if_pos hn', Sem.run_bind, ha, hb, he, Result.andThen_ok]
  cases h : (a == b)
  · simp
  · simpa using hr
theorem part_one {T : TypeId} {off : Nat} {v : Value} (hag : ∀ w, (isAgg T).run P w = .ok false w) (hx : xs[off]? = some v) : (part T xs off).run P w = .ok v w := by
  unfold part
  simp [Sem.run_bind, hag, hx, Result.andThen]
theorem eqf_nil : (Op.eqFields d xs ys []).run P w = .ok true w := by simp [Op.eqFields]
theorem eqA_of {t : TypeId} {fs : Array Field} (hu : P.underlying t = some (.struct fs)) (hp : P.stoodInHeld t = false) (h : (Op.eqFields d xs ys fs.toList).run P w = .ok r w) : (Op.equalIn (d + 1) t (.agg xs) (.agg ys)).run P w = .ok r w := by
  have hf : P.fieldsOf t = fs := by simp [Program.fieldsOf, hu]
  rw [run_equalIn_struct (P := P) w d t xs ys (by rw [hf]; exact hu) hp, hf]
  exact h
theorem x_eqF {t t2 : TypeId} {x y : Operand} (ho : o.op = .binOp .eql t x y t2) {fs : Array Field} (hu : P.underlying t = some (.struct fs)) (hp : P.stoodInHeld t = false) (hg : P.eqGuardType P.depth t = false) (hx : ρ x = .agg xs) (hy : ρ y = .agg ys) {r' : Bool} (h : (Op.eqFields 9999 xs ys fs.toList).run P w = .ok r w) (hr : r = r') : (execOp ρ o).run P w = .ok (.value (.bool r')) w := by
  subst hr
  have h1 : (Op.equal t (.agg xs) (.agg ys)).run P w = .ok r w := eqA_of hu hp h
  have hgd : (eqGuard .eql t x y (.agg xs) (.agg ys)).run P w = .ok () w := by simp [eqGuard, hg]
  unfold execOp; rw [ho]
  simp only [hx, hy]
  simp [Sem.run_bind, hgd, Result.andThen]
  simp [binOp, h1, Result.andThen]
/-- The lesser of two numbers. -/
theorem x_min {x y : Operand} {ats : Array TypeId} (ho : o.op = .call { callee := .builtin .min, args := #[x, y], argTypes := ats }) {k : IntKind} {a b : Int} (hx : ρ x = .int k a) (hy : ρ y = .int k b) {r : Int} (hr : (if b < a then b else a) = r) : (execOp ρ o).run P w = .ok (.value (.int k r)) w := by
  subst hr
  unfold execOp
  simp only [ho, resolve, invoke, builtin, Sem.run_bind, Sem.run_pure, Result.andThen_ok, List.map_toArray, List.map_cons, List.map_nil, hx, hy]
  simp [Builtin.min_, Builtin.min2]
end
end Go.Proofs.YtnecgoahdkfbeaaDoor.Eng
end

section
namespace Go.Proofs.YtnecgoahdkfbeaaDoor.Tid
open Go Go.RowKit Go.Proofs.YtnecgoahdkfbeaaDoor Go.Proofs.YtnecgoahdkfbeaaDoor.Cop Go.Proofs.YtnecgoahdkfbeaaDoor.Ver Go.Proofs.YtnecgoahdkfbeaaDoor.Tre Go.Proofs.YtnecgoahdkfbeaaDoor.TreP Go.Proofs.YtnecgoahdkfbeaaDoor.Vfy Go.Proofs.YtnecgoahdkfbeaaDoor.Oct Go.Proofs.YtnecgoahdkfbeaaDoor.Dsl Go.Proofs.YtnecgoahdkfbeaaDoor.Sha
set_option linter.unusedVariables false
set_option linter.unusedSimpArgs false
theorem ag52_su (w : World) : (isAgg 52).run Tryd.prog w = .ok true w := by kernel_rfl
theorem sz52_su : (Tryd.prog.info? 52).map (fun i => i.size) = some 2 := by kernel_rfl
theorem ag3_su (w : World) : (isAgg 3).run Tryd.prog w = .ok false w := by kernel_rfl
theorem zr45_su (w : World) : (zeroValue 45).run Tryd.prog w = .ok (dg Oct.dz) w := by kernel_rfl
theorem sz45_su : (Tryd.prog.info? 45).map (fun i => i.size) = some 32 := by kernel_rfl
theorem ag45_su (w : World) : (isAgg 45).run Tryd.prog w = .ok true w := by kernel_rfl
theorem en60_su : Eng.Entr Tryd.prog 60 := ⟨_, Tryd.func60, by kernel_rfl, by kernel_rfl⟩
theorem en58_su : Eng.Entr Tryd.prog 58 := ⟨_, Tryd.func58, by kernel_rfl, by kernel_rfl⟩
def whB (a b : Int) (n : Nat) : Bool := (a == 0) && ((b == (n : Int)) && true)
/-- What tree.Sub tells of the digests from a on, ahead of b. -/
def subS (ds : List (List UInt8)) (a b : Int) : List UInt8 × Int := if a < 0 ∨ b ≤ a ∨ (ds.length : Int) < b then (dz, 40) else (rootS ((ds.drop a.toNat).take (b.toNat - a.toNat)), 0)
set_option maxRecDepth 100000 in
set_option maxHeartbeats 4000000 in
theorem whole_calls (v : Value) (ds : List (List UInt8)) (a b : Int) (w : World) (h : Ds w v ds) : Calls Tryd.prog 60 #[v, (.agg #[(.int .i64 a), (.int .i64 b)])] w (fun e w' => e = .returned (.bool (whB a b ds.length)) ∧ Below w.heap.size w w') := by
  have hsm := h.1.small
  refine Eng.enter (l := [v, (.agg #[(.int .i64 a), (.int .i64 b)])]) Tryd.func60 rfl 10 rfl (by simp) ?_
  refine Eng.seqk fun K1 hK1 => ?_
  refine Eng.reg ?_
  refine Eng.bo (v := (.agg #[(.int .i64 a), (.int .i64 b)])) (cs := [(.int .i64 a), (.int .i64 b)]) rfl rfl rfl rfl rfl ?_
  intro w2 hk2 hb2 hz2
  refine Eng.sv rfl rfl (Eng.x_as (v := (.bool false)) rfl rfl) ?_
  refine Eng.nil ?_
  refine hK1 _ _ ?_
  refine Eng.seqk fun K3 hK3 => ?_
  refine Eng.reg ?_
  refine Eng.sv rfl rfl (Eng.x_ldB (v := (.agg #[(.int .i64 a), (.int .i64 b)])) rfl ag52_su sz52_su rfl hk2 rfl rfl) ?_
  refine Eng.sv rfl rfl (Eng.x_mv (v := v) rfl rfl) ?_
  have hr4 := (h).below hb2
  refine Eng.sv rfl rfl (Eng.x_len (v := v) (r := (ds.length : Int)) rfl Tryd.underlying36 rfl (hr4).1 rfl) ?_
  refine Eng.sv rfl rfl (Eng.x_build (ps := [(0, (.int .i64 0)), (1, (.int .i64 (ds.length : Int)))]) (v := (.agg #[(.int .i64 0), (.int .i64 (ds.length : Int))])) rfl rfl (by kernel_rfl)) ?_
  refine Eng.sv rfl rfl (Eng.x_eqF (r' := whB a b ds.length) rfl Tryd.underlying52 (by kernel_rfl) (by kernel_rfl) rfl rfl (r := ((a : Int) == 0) && (((b : Int) == (ds.length : Int)) && true)) (Eng.eqf_int rfl Tryd.underlying3 (Eng.part_one ag3_su rfl) (Eng.part_one ag3_su rfl) (Eng.eqf_int rfl Tryd.underlying3 (Eng.part_one ag3_su rfl) (Eng.part_one ag3_su rfl) Eng.eqf_nil)) (rfl)) ?_
  refine Eng.sv rfl rfl (Eng.x_as (v := (.bool (whB a b ds.length))) rfl rfl) ?_
  refine Eng.nil ?_
  refine hK3 _ _ ?_
  refine Eng.rt ?_
  refine Eng.ret (Eng.res1 (v1 := (.bool (whB a b ds.length))) rfl (Eng.rdt rfl)) ?_
  exact ⟨rfl, hb2⟩
theorem subS_whole {ds : List (List UInt8)} {a b : Int} (h0 : ¬ a < 0) (h1 : ¬ b ≤ a) (h2 : ¬ (ds.length : Int) < b) (h : whB a b ds.length = true) : subS ds a b = (rootS ds, 0) := by
  unfold whB at h
  simp at h
  obtain ⟨rfl, rfl⟩ := h
  unfold subS
  rw [if_neg (by omega)]
  simp
set_option maxRecDepth 100000 in
set_option maxHeartbeats 4000000 in
theorem sub_calls (v : Value) (ds : List (List UInt8)) (a b : Int) (w : World) (h : Ds w v ds) (hm : ds.length ≤ 281474976710656) (hKn : Kon w) : Calls Tryd.prog 22 #[v, (.agg #[(.int .i64 a), (.int .i64 b)])] w (fun e w' => e = .returned (.tuple #[dg (subS ds a b).1, .int .i64 (subS ds a b).2]) ∧ Below w.heap.size w w') := by
  have hsm := h.1.small
  refine Eng.enter (l := [v, (.agg #[(.int .i64 a), (.int .i64 b)])]) Tryd.func22 rfl 36 rfl (by simp) ?_
  refine Eng.seqk fun K1 hK1 => ?_
  refine Eng.reg ?_
  refine Eng.bo (v := (.agg #[(.int .i64 a), (.int .i64 b)])) (cs := [(.int .i64 a), (.int .i64 b)]) rfl rfl rfl rfl rfl ?_
  intro w2 hk2 hb2 hz2
  refine Eng.al rfl rfl rfl zr45_su (cs := (bcs Oct.dz)) rfl ?_
  intro w3 hk3 hb3 hz3
  refine Eng.sv rfl rfl (Eng.x_as (v := (.int .i64 0)) rfl rfl) ?_
  refine Eng.nil ?_
  refine hK1 _ _ ?_
  refine Eng.seqk fun K4 hK4 => ?_
  refine Eng.seqk fun K5 hK5 => ?_
  by_cases q0 : a < 0
  · skip
    refine Eng.reg ?_
    refine Eng.sv rfl rfl (Eng.x_fa (v := (.pointer (some ⟨w.heap.size, 0, none⟩))) rfl rfl (by kernel_rfl)) ?_
    have hk6 := (hk2).below hb3
    refine Eng.sv rfl rfl (Eng.x_ld1 (v := (.int .i64 a)) rfl ag3_su rfl ((hk6).cell 0)) ?_
    refine Eng.sv rfl rfl (Eng.x_lt (r := true) rfl rfl rfl (decide_eq_true (by omega))) ?_
    refine Eng.sv rfl rfl (Eng.x_mv (v := (.bool true)) rfl rfl) ?_
    refine Eng.sg (Eng.gf rfl rfl rfl rfl) rfl ?_
    refine Eng.sg (Eng.gf rfl rfl rfl rfl) rfl ?_
    refine Eng.sg (Eng.gf rfl rfl rfl rfl) rfl ?_
    refine Eng.sg (Eng.gf rfl rfl rfl rfl) rfl ?_
    refine Eng.sg (Eng.gf rfl rfl rfl rfl) rfl ?_
    refine Eng.sv rfl rfl (Eng.x_pick (v := (.bool true)) rfl rfl rfl rfl rfl) ?_
    refine Eng.sv rfl rfl (Eng.x_mv (v := (.bool true)) rfl rfl) ?_
    refine Eng.sg (Eng.gf rfl rfl rfl rfl) rfl ?_
    refine Eng.sg (Eng.gf rfl rfl rfl rfl) rfl ?_
    refine Eng.sg (Eng.gf rfl rfl rfl rfl) rfl ?_
    refine Eng.sg (Eng.gf rfl rfl rfl rfl) rfl ?_
    refine Eng.sg (Eng.gf rfl rfl rfl rfl) rfl ?_
    refine Eng.sv rfl rfl (Eng.x_pick (v := (.bool true)) rfl rfl rfl rfl rfl) ?_
    refine Eng.nil ?_
    refine hK5 _ _ ?_
    refine Eng.cond_t rfl ?_
    refine Eng.seqk fun K7 hK7 => ?_
    refine Eng.reg ?_
    refine Eng.sv rfl rfl (Eng.x_build (ps := []) (v := (dg Oct.dz)) rfl rfl (by kernel_rfl)) ?_
    refine Eng.stB (v := (dg Oct.dz)) rfl rfl rfl sz45_su rfl hk3 rfl rfl (cs' := (bcs Oct.dz)) rfl rfl (bcs_one _) ?_
    intro w8 hk8 hg8
    refine Eng.sv rfl rfl (Eng.x_as (v := (.int .i64 40)) rfl rfl) ?_
    refine Eng.nil ?_
    refine hK7 _ _ ?_
    refine Eng.rt ?_
    refine Eng.tr ?_
    refine Eng.ret (Eng.res2 (v1 := (dg Oct.dz)) (v2 := (.int .i64 40)) rfl (Eng.rdc rfl (Eng.lvB ag45_su sz45_su hk8 rfl rfl)) (Eng.rdt rfl)) ?_
    have hB0_2 : Below w.heap.size w w3 := (hb2).trans (hb3.mono (hb2).size)
    have hB0_3 : Below w.heap.size w w8 := (hB0_2).grown hg8 (hB0_2).size (fun k e => by cases e; exact Nat.le_trans (hb2).size (Nat.le_refl _))
    exact ⟨by unfold subS; rw [if_pos (by omega)], hB0_3⟩
  · skip
    by_cases q1 : b ≤ a
    · skip
      refine Eng.reg ?_
      refine Eng.sv rfl rfl (Eng.x_fa (v := (.pointer (some ⟨w.heap.size, 0, none⟩))) rfl rfl (by kernel_rfl)) ?_
      have hk9 := (hk2).below hb3
      refine Eng.sv rfl rfl (Eng.x_ld1 (v := (.int .i64 a)) rfl ag3_su rfl ((hk9).cell 0)) ?_
      refine Eng.sv rfl rfl (Eng.x_lt (r := false) rfl rfl rfl (decide_eq_false (by omega))) ?_
      refine Eng.sv rfl rfl (Eng.x_mv (v := (.bool false)) rfl rfl) ?_
      refine Eng.sv (Eng.gt rfl rfl rfl rfl) rfl (Eng.x_fa (v := (.pointer (some ⟨w.heap.size, 0, none⟩))) rfl rfl (by kernel_rfl)) ?_
      refine Eng.sv (Eng.gt rfl rfl rfl rfl) rfl (Eng.x_ld1 (v := (.int .i64 a)) rfl ag3_su rfl ((hk9).cell 0)) ?_
      refine Eng.sv (Eng.gt rfl rfl rfl rfl) rfl (Eng.x_fa (v := (.pointer (some ⟨w.heap.size, 1, none⟩))) rfl rfl (by kernel_rfl)) ?_
      refine Eng.sv (Eng.gt rfl rfl rfl rfl) rfl (Eng.x_ld1 (v := (.int .i64 b)) rfl ag3_su rfl ((hk9).cell 1)) ?_
      refine Eng.sv (Eng.gt rfl rfl rfl rfl) rfl (Eng.x_ge (r := true) rfl rfl rfl (decide_eq_true (by omega))) ?_
      refine Eng.sv rfl rfl (Eng.x_pick (v := (.bool true)) rfl rfl rfl rfl rfl) ?_
      refine Eng.sv rfl rfl (Eng.x_mv (v := (.bool true)) rfl rfl) ?_
      refine Eng.sg (Eng.gf rfl rfl rfl rfl) rfl ?_
      refine Eng.sg (Eng.gf rfl rfl rfl rfl) rfl ?_
      refine Eng.sg (Eng.gf rfl rfl rfl rfl) rfl ?_
      refine Eng.sg (Eng.gf rfl rfl rfl rfl) rfl ?_
      refine Eng.sg (Eng.gf rfl rfl rfl rfl) rfl ?_
      refine Eng.sv rfl rfl (Eng.x_pick (v := (.bool true)) rfl rfl rfl rfl rfl) ?_
      refine Eng.nil ?_
      refine hK5 _ _ ?_
      refine Eng.cond_t rfl ?_
      refine Eng.seqk fun K10 hK10 => ?_
      refine Eng.reg ?_
      refine Eng.sv rfl rfl (Eng.x_build (ps := []) (v := (dg Oct.dz)) rfl rfl (by kernel_rfl)) ?_
      refine Eng.stB (v := (dg Oct.dz)) rfl rfl rfl sz45_su rfl hk3 rfl rfl (cs' := (bcs Oct.dz)) rfl rfl (bcs_one _) ?_
      intro w11 hk11 hg11
      refine Eng.sv rfl rfl (Eng.x_as (v := (.int .i64 40)) rfl rfl) ?_
      refine Eng.nil ?_
      refine hK10 _ _ ?_
      refine Eng.rt ?_
      refine Eng.tr ?_
      refine Eng.ret (Eng.res2 (v1 := (dg Oct.dz)) (v2 := (.int .i64 40)) rfl (Eng.rdc rfl (Eng.lvB ag45_su sz45_su hk11 rfl rfl)) (Eng.rdt rfl)) ?_
      have hB0_2 : Below w.heap.size w w3 := (hb2).trans (hb3.mono (hb2).size)
      have hB0_3 : Below w.heap.size w w11 := (hB0_2).grown hg11 (hB0_2).size (fun k e => by cases e; exact Nat.le_trans (hb2).size (Nat.le_refl _))
      exact ⟨by unfold subS; rw [if_pos (by omega)], hB0_3⟩
    · skip
      by_cases q2 : (ds.length : Int) < b
      · skip
        refine Eng.reg ?_
        refine Eng.sv rfl rfl (Eng.x_fa (v := (.pointer (some ⟨w.heap.size, 0, none⟩))) rfl rfl (by kernel_rfl)) ?_
        have hk12 := (hk2).below hb3
        refine Eng.sv rfl rfl (Eng.x_ld1 (v := (.int .i64 a)) rfl ag3_su rfl ((hk12).cell 0)) ?_
        refine Eng.sv rfl rfl (Eng.x_lt (r := false) rfl rfl rfl (decide_eq_false (by omega))) ?_
        refine Eng.sv rfl rfl (Eng.x_mv (v := (.bool false)) rfl rfl) ?_
        refine Eng.sv (Eng.gt rfl rfl rfl rfl) rfl (Eng.x_fa (v := (.pointer (some ⟨w.heap.size, 0, none⟩))) rfl rfl (by kernel_rfl)) ?_
        refine Eng.sv (Eng.gt rfl rfl rfl rfl) rfl (Eng.x_ld1 (v := (.int .i64 a)) rfl ag3_su rfl ((hk12).cell 0)) ?_
        refine Eng.sv (Eng.gt rfl rfl rfl rfl) rfl (Eng.x_fa (v := (.pointer (some ⟨w.heap.size, 1, none⟩))) rfl rfl (by kernel_rfl)) ?_
        refine Eng.sv (Eng.gt rfl rfl rfl rfl) rfl (Eng.x_ld1 (v := (.int .i64 b)) rfl ag3_su rfl ((hk12).cell 1)) ?_
        refine Eng.sv (Eng.gt rfl rfl rfl rfl) rfl (Eng.x_ge (r := false) rfl rfl rfl (decide_eq_false (by omega))) ?_
        refine Eng.sv rfl rfl (Eng.x_pick (v := (.bool false)) rfl rfl rfl rfl rfl) ?_
        refine Eng.sv rfl rfl (Eng.x_mv (v := (.bool false)) rfl rfl) ?_
        refine Eng.sv (Eng.gt rfl rfl rfl rfl) rfl (Eng.x_fa (v := (.pointer (some ⟨w.heap.size, 1, none⟩))) rfl rfl (by kernel_rfl)) ?_
        refine Eng.sv (Eng.gt rfl rfl rfl rfl) rfl (Eng.x_ld1 (v := (.int .i64 b)) rfl ag3_su rfl ((hk12).cell 1)) ?_
        refine Eng.sv (Eng.gt rfl rfl rfl rfl) rfl (Eng.x_mv (v := v) rfl rfl) ?_
        have hB0_2 : Below w.heap.size w w3 := (hb2).trans (hb3.mono (hb2).size)
        have hr13 := (h).below hB0_2
        refine Eng.sv (Eng.gt rfl rfl rfl rfl) rfl (Eng.x_len (v := v) (r := (ds.length : Int)) rfl Tryd.underlying36 rfl (hr13).1 rfl) ?_
        refine Eng.sv (Eng.gt rfl rfl rfl rfl) rfl (Eng.x_gt (r := true) rfl rfl rfl (decide_eq_true (by omega))) ?_
        refine Eng.sv rfl rfl (Eng.x_pick (v := (.bool true)) rfl rfl rfl rfl rfl) ?_
        refine Eng.nil ?_
        refine hK5 _ _ ?_
        refine Eng.cond_t rfl ?_
        refine Eng.seqk fun K14 hK14 => ?_
        refine Eng.reg ?_
        refine Eng.sv rfl rfl (Eng.x_build (ps := []) (v := (dg Oct.dz)) rfl rfl (by kernel_rfl)) ?_
        refine Eng.stB (v := (dg Oct.dz)) rfl rfl rfl sz45_su rfl hk3 rfl rfl (cs' := (bcs Oct.dz)) rfl rfl (bcs_one _) ?_
        intro w15 hk15 hg15
        refine Eng.sv rfl rfl (Eng.x_as (v := (.int .i64 40)) rfl rfl) ?_
        refine Eng.nil ?_
        refine hK14 _ _ ?_
        refine Eng.rt ?_
        refine Eng.tr ?_
        refine Eng.ret (Eng.res2 (v1 := (dg Oct.dz)) (v2 := (.int .i64 40)) rfl (Eng.rdc rfl (Eng.lvB ag45_su sz45_su hk15 rfl rfl)) (Eng.rdt rfl)) ?_
        have hB0_3 : Below w.heap.size w w15 := (hB0_2).grown hg15 (hB0_2).size (fun k e => by cases e; exact Nat.le_trans (hb2).size (Nat.le_refl _))
        exact ⟨by unfold subS; rw [if_pos (by omega)], hB0_3⟩
      · skip
        refine Eng.reg ?_
        refine Eng.sv rfl rfl (Eng.x_fa (v := (.pointer (some ⟨w.heap.size, 0, none⟩))) rfl rfl (by kernel_rfl)) ?_
        have hk16 := (hk2).below hb3
        refine Eng.sv rfl rfl (Eng.x_ld1 (v := (.int .i64 a)) rfl ag3_su rfl ((hk16).cell 0)) ?_
        refine Eng.sv rfl rfl (Eng.x_lt (r := false) rfl rfl rfl (decide_eq_false (by omega))) ?_
        refine Eng.sv rfl rfl (Eng.x_mv (v := (.bool false)) rfl rfl) ?_
        refine Eng.sv (Eng.gt rfl rfl rfl rfl) rfl (Eng.x_fa (v := (.pointer (some ⟨w.heap.size, 0, none⟩))) rfl rfl (by kernel_rfl)) ?_
        refine Eng.sv (Eng.gt rfl rfl rfl rfl) rfl (Eng.x_ld1 (v := (.int .i64 a)) rfl ag3_su rfl ((hk16).cell 0)) ?_
        refine Eng.sv (Eng.gt rfl rfl rfl rfl) rfl (Eng.x_fa (v := (.pointer (some ⟨w.heap.size, 1, none⟩))) rfl rfl (by kernel_rfl)) ?_
        refine Eng.sv (Eng.gt rfl rfl rfl rfl) rfl (Eng.x_ld1 (v := (.int .i64 b)) rfl ag3_su rfl ((hk16).cell 1)) ?_
        refine Eng.sv (Eng.gt rfl rfl rfl rfl) rfl (Eng.x_ge (r := false) rfl rfl rfl (decide_eq_false (by omega))) ?_
        refine Eng.sv rfl rfl (Eng.x_pick (v := (.bool false)) rfl rfl rfl rfl rfl) ?_
        refine Eng.sv rfl rfl (Eng.x_mv (v := (.bool false)) rfl rfl) ?_
        refine Eng.sv (Eng.gt rfl rfl rfl rfl) rfl (Eng.x_fa (v := (.pointer (some ⟨w.heap.size, 1, none⟩))) rfl rfl (by kernel_rfl)) ?_
        refine Eng.sv (Eng.gt rfl rfl rfl rfl) rfl (Eng.x_ld1 (v := (.int .i64 b)) rfl ag3_su rfl ((hk16).cell 1)) ?_
        refine Eng.sv (Eng.gt rfl rfl rfl rfl) rfl (Eng.x_mv (v := v) rfl rfl) ?_
        have hB0_2 : Below w.heap.size w w3 := (hb2).trans (hb3.mono (hb2).size)
        have hr17 := (h).below hB0_2
        refine Eng.sv (Eng.gt rfl rfl rfl rfl) rfl (Eng.x_len (v := v) (r := (ds.length : Int)) rfl Tryd.underlying36 rfl (hr17).1 rfl) ?_
        refine Eng.sv (Eng.gt rfl rfl rfl rfl) rfl (Eng.x_gt (r := false) rfl rfl rfl (decide_eq_false (by omega))) ?_
        refine Eng.sv rfl rfl (Eng.x_pick (v := (.bool false)) rfl rfl rfl rfl rfl) ?_
        refine Eng.nil ?_
        refine hK5 _ _ ?_
        refine Eng.cond_f rfl ?_
        refine Eng.skp ?_
        refine hK4 _ _ ?_
        refine Eng.seqk fun K18 hK18 => ?_
        refine Eng.seqk fun K19 hK19 => ?_
        refine Eng.reg ?_
        refine Eng.sv rfl rfl (Eng.x_mv (v := v) rfl rfl) ?_
        refine Eng.sv rfl rfl (Eng.x_ldB (v := (.agg #[(.int .i64 a), (.int .i64 b)])) rfl ag52_su sz52_su rfl hk16 rfl rfl) ?_
        refine Eng.sc rfl (Eng.xc (vl := [v, (.agg #[(.int .i64 a), (.int .i64 b)])]) rfl rfl rfl en60_su) (whole_calls _ ds a b _ hr17) ?_
        rintro _ w20 ⟨rfl, hb20⟩
        refine Eng.aft_v rfl ?_
        refine Eng.nil ?_
        refine hK19 _ _ ?_
        refine Eng.cond_b rfl (fun hc21 => ?_) (fun hc21 => ?_)
        · skip
          refine Eng.seqk fun K22 hK22 => ?_
          refine Eng.reg ?_
          refine Eng.sv rfl rfl (Eng.x_mv (v := v) rfl rfl) ?_
          have hB0_3 : Below w.heap.size w w20 := (hB0_2).trans (hb20.mono (hB0_2).size)
          have hr23 := (h).below hB0_3
          have hr24 := (hKn).below hB0_3
          refine Eng.sc rfl (Eng.xc (vl := [v]) rfl rfl rfl en58_su) (troot_calls _ (ds) _ hr23 (by first | omega | (simp only [List.length_take, List.length_drop]; omega)) hr24) ?_
          rintro _ w25 ⟨rfl, hb25⟩
          refine Eng.aft_v rfl ?_
          have hk26 := ((hk3).below hb20).below hb25
          refine Eng.stB (v := (dg (rootS (ds)))) rfl rfl rfl sz45_su rfl hk26 rfl rfl (cs' := (bcs (rootS (ds)))) rfl ((bcs_length _).trans (rootS_len _ hr23.2 (by first | omega | (simp only [List.length_take, List.length_drop]; omega)))) (bcs_one _) ?_
          intro w27 hk27 hg27
          refine Eng.sv rfl rfl (Eng.x_as (v := (.int .i64 0)) rfl rfl) ?_
          refine Eng.nil ?_
          refine hK22 _ _ ?_
          refine Eng.rt ?_
          refine Eng.tr ?_
          refine Eng.ret (Eng.res2 (v1 := (dg (rootS (ds)))) (v2 := (.int .i64 0)) rfl (Eng.rdc rfl (Eng.lvB ag45_su sz45_su hk27 ((bcs_length _).trans (rootS_len _ hr23.2 (by first | omega | (simp only [List.length_take, List.length_drop]; omega)))) rfl)) (Eng.rdt rfl)) ?_
          have hB0_4 : Below w.heap.size w w25 := (hB0_3).trans (hb25.mono (hB0_3).size)
          have hB0_5 : Below w.heap.size w w27 := (hB0_4).grown hg27 (hB0_4).size (fun k e => by cases e; exact Nat.le_trans (hb2).size (Nat.le_refl _))
          exact ⟨by rw [subS_whole (by omega) (by omega) (by omega) hc21], hB0_5⟩
        · skip
          refine Eng.skp ?_
          refine hK18 _ _ ?_
          refine Eng.seqk fun K28 hK28 => ?_
          refine Eng.reg ?_
          refine Eng.sv rfl rfl (Eng.x_mv (v := v) rfl rfl) ?_
          refine Eng.sv rfl rfl (Eng.x_fa (v := (.pointer (some ⟨w.heap.size, 0, none⟩))) rfl rfl (by kernel_rfl)) ?_
          have hk29 := (hk16).below hb20
          refine Eng.sv rfl rfl (Eng.x_ld1 (v := (.int .i64 a)) rfl ag3_su rfl ((hk29).cell 0)) ?_
          refine Eng.sv rfl rfl (Eng.x_fa (v := (.pointer (some ⟨w.heap.size, 1, none⟩))) rfl rfl (by kernel_rfl)) ?_
          refine Eng.sv rfl rfl (Eng.x_ld1 (v := (.int .i64 b)) rfl ag3_su rfl ((hk29).cell 1)) ?_
          have hB0_3 : Below w.heap.size w w20 := (hB0_2).trans (hb20.mono (hB0_2).size)
          have hr30 := (h).below hB0_3
          have hq31 : Dsl.Ds w (Eng.sCut v a.toNat b.toNat 32) (((ds).drop a.toNat).take (b.toNat - a.toNat)) := (Eng.ds_cut h (by omega) (by omega))
          refine Eng.sv rfl rfl (Eng.x_sl (v := v) rfl Tryd.underlying36 sz45_su rfl (hr30).1 a.toNat b.toNat (Eng.bd (k := .i64) (by rw [Int.toNat_of_nonneg (show 0 ≤ a by omega)]; rfl)) (Eng.bd (k := .i64) (by rw [Int.toNat_of_nonneg (show 0 ≤ b by omega)]; rfl)) (by omega) (by omega)) ?_
          have hr32 := (hq31).below hB0_3
          have hr33 := (hKn).below hB0_3
          refine Eng.sc rfl (Eng.xc (vl := [(Eng.sCut v a.toNat b.toNat 32)]) rfl rfl rfl en58_su) (troot_calls _ (((ds).drop a.toNat).take (b.toNat - a.toNat)) _ hr32 (by first | omega | (simp only [List.length_take, List.length_drop]; omega)) hr33) ?_
          rintro _ w34 ⟨rfl, hb34⟩
          refine Eng.aft_v rfl ?_
          have hk35 := ((hk3).below hb20).below hb34
          refine Eng.stB (v := (dg (rootS (((ds).drop a.toNat).take (b.toNat - a.toNat))))) rfl rfl rfl sz45_su rfl hk35 rfl rfl (cs' := (bcs (rootS (((ds).drop a.toNat).take (b.toNat - a.toNat))))) rfl ((bcs_length _).trans (rootS_len _ hr32.2 (by first | omega | (simp only [List.length_take, List.length_drop]; omega)))) (bcs_one _) ?_
          intro w36 hk36 hg36
          refine Eng.sv rfl rfl (Eng.x_as (v := (.int .i64 0)) rfl rfl) ?_
          refine Eng.nil ?_
          refine hK28 _ _ ?_
          refine Eng.rt ?_
          refine Eng.ret (Eng.res2 (v1 := (dg (rootS (((ds).drop a.toNat).take (b.toNat - a.toNat))))) (v2 := (.int .i64 0)) rfl (Eng.rdc rfl (Eng.lvB ag45_su sz45_su hk36 ((bcs_length _).trans (rootS_len _ hr32.2 (by first | omega | (simp only [List.length_take, List.length_drop]; omega)))) rfl)) (Eng.rdt rfl)) ?_
          have hB0_4 : Below w.heap.size w w34 := (hB0_3).trans (hb34.mono (hB0_3).size)
          have hB0_5 : Below w.heap.size w w36 := (hB0_4).grown hg36 (hB0_4).size (fun k e => by cases e; exact Nat.le_trans (hb2).size (Nat.le_refl _))
          exact ⟨by unfold subS; rw [if_neg (by omega)], hB0_5⟩
end Go.Proofs.YtnecgoahdkfbeaaDoor.Tid
end

section
namespace Go.Proofs.YtnecgoahdkfbeaaDoor.Tid
open Go Go.RowKit Go.Proofs.YtnecgoahdkfbeaaDoor Go.Proofs.YtnecgoahdkfbeaaDoor.Cop Go.Proofs.YtnecgoahdkfbeaaDoor.Ver Go.Proofs.YtnecgoahdkfbeaaDoor.Tre Go.Proofs.YtnecgoahdkfbeaaDoor.TreP Go.Proofs.YtnecgoahdkfbeaaDoor.Vfy Go.Proofs.YtnecgoahdkfbeaaDoor.Oct Go.Proofs.YtnecgoahdkfbeaaDoor.Dsl Go.Proofs.YtnecgoahdkfbeaaDoor.Sha
set_option linter.unusedVariables false
set_option linter.unusedSimpArgs false
theorem ag3_tb (w : World) : (isAgg 3).run Tryd.prog w = .ok false w := by kernel_rfl
theorem en22_tb : Eng.Entr Tryd.prog 22 := ⟨_, Tryd.func22, by kernel_rfl, by kernel_rfl⟩
theorem zr45_tb (w : World) : (zeroValue 45).run Tryd.prog w = .ok (dg Oct.dz) w := by kernel_rfl
theorem sz45_tb : (Tryd.prog.info? 45).map (fun i => i.size) = some 32 := by kernel_rfl
theorem sz5_tb : (Tryd.prog.info? 5).map (fun i => i.size) = some 1 := by kernel_rfl
/-- The root of the j-th part of c digests. -/
def chk (ds : List (List UInt8)) (c j : Nat) : List UInt8 := rootS ((ds.drop (j * c)).take c)
def tbs (ds : List (List UInt8)) (c m n : Nat) : List UInt8 := ((List.range n).map fun j => chk ds c (m + j)).flatten
theorem tbs_succ (ds : List (List UInt8)) (c m n : Nat) : tbs ds c m (n + 1) = tbs ds c m n ++ chk ds c (m + n) := by simp [tbs, List.range_succ]
theorem chk_len {ds : List (List UInt8)} (h : All32 ds) (hl : ds.length ≤ 281474976710656) (c j : Nat) : (chk ds c j).length = 32 := rootS_len _ (fun d hd => h d (List.mem_of_mem_drop (List.mem_of_mem_take hd))) (by rw [List.length_take, List.length_drop]; omega)
theorem tbs_len {ds : List (List UInt8)} (h : All32 ds) (hl : ds.length ≤ 281474976710656) (c m n : Nat) : (tbs ds c m n).length = n * 32 := by
  induction n with
  | zero => rfl
  | succ n ih => rw [tbs_succ, List.length_append, ih, chk_len h hl]; omega
theorem sub_chk {ds : List (List UInt8)} {c j : Nat} (hc : 1 ≤ c) (h : (j + 1) * c ≤ ds.length) : subS ds ((j * c : Nat) : Int) ((j * c + c : Nat) : Int) = (chk ds c j, 0) := by
  rw [Nat.succ_mul] at h
  unfold subS chk
  rw [if_neg (by omega), Int.toNat_natCast, Int.toNat_natCast, Nat.add_sub_cancel_left]
theorem subI {v : Value} {ds : List (List UInt8)} {c j : Nat} (hc : 1 ≤ c) (hj : (j + 1) * c ≤ ds.length) {w : World} (h : Ds w v ds) (hm : ds.length ≤ 281474976710656) (hKn : Kon w) : Calls Tryd.prog 22 #[v, .agg #[.int .i64 ((j * c : Nat) : Int), .int .i64 ((j * c + c : Nat) : Int)]] w fun e w' => e = .returned (.tuple #[dg (chk ds c j), .int .i64 0]) ∧ Below w.heap.size w w' := by
  have := sub_calls v ds ((j * c : Nat) : Int) ((j * c + c : Nat) : Int) w h hm hKn
  rwa [sub_chk hc hj] at this
set_option maxRecDepth 100000 in
set_option maxHeartbeats 4000000 in
theorem bytes_calls (v : Value) (ds : List (List UInt8)) (n a b x : Nat) (w : World) (h : Ds w v ds) (hm : ds.length ≤ 281474976710656) (h8 : n ≤ 8) (han : a * n ≤ 48) (hx : x ≤ 256) (hb : (b * 2 ^ n + x) * 2 ^ (a * n) ≤ ds.length) (hbm : b * 2 ^ n ≤ 281474976710656) (hKn : Kon w) : Calls Tryd.prog 21 #[v, (.agg #[(.int .i64 (n : Int)), (.int .i64 (a : Int)), (.int .i64 (b : Int)), (.int .i64 (x : Int))])] w (fun e w' => ∃ v', e = .returned v' ∧ Oct.Own w.heap.size w' v' (tbs ds (2 ^ (a * n)) (b * 2 ^ n) x) ∧ Below w.heap.size w w') := by
  have hsm := h.1.small
  obtain ⟨c, hc⟩ : ∃ c, c = 2 ^ (a * n) := ⟨_, rfl⟩
  obtain ⟨m, hmm⟩ : ∃ m, m = b * 2 ^ n := ⟨_, rfl⟩
  have hc1 : 1 ≤ c := hc ▸ Nat.one_le_two_pow
  have hc48 : c ≤ 281474976710656 := by rw [hc]; exact Nat.pow_le_pow_right (n := 2) (by omega) han
  rw [← hc, ← hmm] at hb ⊢
  rw [← hmm] at hbm
  refine Eng.enter (l := [v, (.agg #[(.int .i64 (n : Int)), (.int .i64 (a : Int)), (.int .i64 (b : Int)), (.int .i64 (x : Int))])]) Tryd.func21 rfl 48 rfl (by simp) ?_
  refine Eng.seqk fun K1 hK1 => ?_
  refine Eng.reg ?_
  refine Eng.bo (v := (.agg #[(.int .i64 (n : Int)), (.int .i64 (a : Int)), (.int .i64 (b : Int)), (.int .i64 (x : Int))])) (cs := [(.int .i64 (n : Int)), (.int .i64 (a : Int)), (.int .i64 (b : Int)), (.int .i64 (x : Int))]) rfl rfl rfl rfl rfl ?_
  intro w2 hk2 hb2 hz2
  refine Eng.sv rfl rfl (Eng.x_as (v := (.slice none 0 0)) rfl rfl) ?_
  refine Eng.nil ?_
  refine hK1 _ _ ?_
  refine Eng.seqk fun K3 hK3 => ?_
  refine Eng.reg ?_
  refine Eng.sv rfl rfl (Eng.x_as (v := (.slice none 0 0)) rfl rfl) ?_
  refine Eng.nil ?_
  refine hK3 _ _ ?_
  refine Eng.seqk fun K4 hK4 => ?_
  refine Eng.seqk fun K5 hK5 => ?_
  refine Eng.reg ?_
  refine Eng.sv rfl rfl (Eng.x_as (v := (.int .i64 0)) rfl rfl) ?_
  refine Eng.nil ?_
  refine hK5 _ _ ?_
  refine Eng.blk ?_
  refine Eng.loopN (fun zz u w' => ∃ (k : Nat), ∃ (vp : Value), zz = x - k ∧ k ≤ x ∧ Eng.Has u [(0, v), (3, (.pointer (some ⟨w.heap.size, 0, none⟩))), (4, (.slice none 0 0)), (5, vp), (6, (.int .i64 (k : Int)))] ∧ Below w.heap.size w w' ∧ w2.heap.size ≤ w'.heap.size ∧ Blk w' w.heap.size 23 [(.int .i64 (n : Int)), (.int .i64 (a : Int)), (.int .i64 (b : Int)), (.int .i64 (x : Int))] ∧ Oct.Own w2.heap.size w' vp (tbs ds c m k)) _ ⟨0, (.slice none 0 0), rfl, by omega, ⟨rfl, rfl, rfl, rfl, (Eng.ie (by first | omega | rfl)), trivial⟩, hb2, (Nat.le_refl _), hk2, (Own.nil _ _)⟩ ?_
  rintro _ u6 w6 ⟨k, vp, rfl, hs6_0, hH6, hBL6, hzL6, hkL6_0, hrL6_0⟩ K6 hK6
  obtain ⟨u6, rfl⟩ := hH6.ex
  have htl := tbs_len h.2 hm c m k
  have hck := chk_len h.2 hm c (m + k)
  refine Eng.seqk fun K7 hK7 => ?_
  refine Eng.seqk fun K8 hK8 => ?_
  refine Eng.reg ?_
  refine Eng.sv rfl rfl (Eng.x_mv (v := (.int .i64 (k : Int))) rfl rfl) ?_
  refine Eng.sv rfl rfl (Eng.x_fa (v := (.pointer (some ⟨w.heap.size, 3, none⟩))) rfl rfl (by kernel_rfl)) ?_
  refine Eng.sv rfl rfl (Eng.x_ld1 (v := (.int .i64 (x : Int))) rfl ag3_tb rfl ((hkL6_0).cell 3)) ?_
  by_cases h14 : ((k : Int) : Int) < (x : Int)
  · skip
    have hj : (m + k + 1) * c ≤ ds.length := Nat.le_trans (Nat.mul_le_mul_right c (by omega)) hb
    have hj2 := hj
    rw [Nat.succ_mul] at hj2
    refine Eng.sv rfl rfl (Eng.x_lt (r := true) rfl rfl rfl (decide_eq_true (by omega))) ?_
    refine Eng.nil ?_
    refine hK8 _ _ ?_
    refine Eng.cond_t rfl ?_
    refine Eng.skp ?_
    refine hK7 _ _ ?_
    refine Eng.seqk fun K9 hK9 => ?_
    refine Eng.blk ?_
    refine Eng.seqk fun K10 hK10 => ?_
    refine Eng.reg ?_
    refine Eng.sv rfl rfl (Eng.x_fa (v := (.pointer (some ⟨w.heap.size, 1, none⟩))) rfl rfl (by kernel_rfl)) ?_
    refine Eng.sv rfl rfl (Eng.x_ld1 (v := (.int .i64 (a : Int))) rfl ag3_tb rfl ((hkL6_0).cell 1)) ?_
    refine Eng.sv rfl rfl (Eng.x_fa (v := (.pointer (some ⟨w.heap.size, 0, none⟩))) rfl rfl (by kernel_rfl)) ?_
    refine Eng.sv rfl rfl (Eng.x_ld1 (v := (.int .i64 (n : Int))) rfl ag3_tb rfl ((hkL6_0).cell 0)) ?_
    refine Eng.sv rfl rfl (Eng.x_mul rfl rfl rfl (Eng.w64 (r := ((a * n : Nat) : Int)) (by rw [Int.natCast_mul]; omega))) ?_
    refine Eng.sv rfl rfl (Eng.x_conv rfl Tryd.underlying3 Tryd.underlying39 rfl (Eng.wu64 (r := ((a * n : Nat) : Int)) (by omega))) ?_
    refine Eng.sv rfl rfl (Eng.x_shl rfl rfl rfl (by omega) (r := (c : Int)) ((shl_eq (x := 1) rfl rfl (by omega) (by rw [Nat.one_mul, ← hc]; omega)).trans (by rw [Nat.one_mul, hc]))) ?_
    refine Eng.sv rfl rfl (Eng.x_as (v := (.int .i64 (c : Int))) rfl rfl) ?_
    refine Eng.nil ?_
    refine hK10 _ _ ?_
    refine Eng.seqk fun K11 hK11 => ?_
    refine Eng.reg ?_
    refine Eng.sv rfl rfl (Eng.x_fa (v := (.pointer (some ⟨w.heap.size, 2, none⟩))) rfl rfl (by kernel_rfl)) ?_
    refine Eng.sv rfl rfl (Eng.x_ld1 (v := (.int .i64 (b : Int))) rfl ag3_tb rfl ((hkL6_0).cell 2)) ?_
    refine Eng.sv rfl rfl (Eng.x_fa (v := (.pointer (some ⟨w.heap.size, 0, none⟩))) rfl rfl (by kernel_rfl)) ?_
    refine Eng.sv rfl rfl (Eng.x_ld1 (v := (.int .i64 (n : Int))) rfl ag3_tb rfl ((hkL6_0).cell 0)) ?_
    refine Eng.sv rfl rfl (Eng.x_conv rfl Tryd.underlying3 Tryd.underlying39 rfl (Eng.wu64 (r := (n : Int)) (by omega))) ?_
    refine Eng.sv rfl rfl (Eng.x_shl rfl rfl rfl (by omega) (r := (m : Int)) ((shl_eq rfl rfl (by omega) (by rw [← hmm]; omega)).trans (by rw [hmm]))) ?_
    refine Eng.sv rfl rfl (Eng.x_mv (v := (.int .i64 (k : Int))) rfl rfl) ?_
    refine Eng.sv rfl rfl (Eng.x_add rfl rfl rfl (Eng.w64 (r := ((m + k : Nat) : Int)) (by omega))) ?_
    refine Eng.sv rfl rfl (Eng.x_mv (v := (.int .i64 (c : Int))) rfl rfl) ?_
    refine Eng.sv rfl rfl (Eng.x_mul rfl rfl rfl (Eng.w64 (r := (((m + k) * c : Nat) : Int)) (by rw [Int.natCast_mul]; omega))) ?_
    refine Eng.sv rfl rfl (Eng.x_as (v := (.int .i64 (((m + k) * c : Nat) : Int))) rfl rfl) ?_
    refine Eng.nil ?_
    refine hK11 _ _ ?_
    refine Eng.seqk fun K12 hK12 => ?_
    refine Eng.reg ?_
    refine Eng.sv rfl rfl (Eng.x_mv (v := v) rfl rfl) ?_
    refine Eng.sv rfl rfl (Eng.x_mv (v := (.int .i64 (((m + k) * c : Nat) : Int))) rfl rfl) ?_
    refine Eng.sv rfl rfl (Eng.x_mv (v := (.int .i64 (((m + k) * c : Nat) : Int))) rfl rfl) ?_
    refine Eng.sv rfl rfl (Eng.x_mv (v := (.int .i64 (c : Int))) rfl rfl) ?_
    refine Eng.sv rfl rfl (Eng.x_add rfl rfl rfl (Eng.w64 (r := (((m + k) * c + c : Nat) : Int)) (by omega))) ?_
    refine Eng.sv rfl rfl (Eng.x_build (ps := [(0, (.int .i64 (((m + k) * c : Nat) : Int))), (1, (.int .i64 (((m + k) * c + c : Nat) : Int)))]) (v := (.agg #[(.int .i64 (((m + k) * c : Nat) : Int)), (.int .i64 (((m + k) * c + c : Nat) : Int))])) rfl rfl (by kernel_rfl)) ?_
    have hr13 := (h).below hBL6
    have hr14 := (hKn).below hBL6
    refine Eng.sc rfl (Eng.xc (vl := [v, (.agg #[(.int .i64 (((m + k) * c : Nat) : Int)), (.int .i64 (((m + k) * c + c : Nat) : Int))])]) rfl rfl rfl en22_tb) (subI hc1 hj hr13 hm hr14) ?_
    rintro _ w15 ⟨rfl, hb15⟩
    refine Eng.aft_v rfl ?_
    refine Eng.sv rfl rfl (Eng.x_mv (v := (.tuple #[(dg (chk ds c (m + k))), (.int .i64 0)])) rfl rfl) ?_
    refine Eng.sv rfl rfl (Eng.x_ext (v := (dg (chk ds c (m + k)))) rfl rfl rfl) ?_
    refine Eng.sv rfl rfl (Eng.x_ext (v := (.int .i64 0)) rfl rfl rfl) ?_
    refine Eng.al rfl rfl rfl zr45_tb (cs := (bcs Oct.dz)) rfl ?_
    intro w16 hk16 hb16 hz16
    refine Eng.stB (v := (dg (chk ds c (m + k)))) rfl rfl rfl sz45_tb rfl hk16 rfl rfl (cs' := (bcs (chk ds c (m + k)))) rfl ((bcs_length _).trans hck) (bcs_one _) ?_
    intro w17 hk17 hg17
    refine Eng.sv rfl rfl (Eng.x_as (v := (.int .i64 0)) rfl rfl) ?_
    refine Eng.nil ?_
    refine hK12 _ _ ?_
    refine Eng.reg ?_
    refine Eng.sv rfl rfl (Eng.x_mv (v := vp) rfl rfl) ?_
    refine Eng.sv rfl rfl (Eng.x_slA rfl Tryd.underlying45 sz5_tb rfl) ?_
    have hr19 := (((hrL6_0).below hb15).below hb16).kept hg17 (.inr (fun e => absurd ((World.ownsRow.lt hrL6_0) _ e).2 (Nat.not_lt_of_le (Nat.le_trans (hb15).size (Nat.le_refl _)))))
    refine Eng.apB rfl rfl rfl rfl hr19 rfl (Rd.of_blk hk17 32 hck (by decide)) (by rw [htl, hck]; omega) (Nat.le_trans (Nat.le_trans (Nat.le_trans hzL6 (hb15).size) (hb16).size) (hg17).size) ?_
    intro v18 w18 ho18 hg18
    rw [← tbs_succ] at ho18
    refine Eng.sv rfl rfl (Eng.x_as (v := v18) rfl rfl) ?_
    refine Eng.nil ?_
    refine Eng.nb ?_
    refine hK9 _ _ ?_
    refine Eng.reg ?_
    refine Eng.sv rfl rfl (Eng.x_mv (v := (.int .i64 (k : Int))) rfl rfl) ?_
    refine Eng.sv rfl rfl (Eng.x_add rfl rfl rfl (Eng.w64 (r := ((k : Int) + 1)) (by omega))) ?_
    refine Eng.sv rfl rfl (Eng.x_as (v := (.int .i64 ((k : Int) + 1))) rfl rfl) ?_
    refine Eng.nil ?_
    have hB0_3 : Below w.heap.size w w15 := (hBL6).trans (hb15.mono (hBL6).size)
    have hB0_4 : Below w.heap.size w w16 := (hB0_3).trans (hb16.mono (hB0_3).size)
    have hB0_5 : Below w.heap.size w w17 := (hB0_4).grown hg17 (hB0_4).size (fun k e => by cases e; exact Nat.le_trans (hB0_3).size (Nat.le_refl _))
    have hB0_6 : Below w.heap.size w w18 := (hB0_5).grown hg18 (hB0_5).size (fun k e => Nat.le_trans (hb2).size ((World.ownsRow.lt hrL6_0) _ e).1)
    have hk20 := ((((hkL6_0).below hb15).below hb16).grown hg17 (fun e => absurd (Option.some.inj e) (Nat.ne_of_lt (Nat.lt_of_lt_of_le hz2 (Nat.le_trans (Nat.le_trans hzL6 (hb15).size) (Nat.le_refl _)))))).grown hg18 (fun e => absurd ((World.ownsRow.lt hrL6_0) _ e.symm).1 (Nat.not_le_of_lt (Nat.lt_of_lt_of_le hz2 (Nat.le_refl _))))
    exact hK6 _ _ _ ⟨k + 1, v18, rfl, by omega, ⟨rfl, rfl, rfl, rfl, (Eng.ie (by first | omega | rfl)), trivial⟩, hB0_6, (Nat.le_trans (Nat.le_trans (Nat.le_trans (Nat.le_trans hzL6 (hb15).size) (hb16).size) (hg17).size) (hg18).size), hk20, ho18⟩ (by omega)
  · skip
    refine Eng.sv rfl rfl (Eng.x_lt (r := false) rfl rfl rfl (decide_eq_false (by omega))) ?_
    refine Eng.nil ?_
    refine hK8 _ _ ?_
    refine Eng.cond_f rfl ?_
    refine Eng.xt ?_
    refine Eng.te ?_
    refine Eng.te ?_
    refine Eng.be ?_
    refine hK4 _ _ ?_
    refine Eng.seqk fun K21 hK21 => ?_
    refine Eng.reg ?_
    refine Eng.sv rfl rfl (Eng.x_mv (v := vp) rfl rfl) ?_
    refine Eng.sv rfl rfl (Eng.x_as (v := vp) rfl rfl) ?_
    refine Eng.nil ?_
    refine hK21 _ _ ?_
    refine Eng.rt ?_
    refine Eng.ret (Eng.res1 (v1 := vp) rfl (Eng.rdt rfl)) ?_
    have hkx : k = x := by omega
    rw [hkx] at hrL6_0
    exact ⟨_, rfl, (hrL6_0).mono (hb2).size, hBL6⟩
end Go.Proofs.YtnecgoahdkfbeaaDoor.Tid
end

section
namespace Go.Proofs.YtnecgoahdkfbeaaDoor.Tid
open Go Go.RowKit Go.Proofs.YtnecgoahdkfbeaaDoor Go.Proofs.YtnecgoahdkfbeaaDoor.Cop
set_option linter.unusedVariables false
set_option linter.unusedSimpArgs false
theorem en49_wi : Eng.Entr Tryd.prog 49 := ⟨_, Tryd.func49, by kernel_rfl, by kernel_rfl⟩
theorem en56_wi : Eng.Entr Tryd.prog 56 := ⟨_, Tryd.func56, by kernel_rfl, by kernel_rfl⟩
theorem en57_wi : Eng.Entr Tryd.prog 57 := ⟨_, Tryd.func57, by kernel_rfl, by kernel_rfl⟩
set_option maxRecDepth 100000 in
set_option maxHeartbeats 4000000 in
theorem wrong_ok (h n : Int) (hh : ht h = true) (h0 : 0 ≤ n) (h1 : n ≤ 281474976710656) (w : World) : Calls Tryd.prog 56 #[(.int .i64 h), (.int .i64 n)] w (fun e w' => e = .returned (.int .i64 0) ∧ Below w.heap.size w w') := by
  refine Eng.enter (l := [(.int .i64 h), (.int .i64 n)]) Tryd.func56 rfl 16 rfl (by simp) ?_
  refine Eng.seqk fun K1 hK1 => ?_
  refine Eng.reg ?_
  refine Eng.sv rfl rfl (Eng.x_as (v := (.int .i64 0)) rfl rfl) ?_
  refine Eng.nil ?_
  refine hK1 _ _ ?_
  refine Eng.seqk fun K2 hK2 => ?_
  refine Eng.blk ?_
  refine Eng.seqk fun K3 hK3 => ?_
  refine Eng.reg ?_
  refine Eng.sv rfl rfl (Eng.x_mv (v := (.int .i64 h)) rfl rfl) ?_
  refine Eng.sc rfl (Eng.xc (vl := [(.int .i64 h)]) rfl rfl rfl en49_wi) (height_is hh _) ?_
  rintro _ w4 ⟨rfl, hb4⟩
  refine Eng.aft_v rfl ?_
  refine Eng.sv rfl rfl (Eng.x_not (v := (.bool false)) rfl rfl rfl) ?_
  refine Eng.sv rfl rfl (Eng.x_as (v := (.bool false)) rfl rfl) ?_
  refine Eng.nil ?_
  refine hK3 _ _ ?_
  refine Eng.cond_f rfl ?_
  refine Eng.seqk fun K5 hK5 => ?_
  refine Eng.reg ?_
  refine Eng.sv rfl rfl (Eng.x_mv (v := (.int .i64 n)) rfl rfl) ?_
  refine Eng.sv rfl rfl (Eng.x_lt (r := false) rfl rfl rfl (decide_eq_false (by omega))) ?_
  refine Eng.sv rfl rfl (Eng.x_mv (v := (.bool false)) rfl rfl) ?_
  refine Eng.sv (Eng.gt rfl rfl rfl rfl) rfl (Eng.x_mv (v := (.int .i64 n)) rfl rfl) ?_
  refine Eng.sv (Eng.gt rfl rfl rfl rfl) rfl (Eng.x_gt (r := false) rfl rfl rfl (decide_eq_false (by omega))) ?_
  refine Eng.sv rfl rfl (Eng.x_pick (v := (.bool false)) rfl rfl rfl rfl rfl) ?_
  refine Eng.sv rfl rfl (Eng.x_as (v := (.bool false)) rfl rfl) ?_
  refine Eng.nil ?_
  refine hK5 _ _ ?_
  refine Eng.cond_f rfl ?_
  refine Eng.skp ?_
  refine Eng.nb ?_
  refine hK2 _ _ ?_
  refine Eng.seqk fun K6 hK6 => ?_
  refine Eng.reg ?_
  refine Eng.sv rfl rfl (Eng.x_as (v := (.int .i64 0)) rfl rfl) ?_
  refine Eng.nil ?_
  refine hK6 _ _ ?_
  refine Eng.rt ?_
  refine Eng.ret (Eng.res1 (v1 := (.int .i64 0)) rfl (Eng.rdt rfl)) ?_
  exact ⟨rfl, hb4⟩
set_option maxRecDepth 100000 in
set_option maxHeartbeats 4000000 in
theorem over_ok (n a N : Nat) (h1 : 1 ≤ n) (h8 : n ≤ 8) (han : n * a ≤ 48) (hN : N ≤ 281474976710656) (w : World) : Calls Tryd.prog 57 #[(.int .i64 (n : Int)), (.int .i64 (a : Int)), (.int .i64 (N : Int))] w (fun e w' => e = .returned (.int .i64 ((N / 2 ^ (n * a) : Nat) : Int)) ∧ Below w.heap.size w w') := by
  have hdv : a ≤ 48 / n := (Nat.le_div_iff_mul_le (by omega)).2 (by rw [Nat.mul_comm]; exact han)
  have hdv2 : 48 / n ≤ 48 := Nat.div_le_self _ _
  refine Eng.enter (l := [(.int .i64 (n : Int)), (.int .i64 (a : Int)), (.int .i64 (N : Int))]) Tryd.func57 rfl 16 rfl (by simp) ?_
  refine Eng.seqk fun K1 hK1 => ?_
  refine Eng.reg ?_
  refine Eng.sv rfl rfl (Eng.x_as (v := (.int .i64 0)) rfl rfl) ?_
  refine Eng.nil ?_
  refine hK1 _ _ ?_
  refine Eng.seqk fun K2 hK2 => ?_
  refine Eng.seqk fun K3 hK3 => ?_
  refine Eng.reg ?_
  refine Eng.sv rfl rfl (Eng.x_mv (v := (.int .i64 (a : Int))) rfl rfl) ?_
  refine Eng.sv rfl rfl (Eng.x_mv (v := (.int .i64 (n : Int))) rfl rfl) ?_
  refine Eng.sv rfl rfl (Eng.x_quo rfl rfl rfl (by omega) (r := ((48 / n : Nat) : Int)) (Eng.w64 ⟨tdiv_nat 48 n, Int.le_trans (by decide) (Int.natCast_nonneg _), by omega⟩)) ?_
  refine Eng.sv rfl rfl (Eng.x_gt (r := false) rfl rfl rfl (decide_eq_false (by omega))) ?_
  refine Eng.nil ?_
  refine hK3 _ _ ?_
  refine Eng.cond_f rfl ?_
  refine Eng.skp ?_
  refine hK2 _ _ ?_
  refine Eng.seqk fun K4 hK4 => ?_
  refine Eng.reg ?_
  refine Eng.sv rfl rfl (Eng.x_mv (v := (.int .i64 (N : Int))) rfl rfl) ?_
  refine Eng.sv rfl rfl (Eng.x_mv (v := (.int .i64 (n : Int))) rfl rfl) ?_
  refine Eng.sv rfl rfl (Eng.x_mv (v := (.int .i64 (a : Int))) rfl rfl) ?_
  refine Eng.sv rfl rfl (Eng.x_mul rfl rfl rfl (Eng.w64 (r := ((n * a : Nat) : Int)) (by rw [Int.natCast_mul]; omega))) ?_
  refine Eng.sv rfl rfl (Eng.x_shr rfl rfl rfl (by omega) (r := ((N / 2 ^ (n * a) : Nat) : Int)) (shr_eq rfl rfl (by omega))) ?_
  refine Eng.sv rfl rfl (Eng.x_as (v := (.int .i64 ((N / 2 ^ (n * a) : Nat) : Int))) rfl rfl) ?_
  refine Eng.nil ?_
  refine hK4 _ _ ?_
  refine Eng.rt ?_
  refine Eng.ret (Eng.res1 (v1 := (.int .i64 ((N / 2 ^ (n * a) : Nat) : Int))) rfl (Eng.rdt rfl)) ?_
  exact ⟨rfl, (Below.refl _ _)⟩
set_option maxRecDepth 100000 in
set_option maxHeartbeats 4000000 in
theorem width_ok (n a b N o : Nat) (h1 : 1 ≤ n) (h8 : n ≤ 8) (han : n * a ≤ 48) (hN : N ≤ 281474976710656) (ho : N / 2 ^ (n * a) = o) (hb : b ≤ o / 2 ^ n) (w : World) : Calls Tryd.prog 19 #[(.int .i64 (n : Int)), (.int .i64 (a : Int)), (.int .i64 (b : Int)), (.int .i64 (N : Int))] w (fun e w' => e = .returned (.tuple #[.int .i64 ((min (o - b * 2 ^ n) (2 ^ n) : Nat) : Int), .int .i64 0]) ∧ Below w.heap.size w w') := by
  have hp8 := pow8 h8
  have hp1 : 1 ≤ 2 ^ n := Nat.one_le_two_pow
  have ho2 : o ≤ N := ho ▸ Nat.div_le_self _ _
  have hbo : b * 2 ^ n ≤ o := Nat.le_trans (Nat.mul_le_mul_right _ hb) (Nat.div_mul_le_self _ _)
  have hoo : o / 2 ^ n ≤ o := Nat.div_le_self _ _
  refine Eng.enter (l := [(.int .i64 (n : Int)), (.int .i64 (a : Int)), (.int .i64 (b : Int)), (.int .i64 (N : Int))]) Tryd.func19 rfl 41 rfl (by simp) ?_
  refine Eng.seqk fun K1 hK1 => ?_
  refine Eng.reg ?_
  refine Eng.sv rfl rfl (Eng.x_as (v := (.int .i64 0)) rfl rfl) ?_
  refine Eng.sv rfl rfl (Eng.x_as (v := (.int .i64 0)) rfl rfl) ?_
  refine Eng.nil ?_
  refine hK1 _ _ ?_
  refine Eng.seqk fun K2 hK2 => ?_
  refine Eng.seqk fun K3 hK3 => ?_
  refine Eng.reg ?_
  refine Eng.sv rfl rfl (Eng.x_mv (v := (.int .i64 (a : Int))) rfl rfl) ?_
  refine Eng.sv rfl rfl (Eng.x_lt (r := false) rfl rfl rfl (decide_eq_false (by omega))) ?_
  refine Eng.sv rfl rfl (Eng.x_mv (v := (.bool false)) rfl rfl) ?_
  refine Eng.sv (Eng.gt rfl rfl rfl rfl) rfl (Eng.x_mv (v := (.int .i64 (b : Int))) rfl rfl) ?_
  refine Eng.sv (Eng.gt rfl rfl rfl rfl) rfl (Eng.x_lt (r := false) rfl rfl rfl (decide_eq_false (by omega))) ?_
  refine Eng.sv rfl rfl (Eng.x_pick (v := (.bool false)) rfl rfl rfl rfl rfl) ?_
  refine Eng.nil ?_
  refine hK3 _ _ ?_
  refine Eng.cond_f rfl ?_
  refine Eng.skp ?_
  refine hK2 _ _ ?_
  refine Eng.seqk fun K4 hK4 => ?_
  refine Eng.seqk fun K5 hK5 => ?_
  refine Eng.reg ?_
  refine Eng.sv rfl rfl (Eng.x_mv (v := (.int .i64 (n : Int))) rfl rfl) ?_
  refine Eng.sv rfl rfl (Eng.x_mv (v := (.int .i64 (N : Int))) rfl rfl) ?_
  refine Eng.sc rfl (Eng.xc (vl := [(.int .i64 (n : Int)), (.int .i64 (N : Int))]) rfl rfl rfl en56_wi) (wrong_ok _ _ (decide_eq_true (by omega)) (by omega) (by omega) _) ?_
  rintro _ w6 ⟨rfl, hb6⟩
  refine Eng.aft_v rfl ?_
  refine Eng.sv rfl rfl (Eng.x_as (v := (.int .i64 0)) rfl rfl) ?_
  refine Eng.nil ?_
  refine hK5 _ _ ?_
  refine Eng.seqk fun K7 hK7 => ?_
  refine Eng.reg ?_
  refine Eng.sv rfl rfl (Eng.x_mv (v := (.int .i64 0)) rfl rfl) ?_
  refine Eng.sv rfl rfl (Eng.x_ne (r := false) rfl rfl rfl (Eng.ne_f (rfl))) ?_
  refine Eng.nil ?_
  refine hK7 _ _ ?_
  refine Eng.cond_f rfl ?_
  refine Eng.skp ?_
  refine hK4 _ _ ?_
  refine Eng.seqk fun K8 hK8 => ?_
  refine Eng.reg ?_
  refine Eng.sv rfl rfl (Eng.x_mv (v := (.int .i64 (n : Int))) rfl rfl) ?_
  refine Eng.sv rfl rfl (Eng.x_mv (v := (.int .i64 (a : Int))) rfl rfl) ?_
  refine Eng.sv rfl rfl (Eng.x_mv (v := (.int .i64 (N : Int))) rfl rfl) ?_
  refine Eng.sc rfl (Eng.xc (vl := [(.int .i64 (n : Int)), (.int .i64 (a : Int)), (.int .i64 (N : Int))]) rfl rfl rfl en57_wi) (ho ▸ over_ok n a N h1 h8 han hN _) ?_
  rintro _ w9 ⟨rfl, hb9⟩
  refine Eng.aft_v rfl ?_
  refine Eng.sv rfl rfl (Eng.x_as (v := (.int .i64 (o : Int))) rfl rfl) ?_
  refine Eng.nil ?_
  refine hK8 _ _ ?_
  refine Eng.seqk fun K10 hK10 => ?_
  refine Eng.seqk fun K11 hK11 => ?_
  refine Eng.reg ?_
  refine Eng.sv rfl rfl (Eng.x_mv (v := (.int .i64 (b : Int))) rfl rfl) ?_
  refine Eng.sv rfl rfl (Eng.x_mv (v := (.int .i64 (o : Int))) rfl rfl) ?_
  refine Eng.sv rfl rfl (Eng.x_mv (v := (.int .i64 (n : Int))) rfl rfl) ?_
  refine Eng.sv rfl rfl (Eng.x_shr rfl rfl rfl (by omega) (r := ((o / 2 ^ n : Nat) : Int)) (shr_eq rfl rfl (by omega))) ?_
  refine Eng.sv rfl rfl (Eng.x_gt (r := false) rfl rfl rfl (decide_eq_false (by omega))) ?_
  refine Eng.nil ?_
  refine hK11 _ _ ?_
  refine Eng.cond_f rfl ?_
  refine Eng.skp ?_
  refine hK10 _ _ ?_
  refine Eng.seqk fun K12 hK12 => ?_
  refine Eng.draw 10 [fun vQ _ => vQ = (.int .i64 (o : Int)), fun vQ _ => vQ = (.int .i64 (b : Int)), fun vQ _ => vQ = (.int .i64 (n : Int)), fun vQ _ => vQ = (.int .i64 ((b * 2 ^ n : Nat) : Int)), fun vQ _ => vQ = (.int .i64 ((o - b * 2 ^ n : Nat) : Int)), fun vQ _ => vQ = (.int .i64 (n : Int)), fun vQ _ => vQ = (.int .i64 ((2 ^ n : Nat) : Int)), fun vQ _ => vQ = (.int .i64 ((min (o - b * 2 ^ n) (2 ^ n) : Nat) : Int)), fun vQ _ => vQ = (.int .i64 ((min (o - b * 2 ^ n) (2 ^ n) : Nat) : Int)), fun vQ _ => vQ = (.int .i64 0)] (by kernel_rfl) (by kernel_rfl) (by kernel_rfl) (by kernel_rfl) rfl rfl ?_ ?_ ?_
  · exact ⟨fun _ _ _ h _ => h, fun _ _ _ h _ => h, fun _ _ _ h _ => h, fun _ _ _ h _ => h, fun _ _ _ h _ => h, fun _ _ _ h _ => h, fun _ _ _ h _ => h, fun _ _ _ h _ => h, fun _ _ _ h _ => h, fun _ _ _ h _ => h, trivial⟩
  · refine ⟨?_, ?_, ?_, ?_, ?_, ?_, ?_, ?_, ?_, ?_, trivial⟩
    · intro u' W hbW hkp hdp K hK
      refine Eng.dv rfl rfl ?_ (hK _ _ (Below.refl _ _) rfl)
      exact (Eng.x_mv (v := (.int .i64 (o : Int))) rfl (show Eng.opv 41 u' (.tmp 11) = (.int .i64 (o : Int)) from hkp 11 rfl))
    · intro u' W hbW hkp hdp K hK
      refine Eng.dv rfl rfl ?_ (hK _ _ (Below.refl _ _) rfl)
      exact (Eng.x_mv (v := (.int .i64 (b : Int))) rfl (show Eng.opv 41 u' (.tmp 2) = (.int .i64 (b : Int)) from hkp 2 rfl))
    · intro u' W hbW hkp hdp K hK
      refine Eng.dv rfl rfl ?_ (hK _ _ (Below.refl _ _) rfl)
      exact (Eng.x_mv (v := (.int .i64 (n : Int))) rfl (show Eng.opv 41 u' (.tmp 0) = (.int .i64 (n : Int)) from hkp 0 rfl))
    · intro u' W hbW hkp hdp K hK
      have e1 : u' 34 = (.int .i64 (b : Int)) := hdp.1
      have e2 : u' 35 = (.int .i64 (n : Int)) := hdp.2.1
      refine Eng.dv rfl rfl ?_ (hK _ _ (Below.refl _ _) rfl)
      exact (Eng.x_shl rfl (show Eng.opv 41 u' (.tmp 34) = (.int .i64 (b : Int)) from e1) (show Eng.opv 41 u' (.tmp 35) = (.int .i64 (n : Int)) from e2) (by omega) (r := ((b * 2 ^ n : Nat) : Int)) (shl_eq rfl rfl (by omega) (by omega)))
    · intro u' W hbW hkp hdp K hK
      have e0 : u' 33 = (.int .i64 (o : Int)) := hdp.1
      have e3 : u' 36 = (.int .i64 ((b * 2 ^ n : Nat) : Int)) := hdp.2.1
      refine Eng.dv rfl rfl ?_ (hK _ _ (Below.refl _ _) rfl)
      exact (Eng.x_sub rfl (show Eng.opv 41 u' (.tmp 33) = (.int .i64 (o : Int)) from e0) (show Eng.opv 41 u' (.tmp 36) = (.int .i64 ((b * 2 ^ n : Nat) : Int)) from e3) (Eng.w64 (r := ((o - b * 2 ^ n : Nat) : Int)) (by omega)))
    · intro u' W hbW hkp hdp K hK
      refine Eng.dv rfl rfl ?_ (hK _ _ (Below.refl _ _) rfl)
      exact (Eng.x_mv (v := (.int .i64 (n : Int))) rfl (show Eng.opv 41 u' (.tmp 0) = (.int .i64 (n : Int)) from hkp 0 rfl))
    · intro u' W hbW hkp hdp K hK
      have e5 : u' 38 = (.int .i64 (n : Int)) := hdp.1
      refine Eng.dv rfl rfl ?_ (hK _ _ (Below.refl _ _) rfl)
      exact (Eng.x_shl rfl rfl (show Eng.opv 41 u' (.tmp 38) = (.int .i64 (n : Int)) from e5) (by omega) (r := ((2 ^ n : Nat) : Int)) ((shl_eq (x := 1) rfl rfl (by omega) (by omega)).trans (by rw [Nat.one_mul])))
    · intro u' W hbW hkp hdp K hK
      have e4 : u' 37 = (.int .i64 ((o - b * 2 ^ n : Nat) : Int)) := hdp.1
      have e6 : u' 39 = (.int .i64 ((2 ^ n : Nat) : Int)) := hdp.2.1
      refine Eng.dv rfl rfl ?_ (hK _ _ (Below.refl _ _) rfl)
      exact (Eng.x_min (r := ((min (o - b * 2 ^ n) (2 ^ n) : Nat) : Int)) rfl (show Eng.opv 41 u' (.tmp 37) = (.int .i64 ((o - b * 2 ^ n : Nat) : Int)) from e4) (show Eng.opv 41 u' (.tmp 39) = (.int .i64 ((2 ^ n : Nat) : Int)) from e6) (by split <;> omega))
    · intro u' W hbW hkp hdp K hK
      have e7 : u' 40 = (.int .i64 ((min (o - b * 2 ^ n) (2 ^ n) : Nat) : Int)) := hdp.1
      refine Eng.dv rfl rfl ?_ (hK _ _ (Below.refl _ _) rfl)
      exact (Eng.x_as (v := (.int .i64 ((min (o - b * 2 ^ n) (2 ^ n) : Nat) : Int))) rfl (show Eng.opv 41 u' (.tmp 40) = (.int .i64 ((min (o - b * 2 ^ n) (2 ^ n) : Nat) : Int)) from e7))
    · intro u' W hbW hkp hdp K hK
      refine Eng.dv rfl rfl ?_ (hK _ _ (Below.refl _ _) rfl)
      exact (Eng.x_as (v := (.int .i64 0)) rfl rfl)
  · intro ud13 w13 hb13 hkp13 ⟨f13_0, f13_1, f13_2, f13_3, f13_4, f13_5, f13_6, f13_7, f13_8, f13_9, _⟩
    obtain rfl := Eng.collect (l := [(33, (.int .i64 (o : Int))), (34, (.int .i64 (b : Int))), (35, (.int .i64 (n : Int))), (36, (.int .i64 ((b * 2 ^ n : Nat) : Int))), (37, (.int .i64 ((o - b * 2 ^ n : Nat) : Int))), (38, (.int .i64 (n : Int))), (39, (.int .i64 ((2 ^ n : Nat) : Int))), (40, (.int .i64 ((min (o - b * 2 ^ n) (2 ^ n) : Nat) : Int))), (8, (.int .i64 ((min (o - b * 2 ^ n) (2 ^ n) : Nat) : Int))), (9, (.int .i64 0))]) hkp13 ⟨f13_0, f13_1, f13_2, f13_3, f13_4, f13_5, f13_6, f13_7, f13_8, f13_9, trivial⟩ rfl
    refine Eng.nil ?_
    refine hK12 _ _ ?_
    refine Eng.rt ?_
    refine Eng.ret (Eng.res2 (v1 := (.int .i64 ((min (o - b * 2 ^ n) (2 ^ n) : Nat) : Int))) (v2 := (.int .i64 0)) rfl (Eng.rdt rfl) (Eng.rdt rfl)) ?_
    have hB0_2 : Below w.heap.size w w9 := (hb6).trans (hb9.mono (hb6).size)
    have hB0_3 : Below w.heap.size w w13 := (hB0_2).trans (hb13.mono (hB0_2).size)
    exact ⟨rfl, hB0_3⟩
end Go.Proofs.YtnecgoahdkfbeaaDoor.Tid
end
