/- tile.Digest, tile.Root, the reference's; the law TileDigests. -/
import Derived.Test.YtojenflknjhmkaaDoorTilS
import Derived.Test.YtojenflknjhmkaaDoorEngQ
namespace Go.Proofs.YtojenflknjhmkaaDoor.Tid
open Go Go.RowKit Go.Proofs.YtojenflknjhmkaaDoor Go.Proofs.YtojenflknjhmkaaDoor.Cop Go.Proofs.YtojenflknjhmkaaDoor.Ver Go.Proofs.YtojenflknjhmkaaDoor.Tre Go.Proofs.YtojenflknjhmkaaDoor.TreP Go.Proofs.YtojenflknjhmkaaDoor.Vfy Go.Proofs.YtojenflknjhmkaaDoor.Oct Go.Proofs.YtojenflknjhmkaaDoor.Dsl Go.Proofs.YtojenflknjhmkaaDoor.Sha
set_option linter.unusedVariables false
set_option linter.unusedSimpArgs false
theorem zr24_tg (w : World) : (zeroValue 24).run Tryd.prog w = .ok (dg Oct.dz) w := by kernel_rfl
theorem ag82_tg (w : World) : (isAgg 82).run Tryd.prog w = .ok true w := by kernel_rfl
theorem sz82_tg : (Tryd.prog.info? 82).map (fun i => i.size) = some 4 := by kernel_rfl
theorem en99_tg : Eng.Entr Tryd.prog 99 := ⟨_, Tryd.func99, by kernel_rfl, by kernel_rfl⟩
theorem sz24_tg : (Tryd.prog.info? 24).map (fun i => i.size) = some 32 := by kernel_rfl
theorem ag24_tg (w : World) : (isAgg 24).run Tryd.prog w = .ok true w := by kernel_rfl
theorem ag84_tg (w : World) : (isAgg 84).run Tryd.prog w = .ok true w := by kernel_rfl
theorem sz84_tg : (Tryd.prog.info? 84).map (fun i => i.size) = some 2 := by kernel_rfl
theorem en100_tg : Eng.Entr Tryd.prog 100 := ⟨_, Tryd.func100, by kernel_rfl, by kernel_rfl⟩
theorem ag3_tg (w : World) : (isAgg 3).run Tryd.prog w = .ok false w := by kernel_rfl
theorem en101_tg : Eng.Entr Tryd.prog 101 := ⟨_, Tryd.func101, by kernel_rfl, by kernel_rfl⟩
theorem zr82_tg (w : World) : (zeroValue 82).run Tryd.prog w = .ok (.agg #[(.int .i64 0), (.int .i64 0), (.int .i64 0), (.int .i64 0)]) w := by kernel_rfl
theorem sz5_tg : (Tryd.prog.info? 5).map (fun i => i.size) = some 1 := by kernel_rfl
theorem en102_tg : Eng.Entr Tryd.prog 102 := ⟨_, Tryd.func102, by kernel_rfl, by kernel_rfl⟩
theorem en21_tg : Eng.Entr Tryd.prog 21 := ⟨_, Tryd.func21, by kernel_rfl, by kernel_rfl⟩
theorem en103_tg : Eng.Entr Tryd.prog 103 := ⟨_, Tryd.func103, by kernel_rfl, by kernel_rfl⟩
theorem en104_tg : Eng.Entr Tryd.prog 104 := ⟨_, Tryd.func104, by kernel_rfl, by kernel_rfl⟩
theorem en106_tg : Eng.Entr Tryd.prog 106 := ⟨_, Tryd.func106, by kernel_rfl, by kernel_rfl⟩
theorem en105_tg : Eng.Entr Tryd.prog 105 := ⟨_, Tryd.func105, by kernel_rfl, by kernel_rfl⟩
theorem in5_tg : (Tryd.prog.info? 5).map (fun i => (i.zero, i.size, i.bytes)) = some (some (.int .u8 0), 1, 1) := by kernel_rfl
theorem en45_tg : Eng.Entr Tryd.prog 45 := ⟨_, Tryd.func45, by kernel_rfl, by kernel_rfl⟩
theorem en46_tg : Eng.Entr Tryd.prog 46 := ⟨_, Tryd.func46, by kernel_rfl, by kernel_rfl⟩
theorem en47_tg : Eng.Entr Tryd.prog 47 := ⟨_, Tryd.func47, by kernel_rfl, by kernel_rfl⟩
theorem en48_tg : Eng.Entr Tryd.prog 48 := ⟨_, Tryd.func48, by kernel_rfl, by kernel_rfl⟩
theorem en49_tg : Eng.Entr Tryd.prog 49 := ⟨_, Tryd.func49, by kernel_rfl, by kernel_rfl⟩
/-- What Digest and Root of a tile tell. -/
def digOf (h l i x nl ni : Int) (b : List UInt8) : List UInt8 × Int :=
  if tv h l i x = true ∧ nv nl ni = true then
    if (b.length : Int) ≠ 32 * x then (dz, 101)
    else if ((nl.toNat / h.toNat : Nat) : Int) ≠ l ∨ ((oS h.toNat nl.toNat ni.toNat / 2 ^ h.toNat : Nat) : Int) ≠ i ∨ x < (oT h.toNat nl.toNat ni.toNat : Int) then (dz, 40)
    else (rootS (((dL b (b.length / 32)).drop (oF h.toNat nl.toNat ni.toNat)).take (oT h.toNat nl.toNat ni.toNat - oF h.toNat nl.toNat ni.toNat)), 0)
  else (dz, 2)
def rotOf (h l i x : Int) (b : List UInt8) : List UInt8 × Int :=
  if tv h l i x = true then if (b.length : Int) ≠ 32 * x then (dz, 101) else (rootS (dL b (b.length / 32)), 0) else (dz, 2)
theorem dg_bad {h l i x nl ni : Int} {b : List UInt8} (c : tv h l i x = false ∨ nv nl ni = false) : digOf h l i x nl ni b = (dz, 2) := by
  unfold digOf; rw [if_neg]; rintro ⟨c1, c2⟩; rcases c with c | c
  · rw [c1] at c; cases c
  · rw [c2] at c; cases c
theorem dg_len {h l i x nl ni : Int} {b : List UInt8} (c1 : tv h l i x = true) (c2 : nv nl ni = true) (c : (b.length : Int) ≠ 32 * x) : digOf h l i x nl ni b = (dz, 101) := by
  unfold digOf; rw [if_pos ⟨c1, c2⟩, if_pos c]
section
variable {h l i x nl ni : Int} {b : List UInt8} {n a c : Nat}
theorem dg_out (c1 : tv h l i x = true) (c2 : nv nl ni = true) (c3 : (b.length : Int) = 32 * x) (e1 : h = (n : Int)) (e2 : nl = (a : Int)) (e3 : ni = (c : Int)) (hc : ((a / n : Nat) : Int) ≠ l ∨ ((oS n a c / 2 ^ n : Nat) : Int) ≠ i ∨ x < (oT n a c : Int)) : digOf h l i x nl ni b = (dz, 40) := by
  subst e1 e2 e3
  unfold digOf; rw [if_pos ⟨c1, c2⟩, if_neg (by omega)]
  simp only [Int.toNat_natCast]
  rw [if_pos hc]
theorem dg_ok (c1 : tv h l i x = true) (c2 : nv nl ni = true) (c3 : (b.length : Int) = 32 * x) (e1 : h = (n : Int)) (e2 : nl = (a : Int)) (e3 : ni = (c : Int)) (r1 : ((a / n : Nat) : Int) = l) (r2 : ((oS n a c / 2 ^ n : Nat) : Int) = i) (r3 : ¬ x < (oT n a c : Int)) : digOf h l i x nl ni b = (rootS (((dL b (b.length / 32)).drop (oF n a c)).take (oT n a c - oF n a c)), 0) := by
  subst e1 e2 e3
  unfold digOf; rw [if_pos ⟨c1, c2⟩, if_neg (by omega)]
  simp only [Int.toNat_natCast]
  rw [if_neg (fun q => q.elim (fun q => q r1) (fun q => q.elim (fun q => q r2) r3))]
theorem of_is (hn : ht h = true) (hv : nv nl ni = true) (w : World) : ∃ n a b : Nat, h = (n : Int) ∧ nl = (a : Int) ∧ ni = (b : Int) ∧ 1 ≤ n ∧ n ≤ 8 ∧ a ≤ 48 ∧ b < 2 ^ (48 - a) ∧
    (∀ w, Calls Tryd.prog 101 #[.int .i64 h, .agg #[.int .i64 nl, .int .i64 ni]] w fun e w' => e = .returned (.tuple #[.agg #[.int .i64 (n : Int), .int .i64 ((a / n : Nat) : Int), .int .i64 ((oS n a b / 2 ^ n : Nat) : Int), .int .i64 (oT n a b : Int)], .int .i64 (oF n a b : Int), .int .i64 (oT n a b : Int), .int .i64 0]) ∧ Below w.heap.size w w') ∧ (∀ w, Calls Tryd.prog 103 #[.int .i64 h, .agg #[.int .i64 nl, .int .i64 ni]] w fun e w' => e = .returned (.tuple #[.agg #[.int .i64 (n : Int), .int .i64 ((a / n : Nat) : Int), .int .i64 ((oS n a b / 2 ^ n : Nat) : Int), .int .i64 (oT n a b : Int)], .int .i64 (oF n a b : Int), .int .i64 (oT n a b : Int), .int .i64 0]) ∧ Below w.heap.size w w') := by
  obtain ⟨n, e1, h1, h2⟩ := ht_nat hn
  obtain ⟨a, b, e2, e3, h3, h4⟩ := nv_nat hv
  subst e1 e2 e3
  exact ⟨n, a, b, rfl, rfl, rfl, h1, h2, h3, h4, fun w => of_yes n a b h1 h2 h3 h4 w, fun w => rof_yes n a b h1 h2 h3 h4 w⟩
end
theorem gd_in {b : List UInt8} {p : Nat} (h : p + 32 ≤ b.length) : gd b (p : Int) = (b.drop p).take 32 := by
  unfold gd
  have hr : room b.length (p : Int) 32 = 0 := by unfold room; rw [if_neg (by omega), if_neg (by omega), if_neg (by omega)]
  rw [if_pos hr]; rfl
theorem dL_get {b : List UInt8} {n j : Nat} (hj : j < n) : (dL b n)[j]? = some (gd b (32 * (j : Int))) := by
  unfold dL; rw [List.getElem?_map, List.getElem?_range hj]; rfl
/-- Digests of a part of the bytes. -/
theorem dL_cut {b : List UInt8} {f t : Nat} (h1 : f ≤ t) (h2 : 32 * t ≤ b.length) : dL ((b.drop (32 * f)).take (32 * t - 32 * f)) (((b.drop (32 * f)).take (32 * t - 32 * f)).length / 32) = ((dL b (b.length / 32)).drop f).take (t - f) := by
  have hl : ((b.drop (32 * f)).take (32 * t - 32 * f)).length = 32 * (t - f) := by rw [List.length_take, List.length_drop]; omega
  rw [hl, show 32 * (t - f) / 32 = t - f by omega]
  apply List.ext_getElem?
  intro j
  by_cases hj : j < t - f
  · rw [dL_get hj, List.getElem?_take_of_lt hj, List.getElem?_drop, dL_get (by omega)]
    have e1 : (32 * (j : Int)) = ((32 * j : Nat) : Int) := by omega
    have e2 : (32 * ((f + j : Nat) : Int)) = ((32 * (f + j) : Nat) : Int) := by omega
    rw [e1, e2, gd_in (by rw [hl]; omega), gd_in (by omega), List.drop_take, List.drop_drop, List.take_take, show 32 * f + 32 * j = 32 * (f + j) by omega, Nat.min_eq_left (by omega)]
  · rw [List.getElem?_eq_none (by rw [dL_length]; omega), List.getElem?_eq_none (by rw [List.length_take]; omega)]
theorem all32_mid {l : List (List UInt8)} (h : All32 l) (f k : Nat) : All32 ((l.drop f).take k) := fun d hd => h d (List.mem_of_mem_drop (List.mem_of_mem_take hd))
theorem bs_pre {w : World} {v : Value} {b : List UInt8} (h : Rd w v (([] ++ b) ++ [90])) : Rd w (Eng.sCut v 0 b.length 1) b := by
  have := Eng.rd_cut h (l := 0) (h := b.length) (Nat.zero_le _) (by simp)
  show Row w _ b.length (bcs b)
  simpa [Rd] using this
theorem oF_le (n a b : Nat) : oF n a b ≤ oT n a b := Nat.le_add_right _ _
theorem tvalid_is {b : Bool} {h l i x : Int} (e : tv h l i x = b) (w : World) : Calls Tryd.prog 99 #[(.agg #[(.int .i64 h), (.int .i64 l), (.int .i64 i), (.int .i64 x)])] w fun e w' => e = .returned (.bool b) ∧ Below w.heap.size w w' := e ▸ tvalid_calls h l i x w
theorem rtvalid_is {b : Bool} {h l i x : Int} (e : tv h l i x = b) (w : World) : Calls Tryd.prog 104 #[(.agg #[(.int .i64 h), (.int .i64 l), (.int .i64 i), (.int .i64 x)])] w fun e w' => e = .returned (.bool b) ∧ Below w.heap.size w w' := e ▸ rtvalid_calls h l i x w
set_option maxRecDepth 100000 in
set_option maxHeartbeats 4000000 in
theorem digest_calls (h l i x nl ni : Int) (v : Value) (b : List UInt8) (w : World) (hb : Bs w v b) (hKn : Kon w) : Calls Tryd.prog 45 #[(.agg #[(.int .i64 h), (.int .i64 l), (.int .i64 i), (.int .i64 x)]), v, (.agg #[(.int .i64 nl), (.int .i64 ni)])] w (fun e w' => e = .returned (.tuple #[dg (digOf h l i x nl ni b).1, .int .i64 (digOf h l i x nl ni b).2]) ∧ Below w.heap.size w w') := by
  have hbl := hb.2
  refine Eng.enter (l := [(.agg #[(.int .i64 h), (.int .i64 l), (.int .i64 i), (.int .i64 x)]), v, (.agg #[(.int .i64 nl), (.int .i64 ni)])]) Tryd.func45 rfl 64 rfl (by simp) ?_
  refine Eng.seqk fun K1 hK1 => ?_
  refine Eng.reg ?_
  refine Eng.bo (v := (.agg #[(.int .i64 h), (.int .i64 l), (.int .i64 i), (.int .i64 x)])) (cs := [(.int .i64 h), (.int .i64 l), (.int .i64 i), (.int .i64 x)]) rfl rfl rfl rfl rfl ?_
  intro w2 hk2 hb2 hz2
  refine Eng.bo (v := (.agg #[(.int .i64 nl), (.int .i64 ni)])) (cs := [(.int .i64 nl), (.int .i64 ni)]) rfl rfl rfl rfl rfl ?_
  intro w3 hk3 hb3 hz3
  refine Eng.al rfl rfl rfl zr24_tg (cs := (bcs Oct.dz)) rfl ?_
  intro w4 hk4 hb4 hz4
  refine Eng.sv rfl rfl (Eng.x_as (v := (.int .i64 0)) rfl rfl) ?_
  refine Eng.nil ?_
  refine hK1 _ _ ?_
  refine Eng.seqk fun K5 hK5 => ?_
  refine Eng.seqk fun K6 hK6 => ?_
  by_cases q0 : tv h l i x = false
  · skip
    refine Eng.reg ?_
    have hk7 := ((hk2).below hb3).below hb4
    refine Eng.sv rfl rfl (Eng.x_ldB (v := (.agg #[(.int .i64 h), (.int .i64 l), (.int .i64 i), (.int .i64 x)])) rfl ag82_tg sz82_tg rfl hk7 rfl rfl) ?_
    refine Eng.sc rfl (Eng.xc (vl := [(.agg #[(.int .i64 h), (.int .i64 l), (.int .i64 i), (.int .i64 x)])]) rfl rfl rfl en99_tg) (tvalid_is q0 _) ?_
    rintro _ w8 ⟨rfl, hb8⟩
    refine Eng.aft_v rfl ?_
    refine Eng.sv rfl rfl (Eng.x_not (v := (.bool true)) rfl rfl rfl) ?_
    refine Eng.sv rfl rfl (Eng.x_mv (v := (.bool true)) rfl rfl) ?_
    refine Eng.sg (Eng.gf rfl rfl rfl rfl) rfl ?_
    refine Eng.sg (Eng.gf rfl rfl rfl rfl) rfl ?_
    refine Eng.sg (Eng.gf rfl rfl rfl rfl) rfl ?_
    refine Eng.sv rfl rfl (Eng.x_pick (v := (.bool true)) rfl rfl rfl rfl rfl) ?_
    refine Eng.nil ?_
    refine hK6 _ _ ?_
    refine Eng.cond_t rfl ?_
    refine Eng.seqk fun K9 hK9 => ?_
    refine Eng.reg ?_
    refine Eng.sv rfl rfl (Eng.x_build (ps := []) (v := (dg Oct.dz)) rfl rfl (by kernel_rfl)) ?_
    have hk10 := (hk4).below hb8
    refine Eng.stB (v := (dg Oct.dz)) rfl rfl rfl sz24_tg rfl hk10 rfl rfl (cs' := (bcs Oct.dz)) rfl rfl (bcs_one _) ?_
    intro w11 hk11 hg11
    refine Eng.sv rfl rfl (Eng.x_as (v := (.int .i64 2)) rfl rfl) ?_
    refine Eng.nil ?_
    refine hK9 _ _ ?_
    refine Eng.rt ?_
    refine Eng.tr ?_
    refine Eng.ret (Eng.res2 (v1 := (dg Oct.dz)) (v2 := (.int .i64 2)) rfl (Eng.rdc rfl (Eng.lvB ag24_tg sz24_tg hk11 rfl rfl)) (Eng.rdt rfl)) ?_
    have hB0_2 : Below w.heap.size w w3 := (hb2).trans (hb3.mono (hb2).size)
    have hB0_3 : Below w.heap.size w w4 := (hB0_2).trans (hb4.mono (hB0_2).size)
    have hB0_4 : Below w.heap.size w w8 := (hB0_3).trans (hb8.mono (hB0_3).size)
    have hB0_5 : Below w.heap.size w w11 := (hB0_4).grown hg11 (hB0_4).size (fun k e => by cases e; exact Nat.le_trans (hB0_2).size (Nat.le_refl _))
    exact ⟨by rw [dg_bad (.inl q0)], hB0_5⟩
  · skip
    have ht1 : tv h l i x = true := by simpa using q0
    obtain ⟨t1, t2, t3, t4, t5, t6⟩ := tv_yes ht1
    have hpw := pwb t1
    by_cases q1 : nv nl ni = false
    · skip
      refine Eng.reg ?_
      have hk12 := ((hk2).below hb3).below hb4
      refine Eng.sv rfl rfl (Eng.x_ldB (v := (.agg #[(.int .i64 h), (.int .i64 l), (.int .i64 i), (.int .i64 x)])) rfl ag82_tg sz82_tg rfl hk12 rfl rfl) ?_
      refine Eng.sc rfl (Eng.xc (vl := [(.agg #[(.int .i64 h), (.int .i64 l), (.int .i64 i), (.int .i64 x)])]) rfl rfl rfl en99_tg) (tvalid_is ht1 _) ?_
      rintro _ w13 ⟨rfl, hb13⟩
      refine Eng.aft_v rfl ?_
      refine Eng.sv rfl rfl (Eng.x_not (v := (.bool false)) rfl rfl rfl) ?_
      refine Eng.sv rfl rfl (Eng.x_mv (v := (.bool false)) rfl rfl) ?_
      have hk14 := ((hk3).below hb4).below hb13
      refine Eng.sv (Eng.gt rfl rfl rfl rfl) rfl (Eng.x_ldB (v := (.agg #[(.int .i64 nl), (.int .i64 ni)])) rfl ag84_tg sz84_tg rfl hk14 rfl rfl) ?_
      refine Eng.sc (Eng.gt rfl rfl rfl rfl) (Eng.xc (vl := [(.agg #[(.int .i64 nl), (.int .i64 ni)])]) rfl rfl rfl en100_tg) (nvalid_is q1 _) ?_
      rintro _ w15 ⟨rfl, hb15⟩
      refine Eng.aft_v rfl ?_
      refine Eng.sv (Eng.gt rfl rfl rfl rfl) rfl (Eng.x_not (v := (.bool true)) rfl rfl rfl) ?_
      refine Eng.sv rfl rfl (Eng.x_pick (v := (.bool true)) rfl rfl rfl rfl rfl) ?_
      refine Eng.nil ?_
      refine hK6 _ _ ?_
      refine Eng.cond_t rfl ?_
      refine Eng.seqk fun K16 hK16 => ?_
      refine Eng.reg ?_
      refine Eng.sv rfl rfl (Eng.x_build (ps := []) (v := (dg Oct.dz)) rfl rfl (by kernel_rfl)) ?_
      have hk17 := ((hk4).below hb13).below hb15
      refine Eng.stB (v := (dg Oct.dz)) rfl rfl rfl sz24_tg rfl hk17 rfl rfl (cs' := (bcs Oct.dz)) rfl rfl (bcs_one _) ?_
      intro w18 hk18 hg18
      refine Eng.sv rfl rfl (Eng.x_as (v := (.int .i64 2)) rfl rfl) ?_
      refine Eng.nil ?_
      refine hK16 _ _ ?_
      refine Eng.rt ?_
      refine Eng.tr ?_
      refine Eng.ret (Eng.res2 (v1 := (dg Oct.dz)) (v2 := (.int .i64 2)) rfl (Eng.rdc rfl (Eng.lvB ag24_tg sz24_tg hk18 rfl rfl)) (Eng.rdt rfl)) ?_
      have hB0_2 : Below w.heap.size w w3 := (hb2).trans (hb3.mono (hb2).size)
      have hB0_3 : Below w.heap.size w w4 := (hB0_2).trans (hb4.mono (hB0_2).size)
      have hB0_4 : Below w.heap.size w w13 := (hB0_3).trans (hb13.mono (hB0_3).size)
      have hB0_5 : Below w.heap.size w w15 := (hB0_4).trans (hb15.mono (hB0_4).size)
      have hB0_6 : Below w.heap.size w w18 := (hB0_5).grown hg18 (hB0_5).size (fun k e => by cases e; exact Nat.le_trans (hB0_2).size (Nat.le_refl _))
      exact ⟨by rw [dg_bad (.inr q1)], hB0_6⟩
    · skip
      have hn1 : nv nl ni = true := by simpa using q1
      obtain ⟨n, a, c, e1, e2, e3, h1, h8, ha, hc, hof, hrof⟩ := of_is t1 hn1 w
      obtain ⟨b1, b2, b3, b4, b5, b6, b7, b8, b9⟩ := o_bounds h1 h8 ha hc
      have hft := oF_le n a c
      have hx2 : x ≤ 256 := by omega
      refine Eng.reg ?_
      have hk19 := ((hk2).below hb3).below hb4
      refine Eng.sv rfl rfl (Eng.x_ldB (v := (.agg #[(.int .i64 h), (.int .i64 l), (.int .i64 i), (.int .i64 x)])) rfl ag82_tg sz82_tg rfl hk19 rfl rfl) ?_
      refine Eng.sc rfl (Eng.xc (vl := [(.agg #[(.int .i64 h), (.int .i64 l), (.int .i64 i), (.int .i64 x)])]) rfl rfl rfl en99_tg) (tvalid_is ht1 _) ?_
      rintro _ w20 ⟨rfl, hb20⟩
      refine Eng.aft_v rfl ?_
      refine Eng.sv rfl rfl (Eng.x_not (v := (.bool false)) rfl rfl rfl) ?_
      refine Eng.sv rfl rfl (Eng.x_mv (v := (.bool false)) rfl rfl) ?_
      have hk21 := ((hk3).below hb4).below hb20
      refine Eng.sv (Eng.gt rfl rfl rfl rfl) rfl (Eng.x_ldB (v := (.agg #[(.int .i64 nl), (.int .i64 ni)])) rfl ag84_tg sz84_tg rfl hk21 rfl rfl) ?_
      refine Eng.sc (Eng.gt rfl rfl rfl rfl) (Eng.xc (vl := [(.agg #[(.int .i64 nl), (.int .i64 ni)])]) rfl rfl rfl en100_tg) (nvalid_is hn1 _) ?_
      rintro _ w22 ⟨rfl, hb22⟩
      refine Eng.aft_v rfl ?_
      refine Eng.sv (Eng.gt rfl rfl rfl rfl) rfl (Eng.x_not (v := (.bool false)) rfl rfl rfl) ?_
      refine Eng.sv rfl rfl (Eng.x_pick (v := (.bool false)) rfl rfl rfl rfl rfl) ?_
      refine Eng.nil ?_
      refine hK6 _ _ ?_
      refine Eng.cond_f rfl ?_
      refine Eng.skp ?_
      refine hK5 _ _ ?_
      refine Eng.seqk fun K23 hK23 => ?_
      refine Eng.seqk fun K24 hK24 => ?_
      refine Eng.reg ?_
      refine Eng.sv rfl rfl (Eng.x_mv (v := v) rfl rfl) ?_
      have hB0_2 : Below w.heap.size w w3 := (hb2).trans (hb3.mono (hb2).size)
      have hB0_3 : Below w.heap.size w w4 := (hB0_2).trans (hb4.mono (hB0_2).size)
      have hB0_4 : Below w.heap.size w w20 := (hB0_3).trans (hb20.mono (hB0_3).size)
      have hB0_5 : Below w.heap.size w w22 := (hB0_4).trans (hb22.mono (hB0_4).size)
      have hr25 := (hb).below hB0_5
      refine Eng.sv rfl rfl (Eng.x_len (v := v) (r := (b.length : Int)) rfl Tryd.underlying22 rfl (hr25).1 rfl) ?_
      refine Eng.sv rfl rfl (Eng.x_fa (v := (.pointer (some ⟨w.heap.size, 3, none⟩))) rfl rfl (by kernel_rfl)) ?_
      have hk26 := ((hk19).below hb20).below hb22
      refine Eng.sv rfl rfl (Eng.x_ld1 (v := (.int .i64 x)) rfl ag3_tg rfl ((hk26).cell 3)) ?_
      refine Eng.sv rfl rfl (Eng.x_mul rfl rfl rfl (Eng.w64 (r := (32 * x)) (by omega))) ?_
      by_cases hl : ((b.length : Int) : Int) ≠ (32 * x)
      · skip
        refine Eng.sv rfl rfl (Eng.x_ne (r := true) rfl rfl rfl (Eng.ne_t (by omega))) ?_
        refine Eng.nil ?_
        refine hK24 _ _ ?_
        refine Eng.cond_t rfl ?_
        refine Eng.seqk fun K27 hK27 => ?_
        refine Eng.reg ?_
        refine Eng.sv rfl rfl (Eng.x_build (ps := []) (v := (dg Oct.dz)) rfl rfl (by kernel_rfl)) ?_
        have hk28 := ((hk4).below hb20).below hb22
        refine Eng.stB (v := (dg Oct.dz)) rfl rfl rfl sz24_tg rfl hk28 rfl rfl (cs' := (bcs Oct.dz)) rfl rfl (bcs_one _) ?_
        intro w29 hk29 hg29
        refine Eng.sv rfl rfl (Eng.x_as (v := (.int .i64 101)) rfl rfl) ?_
        refine Eng.nil ?_
        refine hK27 _ _ ?_
        refine Eng.rt ?_
        refine Eng.tr ?_
        refine Eng.ret (Eng.res2 (v1 := (dg Oct.dz)) (v2 := (.int .i64 101)) rfl (Eng.rdc rfl (Eng.lvB ag24_tg sz24_tg hk29 rfl rfl)) (Eng.rdt rfl)) ?_
        have hB0_6 : Below w.heap.size w w29 := (hB0_5).grown hg29 (hB0_5).size (fun k e => by cases e; exact Nat.le_trans (hB0_2).size (Nat.le_refl _))
        exact ⟨by rw [dg_len ht1 hn1 hl], hB0_6⟩
      · skip
        refine Eng.sv rfl rfl (Eng.x_ne (r := false) rfl rfl rfl (Eng.ne_f (by omega))) ?_
        refine Eng.nil ?_
        refine hK24 _ _ ?_
        refine Eng.cond_f rfl ?_
        refine Eng.skp ?_
        refine hK23 _ _ ?_
        refine Eng.seqk fun K30 hK30 => ?_
        refine Eng.reg ?_
        refine Eng.sv rfl rfl (Eng.x_fa (v := (.pointer (some ⟨w.heap.size, 0, none⟩))) rfl rfl (by kernel_rfl)) ?_
        refine Eng.sv rfl rfl (Eng.x_ld1 (v := (.int .i64 h)) rfl ag3_tg rfl ((hk26).cell 0)) ?_
        have hk31 := (hk21).below hb22
        refine Eng.sv rfl rfl (Eng.x_ldB (v := (.agg #[(.int .i64 nl), (.int .i64 ni)])) rfl ag84_tg sz84_tg rfl hk31 rfl rfl) ?_
        refine Eng.sc rfl (Eng.xc (vl := [(.int .i64 h), (.agg #[(.int .i64 nl), (.int .i64 ni)])]) rfl rfl rfl en101_tg) (hof _) ?_
        rintro _ w32 ⟨rfl, hb32⟩
        refine Eng.aft_v rfl ?_
        refine Eng.sv rfl rfl (Eng.x_mv (v := (.tuple #[(.agg #[(.int .i64 (n : Int)), (.int .i64 ((a / n : Nat) : Int)), (.int .i64 ((oS n a c / 2 ^ n : Nat) : Int)), (.int .i64 (oT n a c : Int))]), (.int .i64 (oF n a c : Int)), (.int .i64 (oT n a c : Int)), (.int .i64 0)])) rfl rfl) ?_
        refine Eng.sv rfl rfl (Eng.x_ext (v := (.agg #[(.int .i64 (n : Int)), (.int .i64 ((a / n : Nat) : Int)), (.int .i64 ((oS n a c / 2 ^ n : Nat) : Int)), (.int .i64 (oT n a c : Int))])) rfl rfl rfl) ?_
        refine Eng.sv rfl rfl (Eng.x_ext (v := (.int .i64 (oF n a c : Int))) rfl rfl rfl) ?_
        refine Eng.sv rfl rfl (Eng.x_ext (v := (.int .i64 (oT n a c : Int))) rfl rfl rfl) ?_
        refine Eng.sv rfl rfl (Eng.x_ext (v := (.int .i64 0)) rfl rfl rfl) ?_
        refine Eng.al rfl rfl rfl zr82_tg (cs := [(.int .i64 0), (.int .i64 0), (.int .i64 0), (.int .i64 0)]) rfl ?_
        intro w33 hk33 hb33 hz33
        refine Eng.stB (v := (.agg #[(.int .i64 (n : Int)), (.int .i64 ((a / n : Nat) : Int)), (.int .i64 ((oS n a c / 2 ^ n : Nat) : Int)), (.int .i64 (oT n a c : Int))])) rfl rfl rfl sz82_tg rfl hk33 rfl rfl (cs' := [(.int .i64 (n : Int)), (.int .i64 ((a / n : Nat) : Int)), (.int .i64 ((oS n a c / 2 ^ n : Nat) : Int)), (.int .i64 (oT n a c : Int))]) rfl rfl (Eng.one_cons rfl (Eng.one_cons rfl (Eng.one_cons rfl (Eng.one_cons rfl Eng.one_nil)))) ?_
        intro w34 hk34 hg34
        refine Eng.sv rfl rfl (Eng.x_as (v := (.int .i64 (oF n a c : Int))) rfl rfl) ?_
        refine Eng.sv rfl rfl (Eng.x_as (v := (.int .i64 (oT n a c : Int))) rfl rfl) ?_
        refine Eng.sv rfl rfl (Eng.x_as (v := (.int .i64 0)) rfl rfl) ?_
        refine Eng.nil ?_
        refine hK30 _ _ ?_
        refine Eng.seqk fun K35 hK35 => ?_
        refine Eng.seqk fun K36 hK36 => ?_
        by_cases r0 : ((a / n : Nat) : Int) ≠ l
        · skip
          refine Eng.reg ?_
          refine Eng.sv rfl rfl (Eng.x_fa (v := (.pointer (some ⟨w32.heap.size, 1, none⟩))) rfl rfl (by kernel_rfl)) ?_
          refine Eng.sv rfl rfl (Eng.x_ld1 (v := (.int .i64 ((a / n : Nat) : Int))) rfl ag3_tg rfl ((hk34).cell 1)) ?_
          refine Eng.sv rfl rfl (Eng.x_fa (v := (.pointer (some ⟨w.heap.size, 1, none⟩))) rfl rfl (by kernel_rfl)) ?_
          have hB1_3 : Below w2.heap.size w2 w4 := (hb3).trans (hb4.mono (hb3).size)
          have hB1_4 : Below w2.heap.size w2 w20 := (hB1_3).trans (hb20.mono (hB1_3).size)
          have hB1_5 : Below w2.heap.size w2 w22 := (hB1_4).trans (hb22.mono (hB1_4).size)
          have hB1_6 : Below w2.heap.size w2 w32 := (hB1_5).trans (hb32.mono (hB1_5).size)
          have hk37 := (((hk26).below hb32).below hb33).grown hg34 (fun e => absurd (Option.some.inj e) (Nat.ne_of_lt (Nat.lt_of_lt_of_le hz2 (Nat.le_trans (hB1_6).size (Nat.le_refl _)))))
          refine Eng.sv rfl rfl (Eng.x_ld1 (v := (.int .i64 l)) rfl ag3_tg rfl ((hk37).cell 1)) ?_
          refine Eng.sv rfl rfl (Eng.x_ne (r := true) rfl rfl rfl (Eng.ne_t (by omega))) ?_
          refine Eng.sv rfl rfl (Eng.x_mv (v := (.bool true)) rfl rfl) ?_
          refine Eng.sg (Eng.gf rfl rfl rfl rfl) rfl ?_
          refine Eng.sg (Eng.gf rfl rfl rfl rfl) rfl ?_
          refine Eng.sg (Eng.gf rfl rfl rfl rfl) rfl ?_
          refine Eng.sg (Eng.gf rfl rfl rfl rfl) rfl ?_
          refine Eng.sg (Eng.gf rfl rfl rfl rfl) rfl ?_
          refine Eng.sv rfl rfl (Eng.x_pick (v := (.bool true)) rfl rfl rfl rfl rfl) ?_
          refine Eng.sv rfl rfl (Eng.x_mv (v := (.bool true)) rfl rfl) ?_
          refine Eng.sg (Eng.gf rfl rfl rfl rfl) rfl ?_
          refine Eng.sg (Eng.gf rfl rfl rfl rfl) rfl ?_
          refine Eng.sg (Eng.gf rfl rfl rfl rfl) rfl ?_
          refine Eng.sg (Eng.gf rfl rfl rfl rfl) rfl ?_
          refine Eng.sv rfl rfl (Eng.x_pick (v := (.bool true)) rfl rfl rfl rfl rfl) ?_
          refine Eng.nil ?_
          refine hK36 _ _ ?_
          refine Eng.cond_t rfl ?_
          refine Eng.seqk fun K38 hK38 => ?_
          refine Eng.reg ?_
          refine Eng.sv rfl rfl (Eng.x_build (ps := []) (v := (dg Oct.dz)) rfl rfl (by kernel_rfl)) ?_
          have hB3_5 : Below w4.heap.size w4 w22 := (hb20).trans (hb22.mono (hb20).size)
          have hB3_6 : Below w4.heap.size w4 w32 := (hB3_5).trans (hb32.mono (hB3_5).size)
          have hk39 := (((((hk4).below hb20).below hb22).below hb32).below hb33).grown hg34 (fun e => absurd (Option.some.inj e) (Nat.ne_of_lt (Nat.lt_of_lt_of_le hz4 (Nat.le_trans (hB3_6).size (Nat.le_refl _)))))
          refine Eng.stB (v := (dg Oct.dz)) rfl rfl rfl sz24_tg rfl hk39 rfl rfl (cs' := (bcs Oct.dz)) rfl rfl (bcs_one _) ?_
          intro w40 hk40 hg40
          refine Eng.sv rfl rfl (Eng.x_as (v := (.int .i64 40)) rfl rfl) ?_
          refine Eng.nil ?_
          refine hK38 _ _ ?_
          refine Eng.rt ?_
          refine Eng.tr ?_
          refine Eng.ret (Eng.res2 (v1 := (dg Oct.dz)) (v2 := (.int .i64 40)) rfl (Eng.rdc rfl (Eng.lvB ag24_tg sz24_tg hk40 rfl rfl)) (Eng.rdt rfl)) ?_
          have hB0_6 : Below w.heap.size w w32 := (hB0_5).trans (hb32.mono (hB0_5).size)
          have hB0_7 : Below w.heap.size w w33 := (hB0_6).trans (hb33.mono (hB0_6).size)
          have hB0_8 : Below w.heap.size w w34 := (hB0_7).grown hg34 (hB0_7).size (fun k e => by cases e; exact Nat.le_trans (hB0_6).size (Nat.le_refl _))
          have hB0_9 : Below w.heap.size w w40 := (hB0_8).grown hg40 (hB0_8).size (fun k e => by cases e; exact Nat.le_trans (hB0_2).size (Nat.le_refl _))
          exact ⟨by rw [dg_out ht1 hn1 (by omega) e1 e2 e3 (.inl r0)], hB0_9⟩
        · skip
          by_cases r1 : ((oS n a c / 2 ^ n : Nat) : Int) ≠ i
          · skip
            refine Eng.reg ?_
            refine Eng.sv rfl rfl (Eng.x_fa (v := (.pointer (some ⟨w32.heap.size, 1, none⟩))) rfl rfl (by kernel_rfl)) ?_
            refine Eng.sv rfl rfl (Eng.x_ld1 (v := (.int .i64 ((a / n : Nat) : Int))) rfl ag3_tg rfl ((hk34).cell 1)) ?_
            refine Eng.sv rfl rfl (Eng.x_fa (v := (.pointer (some ⟨w.heap.size, 1, none⟩))) rfl rfl (by kernel_rfl)) ?_
            have hB1_3 : Below w2.heap.size w2 w4 := (hb3).trans (hb4.mono (hb3).size)
            have hB1_4 : Below w2.heap.size w2 w20 := (hB1_3).trans (hb20.mono (hB1_3).size)
            have hB1_5 : Below w2.heap.size w2 w22 := (hB1_4).trans (hb22.mono (hB1_4).size)
            have hB1_6 : Below w2.heap.size w2 w32 := (hB1_5).trans (hb32.mono (hB1_5).size)
            have hk41 := (((hk26).below hb32).below hb33).grown hg34 (fun e => absurd (Option.some.inj e) (Nat.ne_of_lt (Nat.lt_of_lt_of_le hz2 (Nat.le_trans (hB1_6).size (Nat.le_refl _)))))
            refine Eng.sv rfl rfl (Eng.x_ld1 (v := (.int .i64 l)) rfl ag3_tg rfl ((hk41).cell 1)) ?_
            refine Eng.sv rfl rfl (Eng.x_ne (r := false) rfl rfl rfl (Eng.ne_f (by omega))) ?_
            refine Eng.sv rfl rfl (Eng.x_mv (v := (.bool false)) rfl rfl) ?_
            refine Eng.sv (Eng.gt rfl rfl rfl rfl) rfl (Eng.x_fa (v := (.pointer (some ⟨w32.heap.size, 2, none⟩))) rfl rfl (by kernel_rfl)) ?_
            refine Eng.sv (Eng.gt rfl rfl rfl rfl) rfl (Eng.x_ld1 (v := (.int .i64 ((oS n a c / 2 ^ n : Nat) : Int))) rfl ag3_tg rfl ((hk34).cell 2)) ?_
            refine Eng.sv (Eng.gt rfl rfl rfl rfl) rfl (Eng.x_fa (v := (.pointer (some ⟨w.heap.size, 2, none⟩))) rfl rfl (by kernel_rfl)) ?_
            refine Eng.sv (Eng.gt rfl rfl rfl rfl) rfl (Eng.x_ld1 (v := (.int .i64 i)) rfl ag3_tg rfl ((hk41).cell 2)) ?_
            refine Eng.sv (Eng.gt rfl rfl rfl rfl) rfl (Eng.x_ne (r := true) rfl rfl rfl (Eng.ne_t (by omega))) ?_
            refine Eng.sv rfl rfl (Eng.x_pick (v := (.bool true)) rfl rfl rfl rfl rfl) ?_
            refine Eng.sv rfl rfl (Eng.x_mv (v := (.bool true)) rfl rfl) ?_
            refine Eng.sg (Eng.gf rfl rfl rfl rfl) rfl ?_
            refine Eng.sg (Eng.gf rfl rfl rfl rfl) rfl ?_
            refine Eng.sg (Eng.gf rfl rfl rfl rfl) rfl ?_
            refine Eng.sg (Eng.gf rfl rfl rfl rfl) rfl ?_
            refine Eng.sv rfl rfl (Eng.x_pick (v := (.bool true)) rfl rfl rfl rfl rfl) ?_
            refine Eng.nil ?_
            refine hK36 _ _ ?_
            refine Eng.cond_t rfl ?_
            refine Eng.seqk fun K42 hK42 => ?_
            refine Eng.reg ?_
            refine Eng.sv rfl rfl (Eng.x_build (ps := []) (v := (dg Oct.dz)) rfl rfl (by kernel_rfl)) ?_
            have hB3_5 : Below w4.heap.size w4 w22 := (hb20).trans (hb22.mono (hb20).size)
            have hB3_6 : Below w4.heap.size w4 w32 := (hB3_5).trans (hb32.mono (hB3_5).size)
            have hk43 := (((((hk4).below hb20).below hb22).below hb32).below hb33).grown hg34 (fun e => absurd (Option.some.inj e) (Nat.ne_of_lt (Nat.lt_of_lt_of_le hz4 (Nat.le_trans (hB3_6).size (Nat.le_refl _)))))
            refine Eng.stB (v := (dg Oct.dz)) rfl rfl rfl sz24_tg rfl hk43 rfl rfl (cs' := (bcs Oct.dz)) rfl rfl (bcs_one _) ?_
            intro w44 hk44 hg44
            refine Eng.sv rfl rfl (Eng.x_as (v := (.int .i64 40)) rfl rfl) ?_
            refine Eng.nil ?_
            refine hK42 _ _ ?_
            refine Eng.rt ?_
            refine Eng.tr ?_
            refine Eng.ret (Eng.res2 (v1 := (dg Oct.dz)) (v2 := (.int .i64 40)) rfl (Eng.rdc rfl (Eng.lvB ag24_tg sz24_tg hk44 rfl rfl)) (Eng.rdt rfl)) ?_
            have hB0_6 : Below w.heap.size w w32 := (hB0_5).trans (hb32.mono (hB0_5).size)
            have hB0_7 : Below w.heap.size w w33 := (hB0_6).trans (hb33.mono (hB0_6).size)
            have hB0_8 : Below w.heap.size w w34 := (hB0_7).grown hg34 (hB0_7).size (fun k e => by cases e; exact Nat.le_trans (hB0_6).size (Nat.le_refl _))
            have hB0_9 : Below w.heap.size w w44 := (hB0_8).grown hg44 (hB0_8).size (fun k e => by cases e; exact Nat.le_trans (hB0_2).size (Nat.le_refl _))
            exact ⟨by rw [dg_out ht1 hn1 (by omega) e1 e2 e3 (.inr (.inl r1))], hB0_9⟩
          · skip
            by_cases r2 : x < (oT n a c : Int)
            · skip
              refine Eng.reg ?_
              refine Eng.sv rfl rfl (Eng.x_fa (v := (.pointer (some ⟨w32.heap.size, 1, none⟩))) rfl rfl (by kernel_rfl)) ?_
              refine Eng.sv rfl rfl (Eng.x_ld1 (v := (.int .i64 ((a / n : Nat) : Int))) rfl ag3_tg rfl ((hk34).cell 1)) ?_
              refine Eng.sv rfl rfl (Eng.x_fa (v := (.pointer (some ⟨w.heap.size, 1, none⟩))) rfl rfl (by kernel_rfl)) ?_
              have hB1_3 : Below w2.heap.size w2 w4 := (hb3).trans (hb4.mono (hb3).size)
              have hB1_4 : Below w2.heap.size w2 w20 := (hB1_3).trans (hb20.mono (hB1_3).size)
              have hB1_5 : Below w2.heap.size w2 w22 := (hB1_4).trans (hb22.mono (hB1_4).size)
              have hB1_6 : Below w2.heap.size w2 w32 := (hB1_5).trans (hb32.mono (hB1_5).size)
              have hk45 := (((hk26).below hb32).below hb33).grown hg34 (fun e => absurd (Option.some.inj e) (Nat.ne_of_lt (Nat.lt_of_lt_of_le hz2 (Nat.le_trans (hB1_6).size (Nat.le_refl _)))))
              refine Eng.sv rfl rfl (Eng.x_ld1 (v := (.int .i64 l)) rfl ag3_tg rfl ((hk45).cell 1)) ?_
              refine Eng.sv rfl rfl (Eng.x_ne (r := false) rfl rfl rfl (Eng.ne_f (by omega))) ?_
              refine Eng.sv rfl rfl (Eng.x_mv (v := (.bool false)) rfl rfl) ?_
              refine Eng.sv (Eng.gt rfl rfl rfl rfl) rfl (Eng.x_fa (v := (.pointer (some ⟨w32.heap.size, 2, none⟩))) rfl rfl (by kernel_rfl)) ?_
              refine Eng.sv (Eng.gt rfl rfl rfl rfl) rfl (Eng.x_ld1 (v := (.int .i64 ((oS n a c / 2 ^ n : Nat) : Int))) rfl ag3_tg rfl ((hk34).cell 2)) ?_
              refine Eng.sv (Eng.gt rfl rfl rfl rfl) rfl (Eng.x_fa (v := (.pointer (some ⟨w.heap.size, 2, none⟩))) rfl rfl (by kernel_rfl)) ?_
              refine Eng.sv (Eng.gt rfl rfl rfl rfl) rfl (Eng.x_ld1 (v := (.int .i64 i)) rfl ag3_tg rfl ((hk45).cell 2)) ?_
              refine Eng.sv (Eng.gt rfl rfl rfl rfl) rfl (Eng.x_ne (r := false) rfl rfl rfl (Eng.ne_f (by omega))) ?_
              refine Eng.sv rfl rfl (Eng.x_pick (v := (.bool false)) rfl rfl rfl rfl rfl) ?_
              refine Eng.sv rfl rfl (Eng.x_mv (v := (.bool false)) rfl rfl) ?_
              refine Eng.sv (Eng.gt rfl rfl rfl rfl) rfl (Eng.x_mv (v := (.int .i64 (oT n a c : Int))) rfl rfl) ?_
              refine Eng.sv (Eng.gt rfl rfl rfl rfl) rfl (Eng.x_fa (v := (.pointer (some ⟨w.heap.size, 3, none⟩))) rfl rfl (by kernel_rfl)) ?_
              refine Eng.sv (Eng.gt rfl rfl rfl rfl) rfl (Eng.x_ld1 (v := (.int .i64 x)) rfl ag3_tg rfl ((hk45).cell 3)) ?_
              refine Eng.sv (Eng.gt rfl rfl rfl rfl) rfl (Eng.x_gt (r := true) rfl rfl rfl (decide_eq_true (by omega))) ?_
              refine Eng.sv rfl rfl (Eng.x_pick (v := (.bool true)) rfl rfl rfl rfl rfl) ?_
              refine Eng.nil ?_
              refine hK36 _ _ ?_
              refine Eng.cond_t rfl ?_
              refine Eng.seqk fun K46 hK46 => ?_
              refine Eng.reg ?_
              refine Eng.sv rfl rfl (Eng.x_build (ps := []) (v := (dg Oct.dz)) rfl rfl (by kernel_rfl)) ?_
              have hB3_5 : Below w4.heap.size w4 w22 := (hb20).trans (hb22.mono (hb20).size)
              have hB3_6 : Below w4.heap.size w4 w32 := (hB3_5).trans (hb32.mono (hB3_5).size)
              have hk47 := (((((hk4).below hb20).below hb22).below hb32).below hb33).grown hg34 (fun e => absurd (Option.some.inj e) (Nat.ne_of_lt (Nat.lt_of_lt_of_le hz4 (Nat.le_trans (hB3_6).size (Nat.le_refl _)))))
              refine Eng.stB (v := (dg Oct.dz)) rfl rfl rfl sz24_tg rfl hk47 rfl rfl (cs' := (bcs Oct.dz)) rfl rfl (bcs_one _) ?_
              intro w48 hk48 hg48
              refine Eng.sv rfl rfl (Eng.x_as (v := (.int .i64 40)) rfl rfl) ?_
              refine Eng.nil ?_
              refine hK46 _ _ ?_
              refine Eng.rt ?_
              refine Eng.tr ?_
              refine Eng.ret (Eng.res2 (v1 := (dg Oct.dz)) (v2 := (.int .i64 40)) rfl (Eng.rdc rfl (Eng.lvB ag24_tg sz24_tg hk48 rfl rfl)) (Eng.rdt rfl)) ?_
              have hB0_6 : Below w.heap.size w w32 := (hB0_5).trans (hb32.mono (hB0_5).size)
              have hB0_7 : Below w.heap.size w w33 := (hB0_6).trans (hb33.mono (hB0_6).size)
              have hB0_8 : Below w.heap.size w w34 := (hB0_7).grown hg34 (hB0_7).size (fun k e => by cases e; exact Nat.le_trans (hB0_6).size (Nat.le_refl _))
              have hB0_9 : Below w.heap.size w w48 := (hB0_8).grown hg48 (hB0_8).size (fun k e => by cases e; exact Nat.le_trans (hB0_2).size (Nat.le_refl _))
              exact ⟨by rw [dg_out ht1 hn1 (by omega) e1 e2 e3 (.inr (.inr r2))], hB0_9⟩
            · skip
              refine Eng.reg ?_
              refine Eng.sv rfl rfl (Eng.x_fa (v := (.pointer (some ⟨w32.heap.size, 1, none⟩))) rfl rfl (by kernel_rfl)) ?_
              refine Eng.sv rfl rfl (Eng.x_ld1 (v := (.int .i64 ((a / n : Nat) : Int))) rfl ag3_tg rfl ((hk34).cell 1)) ?_
              refine Eng.sv rfl rfl (Eng.x_fa (v := (.pointer (some ⟨w.heap.size, 1, none⟩))) rfl rfl (by kernel_rfl)) ?_
              have hB1_3 : Below w2.heap.size w2 w4 := (hb3).trans (hb4.mono (hb3).size)
              have hB1_4 : Below w2.heap.size w2 w20 := (hB1_3).trans (hb20.mono (hB1_3).size)
              have hB1_5 : Below w2.heap.size w2 w22 := (hB1_4).trans (hb22.mono (hB1_4).size)
              have hB1_6 : Below w2.heap.size w2 w32 := (hB1_5).trans (hb32.mono (hB1_5).size)
              have hk49 := (((hk26).below hb32).below hb33).grown hg34 (fun e => absurd (Option.some.inj e) (Nat.ne_of_lt (Nat.lt_of_lt_of_le hz2 (Nat.le_trans (hB1_6).size (Nat.le_refl _)))))
              refine Eng.sv rfl rfl (Eng.x_ld1 (v := (.int .i64 l)) rfl ag3_tg rfl ((hk49).cell 1)) ?_
              refine Eng.sv rfl rfl (Eng.x_ne (r := false) rfl rfl rfl (Eng.ne_f (by omega))) ?_
              refine Eng.sv rfl rfl (Eng.x_mv (v := (.bool false)) rfl rfl) ?_
              refine Eng.sv (Eng.gt rfl rfl rfl rfl) rfl (Eng.x_fa (v := (.pointer (some ⟨w32.heap.size, 2, none⟩))) rfl rfl (by kernel_rfl)) ?_
              refine Eng.sv (Eng.gt rfl rfl rfl rfl) rfl (Eng.x_ld1 (v := (.int .i64 ((oS n a c / 2 ^ n : Nat) : Int))) rfl ag3_tg rfl ((hk34).cell 2)) ?_
              refine Eng.sv (Eng.gt rfl rfl rfl rfl) rfl (Eng.x_fa (v := (.pointer (some ⟨w.heap.size, 2, none⟩))) rfl rfl (by kernel_rfl)) ?_
              refine Eng.sv (Eng.gt rfl rfl rfl rfl) rfl (Eng.x_ld1 (v := (.int .i64 i)) rfl ag3_tg rfl ((hk49).cell 2)) ?_
              refine Eng.sv (Eng.gt rfl rfl rfl rfl) rfl (Eng.x_ne (r := false) rfl rfl rfl (Eng.ne_f (by omega))) ?_
              refine Eng.sv rfl rfl (Eng.x_pick (v := (.bool false)) rfl rfl rfl rfl rfl) ?_
              refine Eng.sv rfl rfl (Eng.x_mv (v := (.bool false)) rfl rfl) ?_
              refine Eng.sv (Eng.gt rfl rfl rfl rfl) rfl (Eng.x_mv (v := (.int .i64 (oT n a c : Int))) rfl rfl) ?_
              refine Eng.sv (Eng.gt rfl rfl rfl rfl) rfl (Eng.x_fa (v := (.pointer (some ⟨w.heap.size, 3, none⟩))) rfl rfl (by kernel_rfl)) ?_
              refine Eng.sv (Eng.gt rfl rfl rfl rfl) rfl (Eng.x_ld1 (v := (.int .i64 x)) rfl ag3_tg rfl ((hk49).cell 3)) ?_
              refine Eng.sv (Eng.gt rfl rfl rfl rfl) rfl (Eng.x_gt (r := false) rfl rfl rfl (decide_eq_false (by omega))) ?_
              refine Eng.sv rfl rfl (Eng.x_pick (v := (.bool false)) rfl rfl rfl rfl rfl) ?_
              refine Eng.nil ?_
              refine hK36 _ _ ?_
              refine Eng.cond_f rfl ?_
              refine Eng.skp ?_
              refine hK35 _ _ ?_
              refine Eng.seqk fun K50 hK50 => ?_
              refine Eng.reg ?_
              refine Eng.sv rfl rfl (Eng.x_mv (v := v) rfl rfl) ?_
              refine Eng.sv rfl rfl (Eng.x_mv (v := (.int .i64 (oF n a c : Int))) rfl rfl) ?_
              refine Eng.sv rfl rfl (Eng.x_mul rfl rfl rfl (Eng.w64 (r := ((32 * oF n a c : Nat) : Int)) (by omega))) ?_
              refine Eng.sv rfl rfl (Eng.x_mv (v := (.int .i64 (oT n a c : Int))) rfl rfl) ?_
              refine Eng.sv rfl rfl (Eng.x_mul rfl rfl rfl (Eng.w64 (r := ((32 * oT n a c : Nat) : Int)) (by omega))) ?_
              have hB0_6 : Below w.heap.size w w32 := (hB0_5).trans (hb32.mono (hB0_5).size)
              have hB0_7 : Below w.heap.size w w33 := (hB0_6).trans (hb33.mono (hB0_6).size)
              have hB0_8 : Below w.heap.size w w34 := (hB0_7).grown hg34 (hB0_7).size (fun k e => by cases e; exact Nat.le_trans (hB0_6).size (Nat.le_refl _))
              have hr51 := (hb).below hB0_8
              have hq52 : Rd w (Eng.sCut v (32 * oF n a c) (32 * oT n a c) 1) (((b).drop (32 * oF n a c)).take ((32 * oT n a c) - (32 * oF n a c))) := (Eng.rd_cut (hb).1 (by omega) (by omega))
              refine Eng.sv rfl rfl (Eng.x_sl (v := v) rfl Tryd.underlying22 sz5_tg rfl (hr51).1 (32 * oF n a c) (32 * oT n a c) (Eng.bd (k := .i64) rfl) (Eng.bd (k := .i64) rfl) (by omega) (by omega)) ?_
              have hr53 := (hq52).below hB0_8
              refine Eng.sc rfl (Eng.xc (vl := [(Eng.sCut v (32 * oF n a c) (32 * oT n a c) 1)]) rfl rfl rfl en102_tg) (pdigs_calls (Eng.sCut v (32 * oF n a c) (32 * oT n a c) 1) (((b).drop (32 * oF n a c)).take ((32 * oT n a c) - (32 * oF n a c))) _ ⟨hr53, by have := hb.2; simp only [List.length_take, List.length_drop]; show _ ≤ _; omega⟩) ?_
              rintro _ w54 ⟨vx54, rfl, ho54, hb54⟩
              refine Eng.aft_v rfl ?_
              have hB0_9 : Below w.heap.size w w54 := (hB0_8).trans (hb54.mono (hB0_8).size)
              have hr55 := (hKn).below hB0_9
              refine Eng.sc rfl (Eng.xc (vl := [vx54]) rfl rfl rfl en21_tg) (troot_calls _ (dL (((b).drop (32 * oF n a c)).take ((32 * oT n a c) - (32 * oF n a c))) ((((b).drop (32 * oF n a c)).take ((32 * oT n a c) - (32 * oF n a c))).length / 32)) _ (ho54).ds (by simp only [List.length_take, List.length_drop, dL_length]; omega) hr55) ?_
              rintro _ w56 ⟨rfl, hb56⟩
              refine Eng.aft_v rfl ?_
              have hB3_5 : Below w4.heap.size w4 w22 := (hb20).trans (hb22.mono (hb20).size)
              have hB3_6 : Below w4.heap.size w4 w32 := (hB3_5).trans (hb32.mono (hB3_5).size)
              have hk57 := (((((((hk4).below hb20).below hb22).below hb32).below hb33).grown hg34 (fun e => absurd (Option.some.inj e) (Nat.ne_of_lt (Nat.lt_of_lt_of_le hz4 (Nat.le_trans (hB3_6).size (Nat.le_refl _)))))).below hb54).below hb56
              refine Eng.stB (v := (dg (rootS (dL (((b).drop (32 * oF n a c)).take ((32 * oT n a c) - (32 * oF n a c))) ((((b).drop (32 * oF n a c)).take ((32 * oT n a c) - (32 * oF n a c))).length / 32))))) rfl rfl rfl sz24_tg rfl hk57 rfl rfl (cs' := (bcs (rootS (dL (((b).drop (32 * oF n a c)).take ((32 * oT n a c) - (32 * oF n a c))) ((((b).drop (32 * oF n a c)).take ((32 * oT n a c) - (32 * oF n a c))).length / 32))))) rfl ((bcs_length _).trans (rootS_len _ ((ho54).ds).2 (by simp only [List.length_take, List.length_drop, dL_length]; omega))) (bcs_one _) ?_
              intro w58 hk58 hg58
              refine Eng.sv rfl rfl (Eng.x_as (v := (.int .i64 0)) rfl rfl) ?_
              refine Eng.nil ?_
              refine hK50 _ _ ?_
              refine Eng.rt ?_
              refine Eng.ret (Eng.res2 (v1 := (dg (rootS (dL (((b).drop (32 * oF n a c)).take ((32 * oT n a c) - (32 * oF n a c))) ((((b).drop (32 * oF n a c)).take ((32 * oT n a c) - (32 * oF n a c))).length / 32))))) (v2 := (.int .i64 0)) rfl (Eng.rdc rfl (Eng.lvB ag24_tg sz24_tg hk58 ((bcs_length _).trans (rootS_len _ ((ho54).ds).2 (by simp only [List.length_take, List.length_drop, dL_length]; omega))) rfl)) (Eng.rdt rfl)) ?_
              have hB0_10 : Below w.heap.size w w56 := (hB0_9).trans (hb56.mono (hB0_9).size)
              have hB0_11 : Below w.heap.size w w58 := (hB0_10).grown hg58 (hB0_10).size (fun k e => by cases e; exact Nat.le_trans (hB0_2).size (Nat.le_refl _))
              exact ⟨by rw [dg_ok ht1 hn1 (by omega) e1 e2 e3 (by omega) (by omega) r2, dL_cut hft (by omega)], hB0_11⟩
set_option maxRecDepth 100000 in
set_option maxHeartbeats 4000000 in
theorem rdigest_calls (h l i x nl ni : Int) (v : Value) (b : List UInt8) (w : World) (hb : Bs w v b) : Calls Tryd.prog 46 #[(.agg #[(.int .i64 h), (.int .i64 l), (.int .i64 i), (.int .i64 x)]), v, (.agg #[(.int .i64 nl), (.int .i64 ni)])] w (fun e w' => e = .returned (.tuple #[dg (digOf h l i x nl ni b).1, .int .i64 (digOf h l i x nl ni b).2]) ∧ Below w.heap.size w w') := by
  have hbl := hb.2
  refine Eng.enter (l := [(.agg #[(.int .i64 h), (.int .i64 l), (.int .i64 i), (.int .i64 x)]), v, (.agg #[(.int .i64 nl), (.int .i64 ni)])]) Tryd.func46 rfl 61 rfl (by simp) ?_
  refine Eng.seqk fun K1 hK1 => ?_
  refine Eng.reg ?_
  refine Eng.bo (v := (.agg #[(.int .i64 h), (.int .i64 l), (.int .i64 i), (.int .i64 x)])) (cs := [(.int .i64 h), (.int .i64 l), (.int .i64 i), (.int .i64 x)]) rfl rfl rfl rfl rfl ?_
  intro w2 hk2 hb2 hz2
  refine Eng.bo (v := (.agg #[(.int .i64 nl), (.int .i64 ni)])) (cs := [(.int .i64 nl), (.int .i64 ni)]) rfl rfl rfl rfl rfl ?_
  intro w3 hk3 hb3 hz3
  refine Eng.al rfl rfl rfl zr24_tg (cs := (bcs Oct.dz)) rfl ?_
  intro w4 hk4 hb4 hz4
  refine Eng.sv rfl rfl (Eng.x_as (v := (.int .i64 0)) rfl rfl) ?_
  refine Eng.nil ?_
  refine hK1 _ _ ?_
  refine Eng.seqk fun K5 hK5 => ?_
  by_cases z0 : (ht h && nv nl ni) = false
  · skip
    refine Eng.reg ?_
    refine Eng.sv rfl rfl (Eng.x_fa (v := (.pointer (some ⟨w.heap.size, 0, none⟩))) rfl rfl (by kernel_rfl)) ?_
    have hk6 := ((hk2).below hb3).below hb4
    refine Eng.sv rfl rfl (Eng.x_ld1 (v := (.int .i64 h)) rfl ag3_tg rfl ((hk6).cell 0)) ?_
    have hk7 := (hk3).below hb4
    refine Eng.sv rfl rfl (Eng.x_ldB (v := (.agg #[(.int .i64 nl), (.int .i64 ni)])) rfl ag84_tg sz84_tg rfl hk7 rfl rfl) ?_
    refine Eng.sc rfl (Eng.xc (vl := [(.int .i64 h), (.agg #[(.int .i64 nl), (.int .i64 ni)])]) rfl rfl rfl en103_tg) (rof_no h nl ni z0 _) ?_
    rintro _ w8 ⟨rfl, hb8⟩
    refine Eng.aft_v rfl ?_
    refine Eng.sv rfl rfl (Eng.x_mv (v := (.tuple #[(.agg #[(.int .i64 0), (.int .i64 0), (.int .i64 0), (.int .i64 0)]), (.int .i64 0), (.int .i64 0), (.int .i64 2)])) rfl rfl) ?_
    refine Eng.sv rfl rfl (Eng.x_ext (v := (.agg #[(.int .i64 0), (.int .i64 0), (.int .i64 0), (.int .i64 0)])) rfl rfl rfl) ?_
    refine Eng.sv rfl rfl (Eng.x_ext (v := (.int .i64 0)) rfl rfl rfl) ?_
    refine Eng.sv rfl rfl (Eng.x_ext (v := (.int .i64 0)) rfl rfl rfl) ?_
    refine Eng.sv rfl rfl (Eng.x_ext (v := (.int .i64 2)) rfl rfl rfl) ?_
    refine Eng.al rfl rfl rfl zr82_tg (cs := [(.int .i64 0), (.int .i64 0), (.int .i64 0), (.int .i64 0)]) rfl ?_
    intro w9 hk9 hb9 hz9
    refine Eng.stB (v := (.agg #[(.int .i64 0), (.int .i64 0), (.int .i64 0), (.int .i64 0)])) rfl rfl rfl sz82_tg rfl hk9 rfl rfl (cs' := [(.int .i64 0), (.int .i64 0), (.int .i64 0), (.int .i64 0)]) rfl rfl (Eng.one_cons rfl (Eng.one_cons rfl (Eng.one_cons rfl (Eng.one_cons rfl Eng.one_nil)))) ?_
    intro w10 hk10 hg10
    refine Eng.sv rfl rfl (Eng.x_as (v := (.int .i64 0)) rfl rfl) ?_
    refine Eng.sv rfl rfl (Eng.x_as (v := (.int .i64 0)) rfl rfl) ?_
    refine Eng.sv rfl rfl (Eng.x_as (v := (.int .i64 2)) rfl rfl) ?_
    refine Eng.nil ?_
    refine hK5 _ _ ?_
    refine Eng.seqk fun K11 hK11 => ?_
    refine Eng.seqk fun K12 hK12 => ?_
    by_cases q0 : tv h l i x = false
    · skip
      refine Eng.reg ?_
      have hB1_3 : Below w2.heap.size w2 w4 := (hb3).trans (hb4.mono (hb3).size)
      have hB1_4 : Below w2.heap.size w2 w8 := (hB1_3).trans (hb8.mono (hB1_3).size)
      have hk13 := (((hk6).below hb8).below hb9).grown hg10 (fun e => absurd (Option.some.inj e) (Nat.ne_of_lt (Nat.lt_of_lt_of_le hz2 (Nat.le_trans (hB1_4).size (Nat.le_refl _)))))
      refine Eng.sv rfl rfl (Eng.x_ldB (v := (.agg #[(.int .i64 h), (.int .i64 l), (.int .i64 i), (.int .i64 x)])) rfl ag82_tg sz82_tg rfl hk13 rfl rfl) ?_
      refine Eng.sc rfl (Eng.xc (vl := [(.agg #[(.int .i64 h), (.int .i64 l), (.int .i64 i), (.int .i64 x)])]) rfl rfl rfl en104_tg) (rtvalid_is q0 _) ?_
      rintro _ w14 ⟨rfl, hb14⟩
      refine Eng.aft_v rfl ?_
      refine Eng.sv rfl rfl (Eng.x_not (v := (.bool true)) rfl rfl rfl) ?_
      refine Eng.sv rfl rfl (Eng.x_mv (v := (.bool true)) rfl rfl) ?_
      refine Eng.sg (Eng.gf rfl rfl rfl rfl) rfl ?_
      refine Eng.sg (Eng.gf rfl rfl rfl rfl) rfl ?_
      refine Eng.sv rfl rfl (Eng.x_pick (v := (.bool true)) rfl rfl rfl rfl rfl) ?_
      refine Eng.nil ?_
      refine hK12 _ _ ?_
      refine Eng.cond_t rfl ?_
      refine Eng.seqk fun K15 hK15 => ?_
      refine Eng.reg ?_
      refine Eng.sv rfl rfl (Eng.x_build (ps := []) (v := (dg Oct.dz)) rfl rfl (by kernel_rfl)) ?_
      have hk16 := ((((hk4).below hb8).below hb9).grown hg10 (fun e => absurd (Option.some.inj e) (Nat.ne_of_lt (Nat.lt_of_lt_of_le hz4 (Nat.le_trans (hb8).size (Nat.le_refl _)))))).below hb14
      refine Eng.stB (v := (dg Oct.dz)) rfl rfl rfl sz24_tg rfl hk16 rfl rfl (cs' := (bcs Oct.dz)) rfl rfl (bcs_one _) ?_
      intro w17 hk17 hg17
      refine Eng.sv rfl rfl (Eng.x_as (v := (.int .i64 2)) rfl rfl) ?_
      refine Eng.nil ?_
      refine hK15 _ _ ?_
      refine Eng.rt ?_
      refine Eng.tr ?_
      refine Eng.ret (Eng.res2 (v1 := (dg Oct.dz)) (v2 := (.int .i64 2)) rfl (Eng.rdc rfl (Eng.lvB ag24_tg sz24_tg hk17 rfl rfl)) (Eng.rdt rfl)) ?_
      have hB0_2 : Below w.heap.size w w3 := (hb2).trans (hb3.mono (hb2).size)
      have hB0_3 : Below w.heap.size w w4 := (hB0_2).trans (hb4.mono (hB0_2).size)
      have hB0_4 : Below w.heap.size w w8 := (hB0_3).trans (hb8.mono (hB0_3).size)
      have hB0_5 : Below w.heap.size w w9 := (hB0_4).trans (hb9.mono (hB0_4).size)
      have hB0_6 : Below w.heap.size w w10 := (hB0_5).grown hg10 (hB0_5).size (fun k e => by cases e; exact Nat.le_trans (hB0_4).size (Nat.le_refl _))
      have hB0_7 : Below w.heap.size w w14 := (hB0_6).trans (hb14.mono (hB0_6).size)
      have hB0_8 : Below w.heap.size w w17 := (hB0_7).grown hg17 (hB0_7).size (fun k e => by cases e; exact Nat.le_trans (hB0_2).size (Nat.le_refl _))
      exact ⟨by rw [dg_bad (.inl q0)], hB0_8⟩
    · skip
      have ht1 : tv h l i x = true := by simpa using q0
      obtain ⟨t1, t2, t3, t4, t5, t6⟩ := tv_yes ht1
      have hpw := pwb t1
      have q1 : nv nl ni = false := by rw [t1] at z0; simpa using z0
      refine Eng.reg ?_
      have hB1_3 : Below w2.heap.size w2 w4 := (hb3).trans (hb4.mono (hb3).size)
      have hB1_4 : Below w2.heap.size w2 w8 := (hB1_3).trans (hb8.mono (hB1_3).size)
      have hk18 := (((hk6).below hb8).below hb9).grown hg10 (fun e => absurd (Option.some.inj e) (Nat.ne_of_lt (Nat.lt_of_lt_of_le hz2 (Nat.le_trans (hB1_4).size (Nat.le_refl _)))))
      refine Eng.sv rfl rfl (Eng.x_ldB (v := (.agg #[(.int .i64 h), (.int .i64 l), (.int .i64 i), (.int .i64 x)])) rfl ag82_tg sz82_tg rfl hk18 rfl rfl) ?_
      refine Eng.sc rfl (Eng.xc (vl := [(.agg #[(.int .i64 h), (.int .i64 l), (.int .i64 i), (.int .i64 x)])]) rfl rfl rfl en104_tg) (rtvalid_is ht1 _) ?_
      rintro _ w19 ⟨rfl, hb19⟩
      refine Eng.aft_v rfl ?_
      refine Eng.sv rfl rfl (Eng.x_not (v := (.bool false)) rfl rfl rfl) ?_
      refine Eng.sv rfl rfl (Eng.x_mv (v := (.bool false)) rfl rfl) ?_
      refine Eng.sv (Eng.gt rfl rfl rfl rfl) rfl (Eng.x_mv (v := (.int .i64 2)) rfl rfl) ?_
      refine Eng.sv (Eng.gt rfl rfl rfl rfl) rfl (Eng.x_ne (r := true) rfl rfl rfl (Eng.ne_t (by decide))) ?_
      refine Eng.sv rfl rfl (Eng.x_pick (v := (.bool true)) rfl rfl rfl rfl rfl) ?_
      refine Eng.nil ?_
      refine hK12 _ _ ?_
      refine Eng.cond_t rfl ?_
      refine Eng.seqk fun K20 hK20 => ?_
      refine Eng.reg ?_
      refine Eng.sv rfl rfl (Eng.x_build (ps := []) (v := (dg Oct.dz)) rfl rfl (by kernel_rfl)) ?_
      have hk21 := ((((hk4).below hb8).below hb9).grown hg10 (fun e => absurd (Option.some.inj e) (Nat.ne_of_lt (Nat.lt_of_lt_of_le hz4 (Nat.le_trans (hb8).size (Nat.le_refl _)))))).below hb19
      refine Eng.stB (v := (dg Oct.dz)) rfl rfl rfl sz24_tg rfl hk21 rfl rfl (cs' := (bcs Oct.dz)) rfl rfl (bcs_one _) ?_
      intro w22 hk22 hg22
      refine Eng.sv rfl rfl (Eng.x_as (v := (.int .i64 2)) rfl rfl) ?_
      refine Eng.nil ?_
      refine hK20 _ _ ?_
      refine Eng.rt ?_
      refine Eng.tr ?_
      refine Eng.ret (Eng.res2 (v1 := (dg Oct.dz)) (v2 := (.int .i64 2)) rfl (Eng.rdc rfl (Eng.lvB ag24_tg sz24_tg hk22 rfl rfl)) (Eng.rdt rfl)) ?_
      have hB0_2 : Below w.heap.size w w3 := (hb2).trans (hb3.mono (hb2).size)
      have hB0_3 : Below w.heap.size w w4 := (hB0_2).trans (hb4.mono (hB0_2).size)
      have hB0_4 : Below w.heap.size w w8 := (hB0_3).trans (hb8.mono (hB0_3).size)
      have hB0_5 : Below w.heap.size w w9 := (hB0_4).trans (hb9.mono (hB0_4).size)
      have hB0_6 : Below w.heap.size w w10 := (hB0_5).grown hg10 (hB0_5).size (fun k e => by cases e; exact Nat.le_trans (hB0_4).size (Nat.le_refl _))
      have hB0_7 : Below w.heap.size w w19 := (hB0_6).trans (hb19.mono (hB0_6).size)
      have hB0_8 : Below w.heap.size w w22 := (hB0_7).grown hg22 (hB0_7).size (fun k e => by cases e; exact Nat.le_trans (hB0_2).size (Nat.le_refl _))
      exact ⟨by rw [dg_bad (.inr q1)], hB0_8⟩
  · skip
    obtain ⟨y1, y2⟩ := (Bool.and_eq_true_iff.1 (by simpa using z0) : ht h = true ∧ nv nl ni = true)
    have hn1 := y2
    obtain ⟨n, a, c, e1, e2, e3, h1, h8, ha, hc, hof, hrof⟩ := of_is y1 y2 w
    obtain ⟨b1, b2, b3, b4, b5, b6, b7, b8, b9⟩ := o_bounds h1 h8 ha hc
    have hft := oF_le n a c
    refine Eng.reg ?_
    refine Eng.sv rfl rfl (Eng.x_fa (v := (.pointer (some ⟨w.heap.size, 0, none⟩))) rfl rfl (by kernel_rfl)) ?_
    have hk23 := ((hk2).below hb3).below hb4
    refine Eng.sv rfl rfl (Eng.x_ld1 (v := (.int .i64 h)) rfl ag3_tg rfl ((hk23).cell 0)) ?_
    have hk24 := (hk3).below hb4
    refine Eng.sv rfl rfl (Eng.x_ldB (v := (.agg #[(.int .i64 nl), (.int .i64 ni)])) rfl ag84_tg sz84_tg rfl hk24 rfl rfl) ?_
    refine Eng.sc rfl (Eng.xc (vl := [(.int .i64 h), (.agg #[(.int .i64 nl), (.int .i64 ni)])]) rfl rfl rfl en103_tg) (hrof _) ?_
    rintro _ w25 ⟨rfl, hb25⟩
    refine Eng.aft_v rfl ?_
    refine Eng.sv rfl rfl (Eng.x_mv (v := (.tuple #[(.agg #[(.int .i64 (n : Int)), (.int .i64 ((a / n : Nat) : Int)), (.int .i64 ((oS n a c / 2 ^ n : Nat) : Int)), (.int .i64 (oT n a c : Int))]), (.int .i64 (oF n a c : Int)), (.int .i64 (oT n a c : Int)), (.int .i64 0)])) rfl rfl) ?_
    refine Eng.sv rfl rfl (Eng.x_ext (v := (.agg #[(.int .i64 (n : Int)), (.int .i64 ((a / n : Nat) : Int)), (.int .i64 ((oS n a c / 2 ^ n : Nat) : Int)), (.int .i64 (oT n a c : Int))])) rfl rfl rfl) ?_
    refine Eng.sv rfl rfl (Eng.x_ext (v := (.int .i64 (oF n a c : Int))) rfl rfl rfl) ?_
    refine Eng.sv rfl rfl (Eng.x_ext (v := (.int .i64 (oT n a c : Int))) rfl rfl rfl) ?_
    refine Eng.sv rfl rfl (Eng.x_ext (v := (.int .i64 0)) rfl rfl rfl) ?_
    refine Eng.al rfl rfl rfl zr82_tg (cs := [(.int .i64 0), (.int .i64 0), (.int .i64 0), (.int .i64 0)]) rfl ?_
    intro w26 hk26 hb26 hz26
    refine Eng.stB (v := (.agg #[(.int .i64 (n : Int)), (.int .i64 ((a / n : Nat) : Int)), (.int .i64 ((oS n a c / 2 ^ n : Nat) : Int)), (.int .i64 (oT n a c : Int))])) rfl rfl rfl sz82_tg rfl hk26 rfl rfl (cs' := [(.int .i64 (n : Int)), (.int .i64 ((a / n : Nat) : Int)), (.int .i64 ((oS n a c / 2 ^ n : Nat) : Int)), (.int .i64 (oT n a c : Int))]) rfl rfl (Eng.one_cons rfl (Eng.one_cons rfl (Eng.one_cons rfl (Eng.one_cons rfl Eng.one_nil)))) ?_
    intro w27 hk27 hg27
    refine Eng.sv rfl rfl (Eng.x_as (v := (.int .i64 (oF n a c : Int))) rfl rfl) ?_
    refine Eng.sv rfl rfl (Eng.x_as (v := (.int .i64 (oT n a c : Int))) rfl rfl) ?_
    refine Eng.sv rfl rfl (Eng.x_as (v := (.int .i64 0)) rfl rfl) ?_
    refine Eng.nil ?_
    refine hK5 _ _ ?_
    refine Eng.seqk fun K28 hK28 => ?_
    refine Eng.seqk fun K29 hK29 => ?_
    by_cases q0 : tv h l i x = false
    · skip
      refine Eng.reg ?_
      have hB1_3 : Below w2.heap.size w2 w4 := (hb3).trans (hb4.mono (hb3).size)
      have hB1_4 : Below w2.heap.size w2 w25 := (hB1_3).trans (hb25.mono (hB1_3).size)
      have hk30 := (((hk23).below hb25).below hb26).grown hg27 (fun e => absurd (Option.some.inj e) (Nat.ne_of_lt (Nat.lt_of_lt_of_le hz2 (Nat.le_trans (hB1_4).size (Nat.le_refl _)))))
      refine Eng.sv rfl rfl (Eng.x_ldB (v := (.agg #[(.int .i64 h), (.int .i64 l), (.int .i64 i), (.int .i64 x)])) rfl ag82_tg sz82_tg rfl hk30 rfl rfl) ?_
      refine Eng.sc rfl (Eng.xc (vl := [(.agg #[(.int .i64 h), (.int .i64 l), (.int .i64 i), (.int .i64 x)])]) rfl rfl rfl en104_tg) (rtvalid_is q0 _) ?_
      rintro _ w31 ⟨rfl, hb31⟩
      refine Eng.aft_v rfl ?_
      refine Eng.sv rfl rfl (Eng.x_not (v := (.bool true)) rfl rfl rfl) ?_
      refine Eng.sv rfl rfl (Eng.x_mv (v := (.bool true)) rfl rfl) ?_
      refine Eng.sg (Eng.gf rfl rfl rfl rfl) rfl ?_
      refine Eng.sg (Eng.gf rfl rfl rfl rfl) rfl ?_
      refine Eng.sv rfl rfl (Eng.x_pick (v := (.bool true)) rfl rfl rfl rfl rfl) ?_
      refine Eng.nil ?_
      refine hK29 _ _ ?_
      refine Eng.cond_t rfl ?_
      refine Eng.seqk fun K32 hK32 => ?_
      refine Eng.reg ?_
      refine Eng.sv rfl rfl (Eng.x_build (ps := []) (v := (dg Oct.dz)) rfl rfl (by kernel_rfl)) ?_
      have hk33 := ((((hk4).below hb25).below hb26).grown hg27 (fun e => absurd (Option.some.inj e) (Nat.ne_of_lt (Nat.lt_of_lt_of_le hz4 (Nat.le_trans (hb25).size (Nat.le_refl _)))))).below hb31
      refine Eng.stB (v := (dg Oct.dz)) rfl rfl rfl sz24_tg rfl hk33 rfl rfl (cs' := (bcs Oct.dz)) rfl rfl (bcs_one _) ?_
      intro w34 hk34 hg34
      refine Eng.sv rfl rfl (Eng.x_as (v := (.int .i64 2)) rfl rfl) ?_
      refine Eng.nil ?_
      refine hK32 _ _ ?_
      refine Eng.rt ?_
      refine Eng.tr ?_
      refine Eng.ret (Eng.res2 (v1 := (dg Oct.dz)) (v2 := (.int .i64 2)) rfl (Eng.rdc rfl (Eng.lvB ag24_tg sz24_tg hk34 rfl rfl)) (Eng.rdt rfl)) ?_
      have hB0_2 : Below w.heap.size w w3 := (hb2).trans (hb3.mono (hb2).size)
      have hB0_3 : Below w.heap.size w w4 := (hB0_2).trans (hb4.mono (hB0_2).size)
      have hB0_4 : Below w.heap.size w w25 := (hB0_3).trans (hb25.mono (hB0_3).size)
      have hB0_5 : Below w.heap.size w w26 := (hB0_4).trans (hb26.mono (hB0_4).size)
      have hB0_6 : Below w.heap.size w w27 := (hB0_5).grown hg27 (hB0_5).size (fun k e => by cases e; exact Nat.le_trans (hB0_4).size (Nat.le_refl _))
      have hB0_7 : Below w.heap.size w w31 := (hB0_6).trans (hb31.mono (hB0_6).size)
      have hB0_8 : Below w.heap.size w w34 := (hB0_7).grown hg34 (hB0_7).size (fun k e => by cases e; exact Nat.le_trans (hB0_2).size (Nat.le_refl _))
      exact ⟨by rw [dg_bad (.inl q0)], hB0_8⟩
    · skip
      have ht1 : tv h l i x = true := by simpa using q0
      obtain ⟨t1, t2, t3, t4, t5, t6⟩ := tv_yes ht1
      have hpw := pwb t1
      have hx2 : x ≤ 256 := by omega
      refine Eng.reg ?_
      have hB1_3 : Below w2.heap.size w2 w4 := (hb3).trans (hb4.mono (hb3).size)
      have hB1_4 : Below w2.heap.size w2 w25 := (hB1_3).trans (hb25.mono (hB1_3).size)
      have hk35 := (((hk23).below hb25).below hb26).grown hg27 (fun e => absurd (Option.some.inj e) (Nat.ne_of_lt (Nat.lt_of_lt_of_le hz2 (Nat.le_trans (hB1_4).size (Nat.le_refl _)))))
      refine Eng.sv rfl rfl (Eng.x_ldB (v := (.agg #[(.int .i64 h), (.int .i64 l), (.int .i64 i), (.int .i64 x)])) rfl ag82_tg sz82_tg rfl hk35 rfl rfl) ?_
      refine Eng.sc rfl (Eng.xc (vl := [(.agg #[(.int .i64 h), (.int .i64 l), (.int .i64 i), (.int .i64 x)])]) rfl rfl rfl en104_tg) (rtvalid_is ht1 _) ?_
      rintro _ w36 ⟨rfl, hb36⟩
      refine Eng.aft_v rfl ?_
      refine Eng.sv rfl rfl (Eng.x_not (v := (.bool false)) rfl rfl rfl) ?_
      refine Eng.sv rfl rfl (Eng.x_mv (v := (.bool false)) rfl rfl) ?_
      refine Eng.sv (Eng.gt rfl rfl rfl rfl) rfl (Eng.x_mv (v := (.int .i64 0)) rfl rfl) ?_
      refine Eng.sv (Eng.gt rfl rfl rfl rfl) rfl (Eng.x_ne (r := false) rfl rfl rfl (Eng.ne_f (rfl))) ?_
      refine Eng.sv rfl rfl (Eng.x_pick (v := (.bool false)) rfl rfl rfl rfl rfl) ?_
      refine Eng.nil ?_
      refine hK29 _ _ ?_
      refine Eng.cond_f rfl ?_
      refine Eng.skp ?_
      refine hK28 _ _ ?_
      refine Eng.seqk fun K37 hK37 => ?_
      refine Eng.seqk fun K38 hK38 => ?_
      refine Eng.reg ?_
      refine Eng.sv rfl rfl (Eng.x_mv (v := v) rfl rfl) ?_
      have hB0_2 : Below w.heap.size w w3 := (hb2).trans (hb3.mono (hb2).size)
      have hB0_3 : Below w.heap.size w w4 := (hB0_2).trans (hb4.mono (hB0_2).size)
      have hB0_4 : Below w.heap.size w w25 := (hB0_3).trans (hb25.mono (hB0_3).size)
      have hB0_5 : Below w.heap.size w w26 := (hB0_4).trans (hb26.mono (hB0_4).size)
      have hB0_6 : Below w.heap.size w w27 := (hB0_5).grown hg27 (hB0_5).size (fun k e => by cases e; exact Nat.le_trans (hB0_4).size (Nat.le_refl _))
      have hB0_7 : Below w.heap.size w w36 := (hB0_6).trans (hb36.mono (hB0_6).size)
      have hr39 := (hb).below hB0_7
      refine Eng.sv rfl rfl (Eng.x_len (v := v) (r := (b.length : Int)) rfl Tryd.underlying22 rfl (hr39).1 rfl) ?_
      refine Eng.sv rfl rfl (Eng.x_fa (v := (.pointer (some ⟨w.heap.size, 3, none⟩))) rfl rfl (by kernel_rfl)) ?_
      have hk40 := (hk35).below hb36
      refine Eng.sv rfl rfl (Eng.x_ld1 (v := (.int .i64 x)) rfl ag3_tg rfl ((hk40).cell 3)) ?_
      refine Eng.sv rfl rfl (Eng.x_mul rfl rfl rfl (Eng.w64 (r := (32 * x)) (by omega))) ?_
      by_cases hl : ((b.length : Int) : Int) ≠ (32 * x)
      · skip
        refine Eng.sv rfl rfl (Eng.x_ne (r := true) rfl rfl rfl (Eng.ne_t (by omega))) ?_
        refine Eng.nil ?_
        refine hK38 _ _ ?_
        refine Eng.cond_t rfl ?_
        refine Eng.seqk fun K41 hK41 => ?_
        refine Eng.reg ?_
        refine Eng.sv rfl rfl (Eng.x_build (ps := []) (v := (dg Oct.dz)) rfl rfl (by kernel_rfl)) ?_
        have hk42 := ((((hk4).below hb25).below hb26).grown hg27 (fun e => absurd (Option.some.inj e) (Nat.ne_of_lt (Nat.lt_of_lt_of_le hz4 (Nat.le_trans (hb25).size (Nat.le_refl _)))))).below hb36
        refine Eng.stB (v := (dg Oct.dz)) rfl rfl rfl sz24_tg rfl hk42 rfl rfl (cs' := (bcs Oct.dz)) rfl rfl (bcs_one _) ?_
        intro w43 hk43 hg43
        refine Eng.sv rfl rfl (Eng.x_as (v := (.int .i64 101)) rfl rfl) ?_
        refine Eng.nil ?_
        refine hK41 _ _ ?_
        refine Eng.rt ?_
        refine Eng.tr ?_
        refine Eng.ret (Eng.res2 (v1 := (dg Oct.dz)) (v2 := (.int .i64 101)) rfl (Eng.rdc rfl (Eng.lvB ag24_tg sz24_tg hk43 rfl rfl)) (Eng.rdt rfl)) ?_
        have hB0_8 : Below w.heap.size w w43 := (hB0_7).grown hg43 (hB0_7).size (fun k e => by cases e; exact Nat.le_trans (hB0_2).size (Nat.le_refl _))
        exact ⟨by rw [dg_len ht1 hn1 hl], hB0_8⟩
      · skip
        refine Eng.sv rfl rfl (Eng.x_ne (r := false) rfl rfl rfl (Eng.ne_f (by omega))) ?_
        refine Eng.nil ?_
        refine hK38 _ _ ?_
        refine Eng.cond_f rfl ?_
        refine Eng.skp ?_
        refine hK37 _ _ ?_
        refine Eng.seqk fun K44 hK44 => ?_
        refine Eng.seqk fun K45 hK45 => ?_
        by_cases r0 : ((a / n : Nat) : Int) ≠ l
        · skip
          refine Eng.reg ?_
          refine Eng.sv rfl rfl (Eng.x_fa (v := (.pointer (some ⟨w25.heap.size, 1, none⟩))) rfl rfl (by kernel_rfl)) ?_
          have hk46 := (hk27).below hb36
          refine Eng.sv rfl rfl (Eng.x_ld1 (v := (.int .i64 ((a / n : Nat) : Int))) rfl ag3_tg rfl ((hk46).cell 1)) ?_
          refine Eng.sv rfl rfl (Eng.x_fa (v := (.pointer (some ⟨w.heap.size, 1, none⟩))) rfl rfl (by kernel_rfl)) ?_
          refine Eng.sv rfl rfl (Eng.x_ld1 (v := (.int .i64 l)) rfl ag3_tg rfl ((hk40).cell 1)) ?_
          refine Eng.sv rfl rfl (Eng.x_ne (r := true) rfl rfl rfl (Eng.ne_t (by omega))) ?_
          refine Eng.sv rfl rfl (Eng.x_mv (v := (.bool true)) rfl rfl) ?_
          refine Eng.sg (Eng.gf rfl rfl rfl rfl) rfl ?_
          refine Eng.sg (Eng.gf rfl rfl rfl rfl) rfl ?_
          refine Eng.sg (Eng.gf rfl rfl rfl rfl) rfl ?_
          refine Eng.sg (Eng.gf rfl rfl rfl rfl) rfl ?_
          refine Eng.sg (Eng.gf rfl rfl rfl rfl) rfl ?_
          refine Eng.sv rfl rfl (Eng.x_pick (v := (.bool true)) rfl rfl rfl rfl rfl) ?_
          refine Eng.sv rfl rfl (Eng.x_mv (v := (.bool true)) rfl rfl) ?_
          refine Eng.sg (Eng.gf rfl rfl rfl rfl) rfl ?_
          refine Eng.sg (Eng.gf rfl rfl rfl rfl) rfl ?_
          refine Eng.sg (Eng.gf rfl rfl rfl rfl) rfl ?_
          refine Eng.sg (Eng.gf rfl rfl rfl rfl) rfl ?_
          refine Eng.sv rfl rfl (Eng.x_pick (v := (.bool true)) rfl rfl rfl rfl rfl) ?_
          refine Eng.nil ?_
          refine hK45 _ _ ?_
          refine Eng.cond_t rfl ?_
          refine Eng.seqk fun K47 hK47 => ?_
          refine Eng.reg ?_
          refine Eng.sv rfl rfl (Eng.x_build (ps := []) (v := (dg Oct.dz)) rfl rfl (by kernel_rfl)) ?_
          have hk48 := ((((hk4).below hb25).below hb26).grown hg27 (fun e => absurd (Option.some.inj e) (Nat.ne_of_lt (Nat.lt_of_lt_of_le hz4 (Nat.le_trans (hb25).size (Nat.le_refl _)))))).below hb36
          refine Eng.stB (v := (dg Oct.dz)) rfl rfl rfl sz24_tg rfl hk48 rfl rfl (cs' := (bcs Oct.dz)) rfl rfl (bcs_one _) ?_
          intro w49 hk49 hg49
          refine Eng.sv rfl rfl (Eng.x_as (v := (.int .i64 40)) rfl rfl) ?_
          refine Eng.nil ?_
          refine hK47 _ _ ?_
          refine Eng.rt ?_
          refine Eng.tr ?_
          refine Eng.ret (Eng.res2 (v1 := (dg Oct.dz)) (v2 := (.int .i64 40)) rfl (Eng.rdc rfl (Eng.lvB ag24_tg sz24_tg hk49 rfl rfl)) (Eng.rdt rfl)) ?_
          have hB0_8 : Below w.heap.size w w49 := (hB0_7).grown hg49 (hB0_7).size (fun k e => by cases e; exact Nat.le_trans (hB0_2).size (Nat.le_refl _))
          exact ⟨by rw [dg_out ht1 hn1 (by omega) e1 e2 e3 (.inl r0)], hB0_8⟩
        · skip
          by_cases r1 : ((oS n a c / 2 ^ n : Nat) : Int) ≠ i
          · skip
            refine Eng.reg ?_
            refine Eng.sv rfl rfl (Eng.x_fa (v := (.pointer (some ⟨w25.heap.size, 1, none⟩))) rfl rfl (by kernel_rfl)) ?_
            have hk50 := (hk27).below hb36
            refine Eng.sv rfl rfl (Eng.x_ld1 (v := (.int .i64 ((a / n : Nat) : Int))) rfl ag3_tg rfl ((hk50).cell 1)) ?_
            refine Eng.sv rfl rfl (Eng.x_fa (v := (.pointer (some ⟨w.heap.size, 1, none⟩))) rfl rfl (by kernel_rfl)) ?_
            refine Eng.sv rfl rfl (Eng.x_ld1 (v := (.int .i64 l)) rfl ag3_tg rfl ((hk40).cell 1)) ?_
            refine Eng.sv rfl rfl (Eng.x_ne (r := false) rfl rfl rfl (Eng.ne_f (by omega))) ?_
            refine Eng.sv rfl rfl (Eng.x_mv (v := (.bool false)) rfl rfl) ?_
            refine Eng.sv (Eng.gt rfl rfl rfl rfl) rfl (Eng.x_fa (v := (.pointer (some ⟨w25.heap.size, 2, none⟩))) rfl rfl (by kernel_rfl)) ?_
            refine Eng.sv (Eng.gt rfl rfl rfl rfl) rfl (Eng.x_ld1 (v := (.int .i64 ((oS n a c / 2 ^ n : Nat) : Int))) rfl ag3_tg rfl ((hk50).cell 2)) ?_
            refine Eng.sv (Eng.gt rfl rfl rfl rfl) rfl (Eng.x_fa (v := (.pointer (some ⟨w.heap.size, 2, none⟩))) rfl rfl (by kernel_rfl)) ?_
            refine Eng.sv (Eng.gt rfl rfl rfl rfl) rfl (Eng.x_ld1 (v := (.int .i64 i)) rfl ag3_tg rfl ((hk40).cell 2)) ?_
            refine Eng.sv (Eng.gt rfl rfl rfl rfl) rfl (Eng.x_ne (r := true) rfl rfl rfl (Eng.ne_t (by omega))) ?_
            refine Eng.sv rfl rfl (Eng.x_pick (v := (.bool true)) rfl rfl rfl rfl rfl) ?_
            refine Eng.sv rfl rfl (Eng.x_mv (v := (.bool true)) rfl rfl) ?_
            refine Eng.sg (Eng.gf rfl rfl rfl rfl) rfl ?_
            refine Eng.sg (Eng.gf rfl rfl rfl rfl) rfl ?_
            refine Eng.sg (Eng.gf rfl rfl rfl rfl) rfl ?_
            refine Eng.sg (Eng.gf rfl rfl rfl rfl) rfl ?_
            refine Eng.sv rfl rfl (Eng.x_pick (v := (.bool true)) rfl rfl rfl rfl rfl) ?_
            refine Eng.nil ?_
            refine hK45 _ _ ?_
            refine Eng.cond_t rfl ?_
            refine Eng.seqk fun K51 hK51 => ?_
            refine Eng.reg ?_
            refine Eng.sv rfl rfl (Eng.x_build (ps := []) (v := (dg Oct.dz)) rfl rfl (by kernel_rfl)) ?_
            have hk52 := ((((hk4).below hb25).below hb26).grown hg27 (fun e => absurd (Option.some.inj e) (Nat.ne_of_lt (Nat.lt_of_lt_of_le hz4 (Nat.le_trans (hb25).size (Nat.le_refl _)))))).below hb36
            refine Eng.stB (v := (dg Oct.dz)) rfl rfl rfl sz24_tg rfl hk52 rfl rfl (cs' := (bcs Oct.dz)) rfl rfl (bcs_one _) ?_
            intro w53 hk53 hg53
            refine Eng.sv rfl rfl (Eng.x_as (v := (.int .i64 40)) rfl rfl) ?_
            refine Eng.nil ?_
            refine hK51 _ _ ?_
            refine Eng.rt ?_
            refine Eng.tr ?_
            refine Eng.ret (Eng.res2 (v1 := (dg Oct.dz)) (v2 := (.int .i64 40)) rfl (Eng.rdc rfl (Eng.lvB ag24_tg sz24_tg hk53 rfl rfl)) (Eng.rdt rfl)) ?_
            have hB0_8 : Below w.heap.size w w53 := (hB0_7).grown hg53 (hB0_7).size (fun k e => by cases e; exact Nat.le_trans (hB0_2).size (Nat.le_refl _))
            exact ⟨by rw [dg_out ht1 hn1 (by omega) e1 e2 e3 (.inr (.inl r1))], hB0_8⟩
          · skip
            by_cases r2 : x < (oT n a c : Int)
            · skip
              refine Eng.reg ?_
              refine Eng.sv rfl rfl (Eng.x_fa (v := (.pointer (some ⟨w25.heap.size, 1, none⟩))) rfl rfl (by kernel_rfl)) ?_
              have hk54 := (hk27).below hb36
              refine Eng.sv rfl rfl (Eng.x_ld1 (v := (.int .i64 ((a / n : Nat) : Int))) rfl ag3_tg rfl ((hk54).cell 1)) ?_
              refine Eng.sv rfl rfl (Eng.x_fa (v := (.pointer (some ⟨w.heap.size, 1, none⟩))) rfl rfl (by kernel_rfl)) ?_
              refine Eng.sv rfl rfl (Eng.x_ld1 (v := (.int .i64 l)) rfl ag3_tg rfl ((hk40).cell 1)) ?_
              refine Eng.sv rfl rfl (Eng.x_ne (r := false) rfl rfl rfl (Eng.ne_f (by omega))) ?_
              refine Eng.sv rfl rfl (Eng.x_mv (v := (.bool false)) rfl rfl) ?_
              refine Eng.sv (Eng.gt rfl rfl rfl rfl) rfl (Eng.x_fa (v := (.pointer (some ⟨w25.heap.size, 2, none⟩))) rfl rfl (by kernel_rfl)) ?_
              refine Eng.sv (Eng.gt rfl rfl rfl rfl) rfl (Eng.x_ld1 (v := (.int .i64 ((oS n a c / 2 ^ n : Nat) : Int))) rfl ag3_tg rfl ((hk54).cell 2)) ?_
              refine Eng.sv (Eng.gt rfl rfl rfl rfl) rfl (Eng.x_fa (v := (.pointer (some ⟨w.heap.size, 2, none⟩))) rfl rfl (by kernel_rfl)) ?_
              refine Eng.sv (Eng.gt rfl rfl rfl rfl) rfl (Eng.x_ld1 (v := (.int .i64 i)) rfl ag3_tg rfl ((hk40).cell 2)) ?_
              refine Eng.sv (Eng.gt rfl rfl rfl rfl) rfl (Eng.x_ne (r := false) rfl rfl rfl (Eng.ne_f (by omega))) ?_
              refine Eng.sv rfl rfl (Eng.x_pick (v := (.bool false)) rfl rfl rfl rfl rfl) ?_
              refine Eng.sv rfl rfl (Eng.x_mv (v := (.bool false)) rfl rfl) ?_
              refine Eng.sv (Eng.gt rfl rfl rfl rfl) rfl (Eng.x_mv (v := (.int .i64 (oT n a c : Int))) rfl rfl) ?_
              refine Eng.sv (Eng.gt rfl rfl rfl rfl) rfl (Eng.x_fa (v := (.pointer (some ⟨w.heap.size, 3, none⟩))) rfl rfl (by kernel_rfl)) ?_
              refine Eng.sv (Eng.gt rfl rfl rfl rfl) rfl (Eng.x_ld1 (v := (.int .i64 x)) rfl ag3_tg rfl ((hk40).cell 3)) ?_
              refine Eng.sv (Eng.gt rfl rfl rfl rfl) rfl (Eng.x_gt (r := true) rfl rfl rfl (decide_eq_true (by omega))) ?_
              refine Eng.sv rfl rfl (Eng.x_pick (v := (.bool true)) rfl rfl rfl rfl rfl) ?_
              refine Eng.nil ?_
              refine hK45 _ _ ?_
              refine Eng.cond_t rfl ?_
              refine Eng.seqk fun K55 hK55 => ?_
              refine Eng.reg ?_
              refine Eng.sv rfl rfl (Eng.x_build (ps := []) (v := (dg Oct.dz)) rfl rfl (by kernel_rfl)) ?_
              have hk56 := ((((hk4).below hb25).below hb26).grown hg27 (fun e => absurd (Option.some.inj e) (Nat.ne_of_lt (Nat.lt_of_lt_of_le hz4 (Nat.le_trans (hb25).size (Nat.le_refl _)))))).below hb36
              refine Eng.stB (v := (dg Oct.dz)) rfl rfl rfl sz24_tg rfl hk56 rfl rfl (cs' := (bcs Oct.dz)) rfl rfl (bcs_one _) ?_
              intro w57 hk57 hg57
              refine Eng.sv rfl rfl (Eng.x_as (v := (.int .i64 40)) rfl rfl) ?_
              refine Eng.nil ?_
              refine hK55 _ _ ?_
              refine Eng.rt ?_
              refine Eng.tr ?_
              refine Eng.ret (Eng.res2 (v1 := (dg Oct.dz)) (v2 := (.int .i64 40)) rfl (Eng.rdc rfl (Eng.lvB ag24_tg sz24_tg hk57 rfl rfl)) (Eng.rdt rfl)) ?_
              have hB0_8 : Below w.heap.size w w57 := (hB0_7).grown hg57 (hB0_7).size (fun k e => by cases e; exact Nat.le_trans (hB0_2).size (Nat.le_refl _))
              exact ⟨by rw [dg_out ht1 hn1 (by omega) e1 e2 e3 (.inr (.inr r2))], hB0_8⟩
            · skip
              refine Eng.reg ?_
              refine Eng.sv rfl rfl (Eng.x_fa (v := (.pointer (some ⟨w25.heap.size, 1, none⟩))) rfl rfl (by kernel_rfl)) ?_
              have hk58 := (hk27).below hb36
              refine Eng.sv rfl rfl (Eng.x_ld1 (v := (.int .i64 ((a / n : Nat) : Int))) rfl ag3_tg rfl ((hk58).cell 1)) ?_
              refine Eng.sv rfl rfl (Eng.x_fa (v := (.pointer (some ⟨w.heap.size, 1, none⟩))) rfl rfl (by kernel_rfl)) ?_
              refine Eng.sv rfl rfl (Eng.x_ld1 (v := (.int .i64 l)) rfl ag3_tg rfl ((hk40).cell 1)) ?_
              refine Eng.sv rfl rfl (Eng.x_ne (r := false) rfl rfl rfl (Eng.ne_f (by omega))) ?_
              refine Eng.sv rfl rfl (Eng.x_mv (v := (.bool false)) rfl rfl) ?_
              refine Eng.sv (Eng.gt rfl rfl rfl rfl) rfl (Eng.x_fa (v := (.pointer (some ⟨w25.heap.size, 2, none⟩))) rfl rfl (by kernel_rfl)) ?_
              refine Eng.sv (Eng.gt rfl rfl rfl rfl) rfl (Eng.x_ld1 (v := (.int .i64 ((oS n a c / 2 ^ n : Nat) : Int))) rfl ag3_tg rfl ((hk58).cell 2)) ?_
              refine Eng.sv (Eng.gt rfl rfl rfl rfl) rfl (Eng.x_fa (v := (.pointer (some ⟨w.heap.size, 2, none⟩))) rfl rfl (by kernel_rfl)) ?_
              refine Eng.sv (Eng.gt rfl rfl rfl rfl) rfl (Eng.x_ld1 (v := (.int .i64 i)) rfl ag3_tg rfl ((hk40).cell 2)) ?_
              refine Eng.sv (Eng.gt rfl rfl rfl rfl) rfl (Eng.x_ne (r := false) rfl rfl rfl (Eng.ne_f (by omega))) ?_
              refine Eng.sv rfl rfl (Eng.x_pick (v := (.bool false)) rfl rfl rfl rfl rfl) ?_
              refine Eng.sv rfl rfl (Eng.x_mv (v := (.bool false)) rfl rfl) ?_
              refine Eng.sv (Eng.gt rfl rfl rfl rfl) rfl (Eng.x_mv (v := (.int .i64 (oT n a c : Int))) rfl rfl) ?_
              refine Eng.sv (Eng.gt rfl rfl rfl rfl) rfl (Eng.x_fa (v := (.pointer (some ⟨w.heap.size, 3, none⟩))) rfl rfl (by kernel_rfl)) ?_
              refine Eng.sv (Eng.gt rfl rfl rfl rfl) rfl (Eng.x_ld1 (v := (.int .i64 x)) rfl ag3_tg rfl ((hk40).cell 3)) ?_
              refine Eng.sv (Eng.gt rfl rfl rfl rfl) rfl (Eng.x_gt (r := false) rfl rfl rfl (decide_eq_false (by omega))) ?_
              refine Eng.sv rfl rfl (Eng.x_pick (v := (.bool false)) rfl rfl rfl rfl rfl) ?_
              refine Eng.nil ?_
              refine hK45 _ _ ?_
              refine Eng.cond_f rfl ?_
              refine Eng.skp ?_
              refine hK44 _ _ ?_
              refine Eng.seqk fun K59 hK59 => ?_
              refine Eng.reg ?_
              refine Eng.sv rfl rfl (Eng.x_mv (v := v) rfl rfl) ?_
              refine Eng.sc rfl (Eng.xc (vl := [v]) rfl rfl rfl en106_tg) (rdigs_calls v b _ ⟨(hr39).1, by have := hb.2; show _ ≤ _; omega⟩) ?_
              rintro _ w60 ⟨vx60, rfl, ho60, hb60⟩
              refine Eng.aft_v rfl ?_
              refine Eng.sv rfl rfl (Eng.x_mv (v := (.int .i64 (oF n a c : Int))) rfl rfl) ?_
              refine Eng.sv rfl rfl (Eng.x_mv (v := (.int .i64 (oT n a c : Int))) rfl rfl) ?_
              have hq61 : Dsl.Ds w60 (Eng.sCut vx60 (oF n a c) (oT n a c) 32) (((dL b (b.length / 32)).drop (oF n a c)).take ((oT n a c) - (oF n a c))) := (Eng.ds_cut (ho60).ds (by omega) (by rw [dL_length]; omega))
              refine Eng.sv rfl rfl (Eng.x_sl (v := vx60) rfl Tryd.underlying29 sz24_tg rfl (ho60).row (oF n a c) (oT n a c) (Eng.bd (k := .i64) rfl) (Eng.bd (k := .i64) rfl) (by omega) (by rw [dL_length]; omega)) ?_
              refine Eng.sc rfl (Eng.xc (vl := [(Eng.sCut vx60 (oF n a c) (oT n a c) 32)]) rfl rfl rfl en105_tg) (root4_calls _ _ (((dL b (b.length / 32)).drop (oF n a c)).take ((oT n a c) - (oF n a c))) _ hq61 rfl (by simp only [List.length_take, List.length_drop, dL_length]; omega)) ?_
              rintro _ w62 ⟨rfl, hb62⟩
              refine Eng.aft_v rfl ?_
              have hk63 := ((((((hk4).below hb25).below hb26).grown hg27 (fun e => absurd (Option.some.inj e) (Nat.ne_of_lt (Nat.lt_of_lt_of_le hz4 (Nat.le_trans (hb25).size (Nat.le_refl _)))))).below hb36).below hb60).below hb62
              refine Eng.stB (v := (dg (rootS (((dL b (b.length / 32)).drop (oF n a c)).take ((oT n a c) - (oF n a c)))))) rfl rfl rfl sz24_tg rfl hk63 rfl rfl (cs' := (bcs (rootS (((dL b (b.length / 32)).drop (oF n a c)).take ((oT n a c) - (oF n a c)))))) rfl ((bcs_length _).trans (rootS_len _ hq61.2 (by simp only [List.length_take, List.length_drop, dL_length]; omega))) (bcs_one _) ?_
              intro w64 hk64 hg64
              refine Eng.sv rfl rfl (Eng.x_as (v := (.int .i64 0)) rfl rfl) ?_
              refine Eng.nil ?_
              refine hK59 _ _ ?_
              refine Eng.rt ?_
              refine Eng.ret (Eng.res2 (v1 := (dg (rootS (((dL b (b.length / 32)).drop (oF n a c)).take ((oT n a c) - (oF n a c)))))) (v2 := (.int .i64 0)) rfl (Eng.rdc rfl (Eng.lvB ag24_tg sz24_tg hk64 ((bcs_length _).trans (rootS_len _ hq61.2 (by simp only [List.length_take, List.length_drop, dL_length]; omega))) rfl)) (Eng.rdt rfl)) ?_
              have hB0_8 : Below w.heap.size w w60 := (hB0_7).trans (hb60.mono (hB0_7).size)
              have hB0_9 : Below w.heap.size w w62 := (hB0_8).trans (hb62.mono (hB0_8).size)
              have hB0_10 : Below w.heap.size w w64 := (hB0_9).grown hg64 (hB0_9).size (fun k e => by cases e; exact Nat.le_trans (hB0_2).size (Nat.le_refl _))
              exact ⟨by rw [dg_ok ht1 hn1 (by omega) e1 e2 e3 (by omega) (by omega) r2], hB0_10⟩
set_option maxRecDepth 100000 in
set_option maxHeartbeats 4000000 in
theorem troott_calls (h l i x : Int) (v : Value) (b : List UInt8) (w : World) (hb : Bs w v b) (hKn : Kon w) : Calls Tryd.prog 47 #[(.agg #[(.int .i64 h), (.int .i64 l), (.int .i64 i), (.int .i64 x)]), v] w (fun e w' => e = .returned (.tuple #[dg (rotOf h l i x b).1, .int .i64 (rotOf h l i x b).2]) ∧ Below w.heap.size w w') := by
  have hbl := hb.2
  refine Eng.enter (l := [(.agg #[(.int .i64 h), (.int .i64 l), (.int .i64 i), (.int .i64 x)]), v]) Tryd.func47 rfl 22 rfl (by simp) ?_
  refine Eng.seqk fun K1 hK1 => ?_
  refine Eng.reg ?_
  refine Eng.bo (v := (.agg #[(.int .i64 h), (.int .i64 l), (.int .i64 i), (.int .i64 x)])) (cs := [(.int .i64 h), (.int .i64 l), (.int .i64 i), (.int .i64 x)]) rfl rfl rfl rfl rfl ?_
  intro w2 hk2 hb2 hz2
  refine Eng.al rfl rfl rfl zr24_tg (cs := (bcs Oct.dz)) rfl ?_
  intro w3 hk3 hb3 hz3
  refine Eng.sv rfl rfl (Eng.x_as (v := (.int .i64 0)) rfl rfl) ?_
  refine Eng.nil ?_
  refine hK1 _ _ ?_
  refine Eng.seqk fun K4 hK4 => ?_
  refine Eng.blk ?_
  refine Eng.seqk fun K5 hK5 => ?_
  by_cases q0 : tv h l i x = false
  · skip
    refine Eng.reg ?_
    have hk6 := (hk2).below hb3
    refine Eng.sv rfl rfl (Eng.x_ldB (v := (.agg #[(.int .i64 h), (.int .i64 l), (.int .i64 i), (.int .i64 x)])) rfl ag82_tg sz82_tg rfl hk6 rfl rfl) ?_
    refine Eng.sc rfl (Eng.xc (vl := [(.agg #[(.int .i64 h), (.int .i64 l), (.int .i64 i), (.int .i64 x)])]) rfl rfl rfl en99_tg) (tvalid_is q0 _) ?_
    rintro _ w7 ⟨rfl, hb7⟩
    refine Eng.aft_v rfl ?_
    refine Eng.sv rfl rfl (Eng.x_not (v := (.bool true)) rfl rfl rfl) ?_
    refine Eng.sv rfl rfl (Eng.x_as (v := (.bool true)) rfl rfl) ?_
    refine Eng.nil ?_
    refine hK5 _ _ ?_
    refine Eng.cond_t rfl ?_
    refine Eng.seqk fun K8 hK8 => ?_
    refine Eng.reg ?_
    refine Eng.sv rfl rfl (Eng.x_build (ps := []) (v := (dg Oct.dz)) rfl rfl (by kernel_rfl)) ?_
    have hk9 := (hk3).below hb7
    refine Eng.stB (v := (dg Oct.dz)) rfl rfl rfl sz24_tg rfl hk9 rfl rfl (cs' := (bcs Oct.dz)) rfl rfl (bcs_one _) ?_
    intro w10 hk10 hg10
    refine Eng.sv rfl rfl (Eng.x_as (v := (.int .i64 2)) rfl rfl) ?_
    refine Eng.nil ?_
    refine hK8 _ _ ?_
    refine Eng.rt ?_
    refine Eng.br ?_
    refine Eng.tr ?_
    refine Eng.ret (Eng.res2 (v1 := (dg Oct.dz)) (v2 := (.int .i64 2)) rfl (Eng.rdc rfl (Eng.lvB ag24_tg sz24_tg hk10 rfl rfl)) (Eng.rdt rfl)) ?_
    have hB0_2 : Below w.heap.size w w3 := (hb2).trans (hb3.mono (hb2).size)
    have hB0_3 : Below w.heap.size w w7 := (hB0_2).trans (hb7.mono (hB0_2).size)
    have hB0_4 : Below w.heap.size w w10 := (hB0_3).grown hg10 (hB0_3).size (fun k e => by cases e; exact Nat.le_trans (hb2).size (Nat.le_refl _))
    exact ⟨by unfold rotOf; rw [if_neg (by rw [q0]; decide)], hB0_4⟩
  · skip
    have ht1 : tv h l i x = true := by simpa using q0
    obtain ⟨t1, t2, t3, t4, t5, t6⟩ := tv_yes ht1
    have hpw := pwb t1
    have hx2 : x ≤ 256 := by omega
    refine Eng.reg ?_
    have hk11 := (hk2).below hb3
    refine Eng.sv rfl rfl (Eng.x_ldB (v := (.agg #[(.int .i64 h), (.int .i64 l), (.int .i64 i), (.int .i64 x)])) rfl ag82_tg sz82_tg rfl hk11 rfl rfl) ?_
    refine Eng.sc rfl (Eng.xc (vl := [(.agg #[(.int .i64 h), (.int .i64 l), (.int .i64 i), (.int .i64 x)])]) rfl rfl rfl en99_tg) (tvalid_is ht1 _) ?_
    rintro _ w12 ⟨rfl, hb12⟩
    refine Eng.aft_v rfl ?_
    refine Eng.sv rfl rfl (Eng.x_not (v := (.bool false)) rfl rfl rfl) ?_
    refine Eng.sv rfl rfl (Eng.x_as (v := (.bool false)) rfl rfl) ?_
    refine Eng.nil ?_
    refine hK5 _ _ ?_
    refine Eng.cond_f rfl ?_
    refine Eng.seqk fun K13 hK13 => ?_
    refine Eng.reg ?_
    refine Eng.sv rfl rfl (Eng.x_mv (v := v) rfl rfl) ?_
    have hB0_2 : Below w.heap.size w w3 := (hb2).trans (hb3.mono (hb2).size)
    have hB0_3 : Below w.heap.size w w12 := (hB0_2).trans (hb12.mono (hB0_2).size)
    have hr14 := (hb).below hB0_3
    refine Eng.sv rfl rfl (Eng.x_len (v := v) (r := (b.length : Int)) rfl Tryd.underlying22 rfl (hr14).1 rfl) ?_
    refine Eng.sv rfl rfl (Eng.x_fa (v := (.pointer (some ⟨w.heap.size, 3, none⟩))) rfl rfl (by kernel_rfl)) ?_
    have hk15 := (hk11).below hb12
    refine Eng.sv rfl rfl (Eng.x_ld1 (v := (.int .i64 x)) rfl ag3_tg rfl ((hk15).cell 3)) ?_
    refine Eng.sv rfl rfl (Eng.x_mul rfl rfl rfl (Eng.w64 (r := (32 * x)) (by omega))) ?_
    by_cases hl : ((b.length : Int) : Int) ≠ (32 * x)
    · skip
      refine Eng.sv rfl rfl (Eng.x_ne (r := true) rfl rfl rfl (Eng.ne_t (by omega))) ?_
      refine Eng.sv rfl rfl (Eng.x_as (v := (.bool true)) rfl rfl) ?_
      refine Eng.nil ?_
      refine hK13 _ _ ?_
      refine Eng.cond_t rfl ?_
      refine Eng.seqk fun K16 hK16 => ?_
      refine Eng.reg ?_
      refine Eng.sv rfl rfl (Eng.x_build (ps := []) (v := (dg Oct.dz)) rfl rfl (by kernel_rfl)) ?_
      have hk17 := (hk3).below hb12
      refine Eng.stB (v := (dg Oct.dz)) rfl rfl rfl sz24_tg rfl hk17 rfl rfl (cs' := (bcs Oct.dz)) rfl rfl (bcs_one _) ?_
      intro w18 hk18 hg18
      refine Eng.sv rfl rfl (Eng.x_as (v := (.int .i64 101)) rfl rfl) ?_
      refine Eng.nil ?_
      refine hK16 _ _ ?_
      refine Eng.rt ?_
      refine Eng.br ?_
      refine Eng.tr ?_
      refine Eng.ret (Eng.res2 (v1 := (dg Oct.dz)) (v2 := (.int .i64 101)) rfl (Eng.rdc rfl (Eng.lvB ag24_tg sz24_tg hk18 rfl rfl)) (Eng.rdt rfl)) ?_
      have hB0_4 : Below w.heap.size w w18 := (hB0_3).grown hg18 (hB0_3).size (fun k e => by cases e; exact Nat.le_trans (hb2).size (Nat.le_refl _))
      exact ⟨by unfold rotOf; rw [if_pos ht1, if_pos hl], hB0_4⟩
    · skip
      refine Eng.sv rfl rfl (Eng.x_ne (r := false) rfl rfl rfl (Eng.ne_f (by omega))) ?_
      refine Eng.sv rfl rfl (Eng.x_as (v := (.bool false)) rfl rfl) ?_
      refine Eng.nil ?_
      refine hK13 _ _ ?_
      refine Eng.cond_f rfl ?_
      refine Eng.skp ?_
      refine Eng.nb ?_
      refine hK4 _ _ ?_
      refine Eng.seqk fun K19 hK19 => ?_
      refine Eng.reg ?_
      refine Eng.sv rfl rfl (Eng.x_mv (v := v) rfl rfl) ?_
      refine Eng.sc rfl (Eng.xc (vl := [v]) rfl rfl rfl en102_tg) (pdigs_calls v b _ ⟨(hr14).1, by have := hb.2; show _ ≤ _; omega⟩) ?_
      rintro _ w20 ⟨vx20, rfl, ho20, hb20⟩
      refine Eng.aft_v rfl ?_
      have hB0_4 : Below w.heap.size w w20 := (hB0_3).trans (hb20.mono (hB0_3).size)
      have hr21 := (hKn).below hB0_4
      refine Eng.sc rfl (Eng.xc (vl := [vx20]) rfl rfl rfl en21_tg) (troot_calls _ (dL b (b.length / 32)) _ (ho20).ds (by simp only [List.length_take, List.length_drop, dL_length]; omega) hr21) ?_
      rintro _ w22 ⟨rfl, hb22⟩
      refine Eng.aft_v rfl ?_
      have hk23 := (((hk3).below hb12).below hb20).below hb22
      refine Eng.stB (v := (dg (rootS (dL b (b.length / 32))))) rfl rfl rfl sz24_tg rfl hk23 rfl rfl (cs' := (bcs (rootS (dL b (b.length / 32))))) rfl ((bcs_length _).trans (rootS_len _ ((ho20).ds).2 (by simp only [List.length_take, List.length_drop, dL_length]; omega))) (bcs_one _) ?_
      intro w24 hk24 hg24
      refine Eng.sv rfl rfl (Eng.x_as (v := (.int .i64 0)) rfl rfl) ?_
      refine Eng.nil ?_
      refine hK19 _ _ ?_
      refine Eng.rt ?_
      refine Eng.ret (Eng.res2 (v1 := (dg (rootS (dL b (b.length / 32))))) (v2 := (.int .i64 0)) rfl (Eng.rdc rfl (Eng.lvB ag24_tg sz24_tg hk24 ((bcs_length _).trans (rootS_len _ ((ho20).ds).2 (by simp only [List.length_take, List.length_drop, dL_length]; omega))) rfl)) (Eng.rdt rfl)) ?_
      have hB0_5 : Below w.heap.size w w22 := (hB0_4).trans (hb22.mono (hB0_4).size)
      have hB0_6 : Below w.heap.size w w24 := (hB0_5).grown hg24 (hB0_5).size (fun k e => by cases e; exact Nat.le_trans (hb2).size (Nat.le_refl _))
      exact ⟨by unfold rotOf; rw [if_pos ht1, if_neg hl], hB0_6⟩
set_option maxRecDepth 100000 in
set_option maxHeartbeats 4000000 in
theorem rtroott_calls (h l i x : Int) (v : Value) (b : List UInt8) (w : World) (hb : Bs w v b) : Calls Tryd.prog 48 #[(.agg #[(.int .i64 h), (.int .i64 l), (.int .i64 i), (.int .i64 x)]), v] w (fun e w' => e = .returned (.tuple #[dg (rotOf h l i x b).1, .int .i64 (rotOf h l i x b).2]) ∧ Below w.heap.size w w') := by
  have hbl := hb.2
  refine Eng.enter (l := [(.agg #[(.int .i64 h), (.int .i64 l), (.int .i64 i), (.int .i64 x)]), v]) Tryd.func48 rfl 20 rfl (by simp) ?_
  refine Eng.seqk fun K1 hK1 => ?_
  refine Eng.reg ?_
  refine Eng.bo (v := (.agg #[(.int .i64 h), (.int .i64 l), (.int .i64 i), (.int .i64 x)])) (cs := [(.int .i64 h), (.int .i64 l), (.int .i64 i), (.int .i64 x)]) rfl rfl rfl rfl rfl ?_
  intro w2 hk2 hb2 hz2
  refine Eng.al rfl rfl rfl zr24_tg (cs := (bcs Oct.dz)) rfl ?_
  intro w3 hk3 hb3 hz3
  refine Eng.sv rfl rfl (Eng.x_as (v := (.int .i64 0)) rfl rfl) ?_
  refine Eng.nil ?_
  refine hK1 _ _ ?_
  refine Eng.seqk fun K4 hK4 => ?_
  refine Eng.seqk fun K5 hK5 => ?_
  by_cases q0 : tv h l i x = false
  · skip
    refine Eng.reg ?_
    have hk6 := (hk2).below hb3
    refine Eng.sv rfl rfl (Eng.x_ldB (v := (.agg #[(.int .i64 h), (.int .i64 l), (.int .i64 i), (.int .i64 x)])) rfl ag82_tg sz82_tg rfl hk6 rfl rfl) ?_
    refine Eng.sc rfl (Eng.xc (vl := [(.agg #[(.int .i64 h), (.int .i64 l), (.int .i64 i), (.int .i64 x)])]) rfl rfl rfl en104_tg) (rtvalid_is q0 _) ?_
    rintro _ w7 ⟨rfl, hb7⟩
    refine Eng.aft_v rfl ?_
    refine Eng.sv rfl rfl (Eng.x_not (v := (.bool true)) rfl rfl rfl) ?_
    refine Eng.nil ?_
    refine hK5 _ _ ?_
    refine Eng.cond_t rfl ?_
    refine Eng.seqk fun K8 hK8 => ?_
    refine Eng.reg ?_
    refine Eng.sv rfl rfl (Eng.x_build (ps := []) (v := (dg Oct.dz)) rfl rfl (by kernel_rfl)) ?_
    have hk9 := (hk3).below hb7
    refine Eng.stB (v := (dg Oct.dz)) rfl rfl rfl sz24_tg rfl hk9 rfl rfl (cs' := (bcs Oct.dz)) rfl rfl (bcs_one _) ?_
    intro w10 hk10 hg10
    refine Eng.sv rfl rfl (Eng.x_as (v := (.int .i64 2)) rfl rfl) ?_
    refine Eng.nil ?_
    refine hK8 _ _ ?_
    refine Eng.rt ?_
    refine Eng.tr ?_
    refine Eng.ret (Eng.res2 (v1 := (dg Oct.dz)) (v2 := (.int .i64 2)) rfl (Eng.rdc rfl (Eng.lvB ag24_tg sz24_tg hk10 rfl rfl)) (Eng.rdt rfl)) ?_
    have hB0_2 : Below w.heap.size w w3 := (hb2).trans (hb3.mono (hb2).size)
    have hB0_3 : Below w.heap.size w w7 := (hB0_2).trans (hb7.mono (hB0_2).size)
    have hB0_4 : Below w.heap.size w w10 := (hB0_3).grown hg10 (hB0_3).size (fun k e => by cases e; exact Nat.le_trans (hb2).size (Nat.le_refl _))
    exact ⟨by unfold rotOf; rw [if_neg (by rw [q0]; decide)], hB0_4⟩
  · skip
    have ht1 : tv h l i x = true := by simpa using q0
    obtain ⟨t1, t2, t3, t4, t5, t6⟩ := tv_yes ht1
    have hpw := pwb t1
    have hx2 : x ≤ 256 := by omega
    refine Eng.reg ?_
    have hk11 := (hk2).below hb3
    refine Eng.sv rfl rfl (Eng.x_ldB (v := (.agg #[(.int .i64 h), (.int .i64 l), (.int .i64 i), (.int .i64 x)])) rfl ag82_tg sz82_tg rfl hk11 rfl rfl) ?_
    refine Eng.sc rfl (Eng.xc (vl := [(.agg #[(.int .i64 h), (.int .i64 l), (.int .i64 i), (.int .i64 x)])]) rfl rfl rfl en104_tg) (rtvalid_is ht1 _) ?_
    rintro _ w12 ⟨rfl, hb12⟩
    refine Eng.aft_v rfl ?_
    refine Eng.sv rfl rfl (Eng.x_not (v := (.bool false)) rfl rfl rfl) ?_
    refine Eng.nil ?_
    refine hK5 _ _ ?_
    refine Eng.cond_f rfl ?_
    refine Eng.skp ?_
    refine hK4 _ _ ?_
    refine Eng.seqk fun K13 hK13 => ?_
    refine Eng.seqk fun K14 hK14 => ?_
    refine Eng.reg ?_
    refine Eng.sv rfl rfl (Eng.x_mv (v := v) rfl rfl) ?_
    have hB0_2 : Below w.heap.size w w3 := (hb2).trans (hb3.mono (hb2).size)
    have hB0_3 : Below w.heap.size w w12 := (hB0_2).trans (hb12.mono (hB0_2).size)
    have hr15 := (hb).below hB0_3
    refine Eng.sv rfl rfl (Eng.x_len (v := v) (r := (b.length : Int)) rfl Tryd.underlying22 rfl (hr15).1 rfl) ?_
    refine Eng.sv rfl rfl (Eng.x_fa (v := (.pointer (some ⟨w.heap.size, 3, none⟩))) rfl rfl (by kernel_rfl)) ?_
    have hk16 := (hk11).below hb12
    refine Eng.sv rfl rfl (Eng.x_ld1 (v := (.int .i64 x)) rfl ag3_tg rfl ((hk16).cell 3)) ?_
    refine Eng.sv rfl rfl (Eng.x_mul rfl rfl rfl (Eng.w64 (r := (32 * x)) (by omega))) ?_
    by_cases hl : ((b.length : Int) : Int) ≠ (32 * x)
    · skip
      refine Eng.sv rfl rfl (Eng.x_ne (r := true) rfl rfl rfl (Eng.ne_t (by omega))) ?_
      refine Eng.nil ?_
      refine hK14 _ _ ?_
      refine Eng.cond_t rfl ?_
      refine Eng.seqk fun K17 hK17 => ?_
      refine Eng.reg ?_
      refine Eng.sv rfl rfl (Eng.x_build (ps := []) (v := (dg Oct.dz)) rfl rfl (by kernel_rfl)) ?_
      have hk18 := (hk3).below hb12
      refine Eng.stB (v := (dg Oct.dz)) rfl rfl rfl sz24_tg rfl hk18 rfl rfl (cs' := (bcs Oct.dz)) rfl rfl (bcs_one _) ?_
      intro w19 hk19 hg19
      refine Eng.sv rfl rfl (Eng.x_as (v := (.int .i64 101)) rfl rfl) ?_
      refine Eng.nil ?_
      refine hK17 _ _ ?_
      refine Eng.rt ?_
      refine Eng.tr ?_
      refine Eng.ret (Eng.res2 (v1 := (dg Oct.dz)) (v2 := (.int .i64 101)) rfl (Eng.rdc rfl (Eng.lvB ag24_tg sz24_tg hk19 rfl rfl)) (Eng.rdt rfl)) ?_
      have hB0_4 : Below w.heap.size w w19 := (hB0_3).grown hg19 (hB0_3).size (fun k e => by cases e; exact Nat.le_trans (hb2).size (Nat.le_refl _))
      exact ⟨by unfold rotOf; rw [if_pos ht1, if_pos hl], hB0_4⟩
    · skip
      refine Eng.sv rfl rfl (Eng.x_ne (r := false) rfl rfl rfl (Eng.ne_f (by omega))) ?_
      refine Eng.nil ?_
      refine hK14 _ _ ?_
      refine Eng.cond_f rfl ?_
      refine Eng.skp ?_
      refine hK13 _ _ ?_
      refine Eng.seqk fun K20 hK20 => ?_
      refine Eng.reg ?_
      refine Eng.sv rfl rfl (Eng.x_mv (v := v) rfl rfl) ?_
      refine Eng.sc rfl (Eng.xc (vl := [v]) rfl rfl rfl en106_tg) (rdigs_calls v b _ ⟨(hr15).1, by have := hb.2; show _ ≤ _; omega⟩) ?_
      rintro _ w21 ⟨vx21, rfl, ho21, hb21⟩
      refine Eng.aft_v rfl ?_
      refine Eng.sc rfl (Eng.xc (vl := [vx21]) rfl rfl rfl en105_tg) (root4_calls _ _ (dL b (b.length / 32)) _ (ho21).ds rfl (by simp only [List.length_take, List.length_drop, dL_length]; omega)) ?_
      rintro _ w22 ⟨rfl, hb22⟩
      refine Eng.aft_v rfl ?_
      have hk23 := (((hk3).below hb12).below hb21).below hb22
      refine Eng.stB (v := (dg (rootS (dL b (b.length / 32))))) rfl rfl rfl sz24_tg rfl hk23 rfl rfl (cs' := (bcs (rootS (dL b (b.length / 32))))) rfl ((bcs_length _).trans (rootS_len _ ((ho21).ds).2 (by simp only [List.length_take, List.length_drop, dL_length]; omega))) (bcs_one _) ?_
      intro w24 hk24 hg24
      refine Eng.sv rfl rfl (Eng.x_as (v := (.int .i64 0)) rfl rfl) ?_
      refine Eng.nil ?_
      refine hK20 _ _ ?_
      refine Eng.rt ?_
      refine Eng.ret (Eng.res2 (v1 := (dg (rootS (dL b (b.length / 32))))) (v2 := (.int .i64 0)) rfl (Eng.rdc rfl (Eng.lvB ag24_tg sz24_tg hk24 ((bcs_length _).trans (rootS_len _ ((ho21).ds).2 (by simp only [List.length_take, List.length_drop, dL_length]; omega))) rfl)) (Eng.rdt rfl)) ?_
      have hB0_4 : Below w.heap.size w w21 := (hB0_3).trans (hb21.mono (hB0_3).size)
      have hB0_5 : Below w.heap.size w w22 := (hB0_4).trans (hb22.mono (hB0_4).size)
      have hB0_6 : Below w.heap.size w w24 := (hB0_5).grown hg24 (hB0_5).size (fun k e => by cases e; exact Nat.le_trans (hb2).size (Nat.le_refl _))
      exact ⟨by unfold rotOf; rw [if_pos ht1, if_neg hl], hB0_6⟩
set_option maxRecDepth 100000 in
set_option maxHeartbeats 4000000 in
theorem names_calls (w : World) : Calls Tryd.prog 49 #[] w (fun e w' => e = .returned (.bool true) ∧ Below w.heap.size w w') := by
  refine Eng.enter (l := []) Tryd.func49 rfl 1 rfl (by simp) ?_
  refine Eng.seqk fun K1 hK1 => ?_
  refine Eng.reg ?_
  refine Eng.sv rfl rfl (Eng.x_as (v := (.bool false)) rfl rfl) ?_
  refine Eng.nil ?_
  refine hK1 _ _ ?_
  refine Eng.seqk fun K2 hK2 => ?_
  refine Eng.reg ?_
  refine Eng.sv rfl rfl (Eng.x_as (v := (.bool true)) rfl rfl) ?_
  refine Eng.nil ?_
  refine hK2 _ _ ?_
  refine Eng.rt ?_
  refine Eng.ret (Eng.res1 (v1 := (.bool true)) rfl (Eng.rdt rfl)) ?_
  exact ⟨rfl, Below.refl _ _⟩
theorem digOf_len (h l i x nl ni : Int) (b : List UInt8) : (digOf h l i x nl ni b).1.length = 32 := by
  unfold digOf
  split
  · split
    · exact dz_length
    · split
      · exact dz_length
      · rename_i c1 c2 c3
        obtain ⟨t1, t2, t3, t4, t5, t6⟩ := tv_yes c1.1
        have hpw := pwb t1
        exact rootS_len _ (all32_mid (dL_32 _ _) _ _) (by rw [List.length_take, List.length_drop, dL_length]; omega)
  · exact dz_length
theorem rotOf_len (h l i x : Int) (b : List UInt8) : (rotOf h l i x b).1.length = 32 := by
  unfold rotOf
  split
  · split
    · exact dz_length
    · rename_i c1 c2
      obtain ⟨t1, t2, t3, t4, t5, t6⟩ := tv_yes c1
      have hpw := pwb t1
      exact rootS_len _ (dL_32 _ _) (by rw [dL_length]; omega)
  · exact dz_length
set_option maxRecDepth 100000 in
set_option maxHeartbeats 4000000 in
theorem digests_law (h l i x nl ni : Int) (v : Value) (b : List UInt8) (w : World) (hb : Bs w v b) (hKn : Kon w) : Calls Tryd.prog 13 #[(.agg #[(.int .i64 h), (.int .i64 l), (.int .i64 i), (.int .i64 x)]), v, (.agg #[(.int .i64 nl), (.int .i64 ni)])] w (fun e w' => e = .returned (.bool true) ∧ Below w.heap.size w w') := by
  have hbl := hb.2
  refine Eng.enter (l := [(.agg #[(.int .i64 h), (.int .i64 l), (.int .i64 i), (.int .i64 x)]), v, (.agg #[(.int .i64 nl), (.int .i64 ni)])]) Tryd.func13 rfl 82 rfl (by simp) ?_
  refine Eng.seqk fun K1 hK1 => ?_
  refine Eng.reg ?_
  refine Eng.bo (v := (.agg #[(.int .i64 h), (.int .i64 l), (.int .i64 i), (.int .i64 x)])) (cs := [(.int .i64 h), (.int .i64 l), (.int .i64 i), (.int .i64 x)]) rfl rfl rfl rfl rfl ?_
  intro w2 hk2 hb2 hz2
  refine Eng.bo (v := (.agg #[(.int .i64 nl), (.int .i64 ni)])) (cs := [(.int .i64 nl), (.int .i64 ni)]) rfl rfl rfl rfl rfl ?_
  intro w3 hk3 hb3 hz3
  refine Eng.sv rfl rfl (Eng.x_as (v := (.bool false)) rfl rfl) ?_
  refine Eng.nil ?_
  refine hK1 _ _ ?_
  refine Eng.seqk fun K4 hK4 => ?_
  refine Eng.reg ?_
  refine Eng.sv rfl rfl (Eng.x_bs0 rfl Tryd.underlying22 sz5_tg) ?_
  generalize hw5 : World.alloc w3 (.cells #[] 5) = w5
  have hb5 : Below w3.heap.size w3 w5 := hw5 ▸ Eng.below_al _ _
  have hz5 : w3.heap.size < w5.heap.size := hw5 ▸ Eng.lt_al _ _
  have ho5 : Oct.Own w3.heap.size w5 (.slice (some ⟨w3.heap.size, 0, none⟩) 0 0) [] := hw5 ▸ Own.lit0 _ (Nat.le_refl _)
  refine Eng.sv rfl rfl (Eng.x_mv (v := v) rfl rfl) ?_
  have hB0_2 : Below w.heap.size w w3 := (hb2).trans (hb3.mono (hb2).size)
  have hB0_3 : Below w.heap.size w w5 := (hB0_2).trans (hb5.mono (hB0_2).size)
  have hr7 := (hb).below hB0_3
  refine Eng.apB rfl rfl rfl rfl ho5 rfl (hr7).1 (by simp only [List.length_nil]; omega) (hb5).size ?_
  intro v6 w6 ho6 hg6
  rw [List.nil_append] at ho6
  refine Eng.bs (vs := [(.int .u8 90)]) (cs := (bcs [90])) rfl rfl rfl Tryd.underlying22 in5_tg rfl (by decide) rfl rfl (by decide) (by decide) (by simp [Value.cells]) rfl ?_
  intro w8 hk8 hb8 hz8
  have hr10 := (ho6).below hb8
  have hB2_4 : Below w3.heap.size w3 w6 := (hb5).grown hg6 (hb5).size (fun k e => Nat.le_trans (Nat.le_refl _) ((World.ownsRow.lt ho5) _ e).1)
  have hB2_5 : Below w3.heap.size w3 w8 := (hB2_4).trans (hb8.mono (hB2_4).size)
  refine Eng.apB rfl rfl rfl rfl hr10 rfl ((Eng.own_lit (base := w6.heap.size) hk8 (Nat.le_refl _) (Nat.le_of_ble_eq_true rfl))).rd (by simp only [List.length_append, List.length_cons, List.length_nil]; omega) (hB2_5).size ?_
  intro v9 w9 ho9 hg9
  refine Eng.sv rfl rfl (Eng.x_as (v := v9) rfl rfl) ?_
  refine Eng.nil ?_
  refine hK4 _ _ ?_
  refine Eng.seqk fun K11 hK11 => ?_
  have hk13 := (((((hk2).below hb3).below hb5).grown hg6 (fun e => absurd ((World.ownsRow.lt ho5) _ e.symm).1 (Nat.not_le_of_lt (Nat.lt_of_lt_of_le hz2 (hb3).size)))).below hb8).grown hg9 (fun e => absurd ((World.ownsRow.lt ho6) _ e.symm).1 (Nat.not_le_of_lt (Nat.lt_of_lt_of_le hz2 (hb3).size)))
  have hB0_4 : Below w.heap.size w w6 := (hB0_3).grown hg6 (hB0_3).size (fun k e => Nat.le_trans (hB0_2).size ((World.ownsRow.lt ho5) _ e).1)
  have hB0_5 : Below w.heap.size w w8 := (hB0_4).trans (hb8.mono (hB0_4).size)
  have hB0_6 : Below w.heap.size w w9 := (hB0_5).grown hg9 (hB0_5).size (fun k e => Nat.le_trans (hB0_2).size ((World.ownsRow.lt ho6) _ e).1)
  have hr14 := (hb).below hB0_6
  have hq15 : Rd w9 (Eng.sCut v9 0 b.length 1) (b) := (bs_pre (ho9).rd)
  have hk16 := ((((hk3).below hb5).grown hg6 (fun e => absurd ((World.ownsRow.lt ho5) _ e.symm).1 (Nat.not_le_of_lt (Nat.lt_of_lt_of_le hz3 (Nat.le_refl _))))).below hb8).grown hg9 (fun e => absurd ((World.ownsRow.lt ho6) _ e.symm).1 (Nat.not_le_of_lt (Nat.lt_of_lt_of_le hz3 (Nat.le_refl _))))
  have hr17 := (hKn).below hB0_6
  refine Eng.drawL 12 11 [9] [fun vQ _ => vQ = (.agg #[(.int .i64 h), (.int .i64 l), (.int .i64 i), (.int .i64 x)]), fun vQ _ => vQ = v9, fun vQ _ => vQ = v, fun vQ _ => vQ = (.int .i64 (b.length : Int)), fun vQ _ => vQ = (Eng.sCut v9 0 b.length 1), fun vQ _ => vQ = (.agg #[(.int .i64 nl), (.int .i64 ni)]), fun vQ _ => vQ = (.tuple #[(dg ((digOf h l i x nl ni b).1)), (.int .i64 ((digOf h l i x nl ni b).2))]), fun vQ _ => vQ = (.tuple #[(dg ((digOf h l i x nl ni b).1)), (.int .i64 ((digOf h l i x nl ni b).2))]), fun vQ _ => vQ = (dg ((digOf h l i x nl ni b).1)), fun vQ _ => vQ = (.int .i64 ((digOf h l i x nl ni b).2)), fun (v : Value) (W : World) => ∃ g, v = .pointer (some ⟨g, 0, none⟩) ∧ Blk W g 24 (bcs Oct.dz) ∧ w9.heap.size ≤ g, fun (_ : Value) (_ : World) => True] (fun (uP : Nat → Value) (V W : World) => ∃ g, uP 8 = .pointer (some ⟨g, 0, none⟩) ∧ V.grownBy W (some g) ∧ Blk W g 24 (bcs ((digOf h l i x nl ni b).1)) ∧ w9.heap.size ≤ g) (by kernel_rfl) (by kernel_rfl) (by kernel_rfl) (by kernel_rfl) (by kernel_rfl) (by kernel_rfl) rfl (by kernel_rfl) rfl rfl ?_ rfl ?_ ?_ ?_
  · exact ⟨fun _ _ _ _ h _ _ => h, fun _ _ _ _ h _ _ => h, fun _ _ _ _ h _ _ => h, fun _ _ _ _ h _ _ => h, fun _ _ _ _ h _ _ => h, fun _ _ _ _ h _ _ => h, fun _ _ _ _ h _ _ => h, fun _ _ _ _ h _ _ => h, fun _ _ _ _ h _ _ => h, fun _ _ _ _ h _ _ => h, fun hE v W W' ⟨g, h1, h2, h3⟩ h0 hb => ⟨g, h1, Eng.blk_grL h2 hb (fun hm => Nat.lt_irrefl _ (Nat.lt_of_lt_of_le (hE _ hm) h3)), h3⟩, fun _ _ _ _ _ _ _ => trivial, trivial⟩
  · refine ⟨?_, ?_, ?_, ?_, ?_, ?_, ?_, ?_, ?_, ?_, ?_, ?_, trivial⟩
    · refine ⟨fun h_ => absurd h_ (by decide), fun _ => ?_⟩
      intro u' W hbW hkp hdp hEd K hK
      have hK := Eng.sdv rfl hK
      refine Eng.dv rfl rfl ?_ (hK _ _ (Below.refl _ _) rfl)
      exact (Eng.x_ldB (v := (.agg #[(.int .i64 h), (.int .i64 l), (.int .i64 i), (.int .i64 x)])) rfl ag82_tg sz82_tg (show Eng.opv 82 u' (.tmp 3) = (.pointer (some ⟨w.heap.size, 0, none⟩)) from hkp 3 rfl) (Eng.blk_grL (hk13) hbW Eng.nin_nil) rfl rfl)
    · refine ⟨fun h_ => absurd h_ (by decide), fun _ => ?_⟩
      intro u' W hbW hkp hdp hEd K hK
      have hK := Eng.sdv rfl hK
      refine Eng.dv rfl rfl ?_ (hK _ _ (Below.refl _ _) rfl)
      exact (Eng.x_mv (v := v9) rfl (show Eng.opv 82 u' (.tmp 7) = v9 from hkp 7 rfl))
    · refine ⟨fun h_ => absurd h_ (by decide), fun _ => ?_⟩
      intro u' W hbW hkp hdp hEd K hK
      have hK := Eng.sdv rfl hK
      refine Eng.dv rfl rfl ?_ (hK _ _ (Below.refl _ _) rfl)
      exact (Eng.x_mv (v := v) rfl (show Eng.opv 82 u' (.tmp 1) = v from hkp 1 rfl))
    · refine ⟨fun h_ => absurd h_ (by decide), fun _ => ?_⟩
      intro u' W hbW hkp hdp hEd K hK
      have e2 : u' 24 = v := hdp.1
      have hK := Eng.sdv rfl hK
      refine Eng.dv rfl rfl ?_ (hK _ _ (Below.refl _ _) rfl)
      exact (Eng.x_len (v := v) (r := (b.length : Int)) rfl Tryd.underlying22 (show Eng.opv 82 u' (.tmp 24) = v from e2) (((hb).below (Eng.bel_grL (hB0_6) hbW (hB0_6).size Eng.le_nil))).1 rfl)
    · refine ⟨fun h_ => absurd h_ (by decide), fun _ => ?_⟩
      intro u' W hbW hkp hdp hEd K hK
      have e1 : u' 23 = v9 := hdp.1
      have e3 : u' 25 = (.int .i64 (b.length : Int)) := hdp.2.1
      have hK := Eng.sdv rfl hK
      refine Eng.dv rfl rfl ?_ (hK _ _ (Below.refl _ _) rfl)
      exact (Eng.x_sl (v := v9) rfl Tryd.underlying22 sz5_tg (show Eng.opv 82 u' (.tmp 23) = v9 from e1) (((ho9).grL hbW (fun k e => Eng.nin_nil))).rd 0 b.length (.inl ⟨rfl, rfl⟩) (Eng.bd (k := .i64) (show Eng.opv 82 u' (.tmp 25) = (.int .i64 (b.length : Int)) from e3)) (by omega) (by simp only [List.length_append, List.length_cons, List.length_nil]; omega))
    · refine ⟨fun h_ => absurd h_ (by decide), fun _ => ?_⟩
      intro u' W hbW hkp hdp hEd K hK
      have hK := Eng.sdv rfl hK
      refine Eng.dv rfl rfl ?_ (hK _ _ (Below.refl _ _) rfl)
      exact (Eng.x_ldB (v := (.agg #[(.int .i64 nl), (.int .i64 ni)])) rfl ag84_tg sz84_tg (show Eng.opv 82 u' (.tmp 5) = (.pointer (some ⟨w2.heap.size, 0, none⟩)) from hkp 5 rfl) (Eng.blk_grL (hk16) hbW Eng.nin_nil) rfl rfl)
    · refine ⟨fun h_ => absurd h_ (by decide), fun _ => ?_⟩
      intro u' W hbW hkp hdp hEd K hK
      have e0 : u' 22 = (.agg #[(.int .i64 h), (.int .i64 l), (.int .i64 i), (.int .i64 x)]) := hdp.1
      have e4 : u' 26 = (Eng.sCut v9 0 b.length 1) := hdp.2.1
      have e5 : u' 27 = (.agg #[(.int .i64 nl), (.int .i64 ni)]) := hdp.2.2.1
      have hK := Eng.sdv rfl hK
      refine Eng.dc (vs := #[(.agg #[(.int .i64 h), (.int .i64 l), (.int .i64 i), (.int .i64 x)]), (Eng.sCut v9 0 b.length 1), (.agg #[(.int .i64 nl), (.int .i64 ni)])]) rfl ?_ (digest_calls h l i x nl ni _ b _ ⟨((hq15).below (Eng.bel_grL ((Below.refl _ _)) hbW (Nat.le_refl _) Eng.le_nil)), hb.2⟩ ((hKn).below (Eng.bel_grL (hB0_6) hbW (hB0_6).size Eng.le_nil))) ?_
      · exact Eng.xc (xs := #[(Go.Operand.tmp 22), (Go.Operand.tmp 26), (Go.Operand.tmp 27)]) (vl := [(.agg #[(.int .i64 h), (.int .i64 l), (.int .i64 i), (.int .i64 x)]), (Eng.sCut v9 0 b.length 1), (.agg #[(.int .i64 nl), (.int .i64 ni)])]) rfl rfl (Eng.lc (show Eng.opv 82 u' (.tmp 22) = (.agg #[(.int .i64 h), (.int .i64 l), (.int .i64 i), (.int .i64 x)]) from e0) (Eng.lc (show Eng.opv 82 u' (.tmp 26) = (Eng.sCut v9 0 b.length 1) from e4) (Eng.lc (show Eng.opv 82 u' (.tmp 27) = (.agg #[(.int .i64 nl), (.int .i64 ni)]) from e5) rfl))) en45_tg
      rintro _ W2 ⟨rfl, hb2⟩
      exact Eng.aft_v rfl (hK _ _ hb2 rfl)
    · refine ⟨fun h_ => absurd h_ (by decide), fun _ => ?_⟩
      intro u' W hbW hkp hdp hEd K hK
      have e6 : u' 28 = (.tuple #[(dg ((digOf h l i x nl ni b).1)), (.int .i64 ((digOf h l i x nl ni b).2))]) := hdp.1
      have hK := Eng.sdv rfl hK
      refine Eng.dv rfl rfl ?_ (hK _ _ (Below.refl _ _) rfl)
      exact (Eng.x_mv (v := (.tuple #[(dg ((digOf h l i x nl ni b).1)), (.int .i64 ((digOf h l i x nl ni b).2))])) rfl (show Eng.opv 82 u' (.tmp 28) = (.tuple #[(dg ((digOf h l i x nl ni b).1)), (.int .i64 ((digOf h l i x nl ni b).2))]) from e6))
    · refine ⟨fun h_ => absurd h_ (by decide), fun _ => ?_⟩
      intro u' W hbW hkp hdp hEd K hK
      have e7 : u' 21 = (.tuple #[(dg ((digOf h l i x nl ni b).1)), (.int .i64 ((digOf h l i x nl ni b).2))]) := hdp.1
      have hK := Eng.sdv rfl hK
      refine Eng.dv rfl rfl ?_ (hK _ _ (Below.refl _ _) rfl)
      exact (Eng.x_ext (v := (dg ((digOf h l i x nl ni b).1))) rfl (show Eng.opv 82 u' (.tmp 21) = (.tuple #[(dg ((digOf h l i x nl ni b).1)), (.int .i64 ((digOf h l i x nl ni b).2))]) from e7) rfl)
    · refine ⟨fun h_ => absurd h_ (by decide), fun _ => ?_⟩
      intro u' W hbW hkp hdp hEd K hK
      have e7 : u' 21 = (.tuple #[(dg ((digOf h l i x nl ni b).1)), (.int .i64 ((digOf h l i x nl ni b).2))]) := hdp.1
      have hK := Eng.sdv rfl hK
      refine Eng.dv rfl rfl ?_ (hK _ _ (Below.refl _ _) rfl)
      exact (Eng.x_ext (v := (.int .i64 ((digOf h l i x nl ni b).2))) rfl (show Eng.opv 82 u' (.tmp 21) = (.tuple #[(dg ((digOf h l i x nl ni b).1)), (.int .i64 ((digOf h l i x nl ni b).2))]) from e7) rfl)
    · refine ⟨fun h_ => absurd h_ (by decide), fun _ => ?_⟩
      intro u' W hbW hkp hdp hEd K hK
      have hK := Eng.sdv rfl hK
      exact Eng.dv rfl rfl (Eng.x_al rfl zr24_tg) (hK _ _ (Eng.below_al _ _) ⟨_, rfl, Eng.blk_al _ _ _ rfl, hbW.size⟩)
    · refine ⟨fun _ => ?_, fun h_ => absurd h_ (by decide)⟩
      intro u' W hbV hkp hdp K hK
      have hbW := Eng.GrL.of_below (E := []) (w := w9) hbV
      obtain ⟨gd12_10, e10, hkx10, hlx10⟩ : (fun (v : Value) (W : World) => ∃ g, v = .pointer (some ⟨g, 0, none⟩) ∧ Blk W g 24 (bcs Oct.dz) ∧ w9.heap.size ≤ g) (u' 8) W := hdp.1
      have e8 : u' 29 = (dg ((digOf h l i x nl ni b).1)) := hdp.2.1
      refine Eng.sstB (FL := []) (BL := [⟨gd12_10, 24, (bcs Oct.dz), [(11, (bcs ((digOf h l i x nl ni b).1)))]⟩]) (i := 11) (v := (dg ((digOf h l i x nl ni b).1))) rfl rfl rfl sz24_tg rfl rfl (show Eng.opv 82 u' (.tmp 8) = (.pointer (some ⟨gd12_10, 0, none⟩)) from e10) hkx10 rfl (show Eng.opv 82 u' (.tmp 29) = (dg ((digOf h l i x nl ni b).1)) from e8) rfl ((bcs_length _).trans (digOf_len _ _ _ _ _ _ _)) (bcs_one _) ?_
      exact Eng.outS_st rfl (fun W2 hgr hk2 => hK W2 ⟨gd12_10, e10, hgr, hk2, hlx10⟩)
  · refine ⟨?_, trivial⟩
    · refine ⟨fun uP v V W ⟨g, h1, h2⟩ => ⟨g, (Eng.upd_other uP 30 v 8 (by decide)).trans h1, h2⟩, fun o ho u' V W hdp K hK => ?_⟩
      obtain rfl := Eng.someInj ho
      have e7 : u' 21 = (.tuple #[(dg ((digOf h l i x nl ni b).1)), (.int .i64 ((digOf h l i x nl ni b).2))]) := hdp.1
      refine Eng.dv rfl rfl ?_ (hK _ rfl)
      exact (Eng.x_ext (v := (.int .i64 ((digOf h l i x nl ni b).2))) rfl (show Eng.opv 82 u' (.tmp 21) = (.tuple #[(dg ((digOf h l i x nl ni b).1)), (.int .i64 ((digOf h l i x nl ni b).2))]) from e7) rfl)
  · intro ud12 w12 wB12 hb12 hkp12 ⟨f12_0, f12_1, f12_2, f12_3, f12_4, f12_5, f12_6, f12_7, f12_8, f12_9, ⟨gd12_10, f12_10, hkd12_10, hld12_10⟩, _, _⟩ ⟨gP12, eP12, hgP12, hkP12, hlP12⟩
    obtain rfl := Eng.collectS (l := [(22, (.agg #[(.int .i64 h), (.int .i64 l), (.int .i64 i), (.int .i64 x)])), (23, v9), (24, v), (25, (.int .i64 (b.length : Int))), (26, (Eng.sCut v9 0 b.length 1)), (27, (.agg #[(.int .i64 nl), (.int .i64 ni)])), (28, (.tuple #[(dg ((digOf h l i x nl ni b).1)), (.int .i64 ((digOf h l i x nl ni b).2))])), (21, (.tuple #[(dg ((digOf h l i x nl ni b).1)), (.int .i64 ((digOf h l i x nl ni b).2))])), (29, (dg ((digOf h l i x nl ni b).1))), (30, (.int .i64 ((digOf h l i x nl ni b).2))), (8, (.pointer (some ⟨gP12, 0, none⟩)))]) hkp12 ⟨f12_0, f12_1, f12_2, f12_3, f12_4, f12_5, f12_6, f12_7, f12_8, f12_9, eP12, trivial⟩ rfl
    refine Eng.sv rfl rfl (Eng.x_as (v := (.int .i64 ((digOf h l i x nl ni b).2))) rfl rfl) ?_
    refine Eng.nil ?_
    refine hK11 _ _ ?_
    refine Eng.seqk fun K18 hK18 => ?_
    refine Eng.reg ?_
    have hB1_3 : Below w2.heap.size w2 w5 := (hb3).trans (hb5.mono (hb3).size)
    have hB1_4 : Below w2.heap.size w2 w6 := (hB1_3).grown hg6 (hB1_3).size (fun k e => Nat.le_trans (hb3).size ((World.ownsRow.lt ho5) _ e).1)
    have hB1_5 : Below w2.heap.size w2 w8 := (hB1_4).trans (hb8.mono (hB1_4).size)
    have hB1_6 : Below w2.heap.size w2 w9 := (hB1_5).grown hg9 (hB1_5).size (fun k e => Nat.le_trans (hb3).size ((World.ownsRow.lt ho6) _ e).1)
    have hk19 := ((hk13).below hb12).grown hgP12 (fun e => absurd (Option.some.inj e) (Nat.ne_of_lt (Nat.lt_of_lt_of_le hz2 (Nat.le_trans (hB1_6).size hlP12))))
    refine Eng.sv rfl rfl (Eng.x_ldB (v := (.agg #[(.int .i64 h), (.int .i64 l), (.int .i64 i), (.int .i64 x)])) rfl ag82_tg sz82_tg rfl hk19 rfl rfl) ?_
    refine Eng.sv rfl rfl (Eng.x_mv (v := v) rfl rfl) ?_
    have hB2_6 : Below w3.heap.size w3 w9 := (hB2_5).grown hg9 (hB2_5).size (fun k e => Nat.le_trans (Nat.le_refl _) ((World.ownsRow.lt ho6) _ e).1)
    have hk20 := ((hk16).below hb12).grown hgP12 (fun e => absurd (Option.some.inj e) (Nat.ne_of_lt (Nat.lt_of_lt_of_le hz3 (Nat.le_trans (hB2_6).size hlP12))))
    refine Eng.sv rfl rfl (Eng.x_ldB (v := (.agg #[(.int .i64 nl), (.int .i64 ni)])) rfl ag84_tg sz84_tg rfl hk20 rfl rfl) ?_
    have hB0_7 : Below w.heap.size w w12 := (hB0_6).trans (hb12.mono (hB0_6).size)
    have hB0_8 : Below w.heap.size w wB12 := (hB0_7).grown hgP12 (hB0_7).size (fun k e => by cases e; exact Nat.le_trans (hB0_6).size hlP12)
    have hr21 := (hb).below hB0_8
    refine Eng.sc rfl (Eng.xc (vl := [(.agg #[(.int .i64 h), (.int .i64 l), (.int .i64 i), (.int .i64 x)]), v, (.agg #[(.int .i64 nl), (.int .i64 ni)])]) rfl rfl rfl en46_tg) (rdigest_calls h l i x nl ni _ b _ ⟨(hr21).1, hb.2⟩) ?_
    rintro _ w22 ⟨rfl, hb22⟩
    refine Eng.aft_v rfl ?_
    refine Eng.sv rfl rfl (Eng.x_mv (v := (.tuple #[(dg ((digOf h l i x nl ni b).1)), (.int .i64 ((digOf h l i x nl ni b).2))])) rfl rfl) ?_
    refine Eng.sv rfl rfl (Eng.x_ext (v := (dg ((digOf h l i x nl ni b).1))) rfl rfl rfl) ?_
    refine Eng.sv rfl rfl (Eng.x_ext (v := (.int .i64 ((digOf h l i x nl ni b).2))) rfl rfl rfl) ?_
    refine Eng.al rfl rfl rfl zr24_tg (cs := (bcs Oct.dz)) rfl ?_
    intro w23 hk23 hb23 hz23
    refine Eng.stB (v := (dg ((digOf h l i x nl ni b).1))) rfl rfl rfl sz24_tg rfl hk23 rfl rfl (cs' := (bcs ((digOf h l i x nl ni b).1))) rfl ((bcs_length _).trans (digOf_len _ _ _ _ _ _ _)) (bcs_one _) ?_
    intro w24 hk24 hg24
    refine Eng.sv rfl rfl (Eng.x_as (v := (.int .i64 ((digOf h l i x nl ni b).2))) rfl rfl) ?_
    refine Eng.nil ?_
    refine hK18 _ _ ?_
    refine Eng.seqk fun K25 hK25 => ?_
    have hB1_7 : Below w2.heap.size w2 w12 := (hB1_6).trans (hb12.mono (hB1_6).size)
    have hB1_8 : Below w2.heap.size w2 wB12 := (hB1_7).grown hgP12 (hB1_7).size (fun k e => by cases e; exact Nat.le_trans (hB1_6).size hlP12)
    have hB1_9 : Below w2.heap.size w2 w22 := (hB1_8).trans (hb22.mono (hB1_8).size)
    have hk27 := (((hk19).below hb22).below hb23).grown hg24 (fun e => absurd (Option.some.inj e) (Nat.ne_of_lt (Nat.lt_of_lt_of_le hz2 (Nat.le_trans (hB1_9).size (Nat.le_refl _)))))
    have hB0_9 : Below w.heap.size w w22 := (hB0_8).trans (hb22.mono (hB0_8).size)
    have hB0_10 : Below w.heap.size w w23 := (hB0_9).trans (hb23.mono (hB0_9).size)
    have hB0_11 : Below w.heap.size w w24 := (hB0_10).grown hg24 (hB0_10).size (fun k e => by cases e; exact Nat.le_trans (hB0_9).size (Nat.le_refl _))
    have hr28 := (hb).below hB0_11
    have hB6_8 : Below w9.heap.size w9 wB12 := (hb12).grown hgP12 (hb12).size (fun k e => by cases e; exact Nat.le_trans (Nat.le_refl _) hlP12)
    have hB6_9 : Below w9.heap.size w9 w22 := (hB6_8).trans (hb22.mono (hB6_8).size)
    have hr29 := (((((ho9).below hb12).kept hgP12 (.inr (fun e => absurd ((World.ownsRow.lt ho9) _ e).2 (Nat.not_lt_of_le (Nat.le_trans (Nat.le_refl _) hlP12))))).below hb22).below hb23).kept hg24 (.inr (fun e => absurd ((World.ownsRow.lt ho9) _ e).2 (Nat.not_lt_of_le (Nat.le_trans (hB6_9).size (Nat.le_refl _)))))
    have hq30 : Rd w24 (Eng.sCut v9 0 b.length 1) (b) := (bs_pre (hr29).rd)
    have hr31 := (hKn).below hB0_11
    refine Eng.drawL 11 10 [8] [fun vQ _ => vQ = (.agg #[(.int .i64 h), (.int .i64 l), (.int .i64 i), (.int .i64 x)]), fun vQ _ => vQ = v9, fun vQ _ => vQ = v, fun vQ _ => vQ = (.int .i64 (b.length : Int)), fun vQ _ => vQ = (Eng.sCut v9 0 b.length 1), fun vQ _ => vQ = (.tuple #[(dg ((rotOf h l i x b).1)), (.int .i64 ((rotOf h l i x b).2))]), fun vQ _ => vQ = (.tuple #[(dg ((rotOf h l i x b).1)), (.int .i64 ((rotOf h l i x b).2))]), fun vQ _ => vQ = (dg ((rotOf h l i x b).1)), fun vQ _ => vQ = (.int .i64 ((rotOf h l i x b).2)), fun (v : Value) (W : World) => ∃ g, v = .pointer (some ⟨g, 0, none⟩) ∧ Blk W g 24 (bcs Oct.dz) ∧ w24.heap.size ≤ g, fun (_ : Value) (_ : World) => True] (fun (uP : Nat → Value) (V W : World) => ∃ g, uP 12 = .pointer (some ⟨g, 0, none⟩) ∧ V.grownBy W (some g) ∧ Blk W g 24 (bcs ((rotOf h l i x b).1)) ∧ w24.heap.size ≤ g) (by kernel_rfl) (by kernel_rfl) (by kernel_rfl) (by kernel_rfl) (by kernel_rfl) (by kernel_rfl) rfl (by kernel_rfl) rfl rfl ?_ rfl ?_ ?_ ?_
    · exact ⟨fun _ _ _ _ h _ _ => h, fun _ _ _ _ h _ _ => h, fun _ _ _ _ h _ _ => h, fun _ _ _ _ h _ _ => h, fun _ _ _ _ h _ _ => h, fun _ _ _ _ h _ _ => h, fun _ _ _ _ h _ _ => h, fun _ _ _ _ h _ _ => h, fun _ _ _ _ h _ _ => h, fun hE v W W' ⟨g, h1, h2, h3⟩ h0 hb => ⟨g, h1, Eng.blk_grL h2 hb (fun hm => Nat.lt_irrefl _ (Nat.lt_of_lt_of_le (hE _ hm) h3)), h3⟩, fun _ _ _ _ _ _ _ => trivial, trivial⟩
    · refine ⟨?_, ?_, ?_, ?_, ?_, ?_, ?_, ?_, ?_, ?_, ?_, trivial⟩
      · refine ⟨fun h_ => absurd h_ (by decide), fun _ => ?_⟩
        intro u' W hbW hkp hdp hEd K hK
        have hK := Eng.sdv rfl hK
        refine Eng.dv rfl rfl ?_ (hK _ _ (Below.refl _ _) rfl)
        exact (Eng.x_ldB (v := (.agg #[(.int .i64 h), (.int .i64 l), (.int .i64 i), (.int .i64 x)])) rfl ag82_tg sz82_tg (show Eng.opv 82 u' (.tmp 3) = (.pointer (some ⟨w.heap.size, 0, none⟩)) from hkp 3 rfl) (Eng.blk_grL (hk27) hbW Eng.nin_nil) rfl rfl)
      · refine ⟨fun h_ => absurd h_ (by decide), fun _ => ?_⟩
        intro u' W hbW hkp hdp hEd K hK
        have hK := Eng.sdv rfl hK
        refine Eng.dv rfl rfl ?_ (hK _ _ (Below.refl _ _) rfl)
        exact (Eng.x_mv (v := v9) rfl (show Eng.opv 82 u' (.tmp 7) = v9 from hkp 7 rfl))
      · refine ⟨fun h_ => absurd h_ (by decide), fun _ => ?_⟩
        intro u' W hbW hkp hdp hEd K hK
        have hK := Eng.sdv rfl hK
        refine Eng.dv rfl rfl ?_ (hK _ _ (Below.refl _ _) rfl)
        exact (Eng.x_mv (v := v) rfl (show Eng.opv 82 u' (.tmp 1) = v from hkp 1 rfl))
      · refine ⟨fun h_ => absurd h_ (by decide), fun _ => ?_⟩
        intro u' W hbW hkp hdp hEd K hK
        have e2 : u' 41 = v := hdp.1
        have hK := Eng.sdv rfl hK
        refine Eng.dv rfl rfl ?_ (hK _ _ (Below.refl _ _) rfl)
        exact (Eng.x_len (v := v) (r := (b.length : Int)) rfl Tryd.underlying22 (show Eng.opv 82 u' (.tmp 41) = v from e2) (((hb).below (Eng.bel_grL (hB0_11) hbW (hB0_11).size Eng.le_nil))).1 rfl)
      · refine ⟨fun h_ => absurd h_ (by decide), fun _ => ?_⟩
        intro u' W hbW hkp hdp hEd K hK
        have e1 : u' 40 = v9 := hdp.1
        have e3 : u' 42 = (.int .i64 (b.length : Int)) := hdp.2.1
        have hK := Eng.sdv rfl hK
        refine Eng.dv rfl rfl ?_ (hK _ _ (Below.refl _ _) rfl)
        exact (Eng.x_sl (v := v9) rfl Tryd.underlying22 sz5_tg (show Eng.opv 82 u' (.tmp 40) = v9 from e1) (((hr29).grL hbW (fun k e => Eng.nin_nil))).rd 0 b.length (.inl ⟨rfl, rfl⟩) (Eng.bd (k := .i64) (show Eng.opv 82 u' (.tmp 42) = (.int .i64 (b.length : Int)) from e3)) (by omega) (by simp only [List.length_append, List.length_cons, List.length_nil]; omega))
      · refine ⟨fun h_ => absurd h_ (by decide), fun _ => ?_⟩
        intro u' W hbW hkp hdp hEd K hK
        have e0 : u' 39 = (.agg #[(.int .i64 h), (.int .i64 l), (.int .i64 i), (.int .i64 x)]) := hdp.1
        have e4 : u' 43 = (Eng.sCut v9 0 b.length 1) := hdp.2.1
        have hK := Eng.sdv rfl hK
        refine Eng.dc (vs := #[(.agg #[(.int .i64 h), (.int .i64 l), (.int .i64 i), (.int .i64 x)]), (Eng.sCut v9 0 b.length 1)]) rfl ?_ (troott_calls h l i x _ b _ ⟨((hq30).below (Eng.bel_grL ((Below.refl _ _)) hbW (Nat.le_refl _) Eng.le_nil)), hb.2⟩ ((hKn).below (Eng.bel_grL (hB0_11) hbW (hB0_11).size Eng.le_nil))) ?_
        · exact Eng.xc (xs := #[(Go.Operand.tmp 39), (Go.Operand.tmp 43)]) (vl := [(.agg #[(.int .i64 h), (.int .i64 l), (.int .i64 i), (.int .i64 x)]), (Eng.sCut v9 0 b.length 1)]) rfl rfl (Eng.lc (show Eng.opv 82 u' (.tmp 39) = (.agg #[(.int .i64 h), (.int .i64 l), (.int .i64 i), (.int .i64 x)]) from e0) (Eng.lc (show Eng.opv 82 u' (.tmp 43) = (Eng.sCut v9 0 b.length 1) from e4) rfl)) en47_tg
        rintro _ W2 ⟨rfl, hb2⟩
        exact Eng.aft_v rfl (hK _ _ hb2 rfl)
      · refine ⟨fun h_ => absurd h_ (by decide), fun _ => ?_⟩
        intro u' W hbW hkp hdp hEd K hK
        have e5 : u' 44 = (.tuple #[(dg ((rotOf h l i x b).1)), (.int .i64 ((rotOf h l i x b).2))]) := hdp.1
        have hK := Eng.sdv rfl hK
        refine Eng.dv rfl rfl ?_ (hK _ _ (Below.refl _ _) rfl)
        exact (Eng.x_mv (v := (.tuple #[(dg ((rotOf h l i x b).1)), (.int .i64 ((rotOf h l i x b).2))])) rfl (show Eng.opv 82 u' (.tmp 44) = (.tuple #[(dg ((rotOf h l i x b).1)), (.int .i64 ((rotOf h l i x b).2))]) from e5))
      · refine ⟨fun h_ => absurd h_ (by decide), fun _ => ?_⟩
        intro u' W hbW hkp hdp hEd K hK
        have e6 : u' 38 = (.tuple #[(dg ((rotOf h l i x b).1)), (.int .i64 ((rotOf h l i x b).2))]) := hdp.1
        have hK := Eng.sdv rfl hK
        refine Eng.dv rfl rfl ?_ (hK _ _ (Below.refl _ _) rfl)
        exact (Eng.x_ext (v := (dg ((rotOf h l i x b).1))) rfl (show Eng.opv 82 u' (.tmp 38) = (.tuple #[(dg ((rotOf h l i x b).1)), (.int .i64 ((rotOf h l i x b).2))]) from e6) rfl)
      · refine ⟨fun h_ => absurd h_ (by decide), fun _ => ?_⟩
        intro u' W hbW hkp hdp hEd K hK
        have e6 : u' 38 = (.tuple #[(dg ((rotOf h l i x b).1)), (.int .i64 ((rotOf h l i x b).2))]) := hdp.1
        have hK := Eng.sdv rfl hK
        refine Eng.dv rfl rfl ?_ (hK _ _ (Below.refl _ _) rfl)
        exact (Eng.x_ext (v := (.int .i64 ((rotOf h l i x b).2))) rfl (show Eng.opv 82 u' (.tmp 38) = (.tuple #[(dg ((rotOf h l i x b).1)), (.int .i64 ((rotOf h l i x b).2))]) from e6) rfl)
      · refine ⟨fun h_ => absurd h_ (by decide), fun _ => ?_⟩
        intro u' W hbW hkp hdp hEd K hK
        have hK := Eng.sdv rfl hK
        exact Eng.dv rfl rfl (Eng.x_al rfl zr24_tg) (hK _ _ (Eng.below_al _ _) ⟨_, rfl, Eng.blk_al _ _ _ rfl, hbW.size⟩)
      · refine ⟨fun _ => ?_, fun h_ => absurd h_ (by decide)⟩
        intro u' W hbV hkp hdp K hK
        have hbW := Eng.GrL.of_below (E := []) (w := w24) hbV
        obtain ⟨gd26_9, e9, hkx9, hlx9⟩ : (fun (v : Value) (W : World) => ∃ g, v = .pointer (some ⟨g, 0, none⟩) ∧ Blk W g 24 (bcs Oct.dz) ∧ w24.heap.size ≤ g) (u' 12) W := hdp.1
        have e7 : u' 45 = (dg ((rotOf h l i x b).1)) := hdp.2.1
        refine Eng.sstB (FL := []) (BL := [⟨gd26_9, 24, (bcs Oct.dz), [(10, (bcs ((rotOf h l i x b).1)))]⟩]) (i := 10) (v := (dg ((rotOf h l i x b).1))) rfl rfl rfl sz24_tg rfl rfl (show Eng.opv 82 u' (.tmp 12) = (.pointer (some ⟨gd26_9, 0, none⟩)) from e9) hkx9 rfl (show Eng.opv 82 u' (.tmp 45) = (dg ((rotOf h l i x b).1)) from e7) rfl ((bcs_length _).trans (rotOf_len _ _ _ _ _)) (bcs_one _) ?_
        exact Eng.outS_st rfl (fun W2 hgr hk2 => hK W2 ⟨gd26_9, e9, hgr, hk2, hlx9⟩)
    · refine ⟨?_, trivial⟩
      · refine ⟨fun uP v V W ⟨g, h1, h2⟩ => ⟨g, (Eng.upd_other uP 46 v 12 (by decide)).trans h1, h2⟩, fun o ho u' V W hdp K hK => ?_⟩
        obtain rfl := Eng.someInj ho
        have e6 : u' 38 = (.tuple #[(dg ((rotOf h l i x b).1)), (.int .i64 ((rotOf h l i x b).2))]) := hdp.1
        refine Eng.dv rfl rfl ?_ (hK _ rfl)
        exact (Eng.x_ext (v := (.int .i64 ((rotOf h l i x b).2))) rfl (show Eng.opv 82 u' (.tmp 38) = (.tuple #[(dg ((rotOf h l i x b).1)), (.int .i64 ((rotOf h l i x b).2))]) from e6) rfl)
    · intro ud26 w26 wB26 hb26 hkp26 ⟨f26_0, f26_1, f26_2, f26_3, f26_4, f26_5, f26_6, f26_7, f26_8, ⟨gd26_9, f26_9, hkd26_9, hld26_9⟩, _, _⟩ ⟨gP26, eP26, hgP26, hkP26, hlP26⟩
      obtain rfl := Eng.collectS (l := [(39, (.agg #[(.int .i64 h), (.int .i64 l), (.int .i64 i), (.int .i64 x)])), (40, v9), (41, v), (42, (.int .i64 (b.length : Int))), (43, (Eng.sCut v9 0 b.length 1)), (44, (.tuple #[(dg ((rotOf h l i x b).1)), (.int .i64 ((rotOf h l i x b).2))])), (38, (.tuple #[(dg ((rotOf h l i x b).1)), (.int .i64 ((rotOf h l i x b).2))])), (45, (dg ((rotOf h l i x b).1))), (46, (.int .i64 ((rotOf h l i x b).2))), (12, (.pointer (some ⟨gP26, 0, none⟩)))]) hkp26 ⟨f26_0, f26_1, f26_2, f26_3, f26_4, f26_5, f26_6, f26_7, f26_8, eP26, trivial⟩ rfl
      refine Eng.sv rfl rfl (Eng.x_as (v := (.int .i64 ((rotOf h l i x b).2))) rfl rfl) ?_
      refine Eng.nil ?_
      refine hK25 _ _ ?_
      refine Eng.seqk fun K32 hK32 => ?_
      refine Eng.reg ?_
      have hB1_10 : Below w2.heap.size w2 w23 := (hB1_9).trans (hb23.mono (hB1_9).size)
      have hB1_11 : Below w2.heap.size w2 w24 := (hB1_10).grown hg24 (hB1_10).size (fun k e => by cases e; exact Nat.le_trans (hB1_9).size (Nat.le_refl _))
      have hk33 := ((hk27).below hb26).grown hgP26 (fun e => absurd (Option.some.inj e) (Nat.ne_of_lt (Nat.lt_of_lt_of_le hz2 (Nat.le_trans (hB1_11).size hlP26))))
      refine Eng.sv rfl rfl (Eng.x_ldB (v := (.agg #[(.int .i64 h), (.int .i64 l), (.int .i64 i), (.int .i64 x)])) rfl ag82_tg sz82_tg rfl hk33 rfl rfl) ?_
      refine Eng.sv rfl rfl (Eng.x_mv (v := v) rfl rfl) ?_
      have hB0_12 : Below w.heap.size w w26 := (hB0_11).trans (hb26.mono (hB0_11).size)
      have hB0_13 : Below w.heap.size w wB26 := (hB0_12).grown hgP26 (hB0_12).size (fun k e => by cases e; exact Nat.le_trans (hB0_11).size hlP26)
      have hr34 := (hb).below hB0_13
      refine Eng.sc rfl (Eng.xc (vl := [(.agg #[(.int .i64 h), (.int .i64 l), (.int .i64 i), (.int .i64 x)]), v]) rfl rfl rfl en48_tg) (rtroott_calls h l i x _ b _ ⟨(hr34).1, hb.2⟩) ?_
      rintro _ w35 ⟨rfl, hb35⟩
      refine Eng.aft_v rfl ?_
      refine Eng.sv rfl rfl (Eng.x_mv (v := (.tuple #[(dg ((rotOf h l i x b).1)), (.int .i64 ((rotOf h l i x b).2))])) rfl rfl) ?_
      refine Eng.sv rfl rfl (Eng.x_ext (v := (dg ((rotOf h l i x b).1))) rfl rfl rfl) ?_
      refine Eng.sv rfl rfl (Eng.x_ext (v := (.int .i64 ((rotOf h l i x b).2))) rfl rfl rfl) ?_
      refine Eng.al rfl rfl rfl zr24_tg (cs := (bcs Oct.dz)) rfl ?_
      intro w36 hk36 hb36 hz36
      refine Eng.stB (v := (dg ((rotOf h l i x b).1))) rfl rfl rfl sz24_tg rfl hk36 rfl rfl (cs' := (bcs ((rotOf h l i x b).1))) rfl ((bcs_length _).trans (rotOf_len _ _ _ _ _)) (bcs_one _) ?_
      intro w37 hk37 hg37
      refine Eng.sv rfl rfl (Eng.x_as (v := (.int .i64 ((rotOf h l i x b).2))) rfl rfl) ?_
      refine Eng.nil ?_
      refine hK32 _ _ ?_
      refine Eng.seqk fun K38 hK38 => ?_
      refine Eng.reg ?_
      have hB8_10 : Below wB12.heap.size wB12 w23 := (hb22).trans (hb23.mono (hb22).size)
      have hB8_11 : Below wB12.heap.size wB12 w24 := (hB8_10).grown hg24 (hB8_10).size (fun k e => by cases e; exact Nat.le_trans (hb22).size (Nat.le_refl _))
      have hB8_12 : Below wB12.heap.size wB12 w26 := (hB8_11).trans (hb26.mono (hB8_11).size)
      have hB8_13 : Below wB12.heap.size wB12 wB26 := (hB8_12).grown hgP26 (hB8_12).size (fun k e => by cases e; exact Nat.le_trans (hB8_11).size hlP26)
      have hB8_14 : Below wB12.heap.size wB12 w35 := (hB8_13).trans (hb35.mono (hB8_13).size)
      have hk39 := ((((((((hkP12).below hb22).below hb23).grown hg24 (fun e => absurd (Option.some.inj e) (Nat.ne_of_lt (Nat.lt_of_lt_of_le (hkP12).lt (Nat.le_trans (hb22).size (Nat.le_refl _)))))).below hb26).grown hgP26 (fun e => absurd (Option.some.inj e) (Nat.ne_of_lt (Nat.lt_of_lt_of_le (hkP12).lt (Nat.le_trans (hB8_11).size hlP26))))).below hb35).below hb36).grown hg37 (fun e => absurd (Option.some.inj e) (Nat.ne_of_lt (Nat.lt_of_lt_of_le (hkP12).lt (Nat.le_trans (hB8_14).size (Nat.le_refl _)))))
      refine Eng.sv rfl rfl (Eng.x_ldB (v := (dg ((digOf h l i x nl ni b).1))) rfl ag24_tg sz24_tg rfl hk39 ((bcs_length _).trans (digOf_len _ _ _ _ _ _ _)) rfl) ?_
      have hk40 := (((((hk24).below hb26).grown hgP26 (fun e => absurd (Option.some.inj e) (Nat.ne_of_lt (Nat.lt_of_lt_of_le hz23 (Nat.le_trans (hg24).size hlP26))))).below hb35).below hb36).grown hg37 (fun e => absurd (Option.some.inj e) (Nat.ne_of_lt (Nat.lt_of_lt_of_le hz23 (Nat.le_trans (Nat.le_trans (Nat.le_trans (Nat.le_trans (hg24).size (hb26).size) (hgP26).size) (hb35).size) (Nat.le_refl _)))))
      refine Eng.sv rfl rfl (Eng.x_ldB (v := (dg ((digOf h l i x nl ni b).1))) rfl ag24_tg sz24_tg rfl hk40 ((bcs_length _).trans (digOf_len _ _ _ _ _ _ _)) rfl) ?_
      refine Eng.sv rfl rfl (Eng.x_eqA (p := ((digOf h l i x nl ni b).1)) (q := ((digOf h l i x nl ni b).1)) (r := true) rfl Tryd.underlying24 Tryd.underlying5 sz5_tg (by kernel_rfl) rfl rfl (digOf_len _ _ _ _ _ _ _) (digOf_len _ _ _ _ _ _ _) (by simp)) ?_
      refine Eng.sv rfl rfl (Eng.x_mv (v := (.bool true)) rfl rfl) ?_
      refine Eng.sv (Eng.gt rfl rfl rfl rfl) rfl (Eng.x_mv (v := (.int .i64 ((digOf h l i x nl ni b).2))) rfl rfl) ?_
      refine Eng.sv (Eng.gt rfl rfl rfl rfl) rfl (Eng.x_mv (v := (.int .i64 ((digOf h l i x nl ni b).2))) rfl rfl) ?_
      refine Eng.sv (Eng.gt rfl rfl rfl rfl) rfl (Eng.x_eq (r := true) rfl rfl rfl (Eng.eq_t (rfl))) ?_
      refine Eng.sv rfl rfl (Eng.x_pick (v := (.bool true)) rfl rfl rfl rfl rfl) ?_
      refine Eng.sv rfl rfl (Eng.x_mv (v := (.bool true)) rfl rfl) ?_
      have hk41 := (((hkP26).below hb35).below hb36).grown hg37 (fun e => absurd (Option.some.inj e) (Nat.ne_of_lt (Nat.lt_of_lt_of_le (hkP26).lt (Nat.le_trans (hb35).size (Nat.le_refl _)))))
      refine Eng.sv (Eng.gt rfl rfl rfl rfl) rfl (Eng.x_ldB (v := (dg ((rotOf h l i x b).1))) rfl ag24_tg sz24_tg rfl hk41 ((bcs_length _).trans (rotOf_len _ _ _ _ _)) rfl) ?_
      refine Eng.sv (Eng.gt rfl rfl rfl rfl) rfl (Eng.x_ldB (v := (dg ((rotOf h l i x b).1))) rfl ag24_tg sz24_tg rfl hk37 ((bcs_length _).trans (rotOf_len _ _ _ _ _)) rfl) ?_
      refine Eng.sv (Eng.gt rfl rfl rfl rfl) rfl (Eng.x_eqA (p := ((rotOf h l i x b).1)) (q := ((rotOf h l i x b).1)) (r := true) rfl Tryd.underlying24 Tryd.underlying5 sz5_tg (by kernel_rfl) rfl rfl (rotOf_len _ _ _ _ _) (rotOf_len _ _ _ _ _) (by simp)) ?_
      refine Eng.sv rfl rfl (Eng.x_pick (v := (.bool true)) rfl rfl rfl rfl rfl) ?_
      refine Eng.sv rfl rfl (Eng.x_mv (v := (.bool true)) rfl rfl) ?_
      refine Eng.sv (Eng.gt rfl rfl rfl rfl) rfl (Eng.x_mv (v := (.int .i64 ((rotOf h l i x b).2))) rfl rfl) ?_
      refine Eng.sv (Eng.gt rfl rfl rfl rfl) rfl (Eng.x_mv (v := (.int .i64 ((rotOf h l i x b).2))) rfl rfl) ?_
      refine Eng.sv (Eng.gt rfl rfl rfl rfl) rfl (Eng.x_eq (r := true) rfl rfl rfl (Eng.eq_t (rfl))) ?_
      refine Eng.sv rfl rfl (Eng.x_pick (v := (.bool true)) rfl rfl rfl rfl rfl) ?_
      refine Eng.sv rfl rfl (Eng.x_mv (v := (.bool true)) rfl rfl) ?_
      refine Eng.sv (Eng.gt rfl rfl rfl rfl) rfl (Eng.x_mv (v := v9) rfl rfl) ?_
      have hB6_10 : Below w9.heap.size w9 w23 := (hB6_9).trans (hb23.mono (hB6_9).size)
      have hB6_11 : Below w9.heap.size w9 w24 := (hB6_10).grown hg24 (hB6_10).size (fun k e => by cases e; exact Nat.le_trans (hB6_9).size (Nat.le_refl _))
      have hB6_12 : Below w9.heap.size w9 w26 := (hB6_11).trans (hb26.mono (hB6_11).size)
      have hB6_13 : Below w9.heap.size w9 wB26 := (hB6_12).grown hgP26 (hB6_12).size (fun k e => by cases e; exact Nat.le_trans (hB6_11).size hlP26)
      have hB6_14 : Below w9.heap.size w9 w35 := (hB6_13).trans (hb35.mono (hB6_13).size)
      have hr42 := (((((hr29).below hb26).kept hgP26 (.inr (fun e => absurd ((World.ownsRow.lt ho9) _ e).2 (Nat.not_lt_of_le (Nat.le_trans (hB6_11).size hlP26))))).below hb35).below hb36).kept hg37 (.inr (fun e => absurd ((World.ownsRow.lt ho9) _ e).2 (Nat.not_lt_of_le (Nat.le_trans (hB6_14).size (Nat.le_refl _)))))
      refine Eng.sv (Eng.gt rfl rfl rfl rfl) rfl (Eng.x_str (v := v9) (bs := ((b) ++ [90])) rfl Tryd.underlying22 Tryd.underlying5 Tryd.underlying9 rfl (hr42).rd) ?_
      refine Eng.sv (Eng.gt rfl rfl rfl rfl) rfl (Eng.x_mv (v := v) rfl rfl) ?_
      have hB0_14 : Below w.heap.size w w35 := (hB0_13).trans (hb35.mono (hB0_13).size)
      have hB0_15 : Below w.heap.size w w36 := (hB0_14).trans (hb36.mono (hB0_14).size)
      have hB0_16 : Below w.heap.size w w37 := (hB0_15).grown hg37 (hB0_15).size (fun k e => by cases e; exact Nat.le_trans (hB0_14).size (Nat.le_refl _))
      have hr43 := (hb).below hB0_16
      refine Eng.sv (Eng.gt rfl rfl rfl rfl) rfl (Eng.x_str (v := v) (bs := b) rfl Tryd.underlying22 Tryd.underlying5 Tryd.underlying9 rfl (hr43).1) ?_
      refine Eng.sv (Eng.gt rfl rfl rfl rfl) rfl (Eng.x_addS (p := b) (q := [90]) (r := (b ++ [90])) rfl rfl rfl rfl (by simp only [List.length_append, List.length_cons, List.length_nil] at *; omega)) ?_
      refine Eng.sv (Eng.gt rfl rfl rfl rfl) rfl (Eng.x_eqS (p := ((b) ++ [90])) (q := (b ++ [90])) (r := true) rfl rfl rfl (by simp)) ?_
      refine Eng.sv rfl rfl (Eng.x_pick (v := (.bool true)) rfl rfl rfl rfl rfl) ?_
      refine Eng.sv rfl rfl (Eng.x_mv (v := (.bool true)) rfl rfl) ?_
      refine Eng.sc (Eng.gt rfl rfl rfl rfl) (Eng.xc (vl := []) rfl rfl rfl en49_tg) (names_calls _) ?_
      rintro _ w44 ⟨rfl, hb44⟩
      refine Eng.aft_v rfl ?_
      refine Eng.sv rfl rfl (Eng.x_pick (v := (.bool true)) rfl rfl rfl rfl rfl) ?_
      refine Eng.sv rfl rfl (Eng.x_as (v := (.bool true)) rfl rfl) ?_
      refine Eng.nil ?_
      refine hK38 _ _ ?_
      refine Eng.rt ?_
      refine Eng.ret (Eng.res1 (v1 := (.bool true)) rfl (Eng.rdt rfl)) ?_
      have hB0_17 : Below w.heap.size w w44 := (hB0_16).trans (hb44.mono (hB0_16).size)
      exact ⟨rfl, hB0_17⟩
end Go.Proofs.YtojenflknjhmkaaDoor.Tid
