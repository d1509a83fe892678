/- tree.Root. -/
import Derived.Test.YtojenflknjhmkaaDoorRoo
import Derived.Test.YtojenflknjhmkaaDoorVfy
namespace Go.Proofs.YtojenflknjhmkaaDoor.TreP
open Go Go.RowKit Go.Proofs.YtojenflknjhmkaaDoor Go.Proofs.YtojenflknjhmkaaDoor.Cop Go.Proofs.YtojenflknjhmkaaDoor.Ver Go.Proofs.YtojenflknjhmkaaDoor.Tre Go.Proofs.YtojenflknjhmkaaDoor.Vfy Go.Proofs.YtojenflknjhmkaaDoor.Oct Go.Proofs.YtojenflknjhmkaaDoor.Dsl Go.Proofs.YtojenflknjhmkaaDoor.Sha
set_option linter.unusedVariables false
set_option linter.unusedSimpArgs false
theorem zr24_rt (w : World) : (zeroValue 24).run Tryd.prog w = .ok (dg Oct.dz) w := by kernel_rfl
theorem en115_rt : Eng.Entr Tryd.prog 115 := ⟨_, Tryd.func115, by kernel_rfl, by kernel_rfl⟩
theorem sz24_rt : (Tryd.prog.info? 24).map (fun i => i.size) = some 32 := by kernel_rfl
theorem ag24_rt (w : World) : (isAgg 24).run Tryd.prog w = .ok true w := by kernel_rfl
theorem en59_rt : Eng.Entr Tryd.prog 59 := ⟨_, Tryd.func59, by kernel_rfl, by kernel_rfl⟩
theorem zr105_rt (w : World) : (zeroValue 105).run Tryd.prog w = .ok (.agg ((.int .i64 0) :: (bcs Oct.dz) : List Value).toArray) w := by kernel_rfl
theorem sz105_rt : (Tryd.prog.info? 105).map (fun i => i.size) = some 33 := by kernel_rfl
theorem ag105_rt (w : World) : (isAgg 105).run Tryd.prog w = .ok true w := by kernel_rfl
theorem inL105_rt : (Tryd.prog.info? 105).map (fun i => (i.zero, i.size, i.bytes)) = some (some (.agg (encP (0, Oct.dz)).toArray), 33, 40) := by kernel_rfl
theorem ag3_rt (w : World) : (isAgg 3).run Tryd.prog w = .ok false w := by kernel_rfl
theorem en60_rt : Eng.Entr Tryd.prog 60 := ⟨_, Tryd.func60, by kernel_rfl, by kernel_rfl⟩
theorem en61_rt : Eng.Entr Tryd.prog 61 := ⟨_, Tryd.func61, by kernel_rfl, by kernel_rfl⟩
theorem en117_rt : Eng.Entr Tryd.prog 117 := ⟨_, Tryd.func117, by kernel_rfl, by kernel_rfl⟩
theorem updZ2 (u : Nat → Value) (p q : Nat) (a b : Value) : Eng.updZ u #[p, q] #[a, b] = Eng.upd (Eng.upd u p a) q b := by simp [Eng.updZ]
theorem own_at {w : World} {base : Nat} {e : TypeId} {sz : Nat} {v : Value} {n : Nat} {xs : List Value} (h : w.ownsRow base e sz v n xs) {g7 z : Nat} (hg : ∀ g, v.ownBlock = some g → g ≠ g7) (hz : z < w.heap.size) (hz7 : z ≠ g7) : ∃ y, y < w.heap.size ∧ (∀ a n c, v = .slice (some a) n c → a.block = y) ∧ y ≠ g7 := by
  rcases h.2 with ⟨rfl, _⟩ | ⟨g, cap, cur, rfl, _, hh, _⟩
  · exact ⟨z, hz, (fun a n c e => by cases e), hz7⟩
  · exact ⟨g, (Array.getElem?_eq_some_iff.1 hh).1, (fun a n c e => by cases e; rfl), hg g rfl⟩
theorem rev_last {q : Nat × List UInt8} {r s : List (Nat × List UInt8)} (h : s = q :: r) : s.reverse.getD (s.reverse.length - 1) dP = q ∧ s.reverse.take (s.reverse.length - 1) = r.reverse := by
  subst h
  rw [List.reverse_cons, List.length_append]
  simp
theorem cons_of {s : List (Nat × List UInt8)} (h : ¬ s.length = 0) : ∃ q r, s = q :: r := by
  cases s with
  | nil => exact absurd rfl h
  | cons q r => exact ⟨q, r, rfl⟩
theorem all32_sub {a b c : List (List UInt8)} (h : All32 c) {k : Nat} (e : a ++ b = c.take k) : All32 b := fun d hd => h d (List.mem_of_mem_take (by rw [← e]; exact List.mem_append_right _ hd))
theorem len_sub {a b c : List (List UInt8)} {k : Nat} (e : a ++ b = c.take k) : a.length + b.length ≤ c.length := by
  have := congrArg List.length e
  rw [List.length_append, List.length_take] at this; omega
set_option maxRecDepth 100000 in
set_option maxHeartbeats 4000000 in
theorem empty_calls (w : World) (hK : Kon w) : Calls Tryd.prog 59 #[] w (fun e w' => e = .returned (dg (sha [])) ∧ Below w.heap.size w w') := by
  refine Eng.enter (l := []) Tryd.func59 rfl 2 rfl (by simp) ?_
  refine Eng.seqk fun K1 hK1 => ?_
  refine Eng.reg ?_
  refine Eng.al rfl rfl rfl zr24_rt (cs := (bcs Oct.dz)) rfl ?_
  intro w2 hk2 hb2 hz2
  refine Eng.nil ?_
  refine hK1 _ _ ?_
  refine Eng.seqk fun K3 hK3 => ?_
  refine Eng.reg ?_
  have hr4 := (hK).below hb2
  refine Eng.sc rfl (Eng.xc (vl := [(.slice none 0 0)]) rfl rfl rfl en115_rt) (hsum_calls (.slice none 0 0) [] _ (Row.nil _) (fun _ _ _ e => by cases e) (by simp) hr4) ?_
  rintro _ w5 ⟨rfl, hb5⟩
  refine Eng.aft_v rfl ?_
  have hk6 := (hk2).below hb5
  refine Eng.stB (v := (dg (sha []))) rfl rfl rfl sz24_rt rfl hk6 rfl rfl (cs' := (bcs (sha []))) rfl ((bcs_length _).trans (sha_len _)) (bcs_one _) ?_
  intro w7 hk7 hg7
  refine Eng.nil ?_
  refine hK3 _ _ ?_
  refine Eng.rt ?_
  refine Eng.ret (Eng.res1 (v1 := (dg (sha []))) rfl (Eng.rdc rfl (Eng.lvB ag24_rt sz24_rt hk7 ((bcs_length _).trans (sha_len _)) rfl))) ?_
  have hB0_2 : Below w.heap.size w w5 := (hb2).trans (hb5.mono (hb2).size)
  have hB0_3 : Below w.heap.size w w7 := (hB0_2).grown hg7 (hB0_2).size (fun k e => by cases e; exact Nat.le_trans (Nat.le_refl _) (Nat.le_refl _))
  exact ⟨rfl, hB0_3⟩
set_option maxRecDepth 100000 in
set_option maxHeartbeats 4000000 in
theorem troot_calls (v : Value) (ds : List (List UInt8)) (w : World) (h : Ds w v ds) (hm : ds.length ≤ 281474976710656) (hK : Kon w) : Calls Tryd.prog 21 #[v] w (fun e w' => e = .returned (dg (rootS ds)) ∧ Below w.heap.size w w') := by
  have hsm := h.1.small
  refine Eng.enterM (l := [v]) Tryd.func21 rfl 81 rfl (by simp) ?_
  refine Eng.seqk fun K1 hK1 => ?_
  refine Eng.reg ?_
  refine Eng.al rfl rfl rfl zr24_rt (cs := (bcs Oct.dz)) rfl ?_
  intro w2 hk2 hb2 hz2
  refine Eng.nil ?_
  refine hK1 _ _ ?_
  refine Eng.seqk fun K3 hK3 => ?_
  refine Eng.seqk fun K4 hK4 => ?_
  refine Eng.reg ?_
  refine Eng.sv rfl rfl (Eng.x_mv (v := v) rfl rfl) ?_
  have hr5 := (h).below hb2
  refine Eng.sv rfl rfl (Eng.x_len (v := v) (r := (ds.length : Int)) rfl Tryd.underlying29 rfl (hr5).1 rfl) ?_
  by_cases h12 : ((ds.length : Int) : Int) = 0
  · skip
    refine Eng.sv rfl rfl (Eng.x_eq (r := true) rfl rfl rfl (Eng.eq_t (by omega))) ?_
    refine Eng.nil ?_
    refine hK4 _ _ ?_
    refine Eng.cond_t rfl ?_
    refine Eng.seqk fun K6 hK6 => ?_
    refine Eng.reg ?_
    have hr7 := (hK).below hb2
    refine Eng.sc rfl (Eng.xc (vl := []) rfl rfl rfl en59_rt) (empty_calls _ hr7) ?_
    rintro _ w8 ⟨rfl, hb8⟩
    refine Eng.aft_v rfl ?_
    have hk9 := (hk2).below hb8
    refine Eng.stB (v := (dg (sha []))) rfl rfl rfl sz24_rt rfl hk9 rfl rfl (cs' := (bcs (sha []))) rfl ((bcs_length _).trans (sha_len _)) (bcs_one _) ?_
    intro w10 hk10 hg10
    refine Eng.nil ?_
    refine hK6 _ _ ?_
    refine Eng.rt ?_
    refine Eng.tr ?_
    refine Eng.retM (Eng.res1 (v1 := (dg (sha []))) rfl (Eng.rdc rfl (Eng.lvB ag24_rt sz24_rt hk10 ((bcs_length _).trans (sha_len _)) rfl))) ?_
    have hB0_2 : Below w.heap.size w w8 := (hb2).trans (hb8.mono (hb2).size)
    have hB0_3 : Below w.heap.size w w10 := (hB0_2).grown hg10 (hB0_2).size (fun k e => by cases e; exact Nat.le_trans (Nat.le_refl _) (Nat.le_refl _))
    exact ⟨by unfold rootS; rw [if_pos (by omega)], hB0_3⟩
  · skip
    have hR32 : (R ds).length = 32 := R_len ds h.2 (by omega)
    refine Eng.sv rfl rfl (Eng.x_eq (r := false) rfl rfl rfl (Eng.eq_f (by omega))) ?_
    refine Eng.nil ?_
    refine hK4 _ _ ?_
    refine Eng.cond_f rfl ?_
    refine Eng.skp ?_
    refine hK3 _ _ ?_
    refine Eng.seqk fun K11 hK11 => ?_
    refine Eng.reg ?_
    refine Eng.sv rfl rfl (Eng.x_as (v := (.slice none 0 0)) rfl rfl) ?_
    refine Eng.nil ?_
    refine hK11 _ _ ?_
    refine Eng.seqk fun K12 hK12 => ?_
    refine Eng.seqk fun K13 hK13 => ?_
    refine Eng.reg ?_
    refine Eng.sv rfl rfl (Eng.x_mv (v := v) rfl rfl) ?_
    refine Eng.sv rfl rfl (Eng.x_len (v := v) (r := (ds.length : Int)) rfl Tryd.underlying29 rfl (hr5).1 rfl) ?_
    refine Eng.sv rfl rfl (Eng.x_mv (v := (.int .i64 0)) rfl rfl) ?_
    refine Eng.nil ?_
    refine hK13 _ _ ?_
    refine Eng.blk ?_
    refine Eng.loopN (fun zz u w' => ∃ (k : Nat), ∃ (s : List (Nat × List UInt8)), ∃ (vp : Value), zz = ds.length - k ∧ k ≤ ds.length ∧ PK s (ds.take k) 0 ∧ Eng.Has u [(2, (.pointer (some ⟨w.heap.size, 0, none⟩))), (3, vp), (14, v), (15, (.int .i64 (ds.length : Int))), (16, (.int .i64 (k : Int)))] ∧ Below w.heap.size w w' ∧ w2.heap.size ≤ w'.heap.size ∧ Blk w' w.heap.size 24 (bcs Oct.dz) ∧ Eng.OwnL 105 33 encP w2.heap.size w' vp s.reverse) _ ⟨0, [], (.slice none 0 0), rfl, Nat.zero_le _, rfl, ⟨rfl, rfl, rfl, rfl, (Eng.ie (by first | omega | rfl)), trivial⟩, hb2, (Nat.le_refl _), hk2, (Eng.OwnL.nil _ _ _ _ _)⟩ ?_
    rintro _ u14 w14 ⟨k, s, vp, rfl, hs14_0, hs14_1, hH14, hBL14, hzL14, hkL14_0, hrL14_0⟩ K14 hK14
    obtain ⟨u14, rfl⟩ := hH14.ex
    have hk_ : k ≤ ds.length := hs14_0
    have hs_ : PK s (ds.take k) 0 := hs14_1
    refine Eng.seqk fun K15 hK15 => ?_
    refine Eng.reg ?_
    by_cases h17 : ((k : Int) : Int) < (ds.length : Int)
    · skip
      refine Eng.sv rfl rfl (Eng.x_lt (r := true) rfl rfl rfl (decide_eq_true (by omega))) ?_
      refine Eng.nil ?_
      refine hK15 _ _ ?_
      refine Eng.seqk fun K16 hK16 => ?_
      refine Eng.cond_t rfl ?_
      refine Eng.skp ?_
      refine hK16 _ _ ?_
      refine Eng.seqk fun K17 hK17 => ?_
      refine Eng.blk ?_
      refine Eng.seqk fun K18 hK18 => ?_
      refine Eng.reg ?_
      have hr19 := (h).below hBL14
      refine Eng.sv rfl rfl (Eng.x_ia (v := v) (j := k) rfl Tryd.underlying29 sz24_rt (by decide) rfl rfl (hr19).1 (Dsl.dcs_len _ (hr19).2) (by omega) (by omega)) ?_
      refine Eng.sv rfl rfl (Eng.x_ldA (v := (dg ((ds).getD k []))) rfl ag24_rt sz24_rt rfl ((bcs_length _).trans (Eng.ds_len hr19 (by omega))) (Eng.ds_at hr19 (by omega)) rfl) ?_
      refine Eng.al rfl rfl rfl zr24_rt (cs := (bcs Oct.dz)) rfl ?_
      intro w20 hk20 hb20 hz20
      refine Eng.stB (v := (dg ((ds).getD k []))) rfl rfl rfl sz24_rt rfl hk20 rfl rfl (cs' := (bcs ((ds).getD k []))) rfl ((bcs_length _).trans (Eng.ds_len hr19 (by omega))) (bcs_one _) ?_
      intro w21 hk21 hg21
      refine Eng.nil ?_
      refine hK18 _ _ ?_
      refine Eng.seqk fun K22 hK22 => ?_
      refine Eng.reg ?_
      refine Eng.sv rfl rfl (Eng.x_ldB (v := (dg ((ds).getD k []))) rfl ag24_rt sz24_rt rfl hk21 ((bcs_length _).trans (Eng.ds_len hr19 (by omega))) rfl) ?_
      refine Eng.sv rfl rfl (Eng.x_build (ps := [(0, (.int .i64 1)), (1, (dg ((ds).getD k [])))]) (v := (.agg ((.int .i64 1) :: (bcs ((ds).getD k [])) : List Value).toArray)) rfl rfl (bldP 1 ((ds).getD k []) (Eng.ds_len hr19 (by omega)) _)) ?_
      refine Eng.al rfl rfl rfl zr105_rt (cs := ((.int .i64 0) :: (bcs Oct.dz))) rfl ?_
      intro w23 hk23 hb23 hz23
      refine Eng.stB (v := (.agg ((.int .i64 1) :: (bcs ((ds).getD k [])) : List Value).toArray)) rfl rfl rfl sz105_rt rfl hk23 (Eng.len_cons (.int .i64 0) (Eng.len_dg Oct.dz_length)) rfl (cs' := ((.int .i64 1) :: (bcs ((ds).getD k [])))) rfl (Eng.len_cons (.int .i64 1) (Eng.len_dg (Eng.ds_len hr19 (by omega)))) (Eng.one_cons rfl (bcs_one _)) ?_
      intro w24 hk24 hg24
      refine Eng.nil ?_
      refine hK22 _ _ ?_
      refine Eng.seqk fun K25 hK25 => ?_
      refine Eng.blk ?_
      have hx32 : (ds.getD k []).length = 32 := by rw [List.getD_eq_getElem?_getD, List.getElem?_eq_getElem (by omega)]; exact h.2 _ (List.getElem_mem _)
      have q26 : Blk w24 w21.heap.size 105 (.int .i64 ((2 ^ 0 : Nat) : Int) :: bcs (R [ds.getD k []])) := by rw [R_one [ds.getD k []] (by simp)]; exact hk24
      have hcat : ds.take k ++ [ds.getD k []] = ds.take (k + 1) := by rw [take_snoc ds k (by omega), List.getD_eq_getElem?_getD, List.getElem?_eq_getElem (by omega)]; rfl
      have hB2_4 : Below w14.heap.size w14 w21 := (hb20).grown hg21 (hb20).size (fun k e => by cases e; exact Nat.le_trans (Nat.le_refl _) (Nat.le_refl _))
      have hr27 := ((((hrL14_0).below hb20).kept hg21 (.inr (fun e => absurd ((World.ownsRow.lt (hrL14_0).1) _ e).2 (Nat.not_lt_of_le (Nat.le_trans (Nat.le_refl _) (Nat.le_refl _)))))).below hb23).kept hg24 (.inr (fun e => absurd ((World.ownsRow.lt (hrL14_0).1) _ e).2 (Nat.not_lt_of_le (Nat.le_trans (hB2_4).size (Nat.le_refl _)))))
      have hk29 := ((((hkL14_0).below hb20).grown hg21 (fun e => absurd (Option.some.inj e) (Nat.ne_of_lt (Nat.lt_of_lt_of_le hz2 (Nat.le_trans hzL14 (Nat.le_refl _)))))).below hb23).grown hg24 (fun e => absurd (Option.some.inj e) (Nat.ne_of_lt (Nat.lt_of_lt_of_le hz2 (Nat.le_trans (Nat.le_trans (Nat.le_trans hzL14 (hb20).size) (hg21).size) (Nat.le_refl _)))))
      have hB0_3 : Below w.heap.size w w20 := (hBL14).trans (hb20.mono (hBL14).size)
      have hB0_4 : Below w.heap.size w w21 := (hB0_3).grown hg21 (hB0_3).size (fun k e => by cases e; exact Nat.le_trans (hBL14).size (Nat.le_refl _))
      have hB0_5 : Below w.heap.size w w23 := (hB0_4).trans (hb23.mono (hB0_4).size)
      have hB0_6 : Below w.heap.size w w24 := (hB0_5).grown hg24 (hB0_5).size (fun k e => by cases e; exact Nat.le_trans (hB0_4).size (Nat.le_refl _))
      refine Eng.loopN (fun zz u w' => ∃ (j : Nat), ∃ (s1 : List (Nat × List UInt8)), ∃ (a1 : List (List UInt8)), ∃ (b1 : List (List UInt8)), ∃ (vi : Value), zz = s1.length ∧ PK s1 a1 j ∧ b1.length = 2 ^ j ∧ a1 ++ b1 = ds.take (k + 1) ∧ Eng.Has u [(2, (.pointer (some ⟨w.heap.size, 0, none⟩))), (3, vi), (6, (.pointer (some ⟨w21.heap.size, 0, none⟩))), (14, v), (15, (.int .i64 (ds.length : Int))), (16, (.int .i64 (k : Int)))] ∧ Below w.heap.size w w' ∧ w24.heap.size ≤ w'.heap.size ∧ Blk w' w.heap.size 24 (bcs Oct.dz) ∧ Blk w' w21.heap.size 105 ((.int .i64 ((2 ^ j : Nat) : Int)) :: (bcs (R b1))) ∧ Eng.OwnL 105 33 encP w2.heap.size w' vi s1.reverse ∧ (∀ g_, vi.ownBlock = some g_ → g_ < w21.heap.size)) _ ⟨0, s, ds.take k, [ds.getD k []], vp, rfl, hs_, rfl, hcat, ⟨rfl, rfl, rfl, rfl, rfl, rfl, trivial⟩, hB0_6, (Nat.le_refl _), hk29, q26, hr27, (fun g_ e_ => Nat.lt_of_lt_of_le ((World.ownsRow.lt (hrL14_0).1) g_ e_).2 (hB2_4).size)⟩ ?_
      rintro _ u28 w28 ⟨j, s1, a1, b1, vi, rfl, hs28_0, hs28_1, hs28_2, hH28, hBL28, hzL28, hkL28_0, hkL28_1, hrL28_0, hvlt⟩ K28 hK28
      obtain ⟨u28, rfl⟩ := hH28.ex
      have hPK : PK s1 a1 j := hs28_0
      have hbl : b1.length = 2 ^ j := hs28_1
      have hab : a1 ++ b1 = ds.take (k + 1) := hs28_2
      have hj0 : 0 < 2 ^ j := Nat.pos_of_ne_zero (by simp)
      have hRb : (R b1).length = 32 := R_len b1 (all32_sub h.2 hab) (by omega)
      have hlen := len_sub hab
      have hsh : s1.length ≤ 50 := PK.short hPK (by omega)
      have hlr : s1.reverse.length = s1.length := List.length_reverse
      have hP : ∀ p ∈ s1.reverse, p.2.length = 32 := fun p hp => PK.mem32 hPK (fun d hd => h.2 d (List.mem_of_mem_take (by rw [← hab]; exact List.mem_append_left _ hd))) p (List.mem_reverse.1 hp)
      have hltV : ∀ g_, vi.ownBlock = some g_ → w2.heap.size ≤ g_ ∧ g_ < w21.heap.size := fun g_ e_ => ⟨((World.ownsRow.lt (hrL28_0).1) g_ e_).1, hvlt g_ e_⟩
      refine Eng.seqk fun K30 hK30 => ?_
      refine Eng.seqk fun K31 hK31 => ?_
      by_cases hz : s1.length = 0
      · skip
        have hst : s1 = [] ∨ ∃ q r, s1 = q :: r ∧ q.1 ≠ 2 ^ j := .inl (List.eq_nil_of_length_eq_zero hz)
        refine Eng.draw 15 [fun (vQ : Value) (_ : World) => vQ = vi, fun (vQ : Value) (_ : World) => vQ = (.int .i64 (s1.reverse.length : Int)), fun (vQ : Value) (_ : World) => vQ = (.bool false), fun (vQ : Value) (_ : World) => vQ = (.bool false), fun (vQ : Value) (_ : World) => vQ = undef, fun (vQ : Value) (_ : World) => vQ = undef, fun (vQ : Value) (_ : World) => vQ = undef, fun (vQ : Value) (_ : World) => vQ = undef, fun (vQ : Value) (_ : World) => vQ = undef, fun (vQ : Value) (_ : World) => vQ = undef, fun (vQ : Value) (_ : World) => vQ = undef, fun (vQ : Value) (_ : World) => vQ = undef, fun (vQ : Value) (_ : World) => vQ = undef, fun (vQ : Value) (_ : World) => vQ = undef, fun (vQ : Value) (_ : World) => vQ = (.bool false)] (by kernel_rfl) (by kernel_rfl) (by kernel_rfl) (by kernel_rfl) rfl rfl ?_ ?_ ?_
        · exact ⟨fun _ _ _ h _ => h, fun _ _ _ h _ => h, fun _ _ _ h _ => h, fun _ _ _ h _ => h, fun _ _ _ h _ => h, fun _ _ _ h _ => h, fun _ _ _ h _ => h, fun _ _ _ h _ => h, fun _ _ _ h _ => h, fun _ _ _ h _ => h, fun _ _ _ h _ => h, fun _ _ _ h _ => h, fun _ _ _ h _ => h, fun _ _ _ h _ => h, fun _ _ _ h _ => h, trivial⟩
        · refine ⟨?_, ?_, ?_, ?_, ?_, ?_, ?_, ?_, ?_, ?_, ?_, ?_, ?_, ?_, ?_, trivial⟩
          · intro u' W hbW hkp hdp K hK
            refine Eng.dv rfl rfl ?_ (hK _ _ (Below.refl _ _) rfl)
            exact (Eng.x_mv (v := vi) rfl (show Eng.opv 81 u' (.tmp 3) = vi from hkp 3 rfl))
          · intro u' W hbW hkp hdp K hK
            have e0 : (fun (vQ : Value) (_ : World) => vQ = vi) (u' 22) W := hdp.1
            refine Eng.dv rfl rfl ?_ (hK _ _ (Below.refl _ _) rfl)
            exact (Eng.x_len (v := vi) (r := (s1.reverse.length : Int)) rfl Tryd.underlying103 (show Eng.opv 81 u' (.tmp 22) = vi from e0) (((hrL28_0).below hbW)).row rfl)
          · intro u' W hbW hkp hdp K hK
            have e1 : (fun (vQ : Value) (_ : World) => vQ = (.int .i64 (s1.reverse.length : Int))) (u' 23) W := hdp.1
            refine Eng.dv rfl rfl ?_ (hK _ _ (Below.refl _ _) rfl)
            exact (Eng.x_gt (r := false) rfl (show Eng.opv 81 u' (.tmp 23) = (.int .i64 (s1.reverse.length : Int)) from e1) rfl (decide_eq_false (by omega)))
          · intro u' W hbW hkp hdp K hK
            have e2 : (fun (vQ : Value) (_ : World) => vQ = (.bool false)) (u' 24) W := hdp.1
            refine Eng.dv rfl rfl ?_ (hK _ _ (Below.refl _ _) rfl)
            exact (Eng.x_mv (v := (.bool false)) rfl (show Eng.opv 81 u' (.tmp 24) = (.bool false) from e2))
          · intro u' W hbW hkp hdp K hK
            have e3 : (fun (vQ : Value) (_ : World) => vQ = (.bool false)) (u' 25) W := hdp.1
            exact Eng.dg0 (Eng.gf rfl rfl rfl (show Eng.opv 81 u' (.tmp 25) = (.bool false) from e3)) rfl (hK _ _ (Below.refl _ _) rfl)
          · intro u' W hbW hkp hdp K hK
            have e3 : (fun (vQ : Value) (_ : World) => vQ = (.bool false)) (u' 25) W := hdp.1
            exact Eng.dg0 (Eng.gf rfl rfl rfl (show Eng.opv 81 u' (.tmp 25) = (.bool false) from e3)) rfl (hK _ _ (Below.refl _ _) rfl)
          · intro u' W hbW hkp hdp K hK
            have e3 : (fun (vQ : Value) (_ : World) => vQ = (.bool false)) (u' 25) W := hdp.2.1
            exact Eng.dg0 (Eng.gf rfl rfl rfl (show Eng.opv 81 u' (.tmp 25) = (.bool false) from e3)) rfl (hK _ _ (Below.refl _ _) rfl)
          · intro u' W hbW hkp hdp K hK
            have e3 : (fun (vQ : Value) (_ : World) => vQ = (.bool false)) (u' 25) W := hdp.2.1
            exact Eng.dg0 (Eng.gf rfl rfl rfl (show Eng.opv 81 u' (.tmp 25) = (.bool false) from e3)) rfl (hK _ _ (Below.refl _ _) rfl)
          · intro u' W hbW hkp hdp K hK
            have e3 : (fun (vQ : Value) (_ : World) => vQ = (.bool false)) (u' 25) W := hdp.2.2.1
            exact Eng.dg0 (Eng.gf rfl rfl rfl (show Eng.opv 81 u' (.tmp 25) = (.bool false) from e3)) rfl (hK _ _ (Below.refl _ _) rfl)
          · intro u' W hbW hkp hdp K hK
            have e3 : (fun (vQ : Value) (_ : World) => vQ = (.bool false)) (u' 25) W := hdp.2.1
            exact Eng.dg0 (Eng.gf rfl rfl rfl (show Eng.opv 81 u' (.tmp 25) = (.bool false) from e3)) rfl (hK _ _ (Below.refl _ _) rfl)
          · intro u' W hbW hkp hdp K hK
            have e3 : (fun (vQ : Value) (_ : World) => vQ = (.bool false)) (u' 25) W := hdp.2.1
            exact Eng.dg0 (Eng.gf rfl rfl rfl (show Eng.opv 81 u' (.tmp 25) = (.bool false) from e3)) rfl (hK _ _ (Below.refl _ _) rfl)
          · intro u' W hbW hkp hdp K hK
            have e3 : (fun (vQ : Value) (_ : World) => vQ = (.bool false)) (u' 25) W := hdp.1
            exact Eng.dg0 (Eng.gf rfl rfl rfl (show Eng.opv 81 u' (.tmp 25) = (.bool false) from e3)) rfl (hK _ _ (Below.refl _ _) rfl)
          · intro u' W hbW hkp hdp K hK
            have e3 : (fun (vQ : Value) (_ : World) => vQ = (.bool false)) (u' 25) W := hdp.2.1
            exact Eng.dg0 (Eng.gf rfl rfl rfl (show Eng.opv 81 u' (.tmp 25) = (.bool false) from e3)) rfl (hK _ _ (Below.refl _ _) rfl)
          · intro u' W hbW hkp hdp K hK
            have e3 : (fun (vQ : Value) (_ : World) => vQ = (.bool false)) (u' 25) W := hdp.2.2.1
            exact Eng.dg0 (Eng.gf rfl rfl rfl (show Eng.opv 81 u' (.tmp 25) = (.bool false) from e3)) rfl (hK _ _ (Below.refl _ _) rfl)
          · intro u' W hbW hkp hdp K hK
            have e3 : (fun (vQ : Value) (_ : World) => vQ = (.bool false)) (u' 25) W := hdp.1
            have e13 : (fun (vQ : Value) (_ : World) => vQ = undef) (u' 35) W := hdp.2.1
            refine Eng.dv rfl rfl ?_ (hK _ _ (Below.refl _ _) rfl)
            exact (Eng.x_pick (v := (.bool false)) rfl (show Eng.opv 81 u' (.tmp 25) = (.bool false) from e3) (show Eng.opv 81 u' (.tmp 35) = undef from e13) rfl rfl)
        · intro ud32 w32 hb32 hkp32 ⟨f32_0, f32_1, f32_2, f32_3, f32_4, f32_5, f32_6, f32_7, f32_8, f32_9, f32_10, f32_11, f32_12, f32_13, f32_14, _⟩
          obtain rfl := Eng.collect (l := [(22, vi), (23, (.int .i64 (s1.reverse.length : Int))), (24, (.bool false)), (25, (.bool false)), (26, undef), (27, undef), (28, undef), (29, undef), (30, undef), (31, undef), (32, undef), (33, undef), (34, undef), (35, undef), (36, (.bool false))]) hkp32 ⟨f32_0, f32_1, f32_2, f32_3, f32_4, f32_5, f32_6, f32_7, f32_8, f32_9, f32_10, f32_11, f32_12, f32_13, f32_14, trivial⟩ rfl
          refine Eng.nil ?_
          refine hK31 _ _ ?_
          refine Eng.cond_f rfl ?_
          refine Eng.xt ?_
          refine Eng.te ?_
          refine Eng.te ?_
          refine Eng.be ?_
          refine hK25 _ _ ?_
          refine Eng.reg ?_
          refine Eng.sv rfl rfl (Eng.x_mv (v := vi) rfl rfl) ?_
          have hk33 := (hkL28_1).below hb32
          refine Eng.sv rfl rfl (Eng.x_ldB (v := (.agg ((.int .i64 ((2 ^ j : Nat) : Int)) :: (bcs (R b1)) : List Value).toArray)) rfl ag105_rt sz105_rt rfl hk33 (Eng.len_cons (.int .i64 ((2 ^ j : Nat) : Int)) (Eng.len_dg hRb)) rfl) ?_
          refine Eng.bs (vs := [(.agg ((.int .i64 ((2 ^ j : Nat) : Int)) :: (bcs (R b1)) : List Value).toArray)]) (cs := ((.int .i64 ((2 ^ j : Nat) : Int)) :: (bcs (R b1)))) rfl rfl rfl Tryd.underlying103 inL105_rt zP (by decide) rfl rfl (by decide) (by decide) (Eng.all_cons (p := fun v => v.cells.size = 33) (by simpa [Value.cells] using ((Eng.len_cons (.int .i64 ((2 ^ j : Nat) : Int)) (Eng.len_dg hRb)) : (((.int .i64 ((2 ^ j : Nat) : Int)) :: (bcs (R b1))) : List Value).length = 33)) Eng.all_nil) (by simp [Value.cells]) ?_
          intro w34 hk34 hb34 hz34
          have hr36 := ((hrL28_0).below hb32).below hb34
          refine Eng.apL (enc := encP) rfl rfl rfl Tryd.underlying103 inL105_rt zP (by decide) rfl hr36 rfl (Eng.rl_one (enc := encP) (sz := 33) (a := (2 ^ j, R b1)) hk34 (Eng.len_cons (.int .i64 ((2 ^ j : Nat) : Int)) (Eng.len_dg hRb))) (fun a _ c hc => one_part a c hc) (by simp only [List.length_cons, List.length_nil]; unfold maxLen; omega) (by simp only [List.length_cons, List.length_nil]; omega) (Nat.le_trans (Nat.le_trans (Nat.le_trans (Nat.le_trans (Nat.le_trans (Nat.le_trans (Nat.le_trans hzL14 (hb20).size) (hg21).size) (hb23).size) (hg24).size) hzL28) (hb32).size) (hb34).size) ?_
          intro v35 w35 ho35 hg35
          rw [← List.reverse_cons] at ho35
          refine Eng.sv rfl rfl (Eng.x_as (v := v35) rfl rfl) ?_
          refine Eng.nil ?_
          refine Eng.nb ?_
          refine hK17 _ _ ?_
          refine Eng.reg ?_
          refine Eng.sv rfl rfl (Eng.x_add rfl rfl rfl (Eng.w64 (r := ((k : Int) + 1)) (by omega))) ?_
          refine Eng.sv rfl rfl (Eng.x_mv (v := (.int .i64 ((k : Int) + 1))) rfl rfl) ?_
          refine Eng.nil ?_
          have hB0_8 : Below w.heap.size w w32 := (hBL28).trans (hb32.mono (hBL28).size)
          have hB0_9 : Below w.heap.size w w34 := (hB0_8).trans (hb34.mono (hB0_8).size)
          have hB0_10 : Below w.heap.size w w35 := (hB0_9).grown hg35 (hB0_9).size (fun k e => Nat.le_trans (hb2).size (hltV _ e).1)
          have hk37 := (((hkL28_0).below hb32).below hb34).grown hg35 (fun e => absurd (hltV _ e.symm).1 (Nat.not_le_of_lt (Nat.lt_of_lt_of_le hz2 (Nat.le_refl _))))
          exact hK14 _ _ _ ⟨k + 1, ((2 ^ j, R b1) :: s1), v35, rfl, by omega, (by rw [← hab]; exact PK.stay hPK hst hbl), ⟨rfl, rfl, rfl, rfl, (Eng.ie (by first | omega | rfl)), trivial⟩, hB0_10, (Nat.le_trans (Nat.le_trans (Nat.le_trans (Nat.le_trans (Nat.le_trans (Nat.le_trans (Nat.le_trans (Nat.le_trans hzL14 (hb20).size) (hg21).size) (hb23).size) (hg24).size) hzL28) (hb32).size) (hb34).size) (hg35).size), hk37, ho35⟩ (by omega)
      · skip
        obtain ⟨q, r, hqr⟩ := cons_of hz
        have hql := (rev_last hqr).1
        have hcut := (rev_last hqr).2
        by_cases hq : q.1 = 2 ^ j
        · skip
          obtain ⟨a2, b2, m1, m2, m3, m4⟩ := PK.merge (hqr ▸ hPK) hq hbl (by rw [List.length_append]; omega)
          have hlen2 := len_sub (m3.trans hab)
          have hRb2 : (R b2).length = 32 := R_len b2 (all32_sub h.2 (m3.trans hab)) (by rw [m2]; exact Nat.pos_of_ne_zero (by simp))
          have hp2 := Nat.pow_succ 2 j
          refine Eng.draw 15 [fun (vQ : Value) (_ : World) => vQ = vi, fun (vQ : Value) (_ : World) => vQ = (.int .i64 (s1.reverse.length : Int)), fun (vQ : Value) (_ : World) => vQ = (.bool true), fun (vQ : Value) (_ : World) => vQ = (.bool true), fun (vQ : Value) (_ : World) => vQ = vi, fun (vQ : Value) (_ : World) => vQ = vi, fun (vQ : Value) (_ : World) => vQ = (.int .i64 (s1.reverse.length : Int)), fun (vQ : Value) (_ : World) => vQ = (.int .i64 ((s1.reverse.length - 1 : Nat) : Int)), fun (vQ : Value) (_ : World) => vQ = (.pointer (some ((Eng.sAddr vi).add ((s1.reverse.length - 1) * 33)))), fun (vQ : Value) (_ : World) => vQ = (.pointer (some (((Eng.sAddr vi).add ((s1.reverse.length - 1) * 33)).add 0))), fun (vQ : Value) (_ : World) => vQ = (.int .i64 (((s1.reverse).getD (s1.reverse.length - 1) dP).1 : Int)), fun (vQ : Value) (_ : World) => vQ = (.pointer (some ⟨w21.heap.size, 0, none⟩)), fun (vQ : Value) (_ : World) => vQ = (.int .i64 ((2 ^ j : Nat) : Int)), fun (vQ : Value) (_ : World) => vQ = (.bool true), fun (vQ : Value) (_ : World) => vQ = (.bool true)] (by kernel_rfl) (by kernel_rfl) (by kernel_rfl) (by kernel_rfl) rfl rfl ?_ ?_ ?_
          · exact ⟨fun _ _ _ h _ => h, fun _ _ _ h _ => h, fun _ _ _ h _ => h, fun _ _ _ h _ => h, fun _ _ _ h _ => h, fun _ _ _ h _ => h, fun _ _ _ h _ => h, fun _ _ _ h _ => h, fun _ _ _ h _ => h, fun _ _ _ h _ => h, fun _ _ _ h _ => h, fun _ _ _ h _ => h, fun _ _ _ h _ => h, fun _ _ _ h _ => h, fun _ _ _ h _ => h, trivial⟩
          · refine ⟨?_, ?_, ?_, ?_, ?_, ?_, ?_, ?_, ?_, ?_, ?_, ?_, ?_, ?_, ?_, trivial⟩
            · intro u' W hbW hkp hdp K hK
              refine Eng.dv rfl rfl ?_ (hK _ _ (Below.refl _ _) rfl)
              exact (Eng.x_mv (v := vi) rfl (show Eng.opv 81 u' (.tmp 3) = vi from hkp 3 rfl))
            · intro u' W hbW hkp hdp K hK
              have e0 : (fun (vQ : Value) (_ : World) => vQ = vi) (u' 22) W := hdp.1
              refine Eng.dv rfl rfl ?_ (hK _ _ (Below.refl _ _) rfl)
              exact (Eng.x_len (v := vi) (r := (s1.reverse.length : Int)) rfl Tryd.underlying103 (show Eng.opv 81 u' (.tmp 22) = vi from e0) (((hrL28_0).below hbW)).row rfl)
            · intro u' W hbW hkp hdp K hK
              have e1 : (fun (vQ : Value) (_ : World) => vQ = (.int .i64 (s1.reverse.length : Int))) (u' 23) W := hdp.1
              refine Eng.dv rfl rfl ?_ (hK _ _ (Below.refl _ _) rfl)
              exact (Eng.x_gt (r := true) rfl (show Eng.opv 81 u' (.tmp 23) = (.int .i64 (s1.reverse.length : Int)) from e1) rfl (decide_eq_true (by omega)))
            · intro u' W hbW hkp hdp K hK
              have e2 : (fun (vQ : Value) (_ : World) => vQ = (.bool true)) (u' 24) W := hdp.1
              refine Eng.dv rfl rfl ?_ (hK _ _ (Below.refl _ _) rfl)
              exact (Eng.x_mv (v := (.bool true)) rfl (show Eng.opv 81 u' (.tmp 24) = (.bool true) from e2))
            · intro u' W hbW hkp hdp K hK
              have e3 : (fun (vQ : Value) (_ : World) => vQ = (.bool true)) (u' 25) W := hdp.1
              refine Eng.dv (Eng.gt rfl rfl rfl (show Eng.opv 81 u' (.tmp 25) = (.bool true) from e3)) rfl ?_ (hK _ _ (Below.refl _ _) rfl)
              exact (Eng.x_mv (v := vi) rfl (show Eng.opv 81 u' (.tmp 3) = vi from hkp 3 rfl))
            · intro u' W hbW hkp hdp K hK
              have e3 : (fun (vQ : Value) (_ : World) => vQ = (.bool true)) (u' 25) W := hdp.1
              refine Eng.dv (Eng.gt rfl rfl rfl (show Eng.opv 81 u' (.tmp 25) = (.bool true) from e3)) rfl ?_ (hK _ _ (Below.refl _ _) rfl)
              exact (Eng.x_mv (v := vi) rfl (show Eng.opv 81 u' (.tmp 3) = vi from hkp 3 rfl))
            · intro u' W hbW hkp hdp K hK
              have e3 : (fun (vQ : Value) (_ : World) => vQ = (.bool true)) (u' 25) W := hdp.2.1
              have e5 : (fun (vQ : Value) (_ : World) => vQ = vi) (u' 27) W := hdp.1
              refine Eng.dv (Eng.gt rfl rfl rfl (show Eng.opv 81 u' (.tmp 25) = (.bool true) from e3)) rfl ?_ (hK _ _ (Below.refl _ _) rfl)
              exact (Eng.x_len (v := vi) (r := (s1.reverse.length : Int)) rfl Tryd.underlying103 (show Eng.opv 81 u' (.tmp 27) = vi from e5) (((hrL28_0).below hbW)).row rfl)
            · intro u' W hbW hkp hdp K hK
              have e3 : (fun (vQ : Value) (_ : World) => vQ = (.bool true)) (u' 25) W := hdp.2.1
              have e6 : (fun (vQ : Value) (_ : World) => vQ = (.int .i64 (s1.reverse.length : Int))) (u' 28) W := hdp.1
              refine Eng.dv (Eng.gt rfl rfl rfl (show Eng.opv 81 u' (.tmp 25) = (.bool true) from e3)) rfl ?_ (hK _ _ (Below.refl _ _) rfl)
              exact (Eng.x_sub rfl (show Eng.opv 81 u' (.tmp 28) = (.int .i64 (s1.reverse.length : Int)) from e6) rfl (Eng.w64 (r := ((s1.reverse.length - 1 : Nat) : Int)) (by omega)))
            · intro u' W hbW hkp hdp K hK
              have e3 : (fun (vQ : Value) (_ : World) => vQ = (.bool true)) (u' 25) W := hdp.2.2.1
              have e4 : (fun (vQ : Value) (_ : World) => vQ = vi) (u' 26) W := hdp.1
              have e7 : (fun (vQ : Value) (_ : World) => vQ = (.int .i64 ((s1.reverse.length - 1 : Nat) : Int))) (u' 29) W := hdp.2.1
              refine Eng.dv (Eng.gt rfl rfl rfl (show Eng.opv 81 u' (.tmp 25) = (.bool true) from e3)) rfl ?_ (hK _ _ (Below.refl _ _) rfl)
              exact (Eng.x_ia (v := vi) (j := s1.reverse.length - 1) rfl Tryd.underlying103 sz105_rt (by decide) (show Eng.opv 81 u' (.tmp 26) = vi from e4) (show Eng.opv 81 u' (.tmp 29) = (.int .i64 ((s1.reverse.length - 1 : Nat) : Int)) from e7) (((hrL28_0).below hbW)).row (Eng.flat_len (((hrL28_0).below hbW)).2) (by omega) (by omega))
            · intro u' W hbW hkp hdp K hK
              have e3 : (fun (vQ : Value) (_ : World) => vQ = (.bool true)) (u' 25) W := hdp.2.1
              have e8 : (fun (vQ : Value) (_ : World) => vQ = (.pointer (some ((Eng.sAddr vi).add ((s1.reverse.length - 1) * 33))))) (u' 30) W := hdp.1
              refine Eng.dv (Eng.gt rfl rfl rfl (show Eng.opv 81 u' (.tmp 25) = (.bool true) from e3)) rfl ?_ (hK _ _ (Below.refl _ _) rfl)
              exact (Eng.x_fa (v := (.pointer (some (((Eng.sAddr vi).add ((s1.reverse.length - 1) * 33)).add 0)))) rfl (show Eng.opv 81 u' (.tmp 30) = (.pointer (some ((Eng.sAddr vi).add ((s1.reverse.length - 1) * 33)))) from e8) (by kernel_rfl))
            · intro u' W hbW hkp hdp K hK
              have e3 : (fun (vQ : Value) (_ : World) => vQ = (.bool true)) (u' 25) W := hdp.2.1
              have e9 : (fun (vQ : Value) (_ : World) => vQ = (.pointer (some (((Eng.sAddr vi).add ((s1.reverse.length - 1) * 33)).add 0)))) (u' 31) W := hdp.1
              refine Eng.dv (Eng.gt rfl rfl rfl (show Eng.opv 81 u' (.tmp 25) = (.bool true) from e3)) rfl ?_ (hK _ _ (Below.refl _ _) rfl)
              exact (Eng.x_ld1 (v := (.int .i64 (((s1.reverse).getD (s1.reverse.length - 1) dP).1 : Int))) rfl ag3_rt (show Eng.opv 81 u' (.tmp 31) = (.pointer (some (((Eng.sAddr vi).add ((s1.reverse.length - 1) * 33)).add 0))) from e9) (Eng.rl_cell (((hrL28_0).below hbW)).rl dP (by omega) rfl))
            · intro u' W hbW hkp hdp K hK
              have e3 : (fun (vQ : Value) (_ : World) => vQ = (.bool true)) (u' 25) W := hdp.1
              refine Eng.dv (Eng.gt rfl rfl rfl (show Eng.opv 81 u' (.tmp 25) = (.bool true) from e3)) rfl ?_ (hK _ _ (Below.refl _ _) rfl)
              exact (Eng.x_fa (v := (.pointer (some ⟨w21.heap.size, 0, none⟩))) rfl (show Eng.opv 81 u' (.tmp 6) = (.pointer (some ⟨w21.heap.size, 0, none⟩)) from hkp 6 rfl) (by kernel_rfl))
            · intro u' W hbW hkp hdp K hK
              have e3 : (fun (vQ : Value) (_ : World) => vQ = (.bool true)) (u' 25) W := hdp.2.1
              have e11 : (fun (vQ : Value) (_ : World) => vQ = (.pointer (some ⟨w21.heap.size, 0, none⟩))) (u' 33) W := hdp.1
              refine Eng.dv (Eng.gt rfl rfl rfl (show Eng.opv 81 u' (.tmp 25) = (.bool true) from e3)) rfl ?_ (hK _ _ (Below.refl _ _) rfl)
              exact (Eng.x_ld1 (v := (.int .i64 ((2 ^ j : Nat) : Int))) rfl ag3_rt (show Eng.opv 81 u' (.tmp 33) = (.pointer (some ⟨w21.heap.size, 0, none⟩)) from e11) ((((hkL28_1).below hbW)).cell 0))
            · intro u' W hbW hkp hdp K hK
              have e3 : (fun (vQ : Value) (_ : World) => vQ = (.bool true)) (u' 25) W := hdp.2.2.1
              have e10 : (fun (vQ : Value) (_ : World) => vQ = (.int .i64 (((s1.reverse).getD (s1.reverse.length - 1) dP).1 : Int))) (u' 32) W := hdp.1
              have e12 : (fun (vQ : Value) (_ : World) => vQ = (.int .i64 ((2 ^ j : Nat) : Int))) (u' 34) W := hdp.2.1
              refine Eng.dv (Eng.gt rfl rfl rfl (show Eng.opv 81 u' (.tmp 25) = (.bool true) from e3)) rfl ?_ (hK _ _ (Below.refl _ _) rfl)
              exact (Eng.x_eq (r := true) rfl (show Eng.opv 81 u' (.tmp 32) = (.int .i64 (((s1.reverse).getD (s1.reverse.length - 1) dP).1 : Int)) from e10) (show Eng.opv 81 u' (.tmp 34) = (.int .i64 ((2 ^ j : Nat) : Int)) from e12) (Eng.eq_t (by rw [hql]; omega)))
            · intro u' W hbW hkp hdp K hK
              have e3 : (fun (vQ : Value) (_ : World) => vQ = (.bool true)) (u' 25) W := hdp.1
              have e13 : (fun (vQ : Value) (_ : World) => vQ = (.bool true)) (u' 35) W := hdp.2.1
              refine Eng.dv rfl rfl ?_ (hK _ _ (Below.refl _ _) rfl)
              exact (Eng.x_pick (v := (.bool true)) rfl (show Eng.opv 81 u' (.tmp 25) = (.bool true) from e3) (show Eng.opv 81 u' (.tmp 35) = (.bool true) from e13) rfl rfl)
          · intro ud38 w38 hb38 hkp38 ⟨f38_0, f38_1, f38_2, f38_3, f38_4, f38_5, f38_6, f38_7, f38_8, f38_9, f38_10, f38_11, f38_12, f38_13, f38_14, _⟩
            obtain rfl := Eng.collect (l := [(22, vi), (23, (.int .i64 (s1.reverse.length : Int))), (24, (.bool true)), (25, (.bool true)), (26, vi), (27, vi), (28, (.int .i64 (s1.reverse.length : Int))), (29, (.int .i64 ((s1.reverse.length - 1 : Nat) : Int))), (30, (.pointer (some ((Eng.sAddr vi).add ((s1.reverse.length - 1) * 33))))), (31, (.pointer (some (((Eng.sAddr vi).add ((s1.reverse.length - 1) * 33)).add 0)))), (32, (.int .i64 (((s1.reverse).getD (s1.reverse.length - 1) dP).1 : Int))), (33, (.pointer (some ⟨w21.heap.size, 0, none⟩))), (34, (.int .i64 ((2 ^ j : Nat) : Int))), (35, (.bool true)), (36, (.bool true))]) hkp38 ⟨f38_0, f38_1, f38_2, f38_3, f38_4, f38_5, f38_6, f38_7, f38_8, f38_9, f38_10, f38_11, f38_12, f38_13, f38_14, trivial⟩ rfl
            refine Eng.nil ?_
            refine hK31 _ _ ?_
            refine Eng.cond_t rfl ?_
            refine Eng.skp ?_
            refine hK30 _ _ ?_
            refine Eng.blk ?_
            refine Eng.seqk fun K39 hK39 => ?_
            have hk41 := (hkL28_1).below hb38
            have hr42 := (hrL28_0).below hb38
            have hB0_8 : Below w.heap.size w w38 := (hBL28).trans (hb38.mono (hBL28).size)
            have hr43 := (hK).below hB0_8
            refine Eng.draw 14 [fun (vQ : Value) (_ : World) => vQ = (.pointer (some ⟨w21.heap.size, 0, none⟩)), fun (vQ : Value) (_ : World) => vQ = (.int .i64 ((2 ^ j : Nat) : Int)), fun (vQ : Value) (_ : World) => vQ = (.int .i64 ((2 ^ (j + 1) : Nat) : Int)), fun (vQ : Value) (_ : World) => vQ = vi, fun (vQ : Value) (_ : World) => vQ = vi, fun (vQ : Value) (_ : World) => vQ = (.int .i64 (s1.reverse.length : Int)), fun (vQ : Value) (_ : World) => vQ = (.int .i64 ((s1.reverse.length - 1 : Nat) : Int)), fun (vQ : Value) (_ : World) => vQ = (.pointer (some ((Eng.sAddr vi).add ((s1.reverse.length - 1) * 33)))), fun (vQ : Value) (_ : World) => vQ = (.pointer (some (((Eng.sAddr vi).add ((s1.reverse.length - 1) * 33)).add 1))), fun (vQ : Value) (_ : World) => vQ = (dg (((s1.reverse).getD (s1.reverse.length - 1) dP).2)), fun (vQ : Value) (_ : World) => vQ = (.pointer (some ⟨w21.heap.size, 1, none⟩)), fun (vQ : Value) (_ : World) => vQ = (dg (R b1)), fun (vQ : Value) (_ : World) => vQ = (dg (R b2)), fun (vQ : Value) (_ : World) => vQ = (.agg ((.int .i64 ((2 ^ (j + 1) : Nat) : Int)) :: (bcs (R b2)) : List Value).toArray)] (by kernel_rfl) (by kernel_rfl) (by kernel_rfl) (by kernel_rfl) rfl rfl ?_ ?_ ?_
            · exact ⟨fun _ _ _ h _ => h, fun _ _ _ h _ => h, fun _ _ _ h _ => h, fun _ _ _ h _ => h, fun _ _ _ h _ => h, fun _ _ _ h _ => h, fun _ _ _ h _ => h, fun _ _ _ h _ => h, fun _ _ _ h _ => h, fun _ _ _ h _ => h, fun _ _ _ h _ => h, fun _ _ _ h _ => h, fun _ _ _ h _ => h, fun _ _ _ h _ => h, trivial⟩
            · refine ⟨?_, ?_, ?_, ?_, ?_, ?_, ?_, ?_, ?_, ?_, ?_, ?_, ?_, ?_, trivial⟩
              · intro u' W hbW hkp hdp K hK
                refine Eng.dv rfl rfl ?_ (hK _ _ (Below.refl _ _) rfl)
                exact (Eng.x_fa (v := (.pointer (some ⟨w21.heap.size, 0, none⟩))) rfl (show Eng.opv 81 u' (.tmp 6) = (.pointer (some ⟨w21.heap.size, 0, none⟩)) from hkp 6 rfl) (by kernel_rfl))
              · intro u' W hbW hkp hdp K hK
                have e0 : (fun (vQ : Value) (_ : World) => vQ = (.pointer (some ⟨w21.heap.size, 0, none⟩))) (u' 37) W := hdp.1
                refine Eng.dv rfl rfl ?_ (hK _ _ (Below.refl _ _) rfl)
                exact (Eng.x_ld1 (v := (.int .i64 ((2 ^ j : Nat) : Int))) rfl ag3_rt (show Eng.opv 81 u' (.tmp 37) = (.pointer (some ⟨w21.heap.size, 0, none⟩)) from e0) ((((hk41).below hbW)).cell 0))
              · intro u' W hbW hkp hdp K hK
                have e1 : (fun (vQ : Value) (_ : World) => vQ = (.int .i64 ((2 ^ j : Nat) : Int))) (u' 38) W := hdp.1
                refine Eng.dv rfl rfl ?_ (hK _ _ (Below.refl _ _) rfl)
                exact (Eng.x_mul rfl rfl (show Eng.opv 81 u' (.tmp 38) = (.int .i64 ((2 ^ j : Nat) : Int)) from e1) (Eng.w64 (r := ((2 ^ (j + 1) : Nat) : Int)) (by omega)))
              · intro u' W hbW hkp hdp K hK
                refine Eng.dv rfl rfl ?_ (hK _ _ (Below.refl _ _) rfl)
                exact (Eng.x_mv (v := vi) rfl (show Eng.opv 81 u' (.tmp 3) = vi from hkp 3 rfl))
              · intro u' W hbW hkp hdp K hK
                refine Eng.dv rfl rfl ?_ (hK _ _ (Below.refl _ _) rfl)
                exact (Eng.x_mv (v := vi) rfl (show Eng.opv 81 u' (.tmp 3) = vi from hkp 3 rfl))
              · intro u' W hbW hkp hdp K hK
                have e4 : (fun (vQ : Value) (_ : World) => vQ = vi) (u' 41) W := hdp.1
                refine Eng.dv rfl rfl ?_ (hK _ _ (Below.refl _ _) rfl)
                exact (Eng.x_len (v := vi) (r := (s1.reverse.length : Int)) rfl Tryd.underlying103 (show Eng.opv 81 u' (.tmp 41) = vi from e4) (((hr42).below hbW)).row rfl)
              · intro u' W hbW hkp hdp K hK
                have e5 : (fun (vQ : Value) (_ : World) => vQ = (.int .i64 (s1.reverse.length : Int))) (u' 42) W := hdp.1
                refine Eng.dv rfl rfl ?_ (hK _ _ (Below.refl _ _) rfl)
                exact (Eng.x_sub rfl (show Eng.opv 81 u' (.tmp 42) = (.int .i64 (s1.reverse.length : Int)) from e5) rfl (Eng.w64 (r := ((s1.reverse.length - 1 : Nat) : Int)) (by omega)))
              · intro u' W hbW hkp hdp K hK
                have e3 : (fun (vQ : Value) (_ : World) => vQ = vi) (u' 40) W := hdp.1
                have e6 : (fun (vQ : Value) (_ : World) => vQ = (.int .i64 ((s1.reverse.length - 1 : Nat) : Int))) (u' 43) W := hdp.2.1
                refine Eng.dv rfl rfl ?_ (hK _ _ (Below.refl _ _) rfl)
                exact (Eng.x_ia (v := vi) (j := s1.reverse.length - 1) rfl Tryd.underlying103 sz105_rt (by decide) (show Eng.opv 81 u' (.tmp 40) = vi from e3) (show Eng.opv 81 u' (.tmp 43) = (.int .i64 ((s1.reverse.length - 1 : Nat) : Int)) from e6) (((hr42).below hbW)).row (Eng.flat_len (((hr42).below hbW)).2) (by omega) (by omega))
              · intro u' W hbW hkp hdp K hK
                have e7 : (fun (vQ : Value) (_ : World) => vQ = (.pointer (some ((Eng.sAddr vi).add ((s1.reverse.length - 1) * 33))))) (u' 44) W := hdp.1
                refine Eng.dv rfl rfl ?_ (hK _ _ (Below.refl _ _) rfl)
                exact (Eng.x_fa (v := (.pointer (some (((Eng.sAddr vi).add ((s1.reverse.length - 1) * 33)).add 1)))) rfl (show Eng.opv 81 u' (.tmp 44) = (.pointer (some ((Eng.sAddr vi).add ((s1.reverse.length - 1) * 33)))) from e7) (by kernel_rfl))
              · intro u' W hbW hkp hdp K hK
                have e8 : (fun (vQ : Value) (_ : World) => vQ = (.pointer (some (((Eng.sAddr vi).add ((s1.reverse.length - 1) * 33)).add 1)))) (u' 45) W := hdp.1
                refine Eng.dv rfl rfl ?_ (hK _ _ (Below.refl _ _) rfl)
                exact (Eng.x_ldA (v := (dg (((s1.reverse).getD (s1.reverse.length - 1) dP).2))) rfl ag24_rt sz24_rt (show Eng.opv 81 u' (.tmp 45) = (.pointer (some (((Eng.sAddr vi).add ((s1.reverse.length - 1) * 33)).add 1))) from e8) ((bcs_length _).trans (hP _ (Eng.getD_mem (d := dP) (l := s1.reverse) (by omega)))) (Eng.rl_tail (pre := [(.int .i64 (((s1.reverse).getD (s1.reverse.length - 1) dP).1 : Int))]) (mid := (bcs (((s1.reverse).getD (s1.reverse.length - 1) dP).2))) (((hr42).below hbW)).rl dP (by omega) rfl rfl) rfl)
              · intro u' W hbW hkp hdp K hK
                refine Eng.dv rfl rfl ?_ (hK _ _ (Below.refl _ _) rfl)
                exact (Eng.x_fa (v := (.pointer (some ⟨w21.heap.size, 1, none⟩))) rfl (show Eng.opv 81 u' (.tmp 6) = (.pointer (some ⟨w21.heap.size, 0, none⟩)) from hkp 6 rfl) (by kernel_rfl))
              · intro u' W hbW hkp hdp K hK
                have e10 : (fun (vQ : Value) (_ : World) => vQ = (.pointer (some ⟨w21.heap.size, 1, none⟩))) (u' 47) W := hdp.1
                refine Eng.dv rfl rfl ?_ (hK _ _ (Below.refl _ _) rfl)
                exact (Eng.x_ldA (v := (dg (R b1))) rfl ag24_rt sz24_rt (show Eng.opv 81 u' (.tmp 47) = (.pointer (some ⟨w21.heap.size, 1, none⟩)) from e10) ((bcs_length _).trans hRb) (Eng.blk_tail (pre := [(.int .i64 ((2 ^ j : Nat) : Int))]) (mid := (bcs (R b1))) ((hk41).below hbW) rfl) rfl)
              · intro u' W hbW hkp hdp K hK
                have e9 : (fun (vQ : Value) (_ : World) => vQ = (dg (((s1.reverse).getD (s1.reverse.length - 1) dP).2))) (u' 46) W := hdp.1
                have e11 : (fun (vQ : Value) (_ : World) => vQ = (dg (R b1))) (u' 48) W := hdp.2.1
                refine Eng.dc (vs := #[(dg (((s1.reverse).getD (s1.reverse.length - 1) dP).2)), (dg (R b1))]) rfl ?_ (node_eq (c := R b2) (by rw [hql]; exact m4) (hP _ (Eng.getD_mem (d := dP) (l := s1.reverse) (by omega))) hRb _ ((hr43).below hbW)) ?_
                · exact Eng.xc (xs := #[(Go.Operand.tmp 46), (Go.Operand.tmp 48)]) (vl := [(dg (((s1.reverse).getD (s1.reverse.length - 1) dP).2)), (dg (R b1))]) rfl rfl (Eng.lc (show Eng.opv 81 u' (.tmp 46) = (dg (((s1.reverse).getD (s1.reverse.length - 1) dP).2)) from e9) (Eng.lc (show Eng.opv 81 u' (.tmp 48) = (dg (R b1)) from e11) rfl)) en60_rt
                rintro _ W2 ⟨rfl, hb2⟩
                exact Eng.aft_v rfl (hK _ _ hb2 rfl)
              · intro u' W hbW hkp hdp K hK
                have e2 : (fun (vQ : Value) (_ : World) => vQ = (.int .i64 ((2 ^ (j + 1) : Nat) : Int))) (u' 39) W := hdp.1
                have e12 : (fun (vQ : Value) (_ : World) => vQ = (dg (R b2))) (u' 49) W := hdp.2.1
                refine Eng.dv rfl rfl ?_ (hK _ _ (Below.refl _ _) rfl)
                exact (Eng.x_build (ps := [(0, (.int .i64 ((2 ^ (j + 1) : Nat) : Int))), (1, (dg (R b2)))]) (v := (.agg ((.int .i64 ((2 ^ (j + 1) : Nat) : Int)) :: (bcs (R b2)) : List Value).toArray)) rfl (by exact (Eng.lc (Eng.pr (show Eng.opv 81 u' (.tmp 39) = (.int .i64 ((2 ^ (j + 1) : Nat) : Int)) from e2)) (Eng.lc (Eng.pr (show Eng.opv 81 u' (.tmp 49) = (dg (R b2)) from e12)) rfl))) (bldP (2 ^ (j + 1) : Nat) (R b2) hRb2 _))
            · intro ud40 w40 hb40 hkp40 ⟨f40_0, f40_1, f40_2, f40_3, f40_4, f40_5, f40_6, f40_7, f40_8, f40_9, f40_10, f40_11, f40_12, f40_13, _⟩
              obtain rfl := Eng.collect (l := [(37, (.pointer (some ⟨w21.heap.size, 0, none⟩))), (38, (.int .i64 ((2 ^ j : Nat) : Int))), (39, (.int .i64 ((2 ^ (j + 1) : Nat) : Int))), (40, vi), (41, vi), (42, (.int .i64 (s1.reverse.length : Int))), (43, (.int .i64 ((s1.reverse.length - 1 : Nat) : Int))), (44, (.pointer (some ((Eng.sAddr vi).add ((s1.reverse.length - 1) * 33))))), (45, (.pointer (some (((Eng.sAddr vi).add ((s1.reverse.length - 1) * 33)).add 1)))), (46, (dg (((s1.reverse).getD (s1.reverse.length - 1) dP).2))), (47, (.pointer (some ⟨w21.heap.size, 1, none⟩))), (48, (dg (R b1))), (49, (dg (R b2))), (50, (.agg ((.int .i64 ((2 ^ (j + 1) : Nat) : Int)) :: (bcs (R b2)) : List Value).toArray))]) hkp40 ⟨f40_0, f40_1, f40_2, f40_3, f40_4, f40_5, f40_6, f40_7, f40_8, f40_9, f40_10, f40_11, f40_12, f40_13, trivial⟩ rfl
              have hk44 := (hk41).below hb40
              refine Eng.stB (v := (.agg ((.int .i64 ((2 ^ (j + 1) : Nat) : Int)) :: (bcs (R b2)) : List Value).toArray)) rfl rfl rfl sz105_rt rfl hk44 (Eng.len_cons (.int .i64 ((2 ^ j : Nat) : Int)) (Eng.len_dg hRb)) rfl (cs' := ((.int .i64 ((2 ^ (j + 1) : Nat) : Int)) :: (bcs (R b2)))) rfl (Eng.len_cons (.int .i64 ((2 ^ (j + 1) : Nat) : Int)) (Eng.len_dg hRb2)) (Eng.one_cons rfl (bcs_one _)) ?_
              intro w45 hk45 hg45
              refine Eng.nil ?_
              refine hK39 _ _ ?_
              refine Eng.reg ?_
              refine Eng.sv rfl rfl (Eng.x_mv (v := vi) rfl rfl) ?_
              refine Eng.sv rfl rfl (Eng.x_mv (v := vi) rfl rfl) ?_
              have hr46 := ((hr42).below hb40).kept hg45 (.inr (fun e => absurd (hltV _ e).2 (Nat.not_lt_of_le (Nat.le_trans (Nat.le_refl _) (Nat.le_refl _)))))
              refine Eng.sv rfl rfl (Eng.x_len (v := vi) (r := (s1.reverse.length : Int)) rfl Tryd.underlying103 rfl (hr46).row rfl) ?_
              refine Eng.sv rfl rfl (Eng.x_sub rfl rfl rfl (Eng.w64 (r := ((s1.reverse.length - 1 : Nat) : Int)) (by omega))) ?_
              have hq47 : Eng.OwnL 105 33 encP w2.heap.size w45 (Eng.sCut vi 0 (s1.reverse.length - 1) 33) r.reverse := (by have q_ := (Eng.ol_pre (n := (s1.reverse.length - 1)) hr46 (by omega)).1; rw [hcut] at q_; exact q_)
              have hlt48 : ∀ g_, ((Eng.sCut vi 0 (s1.reverse.length - 1) 33)).ownBlock = some g_ → w2.heap.size ≤ g_ ∧ g_ < w21.heap.size := fun g_ e_ => hltV g_ (((Eng.ol_pre hr46 (by omega)).2).symm.trans e_)
              refine Eng.sv rfl rfl (Eng.x_sl (v := vi) rfl Tryd.underlying103 sz105_rt rfl (hr46).row 0 (s1.reverse.length - 1) (.inl ⟨rfl, rfl⟩) (Eng.bd (k := .i64) rfl) (by omega) (by omega)) ?_
              refine Eng.sv rfl rfl (Eng.x_as (v := (Eng.sCut vi 0 (s1.reverse.length - 1) 33)) rfl rfl) ?_
              refine Eng.nil ?_
              refine Eng.nb ?_
              have hB0_9 : Below w.heap.size w w40 := (hB0_8).trans (hb40.mono (hB0_8).size)
              have hB0_10 : Below w.heap.size w w45 := (hB0_9).grown hg45 (hB0_9).size (fun k e => by cases e; exact Nat.le_trans (hB0_4).size (Nat.le_refl _))
              have hk49 := (((hkL28_0).below hb38).below hb40).grown hg45 (fun e => absurd (Option.some.inj e) (Nat.ne_of_lt (Nat.lt_of_lt_of_le hz2 (Nat.le_trans (Nat.le_trans (Nat.le_trans hzL14 (hb20).size) (hg21).size) (Nat.le_refl _)))))
              exact hK28 _ _ _ ⟨j + 1, r, a2, b2, (Eng.sCut vi 0 (s1.reverse.length - 1) 33), rfl, m1, m2, (m3.trans hab), ⟨rfl, rfl, rfl, rfl, rfl, rfl, trivial⟩, hB0_10, (Nat.le_trans (Nat.le_trans (Nat.le_trans hzL28 (hb38).size) (hb40).size) (hg45).size), hk49, hk45, hq47, (fun g_ e_ => Nat.lt_of_lt_of_le (hlt48 g_ e_).2 (Nat.le_refl _))⟩ (by rw [hqr]; simp)
        · skip
          have hst : s1 = [] ∨ ∃ q r, s1 = q :: r ∧ q.1 ≠ 2 ^ j := .inr ⟨q, r, hqr, hq⟩
          refine Eng.draw 15 [fun (vQ : Value) (_ : World) => vQ = vi, fun (vQ : Value) (_ : World) => vQ = (.int .i64 (s1.reverse.length : Int)), fun (vQ : Value) (_ : World) => vQ = (.bool true), fun (vQ : Value) (_ : World) => vQ = (.bool true), fun (vQ : Value) (_ : World) => vQ = vi, fun (vQ : Value) (_ : World) => vQ = vi, fun (vQ : Value) (_ : World) => vQ = (.int .i64 (s1.reverse.length : Int)), fun (vQ : Value) (_ : World) => vQ = (.int .i64 ((s1.reverse.length - 1 : Nat) : Int)), fun (vQ : Value) (_ : World) => vQ = (.pointer (some ((Eng.sAddr vi).add ((s1.reverse.length - 1) * 33)))), fun (vQ : Value) (_ : World) => vQ = (.pointer (some (((Eng.sAddr vi).add ((s1.reverse.length - 1) * 33)).add 0))), fun (vQ : Value) (_ : World) => vQ = (.int .i64 (((s1.reverse).getD (s1.reverse.length - 1) dP).1 : Int)), fun (vQ : Value) (_ : World) => vQ = (.pointer (some ⟨w21.heap.size, 0, none⟩)), fun (vQ : Value) (_ : World) => vQ = (.int .i64 ((2 ^ j : Nat) : Int)), fun (vQ : Value) (_ : World) => vQ = (.bool false), fun (vQ : Value) (_ : World) => vQ = (.bool false)] (by kernel_rfl) (by kernel_rfl) (by kernel_rfl) (by kernel_rfl) rfl rfl ?_ ?_ ?_
          · exact ⟨fun _ _ _ h _ => h, fun _ _ _ h _ => h, fun _ _ _ h _ => h, fun _ _ _ h _ => h, fun _ _ _ h _ => h, fun _ _ _ h _ => h, fun _ _ _ h _ => h, fun _ _ _ h _ => h, fun _ _ _ h _ => h, fun _ _ _ h _ => h, fun _ _ _ h _ => h, fun _ _ _ h _ => h, fun _ _ _ h _ => h, fun _ _ _ h _ => h, fun _ _ _ h _ => h, trivial⟩
          · refine ⟨?_, ?_, ?_, ?_, ?_, ?_, ?_, ?_, ?_, ?_, ?_, ?_, ?_, ?_, ?_, trivial⟩
            · intro u' W hbW hkp hdp K hK
              refine Eng.dv rfl rfl ?_ (hK _ _ (Below.refl _ _) rfl)
              exact (Eng.x_mv (v := vi) rfl (show Eng.opv 81 u' (.tmp 3) = vi from hkp 3 rfl))
            · intro u' W hbW hkp hdp K hK
              have e0 : (fun (vQ : Value) (_ : World) => vQ = vi) (u' 22) W := hdp.1
              refine Eng.dv rfl rfl ?_ (hK _ _ (Below.refl _ _) rfl)
              exact (Eng.x_len (v := vi) (r := (s1.reverse.length : Int)) rfl Tryd.underlying103 (show Eng.opv 81 u' (.tmp 22) = vi from e0) (((hrL28_0).below hbW)).row rfl)
            · intro u' W hbW hkp hdp K hK
              have e1 : (fun (vQ : Value) (_ : World) => vQ = (.int .i64 (s1.reverse.length : Int))) (u' 23) W := hdp.1
              refine Eng.dv rfl rfl ?_ (hK _ _ (Below.refl _ _) rfl)
              exact (Eng.x_gt (r := true) rfl (show Eng.opv 81 u' (.tmp 23) = (.int .i64 (s1.reverse.length : Int)) from e1) rfl (decide_eq_true (by omega)))
            · intro u' W hbW hkp hdp K hK
              have e2 : (fun (vQ : Value) (_ : World) => vQ = (.bool true)) (u' 24) W := hdp.1
              refine Eng.dv rfl rfl ?_ (hK _ _ (Below.refl _ _) rfl)
              exact (Eng.x_mv (v := (.bool true)) rfl (show Eng.opv 81 u' (.tmp 24) = (.bool true) from e2))
            · intro u' W hbW hkp hdp K hK
              have e3 : (fun (vQ : Value) (_ : World) => vQ = (.bool true)) (u' 25) W := hdp.1
              refine Eng.dv (Eng.gt rfl rfl rfl (show Eng.opv 81 u' (.tmp 25) = (.bool true) from e3)) rfl ?_ (hK _ _ (Below.refl _ _) rfl)
              exact (Eng.x_mv (v := vi) rfl (show Eng.opv 81 u' (.tmp 3) = vi from hkp 3 rfl))
            · intro u' W hbW hkp hdp K hK
              have e3 : (fun (vQ : Value) (_ : World) => vQ = (.bool true)) (u' 25) W := hdp.1
              refine Eng.dv (Eng.gt rfl rfl rfl (show Eng.opv 81 u' (.tmp 25) = (.bool true) from e3)) rfl ?_ (hK _ _ (Below.refl _ _) rfl)
              exact (Eng.x_mv (v := vi) rfl (show Eng.opv 81 u' (.tmp 3) = vi from hkp 3 rfl))
            · intro u' W hbW hkp hdp K hK
              have e3 : (fun (vQ : Value) (_ : World) => vQ = (.bool true)) (u' 25) W := hdp.2.1
              have e5 : (fun (vQ : Value) (_ : World) => vQ = vi) (u' 27) W := hdp.1
              refine Eng.dv (Eng.gt rfl rfl rfl (show Eng.opv 81 u' (.tmp 25) = (.bool true) from e3)) rfl ?_ (hK _ _ (Below.refl _ _) rfl)
              exact (Eng.x_len (v := vi) (r := (s1.reverse.length : Int)) rfl Tryd.underlying103 (show Eng.opv 81 u' (.tmp 27) = vi from e5) (((hrL28_0).below hbW)).row rfl)
            · intro u' W hbW hkp hdp K hK
              have e3 : (fun (vQ : Value) (_ : World) => vQ = (.bool true)) (u' 25) W := hdp.2.1
              have e6 : (fun (vQ : Value) (_ : World) => vQ = (.int .i64 (s1.reverse.length : Int))) (u' 28) W := hdp.1
              refine Eng.dv (Eng.gt rfl rfl rfl (show Eng.opv 81 u' (.tmp 25) = (.bool true) from e3)) rfl ?_ (hK _ _ (Below.refl _ _) rfl)
              exact (Eng.x_sub rfl (show Eng.opv 81 u' (.tmp 28) = (.int .i64 (s1.reverse.length : Int)) from e6) rfl (Eng.w64 (r := ((s1.reverse.length - 1 : Nat) : Int)) (by omega)))
            · intro u' W hbW hkp hdp K hK
              have e3 : (fun (vQ : Value) (_ : World) => vQ = (.bool true)) (u' 25) W := hdp.2.2.1
              have e4 : (fun (vQ : Value) (_ : World) => vQ = vi) (u' 26) W := hdp.1
              have e7 : (fun (vQ : Value) (_ : World) => vQ = (.int .i64 ((s1.reverse.length - 1 : Nat) : Int))) (u' 29) W := hdp.2.1
              refine Eng.dv (Eng.gt rfl rfl rfl (show Eng.opv 81 u' (.tmp 25) = (.bool true) from e3)) rfl ?_ (hK _ _ (Below.refl _ _) rfl)
              exact (Eng.x_ia (v := vi) (j := s1.reverse.length - 1) rfl Tryd.underlying103 sz105_rt (by decide) (show Eng.opv 81 u' (.tmp 26) = vi from e4) (show Eng.opv 81 u' (.tmp 29) = (.int .i64 ((s1.reverse.length - 1 : Nat) : Int)) from e7) (((hrL28_0).below hbW)).row (Eng.flat_len (((hrL28_0).below hbW)).2) (by omega) (by omega))
            · intro u' W hbW hkp hdp K hK
              have e3 : (fun (vQ : Value) (_ : World) => vQ = (.bool true)) (u' 25) W := hdp.2.1
              have e8 : (fun (vQ : Value) (_ : World) => vQ = (.pointer (some ((Eng.sAddr vi).add ((s1.reverse.length - 1) * 33))))) (u' 30) W := hdp.1
              refine Eng.dv (Eng.gt rfl rfl rfl (show Eng.opv 81 u' (.tmp 25) = (.bool true) from e3)) rfl ?_ (hK _ _ (Below.refl _ _) rfl)
              exact (Eng.x_fa (v := (.pointer (some (((Eng.sAddr vi).add ((s1.reverse.length - 1) * 33)).add 0)))) rfl (show Eng.opv 81 u' (.tmp 30) = (.pointer (some ((Eng.sAddr vi).add ((s1.reverse.length - 1) * 33)))) from e8) (by kernel_rfl))
            · intro u' W hbW hkp hdp K hK
              have e3 : (fun (vQ : Value) (_ : World) => vQ = (.bool true)) (u' 25) W := hdp.2.1
              have e9 : (fun (vQ : Value) (_ : World) => vQ = (.pointer (some (((Eng.sAddr vi).add ((s1.reverse.length - 1) * 33)).add 0)))) (u' 31) W := hdp.1
              refine Eng.dv (Eng.gt rfl rfl rfl (show Eng.opv 81 u' (.tmp 25) = (.bool true) from e3)) rfl ?_ (hK _ _ (Below.refl _ _) rfl)
              exact (Eng.x_ld1 (v := (.int .i64 (((s1.reverse).getD (s1.reverse.length - 1) dP).1 : Int))) rfl ag3_rt (show Eng.opv 81 u' (.tmp 31) = (.pointer (some (((Eng.sAddr vi).add ((s1.reverse.length - 1) * 33)).add 0))) from e9) (Eng.rl_cell (((hrL28_0).below hbW)).rl dP (by omega) rfl))
            · intro u' W hbW hkp hdp K hK
              have e3 : (fun (vQ : Value) (_ : World) => vQ = (.bool true)) (u' 25) W := hdp.1
              refine Eng.dv (Eng.gt rfl rfl rfl (show Eng.opv 81 u' (.tmp 25) = (.bool true) from e3)) rfl ?_ (hK _ _ (Below.refl _ _) rfl)
              exact (Eng.x_fa (v := (.pointer (some ⟨w21.heap.size, 0, none⟩))) rfl (show Eng.opv 81 u' (.tmp 6) = (.pointer (some ⟨w21.heap.size, 0, none⟩)) from hkp 6 rfl) (by kernel_rfl))
            · intro u' W hbW hkp hdp K hK
              have e3 : (fun (vQ : Value) (_ : World) => vQ = (.bool true)) (u' 25) W := hdp.2.1
              have e11 : (fun (vQ : Value) (_ : World) => vQ = (.pointer (some ⟨w21.heap.size, 0, none⟩))) (u' 33) W := hdp.1
              refine Eng.dv (Eng.gt rfl rfl rfl (show Eng.opv 81 u' (.tmp 25) = (.bool true) from e3)) rfl ?_ (hK _ _ (Below.refl _ _) rfl)
              exact (Eng.x_ld1 (v := (.int .i64 ((2 ^ j : Nat) : Int))) rfl ag3_rt (show Eng.opv 81 u' (.tmp 33) = (.pointer (some ⟨w21.heap.size, 0, none⟩)) from e11) ((((hkL28_1).below hbW)).cell 0))
            · intro u' W hbW hkp hdp K hK
              have e3 : (fun (vQ : Value) (_ : World) => vQ = (.bool true)) (u' 25) W := hdp.2.2.1
              have e10 : (fun (vQ : Value) (_ : World) => vQ = (.int .i64 (((s1.reverse).getD (s1.reverse.length - 1) dP).1 : Int))) (u' 32) W := hdp.1
              have e12 : (fun (vQ : Value) (_ : World) => vQ = (.int .i64 ((2 ^ j : Nat) : Int))) (u' 34) W := hdp.2.1
              refine Eng.dv (Eng.gt rfl rfl rfl (show Eng.opv 81 u' (.tmp 25) = (.bool true) from e3)) rfl ?_ (hK _ _ (Below.refl _ _) rfl)
              exact (Eng.x_eq (r := false) rfl (show Eng.opv 81 u' (.tmp 32) = (.int .i64 (((s1.reverse).getD (s1.reverse.length - 1) dP).1 : Int)) from e10) (show Eng.opv 81 u' (.tmp 34) = (.int .i64 ((2 ^ j : Nat) : Int)) from e12) (Eng.eq_f (by rw [hql]; omega)))
            · intro u' W hbW hkp hdp K hK
              have e3 : (fun (vQ : Value) (_ : World) => vQ = (.bool true)) (u' 25) W := hdp.1
              have e13 : (fun (vQ : Value) (_ : World) => vQ = (.bool false)) (u' 35) W := hdp.2.1
              refine Eng.dv rfl rfl ?_ (hK _ _ (Below.refl _ _) rfl)
              exact (Eng.x_pick (v := (.bool false)) rfl (show Eng.opv 81 u' (.tmp 25) = (.bool true) from e3) (show Eng.opv 81 u' (.tmp 35) = (.bool false) from e13) rfl rfl)
          · intro ud50 w50 hb50 hkp50 ⟨f50_0, f50_1, f50_2, f50_3, f50_4, f50_5, f50_6, f50_7, f50_8, f50_9, f50_10, f50_11, f50_12, f50_13, f50_14, _⟩
            obtain rfl := Eng.collect (l := [(22, vi), (23, (.int .i64 (s1.reverse.length : Int))), (24, (.bool true)), (25, (.bool true)), (26, vi), (27, vi), (28, (.int .i64 (s1.reverse.length : Int))), (29, (.int .i64 ((s1.reverse.length - 1 : Nat) : Int))), (30, (.pointer (some ((Eng.sAddr vi).add ((s1.reverse.length - 1) * 33))))), (31, (.pointer (some (((Eng.sAddr vi).add ((s1.reverse.length - 1) * 33)).add 0)))), (32, (.int .i64 (((s1.reverse).getD (s1.reverse.length - 1) dP).1 : Int))), (33, (.pointer (some ⟨w21.heap.size, 0, none⟩))), (34, (.int .i64 ((2 ^ j : Nat) : Int))), (35, (.bool false)), (36, (.bool false))]) hkp50 ⟨f50_0, f50_1, f50_2, f50_3, f50_4, f50_5, f50_6, f50_7, f50_8, f50_9, f50_10, f50_11, f50_12, f50_13, f50_14, trivial⟩ rfl
            refine Eng.nil ?_
            refine hK31 _ _ ?_
            refine Eng.cond_f rfl ?_
            refine Eng.xt ?_
            refine Eng.te ?_
            refine Eng.te ?_
            refine Eng.be ?_
            refine hK25 _ _ ?_
            refine Eng.reg ?_
            refine Eng.sv rfl rfl (Eng.x_mv (v := vi) rfl rfl) ?_
            have hk51 := (hkL28_1).below hb50
            refine Eng.sv rfl rfl (Eng.x_ldB (v := (.agg ((.int .i64 ((2 ^ j : Nat) : Int)) :: (bcs (R b1)) : List Value).toArray)) rfl ag105_rt sz105_rt rfl hk51 (Eng.len_cons (.int .i64 ((2 ^ j : Nat) : Int)) (Eng.len_dg hRb)) rfl) ?_
            refine Eng.bs (vs := [(.agg ((.int .i64 ((2 ^ j : Nat) : Int)) :: (bcs (R b1)) : List Value).toArray)]) (cs := ((.int .i64 ((2 ^ j : Nat) : Int)) :: (bcs (R b1)))) rfl rfl rfl Tryd.underlying103 inL105_rt zP (by decide) rfl rfl (by decide) (by decide) (Eng.all_cons (p := fun v => v.cells.size = 33) (by simpa [Value.cells] using ((Eng.len_cons (.int .i64 ((2 ^ j : Nat) : Int)) (Eng.len_dg hRb)) : (((.int .i64 ((2 ^ j : Nat) : Int)) :: (bcs (R b1))) : List Value).length = 33)) Eng.all_nil) (by simp [Value.cells]) ?_
            intro w52 hk52 hb52 hz52
            have hr54 := ((hrL28_0).below hb50).below hb52
            refine Eng.apL (enc := encP) rfl rfl rfl Tryd.underlying103 inL105_rt zP (by decide) rfl hr54 rfl (Eng.rl_one (enc := encP) (sz := 33) (a := (2 ^ j, R b1)) hk52 (Eng.len_cons (.int .i64 ((2 ^ j : Nat) : Int)) (Eng.len_dg hRb))) (fun a _ c hc => one_part a c hc) (by simp only [List.length_cons, List.length_nil]; unfold maxLen; omega) (by simp only [List.length_cons, List.length_nil]; omega) (Nat.le_trans (Nat.le_trans (Nat.le_trans (Nat.le_trans (Nat.le_trans (Nat.le_trans (Nat.le_trans hzL14 (hb20).size) (hg21).size) (hb23).size) (hg24).size) hzL28) (hb50).size) (hb52).size) ?_
            intro v53 w53 ho53 hg53
            rw [← List.reverse_cons] at ho53
            refine Eng.sv rfl rfl (Eng.x_as (v := v53) rfl rfl) ?_
            refine Eng.nil ?_
            refine Eng.nb ?_
            refine hK17 _ _ ?_
            refine Eng.reg ?_
            refine Eng.sv rfl rfl (Eng.x_add rfl rfl rfl (Eng.w64 (r := ((k : Int) + 1)) (by omega))) ?_
            refine Eng.sv rfl rfl (Eng.x_mv (v := (.int .i64 ((k : Int) + 1))) rfl rfl) ?_
            refine Eng.nil ?_
            have hB0_8 : Below w.heap.size w w50 := (hBL28).trans (hb50.mono (hBL28).size)
            have hB0_9 : Below w.heap.size w w52 := (hB0_8).trans (hb52.mono (hB0_8).size)
            have hB0_10 : Below w.heap.size w w53 := (hB0_9).grown hg53 (hB0_9).size (fun k e => Nat.le_trans (hb2).size (hltV _ e).1)
            have hk55 := (((hkL28_0).below hb50).below hb52).grown hg53 (fun e => absurd (hltV _ e.symm).1 (Nat.not_le_of_lt (Nat.lt_of_lt_of_le hz2 (Nat.le_refl _))))
            exact hK14 _ _ _ ⟨k + 1, ((2 ^ j, R b1) :: s1), v53, rfl, by omega, (by rw [← hab]; exact PK.stay hPK hst hbl), ⟨rfl, rfl, rfl, rfl, (Eng.ie (by first | omega | rfl)), trivial⟩, hB0_10, (Nat.le_trans (Nat.le_trans (Nat.le_trans (Nat.le_trans (Nat.le_trans (Nat.le_trans (Nat.le_trans (Nat.le_trans hzL14 (hb20).size) (hg21).size) (hb23).size) (hg24).size) hzL28) (hb50).size) (hb52).size) (hg53).size), hk55, ho53⟩ (by omega)
    · skip
      have hkn : k = ds.length := by omega
      obtain ⟨q0, r0, hqr0, hfr0⟩ := PK.root (by rw [hkn, List.take_length] at hs_; exact hs_) (by omega) hm
      have hql0 := (rev_last hqr0).1
      have hcut0 := (rev_last hqr0).2
      have hfold0 : foldP (s.reverse.getD (s.reverse.length - 1) dP).2 r0 = R ds := by rw [hql0]; exact hfr0
      have hln0 : 0 < s.reverse.length := by rw [hqr0]; simp
      have hP0 : ∀ p ∈ s.reverse, p.2.length = 32 := fun p hp => PK.mem32 (by rw [hkn, List.take_length] at hs_; exact hs_) h.2 p (List.mem_reverse.1 hp)
      have hP := hP0
      have hd0 : (s.reverse.getD (s.reverse.length - 1) dP).2.length = 32 := hP0 _ (Eng.getD_mem (by omega))
      have hsm0 : s.reverse.length ≤ 50 := by have := PK.short hs_ (by rw [List.length_take]; omega); rw [List.length_reverse]; exact this
      refine Eng.sv rfl rfl (Eng.x_lt (r := false) rfl rfl rfl (decide_eq_false (by omega))) ?_
      refine Eng.nil ?_
      refine hK15 _ _ ?_
      refine Eng.seqk fun K56 hK56 => ?_
      refine Eng.cond_f rfl ?_
      refine Eng.xt ?_
      refine Eng.te ?_
      refine Eng.te ?_
      refine Eng.be ?_
      refine hK12 _ _ ?_
      refine Eng.seqk fun K57 hK57 => ?_
      refine Eng.reg ?_
      refine Eng.sv rfl rfl (Eng.x_mv (v := vp) rfl rfl) ?_
      refine Eng.sv rfl rfl (Eng.x_mv (v := vp) rfl rfl) ?_
      refine Eng.sv rfl rfl (Eng.x_len (v := vp) (r := (s.reverse.length : Int)) rfl Tryd.underlying103 rfl (hrL14_0).row rfl) ?_
      refine Eng.sv rfl rfl (Eng.x_sub rfl rfl rfl (Eng.w64 (r := ((s.reverse.length - 1 : Nat) : Int)) (by omega))) ?_
      refine Eng.sv rfl rfl (Eng.x_ia (v := vp) (j := s.reverse.length - 1) rfl Tryd.underlying103 sz105_rt (by decide) rfl rfl (hrL14_0).row (Eng.flat_len (hrL14_0).2) (by omega) (by omega)) ?_
      refine Eng.sv rfl rfl (Eng.x_fa (v := (.pointer (some (((Eng.sAddr vp).add ((s.reverse.length - 1) * 33)).add 1)))) rfl rfl (by kernel_rfl)) ?_
      refine Eng.sv rfl rfl (Eng.x_ldA (v := (dg (((s.reverse).getD (s.reverse.length - 1) dP).2))) rfl ag24_rt sz24_rt rfl ((bcs_length _).trans (hP _ (Eng.getD_mem (d := dP) (l := s.reverse) (by omega)))) (Eng.rl_tail (pre := [(.int .i64 (((s.reverse).getD (s.reverse.length - 1) dP).1 : Int))]) (mid := (bcs (((s.reverse).getD (s.reverse.length - 1) dP).2))) (hrL14_0).rl dP (by omega) rfl rfl) rfl) ?_
      refine Eng.al rfl rfl rfl zr24_rt (cs := (bcs Oct.dz)) rfl ?_
      intro w58 hk58 hb58 hz58
      refine Eng.stB (v := (dg (((s.reverse).getD (s.reverse.length - 1) dP).2))) rfl rfl rfl sz24_rt rfl hk58 rfl rfl (cs' := (bcs (((s.reverse).getD (s.reverse.length - 1) dP).2))) rfl ((bcs_length _).trans (hP _ (Eng.getD_mem (d := dP) (l := s.reverse) (by omega)))) (bcs_one _) ?_
      intro w59 hk59 hg59
      refine Eng.nil ?_
      refine hK57 _ _ ?_
      refine Eng.seqk fun K60 hK60 => ?_
      refine Eng.seqk fun K61 hK61 => ?_
      refine Eng.reg ?_
      refine Eng.sv rfl rfl (Eng.x_mv (v := vp) rfl rfl) ?_
      refine Eng.sv rfl rfl (Eng.x_mv (v := vp) rfl rfl) ?_
      have hr62 := ((hrL14_0).below hb58).kept hg59 (.inr (fun e => absurd ((World.ownsRow.lt (hrL14_0).1) _ e).2 (Nat.not_lt_of_le (Nat.le_trans (Nat.le_refl _) (Nat.le_refl _)))))
      refine Eng.sv rfl rfl (Eng.x_len (v := vp) (r := (s.reverse.length : Int)) rfl Tryd.underlying103 rfl (hr62).row rfl) ?_
      refine Eng.sv rfl rfl (Eng.x_sub rfl rfl rfl (Eng.w64 (r := ((s.reverse.length - 1 : Nat) : Int)) (by omega))) ?_
      have hq63 : Eng.OwnL 105 33 encP w2.heap.size w59 (Eng.sCut vp 0 (s.reverse.length - 1) 33) ((s.reverse).take (s.reverse.length - 1)) := (Eng.ol_pre hr62 (by omega)).1
      have hlt64 : ∀ g_, ((Eng.sCut vp 0 (s.reverse.length - 1) 33)).ownBlock = some g_ → w2.heap.size ≤ g_ ∧ g_ < w14.heap.size := fun g_ e_ => (World.ownsRow.lt (hrL14_0).1) g_ (((Eng.ol_pre hr62 (by omega)).2).symm.trans e_)
      refine Eng.sv rfl rfl (Eng.x_sl (v := vp) rfl Tryd.underlying103 sz105_rt rfl (hr62).row 0 (s.reverse.length - 1) (.inl ⟨rfl, rfl⟩) (Eng.bd (k := .i64) rfl) (by omega) (by omega)) ?_
      refine Eng.sc rfl (Eng.xc (vl := [(Eng.sCut vp 0 (s.reverse.length - 1) 33)]) rfl rfl rfl en61_rt) (bwd_calls _ _ _ _ (hq63).row) ?_
      rintro _ w65 ⟨b65, rfl, hk65, hl65, hb65⟩
      refine Eng.aft_v rfl ?_
      refine Eng.nil ?_
      refine hK61 _ _ ?_
      refine Eng.blk ?_
      have hr66 := (hq63).below hb65
      have hk67 := (((hkL14_0).below hb58).grown hg59 (fun e => absurd (Option.some.inj e) (Nat.ne_of_lt (Nat.lt_of_lt_of_le hz2 (Nat.le_trans hzL14 (Nat.le_refl _)))))).below hb65
      have hk68 := (hk59).below hb65
      obtain ⟨LL, hLL⟩ : ∃ LL, LL = (s.reverse).take (s.reverse.length - 1) := ⟨_, rfl⟩
      have hrow : Eng.OwnL 105 33 encP w2.heap.size w65 (Eng.sCut vp 0 (s.reverse.length - 1) 33) LL := by rw [hLL]; exact hr66
      have hPL : ∀ p ∈ LL, p.2.length = 32 := fun p hp => hP0 p (by rw [hLL] at hp; exact List.mem_of_mem_take hp)
      obtain ⟨y, hyl, hyb, hyn⟩ := own_at hrow.1 (g7 := w14.heap.size) (z := w.heap.size) (fun g e => fun q => absurd (hlt64 _ (show ((Eng.sCut vp 0 (s.reverse.length - 1) 33)).ownBlock = some (w14.heap.size) from e.trans (congrArg some q))).2 (Nat.not_lt_of_le (Nat.le_trans (Nat.le_refl _) (Nat.le_refl _)))) (hk67).lt (Nat.ne_of_lt (Nat.lt_of_lt_of_le hz2 (Nat.le_trans hzL14 (Nat.le_refl _))))
      have hbl_ : b65 < w65.heap.size := (hk65).lt
      have hbn : b65 ≠ w14.heap.size := (Nat.ne_of_gt (Nat.lt_of_lt_of_le hz58 (Nat.le_trans (hg59).size hl65)))
      have hB0_3 : Below w.heap.size w w58 := (hBL14).trans (hb58.mono (hBL14).size)
      have hB0_4 : Below w.heap.size w w59 := (hB0_3).grown hg59 (hB0_3).size (fun k e => by cases e; exact Nat.le_trans (hBL14).size (Nat.le_refl _))
      have hB0_5 : Below w.heap.size w w65 := (hB0_4).trans (hb65.mono (hB0_4).size)
      refine Eng.rfun (α := { j : Nat // j < LL.length }) (gf := 117) (lb := #[.pointer (some ⟨b65, 0, none⟩)]) rfl en117_rt (bwd_stops LL hPL b65 y (Eng.sCut vp 0 (s.reverse.length - 1) 33) _ hk65 hrow.rl hyb hyl) (fun h k => h.trans k) (fun W l o o_ hl ho _ _ => Eng.Two.put (Nat.ne_of_lt (Nat.lt_of_lt_of_le hbl_ hl)) (Nat.ne_of_lt (Nat.lt_of_lt_of_le hyl hl))) (Below.refl _ _) (fun _ => rfl) (fun (pre : List { j : Nat // j < LL.length }) W => Below w.heap.size w W ∧ w65.heap.size ≤ W.heap.size ∧ Blk W w.heap.size 24 (bcs Oct.dz) ∧ Blk W w14.heap.size 24 (bcs (foldB LL (((s.reverse).getD (s.reverse.length - 1) dP).2) pre))) (fun _ _ _ => False) (fun x u_ W => ∃ gx, Eng.Has u_ [(2, (.pointer (some ⟨w.heap.size, 0, none⟩))), (7, (.pointer (some ⟨w14.heap.size, 0, none⟩))), (9, (.pointer (some ⟨gx, 0, none⟩)))] ∧ Blk W gx 105 (encP (LL.getD x.1 dP)) ∧ w65.heap.size ≤ gx) ?_ ?_ ?_ ?_ ?_ ?_ ?_ ?_
      · exact fun pre A B row ⟨h1, h2, h3, h4⟩ hg hr => ⟨Eng.belF h1 hg hr (hB0_5).size (Nat.le_trans (hB0_5).size h2), Nat.le_trans h2 hg.size, Eng.blkF h3 hg hr, Eng.blkF h4 hg hr⟩
      · exact fun c s A B row h _ _ => h
      · exact fun x u_ _ A B row ⟨gx, h1, h2, h3⟩ hg hr => ⟨gx, h1, Eng.blkF h2 hg hr, h3⟩
      · exact ⟨hB0_5, Nat.le_refl _, hk67, hk68⟩
      · intro lr pre x w69 K ⟨hi169, hi269, hi369, hi469⟩ hK_
        show Eng.wpC _ _ _ _ (Eng.act _ (Eng.updZ _ #[74, 75] #[_, _]) _) _
        rw [updZ2]
        refine Eng.reg ?_
        refine Eng.al rfl rfl rfl zr105_rt (cs := ((.int .i64 0) :: (bcs Oct.dz))) rfl ?_
        intro w70 hk70 hb70 hz70
        refine Eng.stB (v := (.agg (encP (LL.getD x.1 dP)).toArray)) rfl rfl rfl sz105_rt rfl hk70 (Eng.len_cons (.int .i64 0) (Eng.len_dg Oct.dz_length)) rfl (cs' := (encP (LL.getD x.1 dP))) rfl (encP_len (hPL _ (Eng.getD_mem x.2))) (one_part _) ?_
        intro w71 hk71 hg71
        refine Eng.nil ?_
        have hB0_7 : Below w.heap.size w w70 := (hi169).trans (hb70.mono (hi169).size)
        have hB0_8 : Below w.heap.size w w71 := (hB0_7).grown hg71 (hB0_7).size (fun k e => by cases e; exact Nat.le_trans (hi169).size (Nat.le_refl _))
        have hB6_8 : Below w69.heap.size w69 w71 := (hb70).grown hg71 (hb70).size (fun k e => by cases e; exact Nat.le_trans (Nat.le_refl _) (Nat.le_refl _))
        have hk72 := ((hi369).below hb70).grown hg71 (fun e => absurd (Option.some.inj e) (Nat.ne_of_lt (Nat.lt_of_lt_of_le hz2 (Nat.le_trans (Nat.le_trans (Nat.le_trans (Nat.le_trans (Nat.le_trans hzL14 (hb58).size) (hg59).size) (hb65).size) hi269) (Nat.le_refl _)))))
        have hk73 := ((hi469).below hb70).grown hg71 (fun e => absurd (Option.some.inj e) (Nat.ne_of_lt (Nat.lt_of_lt_of_le hz58 (Nat.le_trans (Nat.le_trans (Nat.le_trans (hg59).size (hb65).size) hi269) (Nat.le_refl _)))))
        exact hK_ _ _ ((Eng.keeps_below hb70).trans (Eng.keeps_grown hk70 hg71)) ((Eng.Two.below hb70 (Nat.lt_of_lt_of_le (Nat.lt_of_lt_of_le hbl_ hi269) (Nat.le_refl _)) (Nat.lt_of_lt_of_le (Nat.lt_of_lt_of_le hyl hi269) (Nat.le_refl _))).trans (Eng.Two.grown hg71 (Nat.lt_of_lt_of_le (Nat.lt_of_lt_of_le hbl_ hi269) (hb70).size) (Nat.lt_of_lt_of_le (Nat.lt_of_lt_of_le hyl hi269) (hb70).size) (Nat.ne_of_lt (Nat.lt_of_lt_of_le hbl_ (Nat.le_trans hi269 (Nat.le_refl _)))) (Nat.ne_of_lt (Nat.lt_of_lt_of_le hyl (Nat.le_trans hi269 (Nat.le_refl _)))))) ⟨hB0_8, Nat.le_trans hi269 (hB6_8).size, hk72, hk73⟩ ⟨w69.heap.size, ⟨rfl, rfl, rfl, trivial⟩, hk71, (Nat.le_trans hi269 (Nat.le_refl _))⟩
      · rintro lr pre x u_ w74 ⟨hi174, hi274, hi374, hi474⟩ ⟨gx, hH_, hgx, hgl⟩ hlen_
        obtain ⟨u9_, rfl⟩ := hH_.ex
        refine Eng.blk ?_
        refine Eng.reg ?_
        refine Eng.sv rfl rfl (Eng.x_fa (v := (.pointer (some ⟨gx, 1, none⟩))) rfl rfl (by kernel_rfl)) ?_
        refine Eng.sv rfl rfl (Eng.x_ldA (v := (dg ((LL.getD x.1 dP).2))) rfl ag24_rt sz24_rt rfl ((bcs_length _).trans (hPL _ (Eng.getD_mem x.2))) (Eng.blk_tail (pre := [(.int .i64 ((LL.getD x.1 dP).1 : Int))]) (mid := (bcs ((LL.getD x.1 dP).2))) hgx rfl) rfl) ?_
        refine Eng.sv rfl rfl (Eng.x_ldB (v := (dg (foldB LL (((s.reverse).getD (s.reverse.length - 1) dP).2) pre))) rfl ag24_rt sz24_rt rfl hi474 ((bcs_length _).trans (foldB_len LL _ hd0 _)) rfl) ?_
        have hr75 := (hK).below hi174
        refine Eng.sc rfl (Eng.xc (vl := [(dg ((LL.getD x.1 dP).2)), (dg (foldB LL (((s.reverse).getD (s.reverse.length - 1) dP).2) pre))]) rfl rfl rfl en60_rt) (node_calls _ _ (hPL _ (Eng.getD_mem x.2)) (foldB_len LL _ hd0 _) _ hr75) ?_
        rintro _ w76 ⟨rfl, hb76⟩
        refine Eng.aft_v rfl ?_
        have hk77 := (hi474).below hb76
        refine Eng.stB (v := (dg (nodeS (LL.getD x.1 dP).2 (foldB LL (((s.reverse).getD (s.reverse.length - 1) dP).2) pre)))) rfl rfl rfl sz24_rt rfl hk77 ((bcs_length _).trans (foldB_len LL _ hd0 _)) rfl (cs' := (bcs (nodeS (LL.getD x.1 dP).2 (foldB LL (((s.reverse).getD (s.reverse.length - 1) dP).2) pre)))) rfl ((bcs_length _).trans (nodeS_len _ _)) (bcs_one _) ?_
        intro w78 hk78 hg78
        refine Eng.nil ?_
        refine Eng.nb ?_
        have hB0_7 : Below w.heap.size w w76 := (hi174).trans (hb76.mono (hi174).size)
        have hB0_8 : Below w.heap.size w w78 := (hB0_7).grown hg78 (hB0_7).size (fun k e => by cases e; exact Nat.le_trans (hBL14).size (Nat.le_refl _))
        have hk79 := ((hi374).below hb76).grown hg78 (fun e => absurd (Option.some.inj e) (Nat.ne_of_lt (Nat.lt_of_lt_of_le hz2 (Nat.le_trans hzL14 (Nat.le_refl _)))))
        exact ⟨((Eng.keeps_below hb76).trans (Eng.keeps_grown hk77 hg78)), ((Eng.Two.below hb76 (Nat.lt_of_lt_of_le (Nat.lt_of_lt_of_le hbl_ hi274) (Nat.le_refl _)) (Nat.lt_of_lt_of_le (Nat.lt_of_lt_of_le hyl hi274) (Nat.le_refl _))).trans (Eng.Two.grown hg78 (Nat.lt_of_lt_of_le (Nat.lt_of_lt_of_le hbl_ hi274) (hb76).size) (Nat.lt_of_lt_of_le (Nat.lt_of_lt_of_le hyl hi274) (hb76).size) hbn hyn)), hB0_8, Nat.le_trans hi274 (Nat.le_trans (hb76).size (hg78).size), hk79, by rw [foldB_snoc]; exact hk78⟩
      · intro D81 xs w80 hDD81 hS_ ⟨hi180, hi280, hi380, hi480⟩ hfD81
        rw [foldB_all LL _ xs hS_, hLL, hcut0, List.reverse_reverse, hfold0] at hi480
        refine Eng.nb ?_
        refine hK60 _ _ ?_
        refine Eng.seqk fun K82 hK82 => ?_
        refine Eng.reg ?_
        refine Eng.sv rfl rfl (Eng.x_ldB (v := (dg (R ds))) rfl ag24_rt sz24_rt rfl hi480 ((bcs_length _).trans hR32) rfl) ?_
        refine Eng.stB (v := (dg (R ds))) rfl rfl rfl sz24_rt rfl hi380 rfl rfl (cs' := (bcs (R ds))) rfl ((bcs_length _).trans hR32) (bcs_one _) ?_
        intro w83 hk83 hg83
        refine Eng.nil ?_
        refine hK82 _ _ ?_
        refine Eng.rt ?_
        have hDD := (hfD81).grown hg83 (fun e => absurd (Option.some.inj e) (Nat.ne_of_gt (Nat.lt_of_lt_of_le hz2 (Nat.le_trans (Nat.le_trans (Nat.le_trans (Nat.le_trans hzL14 (hb58).size) (hg59).size) (hb65).size) hDD81))))
        refine Eng.retC hDD (fun w_ _ _ hbk_ => Eng.res1 (v1 := (dg (R ds))) rfl (Eng.rdc rfl (Eng.lvB ag24_rt sz24_rt (hbk_ _ _ _ hk83) ((bcs_length _).trans hR32) rfl))) (fun w_ hw_ => ?_)
        have hB0_7 : Below w.heap.size w w83 := (hi180).grown hg83 (hi180).size (fun k e => by cases e; exact Nat.le_trans (Nat.le_refl _) (Nat.le_refl _))
        have hBC := (hB0_7).trans (hw_.mono (Nat.le_trans (hB0_5).size hDD81))
        exact ⟨by unfold rootS; rw [if_neg (by omega)], hBC⟩
      · intro D_ c_ pre_ W_ _ _ hx_ _; exact hx_.elim
end Go.Proofs.YtojenflknjhmkaaDoor.TreP
