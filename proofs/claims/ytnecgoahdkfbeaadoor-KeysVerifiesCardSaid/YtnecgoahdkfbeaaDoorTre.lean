/- slices.Grow, Concat of bytes; tree.Node and the reference's. -/
import Derived.Test.YtnecgoahdkfbeaaDoorEngD
import Derived.Test.YtnecgoahdkfbeaaDoorShaA
import Derived.Test.YtnecgoahdkfbeaaDoorShaB
namespace Go.Proofs.YtnecgoahdkfbeaaDoor.Tre
open Go Go.RowKit Go.Proofs.YtnecgoahdkfbeaaDoor Go.Proofs.YtnecgoahdkfbeaaDoor.Cop Go.Proofs.YtnecgoahdkfbeaaDoor.Oct Go.Proofs.YtnecgoahdkfbeaaDoor.Dsl Go.Proofs.YtnecgoahdkfbeaaDoor.Sha
set_option linter.unusedVariables false
set_option linter.unusedSimpArgs false
theorem sz5_tre : (Tryd.prog.info? 5).map (fun i => i.size) = some 1 := by kernel_rfl
theorem sz48_tre : (Tryd.prog.info? 48).map (fun i => i.size) = some 1 := by kernel_rfl
theorem ag48_tre (w : World) : (isAgg 48).run Tryd.prog w = .ok false w := by kernel_rfl
theorem en198_tre : Eng.Entr Tryd.prog 198 := ⟨_, Tryd.func198, by kernel_rfl, by kernel_rfl⟩
theorem zr45_tre (w : World) : (zeroValue 45).run Tryd.prog w = .ok (dg Oct.dz) w := by kernel_rfl
theorem in5_tre : (Tryd.prog.info? 5).map (fun i => (i.zero, i.size, i.bytes)) = some (some (.int .u8 0), 1, 1) := by kernel_rfl
theorem en147_tre : Eng.Entr Tryd.prog 147 := ⟨_, Tryd.func147, by kernel_rfl, by kernel_rfl⟩
theorem en132_tre : Eng.Entr Tryd.prog 132 := ⟨_, Tryd.func132, by kernel_rfl, by kernel_rfl⟩
theorem sz45_tre : (Tryd.prog.info? 45).map (fun i => i.size) = some 32 := by kernel_rfl
theorem ag45_tre (w : World) : (isAgg 45).run Tryd.prog w = .ok true w := by kernel_rfl
theorem in48_tre : (Tryd.prog.info? 48).map (fun i => (i.zero, i.size, i.bytes)) = some (some (.slice none 0 0), 1, 24) := by kernel_rfl
theorem en135_tre : Eng.Entr Tryd.prog 135 := ⟨_, Tryd.func135, by kernel_rfl, by kernel_rfl⟩
theorem en139_tre : Eng.Entr Tryd.prog 139 := ⟨_, Tryd.func139, by kernel_rfl, by kernel_rfl⟩
set_option maxRecDepth 100000 in
set_option maxHeartbeats 4000000 in
theorem grow_nil (n : Nat) (w : World) (hn : 0 < n) (hm : n ≤ 140737488355328) : Calls Tryd.prog 198 #[(.slice none 0 0), (.int .i64 (n : Int))] w (fun e w' => ∃ v, e = .returned v ∧ Own w.heap.size w' v [] ∧ Below w.heap.size w w') := by
  refine Eng.enter (l := [(.slice none 0 0), (.int .i64 (n : Int))]) Tryd.func198 rfl 27 rfl (by simp) ?_
  refine Eng.seqk fun K1 hK1 => ?_
  refine Eng.reg ?_
  refine Eng.sv rfl rfl (Eng.x_as (v := (.slice none 0 0)) rfl rfl) ?_
  refine Eng.nil ?_
  refine hK1 _ _ ?_
  refine Eng.seqk fun K2 hK2 => ?_
  refine Eng.seqk fun K3 hK3 => ?_
  refine Eng.reg ?_
  refine Eng.sv rfl rfl (Eng.x_mv (v := (.int .i64 (n : Int))) rfl rfl) ?_
  refine Eng.sv rfl rfl (Eng.x_lt (r := false) rfl rfl rfl (decide_eq_false (by omega))) ?_
  refine Eng.nil ?_
  refine hK3 _ _ ?_
  refine Eng.cond_f rfl ?_
  refine Eng.skp ?_
  refine hK2 _ _ ?_
  refine Eng.seqk fun K4 hK4 => ?_
  refine Eng.seqk fun K5 hK5 => ?_
  refine Eng.reg ?_
  refine Eng.sv rfl rfl (Eng.x_mv (v := (.int .i64 (n : Int))) rfl rfl) ?_
  refine Eng.sv rfl rfl (Eng.x_mv (v := (.slice none 0 0)) rfl rfl) ?_
  refine Eng.sv rfl rfl (Eng.x_capN rfl Tryd.underlying48 rfl) ?_
  refine Eng.sv rfl rfl (Eng.x_mv (v := (.slice none 0 0)) rfl rfl) ?_
  refine Eng.sv rfl rfl (Eng.x_len (v := (.slice none 0 0)) (r := (0 : Int)) rfl Tryd.underlying48 rfl (Row.nil _) rfl) ?_
  refine Eng.sv rfl rfl (Eng.x_sub rfl rfl rfl (Eng.w64 (r := 0) (by omega))) ?_
  refine Eng.sv rfl rfl (Eng.x_sub rfl rfl rfl (Eng.w64 (r := (n : Int)) (by omega))) ?_
  refine Eng.sv rfl rfl (Eng.x_as (v := (.int .i64 (n : Int))) rfl rfl) ?_
  refine Eng.nil ?_
  refine hK5 _ _ ?_
  refine Eng.seqk fun K6 hK6 => ?_
  refine Eng.reg ?_
  refine Eng.sv rfl rfl (Eng.x_mv (v := (.int .i64 (n : Int))) rfl rfl) ?_
  refine Eng.sv rfl rfl (Eng.x_gt (r := true) rfl rfl rfl (decide_eq_true (by omega))) ?_
  refine Eng.nil ?_
  refine hK6 _ _ ?_
  refine Eng.cond_t rfl ?_
  refine Eng.reg ?_
  refine Eng.sv rfl rfl (Eng.x_mv (v := (.slice none 0 0)) rfl rfl) ?_
  refine Eng.sv rfl rfl (Eng.x_mv (v := (.slice none 0 0)) rfl rfl) ?_
  refine Eng.sv rfl rfl (Eng.x_capN rfl Tryd.underlying48 rfl) ?_
  refine Eng.sv rfl rfl (Eng.x_sl (v := .slice none 0 0) rfl Tryd.underlying48 sz5_tre rfl (Row.nil _) 0 0 (.inl ⟨rfl, rfl⟩) (Eng.bd (k := .i64) rfl) (Nat.le_refl _) (Nat.le_refl _)) ?_
  refine Eng.sv rfl rfl (Eng.x_mv (v := (.int .i64 (n : Int))) rfl rfl) ?_
  refine Eng.apz (n := n) rfl rfl rfl rfl rfl hn hm ?_
  intro cap w7 hc7 hm7 hr7 hb7
  refine Eng.sv rfl rfl (Eng.x_mv (v := (.slice none 0 0)) rfl rfl) ?_
  refine Eng.sv rfl rfl (Eng.x_len (v := (.slice none 0 0)) (r := (0 : Int)) rfl Tryd.underlying48 rfl (Row.nil _) rfl) ?_
  refine Eng.sv rfl rfl (Eng.x_sl0 rfl Tryd.underlying48 sz5_tre rfl rfl (by omega)) ?_
  refine Eng.sv rfl rfl (Eng.x_as (v := (.slice (some ⟨w.heap.size, 0, none⟩) 0 cap)) rfl rfl) ?_
  refine Eng.nil ?_
  refine hK4 _ _ ?_
  refine Eng.seqk fun K8 hK8 => ?_
  refine Eng.reg ?_
  refine Eng.sv rfl rfl (Eng.x_mv (v := (.slice (some ⟨w.heap.size, 0, none⟩) 0 cap)) rfl rfl) ?_
  refine Eng.sv rfl rfl (Eng.x_as (v := (.slice (some ⟨w.heap.size, 0, none⟩) 0 cap)) rfl rfl) ?_
  refine Eng.nil ?_
  refine hK8 _ _ ?_
  refine Eng.rt ?_
  refine Eng.ret (Eng.res1 (v1 := (.slice (some ⟨w.heap.size, 0, none⟩) 0 cap)) rfl (Eng.rdt rfl)) ?_
  exact ⟨_, rfl, (Eng.own_room (Nat.le_refl _) hm7 hr7), hb7⟩
def tot (l : List (List UInt8)) (k : Nat) : Nat := ((l.take k).flatten).length
theorem flat_succ (l : List (List UInt8)) (k : Nat) (h : k < l.length) : (l.take (k + 1)).flatten = (l.take k).flatten ++ l.getD k [] := by
  rw [take_snoc l k h, List.flatten_append, List.getD_eq_getElem?_getD, List.getElem?_eq_getElem h]; simp
theorem tot_succ (l : List (List UInt8)) (k : Nat) (h : k < l.length) : tot l (k + 1) = tot l k + (l.getD k []).length := by
  unfold tot; rw [flat_succ l k h, List.length_append]
theorem tot_le (l : List (List UInt8)) (k : Nat) : tot l k ≤ l.flatten.length := by
  unfold tot
  have : l.flatten = (l.take k).flatten ++ (l.drop k).flatten := by rw [← List.flatten_append, List.take_append_drop]
  rw [this, List.length_append]; omega
theorem tot_all (l : List (List UInt8)) : tot l l.length = l.flatten.length := by unfold tot; rw [List.take_length]
set_option maxRecDepth 100000 in
set_option maxHeartbeats 4000000 in
theorem concat_calls (v : Value) (vs : List Value) (l : List (List UInt8)) (w : World) (h : Eng.BBs w v vs l) (h0 : 0 < l.flatten.length) (hm : l.flatten.length ≤ 140737488355328) : Calls Tryd.prog 147 #[v] w (fun e w' => ∃ v, e = .returned v ∧ Own w.heap.size w' v l.flatten ∧ Below w.heap.size w w') := by
  have hsm := h.1.small
  refine Eng.enter (l := [v]) Tryd.func147 rfl 36 rfl (by simp) ?_
  refine Eng.seqk fun K1 hK1 => ?_
  refine Eng.reg ?_
  refine Eng.sv rfl rfl (Eng.x_as (v := (.slice none 0 0)) rfl rfl) ?_
  refine Eng.nil ?_
  refine hK1 _ _ ?_
  refine Eng.seqk fun K2 hK2 => ?_
  refine Eng.reg ?_
  refine Eng.sv rfl rfl (Eng.x_as (v := (.int .i64 0)) rfl rfl) ?_
  refine Eng.nil ?_
  refine hK2 _ _ ?_
  refine Eng.seqk fun K3 hK3 => ?_
  refine Eng.seqk fun K4 hK4 => ?_
  refine Eng.reg ?_
  refine Eng.sv rfl rfl (Eng.x_mv (v := v) rfl rfl) ?_
  refine Eng.sv rfl rfl (Eng.x_len (v := v) (r := (l.length : Int)) rfl Tryd.underlying73 rfl (h).1 rfl) ?_
  refine Eng.sv rfl rfl (Eng.x_mv (v := (.int .i64 0)) rfl rfl) ?_
  refine Eng.nil ?_
  refine hK4 _ _ ?_
  refine Eng.blk ?_
  refine Eng.loopN (fun zz u w' => ∃ (k : Nat), zz = l.length - k ∧ k ≤ l.length ∧ Eng.Has u [(0, v), (2, (.slice none 0 0)), (3, (.int .i64 (tot l k : Int))), (9, v), (10, (.int .i64 (l.length : Int))), (11, (.int .i64 (k : Int)))] ∧ Below w.heap.size w w' ∧ w.heap.size ≤ w'.heap.size) _ ⟨0, rfl, by omega, ⟨rfl, rfl, (Eng.ie (by first | omega | rfl)), rfl, rfl, (Eng.ie (by first | omega | rfl)), trivial⟩, (Below.refl _ _), (Nat.le_refl _)⟩ ?_
  rintro _ u5 w5 ⟨k, rfl, hs5_0, hH5, hBL5, hzL5⟩ K5 hK5
  obtain ⟨u5, rfl⟩ := hH5.ex
  refine Eng.seqk fun K6 hK6 => ?_
  refine Eng.reg ?_
  by_cases h12 : ((k : Int) : Int) < (l.length : Int)
  · skip
    refine Eng.sv rfl rfl (Eng.x_lt (r := true) rfl rfl rfl (decide_eq_true (by omega))) ?_
    refine Eng.nil ?_
    refine hK6 _ _ ?_
    refine Eng.seqk fun K7 hK7 => ?_
    refine Eng.cond_t rfl ?_
    refine Eng.skp ?_
    refine hK7 _ _ ?_
    refine Eng.seqk fun K8 hK8 => ?_
    refine Eng.blk ?_
    refine Eng.seqk fun K9 hK9 => ?_
    refine Eng.reg ?_
    have hr10 := (h).below hBL5
    refine Eng.sv rfl rfl (Eng.x_ia (v := v) (j := k) rfl Tryd.underlying73 sz48_tre (by decide) rfl rfl (hr10).1 (by rw [Nat.mul_one]; exact (hr10).2.1) (by omega) (by omega)) ?_
    refine Eng.sv rfl rfl (Eng.x_ld1 (v := (vs.getD k undef)) rfl ag48_tre rfl (Eng.bb_at hr10 (by omega))) ?_
    refine Eng.sv rfl rfl (Eng.x_as (v := (vs.getD k undef)) rfl rfl) ?_
    refine Eng.nil ?_
    refine hK9 _ _ ?_
    refine Eng.seqk fun K11 hK11 => ?_
    refine Eng.reg ?_
    refine Eng.sv rfl rfl (Eng.x_mv (v := (.int .i64 (tot l k : Int))) rfl rfl) ?_
    refine Eng.sv rfl rfl (Eng.x_mv (v := (vs.getD k undef)) rfl rfl) ?_
    refine Eng.sv rfl rfl (Eng.x_len (v := (vs.getD k undef)) (r := (((l).getD k []).length : Int)) rfl Tryd.underlying48 rfl ((hr10).2.2 k (by omega)) rfl) ?_
    refine Eng.sv rfl rfl (Eng.x_add rfl rfl rfl (Eng.w64 (r := (tot l (k + 1) : Int)) (by have := tot_succ l k (by omega); have := tot_le l (k + 1); omega))) ?_
    refine Eng.sv rfl rfl (Eng.x_as (v := (.int .i64 (tot l (k + 1) : Int))) rfl rfl) ?_
    refine Eng.nil ?_
    refine hK11 _ _ ?_
    refine Eng.seqk fun K12 hK12 => ?_
    refine Eng.reg ?_
    refine Eng.sv rfl rfl (Eng.x_mv (v := (.int .i64 (tot l (k + 1) : Int))) rfl rfl) ?_
    refine Eng.sv rfl rfl (Eng.x_lt (r := false) rfl rfl rfl (decide_eq_false (by omega))) ?_
    refine Eng.nil ?_
    refine hK12 _ _ ?_
    refine Eng.cond_f rfl ?_
    refine Eng.skp ?_
    refine Eng.nb ?_
    refine hK8 _ _ ?_
    refine Eng.reg ?_
    refine Eng.sv rfl rfl (Eng.x_add rfl rfl rfl (Eng.w64 (r := ((k : Int) + 1)) (by omega))) ?_
    refine Eng.sv rfl rfl (Eng.x_mv (v := (.int .i64 ((k : Int) + 1))) rfl rfl) ?_
    refine Eng.nil ?_
    exact hK5 _ _ _ ⟨k + 1, rfl, by omega, ⟨rfl, rfl, rfl, rfl, rfl, (Eng.ie (by first | omega | rfl)), trivial⟩, hBL5, (hBL5).size⟩ (by omega)
  · skip
    refine Eng.sv rfl rfl (Eng.x_lt (r := false) rfl rfl rfl (decide_eq_false (by omega))) ?_
    refine Eng.nil ?_
    refine hK6 _ _ ?_
    refine Eng.seqk fun K13 hK13 => ?_
    refine Eng.cond_f rfl ?_
    refine Eng.xt ?_
    refine Eng.te ?_
    refine Eng.te ?_
    refine Eng.be ?_
    refine hK3 _ _ ?_
    refine Eng.seqk fun K14 hK14 => ?_
    refine Eng.reg ?_
    refine Eng.sv rfl rfl (Eng.x_mv (v := (.int .i64 (tot l k : Int))) rfl rfl) ?_
    have hkl : k = l.length := by omega
    have htl : tot l k = l.flatten.length := by rw [hkl]; exact tot_all l
    refine Eng.sc rfl (Eng.xc (vl := [(.slice none 0 0), (.int .i64 (tot l k : Int))]) rfl rfl rfl en198_tre) (grow_nil (tot l k) _ (by omega) (by omega)) ?_
    rintro _ w15 ⟨vg15, rfl, ho15, hb15⟩
    refine Eng.aft_v rfl ?_
    refine Eng.sv rfl rfl (Eng.x_as (v := vg15) rfl rfl) ?_
    refine Eng.nil ?_
    refine hK14 _ _ ?_
    refine Eng.seqk fun K16 hK16 => ?_
    refine Eng.seqk fun K17 hK17 => ?_
    refine Eng.reg ?_
    refine Eng.sv rfl rfl (Eng.x_mv (v := v) rfl rfl) ?_
    have hB0_2 : Below w.heap.size w w15 := (hBL5).trans (hb15.mono (hBL5).size)
    have hr18 := (h).below hB0_2
    refine Eng.sv rfl rfl (Eng.x_len (v := v) (r := (l.length : Int)) rfl Tryd.underlying73 rfl (hr18).1 rfl) ?_
    refine Eng.sv rfl rfl (Eng.x_mv (v := (.int .i64 0)) rfl rfl) ?_
    refine Eng.nil ?_
    refine hK17 _ _ ?_
    refine Eng.blk ?_
    refine Eng.loopN (fun zz u w' => ∃ (q : Nat), ∃ (vo : Value), zz = l.length - q ∧ q ≤ l.length ∧ Eng.Has u [(2, (.slice none 0 0)), (6, vo), (25, v), (26, (.int .i64 (l.length : Int))), (27, (.int .i64 (q : Int)))] ∧ Below w.heap.size w w' ∧ w15.heap.size ≤ w'.heap.size ∧ Own w5.heap.size w' vo ((l.take q).flatten)) _ ⟨0, vg15, rfl, by omega, ⟨rfl, rfl, rfl, rfl, (Eng.ie (by first | omega | rfl)), trivial⟩, hB0_2, (Nat.le_refl _), ho15⟩ ?_
    rintro _ u19 w19 ⟨q, vo, rfl, hs19_0, hH19, hBL19, hzL19, hrL19_0⟩ K19 hK19
    obtain ⟨u19, rfl⟩ := hH19.ex
    refine Eng.seqk fun K20 hK20 => ?_
    refine Eng.reg ?_
    by_cases h28 : ((q : Int) : Int) < (l.length : Int)
    · skip
      refine Eng.sv rfl rfl (Eng.x_lt (r := true) rfl rfl rfl (decide_eq_true (by omega))) ?_
      refine Eng.nil ?_
      refine hK20 _ _ ?_
      refine Eng.seqk fun K21 hK21 => ?_
      refine Eng.cond_t rfl ?_
      refine Eng.skp ?_
      refine hK21 _ _ ?_
      refine Eng.seqk fun K22 hK22 => ?_
      refine Eng.blk ?_
      refine Eng.seqk fun K23 hK23 => ?_
      refine Eng.reg ?_
      have hr24 := (h).below hBL19
      refine Eng.sv rfl rfl (Eng.x_ia (v := v) (j := q) rfl Tryd.underlying73 sz48_tre (by decide) rfl rfl (hr24).1 (by rw [Nat.mul_one]; exact (hr24).2.1) (by omega) (by omega)) ?_
      refine Eng.sv rfl rfl (Eng.x_ld1 (v := (vs.getD q undef)) rfl ag48_tre rfl (Eng.bb_at hr24 (by omega))) ?_
      refine Eng.sv rfl rfl (Eng.x_as (v := (vs.getD q undef)) rfl rfl) ?_
      refine Eng.nil ?_
      refine hK23 _ _ ?_
      refine Eng.reg ?_
      refine Eng.sv rfl rfl (Eng.x_mv (v := vo) rfl rfl) ?_
      refine Eng.sv rfl rfl (Eng.x_mv (v := (vs.getD q undef)) rfl rfl) ?_
      refine Eng.apB rfl rfl rfl rfl hrL19_0 rfl ((hr24).2.2 q (by omega)) (by have := tot_succ l q (by omega); have := tot_le l (q + 1); unfold tot at *; omega) (Nat.le_trans (hb15).size hzL19) ?_
      intro v25 w25 ho25 hg25
      rw [← flat_succ l q (by omega)] at ho25
      refine Eng.sv rfl rfl (Eng.x_as (v := v25) rfl rfl) ?_
      refine Eng.nil ?_
      refine Eng.nb ?_
      refine hK22 _ _ ?_
      refine Eng.reg ?_
      refine Eng.sv rfl rfl (Eng.x_add rfl rfl rfl (Eng.w64 (r := ((q : Int) + 1)) (by omega))) ?_
      refine Eng.sv rfl rfl (Eng.x_mv (v := (.int .i64 ((q : Int) + 1))) rfl rfl) ?_
      refine Eng.nil ?_
      have hB0_4 : Below w.heap.size w w25 := (hBL19).grown hg25 (hBL19).size (fun k e => Nat.le_trans (hBL5).size ((World.ownsRow.lt hrL19_0) _ e).1)
      exact hK19 _ _ _ ⟨q + 1, v25, rfl, by omega, ⟨rfl, rfl, rfl, rfl, (Eng.ie (by first | omega | rfl)), trivial⟩, hB0_4, (Nat.le_trans hzL19 (hg25).size), ho25⟩ (by omega)
    · skip
      refine Eng.sv rfl rfl (Eng.x_lt (r := false) rfl rfl rfl (decide_eq_false (by omega))) ?_
      refine Eng.nil ?_
      refine hK20 _ _ ?_
      refine Eng.seqk fun K26 hK26 => ?_
      refine Eng.cond_f rfl ?_
      refine Eng.xt ?_
      refine Eng.te ?_
      refine Eng.te ?_
      refine Eng.be ?_
      refine hK16 _ _ ?_
      refine Eng.seqk fun K27 hK27 => ?_
      refine Eng.reg ?_
      refine Eng.sv rfl rfl (Eng.x_mv (v := vo) rfl rfl) ?_
      refine Eng.sv rfl rfl (Eng.x_as (v := vo) rfl rfl) ?_
      refine Eng.nil ?_
      refine hK27 _ _ ?_
      refine Eng.rt ?_
      refine Eng.ret (Eng.res1 (v1 := vo) rfl (Eng.rdt rfl)) ?_
      have hql : q = l.length := by omega
      rw [hql, List.take_length] at hrL19_0
      exact ⟨_, rfl, (hrL19_0).mono (hBL5).size, hBL19⟩
/-- The digest of a node, and of a leaf. -/
def nodeS (a b : List UInt8) : List UInt8 := sha (1 :: (a ++ b))
def leafS (d : List UInt8) : List UInt8 := sha (0 :: d)
theorem nodeS_len (a b : List UInt8) : (nodeS a b).length = 32 := sha_len _
theorem leafS_len (d : List UInt8) : (leafS d).length = 32 := sha_len _
theorem Inn.ofBlk {w : World} {g n : Nat} (h : g < w.heap.size) : Inn w (.slice (some ⟨g, 0, none⟩) n n) := fun ad n' c e => by injection e with e; cases e; exact h
set_option maxRecDepth 100000 in
set_option maxHeartbeats 4000000 in
theorem of_calls (k : UInt8) (v : Value) (vs : List Value) (l : List (List UInt8)) (w : World) (h : Eng.BBs w v vs l) (h0 : 0 < l.flatten.length) (hm : l.flatten.length ≤ 140737488355000) (hK : Kon w) : Calls Tryd.prog 135 #[(.int .u8 (k.toNat : Int)), v] w (fun e w' => e = .returned (dg (sha (k :: l.flatten))) ∧ Below w.heap.size w w') := by
  refine Eng.enter (l := [(.int .u8 (k.toNat : Int)), v]) Tryd.func135 rfl 11 rfl (by simp) ?_
  refine Eng.seqk fun K1 hK1 => ?_
  refine Eng.reg ?_
  refine Eng.al rfl rfl rfl zr45_tre (cs := (bcs Oct.dz)) rfl ?_
  intro w2 hk2 hb2 hz2
  refine Eng.nil ?_
  refine hK1 _ _ ?_
  refine Eng.seqk fun K3 hK3 => ?_
  refine Eng.reg ?_
  refine Eng.sv rfl rfl (Eng.x_mv (v := (.int .u8 (k.toNat : Int))) rfl rfl) ?_
  refine Eng.bs (vs := [(.int .u8 (k.toNat : Int))]) (cs := (bcs [k])) rfl rfl rfl Tryd.underlying48 in5_tre rfl (by decide) rfl rfl (by decide) (by decide) (by simp [Value.cells]) rfl ?_
  intro w4 hk4 hb4 hz4
  refine Eng.sv rfl rfl (Eng.x_mv (v := v) rfl rfl) ?_
  have hB0_2 : Below w.heap.size w w4 := (hb2).trans (hb4.mono (hb2).size)
  have hr5 := (h).below hB0_2
  refine Eng.sc rfl (Eng.xc (vl := [v]) rfl rfl rfl en147_tre) (concat_calls v vs l _ hr5 h0 (by omega)) ?_
  rintro _ w6 ⟨vc6, rfl, ho6, hb6⟩
  refine Eng.aft_v rfl ?_
  have hr8 := ((Eng.own_lit (base := w2.heap.size) hk4 (Nat.le_refl _) (Nat.le_of_ble_eq_true rfl))).below hb6
  have hB1_3 : Below w2.heap.size w2 w6 := (hb4).trans (hb6.mono (hb4).size)
  refine Eng.apB rfl rfl rfl rfl hr8 rfl (ho6).rd (by simp only [List.length_cons, List.length_nil]; omega) (hB1_3).size ?_
  intro v7 w7 ho7 hg7
  rw [List.singleton_append] at ho7
  have hB0_3 : Below w.heap.size w w6 := (hB0_2).trans (hb6.mono (hB0_2).size)
  have hB0_4 : Below w.heap.size w w7 := (hB0_3).grown hg7 (hB0_3).size (fun k e => Nat.le_trans (hb2).size ((World.ownsRow.lt (Eng.own_lit (base := w2.heap.size) hk4 (Nat.le_refl _) (Nat.le_of_ble_eq_true rfl))) _ e).1)
  have hr9 := (hK).below hB0_4
  refine Eng.sc rfl (Eng.xc (vl := [v7]) rfl rfl rfl en132_tre) (hsum_calls _ ((k :: l.flatten)) _ (ho7).rd (Inn.own ho7) (by simp only [List.length_append, List.length_cons, List.length_nil] at *; omega) hr9) ?_
  rintro _ w10 ⟨rfl, hb10⟩
  refine Eng.aft_v rfl ?_
  have hk11 := ((((hk2).below hb4).below hb6).grown hg7 (fun e => absurd ((World.ownsRow.lt (Eng.own_lit (base := w2.heap.size) hk4 (Nat.le_refl _) (Nat.le_of_ble_eq_true rfl))) _ e.symm).1 (Nat.not_le_of_lt (Nat.lt_of_lt_of_le hz2 (Nat.le_refl _))))).below hb10
  refine Eng.stB (v := (dg (sha ((k :: l.flatten))))) rfl rfl rfl sz45_tre rfl hk11 rfl rfl (cs' := (bcs (sha ((k :: l.flatten))))) rfl ((bcs_length _).trans (sha_len _)) (bcs_one _) ?_
  intro w12 hk12 hg12
  refine Eng.nil ?_
  refine hK3 _ _ ?_
  refine Eng.rt ?_
  refine Eng.ret (Eng.res1 (v1 := (dg (sha ((k :: l.flatten))))) rfl (Eng.rdc rfl (Eng.lvB ag45_tre sz45_tre hk12 ((bcs_length _).trans (sha_len _)) rfl))) ?_
  have hB0_5 : Below w.heap.size w w10 := (hB0_4).trans (hb10.mono (hB0_4).size)
  have hB0_6 : Below w.heap.size w w12 := (hB0_5).grown hg12 (hB0_5).size (fun k e => by cases e; exact Nat.le_trans (Nat.le_refl _) (Nat.le_refl _))
  exact ⟨rfl, hB0_6⟩
theorem of2_calls (a b : List UInt8) (v : Value) (vs : List Value) (w : World) (h : Eng.BBs w v vs [a, b]) (ha : a.length = 32) (hb : b.length = 32) (hK : Kon w) : Calls Tryd.prog 135 #[.int .u8 1, v] w fun e w' => e = .returned (dg (nodeS a b)) ∧ Below w.heap.size w w' := by
  have := of_calls 1 v vs [a, b] w h (by simp; omega) (by simp; omega) hK
  simpa [nodeS] using this
set_option maxRecDepth 100000 in
set_option maxHeartbeats 4000000 in
theorem node_calls (a b : List UInt8) (ha : a.length = 32) (hb : b.length = 32) (w : World) (hK : Kon w) : Calls Tryd.prog 117 #[(dg a), (dg b)] w (fun e w' => e = .returned (dg (nodeS a b)) ∧ Below w.heap.size w w') := by
  refine Eng.enter (l := [(dg a), (dg b)]) Tryd.func117 rfl 9 rfl (by simp) ?_
  refine Eng.seqk fun K1 hK1 => ?_
  refine Eng.reg ?_
  refine Eng.bo (v := (dg a)) (cs := (bcs a)) rfl rfl rfl rfl rfl ?_
  intro w2 hk2 hb2 hz2
  refine Eng.bo (v := (dg b)) (cs := (bcs b)) rfl rfl rfl rfl rfl ?_
  intro w3 hk3 hb3 hz3
  refine Eng.al rfl rfl rfl zr45_tre (cs := (bcs Oct.dz)) rfl ?_
  intro w4 hk4 hb4 hz4
  refine Eng.nil ?_
  refine hK1 _ _ ?_
  refine Eng.seqk fun K5 hK5 => ?_
  have hk7 := ((hk2).below hb3).below hb4
  have hk8 := (hk3).below hb4
  have hB0_2 : Below w.heap.size w w3 := (hb2).trans (hb3.mono (hb2).size)
  have hB0_3 : Below w.heap.size w w4 := (hB0_2).trans (hb4.mono (hB0_2).size)
  have hr9 := (hK).below hB0_3
  refine Eng.draw 4 [fun (vQ : Value) (_ : World) => vQ = (.slice (some ⟨w.heap.size, 0, none⟩) 32 32), fun (vQ : Value) (_ : World) => vQ = (.slice (some ⟨w2.heap.size, 0, none⟩) 32 32), fun (v : Value) (W : World) => ∃ g, v = .slice (some ⟨g, 0, none⟩) 2 2 ∧ Blk W g 48 [(.slice (some ⟨w.heap.size, 0, none⟩) 32 32), (.slice (some ⟨w2.heap.size, 0, none⟩) 32 32)] ∧ w4.heap.size ≤ g, fun (vQ : Value) (_ : World) => vQ = (dg (nodeS a b))] (by kernel_rfl) (by kernel_rfl) (by kernel_rfl) (by kernel_rfl) rfl rfl ?_ ?_ ?_
  · exact ⟨fun _ _ _ h _ => h, fun _ _ _ h _ => h, fun v W W' ⟨g, h1, h2, h3⟩ hb => ⟨g, h1, h2.below hb, h3⟩, fun _ _ _ h _ => h, trivial⟩
  · refine ⟨?_, ?_, ?_, ?_, trivial⟩
    · intro u' W hbW hkp hdp K hK
      refine Eng.dv rfl rfl ?_ (hK _ _ (Below.refl _ _) rfl)
      exact (Eng.x_slA rfl Tryd.underlying45 sz5_tre (show Eng.opv 9 u' (.tmp 2) = (.pointer (some ⟨w.heap.size, 0, none⟩)) from hkp 2 rfl))
    · intro u' W hbW hkp hdp K hK
      refine Eng.dv rfl rfl ?_ (hK _ _ (Below.refl _ _) rfl)
      exact (Eng.x_slA rfl Tryd.underlying45 sz5_tre (show Eng.opv 9 u' (.tmp 3) = (.pointer (some ⟨w2.heap.size, 0, none⟩)) from hkp 3 rfl))
    · intro u' W hbW hkp hdp K hK
      have e0 : (fun (vQ : Value) (_ : World) => vQ = (.slice (some ⟨w.heap.size, 0, none⟩) 32 32)) (u' 5) W := hdp.1
      have e1 : (fun (vQ : Value) (_ : World) => vQ = (.slice (some ⟨w2.heap.size, 0, none⟩) 32 32)) (u' 6) W := hdp.2.1
      refine Eng.dv rfl rfl ?_ (hK (.slice (some ⟨W.heap.size, 0, none⟩) 2 2) (W.alloc (.cells [(.slice (some ⟨w.heap.size, 0, none⟩) 32 32), (.slice (some ⟨w2.heap.size, 0, none⟩) 32 32)].toArray 48)) (Eng.below_al _ _) ⟨_, rfl, Blk.new _ _ _, hbW.size⟩)
      exact Eng.x_bs (parts := #[(0, (Go.Operand.tmp 5)), (1, (Go.Operand.tmp 6))]) (vs := [(.slice (some ⟨w.heap.size, 0, none⟩) 32 32), (.slice (some ⟨w2.heap.size, 0, none⟩) 32 32)]) (cs := [(.slice (some ⟨w.heap.size, 0, none⟩) 32 32), (.slice (some ⟨w2.heap.size, 0, none⟩) 32 32)]) (n := 2) rfl Tryd.underlying73 in48_tre rfl (by decide) (Eng.lc (Eng.pr (show Eng.opv 9 u' (.tmp 5) = (.slice (some ⟨w.heap.size, 0, none⟩) 32 32) from e0)) (Eng.lc (Eng.pr (show Eng.opv 9 u' (.tmp 6) = (.slice (some ⟨w2.heap.size, 0, none⟩) 32 32) from e1)) rfl)) rfl (by decide) (by decide) (by simp [Value.cells]) rfl
    · intro u' W hbW hkp hdp K hK
      obtain ⟨gd6_2, e2, hkx2, hlx2⟩ : (fun (v : Value) (W : World) => ∃ g, v = .slice (some ⟨g, 0, none⟩) 2 2 ∧ Blk W g 48 [(.slice (some ⟨w.heap.size, 0, none⟩) 32 32), (.slice (some ⟨w2.heap.size, 0, none⟩) 32 32)] ∧ w4.heap.size ≤ g) (u' 7) W := hdp.1
      refine Eng.dc (vs := #[(.int .u8 1), (.slice (some ⟨gd6_2, 0, none⟩) 2 2)]) rfl ?_ (of2_calls a b _ _ _ (Eng.bb_two hkx2 (((Rd.of_blk hk7 32 ha (by decide))).below hbW) (((Rd.of_blk hk8 32 hb (by decide))).below hbW)) ha hb ((hr9).below hbW)) ?_
      · exact Eng.xc (xs := #[(Go.Operand.const (Go.Value.int Go.IntKind.u8 1)), (Go.Operand.tmp 7)]) (vl := [(.int .u8 1), (.slice (some ⟨gd6_2, 0, none⟩) 2 2)]) rfl rfl (Eng.lc rfl (Eng.lc (show Eng.opv 9 u' (.tmp 7) = (.slice (some ⟨gd6_2, 0, none⟩) 2 2) from e2) rfl)) en135_tre
      rintro _ W2 ⟨rfl, hb2⟩
      exact Eng.aft_v rfl (hK _ _ hb2 rfl)
  · intro ud6 w6 hb6 hkp6 ⟨f6_0, f6_1, ⟨gd6_2, f6_2, hkd6_2, hld6_2⟩, f6_3, _⟩
    obtain rfl := Eng.collect (l := [(5, (.slice (some ⟨w.heap.size, 0, none⟩) 32 32)), (6, (.slice (some ⟨w2.heap.size, 0, none⟩) 32 32)), (7, (.slice (some ⟨gd6_2, 0, none⟩) 2 2)), (8, (dg (nodeS a b)))]) hkp6 ⟨f6_0, f6_1, f6_2, f6_3, trivial⟩ rfl
    have hk10 := (hk4).below hb6
    refine Eng.stB (v := (dg (nodeS a b))) rfl rfl rfl sz45_tre rfl hk10 rfl rfl (cs' := (bcs (nodeS a b))) rfl ((bcs_length _).trans (nodeS_len _ _)) (bcs_one _) ?_
    intro w11 hk11 hg11
    refine Eng.nil ?_
    refine hK5 _ _ ?_
    refine Eng.rt ?_
    refine Eng.ret (Eng.res1 (v1 := (dg (nodeS a b))) rfl (Eng.rdc rfl (Eng.lvB ag45_tre sz45_tre hk11 ((bcs_length _).trans (nodeS_len _ _)) rfl))) ?_
    have hB0_4 : Below w.heap.size w w6 := (hB0_3).trans (hb6.mono (hB0_3).size)
    have hB0_5 : Below w.heap.size w w11 := (hB0_4).grown hg11 (hB0_4).size (fun k e => by cases e; exact Nat.le_trans (hB0_2).size (Nat.le_refl _))
    exact ⟨rfl, hB0_5⟩
theorem rsum2_calls (a b : List UInt8) (v : Value) (w : World) (h : Rd w v ([1] ++ a ++ b)) (ha : a.length = 32) (hb : b.length = 32) : Calls Tryd.prog 139 #[v] w fun e w' => e = .returned (dg (nodeS a b)) ∧ Below w.heap.size w w' := by
  have := rsum_calls v ([1] ++ a ++ b) w h (by simp; omega)
  simpa [nodeS] using this
set_option maxRecDepth 100000 in
set_option maxHeartbeats 4000000 in
theorem rnode_calls (a b : List UInt8) (ha : a.length = 32) (hb : b.length = 32) (w : World) : Calls Tryd.prog 125 #[(dg a), (dg b)] w (fun e w' => e = .returned (dg (nodeS a b)) ∧ Below w.heap.size w w') := by
  refine Eng.enter (l := [(dg a), (dg b)]) Tryd.func125 rfl 11 rfl (by simp) ?_
  refine Eng.seqk fun K1 hK1 => ?_
  refine Eng.reg ?_
  refine Eng.bo (v := (dg a)) (cs := (bcs a)) rfl rfl rfl rfl rfl ?_
  intro w2 hk2 hb2 hz2
  refine Eng.bo (v := (dg b)) (cs := (bcs b)) rfl rfl rfl rfl rfl ?_
  intro w3 hk3 hb3 hz3
  refine Eng.al rfl rfl rfl zr45_tre (cs := (bcs Oct.dz)) rfl ?_
  intro w4 hk4 hb4 hz4
  refine Eng.nil ?_
  refine hK1 _ _ ?_
  refine Eng.seqk fun K5 hK5 => ?_
  have hk7 := ((hk2).below hb3).below hb4
  have hk8 := (hk3).below hb4
  refine Eng.draw 4 [fun (v : Value) (W : World) => ∃ g, v = .slice (some ⟨g, 0, none⟩) 1 1 ∧ Blk W g 5 (bcs [1]) ∧ w4.heap.size ≤ g, fun (vQ : Value) (_ : World) => vQ = (.slice (some ⟨w.heap.size, 0, none⟩) 32 32), fun (v : Value) (W : World) => Own w4.heap.size W v ([1] ++ a), fun (vQ : Value) (_ : World) => vQ = (.slice (some ⟨w2.heap.size, 0, none⟩) 32 32)] (by kernel_rfl) (by kernel_rfl) (by kernel_rfl) (by kernel_rfl) rfl rfl ?_ ?_ ?_
  · exact ⟨fun v W W' ⟨g, h1, h2, h3⟩ hb => ⟨g, h1, h2.below hb, h3⟩, fun _ _ _ h _ => h, fun _ _ _ h hb => h.below hb, fun _ _ _ h _ => h, trivial⟩
  · refine ⟨?_, ?_, ?_, ?_, trivial⟩
    · intro u' W hbW hkp hdp K hK
      refine Eng.dv rfl rfl ?_ (hK (.slice (some ⟨W.heap.size, 0, none⟩) 1 1) (W.alloc (.cells (bcs [1]).toArray 5)) (Eng.below_al _ _) ⟨_, rfl, Blk.new _ _ _, hbW.size⟩)
      exact Eng.x_bs (parts := #[(0, (Go.Operand.const (Go.Value.int Go.IntKind.u8 1)))]) (vs := [(.int .u8 1)]) (cs := (bcs [1])) (n := 1) rfl Tryd.underlying48 in5_tre rfl (by decide) (Eng.lc rfl rfl) rfl (by decide) (by decide) (by simp [Value.cells]) rfl
    · intro u' W hbW hkp hdp K hK
      refine Eng.dv rfl rfl ?_ (hK _ _ (Below.refl _ _) rfl)
      exact (Eng.x_slA rfl Tryd.underlying45 sz5_tre (show Eng.opv 11 u' (.tmp 2) = (.pointer (some ⟨w.heap.size, 0, none⟩)) from hkp 2 rfl))
    · intro u' W hbW hkp hdp K hK
      obtain ⟨gd6_0, e0, hkx0, hlx0⟩ : (fun (v : Value) (W : World) => ∃ g, v = .slice (some ⟨g, 0, none⟩) 1 1 ∧ Blk W g 5 (bcs [1]) ∧ w4.heap.size ≤ g) (u' 5) W := hdp.1
      have e1 : (fun (vQ : Value) (_ : World) => vQ = (.slice (some ⟨w.heap.size, 0, none⟩) 32 32)) (u' 6) W := hdp.2.1
      refine Eng.dap1 (xs := [1]) rfl rfl rfl (show Eng.opv 11 u' (.tmp 5) = (.slice (some ⟨gd6_0, 0, none⟩) 1 1) from e0) hkx0 (show Eng.opv 11 u' (.tmp 6) = (.slice (some ⟨w.heap.size, 0, none⟩) 32 32) from e1) (((Rd.of_blk hk7 32 ha (by decide))).below hbW) (by intro e; rw [e] at ha; cases ha) (by simp; omega) ?_
      intro v2 W2 ho2 hb2
      exact hK _ _ hb2 (ho2.mono hbW.size)
    · intro u' W hbW hkp hdp K hK
      refine Eng.dv rfl rfl ?_ (hK _ _ (Below.refl _ _) rfl)
      exact (Eng.x_slA rfl Tryd.underlying45 sz5_tre (show Eng.opv 11 u' (.tmp 3) = (.pointer (some ⟨w2.heap.size, 0, none⟩)) from hkp 3 rfl))
  · intro ud6 w6 hb6 hkp6 ⟨⟨gd6_0, f6_0, hkd6_0, hld6_0⟩, f6_1, f6_2, f6_3, _⟩
    obtain ⟨vd6_2, hv6_2⟩ : ∃ v, v = ud6 7 := ⟨_, rfl⟩
    have g6_2 : (fun (v : Value) (W : World) => Own w4.heap.size W v ([1] ++ a)) vd6_2 w6 := by rw [hv6_2]; exact f6_2
    obtain rfl := Eng.collect (l := [(5, (.slice (some ⟨gd6_0, 0, none⟩) 1 1)), (6, (.slice (some ⟨w.heap.size, 0, none⟩) 32 32)), (7, vd6_2), (8, (.slice (some ⟨w2.heap.size, 0, none⟩) 32 32))]) hkp6 ⟨f6_0, f6_1, hv6_2.symm, f6_3, trivial⟩ rfl
    have hk10 := (hk8).below hb6
    refine Eng.apB rfl rfl rfl rfl g6_2 rfl (Rd.of_blk hk10 32 hb (by decide)) (by simp; omega) (hb6).size ?_
    intro v9 w9 ho9 hg9
    refine Eng.sc rfl (Eng.xc (vl := [v9]) rfl rfl rfl en139_tre) (rsum2_calls a b _ _ (ho9).rd ha hb) ?_
    rintro _ w11 ⟨rfl, hb11⟩
    refine Eng.aft_v rfl ?_
    have hk12 := (((hk4).below hb6).grown hg9 (fun e => absurd ((World.ownsRow.lt g6_2) _ e.symm).1 (Nat.not_le_of_lt (Nat.lt_of_lt_of_le hz4 (Nat.le_refl _))))).below hb11
    refine Eng.stB (v := (dg (nodeS a b))) rfl rfl rfl sz45_tre rfl hk12 rfl rfl (cs' := (bcs (nodeS a b))) rfl ((bcs_length _).trans (nodeS_len _ _)) (bcs_one _) ?_
    intro w13 hk13 hg13
    refine Eng.nil ?_
    refine hK5 _ _ ?_
    refine Eng.rt ?_
    refine Eng.ret (Eng.res1 (v1 := (dg (nodeS a b))) rfl (Eng.rdc rfl (Eng.lvB ag45_tre sz45_tre hk13 ((bcs_length _).trans (nodeS_len _ _)) rfl))) ?_
    have hB0_2 : Below w.heap.size w w3 := (hb2).trans (hb3.mono (hb2).size)
    have hB0_3 : Below w.heap.size w w4 := (hB0_2).trans (hb4.mono (hB0_2).size)
    have hB0_4 : Below w.heap.size w w6 := (hB0_3).trans (hb6.mono (hB0_3).size)
    have hB0_5 : Below w.heap.size w w9 := (hB0_4).grown hg9 (hB0_4).size (fun k e => Nat.le_trans (hB0_3).size ((World.ownsRow.lt g6_2) _ e).1)
    have hB0_6 : Below w.heap.size w w11 := (hB0_5).trans (hb11.mono (hB0_5).size)
    have hB0_7 : Below w.heap.size w w13 := (hB0_6).grown hg13 (hB0_6).size (fun k e => by cases e; exact Nat.le_trans (hB0_2).size (Nat.le_refl _))
    exact ⟨rfl, hB0_7⟩
end Go.Proofs.YtnecgoahdkfbeaaDoor.Tre
