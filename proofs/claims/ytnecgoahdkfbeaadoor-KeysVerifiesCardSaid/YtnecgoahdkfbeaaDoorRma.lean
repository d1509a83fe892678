/- The reference's keyed digests: Mac, Child. -/
import Derived.Test.YtnecgoahdkfbeaaDoorMac
import Derived.Test.YtnecgoahdkfbeaaDoorShaB
namespace Go.Proofs.YtnecgoahdkfbeaaDoor.Mac
open Go Go.RowKit Go.Proofs.YtnecgoahdkfbeaaDoor Go.Proofs.YtnecgoahdkfbeaaDoor.Cop Go.Proofs.YtnecgoahdkfbeaaDoor.Oct Go.Proofs.YtnecgoahdkfbeaaDoor.Sha
set_option linter.unusedVariables false
set_option linter.unusedSimpArgs false
theorem zr45_rm (w : World) : (zeroValue 45).run Tryd.prog w = .ok (dg Oct.dz) w := by kernel_rfl
theorem sz5_rm : (Tryd.prog.info? 5).map (fun i => i.size) = some 1 := by kernel_rfl
theorem ag5_rm (w : World) : (isAgg 5).run Tryd.prog w = .ok false w := by kernel_rfl
theorem in5_rm : (Tryd.prog.info? 5).map (fun i => (i.zero, i.size, i.bytes)) = some (some (.int .u8 0), 1, 1) := by kernel_rfl
theorem en139_rm : Eng.Entr Tryd.prog 139 := ⟨_, Tryd.func139, by kernel_rfl, by kernel_rfl⟩
theorem zr44_rm (w : World) : (zeroValue 44).run Tryd.prog w = .ok (dg Oct.dz) w := by kernel_rfl
theorem sz44_rm : (Tryd.prog.info? 44).map (fun i => i.size) = some 32 := by kernel_rfl
theorem sz45_rm : (Tryd.prog.info? 45).map (fun i => i.size) = some 32 := by kernel_rfl
theorem ag45_rm (w : World) : (isAgg 45).run Tryd.prog w = .ok true w := by kernel_rfl
theorem en102_rm : Eng.Entr Tryd.prog 102 := ⟨_, Tryd.func102, by kernel_rfl, by kernel_rfl⟩
theorem en222_rm : Eng.Entr Tryd.prog 222 := ⟨_, Tryd.func222, by kernel_rfl, by kernel_rfl⟩
theorem pad_yes {k : List UInt8} {i : Nat} (h : i < k.length) (x : UInt8) : (pad k x).take i ++ [(k.getD i 0 ^^^ x)] = (pad k x).take (i + 1) := by
  have hl : i < (pad k x).length := by simp [pad]; omega
  rw [List.take_succ_eq_append_getElem hl]
  congr 2
  simp [pad, List.getElem_append_left, h]
theorem pad_no {k : List UInt8} {i : Nat} (h : k.length ≤ i) (h2 : i < 64) (x : UInt8) : (pad k x).take i ++ [((0 : UInt8) ^^^ x)] = (pad k x).take (i + 1) := by
  have hl : i < (pad k x).length := by simp [pad]; omega
  rw [List.take_succ_eq_append_getElem hl]
  congr 2
  simp [pad, List.getElem_append_right, h]
theorem pad_all {k : List UInt8} {i : Nat} (h : k.length ≤ 64) (hi : 64 ≤ i) (x : UInt8) : (pad k x).take i = pad k x := List.take_of_length_le (by rw [pad_len h]; omega)
set_option maxRecDepth 100000 in
set_option maxHeartbeats 4000000 in
theorem rmac_calls (v vm : Value) (k m : List UInt8) (w : World) (hb : Rd w v k) (hl : k.length = 32) (hbm : Rd w vm m) (hm : m.length ≤ 140737488355000) : Calls Tryd.prog 222 #[v, vm] w (fun e w' => e = .returned (dg (hmac k m)) ∧ Below w.heap.size w w') := by
  refine Eng.enter (l := [v, vm]) Tryd.func222 rfl 47 rfl (by simp) ?_
  refine Eng.seqk fun K1 hK1 => ?_
  refine Eng.reg ?_
  refine Eng.al rfl rfl rfl zr45_rm (cs := (bcs Oct.dz)) rfl ?_
  intro w2 hk2 hb2 hz2
  refine Eng.nil ?_
  refine hK1 _ _ ?_
  refine Eng.seqk fun K3 hK3 => ?_
  refine Eng.seqk fun K4 hK4 => ?_
  refine Eng.reg ?_
  refine Eng.sv rfl rfl (Eng.x_mv (v := v) rfl rfl) ?_
  have hr5 := (hb).below hb2
  refine Eng.sv rfl rfl (Eng.x_len (v := v) (r := (k.length : Int)) rfl Tryd.underlying48 rfl hr5 rfl) ?_
  refine Eng.sv rfl rfl (Eng.x_gt (r := false) rfl rfl rfl (decide_eq_false (by omega))) ?_
  refine Eng.nil ?_
  refine hK4 _ _ ?_
  refine Eng.cond_f rfl ?_
  refine Eng.skp ?_
  refine hK3 _ _ ?_
  refine Eng.seqk fun K6 hK6 => ?_
  refine Eng.reg ?_
  refine Eng.sv rfl rfl (Eng.x_as (v := (.slice none 0 0)) rfl rfl) ?_
  refine Eng.sv rfl rfl (Eng.x_as (v := (.slice none 0 0)) rfl rfl) ?_
  refine Eng.nil ?_
  refine hK6 _ _ ?_
  refine Eng.seqk fun K7 hK7 => ?_
  refine Eng.seqk fun K8 hK8 => ?_
  refine Eng.reg ?_
  refine Eng.sv rfl rfl (Eng.x_as (v := (.int .i64 0)) rfl rfl) ?_
  refine Eng.nil ?_
  refine hK8 _ _ ?_
  refine Eng.blk ?_
  refine Eng.loopN (fun zz u w' => ∃ (i : Nat), ∃ (vi : Value), ∃ (vo : Value), zz = 64 - i ∧ i ≤ 64 ∧ Eng.Has u [(0, v), (1, vm), (4, (.pointer (some ⟨w.heap.size, 0, none⟩))), (6, vi), (7, vo), (8, (.int .i64 (i : Int)))] ∧ Below w.heap.size w w' ∧ w2.heap.size ≤ w'.heap.size ∧ Blk w' w.heap.size 45 (bcs Oct.dz) ∧ Oct.Own w2.heap.size w' vi ((pad k 54).take i) ∧ Oct.Own w2.heap.size w' vo ((pad k 92).take i) ∧ (∀ g_, vi.ownBlock = some g_ → vo.ownBlock ≠ some g_)) _ ⟨0, (.slice none 0 0), (.slice none 0 0), rfl, by omega, ⟨rfl, rfl, rfl, rfl, rfl, (Eng.ie (by first | omega | rfl)), trivial⟩, hb2, (Nat.le_refl _), hk2, (Own.nil _ _), (Own.nil _ _), (fun g_ e_ => by cases e_)⟩ ?_
  rintro _ u9 w9 ⟨i, vi, vo, rfl, hs9_0, hH9, hBL9, hzL9, hkL9_0, hrL9_0, hrL9_1, hap⟩ K9 hK9
  obtain ⟨u9, rfl⟩ := hH9.ex
  refine Eng.seqk fun K10 hK10 => ?_
  refine Eng.seqk fun K11 hK11 => ?_
  refine Eng.reg ?_
  refine Eng.sv rfl rfl (Eng.x_mv (v := (.int .i64 (i : Int))) rfl rfl) ?_
  by_cases h18 : ((i : Int) : Int) < 64
  · skip
    refine Eng.sv rfl rfl (Eng.x_lt (r := true) rfl rfl rfl (decide_eq_true (by omega))) ?_
    refine Eng.nil ?_
    refine hK11 _ _ ?_
    refine Eng.cond_t rfl ?_
    refine Eng.skp ?_
    refine hK10 _ _ ?_
    refine Eng.seqk fun K12 hK12 => ?_
    refine Eng.blk ?_
    refine Eng.seqk fun K13 hK13 => ?_
    refine Eng.reg ?_
    refine Eng.sv rfl rfl (Eng.x_as (v := (.int .u8 0)) rfl rfl) ?_
    refine Eng.nil ?_
    refine hK13 _ _ ?_
    refine Eng.seqk fun K14 hK14 => ?_
    refine Eng.seqk fun K15 hK15 => ?_
    refine Eng.reg ?_
    refine Eng.sv rfl rfl (Eng.x_mv (v := (.int .i64 (i : Int))) rfl rfl) ?_
    refine Eng.sv rfl rfl (Eng.x_mv (v := v) rfl rfl) ?_
    have hr16 := (hb).below hBL9
    refine Eng.sv rfl rfl (Eng.x_len (v := v) (r := (k.length : Int)) rfl Tryd.underlying48 rfl hr16 rfl) ?_
    by_cases h24 : ((i : Int) : Int) < (k.length : Int)
    · skip
      refine Eng.sv rfl rfl (Eng.x_lt (r := true) rfl rfl rfl (decide_eq_true (by omega))) ?_
      refine Eng.nil ?_
      refine hK15 _ _ ?_
      refine Eng.cond_t rfl ?_
      refine Eng.reg ?_
      refine Eng.sv rfl rfl (Eng.x_mv (v := v) rfl rfl) ?_
      refine Eng.sv rfl rfl (Eng.x_mv (v := (.int .i64 (i : Int))) rfl rfl) ?_
      refine Eng.sv rfl rfl (Eng.x_ia (v := v) (j := i) rfl Tryd.underlying48 sz5_rm (by decide) rfl rfl hr16 (by rw [Nat.mul_one]; exact bcs_length _) (by omega) (by omega)) ?_
      refine Eng.sv rfl rfl (Eng.x_ld1 (v := (.int .u8 (((k).getD i 0).toNat : Int))) rfl ag5_rm rfl (Eng.rd_at hr16 (by omega))) ?_
      refine Eng.sv rfl rfl (Eng.x_as (v := (.int .u8 (((k).getD i 0).toNat : Int))) rfl rfl) ?_
      refine Eng.nil ?_
      refine hK14 _ _ ?_
      refine Eng.seqk fun K17 hK17 => ?_
      refine Eng.reg ?_
      refine Eng.sv rfl rfl (Eng.x_mv (v := vi) rfl rfl) ?_
      refine Eng.sv rfl rfl (Eng.x_mv (v := (.int .u8 (((k).getD i 0).toNat : Int))) rfl rfl) ?_
      refine Eng.sv rfl rfl (Eng.x_bits (v := (.int .u8 ((k.getD i 0 ^^^ 54).toNat : Int))) rfl (by simp) rfl rfl (Eng.xor_u8 _ 54 _ _)) ?_
      refine Eng.bs (vs := [(.int .u8 ((k.getD i 0 ^^^ 54).toNat : Int))]) (cs := (bcs [(k.getD i 0 ^^^ 54)])) rfl rfl rfl Tryd.underlying48 in5_rm rfl (by decide) rfl rfl (by decide) (by decide) (by simp [Value.cells]) rfl ?_
      intro w18 hk18 hb18 hz18
      have hr20 := (hrL9_0).below hb18
      refine Eng.apB2 rfl rfl rfl rfl hr20 rfl ((Eng.own_lit (base := w9.heap.size) hk18 (Nat.le_refl _) (Nat.le_of_ble_eq_true rfl))).rd (by rw [List.length_take]; simp only [List.length_cons, List.length_nil]; omega) (Nat.le_trans hzL9 (hb18).size) ?_
      intro v19 w19 ho19 hg19 hw19
      have hap21 := Eng.apart_step hw19 hap (fun g_ e_ => Nat.lt_of_lt_of_le ((World.ownsRow.lt hrL9_1) g_ e_).2 (hb18).size)
      rw [pad_yes (by omega) _] at ho19
      refine Eng.sv rfl rfl (Eng.x_as (v := v19) rfl rfl) ?_
      refine Eng.nil ?_
      refine hK17 _ _ ?_
      refine Eng.reg ?_
      refine Eng.sv rfl rfl (Eng.x_mv (v := vo) rfl rfl) ?_
      refine Eng.sv rfl rfl (Eng.x_mv (v := (.int .u8 (((k).getD i 0).toNat : Int))) rfl rfl) ?_
      refine Eng.sv rfl rfl (Eng.x_bits (v := (.int .u8 ((k.getD i 0 ^^^ 92).toNat : Int))) rfl (by simp) rfl rfl (Eng.xor_u8 _ 92 _ _)) ?_
      refine Eng.bs (vs := [(.int .u8 ((k.getD i 0 ^^^ 92).toNat : Int))]) (cs := (bcs [(k.getD i 0 ^^^ 92)])) rfl rfl rfl Tryd.underlying48 in5_rm rfl (by decide) rfl rfl (by decide) (by decide) (by simp [Value.cells]) rfl ?_
      intro w22 hk22 hb22 hz22
      have hr24 := (((hrL9_1).below hb18).kept hg19 (Eng.apart_or (Eng.apart_symm hap))).below hb22
      refine Eng.apB2 rfl rfl rfl rfl hr24 rfl ((Eng.own_lit (base := w19.heap.size) hk22 (Nat.le_refl _) (Nat.le_of_ble_eq_true rfl))).rd (by rw [List.length_take]; simp only [List.length_cons, List.length_nil]; omega) (Nat.le_trans (Nat.le_trans (Nat.le_trans hzL9 (hb18).size) (hg19).size) (hb22).size) ?_
      intro v23 w23 ho23 hg23 hw23
      have hap25 := Eng.apart_step hw23 (Eng.apart_symm hap) (fun g_ e_ => Nat.lt_of_lt_of_le ((World.ownsRow.lt hrL9_0) g_ e_).2 (Nat.le_trans (Nat.le_trans (hb18).size (hg19).size) (hb22).size))
      have hap26 := Eng.apart_step hw23 (Eng.apart_symm hap21) (fun g_ e_ => Nat.lt_of_lt_of_le ((World.ownsRow.lt ho19) g_ e_).2 (hb22).size)
      rw [pad_yes (by omega) _] at ho23
      refine Eng.sv rfl rfl (Eng.x_as (v := v23) rfl rfl) ?_
      refine Eng.nil ?_
      refine Eng.nb ?_
      refine hK12 _ _ ?_
      refine Eng.reg ?_
      refine Eng.sv rfl rfl (Eng.x_mv (v := (.int .i64 (i : Int))) rfl rfl) ?_
      refine Eng.sv rfl rfl (Eng.x_add rfl rfl rfl (Eng.w64 (r := ((i + 1 : Nat) : Int)) (by omega))) ?_
      refine Eng.sv rfl rfl (Eng.x_as (v := (.int .i64 ((i + 1 : Nat) : Int))) rfl rfl) ?_
      refine Eng.nil ?_
      have hr27 := ((ho19).below hb22).kept hg23 (Eng.apart_or hap21)
      have hB0_3 : Below w.heap.size w w18 := (hBL9).trans (hb18.mono (hBL9).size)
      have hB0_4 : Below w.heap.size w w19 := (hB0_3).grown hg19 (hB0_3).size (fun k e => Nat.le_trans (hb2).size ((World.ownsRow.lt hrL9_0) _ e).1)
      have hB0_5 : Below w.heap.size w w22 := (hB0_4).trans (hb22.mono (hB0_4).size)
      have hB0_6 : Below w.heap.size w w23 := (hB0_5).grown hg23 (hB0_5).size (fun k e => Nat.le_trans (hb2).size ((World.ownsRow.lt hrL9_1) _ e).1)
      have hk28 := ((((hkL9_0).below hb18).grown hg19 (fun e => absurd ((World.ownsRow.lt hrL9_0) _ e.symm).1 (Nat.not_le_of_lt (Nat.lt_of_lt_of_le hz2 (Nat.le_refl _))))).below hb22).grown hg23 (fun e => absurd ((World.ownsRow.lt hrL9_1) _ e.symm).1 (Nat.not_le_of_lt (Nat.lt_of_lt_of_le hz2 (Nat.le_refl _))))
      exact hK9 _ _ _ ⟨i + 1, v19, v23, rfl, by omega, ⟨rfl, rfl, rfl, rfl, rfl, (Eng.ie (by first | omega | rfl)), trivial⟩, hB0_6, (Nat.le_trans (Nat.le_trans (Nat.le_trans (Nat.le_trans hzL9 (hb18).size) (hg19).size) (hb22).size) (hg23).size), hk28, hr27, ho23, (Eng.apart_symm hap26)⟩ (by omega)
    · skip
      refine Eng.sv rfl rfl (Eng.x_lt (r := false) rfl rfl rfl (decide_eq_false (by omega))) ?_
      refine Eng.nil ?_
      refine hK15 _ _ ?_
      refine Eng.cond_f rfl ?_
      refine Eng.skp ?_
      refine hK14 _ _ ?_
      refine Eng.seqk fun K29 hK29 => ?_
      refine Eng.reg ?_
      refine Eng.sv rfl rfl (Eng.x_mv (v := vi) rfl rfl) ?_
      refine Eng.sv rfl rfl (Eng.x_mv (v := (.int .u8 0)) rfl rfl) ?_
      refine Eng.sv rfl rfl (Eng.x_bits (v := (.int .u8 (((0 : UInt8) ^^^ 54).toNat : Int))) rfl (by simp) rfl rfl (Eng.xor_u8 0 54 _ _)) ?_
      refine Eng.bs (vs := [(.int .u8 (((0 : UInt8) ^^^ 54).toNat : Int))]) (cs := (bcs [((0 : UInt8) ^^^ 54)])) rfl rfl rfl Tryd.underlying48 in5_rm rfl (by decide) rfl rfl (by decide) (by decide) (by simp [Value.cells]) rfl ?_
      intro w30 hk30 hb30 hz30
      have hr32 := (hrL9_0).below hb30
      refine Eng.apB2 rfl rfl rfl rfl hr32 rfl ((Eng.own_lit (base := w9.heap.size) hk30 (Nat.le_refl _) (Nat.le_of_ble_eq_true rfl))).rd (by rw [List.length_take]; simp only [List.length_cons, List.length_nil]; omega) (Nat.le_trans hzL9 (hb30).size) ?_
      intro v31 w31 ho31 hg31 hw31
      have hap33 := Eng.apart_step hw31 hap (fun g_ e_ => Nat.lt_of_lt_of_le ((World.ownsRow.lt hrL9_1) g_ e_).2 (hb30).size)
      rw [pad_no (by omega) (by omega) _] at ho31
      refine Eng.sv rfl rfl (Eng.x_as (v := v31) rfl rfl) ?_
      refine Eng.nil ?_
      refine hK29 _ _ ?_
      refine Eng.reg ?_
      refine Eng.sv rfl rfl (Eng.x_mv (v := vo) rfl rfl) ?_
      refine Eng.sv rfl rfl (Eng.x_mv (v := (.int .u8 0)) rfl rfl) ?_
      refine Eng.sv rfl rfl (Eng.x_bits (v := (.int .u8 (((0 : UInt8) ^^^ 92).toNat : Int))) rfl (by simp) rfl rfl (Eng.xor_u8 0 92 _ _)) ?_
      refine Eng.bs (vs := [(.int .u8 (((0 : UInt8) ^^^ 92).toNat : Int))]) (cs := (bcs [((0 : UInt8) ^^^ 92)])) rfl rfl rfl Tryd.underlying48 in5_rm rfl (by decide) rfl rfl (by decide) (by decide) (by simp [Value.cells]) rfl ?_
      intro w34 hk34 hb34 hz34
      have hr36 := (((hrL9_1).below hb30).kept hg31 (Eng.apart_or (Eng.apart_symm hap))).below hb34
      refine Eng.apB2 rfl rfl rfl rfl hr36 rfl ((Eng.own_lit (base := w31.heap.size) hk34 (Nat.le_refl _) (Nat.le_of_ble_eq_true rfl))).rd (by rw [List.length_take]; simp only [List.length_cons, List.length_nil]; omega) (Nat.le_trans (Nat.le_trans (Nat.le_trans hzL9 (hb30).size) (hg31).size) (hb34).size) ?_
      intro v35 w35 ho35 hg35 hw35
      have hap37 := Eng.apart_step hw35 (Eng.apart_symm hap) (fun g_ e_ => Nat.lt_of_lt_of_le ((World.ownsRow.lt hrL9_0) g_ e_).2 (Nat.le_trans (Nat.le_trans (hb30).size (hg31).size) (hb34).size))
      have hap38 := Eng.apart_step hw35 (Eng.apart_symm hap33) (fun g_ e_ => Nat.lt_of_lt_of_le ((World.ownsRow.lt ho31) g_ e_).2 (hb34).size)
      rw [pad_no (by omega) (by omega) _] at ho35
      refine Eng.sv rfl rfl (Eng.x_as (v := v35) rfl rfl) ?_
      refine Eng.nil ?_
      refine Eng.nb ?_
      refine hK12 _ _ ?_
      refine Eng.reg ?_
      refine Eng.sv rfl rfl (Eng.x_mv (v := (.int .i64 (i : Int))) rfl rfl) ?_
      refine Eng.sv rfl rfl (Eng.x_add rfl rfl rfl (Eng.w64 (r := ((i + 1 : Nat) : Int)) (by omega))) ?_
      refine Eng.sv rfl rfl (Eng.x_as (v := (.int .i64 ((i + 1 : Nat) : Int))) rfl rfl) ?_
      refine Eng.nil ?_
      have hr39 := ((ho31).below hb34).kept hg35 (Eng.apart_or hap33)
      have hB0_3 : Below w.heap.size w w30 := (hBL9).trans (hb30.mono (hBL9).size)
      have hB0_4 : Below w.heap.size w w31 := (hB0_3).grown hg31 (hB0_3).size (fun k e => Nat.le_trans (hb2).size ((World.ownsRow.lt hrL9_0) _ e).1)
      have hB0_5 : Below w.heap.size w w34 := (hB0_4).trans (hb34.mono (hB0_4).size)
      have hB0_6 : Below w.heap.size w w35 := (hB0_5).grown hg35 (hB0_5).size (fun k e => Nat.le_trans (hb2).size ((World.ownsRow.lt hrL9_1) _ e).1)
      have hk40 := ((((hkL9_0).below hb30).grown hg31 (fun e => absurd ((World.ownsRow.lt hrL9_0) _ e.symm).1 (Nat.not_le_of_lt (Nat.lt_of_lt_of_le hz2 (Nat.le_refl _))))).below hb34).grown hg35 (fun e => absurd ((World.ownsRow.lt hrL9_1) _ e.symm).1 (Nat.not_le_of_lt (Nat.lt_of_lt_of_le hz2 (Nat.le_refl _))))
      exact hK9 _ _ _ ⟨i + 1, v31, v35, rfl, by omega, ⟨rfl, rfl, rfl, rfl, rfl, (Eng.ie (by first | omega | rfl)), trivial⟩, hB0_6, (Nat.le_trans (Nat.le_trans (Nat.le_trans (Nat.le_trans hzL9 (hb30).size) (hg31).size) (hb34).size) (hg35).size), hk40, hr39, ho35, (Eng.apart_symm hap38)⟩ (by omega)
  · skip
    have hp54 := pad_all (k := k) (i := i) (by omega) (by omega) 54
    have hp92 := pad_all (k := k) (i := i) (by omega) (by omega) 92
    have hl54 := pad_len (show k.length ≤ 64 by omega) 54
    have hl92 := pad_len (show k.length ≤ 64 by omega) 92
    refine Eng.sv rfl rfl (Eng.x_lt (r := false) rfl rfl rfl (decide_eq_false (by omega))) ?_
    refine Eng.nil ?_
    refine hK11 _ _ ?_
    refine Eng.cond_f rfl ?_
    refine Eng.xt ?_
    refine Eng.te ?_
    refine Eng.te ?_
    refine Eng.be ?_
    refine hK7 _ _ ?_
    refine Eng.seqk fun K41 hK41 => ?_
    refine Eng.reg ?_
    refine Eng.sv rfl rfl (Eng.x_mv (v := vi) rfl rfl) ?_
    refine Eng.sv rfl rfl (Eng.x_mv (v := vm) rfl rfl) ?_
    have hr43 := (hbm).below hBL9
    refine Eng.apB2 rfl rfl rfl rfl hrL9_0 rfl hr43 (by rw [hp54]; omega) hzL9 ?_
    intro v42 w42 ho42 hg42 hw42
    have hap44 := Eng.apart_step hw42 hap (fun g_ e_ => Nat.lt_of_lt_of_le ((World.ownsRow.lt hrL9_1) g_ e_).2 (Nat.le_refl _))
    rw [hp54] at ho42
    refine Eng.sc rfl (Eng.xc (vl := [v42]) rfl rfl rfl en139_rm) (rsum_calls _ (((pad k 54 ++ m))) _ (ho42).rd (by simp only [List.length_append, pad_len (show k.length ≤ 64 by omega), sha_len]; omega)) ?_
    rintro _ w45 ⟨rfl, hb45⟩
    refine Eng.aft_v rfl ?_
    refine Eng.al rfl rfl rfl zr44_rm (cs := (bcs Oct.dz)) rfl ?_
    intro w46 hk46 hb46 hz46
    refine Eng.stB (v := (dg (sha ((pad k 54 ++ m))))) rfl rfl rfl sz44_rm rfl hk46 rfl rfl (cs' := (bcs (sha ((pad k 54 ++ m))))) rfl ((bcs_length _).trans (sha_len _)) (bcs_one _) ?_
    intro w47 hk47 hg47
    refine Eng.nil ?_
    refine hK41 _ _ ?_
    refine Eng.seqk fun K48 hK48 => ?_
    refine Eng.reg ?_
    refine Eng.sv rfl rfl (Eng.x_mv (v := vo) rfl rfl) ?_
    refine Eng.sv rfl rfl (Eng.x_slA rfl Tryd.underlying44 sz5_rm rfl) ?_
    have hr50 := ((((hrL9_1).kept hg42 (Eng.apart_or (Eng.apart_symm hap))).below hb45).below hb46).kept hg47 (.inr (fun e => absurd ((World.ownsRow.lt hrL9_1) _ e).2 (Nat.not_lt_of_le (Nat.le_trans (Nat.le_trans (hg42).size (hb45).size) (Nat.le_refl _)))))
    refine Eng.apB2 rfl rfl rfl rfl hr50 rfl (Rd.of_blk hk47 32 (sha_len _) (by decide)) (by rw [hp92, sha_len]; omega) (Nat.le_trans (Nat.le_trans (Nat.le_trans (Nat.le_trans hzL9 (hg42).size) (hb45).size) (hb46).size) (hg47).size) ?_
    intro v49 w49 ho49 hg49 hw49
    have hap51 := Eng.apart_step hw49 (Eng.apart_symm hap) (fun g_ e_ => Nat.lt_of_lt_of_le ((World.ownsRow.lt hrL9_0) g_ e_).2 (Nat.le_trans (Nat.le_trans (Nat.le_trans (hg42).size (hb45).size) (hb46).size) (hg47).size))
    have hB3_5 : Below w42.heap.size w42 w46 := (hb45).trans (hb46.mono (hb45).size)
    have hB3_6 : Below w42.heap.size w42 w47 := (hB3_5).grown hg47 (hB3_5).size (fun k e => by cases e; exact Nat.le_trans (hb45).size (Nat.le_refl _))
    have hap52 := Eng.apart_step hw49 (Eng.apart_symm hap44) (fun g_ e_ => Nat.lt_of_lt_of_le ((World.ownsRow.lt ho42) g_ e_).2 (hB3_6).size)
    rw [hp92] at ho49
    refine Eng.sc rfl (Eng.xc (vl := [v49]) rfl rfl rfl en139_rm) (rsum_calls _ (((pad k 92 ++ sha (pad k 54 ++ m)))) _ (ho49).rd (by simp only [List.length_append, pad_len (show k.length ≤ 64 by omega), sha_len]; omega)) ?_
    rintro _ w53 ⟨rfl, hb53⟩
    refine Eng.aft_v rfl ?_
    have hk54 := ((((((hkL9_0).grown hg42 (fun e => absurd ((World.ownsRow.lt hrL9_0) _ e.symm).1 (Nat.not_le_of_lt (Nat.lt_of_lt_of_le hz2 (Nat.le_refl _))))).below hb45).below hb46).grown hg47 (fun e => absurd (Option.some.inj e) (Nat.ne_of_lt (Nat.lt_of_lt_of_le hz2 (Nat.le_trans (Nat.le_trans (Nat.le_trans hzL9 (hg42).size) (hb45).size) (Nat.le_refl _)))))).grown hg49 (fun e => absurd ((World.ownsRow.lt hrL9_1) _ e.symm).1 (Nat.not_le_of_lt (Nat.lt_of_lt_of_le hz2 (Nat.le_refl _))))).below hb53
    refine Eng.stB (v := (dg (sha ((pad k 92 ++ sha (pad k 54 ++ m)))))) rfl rfl rfl sz45_rm rfl hk54 rfl rfl (cs' := (bcs (sha ((pad k 92 ++ sha (pad k 54 ++ m)))))) rfl ((bcs_length _).trans (sha_len _)) (bcs_one _) ?_
    intro w55 hk55 hg55
    refine Eng.nil ?_
    refine hK48 _ _ ?_
    refine Eng.rt ?_
    refine Eng.ret (Eng.res1 (v1 := (dg (sha ((pad k 92 ++ sha (pad k 54 ++ m)))))) rfl (Eng.rdc rfl (Eng.lvB ag45_rm sz45_rm hk55 ((bcs_length _).trans (sha_len _)) rfl))) ?_
    have hB0_3 : Below w.heap.size w w42 := (hBL9).grown hg42 (hBL9).size (fun k e => Nat.le_trans (hb2).size ((World.ownsRow.lt hrL9_0) _ e).1)
    have hB0_4 : Below w.heap.size w w45 := (hB0_3).trans (hb45.mono (hB0_3).size)
    have hB0_5 : Below w.heap.size w w46 := (hB0_4).trans (hb46.mono (hB0_4).size)
    have hB0_6 : Below w.heap.size w w47 := (hB0_5).grown hg47 (hB0_5).size (fun k e => by cases e; exact Nat.le_trans (hB0_4).size (Nat.le_refl _))
    have hB0_7 : Below w.heap.size w w49 := (hB0_6).grown hg49 (hB0_6).size (fun k e => Nat.le_trans (hb2).size ((World.ownsRow.lt hrL9_1) _ e).1)
    have hB0_8 : Below w.heap.size w w53 := (hB0_7).trans (hb53.mono (hB0_7).size)
    have hB0_9 : Below w.heap.size w w55 := (hB0_8).grown hg55 (hB0_8).size (fun k e => by cases e; exact Nat.le_trans (Nat.le_refl _) (Nat.le_refl _))
    exact ⟨rfl, hB0_9⟩
set_option maxRecDepth 100000 in
set_option maxHeartbeats 4000000 in
theorem rchild_calls (seed p : List UInt8) (i : Nat) (w : World) (h32 : seed.length = 32) (hp1 : 1 ≤ p.length) (hp2 : p.length ≤ 255) (hi : i ≤ 9223372036854775807) : Calls Tryd.prog 183 #[(dg seed), (.string (str p)), (.int .i64 (i : Int))] w (fun e w' => e = .returned (.tuple #[dg (childS seed p i), .int .i64 0]) ∧ Below w.heap.size w w') := by
  have hpl : (UInt8.ofNat p.length).toNat = p.length := by simp; omega
  refine Eng.enter (l := [(dg seed), (.string (str p)), (.int .i64 (i : Int))]) Tryd.func183 rfl 35 rfl (by simp) ?_
  refine Eng.seqk fun K1 hK1 => ?_
  refine Eng.reg ?_
  refine Eng.bo (v := (dg seed)) (cs := (bcs seed)) rfl rfl rfl rfl rfl ?_
  intro w2 hk2 hb2 hz2
  refine Eng.al rfl rfl rfl zr45_rm (cs := (bcs Oct.dz)) rfl ?_
  intro w3 hk3 hb3 hz3
  refine Eng.sv rfl rfl (Eng.x_as (v := (.int .i64 0)) rfl rfl) ?_
  refine Eng.nil ?_
  refine hK1 _ _ ?_
  refine Eng.seqk fun K4 hK4 => ?_
  refine Eng.seqk fun K5 hK5 => ?_
  refine Eng.reg ?_
  refine Eng.sv rfl rfl (Eng.x_mv (v := (.string (str p))) rfl rfl) ?_
  refine Eng.sv rfl rfl (Eng.x_lenS (r := (p.length : Int)) rfl Tryd.underlying9 rfl (by show p.length ≤ _; omega) rfl) ?_
  refine Eng.sv rfl rfl (Eng.x_lt (r := false) rfl rfl rfl (decide_eq_false (by omega))) ?_
  refine Eng.sv rfl rfl (Eng.x_mv (v := (.bool false)) rfl rfl) ?_
  refine Eng.sv (Eng.gt rfl rfl rfl rfl) rfl (Eng.x_mv (v := (.string (str p))) rfl rfl) ?_
  refine Eng.sv (Eng.gt rfl rfl rfl rfl) rfl (Eng.x_lenS (r := (p.length : Int)) rfl Tryd.underlying9 rfl (by show p.length ≤ _; omega) rfl) ?_
  refine Eng.sv (Eng.gt rfl rfl rfl rfl) rfl (Eng.x_gt (r := false) rfl rfl rfl (decide_eq_false (by omega))) ?_
  refine Eng.sv rfl rfl (Eng.x_pick (v := (.bool false)) rfl rfl rfl rfl rfl) ?_
  refine Eng.sv rfl rfl (Eng.x_mv (v := (.bool false)) rfl rfl) ?_
  refine Eng.sv (Eng.gt rfl rfl rfl rfl) rfl (Eng.x_mv (v := (.int .i64 (i : Int))) rfl rfl) ?_
  refine Eng.sv (Eng.gt rfl rfl rfl rfl) rfl (Eng.x_lt (r := false) rfl rfl rfl (decide_eq_false (by omega))) ?_
  refine Eng.sv rfl rfl (Eng.x_pick (v := (.bool false)) rfl rfl rfl rfl rfl) ?_
  refine Eng.nil ?_
  refine hK5 _ _ ?_
  refine Eng.cond_f rfl ?_
  refine Eng.skp ?_
  refine hK4 _ _ ?_
  refine Eng.seqk fun K6 hK6 => ?_
  refine Eng.reg ?_
  refine Eng.sv rfl rfl (Eng.x_mv (v := (.string (str p))) rfl rfl) ?_
  refine Eng.sv rfl rfl (Eng.x_lenS (r := (p.length : Int)) rfl Tryd.underlying9 rfl (by show p.length ≤ _; omega) rfl) ?_
  refine Eng.sv rfl rfl (Eng.x_conv rfl Tryd.underlying3 Tryd.underlying5 rfl (Eng.wu8 (r := ((UInt8.ofNat p.length).toNat : Int)) (by omega))) ?_
  refine Eng.bs (vs := [(.int .u8 ((UInt8.ofNat p.length).toNat : Int))]) (cs := (bcs [(UInt8.ofNat p.length)])) rfl rfl rfl Tryd.underlying48 in5_rm rfl (by decide) rfl rfl (by decide) (by decide) (by simp [Value.cells]) rfl ?_
  intro w7 hk7 hb7 hz7
  refine Eng.sv rfl rfl (Eng.x_mv (v := (.string (str p))) rfl rfl) ?_
  refine Eng.apSt (ys := p) rfl rfl rfl rfl (Eng.own_lit (base := w3.heap.size) hk7 (Nat.le_refl _) (Nat.le_of_ble_eq_true rfl)) rfl (by simp only [List.length_cons, List.length_nil]; omega) (hb7).size ?_
  intro v8 w8 ho8 hg8
  refine Eng.sv rfl rfl (Eng.x_as (v := v8) rfl rfl) ?_
  refine Eng.nil ?_
  refine hK6 _ _ ?_
  refine Eng.seqk fun K9 hK9 => ?_
  have hk11 := (((hk2).below hb3).below hb7).grown hg8 (fun e => absurd ((World.ownsRow.lt (Eng.own_lit (base := w3.heap.size) hk7 (Nat.le_refl _) (Nat.le_of_ble_eq_true rfl))) _ e.symm).1 (Nat.not_le_of_lt (Nat.lt_of_lt_of_le hz2 (hb3).size)))
  have hB2_4 : Below w3.heap.size w3 w8 := (hb7).grown hg8 (hb7).size (fun k e => Nat.le_trans (Nat.le_refl _) ((World.ownsRow.lt (Eng.own_lit (base := w3.heap.size) hk7 (Nat.le_refl _) (Nat.le_of_ble_eq_true rfl))) _ e).1)
  refine Eng.drawA 6 5 [0] [fun vQ _ => vQ = (.slice (some ⟨w.heap.size, 0, none⟩) 32 32), fun vQ _ => vQ = v8, fun vQ _ => vQ = (.int .i64 (i : Int)), fun vQ _ => vQ = (.int .u64 (i : Int)), fun (v : Value) (W : World) => Oct.Own w8.heap.size W v (be i 8), fun (_ : Value) (_ : World) => True] (fun (uP : Nat → Value) (V W : World) => Oct.Own w3.heap.size W (uP 33) (([(UInt8.ofNat p.length)] ++ p) ++ be i 8) ∧ V.grownBy W (v8).ownBlock) (by kernel_rfl) (by kernel_rfl) (by kernel_rfl) (by kernel_rfl) (by kernel_rfl) rfl rfl (by kernel_rfl) ?_ rfl ?_ ?_ ?_
  · exact ⟨fun _ _ _ h _ => h, fun _ _ _ h _ => h, fun _ _ _ h _ => h, fun _ _ _ h _ => h, fun _ _ _ h hb => h.below hb, fun _ _ _ _ _ => trivial, trivial⟩
  · refine ⟨?_, ?_, ?_, ?_, ?_, ?_, trivial⟩
    · refine ⟨fun h_ => absurd h_ (by decide), fun _ => ?_⟩
      intro u' W hbW hkp hdp K hK
      refine Eng.dv rfl rfl ?_ (hK _ _ (Below.refl _ _) rfl)
      exact (Eng.x_slA rfl Tryd.underlying45 sz5_rm (show Eng.opv 35 u' (.tmp 3) = (.pointer (some ⟨w.heap.size, 0, none⟩)) from hkp 3 rfl))
    · refine ⟨fun h_ => absurd h_ (by decide), fun _ => ?_⟩
      intro u' W hbW hkp hdp K hK
      refine Eng.dv rfl rfl ?_ (hK _ _ (Below.refl _ _) rfl)
      exact (Eng.x_mv (v := v8) rfl (show Eng.opv 35 u' (.tmp 8) = v8 from hkp 8 rfl))
    · refine ⟨fun h_ => absurd h_ (by decide), fun _ => ?_⟩
      intro u' W hbW hkp hdp K hK
      refine Eng.dv rfl rfl ?_ (hK _ _ (Below.refl _ _) rfl)
      exact (Eng.x_mv (v := (.int .i64 (i : Int))) rfl (show Eng.opv 35 u' (.tmp 2) = (.int .i64 (i : Int)) from hkp 2 rfl))
    · refine ⟨fun h_ => absurd h_ (by decide), fun _ => ?_⟩
      intro u' W hbW hkp hdp K hK
      have e2 : u' 30 = (.int .i64 (i : Int)) := hdp.1
      refine Eng.dv rfl rfl ?_ (hK _ _ (Below.refl _ _) rfl)
      exact (Eng.x_conv rfl Tryd.underlying3 Tryd.underlying123 (show Eng.opv 35 u' (.tmp 30) = (.int .i64 (i : Int)) from e2) (Eng.wu64 (r := (i : Int)) (by omega)))
    · refine ⟨fun h_ => absurd h_ (by decide), fun _ => ?_⟩
      intro u' W hbW hkp hdp K hK
      have e3 : u' 31 = (.int .u64 (i : Int)) := hdp.1
      refine Eng.dc (vs := #[(.int .u64 (i : Int)), (.int .i64 8)]) rfl ?_ (number_calls i 8 _ (by omega) (by omega)) ?_
      · exact Eng.xc (xs := #[(Go.Operand.tmp 31), (Go.Operand.const (Go.Value.int Go.IntKind.i64 8))]) (vl := [(.int .u64 (i : Int)), (.int .i64 8)]) rfl rfl (Eng.lc (show Eng.opv 35 u' (.tmp 31) = (.int .u64 (i : Int)) from e3) (Eng.lc rfl rfl)) en102_rm
      rintro _ W2 ⟨v2, rfl, ho2, hb2⟩
      exact Eng.aft_v rfl (hK _ _ hb2 (ho2.mono hbW.size))
    · refine ⟨fun _ => ?_, fun h_ => absurd h_ (by decide)⟩
      intro u' W hbW hkp hdp K hK
      have e1 : u' 29 = v8 := hdp.1
      have e4 : Oct.Own w8.heap.size W (u' 32) (be i 8) := hdp.2.1
      refine Eng.dapO (ys := be i 8) rfl rfl rfl (show Eng.opv 35 u' (.tmp 29) = v8 from e1) ((ho8).below hbW) (show Eng.opv 35 u' (.tmp 32) = u' 32 from rfl) (e4).rd (by simp only [List.length_append, List.length_cons, List.length_nil, be_length]; omega) (Nat.le_trans (hB2_4).size hbW.size) ?_
      intro v2 W2 h1_ h2_
      refine hK v2 W2 ?_
      show Oct.Own _ _ (Eng.upd u' 33 v2 33) _ ∧ _
      rw [Eng.upd_same]; exact ⟨h1_, h2_⟩
  · refine ⟨?_, trivial⟩
    · refine ⟨fun uP v V W ⟨h1, h2⟩ => ⟨by show Oct.Own _ _ (Eng.upd uP 28 v 33) _; rw [Eng.upd_other uP 28 v 33 (by decide)]; exact h1, h2⟩, fun o ho u' V W hbV ⟨hoP, hgP⟩ hkp hdp K hK => ?_⟩
      obtain rfl := Eng.someInj2 ho
      refine Eng.dv rfl rfl ?_ (hK _ rfl)
      exact (Eng.x_slA rfl Tryd.underlying45 sz5_rm (show Eng.opv 35 u' (.tmp 3) = (.pointer (some ⟨w.heap.size, 0, none⟩)) from hkp 3 rfl))
  · intro ud10 w10 wB10 hb10 hkp10 ⟨f10_0, f10_1, f10_2, f10_3, f10_4, _, _⟩ ⟨hoP10, hgP10⟩
    obtain ⟨vd10_4, hv10_4⟩ : ∃ v, v = ud10 32 := ⟨_, rfl⟩
    have g10_4 : (fun (v : Value) (W : World) => Oct.Own w8.heap.size W v (be i 8)) vd10_4 w10 := by rw [hv10_4]; exact f10_4
    obtain ⟨vA10, hvA10⟩ : ∃ v, v = ud10 33 := ⟨_, rfl⟩
    rw [← hvA10] at hoP10
    obtain rfl := Eng.collect (l := [(28, (.slice (some ⟨w.heap.size, 0, none⟩) 32 32)), (29, v8), (30, (.int .i64 (i : Int))), (31, (.int .u64 (i : Int))), (32, vd10_4), (33, vA10)]) hkp10 ⟨f10_0, f10_1, f10_2, f10_3, hv10_4.symm, hvA10.symm, trivial⟩ rfl
    have hk12 := ((hk11).below hb10).grown hgP10 (fun e => absurd ((World.ownsRow.lt ho8) _ e.symm).1 (Nat.not_le_of_lt (Nat.lt_of_lt_of_le hz2 (hb3).size)))
    refine Eng.sc rfl (Eng.xc (vl := [(.slice (some ⟨w.heap.size, 0, none⟩) 32 32), vA10]) rfl rfl rfl en222_rm) (rmac_calls _ _ seed ((([(UInt8.ofNat p.length)] ++ p) ++ be i 8)) _ (Rd.of_blk hk12 32 h32 (by decide)) h32 (hoP10).rd (by simp only [List.length_append, List.length_cons, List.length_nil, be_length]; omega)) ?_
    rintro _ w13 ⟨rfl, hb13⟩
    refine Eng.aft_v rfl ?_
    have hk14 := (((((hk3).below hb7).grown hg8 (fun e => absurd ((World.ownsRow.lt (Eng.own_lit (base := w3.heap.size) hk7 (Nat.le_refl _) (Nat.le_of_ble_eq_true rfl))) _ e.symm).1 (Nat.not_le_of_lt (Nat.lt_of_lt_of_le hz3 (Nat.le_refl _))))).below hb10).grown hgP10 (fun e => absurd ((World.ownsRow.lt ho8) _ e.symm).1 (Nat.not_le_of_lt (Nat.lt_of_lt_of_le hz3 (Nat.le_refl _))))).below hb13
    refine Eng.stB (v := (dg (hmac seed ((([(UInt8.ofNat p.length)] ++ p) ++ be i 8))))) rfl rfl rfl sz45_rm rfl hk14 rfl rfl (cs' := (bcs (hmac seed ((([(UInt8.ofNat p.length)] ++ p) ++ be i 8))))) rfl ((bcs_length _).trans (hmac_len _ _)) (bcs_one _) ?_
    intro w15 hk15 hg15
    refine Eng.sv rfl rfl (Eng.x_as (v := (.int .i64 0)) rfl rfl) ?_
    refine Eng.nil ?_
    refine hK9 _ _ ?_
    refine Eng.rt ?_
    refine Eng.ret (Eng.res2 (v1 := (dg (hmac seed ((([(UInt8.ofNat p.length)] ++ p) ++ be i 8))))) (v2 := (.int .i64 0)) rfl (Eng.rdc rfl (Eng.lvB ag45_rm sz45_rm hk15 ((bcs_length _).trans (hmac_len _ _)) rfl)) (Eng.rdt rfl)) ?_
    have hB0_2 : Below w.heap.size w w3 := (hb2).trans (hb3.mono (hb2).size)
    have hB0_3 : Below w.heap.size w w7 := (hB0_2).trans (hb7.mono (hB0_2).size)
    have hB0_4 : Below w.heap.size w w8 := (hB0_3).grown hg8 (hB0_3).size (fun k e => Nat.le_trans (hB0_2).size ((World.ownsRow.lt (Eng.own_lit (base := w3.heap.size) hk7 (Nat.le_refl _) (Nat.le_of_ble_eq_true rfl))) _ e).1)
    have hB0_5 : Below w.heap.size w w10 := (hB0_4).trans (hb10.mono (hB0_4).size)
    have hB0_6 : Below w.heap.size w wB10 := (hB0_5).grown hgP10 (hB0_5).size (fun k e => Nat.le_trans (hB0_2).size ((World.ownsRow.lt ho8) _ e).1)
    have hB0_7 : Below w.heap.size w w13 := (hB0_6).trans (hb13.mono (hB0_6).size)
    have hB0_8 : Below w.heap.size w w15 := (hB0_7).grown hg15 (hB0_7).size (fun k e => by cases e; exact Nat.le_trans (hb2).size (Nat.le_refl _))
    exact ⟨rfl, hB0_8⟩
end Go.Proofs.YtnecgoahdkfbeaaDoor.Mac
