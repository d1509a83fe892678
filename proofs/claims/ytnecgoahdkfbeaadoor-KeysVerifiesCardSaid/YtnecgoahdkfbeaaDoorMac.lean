/- Keyed digests: mac.New, Write, Sum, Mac, Child. -/
import Derived.Test.YtnecgoahdkfbeaaDoorMacS
import Derived.Test.YtnecgoahdkfbeaaDoorEngM
import Derived.Test.YtnecgoahdkfbeaaDoorEngS
import Derived.Test.YtnecgoahdkfbeaaDoorEngT
import Derived.Test.YtnecgoahdkfbeaaDoorEngA
import Derived.Test.YtnecgoahdkfbeaaDoorOct
namespace Go.Proofs.YtnecgoahdkfbeaaDoor.Mac
open Go Go.RowKit Go.Proofs.YtnecgoahdkfbeaaDoor Go.Proofs.YtnecgoahdkfbeaaDoor.Cop Go.Proofs.YtnecgoahdkfbeaaDoor.Oct Go.Proofs.YtnecgoahdkfbeaaDoor.Sha
set_option linter.unusedVariables false
set_option linter.unusedSimpArgs false
theorem sz5_mc : (Tryd.prog.info? 5).map (fun i => i.size) = some 1 := by kernel_rfl
theorem ag5_mc (w : World) : (isAgg 5).run Tryd.prog w = .ok false w := by kernel_rfl
theorem en186_mc : Eng.Entr Tryd.prog 186 := ⟨_, Tryd.func186, by kernel_rfl, by kernel_rfl⟩
theorem en187_mc : Eng.Entr Tryd.prog 187 := ⟨_, Tryd.func187, by kernel_rfl, by kernel_rfl⟩
theorem en245_mc : Eng.Entr Tryd.prog 245 := ⟨_, Tryd.func245, by kernel_rfl, by kernel_rfl⟩
theorem ag249_mc (w : World) : (isAgg 249).run Tryd.prog w = .ok false w := by kernel_rfl
theorem zr45_mc (w : World) : (zeroValue 45).run Tryd.prog w = .ok (dg Oct.dz) w := by kernel_rfl
theorem en226_mc : Eng.Entr Tryd.prog 226 := ⟨_, Tryd.func226, by kernel_rfl, by kernel_rfl⟩
theorem en188_mc : Eng.Entr Tryd.prog 188 := ⟨_, Tryd.func188, by kernel_rfl, by kernel_rfl⟩
theorem sz45_mc : (Tryd.prog.info? 45).map (fun i => i.size) = some 32 := by kernel_rfl
theorem ag45_mc (w : World) : (isAgg 45).run Tryd.prog w = .ok true w := by kernel_rfl
theorem en219_mc : Eng.Entr Tryd.prog 219 := ⟨_, Tryd.func219, by kernel_rfl, by kernel_rfl⟩
theorem en220_mc : Eng.Entr Tryd.prog 220 := ⟨_, Tryd.func220, by kernel_rfl, by kernel_rfl⟩
theorem en221_mc : Eng.Entr Tryd.prog 221 := ⟨_, Tryd.func221, by kernel_rfl, by kernel_rfl⟩
theorem in5_mc : (Tryd.prog.info? 5).map (fun i => (i.zero, i.size, i.bytes)) = some (some (.int .u8 0), 1, 1) := by kernel_rfl
theorem en85_mc : Eng.Entr Tryd.prog 85 := ⟨_, Tryd.func85, by kernel_rfl, by kernel_rfl⟩
theorem en181_mc : Eng.Entr Tryd.prog 181 := ⟨_, Tryd.func181, by kernel_rfl, by kernel_rfl⟩
/-- A key made as long as a block, each byte turned. -/
def pad (k : List UInt8) (x : UInt8) : List UInt8 := (k ++ List.replicate (64 - k.length) 0).map (· ^^^ x)
theorem pad_len {k : List UInt8} (h : k.length ≤ 64) (x : UInt8) : (pad k x).length = 64 := by simp [pad]; omega
theorem pad_tail {k : List UInt8} (h : k.length ≤ 64) (x : UInt8) : tail (pad k x) = [] := by
  have := tail_len (pad k x)
  rw [pad_len h] at this
  exact List.eq_nil_of_length_eq_zero this
/-- The keyed digest. -/
def hmac (k m : List UInt8) : List UInt8 := sha (pad k 92 ++ sha (pad k 54 ++ m))
theorem hmac_len (k m : List UInt8) : (hmac k m).length = 32 := sha_len _
def xorTo (i : Nat) (c : List UInt8) (x : UInt8) : List UInt8 := (c.take i).map (· ^^^ x) ++ c.drop i
theorem xorTo_zero (c : List UInt8) (x : UInt8) : xorTo 0 c x = c := by simp [xorTo]
theorem xorTo_len (i : Nat) (c : List UInt8) (x : UInt8) : (xorTo i c x).length = c.length := by simp [xorTo]; omega
theorem xorTo_at {i : Nat} {c : List UInt8} (h : i < c.length) (x : UInt8) : (xorTo i c x).getD i 0 = c[i] := by
  unfold xorTo
  rw [List.getD_eq_getElem?_getD, List.getElem?_append_right (by simp; omega)]
  simp [Nat.min_eq_left (Nat.le_of_lt h), h]
theorem xorTo_succ {i : Nat} {c : List UInt8} (h : i < c.length) (x : UInt8) : (xorTo i c x).set i ((xorTo i c x).getD i 0 ^^^ x) = xorTo (i + 1) c x := by
  rw [xorTo_at h]
  unfold xorTo
  have e : ((c.take i).map (· ^^^ x)).length = i := by simp; omega
  rw [List.set_append_right _ _ (by omega), e, Nat.sub_self, List.drop_eq_getElem_cons h, List.set_cons_zero, List.take_succ_eq_append_getElem h, List.map_append, List.map_cons, List.map_nil, List.append_assoc]
  rfl
theorem xorTo_all {c : List UInt8} {n : Nat} (h : c.length = n) (x : UInt8) : xorTo n c x = c.map (· ^^^ x) := by
  unfold xorTo
  rw [List.take_of_length_le (by omega), List.drop_of_length_le (by omega), List.append_nil]
theorem HS.base {B B' T : Nat} {w : World} {p : Nat} {m : List UInt8} (h : HS B T w p m) (hB : B' ≤ B) : HS B' T w p m := by
  obtain ⟨v, h1, h2, h3, h4⟩ := h
  exact ⟨v, h1, h2.mono hB, Nat.le_trans hB h3, h4⟩
set_option maxRecDepth 100000 in
set_option maxHeartbeats 4000000 in
theorem begun_calls (v : Value) (k : List UInt8) (x : UInt8) (xi : Int) (w : World) (hb : Rd w v k) (hl : k.length = 32) (hx : xi = (x.toNat : Int)) (hKn : Kon w) : Calls Tryd.prog 245 #[v, (.int .u8 xi)] w (fun e w' => ∃ p, e = .returned (.pointer (some ⟨p, 0, none⟩)) ∧ HS w.heap.size w'.heap.size w' p (pad k x) ∧ Below w.heap.size w w') := by
  obtain ⟨z64, hz⟩ : ∃ z, z = List.replicate 64 (0 : UInt8) := ⟨_, rfl⟩
  have hz64 : z64.length = 64 := by rw [hz, List.length_replicate]
  obtain ⟨c64, hc⟩ : ∃ c, c = k ++ z64.drop k.length := ⟨_, rfl⟩
  have hc64 : c64.length = 64 := by rw [hc, List.length_append, List.length_drop]; omega
  have hcc : c64.map (· ^^^ x) = pad k x := by unfold pad; rw [hc, hz, List.drop_replicate]
  refine Eng.enter (l := [v, (.int .u8 xi)]) Tryd.func245 rfl 30 rfl (by simp) ?_
  refine Eng.seqk fun K1 hK1 => ?_
  refine Eng.reg ?_
  refine Eng.sv rfl rfl (Eng.x_as (v := (.pointer none)) rfl rfl) ?_
  refine Eng.nil ?_
  refine hK1 _ _ ?_
  refine Eng.seqk fun K2 hK2 => ?_
  refine Eng.reg ?_
  refine Eng.mkB (n := 64) rfl rfl rfl rfl rfl (by omega) ?_
  intro w3 ho3 hb3 hz3
  rw [← hz] at ho3
  refine Eng.sv rfl rfl (Eng.x_as (v := (.slice (some ⟨w.heap.size, 0, none⟩) 64 64)) rfl rfl) ?_
  refine Eng.nil ?_
  refine hK2 _ _ ?_
  refine Eng.seqk fun K4 hK4 => ?_
  refine Eng.reg ?_
  refine Eng.sv rfl rfl (Eng.x_mv (v := (.slice (some ⟨w.heap.size, 0, none⟩) 64 64)) rfl rfl) ?_
  refine Eng.sv rfl rfl (Eng.x_mv (v := v) rfl rfl) ?_
  have hr5 := (hb).below hb3
  refine Eng.cpB rfl rfl rfl ho3 rfl rfl hr5 (by omega) (by omega) ?_
  intro w6 ho6 hg6
  rw [← hc] at ho6
  refine Eng.nil ?_
  refine hK4 _ _ ?_
  refine Eng.seqk fun K7 hK7 => ?_
  refine Eng.seqk fun K8 hK8 => ?_
  refine Eng.reg ?_
  refine Eng.sv rfl rfl (Eng.x_mv (v := (.slice (some ⟨w.heap.size, 0, none⟩) 64 64)) rfl rfl) ?_
  refine Eng.sv rfl rfl (Eng.x_len (v := (.slice (some ⟨w.heap.size, 0, none⟩) 64 64)) (r := (c64.length : Int)) rfl Tryd.underlying48 rfl (ho6).rd rfl) ?_
  refine Eng.sv rfl rfl (Eng.x_mv (v := (.int .i64 0)) rfl rfl) ?_
  refine Eng.nil ?_
  refine hK8 _ _ ?_
  refine Eng.blk ?_
  have hB0_2 : Below w.heap.size w w6 := (hb3).grown hg6 (hb3).size (fun k e => Nat.le_trans (Nat.le_refl _) ((World.ownsRow.lt ho3) _ e).1)
  refine Eng.loopN (fun zz u w' => ∃ (i : Nat), zz = 64 - i ∧ i ≤ 64 ∧ Eng.Has u [(1, (.int .u8 xi)), (4, (.pointer none)), (5, (.slice (some ⟨w.heap.size, 0, none⟩) 64 64)), (13, (.int .i64 (c64.length : Int))), (14, (.int .i64 (i : Int)))] ∧ Below w.heap.size w w' ∧ w6.heap.size ≤ w'.heap.size ∧ Oct.Own w.heap.size w' (.slice (some ⟨w.heap.size, 0, none⟩) 64 64) (xorTo i c64 x)) _ ⟨0, rfl, by omega, ⟨rfl, rfl, rfl, rfl, (Eng.ie (by first | omega | rfl)), trivial⟩, hB0_2, (Nat.le_refl _), (by rw [xorTo_zero]; exact ho6)⟩ ?_
  rintro _ u9 w9 ⟨i, rfl, hs9_0, hH9, hBL9, hzL9, hrL9_0⟩ K9 hK9
  obtain ⟨u9, rfl⟩ := hH9.ex
  have hxl := xorTo_len i c64 x
  refine Eng.seqk fun K10 hK10 => ?_
  refine Eng.reg ?_
  by_cases h15 : ((i : Int) : Int) < (c64.length : Int)
  · skip
    refine Eng.sv rfl rfl (Eng.x_lt (r := true) rfl rfl rfl (decide_eq_true (by omega))) ?_
    refine Eng.nil ?_
    refine hK10 _ _ ?_
    refine Eng.seqk fun K11 hK11 => ?_
    refine Eng.cond_t rfl ?_
    refine Eng.skp ?_
    refine hK11 _ _ ?_
    refine Eng.seqk fun K12 hK12 => ?_
    refine Eng.blk ?_
    refine Eng.seqk fun K13 hK13 => ?_
    refine Eng.reg ?_
    refine Eng.sv rfl rfl (Eng.x_mv (v := (.int .i64 (i : Int))) rfl rfl) ?_
    refine Eng.sv rfl rfl (Eng.x_as (v := (.int .i64 (i : Int))) rfl rfl) ?_
    refine Eng.nil ?_
    refine hK13 _ _ ?_
    refine Eng.reg ?_
    refine Eng.sv rfl rfl (Eng.x_mv (v := (.slice (some ⟨w.heap.size, 0, none⟩) 64 64)) rfl rfl) ?_
    refine Eng.sv rfl rfl (Eng.x_mv (v := (.int .i64 (i : Int))) rfl rfl) ?_
    refine Eng.sv rfl rfl (Eng.x_ia (v := (.slice (some ⟨w.heap.size, 0, none⟩) 64 64)) (j := i) rfl Tryd.underlying48 sz5_mc (by decide) rfl rfl (hrL9_0).rd (by rw [Nat.mul_one]; exact bcs_length _) (by omega) (by omega)) ?_
    refine Eng.sv rfl rfl (Eng.x_ld1 (v := (.int .u8 (((xorTo i c64 x).getD i 0).toNat : Int))) rfl ag5_mc rfl (Eng.rd_at (hrL9_0).rd (by omega))) ?_
    refine Eng.sv rfl rfl (Eng.x_mv (v := (.int .u8 xi)) rfl rfl) ?_
    refine Eng.sv rfl rfl (Eng.x_bits (v := (.int .u8 (((xorTo i c64 x).getD i 0 ^^^ x).toNat : Int))) rfl (by simp) rfl rfl (by rw [hx]; exact Eng.xor_u8 _ _ _ _)) ?_
    refine Eng.sv rfl rfl (Eng.x_ia (v := (.slice (some ⟨w.heap.size, 0, none⟩) 64 64)) (j := i) rfl Tryd.underlying48 sz5_mc (by decide) rfl rfl (hrL9_0).rd (by rw [Nat.mul_one]; exact bcs_length _) (by omega) (by omega)) ?_
    refine Eng.stBy (i := i) (b := ((xorTo i c64 x).getD i 0 ^^^ x)) rfl rfl rfl hrL9_0 (by omega) rfl rfl ?_
    intro w14 ho14 hg14
    rw [xorTo_succ (by omega)] at ho14
    refine Eng.nil ?_
    refine Eng.nb ?_
    refine hK12 _ _ ?_
    refine Eng.reg ?_
    refine Eng.sv rfl rfl (Eng.x_add rfl rfl rfl (Eng.w64 (r := ((i + 1 : Nat) : Int)) (by omega))) ?_
    refine Eng.sv rfl rfl (Eng.x_mv (v := (.int .i64 ((i + 1 : Nat) : Int))) rfl rfl) ?_
    refine Eng.nil ?_
    have hB0_4 : Below w.heap.size w w14 := (hBL9).grown hg14 (hBL9).size (fun k e => Nat.le_trans (Nat.le_refl _) ((World.ownsRow.lt ho3) _ e).1)
    exact hK9 _ _ _ ⟨i + 1, rfl, by omega, ⟨rfl, rfl, rfl, rfl, (Eng.ie (by first | omega | rfl)), trivial⟩, hB0_4, (Nat.le_trans hzL9 (hg14).size), ho14⟩ (by omega)
  · skip
    refine Eng.sv rfl rfl (Eng.x_lt (r := false) rfl rfl rfl (decide_eq_false (by omega))) ?_
    refine Eng.nil ?_
    refine hK10 _ _ ?_
    refine Eng.seqk fun K15 hK15 => ?_
    refine Eng.cond_f rfl ?_
    refine Eng.xt ?_
    refine Eng.te ?_
    refine Eng.te ?_
    refine Eng.be ?_
    refine hK7 _ _ ?_
    refine Eng.seqk fun K16 hK16 => ?_
    refine Eng.reg ?_
    refine Eng.sc rfl (Eng.xc (vl := []) rfl rfl rfl en186_mc) (hnew_calls _) ?_
    rintro _ w17 ⟨p17, rfl, hs17, hb17⟩
    refine Eng.aft_v rfl ?_
    refine Eng.sv rfl rfl (Eng.x_as (v := (.pointer (some ⟨p17, 0, none⟩))) rfl rfl) ?_
    refine Eng.nil ?_
    refine hK16 _ _ ?_
    refine Eng.seqk fun K18 hK18 => ?_
    refine Eng.reg ?_
    refine Eng.sv rfl rfl (Eng.x_mv (v := (.pointer (some ⟨p17, 0, none⟩))) rfl rfl) ?_
    refine Eng.sv rfl rfl (Eng.x_mv (v := (.slice (some ⟨w.heap.size, 0, none⟩) 64 64)) rfl rfl) ?_
    have hr19 := (hrL9_0).below hb17
    have hB0_4 : Below w.heap.size w w17 := (hBL9).trans (hb17.mono (hBL9).size)
    have hr20 := (hKn).below hB0_4
    have hr21 := (hKn).below hBL9
    refine Eng.sc rfl (Eng.xc (vl := [(.pointer (some ⟨p17, 0, none⟩)), (.slice (some ⟨w.heap.size, 0, none⟩) 64 64)]) rfl rfl rfl en187_mc) (hwrite_calls _ _ _ [] _ _ _ hs17 rfl (hr19).rd (fun ad n c e => Nat.lt_of_lt_of_le ((World.ownsRow.lt ho3) ad.block (by rw [e]; rfl)).2 (Nat.le_trans (hg6).size hzL9)) (by rw [xorTo_len, hc64]; omega) (by simp) hr20 (Kon.lt hr21)) ?_
    rintro _ w22 ⟨rfl, hs22, hr22⟩
    refine Eng.aft_v rfl ?_
    refine Eng.nil ?_
    refine hK18 _ _ ?_
    refine Eng.seqk fun K23 hK23 => ?_
    refine Eng.reg ?_
    refine Eng.sv rfl rfl (Eng.x_mv (v := (.pointer (some ⟨p17, 0, none⟩))) rfl rfl) ?_
    refine Eng.sv rfl rfl (Eng.x_as (v := (.pointer (some ⟨p17, 0, none⟩))) rfl rfl) ?_
    refine Eng.nil ?_
    refine hK23 _ _ ?_
    refine Eng.rt ?_
    refine Eng.ret (Eng.res1 (v1 := (.pointer (some ⟨p17, 0, none⟩))) rfl (Eng.rdt rfl)) ?_
    have hsf := hs22
    rw [List.nil_append, show i = 64 by omega, xorTo_all hc64, hcc] at hsf
    have hB0_5 : Below w.heap.size w w22 := (hB0_4).trans ((hr22.below (hb17).size).mono (hBL9).size)
    exact ⟨_, rfl, HS.base hsf (hBL9).size, hB0_5⟩
/-- A key's two states, the inner one with a message. -/
def KS (B : Nat) (w : World) (p : Nat) (k m : List UInt8) : Prop := ∃ g1 g2 T T', Blk w p 303 [.pointer (some ⟨g1, 0, none⟩), .pointer (some ⟨g2, 0, none⟩)] ∧ HS B T w g1 (pad k 54 ++ m) ∧ HS T' p w g2 (pad k 92)
def KN (B : Nat) (w : World) (p : Nat) (k : List UInt8) : Prop := ∃ g1 g2 T, Blk w p 303 [.pointer (some ⟨g1, 0, none⟩), .pointer (some ⟨g2, 0, none⟩)] ∧ HS B T w g1 (pad k 54) ∧ HS T p w g2 (pad k 92) ∧ T ≤ p
set_option maxRecDepth 100000 in
set_option maxHeartbeats 4000000 in
theorem new_calls (v : Value) (k : List UInt8) (w : World) (hb : Rd w v k) (hl : k.length = 32) (hKn : Kon w) : Calls Tryd.prog 219 #[v] w (fun e w' => ∃ p, e = .returned (.pointer (some ⟨p, 0, none⟩)) ∧ KN w.heap.size w' p k ∧ Below w.heap.size w w') := by
  refine Eng.enter (l := [v]) Tryd.func219 rfl 16 rfl (by simp) ?_
  refine Eng.seqk fun K1 hK1 => ?_
  refine Eng.reg ?_
  refine Eng.sv rfl rfl (Eng.x_as (v := (.pointer none)) rfl rfl) ?_
  refine Eng.nil ?_
  refine hK1 _ _ ?_
  refine Eng.seqk fun K2 hK2 => ?_
  refine Eng.seqk fun K3 hK3 => ?_
  refine Eng.reg ?_
  refine Eng.sv rfl rfl (Eng.x_mv (v := v) rfl rfl) ?_
  refine Eng.sv rfl rfl (Eng.x_len (v := v) (r := (k.length : Int)) rfl Tryd.underlying48 rfl hb rfl) ?_
  refine Eng.sv rfl rfl (Eng.x_gt (r := false) rfl rfl rfl (decide_eq_false (by omega))) ?_
  refine Eng.nil ?_
  refine hK3 _ _ ?_
  refine Eng.cond_f rfl ?_
  refine Eng.skp ?_
  refine hK2 _ _ ?_
  refine Eng.seqk fun K4 hK4 => ?_
  refine Eng.reg ?_
  refine Eng.sv rfl rfl (Eng.x_mv (v := v) rfl rfl) ?_
  refine Eng.sc rfl (Eng.xc (vl := [v, (.int .u8 54)]) rfl rfl rfl en245_mc) (begun_calls v k 54 54 _ hb hl rfl hKn) ?_
  rintro _ w5 ⟨p5, rfl, hs5, hb5⟩
  refine Eng.aft_v rfl ?_
  refine Eng.sv rfl rfl (Eng.x_mv (v := v) rfl rfl) ?_
  have hr6 := (hb).below hb5
  have hr7 := (hKn).below hb5
  refine Eng.sc rfl (Eng.xc (vl := [v, (.int .u8 92)]) rfl rfl rfl en245_mc) (begun_calls v k 92 92 _ hr6 hl rfl hr7) ?_
  rintro _ w8 ⟨p8, rfl, hs8, hb8⟩
  refine Eng.aft_v rfl ?_
  refine Eng.sv rfl rfl (Eng.x_build (ps := [(0, (.pointer (some ⟨p5, 0, none⟩))), (1, (.pointer (some ⟨p8, 0, none⟩)))]) (v := (.agg #[(.pointer (some ⟨p5, 0, none⟩)), (.pointer (some ⟨p8, 0, none⟩))])) rfl rfl (by kernel_rfl)) ?_
  refine Eng.bo (v := (.agg #[(.pointer (some ⟨p5, 0, none⟩)), (.pointer (some ⟨p8, 0, none⟩))])) (cs := [(.pointer (some ⟨p5, 0, none⟩)), (.pointer (some ⟨p8, 0, none⟩))]) rfl rfl rfl rfl rfl ?_
  intro w9 hk9 hb9 hz9
  refine Eng.sv rfl rfl (Eng.x_as (v := (.pointer (some ⟨w8.heap.size, 0, none⟩))) rfl rfl) ?_
  refine Eng.nil ?_
  refine hK4 _ _ ?_
  refine Eng.rt ?_
  refine Eng.ret (Eng.res1 (v1 := (.pointer (some ⟨w8.heap.size, 0, none⟩))) rfl (Eng.rdt rfl)) ?_
  have hB1_3 : Below w5.heap.size w5 w9 := (hb8).trans (hb9.mono (hb8).size)
  have hr10 := (hs5).below hB1_3
  have hr11 := (hs8).below hb9
  have hB0_2 : Below w.heap.size w w8 := (hb5).trans (hb8.mono (hb5).size)
  have hB0_3 : Below w.heap.size w w9 := (hB0_2).trans (hb9.mono (hB0_2).size)
  exact ⟨_, rfl, ⟨_, _, _, hk9, hr10, hr11, (hb8).size⟩, hB0_3⟩
set_option maxRecDepth 100000 in
set_option maxHeartbeats 4000000 in
theorem kwrite_calls (B p : Nat) (k : List UInt8) (vb : Value) (b : List UInt8) (w : World) (h : KN B w p k) (hl : k.length = 32) (hb : Rd w vb b) (hap : ∀ ad n c, vb = .slice (some ad) n c → ad.block < B) (hbl : b.length ≤ 140737488355200) (hBw : B ≤ w.heap.size) (hKn : Kon w) (h5 : KG < B) : Calls Tryd.prog 220 #[(.pointer (some ⟨p, 0, none⟩)), vb] w (fun e w' => e = .returned (.int .i64 0) ∧ KS B w' p k b ∧ Below B w w') := by
  obtain ⟨g1, g2, T, hkp, hs1, hs2, hTp⟩ := h
  refine Eng.enter (l := [(.pointer (some ⟨p, 0, none⟩)), vb]) Tryd.func220 rfl 20 rfl (by simp) ?_
  refine Eng.seqk fun K1 hK1 => ?_
  refine Eng.reg ?_
  refine Eng.sv rfl rfl (Eng.x_as (v := (.int .i64 0)) rfl rfl) ?_
  refine Eng.nil ?_
  refine hK1 _ _ ?_
  refine Eng.seqk fun K2 hK2 => ?_
  refine Eng.seqk fun K3 hK3 => ?_
  refine Eng.reg ?_
  refine Eng.sv rfl rfl (Eng.x_mv (v := (.pointer (some ⟨p, 0, none⟩))) rfl rfl) ?_
  refine Eng.sv rfl rfl (Eng.x_eqPN rfl Tryd.underlying280 rfl rfl) ?_
  refine Eng.sv rfl rfl (Eng.x_mv (v := (.bool false)) rfl rfl) ?_
  refine Eng.sv (Eng.gt rfl rfl rfl rfl) rfl (Eng.x_mv (v := (.pointer (some ⟨p, 0, none⟩))) rfl rfl) ?_
  refine Eng.sv (Eng.gt rfl rfl rfl rfl) rfl (Eng.x_nck rfl rfl) ?_
  refine Eng.sv (Eng.gt rfl rfl rfl rfl) rfl (Eng.x_fa (v := (.pointer (some ⟨p, 0, none⟩))) rfl rfl (by kernel_rfl)) ?_
  refine Eng.sv (Eng.gt rfl rfl rfl rfl) rfl (Eng.x_ld1 (v := (.pointer (some ⟨g1, 0, none⟩))) rfl ag249_mc rfl ((hkp).cell 0)) ?_
  refine Eng.sv (Eng.gt rfl rfl rfl rfl) rfl (Eng.x_eqPN rfl Tryd.underlying249 rfl rfl) ?_
  refine Eng.sv rfl rfl (Eng.x_pick (v := (.bool false)) rfl rfl rfl rfl rfl) ?_
  refine Eng.nil ?_
  refine hK3 _ _ ?_
  refine Eng.cond_f rfl ?_
  refine Eng.skp ?_
  refine hK2 _ _ ?_
  refine Eng.seqk fun K4 hK4 => ?_
  refine Eng.reg ?_
  refine Eng.sv rfl rfl (Eng.x_mv (v := (.pointer (some ⟨p, 0, none⟩))) rfl rfl) ?_
  refine Eng.sv rfl rfl (Eng.x_nck rfl rfl) ?_
  refine Eng.sv rfl rfl (Eng.x_fa (v := (.pointer (some ⟨p, 0, none⟩))) rfl rfl (by kernel_rfl)) ?_
  refine Eng.sv rfl rfl (Eng.x_ld1 (v := (.pointer (some ⟨g1, 0, none⟩))) rfl ag249_mc rfl ((hkp).cell 0)) ?_
  refine Eng.sv rfl rfl (Eng.x_mv (v := vb) rfl rfl) ?_
  refine Eng.sc rfl (Eng.xc (vl := [(.pointer (some ⟨g1, 0, none⟩)), vb]) rfl rfl rfl en187_mc) (hwrite_calls B T g1 (pad k 54) vb b _ hs1 (pad_tail (by omega) _) hb hap hbl (by rw [pad_len (by omega)]; omega) hKn h5) ?_
  rintro _ w5 ⟨rfl, hs5, hr5⟩
  refine Eng.aft_v rfl ?_
  refine Eng.sv rfl rfl (Eng.x_as (v := (.int .i64 0)) rfl rfl) ?_
  refine Eng.nil ?_
  refine hK4 _ _ ?_
  refine Eng.rt ?_
  refine Eng.ret (Eng.res1 (v1 := (.int .i64 0)) rfl (Eng.rdt rfl)) ?_
  exact ⟨rfl, ⟨g1, g2, _, T, hr5.blk hkp (.inr hTp), hs5, HS.grR hs2 hr5 (Nat.le_refl _)⟩, hr5.below hBw⟩
set_option maxRecDepth 100000 in
set_option maxHeartbeats 4000000 in
theorem ksum_calls (B p : Nat) (k m : List UInt8) (w : World) (h : KS B w p k m) (hl : k.length = 32) (hm : m.length ≤ 140737488355200) (hKn : Kon w) : Calls Tryd.prog 221 #[(.pointer (some ⟨p, 0, none⟩))] w (fun e w' => e = .returned (dg (hmac k m)) ∧ Below w.heap.size w w') := by
  obtain ⟨g1, g2, T, T2, hkp, hs1, hs2⟩ := h
  refine Eng.enter (l := [(.pointer (some ⟨p, 0, none⟩))]) Tryd.func221 rfl 31 rfl (by simp) ?_
  refine Eng.seqk fun K1 hK1 => ?_
  refine Eng.reg ?_
  refine Eng.al rfl rfl rfl zr45_mc (cs := (bcs Oct.dz)) rfl ?_
  intro w2 hk2 hb2 hz2
  refine Eng.nil ?_
  refine hK1 _ _ ?_
  refine Eng.seqk fun K3 hK3 => ?_
  refine Eng.seqk fun K4 hK4 => ?_
  refine Eng.reg ?_
  refine Eng.sv rfl rfl (Eng.x_mv (v := (.pointer (some ⟨p, 0, none⟩))) rfl rfl) ?_
  refine Eng.sv rfl rfl (Eng.x_eqPN rfl Tryd.underlying280 rfl rfl) ?_
  refine Eng.sv rfl rfl (Eng.x_mv (v := (.bool false)) rfl rfl) ?_
  refine Eng.sv (Eng.gt rfl rfl rfl rfl) rfl (Eng.x_mv (v := (.pointer (some ⟨p, 0, none⟩))) rfl rfl) ?_
  refine Eng.sv (Eng.gt rfl rfl rfl rfl) rfl (Eng.x_nck rfl rfl) ?_
  refine Eng.sv (Eng.gt rfl rfl rfl rfl) rfl (Eng.x_fa (v := (.pointer (some ⟨p, 0, none⟩))) rfl rfl (by kernel_rfl)) ?_
  have hk5 := (hkp).below hb2
  refine Eng.sv (Eng.gt rfl rfl rfl rfl) rfl (Eng.x_ld1 (v := (.pointer (some ⟨g1, 0, none⟩))) rfl ag249_mc rfl ((hk5).cell 0)) ?_
  refine Eng.sv (Eng.gt rfl rfl rfl rfl) rfl (Eng.x_eqPN rfl Tryd.underlying249 rfl rfl) ?_
  refine Eng.sv rfl rfl (Eng.x_pick (v := (.bool false)) rfl rfl rfl rfl rfl) ?_
  refine Eng.nil ?_
  refine hK4 _ _ ?_
  refine Eng.cond_f rfl ?_
  refine Eng.skp ?_
  refine hK3 _ _ ?_
  refine Eng.seqk fun K6 hK6 => ?_
  refine Eng.reg ?_
  refine Eng.sv rfl rfl (Eng.x_mv (v := (.pointer (some ⟨p, 0, none⟩))) rfl rfl) ?_
  refine Eng.sv rfl rfl (Eng.x_nck rfl rfl) ?_
  refine Eng.sv rfl rfl (Eng.x_fa (v := (.pointer (some ⟨p, 0, none⟩))) rfl rfl (by kernel_rfl)) ?_
  refine Eng.sv rfl rfl (Eng.x_ld1 (v := (.pointer (some ⟨g1, 0, none⟩))) rfl ag249_mc rfl ((hk5).cell 0)) ?_
  have hr7 := (hs1).below hb2
  refine Eng.sc rfl (Eng.xc (vl := [(.pointer (some ⟨g1, 0, none⟩))]) rfl rfl rfl en226_mc) (hclone_calls _ _ _ _ _ hr7) ?_
  rintro _ w8 ⟨p8, rfl, hs8, hb8⟩
  refine Eng.aft_v rfl ?_
  have hB0_2 : Below w.heap.size w w8 := (hb2).trans (hb8.mono (hb2).size)
  have hr9 := (hKn).below hB0_2
  refine Eng.sc rfl (Eng.xc (vl := [(.pointer (some ⟨p8, 0, none⟩))]) rfl rfl rfl en188_mc) (hsm_calls _ _ _ _ _ hs8 (by simp only [List.length_append, pad_len (show k.length ≤ 64 by omega), sha_len]; omega) hr9) ?_
  rintro _ w10 ⟨rfl, hb10⟩
  refine Eng.aft_v rfl ?_
  refine Eng.al rfl rfl rfl zr45_mc (cs := (bcs Oct.dz)) rfl ?_
  intro w11 hk11 hb11 hz11
  refine Eng.stB (v := (dg (sha (pad k 54 ++ m)))) rfl rfl rfl sz45_mc rfl hk11 rfl rfl (cs' := (bcs (sha (pad k 54 ++ m)))) rfl ((bcs_length _).trans (sha_len _)) (bcs_one _) ?_
  intro w12 hk12 hg12
  refine Eng.nil ?_
  refine hK6 _ _ ?_
  refine Eng.seqk fun K13 hK13 => ?_
  refine Eng.reg ?_
  refine Eng.sv rfl rfl (Eng.x_mv (v := (.pointer (some ⟨p, 0, none⟩))) rfl rfl) ?_
  refine Eng.sv rfl rfl (Eng.x_nck rfl rfl) ?_
  refine Eng.sv rfl rfl (Eng.x_fa (v := (.pointer (some ⟨p, 1, none⟩))) rfl rfl (by kernel_rfl)) ?_
  have hB0_3 : Below w.heap.size w w10 := (hB0_2).trans (hb10.mono (hB0_2).size)
  have hk14 := ((((hk5).below hb8).below hb10).below hb11).grown hg12 (fun e => absurd (Option.some.inj e) (Nat.ne_of_lt (Nat.lt_of_lt_of_le (hkp).lt (Nat.le_trans (hB0_3).size (Nat.le_refl _)))))
  refine Eng.sv rfl rfl (Eng.x_ld1 (v := (.pointer (some ⟨g2, 0, none⟩))) rfl ag249_mc rfl ((hk14).cell 1)) ?_
  have hB0_4 : Below w.heap.size w w11 := (hB0_3).trans (hb11.mono (hB0_3).size)
  have hB0_5 : Below w.heap.size w w12 := (hB0_4).grown hg12 (hB0_4).size (fun k e => by cases e; exact Nat.le_trans (hB0_3).size (Nat.le_refl _))
  have hr15 := (hs2).below hB0_5
  refine Eng.sc rfl (Eng.xc (vl := [(.pointer (some ⟨g2, 0, none⟩))]) rfl rfl rfl en226_mc) (hclone_calls _ _ _ _ _ hr15) ?_
  rintro _ w16 ⟨p16, rfl, hs16, hb16⟩
  refine Eng.aft_v rfl ?_
  refine Eng.sv rfl rfl (Eng.x_as (v := (.pointer (some ⟨p16, 0, none⟩))) rfl rfl) ?_
  refine Eng.nil ?_
  refine hK13 _ _ ?_
  refine Eng.seqk fun K17 hK17 => ?_
  refine Eng.reg ?_
  refine Eng.sv rfl rfl (Eng.x_mv (v := (.pointer (some ⟨p16, 0, none⟩))) rfl rfl) ?_
  have hk18 := (hk12).below hb16
  refine Eng.sv rfl rfl (Eng.x_slA rfl Tryd.underlying45 sz5_mc rfl) ?_
  have hr19 := (hKn).below hB0_5
  have hB0_6 : Below w.heap.size w w16 := (hB0_5).trans (hb16.mono (hB0_5).size)
  have hr20 := (hKn).below hB0_6
  refine Eng.sc rfl (Eng.xc (vl := [(.pointer (some ⟨p16, 0, none⟩)), (.slice (some ⟨w10.heap.size, 0, none⟩) 32 32)]) rfl rfl rfl en187_mc) (hwrite_calls _ _ _ _ _ _ _ hs16 (pad_tail (by omega) _) (Rd.of_blk hk18 32 (sha_len _) (by decide)) (fun ad n c e => by injection e with e_; injection e_ with e_; rw [← e_]; exact Nat.lt_of_lt_of_le hz11 (hg12).size) (by rw [sha_len]; omega) (by rw [pad_len (by omega)]; omega) hr20 (Kon.lt hr19)) ?_
  rintro _ w21 ⟨rfl, hs21, hr21⟩
  refine Eng.aft_v rfl ?_
  refine Eng.nil ?_
  refine hK17 _ _ ?_
  refine Eng.seqk fun K22 hK22 => ?_
  refine Eng.reg ?_
  refine Eng.sv rfl rfl (Eng.x_mv (v := (.pointer (some ⟨p16, 0, none⟩))) rfl rfl) ?_
  have hB0_7 : Below w.heap.size w w21 := (hB0_6).trans ((hr21.below (hb16).size).mono (hB0_5).size)
  have hr23 := (hKn).below hB0_7
  refine Eng.sc rfl (Eng.xc (vl := [(.pointer (some ⟨p16, 0, none⟩))]) rfl rfl rfl en188_mc) (hsm_calls _ _ _ _ _ hs21 (by simp only [List.length_append, pad_len (show k.length ≤ 64 by omega), sha_len]; omega) hr23) ?_
  rintro _ w24 ⟨rfl, hb24⟩
  refine Eng.aft_v rfl ?_
  have hB1_3 : Below w2.heap.size w2 w10 := (hb8).trans (hb10.mono (hb8).size)
  have hB1_4 : Below w2.heap.size w2 w11 := (hB1_3).trans (hb11.mono (hB1_3).size)
  have hB1_5 : Below w2.heap.size w2 w12 := (hB1_4).grown hg12 (hB1_4).size (fun k e => by cases e; exact Nat.le_trans (hB1_3).size (Nat.le_refl _))
  have hk25 := (hr21.blk ((((((hk2).below hb8).below hb10).below hb11).grown hg12 (fun e => absurd (Option.some.inj e) (Nat.ne_of_lt (Nat.lt_of_lt_of_le hz2 (Nat.le_trans (hB1_3).size (Nat.le_refl _)))))).below hb16) (.inl (Nat.lt_of_lt_of_le hz2 (hB1_5).size))).below hb24
  refine Eng.stB (v := (dg (sha (pad k 92 ++ sha (pad k 54 ++ m))))) rfl rfl rfl sz45_mc rfl hk25 rfl rfl (cs' := (bcs (sha (pad k 92 ++ sha (pad k 54 ++ m))))) rfl ((bcs_length _).trans (sha_len _)) (bcs_one _) ?_
  intro w26 hk26 hg26
  refine Eng.nil ?_
  refine hK22 _ _ ?_
  refine Eng.rt ?_
  refine Eng.ret (Eng.res1 (v1 := (dg (sha (pad k 92 ++ sha (pad k 54 ++ m))))) rfl (Eng.rdc rfl (Eng.lvB ag45_mc sz45_mc hk26 ((bcs_length _).trans (sha_len _)) rfl))) ?_
  have hB0_8 : Below w.heap.size w w24 := (hB0_7).trans (hb24.mono (hB0_7).size)
  have hB0_9 : Below w.heap.size w w26 := (hB0_8).grown hg26 (hB0_8).size (fun k e => by cases e; exact Nat.le_trans (Nat.le_refl _) (Nat.le_refl _))
  exact ⟨rfl, hB0_9⟩
theorem blk_base {B : Nat} {w w' : World} {t : TypeId} {cs : List Value} {b : Nat} (hk : Blk w b t cs) (hb : Below B w w') (h : b < B) : Blk w' b t cs := (hb.block b h).trans hk
set_option maxRecDepth 100000 in
set_option maxHeartbeats 4000000 in
theorem mac_calls (v vm : Value) (k m : List UInt8) (w : World) (hb : Rd w v k) (hl : k.length = 32) (hbm : Rd w vm m) (hin : Inn w vm) (hm : m.length ≤ 140737488355200) (hKn : Kon w) : Calls Tryd.prog 181 #[v, vm] w (fun e w' => e = .returned (dg (hmac k m)) ∧ Below w.heap.size w w') := by
  refine Eng.enter (l := [v, vm]) Tryd.func181 rfl 13 rfl (by simp) ?_
  refine Eng.seqk fun K1 hK1 => ?_
  refine Eng.reg ?_
  refine Eng.al rfl rfl rfl zr45_mc (cs := (bcs Oct.dz)) rfl ?_
  intro w2 hk2 hb2 hz2
  refine Eng.nil ?_
  refine hK1 _ _ ?_
  refine Eng.seqk fun K3 hK3 => ?_
  refine Eng.reg ?_
  refine Eng.sv rfl rfl (Eng.x_mv (v := v) rfl rfl) ?_
  have hr4 := (hb).below hb2
  have hr5 := (hKn).below hb2
  refine Eng.sc rfl (Eng.xc (vl := [v]) rfl rfl rfl en219_mc) (new_calls _ k _ hr4 hl hr5) ?_
  rintro _ w6 ⟨p6, rfl, hs6, hb6⟩
  refine Eng.aft_v rfl ?_
  refine Eng.sv rfl rfl (Eng.x_as (v := (.pointer (some ⟨p6, 0, none⟩))) rfl rfl) ?_
  refine Eng.nil ?_
  refine hK3 _ _ ?_
  refine Eng.seqk fun K7 hK7 => ?_
  refine Eng.reg ?_
  refine Eng.sv rfl rfl (Eng.x_mv (v := (.pointer (some ⟨p6, 0, none⟩))) rfl rfl) ?_
  refine Eng.sv rfl rfl (Eng.x_mv (v := vm) rfl rfl) ?_
  have hB0_2 : Below w.heap.size w w6 := (hb2).trans (hb6.mono (hb2).size)
  have hr8 := (hbm).below hB0_2
  have hr9 := (hKn).below hB0_2
  refine Eng.sc rfl (Eng.xc (vl := [(.pointer (some ⟨p6, 0, none⟩)), vm]) rfl rfl rfl en220_mc) (kwrite_calls _ _ k _ m _ hs6 hl hr8 (fun ad n c e => Nat.lt_of_lt_of_le (hin ad n c e) (hb2).size) hm (hb6).size hr9 (Kon.lt hr5)) ?_
  rintro _ w10 ⟨rfl, hs10, hb10⟩
  refine Eng.aft_v rfl ?_
  refine Eng.nil ?_
  refine hK7 _ _ ?_
  refine Eng.seqk fun K11 hK11 => ?_
  refine Eng.reg ?_
  refine Eng.sv rfl rfl (Eng.x_mv (v := (.pointer (some ⟨p6, 0, none⟩))) rfl rfl) ?_
  have hB0_3 : Below w.heap.size w w10 := (hB0_2).trans (hb10.mono (hb2).size)
  have hr12 := (hKn).below hB0_3
  refine Eng.sc rfl (Eng.xc (vl := [(.pointer (some ⟨p6, 0, none⟩))]) rfl rfl rfl en221_mc) (ksum_calls _ _ k m _ hs10 hl hm hr12) ?_
  rintro _ w13 ⟨rfl, hb13⟩
  refine Eng.aft_v rfl ?_
  have hk14 := (blk_base ((hk2).below hb6) hb10 (Nat.lt_of_lt_of_le hz2 (Nat.le_refl _))).below hb13
  refine Eng.stB (v := (dg (hmac k m))) rfl rfl rfl sz45_mc rfl hk14 rfl rfl (cs' := (bcs (hmac k m))) rfl ((bcs_length _).trans (hmac_len _ _)) (bcs_one _) ?_
  intro w15 hk15 hg15
  refine Eng.nil ?_
  refine hK11 _ _ ?_
  refine Eng.rt ?_
  refine Eng.ret (Eng.res1 (v1 := (dg (hmac k m))) rfl (Eng.rdc rfl (Eng.lvB ag45_mc sz45_mc hk15 ((bcs_length _).trans (hmac_len _ _)) rfl))) ?_
  have hB0_4 : Below w.heap.size w w13 := (hB0_3).trans (hb13.mono (hB0_3).size)
  have hB0_5 : Below w.heap.size w w15 := (hB0_4).grown hg15 (hB0_4).size (fun k e => by cases e; exact Nat.le_trans (Nat.le_refl _) (Nat.le_refl _))
  exact ⟨rfl, hB0_5⟩
/-- The i-th digest of a seed for a purpose. -/
def childS (seed p : List UInt8) (i : Nat) : List UInt8 := hmac seed ([UInt8.ofNat p.length] ++ p ++ be i 8)
theorem put64_own {v : Value} {bs : List UInt8} {x : Nat} {w : World} (h : Bs w v bs) (hx : x < 18446744073709551616) : Calls Tryd.prog 85 #[v, .int .u64 (x : Int)] w fun e w' => ∃ v', e = .returned v' ∧ Oct.Own w.heap.size w' v' (bs ++ be x 8) ∧ Below w.heap.size w w' := by
  refine (put64 v bs x w h hx).mono ?_
  rintro e w' ⟨v', h1, h2, h3⟩
  refine ⟨v', h1, ?_, h3⟩
  unfold Oct.Own
  rw [List.length_append, be_length]
  exact h2
set_option maxRecDepth 100000 in
set_option maxHeartbeats 4000000 in
theorem child_calls (seed p : List UInt8) (i : Nat) (w : World) (h32 : seed.length = 32) (hp1 : 1 ≤ p.length) (hp2 : p.length ≤ 255) (hi : i ≤ 9223372036854775807) (hKn : Kon w) : Calls Tryd.prog 122 #[(dg seed), (.string (str p)), (.int .i64 (i : Int))] w (fun e w' => e = .returned (.tuple #[dg (childS seed p i), .int .i64 0]) ∧ Below w.heap.size w w') := by
  have hpl : (UInt8.ofNat p.length).toNat = p.length := by simp; omega
  refine Eng.enter (l := [(dg seed), (.string (str p)), (.int .i64 (i : Int))]) Tryd.func122 rfl 34 rfl (by simp) ?_
  refine Eng.seqk fun K1 hK1 => ?_
  refine Eng.reg ?_
  refine Eng.bo (v := (dg seed)) (cs := (bcs seed)) rfl rfl rfl rfl rfl ?_
  intro w2 hk2 hb2 hz2
  refine Eng.al rfl rfl rfl zr45_mc (cs := (bcs Oct.dz)) rfl ?_
  intro w3 hk3 hb3 hz3
  refine Eng.sv rfl rfl (Eng.x_as (v := (.int .i64 0)) rfl rfl) ?_
  refine Eng.nil ?_
  refine hK1 _ _ ?_
  refine Eng.seqk fun K4 hK4 => ?_
  refine Eng.seqk fun K5 hK5 => ?_
  refine Eng.reg ?_
  refine Eng.sv rfl rfl (Eng.x_mv (v := (.string (str p))) rfl rfl) ?_
  refine Eng.sv rfl rfl (Eng.x_lenS (r := (p.length : Int)) rfl Tryd.underlying9 rfl (by show p.length ≤ _; omega) rfl) ?_
  refine Eng.sv rfl rfl (Eng.x_lt (r := false) rfl rfl rfl (decide_eq_false (by omega))) ?_
  refine Eng.sv rfl rfl (Eng.x_mv (v := (.bool false)) rfl rfl) ?_
  refine Eng.sv (Eng.gt rfl rfl rfl rfl) rfl (Eng.x_mv (v := (.string (str p))) rfl rfl) ?_
  refine Eng.sv (Eng.gt rfl rfl rfl rfl) rfl (Eng.x_lenS (r := (p.length : Int)) rfl Tryd.underlying9 rfl (by show p.length ≤ _; omega) rfl) ?_
  refine Eng.sv (Eng.gt rfl rfl rfl rfl) rfl (Eng.x_gt (r := false) rfl rfl rfl (decide_eq_false (by omega))) ?_
  refine Eng.sv rfl rfl (Eng.x_pick (v := (.bool false)) rfl rfl rfl rfl rfl) ?_
  refine Eng.sv rfl rfl (Eng.x_mv (v := (.bool false)) rfl rfl) ?_
  refine Eng.sv (Eng.gt rfl rfl rfl rfl) rfl (Eng.x_mv (v := (.int .i64 (i : Int))) rfl rfl) ?_
  refine Eng.sv (Eng.gt rfl rfl rfl rfl) rfl (Eng.x_lt (r := false) rfl rfl rfl (decide_eq_false (by omega))) ?_
  refine Eng.sv rfl rfl (Eng.x_pick (v := (.bool false)) rfl rfl rfl rfl rfl) ?_
  refine Eng.nil ?_
  refine hK5 _ _ ?_
  refine Eng.cond_f rfl ?_
  refine Eng.skp ?_
  refine hK4 _ _ ?_
  refine Eng.seqk fun K6 hK6 => ?_
  refine Eng.reg ?_
  refine Eng.sv rfl rfl (Eng.x_mv (v := (.string (str p))) rfl rfl) ?_
  refine Eng.sv rfl rfl (Eng.x_lenS (r := (p.length : Int)) rfl Tryd.underlying9 rfl (by show p.length ≤ _; omega) rfl) ?_
  refine Eng.sv rfl rfl (Eng.x_conv rfl Tryd.underlying3 Tryd.underlying5 rfl (Eng.wu8 (r := ((UInt8.ofNat p.length).toNat : Int)) (by omega))) ?_
  refine Eng.bs (vs := [(.int .u8 ((UInt8.ofNat p.length).toNat : Int))]) (cs := (bcs [(UInt8.ofNat p.length)])) rfl rfl rfl Tryd.underlying48 in5_mc rfl (by decide) rfl rfl (by decide) (by decide) (by simp [Value.cells]) rfl ?_
  intro w7 hk7 hb7 hz7
  refine Eng.sv rfl rfl (Eng.x_mv (v := (.string (str p))) rfl rfl) ?_
  refine Eng.apSt (ys := p) rfl rfl rfl rfl (Eng.own_lit (base := w3.heap.size) hk7 (Nat.le_refl _) (Nat.le_of_ble_eq_true rfl)) rfl (by simp only [List.length_cons, List.length_nil]; omega) (hb7).size ?_
  intro v8 w8 ho8 hg8
  refine Eng.sv rfl rfl (Eng.x_as (v := v8) rfl rfl) ?_
  refine Eng.nil ?_
  refine hK6 _ _ ?_
  refine Eng.seqk fun K9 hK9 => ?_
  have hk11 := (((hk2).below hb3).below hb7).grown hg8 (fun e => absurd ((World.ownsRow.lt (Eng.own_lit (base := w3.heap.size) hk7 (Nat.le_refl _) (Nat.le_of_ble_eq_true rfl))) _ e.symm).1 (Nat.not_le_of_lt (Nat.lt_of_lt_of_le hz2 (hb3).size)))
  have hB0_2 : Below w.heap.size w w3 := (hb2).trans (hb3.mono (hb2).size)
  have hB0_3 : Below w.heap.size w w7 := (hB0_2).trans (hb7.mono (hB0_2).size)
  have hB0_4 : Below w.heap.size w w8 := (hB0_3).grown hg8 (hB0_3).size (fun k e => Nat.le_trans (hB0_2).size ((World.ownsRow.lt (Eng.own_lit (base := w3.heap.size) hk7 (Nat.le_refl _) (Nat.le_of_ble_eq_true rfl))) _ e).1)
  have hr12 := (hKn).below hB0_4
  refine Eng.draw 6 [fun vQ _ => vQ = (.slice (some ⟨w.heap.size, 0, none⟩) 32 32), fun vQ _ => vQ = v8, fun vQ _ => vQ = (.int .i64 (i : Int)), fun vQ _ => vQ = (.int .u64 (i : Int)), fun (v : Value) (W : World) => Oct.Own w8.heap.size W v (([(UInt8.ofNat p.length)] ++ p) ++ be i 8), fun vQ _ => vQ = (dg (hmac seed (([(UInt8.ofNat p.length)] ++ p) ++ be i 8)))] (by kernel_rfl) (by kernel_rfl) (by kernel_rfl) (by kernel_rfl) rfl rfl ?_ ?_ ?_
  · exact ⟨fun _ _ _ h _ => h, fun _ _ _ h _ => h, fun _ _ _ h _ => h, fun _ _ _ h _ => h, fun _ _ _ h hb => h.below hb, fun _ _ _ h _ => h, trivial⟩
  · refine ⟨?_, ?_, ?_, ?_, ?_, ?_, trivial⟩
    · intro u' W hbW hkp hdp K hK
      refine Eng.dv rfl rfl ?_ (hK _ _ (Below.refl _ _) rfl)
      exact (Eng.x_slA rfl Tryd.underlying45 sz5_mc (show Eng.opv 34 u' (.tmp 3) = (.pointer (some ⟨w.heap.size, 0, none⟩)) from hkp 3 rfl))
    · intro u' W hbW hkp hdp K hK
      refine Eng.dv rfl rfl ?_ (hK _ _ (Below.refl _ _) rfl)
      exact (Eng.x_mv (v := v8) rfl (show Eng.opv 34 u' (.tmp 8) = v8 from hkp 8 rfl))
    · intro u' W hbW hkp hdp K hK
      refine Eng.dv rfl rfl ?_ (hK _ _ (Below.refl _ _) rfl)
      exact (Eng.x_mv (v := (.int .i64 (i : Int))) rfl (show Eng.opv 34 u' (.tmp 2) = (.int .i64 (i : Int)) from hkp 2 rfl))
    · intro u' W hbW hkp hdp K hK
      have e2 : u' 30 = (.int .i64 (i : Int)) := hdp.1
      refine Eng.dv rfl rfl ?_ (hK _ _ (Below.refl _ _) rfl)
      exact (Eng.x_conv rfl Tryd.underlying3 Tryd.underlying123 (show Eng.opv 34 u' (.tmp 30) = (.int .i64 (i : Int)) from e2) (Eng.wu64 (r := (i : Int)) (by omega)))
    · intro u' W hbW hkp hdp K hK
      have e1 : u' 29 = v8 := hdp.1
      have e3 : u' 31 = (.int .u64 (i : Int)) := hdp.2.1
      refine Eng.dc (vs := #[v8, (.int .u64 (i : Int))]) rfl ?_ (put64_own (x := i) ⟨(((ho8).below hbW)).rd, by simp only [List.length_append, List.length_cons, List.length_nil]; omega⟩ (by omega)) ?_
      · exact Eng.xc (xs := #[(Go.Operand.tmp 29), (Go.Operand.tmp 31)]) (vl := [v8, (.int .u64 (i : Int))]) rfl rfl (Eng.lc (show Eng.opv 34 u' (.tmp 29) = v8 from e1) (Eng.lc (show Eng.opv 34 u' (.tmp 31) = (.int .u64 (i : Int)) from e3) rfl)) en85_mc
      rintro _ W2 ⟨v2, rfl, ho2, hb2⟩
      exact Eng.aft_v rfl (hK _ _ hb2 (ho2.mono hbW.size))
    · intro u' W hbW hkp hdp K hK
      have e0 : u' 28 = (.slice (some ⟨w.heap.size, 0, none⟩) 32 32) := hdp.1
      have e4 : Oct.Own w8.heap.size W (u' 32) (([(UInt8.ofNat p.length)] ++ p) ++ be i 8) := hdp.2.1
      refine Eng.dc (vs := #[(.slice (some ⟨w.heap.size, 0, none⟩) 32 32), (u' 32)]) rfl ?_ (mac_calls _ _ seed (([(UInt8.ofNat p.length)] ++ p) ++ be i 8) _ (((Rd.of_blk hk11 32 h32 (by decide))).below hbW) h32 (e4).rd (Inn.own e4) (by simp only [List.length_append, List.length_cons, List.length_nil, be_length]; omega) ((hr12).below hbW)) ?_
      · exact Eng.xc (xs := #[(Go.Operand.tmp 28), (Go.Operand.tmp 32)]) (vl := [(.slice (some ⟨w.heap.size, 0, none⟩) 32 32), (u' 32)]) rfl rfl (Eng.lc (show Eng.opv 34 u' (.tmp 28) = (.slice (some ⟨w.heap.size, 0, none⟩) 32 32) from e0) (Eng.lc (show Eng.opv 34 u' (.tmp 32) = u' 32 from rfl) rfl)) en181_mc
      rintro _ W2 ⟨rfl, hb2⟩
      exact Eng.aft_v rfl (hK _ _ hb2 rfl)
  · intro ud10 w10 hb10 hkp10 ⟨f10_0, f10_1, f10_2, f10_3, f10_4, f10_5, _⟩
    obtain ⟨vd10_4, hv10_4⟩ : ∃ v, v = ud10 32 := ⟨_, rfl⟩
    have g10_4 : (fun (v : Value) (W : World) => Oct.Own w8.heap.size W v (([(UInt8.ofNat p.length)] ++ p) ++ be i 8)) vd10_4 w10 := by rw [hv10_4]; exact f10_4
    obtain rfl := Eng.collect (l := [(28, (.slice (some ⟨w.heap.size, 0, none⟩) 32 32)), (29, v8), (30, (.int .i64 (i : Int))), (31, (.int .u64 (i : Int))), (32, vd10_4), (33, (dg (hmac seed (([(UInt8.ofNat p.length)] ++ p) ++ be i 8))))]) hkp10 ⟨f10_0, f10_1, f10_2, f10_3, hv10_4.symm, f10_5, trivial⟩ rfl
    have hk13 := (((hk3).below hb7).grown hg8 (fun e => absurd ((World.ownsRow.lt (Eng.own_lit (base := w3.heap.size) hk7 (Nat.le_refl _) (Nat.le_of_ble_eq_true rfl))) _ e.symm).1 (Nat.not_le_of_lt (Nat.lt_of_lt_of_le hz3 (Nat.le_refl _))))).below hb10
    refine Eng.stB (v := (dg (hmac seed (([(UInt8.ofNat p.length)] ++ p) ++ be i 8)))) rfl rfl rfl sz45_mc rfl hk13 rfl rfl (cs' := (bcs (hmac seed (([(UInt8.ofNat p.length)] ++ p) ++ be i 8)))) rfl ((bcs_length _).trans (hmac_len _ _)) (bcs_one _) ?_
    intro w14 hk14 hg14
    refine Eng.sv rfl rfl (Eng.x_as (v := (.int .i64 0)) rfl rfl) ?_
    refine Eng.nil ?_
    refine hK9 _ _ ?_
    refine Eng.rt ?_
    refine Eng.ret (Eng.res2 (v1 := (dg (hmac seed (([(UInt8.ofNat p.length)] ++ p) ++ be i 8)))) (v2 := (.int .i64 0)) rfl (Eng.rdc rfl (Eng.lvB ag45_mc sz45_mc hk14 ((bcs_length _).trans (hmac_len _ _)) rfl)) (Eng.rdt rfl)) ?_
    have hB0_5 : Below w.heap.size w w10 := (hB0_4).trans (hb10.mono (hB0_4).size)
    have hB0_6 : Below w.heap.size w w14 := (hB0_5).grown hg14 (hB0_5).size (fun k e => by cases e; exact Nat.le_trans (hb2).size (Nat.le_refl _))
    exact ⟨rfl, hB0_6⟩
end Go.Proofs.YtnecgoahdkfbeaaDoor.Mac
