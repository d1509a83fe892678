/- The walk of the law OctetPuts: for all bytes, every number and digest it returns true, and changes nothing that was there. -/
import Derived.Test.YtmiffljcggfcgaaPut
import Derived.Test.YtmiffljcggfcgaaBackW
namespace Go.Proofs.Ytmiffljcggfcgaa.Oct
open Go Go.RowKit Go.Proofs.Ytmiffljcggfcgaa.Cop
set_option linter.unusedVariables false
set_option linter.unusedSimpArgs false

/-- The law's own check: the first answer is right, and new; so is the second one behind it. -/
theorem lput_calls (base m : Nat) (x y vb vh : Value) (b h : List UInt8) (w : World) (hx : Own base w x (b ++ h)) (hxm : ∀ k, x.ownBlock = some k → k < m) (hy : Own m w y (b ++ h)) (hb : Rd w vb b) (hh : Rd w vh h) (hl : b.length + h.length ≤ 9223372036854775807) :
    Calls Try.prog 25 #[x, y, vb, vh] w fun e w' => e = .returned (.bool true) ∧ w.grownBy w' x.ownBlock := by
  have hne : y.ownBlock = none ∨ y.ownBlock ≠ x.ownBlock := by
    cases hyb : y.ownBlock with
    | none => exact .inl rfl
    | some k =>
      refine .inr (fun e => ?_)
      have h1 := (World.ownsRow.lt hy k hyb).1
      have h2 := hxm k e.symm
      omega
  go_enter Try.func25, Try.ntmps25
  go_wp2_with (first | ((with_reducible refine gate_dst (N := 11) rfl ?_); go_loud (refine wp_strB rfl _ rfl hb rfl ?_)) | ((with_reducible refine gate_dst (N := 13) rfl ?_); go_loud (refine wp_strB rfl _ rfl hh rfl ?_)) | ((with_reducible refine gate_dst (N := 14) rfl ?_); go_loud (refine wp_add_str rfl _ _ _ _ rfl (p := b) (q := h) rfl rfl (rfl) (rfl) (by omega) ?_)) | ((with_reducible refine gate_dst (N := 16) rfl ?_); go_loud (refine wp_strB rfl _ rfl hx.rd rfl ?_)) | ((with_reducible refine gate_dst (N := 18) rfl ?_); go_loud (refine wp_neq_str rfl _ _ _ _ rfl rfl rfl (b := false) (decide_eq_true rfl) ?_)))
  refine (spoil_calls base x _ w hx).mono ?_
  rintro e w1 ⟨rfl, hx1, hg1⟩
  have hy1 := hy.kept hg1 hne
  go_wp2_with (first | ((with_reducible refine gate_dst (N := 22) rfl ?_); go_loud (refine wp_strB rfl _ rfl hy1.rd rfl ?_)) | ((with_reducible refine gate_dst (N := 24) rfl ?_); go_loud (refine wp_eq_str rfl _ _ _ _ rfl rfl rfl (decide_eq_true rfl) ?_)))
  go_ret
  exact ⟨rfl, hg1⟩


theorem loadDp (ρ : Operand → Value) (x : Operand) (dst : Option Tmp) (ty : TypeId) (pos : String) (after : Array Edge) (guard : Option (Nat × Bool)) (w : World)
    (h : isRowV w (ρ x) 32 = true) : (execOp ρ { dst, op := .load 55 x, type := ty, pos, after, guard }).run Try.prog w = .ok (.value (.agg (rowV w (ρ x)).toArray)) w := run_load_rowV aggD sizeD ρ x dst ty pos after guard w h
attribute [local go_sem ↓] loadDp

set_option maxRecDepth 100000 in
set_option maxHeartbeats 4000000 in
theorem puts_law (v : Value) (bs : List UInt8) (x : Nat) (d : List UInt8) (w : World) (h : Bs w v bs) (h47 : bs.length ≤ 140737488351232) (hx : x < 18446744073709551616) (hd : d.length = 32) :
    Calls Try.prog 7 #[v, .int .u64 (x : Int), dg d] w fun e w' => e = .returned (.bool true) ∧ Below w.heap.size w w' := by
  have hb := h.2
  have HX := Lib.hid hx
  clear hx
  obtain ⟨x16, hw16, hm16, h16⟩ : ∃ m : Nat, IntKind.u16.wrap (x : Int) = (m : Int) ∧ (x : Int) % 65536 = (m : Int) ∧ m < 65536 := ⟨x % 65536, by rw [IntKind.wrap_u16]; omega, by omega, by omega⟩
  obtain ⟨x32, hw32, hm32, h32⟩ : ∃ m : Nat, IntKind.u32.wrap (x : Int) = (m : Int) ∧ (x : Int) % 4294967296 = (m : Int) ∧ m < 4294967296 := ⟨x % 4294967296, by rw [IntKind.wrap_u32]; omega, by omega, by omega⟩
  have HD := Lib.hid hd
  clear hd
  go_enter Try.func7, Try.ntmps7
  go_wp2_with (first | (((with_reducible refine gate_dst (N := 5) rfl ?_); go_loud (refine wp_box rfl _ _ rfl (v := dg d) rfl ?_); intro w0 hk0 hb0 hz0); have h0 := h.below hb0) | (((with_reducible refine gate_dst (N := 12) rfl ?_); go_loud (refine wp_appB rfl (.tmp 10) (.tmp 11) rfl (Own.lit0 w0 (Nat.le_refl _)) rfl (Rd.alloc h0.1 _) rfl (by simp; omega) (by simp) ?_); intro v1 w1 hown1 hgrow1)) | (((with_reducible refine gate_dst (N := 14) rfl ?_); go_loud (refine wp_appB rfl (.tmp 12) (.tmp 13) rfl (hown1.alloc _) rfl (Rd.one _ 0x5a _) rfl (by simp; omega) (by have := hgrow1.size; simp at this ⊢; omega) ?_); intro v2 w2 hown2 hgrow2); have hB01 : Below w0.heap.size w0 w1 := ((Below.refl _ _).alloc (Nat.le_refl _) _).trans ((Own.lit0 w0 (Nat.le_refl _)).frame hgrow1 (by simp)); have hB02 : Below w0.heap.size w0 w2 := (hB01.alloc hB01.size _).trans ((hown1.alloc _).frame hgrow2 (by have := hB01.size; simp; omega)); have hv1 : Rd w2 v bs := (h0.below hB02).1; have hin1 : Rd w2 v2 (bs ++ [0x5a]) := hown2.rd; have hk1 := hk0.below hB02; have hB1 : Below w.heap.size w w2 := hb0.trans (hB02.mono hb0.size); clear hown1 hown2 hgrow1 hgrow2 hB01 hB02) | ((with_reducible refine gate_dst (N := 17) rfl ?_); go_loud (refine wp_lenB rfl _ rfl hv1 rfl ?_)) | (((with_reducible refine gate_dst (N := 18) rfl ?_); go_loud (refine wp_cutB rfl _ _ _ rfl hin1 rfl (0) (bs.length) (.inl ⟨rfl, rfl⟩) (.inr ⟨_, rfl⟩) (by first | omega | (simp; done) | (simp; omega)) (by first | omega | (simp; done) | (simp; omega)) ?_); intro vo hro); have hos1 : Bs w2 vo bs := Rd.bs (by simpa using hro) hb; clear hro))

  -- PutUint16
  refine (put16 vo bs x16 w2 hos1 h16).mono ?_
  intro e w2a hq
  obtain ⟨va1, rfl, oa1, ba1⟩ := ret_own hq (by simp [be_length])
  clear hq
  go_wp2_with fail
  refine (put16 vo bs x16 w2a (hos1.below ba1) h16).mono ?_
  intro e w2b hq
  obtain ⟨vb1, rfl, ob1, bb1⟩ := ret_own hq (by simp [be_length])
  clear hq
  go_wp2_with fail
  refine (number_calls x16 2 w2b (by have := h16; have := HX.out; omega) (by omega)).mono ?_
  rintro e w2c ⟨vn1, rfl, on1, bn1⟩
  go_wp2_with fail
  have bab1 : Below w2.heap.size w2 w2b := ba1.trans (bb1.mono ba1.size)
  have bac1 : Below w2.heap.size w2 w2c := bab1.trans (bn1.mono bab1.size)
  have oa1' := ((oa1.below bb1).below bn1)
  refine (lput_calls w2.heap.size w2a.heap.size va1 vb1 v vn1 bs (be x16 2) w2c oa1' (fun k hk => (World.ownsRow.lt oa1 k hk).2) (ob1.below bn1) (hv1.below bac1) on1.rd (by rw [be_length]; omega)).mono ?_
  rintro e w2d ⟨rfl, gd1⟩
  have bd1 : Below w2.heap.size w2 w2d := bac1.trans (oa1'.frame gd1 bac1.size)
  have hos2 := hos1.below bd1
  have hv2 := hv1.below bd1
  have hin2 := hin1.below bd1
  have hk2 := hk1.below bd1
  have hB2 := hB1.trans (bd1.mono hB1.size)
  clear oa1 ba1 ob1 bb1 on1 bn1 bab1 bac1 oa1' gd1 bd1 hos1 hv1 hin1 hk1 hB1
  go_wp2_with fail

  -- PutUint32
  refine (put32 vo bs x32 w2d hos2 h32).mono ?_
  intro e w2da hq
  obtain ⟨va2, rfl, oa2, ba2⟩ := ret_own hq (by simp [be_length])
  clear hq
  go_wp2_with fail
  refine (put32 vo bs x32 w2da (hos2.below ba2) h32).mono ?_
  intro e w2db hq
  obtain ⟨vb2, rfl, ob2, bb2⟩ := ret_own hq (by simp [be_length])
  clear hq
  go_wp2_with fail
  refine (number_calls x32 4 w2db (by have := h32; have := HX.out; omega) (by omega)).mono ?_
  rintro e w2dc ⟨vn2, rfl, on2, bn2⟩
  go_wp2_with fail
  have bab2 : Below w2d.heap.size w2d w2db := ba2.trans (bb2.mono ba2.size)
  have bac2 : Below w2d.heap.size w2d w2dc := bab2.trans (bn2.mono bab2.size)
  have oa2' := ((oa2.below bb2).below bn2)
  refine (lput_calls w2d.heap.size w2da.heap.size va2 vb2 v vn2 bs (be x32 4) w2dc oa2' (fun k hk => (World.ownsRow.lt oa2 k hk).2) (ob2.below bn2) (hv2.below bac2) on2.rd (by rw [be_length]; omega)).mono ?_
  rintro e w2dd ⟨rfl, gd2⟩
  have bd2 : Below w2d.heap.size w2d w2dd := bac2.trans (oa2'.frame gd2 bac2.size)
  have hos3 := hos2.below bd2
  have hv3 := hv2.below bd2
  have hin3 := hin2.below bd2
  have hk3 := hk2.below bd2
  have hB3 := hB2.trans (bd2.mono hB2.size)
  clear oa2 ba2 ob2 bb2 on2 bn2 bab2 bac2 oa2' gd2 bd2 hos2 hv2 hin2 hk2 hB2
  go_wp2_with fail

  -- PutUint64
  refine (put64 vo bs x w2dd hos3 HX.out).mono ?_
  intro e w2dda hq
  obtain ⟨va3, rfl, oa3, ba3⟩ := ret_own hq (by simp [be_length])
  clear hq
  go_wp2_with fail
  refine (put64 vo bs x w2dda (hos3.below ba3) HX.out).mono ?_
  intro e w2ddb hq
  obtain ⟨vb3, rfl, ob3, bb3⟩ := ret_own hq (by simp [be_length])
  clear hq
  go_wp2_with fail
  refine (number_calls x 8 w2ddb (by have := HX.out; have := HX.out; omega) (by omega)).mono ?_
  rintro e w2ddc ⟨vn3, rfl, on3, bn3⟩
  go_wp2_with fail
  have bab3 : Below w2dd.heap.size w2dd w2ddb := ba3.trans (bb3.mono ba3.size)
  have bac3 : Below w2dd.heap.size w2dd w2ddc := bab3.trans (bn3.mono bab3.size)
  have oa3' := ((oa3.below bb3).below bn3)
  refine (lput_calls w2dd.heap.size w2dda.heap.size va3 vb3 v vn3 bs (be x 8) w2ddc oa3' (fun k hk => (World.ownsRow.lt oa3 k hk).2) (ob3.below bn3) (hv3.below bac3) on3.rd (by rw [be_length]; omega)).mono ?_
  rintro e w2ddd ⟨rfl, gd3⟩
  have bd3 : Below w2dd.heap.size w2dd w2ddd := bac3.trans (oa3'.frame gd3 bac3.size)
  have hos4 := hos3.below bd3
  have hv4 := hv3.below bd3
  have hin4 := hin3.below bd3
  have hk4 := hk3.below bd3
  have hB4 := hB3.trans (bd3.mono hB3.size)
  clear oa3 ba3 ob3 bb3 on3 bn3 bab3 bac3 oa3' gd3 bd3 hos3 hv3 hin3 hk3 hB3
  go_wp2_with fail

  have hq4 := rowV_blk (w := w2ddd.drew) hk4
  have hi4 := isRowV_blk (w := w2ddd.drew) hk4 (n := 32) (by have := HD.out; simpa [Value.cells, bcs] using this)
  have tok1 : True := trivial
  go_region_law (first | (have _t := tok1; go_simp; go_at_call 30; go_loud (refine (putD vo bs d _ (by exact hos4) HD.out).mono ?_); intro e ua hq; obtain ⟨va4, rfl, oa4, ba4⟩ := ret_own hq (by have := HD.out; simp [this]); clear hq; have hka := Blk.below (w := w2ddd.drew) hk4 ba4; have hqa := rowV_blk hka; have hia := isRowV_blk hka (n := 32) (by have := HD.out; simpa [Value.cells, bcs] using this); clear tok1) | (go_simp; go_at_call 30; go_loud (refine (putD vo bs d ua (Bs.below (w := w2ddd.drew) hos4 ba4) HD.out).mono ?_); intro e ub hq; obtain ⟨vb4, rfl, ob4, bb4⟩ := ret_own hq (by have := HD.out; simp [this]); clear hq; have hkb := Blk.below hka bb4) | (go_simp; go_at_call 25; go_loud (refine (lput_calls w2ddd.heap.size ua.heap.size va4 vb4 v _ bs d ub (Own.below oa4 bb4) (fun k hk => (World.ownsRow.lt oa4 k hk).2) ob4 (Rd.below (w := w2ddd.drew) hv4 (ba4.trans (bb4.mono ba4.size))) (Rd.of_blk hkb 32 HD.out (by unfold maxLen; omega)) (by have := HD.out; omega)).mono ?_); rintro e uc ⟨rfl, gd4⟩))
  all_goals
    have bab4 : Below w2ddd.heap.size w2ddd ub := ((Below.refl _ w2ddd).drew.trans ba4).trans (bb4.mono ba4.size)
    have bd4 : Below w2ddd.heap.size w2ddd uc := bab4.trans ((Own.below oa4 bb4).frame gd4 bab4.size)
    have hv5 := hv4.below bd4
    have hin5 := hin4.below bd4
    clear hqa hia hq4 hi4
    go_wp2_with (first | ((with_reducible refine gate_dst (N := 76) rfl ?_); go_loud (refine wp_strB rfl _ rfl hin5 rfl ?_)) | ((with_reducible refine gate_dst (N := 78) rfl ?_); go_loud (refine wp_strB rfl _ rfl hv5 rfl ?_)) | ((with_reducible refine gate_dst (N := 79) rfl ?_); go_loud (refine wp_add_str rfl _ _ _ _ rfl (p := bs) (q := [0x5a]) rfl rfl (rfl) (rfl) (by simp; omega) ?_)) | ((with_reducible refine gate_dst (N := 80) rfl ?_); go_loud (refine wp_eq_str rfl _ _ _ _ rfl rfl rfl (decide_eq_true rfl) ?_)))
    go_ret
    exact ⟨rfl, hB4.trans (bd4.mono hB4.size)⟩
end Go.Proofs.Ytmiffljcggfcgaa.Oct
