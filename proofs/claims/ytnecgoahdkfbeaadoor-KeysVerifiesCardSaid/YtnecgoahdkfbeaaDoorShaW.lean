/- The reference's Over: whole blocks one after another. -/
import Derived.Test.YtnecgoahdkfbeaaDoorShaV
namespace Go.Proofs.YtnecgoahdkfbeaaDoor.Sha
open Go Go.RowKit Go.Proofs.YtnecgoahdkfbeaaDoor.Cop Go.Proofs.YtnecgoahdkfbeaaDoor.Oct
set_option linter.unusedVariables false
set_option linter.unusedSimpArgs false
/-- A slice's part, in whatever world. -/
theorem row_cut {W : World} {ao : Option Addr} {n cap sz : Nat} {cs : List Value} (hr : Row W (.slice ao n cap) n cs) (l h' : Nat) (h1 : l ≤ h') (h2 : h' ≤ n) :
    Row W (.slice (if cap = l then ao else ao.map (·.add (l * sz))) (h' - l) (cap - l)) (h' - l) ((cs.drop (l * sz)).take ((h' - l) * sz)) := by
  obtain ⟨ao', cap', he, q1, q2, q3, q4⟩ := hr
  injection he with e1 e2 e3
  subst e1 e3
  refine ⟨_, _, rfl, by omega, by omega, ?_, ?_⟩
  · intro hnone
    split at hnone
    · subst hnone
      obtain ⟨rfl, rfl⟩ := q3 rfl
      exact ⟨by omega, by simp⟩
    · cases ao with
      | none => obtain ⟨rfl, rfl⟩ := q3 rfl; exact ⟨by omega, by simp⟩
      | some _ => simp at hnone
  · intro ad had j u hu
    rw [List.getElem?_take] at hu
    split at hu
    · rename_i hj
      rw [List.getElem?_drop] at hu
      have hne : ¬ cap = l := by
        intro e
        have : h' - l = 0 := by omega
        rw [this] at hj
        omega
      rw [if_neg hne] at had
      cases ao with
      | none => simp at had
      | some ad0 =>
        simp at had
        subst had
        have := q4 ad0 rfl _ _ hu
        rwa [show (ad0.add (l * sz)).add j = ad0.add (l * sz + j) from by unfold Addr.add; by_cases ha : l * sz = 0 <;> by_cases hb : j = 0 <;> simp [ha, hb, Nat.add_assoc]]
    · cases hu
theorem rd_cut {W : World} {ao : Option Addr} {cap : Nat} {bs : List UInt8} (hr : Rd W (.slice ao bs.length cap) bs) (l h' : Nat) (h1 : l ≤ h') (h2 : h' ≤ bs.length) :
    Rd W (.slice (if cap = l then ao else ao.map (·.add l)) (h' - l) (cap - l)) ((bs.drop l).take (h' - l)) := by
  have := row_cut (sz := 1) hr l h' h1 h2
  unfold Rd
  rw [Nat.mul_one, Nat.mul_one, bcs_cut] at this
  have e : ((bs.drop l).take (h' - l)).length = h' - l := by rw [List.length_take, List.length_drop]; omega
  rw [e]
  exact this
theorem run_cutB {w : World} {ao : Option Addr} {n cap : Nat} (hnc : n ≤ cap) (lo hi : Option Value) (l h' : Nat) (hlo : lo = none ∧ l = 0 ∨ ∃ k, lo = some (.int k (l : Int))) (hhi : hi = none ∧ h' = n ∨ ∃ k, hi = some (.int k (h' : Int))) (h1 : l ≤ h') (h2 : h' ≤ n) :
    (Instr.sliceAt 48 (.slice ao n cap) lo hi none).run Tryd.prog w = .ok (.slice (if cap = l then ao else ao.map (·.add l)) (h' - l) (cap - l)) w := by
  have hsz := Go.Proofs.YtnecgoahdkfbeaaDoor.Cop.run_sizeOf size8 w
  have e1 : (l : Int) ≤ (h' : Int) := by omega
  have e2 : (h' : Int) ≤ (cap : Int) := by omega
  have e3 : h' ≤ cap := by omega
  have e4 : ¬ cap < h' := by omega
  have e5 : ¬ h' < l := by omega
  rcases hlo with ⟨hlo, rfl⟩ | ⟨k, hlo⟩ <;> rcases hhi with ⟨hhi, rfl⟩ | ⟨k', hhi⟩ <;> rw [hlo, hhi] <;>
    simp [Instr.sliceAt, run_underlying Tryd.underlying48, Instr.slice, Instr.sliceBounds, Instr.sliceBound, asIntOf, hsz, e1, e2, e3, h1, e4, e5]
section
variable {ops : Array Oper} {rest : List Oper} {o : Oper} {a : Act} {Q : Exit → Act → World → Prop} {w : World}
/-- A cut; the part reads in whatever world the whole reads in. -/
theorem wp_cutAll (hg : Region.wanted o (yielded ops a.tmps) = true) (x : Operand) (lo hi : Option Operand) (ho : o.op = .slice 48 x lo hi none)
    {v : Value} {bs : List UInt8} (hr : Rd w v bs) (hx : a.eval x = v) (l h' : Nat)
    (hlo : lo.map a.eval = none ∧ l = 0 ∨ ∃ k, lo.map a.eval = some (.int k (l : Int))) (hhi : hi.map a.eval = none ∧ h' = bs.length ∨ ∃ k, hi.map a.eval = some (.int k (h' : Int)))
    (h1 : l ≤ h') (h2 : h' ≤ bs.length)
    (h : ∀ v', (∀ W, Rd W v bs → Rd W v' ((bs.drop l).take (h' - l))) → wpList Tryd.prog ops Q rest (a.put o.dst v') w) : wpList Tryd.prog ops Q (o :: rest) a w := by
  obtain ⟨ao, cap, rfl, hr2⟩ := Row.open hr
  have hnc : bs.length ≤ cap := by obtain ⟨_, _, e, q, _⟩ := hr2; injection e with _ _ e3; omega
  have hrun := run_cutB (w := w) (ao := ao) hnc (lo.map a.eval) (hi.map a.eval) l h' hlo hhi h1 h2
  refine wp_run hg (v := .slice (if cap = l then ao else ao.map (·.add l)) (h' - l) (cap - l)) (w' := w) ?_ (h _ (fun W hW => rd_cut hW l h' h1 h2))
  unfold execOp
  simp [ho, hx, hrun, Result.andThen]
end
section
variable {ops : Array Oper} {rest : List Oper} {o : Oper} {a : Act} {Q : Exit → Act → World → Prop} {w : World}
theorem wp_getB' {o2 : Oper} {rest2 : List Oper} (hg : Region.wanted o (yielded ops a.tmps) = true) (hg2 : ∀ p, Region.wanted o2 (yielded ops (a.put o.dst p).tmps) = true) (x i : Operand) (d : Tmp)
    (ho : o.op = .indexAddr 48 x i) (hd : o.dst = some d) (ho2 : o2.op = .load 5 (.tmp d)) {v : Value} {bs : List UInt8} (hr : Rd w v bs) (hx : a.eval x = v) {k : IntKind} {iv : Int} (hi : a.eval i = .int k iv)
    (hd2 : ∀ p, (a.put (some d) p).eval (.tmp d) = p) (j : Nat) (hj : iv = (j : Int)) (hlt : j < bs.length) {y : UInt8} (hy : bs[j] = y)
    (h : ∀ p, wpList Tryd.prog ops Q rest2 ((a.put (some d) p).put o2.dst (u8c y)) w) : wpList Tryd.prog ops Q (o :: o2 :: rest2) a w := by
  subst hy
  exact wp_getB hg hg2 x i d ho hd ho2 hr hx hi hd2 j hj hlt h
end
theorem rd_step {w wr w8 w9 : World} {v : Value} {bs : List UInt8} {g : Nat} (h : Rd w v bs) (hb : Below w.heap.size w wr) (hb8 : Below wr.heap.size wr w8) (hg : w8.grownBy w9 (some g)) (hgw : w.heap.size ≤ g) (hw : w.heap.size ≤ wr.heap.size) : Rd w9 v bs :=
  h.below ((hb.trans (hb8.mono hw)).grown hg (by have := hb8.size; omega) (fun r e => by injection e with e; omega))
/-- A block's cells while they are laid. -/
def filled (bs : List UInt8) (i : Nat) : List UInt8 := bs.take i ++ List.replicate (64 - i) 0
theorem filled_len (bs : List UInt8) (i : Nat) (h : 64 ≤ bs.length) (hi : i ≤ 64) : (filled bs i).length = 64 := by
  unfold filled
  rw [List.length_append, List.length_take, List.length_replicate]
  omega
theorem filled_set (bs : List UInt8) (i : Nat) (h : 64 ≤ bs.length) (hi : i < 64) : (bcs (filled bs i)).set i (u8c (bs[i]'(by omega))) = bcs (filled bs (i + 1)) := by
  unfold filled bcs
  rw [← List.map_set]
  congr 1
  have hl : (bs.take i).length = i := by rw [List.length_take]; omega
  rw [List.set_append_right _ _ (by omega), hl, Nat.sub_self]
  obtain ⟨r, hr⟩ : ∃ r, 64 - i = r + 1 := ⟨63 - i, by omega⟩
  have e2 : 64 - (i + 1) = r := by omega
  rw [hr, e2, List.replicate_succ, List.set_cons_zero, take_snoc bs i (by omega), List.append_assoc]
  rfl
theorem zeroB64 (w : World) : (zeroValue 305).run Tryd.prog w = .ok (dg (List.replicate 64 0)) w := by kernel_rfl
/-- Between the blocks. -/
def ORel (B H R : Nat) (fin : List Int) (w : World) (v : Value) (bs : List UInt8) (s : List Int) (wr : World) : Prop :=
  Rd w v bs ∧ Hid (over s bs = fin) ∧ s.length = 8 ∧ Blk wr H 253 (wcs s) ∧ Blk wr R 253 (wcs [0, 0, 0, 0, 0, 0, 0, 0]) ∧ Below B w wr ∧ B ≤ H ∧ B ≤ R ∧ H ≠ R
set_option maxRecDepth 100000 in
set_option maxHeartbeats 2000000 in
theorem rover_calls (iw : List Int) (v : Value) (bs : List UInt8) (w : World) (hh : iw.length = 8) (hv : Rd w v bs) : Calls Tryd.prog 232 #[wagg iw, v] w fun e w' => e = .returned (wagg (over iw bs)) ∧ Below w.heap.size w w' := by
  obtain ⟨fin, hfin⟩ : ∃ f, over iw bs = f := ⟨_, rfl⟩
  have hfl : (wcs fin).length = 8 := by
    rw [← hfin, wcs_len]
    have : ∀ (n : Nat) (h : List Int) (b : List UInt8), b.length ≤ n → h.length = 8 → (over h b).length = 8 := by
      intro n
      induction n with
      | zero => intro h b hn hh; rw [over_lt h b (by omega)]; exact hh
      | succ n ih =>
        intro h b hn hh
        by_cases hb : b.length < 64
        · rw [over_lt h b hb]; exact hh
        · rw [over_ge h b (by omega)]
          exact ih _ _ (by rw [List.length_drop]; omega) (comp_len h _ hh)
    exact this _ _ _ (Nat.le_refl _) hh
  rw [hfin]
  have HF := Lib.hid hfin
  have HFL := Lib.hid hfl
  have HH := Lib.hid hh
  obtain ⟨B, hB⟩ : ∃ B, w.heap.size = B := ⟨_, rfl⟩
  have HB := Lib.hid hB
  obtain ⟨va, vc, rfl, hv2⟩ := Row.open hv
  clear hfin hfl hh hB
  go_enter Tryd.func232, Tryd.ntmps232
  go_wp2_with (first | (((with_reducible refine gate_dst (N := 2) rfl ?_); go_loud (refine wp_box rfl _ _ rfl (v := wagg iw) rfl ?_); intro w1 hk1 hb1 hz1)) | (((with_reducible refine gate_dst (N := 4) rfl ?_); go_loud (refine wp_alloc rfl _ rfl zeroW8 ?_); intro w2 hk2 hb2 hz2)))
  go_frame
  have hrel0 : ORel w.heap.size w.heap.size w1.heap.size fin w (.slice va bs.length vc) bs iw w2 := ⟨hv, HF, HH.out, (show Blk w1 w.heap.size 253 (wcs iw) from hk1).below hb2, hk2, hb1.trans (hb2.mono (by omega)), by omega, by omega, by omega⟩
  obtain ⟨R, hR⟩ : ∃ R, w1.heap.size = R := ⟨_, rfl⟩
  rw [HB.out, hR] at hrel0
  rw [HB.out, hR]
  clear hk1 hb1 hz1 hk2 hb2 hz2 hR
  go_loopw [1] (fun u wr => ∃ b s, ORel B B R fin w u b s wr) (fun u _ => lenOf u)
  case atStart => exact ⟨_, _, hrel0⟩
  case round =>
    clear hrel0 hv hv2
    obtain ⟨b, s, hrd, HO, hs, hkH, hkR, hbel, hBH, hBR, hHR⟩ := hrel
    obtain ⟨w0, hw0⟩ : ∃ w0 : World, w0 = wr := ⟨_, rfl⟩
    subst hw0
    obtain ⟨ua, uc, rfl, hrd2⟩ := Row.open hrd
    have hrd0 : Rd w0 (.slice ua b.length uc) b := hrd.below (by rw [HB.out]; exact hbel)
    have hsz : (wcs s).length = 8 := by rw [wcs_len]; exact hs
    have HSZ := Lib.hid hsz
    have HS := Lib.hid hs
    clear hsz hs
    by_cases hlt : 64 ≤ b.length
    · have d1 : decide ((64 : Int) ≤ (b.length : Int)) = true := decide_eq_true (by omega)
      have d1' : decide (64 ≤ b.length) = true := decide_eq_true hlt
      go_wp2_with (first | ((with_reducible refine gate_dst (N := 8) rfl ?_); go_loud (refine wp_lenB rfl _ rfl hrd0 rfl ?_)) | (((with_reducible refine gate_dst (N := 5) rfl ?_); go_loud (refine wp_alloc rfl _ rfl zeroB64 ?_); intro w2 hk2 hb2 hz2)))
      obtain ⟨G, hG⟩ : ∃ G, w0.heap.size = G := ⟨_, rfl⟩
      have hk2' : Blk w2 G 305 (bcs (filled b 0)) := by rw [← hG]; exact hk2
      have hbel2 : Below B w w2 := hbel.trans (hb2.mono (by have := hkH.lt; omega))
      have hGB : B < G := by have := hkH.lt; omega
      have hGR : R < G := by have := hkR.lt; omega
      have hkH2 := hkH.below hb2
      have hkR2 := hkR.below hb2
      have HREL := Lib.hid (show Below B w w2 ∧ Blk w2 B 253 (wcs s) ∧ Blk w2 R 253 (wcs [0, 0, 0, 0, 0, 0, 0, 0]) from ⟨hbel2, hkH2, hkR2⟩)
      rw [hG]
      clear hk2 hb2 hz2 hG hkH hkR hkH2 hkR2 hbel hrd0 hbel2
      go_loopw [6] (fun i wr => ∃ j : Nat, j ≤ 64 ∧ i = .int .i64 (j : Int) ∧ Blk wr G 305 (bcs (filled b j)) ∧ Below B w wr ∧ Blk wr B 253 (wcs s) ∧ Blk wr R 253 (wcs [0, 0, 0, 0, 0, 0, 0, 0])) (fun i _ => 64 - (intOf i).toNat)
      case atStart => exact ⟨0, by omega, rfl, hk2', HREL.out⟩
      case round =>
        clear hk2'
        obtain ⟨j, hj, rfl, hkG, hbel, hkH, hkR⟩ := hrel
        by_cases hlj : j < 64
        · have d2 : decide ((j : Int) < 64) = true := decide_eq_true (by omega)
          have i1 : (j : Int) < 64 := by omega
          have hrd3 : Rd wr (.slice ua b.length uc) b := hrd.below (by rw [HB.out]; exact hbel)
          have hset := filled_set b j hlt hlj
          have hjb : j < b.length := by omega
          obtain ⟨x, hx⟩ : ∃ x, b[j] = x := ⟨_, rfl⟩
          rw [hx] at hset
          have HX := Lib.hid hx
          have HSET := Lib.hid hset
          have hfl2 : (bcs (filled b j)).length = 64 := by rw [bcs_length]; exact filled_len b j hlt hj
          have HFL2 := Lib.hid hfl2
          clear hset hx hfl2
          go_wp2_with (first | ((with_reducible refine gate_dst (N := 17) rfl ?_); go_loud (refine wp_getB' rfl (fun _ => rfl) _ _ 17 rfl rfl rfl hrd3 rfl rfl (fun _ => rfl) j rfl hjb HX.out ?_); intro _) | ((with_reducible refine gate_store (t := 5) (p := 19) rfl ?_); go_loud (refine wp_store_cell rfl 5 _ _ rfl rfl size8 rfl hkG (i := j) (by rw [HFL2.out]; exact hlj) (v := u8c x) rfl rfl rfl ?_); intro w9 hk9 hg9))
          rw [HSET.out] at hk9
          have hkH9 := hkH.grown hg9 (by simp; omega)
          have hkR9 := hkR.grown hg9 (by simp; omega)
          have hbel9 := hbel.grown hg9 (by have := hkG.lt; omega) (fun r e => by injection e with e; omega)
          clear hkG hkH hkR hbel hg9 hrd3
          go_roundw
          case rel => exact ⟨j + 1, by omega, by first | rfl | go_num, hk9, hbel9, hkH9, hkR9⟩
          case measure => simp [intOf]; omega
        · have d2 : decide ((j : Int) < 64) = false := decide_eq_false (by omega)
          have hj64 : j = 64 := by omega
          have hblk : bcs (filled b j) = bcs (b.take 64) := by rw [hj64]; simp [filled]
          rw [hblk] at hkG
          have hl64 : (b.take 64).length = 64 := by rw [List.length_take]; omega
          have hb64 : (bcs (b.take 64)).length = 64 := by rw [bcs_length]; exact hl64
          have HL64 := Lib.hid hl64
          have HB64 := Lib.hid hb64
          have hov := over_ge s b hlt
          have hnew : over (comp s (b.take 64)) (b.drop 64) = fin := by rw [← hov]; exact HO.out
          have hcl := comp_len s (b.take 64) HS.out
          obtain ⟨s', hs'⟩ : ∃ s', comp s (b.take 64) = s' := ⟨_, rfl⟩
          have hcomp := fun w => rcomp_calls s (b.take 64) w HS.out hl64
          unfold CompRet at hcomp
          rw [hs'] at hnew hcl hcomp
          have HNEW := Lib.hid hnew
          have HCL := Lib.hid hcl
          have HCOMP := Lib.hid hcomp
          have hrd3 : Rd wr (.slice ua b.length uc) b := hrd.below (by rw [HB.out]; exact hbel)
          clear hj64 hblk hl64 hb64 hov hnew hcl hs' hcomp
          obtain ⟨tk, htk⟩ : ∃ tk, b.take 64 = tk := ⟨_, rfl⟩
          rw [htk] at HL64 HB64 HCOMP hkG
          go_wp2_with (first | ((with_reducible refine gate_dst (N := 20) rfl ?_); go_loud (refine wp_load_blk rfl 253 _ rfl aggW8 sizeW8 rfl hkH (HSZ.out) ?_)) | ((with_reducible refine gate_dst (N := 21) rfl ?_); go_loud (refine wp_load_blk rfl 305 _ rfl aggB64 sizeB64 rfl hkG (HB64.out) ?_)) | (go_at_call 248; go_loud (refine (HCOMP.out _).mono ?_); rintro e w8 ⟨rfl, hb8⟩; have hkH8 := hkH.below hb8) | (((with_reducible refine gate_store (t := 253) (p := 2) rfl ?_); go_loud (refine wp_store_blk rfl 253 _ _ rfl rfl sizeW8 rfl hkH8 (HSZ.out) (v := wagg s') rfl ((by have := HCL.out; simpa [Value.cells, wcs] using this)) ((by intro u hu; exact wcs_one s' u (by simpa [Value.cells] using hu))) ?_); intro w9 hk9 hg9); have hrd9 : Rd w9 (.slice ua b.length uc) b := rd_step hrd (by rw [HB.out]; exact hbel) hb8 hg9 (by rw [HB.out]; omega) (by rw [HB.out]; exact Nat.le_of_lt (Nat.lt_of_le_of_lt (Nat.le_refl _) hkH.lt))) | ((with_reducible refine gate_dst (N := 24) rfl ?_); go_loud (refine wp_cutAll rfl _ _ _ rfl hrd9 rfl 64 b.length (.inr ⟨.i64, rfl⟩) (.inl ⟨rfl, rfl⟩) hlt (Nat.le_refl _) ?_); intro v7 hv7))
          have hv8 := hv7 w hrd
          rw [List.take_of_length_le (by rw [List.length_drop]; omega)] at hv8
          have hb9 : Below B w w9 := (hbel.trans (hb8.mono (by have := hkH.lt; omega))).grown hg9 (by have := hkH.lt; have := hb8.size; omega) (fun r e => by injection e with e; omega)
          have hkR9 := (hkR.below hb8).grown hg9 (by simp; omega)
          have hlv : lenOf v7 = b.length - 64 := by
            obtain ⟨_, _, e, _⟩ := hv8
            rw [e]
            simp [lenOf]
          have HLV := Lib.hid hlv
          clear hlv hv7 hg9 hb8 hkH8 hrd9 hrd3 hkH hkR hkG hbel
          go_roundw
          case rel => exact ⟨b.drop 64, s', hv8, HNEW, HCL.out, hk9, hkR9, hb9, hBH, hBR, hHR⟩
          case measure => rw [HLV.out]; show b.length - 64 < b.length; omega
    · have d1 : decide ((64 : Int) ≤ (b.length : Int)) = false := decide_eq_false (by omega)
      have d1' : decide (64 ≤ b.length) = false := decide_eq_false hlt
      have hsf : s = fin := by rw [← HO.out, over_lt s b (by omega)]
      rw [hsf] at hkH
      clear hsf
      go_wp2_with (first | ((with_reducible refine gate_dst (N := 8) rfl ?_); go_loud (refine wp_lenB rfl _ rfl hrd0 rfl ?_)) | ((with_reducible refine gate_dst (N := 25) rfl ?_); go_loud (refine wp_load_blk rfl 253 _ rfl aggW8 sizeW8 rfl hkH (HFL.out) ?_)) | (((with_reducible refine gate_store (t := 253) (p := 4) rfl ?_); go_loud (refine wp_store_blk rfl 253 _ _ rfl rfl sizeW8 rfl hkR (rfl) (v := wagg fin) rfl ((by have := HFL.out; simpa [Value.cells] using this)) ((by intro u hu; exact wcs_one fin u (by simpa [Value.cells] using hu))) ?_); intro w9 hk9 hg9)))
      have hk10 : Blk w9 R 253 (wcs fin) := hk9
      have hb9 : Below w.heap.size w w9 := by
        rw [HB.out]
        have := hkR.lt
        exact hbel.grown hg9 (by omega) (fun r e => by injection e with e; omega)
      clear hk9 hg9 hkH hkR
      refine bodyPost_ret (results_blk1 (cs := wcs fin) rfl aggW8 sizeW8 _ rfl hk10 HFL.out) rfl ?_
      exact ⟨rfl, hb9⟩
end Go.Proofs.YtnecgoahdkfbeaaDoor.Sha
