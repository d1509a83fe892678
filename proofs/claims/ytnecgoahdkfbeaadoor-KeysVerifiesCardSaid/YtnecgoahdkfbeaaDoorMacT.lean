/- The program's state of a digest whose rest is empty: what taking bytes changes, and what it leaves alone. -/
import Derived.Test.YtnecgoahdkfbeaaDoorShaA
namespace Go.Proofs.YtnecgoahdkfbeaaDoor.Sha
open Go Go.RowKit Go.Proofs.YtnecgoahdkfbeaaDoor.Cop Go.Proofs.YtnecgoahdkfbeaaDoor.Oct
set_option linter.unusedVariables false
set_option linter.unusedSimpArgs false
attribute [local go_sem] min2_int'' min_two''
attribute [local go_sem ↓] ldW8 ldB64 stW8
/-- But for a state and its rest, all blocks stand as they stood. -/
structure Fg (g : Nat) (v : Value) (w W : World) : Prop where
  os : W.os = w.os
  tape : W.tape = w.tape
  output : W.output = w.output
  size : w.heap.size ≤ W.heap.size
  block : ∀ k, k < w.heap.size → k ≠ g → v.ownBlock ≠ some k → W.heap[k]? = w.heap[k]?
theorem Fg.refl (g : Nat) (v : Value) (w : World) : Fg g v w w := ⟨rfl, rfl, rfl, Nat.le_refl _, fun _ _ _ _ => rfl⟩
theorem Fg.below {g : Nat} {v : Value} {w W W' : World} (h : Fg g v w W) (hb : Below W.heap.size W W') : Fg g v w W' := ⟨hb.os.trans h.os, hb.tape.trans h.tape, hb.output.trans h.output, Nat.le_trans h.size hb.size, fun k hk h1 h2 => (hb.block k (by have := h.size; omega)).trans (h.block k hk h1 h2)⟩
theorem Fg.at_ {g : Nat} {v : Value} {w W W' : World} (h : Fg g v w W) (hb : W.grownBy W' (some g)) : Fg g v w W' := ⟨hb.os.trans h.os, hb.tape.trans h.tape, hb.output.trans h.output, Nat.le_trans h.size hb.size, fun k hk h1 h2 => (hb.block k (by have := h.size; omega) (fun e => h1 (Option.some.inj e))).trans (h.block k hk h1 h2)⟩
theorem Fg.own {g : Nat} {v : Value} {w W W' : World} (h : Fg g v w W) (hb : W.grownBy W' v.ownBlock) : Fg g v w W' := ⟨hb.os.trans h.os, hb.tape.trans h.tape, hb.output.trans h.output, Nat.le_trans h.size hb.size, fun k hk h1 h2 => (hb.block k (by have := h.size; omega) (fun e => h2 e.symm)).trans (h.block k hk h1 h2)⟩
def TRel1 (B g : Nat) (n : Int) (vb : Value) (b : List UInt8) (fin : List Int) (ftl : List UInt8) (v : Value) (w : World) (u : Value) (b' : List UInt8) (s : List Int) (wr : World) : Prop :=
  (∀ W, Rd W vb b → Rd W u b') ∧ Rd wr vb b ∧ Hid (over s b' = fin) ∧ Hid (tail b' = ftl) ∧ s.length = 8 ∧ Blk wr g 283 (stc s n v) ∧ Own B wr v [] ∧ Below B w wr ∧ v.ownBlock ≠ some g ∧ Fg g v w wr
theorem trel1_next {B g : Nat} {n : Int} {vb u u' : Value} {b b' : List UInt8} {fin s : List Int} {ftl : List UInt8} {v : Value} {w wr w8 w9 : World} (h : TRel1 B g n vb b fin ftl v w u b' s wr) (h64 : 64 ≤ b'.length)
    (hb8 : Below wr.heap.size wr w8) (hk9 : Blk w9 g 283 ((stc s n v).take 1 ++ (wagg (comp s (b'.take 64))).cells.toList ++ (stc s n v).drop (1 + 8))) (hg9 : w8.grownBy w9 (some g)) (hgB : B ≤ g) (hwB : B ≤ wr.heap.size)
    (hap : ∀ ad n c, vb = .slice (some ad) n c → ad.block ≠ g) (hu : ∀ W, Rd W u b' → Rd W u' ((b'.drop 64).take (b'.length - 64))) :
    TRel1 B g n vb b fin ftl v w u' (b'.drop 64) (comp s (b'.take 64)) w9 := by
  obtain ⟨h1, h2, h3, h4, h5, h6, h7, h10, h11, h12⟩ := h
  have hc := comp_len s (b'.take 64) h5
  rw [stc_seth s _ n v h5 hc] at hk9
  have hdt : (b'.drop 64).take (b'.length - 64) = b'.drop 64 := List.take_of_length_le (by rw [List.length_drop]; exact Nat.le_refl _)
  rw [hdt] at hu
  have hs8 := hb8.size
  have hown8 : Own B w8 v [] := h7.below hb8
  refine ⟨fun W hW => hu W (h1 W hW), rd_grown (h2.below hb8) hg9 (fun ad n c e => by have := hap ad n c e; simpa using this), Lib.hid ?_, Lib.hid ?_, hc, hk9, hown8.kept hg9 (.inr h11), (h10.trans (hb8.mono hwB)).grown hg9 (by omega) (fun r e => by injection e with e; omega), h11, (h12.below hb8).at_ hg9⟩
  · rw [← h3.out, over_ge s b' h64]
  · rw [← h4.out, tail_ge b' h64]
set_option maxRecDepth 100000 in
set_option maxHeartbeats 8000000 in
theorem take1_calls (B g : Nat) (h : List Int) (n : Int) (v vb : Value) (b : List UInt8) (w : World) (hh : h.length = 8) (hk : Blk w g 283 (stc h n v)) (hown : Own B w v [])
    (hb : Rd w vb b) (hbl : b.length ≤ 140737488355200) (hB : B ≤ g) (hK : Kon w) (h5 : 7 < B) (hgv : v.ownBlock ≠ some g) (hap : ∀ ad n c, vb = .slice (some ad) n c → ad.block ≠ g) :
    Calls Tryd.prog 225 #[.pointer (some ⟨g, 0, none⟩), vb] w fun e w' => ∃ v1, e = .returned (.tuple #[]) ∧ Blk w' g 283 (stc (over h b) n v1) ∧ Own B w' v1 (tail b) ∧ Below B w w' ∧ v1.ownBlock ≠ some g ∧ Fg g v w w' := by
  obtain ⟨fin, hfin⟩ : ∃ f, over h b = f := ⟨_, rfl⟩
  obtain ⟨ftl, hftl⟩ : ∃ f, tail b = f := ⟨_, rfl⟩
  rw [hfin, hftl]
  have hgw := hk.lt
  have HAP := Lib.hid hap
  have HK := Lib.hid hK
  have hrel0 : TRel1 B g n vb b fin ftl v w vb b h w := ⟨fun W hW => hW, hb, Lib.hid hfin, Lib.hid hftl, hh, hk, hown, Below.refl _ _, hgv, Fg.refl _ _ _⟩
  have hrd := hown.rd
  obtain ⟨va, vc, rfl, hrd2⟩ := Row.open hrd
  have c10 : w.cell? ⟨g, 10, none⟩ = some (.slice va ([] : List UInt8).length vc) := by rw [hk.cell]; exact stc_rest h n _ hh
  obtain ⟨vba, vbc, rfl, _⟩ := Row.open hb
  clear hfin hftl hown hh hk hb hap hK hrd hrd2
  go_enter Tryd.func225, Tryd.ntmps225
  go_wp2_with (((with_reducible refine gate_dst (N := 9) rfl ?_); go_loud (refine wp_lenB rfl _ rfl (by exact hrd) rfl ?_)))
  go_loopw [1] (fun u wr => ∃ b' s, TRel1 B g n (.slice vba b.length vbc) b fin ftl (.slice va ([] : List UInt8).length vc) w u b' s wr) (fun u _ => lenOf u)
  case atStart => exact ⟨_, _, hrel0⟩
  case round =>
    clear hrel0
    obtain ⟨b', s, hT⟩ := hrel
    have hT2 := Lib.hid hT
    obtain ⟨h1, h2, h3, h4, hs, hkS, hown, hbel, _, hfg⟩ := hT
    have HFG := Lib.hid hfg
    obtain ⟨v1, hv1⟩ : ∃ v1, Value.slice va ([] : List UInt8).length vc = v1 := ⟨_, rfl⟩
    rw [hv1] at hkS hown
    have HV1 := Lib.hid hv1
    have hgv1 : v1.ownBlock ≠ some g := hv1 ▸ hgv
    have hrd := h1 wr h2
    have HOWN := Lib.hid hown
    have HS := Lib.hid hs
    have HC := Lib.hid (stc_h s n v1 hs hkS)
    have HKW := Lib.hid (HK.out.base hbel h5)
    have H1 := Lib.hid h1
    have H2 := Lib.hid h2
    have c10 : wr.cell? ⟨g, 10, none⟩ = some v1 := by rw [hkS.cell]; exact stc_rest s n v1 hs
    have hwl : (wcs s).length = 8 := by rw [wcs_len]; exact hs
    have HWL := Lib.hid hwl
    have hgs := hkS.lt
    have HKS := Lib.hid hkS
    obtain ⟨ua, uc, rfl, _⟩ := Row.open hrd
    clear h1 h2 hs hwl hown hkS hfg hv1
    by_cases hlt : 64 ≤ b'.length
    · have d1 : decide ((64 : Int) ≤ (b'.length : Int)) = true := decide_eq_true (by omega)
      have d1' : decide (64 ≤ b'.length) = true := decide_eq_true hlt
      obtain ⟨ad, cap, he, hcl⟩ := Row.at hrd (sz := 1) (by rw [bcs_length, Nat.mul_one]) (by decide) (i := 0) (by omega)
      injection he with he1 _ he2
      subst he1 he2
      obtain ⟨tk, htk⟩ : ∃ tk, b'.take 64 = tk := ⟨_, rfl⟩
      have htl : tk.length = 64 := by rw [← htk, List.length_take]; omega
      have hcl2 : ∀ j u, (bcs tk)[j]? = some u → wr.cell? (ad.add j) = some u := by
        intro j u hu
        refine hcl j u ?_
        rw [← htk] at hu
        unfold bcs at hu ⊢
        rw [List.map_take, List.getElem?_take] at hu
        split at hu
        · exact hu
        · cases hu
      have HCL := Lib.hid hcl2
      have HTK := Lib.hid htk
      have HTL := Lib.hid htl
      have hbt : (bcs tk).length = 64 := by rw [bcs_length]; exact htl
      have HBT := Lib.hid hbt
      have hcomp := fun w hK => comp_calls s tk w HS.out htl hK
      have HCOMP := Lib.hid hcomp
      have hcsz : (wagg (comp s tk)).cells.size = 8 := by have := comp_len s tk HS.out; simpa [Value.cells, wcs] using this
      have HCSZ := Lib.hid hcsz
      have hone : ∀ u ∈ (wagg (comp s tk)).cells.toList, u.oneCell' = true := by intro u hu; exact wcs_one _ u (by simpa [Value.cells] using hu)
      have HONE := Lib.hid hone
      clear hcl hcl2 htk htl hbt hcomp hcsz hone
      have a1 : isAt wr.drew (.pointer (some ⟨g, 1, none⟩)) 8 = true := isAt_of (w := wr.drew) HC.out HWL.out
      have a2 : atV wr.drew (.pointer (some ⟨g, 1, none⟩)) 8 = wcs s := atV_of (w := wr.drew) HC.out HWL.out
      have a3 : isAt wr.drew (.pointer (some ad)) 64 = true := isAt_of (w := wr.drew) HCL.out HBT.out
      have a4 : atV wr.drew (.pointer (some ad)) 64 = bcs tk := atV_of (w := wr.drew) HCL.out HBT.out
      have a7 : (Instr.arrayAt 305 (.slice (some ad) b'.length uc)).run Tryd.prog wr.drew = .ok (.pointer (some ad)) wr.drew := by
        have e1 : ¬ b'.length < 64 := by omega
        simp [Instr.arrayAt, run_underlying Tryd.underlying305, e1]
      go_wp2_with fail
      go_region_law (go_simp; go_at_call 246; go_loud (refine (HCOMP.out _ (by exact HKW.out)).mono ?_); rintro e w8 ⟨rfl, hb8⟩; have hb9 : Below wr.heap.size wr w8 := ⟨hb8.1, hb8.2, hb8.3, hb8.4, hb8.5⟩; have hk8 : Blk w8 g 283 (stc s n v1) := Blk.below (w := wr.drew) (by exact HKS.out) hb8; have a5 : okPut w8 (.pointer (some ⟨g, 1, none⟩)) (wagg (comp s tk)) 8 = true := okPut_of hk8 HCSZ.out HONE.out (by rw [stc_len _ _ _ HS.out]; omega))
      all_goals
        obtain ⟨hk9, hg9⟩ := putAt_of (o := 1) hk8 HCSZ.out
        have a6 : putAt w8 (.pointer (some ⟨g, 1, none⟩)) (.agg (wcs (comp s tk)).toArray) = putAt w8 (.pointer (some ⟨g, 1, none⟩)) (wagg (comp s tk)) := rfl
        generalize putAt w8 (.pointer (some ⟨g, 1, none⟩)) (wagg (comp s tk)) = w9 at hk9 hg9 a6 ⊢
        clear a1 a2 a3 a4 a5 a6 a7
        have hrd9 : Rd w9 (.slice (some ad) b'.length uc) b' := by
          refine H1.out w9 (rd_grown (Rd.below (w := wr) H2.out hb9) hg9 (fun ad n c e => ?_))
          have := HAP.out ad n c e
          simpa using this
        go_wp2_with ((with_reducible refine gate_dst (N := 77) rfl ?_); go_loud (refine wp_cutAll rfl _ _ _ rfl hrd9 rfl 64 b'.length (.inr ⟨.i64, rfl⟩) (.inl ⟨rfl, rfl⟩) hlt (Nat.le_refl _) ?_); intro v7 hv7)
        have hgr : 64 ≤ b'.length := hlt
        have hnx := trel1_next hT2.out hgr (w8 := w8) hb9 (by rw [HTK.out, HV1.out]; exact hk9) hg9 hB (by omega) (fun ad n c e => HAP.out ad n c e) hv7
        have hlv : lenOf v7 = b'.length - 64 := by
          obtain ⟨_, _, e, _⟩ := hv7 w9 hrd9
          rw [e]
          simp [lenOf]
        have HLV := Lib.hid hlv
        clear hlv hv7 hrd9 hk9 hg9 hb8 hb9 hk8 hT2 c10
        go_roundw
        case rel => exact ⟨_, _, hnx⟩
        case measure => rw [HLV.out]; show b'.length - 64 < b'.length; omega
    · have d1 : decide ((64 : Int) ≤ (b'.length : Int)) = false := decide_eq_false (by omega)
      have d1' : decide (64 ≤ b'.length) = false := decide_eq_false hlt
      have hshort : b'.length < 64 := by omega
      have hlq : ([] : List UInt8).length + b'.length < 64 := by simpa using hshort
      have hsf : s = fin := by rw [← h3.out, over_lt s _ hshort]
      have htf : b' = ftl := by rw [← h4.out, tail_lt _ hshort]
      have HSF := Lib.hid hsf
      have HTF := Lib.hid htf
      have h10 : 10 < (stc s n v1).length := by rw [stc_len _ _ _ HS.out]; omega
      have H10 := Lib.hid h10
      have hgB2 : B ≤ wr.heap.size := by omega
      obtain ⟨m, hm⟩ : ∃ m, ([] ++ b').length = m := ⟨_, rfl⟩
      have HM := Lib.hid hm
      clear hsf htf hshort h3 h4 h10 hm
      go_wp2_with (first | (((with_reducible refine gate_dst (N := 84) rfl ?_); go_loud (refine wp_appB rfl (.tmp 82) (.tmp 83) rfl HOWN.out rfl hrd rfl (by omega) (by omega) ?_); intro v' w3 hown3 hgrow3); obtain ⟨va3, vc3, rfl, _⟩ := Row.open hown3.rd; rw [HM.out] at hown3 ⊢; have hk3 : Blk w3 g 283 (stc s n v1) := HKS.out.grown hgrow3 (fun e => hgv1 e.symm)) | ((with_reducible refine gate_store (t := 48) (p := 86) rfl ?_); go_loud (refine wp_store_cell rfl 48 _ _ rfl rfl sizeBy rfl hk3 (i := 10) H10.out (v := .slice va3 m vc3) rfl rfl rfl ?_); intro w9 hk9 hg9))
      have hgv3 : (Value.slice va3 m vc3).ownBlock ≠ some g := by
        intro e
        rcases hown3.2 with ⟨e2, _⟩ | ⟨gg, cap, cur, e2, _, h6, _⟩
        · injection e2 with e3
          subst e3
          cases e
        · injection e2 with e3
          subst e3
          injection e with e
          simp only at e
          subst e
          rw [show w3.heap[gg]? = _ from hk3] at h6
          injection h6 with h6
          injection h6 with h7 h8
          exact absurd h8 (by decide)
      have hfin : Blk w9 g 283 (stc fin n (.slice va3 m vc3)) := by
        rw [← HSF.out]
        have := stc_set10 s n v1 (.slice va3 m vc3) HS.out
        rw [List.set_eq_take_append_cons_drop, if_pos H10.out] at hk9
        rw [← this]
        simpa using hk9
      have hown9 : Own B w9 (.slice va3 m vc3) ftl := by
        rw [← HTF.out]
        exact hown3.kept hg9 (.inr hgv3)
      have hs3 := hgrow3.size
      have hbel9 : Below B w w9 := (hbel.grown hgrow3 hgB2 (fun r e => (World.ownsRow.lt HOWN.out r e).1)).grown hg9 (by omega) (fun r e => by injection e with e; omega)
      have hfg9 := (HFG.out.own (HV1.out ▸ hgrow3)).at_ hg9
      go_end0
      exact ⟨_, rfl, hfin, hown9, hbel9, hgv3, hfg9⟩
set_option maxRecDepth 100000 in
set_option maxHeartbeats 1000000 in
theorem write1_calls (B g : Nat) (h : List Int) (n : Nat) (v vb : Value) (b : List UInt8) (w : World) (hh : h.length = 8) (hk : Blk w g 283 (stc h (n : Int) v)) (hown : Own B w v [])
    (hb : Rd w vb b) (hbl : b.length ≤ 140737488355200) (hB : B ≤ g) (hK : Kon w) (h5 : 7 < B) (hgv : v.ownBlock ≠ some g) (hap : ∀ ad n c, vb = .slice (some ad) n c → ad.block ≠ g) (hn : n ≤ 140737488355328) (hov : (over h b).length = 8) :
    Calls Tryd.prog 187 #[.pointer (some ⟨g, 0, none⟩), vb] w fun e w' => ∃ v1, e = .returned (.int .i64 0) ∧ Blk w' g 283 (stc (over h b) ((n + b.length : Nat) : Int) v1) ∧ Own B w' v1 (tail b) ∧ Below B w w' ∧ v1.ownBlock ≠ some g ∧ Fg g v w w' := by
  have htake := take1_calls B g h n v vb b w hh hk hown hb hbl hB hK h5 hgv hap
  have hnone := none_calls g h n v w hk
  have c9 : w.cell? ⟨g, 9, none⟩ = some (.int .i64 (n : Int)) := by rw [hk.cell]; exact stc_n h n v hh
  obtain ⟨fin, hfin⟩ : ∃ f, over h b = f := ⟨_, rfl⟩
  obtain ⟨ftl, hftl⟩ : ∃ f, tail b = f := ⟨_, rfl⟩
  rw [hfin] at hov
  rw [hfin, hftl] at htake ⊢
  have HTAKE := Lib.hid htake
  have HNONE := Lib.hid hnone
  have HOV := Lib.hid hov
  obtain ⟨vba, vbc, rfl, hrd⟩ := Row.open hb
  have e1 : (2305843009213693951 : Int) - (n : Int) = ((2305843009213693951 - n : Nat) : Int) := by omega
  have d1 : decide (((2305843009213693951 - n : Nat) : Int) < (b.length : Int)) = false := decide_eq_false (by omega)
  have d1' : decide (2305843009213693951 - n < b.length) = false := decide_eq_false (by omega)
  obtain ⟨q, hq⟩ : ∃ q, 2305843009213693951 - n = q := ⟨_, rfl⟩
  rw [hq] at e1 d1 d1'
  have hgw := hk.lt
  have hrd' : Rd w (.slice vba b.length vbc) b := hb
  clear htake hnone hov hfin hftl hh hk hown hgv hap hK hb hrd hq
  go_enter Tryd.func187, Tryd.ntmps187
  go_wp2_with (first | (go_at_call 224; go_loud (refine (HNONE.out).mono ?_); rintro e w1 ⟨rfl, rfl⟩) | (go_at_call 225; go_loud (refine (HTAKE.out).mono ?_); rintro e w2 ⟨v1, rfl, hk2, hown2, hbel2, hgv2, hfg2⟩; have c92 : w2.cell? ⟨g, 9, none⟩ = some (.int .i64 (n : Int)) := (hk2.cell 9).trans (stc_n fin n v1 HOV.out)) | ((with_reducible refine gate_store (t := 3) (p := 28) rfl ?_); go_loud (refine wp_store_cell rfl 3 _ _ rfl rfl sizeInt rfl hk2 (i := 9) (by rw [stc_len _ _ _ HOV.out]; omega) (v := .int .i64 ((n : Int) + (b.length : Int))) rfl rfl rfl ?_); intro w3 hk3 hg3))
  have hk4 : Blk w3 g 283 (stc fin ((n + b.length : Nat) : Int) v1) := by
    rw [stc_setn fin _ _ v1 HOV.out] at hk3
    rw [show ((n + b.length : Nat) : Int) = (n : Int) + (b.length : Int) from by omega]
    exact hk3
  have hown3 : Own B w3 v1 ftl := hown2.kept hg3 (.inr hgv2)
  have hbel3 : Below B w w3 := hbel2.grown hg3 (by have := hbel2.size; omega) (fun r e => by injection e with e; omega)
  go_ret
  exact ⟨v1, rfl, hk4, hown3, hbel3, hgv2, hfg2.at_ hg3⟩
end Go.Proofs.YtnecgoahdkfbeaaDoor.Sha
