/- The program's state of a digest: take's contract. -/
import Derived.Test.YtnecgoahdkfbeaaDoorShaY
namespace Go.Proofs.YtnecgoahdkfbeaaDoor.Sha
open Go Go.RowKit Go.Proofs.YtnecgoahdkfbeaaDoor.Cop Go.Proofs.YtnecgoahdkfbeaaDoor.Oct
set_option linter.unusedVariables false
set_option linter.unusedSimpArgs false
theorem min2_int'' (k k' : IntKind) (x y : Int) : Builtin.min2 (.int k x) (.int k' y) = pure (.int k (if y < x then y else x)) := by simp only [Builtin.min2]
theorem min_two'' (ats : Array TypeId) (ty : TypeId) (a b : Value) : Builtin.min_ ats ty #[a, b] = (Builtin.min2 a b >>= fun s => pure s) := by simp only [Builtin.min_, List.foldlM_cons, List.foldlM_nil]
attribute [local go_sem] min2_int'' min_two''
attribute [local go_sem ↓] ldW8 ldB64 stW8
/-- A block is taken in by the loop. -/
theorem trel_next {B g : Nat} {n : Int} {vb u u' : Value} {b b' q : List UInt8} {fin s : List Int} {ftl : List UInt8} {v1 : Value} {w wr w8 w9 : World} (h : TRel B g n vb b fin ftl w u b' q s v1 wr) (h64 : 64 ≤ b'.length)
    (hb8 : Below wr.heap.size wr w8) (hk9 : Blk w9 g 283 ((stc s n v1).take 1 ++ (wagg (comp s (b'.take 64))).cells.toList ++ (stc s n v1).drop (1 + 8))) (hg9 : w8.grownBy w9 (some g)) (hgB : B ≤ g) (hwB : B ≤ wr.heap.size)
    (hap : ∀ ad n c, vb = .slice (some ad) n c → ad.block ≠ g) (hu : ∀ W, Rd W u b' → Rd W u' ((b'.drop 64).take (b'.length - 64))) :
    TRel B g n vb b fin ftl w u' (b'.drop 64) [] (comp s (b'.take 64)) v1 w9 := by
  obtain ⟨h1, h2, h3, h4, h5, h6, h7, h8, h9, h10, h11⟩ := h
  have hq : q = [] := by
    rcases h9 with h | h
    · exact h
    · rw [h] at h64; simp at h64
  subst hq
  have hc := comp_len s (b'.take 64) h5
  rw [stc_seth s _ n v1 h5 hc] at hk9
  have hdt : (b'.drop 64).take (b'.length - 64) = b'.drop 64 := List.take_of_length_le (by rw [List.length_drop]; exact Nat.le_refl _)
  rw [hdt] at hu
  have hs8 := hb8.size
  have hown8 : Own B w8 v1 [] := h7.below hb8
  refine ⟨fun W hW => hu W (h1 W hW), rd_grown (h2.below hb8) hg9 (fun ad n c e => by have := hap ad n c e; simpa using this), Lib.hid ?_, Lib.hid ?_, hc, hk9, hown8.kept hg9 ?_, by simp, .inl rfl, (h10.trans (hb8.mono hwB)).grown hg9 (by omega) (fun r e => by injection e with e; omega), h11⟩
  · rw [← h3.out, List.nil_append, List.nil_append, over_ge s b' h64]
  · rw [← h4.out, List.nil_append, List.nil_append, tail_ge b' h64]
  · right
    exact h11
theorem setcell_blk {w : World} {g i : Nat} {t : TypeId} {cs : List Value} (hb : Blk w g t cs) (u : Value) : Blk (w.setCell ⟨g, i, none⟩ u) g t (cs.set i u) ∧ w.grownBy (w.setCell ⟨g, i, none⟩ u) (some g) := by
  refine ⟨?_, ⟨rfl, rfl, rfl, by simp [World.setCell], fun k _ hk => heap_setCell_other w ⟨g, i, none⟩ k u (fun e => hk (by simp [e]))⟩⟩
  have := heap_setCell_same w g i cs.toArray t u hb
  unfold Blk
  rw [this]
  simp
/-- What the first append leaves. -/
theorem take_head {B g k m : Nat} {h : List Int} {n : Int} {v vb v2 : Value} {rest b : List UInt8} {w w2 : World} (hh : h.length = 8) (hk : Blk w g 283 (stc h n v)) (hgv : v.ownBlock ≠ some g) (hown : Own B w v rest) (hb : Rd w vb b)
    (hap : ∀ ad n c, vb = .slice (some ad) n c → ad.block ≠ g ∧ v.ownBlock ≠ some ad.block) (hown2 : w2.ownsRow B 5 1 v2 m (bcs rest ++ bcs (b.take k))) (hg : w.grownBy w2 v.ownBlock) (hB : B ≤ g) (hBw : B ≤ w.heap.size) :
    ∃ W3, w2.setCell ⟨g, 10, none⟩ v2 = W3 ∧ Blk W3 g 283 (stc h n v2) ∧ Own B W3 v2 (rest ++ b.take k) ∧ Rd W3 vb b ∧ Below B w W3 ∧ v2.ownBlock ≠ some g := by
  have hk2 : Blk w2 g 283 (stc h n v) := hk.grown hg (fun e => hgv e.symm)
  obtain ⟨h1, h2⟩ := setcell_blk (i := 10) hk2 v2
  have hlen : 10 < (stc h n v).length := by rw [stc_len _ _ _ hh]; omega
  have hst : (stc h n v).set 10 v2 = stc h n v2 := by
    rw [← stc_set10 h n v v2 hh, List.set_eq_take_append_cons_drop, if_pos hlen]
    simp
  rw [hst] at h1
  have hm : m = (rest ++ b.take k).length := by
    have := hown2.1
    simp [bcs] at this
    rw [List.length_append, List.length_take]
    omega
  have hown3 : Own B w2 v2 (rest ++ b.take k) := by
    unfold Own
    rw [bcs_append, ← hm]
    exact hown2
  have hgv2 : v2.ownBlock ≠ some g := by
    intro e
    rcases hown3.2 with ⟨e2, _⟩ | ⟨gg, cap, cur, e2, _, h6, _⟩
    · subst e2; cases e
    · subst e2
      injection e with e
      simp only at e
      subst e
      rw [show w2.heap[gg]? = _ from hk2] at h6
      injection h6 with h6
      injection h6 with h7 h8
      exact absurd h8 (by decide)
  refine ⟨_, rfl, h1, hown3.kept h2 (.inr hgv2), ?_, ?_, hgv2⟩
  · refine rd_grown (rd_grown hb hg (fun ad n c e => fun e2 => (hap ad n c e).2 e2.symm)) h2 (fun ad n c e => ?_)
    have := (hap ad n c e).1
    simpa using this
  · have hs := hg.size
    exact ((Below.refl B w).grown hg hBw (fun r e => (World.ownsRow.lt hown r e).1)).grown h2 (by omega) (fun r e => by injection e with e; omega)
/-- Behind the block that the head fills. -/
theorem rel_i {B g k : Nat} {n : Int} {h : List Int} {v vb v7 v2 v4 : Value} {rest b tk ftl : List UInt8} {fin : List Int} {w W3 w8 w9 w10 : World} (hfin : over h (rest ++ b) = fin) (hftl : tail (rest ++ b) = ftl) (htk : rest ++ b.take k = tk) (hk : k = 64 - rest.length) (hkb : k ≤ b.length) (hr : rest.length < 64)
    (hcl : (comp h tk).length = 8) (hv7 : ∀ W, Rd W vb b → Rd W v7 ((b.drop k).take (b.length - k))) (hrdb : Rd W3 vb b) (hbel3 : Below B w W3) (hb9 : Below W3.heap.size W3 w8) (hg9 : w8.grownBy w9 (some g)) (hk9 : Blk w9 g 283 (stc (comp h tk) n v2))
    (hk10 : Blk w10 g 283 ((stc (comp h tk) n v2).set 10 v4)) (hg10 : w9.grownBy w10 (some g)) (h10 : 10 < (stc (comp h tk) n v2).length) (hown4 : Own B w9 v4 []) (hv4 : v4.ownBlock = v2.ownBlock) (hgv : v2.ownBlock ≠ some g) (hap : ∀ ad n c, vb = .slice (some ad) n c → ad.block ≠ g ∧ v.ownBlock ≠ some ad.block) (hB : B ≤ g) (hgs : g < W3.heap.size) :
    TRel B g n vb b fin ftl w v7 (b.drop k) [] (comp h tk) v4 w10 := by
  have hlen : 64 ≤ (rest ++ b).length := by rw [List.length_append]; omega
  have ht : (rest ++ b).take 64 = tk := by
    rw [← htk, List.take_append, List.take_of_length_le (by omega), hk]
  have hd : (rest ++ b).drop 64 = b.drop k := by
    rw [List.drop_append, List.drop_of_length_le (by omega), List.nil_append, hk]
  have hst : (stc (comp h tk) n v2).set 10 v4 = stc (comp h tk) n v4 := by
    rw [← stc_set10 (comp h tk) n v2 v4 hcl, List.set_eq_take_append_cons_drop, if_pos h10]
    simp
  rw [hst] at hk10
  have hdt : (b.drop k).take (b.length - k) = b.drop k := List.take_of_length_le (by rw [List.length_drop]; exact Nat.le_refl _)
  rw [hdt] at hv7
  have hne : ∀ ad n c, vb = .slice (some ad) n c → some ad.block ≠ some g := fun ad n c e => by
    have := (hap ad n c e).1
    simpa using this
  have hs8 := hb9.size
  have hs9 := hg9.size
  refine ⟨hv7, rd_grown (rd_grown (hrdb.below hb9) hg9 hne) hg10 hne, Lib.hid ?_, Lib.hid ?_, hcl, hk10, hown4.kept hg10 (.inr (by rw [hv4]; exact hgv)), by simp, .inl rfl, (((hbel3.trans (hb9.mono (by omega))).grown hg9 (by omega) (fun r e => by injection e with e; omega)).grown hg10 (by omega) (fun r e => by injection e with e; omega)), by rw [hv4]; exact hgv⟩
  · rw [List.nil_append, ← hfin, over_ge h _ hlen, ht, hd]
  · rw [List.nil_append, ← hftl, tail_ge _ hlen, hd]
/-- Where the bytes fill no block. -/
theorem rel_ii {B g k : Nat} {n : Int} {h : List Int} {vb v7 v2 : Value} {rest b ftl : List UInt8} {fin : List Int} {w W3 : World} (hfin : over h (rest ++ b) = fin) (hftl : tail (rest ++ b) = ftl) (hk : k = b.length) (hh : h.length = 8) (hlen : rest.length + b.length < 64)
    (hown3 : Own B W3 v2 (rest ++ b.take k)) (hv7 : ∀ W, Rd W vb b → Rd W v7 ((b.drop k).take (b.length - k))) (hrdb : Rd W3 vb b) (hbel3 : Below B w W3) (hk3 : Blk W3 g 283 (stc h n v2)) (hgv : v2.ownBlock ≠ some g) :
    TRel B g n vb b fin ftl w v7 [] (rest ++ b) h v2 W3 := by
  subst hk
  rw [List.take_length] at hown3
  rw [Nat.sub_self, List.take_zero] at hv7
  exact ⟨hv7, hrdb, Lib.hid (by rw [List.append_nil]; exact hfin), Lib.hid (by rw [List.append_nil]; exact hftl), hh, hk3, hown3, by rw [List.length_append]; exact hlen, .inr rfl, hbel3, hgv⟩
set_option maxRecDepth 100000 in
set_option maxHeartbeats 8000000 in
theorem take_calls (B g : Nat) (h : List Int) (n : Int) (v vb : Value) (rest b : List UInt8) (w : World) (hh : h.length = 8) (hk : Blk w g 283 (stc h n v)) (hown : Own B w v rest) (hr : rest.length < 64)
    (hb : Rd w vb b) (hbl : b.length ≤ 140737488355200) (hB : B ≤ g) (hK : Kon w) (h5 : 7 < B) (hgv : v.ownBlock ≠ some g) (hap : ∀ ad n c, vb = .slice (some ad) n c → ad.block ≠ g ∧ v.ownBlock ≠ some ad.block) :
    Calls Tryd.prog 225 #[.pointer (some ⟨g, 0, none⟩), vb] w (TakeRet B g n (over h (rest ++ b)) (tail (rest ++ b)) w) := by
  obtain ⟨fin, hfin⟩ : ∃ f, over h (rest ++ b) = f := ⟨_, rfl⟩
  obtain ⟨ftl, hftl⟩ : ∃ f, tail (rest ++ b) = f := ⟨_, rfl⟩
  rw [hfin, hftl]
  have hgw := hk.lt
  have HAP := Lib.hid hap
  have HK := Lib.hid hK
  have hrel0 : TRel B g n vb b fin ftl w vb b rest h v w → rest = [] → True := fun _ _ => trivial
  clear hrel0
  by_cases hr0 : rest = []
  · have hrel0 : TRel B g n vb b fin ftl w vb b [] h v w := ⟨fun W hW => hW, hb, Lib.hid (by rw [← hfin, hr0]), Lib.hid (by rw [← hftl, hr0]), hh, hk, by rw [← hr0]; exact hown, by simp, .inl rfl, Below.refl _ _, hgv⟩
    have hrd := hown.rd
    rw [hr0] at hrd
    obtain ⟨va, vc, rfl, hrd2⟩ := Row.open hrd
    have c10 : w.cell? ⟨g, 10, none⟩ = some (.slice va ([] : List UInt8).length vc) := by rw [hk.cell]; exact stc_rest h n _ hh
    obtain ⟨vba, vbc, rfl, _⟩ := Row.open hb
    clear hfin hftl hr0 hown hh hk hb hr hgv hap hK hrd hrd2
    go_enter Tryd.func225, Tryd.ntmps225
    go_wp2_with (((with_reducible refine gate_dst (N := 9) rfl ?_); go_loud (refine wp_lenB rfl _ rfl (by exact hrd) rfl ?_)))
    go_loopw [1] (fun u wr => ∃ b' q s v1, TRel B g n (.slice vba b.length vbc) b fin ftl w u b' q s v1 wr) (fun u _ => lenOf u)
    case atStart => exact ⟨_, _, _, _, hrel0⟩
    case round =>
      clear hrel0
      obtain ⟨b', q, s, v1, hT⟩ := hrel
      have hT2 := Lib.hid hT
      obtain ⟨h1, h2, h3, h4, hs, hkS, hown, hq, hqb, hbel, hgv⟩ := hT
      have hrd := h1 wr h2
      have HOWN := Lib.hid hown
      have HS := Lib.hid hs
      have HC := Lib.hid (stc_h s n v1 hs hkS)
      have HKW := Lib.hid (HK.out.base hbel h5)
      have H1 := Lib.hid h1
      have H2 := Lib.hid h2
      have c10 : wr.cell? ⟨g, 10, none⟩ = some v1 := by rw [hkS.cell]; exact stc_rest s n v1 hs
      have hwl : (wcs s).length = 8 := by rw [wcs_len]; exact hs
      have HWL := Lib.hid hwl
      have hgs := hkS.lt
      have HKS := Lib.hid hkS
      obtain ⟨ua, uc, rfl, _⟩ := Row.open hrd
      clear h1 h2 hs hwl hown hkS
      by_cases hlt : 64 ≤ b'.length
      · have d1 : decide ((64 : Int) ≤ (b'.length : Int)) = true := decide_eq_true (by omega)
        have d1' : decide (64 ≤ b'.length) = true := decide_eq_true hlt
        obtain ⟨ad, cap, he, hcl⟩ := Row.at hrd (sz := 1) (by rw [bcs_length, Nat.mul_one]) (by decide) (i := 0) (by omega)
        injection he with he1 _ he2
        subst he1 he2
        obtain ⟨tk, htk⟩ : ∃ tk, b'.take 64 = tk := ⟨_, rfl⟩
        have htl : tk.length = 64 := by rw [← htk, List.length_take]; omega
        have hcl2 : ∀ j u, (bcs tk)[j]? = some u → wr.cell? (ad.add j) = some u := by
          intro j u hu
          refine hcl j u ?_
          rw [← htk] at hu
          unfold bcs at hu ⊢
          rw [List.map_take, List.getElem?_take] at hu
          split at hu
          · exact hu
          · cases hu
        have HCL := Lib.hid hcl2
        have HTK := Lib.hid htk
        have HTL := Lib.hid htl
        have hbt : (bcs tk).length = 64 := by rw [bcs_length]; exact htl
        have HBT := Lib.hid hbt
        have hcomp := fun w hK => comp_calls s tk w HS.out htl hK
        have HCOMP := Lib.hid hcomp
        have hcsz : (wagg (comp s tk)).cells.size = 8 := by have := comp_len s tk HS.out; simpa [Value.cells, wcs] using this
        have HCSZ := Lib.hid hcsz
        have hone : ∀ u ∈ (wagg (comp s tk)).cells.toList, u.oneCell' = true := by intro u hu; exact wcs_one _ u (by simpa [Value.cells] using hu)
        have HONE := Lib.hid hone
        clear hcl hcl2 htk htl hbt hcomp hcsz hone
        have a1 : isAt wr.drew (.pointer (some ⟨g, 1, none⟩)) 8 = true := isAt_of (w := wr.drew) HC.out HWL.out
        have a2 : atV wr.drew (.pointer (some ⟨g, 1, none⟩)) 8 = wcs s := atV_of (w := wr.drew) HC.out HWL.out
        have a3 : isAt wr.drew (.pointer (some ad)) 64 = true := isAt_of (w := wr.drew) HCL.out HBT.out
        have a4 : atV wr.drew (.pointer (some ad)) 64 = bcs tk := atV_of (w := wr.drew) HCL.out HBT.out
        have a7 : (Instr.arrayAt 305 (.slice (some ad) b'.length uc)).run Tryd.prog wr.drew = .ok (.pointer (some ad)) wr.drew := by
          have e1 : ¬ b'.length < 64 := by omega
          simp [Instr.arrayAt, run_underlying Tryd.underlying305, e1]
        go_wp2_with fail
        go_region_law (go_simp; go_at_call 246; go_loud (refine (HCOMP.out _ (by exact HKW.out)).mono ?_); rintro e w8 ⟨rfl, hb8⟩; have hb9 : Below wr.heap.size wr w8 := ⟨hb8.1, hb8.2, hb8.3, hb8.4, hb8.5⟩; have hk8 : Blk w8 g 283 (stc s n v1) := Blk.below (w := wr.drew) (by exact HKS.out) hb8; have a5 : okPut w8 (.pointer (some ⟨g, 1, none⟩)) (wagg (comp s tk)) 8 = true := okPut_of hk8 HCSZ.out HONE.out (by rw [stc_len _ _ _ HS.out]; omega))
        all_goals
          obtain ⟨hk9, hg9⟩ := putAt_of (o := 1) hk8 HCSZ.out
          have a6 : putAt w8 (.pointer (some ⟨g, 1, none⟩)) (.agg (wcs (comp s tk)).toArray) = putAt w8 (.pointer (some ⟨g, 1, none⟩)) (wagg (comp s tk)) := rfl
          generalize putAt w8 (.pointer (some ⟨g, 1, none⟩)) (wagg (comp s tk)) = w9 at hk9 hg9 a6 ⊢
          clear a1 a2 a3 a4 a5 a6 a7
          have hrd9 : Rd w9 (.slice (some ad) b'.length uc) b' := by
            refine H1.out w9 (rd_grown (Rd.below (w := wr) H2.out hb9) hg9 (fun ad n c e => ?_))
            have := (HAP.out ad n c e).1
            simpa using this
          go_wp2_with ((with_reducible refine gate_dst (N := 77) rfl ?_); go_loud (refine wp_cutAll rfl _ _ _ rfl hrd9 rfl 64 b'.length (.inr ⟨.i64, rfl⟩) (.inl ⟨rfl, rfl⟩) hlt (Nat.le_refl _) ?_); intro v7 hv7)
          have hgr : 64 ≤ b'.length := hlt
          have hnx := trel_next hT2.out hgr (w8 := w8) hb9 (by rw [HTK.out]; exact hk9) hg9 hB (by omega) (fun ad n c e => (HAP.out ad n c e).1) hv7
          have hlv : lenOf v7 = b'.length - 64 := by
            obtain ⟨_, _, e, _⟩ := hv7 w9 hrd9
            rw [e]
            simp [lenOf]
          have HLV := Lib.hid hlv
          clear hlv hv7 hrd9 hk9 hg9 hb8 hb9 hk8 hT2 c10
          go_roundw
          case rel => exact ⟨_, _, _, _, hnx⟩
          case measure => rw [HLV.out]; show b'.length - 64 < b'.length; omega
      · have d1 : decide ((64 : Int) ≤ (b'.length : Int)) = false := decide_eq_false (by omega)
        have d1' : decide (64 ≤ b'.length) = false := decide_eq_false hlt
        have hshort : (q ++ b').length < 64 := by
          rw [List.length_append]
          rcases hqb with h | h
          · rw [h]; simp; omega
          · rw [h]; simp; omega
        have hsf : s = fin := by rw [← h3.out, over_lt s _ hshort]
        have htf : q ++ b' = ftl := by rw [← h4.out, tail_lt _ hshort]
        have hlq : q.length + b'.length < 64 := by rw [List.length_append] at hshort; exact hshort
        have HSF := Lib.hid hsf
        have HTF := Lib.hid htf
        have h10 : 10 < (stc s n v1).length := by rw [stc_len _ _ _ HS.out]; omega
        have H10 := Lib.hid h10
        have hgB2 : B ≤ wr.heap.size := by omega
        obtain ⟨m, hm⟩ : ∃ m, (q ++ b').length = m := ⟨_, rfl⟩
        have HM := Lib.hid hm
        clear hsf htf hshort h3 h4 h10 hm
        go_wp2_with (first | (((with_reducible refine gate_dst (N := 84) rfl ?_); go_loud (refine wp_appB rfl (.tmp 82) (.tmp 83) rfl HOWN.out rfl hrd rfl (by omega) (by omega) ?_); intro v' w3 hown3 hgrow3); obtain ⟨va3, vc3, rfl, _⟩ := Row.open hown3.rd; rw [HM.out] at hown3 ⊢; have hk3 : Blk w3 g 283 (stc s n v1) := HKS.out.grown hgrow3 (fun e => hgv e.symm)) | ((with_reducible refine gate_store (t := 48) (p := 86) rfl ?_); go_loud (refine wp_store_cell rfl 48 _ _ rfl rfl sizeBy rfl hk3 (i := 10) H10.out (v := .slice va3 m vc3) rfl rfl rfl ?_); intro w9 hk9 hg9))
        have hgv3 : (Value.slice va3 m vc3).ownBlock ≠ some g := by
          intro e
          rcases hown3.2 with ⟨e2, _⟩ | ⟨gg, cap, cur, e2, _, h6, _⟩
          · injection e2 with e3
            subst e3
            cases e
          · injection e2 with e3
            subst e3
            injection e with e
            simp only at e
            subst e
            rw [show w3.heap[gg]? = _ from hk3] at h6
            injection h6 with h6
            injection h6 with h7 h8
            exact absurd h8 (by decide)
        have hfin : Blk w9 g 283 (stc fin n (.slice va3 m vc3)) := by
          rw [← HSF.out]
          have := stc_set10 s n v1 (.slice va3 m vc3) HS.out
          rw [List.set_eq_take_append_cons_drop, if_pos H10.out] at hk9
          rw [← this]
          simpa using hk9
        have hown9 : Own B w9 (.slice va3 m vc3) ftl := by
          rw [← HTF.out]
          exact hown3.kept hg9 (.inr hgv3)
        have hs3 := hgrow3.size
        have hbel9 : Below B w w9 := (hbel.grown hgrow3 hgB2 (fun r e => (World.ownsRow.lt HOWN.out r e).1)).grown hg9 (by omega) (fun r e => by injection e with e; omega)
        go_end0
        exact ⟨_, rfl, hfin, hown9, hbel9, hgv3⟩
  · have hrp : 0 < rest.length := by
      rcases Nat.eq_zero_or_pos rest.length with h | h
      · exact absurd (List.eq_nil_of_length_eq_zero h) hr0
      · exact h
    have hrd := hown.rd
    obtain ⟨va, vc, rfl, hrd2⟩ := Row.open hrd
    have c10 : w.cell? ⟨g, 10, none⟩ = some (.slice va rest.length vc) := by rw [hk.cell]; exact stc_rest h n _ hh
    obtain ⟨vba, vbc, rfl, hvb⟩ := Row.open hb
    have hbc : b.length ≤ vbc := by obtain ⟨_, _, e, q, _⟩ := hvb; injection e with _ _ e3; omega
    have d0 : decide ((0 : Int) < (rest.length : Int)) = true := decide_eq_true (by omega)
    have d0' : decide (0 < rest.length) = true := decide_eq_true hrp
    have HH := Lib.hid hh
    have HKB := Lib.hid hk
    have HOWN0 := Lib.hid hown
    have HB0 := Lib.hid hb
    obtain ⟨k, hkk⟩ : ∃ k : Nat, (64 - rest.length ≤ b.length ∧ k = 64 - rest.length) ∨ (b.length < 64 - rest.length ∧ k = b.length) := by
      by_cases hq : 64 - rest.length ≤ b.length
      · exact ⟨_, .inl ⟨hq, rfl⟩⟩
      · exact ⟨_, .inr ⟨by omega, rfl⟩⟩
    have hkb : k ≤ b.length := by omega
    have hrdk : ∀ W, Rd W (.slice vba b.length vbc) b → Rd W (.slice vba k vbc) (b.take k) := by
      intro W hW
      have := rd_cut hW 0 k (Nat.zero_le _) hkb
      have e : (if vbc = 0 then vba else vba.map (·.add 0)) = vba := by
        split
        · rfl
        · cases vba <;> rfl
      rw [e, Nat.sub_zero, Nat.sub_zero, List.drop_zero] at this
      exact this
    have HRDK := Lib.hid hrdk
    have htkl : (b.take k).length = k := by rw [List.length_take]; omega
    have HTKL := Lib.hid htkl
    obtain ⟨r, hrl⟩ : ∃ r, rest.length = r := ⟨_, rfl⟩
    have HRL := Lib.hid hrl
    rw [hrl] at c10 d0 d0' hrp hr hkk
    have ik1 : (k : Int) ≤ (vbc : Int) := by omega
    have ik2 : k ≤ vbc := by omega
    have hgw2 : B ≤ w.heap.size := by omega
    have f10 := hk.frozen 10
    have hmin : (if (b.length : Int) < 64 - (r : Int) then (b.length : Int) else 64 - (r : Int)) = (k : Int) := by split <;> omega
    have HMIN := Lib.hid hmin
    have HFIN := Lib.hid hfin
    have HFTL := Lib.hid hftl
    have HGV := Lib.hid hgv
    have hlit : (Value.slice va rest.length vc) = .slice va r vc := by rw [hrl]
    have HLIT := Lib.hid hlit
    clear hh hk hown hb hrd hrd2 hvb hrdk htkl hfin hftl hgv hap hK hr0 hrl hmin hlit
    rcases hkk with ⟨hge, hkv⟩ | ⟨hlt, hkv⟩
    · have e1 : (64 : Int) - (r : Int) = (k : Int) := by omega
      have d3 : decide ((b.length : Int) < (k : Int)) = false := decide_eq_false (by omega)
      have d3' : decide (b.length < k) = false := decide_eq_false (by omega)
      have hsum : r + k = 64 := by omega
      obtain ⟨m, hm⟩ : ∃ m, r + k = m := ⟨_, rfl⟩
      have HM := Lib.hid hm
      have hm64 : m = 64 := by omega
      have d4 : ((m : Int) == 64) = true := by simp; omega
      have HM64 := Lib.hid hm64
      have HKV := Lib.hid hkv
      clear hsum hkv hm hm64
      go_enter Tryd.func225, Tryd.ntmps225
      go_wp2_with fail
      go_region_law (go_loud (refine step_append rfl (.tmp 24) (.tmp 27) 48 5 rfl Tryd.underlying48 info8 rfl (by decide) (base := B) (n := r) (xs := bcs rest) rfl (by rw [← HRL.out]; exact (show w.drew.ownsRow B 5 1 (.slice va rest.length vc) rest.length (bcs rest) from HOWN0.out)) (m := k) (cs := bcs (b.take k)) rfl (by have hz := HRDK.out w HB0.out; unfold Rd at hz; rw [HTKL.out] at hz; exact hz) (by rw [bcs_length, HTKL.out, Nat.mul_one]) (bcs_one _) (by unfold maxLen; omega) (by omega) (by exact hgw2) ?_); intro v' w2 hown2 hgrow2; obtain ⟨va2, vc2, rfl, _⟩ := Row.open (Row.of_own hown2); rw [HM.out] at hown2 ⊢; have hk2 := Blk.grown (w := w.drew) (by exact HKB.out) hgrow2 (fun e => HGV.out (HLIT.out ▸ e.symm)); have c10' : w2.cell? ⟨g, 10, none⟩ = some (.slice va rest.length vc) := (hk2.cell 10).trans (stc_rest h n _ HH.out); have f10' := hk2.frozen 10)
      obtain ⟨W3, hW3, hk3, hown3, hrdb, hbel3, hgv3⟩ := take_head (h := h) (n := n) (v := .slice va r vc) HH.out (by rw [← HLIT.out]; exact HKB.out) (by rw [← HLIT.out]; exact HGV.out) (by rw [← HLIT.out]; exact HOWN0.out) HB0.out (fun ad n c e => by have := HAP.out ad n c e; rw [← HLIT.out]; exact this) hown2 ⟨hgrow2.os, hgrow2.tape, hgrow2.output, hgrow2.size, hgrow2.block⟩ hB hgw2
      rw [hW3]
      have c10b : W3.cell? ⟨g, 10, none⟩ = some (.slice va2 m vc2) := (hk3.cell 10).trans (stc_rest h n _ HH.out)
      have HOWN3 := Lib.hid hown3
      have HK3 := Lib.hid hk3
      clear c10 f10 hown2 hgrow2 hk2 c10' f10' hW3
      go_wp2_with ((with_reducible refine gate_dst (N := 33) rfl ?_); go_loud (refine wp_cutAll rfl _ _ _ rfl hrdb rfl k b.length (.inr ⟨.i64, rfl⟩) (.inl ⟨rfl, rfl⟩) hkb (Nat.le_refl _) ?_); intro v7 hv7)
      obtain ⟨tk, htk⟩ : ∃ tk, rest ++ b.take k = tk := ⟨_, rfl⟩
      have htl : tk.length = 64 := by rw [← htk, List.length_append, HTKL.out, HRL.out, HM.out]; exact HM64.out
      have hown3b := HOWN3.out
      rw [htk] at hown3b
      obtain ⟨ad, cap, he, hcl⟩ := Row.at hown3b.rd (sz := 1) (by rw [bcs_length, Nat.mul_one]) (by decide) (i := 0) (by omega)
      injection he with he1 he3 he2
      subst he1 he2
      have hbt : (bcs tk).length = 64 := by rw [bcs_length]; exact htl
      have HCL := Lib.hid hcl
      have HTK := Lib.hid htk
      have HTL := Lib.hid htl
      have HBT := Lib.hid hbt
      have HOWN3B := Lib.hid hown3b
      have hcomp := fun w hK => comp_calls h tk w HH.out htl hK
      have HCOMP := Lib.hid hcomp
      have hcl8 := comp_len h tk HH.out
      have HCL8 := Lib.hid hcl8
      have hcsz : (wagg (comp h tk)).cells.size = 8 := by simpa [Value.cells, wcs] using hcl8
      have HCSZ := Lib.hid hcsz
      have hone : ∀ u ∈ (wagg (comp h tk)).cells.toList, u.oneCell' = true := by intro u hu; exact wcs_one _ u (by simpa [Value.cells] using hu)
      have HONE := Lib.hid hone
      have hwl : (wcs h).length = 8 := by rw [wcs_len]; exact HH.out
      have HWL := Lib.hid hwl
      have HC := Lib.hid (stc_h h n _ HH.out hk3)
      have HKW := Lib.hid (HK.out.base hbel3 h5)
      have a7 : (Instr.arrayAt 305 (.slice (some ad) m vc2)).run Tryd.prog W3.drew = .ok (.pointer (some ad)) W3.drew := by
        have e1 : ¬ m < 64 := by have := HM64.out; omega
        simp [Instr.arrayAt, run_underlying Tryd.underlying305, e1]
      clear hcl htk htl hbt hcomp hcl8 hcsz hone hwl hown3 hown3b he3
      have a1 : isAt W3.drew (.pointer (some ⟨g, 1, none⟩)) 8 = true := isAt_of (w := W3.drew) HC.out HWL.out
      have a2 : atV W3.drew (.pointer (some ⟨g, 1, none⟩)) 8 = wcs h := atV_of (w := W3.drew) HC.out HWL.out
      have a3 : isAt W3.drew (.pointer (some ad)) 64 = true := isAt_of (w := W3.drew) HCL.out HBT.out
      have a4 : atV W3.drew (.pointer (some ad)) 64 = bcs tk := atV_of (w := W3.drew) HCL.out HBT.out
      go_region_law (go_simp; go_at_call 246; go_loud (refine (HCOMP.out _ (by exact HKW.out)).mono ?_); rintro e w8 ⟨rfl, hb8⟩; have hb9 : Below W3.heap.size W3 w8 := ⟨hb8.1, hb8.2, hb8.3, hb8.4, hb8.5⟩; have hk8 := Blk.below (w := W3.drew) (by exact HK3.out) hb8; have a5 : okPut w8 (.pointer (some ⟨g, 1, none⟩)) (wagg (comp h tk)) 8 = true := okPut_of hk8 HCSZ.out HONE.out (by rw [stc_len _ _ _ HH.out]; omega))
      all_goals
        obtain ⟨hk9, hg9⟩ := putAt_of (o := 1) hk8 HCSZ.out
        have a6 : putAt w8 (.pointer (some ⟨g, 1, none⟩)) (.agg (wcs (comp h tk)).toArray) = putAt w8 (.pointer (some ⟨g, 1, none⟩)) (wagg (comp h tk)) := rfl
        generalize putAt w8 (.pointer (some ⟨g, 1, none⟩)) (wagg (comp h tk)) = w9 at hk9 hg9 a6 ⊢
        rw [stc_seth h _ n _ HH.out HCL8.out] at hk9
        have hown9 : Own B w9 (.slice (some ad) m vc2) tk := (HOWN3B.out.below hb9).kept hg9 (.inr hgv3)
        have c10c : w9.cell? ⟨g, 10, none⟩ = some (.slice (some ad) m vc2) := (hk9.cell 10).trans (stc_rest _ n _ HCL8.out)
        have h10 : 10 < (stc (comp h tk) n (.slice (some ad) m vc2)).length := by rw [stc_len _ _ _ HCL8.out]; omega
        have H10 := Lib.hid h10
        have hgs3 := HK3.out.lt
        clear a1 a2 a3 a4 a5 a6 a7 c10b h10
        go_wp2_with (first | ((with_reducible refine gate_dst (N := 59) rfl ?_); go_loud (refine wp_cut0 rfl _ rfl hown9 rfl ?_); intro v4 hown4 hv4b; obtain ⟨va4, vc4, hv4, _⟩ := Row.open hown4.rd; have hv5 : v4 = .slice va4 0 vc4 := hv4; subst hv5) | ((with_reducible refine gate_store (t := 48) (p := 61) rfl ?_); go_loud (refine wp_store_cell rfl 48 _ _ rfl rfl sizeBy rfl hk9 (i := 10) H10.out (v := .slice va4 0 vc4) rfl rfl rfl ?_); intro w10 hk10 hg10))
        have hrel0 : TRel B g n (.slice vba b.length vbc) b fin ftl w v7 (b.drop k) [] (comp h tk) (.slice va4 0 vc4) w10 := rel_i HFIN.out HFTL.out HTK.out (by rw [HRL.out]; exact HKV.out) hkb (by rw [HRL.out]; omega) HCL8.out hv7 hrdb hbel3 hb9 hg9 hk9 hk10 hg10 (H10.out) hown4 hv4b hgv3 HAP.out hB hgs3
        clear hk9 hg9 hk10 hg10 hown9 hown4 hv4b c10c hk8 hb8 hb9
        go_loopw [1] (fun u wr => ∃ b' q s v1, TRel B g n (.slice vba b.length vbc) b fin ftl w u b' q s v1 wr) (fun u _ => lenOf u)
        case atStart => exact ⟨_, _, _, _, hrel0⟩
        case round =>
          clear hrel0
          obtain ⟨b', q, s, v1, hT⟩ := hrel
          have hT2 := Lib.hid hT
          obtain ⟨h1, h2, h3, h4, hs, hkS, hown, hq, hqb, hbel, hgv⟩ := hT
          have hrd := h1 wr h2
          have HOWN := Lib.hid hown
          have HS := Lib.hid hs
          have HC := Lib.hid (stc_h s n v1 hs hkS)
          have HKW := Lib.hid (HK.out.base hbel h5)
          have H1 := Lib.hid h1
          have H2 := Lib.hid h2
          have c10 : wr.cell? ⟨g, 10, none⟩ = some v1 := by rw [hkS.cell]; exact stc_rest s n v1 hs
          have hwl : (wcs s).length = 8 := by rw [wcs_len]; exact hs
          have HWL := Lib.hid hwl
          have hgs := hkS.lt
          have HKS := Lib.hid hkS
          obtain ⟨ua, uc, rfl, _⟩ := Row.open hrd
          clear h1 h2 hs hwl hown hkS
          by_cases hlt : 64 ≤ b'.length
          · have d1 : decide ((64 : Int) ≤ (b'.length : Int)) = true := decide_eq_true (by omega)
            have d1' : decide (64 ≤ b'.length) = true := decide_eq_true hlt
            obtain ⟨ad, cap, he, hcl⟩ := Row.at hrd (sz := 1) (by rw [bcs_length, Nat.mul_one]) (by decide) (i := 0) (by omega)
            injection he with he1 _ he2
            subst he1 he2
            obtain ⟨tk, htk⟩ : ∃ tk, b'.take 64 = tk := ⟨_, rfl⟩
            have htl : tk.length = 64 := by rw [← htk, List.length_take]; omega
            have hcl2 : ∀ j u, (bcs tk)[j]? = some u → wr.cell? (ad.add j) = some u := by
              intro j u hu
              refine hcl j u ?_
              rw [← htk] at hu
              unfold bcs at hu ⊢
              rw [List.map_take, List.getElem?_take] at hu
              split at hu
              · exact hu
              · cases hu
            have HCL := Lib.hid hcl2
            have HTK := Lib.hid htk
            have HTL := Lib.hid htl
            have hbt : (bcs tk).length = 64 := by rw [bcs_length]; exact htl
            have HBT := Lib.hid hbt
            have hcomp := fun w hK => comp_calls s tk w HS.out htl hK
            have HCOMP := Lib.hid hcomp
            have hcsz : (wagg (comp s tk)).cells.size = 8 := by have := comp_len s tk HS.out; simpa [Value.cells, wcs] using this
            have HCSZ := Lib.hid hcsz
            have hone : ∀ u ∈ (wagg (comp s tk)).cells.toList, u.oneCell' = true := by intro u hu; exact wcs_one _ u (by simpa [Value.cells] using hu)
            have HONE := Lib.hid hone
            clear hcl hcl2 htk htl hbt hcomp hcsz hone
            have a1 : isAt wr.drew (.pointer (some ⟨g, 1, none⟩)) 8 = true := isAt_of (w := wr.drew) HC.out HWL.out
            have a2 : atV wr.drew (.pointer (some ⟨g, 1, none⟩)) 8 = wcs s := atV_of (w := wr.drew) HC.out HWL.out
            have a3 : isAt wr.drew (.pointer (some ad)) 64 = true := isAt_of (w := wr.drew) HCL.out HBT.out
            have a4 : atV wr.drew (.pointer (some ad)) 64 = bcs tk := atV_of (w := wr.drew) HCL.out HBT.out
            have a7 : (Instr.arrayAt 305 (.slice (some ad) b'.length uc)).run Tryd.prog wr.drew = .ok (.pointer (some ad)) wr.drew := by
              have e1 : ¬ b'.length < 64 := by omega
              simp [Instr.arrayAt, run_underlying Tryd.underlying305, e1]
            go_wp2_with fail
            go_region_law (go_simp; go_at_call 246; go_loud (refine (HCOMP.out _ (by exact HKW.out)).mono ?_); rintro e w8 ⟨rfl, hb8⟩; have hb9 : Below wr.heap.size wr w8 := ⟨hb8.1, hb8.2, hb8.3, hb8.4, hb8.5⟩; have hk8 : Blk w8 g 283 (stc s n v1) := Blk.below (w := wr.drew) (by exact HKS.out) hb8; have a5 : okPut w8 (.pointer (some ⟨g, 1, none⟩)) (wagg (comp s tk)) 8 = true := okPut_of hk8 HCSZ.out HONE.out (by rw [stc_len _ _ _ HS.out]; omega))
            all_goals
              obtain ⟨hk9, hg9⟩ := putAt_of (o := 1) hk8 HCSZ.out
              have a6 : putAt w8 (.pointer (some ⟨g, 1, none⟩)) (.agg (wcs (comp s tk)).toArray) = putAt w8 (.pointer (some ⟨g, 1, none⟩)) (wagg (comp s tk)) := rfl
              generalize putAt w8 (.pointer (some ⟨g, 1, none⟩)) (wagg (comp s tk)) = w9 at hk9 hg9 a6 ⊢
              clear a1 a2 a3 a4 a5 a6 a7
              have hrd9 : Rd w9 (.slice (some ad) b'.length uc) b' := by
                refine H1.out w9 (rd_grown (Rd.below (w := wr) H2.out hb9) hg9 (fun ad n c e => ?_))
                have := (HAP.out ad n c e).1
                simpa using this
              go_wp2_with ((with_reducible refine gate_dst (N := 77) rfl ?_); go_loud (refine wp_cutAll rfl _ _ _ rfl hrd9 rfl 64 b'.length (.inr ⟨.i64, rfl⟩) (.inl ⟨rfl, rfl⟩) hlt (Nat.le_refl _) ?_); intro v7 hv7)
              have hgr : 64 ≤ b'.length := hlt
              have hnx := trel_next hT2.out hgr (w8 := w8) hb9 (by rw [HTK.out]; exact hk9) hg9 hB (by omega) (fun ad n c e => (HAP.out ad n c e).1) hv7
              have hlv : lenOf v7 = b'.length - 64 := by
                obtain ⟨_, _, e, _⟩ := hv7 w9 hrd9
                rw [e]
                simp [lenOf]
              have HLV := Lib.hid hlv
              clear hlv hv7 hrd9 hk9 hg9 hb8 hb9 hk8 hT2 c10
              go_roundw
              case rel => exact ⟨_, _, _, _, hnx⟩
              case measure => rw [HLV.out]; show b'.length - 64 < b'.length; omega
          · have d1 : decide ((64 : Int) ≤ (b'.length : Int)) = false := decide_eq_false (by omega)
            have d1' : decide (64 ≤ b'.length) = false := decide_eq_false hlt
            have hshort : (q ++ b').length < 64 := by
              rw [List.length_append]
              rcases hqb with h | h
              · rw [h]; simp; omega
              · rw [h]; simp; omega
            have hsf : s = fin := by rw [← h3.out, over_lt s _ hshort]
            have htf : q ++ b' = ftl := by rw [← h4.out, tail_lt _ hshort]
            have hlq : q.length + b'.length < 64 := by rw [List.length_append] at hshort; exact hshort
            have HSF := Lib.hid hsf
            have HTF := Lib.hid htf
            have h10 : 10 < (stc s n v1).length := by rw [stc_len _ _ _ HS.out]; omega
            have H10 := Lib.hid h10
            have hgB2 : B ≤ wr.heap.size := by omega
            obtain ⟨m, hm⟩ : ∃ m, (q ++ b').length = m := ⟨_, rfl⟩
            have HM := Lib.hid hm
            clear hsf htf hshort h3 h4 h10 hm
            go_wp2_with (first | (((with_reducible refine gate_dst (N := 84) rfl ?_); go_loud (refine wp_appB rfl (.tmp 82) (.tmp 83) rfl HOWN.out rfl hrd rfl (by omega) (by omega) ?_); intro v' w3 hown3 hgrow3); obtain ⟨va3, vc3, rfl, _⟩ := Row.open hown3.rd; rw [HM.out] at hown3 ⊢; have hk3 : Blk w3 g 283 (stc s n v1) := HKS.out.grown hgrow3 (fun e => hgv e.symm)) | ((with_reducible refine gate_store (t := 48) (p := 86) rfl ?_); go_loud (refine wp_store_cell rfl 48 _ _ rfl rfl sizeBy rfl hk3 (i := 10) H10.out (v := .slice va3 m vc3) rfl rfl rfl ?_); intro w9 hk9 hg9))
            have hgv3 : (Value.slice va3 m vc3).ownBlock ≠ some g := by
              intro e
              rcases hown3.2 with ⟨e2, _⟩ | ⟨gg, cap, cur, e2, _, h6, _⟩
              · injection e2 with e3
                subst e3
                cases e
              · injection e2 with e3
                subst e3
                injection e with e
                simp only at e
                subst e
                rw [show w3.heap[gg]? = _ from hk3] at h6
                injection h6 with h6
                injection h6 with h7 h8
                exact absurd h8 (by decide)
            have hfin : Blk w9 g 283 (stc fin n (.slice va3 m vc3)) := by
              rw [← HSF.out]
              have := stc_set10 s n v1 (.slice va3 m vc3) HS.out
              rw [List.set_eq_take_append_cons_drop, if_pos H10.out] at hk9
              rw [← this]
              simpa using hk9
            have hown9 : Own B w9 (.slice va3 m vc3) ftl := by
              rw [← HTF.out]
              exact hown3.kept hg9 (.inr hgv3)
            have hs3 := hgrow3.size
            have hbel9 : Below B w w9 := (hbel.grown hgrow3 hgB2 (fun r e => (World.ownsRow.lt HOWN.out r e).1)).grown hg9 (by omega) (fun r e => by injection e with e; omega)
            go_end0
            exact ⟨_, rfl, hfin, hown9, hbel9, hgv3⟩
    · have e1 : (64 : Int) - (r : Int) = ((64 - r : Nat) : Int) := by omega
      have d3 : decide ((b.length : Int) < ((64 - r : Nat) : Int)) = true := decide_eq_true (by omega)
      have d3' : decide (b.length < 64 - r) = true := decide_eq_true hlt
      obtain ⟨m, hm⟩ : ∃ m, r + k = m := ⟨_, rfl⟩
      have HM := Lib.hid hm
      have hm64 : m < 64 := by omega
      have d4 : ((m : Int) == 64) = false := by simp; omega
      have HKV := Lib.hid hkv
      have hbk : (b.length : Int) = (k : Int) := by omega
      obtain ⟨r2, hr2⟩ : ∃ r2, 64 - r = r2 := ⟨_, rfl⟩
      rw [hr2] at e1 d3 d3'
      clear hkv hm hr2
      go_enter Tryd.func225, Tryd.ntmps225
      go_wp2_with fail
      go_region_law (go_loud (refine step_append rfl (.tmp 24) (.tmp 27) 48 5 rfl Tryd.underlying48 info8 rfl (by decide) (base := B) (n := r) (xs := bcs rest) rfl (by rw [← HRL.out]; exact (show w.drew.ownsRow B 5 1 (.slice va rest.length vc) rest.length (bcs rest) from HOWN0.out)) (m := k) (cs := bcs (b.take k)) rfl (by have hz := HRDK.out w HB0.out; unfold Rd at hz; rw [HTKL.out] at hz; exact hz) (by rw [bcs_length, HTKL.out, Nat.mul_one]) (bcs_one _) (by unfold maxLen; omega) (by omega) (by exact hgw2) ?_); intro v' w2 hown2 hgrow2; obtain ⟨va2, vc2, rfl, _⟩ := Row.open (Row.of_own hown2); rw [HM.out] at hown2 ⊢; have hk2 := Blk.grown (w := w.drew) (by exact HKB.out) hgrow2 (fun e => HGV.out (HLIT.out ▸ e.symm)); have c10' : w2.cell? ⟨g, 10, none⟩ = some (.slice va rest.length vc) := (hk2.cell 10).trans (stc_rest h n _ HH.out); have f10' := hk2.frozen 10)
      obtain ⟨W3, hW3, hk3, hown3, hrdb, hbel3, hgv3⟩ := take_head (h := h) (n := n) (v := .slice va r vc) HH.out (by rw [← HLIT.out]; exact HKB.out) (by rw [← HLIT.out]; exact HGV.out) (by rw [← HLIT.out]; exact HOWN0.out) HB0.out (fun ad n c e => by have := HAP.out ad n c e; rw [← HLIT.out]; exact this) hown2 ⟨hgrow2.os, hgrow2.tape, hgrow2.output, hgrow2.size, hgrow2.block⟩ hB hgw2
      rw [hW3]
      have c10b : W3.cell? ⟨g, 10, none⟩ = some (.slice va2 m vc2) := (hk3.cell 10).trans (stc_rest h n _ HH.out)
      have HOWN3 := Lib.hid hown3
      have HK3 := Lib.hid hk3
      clear c10 f10 hown2 hgrow2 hk2 c10' f10' hW3 hbk
      go_wp2_with ((with_reducible refine gate_dst (N := 33) rfl ?_); go_loud (refine wp_cutAll rfl _ _ _ rfl hrdb rfl k b.length (.inr ⟨.i64, rfl⟩) (.inl ⟨rfl, rfl⟩) hkb (Nat.le_refl _) ?_); intro v7 hv7)
      have hrel0 : TRel B g n (.slice vba b.length vbc) b fin ftl w v7 [] (rest ++ b) h (.slice va2 m vc2) W3 := rel_ii HFIN.out HFTL.out HKV.out HH.out (by rw [HRL.out]; have := HM.out; have := HKV.out; omega) HOWN3.out hv7 hrdb hbel3 HK3.out hgv3
      clear hown3 hk3 hrdb hbel3 hgv3 c10b hv7
      go_loopw [1] (fun u wr => ∃ b' q s v1, TRel B g n (.slice vba b.length vbc) b fin ftl w u b' q s v1 wr) (fun u _ => lenOf u)
      case atStart => exact ⟨_, _, _, _, hrel0⟩
      case round =>
        clear hrel0
        obtain ⟨b', q, s, v1, hT⟩ := hrel
        have hT2 := Lib.hid hT
        obtain ⟨h1, h2, h3, h4, hs, hkS, hown, hq, hqb, hbel, hgv⟩ := hT
        have hrd := h1 wr h2
        have HOWN := Lib.hid hown
        have HS := Lib.hid hs
        have HC := Lib.hid (stc_h s n v1 hs hkS)
        have HKW := Lib.hid (HK.out.base hbel h5)
        have H1 := Lib.hid h1
        have H2 := Lib.hid h2
        have c10 : wr.cell? ⟨g, 10, none⟩ = some v1 := by rw [hkS.cell]; exact stc_rest s n v1 hs
        have hwl : (wcs s).length = 8 := by rw [wcs_len]; exact hs
        have HWL := Lib.hid hwl
        have hgs := hkS.lt
        have HKS := Lib.hid hkS
        obtain ⟨ua, uc, rfl, _⟩ := Row.open hrd
        clear h1 h2 hs hwl hown hkS
        by_cases hlt : 64 ≤ b'.length
        · have d1 : decide ((64 : Int) ≤ (b'.length : Int)) = true := decide_eq_true (by omega)
          have d1' : decide (64 ≤ b'.length) = true := decide_eq_true hlt
          obtain ⟨ad, cap, he, hcl⟩ := Row.at hrd (sz := 1) (by rw [bcs_length, Nat.mul_one]) (by decide) (i := 0) (by omega)
          injection he with he1 _ he2
          subst he1 he2
          obtain ⟨tk, htk⟩ : ∃ tk, b'.take 64 = tk := ⟨_, rfl⟩
          have htl : tk.length = 64 := by rw [← htk, List.length_take]; omega
          have hcl2 : ∀ j u, (bcs tk)[j]? = some u → wr.cell? (ad.add j) = some u := by
            intro j u hu
            refine hcl j u ?_
            rw [← htk] at hu
            unfold bcs at hu ⊢
            rw [List.map_take, List.getElem?_take] at hu
            split at hu
            · exact hu
            · cases hu
          have HCL := Lib.hid hcl2
          have HTK := Lib.hid htk
          have HTL := Lib.hid htl
          have hbt : (bcs tk).length = 64 := by rw [bcs_length]; exact htl
          have HBT := Lib.hid hbt
          have hcomp := fun w hK => comp_calls s tk w HS.out htl hK
          have HCOMP := Lib.hid hcomp
          have hcsz : (wagg (comp s tk)).cells.size = 8 := by have := comp_len s tk HS.out; simpa [Value.cells, wcs] using this
          have HCSZ := Lib.hid hcsz
          have hone : ∀ u ∈ (wagg (comp s tk)).cells.toList, u.oneCell' = true := by intro u hu; exact wcs_one _ u (by simpa [Value.cells] using hu)
          have HONE := Lib.hid hone
          clear hcl hcl2 htk htl hbt hcomp hcsz hone
          have a1 : isAt wr.drew (.pointer (some ⟨g, 1, none⟩)) 8 = true := isAt_of (w := wr.drew) HC.out HWL.out
          have a2 : atV wr.drew (.pointer (some ⟨g, 1, none⟩)) 8 = wcs s := atV_of (w := wr.drew) HC.out HWL.out
          have a3 : isAt wr.drew (.pointer (some ad)) 64 = true := isAt_of (w := wr.drew) HCL.out HBT.out
          have a4 : atV wr.drew (.pointer (some ad)) 64 = bcs tk := atV_of (w := wr.drew) HCL.out HBT.out
          have a7 : (Instr.arrayAt 305 (.slice (some ad) b'.length uc)).run Tryd.prog wr.drew = .ok (.pointer (some ad)) wr.drew := by
            have e1 : ¬ b'.length < 64 := by omega
            simp [Instr.arrayAt, run_underlying Tryd.underlying305, e1]
          go_wp2_with fail
          go_region_law (go_simp; go_at_call 246; go_loud (refine (HCOMP.out _ (by exact HKW.out)).mono ?_); rintro e w8 ⟨rfl, hb8⟩; have hb9 : Below wr.heap.size wr w8 := ⟨hb8.1, hb8.2, hb8.3, hb8.4, hb8.5⟩; have hk8 : Blk w8 g 283 (stc s n v1) := Blk.below (w := wr.drew) (by exact HKS.out) hb8; have a5 : okPut w8 (.pointer (some ⟨g, 1, none⟩)) (wagg (comp s tk)) 8 = true := okPut_of hk8 HCSZ.out HONE.out (by rw [stc_len _ _ _ HS.out]; omega))
          all_goals
            obtain ⟨hk9, hg9⟩ := putAt_of (o := 1) hk8 HCSZ.out
            have a6 : putAt w8 (.pointer (some ⟨g, 1, none⟩)) (.agg (wcs (comp s tk)).toArray) = putAt w8 (.pointer (some ⟨g, 1, none⟩)) (wagg (comp s tk)) := rfl
            generalize putAt w8 (.pointer (some ⟨g, 1, none⟩)) (wagg (comp s tk)) = w9 at hk9 hg9 a6 ⊢
            clear a1 a2 a3 a4 a5 a6 a7
            have hrd9 : Rd w9 (.slice (some ad) b'.length uc) b' := by
              refine H1.out w9 (rd_grown (Rd.below (w := wr) H2.out hb9) hg9 (fun ad n c e => ?_))
              have := (HAP.out ad n c e).1
              simpa using this
            go_wp2_with ((with_reducible refine gate_dst (N := 77) rfl ?_); go_loud (refine wp_cutAll rfl _ _ _ rfl hrd9 rfl 64 b'.length (.inr ⟨.i64, rfl⟩) (.inl ⟨rfl, rfl⟩) hlt (Nat.le_refl _) ?_); intro v7 hv7)
            have hgr : 64 ≤ b'.length := hlt
            have hnx := trel_next hT2.out hgr (w8 := w8) hb9 (by rw [HTK.out]; exact hk9) hg9 hB (by omega) (fun ad n c e => (HAP.out ad n c e).1) hv7
            have hlv : lenOf v7 = b'.length - 64 := by
              obtain ⟨_, _, e, _⟩ := hv7 w9 hrd9
              rw [e]
              simp [lenOf]
            have HLV := Lib.hid hlv
            clear hlv hv7 hrd9 hk9 hg9 hb8 hb9 hk8 hT2 c10
            go_roundw
            case rel => exact ⟨_, _, _, _, hnx⟩
            case measure => rw [HLV.out]; show b'.length - 64 < b'.length; omega
        · have d1 : decide ((64 : Int) ≤ (b'.length : Int)) = false := decide_eq_false (by omega)
          have d1' : decide (64 ≤ b'.length) = false := decide_eq_false hlt
          have hshort : (q ++ b').length < 64 := by
            rw [List.length_append]
            rcases hqb with h | h
            · rw [h]; simp; omega
            · rw [h]; simp; omega
          have hsf : s = fin := by rw [← h3.out, over_lt s _ hshort]
          have htf : q ++ b' = ftl := by rw [← h4.out, tail_lt _ hshort]
          have hlq : q.length + b'.length < 64 := by rw [List.length_append] at hshort; exact hshort
          have HSF := Lib.hid hsf
          have HTF := Lib.hid htf
          have h10 : 10 < (stc s n v1).length := by rw [stc_len _ _ _ HS.out]; omega
          have H10 := Lib.hid h10
          have hgB2 : B ≤ wr.heap.size := by omega
          obtain ⟨m, hm⟩ : ∃ m, (q ++ b').length = m := ⟨_, rfl⟩
          have HM := Lib.hid hm
          clear hsf htf hshort h3 h4 h10 hm
          go_wp2_with (first | (((with_reducible refine gate_dst (N := 84) rfl ?_); go_loud (refine wp_appB rfl (.tmp 82) (.tmp 83) rfl HOWN.out rfl hrd rfl (by omega) (by omega) ?_); intro v' w3 hown3 hgrow3); obtain ⟨va3, vc3, rfl, _⟩ := Row.open hown3.rd; rw [HM.out] at hown3 ⊢; have hk3 : Blk w3 g 283 (stc s n v1) := HKS.out.grown hgrow3 (fun e => hgv e.symm)) | ((with_reducible refine gate_store (t := 48) (p := 86) rfl ?_); go_loud (refine wp_store_cell rfl 48 _ _ rfl rfl sizeBy rfl hk3 (i := 10) H10.out (v := .slice va3 m vc3) rfl rfl rfl ?_); intro w9 hk9 hg9))
          have hgv3 : (Value.slice va3 m vc3).ownBlock ≠ some g := by
            intro e
            rcases hown3.2 with ⟨e2, _⟩ | ⟨gg, cap, cur, e2, _, h6, _⟩
            · injection e2 with e3
              subst e3
              cases e
            · injection e2 with e3
              subst e3
              injection e with e
              simp only at e
              subst e
              rw [show w3.heap[gg]? = _ from hk3] at h6
              injection h6 with h6
              injection h6 with h7 h8
              exact absurd h8 (by decide)
          have hfin : Blk w9 g 283 (stc fin n (.slice va3 m vc3)) := by
            rw [← HSF.out]
            have := stc_set10 s n v1 (.slice va3 m vc3) HS.out
            rw [List.set_eq_take_append_cons_drop, if_pos H10.out] at hk9
            rw [← this]
            simpa using hk9
          have hown9 : Own B w9 (.slice va3 m vc3) ftl := by
            rw [← HTF.out]
            exact hown3.kept hg9 (.inr hgv3)
          have hs3 := hgrow3.size
          have hbel9 : Below B w w9 := (hbel.grown hgrow3 hgB2 (fun r e => (World.ownsRow.lt HOWN.out r e).1)).grown hg9 (by omega) (fun r e => by injection e with e; omega)
          go_end0
          exact ⟨_, rfl, hfin, hown9, hbel9, hgv3⟩
end Go.Proofs.YtnecgoahdkfbeaaDoor.Sha
