/- The program's Sum: its contract. -/
import Derived.Test.YtnecgoahdkfbeaaDoorShaZ
namespace Go.Proofs.YtnecgoahdkfbeaaDoor.Sha
open Go Go.RowKit Go.Proofs.YtnecgoahdkfbeaaDoor.Cop Go.Proofs.YtnecgoahdkfbeaaDoor.Oct
set_option linter.unusedVariables false
set_option linter.unusedSimpArgs false
theorem sizeInt : (Tryd.prog.info? 3).map (fun i => i.size) = some 1 := by kernel_rfl
theorem stc_setn (h : List Int) (n n' : Int) (v : Value) (hh : h.length = 8) : (stc h n v).set 9 (.int .i64 n') = stc h n' v := by
  obtain ⟨s0, s1, s2, s3, s4, s5, s6, s7, rfl⟩ := eight h hh
  rfl
theorem stc_setr (h : List Int) (n : Int) (v v' : Value) (hh : h.length = 8) : (stc h n v).set 10 v' = stc h n v' := by
  obtain ⟨s0, s1, s2, s3, s4, s5, s6, s7, rfl⟩ := eight h hh
  rfl
/-- What Write leaves: the bytes are taken in, their count is put to the count. -/
def WriteRet (B g : Nat) (n : Int) (fin : List Int) (ftl : List UInt8) (w : World) (e : Ending) (w' : World) : Prop :=
  ∃ v1, e = .returned (.int .i64 0) ∧ Blk w' g 283 (stc fin n v1) ∧ Own B w' v1 ftl ∧ Below B w w' ∧ v1.ownBlock ≠ some g
set_option maxRecDepth 100000 in
set_option maxHeartbeats 1000000 in
theorem write_calls (B g : Nat) (h : List Int) (n : Nat) (v vb : Value) (rest b : List UInt8) (w : World) (hh : h.length = 8) (hk : Blk w g 283 (stc h (n : Int) v)) (hown : Own B w v rest) (hr : rest.length < 64)
    (hb : Rd w vb b) (hbl : b.length ≤ 140737488355200) (hB : B ≤ g) (hK : Kon w) (h5 : 7 < B) (hgv : v.ownBlock ≠ some g) (hap : ∀ ad n c, vb = .slice (some ad) n c → ad.block ≠ g ∧ v.ownBlock ≠ some ad.block) (hn : n ≤ 140737488355328) :
    Calls Tryd.prog 187 #[.pointer (some ⟨g, 0, none⟩), vb] w (WriteRet B g ((n + b.length : Nat) : Int) (over h (rest ++ b)) (tail (rest ++ b)) w) := by
  have htake := take_calls B g h n v vb rest b w hh hk hown hr hb hbl hB hK h5 hgv hap
  have hov : (over h (rest ++ b)).length = 8 := by
    have : ∀ (n : Nat) (h : List Int) (b : List UInt8), b.length ≤ n → h.length = 8 → (over h b).length = 8 := by
      intro n
      induction n with
      | zero => intro h b hn hh; rw [over_lt h b (by omega)]; exact hh
      | succ n ih =>
        intro h b hn hh
        by_cases hb : b.length < 64
        · rw [over_lt h b hb]; exact hh
        · rw [over_ge h b (by omega)]
          exact ih _ _ (by rw [List.length_drop]; omega) (comp_len h _ hh)
    exact this _ _ _ (Nat.le_refl _) hh
  have hnone := none_calls g h n v w hk
  have c9 : w.cell? ⟨g, 9, none⟩ = some (.int .i64 (n : Int)) := by rw [hk.cell]; exact stc_n h n v hh
  obtain ⟨fin, hfin⟩ : ∃ f, over h (rest ++ b) = f := ⟨_, rfl⟩
  obtain ⟨ftl, hftl⟩ : ∃ f, tail (rest ++ b) = f := ⟨_, rfl⟩
  rw [hfin] at hov
  rw [hfin, hftl] at htake ⊢
  have HTAKE := Lib.hid htake
  have HNONE := Lib.hid hnone
  have HOV := Lib.hid hov
  obtain ⟨vba, vbc, rfl, hrd⟩ := Row.open hb
  have e1 : (2305843009213693951 : Int) - (n : Int) = ((2305843009213693951 - n : Nat) : Int) := by omega
  have d1 : decide (((2305843009213693951 - n : Nat) : Int) < (b.length : Int)) = false := decide_eq_false (by omega)
  have d1' : decide (2305843009213693951 - n < b.length) = false := decide_eq_false (by omega)
  obtain ⟨q, hq⟩ : ∃ q, 2305843009213693951 - n = q := ⟨_, rfl⟩
  rw [hq] at e1 d1 d1'
  have hgw := hk.lt
  unfold WriteRet
  have hrd' : Rd w (.slice vba b.length vbc) b := hb
  clear htake hnone hov hfin hftl hh hk hown hr hgv hap hK hb hrd hq
  go_enter Tryd.func187, Tryd.ntmps187
  go_wp2_with (first | (go_at_call 224; go_loud (refine (HNONE.out).mono ?_); rintro e w1 ⟨rfl, rfl⟩) | (go_at_call 225; go_loud (refine (HTAKE.out).mono ?_); rintro e w2 ⟨v1, rfl, hk2, hown2, hbel2, hgv2⟩; have c92 : w2.cell? ⟨g, 9, none⟩ = some (.int .i64 (n : Int)) := (hk2.cell 9).trans (stc_n fin n v1 HOV.out)) | ((with_reducible refine gate_store (t := 3) (p := 28) rfl ?_); go_loud (refine wp_store_cell rfl 3 _ _ rfl rfl sizeInt rfl hk2 (i := 9) (by rw [stc_len _ _ _ HOV.out]; omega) (v := .int .i64 ((n : Int) + (b.length : Int))) rfl rfl rfl ?_); intro w3 hk3 hg3))
  have hk4 : Blk w3 g 283 (stc fin ((n + b.length : Nat) : Int) v1) := by
    rw [stc_setn fin _ _ v1 HOV.out] at hk3
    rw [show ((n + b.length : Nat) : Int) = (n : Int) + (b.length : Int) from by omega]
    exact hk3
  have hown3 : Own B w3 v1 ftl := hown2.kept hg3 (.inr hgv2)
  have hbel3 : Below B w w3 := hbel2.grown hg3 (by have := hbel2.size; omega) (fun r e => by injection e with e; omega)
  go_ret
  exact ⟨v1, rfl, hk4, hown3, hbel3, hgv2⟩
theorem own_apart {base g : Nat} {w : World} {v : Value} {bs : List UInt8} {cs : List Value} (hown : Own base w v bs) (hk : Blk w g 283 cs) : v.ownBlock ≠ some g := by
  intro e
  rcases hown.2 with ⟨e2, _⟩ | ⟨gg, cap, cur, e2, _, h6, _⟩
  · subst e2; cases e
  · subst e2
    injection e with e
    simp only at e
    subst e
    rw [show w.heap[gg]? = _ from hk] at h6
    injection h6 with h6
    injection h6 with h7 h8
    exact absurd h8 (by decide)
def CloneRet (h : List Int) (n : Int) (rest : List UInt8) (w : World) (e : Ending) (w' : World) : Prop :=
  ∃ g' v', e = .returned (.pointer (some ⟨g', 0, none⟩)) ∧ Blk w' g' 283 (stc h n v') ∧ Own w.heap.size w' v' rest ∧ w.heap.size ≤ g' ∧ Below w.heap.size w w'
set_option maxRecDepth 100000 in
set_option maxHeartbeats 1000000 in
theorem sclone_calls (g : Nat) (h : List Int) (n : Int) (v : Value) (rest : List UInt8) (w : World) (hh : h.length = 8) (hk : Blk w g 283 (stc h n v)) (hb : Rd w v rest) (hr : rest.length < 64) :
    Calls Tryd.prog 226 #[.pointer (some ⟨g, 0, none⟩)] w (CloneRet h n rest w) := by
  have HNONE := Lib.hid (none_calls g h n v w hk)
  have HL := Lib.hid (stc_len h n v hh)
  have HH := Lib.hid hh
  have HONE : Hid (∀ u ∈ (Value.agg (stc h n v).toArray).cells.toList, u.oneCell' = true) := by
    obtain ⟨va, vc, rfl, _⟩ := Row.open hb
    exact Lib.hid (by intro u hu; exact stc_one h n _ rfl u (by simpa [Value.cells] using hu))
  have c10 : w.cell? ⟨g, 10, none⟩ = some v := by rw [hk.cell]; exact stc_rest h n v hh
  have hgw := hk.lt
  obtain ⟨va, vc, rfl, hrd⟩ := Row.open hb
  have HB := Lib.hid hb
  clear hh hb hrd
  unfold CloneRet
  go_enter Tryd.func226, Tryd.ntmps226
  go_wp2_with (first | (go_at_call 224; go_loud (refine (HNONE.out).mono ?_); rintro e w1 ⟨rfl, rfl⟩) | ((with_reducible refine gate_dst (N := 8) rfl ?_); go_loud (refine wp_load_blk rfl 283 _ rfl aggSt sizeSt rfl hk (HL.out) ?_)) | (((with_reducible refine gate_dst (N := 3) rfl ?_); go_loud (refine wp_alloc rfl _ rfl zeroSt ?_); intro w2 hk2 hb2 hz2)) | (((with_reducible refine gate_store (t := 283) (p := 3) rfl ?_); go_loud (refine wp_store_blk rfl 283 _ _ rfl rfl sizeSt rfl hk2 (rfl) (v := .agg (stc h n (.slice va rest.length vc)).toArray) rfl ((by have := HL.out; simpa [Value.cells] using this)) (HONE.out) ?_); intro w3 hk3 hg3); have hkg3 := (hk.below hb2).grown hg3 (by simp; omega); have c10' : w3.cell? ⟨g, 10, none⟩ = some (.slice va rest.length vc) := (hkg3.cell 10).trans (stc_rest h n _ HH.out); have hrd3 : Rd w3 (.slice va rest.length vc) rest := HB.out.below (hb2.grown hg3 (by omega) (fun r e => by injection e with e; omega))) | (go_at_call 151; go_loud (refine (clone _ rest _ ⟨hrd3, by omega⟩).mono ?_); rintro e w4 ⟨v4, rfl, hown4, hb4⟩; have hk4 := hk3.below hb4; obtain ⟨va4, vc4, rfl, _⟩ := Row.open (Row.of_own hown4)) | ((with_reducible refine gate_store (t := 48) (p := 14) rfl ?_); go_loud (refine wp_store_cell rfl 48 _ _ rfl rfl sizeBy rfl hk4 (i := 10) (by simp [Value.cells, HL.out]) (v := .slice va4 rest.length vc4) rfl rfl rfl ?_); intro w5 hk5 hg5))
  have hk6 : Blk w5 w.heap.size 283 (stc h n (.slice va4 rest.length vc4)) := by
    rw [← stc_setr h n (.slice va rest.length vc) _ HH.out]
    exact hk5
  go_ret
  have z2 := hb2.size
  have z3 := hg3.size
  have z4 := hb4.size
  have hown4' : Own w3.heap.size w4 (.slice va4 rest.length vc4) rest := hown4
  have hne := own_apart hown4' hk4
  refine ⟨_, _, rfl, hk6, (hown4'.mono (by omega)).kept hg5 (.inr hne), Nat.le_refl _, ?_⟩
  have b3 : Below w.heap.size w w3 := hb2.grown hg3 (by omega) (fun r e => by injection e with e; omega)
  exact (b3.trans (hb4.mono (by omega))).grown hg5 (by omega) (fun r e => by injection e with e; omega)
set_option maxRecDepth 100000 in
set_option maxHeartbeats 1000000 in
theorem ssum_calls (g : Nat) (h : List Int) (n : Nat) (v : Value) (rest : List UInt8) (w : World) (hh : Wd h) (hk : Blk w g 283 (stc h (n : Int) v)) (hb : Rd w v rest) (hr : rest.length < 64) (hn : n ≤ 140737488355328) (hK : Kon w) :
    Calls Tryd.prog 188 #[.pointer (some ⟨g, 0, none⟩)] w fun e w' => e = .returned (dg (wordsB (over h (rest ++ padB n)))) ∧ Below w.heap.size w w' := by
  have hwd := over_wd _ h (rest ++ padB n) (Nat.le_refl _) hh
  have hwl : (wordsB (over h (rest ++ padB n))).length = 32 := by rw [wordsB_len, hwd.1]
  obtain ⟨fin, hfin⟩ : ∃ f, over h (rest ++ padB n) = f := ⟨_, rfl⟩
  rw [hfin] at hwd hwl ⊢
  obtain ⟨out, hout⟩ : ∃ f, wordsB fin = f := ⟨_, rfl⟩
  have hwords := fun w => words_calls fin w hwd
  rw [hout] at hwl hwords ⊢
  have HFIN := Lib.hid hfin
  have HH := Lib.hid hh.1
  have HWD := Lib.hid hwd
  have HWL := Lib.hid hwl
  have HWORDS := Lib.hid hwords
  have HK := Lib.hid hK
  have hB5 := hK.lt
  have HKB := Lib.hid hk
  have HB := Lib.hid hb
  have hgw := hk.lt
  have hdz : dz.length = 32 := dz_length
  have hpl : (padB n).length ≤ 100 := by rw [pad_len]; have := zeros_lt n; omega
  clear hwd hwl hfin hout hwords hh hk hb hK hdz
  go_enter Tryd.func188, Tryd.ntmps188
  go_wp2_with (((with_reducible refine gate_dst (N := 2) rfl ?_); go_loud (refine wp_alloc rfl _ rfl zeroD ?_); intro w1 hk1 hb1 hz1))
  have hkg1 := HKB.out.below hb1
  refine (none_calls g h n v w1 hkg1).mono ?_
  rintro e w1' ⟨rfl, rfl⟩
  go_wp2_with fail
  refine (sclone_calls g h n v rest w1 HH.out hkg1 (HB.out.below hb1) hr).mono ?_
  rintro e w2 ⟨gc, vc, rfl, hkc, hownc, hgc, hb2⟩
  have c9 : w2.cell? ⟨g, 9, none⟩ = some (.int .i64 (n : Int)) := ((hkg1.below hb2).cell 9).trans (stc_n h n v HH.out)
  have hbel2 : Below w.heap.size w w2 := hb1.trans (hb2.mono (by omega))
  have hKc := HK.out.below hbel2
  have z2 := hb2.size
  have hgcw := hkc.lt
  have HKC := Lib.hid hkc
  have HK1 := Lib.hid hk1
  clear hkc hk1
  go_wp2_with fail
  refine (pad_calls n w2 hn).mono ?_
  rintro e w3 ⟨vp, rfl, hp, hb3⟩
  go_wp2_with fail
  have hap : ∀ ad n' c, vp = .slice (some ad) n' c → ad.block ≠ gc ∧ vc.ownBlock ≠ some ad.block := by
    intro ad n' c e
    have hl := (World.ownsRow.lt hp ad.block (by rw [e]; rfl)).1
    refine ⟨by omega, fun e2 => ?_⟩
    have := (World.ownsRow.lt hownc ad.block e2).2
    omega
  have hownc3 : Own w1.heap.size w3 vc rest := Own.below hownc hb3
  have hKc3 := hKc.below hb3
  have hne := own_apart hownc HKC.out
  refine (take_calls w1.heap.size gc h n vc vp rest (padB n) w3 HH.out (HKC.out.below hb3) hownc3 hr hp.rd (by omega) hgc hKc3 (by omega) hne hap).mono ?_
  rintro e w4 ⟨v4, rfl, hk4, hown4, hb4, hne4⟩
  rw [HFIN.out] at hk4
  have HC := Lib.hid (stc_h fin n v4 HWD.out.1 hk4)
  have HFL := Lib.hid (show (wcs fin).length = 8 by rw [wcs_len]; exact HWD.out.1)
  have hres4 : Blk w4 w.heap.size 45 (dg dz).cells.toList := by
    have h1 : Blk w3 w.heap.size 45 (dg dz).cells.toList := (HK1.out.below hb2).below hb3
    exact (hb4.block w.heap.size (by omega)).trans h1
  clear hap hownc hownc3 hKc hKc3 hne hp hk4 hown4 hne4 hkg1
  go_wp2_with (first | ((with_reducible refine gate_dst (N := 25) rfl ?_); go_loud (refine wp_load_agg rfl 253 _ rfl aggW8 sizeW8 (ad := ⟨gc, 1, none⟩) rfl HFL.out HC.out ?_)) | (go_at_call 228; go_loud (refine (HWORDS.out _).mono ?_); rintro e w5 ⟨v5, rfl, hown5, hb5⟩) | ((with_reducible refine gate_dst (N := 27) rfl ?_); go_loud (refine wp_to_array rfl 45 5 32 _ rfl Tryd.underlying45 (by decide) rfl (by rw [← HWL.out]; exact Row.of_own hown5) (by rw [bcs_length]; exact HWL.out) ?_); intro ad had) | ((with_reducible refine gate_dst (N := 28) rfl ?_); go_loud (refine wp_load_agg rfl 45 _ rfl aggD sizeD rfl (by rw [bcs_length]; exact HWL.out) had ?_)) | (((with_reducible refine gate_store (t := 45) (p := 2) rfl ?_); go_loud (refine wp_store_blk rfl 45 _ _ rfl rfl sizeD rfl (hres4.below hb5) (dz_cells) (v := dg out) rfl (dg_size HWL.out) (dg_one _) ?_); intro w6 hk6 hg6)))
  have hk7 : Blk w6 w.heap.size 45 (bcs out) := by simpa [Value.cells] using hk6
  have z3 := hb3.size
  have z4 := hb4.size
  have z5 := hb5.size
  have hb6 : Below w.heap.size w w6 := (((hbel2.trans (hb3.mono (by omega))).trans (hb4.mono (by omega))).trans (hb5.mono (by omega))).grown hg6 (by omega) (fun r e => by injection e with e; omega)
  clear hk6
  refine bodyPost_ret (results_blk1 (cs := bcs out) rfl aggD sizeD _ rfl hk7 (by rw [bcs_length]; exact HWL.out)) rfl ?_
  exact ⟨rfl, hb6⟩
/-- The slice's block lies in memory. -/
def Inn (w : World) (v : Value) : Prop := ∀ ad n c, v = .slice (some ad) n c → ad.block < w.heap.size
theorem Inn.own {base : Nat} {w : World} {v : Value} {bs : List UInt8} (h : Own base w v bs) : Inn w v := fun ad n c e => (World.ownsRow.lt h ad.block (by rw [e]; rfl)).2
theorem Inn.below {w w' : World} {v : Value} (h : Inn w v) {B : Nat} (hb : Below B w w') : Inn w' v := fun ad n c e => by have := h ad n c e; have := hb.size; omega
theorem Inn.nil (w : World) : Inn w (.slice none 0 0) := fun ad n c e => by injection e with e; cases e
set_option maxRecDepth 100000 in
set_option maxHeartbeats 1000000 in
/-- The program's Sum tells the digest. -/
theorem hsum_calls (v : Value) (b : List UInt8) (w : World) (hb : Rd w v b) (hin : Inn w v) (hbl : b.length ≤ 140737488355200) (hK : Kon w) :
    Calls Tryd.prog 132 #[v] w fun e w' => e = .returned (dg (sha b)) ∧ Below w.heap.size w w' := by
  have hsl := sha_len b
  have hsh : wordsB (over (over h0 b) (tail b ++ padB b.length)) = sha b := by rw [← over_app (padB b.length) b.length h0 b (Nat.le_refl _)]; rfl
  have hwd := over_wd b.length h0 b (Nat.le_refl _) h0_wd
  have htl : (tail b).length < 64 := by rw [tail_len]; exact Nat.mod_lt _ (by omega)
  obtain ⟨out, hout⟩ : ∃ o, sha b = o := ⟨_, rfl⟩
  rw [hout] at hsl hsh ⊢
  have HSL := Lib.hid hsl
  have HSH := Lib.hid hsh
  have HWD := Lib.hid hwd
  have HK := Lib.hid hK
  have HB := Lib.hid hb
  have HIN := Lib.hid hin
  have h5 := hK.lt
  clear hsl hsh hwd hout hK hb hin
  go_enter Tryd.func132, Tryd.ntmps132
  go_wp2_with (((with_reducible refine gate_dst (N := 2) rfl ?_); go_loud (refine wp_alloc rfl _ rfl zeroD ?_); intro w1 hk1 hb1 hz1))
  refine (new_calls w1).mono ?_
  rintro e w2 ⟨g, rfl, hkg, hg, hb2⟩
  have hbel2 : Below w.heap.size w w2 := hb1.trans (hb2.mono (by omega))
  have HKG := Lib.hid hkg
  have z2 := hb2.size
  have hgw := hkg.lt
  have HK1 := Lib.hid hk1
  clear hkg hk1
  go_wp2_with fail
  refine (write_calls w1.heap.size g h0 0 (.slice none 0 0) v [] b w2 rfl HKG.out (Own.nil _ _) (by simp) (HB.out.below hbel2) hbl hg (HK.out.below hbel2) (by omega) (fun e => by cases e) (fun ad n c e => ⟨by have := HIN.out ad n c e; omega, fun e2 => by cases e2⟩) (by omega)).mono ?_
  rintro e w3 ⟨v3, rfl, hk3, hown3, hb3, hne3⟩
  rw [List.nil_append] at hk3 hown3
  have HK3 := Lib.hid hk3
  have HOWN3 := Lib.hid hown3
  have hres3 : Blk w3 w.heap.size 45 (dg dz).cells.toList := (hb3.block w.heap.size (by omega)).trans (HK1.out.below hb2)
  have z3 := hb3.size
  have hbel3 : Below w.heap.size w w3 := hbel2.trans (hb3.mono (by omega))
  clear hk3 hown3 hne3
  go_wp2_with fail
  refine (ssum_calls g (over h0 b) (0 + b.length) v3 (tail b) w3 HWD.out HK3.out HOWN3.out.rd htl (by omega) (HK.out.below hbel3)).mono ?_
  rintro e w4 ⟨rfl, hb4⟩
  rw [Nat.zero_add, HSH.out]
  have hres4 := hres3.below hb4
  have z4 := hb4.size
  clear hres3
  go_wp2_with (((with_reducible refine gate_store (t := 45) (p := 2) rfl ?_); go_loud (refine wp_store_blk rfl 45 _ _ rfl rfl sizeD rfl hres4 (dz_cells) (v := dg out) rfl (dg_size HSL.out) (dg_one _) ?_); intro w6 hk6 hg6))
  have hk7 : Blk w6 w.heap.size 45 (bcs out) := by simpa [Value.cells] using hk6
  have hb6 : Below w.heap.size w w6 := (hbel3.trans (hb4.mono (by omega))).grown hg6 (by omega) (fun r e => by injection e with e; omega)
  clear hk6
  refine bodyPost_ret (results_blk1 (cs := bcs out) rfl aggD sizeD _ rfl hk7 (by rw [bcs_length]; exact HSL.out)) rfl ?_
  exact ⟨rfl, hb6⟩
end Go.Proofs.YtnecgoahdkfbeaaDoor.Sha
