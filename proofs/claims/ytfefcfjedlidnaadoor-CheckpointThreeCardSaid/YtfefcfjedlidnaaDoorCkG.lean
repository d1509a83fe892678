/- The laws CheckpointFormats and CheckpointThree. -/
import Derived.Test.YtfefcfjedlidnaaDoorCkF
import Derived.Test.YtfefcfjedlidnaaDoorCkO
namespace Go.Proofs.YtfefcfjedlidnaaDoor.Sha
open Go Go.RowKit Go.Proofs Go.Proofs.YtfefcfjedlidnaaDoor.Cop Go.Proofs.YtfefcfjedlidnaaDoor.Oct Go.Proofs.YtfefcfjedlidnaaDoor.Utf Go.Proofs.YtfefcfjedlidnaaDoor.Ito
set_option linter.unusedVariables false
set_option linter.unusedSimpArgs false
theorem names22_calls (w : World) : Calls Tryd.prog 32 #[] w fun e w' => e = .returned (.bool true) ∧ w = w' := by
  go_enter Tryd.func32, Tryd.ntmps32
  go_wp2_with fail
  go_ret
  exact ⟨rfl, rfl⟩
attribute [local go_sem] beq_self_b
set_option maxRecDepth 100000 in
theorem formats_law (s : ByteArray) (n : Int) (d : List UInt8) (t : ByteArray) (hd : d.length = 32) (w : World) (hT : Tabs w) (hK : Kon w) (hP : Pows w) : Calls Tryd.prog 7 #[ckV s n d, .string t] w fun e w' => e = .returned (.bool true) ∧ Below w.heap.size w w' := by
  have hl := ck_len s n d hd
  have hf : ∀ w', Below w.heap.size w w' → Calls Tryd.prog 28 #[ckV s n d] w' _ := fun w' hb => format_calls s n d hd w' (Utf8Tabs_below hT hb) (hK.below hb) (hP.below hb)
  have hr : ∀ w', Calls Tryd.prog 29 #[ckV s n d] w' _ := fun w' => rformat_calls s n d hd w'
  obtain ⟨tx, e, hte⟩ : ∃ (tx : ByteArray) (e : Int), (if mayB s n d then Value.tuple #[.string (str (ckT s n d)), .int .i64 0] else .tuple #[.string ⟨#[]⟩, .int .i64 2]) = .tuple #[.string tx, .int .i64 e] := by
    cases mayB s n d
    · exact ⟨_, _, rfl⟩
    · exact ⟨_, _, rfl⟩
  rw [hte] at hf hr
  have ho : ∀ w', Below w.heap.size w w' → Calls Tryd.prog 30 #[.string t] w' _ := fun w' hb => origin_calls t w' (Utf8Tabs_below hT hb)
  have hro := fun w => rorigin_calls t w
  generalize origB t = OB at ho hro
  have HF := Lib.hid hf
  have HR := Lib.hid hr
  have HO := Lib.hid ho
  have HRO := Lib.hid hro
  have HL := Lib.hid hl
  clear hf hr ho hro hl hte hd hT hK hP
  go_enter Tryd.func7, Tryd.ntmps7
  go_wp2_with (first | (((with_reducible refine gate_dst (N := 2) rfl ?_); go_loud (refine wp_box rfl _ _ rfl (v := ckV s n d) rfl ?_); intro w1 hk1 hb1 hz1); rw [ck_cells] at hk1) | (((with_reducible refine gate_dst (N := 10) rfl ?_); go_loud (refine wp_load_blk rfl 51 _ rfl aggCk sizeCk rfl hk1 (HL.out) ?_))) | (((with_reducible refine gate_dst (N := 15) rfl ?_); go_loud (refine wp_load_blk rfl 51 _ rfl aggCk sizeCk rfl hk2 (HL.out) ?_))) | (go_at_call 28; go_loud (refine (HF.out _ hb1).mono ?_); rintro e w2 ⟨rfl, hb2⟩; have hk2 := hk1.below hb2; have hb02 : Below w.heap.size w w2 := hb1.trans (hb2.mono hb1.size); clear hk1) | (go_at_call 29; go_loud (refine (HR.out _).mono ?_); rintro e w3 ⟨rfl, hb3⟩; have hb03 : Below w.heap.size w w3 := hb02.trans (hb3.mono hb02.size)) | (((with_reducible refine gate_dst (N := 21) rfl ?_); go_loud (refine wp_eq_str rfl _ _ _ _ rfl rfl rfl (decide_eq_true rfl) ?_))))
  refine (HO.out w3 hb03).mono ?_
  rintro e w4 ⟨rfl, hb4⟩
  have hb04 : Below w.heap.size w w4 := hb03.trans (hb4.mono hb03.size)
  go_wp2_with fail
  refine (HRO.out w4).mono ?_
  rintro e w' ⟨rfl, rfl⟩
  go_wp2_with (go_at_call 32; go_loud (refine (names22_calls _).mono ?_); rintro e w' ⟨rfl, rfl⟩)
  go_ret
  exact ⟨rfl, hb04⟩
/-- What holds of two checkpoints of one origin. -/
def Rel3 (MA MB X Y Z E S2 : Bool) (ea eb : Int) : Prop :=
  (X = false ∧ Y = false ∧ Z = false ∧ ea = 2) ∨ (X = false ∧ Y = false ∧ Z = false ∧ ea = 0 ∧ eb = 2) ∨
  (ea = 0 ∧ eb = 0 ∧ X = true ∧ Y = false ∧ Z = false ∧ E = false) ∨ (ea = 0 ∧ eb = 0 ∧ X = false ∧ Y = true ∧ Z = false ∧ E = false) ∨
  (ea = 0 ∧ eb = 0 ∧ X = true ∧ Y = true ∧ Z = false ∧ E = true) ∨ (ea = 0 ∧ eb = 0 ∧ X = false ∧ Y = false ∧ Z = true ∧ S2 = true)
theorem rel3 (s : ByteArray) (n n' : Int) (d d' : List UInt8) : Rel3 (mayB s n d) (mayB s n' d') (newB s n d s n' d') (newB s n' d' s n d) (splB s n d s n' d') (ckEq s n d s n' d') (splB s n' d' s n d) (if mayB s n d then 0 else 2) (if mayB s n' d' then 0 else 2) := by
  unfold Rel3
  rw [newB_ref, newB_ref, splB_ref, splB_ref]
  unfold ckEq
  rw [str_beq]
  simp only [decide_true, Bool.true_and]
  cases mayB s n d
  · exact .inl ⟨rfl, by simp, rfl, rfl⟩
  cases mayB s n' d'
  · exact .inr (.inl ⟨rfl, rfl, rfl, rfl, rfl⟩)
  refine .inr (.inr ?_)
  rcases (show n' < n ∨ n < n' ∨ n = n' by omega) with h | h | h
  · exact .inl ⟨rfl, rfl, by simp [h], by simp; omega, by simp; omega, by simp; omega⟩
  · exact .inr (.inl ⟨rfl, rfl, by simp; omega, by simp [h], by simp; omega, by simp; omega⟩)
  · subst h
    by_cases hd : d = d'
    · subst hd
      exact .inr (.inr (.inl ⟨rfl, rfl, by simp, by simp, by simp, by simp⟩))
    · exact .inr (.inr (.inr ⟨rfl, rfl, by simp [hd], by simp [Ne.symm hd], by simp [hd], by simp [Ne.symm hd]⟩))
theorem fmt_val (s : ByteArray) (n : Int) (d : List UInt8) : ∃ tx : ByteArray, (if mayB s n d then Value.tuple #[.string (str (ckT s n d)), .int .i64 0] else .tuple #[.string ⟨#[]⟩, .int .i64 2]) = .tuple #[.string tx, .int .i64 (if mayB s n d then 0 else 2)] := by
  cases mayB s n d
  · exact ⟨_, rfl⟩
  · exact ⟨_, rfl⟩
theorem sizeSt1 : (Tryd.prog.info? 9).map (fun i => i.size) = some 1 := by kernel_rfl
attribute [local go_sem ↓] ldCk
set_option maxRecDepth 100000 in
set_option maxHeartbeats 4000000 in
theorem three_law (s : ByteArray) (n : Int) (d : List UInt8) (s' : ByteArray) (n' : Int) (d' : List UInt8) (hd : d.length = 32) (hd' : d'.length = 32) (w : World) (hT : Tabs w) (hK : Kon w) (hP : Pows w) : Calls Tryd.prog 6 #[ckV s n d, ckV s' n' d'] w fun e w' => e = .returned (.bool true) ∧ Below w.heap.size w w' := by
  have hl := ck_len s n d hd
  have hl0 := ck_len s' n' d' hd'
  have hl' := ck_len s n' d' hd'
  have hrel := rel3 s n n' d d'
  obtain ⟨ta, hta⟩ := fmt_val s n d
  obtain ⟨tb, htb⟩ := fmt_val s n' d'
  have hfa : ∀ w', Below w.heap.size w w' → Calls Tryd.prog 28 #[ckV s n d] w' _ := fun w' hb => format_calls s n d hd w' (Utf8Tabs_below hT hb) (hK.below hb) (hP.below hb)
  have hfb : ∀ w', Below w.heap.size w w' → Calls Tryd.prog 28 #[ckV s n' d'] w' _ := fun w' hb => format_calls s n' d' hd' w' (Utf8Tabs_below hT hb) (hK.below hb) (hP.below hb)
  rw [hta] at hfa
  rw [htb] at hfb
  have heq := fun w => run_eql_ck w s n d s n' d' hd hd'
  have h1 : ∀ w', Below w.heap.size w w' → Calls Tryd.prog 23 #[ckV s n d, ckV s n' d'] w' _ := fun w' hb => newer_calls s n d s n' d' hd hd' w' (Utf8Tabs_below hT hb) (hK.below hb)
  have h2 : ∀ w', Below w.heap.size w w' → Calls Tryd.prog 23 #[ckV s n' d', ckV s n d] w' _ := fun w' hb => newer_calls s n' d' s n d hd' hd w' (Utf8Tabs_below hT hb) (hK.below hb)
  have h3 : ∀ w', Below w.heap.size w w' → Calls Tryd.prog 25 #[ckV s n d, ckV s n' d'] w' _ := fun w' hb => split_calls s n d s n' d' hd hd' w' (Utf8Tabs_below hT hb) (hK.below hb)
  have h4 : ∀ w', Below w.heap.size w w' → Calls Tryd.prog 25 #[ckV s n' d', ckV s n d] w' _ := fun w' hb => split_calls s n' d' s n d hd' hd w' (Utf8Tabs_below hT hb) (hK.below hb)
  generalize newB s n d s n' d' = X at hrel h1
  generalize newB s n' d' s n d = Y at hrel h2
  generalize splB s n d s n' d' = Z at hrel h3
  generalize splB s n' d' s n d = S2 at hrel h4
  generalize ckEq s n d s n' d' = E at hrel heq
  generalize (if mayB s n d then (0 : Int) else 2) = ea at hrel hta hfa
  generalize (if mayB s n' d' then (0 : Int) else 2) = eb at hrel htb hfb
  unfold ckV at h1 h2 h3
  have G1 := fun g1 g2 w' (h : Keep g1 g2 w (ckL s n d) (ckL s n' d') w') => (h1 w' h.fin).mono (R' := fun e w'' => e = .returned (.bool X) ∧ Keep g1 g2 w (ckL s n d) (ckL s n' d') w'') (by rintro e w'' ⟨rfl, hb⟩; exact ⟨rfl, h.below hb⟩)
  have G2 := fun g1 g2 w' (h : Keep g1 g2 w (ckL s n d) (ckL s n' d') w') => (h2 w' h.fin).mono (R' := fun e w'' => e = .returned (.bool Y) ∧ Keep g1 g2 w (ckL s n d) (ckL s n' d') w'') (by rintro e w'' ⟨rfl, hb⟩; exact ⟨rfl, h.below hb⟩)
  have G3 := fun g1 g2 w' (h : Keep g1 g2 w (ckL s n d) (ckL s n' d') w') => (h3 w' h.fin).mono (R' := fun e w'' => e = .returned (.bool Z) ∧ Keep g1 g2 w (ckL s n d) (ckL s n' d') w'') (by rintro e w'' ⟨rfl, hb⟩; exact ⟨rfl, h.below hb⟩)
  have H1 := Lib.hid G1
  have H2 := Lib.hid G2
  have H3 := Lib.hid G3
  have H4 := Lib.hid h4
  have HFA := Lib.hid hfa
  have HFB := Lib.hid hfb
  have HL := Lib.hid hl
  have HL' := Lib.hid hl'
  have HL0 := Lib.hid hl0
  have HREL := Lib.hid hrel
  have HEQ := Lib.hid heq
  clear h1 h2 h3 h4 G1 G2 G3 hl hl' hl0 hT hK hP hd hd' hrel hta htb hfa hfb heq
  go_enter Tryd.func6, Tryd.ntmps6
  go_wp2_with (first | (((with_reducible refine gate_dst (N := 2) rfl ?_); go_loud (refine wp_box rfl _ _ rfl (v := ckV s n d) rfl ?_); intro w1 hk1 hb1 hz1); rw [ck_cells] at hk1) | (((with_reducible refine gate_dst (N := 3) rfl ?_); go_loud (refine wp_box rfl _ _ rfl (v := ckV s' n' d') rfl ?_); intro w2 hk2 hb2 hz2); rw [ck_cells] at hk2; have hk1b := hk1.below hb2; have c0 : w2.cell? ⟨w.heap.size, 0, none⟩ = some (.string s) := hk1b.cell 0) | ((with_reducible refine gate_store (t := 9) (p := 14) rfl ?_); go_loud (refine wp_store_cell rfl 9 _ _ rfl rfl sizeSt1 rfl hk2 (i := 0) (by rw [HL0.out]; decide) (v := .string s) rfl rfl rfl ?_); intro w3 hk3 hg3; have hk3' : Blk w3 w1.heap.size 51 (ckL s n' d') := hk3; have hk13 : Blk w3 w.heap.size 51 (ckL s n d) := hk1b.grown hg3 (fun e => by injection e with e; omega)) | (((with_reducible refine gate_dst (N := 16) rfl ?_); go_loud (refine wp_load_blk rfl 51 _ rfl aggCk sizeCk rfl hk13 (HL.out) ?_))))
  have hb03 : Below w.heap.size w w3 := (hb1.trans (hb2.mono hb1.size)).grown hg3 (by have := hb1.size; have := hb2.size; omega) (fun r e => by injection e with e; omega)
  clear hk1 hk2 hk1b hk3 c0
  refine (HFA.out _ hb03).mono ?_
  rintro e w4 ⟨rfl, hb4⟩
  have hk14 := hk13.below hb4
  have hk34 := hk3'.below hb4
  have hb04 : Below w.heap.size w w4 := hb03.trans (hb4.mono hb03.size)
  clear hk13 hk3'
  go_wp2_with (((with_reducible refine gate_dst (N := 21) rfl ?_); go_loud (refine wp_load_blk rfl 51 _ rfl aggCk sizeCk rfl hk34 (HL'.out) ?_)))
  refine (HFB.out _ hb04).mono ?_
  rintro e w5 ⟨rfl, hb5⟩
  have hb05 : Below w.heap.size w w5 := hb04.trans (hb5.mono hb04.size)
  have HK := Lib.hid (Keep.mk hb05 (hk14.below hb5) (hk34.below hb5) hb05.size HL.out HL'.out)
  clear hk14 hk34 hb1 hb2 hz1 hz2 hb03 hb04 hb05 hb4 hb5 hg3
  go_wp2_with fail
  go_region_held3 (fun wr => isAt wr (.pointer (some ⟨w.heap.size, 0, none⟩)) 34 = true ∧ atV wr (.pointer (some ⟨w.heap.size, 0, none⟩)) 34 = ckL s n d ∧ isAt wr (.pointer (some ⟨w1.heap.size, 0, none⟩)) 34 = true ∧ atV wr (.pointer (some ⟨w1.heap.size, 0, none⟩)) 34 = ckL s n' d' ∧ (Below w.heap.size w wr ∧ Blk wr w.heap.size 51 (ckL s n d) ∧ Blk wr w1.heap.size 51 (ckL s n' d') ∧ w.heap.size ≤ wr.heap.size ∧ (ckL s n d).length = 34 ∧ (ckL s n' d').length = 34))
    (first | exact hN | exact HK.out.drew)
    (first
      | (go_at_call 23; ((first | ((with_reducible refine (H1.out w.heap.size w1.heap.size _ ?k1).mono ?_); (case k1 => assumption)) | ((with_reducible refine (H2.out w.heap.size w1.heap.size _ ?k2).mono ?_); (case k2 => assumption))); rintro e wN ⟨rfl, hN⟩))
      | (go_at_call 25; ((with_reducible refine (H3.out w.heap.size w1.heap.size _ ?k3).mono ?_); (case k3 => assumption)); rintro e wN ⟨rfl, hN⟩))
  all_goals
    have hF : Keep w.heap.size w1.heap.size w (ckL s n d) (ckL s n' d') wN := hN
    have hbF := hF.fin
    have kA := hF.2.2.2.2.2.1
    have kB := hF.2.2.2.2.2.2.1
    have HEQ' := HEQ.out
    rcases HREL.out with ⟨rfl, rfl, rfl, rfl⟩ | ⟨rfl, rfl, rfl, rfl, rfl⟩ | ⟨rfl, rfl, rfl, rfl, rfl, rfl⟩ | ⟨rfl, rfl, rfl, rfl, rfl, rfl⟩ | ⟨rfl, rfl, rfl, rfl, rfl, rfl⟩ | ⟨rfl, rfl, rfl, rfl, rfl, rfl⟩
    · clear HEQ' hF hN
      go_wp2_with fail
      go_ret
      exact ⟨rfl, hbF⟩
    · clear HEQ' hF hN
      go_wp2_with fail
      go_ret
      exact ⟨rfl, hbF⟩
    · clear hF hN
      go_wp2_with (first | (((with_reducible refine gate_dst (N := 71) rfl ?_); go_loud (refine wp_load_blk rfl 51 _ rfl aggCk sizeCk rfl kA (HL.out) ?_))) | (((with_reducible refine gate_dst (N := 72) rfl ?_); go_loud (refine wp_load_blk rfl 51 _ rfl aggCk sizeCk rfl kB (HL'.out) ?_))))
      go_ret
      exact ⟨rfl, hbF⟩
    · clear hF hN
      go_wp2_with (first | (((with_reducible refine gate_dst (N := 71) rfl ?_); go_loud (refine wp_load_blk rfl 51 _ rfl aggCk sizeCk rfl kA (HL.out) ?_))) | (((with_reducible refine gate_dst (N := 72) rfl ?_); go_loud (refine wp_load_blk rfl 51 _ rfl aggCk sizeCk rfl kB (HL'.out) ?_))))
      go_ret
      exact ⟨rfl, hbF⟩
    · clear hF hN
      go_wp2_with (first | (((with_reducible refine gate_dst (N := 71) rfl ?_); go_loud (refine wp_load_blk rfl 51 _ rfl aggCk sizeCk rfl kA (HL.out) ?_))) | (((with_reducible refine gate_dst (N := 72) rfl ?_); go_loud (refine wp_load_blk rfl 51 _ rfl aggCk sizeCk rfl kB (HL'.out) ?_))))
      go_ret
      exact ⟨rfl, hbF⟩
    · clear HEQ' hF hN
      go_wp2_with (first | (((with_reducible refine gate_dst (N := 58) rfl ?_); go_loud (refine wp_load_blk rfl 51 _ rfl aggCk sizeCk rfl kB (HL'.out) ?_))) | (((with_reducible refine gate_dst (N := 59) rfl ?_); go_loud (refine wp_load_blk rfl 51 _ rfl aggCk sizeCk rfl kA (HL.out) ?_))))
      refine (H4.out _ hbF).mono ?_
      rintro e w6 ⟨rfl, hb6⟩
      have hb06 : Below w.heap.size w w6 := hbF.trans (hb6.mono hbF.size)
      go_wp2_with fail
      go_ret
      exact ⟨rfl, hb06⟩
end Go.Proofs.YtfefcfjedlidnaaDoor.Sha
