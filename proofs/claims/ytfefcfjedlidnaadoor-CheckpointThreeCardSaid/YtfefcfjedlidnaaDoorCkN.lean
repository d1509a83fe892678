/- checkpoint.Newer, Split and the reference's. -/
import Derived.Laws.StructEq
import Derived.Test.YtfefcfjedlidnaaDoorCkP
namespace Go.Proofs.YtfefcfjedlidnaaDoor.Sha
open Go Go.RowKit Go.Proofs Go.Proofs.YtfefcfjedlidnaaDoor.Cop Go.Proofs.YtfefcfjedlidnaaDoor.Oct Go.Proofs.YtfefcfjedlidnaaDoor.Utf
set_option linter.unusedVariables false
set_option linter.unusedSimpArgs false
theorem sizeCk : (Tryd.prog.info? 51).map (fun i => i.size) = some 34 := by kernel_rfl
theorem aggCk (w : World) : (isAgg 51).run Tryd.prog w = .ok true w := by kernel_rfl
theorem ck_len (s : ByteArray) (n : Int) (d : List UInt8) (h : d.length = 32) : (ckL s n d).length = 34 := by simp [ckL, bcs_length, h]
theorem bcs_cell (d : List UInt8) : bcs d = d.map Extern.Stop.cell := rfl
/-- Two checkpoints are one. -/
def ckEq (s : ByteArray) (n : Int) (d : List UInt8) (s' : ByteArray) (n' : Int) (d' : List UInt8) : Bool := (s.toList == s'.toList) && (n == n') && (d == d')
theorem ck_hd (w : World) (d d' : List UInt8) (h : d.length = 32) (h' : d'.length = 32) (N : Nat) : (Op.equalIn (N + 2) 28 (.agg (bcs d).toArray) (.agg (bcs d').toArray)).run Tryd.prog w = .ok (d == d') w :=
  run_equalIn_bytes w N 28 5 32 Tryd.underlying28 Tryd.underlying5 (fun w => Go.Proofs.YtfefcfjedlidnaaDoor.Cop.run_sizeOf size8 w) d d' h h'
theorem ck_hi (w : World) (e : Nat) (x y : Int) : (Op.equalIn (e + 1) 3 (.int .i64 x) (.int .i64 y)).run Tryd.prog w = .ok (x == y) w := run_equalIn_int w e _ .i64 .i64 x y Tryd.underlying3
theorem ck_hs (w : World) (e : Nat) (x y : ByteArray) : (Op.equalIn (e + 1) 9 (.string x) (.string y)).run Tryd.prog w = .ok (x.toList == y.toList) w := run_equalIn_string w e _ x y Tryd.underlying9
theorem ck_p1 (w : World) (t : TypeId) (ha : (isAgg t).run Tryd.prog w = .ok false w) (hsz : (Tryd.prog.info? t).map (fun i => i.size) = some 1) (vs : Array Value) (o : Nat) (v : Value) (hv : vs[o]? = some v) : (part t vs o).run Tryd.prog w = .ok v w := by
  simp [part, ha, Go.Proofs.YtfefcfjedlidnaaDoor.Cop.run_sizeOf hsz, hv]
theorem ck_pd (w : World) (s : ByteArray) (n : Int) (d : List UInt8) (hd : d.length = 32) : (part 28 (ckL s n d).toArray 2).run Tryd.prog w = .ok (.agg (bcs d).toArray) w := by
  have e : (ckL s n d).toArray.extract 2 (2 + 32) = (bcs d).toArray := by
    simp only [ckL, List.extract_toArray, List.extract_eq_take_drop, List.drop_succ_cons, List.drop_zero]
    rw [List.take_of_length_le (by rw [bcs_length, hd]; decide)]
  generalize (ckL s n d).toArray = X at e ⊢
  simp only [part, Sem.run_bind, aggD, Result.andThen_ok, if_true, Go.Proofs.YtfefcfjedlidnaaDoor.Cop.run_sizeOf sizeD, e, Sem.run_pure]
theorem ck_f : (Tryd.prog.fieldsOf 51).toList = [⟨"Origin", 9, 0, false, "", "", 0⟩, ⟨"Size", 3, 1, false, "", "", 16⟩, ⟨"Root", 28, 2, false, "", "", 24⟩] := by kernel_rfl
theorem ck_u : Tryd.prog.underlying 51 = some (.struct (Tryd.prog.fieldsOf 51)) := by kernel_rfl
theorem ck_h : Tryd.prog.stoodInHeld 51 = false := by kernel_rfl
theorem ck_s1 (w : World) : (isAgg 9).run Tryd.prog w = .ok false w := by kernel_rfl
theorem ck_s2 (w : World) : (isAgg 3).run Tryd.prog w = .ok false w := by kernel_rfl
theorem ck_s3 : (Tryd.prog.info? 9).map (fun i => i.size) = some 1 := by kernel_rfl
theorem ck_s4 : (Tryd.prog.info? 3).map (fun i => i.size) = some 1 := by kernel_rfl
theorem ck_fields (w : World) (N : Nat) (X Y : Array Value) (s : ByteArray) (n : Int) (D : Value) (s' : ByteArray) (n' : Int) (D' : Value) (r : Bool)
    (q0 : (part 9 X 0).run Tryd.prog w = .ok (.string s) w) (q1 : (part 3 X 1).run Tryd.prog w = .ok (.int .i64 n) w) (q2 : (part 28 X 2).run Tryd.prog w = .ok D w)
    (p0 : (part 9 Y 0).run Tryd.prog w = .ok (.string s') w) (p1 : (part 3 Y 1).run Tryd.prog w = .ok (.int .i64 n') w) (p2 : (part 28 Y 2).run Tryd.prog w = .ok D' w)
    (hd : (Op.equalIn (N + 2) 28 D D').run Tryd.prog w = .ok r w) :
    (Op.eqFields (N + 2) X Y [⟨"Origin", 9, 0, false, "", "", 0⟩, ⟨"Size", 3, 1, false, "", "", 16⟩, ⟨"Root", 28, 2, false, "", "", 24⟩]).run Tryd.prog w = .ok ((s.toList == s'.toList) && (n == n') && r) w := by
  have hi := ck_hi w (N + 1)
  have hs := ck_hs w (N + 1)
  have n1 : ("Origin" ≠ "_") = True := by decide
  have n2 : ("Size" ≠ "_") = True := by decide
  have n3 : ("Root" ≠ "_") = True := by decide
  simp only [Op.eqFields, Sem.run_bind, Sem.run_ite, n1, n2, n3, if_true, q0, q1, q2, p0, p1, p2, hi, hs, hd, Result.andThen_ok]
  cases (s.toList == s'.toList) <;> cases (n == n') <;> cases r <;> simp [Result.andThen]
theorem run_ckEq (w : World) (s : ByteArray) (n : Int) (d : List UInt8) (s' : ByteArray) (n' : Int) (d' : List UInt8) (h : d.length = 32) (h' : d'.length = 32) :
    (Op.equalIn 10000 51 (ckV s n d) (ckV s' n' d')).run Tryd.prog w = .ok (ckEq s n d s' n' d') w := by
  have e := run_equalIn_struct (P := Tryd.prog) w (9997 + 2) 51 (ckL s n d).toArray (ckL s' n' d').toArray ck_u ck_h
  rw [ck_f, ck_fields w 9997 _ _ s n _ s' n' _ _ (ck_p1 w 9 (ck_s1 w) ck_s3 (ckL s n d).toArray 0 (.string s) rfl) (ck_p1 w 3 (ck_s2 w) ck_s4 (ckL s n d).toArray 1 (.int .i64 n) rfl) (ck_pd w s n d h) (ck_p1 w 9 (ck_s1 w) ck_s3 (ckL s' n' d').toArray 0 (.string s') rfl) (ck_p1 w 3 (ck_s2 w) ck_s4 (ckL s' n' d').toArray 1 (.int .i64 n') rfl) (ck_pd w s' n' d' h') (ck_hd w d d' h h' 9997)] at e
  exact e
theorem run_eql_ck (w : World) (s : ByteArray) (n : Int) (d : List UInt8) (s' : ByteArray) (n' : Int) (d' : List UInt8) (h : d.length = 32) (h' : d'.length = 32) :
    (binOp .eql 51 (.agg (ckL s n d).toArray) (.agg (ckL s' n' d').toArray)).run Tryd.prog w = .ok (.bool (ckEq s n d s' n' d')) w := by
  have := run_ckEq w s n d s' n' d' h h'
  unfold ckV at this
  rw [run_eql_struct, this]; rfl
theorem run_neq_ck (w : World) (s : ByteArray) (n : Int) (d : List UInt8) (s' : ByteArray) (n' : Int) (d' : List UInt8) (h : d.length = 32) (h' : d'.length = 32) :
    (binOp .neq 51 (.agg (ckL s n d).toArray) (.agg (ckL s' n' d').toArray)).run Tryd.prog w = .ok (.bool (!ckEq s n d s' n' d')) w := by
  have := run_ckEq w s n d s' n' d' h h'
  unfold ckV at this
  rw [run_neq_struct, this]; rfl
theorem str_beq (s s' : ByteArray) : (s.toList == s'.toList) = decide (s = s') := by
  rw [Bool.eq_iff_iff]
  simp only [beq_iff_eq, decide_eq_true_eq]
  constructor
  · intro h
    have h' : s.data.toList = s'.data.toList := by rw [← ByteArray.toList_eq, ← ByteArray.toList_eq]; exact h
    cases s; cases s'
    simp at h'
    simp [h']
  · rintro rfl; rfl
def newB (s : ByteArray) (n : Int) (d : List UInt8) (s' : ByteArray) (n' : Int) (d' : List UInt8) : Bool := mayB s n d && mayB s' n' d' && (ckEq s n d s' n' d' || (decide (s = s') && decide (n' < n)))
def splB (s : ByteArray) (n : Int) (d : List UInt8) (s' : ByteArray) (n' : Int) (d' : List UInt8) : Bool := mayB s n d && mayB s' n' d' && !ckEq s n d s' n' d' && (decide (s = s') && (n == n'))
theorem newB_ref (s : ByteArray) (n : Int) (d : List UInt8) (s' : ByteArray) (n' : Int) (d' : List UInt8) : newB s n d s' n' d' = (mayB s n d && (mayB s' n' d' && (decide (s = s') && (decide (n' < n) || ((n == n') && (d == d')))))) := by
  unfold newB ckEq
  rw [str_beq]
  cases mayB s n d <;> cases mayB s' n' d' <;> cases decide (s = s') <;> cases decide (n' < n) <;> cases (n == n') <;> cases (d == d') <;> rfl
theorem splB_ref (s : ByteArray) (n : Int) (d : List UInt8) (s' : ByteArray) (n' : Int) (d' : List UInt8) : splB s n d s' n' d' = (mayB s n d && (mayB s' n' d' && (decide (s = s') && ((n == n') && !(d == d'))))) := by
  unfold splB ckEq
  rw [str_beq]
  cases mayB s n d <;> cases mayB s' n' d' <;> cases decide (s = s') <;> cases (n == n') <;> cases (d == d') <;> rfl
theorem newB_self (s : ByteArray) (n : Int) (d : List UInt8) : newB s n d s n d = mayB s n d := by
  rw [newB_ref]; simp
theorem splB_self (s : ByteArray) (n : Int) (d : List UInt8) : splB s n d s n d = false := by
  rw [splB_ref]; simp
set_option maxRecDepth 100000 in
set_option maxHeartbeats 1000000 in
theorem newer_calls (s : ByteArray) (n : Int) (d : List UInt8) (s' : ByteArray) (n' : Int) (d' : List UInt8) (hd : d.length = 32) (hd' : d'.length = 32) (w : World) (hT : Tabs w) (hK : Kon w) : Calls Tryd.prog 23 #[ckV s n d, ckV s' n' d'] w fun e w' => e = .returned (.bool (newB s n d s' n' d')) ∧ Below w.heap.size w w' := by
  have hma : ∀ w', Below w.heap.size w w' → Calls Tryd.prog 72 #[ckV s n d] w' fun e w'' => e = .returned (.bool (mayB s n d)) ∧ Below w'.heap.size w' w'' := fun w' hb => may_calls s n d hd w' (Utf8Tabs_below hT hb) (hK.below hb)
  have hmb : ∀ w', Below w.heap.size w w' → Calls Tryd.prog 72 #[ckV s' n' d'] w' fun e w'' => e = .returned (.bool (mayB s' n' d')) ∧ Below w'.heap.size w' w'' := fun w' hb => may_calls s' n' d' hd' w' (Utf8Tabs_below hT hb) (hK.below hb)
  have hl := ck_len s n d hd
  have hl' := ck_len s' n' d' hd'
  have heq := fun w => run_eql_ck w s n d s' n' d' hd hd'
  obtain ⟨MA, hMA⟩ : ∃ b, mayB s n d = b := ⟨_, rfl⟩
  obtain ⟨MB, hMB⟩ : ∃ b, mayB s' n' d' = b := ⟨_, rfl⟩
  obtain ⟨SE, hSE⟩ : ∃ b, decide (s = s') = b := ⟨_, rfl⟩
  obtain ⟨GT, hGT⟩ : ∃ b, decide (n' < n) = b := ⟨_, rfl⟩
  obtain ⟨E, hE⟩ : ∃ b, ckEq s n d s' n' d' = b := ⟨_, rfl⟩
  have hres : newB s n d s' n' d' = (MA && MB && (E || (SE && GT))) := by unfold newB; rw [hMA, hMB, hE, hSE, hGT]
  rw [hMA] at hma
  rw [hMB] at hmb
  rw [hE] at heq
  rw [hres]
  have HSE := Lib.hid hSE
  clear hE hres hMA hMB hSE
  have HMA := Lib.hid hma
  have HMB := Lib.hid hmb
  have HL := Lib.hid hl
  have HL' := Lib.hid hl'
  clear hma hmb hl hl' hd hd' hT hK
  go_enter Tryd.func23, Tryd.ntmps23
  go_wp2_with (first | (((with_reducible refine gate_dst (N := 2) rfl ?_); go_loud (refine wp_box rfl _ _ rfl (v := ckV s n d) rfl ?_); intro w1 hk1 hb1 hz1); rw [ck_cells] at hk1) | (((with_reducible refine gate_dst (N := 3) rfl ?_); go_loud (refine wp_box rfl _ _ rfl (v := ckV s' n' d') rfl ?_); intro w2 hk2 hb2 hz2); rw [ck_cells] at hk2) | (((with_reducible refine gate_dst (N := 5) rfl ?_); go_loud (refine wp_load_blk rfl 51 _ rfl aggCk sizeCk rfl (hk1.below hb2) (HL.out) ?_))))
  have hk12 := hk1.below hb2
  have hb02 : Below w.heap.size w w2 := hb1.trans (hb2.mono hb1.size)
  refine (HMA.out w2 hb02).mono ?_
  rintro e w3 ⟨rfl, hb3⟩
  have hk13 := hk12.below hb3
  have hk23 := hk2.below hb3
  have hb03 : Below w.heap.size w w3 := hb02.trans (hb3.mono hb02.size)
  clear hk1 hk12 hk2
  cases MA with
  | false =>
    go_wp2_with fail
    go_ret
    exact ⟨rfl, hb03⟩
  | true =>
    go_wp2_with (((with_reducible refine gate_dst (N := 8) rfl ?_); go_loud (refine wp_load_blk rfl 51 _ rfl aggCk sizeCk rfl hk23 (HL'.out) ?_)))
    refine (HMB.out w3 hb03).mono ?_
    rintro e w4 ⟨rfl, hb4⟩
    have hk14 := hk13.below hb4
    have hk24 := hk23.below hb4
    have hb04 : Below w.heap.size w w4 := hb03.trans (hb4.mono hb03.size)
    have c0 : w4.cell? ⟨w.heap.size, 0, none⟩ = some (.string s) := hk14.cell 0
    have c1 : w4.cell? ⟨w.heap.size, 1, none⟩ = some (.int .i64 n) := hk14.cell 1
    have c2 : w4.cell? ⟨w1.heap.size, 0, none⟩ = some (.string s') := hk24.cell 0
    have c3 : w4.cell? ⟨w1.heap.size, 1, none⟩ = some (.int .i64 n') := hk24.cell 1
    clear hk13 hk23
    cases MB with
    | false =>
      go_wp2_with fail
      go_ret
      exact ⟨rfl, hb04⟩
    | true =>
      cases E with
      | true =>
        go_wp2_with (first | (((with_reducible refine gate_dst (N := 12) rfl ?_); go_loud (refine wp_load_blk rfl 51 _ rfl aggCk sizeCk rfl hk14 (HL.out) ?_))) | (((with_reducible refine gate_dst (N := 13) rfl ?_); go_loud (refine wp_load_blk rfl 51 _ rfl aggCk sizeCk rfl hk24 (HL'.out) ?_))))
        go_ret
        exact ⟨rfl, hb04⟩
      | false =>
        cases SE with
        | false =>
          go_wp2_with (first | (((with_reducible refine gate_dst (N := 12) rfl ?_); go_loud (refine wp_load_blk rfl 51 _ rfl aggCk sizeCk rfl hk14 (HL.out) ?_))) | (((with_reducible refine gate_dst (N := 13) rfl ?_); go_loud (refine wp_load_blk rfl 51 _ rfl aggCk sizeCk rfl hk24 (HL'.out) ?_))) | (((with_reducible refine gate_dst (N := 20) rfl ?_); go_loud (refine wp_eq_str rfl _ _ _ _ rfl rfl rfl (HSE.out) ?_))))
          go_ret
          exact ⟨rfl, hb04⟩
        | true =>
          go_wp2_with (first | (((with_reducible refine gate_dst (N := 12) rfl ?_); go_loud (refine wp_load_blk rfl 51 _ rfl aggCk sizeCk rfl hk14 (HL.out) ?_))) | (((with_reducible refine gate_dst (N := 13) rfl ?_); go_loud (refine wp_load_blk rfl 51 _ rfl aggCk sizeCk rfl hk24 (HL'.out) ?_))) | (((with_reducible refine gate_dst (N := 20) rfl ?_); go_loud (refine wp_eq_str rfl _ _ _ _ rfl rfl rfl (HSE.out) ?_))))
          go_ret
          exact ⟨rfl, hb04⟩
set_option maxRecDepth 100000 in
set_option maxHeartbeats 1000000 in
theorem split_calls (s : ByteArray) (n : Int) (d : List UInt8) (s' : ByteArray) (n' : Int) (d' : List UInt8) (hd : d.length = 32) (hd' : d'.length = 32) (w : World) (hT : Tabs w) (hK : Kon w) : Calls Tryd.prog 25 #[ckV s n d, ckV s' n' d'] w fun e w' => e = .returned (.bool (splB s n d s' n' d')) ∧ Below w.heap.size w w' := by
  have hma : ∀ w', Below w.heap.size w w' → Calls Tryd.prog 72 #[ckV s n d] w' fun e w'' => e = .returned (.bool (mayB s n d)) ∧ Below w'.heap.size w' w'' := fun w' hb => may_calls s n d hd w' (Utf8Tabs_below hT hb) (hK.below hb)
  have hmb : ∀ w', Below w.heap.size w w' → Calls Tryd.prog 72 #[ckV s' n' d'] w' fun e w'' => e = .returned (.bool (mayB s' n' d')) ∧ Below w'.heap.size w' w'' := fun w' hb => may_calls s' n' d' hd' w' (Utf8Tabs_below hT hb) (hK.below hb)
  have hl := ck_len s n d hd
  have hl' := ck_len s' n' d' hd'
  have heq := fun w => run_neq_ck w s n d s' n' d' hd hd'
  obtain ⟨MA, hMA⟩ : ∃ b, mayB s n d = b := ⟨_, rfl⟩
  obtain ⟨MB, hMB⟩ : ∃ b, mayB s' n' d' = b := ⟨_, rfl⟩
  obtain ⟨SE, hSE⟩ : ∃ b, decide (s = s') = b := ⟨_, rfl⟩
  obtain ⟨NE, hNE⟩ : ∃ b, (n == n') = b := ⟨_, rfl⟩
  obtain ⟨E, hE⟩ : ∃ b, ckEq s n d s' n' d' = b := ⟨_, rfl⟩
  have hres : splB s n d s' n' d' = (MA && MB && !E && (SE && NE)) := by unfold splB; rw [hMA, hMB, hE, hSE, hNE]
  rw [hMA] at hma
  rw [hMB] at hmb
  rw [hE] at heq
  rw [hres]
  have HSE := Lib.hid hSE
  clear hE hres hMA hMB hSE
  have HMA := Lib.hid hma
  have HMB := Lib.hid hmb
  have HL := Lib.hid hl
  have HL' := Lib.hid hl'
  clear hma hmb hl hl' hd hd' hT hK
  go_enter Tryd.func25, Tryd.ntmps25
  go_wp2_with (first | (((with_reducible refine gate_dst (N := 2) rfl ?_); go_loud (refine wp_box rfl _ _ rfl (v := ckV s n d) rfl ?_); intro w1 hk1 hb1 hz1); rw [ck_cells] at hk1) | (((with_reducible refine gate_dst (N := 3) rfl ?_); go_loud (refine wp_box rfl _ _ rfl (v := ckV s' n' d') rfl ?_); intro w2 hk2 hb2 hz2); rw [ck_cells] at hk2) | (((with_reducible refine gate_dst (N := 5) rfl ?_); go_loud (refine wp_load_blk rfl 51 _ rfl aggCk sizeCk rfl (hk1.below hb2) (HL.out) ?_))))
  have hk12 := hk1.below hb2
  have hb02 : Below w.heap.size w w2 := hb1.trans (hb2.mono hb1.size)
  refine (HMA.out w2 hb02).mono ?_
  rintro e w3 ⟨rfl, hb3⟩
  have hk13 := hk12.below hb3
  have hk23 := hk2.below hb3
  have hb03 : Below w.heap.size w w3 := hb02.trans (hb3.mono hb02.size)
  clear hk1 hk12 hk2
  cases MA with
  | false =>
    go_wp2_with fail
    go_ret
    exact ⟨rfl, hb03⟩
  | true =>
    go_wp2_with (((with_reducible refine gate_dst (N := 8) rfl ?_); go_loud (refine wp_load_blk rfl 51 _ rfl aggCk sizeCk rfl hk23 (HL'.out) ?_)))
    refine (HMB.out w3 hb03).mono ?_
    rintro e w4 ⟨rfl, hb4⟩
    have hk14 := hk13.below hb4
    have hk24 := hk23.below hb4
    have hb04 : Below w.heap.size w w4 := hb03.trans (hb4.mono hb03.size)
    have c0 : w4.cell? ⟨w.heap.size, 0, none⟩ = some (.string s) := hk14.cell 0
    have c1 : w4.cell? ⟨w.heap.size, 1, none⟩ = some (.int .i64 n) := hk14.cell 1
    have c2 : w4.cell? ⟨w1.heap.size, 0, none⟩ = some (.string s') := hk24.cell 0
    have c3 : w4.cell? ⟨w1.heap.size, 1, none⟩ = some (.int .i64 n') := hk24.cell 1
    clear hk13 hk23
    cases MB with
    | false =>
      go_wp2_with fail
      go_ret
      exact ⟨rfl, hb04⟩
    | true =>
      cases E with
      | true =>
        go_wp2_with (first | (((with_reducible refine gate_dst (N := 12) rfl ?_); go_loud (refine wp_load_blk rfl 51 _ rfl aggCk sizeCk rfl hk14 (HL.out) ?_))) | (((with_reducible refine gate_dst (N := 13) rfl ?_); go_loud (refine wp_load_blk rfl 51 _ rfl aggCk sizeCk rfl hk24 (HL'.out) ?_))))
        go_ret
        exact ⟨rfl, hb04⟩
      | false =>
        cases SE with
        | false =>
          go_wp2_with (first | (((with_reducible refine gate_dst (N := 12) rfl ?_); go_loud (refine wp_load_blk rfl 51 _ rfl aggCk sizeCk rfl hk14 (HL.out) ?_))) | (((with_reducible refine gate_dst (N := 13) rfl ?_); go_loud (refine wp_load_blk rfl 51 _ rfl aggCk sizeCk rfl hk24 (HL'.out) ?_))) | (((with_reducible refine gate_dst (N := 21) rfl ?_); go_loud (refine wp_eq_str rfl _ _ _ _ rfl rfl rfl (HSE.out) ?_))))
          go_ret
          exact ⟨rfl, hb04⟩
        | true =>
          go_wp2_with (first | (((with_reducible refine gate_dst (N := 12) rfl ?_); go_loud (refine wp_load_blk rfl 51 _ rfl aggCk sizeCk rfl hk14 (HL.out) ?_))) | (((with_reducible refine gate_dst (N := 13) rfl ?_); go_loud (refine wp_load_blk rfl 51 _ rfl aggCk sizeCk rfl hk24 (HL'.out) ?_))) | (((with_reducible refine gate_dst (N := 21) rfl ?_); go_loud (refine wp_eq_str rfl _ _ _ _ rfl rfl rfl (HSE.out) ?_))))
          go_ret
          exact ⟨rfl, hb04⟩
set_option maxRecDepth 100000 in
set_option maxHeartbeats 1000000 in
theorem rnewer_calls (s : ByteArray) (n : Int) (d : List UInt8) (s' : ByteArray) (n' : Int) (d' : List UInt8) (hd : d.length = 32) (hd' : d'.length = 32) (w : World) : Calls Tryd.prog 24 #[ckV s n d, ckV s' n' d'] w fun e w' => e = .returned (.bool (newB s n d s' n' d')) ∧ Below w.heap.size w w' := by
  have hma : ∀ w', Below w.heap.size w w' → Calls Tryd.prog 27 #[ckV s n d] w' fun e w'' => e = .returned (.bool (mayB s n d)) ∧ Below w'.heap.size w' w'' := fun w' hb => rmay_calls s n d hd w'
  have hmb : ∀ w', Below w.heap.size w w' → Calls Tryd.prog 27 #[ckV s' n' d'] w' fun e w'' => e = .returned (.bool (mayB s' n' d')) ∧ Below w'.heap.size w' w'' := fun w' hb => rmay_calls s' n' d' hd' w'
  have hl := ck_len s n d hd
  have hl' := ck_len s' n' d' hd'
  have HDL : Hid ((bcs d).length = 32) := by rw [bcs_length]; exact hd
  have HDL' : Hid ((bcs d').length = 32) := by rw [bcs_length]; exact hd'
  have heq : ∀ w, (binOp .eql 28 (.agg (bcs d).toArray) (.agg (bcs d').toArray)).run Tryd.prog w = .ok (.bool (d == d')) w := fun w => run_eql_bytes (P := Tryd.prog) w 28 5 32 Tryd.underlying28 Tryd.underlying5 (fun w => Go.Proofs.YtfefcfjedlidnaaDoor.Cop.run_sizeOf size8 w) d d' hd hd'
  obtain ⟨MA, hMA⟩ : ∃ b, mayB s n d = b := ⟨_, rfl⟩
  obtain ⟨MB, hMB⟩ : ∃ b, mayB s' n' d' = b := ⟨_, rfl⟩
  obtain ⟨SE, hSE⟩ : ∃ b, decide (s = s') = b := ⟨_, rfl⟩
  obtain ⟨GT, hGT⟩ : ∃ b, decide (n' < n) = b := ⟨_, rfl⟩
  obtain ⟨NE, hNE⟩ : ∃ b, (n == n') = b := ⟨_, rfl⟩
  obtain ⟨DE, hDE⟩ : ∃ b, (d == d') = b := ⟨_, rfl⟩
  have hres : newB s n d s' n' d' = (MA && (MB && (SE && (GT || (NE && DE))))) := by rw [newB_ref, hMA, hMB, hDE, hSE, hGT, hNE]
  rw [hMA] at hma
  rw [hMB] at hmb
  rw [hDE] at heq
  rw [hres]
  have HSE := Lib.hid hSE
  clear hDE hres hMA hMB hSE
  have HMA := Lib.hid hma
  have HMB := Lib.hid hmb
  have HL := Lib.hid hl
  have HL' := Lib.hid hl'
  clear hma hmb hl hl' hd hd'
  go_enter Tryd.func24, Tryd.ntmps24
  go_wp2_with (first | (((with_reducible refine gate_dst (N := 2) rfl ?_); go_loud (refine wp_box rfl _ _ rfl (v := ckV s n d) rfl ?_); intro w1 hk1 hb1 hz1); rw [ck_cells] at hk1) | (((with_reducible refine gate_dst (N := 3) rfl ?_); go_loud (refine wp_box rfl _ _ rfl (v := ckV s' n' d') rfl ?_); intro w2 hk2 hb2 hz2); rw [ck_cells] at hk2) | (((with_reducible refine gate_dst (N := 5) rfl ?_); go_loud (refine wp_load_blk rfl 51 _ rfl aggCk sizeCk rfl (hk1.below hb2) (HL.out) ?_))))
  have hk12 := hk1.below hb2
  have hb02 : Below w.heap.size w w2 := hb1.trans (hb2.mono hb1.size)
  refine (HMA.out w2 hb02).mono ?_
  rintro e w3 ⟨rfl, hb3⟩
  have hk13 := hk12.below hb3
  have hk23 := hk2.below hb3
  have hb03 : Below w.heap.size w w3 := hb02.trans (hb3.mono hb02.size)
  clear hk1 hk12 hk2
  cases MA with
  | false =>
    go_wp2_with fail
    go_ret
    exact ⟨rfl, hb03⟩
  | true =>
    go_wp2_with (((with_reducible refine gate_dst (N := 8) rfl ?_); go_loud (refine wp_load_blk rfl 51 _ rfl aggCk sizeCk rfl hk23 (HL'.out) ?_)))
    refine (HMB.out w3 hb03).mono ?_
    rintro e w4 ⟨rfl, hb4⟩
    have hk14 := hk13.below hb4
    have hk24 := hk23.below hb4
    have hb04 : Below w.heap.size w w4 := hb03.trans (hb4.mono hb03.size)
    have c0 : w4.cell? ⟨w.heap.size, 0, none⟩ = some (.string s) := hk14.cell 0
    have c1 : w4.cell? ⟨w.heap.size, 1, none⟩ = some (.int .i64 n) := hk14.cell 1
    have c2 : w4.cell? ⟨w1.heap.size, 0, none⟩ = some (.string s') := hk24.cell 0
    have c3 : w4.cell? ⟨w1.heap.size, 1, none⟩ = some (.int .i64 n') := hk24.cell 1
    clear hk13 hk23
    cases MB with
    | false =>
      go_wp2_with fail
      go_ret
      exact ⟨rfl, hb04⟩
    | true =>
      cases SE with
      | false =>
        go_wp2_with (((with_reducible refine gate_dst (N := 16) rfl ?_); go_loud (refine wp_eq_str rfl _ _ _ _ rfl rfl rfl (HSE.out) ?_)))
        go_ret
        exact ⟨rfl, hb04⟩
      | true =>
        cases GT with
        | true =>
          go_wp2_with (((with_reducible refine gate_dst (N := 16) rfl ?_); go_loud (refine wp_eq_str rfl _ _ _ _ rfl rfl rfl (HSE.out) ?_)))
          go_ret
          exact ⟨rfl, hb04⟩
        | false =>
          cases NE with
          | false =>
            go_wp2_with (((with_reducible refine gate_dst (N := 16) rfl ?_); go_loud (refine wp_eq_str rfl _ _ _ _ rfl rfl rfl (HSE.out) ?_)))
            go_ret
            exact ⟨rfl, hb04⟩
          | true =>
            go_wp2_with (first | (((with_reducible refine gate_dst (N := 16) rfl ?_); go_loud (refine wp_eq_str rfl _ _ _ _ rfl rfl rfl (HSE.out) ?_))) | ((with_reducible refine gate_dst (N := 32) rfl ?_); go_loud (refine wp_load_agg rfl 28 _ rfl aggD sizeD rfl HDL.out (ck_dig s n d hk14) ?_)) | ((with_reducible refine gate_dst (N := 34) rfl ?_); go_loud (refine wp_load_agg rfl 28 _ rfl aggD sizeD rfl HDL'.out (ck_dig s' n' d' hk24) ?_)))
            go_ret
            exact ⟨rfl, hb04⟩
set_option maxRecDepth 100000 in
set_option maxHeartbeats 1000000 in
theorem rsplit_calls (s : ByteArray) (n : Int) (d : List UInt8) (s' : ByteArray) (n' : Int) (d' : List UInt8) (hd : d.length = 32) (hd' : d'.length = 32) (w : World) : Calls Tryd.prog 26 #[ckV s n d, ckV s' n' d'] w fun e w' => e = .returned (.bool (splB s n d s' n' d')) ∧ Below w.heap.size w w' := by
  have hma : ∀ w', Below w.heap.size w w' → Calls Tryd.prog 27 #[ckV s n d] w' fun e w'' => e = .returned (.bool (mayB s n d)) ∧ Below w'.heap.size w' w'' := fun w' hb => rmay_calls s n d hd w'
  have hmb : ∀ w', Below w.heap.size w w' → Calls Tryd.prog 27 #[ckV s' n' d'] w' fun e w'' => e = .returned (.bool (mayB s' n' d')) ∧ Below w'.heap.size w' w'' := fun w' hb => rmay_calls s' n' d' hd' w'
  have hl := ck_len s n d hd
  have hl' := ck_len s' n' d' hd'
  have HDL : Hid ((bcs d).length = 32) := by rw [bcs_length]; exact hd
  have HDL' : Hid ((bcs d').length = 32) := by rw [bcs_length]; exact hd'
  have heq : ∀ w, (binOp .neq 28 (.agg (bcs d).toArray) (.agg (bcs d').toArray)).run Tryd.prog w = .ok (.bool (!(d == d'))) w := fun w => by
    rw [bcs_cell, bcs_cell, run_neq_struct, run_equalIn_bytes w 9998 28 5 32 Tryd.underlying28 Tryd.underlying5 (fun w => Go.Proofs.YtfefcfjedlidnaaDoor.Cop.run_sizeOf size8 w) d d' hd hd']
    rfl
  obtain ⟨MA, hMA⟩ : ∃ b, mayB s n d = b := ⟨_, rfl⟩
  obtain ⟨MB, hMB⟩ : ∃ b, mayB s' n' d' = b := ⟨_, rfl⟩
  obtain ⟨SE, hSE⟩ : ∃ b, decide (s = s') = b := ⟨_, rfl⟩
  obtain ⟨NE, hNE⟩ : ∃ b, (n == n') = b := ⟨_, rfl⟩
  obtain ⟨DE, hDE⟩ : ∃ b, (d == d') = b := ⟨_, rfl⟩
  have hres : splB s n d s' n' d' = (MA && (MB && (SE && (NE && !DE)))) := by rw [splB_ref, hMA, hMB, hDE, hSE, hNE]
  rw [hMA] at hma
  rw [hMB] at hmb
  rw [hDE] at heq
  rw [hres]
  have HSE := Lib.hid hSE
  clear hDE hres hMA hMB hSE
  have HMA := Lib.hid hma
  have HMB := Lib.hid hmb
  have HL := Lib.hid hl
  have HL' := Lib.hid hl'
  clear hma hmb hl hl' hd hd'
  go_enter Tryd.func26, Tryd.ntmps26
  go_wp2_with (first | (((with_reducible refine gate_dst (N := 2) rfl ?_); go_loud (refine wp_box rfl _ _ rfl (v := ckV s n d) rfl ?_); intro w1 hk1 hb1 hz1); rw [ck_cells] at hk1) | (((with_reducible refine gate_dst (N := 3) rfl ?_); go_loud (refine wp_box rfl _ _ rfl (v := ckV s' n' d') rfl ?_); intro w2 hk2 hb2 hz2); rw [ck_cells] at hk2) | (((with_reducible refine gate_dst (N := 5) rfl ?_); go_loud (refine wp_load_blk rfl 51 _ rfl aggCk sizeCk rfl (hk1.below hb2) (HL.out) ?_))))
  have hk12 := hk1.below hb2
  have hb02 : Below w.heap.size w w2 := hb1.trans (hb2.mono hb1.size)
  refine (HMA.out w2 hb02).mono ?_
  rintro e w3 ⟨rfl, hb3⟩
  have hk13 := hk12.below hb3
  have hk23 := hk2.below hb3
  have hb03 : Below w.heap.size w w3 := hb02.trans (hb3.mono hb02.size)
  clear hk1 hk12 hk2
  cases MA with
  | false =>
    go_wp2_with fail
    go_ret
    exact ⟨rfl, hb03⟩
  | true =>
    go_wp2_with (((with_reducible refine gate_dst (N := 8) rfl ?_); go_loud (refine wp_load_blk rfl 51 _ rfl aggCk sizeCk rfl hk23 (HL'.out) ?_)))
    refine (HMB.out w3 hb03).mono ?_
    rintro e w4 ⟨rfl, hb4⟩
    have hk14 := hk13.below hb4
    have hk24 := hk23.below hb4
    have hb04 : Below w.heap.size w w4 := hb03.trans (hb4.mono hb03.size)
    have c0 : w4.cell? ⟨w.heap.size, 0, none⟩ = some (.string s) := hk14.cell 0
    have c1 : w4.cell? ⟨w.heap.size, 1, none⟩ = some (.int .i64 n) := hk14.cell 1
    have c2 : w4.cell? ⟨w1.heap.size, 0, none⟩ = some (.string s') := hk24.cell 0
    have c3 : w4.cell? ⟨w1.heap.size, 1, none⟩ = some (.int .i64 n') := hk24.cell 1
    clear hk13 hk23
    cases MB with
    | false =>
      go_wp2_with fail
      go_ret
      exact ⟨rfl, hb04⟩
    | true =>
      cases SE with
      | false =>
        go_wp2_with (((with_reducible refine gate_dst (N := 16) rfl ?_); go_loud (refine wp_eq_str rfl _ _ _ _ rfl rfl rfl (HSE.out) ?_)))
        go_ret
        exact ⟨rfl, hb04⟩
      | true =>
        cases NE with
        | false =>
          go_wp2_with (((with_reducible refine gate_dst (N := 16) rfl ?_); go_loud (refine wp_eq_str rfl _ _ _ _ rfl rfl rfl (HSE.out) ?_)))
          go_ret
          exact ⟨rfl, hb04⟩
        | true =>
          go_wp2_with (first | (((with_reducible refine gate_dst (N := 16) rfl ?_); go_loud (refine wp_eq_str rfl _ _ _ _ rfl rfl rfl (HSE.out) ?_))) | ((with_reducible refine gate_dst (N := 27) rfl ?_); go_loud (refine wp_load_agg rfl 28 _ rfl aggD sizeD rfl HDL.out (ck_dig s n d hk14) ?_)) | ((with_reducible refine gate_dst (N := 29) rfl ?_); go_loud (refine wp_load_agg rfl 28 _ rfl aggD sizeD rfl HDL'.out (ck_dig s' n' d' hk24) ?_)))
          go_ret
          exact ⟨rfl, hb04⟩
end Go.Proofs.YtfefcfjedlidnaaDoor.Sha
