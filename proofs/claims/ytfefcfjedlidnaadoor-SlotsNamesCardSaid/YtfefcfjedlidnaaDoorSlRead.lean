/- The law SlotsNames: a slot of an empty disk, read. -/
import Derived.Test.YtfefcfjedlidnaaDoorSlMay
namespace Go.Proofs.YtfefcfjedlidnaaDoor.Slo
open Go Go.RowKit Go.Proofs.YtfefcfjedlidnaaDoor.Cop Go.Proofs.YtfefcfjedlidnaaDoor.Oct
set_option linter.unusedVariables false
set_option linter.unusedSimpArgs false

def k0 : Value := .agg #[.int .i64 0, .string { data := #[] }]
theorem aggK (w : World) : (isAgg 163).run Tryd.prog w = .ok true w := by kernel_rfl
theorem sizeK : (Tryd.prog.info? 163).map (fun i => i.size) = some 2 := by kernel_rfl
theorem zeroK (w : World) : (zeroValue 163).run Tryd.prog w = .ok (.agg #[.int .i64 0, .string { data := #[] }]) w := by kernel_rfl
theorem k_one : ∀ u ∈ (Value.agg #[.int .i64 0, .string { data := #[] }]).cells.toList, u.oneCell' = true := by
  intro u hu
  simp [Value.cells] at hu
  rcases hu with rfl | rfl <;> rfl
theorem eqK (w : World) : (binOp .eql 163 (.agg #[.int .i64 0, .string { data := #[] }]) (.agg #[.int .i64 0, .string { data := #[] }])).run Tryd.prog w = .ok (.bool true) w := by kernel_rfl
theorem ixP0 (a b : ByteArray) (w : World) : (Instr.index 95 (.agg #[.string a, .string b]) (.int .i64 0)).run Tryd.prog w = .ok (.string a) w := by kernel_rfl
theorem ixP1 (a b : ByteArray) (w : World) : (Instr.index 95 (.agg #[.string a, .string b]) (.int .i64 1)).run Tryd.prog w = .ok (.string b) w := by kernel_rfl
attribute [local go_sem] eqK ixP0 ixP1
set_option maxRecDepth 100000 in
theorem read_calls (v : Value) (s : ByteArray) (k : Int) (hk : k = 0 ∨ k = 1) (w : World) (h : Disk w v) (ho : okn 100 s = true) :
    Calls Tryd.prog 114 #[v, .string s, .int .i64 k] w fun e w' => e = .returned (.agg #[.int .i64 0, .string { data := #[] }]) ∧ Below w.heap.size w w' := by
  have hle := okn_le s ho
  have f0 := file_size s 0 ho
  have f1 := file_size s 1 ho
  have e0 : fileOf s 0 = s ++ d0 := rfl
  have e1 : fileOf s 1 = s ++ d1 := rfl
  rw [e0] at f0
  rw [e1] at f1
  clear ho e0 e1
  rcases hk with rfl | rfl
  · go_enter Tryd.func114, Tryd.ntmps114
    go_wp2_with (((with_reducible refine gate_dst (N := 6) rfl ?_); go_loud (refine wp_alloc rfl _ rfl zeroK ?_); intro w1 hk1 hb1 hz1))
    refine (files_calls s w1 hle).mono ?_
    rintro e w2 ⟨rfl, hb2⟩
    have hd2 := (h.below hb1).below hb2
    have hk2 := hk1.below hb2
    go_wp2_with fail
    refine (size_calls v (s ++ d0) w2 hd2 f0.1 f0.2).mono ?_
    rintro e w' ⟨rfl, rfl⟩
    go_wp2_with (((with_reducible refine gate_store (t := 163) (p := 6) rfl ?_); go_loud (refine wp_store_blk rfl 163 _ _ rfl rfl sizeK rfl hk2 (rfl) (v := .agg #[.int .i64 0, .string { data := #[] }]) rfl (rfl) (k_one) ?_); intro w3 hk3 hg3))
    refine bodyPost_ret (results_blk1 rfl aggK sizeK _ rfl hk3 rfl) rfl ?_
    exact ⟨rfl, (hb1.trans (hb2.mono (by omega))).grown hg3 (by have := hb2.size; omega) (fun r e => by injection e with e; omega)⟩
  · go_enter Tryd.func114, Tryd.ntmps114
    go_wp2_with (((with_reducible refine gate_dst (N := 6) rfl ?_); go_loud (refine wp_alloc rfl _ rfl zeroK ?_); intro w1 hk1 hb1 hz1))
    refine (files_calls s w1 hle).mono ?_
    rintro e w2 ⟨rfl, hb2⟩
    have hd2 := (h.below hb1).below hb2
    have hk2 := hk1.below hb2
    go_wp2_with fail
    refine (size_calls v (s ++ d1) w2 hd2 f1.1 f1.2).mono ?_
    rintro e w' ⟨rfl, rfl⟩
    go_wp2_with (((with_reducible refine gate_store (t := 163) (p := 6) rfl ?_); go_loud (refine wp_store_blk rfl 163 _ _ rfl rfl sizeK rfl hk2 (rfl) (v := .agg #[.int .i64 0, .string { data := #[] }]) rfl (rfl) (k_one) ?_); intro w3 hk3 hg3))
    refine bodyPost_ret (results_blk1 rfl aggK sizeK _ rfl hk3 rfl) rfl ?_
    exact ⟨rfl, (hb1.trans (hb2.mono (by omega))).grown hg3 (by have := hb2.size; omega) (fun r e => by injection e with e; omega)⟩
set_option maxRecDepth 100000 in
theorem told_calls (w : World) : Calls Tryd.prog 112 #[.agg #[.int .i64 0, .string { data := #[] }]] w fun e w' => e = .returned (.tuple #[.slice none 0 0, .int .i64 0, .int .i64 121]) ∧ Below w.heap.size w w' := by
  go_enter Tryd.func112, Tryd.ntmps112
  go_wp2_with (first | (((with_reducible refine gate_dst (N := 1) rfl ?_); go_loud (refine wp_box rfl _ _ rfl (v := .agg #[.int .i64 0, .string { data := #[] }]) rfl ?_); intro w1 hk1 hb1 hz1)) | (((with_reducible refine gate_dst (N := 5) rfl ?_); go_loud (refine wp_load_blk rfl 163 _ rfl aggK sizeK rfl hk1 (rfl) ?_))))
  go_ret3
  exact ⟨rfl, hb1⟩
set_option maxRecDepth 100000 in
theorem swrong_calls (v : Value) (s : ByteArray) (w : World) (h : Disk w v) : Calls Tryd.prog 111 #[v, .string s] w fun e w' => e = .returned (if okn 100 s then .int .i64 0 else .int .i64 2) ∧ w = w' := by
  have hn := sector_calls v w h
  have hm := may_calls s w
  cases ho : okn 100 s <;> rw [ho] at hm <;> clear ho
  · go_enter Tryd.func111, Tryd.ntmps111
    go_wp2_with fail
    refine hn.mono ?_
    rintro e w' ⟨rfl, rfl⟩
    go_wp2_with fail
    refine hm.mono ?_
    rintro e w' ⟨rfl, rfl⟩
    go_wp2_with fail
    go_ret
    exact ⟨rfl, rfl⟩
  · go_enter Tryd.func111, Tryd.ntmps111
    go_wp2_with fail
    refine hn.mono ?_
    rintro e w' ⟨rfl, rfl⟩
    go_wp2_with fail
    refine hm.mono ?_
    rintro e w' ⟨rfl, rfl⟩
    go_wp2_with fail
    go_ret
    exact ⟨rfl, rfl⟩
theorem aggB (w : World) : (isAgg 200).run Tryd.prog w = .ok true w := by kernel_rfl
theorem sizeB : (Tryd.prog.info? 200).map (fun i => i.size) = some 4 := by kernel_rfl
theorem zeroB (w : World) : (zeroValue 200).run Tryd.prog w = .ok (.agg #[.int .i64 0, .string { data := #[] }, .int .i64 0, .string { data := #[] }]) w := by kernel_rfl
theorem b_one : ∀ u ∈ (Value.agg #[.int .i64 0, .string { data := #[] }, .int .i64 0, .string { data := #[] }]).cells.toList, u.oneCell' = true := by
  intro u hu
  simp [Value.cells] at hu
  rcases hu with rfl | rfl | rfl | rfl <;> rfl
set_option maxRecDepth 100000 in
theorem last_calls (v : Value) (s : ByteArray) (w : World) (h : Disk w v) (ho : okn 100 s = true) :
    Calls Tryd.prog 113 #[v, .string s] w fun e w' => e = .returned (.agg #[.int .i64 0, .string { data := #[] }]) ∧ Below w.heap.size w w' := by
  have hr := fun k hk w h => read_calls v s k hk w h ho
  clear ho
  go_enter Tryd.func113, Tryd.ntmps113
  go_wp2_with (((with_reducible refine gate_dst (N := 4) rfl ?_); go_loud (refine wp_alloc rfl _ rfl zeroK ?_); intro w1 hk1 hb1 hz1))
  refine (hr 0 (.inl rfl) w1 (h.below hb1)).mono ?_
  rintro e w2 ⟨rfl, hb2⟩
  have hb12 : Below w.heap.size w w2 := hb1.trans (hb2.mono (by omega))
  have hk2 := hk1.below hb2
  go_wp2_with fail
  refine (hr 1 (.inr rfl) w2 (h.below hb12)).mono ?_
  rintro e w3 ⟨rfl, hb3⟩
  have z2 := hb2.size
  have z3 := hb3.size
  have hb13 : Below w.heap.size w w3 := hb12.trans (hb3.mono (by omega))
  have hk3 := hk2.below hb3
  go_wp2_with (first | (((with_reducible refine gate_dst (N := 5) rfl ?_); go_loud (refine wp_alloc rfl _ rfl zeroB ?_); intro w4 hk4 hb4 hz4)) | (((with_reducible refine gate_store (t := 200) (p := 5) rfl ?_); go_loud (refine wp_store_blk rfl 200 _ _ rfl rfl sizeB rfl hk4 (rfl) (v := .agg #[.int .i64 0, .string { data := #[] }, .int .i64 0, .string { data := #[] }]) rfl (rfl) (b_one) ?_); intro w5 hk5 hg5; have c2 := hk5.cell 0; have c3 := hk5.cell 2; have c4 := hk5.cell 3; have hk3' := (hk3.below hb4).grown hg5 (fun e => by injection e with e; omega))) | (((with_reducible refine gate_store (t := 163) (p := 4) rfl ?_); go_loud (refine wp_store_blk rfl 163 _ _ rfl rfl sizeK rfl hk3' (rfl) (v := .agg #[.int .i64 0, .string { data := #[] }]) rfl (rfl) (k_one) ?_); intro w6 hk6 hg6)))
  have z4 := hb4.size
  have z5 := hg5.size
  refine bodyPost_ret (results_blk1 rfl aggK sizeK _ rfl hk6 rfl) rfl ?_
  exact ⟨rfl, (((hb13.trans (hb4.mono (by omega))).grown hg5 (by omega) (fun r e => by injection e with e; omega))).grown hg6 (by omega) (fun r e => by injection e with e; omega)⟩
set_option maxRecDepth 100000 in
theorem latest_calls (v : Value) (s : ByteArray) (w : World) (h : Disk w v) :
    Calls Tryd.prog 68 #[v, .string s] w fun e w' => e = .returned (.tuple #[.slice none 0 0, .int .i64 0, if okn 100 s then .int .i64 121 else .int .i64 2]) ∧ Below w.heap.size w w' := by
  have hw := swrong_calls v s w h
  have hl := last_calls v s w h
  cases ho : okn 100 s <;> rw [ho] at hw <;> rw [ho] at hl <;> clear ho
  · go_enter Tryd.func68, Tryd.ntmps68
    go_wp2_with fail
    refine hw.mono ?_
    rintro e w' ⟨rfl, rfl⟩
    go_wp2_with fail
    go_ret3
    exact ⟨rfl, Below.refl _ _⟩
  · go_enter Tryd.func68, Tryd.ntmps68
    go_wp2_with fail
    refine hw.mono ?_
    rintro e w' ⟨rfl, rfl⟩
    go_wp2_with fail
    refine (hl trivial).mono ?_
    rintro e w1 ⟨rfl, hb1⟩
    go_wp2_with fail
    refine (told_calls w1).mono ?_
    rintro e w2 ⟨rfl, hb2⟩
    go_wp2_with fail
    go_ret3
    exact ⟨rfl, hb1.trans (hb2.mono hb1.size)⟩
/-- What a slot's error is. -/
def slotE (s : ByteArray) (k : Int) : Int := if okn 100 s then (if k = 0 ∨ k = 1 then 121 else 2) else 2
set_option maxRecDepth 100000 in
theorem slot_calls (v : Value) (s : ByteArray) (k : Int) (w : World) (h : Disk w v) :
    Calls Tryd.prog 70 #[v, .string s, .int .i64 k] w fun e w' => e = .returned (.tuple #[.slice none 0 0, .int .i64 0, .int .i64 (slotE s k)]) ∧ Below w.heap.size w w' := by
  have hw := swrong_calls v s w h
  have hl := fun hk => read_calls v s k hk w h
  unfold slotE
  cases ho : okn 100 s <;> rw [ho] at hw <;> rw [ho] at hl <;> clear ho
  · go_enter Tryd.func70, Tryd.ntmps70
    go_wp2_with fail
    refine hw.mono ?_
    rintro e w' ⟨rfl, rfl⟩
    go_wp2_with fail
    go_ret3
    exact ⟨rfl, Below.refl _ _⟩
  · by_cases hk : k = 0 ∨ k = 1
    · have e0 : (if k = 0 ∨ k = 1 then (121 : Int) else 2) = 121 := if_pos hk
      rw [if_pos rfl, e0]
      clear e0
      have hl' := hl hk rfl
      clear hl
      rcases hk with rfl | rfl
      · go_enter Tryd.func70, Tryd.ntmps70
        go_wp2_with fail
        refine hw.mono ?_
        rintro e w' ⟨rfl, rfl⟩
        go_wp2_with fail
        refine hl'.mono ?_
        rintro e w1 ⟨rfl, hb1⟩
        go_wp2_with fail
        refine (told_calls w1).mono ?_
        rintro e w2 ⟨rfl, hb2⟩
        go_wp2_with fail
        go_ret3
        exact ⟨rfl, hb1.trans (hb2.mono hb1.size)⟩
      · go_enter Tryd.func70, Tryd.ntmps70
        go_wp2_with fail
        refine hw.mono ?_
        rintro e w' ⟨rfl, rfl⟩
        go_wp2_with fail
        refine hl'.mono ?_
        rintro e w1 ⟨rfl, hb1⟩
        go_wp2_with fail
        refine (told_calls w1).mono ?_
        rintro e w2 ⟨rfl, hb2⟩
        go_wp2_with fail
        go_ret3
        exact ⟨rfl, hb1.trans (hb2.mono hb1.size)⟩
    · have e0 : (if k = 0 ∨ k = 1 then (121 : Int) else 2) = 2 := if_neg hk
      rw [if_pos rfl, e0]
      clear e0 hl
      have q0 : (k != 0) = true := by simp; omega
      have q1 : (k != 1) = true := by simp; omega
      go_enter Tryd.func70, Tryd.ntmps70
      go_wp2_with fail
      refine hw.mono ?_
      rintro e w' ⟨rfl, rfl⟩
      go_wp2_with fail
      go_ret3
      exact ⟨rfl, Below.refl _ _⟩
end Go.Proofs.YtfefcfjedlidnaaDoor.Slo
