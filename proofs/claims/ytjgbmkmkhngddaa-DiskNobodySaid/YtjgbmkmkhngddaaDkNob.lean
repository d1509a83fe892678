/- What is asked of a disk that no call made: the contracts. -/
import Derived.Carry
import Derived.Test.YtjgbmkmkhngddaaNoDisk
namespace Go.Proofs.Ytjgbmkmkhngddaa.Nob
open Go Go.RowKit Go.Proofs.Ytjgbmkmkhngddaa.Cop Go.Proofs.Ytjgbmkmkhngddaa.Oct
set_option linter.unusedVariables false
set_option linter.unusedSimpArgs false
theorem run_eql_somemap (w : World) (m : Nat) : (binOp .eql 29 (.map (some m)) (.map none)).run Try.prog w = .ok (.bool false) w := by
  have h : ∀ d : Nat, (Op.equalIn (d + 1) 29 (.map (some m)) (.map none)).run Try.prog w = .ok false w := fun d => by
    simp [Op.equalIn, run_underlying Try.underlying29]
  simp only [binOp]
  simp [Op.equal, Op.maxDepth, h 9999]
attribute [local go_sem] run_eql_somemap run_makeMap
/-- A call made it. -/
def Made (w : World) (v : Value) : Prop := ∃ b m, v = .pointer (some ⟨b, 0, none⟩) ∧ w.cell? ⟨b, 1, none⟩ = some (.map (some m))
theorem Made.below {w w' : World} {v : Value} (h : Made w v) (hb : Below w.heap.size w w') : Made w' v := by
  obtain ⟨b, m, h1, h2⟩ := h
  refine ⟨b, m, h1, ?_⟩
  have hlt : b < w.heap.size := by
    rcases Nat.lt_or_ge b w.heap.size with h' | h'
    · exact h'
    · simp [World.cell?, Array.getElem?_eq_none h'] at h2
  exact (hb.cell (p := ⟨b, 1, none⟩) hlt).trans h2
set_option maxRecDepth 100000 in
theorem made_none (v : Value) (w : World) (h : Made w v) : Calls Try.prog 25 #[v] w fun e w' => e = .returned (.bool false) ∧ w = w' := by
  obtain ⟨b, m, rfl, hc⟩ := h
  go_enter Try.func25, Try.ntmps25
  go_wp2_with fail
  go_ret
  exact ⟨rfl, rfl⟩
set_option maxRecDepth 100000 in
theorem new_calls (w : World) : Calls Try.prog 5 #[.int .i64 1] w fun e w' => ∃ v, e = .returned (.tuple #[v, .int .i64 0]) ∧ Made w' v ∧ Below w.heap.size w w' := by
  go_enter Try.func5, Try.ntmps5
  go_wp2_with fail
  go_ret2
  refine ⟨.pointer (some ⟨w.heap.size + 1, 0, none⟩), rfl, ⟨w.heap.size + 1, w.heap.size, rfl, ?_⟩, ?_⟩
  · have h := (Blk.new (w.alloc (.map #[] 0)) [.int .i64 1, .map (some w.heap.size), .slice none 0 0] 32).cell 1
    rw [World.size_alloc] at h
    exact h
  · exact ((Below.refl _ _).alloc (Nat.le_refl _) _).alloc (by simp) _

set_option maxRecDepth 100000 in
theorem wrong_calls (v : Value) (s : ByteArray) (t : Bool) (w : World) (h : NoDisk w v) : Calls Try.prog 28 #[v, .string s, .bool t] w fun e w' => e = .returned (.int .i64 1) ∧ w = w' := by
  have hn := none_calls v w h
  go_enter Try.func28, Try.ntmps28
  go_wp2_with fail
  refine hn.mono ?_
  rintro e w' ⟨rfl, rfl⟩
  go_wp2_with fail
  go_ret
  exact ⟨rfl, rfl⟩
set_option maxRecDepth 100000 in
theorem read_calls (v : Value) (s : ByteArray) (i j : Int) (w : World) (h : NoDisk w v) : Calls Try.prog 7 #[v, .string s, .int .i64 i, .int .i64 j] w fun e w' => e = .returned (.tuple #[.slice none 0 0, .int .i64 1]) ∧ w = w' := by
  have hn := wrong_calls v s true w h
  go_enter Try.func7, Try.ntmps7
  go_wp2_with fail
  refine hn.mono ?_
  rintro e w' ⟨rfl, rfl⟩
  go_wp2_with fail
  go_ret2
  exact ⟨rfl, rfl⟩
set_option maxRecDepth 100000 in
theorem size_calls (v : Value) (s : ByteArray) (w : World) (h : NoDisk w v) : Calls Try.prog 8 #[v, .string s] w fun e w' => e = .returned (.tuple #[.int .i64 0, .int .i64 1]) ∧ w = w' := by
  have hn := wrong_calls v s true w h
  go_enter Try.func8, Try.ntmps8
  go_wp2_with fail
  refine hn.mono ?_
  rintro e w' ⟨rfl, rfl⟩
  go_wp2_with fail
  go_ret2
  exact ⟨rfl, rfl⟩
set_option maxRecDepth 100000 in
theorem after_calls (v : Value) (i : Int) (w : World) (h : NoDisk w v) : Calls Try.prog 10 #[v, .int .i64 i] w fun e w' => e = .returned (.tuple #[.pointer none, .int .i64 1]) ∧ w = w' := by
  have hn := none_calls v w h
  go_enter Try.func10, Try.ntmps10
  go_wp2_with fail
  refine hn.mono ?_
  rintro e w' ⟨rfl, rfl⟩
  go_wp2_with fail
  go_ret2
  exact ⟨rfl, rfl⟩
set_option maxRecDepth 100000 in
theorem create_calls (v : Value) (s : ByteArray) (w : World) (h : NoDisk w v) : Calls Try.prog 11 #[v, .string s] w fun e w' => e = .returned (.int .i64 1) ∧ w = w' := by
  have hn := wrong_calls v s false w h
  go_enter Try.func11, Try.ntmps11
  go_wp2_with fail
  refine hn.mono ?_
  rintro e w' ⟨rfl, rfl⟩
  go_wp2_with fail
  go_ret
  exact ⟨rfl, rfl⟩
set_option maxRecDepth 100000 in
theorem append_calls (v : Value) (s : ByteArray) (r : Value) (w : World) (h : NoDisk w v) : Calls Try.prog 12 #[v, .string s, r] w fun e w' => e = .returned (.int .i64 1) ∧ w = w' := by
  have hn := wrong_calls v s true w h
  go_enter Try.func12, Try.ntmps12
  go_wp2_with fail
  refine hn.mono ?_
  rintro e w' ⟨rfl, rfl⟩
  go_wp2_with fail
  go_ret
  exact ⟨rfl, rfl⟩
set_option maxRecDepth 100000 in
theorem cut_calls (v : Value) (s : ByteArray) (i : Int) (w : World) (h : NoDisk w v) : Calls Try.prog 13 #[v, .string s, .int .i64 i] w fun e w' => e = .returned (.int .i64 1) ∧ w = w' := by
  have hn := wrong_calls v s true w h
  go_enter Try.func13, Try.ntmps13
  go_wp2_with fail
  refine hn.mono ?_
  rintro e w' ⟨rfl, rfl⟩
  go_wp2_with fail
  go_ret
  exact ⟨rfl, rfl⟩
set_option maxRecDepth 100000 in
theorem remove_calls (v : Value) (s : ByteArray) (w : World) (h : NoDisk w v) : Calls Try.prog 14 #[v, .string s] w fun e w' => e = .returned (.int .i64 1) ∧ w = w' := by
  have hn := wrong_calls v s true w h
  go_enter Try.func14, Try.ntmps14
  go_wp2_with fail
  refine hn.mono ?_
  rintro e w' ⟨rfl, rfl⟩
  go_wp2_with fail
  go_ret
  exact ⟨rfl, rfl⟩
set_option maxRecDepth 100000 in
theorem writes_calls (v : Value) (w : World) (h : NoDisk w v) : Calls Try.prog 17 #[v] w fun e w' => e = .returned (.int .i64 0) ∧ w = w' := by
  have hn := none_calls v w h
  go_enter Try.func17, Try.ntmps17
  go_wp2_with fail
  refine hn.mono ?_
  rintro e w' ⟨rfl, rfl⟩
  go_wp2_with fail
  go_ret
  exact ⟨rfl, rfl⟩
set_option maxRecDepth 100000 in
theorem rename_calls (v : Value) (s t : ByteArray) (w : World) (h : NoDisk w v) : Calls Try.prog 15 #[v, .string s, .string t] w fun e w' => e = .returned (.int .i64 1) ∧ w = w' := by
  have hn := none_calls v w h
  have hw := wrong_calls v s true w h
  go_enter Try.func15, Try.ntmps15
  go_wp2_with fail
  refine hn.mono ?_
  rintro e w' ⟨rfl, rfl⟩
  go_wp2_with fail
  refine hw.mono ?_
  rintro e w' ⟨rfl, rfl⟩
  go_wp2_with fail
  go_ret
  exact ⟨rfl, rfl⟩
theorem sizeR : (Try.prog.info? 42).map (fun i => i.size) = some 5 := by kernel_rfl
theorem aggR (w : World) : (isAgg 42).run Try.prog w = .ok true w := by kernel_rfl
theorem results_blk2 {P : Program} {w : World} {fn : Func} {p t2 : Tmp} {ty : TypeId} (h : fn.results = #[.cell p ty, .tmp t2]) (hagg : ∀ w, (isAgg ty).run P w = .ok true w) {sz : Nat} (hs : (P.info? ty).map (fun i => i.size) = some sz)
    (tmps : Array Value) {g : Nat} (hp : tmps.getD p undef = .pointer (some ⟨g, 0, none⟩)) {t' : TypeId} {cs : List Value} (hb : Blk w g t' cs) (hl : cs.length = sz) :
    (results fn tmps).run P w = .ok (.tuple #[.agg cs.toArray, tmps.getD t2 undef]) w := by
  have hld := run_loadCells_list (P := P) w ⟨g, 0, none⟩ cs (fun j u hu => by rw [addr_add, hb.cell]; exact hu)
  rw [hl] at hld
  have hp' : tmps[p]?.getD undef = .pointer (some ⟨g, 0, none⟩) := by simpa using hp
  simp [results, h, hp', asAddr, loadVar, hagg, Go.Proofs.Ytjgbmkmkhngddaa.Cop.run_sizeOf hs, hld, Result.andThen]
def rawz : Value := .agg #[.int .i64 0, .string ⟨#[]⟩, .slice none 0 0, .int .i64 0, .string ⟨#[]⟩]
theorem rawz_one : ∀ u ∈ rawz.cells.toList, u.oneCell' = true := by intro u hu; simp [rawz, Value.cells] at hu; rcases hu with rfl | rfl | rfl | rfl | rfl <;> rfl
set_option maxRecDepth 100000 in
theorem raw_calls (v : Value) (i : Int) (w : World) (h : NoDisk w v) : Calls Try.prog 9 #[v, .int .i64 i] w fun e w' => e = .returned (.tuple #[rawz, .int .i64 1]) ∧ Below w.heap.size w w' := by
  go_enter Try.func9, Try.ntmps9
  go_wp2_with fail
  have hk1 := Blk.new w [.int .i64 0, .string ⟨#[]⟩, .slice none 0 0, .int .i64 0, .string ⟨#[]⟩] 42
  have hb1 : Below w.heap.size w (w.alloc (.cells #[.int .i64 0, .string ⟨#[]⟩, .slice none 0 0, .int .i64 0, .string ⟨#[]⟩] 42)) := (Below.refl _ _).alloc (Nat.le_refl _) _
  obtain ⟨w1, hw1⟩ : ∃ w1, w.alloc (.cells #[.int .i64 0, .string ⟨#[]⟩, .slice none 0 0, .int .i64 0, .string ⟨#[]⟩] 42) = w1 := ⟨_, rfl⟩
  have hk2 : Blk w1 w.heap.size 42 [.int .i64 0, .string ⟨#[]⟩, .slice none 0 0, .int .i64 0, .string ⟨#[]⟩] := by rw [← hw1]; exact hk1
  rw [hw1] at hb1 ⊢
  clear hw1 hk1
  refine (none_calls v w1 (h.below hb1)).mono ?_
  rintro e w' ⟨rfl, rfl⟩
  go_wp2_with ((with_reducible refine gate_store (t := 42) (p := 4) rfl ?_); go_loud (refine wp_store_blk rfl 42 _ _ rfl rfl sizeR rfl hk2 rfl (v := rawz) rfl rfl rawz_one ?_); intro w2 hk3 hg3)
  refine bodyPost_ret (results_blk2 rfl aggR sizeR _ rfl hk3 rfl) rfl ?_
  exact ⟨rfl, hb1.trans (below_grown hg3 (by have := hk2.lt; omega) (fun k hk => by cases hk; exact Nat.le_refl _))⟩
set_option maxRecDepth 100000 in
theorem same_left (v u : Value) (w : World) (h : NoDisk w v) (hu : Made w u) : Calls Try.prog 19 #[v, u] w fun e w' => e = .returned (.bool false) ∧ w = w' := by
  have hn := none_calls v w h
  obtain ⟨b, m, rfl, hc⟩ := hu
  rcases h with rfl | ⟨c, rfl, _⟩
  · go_enter Try.func19, Try.ntmps19
    go_wp2_with fail
    refine hn.mono ?_
    rintro e w' ⟨rfl, rfl⟩
    go_wp2_with fail
    go_ret
    exact ⟨rfl, rfl⟩
  · go_enter Try.func19, Try.ntmps19
    go_wp2_with fail
    refine hn.mono ?_
    rintro e w' ⟨rfl, rfl⟩
    go_wp2_with fail
    go_ret
    exact ⟨rfl, rfl⟩
set_option maxRecDepth 100000 in
theorem same_right (v u : Value) (w : World) (h : NoDisk w v) (hu : Made w u) : Calls Try.prog 19 #[u, v] w fun e w' => e = .returned (.bool false) ∧ w = w' := by
  have hn := none_calls v w h
  have hm := made_none u w hu
  obtain ⟨b, m, rfl, hc⟩ := hu
  go_enter Try.func19, Try.ntmps19
  go_wp2_with fail
  refine hm.mono ?_
  rintro e w' ⟨rfl, rfl⟩
  go_wp2_with fail
  refine hn.mono ?_
  rintro e w' ⟨rfl, rfl⟩
  go_wp2_with fail
  go_ret
  exact ⟨rfl, rfl⟩
set_option maxRecDepth 100000 in
theorem same_nil (w : World) : Calls Try.prog 19 #[.pointer none, .pointer none] w fun e w' => e = .returned (.bool true) ∧ w = w' := by
  have hn := none_calls (.pointer none) w (.inl rfl)
  go_enter Try.func19, Try.ntmps19
  go_wp2_with fail
  refine hn.mono ?_
  rintro e w' ⟨rfl, rfl⟩
  go_wp2_with fail
  go_ret
  exact ⟨rfl, rfl⟩
set_option maxRecDepth 100000 in
theorem raws_calls (w : World) : Calls Try.prog 16 #[rawz, rawz] w fun e w' => e = .returned (.bool true) ∧ Below w.heap.size w w' := by
  unfold rawz
  go_enter Try.func16, Try.ntmps16
  go_wp2_with (first | ((with_reducible refine gate_dst (N := 20) rfl ?_); go_loud (refine wp_strB rfl _ rfl (show Rd _ (.slice none 0 0) [] from Row.nil _) rfl ?_)) | ((with_reducible refine gate_dst (N := 23) rfl ?_); go_loud (refine wp_strB rfl _ rfl (show Rd _ (.slice none 0 0) [] from Row.nil _) rfl ?_)))
  go_ret
  exact ⟨rfl, ((Below.refl _ _).alloc (Nat.le_refl _) _).alloc (by simp) _⟩
end Go.Proofs.Ytjgbmkmkhngddaa.Nob
