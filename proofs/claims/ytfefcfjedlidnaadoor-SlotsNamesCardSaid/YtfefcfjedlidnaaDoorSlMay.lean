/- The law SlotsNames: names, files, and what an empty disk tells. -/
import Derived.Test.YtfefcfjedlidnaaDoorByt
namespace Go.Proofs.YtfefcfjedlidnaaDoor.Slo
open Go Go.RowKit Go.Proofs.YtfefcfjedlidnaaDoor.Cop Go.Proofs.YtfefcfjedlidnaaDoor.Oct
set_option linter.unusedVariables false
set_option linter.unusedSimpArgs false

theorem results_blk1 {P : Program} {w : World} {fn : Func} {p : Tmp} {ty : TypeId} (h : fn.results = #[.cell p ty]) (hagg : ∀ w, (isAgg ty).run P w = .ok true w) {sz : Nat} (hs : (P.info? ty).map (fun i => i.size) = some sz)
    (tmps : Array Value) {g : Nat} (hp : tmps.getD p undef = .pointer (some ⟨g, 0, none⟩)) {t' : TypeId} {cs : List Value} (hb : Blk w g t' cs) (hl : cs.length = sz) :
    (results fn tmps).run P w = .ok (.agg cs.toArray) w := by
  have hld := run_loadCells_list (P := P) w ⟨g, 0, none⟩ cs (fun j u hu => by rw [addr_add, hb.cell]; exact hu)
  rw [hl] at hld
  have hp' : tmps[p]?.getD undef = .pointer (some ⟨g, 0, none⟩) := by simpa using hp
  simp [results, h, hp', asAddr, loadVar, hagg, Go.Proofs.YtfefcfjedlidnaaDoor.Cop.run_sizeOf hs, hld, Result.andThen]
theorem aggP (w : World) : (isAgg 95).run Tryd.prog w = .ok true w := by kernel_rfl
theorem sizeP : (Tryd.prog.info? 95).map (fun i => i.size) = some 2 := by kernel_rfl
def d0 : ByteArray := { data := #[45, 48] }
def d1 : ByteArray := { data := #[45, 49] }
def okn (n : Nat) (s : ByteArray) : Bool := decide (1 ≤ s.size) && decide (s.size ≤ n)
theorem okn_cases (n : Nat) (s : ByteArray) : (okn n s = false ∧ s.size = 0) ∨ (okn n s = true ∧ 1 ≤ s.size ∧ s.size ≤ n) ∨ (okn n s = false ∧ 1 ≤ s.size ∧ n < s.size) := by
  unfold okn
  rcases Nat.eq_zero_or_pos s.size with h | h
  · exact .inl ⟨by simp [h], h⟩
  · rcases Nat.lt_or_ge n s.size with h' | h'
    · exact .inr (.inr ⟨by simp; omega, h, h'⟩)
    · exact .inr (.inl ⟨by simp; omega, h, h'⟩)
theorem okn_le (s : ByteArray) : okn 100 s = true → s.size ≤ 100 := by unfold okn; simp
set_option maxRecDepth 100000 in
theorem may_calls (s : ByteArray) (w : World) : Calls Tryd.prog 65 #[.string s] w fun e w' => e = .returned (.bool (okn 100 s)) ∧ w = w' := by
  rcases okn_cases 100 s with ⟨h0, h1⟩ | ⟨h0, h1, h2⟩ | ⟨h0, h1, h2⟩ <;> rw [h0] <;> clear h0
  · go_enter Tryd.func65, Tryd.ntmps65
    go_wp2_with fail
    go_ret
    exact ⟨rfl, rfl⟩
  · go_enter Tryd.func65, Tryd.ntmps65
    go_wp2_with fail
    go_ret
    exact ⟨by simp; omega, rfl⟩
  · go_enter Tryd.func65, Tryd.ntmps65
    go_wp2_with fail
    go_ret
    exact ⟨by simp; omega, rfl⟩
set_option maxRecDepth 100000 in
theorem rmay_calls (s : ByteArray) (w : World) : Calls Tryd.prog 67 #[.string s] w fun e w' => e = .returned (.bool (okn 100 s)) ∧ w = w' := by
  rcases okn_cases 100 s with ⟨h0, h1⟩ | ⟨h0, h1, h2⟩ | ⟨h0, h1, h2⟩ <;> rw [h0] <;> clear h0
  · go_enter Tryd.func67, Tryd.ntmps67
    go_wp2_with fail
    go_ret
    exact ⟨rfl, rfl⟩
  · go_enter Tryd.func67, Tryd.ntmps67
    go_wp2_with fail
    go_ret
    exact ⟨by simp; omega, rfl⟩
  · go_enter Tryd.func67, Tryd.ntmps67
    go_wp2_with fail
    go_ret
    exact ⟨by simp; omega, rfl⟩
set_option maxRecDepth 100000 in
theorem dname_calls (s : ByteArray) (w : World) (h1 : 1 ≤ s.size) (h2 : s.size ≤ 128) : Calls Tryd.prog 185 #[.string s] w fun e w' => e = .returned (.bool true) ∧ w = w' := by
  go_enter Tryd.func185, Tryd.ntmps185
  go_wp2_with fail
  go_ret
  exact ⟨by simp; omega, rfl⟩
theorem add_facts (s d : ByteArray) (hs : s.size ≤ 100) (hd : d.size = 2) : ∀ w, (Op.stringOp .add s d).run Tryd.prog w = .ok (.string (s ++ d)) w := fun w => run_string_add_sum w s d (by omega)
set_option maxRecDepth 100000 in
theorem files_calls (s : ByteArray) (w : World) (hs : s.size ≤ 100) : Calls Tryd.prog 66 #[.string s] w fun e w' => e = .returned (.agg #[.string (s ++ d0), .string (s ++ d1)]) ∧ Below w.heap.size w w' := by
  have hbel : Below w.heap.size w (w.alloc (.cells #[.string (s ++ d0), .string (s ++ d1)] 95)) := (Below.refl _ _).alloc (Nat.le_refl _) _
  have ha0 := add_facts s d0 hs rfl
  have ha1 := add_facts s d1 hs rfl
  unfold d0 d1 at *
  go_enter Tryd.func66, Tryd.ntmps66
  go_wp2_with fail
  refine bodyPost_ret (results_blk1 (cs := [.string (s ++ { data := #[45, 48] }), .string (s ++ { data := #[45, 49] })]) rfl aggP sizeP _ rfl (Blk.new w _ 95) rfl) rfl ?_
  exact ⟨rfl, hbel⟩
set_option maxRecDepth 100000 in
theorem names_calls (s : ByteArray) (w : World) : Calls Tryd.prog 17 #[.string s] w fun e w' =>
    e = .returned (if okn 100 s then .tuple #[.string (s ++ d0), .string (s ++ d1), .int .i64 0] else .tuple #[.string ByteArray.empty, .string ByteArray.empty, .int .i64 2]) ∧ Below w.heap.size w w' := by
  have hm := may_calls s
  have hsz := okn_le s
  cases ho : okn 100 s <;> rw [ho] at hm <;> rw [ho] at hsz <;> clear ho
  · go_enter Tryd.func17, Tryd.ntmps17
    go_wp2_with fail
    refine (hm _).mono ?_
    rintro e w' ⟨rfl, rfl⟩
    go_wp2_with fail
    go_ret3
    exact ⟨rfl, Below.refl _ _⟩
  · have hf := files_calls s w (hsz rfl)
    clear hsz
    go_enter Tryd.func17, Tryd.ntmps17
    go_wp2_with fail
    refine (hm _).mono ?_
    rintro e w' ⟨rfl, rfl⟩
    go_wp2_with fail
    refine hf.mono ?_
    rintro e w1 ⟨rfl, hb⟩
    have hb' := hb.alloc hb.size (.cells #[.string (s ++ d0), .string (s ++ d1)] 95)
    unfold d0 d1 at *
    go_wp2_with fail
    go_region
    go_wp2_with fail
    go_ret3
    exact ⟨rfl, hb'.drew⟩
set_option maxRecDepth 100000 in
theorem rnames_calls (s : ByteArray) (w : World) : Calls Tryd.prog 18 #[.string s] w fun e w' =>
    e = .returned (if okn 100 s then .tuple #[.string (s ++ d0), .string (s ++ d1), .int .i64 0] else .tuple #[.string ByteArray.empty, .string ByteArray.empty, .int .i64 2]) ∧ w = w' := by
  have hm := rmay_calls s
  have hsz := okn_le s
  cases ho : okn 100 s <;> rw [ho] at hm <;> rw [ho] at hsz <;> clear ho
  · go_enter Tryd.func18, Tryd.ntmps18
    go_wp2_with fail
    refine (hm _).mono ?_
    rintro e w' ⟨rfl, rfl⟩
    go_wp2_with fail
    go_ret3
    exact ⟨rfl, rfl⟩
  · have ha0 := add_facts s d0 (hsz rfl) rfl
    have ha1 := add_facts s d1 (hsz rfl) rfl
    clear hsz
    unfold d0 d1 at *
    go_enter Tryd.func18, Tryd.ntmps18
    go_wp2_with fail
    refine (hm _).mono ?_
    rintro e w' ⟨rfl, rfl⟩
    go_wp2_with fail
    go_ret3
    exact ⟨rfl, rfl⟩
/-- The file of a slot. -/
def fileOf (s : ByteArray) (k : Int) : ByteArray := if k = 0 then s ++ d0 else s ++ d1
set_option maxRecDepth 100000 in
theorem rfile_calls (s : ByteArray) (k : Int) (w : World) (hs : s.size ≤ 100) : Calls Tryd.prog 116 #[.string s, .int .i64 k] w fun e w' => e = .returned (.string (fileOf s k)) ∧ w = w' := by
  have ha0 := add_facts s d0 hs rfl
  have ha1 := add_facts s d1 hs rfl
  unfold fileOf
  unfold d0 d1 at *
  by_cases hk : k = 0
  · subst hk
    go_enter Tryd.func116, Tryd.ntmps116
    go_wp2_with fail
    go_ret
    exact ⟨rfl, rfl⟩
  · rw [if_neg hk]
    have hk' : (k == 0) = false := by simp [hk]
    go_enter Tryd.func116, Tryd.ntmps116
    go_wp2_with fail
    go_ret
    exact ⟨rfl, rfl⟩
theorem file_size (s : ByteArray) (k : Int) (h : okn 100 s = true) : 1 ≤ (fileOf s k).size ∧ (fileOf s k).size ≤ 128 := by
  rcases okn_cases 100 s with ⟨h0, h1⟩ | ⟨h0, h1, h2⟩ | ⟨h0, h1, h2⟩
  · simp_all
  · unfold fileOf
    split <;> rw [ByteArray.size_append] <;> (first | have : d0.size = 2 := rfl | skip) <;> (first | have : d1.size = 2 := rfl | skip) <;> omega
  · simp_all
/-- An empty disk of the program's. -/
def Disk (w : World) (v : Value) : Prop := ∃ b m, v = .pointer (some ⟨b, 0, none⟩) ∧ w.cell? ⟨b, 0, none⟩ = some (.int .i64 8) ∧ w.cell? ⟨b, 1, none⟩ = some (.map (some m)) ∧ w.heap[m]? = some (.map #[] 0)
theorem Disk.below {w w' : World} {v : Value} (h : Disk w v) (hb : Below w.heap.size w w') : Disk w' v := by
  obtain ⟨b, m, h0, h1, h2, h3⟩ := h
  have hlt : b < w.heap.size := cell_lt h1
  have hm : m < w.heap.size := (Array.getElem?_eq_some_iff.1 h3).1
  exact ⟨b, m, h0, cell_below hb _ _ h1, cell_below hb _ _ h2, (hb.block m hm).trans h3⟩
theorem run_eql_map (w : World) (m : Nat) : (binOp .eql 97 (.map (some m)) (.map none)).run Tryd.prog w = .ok (.bool false) w := by
  have h : ∀ d : Nat, (Op.equalIn (d + 1) 97 (.map (some m)) (.map none)).run Tryd.prog w = .ok false w := fun d => by
    simp [Op.equalIn, run_underlying Tryd.underlying97]
  simp only [binOp]
  simp [Op.equal, Op.maxDepth, h 9999]
attribute [local go_sem] run_eql_map
theorem run_lookup0 (w : World) (m : Nat) (s : ByteArray) (h : w.heap[m]? = some (.map #[] 0)) : (Instr.lookup 97 (.map (some m)) (.string s) true).run Tryd.prog w = .ok (.tuple #[.slice none 0 0, .bool false]) w := by
  have hz : (zeroValue 24).run Tryd.prog w = .ok (.slice none 0 0) w := by kernel_rfl
  have hd : Tryd.prog.underlying 9 = some .string := Tryd.underlying9
  have h1 : Instr.findNow .string (.string s) ([] : List MapEntry) 0 = some none := rfl
  have hk : MapKept.IsKey .string (.string s) := by simp [MapKept.IsKey]
  have hg : (getObj m).run Tryd.prog w = .ok (.map #[] 0) w := by simp [getObj, Sem.run, h]
  simp [Instr.lookup, run_underlying Tryd.underlying97, hg, MapKept.run_checkKey hd hk, MapKept.run_findKey hd h1, hz, Result.andThen]
set_option maxRecDepth 100000 in
theorem none_calls (v : Value) (w : World) (h : Disk w v) : Calls Tryd.prog 172 #[v] w fun e w' => e = .returned (.bool false) ∧ w = w' := by
  obtain ⟨b, m, rfl, h1, h2, h3⟩ := h
  go_enter Tryd.func172, Tryd.ntmps172
  go_wp2_with fail
  go_ret
  exact ⟨rfl, rfl⟩
set_option maxRecDepth 100000 in
theorem sector_calls (v : Value) (w : World) (h : Disk w v) : Calls Tryd.prog 143 #[v] w fun e w' => e = .returned (.int .i64 8) ∧ w = w' := by
  have hn := none_calls v w h
  obtain ⟨b, m, rfl, h1, h2, h3⟩ := h
  go_enter Tryd.func143, Tryd.ntmps143
  go_wp2_with fail
  refine hn.mono ?_
  rintro e w' ⟨rfl, rfl⟩
  go_wp2_with fail
  go_ret
  exact ⟨rfl, rfl⟩
set_option maxRecDepth 100000 in
theorem dwrong_calls (v : Value) (s : ByteArray) (w : World) (h : Disk w v) (hs1 : 1 ≤ s.size) (hs2 : s.size ≤ 128) : Calls Tryd.prog 173 #[v, .string s, .bool true] w fun e w' => e = .returned (.int .i64 121) ∧ w = w' := by
  have hn := none_calls v w h
  have hnm := dname_calls s w hs1 hs2
  obtain ⟨b, m, rfl, h1, h2, h3⟩ := h
  have hlk := run_lookup0 w m s h3
  go_enter Tryd.func173, Tryd.ntmps173
  go_wp2_with fail
  refine hn.mono ?_
  rintro e w' ⟨rfl, rfl⟩
  go_wp2_with fail
  refine hnm.mono ?_
  rintro e w' ⟨rfl, rfl⟩
  go_wp2_with fail
  go_ret
  exact ⟨rfl, rfl⟩
set_option maxRecDepth 100000 in
theorem size_calls (v : Value) (s : ByteArray) (w : World) (h : Disk w v) (hs1 : 1 ≤ s.size) (hs2 : s.size ≤ 128) : Calls Tryd.prog 144 #[v, .string s] w fun e w' => e = .returned (.tuple #[.int .i64 0, .int .i64 121]) ∧ w = w' := by
  have hn := dwrong_calls v s w h hs1 hs2
  go_enter Tryd.func144, Tryd.ntmps144
  go_wp2_with fail
  refine hn.mono ?_
  rintro e w' ⟨rfl, rfl⟩
  go_wp2_with fail
  go_ret2
  exact ⟨rfl, rfl⟩
end Go.Proofs.YtfefcfjedlidnaaDoor.Slo
