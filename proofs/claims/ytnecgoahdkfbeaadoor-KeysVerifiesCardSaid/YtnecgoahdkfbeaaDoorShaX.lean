/- The program's state of a digest: New, none, Clone, and the laws at one step of a region. -/
import Derived.Test.YtnecgoahdkfbeaaDoorShaW
namespace Go.Proofs.YtnecgoahdkfbeaaDoor.Sha
open Go Go.RowKit Go.Proofs.YtnecgoahdkfbeaaDoor.Cop Go.Proofs.YtnecgoahdkfbeaaDoor.Oct
set_option linter.unusedVariables false
set_option linter.unusedSimpArgs false
section
variable {P : Program} {ops : Array Oper} {rest : List Oper} {o : Oper} {a : Act} {Q : Exit → Act → World → Prop} {w : World} {K : Act → World → Prop} {E : Prop}
theorem step_run (hg : o.guard = none) {v : Value} {w' : World} (hr : (execOp a.eval o).run P w = .ok (.value v) w') (h : K (a.put o.dst v) w') : if Region.wanted o (yielded ops a.tmps) = true then Oper.wp P o a w K Q else E := by
  have hw : Region.wanted o (yielded ops a.tmps) = true := by simp [Region.wanted, hg]
  rw [if_pos hw]
  unfold Oper.wp
  rw [hr]
  exact h
theorem step_skip (hg : o.guard = none) {w' : World} (hr : (execOp a.eval o).run P w = .ok .skip w') (h : K (a.put o.dst undef) w') : if Region.wanted o (yielded ops a.tmps) = true then Oper.wp P o a w K Q else E := by
  have hw : Region.wanted o (yielded ops a.tmps) = true := by simp [Region.wanted, hg]
  rw [if_pos hw]
  unfold Oper.wp
  rw [hr]
  exact h
/-- An aggregate is read, as one step of a region. -/
theorem step_load_agg (hg : o.guard = none) (t : TypeId) (x : Operand) (ho : o.op = .load t x) (hagg : ∀ w, (isAgg t).run P w = .ok true w) {sz : Nat} (hs : (P.info? t).map (fun i => i.size) = some sz)
    {ad : Addr} (hx : a.eval x = .pointer (some ad)) {cs : List Value} (hl : cs.length = sz) (hc : ∀ j u, cs[j]? = some u → w.cell? (ad.add j) = some u)
    (h : K (a.put o.dst (.agg cs.toArray)) w) : if Region.wanted o (yielded ops a.tmps) = true then Oper.wp P o a w K Q else E := by
  refine step_run hg (v := .agg cs.toArray) (w' := w) ?_ h
  have hld := run_loadCells_list (P := P) w ad cs hc
  rw [hl] at hld
  unfold execOp
  simp [ho, hx, Instr.loadAt, Instr.sureAddr, loadVar, hagg, Go.Proofs.YtnecgoahdkfbeaaDoor.Cop.run_sizeOf hs, hld, Result.andThen]
theorem run_store_at {t : TypeId} {sz : Nat} (hs : (P.info? t).map (fun i => i.size) = some sz) {g off : Nat} {t' : TypeId} {cs : List Value} (hb : Blk w g t' cs) {v : Value} (hv : v.cells.size = sz) (h1 : ∀ u ∈ v.cells.toList, u.oneCell' = true) (hl : off + sz ≤ cs.length) (x y : Operand) (ho : o.op = .store t x y) (hx : a.eval x = .pointer (some ⟨g, off, none⟩)) (hy : a.eval y = v) :
    ∃ w', (execOp a.eval o).run P w = .ok .skip w' ∧ Blk w' g t' (cs.take off ++ v.cells.toList ++ cs.drop (off + sz)) ∧ w.grownBy w' (some g) := by
  have hst := run_storeCells_at P g off t' v.cells.toList 0 cs.toArray w hb (by simp; omega) h1
  simp only [Nat.add_zero] at hst
  have hlen : v.cells.toList.length = sz := by simpa using hv
  rw [hlen] at hst
  refine ⟨w.setRow g (cs.take off ++ v.cells.toList ++ cs.drop (off + sz)).toArray, ?_, setRow_heap w g cs.toArray _ t' _ hb, ⟨rfl, rfl, rfl, by simp, fun k _ hk => setRow_other w g k _ (fun e => hk (by rw [e]))⟩⟩
  unfold execOp
  simp [ho, hx, hy, Instr.storeAt, Instr.sureAddr, storeVar, Go.Proofs.YtnecgoahdkfbeaaDoor.Cop.run_sizeOf hs, hv, Result.andThen] at hst ⊢
  rw [hst]
/-- An aggregate is stored into a block's part, as one step of a region. -/
theorem step_store_at (hg : o.guard = none) (t : TypeId) (x y : Operand) (ho : o.op = .store t x y) (hd : o.dst = none) {sz : Nat} (hs : (P.info? t).map (fun i => i.size) = some sz)
    {g off : Nat} (hx : a.eval x = .pointer (some ⟨g, off, none⟩)) {t' : TypeId} {cs : List Value} (hb : Blk w g t' cs) {v : Value} (hy : a.eval y = v) (hv : v.cells.size = sz) (h1 : ∀ u ∈ v.cells.toList, u.oneCell' = true) (hl : off + sz ≤ cs.length)
    (h : ∀ w', Blk w' g t' (cs.take off ++ v.cells.toList ++ cs.drop (off + sz)) → w.grownBy w' (some g) → K a w') : if Region.wanted o (yielded ops a.tmps) = true then Oper.wp P o a w K Q else E := by
  obtain ⟨w', h2, h3, h4⟩ := run_store_at (P := P) hs hb hv h1 hl x y ho hx hy
  refine step_skip hg h2 ?_
  rw [hd]
  exact h w' h3 h4
end
section
variable {ops : Array Oper} {rest : List Oper} {o : Oper} {a : Act} {Q : Exit → Act → World → Prop} {w : World} {K : Act → World → Prop} {E : Prop}
/-- A cut, as one step of a region; the part reads in whatever world the whole reads in. -/
theorem step_cutAll (hg : o.guard = none) (x : Operand) (lo hi : Option Operand) (ho : o.op = .slice 48 x lo hi none)
    {v : Value} {bs : List UInt8} (hr : Rd w v bs) (hx : a.eval x = v) (l h' : Nat)
    (hlo : lo.map a.eval = none ∧ l = 0 ∨ ∃ k, lo.map a.eval = some (.int k (l : Int))) (hhi : hi.map a.eval = none ∧ h' = bs.length ∨ ∃ k, hi.map a.eval = some (.int k (h' : Int)))
    (h1 : l ≤ h') (h2 : h' ≤ bs.length)
    (h : ∀ v', (∀ W, Rd W v bs → Rd W v' ((bs.drop l).take (h' - l))) → K (a.put o.dst v') w) : if Region.wanted o (yielded ops a.tmps) = true then Oper.wp Tryd.prog o a w K Q else E := by
  obtain ⟨ao, cap, rfl, hr2⟩ := Row.open hr
  have hnc : bs.length ≤ cap := by obtain ⟨_, _, e, q, _⟩ := hr2; injection e with _ _ e3; omega
  have hrun := run_cutB (w := w) (ao := ao) hnc (lo.map a.eval) (hi.map a.eval) l h' hlo hhi h1 h2
  refine step_run hg (v := .slice (if cap = l then ao else ao.map (·.add l)) (h' - l) (cap - l)) (w' := w) ?_ (h _ (fun W hW => rd_cut hW l h' h1 h2))
  unfold execOp
  simp [ho, hx, hrun, Result.andThen]
end
/-- A state's cells. -/
def stc (h : List Int) (n : Int) (v : Value) : List Value := [.bool true] ++ wcs h ++ [.int .i64 n, v]
theorem stc_len (h : List Int) (n : Int) (v : Value) (hh : h.length = 8) : (stc h n v).length = 11 := by simp [stc, wcs_len, hh]
theorem stc_one (h : List Int) (n : Int) (v : Value) (hv : v.oneCell' = true) : ∀ u ∈ stc h n v, u.oneCell' = true := by
  intro u hu
  simp only [stc, List.mem_append, List.mem_cons, List.not_mem_nil, or_false] at hu
  rcases hu with (rfl | hu) | rfl | rfl
  · rfl
  · exact wcs_one h u hu
  · rfl
  · exact hv
theorem sizeSt : (Tryd.prog.info? 283).map (fun i => i.size) = some 11 := by kernel_rfl
theorem aggSt (w : World) : (isAgg 283).run Tryd.prog w = .ok true w := by kernel_rfl
theorem zeroSt (w : World) : (zeroValue 283).run Tryd.prog w = .ok (.agg #[.bool false, .int .u32 0, .int .u32 0, .int .u32 0, .int .u32 0, .int .u32 0, .int .u32 0, .int .u32 0, .int .u32 0, .int .i64 0, .slice none 0 0]) w := by kernel_rfl
set_option maxRecDepth 100000 in
/-- A new state. -/
theorem new_calls (w : World) : Calls Tryd.prog 186 #[] w fun e w' => ∃ g, e = .returned (.pointer (some ⟨g, 0, none⟩)) ∧ Blk w' g 283 (stc h0 0 (.slice none 0 0)) ∧ w.heap.size ≤ g ∧ Below w.heap.size w w' := by
  go_enter Tryd.func186, Tryd.ntmps186
  go_wp2_with (first | (go_at_call 223; go_loud (refine (beg_calls _).mono ?_); rintro e w1 ⟨rfl, hb1⟩) | (((with_reducible refine gate_dst (N := 3) rfl ?_); go_loud (refine wp_box rfl _ _ rfl (v := .agg (stc h0 0 (.slice none 0 0)).toArray) rfl ?_); intro w2 hk2 hb2 hz2)))
  go_ret
  exact ⟨_, rfl, hk2, hb1.size, hb1.trans (hb2.mono hb1.size)⟩
set_option maxRecDepth 100000 in
theorem none_calls (g : Nat) (h : List Int) (n : Int) (v : Value) (w : World) (hk : Blk w g 283 (stc h n v)) : Calls Tryd.prog 224 #[.pointer (some ⟨g, 0, none⟩)] w fun e w' => e = .returned (.bool false) ∧ w = w' := by
  have c0 : w.cell? ⟨g, 0, none⟩ = some (.bool true) := by rw [hk.cell]; rfl
  go_enter Tryd.func224, Tryd.ntmps224
  go_wp2_with fail
  go_ret
  exact ⟨rfl, rfl⟩
end Go.Proofs.YtnecgoahdkfbeaaDoor.Sha
