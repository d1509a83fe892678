/- A region that draws its order, by an invariant on what has come up. -/
import Derived.Deep.RegionHeld3
import Derived.Test.YtnecgoahdkfbeaaDoorLib
namespace Go.Proofs.YtnecgoahdkfbeaaDoor.Cop
open Go Go.RowKit
set_option linter.unusedVariables false
set_option linter.unusedSimpArgs false
section
variable {P : Program} {ops : Array Oper} {Q : Exit → Act → World → Prop}
/-- Each operation waits for earlier ones alone. -/
def acyc (ops : Array Oper) : Bool := (List.range ops.size).all fun i => match ops[i]? with | some o => o.after.all fun e => !Region.binds .any e || decide (e.on < i) | none => true
def upd (d : Nat → Bool) (i : Nat) : Nat → Bool := fun j => if j = i then true else d j
theorem upd_same (d : Nat → Bool) (i : Nat) : upd d i i = true := by simp [upd]
theorem upd_other (d : Nat → Bool) (i j : Nat) (h : j ≠ i) : upd d i j = d j := by simp [upd, h]
/-- Whoever has come up waits for nobody. -/
def Closed (ops : Array Oper) (d : Nat → Bool) : Prop := ∀ (j : Nat) (o : Oper), ops[j]? = some o → d j = true → ∀ e ∈ o.after, Region.binds .any e = true → d e.on = true
theorem Closed.upd {ops : Array Oper} {d : Nat → Bool} (h : Closed ops d) {i : Nat} {o : Oper} (ho : ops[i]? = some o) (hd : ∀ e ∈ o.after, Region.binds .any e = true → d e.on = true) : Closed ops (upd d i) := by
  intro j oj hj hdj e he hb
  by_cases h1 : e.on = i
  · rw [h1]; exact upd_same d i
  · rw [upd_other d i e.on h1]
    by_cases h2 : j = i
    · subst h2
      rw [ho] at hj
      cases hj
      exact hd e he hb
    · rw [upd_other d i j h2] at hdj
      exact h j oj hj hdj e he hb
def StepsR (P : Program) (ops : Array Oper) (Q : Exit → Act → World → Prop) (I : (Nat → Bool) → Act → World → Prop) : Prop :=
  ∀ (i : Nat) (o : Oper), ops[i]? = some o → ∀ (d : Nat → Bool) (a : Act) (w : World), d i = false → (∀ e ∈ o.after, Region.binds .any e = true → d e.on = true) → Closed ops d → I d a w →
    ∀ K : Act → World → Prop, (∀ a' w', I (upd d i) a' w' → K a' w') → if Region.wanted o (yielded ops a.tmps) = true then Oper.wp P o a w K Q else K (a.put o.dst undef) w
def cnt (L : Array Bool) : Nat := (L.toList.filter (! ·)).length
theorem cnt_set (L : Array Bool) (i : Nat) (h : L[i]? = some false) : cnt (L.setIfInBounds i true) + 1 = cnt L := by
  obtain ⟨l⟩ := L
  simp only [List.setIfInBounds_toArray, cnt] at h ⊢
  simp at h
  induction l generalizing i with
  | nil => simp at h
  | cons b l ih =>
    cases i with
    | zero => simp at h; subst h; simp
    | succ i =>
      have := ih i (by simpa using h)
      cases b <;> simp at this ⊢ <;> omega
theorem ready_mem {L : Array Bool} {i : Nat} (h : i ∈ Region.ready .any ops L) : ∃ o, ops[i]? = some o ∧ L.getD i true = false ∧ ∀ e ∈ o.after, Region.binds .any e = true → L.getD e.on false = true := by
  unfold Region.ready at h
  rw [List.mem_filter, List.mem_range] at h
  obtain ⟨h1, h2⟩ := h
  simp only [Bool.and_eq_true, Bool.not_eq_true'] at h2
  refine ⟨ops[i], Array.getElem?_eq_getElem h1, h2.1, ?_⟩
  have h3 := h2.2
  rw [Array.getElem?_eq_getElem h1] at h3
  simp only [Option.map_some, Option.getD_some, Array.all_eq_true'] at h3
  intro e he hb
  have := h3 e he
  rw [hb] at this
  simpa using this
theorem ready_none {L : Array Bool} (hac : acyc ops = true) (hs : L.size = ops.size) (h : Region.ready .any ops L = []) : ∀ j, j < ops.size → L.getD j false = true := by
  intro j
  induction j using Nat.strongRecOn with
  | ind j ih =>
    intro hj
    cases hl : L.getD j false with
    | true => rfl
    | false =>
      have hlt : L.getD j true = false := by
        simp only [Array.getD_eq_getD_getElem?, Array.getElem?_eq_getElem (show j < L.size by omega), Option.getD_some] at hl ⊢
        exact hl
      have : j ∈ Region.ready .any ops L := by
        unfold Region.ready
        rw [List.mem_filter, List.mem_range]
        refine ⟨hj, ?_⟩
        rw [hlt, Array.getElem?_eq_getElem hj]
        simp only [Bool.not_false, Bool.true_and, Option.map_some, Option.getD_some, Array.all_eq_true']
        intro e he
        have ha := List.all_eq_true.1 hac j (List.mem_range.2 hj)
        simp only [Array.getElem?_eq_getElem hj, Array.all_eq_true'] at ha
        cases hbd : Region.binds .any e with
        | false => rfl
        | true =>
          have ha2 := ha e he
          rw [hbd] at ha2
          have hlt2 : e.on < j := by simpa using ha2
          rw [ih e.on hlt2 (by omega)]
          simp
      rw [h] at this
      cases this
theorem wpAny_inv (I : (Nat → Bool) → Act → World → Prop) (hac : acyc ops = true) (hstep : StepsR P ops Q I) (hfin : ∀ d a w, (∀ j, j < ops.size → d j = true) → I d a w → Q .normal a w) :
    ∀ (fuel : Nat) (L : Array Bool) (a : Act) (w : World), L.size = ops.size → cnt L ≤ fuel → Closed ops (fun j => L.getD j false) → I (fun j => L.getD j false) a w → wpAny P .any ops Q fuel L a w
  | 0, L, a, w, hs, hc, hcl, hI => by
    have hall : ∀ j, j < L.size → L.getD j false = true := by
      intro j hj
      cases hl : L.getD j false with
      | true => rfl
      | false =>
        have : L[j]? = some false := by
          simp only [Array.getD_eq_getD_getElem?, Array.getElem?_eq_getElem hj, Option.getD_some] at hl ⊢
          rw [hl]
        have := cnt_set L j this
        omega
    refine ⟨?_, hfin _ a w (fun j hj => hall j (by omega)) hI⟩
    apply List.eq_nil_iff_forall_not_mem.2
    intro i hi
    obtain ⟨o, ho, hl, _⟩ := ready_mem hi
    have hi2 : i < L.size := by rw [hs]; exact (Array.getElem?_eq_some_iff.1 ho).1
    have := hall i hi2
    simp only [Array.getD_eq_getD_getElem?, Array.getElem?_eq_getElem hi2, Option.getD_some] at hl this
    rw [this] at hl
    cases hl
  | fuel + 1, L, a, w, hs, hc, hcl, hI => by
    refine ⟨fun h => hfin _ a w (ready_none hac hs h) hI, ?_⟩
    intro i hi
    obtain ⟨o, ho, hl, hd⟩ := ready_mem hi
    have hi2 : i < L.size := by rw [hs]; exact (Array.getElem?_eq_some_iff.1 ho).1
    have hl2 : L[i]? = some false := by
      simp only [Array.getD_eq_getD_getElem?, Array.getElem?_eq_getElem hi2, Option.getD_some] at hl ⊢
      rw [hl]
    have hl3 : L.getD i false = false := by rw [Array.getD_eq_getD_getElem?, hl2]; rfl
    refine wpOp_step ho (fun K' hK => hstep i o ho (fun j => L.getD j false) a w hl3 hd hcl hI K' (fun a' w' h => hK a' w' ?_))
    have e : (fun j => (L.setIfInBounds i true).getD j false) = upd (fun j => L.getD j false) i := by
      funext j
      unfold upd
      simp only [Array.getD_eq_getD_getElem?, Array.getElem?_setIfInBounds]
      by_cases hji : j = i
      · subst hji; simp [hi2]
      · rw [if_neg (fun e => hji e.symm), if_neg hji]
    exact wpAny_inv I hac hstep hfin fuel _ a' w' (by simpa using hs) (by have := cnt_set L i hl2; omega) (by rw [e]; exact hcl.upd ho hd) (by rw [e]; exact h)
/-- A region that draws its order, by an invariant: shown at the beginning; kept by each operation that may come up; enough at the end. -/
theorem wp_region_inv {id : Nat} {a : Act} {w : World} (I : (Nat → Bool) → Act → World → Prop) (hm : P.follows .mixedOrders = true) (hac : acyc ops = true) (h0 : I (fun _ => false) a w.drew) (hstep : StepsR P ops Q I)
    (hfin : ∀ d a w, (∀ j, j < ops.size → d j = true) → I d a w → Q .normal a w) : (Code.region id ops true).wp P Q a w := by
  have e : (fun j => (Array.replicate ops.size false).getD j false) = fun _ => false := by
    funext j
    simp only [Array.getD_eq_getD_getElem?, Array.getElem?_replicate]
    split <;> rfl
  refine wp_region_any hm (wpAny_inv I hac hstep hfin ops.size _ a _ (by simp) (by simp [cnt]) ?_ ?_)
  · rw [e]; intro j o _ h; cases h
  · rw [e]; exact h0
end
section
variable {P : Program} {ops : Array Oper} {Q : Exit → Act → World → Prop}
/-- The slot of an operation. -/
def dstOf (ops : Array Oper) (i : Nat) : Nat := match ops[i]? with | some o => o.dst.getD 0 | none => 0
/-- Each operation has a slot of its own. -/
def pureOk (ops : Array Oper) : Bool := (List.range ops.size).all fun i => (match ops[i]? with | some o => o.dst.isSome | none => false) && (List.range ops.size).all fun j => i == j || dstOf ops i != dstOf ops j
theorem pureOk_dst {i : Nat} {o : Oper} (h : pureOk ops = true) (ho : ops[i]? = some o) : o.dst = some (dstOf ops i) := by
  have hi : i < ops.size := (Array.getElem?_eq_some_iff.1 ho).1
  have := List.all_eq_true.1 h i (List.mem_range.2 hi)
  simp only [Bool.and_eq_true, ho] at this
  obtain ⟨d, hd⟩ := Option.isSome_iff_exists.1 this.1
  simp only [dstOf, ho, hd, Option.getD_some]
theorem pureOk_ne {i j : Nat} (h : pureOk ops = true) (hi : i < ops.size) (hj : j < ops.size) (hne : i ≠ j) : dstOf ops i ≠ dstOf ops j := by
  have := List.all_eq_true.1 h i (List.mem_range.2 hi)
  simp only [Bool.and_eq_true, List.all_eq_true, List.mem_range] at this
  have h2 := this.2 j hj
  simpa [hne] using h2
/-- A region that draws its order and whose operations, in whatever order, yield the values V; memory but grows. -/
theorem wp_region_pure {id : Nat} {w : World} (fr : (Nat → Value) → Array Value) (u0 : Nat → Value) (V : Nat → Value) (hm : P.follows .mixedOrders = true) (hac : acyc ops = true) (hok : pureOk ops = true)
    (hfr : ∀ i, i < ops.size → ∀ (u : Nat → Value) (v : Value), (fr u).setIfInBounds (dstOf ops i) v = fr (fun k => if k = dstOf ops i then v else u k))
    (hstep : ∀ (i : Nat) (o : Oper), ops[i]? = some o → ∀ (u : Nat → Value) (W : World), Below w.heap.size w W → (∀ e ∈ o.after, Region.binds .any e = true → u (dstOf ops e.on) = V e.on) → ∀ K : Act → World → Prop, (∀ W', Below W.heap.size W W' → K (Act.put { tmps := fr u, defers := [] } o.dst (V i)) W') →
      if Region.wanted o (yielded ops (fr u)) = true then Oper.wp P o { tmps := fr u, defers := [] } W K Q else K (Act.put { tmps := fr u, defers := [] } o.dst undef) W)
    (hfin : ∀ (u : Nat → Value) (W : World), Below w.heap.size w W → (∀ i, i < ops.size → u (dstOf ops i) = V i) → Q .normal { tmps := fr u, defers := [] } W) :
    (Code.region id ops true).wp P Q { tmps := fr u0, defers := [] } w := by
  refine wp_region_inv (fun D a W => ∃ u : Nat → Value, a = { tmps := fr u, defers := [] } ∧ Below w.heap.size w W ∧ ∀ j, j < ops.size → D j = true → u (dstOf ops j) = V j) hm hac ⟨u0, rfl, (Below.refl _ _).drew, fun _ _ h => by cases h⟩ ?_ ?_
  · intro i o ho D a W hdi hdep hcl hI K hK
    obtain ⟨u, rfl, hb, hV⟩ := hI
    have hi : i < ops.size := (Array.getElem?_eq_some_iff.1 ho).1
    refine hstep i o ho u W hb (fun e he hbi => ?_) K (fun W' hb' => hK _ _ ?_)
    · have hd := hdep e he hbi
      refine hV e.on ?_ hd
      have ha := List.all_eq_true.1 hac i (List.mem_range.2 hi)
      simp only [ho, Array.all_eq_true'] at ha
      have ha2 := ha e he
      rw [hbi] at ha2
      have : e.on < i := by simpa using ha2
      omega
    · rw [pureOk_dst hok ho]
      refine ⟨fun k => if k = dstOf ops i then V i else u k, ?_, hb.trans (hb'.mono hb.size), fun j hj hD => ?_⟩
      · show Act.mk ((fr u).setIfInBounds (dstOf ops i) (V i)) [] = _
        rw [hfr i hi u (V i)]
      · by_cases hji : j = i
        · subst hji; simp
        · rw [upd_other D i j hji] at hD
          have := pureOk_ne hok hj hi hji
          simp only [if_neg this]
          exact hV j hj hD
  · rintro D a W hall ⟨u, rfl, hb, hV⟩
    exact hfin u W hb (fun i hi => hV i hi (hall i hi))
/-- A region that draws its order; each operation i yields a value of which F i says something that bears the growth of memory; memory but grows. -/
theorem wp_region_grow {id : Nat} {w : World} (fr : (Nat → Value) → Array Value) (u0 : Nat → Value) (F : Nat → Value → World → Prop) (hm : P.follows .mixedOrders = true) (hac : acyc ops = true) (hok : pureOk ops = true)
    (hfr : ∀ i, i < ops.size → ∀ (u : Nat → Value) (v : Value), (fr u).setIfInBounds (dstOf ops i) v = fr (fun k => if k = dstOf ops i then v else u k))
    (hst : ∀ i, i < ops.size → ∀ v W W', F i v W → Below W.heap.size W W' → F i v W')
    (hstep : ∀ (i : Nat) (o : Oper), ops[i]? = some o → ∀ (u : Nat → Value) (W : World), Below w.heap.size w W → (∀ e ∈ o.after, Region.binds .any e = true → F e.on (u (dstOf ops e.on)) W) → ∀ K : Act → World → Prop, (∀ v W', Below W.heap.size W W' → F i v W' → K (Act.put { tmps := fr u, defers := [] } o.dst v) W') →
      if Region.wanted o (yielded ops (fr u)) = true then Oper.wp P o { tmps := fr u, defers := [] } W K Q else K (Act.put { tmps := fr u, defers := [] } o.dst undef) W)
    (hfin : ∀ (u : Nat → Value) (W : World), Below w.heap.size w W → (∀ i, i < ops.size → F i (u (dstOf ops i)) W) → Q .normal { tmps := fr u, defers := [] } W) :
    (Code.region id ops true).wp P Q { tmps := fr u0, defers := [] } w := by
  refine wp_region_inv (fun D a W => ∃ u : Nat → Value, a = { tmps := fr u, defers := [] } ∧ Below w.heap.size w W ∧ ∀ j, j < ops.size → D j = true → F j (u (dstOf ops j)) W) hm hac ⟨u0, rfl, (Below.refl _ _).drew, fun _ _ h => by cases h⟩ ?_ ?_
  · intro i o ho D a W hdi hdep hcl hI K hK
    obtain ⟨u, rfl, hb, hV⟩ := hI
    have hi : i < ops.size := (Array.getElem?_eq_some_iff.1 ho).1
    refine hstep i o ho u W hb (fun e he hbi => ?_) K (fun v W' hb' hF => hK _ _ ?_)
    · have hd := hdep e he hbi
      refine hV e.on ?_ hd
      have ha := List.all_eq_true.1 hac i (List.mem_range.2 hi)
      simp only [ho, Array.all_eq_true'] at ha
      have ha2 := ha e he
      rw [hbi] at ha2
      have : e.on < i := by simpa using ha2
      omega
    · rw [pureOk_dst hok ho]
      refine ⟨fun k => if k = dstOf ops i then v else u k, ?_, hb.trans (hb'.mono hb.size), fun j hj hD => ?_⟩
      · show Act.mk ((fr u).setIfInBounds (dstOf ops i) v) [] = _
        rw [hfr i hi u v]
      · by_cases hji : j = i
        · subst hji; simpa using hF
        · rw [upd_other D i j hji] at hD
          have := pureOk_ne hok hj hi hji
          simp only [if_neg this]
          exact hst j hj _ _ _ (hV j hj hD) hb'
  · rintro D a W hall ⟨u, rfl, hb, hV⟩
    exact hfin u W hb (fun i hi => hV i hi (hall i hi))
end
section
variable {P : Program} {ops : Array Oper} {o : Oper} {a : Act} {Q : Exit → Act → World → Prop} {w : World} {K : Act → World → Prop} {E : Prop}
theorem st_want (hg : o.guard = none) (h : Oper.wp P o a w K Q) : if Region.wanted o (yielded ops a.tmps) = true then Oper.wp P o a w K Q else E := by
  have hw : Region.wanted o (yielded ops a.tmps) = true := by simp [Region.wanted, hg]
  rw [if_pos hw]
  exact h
/-- One step: an operation that yields a value. -/
theorem st_run (hg : o.guard = none) {v : Value} {w' : World} (hr : (execOp a.eval o).run P w = .ok (.value v) w') (h : K (a.put o.dst v) w') : if Region.wanted o (yielded ops a.tmps) = true then Oper.wp P o a w K Q else E := by
  have hw : Region.wanted o (yielded ops a.tmps) = true := by simp [Region.wanted, hg]
  rw [if_pos hw]
  unfold Oper.wp
  rw [hr]
  exact h
/-- One step: an operation that yields none. -/
theorem st_skip (hg : o.guard = none) {w' : World} (hr : (execOp a.eval o).run P w = .ok .skip w') (h : K (a.put o.dst undef) w') : if Region.wanted o (yielded ops a.tmps) = true then Oper.wp P o a w K Q else E := by
  have hw : Region.wanted o (yielded ops a.tmps) = true := by simp [Region.wanted, hg]
  rw [if_pos hw]
  unfold Oper.wp
  rw [hr]
  exact h
/-- A new variable of zeros. -/
theorem st_alloc (hg : o.guard = none) (t : TypeId) (ho : o.op = .alloc t) {z : Value} (hz : ∀ w, (zeroValue t).run P w = .ok z w)
    (h : ∀ w', Blk w' w.heap.size t z.cells.toList → Below w.heap.size w w' → w.heap.size < w'.heap.size → K (a.put o.dst (.pointer (some ⟨w.heap.size, 0, none⟩))) w') : if Region.wanted o (yielded ops a.tmps) = true then Oper.wp P o a w K Q else E := by
  refine st_run hg (v := .pointer (some ⟨w.heap.size, 0, none⟩)) (w' := w.alloc (.cells z.cells t)) ?_ (h _ ?_ ((Below.refl _ _).alloc (Nat.le_refl _) _) (by simp))
  · unfold execOp
    simp [ho, Instr.alloc, hz, newVar, newRow, newObj, Result.andThen]
    rfl
  · have := Blk.new w z.cells.toList t
    simpa using this
theorem st_box (hg : o.guard = none) (t : TypeId) (x : Operand) (ho : o.op = .box t x) {v : Value} (hx : a.eval x = v)
    (h : ∀ w', Blk w' w.heap.size t v.cells.toList → Below w.heap.size w w' → w.heap.size < w'.heap.size → K (a.put o.dst (.pointer (some ⟨w.heap.size, 0, none⟩))) w') : if Region.wanted o (yielded ops a.tmps) = true then Oper.wp P o a w K Q else E := by
  refine st_run hg (v := .pointer (some ⟨w.heap.size, 0, none⟩)) (w' := w.alloc (.cells v.cells t)) ?_ (h _ ?_ ((Below.refl _ _).alloc (Nat.le_refl _) _) (by simp))
  · unfold execOp
    simp [ho, hx, Instr.box, newVar, newRow, newObj, Result.andThen]
    rfl
  · have := Blk.new w v.cells.toList t
    simpa using this
theorem st_load_agg (hg : o.guard = none) (t : TypeId) (x : Operand) (ho : o.op = .load t x) (hagg : ∀ w, (isAgg t).run P w = .ok true w) {sz : Nat} (hs : (P.info? t).map (fun i => i.size) = some sz)
    {ad : Addr} (hx : a.eval x = .pointer (some ad)) {cs : List Value} (hl : cs.length = sz) (hc : ∀ j u, cs[j]? = some u → w.cell? (ad.add j) = some u)
    (h : K (a.put o.dst (.agg cs.toArray)) w) : if Region.wanted o (yielded ops a.tmps) = true then Oper.wp P o a w K Q else E := by
  refine st_run hg (v := .agg cs.toArray) (w' := w) ?_ h
  have hld := run_loadCells_list (P := P) w ad cs hc
  rw [hl] at hld
  unfold execOp
  simp [ho, hx, Instr.loadAt, Instr.sureAddr, loadVar, hagg, run_sizeOf hs, hld, Result.andThen]
theorem st_load_blk (hg : o.guard = none) (t : TypeId) (x : Operand) (ho : o.op = .load t x) (hagg : ∀ w, (isAgg t).run P w = .ok true w) {sz : Nat} (hs : (P.info? t).map (fun i => i.size) = some sz)
    {g : Nat} (hx : a.eval x = .pointer (some ⟨g, 0, none⟩)) {t' : TypeId} {cs : List Value} (hb : Blk w g t' cs) (hl : cs.length = sz)
    (h : K (a.put o.dst (.agg cs.toArray)) w) : if Region.wanted o (yielded ops a.tmps) = true then Oper.wp P o a w K Q else E :=
  st_load_agg hg t x ho hagg hs hx hl (fun j u hu => by rw [addr_add, hb.cell]; exact hu) h
/-- One cell is read. -/
theorem st_load1 (hg : o.guard = none) (t : TypeId) (x : Operand) (ho : o.op = .load t x) (hagg : ∀ w, (isAgg t).run P w = .ok false w) (hs : (P.info? t).map (fun i => i.size) = some 1)
    {ad : Addr} (hx : a.eval x = .pointer (some ad)) {u : Value} (hc : w.cell? ad = some u)
    (h : K (a.put o.dst u) w) : if Region.wanted o (yielded ops a.tmps) = true then Oper.wp P o a w K Q else E := by
  refine st_run hg (v := u) (w' := w) ?_ h
  have hl : (load ad).run P w = .ok u w := by simp [go_sem, hc]
  unfold execOp
  simp [ho, hx, Instr.loadAt, Instr.sureAddr, loadVar, hagg, hl, Result.andThen]
/-- An aggregate is stored into a block of its own, whole. -/
theorem st_store_blk (hg : o.guard = none) (t : TypeId) (x y : Operand) (ho : o.op = .store t x y) (hd : o.dst = none) {sz : Nat} (hs : (P.info? t).map (fun i => i.size) = some sz)
    {g : Nat} (hx : a.eval x = .pointer (some ⟨g, 0, none⟩)) {t' : TypeId} {cs : List Value} (hb : Blk w g t' cs) (hl : cs.length = sz) {v : Value} (hy : a.eval y = v) (hv : v.cells.size = sz) (h1 : ∀ u ∈ v.cells.toList, u.oneCell' = true)
    (h : ∀ w', Blk w' g t' v.cells.toList → w.grownBy w' (some g) → K a w') : if Region.wanted o (yielded ops a.tmps) = true then Oper.wp P o a w K Q else E := by
  have hst := run_storeCells_at P g 0 t' v.cells.toList 0 cs.toArray w hb (by simp; omega) h1
  simp only [Nat.add_zero, List.take_zero, List.nil_append, Nat.zero_add] at hst
  have hd0 : cs.toArray.toList.drop v.cells.toList.length = [] := by simp; omega
  rw [hd0, List.append_nil] at hst
  refine st_skip hg (w' := w.setRow g v.cells.toList.toArray) ?_ ?_
  · unfold execOp
    simp [ho, hx, hy, Instr.storeAt, Instr.sureAddr, storeVar, run_sizeOf hs, hv, Result.andThen] at hst ⊢
    rw [hst]
  · rw [hd]
    exact h _ (setRow_heap w g cs.toArray _ t' _ hb) ⟨rfl, rfl, rfl, by simp, fun k _ hk => setRow_other w g k _ (fun e => hk (by rw [e]))⟩
/-- Texts are put together. -/
theorem st_addS (hg : o.guard = none) (t t2 : TypeId) (x y : Operand) (ho : o.op = .binOp .add t x y t2) {p q : List UInt8} {sx sy : ByteArray} (hx : a.eval x = .string sx) (hy : a.eval y = .string sy) (ex : sx = str p) (ey : sy = str q)
    (hl : p.length + q.length ≤ 9223372036854775807) (h : K (a.put o.dst (.string (str (p ++ q)))) w) : if Region.wanted o (yielded ops a.tmps) = true then Oper.wp P o a w K Q else E := by
  subst ex
  subst ey
  have hrun := run_string_add_sum (P := P) w (str p) (str q) (by simpa [str, ByteArray.size] using hl)
  have e : str p ++ str q = str (p ++ q) := ByteArray.mk_append_mk p q
  rw [e] at hrun
  refine st_run hg (v := .string (str (p ++ q))) (w' := w) ?_ h
  unfold execOp
  simp only [ho, hx, hy, eqGuard_add, Sem.run_bind, Sem.run_pure, Result.andThen_ok]
  rw [show binOp .add t (.string (str p)) (.string (str q)) = Op.stringOp .add (str p) (str q) from rfl, hrun]
  rfl
end
end Go.Proofs.YtnecgoahdkfbeaaDoor.Cop
