/- The program's state of a digest: the walk of take. -/
import Derived.Test.YtnecgoahdkfbeaaDoorShaX
namespace Go.Proofs.YtnecgoahdkfbeaaDoor.Sha
open Go Go.RowKit Go.Proofs.YtnecgoahdkfbeaaDoor.Cop Go.Proofs.YtnecgoahdkfbeaaDoor.Oct
set_option linter.unusedVariables false
set_option linter.unusedSimpArgs false
theorem sizeBy : (Tryd.prog.info? 48).map (fun i => i.size) = some 1 := by kernel_rfl
theorem stc_set10 (h : List Int) (n : Int) (v v' : Value) (hh : h.length = 8) : (stc h n v).take 10 ++ [v'] ++ (stc h n v).drop (10 + 1) = stc h n v' := by
  obtain ⟨s0, s1, s2, s3, s4, s5, s6, s7, rfl⟩ := eight h hh
  rfl
theorem stc_seth (h s : List Int) (n : Int) (v : Value) (hh : h.length = 8) (hs : s.length = 8) : (stc h n v).take 1 ++ (wagg s).cells.toList ++ (stc h n v).drop (1 + 8) = stc s n v := by
  obtain ⟨s0, s1, s2, s3, s4, s5, s6, s7, rfl⟩ := eight h hh
  simp [stc, wcs, Value.cells]
theorem stc_h (h : List Int) (n : Int) (v : Value) (hh : h.length = 8) {w : World} {g : Nat} (hk : Blk w g 283 (stc h n v)) : ∀ j u, (wcs h)[j]? = some u → w.cell? ((⟨g, 1, none⟩ : Addr).add j) = some u := by
  intro j u hu
  have hj : j < 8 := by
    have := (List.getElem?_eq_some_iff.1 hu).1
    rw [wcs_len, hh] at this
    exact this
  have e : (⟨g, 1, none⟩ : Addr).add j = ⟨g, 1 + j, none⟩ := by unfold Addr.add; split <;> simp_all
  rw [e, hk.cell]
  unfold stc
  rw [List.append_assoc, List.getElem?_append_right (by simp), List.getElem?_append_left (by rw [wcs_len, hh]; simp; omega)]
  simpa using hu
theorem stc_rest (h : List Int) (n : Int) (v : Value) (hh : h.length = 8) : (stc h n v)[10]? = some v := by
  obtain ⟨s0, s1, s2, s3, s4, s5, s6, s7, rfl⟩ := eight h hh
  rfl
theorem stc_n (h : List Int) (n : Int) (v : Value) (hh : h.length = 8) : (stc h n v)[9]? = some (.int .i64 n) := by
  obtain ⟨s0, s1, s2, s3, s4, s5, s6, s7, rfl⟩ := eight h hh
  rfl
theorem rd_grown {w w' : World} {v : Value} {bs : List UInt8} {row : Option Nat} (h : Rd w v bs) (hg : w.grownBy w' row) (hne : ∀ ad n c, v = .slice (some ad) n c → some ad.block ≠ row) : Rd w' v bs := by
  obtain ⟨a, cap, rfl, h1, h2, h3, h4⟩ := h
  refine ⟨a, cap, rfl, h1, h2, h3, fun ad had j u hu => ?_⟩
  have hc := h4 ad had j u hu
  subst had
  have hb : (ad.add j).block = ad.block := by unfold Addr.add; split <;> rfl
  exact hg.cell hc (by rw [hb]; exact hne ad _ _ rfl)
section
variable {P : Program} {ops : Array Oper} {rest : List Oper} {o : Oper} {a : Act} {Q : Exit → Act → World → Prop} {w : World} {K : Act → World → Prop} {E : Prop}
/-- A slice turned to an array's address, as one step of a region. -/
theorem step_to_array (hg : o.guard = none) (t e : TypeId) (m : Nat) (x : Operand) (ho : o.op = .sliceToArrayPointer t x) (ht : P.underlying t = some (.array m e)) {ad : Addr} {n cap : Nat} (hx : a.eval x = .slice (some ad) n cap) (hm : m ≤ n)
    (h : K (a.put o.dst (.pointer (some ad))) w) : if Region.wanted o (yielded ops a.tmps) = true then Oper.wp P o a w K Q else E := by
  refine step_run hg (v := .pointer (some ad)) (w' := w) ?_ h
  have e1 : ¬ n < m := by omega
  unfold execOp
  simp [ho, hx, Instr.arrayAt, run_underlying ht, e1, Result.andThen]
end
section
variable {P : Program} {w : World}
/-- An aggregate's cells lie at a pointer. -/
def isAt (w : World) (v : Value) (n : Nat) : Bool := match v with | .pointer (some ad) => (List.range n).all fun j => (w.cell? (ad.add j)).isSome | _ => false
def atV (w : World) (v : Value) (n : Nat) : List Value := match v with | .pointer (some ad) => (List.range n).map fun j => (w.cell? (ad.add j)).getD undef | _ => []
theorem isAt_of {ad : Addr} {cs : List Value} (hc : ∀ j u, cs[j]? = some u → w.cell? (ad.add j) = some u) {n : Nat} (hl : cs.length = n) : isAt w (.pointer (some ad)) n = true := by
  simp only [isAt, List.all_eq_true, List.mem_range]
  intro j hj
  rw [hc j _ (List.getElem?_eq_getElem (by omega))]
  rfl
theorem atV_of {ad : Addr} {cs : List Value} (hc : ∀ j u, cs[j]? = some u → w.cell? (ad.add j) = some u) {n : Nat} (hl : cs.length = n) : atV w (.pointer (some ad)) n = cs := by
  subst hl
  simp only [atV]
  apply List.ext_getElem
  · simp
  · intro i h1 h2
    simp only [List.getElem_map, List.getElem_range]
    rw [hc i _ (List.getElem?_eq_getElem h2)]
    rfl
theorem run_load_atV {t : TypeId} {sz : Nat} (hagg : ∀ w, (isAgg t).run P w = .ok true w) (hs : (P.info? t).map (fun i => i.size) = some sz) (ρ : Operand → Value) (x : Operand) (dst : Option Tmp) (ty : TypeId) (pos : String) (after : Array Edge) (guard : Option (Nat × Bool)) (w : World)
    (h : isAt w (ρ x) sz = true) : (execOp ρ { dst, op := .load t x, type := ty, pos, after, guard }).run P w = .ok (.value (.agg (atV w (ρ x) sz).toArray)) w := by
  unfold isAt at h
  split at h
  · rename_i ad hx
    have hcell : ∀ j u, (atV w (.pointer (some ad)) sz)[j]? = some u → w.cell? (ad.add j) = some u := by
      intro j u hu
      simp only [atV, List.getElem?_map] at hu
      obtain ⟨i, hi, hi2⟩ := Option.map_eq_some_iff.1 hu
      have hlt : j < sz := by
        have := (List.getElem?_eq_some_iff.1 hi).1
        simpa using this
      rw [List.getElem?_range hlt] at hi
      injection hi with hi
      subst hi
      have hsome := List.all_eq_true.1 h j (List.mem_range.2 hlt)
      obtain ⟨z, hz⟩ := Option.isSome_iff_exists.1 hsome
      rw [hz] at hi2 ⊢
      simpa using hi2
    have hld := run_loadCells_list (P := P) w ad (atV w (.pointer (some ad)) sz) hcell
    have hl : (atV w (.pointer (some ad)) sz).length = sz := by simp [atV]
    rw [hl] at hld
    unfold execOp
    simp [hx, Instr.loadAt, Instr.sureAddr, loadVar, hagg, Go.Proofs.YtnecgoahdkfbeaaDoor.Cop.run_sizeOf hs, hld, Result.andThen]
  · cases h
/-- An aggregate is stored into a part of a block. -/
def okPut (w : World) (p v : Value) (n : Nat) : Bool := match p with | .pointer (some ⟨g, o, none⟩) => (match w.heap[g]? with | some (.cells c _ (0, 0)) => decide (o + n ≤ c.size) && decide (v.cells.size = n) && v.cells.toList.all (·.oneCell') | _ => false) | _ => false
def putAt (w : World) (p v : Value) : World := match p with | .pointer (some ⟨g, o, none⟩) => (match w.heap[g]? with | some (.cells c _ _) => w.setRow g (c.toList.take o ++ v.cells.toList ++ c.toList.drop (o + v.cells.size)).toArray | _ => w) | _ => w
theorem okPut_of {g o n : Nat} {t : TypeId} {cs : List Value} (hb : Blk w g t cs) {v : Value} (hv : v.cells.size = n) (h1 : ∀ u ∈ v.cells.toList, u.oneCell' = true) (hl : o + n ≤ cs.length) : okPut w (.pointer (some ⟨g, o, none⟩)) v n = true := by
  simp only [okPut, show w.heap[g]? = _ from hb]
  simp only [Bool.and_eq_true, decide_eq_true_eq, List.all_eq_true]
  exact ⟨⟨by simpa using hl, hv⟩, h1⟩
theorem putAt_of {g o n : Nat} {t : TypeId} {cs : List Value} (hb : Blk w g t cs) {v : Value} (hv : v.cells.size = n) :
    Blk (putAt w (.pointer (some ⟨g, o, none⟩)) v) g t (cs.take o ++ v.cells.toList ++ cs.drop (o + n)) ∧ w.grownBy (putAt w (.pointer (some ⟨g, o, none⟩)) v) (some g) := by
  have e : putAt w (.pointer (some ⟨g, o, none⟩)) v = w.setRow g (cs.take o ++ v.cells.toList ++ cs.drop (o + n)).toArray := by
    simp only [putAt, show w.heap[g]? = _ from hb, hv]
  rw [e]
  exact ⟨setRow_heap w g cs.toArray _ t _ hb, ⟨rfl, rfl, rfl, by simp, fun k _ hk => setRow_other w g k _ (fun e => hk (by rw [e]))⟩⟩
theorem run_put_at {t : TypeId} {sz : Nat} (hs : (P.info? t).map (fun i => i.size) = some sz) (ρ : Operand → Value) (x y : Operand) (dst : Option Tmp) (ty : TypeId) (pos : String) (after : Array Edge) (guard : Option (Nat × Bool)) (w : World)
    (h : okPut w (ρ x) (ρ y) sz = true) : (execOp ρ { dst, op := .store t x y, type := ty, pos, after, guard }).run P w = .ok .skip (putAt w (ρ x) (ρ y)) := by
  unfold okPut at h
  split at h
  · rename_i g o hx
    split at h
    · rename_i c e hg
      simp only [Bool.and_eq_true, decide_eq_true_eq, List.all_eq_true] at h
      obtain ⟨⟨h1, h2⟩, h3⟩ := h
      have hst := run_storeCells_at P g o e (ρ y).cells.toList 0 c w hg (by simp; omega) h3
      simp only [Nat.add_zero] at hst
      have hlen : (ρ y).cells.toList.length = (ρ y).cells.size := by simp
      rw [hlen] at hst
      have ep : putAt w (.pointer (some ⟨g, o, none⟩)) (ρ y) = w.setRow g (c.toList.take o ++ (ρ y).cells.toList ++ c.toList.drop (o + (ρ y).cells.size)).toArray := by
        simp only [putAt, hg]
      rw [hx, ep]
      unfold execOp
      simp [hx, Instr.storeAt, Instr.sureAddr, storeVar, Go.Proofs.YtnecgoahdkfbeaaDoor.Cop.run_sizeOf hs, h2, Result.andThen] at hst ⊢
      rw [hst]
    · cases h
  · cases h
end
theorem ldW8 (ρ : Operand → Value) (x : Operand) (dst : Option Tmp) (ty : TypeId) (pos : String) (after : Array Edge) (guard : Option (Nat × Bool)) (w : World) (h : isAt w (ρ x) 8 = true) : (execOp ρ { dst, op := .load 253 x, type := ty, pos, after, guard }).run Tryd.prog w = .ok (.value (.agg (atV w (ρ x) 8).toArray)) w := run_load_atV aggW8 sizeW8 ρ x dst ty pos after guard w h
theorem ldB64 (ρ : Operand → Value) (x : Operand) (dst : Option Tmp) (ty : TypeId) (pos : String) (after : Array Edge) (guard : Option (Nat × Bool)) (w : World) (h : isAt w (ρ x) 64 = true) : (execOp ρ { dst, op := .load 305 x, type := ty, pos, after, guard }).run Tryd.prog w = .ok (.value (.agg (atV w (ρ x) 64).toArray)) w := run_load_atV aggB64 sizeB64 ρ x dst ty pos after guard w h
theorem stW8 (ρ : Operand → Value) (x y : Operand) (dst : Option Tmp) (ty : TypeId) (pos : String) (after : Array Edge) (guard : Option (Nat × Bool)) (w : World) (h : okPut w (ρ x) (ρ y) 8 = true) : (execOp ρ { dst, op := .store 253 x y, type := ty, pos, after, guard }).run Tryd.prog w = .ok .skip (putAt w (ρ x) (ρ y)) := run_put_at sizeW8 ρ x y dst ty pos after guard w h
/-- A slice of the call's own, cut to nothing. -/
theorem run_cut0 {B : Nat} {w : World} {v : Value} {xs : List UInt8} (h : Own B w v xs) : ∃ v', (Instr.sliceAt 48 v none (some (.int .i64 0)) none).run Tryd.prog w = .ok v' w ∧ Own B w v' [] ∧ v'.ownBlock = v.ownBlock := by
  rcases h.2 with ⟨rfl, h1⟩ | ⟨g, cap, cur, rfl, h1, h2, h3, h4, h5, h6⟩
  · have hr := run_cutB (w := w) (ao := none) (Nat.le_refl 0) none (some (.int .i64 0)) 0 0 (.inl ⟨rfl, rfl⟩) (.inr ⟨.i64, rfl⟩) (Nat.le_refl _) (Nat.le_refl _)
    exact ⟨_, hr, Own.nil _ _, rfl⟩
  · have hr := run_cutB (w := w) (ao := some ⟨g, 0, none⟩) h3 none (some (.int .i64 0)) 0 0 (.inl ⟨rfl, rfl⟩) (.inr ⟨.i64, rfl⟩) (Nat.le_refl _) (Nat.zero_le _)
    have e : (if cap = 0 then some (⟨g, 0, none⟩ : Addr) else (some (⟨g, 0, none⟩ : Addr)).map (·.add 0)) = some ⟨g, 0, none⟩ := by split <;> rfl
    rw [e, Nat.sub_zero, Nat.sub_zero] at hr
    exact ⟨_, hr, ⟨rfl, .inr ⟨g, cap, cur, rfl, h1, h2, Nat.zero_le _, h4, h5, by simp [bcs]⟩⟩, rfl⟩
section
variable {ops : Array Oper} {rest : List Oper} {o : Oper} {a : Act} {Q : Exit → Act → World → Prop} {w : World}
theorem wp_cut0 (hg : Region.wanted o (yielded ops a.tmps) = true) (x : Operand) (ho : o.op = .slice 48 x none (some (.const (.int .i64 0))) none) {B : Nat} {v : Value} {xs : List UInt8} (hown : Own B w v xs) (hx : a.eval x = v)
    (h : ∀ v', Own B w v' [] → v'.ownBlock = v.ownBlock → wpList Tryd.prog ops Q rest (a.put o.dst v') w) : wpList Tryd.prog ops Q (o :: rest) a w := by
  obtain ⟨v', h1, h2, h3⟩ := run_cut0 hown
  refine wp_run hg (v := v') (w' := w) ?_ (h v' h2 h3)
  unfold execOp
  have e : a.eval (.const (.int .i64 0)) = .int .i64 0 := rfl
  simp [ho, hx, e, h1, Result.andThen]
end
theorem Kon.base {B : Nat} {w w' : World} (h : Kon w) (hb : Below B w w') (h5 : 7 < B) : Kon w' := fun i hi => (hb.cell (p := ⟨7, i, none⟩) h5).trans (h i hi)
/-- Between two steps of take: u stands for what is left of the bytes, v1 for the state's own. -/
def TRel (B g : Nat) (n : Int) (vb : Value) (b : List UInt8) (fin : List Int) (ftl : List UInt8) (w : World) (u : Value) (b' q : List UInt8) (s : List Int) (v1 : Value) (wr : World) : Prop :=
  (∀ W, Rd W vb b → Rd W u b') ∧ Rd wr vb b ∧ Hid (over s (q ++ b') = fin) ∧ Hid (tail (q ++ b') = ftl) ∧ s.length = 8 ∧ Blk wr g 283 (stc s n v1) ∧ Own B wr v1 q ∧ q.length < 64 ∧ (q = [] ∨ b' = []) ∧ Below B w wr ∧ v1.ownBlock ≠ some g
def TakeRet (B g : Nat) (n : Int) (fin : List Int) (ftl : List UInt8) (w : World) (e : Ending) (w' : World) : Prop :=
  ∃ v1, e = .returned (.tuple #[]) ∧ Blk w' g 283 (stc fin n v1) ∧ Own B w' v1 ftl ∧ Below B w w' ∧ v1.ownBlock ≠ some g
end Go.Proofs.YtnecgoahdkfbeaaDoor.Sha
