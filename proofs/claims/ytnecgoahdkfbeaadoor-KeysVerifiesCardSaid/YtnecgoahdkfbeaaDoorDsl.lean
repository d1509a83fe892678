/- Slices of digests. -/
import Derived.Test.YtnecgoahdkfbeaaDoorOctD
import Derived.Test.YtnecgoahdkfbeaaDoorInv
namespace Go.Proofs.YtnecgoahdkfbeaaDoor.Dsl
open Go Go.RowKit Go.Proofs.YtnecgoahdkfbeaaDoor.Cop Go.Proofs.YtnecgoahdkfbeaaDoor.Oct
set_option linter.unusedVariables false
set_option linter.unusedSimpArgs false
/-- The cells of digests. -/
def dcs (ds : List (List UInt8)) : List Value := ds.flatMap bcs
def All32 (ds : List (List UInt8)) : Prop := ∀ d ∈ ds, d.length = 32
theorem dcs_len : ∀ (ds : List (List UInt8)), All32 ds → (dcs ds).length = ds.length * 32
  | [], _ => rfl
  | d :: ds, h => by
    have := dcs_len ds (fun x hx => h x (by simp [hx]))
    have h1 := h d (by simp)
    simp only [dcs, List.flatMap_cons, List.length_append, List.length_cons] at this ⊢
    rw [this, bcs_length, h1]
    omega
theorem dcs_at : ∀ (ds : List (List UInt8)) (i : Nat) (hi : i < ds.length), All32 ds → ((dcs ds).drop (i * 32)).take 32 = bcs ds[i]
  | d :: ds, 0, _, h => by
    have h1 := h d (by simp)
    simp only [dcs, List.flatMap_cons, Nat.zero_mul, List.drop_zero, List.getElem_cons_zero]
    rw [List.take_append_of_le_length (by rw [bcs_length, h1]; exact Nat.le_refl _), List.take_of_length_le (by rw [bcs_length, h1]; exact Nat.le_refl _)]
  | d :: ds, i + 1, hi, h => by
    have h1 := h d (by simp)
    have ih := dcs_at ds i (by simpa using hi) (fun x hx => h x (by simp [hx]))
    simp only [dcs, List.flatMap_cons, List.getElem_cons_succ] at ih ⊢
    rw [List.drop_append, List.drop_eq_nil_of_le (by rw [bcs_length, h1]; omega), List.nil_append, bcs_length, h1, show (i + 1) * 32 - 32 = i * 32 by omega]
    exact ih
theorem dcs_one (ds : List (List UInt8)) : ∀ u ∈ dcs ds, u.oneCell' = true := by
  intro u hu
  obtain ⟨d, _, h⟩ := List.mem_flatMap.1 hu
  exact bcs_one d u h
theorem dcs_append (a b : List (List UInt8)) : dcs (a ++ b) = dcs a ++ dcs b := by simp [dcs]
/-- v is a slice that reads as these digests. -/
def Ds (w : World) (v : Value) (ds : List (List UInt8)) : Prop := Row w v ds.length (dcs ds) ∧ All32 ds
theorem Ds.below {w w' : World} {v : Value} {ds : List (List UInt8)} (h : Ds w v ds) (hb : Below w.heap.size w w') : Ds w' v ds := ⟨h.1.below hb, h.2⟩
theorem Ds.open {w : World} {v : Value} {ds : List (List UInt8)} (h : Ds w v ds) : ∃ a c, v = .slice a ds.length c := by
  obtain ⟨a, c, rfl, _⟩ := h.1
  exact ⟨a, c, rfl⟩
theorem Ds.small {w : World} {v : Value} {ds : List (List UInt8)} (h : Ds w v ds) : ds.length ≤ 9223372036854775807 := h.1.small
section
variable {P : Program} {ops : Array Oper} {rest : List Oper} {o : Oper} {a : Act} {Q : Exit → Act → World → Prop} {w : World}
/-- An element of several cells is read: its address, then the load. -/
theorem wp_index_load_agg {o2 : Oper} {rest2 : List Oper} (hg : Region.wanted o (yielded ops a.tmps) = true) (hg2 : ∀ p, Region.wanted o2 (yielded ops (a.put o.dst p).tmps) = true) (t e : TypeId) (x i : Operand) (d : Tmp) (ho : o.op = .indexAddr t x i) (hd : o.dst = some d) (ho2 : o2.op = .load e (.tmp d))
    (ht : P.underlying t = some (.slice e)) {sz : Nat} (hs : (P.info? e).map (fun i => i.size) = some sz) (hsz : 0 < sz) (hagg : ∀ w, (isAgg e).run P w = .ok true w)
    {v : Value} {n : Nat} {cs : List Value} {k : IntKind} {iv : Int} (hx : a.eval x = v) (hi : a.eval i = .int k iv) (hr : Row w v n cs) (hl : cs.length = n * sz) (hd2 : ∀ p, (a.put (some d) p).eval (.tmp d) = p)
    {us : List Value} (h0 : 0 ≤ iv) (h1 : iv < (n : Int)) (hu : (cs.drop (iv.toNat * sz)).take sz = us)
    (h : ∀ p, wpList P ops Q rest2 ((a.put (some d) p).put o2.dst (.agg us.toArray)) w) : wpList P ops Q (o :: o2 :: rest2) a w := by
  obtain ⟨ad, cap, rfl, hc⟩ := hr.at (sz := sz) (by omega) hsz (i := iv.toNat) (by omega)
  have hrun := run_indexAt_row (P := P) ht hs (ad := ad) (n := n) (cap := cap) (k := k) h0 h1 w
  have hb : iv.toNat * sz + sz ≤ n * sz := by
    have : iv.toNat + 1 ≤ n := by omega
    have := Nat.mul_le_mul_right sz this
    rw [Nat.add_mul] at this
    omega
  have hul : us.length = sz := by rw [← hu, List.length_take, List.length_drop]; omega
  have hcells : ∀ j u, us[j]? = some u → w.cell? ((ad.add (iv.toNat * sz)).add j) = some u := by
    intro j u hj
    rw [← hu, List.getElem?_take] at hj
    split at hj
    · rw [List.getElem?_drop] at hj
      have := hc _ _ hj
      rwa [show (ad.add (iv.toNat * sz)).add j = ad.add (iv.toNat * sz + j) from by unfold Addr.add; by_cases ha : iv.toNat * sz = 0 <;> by_cases hb : j = 0 <;> simp [ha, hb, Nat.add_assoc]]
    · cases hj
  have hld := run_loadCells_list (P := P) w (ad.add (iv.toNat * sz)) us hcells
  rw [hul] at hld
  refine wp_run hg (v := .pointer (some (ad.add (iv.toNat * sz)))) (w' := w) ?_ ?_
  · unfold execOp; simp [ho, hx, hi, hrun, Result.andThen]
  · have hg2' := hg2
    rw [hd] at hg2' ⊢
    have he := hd2 (.pointer (some (ad.add (iv.toNat * sz))))
    refine wp_run (hg2' _) (v := .agg us.toArray) (w' := w) ?_ (h _)
    unfold execOp
    simp [ho2, he, Instr.loadAt, Instr.sureAddr, loadVar, hagg w, Go.Proofs.YtnecgoahdkfbeaaDoor.Cop.run_sizeOf hs, hld, Result.andThen]
/-- An array's slice from a place on. -/
theorem wp_slice_arr (hg : Region.wanted o (yielded ops a.tmps) = true) (t e : TypeId) (n : Nat) (x : Operand) (lo : Option Operand) (ho : o.op = .slice t x lo none none) (ht : P.underlying t = some (.array n e)) (hs : (P.info? e).map (fun i => i.size) = some 1)
    {G : Nat} (hx : a.eval x = .pointer (some ⟨G, 0, none⟩)) (l : Nat) (hlo : lo.map a.eval = none ∧ l = 0 ∨ ∃ k, lo.map a.eval = some (.int k (l : Int))) (h1 : l < n)
    (h : wpList P ops Q rest (a.put o.dst (.slice (some ⟨G, l, none⟩) (n - l) (n - l))) w) : wpList P ops Q (o :: rest) a w := by
  have hrun : (Instr.sliceAt t (.pointer (some ⟨G, 0, none⟩)) (lo.map a.eval) none none).run P w = .ok (.slice (some ⟨G, l, none⟩) (n - l) (n - l)) w := by
    have hsz := Go.Proofs.YtnecgoahdkfbeaaDoor.Cop.run_sizeOf hs w
    have e1 : (l : Int) ≤ (n : Int) := by omega
    have e2 : ¬ n = l := by omega
    have e3 : ¬ n < l := by omega
    rcases hlo with ⟨hlo, rfl⟩ | ⟨k, hlo⟩ <;> rw [hlo] <;>
      simp [Instr.sliceAt, Instr.sureAddr, run_underlying ht, Instr.sliceBounds, Instr.sliceBound, asIntOf, hsz, e1, e2, e3, addr_add]
  refine wp_run hg (v := .slice (some ⟨G, l, none⟩) (n - l) (n - l)) (w' := w) ?_ h
  unfold execOp
  simp [ho, hx, hrun, Result.andThen]
end
section
variable {ops : Array Oper} {rest : List Oper} {o : Oper} {a : Act} {Q : Exit → Act → World → Prop} {w : World}
/-- l[i] of digests. -/
theorem wp_getD {o2 : Oper} {rest2 : List Oper} (hg : Region.wanted o (yielded ops a.tmps) = true) (hg2 : ∀ p, Region.wanted o2 (yielded ops (a.put o.dst p).tmps) = true) (x i : Operand) (d : Tmp) (ho : o.op = .indexAddr 36 x i) (hd : o.dst = some d) (ho2 : o2.op = .load 45 (.tmp d))
    {v : Value} {ds : List (List UInt8)} (hr : Ds w v ds) {k : IntKind} (j : Nat) (hx : a.eval x = v) (hi : a.eval i = .int k (j : Int)) (hd2 : ∀ p, (a.put (some d) p).eval (.tmp d) = p) (hj : j < ds.length)
    (h : ∀ p, wpList Tryd.prog ops Q rest2 ((a.put (some d) p).put o2.dst (dg ds[j])) w) : wpList Tryd.prog ops Q (o :: o2 :: rest2) a w :=
  wp_index_load_agg hg hg2 36 45 x i d ho hd ho2 Tryd.underlying36 sizeD (by decide) aggD hx hi hr.1 (dcs_len ds hr.2) hd2 (by omega) (by omega) (by rw [Int.toNat_natCast]; exact dcs_at ds j hj hr.2) h
end
end Go.Proofs.YtnecgoahdkfbeaaDoor.Dsl
