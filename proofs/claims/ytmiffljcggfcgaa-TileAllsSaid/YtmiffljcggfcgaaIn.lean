/- What an operation does whose run is known: the laws of XLib within a fence that lets all calls through. -/
import Derived.CallsIn
import Derived.BigFrameIn
import Derived.OwnWalkIn
import Derived.Test.YtmiffljcggfcgaaByt
namespace Go.Proofs.Ytmiffljcggfcgaa.Cop
open Go Go.RowKit
set_option linter.unusedVariables false
set_option linter.unusedSimpArgs false
section
variable {F : Fence} {n' : Nat} {P : Program} {ops : Array Oper} {Q : Exit → Act → World → Prop} {rest : List Oper} {a : Act} {w : World} {o : Oper}
theorem gateI {N : Tmp} (_hN : o.dst = some N) (h : wpListIn F n' P ops Q (o :: rest) a w) : wpListIn F n' P ops Q (o :: rest) a w := h
theorem wpI_run (hF : ∀ f, F.fn f) (hd : ∀ c, o.op ≠ .defer c) (hg : Region.wanted o (yielded ops a.tmps) = true) {v : Value} {w' : World} (hr : (execOp a.eval o).run P w = .ok (.value v) w') (h : wpListIn F n' P ops Q rest (a.put o.dst v) w') : wpListIn F n' P ops Q (o :: rest) a w := by
  refine BigFrame.wpListIn_want hg fun K hK => ⟨fun f _ => hF f, ?_⟩
  rw [Oper.semAt_eq _ _ _ hd, hr]
  exact hK _ _ h
theorem wpI_len (hF : ∀ f, F.fn f) (hg : Region.wanted o (yielded ops a.tmps) = true) (x : Operand) (t e : TypeId) (ho : o.op = .call { callee := .builtin .len, args := #[x], argTypes := #[t] }) (ht : P.underlying t = some (.slice e))
    {v : Value} {n : Nat} {cs : List Value} (hx : a.eval x = v) (hr : Row w v n cs) (h : wpListIn F n' P ops Q rest (a.put o.dst (.int .i64 (n : Int))) w) : wpListIn F n' P ops Q (o :: rest) a w := by
  have hs := hr.small
  obtain ⟨ad, cap, rfl, _⟩ := hr
  refine wpI_run hF (by rw [ho]; intro c e; cases e) hg ?_ h
  unfold execOp
  simp only [ho, resolve, invoke, builtin, Sem.run_bind, Sem.run_pure, Result.andThen_ok, List.map_toArray, List.map_cons, List.map_nil, hx]
  simp [Builtin.len_, run_underlying ht, goInt]
theorem wpI_eq_str (hF : ∀ f, F.fn f) (hg : Region.wanted o (yielded ops a.tmps) = true) (t t2 : TypeId) (x y : Operand) (ho : o.op = .binOp .eql t x y t2) {sx sy : ByteArray} (hx : a.eval x = .string sx) (hy : a.eval y = .string sy) {b : Bool} (hb : decide (sx = sy) = b)
    (h : wpListIn F n' P ops Q rest (a.put o.dst (.bool b)) w) : wpListIn F n' P ops Q (o :: rest) a w := by
  have e : (sx.toList == sy.toList) = b := by
    rw [← hb, Bool.eq_iff_iff]
    simp only [beq_iff_eq, decide_eq_true_eq]
    constructor
    · intro h
      have h' : sx.data.toList = sy.data.toList := by rw [← ByteArray.toList_eq, ← ByteArray.toList_eq]; exact h
      cases sx; cases sy
      simp at h'
      simp [h']
    · rintro rfl; rfl
  refine wpI_run hF (by rw [ho]; intro c e; cases e) hg (v := .bool b) (w' := w) ?_ h
  unfold execOp
  simp only [ho, hx, hy, eqGuard_at_string, Sem.run_bind, Sem.run_pure, Result.andThen_ok]
  rw [show binOp .eql t (.string sx) (.string sy) = Op.stringOp .eql sx sy from rfl]
  simp [Op.stringOp, e, Result.andThen]
theorem wpI_neq_str (hF : ∀ f, F.fn f) (hg : Region.wanted o (yielded ops a.tmps) = true) (t t2 : TypeId) (x y : Operand) (ho : o.op = .binOp .neq t x y t2) {sx sy : ByteArray} (hx : a.eval x = .string sx) (hy : a.eval y = .string sy) {b : Bool} (hb : decide (sx = sy) = !b)
    (h : wpListIn F n' P ops Q rest (a.put o.dst (.bool b)) w) : wpListIn F n' P ops Q (o :: rest) a w := by
  have e : (sx.toList == sy.toList) = !b := by
    rw [← hb, Bool.eq_iff_iff]
    simp only [beq_iff_eq, decide_eq_true_eq]
    constructor
    · intro h
      have h' : sx.data.toList = sy.data.toList := by rw [← ByteArray.toList_eq, ← ByteArray.toList_eq]; exact h
      cases sx; cases sy
      simp at h'
      simp [h']
    · rintro rfl; rfl
  refine wpI_run hF (by rw [ho]; intro c e; cases e) hg (v := .bool b) (w' := w) ?_ h
  unfold execOp
  simp only [ho, hx, hy, eqGuard_at_string, Sem.run_bind, Sem.run_pure, Result.andThen_ok]
  rw [show binOp .neq t (.string sx) (.string sy) = Op.stringOp .neq sx sy from rfl]
  simp [Op.stringOp, e, Result.andThen]
theorem wpI_index_load {o2 : Oper} {rest2 : List Oper} (hF : ∀ f, F.fn f) (hg : Region.wanted o (yielded ops a.tmps) = true) (hg2 : ∀ p, Region.wanted o2 (yielded ops (a.put o.dst p).tmps) = true) (t e : TypeId) (x i : Operand) (d : Tmp) (ho : o.op = .indexAddr t x i) (hd : o.dst = some d) (ho2 : o2.op = .load e (.tmp d))
    (ht : P.underlying t = some (.slice e)) (hs : (P.info? e).map (fun i => i.size) = some 1) (hagg : ∀ w, (isAgg e).run P w = .ok false w)
    {v : Value} {n : Nat} {cs : List Value} {k : IntKind} {iv : Int} (hx : a.eval x = v) (hi : a.eval i = .int k iv) (hr : Row w v n cs) (hl : cs.length = n) (hd2 : ∀ p, (a.put (some d) p).eval (.tmp d) = p)
    {u : Value} (h0 : 0 ≤ iv) (h1 : iv < (n : Int)) (hu : cs[iv.toNat]? = some u)
    (h : ∀ p, wpListIn F n' P ops Q rest2 ((a.put (some d) p).put o2.dst u) w) : wpListIn F n' P ops Q (o :: o2 :: rest2) a w := by
  obtain ⟨ad, cap, rfl, hc⟩ := hr.at (sz := 1) (by omega) (by omega) (i := iv.toNat) (by omega)
  have hrun := run_indexAt_row (P := P) ht hs (ad := ad) (n := n) (cap := cap) (k := k) h0 h1 w
  simp only [Nat.mul_one] at hrun
  refine wpI_run hF (by rw [ho]; intro c e; cases e) hg (v := .pointer (some (ad.add iv.toNat))) (w' := w) ?_ ?_
  · unfold execOp; simp [ho, hx, hi, hrun, Result.andThen]
  · have hg2' := hg2
    rw [hd] at hg2' ⊢
    have he := hd2 (.pointer (some (ad.add iv.toNat)))
    refine wpI_run hF (by rw [ho2]; intro c e; cases e) (hg2' _) (v := u) (w' := w) ?_ (h _)
    unfold execOp
    simp [ho2, he, Instr.loadAt, Instr.sureAddr, loadVar, hagg w, hc _ _ hu, Result.andThen]
end
end Go.Proofs.Ytmiffljcggfcgaa.Cop
