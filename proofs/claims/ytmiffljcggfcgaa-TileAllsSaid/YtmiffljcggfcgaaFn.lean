/- A function value held against nil. -/
import Derived.Test.YtmiffljcggfcgaaIn
namespace Go.Proofs.Ytmiffljcggfcgaa.Cop
open Go Go.RowKit
theorem run_eql_func {P : Program} {t : TypeId} (w : World) {f : Fn} {ts ps : Array Value} {a b : Array TypeId} {c : Bool} (h : P.underlying t = some (.func a b c)) :
    (binOp .eql t (.func f ts ps) .nilFunc).run P w = .ok (.bool false) w := by
  have h : ∀ d : Nat, (Op.equalIn (d + 1) t (.func f ts ps) .nilFunc).run P w = .ok false w := fun d => by
    simp [Op.equalIn, run_underlying h]
  simp only [binOp]
  simp [Op.equal, Op.maxDepth, h 9999]
section
variable {F : Fence} {n' : Nat} {P : Program} {ops : Array Oper} {Q : Exit → Act → World → Prop} {rest : List Oper} {a : Act} {w : World} {o : Oper}
theorem wpI_eql_func (hF : ∀ f, F.fn f) (hg : Region.wanted o (yielded ops a.tmps) = true) (t t2 : TypeId) (x : Operand) (ho : o.op = .binOp .eql t x (.const .nilFunc) t2) {f : Fn} {ts ps : Array Value} {pa pb : Array TypeId} {c : Bool} (ht : P.underlying t = some (.func pa pb c)) (hx : a.eval x = .func f ts ps)
    (h : wpListIn F n' P ops Q rest (a.put o.dst (.bool false)) w) : wpListIn F n' P ops Q (o :: rest) a w := by
  refine wpI_run hF (by rw [ho]; intro c e; cases e) hg (v := .bool false) (w' := w) ?_ h
  unfold execOp
  simp only [ho, hx]
  have e := run_eql_func (P := P) w (t := t) (f := f) (ts := ts) (ps := ps) ht
  simp [eqGuard, Act.eval, e, Result.andThen]
end
end Go.Proofs.Ytmiffljcggfcgaa.Cop
