/- A digest as a result, and held against another by '!='. -/
import Derived.Test.YtjgbmkmkhngddaaGreatDoorDig
namespace Go.Proofs.YtjgbmkmkhngddaaGreatDoor.Nob
open Go Go.RowKit Go.Proofs.YtjgbmkmkhngddaaGreatDoor.Cop Go.Proofs.YtjgbmkmkhngddaaGreatDoor.Oct
set_option linter.unusedVariables false
set_option linter.unusedSimpArgs false
theorem results_blk1 {P : Program} {w : World} {fn : Func} {p : Tmp} {ty : TypeId} (h : fn.results = #[.cell p ty]) (hagg : ∀ w, (isAgg ty).run P w = .ok true w) {sz : Nat} (hs : (P.info? ty).map (fun i => i.size) = some sz)
    (tmps : Array Value) {g : Nat} (hp : tmps.getD p undef = .pointer (some ⟨g, 0, none⟩)) {t' : TypeId} {cs : List Value} (hb : Blk w g t' cs) (hl : cs.length = sz) :
    (results fn tmps).run P w = .ok (.agg cs.toArray) w := by
  have hld := run_loadCells_list (P := P) w ⟨g, 0, none⟩ cs (fun j u hu => by rw [addr_add, hb.cell]; exact hu)
  rw [hl] at hld
  have hp' : tmps[p]?.getD undef = .pointer (some ⟨g, 0, none⟩) := by simpa using hp
  simp [results, h, hp', asAddr, loadVar, hagg, Go.Proofs.YtjgbmkmkhngddaaGreatDoor.Cop.run_sizeOf hs, hld, Result.andThen]
section
variable {P : Program} {ops : Array Oper} {Q : Exit → Act → World → Prop} {rest : List Oper} {a : Act} {w : World} {o : Oper}
theorem wp_neq_dg (hg : Region.wanted o (yielded ops a.tmps) = true) (t t2 e : TypeId) (n : Nat) (x y : Operand) (ho : o.op = .binOp .neq t x y t2) (ht : P.underlying t = some (.array n e)) (he : P.underlying e = some (.int .u8))
    (hs : (P.info? e).map (fun i => i.size) = some 1) (hq : P.eqGuardType P.depth t = false) {p q : List UInt8} (hx : a.eval x = dg p) (hy : a.eval y = dg q) (hp : p.length = n) (hq' : q.length = n) {b : Bool} (hb : (p == q) = !b)
    (h : wpList P ops Q rest (a.put o.dst (.bool b)) w) : wpList P ops Q (o :: rest) a w := by
  have e0 := run_eql_bytes (P := P) w t e n ht he (fun w => Go.Proofs.YtjgbmkmkhngddaaGreatDoor.Cop.run_sizeOf hs w) p q hp hq'
  have e0' : (binOp .eql t (.agg (bcs p).toArray) (.agg (bcs q).toArray)).run P w = .ok (.bool (p == q)) w := e0
  have hrun2 : (binOp .neq t (dg p) (dg q)).run P w = .ok (.bool b) w := by
    show (binOp .neq t (.agg (bcs p).toArray) (.agg (bcs q).toArray)).run P w = _
    rw [run_eql_struct] at e0'
    rw [run_neq_struct]
    cases hr : (Op.equalIn 10000 t (.agg (bcs p).toArray) (.agg (bcs q).toArray)).run P w with
    | ok c w' =>
      rw [hr] at e0'
      simp only [Result.andThen] at e0' ⊢
      injection e0' with e2 e3
      injection e2 with e2
      subst e3
      rw [e2, hb, Bool.not_not]
    | halt c w' => rw [hr] at e0'; simp [Result.andThen] at e0'
  refine wp_run hg (v := .bool b) (w' := w) ?_ h
  unfold execOp
  simp only [ho, hx, hy]
  have hgd : (eqGuard .neq t x y (dg p) (dg q)).run P w = .ok () w := by
    simp [eqGuard, hq]
  simp [Sem.run_bind, hgd, hrun2, Result.andThen]
end

end Go.Proofs.YtjgbmkmkhngddaaGreatDoor.Nob
