/- Two tiles held against each other. -/
import Derived.Laws.StructEq
import Derived.Test.YtmiffljcggfcgaaLib
import Derived.Test.YtmiffljcggfcgaaProg
namespace Go.Proofs.Ytmiffljcggfcgaa.Til
open Go Go.RowKit Go.Proofs.Ytmiffljcggfcgaa.Cop
set_option maxRecDepth 100000 in
theorem run_neq_tile (w : World) (a b c d a' b' c' d' : Int) : (binOp .neq 25 (.agg #[.int .i64 a, .int .i64 b, .int .i64 c, .int .i64 d]) (.agg #[.int .i64 a', .int .i64 b', .int .i64 c', .int .i64 d'])).run Try.prog w = .ok (.bool (!((a == a') && (b == b') && (c == c') && (d == d')))) w := by
  rw [run_neq_struct]
  have hi : ∀ (e : Nat) (x y : Int), (Op.equalIn (e + 1) 3 (.int .i64 x) (.int .i64 y)).run Try.prog w = .ok (x == y) w := fun e x y => by
    simp [Op.equalIn, run_underlying Try.underlying3]
  have hu : Try.prog.underlying 25 = some (.struct (Try.prog.fieldsOf 25)) := by kernel_rfl
  have hp : Try.prog.stoodInHeld 25 = false := by kernel_rfl
  have hp3 : ∀ (vs : Array Value) (o : Nat) (v : Value), vs[o]? = some v → (part 3 vs o).run Try.prog w = .ok v w := by
    intro vs o v hv
    have hs : (Try.prog.info? 3).map (fun i => i.size) = some 1 := by kernel_rfl
    have ha : (isAgg 3).run Try.prog w = .ok false w := by kernel_rfl
    simp [part, ha, Go.Proofs.Ytmiffljcggfcgaa.Cop.run_sizeOf hs, hv]
  have q0 := hp3 #[.int .i64 a, .int .i64 b, .int .i64 c, .int .i64 d] 0 (.int .i64 a) rfl
  have q1 := hp3 #[.int .i64 a, .int .i64 b, .int .i64 c, .int .i64 d] 1 (.int .i64 b) rfl
  have q2 := hp3 #[.int .i64 a, .int .i64 b, .int .i64 c, .int .i64 d] 2 (.int .i64 c) rfl
  have q3 := hp3 #[.int .i64 a, .int .i64 b, .int .i64 c, .int .i64 d] 3 (.int .i64 d) rfl
  have r0 := hp3 #[.int .i64 a', .int .i64 b', .int .i64 c', .int .i64 d'] 0 (.int .i64 a') rfl
  have r1 := hp3 #[.int .i64 a', .int .i64 b', .int .i64 c', .int .i64 d'] 1 (.int .i64 b') rfl
  have r2 := hp3 #[.int .i64 a', .int .i64 b', .int .i64 c', .int .i64 d'] 2 (.int .i64 c') rfl
  have r3 := hp3 #[.int .i64 a', .int .i64 b', .int .i64 c', .int .i64 d'] 3 (.int .i64 d') rfl
  have hf : (Try.prog.fieldsOf 25).toList = [⟨"Height", 3, 0, false, "", "", 0⟩, ⟨"Level", 3, 1, false, "", "", 8⟩, ⟨"Index", 3, 2, false, "", "", 16⟩, ⟨"Width", 3, 3, false, "", "", 24⟩] := by kernel_rfl
  rw [show (10000 : Nat) = 9998 + 1 + 1 from rfl, run_equalIn_struct w _ _ _ _ hu hp, hf]
  simp only [Op.eqFields, Sem.run_bind, Sem.run_ite]
  have n1 : ("Height" ≠ "_") = True := by decide
  have n2 : ("Level" ≠ "_") = True := by decide
  have n3 : ("Index" ≠ "_") = True := by decide
  have n4 : ("Width" ≠ "_") = True := by decide
  simp only [n1, n2, n3, n4, if_true, q0, q1, q2, q3, r0, r1, r2, r3, hi, Result.andThen_ok]
  cases (a == a') <;> cases (b == b') <;> cases (c == c') <;> cases (d == d') <;> simp [Result.andThen]
end Go.Proofs.Ytmiffljcggfcgaa.Til
