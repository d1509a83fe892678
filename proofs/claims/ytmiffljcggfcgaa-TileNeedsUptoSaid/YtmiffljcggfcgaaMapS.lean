/- A map keyed by a struct of two ints: a key held against another, and sought. -/
import Derived.Laws.StructEq
import Derived.RangeFuncRecord
import Derived.Test.YtmiffljcggfcgaaLib
import Derived.Test.YtmiffljcggfcgaaProg
namespace Go.Proofs.Ytmiffljcggfcgaa.Til
open Go Go.RowKit Go.Proofs.Ytmiffljcggfcgaa.Cop
set_option linter.unusedSimpArgs false
/-- A place as a value. -/
def kv (a b : Int) : Value := .agg #[.int .i64 a, .int .i64 b]
set_option maxRecDepth 100000 in
theorem run_eq_place (w : World) (a b a' b' : Int) : (Op.equal 98 (kv a b) (kv a' b')).run Try.prog w = .ok ((a == a') && (b == b')) w := by
  have hi : ∀ (e : Nat) (x y : Int), (Op.equalIn (e + 1) 3 (.int .i64 x) (.int .i64 y)).run Try.prog w = .ok (x == y) w := fun e x y => by
    simp [Op.equalIn, run_underlying Try.underlying3]
  have hu : Try.prog.underlying 98 = some (.struct (Try.prog.fieldsOf 98)) := by kernel_rfl
  have hp : Try.prog.stoodInHeld 98 = false := by kernel_rfl
  have hp3 : ∀ (vs : Array Value) (o : Nat) (v : Value), vs[o]? = some v → (part 3 vs o).run Try.prog w = .ok v w := by
    intro vs o v hv
    have hs : (Try.prog.info? 3).map (fun i => i.size) = some 1 := by kernel_rfl
    have ha : (isAgg 3).run Try.prog w = .ok false w := by kernel_rfl
    simp [part, ha, Go.Proofs.Ytmiffljcggfcgaa.Cop.run_sizeOf hs, hv]
  have q0 := hp3 #[.int .i64 a, .int .i64 b] 0 (.int .i64 a) rfl
  have q1 := hp3 #[.int .i64 a, .int .i64 b] 1 (.int .i64 b) rfl
  have r0 := hp3 #[.int .i64 a', .int .i64 b'] 0 (.int .i64 a') rfl
  have r1 := hp3 #[.int .i64 a', .int .i64 b'] 1 (.int .i64 b') rfl
  have hf : (Try.prog.fieldsOf 98).toList.map (fun f => (f.name, f.type, f.offset)) = [("level", 3, 0), ("index", 3, 1)] := by kernel_rfl
  obtain ⟨f0, f1, hl⟩ : ∃ f0 f1, (Try.prog.fieldsOf 98).toList = [f0, f1] := by
    have := congrArg List.length hf
    match h : (Try.prog.fieldsOf 98).toList, this with
    | [f0, f1], _ => exact ⟨f0, f1, rfl⟩
  rw [hl] at hf
  simp only [List.map_cons, List.map_nil, List.cons.injEq, Prod.mk.injEq, and_true] at hf
  obtain ⟨⟨n0, t0, o0⟩, n1, t1, o1⟩ := hf
  unfold kv
  rw [show Op.equal 98 (.agg #[.int .i64 a, .int .i64 b]) (.agg #[.int .i64 a', .int .i64 b']) = Op.equalIn (9998 + 1 + 1) 98 (.agg #[.int .i64 a, .int .i64 b]) (.agg #[.int .i64 a', .int .i64 b']) from rfl]
  rw [run_equalIn_struct w _ _ _ _ hu hp, hl]
  have m0 : (f0.name ≠ "_") = True := by rw [n0]; decide
  have m1 : (f1.name ≠ "_") = True := by rw [n1]; decide
  simp only [Op.eqFields, Sem.run_bind, Sem.run_ite, m0, m1, if_true, t0, t1, o0, o1, q0, q1, r0, r1, hi, Result.andThen_ok]
  cases (a == a') <;> cases (b == b') <;> simp [Result.andThen]
/-- The place of a key among entries. -/
def pfind (a b : Int) : List (Int × Int × Value) → Nat → Option (Nat × Value)
  | [], _ => none
  | (x, y, v) :: L, i => if (a == x) && (b == y) then some (i, v) else pfind a b L (i + 1)
theorem run_ask (w : World) (a b : Int) : ∀ (es : List MapEntry) (L : List (Int × Int × Value)) (i : Nat), es.map (fun e => (e.key, e.val)) = L.map (fun x => (kv x.1 x.2.1, x.2.2)) →
    (Instr.findAsking 98 (kv a b) es i).run Try.prog w = .ok (pfind a b L i) w
  | [], [], i, _ => by simp [Instr.findAsking, pfind]
  | [], x :: L, i, h => by simp at h
  | e :: es, [], i, h => by simp at h
  | e :: es, (x, y, v) :: L, i, h => by
    simp only [List.map_cons, List.cons.injEq, Prod.mk.injEq] at h
    obtain ⟨⟨h1, h2⟩, h3⟩ := h
    have ih := run_ask w a b es L (i + 1) h3
    simp only [Instr.findAsking, Sem.run_bind, h1, run_eq_place, Result.andThen_ok, pfind]
    cases (a == x) && (b == y) <;> simp [h2, ih]
theorem run_find (w : World) (a b : Int) (es : List MapEntry) (L : List (Int × Int × Value)) (h : es.map (fun e => (e.key, e.val)) = L.map (fun x => (kv x.1 x.2.1, x.2.2))) :
    (Instr.findKey 98 (kv a b) es).run Try.prog w = .ok (pfind a b L 0) w := by
  have hu : Try.prog.underlying 98 = some (.struct (Try.prog.fieldsOf 98)) := by kernel_rfl
  have ha := run_ask w a b es L 0 h
  rw [Instr.findKey]
  simp only [Sem.run_bind, run_underlying hu, Result.andThen_ok]
  clear hu
  generalize Try.prog.fieldsOf 98 = fs
  cases es with
  | nil =>
    cases L with
    | nil => simp [Instr.findNow, pfind]
    | cons x L => simp at h
  | cons e es =>
    cases L with
    | nil => simp at h
    | cons x L =>
      simp only [Instr.findNow, Instr.sameNow]
      exact ha
theorem run_check (w : World) (em : Bool) (a b : Int) : (Instr.checkKey em 10000 98 (kv a b)).run Try.prog w = .ok () w := by
  have hu : Try.prog.underlying 98 = some (.struct (Try.prog.fieldsOf 98)) := by kernel_rfl
  have hi : ∀ (e : Nat) (x : Int), (Instr.checkKey em (e + 1) 3 (.int .i64 x)).run Try.prog w = .ok () w := fun e x => by
    simp [Instr.checkKey, run_underlying Try.underlying3]
  have hp3 : ∀ (vs : Array Value) (o : Nat) (v : Value), vs[o]? = some v → (part 3 vs o).run Try.prog w = .ok v w := by
    intro vs o v hv
    have hs : (Try.prog.info? 3).map (fun i => i.size) = some 1 := by kernel_rfl
    have ha : (isAgg 3).run Try.prog w = .ok false w := by kernel_rfl
    simp [part, ha, Go.Proofs.Ytmiffljcggfcgaa.Cop.run_sizeOf hs, hv]
  have q0 := hp3 #[.int .i64 a, .int .i64 b] 0 (.int .i64 a) rfl
  have q1 := hp3 #[.int .i64 a, .int .i64 b] 1 (.int .i64 b) rfl
  have hf : (Try.prog.fieldsOf 98).toList.map (fun f => (f.name, f.type, f.offset)) = [("level", 3, 0), ("index", 3, 1)] := by kernel_rfl
  obtain ⟨f0, f1, hl⟩ : ∃ f0 f1, (Try.prog.fieldsOf 98).toList = [f0, f1] := by
    have := congrArg List.length hf
    match h : (Try.prog.fieldsOf 98).toList, this with
    | [f0, f1], _ => exact ⟨f0, f1, rfl⟩
  rw [hl] at hf
  simp only [List.map_cons, List.map_nil, List.cons.injEq, Prod.mk.injEq, and_true] at hf
  obtain ⟨⟨n0, t0, o0⟩, n1, t1, o1⟩ := hf
  have m0 : (f0.name ≠ "_") = True := by rw [n0]; decide
  have m1 : (f1.name ≠ "_") = True := by rw [n1]; decide
  unfold kv
  rw [show (10000 : Nat) = 9998 + 1 + 1 from rfl]
  unfold Instr.checkKey
  simp only [Sem.run_bind, run_underlying hu, Result.andThen_ok]
  rw [← Array.forIn_toList, hl]
  simp only [List.forIn_cons, List.forIn_nil, m0, m1, if_true, Sem.run_bind, t0, t1, o0, o1, q0, q1, hi, Result.andThen_ok, Sem.run_pure]
theorem run_get (w : World) (r : Nat) {es : Array MapEntry} {clock : Nat} (h : w.heap[r]? = some (.map es clock)) : (getObj r).run Try.prog w = .ok (.map es clock) w := by
  simp [getObj, Sem.run, h]
/-- m[k], of a map that lies in block r. -/
theorem run_look (w : World) (r : Nat) (es : Array MapEntry) (clock : Nat) (hr : w.heap[r]? = some (.map es clock)) (a b : Int) (L : List (Int × Int × Value)) (h : es.toList.map (fun e => (e.key, e.val)) = L.map (fun x => (kv x.1 x.2.1, x.2.2))) :
    (Instr.lookup 95 (.map (some r)) (kv a b) true).run Try.prog w = .ok (match pfind a b L 0 with | some (_, v) => .tuple #[v, .bool true] | none => .tuple #[.int .i64 0, .bool false]) w := by
  have hz : (zeroValue 3).run Try.prog w = .ok (.int .i64 0) w := by kernel_rfl
  unfold Instr.lookup
  simp only [Sem.run_bind, run_underlying Try.underlying95, Result.andThen_ok, run_get w r hr, Sem.run_pure, run_check, run_find w a b es.toList L h]
  cases pfind a b L 0 with
  | none => simp [hz, Result.andThen]
  | some x => simp [Result.andThen]
/-- m[k] = v, of a key that it has not. -/
theorem run_put (w : World) (r : Nat) (es : Array MapEntry) (clock : Nat) (hr : w.heap[r]? = some (.map es clock)) (a b : Int) (v : Value) (L : List (Int × Int × Value)) (h : es.toList.map (fun e => (e.key, e.val)) = L.map (fun x => (kv x.1 x.2.1, x.2.2))) (hno : pfind a b L 0 = none) :
    (Instr.mapUpdate 95 (.map (some r)) (kv a b) v).run Try.prog w = .ok () (w.putObj r (.map (es.push { key := kv a b, val := v, born := clock }) (clock + 1))) := by
  unfold Instr.mapUpdate
  simp only [Sem.run_bind, run_underlying Try.underlying95, Result.andThen_ok, run_get w r hr, run_check, run_find w a b es.toList L h, hno]
  simp [setObj, Sem.run, World.putObj, hr]
end Go.Proofs.Ytmiffljcggfcgaa.Til
