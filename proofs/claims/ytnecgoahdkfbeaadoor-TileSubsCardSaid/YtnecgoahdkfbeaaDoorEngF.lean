/- Ranges over a function. -/
import Derived.RangeFuncNested
import Derived.RangeFuncBound
import Derived.Test.YtnecgoahdkfbeaaDoorEngL
namespace Go.Proofs.YtnecgoahdkfbeaaDoor.Eng
open Go Go.RowKit Go.Proofs.YtnecgoahdkfbeaaDoor.Cop Go.Proofs.YtnecgoahdkfbeaaDoor.Dsl
set_option linter.unusedVariables false
set_option linter.unusedSimpArgs false
theorem fr_fold (N : Nat) : ∀ (l : List (Nat × Value)) (u : Nat → Value), l.foldl (fun (t : Array Value) (p : Nat × Value) => t.setIfInBounds p.1 p.2) (fr N u) = fr N (l.foldl (fun u p => upd u p.1 p.2) u)
  | [], u => rfl
  | p :: l, u => by
    rw [List.foldl_cons, List.foldl_cons, fr_set]
    exact fr_fold N l _
/-- The frame in which a round begins. -/
def updZ (u : Nat → Value) (ps : Array Tmp) (vs : Array Value) : Nat → Value := (ps.zip vs).toList.foldl (fun u p => upd u p.1 p.2) u
/-- What the loop's own book-keeping leaves alone. -/
def Turn (B : Nat) (A : World) (row : Option Nat) : Prop := ∀ r, row = some r → B ≤ r ∧ ∃ o : Obj, A.heap[r]? = some o ∧ o.isCells = false
theorem blkF {A B : World} {g : Nat} {t : TypeId} {cs : List Value} {base : Nat} {row : Option Nat} (h : Blk A g t cs) (hg : A.grownBy B row) (hr : Turn base A row) : Blk B g t cs :=
  h.grown hg (fun e => by
    obtain ⟨_, o, ho, hc⟩ := hr g e.symm
    have h' : A.heap[g]? = _ := h
    rw [h'] at ho
    cases ho; cases hc)
theorem belF {A B w0 : World} {b base : Nat} {row : Option Nat} (h : Below b w0 A) (hg : A.grownBy B row) (hr : Turn base A row) (hb : b ≤ base) (hs : b ≤ A.heap.size) : Below b w0 B :=
  h.grown hg hs (fun k e => Nat.le_trans hb (hr k e).1)
theorem keeps_below {B : Nat} {A C : World} (h : Below A.heap.size A C) : KeepsFrom B A C := ⟨h.size, fun k o _ hk _ => (h.block k (Array.getElem?_eq_some_iff.1 hk).1).trans hk⟩
theorem keeps_grown {B g : Nat} {A C : World} {t : TypeId} {cs : List Value} (hk : Blk A g t cs) (h : A.grownBy C (some g)) : KeepsFrom B A C :=
  ⟨h.size, fun k o _ ho hc => (h.block k (Array.getElem?_eq_some_iff.1 ho).1 (fun e => by
    injection e with e; subst e
    have h' : A.heap[k]? = _ := hk
    rw [h'] at ho; cases ho; cases hc)).trans ho⟩
/-- The block for deferred calls. -/
def Dfr (w : World) (D : Nat) : Prop := w.heap[D]? = some (.deferred (some []))
theorem Dfr.lt {w : World} {D : Nat} (h : Dfr w D) : D < w.heap.size := (Array.getElem?_eq_some_iff.1 h).1
theorem Dfr.below {w w' : World} {D : Nat} (h : Dfr w D) (hb : Below w.heap.size w w') : Dfr w' D := (hb.block D h.lt).trans h
theorem Dfr.grown {w w' : World} {D : Nat} (h : Dfr w D) {row : Option Nat} (hg : w.grownBy w' row) (hne : some D ≠ row) : Dfr w' D := (hg.block D h.lt hne).trans h
theorem Dfr.grL {E : List Nat} {w w' : World} {D : Nat} (h : Dfr w D) (hg : GrL E w w') (hn : D ∉ E) : Dfr w' D := (hg.block D h.lt hn).trans h
/-- Two blocks stand as they stood: what an iterator reads between two rounds. -/
def Two (x y : Nat) (A B : World) : Prop := B.heap[x]? = A.heap[x]? ∧ B.heap[y]? = A.heap[y]?
theorem row_block {w w' : World} {v : Value} {n : Nat} {cs : List Value} (h : Row w v n cs) (hb : ∀ a m c, v = .slice (some a) m c → w'.heap[a.block]? = w.heap[a.block]?) : Row w' v n cs := by
  obtain ⟨ao, cap, rfl, h1, h2, h3, h4⟩ := h
  refine ⟨ao, cap, rfl, h1, h2, h3, fun ad e j u hj => ?_⟩
  have hbk : (ad.add j).block = ad.block := by unfold Addr.add; split <;> rfl
  exact (World.cell?_of_block (by rw [hbk]; exact hb ad n cap (by rw [e]))).trans (h4 ad e j u hj)
theorem Two.refl (x y : Nat) (A : World) : Two x y A A := ⟨rfl, rfl⟩
theorem Two.trans {x y : Nat} {A B C : World} (h : Two x y A B) (k : Two x y B C) : Two x y A C := ⟨k.1.trans h.1, k.2.trans h.2⟩
theorem Two.below {x y : Nat} {A B : World} (h : Below A.heap.size A B) (hx : x < A.heap.size) (hy : y < A.heap.size) : Two x y A B := ⟨h.block x hx, h.block y hy⟩
theorem Two.grown {x y : Nat} {A B : World} {g : Nat} (h : A.grownBy B (some g)) (hx : x < A.heap.size) (hy : y < A.heap.size) (nx : x ≠ g) (ny : y ≠ g) : Two x y A B := ⟨h.block x hx (fun e => nx (Option.some.inj e)), h.block y hy (fun e => ny (Option.some.inj e))⟩
theorem Two.put {x y : Nat} {W : World} {l : Nat} {o' : Obj} (hx : x ≠ l) (hy : y ≠ l) : Two x y W (W.putObj l o') := ⟨World.putObj_heap_other hx, World.putObj_heap_other hy⟩
section
variable {P : Program} {Q : Exit → Act → World → Prop} {N : Nat} {u : Nat → Value} {ds : List Deferred} {w : World}
/-- A range over a function. -/
theorem rfun {α : Type} {g : Operand} {ps : Array Tmp} {assign body : Code} {gf : Nat} {lb : Array Value} (hg : opv N u g = .func (.func gf) #[] lb) (he : Entr P gf)
    {encs : α → Array Value} {Kp : World → World → Prop} {S Sp : List α → Prop} {M : Nat} {w0 : World} (hseq : SeqStopsK Fence.wide 8 P gf lb encs Kp S Sp M w0)
    (hKt : ∀ {A B C : World}, Kp A B → Kp B C → Kp A C) (hKb : ∀ (W : World) (l : Nat) (o o' : Obj), w.heap.size ≤ l → W.heap[l]? = some o → o.isCells = false → o.isWalk = false → Kp W (W.putObj l o')) (hb0 : Below w0.heap.size w0 w) (hps : ∀ x, (encs x).size = ps.size)
    (I : List α → World → Prop) (Ix : Code → List α → World → Prop) (Ux : α → (Nat → Value) → World → Prop) (hI : OwnFrom w.heap.size I) (hIx : ∀ c, OwnFrom w.heap.size (Ix c)) (hUx : ∀ x u', OwnFrom w.heap.size (fun (_ : Unit) W => Ux x u' W)) (h0 : I [] w)
    (hassign : ∀ (l : Nat) (pre : List α) (x : α) (W : World) (K : Act → World → Prop), I pre W → (∀ u' W', KeepsFrom w.heap.size W W' → Kp W W' → I pre W' → Ux x u' W' → K (act N u' []) W') → wpC (some (some l)) P assign (Exit.then K (fun _ _ _ => False)) (act N (updZ u ps (encs x)) []) W)
    (hbody : ∀ (l : Nat) (pre : List α) (x : α) (u' : Nat → Value) (W : World), I pre W → Ux x u' W → pre.length < M → wpC (some (some l)) P body (ownPostG w.heap.size Kp I Ix (pre ++ [x]) W) (act N u' []) W)
    (hdone : ∀ (D : Nat) (xs : List α) (W : World), w.heap.size ≤ D → S xs → I xs W → Dfr W D → Q .normal (act N u ({ target := .collected D, args := #[] } :: ds)) W)
    (hstop : ∀ (D : Nat) (c : Code) (pre : List α) (W : World), w.heap.size ≤ D → Sp pre → Ix c pre W → Dfr W D → wpC none P c Q (act N u ({ target := .collected D, args := #[] } :: ds)) W) :
    wpC none P (.rangeFunc g ps assign body) Q (act N u ds) w := by
  refine (wpIn_wide (n := 9)).1 ?_
  refine wpIn_rangeFunc_ownH (F := Fence.wide) (a := act N u ds) rfl (by decide) (gf := gf) (lb := lb) (by rw [eval_act]; exact hg) trivial (fun args w => run_entr he args w) hseq hKt hKb hb0 hps I Ix hI hIx h0
    (fun x a' W => ∃ u', a' = act N u' [] ∧ Ux x u' W) ?_ ?_ ?_ hdone ?_
  · intro x a' s A B row hs hg hr
    obtain ⟨u', ha, hu⟩ := hs
    exact ⟨u', ha, hUx x u' () A B row hu hg hr⟩
  · intro l pre x W K hi hK
    have h := hassign l pre x W K hi (fun u' W' h1 h2 h3 h4 => hK _ _ h1 h2 h3 ⟨u', rfl, h4⟩)
    have e : ({ tmps := (ps.zip (encs x)).foldl (fun t (p, v) => t.setIfInBounds p v) (act N u ds).tmps, defers := [] } : Act) = act N (updZ u ps (encs x)) [] := by
      unfold act updZ
      rw [← fr_fold, ← Array.foldl_toList]
    rw [e]
    exact wpIn_n h
  · rintro l pre x a' W _ _ hi ⟨u', rfl, hu⟩ hl
    exact wpIn_n (hbody l pre x u' W hi hu hl)
  · intro D c pre W hD hS hi hd
    exact (wpIn_wide (n := 9)).2 (hstop D c pre W hD hS hi hd)
end
/-- A round: the iterator calls 'yield'. -/
theorem x_yl {P : Program} {o : Oper} {ρ : Operand → Value} {w : World} {t : Operand} {xs : Array Operand} {ts : Array TypeId} {l : Nat} (ho : o.op = .call { callee := .value t, args := xs, argTypes := ts }) (ht : ρ t = .func (.yield l) #[] #[]) {vs : List Value} (hx : xs.toList.map ρ = vs) {nx : Next} (hy : (Instr.yield l vs.toArray).run P w = .ok nx w) : (execOp ρ o).run P w = .ok nx w := by
  have e : xs.map ρ = vs.toArray := by rw [← hx, ← List.map_toArray]
  unfold execOp; rw [ho]
  simp [resolve, ht, Deferred.ofValue, invoke, e, hy, Result.andThen]
theorem yl {P : Program} {ops : Array Oper} {rest : List Oper} {o : Oper} {Q : Exit → Act → World → Prop} {N : Nat} {u : Nat → Value} {ds : List Deferred} {w : World} (hg : Region.wanted o (yielded ops (fr N u)) = true) {l : Nat} {fn : FuncId} {tmps : Array Value} {asg bdy : Code} {R : Ending → World → Prop}
    (hr : (execOp (opv N u) o).run P w = .ok (.round l fn tmps asg bdy) w) (hR : RoundIn Fence.wide 7 P l fn tmps asg bdy w R) (h : ∀ e w', R e w' → aft (wpS (some none) P ops Q rest) Q N u ds o.dst e w') : wpS (some none) P ops Q (o :: rest) (act N u ds) w := by
  refine wpS_run (a := act N u ds) hg ⟨fun _ _ => trivial, ?_⟩
  show o.uponIn _ _ _ _ _ _ ((o.semAt none (act N u ds).eval).run P w)
  rw [Oper.semAt_none, eval_act, hr, Oper.uponIn_round]
  refine ⟨fun _ => by decide, RoundIn.mono hR fun e w' he => ?_⟩
  have := h e w' he
  cases e with
  | returned v => exact this
  | panicked ch => exact this
  | outgrown => exact this
/-- The entry of a function that ranges over a function. -/
theorem enterM {P : Program} {f : FuncId} {fn : Func} {c : Code} {l : List Value} {w : World} {R : Ending → World → Prop} (hf : P.funcs[f]? = some fn) (hb : fn.body = some c) (N : Nat) (hn : fn.ntmps = N) (hl : l.length ≤ N)
    (h : wpC none P c (bodyPostM Fence.wide 9 P fn R) (act N (ini l) []) w) : Calls P f l.toArray w R := by
  refine (callsIn_wide (n := 9)).1 (callsIn_of_wp_marks hf hb trivial ?_ rfl)
  rw [hn, ini_frame l N hl]
  exact (wpIn_wide (n := 9)).2 h
section
variable {fn : Func} {R : Ending → World → Prop} {P : Program} {N : Nat} {u : Nat → Value} {w : World}
/-- An end ahead of the range. -/
theorem retM {v : Value} (hr : (results fn (fr N u)).run P w = .ok v w) (hR : R (.returned v) w) : bodyPostM Fence.wide 9 P fn R .ret (act N u []) w := ⟨v, hr, hR⟩
/-- The end of a function that ranged over a function. -/
theorem retC {D : Nat} (hD : Dfr w D) {v : Value} (hr : ∀ w', Below D w w' → w'.heap.size = w.heap.size → (∀ g t cs, Blk w g t cs → Blk w' g t cs) → (results fn (fr N u)).run P w' = .ok v w') (hR : ∀ w', Below D w w' → R (.returned v) w') : bodyPostM Fence.wide 9 P fn R .ret (act N u [{ target := .collected D, args := #[] }]) w := by
  have hb : Below D w (w.putObj D (.deferred none)) := by
    refine ⟨rfl, rfl, rfl, by simp, fun k hk => World.putObj_heap_other (by omega)⟩
  have hs : (w.putObj D (.deferred none)).heap.size = w.heap.size := by simp
  have hk : ∀ g t cs, Blk w g t cs → Blk (w.putObj D (.deferred none)) g t cs := by
    intro g t cs h
    have hne : g ≠ D := by
      intro e; subst e
      have h' : w.heap[g]? = _ := h
      have hd : w.heap[g]? = _ := hD
      rw [h'] at hd; cases hd
    show (w.putObj D (.deferred none)).heap[g]? = _
    exact (World.putObj_heap_other hne).trans h
  refine ⟨by simp [act], .inl ⟨_, _, rfl, run_takeDeferred hD, ?_⟩⟩
  exact ⟨v, hr _ hb hs hk, hR _ hb⟩
end
end Go.Proofs.YtnecgoahdkfbeaaDoor.Eng
