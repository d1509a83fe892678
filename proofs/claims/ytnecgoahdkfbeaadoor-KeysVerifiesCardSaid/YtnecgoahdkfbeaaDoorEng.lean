/- Frames as functions of their slots: steps, entries, ends, loops, and regions that draw their order; program-independent. -/
import Derived.Defers
import Derived.Recover
import Derived.Great.BuildSlice
import Derived.OrdersIn
import Derived.TacticsIn
import Derived.Test.YtnecgoahdkfbeaaDoorInv
namespace Go.Proofs.YtnecgoahdkfbeaaDoor.Eng
open Go Go.RowKit Go.Proofs.YtnecgoahdkfbeaaDoor.Cop
set_option linter.unusedVariables false
set_option linter.unusedSimpArgs false
def upd (u : Nat → Value) (d : Nat) (v : Value) : Nat → Value := fun j => bif Nat.beq j d then v else u j
theorem upd_same (u : Nat → Value) (d : Nat) (v : Value) : upd u d v d = v := by
  have e : Nat.beq d d = true := Nat.beq_refl d
  simp only [upd, e, cond_true]
theorem upd_other (u : Nat → Value) (d : Nat) (v : Value) (j : Nat) (h : j ≠ d) : upd u d v j = u j := by
  have e : Nat.beq j d = false := by
    cases c : Nat.beq j d with
    | false => rfl
    | true => exact (h (Nat.eq_of_beq_eq_true c)).elim
  simp only [upd, e, cond_false]
theorem upd_self {u : Nat → Value} {d : Nat} {v : Value} (h : u d = v) : u = upd u d v := by
  funext j
  by_cases e : j = d
  · subst e; rw [upd_same, h]
  · rw [upd_other u d v j e]
/-- The frame of N slots. -/
def fr (N : Nat) (u : Nat → Value) : Array Value := Array.ofFn (n := N) fun i => u i.val
def act (N : Nat) (u : Nat → Value) (ds : List Deferred) : Act := { tmps := fr N u, defers := ds }
/-- The slots at a function's entry. -/
def ini (l : List Value) : Nat → Value := fun j => l.getD j undef
/-- An operand's value. -/
def opv (N : Nat) (u : Nat → Value) : Operand → Value
  | .tmp t => bif Nat.ble (t + 1) N then u t else undef
  | .const v => v
  | .global g => .pointer (some ⟨g, 0, none⟩)
  | .func f => .func (.func f) #[] #[]
theorem fr_get (N : Nat) (u : Nat → Value) (t : Nat) : (fr N u)[t]? = if t < N then some (u t) else none := by
  unfold fr
  rw [Array.getElem?_ofFn]
  by_cases h : t < N <;> simp [h]
theorem fr_getD (N : Nat) (u : Nat → Value) (t : Nat) : (fr N u).getD t undef = bif Nat.ble (t + 1) N then u t else undef := by
  rw [Array.getD_eq_getD_getElem?, fr_get]
  by_cases h : t < N
  · have : Nat.ble (t + 1) N = true := Nat.ble_eq_true_of_le h
    simp [h, this]
  · have : Nat.ble (t + 1) N = false := by
      cases e : Nat.ble (t + 1) N with
      | false => rfl
      | true => exact (h (Nat.le_of_ble_eq_true e)).elim
    simp [h, this]
theorem eval_act (N : Nat) (u : Nat → Value) (ds : List Deferred) : (act N u ds).eval = opv N u := by
  funext x
  cases x with
  | tmp t => exact fr_getD N u t
  | const v => rfl
  | global g => rfl
  | func f => rfl
theorem fr_set (N : Nat) (u : Nat → Value) (d : Nat) (v : Value) : (fr N u).setIfInBounds d v = fr N (upd u d v) := by
  apply Array.ext_getElem?
  intro i
  rw [Array.getElem?_setIfInBounds, fr_get, fr_get]
  have hs : (fr N u).size = N := by simp [fr]
  by_cases h : d = i
  · subst h
    rw [if_pos rfl, hs, upd_same]
  · rw [if_neg h, upd_other u d v i (fun e => h e.symm)]
theorem put_act (N : Nat) (u : Nat → Value) (ds : List Deferred) (d : Nat) (v : Value) : (act N u ds).put (some d) v = act N (upd u d v) ds := by
  show Act.mk ((fr N u).setIfInBounds d v) ds = _
  rw [fr_set]; rfl
theorem ini_frame (l : List Value) (N : Nat) (h : l.length ≤ N) : l.toArray ++ Array.replicate (N - l.toArray.size) undef = fr N (ini l) := by
  apply Array.ext_getElem?
  intro i
  rw [fr_get]
  unfold ini
  simp only [Array.getElem?_append, List.size_toArray, List.getElem?_toArray, Array.getElem?_replicate, List.getD_eq_getElem?_getD]
  by_cases h1 : i < l.length
  · rw [if_pos h1, if_pos (by omega), List.getElem?_eq_getElem h1]; rfl
  · rw [if_neg h1, List.getElem?_eq_none (by omega)]
    by_cases h2 : i < N
    · rw [if_pos h2, if_pos (by omega)]; rfl
    · rw [if_neg h2, if_neg (by omega)]
/-! ### Plain code, and code in a round of a range over a function -/
def Fq (q : Option Nat) : Fence := { Fence.wide with round := q }
def wpC (r : Option (Option Nat)) (P : Program) (c : Code) (Q : Exit → Act → World → Prop) (a : Act) (w : World) : Prop :=
  match r with
  | none => c.wp P Q a w
  | some l => c.wpIn (Fq l) 8 P Q a w
def opC (r : Option (Option Nat)) (P : Program) (o : Oper) (a : Act) (w : World) (K : Act → World → Prop) (Q : Exit → Act → World → Prop) : Prop :=
  match r with
  | none => Oper.wp P o a w K Q
  | some l => o.wpIn (Fq l) 8 P a w K Q
theorem callsFq {q : Option Nat} {n : Nat} {P : Program} {f : FuncId} {args : Array Value} {w : World} {R : Ending → World → Prop} (h : CallsIn Fence.wide n P f args w R) : CallsIn (Fq q) n P f args w R := h
theorem wpIn_n {q : Option Nat} {n m : Nat} {P : Program} {c : Code} {Q : Exit → Act → World → Prop} {a : Act} {w : World} (h : c.wpIn (Fq q) n P Q a w) : c.wpIn (Fq q) m P Q a w :=
  fun b k cs hro hb hr => h b k cs hro hb (fun _ h => by cases h)
section
variable {r : Option (Option Nat)} {P : Program} {o : Oper} {a : Act} {w : World} {K K' : Act → World → Prop} {Q : Exit → Act → World → Prop}
theorem opC_mono (h : ∀ a w, K a w → K' a w) (hh : opC r P o a w K Q) : opC r P o a w K' Q := by
  cases r with
  | none => exact Oper.wp_mono h hh
  | some l => exact Oper.wpIn_mono h hh
theorem nodef {ρ : Operand → Value} {x : Next} {w' : World} (h : (execOp ρ o).run P w = .ok x w') (hx : ∀ d, x ≠ .defer d) (c : Call) : o.op ≠ .defer c := by
  intro hc
  have e : execOp ρ o = (do pure (.defer (← resolve ρ c o.type))) := by unfold execOp; rw [hc]
  rw [e] at h
  simp only [Sem.run_bind] at h
  cases e2 : (resolve ρ c o.type).run P w with
  | ok d w2 =>
    rw [e2] at h
    simp only [Result.andThen_ok, Sem.run_pure] at h
    injection h with h1 h2
    exact hx _ h1.symm
  | halt s w2 => rw [e2] at h; cases h
theorem opC_val {v : Value} {w' : World} (hr : (execOp a.eval o).run P w = .ok (.value v) w') (h : K (a.put o.dst v) w') : opC r P o a w K Q := by
  cases r with
  | none => unfold opC Oper.wp; rw [hr]; exact h
  | some l =>
    refine ⟨fun _ _ => trivial, ?_⟩
    show o.uponIn _ _ _ _ _ _ ((o.semAt l a.eval).run P w)
    rw [Oper.semAt_eq _ _ _ (nodef hr (fun d e => by cases e)), hr]
    exact h
theorem opC_skip {w' : World} (hr : (execOp a.eval o).run P w = .ok .skip w') (h : K (a.put o.dst undef) w') : opC r P o a w K Q := by
  cases r with
  | none => unfold opC Oper.wp; rw [hr]; exact h
  | some l =>
    refine ⟨fun _ _ => trivial, ?_⟩
    show o.uponIn _ _ _ _ _ _ ((o.semAt l a.eval).run P w)
    rw [Oper.semAt_eq _ _ _ (nodef hr (fun d e => by cases e)), hr]
    exact h
theorem opC_enter {F : FuncId} {vs : Array Value} {R : Ending → World → Prop} (hr : (execOp a.eval o).run P w = .ok (.enter F vs) w) (hc : Calls P F vs w R)
    (h : ∀ e w', R e w' → match e with | .returned v => K (a.put o.dst v) w' | .panicked chain => Q (.panic chain) a w' | .outgrown => LetsOut Q) : opC r P o a w K Q := by
  cases r with
  | none =>
    unfold opC Oper.wp; rw [hr]
    refine Calls.mono hc fun e w' hR => ?_
    have := h e w' hR
    cases e with
    | returned v => exact this
    | panicked ch => exact this
    | outgrown => exact this
  | some l =>
    refine ⟨fun _ _ => trivial, ?_⟩
    show o.uponIn _ _ _ _ _ _ ((o.semAt l a.eval).run P w)
    rw [Oper.semAt_eq _ _ _ (nodef hr (fun d e => by cases e)), hr, Oper.uponIn_enter]
    refine ⟨fun _ => by decide, ?_⟩
    refine CallsIn.mono (callsFq (callsIn_wide.2 hc)) fun e w' hR => ?_
    have := h e w' hR
    cases e with
    | returned v => exact this
    | panicked ch => exact this
    | outgrown => exact this
theorem skp (h : Q .normal a w) : wpC r P .skip Q a w := by
  cases r with
  | none => exact wp_skip h
  | some l => exact wpIn_skip h
theorem rt (h : Q .ret a w) : wpC r P .ret Q a w := by
  cases r with
  | none => exact wp_ret h
  | some l => exact wpIn_ret h
theorem xt {i : Nat} (h : Q (.exit i) a w) : wpC r P (.exit i) Q a w := by
  cases r with
  | none => exact wp_exit h
  | some l => exact wpIn_exit h
theorem blk {i : Nat} {c : Code} (h : wpC r P c (Exit.inBlock i Q) a w) : wpC r P (.block i c) Q a w := by
  cases r with
  | none => exact wp_block h
  | some l => exact wpIn_block h
end
/-! ### A region that draws its order, by an invariant, in either -/
section
variable {r : Option (Option Nat)} {P : Program} {ops : Array Oper} {Q : Exit → Act → World → Prop}
def StepsC (r : Option (Option Nat)) (P : Program) (ops : Array Oper) (Q : Exit → Act → World → Prop) (I : (Nat → Bool) → Act → World → Prop) : Prop :=
  ∀ (i : Nat) (o : Oper), ops[i]? = some o → ∀ (d : Nat → Bool) (a : Act) (w : World), d i = false → (∀ e ∈ o.after, Region.binds .any e = true → d e.on = true) → Closed ops d → I d a w →
    ∀ K : Act → World → Prop, (∀ a' w', I (Cop.upd d i) a' w' → K a' w') → if Region.wanted o (yielded ops a.tmps) = true then opC r P o a w K Q else K (a.put o.dst undef) w
theorem wpAnyIn_inv {l : Option Nat} (I : (Nat → Bool) → Act → World → Prop) (hac : acyc ops = true) (hstep : StepsC (some l) P ops Q I) (hfin : ∀ d a w, (∀ j, j < ops.size → d j = true) → I d a w → Q .normal a w) :
    ∀ (fuel : Nat) (L : Array Bool) (a : Act) (w : World), L.size = ops.size → cnt L ≤ fuel → Closed ops (fun j => L.getD j false) → I (fun j => L.getD j false) a w → wpAnyIn (Fq l) 8 P .any ops Q fuel L a w
  | 0, L, a, w, hs, hc, hcl, hI => by
    have hall : ∀ j, j < L.size → L.getD j false = true := by
      intro j hj
      cases hl : L.getD j false with
      | true => rfl
      | false =>
        have : L[j]? = some false := by
          simp only [Array.getD_eq_getD_getElem?, Array.getElem?_eq_getElem hj, Option.getD_some] at hl ⊢
          rw [hl]
        have := cnt_set L j this
        omega
    refine ⟨?_, hfin _ a w (fun j hj => hall j (by omega)) hI⟩
    apply List.eq_nil_iff_forall_not_mem.2
    intro i hi
    obtain ⟨o, ho, hl, _⟩ := ready_mem hi
    have hi2 : i < L.size := by rw [hs]; exact (Array.getElem?_eq_some_iff.1 ho).1
    have := hall i hi2
    simp only [Array.getD_eq_getD_getElem?, Array.getElem?_eq_getElem hi2, Option.getD_some] at hl this
    rw [this] at hl
    cases hl
  | fuel + 1, L, a, w, hs, hc, hcl, hI => by
    refine ⟨fun h => hfin _ a w (ready_none hac hs h) hI, ?_⟩
    intro i hi
    obtain ⟨o, ho, hl, hd⟩ := ready_mem hi
    have hi2 : i < L.size := by rw [hs]; exact (Array.getElem?_eq_some_iff.1 ho).1
    have hl2 : L[i]? = some false := by
      simp only [Array.getD_eq_getD_getElem?, Array.getElem?_eq_getElem hi2, Option.getD_some] at hl ⊢
      rw [hl]
    have hl3 : L.getD i false = false := by rw [Array.getD_eq_getD_getElem?, hl2]; rfl
    have hst := hstep i o ho (fun j => L.getD j false) a w hl3 hd hcl hI (wpAnyIn (Fq l) 8 P .any ops Q fuel (L.setIfInBounds i true)) (fun a' w' h => ?_)
    · unfold wpOpIn
      rw [ho]
      show (if Region.wanted o (yielded ops a.tmps) = true then _ else _)
      split
      · rename_i hw
        rw [if_pos hw] at hst; exact hst
      · rename_i hw
        rw [if_neg hw] at hst; exact ⟨fun _ _ => trivial, hst⟩
    · have e : (fun j => (L.setIfInBounds i true).getD j false) = Cop.upd (fun j => L.getD j false) i := by
        funext j
        unfold Cop.upd
        simp only [Array.getD_eq_getD_getElem?, Array.getElem?_setIfInBounds]
        by_cases hji : j = i
        · subst hji; simp [hi2]
        · rw [if_neg (fun e => hji e.symm), if_neg hji]
      exact wpAnyIn_inv I hac hstep hfin fuel _ a' w' (by simpa using hs) (by have := cnt_set L i hl2; omega) (by rw [e]; exact hcl.upd ho hd) (by rw [e]; exact h)
theorem region_invC {id : Nat} {a : Act} {w : World} (I : (Nat → Bool) → Act → World → Prop) (hm : P.follows .mixedOrders = true) (hac : acyc ops = true) (h0 : I (fun _ => false) a w.drew) (hstep : StepsC r P ops Q I)
    (hfin : ∀ d a w, (∀ j, j < ops.size → d j = true) → I d a w → Q .normal a w) : wpC r P (.region id ops true) Q a w := by
  cases r with
  | none => exact wp_region_inv I hm hac h0 hstep hfin
  | some l =>
    have e : (fun j => (Array.replicate ops.size false).getD j false) = fun _ => false := by
      funext j
      simp only [Array.getD_eq_getD_getElem?, Array.getElem?_replicate]
      split <;> rfl
    refine wpIn_region_any hm (wpAnyIn_inv I hac hstep hfin ops.size _ a _ (by simp) (by simp [cnt]) ?_ ?_)
    · rw [e]; intro j o _ h; cases h
    · rw [e]; exact h0
end
/-- The operations of a region, one behind the other. -/
def wpS0 (r : Option (Option Nat)) (P : Program) (ops : Array Oper) (Q : Exit → Act → World → Prop) : List Oper → Act → World → Prop
  | [], a, w => Q .normal a w
  | o :: rest, a, w => if Region.wanted o (yielded ops a.tmps) = true then opC r P o a w (wpS0 r P ops Q rest) Q else wpS0 r P ops Q rest (a.put o.dst undef) w
structure wpS (r : Option (Option Nat)) (P : Program) (ops : Array Oper) (Q : Exit → Act → World → Prop) (l : List Oper) (a : Act) (w : World) : Prop where
  out : wpS0 r P ops Q l a w
section
variable {r : Option (Option Nat)} {P : Program} {ops : Array Oper} {Q : Exit → Act → World → Prop}
theorem wpS0_list : ∀ {l : List Oper} {a : Act} {w : World}, wpS0 none P ops Q l a w → wpList P ops Q l a w
  | [], _, _, h => h
  | o :: rest, a, w, h => by
    unfold wpS0 at h
    refine wpList_step fun K hK => ?_
    split
    · rename_i hw
      rw [if_pos hw] at h
      exact Oper.wp_mono (fun a w h => hK _ _ (wpS0_list h)) h
    · rename_i hw
      rw [if_neg hw] at h
      exact hK _ _ (wpS0_list h)
theorem wpS_list {l : List Oper} {a : Act} {w : World} (h : wpS none P ops Q l a w) : wpList P ops Q l a w := wpS0_list h.out
theorem wpS0_listIn {i : Option Nat} : ∀ {l : List Oper} {a : Act} {w : World}, wpS0 (some i) P ops Q l a w → wpListIn (Fq i) 8 P ops Q l a w
  | [], _, _, h => h
  | o :: rest, a, w, h => by
    unfold wpS0 at h
    refine wpListIn_step fun K hK => ?_
    split
    · rename_i hw
      rw [if_pos hw] at h
      exact Oper.wpIn_mono (fun a w h => hK _ _ (wpS0_listIn h)) h
    · rename_i hw
      rw [if_neg hw] at h
      exact ⟨fun _ _ => trivial, hK _ _ (wpS0_listIn h)⟩
theorem wpS_run {o : Oper} {rest : List Oper} {a : Act} {w : World} (hg : Region.wanted o (yielded ops a.tmps) = true) (h : opC r P o a w (wpS r P ops Q rest) Q) : wpS r P ops Q (o :: rest) a w := by
  refine ⟨?_⟩
  unfold wpS0; rw [if_pos hg]; exact opC_mono (fun _ _ h => h.out) h
theorem wpS_not {o : Oper} {rest : List Oper} {a : Act} {w : World} (hg : Region.wanted o (yielded ops a.tmps) = false) (h : wpS r P ops Q rest (a.put o.dst undef) w) : wpS r P ops Q (o :: rest) a w := by
  refine ⟨?_⟩
  unfold wpS0; rw [if_neg (by rw [hg]; exact Bool.false_ne_true)]; exact h.out
theorem wpS_open {o : Oper} {rest : List Oper} {a : Act} {w : World} (h : wpS r P ops Q (o :: rest) a w) : if Region.wanted o (yielded ops a.tmps) = true then opC r P o a w (wpS r P ops Q rest) Q else wpS r P ops Q rest (a.put o.dst undef) w := by
  have h := h.out
  unfold wpS0 at h
  split
  · rename_i hw
    rw [if_pos hw] at h
    exact opC_mono (fun _ _ h => ⟨h⟩) h
  · rename_i hw
    rw [if_neg hw] at h
    exact ⟨h⟩
theorem wpS_nil {a : Act} {w : World} (h : wpS r P ops Q [] a w) : Q .normal a w := h.out
end
/-- The entry of a function. -/
theorem enter {P : Program} {f : FuncId} {fn : Func} {c : Code} {l : List Value} {w : World} {R : Ending → World → Prop} (hf : P.funcs[f]? = some fn) (hb : fn.body = some c) (N : Nat) (hn : fn.ntmps = N) (hl : l.length ≤ N)
    (h : wpC none P c (bodyPost P fn R) (act N (ini l) []) w) : Calls P f l.toArray w R := by
  refine calls_of_wp hf hb ?_
  rw [hn, ini_frame l N hl]
  exact h
/-- .. of one that defers. -/
theorem enterD {P : Program} {f : FuncId} {fn : Func} {c : Code} {l : List Value} {w : World} {R : Ending → World → Prop} (hf : P.funcs[f]? = some fn) (hb : fn.body = some c) (N : Nat) (hn : fn.ntmps = N) (hl : l.length ≤ N)
    (h : wpC none P c (bodyPostD P fn R) (act N (ini l) []) w) : Calls P f l.toArray w R := by
  refine calls_of_wp_defers hf hb ?_
  rw [hn, ini_frame l N hl]
  exact h
/-- .. of one that is entered within a fence (an iterator). -/
theorem enterI {P : Program} {f : FuncId} {fn : Func} {c : Code} {l : List Value} {w : World} {R : Ending → World → Prop} (hf : P.funcs[f]? = some fn) (hb : fn.body = some c) (N : Nat) (hn : fn.ntmps = N) (hl : l.length ≤ N)
    (h : wpC (some none) P c (bodyPost P fn R) (act N (ini l) []) w) : CallsIn Fence.wide 8 P f l.toArray w R := by
  refine callsIn_of_wp hf hb trivial ?_ rfl
  rw [hn, ini_frame l N hl]
  exact h
section
variable {r : Option (Option Nat)} {P : Program} {Q : Exit → Act → World → Prop} {N : Nat} {u : Nat → Value} {ds : List Deferred} {w : World}
/-! ### Code -/
theorem cond_t {c : Operand} {x y : Code} (hc : opv N u c = .bool true) (h : wpC r P x Q (act N u ds) w) : wpC r P (.cond c x y) Q (act N u ds) w := by
  cases r with
  | none => exact wp_cond_true (by rw [eval_act]; exact hc) h
  | some l => exact wpIn_cond_true (by rw [eval_act]; exact hc) h
theorem cond_f {c : Operand} {x y : Code} (hc : opv N u c = .bool false) (h : wpC r P y Q (act N u ds) w) : wpC r P (.cond c x y) Q (act N u ds) w := by
  cases r with
  | none => exact wp_cond_false (by rw [eval_act]; exact hc) h
  | some l => exact wpIn_cond_false (by rw [eval_act]; exact hc) h
/-- A test that stands open: both ways. -/
theorem cond_b {c : Operand} {x y : Code} {b : Bool} (hc : opv N u c = .bool b) (ht : b = true → wpC r P x Q (act N u ds) w) (hf : b = false → wpC r P y Q (act N u ds) w) : wpC r P (.cond c x y) Q (act N u ds) w := by
  cases r with
  | none => exact wp_cond_split (by rw [eval_act]; exact hc) ht hf
  | some l => exact wpIn_cond_split (by rw [eval_act]; exact hc) ht hf
theorem seqk {x y : Code} {a : Act} (h : ∀ K : Act → World → Prop, (∀ a w, wpC r P y Q a w → K a w) → wpC r P x (Exit.then K Q) a w) : wpC r P (.seq x y) Q a w := by
  cases r with
  | none => exact wp_seq_k h
  | some l => exact wpIn_seq_k h
/-- A loop, its relation with a measure at each head. -/
theorem loopN {c : Code} (I : Nat → (Nat → Value) → World → Prop) (n0 : Nat) (h0 : I n0 u w)
    (round : ∀ n u w, I n u w → ∀ K : Act → World → Prop, (∀ n' u' w', I n' u' w' → n' < n → K (act N u' ds) w') → wpC r P c (Exit.then K Q) (act N u ds) w) : wpC r P (.loop c) Q (act N u ds) w := by
  cases r with
  | none =>
    intro b k cs
    have key : ∀ n u w, I n u w → ∃ e a' w', Q e a' w' ∧ Arrives P (lone (b.at (act N u ds) (.code c :: .inLoop c :: k)) cs w) b k cs e a' w' := by
      intro n
      induction n using Nat.strongRecOn with
      | _ n ih =>
        intro u w hI
        obtain ⟨e, a₁, w₁, hq, harr⟩ := round n u w hI (fun a' w' => ∃ n' u', a' = act N u' ds ∧ n' < n ∧ I n' u' w') (fun n' u' w' h1 h2 => ⟨n', u', rfl, h2, h1⟩) b (.inLoop c :: k) cs
        cases e with
        | normal =>
          obtain ⟨n', u', rfl, hlt, hI₁⟩ := hq
          obtain ⟨e₂, a₂, w₂, hq₂, harr₂⟩ := ih n' hlt u' w₁ hI₁
          exact ⟨e₂, a₂, w₂, hq₂, .of_steps (Steps.trans harr (.one step_inLoop)) harr₂⟩
        | exit id => exact ⟨_, a₁, w₁, hq, .pass (x := .inLoop c) rfl (fun _ _ => .inl (by simp)) harr⟩
        | goto l => exact ⟨_, a₁, w₁, hq, .pass (x := .inLoop c) rfl (fun _ _ => .inl (by simp)) harr⟩
        | ret => exact ⟨_, a₁, w₁, hq, .pass (x := .inLoop c) rfl (fun _ _ => .inl (by simp)) harr⟩
        | panic ch => exact ⟨_, a₁, w₁, hq, .pass (x := .inLoop c) rfl (fun _ _ => .inl (by simp)) harr⟩
        | outgrown => exact ⟨_, a₁, w₁, hq, .pass (x := .inLoop c) rfl (fun _ _ => .inl (by simp)) harr⟩
    obtain ⟨e, a', w', hq, harr⟩ := key n0 u w h0
    exact ⟨e, a', w', hq, .of_steps (.one step_loop) harr⟩
  | some l =>
    intro b k cs hro hb hr
    have key : ∀ n u w, I n u w → ∃ e a' w', Q e a' w' ∧ ArrivesIn (Machine.fenced P (Fq l)) P (lone (b.atR (act N u ds) (.code c :: .inLoop c :: k)) cs w) b k cs e a' w' := by
      intro n
      induction n using Nat.strongRecOn with
      | _ n ih =>
        intro u w hI
        obtain ⟨e, a₁, w₁, hq, harr⟩ := round n u w hI (fun a' w' => ∃ n' u', a' = act N u' ds ∧ n' < n ∧ I n' u' w') (fun n' u' w' h1 h2 => ⟨n', u', rfl, h2, h1⟩) b (.inLoop c :: k) cs hro hb hr
        cases e with
        | normal =>
          obtain ⟨n', u', rfl, hlt, hI₁⟩ := hq
          obtain ⟨e₂, a₂, w₂, hq₂, harr₂⟩ := ih n' hlt u' w₁ hI₁
          exact ⟨e₂, a₂, w₂, hq₂, .of_steps (StepsIn.trans harr (.one (fenced_calm hb hr rfl) stepR_inLoop)) harr₂⟩
        | exit id => exact ⟨_, a₁, w₁, hq, .pass (x := .inLoop c) rfl (fun _ _ => .inl (by simp)) harr⟩
        | goto l => exact ⟨_, a₁, w₁, hq, .pass (x := .inLoop c) rfl (fun _ _ => .inl (by simp)) harr⟩
        | ret => exact ⟨_, a₁, w₁, hq, .pass (x := .inLoop c) rfl (fun _ _ => .inl (by simp)) harr⟩
        | panic ch => exact ⟨_, a₁, w₁, hq, .pass (x := .inLoop c) rfl (fun _ _ => .inl (by simp)) harr⟩
        | outgrown => exact ⟨_, a₁, w₁, hq, .pass (x := .inLoop c) rfl (fun _ _ => .inl (by simp)) harr⟩
    obtain ⟨e, a', w', hq, harr⟩ := key n0 u w h0
    exact ⟨e, a', w', hq, .of_steps (.one (fenced_calm hb hr rfl) stepR_loop) harr⟩
theorem reg {id : Nat} {l : List Oper} {a : Act} (h : wpS r P l.toArray Q l a w) : wpC r P (.region id l.toArray false) Q a w := by
  cases r with
  | none => exact wp_region_lit (wpS_list h)
  | some i => exact wpIn_region_lit (wpS0_listIn h.out)
end
section
variable {Q : Exit → Act → World → Prop} {K : Act → World → Prop} {a : Act} {w : World}
theorem nb {i : Nat} (h : Q .normal a w) : Exit.inBlock i Q .normal a w := h
theorem tr (h : Q .ret a w) : Exit.then K Q .ret a w := h
theorem br {i : Nat} (h : Q .ret a w) : Exit.inBlock i Q .ret a w := h
theorem tp {c : List PanicEntry} (h : Q (.panic c) a w) : Exit.then K Q (.panic c) a w := h
theorem bp {i : Nat} {c : List PanicEntry} (h : Q (.panic c) a w) : Exit.inBlock i Q (.panic c) a w := h
theorem tw {y : Code} {P : Program} (h : wpC none P y Q a w) : Exit.then (y.wp P Q) Q .normal a w := h
theorem te {i : Nat} (h : Q (.exit i) a w) : Exit.then K Q (.exit i) a w := h
theorem be {i : Nat} (h : Q .normal a w) : Exit.inBlock i Q (.exit i) a w := by
  show (if i = i then _ else _)
  rw [if_pos rfl]; exact h
theorem bx {i j : Nat} (hn : i ≠ j) (h : Q (.exit i) a w) : Exit.inBlock j Q (.exit i) a w := by
  show (if i = j then _ else _)
  rw [if_neg hn]; exact h
end
section
variable {r : Option (Option Nat)} {P : Program} {ops : Array Oper} {rest : List Oper} {o : Oper} {Q : Exit → Act → World → Prop} {N : Nat} {u : Nat → Value} {ds : List Deferred} {w : World}
/-! ### Guards -/
def dstAt (ops : Array Oper) (j : Nat) : Option Tmp := (ops[j]?).bind (·.dst)
theorem yielded_fr {j d : Nat} (hj : dstAt ops j = some d) (hd : Nat.ble (d + 1) N = true) {b : Bool} (hu : u d = .bool b) : yielded ops (fr N u) j = some b := by
  unfold yielded
  unfold dstAt at hj
  rw [hj]
  have : d < N := Nat.le_of_ble_eq_true hd
  simp [fr_get, this, hu]
theorem gt {j d : Nat} {b : Bool} (hg : o.guard = some (j, b)) (hj : dstAt ops j = some d) (hd : Nat.ble (d + 1) N = true) (hu : u d = .bool b) : Region.wanted o (yielded ops (fr N u)) = true := by
  simp [Region.wanted, hg, yielded_fr hj hd hu]
theorem gf {j d : Nat} {b : Bool} (hg : o.guard = some (j, b)) (hj : dstAt ops j = some d) (hd : Nat.ble (d + 1) N = true) (hu : u d = .bool (!b)) : Region.wanted o (yielded ops (fr N u)) = false := by
  simp [Region.wanted, hg, yielded_fr hj hd hu]
/-! ### Steps -/
/-- An operation whose run is known. -/
theorem sv (hg : Region.wanted o (yielded ops (fr N u)) = true) {d : Nat} (hd : o.dst = some d) {v : Value} {w' : World} (hr : (execOp (opv N u) o).run P w = .ok (.value v) w') (h : wpS r P ops Q rest (act N (upd u d v) ds) w') : wpS r P ops Q (o :: rest) (act N u ds) w := by
  refine wpS_run (a := act N u ds) hg ?_
  refine opC_val (by rw [eval_act]; exact hr) ?_
  rw [hd, put_act]; exact h
theorem sk (hg : Region.wanted o (yielded ops (fr N u)) = true) (hd : o.dst = none) {w' : World} (hr : (execOp (opv N u) o).run P w = .ok .skip w') (h : wpS r P ops Q rest (act N u ds) w') : wpS r P ops Q (o :: rest) (act N u ds) w := by
  refine wpS_run (a := act N u ds) hg ?_
  refine opC_skip (by rw [eval_act]; exact hr) ?_
  rw [hd]; exact h
/-- A call of a builtin that yields nothing of use (its slot is none). -/
theorem svn (hg : Region.wanted o (yielded ops (fr N u)) = true) (hd : o.dst = none) {v : Value} {w' : World} (hr : (execOp (opv N u) o).run P w = .ok (.value v) w') (h : wpS r P ops Q rest (act N u ds) w') : wpS r P ops Q (o :: rest) (act N u ds) w := by
  refine wpS_run (a := act N u ds) hg ?_
  refine opC_val (by rw [eval_act]; exact hr) ?_
  rw [hd]; exact h
/-- An operation that is not wanted. -/
theorem sg (hg : Region.wanted o (yielded ops (fr N u)) = false) {d : Nat} (hd : o.dst = some d) (h : wpS r P ops Q rest (act N (upd u d undef) ds) w) : wpS r P ops Q (o :: rest) (act N u ds) w := by
  refine wpS_not (a := act N u ds) hg ?_
  rw [hd, put_act]; exact h
theorem sgn (hg : Region.wanted o (yielded ops (fr N u)) = false) (hd : o.dst = none) (h : wpS r P ops Q rest (act N u ds) w) : wpS r P ops Q (o :: rest) (act N u ds) w := by
  refine wpS_not (a := act N u ds) hg ?_
  rw [hd]; exact h
/-- A panic. -/
theorem sp (hg : Region.wanted o (yielded ops (fr N u)) = true) {v : Value} {w' : World} (hr : (execOp (opv N u) o).run P w = .halt (.panic v) w') (h : Q (.panic [{ v, recovered := false }]) (act N u ds) w') : wpS none P ops Q (o :: rest) (act N u ds) w := by
  refine wpS_run (a := act N u ds) hg ?_
  unfold opC Oper.wp
  rw [eval_act, hr]
  exact h
/-- What follows a call. -/
def aft (K : Act → World → Prop) (Q : Exit → Act → World → Prop) (N : Nat) (u : Nat → Value) (ds : List Deferred) (dst : Option Tmp) : Ending → World → Prop
  | .returned v, w' => K ((act N u ds).put dst v) w'
  | .panicked chain, w' => Q (.panic chain) (act N u ds) w'
  | .outgrown, _ => LetsOut Q
/-- A call of a function: its contract. -/
theorem sc (hg : Region.wanted o (yielded ops (fr N u)) = true) {F : FuncId} {vs : Array Value} {R : Ending → World → Prop} (hr : (execOp (opv N u) o).run P w = .ok (.enter F vs) w) (hc : Calls P F vs w R)
    (h : ∀ e w', R e w' → aft (wpS r P ops Q rest) Q N u ds o.dst e w') : wpS r P ops Q (o :: rest) (act N u ds) w := by
  refine wpS_run (a := act N u ds) hg (opC_enter (by rw [eval_act]; exact hr) hc fun e w' hR => ?_)
  have := h e w' hR
  cases e with
  | returned v => exact this
  | panicked ch => exact this
  | outgrown => exact this
theorem aft_v {K : Act → World → Prop} {dst : Option Tmp} {d : Nat} (hd : dst = some d) {v : Value} {w' : World} (h : K (act N (upd u d v) ds) w') : aft K Q N u ds dst (.returned v) w' := by
  subst hd
  show K ((act N u ds).put (some d) v) w'
  rw [put_act]; exact h
theorem aft_n {K : Act → World → Prop} {dst : Option Tmp} (hd : dst = none) {v : Value} {w' : World} (h : K (act N u ds) w') : aft K Q N u ds dst (.returned v) w' := by
  subst hd
  exact h
theorem nil (h : Q .normal (act N u ds) w) : wpS r P ops Q [] (act N u ds) w := ⟨h⟩
end
/-! ### Values known slot by slot -/
def updL (u : Nat → Value) : List (Nat × Value) → Nat → Value
  | [] => u
  | (d, v) :: l => updL (upd u d v) l
/-- The slots that are listed have these values. -/
def Has (u : Nat → Value) : List (Nat × Value) → Prop
  | [] => True
  | (d, v) :: l => u d = v ∧ Has u l
theorem Has.upd {u : Nat → Value} : ∀ {l : List (Nat × Value)}, Has u l → u = updL u l
  | [], _ => rfl
  | (d, v) :: l, h => by
    have e := upd_self h.1
    have h2 := Has.upd h.2
    show u = updL (Eng.upd u d v) l
    rw [← e]; exact h2
theorem Has.ex {u : Nat → Value} {l : List (Nat × Value)} (h : Has u l) : ∃ u0, u = updL u0 l := ⟨u, h.upd⟩
theorem updL_at : ∀ (l : List (Nat × Value)) (u u' : Nat → Value) (k : Nat), (k ∉ l.map (·.1) → u k = u' k) → updL u l k = updL u' l k
  | [], _, _, k, h => h (by simp)
  | (d, v) :: l, u, u', k, h => updL_at l (upd u d v) (upd u' d v) k fun hk => by
    by_cases e : k = d
    · subst e; rw [upd_same, upd_same]
    · rw [upd_other _ _ _ _ e, upd_other _ _ _ _ e]
      exact h (by simp only [List.map_cons, List.mem_cons, not_or]; exact ⟨e, hk⟩)
/-! ### Regions that draw their order -/
section
variable {r : Option (Option Nat)} {P : Program} {Q : Exit → Act → World → Prop} {N : Nat} {ds : List Deferred}
def fat (FL : List (Value → World → Prop)) (i : Nat) : Value → World → Prop := FL.getD i fun _ _ => True
/-- Is the slot written by one of the first m operations? -/
def inHead (ops : Array Oper) (m : Nat) (k : Nat) : Bool := (List.range m).any fun i => dstOf ops i == k
def Keeps (ops : Array Oper) (m : Nat) (u u' : Nat → Value) : Prop := ∀ k, inHead ops m k = false → u' k = u k
def preds (ops : Array Oper) (j : Nat) : List Nat := match ops[j]? with | some o => (o.after.toList.filter fun e => Region.binds .any e).map (·.on) | none => []
/-- The facts on those for whom one waits. -/
def Deps (ops : Array Oper) (FL : List (Value → World → Prop)) (m : Nat) (u' : Nat → Value) (W : World) : List Nat → Prop
  | [] => True
  | j :: l => (bif Nat.ble (j + 1) m then fat FL j (u' (dstOf ops j)) W else True) ∧ Deps ops FL m u' W l
/-- All facts. -/
def Facs (ops : Array Oper) (u' : Nat → Value) (W : World) : Nat → List (Value → World → Prop) → Prop
  | _, [] => True
  | i, f :: l => f (u' (dstOf ops i)) W ∧ Facs ops u' W (i + 1) l
def Stab : List (Value → World → Prop) → Prop
  | [] => True
  | f :: l => (∀ v W W', f v W → Below W.heap.size W W' → f v W') ∧ Stab l
theorem collect {ops : Array Oper} {m : Nat} {u u' : Nat → Value} (hk : Keeps ops m u u') {l : List (Nat × Value)} (h : Has u' l) (hl : (l.map (·.1)) = (List.range m).map (dstOf ops)) : u' = updL u l := by
  have e := h.upd
  rw [e]
  funext k
  rw [← e]
  have : updL u' l k = updL u l k := updL_at l u' u k fun hm => hk k (by
    cases c : inHead ops m k with
    | false => rfl
    | true =>
      exfalso
      apply hm
      rw [hl]
      obtain ⟨i, hi, hd⟩ := List.any_eq_true.1 c
      exact List.mem_map.2 ⟨i, hi, by simpa using hd⟩)
  rw [← this, ← e]
/-- One step of such a region. -/
structure DS (r : Option (Option Nat)) (P : Program) (ops : Array Oper) (Q : Exit → Act → World → Prop) (N : Nat) (ds : List Deferred) (o : Oper) (u' : Nat → Value) (W : World) (K : Act → World → Prop) : Prop where
  out : if Region.wanted o (yielded ops (fr N u')) = true then opC r P o (act N u' ds) W K Q else K ((act N u' ds).put o.dst undef) W
def StepD (r : Option (Option Nat)) (P : Program) (ops : Array Oper) (Q : Exit → Act → World → Prop) (N : Nat) (ds : List Deferred) (FL : List (Value → World → Prop)) (m : Nat) (u : Nat → Value) (w : World) (i : Nat) (o : Oper) : Prop :=
  ∀ (u' : Nat → Value) (W : World), Below w.heap.size w W → Keeps ops m u u' → Deps ops FL m u' W (preds ops i) → ∀ K : Act → World → Prop,
    (∀ v W', Below W.heap.size W W' → fat FL i v W' → K (act N (upd u' (dstOf ops i) v) ds) W') → DS r P ops Q N ds o u' W K
def StepsD (r : Option (Option Nat)) (P : Program) (ops : Array Oper) (Q : Exit → Act → World → Prop) (N : Nat) (ds : List Deferred) (FL : List (Value → World → Prop)) (m : Nat) (u : Nat → Value) (w : World) : Nat → List Oper → Prop
  | _, [] => True
  | i, o :: l => StepD r P ops Q N ds FL m u w i o ∧ StepsD r P ops Q N ds FL m u w (i + 1) l
/-- Whoever stands at m or behind waits for all that stand ahead. -/
def tailB (ops : Array Oper) (m : Nat) : Bool :=
  (List.range ops.size).all fun j => Nat.blt j m || (List.range j).all fun i => (preds ops j).contains i || (preds ops j).any fun k => (preds ops k).contains i || (preds ops k).any fun l => (preds ops l).contains i
/-- The first m operations have slots of their own. -/
def headB (ops : Array Oper) (m : Nat) : Bool := (List.range m).all fun i => (match ops[i]? with | some o => o.dst.isSome | none => false) && (List.range m).all fun j => i == j || dstOf ops i != dstOf ops j
theorem headB_dst {ops : Array Oper} {m i : Nat} {o : Oper} (h : headB ops m = true) (hi : i < m) (ho : ops[i]? = some o) : o.dst = some (dstOf ops i) := by
  have := List.all_eq_true.1 h i (List.mem_range.2 hi)
  simp only [Bool.and_eq_true, ho] at this
  obtain ⟨d, hd⟩ := Option.isSome_iff_exists.1 this.1
  simp only [dstOf, ho, hd, Option.getD_some]
theorem headB_ne {ops : Array Oper} {m i j : Nat} (h : headB ops m = true) (hi : i < m) (hj : j < m) (hne : i ≠ j) : dstOf ops i ≠ dstOf ops j := by
  have := List.all_eq_true.1 h i (List.mem_range.2 hi)
  simp only [Bool.and_eq_true, List.all_eq_true, List.mem_range] at this
  have h2 := this.2 j hj
  simpa [hne] using h2
theorem preds_closed {ops : Array Oper} {D : Nat → Bool} (hc : Closed ops D) {j k : Nat} (hj : D j = true) (hk : k ∈ preds ops j) : D k = true := by
  unfold preds at hk
  split at hk
  · rename_i o ho
    obtain ⟨e, he, rfl⟩ := List.mem_map.1 hk
    obtain ⟨he1, he2⟩ := List.mem_filter.1 he
    exact hc j o ho hj e (Array.mem_toList_iff.1 he1) he2
  · cases hk
theorem tail_all {ops : Array Oper} {m : Nat} (ht : tailB ops m = true) {D : Nat → Bool} (hc : Closed ops D) {j : Nat} {o : Oper} (ho : ops[j]? = some o) (hm : m ≤ j) (hd : ∀ e ∈ o.after, Region.binds .any e = true → D e.on = true) : ∀ i, i < j → D i = true := by
  intro i hi
  have hj : j < ops.size := (Array.getElem?_eq_some_iff.1 ho).1
  have h1 := List.all_eq_true.1 ht j (List.mem_range.2 hj)
  have h2 : Nat.blt j m = false := by
    cases e : Nat.blt j m with
    | false => rfl
    | true => have := Nat.le_of_ble_eq_true e; omega
  rw [h2, Bool.false_or] at h1
  have h3 := List.all_eq_true.1 h1 i (List.mem_range.2 hi)
  have hp : ∀ k, k ∈ preds ops j → D k = true := by
    intro k hk
    unfold preds at hk
    rw [ho] at hk
    obtain ⟨e, he, rfl⟩ := List.mem_map.1 hk
    obtain ⟨he1, he2⟩ := List.mem_filter.1 he
    exact hd e (Array.mem_toList_iff.1 he1) he2
  simp only [Bool.or_eq_true, List.any_eq_true, List.contains_iff_mem] at h3
  rcases h3 with h | ⟨k, hk, h | ⟨l, hl, h⟩⟩
  · exact hp i h
  · exact preds_closed hc (hp k hk) h
  · exact preds_closed hc (preds_closed hc (hp k hk) hl) h
theorem fat_stab : ∀ {FL : List (Value → World → Prop)}, Stab FL → ∀ i v W W', fat FL i v W → Below W.heap.size W W' → fat FL i v W'
  | [], _, i, v, W, W', h, hb => by simp [fat] at h ⊢
  | f :: l, hs, 0, v, W, W', h, hb => hs.1 v W W' h hb
  | f :: l, hs, i + 1, v, W, W', h, hb => fat_stab (FL := l) hs.2 i v W W' h hb
theorem steps_at {ops : Array Oper} {FL : List (Value → World → Prop)} {m : Nat} {u : Nat → Value} {w : World} : ∀ {l : List Oper} {i : Nat}, StepsD r P ops Q N ds FL m u w i l → ∀ {j : Nat} {o : Oper}, l[j]? = some o → StepD r P ops Q N ds FL m u w (i + j) o
  | [], _, _, j, o, h => by simp at h
  | o' :: l, i, hs, 0, o, h => by simp at h; subst h; exact hs.1
  | o' :: l, i, hs, j + 1, o, h => by
    have := steps_at (l := l) (i := i + 1) hs.2 (j := j) (o := o) (by simpa using h)
    rwa [show i + 1 + j = i + (j + 1) by omega] at this
theorem facs_of {ops : Array Oper} {u' : Nat → Value} {W : World} : ∀ (FL : List (Value → World → Prop)) (i : Nat), (∀ j, j < FL.length → fat FL j (u' (dstOf ops (i + j))) W) → Facs ops u' W i FL
  | [], _, _ => trivial
  | f :: l, i, h => ⟨h 0 (by simp), facs_of l (i + 1) fun j hj => by
      have := h (j + 1) (by simpa using hj)
      rw [show i + (j + 1) = i + 1 + j by omega] at this
      exact this⟩
theorem deps_of {ops : Array Oper} {FL : List (Value → World → Prop)} {m : Nat} {u' : Nat → Value} {W : World} : ∀ (l : List Nat), (∀ j ∈ l, j < m → fat FL j (u' (dstOf ops j)) W) → Deps ops FL m u' W l
  | [], _ => trivial
  | j :: l, h => by
    refine ⟨?_, deps_of l fun k hk => h k (by simp [hk])⟩
    cases e : Nat.ble (j + 1) m with
    | false => exact trivial
    | true => exact h j (by simp) (Nat.le_of_ble_eq_true e)
/-- A region that draws its order: its first m operations come up in whatever order, and memory but grows; the others stand in line. -/
theorem draw {id : Nat} {l : List Oper} {u : Nat → Value} {w : World} (m : Nat) (FL : List (Value → World → Prop)) (hm : P.follows .mixedOrders = true) (hac : acyc l.toArray = true) (hh : headB l.toArray m = true) (ht : tailB l.toArray m = true) (hlen : FL.length = m) (hle : Nat.ble m l.length = true)
    (hst : Stab FL) (hstep : StepsD r P l.toArray Q N ds FL m u w 0 (l.take m))
    (hfin : ∀ u' W, Below w.heap.size w W → Keeps l.toArray m u u' → Facs l.toArray u' W 0 FL → wpS r P l.toArray Q (l.drop m) (act N u' ds) W) :
    wpC r P (.region id l.toArray true) Q (act N u ds) w := by
  have hml : m ≤ l.length := Nat.le_of_ble_eq_true hle
  refine region_invC (fun D a W => (∀ j, m ≤ j → j < l.length → D j = false) ∧ (∃ u', a = act N u' ds ∧ Below w.heap.size w W ∧ Keeps l.toArray m u u' ∧ ∀ j, j < m → D j = true → fat FL j (u' (dstOf l.toArray j)) W) ∨
      ∃ t, m ≤ t ∧ t < l.length ∧ (∀ j, j ≤ t → D j = true) ∧ (∀ j, t < j → j < l.length → D j = false) ∧ wpS r P l.toArray Q (l.drop (t + 1)) a W) hm hac ?_ ?_ ?_
  · exact .inl ⟨fun _ _ _ => rfl, u, rfl, (Below.refl _ _).drew, fun _ _ => rfl, fun _ _ h => by cases h⟩
  · intro i o ho D a W hdi hdep hcl hI K hK
    have hi : i < l.length := by simpa using (Array.getElem?_eq_some_iff.1 ho).1
    have hol : l[i]? = some o := by simpa using ho
    by_cases him : i < m
    · rcases hI with ⟨htl, u', rfl, hb, hk, hF⟩ | ⟨t, ht1, ht2, ht3, _⟩
      · have hs := steps_at hstep (j := i) (o := o) (by rw [List.getElem?_take, if_pos him]; exact hol)
        rw [Nat.zero_add] at hs
        refine (hs u' W hb hk (deps_of _ fun j hj hjm => ?_) K (fun v W' hb' hf => hK _ _ (.inl ?_))).out
        · refine hF j hjm ?_
          unfold preds at hj
          rw [ho] at hj
          obtain ⟨e, he, rfl⟩ := List.mem_map.1 hj
          obtain ⟨he1, he2⟩ := List.mem_filter.1 he
          exact hdep e (Array.mem_toList_iff.1 he1) he2
        · refine ⟨fun j h1 h2 => ?_, Eng.upd u' (dstOf l.toArray i) v, rfl, hb.trans (hb'.mono hb.size), fun k hk2 => ?_, fun j hj hD => ?_⟩
          · rw [Cop.upd_other D i j (by omega)]; exact htl j h1 h2
          · have hne : k ≠ dstOf l.toArray i := by
              intro e
              subst e
              have := List.any_eq_false.1 hk2 i (List.mem_range.2 him)
              simp at this
            rw [Eng.upd_other u' _ v k hne]
            exact hk k hk2
          · by_cases hji : j = i
            · subst hji; rw [Eng.upd_same]; exact hf
            · rw [Cop.upd_other D i j hji] at hD
              rw [Eng.upd_other u' _ v _ (headB_ne hh hj him hji)]
              exact fat_stab hst j _ _ _ (hF j hj hD) hb'
      · have := ht3 i (by omega)
        rw [hdi] at this; cases this
    · have him : m ≤ i := by omega
      have hall := tail_all ht hcl ho him hdep
      have hw : wpS r P l.toArray Q (o :: l.drop (i + 1)) a W := by
        have hd : l.drop i = o :: l.drop (i + 1) := by
          rw [List.drop_eq_getElem_cons hi]
          congr 1
          rw [List.getElem?_eq_getElem hi] at hol
          exact Option.some.inj hol
        rcases hI with ⟨htl, u', rfl, hb, hk, hF⟩ | ⟨t, ht1, ht2, ht3, ht4, hw⟩
        · have him2 : i = m := by
            by_cases h : m < i
            · have := hall m h
              rw [htl m (Nat.le_refl _) (by omega)] at this; cases this
            · omega
          subst him2
          rw [← hd]
          exact hfin u' W hb hk (facs_of FL 0 fun j hj => by rw [Nat.zero_add]; exact hF j (by omega) (hall j (by omega)))
        · have hit : i = t + 1 := by
            by_cases h : i ≤ t
            · have := ht3 i h; rw [hdi] at this; cases this
            · by_cases h2 : t + 1 < i
              · have := hall (t + 1) h2
                rw [ht4 (t + 1) (by omega) (by omega)] at this; cases this
              · omega
          subst hit
          rw [← hd]; exact hw
      have hup : ∀ j, j ≤ i → Cop.upd D i j = true := by
        intro j hj
        by_cases hji : j = i
        · subst hji; exact Cop.upd_same D j
        · rw [Cop.upd_other D i j hji]; exact hall j (by omega)
      have hdown : ∀ j, i < j → j < l.length → Cop.upd D i j = false := by
        intro j h1 h2
        rw [Cop.upd_other D i j (by omega)]
        rcases hI with ⟨htl, _⟩ | ⟨t, ht1, ht2, ht3, ht4, _⟩
        · exact htl j (by omega) h2
        · by_cases h : t < j
          · exact ht4 j h h2
          · have := ht3 i (by omega); rw [hdi] at this; cases this
      have hK2 : ∀ a' W', wpS r P l.toArray Q (l.drop (i + 1)) a' W' → K a' W' := fun a' W' h => hK _ _ (.inr ⟨i, him, hi, hup, hdown, h⟩)
      replace hw := wpS_open hw
      split at hw
      · rename_i hwd
        rw [if_pos hwd]
        exact opC_mono hK2 hw
      · rename_i hwd
        rw [if_neg hwd]
        exact hK2 _ _ hw
  · intro D a W hall hI
    rcases hI with ⟨htl, u', rfl, hb, hk, hF⟩ | ⟨t, ht1, ht2, ht3, ht4, hw⟩
    · have hmn : m = l.length := by
        by_cases h : m < l.length
        · have := hall m (by simpa using h)
          rw [htl m (Nat.le_refl _) h] at this; cases this
        · omega
      have := hfin u' W hb hk (facs_of FL 0 fun j hj => by rw [Nat.zero_add]; exact hF j (by omega) (hall j (by simp; omega)))
      rw [hmn, List.drop_length] at this
      exact wpS_nil this
    · have : t + 1 = l.length := by
        by_cases h : t + 1 < l.length
        · have := hall (t + 1) (by simpa using h)
          rw [ht4 (t + 1) (by omega) h] at this; cases this
        · omega
      rw [this, List.drop_length] at hw
      exact wpS_nil hw
/-- A step of such a region: an operation whose run is known. -/
theorem dv {ops : Array Oper} {o : Oper} {u : Nat → Value} {W : World} {K : Act → World → Prop} (hg : Region.wanted o (yielded ops (fr N u)) = true) {d : Nat} (hd : o.dst = some d) {v : Value} {W' : World} (hr : (execOp (opv N u) o).run P W = .ok (.value v) W') (h : K (act N (Eng.upd u d v) ds) W') :
    DS r P ops Q N ds o u W K := by
  refine ⟨?_⟩
  rw [if_pos hg]
  refine opC_val (by rw [eval_act]; exact hr) ?_
  rw [hd, put_act]; exact h
theorem dg0 {ops : Array Oper} {o : Oper} {u : Nat → Value} {W : World} {K : Act → World → Prop} (hg : Region.wanted o (yielded ops (fr N u)) = false) {d : Nat} (hd : o.dst = some d) (h : K (act N (Eng.upd u d undef) ds) W) :
    DS r P ops Q N ds o u W K := by
  refine ⟨?_⟩
  rw [if_neg (by rw [hg]; exact Bool.false_ne_true), hd, put_act]; exact h
theorem dc {ops : Array Oper} {o : Oper} {u : Nat → Value} {W : World} {K : Act → World → Prop} (hg : Region.wanted o (yielded ops (fr N u)) = true) {F : FuncId} {vs : Array Value} {R : Ending → World → Prop} (hr : (execOp (opv N u) o).run P W = .ok (.enter F vs) W) (hc : Calls P F vs W R)
    (h : ∀ e w', R e w' → aft K Q N u ds o.dst e w') :
    DS r P ops Q N ds o u W K := by
  refine ⟨?_⟩
  rw [if_pos hg]
  refine opC_enter (by rw [eval_act]; exact hr) hc fun e w' hR => ?_
  have := h e w' hR
  cases e with
  | returned v => exact this
  | panicked ch => exact this
  | outgrown => exact this
end
/-! ### What operations do -/
section
variable {P : Program} {o : Oper} {ρ : Operand → Value} {w : World}
theorem x_mv {x : Operand} (ho : o.op = .move x) {v : Value} (hx : ρ x = v) : (execOp ρ o).run P w = .ok (.value v) w := by
  subst hx; unfold execOp; rw [ho]; rfl
theorem x_as {x : Operand} (ho : o.op = .assign x) {v : Value} (hx : ρ x = v) : (execOp ρ o).run P w = .ok (.value v) w := by
  subst hx; unfold execOp; rw [ho]; rfl
theorem x_pick {c a b : Operand} (ho : o.op = .pick c a b) {t : Bool} (hc : ρ c = .bool t) {x y : Value} (ha : ρ a = x) (hb : ρ b = y) {v : Value} (hv : (if t then x else y) = v) : (execOp ρ o).run P w = .ok (.value v) w := by
  subst ha hb hv; unfold execOp; rw [ho]; simp only [hc]; rfl
theorem x_ext {x : Operand} {i : Nat} (ho : o.op = .extract x i) {vs : Array Value} (hx : ρ x = .tuple vs) {v : Value} (hv : vs[i]? = some v) : (execOp ρ o).run P w = .ok (.value v) w := by
  unfold execOp; rw [ho]; simp [hx, Instr.extract, hv, Result.andThen]
theorem x_not {t : TypeId} {x : Operand} (ho : o.op = .unOp .not t x) {b : Bool} (hx : ρ x = .bool b) {v : Value} (hv : Value.bool (!b) = v) : (execOp ρ o).run P w = .ok (.value v) w := by
  subst hv; unfold execOp; rw [ho]; simp only [hx]; rfl
theorem x_add {t t2 : TypeId} {x y : Operand} (ho : o.op = .binOp .add t x y t2) {k : IntKind} {a b : Int} (hx : ρ x = .int k a) (hy : ρ y = .int k b) {r : Int} (hr : k.wrap (a + b) = r) : (execOp ρ o).run P w = .ok (.value (.int k r)) w := by
  subst hr; unfold execOp; rw [ho]; simp [hx, hy, eqGuard, binOp, Op.intArith, Result.andThen]
theorem x_sub {t t2 : TypeId} {x y : Operand} (ho : o.op = .binOp .sub t x y t2) {k : IntKind} {a b : Int} (hx : ρ x = .int k a) (hy : ρ y = .int k b) {r : Int} (hr : k.wrap (a - b) = r) : (execOp ρ o).run P w = .ok (.value (.int k r)) w := by
  subst hr; unfold execOp; rw [ho]; simp [hx, hy, eqGuard, binOp, Op.intArith, Result.andThen]
theorem x_mul {t t2 : TypeId} {x y : Operand} (ho : o.op = .binOp .mul t x y t2) {k : IntKind} {a b : Int} (hx : ρ x = .int k a) (hy : ρ y = .int k b) {r : Int} (hr : k.wrap (a * b) = r) : (execOp ρ o).run P w = .ok (.value (.int k r)) w := by
  subst hr; unfold execOp; rw [ho]; simp [hx, hy, eqGuard, binOp, Op.intArith, Result.andThen]
theorem x_eq {t t2 : TypeId} {x y : Operand} (ho : o.op = .binOp .eql t x y t2) {k : IntKind} {a b : Int} (hx : ρ x = .int k a) (hy : ρ y = .int k b) {r : Bool} (hr : (a == b) = r) : (execOp ρ o).run P w = .ok (.value (.bool r)) w := by
  subst hr; unfold execOp; rw [ho]; simp [hx, hy, eqGuard, binOp, Op.intCmp, Result.andThen]
theorem x_ne {t t2 : TypeId} {x y : Operand} (ho : o.op = .binOp .neq t x y t2) {k : IntKind} {a b : Int} (hx : ρ x = .int k a) (hy : ρ y = .int k b) {r : Bool} (hr : (a != b) = r) : (execOp ρ o).run P w = .ok (.value (.bool r)) w := by
  subst hr; unfold execOp; rw [ho]; simp [hx, hy, eqGuard, binOp, Op.intCmp, Result.andThen]
theorem x_lt {t t2 : TypeId} {x y : Operand} (ho : o.op = .binOp .lss t x y t2) {k : IntKind} {a b : Int} (hx : ρ x = .int k a) (hy : ρ y = .int k b) {r : Bool} (hr : (decide (a < b)) = r) : (execOp ρ o).run P w = .ok (.value (.bool r)) w := by
  subst hr; unfold execOp; rw [ho]; simp [hx, hy, eqGuard, binOp, Op.intCmp, Result.andThen]
theorem x_le {t t2 : TypeId} {x y : Operand} (ho : o.op = .binOp .leq t x y t2) {k : IntKind} {a b : Int} (hx : ρ x = .int k a) (hy : ρ y = .int k b) {r : Bool} (hr : (decide (a ≤ b)) = r) : (execOp ρ o).run P w = .ok (.value (.bool r)) w := by
  subst hr; unfold execOp; rw [ho]; simp [hx, hy, eqGuard, binOp, Op.intCmp, Result.andThen]
theorem x_gt {t t2 : TypeId} {x y : Operand} (ho : o.op = .binOp .gtr t x y t2) {k : IntKind} {a b : Int} (hx : ρ x = .int k a) (hy : ρ y = .int k b) {r : Bool} (hr : (decide (b < a)) = r) : (execOp ρ o).run P w = .ok (.value (.bool r)) w := by
  subst hr; unfold execOp; rw [ho]; simp [hx, hy, eqGuard, binOp, Op.intCmp, Result.andThen]
theorem x_ge {t t2 : TypeId} {x y : Operand} (ho : o.op = .binOp .geq t x y t2) {k : IntKind} {a b : Int} (hx : ρ x = .int k a) (hy : ρ y = .int k b) {r : Bool} (hr : (decide (b ≤ a)) = r) : (execOp ρ o).run P w = .ok (.value (.bool r)) w := by
  subst hr; unfold execOp; rw [ho]; simp [hx, hy, eqGuard, binOp, Op.intCmp, Result.andThen]
theorem x_quo {t t2 : TypeId} {x y : Operand} (ho : o.op = .binOp .quo t x y t2) {k : IntKind} {a b : Int} (hx : ρ x = .int k a) (hy : ρ y = .int k b) (hb : b ≠ 0) {r : Int} (hr : k.wrap (a.tdiv b) = r) : (execOp ρ o).run P w = .ok (.value (.int k r)) w := by
  subst hr; unfold execOp; rw [ho]; simp [hx, hy, eqGuard, binOp, Op.intDiv, hb, Result.andThen]
theorem x_rem {t t2 : TypeId} {x y : Operand} (ho : o.op = .binOp .rem t x y t2) {k : IntKind} {a b : Int} (hx : ρ x = .int k a) (hy : ρ y = .int k b) (hb : b ≠ 0) {r : Int} (hr : a.tmod b = r) : (execOp ρ o).run P w = .ok (.value (.int k r)) w := by
  subst hr; unfold execOp; rw [ho]; simp [hx, hy, eqGuard, binOp, Op.intDiv, hb, Result.andThen]
theorem x_bits {op : BinOp} {t t2 : TypeId} {x y : Operand} (ho : o.op = .binOp op t x y t2) (hop : op = .and ∨ op = .or ∨ op = .xor ∨ op = .andNot) {k : IntKind} {a b : Int} (hx : ρ x = .int k a) (hy : ρ y = .int k b) {v : Value} (hr : (Op.intBits op k a b).run P w = .ok v w) : (execOp ρ o).run P w = .ok (.value v) w := by
  unfold execOp; rw [ho]
  rcases hop with rfl | rfl | rfl | rfl <;> simp [hx, hy, eqGuard, binOp, hr, Result.andThen]
theorem x_shl {t t2 : TypeId} {x y : Operand} (ho : o.op = .binOp .shl t x y t2) {k k2 : IntKind} {a b : Int} (hx : ρ x = .int k a) (hy : ρ y = .int k2 b) (hb : 0 ≤ b) {r : Int} (hr : k.wrap (a * 2 ^ (min b.toNat k.bits)) = r) : (execOp ρ o).run P w = .ok (.value (.int k r)) w := by
  subst hr; unfold execOp; rw [ho]; simp [hx, hy, eqGuard, binOp, Op.shift, Int.not_lt.2 hb, Result.andThen]
theorem x_shr {t t2 : TypeId} {x y : Operand} (ho : o.op = .binOp .shr t x y t2) {k k2 : IntKind} {a b : Int} (hx : ρ x = .int k a) (hy : ρ y = .int k2 b) (hb : 0 ≤ b) {r : Int} (hr : a.fdiv (2 ^ (min b.toNat k.bits)) = r) : (execOp ρ o).run P w = .ok (.value (.int k r)) w := by
  subst hr; unfold execOp; rw [ho]; simp [hx, hy, eqGuard, binOp, Op.shift, Int.not_lt.2 hb, Result.andThen]
theorem x_conv {s t : TypeId} {x : Operand} (ho : o.op = .convert s t x) {k k' : IntKind} (hs : P.underlying s = some (.int k')) (ht : P.underlying t = some (.int k)) {a : Int} (hx : ρ x = .int k' a) {r : Int} (hr : k.wrap a = r) : (execOp ρ o).run P w = .ok (.value (.int k r)) w := by
  subst hr; unfold execOp; rw [ho]
  simp only [hx]
  unfold convert
  simp [run_underlying hs, run_underlying ht, Conv.intToInt, Result.andThen]
/-- A string turned to a string. -/
theorem x_convS {s t : TypeId} {x : Operand} (ho : o.op = .convert s t x) (hs : P.underlying s = some .string) (ht : P.underlying t = some .string) {a : ByteArray} (hx : ρ x = .string a) : (execOp ρ o).run P w = .ok (.value (.string a)) w := by
  unfold execOp; rw [ho]
  simp only [hx]
  unfold convert
  simp [run_underlying hs, run_underlying ht, Result.andThen]
theorem x_nck {x : Operand} (ho : o.op = .nilCheck x) {a : Addr} (hx : ρ x = .pointer (some a)) : (execOp ρ o).run P w = .ok (.value (.pointer (some a))) w := by
  unfold execOp; rw [ho]; simp only [hx]; rfl
theorem x_fa {s : TypeId} {x : Operand} {i : Nat} (ho : o.op = .fieldAddr s x i) {v : Value} {a : Addr} (hx : ρ x = .pointer (some a)) (hr : (Instr.fieldAt s (.pointer (some a)) i).run P w = .ok v w) : (execOp ρ o).run P w = .ok (.value v) w := by
  unfold execOp; rw [ho]; simp only [hx]; simp [hr, Result.andThen]
theorem x_fld {s : TypeId} {x : Operand} {i : Nat} (ho : o.op = .field s x i) {a v : Value} (hx : ρ x = a) (hr : (Instr.field s a i).run P w = .ok v w) : (execOp ρ o).run P w = .ok (.value v) w := by
  subst hx; unfold execOp; rw [ho]; simp [hr, Result.andThen]
theorem x_build {t : TypeId} {parts : Array (Nat × Operand)} (ho : o.op = .build t parts) {ps : List (Nat × Value)} (hp : (parts.toList.map fun (i, x) => (i, ρ x)) = ps) {v : Value} (hr : (Instr.build t ps.toArray).run P w = .ok v w) : (execOp ρ o).run P w = .ok (.value v) w := by
  have e : (parts.map fun (i, x) => (i, ρ x)) = ps.toArray := by
    rw [← hp, ← List.map_toArray]
  unfold execOp; rw [ho]; simp [e, hr, Result.andThen]
/-- The function may be entered. -/
def Entr (P : Program) (F : FuncId) : Prop := ∃ fn, P.funcs[F]? = some fn ∧ (fn.name == "runtime.NumGoroutine") = false ∧ fn.body.isNone = false
theorem run_entr {F : FuncId} (h : Entr P F) (vs : Array Value) (w : World) : (callFunc F vs).run P w = .ok (.enter F vs) w := by
  obtain ⟨fn, h1, h2, h3⟩ := h
  have h2' : ¬ fn.name = "runtime.NumGoroutine" := by simpa using h2
  have h3' : ¬ fn.body = none := by
    intro e; rw [e] at h3; cases h3
  simp [callFunc, h1, h2', h3']
theorem xc {F : FuncId} {xs : Array Operand} {ts : Array TypeId} (ho : o.op = .call { callee := .value (.func F), args := xs, argTypes := ts }) (hf : ρ (.func F) = .func (.func F) #[] #[]) {vl : List Value} (hx : xs.toList.map ρ = vl) (he : Entr P F) : (execOp ρ o).run P w = .ok (.enter F vl.toArray) w := by
  have e : xs.map ρ = vl.toArray := by rw [← hx, ← List.map_toArray]
  unfold execOp; rw [ho]
  simp [resolve, hf, e, Deferred.ofValue, invoke, run_entr he, Result.andThen]
/-- A function value is called. -/
theorem xcv {f : Operand} {F : FuncId} {xs : Array Operand} {ts : Array TypeId} (ho : o.op = .call { callee := .value f, args := xs, argTypes := ts }) {first cap : List Value} (hf : ρ f = .func (.func F) first.toArray cap.toArray) {vl : List Value} (hx : first ++ xs.toList.map ρ ++ cap = vl) (he : Entr P F) : (execOp ρ o).run P w = .ok (.enter F vl.toArray) w := by
  have e : first.toArray ++ xs.map ρ ++ cap.toArray = vl.toArray := by rw [← hx]; apply Array.toList_inj.1; simp
  unfold execOp; rw [ho]
  simp [resolve, hf, Deferred.ofValue, invoke, run_entr he, Result.andThen] at e ⊢
  rw [e]
theorem x_mi {t : TypeId} {x : Operand} (ho : o.op = .makeInterface t x) {a : Value} (hx : ρ x = a) (hr : (Instr.makeInterface t a).run P w = .ok (.iface t a) w) : (execOp ρ o).run P w = .ok (.value (.iface t a)) w := by
  subst hx; unfold execOp; rw [ho]; simp [hr, Result.andThen]
/-! Numbers that do not wrap. -/
theorem w64 {n r : Int} (h : n = r ∧ -9223372036854775808 ≤ r ∧ r ≤ 9223372036854775807) : IntKind.i64.wrap n = r := by
  obtain ⟨rfl, h1, h2⟩ := h; exact IntWalk.i64_in _ (by omega)
theorem wu64 {n r : Int} (h : n = r ∧ 0 ≤ r ∧ r ≤ 18446744073709551615) : IntKind.u64.wrap n = r := by
  obtain ⟨rfl, h1, h2⟩ := h; exact IntWalk.u64_in _ (by omega)
theorem wu32 {n r : Int} (h : n = r ∧ 0 ≤ r ∧ r ≤ 4294967295) : IntKind.u32.wrap n = r := by
  obtain ⟨rfl, h1, h2⟩ := h
  show n.emod _ = n
  exact Int.emod_eq_of_lt h1 (by show n < 4294967296; omega)
theorem wu8 {n r : Int} (h : n = r ∧ 0 ≤ r ∧ r ≤ 255) : IntKind.u8.wrap n = r := by
  obtain ⟨rfl, h1, h2⟩ := h
  show n.emod _ = n
  exact Int.emod_eq_of_lt h1 (by show n < 256; omega)
theorem eq_t {a b : Int} (h : a = b) : (a == b) = true := beq_iff_eq.2 h
theorem eq_f {a b : Int} (h : a ≠ b) : (a == b) = false := beq_eq_false_iff_ne.2 h
theorem ne_t {a b : Int} (h : a ≠ b) : (a != b) = true := by rw [bne, eq_f h]; rfl
theorem ne_f {a b : Int} (h : a = b) : (a != b) = false := by rw [bne, eq_t h]; rfl
theorem x_ld1 {t : TypeId} {x : Operand} (ho : o.op = .load t x) (hagg : ∀ w, (isAgg t).run P w = .ok false w) {ad : Addr} (hx : ρ x = .pointer (some ad)) {v : Value} (hc : w.cell? ad = some v) : (execOp ρ o).run P w = .ok (.value v) w := by
  have hl : (load ad).run P w = .ok v w := by simp [go_sem, hc]
  unfold execOp; rw [ho]
  simp [hx, Instr.loadAt, Instr.sureAddr, loadVar, hagg, hl, Result.andThen]
theorem x_ldA {t : TypeId} {x : Operand} (ho : o.op = .load t x) (hagg : ∀ w, (isAgg t).run P w = .ok true w) {sz : Nat} (hs : (P.info? t).map (fun i => i.size) = some sz) {ad : Addr} (hx : ρ x = .pointer (some ad)) {cs : List Value} (hl : cs.length = sz) (hc : ∀ j v, cs[j]? = some v → w.cell? (ad.add j) = some v) {v : Value} (hv : Value.agg cs.toArray = v) : (execOp ρ o).run P w = .ok (.value v) w := by
  subst hv
  have hld := run_loadCells_list (P := P) w ad cs hc
  rw [hl] at hld
  unfold execOp; rw [ho]
  simp [hx, Instr.loadAt, Instr.sureAddr, loadVar, hagg, Cop.run_sizeOf hs, hld, Result.andThen]
theorem x_ldB {t : TypeId} {x : Operand} (ho : o.op = .load t x) (hagg : ∀ w, (isAgg t).run P w = .ok true w) {sz : Nat} (hs : (P.info? t).map (fun i => i.size) = some sz) {g : Nat} (hx : ρ x = .pointer (some ⟨g, 0, none⟩)) {t' : TypeId} {cs : List Value} (hb : Blk w g t' cs) (hl : cs.length = sz) {v : Value} (hv : Value.agg cs.toArray = v) : (execOp ρ o).run P w = .ok (.value v) w :=
  x_ldA ho hagg hs hx hl (fun j v hv => by rw [addr_add, hb.cell]; exact hv) hv
end
/-! ### Slices -/
def sAddr : Value → Addr
  | .slice (some a) _ _ => a
  | _ => ⟨0, 0, none⟩
def sCut (v : Value) (l h sz : Nat) : Value :=
  match v with
  | .slice a _ c => .slice (if c = l then a else a.map (·.add (l * sz))) (h - l) (c - l)
  | v => v
section
variable {P : Program} {o : Oper} {ρ : Operand → Value} {w : World}
theorem Row.addr {v : Value} {n : Nat} {cs : List Value} (hr : Row w v n cs) {j : Nat} {u : Value} (h : cs[j]? = some u) : w.cell? ((sAddr v).add j) = some u := by
  obtain ⟨ao, cap, rfl, h1, h2, h3, h4⟩ := hr
  cases ao with
  | none => obtain ⟨_, rfl⟩ := h3 rfl; simp at h
  | some ad => exact h4 ad rfl j u h
theorem Row.one {v : Value} {n : Nat} {cs : List Value} (hr : Row w v n cs) : v.oneCell' = true := by
  obtain ⟨ao, cap, rfl, _⟩ := hr; rfl
theorem Row.cells1 {v : Value} {n : Nat} {cs : List Value} (hr : Row w v n cs) : v.cells = #[v] := by
  obtain ⟨ao, cap, rfl, _⟩ := hr; rfl
theorem Row.cut {v : Value} {n sz : Nat} {cs : List Value} (hr : Row w v n cs) (hl : cs.length = n * sz) {l h : Nat} (h1 : l ≤ h) (h2 : h ≤ n) : Row w (sCut v l h sz) (h - l) ((cs.drop (l * sz)).take ((h - l) * sz)) := by
  obtain ⟨ao, cap, rfl, q1, q2, q3, q4⟩ := hr
  refine ⟨_, _, rfl, by omega, by omega, ?_, ?_⟩
  · intro hnone
    split at hnone
    · rename_i hc
      have hz : h - l = 0 := by omega
      exact ⟨by omega, by rw [hz]; simp⟩
    · cases ao with
      | none => obtain ⟨rfl, rfl⟩ := q3 rfl; exact ⟨by omega, by simp⟩
      | some _ => simp at hnone
  · intro ad had j u hu
    rw [List.getElem?_take] at hu
    split at hu
    · rename_i hj
      rw [List.getElem?_drop] at hu
      have hne : ¬ cap = l := by
        intro e
        have : h - l = 0 := by omega
        rw [this] at hj
        omega
      rw [if_neg hne] at had
      cases ao with
      | none => simp at had
      | some ad0 =>
        simp at had
        subst had
        have := q4 ad0 rfl _ _ hu
        rwa [show (ad0.add (l * sz)).add j = ad0.add (l * sz + j) from by unfold Addr.add; by_cases ha : l * sz = 0 <;> by_cases hb : j = 0 <;> simp [ha, hb, Nat.add_assoc]]
    · cases hu
theorem x_len {x : Operand} {t e : TypeId} (ho : o.op = .call { callee := .builtin .len, args := #[x], argTypes := #[t] }) (ht : P.underlying t = some (.slice e)) {v : Value} (hx : ρ x = v) {n : Nat} {cs : List Value} (hr : Row w v n cs) {r : Int} (hn : (n : Int) = r) : (execOp ρ o).run P w = .ok (.value (.int .i64 r)) w := by
  subst hn
  have hs := hr.small
  obtain ⟨ad, cap, rfl, _⟩ := hr
  unfold execOp
  simp only [ho, resolve, invoke, builtin, Sem.run_bind, Sem.run_pure, Result.andThen_ok, List.map_toArray, List.map_cons, List.map_nil, hx]
  simp [Builtin.len_, run_underlying ht, goInt]
theorem x_lenS {x : Operand} {t : TypeId} (ho : o.op = .call { callee := .builtin .len, args := #[x], argTypes := #[t] }) (ht : P.underlying t = some .string) {s : ByteArray} (hx : ρ x = .string s) (hs : s.size ≤ 9223372036854775807) {r : Int} (hn : (s.size : Int) = r) : (execOp ρ o).run P w = .ok (.value (.int .i64 r)) w := by
  subst hn
  unfold execOp
  simp only [ho, resolve, invoke, builtin, Sem.run_bind, Sem.run_pure, Result.andThen_ok, List.map_toArray, List.map_cons, List.map_nil, hx]
  simp [Builtin.len_, run_underlying ht, goInt, show (s.size : Int) ≤ 9223372036854775807 by omega]
theorem x_ia {t e : TypeId} {x i : Operand} (ho : o.op = .indexAddr t x i) (ht : P.underlying t = some (.slice e)) {sz : Nat} (hs : (P.info? e).map (fun i => i.size) = some sz) (hz : 0 < sz) {v : Value} (hx : ρ x = v) {k : IntKind} {iv : Int} (hi : ρ i = .int k iv) {n : Nat} {cs : List Value} (hr : Row w v n cs) (hl : cs.length = n * sz) {j : Nat} (hj : iv = (j : Int)) (hlt : j < n) : (execOp ρ o).run P w = .ok (.value (.pointer (some ((sAddr v).add (j * sz))))) w := by
  subst hj
  obtain ⟨ad, cap, rfl, _⟩ := hr.at hl hz hlt
  have hrun := run_indexAt_row (P := P) ht hs (ad := ad) (n := n) (cap := cap) (k := k) (i := (j : Int)) (by omega) (by omega) w
  rw [Int.toNat_natCast] at hrun
  unfold execOp; rw [ho]
  simp only [hx, hi]
  simp [hrun, Result.andThen, sAddr]
/-- .. of an array in a block of its own. -/
theorem x_iaA {t e : TypeId} {m : Nat} {x i : Operand} (ho : o.op = .indexAddr t x i) (ht : P.underlying t = some (.array m e)) {sz : Nat} (hs : (P.info? e).map (fun i => i.size) = some sz) {ad : Addr} (hx : ρ x = .pointer (some ad)) {k : IntKind} {iv : Int} (hi : ρ i = .int k iv) {j : Nat} (hj : iv = (j : Int)) (hlt : j < m) {a2 : Addr} (ha : ad.add (j * sz) = a2) : (execOp ρ o).run P w = .ok (.value (.pointer (some a2))) w := by
  subst hj ha
  have h1 : (0 : Int) ≤ (j : Int) := by omega
  have h2 : (j : Int) < (m : Int) := by omega
  unfold execOp; rw [ho]
  simp only [hx, hi]
  simp [Instr.indexAt, Instr.sureAddr, run_underlying ht, asIntOf, hlt, Cop.run_sizeOf hs, Result.andThen]
theorem x_sl {t e : TypeId} {x : Operand} {lo hi : Option Operand} (ho : o.op = .slice t x lo hi none) (ht : P.underlying t = some (.slice e)) {sz : Nat} (hs : (P.info? e).map (fun i => i.size) = some sz) {v : Value} (hx : ρ x = v) {n : Nat} {cs : List Value} (hr : Row w v n cs) (l h : Nat)
    (hlo : lo.map ρ = none ∧ l = 0 ∨ ∃ k, lo.map ρ = some (.int k (l : Int))) (hhi : hi.map ρ = none ∧ h = n ∨ ∃ k, hi.map ρ = some (.int k (h : Int))) (h1 : l ≤ h) (h2 : h ≤ n) : (execOp ρ o).run P w = .ok (.value (sCut v l h sz)) w := by
  obtain ⟨ao, cap, rfl, q1, q2, q3, q4⟩ := hr
  have hrun : (Instr.sliceAt t (.slice ao n cap) (lo.map ρ) (hi.map ρ) none).run P w = .ok (sCut (.slice ao n cap) l h sz) w := by
    have hsz := Cop.run_sizeOf hs w
    have e1 : (l : Int) ≤ (h : Int) := by omega
    have e2 : (h : Int) ≤ (cap : Int) := by omega
    have e3 : h ≤ cap := by omega
    have e4 : ¬ cap < h := by omega
    have e5 : ¬ h < l := by omega
    rcases hlo with ⟨hlo, rfl⟩ | ⟨k, hlo⟩ <;> rcases hhi with ⟨hhi, rfl⟩ | ⟨k', hhi⟩ <;> rw [hlo, hhi] <;>
      simp [Instr.sliceAt, run_underlying ht, Instr.slice, Instr.sliceBounds, Instr.sliceBound, asIntOf, hsz, e1, e2, e3, h1, e4, e5, sCut]
  unfold execOp; rw [ho]
  simp [hx, hrun, Result.andThen]
/-- A text is cut. -/
theorem x_slS {t : TypeId} {x : Operand} {lo hi : Option Operand} (ho : o.op = .slice t x lo hi none) (ht : P.underlying t = some .string) {s : List UInt8} (hx : ρ x = .string (str s)) (l h : Nat)
    (hlo : lo.map ρ = none ∧ l = 0 ∨ ∃ k, lo.map ρ = some (.int k (l : Int))) (hhi : hi.map ρ = none ∧ h = s.length ∨ ∃ k, hi.map ρ = some (.int k (h : Int))) (h1 : l ≤ h) (h2 : h ≤ s.length) {r : List UInt8} (hr : (s.drop l).take (h - l) = r) : (execOp ρ o).run P w = .ok (.value (.string (str r))) w := by
  subst hr
  have hsz : (str s).size = s.length := rfl
  have hex : (str s).extract l h = str ((s.drop l).take (h - l)) := by
    show ByteArray.extract _ _ _ = _
    have : ((str s).extract l h).data = (str ((s.drop l).take (h - l))).data := by
      rw [ByteArray.data_extract]
      apply Array.toList_inj.1
      simp [str, List.extract_eq_take_drop]
    exact ByteArray.ext this
  have hfull : (str s).extract 0 s.length = str s := ByteArray.extract_zero_size
  have hrun : (Instr.sliceAt t (.string (str s)) (lo.map ρ) (hi.map ρ) none).run P w = .ok (.string (str ((s.drop l).take (h - l)))) w := by
    rw [← hex]
    have e1 : (l : Int) ≤ (h : Int) := by omega
    have e2 : (h : Int) ≤ (s.length : Int) := by omega
    have e4 : ¬ s.length < h := by omega
    have e5 : ¬ h < l := by omega
    rcases hlo with ⟨hlo, rfl⟩ | ⟨k, hlo⟩ <;> rcases hhi with ⟨hhi, rfl⟩ | ⟨k', hhi⟩ <;> rw [hlo, hhi] <;>
      simp [Instr.sliceAt, run_underlying ht, Instr.slice, Instr.sliceBounds, Instr.sliceBound, asIntOf, hsz, e1, e2, h1, e4, e5, h2, hfull]
  unfold execOp; rw [ho]
  simp [hx, hrun, Result.andThen]
/-- A text's byte. -/
theorem x_ixS {t : TypeId} {x i : Operand} (ho : o.op = .index t x i) (ht : P.underlying t = some .string) {s : List UInt8} (hx : ρ x = .string (str s)) {k : IntKind} {iv : Int} (hi : ρ i = .int k iv) {j : Nat} (hj : iv = (j : Int)) {b : UInt8} (hb : s[j]? = some b) : (execOp ρ o).run P w = .ok (.value (u8c b)) w := by
  subst hj
  have hlt : j < s.length := (List.getElem?_eq_some_iff.1 hb).1
  have hg : (str s)[j]? = some b := by
    have : j < (str s).size := hlt
    rw [getElem?_pos (str s) j this]
    have : s[j]? = some (str s)[j] := by rw [List.getElem?_eq_getElem hlt]; rfl
    rw [← this, hb]
  unfold execOp; rw [ho]
  simp only [hx, hi]
  simp [Instr.index, run_underlying ht, asIntOf, hg, Result.andThen]
theorem rd_at {v : Value} {bs : List UInt8} (h : Row w v bs.length (bcs bs)) {j : Nat} (hj : j < bs.length) : w.cell? ((sAddr v).add (j * 1)) = some (u8c (bs.getD j 0)) := by
  rw [Nat.mul_one]
  refine Row.addr h ?_
  rw [bcs_at bs j hj, List.getD_eq_getElem?_getD, List.getElem?_eq_getElem hj]; rfl
theorem run_eqDg {t e : TypeId} {n : Nat} (ht : P.underlying t = some (.array n e)) (he : P.underlying e = some (.int .u8)) (hs : (P.info? e).map (fun i => i.size) = some 1) {p q : List UInt8} (hp : p.length = n) (hq : q.length = n) (w : World) : (Op.equal t (dg p) (dg q)).run P w = .ok (p == q) w := by
  have hrun := run_eql_bytes (P := P) w t e n ht he (fun w => Cop.run_sizeOf hs w) p q hp hq
  have hrun2 : ((Op.equal t (dg p) (dg q)).run P w).andThen (fun b w => .ok (Value.bool b) w) = .ok (.bool (p == q)) w := by
    have h2 : (do pure (Value.bool (← Op.equal t (dg p) (dg q))) : Sem Value).run P w = .ok (.bool (p == q)) w := hrun
    rw [Sem.run_bind] at h2
    simp only [Sem.run_pure] at h2
    exact h2
  cases h : (Op.equal t (dg p) (dg q)).run P w with
  | ok b w' =>
    rw [h] at hrun2
    simp [Result.andThen] at hrun2
    obtain ⟨h1, rfl⟩ := hrun2
    rw [h1]
  | halt x w' => rw [h] at hrun2; simp [Result.andThen] at hrun2
theorem x_eqA {t t2 e : TypeId} {n : Nat} {x y : Operand} (ho : o.op = .binOp .eql t x y t2) (ht : P.underlying t = some (.array n e)) (he : P.underlying e = some (.int .u8)) (hs : (P.info? e).map (fun i => i.size) = some 1) (hg : P.eqGuardType P.depth t = false) {p q : List UInt8} (hx : ρ x = dg p) (hy : ρ y = dg q) (hp : p.length = n) (hq : q.length = n) {r : Bool} (hr : (p == q) = r) : (execOp ρ o).run P w = .ok (.value (.bool r)) w := by
  subst hr
  have h1 := run_eqDg (w := w) ht he hs hp hq
  have hgd : (eqGuard .eql t x y (dg p) (dg q)).run P w = .ok () w := by simp [eqGuard, hg]
  unfold execOp; rw [ho]
  simp only [hx, hy]
  simp [Sem.run_bind, hgd, Result.andThen]
  simp [binOp, h1, Result.andThen]
theorem x_neA {t t2 e : TypeId} {n : Nat} {x y : Operand} (ho : o.op = .binOp .neq t x y t2) (ht : P.underlying t = some (.array n e)) (he : P.underlying e = some (.int .u8)) (hs : (P.info? e).map (fun i => i.size) = some 1) (hg : P.eqGuardType P.depth t = false) {p q : List UInt8} (hx : ρ x = dg p) (hy : ρ y = dg q) (hp : p.length = n) (hq : q.length = n) {r : Bool} (hr : (!(p == q)) = r) : (execOp ρ o).run P w = .ok (.value (.bool r)) w := by
  subst hr
  have h1 := run_eqDg (w := w) ht he hs hp hq
  have hgd : (eqGuard .neq t x y (dg p) (dg q)).run P w = .ok () w := by simp [eqGuard, hg]
  unfold execOp; rw [ho]
  simp only [hx, hy]
  simp [Sem.run_bind, hgd, Result.andThen]
  simp [binOp, h1, Result.andThen]
theorem eqI_nil {t : TypeId} {ms : _} (ht : P.underlying t = some (.interface ms)) (d : Nat) : (Op.equalIn (d + 1) t .nilIface .nilIface).run P w = .ok true w := by
  unfold Op.equalIn; simp [run_underlying ht, Result.andThen]
theorem eqI_some {t : TypeId} {ms : _} (ht : P.underlying t = some (.interface ms)) (d : Nat) (t' : TypeId) (v : Value) : (Op.equalIn (d + 1) t (.iface t' v) .nilIface).run P w = .ok false w := by
  unfold Op.equalIn; simp [run_underlying ht, Result.andThen]
theorem x_nilI {t t2 : TypeId} {x : Operand} (ho : o.op = .binOp .eql t x (.const .nilIface) t2) {v : Value} (hx : ρ x = v) (hc : ρ (.const .nilIface) = .nilIface) {b : Bool} (hv : (match v with | .nilIface => some true | .iface _ _ => some false | _ => none) = some b) {ms : _} (ht : P.underlying t = some (.interface ms)) : (execOp ρ o).run P w = .ok (.value (.bool b)) w := by
  have h1 : (Op.equal t .nilIface .nilIface).run P w = .ok true w := eqI_nil ht 9999
  have h2 : ∀ t' v, (Op.equal t (.iface t' v) .nilIface).run P w = .ok false w := fun t' v => eqI_some ht 9999 t' v
  unfold execOp; rw [ho]
  cases v <;> simp only [reduceCtorEq, Option.some.injEq] at hv <;> subst hv <;> simp [hx, hc, eqGuard, binOp, h1, h2, Result.andThen]
theorem tf (b : Bool) : b = true ∨ b = false := by cases b <;> simp
theorem get_at {l : List UInt8} {j : Nat} (h : j < l.length) : l[j]? = some (l.getD j 0) := by
  rw [List.getD_eq_getElem?_getD, List.getElem?_eq_getElem h]; rfl
theorem x_str {src dst e : TypeId} {x : Operand} (ho : o.op = .convert src dst x) (hs : P.underlying src = some (.slice e)) (he : P.underlying e = some (.int .u8)) (hd : P.underlying dst = some .string) {v : Value} {bs : List UInt8} (hx : ρ x = v) (hr : Row w v bs.length (bcs bs)) : (execOp ρ o).run P w = .ok (.value (.string (str bs))) w := by
  obtain ⟨ao, cap, rfl, q1, q2, q3, q4⟩ := hr
  have hrun : (convert src dst (.slice ao bs.length cap)).run P w = .ok (.string (str bs)) w := by
    rw [run_convert_bytes_string w src dst e ao _ _ hs he hd]
    cases ao with
    | none =>
      obtain ⟨_, hb⟩ := q3 rfl
      have : bs = [] := by simpa [bcs] using hb
      subst this
      rfl
    | some ad =>
      have hl : (loadCells ad bs.length).run P w = .ok ((bs.map fun b => (b.toNat : Int)).map (Value.int .u8)).toArray w := by
        have := run_loadCells_list (P := P) w ad (bcs bs) (q4 ad rfl)
        rw [bcs_length] at this
        rw [this]
        simp [bcs, u8c, Function.comp_def]
      rw [run_bytesToString w ad bs.length cap _ hl, foldl_push_bytes]
      simp [str, Function.comp_def]
  unfold execOp; rw [ho]
  simp [hx, hrun, Result.andThen]
theorem x_addS {t t2 : TypeId} {x y : Operand} (ho : o.op = .binOp .add t x y t2) {p q r : List UInt8} (hx : ρ x = .string (str p)) (hy : ρ y = .string (str q)) (hr : p ++ q = r) (hl : p.length + q.length ≤ 9223372036854775807) : (execOp ρ o).run P w = .ok (.value (.string (str r))) w := by
  subst hr
  have hrun := run_string_add_sum (P := P) w (str p) (str q) (by simpa [str, ByteArray.size] using hl)
  have e : str p ++ str q = str (p ++ q) := ByteArray.mk_append_mk p q
  rw [e] at hrun
  unfold execOp
  simp only [ho, hx, hy, eqGuard_add, Sem.run_bind, Sem.run_pure, Result.andThen_ok]
  rw [show binOp .add t (.string (str p)) (.string (str q)) = Op.stringOp .add (str p) (str q) from rfl, hrun]
  rfl
theorem str_toList (p : List UInt8) : (str p).toList = p := by rw [ByteArray.toList_eq]; rfl
theorem x_eqS {t t2 : TypeId} {x y : Operand} (ho : o.op = .binOp .eql t x y t2) {p q : List UInt8} (hx : ρ x = .string (str p)) (hy : ρ y = .string (str q)) {r : Bool} (hr : decide (p = q) = r) : (execOp ρ o).run P w = .ok (.value (.bool r)) w := by
  subst hr
  unfold execOp
  simp only [ho, hx, hy, eqGuard_at_string, Sem.run_bind, Sem.run_pure, Result.andThen_ok]
  rw [show binOp .eql t (.string (str p)) (.string (str q)) = Op.stringOp .eql (str p) (str q) from rfl]
  have e : (p == q) = decide (p = q) := by rw [Bool.eq_iff_iff]; simp
  simp [Op.stringOp, str_toList, e, Result.andThen]
theorem x_neS {t t2 : TypeId} {x y : Operand} (ho : o.op = .binOp .neq t x y t2) {p q : List UInt8} (hx : ρ x = .string (str p)) (hy : ρ y = .string (str q)) {r : Bool} (hr : (!decide (p = q)) = r) : (execOp ρ o).run P w = .ok (.value (.bool r)) w := by
  subst hr
  unfold execOp
  simp only [ho, hx, hy, eqGuard_at_string, Sem.run_bind, Sem.run_pure, Result.andThen_ok]
  rw [show binOp .neq t (.string (str p)) (.string (str q)) = Op.stringOp .neq (str p) (str q) from rfl]
  have e : (p == q) = decide (p = q) := by rw [Bool.eq_iff_iff]; simp
  simp [Op.stringOp, str_toList, e, Result.andThen]
/-- A whole array as a slice. -/
theorem x_slA {t e : TypeId} {n : Nat} {x : Operand} (ho : o.op = .slice t x none none none) (ht : P.underlying t = some (.array n e)) {sz : Nat} (hs : (P.info? e).map (fun i => i.size) = some sz) {g : Nat} (hx : ρ x = .pointer (some ⟨g, 0, none⟩)) : (execOp ρ o).run P w = .ok (.value (.slice (some ⟨g, 0, none⟩) n n)) w := by
  have hrun : (Instr.sliceAt t (.pointer (some ⟨g, 0, none⟩)) none none none).run P w = .ok (.slice (some ⟨g, 0, none⟩) n n) w := by
    simp [Instr.sliceAt, Instr.sureAddr, run_underlying ht, Instr.sliceBounds, Instr.sliceBound, asIntOf, Cop.run_sizeOf hs, addr_add]
  unfold execOp; rw [ho]
  simp [hx, hrun, Result.andThen]
theorem rd_cut {v : Value} {bs : List UInt8} (hr : Row w v bs.length (bcs bs)) {l h : Nat} (h1 : l ≤ h) (h2 : h ≤ bs.length) : Row w (sCut v l h 1) (((bs.drop l).take (h - l))).length (bcs ((bs.drop l).take (h - l))) := by
  have := Row.cut hr (sz := 1) (by rw [Nat.mul_one]; exact bcs_length bs) h1 h2
  rw [Nat.mul_one, Nat.mul_one, bcs_cut] at this
  have e : ((bs.drop l).take (h - l)).length = h - l := by rw [List.length_take, List.length_drop]; omega
  rw [e]; exact this
/-! ### New variables -/
theorem x_al {t : TypeId} (ho : o.op = .alloc t) {z : Value} (hz : ∀ w, (zeroValue t).run P w = .ok z w) : (execOp ρ o).run P w = .ok (.value (.pointer (some ⟨w.heap.size, 0, none⟩))) (w.alloc (.cells z.cells t)) := by
  unfold execOp
  simp [ho, Instr.alloc, hz, newVar, newRow, newObj, Result.andThen]
  rfl
theorem x_bx {t : TypeId} {x : Operand} (ho : o.op = .box t x) {v : Value} (hx : ρ x = v) : (execOp ρ o).run P w = .ok (.value (.pointer (some ⟨w.heap.size, 0, none⟩))) (w.alloc (.cells v.cells t)) := by
  unfold execOp
  simp [ho, hx, Instr.box, newVar, newRow, newObj, Result.andThen]
  rfl
theorem blk_al (w : World) (t : TypeId) (z : Value) {cs : List Value} (h : z.cells.toList = cs) : Blk (w.alloc (.cells z.cells t)) w.heap.size t cs := by
  subst h
  have := Blk.new w z.cells.toList t
  simpa using this
theorem below_al (w : World) (o : Obj) : Below w.heap.size w (w.alloc o) := (Below.refl _ _).alloc (Nat.le_refl _) _
theorem lt_al (w : World) (o : Obj) : w.heap.size < (w.alloc o).heap.size := by simp
end
section
variable {r : Option (Option Nat)} {P : Program} {ops : Array Oper} {rest : List Oper} {o : Oper} {Q : Exit → Act → World → Prop} {N : Nat} {u : Nat → Value} {ds : List Deferred} {w : World}
theorem al (hg : Region.wanted o (yielded ops (fr N u)) = true) {d : Nat} (hd : o.dst = some d) {t : TypeId} (ho : o.op = .alloc t) {z : Value} (hz : ∀ w, (zeroValue t).run P w = .ok z w) {cs : List Value} (hcs : z.cells.toList = cs)
    (h : ∀ w', Blk w' w.heap.size t cs → Below w.heap.size w w' → w.heap.size < w'.heap.size → wpS r P ops Q rest (act N (upd u d (.pointer (some ⟨w.heap.size, 0, none⟩))) ds) w') : wpS r P ops Q (o :: rest) (act N u ds) w :=
  sv hg hd (x_al ho hz) (h _ (blk_al w t z hcs) (below_al w _) (lt_al w _))
theorem bo (hg : Region.wanted o (yielded ops (fr N u)) = true) {d : Nat} (hd : o.dst = some d) {t : TypeId} {x : Operand} (ho : o.op = .box t x) {v : Value} (hx : opv N u x = v) {cs : List Value} (hcs : v.cells.toList = cs)
    (h : ∀ w', Blk w' w.heap.size t cs → Below w.heap.size w w' → w.heap.size < w'.heap.size → wpS r P ops Q rest (act N (upd u d (.pointer (some ⟨w.heap.size, 0, none⟩))) ds) w') : wpS r P ops Q (o :: rest) (act N u ds) w :=
  sv hg hd (x_bx ho hx) (h _ (blk_al w t v hcs) (below_al w _) (lt_al w _))
/-- An aggregate is stored into a block of its own, whole. -/
theorem stB (hg : Region.wanted o (yielded ops (fr N u)) = true) (hd : o.dst = none) {t : TypeId} {x y : Operand} (ho : o.op = .store t x y) {sz : Nat} (hs : (P.info? t).map (fun i => i.size) = some sz)
    {g : Nat} (hx : opv N u x = .pointer (some ⟨g, 0, none⟩)) {t' : TypeId} {cs : List Value} (hb : Blk w g t' cs) (hl : cs.length = sz) {v : Value} (hy : opv N u y = v) {cs' : List Value} (hv : v.cells.toList = cs') (hl' : cs'.length = sz) (h1 : ∀ u ∈ cs', u.oneCell' = true)
    (h : ∀ w', Blk w' g t' cs' → w.grownBy w' (some g) → wpS r P ops Q rest (act N u ds) w') : wpS r P ops Q (o :: rest) (act N u ds) w := by
  subst hv
  have hst := run_storeCells_at P g 0 t' v.cells.toList 0 cs.toArray w hb (by simp at hl' ⊢; omega) h1
  simp only [Nat.add_zero, List.take_zero, List.nil_append, Nat.zero_add] at hst
  have hd0 : cs.toArray.toList.drop v.cells.toList.length = [] := by simp at hl' ⊢; omega
  rw [hd0, List.append_nil] at hst
  have hv2 : v.cells.size = sz := by simpa using hl'
  refine sk hg hd (w' := w.setRow g v.cells.toList.toArray) ?_ (h _ (setRow_heap w g cs.toArray _ t' _ hb) ⟨rfl, rfl, rfl, by simp, fun k _ hk => setRow_other w g k _ (fun e => hk (by rw [e]))⟩)
  unfold execOp
  simp [ho, hx, hy, Instr.storeAt, Instr.sureAddr, storeVar, Cop.run_sizeOf hs, hv2, Result.andThen] at hst ⊢
  rw [hst]
/-- One cell is stored into a block. -/
theorem stC (hg : Region.wanted o (yielded ops (fr N u)) = true) (hd : o.dst = none) {t : TypeId} {x y : Operand} (ho : o.op = .store t x y) (hs : (P.info? t).map (fun i => i.size) = some 1)
    {g i : Nat} (hx : opv N u x = .pointer (some ⟨g, i, none⟩)) {t' : TypeId} {cs : List Value} (hb : Blk w g t' cs) (hi : i < cs.length) {v : Value} (hy : opv N u y = v) (hv : v.oneCell' = true) (hv2 : v.cells = #[v]) {cs' : List Value} (hcs : cs.set i v = cs')
    (h : ∀ w', Blk w' g t' cs' → w.grownBy w' (some g) → wpS r P ops Q rest (act N u ds) w') : wpS r P ops Q (o :: rest) (act N u ds) w := by
  subst hcs
  have hst := run_storeCells_at P g i t' [v] 0 cs.toArray w hb (by simp; omega) (by intro u hu; simp at hu; subst hu; exact hv)
  simp only [Nat.add_zero, List.length_singleton] at hst
  have he : (cs.toArray.toList.take i ++ [v] ++ cs.toArray.toList.drop (i + 1)) = cs.set i v := by
    simp [List.set_eq_take_append_cons_drop, hi]
  rw [he] at hst
  refine sk hg hd (w' := w.setRow g (cs.set i v).toArray) ?_ (h _ (setRow_heap w g cs.toArray _ t' _ hb) ⟨rfl, rfl, rfl, by simp, fun k _ hk => setRow_other w g k _ (fun e => hk (by rw [e]))⟩)
  unfold execOp
  simp [ho, hx, hy, Instr.storeAt, Instr.sureAddr, storeVar, Cop.run_sizeOf hs, hv2, Result.andThen] at hst ⊢
  rw [hst]
theorem one_nil : ∀ u ∈ ([] : List Value), u.oneCell' = true := by intro u h; cases h
theorem one_cons {v : Value} {l : List Value} (h : v.oneCell' = true) (hl : ∀ u ∈ l, u.oneCell' = true) : ∀ u ∈ v :: l, u.oneCell' = true := by
  intro u hu
  rcases List.mem_cons.1 hu with rfl | hu
  · exact h
  · exact hl u hu
/-- append onto a row of the call's own. -/
theorem ap (hg : Region.wanted o (yielded ops (fr N u)) = true) {d : Nat} (hd : o.dst = some d) {s x : Operand} {t e : TypeId} (ho : o.op = .call { callee := .builtin .append, args := #[s, x], argTypes := #[t, t] })
    {size bytes : Nat} {z : Value} (ht : P.underlying t = some (.slice e)) (hinfo : (P.info? e).map (fun i => (i.zero, i.size, i.bytes)) = some (some z, size, bytes)) (hzs : z.cells.size = size) (hsz : 0 < size)
    {base : Nat} {v : Value} {n : Nat} {xs : List Value} (hs : opv N u s = v) (hown : w.ownsRow base e size v n xs)
    {y : Value} {m : Nat} {cs : List Value} (hx : opv N u x = y) (hr : Row w y m cs) (hl : cs.length = m * size) (h1 : ∀ u ∈ cs, u.oneCell' = true)
    (h63 : n + m ≤ maxLen) (hbytes : (n + m) * bytes ≤ 140737488355328) (hbase : base ≤ w.heap.size)
    (h : ∀ v' w', w'.ownsRow base e size v' (n + m) (xs ++ cs) → w.grownBy w' v.ownBlock → wpS r P ops Q rest (act N (upd u d v') ds) w') : wpS r P ops Q (o :: rest) (act N u ds) w := by
  obtain ⟨i, hi, hz, hi1, hi2⟩ := info_parts hinfo
  obtain ⟨ao, cap, rfl, q1, q2, q3, q4⟩ := hr
  cases ao with
  | some ad =>
    obtain ⟨v', w', hr, g1, g2, _⟩ := run_append_own (P := P) w base t o.type e i z size bytes ht hi hz hi1 hi2 hzs hsz v n xs hown ad m cap cs hl (q4 ad rfl) h1 h63 hbytes hbase
    refine sv hg hd (v := v') (w' := w') ?_ (h v' w' g1 g2)
    unfold execOp
    simp only [ho, resolve, invoke, builtin, Sem.run_bind, Sem.run_pure, Result.andThen_ok, List.map_toArray, List.map_cons, List.map_nil, hs, hx, hr]
  | none =>
    obtain ⟨rfl, rfl⟩ := q3 rfl
    have hm : m = 0 := by omega
    subst hm
    have hrun := run_append_owned_none (P := P) w base t o.type e i size ht hi v n xs hown
    refine sv hg hd (v := v) (w' := w) ?_ (h v w (by simpa using hown) (World.grownBy.refl _ _))
    unfold execOp
    simp [ho, resolve, invoke, builtin, hs, hx, hrun, Result.andThen]
end
/-- A slice literal of n elements. -/
theorem x_bs {P : Program} {o : Oper} {ρ : Operand → Value} {w : World} {t e : TypeId} {n : Nat} {parts : Array (Nat × Operand)} (ho : o.op = .buildSlice t n parts) {size bytes : Nat} {z : Value} (ht : P.underlying t = some (.slice e)) (hinfo : (P.info? e).map (fun i => (i.zero, i.size, i.bytes)) = some (some z, size, bytes)) (hzs : z.cells.size = size) (hsz : 0 < size)
    {vs : List Value} (hp : (parts.toList.map fun (i, x) => (i, ρ x)) = (vs.zipIdx 0).map fun x => (x.2, x.1)) (hn : vs.length = n) (hpos : 0 < n) (hsm : n * size ≤ 16777216) (h1 : ∀ v ∈ vs, v.cells.size = size) {cs : List Value} (hcs : (vs.flatMap fun v => v.cells.toList) = cs) :
    (execOp ρ o).run P w = .ok (.value (.slice (some ⟨w.heap.size, 0, none⟩) n n)) (w.alloc (.cells cs.toArray e)) := by
  subst hcs
  obtain ⟨i, hi, hz, hi1, hi2⟩ := info_parts hinfo
  have e1 : (parts.map fun (i, x) => (i, ρ x)).toList = (vs.zipIdx 0).map fun x => (x.2, x.1) := by rw [← hp]; simp
  have hf := Go.Great.fill_whole hsz vs ((Array.range (n * size)).map (z.cells[· % z.cells.size]!)) h1 (by simp [hn])
  have hrun := run_buildSlice (P := P) w t e n (parts.map fun (i, x) => (i, ρ x)) _ i z ht hi hz (by rw [hi1]; omega) (by rw [hi1]; exact Nat.ne_of_gt (Nat.mul_pos hpos hsz)) (by rw [hi1, e1]; exact hf)
  unfold execOp; rw [ho]
  simp [hrun, Result.andThen]
theorem bs {r : Option (Option Nat)} {P : Program} {ops : Array Oper} {rest : List Oper} {o : Oper} {Q : Exit → Act → World → Prop} {N : Nat} {u : Nat → Value} {ds : List Deferred} {w : World} (hg : Region.wanted o (yielded ops (fr N u)) = true) {d : Nat} (hd : o.dst = some d) {t e : TypeId} {n : Nat} {parts : Array (Nat × Operand)} (ho : o.op = .buildSlice t n parts) {size bytes : Nat} {z : Value} (ht : P.underlying t = some (.slice e)) (hinfo : (P.info? e).map (fun i => (i.zero, i.size, i.bytes)) = some (some z, size, bytes)) (hzs : z.cells.size = size) (hsz : 0 < size)
    {vs : List Value} (hp : (parts.toList.map fun (i, x) => (i, opv N u x)) = (vs.zipIdx 0).map fun x => (x.2, x.1)) (hn : vs.length = n) (hpos : 0 < n) (hsm : n * size ≤ 16777216) (h1 : ∀ v ∈ vs, v.cells.size = size) {cs : List Value} (hcs : (vs.flatMap fun v => v.cells.toList) = cs)
    (h : ∀ w', Blk w' w.heap.size e cs → Below w.heap.size w w' → w.heap.size < w'.heap.size → wpS r P ops Q rest (act N (upd u d (.slice (some ⟨w.heap.size, 0, none⟩) n n)) ds) w') : wpS r P ops Q (o :: rest) (act N u ds) w :=
  sv hg hd (x_bs ho ht hinfo hzs hsz hp hn hpos hsm h1 hcs) (h _ (Blk.new w cs e) (below_al w _) (lt_al w _))
/-- An empty slice literal. -/
theorem x_bs0 {P : Program} {o : Oper} {ρ : Operand → Value} {w : World} {t e : TypeId} (ho : o.op = .buildSlice t 0 #[]) (ht : P.underlying t = some (.slice e)) {sz : Nat} (hs : (P.info? e).map (fun i => i.size) = some sz) : (execOp ρ o).run P w = .ok (.value (.slice (some ⟨w.heap.size, 0, none⟩) 0 0)) (w.alloc (.cells #[] e)) := by
  unfold execOp; rw [ho]
  simp [Instr.buildSlice, run_underlying ht, Cop.run_sizeOf hs, Instr.fill, newRow, newObj, Result.andThen, go_sem]
  rfl
theorem all_nil {p : Value → Prop} : ∀ v ∈ ([] : List Value), p v := by intro u h; cases h
theorem all_cons {p : Value → Prop} {v : Value} {l : List Value} (h : p v) (hl : ∀ u ∈ l, p u) : ∀ u ∈ v :: l, p u := by
  intro u hu
  rcases List.mem_cons.1 hu with rfl | hu
  · exact h
  · exact hl u hu
theorem lc {α : Type} {a b : α} {l m : List α} (h : a = b) (hl : l = m) : a :: l = b :: m := by rw [h, hl]
theorem none_or {o : Option Nat} (v : Nat) : (none : Option Nat) = none ∨ o ≠ some v := .inl rfl
theorem own_ne {a b : Option Nat} (h : ∀ x y, a = some x → b = some y → x ≠ y) : a = none ∨ a ≠ b := by
  cases a with
  | none => exact .inl rfl
  | some x => exact .inr (fun e => h x x rfl e.symm rfl)
theorem bd {ρ : Operand → Value} {x : Operand} {k : IntKind} {h l : Nat} (hx : ρ x = .int k (h : Int)) : (some x).map ρ = none ∧ h = l ∨ ∃ k, (some x).map ρ = some (.int k (h : Int)) := .inr ⟨k, congrArg some hx⟩
theorem pr {α β : Type} {i : α} {a b : β} (h : a = b) : (i, a) = (i, b) := by rw [h]
theorem ie {k : IntKind} {a b : Int} (h : a = b) : Value.int k a = Value.int k b := by rw [h]
/-! ### Ends -/
section
variable {P : Program} {fn : Func} {R : Ending → World → Prop} {N : Nat} {u : Nat → Value} {w : World}
/-- What a result's place holds. -/
def RdV (P : Program) (N : Nat) (u : Nat → Value) (w : World) : ResultVar → Value → Prop
  | .tmp t, v => opv N u (.tmp t) = v
  | .cell a ty, v => ∃ ad, opv N u (.tmp a) = .pointer (some ad) ∧ (loadVar ty ad).run P w = .ok v w
theorem rdt {t : Tmp} {v : Value} (h : opv N u (.tmp t) = v) : RdV P N u w (.tmp t) v := h
theorem rdc {a : Tmp} {ty : TypeId} {ad : Addr} {v : Value} (h : opv N u (.tmp a) = .pointer (some ad)) (hl : (loadVar ty ad).run P w = .ok v w) : RdV P N u w (.cell a ty) v := ⟨ad, h, hl⟩
theorem res0 (hf : fn.results = #[]) : (results fn (fr N u)).run P w = .ok (.tuple #[]) w := by simp [results, hf]
theorem rdv_t {t : Tmp} {v : Value} (h : RdV P N u w (.tmp t) v) : (fr N u)[t]?.getD undef = v := by
  have := fr_getD N u t
  rw [Array.getD_eq_getD_getElem?] at this
  exact this.trans h
theorem rdv_c {a : Tmp} {ty : TypeId} {v : Value} (h : RdV P N u w (.cell a ty) v) : ∃ ad, (fr N u)[a]?.getD undef = .pointer (some ad) ∧ (loadVar ty ad).run P w = .ok v w := by
  obtain ⟨ad, h1, h2⟩ := h
  have := fr_getD N u a
  rw [Array.getD_eq_getD_getElem?] at this
  exact ⟨ad, this.trans h1, h2⟩
theorem res1 {r1 : ResultVar} (hf : fn.results = #[r1]) {v1 : Value} (h1 : RdV P N u w r1 v1) : (results fn (fr N u)).run P w = .ok v1 w := by
  rcases r1 with t | ⟨a, ty⟩
  · simp [results, hf, rdv_t h1]
  · obtain ⟨ad, e, hl⟩ := rdv_c h1
    simp [results, hf, e, asAddr, hl, Result.andThen]
theorem res2 {r1 r2 : ResultVar} (hf : fn.results = #[r1, r2]) {v1 v2 : Value} (h1 : RdV P N u w r1 v1) (h2 : RdV P N u w r2 v2) : (results fn (fr N u)).run P w = .ok (.tuple #[v1, v2]) w := by
  rcases r1 with t | ⟨a, ty⟩ <;> rcases r2 with t2 | ⟨a2, ty2⟩
  · simp [results, hf, rdv_t h1, rdv_t h2]
  · obtain ⟨ad, e, hl⟩ := rdv_c h2
    simp [results, hf, rdv_t h1, e, asAddr, hl, Result.andThen]
  · obtain ⟨ad, e, hl⟩ := rdv_c h1
    simp [results, hf, rdv_t h2, e, asAddr, hl, Result.andThen]
  · obtain ⟨ad, e, hl⟩ := rdv_c h1
    obtain ⟨ad2, e2, hl2⟩ := rdv_c h2
    simp [results, hf, e, e2, asAddr, hl, hl2, Result.andThen]
theorem res3 {r1 r2 r3 : ResultVar} (hf : fn.results = #[r1, r2, r3]) {v1 v2 v3 : Value} (h1 : RdV P N u w r1 v1) (h2 : RdV P N u w r2 v2) (h3 : RdV P N u w r3 v3) : (results fn (fr N u)).run P w = .ok (.tuple #[v1, v2, v3]) w := by
  rcases r1 with t1 | ⟨a1, ty1⟩
  · have k1 := rdv_t h1
    rcases r2 with t2 | ⟨a2, ty2⟩
    · have k2 := rdv_t h2
      rcases r3 with t3 | ⟨a3, ty3⟩
      · have k3 := rdv_t h3
        simp [results, hf, k1, k2, k3, asAddr, Result.andThen]
      · obtain ⟨ad3, k3, l3⟩ := rdv_c h3
        simp [results, hf, k1, k2, k3, l3, asAddr, Result.andThen]
    · obtain ⟨ad2, k2, l2⟩ := rdv_c h2
      rcases r3 with t3 | ⟨a3, ty3⟩
      · have k3 := rdv_t h3
        simp [results, hf, k1, k2, l2, k3, asAddr, Result.andThen]
      · obtain ⟨ad3, k3, l3⟩ := rdv_c h3
        simp [results, hf, k1, k2, l2, k3, l3, asAddr, Result.andThen]
  · obtain ⟨ad1, k1, l1⟩ := rdv_c h1
    rcases r2 with t2 | ⟨a2, ty2⟩
    · have k2 := rdv_t h2
      rcases r3 with t3 | ⟨a3, ty3⟩
      · have k3 := rdv_t h3
        simp [results, hf, k1, l1, k2, k3, asAddr, Result.andThen]
      · obtain ⟨ad3, k3, l3⟩ := rdv_c h3
        simp [results, hf, k1, l1, k2, k3, l3, asAddr, Result.andThen]
    · obtain ⟨ad2, k2, l2⟩ := rdv_c h2
      rcases r3 with t3 | ⟨a3, ty3⟩
      · have k3 := rdv_t h3
        simp [results, hf, k1, l1, k2, l2, k3, asAddr, Result.andThen]
      · obtain ⟨ad3, k3, l3⟩ := rdv_c h3
        simp [results, hf, k1, l1, k2, l2, k3, l3, asAddr, Result.andThen]
theorem ret {v : Value} (hr : (results fn (fr N u)).run P w = .ok v w) (hR : R (.returned v) w) : bodyPost P fn R .ret (act N u []) w := bodyPost_ret hr rfl hR
theorem fin {v : Value} (hr : (results fn (fr N u)).run P w = .ok v w) (hR : R (.returned v) w) : bodyPost P fn R .normal (act N u []) w := bodyPost_end hr rfl hR
theorem lvB {t : TypeId} (hagg : ∀ w, (isAgg t).run P w = .ok true w) {sz : Nat} (hs : (P.info? t).map (fun i => i.size) = some sz) {g : Nat} {t' : TypeId} {cs : List Value} (hb : Blk w g t' cs) (hl : cs.length = sz) {v : Value} (hv : Value.agg cs.toArray = v) : (loadVar t ⟨g, 0, none⟩).run P w = .ok v w := by
  subst hv
  have hld := run_loadCells_list (P := P) w ⟨g, 0, none⟩ cs (fun j u hu => by rw [addr_add, hb.cell]; exact hu)
  rw [hl] at hld
  simp [loadVar, hagg, Cop.run_sizeOf hs, hld, Result.andThen]
theorem lv1 {t : TypeId} (hagg : ∀ w, (isAgg t).run P w = .ok false w) {ad : Addr} {v : Value} (hc : w.cell? ad = some v) : (loadVar t ad).run P w = .ok v w := by
  have hl : (load ad).run P w = .ok v w := by simp [go_sem, hc]
  simp [loadVar, hagg, hl, Result.andThen]
end
/-! ### Panics, deferred closures, recover -/
section
variable {r : Option (Option Nat)} {P : Program} {ops : Array Oper} {rest : List Oper} {o : Oper} {Q : Exit → Act → World → Prop} {N : Nat} {u : Nat → Value} {ds : List Deferred} {w : World} {ρ : Operand → Value}
theorem x_panic {x : Operand} (ho : o.op = .panic x) {t : TypeId} {v : Value} (hx : ρ x = .iface t v) : (execOp ρ o).run P w = .halt (.panic (.iface t v)) w := by
  unfold execOp; rw [ho]; simp only [hx]; rfl
theorem x_ta {x : Operand} {t t2 : TypeId} {b : Bool} (ho : o.op = .typeAssert x t t2 b) {a v : Value} (hx : ρ x = a) (hr : (Instr.typeAssert a t t2 b).run P w = .ok v w) : (execOp ρ o).run P w = .ok (.value v) w := by
  subst hx; unfold execOp; rw [ho]; simp [hr, Result.andThen]
theorem x_mf {F : FuncId} {xs : Array Operand} (ho : o.op = .makeFunc (.func F) #[] xs) {cap : List Value} (hx : xs.toList.map ρ = cap) : (execOp ρ o).run P w = .ok (.value (.func (.func F) #[] cap.toArray)) w := by
  have e : xs.map ρ = cap.toArray := by rw [← hx, ← List.map_toArray]
  unfold execOp; rw [ho]; simp [Instr.makeFunc, e]
theorem x_df {f : Operand} (ho : o.op = .defer { callee := .value f, args := #[], argTypes := #[] }) {F : FuncId} {cap : Array Value} (hf : ρ f = .func (.func F) #[] cap) : (execOp ρ o).run P w = .ok (.defer { target := .fn (.func F) cap, args := #[] }) w := by
  unfold execOp; rw [ho]; simp [resolve, hf, Deferred.ofValue]
theorem sd (hg : Region.wanted o (yielded ops (fr N u)) = true) (hd : o.dst = none) {D : Deferred} {w' : World} (hr : (execOp (opv N u) o).run P w = .ok (.defer D) w') (h : wpS none P ops Q rest (act N u (D :: ds)) w') : wpS none P ops Q (o :: rest) (act N u ds) w := by
  refine wpS_run (a := act N u ds) hg ?_
  unfold opC Oper.wp
  rw [eval_act, hr, Oper.upon_defer, hd]
  exact h
theorem aft_p {K : Act → World → Prop} {dst : Option Tmp} {c : List PanicEntry} {w' : World} (h : Q (.panic c) (act N u ds) w') : aft K Q N u ds dst (.panicked c) w' := h
theorem opsS_of {P : Program} {ops : Array Oper} {Q : Exit → Act → World → Prop} {cs : List Frame} : ∀ (l : List Oper) (k : Nat), (∀ j, l[j]? = ops[k + j]?) → ∀ (a : Act) (w : World), wpS none P ops Q l a w → wpOpsS P ops (fun e a' cs' w' => cs' = cs ∧ Q e a' w') (List.range' k l.length) a cs w := by
  intro l
  induction l with
  | nil => intro k _ a w h; exact ⟨rfl, wpS_nil h⟩
  | cons o l ih =>
    intro k h a w hw
    have h0 : ops[k]? = some o := by simpa using (h 0).symm
    have ih' := ih (k + 1) (fun j => by have := h (j + 1); simpa [Nat.add_assoc, Nat.add_comm 1 j] using this)
    have hw := wpS_open hw
    simp only [List.length_cons, List.range'_succ, wpOpsS, h0]
    split
    · rename_i hwd
      rw [if_pos hwd] at hw
      have hw := Oper.wp_mono (fun a w h => ih' a w h) hw
      unfold Oper.wp at hw
      split
      · rename_i w' hr
        rw [hr] at hw
        exact hw.elim
      · rename_i r hr
        generalize (execOp a.eval o).run P w = r at hw hr
        unfold Oper.upon at hw ⊢
        split at hw
        · exact hw
        · exact hw
        · exact hw
        · rename_i f args w'
          refine Calls.mono hw fun e w'' hR => ?_
          cases e with
          | returned v => exact hR
          | panicked c => exact ⟨trivial, hR⟩
          | outgrown => obtain ⟨a, w, h⟩ := hR; exact ⟨a, w, trivial, h⟩
        · exact hw
        · exact ⟨trivial, hw⟩
        · exact hw.elim
    · rename_i hwd
      rw [if_neg hwd] at hw
      exact ih' _ _ hw
/-- A deferred closure that begins with recover(): of a frame that panics or returns. -/
theorem enterS {f : FuncId} {fn : Func} {id : Nat} {o : Oper} {l : List Oper} {c2 : Code} {args : List Value} {R : Ending → FrameMode → World → Prop} {u₀ u₁ : FrameMode} {x : Value} (hf : P.funcs[f]? = some fn) (hb : fn.body = some (.seq (.region id (o :: l).toArray false) c2)) (N : Nat) (hn : fn.ntmps = N) (hl : args.length ≤ N)
    (hg : o.guard = none) {ts : Array TypeId} (ho : o.op = .call { callee := .builtin .recover, args := #[], argTypes := ts }) {d : Tmp} (hd : o.dst = some d)
    (hx : (∃ v older, u₀ = .panicking ({ v, recovered := false } :: older) ∧ x = v ∧ u₁ = .panicking ({ v, recovered := true } :: older)) ∨ (u₀ = .returning ∧ x = .nilIface ∧ u₁ = .returning))
    (h : wpS none P (o :: l).toArray (Exit.then (c2.wp P (bodyPost P fn fun e w' => R e u₁ w')) (bodyPost P fn fun e w' => R e u₁ w')) l (act N (upd (ini args) d x) []) w) : CallsD P f args.toArray u₀ w R := by
  refine callsD_of_wpS hf hb fun c₀ cs hu => ?_
  rw [hn, ini_frame args N hl]
  have hrun : (execOp (opv N (ini args)) o).run P w = .ok .recover w := by
    unfold execOp; rw [ho]; simp [resolve, invoke, builtin]
  have hQ : ∀ e a' w', bodyPost P fn (fun e w' => R e u₁ w') e a' w' → bodyPostS P fn c₀ cs R e a' ({ c₀ with mode := u₁ } :: cs) w' := by
    intro e a' w' hb
    cases e with
    | normal => obtain ⟨h1, v, h2, h3⟩ := hb; exact ⟨h1, u₁, rfl, v, h2, h3⟩
    | ret => obtain ⟨h1, v, h2, h3⟩ := hb; exact ⟨h1, u₁, rfl, v, h2, h3⟩
    | panic ch => obtain ⟨h1, h2⟩ := hb; exact ⟨h1, u₁, rfl, h2⟩
    | outgrown => exact ⟨u₁, hb⟩
    | exit i => exact hb.elim
    | goto i => exact hb.elim
  have hrec : wpOpsS P (o :: l).toArray (Exit.thenS (c2.wpS P (bodyPostS P fn c₀ cs R)) (bodyPostS P fn c₀ cs R)) (List.range' 1 l.length) (act N (upd (ini args) d x) []) ({ c₀ with mode := u₁ } :: cs) w := by
    have h1 := opsS_of (cs := { c₀ with mode := u₁ } :: cs) l 1 (fun j => by simp [Nat.add_comm 1 j]) _ _ h
    have hm : ∀ (is : List Nat) (a : Act) (cs2 : List Frame) (w : World), wpOpsS P (o :: l).toArray (fun e a' cs' w' => cs' = { c₀ with mode := u₁ } :: cs ∧ (Exit.then (c2.wp P (bodyPost P fn fun e w' => R e u₁ w')) (bodyPost P fn fun e w' => R e u₁ w')) e a' w') is a cs2 w → wpOpsS P (o :: l).toArray (Exit.thenS (c2.wpS P (bodyPostS P fn c₀ cs R)) (bodyPostS P fn c₀ cs R)) is a cs2 w := by
      intro is
      induction is with
      | nil =>
        rintro a cs2 w ⟨rfl, hq⟩
        exact wpS_of_wp (wp_mono hq hQ)
      | cons i is ih =>
        intro a cs2 w hh
        simp only [wpOpsS] at hh ⊢
        split
        · rename_i hn; simp only [hn] at hh; exact ih _ _ _ hh
        · rename_i o' ho'
          simp only [ho'] at hh
          split
          · rename_i hwd
            rw [if_pos hwd] at hh
            split at hh
            · split at hh
              · rename_i hr; exact ih _ _ _ hh
              · exact ih _ _ _ hh
            · unfold Oper.upon at hh ⊢
              split at hh
              · exact ih _ _ _ hh
              · exact ih _ _ _ hh
              · exact ih _ _ _ hh
              · refine Calls.mono hh fun e w'' hR => ?_
                cases e with
                | returned v => exact ih _ _ _ hR
                | panicked c => exact (by obtain ⟨rfl, hq⟩ := hR; exact hQ (.panic c) a _ hq)
                | outgrown => obtain ⟨a, w, rfl, hq⟩ := hR; exact ⟨a, w, hQ .outgrown a w hq⟩
              · exact Rows.mono hh fun v w'' hR => ih _ _ _ hR
              · obtain ⟨rfl, hq⟩ := hh; exact hQ (.panic _) _ _ hq
              · exact hh.elim
          · rename_i hwd
            rw [if_neg hwd] at hh
            exact ih _ _ _ hh
    exact hm _ _ _ _ h1
  apply wpS_seq
  apply wpS_region
  have hr0 : List.range (o :: l).toArray.size = 0 :: List.range' 1 l.length := by
    rw [List.range_eq_range']
    simp [List.range'_succ]
  rw [hr0]
  simp only [wpOpsS, List.getElem?_toArray, List.getElem?_cons_zero]
  have hwd : Region.wanted o (yielded (o :: l).toArray (fr N (ini args))) = true := by simp [Region.wanted, hg]
  have hwd2 : Region.wanted o (yielded (o :: l).toArray ({ tmps := fr N (ini args), defers := [] } : Act).tmps) = true := hwd
  rw [if_pos hwd2]
  have hev : ({ tmps := fr N (ini args), defers := [] } : Act).eval = opv N (ini args) := eval_act N (ini args) []
  rw [hev, hrun]
  have hput : ∀ v, ({ tmps := fr N (ini args), defers := [] } : Act).put o.dst v = act N (upd (ini args) d v) [] := by
    intro v; rw [hd]; exact put_act N (ini args) [] d v
  rcases hx with ⟨v, older, h1, rfl, h2⟩ | ⟨h1, rfl, h2⟩
  · subst h2
    have : recoverD (c₀ :: cs) = some (x, { c₀ with mode := .panicking ({ v := x, recovered := true } :: older) } :: cs) := by
      unfold recoverD
      simp [hu, h1]
    simp only [this]
    rw [hput]; exact hrec
  · subst h2
    have : recoverD (c₀ :: cs) = none := by
      unfold recoverD
      simp [hu, h1]
    simp only [this]
    rw [hput]
    have hc : ({ c₀ with mode := .returning } : Frame) = c₀ := by
      cases c₀; simp at hu; subst hu; simp [h1]
    rw [hc] at hrec
    exact hrec
theorem leaveR {fn : Func} {R : Ending → World → Prop} {F : FuncId} {cap : List Value} {X : World → Prop} (he : Entr P F) (hc : CallsD P F cap.toArray .returning w fun e u' w' => (∃ v, e = .returned v) ∧ u' = .returning ∧ X w')
    (h : ∀ w', X w' → ∃ v, (results fn (fr N u)).run P w' = .ok v w' ∧ R (.returned v) w') : bodyPostD P fn R .ret (act N u [{ target := .fn (.func F) cap.toArray, args := #[] }]) w := by
  refine leaves_cons (f := F) (args := cap.toArray) (by simp) (by simp [invoke, run_entr he]) ?_
  refine CallsD.mono hc ?_
  rintro e u' w' ⟨⟨v, rfl⟩, rfl, hX⟩
  obtain ⟨v, h1, h2⟩ := h w' hX
  exact ⟨v, h1, h2⟩
theorem leaveP {fn : Func} {R : Ending → World → Prop} {F : FuncId} {cap : List Value} {x : Value} {X : World → Prop} (he : Entr P F) (hc : CallsD P F cap.toArray (.panicking [{ v := x, recovered := false }]) w fun e u' w' => (∃ v, e = .returned v) ∧ u' = .panicking [{ v := x, recovered := true }] ∧ X w')
    (h : ∀ w', X w' → ∃ v, (results fn (fr N u)).run P w' = .ok v w' ∧ R (.returned v) w') : bodyPostD P fn R (.panic [{ v := x, recovered := false }]) (act N u [{ target := .fn (.func F) cap.toArray, args := #[] }]) w := by
  refine leaves_cons (f := F) (args := cap.toArray) (by simp) (by simp [invoke, run_entr he]) ?_
  refine CallsD.mono hc ?_
  rintro e u' w' ⟨⟨v, rfl⟩, rfl, hX⟩
  obtain ⟨v, h1, h2⟩ := h w' hX
  exact ⟨v, h1, h2⟩
end
end Go.Proofs.YtnecgoahdkfbeaaDoor.Eng
