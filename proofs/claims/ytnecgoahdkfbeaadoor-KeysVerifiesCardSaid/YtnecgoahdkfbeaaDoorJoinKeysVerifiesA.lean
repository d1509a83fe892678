/- Several texts in one: EngL; EngF; Roo; Vfy; Rot; Ro4; TilD; EngQ. -/
import Derived.Laws.Tables
import Derived.Test.YtnecgoahdkfbeaaDoorEngT
import Derived.RangeFuncNested
import Derived.RangeFuncBound
import Derived.Test.YtnecgoahdkfbeaaDoorTreP
import Derived.Test.YtnecgoahdkfbeaaDoorVfyP
import Derived.Test.YtnecgoahdkfbeaaDoorEng
import Derived.Test.YtnecgoahdkfbeaaDoorEngS
section
namespace Go.Proofs.YtnecgoahdkfbeaaDoor.Eng
open Go Go.RowKit Go.Proofs.YtnecgoahdkfbeaaDoor.Cop Go.Proofs.YtnecgoahdkfbeaaDoor.Oct Go.Proofs.YtnecgoahdkfbeaaDoor.Dsl
set_option linter.unusedVariables false
set_option linter.unusedSimpArgs false
/-- A slice whose elements are told by 'enc': sz cells each. -/
def RowL {α : Type} (sz : Nat) (enc : α → List Value) (w : World) (v : Value) (l : List α) : Prop := Row w v l.length (l.flatMap enc) ∧ ∀ a ∈ l, (enc a).length = sz
/-- .. of the call's own. -/
def OwnL {α : Type} (T : TypeId) (sz : Nat) (enc : α → List Value) (base : Nat) (w : World) (v : Value) (l : List α) : Prop := w.ownsRow base T sz v l.length (l.flatMap enc) ∧ ∀ a ∈ l, (enc a).length = sz
section
variable {α : Type} {T : TypeId} {sz : Nat} {enc : α → List Value} {base : Nat} {w w' : World} {v : Value} {l : List α}
theorem OwnL.rl (h : OwnL T sz enc base w v l) : RowL sz enc w v l := ⟨Row.of_own h.1, h.2⟩
theorem OwnL.row (h : OwnL T sz enc base w v l) : Row w v l.length (l.flatMap enc) := Row.of_own h.1
theorem OwnL.below (h : OwnL T sz enc base w v l) (hb : Below w.heap.size w w') : OwnL T sz enc base w' v l := ⟨own_below h.1 hb, h.2⟩
theorem OwnL.kept (h : OwnL T sz enc base w v l) {row : Option Nat} (hg : w.grownBy w' row) (hne : v.ownBlock = none ∨ v.ownBlock ≠ row) : OwnL T sz enc base w' v l := ⟨World.ownsRow.kept h.1 hg hne, h.2⟩
theorem OwnL.grL {E : List Nat} (h : OwnL T sz enc base w v l) (hg : GrL E w w') (hn : ∀ g, v.ownBlock = some g → g ∉ E) : OwnL T sz enc base w' v l := ⟨own_grL h.1 hg hn, h.2⟩
theorem OwnL.mono {b2 : Nat} (h : OwnL T sz enc base w v l) (hb : b2 ≤ base) : OwnL T sz enc b2 w v l := ⟨own_mono h.1 hb, h.2⟩
theorem OwnL.nil (T : TypeId) (sz : Nat) (enc : α → List Value) (base : Nat) (w : World) : OwnL T sz enc base w (.slice none 0 0) [] := ⟨World.ownsRow_nil _ _ _ _, by intro d h; cases h⟩
theorem RowL.below (h : RowL sz enc w v l) (hb : Below w.heap.size w w') : RowL sz enc w' v l := ⟨h.1.below hb, h.2⟩
theorem RowL.nil (sz : Nat) (enc : α → List Value) (w : World) : RowL sz enc w (.slice none 0 0) [] := ⟨Row.nil w, by intro d h; cases h⟩
theorem flat_len (h : ∀ a ∈ l, (enc a).length = sz) : (l.flatMap enc).length = l.length * sz := by
  induction l with
  | nil => simp
  | cons a l ih =>
    rw [List.flatMap_cons, List.length_append, h a (by simp), ih fun x hx => h x (by simp [hx]), List.length_cons, Nat.add_mul, Nat.one_mul, Nat.add_comm]
theorem flat_at (h : ∀ a ∈ l, (enc a).length = sz) (d : α) {j k : Nat} (hj : j < l.length) (hk : k < sz) : (l.flatMap enc)[j * sz + k]? = (enc (l.getD j d))[k]? := by
  induction l generalizing j with
  | nil => simp at hj
  | cons a l ih =>
    have ha := h a (by simp)
    rw [List.flatMap_cons]
    cases j with
    | zero =>
      rw [Nat.zero_mul, Nat.zero_add, List.getElem?_append_left (by omega)]
      rfl
    | succ j =>
      rw [List.getElem?_append_right (by rw [ha, Nat.add_mul, Nat.one_mul]; omega), ha, show (j + 1) * sz + k - sz = j * sz + k by rw [Nat.add_mul, Nat.one_mul]; omega, ih (fun x hx => h x (by simp [hx])) (by simpa using hj)]
      rfl
theorem enc_len (h : ∀ a ∈ l, (enc a).length = sz) (d : α) {j : Nat} (hj : j < l.length) : (enc (l.getD j d)).length = sz := by
  rw [List.getD_eq_getElem?_getD, List.getElem?_eq_getElem hj]
  exact h _ (List.getElem_mem hj)
theorem addr_add2 (a : Addr) (x y : Nat) : (a.add x).add y = a.add (x + y) := by unfold Addr.add; by_cases ha : x = 0 <;> by_cases hb : y = 0 <;> simp [ha, hb, Nat.add_assoc]
theorem len_cons {cs : List Value} {n : Nat} (v : Value) (h : cs.length = n) : (v :: cs).length = n + 1 := by rw [List.length_cons, h]
theorem len_dg {d : List UInt8} (h : d.length = 32) : (bcs d).length = 32 := (bcs_length _).trans h
theorem len_app {a b : List Value} {n m : Nat} (ha : a.length = n) (hb : b.length = m) : (a ++ b).length = n + m := by rw [List.length_append, ha, hb]
theorem getD_mem {α : Type} {l : List α} {d : α} {j : Nat} (h : j < l.length) : l.getD j d ∈ l := by
  rw [List.getD_eq_getElem?_getD, List.getElem?_eq_getElem h]; exact List.getElem_mem h
/-- A cell of an element. -/
theorem rl_cell (h : RowL sz enc w v l) (d : α) {j k : Nat} {u : Value} (hj : j < l.length) (hu : (enc (l.getD j d))[k]? = some u) : w.cell? (((sAddr v).add (j * sz)).add k) = some u := by
  have hk : k < sz := by
    have := (List.getElem?_eq_some_iff.1 hu).1
    rw [enc_len h.2 d hj] at this; exact this
  rw [addr_add2]
  exact Row.addr h.1 (by rw [flat_at h.2 d hj hk]; exact hu)
theorem rl_cell0 (h : RowL sz enc w v l) (d : α) {j : Nat} {u : Value} (hj : j < l.length) (hu : (enc (l.getD j d))[0]? = some u) : w.cell? ((sAddr v).add (j * sz)) = some u := by
  have := rl_cell h d hj hu
  rw [addr_add2, Nat.add_zero] at this; exact this
/-- The whole element. -/
theorem rl_elem (h : RowL sz enc w v l) (d : α) {j : Nat} (hj : j < l.length) : ∀ k u, (enc (l.getD j d))[k]? = some u → w.cell? (((sAddr v).add (j * sz)).add k) = some u := fun k u hu => rl_cell h d hj hu
/-- A part of the element, from one cell on. -/
theorem rl_part (h : RowL sz enc w v l) (d : α) {j off : Nat} {pre mid post : List Value} (hj : j < l.length) (he : enc (l.getD j d) = pre ++ (mid ++ post)) (ho : pre.length = off) : ∀ k u, mid[k]? = some u → w.cell? ((((sAddr v).add (j * sz)).add off).add k) = some u := by
  intro k u hu
  rw [addr_add2 _ off k]
  refine rl_cell h d hj ?_
  rw [he, List.getElem?_append_right (by omega), ho, Nat.add_sub_cancel_left, List.getElem?_append_left (List.getElem?_eq_some_iff.1 hu).1]
  exact hu
/-- .. of a block. -/
theorem blk_part {g off : Nat} {t : TypeId} {pre mid post : List Value} (h : Blk w g t (pre ++ (mid ++ post))) (ho : pre.length = off) : ∀ k u, mid[k]? = some u → w.cell? ((⟨g, off, none⟩ : Addr).add k) = some u := by
  intro k u hu
  have e : (⟨g, off, none⟩ : Addr).add k = ⟨g, off + k, none⟩ := by unfold Addr.add; by_cases hk : k = 0 <;> simp [hk]
  rw [e, h.cell, List.getElem?_append_right (by omega), ho, Nat.add_sub_cancel_left, List.getElem?_append_left (List.getElem?_eq_some_iff.1 hu).1]
  exact hu
theorem rl_tail (h : RowL sz enc w v l) (d : α) {j off : Nat} {pre mid : List Value} (hj : j < l.length) (he : enc (l.getD j d) = pre ++ mid) (ho : pre.length = off) : ∀ k u, mid[k]? = some u → w.cell? ((((sAddr v).add (j * sz)).add off).add k) = some u :=
  rl_part h d (post := []) hj (by rw [he, List.append_nil]) ho
theorem blk_tail {g off : Nat} {t : TypeId} {pre mid : List Value} (h : Blk w g t (pre ++ mid)) (ho : pre.length = off) : ∀ k u, mid[k]? = some u → w.cell? ((⟨g, off, none⟩ : Addr).add k) = some u :=
  blk_part (post := []) (by rw [List.append_nil]; exact h) ho
theorem blk_head {g : Nat} {t : TypeId} {mid post : List Value} (h : Blk w g t (mid ++ post)) : ∀ k u, mid[k]? = some u → w.cell? ((⟨g, 0, none⟩ : Addr).add k) = some u :=
  blk_part (pre := []) h rfl
theorem one_app {a b : List Value} (ha : ∀ u ∈ a, u.oneCell' = true) (hb : ∀ u ∈ b, u.oneCell' = true) : ∀ u ∈ a ++ b, u.oneCell' = true := fun u hu => (List.mem_append.1 hu).elim (ha u) (hb u)
theorem flat_take (h : ∀ a ∈ l, (enc a).length = sz) (n : Nat) : (l.flatMap enc).take (n * sz) = (l.take n).flatMap enc ∧ (l.flatMap enc).drop (n * sz) = (l.drop n).flatMap enc := by
  induction l generalizing n with
  | nil => simp
  | cons a l ih =>
    have ha := h a (by simp)
    have ih' := ih fun x hx => h x (by simp [hx])
    cases n with
    | zero => simp
    | succ n =>
      rw [List.flatMap_cons, List.take_append, List.drop_append, ha, show (n + 1) * sz - sz = n * sz by rw [Nat.add_mul, Nat.one_mul]; omega, List.take_of_length_le (by rw [ha, Nat.add_mul, Nat.one_mul]; omega), List.drop_eq_nil_of_le (by rw [ha, Nat.add_mul, Nat.one_mul]; omega), (ih' n).1, (ih' n).2]
      exact ⟨rfl, rfl⟩
theorem rl_cut (h : RowL sz enc w v l) {a b : Nat} (h1 : a ≤ b) (h2 : b ≤ l.length) : RowL sz enc w (sCut v a b sz) ((l.drop a).take (b - a)) := by
  have := Row.cut h.1 (sz := sz) (flat_len h.2) h1 h2
  have e : ((l.drop a).take (b - a)).length = b - a := by rw [List.length_take, List.length_drop]; omega
  refine ⟨?_, fun d hd => h.2 d (List.mem_of_mem_drop (List.mem_of_mem_take hd))⟩
  rw [e]
  rw [(flat_take h.2 a).2, (flat_take (l := l.drop a) (fun d hd => h.2 d (List.mem_of_mem_drop hd)) (b - a)).1] at this
  exact this
theorem rl_pre (h : RowL sz enc w v l) {n : Nat} (hn : n ≤ l.length) : RowL sz enc w (sCut v 0 n sz) (l.take n) := by
  have := rl_cut h (Nat.zero_le n) hn
  simpa using this
/-- The beginning of a slice of the call's own is its own too. -/
theorem ol_pre (h : OwnL T sz enc base w v l) {n : Nat} (hn : n ≤ l.length) : OwnL T sz enc base w (sCut v 0 n sz) (l.take n) ∧ (sCut v 0 n sz).ownBlock = v.ownBlock := by
  have hl : (l.take n).length = n := by rw [List.length_take]; omega
  obtain ⟨⟨h1, h3⟩, h2⟩ := h
  have h2' : ∀ a ∈ l.take n, (enc a).length = sz := fun d hd => h2 d (List.mem_of_mem_take hd)
  have hlen : ((l.take n).flatMap enc).length = (l.take n).length * sz := flat_len h2'
  rcases h3 with ⟨rfl, h0⟩ | ⟨g, cap, cur, rfl, hb, hg, hn2, hc, hcs, hx⟩
  · have : l = [] := List.eq_nil_of_length_eq_zero h0
    subst this
    have hn0 : n = 0 := by simpa using hn
    subst hn0
    exact ⟨⟨⟨hlen, .inl ⟨rfl, rfl⟩⟩, h2'⟩, rfl⟩
  · have e : sCut (.slice (some ⟨g, 0, none⟩) l.length cap) 0 n sz = .slice (some ⟨g, 0, none⟩) n cap := by
      unfold sCut
      simp only [Nat.zero_mul, Nat.sub_zero]
      split
      · rfl
      · simp [Addr.add]
    rw [e]
    refine ⟨⟨⟨hlen, .inr ⟨g, cap, cur, by rw [hl], hb, hg, by omega, hc, hcs, ?_⟩⟩, h2'⟩, rfl⟩
    rw [hl, ← (flat_take h2 n).1, ← hx, List.take_take, Nat.min_eq_left (Nat.mul_le_mul_right sz hn)]
end
section
variable {r : Option (Option Nat)} {P : Program} {ops : Array Oper} {rest : List Oper} {o : Oper} {Q : Exit → Act → World → Prop} {N : Nat} {u : Nat → Value} {dl : List Deferred} {w : World}
/-- append onto a slice of the call's own. -/
theorem apL {α : Type} {enc : α → List Value} (hg : Region.wanted o (yielded ops (fr N u)) = true) {d : Nat} (hd : o.dst = some d) {s x : Operand} {t e : TypeId} (ho : o.op = .call { callee := .builtin .append, args := #[s, x], argTypes := #[t, t] }) {z : Value} {sz bytes : Nat} (ht : P.underlying t = some (.slice e)) (hinfo : (P.info? e).map (fun i => (i.zero, i.size, i.bytes)) = some (some z, sz, bytes)) (hz : z.cells.size = sz) (hsz : 0 < sz)
    {base : Nat} {v : Value} {l : List α} (hs : opv N u s = v) (hown : OwnL e sz enc base w v l) {y : Value} {m : List α} (hx : opv N u x = y) (hr : RowL sz enc w y m) (h1 : ∀ a ∈ m, ∀ c ∈ enc a, c.oneCell' = true) (hlen : l.length + m.length ≤ maxLen) (hl : (l.length + m.length) * bytes ≤ 140737488355328) (hbase : base ≤ w.heap.size)
    (h : ∀ v' w', OwnL e sz enc base w' v' (l ++ m) → w.grownBy w' v.ownBlock → wpS r P ops Q rest (act N (upd u d v') dl) w') : wpS r P ops Q (o :: rest) (act N u dl) w :=
  ap hg hd ho ht hinfo hz hsz hs hown.1 hx hr.1 (flat_len hr.2) (fun c hc => by obtain ⟨a, ha, hc⟩ := List.mem_flatMap.1 hc; exact h1 a ha c hc) hlen hl hbase
    (fun v' w' g1 g2 => h v' w' ⟨by rw [List.length_append, List.flatMap_append]; exact g1, fun a ha => (List.mem_append.1 ha).elim (hown.2 a) (hr.2 a)⟩ g2)
end
/-- A literal of one element. -/
theorem rl_one {α : Type} {enc : α → List Value} {w : World} {g sz : Nat} {t : TypeId} {a : α} (h : Blk w g t (enc a)) (hl : (enc a).length = sz) : RowL sz enc w (.slice (some ⟨g, 0, none⟩) 1 1) [a] :=
  ⟨by rw [show ([a] : List α).flatMap enc = enc a by simp]; exact h.row 1 (Nat.le_of_ble_eq_true rfl), by intro x hx; simp at hx; subst hx; exact hl⟩
/-! ### Structs that bear digests -/
theorem fold_splice (xs : List Value) : ∀ (off : Nat) (cs : Array Value) (k : Nat), off + xs.length ≤ cs.size → ((xs.zipIdx k).foldl (fun cs (p : Value × Nat) => cs.setIfInBounds (off + (p.2 - k)) p.1) cs).toList = cs.toList.take off ++ xs ++ cs.toList.drop (off + xs.length) := by
  induction xs with
  | nil => intro off cs k h; simp
  | cons x xs ih =>
    intro off cs k h
    simp only [List.length_cons] at h
    rw [List.zipIdx_cons, List.foldl_cons]
    have e : (List.foldl (fun (cs : Array Value) (p : Value × Nat) => cs.setIfInBounds (off + (p.2 - k)) p.1) (cs.setIfInBounds (off + (k - k)) x) (xs.zipIdx (k + 1))) = List.foldl (fun (cs : Array Value) (p : Value × Nat) => cs.setIfInBounds (off + 1 + (p.2 - (k + 1))) p.1) (cs.setIfInBounds off x) (xs.zipIdx (k + 1)) := by
      rw [Nat.sub_self, Nat.add_zero]
      have hm : ∀ (l : List (Value × Nat)) (cs : Array Value), (∀ p ∈ l, k + 1 ≤ p.2) → List.foldl (fun (cs : Array Value) (p : Value × Nat) => cs.setIfInBounds (off + (p.2 - k)) p.1) cs l = List.foldl (fun (cs : Array Value) (p : Value × Nat) => cs.setIfInBounds (off + 1 + (p.2 - (k + 1))) p.1) cs l := by
        intro l
        induction l with
        | nil => intro cs _; rfl
        | cons p l ih2 =>
          intro cs hp
          rw [List.foldl_cons, List.foldl_cons, show off + (p.2 - k) = off + 1 + (p.2 - (k + 1)) by have := hp p (by simp); omega]
          exact ih2 _ fun q hq => hp q (by simp [hq])
      exact hm _ _ fun p hp => (List.mem_zipIdx hp).1
    rw [e, ih (off + 1) _ (k + 1) (by simp; omega)]
    simp only [Array.toList_setIfInBounds]
    have hlt : off < cs.toList.length := by simp; omega
    rw [List.set_eq_take_append_cons_drop, if_pos hlt, List.take_append, List.drop_append]
    have l1 : (cs.toList.take off).length = off := by rw [List.length_take]; omega
    rw [l1, List.take_of_length_le (l := cs.toList.take off) (by rw [l1]; omega), @List.drop_eq_nil_of_le _ (cs.toList.take off) (off + 1 + xs.length) (by rw [l1]; omega), show off + 1 - off = 1 by omega, show off + 1 + xs.length - off = xs.length + 1 by omega]
    simp [List.drop_drop, Nat.add_comm, Nat.add_left_comm, Nat.add_assoc]
theorem fill_step {place : Nat → Option (Nat × Nat)} {cells cells' : Array Value} {i : Nat} {v : Value} {rest : List (Nat × Value)} {off size : Nat} (hp : place i = some (off, size)) {cs : List Value} (hv : v.cells.toList = cs) (hs : cs.length = size) (hle : off + size ≤ cells.size) (hc : cells.toList.take off ++ cs ++ cells.toList.drop (off + size) = cells'.toList) :
    Instr.fill place cells ((i, v) :: rest) = Instr.fill place cells' rest := by
  subst hv
  have hs' : v.cells.size = size := by simpa using hs
  conv => lhs; unfold Instr.fill
  rw [hp]
  simp only [hs', ne_eq, not_true, false_or, decide_false, Bool.false_or, decide_eq_true_eq]
  rw [if_neg (by omega)]
  congr 1
  apply Array.toList_inj.1
  rw [← hc]
  have := fold_splice v.cells.toList off cells 0 (by simp; omega)
  simp only [Nat.sub_zero, Array.length_toList, hs'] at this
  rw [← this]
  congr 1
  have e : v.cells.zipIdx = (v.cells.toList.zipIdx 0).toArray := by
    apply Array.toList_inj.1; simp
  rw [e]
  simp
end Go.Proofs.YtnecgoahdkfbeaaDoor.Eng
end

section
namespace Go.Proofs.YtnecgoahdkfbeaaDoor.Eng
open Go Go.RowKit Go.Proofs.YtnecgoahdkfbeaaDoor.Cop Go.Proofs.YtnecgoahdkfbeaaDoor.Dsl
set_option linter.unusedVariables false
set_option linter.unusedSimpArgs false
theorem fr_fold (N : Nat) : ∀ (l : List (Nat × Value)) (u : Nat → Value), l.foldl (fun (t : Array Value) (p : Nat × Value) => t.setIfInBounds p.1 p.2) (fr N u) = fr N (l.foldl (fun u p => upd u p.1 p.2) u)
  | [], u => rfl
  | p :: l, u => by
    rw [List.foldl_cons, List.foldl_cons, fr_set]
    exact fr_fold N l _
/-- The frame in which a round begins. -/
def updZ (u : Nat → Value) (ps : Array Tmp) (vs : Array Value) : Nat → Value := (ps.zip vs).toList.foldl (fun u p => upd u p.1 p.2) u
/-- What the loop's own book-keeping leaves alone. -/
def Turn (B : Nat) (A : World) (row : Option Nat) : Prop := ∀ r, row = some r → B ≤ r ∧ ∃ o : Obj, A.heap[r]? = some o ∧ o.isCells = false
theorem blkF {A B : World} {g : Nat} {t : TypeId} {cs : List Value} {base : Nat} {row : Option Nat} (h : Blk A g t cs) (hg : A.grownBy B row) (hr : Turn base A row) : Blk B g t cs :=
  h.grown hg (fun e => by
    obtain ⟨_, o, ho, hc⟩ := hr g e.symm
    have h' : A.heap[g]? = _ := h
    rw [h'] at ho
    cases ho; cases hc)
theorem belF {A B w0 : World} {b base : Nat} {row : Option Nat} (h : Below b w0 A) (hg : A.grownBy B row) (hr : Turn base A row) (hb : b ≤ base) (hs : b ≤ A.heap.size) : Below b w0 B :=
  h.grown hg hs (fun k e => Nat.le_trans hb (hr k e).1)
theorem keeps_below {B : Nat} {A C : World} (h : Below A.heap.size A C) : KeepsFrom B A C := ⟨h.size, fun k o _ hk _ => (h.block k (Array.getElem?_eq_some_iff.1 hk).1).trans hk⟩
theorem keeps_grown {B g : Nat} {A C : World} {t : TypeId} {cs : List Value} (hk : Blk A g t cs) (h : A.grownBy C (some g)) : KeepsFrom B A C :=
  ⟨h.size, fun k o _ ho hc => (h.block k (Array.getElem?_eq_some_iff.1 ho).1 (fun e => by
    injection e with e; subst e
    have h' : A.heap[k]? = _ := hk
    rw [h'] at ho; cases ho; cases hc)).trans ho⟩
/-- The block for deferred calls. -/
def Dfr (w : World) (D : Nat) : Prop := w.heap[D]? = some (.deferred (some []))
theorem Dfr.lt {w : World} {D : Nat} (h : Dfr w D) : D < w.heap.size := (Array.getElem?_eq_some_iff.1 h).1
theorem Dfr.below {w w' : World} {D : Nat} (h : Dfr w D) (hb : Below w.heap.size w w') : Dfr w' D := (hb.block D h.lt).trans h
theorem Dfr.grown {w w' : World} {D : Nat} (h : Dfr w D) {row : Option Nat} (hg : w.grownBy w' row) (hne : some D ≠ row) : Dfr w' D := (hg.block D h.lt hne).trans h
theorem Dfr.grL {E : List Nat} {w w' : World} {D : Nat} (h : Dfr w D) (hg : GrL E w w') (hn : D ∉ E) : Dfr w' D := (hg.block D h.lt hn).trans h
/-- Two blocks stand as they stood: what an iterator reads between two rounds. -/
def Two (x y : Nat) (A B : World) : Prop := B.heap[x]? = A.heap[x]? ∧ B.heap[y]? = A.heap[y]?
theorem row_block {w w' : World} {v : Value} {n : Nat} {cs : List Value} (h : Row w v n cs) (hb : ∀ a m c, v = .slice (some a) m c → w'.heap[a.block]? = w.heap[a.block]?) : Row w' v n cs := by
  obtain ⟨ao, cap, rfl, h1, h2, h3, h4⟩ := h
  refine ⟨ao, cap, rfl, h1, h2, h3, fun ad e j u hj => ?_⟩
  have hbk : (ad.add j).block = ad.block := by unfold Addr.add; split <;> rfl
  exact (World.cell?_of_block (by rw [hbk]; exact hb ad n cap (by rw [e]))).trans (h4 ad e j u hj)
theorem Two.refl (x y : Nat) (A : World) : Two x y A A := ⟨rfl, rfl⟩
theorem Two.trans {x y : Nat} {A B C : World} (h : Two x y A B) (k : Two x y B C) : Two x y A C := ⟨k.1.trans h.1, k.2.trans h.2⟩
theorem Two.below {x y : Nat} {A B : World} (h : Below A.heap.size A B) (hx : x < A.heap.size) (hy : y < A.heap.size) : Two x y A B := ⟨h.block x hx, h.block y hy⟩
theorem Two.grown {x y : Nat} {A B : World} {g : Nat} (h : A.grownBy B (some g)) (hx : x < A.heap.size) (hy : y < A.heap.size) (nx : x ≠ g) (ny : y ≠ g) : Two x y A B := ⟨h.block x hx (fun e => nx (Option.some.inj e)), h.block y hy (fun e => ny (Option.some.inj e))⟩
theorem Two.put {x y : Nat} {W : World} {l : Nat} {o' : Obj} (hx : x ≠ l) (hy : y ≠ l) : Two x y W (W.putObj l o') := ⟨World.putObj_heap_other hx, World.putObj_heap_other hy⟩
section
variable {P : Program} {Q : Exit → Act → World → Prop} {N : Nat} {u : Nat → Value} {ds : List Deferred} {w : World}
/-- A range over a function. -/
theorem rfun {α : Type} {g : Operand} {ps : Array Tmp} {assign body : Code} {gf : Nat} {lb : Array Value} (hg : opv N u g = .func (.func gf) #[] lb) (he : Entr P gf)
    {encs : α → Array Value} {Kp : World → World → Prop} {S Sp : List α → Prop} {M : Nat} {w0 : World} (hseq : SeqStopsK Fence.wide 8 P gf lb encs Kp S Sp M w0)
    (hKt : ∀ {A B C : World}, Kp A B → Kp B C → Kp A C) (hKb : ∀ (W : World) (l : Nat) (o o' : Obj), w.heap.size ≤ l → W.heap[l]? = some o → o.isCells = false → o.isWalk = false → Kp W (W.putObj l o')) (hb0 : Below w0.heap.size w0 w) (hps : ∀ x, (encs x).size = ps.size)
    (I : List α → World → Prop) (Ix : Code → List α → World → Prop) (Ux : α → (Nat → Value) → World → Prop) (hI : OwnFrom w.heap.size I) (hIx : ∀ c, OwnFrom w.heap.size (Ix c)) (hUx : ∀ x u', OwnFrom w.heap.size (fun (_ : Unit) W => Ux x u' W)) (h0 : I [] w)
    (hassign : ∀ (l : Nat) (pre : List α) (x : α) (W : World) (K : Act → World → Prop), I pre W → (∀ u' W', KeepsFrom w.heap.size W W' → Kp W W' → I pre W' → Ux x u' W' → K (act N u' []) W') → wpC (some (some l)) P assign (Exit.then K (fun _ _ _ => False)) (act N (updZ u ps (encs x)) []) W)
    (hbody : ∀ (l : Nat) (pre : List α) (x : α) (u' : Nat → Value) (W : World), I pre W → Ux x u' W → pre.length < M → wpC (some (some l)) P body (ownPostG w.heap.size Kp I Ix (pre ++ [x]) W) (act N u' []) W)
    (hdone : ∀ (D : Nat) (xs : List α) (W : World), w.heap.size ≤ D → S xs → I xs W → Dfr W D → Q .normal (act N u ({ target := .collected D, args := #[] } :: ds)) W)
    (hstop : ∀ (D : Nat) (c : Code) (pre : List α) (W : World), w.heap.size ≤ D → Sp pre → Ix c pre W → Dfr W D → wpC none P c Q (act N u ({ target := .collected D, args := #[] } :: ds)) W) :
    wpC none P (.rangeFunc g ps assign body) Q (act N u ds) w := by
  refine (wpIn_wide (n := 9)).1 ?_
  refine wpIn_rangeFunc_ownH (F := Fence.wide) (a := act N u ds) rfl (by decide) (gf := gf) (lb := lb) (by rw [eval_act]; exact hg) trivial (fun args w => run_entr he args w) hseq hKt hKb hb0 hps I Ix hI hIx h0
    (fun x a' W => ∃ u', a' = act N u' [] ∧ Ux x u' W) ?_ ?_ ?_ hdone ?_
  · intro x a' s A B row hs hg hr
    obtain ⟨u', ha, hu⟩ := hs
    exact ⟨u', ha, hUx x u' () A B row hu hg hr⟩
  · intro l pre x W K hi hK
    have h := hassign l pre x W K hi (fun u' W' h1 h2 h3 h4 => hK _ _ h1 h2 h3 ⟨u', rfl, h4⟩)
    have e : ({ tmps := (ps.zip (encs x)).foldl (fun t (p, v) => t.setIfInBounds p v) (act N u ds).tmps, defers := [] } : Act) = act N (updZ u ps (encs x)) [] := by
      unfold act updZ
      rw [← fr_fold, ← Array.foldl_toList]
    rw [e]
    exact wpIn_n h
  · rintro l pre x a' W _ _ hi ⟨u', rfl, hu⟩ hl
    exact wpIn_n (hbody l pre x u' W hi hu hl)
  · intro D c pre W hD hS hi hd
    exact (wpIn_wide (n := 9)).2 (hstop D c pre W hD hS hi hd)
end
/-- A round: the iterator calls 'yield'. -/
theorem x_yl {P : Program} {o : Oper} {ρ : Operand → Value} {w : World} {t : Operand} {xs : Array Operand} {ts : Array TypeId} {l : Nat} (ho : o.op = .call { callee := .value t, args := xs, argTypes := ts }) (ht : ρ t = .func (.yield l) #[] #[]) {vs : List Value} (hx : xs.toList.map ρ = vs) {nx : Next} (hy : (Instr.yield l vs.toArray).run P w = .ok nx w) : (execOp ρ o).run P w = .ok nx w := by
  have e : xs.map ρ = vs.toArray := by rw [← hx, ← List.map_toArray]
  unfold execOp; rw [ho]
  simp [resolve, ht, Deferred.ofValue, invoke, e, hy, Result.andThen]
theorem yl {P : Program} {ops : Array Oper} {rest : List Oper} {o : Oper} {Q : Exit → Act → World → Prop} {N : Nat} {u : Nat → Value} {ds : List Deferred} {w : World} (hg : Region.wanted o (yielded ops (fr N u)) = true) {l : Nat} {fn : FuncId} {tmps : Array Value} {asg bdy : Code} {R : Ending → World → Prop}
    (hr : (execOp (opv N u) o).run P w = .ok (.round l fn tmps asg bdy) w) (hR : RoundIn Fence.wide 7 P l fn tmps asg bdy w R) (h : ∀ e w', R e w' → aft (wpS (some none) P ops Q rest) Q N u ds o.dst e w') : wpS (some none) P ops Q (o :: rest) (act N u ds) w := by
  refine wpS_run (a := act N u ds) hg ⟨fun _ _ => trivial, ?_⟩
  show o.uponIn _ _ _ _ _ _ ((o.semAt none (act N u ds).eval).run P w)
  rw [Oper.semAt_none, eval_act, hr, Oper.uponIn_round]
  refine ⟨fun _ => by decide, RoundIn.mono hR fun e w' he => ?_⟩
  have := h e w' he
  cases e with
  | returned v => exact this
  | panicked ch => exact this
  | outgrown => exact this
/-- The entry of a function that ranges over a function. -/
theorem enterM {P : Program} {f : FuncId} {fn : Func} {c : Code} {l : List Value} {w : World} {R : Ending → World → Prop} (hf : P.funcs[f]? = some fn) (hb : fn.body = some c) (N : Nat) (hn : fn.ntmps = N) (hl : l.length ≤ N)
    (h : wpC none P c (bodyPostM Fence.wide 9 P fn R) (act N (ini l) []) w) : Calls P f l.toArray w R := by
  refine (callsIn_wide (n := 9)).1 (callsIn_of_wp_marks hf hb trivial ?_ rfl)
  rw [hn, ini_frame l N hl]
  exact (wpIn_wide (n := 9)).2 h
section
variable {fn : Func} {R : Ending → World → Prop} {P : Program} {N : Nat} {u : Nat → Value} {w : World}
/-- An end ahead of the range. -/
theorem retM {v : Value} (hr : (results fn (fr N u)).run P w = .ok v w) (hR : R (.returned v) w) : bodyPostM Fence.wide 9 P fn R .ret (act N u []) w := ⟨v, hr, hR⟩
/-- The end of a function that ranged over a function. -/
theorem retC {D : Nat} (hD : Dfr w D) {v : Value} (hr : ∀ w', Below D w w' → w'.heap.size = w.heap.size → (∀ g t cs, Blk w g t cs → Blk w' g t cs) → (results fn (fr N u)).run P w' = .ok v w') (hR : ∀ w', Below D w w' → R (.returned v) w') : bodyPostM Fence.wide 9 P fn R .ret (act N u [{ target := .collected D, args := #[] }]) w := by
  have hb : Below D w (w.putObj D (.deferred none)) := by
    refine ⟨rfl, rfl, rfl, by simp, fun k hk => World.putObj_heap_other (by omega)⟩
  have hs : (w.putObj D (.deferred none)).heap.size = w.heap.size := by simp
  have hk : ∀ g t cs, Blk w g t cs → Blk (w.putObj D (.deferred none)) g t cs := by
    intro g t cs h
    have hne : g ≠ D := by
      intro e; subst e
      have h' : w.heap[g]? = _ := h
      have hd : w.heap[g]? = _ := hD
      rw [h'] at hd; cases hd
    show (w.putObj D (.deferred none)).heap[g]? = _
    exact (World.putObj_heap_other hne).trans h
  refine ⟨by simp [act], .inl ⟨_, _, rfl, run_takeDeferred hD, ?_⟩⟩
  exact ⟨v, hr _ hb hs hk, hR _ hb⟩
end
end Go.Proofs.YtnecgoahdkfbeaaDoor.Eng
end

section
namespace Go.Proofs.YtnecgoahdkfbeaaDoor.TreP
open Go Go.RowKit Go.Proofs.YtnecgoahdkfbeaaDoor Go.Proofs.YtnecgoahdkfbeaaDoor.Cop Go.Proofs.YtnecgoahdkfbeaaDoor.Ver Go.Proofs.YtnecgoahdkfbeaaDoor.Tre Go.Proofs.YtnecgoahdkfbeaaDoor.Vfy Go.Proofs.YtnecgoahdkfbeaaDoor.Oct Go.Proofs.YtnecgoahdkfbeaaDoor.Dsl Go.Proofs.YtnecgoahdkfbeaaDoor.Sha
set_option linter.unusedVariables false
set_option linter.unusedSimpArgs false
theorem ag185_ro (w : World) : (isAgg 185).run Tryd.prog w = .ok false w := by kernel_rfl
theorem sz187_ro : (Tryd.prog.info? 187).map (fun i => i.size) = some 33 := by kernel_rfl
theorem ag187_ro (w : World) : (isAgg 187).run Tryd.prog w = .ok true w := by kernel_rfl
def encP (p : Nat × List UInt8) : List Value := .int .i64 (p.1 : Int) :: bcs p.2
def dP : Nat × List UInt8 := (0, Oct.dz)
theorem encP_len {p : Nat × List UInt8} (h : p.2.length = 32) : (encP p).length = 33 := by simp [encP, bcs_length, h]
theorem one_part (a : Nat × List UInt8) : ∀ c ∈ encP a, c.oneCell' = true := Eng.one_cons rfl (bcs_one _)
theorem zP : (Value.agg (encP (0, Oct.dz)).toArray).cells.size = 33 := by simp [Value.cells, encP, bcs_length, Oct.dz]
theorem bldP (n : Nat) (d : List UInt8) (hd : d.length = 32) (w : World) : (Instr.build 187 #[(0, .int .i64 (n : Int)), (1, dg d)]).run Tryd.prog w = .ok (.agg (.int .i64 (n : Int) :: bcs d : List Value).toArray) w := by
  refine run_build _ _ _ _ ?_
  have e : ∀ x y : Value, Tryd.prog.built 187 [(0, x), (1, y)] = Instr.fill (#[(0, 1), (1, 32)][·]?) (encP (0, Oct.dz)).toArray [(0, x), (1, y)] := by intro x y; kernel_rfl
  show Tryd.prog.built 187 [(0, .int .i64 (n : Int)), (1, dg d)] = _
  rw [e, Eng.fill_step (cells' := (encP (n, Oct.dz)).toArray) rfl (cs := [.int .i64 (n : Int)]) rfl rfl (by simp [encP, bcs_length, Oct.dz]) (by simp [encP, bcs_length, Oct.dz]), Eng.fill_step (cells' := (encP (n, d)).toArray) (off := 1) (size := 32) rfl (cs := bcs d) rfl (by rw [bcs_length]; exact hd) (by simp [encP, bcs_length, Oct.dz]) ?_]
  · rfl
  · have h1 : (encP (n, Oct.dz)).drop 33 = [] := List.drop_eq_nil_of_le (by simp [encP, bcs_length, Oct.dz])
    simp [encP, bcs_length, Oct.dz]
/-- The places of a slice, from the last one down. -/
def downs (n : Nat) : List Nat := (List.range n).map fun i => n - 1 - i
def encY (l : List (Nat × List UInt8)) (x : { j : Nat // j < l.length }) : Array Value := #[.int .i64 (x.1 : Int), .agg (encP (l.getD x.1 dP)).toArray]
set_option maxRecDepth 100000 in
set_option maxHeartbeats 4000000 in
theorem bwd_stops (l : List (Nat × List UInt8)) (hP : ∀ p ∈ l, p.2.length = 32) (Bs y : Nat) (v : Value) (w : World) (hBs : Blk w Bs 185 [v]) (hv : Eng.RowL 33 encP w v l) (hy : ∀ a n c, v = .slice (some a) n c → a.block = y) (hyl : y < w.heap.size) :
    SeqStopsK Fence.wide 8 Tryd.prog 177 #[.pointer (some ⟨Bs, 0, none⟩)] (encY l) (Eng.Two Bs y) (fun ys => ys.map (·.1) = downs l.length) (fun _ => True) (l.length + 1) w := by
  intro lc J Jx W hW hJ hJx hY h0
  have hsm := hv.1.small
  have hB : Blk W Bs 185 [v] := hBs.below hW
  have hR : Eng.RowL 33 encP W v l := hv.below hW
  have hxl : Bs < W.heap.size := hB.lt
  have hyl2 : y < W.heap.size := Nat.lt_of_lt_of_le hyl hW.size
  refine Eng.enterI (l := [.func (.yield lc) #[] #[], .pointer (some ⟨Bs, 0, none⟩)]) Tryd.func177 rfl 19 rfl (by simp) ?_
  refine Eng.seqk fun K1 hK1 => ?_
  refine Eng.reg ?_
  refine Eng.sv rfl rfl (Eng.x_ld1 (v := v) rfl ag185_ro rfl ((hB).cell 0)) ?_
  refine Eng.sv rfl rfl (Eng.x_len (v := v) (r := (l.length : Int)) rfl Tryd.underlying185 rfl (hR).1 rfl) ?_
  refine Eng.sv rfl rfl (Eng.x_sub rfl rfl rfl (Eng.w64 (r := ((l.length : Int) - 1)) (by omega))) ?_
  refine Eng.sv rfl rfl (Eng.x_as (v := (.int .i64 ((l.length : Int) - 1))) rfl rfl) ?_
  refine Eng.nil ?_
  refine hK1 _ _ ?_
  refine Eng.blk ?_
  refine Eng.loopN (fun zz u w' => ∃ (k : Nat), ∃ (pre : List { j : Nat // j < l.length }), zz = l.length + 1 - k ∧ k ≤ l.length ∧ (pre.map (·.1) = (List.range k).map fun i => l.length - 1 - i) ∧ Eng.Has u [(0, (.func (.yield lc) #[] #[])), (1, (.pointer (some ⟨Bs, 0, none⟩))), (3, (.int .i64 ((l.length : Int) - 1 - (k : Int))))] ∧ Blk w' Bs 185 [v] ∧ Eng.RowL 33 encP w' v l ∧ J pre w' ∧ Eng.Two Bs y W w') _ ⟨0, [], rfl, Nat.zero_le _, rfl, ⟨rfl, rfl, (Eng.ie (by first | omega | rfl)), trivial⟩, hB, hR, h0, (Eng.Two.refl _ _ _)⟩ ?_
  rintro _ u2 w2 ⟨k, pre, rfl, hs2_0, hs2_1, hH2, hkL2_0, hrL2_0, hJJ, hTT⟩ K2 hK2
  obtain ⟨u2, rfl⟩ := hH2.ex
  refine Eng.seqk fun K3 hK3 => ?_
  refine Eng.seqk fun K4 hK4 => ?_
  refine Eng.reg ?_
  refine Eng.sv rfl rfl (Eng.x_mv (v := (.int .i64 ((l.length : Int) - 1 - (k : Int)))) rfl rfl) ?_
  by_cases h8 : (((l.length : Int) - 1 - (k : Int)) : Int) ≥ 0
  · skip
    refine Eng.sv rfl rfl (Eng.x_ge (r := true) rfl rfl rfl (decide_eq_true (by omega))) ?_
    refine Eng.nil ?_
    refine hK4 _ _ ?_
    refine Eng.cond_t rfl ?_
    refine Eng.skp ?_
    refine hK3 _ _ ?_
    refine Eng.seqk fun K5 hK5 => ?_
    refine Eng.blk ?_
    refine Eng.seqk fun K6 hK6 => ?_
    refine Eng.reg ?_
    refine Eng.sv rfl rfl (Eng.x_mv (v := (.func (.yield lc) #[] #[])) rfl rfl) ?_
    refine Eng.sv rfl rfl (Eng.x_mv (v := (.int .i64 ((l.length : Int) - 1 - (k : Int)))) rfl rfl) ?_
    refine Eng.sv rfl rfl (Eng.x_ld1 (v := v) rfl ag185_ro rfl ((hkL2_0).cell 0)) ?_
    refine Eng.sv rfl rfl (Eng.x_mv (v := (.int .i64 ((l.length : Int) - 1 - (k : Int)))) rfl rfl) ?_
    refine Eng.sv rfl rfl (Eng.x_ia (v := v) (j := l.length - 1 - k) rfl Tryd.underlying185 sz187_ro (by decide) rfl rfl (hrL2_0).1 (Eng.flat_len (hrL2_0).2) (by omega) (by omega)) ?_
    refine Eng.sv rfl rfl (Eng.x_ldA (v := (.agg (encP ((l).getD (l.length - 1 - k) dP)).toArray)) rfl ag187_ro sz187_ro rfl (Eng.enc_len (hrL2_0).2 dP (by omega)) (Eng.rl_elem hrL2_0 dP (by omega)) rfl) ?_
    have hkl : l.length - 1 - k < l.length := by omega
    have hpl : pre.length = k := by have := congrArg List.length hs2_1; simpa using this
    obtain ⟨fn, tmps, asg, bdy, hyy, hRR⟩ := hY pre ⟨l.length - 1 - k, hkl⟩ _ hJJ (by omega)
    refine Eng.yl rfl (Eng.x_yl rfl rfl (vs := [.int .i64 ((l.length : Int) - 1 - (k : Int)), (.agg (encP ((l).getD (l.length - 1 - k) dP)).toArray)]) rfl (by rw [show ((l.length : Int) - 1 - (k : Int)) = ((l.length - 1 - k : Nat) : Int) by omega]; exact hyy)) hRR ?_
    rintro _ w7 (⟨rfl, hJ2, hT2⟩ | ⟨rfl, hJx2⟩)
    · skip
      refine Eng.aft_v rfl ?_
      have hB2 : Blk w7 Bs 185 [v] := hT2.1.trans hkL2_0
      have hR2 : Eng.RowL 33 encP w7 v l := ⟨Eng.row_block (hrL2_0).1 (fun a m c e => by rw [hy a m c e]; exact hT2.2), (hrL2_0).2⟩
      have hnx : List.map (fun x : { j : Nat // j < l.length } => x.1) (pre ++ [⟨l.length - 1 - k, hkl⟩]) = (List.range (k + 1)).map fun i => l.length - 1 - i := by rw [List.map_append, hs2_1, List.range_succ, List.map_append]; rfl
      refine Eng.sv rfl rfl (Eng.x_not (v := (.bool false)) rfl rfl rfl) ?_
      refine Eng.nil ?_
      refine hK6 _ _ ?_
      refine Eng.cond_f rfl ?_
      refine Eng.skp ?_
      refine Eng.nb ?_
      refine hK5 _ _ ?_
      refine Eng.reg ?_
      refine Eng.sv rfl rfl (Eng.x_mv (v := (.int .i64 ((l.length : Int) - 1 - (k : Int)))) rfl rfl) ?_
      refine Eng.sv rfl rfl (Eng.x_sub rfl rfl rfl (Eng.w64 (r := ((l.length : Int) - 1 - ((k + 1 : Nat) : Int))) (by omega))) ?_
      refine Eng.sv rfl rfl (Eng.x_as (v := (.int .i64 ((l.length : Int) - 1 - ((k + 1 : Nat) : Int)))) rfl rfl) ?_
      refine Eng.nil ?_
      exact hK2 _ _ _ ⟨k + 1, pre ++ [⟨l.length - 1 - k, hkl⟩], rfl, by omega, hnx, ⟨rfl, rfl, (Eng.ie (by first | omega | rfl)), trivial⟩, hB2, hR2, hJ2, (hTT.trans hT2)⟩ (by omega)
    · skip
      refine Eng.aft_v rfl ?_
      refine Eng.sv rfl rfl (Eng.x_not (v := (.bool true)) rfl rfl rfl) ?_
      refine Eng.nil ?_
      refine hK6 _ _ ?_
      refine Eng.cond_t rfl ?_
      refine Eng.rt ?_
      refine Eng.br ?_
      refine Eng.tr ?_
      refine Eng.tr ?_
      refine Eng.br ?_
      exact Eng.ret (Eng.res0 rfl) ⟨⟨_, rfl⟩, .inr ⟨_, trivial, hJx2⟩⟩
  · skip
    refine Eng.sv rfl rfl (Eng.x_ge (r := false) rfl rfl rfl (decide_eq_false (by omega))) ?_
    refine Eng.nil ?_
    refine hK4 _ _ ?_
    refine Eng.cond_f rfl ?_
    refine Eng.xt ?_
    refine Eng.te ?_
    refine Eng.te ?_
    refine Eng.be ?_
    have hkn : k = l.length := by omega
    exact Eng.fin (Eng.res0 rfl) ⟨⟨_, rfl⟩, .inl ⟨pre, (show pre.map (·.1) = _ by rw [hs2_1, hkn]; rfl), hJJ⟩⟩
set_option maxRecDepth 100000 in
set_option maxHeartbeats 4000000 in
theorem bwd_calls (v : Value) (n : Nat) (cs : List Value) (w : World) (h : Row w v n cs) : Calls Tryd.prog 118 #[v] w (fun e w' => ∃ b, e = .returned (.func (.func 177) #[] #[.pointer (some ⟨b, 0, none⟩)]) ∧ Blk w' b 185 [v] ∧ w.heap.size ≤ b ∧ Below w.heap.size w w') := by
  refine Eng.enter (l := [v]) Tryd.func118 rfl 4 rfl (by simp) ?_
  refine Eng.seqk fun K1 hK1 => ?_
  refine Eng.reg ?_
  refine Eng.bo (v := v) (cs := [v]) rfl rfl rfl rfl (by rw [Eng.Row.cells1 h]) ?_
  intro w2 hk2 hb2 hz2
  refine Eng.sv rfl rfl (Eng.x_as (v := Value.nilFunc) rfl rfl) ?_
  refine Eng.nil ?_
  refine hK1 _ _ ?_
  refine Eng.seqk fun K3 hK3 => ?_
  refine Eng.reg ?_
  refine Eng.sv rfl rfl (Eng.x_mf (cap := [(.pointer (some ⟨w.heap.size, 0, none⟩))]) rfl rfl) ?_
  refine Eng.sv rfl rfl (Eng.x_as (v := (.func (.func 177) #[] #[(.pointer (some ⟨w.heap.size, 0, none⟩))])) rfl rfl) ?_
  refine Eng.nil ?_
  refine hK3 _ _ ?_
  refine Eng.rt ?_
  refine Eng.ret (Eng.res1 (v1 := (.func (.func 177) #[] #[(.pointer (some ⟨w.heap.size, 0, none⟩))])) rfl (Eng.rdt rfl)) ?_
  exact ⟨_, rfl, hk2, (Nat.le_refl _), hb2⟩
/-- The root of any leaves. -/
def rootS (l : List (List UInt8)) : List UInt8 := if l.length = 0 then sha [] else R l
theorem rootS_len (l : List (List UInt8)) (h : All32 l) : (rootS l).length = 32 := by
  unfold rootS; split
  · exact sha_len _
  · exact R_len l h (by omega)
theorem PK.len : ∀ {s : List (Nat × List UInt8)} {l : List (List UInt8)} {k : Nat}, PK s l k → s = [] ∨ 2 ^ (k + s.length - 1) ≤ l.length
  | [], l, k, _ => .inl rfl
  | q :: r, l, k, ⟨j, a, b, h1, h2, h3, h4, h5, h6⟩ => by
    right
    rcases PK.len h6 with hr | hr
    · subst hr
      have hp := Nat.pow_le_pow_right (show 0 < 2 by decide) h1
      rw [h3, List.length_append]
      simp only [List.length_cons, List.length_nil, Nat.zero_add, Nat.add_sub_cancel]
      omega
    · have hp : 2 ^ (k + (q :: r).length - 1) ≤ 2 ^ (j + 1 + r.length - 1) := Nat.pow_le_pow_right (by decide) (by simp only [List.length_cons]; omega)
      rw [h3, List.length_append]; omega
theorem PK.short {s : List (Nat × List UInt8)} {l : List (List UInt8)} {k : Nat} (h : PK s l k) (hm : l.length ≤ 281474976710656) : s.length ≤ 50 := by
  rcases PK.len h with rfl | hr
  · simp
  · by_cases hs : s.length ≤ 50
    · exact hs
    · have := Nat.pow_le_pow_right (show 0 < 2 by decide) (show 50 ≤ k + s.length - 1 by omega)
      have h50 : (2 : Nat) ^ 50 = 1125899906842624 := by decide
      omega
theorem PK.mem32 : ∀ {s : List (Nat × List UInt8)} {l : List (List UInt8)} {k : Nat}, PK s l k → All32 l → ∀ p ∈ s, p.2.length = 32
  | [], l, k, _, _, p, hp => by cases hp
  | q :: r, l, k, ⟨j, a, b, h1, h2, h3, h4, h5, h6⟩, h32, p, hp => by
    have ha : All32 a := fun d hd => h32 d (by rw [h3]; exact List.mem_append_left _ hd)
    have hb : All32 b := fun d hd => h32 d (by rw [h3]; exact List.mem_append_right _ hd)
    rcases List.mem_cons.1 hp with rfl | hp
    · rw [h5]; exact R_len b hb (by rw [h4]; exact Nat.pos_of_ne_zero (by simp))
    · exact PK.mem32 h6 ha p hp
/-- Two equal peaks become one. -/
theorem PK.merge {q : Nat × List UInt8} {r : List (Nat × List UInt8)} {a b : List (List UInt8)} {j : Nat} (h : PK (q :: r) a j) (hq : q.1 = 2 ^ j) (hb : b.length = 2 ^ j) (hm : (a ++ b).length ≤ 281474976710656) :
    ∃ a' b', PK r a' (j + 1) ∧ b'.length = 2 ^ (j + 1) ∧ a' ++ b' = a ++ b ∧ nodeS q.2 (R b) = R b' := by
  obtain ⟨j', a', b', h1, h2, h3, h4, h5, h6⟩ := h
  have hj : j' = j := by
    rcases Nat.lt_or_ge j j' with c | c
    · have := Nat.pow_lt_pow_right (show 1 < 2 by decide) c; omega
    · omega
  subst hj
  refine ⟨a', b' ++ b, h6, by rw [List.length_append, h4, hb, Nat.pow_succ]; omega, by rw [h3, List.append_assoc], ?_⟩
  rw [h5, R_app b' b j' h4 (by rw [hb]; exact Nat.pos_of_ne_zero (by simp)) (by omega) (by rw [h3] at hm; simp only [List.length_append] at hm ⊢; omega)]
theorem PK.stay {s : List (Nat × List UInt8)} {a b : List (List UInt8)} {j : Nat} (h : PK s a j) (hs : s = [] ∨ ∃ q r, s = q :: r ∧ q.1 ≠ 2 ^ j) (hb : b.length = 2 ^ j) : PK ((2 ^ j, R b) :: s) (a ++ b) 0 := by
  refine ⟨j, a, b, Nat.zero_le _, rfl, rfl, hb, rfl, ?_⟩
  rcases hs with rfl | ⟨q, r, rfl, hne⟩
  · exact h
  · obtain ⟨j', a', b', h1, h2, h3, h4, h5, h6⟩ := h
    refine ⟨j', a', b', ?_, h2, h3, h4, h5, h6⟩
    rcases Nat.lt_or_ge j j' with c | c
    · exact c
    · have : j' = j := by omega
      subst this; exact absurd h2 hne
theorem PK.root {s : List (Nat × List UInt8)} {l : List (List UInt8)} (h : PK s l 0) (h0 : 0 < l.length) (hm : l.length ≤ 281474976710656) : ∃ q r, s = q :: r ∧ foldP q.2 r = R l := by
  cases s with
  | nil => have h : l = [] := h; subst h; simp at h0
  | cons q r =>
    obtain ⟨j, a, b, h1, h2, h3, h4, h5, h6⟩ := h
    refine ⟨q, r, rfl, ?_⟩
    rw [h5, h3]
    exact PK.fold r a b (j + 1) h6 (by rw [h4]; exact Nat.pos_of_ne_zero (by simp)) (by rw [h4, Nat.pow_succ]; omega) (by rw [← h3]; exact hm)
/-- What the loop over the peaks, from the last but one down, has made. -/
def foldB (l : List (Nat × List UInt8)) (d : List UInt8) (pre : List { j : Nat // j < l.length }) : List UInt8 := pre.foldl (fun d x => nodeS (l.getD x.1 dP).2 d) d
theorem foldB_len (l : List (Nat × List UInt8)) (d : List UInt8) (hd : d.length = 32) (pre : List { j : Nat // j < l.length }) : (foldB l d pre).length = 32 := by
  induction pre generalizing d with
  | nil => exact hd
  | cons x pre ih => exact ih _ (nodeS_len _ _)
theorem foldB_snoc (l : List (Nat × List UInt8)) (d : List UInt8) (pre : List { j : Nat // j < l.length }) (x : { j : Nat // j < l.length }) : foldB l d (pre ++ [x]) = nodeS (l.getD x.1 dP).2 (foldB l d pre) := by unfold foldB; rw [List.foldl_append]; rfl
theorem foldB_all (l : List (Nat × List UInt8)) (d : List UInt8) (pre : List { j : Nat // j < l.length }) (h : pre.map (·.1) = downs l.length) : foldB l d pre = foldP d l.reverse := by
  have e : foldB l d pre = (pre.map (·.1)).foldl (fun d j => nodeS (l.getD j dP).2 d) d := by unfold foldB; rw [List.foldl_map]
  have e2 : l.reverse = (downs l.length).map fun j => l.getD j dP := by
    apply List.ext_getElem
    · simp [downs]
    · intro i h1 h2
      have hi : i < l.length := by simpa using h1
      simp only [List.getElem_reverse, List.getElem_map, downs, List.getElem_range, List.getD_eq_getElem?_getD]
      rw [List.getElem?_eq_getElem (by omega)]
      rfl
  rw [e, h, e2]
  unfold foldP
  rw [List.foldl_map]
end Go.Proofs.YtnecgoahdkfbeaaDoor.TreP
end

section
namespace Go.Proofs.YtnecgoahdkfbeaaDoor.Vfy
open Go Go.RowKit Go.Proofs.YtnecgoahdkfbeaaDoor Go.Proofs.YtnecgoahdkfbeaaDoor.Cop Go.Proofs.YtnecgoahdkfbeaaDoor.Ver Go.Proofs.YtnecgoahdkfbeaaDoor.Tre Go.Proofs.YtnecgoahdkfbeaaDoor.Oct Go.Proofs.YtnecgoahdkfbeaaDoor.Dsl Go.Proofs.YtnecgoahdkfbeaaDoor.Sha
set_option linter.unusedVariables false
set_option linter.unusedSimpArgs false
theorem zr45_vf (w : World) : (zeroValue 45).run Tryd.prog w = .ok (dg Oct.dz) w := by kernel_rfl
theorem en133_vf : Eng.Entr Tryd.prog 133 := ⟨_, Tryd.func133, by kernel_rfl, by kernel_rfl⟩
theorem en134_vf : Eng.Entr Tryd.prog 134 := ⟨_, Tryd.func134, by kernel_rfl, by kernel_rfl⟩
theorem sz45_vf : (Tryd.prog.info? 45).map (fun i => i.size) = some 32 := by kernel_rfl
theorem ag45_vf (w : World) : (isAgg 45).run Tryd.prog w = .ok true w := by kernel_rfl
theorem sz207_vf : (Tryd.prog.info? 207).map (fun i => i.size) = some 1 := by kernel_rfl
theorem ag207_vf (w : World) : (isAgg 207).run Tryd.prog w = .ok false w := by kernel_rfl
theorem en117_vf : Eng.Entr Tryd.prog 117 := ⟨_, Tryd.func117, by kernel_rfl, by kernel_rfl⟩
theorem en193_vf : Eng.Entr Tryd.prog 193 := ⟨_, Tryd.func193, by kernel_rfl, by kernel_rfl⟩
theorem en141_vf : Eng.Entr Tryd.prog 141 := ⟨_, Tryd.func141, by kernel_rfl, by kernel_rfl⟩
theorem en125_vf : Eng.Entr Tryd.prog 125 := ⟨_, Tryd.func125, by kernel_rfl, by kernel_rfl⟩
theorem en140_vf : Eng.Entr Tryd.prog 140 := ⟨_, Tryd.func140, by kernel_rfl, by kernel_rfl⟩
theorem _root_.Go.Proofs.YtnecgoahdkfbeaaDoor.Ver.OwnT.below {B : Nat} {w w' : World} {v : Value} {l : List Bool} (h : OwnT B w v l) (hb : Below w.heap.size w w') : OwnT B w' v l := own_below h hb
theorem _root_.Go.Proofs.YtnecgoahdkfbeaaDoor.Ver.OwnT.kept {B : Nat} {w w' : World} {v : Value} {l : List Bool} (h : OwnT B w v l) {row : Option Nat} (hg : w.grownBy w' row) (hne : v.ownBlock = none ∨ v.ownBlock ≠ row) : OwnT B w' v l := World.ownsRow.kept h hg hne
theorem _root_.Go.Proofs.YtnecgoahdkfbeaaDoor.Ver.OwnT.grL {E : List Nat} {B : Nat} {w w' : World} {v : Value} {l : List Bool} (h : OwnT B w v l) (hg : Eng.GrL E w w') (hn : ∀ g, v.ownBlock = some g → g ∉ E) : OwnT B w' v l := Eng.own_grL h hg hn
theorem rightB_iff {i n : Int} : rightB i n = true ↔ 1 ≤ n ∧ n ≤ 281474976710656 ∧ 0 ≤ i ∧ i < n := by simp [rightB, and_assoc]
theorem ordB_iff {m n : Int} : ordB m n = true ↔ 1 ≤ m ∧ m ≤ n ∧ n ≤ 281474976710656 := by simp [ordB, and_assoc]
theorem wayI (i n : Int) (h : rightB i n = true) (w : World) : Calls Tryd.prog 134 #[.int .i64 i, .int .i64 n] w fun e w' => ∃ v, e = .returned v ∧ OwnT w.heap.size w' v (wayL i.toNat n.toNat) ∧ Below w.heap.size w w' := by
  obtain ⟨h1, h2, h3, h4⟩ := rightB_iff.1 h
  obtain ⟨a, rfl⟩ : ∃ a : Nat, i = (a : Int) := ⟨i.toNat, by omega⟩
  obtain ⟨b, rfl⟩ : ∃ b : Nat, n = (b : Int) := ⟨n.toNat, by omega⟩
  exact way_calls a b (by omega) (by omega) w
theorem node_eq {a b c : List UInt8} (e : nodeS a b = c) (ha : a.length = 32) (hb : b.length = 32) (w : World) (hK : Kon w) : Calls Tryd.prog 117 #[dg a, dg b] w fun e w' => e = .returned (dg c) ∧ Below w.heap.size w w' := by
  subst e; exact node_calls a b ha hb w hK
theorem rnode_eq {a b c : List UInt8} (e : nodeS a b = c) (ha : a.length = 32) (hb : b.length = 32) (w : World) : Calls Tryd.prog 125 #[dg a, dg b] w fun e w' => e = .returned (dg c) ∧ Below w.heap.size w w' := by
  subst e; exact rnode_calls a b ha hb w
theorem rlen_ok {i n : Int} (h : rightB i n = true) (w : World) : Calls Tryd.prog 140 #[.int .i64 i, .int .i64 n] w fun e w' => e = .returned (.tuple #[.int .i64 (lenN i n : Int), .int .i64 0]) ∧ w = w' := by
  have := rlength_calls i n w; rw [h] at this; simpa using this
theorem rlen_no {i n : Int} (h : rightB i n = false) (w : World) : Calls Tryd.prog 140 #[.int .i64 i, .int .i64 n] w fun e w' => e = .returned (.tuple #[.int .i64 0, .int .i64 40]) ∧ w = w' := by
  have := rlength_calls i n w; rw [h] at this; simpa using this
theorem ds_pre {w : World} {v : Value} {xs : List (List UInt8)} (h : Ds w v xs) {n : Nat} (hn : n ≤ xs.length) : Ds w (Eng.sCut v 0 n 32) (xs.take n) := by
  have := Eng.ds_cut h (l := 0) (h := n) (Nat.zero_le _) hn
  simpa using this
theorem ds_tl {w : World} {v : Value} {xs : List (List UInt8)} (h : Ds w v xs) (hn : 1 ≤ xs.length) : Ds w (Eng.sCut v 1 xs.length 32) xs.tail := by
  have := Eng.ds_cut h (l := 1) (h := xs.length) hn (Nat.le_refl _)
  have e : (xs.drop 1).take (xs.length - 1) = xs.tail := by rw [List.take_of_length_le (by rw [List.length_drop]; exact Nat.le_refl _), List.drop_one]
  rw [e] at this; exact this
def inclE (e : Int) (p q : List UInt8) : Int := if e = 0 then (if p = q then 0 else 71) else e
def consE (e : Int) (p q : List UInt8 × List UInt8) : Int := if e = 0 then (if p.1 = q.1 ∧ p.2 = q.2 then 0 else 71) else e
set_option maxRecDepth 100000 in
set_option maxHeartbeats 4000000 in
theorem root_calls (d : List UInt8) (hd : d.length = 32) (i n : Int) (v : Value) (xs : List (List UInt8)) (w : World) (h : Ds w v xs) (hK : Kon w) : Calls Tryd.prog 71 #[(dg d), (.int .i64 i), (.int .i64 n), v] w (fun e w' => e = .returned (.tuple #[dg (rootD d i n xs), .int .i64 (rootE i n xs.length)]) ∧ Below w.heap.size w w') := by
  have hsm := h.1.small
  refine Eng.enter (l := [(dg d), (.int .i64 i), (.int .i64 n), v]) Tryd.func71 rfl 52 rfl (by simp) ?_
  refine Eng.seqk fun K1 hK1 => ?_
  refine Eng.reg ?_
  refine Eng.bo (v := (dg d)) (cs := (bcs d)) rfl rfl rfl rfl rfl ?_
  intro w2 hk2 hb2 hz2
  refine Eng.al rfl rfl rfl zr45_vf (cs := (bcs Oct.dz)) rfl ?_
  intro w3 hk3 hb3 hz3
  refine Eng.sv rfl rfl (Eng.x_as (v := (.int .i64 0)) rfl rfl) ?_
  refine Eng.nil ?_
  refine hK1 _ _ ?_
  refine Eng.seqk fun K4 hK4 => ?_
  refine Eng.seqk fun K5 hK5 => ?_
  refine Eng.reg ?_
  refine Eng.sv rfl rfl (Eng.x_mv (v := (.int .i64 i)) rfl rfl) ?_
  refine Eng.sv rfl rfl (Eng.x_mv (v := (.int .i64 n)) rfl rfl) ?_
  refine Eng.sc rfl (Eng.xc (vl := [(.int .i64 i), (.int .i64 n)]) rfl rfl rfl en133_vf) (right_calls i n _) ?_
  rintro _ _ ⟨rfl, rfl⟩
  refine Eng.aft_v rfl ?_
  rcases Eng.tf (rightB i n) with hr | hr
  · skip
    rw [hr]
    refine Eng.sv rfl rfl (Eng.x_not (v := (.bool false)) rfl rfl rfl) ?_
    refine Eng.nil ?_
    refine hK5 _ _ ?_
    refine Eng.cond_f rfl ?_
    refine Eng.skp ?_
    refine hK4 _ _ ?_
    refine Eng.seqk fun K7 hK7 => ?_
    refine Eng.reg ?_
    refine Eng.sv rfl rfl (Eng.x_mv (v := (.int .i64 i)) rfl rfl) ?_
    refine Eng.sv rfl rfl (Eng.x_mv (v := (.int .i64 n)) rfl rfl) ?_
    refine Eng.sc rfl (Eng.xc (vl := [(.int .i64 i), (.int .i64 n)]) rfl rfl rfl en134_vf) (wayI i n hr _) ?_
    rintro _ w8 ⟨vl8, rfl, ho8, hb8⟩
    refine Eng.aft_v rfl ?_
    refine Eng.sv rfl rfl (Eng.x_as (v := vl8) rfl rfl) ?_
    refine Eng.nil ?_
    refine hK7 _ _ ?_
    refine Eng.seqk fun K9 hK9 => ?_
    refine Eng.seqk fun K10 hK10 => ?_
    refine Eng.reg ?_
    refine Eng.sv rfl rfl (Eng.x_mv (v := vl8) rfl rfl) ?_
    refine Eng.sv rfl rfl (Eng.x_len (v := vl8) (r := ((wayL i.toNat n.toNat).length : Int)) rfl Tryd.underlying205 rfl (Row.of_own ho8) rfl) ?_
    refine Eng.sv rfl rfl (Eng.x_mv (v := v) rfl rfl) ?_
    have hB0_2 : Below w.heap.size w w3 := (hb2).trans (hb3.mono (hb2).size)
    have hB0_3 : Below w.heap.size w w8 := (hB0_2).trans (hb8.mono (hB0_2).size)
    have hr11 := (h).below hB0_3
    refine Eng.sv rfl rfl (Eng.x_len (v := v) (r := (xs.length : Int)) rfl Tryd.underlying36 rfl (hr11).1 rfl) ?_
    by_cases h26 : (((wayL i.toNat n.toNat).length : Int) : Int) ≠ (xs.length : Int)
    · skip
      refine Eng.sv rfl rfl (Eng.x_ne (r := true) rfl rfl rfl (Eng.ne_t (by omega))) ?_
      refine Eng.nil ?_
      refine hK10 _ _ ?_
      refine Eng.cond_t rfl ?_
      refine Eng.seqk fun K12 hK12 => ?_
      refine Eng.reg ?_
      refine Eng.sv rfl rfl (Eng.x_build (ps := []) (v := (dg Oct.dz)) rfl rfl (by kernel_rfl)) ?_
      have hk13 := (hk3).below hb8
      refine Eng.stB (v := (dg Oct.dz)) rfl rfl rfl sz45_vf rfl hk13 rfl rfl (cs' := (bcs Oct.dz)) rfl rfl (bcs_one _) ?_
      intro w14 hk14 hg14
      refine Eng.sv rfl rfl (Eng.x_as (v := (.int .i64 70)) rfl rfl) ?_
      refine Eng.nil ?_
      refine hK12 _ _ ?_
      refine Eng.rt ?_
      refine Eng.tr ?_
      refine Eng.ret (Eng.res2 (v1 := (dg Oct.dz)) (v2 := (.int .i64 70)) rfl (Eng.rdc rfl (Eng.lvB ag45_vf sz45_vf hk14 rfl rfl)) (Eng.rdt rfl)) ?_
      have hB0_4 : Below w.heap.size w w14 := (hB0_3).grown hg14 (hB0_3).size (fun k e => by cases e; exact Nat.le_trans (hb2).size (Nat.le_refl _))
      have hnl : lenN i n ≠ xs.length := fun e => h26 (by rw [← e]; rfl)
      exact ⟨by simp [rootD, rootE, hr, hnl], hB0_4⟩
    · skip
      refine Eng.sv rfl rfl (Eng.x_ne (r := false) rfl rfl rfl (Eng.ne_f (by omega))) ?_
      refine Eng.nil ?_
      refine hK10 _ _ ?_
      refine Eng.cond_f rfl ?_
      refine Eng.skp ?_
      refine hK9 _ _ ?_
      refine Eng.seqk fun K15 hK15 => ?_
      refine Eng.reg ?_
      have hk16 := ((hk2).below hb3).below hb8
      refine Eng.sv rfl rfl (Eng.x_ldB (v := (dg d)) rfl ag45_vf sz45_vf rfl hk16 ((bcs_length _).trans hd) rfl) ?_
      refine Eng.al rfl rfl rfl zr45_vf (cs := (bcs Oct.dz)) rfl ?_
      intro w17 hk17 hb17 hz17
      refine Eng.stB (v := (dg d)) rfl rfl rfl sz45_vf rfl hk17 rfl rfl (cs' := (bcs d)) rfl ((bcs_length _).trans hd) (bcs_one _) ?_
      intro w18 hk18 hg18
      refine Eng.nil ?_
      refine hK15 _ _ ?_
      refine Eng.seqk fun K19 hK19 => ?_
      refine Eng.seqk fun K20 hK20 => ?_
      refine Eng.reg ?_
      refine Eng.sv rfl rfl (Eng.x_mv (v := v) rfl rfl) ?_
      have hB0_4 : Below w.heap.size w w17 := (hB0_3).trans (hb17.mono (hB0_3).size)
      have hB0_5 : Below w.heap.size w w18 := (hB0_4).grown hg18 (hB0_4).size (fun k e => by cases e; exact Nat.le_trans (hB0_3).size (Nat.le_refl _))
      have hr21 := (h).below hB0_5
      refine Eng.sv rfl rfl (Eng.x_len (v := v) (r := (xs.length : Int)) rfl Tryd.underlying36 rfl (hr21).1 rfl) ?_
      refine Eng.sv rfl rfl (Eng.x_mv (v := (.int .i64 0)) rfl rfl) ?_
      refine Eng.nil ?_
      refine hK20 _ _ ?_
      refine Eng.blk ?_
      have hk23 := (((hk3).below hb8).below hb17).grown hg18 (fun e => absurd (Option.some.inj e) (Nat.ne_of_lt (Nat.lt_of_lt_of_le hz3 (Nat.le_trans (hb8).size (Nat.le_refl _)))))
      have hr24 := ((ho8).below hb17).kept hg18 (.inr (fun e => absurd ((World.ownsRow.lt ho8) _ e).2 (Nat.not_lt_of_le (Nat.le_trans (Nat.le_refl _) (Nat.le_refl _)))))
      refine Eng.loopN (fun zz u w' => ∃ (k : Nat), zz = xs.length - k ∧ k ≤ xs.length ∧ Eng.Has u [(8, (.pointer (some ⟨w2.heap.size, 0, none⟩))), (9, (.int .i64 0)), (10, vl8), (11, (.pointer (some ⟨w8.heap.size, 0, none⟩))), (29, v), (30, (.int .i64 (xs.length : Int))), (31, (.int .i64 (k : Int)))] ∧ Below w.heap.size w w' ∧ w18.heap.size ≤ w'.heap.size ∧ Blk w' w2.heap.size 45 (bcs Oct.dz) ∧ Blk w' w8.heap.size 45 (bcs (upK d (wayL i.toNat n.toNat) xs k)) ∧ OwnT w3.heap.size w' vl8 (wayL i.toNat n.toNat)) _ ⟨0, rfl, by omega, ⟨rfl, rfl, rfl, rfl, rfl, rfl, (Eng.ie (by first | omega | rfl)), trivial⟩, hB0_5, (Nat.le_refl _), hk23, hk18, hr24⟩ ?_
      rintro _ u22 w22 ⟨k, rfl, hs22_0, hH22, hBL22, hzL22, hkL22_0, hkL22_1, hrL22_0⟩ K22 hK22
      obtain ⟨u22, rfl⟩ := hH22.ex
      refine Eng.seqk fun K25 hK25 => ?_
      refine Eng.reg ?_
      by_cases h32 : ((k : Int) : Int) < (xs.length : Int)
      · skip
        refine Eng.sv rfl rfl (Eng.x_lt (r := true) rfl rfl rfl (decide_eq_true (by omega))) ?_
        refine Eng.nil ?_
        refine hK25 _ _ ?_
        refine Eng.seqk fun K26 hK26 => ?_
        refine Eng.cond_t rfl ?_
        refine Eng.skp ?_
        refine hK26 _ _ ?_
        refine Eng.seqk fun K27 hK27 => ?_
        refine Eng.blk ?_
        refine Eng.seqk fun K28 hK28 => ?_
        refine Eng.reg ?_
        refine Eng.sv rfl rfl (Eng.x_mv (v := (.int .i64 (k : Int))) rfl rfl) ?_
        have hr29 := (h).below hBL22
        refine Eng.sv rfl rfl (Eng.x_ia (v := v) (j := k) rfl Tryd.underlying36 sz45_vf (by decide) rfl rfl (hr29).1 (Dsl.dcs_len _ (hr29).2) (by omega) (by omega)) ?_
        refine Eng.sv rfl rfl (Eng.x_ldA (v := (dg ((xs).getD k []))) rfl ag45_vf sz45_vf rfl ((bcs_length _).trans (Eng.ds_len hr29 (by omega))) (Eng.ds_at hr29 (by omega)) rfl) ?_
        refine Eng.al rfl rfl rfl zr45_vf (cs := (bcs Oct.dz)) rfl ?_
        intro w30 hk30 hb30 hz30
        refine Eng.sv rfl rfl (Eng.x_as (v := (.int .i64 (k : Int))) rfl rfl) ?_
        refine Eng.stB (v := (dg ((xs).getD k []))) rfl rfl rfl sz45_vf rfl hk30 rfl rfl (cs' := (bcs ((xs).getD k []))) rfl ((bcs_length _).trans (Eng.ds_len hr29 (by omega))) (bcs_one _) ?_
        intro w31 hk31 hg31
        refine Eng.nil ?_
        refine hK28 _ _ ?_
        refine Eng.seqk fun K32 hK32 => ?_
        refine Eng.reg ?_
        refine Eng.sv rfl rfl (Eng.x_mv (v := vl8) rfl rfl) ?_
        refine Eng.sv rfl rfl (Eng.x_mv (v := vl8) rfl rfl) ?_
        have hB3_5 : Below w8.heap.size w8 w18 := (hb17).grown hg18 (hb17).size (fun k e => by cases e; exact Nat.le_trans (Nat.le_refl _) (Nat.le_refl _))
        have hr33 := ((hrL22_0).below hb30).kept hg31 (.inr (fun e => absurd ((World.ownsRow.lt ho8) _ e).2 (Nat.not_lt_of_le (Nat.le_trans (Nat.le_trans (hB3_5).size hzL22) (Nat.le_refl _)))))
        refine Eng.sv rfl rfl (Eng.x_len (v := vl8) (r := ((wayL i.toNat n.toNat).length : Int)) rfl Tryd.underlying205 rfl (Row.of_own hr33) rfl) ?_
        refine Eng.sv rfl rfl (Eng.x_sub rfl rfl rfl (Eng.w64 (r := (((wayL i.toNat n.toNat).length : Int) - 1)) (by omega))) ?_
        refine Eng.sv rfl rfl (Eng.x_mv (v := (.int .i64 (k : Int))) rfl rfl) ?_
        refine Eng.sv rfl rfl (Eng.x_sub rfl rfl rfl (Eng.w64 (r := (((wayL i.toNat n.toNat).length - 1 - k : Nat) : Int)) (by omega))) ?_
        refine Eng.sv rfl rfl (Eng.x_ia (v := vl8) (j := (wayL i.toNat n.toNat).length - 1 - k) rfl Tryd.underlying205 sz207_vf (by decide) rfl rfl (Row.of_own hr33) (by rw [Nat.mul_one]; exact List.length_map _) (by omega) (by omega)) ?_
        refine Eng.sv rfl rfl (Eng.x_ld1 (v := (.bool (((wayL i.toNat n.toNat)).getD ((wayL i.toNat n.toNat).length - 1 - k) false))) rfl ag207_vf rfl (Eng.row_get (Row.of_own hr33) (Eng.map_get Value.bool _ false (by omega)))) ?_
        refine Eng.nil ?_
        refine hK32 _ _ ?_
        refine Eng.cond_b rfl (fun hc34 => ?_) (fun hc34 => ?_)
        · skip
          refine Eng.reg ?_
          have hk35 := ((hkL22_1).below hb30).grown hg31 (fun e => absurd (Option.some.inj e) (Nat.ne_of_lt (Nat.lt_of_lt_of_le hz17 (Nat.le_trans (Nat.le_trans (hg18).size hzL22) (Nat.le_refl _)))))
          refine Eng.sv rfl rfl (Eng.x_ldB (v := (dg (upK d (wayL i.toNat n.toNat) xs k))) rfl ag45_vf sz45_vf rfl hk35 ((bcs_length _).trans (upK_len _ _ _ _ hd)) rfl) ?_
          refine Eng.sv rfl rfl (Eng.x_ldB (v := (dg ((xs).getD k []))) rfl ag45_vf sz45_vf rfl hk31 ((bcs_length _).trans (Eng.ds_len hr29 (by omega))) rfl) ?_
          have hB0_7 : Below w.heap.size w w30 := (hBL22).trans (hb30.mono (hBL22).size)
          have hB0_8 : Below w.heap.size w w31 := (hB0_7).grown hg31 (hB0_7).size (fun k e => by cases e; exact Nat.le_trans (hBL22).size (Nat.le_refl _))
          have hr36 := (hK).below hB0_8
          refine Eng.sc rfl (Eng.xc (vl := [(dg (upK d (wayL i.toNat n.toNat) xs k)), (dg ((xs).getD k []))]) rfl rfl rfl en117_vf) (node_eq (upK_t (l := (wayL i.toNat n.toNat)) (by omega) (by omega) hc34) (upK_len _ _ _ _ hd) (Eng.ds_len hr29 (by omega)) _ hr36) ?_
          rintro _ w37 ⟨rfl, hb37⟩
          refine Eng.aft_v rfl ?_
          have hk38 := (hk35).below hb37
          refine Eng.stB (v := (dg (upK d (wayL i.toNat n.toNat) xs (k + 1)))) rfl rfl rfl sz45_vf rfl hk38 ((bcs_length _).trans (upK_len _ _ _ _ hd)) rfl (cs' := (bcs (upK d (wayL i.toNat n.toNat) xs (k + 1)))) rfl ((bcs_length _).trans (upK_len _ _ _ _ hd)) (bcs_one _) ?_
          intro w39 hk39 hg39
          refine Eng.nil ?_
          refine Eng.nb ?_
          refine hK27 _ _ ?_
          refine Eng.reg ?_
          refine Eng.sv rfl rfl (Eng.x_add rfl rfl rfl (Eng.w64 (r := ((k : Int) + 1)) (by omega))) ?_
          refine Eng.sv rfl rfl (Eng.x_mv (v := (.int .i64 ((k : Int) + 1))) rfl rfl) ?_
          refine Eng.nil ?_
          have hr40 := ((hr33).below hb37).kept hg39 (.inr (fun e => absurd ((World.ownsRow.lt ho8) _ e).2 (Nat.not_lt_of_le (Nat.le_trans (Nat.le_refl _) (Nat.le_refl _)))))
          have hB0_9 : Below w.heap.size w w37 := (hB0_8).trans (hb37.mono (hB0_8).size)
          have hB0_10 : Below w.heap.size w w39 := (hB0_9).grown hg39 (hB0_9).size (fun k e => by cases e; exact Nat.le_trans (hB0_3).size (Nat.le_refl _))
          have hB2_4 : Below w3.heap.size w3 w17 := (hb8).trans (hb17.mono (hb8).size)
          have hB2_5 : Below w3.heap.size w3 w18 := (hB2_4).grown hg18 (hB2_4).size (fun k e => by cases e; exact Nat.le_trans (hb8).size (Nat.le_refl _))
          have hk41 := ((((hkL22_0).below hb30).grown hg31 (fun e => absurd (Option.some.inj e) (Nat.ne_of_lt (Nat.lt_of_lt_of_le hz3 (Nat.le_trans (Nat.le_trans (hB2_5).size hzL22) (Nat.le_refl _)))))).below hb37).grown hg39 (fun e => absurd (Option.some.inj e) (Nat.ne_of_lt (Nat.lt_of_lt_of_le hz3 (Nat.le_trans (hb8).size (Nat.le_refl _)))))
          exact hK22 _ _ _ ⟨k + 1, rfl, by omega, ⟨rfl, rfl, rfl, rfl, rfl, rfl, (Eng.ie (by first | omega | rfl)), trivial⟩, hB0_10, (Nat.le_trans (Nat.le_trans (Nat.le_trans (Nat.le_trans hzL22 (hb30).size) (hg31).size) (hb37).size) (hg39).size), hk41, hk39, hr40⟩ (by omega)
        · skip
          refine Eng.reg ?_
          refine Eng.sv rfl rfl (Eng.x_ldB (v := (dg ((xs).getD k []))) rfl ag45_vf sz45_vf rfl hk31 ((bcs_length _).trans (Eng.ds_len hr29 (by omega))) rfl) ?_
          have hk42 := ((hkL22_1).below hb30).grown hg31 (fun e => absurd (Option.some.inj e) (Nat.ne_of_lt (Nat.lt_of_lt_of_le hz17 (Nat.le_trans (Nat.le_trans (hg18).size hzL22) (Nat.le_refl _)))))
          refine Eng.sv rfl rfl (Eng.x_ldB (v := (dg (upK d (wayL i.toNat n.toNat) xs k))) rfl ag45_vf sz45_vf rfl hk42 ((bcs_length _).trans (upK_len _ _ _ _ hd)) rfl) ?_
          have hB0_7 : Below w.heap.size w w30 := (hBL22).trans (hb30.mono (hBL22).size)
          have hB0_8 : Below w.heap.size w w31 := (hB0_7).grown hg31 (hB0_7).size (fun k e => by cases e; exact Nat.le_trans (hBL22).size (Nat.le_refl _))
          have hr43 := (hK).below hB0_8
          refine Eng.sc rfl (Eng.xc (vl := [(dg ((xs).getD k [])), (dg (upK d (wayL i.toNat n.toNat) xs k))]) rfl rfl rfl en117_vf) (node_eq (upK_f (l := (wayL i.toNat n.toNat)) (by omega) (by omega) hc34) (Eng.ds_len hr29 (by omega)) (upK_len _ _ _ _ hd) _ hr43) ?_
          rintro _ w44 ⟨rfl, hb44⟩
          refine Eng.aft_v rfl ?_
          have hk45 := (hk42).below hb44
          refine Eng.stB (v := (dg (upK d (wayL i.toNat n.toNat) xs (k + 1)))) rfl rfl rfl sz45_vf rfl hk45 ((bcs_length _).trans (upK_len _ _ _ _ hd)) rfl (cs' := (bcs (upK d (wayL i.toNat n.toNat) xs (k + 1)))) rfl ((bcs_length _).trans (upK_len _ _ _ _ hd)) (bcs_one _) ?_
          intro w46 hk46 hg46
          refine Eng.nil ?_
          refine Eng.nb ?_
          refine hK27 _ _ ?_
          refine Eng.reg ?_
          refine Eng.sv rfl rfl (Eng.x_add rfl rfl rfl (Eng.w64 (r := ((k : Int) + 1)) (by omega))) ?_
          refine Eng.sv rfl rfl (Eng.x_mv (v := (.int .i64 ((k : Int) + 1))) rfl rfl) ?_
          refine Eng.nil ?_
          have hr47 := ((hr33).below hb44).kept hg46 (.inr (fun e => absurd ((World.ownsRow.lt ho8) _ e).2 (Nat.not_lt_of_le (Nat.le_trans (Nat.le_refl _) (Nat.le_refl _)))))
          have hB0_9 : Below w.heap.size w w44 := (hB0_8).trans (hb44.mono (hB0_8).size)
          have hB0_10 : Below w.heap.size w w46 := (hB0_9).grown hg46 (hB0_9).size (fun k e => by cases e; exact Nat.le_trans (hB0_3).size (Nat.le_refl _))
          have hB2_4 : Below w3.heap.size w3 w17 := (hb8).trans (hb17.mono (hb8).size)
          have hB2_5 : Below w3.heap.size w3 w18 := (hB2_4).grown hg18 (hB2_4).size (fun k e => by cases e; exact Nat.le_trans (hb8).size (Nat.le_refl _))
          have hk48 := ((((hkL22_0).below hb30).grown hg31 (fun e => absurd (Option.some.inj e) (Nat.ne_of_lt (Nat.lt_of_lt_of_le hz3 (Nat.le_trans (Nat.le_trans (hB2_5).size hzL22) (Nat.le_refl _)))))).below hb44).grown hg46 (fun e => absurd (Option.some.inj e) (Nat.ne_of_lt (Nat.lt_of_lt_of_le hz3 (Nat.le_trans (hb8).size (Nat.le_refl _)))))
          exact hK22 _ _ _ ⟨k + 1, rfl, by omega, ⟨rfl, rfl, rfl, rfl, rfl, rfl, (Eng.ie (by first | omega | rfl)), trivial⟩, hB0_10, (Nat.le_trans (Nat.le_trans (Nat.le_trans (Nat.le_trans hzL22 (hb30).size) (hg31).size) (hb44).size) (hg46).size), hk48, hk46, hr47⟩ (by omega)
      · skip
        refine Eng.sv rfl rfl (Eng.x_lt (r := false) rfl rfl rfl (decide_eq_false (by omega))) ?_
        refine Eng.nil ?_
        refine hK25 _ _ ?_
        refine Eng.seqk fun K49 hK49 => ?_
        refine Eng.cond_f rfl ?_
        refine Eng.xt ?_
        refine Eng.te ?_
        refine Eng.te ?_
        refine Eng.be ?_
        refine hK19 _ _ ?_
        refine Eng.seqk fun K50 hK50 => ?_
        refine Eng.reg ?_
        refine Eng.sv rfl rfl (Eng.x_ldB (v := (dg (upK d (wayL i.toNat n.toNat) xs k))) rfl ag45_vf sz45_vf rfl hkL22_1 ((bcs_length _).trans (upK_len _ _ _ _ hd)) rfl) ?_
        refine Eng.stB (v := (dg (upK d (wayL i.toNat n.toNat) xs k))) rfl rfl rfl sz45_vf rfl hkL22_0 rfl rfl (cs' := (bcs (upK d (wayL i.toNat n.toNat) xs k))) rfl ((bcs_length _).trans (upK_len _ _ _ _ hd)) (bcs_one _) ?_
        intro w51 hk51 hg51
        refine Eng.sv rfl rfl (Eng.x_as (v := (.int .i64 0)) rfl rfl) ?_
        refine Eng.nil ?_
        refine hK50 _ _ ?_
        refine Eng.rt ?_
        refine Eng.ret (Eng.res2 (v1 := (dg (upK d (wayL i.toNat n.toNat) xs k))) (v2 := (.int .i64 0)) rfl (Eng.rdc rfl (Eng.lvB ag45_vf sz45_vf hk51 ((bcs_length _).trans (upK_len _ _ _ _ hd)) rfl)) (Eng.rdt rfl)) ?_
        have hB0_7 : Below w.heap.size w w51 := (hBL22).grown hg51 (hBL22).size (fun k e => by cases e; exact Nat.le_trans (hb2).size (Nat.le_refl _))
        have hln : lenN i n = xs.length := by have := h26; unfold lenN; omega
        have hE : rootE i n xs.length = 0 := by simp [rootE, hr, hln]
        have hkl : k = xs.length := by omega
        have hup : upK d (wayL i.toNat n.toNat) xs k = rootD d i n xs := by unfold rootD; rw [if_pos hE, hkl, ← hln]; exact upK_all _ _ _ hln
        exact ⟨by rw [hE, hup], hB0_7⟩
  · skip
    rw [hr]
    refine Eng.sv rfl rfl (Eng.x_not (v := (.bool true)) rfl rfl rfl) ?_
    refine Eng.nil ?_
    refine hK5 _ _ ?_
    refine Eng.cond_t rfl ?_
    refine Eng.seqk fun K52 hK52 => ?_
    refine Eng.reg ?_
    refine Eng.sv rfl rfl (Eng.x_build (ps := []) (v := (dg Oct.dz)) rfl rfl (by kernel_rfl)) ?_
    refine Eng.stB (v := (dg Oct.dz)) rfl rfl rfl sz45_vf rfl hk3 rfl rfl (cs' := (bcs Oct.dz)) rfl rfl (bcs_one _) ?_
    intro w53 hk53 hg53
    refine Eng.sv rfl rfl (Eng.x_as (v := (.int .i64 40)) rfl rfl) ?_
    refine Eng.nil ?_
    refine hK52 _ _ ?_
    refine Eng.rt ?_
    refine Eng.tr ?_
    refine Eng.ret (Eng.res2 (v1 := (dg Oct.dz)) (v2 := (.int .i64 40)) rfl (Eng.rdc rfl (Eng.lvB ag45_vf sz45_vf hk53 rfl rfl)) (Eng.rdt rfl)) ?_
    have hB0_2 : Below w.heap.size w w3 := (hb2).trans (hb3.mono (hb2).size)
    have hB0_3 : Below w.heap.size w w53 := (hB0_2).grown hg53 (hB0_2).size (fun k e => by cases e; exact Nat.le_trans (hb2).size (Nat.le_refl _))
    exact ⟨by simp [rootD, rootE, hr], hB0_3⟩
def UpC (n : Nat) : Prop := ∀ (i : Nat) (d : List UInt8) (v : Value) (xs : List (List UInt8)) (w : World), i < n → n ≤ 281474976710656 → d.length = 32 → Ds w v xs → xs.length = (wayL i n).length → Calls Tryd.prog 141 #[dg d, .int .i64 (i : Int), .int .i64 (n : Int), v] w fun e w' => e = .returned (dg (climb d (wayL i n).reverse xs)) ∧ Below w.heap.size w w'
theorem up_t {d : List UInt8} {i n : Nat} {xs : List (List UInt8)} (h2 : 2 ≤ n) (hn : n ≤ 281474976710656) (hi : i < H n) (hx : xs.length = (wayL i n).length) : nodeS (climb d (wayL i (H n)).reverse (xs.take (xs.length - 1))) (xs.getD (xs.length - 1) []) = climb d (wayL i n).reverse xs := by
  rw [wayL_step i n h2 hn, if_pos hi] at hx ⊢
  rw [climb_top _ _ _ _ (by simpa using hx)]; rfl
theorem up_f {d : List UInt8} {i n : Nat} {xs : List (List UInt8)} (h2 : 2 ≤ n) (hn : n ≤ 281474976710656) (hi : ¬ i < H n) (hx : xs.length = (wayL i n).length) : nodeS (xs.getD (xs.length - 1) []) (climb d (wayL (i - H n) (n - H n)).reverse (xs.take (xs.length - 1))) = climb d (wayL i n).reverse xs := by
  rw [wayL_step i n h2 hn, if_neg hi] at hx ⊢
  rw [climb_top _ _ _ _ (by simpa using hx)]; rfl
theorem way_pos {i n : Nat} (h2 : 2 ≤ n) (hn : n ≤ 281474976710656) : (wayL i n).length = (if i < H n then (wayL i (H n)).length else (wayL (i - H n) (n - H n)).length) + 1 := by
  rw [wayL_step i n h2 hn]; split <;> rfl
set_option maxRecDepth 100000 in
set_option maxHeartbeats 4000000 in
theorem up_step (n : Nat) (ih : ∀ m, m < n → UpC m) (i : Nat) (d : List UInt8) (v : Value) (xs : List (List UInt8)) (w : World) (hi : i < n) (hn : n ≤ 281474976710656) (hd : d.length = 32) (h : Ds w v xs) (hx : xs.length = (wayL i n).length) : Calls Tryd.prog 141 #[(dg d), (.int .i64 (i : Int)), (.int .i64 (n : Int)), v] w (fun e w' => e = .returned (dg (climb d (wayL i n).reverse xs)) ∧ Below w.heap.size w w') := by
  have hsm := h.1.small
  refine Eng.enter (l := [(dg d), (.int .i64 (i : Int)), (.int .i64 (n : Int)), v]) Tryd.func141 rfl 49 rfl (by simp) ?_
  refine Eng.seqk fun K1 hK1 => ?_
  refine Eng.reg ?_
  refine Eng.bo (v := (dg d)) (cs := (bcs d)) rfl rfl rfl rfl rfl ?_
  intro w2 hk2 hb2 hz2
  refine Eng.al rfl rfl rfl zr45_vf (cs := (bcs Oct.dz)) rfl ?_
  intro w3 hk3 hb3 hz3
  refine Eng.nil ?_
  refine hK1 _ _ ?_
  refine Eng.seqk fun K4 hK4 => ?_
  refine Eng.seqk fun K5 hK5 => ?_
  refine Eng.reg ?_
  refine Eng.sv rfl rfl (Eng.x_mv (v := (.int .i64 (n : Int))) rfl rfl) ?_
  by_cases h13 : ((n : Int) : Int) = 1
  · skip
    refine Eng.sv rfl rfl (Eng.x_eq (r := true) rfl rfl rfl (Eng.eq_t (by omega))) ?_
    refine Eng.nil ?_
    refine hK5 _ _ ?_
    refine Eng.cond_t rfl ?_
    refine Eng.seqk fun K6 hK6 => ?_
    refine Eng.reg ?_
    have hk7 := (hk2).below hb3
    refine Eng.sv rfl rfl (Eng.x_ldB (v := (dg d)) rfl ag45_vf sz45_vf rfl hk7 ((bcs_length _).trans hd) rfl) ?_
    refine Eng.stB (v := (dg d)) rfl rfl rfl sz45_vf rfl hk3 rfl rfl (cs' := (bcs d)) rfl ((bcs_length _).trans hd) (bcs_one _) ?_
    intro w8 hk8 hg8
    refine Eng.nil ?_
    refine hK6 _ _ ?_
    refine Eng.rt ?_
    refine Eng.tr ?_
    refine Eng.ret (Eng.res1 (v1 := (dg d)) rfl (Eng.rdc rfl (Eng.lvB ag45_vf sz45_vf hk8 ((bcs_length _).trans hd) rfl))) ?_
    have hB0_2 : Below w.heap.size w w3 := (hb2).trans (hb3.mono (hb2).size)
    have hB0_3 : Below w.heap.size w w8 := (hB0_2).grown hg8 (hB0_2).size (fun k e => by cases e; exact Nat.le_trans (hb2).size (Nat.le_refl _))
    have e1 : n = 1 := by omega
    exact ⟨by subst e1; rw [wayL_one]; rfl, hB0_3⟩
  · skip
    have h2 : 2 ≤ n := by omega
    obtain ⟨q1, q2, q3⟩ := H_spec n h2 hn
    have hwp := way_pos (i := i) h2 hn
    refine Eng.sv rfl rfl (Eng.x_eq (r := false) rfl rfl rfl (Eng.eq_f (by omega))) ?_
    refine Eng.nil ?_
    refine hK5 _ _ ?_
    refine Eng.cond_f rfl ?_
    refine Eng.skp ?_
    refine hK4 _ _ ?_
    refine Eng.seqk fun K9 hK9 => ?_
    refine Eng.reg ?_
    refine Eng.sv rfl rfl (Eng.x_mv (v := (.int .i64 (n : Int))) rfl rfl) ?_
    refine Eng.sc rfl (Eng.xc (vl := [(.int .i64 (n : Int))]) rfl rfl rfl en193_vf) (rhalf_calls n h2 hn _) ?_
    rintro _ _ ⟨rfl, rfl⟩
    refine Eng.aft_v rfl ?_
    refine Eng.sv rfl rfl (Eng.x_as (v := (.int .i64 (H n : Int))) rfl rfl) ?_
    refine Eng.nil ?_
    refine hK9 _ _ ?_
    refine Eng.seqk fun K11 hK11 => ?_
    refine Eng.reg ?_
    refine Eng.sv rfl rfl (Eng.x_mv (v := v) rfl rfl) ?_
    refine Eng.sv rfl rfl (Eng.x_mv (v := v) rfl rfl) ?_
    have hB0_2 : Below w.heap.size w w3 := (hb2).trans (hb3.mono (hb2).size)
    have hr12 := (h).below hB0_2
    refine Eng.sv rfl rfl (Eng.x_len (v := v) (r := (xs.length : Int)) rfl Tryd.underlying36 rfl (hr12).1 rfl) ?_
    refine Eng.sv rfl rfl (Eng.x_sub rfl rfl rfl (Eng.w64 (r := ((xs.length - 1 : Nat) : Int)) (by omega))) ?_
    refine Eng.sv rfl rfl (Eng.x_ia (v := v) (j := xs.length - 1) rfl Tryd.underlying36 sz45_vf (by decide) rfl rfl (hr12).1 (Dsl.dcs_len _ (hr12).2) (by omega) (by omega)) ?_
    refine Eng.sv rfl rfl (Eng.x_ldA (v := (dg ((xs).getD (xs.length - 1) []))) rfl ag45_vf sz45_vf rfl ((bcs_length _).trans (Eng.ds_len hr12 (by omega))) (Eng.ds_at hr12 (by omega)) rfl) ?_
    refine Eng.al rfl rfl rfl zr45_vf (cs := (bcs Oct.dz)) rfl ?_
    intro w13 hk13 hb13 hz13
    refine Eng.stB (v := (dg ((xs).getD (xs.length - 1) []))) rfl rfl rfl sz45_vf rfl hk13 rfl rfl (cs' := (bcs ((xs).getD (xs.length - 1) []))) rfl ((bcs_length _).trans (Eng.ds_len hr12 (by omega))) (bcs_one _) ?_
    intro w14 hk14 hg14
    refine Eng.nil ?_
    refine hK11 _ _ ?_
    refine Eng.seqk fun K15 hK15 => ?_
    refine Eng.reg ?_
    refine Eng.sv rfl rfl (Eng.x_mv (v := v) rfl rfl) ?_
    refine Eng.sv rfl rfl (Eng.x_mv (v := v) rfl rfl) ?_
    have hB0_3 : Below w.heap.size w w13 := (hB0_2).trans (hb13.mono (hB0_2).size)
    have hB0_4 : Below w.heap.size w w14 := (hB0_3).grown hg14 (hB0_3).size (fun k e => by cases e; exact Nat.le_trans (hB0_2).size (Nat.le_refl _))
    have hr16 := (h).below hB0_4
    refine Eng.sv rfl rfl (Eng.x_len (v := v) (r := (xs.length : Int)) rfl Tryd.underlying36 rfl (hr16).1 rfl) ?_
    refine Eng.sv rfl rfl (Eng.x_sub rfl rfl rfl (Eng.w64 (r := ((xs.length - 1 : Nat) : Int)) (by omega))) ?_
    have hq17 : Dsl.Ds w (Eng.sCut v 0 (xs.length - 1) 32) (xs.take (xs.length - 1)) := (ds_pre h (by omega))
    refine Eng.sv rfl rfl (Eng.x_sl (v := v) rfl Tryd.underlying36 sz45_vf rfl (hr16).1 0 (xs.length - 1) (.inl ⟨rfl, rfl⟩) (Eng.bd (k := .i64) rfl) (by omega) (by omega)) ?_
    refine Eng.sv rfl rfl (Eng.x_as (v := (Eng.sCut v 0 (xs.length - 1) 32)) rfl rfl) ?_
    refine Eng.nil ?_
    refine hK15 _ _ ?_
    refine Eng.seqk fun K18 hK18 => ?_
    refine Eng.seqk fun K19 hK19 => ?_
    refine Eng.reg ?_
    refine Eng.sv rfl rfl (Eng.x_mv (v := (.int .i64 (i : Int))) rfl rfl) ?_
    refine Eng.sv rfl rfl (Eng.x_mv (v := (.int .i64 (H n : Int))) rfl rfl) ?_
    by_cases h30 : ((i : Int) : Int) < (H n : Int)
    · skip
      rw [if_pos (by omega)] at hwp
      refine Eng.sv rfl rfl (Eng.x_lt (r := true) rfl rfl rfl (decide_eq_true (by omega))) ?_
      refine Eng.nil ?_
      refine hK19 _ _ ?_
      refine Eng.cond_t rfl ?_
      refine Eng.seqk fun K20 hK20 => ?_
      have hk22 := (((hk2).below hb3).below hb13).grown hg14 (fun e => absurd (Option.some.inj e) (Nat.ne_of_lt (Nat.lt_of_lt_of_le hz2 (Nat.le_trans (hb3).size (Nat.le_refl _)))))
      have hr23 := (hq17).below hB0_4
      refine Eng.draw 7 [fun (vQ : Value) (_ : World) => vQ = (dg d), fun (vQ : Value) (_ : World) => vQ = (.int .i64 (i : Int)), fun (vQ : Value) (_ : World) => vQ = (.int .i64 (H n : Int)), fun (vQ : Value) (_ : World) => vQ = (Eng.sCut v 0 (xs.length - 1) 32), fun (vQ : Value) (_ : World) => vQ = (dg (climb d (wayL (i) (H n)).reverse (xs.take (xs.length - 1)))), fun (vQ : Value) (_ : World) => vQ = (dg ((xs).getD (xs.length - 1) [])), fun (vQ : Value) (_ : World) => vQ = (dg (climb d (wayL i n).reverse xs))] (by kernel_rfl) (by kernel_rfl) (by kernel_rfl) (by kernel_rfl) rfl rfl ?_ ?_ ?_
      · exact ⟨fun _ _ _ h _ => h, fun _ _ _ h _ => h, fun _ _ _ h _ => h, fun _ _ _ h _ => h, fun _ _ _ h _ => h, fun _ _ _ h _ => h, fun _ _ _ h _ => h, trivial⟩
      · refine ⟨?_, ?_, ?_, ?_, ?_, ?_, ?_, trivial⟩
        · intro u' W hbW hkp hdp K hK
          refine Eng.dv rfl rfl ?_ (hK _ _ (Below.refl _ _) rfl)
          exact (Eng.x_ldB (v := (dg d)) rfl ag45_vf sz45_vf (show Eng.opv 49 u' (.tmp 4) = (.pointer (some ⟨w.heap.size, 0, none⟩)) from hkp 4 rfl) ((hk22).below hbW) ((bcs_length _).trans hd) rfl)
        · intro u' W hbW hkp hdp K hK
          refine Eng.dv rfl rfl ?_ (hK _ _ (Below.refl _ _) rfl)
          exact (Eng.x_mv (v := (.int .i64 (i : Int))) rfl (show Eng.opv 49 u' (.tmp 1) = (.int .i64 (i : Int)) from hkp 1 rfl))
        · intro u' W hbW hkp hdp K hK
          refine Eng.dv rfl rfl ?_ (hK _ _ (Below.refl _ _) rfl)
          exact (Eng.x_mv (v := (.int .i64 (H n : Int))) rfl (show Eng.opv 49 u' (.tmp 9) = (.int .i64 (H n : Int)) from hkp 9 rfl))
        · intro u' W hbW hkp hdp K hK
          refine Eng.dv rfl rfl ?_ (hK _ _ (Below.refl _ _) rfl)
          exact (Eng.x_mv (v := (Eng.sCut v 0 (xs.length - 1) 32)) rfl (show Eng.opv 49 u' (.tmp 11) = (Eng.sCut v 0 (xs.length - 1) 32) from hkp 11 rfl))
        · intro u' W hbW hkp hdp K hK
          have e0 : (fun (vQ : Value) (_ : World) => vQ = (dg d)) (u' 31) W := hdp.1
          have e1 : (fun (vQ : Value) (_ : World) => vQ = (.int .i64 (i : Int))) (u' 32) W := hdp.2.1
          have e2 : (fun (vQ : Value) (_ : World) => vQ = (.int .i64 (H n : Int))) (u' 33) W := hdp.2.2.1
          have e3 : (fun (vQ : Value) (_ : World) => vQ = (Eng.sCut v 0 (xs.length - 1) 32)) (u' 34) W := hdp.2.2.2.1
          refine Eng.dc (vs := #[(dg d), (.int .i64 (i : Int)), (.int .i64 (H n : Int)), (Eng.sCut v 0 (xs.length - 1) 32)]) rfl ?_ (ih (H n) (by omega) (i) d _ (xs.take (xs.length - 1)) _ (by omega) (by omega) hd ((hr23).below hbW) (by rw [List.length_take]; omega)) ?_
          · exact Eng.xc (xs := #[(Go.Operand.tmp 31), (Go.Operand.tmp 32), (Go.Operand.tmp 33), (Go.Operand.tmp 34)]) (vl := [(dg d), (.int .i64 (i : Int)), (.int .i64 (H n : Int)), (Eng.sCut v 0 (xs.length - 1) 32)]) rfl rfl (Eng.lc (show Eng.opv 49 u' (.tmp 31) = (dg d) from e0) (Eng.lc (show Eng.opv 49 u' (.tmp 32) = (.int .i64 (i : Int)) from e1) (Eng.lc (show Eng.opv 49 u' (.tmp 33) = (.int .i64 (H n : Int)) from e2) (Eng.lc (show Eng.opv 49 u' (.tmp 34) = (Eng.sCut v 0 (xs.length - 1) 32) from e3) rfl)))) en141_vf
          rintro _ W2 ⟨rfl, hb2⟩
          exact Eng.aft_v rfl (hK _ _ hb2 rfl)
        · intro u' W hbW hkp hdp K hK
          refine Eng.dv rfl rfl ?_ (hK _ _ (Below.refl _ _) rfl)
          exact (Eng.x_ldB (v := (dg ((xs).getD (xs.length - 1) []))) rfl ag45_vf sz45_vf (show Eng.opv 49 u' (.tmp 10) = (.pointer (some ⟨w3.heap.size, 0, none⟩)) from hkp 10 rfl) ((hk14).below hbW) ((bcs_length _).trans (Eng.ds_len hr12 (by omega))) rfl)
        · intro u' W hbW hkp hdp K hK
          have e4 : (fun (vQ : Value) (_ : World) => vQ = (dg (climb d (wayL (i) (H n)).reverse (xs.take (xs.length - 1))))) (u' 35) W := hdp.1
          have e5 : (fun (vQ : Value) (_ : World) => vQ = (dg ((xs).getD (xs.length - 1) []))) (u' 36) W := hdp.2.1
          refine Eng.dc (vs := #[(dg (climb d (wayL (i) (H n)).reverse (xs.take (xs.length - 1)))), (dg ((xs).getD (xs.length - 1) []))]) rfl ?_ (rnode_eq (up_t h2 hn (by omega) hx) (climb_len _ _ _ hd) (Eng.ds_len hr12 (by omega)) _) ?_
          · exact Eng.xc (xs := #[(Go.Operand.tmp 35), (Go.Operand.tmp 36)]) (vl := [(dg (climb d (wayL (i) (H n)).reverse (xs.take (xs.length - 1)))), (dg ((xs).getD (xs.length - 1) []))]) rfl rfl (Eng.lc (show Eng.opv 49 u' (.tmp 35) = (dg (climb d (wayL (i) (H n)).reverse (xs.take (xs.length - 1)))) from e4) (Eng.lc (show Eng.opv 49 u' (.tmp 36) = (dg ((xs).getD (xs.length - 1) [])) from e5) rfl)) en125_vf
          rintro _ W2 ⟨rfl, hb2⟩
          exact Eng.aft_v rfl (hK _ _ hb2 rfl)
      · intro ud21 w21 hb21 hkp21 ⟨f21_0, f21_1, f21_2, f21_3, f21_4, f21_5, f21_6, _⟩
        obtain rfl := Eng.collect (l := [(31, (dg d)), (32, (.int .i64 (i : Int))), (33, (.int .i64 (H n : Int))), (34, (Eng.sCut v 0 (xs.length - 1) 32)), (35, (dg (climb d (wayL (i) (H n)).reverse (xs.take (xs.length - 1))))), (36, (dg ((xs).getD (xs.length - 1) []))), (37, (dg (climb d (wayL i n).reverse xs)))]) hkp21 ⟨f21_0, f21_1, f21_2, f21_3, f21_4, f21_5, f21_6, trivial⟩ rfl
        have hk24 := (((hk3).below hb13).grown hg14 (fun e => absurd (Option.some.inj e) (Nat.ne_of_lt (Nat.lt_of_lt_of_le hz3 (Nat.le_trans (Nat.le_refl _) (Nat.le_refl _)))))).below hb21
        refine Eng.stB (v := (dg (climb d (wayL i n).reverse xs))) rfl rfl rfl sz45_vf rfl hk24 rfl rfl (cs' := (bcs (climb d (wayL i n).reverse xs))) rfl ((bcs_length _).trans (climb_len _ _ _ hd)) (bcs_one _) ?_
        intro w25 hk25 hg25
        refine Eng.nil ?_
        refine hK20 _ _ ?_
        refine Eng.rt ?_
        refine Eng.tr ?_
        refine Eng.ret (Eng.res1 (v1 := (dg (climb d (wayL i n).reverse xs))) rfl (Eng.rdc rfl (Eng.lvB ag45_vf sz45_vf hk25 ((bcs_length _).trans (climb_len _ _ _ hd)) rfl))) ?_
        have hB0_5 : Below w.heap.size w w21 := (hB0_4).trans (hb21.mono (hB0_4).size)
        have hB0_6 : Below w.heap.size w w25 := (hB0_5).grown hg25 (hB0_5).size (fun k e => by cases e; exact Nat.le_trans (hb2).size (Nat.le_refl _))
        exact ⟨rfl, hB0_6⟩
    · skip
      rw [if_neg (by omega)] at hwp
      refine Eng.sv rfl rfl (Eng.x_lt (r := false) rfl rfl rfl (decide_eq_false (by omega))) ?_
      refine Eng.nil ?_
      refine hK19 _ _ ?_
      refine Eng.cond_f rfl ?_
      refine Eng.skp ?_
      refine hK18 _ _ ?_
      refine Eng.seqk fun K26 hK26 => ?_
      have hk28 := (((hk2).below hb3).below hb13).grown hg14 (fun e => absurd (Option.some.inj e) (Nat.ne_of_lt (Nat.lt_of_lt_of_le hz2 (Nat.le_trans (hb3).size (Nat.le_refl _)))))
      have hr29 := (hq17).below hB0_4
      refine Eng.draw 11 [fun (vQ : Value) (_ : World) => vQ = (dg ((xs).getD (xs.length - 1) [])), fun (vQ : Value) (_ : World) => vQ = (dg d), fun (vQ : Value) (_ : World) => vQ = (.int .i64 (i : Int)), fun (vQ : Value) (_ : World) => vQ = (.int .i64 (H n : Int)), fun (vQ : Value) (_ : World) => vQ = (.int .i64 ((i - H n : Nat) : Int)), fun (vQ : Value) (_ : World) => vQ = (.int .i64 (n : Int)), fun (vQ : Value) (_ : World) => vQ = (.int .i64 (H n : Int)), fun (vQ : Value) (_ : World) => vQ = (.int .i64 ((n - H n : Nat) : Int)), fun (vQ : Value) (_ : World) => vQ = (Eng.sCut v 0 (xs.length - 1) 32), fun (vQ : Value) (_ : World) => vQ = (dg (climb d (wayL (i - H n) (n - H n)).reverse (xs.take (xs.length - 1)))), fun (vQ : Value) (_ : World) => vQ = (dg (climb d (wayL i n).reverse xs))] (by kernel_rfl) (by kernel_rfl) (by kernel_rfl) (by kernel_rfl) rfl rfl ?_ ?_ ?_
      · exact ⟨fun _ _ _ h _ => h, fun _ _ _ h _ => h, fun _ _ _ h _ => h, fun _ _ _ h _ => h, fun _ _ _ h _ => h, fun _ _ _ h _ => h, fun _ _ _ h _ => h, fun _ _ _ h _ => h, fun _ _ _ h _ => h, fun _ _ _ h _ => h, fun _ _ _ h _ => h, trivial⟩
      · refine ⟨?_, ?_, ?_, ?_, ?_, ?_, ?_, ?_, ?_, ?_, ?_, trivial⟩
        · intro u' W hbW hkp hdp K hK
          refine Eng.dv rfl rfl ?_ (hK _ _ (Below.refl _ _) rfl)
          exact (Eng.x_ldB (v := (dg ((xs).getD (xs.length - 1) []))) rfl ag45_vf sz45_vf (show Eng.opv 49 u' (.tmp 10) = (.pointer (some ⟨w3.heap.size, 0, none⟩)) from hkp 10 rfl) ((hk14).below hbW) ((bcs_length _).trans (Eng.ds_len hr12 (by omega))) rfl)
        · intro u' W hbW hkp hdp K hK
          refine Eng.dv rfl rfl ?_ (hK _ _ (Below.refl _ _) rfl)
          exact (Eng.x_ldB (v := (dg d)) rfl ag45_vf sz45_vf (show Eng.opv 49 u' (.tmp 4) = (.pointer (some ⟨w.heap.size, 0, none⟩)) from hkp 4 rfl) ((hk28).below hbW) ((bcs_length _).trans hd) rfl)
        · intro u' W hbW hkp hdp K hK
          refine Eng.dv rfl rfl ?_ (hK _ _ (Below.refl _ _) rfl)
          exact (Eng.x_mv (v := (.int .i64 (i : Int))) rfl (show Eng.opv 49 u' (.tmp 1) = (.int .i64 (i : Int)) from hkp 1 rfl))
        · intro u' W hbW hkp hdp K hK
          refine Eng.dv rfl rfl ?_ (hK _ _ (Below.refl _ _) rfl)
          exact (Eng.x_mv (v := (.int .i64 (H n : Int))) rfl (show Eng.opv 49 u' (.tmp 9) = (.int .i64 (H n : Int)) from hkp 9 rfl))
        · intro u' W hbW hkp hdp K hK
          have e2 : (fun (vQ : Value) (_ : World) => vQ = (.int .i64 (i : Int))) (u' 40) W := hdp.1
          have e3 : (fun (vQ : Value) (_ : World) => vQ = (.int .i64 (H n : Int))) (u' 41) W := hdp.2.1
          refine Eng.dv rfl rfl ?_ (hK _ _ (Below.refl _ _) rfl)
          exact (Eng.x_sub rfl (show Eng.opv 49 u' (.tmp 40) = (.int .i64 (i : Int)) from e2) (show Eng.opv 49 u' (.tmp 41) = (.int .i64 (H n : Int)) from e3) (Eng.w64 (r := ((i - H n : Nat) : Int)) (by omega)))
        · intro u' W hbW hkp hdp K hK
          refine Eng.dv rfl rfl ?_ (hK _ _ (Below.refl _ _) rfl)
          exact (Eng.x_mv (v := (.int .i64 (n : Int))) rfl (show Eng.opv 49 u' (.tmp 2) = (.int .i64 (n : Int)) from hkp 2 rfl))
        · intro u' W hbW hkp hdp K hK
          refine Eng.dv rfl rfl ?_ (hK _ _ (Below.refl _ _) rfl)
          exact (Eng.x_mv (v := (.int .i64 (H n : Int))) rfl (show Eng.opv 49 u' (.tmp 9) = (.int .i64 (H n : Int)) from hkp 9 rfl))
        · intro u' W hbW hkp hdp K hK
          have e5 : (fun (vQ : Value) (_ : World) => vQ = (.int .i64 (n : Int))) (u' 43) W := hdp.1
          have e6 : (fun (vQ : Value) (_ : World) => vQ = (.int .i64 (H n : Int))) (u' 44) W := hdp.2.1
          refine Eng.dv rfl rfl ?_ (hK _ _ (Below.refl _ _) rfl)
          exact (Eng.x_sub rfl (show Eng.opv 49 u' (.tmp 43) = (.int .i64 (n : Int)) from e5) (show Eng.opv 49 u' (.tmp 44) = (.int .i64 (H n : Int)) from e6) (Eng.w64 (r := ((n - H n : Nat) : Int)) (by omega)))
        · intro u' W hbW hkp hdp K hK
          refine Eng.dv rfl rfl ?_ (hK _ _ (Below.refl _ _) rfl)
          exact (Eng.x_mv (v := (Eng.sCut v 0 (xs.length - 1) 32)) rfl (show Eng.opv 49 u' (.tmp 11) = (Eng.sCut v 0 (xs.length - 1) 32) from hkp 11 rfl))
        · intro u' W hbW hkp hdp K hK
          have e1 : (fun (vQ : Value) (_ : World) => vQ = (dg d)) (u' 39) W := hdp.1
          have e4 : (fun (vQ : Value) (_ : World) => vQ = (.int .i64 ((i - H n : Nat) : Int))) (u' 42) W := hdp.2.1
          have e7 : (fun (vQ : Value) (_ : World) => vQ = (.int .i64 ((n - H n : Nat) : Int))) (u' 45) W := hdp.2.2.1
          have e8 : (fun (vQ : Value) (_ : World) => vQ = (Eng.sCut v 0 (xs.length - 1) 32)) (u' 46) W := hdp.2.2.2.1
          refine Eng.dc (vs := #[(dg d), (.int .i64 ((i - H n : Nat) : Int)), (.int .i64 ((n - H n : Nat) : Int)), (Eng.sCut v 0 (xs.length - 1) 32)]) rfl ?_ (ih (n - H n) (by omega) (i - H n) d _ (xs.take (xs.length - 1)) _ (by omega) (by omega) hd ((hr29).below hbW) (by rw [List.length_take]; omega)) ?_
          · exact Eng.xc (xs := #[(Go.Operand.tmp 39), (Go.Operand.tmp 42), (Go.Operand.tmp 45), (Go.Operand.tmp 46)]) (vl := [(dg d), (.int .i64 ((i - H n : Nat) : Int)), (.int .i64 ((n - H n : Nat) : Int)), (Eng.sCut v 0 (xs.length - 1) 32)]) rfl rfl (Eng.lc (show Eng.opv 49 u' (.tmp 39) = (dg d) from e1) (Eng.lc (show Eng.opv 49 u' (.tmp 42) = (.int .i64 ((i - H n : Nat) : Int)) from e4) (Eng.lc (show Eng.opv 49 u' (.tmp 45) = (.int .i64 ((n - H n : Nat) : Int)) from e7) (Eng.lc (show Eng.opv 49 u' (.tmp 46) = (Eng.sCut v 0 (xs.length - 1) 32) from e8) rfl)))) en141_vf
          rintro _ W2 ⟨rfl, hb2⟩
          exact Eng.aft_v rfl (hK _ _ hb2 rfl)
        · intro u' W hbW hkp hdp K hK
          have e0 : (fun (vQ : Value) (_ : World) => vQ = (dg ((xs).getD (xs.length - 1) []))) (u' 38) W := hdp.1
          have e9 : (fun (vQ : Value) (_ : World) => vQ = (dg (climb d (wayL (i - H n) (n - H n)).reverse (xs.take (xs.length - 1))))) (u' 47) W := hdp.2.1
          refine Eng.dc (vs := #[(dg ((xs).getD (xs.length - 1) [])), (dg (climb d (wayL (i - H n) (n - H n)).reverse (xs.take (xs.length - 1))))]) rfl ?_ (rnode_eq (up_f h2 hn (by omega) hx) (Eng.ds_len hr12 (by omega)) (climb_len _ _ _ hd) _) ?_
          · exact Eng.xc (xs := #[(Go.Operand.tmp 38), (Go.Operand.tmp 47)]) (vl := [(dg ((xs).getD (xs.length - 1) [])), (dg (climb d (wayL (i - H n) (n - H n)).reverse (xs.take (xs.length - 1))))]) rfl rfl (Eng.lc (show Eng.opv 49 u' (.tmp 38) = (dg ((xs).getD (xs.length - 1) [])) from e0) (Eng.lc (show Eng.opv 49 u' (.tmp 47) = (dg (climb d (wayL (i - H n) (n - H n)).reverse (xs.take (xs.length - 1)))) from e9) rfl)) en125_vf
          rintro _ W2 ⟨rfl, hb2⟩
          exact Eng.aft_v rfl (hK _ _ hb2 rfl)
      · intro ud27 w27 hb27 hkp27 ⟨f27_0, f27_1, f27_2, f27_3, f27_4, f27_5, f27_6, f27_7, f27_8, f27_9, f27_10, _⟩
        obtain rfl := Eng.collect (l := [(38, (dg ((xs).getD (xs.length - 1) []))), (39, (dg d)), (40, (.int .i64 (i : Int))), (41, (.int .i64 (H n : Int))), (42, (.int .i64 ((i - H n : Nat) : Int))), (43, (.int .i64 (n : Int))), (44, (.int .i64 (H n : Int))), (45, (.int .i64 ((n - H n : Nat) : Int))), (46, (Eng.sCut v 0 (xs.length - 1) 32)), (47, (dg (climb d (wayL (i - H n) (n - H n)).reverse (xs.take (xs.length - 1))))), (48, (dg (climb d (wayL i n).reverse xs)))]) hkp27 ⟨f27_0, f27_1, f27_2, f27_3, f27_4, f27_5, f27_6, f27_7, f27_8, f27_9, f27_10, trivial⟩ rfl
        have hk30 := (((hk3).below hb13).grown hg14 (fun e => absurd (Option.some.inj e) (Nat.ne_of_lt (Nat.lt_of_lt_of_le hz3 (Nat.le_trans (Nat.le_refl _) (Nat.le_refl _)))))).below hb27
        refine Eng.stB (v := (dg (climb d (wayL i n).reverse xs))) rfl rfl rfl sz45_vf rfl hk30 rfl rfl (cs' := (bcs (climb d (wayL i n).reverse xs))) rfl ((bcs_length _).trans (climb_len _ _ _ hd)) (bcs_one _) ?_
        intro w31 hk31 hg31
        refine Eng.nil ?_
        refine hK26 _ _ ?_
        refine Eng.rt ?_
        refine Eng.ret (Eng.res1 (v1 := (dg (climb d (wayL i n).reverse xs))) rfl (Eng.rdc rfl (Eng.lvB ag45_vf sz45_vf hk31 ((bcs_length _).trans (climb_len _ _ _ hd)) rfl))) ?_
        have hB0_5 : Below w.heap.size w w27 := (hB0_4).trans (hb27.mono (hB0_4).size)
        have hB0_6 : Below w.heap.size w w31 := (hB0_5).grown hg31 (hB0_5).size (fun k e => by cases e; exact Nat.le_trans (hb2).size (Nat.le_refl _))
        exact ⟨rfl, hB0_6⟩
theorem up_calls (n : Nat) : UpC n := by
  induction n using Nat.strongRecOn with
  | ind n ih => exact fun i d v xs w => up_step n ih i d v xs w
theorem upI {i n : Int} (hr : rightB i n = true) {d : List UInt8} (hd : d.length = 32) {v : Value} {xs : List (List UInt8)} {w : World} (h : Ds w v xs) (hl : lenN i n = xs.length) : Calls Tryd.prog 141 #[dg d, .int .i64 i, .int .i64 n, v] w fun e w' => e = .returned (dg (rootD d i n xs)) ∧ Below w.heap.size w w' := by
  obtain ⟨h1, h2, h3, h4⟩ := rightB_iff.1 hr
  have hE : rootE i n xs.length = 0 := by simp [rootE, hr, hl]
  unfold rootD
  rw [if_pos hE]
  obtain ⟨a, rfl⟩ : ∃ a : Nat, i = (a : Int) := ⟨i.toNat, by omega⟩
  obtain ⟨b, rfl⟩ : ∃ b : Nat, n = (b : Int) := ⟨n.toNat, by omega⟩
  exact up_calls b a d v xs w (by omega) (by omega) hd h hl.symm
set_option maxRecDepth 100000 in
set_option maxHeartbeats 4000000 in
theorem rroot_ok (d : List UInt8) (hd : d.length = 32) (i n : Int) (v : Value) (xs : List (List UInt8)) (w : World) (h : Ds w v xs) (hr : rightB i n = true) : Calls Tryd.prog 76 #[(dg d), (.int .i64 i), (.int .i64 n), v] w (fun e w' => e = .returned (.tuple #[dg (rootD d i n xs), .int .i64 (rootE i n xs.length)]) ∧ Below w.heap.size w w') := by
  have hsm := h.1.small
  refine Eng.enter (l := [(dg d), (.int .i64 i), (.int .i64 n), v]) Tryd.func76 rfl 32 rfl (by simp) ?_
  refine Eng.seqk fun K1 hK1 => ?_
  refine Eng.reg ?_
  refine Eng.bo (v := (dg d)) (cs := (bcs d)) rfl rfl rfl rfl rfl ?_
  intro w2 hk2 hb2 hz2
  refine Eng.al rfl rfl rfl zr45_vf (cs := (bcs Oct.dz)) rfl ?_
  intro w3 hk3 hb3 hz3
  refine Eng.sv rfl rfl (Eng.x_as (v := (.int .i64 0)) rfl rfl) ?_
  refine Eng.nil ?_
  refine hK1 _ _ ?_
  refine Eng.seqk fun K4 hK4 => ?_
  refine Eng.reg ?_
  refine Eng.sv rfl rfl (Eng.x_mv (v := (.int .i64 i)) rfl rfl) ?_
  refine Eng.sv rfl rfl (Eng.x_mv (v := (.int .i64 n)) rfl rfl) ?_
  refine Eng.sc rfl (Eng.xc (vl := [(.int .i64 i), (.int .i64 n)]) rfl rfl rfl en140_vf) (rlen_ok hr _) ?_
  rintro _ _ ⟨rfl, rfl⟩
  refine Eng.aft_v rfl ?_
  refine Eng.sv rfl rfl (Eng.x_mv (v := (.tuple #[(.int .i64 (lenN i n : Int)), (.int .i64 0)])) rfl rfl) ?_
  refine Eng.sv rfl rfl (Eng.x_ext (v := (.int .i64 (lenN i n : Int))) rfl rfl rfl) ?_
  refine Eng.sv rfl rfl (Eng.x_ext (v := (.int .i64 0)) rfl rfl rfl) ?_
  refine Eng.sv rfl rfl (Eng.x_as (v := (.int .i64 (lenN i n : Int))) rfl rfl) ?_
  refine Eng.sv rfl rfl (Eng.x_as (v := (.int .i64 0)) rfl rfl) ?_
  refine Eng.nil ?_
  refine hK4 _ _ ?_
  refine Eng.seqk fun K6 hK6 => ?_
  refine Eng.seqk fun K7 hK7 => ?_
  refine Eng.reg ?_
  refine Eng.sv rfl rfl (Eng.x_mv (v := (.int .i64 0)) rfl rfl) ?_
  refine Eng.sv rfl rfl (Eng.x_ne (r := false) rfl rfl rfl (Eng.ne_f (by omega))) ?_
  refine Eng.nil ?_
  refine hK7 _ _ ?_
  refine Eng.cond_f rfl ?_
  refine Eng.skp ?_
  refine hK6 _ _ ?_
  refine Eng.seqk fun K8 hK8 => ?_
  refine Eng.seqk fun K9 hK9 => ?_
  refine Eng.reg ?_
  refine Eng.sv rfl rfl (Eng.x_mv (v := v) rfl rfl) ?_
  have hB0_2 : Below w.heap.size w w3 := (hb2).trans (hb3.mono (hb2).size)
  have hr10 := (h).below hB0_2
  refine Eng.sv rfl rfl (Eng.x_len (v := v) (r := (xs.length : Int)) rfl Tryd.underlying36 rfl (hr10).1 rfl) ?_
  refine Eng.sv rfl rfl (Eng.x_mv (v := (.int .i64 (lenN i n : Int))) rfl rfl) ?_
  by_cases h25 : ((xs.length : Int) : Int) ≠ (lenN i n : Int)
  · skip
    refine Eng.sv rfl rfl (Eng.x_ne (r := true) rfl rfl rfl (Eng.ne_t (by omega))) ?_
    refine Eng.nil ?_
    refine hK9 _ _ ?_
    refine Eng.cond_t rfl ?_
    refine Eng.seqk fun K11 hK11 => ?_
    refine Eng.reg ?_
    refine Eng.sv rfl rfl (Eng.x_build (ps := []) (v := (dg Oct.dz)) rfl rfl (by kernel_rfl)) ?_
    refine Eng.stB (v := (dg Oct.dz)) rfl rfl rfl sz45_vf rfl hk3 rfl rfl (cs' := (bcs Oct.dz)) rfl rfl (bcs_one _) ?_
    intro w12 hk12 hg12
    refine Eng.sv rfl rfl (Eng.x_as (v := (.int .i64 70)) rfl rfl) ?_
    refine Eng.nil ?_
    refine hK11 _ _ ?_
    refine Eng.rt ?_
    refine Eng.tr ?_
    refine Eng.ret (Eng.res2 (v1 := (dg Oct.dz)) (v2 := (.int .i64 70)) rfl (Eng.rdc rfl (Eng.lvB ag45_vf sz45_vf hk12 rfl rfl)) (Eng.rdt rfl)) ?_
    have hB0_3 : Below w.heap.size w w12 := (hB0_2).grown hg12 (hB0_2).size (fun k e => by cases e; exact Nat.le_trans (hb2).size (Nat.le_refl _))
    have hnl : lenN i n ≠ xs.length := by omega
    exact ⟨by simp [rootD, rootE, hr, hnl], hB0_3⟩
  · skip
    refine Eng.sv rfl rfl (Eng.x_ne (r := false) rfl rfl rfl (Eng.ne_f (by omega))) ?_
    refine Eng.nil ?_
    refine hK9 _ _ ?_
    refine Eng.cond_f rfl ?_
    refine Eng.skp ?_
    refine hK8 _ _ ?_
    refine Eng.seqk fun K13 hK13 => ?_
    refine Eng.reg ?_
    have hk14 := (hk2).below hb3
    refine Eng.sv rfl rfl (Eng.x_ldB (v := (dg d)) rfl ag45_vf sz45_vf rfl hk14 ((bcs_length _).trans hd) rfl) ?_
    refine Eng.sv rfl rfl (Eng.x_mv (v := (.int .i64 i)) rfl rfl) ?_
    refine Eng.sv rfl rfl (Eng.x_mv (v := (.int .i64 n)) rfl rfl) ?_
    refine Eng.sv rfl rfl (Eng.x_mv (v := v) rfl rfl) ?_
    refine Eng.sc rfl (Eng.xc (vl := [(dg d), (.int .i64 i), (.int .i64 n), v]) rfl rfl rfl en141_vf) (upI hr hd hr10 (by omega)) ?_
    rintro _ w15 ⟨rfl, hb15⟩
    refine Eng.aft_v rfl ?_
    have hk16 := (hk3).below hb15
    refine Eng.stB (v := (dg (rootD d i n xs))) rfl rfl rfl sz45_vf rfl hk16 rfl rfl (cs' := (bcs (rootD d i n xs))) rfl ((bcs_length _).trans (rootD_len _ _ _ _ hd)) (bcs_one _) ?_
    intro w17 hk17 hg17
    refine Eng.sv rfl rfl (Eng.x_as (v := (.int .i64 0)) rfl rfl) ?_
    refine Eng.nil ?_
    refine hK13 _ _ ?_
    refine Eng.rt ?_
    refine Eng.ret (Eng.res2 (v1 := (dg (rootD d i n xs))) (v2 := (.int .i64 0)) rfl (Eng.rdc rfl (Eng.lvB ag45_vf sz45_vf hk17 ((bcs_length _).trans (rootD_len _ _ _ _ hd)) rfl)) (Eng.rdt rfl)) ?_
    have hB0_3 : Below w.heap.size w w15 := (hB0_2).trans (hb15.mono (hB0_2).size)
    have hB0_4 : Below w.heap.size w w17 := (hB0_3).grown hg17 (hB0_3).size (fun k e => by cases e; exact Nat.le_trans (hb2).size (Nat.le_refl _))
    have hE : rootE i n xs.length = 0 := by simp [rootE, hr, show lenN i n = xs.length by omega]
    exact ⟨by rw [hE], hB0_4⟩
set_option maxRecDepth 100000 in
set_option maxHeartbeats 4000000 in
theorem rroot_no (d : List UInt8) (hd : d.length = 32) (i n : Int) (v : Value) (xs : List (List UInt8)) (w : World) (h : Ds w v xs) (hr : rightB i n = false) : Calls Tryd.prog 76 #[(dg d), (.int .i64 i), (.int .i64 n), v] w (fun e w' => e = .returned (.tuple #[dg (rootD d i n xs), .int .i64 (rootE i n xs.length)]) ∧ Below w.heap.size w w') := by
  have hsm := h.1.small
  refine Eng.enter (l := [(dg d), (.int .i64 i), (.int .i64 n), v]) Tryd.func76 rfl 32 rfl (by simp) ?_
  refine Eng.seqk fun K1 hK1 => ?_
  refine Eng.reg ?_
  refine Eng.bo (v := (dg d)) (cs := (bcs d)) rfl rfl rfl rfl rfl ?_
  intro w2 hk2 hb2 hz2
  refine Eng.al rfl rfl rfl zr45_vf (cs := (bcs Oct.dz)) rfl ?_
  intro w3 hk3 hb3 hz3
  refine Eng.sv rfl rfl (Eng.x_as (v := (.int .i64 0)) rfl rfl) ?_
  refine Eng.nil ?_
  refine hK1 _ _ ?_
  refine Eng.seqk fun K4 hK4 => ?_
  refine Eng.reg ?_
  refine Eng.sv rfl rfl (Eng.x_mv (v := (.int .i64 i)) rfl rfl) ?_
  refine Eng.sv rfl rfl (Eng.x_mv (v := (.int .i64 n)) rfl rfl) ?_
  refine Eng.sc rfl (Eng.xc (vl := [(.int .i64 i), (.int .i64 n)]) rfl rfl rfl en140_vf) (rlen_no hr _) ?_
  rintro _ _ ⟨rfl, rfl⟩
  refine Eng.aft_v rfl ?_
  refine Eng.sv rfl rfl (Eng.x_mv (v := (.tuple #[(.int .i64 0), (.int .i64 40)])) rfl rfl) ?_
  refine Eng.sv rfl rfl (Eng.x_ext (v := (.int .i64 0)) rfl rfl rfl) ?_
  refine Eng.sv rfl rfl (Eng.x_ext (v := (.int .i64 40)) rfl rfl rfl) ?_
  refine Eng.sv rfl rfl (Eng.x_as (v := (.int .i64 0)) rfl rfl) ?_
  refine Eng.sv rfl rfl (Eng.x_as (v := (.int .i64 40)) rfl rfl) ?_
  refine Eng.nil ?_
  refine hK4 _ _ ?_
  refine Eng.seqk fun K6 hK6 => ?_
  refine Eng.seqk fun K7 hK7 => ?_
  refine Eng.reg ?_
  refine Eng.sv rfl rfl (Eng.x_mv (v := (.int .i64 40)) rfl rfl) ?_
  refine Eng.sv rfl rfl (Eng.x_ne (r := true) rfl rfl rfl (Eng.ne_t (by omega))) ?_
  refine Eng.nil ?_
  refine hK7 _ _ ?_
  refine Eng.cond_t rfl ?_
  refine Eng.seqk fun K8 hK8 => ?_
  refine Eng.reg ?_
  refine Eng.sv rfl rfl (Eng.x_build (ps := []) (v := (dg Oct.dz)) rfl rfl (by kernel_rfl)) ?_
  refine Eng.sv rfl rfl (Eng.x_mv (v := (.int .i64 40)) rfl rfl) ?_
  refine Eng.stB (v := (dg Oct.dz)) rfl rfl rfl sz45_vf rfl hk3 rfl rfl (cs' := (bcs Oct.dz)) rfl rfl (bcs_one _) ?_
  intro w9 hk9 hg9
  refine Eng.sv rfl rfl (Eng.x_as (v := (.int .i64 40)) rfl rfl) ?_
  refine Eng.nil ?_
  refine hK8 _ _ ?_
  refine Eng.rt ?_
  refine Eng.tr ?_
  refine Eng.ret (Eng.res2 (v1 := (dg Oct.dz)) (v2 := (.int .i64 40)) rfl (Eng.rdc rfl (Eng.lvB ag45_vf sz45_vf hk9 rfl rfl)) (Eng.rdt rfl)) ?_
  have hB0_2 : Below w.heap.size w w3 := (hb2).trans (hb3.mono (hb2).size)
  have hB0_3 : Below w.heap.size w w9 := (hB0_2).grown hg9 (hB0_2).size (fun k e => by cases e; exact Nat.le_trans (hb2).size (Nat.le_refl _))
  exact ⟨by simp [rootD, rootE, hr], hB0_3⟩
theorem rroot_calls (d : List UInt8) (hd : d.length = 32) (i n : Int) (v : Value) (xs : List (List UInt8)) (w : World) (h : Ds w v xs) : Calls Tryd.prog 76 #[dg d, .int .i64 i, .int .i64 n, v] w (fun e w' => e = .returned (.tuple #[dg (rootD d i n xs), .int .i64 (rootE i n xs.length)]) ∧ Below w.heap.size w w') := by
  rcases Eng.tf (rightB i n) with hr | hr
  · exact rroot_ok d hd i n v xs w h hr
  · exact rroot_no d hd i n v xs w h hr
end Go.Proofs.YtnecgoahdkfbeaaDoor.Vfy
end

section
namespace Go.Proofs.YtnecgoahdkfbeaaDoor.TreP
open Go Go.RowKit Go.Proofs.YtnecgoahdkfbeaaDoor Go.Proofs.YtnecgoahdkfbeaaDoor.Cop Go.Proofs.YtnecgoahdkfbeaaDoor.Ver Go.Proofs.YtnecgoahdkfbeaaDoor.Tre Go.Proofs.YtnecgoahdkfbeaaDoor.Vfy Go.Proofs.YtnecgoahdkfbeaaDoor.Oct Go.Proofs.YtnecgoahdkfbeaaDoor.Dsl Go.Proofs.YtnecgoahdkfbeaaDoor.Sha
set_option linter.unusedVariables false
set_option linter.unusedSimpArgs false
theorem zr45_rt (w : World) : (zeroValue 45).run Tryd.prog w = .ok (dg Oct.dz) w := by kernel_rfl
theorem en132_rt : Eng.Entr Tryd.prog 132 := ⟨_, Tryd.func132, by kernel_rfl, by kernel_rfl⟩
theorem sz45_rt : (Tryd.prog.info? 45).map (fun i => i.size) = some 32 := by kernel_rfl
theorem ag45_rt (w : World) : (isAgg 45).run Tryd.prog w = .ok true w := by kernel_rfl
theorem en116_rt : Eng.Entr Tryd.prog 116 := ⟨_, Tryd.func116, by kernel_rfl, by kernel_rfl⟩
theorem zr187_rt (w : World) : (zeroValue 187).run Tryd.prog w = .ok (.agg ((.int .i64 0) :: (bcs Oct.dz) : List Value).toArray) w := by kernel_rfl
theorem sz187_rt : (Tryd.prog.info? 187).map (fun i => i.size) = some 33 := by kernel_rfl
theorem ag187_rt (w : World) : (isAgg 187).run Tryd.prog w = .ok true w := by kernel_rfl
theorem inL187_rt : (Tryd.prog.info? 187).map (fun i => (i.zero, i.size, i.bytes)) = some (some (.agg (encP (0, Oct.dz)).toArray), 33, 40) := by kernel_rfl
theorem ag3_rt (w : World) : (isAgg 3).run Tryd.prog w = .ok false w := by kernel_rfl
theorem en117_rt : Eng.Entr Tryd.prog 117 := ⟨_, Tryd.func117, by kernel_rfl, by kernel_rfl⟩
theorem en118_rt : Eng.Entr Tryd.prog 118 := ⟨_, Tryd.func118, by kernel_rfl, by kernel_rfl⟩
theorem en177_rt : Eng.Entr Tryd.prog 177 := ⟨_, Tryd.func177, by kernel_rfl, by kernel_rfl⟩
theorem updZ2 (u : Nat → Value) (p q : Nat) (a b : Value) : Eng.updZ u #[p, q] #[a, b] = Eng.upd (Eng.upd u p a) q b := by simp [Eng.updZ]
theorem own_at {w : World} {base : Nat} {e : TypeId} {sz : Nat} {v : Value} {n : Nat} {xs : List Value} (h : w.ownsRow base e sz v n xs) {g7 z : Nat} (hg : ∀ g, v.ownBlock = some g → g ≠ g7) (hz : z < w.heap.size) (hz7 : z ≠ g7) : ∃ y, y < w.heap.size ∧ (∀ a n c, v = .slice (some a) n c → a.block = y) ∧ y ≠ g7 := by
  rcases h.2 with ⟨rfl, _⟩ | ⟨g, cap, cur, rfl, _, hh, _⟩
  · exact ⟨z, hz, (fun a n c e => by cases e), hz7⟩
  · exact ⟨g, (Array.getElem?_eq_some_iff.1 hh).1, (fun a n c e => by cases e; rfl), hg g rfl⟩
theorem rev_last {q : Nat × List UInt8} {r s : List (Nat × List UInt8)} (h : s = q :: r) : s.reverse.getD (s.reverse.length - 1) dP = q ∧ s.reverse.take (s.reverse.length - 1) = r.reverse := by
  subst h
  rw [List.reverse_cons, List.length_append]
  simp
theorem cons_of {s : List (Nat × List UInt8)} (h : ¬ s.length = 0) : ∃ q r, s = q :: r := by
  cases s with
  | nil => exact absurd rfl h
  | cons q r => exact ⟨q, r, rfl⟩
theorem all32_sub {a b c : List (List UInt8)} (h : All32 c) {k : Nat} (e : a ++ b = c.take k) : All32 b := fun d hd => h d (List.mem_of_mem_take (by rw [← e]; exact List.mem_append_right _ hd))
theorem len_sub {a b c : List (List UInt8)} {k : Nat} (e : a ++ b = c.take k) : a.length + b.length ≤ c.length := by
  have := congrArg List.length e
  rw [List.length_append, List.length_take] at this; omega
set_option maxRecDepth 100000 in
set_option maxHeartbeats 4000000 in
theorem empty_calls (w : World) (hK : Kon w) : Calls Tryd.prog 116 #[] w (fun e w' => e = .returned (dg (sha [])) ∧ Below w.heap.size w w') := by
  refine Eng.enter (l := []) Tryd.func116 rfl 2 rfl (by simp) ?_
  refine Eng.seqk fun K1 hK1 => ?_
  refine Eng.reg ?_
  refine Eng.al rfl rfl rfl zr45_rt (cs := (bcs Oct.dz)) rfl ?_
  intro w2 hk2 hb2 hz2
  refine Eng.nil ?_
  refine hK1 _ _ ?_
  refine Eng.seqk fun K3 hK3 => ?_
  refine Eng.reg ?_
  have hr4 := (hK).below hb2
  refine Eng.sc rfl (Eng.xc (vl := [(.slice none 0 0)]) rfl rfl rfl en132_rt) (hsum_calls (.slice none 0 0) [] _ (Row.nil _) (fun _ _ _ e => by cases e) (by simp) hr4) ?_
  rintro _ w5 ⟨rfl, hb5⟩
  refine Eng.aft_v rfl ?_
  have hk6 := (hk2).below hb5
  refine Eng.stB (v := (dg (sha []))) rfl rfl rfl sz45_rt rfl hk6 rfl rfl (cs' := (bcs (sha []))) rfl ((bcs_length _).trans (sha_len _)) (bcs_one _) ?_
  intro w7 hk7 hg7
  refine Eng.nil ?_
  refine hK3 _ _ ?_
  refine Eng.rt ?_
  refine Eng.ret (Eng.res1 (v1 := (dg (sha []))) rfl (Eng.rdc rfl (Eng.lvB ag45_rt sz45_rt hk7 ((bcs_length _).trans (sha_len _)) rfl))) ?_
  have hB0_2 : Below w.heap.size w w5 := (hb2).trans (hb5.mono (hb2).size)
  have hB0_3 : Below w.heap.size w w7 := (hB0_2).grown hg7 (hB0_2).size (fun k e => by cases e; exact Nat.le_trans (Nat.le_refl _) (Nat.le_refl _))
  exact ⟨rfl, hB0_3⟩
set_option maxRecDepth 100000 in
set_option maxHeartbeats 4000000 in
theorem troot_calls (v : Value) (ds : List (List UInt8)) (w : World) (h : Ds w v ds) (hm : ds.length ≤ 281474976710656) (hK : Kon w) : Calls Tryd.prog 58 #[v] w (fun e w' => e = .returned (dg (rootS ds)) ∧ Below w.heap.size w w') := by
  have hsm := h.1.small
  refine Eng.enterM (l := [v]) Tryd.func58 rfl 81 rfl (by simp) ?_
  refine Eng.seqk fun K1 hK1 => ?_
  refine Eng.reg ?_
  refine Eng.al rfl rfl rfl zr45_rt (cs := (bcs Oct.dz)) rfl ?_
  intro w2 hk2 hb2 hz2
  refine Eng.nil ?_
  refine hK1 _ _ ?_
  refine Eng.seqk fun K3 hK3 => ?_
  refine Eng.seqk fun K4 hK4 => ?_
  refine Eng.reg ?_
  refine Eng.sv rfl rfl (Eng.x_mv (v := v) rfl rfl) ?_
  have hr5 := (h).below hb2
  refine Eng.sv rfl rfl (Eng.x_len (v := v) (r := (ds.length : Int)) rfl Tryd.underlying36 rfl (hr5).1 rfl) ?_
  by_cases h12 : ((ds.length : Int) : Int) = 0
  · skip
    refine Eng.sv rfl rfl (Eng.x_eq (r := true) rfl rfl rfl (Eng.eq_t (by omega))) ?_
    refine Eng.nil ?_
    refine hK4 _ _ ?_
    refine Eng.cond_t rfl ?_
    refine Eng.seqk fun K6 hK6 => ?_
    refine Eng.reg ?_
    have hr7 := (hK).below hb2
    refine Eng.sc rfl (Eng.xc (vl := []) rfl rfl rfl en116_rt) (empty_calls _ hr7) ?_
    rintro _ w8 ⟨rfl, hb8⟩
    refine Eng.aft_v rfl ?_
    have hk9 := (hk2).below hb8
    refine Eng.stB (v := (dg (sha []))) rfl rfl rfl sz45_rt rfl hk9 rfl rfl (cs' := (bcs (sha []))) rfl ((bcs_length _).trans (sha_len _)) (bcs_one _) ?_
    intro w10 hk10 hg10
    refine Eng.nil ?_
    refine hK6 _ _ ?_
    refine Eng.rt ?_
    refine Eng.tr ?_
    refine Eng.retM (Eng.res1 (v1 := (dg (sha []))) rfl (Eng.rdc rfl (Eng.lvB ag45_rt sz45_rt hk10 ((bcs_length _).trans (sha_len _)) rfl))) ?_
    have hB0_2 : Below w.heap.size w w8 := (hb2).trans (hb8.mono (hb2).size)
    have hB0_3 : Below w.heap.size w w10 := (hB0_2).grown hg10 (hB0_2).size (fun k e => by cases e; exact Nat.le_trans (Nat.le_refl _) (Nat.le_refl _))
    exact ⟨by unfold rootS; rw [if_pos (by omega)], hB0_3⟩
  · skip
    have hR32 : (R ds).length = 32 := R_len ds h.2 (by omega)
    refine Eng.sv rfl rfl (Eng.x_eq (r := false) rfl rfl rfl (Eng.eq_f (by omega))) ?_
    refine Eng.nil ?_
    refine hK4 _ _ ?_
    refine Eng.cond_f rfl ?_
    refine Eng.skp ?_
    refine hK3 _ _ ?_
    refine Eng.seqk fun K11 hK11 => ?_
    refine Eng.reg ?_
    refine Eng.sv rfl rfl (Eng.x_as (v := (.slice none 0 0)) rfl rfl) ?_
    refine Eng.nil ?_
    refine hK11 _ _ ?_
    refine Eng.seqk fun K12 hK12 => ?_
    refine Eng.seqk fun K13 hK13 => ?_
    refine Eng.reg ?_
    refine Eng.sv rfl rfl (Eng.x_mv (v := v) rfl rfl) ?_
    refine Eng.sv rfl rfl (Eng.x_len (v := v) (r := (ds.length : Int)) rfl Tryd.underlying36 rfl (hr5).1 rfl) ?_
    refine Eng.sv rfl rfl (Eng.x_mv (v := (.int .i64 0)) rfl rfl) ?_
    refine Eng.nil ?_
    refine hK13 _ _ ?_
    refine Eng.blk ?_
    refine Eng.loopN (fun zz u w' => ∃ (k : Nat), ∃ (s : List (Nat × List UInt8)), ∃ (vp : Value), zz = ds.length - k ∧ k ≤ ds.length ∧ PK s (ds.take k) 0 ∧ Eng.Has u [(2, (.pointer (some ⟨w.heap.size, 0, none⟩))), (3, vp), (14, v), (15, (.int .i64 (ds.length : Int))), (16, (.int .i64 (k : Int)))] ∧ Below w.heap.size w w' ∧ w2.heap.size ≤ w'.heap.size ∧ Blk w' w.heap.size 45 (bcs Oct.dz) ∧ Eng.OwnL 187 33 encP w2.heap.size w' vp s.reverse) _ ⟨0, [], (.slice none 0 0), rfl, Nat.zero_le _, rfl, ⟨rfl, rfl, rfl, rfl, (Eng.ie (by first | omega | rfl)), trivial⟩, hb2, (Nat.le_refl _), hk2, (Eng.OwnL.nil _ _ _ _ _)⟩ ?_
    rintro _ u14 w14 ⟨k, s, vp, rfl, hs14_0, hs14_1, hH14, hBL14, hzL14, hkL14_0, hrL14_0⟩ K14 hK14
    obtain ⟨u14, rfl⟩ := hH14.ex
    have hk_ : k ≤ ds.length := hs14_0
    have hs_ : PK s (ds.take k) 0 := hs14_1
    refine Eng.seqk fun K15 hK15 => ?_
    refine Eng.reg ?_
    by_cases h17 : ((k : Int) : Int) < (ds.length : Int)
    · skip
      refine Eng.sv rfl rfl (Eng.x_lt (r := true) rfl rfl rfl (decide_eq_true (by omega))) ?_
      refine Eng.nil ?_
      refine hK15 _ _ ?_
      refine Eng.seqk fun K16 hK16 => ?_
      refine Eng.cond_t rfl ?_
      refine Eng.skp ?_
      refine hK16 _ _ ?_
      refine Eng.seqk fun K17 hK17 => ?_
      refine Eng.blk ?_
      refine Eng.seqk fun K18 hK18 => ?_
      refine Eng.reg ?_
      have hr19 := (h).below hBL14
      refine Eng.sv rfl rfl (Eng.x_ia (v := v) (j := k) rfl Tryd.underlying36 sz45_rt (by decide) rfl rfl (hr19).1 (Dsl.dcs_len _ (hr19).2) (by omega) (by omega)) ?_
      refine Eng.sv rfl rfl (Eng.x_ldA (v := (dg ((ds).getD k []))) rfl ag45_rt sz45_rt rfl ((bcs_length _).trans (Eng.ds_len hr19 (by omega))) (Eng.ds_at hr19 (by omega)) rfl) ?_
      refine Eng.al rfl rfl rfl zr45_rt (cs := (bcs Oct.dz)) rfl ?_
      intro w20 hk20 hb20 hz20
      refine Eng.stB (v := (dg ((ds).getD k []))) rfl rfl rfl sz45_rt rfl hk20 rfl rfl (cs' := (bcs ((ds).getD k []))) rfl ((bcs_length _).trans (Eng.ds_len hr19 (by omega))) (bcs_one _) ?_
      intro w21 hk21 hg21
      refine Eng.nil ?_
      refine hK18 _ _ ?_
      refine Eng.seqk fun K22 hK22 => ?_
      refine Eng.reg ?_
      refine Eng.sv rfl rfl (Eng.x_ldB (v := (dg ((ds).getD k []))) rfl ag45_rt sz45_rt rfl hk21 ((bcs_length _).trans (Eng.ds_len hr19 (by omega))) rfl) ?_
      refine Eng.sv rfl rfl (Eng.x_build (ps := [(0, (.int .i64 1)), (1, (dg ((ds).getD k [])))]) (v := (.agg ((.int .i64 1) :: (bcs ((ds).getD k [])) : List Value).toArray)) rfl rfl (bldP 1 ((ds).getD k []) (Eng.ds_len hr19 (by omega)) _)) ?_
      refine Eng.al rfl rfl rfl zr187_rt (cs := ((.int .i64 0) :: (bcs Oct.dz))) rfl ?_
      intro w23 hk23 hb23 hz23
      refine Eng.stB (v := (.agg ((.int .i64 1) :: (bcs ((ds).getD k [])) : List Value).toArray)) rfl rfl rfl sz187_rt rfl hk23 (Eng.len_cons (.int .i64 0) (Eng.len_dg Oct.dz_length)) rfl (cs' := ((.int .i64 1) :: (bcs ((ds).getD k [])))) rfl (Eng.len_cons (.int .i64 1) (Eng.len_dg (Eng.ds_len hr19 (by omega)))) (Eng.one_cons rfl (bcs_one _)) ?_
      intro w24 hk24 hg24
      refine Eng.nil ?_
      refine hK22 _ _ ?_
      refine Eng.seqk fun K25 hK25 => ?_
      refine Eng.blk ?_
      have hx32 : (ds.getD k []).length = 32 := by rw [List.getD_eq_getElem?_getD, List.getElem?_eq_getElem (by omega)]; exact h.2 _ (List.getElem_mem _)
      have q26 : Blk w24 w21.heap.size 187 (.int .i64 ((2 ^ 0 : Nat) : Int) :: bcs (R [ds.getD k []])) := by rw [R_one [ds.getD k []] (by simp)]; exact hk24
      have hcat : ds.take k ++ [ds.getD k []] = ds.take (k + 1) := by rw [take_snoc ds k (by omega), List.getD_eq_getElem?_getD, List.getElem?_eq_getElem (by omega)]; rfl
      have hB2_4 : Below w14.heap.size w14 w21 := (hb20).grown hg21 (hb20).size (fun k e => by cases e; exact Nat.le_trans (Nat.le_refl _) (Nat.le_refl _))
      have hr27 := ((((hrL14_0).below hb20).kept hg21 (.inr (fun e => absurd ((World.ownsRow.lt (hrL14_0).1) _ e).2 (Nat.not_lt_of_le (Nat.le_trans (Nat.le_refl _) (Nat.le_refl _)))))).below hb23).kept hg24 (.inr (fun e => absurd ((World.ownsRow.lt (hrL14_0).1) _ e).2 (Nat.not_lt_of_le (Nat.le_trans (hB2_4).size (Nat.le_refl _)))))
      have hk29 := ((((hkL14_0).below hb20).grown hg21 (fun e => absurd (Option.some.inj e) (Nat.ne_of_lt (Nat.lt_of_lt_of_le hz2 (Nat.le_trans hzL14 (Nat.le_refl _)))))).below hb23).grown hg24 (fun e => absurd (Option.some.inj e) (Nat.ne_of_lt (Nat.lt_of_lt_of_le hz2 (Nat.le_trans (Nat.le_trans (Nat.le_trans hzL14 (hb20).size) (hg21).size) (Nat.le_refl _)))))
      have hB0_3 : Below w.heap.size w w20 := (hBL14).trans (hb20.mono (hBL14).size)
      have hB0_4 : Below w.heap.size w w21 := (hB0_3).grown hg21 (hB0_3).size (fun k e => by cases e; exact Nat.le_trans (hBL14).size (Nat.le_refl _))
      have hB0_5 : Below w.heap.size w w23 := (hB0_4).trans (hb23.mono (hB0_4).size)
      have hB0_6 : Below w.heap.size w w24 := (hB0_5).grown hg24 (hB0_5).size (fun k e => by cases e; exact Nat.le_trans (hB0_4).size (Nat.le_refl _))
      refine Eng.loopN (fun zz u w' => ∃ (j : Nat), ∃ (s1 : List (Nat × List UInt8)), ∃ (a1 : List (List UInt8)), ∃ (b1 : List (List UInt8)), ∃ (vi : Value), zz = s1.length ∧ PK s1 a1 j ∧ b1.length = 2 ^ j ∧ a1 ++ b1 = ds.take (k + 1) ∧ Eng.Has u [(2, (.pointer (some ⟨w.heap.size, 0, none⟩))), (3, vi), (6, (.pointer (some ⟨w21.heap.size, 0, none⟩))), (14, v), (15, (.int .i64 (ds.length : Int))), (16, (.int .i64 (k : Int)))] ∧ Below w.heap.size w w' ∧ w24.heap.size ≤ w'.heap.size ∧ Blk w' w.heap.size 45 (bcs Oct.dz) ∧ Blk w' w21.heap.size 187 ((.int .i64 ((2 ^ j : Nat) : Int)) :: (bcs (R b1))) ∧ Eng.OwnL 187 33 encP w2.heap.size w' vi s1.reverse ∧ (∀ g_, vi.ownBlock = some g_ → g_ < w21.heap.size)) _ ⟨0, s, ds.take k, [ds.getD k []], vp, rfl, hs_, rfl, hcat, ⟨rfl, rfl, rfl, rfl, rfl, rfl, trivial⟩, hB0_6, (Nat.le_refl _), hk29, q26, hr27, (fun g_ e_ => Nat.lt_of_lt_of_le ((World.ownsRow.lt (hrL14_0).1) g_ e_).2 (hB2_4).size)⟩ ?_
      rintro _ u28 w28 ⟨j, s1, a1, b1, vi, rfl, hs28_0, hs28_1, hs28_2, hH28, hBL28, hzL28, hkL28_0, hkL28_1, hrL28_0, hvlt⟩ K28 hK28
      obtain ⟨u28, rfl⟩ := hH28.ex
      have hPK : PK s1 a1 j := hs28_0
      have hbl : b1.length = 2 ^ j := hs28_1
      have hab : a1 ++ b1 = ds.take (k + 1) := hs28_2
      have hj0 : 0 < 2 ^ j := Nat.pos_of_ne_zero (by simp)
      have hRb : (R b1).length = 32 := R_len b1 (all32_sub h.2 hab) (by omega)
      have hlen := len_sub hab
      have hsh : s1.length ≤ 50 := PK.short hPK (by omega)
      have hlr : s1.reverse.length = s1.length := List.length_reverse
      have hP : ∀ p ∈ s1.reverse, p.2.length = 32 := fun p hp => PK.mem32 hPK (fun d hd => h.2 d (List.mem_of_mem_take (by rw [← hab]; exact List.mem_append_left _ hd))) p (List.mem_reverse.1 hp)
      have hltV : ∀ g_, vi.ownBlock = some g_ → w2.heap.size ≤ g_ ∧ g_ < w21.heap.size := fun g_ e_ => ⟨((World.ownsRow.lt (hrL28_0).1) g_ e_).1, hvlt g_ e_⟩
      refine Eng.seqk fun K30 hK30 => ?_
      refine Eng.seqk fun K31 hK31 => ?_
      by_cases hz : s1.length = 0
      · skip
        have hst : s1 = [] ∨ ∃ q r, s1 = q :: r ∧ q.1 ≠ 2 ^ j := .inl (List.eq_nil_of_length_eq_zero hz)
        refine Eng.draw 15 [fun (vQ : Value) (_ : World) => vQ = vi, fun (vQ : Value) (_ : World) => vQ = (.int .i64 (s1.reverse.length : Int)), fun (vQ : Value) (_ : World) => vQ = (.bool false), fun (vQ : Value) (_ : World) => vQ = (.bool false), fun (vQ : Value) (_ : World) => vQ = undef, fun (vQ : Value) (_ : World) => vQ = undef, fun (vQ : Value) (_ : World) => vQ = undef, fun (vQ : Value) (_ : World) => vQ = undef, fun (vQ : Value) (_ : World) => vQ = undef, fun (vQ : Value) (_ : World) => vQ = undef, fun (vQ : Value) (_ : World) => vQ = undef, fun (vQ : Value) (_ : World) => vQ = undef, fun (vQ : Value) (_ : World) => vQ = undef, fun (vQ : Value) (_ : World) => vQ = undef, fun (vQ : Value) (_ : World) => vQ = (.bool false)] (by kernel_rfl) (by kernel_rfl) (by kernel_rfl) (by kernel_rfl) rfl rfl ?_ ?_ ?_
        · exact ⟨fun _ _ _ h _ => h, fun _ _ _ h _ => h, fun _ _ _ h _ => h, fun _ _ _ h _ => h, fun _ _ _ h _ => h, fun _ _ _ h _ => h, fun _ _ _ h _ => h, fun _ _ _ h _ => h, fun _ _ _ h _ => h, fun _ _ _ h _ => h, fun _ _ _ h _ => h, fun _ _ _ h _ => h, fun _ _ _ h _ => h, fun _ _ _ h _ => h, fun _ _ _ h _ => h, trivial⟩
        · refine ⟨?_, ?_, ?_, ?_, ?_, ?_, ?_, ?_, ?_, ?_, ?_, ?_, ?_, ?_, ?_, trivial⟩
          · intro u' W hbW hkp hdp K hK
            refine Eng.dv rfl rfl ?_ (hK _ _ (Below.refl _ _) rfl)
            exact (Eng.x_mv (v := vi) rfl (show Eng.opv 81 u' (.tmp 3) = vi from hkp 3 rfl))
          · intro u' W hbW hkp hdp K hK
            have e0 : (fun (vQ : Value) (_ : World) => vQ = vi) (u' 22) W := hdp.1
            refine Eng.dv rfl rfl ?_ (hK _ _ (Below.refl _ _) rfl)
            exact (Eng.x_len (v := vi) (r := (s1.reverse.length : Int)) rfl Tryd.underlying185 (show Eng.opv 81 u' (.tmp 22) = vi from e0) (((hrL28_0).below hbW)).row rfl)
          · intro u' W hbW hkp hdp K hK
            have e1 : (fun (vQ : Value) (_ : World) => vQ = (.int .i64 (s1.reverse.length : Int))) (u' 23) W := hdp.1
            refine Eng.dv rfl rfl ?_ (hK _ _ (Below.refl _ _) rfl)
            exact (Eng.x_gt (r := false) rfl (show Eng.opv 81 u' (.tmp 23) = (.int .i64 (s1.reverse.length : Int)) from e1) rfl (decide_eq_false (by omega)))
          · intro u' W hbW hkp hdp K hK
            have e2 : (fun (vQ : Value) (_ : World) => vQ = (.bool false)) (u' 24) W := hdp.1
            refine Eng.dv rfl rfl ?_ (hK _ _ (Below.refl _ _) rfl)
            exact (Eng.x_mv (v := (.bool false)) rfl (show Eng.opv 81 u' (.tmp 24) = (.bool false) from e2))
          · intro u' W hbW hkp hdp K hK
            have e3 : (fun (vQ : Value) (_ : World) => vQ = (.bool false)) (u' 25) W := hdp.1
            exact Eng.dg0 (Eng.gf rfl rfl rfl (show Eng.opv 81 u' (.tmp 25) = (.bool false) from e3)) rfl (hK _ _ (Below.refl _ _) rfl)
          · intro u' W hbW hkp hdp K hK
            have e3 : (fun (vQ : Value) (_ : World) => vQ = (.bool false)) (u' 25) W := hdp.1
            exact Eng.dg0 (Eng.gf rfl rfl rfl (show Eng.opv 81 u' (.tmp 25) = (.bool false) from e3)) rfl (hK _ _ (Below.refl _ _) rfl)
          · intro u' W hbW hkp hdp K hK
            have e3 : (fun (vQ : Value) (_ : World) => vQ = (.bool false)) (u' 25) W := hdp.2.1
            exact Eng.dg0 (Eng.gf rfl rfl rfl (show Eng.opv 81 u' (.tmp 25) = (.bool false) from e3)) rfl (hK _ _ (Below.refl _ _) rfl)
          · intro u' W hbW hkp hdp K hK
            have e3 : (fun (vQ : Value) (_ : World) => vQ = (.bool false)) (u' 25) W := hdp.2.1
            exact Eng.dg0 (Eng.gf rfl rfl rfl (show Eng.opv 81 u' (.tmp 25) = (.bool false) from e3)) rfl (hK _ _ (Below.refl _ _) rfl)
          · intro u' W hbW hkp hdp K hK
            have e3 : (fun (vQ : Value) (_ : World) => vQ = (.bool false)) (u' 25) W := hdp.2.2.1
            exact Eng.dg0 (Eng.gf rfl rfl rfl (show Eng.opv 81 u' (.tmp 25) = (.bool false) from e3)) rfl (hK _ _ (Below.refl _ _) rfl)
          · intro u' W hbW hkp hdp K hK
            have e3 : (fun (vQ : Value) (_ : World) => vQ = (.bool false)) (u' 25) W := hdp.2.1
            exact Eng.dg0 (Eng.gf rfl rfl rfl (show Eng.opv 81 u' (.tmp 25) = (.bool false) from e3)) rfl (hK _ _ (Below.refl _ _) rfl)
          · intro u' W hbW hkp hdp K hK
            have e3 : (fun (vQ : Value) (_ : World) => vQ = (.bool false)) (u' 25) W := hdp.2.1
            exact Eng.dg0 (Eng.gf rfl rfl rfl (show Eng.opv 81 u' (.tmp 25) = (.bool false) from e3)) rfl (hK _ _ (Below.refl _ _) rfl)
          · intro u' W hbW hkp hdp K hK
            have e3 : (fun (vQ : Value) (_ : World) => vQ = (.bool false)) (u' 25) W := hdp.1
            exact Eng.dg0 (Eng.gf rfl rfl rfl (show Eng.opv 81 u' (.tmp 25) = (.bool false) from e3)) rfl (hK _ _ (Below.refl _ _) rfl)
          · intro u' W hbW hkp hdp K hK
            have e3 : (fun (vQ : Value) (_ : World) => vQ = (.bool false)) (u' 25) W := hdp.2.1
            exact Eng.dg0 (Eng.gf rfl rfl rfl (show Eng.opv 81 u' (.tmp 25) = (.bool false) from e3)) rfl (hK _ _ (Below.refl _ _) rfl)
          · intro u' W hbW hkp hdp K hK
            have e3 : (fun (vQ : Value) (_ : World) => vQ = (.bool false)) (u' 25) W := hdp.2.2.1
            exact Eng.dg0 (Eng.gf rfl rfl rfl (show Eng.opv 81 u' (.tmp 25) = (.bool false) from e3)) rfl (hK _ _ (Below.refl _ _) rfl)
          · intro u' W hbW hkp hdp K hK
            have e3 : (fun (vQ : Value) (_ : World) => vQ = (.bool false)) (u' 25) W := hdp.1
            have e13 : (fun (vQ : Value) (_ : World) => vQ = undef) (u' 35) W := hdp.2.1
            refine Eng.dv rfl rfl ?_ (hK _ _ (Below.refl _ _) rfl)
            exact (Eng.x_pick (v := (.bool false)) rfl (show Eng.opv 81 u' (.tmp 25) = (.bool false) from e3) (show Eng.opv 81 u' (.tmp 35) = undef from e13) rfl rfl)
        · intro ud32 w32 hb32 hkp32 ⟨f32_0, f32_1, f32_2, f32_3, f32_4, f32_5, f32_6, f32_7, f32_8, f32_9, f32_10, f32_11, f32_12, f32_13, f32_14, _⟩
          obtain rfl := Eng.collect (l := [(22, vi), (23, (.int .i64 (s1.reverse.length : Int))), (24, (.bool false)), (25, (.bool false)), (26, undef), (27, undef), (28, undef), (29, undef), (30, undef), (31, undef), (32, undef), (33, undef), (34, undef), (35, undef), (36, (.bool false))]) hkp32 ⟨f32_0, f32_1, f32_2, f32_3, f32_4, f32_5, f32_6, f32_7, f32_8, f32_9, f32_10, f32_11, f32_12, f32_13, f32_14, trivial⟩ rfl
          refine Eng.nil ?_
          refine hK31 _ _ ?_
          refine Eng.cond_f rfl ?_
          refine Eng.xt ?_
          refine Eng.te ?_
          refine Eng.te ?_
          refine Eng.be ?_
          refine hK25 _ _ ?_
          refine Eng.reg ?_
          refine Eng.sv rfl rfl (Eng.x_mv (v := vi) rfl rfl) ?_
          have hk33 := (hkL28_1).below hb32
          refine Eng.sv rfl rfl (Eng.x_ldB (v := (.agg ((.int .i64 ((2 ^ j : Nat) : Int)) :: (bcs (R b1)) : List Value).toArray)) rfl ag187_rt sz187_rt rfl hk33 (Eng.len_cons (.int .i64 ((2 ^ j : Nat) : Int)) (Eng.len_dg hRb)) rfl) ?_
          refine Eng.bs (vs := [(.agg ((.int .i64 ((2 ^ j : Nat) : Int)) :: (bcs (R b1)) : List Value).toArray)]) (cs := ((.int .i64 ((2 ^ j : Nat) : Int)) :: (bcs (R b1)))) rfl rfl rfl Tryd.underlying185 inL187_rt zP (by decide) rfl rfl (by decide) (by decide) (Eng.all_cons (p := fun v => v.cells.size = 33) (by simpa [Value.cells] using ((Eng.len_cons (.int .i64 ((2 ^ j : Nat) : Int)) (Eng.len_dg hRb)) : (((.int .i64 ((2 ^ j : Nat) : Int)) :: (bcs (R b1))) : List Value).length = 33)) Eng.all_nil) (by simp [Value.cells]) ?_
          intro w34 hk34 hb34 hz34
          have hr36 := ((hrL28_0).below hb32).below hb34
          refine Eng.apL (enc := encP) rfl rfl rfl Tryd.underlying185 inL187_rt zP (by decide) rfl hr36 rfl (Eng.rl_one (enc := encP) (sz := 33) (a := (2 ^ j, R b1)) hk34 (Eng.len_cons (.int .i64 ((2 ^ j : Nat) : Int)) (Eng.len_dg hRb))) (fun a _ c hc => one_part a c hc) (by simp only [List.length_cons, List.length_nil]; unfold maxLen; omega) (by simp only [List.length_cons, List.length_nil]; omega) (Nat.le_trans (Nat.le_trans (Nat.le_trans (Nat.le_trans (Nat.le_trans (Nat.le_trans (Nat.le_trans hzL14 (hb20).size) (hg21).size) (hb23).size) (hg24).size) hzL28) (hb32).size) (hb34).size) ?_
          intro v35 w35 ho35 hg35
          rw [← List.reverse_cons] at ho35
          refine Eng.sv rfl rfl (Eng.x_as (v := v35) rfl rfl) ?_
          refine Eng.nil ?_
          refine Eng.nb ?_
          refine hK17 _ _ ?_
          refine Eng.reg ?_
          refine Eng.sv rfl rfl (Eng.x_add rfl rfl rfl (Eng.w64 (r := ((k : Int) + 1)) (by omega))) ?_
          refine Eng.sv rfl rfl (Eng.x_mv (v := (.int .i64 ((k : Int) + 1))) rfl rfl) ?_
          refine Eng.nil ?_
          have hB0_8 : Below w.heap.size w w32 := (hBL28).trans (hb32.mono (hBL28).size)
          have hB0_9 : Below w.heap.size w w34 := (hB0_8).trans (hb34.mono (hB0_8).size)
          have hB0_10 : Below w.heap.size w w35 := (hB0_9).grown hg35 (hB0_9).size (fun k e => Nat.le_trans (hb2).size (hltV _ e).1)
          have hk37 := (((hkL28_0).below hb32).below hb34).grown hg35 (fun e => absurd (hltV _ e.symm).1 (Nat.not_le_of_lt (Nat.lt_of_lt_of_le hz2 (Nat.le_refl _))))
          exact hK14 _ _ _ ⟨k + 1, ((2 ^ j, R b1) :: s1), v35, rfl, by omega, (by rw [← hab]; exact PK.stay hPK hst hbl), ⟨rfl, rfl, rfl, rfl, (Eng.ie (by first | omega | rfl)), trivial⟩, hB0_10, (Nat.le_trans (Nat.le_trans (Nat.le_trans (Nat.le_trans (Nat.le_trans (Nat.le_trans (Nat.le_trans (Nat.le_trans hzL14 (hb20).size) (hg21).size) (hb23).size) (hg24).size) hzL28) (hb32).size) (hb34).size) (hg35).size), hk37, ho35⟩ (by omega)
      · skip
        obtain ⟨q, r, hqr⟩ := cons_of hz
        have hql := (rev_last hqr).1
        have hcut := (rev_last hqr).2
        by_cases hq : q.1 = 2 ^ j
        · skip
          obtain ⟨a2, b2, m1, m2, m3, m4⟩ := PK.merge (hqr ▸ hPK) hq hbl (by rw [List.length_append]; omega)
          have hlen2 := len_sub (m3.trans hab)
          have hRb2 : (R b2).length = 32 := R_len b2 (all32_sub h.2 (m3.trans hab)) (by rw [m2]; exact Nat.pos_of_ne_zero (by simp))
          have hp2 := Nat.pow_succ 2 j
          refine Eng.draw 15 [fun (vQ : Value) (_ : World) => vQ = vi, fun (vQ : Value) (_ : World) => vQ = (.int .i64 (s1.reverse.length : Int)), fun (vQ : Value) (_ : World) => vQ = (.bool true), fun (vQ : Value) (_ : World) => vQ = (.bool true), fun (vQ : Value) (_ : World) => vQ = vi, fun (vQ : Value) (_ : World) => vQ = vi, fun (vQ : Value) (_ : World) => vQ = (.int .i64 (s1.reverse.length : Int)), fun (vQ : Value) (_ : World) => vQ = (.int .i64 ((s1.reverse.length - 1 : Nat) : Int)), fun (vQ : Value) (_ : World) => vQ = (.pointer (some ((Eng.sAddr vi).add ((s1.reverse.length - 1) * 33)))), fun (vQ : Value) (_ : World) => vQ = (.pointer (some (((Eng.sAddr vi).add ((s1.reverse.length - 1) * 33)).add 0))), fun (vQ : Value) (_ : World) => vQ = (.int .i64 (((s1.reverse).getD (s1.reverse.length - 1) dP).1 : Int)), fun (vQ : Value) (_ : World) => vQ = (.pointer (some ⟨w21.heap.size, 0, none⟩)), fun (vQ : Value) (_ : World) => vQ = (.int .i64 ((2 ^ j : Nat) : Int)), fun (vQ : Value) (_ : World) => vQ = (.bool true), fun (vQ : Value) (_ : World) => vQ = (.bool true)] (by kernel_rfl) (by kernel_rfl) (by kernel_rfl) (by kernel_rfl) rfl rfl ?_ ?_ ?_
          · exact ⟨fun _ _ _ h _ => h, fun _ _ _ h _ => h, fun _ _ _ h _ => h, fun _ _ _ h _ => h, fun _ _ _ h _ => h, fun _ _ _ h _ => h, fun _ _ _ h _ => h, fun _ _ _ h _ => h, fun _ _ _ h _ => h, fun _ _ _ h _ => h, fun _ _ _ h _ => h, fun _ _ _ h _ => h, fun _ _ _ h _ => h, fun _ _ _ h _ => h, fun _ _ _ h _ => h, trivial⟩
          · refine ⟨?_, ?_, ?_, ?_, ?_, ?_, ?_, ?_, ?_, ?_, ?_, ?_, ?_, ?_, ?_, trivial⟩
            · intro u' W hbW hkp hdp K hK
              refine Eng.dv rfl rfl ?_ (hK _ _ (Below.refl _ _) rfl)
              exact (Eng.x_mv (v := vi) rfl (show Eng.opv 81 u' (.tmp 3) = vi from hkp 3 rfl))
            · intro u' W hbW hkp hdp K hK
              have e0 : (fun (vQ : Value) (_ : World) => vQ = vi) (u' 22) W := hdp.1
              refine Eng.dv rfl rfl ?_ (hK _ _ (Below.refl _ _) rfl)
              exact (Eng.x_len (v := vi) (r := (s1.reverse.length : Int)) rfl Tryd.underlying185 (show Eng.opv 81 u' (.tmp 22) = vi from e0) (((hrL28_0).below hbW)).row rfl)
            · intro u' W hbW hkp hdp K hK
              have e1 : (fun (vQ : Value) (_ : World) => vQ = (.int .i64 (s1.reverse.length : Int))) (u' 23) W := hdp.1
              refine Eng.dv rfl rfl ?_ (hK _ _ (Below.refl _ _) rfl)
              exact (Eng.x_gt (r := true) rfl (show Eng.opv 81 u' (.tmp 23) = (.int .i64 (s1.reverse.length : Int)) from e1) rfl (decide_eq_true (by omega)))
            · intro u' W hbW hkp hdp K hK
              have e2 : (fun (vQ : Value) (_ : World) => vQ = (.bool true)) (u' 24) W := hdp.1
              refine Eng.dv rfl rfl ?_ (hK _ _ (Below.refl _ _) rfl)
              exact (Eng.x_mv (v := (.bool true)) rfl (show Eng.opv 81 u' (.tmp 24) = (.bool true) from e2))
            · intro u' W hbW hkp hdp K hK
              have e3 : (fun (vQ : Value) (_ : World) => vQ = (.bool true)) (u' 25) W := hdp.1
              refine Eng.dv (Eng.gt rfl rfl rfl (show Eng.opv 81 u' (.tmp 25) = (.bool true) from e3)) rfl ?_ (hK _ _ (Below.refl _ _) rfl)
              exact (Eng.x_mv (v := vi) rfl (show Eng.opv 81 u' (.tmp 3) = vi from hkp 3 rfl))
            · intro u' W hbW hkp hdp K hK
              have e3 : (fun (vQ : Value) (_ : World) => vQ = (.bool true)) (u' 25) W := hdp.1
              refine Eng.dv (Eng.gt rfl rfl rfl (show Eng.opv 81 u' (.tmp 25) = (.bool true) from e3)) rfl ?_ (hK _ _ (Below.refl _ _) rfl)
              exact (Eng.x_mv (v := vi) rfl (show Eng.opv 81 u' (.tmp 3) = vi from hkp 3 rfl))
            · intro u' W hbW hkp hdp K hK
              have e3 : (fun (vQ : Value) (_ : World) => vQ = (.bool true)) (u' 25) W := hdp.2.1
              have e5 : (fun (vQ : Value) (_ : World) => vQ = vi) (u' 27) W := hdp.1
              refine Eng.dv (Eng.gt rfl rfl rfl (show Eng.opv 81 u' (.tmp 25) = (.bool true) from e3)) rfl ?_ (hK _ _ (Below.refl _ _) rfl)
              exact (Eng.x_len (v := vi) (r := (s1.reverse.length : Int)) rfl Tryd.underlying185 (show Eng.opv 81 u' (.tmp 27) = vi from e5) (((hrL28_0).below hbW)).row rfl)
            · intro u' W hbW hkp hdp K hK
              have e3 : (fun (vQ : Value) (_ : World) => vQ = (.bool true)) (u' 25) W := hdp.2.1
              have e6 : (fun (vQ : Value) (_ : World) => vQ = (.int .i64 (s1.reverse.length : Int))) (u' 28) W := hdp.1
              refine Eng.dv (Eng.gt rfl rfl rfl (show Eng.opv 81 u' (.tmp 25) = (.bool true) from e3)) rfl ?_ (hK _ _ (Below.refl _ _) rfl)
              exact (Eng.x_sub rfl (show Eng.opv 81 u' (.tmp 28) = (.int .i64 (s1.reverse.length : Int)) from e6) rfl (Eng.w64 (r := ((s1.reverse.length - 1 : Nat) : Int)) (by omega)))
            · intro u' W hbW hkp hdp K hK
              have e3 : (fun (vQ : Value) (_ : World) => vQ = (.bool true)) (u' 25) W := hdp.2.2.1
              have e4 : (fun (vQ : Value) (_ : World) => vQ = vi) (u' 26) W := hdp.1
              have e7 : (fun (vQ : Value) (_ : World) => vQ = (.int .i64 ((s1.reverse.length - 1 : Nat) : Int))) (u' 29) W := hdp.2.1
              refine Eng.dv (Eng.gt rfl rfl rfl (show Eng.opv 81 u' (.tmp 25) = (.bool true) from e3)) rfl ?_ (hK _ _ (Below.refl _ _) rfl)
              exact (Eng.x_ia (v := vi) (j := s1.reverse.length - 1) rfl Tryd.underlying185 sz187_rt (by decide) (show Eng.opv 81 u' (.tmp 26) = vi from e4) (show Eng.opv 81 u' (.tmp 29) = (.int .i64 ((s1.reverse.length - 1 : Nat) : Int)) from e7) (((hrL28_0).below hbW)).row (Eng.flat_len (((hrL28_0).below hbW)).2) (by omega) (by omega))
            · intro u' W hbW hkp hdp K hK
              have e3 : (fun (vQ : Value) (_ : World) => vQ = (.bool true)) (u' 25) W := hdp.2.1
              have e8 : (fun (vQ : Value) (_ : World) => vQ = (.pointer (some ((Eng.sAddr vi).add ((s1.reverse.length - 1) * 33))))) (u' 30) W := hdp.1
              refine Eng.dv (Eng.gt rfl rfl rfl (show Eng.opv 81 u' (.tmp 25) = (.bool true) from e3)) rfl ?_ (hK _ _ (Below.refl _ _) rfl)
              exact (Eng.x_fa (v := (.pointer (some (((Eng.sAddr vi).add ((s1.reverse.length - 1) * 33)).add 0)))) rfl (show Eng.opv 81 u' (.tmp 30) = (.pointer (some ((Eng.sAddr vi).add ((s1.reverse.length - 1) * 33)))) from e8) (by kernel_rfl))
            · intro u' W hbW hkp hdp K hK
              have e3 : (fun (vQ : Value) (_ : World) => vQ = (.bool true)) (u' 25) W := hdp.2.1
              have e9 : (fun (vQ : Value) (_ : World) => vQ = (.pointer (some (((Eng.sAddr vi).add ((s1.reverse.length - 1) * 33)).add 0)))) (u' 31) W := hdp.1
              refine Eng.dv (Eng.gt rfl rfl rfl (show Eng.opv 81 u' (.tmp 25) = (.bool true) from e3)) rfl ?_ (hK _ _ (Below.refl _ _) rfl)
              exact (Eng.x_ld1 (v := (.int .i64 (((s1.reverse).getD (s1.reverse.length - 1) dP).1 : Int))) rfl ag3_rt (show Eng.opv 81 u' (.tmp 31) = (.pointer (some (((Eng.sAddr vi).add ((s1.reverse.length - 1) * 33)).add 0))) from e9) (Eng.rl_cell (((hrL28_0).below hbW)).rl dP (by omega) rfl))
            · intro u' W hbW hkp hdp K hK
              have e3 : (fun (vQ : Value) (_ : World) => vQ = (.bool true)) (u' 25) W := hdp.1
              refine Eng.dv (Eng.gt rfl rfl rfl (show Eng.opv 81 u' (.tmp 25) = (.bool true) from e3)) rfl ?_ (hK _ _ (Below.refl _ _) rfl)
              exact (Eng.x_fa (v := (.pointer (some ⟨w21.heap.size, 0, none⟩))) rfl (show Eng.opv 81 u' (.tmp 6) = (.pointer (some ⟨w21.heap.size, 0, none⟩)) from hkp 6 rfl) (by kernel_rfl))
            · intro u' W hbW hkp hdp K hK
              have e3 : (fun (vQ : Value) (_ : World) => vQ = (.bool true)) (u' 25) W := hdp.2.1
              have e11 : (fun (vQ : Value) (_ : World) => vQ = (.pointer (some ⟨w21.heap.size, 0, none⟩))) (u' 33) W := hdp.1
              refine Eng.dv (Eng.gt rfl rfl rfl (show Eng.opv 81 u' (.tmp 25) = (.bool true) from e3)) rfl ?_ (hK _ _ (Below.refl _ _) rfl)
              exact (Eng.x_ld1 (v := (.int .i64 ((2 ^ j : Nat) : Int))) rfl ag3_rt (show Eng.opv 81 u' (.tmp 33) = (.pointer (some ⟨w21.heap.size, 0, none⟩)) from e11) ((((hkL28_1).below hbW)).cell 0))
            · intro u' W hbW hkp hdp K hK
              have e3 : (fun (vQ : Value) (_ : World) => vQ = (.bool true)) (u' 25) W := hdp.2.2.1
              have e10 : (fun (vQ : Value) (_ : World) => vQ = (.int .i64 (((s1.reverse).getD (s1.reverse.length - 1) dP).1 : Int))) (u' 32) W := hdp.1
              have e12 : (fun (vQ : Value) (_ : World) => vQ = (.int .i64 ((2 ^ j : Nat) : Int))) (u' 34) W := hdp.2.1
              refine Eng.dv (Eng.gt rfl rfl rfl (show Eng.opv 81 u' (.tmp 25) = (.bool true) from e3)) rfl ?_ (hK _ _ (Below.refl _ _) rfl)
              exact (Eng.x_eq (r := true) rfl (show Eng.opv 81 u' (.tmp 32) = (.int .i64 (((s1.reverse).getD (s1.reverse.length - 1) dP).1 : Int)) from e10) (show Eng.opv 81 u' (.tmp 34) = (.int .i64 ((2 ^ j : Nat) : Int)) from e12) (Eng.eq_t (by rw [hql]; omega)))
            · intro u' W hbW hkp hdp K hK
              have e3 : (fun (vQ : Value) (_ : World) => vQ = (.bool true)) (u' 25) W := hdp.1
              have e13 : (fun (vQ : Value) (_ : World) => vQ = (.bool true)) (u' 35) W := hdp.2.1
              refine Eng.dv rfl rfl ?_ (hK _ _ (Below.refl _ _) rfl)
              exact (Eng.x_pick (v := (.bool true)) rfl (show Eng.opv 81 u' (.tmp 25) = (.bool true) from e3) (show Eng.opv 81 u' (.tmp 35) = (.bool true) from e13) rfl rfl)
          · intro ud38 w38 hb38 hkp38 ⟨f38_0, f38_1, f38_2, f38_3, f38_4, f38_5, f38_6, f38_7, f38_8, f38_9, f38_10, f38_11, f38_12, f38_13, f38_14, _⟩
            obtain rfl := Eng.collect (l := [(22, vi), (23, (.int .i64 (s1.reverse.length : Int))), (24, (.bool true)), (25, (.bool true)), (26, vi), (27, vi), (28, (.int .i64 (s1.reverse.length : Int))), (29, (.int .i64 ((s1.reverse.length - 1 : Nat) : Int))), (30, (.pointer (some ((Eng.sAddr vi).add ((s1.reverse.length - 1) * 33))))), (31, (.pointer (some (((Eng.sAddr vi).add ((s1.reverse.length - 1) * 33)).add 0)))), (32, (.int .i64 (((s1.reverse).getD (s1.reverse.length - 1) dP).1 : Int))), (33, (.pointer (some ⟨w21.heap.size, 0, none⟩))), (34, (.int .i64 ((2 ^ j : Nat) : Int))), (35, (.bool true)), (36, (.bool true))]) hkp38 ⟨f38_0, f38_1, f38_2, f38_3, f38_4, f38_5, f38_6, f38_7, f38_8, f38_9, f38_10, f38_11, f38_12, f38_13, f38_14, trivial⟩ rfl
            refine Eng.nil ?_
            refine hK31 _ _ ?_
            refine Eng.cond_t rfl ?_
            refine Eng.skp ?_
            refine hK30 _ _ ?_
            refine Eng.blk ?_
            refine Eng.seqk fun K39 hK39 => ?_
            have hk41 := (hkL28_1).below hb38
            have hr42 := (hrL28_0).below hb38
            have hB0_8 : Below w.heap.size w w38 := (hBL28).trans (hb38.mono (hBL28).size)
            have hr43 := (hK).below hB0_8
            refine Eng.draw 14 [fun (vQ : Value) (_ : World) => vQ = (.pointer (some ⟨w21.heap.size, 0, none⟩)), fun (vQ : Value) (_ : World) => vQ = (.int .i64 ((2 ^ j : Nat) : Int)), fun (vQ : Value) (_ : World) => vQ = (.int .i64 ((2 ^ (j + 1) : Nat) : Int)), fun (vQ : Value) (_ : World) => vQ = vi, fun (vQ : Value) (_ : World) => vQ = vi, fun (vQ : Value) (_ : World) => vQ = (.int .i64 (s1.reverse.length : Int)), fun (vQ : Value) (_ : World) => vQ = (.int .i64 ((s1.reverse.length - 1 : Nat) : Int)), fun (vQ : Value) (_ : World) => vQ = (.pointer (some ((Eng.sAddr vi).add ((s1.reverse.length - 1) * 33)))), fun (vQ : Value) (_ : World) => vQ = (.pointer (some (((Eng.sAddr vi).add ((s1.reverse.length - 1) * 33)).add 1))), fun (vQ : Value) (_ : World) => vQ = (dg (((s1.reverse).getD (s1.reverse.length - 1) dP).2)), fun (vQ : Value) (_ : World) => vQ = (.pointer (some ⟨w21.heap.size, 1, none⟩)), fun (vQ : Value) (_ : World) => vQ = (dg (R b1)), fun (vQ : Value) (_ : World) => vQ = (dg (R b2)), fun (vQ : Value) (_ : World) => vQ = (.agg ((.int .i64 ((2 ^ (j + 1) : Nat) : Int)) :: (bcs (R b2)) : List Value).toArray)] (by kernel_rfl) (by kernel_rfl) (by kernel_rfl) (by kernel_rfl) rfl rfl ?_ ?_ ?_
            · exact ⟨fun _ _ _ h _ => h, fun _ _ _ h _ => h, fun _ _ _ h _ => h, fun _ _ _ h _ => h, fun _ _ _ h _ => h, fun _ _ _ h _ => h, fun _ _ _ h _ => h, fun _ _ _ h _ => h, fun _ _ _ h _ => h, fun _ _ _ h _ => h, fun _ _ _ h _ => h, fun _ _ _ h _ => h, fun _ _ _ h _ => h, fun _ _ _ h _ => h, trivial⟩
            · refine ⟨?_, ?_, ?_, ?_, ?_, ?_, ?_, ?_, ?_, ?_, ?_, ?_, ?_, ?_, trivial⟩
              · intro u' W hbW hkp hdp K hK
                refine Eng.dv rfl rfl ?_ (hK _ _ (Below.refl _ _) rfl)
                exact (Eng.x_fa (v := (.pointer (some ⟨w21.heap.size, 0, none⟩))) rfl (show Eng.opv 81 u' (.tmp 6) = (.pointer (some ⟨w21.heap.size, 0, none⟩)) from hkp 6 rfl) (by kernel_rfl))
              · intro u' W hbW hkp hdp K hK
                have e0 : (fun (vQ : Value) (_ : World) => vQ = (.pointer (some ⟨w21.heap.size, 0, none⟩))) (u' 37) W := hdp.1
                refine Eng.dv rfl rfl ?_ (hK _ _ (Below.refl _ _) rfl)
                exact (Eng.x_ld1 (v := (.int .i64 ((2 ^ j : Nat) : Int))) rfl ag3_rt (show Eng.opv 81 u' (.tmp 37) = (.pointer (some ⟨w21.heap.size, 0, none⟩)) from e0) ((((hk41).below hbW)).cell 0))
              · intro u' W hbW hkp hdp K hK
                have e1 : (fun (vQ : Value) (_ : World) => vQ = (.int .i64 ((2 ^ j : Nat) : Int))) (u' 38) W := hdp.1
                refine Eng.dv rfl rfl ?_ (hK _ _ (Below.refl _ _) rfl)
                exact (Eng.x_mul rfl rfl (show Eng.opv 81 u' (.tmp 38) = (.int .i64 ((2 ^ j : Nat) : Int)) from e1) (Eng.w64 (r := ((2 ^ (j + 1) : Nat) : Int)) (by omega)))
              · intro u' W hbW hkp hdp K hK
                refine Eng.dv rfl rfl ?_ (hK _ _ (Below.refl _ _) rfl)
                exact (Eng.x_mv (v := vi) rfl (show Eng.opv 81 u' (.tmp 3) = vi from hkp 3 rfl))
              · intro u' W hbW hkp hdp K hK
                refine Eng.dv rfl rfl ?_ (hK _ _ (Below.refl _ _) rfl)
                exact (Eng.x_mv (v := vi) rfl (show Eng.opv 81 u' (.tmp 3) = vi from hkp 3 rfl))
              · intro u' W hbW hkp hdp K hK
                have e4 : (fun (vQ : Value) (_ : World) => vQ = vi) (u' 41) W := hdp.1
                refine Eng.dv rfl rfl ?_ (hK _ _ (Below.refl _ _) rfl)
                exact (Eng.x_len (v := vi) (r := (s1.reverse.length : Int)) rfl Tryd.underlying185 (show Eng.opv 81 u' (.tmp 41) = vi from e4) (((hr42).below hbW)).row rfl)
              · intro u' W hbW hkp hdp K hK
                have e5 : (fun (vQ : Value) (_ : World) => vQ = (.int .i64 (s1.reverse.length : Int))) (u' 42) W := hdp.1
                refine Eng.dv rfl rfl ?_ (hK _ _ (Below.refl _ _) rfl)
                exact (Eng.x_sub rfl (show Eng.opv 81 u' (.tmp 42) = (.int .i64 (s1.reverse.length : Int)) from e5) rfl (Eng.w64 (r := ((s1.reverse.length - 1 : Nat) : Int)) (by omega)))
              · intro u' W hbW hkp hdp K hK
                have e3 : (fun (vQ : Value) (_ : World) => vQ = vi) (u' 40) W := hdp.1
                have e6 : (fun (vQ : Value) (_ : World) => vQ = (.int .i64 ((s1.reverse.length - 1 : Nat) : Int))) (u' 43) W := hdp.2.1
                refine Eng.dv rfl rfl ?_ (hK _ _ (Below.refl _ _) rfl)
                exact (Eng.x_ia (v := vi) (j := s1.reverse.length - 1) rfl Tryd.underlying185 sz187_rt (by decide) (show Eng.opv 81 u' (.tmp 40) = vi from e3) (show Eng.opv 81 u' (.tmp 43) = (.int .i64 ((s1.reverse.length - 1 : Nat) : Int)) from e6) (((hr42).below hbW)).row (Eng.flat_len (((hr42).below hbW)).2) (by omega) (by omega))
              · intro u' W hbW hkp hdp K hK
                have e7 : (fun (vQ : Value) (_ : World) => vQ = (.pointer (some ((Eng.sAddr vi).add ((s1.reverse.length - 1) * 33))))) (u' 44) W := hdp.1
                refine Eng.dv rfl rfl ?_ (hK _ _ (Below.refl _ _) rfl)
                exact (Eng.x_fa (v := (.pointer (some (((Eng.sAddr vi).add ((s1.reverse.length - 1) * 33)).add 1)))) rfl (show Eng.opv 81 u' (.tmp 44) = (.pointer (some ((Eng.sAddr vi).add ((s1.reverse.length - 1) * 33)))) from e7) (by kernel_rfl))
              · intro u' W hbW hkp hdp K hK
                have e8 : (fun (vQ : Value) (_ : World) => vQ = (.pointer (some (((Eng.sAddr vi).add ((s1.reverse.length - 1) * 33)).add 1)))) (u' 45) W := hdp.1
                refine Eng.dv rfl rfl ?_ (hK _ _ (Below.refl _ _) rfl)
                exact (Eng.x_ldA (v := (dg (((s1.reverse).getD (s1.reverse.length - 1) dP).2))) rfl ag45_rt sz45_rt (show Eng.opv 81 u' (.tmp 45) = (.pointer (some (((Eng.sAddr vi).add ((s1.reverse.length - 1) * 33)).add 1))) from e8) ((bcs_length _).trans (hP _ (Eng.getD_mem (d := dP) (l := s1.reverse) (by omega)))) (Eng.rl_tail (pre := [(.int .i64 (((s1.reverse).getD (s1.reverse.length - 1) dP).1 : Int))]) (mid := (bcs (((s1.reverse).getD (s1.reverse.length - 1) dP).2))) (((hr42).below hbW)).rl dP (by omega) rfl rfl) rfl)
              · intro u' W hbW hkp hdp K hK
                refine Eng.dv rfl rfl ?_ (hK _ _ (Below.refl _ _) rfl)
                exact (Eng.x_fa (v := (.pointer (some ⟨w21.heap.size, 1, none⟩))) rfl (show Eng.opv 81 u' (.tmp 6) = (.pointer (some ⟨w21.heap.size, 0, none⟩)) from hkp 6 rfl) (by kernel_rfl))
              · intro u' W hbW hkp hdp K hK
                have e10 : (fun (vQ : Value) (_ : World) => vQ = (.pointer (some ⟨w21.heap.size, 1, none⟩))) (u' 47) W := hdp.1
                refine Eng.dv rfl rfl ?_ (hK _ _ (Below.refl _ _) rfl)
                exact (Eng.x_ldA (v := (dg (R b1))) rfl ag45_rt sz45_rt (show Eng.opv 81 u' (.tmp 47) = (.pointer (some ⟨w21.heap.size, 1, none⟩)) from e10) ((bcs_length _).trans hRb) (Eng.blk_tail (pre := [(.int .i64 ((2 ^ j : Nat) : Int))]) (mid := (bcs (R b1))) ((hk41).below hbW) rfl) rfl)
              · intro u' W hbW hkp hdp K hK
                have e9 : (fun (vQ : Value) (_ : World) => vQ = (dg (((s1.reverse).getD (s1.reverse.length - 1) dP).2))) (u' 46) W := hdp.1
                have e11 : (fun (vQ : Value) (_ : World) => vQ = (dg (R b1))) (u' 48) W := hdp.2.1
                refine Eng.dc (vs := #[(dg (((s1.reverse).getD (s1.reverse.length - 1) dP).2)), (dg (R b1))]) rfl ?_ (node_eq (c := R b2) (by rw [hql]; exact m4) (hP _ (Eng.getD_mem (d := dP) (l := s1.reverse) (by omega))) hRb _ ((hr43).below hbW)) ?_
                · exact Eng.xc (xs := #[(Go.Operand.tmp 46), (Go.Operand.tmp 48)]) (vl := [(dg (((s1.reverse).getD (s1.reverse.length - 1) dP).2)), (dg (R b1))]) rfl rfl (Eng.lc (show Eng.opv 81 u' (.tmp 46) = (dg (((s1.reverse).getD (s1.reverse.length - 1) dP).2)) from e9) (Eng.lc (show Eng.opv 81 u' (.tmp 48) = (dg (R b1)) from e11) rfl)) en117_rt
                rintro _ W2 ⟨rfl, hb2⟩
                exact Eng.aft_v rfl (hK _ _ hb2 rfl)
              · intro u' W hbW hkp hdp K hK
                have e2 : (fun (vQ : Value) (_ : World) => vQ = (.int .i64 ((2 ^ (j + 1) : Nat) : Int))) (u' 39) W := hdp.1
                have e12 : (fun (vQ : Value) (_ : World) => vQ = (dg (R b2))) (u' 49) W := hdp.2.1
                refine Eng.dv rfl rfl ?_ (hK _ _ (Below.refl _ _) rfl)
                exact (Eng.x_build (ps := [(0, (.int .i64 ((2 ^ (j + 1) : Nat) : Int))), (1, (dg (R b2)))]) (v := (.agg ((.int .i64 ((2 ^ (j + 1) : Nat) : Int)) :: (bcs (R b2)) : List Value).toArray)) rfl (by exact (Eng.lc (Eng.pr (show Eng.opv 81 u' (.tmp 39) = (.int .i64 ((2 ^ (j + 1) : Nat) : Int)) from e2)) (Eng.lc (Eng.pr (show Eng.opv 81 u' (.tmp 49) = (dg (R b2)) from e12)) rfl))) (bldP (2 ^ (j + 1) : Nat) (R b2) hRb2 _))
            · intro ud40 w40 hb40 hkp40 ⟨f40_0, f40_1, f40_2, f40_3, f40_4, f40_5, f40_6, f40_7, f40_8, f40_9, f40_10, f40_11, f40_12, f40_13, _⟩
              obtain rfl := Eng.collect (l := [(37, (.pointer (some ⟨w21.heap.size, 0, none⟩))), (38, (.int .i64 ((2 ^ j : Nat) : Int))), (39, (.int .i64 ((2 ^ (j + 1) : Nat) : Int))), (40, vi), (41, vi), (42, (.int .i64 (s1.reverse.length : Int))), (43, (.int .i64 ((s1.reverse.length - 1 : Nat) : Int))), (44, (.pointer (some ((Eng.sAddr vi).add ((s1.reverse.length - 1) * 33))))), (45, (.pointer (some (((Eng.sAddr vi).add ((s1.reverse.length - 1) * 33)).add 1)))), (46, (dg (((s1.reverse).getD (s1.reverse.length - 1) dP).2))), (47, (.pointer (some ⟨w21.heap.size, 1, none⟩))), (48, (dg (R b1))), (49, (dg (R b2))), (50, (.agg ((.int .i64 ((2 ^ (j + 1) : Nat) : Int)) :: (bcs (R b2)) : List Value).toArray))]) hkp40 ⟨f40_0, f40_1, f40_2, f40_3, f40_4, f40_5, f40_6, f40_7, f40_8, f40_9, f40_10, f40_11, f40_12, f40_13, trivial⟩ rfl
              have hk44 := (hk41).below hb40
              refine Eng.stB (v := (.agg ((.int .i64 ((2 ^ (j + 1) : Nat) : Int)) :: (bcs (R b2)) : List Value).toArray)) rfl rfl rfl sz187_rt rfl hk44 (Eng.len_cons (.int .i64 ((2 ^ j : Nat) : Int)) (Eng.len_dg hRb)) rfl (cs' := ((.int .i64 ((2 ^ (j + 1) : Nat) : Int)) :: (bcs (R b2)))) rfl (Eng.len_cons (.int .i64 ((2 ^ (j + 1) : Nat) : Int)) (Eng.len_dg hRb2)) (Eng.one_cons rfl (bcs_one _)) ?_
              intro w45 hk45 hg45
              refine Eng.nil ?_
              refine hK39 _ _ ?_
              refine Eng.reg ?_
              refine Eng.sv rfl rfl (Eng.x_mv (v := vi) rfl rfl) ?_
              refine Eng.sv rfl rfl (Eng.x_mv (v := vi) rfl rfl) ?_
              have hr46 := ((hr42).below hb40).kept hg45 (.inr (fun e => absurd (hltV _ e).2 (Nat.not_lt_of_le (Nat.le_trans (Nat.le_refl _) (Nat.le_refl _)))))
              refine Eng.sv rfl rfl (Eng.x_len (v := vi) (r := (s1.reverse.length : Int)) rfl Tryd.underlying185 rfl (hr46).row rfl) ?_
              refine Eng.sv rfl rfl (Eng.x_sub rfl rfl rfl (Eng.w64 (r := ((s1.reverse.length - 1 : Nat) : Int)) (by omega))) ?_
              have hq47 : Eng.OwnL 187 33 encP w2.heap.size w45 (Eng.sCut vi 0 (s1.reverse.length - 1) 33) r.reverse := (by have q_ := (Eng.ol_pre (n := (s1.reverse.length - 1)) hr46 (by omega)).1; rw [hcut] at q_; exact q_)
              have hlt48 : ∀ g_, ((Eng.sCut vi 0 (s1.reverse.length - 1) 33)).ownBlock = some g_ → w2.heap.size ≤ g_ ∧ g_ < w21.heap.size := fun g_ e_ => hltV g_ (((Eng.ol_pre hr46 (by omega)).2).symm.trans e_)
              refine Eng.sv rfl rfl (Eng.x_sl (v := vi) rfl Tryd.underlying185 sz187_rt rfl (hr46).row 0 (s1.reverse.length - 1) (.inl ⟨rfl, rfl⟩) (Eng.bd (k := .i64) rfl) (by omega) (by omega)) ?_
              refine Eng.sv rfl rfl (Eng.x_as (v := (Eng.sCut vi 0 (s1.reverse.length - 1) 33)) rfl rfl) ?_
              refine Eng.nil ?_
              refine Eng.nb ?_
              have hB0_9 : Below w.heap.size w w40 := (hB0_8).trans (hb40.mono (hB0_8).size)
              have hB0_10 : Below w.heap.size w w45 := (hB0_9).grown hg45 (hB0_9).size (fun k e => by cases e; exact Nat.le_trans (hB0_4).size (Nat.le_refl _))
              have hk49 := (((hkL28_0).below hb38).below hb40).grown hg45 (fun e => absurd (Option.some.inj e) (Nat.ne_of_lt (Nat.lt_of_lt_of_le hz2 (Nat.le_trans (Nat.le_trans (Nat.le_trans hzL14 (hb20).size) (hg21).size) (Nat.le_refl _)))))
              exact hK28 _ _ _ ⟨j + 1, r, a2, b2, (Eng.sCut vi 0 (s1.reverse.length - 1) 33), rfl, m1, m2, (m3.trans hab), ⟨rfl, rfl, rfl, rfl, rfl, rfl, trivial⟩, hB0_10, (Nat.le_trans (Nat.le_trans (Nat.le_trans hzL28 (hb38).size) (hb40).size) (hg45).size), hk49, hk45, hq47, (fun g_ e_ => Nat.lt_of_lt_of_le (hlt48 g_ e_).2 (Nat.le_refl _))⟩ (by rw [hqr]; simp)
        · skip
          have hst : s1 = [] ∨ ∃ q r, s1 = q :: r ∧ q.1 ≠ 2 ^ j := .inr ⟨q, r, hqr, hq⟩
          refine Eng.draw 15 [fun (vQ : Value) (_ : World) => vQ = vi, fun (vQ : Value) (_ : World) => vQ = (.int .i64 (s1.reverse.length : Int)), fun (vQ : Value) (_ : World) => vQ = (.bool true), fun (vQ : Value) (_ : World) => vQ = (.bool true), fun (vQ : Value) (_ : World) => vQ = vi, fun (vQ : Value) (_ : World) => vQ = vi, fun (vQ : Value) (_ : World) => vQ = (.int .i64 (s1.reverse.length : Int)), fun (vQ : Value) (_ : World) => vQ = (.int .i64 ((s1.reverse.length - 1 : Nat) : Int)), fun (vQ : Value) (_ : World) => vQ = (.pointer (some ((Eng.sAddr vi).add ((s1.reverse.length - 1) * 33)))), fun (vQ : Value) (_ : World) => vQ = (.pointer (some (((Eng.sAddr vi).add ((s1.reverse.length - 1) * 33)).add 0))), fun (vQ : Value) (_ : World) => vQ = (.int .i64 (((s1.reverse).getD (s1.reverse.length - 1) dP).1 : Int)), fun (vQ : Value) (_ : World) => vQ = (.pointer (some ⟨w21.heap.size, 0, none⟩)), fun (vQ : Value) (_ : World) => vQ = (.int .i64 ((2 ^ j : Nat) : Int)), fun (vQ : Value) (_ : World) => vQ = (.bool false), fun (vQ : Value) (_ : World) => vQ = (.bool false)] (by kernel_rfl) (by kernel_rfl) (by kernel_rfl) (by kernel_rfl) rfl rfl ?_ ?_ ?_
          · exact ⟨fun _ _ _ h _ => h, fun _ _ _ h _ => h, fun _ _ _ h _ => h, fun _ _ _ h _ => h, fun _ _ _ h _ => h, fun _ _ _ h _ => h, fun _ _ _ h _ => h, fun _ _ _ h _ => h, fun _ _ _ h _ => h, fun _ _ _ h _ => h, fun _ _ _ h _ => h, fun _ _ _ h _ => h, fun _ _ _ h _ => h, fun _ _ _ h _ => h, fun _ _ _ h _ => h, trivial⟩
          · refine ⟨?_, ?_, ?_, ?_, ?_, ?_, ?_, ?_, ?_, ?_, ?_, ?_, ?_, ?_, ?_, trivial⟩
            · intro u' W hbW hkp hdp K hK
              refine Eng.dv rfl rfl ?_ (hK _ _ (Below.refl _ _) rfl)
              exact (Eng.x_mv (v := vi) rfl (show Eng.opv 81 u' (.tmp 3) = vi from hkp 3 rfl))
            · intro u' W hbW hkp hdp K hK
              have e0 : (fun (vQ : Value) (_ : World) => vQ = vi) (u' 22) W := hdp.1
              refine Eng.dv rfl rfl ?_ (hK _ _ (Below.refl _ _) rfl)
              exact (Eng.x_len (v := vi) (r := (s1.reverse.length : Int)) rfl Tryd.underlying185 (show Eng.opv 81 u' (.tmp 22) = vi from e0) (((hrL28_0).below hbW)).row rfl)
            · intro u' W hbW hkp hdp K hK
              have e1 : (fun (vQ : Value) (_ : World) => vQ = (.int .i64 (s1.reverse.length : Int))) (u' 23) W := hdp.1
              refine Eng.dv rfl rfl ?_ (hK _ _ (Below.refl _ _) rfl)
              exact (Eng.x_gt (r := true) rfl (show Eng.opv 81 u' (.tmp 23) = (.int .i64 (s1.reverse.length : Int)) from e1) rfl (decide_eq_true (by omega)))
            · intro u' W hbW hkp hdp K hK
              have e2 : (fun (vQ : Value) (_ : World) => vQ = (.bool true)) (u' 24) W := hdp.1
              refine Eng.dv rfl rfl ?_ (hK _ _ (Below.refl _ _) rfl)
              exact (Eng.x_mv (v := (.bool true)) rfl (show Eng.opv 81 u' (.tmp 24) = (.bool true) from e2))
            · intro u' W hbW hkp hdp K hK
              have e3 : (fun (vQ : Value) (_ : World) => vQ = (.bool true)) (u' 25) W := hdp.1
              refine Eng.dv (Eng.gt rfl rfl rfl (show Eng.opv 81 u' (.tmp 25) = (.bool true) from e3)) rfl ?_ (hK _ _ (Below.refl _ _) rfl)
              exact (Eng.x_mv (v := vi) rfl (show Eng.opv 81 u' (.tmp 3) = vi from hkp 3 rfl))
            · intro u' W hbW hkp hdp K hK
              have e3 : (fun (vQ : Value) (_ : World) => vQ = (.bool true)) (u' 25) W := hdp.1
              refine Eng.dv (Eng.gt rfl rfl rfl (show Eng.opv 81 u' (.tmp 25) = (.bool true) from e3)) rfl ?_ (hK _ _ (Below.refl _ _) rfl)
              exact (Eng.x_mv (v := vi) rfl (show Eng.opv 81 u' (.tmp 3) = vi from hkp 3 rfl))
            · intro u' W hbW hkp hdp K hK
              have e3 : (fun (vQ : Value) (_ : World) => vQ = (.bool true)) (u' 25) W := hdp.2.1
              have e5 : (fun (vQ : Value) (_ : World) => vQ = vi) (u' 27) W := hdp.1
              refine Eng.dv (Eng.gt rfl rfl rfl (show Eng.opv 81 u' (.tmp 25) = (.bool true) from e3)) rfl ?_ (hK _ _ (Below.refl _ _) rfl)
              exact (Eng.x_len (v := vi) (r := (s1.reverse.length : Int)) rfl Tryd.underlying185 (show Eng.opv 81 u' (.tmp 27) = vi from e5) (((hrL28_0).below hbW)).row rfl)
            · intro u' W hbW hkp hdp K hK
              have e3 : (fun (vQ : Value) (_ : World) => vQ = (.bool true)) (u' 25) W := hdp.2.1
              have e6 : (fun (vQ : Value) (_ : World) => vQ = (.int .i64 (s1.reverse.length : Int))) (u' 28) W := hdp.1
              refine Eng.dv (Eng.gt rfl rfl rfl (show Eng.opv 81 u' (.tmp 25) = (.bool true) from e3)) rfl ?_ (hK _ _ (Below.refl _ _) rfl)
              exact (Eng.x_sub rfl (show Eng.opv 81 u' (.tmp 28) = (.int .i64 (s1.reverse.length : Int)) from e6) rfl (Eng.w64 (r := ((s1.reverse.length - 1 : Nat) : Int)) (by omega)))
            · intro u' W hbW hkp hdp K hK
              have e3 : (fun (vQ : Value) (_ : World) => vQ = (.bool true)) (u' 25) W := hdp.2.2.1
              have e4 : (fun (vQ : Value) (_ : World) => vQ = vi) (u' 26) W := hdp.1
              have e7 : (fun (vQ : Value) (_ : World) => vQ = (.int .i64 ((s1.reverse.length - 1 : Nat) : Int))) (u' 29) W := hdp.2.1
              refine Eng.dv (Eng.gt rfl rfl rfl (show Eng.opv 81 u' (.tmp 25) = (.bool true) from e3)) rfl ?_ (hK _ _ (Below.refl _ _) rfl)
              exact (Eng.x_ia (v := vi) (j := s1.reverse.length - 1) rfl Tryd.underlying185 sz187_rt (by decide) (show Eng.opv 81 u' (.tmp 26) = vi from e4) (show Eng.opv 81 u' (.tmp 29) = (.int .i64 ((s1.reverse.length - 1 : Nat) : Int)) from e7) (((hrL28_0).below hbW)).row (Eng.flat_len (((hrL28_0).below hbW)).2) (by omega) (by omega))
            · intro u' W hbW hkp hdp K hK
              have e3 : (fun (vQ : Value) (_ : World) => vQ = (.bool true)) (u' 25) W := hdp.2.1
              have e8 : (fun (vQ : Value) (_ : World) => vQ = (.pointer (some ((Eng.sAddr vi).add ((s1.reverse.length - 1) * 33))))) (u' 30) W := hdp.1
              refine Eng.dv (Eng.gt rfl rfl rfl (show Eng.opv 81 u' (.tmp 25) = (.bool true) from e3)) rfl ?_ (hK _ _ (Below.refl _ _) rfl)
              exact (Eng.x_fa (v := (.pointer (some (((Eng.sAddr vi).add ((s1.reverse.length - 1) * 33)).add 0)))) rfl (show Eng.opv 81 u' (.tmp 30) = (.pointer (some ((Eng.sAddr vi).add ((s1.reverse.length - 1) * 33)))) from e8) (by kernel_rfl))
            · intro u' W hbW hkp hdp K hK
              have e3 : (fun (vQ : Value) (_ : World) => vQ = (.bool true)) (u' 25) W := hdp.2.1
              have e9 : (fun (vQ : Value) (_ : World) => vQ = (.pointer (some (((Eng.sAddr vi).add ((s1.reverse.length - 1) * 33)).add 0)))) (u' 31) W := hdp.1
              refine Eng.dv (Eng.gt rfl rfl rfl (show Eng.opv 81 u' (.tmp 25) = (.bool true) from e3)) rfl ?_ (hK _ _ (Below.refl _ _) rfl)
              exact (Eng.x_ld1 (v := (.int .i64 (((s1.reverse).getD (s1.reverse.length - 1) dP).1 : Int))) rfl ag3_rt (show Eng.opv 81 u' (.tmp 31) = (.pointer (some (((Eng.sAddr vi).add ((s1.reverse.length - 1) * 33)).add 0))) from e9) (Eng.rl_cell (((hrL28_0).below hbW)).rl dP (by omega) rfl))
            · intro u' W hbW hkp hdp K hK
              have e3 : (fun (vQ : Value) (_ : World) => vQ = (.bool true)) (u' 25) W := hdp.1
              refine Eng.dv (Eng.gt rfl rfl rfl (show Eng.opv 81 u' (.tmp 25) = (.bool true) from e3)) rfl ?_ (hK _ _ (Below.refl _ _) rfl)
              exact (Eng.x_fa (v := (.pointer (some ⟨w21.heap.size, 0, none⟩))) rfl (show Eng.opv 81 u' (.tmp 6) = (.pointer (some ⟨w21.heap.size, 0, none⟩)) from hkp 6 rfl) (by kernel_rfl))
            · intro u' W hbW hkp hdp K hK
              have e3 : (fun (vQ : Value) (_ : World) => vQ = (.bool true)) (u' 25) W := hdp.2.1
              have e11 : (fun (vQ : Value) (_ : World) => vQ = (.pointer (some ⟨w21.heap.size, 0, none⟩))) (u' 33) W := hdp.1
              refine Eng.dv (Eng.gt rfl rfl rfl (show Eng.opv 81 u' (.tmp 25) = (.bool true) from e3)) rfl ?_ (hK _ _ (Below.refl _ _) rfl)
              exact (Eng.x_ld1 (v := (.int .i64 ((2 ^ j : Nat) : Int))) rfl ag3_rt (show Eng.opv 81 u' (.tmp 33) = (.pointer (some ⟨w21.heap.size, 0, none⟩)) from e11) ((((hkL28_1).below hbW)).cell 0))
            · intro u' W hbW hkp hdp K hK
              have e3 : (fun (vQ : Value) (_ : World) => vQ = (.bool true)) (u' 25) W := hdp.2.2.1
              have e10 : (fun (vQ : Value) (_ : World) => vQ = (.int .i64 (((s1.reverse).getD (s1.reverse.length - 1) dP).1 : Int))) (u' 32) W := hdp.1
              have e12 : (fun (vQ : Value) (_ : World) => vQ = (.int .i64 ((2 ^ j : Nat) : Int))) (u' 34) W := hdp.2.1
              refine Eng.dv (Eng.gt rfl rfl rfl (show Eng.opv 81 u' (.tmp 25) = (.bool true) from e3)) rfl ?_ (hK _ _ (Below.refl _ _) rfl)
              exact (Eng.x_eq (r := false) rfl (show Eng.opv 81 u' (.tmp 32) = (.int .i64 (((s1.reverse).getD (s1.reverse.length - 1) dP).1 : Int)) from e10) (show Eng.opv 81 u' (.tmp 34) = (.int .i64 ((2 ^ j : Nat) : Int)) from e12) (Eng.eq_f (by rw [hql]; omega)))
            · intro u' W hbW hkp hdp K hK
              have e3 : (fun (vQ : Value) (_ : World) => vQ = (.bool true)) (u' 25) W := hdp.1
              have e13 : (fun (vQ : Value) (_ : World) => vQ = (.bool false)) (u' 35) W := hdp.2.1
              refine Eng.dv rfl rfl ?_ (hK _ _ (Below.refl _ _) rfl)
              exact (Eng.x_pick (v := (.bool false)) rfl (show Eng.opv 81 u' (.tmp 25) = (.bool true) from e3) (show Eng.opv 81 u' (.tmp 35) = (.bool false) from e13) rfl rfl)
          · intro ud50 w50 hb50 hkp50 ⟨f50_0, f50_1, f50_2, f50_3, f50_4, f50_5, f50_6, f50_7, f50_8, f50_9, f50_10, f50_11, f50_12, f50_13, f50_14, _⟩
            obtain rfl := Eng.collect (l := [(22, vi), (23, (.int .i64 (s1.reverse.length : Int))), (24, (.bool true)), (25, (.bool true)), (26, vi), (27, vi), (28, (.int .i64 (s1.reverse.length : Int))), (29, (.int .i64 ((s1.reverse.length - 1 : Nat) : Int))), (30, (.pointer (some ((Eng.sAddr vi).add ((s1.reverse.length - 1) * 33))))), (31, (.pointer (some (((Eng.sAddr vi).add ((s1.reverse.length - 1) * 33)).add 0)))), (32, (.int .i64 (((s1.reverse).getD (s1.reverse.length - 1) dP).1 : Int))), (33, (.pointer (some ⟨w21.heap.size, 0, none⟩))), (34, (.int .i64 ((2 ^ j : Nat) : Int))), (35, (.bool false)), (36, (.bool false))]) hkp50 ⟨f50_0, f50_1, f50_2, f50_3, f50_4, f50_5, f50_6, f50_7, f50_8, f50_9, f50_10, f50_11, f50_12, f50_13, f50_14, trivial⟩ rfl
            refine Eng.nil ?_
            refine hK31 _ _ ?_
            refine Eng.cond_f rfl ?_
            refine Eng.xt ?_
            refine Eng.te ?_
            refine Eng.te ?_
            refine Eng.be ?_
            refine hK25 _ _ ?_
            refine Eng.reg ?_
            refine Eng.sv rfl rfl (Eng.x_mv (v := vi) rfl rfl) ?_
            have hk51 := (hkL28_1).below hb50
            refine Eng.sv rfl rfl (Eng.x_ldB (v := (.agg ((.int .i64 ((2 ^ j : Nat) : Int)) :: (bcs (R b1)) : List Value).toArray)) rfl ag187_rt sz187_rt rfl hk51 (Eng.len_cons (.int .i64 ((2 ^ j : Nat) : Int)) (Eng.len_dg hRb)) rfl) ?_
            refine Eng.bs (vs := [(.agg ((.int .i64 ((2 ^ j : Nat) : Int)) :: (bcs (R b1)) : List Value).toArray)]) (cs := ((.int .i64 ((2 ^ j : Nat) : Int)) :: (bcs (R b1)))) rfl rfl rfl Tryd.underlying185 inL187_rt zP (by decide) rfl rfl (by decide) (by decide) (Eng.all_cons (p := fun v => v.cells.size = 33) (by simpa [Value.cells] using ((Eng.len_cons (.int .i64 ((2 ^ j : Nat) : Int)) (Eng.len_dg hRb)) : (((.int .i64 ((2 ^ j : Nat) : Int)) :: (bcs (R b1))) : List Value).length = 33)) Eng.all_nil) (by simp [Value.cells]) ?_
            intro w52 hk52 hb52 hz52
            have hr54 := ((hrL28_0).below hb50).below hb52
            refine Eng.apL (enc := encP) rfl rfl rfl Tryd.underlying185 inL187_rt zP (by decide) rfl hr54 rfl (Eng.rl_one (enc := encP) (sz := 33) (a := (2 ^ j, R b1)) hk52 (Eng.len_cons (.int .i64 ((2 ^ j : Nat) : Int)) (Eng.len_dg hRb))) (fun a _ c hc => one_part a c hc) (by simp only [List.length_cons, List.length_nil]; unfold maxLen; omega) (by simp only [List.length_cons, List.length_nil]; omega) (Nat.le_trans (Nat.le_trans (Nat.le_trans (Nat.le_trans (Nat.le_trans (Nat.le_trans (Nat.le_trans hzL14 (hb20).size) (hg21).size) (hb23).size) (hg24).size) hzL28) (hb50).size) (hb52).size) ?_
            intro v53 w53 ho53 hg53
            rw [← List.reverse_cons] at ho53
            refine Eng.sv rfl rfl (Eng.x_as (v := v53) rfl rfl) ?_
            refine Eng.nil ?_
            refine Eng.nb ?_
            refine hK17 _ _ ?_
            refine Eng.reg ?_
            refine Eng.sv rfl rfl (Eng.x_add rfl rfl rfl (Eng.w64 (r := ((k : Int) + 1)) (by omega))) ?_
            refine Eng.sv rfl rfl (Eng.x_mv (v := (.int .i64 ((k : Int) + 1))) rfl rfl) ?_
            refine Eng.nil ?_
            have hB0_8 : Below w.heap.size w w50 := (hBL28).trans (hb50.mono (hBL28).size)
            have hB0_9 : Below w.heap.size w w52 := (hB0_8).trans (hb52.mono (hB0_8).size)
            have hB0_10 : Below w.heap.size w w53 := (hB0_9).grown hg53 (hB0_9).size (fun k e => Nat.le_trans (hb2).size (hltV _ e).1)
            have hk55 := (((hkL28_0).below hb50).below hb52).grown hg53 (fun e => absurd (hltV _ e.symm).1 (Nat.not_le_of_lt (Nat.lt_of_lt_of_le hz2 (Nat.le_refl _))))
            exact hK14 _ _ _ ⟨k + 1, ((2 ^ j, R b1) :: s1), v53, rfl, by omega, (by rw [← hab]; exact PK.stay hPK hst hbl), ⟨rfl, rfl, rfl, rfl, (Eng.ie (by first | omega | rfl)), trivial⟩, hB0_10, (Nat.le_trans (Nat.le_trans (Nat.le_trans (Nat.le_trans (Nat.le_trans (Nat.le_trans (Nat.le_trans (Nat.le_trans hzL14 (hb20).size) (hg21).size) (hb23).size) (hg24).size) hzL28) (hb50).size) (hb52).size) (hg53).size), hk55, ho53⟩ (by omega)
    · skip
      have hkn : k = ds.length := by omega
      obtain ⟨q0, r0, hqr0, hfr0⟩ := PK.root (by rw [hkn, List.take_length] at hs_; exact hs_) (by omega) hm
      have hql0 := (rev_last hqr0).1
      have hcut0 := (rev_last hqr0).2
      have hfold0 : foldP (s.reverse.getD (s.reverse.length - 1) dP).2 r0 = R ds := by rw [hql0]; exact hfr0
      have hln0 : 0 < s.reverse.length := by rw [hqr0]; simp
      have hP0 : ∀ p ∈ s.reverse, p.2.length = 32 := fun p hp => PK.mem32 (by rw [hkn, List.take_length] at hs_; exact hs_) h.2 p (List.mem_reverse.1 hp)
      have hP := hP0
      have hd0 : (s.reverse.getD (s.reverse.length - 1) dP).2.length = 32 := hP0 _ (Eng.getD_mem (by omega))
      have hsm0 : s.reverse.length ≤ 50 := by have := PK.short hs_ (by rw [List.length_take]; omega); rw [List.length_reverse]; exact this
      refine Eng.sv rfl rfl (Eng.x_lt (r := false) rfl rfl rfl (decide_eq_false (by omega))) ?_
      refine Eng.nil ?_
      refine hK15 _ _ ?_
      refine Eng.seqk fun K56 hK56 => ?_
      refine Eng.cond_f rfl ?_
      refine Eng.xt ?_
      refine Eng.te ?_
      refine Eng.te ?_
      refine Eng.be ?_
      refine hK12 _ _ ?_
      refine Eng.seqk fun K57 hK57 => ?_
      refine Eng.reg ?_
      refine Eng.sv rfl rfl (Eng.x_mv (v := vp) rfl rfl) ?_
      refine Eng.sv rfl rfl (Eng.x_mv (v := vp) rfl rfl) ?_
      refine Eng.sv rfl rfl (Eng.x_len (v := vp) (r := (s.reverse.length : Int)) rfl Tryd.underlying185 rfl (hrL14_0).row rfl) ?_
      refine Eng.sv rfl rfl (Eng.x_sub rfl rfl rfl (Eng.w64 (r := ((s.reverse.length - 1 : Nat) : Int)) (by omega))) ?_
      refine Eng.sv rfl rfl (Eng.x_ia (v := vp) (j := s.reverse.length - 1) rfl Tryd.underlying185 sz187_rt (by decide) rfl rfl (hrL14_0).row (Eng.flat_len (hrL14_0).2) (by omega) (by omega)) ?_
      refine Eng.sv rfl rfl (Eng.x_fa (v := (.pointer (some (((Eng.sAddr vp).add ((s.reverse.length - 1) * 33)).add 1)))) rfl rfl (by kernel_rfl)) ?_
      refine Eng.sv rfl rfl (Eng.x_ldA (v := (dg (((s.reverse).getD (s.reverse.length - 1) dP).2))) rfl ag45_rt sz45_rt rfl ((bcs_length _).trans (hP _ (Eng.getD_mem (d := dP) (l := s.reverse) (by omega)))) (Eng.rl_tail (pre := [(.int .i64 (((s.reverse).getD (s.reverse.length - 1) dP).1 : Int))]) (mid := (bcs (((s.reverse).getD (s.reverse.length - 1) dP).2))) (hrL14_0).rl dP (by omega) rfl rfl) rfl) ?_
      refine Eng.al rfl rfl rfl zr45_rt (cs := (bcs Oct.dz)) rfl ?_
      intro w58 hk58 hb58 hz58
      refine Eng.stB (v := (dg (((s.reverse).getD (s.reverse.length - 1) dP).2))) rfl rfl rfl sz45_rt rfl hk58 rfl rfl (cs' := (bcs (((s.reverse).getD (s.reverse.length - 1) dP).2))) rfl ((bcs_length _).trans (hP _ (Eng.getD_mem (d := dP) (l := s.reverse) (by omega)))) (bcs_one _) ?_
      intro w59 hk59 hg59
      refine Eng.nil ?_
      refine hK57 _ _ ?_
      refine Eng.seqk fun K60 hK60 => ?_
      refine Eng.seqk fun K61 hK61 => ?_
      refine Eng.reg ?_
      refine Eng.sv rfl rfl (Eng.x_mv (v := vp) rfl rfl) ?_
      refine Eng.sv rfl rfl (Eng.x_mv (v := vp) rfl rfl) ?_
      have hr62 := ((hrL14_0).below hb58).kept hg59 (.inr (fun e => absurd ((World.ownsRow.lt (hrL14_0).1) _ e).2 (Nat.not_lt_of_le (Nat.le_trans (Nat.le_refl _) (Nat.le_refl _)))))
      refine Eng.sv rfl rfl (Eng.x_len (v := vp) (r := (s.reverse.length : Int)) rfl Tryd.underlying185 rfl (hr62).row rfl) ?_
      refine Eng.sv rfl rfl (Eng.x_sub rfl rfl rfl (Eng.w64 (r := ((s.reverse.length - 1 : Nat) : Int)) (by omega))) ?_
      have hq63 : Eng.OwnL 187 33 encP w2.heap.size w59 (Eng.sCut vp 0 (s.reverse.length - 1) 33) ((s.reverse).take (s.reverse.length - 1)) := (Eng.ol_pre hr62 (by omega)).1
      have hlt64 : ∀ g_, ((Eng.sCut vp 0 (s.reverse.length - 1) 33)).ownBlock = some g_ → w2.heap.size ≤ g_ ∧ g_ < w14.heap.size := fun g_ e_ => (World.ownsRow.lt (hrL14_0).1) g_ (((Eng.ol_pre hr62 (by omega)).2).symm.trans e_)
      refine Eng.sv rfl rfl (Eng.x_sl (v := vp) rfl Tryd.underlying185 sz187_rt rfl (hr62).row 0 (s.reverse.length - 1) (.inl ⟨rfl, rfl⟩) (Eng.bd (k := .i64) rfl) (by omega) (by omega)) ?_
      refine Eng.sc rfl (Eng.xc (vl := [(Eng.sCut vp 0 (s.reverse.length - 1) 33)]) rfl rfl rfl en118_rt) (bwd_calls _ _ _ _ (hq63).row) ?_
      rintro _ w65 ⟨b65, rfl, hk65, hl65, hb65⟩
      refine Eng.aft_v rfl ?_
      refine Eng.nil ?_
      refine hK61 _ _ ?_
      refine Eng.blk ?_
      have hr66 := (hq63).below hb65
      have hk67 := (((hkL14_0).below hb58).grown hg59 (fun e => absurd (Option.some.inj e) (Nat.ne_of_lt (Nat.lt_of_lt_of_le hz2 (Nat.le_trans hzL14 (Nat.le_refl _)))))).below hb65
      have hk68 := (hk59).below hb65
      obtain ⟨LL, hLL⟩ : ∃ LL, LL = (s.reverse).take (s.reverse.length - 1) := ⟨_, rfl⟩
      have hrow : Eng.OwnL 187 33 encP w2.heap.size w65 (Eng.sCut vp 0 (s.reverse.length - 1) 33) LL := by rw [hLL]; exact hr66
      have hPL : ∀ p ∈ LL, p.2.length = 32 := fun p hp => hP0 p (by rw [hLL] at hp; exact List.mem_of_mem_take hp)
      obtain ⟨y, hyl, hyb, hyn⟩ := own_at hrow.1 (g7 := w14.heap.size) (z := w.heap.size) (fun g e => fun q => absurd (hlt64 _ (show ((Eng.sCut vp 0 (s.reverse.length - 1) 33)).ownBlock = some (w14.heap.size) from e.trans (congrArg some q))).2 (Nat.not_lt_of_le (Nat.le_trans (Nat.le_refl _) (Nat.le_refl _)))) (hk67).lt (Nat.ne_of_lt (Nat.lt_of_lt_of_le hz2 (Nat.le_trans hzL14 (Nat.le_refl _))))
      have hbl_ : b65 < w65.heap.size := (hk65).lt
      have hbn : b65 ≠ w14.heap.size := (Nat.ne_of_gt (Nat.lt_of_lt_of_le hz58 (Nat.le_trans (hg59).size hl65)))
      have hB0_3 : Below w.heap.size w w58 := (hBL14).trans (hb58.mono (hBL14).size)
      have hB0_4 : Below w.heap.size w w59 := (hB0_3).grown hg59 (hB0_3).size (fun k e => by cases e; exact Nat.le_trans (hBL14).size (Nat.le_refl _))
      have hB0_5 : Below w.heap.size w w65 := (hB0_4).trans (hb65.mono (hB0_4).size)
      refine Eng.rfun (α := { j : Nat // j < LL.length }) (gf := 177) (lb := #[.pointer (some ⟨b65, 0, none⟩)]) rfl en177_rt (bwd_stops LL hPL b65 y (Eng.sCut vp 0 (s.reverse.length - 1) 33) _ hk65 hrow.rl hyb hyl) (fun h k => h.trans k) (fun W l o o_ hl ho _ _ => Eng.Two.put (Nat.ne_of_lt (Nat.lt_of_lt_of_le hbl_ hl)) (Nat.ne_of_lt (Nat.lt_of_lt_of_le hyl hl))) (Below.refl _ _) (fun _ => rfl) (fun (pre : List { j : Nat // j < LL.length }) W => Below w.heap.size w W ∧ w65.heap.size ≤ W.heap.size ∧ Blk W w.heap.size 45 (bcs Oct.dz) ∧ Blk W w14.heap.size 45 (bcs (foldB LL (((s.reverse).getD (s.reverse.length - 1) dP).2) pre))) (fun _ _ _ => False) (fun x u_ W => ∃ gx, Eng.Has u_ [(2, (.pointer (some ⟨w.heap.size, 0, none⟩))), (7, (.pointer (some ⟨w14.heap.size, 0, none⟩))), (9, (.pointer (some ⟨gx, 0, none⟩)))] ∧ Blk W gx 187 (encP (LL.getD x.1 dP)) ∧ w65.heap.size ≤ gx) ?_ ?_ ?_ ?_ ?_ ?_ ?_ ?_
      · exact fun pre A B row ⟨h1, h2, h3, h4⟩ hg hr => ⟨Eng.belF h1 hg hr (hB0_5).size (Nat.le_trans (hB0_5).size h2), Nat.le_trans h2 hg.size, Eng.blkF h3 hg hr, Eng.blkF h4 hg hr⟩
      · exact fun c s A B row h _ _ => h
      · exact fun x u_ _ A B row ⟨gx, h1, h2, h3⟩ hg hr => ⟨gx, h1, Eng.blkF h2 hg hr, h3⟩
      · exact ⟨hB0_5, Nat.le_refl _, hk67, hk68⟩
      · intro lr pre x w69 K ⟨hi169, hi269, hi369, hi469⟩ hK_
        show Eng.wpC _ _ _ _ (Eng.act _ (Eng.updZ _ #[74, 75] #[_, _]) _) _
        rw [updZ2]
        refine Eng.reg ?_
        refine Eng.al rfl rfl rfl zr187_rt (cs := ((.int .i64 0) :: (bcs Oct.dz))) rfl ?_
        intro w70 hk70 hb70 hz70
        refine Eng.stB (v := (.agg (encP (LL.getD x.1 dP)).toArray)) rfl rfl rfl sz187_rt rfl hk70 (Eng.len_cons (.int .i64 0) (Eng.len_dg Oct.dz_length)) rfl (cs' := (encP (LL.getD x.1 dP))) rfl (encP_len (hPL _ (Eng.getD_mem x.2))) (one_part _) ?_
        intro w71 hk71 hg71
        refine Eng.nil ?_
        have hB0_7 : Below w.heap.size w w70 := (hi169).trans (hb70.mono (hi169).size)
        have hB0_8 : Below w.heap.size w w71 := (hB0_7).grown hg71 (hB0_7).size (fun k e => by cases e; exact Nat.le_trans (hi169).size (Nat.le_refl _))
        have hB6_8 : Below w69.heap.size w69 w71 := (hb70).grown hg71 (hb70).size (fun k e => by cases e; exact Nat.le_trans (Nat.le_refl _) (Nat.le_refl _))
        have hk72 := ((hi369).below hb70).grown hg71 (fun e => absurd (Option.some.inj e) (Nat.ne_of_lt (Nat.lt_of_lt_of_le hz2 (Nat.le_trans (Nat.le_trans (Nat.le_trans (Nat.le_trans (Nat.le_trans hzL14 (hb58).size) (hg59).size) (hb65).size) hi269) (Nat.le_refl _)))))
        have hk73 := ((hi469).below hb70).grown hg71 (fun e => absurd (Option.some.inj e) (Nat.ne_of_lt (Nat.lt_of_lt_of_le hz58 (Nat.le_trans (Nat.le_trans (Nat.le_trans (hg59).size (hb65).size) hi269) (Nat.le_refl _)))))
        exact hK_ _ _ ((Eng.keeps_below hb70).trans (Eng.keeps_grown hk70 hg71)) ((Eng.Two.below hb70 (Nat.lt_of_lt_of_le (Nat.lt_of_lt_of_le hbl_ hi269) (Nat.le_refl _)) (Nat.lt_of_lt_of_le (Nat.lt_of_lt_of_le hyl hi269) (Nat.le_refl _))).trans (Eng.Two.grown hg71 (Nat.lt_of_lt_of_le (Nat.lt_of_lt_of_le hbl_ hi269) (hb70).size) (Nat.lt_of_lt_of_le (Nat.lt_of_lt_of_le hyl hi269) (hb70).size) (Nat.ne_of_lt (Nat.lt_of_lt_of_le hbl_ (Nat.le_trans hi269 (Nat.le_refl _)))) (Nat.ne_of_lt (Nat.lt_of_lt_of_le hyl (Nat.le_trans hi269 (Nat.le_refl _)))))) ⟨hB0_8, Nat.le_trans hi269 (hB6_8).size, hk72, hk73⟩ ⟨w69.heap.size, ⟨rfl, rfl, rfl, trivial⟩, hk71, (Nat.le_trans hi269 (Nat.le_refl _))⟩
      · rintro lr pre x u_ w74 ⟨hi174, hi274, hi374, hi474⟩ ⟨gx, hH_, hgx, hgl⟩ hlen_
        obtain ⟨u9_, rfl⟩ := hH_.ex
        refine Eng.blk ?_
        refine Eng.reg ?_
        refine Eng.sv rfl rfl (Eng.x_fa (v := (.pointer (some ⟨gx, 1, none⟩))) rfl rfl (by kernel_rfl)) ?_
        refine Eng.sv rfl rfl (Eng.x_ldA (v := (dg ((LL.getD x.1 dP).2))) rfl ag45_rt sz45_rt rfl ((bcs_length _).trans (hPL _ (Eng.getD_mem x.2))) (Eng.blk_tail (pre := [(.int .i64 ((LL.getD x.1 dP).1 : Int))]) (mid := (bcs ((LL.getD x.1 dP).2))) hgx rfl) rfl) ?_
        refine Eng.sv rfl rfl (Eng.x_ldB (v := (dg (foldB LL (((s.reverse).getD (s.reverse.length - 1) dP).2) pre))) rfl ag45_rt sz45_rt rfl hi474 ((bcs_length _).trans (foldB_len LL _ hd0 _)) rfl) ?_
        have hr75 := (hK).below hi174
        refine Eng.sc rfl (Eng.xc (vl := [(dg ((LL.getD x.1 dP).2)), (dg (foldB LL (((s.reverse).getD (s.reverse.length - 1) dP).2) pre))]) rfl rfl rfl en117_rt) (node_calls _ _ (hPL _ (Eng.getD_mem x.2)) (foldB_len LL _ hd0 _) _ hr75) ?_
        rintro _ w76 ⟨rfl, hb76⟩
        refine Eng.aft_v rfl ?_
        have hk77 := (hi474).below hb76
        refine Eng.stB (v := (dg (nodeS (LL.getD x.1 dP).2 (foldB LL (((s.reverse).getD (s.reverse.length - 1) dP).2) pre)))) rfl rfl rfl sz45_rt rfl hk77 ((bcs_length _).trans (foldB_len LL _ hd0 _)) rfl (cs' := (bcs (nodeS (LL.getD x.1 dP).2 (foldB LL (((s.reverse).getD (s.reverse.length - 1) dP).2) pre)))) rfl ((bcs_length _).trans (nodeS_len _ _)) (bcs_one _) ?_
        intro w78 hk78 hg78
        refine Eng.nil ?_
        refine Eng.nb ?_
        have hB0_7 : Below w.heap.size w w76 := (hi174).trans (hb76.mono (hi174).size)
        have hB0_8 : Below w.heap.size w w78 := (hB0_7).grown hg78 (hB0_7).size (fun k e => by cases e; exact Nat.le_trans (hBL14).size (Nat.le_refl _))
        have hk79 := ((hi374).below hb76).grown hg78 (fun e => absurd (Option.some.inj e) (Nat.ne_of_lt (Nat.lt_of_lt_of_le hz2 (Nat.le_trans hzL14 (Nat.le_refl _)))))
        exact ⟨((Eng.keeps_below hb76).trans (Eng.keeps_grown hk77 hg78)), ((Eng.Two.below hb76 (Nat.lt_of_lt_of_le (Nat.lt_of_lt_of_le hbl_ hi274) (Nat.le_refl _)) (Nat.lt_of_lt_of_le (Nat.lt_of_lt_of_le hyl hi274) (Nat.le_refl _))).trans (Eng.Two.grown hg78 (Nat.lt_of_lt_of_le (Nat.lt_of_lt_of_le hbl_ hi274) (hb76).size) (Nat.lt_of_lt_of_le (Nat.lt_of_lt_of_le hyl hi274) (hb76).size) hbn hyn)), hB0_8, Nat.le_trans hi274 (Nat.le_trans (hb76).size (hg78).size), hk79, by rw [foldB_snoc]; exact hk78⟩
      · intro D81 xs w80 hDD81 hS_ ⟨hi180, hi280, hi380, hi480⟩ hfD81
        rw [foldB_all LL _ xs hS_, hLL, hcut0, List.reverse_reverse, hfold0] at hi480
        refine Eng.nb ?_
        refine hK60 _ _ ?_
        refine Eng.seqk fun K82 hK82 => ?_
        refine Eng.reg ?_
        refine Eng.sv rfl rfl (Eng.x_ldB (v := (dg (R ds))) rfl ag45_rt sz45_rt rfl hi480 ((bcs_length _).trans hR32) rfl) ?_
        refine Eng.stB (v := (dg (R ds))) rfl rfl rfl sz45_rt rfl hi380 rfl rfl (cs' := (bcs (R ds))) rfl ((bcs_length _).trans hR32) (bcs_one _) ?_
        intro w83 hk83 hg83
        refine Eng.nil ?_
        refine hK82 _ _ ?_
        refine Eng.rt ?_
        have hDD := (hfD81).grown hg83 (fun e => absurd (Option.some.inj e) (Nat.ne_of_gt (Nat.lt_of_lt_of_le hz2 (Nat.le_trans (Nat.le_trans (Nat.le_trans (Nat.le_trans hzL14 (hb58).size) (hg59).size) (hb65).size) hDD81))))
        refine Eng.retC hDD (fun w_ _ _ hbk_ => Eng.res1 (v1 := (dg (R ds))) rfl (Eng.rdc rfl (Eng.lvB ag45_rt sz45_rt (hbk_ _ _ _ hk83) ((bcs_length _).trans hR32) rfl))) (fun w_ hw_ => ?_)
        have hB0_7 : Below w.heap.size w w83 := (hi180).grown hg83 (hi180).size (fun k e => by cases e; exact Nat.le_trans (Nat.le_refl _) (Nat.le_refl _))
        have hBC := (hB0_7).trans (hw_.mono (Nat.le_trans (hB0_5).size hDD81))
        exact ⟨by unfold rootS; rw [if_neg (by omega)], hBC⟩
      · intro D_ c_ pre_ W_ _ _ hx_ _; exact hx_.elim
end Go.Proofs.YtnecgoahdkfbeaaDoor.TreP
end

section
namespace Go.Proofs.YtnecgoahdkfbeaaDoor.Tid
open Go Go.RowKit Go.Proofs.YtnecgoahdkfbeaaDoor Go.Proofs.YtnecgoahdkfbeaaDoor.Cop Go.Proofs.YtnecgoahdkfbeaaDoor.Ver Go.Proofs.YtnecgoahdkfbeaaDoor.Tre Go.Proofs.YtnecgoahdkfbeaaDoor.TreP Go.Proofs.YtnecgoahdkfbeaaDoor.Vfy Go.Proofs.YtnecgoahdkfbeaaDoor.Oct Go.Proofs.YtnecgoahdkfbeaaDoor.Dsl Go.Proofs.YtnecgoahdkfbeaaDoor.Sha
set_option linter.unusedVariables false
set_option linter.unusedSimpArgs false
theorem zr45_r4 (w : World) : (zeroValue 45).run Tryd.prog w = .ok (dg Oct.dz) w := by kernel_rfl
theorem en139_r4 : Eng.Entr Tryd.prog 139 := ⟨_, Tryd.func139, by kernel_rfl, by kernel_rfl⟩
theorem sz45_r4 : (Tryd.prog.info? 45).map (fun i => i.size) = some 32 := by kernel_rfl
theorem ag45_r4 (w : World) : (isAgg 45).run Tryd.prog w = .ok true w := by kernel_rfl
theorem en123_r4 : Eng.Entr Tryd.prog 123 := ⟨_, Tryd.func123, by kernel_rfl, by kernel_rfl⟩
theorem en124_r4 : Eng.Entr Tryd.prog 124 := ⟨_, Tryd.func124, by kernel_rfl, by kernel_rfl⟩
theorem en67_r4 : Eng.Entr Tryd.prog 67 := ⟨_, Tryd.func67, by kernel_rfl, by kernel_rfl⟩
theorem en125_r4 : Eng.Entr Tryd.prog 125 := ⟨_, Tryd.func125, by kernel_rfl, by kernel_rfl⟩
set_option maxRecDepth 100000 in
set_option maxHeartbeats 4000000 in
theorem rhalf4_calls (n : Nat) (h : 2 ≤ n) (h' : n ≤ 281474976710656) (w : World) : Calls Tryd.prog 124 #[(.int .i64 (n : Int))] w (fun e w' => e = .returned (.int .i64 (H n : Int)) ∧ Below w.heap.size w w') := by
  refine Eng.enter (l := [(.int .i64 (n : Int))]) Tryd.func124 rfl 12 rfl (by simp) ?_
  refine Eng.seqk fun K1 hK1 => ?_
  refine Eng.reg ?_
  refine Eng.sv rfl rfl (Eng.x_as (v := (.int .i64 0)) rfl rfl) ?_
  refine Eng.nil ?_
  refine hK1 _ _ ?_
  refine Eng.seqk fun K2 hK2 => ?_
  refine Eng.reg ?_
  refine Eng.sv rfl rfl (Eng.x_as (v := (.int .i64 1)) rfl rfl) ?_
  refine Eng.nil ?_
  refine hK2 _ _ ?_
  refine Eng.seqk fun K3 hK3 => ?_
  refine Eng.blk ?_
  refine Eng.loopN (fun zz u w' => ∃ (j : Nat), zz = n - 2 ^ j ∧ 2 ^ j < n ∧ Eng.Has u [(0, (.int .i64 (n : Int))), (2, (.int .i64 0)), (3, (.int .i64 ((2 ^ j : Nat) : Int)))] ∧ Below w.heap.size w w' ∧ w.heap.size ≤ w'.heap.size) _ ⟨0, rfl, (by show 2 ^ 0 < n; rw [Nat.pow_zero]; omega), ⟨rfl, rfl, (Eng.ie (by first | omega | rfl)), trivial⟩, (Below.refl _ _), (Nat.le_refl _)⟩ ?_
  rintro _ u4 w4 ⟨j, rfl, hs4_0, hH4, hBL4, hzL4⟩ K4 hK4
  obtain ⟨u4, rfl⟩ := hH4.ex
  have hs_ : 2 ^ j < n := hs4_0
  have hj0 := Nat.two_pow_pos j
  have hjs := Nat.pow_succ 2 j
  refine Eng.seqk fun K5 hK5 => ?_
  refine Eng.seqk fun K6 hK6 => ?_
  refine Eng.reg ?_
  refine Eng.sv rfl rfl (Eng.x_mv (v := (.int .i64 ((2 ^ j : Nat) : Int))) rfl rfl) ?_
  refine Eng.sv rfl rfl (Eng.x_mv (v := (.int .i64 (n : Int))) rfl rfl) ?_
  refine Eng.sv rfl rfl (Eng.x_mv (v := (.int .i64 ((2 ^ j : Nat) : Int))) rfl rfl) ?_
  refine Eng.sv rfl rfl (Eng.x_sub rfl rfl rfl (Eng.w64 (r := ((n : Int) - ((2 ^ j : Nat) : Int))) (by omega))) ?_
  by_cases h8 : (((2 ^ j : Nat) : Int) : Int) < ((n : Int) - ((2 ^ j : Nat) : Int))
  · skip
    refine Eng.sv rfl rfl (Eng.x_lt (r := true) rfl rfl rfl (decide_eq_true (by omega))) ?_
    refine Eng.nil ?_
    refine hK6 _ _ ?_
    refine Eng.cond_t rfl ?_
    refine Eng.skp ?_
    refine hK5 _ _ ?_
    refine Eng.blk ?_
    refine Eng.reg ?_
    refine Eng.sv rfl rfl (Eng.x_mv (v := (.int .i64 ((2 ^ j : Nat) : Int))) rfl rfl) ?_
    refine Eng.sv rfl rfl (Eng.x_mul rfl rfl rfl (Eng.w64 (r := ((2 ^ (j + 1) : Nat) : Int)) (by omega))) ?_
    refine Eng.sv rfl rfl (Eng.x_as (v := (.int .i64 ((2 ^ (j + 1) : Nat) : Int))) rfl rfl) ?_
    refine Eng.nil ?_
    refine Eng.nb ?_
    exact hK4 _ _ _ ⟨j + 1, rfl, (by rw [Nat.pow_succ]; omega), ⟨rfl, rfl, rfl, trivial⟩, hBL4, (hBL4).size⟩ (by omega)
  · skip
    refine Eng.sv rfl rfl (Eng.x_lt (r := false) rfl rfl rfl (decide_eq_false (by omega))) ?_
    refine Eng.nil ?_
    refine hK6 _ _ ?_
    refine Eng.cond_f rfl ?_
    refine Eng.xt ?_
    refine Eng.te ?_
    refine Eng.te ?_
    refine Eng.be ?_
    refine hK3 _ _ ?_
    refine Eng.seqk fun K7 hK7 => ?_
    refine Eng.reg ?_
    refine Eng.sv rfl rfl (Eng.x_mv (v := (.int .i64 ((2 ^ j : Nat) : Int))) rfl rfl) ?_
    refine Eng.sv rfl rfl (Eng.x_as (v := (.int .i64 ((2 ^ j : Nat) : Int))) rfl rfl) ?_
    refine Eng.nil ?_
    refine hK7 _ _ ?_
    refine Eng.rt ?_
    refine Eng.ret (Eng.res1 (v1 := (.int .i64 ((2 ^ j : Nat) : Int))) rfl (Eng.rdt rfl)) ?_
    exact ⟨by rw [H_uniq n j h h' hs_ (by omega)], hBL4⟩
set_option maxRecDepth 100000 in
set_option maxHeartbeats 4000000 in
theorem rempty_calls (w : World) : Calls Tryd.prog 123 #[] w (fun e w' => e = .returned (dg (sha [])) ∧ Below w.heap.size w w') := by
  refine Eng.enter (l := []) Tryd.func123 rfl 2 rfl (by simp) ?_
  refine Eng.seqk fun K1 hK1 => ?_
  refine Eng.reg ?_
  refine Eng.al rfl rfl rfl zr45_r4 (cs := (bcs Oct.dz)) rfl ?_
  intro w2 hk2 hb2 hz2
  refine Eng.nil ?_
  refine hK1 _ _ ?_
  refine Eng.seqk fun K3 hK3 => ?_
  refine Eng.reg ?_
  refine Eng.sc rfl (Eng.xc (vl := [(.slice none 0 0)]) rfl rfl rfl en139_r4) (rsum_calls (.slice none 0 0) [] _ (Row.nil _) (by simp)) ?_
  rintro _ w4 ⟨rfl, hb4⟩
  refine Eng.aft_v rfl ?_
  have hk5 := (hk2).below hb4
  refine Eng.stB (v := (dg (sha []))) rfl rfl rfl sz45_r4 rfl hk5 rfl rfl (cs' := (bcs (sha []))) rfl ((bcs_length _).trans (sha_len _)) (bcs_one _) ?_
  intro w6 hk6 hg6
  refine Eng.nil ?_
  refine hK3 _ _ ?_
  refine Eng.rt ?_
  refine Eng.ret (Eng.res1 (v1 := (dg (sha []))) rfl (Eng.rdc rfl (Eng.lvB ag45_r4 sz45_r4 hk6 ((bcs_length _).trans (sha_len _)) rfl))) ?_
  have hB0_2 : Below w.heap.size w w4 := (hb2).trans (hb4.mono (hb2).size)
  have hB0_3 : Below w.heap.size w w6 := (hB0_2).grown hg6 (hB0_2).size (fun k e => by cases e; exact Nat.le_trans (Nat.le_refl _) (Nat.le_refl _))
  exact ⟨rfl, hB0_3⟩
theorem ds_suf {w : World} {v : Value} {xs : List (List UInt8)} (h : Ds w v xs) {n : Nat} (hn : n ≤ xs.length) : Ds w (Eng.sCut v n xs.length 32) (xs.drop n) := by
  have := Eng.ds_cut h hn (Nat.le_refl _)
  rwa [List.take_of_length_le (by rw [List.length_drop]; exact Nat.le_refl _)] at this
def RootC (n : Nat) : Prop := ∀ (v : Value) (ds : List (List UInt8)) (w : World), Ds w v ds → ds.length = n → n ≤ 281474976710656 → Calls Tryd.prog 67 #[v] w fun e w' => e = .returned (dg (rootS ds)) ∧ Below w.heap.size w w'
theorem rootS_len (ds : List (List UInt8)) (h : All32 ds) (hl : ds.length ≤ 281474976710656) : (rootS ds).length = 32 := by
  unfold rootS
  split
  · exact sha_len _
  · exact R_len ds h (by omega)
theorem rootS_step (ds : List (List UInt8)) (h : 2 ≤ ds.length) (h' : ds.length ≤ 281474976710656) : rootS ds = nodeS (rootS (ds.take (H ds.length))) (rootS (ds.drop (H ds.length))) := by
  obtain ⟨q1, q2, q3⟩ := H_spec ds.length h h'
  unfold rootS
  rw [if_neg (by omega), if_neg (by rw [List.length_take]; omega), if_neg (by rw [List.length_drop]; omega), R_step ds h h']
set_option maxRecDepth 100000 in
set_option maxHeartbeats 4000000 in
theorem root4_step (n : Nat) (ih : ∀ m, m < n → RootC m) (v : Value) (ds : List (List UInt8)) (w : World) (h : Ds w v ds) (hn : ds.length = n) (hm : n ≤ 281474976710656) : Calls Tryd.prog 67 #[v] w (fun e w' => e = .returned (dg (rootS ds)) ∧ Below w.heap.size w w') := by
  have hsm := h.1.small
  refine Eng.enter (l := [v]) Tryd.func67 rfl 26 rfl (by simp) ?_
  refine Eng.seqk fun K1 hK1 => ?_
  refine Eng.reg ?_
  refine Eng.al rfl rfl rfl zr45_r4 (cs := (bcs Oct.dz)) rfl ?_
  intro w2 hk2 hb2 hz2
  refine Eng.nil ?_
  refine hK1 _ _ ?_
  refine Eng.seqk fun K3 hK3 => ?_
  refine Eng.seqk fun K4 hK4 => ?_
  refine Eng.reg ?_
  refine Eng.sv rfl rfl (Eng.x_mv (v := v) rfl rfl) ?_
  have hr5 := (h).below hb2
  refine Eng.sv rfl rfl (Eng.x_len (v := v) (r := (ds.length : Int)) rfl Tryd.underlying36 rfl (hr5).1 rfl) ?_
  by_cases h6 : ((ds.length : Int) : Int) = 0
  · skip
    refine Eng.sv rfl rfl (Eng.x_eq (r := true) rfl rfl rfl (Eng.eq_t (by omega))) ?_
    refine Eng.nil ?_
    refine hK4 _ _ ?_
    refine Eng.cond_t rfl ?_
    refine Eng.seqk fun K6 hK6 => ?_
    refine Eng.reg ?_
    refine Eng.sc rfl (Eng.xc (vl := []) rfl rfl rfl en123_r4) (rempty_calls _) ?_
    rintro _ w7 ⟨rfl, hb7⟩
    refine Eng.aft_v rfl ?_
    have hk8 := (hk2).below hb7
    refine Eng.stB (v := (dg (sha []))) rfl rfl rfl sz45_r4 rfl hk8 rfl rfl (cs' := (bcs (sha []))) rfl ((bcs_length _).trans (sha_len _)) (bcs_one _) ?_
    intro w9 hk9 hg9
    refine Eng.nil ?_
    refine hK6 _ _ ?_
    refine Eng.rt ?_
    refine Eng.tr ?_
    refine Eng.ret (Eng.res1 (v1 := (dg (sha []))) rfl (Eng.rdc rfl (Eng.lvB ag45_r4 sz45_r4 hk9 ((bcs_length _).trans (sha_len _)) rfl))) ?_
    have hB0_2 : Below w.heap.size w w7 := (hb2).trans (hb7.mono (hb2).size)
    have hB0_3 : Below w.heap.size w w9 := (hB0_2).grown hg9 (hB0_2).size (fun k e => by cases e; exact Nat.le_trans (Nat.le_refl _) (Nat.le_refl _))
    exact ⟨by unfold rootS; rw [if_pos (by omega)], hB0_3⟩
  · skip
    refine Eng.sv rfl rfl (Eng.x_eq (r := false) rfl rfl rfl (Eng.eq_f (by omega))) ?_
    refine Eng.nil ?_
    refine hK4 _ _ ?_
    refine Eng.cond_f rfl ?_
    refine Eng.skp ?_
    refine hK3 _ _ ?_
    refine Eng.seqk fun K10 hK10 => ?_
    refine Eng.seqk fun K11 hK11 => ?_
    refine Eng.reg ?_
    refine Eng.sv rfl rfl (Eng.x_mv (v := v) rfl rfl) ?_
    refine Eng.sv rfl rfl (Eng.x_len (v := v) (r := (ds.length : Int)) rfl Tryd.underlying36 rfl (hr5).1 rfl) ?_
    by_cases h10 : ((ds.length : Int) : Int) = 1
    · skip
      refine Eng.sv rfl rfl (Eng.x_eq (r := true) rfl rfl rfl (Eng.eq_t (by omega))) ?_
      refine Eng.nil ?_
      refine hK11 _ _ ?_
      refine Eng.cond_t rfl ?_
      refine Eng.seqk fun K12 hK12 => ?_
      refine Eng.reg ?_
      refine Eng.sv rfl rfl (Eng.x_mv (v := v) rfl rfl) ?_
      refine Eng.sv rfl rfl (Eng.x_ia (v := v) (j := 0) rfl Tryd.underlying36 sz45_r4 (by decide) rfl rfl (hr5).1 (Dsl.dcs_len _ (hr5).2) (rfl) (by omega)) ?_
      refine Eng.sv rfl rfl (Eng.x_ldA (v := (dg ((ds).getD 0 []))) rfl ag45_r4 sz45_r4 rfl ((bcs_length _).trans (Eng.ds_len hr5 (by omega))) (Eng.ds_at hr5 (by omega)) rfl) ?_
      refine Eng.stB (v := (dg ((ds).getD 0 []))) rfl rfl rfl sz45_r4 rfl hk2 rfl rfl (cs' := (bcs ((ds).getD 0 []))) rfl ((bcs_length _).trans (Eng.ds_len hr5 (by omega))) (bcs_one _) ?_
      intro w13 hk13 hg13
      refine Eng.nil ?_
      refine hK12 _ _ ?_
      refine Eng.rt ?_
      refine Eng.tr ?_
      refine Eng.ret (Eng.res1 (v1 := (dg ((ds).getD 0 []))) rfl (Eng.rdc rfl (Eng.lvB ag45_r4 sz45_r4 hk13 ((bcs_length _).trans (Eng.ds_len hr5 (by omega))) rfl))) ?_
      have hB0_2 : Below w.heap.size w w13 := (hb2).grown hg13 (hb2).size (fun k e => by cases e; exact Nat.le_trans (Nat.le_refl _) (Nat.le_refl _))
      exact ⟨by unfold rootS; rw [if_neg (by omega), R_one ds (by omega)], hB0_2⟩
    · skip
      obtain ⟨q1, q2, q3⟩ := H_spec ds.length (by omega) (by omega)
      refine Eng.sv rfl rfl (Eng.x_eq (r := false) rfl rfl rfl (Eng.eq_f (by omega))) ?_
      refine Eng.nil ?_
      refine hK11 _ _ ?_
      refine Eng.cond_f rfl ?_
      refine Eng.skp ?_
      refine hK10 _ _ ?_
      refine Eng.seqk fun K14 hK14 => ?_
      refine Eng.reg ?_
      refine Eng.sv rfl rfl (Eng.x_mv (v := v) rfl rfl) ?_
      refine Eng.sv rfl rfl (Eng.x_len (v := v) (r := (ds.length : Int)) rfl Tryd.underlying36 rfl (hr5).1 rfl) ?_
      refine Eng.sc rfl (Eng.xc (vl := [(.int .i64 (ds.length : Int))]) rfl rfl rfl en124_r4) (rhalf4_calls ds.length (by omega) (by omega) _) ?_
      rintro _ w15 ⟨rfl, hb15⟩
      refine Eng.aft_v rfl ?_
      refine Eng.sv rfl rfl (Eng.x_as (v := (.int .i64 (H ds.length : Int))) rfl rfl) ?_
      refine Eng.nil ?_
      refine hK14 _ _ ?_
      refine Eng.seqk fun K16 hK16 => ?_
      have hB0_2 : Below w.heap.size w w15 := (hb2).trans (hb15.mono (hb2).size)
      have hr18 := (h).below hB0_2
      have hq19 : Dsl.Ds w (Eng.sCut v 0 (H ds.length) 32) (ds.take (H ds.length)) := (ds_pre h (by omega))
      have hr20 := (hq19).below hB0_2
      have hq21 : Dsl.Ds w (Eng.sCut v (H ds.length) ds.length 32) (ds.drop (H ds.length)) := (ds_suf h (by omega))
      have hr22 := (hq21).below hB0_2
      refine Eng.draw 9 [fun (vQ : Value) (_ : World) => vQ = v, fun (vQ : Value) (_ : World) => vQ = (.int .i64 (H ds.length : Int)), fun (vQ : Value) (_ : World) => vQ = (Eng.sCut v 0 (H ds.length) 32), fun (vQ : Value) (_ : World) => vQ = (dg (rootS (ds.take (H ds.length)))), fun (vQ : Value) (_ : World) => vQ = v, fun (vQ : Value) (_ : World) => vQ = (.int .i64 (H ds.length : Int)), fun (vQ : Value) (_ : World) => vQ = (Eng.sCut v (H ds.length) ds.length 32), fun (vQ : Value) (_ : World) => vQ = (dg (rootS (ds.drop (H ds.length)))), fun (vQ : Value) (_ : World) => vQ = (dg (nodeS (rootS (ds.take (H ds.length))) (rootS (ds.drop (H ds.length)))))] (by kernel_rfl) (by kernel_rfl) (by kernel_rfl) (by kernel_rfl) rfl rfl ?_ ?_ ?_
      · exact ⟨fun _ _ _ h _ => h, fun _ _ _ h _ => h, fun _ _ _ h _ => h, fun _ _ _ h _ => h, fun _ _ _ h _ => h, fun _ _ _ h _ => h, fun _ _ _ h _ => h, fun _ _ _ h _ => h, fun _ _ _ h _ => h, trivial⟩
      · refine ⟨?_, ?_, ?_, ?_, ?_, ?_, ?_, ?_, ?_, trivial⟩
        · intro u' W hbW hkp hdp K hK
          refine Eng.dv rfl rfl ?_ (hK _ _ (Below.refl _ _) rfl)
          exact (Eng.x_mv (v := v) rfl (show Eng.opv 26 u' (.tmp 0) = v from hkp 0 rfl))
        · intro u' W hbW hkp hdp K hK
          refine Eng.dv rfl rfl ?_ (hK _ _ (Below.refl _ _) rfl)
          exact (Eng.x_mv (v := (.int .i64 (H ds.length : Int))) rfl (show Eng.opv 26 u' (.tmp 3) = (.int .i64 (H ds.length : Int)) from hkp 3 rfl))
        · intro u' W hbW hkp hdp K hK
          have e0 : (fun (vQ : Value) (_ : World) => vQ = v) (u' 17) W := hdp.1
          have e1 : (fun (vQ : Value) (_ : World) => vQ = (.int .i64 (H ds.length : Int))) (u' 18) W := hdp.2.1
          refine Eng.dv rfl rfl ?_ (hK _ _ (Below.refl _ _) rfl)
          exact (Eng.x_sl (v := v) rfl Tryd.underlying36 sz45_r4 (show Eng.opv 26 u' (.tmp 17) = v from e0) (((hr18).below hbW)).1 0 (H ds.length) (.inl ⟨rfl, rfl⟩) (Eng.bd (k := .i64) (show Eng.opv 26 u' (.tmp 18) = (.int .i64 (H ds.length : Int)) from e1)) (by omega) (by omega))
        · intro u' W hbW hkp hdp K hK
          have e2 : (fun (vQ : Value) (_ : World) => vQ = (Eng.sCut v 0 (H ds.length) 32)) (u' 19) W := hdp.1
          refine Eng.dc (vs := #[(Eng.sCut v 0 (H ds.length) 32)]) rfl ?_ (ih _ (by simp only [List.length_take, List.length_drop]; omega) _ _ _ ((hr20).below hbW) rfl (by simp only [List.length_take, List.length_drop]; omega)) ?_
          · exact Eng.xc (xs := #[(Go.Operand.tmp 19)]) (vl := [(Eng.sCut v 0 (H ds.length) 32)]) rfl rfl (Eng.lc (show Eng.opv 26 u' (.tmp 19) = (Eng.sCut v 0 (H ds.length) 32) from e2) rfl) en67_r4
          rintro _ W2 ⟨rfl, hb2⟩
          exact Eng.aft_v rfl (hK _ _ hb2 rfl)
        · intro u' W hbW hkp hdp K hK
          refine Eng.dv rfl rfl ?_ (hK _ _ (Below.refl _ _) rfl)
          exact (Eng.x_mv (v := v) rfl (show Eng.opv 26 u' (.tmp 0) = v from hkp 0 rfl))
        · intro u' W hbW hkp hdp K hK
          refine Eng.dv rfl rfl ?_ (hK _ _ (Below.refl _ _) rfl)
          exact (Eng.x_mv (v := (.int .i64 (H ds.length : Int))) rfl (show Eng.opv 26 u' (.tmp 3) = (.int .i64 (H ds.length : Int)) from hkp 3 rfl))
        · intro u' W hbW hkp hdp K hK
          have e4 : (fun (vQ : Value) (_ : World) => vQ = v) (u' 21) W := hdp.1
          have e5 : (fun (vQ : Value) (_ : World) => vQ = (.int .i64 (H ds.length : Int))) (u' 22) W := hdp.2.1
          refine Eng.dv rfl rfl ?_ (hK _ _ (Below.refl _ _) rfl)
          exact (Eng.x_sl (v := v) rfl Tryd.underlying36 sz45_r4 (show Eng.opv 26 u' (.tmp 21) = v from e4) (((hr18).below hbW)).1 (H ds.length) ds.length (Eng.bd (k := .i64) (show Eng.opv 26 u' (.tmp 22) = (.int .i64 (H ds.length : Int)) from e5)) (.inl ⟨rfl, rfl⟩) (by omega) (by omega))
        · intro u' W hbW hkp hdp K hK
          have e6 : (fun (vQ : Value) (_ : World) => vQ = (Eng.sCut v (H ds.length) ds.length 32)) (u' 23) W := hdp.1
          refine Eng.dc (vs := #[(Eng.sCut v (H ds.length) ds.length 32)]) rfl ?_ (ih _ (by simp only [List.length_take, List.length_drop]; omega) _ _ _ ((hr22).below hbW) rfl (by simp only [List.length_take, List.length_drop]; omega)) ?_
          · exact Eng.xc (xs := #[(Go.Operand.tmp 23)]) (vl := [(Eng.sCut v (H ds.length) ds.length 32)]) rfl rfl (Eng.lc (show Eng.opv 26 u' (.tmp 23) = (Eng.sCut v (H ds.length) ds.length 32) from e6) rfl) en67_r4
          rintro _ W2 ⟨rfl, hb2⟩
          exact Eng.aft_v rfl (hK _ _ hb2 rfl)
        · intro u' W hbW hkp hdp K hK
          have e3 : (fun (vQ : Value) (_ : World) => vQ = (dg (rootS (ds.take (H ds.length))))) (u' 20) W := hdp.1
          have e7 : (fun (vQ : Value) (_ : World) => vQ = (dg (rootS (ds.drop (H ds.length))))) (u' 24) W := hdp.2.1
          refine Eng.dc (vs := #[(dg (rootS (ds.take (H ds.length)))), (dg (rootS (ds.drop (H ds.length))))]) rfl ?_ (rnode_calls _ _ (rootS_len _ (fun d hd => h.2 d (List.mem_of_mem_take hd)) (by simp only [List.length_take, List.length_drop]; omega)) (rootS_len _ (fun d hd => h.2 d (List.mem_of_mem_drop hd)) (by simp only [List.length_take, List.length_drop]; omega)) _) ?_
          · exact Eng.xc (xs := #[(Go.Operand.tmp 20), (Go.Operand.tmp 24)]) (vl := [(dg (rootS (ds.take (H ds.length)))), (dg (rootS (ds.drop (H ds.length))))]) rfl rfl (Eng.lc (show Eng.opv 26 u' (.tmp 20) = (dg (rootS (ds.take (H ds.length)))) from e3) (Eng.lc (show Eng.opv 26 u' (.tmp 24) = (dg (rootS (ds.drop (H ds.length)))) from e7) rfl)) en125_r4
          rintro _ W2 ⟨rfl, hb2⟩
          exact Eng.aft_v rfl (hK _ _ hb2 rfl)
      · intro ud17 w17 hb17 hkp17 ⟨f17_0, f17_1, f17_2, f17_3, f17_4, f17_5, f17_6, f17_7, f17_8, _⟩
        obtain rfl := Eng.collect (l := [(17, v), (18, (.int .i64 (H ds.length : Int))), (19, (Eng.sCut v 0 (H ds.length) 32)), (20, (dg (rootS (ds.take (H ds.length))))), (21, v), (22, (.int .i64 (H ds.length : Int))), (23, (Eng.sCut v (H ds.length) ds.length 32)), (24, (dg (rootS (ds.drop (H ds.length))))), (25, (dg (nodeS (rootS (ds.take (H ds.length))) (rootS (ds.drop (H ds.length))))))]) hkp17 ⟨f17_0, f17_1, f17_2, f17_3, f17_4, f17_5, f17_6, f17_7, f17_8, trivial⟩ rfl
        have hk23 := ((hk2).below hb15).below hb17
        refine Eng.stB (v := (dg (nodeS (rootS (ds.take (H ds.length))) (rootS (ds.drop (H ds.length)))))) rfl rfl rfl sz45_r4 rfl hk23 rfl rfl (cs' := (bcs (nodeS (rootS (ds.take (H ds.length))) (rootS (ds.drop (H ds.length)))))) rfl ((bcs_length _).trans (nodeS_len _ _)) (bcs_one _) ?_
        intro w24 hk24 hg24
        refine Eng.nil ?_
        refine hK16 _ _ ?_
        refine Eng.rt ?_
        refine Eng.ret (Eng.res1 (v1 := (dg (nodeS (rootS (ds.take (H ds.length))) (rootS (ds.drop (H ds.length)))))) rfl (Eng.rdc rfl (Eng.lvB ag45_r4 sz45_r4 hk24 ((bcs_length _).trans (nodeS_len _ _)) rfl))) ?_
        have hB0_3 : Below w.heap.size w w17 := (hB0_2).trans (hb17.mono (hB0_2).size)
        have hB0_4 : Below w.heap.size w w24 := (hB0_3).grown hg24 (hB0_3).size (fun k e => by cases e; exact Nat.le_trans (Nat.le_refl _) (Nat.le_refl _))
        exact ⟨by rw [rootS_step ds (by omega) (by omega)], hB0_4⟩
theorem root4_calls (n : Nat) : RootC n := by
  induction n using Nat.strongRecOn with
  | ind n ih => exact fun v ds w h hn hm => root4_step n ih v ds w h hn hm
end Go.Proofs.YtnecgoahdkfbeaaDoor.Tid
end

section
namespace Go.Proofs.YtnecgoahdkfbeaaDoor.Tid
open Go Go.Op
set_option linter.unusedVariables false
set_option linter.unusedSimpArgs false
theorem pow_min {b : Nat} (h : b ≤ 63) : min b IntKind.i64.bits = b := by show min b 64 = b; omega
theorem two_i (n : Nat) : (2 : Int) ^ n = ((2 ^ n : Nat) : Int) := by push_cast; rfl
theorem fdiv_nat (a b : Nat) : (a : Int).fdiv (b : Int) = ((a / b : Nat) : Int) := by
  rw [Int.fdiv_eq_ediv_of_nonneg _ (by omega)]; rfl
/-- 2^48 shifted to the right. -/
theorem shr48 {b : Int} (h0 : 0 ≤ b) (h : b ≤ 48) : (281474976710656 : Int).fdiv (2 ^ (min b.toNat IntKind.i64.bits)) = ((2 ^ (48 - b.toNat) : Nat) : Int) := by
  rw [pow_min (by omega), two_i, show (281474976710656 : Int) = ((2 ^ 48 : Nat) : Int) from rfl, fdiv_nat, Nat.pow_div (by omega) (by omega)]
theorem shl_eq {a b : Int} {x y : Nat} (ha : a = (x : Int)) (hb : b = (y : Int)) (hy : y ≤ 63) (hs : x * 2 ^ y ≤ 9223372036854775807) : IntKind.i64.wrap (a * 2 ^ (min b.toNat IntKind.i64.bits)) = ((x * 2 ^ y : Nat) : Int) := by
  subst ha hb
  rw [Int.toNat_natCast, pow_min hy, two_i, ← Int.natCast_mul]
  generalize x * 2 ^ y = z at hs ⊢
  exact Eng.w64 (by omega)
theorem shr_eq {a b : Int} {x y : Nat} (ha : a = (x : Int)) (hb : b = (y : Int)) (hy : y ≤ 63) : a.fdiv (2 ^ (min b.toNat IntKind.i64.bits)) = ((x / 2 ^ y : Nat) : Int) := by
  subst ha hb
  rw [Int.toNat_natCast, pow_min hy, two_i, fdiv_nat]
/-- The last bits. -/
theorem and_eq {k : Nat} (x : Nat) (hk : k ≤ 62) (hx : x < 9223372036854775808) (w : World) (P : Program) {b : Int} (hb : b = ((2 ^ k : Nat) : Int) - 1) : (Op.intBits .and .i64 (x : Int) b).run P w = .ok (.int .i64 ((x % 2 ^ k : Nat) : Int)) w := by
  have hp : 1 ≤ 2 ^ k := Nat.one_le_two_pow
  have hp2 : 2 ^ k ≤ 2 ^ 62 := Nat.pow_le_pow_right (by omega) hk
  have e : b = ((2 ^ k - 1 : Nat) : Int) := by omega
  rw [e]
  have hz : (BitVec.ofInt 64 (x : Int) &&& BitVec.ofInt 64 ((2 ^ k - 1 : Nat) : Int)).toNat = x % 2 ^ k := by
    rw [BitVec.toNat_and, BitVec.ofInt_natCast, BitVec.ofInt_natCast, BitVec.toNat_ofNat, BitVec.toNat_ofNat, Nat.mod_eq_of_lt (by omega), Nat.mod_eq_of_lt (by omega), Nat.and_two_pow_sub_one_eq_mod]
  show Result.ok (Value.int .i64 (IntKind.i64.wrap ((BitVec.ofInt 64 (x : Int) &&& BitVec.ofInt 64 ((2 ^ k - 1 : Nat) : Int)).toNat : Int))) w = _
  have hm : x % 2 ^ k ≤ x := Nat.mod_le _ _
  rw [hz, Eng.w64 (r := ((x % 2 ^ k : Nat) : Int)) (by omega)]
def ht (h : Int) : Bool := decide (1 ≤ h ∧ h ≤ 8)
theorem ht_yes {h : Int} (e : ht h = true) : 1 ≤ h ∧ h ≤ 8 := of_decide_eq_true e
theorem ht_nat {h : Int} (e : ht h = true) : ∃ n : Nat, h = (n : Int) ∧ 1 ≤ n ∧ n ≤ 8 := by
  have := ht_yes e; exact ⟨h.toNat, by omega, by omega, by omega⟩
def nv (l i : Int) : Bool := decide (0 ≤ l ∧ l ≤ 48 ∧ 0 ≤ i ∧ i < ((2 ^ (48 - l.toNat) : Nat) : Int))
theorem nv_yes {l i : Int} (h : nv l i = true) : 0 ≤ l ∧ l ≤ 48 ∧ 0 ≤ i ∧ i < ((2 ^ (48 - l.toNat) : Nat) : Int) := of_decide_eq_true h
theorem nv_nat {l i : Int} (h : nv l i = true) : ∃ a b : Nat, l = (a : Int) ∧ i = (b : Int) ∧ a ≤ 48 ∧ b < 2 ^ (48 - a) := by
  obtain ⟨h1, h2, h3, h4⟩ := nv_yes h
  obtain ⟨a, rfl⟩ := Int.eq_ofNat_of_zero_le h1
  obtain ⟨b, rfl⟩ := Int.eq_ofNat_of_zero_le h3
  exact ⟨a, b, rfl, rfl, by omega, by simp only [Int.toNat_natCast] at h4; exact_mod_cast h4⟩
/-- The bound of what is shifted. -/
theorem sh_lt {a b h : Nat} (hh : 1 ≤ h) (ha : a ≤ 48) (hb : b < 2 ^ (48 - a)) : b * 2 ^ (a % h) < 2 ^ 48 := by
  have h1 : a % h ≤ a := Nat.mod_le _ _
  calc b * 2 ^ (a % h) < 2 ^ (48 - a) * 2 ^ (a % h) := Nat.mul_lt_mul_of_pos_right hb (Nat.two_pow_pos _)
    _ = 2 ^ (48 - a + a % h) := by rw [Nat.pow_add]
    _ ≤ 2 ^ 48 := Nat.pow_le_pow_right (by omega) (by omega)
theorem pow8 {h : Nat} (hh : h ≤ 8) : 2 ^ h ≤ 256 := Nat.pow_le_pow_right (n := 2) (by omega) hh
theorem tmod_nat (a b : Nat) : (a : Int).tmod (b : Int) = ((a % b : Nat) : Int) := rfl
theorem tdiv_nat (a b : Nat) : (a : Int).tdiv (b : Int) = ((a / b : Nat) : Int) := rfl
theorem nv_lt {l i : Int} (h : nv l i = true) : i < 281474976710656 := by
  obtain ⟨h1, h2, h3, h4⟩ := nv_yes h
  have : 2 ^ (48 - l.toNat) ≤ 2 ^ 48 := Nat.pow_le_pow_right (by omega) (by omega)
  omega
/-- Valid tiles. -/
def tv (h l i w : Int) : Bool := decide (ht h = true ∧ 0 ≤ l ∧ 0 ≤ i ∧ 1 ≤ w ∧ w ≤ ((2 ^ h.toNat : Nat) : Int) ∧ nv (l * h) (i * ((2 ^ h.toNat : Nat) : Int) + w - 1) = true)
theorem tv_yes {h l i w : Int} (e : tv h l i w = true) : ht h = true ∧ 0 ≤ l ∧ 0 ≤ i ∧ 1 ≤ w ∧ w ≤ ((2 ^ h.toNat : Nat) : Int) ∧ nv (l * h) (i * ((2 ^ h.toNat : Nat) : Int) + w - 1) = true := of_decide_eq_true e
theorem h8 {h : Int} (e : ht h = true) : h = 1 ∨ h = 2 ∨ h = 3 ∨ h = 4 ∨ h = 5 ∨ h = 6 ∨ h = 7 ∨ h = 8 := by have := ht_yes e; omega
theorem quo48 {h : Int} (e : ht h = true) : IntKind.i64.wrap ((48 : Int).tdiv h) = 48 / h := by
  rcases h8 e with rfl | rfl | rfl | rfl | rfl | rfl | rfl | rfl <;> rfl
theorem lh {h l : Int} (e : ht h = true) : 48 / h < l ↔ 48 < l * h := by
  rcases h8 e with rfl | rfl | rfl | rfl | rfl | rfl | rfl | rfl <;> omega
theorem lh0 {h l : Int} (e : ht h = true) (h0 : 0 ≤ l) (h1 : l ≤ 48) : 0 ≤ l * h ∧ l * h ≤ 384 := by
  rcases h8 e with rfl | rfl | rfl | rfl | rfl | rfl | rfl | rfl <;> omega
theorem pwb {h : Int} (e : ht h = true) : 2 ≤ 2 ^ h.toNat ∧ 2 ^ h.toNat ≤ 256 := by
  rcases h8 e with rfl | rfl | rfl | rfl | rfl | rfl | rfl | rfl <;> decide
theorem ip {h i : Int} (e : ht h = true) (h0 : 0 ≤ i) : i ≤ i * ((2 ^ h.toNat : Nat) : Int) := by
  have := (pwb e).1
  calc i = i * 1 := by omega
    _ ≤ _ := Int.mul_le_mul_of_nonneg_left (by omega) h0
theorem ip2 {h i : Int} (e : ht h = true) (h0 : 0 ≤ i) (h1 : i ≤ 281474976710656) : i * ((2 ^ h.toNat : Nat) : Int) ≤ 72057594037927936 := by
  have := (pwb e).2
  calc i * ((2 ^ h.toNat : Nat) : Int) ≤ i * 256 := Int.mul_le_mul_of_nonneg_left (by omega) h0
    _ ≤ _ := by omega
theorem shlP {h i : Int} (e : ht h = true) (h0 : 0 ≤ i) (h1 : i ≤ 281474976710656) : IntKind.i64.wrap (i * 2 ^ (min h.toNat IntKind.i64.bits)) = i * ((2 ^ h.toNat : Nat) : Int) := by
  have h2 := ip2 e h0 h1
  have h3 := ip e h0
  rw [pow_min (by have := ht_yes e; omega), two_i]
  exact Eng.w64 (by omega)
theorem one_shl {h : Int} (e : ht h = true) : IntKind.i64.wrap (1 * 2 ^ (min h.toNat IntKind.i64.bits)) = ((2 ^ h.toNat : Nat) : Int) := by
  have := pwb e
  rw [pow_min (by have := ht_yes e; omega), two_i, Int.one_mul]
  exact Eng.w64 (by omega)
theorem tvF {h l i w : Int} (c : ht h = false ∨ l < 0 ∨ (ht h = true ∧ 48 < l * h) ∨ i < 0 ∨ (ht h = true ∧ 281474976710656 < i) ∨ w < 1 ∨ ((2 ^ h.toNat : Nat) : Int) < w ∨ (ht h = true ∧ 0 ≤ i ∧ ((2 ^ (48 - h.toNat) : Nat) : Int) < i)) : tv h l i w = false := by
  rw [← Bool.not_eq_true]
  intro e
  obtain ⟨h1, h2, h3, h4, h5, h6⟩ := tv_yes e
  have n1 := nv_lt h6
  obtain ⟨n2, n3, n4, n5⟩ := nv_yes h6
  have hp := ip h1 h3
  rcases c with c | c | ⟨c0, c⟩ | c | ⟨c0, c⟩ | c | c | ⟨c0, c1, c⟩
  · rw [h1] at c; cases c
  · omega
  · omega
  · omega
  · omega
  · omega
  · omega
  · have hm : ((2 ^ (48 - h.toNat) : Nat) : Int) * ((2 ^ h.toNat : Nat) : Int) ≤ i * ((2 ^ h.toNat : Nat) : Int) := Int.mul_le_mul_of_nonneg_right (by omega) (by omega)
    rw [← Int.natCast_mul, ← Nat.pow_add, show 48 - h.toNat + h.toNat = 48 from by have := ht_yes h1; omega] at hm
    omega
theorem tvT {h l i w : Int} (h1 : ht h = true) (h2 : 0 ≤ l) (h3 : 0 ≤ i) (h4 : 1 ≤ w) (h5 : w ≤ ((2 ^ h.toNat : Nat) : Int)) : nv (l * h) (i * ((2 ^ h.toNat : Nat) : Int) + w - 1) = tv h l i w := by
  cases e : nv (l * h) (i * ((2 ^ h.toNat : Nat) : Int) + w - 1) with
  | true => exact (decide_eq_true ⟨h1, h2, h3, h4, h5, e⟩).symm
  | false => exact (decide_eq_false (fun c => by rw [e] at c; exact absurd c.2.2.2.2.2 (by decide))).symm
/-- Where a node's digests lie: the first, one behind the last. -/
def oS (n a b : Nat) : Nat := b * 2 ^ (a % n)
def oF (n a b : Nat) : Nat := oS n a b % 2 ^ n
def oT (n a b : Nat) : Nat := oF n a b + 2 ^ (a % n)
theorem o_bounds {n a b : Nat} (h1 : 1 ≤ n) (h8 : n ≤ 8) (ha : a ≤ 48) (hb : b < 2 ^ (48 - a)) : oS n a b < 281474976710656 ∧ oF n a b < 2 ^ n ∧ 2 ^ n ≤ 256 ∧ 1 ≤ 2 ^ n ∧ a % n ≤ 7 ∧ 2 ^ (a % n) ≤ 128 ∧ 1 ≤ 2 ^ (a % n) ∧ a / n ≤ 48 ∧ oS n a b / 2 ^ n ≤ oS n a b := by
  have hm : a % n < n := Nat.mod_lt _ (by omega)
  refine ⟨sh_lt h1 ha hb, Nat.mod_lt _ (Nat.two_pow_pos _), pow8 h8, Nat.one_le_two_pow, by omega, ?_, Nat.one_le_two_pow, Nat.le_trans (Nat.div_le_self _ _) ha, Nat.div_le_self _ _⟩
  exact Nat.le_trans (Nat.pow_le_pow_right (n := 2) (by omega) (show a % n ≤ 7 by omega)) (by decide)
end Go.Proofs.YtnecgoahdkfbeaaDoor.Tid
end

section
namespace Go.Proofs.YtnecgoahdkfbeaaDoor.Eng
open Go Go.RowKit Go.Proofs.YtnecgoahdkfbeaaDoor.Cop
set_option linter.unusedVariables false
set_option linter.unusedSimpArgs false
section
variable {r : Option (Option Nat)} {P : Program} {Q : Exit → Act → World → Prop} {N : Nat} {ds : List Deferred}
theorem GrL.nil_below {w W : World} (h : GrL [] w W) : Below w.heap.size w W := h.below (Nat.le_refl _) (fun g hg => by cases hg)
theorem someInj {α : Type} {a b : α} (h : some a = some b) : a = b := Option.some.inj h
theorem outS_st {FL : List (Value → World → Prop)} {g : Nat} {t : TypeId} {c0 cs : List Value} {s : Nat} {o : Oper} {u : Nat → Value} {W : World} {K : Act → World → Prop} (hd : o.dst = none) (hK : ∀ W', W.grownBy W' (some g) → Blk W' g t cs → K (act N u ds) W') : OutS N ds FL [⟨g, t, c0, [(s, cs)]⟩] u W s o K := by
  unfold OutS; rw [hd]
  simp only [tgt, List.lookup, beq_self_eq_true]
  exact hK
/-- The store's step. -/
def StepSt (r : Option (Option Nat)) (P : Program) (ops : Array Oper) (Q : Exit → Act → World → Prop) (N : Nat) (ds : List Deferred) (FL : List (Value → World → Prop)) (PS : (Nat → Value) → World → World → Prop) (m : Nat) (u : Nat → Value) (w : World) (s : Nat) (o : Oper) : Prop :=
  ∀ (u' : Nat → Value) (V : World), Below w.heap.size w V → KeepsI ops m s u u' → Deps ops FL m u' V (preds ops s) → ∀ K : Act → World → Prop, (∀ W, PS u' V W → K (act N u' ds) W) → DS r P ops Q N ds o u' V K
def StepsL (r : Option (Option Nat)) (P : Program) (ops : Array Oper) (Q : Exit → Act → World → Prop) (N : Nat) (ds : List Deferred) (FL : List (Value → World → Prop)) (PS : (Nat → Value) → World → World → Prop) (s m : Nat) (u : Nat → Value) (w : World) : Nat → List Oper → Prop
  | _, [] => True
  | i, o :: l => ((Nat.beq i s = true → StepSt r P ops Q N ds FL PS m u w i o) ∧ (Nat.beq i s = false → StepE r P ops Q N ds FL [] [] m u w i o)) ∧ StepsL r P ops Q N ds FL PS s m u w (i + 1) l
/-- A floating operation's step, behind the store. -/
def StepsX (r : Option (Option Nat)) (P : Program) (ops : Array Oper) (Q : Exit → Act → World → Prop) (N : Nat) (ds : List Deferred) (FL : List (Value → World → Prop)) (PS : (Nat → Value) → World → World → Prop) (m : Nat) : List Nat → Prop
  | [] => True
  | x :: X => ((∀ u' v V W, PS u' V W → PS (upd u' (dstOf ops x) v) V W) ∧ ∀ o, ops[x]? = some o → ∀ (u' : Nat → Value) (V W : World), Deps ops FL m u' V (preds ops x) → ∀ K : Act → World → Prop, (∀ v, fat FL x v V → K (act N (upd u' (dstOf ops x) v) ds) W) → DS r P ops Q N ds o u' W K) ∧ StepsX r P ops Q N ds FL PS m X
theorem stepsL_at {ops : Array Oper} {FL : List (Value → World → Prop)} {PS : (Nat → Value) → World → World → Prop} {s m : Nat} {u : Nat → Value} {w : World} : ∀ {l : List Oper} {i : Nat}, StepsL r P ops Q N ds FL PS s m u w i l → ∀ {j : Nat} {o : Oper}, l[j]? = some o → (Nat.beq (i + j) s = true → StepSt r P ops Q N ds FL PS m u w (i + j) o) ∧ (Nat.beq (i + j) s = false → StepE r P ops Q N ds FL [] [] m u w (i + j) o)
  | [], _, _, j, o, h => by simp at h
  | o' :: l, i, hs, 0, o, h => by simp at h; subst h; exact hs.1
  | o' :: l, i, hs, j + 1, o, h => by
    have := stepsL_at (l := l) (i := i + 1) hs.2 (j := j) (o := o) (by simpa using h)
    rwa [show i + 1 + j = i + (j + 1) by omega] at this
theorem stepsX_at {ops : Array Oper} {FL : List (Value → World → Prop)} {PS : (Nat → Value) → World → World → Prop} {m : Nat} : ∀ {X : List Nat}, StepsX r P ops Q N ds FL PS m X → ∀ x ∈ X, (∀ u' v V W, PS u' V W → PS (upd u' (dstOf ops x) v) V W) ∧ ∀ o, ops[x]? = some o → ∀ (u' : Nat → Value) (V W : World), Deps ops FL m u' V (preds ops x) → ∀ K : Act → World → Prop, (∀ v, fat FL x v V → K (act N (upd u' (dstOf ops x) v) ds) W) → DS r P ops Q N ds o u' W K
  | [], _, x, hx => by cases hx
  | y :: X, h, x, hx => by
    rcases List.mem_cons.1 hx with rfl | hx
    · exact h.1
    · exact stepsX_at h.2 x hx
/-- All that do not float come ahead of the store. -/
def floatB (ops : Array Oper) (m s : Nat) (X : List Nat) : Bool := (List.range m).all fun i => Nat.beq i s || X.contains i || (preds ops s).contains i
def dstB (ops : Array Oper) (m s : Nat) : Bool := (List.range m).all fun i => Nat.beq i s || !noDst ops i
theorem drawL {id : Nat} {l : List Oper} {u : Nat → Value} {w : World} (m s : Nat) (X : List Nat) (FL : List (Value → World → Prop)) (PS : (Nat → Value) → World → World → Prop) (hm : P.follows .mixedOrders = true) (hac : acyc l.toArray = true) (hh : headS l.toArray m = true) (ht : tailB l.toArray m = true) (hfl : floatB l.toArray m s X = true) (hdb : dstB l.toArray m s = true) (hsm : Nat.blt s m = true) (hnd : noDst l.toArray s = true) (hlen : FL.length = m) (hle : Nat.ble m l.length = true)
    (hst : StabE [] w FL) (hT : fat FL s = fun _ _ => True) (hstep : StepsL r P l.toArray Q N ds FL PS s m u w 0 (l.take m)) (hX : StepsX r P l.toArray Q N ds FL PS m X)
    (hfin : ∀ u' V W, Below w.heap.size w V → KeepsS l.toArray m u u' → Facs l.toArray u' V 0 FL → PS u' V W → wpS r P l.toArray Q (l.drop m) (act N u' ds) W) :
    wpC r P (.region id l.toArray true) Q (act N u ds) w := by
  have hml : m ≤ l.length := Nat.le_of_ble_eq_true hle
  have hsm : s < m := Nat.le_of_ble_eq_true hsm
  have hT2 : ∀ v W, fat FL s v W := fun v W => by rw [hT]; trivial
  have hE0 : ∀ g ∈ ([] : List Nat), g < w.heap.size := fun g hg => by cases hg
  have hdst : ∀ j, j < m → j ≠ s → noDst l.toArray j = false := by
    intro j hj hjs
    have := List.all_eq_true.1 hdb j (List.mem_range.2 hj)
    have e : Nat.beq j s = false := by
      cases e : Nat.beq j s with
      | false => rfl
      | true => exact absurd (Nat.eq_of_beq_eq_true e) hjs
    rw [e] at this; simpa using this
  have hdne : ∀ i j, i < m → j < m → j ≠ i → ∀ x y, hasDst l.toArray i x = true → hasDst l.toArray j y = true → y ≠ x := by
    intro i j hi hj hji x y hx hy e
    subst e
    have h1 := List.all_eq_true.1 (List.all_eq_true.1 hh i (List.mem_range.2 hi)) j (List.mem_range.2 hj)
    have hij : (i == j) = false := by simpa using fun e => hji e.symm
    rw [hij, Bool.false_or] at h1
    unfold hasDst at hx hy
    cases h2 : l.toArray[i]? with
    | none => rw [h2] at hx; cases hx
    | some a =>
      cases h3 : l.toArray[j]? with
      | none => rw [h3] at hy; cases hy
      | some b =>
        rw [h2] at hx h1; rw [h3] at hy h1
        cases h4 : a.dst with
        | none => simp only [h4] at hx; cases hx
        | some p =>
          cases h5 : b.dst with
          | none => simp only [h5] at hy; cases hy
          | some q =>
            simp only [h4, h5] at hx hy h1
            rw [Nat.eq_of_beq_eq_true hx, Nat.eq_of_beq_eq_true hy] at h1
            simp at h1
  have hasOf : ∀ j, j < m → noDst l.toArray j = false → hasDst l.toArray j (dstOf l.toArray j) = true := by
    intro j hj hnj
    have hj2 : j < l.length := by omega
    unfold noDst at hnj
    unfold hasDst dstOf
    simp only [List.getElem?_toArray, List.getElem?_eq_getElem hj2] at hnj ⊢
    cases e : l[j].dst with
    | none => rw [e] at hnj; cases hnj
    | some y => simp
  have hFall : ∀ {D : Nat → Bool} {u' : Nat → Value} {W : World}, (∀ j, j < m → D j = true → j ≠ s → fat FL j (u' (dstOf l.toArray j)) W) → ∀ j, j < m → D j = true → fat FL j (u' (dstOf l.toArray j)) W := by
    intro D u' W h j hj hD
    by_cases e : j = s
    · subst e; exact hT2 _ _
    · exact h j hj hD e
  refine region_invC (fun D a W => (∀ j, m ≤ j → j < l.length → D j = false) ∧ (∃ u', a = act N u' ds ∧ KeepsD l.toArray m D u u' ∧
      ((D s = false ∧ Below w.heap.size w W ∧ ∀ j, j < m → D j = true → j ≠ s → fat FL j (u' (dstOf l.toArray j)) W) ∨
       (D s = true ∧ ∃ V, Below w.heap.size w V ∧ PS u' V W ∧ ∀ j, j < m → D j = true → j ≠ s → fat FL j (u' (dstOf l.toArray j)) V))) ∨
      ∃ t, m ≤ t ∧ t < l.length ∧ (∀ j, j ≤ t → D j = true) ∧ (∀ j, t < j → j < l.length → D j = false) ∧ wpS r P l.toArray Q (l.drop (t + 1)) a W) hm hac ?_ ?_ ?_
  · exact .inl ⟨fun _ _ _ => rfl, u, rfl, fun _ _ => rfl, .inl ⟨rfl, (Below.refl _ _).drew, fun _ _ h => by cases h⟩⟩
  · intro i o ho D a W hdi hdep hcl hI K hK
    have hi : i < l.length := by simpa using (Array.getElem?_eq_some_iff.1 ho).1
    have hol : l[i]? = some o := by simpa using ho
    have hdp : ∀ k ∈ preds l.toArray i, D k = true := by
      intro j hj
      unfold preds at hj
      rw [ho] at hj
      obtain ⟨e, he, rfl⟩ := List.mem_map.1 hj
      obtain ⟨he1, he2⟩ := List.mem_filter.1 he
      exact hdep e (Array.mem_toList_iff.1 he1) he2
    by_cases him : i < m
    · rcases hI with ⟨htl, u', rfl, hk, hAB⟩ | ⟨t, ht1, ht2, ht3, _⟩
      · have hs := stepsL_at hstep (j := i) (o := o) (by rw [List.getElem?_take, if_pos him]; exact hol)
        rw [Nat.zero_add] at hs
        have htl' : ∀ j, m ≤ j → j < l.length → Cop.upd D i j = false := fun j h1 h2 => by rw [Cop.upd_other D i j (by omega)]; exact htl j h1 h2
        by_cases his : i = s
        · -- the store
          subst his
          rcases hAB with ⟨_, hb, hF⟩ | ⟨hDs, _⟩
          · refine (hs.1 (Nat.beq_refl i) u' W hb (hk.keepsI hcl hdi) (deps_of _ fun j hj hjm => hFall hF j hjm (hdp j hj)) K (fun W' hps => hK _ _ (.inl ⟨htl', u', rfl, fun k hk2 => hk k (fun j hj hd => updF (hk2 j hj hd)), .inr ⟨Cop.upd_same D i, W, hb, hps, fun j hj hD hji => ?_⟩⟩))).out
            rw [Cop.upd_other D i j hji] at hD
            exact hF j hj hD hji
          · rw [hdi] at hDs; cases hDs
        · have hnj := hdst i him his
          have hii := hasOf i him hnj
          have hod : o.dst = some (dstOf l.toArray i) := by
            unfold hasDst at hii; rw [ho] at hii
            cases e : o.dst with
            | none => simp only [e] at hii; cases hii
            | some p => simp only [e] at hii; rw [Nat.eq_of_beq_eq_true hii]
          have hkeep : ∀ v, KeepsD l.toArray m (Cop.upd D i) u (Eng.upd u' (dstOf l.toArray i) v) := by
            intro v k hk2
            have hne : k ≠ dstOf l.toArray i := by
              intro e
              have := hk2 i him (by rw [e]; exact hii)
              rw [Cop.upd_same] at this; cases this
            rw [Eng.upd_other u' _ v k hne]
            exact hk k (fun j hj hd => updF (hk2 j hj hd))
          have hFu : ∀ {v : Value} {W1 : World}, fat FL i v W1 → (∀ j, j < m → D j = true → j ≠ s → fat FL j (u' (dstOf l.toArray j)) W1) → ∀ j, j < m → Cop.upd D i j = true → j ≠ s → fat FL j (Eng.upd u' (dstOf l.toArray i) v (dstOf l.toArray j)) W1 := by
            intro v W1 hf hF j hj hD hjs
            by_cases hji : j = i
            · subst hji; rw [Eng.upd_same]; exact hf
            · rw [Cop.upd_other D i j hji] at hD
              rw [Eng.upd_other u' _ v _ (hdne i j him hj hji _ _ hii (hasOf j hj (hdst j hj hjs)))]
              exact hF j hj hD hjs
          rcases hAB with ⟨hDs, hb, hF⟩ | ⟨hDs, V, hb, hps, hF⟩
          · have hbe : Nat.beq i s = false := by
              cases e : Nat.beq i s with
              | false => rfl
              | true => exact absurd (Nat.eq_of_beq_eq_true e) his
            refine (hs.2 hbe u' W (GrL.of_below hb) (hk.keepsI hcl hdi) (deps_of _ fun j hj hjm => hFall hF j hjm (hdp j hj)) trivial K ?_).out
            unfold OutS; rw [hod]
            intro v W' hb' hf
            refine hK _ _ (.inl ⟨htl', _, rfl, hkeep v, .inl ⟨by rw [Cop.upd_other D i s (fun e => his e.symm)]; exact hDs, hb.trans (hb'.mono hb.size), hFu hf fun j hj hD hjs => ?_⟩⟩)
            exact fat_stabE hst hE0 j _ _ _ (hF j hj hD hjs) hb.size (GrL.of_below hb')
          · have hxm : i ∈ X := by
              have := List.all_eq_true.1 hfl i (List.mem_range.2 him)
              have hbe : Nat.beq i s = false := by
                cases e : Nat.beq i s with
                | false => rfl
                | true => exact absurd (Nat.eq_of_beq_eq_true e) his
              rw [hbe, Bool.false_or] at this
              rcases Bool.or_eq_true_iff.1 this with q | q
              · simpa using q
              · have := preds_closed hcl hDs (show i ∈ preds l.toArray s by simpa using q)
                rw [hdi] at this; cases this
            obtain ⟨hx1, hx2⟩ := stepsX_at hX i hxm
            refine (hx2 o ho u' V W (deps_of _ fun j hj hjm => hFall hF j hjm (hdp j hj)) K (fun v hf => ?_)).out
            exact hK _ _ (.inl ⟨htl', _, rfl, hkeep v, .inr ⟨by rw [Cop.upd_other D i s (fun e => his e.symm)]; exact hDs, V, hb, hx1 u' v V W hps, hFu hf hF⟩⟩)
      · have := ht3 i (by omega)
        rw [hdi] at this; cases this
    · have him : m ≤ i := by omega
      have hall := tail_all ht hcl ho him hdep
      have hw : wpS r P l.toArray Q (o :: l.drop (i + 1)) a W := by
        have hd : l.drop i = o :: l.drop (i + 1) := by
          rw [List.drop_eq_getElem_cons hi]
          congr 1
          rw [List.getElem?_eq_getElem hi] at hol
          exact Option.some.inj hol
        rcases hI with ⟨htl, u', rfl, hk, hAB⟩ | ⟨t, ht1, ht2, ht3, ht4, hw⟩
        · have him2 : i = m := by
            by_cases h : m < i
            · have := hall m h
              rw [htl m (Nat.le_refl _) (by omega)] at this; cases this
            · omega
          subst him2
          rw [← hd]
          rcases hAB with ⟨hDs, _⟩ | ⟨hDs, V, hb, hps, hF⟩
          · rw [hall s hsm] at hDs; cases hDs
          · exact hfin u' V W hb hk.keepsS (facs_of FL 0 fun j hj => by rw [Nat.zero_add]; exact hFall hF j (by omega) (hall j (by omega))) hps
        · have hit : i = t + 1 := by
            by_cases h : i ≤ t
            · have := ht3 i h; rw [hdi] at this; cases this
            · by_cases h2 : t + 1 < i
              · have := hall (t + 1) h2
                rw [ht4 (t + 1) (by omega) (by omega)] at this; cases this
              · omega
          subst hit
          rw [← hd]; exact hw
      have hup : ∀ j, j ≤ i → Cop.upd D i j = true := by
        intro j hj
        by_cases hji : j = i
        · subst hji; exact Cop.upd_same D j
        · rw [Cop.upd_other D i j hji]; exact hall j (by omega)
      have hdown : ∀ j, i < j → j < l.length → Cop.upd D i j = false := by
        intro j h1 h2
        rw [Cop.upd_other D i j (by omega)]
        rcases hI with ⟨htl, _⟩ | ⟨t, ht1, ht2, ht3, ht4, _⟩
        · exact htl j (by omega) h2
        · by_cases h : t < j
          · exact ht4 j h h2
          · have := ht3 i (by omega); rw [hdi] at this; cases this
      have hK2 : ∀ a' W', wpS r P l.toArray Q (l.drop (i + 1)) a' W' → K a' W' := fun a' W' h => hK _ _ (.inr ⟨i, him, hi, hup, hdown, h⟩)
      replace hw := wpS_open hw
      split at hw
      · rename_i hwd
        rw [if_pos hwd]
        exact opC_mono hK2 hw
      · rename_i hwd
        rw [if_neg hwd]
        exact hK2 _ _ hw
  · intro D a W hall hI
    rcases hI with ⟨htl, u', rfl, hk, hAB⟩ | ⟨t, ht1, ht2, ht3, ht4, hw⟩
    · have hmn : m = l.length := by
        by_cases h : m < l.length
        · have := hall m (by simpa using h)
          rw [htl m (Nat.le_refl _) h] at this; cases this
        · omega
      have hall2 : ∀ j, j < m → D j = true := fun j hj => hall j (by simp; omega)
      rcases hAB with ⟨hDs, _⟩ | ⟨hDs, V, hb, hps, hF⟩
      · rw [hall2 s hsm] at hDs; cases hDs
      · have := hfin u' V W hb hk.keepsS (facs_of FL 0 fun j hj => by rw [Nat.zero_add]; exact hFall hF j (by omega) (hall2 j (by omega))) hps
        rw [hmn, List.drop_length] at this
        exact wpS_nil this
    · have : t + 1 = l.length := by
        by_cases h : t + 1 < l.length
        · have := hall (t + 1) (by simpa using h)
          rw [ht4 (t + 1) (by omega) h] at this; cases this
        · omega
      rw [this, List.drop_length] at hw
      exact wpS_nil hw
end
end Go.Proofs.YtnecgoahdkfbeaaDoor.Eng
end
