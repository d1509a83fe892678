/- Slices of structs: rows by an encoding of their elements. -/
import Derived.Laws.Tables
import Derived.Test.YtnecgoahdkfbeaaDoorEngT
namespace Go.Proofs.YtnecgoahdkfbeaaDoor.Eng
open Go Go.RowKit Go.Proofs.YtnecgoahdkfbeaaDoor.Cop Go.Proofs.YtnecgoahdkfbeaaDoor.Oct Go.Proofs.YtnecgoahdkfbeaaDoor.Dsl
set_option linter.unusedVariables false
set_option linter.unusedSimpArgs false
/-- A slice whose elements are told by 'enc': sz cells each. -/
def RowL {α : Type} (sz : Nat) (enc : α → List Value) (w : World) (v : Value) (l : List α) : Prop := Row w v l.length (l.flatMap enc) ∧ ∀ a ∈ l, (enc a).length = sz
/-- .. of the call's own. -/
def OwnL {α : Type} (T : TypeId) (sz : Nat) (enc : α → List Value) (base : Nat) (w : World) (v : Value) (l : List α) : Prop := w.ownsRow base T sz v l.length (l.flatMap enc) ∧ ∀ a ∈ l, (enc a).length = sz
section
variable {α : Type} {T : TypeId} {sz : Nat} {enc : α → List Value} {base : Nat} {w w' : World} {v : Value} {l : List α}
theorem OwnL.rl (h : OwnL T sz enc base w v l) : RowL sz enc w v l := ⟨Row.of_own h.1, h.2⟩
theorem OwnL.row (h : OwnL T sz enc base w v l) : Row w v l.length (l.flatMap enc) := Row.of_own h.1
theorem OwnL.below (h : OwnL T sz enc base w v l) (hb : Below w.heap.size w w') : OwnL T sz enc base w' v l := ⟨own_below h.1 hb, h.2⟩
theorem OwnL.kept (h : OwnL T sz enc base w v l) {row : Option Nat} (hg : w.grownBy w' row) (hne : v.ownBlock = none ∨ v.ownBlock ≠ row) : OwnL T sz enc base w' v l := ⟨World.ownsRow.kept h.1 hg hne, h.2⟩
theorem OwnL.grL {E : List Nat} (h : OwnL T sz enc base w v l) (hg : GrL E w w') (hn : ∀ g, v.ownBlock = some g → g ∉ E) : OwnL T sz enc base w' v l := ⟨own_grL h.1 hg hn, h.2⟩
theorem OwnL.mono {b2 : Nat} (h : OwnL T sz enc base w v l) (hb : b2 ≤ base) : OwnL T sz enc b2 w v l := ⟨own_mono h.1 hb, h.2⟩
theorem OwnL.nil (T : TypeId) (sz : Nat) (enc : α → List Value) (base : Nat) (w : World) : OwnL T sz enc base w (.slice none 0 0) [] := ⟨World.ownsRow_nil _ _ _ _, by intro d h; cases h⟩
theorem RowL.below (h : RowL sz enc w v l) (hb : Below w.heap.size w w') : RowL sz enc w' v l := ⟨h.1.below hb, h.2⟩
theorem RowL.nil (sz : Nat) (enc : α → List Value) (w : World) : RowL sz enc w (.slice none 0 0) [] := ⟨Row.nil w, by intro d h; cases h⟩
theorem flat_len (h : ∀ a ∈ l, (enc a).length = sz) : (l.flatMap enc).length = l.length * sz := by
  induction l with
  | nil => simp
  | cons a l ih =>
    rw [List.flatMap_cons, List.length_append, h a (by simp), ih fun x hx => h x (by simp [hx]), List.length_cons, Nat.add_mul, Nat.one_mul, Nat.add_comm]
theorem flat_at (h : ∀ a ∈ l, (enc a).length = sz) (d : α) {j k : Nat} (hj : j < l.length) (hk : k < sz) : (l.flatMap enc)[j * sz + k]? = (enc (l.getD j d))[k]? := by
  induction l generalizing j with
  | nil => simp at hj
  | cons a l ih =>
    have ha := h a (by simp)
    rw [List.flatMap_cons]
    cases j with
    | zero =>
      rw [Nat.zero_mul, Nat.zero_add, List.getElem?_append_left (by omega)]
      rfl
    | succ j =>
      rw [List.getElem?_append_right (by rw [ha, Nat.add_mul, Nat.one_mul]; omega), ha, show (j + 1) * sz + k - sz = j * sz + k by rw [Nat.add_mul, Nat.one_mul]; omega, ih (fun x hx => h x (by simp [hx])) (by simpa using hj)]
      rfl
theorem enc_len (h : ∀ a ∈ l, (enc a).length = sz) (d : α) {j : Nat} (hj : j < l.length) : (enc (l.getD j d)).length = sz := by
  rw [List.getD_eq_getElem?_getD, List.getElem?_eq_getElem hj]
  exact h _ (List.getElem_mem hj)
theorem addr_add2 (a : Addr) (x y : Nat) : (a.add x).add y = a.add (x + y) := by unfold Addr.add; by_cases ha : x = 0 <;> by_cases hb : y = 0 <;> simp [ha, hb, Nat.add_assoc]
theorem len_cons {cs : List Value} {n : Nat} (v : Value) (h : cs.length = n) : (v :: cs).length = n + 1 := by rw [List.length_cons, h]
theorem len_dg {d : List UInt8} (h : d.length = 32) : (bcs d).length = 32 := (bcs_length _).trans h
theorem len_app {a b : List Value} {n m : Nat} (ha : a.length = n) (hb : b.length = m) : (a ++ b).length = n + m := by rw [List.length_append, ha, hb]
theorem getD_mem {α : Type} {l : List α} {d : α} {j : Nat} (h : j < l.length) : l.getD j d ∈ l := by
  rw [List.getD_eq_getElem?_getD, List.getElem?_eq_getElem h]; exact List.getElem_mem h
/-- A cell of an element. -/
theorem rl_cell (h : RowL sz enc w v l) (d : α) {j k : Nat} {u : Value} (hj : j < l.length) (hu : (enc (l.getD j d))[k]? = some u) : w.cell? (((sAddr v).add (j * sz)).add k) = some u := by
  have hk : k < sz := by
    have := (List.getElem?_eq_some_iff.1 hu).1
    rw [enc_len h.2 d hj] at this; exact this
  rw [addr_add2]
  exact Row.addr h.1 (by rw [flat_at h.2 d hj hk]; exact hu)
theorem rl_cell0 (h : RowL sz enc w v l) (d : α) {j : Nat} {u : Value} (hj : j < l.length) (hu : (enc (l.getD j d))[0]? = some u) : w.cell? ((sAddr v).add (j * sz)) = some u := by
  have := rl_cell h d hj hu
  rw [addr_add2, Nat.add_zero] at this; exact this
/-- The whole element. -/
theorem rl_elem (h : RowL sz enc w v l) (d : α) {j : Nat} (hj : j < l.length) : ∀ k u, (enc (l.getD j d))[k]? = some u → w.cell? (((sAddr v).add (j * sz)).add k) = some u := fun k u hu => rl_cell h d hj hu
/-- A part of the element, from one cell on. -/
theorem rl_part (h : RowL sz enc w v l) (d : α) {j off : Nat} {pre mid post : List Value} (hj : j < l.length) (he : enc (l.getD j d) = pre ++ (mid ++ post)) (ho : pre.length = off) : ∀ k u, mid[k]? = some u → w.cell? ((((sAddr v).add (j * sz)).add off).add k) = some u := by
  intro k u hu
  rw [addr_add2 _ off k]
  refine rl_cell h d hj ?_
  rw [he, List.getElem?_append_right (by omega), ho, Nat.add_sub_cancel_left, List.getElem?_append_left (List.getElem?_eq_some_iff.1 hu).1]
  exact hu
/-- .. of a block. -/
theorem blk_part {g off : Nat} {t : TypeId} {pre mid post : List Value} (h : Blk w g t (pre ++ (mid ++ post))) (ho : pre.length = off) : ∀ k u, mid[k]? = some u → w.cell? ((⟨g, off, none⟩ : Addr).add k) = some u := by
  intro k u hu
  have e : (⟨g, off, none⟩ : Addr).add k = ⟨g, off + k, none⟩ := by unfold Addr.add; by_cases hk : k = 0 <;> simp [hk]
  rw [e, h.cell, List.getElem?_append_right (by omega), ho, Nat.add_sub_cancel_left, List.getElem?_append_left (List.getElem?_eq_some_iff.1 hu).1]
  exact hu
theorem rl_tail (h : RowL sz enc w v l) (d : α) {j off : Nat} {pre mid : List Value} (hj : j < l.length) (he : enc (l.getD j d) = pre ++ mid) (ho : pre.length = off) : ∀ k u, mid[k]? = some u → w.cell? ((((sAddr v).add (j * sz)).add off).add k) = some u :=
  rl_part h d (post := []) hj (by rw [he, List.append_nil]) ho
theorem blk_tail {g off : Nat} {t : TypeId} {pre mid : List Value} (h : Blk w g t (pre ++ mid)) (ho : pre.length = off) : ∀ k u, mid[k]? = some u → w.cell? ((⟨g, off, none⟩ : Addr).add k) = some u :=
  blk_part (post := []) (by rw [List.append_nil]; exact h) ho
theorem blk_head {g : Nat} {t : TypeId} {mid post : List Value} (h : Blk w g t (mid ++ post)) : ∀ k u, mid[k]? = some u → w.cell? ((⟨g, 0, none⟩ : Addr).add k) = some u :=
  blk_part (pre := []) h rfl
theorem one_app {a b : List Value} (ha : ∀ u ∈ a, u.oneCell' = true) (hb : ∀ u ∈ b, u.oneCell' = true) : ∀ u ∈ a ++ b, u.oneCell' = true := fun u hu => (List.mem_append.1 hu).elim (ha u) (hb u)
theorem flat_take (h : ∀ a ∈ l, (enc a).length = sz) (n : Nat) : (l.flatMap enc).take (n * sz) = (l.take n).flatMap enc ∧ (l.flatMap enc).drop (n * sz) = (l.drop n).flatMap enc := by
  induction l generalizing n with
  | nil => simp
  | cons a l ih =>
    have ha := h a (by simp)
    have ih' := ih fun x hx => h x (by simp [hx])
    cases n with
    | zero => simp
    | succ n =>
      rw [List.flatMap_cons, List.take_append, List.drop_append, ha, show (n + 1) * sz - sz = n * sz by rw [Nat.add_mul, Nat.one_mul]; omega, List.take_of_length_le (by rw [ha, Nat.add_mul, Nat.one_mul]; omega), List.drop_eq_nil_of_le (by rw [ha, Nat.add_mul, Nat.one_mul]; omega), (ih' n).1, (ih' n).2]
      exact ⟨rfl, rfl⟩
theorem rl_cut (h : RowL sz enc w v l) {a b : Nat} (h1 : a ≤ b) (h2 : b ≤ l.length) : RowL sz enc w (sCut v a b sz) ((l.drop a).take (b - a)) := by
  have := Row.cut h.1 (sz := sz) (flat_len h.2) h1 h2
  have e : ((l.drop a).take (b - a)).length = b - a := by rw [List.length_take, List.length_drop]; omega
  refine ⟨?_, fun d hd => h.2 d (List.mem_of_mem_drop (List.mem_of_mem_take hd))⟩
  rw [e]
  rw [(flat_take h.2 a).2, (flat_take (l := l.drop a) (fun d hd => h.2 d (List.mem_of_mem_drop hd)) (b - a)).1] at this
  exact this
theorem rl_pre (h : RowL sz enc w v l) {n : Nat} (hn : n ≤ l.length) : RowL sz enc w (sCut v 0 n sz) (l.take n) := by
  have := rl_cut h (Nat.zero_le n) hn
  simpa using this
/-- The beginning of a slice of the call's own is its own too. -/
theorem ol_pre (h : OwnL T sz enc base w v l) {n : Nat} (hn : n ≤ l.length) : OwnL T sz enc base w (sCut v 0 n sz) (l.take n) ∧ (sCut v 0 n sz).ownBlock = v.ownBlock := by
  have hl : (l.take n).length = n := by rw [List.length_take]; omega
  obtain ⟨⟨h1, h3⟩, h2⟩ := h
  have h2' : ∀ a ∈ l.take n, (enc a).length = sz := fun d hd => h2 d (List.mem_of_mem_take hd)
  have hlen : ((l.take n).flatMap enc).length = (l.take n).length * sz := flat_len h2'
  rcases h3 with ⟨rfl, h0⟩ | ⟨g, cap, cur, rfl, hb, hg, hn2, hc, hcs, hx⟩
  · have : l = [] := List.eq_nil_of_length_eq_zero h0
    subst this
    have hn0 : n = 0 := by simpa using hn
    subst hn0
    exact ⟨⟨⟨hlen, .inl ⟨rfl, rfl⟩⟩, h2'⟩, rfl⟩
  · have e : sCut (.slice (some ⟨g, 0, none⟩) l.length cap) 0 n sz = .slice (some ⟨g, 0, none⟩) n cap := by
      unfold sCut
      simp only [Nat.zero_mul, Nat.sub_zero]
      split
      · rfl
      · simp [Addr.add]
    rw [e]
    refine ⟨⟨⟨hlen, .inr ⟨g, cap, cur, by rw [hl], hb, hg, by omega, hc, hcs, ?_⟩⟩, h2'⟩, rfl⟩
    rw [hl, ← (flat_take h2 n).1, ← hx, List.take_take, Nat.min_eq_left (Nat.mul_le_mul_right sz hn)]
end
section
variable {r : Option (Option Nat)} {P : Program} {ops : Array Oper} {rest : List Oper} {o : Oper} {Q : Exit → Act → World → Prop} {N : Nat} {u : Nat → Value} {dl : List Deferred} {w : World}
/-- append onto a slice of the call's own. -/
theorem apL {α : Type} {enc : α → List Value} (hg : Region.wanted o (yielded ops (fr N u)) = true) {d : Nat} (hd : o.dst = some d) {s x : Operand} {t e : TypeId} (ho : o.op = .call { callee := .builtin .append, args := #[s, x], argTypes := #[t, t] }) {z : Value} {sz bytes : Nat} (ht : P.underlying t = some (.slice e)) (hinfo : (P.info? e).map (fun i => (i.zero, i.size, i.bytes)) = some (some z, sz, bytes)) (hz : z.cells.size = sz) (hsz : 0 < sz)
    {base : Nat} {v : Value} {l : List α} (hs : opv N u s = v) (hown : OwnL e sz enc base w v l) {y : Value} {m : List α} (hx : opv N u x = y) (hr : RowL sz enc w y m) (h1 : ∀ a ∈ m, ∀ c ∈ enc a, c.oneCell' = true) (hlen : l.length + m.length ≤ maxLen) (hl : (l.length + m.length) * bytes ≤ 140737488355328) (hbase : base ≤ w.heap.size)
    (h : ∀ v' w', OwnL e sz enc base w' v' (l ++ m) → w.grownBy w' v.ownBlock → wpS r P ops Q rest (act N (upd u d v') dl) w') : wpS r P ops Q (o :: rest) (act N u dl) w :=
  ap hg hd ho ht hinfo hz hsz hs hown.1 hx hr.1 (flat_len hr.2) (fun c hc => by obtain ⟨a, ha, hc⟩ := List.mem_flatMap.1 hc; exact h1 a ha c hc) hlen hl hbase
    (fun v' w' g1 g2 => h v' w' ⟨by rw [List.length_append, List.flatMap_append]; exact g1, fun a ha => (List.mem_append.1 ha).elim (hown.2 a) (hr.2 a)⟩ g2)
end
/-- A literal of one element. -/
theorem rl_one {α : Type} {enc : α → List Value} {w : World} {g sz : Nat} {t : TypeId} {a : α} (h : Blk w g t (enc a)) (hl : (enc a).length = sz) : RowL sz enc w (.slice (some ⟨g, 0, none⟩) 1 1) [a] :=
  ⟨by rw [show ([a] : List α).flatMap enc = enc a by simp]; exact h.row 1 (Nat.le_of_ble_eq_true rfl), by intro x hx; simp at hx; subst hx; exact hl⟩
/-! ### Structs that bear digests -/
theorem fold_splice (xs : List Value) : ∀ (off : Nat) (cs : Array Value) (k : Nat), off + xs.length ≤ cs.size → ((xs.zipIdx k).foldl (fun cs (p : Value × Nat) => cs.setIfInBounds (off + (p.2 - k)) p.1) cs).toList = cs.toList.take off ++ xs ++ cs.toList.drop (off + xs.length) := by
  induction xs with
  | nil => intro off cs k h; simp
  | cons x xs ih =>
    intro off cs k h
    simp only [List.length_cons] at h
    rw [List.zipIdx_cons, List.foldl_cons]
    have e : (List.foldl (fun (cs : Array Value) (p : Value × Nat) => cs.setIfInBounds (off + (p.2 - k)) p.1) (cs.setIfInBounds (off + (k - k)) x) (xs.zipIdx (k + 1))) = List.foldl (fun (cs : Array Value) (p : Value × Nat) => cs.setIfInBounds (off + 1 + (p.2 - (k + 1))) p.1) (cs.setIfInBounds off x) (xs.zipIdx (k + 1)) := by
      rw [Nat.sub_self, Nat.add_zero]
      have hm : ∀ (l : List (Value × Nat)) (cs : Array Value), (∀ p ∈ l, k + 1 ≤ p.2) → List.foldl (fun (cs : Array Value) (p : Value × Nat) => cs.setIfInBounds (off + (p.2 - k)) p.1) cs l = List.foldl (fun (cs : Array Value) (p : Value × Nat) => cs.setIfInBounds (off + 1 + (p.2 - (k + 1))) p.1) cs l := by
        intro l
        induction l with
        | nil => intro cs _; rfl
        | cons p l ih2 =>
          intro cs hp
          rw [List.foldl_cons, List.foldl_cons, show off + (p.2 - k) = off + 1 + (p.2 - (k + 1)) by have := hp p (by simp); omega]
          exact ih2 _ fun q hq => hp q (by simp [hq])
      exact hm _ _ fun p hp => (List.mem_zipIdx hp).1
    rw [e, ih (off + 1) _ (k + 1) (by simp; omega)]
    simp only [Array.toList_setIfInBounds]
    have hlt : off < cs.toList.length := by simp; omega
    rw [List.set_eq_take_append_cons_drop, if_pos hlt, List.take_append, List.drop_append]
    have l1 : (cs.toList.take off).length = off := by rw [List.length_take]; omega
    rw [l1, List.take_of_length_le (l := cs.toList.take off) (by rw [l1]; omega), @List.drop_eq_nil_of_le _ (cs.toList.take off) (off + 1 + xs.length) (by rw [l1]; omega), show off + 1 - off = 1 by omega, show off + 1 + xs.length - off = xs.length + 1 by omega]
    simp [List.drop_drop, Nat.add_comm, Nat.add_left_comm, Nat.add_assoc]
theorem fill_step {place : Nat → Option (Nat × Nat)} {cells cells' : Array Value} {i : Nat} {v : Value} {rest : List (Nat × Value)} {off size : Nat} (hp : place i = some (off, size)) {cs : List Value} (hv : v.cells.toList = cs) (hs : cs.length = size) (hle : off + size ≤ cells.size) (hc : cells.toList.take off ++ cs ++ cells.toList.drop (off + size) = cells'.toList) :
    Instr.fill place cells ((i, v) :: rest) = Instr.fill place cells' rest := by
  subst hv
  have hs' : v.cells.size = size := by simpa using hs
  conv => lhs; unfold Instr.fill
  rw [hp]
  simp only [hs', ne_eq, not_true, false_or, decide_false, Bool.false_or, decide_eq_true_eq]
  rw [if_neg (by omega)]
  congr 1
  apply Array.toList_inj.1
  rw [← hc]
  have := fold_splice v.cells.toList off cells 0 (by simp; omega)
  simp only [Nat.sub_zero, Array.length_toList, hs'] at this
  rw [← this]
  congr 1
  have e : v.cells.zipIdx = (v.cells.toList.zipIdx 0).toArray := by
    apply Array.toList_inj.1; simp
  rw [e]
  simp
end Go.Proofs.YtnecgoahdkfbeaaDoor.Eng
