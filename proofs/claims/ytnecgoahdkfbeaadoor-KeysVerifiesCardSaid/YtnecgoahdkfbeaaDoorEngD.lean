/- The engine at bytes and digests. -/
import Derived.Test.YtnecgoahdkfbeaaDoorEng
import Derived.Test.YtnecgoahdkfbeaaDoorDsl
import Derived.Lib.AppendZeros
namespace Go.Proofs.YtnecgoahdkfbeaaDoor.Eng
open Go Go.RowKit Go.Proofs.YtnecgoahdkfbeaaDoor.Cop Go.Proofs.YtnecgoahdkfbeaaDoor.Oct Go.Proofs.YtnecgoahdkfbeaaDoor.Dsl
set_option linter.unusedVariables false
theorem ds_len {w : World} {v : Value} {ds : List (List UInt8)} (h : Ds w v ds) {j : Nat} (hj : j < ds.length) : (ds.getD j []).length = 32 := by
  rw [List.getD_eq_getElem?_getD, List.getElem?_eq_getElem hj]
  exact h.2 _ (List.getElem_mem hj)
theorem ds_at {w : World} {v : Value} {ds : List (List UInt8)} (h : Ds w v ds) {j : Nat} (hj : j < ds.length) : ∀ k u, (bcs (ds.getD j []))[k]? = some u → w.cell? (((sAddr v).add (j * 32)).add k) = some u := by
  intro k u hu
  have hd := ds_len h hj
  have hk : k < 32 := by
    have := (List.getElem?_eq_some_iff.1 hu).1
    rw [bcs_length, hd] at this; exact this
  have e : ((sAddr v).add (j * 32)).add k = (sAddr v).add (j * 32 + k) := by unfold Addr.add; by_cases ha : j * 32 = 0 <;> by_cases hb : k = 0 <;> simp [ha, hb, Nat.add_assoc]
  rw [e]
  refine Row.addr h.1 ?_
  have h2 := dcs_at ds j hj h.2
  have h3 : ((dcs ds).drop (j * 32))[k]? = (bcs ds[j])[k]? := by rw [← h2, List.getElem?_take, if_pos hk]
  rw [List.getElem?_drop] at h3
  rw [h3, ← hu, List.getD_eq_getElem?_getD, List.getElem?_eq_getElem hj]; rfl
theorem infoDg : (Tryd.prog.info? 45).map (fun i => (i.zero, i.size, i.bytes)) = some (some (dg dz), 32, 32) := by kernel_rfl
/-- A slice of digests of the call's own. -/
def OwnD (base : Nat) (w : World) (v : Value) (ds : List (List UInt8)) : Prop := w.ownsRow base 45 32 v ds.length (dcs ds) ∧ All32 ds
theorem OwnD.row {base : Nat} {w : World} {v : Value} {ds : List (List UInt8)} (h : OwnD base w v ds) : Row w v ds.length (dcs ds) := Row.of_own h.1
theorem OwnD.ds {base : Nat} {w : World} {v : Value} {ds : List (List UInt8)} (h : OwnD base w v ds) : Ds w v ds := ⟨h.row, h.2⟩
theorem OwnD.below {base : Nat} {w w' : World} {v : Value} {ds : List (List UInt8)} (h : OwnD base w v ds) (hb : Below w.heap.size w w') : OwnD base w' v ds := ⟨own_below h.1 hb, h.2⟩
theorem OwnD.kept {base : Nat} {w w' : World} {v : Value} {ds : List (List UInt8)} (h : OwnD base w v ds) {row : Option Nat} (hg : w.grownBy w' row) (hne : v.ownBlock = none ∨ v.ownBlock ≠ row) : OwnD base w' v ds := ⟨World.ownsRow.kept h.1 hg hne, h.2⟩
theorem OwnD.mono {base base2 : Nat} {w : World} {v : Value} {ds : List (List UInt8)} (h : OwnD base w v ds) (hb : base2 ≤ base) : OwnD base2 w v ds := ⟨own_mono h.1 hb, h.2⟩
theorem OwnD.nil (base : Nat) (w : World) : OwnD base w (.slice none 0 0) [] := ⟨World.ownsRow_nil _ _ _ _, by intro d h; cases h⟩
theorem ownD_lit0 (w : World) : OwnD w.heap.size (w.alloc (.cells #[] 45)) (.slice (some ⟨w.heap.size, 0, none⟩) 0 0) [] := ⟨World.ownsRow_made w #[] 0 (Nat.le_refl _) (Nat.zero_le _) rfl, by intro d h; cases h⟩
theorem ds_lit {w : World} {g : Nat} {t : TypeId} {l : List (List UInt8)} (h : Blk w g t (dcs l)) (h32 : All32 l) (hm : l.length ≤ maxLen) : Ds w (.slice (some ⟨g, 0, none⟩) l.length l.length) l := ⟨h.row _ hm, h32⟩
theorem all32_one {d : List UInt8} (h : d.length = 32) : All32 [d] := by intro x hx; simp at hx; subst hx; exact h
theorem dcs_one1 (d : List UInt8) : (([dg d] : List Value).flatMap fun v => v.cells.toList) = dcs [d] := by simp [dcs, Value.cells]
theorem dg_cells {d : List UInt8} (h : d.length = 32) : (dg d).cells.size = 32 := by simp [Value.cells, bcs_length, h]
theorem ds_cut {w : World} {v : Value} {ds : List (List UInt8)} (hr : Ds w v ds) {l h : Nat} (h1 : l ≤ h) (h2 : h ≤ ds.length) : Ds w (sCut v l h 32) ((ds.drop l).take (h - l)) := by
  have := Row.cut hr.1 (sz := 32) (dcs_len ds hr.2) h1 h2
  have e : ((ds.drop l).take (h - l)).length = h - l := by rw [List.length_take, List.length_drop]; omega
  refine ⟨?_, fun d hd => hr.2 d (List.mem_of_mem_drop (List.mem_of_mem_take hd))⟩
  rw [e]
  have e2 : ((dcs ds).drop (l * 32)).take ((h - l) * 32) = dcs ((ds.drop l).take (h - l)) := by
    have key : ∀ (es : List (List UInt8)), All32 es → ∀ n, (dcs es).drop (n * 32) = dcs (es.drop n) ∧ (dcs es).take (n * 32) = dcs (es.take n) := by
      intro es
      induction es with
      | nil => intro _ n; simp [dcs]
      | cons d es ih =>
        intro h32 n
        have hd : (bcs d).length = 32 := by rw [bcs_length]; exact h32 d (by simp)
        have ih' := ih (fun x hx => h32 x (by simp [hx]))
        cases n with
        | zero => simp [dcs]
        | succ n =>
          have e1 : dcs (d :: es) = bcs d ++ dcs es := by simp [dcs]
          rw [e1, List.drop_append, List.take_append, List.drop_eq_nil_of_le (by rw [hd]; omega), List.take_of_length_le (by rw [hd]; omega), hd, show (n + 1) * 32 - 32 = n * 32 by omega, (ih' n).1, (ih' n).2]
          simp [dcs]
    rw [(key ds hr.2 l).1, (key (ds.drop l) (fun d hd => hr.2 d (List.mem_of_mem_drop hd)) (h - l)).2]
  rw [← e2]; exact this
section
variable {r : Option (Option Nat)} {ops : Array Oper} {rest : List Oper} {o : Oper} {Q : Exit → Act → World → Prop} {N : Nat} {u : Nat → Value} {dl : List Deferred} {w : World}
/-- append onto digests of the call's own. -/
theorem apD (hg : Region.wanted o (yielded ops (fr N u)) = true) {d : Nat} (hd : o.dst = some d) {s x : Operand} (ho : o.op = .call { callee := .builtin .append, args := #[s, x], argTypes := #[36, 36] })
    {base : Nat} {v : Value} {ds : List (List UInt8)} (hs : opv N u s = v) (hown : OwnD base w v ds) {y : Value} {es : List (List UInt8)} (hx : opv N u x = y) (hr : Ds w y es) (hl : (ds.length + es.length) * 32 ≤ 140737488355328) (hbase : base ≤ w.heap.size)
    (h : ∀ v' w', OwnD base w' v' (ds ++ es) → w.grownBy w' v.ownBlock → wpS r Tryd.prog ops Q rest (act N (upd u d v') dl) w') : wpS r Tryd.prog ops Q (o :: rest) (act N u dl) w :=
  ap hg hd ho Tryd.underlying36 infoDg (dg_size dz_length) (by decide) hs hown.1 hx hr.1 (dcs_len es hr.2) (dcs_one es) (by unfold maxLen; omega) hl hbase
    (fun v' w' h1 h2 => h v' w' ⟨by rw [List.length_append, dcs_append]; exact h1, fun d hd => (List.mem_append.1 hd).elim (hown.2 d) (hr.2 d)⟩ h2)
/-- append onto bytes of the call's own. -/
theorem apB (hg : Region.wanted o (yielded ops (fr N u)) = true) {d : Nat} (hd : o.dst = some d) {s x : Operand} (ho : o.op = .call { callee := .builtin .append, args := #[s, x], argTypes := #[48, 48] })
    {base : Nat} {v : Value} {xs : List UInt8} (hs : opv N u s = v) (hown : Own base w v xs) {y : Value} {ys : List UInt8} (hx : opv N u x = y) (hr : Rd w y ys) (hl : xs.length + ys.length ≤ 140737488355328) (hbase : base ≤ w.heap.size)
    (h : ∀ v' w', Own base w' v' (xs ++ ys) → w.grownBy w' v.ownBlock → wpS r Tryd.prog ops Q rest (act N (upd u d v') dl) w') : wpS r Tryd.prog ops Q (o :: rest) (act N u dl) w :=
  ap hg hd ho Tryd.underlying48 info8 rfl (by decide) hs hown hx hr (by rw [Nat.mul_one]; exact bcs_length ys) (bcs_one ys) (by unfold maxLen; omega) (by omega) hbase
    (fun v' w' h1 h2 => h v' w' (by unfold Own; rw [List.length_append, bcs_append]; exact h1) h2)
end
theorem ds_nil (w : World) : Ds w (.slice none 0 0) [] := ⟨Row.nil w, by intro d h; cases h⟩
theorem rd_pre {w : World} {v : Value} {xs ys : List UInt8} (h : Rd w v (xs ++ ys)) : Rd w (sCut v 0 xs.length 1) xs := by
  have := rd_cut (w := w) (v := v) (bs := xs ++ ys) h (l := 0) (h := xs.length) (Nat.zero_le _) (by simp)
  have e : ((xs ++ ys).drop 0).take (xs.length - 0) = xs := by simp
  rw [e] at this; exact this
theorem splice_take {α : Type} (cur es : List α) {a b m : Nat} (h1 : a + es.length = b) (h2 : b ≤ m) (h3 : m ≤ cur.length) : (cur.take a ++ es ++ cur.drop b).take m = (cur.take m).take a ++ es ++ (cur.take m).drop b := by
  rw [List.take_take, Nat.min_eq_left (by omega), List.drop_take, List.append_assoc, List.append_assoc, List.take_append, List.length_take, Nat.min_eq_left (by omega), List.take_of_length_le (by rw [List.length_take]; omega), List.take_append, List.take_of_length_le (l := es) (by omega)]
  congr 3
  omega
/-- An element of a row of the call's own is written. -/
theorem own_store {P : Program} {w : World} {base : Nat} {e : TypeId} {sz : Nat} {v : Value} {n : Nat} {xs : List Value} (h : w.ownsRow base e sz v n xs) {i : Nat} (hi : i < n) (hz : 0 < sz) {es : List Value} (he : es.length = sz) (h1 : ∀ u ∈ es, u.oneCell' = true) :
    ∃ w', (storeCells ((sAddr v).add (i * sz)) es).run P w = .ok () w' ∧ w'.ownsRow base e sz v n (xs.take (i * sz) ++ es ++ xs.drop ((i + 1) * sz)) ∧ w.grownBy w' v.ownBlock := by
  obtain ⟨hl, h⟩ := h
  rcases h with ⟨rfl, h0⟩ | ⟨g, cap, cur, rfl, hb, hg, hn, hc, hcs, hx⟩
  · omega
  · have hm : (i + 1) * sz ≤ n * sz := Nat.mul_le_mul_right sz (by omega)
    have hm2 : n * sz ≤ cap * sz := Nat.mul_le_mul_right sz hn
    have hs1 : (i + 1) * sz = i * sz + sz := by rw [Nat.add_mul, Nat.one_mul]
    have hst := run_storeCells_at P g (i * sz) e es 0 cur w hg (by omega) h1
    simp only [Nat.add_zero] at hst
    have ha : (sAddr (.slice (some ⟨g, 0, none⟩) n cap)).add (i * sz) = ⟨g, i * sz, none⟩ := by
      show (⟨g, 0, none⟩ : Addr).add (i * sz) = _
      exact addr_add g (i * sz)
    have hcl : cur.toList.length = cap * sz := by simpa using hcs
    refine ⟨w.setRow g (cur.toList.take (i * sz) ++ es ++ cur.toList.drop (i * sz + es.length)).toArray, by rw [ha]; exact hst, ?_, ⟨rfl, rfl, rfl, by simp, fun k _ hk => setRow_other w g k _ (fun e => hk (by rw [e]; rfl))⟩⟩
    refine ⟨?_, .inr ⟨g, cap, _, rfl, hb, setRow_heap w g cur _ e _ hg, hn, hc, ?_, ?_⟩⟩
    · rw [List.length_append, List.length_append, List.length_take, List.length_drop, hl, he, Nat.min_eq_left (by omega)]; omega
    · simp [he]; omega
    · have e := splice_take cur.toList es (a := i * sz) (b := i * sz + es.length) (m := n * sz) rfl (by omega) (by omega)
      rw [← hx, hs1]
      rw [he] at e ⊢
      exact e
theorem dcs_set : ∀ (ds : List (List UInt8)) (i : Nat) (d : List UInt8), All32 ds → i < ds.length → d.length = 32 → (dcs ds).take (i * 32) ++ bcs d ++ (dcs ds).drop ((i + 1) * 32) = dcs (ds.set i d)
  | c :: ds, 0, d, h, hi, hd => by
    have hc : (bcs c).length = 32 := by rw [bcs_length]; exact h c (by simp)
    have e1 : dcs (c :: ds) = bcs c ++ dcs ds := by simp [dcs]
    rw [e1, Nat.zero_mul, List.take_zero, List.nil_append, Nat.zero_add, Nat.one_mul, List.drop_append, List.drop_eq_nil_of_le (by omega), List.nil_append, hc]
    simp [dcs]
  | c :: ds, i + 1, d, h, hi, hd => by
    have hc : (bcs c).length = 32 := by rw [bcs_length]; exact h c (by simp)
    have e1 : dcs (c :: ds) = bcs c ++ dcs ds := by simp [dcs]
    have ih := dcs_set ds i d (fun x hx => h x (by simp [hx])) (by simpa using hi) hd
    rw [e1, List.set_cons_succ, List.take_append, List.take_of_length_le (by omega), List.drop_append, List.drop_eq_nil_of_le (by omega), List.nil_append, hc, show (i + 1) * 32 - 32 = i * 32 by omega, show (i + 1 + 1) * 32 - 32 = (i + 1) * 32 by omega]
    have e2 : dcs (c :: ds.set i d) = bcs c ++ dcs (ds.set i d) := by simp [dcs]
    rw [e2, ← ih]
    simp only [List.append_assoc]
theorem all32_set {ds : List (List UInt8)} (h : All32 ds) (i : Nat) {d : List UInt8} (hd : d.length = 32) : All32 (ds.set i d) := by
  intro x hx
  rcases List.mem_or_eq_of_mem_set hx with h' | rfl
  · exact h x h'
  · exact hd
section
variable {r : Option (Option Nat)} {ops : Array Oper} {rest : List Oper} {o : Oper} {Q : Exit → Act → World → Prop} {N : Nat} {u : Nat → Value} {dl : List Deferred} {w : World}
/-- A digest of the call's own is written. -/
theorem stDg (hg : Region.wanted o (yielded ops (fr N u)) = true) (hd : o.dst = none) {x y : Operand} (ho : o.op = .store 45 x y) {base : Nat} {v : Value} {ds : List (List UInt8)} (hown : OwnD base w v ds) {i : Nat} (hi : i < ds.length) (hx : opv N u x = .pointer (some ((sAddr v).add (i * 32)))) {d : List UInt8} (hy : opv N u y = dg d) (h32 : d.length = 32)
    (h : ∀ w', OwnD base w' v (ds.set i d) → w.grownBy w' v.ownBlock → wpS r Tryd.prog ops Q rest (act N u dl) w') : wpS r Tryd.prog ops Q (o :: rest) (act N u dl) w := by
  obtain ⟨w', hrun, h1, h2⟩ := own_store (P := Tryd.prog) hown.1 hi (by decide) (es := bcs d) (by rw [bcs_length]; exact h32) (bcs_one d)
  rw [dcs_set ds i d hown.2 hi h32] at h1
  refine sk hg hd (w' := w') ?_ (h w' ⟨by rw [List.length_set]; exact h1, all32_set hown.2 i h32⟩ h2)
  have hcs : (dg d).cells.toList = bcs d := by simp [Value.cells]
  have hcz : (dg d).cells.size = 32 := dg_cells h32
  unfold execOp
  simp [ho, hx, hy, Instr.storeAt, Instr.sureAddr, storeVar, Cop.run_sizeOf sizeD, hcz, Result.andThen] at hrun ⊢
  simp only [Value.cells] at *
  simp [hrun]
end
/-! ### Slices of slices of bytes; room made ahead -/
def BBs (w : World) (v : Value) (vs : List Value) (l : List (List UInt8)) : Prop := Row w v l.length vs ∧ vs.length = l.length ∧ ∀ i, i < l.length → Rd w (vs.getD i undef) (l.getD i [])
theorem BBs.below {w w' : World} {v : Value} {vs : List Value} {l : List (List UInt8)} (h : BBs w v vs l) (hb : Below w.heap.size w w') : BBs w' v vs l := ⟨h.1.below hb, h.2.1, fun i hi => (h.2.2 i hi).below hb⟩
theorem bb_at {w : World} {v : Value} {vs : List Value} {l : List (List UInt8)} (h : BBs w v vs l) {j : Nat} (hj : j < l.length) : w.cell? ((sAddr v).add (j * 1)) = some (vs.getD j undef) := by
  rw [Nat.mul_one]
  refine Row.addr h.1 ?_
  have : j < vs.length := by rw [h.2.1]; exact hj
  rw [List.getD_eq_getElem?_getD, List.getElem?_eq_getElem this]; rfl
theorem bb_two {w : World} {g : Nat} {t : TypeId} {s1 s2 : Value} {a b : List UInt8} (hk : Blk w g t [s1, s2]) (h1 : Rd w s1 a) (h2 : Rd w s2 b) : BBs w (.slice (some ⟨g, 0, none⟩) 2 2) [s1, s2] [a, b] :=
  ⟨hk.row 2 (Nat.le_of_ble_eq_true rfl), rfl, fun i hi => by
    match i, hi with
    | 0, _ => exact h1
    | 1, _ => exact h2⟩
theorem bb_one {w : World} {g : Nat} {t : TypeId} {s1 : Value} {a : List UInt8} (hk : Blk w g t [s1]) (h1 : Rd w s1 a) : BBs w (.slice (some ⟨g, 0, none⟩) 1 1) [s1] [a] :=
  ⟨hk.row 1 (Nat.le_of_ble_eq_true rfl), rfl, fun i hi => by
    match i, hi with
    | 0, _ => exact h1⟩
/-- A literal of bytes is the call's own. -/
theorem own_lit {w : World} {g base : Nat} {l : List UInt8} (h : Blk w g 5 (bcs l)) (hb : base ≤ g) (hm : l.length ≤ maxLen) : Own base w (.slice (some ⟨g, 0, none⟩) l.length l.length) l :=
  ⟨by rw [bcs_length, Nat.mul_one], .inr ⟨g, l.length, (bcs l).toArray, rfl, hb, h, Nat.le_refl _, hm, by simp [bcs_length], by rw [Nat.mul_one]; simp [List.take_of_length_le (Nat.le_of_eq (bcs_length l))]⟩⟩
section
variable {r : Option (Option Nat)} {ops : Array Oper} {rest : List Oper} {o : Oper} {Q : Exit → Act → World → Prop} {N : Nat} {u : Nat → Value} {dl : List Deferred} {w : World} {ρ : Operand → Value}
/-- append(nil, make([]byte, n)...). -/
theorem apz (hg : Region.wanted o (yielded ops (fr N u)) = true) {d : Nat} (hd : o.dst = some d) {s x : Operand} (ho : o.op = .call { callee := .builtin .append, args := #[s, x], argTypes := #[48, 3] })
    (hs : opv N u s = .slice none 0 0) {n : Nat} (hx : opv N u x = .int .i64 (n : Int)) (h0 : 0 < n) (hn : n ≤ 140737488355328)
    (h : ∀ cap w', n ≤ cap → cap ≤ maxLen → (∃ cur : Array Value, w'.heap[w.heap.size]? = some (.cells cur 5 (0, 0)) ∧ cur.size = cap) → Below w.heap.size w w' → wpS r Tryd.prog ops Q rest (act N (upd u d (.slice (some ⟨w.heap.size, 0, none⟩) n cap)) dl) w') : wpS r Tryd.prog ops Q (o :: rest) (act N u dl) w := by
  obtain ⟨i, hi, hz, hi1, hi2⟩ := info_parts info8
  have hrun := Go.Lib.run_append_nil_zeros (P := Tryd.prog) w 48 3 o.type 5 i (.int .u8 0) .i64 .i64 Tryd.underlying48 Tryd.underlying3 hi hz n h0 (by omega) (by omega) (by rw [hi2]; omega)
  have hge := grownCap_ge w n 0 5
  have hle := grownCap_le_maxLen w n 0 5 (by unfold maxLen; omega)
  generalize hcur : Builtin.zeroCells (Value.int .u8 0).cells n ++ Builtin.zeroCells (Value.int .u8 0).cells (grownCap w n 0 5 - n) = cur at hrun
  refine sv hg hd (v := .slice (some ⟨w.heap.size, 0, none⟩) n (grownCap w n 0 5)) (w' := w.drew.alloc (.cells cur 5)) ?_ (h _ _ hge hle ⟨cur, heap_alloc_new w.drew _, ?_⟩ ?_)
  · unfold execOp
    simp [ho, resolve, invoke, builtin, hs, hx, hrun, Result.andThen]
  · subst hcur
    simp [Builtin.zeroCells, Value.cells]; omega
  · exact (Below.refl _ _).drew.alloc (Nat.le_refl _) _
theorem x_sl0 {t e : TypeId} {x hi : Operand} (ho : o.op = .slice t x none (some hi) none) (ht : Tryd.prog.underlying t = some (.slice e)) {sz : Nat} (hs : (Tryd.prog.info? e).map (fun i => i.size) = some sz) {a : Addr} {n cap : Nat} (hx : ρ x = .slice (some a) n cap) {k : IntKind} (hh : ρ hi = .int k 0) (hc : 0 < cap) : (execOp ρ o).run Tryd.prog w = .ok (.value (.slice (some a) 0 cap)) w := by
  have hrun : (Instr.sliceAt t (.slice (some a) n cap) none (some (.int k 0)) none).run Tryd.prog w = .ok (.slice (some a) 0 cap) w := by
    have hne : ¬ cap = 0 := by omega
    have ha : a.add 0 = a := by simp [Addr.add]
    simp [Instr.sliceAt, run_underlying ht, Instr.slice, Instr.sliceBounds, Instr.sliceBound, asIntOf, Cop.run_sizeOf hs, hne, ha]
  unfold execOp; rw [ho]
  simp [hx, hh, hrun, Result.andThen]
theorem x_capN {x : Operand} {t e : TypeId} (ho : o.op = .call { callee := .builtin .cap, args := #[x], argTypes := #[t] }) (ht : Tryd.prog.underlying t = some (.slice e)) (hx : ρ x = .slice none 0 0) : (execOp ρ o).run Tryd.prog w = .ok (.value (.int .i64 0)) w := by
  unfold execOp
  simp only [ho, resolve, invoke, builtin, Sem.run_bind, Sem.run_pure, Result.andThen_ok, List.map_toArray, List.map_cons, List.map_nil, hx]
  simp [Builtin.cap_, run_underlying ht, goInt]
theorem own_room {base g cap : Nat} {w : World} (hb : base ≤ g) (hc : cap ≤ maxLen) (h : ∃ cur : Array Value, w.heap[g]? = some (.cells cur 5 (0, 0)) ∧ cur.size = cap) : Own base w (.slice (some ⟨g, 0, none⟩) 0 cap) [] := by
  obtain ⟨cur, h1, h2⟩ := h
  exact ⟨rfl, .inr ⟨g, cap, cur, rfl, hb, h1, Nat.zero_le _, hc, by omega, by simp [bcs]⟩⟩
/-- append onto a literal that fills its room, as a step of a region that draws: a new block. -/
theorem dap1 (hg : Region.wanted o (yielded ops (fr N u)) = true) {d : Nat} (hd : o.dst = some d) {s x : Operand} (ho : o.op = .call { callee := .builtin .append, args := #[s, x], argTypes := #[48, 48] })
    {g : Nat} {xs ys : List UInt8} {y : Value} (hs : opv N u s = .slice (some ⟨g, 0, none⟩) xs.length xs.length) (hk : Blk w g 5 (bcs xs)) (hx : opv N u x = y) (hr : Rd w y ys) (hne : ys ≠ []) (hl : xs.length + ys.length ≤ 140737488355328) {K : Act → World → Prop}
    (h : ∀ v' w', Own w.heap.size w' v' (xs ++ ys) → Below w.heap.size w w' → K (act N (upd u d v') dl) w') : DS r Tryd.prog ops Q N dl o u w K := by
  obtain ⟨i, hi, hz, hi1, hi2⟩ := info_parts info8
  have hyl : 0 < ys.length := List.length_pos_iff.2 hne
  obtain ⟨ad, c, rfl, hc⟩ := Row.at (sz := 1) hr (by simp [bcs_length]) (by omega) (i := 0) hyl
  obtain ⟨v', w', hrun, r1, r2⟩ := run_append_arg_grows (P := Tryd.prog) w 48 o.type 5 i (.int .u8 0) 1 1 Tryd.underlying48 hi hz hi1 hi2 rfl (by decide) ⟨g, 0, none⟩ xs.length xs.length (bcs xs) (by simp [bcs_length]) (fun j u hu => by rw [addr_add, hk.cell]; exact hu) ad ys.length c (bcs ys) (by simp [bcs_length]) hc (by omega) (by unfold maxLen; omega) (by omega)
  refine dv hg hd (v := v') (W' := w') ?_ (h v' w' ?_ ⟨r2.os, r2.tape, r2.output, r2.size, fun k hk => r2.block k hk (by simp)⟩)
  · unfold execOp
    simp [ho, resolve, invoke, builtin, hs, hx, hrun, Result.andThen]
  · unfold Own
    rw [List.length_append, bcs_append]
    exact r1
end
end Go.Proofs.YtnecgoahdkfbeaaDoor.Eng
