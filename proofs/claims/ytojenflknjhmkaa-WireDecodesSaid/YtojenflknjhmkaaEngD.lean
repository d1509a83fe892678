/- The engine at bytes and digests. -/
import Derived.Test.YtojenflknjhmkaaEng
import Derived.Test.YtojenflknjhmkaaDsl
namespace Go.Proofs.Ytojenflknjhmkaa.Eng
open Go Go.RowKit Go.Proofs.Ytojenflknjhmkaa.Cop Go.Proofs.Ytojenflknjhmkaa.Oct Go.Proofs.Ytojenflknjhmkaa.Dsl
set_option linter.unusedVariables false
theorem ds_len {w : World} {v : Value} {ds : List (List UInt8)} (h : Ds w v ds) {j : Nat} (hj : j < ds.length) : (ds.getD j []).length = 32 := by
  rw [List.getD_eq_getElem?_getD, List.getElem?_eq_getElem hj]
  exact h.2 _ (List.getElem_mem hj)
theorem ds_at {w : World} {v : Value} {ds : List (List UInt8)} (h : Ds w v ds) {j : Nat} (hj : j < ds.length) : ∀ k u, (bcs (ds.getD j []))[k]? = some u → w.cell? (((sAddr v).add (j * 32)).add k) = some u := by
  intro k u hu
  have hd := ds_len h hj
  have hk : k < 32 := by
    have := (List.getElem?_eq_some_iff.1 hu).1
    rw [bcs_length, hd] at this; exact this
  have e : ((sAddr v).add (j * 32)).add k = (sAddr v).add (j * 32 + k) := by unfold Addr.add; by_cases ha : j * 32 = 0 <;> by_cases hb : k = 0 <;> simp [ha, hb, Nat.add_assoc]
  rw [e]
  refine Row.addr h.1 ?_
  have h2 := dcs_at ds j hj h.2
  have h3 : ((dcs ds).drop (j * 32))[k]? = (bcs ds[j])[k]? := by rw [← h2, List.getElem?_take, if_pos hk]
  rw [List.getElem?_drop] at h3
  rw [h3, ← hu, List.getD_eq_getElem?_getD, List.getElem?_eq_getElem hj]; rfl
theorem infoDg : (Try.prog.info? 33).map (fun i => (i.zero, i.size, i.bytes)) = some (some (dg dz), 32, 32) := by kernel_rfl
/-- A slice of digests of the call's own. -/
def OwnD (base : Nat) (w : World) (v : Value) (ds : List (List UInt8)) : Prop := w.ownsRow base 33 32 v ds.length (dcs ds) ∧ All32 ds
theorem OwnD.row {base : Nat} {w : World} {v : Value} {ds : List (List UInt8)} (h : OwnD base w v ds) : Row w v ds.length (dcs ds) := Row.of_own h.1
theorem OwnD.ds {base : Nat} {w : World} {v : Value} {ds : List (List UInt8)} (h : OwnD base w v ds) : Ds w v ds := ⟨h.row, h.2⟩
theorem OwnD.below {base : Nat} {w w' : World} {v : Value} {ds : List (List UInt8)} (h : OwnD base w v ds) (hb : Below w.heap.size w w') : OwnD base w' v ds := ⟨own_below h.1 hb, h.2⟩
theorem OwnD.kept {base : Nat} {w w' : World} {v : Value} {ds : List (List UInt8)} (h : OwnD base w v ds) {row : Option Nat} (hg : w.grownBy w' row) (hne : v.ownBlock = none ∨ v.ownBlock ≠ row) : OwnD base w' v ds := ⟨World.ownsRow.kept h.1 hg hne, h.2⟩
theorem OwnD.mono {base base2 : Nat} {w : World} {v : Value} {ds : List (List UInt8)} (h : OwnD base w v ds) (hb : base2 ≤ base) : OwnD base2 w v ds := ⟨own_mono h.1 hb, h.2⟩
theorem OwnD.nil (base : Nat) (w : World) : OwnD base w (.slice none 0 0) [] := ⟨World.ownsRow_nil _ _ _ _, by intro d h; cases h⟩
theorem ownD_lit0 (w : World) : OwnD w.heap.size (w.alloc (.cells #[] 33)) (.slice (some ⟨w.heap.size, 0, none⟩) 0 0) [] := ⟨World.ownsRow_made w #[] 0 (Nat.le_refl _) (Nat.zero_le _) rfl, by intro d h; cases h⟩
theorem ds_lit {w : World} {g : Nat} {t : TypeId} {l : List (List UInt8)} (h : Blk w g t (dcs l)) (h32 : All32 l) (hm : l.length ≤ maxLen) : Ds w (.slice (some ⟨g, 0, none⟩) l.length l.length) l := ⟨h.row _ hm, h32⟩
theorem all32_one {d : List UInt8} (h : d.length = 32) : All32 [d] := by intro x hx; simp at hx; subst hx; exact h
theorem dcs_one1 (d : List UInt8) : (([dg d] : List Value).flatMap fun v => v.cells.toList) = dcs [d] := by simp [dcs, Value.cells]
theorem dg_cells {d : List UInt8} (h : d.length = 32) : (dg d).cells.size = 32 := by simp [Value.cells, bcs_length, h]
theorem ds_cut {w : World} {v : Value} {ds : List (List UInt8)} (hr : Ds w v ds) {l h : Nat} (h1 : l ≤ h) (h2 : h ≤ ds.length) : Ds w (sCut v l h 32) ((ds.drop l).take (h - l)) := by
  have := Row.cut hr.1 (sz := 32) (dcs_len ds hr.2) h1 h2
  have e : ((ds.drop l).take (h - l)).length = h - l := by rw [List.length_take, List.length_drop]; omega
  refine ⟨?_, fun d hd => hr.2 d (List.mem_of_mem_drop (List.mem_of_mem_take hd))⟩
  rw [e]
  have e2 : ((dcs ds).drop (l * 32)).take ((h - l) * 32) = dcs ((ds.drop l).take (h - l)) := by
    have key : ∀ (es : List (List UInt8)), All32 es → ∀ n, (dcs es).drop (n * 32) = dcs (es.drop n) ∧ (dcs es).take (n * 32) = dcs (es.take n) := by
      intro es
      induction es with
      | nil => intro _ n; simp [dcs]
      | cons d es ih =>
        intro h32 n
        have hd : (bcs d).length = 32 := by rw [bcs_length]; exact h32 d (by simp)
        have ih' := ih (fun x hx => h32 x (by simp [hx]))
        cases n with
        | zero => simp [dcs]
        | succ n =>
          have e1 : dcs (d :: es) = bcs d ++ dcs es := by simp [dcs]
          rw [e1, List.drop_append, List.take_append, List.drop_eq_nil_of_le (by rw [hd]; omega), List.take_of_length_le (by rw [hd]; omega), hd, show (n + 1) * 32 - 32 = n * 32 by omega, (ih' n).1, (ih' n).2]
          simp [dcs]
    rw [(key ds hr.2 l).1, (key (ds.drop l) (fun d hd => hr.2 d (List.mem_of_mem_drop hd)) (h - l)).2]
  rw [← e2]; exact this
section
variable {ops : Array Oper} {rest : List Oper} {o : Oper} {Q : Exit → Act → World → Prop} {N : Nat} {u : Nat → Value} {dl : List Deferred} {w : World}
/-- append onto digests of the call's own. -/
theorem apD (hg : Region.wanted o (yielded ops (fr N u)) = true) {d : Nat} (hd : o.dst = some d) {s x : Operand} (ho : o.op = .call { callee := .builtin .append, args := #[s, x], argTypes := #[23, 23] })
    {base : Nat} {v : Value} {ds : List (List UInt8)} (hs : opv N u s = v) (hown : OwnD base w v ds) {y : Value} {es : List (List UInt8)} (hx : opv N u x = y) (hr : Ds w y es) (hl : (ds.length + es.length) * 32 ≤ 140737488355328) (hbase : base ≤ w.heap.size)
    (h : ∀ v' w', OwnD base w' v' (ds ++ es) → w.grownBy w' v.ownBlock → wpS Try.prog ops Q rest (act N (upd u d v') dl) w') : wpS Try.prog ops Q (o :: rest) (act N u dl) w :=
  ap hg hd ho Try.underlying23 infoDg (dg_size dz_length) (by decide) hs hown.1 hx hr.1 (dcs_len es hr.2) (dcs_one es) (by unfold maxLen; omega) hl hbase
    (fun v' w' h1 h2 => h v' w' ⟨by rw [List.length_append, dcs_append]; exact h1, fun d hd => (List.mem_append.1 hd).elim (hown.2 d) (hr.2 d)⟩ h2)
/-- append onto bytes of the call's own. -/
theorem apB (hg : Region.wanted o (yielded ops (fr N u)) = true) {d : Nat} (hd : o.dst = some d) {s x : Operand} (ho : o.op = .call { callee := .builtin .append, args := #[s, x], argTypes := #[22, 22] })
    {base : Nat} {v : Value} {xs : List UInt8} (hs : opv N u s = v) (hown : Own base w v xs) {y : Value} {ys : List UInt8} (hx : opv N u x = y) (hr : Rd w y ys) (hl : xs.length + ys.length ≤ 140737488355328) (hbase : base ≤ w.heap.size)
    (h : ∀ v' w', Own base w' v' (xs ++ ys) → w.grownBy w' v.ownBlock → wpS Try.prog ops Q rest (act N (upd u d v') dl) w') : wpS Try.prog ops Q (o :: rest) (act N u dl) w :=
  ap hg hd ho Try.underlying22 info8 rfl (by decide) hs hown hx hr (by rw [Nat.mul_one]; exact bcs_length ys) (bcs_one ys) (by unfold maxLen; omega) (by omega) hbase
    (fun v' w' h1 h2 => h v' w' (by unfold Own; rw [List.length_append, bcs_append]; exact h1) h2)
end
theorem ds_nil (w : World) : Ds w (.slice none 0 0) [] := ⟨Row.nil w, by intro d h; cases h⟩
theorem rd_pre {w : World} {v : Value} {xs ys : List UInt8} (h : Rd w v (xs ++ ys)) : Rd w (sCut v 0 xs.length 1) xs := by
  have := rd_cut (w := w) (v := v) (bs := xs ++ ys) h (l := 0) (h := xs.length) (Nat.zero_le _) (by simp)
  have e : ((xs ++ ys).drop 0).take (xs.length - 0) = xs := by simp
  rw [e] at this; exact this
theorem splice_take {α : Type} (cur es : List α) {a b m : Nat} (h1 : a + es.length = b) (h2 : b ≤ m) (h3 : m ≤ cur.length) : (cur.take a ++ es ++ cur.drop b).take m = (cur.take m).take a ++ es ++ (cur.take m).drop b := by
  rw [List.take_take, Nat.min_eq_left (by omega), List.drop_take, List.append_assoc, List.append_assoc, List.take_append, List.length_take, Nat.min_eq_left (by omega), List.take_of_length_le (by rw [List.length_take]; omega), List.take_append, List.take_of_length_le (l := es) (by omega)]
  congr 3
  omega
/-- An element of a row of the call's own is written. -/
theorem own_store {P : Program} {w : World} {base : Nat} {e : TypeId} {sz : Nat} {v : Value} {n : Nat} {xs : List Value} (h : w.ownsRow base e sz v n xs) {i : Nat} (hi : i < n) (hz : 0 < sz) {es : List Value} (he : es.length = sz) (h1 : ∀ u ∈ es, u.oneCell' = true) :
    ∃ w', (storeCells ((sAddr v).add (i * sz)) es).run P w = .ok () w' ∧ w'.ownsRow base e sz v n (xs.take (i * sz) ++ es ++ xs.drop ((i + 1) * sz)) ∧ w.grownBy w' v.ownBlock := by
  obtain ⟨hl, h⟩ := h
  rcases h with ⟨rfl, h0⟩ | ⟨g, cap, cur, rfl, hb, hg, hn, hc, hcs, hx⟩
  · omega
  · have hm : (i + 1) * sz ≤ n * sz := Nat.mul_le_mul_right sz (by omega)
    have hm2 : n * sz ≤ cap * sz := Nat.mul_le_mul_right sz hn
    have hs1 : (i + 1) * sz = i * sz + sz := by rw [Nat.add_mul, Nat.one_mul]
    have hst := run_storeCells_at P g (i * sz) e es 0 cur w hg (by omega) h1
    simp only [Nat.add_zero] at hst
    have ha : (sAddr (.slice (some ⟨g, 0, none⟩) n cap)).add (i * sz) = ⟨g, i * sz, none⟩ := by
      show (⟨g, 0, none⟩ : Addr).add (i * sz) = _
      exact addr_add g (i * sz)
    have hcl : cur.toList.length = cap * sz := by simpa using hcs
    refine ⟨w.setRow g (cur.toList.take (i * sz) ++ es ++ cur.toList.drop (i * sz + es.length)).toArray, by rw [ha]; exact hst, ?_, ⟨rfl, rfl, rfl, by simp, fun k _ hk => setRow_other w g k _ (fun e => hk (by rw [e]; rfl))⟩⟩
    refine ⟨?_, .inr ⟨g, cap, _, rfl, hb, setRow_heap w g cur _ e _ hg, hn, hc, ?_, ?_⟩⟩
    · rw [List.length_append, List.length_append, List.length_take, List.length_drop, hl, he, Nat.min_eq_left (by omega)]; omega
    · simp [he]; omega
    · have e := splice_take cur.toList es (a := i * sz) (b := i * sz + es.length) (m := n * sz) rfl (by omega) (by omega)
      rw [← hx, hs1]
      rw [he] at e ⊢
      exact e
theorem dcs_set : ∀ (ds : List (List UInt8)) (i : Nat) (d : List UInt8), All32 ds → i < ds.length → d.length = 32 → (dcs ds).take (i * 32) ++ bcs d ++ (dcs ds).drop ((i + 1) * 32) = dcs (ds.set i d)
  | c :: ds, 0, d, h, hi, hd => by
    have hc : (bcs c).length = 32 := by rw [bcs_length]; exact h c (by simp)
    have e1 : dcs (c :: ds) = bcs c ++ dcs ds := by simp [dcs]
    rw [e1, Nat.zero_mul, List.take_zero, List.nil_append, Nat.zero_add, Nat.one_mul, List.drop_append, List.drop_eq_nil_of_le (by omega), List.nil_append, hc]
    simp [dcs]
  | c :: ds, i + 1, d, h, hi, hd => by
    have hc : (bcs c).length = 32 := by rw [bcs_length]; exact h c (by simp)
    have e1 : dcs (c :: ds) = bcs c ++ dcs ds := by simp [dcs]
    have ih := dcs_set ds i d (fun x hx => h x (by simp [hx])) (by simpa using hi) hd
    rw [e1, List.set_cons_succ, List.take_append, List.take_of_length_le (by omega), List.drop_append, List.drop_eq_nil_of_le (by omega), List.nil_append, hc, show (i + 1) * 32 - 32 = i * 32 by omega, show (i + 1 + 1) * 32 - 32 = (i + 1) * 32 by omega]
    have e2 : dcs (c :: ds.set i d) = bcs c ++ dcs (ds.set i d) := by simp [dcs]
    rw [e2, ← ih]
    simp only [List.append_assoc]
theorem all32_set {ds : List (List UInt8)} (h : All32 ds) (i : Nat) {d : List UInt8} (hd : d.length = 32) : All32 (ds.set i d) := by
  intro x hx
  rcases List.mem_or_eq_of_mem_set hx with h' | rfl
  · exact h x h'
  · exact hd
section
variable {ops : Array Oper} {rest : List Oper} {o : Oper} {Q : Exit → Act → World → Prop} {N : Nat} {u : Nat → Value} {dl : List Deferred} {w : World}
/-- A digest of the call's own is written. -/
theorem stDg (hg : Region.wanted o (yielded ops (fr N u)) = true) (hd : o.dst = none) {x y : Operand} (ho : o.op = .store 33 x y) {base : Nat} {v : Value} {ds : List (List UInt8)} (hown : OwnD base w v ds) {i : Nat} (hi : i < ds.length) (hx : opv N u x = .pointer (some ((sAddr v).add (i * 32)))) {d : List UInt8} (hy : opv N u y = dg d) (h32 : d.length = 32)
    (h : ∀ w', OwnD base w' v (ds.set i d) → w.grownBy w' v.ownBlock → wpS Try.prog ops Q rest (act N u dl) w') : wpS Try.prog ops Q (o :: rest) (act N u dl) w := by
  obtain ⟨w', hrun, h1, h2⟩ := own_store (P := Try.prog) hown.1 hi (by decide) (es := bcs d) (by rw [bcs_length]; exact h32) (bcs_one d)
  rw [dcs_set ds i d hown.2 hi h32] at h1
  refine sk hg hd (w' := w') ?_ (h w' ⟨by rw [List.length_set]; exact h1, all32_set hown.2 i h32⟩ h2)
  have hcs : (dg d).cells.toList = bcs d := by simp [Value.cells]
  have hcz : (dg d).cells.size = 32 := dg_cells h32
  unfold execOp
  simp [ho, hx, hy, Instr.storeAt, Instr.sureAddr, storeVar, Cop.run_sizeOf sizeD, hcz, Result.andThen] at hrun ⊢
  simp only [Value.cells] at *
  simp [hrun]
end
end Go.Proofs.Ytojenflknjhmkaa.Eng
