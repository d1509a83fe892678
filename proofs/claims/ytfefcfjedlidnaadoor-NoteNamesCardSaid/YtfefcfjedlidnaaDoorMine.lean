/- A slice of bytes that the call has made, whatever lies behind its cells (a converted text's bytes among them); append onto it. -/
import Derived.Lib.LazyBuf
import Derived.ArgAppend
import Derived.Deep.Upon
import Derived.Test.YtfefcfjedlidnaaDoorByt
import Derived.Test.YtfefcfjedlidnaaDoorInv
namespace Go.Proofs.YtfefcfjedlidnaaDoor.Oct
open Go Go.RowKit Go.Proofs.YtfefcfjedlidnaaDoor.Cop
set_option linter.unusedVariables false
set_option linter.unusedSimpArgs false
def elemT (w : World) (g : Nat) (t : TypeId) : Prop := ∃ c fr, w.heap[g]? = some (.cells c t fr)
theorem elemT.setCell {w : World} {g : Nat} {t : TypeId} (h : elemT w g t) (a : Addr) (v : Value) : elemT (w.setCell a v) g t := by
  obtain ⟨c, fr, h⟩ := h
  simp only [elemT, World.setCell, Array.getElem?_modify, h]
  by_cases e : a.block = g
  · rw [if_pos e]; exact ⟨_, _, rfl⟩
  · rw [if_neg e]; exact ⟨_, _, rfl⟩
theorem elemT.setCells {g : Nat} {t : TypeId} (b : Nat) : ∀ (vs : List Value) (o : Nat) (w : World), elemT w g t → elemT (w.setCells b o vs) g t
  | [], _, _, h => h
  | v :: r, o, w, h => elemT.setCells b r (o + 1) _ (h.setCell _ v)
theorem blk_elemT {w : World} {g : Nat} {t : TypeId} {cs : List Value} (h : Blk w g t cs) : elemT w g t := ⟨_, _, h⟩
theorem elemT.lt {w : World} {g : Nat} {t : TypeId} (h : elemT w g t) : g < w.heap.size := by
  obtain ⟨c, fr, h⟩ := h
  exact (Array.getElem?_eq_some_iff.1 h).1
theorem elemT.uniq {w : World} {g : Nat} {t t' : TypeId} (h : elemT w g t) (h' : elemT w g t') : t = t' := by
  obtain ⟨c, fr, h⟩ := h
  obtain ⟨c', fr', h'⟩ := h'
  rw [h] at h'
  simp at h'
  exact h'.2.1
/-- v is a slice of bytes of the call's own (its block is B or later), and holds xs. -/
def Mine (B : Nat) (w : World) (v : Value) (xs : List UInt8) : Prop :=
  (v = .slice none 0 0 ∧ xs = []) ∨
  ∃ g cap, v = .slice (some ⟨g, 0, none⟩) xs.length cap ∧ B ≤ g ∧ elemT w g 5 ∧ xs.length ≤ cap ∧ cap ≤ maxLen ∧ (∀ j u, (bcs xs)[j]? = some u → w.cell? ⟨g, j, none⟩ = some u) ∧ (∀ j, j < cap → (w.cell? ⟨g, j, none⟩).isSome = true ∧ w.frozen? ⟨g, j, none⟩ = false)
theorem Mine.of_own {B : Nat} {w : World} {v : Value} {xs : List UInt8} (h : Own B w v xs) : Mine B w v xs := by
  obtain ⟨h0, h⟩ := h
  rcases h with ⟨rfl, h1⟩ | ⟨g, cap, cur, rfl, h1, h2, h3, h4, h5, h6⟩
  · exact .inl ⟨rfl, List.eq_nil_of_length_eq_zero h1⟩
  · refine .inr ⟨g, cap, rfl, h1, ⟨_, _, h2⟩, h3, h4, ?_, ?_⟩
    · intro j u hu
      rw [cell_of_row w g j cur _ _ h2]
      rw [← h6, List.getElem?_take] at hu
      split at hu
      · simpa using hu
      · cases hu
    · intro j hj
      rw [cell_of_row w g j cur _ _ h2, frozen_of_row w g j cur _ h2]
      exact ⟨by rw [Array.getElem?_eq_getElem (by omega)]; rfl, rfl⟩
theorem Mine.rd {B : Nat} {w : World} {v : Value} {xs : List UInt8} (h : Mine B w v xs) : Rd w v xs := by
  rcases h with ⟨rfl, rfl⟩ | ⟨g, cap, rfl, h1, h2, h3, h4, h5, h6⟩
  · exact Row.nil w
  · exact ⟨_, _, rfl, h3, h4, (fun e => by cases e), (fun ad had j u hu => by cases had; rw [addr_add]; exact h5 j u hu)⟩
theorem cell_of_block {w w' : World} {g : Nat} (h : w'.heap[g]? = w.heap[g]?) (j : Nat) : w'.cell? ⟨g, j, none⟩ = w.cell? ⟨g, j, none⟩ := by
  simp only [World.cell?, h]
theorem frozen_of_block {w w' : World} {g : Nat} (h : w'.heap[g]? = w.heap[g]?) (j : Nat) : w'.frozen? ⟨g, j, none⟩ = w.frozen? ⟨g, j, none⟩ := by
  simp only [World.frozen?, h]
theorem Mine.keep {B : Nat} {w w' : World} {v : Value} {xs : List UInt8} (h : Mine B w v xs) (hk : ∀ g, v.ownBlock = some g → w'.heap[g]? = w.heap[g]?) : Mine B w' v xs := by
  rcases h with ⟨rfl, rfl⟩ | ⟨g, cap, rfl, h1, h2, h3, h4, h5, h6⟩
  · exact .inl ⟨rfl, rfl⟩
  · have hg := hk g rfl
    refine .inr ⟨g, cap, rfl, h1, ?_, h3, h4, fun j u hu => by rw [cell_of_block hg]; exact h5 j u hu, fun j hj => by rw [cell_of_block hg, frozen_of_block hg]; exact h6 j hj⟩
    obtain ⟨c, fr, h2⟩ := h2
    exact ⟨c, fr, by rw [hg, h2]⟩
theorem Mine.lt {B : Nat} {w : World} {v : Value} {xs : List UInt8} (h : Mine B w v xs) : ∀ g, v.ownBlock = some g → B ≤ g ∧ elemT w g 5 := by
  rcases h with ⟨rfl, rfl⟩ | ⟨g, cap, rfl, h1, h2, h3, h4, h5, h6⟩
  · intro g hg; cases hg
  · intro g' hg; cases hg; exact ⟨h1, h2⟩
theorem Mine.below {B : Nat} {w w' : World} {v : Value} {xs : List UInt8} (h : Mine B w v xs) (hb : Below w.heap.size w w') : Mine B w' v xs := h.keep fun g hg => hb.block g (h.lt g hg).2.lt
theorem Mine.mono {B B' : Nat} {w : World} {v : Value} {xs : List UInt8} (h : Mine B w v xs) (hB : B' ≤ B) : Mine B' w v xs := by
  rcases h with ⟨rfl, rfl⟩ | ⟨g, cap, rfl, h1, h2⟩
  · exact .inl ⟨rfl, rfl⟩
  · exact .inr ⟨g, cap, rfl, by omega, h2⟩
/-- A text's bytes. -/
theorem mine_ofStr (w : World) (s : ByteArray) (hm : s.size ≤ maxLen) : Mine w.heap.size (Lib.bytesWorld w 5 s) (.slice (some ⟨w.heap.size, 0, none⟩) s.size (grownCap w s.size 0 5)) s.data.toList ∧ Below w.heap.size w (Lib.bytesWorld w 5 s) ∧ w.heap.size < (Lib.bytesWorld w 5 s).heap.size := by
  have hl : s.data.toList.length = s.size := rfl
  have hge := grownCap_ge w s.size 0 5
  have hnew := Lib.bytesWorld_at_new w 5 s
  have hsz : (Lib.bytesCells w 5 s).size = grownCap w s.size 0 5 := by
    simp only [Lib.bytesCells, Array.size_append, Array.size_map, Array.size_replicate]
    have : s.data.size = s.size := rfl
    omega
  refine ⟨.inr ⟨w.heap.size, _, by rw [hl], Nat.le_refl _, ⟨_, _, hnew⟩, by rw [hl]; exact hge, grownCap_le_maxLen _ _ _ _ hm, ?_, ?_⟩, ⟨rfl, rfl, rfl, by rw [Lib.bytesWorld_size]; omega, fun k hk => Lib.bytesWorld_at_old w _ s k hk⟩, by rw [Lib.bytesWorld_size]; omega⟩
  · intro j u hu
    have hj : j < s.data.toList.length := by
      rcases Nat.lt_or_ge j s.data.toList.length with h1 | h1
      · exact h1
      · rw [List.getElem?_eq_none (by rw [bcs_length]; exact h1)] at hu; cases hu
    have := Lib.bytesWorld_cell w 5 s j hj
    rw [bcs_at _ j hj] at hu
    injection hu with hu
    subst hu
    have eg : s.data.toList.getD j 0 = s.data.toList[j] := by rw [List.getD, List.getElem?_eq_getElem hj]; rfl
    rw [this, eg]
  · intro j hj
    constructor
    · simp only [World.cell?, hnew]
      rw [Array.getElem?_eq_getElem (by rw [hsz]; exact hj)]
      rfl
    · simp only [World.frozen?, hnew]
      have : ¬ (Lib.bytesCells w 5 s).size ≤ j := by rw [hsz]; omega
      simp [this]
theorem tape_setCells (w : World) (g o : Nat) (vs : List Value) : Below g w (w.setCells g o vs) := by
  have h : ∀ (vs : List Value) (o : Nat) (a : World), Below g w a → Below g w (a.setCells g o vs) := fun vs => by
    induction vs with
    | nil => intro o a h; exact h
    | cons v r ih => intro o a h; exact ih (o + 1) _ (h.setCell (Nat.le_refl _) v)
  exact h vs o w (Below.refl _ _)
/-- append(v, x...): what is made. -/
theorem run_appM (w : World) (ty : TypeId) {B : Nat} {v x : Value} {xs ys : List UInt8} (hv : Mine B w v xs) (hx : Rd w x ys) (hne : ys ≠ []) (hl : xs.length + ys.length ≤ 140737488355328) (hB : B ≤ w.heap.size) :
    ∃ v' w', (Builtin.append_ #[24, 24] ty #[v, x]).run Tryd.prog w = .ok v' w' ∧ Mine B w' v' (xs ++ ys) ∧ Below B w w' ∧ (∀ k, k < w.heap.size → v.ownBlock ≠ some k → w'.heap[k]? = w.heap[k]?) ∧ (∀ g t, elemT w g t → elemT w' g t) := by
  obtain ⟨i, hi, hz, hi1, hi2⟩ := info_parts info8
  have hyl : 0 < ys.length := List.length_pos_iff.2 hne
  obtain ⟨ad, c, rfl, hc⟩ := Row.at (sz := 1) hx (by simp [bcs_length]) (by omega) (i := 0) hyl
  rcases hv with ⟨rfl, rfl⟩ | ⟨g, cap, rfl, h1, h2, h3, h4, h5, h6⟩
  · have hB := hB
    obtain ⟨v', w', hrun, r1, r2, _⟩ := run_append_own (P := Tryd.prog) w w.heap.size 24 ty 5 i (.int .u8 0) 1 1 Tryd.underlying24 hi hz hi1 hi2 rfl (by decide) (.slice none 0 0) 0 [] (World.ownsRow_nil w _ 5 1) ad ys.length c (bcs ys) (by simp [bcs_length]) hc (bcs_one ys) (by unfold maxLen; simp at hl; omega) (by simp at hl; omega) (Nat.le_refl _)
    have r2 : w.grownBy w' none := r2
    refine ⟨v', w', hrun, ?_, ⟨r2.os, r2.tape, r2.output, r2.size, fun k hk => r2.block k (by omega) (by simp)⟩, fun k hk _ => r2.block k hk (by simp), fun g t ht => ?_⟩
    · have : Own w.heap.size w' v' ([] ++ ys) := by unfold Own; simpa using r1
      exact (Mine.of_own this).mono hB
    · obtain ⟨c, fr, h⟩ := ht
      exact ⟨c, fr, by rw [r2.block g (elemT.lt ⟨c, fr, h⟩) (by simp), h]⟩
  · by_cases hroom : xs.length + ys.length ≤ cap
    · have hrun := run_append_room_cells (P := Tryd.prog) w 24 ty 5 i Tryd.underlying24 hi g 0 xs.length cap ad ys.length c (bcs ys) (by rw [hi1]; simp [bcs_length]) hc (bcs_one ys) hroom
        (by rw [hi1]; intro j hj; rw [bcs_length] at hj; simpa using (h6 (xs.length + j) (by omega)).1) (by rw [hi1]; intro j hj; rw [bcs_length] at hj; simpa using (h6 (xs.length + j) (by omega)).2)
      rw [hi1, Nat.mul_one, Nat.zero_add] at hrun
      refine ⟨_, _, hrun, .inr ⟨g, cap, by rw [List.length_append], h1, elemT.setCells g _ _ _ h2, by rw [List.length_append]; exact hroom, h4, ?_, ?_⟩, ?_, ?_, fun g' t ht => elemT.setCells g _ _ _ ht⟩
      · intro j u hu
        rw [bcs_append] at hu
        by_cases hj : j < xs.length
        · rw [List.getElem?_append_left (by rw [bcs_length]; exact hj)] at hu
          rw [World.cell?_setCells_out g _ _ _ _ (fun _ _ => .inl hj)]
          exact h5 j u hu
        · rw [List.getElem?_append_right (by rw [bcs_length]; omega), bcs_length] at hu
          have hlt : j - xs.length < (bcs ys).length := (List.getElem?_eq_some_iff.1 hu).1
          have := World.cell?_setCells_in g (bcs ys) xs.length w (by intro j hj; rw [bcs_length] at hj; exact (h6 (xs.length + j) (by omega)).1) (j - xs.length) hlt
          rw [show xs.length + (j - xs.length) = j by omega] at this
          rw [this, ← hu, List.getElem?_eq_getElem hlt]
      · intro j hj
        rw [World.frozen?_setCells]
        exact ⟨World.isSome_setCells g _ _ _ _ (h6 j hj).1, (h6 j hj).2⟩
      · have := tape_setCells w g xs.length (bcs ys)
        exact ⟨this.os, this.tape, this.output, this.size, fun k hk => this.block k (by omega)⟩
      · intro k hk hne'
        have hkg : k ≠ g := fun e => hne' (by rw [e]; rfl)
        exact World.heap_setCells_other w g _ _ hk hkg
    · obtain ⟨v', w', hrun, r1, r2⟩ := run_append_arg_grows (P := Tryd.prog) w 24 ty 5 i (.int .u8 0) 1 1 Tryd.underlying24 hi hz hi1 hi2 rfl (by decide) ⟨g, 0, none⟩ xs.length cap (bcs xs) (by simp [bcs_length]) (fun j u hu => by rw [addr_add]; exact h5 j u hu) ad ys.length c (bcs ys) (by simp [bcs_length]) hc (by omega) (by unfold maxLen; omega) (by omega)
      refine ⟨v', w', hrun, ?_, ⟨r2.os, r2.tape, r2.output, r2.size, fun k hk => r2.block k (by omega) (by simp)⟩, fun k hk _ => r2.block k hk (by simp), fun g t ht => ?_⟩
      · have : Own w.heap.size w' v' (xs ++ ys) := by
          unfold Own
          rw [List.length_append, bcs_append]
          exact r1
        exact (Mine.of_own this).mono hB
      · obtain ⟨c, fr, h⟩ := ht
        exact ⟨c, fr, by rw [r2.block g (elemT.lt ⟨c, fr, h⟩) (by simp), h]⟩
section
variable {ops : Array Oper} {o : Oper} {a : Act} {Q : Exit → Act → World → Prop} {w : World} {K : Act → World → Prop} {E : Prop} {rest : List Oper}
/-- One step of a region: append(v, x...). -/
theorem st_appM (hg : o.guard = none) (s x : Operand) (ho : o.op = .call { callee := .builtin .append, args := #[s, x], argTypes := #[24, 24] }) {B : Nat} {v xv : Value} {xs ys : List UInt8} (hs : a.eval s = v) (hx : a.eval x = xv) (hv : Mine B w v xs) (hr : Rd w xv ys) (hne : ys ≠ []) (hl : xs.length + ys.length ≤ 140737488355328) (hB : B ≤ w.heap.size)
    (h : ∀ v' w', Mine B w' v' (xs ++ ys) → Below B w w' → (∀ k, k < w.heap.size → v.ownBlock ≠ some k → w'.heap[k]? = w.heap[k]?) → (∀ g t, elemT w g t → elemT w' g t) → K (a.put o.dst v') w') : if Region.wanted o (yielded ops a.tmps) = true then Oper.wp Tryd.prog o a w K Q else E := by
  obtain ⟨v', w', hrun, h1, h2, h3, h4⟩ := run_appM w o.type hv hr hne hl hB
  refine st_run hg (v := v') (w' := w') ?_ (h v' w' h1 h2 h3 h4)
  unfold execOp
  simp [ho, resolve, invoke, builtin, hs, hx, hrun, Result.andThen]
/-- One step of a region: a text's bytes. -/
theorem st_ofStr (hg : o.guard = none) (x : Operand) (ho : o.op = .convert 9 24 x) {s : ByteArray} (hx : a.eval x = .string s) (hm : s.size ≤ maxLen)
    (h : ∀ v' w', Mine w.heap.size w' v' s.data.toList → Below w.heap.size w w' → K (a.put o.dst v') w') : if Region.wanted o (yielded ops a.tmps) = true then Oper.wp Tryd.prog o a w K Q else E := by
  obtain ⟨h1, h2, h3⟩ := mine_ofStr w s hm
  refine st_run hg (v := .slice (some ⟨w.heap.size, 0, none⟩) s.size (grownCap w s.size 0 5)) (w' := Lib.bytesWorld w 5 s) ?_ (h _ _ h1 h2)
  unfold execOp
  simp [ho, hx, Lib.run_convert_string_bytes w 9 24 5 s Tryd.underlying9 Tryd.underlying24 Tryd.underlying5, Result.andThen]
/-- .. and in a region that does not draw. -/
theorem wp_ofStrM (hg : Region.wanted o (yielded ops a.tmps) = true) (x : Operand) (ho : o.op = .convert 9 24 x) {s : ByteArray} (hx : a.eval x = .string s) (hm : s.size ≤ maxLen)
    (h : ∀ v' w', Mine w.heap.size w' v' s.data.toList → Below w.heap.size w w' → wpList Tryd.prog ops Q rest (a.put o.dst v') w') : wpList Tryd.prog ops Q (o :: rest) a w := by
  obtain ⟨h1, h2, h3⟩ := mine_ofStr w s hm
  refine wp_run hg (v := .slice (some ⟨w.heap.size, 0, none⟩) s.size (grownCap w s.size 0 5)) (w' := Lib.bytesWorld w 5 s) ?_ (h _ _ h1 h2)
  unfold execOp
  simp [ho, hx, Lib.run_convert_string_bytes w 9 24 5 s Tryd.underlying9 Tryd.underlying24 Tryd.underlying5, Result.andThen]
end
end Go.Proofs.YtfefcfjedlidnaaDoor.Oct
