/- Regions that draw their order and write blocks on the way. -/
import Derived.Test.YtnecgoahdkfbeaaDoorEngP
namespace Go.Proofs.YtnecgoahdkfbeaaDoor.Eng
open Go Go.RowKit Go.Proofs.YtnecgoahdkfbeaaDoor.Cop
set_option linter.unusedVariables false
set_option linter.unusedSimpArgs false
/-- All but some blocks are as before. -/
structure GrL (E : List Nat) (w W : World) : Prop where
  os : W.os = w.os
  tape : W.tape = w.tape
  output : W.output = w.output
  size : w.heap.size ≤ W.heap.size
  block : ∀ k, k < w.heap.size → k ∉ E → W.heap[k]? = w.heap[k]?
theorem GrL.refl (E : List Nat) (w : World) : GrL E w w := ⟨rfl, rfl, rfl, Nat.le_refl _, fun _ _ _ => rfl⟩
theorem GrL.trans {E : List Nat} {a b c : World} (h : GrL E a b) (k : GrL E b c) : GrL E a c :=
  ⟨k.os.trans h.os, k.tape.trans h.tape, k.output.trans h.output, Nat.le_trans h.size k.size, fun i hi hn => (k.block i (Nat.lt_of_lt_of_le hi h.size) hn).trans (h.block i hi hn)⟩
theorem GrL.of_below {E : List Nat} {w W : World} (h : Below w.heap.size w W) : GrL E w W := ⟨h.os, h.tape, h.output, h.size, fun k hk _ => h.block k hk⟩
theorem GrL.of_grown {E : List Nat} {w W : World} {g : Nat} (h : w.grownBy W (some g)) (hg : g ∈ E) : GrL E w W :=
  ⟨h.os, h.tape, h.output, h.size, fun k hk hn => h.block k hk (fun e => hn (by injection e with e; rw [e]; exact hg))⟩
theorem GrL.below {E : List Nat} {w W : World} (h : GrL E w W) {b : Nat} (hb : b ≤ w.heap.size) (hE : ∀ g ∈ E, b ≤ g) : Below b w W :=
  ⟨h.os, h.tape, h.output, h.size, fun k hk => h.block k (Nat.lt_of_lt_of_le hk hb) (fun hm => Nat.lt_irrefl _ (Nat.lt_of_lt_of_le hk (hE k hm)))⟩
theorem bel_grL {E : List Nat} {w0 w W : World} {b : Nat} (p : Below b w0 w) (h : GrL E w W) (hb : b ≤ w.heap.size) (hE : ∀ g ∈ E, b ≤ g) : Below b w0 W := p.trans (h.below hb hE)
theorem blk_grL {E : List Nat} {w W : World} {g : Nat} {t : TypeId} {cs : List Value} (h : Blk w g t cs) (hg : GrL E w W) (hn : g ∉ E) : Blk W g t cs := (hg.block g h.lt hn).trans h
theorem own_grL {E : List Nat} {w W : World} {base : Nat} {e : TypeId} {sz : Nat} {v : Value} {n : Nat} {xs : List Value} (h : w.ownsRow base e sz v n xs) (hg : GrL E w W) (hn : ∀ g, v.ownBlock = some g → g ∉ E) : W.ownsRow base e sz v n xs := by
  obtain ⟨h1, h2 | ⟨g, cap, cur, rfl, hb, hh, r⟩⟩ := h
  · exact ⟨h1, .inl h2⟩
  · exact ⟨h1, .inr ⟨g, cap, cur, rfl, hb, (hg.block g (Array.getElem?_eq_some_iff.1 hh).1 (hn g rfl)).trans hh, r⟩⟩
theorem nin_nil {g : Nat} : g ∉ ([] : List Nat) := by intro h; cases h
theorem nin_cons {g a : Nat} {l : List Nat} (h : g ≠ a) (hl : g ∉ l) : g ∉ a :: l := by
  intro hm
  rcases List.mem_cons.1 hm with e | hm
  · exact h e
  · exact hl hm
theorem le_nil {b : Nat} : ∀ g ∈ ([] : List Nat), b ≤ g := by intro g h; cases h
theorem le_cons {b a : Nat} {l : List Nat} (h : b ≤ a) (hl : ∀ g ∈ l, b ≤ g) : ∀ g ∈ a :: l, b ≤ g := by
  intro g hm
  rcases List.mem_cons.1 hm with e | hm
  · rw [e]; exact h
  · exact hl g hm
/-- A block that is written: what it is ahead, and behind each of the operations that write it. -/
structure BE where
  g : Nat
  t : TypeId
  c0 : List Value
  st : List (Nat × List Value)
def cur (D : Nat → Bool) : List Value → List (Nat × List Value) → List Value
  | c, [] => c
  | c, (j, c') :: l => bif D j then cur D c' l else c
/-- What an operation sees of it. -/
def edep (ops : Array Oper) (i : Nat) : List Value → List (Nat × List Value) → Option (List Value)
  | c, [] => some c
  | c, (j, c') :: l => bif (preds ops i).contains j then edep ops i c' l else bif Nat.beq i j || (preds ops j).contains i then some c else none
def EDeps (ops : Array Oper) (i : Nat) (W : World) : List BE → Prop
  | [] => True
  | b :: l => (match edep ops i b.c0 b.st with | some cs => Blk W b.g b.t cs | none => True) ∧ EDeps ops i W l
def Blks (D : Nat → Bool) (W : World) : List BE → Prop
  | [] => True
  | b :: l => Blk W b.g b.t (cur D b.c0 b.st) ∧ Blks D W l
def NeH (g : Nat) : List BE → Prop
  | [] => True
  | c :: l => g ≠ c.g ∧ NeH g l
def NeL : List BE → Prop
  | [] => True
  | b :: l => NeH b.g l ∧ NeL l
/-- The block that an operation writes, and what is in it then. -/
def tgt : List BE → Nat → Option (BE × List Value)
  | [], _ => none
  | b :: l, i => match b.st.lookup i with | some c => some (b, c) | none => tgt l i
def hasDst (ops : Array Oper) (i k : Nat) : Bool := match ops[i]? with | some o => (match o.dst with | some d => Nat.beq d k | none => false) | none => false
def noDst (ops : Array Oper) (i : Nat) : Bool := match ops[i]? with | some o => o.dst.isNone | none => false
def inHeadS (ops : Array Oper) (m : Nat) (k : Nat) : Bool := (List.range m).any fun i => hasDst ops i k
def KeepsS (ops : Array Oper) (m : Nat) (u u' : Nat → Value) : Prop := ∀ k, inHeadS ops m k = false → u' k = u k
/-- A slot that nobody has written ahead of i. -/
def keepI (ops : Array Oper) (m i k : Nat) : Bool := (List.range m).all fun j => !hasDst ops j k || (Nat.beq j i || (preds ops j).contains i)
def KeepsI (ops : Array Oper) (m i : Nat) (u u' : Nat → Value) : Prop := ∀ k, keepI ops m i k = true → u' k = u k
def KeepsD (ops : Array Oper) (m : Nat) (D : Nat → Bool) (u u' : Nat → Value) : Prop := ∀ k, (∀ j, j < m → hasDst ops j k = true → D j = false) → u' k = u k
theorem updF {D : Nat → Bool} {i j : Nat} (h : Cop.upd D i j = false) : D j = false := by
  by_cases e : j = i
  · subst e; rw [Cop.upd_same] at h; cases h
  · rw [Cop.upd_other D i j e] at h; exact h
theorem KeepsD.keepsS {ops : Array Oper} {m : Nat} {D : Nat → Bool} {u u' : Nat → Value} (h : KeepsD ops m D u u') : KeepsS ops m u u' := by
  intro k hk
  refine h k fun j hj hd => ?_
  have := List.any_eq_false.1 hk j (List.mem_range.2 hj)
  exact absurd hd this
theorem KeepsD.keepsI {ops : Array Oper} {m i : Nat} {D : Nat → Bool} {u u' : Nat → Value} (h : KeepsD ops m D u u') (hc : Closed ops D) (hi : D i = false) : KeepsI ops m i u u' := by
  intro k hk
  refine h k fun j hj hd => ?_
  have := List.all_eq_true.1 hk j (List.mem_range.2 hj)
  rw [hd] at this
  cases hD : D j with
  | false => rfl
  | true =>
    have q : j = i ∨ i ∈ preds ops j := by simpa using this
    rcases q with q | q
    · rw [q] at hD; rw [hi] at hD; cases hD
    · have := preds_closed hc hD q; rw [hi] at this; cases this
/-- The writers of one block stand in line. -/
def lineB (ops : Array Oper) : List (Nat × List Value) → Bool
  | [] => true
  | (j, _) :: l => (l.all fun p => (preds ops p.1).contains j && !Nat.beq p.1 j) && lineB ops l
def apartB (b : BE) (l : List BE) : Bool := l.all fun c => b.st.all fun p => c.st.all fun q => !Nat.beq p.1 q.1
def blOk (ops : Array Oper) : List BE → Bool
  | [] => true
  | b :: l => lineB ops b.st && (b.st.all fun p => noDst ops p.1) && apartB b l && blOk ops l
def headS (ops : Array Oper) (m : Nat) : Bool := (List.range m).all fun i => (List.range m).all fun j => i == j || match ops[i]?, ops[j]? with | some a, some b => (match a.dst, b.dst with | some x, some y => !Nat.beq x y | _, _ => true) | _, _ => false
def StabE (E : List Nat) (w : World) : List (Value → World → Prop) → Prop
  | [] => True
  | f :: l => ((∀ g ∈ E, g < w.heap.size) → ∀ v W W', f v W → w.heap.size ≤ W.heap.size → GrL E W W' → f v W') ∧ StabE E w l
section
variable {r : Option (Option Nat)} {P : Program} {Q : Exit → Act → World → Prop} {N : Nat} {ds : List Deferred}
/-- What a step leaves. -/
def OutS (N : Nat) (ds : List Deferred) (FL : List (Value → World → Prop)) (BL : List BE) (u' : Nat → Value) (W : World) (i : Nat) (o : Oper) (K : Act → World → Prop) : Prop :=
  match o.dst with
  | some d => ∀ v W', Below W.heap.size W W' → fat FL i v W' → K (act N (upd u' d v) ds) W'
  | none => match tgt BL i with
    | some (b, c) => ∀ W', W.grownBy W' (some b.g) → Blk W' b.g b.t c → K (act N u' ds) W'
    | none => ∀ W', Below W.heap.size W W' → K (act N u' ds) W'
def StepE (r : Option (Option Nat)) (P : Program) (ops : Array Oper) (Q : Exit → Act → World → Prop) (N : Nat) (ds : List Deferred) (FL : List (Value → World → Prop)) (BL : List BE) (E : List Nat) (m : Nat) (u : Nat → Value) (w : World) (i : Nat) (o : Oper) : Prop :=
  ∀ (u' : Nat → Value) (W : World), GrL E w W → KeepsI ops m i u u' → Deps ops FL m u' W (preds ops i) → EDeps ops i W BL → ∀ K : Act → World → Prop, OutS N ds FL BL u' W i o K → DS r P ops Q N ds o u' W K
def StepsE (r : Option (Option Nat)) (P : Program) (ops : Array Oper) (Q : Exit → Act → World → Prop) (N : Nat) (ds : List Deferred) (FL : List (Value → World → Prop)) (BL : List BE) (E : List Nat) (m : Nat) (u : Nat → Value) (w : World) : Nat → List Oper → Prop
  | _, [] => True
  | i, o :: l => StepE r P ops Q N ds FL BL E m u w i o ∧ StepsE r P ops Q N ds FL BL E m u w (i + 1) l
theorem stepsE_at {ops : Array Oper} {FL : List (Value → World → Prop)} {BL : List BE} {E : List Nat} {m : Nat} {u : Nat → Value} {w : World} : ∀ {l : List Oper} {i : Nat}, StepsE r P ops Q N ds FL BL E m u w i l → ∀ {j : Nat} {o : Oper}, l[j]? = some o → StepE r P ops Q N ds FL BL E m u w (i + j) o
  | [], _, _, j, o, h => by simp at h
  | o' :: l, i, hs, 0, o, h => by simp at h; subst h; exact hs.1
  | o' :: l, i, hs, j + 1, o, h => by
    have := stepsE_at (l := l) (i := i + 1) hs.2 (j := j) (o := o) (by simpa using h)
    rwa [show i + 1 + j = i + (j + 1) by omega] at this
theorem fat_stabE {E : List Nat} {w : World} : ∀ {FL : List (Value → World → Prop)}, StabE E w FL → (∀ g ∈ E, g < w.heap.size) → ∀ i v W W', fat FL i v W → w.heap.size ≤ W.heap.size → GrL E W W' → fat FL i v W'
  | [], _, _, i, v, W, W', h, _, hb => by simp [fat] at h ⊢
  | f :: l, hs, hE, 0, v, W, W', h, h0, hb => hs.1 hE v W W' h h0 hb
  | f :: l, hs, hE, i + 1, v, W, W', h, h0, hb => fat_stabE (FL := l) hs.2 hE i v W W' h h0 hb
theorem edep_cur {ops : Array Oper} {D : Nat → Bool} (hc : Closed ops D) {i : Nat} (hi : D i = false) (hd : ∀ k ∈ preds ops i, D k = true) : ∀ (l : List (Nat × List Value)) (c cs : List Value), edep ops i c l = some cs → cur D c l = cs
  | [], c, cs, h => by simpa [edep, cur] using h
  | (j, c') :: l, c, cs, h => by
    unfold edep at h
    cases e : (preds ops i).contains j with
    | true =>
      rw [e] at h
      have hj := hd j (by simpa using e)
      unfold cur; rw [hj]
      exact edep_cur hc hi hd l c' cs h
    | false =>
      rw [e] at h
      cases e2 : Nat.beq i j || (preds ops j).contains i with
      | false => rw [e2] at h; cases h
      | true =>
        rw [e2] at h
        have h : some c = some cs := h
        have hj : D j = false := by
          rcases Bool.or_eq_true_iff.1 e2 with q | q
          · rw [← Nat.eq_of_beq_eq_true q]; exact hi
          · cases hj : D j with
            | false => rfl
            | true => have := preds_closed hc hj (show i ∈ preds ops j by simpa using q); rw [hi] at this; cases this
        unfold cur; rw [hj]; exact Option.some.inj h
theorem edeps_of {ops : Array Oper} {D : Nat → Bool} {W : World} (hc : Closed ops D) {i : Nat} (hi : D i = false) (hd : ∀ k ∈ preds ops i, D k = true) : ∀ (l : List BE), Blks D W l → EDeps ops i W l
  | [], _ => trivial
  | b :: l, h => by
    refine ⟨?_, edeps_of hc hi hd l h.2⟩
    cases e : edep ops i b.c0 b.st with
    | none => trivial
    | some cs => have := h.1; rw [edep_cur hc hi hd _ _ _ e] at this; exact this
theorem cur_other (D : Nat → Bool) (i : Nat) : ∀ (l : List (Nat × List Value)) (c : List Value), (∀ p ∈ l, p.1 ≠ i) → cur (Cop.upd D i) c l = cur D c l
  | [], c, _ => rfl
  | (j, c') :: l, c, h => by
    unfold cur
    rw [Cop.upd_other D i j (h (j, c') (by simp)), cur_other D i l c' fun p hp => h p (by simp [hp])]
theorem cur_all (D : Nat → Bool) : ∀ (l : List (Nat × List Value)) (c : List Value), (∀ p ∈ l, D p.1 = true) → cur D c l = cur (fun _ => true) c l
  | [], c, _ => rfl
  | (j, c') :: l, c, h => by
    unfold cur
    rw [h (j, c') (by simp), cur_all D l c' fun p hp => h p (by simp [hp])]
theorem cur_upd {ops : Array Oper} {D : Nat → Bool} (hc : Closed ops D) {i : Nat} (hi : D i = false) (hd : ∀ k ∈ preds ops i, D k = true) : ∀ (l : List (Nat × List Value)) (c c' : List Value), lineB ops l = true → l.lookup i = some c' → cur (Cop.upd D i) c l = c'
  | [], c, c', _, h => by cases h
  | (j, cj) :: l, c, c', hl, h => by
    unfold lineB at hl
    obtain ⟨h1, h2⟩ := Bool.and_eq_true_iff.1 hl
    unfold cur
    by_cases hij : i = j
    · subst hij
      rw [Cop.upd_same]
      have e : cj = c' := by simpa [List.lookup] using h
      subst e
      cases l with
      | nil => rfl
      | cons p l =>
        obtain ⟨j2, c2⟩ := p
        have h3 := List.all_eq_true.1 h1 (j2, c2) (by simp)
        obtain ⟨h4, h5⟩ := Bool.and_eq_true_iff.1 h3
        have hne : j2 ≠ i := by intro e; subst e; simp at h5
        have hD : D j2 = false := by
          cases e : D j2 with
          | false => rfl
          | true => have := preds_closed hc e (show i ∈ preds ops j2 by simpa using h4); rw [hi] at this; cases this
        show cur (Cop.upd D i) cj ((j2, c2) :: l) = cj
        unfold cur
        rw [Cop.upd_other D i j2 hne, hD]; rfl
    · have hlk : l.lookup i = some c' := by
        have : (i == j) = false := by simpa using hij
        simpa [List.lookup, this] using h
      have hmem : ∃ c2, (i, c2) ∈ l := by
        clear h1 h2 hl h hd hi
        induction l with
        | nil => cases hlk
        | cons p l ih =>
          obtain ⟨a, b⟩ := p
          by_cases e : i = a
          · subst e; exact ⟨b, by simp⟩
          · have : (i == a) = false := by simpa using e
            obtain ⟨c2, hc2⟩ := ih (by simpa [List.lookup, this] using hlk)
            exact ⟨c2, by simp [hc2]⟩
      obtain ⟨c2, hc2⟩ := hmem
      have h3 := List.all_eq_true.1 h1 (i, c2) hc2
      obtain ⟨h4, h5⟩ := Bool.and_eq_true_iff.1 h3
      rw [Cop.upd_other D i j (fun e => hij e.symm), hd j (by simpa using h4)]
      exact cur_upd hc hi hd l cj c' h2 hlk
theorem lookup_none {i : Nat} : ∀ {l : List (Nat × List Value)}, l.lookup i = none → ∀ p ∈ l, p.1 ≠ i
  | [], _, p, hp => by cases hp
  | (j, c) :: l, h, p, hp => by
    by_cases e : i = j
    · subst e; simp [List.lookup] at h
    · have h' : (i == j) = false := by simpa using e
      rcases List.mem_cons.1 hp with rfl | hp
      · exact fun h => e h.symm
      · exact lookup_none (by simpa [List.lookup, h'] using h) p hp
/-- A value is made: the blocks stay. -/
theorem blks_val {ops : Array Oper} {D : Nat → Bool} {W W' : World} {i : Nat} (hn : noDst ops i = false) (hb : Below W.heap.size W W') : ∀ (l : List BE), blOk ops l = true → Blks D W l → Blks (Cop.upd D i) W' l
  | [], _, _ => trivial
  | b :: l, hk, h => by
    unfold blOk at hk
    simp only [Bool.and_eq_true] at hk
    refine ⟨?_, blks_val hn hb l hk.2 h.2⟩
    rw [cur_other D i b.st b.c0 fun p hp e => ?_]
    · exact h.1.below hb
    · have := List.all_eq_true.1 hk.1.1.2 p hp
      rw [e, hn] at this; cases this
theorem blks_other {D : Nat → Bool} {W W' : World} {i g : Nat} (hg : W.grownBy W' (some g)) : ∀ (l : List BE), NeH g l → (∀ b ∈ l, ∀ p ∈ b.st, p.1 ≠ i) → Blks D W l → Blks (Cop.upd D i) W' l
  | [], _, _, _ => trivial
  | b :: l, hn, hp, h => by
    refine ⟨?_, blks_other hg l hn.2 (fun c hc => hp c (by simp [hc])) h.2⟩
    rw [cur_other D i b.st b.c0 (hp b (by simp))]
    exact h.1.grown hg (fun e => hn.1 (Option.some.inj e).symm)
theorem lookup_mem {i : Nat} {c : List Value} : ∀ {l : List (Nat × List Value)}, l.lookup i = some c → ∃ p ∈ l, p.1 = i
  | [], h => by cases h
  | (j, cj) :: l, h => by
    by_cases e : i = j
    · exact ⟨(j, cj), by simp, e.symm⟩
    · have h' : (i == j) = false := by simpa using e
      obtain ⟨p, hp, he⟩ := lookup_mem (l := l) (by simpa [List.lookup, h'] using h)
      exact ⟨p, by simp [hp], he⟩
theorem tgt_mem {i : Nat} {b : BE} {c : List Value} : ∀ {l : List BE}, tgt l i = some (b, c) → b ∈ l
  | [], h => by cases h
  | a :: l, h => by
    unfold tgt at h
    split at h
    · injection h with h; injection h with h1 h2; rw [← h1]; simp
    · exact List.mem_cons_of_mem _ (tgt_mem h)
theorem neH_mem {g : Nat} : ∀ {l : List BE}, NeH g l → ∀ b ∈ l, g ≠ b.g
  | [], _, b, hb => by cases hb
  | a :: l, h, b, hb => by
    rcases List.mem_cons.1 hb with rfl | hb
    · exact h.1
    · exact neH_mem h.2 b hb
theorem blks_st {ops : Array Oper} {D : Nat → Bool} {W W' : World} {i : Nat} (hc : Closed ops D) (hi : D i = false) (hd : ∀ k ∈ preds ops i, D k = true) {b : BE} {c : List Value} (hg : W.grownBy W' (some b.g)) (hb : Blk W' b.g b.t c) : ∀ (l : List BE), blOk ops l = true → NeL l → tgt l i = some (b, c) → Blks D W l → Blks (Cop.upd D i) W' l
  | [], _, _, h, _ => by cases h
  | a :: l, hk, hn, h, hB => by
    unfold blOk at hk
    simp only [Bool.and_eq_true] at hk
    unfold tgt at h
    split at h
    · rename_i c' hl
      injection h with h; injection h with h1 h2
      subst h1; subst h2
      refine ⟨?_, blks_other hg l hn.1 (fun b2 hb2 p hp e => ?_) hB.2⟩
      · rw [cur_upd hc hi hd a.st a.c0 c' hk.1.1.1 hl]; exact hb
      · obtain ⟨q, hq, he⟩ := lookup_mem hl
        have := List.all_eq_true.1 (List.all_eq_true.1 (List.all_eq_true.1 hk.1.2 b2 hb2) q hq) p hp
        rw [he, e] at this; simp at this
    · rename_i hl
      refine ⟨?_, blks_st hc hi hd hg hb l hk.2 hn.2 h hB.2⟩
      rw [cur_other D i a.st a.c0 (lookup_none hl)]
      have := neH_mem hn.1 b (tgt_mem h)
      exact hB.1.grown hg (fun e => this (Option.some.inj e))
theorem blks_fin {D : Nat → Bool} {W : World} {m : Nat} (hD : ∀ j, j < m → D j = true) : ∀ (l : List BE), (∀ b ∈ l, ∀ p ∈ b.st, p.1 < m) → Blks D W l → Blks (fun _ => true) W l
  | [], _, _ => trivial
  | b :: l, hm, h => by
    refine ⟨?_, blks_fin hD l (fun c hc => hm c (by simp [hc])) h.2⟩
    rw [← cur_all D b.st b.c0 fun p hp => hD _ (hm b (by simp) p hp)]
    exact h.1
theorem blks_lt {D : Nat → Bool} {W : World} : ∀ {l : List BE}, Blks D W l → ∀ g ∈ l.map (·.g), g < W.heap.size
  | [], _, g, hg => by cases hg
  | b :: l, h, g, hg => by
    rw [List.map_cons] at hg
    rcases List.mem_cons.1 hg with rfl | hg
    · exact h.1.lt
    · exact blks_lt h.2 g hg
def allLt (m : Nat) (BL : List BE) : Bool := BL.all fun b => b.st.all fun p => Nat.blt p.1 m
/-- Of an operation without a slot nothing is told. -/
def TrueL (ops : Array Oper) : Nat → List (Value → World → Prop) → Prop
  | _, [] => True
  | i, f :: l => (match noDst ops i with | true => ∀ v W, f v W | false => True) ∧ TrueL ops (i + 1) l
theorem trueL_at {ops : Array Oper} : ∀ {FL : List (Value → World → Prop)} {i : Nat}, TrueL ops i FL → ∀ j, noDst ops (i + j) = true → ∀ v W, fat FL j v W
  | [], i, _, j, _, v, W => by simp [fat]
  | f :: l, i, h, 0, hn, v, W => by
    have := h.1
    rw [Nat.add_zero] at hn
    rw [hn] at this
    exact this v W
  | f :: l, i, h, j + 1, hn, v, W => trueL_at (FL := l) (i := i + 1) h.2 j (by rw [show i + 1 + j = i + (j + 1) by omega]; exact hn) v W
/-- A region that draws its order: its first m operations come up in whatever order; each yields a value, or writes one of the blocks told; the others stand in line. -/
theorem drawS {id : Nat} {l : List Oper} {u : Nat → Value} {w : World} (m : Nat) (FL : List (Value → World → Prop)) (BL : List BE) (hm : P.follows .mixedOrders = true) (hac : acyc l.toArray = true) (hh : headS l.toArray m = true) (ht : tailB l.toArray m = true) (hbl : blOk l.toArray BL = true) (hlt : allLt m BL = true) (hlen : FL.length = m) (hle : Nat.ble m l.length = true)
    (hT : TrueL l.toArray 0 FL) (hne : NeL BL) (h0 : Blks (fun _ => false) w BL) (hst : StabE (BL.map (·.g)) w FL) (hstep : StepsE r P l.toArray Q N ds FL BL (BL.map (·.g)) m u w 0 (l.take m))
    (hfin : ∀ u' W, GrL (BL.map (·.g)) w W → KeepsS l.toArray m u u' → Facs l.toArray u' W 0 FL → Blks (fun _ => true) W BL → wpS r P l.toArray Q (l.drop m) (act N u' ds) W) :
    wpC r P (.region id l.toArray true) Q (act N u ds) w := by
  have hml : m ≤ l.length := Nat.le_of_ble_eq_true hle
  have hEw : ∀ g ∈ BL.map (·.g), g < w.heap.size := blks_lt h0
  have hltm : ∀ b ∈ BL, ∀ p ∈ b.st, p.1 < m := fun b hb p hp => Nat.le_of_ble_eq_true (List.all_eq_true.1 (List.all_eq_true.1 hlt b hb) p hp)
  have hT2 : ∀ j, noDst l.toArray j = true → ∀ v W, fat FL j v W := fun j hj => trueL_at hT j (by rw [Nat.zero_add]; exact hj)
  have hFall : ∀ {D : Nat → Bool} {u' : Nat → Value} {W : World}, (∀ j, j < m → D j = true → noDst l.toArray j = false → fat FL j (u' (dstOf l.toArray j)) W) → ∀ j, j < m → D j = true → fat FL j (u' (dstOf l.toArray j)) W := by
    intro D u' W h j hj hD
    cases e : noDst l.toArray j with
    | true => exact hT2 j e _ _
    | false => exact h j hj hD e
  refine region_invC (fun D a W => (∀ j, m ≤ j → j < l.length → D j = false) ∧ (∃ u', a = act N u' ds ∧ GrL (BL.map (·.g)) w W ∧ KeepsD l.toArray m D u u' ∧ Blks D W BL ∧ ∀ j, j < m → D j = true → noDst l.toArray j = false → fat FL j (u' (dstOf l.toArray j)) W) ∨
      ∃ t, m ≤ t ∧ t < l.length ∧ (∀ j, j ≤ t → D j = true) ∧ (∀ j, t < j → j < l.length → D j = false) ∧ wpS r P l.toArray Q (l.drop (t + 1)) a W) hm hac ?_ ?_ ?_
  · refine .inl ⟨fun _ _ _ => rfl, u, rfl, GrL.of_below (Below.refl _ _).drew, fun _ _ => rfl, ?_, fun _ _ h => by cases h⟩
    have : ∀ (L : List BE), Blks (fun _ => false) w L → Blks (fun _ => false) w.drew L := by
      intro L
      induction L with
      | nil => exact fun _ => trivial
      | cons b L ih => exact fun h => ⟨h.1.below (Below.refl _ _).drew, ih h.2⟩
    exact this BL h0
  · intro i o ho D a W hdi hdep hcl hI K hK
    have hi : i < l.length := by simpa using (Array.getElem?_eq_some_iff.1 ho).1
    have hol : l[i]? = some o := by simpa using ho
    have hdp : ∀ k ∈ preds l.toArray i, D k = true := by
      intro j hj
      unfold preds at hj
      rw [ho] at hj
      obtain ⟨e, he, rfl⟩ := List.mem_map.1 hj
      obtain ⟨he1, he2⟩ := List.mem_filter.1 he
      exact hdep e (Array.mem_toList_iff.1 he1) he2
    by_cases him : i < m
    · rcases hI with ⟨htl, u', rfl, hb, hk, hB, hF⟩ | ⟨t, ht1, ht2, ht3, _⟩
      · have hs := stepsE_at hstep (j := i) (o := o) (by rw [List.getElem?_take, if_pos him]; exact hol)
        rw [Nat.zero_add] at hs
        refine (hs u' W hb (hk.keepsI hcl hdi) (deps_of _ fun j hj hjm => hFall hF j hjm (hdp j hj)) (edeps_of hcl hdi hdp BL hB) K ?_).out
        unfold OutS
        split
        · rename_i d hd
          intro v W' hb' hf
          have hnd : noDst l.toArray i = false := by unfold noDst; rw [ho]; simp [hd]
          have hdo : dstOf l.toArray i = d := by unfold dstOf; rw [ho]; simp [hd]
          refine hK _ _ (.inl ⟨fun j h1 h2 => ?_, Eng.upd u' d v, rfl, hb.trans (GrL.of_below hb'), fun k hk2 => ?_, blks_val hnd hb' BL hbl hB, fun j hj hD hnj => ?_⟩)
          · rw [Cop.upd_other D i j (by omega)]; exact htl j h1 h2
          · have hne : k ≠ d := by
              intro e
              subst e
              have := hk2 i him (by unfold hasDst; rw [ho]; simp [hd])
              rw [Cop.upd_same] at this; cases this
            rw [Eng.upd_other u' _ v k hne]
            exact hk k (fun j hj hd => updF (hk2 j hj hd))
          · by_cases hji : j = i
            · subst hji; rw [hdo, Eng.upd_same]; exact hf
            · rw [Cop.upd_other D i j hji] at hD
              have hFj := fat_stabE hst hEw j _ _ _ (hF j hj hD hnj) hb.size (GrL.of_below hb')
              have hj2 : j < l.length := by omega
              obtain ⟨y, hy⟩ : ∃ y, l[j].dst = some y := by
                unfold noDst at hnj
                simp only [List.getElem?_toArray, List.getElem?_eq_getElem hj2] at hnj
                cases e : l[j].dst with
                | none => rw [e] at hnj; cases hnj
                | some y => exact ⟨y, rfl⟩
              have hoj : dstOf l.toArray j = y := by unfold dstOf; simp [hj2, hy]
              have h1 := List.all_eq_true.1 (List.all_eq_true.1 hh i (List.mem_range.2 him)) j (List.mem_range.2 hj)
              have hij : (i == j) = false := by simpa using fun e => hji e.symm
              rw [hij, Bool.false_or, ho] at h1
              simp only [List.getElem?_toArray, List.getElem?_eq_getElem hj2, hd, hy] at h1
              have hne : y ≠ d := by intro e; subst e; simp at h1
              rw [hoj] at hFj ⊢
              rw [Eng.upd_other u' _ v _ hne]; exact hFj
        · rename_i hd
          have hnd : noDst l.toArray i = true := by unfold noDst; rw [ho]; simp [hd]
          split
          · rename_i b c htg
            intro W' hg hb'
            have hin : b.g ∈ BL.map (·.g) := List.mem_map_of_mem (tgt_mem htg)
            refine hK _ _ (.inl ⟨fun j h1 h2 => ?_, u', rfl, hb.trans (GrL.of_grown hg hin), fun k hk2 => hk k (fun j hj hd => updF (hk2 j hj hd)), blks_st hcl hdi hdp hg hb' BL hbl hne htg hB, fun j hj hD hnj => ?_⟩)
            · rw [Cop.upd_other D i j (by omega)]; exact htl j h1 h2
            · have hji : j ≠ i := by intro e; subst e; rw [hnd] at hnj; cases hnj
              rw [Cop.upd_other D i j hji] at hD
              exact fat_stabE hst hEw j _ _ _ (hF j hj hD hnj) hb.size (GrL.of_grown hg hin)
          · rename_i htg
            intro W' hb'
            refine hK _ _ (.inl ⟨fun j h1 h2 => ?_, u', rfl, hb.trans (GrL.of_below hb'), fun k hk2 => hk k (fun j hj hd => updF (hk2 j hj hd)), ?_, fun j hj hD hnj => ?_⟩)
            · rw [Cop.upd_other D i j (by omega)]; exact htl j h1 h2
            · have key : ∀ (L : List BE), tgt L i = none → Blks D W L → Blks (Cop.upd D i) W' L := by
                intro L
                induction L with
                | nil => exact fun _ _ => trivial
                | cons a L ih =>
                  intro h hB
                  unfold tgt at h
                  split at h
                  · cases h
                  · rename_i hl
                    refine ⟨?_, ih h hB.2⟩
                    rw [cur_other D i a.st a.c0 (lookup_none hl)]
                    exact hB.1.below hb'
              exact key BL htg hB
            · have hji : j ≠ i := by intro e; subst e; rw [hnd] at hnj; cases hnj
              rw [Cop.upd_other D i j hji] at hD
              exact fat_stabE hst hEw j _ _ _ (hF j hj hD hnj) hb.size (GrL.of_below hb')
      · have := ht3 i (by omega)
        rw [hdi] at this; cases this
    · have him : m ≤ i := by omega
      have hall := tail_all ht hcl ho him hdep
      have hw : wpS r P l.toArray Q (o :: l.drop (i + 1)) a W := by
        have hd : l.drop i = o :: l.drop (i + 1) := by
          rw [List.drop_eq_getElem_cons hi]
          congr 1
          rw [List.getElem?_eq_getElem hi] at hol
          exact Option.some.inj hol
        rcases hI with ⟨htl, u', rfl, hb, hk, hB, hF⟩ | ⟨t, ht1, ht2, ht3, ht4, hw⟩
        · have him2 : i = m := by
            by_cases h : m < i
            · have := hall m h
              rw [htl m (Nat.le_refl _) (by omega)] at this; cases this
            · omega
          subst him2
          rw [← hd]
          exact hfin u' W hb hk.keepsS (facs_of FL 0 fun j hj => by rw [Nat.zero_add]; exact hFall hF j (by omega) (hall j (by omega))) (blks_fin hall BL hltm hB)
        · have hit : i = t + 1 := by
            by_cases h : i ≤ t
            · have := ht3 i h; rw [hdi] at this; cases this
            · by_cases h2 : t + 1 < i
              · have := hall (t + 1) h2
                rw [ht4 (t + 1) (by omega) (by omega)] at this; cases this
              · omega
          subst hit
          rw [← hd]; exact hw
      have hup : ∀ j, j ≤ i → Cop.upd D i j = true := by
        intro j hj
        by_cases hji : j = i
        · subst hji; exact Cop.upd_same D j
        · rw [Cop.upd_other D i j hji]; exact hall j (by omega)
      have hdown : ∀ j, i < j → j < l.length → Cop.upd D i j = false := by
        intro j h1 h2
        rw [Cop.upd_other D i j (by omega)]
        rcases hI with ⟨htl, _⟩ | ⟨t, ht1, ht2, ht3, ht4, _⟩
        · exact htl j (by omega) h2
        · by_cases h : t < j
          · exact ht4 j h h2
          · have := ht3 i (by omega); rw [hdi] at this; cases this
      have hK2 : ∀ a' W', wpS r P l.toArray Q (l.drop (i + 1)) a' W' → K a' W' := fun a' W' h => hK _ _ (.inr ⟨i, him, hi, hup, hdown, h⟩)
      replace hw := wpS_open hw
      split at hw
      · rename_i hwd
        rw [if_pos hwd]
        exact opC_mono hK2 hw
      · rename_i hwd
        rw [if_neg hwd]
        exact hK2 _ _ hw
  · intro D a W hall hI
    rcases hI with ⟨htl, u', rfl, hb, hk, hB, hF⟩ | ⟨t, ht1, ht2, ht3, ht4, hw⟩
    · have hmn : m = l.length := by
        by_cases h : m < l.length
        · have := hall m (by simpa using h)
          rw [htl m (Nat.le_refl _) h] at this; cases this
        · omega
      have hall2 : ∀ j, j < m → D j = true := fun j hj => hall j (by simp; omega)
      have := hfin u' W hb hk.keepsS (facs_of FL 0 fun j hj => by rw [Nat.zero_add]; exact hFall hF j (by omega) (hall2 j (by omega))) (blks_fin hall2 BL hltm hB)
      rw [hmn, List.drop_length] at this
      exact wpS_nil this
    · have : t + 1 = l.length := by
        by_cases h : t + 1 < l.length
        · have := hall (t + 1) (by simpa using h)
          rw [ht4 (t + 1) (by omega) h] at this; cases this
        · omega
      rw [this, List.drop_length] at hw
      exact wpS_nil hw
theorem collectS {ops : Array Oper} {m : Nat} {u u' : Nat → Value} (hk : KeepsS ops m u u') {l : List (Nat × Value)} (h : Has u' l) (hl : (l.map (·.1)) = (List.range m).filterMap fun i => (ops[i]?).bind (·.dst)) : u' = updL u l := by
  have e := h.upd
  rw [e]
  funext k
  rw [← e]
  have : updL u' l k = updL u l k := updL_at l u' u k fun hm => hk k (by
    cases c : inHeadS ops m k with
    | false => rfl
    | true =>
      exfalso
      apply hm
      rw [hl]
      obtain ⟨i, hi, hd⟩ := List.any_eq_true.1 c
      refine List.mem_filterMap.2 ⟨i, hi, ?_⟩
      unfold hasDst at hd
      cases e1 : ops[i]? with
      | none => rw [e1] at hd; cases hd
      | some o =>
        rw [e1] at hd
        cases e2 : o.dst with
        | none => simp [e2] at hd
        | some d => simp [e2] at hd ⊢; exact hd)
  rw [← this, ← e]
theorem gu {ops : Array Oper} {o : Oper} {u : Nat → Value} {j d : Nat} {b : Bool} (hg : o.guard = some (j, b)) (hj : dstAt ops j = some d) (hd : Nat.ble (d + 1) N = true) (hu : u d = undef) : Region.wanted o (yielded ops (fr N u)) = false := by
  have hy : yielded ops (fr N u) j = none := by
    unfold yielded
    unfold dstAt at hj
    rw [hj]
    have : d < N := Nat.le_of_ble_eq_true hd
    simp [fr_get, this, hu, undef]
  simp [Region.wanted, hg, hy]
/-! ### Steps -/
/-- An operation that yields a value. -/
theorem sdv {FL : List (Value → World → Prop)} {BL : List BE} {i : Nat} {o : Oper} {u : Nat → Value} {W : World} {K : Act → World → Prop} {d : Nat} (hd : o.dst = some d) (hK : OutS N ds FL BL u W i o K) : ∀ v W', Below W.heap.size W W' → fat FL i v W' → K (act N (upd u d v) ds) W' := by
  unfold OutS at hK; rw [hd] at hK; exact hK
/-- A whole block is written. -/
theorem sstB {ops : Array Oper} {FL : List (Value → World → Prop)} {BL : List BE} {i : Nat} {o : Oper} {u : Nat → Value} {W : World} {K : Act → World → Prop} (hg : Region.wanted o (yielded ops (fr N u)) = true) (hd : o.dst = none) {t : TypeId} {x y : Operand} (ho : o.op = .store t x y) {sz : Nat} (hs : (P.info? t).map (fun i => i.size) = some sz)
    {b : BE} {cs' : List Value} (htg : tgt BL i = some (b, cs')) {g : Nat} (hbg : b.g = g) (hx : opv N u x = .pointer (some ⟨g, 0, none⟩)) {cs : List Value} (hb : Blk W g b.t cs) (hl : cs.length = sz) {v : Value} (hy : opv N u y = v) (hv : v.cells.toList = cs') (hl' : cs'.length = sz) (h1 : ∀ u ∈ cs', u.oneCell' = true)
    (hK : OutS N ds FL BL u W i o K) : DS r P ops Q N ds o u W K := by
  subst hbg
  have hK : ∀ W', W.grownBy W' (some b.g) → Blk W' b.g b.t cs' → K (act N u ds) W' := by
    unfold OutS at hK; rw [hd] at hK; simp only [htg] at hK; exact hK
  subst hv
  have hst := run_storeCells_at P b.g 0 b.t v.cells.toList 0 cs.toArray W hb (by simp at hl' ⊢; omega) h1
  simp only [Nat.add_zero, List.take_zero, List.nil_append, Nat.zero_add] at hst
  have hd0 : cs.toArray.toList.drop v.cells.toList.length = [] := by simp at hl' ⊢; omega
  rw [hd0, List.append_nil] at hst
  have hv2 : v.cells.size = sz := by simpa using hl'
  have hrun : (execOp (opv N u) o).run P W = .ok .skip (W.setRow b.g v.cells.toList.toArray) := by
    unfold execOp
    simp [ho, hx, hy, Instr.storeAt, Instr.sureAddr, storeVar, Cop.run_sizeOf hs, hv2, Result.andThen] at hst ⊢
    rw [hst]
  refine ⟨?_⟩
  rw [if_pos hg]
  refine opC_skip (by rw [eval_act]; exact hrun) ?_
  rw [hd]
  exact hK _ ⟨rfl, rfl, rfl, by simp, fun k _ hk => setRow_other W b.g k _ (fun e => hk (by rw [e]))⟩ (setRow_heap W b.g cs.toArray _ b.t _ hb)
/-- One cell of a block is written. -/
theorem sstC {ops : Array Oper} {FL : List (Value → World → Prop)} {BL : List BE} {i : Nat} {o : Oper} {u : Nat → Value} {W : World} {K : Act → World → Prop} (hg : Region.wanted o (yielded ops (fr N u)) = true) (hd : o.dst = none) {t : TypeId} {x y : Operand} (ho : o.op = .store t x y) (hs : (P.info? t).map (fun i => i.size) = some 1)
    {b : BE} {cs' : List Value} (htg : tgt BL i = some (b, cs')) {g j : Nat} (hbg : b.g = g) (hx : opv N u x = .pointer (some ⟨g, j, none⟩)) {cs : List Value} (hb : Blk W g b.t cs) (hi : j < cs.length) {v : Value} (hy : opv N u y = v) (hv : v.oneCell' = true) (hv2 : v.cells = #[v]) (hcs : cs.set j v = cs')
    (hK : OutS N ds FL BL u W i o K) : DS r P ops Q N ds o u W K := by
  subst hbg
  have hK : ∀ W', W.grownBy W' (some b.g) → Blk W' b.g b.t cs' → K (act N u ds) W' := by
    unfold OutS at hK; rw [hd] at hK; simp only [htg] at hK; exact hK
  subst hcs
  have hst := run_storeCells_at P b.g j b.t [v] 0 cs.toArray W hb (by simp; omega) (by intro u hu; simp at hu; subst hu; exact hv)
  simp only [Nat.add_zero, List.length_singleton] at hst
  have he : (cs.toArray.toList.take j ++ [v] ++ cs.toArray.toList.drop (j + 1)) = cs.set j v := by
    simp [List.set_eq_take_append_cons_drop, hi]
  rw [he] at hst
  have hrun : (execOp (opv N u) o).run P W = .ok .skip (W.setRow b.g (cs.set j v).toArray) := by
    unfold execOp
    simp [ho, hx, hy, Instr.storeAt, Instr.sureAddr, storeVar, Cop.run_sizeOf hs, hv2, Result.andThen] at hst ⊢
    rw [hst]
  refine ⟨?_⟩
  rw [if_pos hg]
  refine opC_skip (by rw [eval_act]; exact hrun) ?_
  rw [hd]
  exact hK _ ⟨rfl, rfl, rfl, by simp, fun k _ hk => setRow_other W b.g k _ (fun e => hk (by rw [e]))⟩ (setRow_heap W b.g cs.toArray _ b.t _ hb)
end
section
variable {P : Program} {N : Nat} {u : Nat → Value} {w : World} {fn : Func}
theorem res4 {r1 r2 r3 r4 : ResultVar} (hf : fn.results = #[r1, r2, r3, r4]) {v1 v2 v3 v4 : Value} (h1 : RdV P N u w r1 v1) (h2 : RdV P N u w r2 v2) (h3 : RdV P N u w r3 v3) (h4 : RdV P N u w r4 v4) : (results fn (fr N u)).run P w = .ok (.tuple #[v1, v2, v3, v4]) w := by
  rcases r1 with t1 | ⟨a1, ty1⟩
  · have k1 := rdv_t h1
    rcases r2 with t2 | ⟨a2, ty2⟩
    · have k2 := rdv_t h2
      rcases r3 with t3 | ⟨a3, ty3⟩
      · have k3 := rdv_t h3
        rcases r4 with t4 | ⟨a4, ty4⟩
        · have k4 := rdv_t h4
          simp [results, hf, k1, k2, k3, k4, asAddr, Result.andThen]
        · obtain ⟨ad4, k4, l4⟩ := rdv_c h4
          simp [results, hf, k1, k2, k3, k4, l4, asAddr, Result.andThen]
      · obtain ⟨ad3, k3, l3⟩ := rdv_c h3
        rcases r4 with t4 | ⟨a4, ty4⟩
        · have k4 := rdv_t h4
          simp [results, hf, k1, k2, k3, l3, k4, asAddr, Result.andThen]
        · obtain ⟨ad4, k4, l4⟩ := rdv_c h4
          simp [results, hf, k1, k2, k3, l3, k4, l4, asAddr, Result.andThen]
    · obtain ⟨ad2, k2, l2⟩ := rdv_c h2
      rcases r3 with t3 | ⟨a3, ty3⟩
      · have k3 := rdv_t h3
        rcases r4 with t4 | ⟨a4, ty4⟩
        · have k4 := rdv_t h4
          simp [results, hf, k1, k2, l2, k3, k4, asAddr, Result.andThen]
        · obtain ⟨ad4, k4, l4⟩ := rdv_c h4
          simp [results, hf, k1, k2, l2, k3, k4, l4, asAddr, Result.andThen]
      · obtain ⟨ad3, k3, l3⟩ := rdv_c h3
        rcases r4 with t4 | ⟨a4, ty4⟩
        · have k4 := rdv_t h4
          simp [results, hf, k1, k2, l2, k3, l3, k4, asAddr, Result.andThen]
        · obtain ⟨ad4, k4, l4⟩ := rdv_c h4
          simp [results, hf, k1, k2, l2, k3, l3, k4, l4, asAddr, Result.andThen]
  · obtain ⟨ad1, k1, l1⟩ := rdv_c h1
    rcases r2 with t2 | ⟨a2, ty2⟩
    · have k2 := rdv_t h2
      rcases r3 with t3 | ⟨a3, ty3⟩
      · have k3 := rdv_t h3
        rcases r4 with t4 | ⟨a4, ty4⟩
        · have k4 := rdv_t h4
          simp [results, hf, k1, l1, k2, k3, k4, asAddr, Result.andThen]
        · obtain ⟨ad4, k4, l4⟩ := rdv_c h4
          simp [results, hf, k1, l1, k2, k3, k4, l4, asAddr, Result.andThen]
      · obtain ⟨ad3, k3, l3⟩ := rdv_c h3
        rcases r4 with t4 | ⟨a4, ty4⟩
        · have k4 := rdv_t h4
          simp [results, hf, k1, l1, k2, k3, l3, k4, asAddr, Result.andThen]
        · obtain ⟨ad4, k4, l4⟩ := rdv_c h4
          simp [results, hf, k1, l1, k2, k3, l3, k4, l4, asAddr, Result.andThen]
    · obtain ⟨ad2, k2, l2⟩ := rdv_c h2
      rcases r3 with t3 | ⟨a3, ty3⟩
      · have k3 := rdv_t h3
        rcases r4 with t4 | ⟨a4, ty4⟩
        · have k4 := rdv_t h4
          simp [results, hf, k1, l1, k2, l2, k3, k4, asAddr, Result.andThen]
        · obtain ⟨ad4, k4, l4⟩ := rdv_c h4
          simp [results, hf, k1, l1, k2, l2, k3, k4, l4, asAddr, Result.andThen]
      · obtain ⟨ad3, k3, l3⟩ := rdv_c h3
        rcases r4 with t4 | ⟨a4, ty4⟩
        · have k4 := rdv_t h4
          simp [results, hf, k1, l1, k2, l2, k3, l3, k4, asAddr, Result.andThen]
        · obtain ⟨ad4, k4, l4⟩ := rdv_c h4
          simp [results, hf, k1, l1, k2, l2, k3, l3, k4, l4, asAddr, Result.andThen]
end
end Go.Proofs.YtnecgoahdkfbeaaDoor.Eng
