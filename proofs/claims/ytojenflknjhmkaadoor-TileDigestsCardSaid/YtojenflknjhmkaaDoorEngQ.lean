/- Regions that draw their order and write, late, one block of their own. -/
import Derived.Test.YtojenflknjhmkaaDoorEngS
namespace Go.Proofs.YtojenflknjhmkaaDoor.Eng
open Go Go.RowKit Go.Proofs.YtojenflknjhmkaaDoor.Cop
set_option linter.unusedVariables false
set_option linter.unusedSimpArgs false
section
variable {r : Option (Option Nat)} {P : Program} {Q : Exit → Act → World → Prop} {N : Nat} {ds : List Deferred}
theorem GrL.nil_below {w W : World} (h : GrL [] w W) : Below w.heap.size w W := h.below (Nat.le_refl _) (fun g hg => by cases hg)
theorem someInj {α : Type} {a b : α} (h : some a = some b) : a = b := Option.some.inj h
theorem outS_st {FL : List (Value → World → Prop)} {g : Nat} {t : TypeId} {c0 cs : List Value} {s : Nat} {o : Oper} {u : Nat → Value} {W : World} {K : Act → World → Prop} (hd : o.dst = none) (hK : ∀ W', W.grownBy W' (some g) → Blk W' g t cs → K (act N u ds) W') : OutS N ds FL [⟨g, t, c0, [(s, cs)]⟩] u W s o K := by
  unfold OutS; rw [hd]
  simp only [tgt, List.lookup, beq_self_eq_true]
  exact hK
/-- The store's step. -/
def StepSt (r : Option (Option Nat)) (P : Program) (ops : Array Oper) (Q : Exit → Act → World → Prop) (N : Nat) (ds : List Deferred) (FL : List (Value → World → Prop)) (PS : (Nat → Value) → World → World → Prop) (m : Nat) (u : Nat → Value) (w : World) (s : Nat) (o : Oper) : Prop :=
  ∀ (u' : Nat → Value) (V : World), Below w.heap.size w V → KeepsI ops m s u u' → Deps ops FL m u' V (preds ops s) → ∀ K : Act → World → Prop, (∀ W, PS u' V W → K (act N u' ds) W) → DS r P ops Q N ds o u' V K
def StepsL (r : Option (Option Nat)) (P : Program) (ops : Array Oper) (Q : Exit → Act → World → Prop) (N : Nat) (ds : List Deferred) (FL : List (Value → World → Prop)) (PS : (Nat → Value) → World → World → Prop) (s m : Nat) (u : Nat → Value) (w : World) : Nat → List Oper → Prop
  | _, [] => True
  | i, o :: l => ((Nat.beq i s = true → StepSt r P ops Q N ds FL PS m u w i o) ∧ (Nat.beq i s = false → StepE r P ops Q N ds FL [] [] m u w i o)) ∧ StepsL r P ops Q N ds FL PS s m u w (i + 1) l
/-- A floating operation's step, behind the store. -/
def StepsX (r : Option (Option Nat)) (P : Program) (ops : Array Oper) (Q : Exit → Act → World → Prop) (N : Nat) (ds : List Deferred) (FL : List (Value → World → Prop)) (PS : (Nat → Value) → World → World → Prop) (m : Nat) : List Nat → Prop
  | [] => True
  | x :: X => ((∀ u' v V W, PS u' V W → PS (upd u' (dstOf ops x) v) V W) ∧ ∀ o, ops[x]? = some o → ∀ (u' : Nat → Value) (V W : World), Deps ops FL m u' V (preds ops x) → ∀ K : Act → World → Prop, (∀ v, fat FL x v V → K (act N (upd u' (dstOf ops x) v) ds) W) → DS r P ops Q N ds o u' W K) ∧ StepsX r P ops Q N ds FL PS m X
theorem stepsL_at {ops : Array Oper} {FL : List (Value → World → Prop)} {PS : (Nat → Value) → World → World → Prop} {s m : Nat} {u : Nat → Value} {w : World} : ∀ {l : List Oper} {i : Nat}, StepsL r P ops Q N ds FL PS s m u w i l → ∀ {j : Nat} {o : Oper}, l[j]? = some o → (Nat.beq (i + j) s = true → StepSt r P ops Q N ds FL PS m u w (i + j) o) ∧ (Nat.beq (i + j) s = false → StepE r P ops Q N ds FL [] [] m u w (i + j) o)
  | [], _, _, j, o, h => by simp at h
  | o' :: l, i, hs, 0, o, h => by simp at h; subst h; exact hs.1
  | o' :: l, i, hs, j + 1, o, h => by
    have := stepsL_at (l := l) (i := i + 1) hs.2 (j := j) (o := o) (by simpa using h)
    rwa [show i + 1 + j = i + (j + 1) by omega] at this
theorem stepsX_at {ops : Array Oper} {FL : List (Value → World → Prop)} {PS : (Nat → Value) → World → World → Prop} {m : Nat} : ∀ {X : List Nat}, StepsX r P ops Q N ds FL PS m X → ∀ x ∈ X, (∀ u' v V W, PS u' V W → PS (upd u' (dstOf ops x) v) V W) ∧ ∀ o, ops[x]? = some o → ∀ (u' : Nat → Value) (V W : World), Deps ops FL m u' V (preds ops x) → ∀ K : Act → World → Prop, (∀ v, fat FL x v V → K (act N (upd u' (dstOf ops x) v) ds) W) → DS r P ops Q N ds o u' W K
  | [], _, x, hx => by cases hx
  | y :: X, h, x, hx => by
    rcases List.mem_cons.1 hx with rfl | hx
    · exact h.1
    · exact stepsX_at h.2 x hx
/-- All that do not float come ahead of the store. -/
def floatB (ops : Array Oper) (m s : Nat) (X : List Nat) : Bool := (List.range m).all fun i => Nat.beq i s || X.contains i || (preds ops s).contains i
def dstB (ops : Array Oper) (m s : Nat) : Bool := (List.range m).all fun i => Nat.beq i s || !noDst ops i
theorem drawL {id : Nat} {l : List Oper} {u : Nat → Value} {w : World} (m s : Nat) (X : List Nat) (FL : List (Value → World → Prop)) (PS : (Nat → Value) → World → World → Prop) (hm : P.follows .mixedOrders = true) (hac : acyc l.toArray = true) (hh : headS l.toArray m = true) (ht : tailB l.toArray m = true) (hfl : floatB l.toArray m s X = true) (hdb : dstB l.toArray m s = true) (hsm : Nat.blt s m = true) (hnd : noDst l.toArray s = true) (hlen : FL.length = m) (hle : Nat.ble m l.length = true)
    (hst : StabE [] w FL) (hT : fat FL s = fun _ _ => True) (hstep : StepsL r P l.toArray Q N ds FL PS s m u w 0 (l.take m)) (hX : StepsX r P l.toArray Q N ds FL PS m X)
    (hfin : ∀ u' V W, Below w.heap.size w V → KeepsS l.toArray m u u' → Facs l.toArray u' V 0 FL → PS u' V W → wpS r P l.toArray Q (l.drop m) (act N u' ds) W) :
    wpC r P (.region id l.toArray true) Q (act N u ds) w := by
  have hml : m ≤ l.length := Nat.le_of_ble_eq_true hle
  have hsm : s < m := Nat.le_of_ble_eq_true hsm
  have hT2 : ∀ v W, fat FL s v W := fun v W => by rw [hT]; trivial
  have hE0 : ∀ g ∈ ([] : List Nat), g < w.heap.size := fun g hg => by cases hg
  have hdst : ∀ j, j < m → j ≠ s → noDst l.toArray j = false := by
    intro j hj hjs
    have := List.all_eq_true.1 hdb j (List.mem_range.2 hj)
    have e : Nat.beq j s = false := by
      cases e : Nat.beq j s with
      | false => rfl
      | true => exact absurd (Nat.eq_of_beq_eq_true e) hjs
    rw [e] at this; simpa using this
  have hdne : ∀ i j, i < m → j < m → j ≠ i → ∀ x y, hasDst l.toArray i x = true → hasDst l.toArray j y = true → y ≠ x := by
    intro i j hi hj hji x y hx hy e
    subst e
    have h1 := List.all_eq_true.1 (List.all_eq_true.1 hh i (List.mem_range.2 hi)) j (List.mem_range.2 hj)
    have hij : (i == j) = false := by simpa using fun e => hji e.symm
    rw [hij, Bool.false_or] at h1
    unfold hasDst at hx hy
    cases h2 : l.toArray[i]? with
    | none => rw [h2] at hx; cases hx
    | some a =>
      cases h3 : l.toArray[j]? with
      | none => rw [h3] at hy; cases hy
      | some b =>
        rw [h2] at hx h1; rw [h3] at hy h1
        cases h4 : a.dst with
        | none => simp only [h4] at hx; cases hx
        | some p =>
          cases h5 : b.dst with
          | none => simp only [h5] at hy; cases hy
          | some q =>
            simp only [h4, h5] at hx hy h1
            rw [Nat.eq_of_beq_eq_true hx, Nat.eq_of_beq_eq_true hy] at h1
            simp at h1
  have hasOf : ∀ j, j < m → noDst l.toArray j = false → hasDst l.toArray j (dstOf l.toArray j) = true := by
    intro j hj hnj
    have hj2 : j < l.length := by omega
    unfold noDst at hnj
    unfold hasDst dstOf
    simp only [List.getElem?_toArray, List.getElem?_eq_getElem hj2] at hnj ⊢
    cases e : l[j].dst with
    | none => rw [e] at hnj; cases hnj
    | some y => simp
  have hFall : ∀ {D : Nat → Bool} {u' : Nat → Value} {W : World}, (∀ j, j < m → D j = true → j ≠ s → fat FL j (u' (dstOf l.toArray j)) W) → ∀ j, j < m → D j = true → fat FL j (u' (dstOf l.toArray j)) W := by
    intro D u' W h j hj hD
    by_cases e : j = s
    · subst e; exact hT2 _ _
    · exact h j hj hD e
  refine region_invC (fun D a W => (∀ j, m ≤ j → j < l.length → D j = false) ∧ (∃ u', a = act N u' ds ∧ KeepsD l.toArray m D u u' ∧
      ((D s = false ∧ Below w.heap.size w W ∧ ∀ j, j < m → D j = true → j ≠ s → fat FL j (u' (dstOf l.toArray j)) W) ∨
       (D s = true ∧ ∃ V, Below w.heap.size w V ∧ PS u' V W ∧ ∀ j, j < m → D j = true → j ≠ s → fat FL j (u' (dstOf l.toArray j)) V))) ∨
      ∃ t, m ≤ t ∧ t < l.length ∧ (∀ j, j ≤ t → D j = true) ∧ (∀ j, t < j → j < l.length → D j = false) ∧ wpS r P l.toArray Q (l.drop (t + 1)) a W) hm hac ?_ ?_ ?_
  · exact .inl ⟨fun _ _ _ => rfl, u, rfl, fun _ _ => rfl, .inl ⟨rfl, (Below.refl _ _).drew, fun _ _ h => by cases h⟩⟩
  · intro i o ho D a W hdi hdep hcl hI K hK
    have hi : i < l.length := by simpa using (Array.getElem?_eq_some_iff.1 ho).1
    have hol : l[i]? = some o := by simpa using ho
    have hdp : ∀ k ∈ preds l.toArray i, D k = true := by
      intro j hj
      unfold preds at hj
      rw [ho] at hj
      obtain ⟨e, he, rfl⟩ := List.mem_map.1 hj
      obtain ⟨he1, he2⟩ := List.mem_filter.1 he
      exact hdep e (Array.mem_toList_iff.1 he1) he2
    by_cases him : i < m
    · rcases hI with ⟨htl, u', rfl, hk, hAB⟩ | ⟨t, ht1, ht2, ht3, _⟩
      · have hs := stepsL_at hstep (j := i) (o := o) (by rw [List.getElem?_take, if_pos him]; exact hol)
        rw [Nat.zero_add] at hs
        have htl' : ∀ j, m ≤ j → j < l.length → Cop.upd D i j = false := fun j h1 h2 => by rw [Cop.upd_other D i j (by omega)]; exact htl j h1 h2
        by_cases his : i = s
        · -- the store
          subst his
          rcases hAB with ⟨_, hb, hF⟩ | ⟨hDs, _⟩
          · refine (hs.1 (Nat.beq_refl i) u' W hb (hk.keepsI hcl hdi) (deps_of _ fun j hj hjm => hFall hF j hjm (hdp j hj)) K (fun W' hps => hK _ _ (.inl ⟨htl', u', rfl, fun k hk2 => hk k (fun j hj hd => updF (hk2 j hj hd)), .inr ⟨Cop.upd_same D i, W, hb, hps, fun j hj hD hji => ?_⟩⟩))).out
            rw [Cop.upd_other D i j hji] at hD
            exact hF j hj hD hji
          · rw [hdi] at hDs; cases hDs
        · have hnj := hdst i him his
          have hii := hasOf i him hnj
          have hod : o.dst = some (dstOf l.toArray i) := by
            unfold hasDst at hii; rw [ho] at hii
            cases e : o.dst with
            | none => simp only [e] at hii; cases hii
            | some p => simp only [e] at hii; rw [Nat.eq_of_beq_eq_true hii]
          have hkeep : ∀ v, KeepsD l.toArray m (Cop.upd D i) u (Eng.upd u' (dstOf l.toArray i) v) := by
            intro v k hk2
            have hne : k ≠ dstOf l.toArray i := by
              intro e
              have := hk2 i him (by rw [e]; exact hii)
              rw [Cop.upd_same] at this; cases this
            rw [Eng.upd_other u' _ v k hne]
            exact hk k (fun j hj hd => updF (hk2 j hj hd))
          have hFu : ∀ {v : Value} {W1 : World}, fat FL i v W1 → (∀ j, j < m → D j = true → j ≠ s → fat FL j (u' (dstOf l.toArray j)) W1) → ∀ j, j < m → Cop.upd D i j = true → j ≠ s → fat FL j (Eng.upd u' (dstOf l.toArray i) v (dstOf l.toArray j)) W1 := by
            intro v W1 hf hF j hj hD hjs
            by_cases hji : j = i
            · subst hji; rw [Eng.upd_same]; exact hf
            · rw [Cop.upd_other D i j hji] at hD
              rw [Eng.upd_other u' _ v _ (hdne i j him hj hji _ _ hii (hasOf j hj (hdst j hj hjs)))]
              exact hF j hj hD hjs
          rcases hAB with ⟨hDs, hb, hF⟩ | ⟨hDs, V, hb, hps, hF⟩
          · have hbe : Nat.beq i s = false := by
              cases e : Nat.beq i s with
              | false => rfl
              | true => exact absurd (Nat.eq_of_beq_eq_true e) his
            refine (hs.2 hbe u' W (GrL.of_below hb) (hk.keepsI hcl hdi) (deps_of _ fun j hj hjm => hFall hF j hjm (hdp j hj)) trivial K ?_).out
            unfold OutS; rw [hod]
            intro v W' hb' hf
            refine hK _ _ (.inl ⟨htl', _, rfl, hkeep v, .inl ⟨by rw [Cop.upd_other D i s (fun e => his e.symm)]; exact hDs, hb.trans (hb'.mono hb.size), hFu hf fun j hj hD hjs => ?_⟩⟩)
            exact fat_stabE hst hE0 j _ _ _ (hF j hj hD hjs) hb.size (GrL.of_below hb')
          · have hxm : i ∈ X := by
              have := List.all_eq_true.1 hfl i (List.mem_range.2 him)
              have hbe : Nat.beq i s = false := by
                cases e : Nat.beq i s with
                | false => rfl
                | true => exact absurd (Nat.eq_of_beq_eq_true e) his
              rw [hbe, Bool.false_or] at this
              rcases Bool.or_eq_true_iff.1 this with q | q
              · simpa using q
              · have := preds_closed hcl hDs (show i ∈ preds l.toArray s by simpa using q)
                rw [hdi] at this; cases this
            obtain ⟨hx1, hx2⟩ := stepsX_at hX i hxm
            refine (hx2 o ho u' V W (deps_of _ fun j hj hjm => hFall hF j hjm (hdp j hj)) K (fun v hf => ?_)).out
            exact hK _ _ (.inl ⟨htl', _, rfl, hkeep v, .inr ⟨by rw [Cop.upd_other D i s (fun e => his e.symm)]; exact hDs, V, hb, hx1 u' v V W hps, hFu hf hF⟩⟩)
      · have := ht3 i (by omega)
        rw [hdi] at this; cases this
    · have him : m ≤ i := by omega
      have hall := tail_all ht hcl ho him hdep
      have hw : wpS r P l.toArray Q (o :: l.drop (i + 1)) a W := by
        have hd : l.drop i = o :: l.drop (i + 1) := by
          rw [List.drop_eq_getElem_cons hi]
          congr 1
          rw [List.getElem?_eq_getElem hi] at hol
          exact Option.some.inj hol
        rcases hI with ⟨htl, u', rfl, hk, hAB⟩ | ⟨t, ht1, ht2, ht3, ht4, hw⟩
        · have him2 : i = m := by
            by_cases h : m < i
            · have := hall m h
              rw [htl m (Nat.le_refl _) (by omega)] at this; cases this
            · omega
          subst him2
          rw [← hd]
          rcases hAB with ⟨hDs, _⟩ | ⟨hDs, V, hb, hps, hF⟩
          · rw [hall s hsm] at hDs; cases hDs
          · exact hfin u' V W hb hk.keepsS (facs_of FL 0 fun j hj => by rw [Nat.zero_add]; exact hFall hF j (by omega) (hall j (by omega))) hps
        · have hit : i = t + 1 := by
            by_cases h : i ≤ t
            · have := ht3 i h; rw [hdi] at this; cases this
            · by_cases h2 : t + 1 < i
              · have := hall (t + 1) h2
                rw [ht4 (t + 1) (by omega) (by omega)] at this; cases this
              · omega
          subst hit
          rw [← hd]; exact hw
      have hup : ∀ j, j ≤ i → Cop.upd D i j = true := by
        intro j hj
        by_cases hji : j = i
        · subst hji; exact Cop.upd_same D j
        · rw [Cop.upd_other D i j hji]; exact hall j (by omega)
      have hdown : ∀ j, i < j → j < l.length → Cop.upd D i j = false := by
        intro j h1 h2
        rw [Cop.upd_other D i j (by omega)]
        rcases hI with ⟨htl, _⟩ | ⟨t, ht1, ht2, ht3, ht4, _⟩
        · exact htl j (by omega) h2
        · by_cases h : t < j
          · exact ht4 j h h2
          · have := ht3 i (by omega); rw [hdi] at this; cases this
      have hK2 : ∀ a' W', wpS r P l.toArray Q (l.drop (i + 1)) a' W' → K a' W' := fun a' W' h => hK _ _ (.inr ⟨i, him, hi, hup, hdown, h⟩)
      replace hw := wpS_open hw
      split at hw
      · rename_i hwd
        rw [if_pos hwd]
        exact opC_mono hK2 hw
      · rename_i hwd
        rw [if_neg hwd]
        exact hK2 _ _ hw
  · intro D a W hall hI
    rcases hI with ⟨htl, u', rfl, hk, hAB⟩ | ⟨t, ht1, ht2, ht3, ht4, hw⟩
    · have hmn : m = l.length := by
        by_cases h : m < l.length
        · have := hall m (by simpa using h)
          rw [htl m (Nat.le_refl _) h] at this; cases this
        · omega
      have hall2 : ∀ j, j < m → D j = true := fun j hj => hall j (by simp; omega)
      rcases hAB with ⟨hDs, _⟩ | ⟨hDs, V, hb, hps, hF⟩
      · rw [hall2 s hsm] at hDs; cases hDs
      · have := hfin u' V W hb hk.keepsS (facs_of FL 0 fun j hj => by rw [Nat.zero_add]; exact hFall hF j (by omega) (hall2 j (by omega))) hps
        rw [hmn, List.drop_length] at this
        exact wpS_nil this
    · have : t + 1 = l.length := by
        by_cases h : t + 1 < l.length
        · have := hall (t + 1) (by simpa using h)
          rw [ht4 (t + 1) (by omega) h] at this; cases this
        · omega
      rw [this, List.drop_length] at hw
      exact wpS_nil hw
end
end Go.Proofs.YtojenflknjhmkaaDoor.Eng
