/- Regions that draw their order and lay several blocks. -/
import Derived.Test.YtnecgoahdkfbeaaDoorEng
namespace Go.Proofs.YtnecgoahdkfbeaaDoor.Eng
open Go Go.RowKit Go.Proofs.YtnecgoahdkfbeaaDoor.Cop
set_option linter.unusedVariables false
section
variable {r : Option (Option Nat)} {P : Program} {Q : Exit → Act → World → Prop} {N : Nat} {ds : List Deferred}
def StepP (r : Option (Option Nat)) (P : Program) (ops : Array Oper) (Q : Exit → Act → World → Prop) (N : Nat) (ds : List Deferred) (FL : List (Value → World → Prop)) (AL : List Nat) (m : Nat) (u : Nat → Value) (w : World) (i : Nat) (o : Oper) : Prop :=
  ∀ (u' : Nat → Value) (W : World), Below w.heap.size w W → Keeps ops m u u' → Deps ops FL m u' W (preds ops i) → ∀ K : Act → World → Prop,
    (∀ v W', Below W.heap.size W W' → fat FL i v W' → (AL.contains i = true → v = .pointer (some ⟨W.heap.size, 0, none⟩) ∧ W.heap.size < W'.heap.size) → K (act N (upd u' (dstOf ops i) v) ds) W') → DS r P ops Q N ds o u' W K
def StepsP (r : Option (Option Nat)) (P : Program) (ops : Array Oper) (Q : Exit → Act → World → Prop) (N : Nat) (ds : List Deferred) (FL : List (Value → World → Prop)) (AL : List Nat) (m : Nat) (u : Nat → Value) (w : World) : Nat → List Oper → Prop
  | _, [] => True
  | i, o :: l => StepP r P ops Q N ds FL AL m u w i o ∧ StepsP r P ops Q N ds FL AL m u w (i + 1) l
theorem stepsP_at {ops : Array Oper} {FL : List (Value → World → Prop)} {AL : List Nat} {m : Nat} {u : Nat → Value} {w : World} : ∀ {l : List Oper} {i : Nat}, StepsP r P ops Q N ds FL AL m u w i l → ∀ {j : Nat} {o : Oper}, l[j]? = some o → StepP r P ops Q N ds FL AL m u w (i + j) o
  | [], _, _, j, o, h => by simp at h
  | o' :: l, i, hs, 0, o, h => by simp at h; subst h; exact hs.1
  | o' :: l, i, hs, j + 1, o, h => by
    have := stepsP_at (l := l) (i := i + 1) hs.2 (j := j) (o := o) (by simpa using h)
    rwa [show i + 1 + j = i + (j + 1) by omega] at this
/-- A region that draws its order: its first m operations come up in whatever order, and memory but grows; the others stand in line. -/
theorem drawP {id : Nat} {l : List Oper} {u : Nat → Value} {w : World} (AL : List Nat) (m : Nat) (FL : List (Value → World → Prop)) (hm : P.follows .mixedOrders = true) (hac : acyc l.toArray = true) (hh : headB l.toArray m = true) (ht : tailB l.toArray m = true) (hlen : FL.length = m) (hle : Nat.ble m l.length = true)
    (hst : Stab FL) (hstep : StepsP r P l.toArray Q N ds FL AL m u w 0 (l.take m))
    (hfin : ∀ u' W, Below w.heap.size w W → Keeps l.toArray m u u' → Facs l.toArray u' W 0 FL → (∀ i j, AL.contains i = true → AL.contains j = true → i ≠ j → i < m → j < m → u' (dstOf l.toArray i) ≠ u' (dstOf l.toArray j)) → wpS r P l.toArray Q (l.drop m) (act N u' ds) W) :
    wpC r P (.region id l.toArray true) Q (act N u ds) w := by
  have hml : m ≤ l.length := Nat.le_of_ble_eq_true hle
  refine region_invC (fun D a W => (∀ j, m ≤ j → j < l.length → D j = false) ∧ (∃ u', a = act N u' ds ∧ Below w.heap.size w W ∧ Keeps l.toArray m u u' ∧ (∀ j, AL.contains j = true → j < m → D j = true → ∃ g, u' (dstOf l.toArray j) = .pointer (some ⟨g, 0, none⟩) ∧ g < W.heap.size) ∧ (∀ i j, AL.contains i = true → AL.contains j = true → i ≠ j → i < m → j < m → D i = true → D j = true → u' (dstOf l.toArray i) ≠ u' (dstOf l.toArray j)) ∧ ∀ j, j < m → D j = true → fat FL j (u' (dstOf l.toArray j)) W) ∨
      ∃ t, m ≤ t ∧ t < l.length ∧ (∀ j, j ≤ t → D j = true) ∧ (∀ j, t < j → j < l.length → D j = false) ∧ wpS r P l.toArray Q (l.drop (t + 1)) a W) hm hac ?_ ?_ ?_
  · exact .inl ⟨fun _ _ _ => rfl, u, rfl, (Below.refl _ _).drew, fun _ _ => rfl, fun _ _ _ h => (by cases h), fun _ _ _ _ _ _ _ h => (by cases h), fun _ _ h => by cases h⟩
  · intro i o ho D a W hdi hdep hcl hI K hK
    have hi : i < l.length := by simpa using (Array.getElem?_eq_some_iff.1 ho).1
    have hol : l[i]? = some o := by simpa using ho
    by_cases him : i < m
    · rcases hI with ⟨htl, u', rfl, hb, hk, hA, hN, hF⟩ | ⟨t, ht1, ht2, ht3, _⟩
      · have hs := stepsP_at hstep (j := i) (o := o) (by rw [List.getElem?_take, if_pos him]; exact hol)
        rw [Nat.zero_add] at hs
        refine (hs u' W hb hk (deps_of _ fun j hj hjm => ?_) K (fun v W' hb' hf hal => hK _ _ (.inl ?_))).out
        · refine hF j hjm ?_
          unfold preds at hj
          rw [ho] at hj
          obtain ⟨e, he, rfl⟩ := List.mem_map.1 hj
          obtain ⟨he1, he2⟩ := List.mem_filter.1 he
          exact hdep e (Array.mem_toList_iff.1 he1) he2
        · refine ⟨fun j h1 h2 => ?_, Eng.upd u' (dstOf l.toArray i) v, rfl, hb.trans (hb'.mono hb.size), fun k hk2 => ?_, fun j hj1 hj hD => ?_, fun i2 j h1 h2 hne hi2 hj hD1 hD2 => ?_, fun j hj hD => ?_⟩
          · rw [Cop.upd_other D i j (by omega)]; exact htl j h1 h2
          · have hne : k ≠ dstOf l.toArray i := by
              intro e
              subst e
              have := List.any_eq_false.1 hk2 i (List.mem_range.2 him)
              simp at this
            rw [Eng.upd_other u' _ v k hne]
            exact hk k hk2
          · by_cases hji : j = i
            · subst hji
              obtain ⟨e1, e2⟩ := hal hj1
              exact ⟨_, by rw [Eng.upd_same]; exact e1, e2⟩
            · rw [Cop.upd_other D i j hji] at hD
              obtain ⟨g, e1, e2⟩ := hA j hj1 hj hD
              exact ⟨g, by rw [Eng.upd_other u' _ v _ (headB_ne hh hj him hji)]; exact e1, Nat.lt_of_lt_of_le e2 hb'.size⟩
          · have key : ∀ j, AL.contains j = true → j ≠ i → j < m → Cop.upd D i j = true → AL.contains i = true → u' (dstOf l.toArray j) ≠ v := by
              intro j hj1 hji hj hD hi1 e
              rw [Cop.upd_other D i j hji] at hD
              obtain ⟨g, e1, e2⟩ := hA j hj1 hj hD
              obtain ⟨e3, e4⟩ := hal hi1
              rw [e1, e3] at e
              injection e with e; injection e with e; injection e with e
              omega
            by_cases h3 : i2 = i
            · subst h3
              have hji : j ≠ i2 := fun e => hne e.symm
              rw [Eng.upd_same, Eng.upd_other u' _ v _ (headB_ne hh hj him hji)]
              exact fun e => key j h2 hji hj hD2 h1 e.symm
            · by_cases h4 : j = i
              · subst h4
                rw [Eng.upd_same, Eng.upd_other u' _ v _ (headB_ne hh hi2 him h3)]
                exact key i2 h1 h3 hi2 hD1 h2
              · rw [Eng.upd_other u' _ v _ (headB_ne hh hj him h4), Eng.upd_other u' _ v _ (headB_ne hh hi2 him h3)]
                rw [Cop.upd_other D i i2 h3] at hD1
                rw [Cop.upd_other D i j h4] at hD2
                exact hN i2 j h1 h2 hne hi2 hj hD1 hD2
          · by_cases hji : j = i
            · subst hji; rw [Eng.upd_same]; exact hf
            · rw [Cop.upd_other D i j hji] at hD
              rw [Eng.upd_other u' _ v _ (headB_ne hh hj him hji)]
              exact fat_stab hst j _ _ _ (hF j hj hD) hb'
      · have := ht3 i (by omega)
        rw [hdi] at this; cases this
    · have him : m ≤ i := by omega
      have hall := tail_all ht hcl ho him hdep
      have hw : wpS r P l.toArray Q (o :: l.drop (i + 1)) a W := by
        have hd : l.drop i = o :: l.drop (i + 1) := by
          rw [List.drop_eq_getElem_cons hi]
          congr 1
          rw [List.getElem?_eq_getElem hi] at hol
          exact Option.some.inj hol
        rcases hI with ⟨htl, u', rfl, hb, hk, hA, hN, hF⟩ | ⟨t, ht1, ht2, ht3, ht4, hw⟩
        · have him2 : i = m := by
            by_cases h : m < i
            · have := hall m h
              rw [htl m (Nat.le_refl _) (by omega)] at this; cases this
            · omega
          subst him2
          rw [← hd]
          exact hfin u' W hb hk (facs_of FL 0 fun j hj => by rw [Nat.zero_add]; exact hF j (by omega) (hall j (by omega))) (fun i2 j h1 h2 hne hi2 hj => hN i2 j h1 h2 hne hi2 hj (hall i2 (by omega)) (hall j (by omega)))
        · have hit : i = t + 1 := by
            by_cases h : i ≤ t
            · have := ht3 i h; rw [hdi] at this; cases this
            · by_cases h2 : t + 1 < i
              · have := hall (t + 1) h2
                rw [ht4 (t + 1) (by omega) (by omega)] at this; cases this
              · omega
          subst hit
          rw [← hd]; exact hw
      have hup : ∀ j, j ≤ i → Cop.upd D i j = true := by
        intro j hj
        by_cases hji : j = i
        · subst hji; exact Cop.upd_same D j
        · rw [Cop.upd_other D i j hji]; exact hall j (by omega)
      have hdown : ∀ j, i < j → j < l.length → Cop.upd D i j = false := by
        intro j h1 h2
        rw [Cop.upd_other D i j (by omega)]
        rcases hI with ⟨htl, _⟩ | ⟨t, ht1, ht2, ht3, ht4, _⟩
        · exact htl j (by omega) h2
        · by_cases h : t < j
          · exact ht4 j h h2
          · have := ht3 i (by omega); rw [hdi] at this; cases this
      have hK2 : ∀ a' W', wpS r P l.toArray Q (l.drop (i + 1)) a' W' → K a' W' := fun a' W' h => hK _ _ (.inr ⟨i, him, hi, hup, hdown, h⟩)
      replace hw := wpS_open hw
      split at hw
      · rename_i hwd
        rw [if_pos hwd]
        exact opC_mono hK2 hw
      · rename_i hwd
        rw [if_neg hwd]
        exact hK2 _ _ hw
  · intro D a W hall hI
    rcases hI with ⟨htl, u', rfl, hb, hk, hA, hN, hF⟩ | ⟨t, ht1, ht2, ht3, ht4, hw⟩
    · have hmn : m = l.length := by
        by_cases h : m < l.length
        · have := hall m (by simpa using h)
          rw [htl m (Nat.le_refl _) h] at this; cases this
        · omega
      have := hfin u' W hb hk (facs_of FL 0 fun j hj => by rw [Nat.zero_add]; exact hF j (by omega) (hall j (by simp; omega))) (fun i2 j h1 h2 hne hi2 hj => hN i2 j h1 h2 hne hi2 hj (hall i2 (by simp; omega)) (hall j (by simp; omega)))
      rw [hmn, List.drop_length] at this
      exact wpS_nil this
    · have : t + 1 = l.length := by
        by_cases h : t + 1 < l.length
        · have := hall (t + 1) (by simpa using h)
          rw [ht4 (t + 1) (by omega) h] at this; cases this
        · omega
      rw [this, List.drop_length] at hw
      exact wpS_nil hw
end
theorem pk {A : Value → World → Prop} {B : Value → World → Prop} {C : Value → World → Prop} {D : Value → World → Prop} (hK : ∀ v W, A v W → B v W → (false = true → C v W) → D v W) : ∀ v W, A v W → B v W → D v W := fun v W a b => hK v W a b (fun h => by cases h)
end Go.Proofs.YtnecgoahdkfbeaaDoor.Eng
