/- Regions that draw their order and append, late, onto a slice of the call's own. -/
import Derived.Test.YtnecgoahdkfbeaaDoorEngD
namespace Go.Proofs.YtnecgoahdkfbeaaDoor.Eng
open Go Go.RowKit Go.Proofs.YtnecgoahdkfbeaaDoor.Cop Go.Proofs.YtnecgoahdkfbeaaDoor.Oct
set_option linter.unusedVariables false
set_option linter.unusedSimpArgs false
section
variable {r : Option (Option Nat)} {P : Program} {Q : Exit → Act → World → Prop} {N : Nat} {ds : List Deferred}
theorem someInj2 {α : Type} {a b : α} (h : some a = some b) : a = b := Option.some.inj h
/-- Does j wait for i, at most f + 1 edges away? -/
def ancB (ops : Array Oper) : Nat → Nat → Nat → Bool
  | 0, j, i => (preds ops j).contains i
  | f + 1, j, i => (preds ops j).contains i || (preds ops j).any fun k => ancB ops f k i
theorem anc_closed {ops : Array Oper} {D : Nat → Bool} (hc : Closed ops D) : ∀ (f : Nat) {j i : Nat}, D j = true → ancB ops f j i = true → D i = true
  | 0, j, i, hj, h => preds_closed hc hj (by simpa [ancB] using h)
  | f + 1, j, i, hj, h => by
    simp only [ancB, Bool.or_eq_true, List.contains_iff_mem, List.any_eq_true] at h
    rcases h with h | ⟨k, hk, h⟩
    · exact preds_closed hc hj h
    · exact anc_closed hc f (preds_closed hc hj hk) h
def tailC (ops : Array Oper) (m : Nat) : Bool := (List.range ops.size).all fun j => Nat.blt j m || (List.range j).all fun i => ancB ops 6 j i
theorem tail_allC {ops : Array Oper} {m : Nat} (ht : tailC ops m = true) {D : Nat → Bool} (hc : Closed ops D) {j : Nat} {o : Oper} (ho : ops[j]? = some o) (hm : m ≤ j) (hd : ∀ e ∈ o.after, Region.binds .any e = true → D e.on = true) : ∀ i, i < j → D i = true := by
  intro i hi
  have hj : j < ops.size := (Array.getElem?_eq_some_iff.1 ho).1
  have h1 := List.all_eq_true.1 ht j (List.mem_range.2 hj)
  have h2 : Nat.blt j m = false := by
    cases e : Nat.blt j m with
    | false => rfl
    | true => have := Nat.le_of_ble_eq_true e; omega
  rw [h2, Bool.false_or] at h1
  have h3 := List.all_eq_true.1 h1 i (List.mem_range.2 hi)
  have hp : ∀ k, k ∈ preds ops j → D k = true := by
    intro k hk
    unfold preds at hk
    rw [ho] at hk
    obtain ⟨e, he, rfl⟩ := List.mem_map.1 hk
    obtain ⟨he1, he2⟩ := List.mem_filter.1 he
    exact hd e (Array.mem_toList_iff.1 he1) he2
  simp only [ancB, Bool.or_eq_true, List.contains_iff_mem] at h3
  rcases h3 with h | h
  · exact hp i h
  · obtain ⟨k, hk, h⟩ := List.any_eq_true.1 h
    exact anc_closed hc 5 (hp k hk) (by simpa only [ancB, Bool.or_eq_true, List.contains_iff_mem] using h)
def floatA (ops : Array Oper) (m s : Nat) (X : List Nat) : Bool := (List.range m).all fun i => Nat.beq i s || X.contains i || ancB ops 6 s i
/-- The late operation's step. -/
def StepA (r : Option (Option Nat)) (P : Program) (ops : Array Oper) (Q : Exit → Act → World → Prop) (N : Nat) (ds : List Deferred) (FL : List (Value → World → Prop)) (PS : (Nat → Value) → World → World → Prop) (m : Nat) (u : Nat → Value) (w : World) (s : Nat) (o : Oper) : Prop :=
  ∀ (u' : Nat → Value) (V : World), Below w.heap.size w V → Keeps ops m u u' → Deps ops FL m u' V (preds ops s) → ∀ K : Act → World → Prop, (∀ v W, PS (upd u' (dstOf ops s) v) V W → K (act N (upd u' (dstOf ops s) v) ds) W) → DS r P ops Q N ds o u' V K
def StepsA (r : Option (Option Nat)) (P : Program) (ops : Array Oper) (Q : Exit → Act → World → Prop) (N : Nat) (ds : List Deferred) (FL : List (Value → World → Prop)) (PS : (Nat → Value) → World → World → Prop) (s m : Nat) (u : Nat → Value) (w : World) : Nat → List Oper → Prop
  | _, [] => True
  | i, o :: l => ((Nat.beq i s = true → StepA r P ops Q N ds FL PS m u w i o) ∧ (Nat.beq i s = false → StepD r P ops Q N ds FL m u w i o)) ∧ StepsA r P ops Q N ds FL PS s m u w (i + 1) l
/-- A floating operation's step, behind the late one. -/
def StepsF (r : Option (Option Nat)) (P : Program) (ops : Array Oper) (Q : Exit → Act → World → Prop) (N : Nat) (ds : List Deferred) (FL : List (Value → World → Prop)) (PS : (Nat → Value) → World → World → Prop) (m : Nat) (u : Nat → Value) (w : World) : List Nat → Prop
  | [] => True
  | x :: X => ((∀ u' v V W, PS u' V W → PS (upd u' (dstOf ops x) v) V W) ∧ ∀ o, ops[x]? = some o → ∀ (u' : Nat → Value) (V W : World), Below w.heap.size w V → PS u' V W → Keeps ops m u u' → Deps ops FL m u' V (preds ops x) → ∀ K : Act → World → Prop, (∀ v, fat FL x v V → K (act N (upd u' (dstOf ops x) v) ds) W) → DS r P ops Q N ds o u' W K) ∧ StepsF r P ops Q N ds FL PS m u w X
theorem stepsA_at {ops : Array Oper} {FL : List (Value → World → Prop)} {PS : (Nat → Value) → World → World → Prop} {s m : Nat} {u : Nat → Value} {w : World} : ∀ {l : List Oper} {i : Nat}, StepsA r P ops Q N ds FL PS s m u w i l → ∀ {j : Nat} {o : Oper}, l[j]? = some o → (Nat.beq (i + j) s = true → StepA r P ops Q N ds FL PS m u w (i + j) o) ∧ (Nat.beq (i + j) s = false → StepD r P ops Q N ds FL m u w (i + j) o)
  | [], _, _, j, o, h => by simp at h
  | o' :: l, i, hs, 0, o, h => by simp at h; subst h; exact hs.1
  | o' :: l, i, hs, j + 1, o, h => by
    have := stepsA_at (l := l) (i := i + 1) hs.2 (j := j) (o := o) (by simpa using h)
    rwa [show i + 1 + j = i + (j + 1) by omega] at this
theorem stepsF_at {ops : Array Oper} {FL : List (Value → World → Prop)} {PS : (Nat → Value) → World → World → Prop} {m : Nat} {u : Nat → Value} {w : World} : ∀ {X : List Nat}, StepsF r P ops Q N ds FL PS m u w X → ∀ x ∈ X, (∀ u' v V W, PS u' V W → PS (upd u' (dstOf ops x) v) V W) ∧ ∀ o, ops[x]? = some o → ∀ (u' : Nat → Value) (V W : World), Below w.heap.size w V → PS u' V W → Keeps ops m u u' → Deps ops FL m u' V (preds ops x) → ∀ K : Act → World → Prop, (∀ v, fat FL x v V → K (act N (upd u' (dstOf ops x) v) ds) W) → DS r P ops Q N ds o u' W K
  | [], _, x, hx => by cases hx
  | y :: X, h, x, hx => by
    rcases List.mem_cons.1 hx with rfl | hx
    · exact h.1
    · exact stepsF_at h.2 x hx
/-- A region that draws its order: its first m operations come up in whatever order; one of them, s, is late: behind it only those of X still come up. -/
theorem drawA {id : Nat} {l : List Oper} {u : Nat → Value} {w : World} (m s : Nat) (X : List Nat) (FL : List (Value → World → Prop)) (PS : (Nat → Value) → World → World → Prop) (hm : P.follows .mixedOrders = true) (hac : acyc l.toArray = true) (hh : headB l.toArray m = true) (ht : tailC l.toArray m = true) (hfl : floatA l.toArray m s X = true) (hsm : Nat.blt s m = true) (hlen : FL.length = m) (hle : Nat.ble m l.length = true)
    (hst : Stab FL) (hT : fat FL s = fun _ _ => True) (hstep : StepsA r P l.toArray Q N ds FL PS s m u w 0 (l.take m)) (hX : StepsF r P l.toArray Q N ds FL PS m u w X)
    (hfin : ∀ u' V W, Below w.heap.size w V → Keeps l.toArray m u u' → Facs l.toArray u' V 0 FL → PS u' V W → wpS r P l.toArray Q (l.drop m) (act N u' ds) W) :
    wpC r P (.region id l.toArray true) Q (act N u ds) w := by
  have hml : m ≤ l.length := Nat.le_of_ble_eq_true hle
  have hsm : s < m := Nat.le_of_ble_eq_true hsm
  have hT2 : ∀ v W, fat FL s v W := fun v W => by rw [hT]; trivial
  have hFall : ∀ {D : Nat → Bool} {u' : Nat → Value} {W : World}, (∀ j, j < m → D j = true → j ≠ s → fat FL j (u' (dstOf l.toArray j)) W) → ∀ j, j < m → D j = true → fat FL j (u' (dstOf l.toArray j)) W := by
    intro D u' W h j hj hD
    by_cases e : j = s
    · subst e; exact hT2 _ _
    · exact h j hj hD e
  refine region_invC (fun D a W => (∀ j, m ≤ j → j < l.length → D j = false) ∧ (∃ u', a = act N u' ds ∧ Keeps l.toArray m u u' ∧
      ((D s = false ∧ Below w.heap.size w W ∧ ∀ j, j < m → D j = true → j ≠ s → fat FL j (u' (dstOf l.toArray j)) W) ∨
       (D s = true ∧ ∃ V, Below w.heap.size w V ∧ PS u' V W ∧ ∀ j, j < m → D j = true → j ≠ s → fat FL j (u' (dstOf l.toArray j)) V))) ∨
      ∃ t, m ≤ t ∧ t < l.length ∧ (∀ j, j ≤ t → D j = true) ∧ (∀ j, t < j → j < l.length → D j = false) ∧ wpS r P l.toArray Q (l.drop (t + 1)) a W) hm hac ?_ ?_ ?_
  · exact .inl ⟨fun _ _ _ => rfl, u, rfl, fun _ _ => rfl, .inl ⟨rfl, (Below.refl _ _).drew, fun _ _ h => by cases h⟩⟩
  · intro i o ho D a W hdi hdep hcl hI K hK
    have hi : i < l.length := by simpa using (Array.getElem?_eq_some_iff.1 ho).1
    have hol : l[i]? = some o := by simpa using ho
    have hdp : ∀ k ∈ preds l.toArray i, D k = true := by
      intro j hj
      unfold preds at hj
      rw [ho] at hj
      obtain ⟨e, he, rfl⟩ := List.mem_map.1 hj
      obtain ⟨he1, he2⟩ := List.mem_filter.1 he
      exact hdep e (Array.mem_toList_iff.1 he1) he2
    by_cases him : i < m
    · rcases hI with ⟨htl, u', rfl, hk, hAB⟩ | ⟨t, ht1, ht2, ht3, _⟩
      · have hs := stepsA_at hstep (j := i) (o := o) (by rw [List.getElem?_take, if_pos him]; exact hol)
        rw [Nat.zero_add] at hs
        have htl' : ∀ j, m ≤ j → j < l.length → Cop.upd D i j = false := fun j h1 h2 => by rw [Cop.upd_other D i j (by omega)]; exact htl j h1 h2
        have hkeep : ∀ v, Keeps l.toArray m u (Eng.upd u' (dstOf l.toArray i) v) := by
          intro v k hk2
          have hne : k ≠ dstOf l.toArray i := by
            intro e
            subst e
            have := List.any_eq_false.1 hk2 i (List.mem_range.2 him)
            simp at this
          rw [Eng.upd_other u' _ v k hne]
          exact hk k hk2
        by_cases his : i = s
        · subst his
          rcases hAB with ⟨_, hb, hF⟩ | ⟨hDs, _⟩
          · refine (hs.1 (Nat.beq_refl i) u' W hb hk (deps_of _ fun j hj hjm => hFall hF j hjm (hdp j hj)) K (fun v W' hps => hK _ _ (.inl ⟨htl', _, rfl, hkeep v, .inr ⟨Cop.upd_same D i, W, hb, hps, fun j hj hD hji => ?_⟩⟩))).out
            rw [Cop.upd_other D i j hji] at hD
            rw [Eng.upd_other u' _ v _ (headB_ne hh hj him hji)]
            exact hF j hj hD hji
          · rw [hdi] at hDs; cases hDs
        · have hbe : Nat.beq i s = false := by
            cases e : Nat.beq i s with
            | false => rfl
            | true => exact absurd (Nat.eq_of_beq_eq_true e) his
          have hFu : ∀ {v : Value} {W1 : World}, fat FL i v W1 → (∀ j, j < m → D j = true → j ≠ s → fat FL j (u' (dstOf l.toArray j)) W1) → ∀ j, j < m → Cop.upd D i j = true → j ≠ s → fat FL j (Eng.upd u' (dstOf l.toArray i) v (dstOf l.toArray j)) W1 := by
            intro v W1 hf hF j hj hD hjs
            by_cases hji : j = i
            · subst hji; rw [Eng.upd_same]; exact hf
            · rw [Cop.upd_other D i j hji] at hD
              rw [Eng.upd_other u' _ v _ (headB_ne hh hj him hji)]
              exact hF j hj hD hjs
          rcases hAB with ⟨hDs, hb, hF⟩ | ⟨hDs, V, hb, hps, hF⟩
          · refine (hs.2 hbe u' W hb hk (deps_of _ fun j hj hjm => hFall hF j hjm (hdp j hj)) K (fun v W' hb' hf => hK _ _ (.inl ⟨htl', _, rfl, hkeep v, .inl ⟨by rw [Cop.upd_other D i s (fun e => his e.symm)]; exact hDs, hb.trans (hb'.mono hb.size), hFu hf fun j hj hD hjs => fat_stab hst j _ _ _ (hF j hj hD hjs) hb'⟩⟩))).out
          · have hxm : i ∈ X := by
              have := List.all_eq_true.1 hfl i (List.mem_range.2 him)
              rw [hbe, Bool.false_or] at this
              rcases Bool.or_eq_true_iff.1 this with q | q
              · simpa using q
              · have := anc_closed hcl 6 hDs q
                rw [hdi] at this; cases this
            obtain ⟨hx1, hx2⟩ := stepsF_at hX i hxm
            refine (hx2 o ho u' V W hb hps hk (deps_of _ fun j hj hjm => hFall hF j hjm (hdp j hj)) K (fun v hf => ?_)).out
            exact hK _ _ (.inl ⟨htl', _, rfl, hkeep v, .inr ⟨by rw [Cop.upd_other D i s (fun e => his e.symm)]; exact hDs, V, hb, hx1 u' v V W hps, hFu hf hF⟩⟩)
      · have := ht3 i (by omega)
        rw [hdi] at this; cases this
    · have him : m ≤ i := by omega
      have hall := tail_allC ht hcl ho him hdep
      have hw : wpS r P l.toArray Q (o :: l.drop (i + 1)) a W := by
        have hd : l.drop i = o :: l.drop (i + 1) := by
          rw [List.drop_eq_getElem_cons hi]
          congr 1
          rw [List.getElem?_eq_getElem hi] at hol
          exact Option.some.inj hol
        rcases hI with ⟨htl, u', rfl, hk, hAB⟩ | ⟨t, ht1, ht2, ht3, ht4, hw⟩
        · have him2 : i = m := by
            by_cases h : m < i
            · have := hall m h
              rw [htl m (Nat.le_refl _) (by omega)] at this; cases this
            · omega
          subst him2
          rw [← hd]
          rcases hAB with ⟨hDs, _⟩ | ⟨hDs, V, hb, hps, hF⟩
          · rw [hall s hsm] at hDs; cases hDs
          · exact hfin u' V W hb hk (facs_of FL 0 fun j hj => by rw [Nat.zero_add]; exact hFall hF j (by omega) (hall j (by omega))) hps
        · have hit : i = t + 1 := by
            by_cases h : i ≤ t
            · have := ht3 i h; rw [hdi] at this; cases this
            · by_cases h2 : t + 1 < i
              · have := hall (t + 1) h2
                rw [ht4 (t + 1) (by omega) (by omega)] at this; cases this
              · omega
          subst hit
          rw [← hd]; exact hw
      have hup : ∀ j, j ≤ i → Cop.upd D i j = true := by
        intro j hj
        by_cases hji : j = i
        · subst hji; exact Cop.upd_same D j
        · rw [Cop.upd_other D i j hji]; exact hall j (by omega)
      have hdown : ∀ j, i < j → j < l.length → Cop.upd D i j = false := by
        intro j h1 h2
        rw [Cop.upd_other D i j (by omega)]
        rcases hI with ⟨htl, _⟩ | ⟨t, ht1, ht2, ht3, ht4, _⟩
        · exact htl j (by omega) h2
        · by_cases h : t < j
          · exact ht4 j h h2
          · have := ht3 i (by omega); rw [hdi] at this; cases this
      have hK2 : ∀ a' W', wpS r P l.toArray Q (l.drop (i + 1)) a' W' → K a' W' := fun a' W' h => hK _ _ (.inr ⟨i, him, hi, hup, hdown, h⟩)
      replace hw := wpS_open hw
      split at hw
      · rename_i hwd
        rw [if_pos hwd]
        exact opC_mono hK2 hw
      · rename_i hwd
        rw [if_neg hwd]
        exact hK2 _ _ hw
  · intro D a W hall hI
    rcases hI with ⟨htl, u', rfl, hk, hAB⟩ | ⟨t, ht1, ht2, ht3, ht4, hw⟩
    · have hmn : m = l.length := by
        by_cases h : m < l.length
        · have := hall m (by simpa using h)
          rw [htl m (Nat.le_refl _) h] at this; cases this
        · omega
      rcases hAB with ⟨hDs, _⟩ | ⟨hDs, V, hb, hps, hF⟩
      · rw [hall s (by simp; omega)] at hDs; cases hDs
      · have := hfin u' V W hb hk (facs_of FL 0 fun j hj => by rw [Nat.zero_add]; exact hFall hF j (by omega) (hall j (by simp; omega))) hps
        rw [hmn, List.drop_length] at this
        exact wpS_nil this
    · have : t + 1 = l.length := by
        by_cases h : t + 1 < l.length
        · have := hall (t + 1) (by simpa using h)
          rw [ht4 (t + 1) (by omega) h] at this; cases this
        · omega
      rw [this, List.drop_length] at hw
      exact wpS_nil hw
end
section
variable {r : Option (Option Nat)} {ops : Array Oper} {o : Oper} {Q : Exit → Act → World → Prop} {N : Nat} {u : Nat → Value} {dl : List Deferred} {w : World}
/-- append onto bytes of the call's own, as a step of a region that draws. -/
theorem dapO (hg : Region.wanted o (yielded ops (fr N u)) = true) {d : Nat} (hd : o.dst = some d) {s x : Operand} (ho : o.op = .call { callee := .builtin .append, args := #[s, x], argTypes := #[48, 48] })
    {base : Nat} {v : Value} {xs : List UInt8} (hs : opv N u s = v) (hown : Own base w v xs) {y : Value} {ys : List UInt8} (hx : opv N u x = y) (hr : Rd w y ys) (hl : xs.length + ys.length ≤ 140737488355328) (hbase : base ≤ w.heap.size) {K : Act → World → Prop}
    (h : ∀ v' w', Own base w' v' (xs ++ ys) → w.grownBy w' v.ownBlock → K (act N (upd u d v') dl) w') : DS r Tryd.prog ops Q N dl o u w K := by
  obtain ⟨i, hi, hz, hi1, hi2⟩ := info_parts info8
  obtain ⟨ao, cap, rfl, q1, q2, q3, q4⟩ := hr
  have fin : ∀ v' w', w'.ownsRow base 5 1 v' (xs.length + ys.length) (bcs xs ++ bcs ys) → Own base w' v' (xs ++ ys) := fun v' w' h1 => by unfold Own; rw [List.length_append, bcs_append]; exact h1
  cases ao with
  | some ad =>
    obtain ⟨v', w', hr, g1, g2, _⟩ := run_append_own (P := Tryd.prog) w base 48 o.type 5 i (.int .u8 0) 1 1 Tryd.underlying48 hi hz hi1 hi2 rfl (by decide) v xs.length (bcs xs) hown ad ys.length cap (bcs ys) (by simp [bcs_length]) (q4 ad rfl) (bcs_one ys) (by unfold maxLen; omega) (by omega) hbase
    refine dv hg hd (v := v') (W' := w') ?_ (h v' w' (fin v' w' g1) g2)
    unfold execOp
    simp only [ho, resolve, invoke, builtin, Sem.run_bind, Sem.run_pure, Result.andThen_ok, List.map_toArray, List.map_cons, List.map_nil, hs, hx, hr]
  | none =>
    obtain ⟨e1, e2⟩ := q3 rfl
    have hm : ys = [] := List.map_eq_nil_iff.1 e2
    subst hm e1
    have hrun := run_append_owned_none (P := Tryd.prog) w base 48 o.type 5 i 1 Tryd.underlying48 hi v xs.length (bcs xs) hown
    refine dv hg hd (v := v) (W' := w) ?_ (h v w (by rw [List.append_nil]; exact hown) (World.grownBy.refl _ _))
    unfold execOp
    simp only [ho, resolve, invoke, builtin, Sem.run_bind, Sem.run_pure, Result.andThen_ok, List.map_toArray, List.map_cons, List.map_nil, hs, hx]
    simp [hrun]
end
end Go.Proofs.YtnecgoahdkfbeaaDoor.Eng
