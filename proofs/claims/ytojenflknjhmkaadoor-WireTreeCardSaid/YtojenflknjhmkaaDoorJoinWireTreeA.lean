/- Several texts in one: TreP; EngL; EngF; Roo; Rot; Thf; Inc; WirE; WirP. -/
import Derived.Test.YtojenflknjhmkaaDoorVfyP
import Derived.Laws.Tables
import Derived.Test.YtojenflknjhmkaaDoorEngT
import Derived.RangeFuncNested
import Derived.RangeFuncBound
import Derived.Test.YtojenflknjhmkaaDoorVfy
import Derived.Test.YtojenflknjhmkaaDoorVerW
import Derived.Test.YtojenflknjhmkaaDoorWirV
import Derived.Test.YtojenflknjhmkaaDoorDsl
import Derived.Test.YtojenflknjhmkaaDoorPut
import Derived.Test.YtojenflknjhmkaaDoorOctD
import Derived.Test.YtojenflknjhmkaaDoorWirD
section
namespace Go.Proofs.YtojenflknjhmkaaDoor.TreP
open Go Go.Proofs.YtojenflknjhmkaaDoor.Cop Go.Proofs.YtojenflknjhmkaaDoor.Tre Go.Proofs.YtojenflknjhmkaaDoor.Ver Go.Proofs.YtojenflknjhmkaaDoor.Vfy Go.Proofs.YtojenflknjhmkaaDoor.Oct Go.Proofs.YtojenflknjhmkaaDoor.Dsl
set_option linter.unusedVariables false
/-- The root of leaves. -/
def RG : Nat → List (List UInt8) → List UInt8
  | 0, l => l.getD 0 []
  | f + 1, l => if l.length ≤ 1 then l.getD 0 [] else nodeS (RG f (l.take (H l.length))) (RG f (l.drop (H l.length)))
def R (l : List (List UInt8)) : List UInt8 := RG 49 l
theorem RG_fuel : ∀ (k f g : Nat) (l : List (List UInt8)), l.length ≤ 281474976710656 → l.length ≤ 2 ^ k → k ≤ f → k ≤ g → RG f l = RG g l
  | 0, f, g, l, hn, hk, hf, hg => by
    have h1 : l.length ≤ 1 := by simpa using hk
    cases f <;> cases g <;> simp [RG, h1]
  | k + 1, 0, g, l, hn, hk, hf, hg => by omega
  | k + 1, f + 1, 0, l, hn, hk, hf, hg => by omega
  | k + 1, f + 1, g + 1, l, hn, hk, hf, hg => by
    unfold RG
    by_cases h1 : l.length ≤ 1
    · simp [h1]
    · rw [if_neg h1, if_neg h1]
      obtain ⟨q1, q2, q3⟩ := H_spec l.length (by omega) hn
      have q4 := H_le l.length k (by omega) hn hk
      rw [RG_fuel k f g (l.take (H l.length)) (by rw [List.length_take]; omega) (by rw [List.length_take]; omega) (by omega) (by omega), RG_fuel k f g (l.drop (H l.length)) (by rw [List.length_drop]; omega) (by rw [List.length_drop]; omega) (by omega) (by omega)]
theorem R_one (l : List (List UInt8)) (h : l.length ≤ 1) : R l = l.getD 0 [] := by simp [R, RG, h]
theorem R_step (l : List (List UInt8)) (h : 2 ≤ l.length) (h' : l.length ≤ 281474976710656) : R l = nodeS (R (l.take (H l.length))) (R (l.drop (H l.length))) := by
  obtain ⟨q1, q2, q3⟩ := H_spec l.length h h'
  have q4 := H_le l.length 47 h h' (by omega)
  unfold R
  rw [show (49 : Nat) = 48 + 1 from rfl, RG, if_neg (by omega), RG_fuel 47 48 49 (l.take (H l.length)) (by rw [List.length_take]; omega) (by rw [List.length_take]; omega) (by omega) (by omega), RG_fuel 47 48 49 (l.drop (H l.length)) (by rw [List.length_drop]; omega) (by rw [List.length_drop]; omega) (by omega) (by omega)]
theorem getD0_len {l : List (List UInt8)} (h : All32 l) (h0 : 0 < l.length) : (l.getD 0 []).length = 32 := by
  rw [List.getD_eq_getElem?_getD, List.getElem?_eq_getElem h0]; exact h _ (List.getElem_mem h0)
theorem R_len (l : List (List UInt8)) (h : All32 l) (h0 : 0 < l.length) : (R l).length = 32 := by
  unfold R
  rw [show (49 : Nat) = 48 + 1 from rfl, RG]
  split
  · exact getD0_len h h0
  · exact nodeS_len _ _
/-- Two parts of which the first is the greatest power of two below the whole. -/
theorem R_app (a b : List (List UInt8)) (j : Nat) (ha : a.length = 2 ^ j) (h0 : 0 < b.length) (hb : b.length ≤ 2 ^ j) (hm : (a ++ b).length ≤ 281474976710656) : R (a ++ b) = nodeS (R a) (R b) := by
  have hp : 0 < 2 ^ j := Nat.pos_of_ne_zero (by simp)
  have hl : (a ++ b).length = 2 ^ j + b.length := by rw [List.length_append, ha]
  have hH : 2 ^ j = H (a ++ b).length := H_uniq _ j (by omega) hm (by omega) (by omega)
  rw [R_step _ (by omega) hm, ← hH, ← ha, List.take_left, List.drop_left]
/-! ### Peaks -/
def push : List (Nat × List UInt8) → Nat × List UInt8 → List (Nat × List UInt8)
  | [], p => [p]
  | q :: r, p => if q.1 = p.1 then push r (2 * p.1, nodeS q.2 p.2) else p :: q :: r
theorem push_eq (q p : Nat × List UInt8) (r : List (Nat × List UInt8)) (h : q.1 = p.1) : push (q :: r) p = push r (2 * p.1, nodeS q.2 p.2) := by rw [push, if_pos h]
theorem push_ne (q p : Nat × List UInt8) (r : List (Nat × List UInt8)) (h : q.1 ≠ p.1) : push (q :: r) p = p :: q :: r := by rw [push, if_neg h]
/-- The peaks behind leaves, the last one first. -/
def pks (l : List (List UInt8)) : List (Nat × List UInt8) := l.foldl (fun s d => push s (1, d)) []
theorem pks_snoc (l : List (List UInt8)) (d : List UInt8) : pks (l ++ [d]) = push (pks l) (1, d) := by unfold pks; rw [List.foldl_append]; rfl
def PK : List (Nat × List UInt8) → List (List UInt8) → Nat → Prop
  | [], l, _ => l = []
  | q :: r, l, k => ∃ j a b, k ≤ j ∧ q.1 = 2 ^ j ∧ l = a ++ b ∧ b.length = 2 ^ j ∧ q.2 = R b ∧ PK r a (j + 1)
theorem PK.mono : ∀ {s : List (Nat × List UInt8)} {l : List (List UInt8)} {k k' : Nat}, PK s l k → k' ≤ k → PK s l k'
  | [], l, k, k', h, _ => h
  | q :: r, l, k, k', ⟨j, a, b, h1, h2⟩, hk => ⟨j, a, b, by omega, h2⟩
theorem PK.push : ∀ (s : List (Nat × List UInt8)) (a b : List (List UInt8)) (j : Nat), PK s a j → b.length = 2 ^ j → (a ++ b).length ≤ 281474976710656 → PK (push s (2 ^ j, R b)) (a ++ b) 0
  | [], a, b, j, h, hb, _ => ⟨j, a, b, Nat.zero_le _, rfl, rfl, hb, rfl, h⟩
  | q :: r, a, b, j, ⟨j', a', b', h1, h2, h3, h4, h5, h6⟩, hb, hm => by
    by_cases hj : j' = j
    · subst hj
      rw [push_eq _ _ _ (by rw [h2])]
      have e : (2 * 2 ^ j', nodeS q.2 (R b)) = (2 ^ (j' + 1), R (b' ++ b)) := by
        rw [h5, R_app b' b j' h4 (by rw [hb]; exact Nat.pos_of_ne_zero (by simp)) (by omega) (by rw [h3] at hm; simp only [List.length_append] at hm ⊢; omega)]
        congr 1
        rw [Nat.pow_succ]; omega
      show PK (Go.Proofs.YtojenflknjhmkaaDoor.TreP.push r (2 * 2 ^ j', nodeS q.2 (R b))) _ _
      rw [e, h3, List.append_assoc]
      exact PK.push r a' (b' ++ b) (j' + 1) h6 (by rw [List.length_append, h4, hb, Nat.pow_succ]; omega) (by rw [h3] at hm; simpa [List.append_assoc] using hm)
    · have hne : (2 : Nat) ^ j' ≠ 2 ^ j := fun e => (Nat.lt_or_gt_of_ne hj).elim (fun c => Nat.ne_of_lt (Nat.pow_lt_pow_right (by decide) c) e) (fun c => Nat.ne_of_gt (Nat.pow_lt_pow_right (by decide) c) e)
      rw [push_ne _ _ _ (by rw [h2]; exact hne)]
      exact ⟨j, a, b, Nat.zero_le _, rfl, rfl, hb, rfl, j', a', b', by omega, h2, h3, h4, h5, h6⟩
theorem pks_PK (l : List (List UInt8)) (hm : l.length ≤ 281474976710656) : ∀ k, k ≤ l.length → PK (pks (l.take k)) (l.take k) 0
  | 0, _ => rfl
  | k + 1, hk => by
    have ih := pks_PK l hm k (by omega)
    rw [take_snoc l k (by omega), pks_snoc]
    have := PK.push _ _ [l[k]] 0 (ih.mono (Nat.le_refl _)) rfl (by rw [List.length_append, List.length_take]; simp; omega)
    rwa [R_one [l[k]] (by simp)] at this
def foldP (d : List UInt8) (r : List (Nat × List UInt8)) : List UInt8 := r.foldl (fun d p => nodeS p.2 d) d
theorem PK.fold : ∀ (r : List (Nat × List UInt8)) (a b : List (List UInt8)) (j : Nat), PK r a j → 0 < b.length → b.length ≤ 2 ^ j → (a ++ b).length ≤ 281474976710656 → foldP (R b) r = R (a ++ b)
  | [], a, b, j, h, _, _, _ => by
    have h : a = [] := h
    subst h
    show R b = R ([] ++ b)
    rw [List.nil_append]
  | q :: r, a, b, j, ⟨j', a', b', h1, h2, h3, h4, h5, h6⟩, h0, hb, hm => by
    have hp := Nat.pow_le_pow_right (show 0 < 2 by decide) h1
    show foldP (nodeS q.2 (R b)) r = _
    rw [h3] at hm
    rw [h5, ← R_app b' b j' h4 h0 (by omega) (by simp only [List.length_append] at hm ⊢; omega), h3, List.append_assoc]
    exact PK.fold r a' (b' ++ b) (j' + 1) h6 (by rw [List.length_append]; omega) (by rw [List.length_append, Nat.pow_succ]; omega) (by simpa [List.append_assoc] using hm)
theorem foldP_len : ∀ (r : List (Nat × List UInt8)) (d : List UInt8), d.length = 32 → (foldP d r).length = 32
  | [], d, h => h
  | q :: r, d, h => foldP_len r _ (nodeS_len _ _)
/-- The peaks' fold is the root. -/
theorem pks_root (l : List (List UInt8)) (h0 : 0 < l.length) (hm : l.length ≤ 281474976710656) : ∃ q r, pks l = q :: r ∧ foldP q.2 r = R l := by
  have h := pks_PK l hm l.length (Nat.le_refl _)
  rw [List.take_length] at h
  cases hp : pks l with
  | nil => rw [hp] at h; have h : l = [] := h; subst h; simp at h0
  | cons q r =>
    rw [hp] at h
    obtain ⟨j, a, b, h1, h2, h3, h4, h5, h6⟩ := h
    refine ⟨q, r, rfl, ?_⟩
    rw [h5, h3]
    exact PK.fold r a b (j + 1) h6 (by rw [h4]; exact Nat.pos_of_ne_zero (by simp)) (by rw [h4, Nat.pow_succ]; omega) (by rw [← h3]; exact hm)
/-- Peaks: their sizes, and that their digests are digests. -/
def PSm (m : Nat) (s : List (Nat × List UInt8)) : Prop := (∀ p ∈ s, 1 ≤ p.1 ∧ p.2.length = 32) ∧ (s.map (·.1)).sum ≤ m
theorem PSm.push : ∀ (s : List (Nat × List UInt8)) (p : Nat × List UInt8) (m : Nat), PSm m s → 1 ≤ p.1 → p.2.length = 32 → PSm (m + p.1) (push s p)
  | [], p, m, h, h1, h2 => ⟨fun q hq => by simp [Go.Proofs.YtojenflknjhmkaaDoor.TreP.push] at hq; subst hq; exact ⟨h1, h2⟩, by simp [Go.Proofs.YtojenflknjhmkaaDoor.TreP.push]⟩
  | q :: r, p, m, ⟨h, hs⟩, h1, h2 => by
    simp only [List.map_cons, List.sum_cons] at hs
    by_cases hq : q.1 = p.1
    · rw [push_eq _ _ _ hq]
      have := PSm.push r (2 * p.1, nodeS q.2 p.2) (m - q.1) ⟨fun x hx => h x (List.mem_cons_of_mem _ hx), by omega⟩ (by show 1 ≤ 2 * p.1; omega) (nodeS_len _ _)
      exact ⟨this.1, Nat.le_trans this.2 (by show m - q.1 + 2 * p.1 ≤ m + p.1; omega)⟩
    · rw [push_ne _ _ _ hq]
      refine ⟨fun x hx => ?_, by simp only [List.map_cons, List.sum_cons]; omega⟩
      rcases List.mem_cons.1 hx with rfl | hx
      · exact ⟨h1, h2⟩
      · exact h x hx
theorem PSm.len {s : List (Nat × List UInt8)} {m : Nat} (h : PSm m s) : s.length ≤ m := by
  obtain ⟨h1, h2⟩ := h
  have : ∀ (s : List (Nat × List UInt8)), (∀ p ∈ s, 1 ≤ p.1 ∧ p.2.length = 32) → s.length ≤ (s.map (·.1)).sum := by
    intro s
    induction s with
    | nil => simp
    | cons q r ih =>
      intro h
      have := ih fun x hx => h x (List.mem_cons_of_mem _ hx)
      have := (h q (List.mem_cons_self ..)).1
      simp only [List.length_cons, List.map_cons, List.sum_cons]; omega
  have := this s h1; omega
/-! ### Paths -/
def pathG : Nat → List (List UInt8) → Nat → List (List UInt8)
  | 0, _, _ => []
  | f + 1, l, i => if l.length ≤ 1 then [] else if i < H l.length then pathG f (l.take (H l.length)) i ++ [R (l.drop (H l.length))] else pathG f (l.drop (H l.length)) (i - H l.length) ++ [R (l.take (H l.length))]
def path (l : List (List UInt8)) (i : Nat) : List (List UInt8) := pathG 49 l i
theorem pathG_fuel : ∀ (k f g : Nat) (l : List (List UInt8)) (i : Nat), l.length ≤ 281474976710656 → l.length ≤ 2 ^ k → k ≤ f → k ≤ g → pathG f l i = pathG g l i
  | 0, f, g, l, i, hn, hk, hf, hg => by
    have h1 : l.length ≤ 1 := by simpa using hk
    cases f <;> cases g <;> simp [pathG, h1]
  | k + 1, 0, g, l, i, hn, hk, hf, hg => by omega
  | k + 1, f + 1, 0, l, i, hn, hk, hf, hg => by omega
  | k + 1, f + 1, g + 1, l, i, hn, hk, hf, hg => by
    unfold pathG
    by_cases h1 : l.length ≤ 1
    · simp [h1]
    · rw [if_neg h1, if_neg h1]
      obtain ⟨q1, q2, q3⟩ := H_spec l.length (by omega) hn
      have q4 := H_le l.length k (by omega) hn hk
      rw [pathG_fuel k f g (l.take (H l.length)) _ (by rw [List.length_take]; omega) (by rw [List.length_take]; omega) (by omega) (by omega), pathG_fuel k f g (l.drop (H l.length)) _ (by rw [List.length_drop]; omega) (by rw [List.length_drop]; omega) (by omega) (by omega)]
theorem path_one (l : List (List UInt8)) (i : Nat) (h : l.length ≤ 1) : path l i = [] := by simp [path, pathG, h]
theorem path_step (l : List (List UInt8)) (i : Nat) (h : 2 ≤ l.length) (h' : l.length ≤ 281474976710656) : path l i = if i < H l.length then path (l.take (H l.length)) i ++ [R (l.drop (H l.length))] else path (l.drop (H l.length)) (i - H l.length) ++ [R (l.take (H l.length))] := by
  obtain ⟨q1, q2, q3⟩ := H_spec l.length h h'
  have q4 := H_le l.length 47 h h' (by omega)
  unfold path
  rw [show (49 : Nat) = 48 + 1 from rfl, pathG, if_neg (by omega), pathG_fuel 47 48 49 (l.take (H l.length)) _ (by rw [List.length_take]; omega) (by rw [List.length_take]; omega) (by omega) (by omega), pathG_fuel 47 48 49 (l.drop (H l.length)) _ (by rw [List.length_drop]; omega) (by rw [List.length_drop]; omega) (by omega) (by omega)]
theorem all32_take {l : List (List UInt8)} (h : All32 l) (k : Nat) : All32 (l.take k) := fun d hd => h d (List.mem_of_mem_take hd)
theorem all32_drop {l : List (List UInt8)} (h : All32 l) (k : Nat) : All32 (l.drop k) := fun d hd => h d (List.mem_of_mem_drop hd)
theorem all32_snoc {l : List (List UInt8)} {d : List UInt8} (h : All32 l) (hd : d.length = 32) : All32 (l ++ [d]) := by
  intro x hx
  rcases List.mem_append.1 hx with hx | hx
  · exact h x hx
  · simp at hx; subst hx; exact hd
theorem path_all : ∀ (k : Nat) (l : List (List UInt8)) (i : Nat), l.length ≤ k → l.length ≤ 281474976710656 → All32 l → All32 (path l i) ∧ (path l i).length = (wayL i l.length).length ∧ (i < l.length → climb (l.getD i []) (wayL i l.length).reverse (path l i) = R l)
  | k, l, i, hk, hm, h32 => by
    by_cases h1 : l.length ≤ 1
    · rw [path_one l i h1, R_one l h1]
      have : wayL i l.length = [] := by
        rcases Nat.lt_or_ge 0 l.length with c | c
        · rw [show l.length = 1 by omega]; exact wayL_one i
        · rw [show l.length = 0 by omega]; simp [wayL, wayG]
      rw [this]
      refine ⟨(by intro d hd; cases hd), rfl, fun hi => ?_⟩
      rw [show i = 0 by omega]; rfl
    · obtain ⟨q1, q2, q3⟩ := H_spec l.length (by omega) hm
      have e1 : (l.take (H l.length)).length = H l.length := by rw [List.length_take]; omega
      have e2 : (l.drop (H l.length)).length = l.length - H l.length := by rw [List.length_drop]
      rw [path_step l i (by omega) hm, wayL_step i l.length (by omega) hm, R_step l (by omega) hm]
      cases k with
      | zero => omega
      | succ k =>
      split
      · rename_i hi
        obtain ⟨i1, i2, i3⟩ := path_all k (l.take (H l.length)) i (by omega) (by omega) (all32_take h32 _)
        rw [e1] at i2 i3
        refine ⟨all32_snoc i1 (R_len _ (all32_drop h32 _) (by omega)), by simp [i2], fun _ => ?_⟩
        rw [List.reverse_cons, climb_snoc _ _ _ _ _ (by simp [i2])]
        have e3 : l.getD i [] = (l.take (H l.length)).getD i [] := by
          rw [List.getD_eq_getElem?_getD, List.getD_eq_getElem?_getD, List.getElem?_take, if_pos hi]
        rw [e3, i3 hi]; rfl
      · rename_i hi
        obtain ⟨i1, i2, i3⟩ := path_all k (l.drop (H l.length)) (i - H l.length) (by omega) (by omega) (all32_drop h32 _)
        rw [e2] at i2 i3
        refine ⟨all32_snoc i1 (R_len _ (all32_take h32 _) (by omega)), by simp [i2], fun hl => ?_⟩
        rw [List.reverse_cons, climb_snoc _ _ _ _ _ (by simp [i2])]
        have e3 : l.getD i [] = (l.drop (H l.length)).getD (i - H l.length) [] := by
          rw [List.getD_eq_getElem?_getD, List.getD_eq_getElem?_getD, List.getElem?_drop]
          congr 2; omega
        rw [e3, i3 (by omega)]; rfl
/-! ### From one tree to another -/
def consG : Nat → List (List UInt8) → Nat → Bool → List (List UInt8)
  | 0, _, _, _ => []
  | f + 1, l, m, wh => if m = l.length then if wh then [] else [R l] else if m ≤ H l.length then consG f (l.take (H l.length)) m wh ++ [R (l.drop (H l.length))] else consG f (l.drop (H l.length)) (m - H l.length) false ++ [R (l.take (H l.length))]
def consL (l : List (List UInt8)) (m : Nat) (wh : Bool) : List (List UInt8) := consG 49 l m wh
theorem consG_fuel : ∀ (k f g : Nat) (l : List (List UInt8)) (m : Nat) (wh : Bool), l.length ≤ 281474976710656 → 1 ≤ m → m ≤ l.length → l.length ≤ 2 ^ k → k + 1 ≤ f → k + 1 ≤ g → consG f l m wh = consG g l m wh
  | k, 0, g, l, m, wh, hn, hm, hml, hk, hf, hg => by omega
  | k, f + 1, 0, l, m, wh, hn, hm, hml, hk, hf, hg => by omega
  | k, f + 1, g + 1, l, m, wh, hn, hm, hml, hk, hf, hg => by
    unfold consG
    by_cases h1 : m = l.length
    · simp [h1]
    · rw [if_neg h1, if_neg h1]
      obtain ⟨q1, q2, q3⟩ := H_spec l.length (by omega) hn
      cases k with
      | zero => simp at hk; omega
      | succ k =>
      have q4 := H_le l.length k (by omega) hn hk
      by_cases h2 : m ≤ H l.length
      · rw [if_pos h2, if_pos h2, consG_fuel k f g (l.take (H l.length)) m wh (by rw [List.length_take]; omega) hm (by rw [List.length_take]; omega) (by rw [List.length_take]; omega) (by omega) (by omega)]
      · rw [if_neg h2, if_neg h2, consG_fuel k f g (l.drop (H l.length)) (m - H l.length) false (by rw [List.length_drop]; omega) (by omega) (by rw [List.length_drop]; omega) (by rw [List.length_drop]; omega) (by omega) (by omega)]
theorem consL_one (l : List (List UInt8)) (wh : Bool) : consL l l.length wh = if wh then [] else [R l] := by simp [consL, consG]
theorem consL_step (l : List (List UInt8)) (m : Nat) (wh : Bool) (h1 : 1 ≤ m) (h : m < l.length) (h' : l.length ≤ 281474976710656) : consL l m wh = if m ≤ H l.length then consL (l.take (H l.length)) m wh ++ [R (l.drop (H l.length))] else consL (l.drop (H l.length)) (m - H l.length) false ++ [R (l.take (H l.length))] := by
  obtain ⟨q1, q2, q3⟩ := H_spec l.length (by omega) h'
  have q4 := H_le l.length 47 (by omega) h' (by omega)
  unfold consL
  rw [show (49 : Nat) = 48 + 1 from rfl, consG, if_neg (by omega)]
  by_cases h2 : m ≤ H l.length
  · rw [if_pos h2, if_pos h2, consG_fuel 47 48 49 (l.take (H l.length)) m wh (by rw [List.length_take]; omega) h1 (by rw [List.length_take]; omega) (by rw [List.length_take]; omega) (by omega) (by omega)]
  · rw [if_neg h2, if_neg h2, consG_fuel 47 48 49 (l.drop (H l.length)) (m - H l.length) false (by rw [List.length_drop]; omega) (by omega) (by rw [List.length_drop]; omega) (by rw [List.length_drop]; omega) (by omega) (by omega)]
theorem tail_snoc (xs : List (List UInt8)) (x : List UInt8) (h : 0 < xs.length) : (xs ++ [x]).tail = xs.tail ++ [x] ∧ (xs ++ [x]).getD 0 [] = xs.getD 0 [] := by
  cases xs with
  | nil => simp at h
  | cons y ys => exact ⟨rfl, rfl⟩
theorem two_snoc (d : List UInt8) (l : List Bool) (t wh : Bool) (xs : List (List UInt8)) (x : List UInt8) (h : xs.length = l.length + if wh then 0 else 1) : two d (t :: l) wh (xs ++ [x]) = step2 (two d l wh xs) (t, x) := by
  unfold two
  cases wh with
  | true => simp only [if_true, List.reverse_cons]; exact climb2_snoc _ _ _ _ _ (by simpa using h.symm)
  | false =>
    have hx : 0 < xs.length := by simp at h; omega
    obtain ⟨e1, e2⟩ := tail_snoc xs x hx
    simp only [Bool.false_eq_true, if_false, List.reverse_cons]
    rw [e1, e2]
    exact climb2_snoc _ _ _ _ _ (by simp at h ⊢; omega)
theorem cons_all : ∀ (k : Nat) (l : List (List UInt8)) (m : Nat) (wh : Bool), l.length ≤ k → l.length ≤ 281474976710656 → All32 l → 1 ≤ m → m ≤ l.length →
    All32 (consL l m wh) ∧ (consL l m wh).length = (stL m l.length).1.length + (if wh && (stL m l.length).2 then 0 else 1) ∧ (∀ d, ((wh && (stL m l.length).2) = true → d = R (l.take m)) → two d (stL m l.length).1 (wh && (stL m l.length).2) (consL l m wh) = (R (l.take m), R l))
  | k, l, m, wh, hk, hn, h32, h1, hml => by
    by_cases h2 : m = l.length
    · subst h2
      rw [consL_one, stL_one]
      cases wh with
      | true => exact ⟨(by intro d hd; cases hd), rfl, fun d hd => (by rw [hd rfl, List.take_length]; rfl)⟩
      | false =>
        refine ⟨?_, rfl, fun d hd => by rw [List.take_length]; rfl⟩
        intro d hd
        simp at hd; subst hd; exact R_len l h32 (by omega)
    · obtain ⟨q1, q2, q3⟩ := H_spec l.length (by omega) hn
      have e1 : (l.take (H l.length)).length = H l.length := by rw [List.length_take]; omega
      have e2 : (l.drop (H l.length)).length = l.length - H l.length := by rw [List.length_drop]
      rw [consL_step l m wh h1 (by omega) hn, stL_step m l.length h1 (by omega) hn]
      cases k with
      | zero => omega
      | succ k =>
      by_cases h3 : m ≤ H l.length
      · rw [if_pos h3, if_pos h3]
        obtain ⟨i1, i2, i3⟩ := cons_all k (l.take (H l.length)) m wh (by omega) (by omega) (all32_take h32 _) h1 (by omega)
        rw [e1] at i2 i3
        have e3 : (l.take (H l.length)).take m = l.take m := by rw [List.take_take, Nat.min_eq_left h3]
        rw [e3] at i3
        refine ⟨all32_snoc i1 (R_len _ (all32_drop h32 _) (by omega)), by simp [i2]; omega, fun d hd => ?_⟩
        rw [two_snoc _ _ _ _ _ _ i2, i3 d hd, R_step l (by omega) hn]; rfl
      · rw [if_neg h3, if_neg h3]
        obtain ⟨i1, i2, i3⟩ := cons_all k (l.drop (H l.length)) (m - H l.length) false (by omega) (by omega) (all32_drop h32 _) (by omega) (by omega)
        rw [e2] at i2 i3
        simp only [Bool.false_and, Bool.and_false] at i2 i3 ⊢
        refine ⟨all32_snoc i1 (R_len _ (all32_take h32 _) (by omega)), by simp [i2], fun d hd => ?_⟩
        rw [two_snoc _ _ _ _ _ _ i2, i3 d (by intro e; cases e)]
        have e3 : l.take m = l.take (H l.length) ++ (l.drop (H l.length)).take (m - H l.length) := by
          rw [← List.take_append_drop (H l.length) (l.take m), List.take_take, Nat.min_eq_left (by omega), List.drop_take]
        have hp : ∃ j, H l.length = 2 ^ j := ⟨_, rfl⟩
        obtain ⟨j, hj⟩ := hp
        have e4 : R (l.take m) = nodeS (R (l.take (H l.length))) (R ((l.drop (H l.length)).take (m - H l.length))) := by
          rw [e3]
          exact R_app _ _ j (by rw [e1, hj]) (by rw [List.length_take]; omega) (by rw [List.length_take]; omega) (by simp only [List.length_append, List.length_take, List.length_drop]; omega)
        rw [e4, R_step l (by omega) hn]; rfl
end Go.Proofs.YtojenflknjhmkaaDoor.TreP
end

section
namespace Go.Proofs.YtojenflknjhmkaaDoor.Eng
open Go Go.RowKit Go.Proofs.YtojenflknjhmkaaDoor.Cop Go.Proofs.YtojenflknjhmkaaDoor.Oct Go.Proofs.YtojenflknjhmkaaDoor.Dsl
set_option linter.unusedVariables false
set_option linter.unusedSimpArgs false
/-- A slice whose elements are told by 'enc': sz cells each. -/
def RowL {α : Type} (sz : Nat) (enc : α → List Value) (w : World) (v : Value) (l : List α) : Prop := Row w v l.length (l.flatMap enc) ∧ ∀ a ∈ l, (enc a).length = sz
/-- .. of the call's own. -/
def OwnL {α : Type} (T : TypeId) (sz : Nat) (enc : α → List Value) (base : Nat) (w : World) (v : Value) (l : List α) : Prop := w.ownsRow base T sz v l.length (l.flatMap enc) ∧ ∀ a ∈ l, (enc a).length = sz
section
variable {α : Type} {T : TypeId} {sz : Nat} {enc : α → List Value} {base : Nat} {w w' : World} {v : Value} {l : List α}
theorem OwnL.rl (h : OwnL T sz enc base w v l) : RowL sz enc w v l := ⟨Row.of_own h.1, h.2⟩
theorem OwnL.row (h : OwnL T sz enc base w v l) : Row w v l.length (l.flatMap enc) := Row.of_own h.1
theorem OwnL.below (h : OwnL T sz enc base w v l) (hb : Below w.heap.size w w') : OwnL T sz enc base w' v l := ⟨own_below h.1 hb, h.2⟩
theorem OwnL.kept (h : OwnL T sz enc base w v l) {row : Option Nat} (hg : w.grownBy w' row) (hne : v.ownBlock = none ∨ v.ownBlock ≠ row) : OwnL T sz enc base w' v l := ⟨World.ownsRow.kept h.1 hg hne, h.2⟩
theorem OwnL.grL {E : List Nat} (h : OwnL T sz enc base w v l) (hg : GrL E w w') (hn : ∀ g, v.ownBlock = some g → g ∉ E) : OwnL T sz enc base w' v l := ⟨own_grL h.1 hg hn, h.2⟩
theorem OwnL.mono {b2 : Nat} (h : OwnL T sz enc base w v l) (hb : b2 ≤ base) : OwnL T sz enc b2 w v l := ⟨own_mono h.1 hb, h.2⟩
theorem OwnL.nil (T : TypeId) (sz : Nat) (enc : α → List Value) (base : Nat) (w : World) : OwnL T sz enc base w (.slice none 0 0) [] := ⟨World.ownsRow_nil _ _ _ _, by intro d h; cases h⟩
theorem RowL.below (h : RowL sz enc w v l) (hb : Below w.heap.size w w') : RowL sz enc w' v l := ⟨h.1.below hb, h.2⟩
theorem RowL.nil (sz : Nat) (enc : α → List Value) (w : World) : RowL sz enc w (.slice none 0 0) [] := ⟨Row.nil w, by intro d h; cases h⟩
theorem flat_len (h : ∀ a ∈ l, (enc a).length = sz) : (l.flatMap enc).length = l.length * sz := by
  induction l with
  | nil => simp
  | cons a l ih =>
    rw [List.flatMap_cons, List.length_append, h a (by simp), ih fun x hx => h x (by simp [hx]), List.length_cons, Nat.add_mul, Nat.one_mul, Nat.add_comm]
theorem flat_at (h : ∀ a ∈ l, (enc a).length = sz) (d : α) {j k : Nat} (hj : j < l.length) (hk : k < sz) : (l.flatMap enc)[j * sz + k]? = (enc (l.getD j d))[k]? := by
  induction l generalizing j with
  | nil => simp at hj
  | cons a l ih =>
    have ha := h a (by simp)
    rw [List.flatMap_cons]
    cases j with
    | zero =>
      rw [Nat.zero_mul, Nat.zero_add, List.getElem?_append_left (by omega)]
      rfl
    | succ j =>
      rw [List.getElem?_append_right (by rw [ha, Nat.add_mul, Nat.one_mul]; omega), ha, show (j + 1) * sz + k - sz = j * sz + k by rw [Nat.add_mul, Nat.one_mul]; omega, ih (fun x hx => h x (by simp [hx])) (by simpa using hj)]
      rfl
theorem enc_len (h : ∀ a ∈ l, (enc a).length = sz) (d : α) {j : Nat} (hj : j < l.length) : (enc (l.getD j d)).length = sz := by
  rw [List.getD_eq_getElem?_getD, List.getElem?_eq_getElem hj]
  exact h _ (List.getElem_mem hj)
theorem addr_add2 (a : Addr) (x y : Nat) : (a.add x).add y = a.add (x + y) := by unfold Addr.add; by_cases ha : x = 0 <;> by_cases hb : y = 0 <;> simp [ha, hb, Nat.add_assoc]
theorem len_cons {cs : List Value} {n : Nat} (v : Value) (h : cs.length = n) : (v :: cs).length = n + 1 := by rw [List.length_cons, h]
theorem len_dg {d : List UInt8} (h : d.length = 32) : (bcs d).length = 32 := (bcs_length _).trans h
theorem len_app {a b : List Value} {n m : Nat} (ha : a.length = n) (hb : b.length = m) : (a ++ b).length = n + m := by rw [List.length_append, ha, hb]
theorem getD_mem {α : Type} {l : List α} {d : α} {j : Nat} (h : j < l.length) : l.getD j d ∈ l := by
  rw [List.getD_eq_getElem?_getD, List.getElem?_eq_getElem h]; exact List.getElem_mem h
/-- A cell of an element. -/
theorem rl_cell (h : RowL sz enc w v l) (d : α) {j k : Nat} {u : Value} (hj : j < l.length) (hu : (enc (l.getD j d))[k]? = some u) : w.cell? (((sAddr v).add (j * sz)).add k) = some u := by
  have hk : k < sz := by
    have := (List.getElem?_eq_some_iff.1 hu).1
    rw [enc_len h.2 d hj] at this; exact this
  rw [addr_add2]
  exact Row.addr h.1 (by rw [flat_at h.2 d hj hk]; exact hu)
theorem rl_cell0 (h : RowL sz enc w v l) (d : α) {j : Nat} {u : Value} (hj : j < l.length) (hu : (enc (l.getD j d))[0]? = some u) : w.cell? ((sAddr v).add (j * sz)) = some u := by
  have := rl_cell h d hj hu
  rw [addr_add2, Nat.add_zero] at this; exact this
/-- The whole element. -/
theorem rl_elem (h : RowL sz enc w v l) (d : α) {j : Nat} (hj : j < l.length) : ∀ k u, (enc (l.getD j d))[k]? = some u → w.cell? (((sAddr v).add (j * sz)).add k) = some u := fun k u hu => rl_cell h d hj hu
/-- A part of the element, from one cell on. -/
theorem rl_part (h : RowL sz enc w v l) (d : α) {j off : Nat} {pre mid post : List Value} (hj : j < l.length) (he : enc (l.getD j d) = pre ++ (mid ++ post)) (ho : pre.length = off) : ∀ k u, mid[k]? = some u → w.cell? ((((sAddr v).add (j * sz)).add off).add k) = some u := by
  intro k u hu
  rw [addr_add2 _ off k]
  refine rl_cell h d hj ?_
  rw [he, List.getElem?_append_right (by omega), ho, Nat.add_sub_cancel_left, List.getElem?_append_left (List.getElem?_eq_some_iff.1 hu).1]
  exact hu
/-- .. of a block. -/
theorem blk_part {g off : Nat} {t : TypeId} {pre mid post : List Value} (h : Blk w g t (pre ++ (mid ++ post))) (ho : pre.length = off) : ∀ k u, mid[k]? = some u → w.cell? ((⟨g, off, none⟩ : Addr).add k) = some u := by
  intro k u hu
  have e : (⟨g, off, none⟩ : Addr).add k = ⟨g, off + k, none⟩ := by unfold Addr.add; by_cases hk : k = 0 <;> simp [hk]
  rw [e, h.cell, List.getElem?_append_right (by omega), ho, Nat.add_sub_cancel_left, List.getElem?_append_left (List.getElem?_eq_some_iff.1 hu).1]
  exact hu
theorem rl_tail (h : RowL sz enc w v l) (d : α) {j off : Nat} {pre mid : List Value} (hj : j < l.length) (he : enc (l.getD j d) = pre ++ mid) (ho : pre.length = off) : ∀ k u, mid[k]? = some u → w.cell? ((((sAddr v).add (j * sz)).add off).add k) = some u :=
  rl_part h d (post := []) hj (by rw [he, List.append_nil]) ho
theorem blk_tail {g off : Nat} {t : TypeId} {pre mid : List Value} (h : Blk w g t (pre ++ mid)) (ho : pre.length = off) : ∀ k u, mid[k]? = some u → w.cell? ((⟨g, off, none⟩ : Addr).add k) = some u :=
  blk_part (post := []) (by rw [List.append_nil]; exact h) ho
theorem blk_head {g : Nat} {t : TypeId} {mid post : List Value} (h : Blk w g t (mid ++ post)) : ∀ k u, mid[k]? = some u → w.cell? ((⟨g, 0, none⟩ : Addr).add k) = some u :=
  blk_part (pre := []) h rfl
theorem one_app {a b : List Value} (ha : ∀ u ∈ a, u.oneCell' = true) (hb : ∀ u ∈ b, u.oneCell' = true) : ∀ u ∈ a ++ b, u.oneCell' = true := fun u hu => (List.mem_append.1 hu).elim (ha u) (hb u)
theorem flat_take (h : ∀ a ∈ l, (enc a).length = sz) (n : Nat) : (l.flatMap enc).take (n * sz) = (l.take n).flatMap enc ∧ (l.flatMap enc).drop (n * sz) = (l.drop n).flatMap enc := by
  induction l generalizing n with
  | nil => simp
  | cons a l ih =>
    have ha := h a (by simp)
    have ih' := ih fun x hx => h x (by simp [hx])
    cases n with
    | zero => simp
    | succ n =>
      rw [List.flatMap_cons, List.take_append, List.drop_append, ha, show (n + 1) * sz - sz = n * sz by rw [Nat.add_mul, Nat.one_mul]; omega, List.take_of_length_le (by rw [ha, Nat.add_mul, Nat.one_mul]; omega), List.drop_eq_nil_of_le (by rw [ha, Nat.add_mul, Nat.one_mul]; omega), (ih' n).1, (ih' n).2]
      exact ⟨rfl, rfl⟩
theorem rl_cut (h : RowL sz enc w v l) {a b : Nat} (h1 : a ≤ b) (h2 : b ≤ l.length) : RowL sz enc w (sCut v a b sz) ((l.drop a).take (b - a)) := by
  have := Row.cut h.1 (sz := sz) (flat_len h.2) h1 h2
  have e : ((l.drop a).take (b - a)).length = b - a := by rw [List.length_take, List.length_drop]; omega
  refine ⟨?_, fun d hd => h.2 d (List.mem_of_mem_drop (List.mem_of_mem_take hd))⟩
  rw [e]
  rw [(flat_take h.2 a).2, (flat_take (l := l.drop a) (fun d hd => h.2 d (List.mem_of_mem_drop hd)) (b - a)).1] at this
  exact this
theorem rl_pre (h : RowL sz enc w v l) {n : Nat} (hn : n ≤ l.length) : RowL sz enc w (sCut v 0 n sz) (l.take n) := by
  have := rl_cut h (Nat.zero_le n) hn
  simpa using this
/-- The beginning of a slice of the call's own is its own too. -/
theorem ol_pre (h : OwnL T sz enc base w v l) {n : Nat} (hn : n ≤ l.length) : OwnL T sz enc base w (sCut v 0 n sz) (l.take n) ∧ (sCut v 0 n sz).ownBlock = v.ownBlock := by
  have hl : (l.take n).length = n := by rw [List.length_take]; omega
  obtain ⟨⟨h1, h3⟩, h2⟩ := h
  have h2' : ∀ a ∈ l.take n, (enc a).length = sz := fun d hd => h2 d (List.mem_of_mem_take hd)
  have hlen : ((l.take n).flatMap enc).length = (l.take n).length * sz := flat_len h2'
  rcases h3 with ⟨rfl, h0⟩ | ⟨g, cap, cur, rfl, hb, hg, hn2, hc, hcs, hx⟩
  · have : l = [] := List.eq_nil_of_length_eq_zero h0
    subst this
    have hn0 : n = 0 := by simpa using hn
    subst hn0
    exact ⟨⟨⟨hlen, .inl ⟨rfl, rfl⟩⟩, h2'⟩, rfl⟩
  · have e : sCut (.slice (some ⟨g, 0, none⟩) l.length cap) 0 n sz = .slice (some ⟨g, 0, none⟩) n cap := by
      unfold sCut
      simp only [Nat.zero_mul, Nat.sub_zero]
      split
      · rfl
      · simp [Addr.add]
    rw [e]
    refine ⟨⟨⟨hlen, .inr ⟨g, cap, cur, by rw [hl], hb, hg, by omega, hc, hcs, ?_⟩⟩, h2'⟩, rfl⟩
    rw [hl, ← (flat_take h2 n).1, ← hx, List.take_take, Nat.min_eq_left (Nat.mul_le_mul_right sz hn)]
end
section
variable {r : Option (Option Nat)} {P : Program} {ops : Array Oper} {rest : List Oper} {o : Oper} {Q : Exit → Act → World → Prop} {N : Nat} {u : Nat → Value} {dl : List Deferred} {w : World}
/-- append onto a slice of the call's own. -/
theorem apL {α : Type} {enc : α → List Value} (hg : Region.wanted o (yielded ops (fr N u)) = true) {d : Nat} (hd : o.dst = some d) {s x : Operand} {t e : TypeId} (ho : o.op = .call { callee := .builtin .append, args := #[s, x], argTypes := #[t, t] }) {z : Value} {sz bytes : Nat} (ht : P.underlying t = some (.slice e)) (hinfo : (P.info? e).map (fun i => (i.zero, i.size, i.bytes)) = some (some z, sz, bytes)) (hz : z.cells.size = sz) (hsz : 0 < sz)
    {base : Nat} {v : Value} {l : List α} (hs : opv N u s = v) (hown : OwnL e sz enc base w v l) {y : Value} {m : List α} (hx : opv N u x = y) (hr : RowL sz enc w y m) (h1 : ∀ a ∈ m, ∀ c ∈ enc a, c.oneCell' = true) (hlen : l.length + m.length ≤ maxLen) (hl : (l.length + m.length) * bytes ≤ 140737488355328) (hbase : base ≤ w.heap.size)
    (h : ∀ v' w', OwnL e sz enc base w' v' (l ++ m) → w.grownBy w' v.ownBlock → wpS r P ops Q rest (act N (upd u d v') dl) w') : wpS r P ops Q (o :: rest) (act N u dl) w :=
  ap hg hd ho ht hinfo hz hsz hs hown.1 hx hr.1 (flat_len hr.2) (fun c hc => by obtain ⟨a, ha, hc⟩ := List.mem_flatMap.1 hc; exact h1 a ha c hc) hlen hl hbase
    (fun v' w' g1 g2 => h v' w' ⟨by rw [List.length_append, List.flatMap_append]; exact g1, fun a ha => (List.mem_append.1 ha).elim (hown.2 a) (hr.2 a)⟩ g2)
end
/-- A literal of one element. -/
theorem rl_one {α : Type} {enc : α → List Value} {w : World} {g sz : Nat} {t : TypeId} {a : α} (h : Blk w g t (enc a)) (hl : (enc a).length = sz) : RowL sz enc w (.slice (some ⟨g, 0, none⟩) 1 1) [a] :=
  ⟨by rw [show ([a] : List α).flatMap enc = enc a by simp]; exact h.row 1 (Nat.le_of_ble_eq_true rfl), by intro x hx; simp at hx; subst hx; exact hl⟩
/-! ### Structs that bear digests -/
theorem fold_splice (xs : List Value) : ∀ (off : Nat) (cs : Array Value) (k : Nat), off + xs.length ≤ cs.size → ((xs.zipIdx k).foldl (fun cs (p : Value × Nat) => cs.setIfInBounds (off + (p.2 - k)) p.1) cs).toList = cs.toList.take off ++ xs ++ cs.toList.drop (off + xs.length) := by
  induction xs with
  | nil => intro off cs k h; simp
  | cons x xs ih =>
    intro off cs k h
    simp only [List.length_cons] at h
    rw [List.zipIdx_cons, List.foldl_cons]
    have e : (List.foldl (fun (cs : Array Value) (p : Value × Nat) => cs.setIfInBounds (off + (p.2 - k)) p.1) (cs.setIfInBounds (off + (k - k)) x) (xs.zipIdx (k + 1))) = List.foldl (fun (cs : Array Value) (p : Value × Nat) => cs.setIfInBounds (off + 1 + (p.2 - (k + 1))) p.1) (cs.setIfInBounds off x) (xs.zipIdx (k + 1)) := by
      rw [Nat.sub_self, Nat.add_zero]
      have hm : ∀ (l : List (Value × Nat)) (cs : Array Value), (∀ p ∈ l, k + 1 ≤ p.2) → List.foldl (fun (cs : Array Value) (p : Value × Nat) => cs.setIfInBounds (off + (p.2 - k)) p.1) cs l = List.foldl (fun (cs : Array Value) (p : Value × Nat) => cs.setIfInBounds (off + 1 + (p.2 - (k + 1))) p.1) cs l := by
        intro l
        induction l with
        | nil => intro cs _; rfl
        | cons p l ih2 =>
          intro cs hp
          rw [List.foldl_cons, List.foldl_cons, show off + (p.2 - k) = off + 1 + (p.2 - (k + 1)) by have := hp p (by simp); omega]
          exact ih2 _ fun q hq => hp q (by simp [hq])
      exact hm _ _ fun p hp => (List.mem_zipIdx hp).1
    rw [e, ih (off + 1) _ (k + 1) (by simp; omega)]
    simp only [Array.toList_setIfInBounds]
    have hlt : off < cs.toList.length := by simp; omega
    rw [List.set_eq_take_append_cons_drop, if_pos hlt, List.take_append, List.drop_append]
    have l1 : (cs.toList.take off).length = off := by rw [List.length_take]; omega
    rw [l1, List.take_of_length_le (l := cs.toList.take off) (by rw [l1]; omega), @List.drop_eq_nil_of_le _ (cs.toList.take off) (off + 1 + xs.length) (by rw [l1]; omega), show off + 1 - off = 1 by omega, show off + 1 + xs.length - off = xs.length + 1 by omega]
    simp [List.drop_drop, Nat.add_comm, Nat.add_left_comm, Nat.add_assoc]
theorem fill_step {place : Nat → Option (Nat × Nat)} {cells cells' : Array Value} {i : Nat} {v : Value} {rest : List (Nat × Value)} {off size : Nat} (hp : place i = some (off, size)) {cs : List Value} (hv : v.cells.toList = cs) (hs : cs.length = size) (hle : off + size ≤ cells.size) (hc : cells.toList.take off ++ cs ++ cells.toList.drop (off + size) = cells'.toList) :
    Instr.fill place cells ((i, v) :: rest) = Instr.fill place cells' rest := by
  subst hv
  have hs' : v.cells.size = size := by simpa using hs
  conv => lhs; unfold Instr.fill
  rw [hp]
  simp only [hs', ne_eq, not_true, false_or, decide_false, Bool.false_or, decide_eq_true_eq]
  rw [if_neg (by omega)]
  congr 1
  apply Array.toList_inj.1
  rw [← hc]
  have := fold_splice v.cells.toList off cells 0 (by simp; omega)
  simp only [Nat.sub_zero, Array.length_toList, hs'] at this
  rw [← this]
  congr 1
  have e : v.cells.zipIdx = (v.cells.toList.zipIdx 0).toArray := by
    apply Array.toList_inj.1; simp
  rw [e]
  simp
end Go.Proofs.YtojenflknjhmkaaDoor.Eng
end

section
namespace Go.Proofs.YtojenflknjhmkaaDoor.Eng
open Go Go.RowKit Go.Proofs.YtojenflknjhmkaaDoor.Cop Go.Proofs.YtojenflknjhmkaaDoor.Dsl
set_option linter.unusedVariables false
set_option linter.unusedSimpArgs false
theorem fr_fold (N : Nat) : ∀ (l : List (Nat × Value)) (u : Nat → Value), l.foldl (fun (t : Array Value) (p : Nat × Value) => t.setIfInBounds p.1 p.2) (fr N u) = fr N (l.foldl (fun u p => upd u p.1 p.2) u)
  | [], u => rfl
  | p :: l, u => by
    rw [List.foldl_cons, List.foldl_cons, fr_set]
    exact fr_fold N l _
/-- The frame in which a round begins. -/
def updZ (u : Nat → Value) (ps : Array Tmp) (vs : Array Value) : Nat → Value := (ps.zip vs).toList.foldl (fun u p => upd u p.1 p.2) u
/-- What the loop's own book-keeping leaves alone. -/
def Turn (B : Nat) (A : World) (row : Option Nat) : Prop := ∀ r, row = some r → B ≤ r ∧ ∃ o : Obj, A.heap[r]? = some o ∧ o.isCells = false
theorem blkF {A B : World} {g : Nat} {t : TypeId} {cs : List Value} {base : Nat} {row : Option Nat} (h : Blk A g t cs) (hg : A.grownBy B row) (hr : Turn base A row) : Blk B g t cs :=
  h.grown hg (fun e => by
    obtain ⟨_, o, ho, hc⟩ := hr g e.symm
    have h' : A.heap[g]? = _ := h
    rw [h'] at ho
    cases ho; cases hc)
theorem belF {A B w0 : World} {b base : Nat} {row : Option Nat} (h : Below b w0 A) (hg : A.grownBy B row) (hr : Turn base A row) (hb : b ≤ base) (hs : b ≤ A.heap.size) : Below b w0 B :=
  h.grown hg hs (fun k e => Nat.le_trans hb (hr k e).1)
theorem keeps_below {B : Nat} {A C : World} (h : Below A.heap.size A C) : KeepsFrom B A C := ⟨h.size, fun k o _ hk _ => (h.block k (Array.getElem?_eq_some_iff.1 hk).1).trans hk⟩
theorem keeps_grown {B g : Nat} {A C : World} {t : TypeId} {cs : List Value} (hk : Blk A g t cs) (h : A.grownBy C (some g)) : KeepsFrom B A C :=
  ⟨h.size, fun k o _ ho hc => (h.block k (Array.getElem?_eq_some_iff.1 ho).1 (fun e => by
    injection e with e; subst e
    have h' : A.heap[k]? = _ := hk
    rw [h'] at ho; cases ho; cases hc)).trans ho⟩
/-- The block for deferred calls. -/
def Dfr (w : World) (D : Nat) : Prop := w.heap[D]? = some (.deferred (some []))
theorem Dfr.lt {w : World} {D : Nat} (h : Dfr w D) : D < w.heap.size := (Array.getElem?_eq_some_iff.1 h).1
theorem Dfr.below {w w' : World} {D : Nat} (h : Dfr w D) (hb : Below w.heap.size w w') : Dfr w' D := (hb.block D h.lt).trans h
theorem Dfr.grown {w w' : World} {D : Nat} (h : Dfr w D) {row : Option Nat} (hg : w.grownBy w' row) (hne : some D ≠ row) : Dfr w' D := (hg.block D h.lt hne).trans h
theorem Dfr.grL {E : List Nat} {w w' : World} {D : Nat} (h : Dfr w D) (hg : GrL E w w') (hn : D ∉ E) : Dfr w' D := (hg.block D h.lt hn).trans h
/-- Two blocks stand as they stood: what an iterator reads between two rounds. -/
def Two (x y : Nat) (A B : World) : Prop := B.heap[x]? = A.heap[x]? ∧ B.heap[y]? = A.heap[y]?
theorem row_block {w w' : World} {v : Value} {n : Nat} {cs : List Value} (h : Row w v n cs) (hb : ∀ a m c, v = .slice (some a) m c → w'.heap[a.block]? = w.heap[a.block]?) : Row w' v n cs := by
  obtain ⟨ao, cap, rfl, h1, h2, h3, h4⟩ := h
  refine ⟨ao, cap, rfl, h1, h2, h3, fun ad e j u hj => ?_⟩
  have hbk : (ad.add j).block = ad.block := by unfold Addr.add; split <;> rfl
  exact (World.cell?_of_block (by rw [hbk]; exact hb ad n cap (by rw [e]))).trans (h4 ad e j u hj)
theorem Two.refl (x y : Nat) (A : World) : Two x y A A := ⟨rfl, rfl⟩
theorem Two.trans {x y : Nat} {A B C : World} (h : Two x y A B) (k : Two x y B C) : Two x y A C := ⟨k.1.trans h.1, k.2.trans h.2⟩
theorem Two.below {x y : Nat} {A B : World} (h : Below A.heap.size A B) (hx : x < A.heap.size) (hy : y < A.heap.size) : Two x y A B := ⟨h.block x hx, h.block y hy⟩
theorem Two.grown {x y : Nat} {A B : World} {g : Nat} (h : A.grownBy B (some g)) (hx : x < A.heap.size) (hy : y < A.heap.size) (nx : x ≠ g) (ny : y ≠ g) : Two x y A B := ⟨h.block x hx (fun e => nx (Option.some.inj e)), h.block y hy (fun e => ny (Option.some.inj e))⟩
theorem Two.put {x y : Nat} {W : World} {l : Nat} {o' : Obj} (hx : x ≠ l) (hy : y ≠ l) : Two x y W (W.putObj l o') := ⟨World.putObj_heap_other hx, World.putObj_heap_other hy⟩
section
variable {P : Program} {Q : Exit → Act → World → Prop} {N : Nat} {u : Nat → Value} {ds : List Deferred} {w : World}
/-- A range over a function. -/
theorem rfun {α : Type} {g : Operand} {ps : Array Tmp} {assign body : Code} {gf : Nat} {lb : Array Value} (hg : opv N u g = .func (.func gf) #[] lb) (he : Entr P gf)
    {encs : α → Array Value} {Kp : World → World → Prop} {S Sp : List α → Prop} {M : Nat} {w0 : World} (hseq : SeqStopsK Fence.wide 8 P gf lb encs Kp S Sp M w0)
    (hKt : ∀ {A B C : World}, Kp A B → Kp B C → Kp A C) (hKb : ∀ (W : World) (l : Nat) (o o' : Obj), w.heap.size ≤ l → W.heap[l]? = some o → o.isCells = false → o.isWalk = false → Kp W (W.putObj l o')) (hb0 : Below w0.heap.size w0 w) (hps : ∀ x, (encs x).size = ps.size)
    (I : List α → World → Prop) (Ix : Code → List α → World → Prop) (Ux : α → (Nat → Value) → World → Prop) (hI : OwnFrom w.heap.size I) (hIx : ∀ c, OwnFrom w.heap.size (Ix c)) (hUx : ∀ x u', OwnFrom w.heap.size (fun (_ : Unit) W => Ux x u' W)) (h0 : I [] w)
    (hassign : ∀ (l : Nat) (pre : List α) (x : α) (W : World) (K : Act → World → Prop), I pre W → (∀ u' W', KeepsFrom w.heap.size W W' → Kp W W' → I pre W' → Ux x u' W' → K (act N u' []) W') → wpC (some (some l)) P assign (Exit.then K (fun _ _ _ => False)) (act N (updZ u ps (encs x)) []) W)
    (hbody : ∀ (l : Nat) (pre : List α) (x : α) (u' : Nat → Value) (W : World), I pre W → Ux x u' W → pre.length < M → wpC (some (some l)) P body (ownPostG w.heap.size Kp I Ix (pre ++ [x]) W) (act N u' []) W)
    (hdone : ∀ (D : Nat) (xs : List α) (W : World), w.heap.size ≤ D → S xs → I xs W → Dfr W D → Q .normal (act N u ({ target := .collected D, args := #[] } :: ds)) W)
    (hstop : ∀ (D : Nat) (c : Code) (pre : List α) (W : World), w.heap.size ≤ D → Sp pre → Ix c pre W → Dfr W D → wpC none P c Q (act N u ({ target := .collected D, args := #[] } :: ds)) W) :
    wpC none P (.rangeFunc g ps assign body) Q (act N u ds) w := by
  refine (wpIn_wide (n := 9)).1 ?_
  refine wpIn_rangeFunc_ownH (F := Fence.wide) (a := act N u ds) rfl (by decide) (gf := gf) (lb := lb) (by rw [eval_act]; exact hg) trivial (fun args w => run_entr he args w) hseq hKt hKb hb0 hps I Ix hI hIx h0
    (fun x a' W => ∃ u', a' = act N u' [] ∧ Ux x u' W) ?_ ?_ ?_ hdone ?_
  · intro x a' s A B row hs hg hr
    obtain ⟨u', ha, hu⟩ := hs
    exact ⟨u', ha, hUx x u' () A B row hu hg hr⟩
  · intro l pre x W K hi hK
    have h := hassign l pre x W K hi (fun u' W' h1 h2 h3 h4 => hK _ _ h1 h2 h3 ⟨u', rfl, h4⟩)
    have e : ({ tmps := (ps.zip (encs x)).foldl (fun t (p, v) => t.setIfInBounds p v) (act N u ds).tmps, defers := [] } : Act) = act N (updZ u ps (encs x)) [] := by
      unfold act updZ
      rw [← fr_fold, ← Array.foldl_toList]
    rw [e]
    exact wpIn_n h
  · rintro l pre x a' W _ _ hi ⟨u', rfl, hu⟩ hl
    exact wpIn_n (hbody l pre x u' W hi hu hl)
  · intro D c pre W hD hS hi hd
    exact (wpIn_wide (n := 9)).2 (hstop D c pre W hD hS hi hd)
end
/-- A round: the iterator calls 'yield'. -/
theorem x_yl {P : Program} {o : Oper} {ρ : Operand → Value} {w : World} {t : Operand} {xs : Array Operand} {ts : Array TypeId} {l : Nat} (ho : o.op = .call { callee := .value t, args := xs, argTypes := ts }) (ht : ρ t = .func (.yield l) #[] #[]) {vs : List Value} (hx : xs.toList.map ρ = vs) {nx : Next} (hy : (Instr.yield l vs.toArray).run P w = .ok nx w) : (execOp ρ o).run P w = .ok nx w := by
  have e : xs.map ρ = vs.toArray := by rw [← hx, ← List.map_toArray]
  unfold execOp; rw [ho]
  simp [resolve, ht, Deferred.ofValue, invoke, e, hy, Result.andThen]
theorem yl {P : Program} {ops : Array Oper} {rest : List Oper} {o : Oper} {Q : Exit → Act → World → Prop} {N : Nat} {u : Nat → Value} {ds : List Deferred} {w : World} (hg : Region.wanted o (yielded ops (fr N u)) = true) {l : Nat} {fn : FuncId} {tmps : Array Value} {asg bdy : Code} {R : Ending → World → Prop}
    (hr : (execOp (opv N u) o).run P w = .ok (.round l fn tmps asg bdy) w) (hR : RoundIn Fence.wide 7 P l fn tmps asg bdy w R) (h : ∀ e w', R e w' → aft (wpS (some none) P ops Q rest) Q N u ds o.dst e w') : wpS (some none) P ops Q (o :: rest) (act N u ds) w := by
  refine wpS_run (a := act N u ds) hg ⟨fun _ _ => trivial, ?_⟩
  show o.uponIn _ _ _ _ _ _ ((o.semAt none (act N u ds).eval).run P w)
  rw [Oper.semAt_none, eval_act, hr, Oper.uponIn_round]
  refine ⟨fun _ => by decide, RoundIn.mono hR fun e w' he => ?_⟩
  have := h e w' he
  cases e with
  | returned v => exact this
  | panicked ch => exact this
  | outgrown => exact this
/-- The entry of a function that ranges over a function. -/
theorem enterM {P : Program} {f : FuncId} {fn : Func} {c : Code} {l : List Value} {w : World} {R : Ending → World → Prop} (hf : P.funcs[f]? = some fn) (hb : fn.body = some c) (N : Nat) (hn : fn.ntmps = N) (hl : l.length ≤ N)
    (h : wpC none P c (bodyPostM Fence.wide 9 P fn R) (act N (ini l) []) w) : Calls P f l.toArray w R := by
  refine (callsIn_wide (n := 9)).1 (callsIn_of_wp_marks hf hb trivial ?_ rfl)
  rw [hn, ini_frame l N hl]
  exact (wpIn_wide (n := 9)).2 h
section
variable {fn : Func} {R : Ending → World → Prop} {P : Program} {N : Nat} {u : Nat → Value} {w : World}
/-- An end ahead of the range. -/
theorem retM {v : Value} (hr : (results fn (fr N u)).run P w = .ok v w) (hR : R (.returned v) w) : bodyPostM Fence.wide 9 P fn R .ret (act N u []) w := ⟨v, hr, hR⟩
/-- The end of a function that ranged over a function. -/
theorem retC {D : Nat} (hD : Dfr w D) {v : Value} (hr : ∀ w', Below D w w' → w'.heap.size = w.heap.size → (∀ g t cs, Blk w g t cs → Blk w' g t cs) → (results fn (fr N u)).run P w' = .ok v w') (hR : ∀ w', Below D w w' → R (.returned v) w') : bodyPostM Fence.wide 9 P fn R .ret (act N u [{ target := .collected D, args := #[] }]) w := by
  have hb : Below D w (w.putObj D (.deferred none)) := by
    refine ⟨rfl, rfl, rfl, by simp, fun k hk => World.putObj_heap_other (by omega)⟩
  have hs : (w.putObj D (.deferred none)).heap.size = w.heap.size := by simp
  have hk : ∀ g t cs, Blk w g t cs → Blk (w.putObj D (.deferred none)) g t cs := by
    intro g t cs h
    have hne : g ≠ D := by
      intro e; subst e
      have h' : w.heap[g]? = _ := h
      have hd : w.heap[g]? = _ := hD
      rw [h'] at hd; cases hd
    show (w.putObj D (.deferred none)).heap[g]? = _
    exact (World.putObj_heap_other hne).trans h
  refine ⟨by simp [act], .inl ⟨_, _, rfl, run_takeDeferred hD, ?_⟩⟩
  exact ⟨v, hr _ hb hs hk, hR _ hb⟩
end
end Go.Proofs.YtojenflknjhmkaaDoor.Eng
end

section
namespace Go.Proofs.YtojenflknjhmkaaDoor.TreP
open Go Go.RowKit Go.Proofs.YtojenflknjhmkaaDoor Go.Proofs.YtojenflknjhmkaaDoor.Cop Go.Proofs.YtojenflknjhmkaaDoor.Ver Go.Proofs.YtojenflknjhmkaaDoor.Tre Go.Proofs.YtojenflknjhmkaaDoor.Vfy Go.Proofs.YtojenflknjhmkaaDoor.Oct Go.Proofs.YtojenflknjhmkaaDoor.Dsl Go.Proofs.YtojenflknjhmkaaDoor.Sha
set_option linter.unusedVariables false
set_option linter.unusedSimpArgs false
theorem ag103_ro (w : World) : (isAgg 103).run Tryd.prog w = .ok false w := by kernel_rfl
theorem sz105_ro : (Tryd.prog.info? 105).map (fun i => i.size) = some 33 := by kernel_rfl
theorem ag105_ro (w : World) : (isAgg 105).run Tryd.prog w = .ok true w := by kernel_rfl
def encP (p : Nat × List UInt8) : List Value := .int .i64 (p.1 : Int) :: bcs p.2
def dP : Nat × List UInt8 := (0, Oct.dz)
theorem encP_len {p : Nat × List UInt8} (h : p.2.length = 32) : (encP p).length = 33 := by simp [encP, bcs_length, h]
theorem one_part (a : Nat × List UInt8) : ∀ c ∈ encP a, c.oneCell' = true := Eng.one_cons rfl (bcs_one _)
theorem zP : (Value.agg (encP (0, Oct.dz)).toArray).cells.size = 33 := by simp [Value.cells, encP, bcs_length, Oct.dz]
theorem bldP (n : Nat) (d : List UInt8) (hd : d.length = 32) (w : World) : (Instr.build 105 #[(0, .int .i64 (n : Int)), (1, dg d)]).run Tryd.prog w = .ok (.agg (.int .i64 (n : Int) :: bcs d : List Value).toArray) w := by
  refine run_build _ _ _ _ ?_
  have e : ∀ x y : Value, Tryd.prog.built 105 [(0, x), (1, y)] = Instr.fill (#[(0, 1), (1, 32)][·]?) (encP (0, Oct.dz)).toArray [(0, x), (1, y)] := by intro x y; kernel_rfl
  show Tryd.prog.built 105 [(0, .int .i64 (n : Int)), (1, dg d)] = _
  rw [e, Eng.fill_step (cells' := (encP (n, Oct.dz)).toArray) rfl (cs := [.int .i64 (n : Int)]) rfl rfl (by simp [encP, bcs_length, Oct.dz]) (by simp [encP, bcs_length, Oct.dz]), Eng.fill_step (cells' := (encP (n, d)).toArray) (off := 1) (size := 32) rfl (cs := bcs d) rfl (by rw [bcs_length]; exact hd) (by simp [encP, bcs_length, Oct.dz]) ?_]
  · rfl
  · have h1 : (encP (n, Oct.dz)).drop 33 = [] := List.drop_eq_nil_of_le (by simp [encP, bcs_length, Oct.dz])
    simp [encP, bcs_length, Oct.dz]
/-- The places of a slice, from the last one down. -/
def downs (n : Nat) : List Nat := (List.range n).map fun i => n - 1 - i
def encY (l : List (Nat × List UInt8)) (x : { j : Nat // j < l.length }) : Array Value := #[.int .i64 (x.1 : Int), .agg (encP (l.getD x.1 dP)).toArray]
set_option maxRecDepth 100000 in
set_option maxHeartbeats 4000000 in
theorem bwd_stops (l : List (Nat × List UInt8)) (hP : ∀ p ∈ l, p.2.length = 32) (Bs y : Nat) (v : Value) (w : World) (hBs : Blk w Bs 103 [v]) (hv : Eng.RowL 33 encP w v l) (hy : ∀ a n c, v = .slice (some a) n c → a.block = y) (hyl : y < w.heap.size) :
    SeqStopsK Fence.wide 8 Tryd.prog 117 #[.pointer (some ⟨Bs, 0, none⟩)] (encY l) (Eng.Two Bs y) (fun ys => ys.map (·.1) = downs l.length) (fun _ => True) (l.length + 1) w := by
  intro lc J Jx W hW hJ hJx hY h0
  have hsm := hv.1.small
  have hB : Blk W Bs 103 [v] := hBs.below hW
  have hR : Eng.RowL 33 encP W v l := hv.below hW
  have hxl : Bs < W.heap.size := hB.lt
  have hyl2 : y < W.heap.size := Nat.lt_of_lt_of_le hyl hW.size
  refine Eng.enterI (l := [.func (.yield lc) #[] #[], .pointer (some ⟨Bs, 0, none⟩)]) Tryd.func117 rfl 19 rfl (by simp) ?_
  refine Eng.seqk fun K1 hK1 => ?_
  refine Eng.reg ?_
  refine Eng.sv rfl rfl (Eng.x_ld1 (v := v) rfl ag103_ro rfl ((hB).cell 0)) ?_
  refine Eng.sv rfl rfl (Eng.x_len (v := v) (r := (l.length : Int)) rfl Tryd.underlying103 rfl (hR).1 rfl) ?_
  refine Eng.sv rfl rfl (Eng.x_sub rfl rfl rfl (Eng.w64 (r := ((l.length : Int) - 1)) (by omega))) ?_
  refine Eng.sv rfl rfl (Eng.x_as (v := (.int .i64 ((l.length : Int) - 1))) rfl rfl) ?_
  refine Eng.nil ?_
  refine hK1 _ _ ?_
  refine Eng.blk ?_
  refine Eng.loopN (fun zz u w' => ∃ (k : Nat), ∃ (pre : List { j : Nat // j < l.length }), zz = l.length + 1 - k ∧ k ≤ l.length ∧ (pre.map (·.1) = (List.range k).map fun i => l.length - 1 - i) ∧ Eng.Has u [(0, (.func (.yield lc) #[] #[])), (1, (.pointer (some ⟨Bs, 0, none⟩))), (3, (.int .i64 ((l.length : Int) - 1 - (k : Int))))] ∧ Blk w' Bs 103 [v] ∧ Eng.RowL 33 encP w' v l ∧ J pre w' ∧ Eng.Two Bs y W w') _ ⟨0, [], rfl, Nat.zero_le _, rfl, ⟨rfl, rfl, (Eng.ie (by first | omega | rfl)), trivial⟩, hB, hR, h0, (Eng.Two.refl _ _ _)⟩ ?_
  rintro _ u2 w2 ⟨k, pre, rfl, hs2_0, hs2_1, hH2, hkL2_0, hrL2_0, hJJ, hTT⟩ K2 hK2
  obtain ⟨u2, rfl⟩ := hH2.ex
  refine Eng.seqk fun K3 hK3 => ?_
  refine Eng.seqk fun K4 hK4 => ?_
  refine Eng.reg ?_
  refine Eng.sv rfl rfl (Eng.x_mv (v := (.int .i64 ((l.length : Int) - 1 - (k : Int)))) rfl rfl) ?_
  by_cases h8 : (((l.length : Int) - 1 - (k : Int)) : Int) ≥ 0
  · skip
    refine Eng.sv rfl rfl (Eng.x_ge (r := true) rfl rfl rfl (decide_eq_true (by omega))) ?_
    refine Eng.nil ?_
    refine hK4 _ _ ?_
    refine Eng.cond_t rfl ?_
    refine Eng.skp ?_
    refine hK3 _ _ ?_
    refine Eng.seqk fun K5 hK5 => ?_
    refine Eng.blk ?_
    refine Eng.seqk fun K6 hK6 => ?_
    refine Eng.reg ?_
    refine Eng.sv rfl rfl (Eng.x_mv (v := (.func (.yield lc) #[] #[])) rfl rfl) ?_
    refine Eng.sv rfl rfl (Eng.x_mv (v := (.int .i64 ((l.length : Int) - 1 - (k : Int)))) rfl rfl) ?_
    refine Eng.sv rfl rfl (Eng.x_ld1 (v := v) rfl ag103_ro rfl ((hkL2_0).cell 0)) ?_
    refine Eng.sv rfl rfl (Eng.x_mv (v := (.int .i64 ((l.length : Int) - 1 - (k : Int)))) rfl rfl) ?_
    refine Eng.sv rfl rfl (Eng.x_ia (v := v) (j := l.length - 1 - k) rfl Tryd.underlying103 sz105_ro (by decide) rfl rfl (hrL2_0).1 (Eng.flat_len (hrL2_0).2) (by omega) (by omega)) ?_
    refine Eng.sv rfl rfl (Eng.x_ldA (v := (.agg (encP ((l).getD (l.length - 1 - k) dP)).toArray)) rfl ag105_ro sz105_ro rfl (Eng.enc_len (hrL2_0).2 dP (by omega)) (Eng.rl_elem hrL2_0 dP (by omega)) rfl) ?_
    have hkl : l.length - 1 - k < l.length := by omega
    have hpl : pre.length = k := by have := congrArg List.length hs2_1; simpa using this
    obtain ⟨fn, tmps, asg, bdy, hyy, hRR⟩ := hY pre ⟨l.length - 1 - k, hkl⟩ _ hJJ (by omega)
    refine Eng.yl rfl (Eng.x_yl rfl rfl (vs := [.int .i64 ((l.length : Int) - 1 - (k : Int)), (.agg (encP ((l).getD (l.length - 1 - k) dP)).toArray)]) rfl (by rw [show ((l.length : Int) - 1 - (k : Int)) = ((l.length - 1 - k : Nat) : Int) by omega]; exact hyy)) hRR ?_
    rintro _ w7 (⟨rfl, hJ2, hT2⟩ | ⟨rfl, hJx2⟩)
    · skip
      refine Eng.aft_v rfl ?_
      have hB2 : Blk w7 Bs 103 [v] := hT2.1.trans hkL2_0
      have hR2 : Eng.RowL 33 encP w7 v l := ⟨Eng.row_block (hrL2_0).1 (fun a m c e => by rw [hy a m c e]; exact hT2.2), (hrL2_0).2⟩
      have hnx : List.map (fun x : { j : Nat // j < l.length } => x.1) (pre ++ [⟨l.length - 1 - k, hkl⟩]) = (List.range (k + 1)).map fun i => l.length - 1 - i := by rw [List.map_append, hs2_1, List.range_succ, List.map_append]; rfl
      refine Eng.sv rfl rfl (Eng.x_not (v := (.bool false)) rfl rfl rfl) ?_
      refine Eng.nil ?_
      refine hK6 _ _ ?_
      refine Eng.cond_f rfl ?_
      refine Eng.skp ?_
      refine Eng.nb ?_
      refine hK5 _ _ ?_
      refine Eng.reg ?_
      refine Eng.sv rfl rfl (Eng.x_mv (v := (.int .i64 ((l.length : Int) - 1 - (k : Int)))) rfl rfl) ?_
      refine Eng.sv rfl rfl (Eng.x_sub rfl rfl rfl (Eng.w64 (r := ((l.length : Int) - 1 - ((k + 1 : Nat) : Int))) (by omega))) ?_
      refine Eng.sv rfl rfl (Eng.x_as (v := (.int .i64 ((l.length : Int) - 1 - ((k + 1 : Nat) : Int)))) rfl rfl) ?_
      refine Eng.nil ?_
      exact hK2 _ _ _ ⟨k + 1, pre ++ [⟨l.length - 1 - k, hkl⟩], rfl, by omega, hnx, ⟨rfl, rfl, (Eng.ie (by first | omega | rfl)), trivial⟩, hB2, hR2, hJ2, (hTT.trans hT2)⟩ (by omega)
    · skip
      refine Eng.aft_v rfl ?_
      refine Eng.sv rfl rfl (Eng.x_not (v := (.bool true)) rfl rfl rfl) ?_
      refine Eng.nil ?_
      refine hK6 _ _ ?_
      refine Eng.cond_t rfl ?_
      refine Eng.rt ?_
      refine Eng.br ?_
      refine Eng.tr ?_
      refine Eng.tr ?_
      refine Eng.br ?_
      exact Eng.ret (Eng.res0 rfl) ⟨⟨_, rfl⟩, .inr ⟨_, trivial, hJx2⟩⟩
  · skip
    refine Eng.sv rfl rfl (Eng.x_ge (r := false) rfl rfl rfl (decide_eq_false (by omega))) ?_
    refine Eng.nil ?_
    refine hK4 _ _ ?_
    refine Eng.cond_f rfl ?_
    refine Eng.xt ?_
    refine Eng.te ?_
    refine Eng.te ?_
    refine Eng.be ?_
    have hkn : k = l.length := by omega
    exact Eng.fin (Eng.res0 rfl) ⟨⟨_, rfl⟩, .inl ⟨pre, (show pre.map (·.1) = _ by rw [hs2_1, hkn]; rfl), hJJ⟩⟩
set_option maxRecDepth 100000 in
set_option maxHeartbeats 4000000 in
theorem bwd_calls (v : Value) (n : Nat) (cs : List Value) (w : World) (h : Row w v n cs) : Calls Tryd.prog 61 #[v] w (fun e w' => ∃ b, e = .returned (.func (.func 117) #[] #[.pointer (some ⟨b, 0, none⟩)]) ∧ Blk w' b 103 [v] ∧ w.heap.size ≤ b ∧ Below w.heap.size w w') := by
  refine Eng.enter (l := [v]) Tryd.func61 rfl 4 rfl (by simp) ?_
  refine Eng.seqk fun K1 hK1 => ?_
  refine Eng.reg ?_
  refine Eng.bo (v := v) (cs := [v]) rfl rfl rfl rfl (by rw [Eng.Row.cells1 h]) ?_
  intro w2 hk2 hb2 hz2
  refine Eng.sv rfl rfl (Eng.x_as (v := Value.nilFunc) rfl rfl) ?_
  refine Eng.nil ?_
  refine hK1 _ _ ?_
  refine Eng.seqk fun K3 hK3 => ?_
  refine Eng.reg ?_
  refine Eng.sv rfl rfl (Eng.x_mf (cap := [(.pointer (some ⟨w.heap.size, 0, none⟩))]) rfl rfl) ?_
  refine Eng.sv rfl rfl (Eng.x_as (v := (.func (.func 117) #[] #[(.pointer (some ⟨w.heap.size, 0, none⟩))])) rfl rfl) ?_
  refine Eng.nil ?_
  refine hK3 _ _ ?_
  refine Eng.rt ?_
  refine Eng.ret (Eng.res1 (v1 := (.func (.func 117) #[] #[(.pointer (some ⟨w.heap.size, 0, none⟩))])) rfl (Eng.rdt rfl)) ?_
  exact ⟨_, rfl, hk2, (Nat.le_refl _), hb2⟩
/-- The root of any leaves. -/
def rootS (l : List (List UInt8)) : List UInt8 := if l.length = 0 then sha [] else R l
theorem rootS_len (l : List (List UInt8)) (h : All32 l) : (rootS l).length = 32 := by
  unfold rootS; split
  · exact sha_len _
  · exact R_len l h (by omega)
theorem PK.len : ∀ {s : List (Nat × List UInt8)} {l : List (List UInt8)} {k : Nat}, PK s l k → s = [] ∨ 2 ^ (k + s.length - 1) ≤ l.length
  | [], l, k, _ => .inl rfl
  | q :: r, l, k, ⟨j, a, b, h1, h2, h3, h4, h5, h6⟩ => by
    right
    rcases PK.len h6 with hr | hr
    · subst hr
      have hp := Nat.pow_le_pow_right (show 0 < 2 by decide) h1
      rw [h3, List.length_append]
      simp only [List.length_cons, List.length_nil, Nat.zero_add, Nat.add_sub_cancel]
      omega
    · have hp : 2 ^ (k + (q :: r).length - 1) ≤ 2 ^ (j + 1 + r.length - 1) := Nat.pow_le_pow_right (by decide) (by simp only [List.length_cons]; omega)
      rw [h3, List.length_append]; omega
theorem PK.short {s : List (Nat × List UInt8)} {l : List (List UInt8)} {k : Nat} (h : PK s l k) (hm : l.length ≤ 281474976710656) : s.length ≤ 50 := by
  rcases PK.len h with rfl | hr
  · simp
  · by_cases hs : s.length ≤ 50
    · exact hs
    · have := Nat.pow_le_pow_right (show 0 < 2 by decide) (show 50 ≤ k + s.length - 1 by omega)
      have h50 : (2 : Nat) ^ 50 = 1125899906842624 := by decide
      omega
theorem PK.mem32 : ∀ {s : List (Nat × List UInt8)} {l : List (List UInt8)} {k : Nat}, PK s l k → All32 l → ∀ p ∈ s, p.2.length = 32
  | [], l, k, _, _, p, hp => by cases hp
  | q :: r, l, k, ⟨j, a, b, h1, h2, h3, h4, h5, h6⟩, h32, p, hp => by
    have ha : All32 a := fun d hd => h32 d (by rw [h3]; exact List.mem_append_left _ hd)
    have hb : All32 b := fun d hd => h32 d (by rw [h3]; exact List.mem_append_right _ hd)
    rcases List.mem_cons.1 hp with rfl | hp
    · rw [h5]; exact R_len b hb (by rw [h4]; exact Nat.pos_of_ne_zero (by simp))
    · exact PK.mem32 h6 ha p hp
/-- Two equal peaks become one. -/
theorem PK.merge {q : Nat × List UInt8} {r : List (Nat × List UInt8)} {a b : List (List UInt8)} {j : Nat} (h : PK (q :: r) a j) (hq : q.1 = 2 ^ j) (hb : b.length = 2 ^ j) (hm : (a ++ b).length ≤ 281474976710656) :
    ∃ a' b', PK r a' (j + 1) ∧ b'.length = 2 ^ (j + 1) ∧ a' ++ b' = a ++ b ∧ nodeS q.2 (R b) = R b' := by
  obtain ⟨j', a', b', h1, h2, h3, h4, h5, h6⟩ := h
  have hj : j' = j := by
    rcases Nat.lt_or_ge j j' with c | c
    · have := Nat.pow_lt_pow_right (show 1 < 2 by decide) c; omega
    · omega
  subst hj
  refine ⟨a', b' ++ b, h6, by rw [List.length_append, h4, hb, Nat.pow_succ]; omega, by rw [h3, List.append_assoc], ?_⟩
  rw [h5, R_app b' b j' h4 (by rw [hb]; exact Nat.pos_of_ne_zero (by simp)) (by omega) (by rw [h3] at hm; simp only [List.length_append] at hm ⊢; omega)]
theorem PK.stay {s : List (Nat × List UInt8)} {a b : List (List UInt8)} {j : Nat} (h : PK s a j) (hs : s = [] ∨ ∃ q r, s = q :: r ∧ q.1 ≠ 2 ^ j) (hb : b.length = 2 ^ j) : PK ((2 ^ j, R b) :: s) (a ++ b) 0 := by
  refine ⟨j, a, b, Nat.zero_le _, rfl, rfl, hb, rfl, ?_⟩
  rcases hs with rfl | ⟨q, r, rfl, hne⟩
  · exact h
  · obtain ⟨j', a', b', h1, h2, h3, h4, h5, h6⟩ := h
    refine ⟨j', a', b', ?_, h2, h3, h4, h5, h6⟩
    rcases Nat.lt_or_ge j j' with c | c
    · exact c
    · have : j' = j := by omega
      subst this; exact absurd h2 hne
theorem PK.root {s : List (Nat × List UInt8)} {l : List (List UInt8)} (h : PK s l 0) (h0 : 0 < l.length) (hm : l.length ≤ 281474976710656) : ∃ q r, s = q :: r ∧ foldP q.2 r = R l := by
  cases s with
  | nil => have h : l = [] := h; subst h; simp at h0
  | cons q r =>
    obtain ⟨j, a, b, h1, h2, h3, h4, h5, h6⟩ := h
    refine ⟨q, r, rfl, ?_⟩
    rw [h5, h3]
    exact PK.fold r a b (j + 1) h6 (by rw [h4]; exact Nat.pos_of_ne_zero (by simp)) (by rw [h4, Nat.pow_succ]; omega) (by rw [← h3]; exact hm)
/-- What the loop over the peaks, from the last but one down, has made. -/
def foldB (l : List (Nat × List UInt8)) (d : List UInt8) (pre : List { j : Nat // j < l.length }) : List UInt8 := pre.foldl (fun d x => nodeS (l.getD x.1 dP).2 d) d
theorem foldB_len (l : List (Nat × List UInt8)) (d : List UInt8) (hd : d.length = 32) (pre : List { j : Nat // j < l.length }) : (foldB l d pre).length = 32 := by
  induction pre generalizing d with
  | nil => exact hd
  | cons x pre ih => exact ih _ (nodeS_len _ _)
theorem foldB_snoc (l : List (Nat × List UInt8)) (d : List UInt8) (pre : List { j : Nat // j < l.length }) (x : { j : Nat // j < l.length }) : foldB l d (pre ++ [x]) = nodeS (l.getD x.1 dP).2 (foldB l d pre) := by unfold foldB; rw [List.foldl_append]; rfl
theorem foldB_all (l : List (Nat × List UInt8)) (d : List UInt8) (pre : List { j : Nat // j < l.length }) (h : pre.map (·.1) = downs l.length) : foldB l d pre = foldP d l.reverse := by
  have e : foldB l d pre = (pre.map (·.1)).foldl (fun d j => nodeS (l.getD j dP).2 d) d := by unfold foldB; rw [List.foldl_map]
  have e2 : l.reverse = (downs l.length).map fun j => l.getD j dP := by
    apply List.ext_getElem
    · simp [downs]
    · intro i h1 h2
      have hi : i < l.length := by simpa using h1
      simp only [List.getElem_reverse, List.getElem_map, downs, List.getElem_range, List.getD_eq_getElem?_getD]
      rw [List.getElem?_eq_getElem (by omega)]
      rfl
  rw [e, h, e2]
  unfold foldP
  rw [List.foldl_map]
end Go.Proofs.YtojenflknjhmkaaDoor.TreP
end

section
namespace Go.Proofs.YtojenflknjhmkaaDoor.TreP
open Go Go.RowKit Go.Proofs.YtojenflknjhmkaaDoor Go.Proofs.YtojenflknjhmkaaDoor.Cop Go.Proofs.YtojenflknjhmkaaDoor.Ver Go.Proofs.YtojenflknjhmkaaDoor.Tre Go.Proofs.YtojenflknjhmkaaDoor.Vfy Go.Proofs.YtojenflknjhmkaaDoor.Oct Go.Proofs.YtojenflknjhmkaaDoor.Dsl Go.Proofs.YtojenflknjhmkaaDoor.Sha
set_option linter.unusedVariables false
set_option linter.unusedSimpArgs false
theorem zr24_rt (w : World) : (zeroValue 24).run Tryd.prog w = .ok (dg Oct.dz) w := by kernel_rfl
theorem en115_rt : Eng.Entr Tryd.prog 115 := ⟨_, Tryd.func115, by kernel_rfl, by kernel_rfl⟩
theorem sz24_rt : (Tryd.prog.info? 24).map (fun i => i.size) = some 32 := by kernel_rfl
theorem ag24_rt (w : World) : (isAgg 24).run Tryd.prog w = .ok true w := by kernel_rfl
theorem en59_rt : Eng.Entr Tryd.prog 59 := ⟨_, Tryd.func59, by kernel_rfl, by kernel_rfl⟩
theorem zr105_rt (w : World) : (zeroValue 105).run Tryd.prog w = .ok (.agg ((.int .i64 0) :: (bcs Oct.dz) : List Value).toArray) w := by kernel_rfl
theorem sz105_rt : (Tryd.prog.info? 105).map (fun i => i.size) = some 33 := by kernel_rfl
theorem ag105_rt (w : World) : (isAgg 105).run Tryd.prog w = .ok true w := by kernel_rfl
theorem inL105_rt : (Tryd.prog.info? 105).map (fun i => (i.zero, i.size, i.bytes)) = some (some (.agg (encP (0, Oct.dz)).toArray), 33, 40) := by kernel_rfl
theorem ag3_rt (w : World) : (isAgg 3).run Tryd.prog w = .ok false w := by kernel_rfl
theorem en60_rt : Eng.Entr Tryd.prog 60 := ⟨_, Tryd.func60, by kernel_rfl, by kernel_rfl⟩
theorem en61_rt : Eng.Entr Tryd.prog 61 := ⟨_, Tryd.func61, by kernel_rfl, by kernel_rfl⟩
theorem en117_rt : Eng.Entr Tryd.prog 117 := ⟨_, Tryd.func117, by kernel_rfl, by kernel_rfl⟩
theorem updZ2 (u : Nat → Value) (p q : Nat) (a b : Value) : Eng.updZ u #[p, q] #[a, b] = Eng.upd (Eng.upd u p a) q b := by simp [Eng.updZ]
theorem own_at {w : World} {base : Nat} {e : TypeId} {sz : Nat} {v : Value} {n : Nat} {xs : List Value} (h : w.ownsRow base e sz v n xs) {g7 z : Nat} (hg : ∀ g, v.ownBlock = some g → g ≠ g7) (hz : z < w.heap.size) (hz7 : z ≠ g7) : ∃ y, y < w.heap.size ∧ (∀ a n c, v = .slice (some a) n c → a.block = y) ∧ y ≠ g7 := by
  rcases h.2 with ⟨rfl, _⟩ | ⟨g, cap, cur, rfl, _, hh, _⟩
  · exact ⟨z, hz, (fun a n c e => by cases e), hz7⟩
  · exact ⟨g, (Array.getElem?_eq_some_iff.1 hh).1, (fun a n c e => by cases e; rfl), hg g rfl⟩
theorem rev_last {q : Nat × List UInt8} {r s : List (Nat × List UInt8)} (h : s = q :: r) : s.reverse.getD (s.reverse.length - 1) dP = q ∧ s.reverse.take (s.reverse.length - 1) = r.reverse := by
  subst h
  rw [List.reverse_cons, List.length_append]
  simp
theorem cons_of {s : List (Nat × List UInt8)} (h : ¬ s.length = 0) : ∃ q r, s = q :: r := by
  cases s with
  | nil => exact absurd rfl h
  | cons q r => exact ⟨q, r, rfl⟩
theorem all32_sub {a b c : List (List UInt8)} (h : All32 c) {k : Nat} (e : a ++ b = c.take k) : All32 b := fun d hd => h d (List.mem_of_mem_take (by rw [← e]; exact List.mem_append_right _ hd))
theorem len_sub {a b c : List (List UInt8)} {k : Nat} (e : a ++ b = c.take k) : a.length + b.length ≤ c.length := by
  have := congrArg List.length e
  rw [List.length_append, List.length_take] at this; omega
set_option maxRecDepth 100000 in
set_option maxHeartbeats 4000000 in
theorem empty_calls (w : World) (hK : Kon w) : Calls Tryd.prog 59 #[] w (fun e w' => e = .returned (dg (sha [])) ∧ Below w.heap.size w w') := by
  refine Eng.enter (l := []) Tryd.func59 rfl 2 rfl (by simp) ?_
  refine Eng.seqk fun K1 hK1 => ?_
  refine Eng.reg ?_
  refine Eng.al rfl rfl rfl zr24_rt (cs := (bcs Oct.dz)) rfl ?_
  intro w2 hk2 hb2 hz2
  refine Eng.nil ?_
  refine hK1 _ _ ?_
  refine Eng.seqk fun K3 hK3 => ?_
  refine Eng.reg ?_
  have hr4 := (hK).below hb2
  refine Eng.sc rfl (Eng.xc (vl := [(.slice none 0 0)]) rfl rfl rfl en115_rt) (hsum_calls (.slice none 0 0) [] _ (Row.nil _) (fun _ _ _ e => by cases e) (by simp) hr4) ?_
  rintro _ w5 ⟨rfl, hb5⟩
  refine Eng.aft_v rfl ?_
  have hk6 := (hk2).below hb5
  refine Eng.stB (v := (dg (sha []))) rfl rfl rfl sz24_rt rfl hk6 rfl rfl (cs' := (bcs (sha []))) rfl ((bcs_length _).trans (sha_len _)) (bcs_one _) ?_
  intro w7 hk7 hg7
  refine Eng.nil ?_
  refine hK3 _ _ ?_
  refine Eng.rt ?_
  refine Eng.ret (Eng.res1 (v1 := (dg (sha []))) rfl (Eng.rdc rfl (Eng.lvB ag24_rt sz24_rt hk7 ((bcs_length _).trans (sha_len _)) rfl))) ?_
  have hB0_2 : Below w.heap.size w w5 := (hb2).trans (hb5.mono (hb2).size)
  have hB0_3 : Below w.heap.size w w7 := (hB0_2).grown hg7 (hB0_2).size (fun k e => by cases e; exact Nat.le_trans (Nat.le_refl _) (Nat.le_refl _))
  exact ⟨rfl, hB0_3⟩
set_option maxRecDepth 100000 in
set_option maxHeartbeats 4000000 in
theorem troot_calls (v : Value) (ds : List (List UInt8)) (w : World) (h : Ds w v ds) (hm : ds.length ≤ 281474976710656) (hK : Kon w) : Calls Tryd.prog 21 #[v] w (fun e w' => e = .returned (dg (rootS ds)) ∧ Below w.heap.size w w') := by
  have hsm := h.1.small
  refine Eng.enterM (l := [v]) Tryd.func21 rfl 81 rfl (by simp) ?_
  refine Eng.seqk fun K1 hK1 => ?_
  refine Eng.reg ?_
  refine Eng.al rfl rfl rfl zr24_rt (cs := (bcs Oct.dz)) rfl ?_
  intro w2 hk2 hb2 hz2
  refine Eng.nil ?_
  refine hK1 _ _ ?_
  refine Eng.seqk fun K3 hK3 => ?_
  refine Eng.seqk fun K4 hK4 => ?_
  refine Eng.reg ?_
  refine Eng.sv rfl rfl (Eng.x_mv (v := v) rfl rfl) ?_
  have hr5 := (h).below hb2
  refine Eng.sv rfl rfl (Eng.x_len (v := v) (r := (ds.length : Int)) rfl Tryd.underlying29 rfl (hr5).1 rfl) ?_
  by_cases h12 : ((ds.length : Int) : Int) = 0
  · skip
    refine Eng.sv rfl rfl (Eng.x_eq (r := true) rfl rfl rfl (Eng.eq_t (by omega))) ?_
    refine Eng.nil ?_
    refine hK4 _ _ ?_
    refine Eng.cond_t rfl ?_
    refine Eng.seqk fun K6 hK6 => ?_
    refine Eng.reg ?_
    have hr7 := (hK).below hb2
    refine Eng.sc rfl (Eng.xc (vl := []) rfl rfl rfl en59_rt) (empty_calls _ hr7) ?_
    rintro _ w8 ⟨rfl, hb8⟩
    refine Eng.aft_v rfl ?_
    have hk9 := (hk2).below hb8
    refine Eng.stB (v := (dg (sha []))) rfl rfl rfl sz24_rt rfl hk9 rfl rfl (cs' := (bcs (sha []))) rfl ((bcs_length _).trans (sha_len _)) (bcs_one _) ?_
    intro w10 hk10 hg10
    refine Eng.nil ?_
    refine hK6 _ _ ?_
    refine Eng.rt ?_
    refine Eng.tr ?_
    refine Eng.retM (Eng.res1 (v1 := (dg (sha []))) rfl (Eng.rdc rfl (Eng.lvB ag24_rt sz24_rt hk10 ((bcs_length _).trans (sha_len _)) rfl))) ?_
    have hB0_2 : Below w.heap.size w w8 := (hb2).trans (hb8.mono (hb2).size)
    have hB0_3 : Below w.heap.size w w10 := (hB0_2).grown hg10 (hB0_2).size (fun k e => by cases e; exact Nat.le_trans (Nat.le_refl _) (Nat.le_refl _))
    exact ⟨by unfold rootS; rw [if_pos (by omega)], hB0_3⟩
  · skip
    have hR32 : (R ds).length = 32 := R_len ds h.2 (by omega)
    refine Eng.sv rfl rfl (Eng.x_eq (r := false) rfl rfl rfl (Eng.eq_f (by omega))) ?_
    refine Eng.nil ?_
    refine hK4 _ _ ?_
    refine Eng.cond_f rfl ?_
    refine Eng.skp ?_
    refine hK3 _ _ ?_
    refine Eng.seqk fun K11 hK11 => ?_
    refine Eng.reg ?_
    refine Eng.sv rfl rfl (Eng.x_as (v := (.slice none 0 0)) rfl rfl) ?_
    refine Eng.nil ?_
    refine hK11 _ _ ?_
    refine Eng.seqk fun K12 hK12 => ?_
    refine Eng.seqk fun K13 hK13 => ?_
    refine Eng.reg ?_
    refine Eng.sv rfl rfl (Eng.x_mv (v := v) rfl rfl) ?_
    refine Eng.sv rfl rfl (Eng.x_len (v := v) (r := (ds.length : Int)) rfl Tryd.underlying29 rfl (hr5).1 rfl) ?_
    refine Eng.sv rfl rfl (Eng.x_mv (v := (.int .i64 0)) rfl rfl) ?_
    refine Eng.nil ?_
    refine hK13 _ _ ?_
    refine Eng.blk ?_
    refine Eng.loopN (fun zz u w' => ∃ (k : Nat), ∃ (s : List (Nat × List UInt8)), ∃ (vp : Value), zz = ds.length - k ∧ k ≤ ds.length ∧ PK s (ds.take k) 0 ∧ Eng.Has u [(2, (.pointer (some ⟨w.heap.size, 0, none⟩))), (3, vp), (14, v), (15, (.int .i64 (ds.length : Int))), (16, (.int .i64 (k : Int)))] ∧ Below w.heap.size w w' ∧ w2.heap.size ≤ w'.heap.size ∧ Blk w' w.heap.size 24 (bcs Oct.dz) ∧ Eng.OwnL 105 33 encP w2.heap.size w' vp s.reverse) _ ⟨0, [], (.slice none 0 0), rfl, Nat.zero_le _, rfl, ⟨rfl, rfl, rfl, rfl, (Eng.ie (by first | omega | rfl)), trivial⟩, hb2, (Nat.le_refl _), hk2, (Eng.OwnL.nil _ _ _ _ _)⟩ ?_
    rintro _ u14 w14 ⟨k, s, vp, rfl, hs14_0, hs14_1, hH14, hBL14, hzL14, hkL14_0, hrL14_0⟩ K14 hK14
    obtain ⟨u14, rfl⟩ := hH14.ex
    have hk_ : k ≤ ds.length := hs14_0
    have hs_ : PK s (ds.take k) 0 := hs14_1
    refine Eng.seqk fun K15 hK15 => ?_
    refine Eng.reg ?_
    by_cases h17 : ((k : Int) : Int) < (ds.length : Int)
    · skip
      refine Eng.sv rfl rfl (Eng.x_lt (r := true) rfl rfl rfl (decide_eq_true (by omega))) ?_
      refine Eng.nil ?_
      refine hK15 _ _ ?_
      refine Eng.seqk fun K16 hK16 => ?_
      refine Eng.cond_t rfl ?_
      refine Eng.skp ?_
      refine hK16 _ _ ?_
      refine Eng.seqk fun K17 hK17 => ?_
      refine Eng.blk ?_
      refine Eng.seqk fun K18 hK18 => ?_
      refine Eng.reg ?_
      have hr19 := (h).below hBL14
      refine Eng.sv rfl rfl (Eng.x_ia (v := v) (j := k) rfl Tryd.underlying29 sz24_rt (by decide) rfl rfl (hr19).1 (Dsl.dcs_len _ (hr19).2) (by omega) (by omega)) ?_
      refine Eng.sv rfl rfl (Eng.x_ldA (v := (dg ((ds).getD k []))) rfl ag24_rt sz24_rt rfl ((bcs_length _).trans (Eng.ds_len hr19 (by omega))) (Eng.ds_at hr19 (by omega)) rfl) ?_
      refine Eng.al rfl rfl rfl zr24_rt (cs := (bcs Oct.dz)) rfl ?_
      intro w20 hk20 hb20 hz20
      refine Eng.stB (v := (dg ((ds).getD k []))) rfl rfl rfl sz24_rt rfl hk20 rfl rfl (cs' := (bcs ((ds).getD k []))) rfl ((bcs_length _).trans (Eng.ds_len hr19 (by omega))) (bcs_one _) ?_
      intro w21 hk21 hg21
      refine Eng.nil ?_
      refine hK18 _ _ ?_
      refine Eng.seqk fun K22 hK22 => ?_
      refine Eng.reg ?_
      refine Eng.sv rfl rfl (Eng.x_ldB (v := (dg ((ds).getD k []))) rfl ag24_rt sz24_rt rfl hk21 ((bcs_length _).trans (Eng.ds_len hr19 (by omega))) rfl) ?_
      refine Eng.sv rfl rfl (Eng.x_build (ps := [(0, (.int .i64 1)), (1, (dg ((ds).getD k [])))]) (v := (.agg ((.int .i64 1) :: (bcs ((ds).getD k [])) : List Value).toArray)) rfl rfl (bldP 1 ((ds).getD k []) (Eng.ds_len hr19 (by omega)) _)) ?_
      refine Eng.al rfl rfl rfl zr105_rt (cs := ((.int .i64 0) :: (bcs Oct.dz))) rfl ?_
      intro w23 hk23 hb23 hz23
      refine Eng.stB (v := (.agg ((.int .i64 1) :: (bcs ((ds).getD k [])) : List Value).toArray)) rfl rfl rfl sz105_rt rfl hk23 (Eng.len_cons (.int .i64 0) (Eng.len_dg Oct.dz_length)) rfl (cs' := ((.int .i64 1) :: (bcs ((ds).getD k [])))) rfl (Eng.len_cons (.int .i64 1) (Eng.len_dg (Eng.ds_len hr19 (by omega)))) (Eng.one_cons rfl (bcs_one _)) ?_
      intro w24 hk24 hg24
      refine Eng.nil ?_
      refine hK22 _ _ ?_
      refine Eng.seqk fun K25 hK25 => ?_
      refine Eng.blk ?_
      have hx32 : (ds.getD k []).length = 32 := by rw [List.getD_eq_getElem?_getD, List.getElem?_eq_getElem (by omega)]; exact h.2 _ (List.getElem_mem _)
      have q26 : Blk w24 w21.heap.size 105 (.int .i64 ((2 ^ 0 : Nat) : Int) :: bcs (R [ds.getD k []])) := by rw [R_one [ds.getD k []] (by simp)]; exact hk24
      have hcat : ds.take k ++ [ds.getD k []] = ds.take (k + 1) := by rw [take_snoc ds k (by omega), List.getD_eq_getElem?_getD, List.getElem?_eq_getElem (by omega)]; rfl
      have hB2_4 : Below w14.heap.size w14 w21 := (hb20).grown hg21 (hb20).size (fun k e => by cases e; exact Nat.le_trans (Nat.le_refl _) (Nat.le_refl _))
      have hr27 := ((((hrL14_0).below hb20).kept hg21 (.inr (fun e => absurd ((World.ownsRow.lt (hrL14_0).1) _ e).2 (Nat.not_lt_of_le (Nat.le_trans (Nat.le_refl _) (Nat.le_refl _)))))).below hb23).kept hg24 (.inr (fun e => absurd ((World.ownsRow.lt (hrL14_0).1) _ e).2 (Nat.not_lt_of_le (Nat.le_trans (hB2_4).size (Nat.le_refl _)))))
      have hk29 := ((((hkL14_0).below hb20).grown hg21 (fun e => absurd (Option.some.inj e) (Nat.ne_of_lt (Nat.lt_of_lt_of_le hz2 (Nat.le_trans hzL14 (Nat.le_refl _)))))).below hb23).grown hg24 (fun e => absurd (Option.some.inj e) (Nat.ne_of_lt (Nat.lt_of_lt_of_le hz2 (Nat.le_trans (Nat.le_trans (Nat.le_trans hzL14 (hb20).size) (hg21).size) (Nat.le_refl _)))))
      have hB0_3 : Below w.heap.size w w20 := (hBL14).trans (hb20.mono (hBL14).size)
      have hB0_4 : Below w.heap.size w w21 := (hB0_3).grown hg21 (hB0_3).size (fun k e => by cases e; exact Nat.le_trans (hBL14).size (Nat.le_refl _))
      have hB0_5 : Below w.heap.size w w23 := (hB0_4).trans (hb23.mono (hB0_4).size)
      have hB0_6 : Below w.heap.size w w24 := (hB0_5).grown hg24 (hB0_5).size (fun k e => by cases e; exact Nat.le_trans (hB0_4).size (Nat.le_refl _))
      refine Eng.loopN (fun zz u w' => ∃ (j : Nat), ∃ (s1 : List (Nat × List UInt8)), ∃ (a1 : List (List UInt8)), ∃ (b1 : List (List UInt8)), ∃ (vi : Value), zz = s1.length ∧ PK s1 a1 j ∧ b1.length = 2 ^ j ∧ a1 ++ b1 = ds.take (k + 1) ∧ Eng.Has u [(2, (.pointer (some ⟨w.heap.size, 0, none⟩))), (3, vi), (6, (.pointer (some ⟨w21.heap.size, 0, none⟩))), (14, v), (15, (.int .i64 (ds.length : Int))), (16, (.int .i64 (k : Int)))] ∧ Below w.heap.size w w' ∧ w24.heap.size ≤ w'.heap.size ∧ Blk w' w.heap.size 24 (bcs Oct.dz) ∧ Blk w' w21.heap.size 105 ((.int .i64 ((2 ^ j : Nat) : Int)) :: (bcs (R b1))) ∧ Eng.OwnL 105 33 encP w2.heap.size w' vi s1.reverse ∧ (∀ g_, vi.ownBlock = some g_ → g_ < w21.heap.size)) _ ⟨0, s, ds.take k, [ds.getD k []], vp, rfl, hs_, rfl, hcat, ⟨rfl, rfl, rfl, rfl, rfl, rfl, trivial⟩, hB0_6, (Nat.le_refl _), hk29, q26, hr27, (fun g_ e_ => Nat.lt_of_lt_of_le ((World.ownsRow.lt (hrL14_0).1) g_ e_).2 (hB2_4).size)⟩ ?_
      rintro _ u28 w28 ⟨j, s1, a1, b1, vi, rfl, hs28_0, hs28_1, hs28_2, hH28, hBL28, hzL28, hkL28_0, hkL28_1, hrL28_0, hvlt⟩ K28 hK28
      obtain ⟨u28, rfl⟩ := hH28.ex
      have hPK : PK s1 a1 j := hs28_0
      have hbl : b1.length = 2 ^ j := hs28_1
      have hab : a1 ++ b1 = ds.take (k + 1) := hs28_2
      have hj0 : 0 < 2 ^ j := Nat.pos_of_ne_zero (by simp)
      have hRb : (R b1).length = 32 := R_len b1 (all32_sub h.2 hab) (by omega)
      have hlen := len_sub hab
      have hsh : s1.length ≤ 50 := PK.short hPK (by omega)
      have hlr : s1.reverse.length = s1.length := List.length_reverse
      have hP : ∀ p ∈ s1.reverse, p.2.length = 32 := fun p hp => PK.mem32 hPK (fun d hd => h.2 d (List.mem_of_mem_take (by rw [← hab]; exact List.mem_append_left _ hd))) p (List.mem_reverse.1 hp)
      have hltV : ∀ g_, vi.ownBlock = some g_ → w2.heap.size ≤ g_ ∧ g_ < w21.heap.size := fun g_ e_ => ⟨((World.ownsRow.lt (hrL28_0).1) g_ e_).1, hvlt g_ e_⟩
      refine Eng.seqk fun K30 hK30 => ?_
      refine Eng.seqk fun K31 hK31 => ?_
      by_cases hz : s1.length = 0
      · skip
        have hst : s1 = [] ∨ ∃ q r, s1 = q :: r ∧ q.1 ≠ 2 ^ j := .inl (List.eq_nil_of_length_eq_zero hz)
        refine Eng.draw 15 [fun (vQ : Value) (_ : World) => vQ = vi, fun (vQ : Value) (_ : World) => vQ = (.int .i64 (s1.reverse.length : Int)), fun (vQ : Value) (_ : World) => vQ = (.bool false), fun (vQ : Value) (_ : World) => vQ = (.bool false), fun (vQ : Value) (_ : World) => vQ = undef, fun (vQ : Value) (_ : World) => vQ = undef, fun (vQ : Value) (_ : World) => vQ = undef, fun (vQ : Value) (_ : World) => vQ = undef, fun (vQ : Value) (_ : World) => vQ = undef, fun (vQ : Value) (_ : World) => vQ = undef, fun (vQ : Value) (_ : World) => vQ = undef, fun (vQ : Value) (_ : World) => vQ = undef, fun (vQ : Value) (_ : World) => vQ = undef, fun (vQ : Value) (_ : World) => vQ = undef, fun (vQ : Value) (_ : World) => vQ = (.bool false)] (by kernel_rfl) (by kernel_rfl) (by kernel_rfl) (by kernel_rfl) rfl rfl ?_ ?_ ?_
        · exact ⟨fun _ _ _ h _ => h, fun _ _ _ h _ => h, fun _ _ _ h _ => h, fun _ _ _ h _ => h, fun _ _ _ h _ => h, fun _ _ _ h _ => h, fun _ _ _ h _ => h, fun _ _ _ h _ => h, fun _ _ _ h _ => h, fun _ _ _ h _ => h, fun _ _ _ h _ => h, fun _ _ _ h _ => h, fun _ _ _ h _ => h, fun _ _ _ h _ => h, fun _ _ _ h _ => h, trivial⟩
        · refine ⟨?_, ?_, ?_, ?_, ?_, ?_, ?_, ?_, ?_, ?_, ?_, ?_, ?_, ?_, ?_, trivial⟩
          · intro u' W hbW hkp hdp K hK
            refine Eng.dv rfl rfl ?_ (hK _ _ (Below.refl _ _) rfl)
            exact (Eng.x_mv (v := vi) rfl (show Eng.opv 81 u' (.tmp 3) = vi from hkp 3 rfl))
          · intro u' W hbW hkp hdp K hK
            have e0 : (fun (vQ : Value) (_ : World) => vQ = vi) (u' 22) W := hdp.1
            refine Eng.dv rfl rfl ?_ (hK _ _ (Below.refl _ _) rfl)
            exact (Eng.x_len (v := vi) (r := (s1.reverse.length : Int)) rfl Tryd.underlying103 (show Eng.opv 81 u' (.tmp 22) = vi from e0) (((hrL28_0).below hbW)).row rfl)
          · intro u' W hbW hkp hdp K hK
            have e1 : (fun (vQ : Value) (_ : World) => vQ = (.int .i64 (s1.reverse.length : Int))) (u' 23) W := hdp.1
            refine Eng.dv rfl rfl ?_ (hK _ _ (Below.refl _ _) rfl)
            exact (Eng.x_gt (r := false) rfl (show Eng.opv 81 u' (.tmp 23) = (.int .i64 (s1.reverse.length : Int)) from e1) rfl (decide_eq_false (by omega)))
          · intro u' W hbW hkp hdp K hK
            have e2 : (fun (vQ : Value) (_ : World) => vQ = (.bool false)) (u' 24) W := hdp.1
            refine Eng.dv rfl rfl ?_ (hK _ _ (Below.refl _ _) rfl)
            exact (Eng.x_mv (v := (.bool false)) rfl (show Eng.opv 81 u' (.tmp 24) = (.bool false) from e2))
          · intro u' W hbW hkp hdp K hK
            have e3 : (fun (vQ : Value) (_ : World) => vQ = (.bool false)) (u' 25) W := hdp.1
            exact Eng.dg0 (Eng.gf rfl rfl rfl (show Eng.opv 81 u' (.tmp 25) = (.bool false) from e3)) rfl (hK _ _ (Below.refl _ _) rfl)
          · intro u' W hbW hkp hdp K hK
            have e3 : (fun (vQ : Value) (_ : World) => vQ = (.bool false)) (u' 25) W := hdp.1
            exact Eng.dg0 (Eng.gf rfl rfl rfl (show Eng.opv 81 u' (.tmp 25) = (.bool false) from e3)) rfl (hK _ _ (Below.refl _ _) rfl)
          · intro u' W hbW hkp hdp K hK
            have e3 : (fun (vQ : Value) (_ : World) => vQ = (.bool false)) (u' 25) W := hdp.2.1
            exact Eng.dg0 (Eng.gf rfl rfl rfl (show Eng.opv 81 u' (.tmp 25) = (.bool false) from e3)) rfl (hK _ _ (Below.refl _ _) rfl)
          · intro u' W hbW hkp hdp K hK
            have e3 : (fun (vQ : Value) (_ : World) => vQ = (.bool false)) (u' 25) W := hdp.2.1
            exact Eng.dg0 (Eng.gf rfl rfl rfl (show Eng.opv 81 u' (.tmp 25) = (.bool false) from e3)) rfl (hK _ _ (Below.refl _ _) rfl)
          · intro u' W hbW hkp hdp K hK
            have e3 : (fun (vQ : Value) (_ : World) => vQ = (.bool false)) (u' 25) W := hdp.2.2.1
            exact Eng.dg0 (Eng.gf rfl rfl rfl (show Eng.opv 81 u' (.tmp 25) = (.bool false) from e3)) rfl (hK _ _ (Below.refl _ _) rfl)
          · intro u' W hbW hkp hdp K hK
            have e3 : (fun (vQ : Value) (_ : World) => vQ = (.bool false)) (u' 25) W := hdp.2.1
            exact Eng.dg0 (Eng.gf rfl rfl rfl (show Eng.opv 81 u' (.tmp 25) = (.bool false) from e3)) rfl (hK _ _ (Below.refl _ _) rfl)
          · intro u' W hbW hkp hdp K hK
            have e3 : (fun (vQ : Value) (_ : World) => vQ = (.bool false)) (u' 25) W := hdp.2.1
            exact Eng.dg0 (Eng.gf rfl rfl rfl (show Eng.opv 81 u' (.tmp 25) = (.bool false) from e3)) rfl (hK _ _ (Below.refl _ _) rfl)
          · intro u' W hbW hkp hdp K hK
            have e3 : (fun (vQ : Value) (_ : World) => vQ = (.bool false)) (u' 25) W := hdp.1
            exact Eng.dg0 (Eng.gf rfl rfl rfl (show Eng.opv 81 u' (.tmp 25) = (.bool false) from e3)) rfl (hK _ _ (Below.refl _ _) rfl)
          · intro u' W hbW hkp hdp K hK
            have e3 : (fun (vQ : Value) (_ : World) => vQ = (.bool false)) (u' 25) W := hdp.2.1
            exact Eng.dg0 (Eng.gf rfl rfl rfl (show Eng.opv 81 u' (.tmp 25) = (.bool false) from e3)) rfl (hK _ _ (Below.refl _ _) rfl)
          · intro u' W hbW hkp hdp K hK
            have e3 : (fun (vQ : Value) (_ : World) => vQ = (.bool false)) (u' 25) W := hdp.2.2.1
            exact Eng.dg0 (Eng.gf rfl rfl rfl (show Eng.opv 81 u' (.tmp 25) = (.bool false) from e3)) rfl (hK _ _ (Below.refl _ _) rfl)
          · intro u' W hbW hkp hdp K hK
            have e3 : (fun (vQ : Value) (_ : World) => vQ = (.bool false)) (u' 25) W := hdp.1
            have e13 : (fun (vQ : Value) (_ : World) => vQ = undef) (u' 35) W := hdp.2.1
            refine Eng.dv rfl rfl ?_ (hK _ _ (Below.refl _ _) rfl)
            exact (Eng.x_pick (v := (.bool false)) rfl (show Eng.opv 81 u' (.tmp 25) = (.bool false) from e3) (show Eng.opv 81 u' (.tmp 35) = undef from e13) rfl rfl)
        · intro ud32 w32 hb32 hkp32 ⟨f32_0, f32_1, f32_2, f32_3, f32_4, f32_5, f32_6, f32_7, f32_8, f32_9, f32_10, f32_11, f32_12, f32_13, f32_14, _⟩
          obtain rfl := Eng.collect (l := [(22, vi), (23, (.int .i64 (s1.reverse.length : Int))), (24, (.bool false)), (25, (.bool false)), (26, undef), (27, undef), (28, undef), (29, undef), (30, undef), (31, undef), (32, undef), (33, undef), (34, undef), (35, undef), (36, (.bool false))]) hkp32 ⟨f32_0, f32_1, f32_2, f32_3, f32_4, f32_5, f32_6, f32_7, f32_8, f32_9, f32_10, f32_11, f32_12, f32_13, f32_14, trivial⟩ rfl
          refine Eng.nil ?_
          refine hK31 _ _ ?_
          refine Eng.cond_f rfl ?_
          refine Eng.xt ?_
          refine Eng.te ?_
          refine Eng.te ?_
          refine Eng.be ?_
          refine hK25 _ _ ?_
          refine Eng.reg ?_
          refine Eng.sv rfl rfl (Eng.x_mv (v := vi) rfl rfl) ?_
          have hk33 := (hkL28_1).below hb32
          refine Eng.sv rfl rfl (Eng.x_ldB (v := (.agg ((.int .i64 ((2 ^ j : Nat) : Int)) :: (bcs (R b1)) : List Value).toArray)) rfl ag105_rt sz105_rt rfl hk33 (Eng.len_cons (.int .i64 ((2 ^ j : Nat) : Int)) (Eng.len_dg hRb)) rfl) ?_
          refine Eng.bs (vs := [(.agg ((.int .i64 ((2 ^ j : Nat) : Int)) :: (bcs (R b1)) : List Value).toArray)]) (cs := ((.int .i64 ((2 ^ j : Nat) : Int)) :: (bcs (R b1)))) rfl rfl rfl Tryd.underlying103 inL105_rt zP (by decide) rfl rfl (by decide) (by decide) (Eng.all_cons (p := fun v => v.cells.size = 33) (by simpa [Value.cells] using ((Eng.len_cons (.int .i64 ((2 ^ j : Nat) : Int)) (Eng.len_dg hRb)) : (((.int .i64 ((2 ^ j : Nat) : Int)) :: (bcs (R b1))) : List Value).length = 33)) Eng.all_nil) (by simp [Value.cells]) ?_
          intro w34 hk34 hb34 hz34
          have hr36 := ((hrL28_0).below hb32).below hb34
          refine Eng.apL (enc := encP) rfl rfl rfl Tryd.underlying103 inL105_rt zP (by decide) rfl hr36 rfl (Eng.rl_one (enc := encP) (sz := 33) (a := (2 ^ j, R b1)) hk34 (Eng.len_cons (.int .i64 ((2 ^ j : Nat) : Int)) (Eng.len_dg hRb))) (fun a _ c hc => one_part a c hc) (by simp only [List.length_cons, List.length_nil]; unfold maxLen; omega) (by simp only [List.length_cons, List.length_nil]; omega) (Nat.le_trans (Nat.le_trans (Nat.le_trans (Nat.le_trans (Nat.le_trans (Nat.le_trans (Nat.le_trans hzL14 (hb20).size) (hg21).size) (hb23).size) (hg24).size) hzL28) (hb32).size) (hb34).size) ?_
          intro v35 w35 ho35 hg35
          rw [← List.reverse_cons] at ho35
          refine Eng.sv rfl rfl (Eng.x_as (v := v35) rfl rfl) ?_
          refine Eng.nil ?_
          refine Eng.nb ?_
          refine hK17 _ _ ?_
          refine Eng.reg ?_
          refine Eng.sv rfl rfl (Eng.x_add rfl rfl rfl (Eng.w64 (r := ((k : Int) + 1)) (by omega))) ?_
          refine Eng.sv rfl rfl (Eng.x_mv (v := (.int .i64 ((k : Int) + 1))) rfl rfl) ?_
          refine Eng.nil ?_
          have hB0_8 : Below w.heap.size w w32 := (hBL28).trans (hb32.mono (hBL28).size)
          have hB0_9 : Below w.heap.size w w34 := (hB0_8).trans (hb34.mono (hB0_8).size)
          have hB0_10 : Below w.heap.size w w35 := (hB0_9).grown hg35 (hB0_9).size (fun k e => Nat.le_trans (hb2).size (hltV _ e).1)
          have hk37 := (((hkL28_0).below hb32).below hb34).grown hg35 (fun e => absurd (hltV _ e.symm).1 (Nat.not_le_of_lt (Nat.lt_of_lt_of_le hz2 (Nat.le_refl _))))
          exact hK14 _ _ _ ⟨k + 1, ((2 ^ j, R b1) :: s1), v35, rfl, by omega, (by rw [← hab]; exact PK.stay hPK hst hbl), ⟨rfl, rfl, rfl, rfl, (Eng.ie (by first | omega | rfl)), trivial⟩, hB0_10, (Nat.le_trans (Nat.le_trans (Nat.le_trans (Nat.le_trans (Nat.le_trans (Nat.le_trans (Nat.le_trans (Nat.le_trans hzL14 (hb20).size) (hg21).size) (hb23).size) (hg24).size) hzL28) (hb32).size) (hb34).size) (hg35).size), hk37, ho35⟩ (by omega)
      · skip
        obtain ⟨q, r, hqr⟩ := cons_of hz
        have hql := (rev_last hqr).1
        have hcut := (rev_last hqr).2
        by_cases hq : q.1 = 2 ^ j
        · skip
          obtain ⟨a2, b2, m1, m2, m3, m4⟩ := PK.merge (hqr ▸ hPK) hq hbl (by rw [List.length_append]; omega)
          have hlen2 := len_sub (m3.trans hab)
          have hRb2 : (R b2).length = 32 := R_len b2 (all32_sub h.2 (m3.trans hab)) (by rw [m2]; exact Nat.pos_of_ne_zero (by simp))
          have hp2 := Nat.pow_succ 2 j
          refine Eng.draw 15 [fun (vQ : Value) (_ : World) => vQ = vi, fun (vQ : Value) (_ : World) => vQ = (.int .i64 (s1.reverse.length : Int)), fun (vQ : Value) (_ : World) => vQ = (.bool true), fun (vQ : Value) (_ : World) => vQ = (.bool true), fun (vQ : Value) (_ : World) => vQ = vi, fun (vQ : Value) (_ : World) => vQ = vi, fun (vQ : Value) (_ : World) => vQ = (.int .i64 (s1.reverse.length : Int)), fun (vQ : Value) (_ : World) => vQ = (.int .i64 ((s1.reverse.length - 1 : Nat) : Int)), fun (vQ : Value) (_ : World) => vQ = (.pointer (some ((Eng.sAddr vi).add ((s1.reverse.length - 1) * 33)))), fun (vQ : Value) (_ : World) => vQ = (.pointer (some (((Eng.sAddr vi).add ((s1.reverse.length - 1) * 33)).add 0))), fun (vQ : Value) (_ : World) => vQ = (.int .i64 (((s1.reverse).getD (s1.reverse.length - 1) dP).1 : Int)), fun (vQ : Value) (_ : World) => vQ = (.pointer (some ⟨w21.heap.size, 0, none⟩)), fun (vQ : Value) (_ : World) => vQ = (.int .i64 ((2 ^ j : Nat) : Int)), fun (vQ : Value) (_ : World) => vQ = (.bool true), fun (vQ : Value) (_ : World) => vQ = (.bool true)] (by kernel_rfl) (by kernel_rfl) (by kernel_rfl) (by kernel_rfl) rfl rfl ?_ ?_ ?_
          · exact ⟨fun _ _ _ h _ => h, fun _ _ _ h _ => h, fun _ _ _ h _ => h, fun _ _ _ h _ => h, fun _ _ _ h _ => h, fun _ _ _ h _ => h, fun _ _ _ h _ => h, fun _ _ _ h _ => h, fun _ _ _ h _ => h, fun _ _ _ h _ => h, fun _ _ _ h _ => h, fun _ _ _ h _ => h, fun _ _ _ h _ => h, fun _ _ _ h _ => h, fun _ _ _ h _ => h, trivial⟩
          · refine ⟨?_, ?_, ?_, ?_, ?_, ?_, ?_, ?_, ?_, ?_, ?_, ?_, ?_, ?_, ?_, trivial⟩
            · intro u' W hbW hkp hdp K hK
              refine Eng.dv rfl rfl ?_ (hK _ _ (Below.refl _ _) rfl)
              exact (Eng.x_mv (v := vi) rfl (show Eng.opv 81 u' (.tmp 3) = vi from hkp 3 rfl))
            · intro u' W hbW hkp hdp K hK
              have e0 : (fun (vQ : Value) (_ : World) => vQ = vi) (u' 22) W := hdp.1
              refine Eng.dv rfl rfl ?_ (hK _ _ (Below.refl _ _) rfl)
              exact (Eng.x_len (v := vi) (r := (s1.reverse.length : Int)) rfl Tryd.underlying103 (show Eng.opv 81 u' (.tmp 22) = vi from e0) (((hrL28_0).below hbW)).row rfl)
            · intro u' W hbW hkp hdp K hK
              have e1 : (fun (vQ : Value) (_ : World) => vQ = (.int .i64 (s1.reverse.length : Int))) (u' 23) W := hdp.1
              refine Eng.dv rfl rfl ?_ (hK _ _ (Below.refl _ _) rfl)
              exact (Eng.x_gt (r := true) rfl (show Eng.opv 81 u' (.tmp 23) = (.int .i64 (s1.reverse.length : Int)) from e1) rfl (decide_eq_true (by omega)))
            · intro u' W hbW hkp hdp K hK
              have e2 : (fun (vQ : Value) (_ : World) => vQ = (.bool true)) (u' 24) W := hdp.1
              refine Eng.dv rfl rfl ?_ (hK _ _ (Below.refl _ _) rfl)
              exact (Eng.x_mv (v := (.bool true)) rfl (show Eng.opv 81 u' (.tmp 24) = (.bool true) from e2))
            · intro u' W hbW hkp hdp K hK
              have e3 : (fun (vQ : Value) (_ : World) => vQ = (.bool true)) (u' 25) W := hdp.1
              refine Eng.dv (Eng.gt rfl rfl rfl (show Eng.opv 81 u' (.tmp 25) = (.bool true) from e3)) rfl ?_ (hK _ _ (Below.refl _ _) rfl)
              exact (Eng.x_mv (v := vi) rfl (show Eng.opv 81 u' (.tmp 3) = vi from hkp 3 rfl))
            · intro u' W hbW hkp hdp K hK
              have e3 : (fun (vQ : Value) (_ : World) => vQ = (.bool true)) (u' 25) W := hdp.1
              refine Eng.dv (Eng.gt rfl rfl rfl (show Eng.opv 81 u' (.tmp 25) = (.bool true) from e3)) rfl ?_ (hK _ _ (Below.refl _ _) rfl)
              exact (Eng.x_mv (v := vi) rfl (show Eng.opv 81 u' (.tmp 3) = vi from hkp 3 rfl))
            · intro u' W hbW hkp hdp K hK
              have e3 : (fun (vQ : Value) (_ : World) => vQ = (.bool true)) (u' 25) W := hdp.2.1
              have e5 : (fun (vQ : Value) (_ : World) => vQ = vi) (u' 27) W := hdp.1
              refine Eng.dv (Eng.gt rfl rfl rfl (show Eng.opv 81 u' (.tmp 25) = (.bool true) from e3)) rfl ?_ (hK _ _ (Below.refl _ _) rfl)
              exact (Eng.x_len (v := vi) (r := (s1.reverse.length : Int)) rfl Tryd.underlying103 (show Eng.opv 81 u' (.tmp 27) = vi from e5) (((hrL28_0).below hbW)).row rfl)
            · intro u' W hbW hkp hdp K hK
              have e3 : (fun (vQ : Value) (_ : World) => vQ = (.bool true)) (u' 25) W := hdp.2.1
              have e6 : (fun (vQ : Value) (_ : World) => vQ = (.int .i64 (s1.reverse.length : Int))) (u' 28) W := hdp.1
              refine Eng.dv (Eng.gt rfl rfl rfl (show Eng.opv 81 u' (.tmp 25) = (.bool true) from e3)) rfl ?_ (hK _ _ (Below.refl _ _) rfl)
              exact (Eng.x_sub rfl (show Eng.opv 81 u' (.tmp 28) = (.int .i64 (s1.reverse.length : Int)) from e6) rfl (Eng.w64 (r := ((s1.reverse.length - 1 : Nat) : Int)) (by omega)))
            · intro u' W hbW hkp hdp K hK
              have e3 : (fun (vQ : Value) (_ : World) => vQ = (.bool true)) (u' 25) W := hdp.2.2.1
              have e4 : (fun (vQ : Value) (_ : World) => vQ = vi) (u' 26) W := hdp.1
              have e7 : (fun (vQ : Value) (_ : World) => vQ = (.int .i64 ((s1.reverse.length - 1 : Nat) : Int))) (u' 29) W := hdp.2.1
              refine Eng.dv (Eng.gt rfl rfl rfl (show Eng.opv 81 u' (.tmp 25) = (.bool true) from e3)) rfl ?_ (hK _ _ (Below.refl _ _) rfl)
              exact (Eng.x_ia (v := vi) (j := s1.reverse.length - 1) rfl Tryd.underlying103 sz105_rt (by decide) (show Eng.opv 81 u' (.tmp 26) = vi from e4) (show Eng.opv 81 u' (.tmp 29) = (.int .i64 ((s1.reverse.length - 1 : Nat) : Int)) from e7) (((hrL28_0).below hbW)).row (Eng.flat_len (((hrL28_0).below hbW)).2) (by omega) (by omega))
            · intro u' W hbW hkp hdp K hK
              have e3 : (fun (vQ : Value) (_ : World) => vQ = (.bool true)) (u' 25) W := hdp.2.1
              have e8 : (fun (vQ : Value) (_ : World) => vQ = (.pointer (some ((Eng.sAddr vi).add ((s1.reverse.length - 1) * 33))))) (u' 30) W := hdp.1
              refine Eng.dv (Eng.gt rfl rfl rfl (show Eng.opv 81 u' (.tmp 25) = (.bool true) from e3)) rfl ?_ (hK _ _ (Below.refl _ _) rfl)
              exact (Eng.x_fa (v := (.pointer (some (((Eng.sAddr vi).add ((s1.reverse.length - 1) * 33)).add 0)))) rfl (show Eng.opv 81 u' (.tmp 30) = (.pointer (some ((Eng.sAddr vi).add ((s1.reverse.length - 1) * 33)))) from e8) (by kernel_rfl))
            · intro u' W hbW hkp hdp K hK
              have e3 : (fun (vQ : Value) (_ : World) => vQ = (.bool true)) (u' 25) W := hdp.2.1
              have e9 : (fun (vQ : Value) (_ : World) => vQ = (.pointer (some (((Eng.sAddr vi).add ((s1.reverse.length - 1) * 33)).add 0)))) (u' 31) W := hdp.1
              refine Eng.dv (Eng.gt rfl rfl rfl (show Eng.opv 81 u' (.tmp 25) = (.bool true) from e3)) rfl ?_ (hK _ _ (Below.refl _ _) rfl)
              exact (Eng.x_ld1 (v := (.int .i64 (((s1.reverse).getD (s1.reverse.length - 1) dP).1 : Int))) rfl ag3_rt (show Eng.opv 81 u' (.tmp 31) = (.pointer (some (((Eng.sAddr vi).add ((s1.reverse.length - 1) * 33)).add 0))) from e9) (Eng.rl_cell (((hrL28_0).below hbW)).rl dP (by omega) rfl))
            · intro u' W hbW hkp hdp K hK
              have e3 : (fun (vQ : Value) (_ : World) => vQ = (.bool true)) (u' 25) W := hdp.1
              refine Eng.dv (Eng.gt rfl rfl rfl (show Eng.opv 81 u' (.tmp 25) = (.bool true) from e3)) rfl ?_ (hK _ _ (Below.refl _ _) rfl)
              exact (Eng.x_fa (v := (.pointer (some ⟨w21.heap.size, 0, none⟩))) rfl (show Eng.opv 81 u' (.tmp 6) = (.pointer (some ⟨w21.heap.size, 0, none⟩)) from hkp 6 rfl) (by kernel_rfl))
            · intro u' W hbW hkp hdp K hK
              have e3 : (fun (vQ : Value) (_ : World) => vQ = (.bool true)) (u' 25) W := hdp.2.1
              have e11 : (fun (vQ : Value) (_ : World) => vQ = (.pointer (some ⟨w21.heap.size, 0, none⟩))) (u' 33) W := hdp.1
              refine Eng.dv (Eng.gt rfl rfl rfl (show Eng.opv 81 u' (.tmp 25) = (.bool true) from e3)) rfl ?_ (hK _ _ (Below.refl _ _) rfl)
              exact (Eng.x_ld1 (v := (.int .i64 ((2 ^ j : Nat) : Int))) rfl ag3_rt (show Eng.opv 81 u' (.tmp 33) = (.pointer (some ⟨w21.heap.size, 0, none⟩)) from e11) ((((hkL28_1).below hbW)).cell 0))
            · intro u' W hbW hkp hdp K hK
              have e3 : (fun (vQ : Value) (_ : World) => vQ = (.bool true)) (u' 25) W := hdp.2.2.1
              have e10 : (fun (vQ : Value) (_ : World) => vQ = (.int .i64 (((s1.reverse).getD (s1.reverse.length - 1) dP).1 : Int))) (u' 32) W := hdp.1
              have e12 : (fun (vQ : Value) (_ : World) => vQ = (.int .i64 ((2 ^ j : Nat) : Int))) (u' 34) W := hdp.2.1
              refine Eng.dv (Eng.gt rfl rfl rfl (show Eng.opv 81 u' (.tmp 25) = (.bool true) from e3)) rfl ?_ (hK _ _ (Below.refl _ _) rfl)
              exact (Eng.x_eq (r := true) rfl (show Eng.opv 81 u' (.tmp 32) = (.int .i64 (((s1.reverse).getD (s1.reverse.length - 1) dP).1 : Int)) from e10) (show Eng.opv 81 u' (.tmp 34) = (.int .i64 ((2 ^ j : Nat) : Int)) from e12) (Eng.eq_t (by rw [hql]; omega)))
            · intro u' W hbW hkp hdp K hK
              have e3 : (fun (vQ : Value) (_ : World) => vQ = (.bool true)) (u' 25) W := hdp.1
              have e13 : (fun (vQ : Value) (_ : World) => vQ = (.bool true)) (u' 35) W := hdp.2.1
              refine Eng.dv rfl rfl ?_ (hK _ _ (Below.refl _ _) rfl)
              exact (Eng.x_pick (v := (.bool true)) rfl (show Eng.opv 81 u' (.tmp 25) = (.bool true) from e3) (show Eng.opv 81 u' (.tmp 35) = (.bool true) from e13) rfl rfl)
          · intro ud38 w38 hb38 hkp38 ⟨f38_0, f38_1, f38_2, f38_3, f38_4, f38_5, f38_6, f38_7, f38_8, f38_9, f38_10, f38_11, f38_12, f38_13, f38_14, _⟩
            obtain rfl := Eng.collect (l := [(22, vi), (23, (.int .i64 (s1.reverse.length : Int))), (24, (.bool true)), (25, (.bool true)), (26, vi), (27, vi), (28, (.int .i64 (s1.reverse.length : Int))), (29, (.int .i64 ((s1.reverse.length - 1 : Nat) : Int))), (30, (.pointer (some ((Eng.sAddr vi).add ((s1.reverse.length - 1) * 33))))), (31, (.pointer (some (((Eng.sAddr vi).add ((s1.reverse.length - 1) * 33)).add 0)))), (32, (.int .i64 (((s1.reverse).getD (s1.reverse.length - 1) dP).1 : Int))), (33, (.pointer (some ⟨w21.heap.size, 0, none⟩))), (34, (.int .i64 ((2 ^ j : Nat) : Int))), (35, (.bool true)), (36, (.bool true))]) hkp38 ⟨f38_0, f38_1, f38_2, f38_3, f38_4, f38_5, f38_6, f38_7, f38_8, f38_9, f38_10, f38_11, f38_12, f38_13, f38_14, trivial⟩ rfl
            refine Eng.nil ?_
            refine hK31 _ _ ?_
            refine Eng.cond_t rfl ?_
            refine Eng.skp ?_
            refine hK30 _ _ ?_
            refine Eng.blk ?_
            refine Eng.seqk fun K39 hK39 => ?_
            have hk41 := (hkL28_1).below hb38
            have hr42 := (hrL28_0).below hb38
            have hB0_8 : Below w.heap.size w w38 := (hBL28).trans (hb38.mono (hBL28).size)
            have hr43 := (hK).below hB0_8
            refine Eng.draw 14 [fun (vQ : Value) (_ : World) => vQ = (.pointer (some ⟨w21.heap.size, 0, none⟩)), fun (vQ : Value) (_ : World) => vQ = (.int .i64 ((2 ^ j : Nat) : Int)), fun (vQ : Value) (_ : World) => vQ = (.int .i64 ((2 ^ (j + 1) : Nat) : Int)), fun (vQ : Value) (_ : World) => vQ = vi, fun (vQ : Value) (_ : World) => vQ = vi, fun (vQ : Value) (_ : World) => vQ = (.int .i64 (s1.reverse.length : Int)), fun (vQ : Value) (_ : World) => vQ = (.int .i64 ((s1.reverse.length - 1 : Nat) : Int)), fun (vQ : Value) (_ : World) => vQ = (.pointer (some ((Eng.sAddr vi).add ((s1.reverse.length - 1) * 33)))), fun (vQ : Value) (_ : World) => vQ = (.pointer (some (((Eng.sAddr vi).add ((s1.reverse.length - 1) * 33)).add 1))), fun (vQ : Value) (_ : World) => vQ = (dg (((s1.reverse).getD (s1.reverse.length - 1) dP).2)), fun (vQ : Value) (_ : World) => vQ = (.pointer (some ⟨w21.heap.size, 1, none⟩)), fun (vQ : Value) (_ : World) => vQ = (dg (R b1)), fun (vQ : Value) (_ : World) => vQ = (dg (R b2)), fun (vQ : Value) (_ : World) => vQ = (.agg ((.int .i64 ((2 ^ (j + 1) : Nat) : Int)) :: (bcs (R b2)) : List Value).toArray)] (by kernel_rfl) (by kernel_rfl) (by kernel_rfl) (by kernel_rfl) rfl rfl ?_ ?_ ?_
            · exact ⟨fun _ _ _ h _ => h, fun _ _ _ h _ => h, fun _ _ _ h _ => h, fun _ _ _ h _ => h, fun _ _ _ h _ => h, fun _ _ _ h _ => h, fun _ _ _ h _ => h, fun _ _ _ h _ => h, fun _ _ _ h _ => h, fun _ _ _ h _ => h, fun _ _ _ h _ => h, fun _ _ _ h _ => h, fun _ _ _ h _ => h, fun _ _ _ h _ => h, trivial⟩
            · refine ⟨?_, ?_, ?_, ?_, ?_, ?_, ?_, ?_, ?_, ?_, ?_, ?_, ?_, ?_, trivial⟩
              · intro u' W hbW hkp hdp K hK
                refine Eng.dv rfl rfl ?_ (hK _ _ (Below.refl _ _) rfl)
                exact (Eng.x_fa (v := (.pointer (some ⟨w21.heap.size, 0, none⟩))) rfl (show Eng.opv 81 u' (.tmp 6) = (.pointer (some ⟨w21.heap.size, 0, none⟩)) from hkp 6 rfl) (by kernel_rfl))
              · intro u' W hbW hkp hdp K hK
                have e0 : (fun (vQ : Value) (_ : World) => vQ = (.pointer (some ⟨w21.heap.size, 0, none⟩))) (u' 37) W := hdp.1
                refine Eng.dv rfl rfl ?_ (hK _ _ (Below.refl _ _) rfl)
                exact (Eng.x_ld1 (v := (.int .i64 ((2 ^ j : Nat) : Int))) rfl ag3_rt (show Eng.opv 81 u' (.tmp 37) = (.pointer (some ⟨w21.heap.size, 0, none⟩)) from e0) ((((hk41).below hbW)).cell 0))
              · intro u' W hbW hkp hdp K hK
                have e1 : (fun (vQ : Value) (_ : World) => vQ = (.int .i64 ((2 ^ j : Nat) : Int))) (u' 38) W := hdp.1
                refine Eng.dv rfl rfl ?_ (hK _ _ (Below.refl _ _) rfl)
                exact (Eng.x_mul rfl rfl (show Eng.opv 81 u' (.tmp 38) = (.int .i64 ((2 ^ j : Nat) : Int)) from e1) (Eng.w64 (r := ((2 ^ (j + 1) : Nat) : Int)) (by omega)))
              · intro u' W hbW hkp hdp K hK
                refine Eng.dv rfl rfl ?_ (hK _ _ (Below.refl _ _) rfl)
                exact (Eng.x_mv (v := vi) rfl (show Eng.opv 81 u' (.tmp 3) = vi from hkp 3 rfl))
              · intro u' W hbW hkp hdp K hK
                refine Eng.dv rfl rfl ?_ (hK _ _ (Below.refl _ _) rfl)
                exact (Eng.x_mv (v := vi) rfl (show Eng.opv 81 u' (.tmp 3) = vi from hkp 3 rfl))
              · intro u' W hbW hkp hdp K hK
                have e4 : (fun (vQ : Value) (_ : World) => vQ = vi) (u' 41) W := hdp.1
                refine Eng.dv rfl rfl ?_ (hK _ _ (Below.refl _ _) rfl)
                exact (Eng.x_len (v := vi) (r := (s1.reverse.length : Int)) rfl Tryd.underlying103 (show Eng.opv 81 u' (.tmp 41) = vi from e4) (((hr42).below hbW)).row rfl)
              · intro u' W hbW hkp hdp K hK
                have e5 : (fun (vQ : Value) (_ : World) => vQ = (.int .i64 (s1.reverse.length : Int))) (u' 42) W := hdp.1
                refine Eng.dv rfl rfl ?_ (hK _ _ (Below.refl _ _) rfl)
                exact (Eng.x_sub rfl (show Eng.opv 81 u' (.tmp 42) = (.int .i64 (s1.reverse.length : Int)) from e5) rfl (Eng.w64 (r := ((s1.reverse.length - 1 : Nat) : Int)) (by omega)))
              · intro u' W hbW hkp hdp K hK
                have e3 : (fun (vQ : Value) (_ : World) => vQ = vi) (u' 40) W := hdp.1
                have e6 : (fun (vQ : Value) (_ : World) => vQ = (.int .i64 ((s1.reverse.length - 1 : Nat) : Int))) (u' 43) W := hdp.2.1
                refine Eng.dv rfl rfl ?_ (hK _ _ (Below.refl _ _) rfl)
                exact (Eng.x_ia (v := vi) (j := s1.reverse.length - 1) rfl Tryd.underlying103 sz105_rt (by decide) (show Eng.opv 81 u' (.tmp 40) = vi from e3) (show Eng.opv 81 u' (.tmp 43) = (.int .i64 ((s1.reverse.length - 1 : Nat) : Int)) from e6) (((hr42).below hbW)).row (Eng.flat_len (((hr42).below hbW)).2) (by omega) (by omega))
              · intro u' W hbW hkp hdp K hK
                have e7 : (fun (vQ : Value) (_ : World) => vQ = (.pointer (some ((Eng.sAddr vi).add ((s1.reverse.length - 1) * 33))))) (u' 44) W := hdp.1
                refine Eng.dv rfl rfl ?_ (hK _ _ (Below.refl _ _) rfl)
                exact (Eng.x_fa (v := (.pointer (some (((Eng.sAddr vi).add ((s1.reverse.length - 1) * 33)).add 1)))) rfl (show Eng.opv 81 u' (.tmp 44) = (.pointer (some ((Eng.sAddr vi).add ((s1.reverse.length - 1) * 33)))) from e7) (by kernel_rfl))
              · intro u' W hbW hkp hdp K hK
                have e8 : (fun (vQ : Value) (_ : World) => vQ = (.pointer (some (((Eng.sAddr vi).add ((s1.reverse.length - 1) * 33)).add 1)))) (u' 45) W := hdp.1
                refine Eng.dv rfl rfl ?_ (hK _ _ (Below.refl _ _) rfl)
                exact (Eng.x_ldA (v := (dg (((s1.reverse).getD (s1.reverse.length - 1) dP).2))) rfl ag24_rt sz24_rt (show Eng.opv 81 u' (.tmp 45) = (.pointer (some (((Eng.sAddr vi).add ((s1.reverse.length - 1) * 33)).add 1))) from e8) ((bcs_length _).trans (hP _ (Eng.getD_mem (d := dP) (l := s1.reverse) (by omega)))) (Eng.rl_tail (pre := [(.int .i64 (((s1.reverse).getD (s1.reverse.length - 1) dP).1 : Int))]) (mid := (bcs (((s1.reverse).getD (s1.reverse.length - 1) dP).2))) (((hr42).below hbW)).rl dP (by omega) rfl rfl) rfl)
              · intro u' W hbW hkp hdp K hK
                refine Eng.dv rfl rfl ?_ (hK _ _ (Below.refl _ _) rfl)
                exact (Eng.x_fa (v := (.pointer (some ⟨w21.heap.size, 1, none⟩))) rfl (show Eng.opv 81 u' (.tmp 6) = (.pointer (some ⟨w21.heap.size, 0, none⟩)) from hkp 6 rfl) (by kernel_rfl))
              · intro u' W hbW hkp hdp K hK
                have e10 : (fun (vQ : Value) (_ : World) => vQ = (.pointer (some ⟨w21.heap.size, 1, none⟩))) (u' 47) W := hdp.1
                refine Eng.dv rfl rfl ?_ (hK _ _ (Below.refl _ _) rfl)
                exact (Eng.x_ldA (v := (dg (R b1))) rfl ag24_rt sz24_rt (show Eng.opv 81 u' (.tmp 47) = (.pointer (some ⟨w21.heap.size, 1, none⟩)) from e10) ((bcs_length _).trans hRb) (Eng.blk_tail (pre := [(.int .i64 ((2 ^ j : Nat) : Int))]) (mid := (bcs (R b1))) ((hk41).below hbW) rfl) rfl)
              · intro u' W hbW hkp hdp K hK
                have e9 : (fun (vQ : Value) (_ : World) => vQ = (dg (((s1.reverse).getD (s1.reverse.length - 1) dP).2))) (u' 46) W := hdp.1
                have e11 : (fun (vQ : Value) (_ : World) => vQ = (dg (R b1))) (u' 48) W := hdp.2.1
                refine Eng.dc (vs := #[(dg (((s1.reverse).getD (s1.reverse.length - 1) dP).2)), (dg (R b1))]) rfl ?_ (node_eq (c := R b2) (by rw [hql]; exact m4) (hP _ (Eng.getD_mem (d := dP) (l := s1.reverse) (by omega))) hRb _ ((hr43).below hbW)) ?_
                · exact Eng.xc (xs := #[(Go.Operand.tmp 46), (Go.Operand.tmp 48)]) (vl := [(dg (((s1.reverse).getD (s1.reverse.length - 1) dP).2)), (dg (R b1))]) rfl rfl (Eng.lc (show Eng.opv 81 u' (.tmp 46) = (dg (((s1.reverse).getD (s1.reverse.length - 1) dP).2)) from e9) (Eng.lc (show Eng.opv 81 u' (.tmp 48) = (dg (R b1)) from e11) rfl)) en60_rt
                rintro _ W2 ⟨rfl, hb2⟩
                exact Eng.aft_v rfl (hK _ _ hb2 rfl)
              · intro u' W hbW hkp hdp K hK
                have e2 : (fun (vQ : Value) (_ : World) => vQ = (.int .i64 ((2 ^ (j + 1) : Nat) : Int))) (u' 39) W := hdp.1
                have e12 : (fun (vQ : Value) (_ : World) => vQ = (dg (R b2))) (u' 49) W := hdp.2.1
                refine Eng.dv rfl rfl ?_ (hK _ _ (Below.refl _ _) rfl)
                exact (Eng.x_build (ps := [(0, (.int .i64 ((2 ^ (j + 1) : Nat) : Int))), (1, (dg (R b2)))]) (v := (.agg ((.int .i64 ((2 ^ (j + 1) : Nat) : Int)) :: (bcs (R b2)) : List Value).toArray)) rfl (by exact (Eng.lc (Eng.pr (show Eng.opv 81 u' (.tmp 39) = (.int .i64 ((2 ^ (j + 1) : Nat) : Int)) from e2)) (Eng.lc (Eng.pr (show Eng.opv 81 u' (.tmp 49) = (dg (R b2)) from e12)) rfl))) (bldP (2 ^ (j + 1) : Nat) (R b2) hRb2 _))
            · intro ud40 w40 hb40 hkp40 ⟨f40_0, f40_1, f40_2, f40_3, f40_4, f40_5, f40_6, f40_7, f40_8, f40_9, f40_10, f40_11, f40_12, f40_13, _⟩
              obtain rfl := Eng.collect (l := [(37, (.pointer (some ⟨w21.heap.size, 0, none⟩))), (38, (.int .i64 ((2 ^ j : Nat) : Int))), (39, (.int .i64 ((2 ^ (j + 1) : Nat) : Int))), (40, vi), (41, vi), (42, (.int .i64 (s1.reverse.length : Int))), (43, (.int .i64 ((s1.reverse.length - 1 : Nat) : Int))), (44, (.pointer (some ((Eng.sAddr vi).add ((s1.reverse.length - 1) * 33))))), (45, (.pointer (some (((Eng.sAddr vi).add ((s1.reverse.length - 1) * 33)).add 1)))), (46, (dg (((s1.reverse).getD (s1.reverse.length - 1) dP).2))), (47, (.pointer (some ⟨w21.heap.size, 1, none⟩))), (48, (dg (R b1))), (49, (dg (R b2))), (50, (.agg ((.int .i64 ((2 ^ (j + 1) : Nat) : Int)) :: (bcs (R b2)) : List Value).toArray))]) hkp40 ⟨f40_0, f40_1, f40_2, f40_3, f40_4, f40_5, f40_6, f40_7, f40_8, f40_9, f40_10, f40_11, f40_12, f40_13, trivial⟩ rfl
              have hk44 := (hk41).below hb40
              refine Eng.stB (v := (.agg ((.int .i64 ((2 ^ (j + 1) : Nat) : Int)) :: (bcs (R b2)) : List Value).toArray)) rfl rfl rfl sz105_rt rfl hk44 (Eng.len_cons (.int .i64 ((2 ^ j : Nat) : Int)) (Eng.len_dg hRb)) rfl (cs' := ((.int .i64 ((2 ^ (j + 1) : Nat) : Int)) :: (bcs (R b2)))) rfl (Eng.len_cons (.int .i64 ((2 ^ (j + 1) : Nat) : Int)) (Eng.len_dg hRb2)) (Eng.one_cons rfl (bcs_one _)) ?_
              intro w45 hk45 hg45
              refine Eng.nil ?_
              refine hK39 _ _ ?_
              refine Eng.reg ?_
              refine Eng.sv rfl rfl (Eng.x_mv (v := vi) rfl rfl) ?_
              refine Eng.sv rfl rfl (Eng.x_mv (v := vi) rfl rfl) ?_
              have hr46 := ((hr42).below hb40).kept hg45 (.inr (fun e => absurd (hltV _ e).2 (Nat.not_lt_of_le (Nat.le_trans (Nat.le_refl _) (Nat.le_refl _)))))
              refine Eng.sv rfl rfl (Eng.x_len (v := vi) (r := (s1.reverse.length : Int)) rfl Tryd.underlying103 rfl (hr46).row rfl) ?_
              refine Eng.sv rfl rfl (Eng.x_sub rfl rfl rfl (Eng.w64 (r := ((s1.reverse.length - 1 : Nat) : Int)) (by omega))) ?_
              have hq47 : Eng.OwnL 105 33 encP w2.heap.size w45 (Eng.sCut vi 0 (s1.reverse.length - 1) 33) r.reverse := (by have q_ := (Eng.ol_pre (n := (s1.reverse.length - 1)) hr46 (by omega)).1; rw [hcut] at q_; exact q_)
              have hlt48 : ∀ g_, ((Eng.sCut vi 0 (s1.reverse.length - 1) 33)).ownBlock = some g_ → w2.heap.size ≤ g_ ∧ g_ < w21.heap.size := fun g_ e_ => hltV g_ (((Eng.ol_pre hr46 (by omega)).2).symm.trans e_)
              refine Eng.sv rfl rfl (Eng.x_sl (v := vi) rfl Tryd.underlying103 sz105_rt rfl (hr46).row 0 (s1.reverse.length - 1) (.inl ⟨rfl, rfl⟩) (Eng.bd (k := .i64) rfl) (by omega) (by omega)) ?_
              refine Eng.sv rfl rfl (Eng.x_as (v := (Eng.sCut vi 0 (s1.reverse.length - 1) 33)) rfl rfl) ?_
              refine Eng.nil ?_
              refine Eng.nb ?_
              have hB0_9 : Below w.heap.size w w40 := (hB0_8).trans (hb40.mono (hB0_8).size)
              have hB0_10 : Below w.heap.size w w45 := (hB0_9).grown hg45 (hB0_9).size (fun k e => by cases e; exact Nat.le_trans (hB0_4).size (Nat.le_refl _))
              have hk49 := (((hkL28_0).below hb38).below hb40).grown hg45 (fun e => absurd (Option.some.inj e) (Nat.ne_of_lt (Nat.lt_of_lt_of_le hz2 (Nat.le_trans (Nat.le_trans (Nat.le_trans hzL14 (hb20).size) (hg21).size) (Nat.le_refl _)))))
              exact hK28 _ _ _ ⟨j + 1, r, a2, b2, (Eng.sCut vi 0 (s1.reverse.length - 1) 33), rfl, m1, m2, (m3.trans hab), ⟨rfl, rfl, rfl, rfl, rfl, rfl, trivial⟩, hB0_10, (Nat.le_trans (Nat.le_trans (Nat.le_trans hzL28 (hb38).size) (hb40).size) (hg45).size), hk49, hk45, hq47, (fun g_ e_ => Nat.lt_of_lt_of_le (hlt48 g_ e_).2 (Nat.le_refl _))⟩ (by rw [hqr]; simp)
        · skip
          have hst : s1 = [] ∨ ∃ q r, s1 = q :: r ∧ q.1 ≠ 2 ^ j := .inr ⟨q, r, hqr, hq⟩
          refine Eng.draw 15 [fun (vQ : Value) (_ : World) => vQ = vi, fun (vQ : Value) (_ : World) => vQ = (.int .i64 (s1.reverse.length : Int)), fun (vQ : Value) (_ : World) => vQ = (.bool true), fun (vQ : Value) (_ : World) => vQ = (.bool true), fun (vQ : Value) (_ : World) => vQ = vi, fun (vQ : Value) (_ : World) => vQ = vi, fun (vQ : Value) (_ : World) => vQ = (.int .i64 (s1.reverse.length : Int)), fun (vQ : Value) (_ : World) => vQ = (.int .i64 ((s1.reverse.length - 1 : Nat) : Int)), fun (vQ : Value) (_ : World) => vQ = (.pointer (some ((Eng.sAddr vi).add ((s1.reverse.length - 1) * 33)))), fun (vQ : Value) (_ : World) => vQ = (.pointer (some (((Eng.sAddr vi).add ((s1.reverse.length - 1) * 33)).add 0))), fun (vQ : Value) (_ : World) => vQ = (.int .i64 (((s1.reverse).getD (s1.reverse.length - 1) dP).1 : Int)), fun (vQ : Value) (_ : World) => vQ = (.pointer (some ⟨w21.heap.size, 0, none⟩)), fun (vQ : Value) (_ : World) => vQ = (.int .i64 ((2 ^ j : Nat) : Int)), fun (vQ : Value) (_ : World) => vQ = (.bool false), fun (vQ : Value) (_ : World) => vQ = (.bool false)] (by kernel_rfl) (by kernel_rfl) (by kernel_rfl) (by kernel_rfl) rfl rfl ?_ ?_ ?_
          · exact ⟨fun _ _ _ h _ => h, fun _ _ _ h _ => h, fun _ _ _ h _ => h, fun _ _ _ h _ => h, fun _ _ _ h _ => h, fun _ _ _ h _ => h, fun _ _ _ h _ => h, fun _ _ _ h _ => h, fun _ _ _ h _ => h, fun _ _ _ h _ => h, fun _ _ _ h _ => h, fun _ _ _ h _ => h, fun _ _ _ h _ => h, fun _ _ _ h _ => h, fun _ _ _ h _ => h, trivial⟩
          · refine ⟨?_, ?_, ?_, ?_, ?_, ?_, ?_, ?_, ?_, ?_, ?_, ?_, ?_, ?_, ?_, trivial⟩
            · intro u' W hbW hkp hdp K hK
              refine Eng.dv rfl rfl ?_ (hK _ _ (Below.refl _ _) rfl)
              exact (Eng.x_mv (v := vi) rfl (show Eng.opv 81 u' (.tmp 3) = vi from hkp 3 rfl))
            · intro u' W hbW hkp hdp K hK
              have e0 : (fun (vQ : Value) (_ : World) => vQ = vi) (u' 22) W := hdp.1
              refine Eng.dv rfl rfl ?_ (hK _ _ (Below.refl _ _) rfl)
              exact (Eng.x_len (v := vi) (r := (s1.reverse.length : Int)) rfl Tryd.underlying103 (show Eng.opv 81 u' (.tmp 22) = vi from e0) (((hrL28_0).below hbW)).row rfl)
            · intro u' W hbW hkp hdp K hK
              have e1 : (fun (vQ : Value) (_ : World) => vQ = (.int .i64 (s1.reverse.length : Int))) (u' 23) W := hdp.1
              refine Eng.dv rfl rfl ?_ (hK _ _ (Below.refl _ _) rfl)
              exact (Eng.x_gt (r := true) rfl (show Eng.opv 81 u' (.tmp 23) = (.int .i64 (s1.reverse.length : Int)) from e1) rfl (decide_eq_true (by omega)))
            · intro u' W hbW hkp hdp K hK
              have e2 : (fun (vQ : Value) (_ : World) => vQ = (.bool true)) (u' 24) W := hdp.1
              refine Eng.dv rfl rfl ?_ (hK _ _ (Below.refl _ _) rfl)
              exact (Eng.x_mv (v := (.bool true)) rfl (show Eng.opv 81 u' (.tmp 24) = (.bool true) from e2))
            · intro u' W hbW hkp hdp K hK
              have e3 : (fun (vQ : Value) (_ : World) => vQ = (.bool true)) (u' 25) W := hdp.1
              refine Eng.dv (Eng.gt rfl rfl rfl (show Eng.opv 81 u' (.tmp 25) = (.bool true) from e3)) rfl ?_ (hK _ _ (Below.refl _ _) rfl)
              exact (Eng.x_mv (v := vi) rfl (show Eng.opv 81 u' (.tmp 3) = vi from hkp 3 rfl))
            · intro u' W hbW hkp hdp K hK
              have e3 : (fun (vQ : Value) (_ : World) => vQ = (.bool true)) (u' 25) W := hdp.1
              refine Eng.dv (Eng.gt rfl rfl rfl (show Eng.opv 81 u' (.tmp 25) = (.bool true) from e3)) rfl ?_ (hK _ _ (Below.refl _ _) rfl)
              exact (Eng.x_mv (v := vi) rfl (show Eng.opv 81 u' (.tmp 3) = vi from hkp 3 rfl))
            · intro u' W hbW hkp hdp K hK
              have e3 : (fun (vQ : Value) (_ : World) => vQ = (.bool true)) (u' 25) W := hdp.2.1
              have e5 : (fun (vQ : Value) (_ : World) => vQ = vi) (u' 27) W := hdp.1
              refine Eng.dv (Eng.gt rfl rfl rfl (show Eng.opv 81 u' (.tmp 25) = (.bool true) from e3)) rfl ?_ (hK _ _ (Below.refl _ _) rfl)
              exact (Eng.x_len (v := vi) (r := (s1.reverse.length : Int)) rfl Tryd.underlying103 (show Eng.opv 81 u' (.tmp 27) = vi from e5) (((hrL28_0).below hbW)).row rfl)
            · intro u' W hbW hkp hdp K hK
              have e3 : (fun (vQ : Value) (_ : World) => vQ = (.bool true)) (u' 25) W := hdp.2.1
              have e6 : (fun (vQ : Value) (_ : World) => vQ = (.int .i64 (s1.reverse.length : Int))) (u' 28) W := hdp.1
              refine Eng.dv (Eng.gt rfl rfl rfl (show Eng.opv 81 u' (.tmp 25) = (.bool true) from e3)) rfl ?_ (hK _ _ (Below.refl _ _) rfl)
              exact (Eng.x_sub rfl (show Eng.opv 81 u' (.tmp 28) = (.int .i64 (s1.reverse.length : Int)) from e6) rfl (Eng.w64 (r := ((s1.reverse.length - 1 : Nat) : Int)) (by omega)))
            · intro u' W hbW hkp hdp K hK
              have e3 : (fun (vQ : Value) (_ : World) => vQ = (.bool true)) (u' 25) W := hdp.2.2.1
              have e4 : (fun (vQ : Value) (_ : World) => vQ = vi) (u' 26) W := hdp.1
              have e7 : (fun (vQ : Value) (_ : World) => vQ = (.int .i64 ((s1.reverse.length - 1 : Nat) : Int))) (u' 29) W := hdp.2.1
              refine Eng.dv (Eng.gt rfl rfl rfl (show Eng.opv 81 u' (.tmp 25) = (.bool true) from e3)) rfl ?_ (hK _ _ (Below.refl _ _) rfl)
              exact (Eng.x_ia (v := vi) (j := s1.reverse.length - 1) rfl Tryd.underlying103 sz105_rt (by decide) (show Eng.opv 81 u' (.tmp 26) = vi from e4) (show Eng.opv 81 u' (.tmp 29) = (.int .i64 ((s1.reverse.length - 1 : Nat) : Int)) from e7) (((hrL28_0).below hbW)).row (Eng.flat_len (((hrL28_0).below hbW)).2) (by omega) (by omega))
            · intro u' W hbW hkp hdp K hK
              have e3 : (fun (vQ : Value) (_ : World) => vQ = (.bool true)) (u' 25) W := hdp.2.1
              have e8 : (fun (vQ : Value) (_ : World) => vQ = (.pointer (some ((Eng.sAddr vi).add ((s1.reverse.length - 1) * 33))))) (u' 30) W := hdp.1
              refine Eng.dv (Eng.gt rfl rfl rfl (show Eng.opv 81 u' (.tmp 25) = (.bool true) from e3)) rfl ?_ (hK _ _ (Below.refl _ _) rfl)
              exact (Eng.x_fa (v := (.pointer (some (((Eng.sAddr vi).add ((s1.reverse.length - 1) * 33)).add 0)))) rfl (show Eng.opv 81 u' (.tmp 30) = (.pointer (some ((Eng.sAddr vi).add ((s1.reverse.length - 1) * 33)))) from e8) (by kernel_rfl))
            · intro u' W hbW hkp hdp K hK
              have e3 : (fun (vQ : Value) (_ : World) => vQ = (.bool true)) (u' 25) W := hdp.2.1
              have e9 : (fun (vQ : Value) (_ : World) => vQ = (.pointer (some (((Eng.sAddr vi).add ((s1.reverse.length - 1) * 33)).add 0)))) (u' 31) W := hdp.1
              refine Eng.dv (Eng.gt rfl rfl rfl (show Eng.opv 81 u' (.tmp 25) = (.bool true) from e3)) rfl ?_ (hK _ _ (Below.refl _ _) rfl)
              exact (Eng.x_ld1 (v := (.int .i64 (((s1.reverse).getD (s1.reverse.length - 1) dP).1 : Int))) rfl ag3_rt (show Eng.opv 81 u' (.tmp 31) = (.pointer (some (((Eng.sAddr vi).add ((s1.reverse.length - 1) * 33)).add 0))) from e9) (Eng.rl_cell (((hrL28_0).below hbW)).rl dP (by omega) rfl))
            · intro u' W hbW hkp hdp K hK
              have e3 : (fun (vQ : Value) (_ : World) => vQ = (.bool true)) (u' 25) W := hdp.1
              refine Eng.dv (Eng.gt rfl rfl rfl (show Eng.opv 81 u' (.tmp 25) = (.bool true) from e3)) rfl ?_ (hK _ _ (Below.refl _ _) rfl)
              exact (Eng.x_fa (v := (.pointer (some ⟨w21.heap.size, 0, none⟩))) rfl (show Eng.opv 81 u' (.tmp 6) = (.pointer (some ⟨w21.heap.size, 0, none⟩)) from hkp 6 rfl) (by kernel_rfl))
            · intro u' W hbW hkp hdp K hK
              have e3 : (fun (vQ : Value) (_ : World) => vQ = (.bool true)) (u' 25) W := hdp.2.1
              have e11 : (fun (vQ : Value) (_ : World) => vQ = (.pointer (some ⟨w21.heap.size, 0, none⟩))) (u' 33) W := hdp.1
              refine Eng.dv (Eng.gt rfl rfl rfl (show Eng.opv 81 u' (.tmp 25) = (.bool true) from e3)) rfl ?_ (hK _ _ (Below.refl _ _) rfl)
              exact (Eng.x_ld1 (v := (.int .i64 ((2 ^ j : Nat) : Int))) rfl ag3_rt (show Eng.opv 81 u' (.tmp 33) = (.pointer (some ⟨w21.heap.size, 0, none⟩)) from e11) ((((hkL28_1).below hbW)).cell 0))
            · intro u' W hbW hkp hdp K hK
              have e3 : (fun (vQ : Value) (_ : World) => vQ = (.bool true)) (u' 25) W := hdp.2.2.1
              have e10 : (fun (vQ : Value) (_ : World) => vQ = (.int .i64 (((s1.reverse).getD (s1.reverse.length - 1) dP).1 : Int))) (u' 32) W := hdp.1
              have e12 : (fun (vQ : Value) (_ : World) => vQ = (.int .i64 ((2 ^ j : Nat) : Int))) (u' 34) W := hdp.2.1
              refine Eng.dv (Eng.gt rfl rfl rfl (show Eng.opv 81 u' (.tmp 25) = (.bool true) from e3)) rfl ?_ (hK _ _ (Below.refl _ _) rfl)
              exact (Eng.x_eq (r := false) rfl (show Eng.opv 81 u' (.tmp 32) = (.int .i64 (((s1.reverse).getD (s1.reverse.length - 1) dP).1 : Int)) from e10) (show Eng.opv 81 u' (.tmp 34) = (.int .i64 ((2 ^ j : Nat) : Int)) from e12) (Eng.eq_f (by rw [hql]; omega)))
            · intro u' W hbW hkp hdp K hK
              have e3 : (fun (vQ : Value) (_ : World) => vQ = (.bool true)) (u' 25) W := hdp.1
              have e13 : (fun (vQ : Value) (_ : World) => vQ = (.bool false)) (u' 35) W := hdp.2.1
              refine Eng.dv rfl rfl ?_ (hK _ _ (Below.refl _ _) rfl)
              exact (Eng.x_pick (v := (.bool false)) rfl (show Eng.opv 81 u' (.tmp 25) = (.bool true) from e3) (show Eng.opv 81 u' (.tmp 35) = (.bool false) from e13) rfl rfl)
          · intro ud50 w50 hb50 hkp50 ⟨f50_0, f50_1, f50_2, f50_3, f50_4, f50_5, f50_6, f50_7, f50_8, f50_9, f50_10, f50_11, f50_12, f50_13, f50_14, _⟩
            obtain rfl := Eng.collect (l := [(22, vi), (23, (.int .i64 (s1.reverse.length : Int))), (24, (.bool true)), (25, (.bool true)), (26, vi), (27, vi), (28, (.int .i64 (s1.reverse.length : Int))), (29, (.int .i64 ((s1.reverse.length - 1 : Nat) : Int))), (30, (.pointer (some ((Eng.sAddr vi).add ((s1.reverse.length - 1) * 33))))), (31, (.pointer (some (((Eng.sAddr vi).add ((s1.reverse.length - 1) * 33)).add 0)))), (32, (.int .i64 (((s1.reverse).getD (s1.reverse.length - 1) dP).1 : Int))), (33, (.pointer (some ⟨w21.heap.size, 0, none⟩))), (34, (.int .i64 ((2 ^ j : Nat) : Int))), (35, (.bool false)), (36, (.bool false))]) hkp50 ⟨f50_0, f50_1, f50_2, f50_3, f50_4, f50_5, f50_6, f50_7, f50_8, f50_9, f50_10, f50_11, f50_12, f50_13, f50_14, trivial⟩ rfl
            refine Eng.nil ?_
            refine hK31 _ _ ?_
            refine Eng.cond_f rfl ?_
            refine Eng.xt ?_
            refine Eng.te ?_
            refine Eng.te ?_
            refine Eng.be ?_
            refine hK25 _ _ ?_
            refine Eng.reg ?_
            refine Eng.sv rfl rfl (Eng.x_mv (v := vi) rfl rfl) ?_
            have hk51 := (hkL28_1).below hb50
            refine Eng.sv rfl rfl (Eng.x_ldB (v := (.agg ((.int .i64 ((2 ^ j : Nat) : Int)) :: (bcs (R b1)) : List Value).toArray)) rfl ag105_rt sz105_rt rfl hk51 (Eng.len_cons (.int .i64 ((2 ^ j : Nat) : Int)) (Eng.len_dg hRb)) rfl) ?_
            refine Eng.bs (vs := [(.agg ((.int .i64 ((2 ^ j : Nat) : Int)) :: (bcs (R b1)) : List Value).toArray)]) (cs := ((.int .i64 ((2 ^ j : Nat) : Int)) :: (bcs (R b1)))) rfl rfl rfl Tryd.underlying103 inL105_rt zP (by decide) rfl rfl (by decide) (by decide) (Eng.all_cons (p := fun v => v.cells.size = 33) (by simpa [Value.cells] using ((Eng.len_cons (.int .i64 ((2 ^ j : Nat) : Int)) (Eng.len_dg hRb)) : (((.int .i64 ((2 ^ j : Nat) : Int)) :: (bcs (R b1))) : List Value).length = 33)) Eng.all_nil) (by simp [Value.cells]) ?_
            intro w52 hk52 hb52 hz52
            have hr54 := ((hrL28_0).below hb50).below hb52
            refine Eng.apL (enc := encP) rfl rfl rfl Tryd.underlying103 inL105_rt zP (by decide) rfl hr54 rfl (Eng.rl_one (enc := encP) (sz := 33) (a := (2 ^ j, R b1)) hk52 (Eng.len_cons (.int .i64 ((2 ^ j : Nat) : Int)) (Eng.len_dg hRb))) (fun a _ c hc => one_part a c hc) (by simp only [List.length_cons, List.length_nil]; unfold maxLen; omega) (by simp only [List.length_cons, List.length_nil]; omega) (Nat.le_trans (Nat.le_trans (Nat.le_trans (Nat.le_trans (Nat.le_trans (Nat.le_trans (Nat.le_trans hzL14 (hb20).size) (hg21).size) (hb23).size) (hg24).size) hzL28) (hb50).size) (hb52).size) ?_
            intro v53 w53 ho53 hg53
            rw [← List.reverse_cons] at ho53
            refine Eng.sv rfl rfl (Eng.x_as (v := v53) rfl rfl) ?_
            refine Eng.nil ?_
            refine Eng.nb ?_
            refine hK17 _ _ ?_
            refine Eng.reg ?_
            refine Eng.sv rfl rfl (Eng.x_add rfl rfl rfl (Eng.w64 (r := ((k : Int) + 1)) (by omega))) ?_
            refine Eng.sv rfl rfl (Eng.x_mv (v := (.int .i64 ((k : Int) + 1))) rfl rfl) ?_
            refine Eng.nil ?_
            have hB0_8 : Below w.heap.size w w50 := (hBL28).trans (hb50.mono (hBL28).size)
            have hB0_9 : Below w.heap.size w w52 := (hB0_8).trans (hb52.mono (hB0_8).size)
            have hB0_10 : Below w.heap.size w w53 := (hB0_9).grown hg53 (hB0_9).size (fun k e => Nat.le_trans (hb2).size (hltV _ e).1)
            have hk55 := (((hkL28_0).below hb50).below hb52).grown hg53 (fun e => absurd (hltV _ e.symm).1 (Nat.not_le_of_lt (Nat.lt_of_lt_of_le hz2 (Nat.le_refl _))))
            exact hK14 _ _ _ ⟨k + 1, ((2 ^ j, R b1) :: s1), v53, rfl, by omega, (by rw [← hab]; exact PK.stay hPK hst hbl), ⟨rfl, rfl, rfl, rfl, (Eng.ie (by first | omega | rfl)), trivial⟩, hB0_10, (Nat.le_trans (Nat.le_trans (Nat.le_trans (Nat.le_trans (Nat.le_trans (Nat.le_trans (Nat.le_trans (Nat.le_trans hzL14 (hb20).size) (hg21).size) (hb23).size) (hg24).size) hzL28) (hb50).size) (hb52).size) (hg53).size), hk55, ho53⟩ (by omega)
    · skip
      have hkn : k = ds.length := by omega
      obtain ⟨q0, r0, hqr0, hfr0⟩ := PK.root (by rw [hkn, List.take_length] at hs_; exact hs_) (by omega) hm
      have hql0 := (rev_last hqr0).1
      have hcut0 := (rev_last hqr0).2
      have hfold0 : foldP (s.reverse.getD (s.reverse.length - 1) dP).2 r0 = R ds := by rw [hql0]; exact hfr0
      have hln0 : 0 < s.reverse.length := by rw [hqr0]; simp
      have hP0 : ∀ p ∈ s.reverse, p.2.length = 32 := fun p hp => PK.mem32 (by rw [hkn, List.take_length] at hs_; exact hs_) h.2 p (List.mem_reverse.1 hp)
      have hP := hP0
      have hd0 : (s.reverse.getD (s.reverse.length - 1) dP).2.length = 32 := hP0 _ (Eng.getD_mem (by omega))
      have hsm0 : s.reverse.length ≤ 50 := by have := PK.short hs_ (by rw [List.length_take]; omega); rw [List.length_reverse]; exact this
      refine Eng.sv rfl rfl (Eng.x_lt (r := false) rfl rfl rfl (decide_eq_false (by omega))) ?_
      refine Eng.nil ?_
      refine hK15 _ _ ?_
      refine Eng.seqk fun K56 hK56 => ?_
      refine Eng.cond_f rfl ?_
      refine Eng.xt ?_
      refine Eng.te ?_
      refine Eng.te ?_
      refine Eng.be ?_
      refine hK12 _ _ ?_
      refine Eng.seqk fun K57 hK57 => ?_
      refine Eng.reg ?_
      refine Eng.sv rfl rfl (Eng.x_mv (v := vp) rfl rfl) ?_
      refine Eng.sv rfl rfl (Eng.x_mv (v := vp) rfl rfl) ?_
      refine Eng.sv rfl rfl (Eng.x_len (v := vp) (r := (s.reverse.length : Int)) rfl Tryd.underlying103 rfl (hrL14_0).row rfl) ?_
      refine Eng.sv rfl rfl (Eng.x_sub rfl rfl rfl (Eng.w64 (r := ((s.reverse.length - 1 : Nat) : Int)) (by omega))) ?_
      refine Eng.sv rfl rfl (Eng.x_ia (v := vp) (j := s.reverse.length - 1) rfl Tryd.underlying103 sz105_rt (by decide) rfl rfl (hrL14_0).row (Eng.flat_len (hrL14_0).2) (by omega) (by omega)) ?_
      refine Eng.sv rfl rfl (Eng.x_fa (v := (.pointer (some (((Eng.sAddr vp).add ((s.reverse.length - 1) * 33)).add 1)))) rfl rfl (by kernel_rfl)) ?_
      refine Eng.sv rfl rfl (Eng.x_ldA (v := (dg (((s.reverse).getD (s.reverse.length - 1) dP).2))) rfl ag24_rt sz24_rt rfl ((bcs_length _).trans (hP _ (Eng.getD_mem (d := dP) (l := s.reverse) (by omega)))) (Eng.rl_tail (pre := [(.int .i64 (((s.reverse).getD (s.reverse.length - 1) dP).1 : Int))]) (mid := (bcs (((s.reverse).getD (s.reverse.length - 1) dP).2))) (hrL14_0).rl dP (by omega) rfl rfl) rfl) ?_
      refine Eng.al rfl rfl rfl zr24_rt (cs := (bcs Oct.dz)) rfl ?_
      intro w58 hk58 hb58 hz58
      refine Eng.stB (v := (dg (((s.reverse).getD (s.reverse.length - 1) dP).2))) rfl rfl rfl sz24_rt rfl hk58 rfl rfl (cs' := (bcs (((s.reverse).getD (s.reverse.length - 1) dP).2))) rfl ((bcs_length _).trans (hP _ (Eng.getD_mem (d := dP) (l := s.reverse) (by omega)))) (bcs_one _) ?_
      intro w59 hk59 hg59
      refine Eng.nil ?_
      refine hK57 _ _ ?_
      refine Eng.seqk fun K60 hK60 => ?_
      refine Eng.seqk fun K61 hK61 => ?_
      refine Eng.reg ?_
      refine Eng.sv rfl rfl (Eng.x_mv (v := vp) rfl rfl) ?_
      refine Eng.sv rfl rfl (Eng.x_mv (v := vp) rfl rfl) ?_
      have hr62 := ((hrL14_0).below hb58).kept hg59 (.inr (fun e => absurd ((World.ownsRow.lt (hrL14_0).1) _ e).2 (Nat.not_lt_of_le (Nat.le_trans (Nat.le_refl _) (Nat.le_refl _)))))
      refine Eng.sv rfl rfl (Eng.x_len (v := vp) (r := (s.reverse.length : Int)) rfl Tryd.underlying103 rfl (hr62).row rfl) ?_
      refine Eng.sv rfl rfl (Eng.x_sub rfl rfl rfl (Eng.w64 (r := ((s.reverse.length - 1 : Nat) : Int)) (by omega))) ?_
      have hq63 : Eng.OwnL 105 33 encP w2.heap.size w59 (Eng.sCut vp 0 (s.reverse.length - 1) 33) ((s.reverse).take (s.reverse.length - 1)) := (Eng.ol_pre hr62 (by omega)).1
      have hlt64 : ∀ g_, ((Eng.sCut vp 0 (s.reverse.length - 1) 33)).ownBlock = some g_ → w2.heap.size ≤ g_ ∧ g_ < w14.heap.size := fun g_ e_ => (World.ownsRow.lt (hrL14_0).1) g_ (((Eng.ol_pre hr62 (by omega)).2).symm.trans e_)
      refine Eng.sv rfl rfl (Eng.x_sl (v := vp) rfl Tryd.underlying103 sz105_rt rfl (hr62).row 0 (s.reverse.length - 1) (.inl ⟨rfl, rfl⟩) (Eng.bd (k := .i64) rfl) (by omega) (by omega)) ?_
      refine Eng.sc rfl (Eng.xc (vl := [(Eng.sCut vp 0 (s.reverse.length - 1) 33)]) rfl rfl rfl en61_rt) (bwd_calls _ _ _ _ (hq63).row) ?_
      rintro _ w65 ⟨b65, rfl, hk65, hl65, hb65⟩
      refine Eng.aft_v rfl ?_
      refine Eng.nil ?_
      refine hK61 _ _ ?_
      refine Eng.blk ?_
      have hr66 := (hq63).below hb65
      have hk67 := (((hkL14_0).below hb58).grown hg59 (fun e => absurd (Option.some.inj e) (Nat.ne_of_lt (Nat.lt_of_lt_of_le hz2 (Nat.le_trans hzL14 (Nat.le_refl _)))))).below hb65
      have hk68 := (hk59).below hb65
      obtain ⟨LL, hLL⟩ : ∃ LL, LL = (s.reverse).take (s.reverse.length - 1) := ⟨_, rfl⟩
      have hrow : Eng.OwnL 105 33 encP w2.heap.size w65 (Eng.sCut vp 0 (s.reverse.length - 1) 33) LL := by rw [hLL]; exact hr66
      have hPL : ∀ p ∈ LL, p.2.length = 32 := fun p hp => hP0 p (by rw [hLL] at hp; exact List.mem_of_mem_take hp)
      obtain ⟨y, hyl, hyb, hyn⟩ := own_at hrow.1 (g7 := w14.heap.size) (z := w.heap.size) (fun g e => fun q => absurd (hlt64 _ (show ((Eng.sCut vp 0 (s.reverse.length - 1) 33)).ownBlock = some (w14.heap.size) from e.trans (congrArg some q))).2 (Nat.not_lt_of_le (Nat.le_trans (Nat.le_refl _) (Nat.le_refl _)))) (hk67).lt (Nat.ne_of_lt (Nat.lt_of_lt_of_le hz2 (Nat.le_trans hzL14 (Nat.le_refl _))))
      have hbl_ : b65 < w65.heap.size := (hk65).lt
      have hbn : b65 ≠ w14.heap.size := (Nat.ne_of_gt (Nat.lt_of_lt_of_le hz58 (Nat.le_trans (hg59).size hl65)))
      have hB0_3 : Below w.heap.size w w58 := (hBL14).trans (hb58.mono (hBL14).size)
      have hB0_4 : Below w.heap.size w w59 := (hB0_3).grown hg59 (hB0_3).size (fun k e => by cases e; exact Nat.le_trans (hBL14).size (Nat.le_refl _))
      have hB0_5 : Below w.heap.size w w65 := (hB0_4).trans (hb65.mono (hB0_4).size)
      refine Eng.rfun (α := { j : Nat // j < LL.length }) (gf := 117) (lb := #[.pointer (some ⟨b65, 0, none⟩)]) rfl en117_rt (bwd_stops LL hPL b65 y (Eng.sCut vp 0 (s.reverse.length - 1) 33) _ hk65 hrow.rl hyb hyl) (fun h k => h.trans k) (fun W l o o_ hl ho _ _ => Eng.Two.put (Nat.ne_of_lt (Nat.lt_of_lt_of_le hbl_ hl)) (Nat.ne_of_lt (Nat.lt_of_lt_of_le hyl hl))) (Below.refl _ _) (fun _ => rfl) (fun (pre : List { j : Nat // j < LL.length }) W => Below w.heap.size w W ∧ w65.heap.size ≤ W.heap.size ∧ Blk W w.heap.size 24 (bcs Oct.dz) ∧ Blk W w14.heap.size 24 (bcs (foldB LL (((s.reverse).getD (s.reverse.length - 1) dP).2) pre))) (fun _ _ _ => False) (fun x u_ W => ∃ gx, Eng.Has u_ [(2, (.pointer (some ⟨w.heap.size, 0, none⟩))), (7, (.pointer (some ⟨w14.heap.size, 0, none⟩))), (9, (.pointer (some ⟨gx, 0, none⟩)))] ∧ Blk W gx 105 (encP (LL.getD x.1 dP)) ∧ w65.heap.size ≤ gx) ?_ ?_ ?_ ?_ ?_ ?_ ?_ ?_
      · exact fun pre A B row ⟨h1, h2, h3, h4⟩ hg hr => ⟨Eng.belF h1 hg hr (hB0_5).size (Nat.le_trans (hB0_5).size h2), Nat.le_trans h2 hg.size, Eng.blkF h3 hg hr, Eng.blkF h4 hg hr⟩
      · exact fun c s A B row h _ _ => h
      · exact fun x u_ _ A B row ⟨gx, h1, h2, h3⟩ hg hr => ⟨gx, h1, Eng.blkF h2 hg hr, h3⟩
      · exact ⟨hB0_5, Nat.le_refl _, hk67, hk68⟩
      · intro lr pre x w69 K ⟨hi169, hi269, hi369, hi469⟩ hK_
        show Eng.wpC _ _ _ _ (Eng.act _ (Eng.updZ _ #[74, 75] #[_, _]) _) _
        rw [updZ2]
        refine Eng.reg ?_
        refine Eng.al rfl rfl rfl zr105_rt (cs := ((.int .i64 0) :: (bcs Oct.dz))) rfl ?_
        intro w70 hk70 hb70 hz70
        refine Eng.stB (v := (.agg (encP (LL.getD x.1 dP)).toArray)) rfl rfl rfl sz105_rt rfl hk70 (Eng.len_cons (.int .i64 0) (Eng.len_dg Oct.dz_length)) rfl (cs' := (encP (LL.getD x.1 dP))) rfl (encP_len (hPL _ (Eng.getD_mem x.2))) (one_part _) ?_
        intro w71 hk71 hg71
        refine Eng.nil ?_
        have hB0_7 : Below w.heap.size w w70 := (hi169).trans (hb70.mono (hi169).size)
        have hB0_8 : Below w.heap.size w w71 := (hB0_7).grown hg71 (hB0_7).size (fun k e => by cases e; exact Nat.le_trans (hi169).size (Nat.le_refl _))
        have hB6_8 : Below w69.heap.size w69 w71 := (hb70).grown hg71 (hb70).size (fun k e => by cases e; exact Nat.le_trans (Nat.le_refl _) (Nat.le_refl _))
        have hk72 := ((hi369).below hb70).grown hg71 (fun e => absurd (Option.some.inj e) (Nat.ne_of_lt (Nat.lt_of_lt_of_le hz2 (Nat.le_trans (Nat.le_trans (Nat.le_trans (Nat.le_trans (Nat.le_trans hzL14 (hb58).size) (hg59).size) (hb65).size) hi269) (Nat.le_refl _)))))
        have hk73 := ((hi469).below hb70).grown hg71 (fun e => absurd (Option.some.inj e) (Nat.ne_of_lt (Nat.lt_of_lt_of_le hz58 (Nat.le_trans (Nat.le_trans (Nat.le_trans (hg59).size (hb65).size) hi269) (Nat.le_refl _)))))
        exact hK_ _ _ ((Eng.keeps_below hb70).trans (Eng.keeps_grown hk70 hg71)) ((Eng.Two.below hb70 (Nat.lt_of_lt_of_le (Nat.lt_of_lt_of_le hbl_ hi269) (Nat.le_refl _)) (Nat.lt_of_lt_of_le (Nat.lt_of_lt_of_le hyl hi269) (Nat.le_refl _))).trans (Eng.Two.grown hg71 (Nat.lt_of_lt_of_le (Nat.lt_of_lt_of_le hbl_ hi269) (hb70).size) (Nat.lt_of_lt_of_le (Nat.lt_of_lt_of_le hyl hi269) (hb70).size) (Nat.ne_of_lt (Nat.lt_of_lt_of_le hbl_ (Nat.le_trans hi269 (Nat.le_refl _)))) (Nat.ne_of_lt (Nat.lt_of_lt_of_le hyl (Nat.le_trans hi269 (Nat.le_refl _)))))) ⟨hB0_8, Nat.le_trans hi269 (hB6_8).size, hk72, hk73⟩ ⟨w69.heap.size, ⟨rfl, rfl, rfl, trivial⟩, hk71, (Nat.le_trans hi269 (Nat.le_refl _))⟩
      · rintro lr pre x u_ w74 ⟨hi174, hi274, hi374, hi474⟩ ⟨gx, hH_, hgx, hgl⟩ hlen_
        obtain ⟨u9_, rfl⟩ := hH_.ex
        refine Eng.blk ?_
        refine Eng.reg ?_
        refine Eng.sv rfl rfl (Eng.x_fa (v := (.pointer (some ⟨gx, 1, none⟩))) rfl rfl (by kernel_rfl)) ?_
        refine Eng.sv rfl rfl (Eng.x_ldA (v := (dg ((LL.getD x.1 dP).2))) rfl ag24_rt sz24_rt rfl ((bcs_length _).trans (hPL _ (Eng.getD_mem x.2))) (Eng.blk_tail (pre := [(.int .i64 ((LL.getD x.1 dP).1 : Int))]) (mid := (bcs ((LL.getD x.1 dP).2))) hgx rfl) rfl) ?_
        refine Eng.sv rfl rfl (Eng.x_ldB (v := (dg (foldB LL (((s.reverse).getD (s.reverse.length - 1) dP).2) pre))) rfl ag24_rt sz24_rt rfl hi474 ((bcs_length _).trans (foldB_len LL _ hd0 _)) rfl) ?_
        have hr75 := (hK).below hi174
        refine Eng.sc rfl (Eng.xc (vl := [(dg ((LL.getD x.1 dP).2)), (dg (foldB LL (((s.reverse).getD (s.reverse.length - 1) dP).2) pre))]) rfl rfl rfl en60_rt) (node_calls _ _ (hPL _ (Eng.getD_mem x.2)) (foldB_len LL _ hd0 _) _ hr75) ?_
        rintro _ w76 ⟨rfl, hb76⟩
        refine Eng.aft_v rfl ?_
        have hk77 := (hi474).below hb76
        refine Eng.stB (v := (dg (nodeS (LL.getD x.1 dP).2 (foldB LL (((s.reverse).getD (s.reverse.length - 1) dP).2) pre)))) rfl rfl rfl sz24_rt rfl hk77 ((bcs_length _).trans (foldB_len LL _ hd0 _)) rfl (cs' := (bcs (nodeS (LL.getD x.1 dP).2 (foldB LL (((s.reverse).getD (s.reverse.length - 1) dP).2) pre)))) rfl ((bcs_length _).trans (nodeS_len _ _)) (bcs_one _) ?_
        intro w78 hk78 hg78
        refine Eng.nil ?_
        refine Eng.nb ?_
        have hB0_7 : Below w.heap.size w w76 := (hi174).trans (hb76.mono (hi174).size)
        have hB0_8 : Below w.heap.size w w78 := (hB0_7).grown hg78 (hB0_7).size (fun k e => by cases e; exact Nat.le_trans (hBL14).size (Nat.le_refl _))
        have hk79 := ((hi374).below hb76).grown hg78 (fun e => absurd (Option.some.inj e) (Nat.ne_of_lt (Nat.lt_of_lt_of_le hz2 (Nat.le_trans hzL14 (Nat.le_refl _)))))
        exact ⟨((Eng.keeps_below hb76).trans (Eng.keeps_grown hk77 hg78)), ((Eng.Two.below hb76 (Nat.lt_of_lt_of_le (Nat.lt_of_lt_of_le hbl_ hi274) (Nat.le_refl _)) (Nat.lt_of_lt_of_le (Nat.lt_of_lt_of_le hyl hi274) (Nat.le_refl _))).trans (Eng.Two.grown hg78 (Nat.lt_of_lt_of_le (Nat.lt_of_lt_of_le hbl_ hi274) (hb76).size) (Nat.lt_of_lt_of_le (Nat.lt_of_lt_of_le hyl hi274) (hb76).size) hbn hyn)), hB0_8, Nat.le_trans hi274 (Nat.le_trans (hb76).size (hg78).size), hk79, by rw [foldB_snoc]; exact hk78⟩
      · intro D81 xs w80 hDD81 hS_ ⟨hi180, hi280, hi380, hi480⟩ hfD81
        rw [foldB_all LL _ xs hS_, hLL, hcut0, List.reverse_reverse, hfold0] at hi480
        refine Eng.nb ?_
        refine hK60 _ _ ?_
        refine Eng.seqk fun K82 hK82 => ?_
        refine Eng.reg ?_
        refine Eng.sv rfl rfl (Eng.x_ldB (v := (dg (R ds))) rfl ag24_rt sz24_rt rfl hi480 ((bcs_length _).trans hR32) rfl) ?_
        refine Eng.stB (v := (dg (R ds))) rfl rfl rfl sz24_rt rfl hi380 rfl rfl (cs' := (bcs (R ds))) rfl ((bcs_length _).trans hR32) (bcs_one _) ?_
        intro w83 hk83 hg83
        refine Eng.nil ?_
        refine hK82 _ _ ?_
        refine Eng.rt ?_
        have hDD := (hfD81).grown hg83 (fun e => absurd (Option.some.inj e) (Nat.ne_of_gt (Nat.lt_of_lt_of_le hz2 (Nat.le_trans (Nat.le_trans (Nat.le_trans (Nat.le_trans hzL14 (hb58).size) (hg59).size) (hb65).size) hDD81))))
        refine Eng.retC hDD (fun w_ _ _ hbk_ => Eng.res1 (v1 := (dg (R ds))) rfl (Eng.rdc rfl (Eng.lvB ag24_rt sz24_rt (hbk_ _ _ _ hk83) ((bcs_length _).trans hR32) rfl))) (fun w_ hw_ => ?_)
        have hB0_7 : Below w.heap.size w w83 := (hi180).grown hg83 (hi180).size (fun k e => by cases e; exact Nat.le_trans (Nat.le_refl _) (Nat.le_refl _))
        have hBC := (hB0_7).trans (hw_.mono (Nat.le_trans (hB0_5).size hDD81))
        exact ⟨by unfold rootS; rw [if_neg (by omega)], hBC⟩
      · intro D_ c_ pre_ W_ _ _ hx_ _; exact hx_.elim
end Go.Proofs.YtojenflknjhmkaaDoor.TreP
end

section
namespace Go.Proofs.YtojenflknjhmkaaDoor.Ver
open Go Go.RowKit Go.Proofs.YtojenflknjhmkaaDoor.Cop
set_option linter.unusedVariables false
set_option linter.unusedSimpArgs false
set_option maxRecDepth 100000 in
theorem thalf_calls (n : Nat) (h : 2 ≤ n) (h' : n ≤ 281474976710656) (w : World) : Calls Tryd.prog 56 #[.int .i64 (n : Int)] w fun e w' => e = .returned (.int .i64 (H n : Int)) ∧ w = w' := by
  have hb := Tryd.bits_Len ((n - 1 : Nat) : Int) w (by omega) (by omega)
  obtain ⟨q1, q2, q3⟩ := bitLen_spec (n - 1) (by omega) (by omega)
  have q4 := Lib.bitLen_le (n - 1) 48 (by decide) (by omega)
  have hH : 2 ^ (Lib.bitLen (n - 1) - 1) = H n := rfl
  obtain ⟨hn1, hn2, hn3⟩ := H_spec n h h'
  rw [show (((n - 1 : Nat) : Int)).toNat = n - 1 by omega] at hb
  obtain ⟨L, hL⟩ : ∃ L, Lib.bitLen (n - 1) = L := ⟨_, rfl⟩
  rw [hL] at hb hH q4 q1
  obtain ⟨m, hm⟩ : ∃ m, n - 1 = m := ⟨_, rfl⟩
  rw [hm] at hb
  obtain ⟨b, rfl⟩ : ∃ b, L = b + 1 := ⟨L - 1, by omega⟩
  rw [Nat.add_sub_cancel] at hH
  have e1 : (n : Int) - 1 = (m : Int) := by omega
  have e2 : ((b + 1 : Nat) : Int) - 1 = (b : Int) := by omega
  have hpow : (2 : Int) ^ b = (H n : Int) := by rw [pow_toNat, hH]
  have hHb : (H n : Int) ≤ 281474976710656 := by omega
  generalize H n = Hn at hpow hH hHb ⊢
  generalize b + 1 = L at hb e2
  have HB := Lib.hid hb
  have HP := Lib.hid hpow
  have hb47 : b ≤ 47 := by omega
  clear hb q2 q3 q1 q4 hL hm hpow hH hn1 hn2 hn3
  go_enter Tryd.func56, Tryd.ntmps56
  go_wp2_with (go_at_call 113; go_loud (refine HB.out.mono ?_); rintro e w' ⟨rfl, rfl⟩)
  go_ret
  have hw : wrap64 (Hn : Int) = (Hn : Int) := by unfold wrap64; omega
  exact ⟨by rw [HP.out, hw]; rfl, rfl⟩
end Go.Proofs.YtojenflknjhmkaaDoor.Ver
end

section
namespace Go.Proofs.YtojenflknjhmkaaDoor.TreP
open Go Go.RowKit Go.Proofs.YtojenflknjhmkaaDoor Go.Proofs.YtojenflknjhmkaaDoor.Cop Go.Proofs.YtojenflknjhmkaaDoor.Ver Go.Proofs.YtojenflknjhmkaaDoor.Tre Go.Proofs.YtojenflknjhmkaaDoor.Vfy Go.Proofs.YtojenflknjhmkaaDoor.Oct Go.Proofs.YtojenflknjhmkaaDoor.Dsl Go.Proofs.YtojenflknjhmkaaDoor.Sha
set_option linter.unusedVariables false
set_option linter.unusedSimpArgs false
theorem en56_ic : Eng.Entr Tryd.prog 56 := ⟨_, Tryd.func56, by kernel_rfl, by kernel_rfl⟩
theorem ag3_ic (w : World) : (isAgg 3).run Tryd.prog w = .ok false w := by kernel_rfl
theorem ag98_ic (w : World) : (isAgg 98).run Tryd.prog w = .ok false w := by kernel_rfl
theorem en55_ic : Eng.Entr Tryd.prog 55 := ⟨_, Tryd.func55, by kernel_rfl, by kernel_rfl⟩
theorem ag29_ic (w : World) : (isAgg 29).run Tryd.prog w = .ok false w := by kernel_rfl
theorem sz24_ic : (Tryd.prog.info? 24).map (fun i => i.size) = some 32 := by kernel_rfl
theorem en21_ic : Eng.Entr Tryd.prog 21 := ⟨_, Tryd.func21, by kernel_rfl, by kernel_rfl⟩
theorem in24_ic : (Tryd.prog.info? 24).map (fun i => (i.zero, i.size, i.bytes)) = some (some (dg Oct.dz), 32, 32) := by kernel_rfl
theorem sz29_ic : (Tryd.prog.info? 29).map (fun i => i.size) = some 1 := by kernel_rfl
theorem en57_ic : Eng.Entr Tryd.prog 57 := ⟨_, Tryd.func57, by kernel_rfl, by kernel_rfl⟩
theorem zr29_ic (w : World) : (zeroValue 29).run Tryd.prog w = .ok (.slice none 0 0) w := by kernel_rfl
theorem zr98_ic (w : World) : (zeroValue 98).run Tryd.prog w = .ok Value.nilFunc w := by kernel_rfl
theorem sz98_ic : (Tryd.prog.info? 98).map (fun i => i.size) = some 1 := by kernel_rfl
theorem troot_ne {v : Value} {ds : List (List UInt8)} {w : World} (h : Ds w v ds) (h0 : 0 < ds.length) (hm : ds.length ≤ 281474976710656) (hK : Kon w) : Calls Tryd.prog 21 #[v] w fun e w' => e = .returned (dg (R ds)) ∧ Below w.heap.size w w' := by
  have := troot_calls v ds w h hm hK
  unfold rootS at this
  rwa [if_neg (by omega)] at this
/-- A piece of the leaves. -/
def seg (ds : List (List UInt8)) (b e : Nat) : List (List UInt8) := (ds.drop b).take (e - b)
theorem seg_len {ds : List (List UInt8)} {b e : Nat} (h : e ≤ ds.length) : (seg ds b e).length = e - b := by unfold seg; rw [List.length_take, List.length_drop]; omega
theorem seg_take {ds : List (List UInt8)} {b e k : Nat} (hk : k ≤ e - b) : (seg ds b e).take k = seg ds b (b + k) := by unfold seg; rw [List.take_take, Nat.min_eq_left hk, Nat.add_sub_cancel_left]
theorem seg_drop {ds : List (List UInt8)} {b e k : Nat} : (seg ds b e).drop k = seg ds (b + k) e := by unfold seg; rw [List.drop_take, List.drop_drop, Nat.sub_sub]
theorem seg_all (ds : List (List UInt8)) : seg ds 0 ds.length = ds := by unfold seg; simp
theorem path_l {ds : List (List UInt8)} {b e i : Nat} (he : e ≤ ds.length) (hm : ds.length ≤ 281474976710656) (h2 : 2 ≤ e - b) (hi : i - b < H (e - b)) (hH : H (e - b) < e - b) : path (seg ds b e) (i - b) = path (seg ds b (b + H (e - b))) (i - b) ++ [R (seg ds (b + H (e - b)) e)] := by
  have hl := seg_len (b := b) he
  rw [path_step _ _ (by omega) (by omega), hl, if_pos hi, seg_take (by omega), seg_drop]
theorem path_r {ds : List (List UInt8)} {b e i : Nat} (he : e ≤ ds.length) (hm : ds.length ≤ 281474976710656) (h2 : 2 ≤ e - b) (hi : ¬ i - b < H (e - b)) (hH : H (e - b) < e - b) : path (seg ds b e) (i - b) = path (seg ds (b + H (e - b)) e) (i - (b + H (e - b))) ++ [R (seg ds b (b + H (e - b)))] := by
  have hl := seg_len (b := b) he
  rw [path_step _ _ (by omega) (by omega), hl, if_neg hi, seg_take (by omega), seg_drop, Nat.sub_sub]
theorem path_e {ds : List (List UInt8)} {b e i : Nat} (he : e ≤ ds.length) (h2 : e - b ≤ 1) : path (seg ds b e) (i - b) = [] := path_one _ _ (by rw [seg_len he]; omega)
theorem cons_l {ds : List (List UInt8)} {b e m : Nat} {wh : Bool} (he : e ≤ ds.length) (hm : ds.length ≤ 281474976710656) (hb : b < m) (hme : m < e) (hi : m - b ≤ H (e - b)) (hH : H (e - b) < e - b) : consL (seg ds b e) (m - b) wh = consL (seg ds b (b + H (e - b))) (m - b) wh ++ [R (seg ds (b + H (e - b)) e)] := by
  have hl := seg_len (b := b) he
  rw [consL_step _ _ _ (by omega) (by omega) (by omega), hl, if_pos hi, seg_take (by omega), seg_drop]
theorem cons_r {ds : List (List UInt8)} {b e m : Nat} {wh : Bool} (he : e ≤ ds.length) (hm : ds.length ≤ 281474976710656) (hb : b < m) (hme : m < e) (hi : ¬ m - b ≤ H (e - b)) (hH : H (e - b) < e - b) : consL (seg ds b e) (m - b) wh = consL (seg ds (b + H (e - b)) e) (m - (b + H (e - b))) false ++ [R (seg ds b (b + H (e - b)))] := by
  have hl := seg_len (b := b) he
  rw [consL_step _ _ _ (by omega) (by omega) (by omega), hl, if_neg hi, seg_take (by omega), seg_drop, Nat.sub_sub]
theorem cons_e {ds : List (List UInt8)} {b e : Nat} {wh : Bool} (he : e ≤ ds.length) : consL (seg ds b e) (e - b) wh = if wh then [] else [R (seg ds b e)] := by
  have := consL_one (seg ds b e) wh
  rwa [seg_len he] at this
theorem pathlen {l : List (List UInt8)} (h : All32 l) (hm : l.length ≤ 281474976710656) (i : Nat) : All32 (path l i) ∧ (path l i).length ≤ 49 := by
  obtain ⟨h1, h2, _⟩ := path_all l.length l i (Nat.le_refl _) hm h
  exact ⟨h1, by rw [h2]; exact wayL_len _ _⟩
theorem conslen {l : List (List UInt8)} (h : All32 l) (hm : l.length ≤ 281474976710656) {m : Nat} (h1 : 1 ≤ m) (h2 : m ≤ l.length) (wh : Bool) : All32 (consL l m wh) ∧ (consL l m wh).length ≤ 50 := by
  obtain ⟨q1, q2, _⟩ := cons_all l.length l m wh (Nat.le_refl _) hm h h1 h2
  refine ⟨q1, ?_⟩
  rw [q2]
  have := stL_len m l.length
  split <;> omega
theorem seg32 {ds : List (List UInt8)} (h : All32 ds) (b e : Nat) : All32 (seg ds b e) := fun d hd => h d (List.mem_of_mem_drop (List.mem_of_mem_take hd))
structure incH (W00 W0 : World) (bI bW bP bL : Nat) (v : Value) (ds : List (List UInt8)) : Prop where
  rd : Ds W00 v ds
  kon : Kon W00
  m : ds.length ≤ 281474976710656
  z : W00.heap.size ≤ W0.heap.size
  oI : W00.heap.size ≤ bI
  oW : W00.heap.size ≤ bW
  oP : W00.heap.size ≤ bP
  oL : W00.heap.size ≤ bL
  lI : bI < W0.heap.size
  lW : bW < W0.heap.size
  lP : bP < W0.heap.size
  lL : bL < W0.heap.size
  nI : bP ≠ bI
  nW : bP ≠ bW
  nL : bP ≠ bL
def incC (W00 W0 : World) (bI bW bP bL i : Nat) (v : Value) (ds : List (List UInt8)) (n : Nat) : Prop := ∀ (b e : Nat) (vp : Value) (pp : List (List UInt8)) (w : World), e - b ≤ n → e ≤ ds.length → b ≤ i ∧ i < e → pp.length + (path (seg ds b e) (i - b)).length ≤ 100 → Blk w bI 3 [.int .i64 (i : Int)] → Blk w bW 98 [(.func (.func 55) #[] #[(.pointer (some ⟨bI, 0, none⟩)), (.pointer (some ⟨bW, 0, none⟩)), (.pointer (some ⟨bP, 0, none⟩)), (.pointer (some ⟨bL, 0, none⟩))])] → Blk w bP 29 [vp] → Blk w bL 29 [v] → Eng.OwnD W0.heap.size w vp pp → Below W00.heap.size W00 w → W0.heap.size ≤ w.heap.size → Calls Tryd.prog 55 #[.int .i64 (b : Int), .int .i64 (e : Int), (.pointer (some ⟨bI, 0, none⟩)), (.pointer (some ⟨bW, 0, none⟩)), (.pointer (some ⟨bP, 0, none⟩)), (.pointer (some ⟨bL, 0, none⟩))] w fun r w' => r = .returned (.tuple #[]) ∧ ∃ vp', Blk w' bI 3 [.int .i64 (i : Int)] ∧ Blk w' bW 98 [(.func (.func 55) #[] #[(.pointer (some ⟨bI, 0, none⟩)), (.pointer (some ⟨bW, 0, none⟩)), (.pointer (some ⟨bP, 0, none⟩)), (.pointer (some ⟨bL, 0, none⟩))])] ∧ Blk w' bP 29 [vp'] ∧ Blk w' bL 29 [v] ∧ Eng.OwnD W0.heap.size w' vp' (pp ++ path (seg ds b e) (i - b)) ∧ Below W00.heap.size W00 w' ∧ w.heap.size ≤ w'.heap.size
set_option maxRecDepth 100000 in
set_option maxHeartbeats 4000000 in
theorem inc_step (W00 W0 : World) (bI bW bP bL i : Nat) (v : Value) (ds : List (List UInt8)) (X : incH W00 W0 bI bW bP bL v ds) (n : Nat) (ih : ∀ m, m < n → incC W00 W0 bI bW bP bL i v ds m) : incC W00 W0 bI bW bP bL i v ds n := by
  intro b e vp pp w hn he hbi hlp hI hW_ hP hL hO h00 hz
  have hm := X.m
  have hsm := X.rd.1.small
  refine Eng.enter (l := [.int .i64 (b : Int), .int .i64 (e : Int), (.pointer (some ⟨bI, 0, none⟩)), (.pointer (some ⟨bW, 0, none⟩)), (.pointer (some ⟨bP, 0, none⟩)), (.pointer (some ⟨bL, 0, none⟩))]) Tryd.func55 rfl 46 rfl (by simp) ?_
  refine Eng.seqk fun K1 hK1 => ?_
  refine Eng.seqk fun K2 hK2 => ?_
  refine Eng.reg ?_
  refine Eng.sv rfl rfl (Eng.x_mv (v := (.int .i64 (e : Int))) rfl rfl) ?_
  refine Eng.sv rfl rfl (Eng.x_mv (v := (.int .i64 (b : Int))) rfl rfl) ?_
  refine Eng.sv rfl rfl (Eng.x_sub rfl rfl rfl (Eng.w64 (r := ((e : Int) - (b : Int))) (by omega))) ?_
  by_cases h12 : (((e : Int) - (b : Int)) : Int) = 1
  · skip
    refine Eng.sv rfl rfl (Eng.x_eq (r := true) rfl rfl rfl (Eng.eq_t (by omega))) ?_
    refine Eng.nil ?_
    refine hK2 _ _ ?_
    refine Eng.cond_t rfl ?_
    refine Eng.rt ?_
    refine Eng.tr ?_
    refine Eng.ret (Eng.res0 rfl ) ?_
    exact ⟨rfl, vp, hI, hW_, hP, hL, by rw [path_e he (by omega), List.append_nil]; exact hO, h00, (Nat.le_refl _)⟩
  · skip
    obtain ⟨q1, q2, q3⟩ := H_spec (e - b) (by omega) (by omega)
    refine Eng.sv rfl rfl (Eng.x_eq (r := false) rfl rfl rfl (Eng.eq_f (by omega))) ?_
    refine Eng.nil ?_
    refine hK2 _ _ ?_
    refine Eng.cond_f rfl ?_
    refine Eng.skp ?_
    refine hK1 _ _ ?_
    refine Eng.seqk fun K3 hK3 => ?_
    refine Eng.reg ?_
    refine Eng.sv rfl rfl (Eng.x_mv (v := (.int .i64 (b : Int))) rfl rfl) ?_
    refine Eng.sv rfl rfl (Eng.x_mv (v := (.int .i64 (e : Int))) rfl rfl) ?_
    refine Eng.sv rfl rfl (Eng.x_mv (v := (.int .i64 (b : Int))) rfl rfl) ?_
    refine Eng.sv rfl rfl (Eng.x_sub rfl rfl rfl (Eng.w64 (r := ((e - b : Nat) : Int)) (by omega))) ?_
    refine Eng.sc rfl (Eng.xc (vl := [(.int .i64 ((e - b : Nat) : Int))]) rfl rfl rfl en56_ic) (thalf_calls (e - b) (by omega) (by omega) _) ?_
    rintro _ _ ⟨rfl, rfl⟩
    refine Eng.aft_v rfl ?_
    refine Eng.sv rfl rfl (Eng.x_add rfl rfl rfl (Eng.w64 (r := ((b + H (e - b) : Nat) : Int)) (by omega))) ?_
    refine Eng.sv rfl rfl (Eng.x_as (v := (.int .i64 ((b + H (e - b) : Nat) : Int))) rfl rfl) ?_
    refine Eng.nil ?_
    refine hK3 _ _ ?_
    refine Eng.seqk fun K5 hK5 => ?_
    refine Eng.seqk fun K6 hK6 => ?_
    refine Eng.reg ?_
    refine Eng.sv rfl rfl (Eng.x_ld1 (v := (.int .i64 (i : Int))) rfl ag3_ic rfl ((hI).cell 0)) ?_
    refine Eng.sv rfl rfl (Eng.x_mv (v := (.int .i64 ((b + H (e - b) : Nat) : Int))) rfl rfl) ?_
    by_cases h21 : ((i : Int) : Int) < ((b + H (e - b) : Nat) : Int)
    · skip
      have hpl := path_l (ds := ds) (b := b) (e := e) (i := i) he hm (by omega) (by omega) q2
      have hll := congrArg List.length hpl
      simp only [List.length_append, List.length_cons, List.length_nil] at hll
      refine Eng.sv rfl rfl (Eng.x_lt (r := true) rfl rfl rfl (decide_eq_true (by omega))) ?_
      refine Eng.nil ?_
      refine hK6 _ _ ?_
      refine Eng.cond_t rfl ?_
      refine Eng.seqk fun K7 hK7 => ?_
      refine Eng.reg ?_
      refine Eng.sv rfl rfl (Eng.x_ld1 (v := (.func (.func 55) #[] #[(.pointer (some ⟨bI, 0, none⟩)), (.pointer (some ⟨bW, 0, none⟩)), (.pointer (some ⟨bP, 0, none⟩)), (.pointer (some ⟨bL, 0, none⟩))])) rfl ag98_ic rfl ((hW_).cell 0)) ?_
      refine Eng.sv rfl rfl (Eng.x_mv (v := (.int .i64 (b : Int))) rfl rfl) ?_
      refine Eng.sv rfl rfl (Eng.x_mv (v := (.int .i64 ((b + H (e - b) : Nat) : Int))) rfl rfl) ?_
      refine Eng.sc rfl (Eng.xcv (first := []) (cap := [(.pointer (some ⟨bI, 0, none⟩)), (.pointer (some ⟨bW, 0, none⟩)), (.pointer (some ⟨bP, 0, none⟩)), (.pointer (some ⟨bL, 0, none⟩))]) (vl := [(.int .i64 (b : Int)), (.int .i64 ((b + H (e - b) : Nat) : Int)), (.pointer (some ⟨bI, 0, none⟩)), (.pointer (some ⟨bW, 0, none⟩)), (.pointer (some ⟨bP, 0, none⟩)), (.pointer (some ⟨bL, 0, none⟩))]) rfl rfl rfl en55_ic) (ih (b + H (e - b) - (b)) (by omega) (b) (b + H (e - b)) _ pp _ (by omega) (by omega) (by omega) (by omega) hI hW_ hP hL hO h00 hz) ?_
      rintro _ w8 ⟨rfl, vp8, hi8, hw8, hp8, hl8, ho8, hbb8, hzz8⟩
      refine Eng.aft_v rfl ?_
      refine Eng.nil ?_
      refine hK7 _ _ ?_
      refine Eng.seqk fun K9 hK9 => ?_
      have hr11 := (X.rd).below hbb8
      have hq12 : Dsl.Ds W00 (Eng.sCut v (b + H (e - b) : Nat) e 32) (((ds).drop (b + H (e - b) : Nat)).take (e - (b + H (e - b) : Nat))) := (Eng.ds_cut X.rd (by omega) (by omega))
      have hr13 := (hq12).below hbb8
      have hr14 := (X.kon).below hbb8
      refine Eng.draw 7 [fun (vQ : Value) (_ : World) => vQ = vp8, fun (vQ : Value) (_ : World) => vQ = v, fun (vQ : Value) (_ : World) => vQ = (.int .i64 ((b + H (e - b) : Nat) : Int)), fun (vQ : Value) (_ : World) => vQ = (.int .i64 (e : Int)), fun (vQ : Value) (_ : World) => vQ = (Eng.sCut v (b + H (e - b) : Nat) e 32), fun (vQ : Value) (_ : World) => vQ = (dg (R (seg ds (b + H (e - b)) e))), fun (v : Value) (W : World) => ∃ g, v = .slice (some ⟨g, 0, none⟩) 1 1 ∧ Blk W g 24 (Dsl.dcs [(R (seg ds (b + H (e - b)) e))]) ∧ w8.heap.size ≤ g] (by kernel_rfl) (by kernel_rfl) (by kernel_rfl) (by kernel_rfl) rfl rfl ?_ ?_ ?_
      · exact ⟨fun _ _ _ h _ => h, fun _ _ _ h _ => h, fun _ _ _ h _ => h, fun _ _ _ h _ => h, fun _ _ _ h _ => h, fun _ _ _ h _ => h, fun v W W' ⟨g, h1, h2, h3⟩ hb => ⟨g, h1, h2.below hb, h3⟩, trivial⟩
      · refine ⟨?_, ?_, ?_, ?_, ?_, ?_, ?_, trivial⟩
        · intro u' W hbW hkp hdp K hK
          refine Eng.dv rfl rfl ?_ (hK _ _ (Below.refl _ _) rfl)
          exact (Eng.x_ld1 (v := vp8) rfl ag29_ic (show Eng.opv 46 u' (.tmp 4) = (.pointer (some ⟨bP, 0, none⟩)) from hkp 4 rfl) ((((hp8).below hbW)).cell 0))
        · intro u' W hbW hkp hdp K hK
          refine Eng.dv rfl rfl ?_ (hK _ _ (Below.refl _ _) rfl)
          exact (Eng.x_ld1 (v := v) rfl ag29_ic (show Eng.opv 46 u' (.tmp 5) = (.pointer (some ⟨bL, 0, none⟩)) from hkp 5 rfl) ((((hl8).below hbW)).cell 0))
        · intro u' W hbW hkp hdp K hK
          refine Eng.dv rfl rfl ?_ (hK _ _ (Below.refl _ _) rfl)
          exact (Eng.x_mv (v := (.int .i64 ((b + H (e - b) : Nat) : Int))) rfl (show Eng.opv 46 u' (.tmp 8) = (.int .i64 ((b + H (e - b) : Nat) : Int)) from hkp 8 rfl))
        · intro u' W hbW hkp hdp K hK
          refine Eng.dv rfl rfl ?_ (hK _ _ (Below.refl _ _) rfl)
          exact (Eng.x_mv (v := (.int .i64 (e : Int))) rfl (show Eng.opv 46 u' (.tmp 1) = (.int .i64 (e : Int)) from hkp 1 rfl))
        · intro u' W hbW hkp hdp K hK
          have e1 : (fun (vQ : Value) (_ : World) => vQ = v) (u' 27) W := hdp.1
          have e2 : (fun (vQ : Value) (_ : World) => vQ = (.int .i64 ((b + H (e - b) : Nat) : Int))) (u' 28) W := hdp.2.1
          have e3 : (fun (vQ : Value) (_ : World) => vQ = (.int .i64 (e : Int))) (u' 29) W := hdp.2.2.1
          refine Eng.dv rfl rfl ?_ (hK _ _ (Below.refl _ _) rfl)
          exact (Eng.x_sl (v := v) rfl Tryd.underlying29 sz24_ic (show Eng.opv 46 u' (.tmp 27) = v from e1) (((hr11).below hbW)).1 (b + H (e - b) : Nat) e (Eng.bd (k := .i64) (show Eng.opv 46 u' (.tmp 28) = (.int .i64 ((b + H (e - b) : Nat) : Int)) from e2)) (Eng.bd (k := .i64) (show Eng.opv 46 u' (.tmp 29) = (.int .i64 (e : Int)) from e3)) (by omega) (by omega))
        · intro u' W hbW hkp hdp K hK
          have e4 : (fun (vQ : Value) (_ : World) => vQ = (Eng.sCut v (b + H (e - b) : Nat) e 32)) (u' 30) W := hdp.1
          refine Eng.dc (vs := #[(Eng.sCut v (b + H (e - b) : Nat) e 32)]) rfl ?_ (troot_ne ((hr13).below hbW) (by have := seg_len (ds := ds) (b := b + H (e - b)) (e := e) (by omega); unfold seg at this; omega) (by have := seg_len (ds := ds) (b := b + H (e - b)) (e := e) (by omega); unfold seg at this; omega) ((hr14).below hbW)) ?_
          · exact Eng.xc (xs := #[(Go.Operand.tmp 30)]) (vl := [(Eng.sCut v (b + H (e - b) : Nat) e 32)]) rfl rfl (Eng.lc (show Eng.opv 46 u' (.tmp 30) = (Eng.sCut v (b + H (e - b) : Nat) e 32) from e4) rfl) en21_ic
          rintro _ W2 ⟨rfl, hb2⟩
          exact Eng.aft_v rfl (hK _ _ hb2 rfl)
        · intro u' W hbW hkp hdp K hK
          have e5 : (fun (vQ : Value) (_ : World) => vQ = (dg (R (seg ds (b + H (e - b)) e)))) (u' 31) W := hdp.1
          refine Eng.dv rfl rfl ?_ (hK (.slice (some ⟨W.heap.size, 0, none⟩) 1 1) (W.alloc (.cells (Dsl.dcs [(R (seg ds (b + H (e - b)) e))]).toArray 24)) (Eng.below_al _ _) ⟨_, rfl, Blk.new _ _ _, hbW.size⟩)
          exact Eng.x_bs (parts := #[(0, (Go.Operand.tmp 31))]) (vs := [(dg (R (seg ds (b + H (e - b)) e)))]) (cs := (Dsl.dcs [(R (seg ds (b + H (e - b)) e))])) (n := 1) rfl Tryd.underlying29 in24_ic (dg_size dz_length) (by decide) (Eng.lc (Eng.pr (show Eng.opv 46 u' (.tmp 31) = (dg (R (seg ds (b + H (e - b)) e))) from e5)) rfl) rfl (by decide) (by decide) (Eng.all_cons (p := fun v => v.cells.size = 32) (Eng.dg_cells (R_len _ (seg32 X.rd.2 _ _) (by rw [seg_len (by omega)]; omega))) Eng.all_nil) (by simp [Dsl.dcs, Value.cells])
      · intro ud10 w10 hb10 hkp10 ⟨f10_0, f10_1, f10_2, f10_3, f10_4, f10_5, ⟨gd10_6, f10_6, hkd10_6, hld10_6⟩, _⟩
        obtain rfl := Eng.collect (l := [(26, vp8), (27, v), (28, (.int .i64 ((b + H (e - b) : Nat) : Int))), (29, (.int .i64 (e : Int))), (30, (Eng.sCut v (b + H (e - b) : Nat) e 32)), (31, (dg (R (seg ds (b + H (e - b)) e)))), (32, (.slice (some ⟨gd10_6, 0, none⟩) 1 1))]) hkp10 ⟨f10_0, f10_1, f10_2, f10_3, f10_4, f10_5, f10_6, trivial⟩ rfl
        have hr16 := (ho8).below hb10
        refine Eng.apD rfl rfl rfl rfl hr16 rfl (Eng.ds_lit (l := [(R (seg ds (b + H (e - b)) e))]) hkd10_6 (Eng.all32_one (R_len _ (seg32 X.rd.2 _ _) (by rw [seg_len (by omega)]; omega))) (Nat.le_of_ble_eq_true rfl)) (by have := congrArg List.length hpl; simp only [List.length_append, List.length_cons, List.length_nil] at *; omega) (Nat.le_trans (Nat.le_trans hz hzz8) (hb10).size) ?_
        intro v15 w15 ho15 hg15
        have hk17 := ((hp8).below hb10).grown hg15 (fun e => absurd ((World.ownsRow.lt (ho8).1) _ e.symm).1 (Nat.not_le_of_lt (Nat.lt_of_lt_of_le X.lP (Nat.le_refl _))))
        refine Eng.stB (v := v15) rfl rfl rfl sz29_ic rfl hk17 rfl rfl (cs' := [v15]) (by rw [Eng.Row.cells1 (ho15).row]) rfl (Eng.one_cons (Eng.Row.one (ho15).row) Eng.one_nil) ?_
        intro w18 hk18 hg18
        refine Eng.nil ?_
        refine hK9 _ _ ?_
        refine Eng.rt ?_
        refine Eng.tr ?_
        refine Eng.ret (Eng.res0 rfl ) ?_
        have hr19 := (ho15).kept hg18 (.inr (fun e => absurd ((World.ownsRow.lt (ho15).1) _ e).1 (Nat.not_le_of_lt (Nat.lt_of_lt_of_le X.lP (Nat.le_refl _)))))
        have hk20 := (((hi8).below hb10).grown hg15 (fun e => absurd ((World.ownsRow.lt (ho8).1) _ e.symm).1 (Nat.not_le_of_lt (Nat.lt_of_lt_of_le X.lI (Nat.le_refl _))))).grown hg18 (fun e => absurd (Option.some.inj e) X.nI.symm)
        have hk21 := (((hw8).below hb10).grown hg15 (fun e => absurd ((World.ownsRow.lt (ho8).1) _ e.symm).1 (Nat.not_le_of_lt (Nat.lt_of_lt_of_le X.lW (Nat.le_refl _))))).grown hg18 (fun e => absurd (Option.some.inj e) X.nW.symm)
        have hk22 := (((hl8).below hb10).grown hg15 (fun e => absurd ((World.ownsRow.lt (ho8).1) _ e.symm).1 (Nat.not_le_of_lt (Nat.lt_of_lt_of_le X.lL (Nat.le_refl _))))).grown hg18 (fun e => absurd (Option.some.inj e) X.nL.symm)
        have hB0_4 : Below W00.heap.size W00 w10 := (hbb8).trans (hb10.mono (hbb8).size)
        have hB0_5 : Below W00.heap.size W00 w15 := (hB0_4).grown hg15 (hB0_4).size (fun k e => Nat.le_trans X.z ((World.ownsRow.lt (ho8).1) _ e).1)
        have hB0_6 : Below W00.heap.size W00 w18 := (hB0_5).grown hg18 (hB0_5).size (fun k e => by cases e; exact Nat.le_trans (Nat.le_refl _) X.oP)
        exact ⟨rfl, v15, hk20, hk21, hk18, hk22, by rw [hpl, ← List.append_assoc]; exact hr19, hB0_6, (Nat.le_trans (Nat.le_trans (Nat.le_trans hzz8 (hb10).size) (hg15).size) (hg18).size)⟩
    · skip
      have hpl := path_r (ds := ds) (b := b) (e := e) (i := i) he hm (by omega) (by omega) q2
      have hll := congrArg List.length hpl
      simp only [List.length_append, List.length_cons, List.length_nil] at hll
      refine Eng.sv rfl rfl (Eng.x_lt (r := false) rfl rfl rfl (decide_eq_false (by omega))) ?_
      refine Eng.nil ?_
      refine hK6 _ _ ?_
      refine Eng.cond_f rfl ?_
      refine Eng.skp ?_
      refine hK5 _ _ ?_
      refine Eng.seqk fun K23 hK23 => ?_
      refine Eng.reg ?_
      refine Eng.sv rfl rfl (Eng.x_ld1 (v := (.func (.func 55) #[] #[(.pointer (some ⟨bI, 0, none⟩)), (.pointer (some ⟨bW, 0, none⟩)), (.pointer (some ⟨bP, 0, none⟩)), (.pointer (some ⟨bL, 0, none⟩))])) rfl ag98_ic rfl ((hW_).cell 0)) ?_
      refine Eng.sv rfl rfl (Eng.x_mv (v := (.int .i64 ((b + H (e - b) : Nat) : Int))) rfl rfl) ?_
      refine Eng.sv rfl rfl (Eng.x_mv (v := (.int .i64 (e : Int))) rfl rfl) ?_
      refine Eng.sc rfl (Eng.xcv (first := []) (cap := [(.pointer (some ⟨bI, 0, none⟩)), (.pointer (some ⟨bW, 0, none⟩)), (.pointer (some ⟨bP, 0, none⟩)), (.pointer (some ⟨bL, 0, none⟩))]) (vl := [(.int .i64 ((b + H (e - b) : Nat) : Int)), (.int .i64 (e : Int)), (.pointer (some ⟨bI, 0, none⟩)), (.pointer (some ⟨bW, 0, none⟩)), (.pointer (some ⟨bP, 0, none⟩)), (.pointer (some ⟨bL, 0, none⟩))]) rfl rfl rfl en55_ic) (ih (e - (b + H (e - b))) (by omega) (b + H (e - b)) (e) _ pp _ (by omega) (by omega) (by omega) (by omega) hI hW_ hP hL hO h00 hz) ?_
      rintro _ w24 ⟨rfl, vp24, hi24, hw24, hp24, hl24, ho24, hbb24, hzz24⟩
      refine Eng.aft_v rfl ?_
      refine Eng.nil ?_
      refine hK23 _ _ ?_
      have hr26 := (X.rd).below hbb24
      have hq27 : Dsl.Ds W00 (Eng.sCut v b (b + H (e - b) : Nat) 32) (((ds).drop b).take ((b + H (e - b) : Nat) - b)) := (Eng.ds_cut X.rd (by omega) (by omega))
      have hr28 := (hq27).below hbb24
      have hr29 := (X.kon).below hbb24
      refine Eng.draw 7 [fun (vQ : Value) (_ : World) => vQ = vp24, fun (vQ : Value) (_ : World) => vQ = v, fun (vQ : Value) (_ : World) => vQ = (.int .i64 (b : Int)), fun (vQ : Value) (_ : World) => vQ = (.int .i64 ((b + H (e - b) : Nat) : Int)), fun (vQ : Value) (_ : World) => vQ = (Eng.sCut v b (b + H (e - b) : Nat) 32), fun (vQ : Value) (_ : World) => vQ = (dg (R (seg ds b (b + H (e - b))))), fun (v : Value) (W : World) => ∃ g, v = .slice (some ⟨g, 0, none⟩) 1 1 ∧ Blk W g 24 (Dsl.dcs [(R (seg ds b (b + H (e - b))))]) ∧ w24.heap.size ≤ g] (by kernel_rfl) (by kernel_rfl) (by kernel_rfl) (by kernel_rfl) rfl rfl ?_ ?_ ?_
      · exact ⟨fun _ _ _ h _ => h, fun _ _ _ h _ => h, fun _ _ _ h _ => h, fun _ _ _ h _ => h, fun _ _ _ h _ => h, fun _ _ _ h _ => h, fun v W W' ⟨g, h1, h2, h3⟩ hb => ⟨g, h1, h2.below hb, h3⟩, trivial⟩
      · refine ⟨?_, ?_, ?_, ?_, ?_, ?_, ?_, trivial⟩
        · intro u' W hbW hkp hdp K hK
          refine Eng.dv rfl rfl ?_ (hK _ _ (Below.refl _ _) rfl)
          exact (Eng.x_ld1 (v := vp24) rfl ag29_ic (show Eng.opv 46 u' (.tmp 4) = (.pointer (some ⟨bP, 0, none⟩)) from hkp 4 rfl) ((((hp24).below hbW)).cell 0))
        · intro u' W hbW hkp hdp K hK
          refine Eng.dv rfl rfl ?_ (hK _ _ (Below.refl _ _) rfl)
          exact (Eng.x_ld1 (v := v) rfl ag29_ic (show Eng.opv 46 u' (.tmp 5) = (.pointer (some ⟨bL, 0, none⟩)) from hkp 5 rfl) ((((hl24).below hbW)).cell 0))
        · intro u' W hbW hkp hdp K hK
          refine Eng.dv rfl rfl ?_ (hK _ _ (Below.refl _ _) rfl)
          exact (Eng.x_mv (v := (.int .i64 (b : Int))) rfl (show Eng.opv 46 u' (.tmp 0) = (.int .i64 (b : Int)) from hkp 0 rfl))
        · intro u' W hbW hkp hdp K hK
          refine Eng.dv rfl rfl ?_ (hK _ _ (Below.refl _ _) rfl)
          exact (Eng.x_mv (v := (.int .i64 ((b + H (e - b) : Nat) : Int))) rfl (show Eng.opv 46 u' (.tmp 8) = (.int .i64 ((b + H (e - b) : Nat) : Int)) from hkp 8 rfl))
        · intro u' W hbW hkp hdp K hK
          have e1 : (fun (vQ : Value) (_ : World) => vQ = v) (u' 39) W := hdp.1
          have e2 : (fun (vQ : Value) (_ : World) => vQ = (.int .i64 (b : Int))) (u' 40) W := hdp.2.1
          have e3 : (fun (vQ : Value) (_ : World) => vQ = (.int .i64 ((b + H (e - b) : Nat) : Int))) (u' 41) W := hdp.2.2.1
          refine Eng.dv rfl rfl ?_ (hK _ _ (Below.refl _ _) rfl)
          exact (Eng.x_sl (v := v) rfl Tryd.underlying29 sz24_ic (show Eng.opv 46 u' (.tmp 39) = v from e1) (((hr26).below hbW)).1 b (b + H (e - b) : Nat) (Eng.bd (k := .i64) (show Eng.opv 46 u' (.tmp 40) = (.int .i64 (b : Int)) from e2)) (Eng.bd (k := .i64) (show Eng.opv 46 u' (.tmp 41) = (.int .i64 ((b + H (e - b) : Nat) : Int)) from e3)) (by omega) (by omega))
        · intro u' W hbW hkp hdp K hK
          have e4 : (fun (vQ : Value) (_ : World) => vQ = (Eng.sCut v b (b + H (e - b) : Nat) 32)) (u' 42) W := hdp.1
          refine Eng.dc (vs := #[(Eng.sCut v b (b + H (e - b) : Nat) 32)]) rfl ?_ (troot_ne ((hr28).below hbW) (by have := seg_len (ds := ds) (b := b) (e := b + H (e - b)) (by omega); unfold seg at this; omega) (by have := seg_len (ds := ds) (b := b) (e := b + H (e - b)) (by omega); unfold seg at this; omega) ((hr29).below hbW)) ?_
          · exact Eng.xc (xs := #[(Go.Operand.tmp 42)]) (vl := [(Eng.sCut v b (b + H (e - b) : Nat) 32)]) rfl rfl (Eng.lc (show Eng.opv 46 u' (.tmp 42) = (Eng.sCut v b (b + H (e - b) : Nat) 32) from e4) rfl) en21_ic
          rintro _ W2 ⟨rfl, hb2⟩
          exact Eng.aft_v rfl (hK _ _ hb2 rfl)
        · intro u' W hbW hkp hdp K hK
          have e5 : (fun (vQ : Value) (_ : World) => vQ = (dg (R (seg ds b (b + H (e - b)))))) (u' 43) W := hdp.1
          refine Eng.dv rfl rfl ?_ (hK (.slice (some ⟨W.heap.size, 0, none⟩) 1 1) (W.alloc (.cells (Dsl.dcs [(R (seg ds b (b + H (e - b))))]).toArray 24)) (Eng.below_al _ _) ⟨_, rfl, Blk.new _ _ _, hbW.size⟩)
          exact Eng.x_bs (parts := #[(0, (Go.Operand.tmp 43))]) (vs := [(dg (R (seg ds b (b + H (e - b)))))]) (cs := (Dsl.dcs [(R (seg ds b (b + H (e - b))))])) (n := 1) rfl Tryd.underlying29 in24_ic (dg_size dz_length) (by decide) (Eng.lc (Eng.pr (show Eng.opv 46 u' (.tmp 43) = (dg (R (seg ds b (b + H (e - b))))) from e5)) rfl) rfl (by decide) (by decide) (Eng.all_cons (p := fun v => v.cells.size = 32) (Eng.dg_cells (R_len _ (seg32 X.rd.2 _ _) (by rw [seg_len (by omega)]; omega))) Eng.all_nil) (by simp [Dsl.dcs, Value.cells])
      · intro ud25 w25 hb25 hkp25 ⟨f25_0, f25_1, f25_2, f25_3, f25_4, f25_5, ⟨gd25_6, f25_6, hkd25_6, hld25_6⟩, _⟩
        obtain rfl := Eng.collect (l := [(38, vp24), (39, v), (40, (.int .i64 (b : Int))), (41, (.int .i64 ((b + H (e - b) : Nat) : Int))), (42, (Eng.sCut v b (b + H (e - b) : Nat) 32)), (43, (dg (R (seg ds b (b + H (e - b)))))), (44, (.slice (some ⟨gd25_6, 0, none⟩) 1 1))]) hkp25 ⟨f25_0, f25_1, f25_2, f25_3, f25_4, f25_5, f25_6, trivial⟩ rfl
        have hr31 := (ho24).below hb25
        refine Eng.apD rfl rfl rfl rfl hr31 rfl (Eng.ds_lit (l := [(R (seg ds b (b + H (e - b))))]) hkd25_6 (Eng.all32_one (R_len _ (seg32 X.rd.2 _ _) (by rw [seg_len (by omega)]; omega))) (Nat.le_of_ble_eq_true rfl)) (by have := congrArg List.length hpl; simp only [List.length_append, List.length_cons, List.length_nil] at *; omega) (Nat.le_trans (Nat.le_trans hz hzz24) (hb25).size) ?_
        intro v30 w30 ho30 hg30
        have hk32 := ((hp24).below hb25).grown hg30 (fun e => absurd ((World.ownsRow.lt (ho24).1) _ e.symm).1 (Nat.not_le_of_lt (Nat.lt_of_lt_of_le X.lP (Nat.le_refl _))))
        refine Eng.stB (v := v30) rfl rfl rfl sz29_ic rfl hk32 rfl rfl (cs' := [v30]) (by rw [Eng.Row.cells1 (ho30).row]) rfl (Eng.one_cons (Eng.Row.one (ho30).row) Eng.one_nil) ?_
        intro w33 hk33 hg33
        refine Eng.nil ?_
        refine Eng.fin (Eng.res0 rfl ) ?_
        have hr34 := (ho30).kept hg33 (.inr (fun e => absurd ((World.ownsRow.lt (ho30).1) _ e).1 (Nat.not_le_of_lt (Nat.lt_of_lt_of_le X.lP (Nat.le_refl _)))))
        have hk35 := (((hi24).below hb25).grown hg30 (fun e => absurd ((World.ownsRow.lt (ho24).1) _ e.symm).1 (Nat.not_le_of_lt (Nat.lt_of_lt_of_le X.lI (Nat.le_refl _))))).grown hg33 (fun e => absurd (Option.some.inj e) X.nI.symm)
        have hk36 := (((hw24).below hb25).grown hg30 (fun e => absurd ((World.ownsRow.lt (ho24).1) _ e.symm).1 (Nat.not_le_of_lt (Nat.lt_of_lt_of_le X.lW (Nat.le_refl _))))).grown hg33 (fun e => absurd (Option.some.inj e) X.nW.symm)
        have hk37 := (((hl24).below hb25).grown hg30 (fun e => absurd ((World.ownsRow.lt (ho24).1) _ e.symm).1 (Nat.not_le_of_lt (Nat.lt_of_lt_of_le X.lL (Nat.le_refl _))))).grown hg33 (fun e => absurd (Option.some.inj e) X.nL.symm)
        have hB0_4 : Below W00.heap.size W00 w25 := (hbb24).trans (hb25.mono (hbb24).size)
        have hB0_5 : Below W00.heap.size W00 w30 := (hB0_4).grown hg30 (hB0_4).size (fun k e => Nat.le_trans X.z ((World.ownsRow.lt (ho24).1) _ e).1)
        have hB0_6 : Below W00.heap.size W00 w33 := (hB0_5).grown hg33 (hB0_5).size (fun k e => by cases e; exact Nat.le_trans (Nat.le_refl _) X.oP)
        exact ⟨rfl, v30, hk35, hk36, hk33, hk37, by rw [hpl, ← List.append_assoc]; exact hr34, hB0_6, (Nat.le_trans (Nat.le_trans (Nat.le_trans hzz24 (hb25).size) (hg30).size) (hg33).size)⟩
theorem inc_calls {W00 W0 : World} {bI bW bP bL i : Nat} {v : Value} {ds : List (List UInt8)} (X : incH W00 W0 bI bW bP bL v ds) (n : Nat) : incC W00 W0 bI bW bP bL i v ds n := by
  induction n using Nat.strongRecOn with
  | ind n ih => exact inc_step W00 W0 bI bW bP bL i v ds X n ih
structure conH (W00 W0 : World) (bI bW bP bL : Nat) (v : Value) (ds : List (List UInt8)) : Prop where
  rd : Ds W00 v ds
  kon : Kon W00
  m : ds.length ≤ 281474976710656
  z : W00.heap.size ≤ W0.heap.size
  oI : W00.heap.size ≤ bI
  oW : W00.heap.size ≤ bW
  oP : W00.heap.size ≤ bP
  oL : W00.heap.size ≤ bL
  lI : bI < W0.heap.size
  lW : bW < W0.heap.size
  lP : bP < W0.heap.size
  lL : bL < W0.heap.size
  nI : bP ≠ bI
  nW : bP ≠ bW
  nL : bP ≠ bL
def conC (W00 W0 : World) (bI bW bP bL i : Nat) (v : Value) (ds : List (List UInt8)) (n : Nat) : Prop := ∀ (b e : Nat) (vp : Value) (pp : List (List UInt8)) (w : World), e - b ≤ n → e ≤ ds.length → b < i ∧ i ≤ e → pp.length + (consL (seg ds b e) (i - b) (decide (b = 0))).length ≤ 100 → Blk w bI 3 [.int .i64 (i : Int)] → Blk w bW 98 [(.func (.func 57) #[] #[(.pointer (some ⟨bI, 0, none⟩)), (.pointer (some ⟨bP, 0, none⟩)), (.pointer (some ⟨bL, 0, none⟩)), (.pointer (some ⟨bW, 0, none⟩))])] → Blk w bP 29 [vp] → Blk w bL 29 [v] → Eng.OwnD W0.heap.size w vp pp → Below W00.heap.size W00 w → W0.heap.size ≤ w.heap.size → Calls Tryd.prog 57 #[.int .i64 (b : Int), .int .i64 (e : Int), (.pointer (some ⟨bI, 0, none⟩)), (.pointer (some ⟨bP, 0, none⟩)), (.pointer (some ⟨bL, 0, none⟩)), (.pointer (some ⟨bW, 0, none⟩))] w fun r w' => r = .returned (.tuple #[]) ∧ ∃ vp', Blk w' bI 3 [.int .i64 (i : Int)] ∧ Blk w' bW 98 [(.func (.func 57) #[] #[(.pointer (some ⟨bI, 0, none⟩)), (.pointer (some ⟨bP, 0, none⟩)), (.pointer (some ⟨bL, 0, none⟩)), (.pointer (some ⟨bW, 0, none⟩))])] ∧ Blk w' bP 29 [vp'] ∧ Blk w' bL 29 [v] ∧ Eng.OwnD W0.heap.size w' vp' (pp ++ consL (seg ds b e) (i - b) (decide (b = 0))) ∧ Below W00.heap.size W00 w' ∧ w.heap.size ≤ w'.heap.size
set_option maxRecDepth 100000 in
set_option maxHeartbeats 4000000 in
theorem con_step (W00 W0 : World) (bI bW bP bL i : Nat) (v : Value) (ds : List (List UInt8)) (X : conH W00 W0 bI bW bP bL v ds) (n : Nat) (ih : ∀ m, m < n → conC W00 W0 bI bW bP bL i v ds m) : conC W00 W0 bI bW bP bL i v ds n := by
  intro b e vp pp w hn he hbi hlp hI hW_ hP hL hO h00 hz
  have hm := X.m
  have hsm := X.rd.1.small
  refine Eng.enter (l := [.int .i64 (b : Int), .int .i64 (e : Int), (.pointer (some ⟨bI, 0, none⟩)), (.pointer (some ⟨bP, 0, none⟩)), (.pointer (some ⟨bL, 0, none⟩)), (.pointer (some ⟨bW, 0, none⟩))]) Tryd.func57 rfl 55 rfl (by simp) ?_
  refine Eng.seqk fun K1 hK1 => ?_
  refine Eng.seqk fun K2 hK2 => ?_
  refine Eng.reg ?_
  refine Eng.sv rfl rfl (Eng.x_ld1 (v := (.int .i64 (i : Int))) rfl ag3_ic rfl ((hI).cell 0)) ?_
  refine Eng.sv rfl rfl (Eng.x_mv (v := (.int .i64 (e : Int))) rfl rfl) ?_
  by_cases h11 : ((i : Int) : Int) = (e : Int)
  · skip
    have hie : i = e := by omega
    refine Eng.sv rfl rfl (Eng.x_eq (r := true) rfl rfl rfl (Eng.eq_t (by omega))) ?_
    refine Eng.nil ?_
    refine hK2 _ _ ?_
    refine Eng.cond_t rfl ?_
    refine Eng.seqk fun K3 hK3 => ?_
    refine Eng.seqk fun K4 hK4 => ?_
    refine Eng.reg ?_
    refine Eng.sv rfl rfl (Eng.x_mv (v := (.int .i64 (b : Int))) rfl rfl) ?_
    by_cases h13 : ((b : Int) : Int) > 0
    · skip
      refine Eng.sv rfl rfl (Eng.x_gt (r := true) rfl rfl rfl (decide_eq_true (by omega))) ?_
      refine Eng.nil ?_
      refine hK4 _ _ ?_
      refine Eng.cond_t rfl ?_
      have hr6 := (X.rd).below h00
      have hq7 : Dsl.Ds W00 (Eng.sCut v b e 32) (((ds).drop b).take (e - b)) := (Eng.ds_cut X.rd (by omega) (by omega))
      have hr8 := (hq7).below h00
      have hr9 := (X.kon).below h00
      refine Eng.draw 7 [fun (vQ : Value) (_ : World) => vQ = vp, fun (vQ : Value) (_ : World) => vQ = v, fun (vQ : Value) (_ : World) => vQ = (.int .i64 (b : Int)), fun (vQ : Value) (_ : World) => vQ = (.int .i64 (e : Int)), fun (vQ : Value) (_ : World) => vQ = (Eng.sCut v b e 32), fun (vQ : Value) (_ : World) => vQ = (dg (R (seg ds b e))), fun (v : Value) (W : World) => ∃ g, v = .slice (some ⟨g, 0, none⟩) 1 1 ∧ Blk W g 24 (Dsl.dcs [(R (seg ds b e))]) ∧ w.heap.size ≤ g] (by kernel_rfl) (by kernel_rfl) (by kernel_rfl) (by kernel_rfl) rfl rfl ?_ ?_ ?_
      · exact ⟨fun _ _ _ h _ => h, fun _ _ _ h _ => h, fun _ _ _ h _ => h, fun _ _ _ h _ => h, fun _ _ _ h _ => h, fun _ _ _ h _ => h, fun v W W' ⟨g, h1, h2, h3⟩ hb => ⟨g, h1, h2.below hb, h3⟩, trivial⟩
      · refine ⟨?_, ?_, ?_, ?_, ?_, ?_, ?_, trivial⟩
        · intro u' W hbW hkp hdp K hK
          refine Eng.dv rfl rfl ?_ (hK _ _ (Below.refl _ _) rfl)
          exact (Eng.x_ld1 (v := vp) rfl ag29_ic (show Eng.opv 55 u' (.tmp 3) = (.pointer (some ⟨bP, 0, none⟩)) from hkp 3 rfl) ((((hP).below hbW)).cell 0))
        · intro u' W hbW hkp hdp K hK
          refine Eng.dv rfl rfl ?_ (hK _ _ (Below.refl _ _) rfl)
          exact (Eng.x_ld1 (v := v) rfl ag29_ic (show Eng.opv 55 u' (.tmp 4) = (.pointer (some ⟨bL, 0, none⟩)) from hkp 4 rfl) ((((hL).below hbW)).cell 0))
        · intro u' W hbW hkp hdp K hK
          refine Eng.dv rfl rfl ?_ (hK _ _ (Below.refl _ _) rfl)
          exact (Eng.x_mv (v := (.int .i64 (b : Int))) rfl (show Eng.opv 55 u' (.tmp 0) = (.int .i64 (b : Int)) from hkp 0 rfl))
        · intro u' W hbW hkp hdp K hK
          refine Eng.dv rfl rfl ?_ (hK _ _ (Below.refl _ _) rfl)
          exact (Eng.x_mv (v := (.int .i64 (e : Int))) rfl (show Eng.opv 55 u' (.tmp 1) = (.int .i64 (e : Int)) from hkp 1 rfl))
        · intro u' W hbW hkp hdp K hK
          have e1 : (fun (vQ : Value) (_ : World) => vQ = v) (u' 15) W := hdp.1
          have e2 : (fun (vQ : Value) (_ : World) => vQ = (.int .i64 (b : Int))) (u' 16) W := hdp.2.1
          have e3 : (fun (vQ : Value) (_ : World) => vQ = (.int .i64 (e : Int))) (u' 17) W := hdp.2.2.1
          refine Eng.dv rfl rfl ?_ (hK _ _ (Below.refl _ _) rfl)
          exact (Eng.x_sl (v := v) rfl Tryd.underlying29 sz24_ic (show Eng.opv 55 u' (.tmp 15) = v from e1) (((hr6).below hbW)).1 b e (Eng.bd (k := .i64) (show Eng.opv 55 u' (.tmp 16) = (.int .i64 (b : Int)) from e2)) (Eng.bd (k := .i64) (show Eng.opv 55 u' (.tmp 17) = (.int .i64 (e : Int)) from e3)) (by omega) (by omega))
        · intro u' W hbW hkp hdp K hK
          have e4 : (fun (vQ : Value) (_ : World) => vQ = (Eng.sCut v b e 32)) (u' 18) W := hdp.1
          refine Eng.dc (vs := #[(Eng.sCut v b e 32)]) rfl ?_ (troot_ne ((hr8).below hbW) (by have := seg_len (ds := ds) (b := b) (e := e) (by omega); unfold seg at this; omega) (by have := seg_len (ds := ds) (b := b) (e := e) (by omega); unfold seg at this; omega) ((hr9).below hbW)) ?_
          · exact Eng.xc (xs := #[(Go.Operand.tmp 18)]) (vl := [(Eng.sCut v b e 32)]) rfl rfl (Eng.lc (show Eng.opv 55 u' (.tmp 18) = (Eng.sCut v b e 32) from e4) rfl) en21_ic
          rintro _ W2 ⟨rfl, hb2⟩
          exact Eng.aft_v rfl (hK _ _ hb2 rfl)
        · intro u' W hbW hkp hdp K hK
          have e5 : (fun (vQ : Value) (_ : World) => vQ = (dg (R (seg ds b e)))) (u' 19) W := hdp.1
          refine Eng.dv rfl rfl ?_ (hK (.slice (some ⟨W.heap.size, 0, none⟩) 1 1) (W.alloc (.cells (Dsl.dcs [(R (seg ds b e))]).toArray 24)) (Eng.below_al _ _) ⟨_, rfl, Blk.new _ _ _, hbW.size⟩)
          exact Eng.x_bs (parts := #[(0, (Go.Operand.tmp 19))]) (vs := [(dg (R (seg ds b e)))]) (cs := (Dsl.dcs [(R (seg ds b e))])) (n := 1) rfl Tryd.underlying29 in24_ic (dg_size dz_length) (by decide) (Eng.lc (Eng.pr (show Eng.opv 55 u' (.tmp 19) = (dg (R (seg ds b e))) from e5)) rfl) rfl (by decide) (by decide) (Eng.all_cons (p := fun v => v.cells.size = 32) (Eng.dg_cells (R_len _ (seg32 X.rd.2 _ _) (by rw [seg_len (by omega)]; omega))) Eng.all_nil) (by simp [Dsl.dcs, Value.cells])
      · intro ud5 w5 hb5 hkp5 ⟨f5_0, f5_1, f5_2, f5_3, f5_4, f5_5, ⟨gd5_6, f5_6, hkd5_6, hld5_6⟩, _⟩
        obtain rfl := Eng.collect (l := [(14, vp), (15, v), (16, (.int .i64 (b : Int))), (17, (.int .i64 (e : Int))), (18, (Eng.sCut v b e 32)), (19, (dg (R (seg ds b e)))), (20, (.slice (some ⟨gd5_6, 0, none⟩) 1 1))]) hkp5 ⟨f5_0, f5_1, f5_2, f5_3, f5_4, f5_5, f5_6, trivial⟩ rfl
        have hr11 := (hO).below hb5
        refine Eng.apD rfl rfl rfl rfl hr11 rfl (Eng.ds_lit (l := [(R (seg ds b e))]) hkd5_6 (Eng.all32_one (R_len _ (seg32 X.rd.2 _ _) (by rw [seg_len (by omega)]; omega))) (Nat.le_of_ble_eq_true rfl)) (by simp only [List.length_cons, List.length_nil]; omega) (Nat.le_trans hz (hb5).size) ?_
        intro v10 w10 ho10 hg10
        have hk12 := ((hP).below hb5).grown hg10 (fun e => absurd ((World.ownsRow.lt (hO).1) _ e.symm).1 (Nat.not_le_of_lt (Nat.lt_of_lt_of_le X.lP (Nat.le_refl _))))
        refine Eng.stB (v := v10) rfl rfl rfl sz29_ic rfl hk12 rfl rfl (cs' := [v10]) (by rw [Eng.Row.cells1 (ho10).row]) rfl (Eng.one_cons (Eng.Row.one (ho10).row) Eng.one_nil) ?_
        intro w13 hk13 hg13
        refine Eng.nil ?_
        refine hK3 _ _ ?_
        refine Eng.rt ?_
        refine Eng.tr ?_
        refine Eng.ret (Eng.res0 rfl ) ?_
        have hr14 := (ho10).kept hg13 (.inr (fun e => absurd ((World.ownsRow.lt (ho10).1) _ e).1 (Nat.not_le_of_lt (Nat.lt_of_lt_of_le X.lP (Nat.le_refl _)))))
        have hk15 := (((hI).below hb5).grown hg10 (fun e => absurd ((World.ownsRow.lt (hO).1) _ e.symm).1 (Nat.not_le_of_lt (Nat.lt_of_lt_of_le X.lI (Nat.le_refl _))))).grown hg13 (fun e => absurd (Option.some.inj e) X.nI.symm)
        have hk16 := (((hW_).below hb5).grown hg10 (fun e => absurd ((World.ownsRow.lt (hO).1) _ e.symm).1 (Nat.not_le_of_lt (Nat.lt_of_lt_of_le X.lW (Nat.le_refl _))))).grown hg13 (fun e => absurd (Option.some.inj e) X.nW.symm)
        have hk17 := (((hL).below hb5).grown hg10 (fun e => absurd ((World.ownsRow.lt (hO).1) _ e.symm).1 (Nat.not_le_of_lt (Nat.lt_of_lt_of_le X.lL (Nat.le_refl _))))).grown hg13 (fun e => absurd (Option.some.inj e) X.nL.symm)
        have hB0_3 : Below W00.heap.size W00 w5 := (h00).trans (hb5.mono (h00).size)
        have hB0_4 : Below W00.heap.size W00 w10 := (hB0_3).grown hg10 (hB0_3).size (fun k e => Nat.le_trans X.z ((World.ownsRow.lt (hO).1) _ e).1)
        have hB0_5 : Below W00.heap.size W00 w13 := (hB0_4).grown hg13 (hB0_4).size (fun k e => by cases e; exact Nat.le_trans (Nat.le_refl _) X.oP)
        exact ⟨rfl, v10, hk15, hk16, hk13, hk17, by rw [hie, cons_e he, show decide (b = 0) = false from decide_eq_false (by omega)]; simp only [Bool.false_eq_true, if_false]; exact hr14, hB0_5, (Nat.le_trans (Nat.le_trans (hb5).size (hg10).size) (hg13).size)⟩
    · skip
      refine Eng.sv rfl rfl (Eng.x_gt (r := false) rfl rfl rfl (decide_eq_false (by omega))) ?_
      refine Eng.nil ?_
      refine hK4 _ _ ?_
      refine Eng.cond_f rfl ?_
      refine Eng.skp ?_
      refine hK3 _ _ ?_
      refine Eng.rt ?_
      refine Eng.tr ?_
      refine Eng.ret (Eng.res0 rfl ) ?_
      exact ⟨rfl, vp, hI, hW_, hP, hL, by rw [hie, cons_e he, show decide (b = 0) = true from decide_eq_true (by omega)]; simp only [if_true, List.append_nil]; exact hO, h00, (Nat.le_refl _)⟩
  · skip
    obtain ⟨q1, q2, q3⟩ := H_spec (e - b) (by omega) (by omega)
    refine Eng.sv rfl rfl (Eng.x_eq (r := false) rfl rfl rfl (Eng.eq_f (by omega))) ?_
    refine Eng.nil ?_
    refine hK2 _ _ ?_
    refine Eng.cond_f rfl ?_
    refine Eng.skp ?_
    refine hK1 _ _ ?_
    refine Eng.seqk fun K18 hK18 => ?_
    refine Eng.reg ?_
    refine Eng.sv rfl rfl (Eng.x_mv (v := (.int .i64 (b : Int))) rfl rfl) ?_
    refine Eng.sv rfl rfl (Eng.x_mv (v := (.int .i64 (e : Int))) rfl rfl) ?_
    refine Eng.sv rfl rfl (Eng.x_mv (v := (.int .i64 (b : Int))) rfl rfl) ?_
    refine Eng.sv rfl rfl (Eng.x_sub rfl rfl rfl (Eng.w64 (r := ((e - b : Nat) : Int)) (by omega))) ?_
    refine Eng.sc rfl (Eng.xc (vl := [(.int .i64 ((e - b : Nat) : Int))]) rfl rfl rfl en56_ic) (thalf_calls (e - b) (by omega) (by omega) _) ?_
    rintro _ _ ⟨rfl, rfl⟩
    refine Eng.aft_v rfl ?_
    refine Eng.sv rfl rfl (Eng.x_add rfl rfl rfl (Eng.w64 (r := ((b + H (e - b) : Nat) : Int)) (by omega))) ?_
    refine Eng.sv rfl rfl (Eng.x_as (v := (.int .i64 ((b + H (e - b) : Nat) : Int))) rfl rfl) ?_
    refine Eng.nil ?_
    refine hK18 _ _ ?_
    refine Eng.seqk fun K20 hK20 => ?_
    refine Eng.seqk fun K21 hK21 => ?_
    refine Eng.reg ?_
    refine Eng.sv rfl rfl (Eng.x_ld1 (v := (.int .i64 (i : Int))) rfl ag3_ic rfl ((hI).cell 0)) ?_
    refine Eng.sv rfl rfl (Eng.x_mv (v := (.int .i64 ((b + H (e - b) : Nat) : Int))) rfl rfl) ?_
    by_cases h30 : ((i : Int) : Int) ≤ ((b + H (e - b) : Nat) : Int)
    · skip
      have hpl := cons_l (wh := decide (b = 0)) (ds := ds) (b := b) (e := e) (m := i) he hm (by omega) (by omega) (by omega) q2
      have hll := congrArg List.length hpl
      simp only [List.length_append, List.length_cons, List.length_nil] at hll
      refine Eng.sv rfl rfl (Eng.x_le (r := true) rfl rfl rfl (decide_eq_true (by omega))) ?_
      refine Eng.nil ?_
      refine hK21 _ _ ?_
      refine Eng.cond_t rfl ?_
      refine Eng.seqk fun K22 hK22 => ?_
      refine Eng.reg ?_
      refine Eng.sv rfl rfl (Eng.x_ld1 (v := (.func (.func 57) #[] #[(.pointer (some ⟨bI, 0, none⟩)), (.pointer (some ⟨bP, 0, none⟩)), (.pointer (some ⟨bL, 0, none⟩)), (.pointer (some ⟨bW, 0, none⟩))])) rfl ag98_ic rfl ((hW_).cell 0)) ?_
      refine Eng.sv rfl rfl (Eng.x_mv (v := (.int .i64 (b : Int))) rfl rfl) ?_
      refine Eng.sv rfl rfl (Eng.x_mv (v := (.int .i64 ((b + H (e - b) : Nat) : Int))) rfl rfl) ?_
      refine Eng.sc rfl (Eng.xcv (first := []) (cap := [(.pointer (some ⟨bI, 0, none⟩)), (.pointer (some ⟨bP, 0, none⟩)), (.pointer (some ⟨bL, 0, none⟩)), (.pointer (some ⟨bW, 0, none⟩))]) (vl := [(.int .i64 (b : Int)), (.int .i64 ((b + H (e - b) : Nat) : Int)), (.pointer (some ⟨bI, 0, none⟩)), (.pointer (some ⟨bP, 0, none⟩)), (.pointer (some ⟨bL, 0, none⟩)), (.pointer (some ⟨bW, 0, none⟩))]) rfl rfl rfl en57_ic) (ih (b + H (e - b) - (b)) (by omega) (b) (b + H (e - b)) _ pp _ (by omega) (by omega) (by omega) (by omega) hI hW_ hP hL hO h00 hz) ?_
      rintro _ w23 ⟨rfl, vp23, hi23, hw23, hp23, hl23, ho23, hbb23, hzz23⟩
      refine Eng.aft_v rfl ?_
      refine Eng.nil ?_
      refine hK22 _ _ ?_
      refine Eng.seqk fun K24 hK24 => ?_
      have hr26 := (X.rd).below hbb23
      have hq27 : Dsl.Ds W00 (Eng.sCut v (b + H (e - b) : Nat) e 32) (((ds).drop (b + H (e - b) : Nat)).take (e - (b + H (e - b) : Nat))) := (Eng.ds_cut X.rd (by omega) (by omega))
      have hr28 := (hq27).below hbb23
      have hr29 := (X.kon).below hbb23
      refine Eng.draw 7 [fun (vQ : Value) (_ : World) => vQ = vp23, fun (vQ : Value) (_ : World) => vQ = v, fun (vQ : Value) (_ : World) => vQ = (.int .i64 ((b + H (e - b) : Nat) : Int)), fun (vQ : Value) (_ : World) => vQ = (.int .i64 (e : Int)), fun (vQ : Value) (_ : World) => vQ = (Eng.sCut v (b + H (e - b) : Nat) e 32), fun (vQ : Value) (_ : World) => vQ = (dg (R (seg ds (b + H (e - b)) e))), fun (v : Value) (W : World) => ∃ g, v = .slice (some ⟨g, 0, none⟩) 1 1 ∧ Blk W g 24 (Dsl.dcs [(R (seg ds (b + H (e - b)) e))]) ∧ w23.heap.size ≤ g] (by kernel_rfl) (by kernel_rfl) (by kernel_rfl) (by kernel_rfl) rfl rfl ?_ ?_ ?_
      · exact ⟨fun _ _ _ h _ => h, fun _ _ _ h _ => h, fun _ _ _ h _ => h, fun _ _ _ h _ => h, fun _ _ _ h _ => h, fun _ _ _ h _ => h, fun v W W' ⟨g, h1, h2, h3⟩ hb => ⟨g, h1, h2.below hb, h3⟩, trivial⟩
      · refine ⟨?_, ?_, ?_, ?_, ?_, ?_, ?_, trivial⟩
        · intro u' W hbW hkp hdp K hK
          refine Eng.dv rfl rfl ?_ (hK _ _ (Below.refl _ _) rfl)
          exact (Eng.x_ld1 (v := vp23) rfl ag29_ic (show Eng.opv 55 u' (.tmp 3) = (.pointer (some ⟨bP, 0, none⟩)) from hkp 3 rfl) ((((hp23).below hbW)).cell 0))
        · intro u' W hbW hkp hdp K hK
          refine Eng.dv rfl rfl ?_ (hK _ _ (Below.refl _ _) rfl)
          exact (Eng.x_ld1 (v := v) rfl ag29_ic (show Eng.opv 55 u' (.tmp 4) = (.pointer (some ⟨bL, 0, none⟩)) from hkp 4 rfl) ((((hl23).below hbW)).cell 0))
        · intro u' W hbW hkp hdp K hK
          refine Eng.dv rfl rfl ?_ (hK _ _ (Below.refl _ _) rfl)
          exact (Eng.x_mv (v := (.int .i64 ((b + H (e - b) : Nat) : Int))) rfl (show Eng.opv 55 u' (.tmp 8) = (.int .i64 ((b + H (e - b) : Nat) : Int)) from hkp 8 rfl))
        · intro u' W hbW hkp hdp K hK
          refine Eng.dv rfl rfl ?_ (hK _ _ (Below.refl _ _) rfl)
          exact (Eng.x_mv (v := (.int .i64 (e : Int))) rfl (show Eng.opv 55 u' (.tmp 1) = (.int .i64 (e : Int)) from hkp 1 rfl))
        · intro u' W hbW hkp hdp K hK
          have e1 : (fun (vQ : Value) (_ : World) => vQ = v) (u' 36) W := hdp.1
          have e2 : (fun (vQ : Value) (_ : World) => vQ = (.int .i64 ((b + H (e - b) : Nat) : Int))) (u' 37) W := hdp.2.1
          have e3 : (fun (vQ : Value) (_ : World) => vQ = (.int .i64 (e : Int))) (u' 38) W := hdp.2.2.1
          refine Eng.dv rfl rfl ?_ (hK _ _ (Below.refl _ _) rfl)
          exact (Eng.x_sl (v := v) rfl Tryd.underlying29 sz24_ic (show Eng.opv 55 u' (.tmp 36) = v from e1) (((hr26).below hbW)).1 (b + H (e - b) : Nat) e (Eng.bd (k := .i64) (show Eng.opv 55 u' (.tmp 37) = (.int .i64 ((b + H (e - b) : Nat) : Int)) from e2)) (Eng.bd (k := .i64) (show Eng.opv 55 u' (.tmp 38) = (.int .i64 (e : Int)) from e3)) (by omega) (by omega))
        · intro u' W hbW hkp hdp K hK
          have e4 : (fun (vQ : Value) (_ : World) => vQ = (Eng.sCut v (b + H (e - b) : Nat) e 32)) (u' 39) W := hdp.1
          refine Eng.dc (vs := #[(Eng.sCut v (b + H (e - b) : Nat) e 32)]) rfl ?_ (troot_ne ((hr28).below hbW) (by have := seg_len (ds := ds) (b := b + H (e - b)) (e := e) (by omega); unfold seg at this; omega) (by have := seg_len (ds := ds) (b := b + H (e - b)) (e := e) (by omega); unfold seg at this; omega) ((hr29).below hbW)) ?_
          · exact Eng.xc (xs := #[(Go.Operand.tmp 39)]) (vl := [(Eng.sCut v (b + H (e - b) : Nat) e 32)]) rfl rfl (Eng.lc (show Eng.opv 55 u' (.tmp 39) = (Eng.sCut v (b + H (e - b) : Nat) e 32) from e4) rfl) en21_ic
          rintro _ W2 ⟨rfl, hb2⟩
          exact Eng.aft_v rfl (hK _ _ hb2 rfl)
        · intro u' W hbW hkp hdp K hK
          have e5 : (fun (vQ : Value) (_ : World) => vQ = (dg (R (seg ds (b + H (e - b)) e)))) (u' 40) W := hdp.1
          refine Eng.dv rfl rfl ?_ (hK (.slice (some ⟨W.heap.size, 0, none⟩) 1 1) (W.alloc (.cells (Dsl.dcs [(R (seg ds (b + H (e - b)) e))]).toArray 24)) (Eng.below_al _ _) ⟨_, rfl, Blk.new _ _ _, hbW.size⟩)
          exact Eng.x_bs (parts := #[(0, (Go.Operand.tmp 40))]) (vs := [(dg (R (seg ds (b + H (e - b)) e)))]) (cs := (Dsl.dcs [(R (seg ds (b + H (e - b)) e))])) (n := 1) rfl Tryd.underlying29 in24_ic (dg_size dz_length) (by decide) (Eng.lc (Eng.pr (show Eng.opv 55 u' (.tmp 40) = (dg (R (seg ds (b + H (e - b)) e))) from e5)) rfl) rfl (by decide) (by decide) (Eng.all_cons (p := fun v => v.cells.size = 32) (Eng.dg_cells (R_len _ (seg32 X.rd.2 _ _) (by rw [seg_len (by omega)]; omega))) Eng.all_nil) (by simp [Dsl.dcs, Value.cells])
      · intro ud25 w25 hb25 hkp25 ⟨f25_0, f25_1, f25_2, f25_3, f25_4, f25_5, ⟨gd25_6, f25_6, hkd25_6, hld25_6⟩, _⟩
        obtain rfl := Eng.collect (l := [(35, vp23), (36, v), (37, (.int .i64 ((b + H (e - b) : Nat) : Int))), (38, (.int .i64 (e : Int))), (39, (Eng.sCut v (b + H (e - b) : Nat) e 32)), (40, (dg (R (seg ds (b + H (e - b)) e)))), (41, (.slice (some ⟨gd25_6, 0, none⟩) 1 1))]) hkp25 ⟨f25_0, f25_1, f25_2, f25_3, f25_4, f25_5, f25_6, trivial⟩ rfl
        have hr31 := (ho23).below hb25
        refine Eng.apD rfl rfl rfl rfl hr31 rfl (Eng.ds_lit (l := [(R (seg ds (b + H (e - b)) e))]) hkd25_6 (Eng.all32_one (R_len _ (seg32 X.rd.2 _ _) (by rw [seg_len (by omega)]; omega))) (Nat.le_of_ble_eq_true rfl)) (by have := congrArg List.length hpl; simp only [List.length_append, List.length_cons, List.length_nil] at *; omega) (Nat.le_trans (Nat.le_trans hz hzz23) (hb25).size) ?_
        intro v30 w30 ho30 hg30
        have hk32 := ((hp23).below hb25).grown hg30 (fun e => absurd ((World.ownsRow.lt (ho23).1) _ e.symm).1 (Nat.not_le_of_lt (Nat.lt_of_lt_of_le X.lP (Nat.le_refl _))))
        refine Eng.stB (v := v30) rfl rfl rfl sz29_ic rfl hk32 rfl rfl (cs' := [v30]) (by rw [Eng.Row.cells1 (ho30).row]) rfl (Eng.one_cons (Eng.Row.one (ho30).row) Eng.one_nil) ?_
        intro w33 hk33 hg33
        refine Eng.nil ?_
        refine hK24 _ _ ?_
        refine Eng.rt ?_
        refine Eng.tr ?_
        refine Eng.ret (Eng.res0 rfl ) ?_
        have hr34 := (ho30).kept hg33 (.inr (fun e => absurd ((World.ownsRow.lt (ho30).1) _ e).1 (Nat.not_le_of_lt (Nat.lt_of_lt_of_le X.lP (Nat.le_refl _)))))
        have hk35 := (((hi23).below hb25).grown hg30 (fun e => absurd ((World.ownsRow.lt (ho23).1) _ e.symm).1 (Nat.not_le_of_lt (Nat.lt_of_lt_of_le X.lI (Nat.le_refl _))))).grown hg33 (fun e => absurd (Option.some.inj e) X.nI.symm)
        have hk36 := (((hw23).below hb25).grown hg30 (fun e => absurd ((World.ownsRow.lt (ho23).1) _ e.symm).1 (Nat.not_le_of_lt (Nat.lt_of_lt_of_le X.lW (Nat.le_refl _))))).grown hg33 (fun e => absurd (Option.some.inj e) X.nW.symm)
        have hk37 := (((hl23).below hb25).grown hg30 (fun e => absurd ((World.ownsRow.lt (ho23).1) _ e.symm).1 (Nat.not_le_of_lt (Nat.lt_of_lt_of_le X.lL (Nat.le_refl _))))).grown hg33 (fun e => absurd (Option.some.inj e) X.nL.symm)
        have hB0_4 : Below W00.heap.size W00 w25 := (hbb23).trans (hb25.mono (hbb23).size)
        have hB0_5 : Below W00.heap.size W00 w30 := (hB0_4).grown hg30 (hB0_4).size (fun k e => Nat.le_trans X.z ((World.ownsRow.lt (ho23).1) _ e).1)
        have hB0_6 : Below W00.heap.size W00 w33 := (hB0_5).grown hg33 (hB0_5).size (fun k e => by cases e; exact Nat.le_trans (Nat.le_refl _) X.oP)
        exact ⟨rfl, v30, hk35, hk36, hk33, hk37, by rw [hpl, ← List.append_assoc]; exact hr34, hB0_6, (Nat.le_trans (Nat.le_trans (Nat.le_trans hzz23 (hb25).size) (hg30).size) (hg33).size)⟩
    · skip
      have hpl := cons_r (wh := decide (b = 0)) (ds := ds) (b := b) (e := e) (m := i) he hm (by omega) (by omega) (by omega) q2
      have hdf : decide (b + H (e - b) = 0) = false := decide_eq_false (by omega)
      have hll := congrArg List.length hpl
      simp only [List.length_append, List.length_cons, List.length_nil] at hll
      rw [← hdf] at hll
      refine Eng.sv rfl rfl (Eng.x_le (r := false) rfl rfl rfl (decide_eq_false (by omega))) ?_
      refine Eng.nil ?_
      refine hK21 _ _ ?_
      refine Eng.cond_f rfl ?_
      refine Eng.skp ?_
      refine hK20 _ _ ?_
      refine Eng.seqk fun K38 hK38 => ?_
      refine Eng.reg ?_
      refine Eng.sv rfl rfl (Eng.x_ld1 (v := (.func (.func 57) #[] #[(.pointer (some ⟨bI, 0, none⟩)), (.pointer (some ⟨bP, 0, none⟩)), (.pointer (some ⟨bL, 0, none⟩)), (.pointer (some ⟨bW, 0, none⟩))])) rfl ag98_ic rfl ((hW_).cell 0)) ?_
      refine Eng.sv rfl rfl (Eng.x_mv (v := (.int .i64 ((b + H (e - b) : Nat) : Int))) rfl rfl) ?_
      refine Eng.sv rfl rfl (Eng.x_mv (v := (.int .i64 (e : Int))) rfl rfl) ?_
      refine Eng.sc rfl (Eng.xcv (first := []) (cap := [(.pointer (some ⟨bI, 0, none⟩)), (.pointer (some ⟨bP, 0, none⟩)), (.pointer (some ⟨bL, 0, none⟩)), (.pointer (some ⟨bW, 0, none⟩))]) (vl := [(.int .i64 ((b + H (e - b) : Nat) : Int)), (.int .i64 (e : Int)), (.pointer (some ⟨bI, 0, none⟩)), (.pointer (some ⟨bP, 0, none⟩)), (.pointer (some ⟨bL, 0, none⟩)), (.pointer (some ⟨bW, 0, none⟩))]) rfl rfl rfl en57_ic) (ih (e - (b + H (e - b))) (by omega) (b + H (e - b)) (e) _ pp _ (by omega) (by omega) (by omega) (by omega) hI hW_ hP hL hO h00 hz) ?_
      rintro _ w39 ⟨rfl, vp39, hi39, hw39, hp39, hl39, ho39, hbb39, hzz39⟩
      refine Eng.aft_v rfl ?_
      refine Eng.nil ?_
      refine hK38 _ _ ?_
      have hr41 := (X.rd).below hbb39
      have hq42 : Dsl.Ds W00 (Eng.sCut v b (b + H (e - b) : Nat) 32) (((ds).drop b).take ((b + H (e - b) : Nat) - b)) := (Eng.ds_cut X.rd (by omega) (by omega))
      have hr43 := (hq42).below hbb39
      have hr44 := (X.kon).below hbb39
      refine Eng.draw 7 [fun (vQ : Value) (_ : World) => vQ = vp39, fun (vQ : Value) (_ : World) => vQ = v, fun (vQ : Value) (_ : World) => vQ = (.int .i64 (b : Int)), fun (vQ : Value) (_ : World) => vQ = (.int .i64 ((b + H (e - b) : Nat) : Int)), fun (vQ : Value) (_ : World) => vQ = (Eng.sCut v b (b + H (e - b) : Nat) 32), fun (vQ : Value) (_ : World) => vQ = (dg (R (seg ds b (b + H (e - b))))), fun (v : Value) (W : World) => ∃ g, v = .slice (some ⟨g, 0, none⟩) 1 1 ∧ Blk W g 24 (Dsl.dcs [(R (seg ds b (b + H (e - b))))]) ∧ w39.heap.size ≤ g] (by kernel_rfl) (by kernel_rfl) (by kernel_rfl) (by kernel_rfl) rfl rfl ?_ ?_ ?_
      · exact ⟨fun _ _ _ h _ => h, fun _ _ _ h _ => h, fun _ _ _ h _ => h, fun _ _ _ h _ => h, fun _ _ _ h _ => h, fun _ _ _ h _ => h, fun v W W' ⟨g, h1, h2, h3⟩ hb => ⟨g, h1, h2.below hb, h3⟩, trivial⟩
      · refine ⟨?_, ?_, ?_, ?_, ?_, ?_, ?_, trivial⟩
        · intro u' W hbW hkp hdp K hK
          refine Eng.dv rfl rfl ?_ (hK _ _ (Below.refl _ _) rfl)
          exact (Eng.x_ld1 (v := vp39) rfl ag29_ic (show Eng.opv 55 u' (.tmp 3) = (.pointer (some ⟨bP, 0, none⟩)) from hkp 3 rfl) ((((hp39).below hbW)).cell 0))
        · intro u' W hbW hkp hdp K hK
          refine Eng.dv rfl rfl ?_ (hK _ _ (Below.refl _ _) rfl)
          exact (Eng.x_ld1 (v := v) rfl ag29_ic (show Eng.opv 55 u' (.tmp 4) = (.pointer (some ⟨bL, 0, none⟩)) from hkp 4 rfl) ((((hl39).below hbW)).cell 0))
        · intro u' W hbW hkp hdp K hK
          refine Eng.dv rfl rfl ?_ (hK _ _ (Below.refl _ _) rfl)
          exact (Eng.x_mv (v := (.int .i64 (b : Int))) rfl (show Eng.opv 55 u' (.tmp 0) = (.int .i64 (b : Int)) from hkp 0 rfl))
        · intro u' W hbW hkp hdp K hK
          refine Eng.dv rfl rfl ?_ (hK _ _ (Below.refl _ _) rfl)
          exact (Eng.x_mv (v := (.int .i64 ((b + H (e - b) : Nat) : Int))) rfl (show Eng.opv 55 u' (.tmp 8) = (.int .i64 ((b + H (e - b) : Nat) : Int)) from hkp 8 rfl))
        · intro u' W hbW hkp hdp K hK
          have e1 : (fun (vQ : Value) (_ : World) => vQ = v) (u' 48) W := hdp.1
          have e2 : (fun (vQ : Value) (_ : World) => vQ = (.int .i64 (b : Int))) (u' 49) W := hdp.2.1
          have e3 : (fun (vQ : Value) (_ : World) => vQ = (.int .i64 ((b + H (e - b) : Nat) : Int))) (u' 50) W := hdp.2.2.1
          refine Eng.dv rfl rfl ?_ (hK _ _ (Below.refl _ _) rfl)
          exact (Eng.x_sl (v := v) rfl Tryd.underlying29 sz24_ic (show Eng.opv 55 u' (.tmp 48) = v from e1) (((hr41).below hbW)).1 b (b + H (e - b) : Nat) (Eng.bd (k := .i64) (show Eng.opv 55 u' (.tmp 49) = (.int .i64 (b : Int)) from e2)) (Eng.bd (k := .i64) (show Eng.opv 55 u' (.tmp 50) = (.int .i64 ((b + H (e - b) : Nat) : Int)) from e3)) (by omega) (by omega))
        · intro u' W hbW hkp hdp K hK
          have e4 : (fun (vQ : Value) (_ : World) => vQ = (Eng.sCut v b (b + H (e - b) : Nat) 32)) (u' 51) W := hdp.1
          refine Eng.dc (vs := #[(Eng.sCut v b (b + H (e - b) : Nat) 32)]) rfl ?_ (troot_ne ((hr43).below hbW) (by have := seg_len (ds := ds) (b := b) (e := b + H (e - b)) (by omega); unfold seg at this; omega) (by have := seg_len (ds := ds) (b := b) (e := b + H (e - b)) (by omega); unfold seg at this; omega) ((hr44).below hbW)) ?_
          · exact Eng.xc (xs := #[(Go.Operand.tmp 51)]) (vl := [(Eng.sCut v b (b + H (e - b) : Nat) 32)]) rfl rfl (Eng.lc (show Eng.opv 55 u' (.tmp 51) = (Eng.sCut v b (b + H (e - b) : Nat) 32) from e4) rfl) en21_ic
          rintro _ W2 ⟨rfl, hb2⟩
          exact Eng.aft_v rfl (hK _ _ hb2 rfl)
        · intro u' W hbW hkp hdp K hK
          have e5 : (fun (vQ : Value) (_ : World) => vQ = (dg (R (seg ds b (b + H (e - b)))))) (u' 52) W := hdp.1
          refine Eng.dv rfl rfl ?_ (hK (.slice (some ⟨W.heap.size, 0, none⟩) 1 1) (W.alloc (.cells (Dsl.dcs [(R (seg ds b (b + H (e - b))))]).toArray 24)) (Eng.below_al _ _) ⟨_, rfl, Blk.new _ _ _, hbW.size⟩)
          exact Eng.x_bs (parts := #[(0, (Go.Operand.tmp 52))]) (vs := [(dg (R (seg ds b (b + H (e - b)))))]) (cs := (Dsl.dcs [(R (seg ds b (b + H (e - b))))])) (n := 1) rfl Tryd.underlying29 in24_ic (dg_size dz_length) (by decide) (Eng.lc (Eng.pr (show Eng.opv 55 u' (.tmp 52) = (dg (R (seg ds b (b + H (e - b))))) from e5)) rfl) rfl (by decide) (by decide) (Eng.all_cons (p := fun v => v.cells.size = 32) (Eng.dg_cells (R_len _ (seg32 X.rd.2 _ _) (by rw [seg_len (by omega)]; omega))) Eng.all_nil) (by simp [Dsl.dcs, Value.cells])
      · intro ud40 w40 hb40 hkp40 ⟨f40_0, f40_1, f40_2, f40_3, f40_4, f40_5, ⟨gd40_6, f40_6, hkd40_6, hld40_6⟩, _⟩
        obtain rfl := Eng.collect (l := [(47, vp39), (48, v), (49, (.int .i64 (b : Int))), (50, (.int .i64 ((b + H (e - b) : Nat) : Int))), (51, (Eng.sCut v b (b + H (e - b) : Nat) 32)), (52, (dg (R (seg ds b (b + H (e - b)))))), (53, (.slice (some ⟨gd40_6, 0, none⟩) 1 1))]) hkp40 ⟨f40_0, f40_1, f40_2, f40_3, f40_4, f40_5, f40_6, trivial⟩ rfl
        have hr46 := (ho39).below hb40
        refine Eng.apD rfl rfl rfl rfl hr46 rfl (Eng.ds_lit (l := [(R (seg ds b (b + H (e - b))))]) hkd40_6 (Eng.all32_one (R_len _ (seg32 X.rd.2 _ _) (by rw [seg_len (by omega)]; omega))) (Nat.le_of_ble_eq_true rfl)) (by have := congrArg List.length hpl; simp only [List.length_append, List.length_cons, List.length_nil] at *; omega) (Nat.le_trans (Nat.le_trans hz hzz39) (hb40).size) ?_
        intro v45 w45 ho45 hg45
        have hk47 := ((hp39).below hb40).grown hg45 (fun e => absurd ((World.ownsRow.lt (ho39).1) _ e.symm).1 (Nat.not_le_of_lt (Nat.lt_of_lt_of_le X.lP (Nat.le_refl _))))
        refine Eng.stB (v := v45) rfl rfl rfl sz29_ic rfl hk47 rfl rfl (cs' := [v45]) (by rw [Eng.Row.cells1 (ho45).row]) rfl (Eng.one_cons (Eng.Row.one (ho45).row) Eng.one_nil) ?_
        intro w48 hk48 hg48
        refine Eng.nil ?_
        refine Eng.fin (Eng.res0 rfl ) ?_
        have hr49 := (ho45).kept hg48 (.inr (fun e => absurd ((World.ownsRow.lt (ho45).1) _ e).1 (Nat.not_le_of_lt (Nat.lt_of_lt_of_le X.lP (Nat.le_refl _)))))
        have hk50 := (((hi39).below hb40).grown hg45 (fun e => absurd ((World.ownsRow.lt (ho39).1) _ e.symm).1 (Nat.not_le_of_lt (Nat.lt_of_lt_of_le X.lI (Nat.le_refl _))))).grown hg48 (fun e => absurd (Option.some.inj e) X.nI.symm)
        have hk51 := (((hw39).below hb40).grown hg45 (fun e => absurd ((World.ownsRow.lt (ho39).1) _ e.symm).1 (Nat.not_le_of_lt (Nat.lt_of_lt_of_le X.lW (Nat.le_refl _))))).grown hg48 (fun e => absurd (Option.some.inj e) X.nW.symm)
        have hk52 := (((hl39).below hb40).grown hg45 (fun e => absurd ((World.ownsRow.lt (ho39).1) _ e.symm).1 (Nat.not_le_of_lt (Nat.lt_of_lt_of_le X.lL (Nat.le_refl _))))).grown hg48 (fun e => absurd (Option.some.inj e) X.nL.symm)
        have hB0_4 : Below W00.heap.size W00 w40 := (hbb39).trans (hb40.mono (hbb39).size)
        have hB0_5 : Below W00.heap.size W00 w45 := (hB0_4).grown hg45 (hB0_4).size (fun k e => Nat.le_trans X.z ((World.ownsRow.lt (ho39).1) _ e).1)
        have hB0_6 : Below W00.heap.size W00 w48 := (hB0_5).grown hg48 (hB0_5).size (fun k e => by cases e; exact Nat.le_trans (Nat.le_refl _) X.oP)
        exact ⟨rfl, v45, hk50, hk51, hk48, hk52, by rw [hpl, ← hdf, ← List.append_assoc]; exact hr49, hB0_6, (Nat.le_trans (Nat.le_trans (Nat.le_trans hzz39 (hb40).size) (hg45).size) (hg48).size)⟩
theorem con_calls {W00 W0 : World} {bI bW bP bL i : Nat} {v : Value} {ds : List (List UInt8)} (X : conH W00 W0 bI bW bP bL v ds) (n : Nat) : conC W00 W0 bI bW bP bL i v ds n := by
  induction n using Nat.strongRecOn with
  | ind n ih => exact con_step W00 W0 bI bW bP bL i v ds X n ih
theorem seg_0 (ds : List (List UInt8)) (n : Nat) : seg ds 0 n = ds.take n := by unfold seg; simp
set_option maxRecDepth 100000 in
set_option maxHeartbeats 4000000 in
theorem tincl_calls (v : Value) (ds : List (List UInt8)) (i n : Nat) (w : World) (h : Ds w v ds) (hm : ds.length ≤ 281474976710656) (hK : Kon w) (hn : n ≤ ds.length) (hi : i < n) : Calls Tryd.prog 18 #[v, (.int .i64 (i : Int)), (.int .i64 (n : Int))] w (fun e w' => ∃ vp, e = .returned (.tuple #[vp, .int .i64 0]) ∧ Eng.OwnD w.heap.size w' vp (path (ds.take n) i) ∧ Below w.heap.size w w') := by
  have hsm := h.1.small
  refine Eng.enter (l := [v, (.int .i64 (i : Int)), (.int .i64 (n : Int))]) Tryd.func18 rfl 32 rfl (by simp) ?_
  refine Eng.seqk fun K1 hK1 => ?_
  refine Eng.reg ?_
  refine Eng.bo (v := v) (cs := [v]) rfl rfl rfl rfl (by rw [Eng.Row.cells1 (h).1]) ?_
  intro w2 hk2 hb2 hz2
  refine Eng.bo (v := (.int .i64 (i : Int))) (cs := [(.int .i64 (i : Int))]) rfl rfl rfl rfl rfl ?_
  intro w3 hk3 hb3 hz3
  refine Eng.sv rfl rfl (Eng.x_as (v := (.slice none 0 0)) rfl rfl) ?_
  refine Eng.sv rfl rfl (Eng.x_as (v := (.int .i64 0)) rfl rfl) ?_
  refine Eng.nil ?_
  refine hK1 _ _ ?_
  refine Eng.seqk fun K4 hK4 => ?_
  refine Eng.seqk fun K5 hK5 => ?_
  refine Eng.reg ?_
  refine Eng.sv rfl rfl (Eng.x_mv (v := (.int .i64 (n : Int))) rfl rfl) ?_
  refine Eng.sv rfl rfl (Eng.x_lt (r := false) rfl rfl rfl (decide_eq_false (by omega))) ?_
  refine Eng.sv rfl rfl (Eng.x_mv (v := (.bool false)) rfl rfl) ?_
  refine Eng.sv (Eng.gt rfl rfl rfl rfl) rfl (Eng.x_mv (v := (.int .i64 (n : Int))) rfl rfl) ?_
  have hk6 := (hk2).below hb3
  refine Eng.sv (Eng.gt rfl rfl rfl rfl) rfl (Eng.x_ld1 (v := v) rfl ag29_ic rfl ((hk6).cell 0)) ?_
  have hB0_2 : Below w.heap.size w w3 := (hb2).trans (hb3.mono (hb2).size)
  have hr7 := (h).below hB0_2
  refine Eng.sv (Eng.gt rfl rfl rfl rfl) rfl (Eng.x_len (v := v) (r := (ds.length : Int)) rfl Tryd.underlying29 rfl (hr7).1 rfl) ?_
  refine Eng.sv (Eng.gt rfl rfl rfl rfl) rfl (Eng.x_gt (r := false) rfl rfl rfl (decide_eq_false (by omega))) ?_
  refine Eng.sv rfl rfl (Eng.x_pick (v := (.bool false)) rfl rfl rfl rfl rfl) ?_
  refine Eng.sv rfl rfl (Eng.x_mv (v := (.bool false)) rfl rfl) ?_
  refine Eng.sv (Eng.gt rfl rfl rfl rfl) rfl (Eng.x_ld1 (v := (.int .i64 (i : Int))) rfl ag3_ic rfl ((hk3).cell 0)) ?_
  refine Eng.sv (Eng.gt rfl rfl rfl rfl) rfl (Eng.x_lt (r := false) rfl rfl rfl (decide_eq_false (by omega))) ?_
  refine Eng.sv rfl rfl (Eng.x_pick (v := (.bool false)) rfl rfl rfl rfl rfl) ?_
  refine Eng.sv rfl rfl (Eng.x_mv (v := (.bool false)) rfl rfl) ?_
  refine Eng.sv (Eng.gt rfl rfl rfl rfl) rfl (Eng.x_ld1 (v := (.int .i64 (i : Int))) rfl ag3_ic rfl ((hk3).cell 0)) ?_
  refine Eng.sv (Eng.gt rfl rfl rfl rfl) rfl (Eng.x_mv (v := (.int .i64 (n : Int))) rfl rfl) ?_
  refine Eng.sv (Eng.gt rfl rfl rfl rfl) rfl (Eng.x_ge (r := false) rfl rfl rfl (decide_eq_false (by omega))) ?_
  refine Eng.sv rfl rfl (Eng.x_pick (v := (.bool false)) rfl rfl rfl rfl rfl) ?_
  refine Eng.nil ?_
  refine hK5 _ _ ?_
  refine Eng.cond_f rfl ?_
  refine Eng.skp ?_
  refine hK4 _ _ ?_
  refine Eng.seqk fun K8 hK8 => ?_
  refine Eng.reg ?_
  refine Eng.al rfl rfl rfl zr29_ic (cs := [(.slice none 0 0)]) rfl ?_
  intro w9 hk9 hb9 hz9
  refine Eng.nil ?_
  refine hK8 _ _ ?_
  refine Eng.seqk fun K10 hK10 => ?_
  refine Eng.reg ?_
  refine Eng.al rfl rfl rfl zr98_ic (cs := [Value.nilFunc]) rfl ?_
  intro w11 hk11 hb11 hz11
  refine Eng.nil ?_
  refine hK10 _ _ ?_
  refine Eng.seqk fun K12 hK12 => ?_
  refine Eng.reg ?_
  refine Eng.sv rfl rfl (Eng.x_mf (cap := [(.pointer (some ⟨w2.heap.size, 0, none⟩)), (.pointer (some ⟨w9.heap.size, 0, none⟩)), (.pointer (some ⟨w3.heap.size, 0, none⟩)), (.pointer (some ⟨w.heap.size, 0, none⟩))]) rfl rfl) ?_
  refine Eng.stB (v := (.func (.func 55) #[] #[(.pointer (some ⟨w2.heap.size, 0, none⟩)), (.pointer (some ⟨w9.heap.size, 0, none⟩)), (.pointer (some ⟨w3.heap.size, 0, none⟩)), (.pointer (some ⟨w.heap.size, 0, none⟩))])) rfl rfl rfl sz98_ic rfl hk11 rfl rfl (cs' := [(.func (.func 55) #[] #[(.pointer (some ⟨w2.heap.size, 0, none⟩)), (.pointer (some ⟨w9.heap.size, 0, none⟩)), (.pointer (some ⟨w3.heap.size, 0, none⟩)), (.pointer (some ⟨w.heap.size, 0, none⟩))])]) rfl rfl (Eng.one_cons rfl Eng.one_nil) ?_
  intro w13 hk13 hg13
  refine Eng.nil ?_
  refine hK12 _ _ ?_
  refine Eng.seqk fun K14 hK14 => ?_
  refine Eng.reg ?_
  refine Eng.sv rfl rfl (Eng.x_ld1 (v := (.func (.func 55) #[] #[(.pointer (some ⟨w2.heap.size, 0, none⟩)), (.pointer (some ⟨w9.heap.size, 0, none⟩)), (.pointer (some ⟨w3.heap.size, 0, none⟩)), (.pointer (some ⟨w.heap.size, 0, none⟩))])) rfl ag98_ic rfl ((hk13).cell 0)) ?_
  refine Eng.sv rfl rfl (Eng.x_mv (v := (.int .i64 (n : Int))) rfl rfl) ?_
  have hk15 := (((hk3).below hb9).below hb11).grown hg13 (fun e => absurd (Option.some.inj e) (Nat.ne_of_lt (Nat.lt_of_lt_of_le hz3 (Nat.le_trans (hb9).size (Nat.le_refl _)))))
  have hk16 := ((hk9).below hb11).grown hg13 (fun e => absurd (Option.some.inj e) (Nat.ne_of_lt (Nat.lt_of_lt_of_le hz9 (Nat.le_trans (Nat.le_refl _) (Nat.le_refl _)))))
  have hB1_3 : Below w2.heap.size w2 w9 := (hb3).trans (hb9.mono (hb3).size)
  have hk17 := (((hk6).below hb9).below hb11).grown hg13 (fun e => absurd (Option.some.inj e) (Nat.ne_of_lt (Nat.lt_of_lt_of_le hz2 (Nat.le_trans (hB1_3).size (Nat.le_refl _)))))
  have hB0_3 : Below w.heap.size w w9 := (hB0_2).trans (hb9.mono (hB0_2).size)
  have hB2_4 : Below w3.heap.size w3 w11 := (hb9).trans (hb11.mono (hb9).size)
  have hB2_5 : Below w3.heap.size w3 w13 := (hB2_4).grown hg13 (hB2_4).size (fun k e => by cases e; exact Nat.le_trans (hb9).size (Nat.le_refl _))
  have hB3_5 : Below w9.heap.size w9 w13 := (hb11).grown hg13 (hb11).size (fun k e => by cases e; exact Nat.le_trans (Nat.le_refl _) (Nat.le_refl _))
  have hB1_4 : Below w2.heap.size w2 w11 := (hB1_3).trans (hb11.mono (hB1_3).size)
  have hB1_5 : Below w2.heap.size w2 w13 := (hB1_4).grown hg13 (hB1_4).size (fun k e => by cases e; exact Nat.le_trans (hB1_3).size (Nat.le_refl _))
  have hB0_4 : Below w.heap.size w w11 := (hB0_3).trans (hb11.mono (hB0_3).size)
  have hB0_5 : Below w.heap.size w w13 := (hB0_4).grown hg13 (hB0_4).size (fun k e => by cases e; exact Nat.le_trans (hB0_3).size (Nat.le_refl _))
  have X : incH w w13 w2.heap.size w9.heap.size w3.heap.size w.heap.size v ds := ⟨h, hK, hm, (hB0_5).size, (Nat.le_trans (hb2).size (Nat.le_refl _)), (Nat.le_trans (hB0_3).size (Nat.le_refl _)), (Nat.le_trans (hB0_2).size (Nat.le_refl _)), (Nat.le_trans (Nat.le_refl _) (Nat.le_refl _)), (Nat.lt_of_lt_of_le hz3 (hB2_5).size), (Nat.lt_of_lt_of_le hz11 (hg13).size), (Nat.lt_of_lt_of_le hz9 (hB3_5).size), (Nat.lt_of_lt_of_le hz2 (hB1_5).size), (Nat.ne_of_gt (Nat.lt_of_lt_of_le hz3 (Nat.le_trans (Nat.le_refl _) (Nat.le_refl _)))), (Nat.ne_of_lt (Nat.lt_of_lt_of_le hz9 (Nat.le_trans (Nat.le_refl _) (Nat.le_refl _)))), (Nat.ne_of_gt (Nat.lt_of_lt_of_le hz2 (Nat.le_trans (hb3).size (Nat.le_refl _))))⟩
  refine Eng.sc rfl (Eng.xcv (first := []) (cap := [(.pointer (some ⟨w2.heap.size, 0, none⟩)), (.pointer (some ⟨w9.heap.size, 0, none⟩)), (.pointer (some ⟨w3.heap.size, 0, none⟩)), (.pointer (some ⟨w.heap.size, 0, none⟩))]) (vl := [(.int .i64 0), (.int .i64 (n : Int)), (.pointer (some ⟨w2.heap.size, 0, none⟩)), (.pointer (some ⟨w9.heap.size, 0, none⟩)), (.pointer (some ⟨w3.heap.size, 0, none⟩)), (.pointer (some ⟨w.heap.size, 0, none⟩))]) rfl rfl rfl en55_ic) (inc_calls X _ 0 n (.slice none 0 0) [] _ (Nat.le_refl _) hn (by omega) (by have := (pathlen (seg32 h.2 0 n) (by rw [seg_len hn]; omega) (i - 0)).2; simp only [List.length_nil]; omega) hk15 hk13 hk16 hk17 (Eng.OwnD.nil _ _) hB0_5 (Nat.le_refl _)) ?_
  rintro _ w18 ⟨rfl, vp18, hi18, hw18, hp18, hl18, ho18, hbb18, hzz18⟩
  rw [List.nil_append] at ho18
  refine Eng.aft_v rfl ?_
  refine Eng.nil ?_
  refine hK14 _ _ ?_
  refine Eng.seqk fun K19 hK19 => ?_
  refine Eng.reg ?_
  refine Eng.sv rfl rfl (Eng.x_ld1 (v := vp18) rfl ag29_ic rfl ((hp18).cell 0)) ?_
  refine Eng.sv rfl rfl (Eng.x_as (v := vp18) rfl rfl) ?_
  refine Eng.sv rfl rfl (Eng.x_as (v := (.int .i64 0)) rfl rfl) ?_
  refine Eng.nil ?_
  refine hK19 _ _ ?_
  refine Eng.rt ?_
  refine Eng.ret (Eng.res2 (v1 := vp18) (v2 := (.int .i64 0)) rfl (Eng.rdt rfl) (Eng.rdt rfl)) ?_
  refine ⟨vp18, rfl, ?_, hbb18⟩
  have hq_ := (ho18).mono (hB0_5).size
  rw [seg_0, Nat.sub_zero] at hq_; exact hq_
set_option maxRecDepth 100000 in
set_option maxHeartbeats 4000000 in
theorem tcons_calls (v : Value) (ds : List (List UInt8)) (i n : Nat) (w : World) (h : Ds w v ds) (hm : ds.length ≤ 281474976710656) (hK : Kon w) (hn : n ≤ ds.length) (h1 : 1 ≤ i) (hi : i ≤ n) : Calls Tryd.prog 19 #[v, (.int .i64 (i : Int)), (.int .i64 (n : Int))] w (fun e w' => ∃ vp, e = .returned (.tuple #[vp, .int .i64 0]) ∧ Eng.OwnD w.heap.size w' vp (consL (ds.take n) i true) ∧ Below w.heap.size w w') := by
  have hsm := h.1.small
  refine Eng.enter (l := [v, (.int .i64 (i : Int)), (.int .i64 (n : Int))]) Tryd.func19 rfl 28 rfl (by simp) ?_
  refine Eng.seqk fun K1 hK1 => ?_
  refine Eng.reg ?_
  refine Eng.bo (v := v) (cs := [v]) rfl rfl rfl rfl (by rw [Eng.Row.cells1 (h).1]) ?_
  intro w2 hk2 hb2 hz2
  refine Eng.bo (v := (.int .i64 (i : Int))) (cs := [(.int .i64 (i : Int))]) rfl rfl rfl rfl rfl ?_
  intro w3 hk3 hb3 hz3
  refine Eng.sv rfl rfl (Eng.x_as (v := (.slice none 0 0)) rfl rfl) ?_
  refine Eng.sv rfl rfl (Eng.x_as (v := (.int .i64 0)) rfl rfl) ?_
  refine Eng.nil ?_
  refine hK1 _ _ ?_
  refine Eng.seqk fun K4 hK4 => ?_
  refine Eng.seqk fun K5 hK5 => ?_
  refine Eng.reg ?_
  refine Eng.sv rfl rfl (Eng.x_ld1 (v := (.int .i64 (i : Int))) rfl ag3_ic rfl ((hk3).cell 0)) ?_
  refine Eng.sv rfl rfl (Eng.x_lt (r := false) rfl rfl rfl (decide_eq_false (by omega))) ?_
  refine Eng.sv rfl rfl (Eng.x_mv (v := (.bool false)) rfl rfl) ?_
  refine Eng.sv (Eng.gt rfl rfl rfl rfl) rfl (Eng.x_ld1 (v := (.int .i64 (i : Int))) rfl ag3_ic rfl ((hk3).cell 0)) ?_
  refine Eng.sv (Eng.gt rfl rfl rfl rfl) rfl (Eng.x_mv (v := (.int .i64 (n : Int))) rfl rfl) ?_
  refine Eng.sv (Eng.gt rfl rfl rfl rfl) rfl (Eng.x_gt (r := false) rfl rfl rfl (decide_eq_false (by omega))) ?_
  refine Eng.sv rfl rfl (Eng.x_pick (v := (.bool false)) rfl rfl rfl rfl rfl) ?_
  refine Eng.sv rfl rfl (Eng.x_mv (v := (.bool false)) rfl rfl) ?_
  refine Eng.sv (Eng.gt rfl rfl rfl rfl) rfl (Eng.x_mv (v := (.int .i64 (n : Int))) rfl rfl) ?_
  have hk6 := (hk2).below hb3
  refine Eng.sv (Eng.gt rfl rfl rfl rfl) rfl (Eng.x_ld1 (v := v) rfl ag29_ic rfl ((hk6).cell 0)) ?_
  have hB0_2 : Below w.heap.size w w3 := (hb2).trans (hb3.mono (hb2).size)
  have hr7 := (h).below hB0_2
  refine Eng.sv (Eng.gt rfl rfl rfl rfl) rfl (Eng.x_len (v := v) (r := (ds.length : Int)) rfl Tryd.underlying29 rfl (hr7).1 rfl) ?_
  refine Eng.sv (Eng.gt rfl rfl rfl rfl) rfl (Eng.x_gt (r := false) rfl rfl rfl (decide_eq_false (by omega))) ?_
  refine Eng.sv rfl rfl (Eng.x_pick (v := (.bool false)) rfl rfl rfl rfl rfl) ?_
  refine Eng.nil ?_
  refine hK5 _ _ ?_
  refine Eng.cond_f rfl ?_
  refine Eng.skp ?_
  refine hK4 _ _ ?_
  refine Eng.seqk fun K8 hK8 => ?_
  refine Eng.reg ?_
  refine Eng.al rfl rfl rfl zr29_ic (cs := [(.slice none 0 0)]) rfl ?_
  intro w9 hk9 hb9 hz9
  refine Eng.nil ?_
  refine hK8 _ _ ?_
  refine Eng.seqk fun K10 hK10 => ?_
  refine Eng.reg ?_
  refine Eng.al rfl rfl rfl zr98_ic (cs := [Value.nilFunc]) rfl ?_
  intro w11 hk11 hb11 hz11
  refine Eng.nil ?_
  refine hK10 _ _ ?_
  refine Eng.seqk fun K12 hK12 => ?_
  refine Eng.reg ?_
  refine Eng.sv rfl rfl (Eng.x_mf (cap := [(.pointer (some ⟨w2.heap.size, 0, none⟩)), (.pointer (some ⟨w3.heap.size, 0, none⟩)), (.pointer (some ⟨w.heap.size, 0, none⟩)), (.pointer (some ⟨w9.heap.size, 0, none⟩))]) rfl rfl) ?_
  refine Eng.stB (v := (.func (.func 57) #[] #[(.pointer (some ⟨w2.heap.size, 0, none⟩)), (.pointer (some ⟨w3.heap.size, 0, none⟩)), (.pointer (some ⟨w.heap.size, 0, none⟩)), (.pointer (some ⟨w9.heap.size, 0, none⟩))])) rfl rfl rfl sz98_ic rfl hk11 rfl rfl (cs' := [(.func (.func 57) #[] #[(.pointer (some ⟨w2.heap.size, 0, none⟩)), (.pointer (some ⟨w3.heap.size, 0, none⟩)), (.pointer (some ⟨w.heap.size, 0, none⟩)), (.pointer (some ⟨w9.heap.size, 0, none⟩))])]) rfl rfl (Eng.one_cons rfl Eng.one_nil) ?_
  intro w13 hk13 hg13
  refine Eng.nil ?_
  refine hK12 _ _ ?_
  refine Eng.seqk fun K14 hK14 => ?_
  refine Eng.reg ?_
  refine Eng.sv rfl rfl (Eng.x_ld1 (v := (.func (.func 57) #[] #[(.pointer (some ⟨w2.heap.size, 0, none⟩)), (.pointer (some ⟨w3.heap.size, 0, none⟩)), (.pointer (some ⟨w.heap.size, 0, none⟩)), (.pointer (some ⟨w9.heap.size, 0, none⟩))])) rfl ag98_ic rfl ((hk13).cell 0)) ?_
  refine Eng.sv rfl rfl (Eng.x_mv (v := (.int .i64 (n : Int))) rfl rfl) ?_
  have hk15 := (((hk3).below hb9).below hb11).grown hg13 (fun e => absurd (Option.some.inj e) (Nat.ne_of_lt (Nat.lt_of_lt_of_le hz3 (Nat.le_trans (hb9).size (Nat.le_refl _)))))
  have hk16 := ((hk9).below hb11).grown hg13 (fun e => absurd (Option.some.inj e) (Nat.ne_of_lt (Nat.lt_of_lt_of_le hz9 (Nat.le_trans (Nat.le_refl _) (Nat.le_refl _)))))
  have hB1_3 : Below w2.heap.size w2 w9 := (hb3).trans (hb9.mono (hb3).size)
  have hk17 := (((hk6).below hb9).below hb11).grown hg13 (fun e => absurd (Option.some.inj e) (Nat.ne_of_lt (Nat.lt_of_lt_of_le hz2 (Nat.le_trans (hB1_3).size (Nat.le_refl _)))))
  have hB0_3 : Below w.heap.size w w9 := (hB0_2).trans (hb9.mono (hB0_2).size)
  have hB2_4 : Below w3.heap.size w3 w11 := (hb9).trans (hb11.mono (hb9).size)
  have hB2_5 : Below w3.heap.size w3 w13 := (hB2_4).grown hg13 (hB2_4).size (fun k e => by cases e; exact Nat.le_trans (hb9).size (Nat.le_refl _))
  have hB3_5 : Below w9.heap.size w9 w13 := (hb11).grown hg13 (hb11).size (fun k e => by cases e; exact Nat.le_trans (Nat.le_refl _) (Nat.le_refl _))
  have hB1_4 : Below w2.heap.size w2 w11 := (hB1_3).trans (hb11.mono (hB1_3).size)
  have hB1_5 : Below w2.heap.size w2 w13 := (hB1_4).grown hg13 (hB1_4).size (fun k e => by cases e; exact Nat.le_trans (hB1_3).size (Nat.le_refl _))
  have hB0_4 : Below w.heap.size w w11 := (hB0_3).trans (hb11.mono (hB0_3).size)
  have hB0_5 : Below w.heap.size w w13 := (hB0_4).grown hg13 (hB0_4).size (fun k e => by cases e; exact Nat.le_trans (hB0_3).size (Nat.le_refl _))
  have X : conH w w13 w2.heap.size w9.heap.size w3.heap.size w.heap.size v ds := ⟨h, hK, hm, (hB0_5).size, (Nat.le_trans (hb2).size (Nat.le_refl _)), (Nat.le_trans (hB0_3).size (Nat.le_refl _)), (Nat.le_trans (hB0_2).size (Nat.le_refl _)), (Nat.le_trans (Nat.le_refl _) (Nat.le_refl _)), (Nat.lt_of_lt_of_le hz3 (hB2_5).size), (Nat.lt_of_lt_of_le hz11 (hg13).size), (Nat.lt_of_lt_of_le hz9 (hB3_5).size), (Nat.lt_of_lt_of_le hz2 (hB1_5).size), (Nat.ne_of_gt (Nat.lt_of_lt_of_le hz3 (Nat.le_trans (Nat.le_refl _) (Nat.le_refl _)))), (Nat.ne_of_lt (Nat.lt_of_lt_of_le hz9 (Nat.le_trans (Nat.le_refl _) (Nat.le_refl _)))), (Nat.ne_of_gt (Nat.lt_of_lt_of_le hz2 (Nat.le_trans (hb3).size (Nat.le_refl _))))⟩
  refine Eng.sc rfl (Eng.xcv (first := []) (cap := [(.pointer (some ⟨w2.heap.size, 0, none⟩)), (.pointer (some ⟨w3.heap.size, 0, none⟩)), (.pointer (some ⟨w.heap.size, 0, none⟩)), (.pointer (some ⟨w9.heap.size, 0, none⟩))]) (vl := [(.int .i64 0), (.int .i64 (n : Int)), (.pointer (some ⟨w2.heap.size, 0, none⟩)), (.pointer (some ⟨w3.heap.size, 0, none⟩)), (.pointer (some ⟨w.heap.size, 0, none⟩)), (.pointer (some ⟨w9.heap.size, 0, none⟩))]) rfl rfl rfl en57_ic) (con_calls X _ 0 n (.slice none 0 0) [] _ (Nat.le_refl _) hn (by omega) (by have := (conslen (seg32 h.2 0 n) (by rw [seg_len hn]; omega) (m := i - 0) (by omega) (by rw [seg_len hn]; omega) (decide (0 = 0))).2; rw [List.length_nil]; omega) hk15 hk13 hk16 hk17 (Eng.OwnD.nil _ _) hB0_5 (Nat.le_refl _)) ?_
  rintro _ w18 ⟨rfl, vp18, hi18, hw18, hp18, hl18, ho18, hbb18, hzz18⟩
  rw [List.nil_append] at ho18
  refine Eng.aft_v rfl ?_
  refine Eng.nil ?_
  refine hK14 _ _ ?_
  refine Eng.seqk fun K19 hK19 => ?_
  refine Eng.reg ?_
  refine Eng.sv rfl rfl (Eng.x_ld1 (v := vp18) rfl ag29_ic rfl ((hp18).cell 0)) ?_
  refine Eng.sv rfl rfl (Eng.x_as (v := vp18) rfl rfl) ?_
  refine Eng.sv rfl rfl (Eng.x_as (v := (.int .i64 0)) rfl rfl) ?_
  refine Eng.nil ?_
  refine hK19 _ _ ?_
  refine Eng.rt ?_
  refine Eng.ret (Eng.res2 (v1 := vp18) (v2 := (.int .i64 0)) rfl (Eng.rdt rfl) (Eng.rdt rfl)) ?_
  refine ⟨vp18, rfl, ?_, hbb18⟩
  have hq_ := (ho18).mono (hB0_5).size
  rw [seg_0, Nat.sub_zero, show decide (0 = 0) = true from rfl] at hq_; exact hq_
end Go.Proofs.YtojenflknjhmkaaDoor.TreP
end

section
namespace Go.Proofs.YtojenflknjhmkaaDoor.Wir
open Go Go.RowKit Go.Proofs.YtojenflknjhmkaaDoor.Cop Go.Proofs.YtojenflknjhmkaaDoor.Ver Go.Proofs.YtojenflknjhmkaaDoor.Oct Go.Proofs.YtojenflknjhmkaaDoor.Dsl
set_option linter.unusedVariables false
set_option linter.unusedSimpArgs false
theorem valid_parts {k f s : Int} {n : Nat} (h : valB k f s n = true) : (k = 1 ∨ k = 2) ∧ 0 ≤ f ∧ f ≤ 281474976710656 ∧ 0 ≤ s ∧ s ≤ 281474976710656 ∧ n ≤ 50 := by
  unfold valB cntN at h
  have hw := wayL_len f.toNat s.toNat
  have hs := stL_len f.toNat s.toNat
  by_cases h1 : k = 1
  · subst h1
    rw [if_pos rfl] at h
    cases hr : rightB f s with
    | false => rw [hr] at h; cases h
    | true =>
      rw [hr] at h
      simp only [if_true, beq_iff_eq] at h
      unfold rightB at hr
      simp only [Bool.and_eq_true, decide_eq_true_eq] at hr
      unfold lenN at h
      omega
  · rw [if_neg h1] at h
    by_cases h2 : k = 2
    · subst h2
      rw [if_pos rfl] at h
      cases hr : ordB f s with
      | false => rw [hr] at h; cases h
      | true =>
        rw [hr] at h
        simp only [if_true, beq_iff_eq] at h
        unfold ordB at hr
        simp only [Bool.and_eq_true, decide_eq_true_eq] at hr
        unfold stN at h
        have : (if (stL f.toNat s.toNat).2 = true then 0 else 1) ≤ 1 := by split <;> omega
        omega
    · rw [if_neg h2] at h; cases h
/-- A proof's bytes. -/
def encH (k f s n : Nat) : List UInt8 := ((([UInt8.ofNat k] ++ be f 8) ++ be s 8) ++ [UInt8.ofNat n])
def encB (k f s : Nat) (ds : List (List UInt8)) : List UInt8 := encH k f s ds.length ++ ds.flatten
theorem encH_len (k f s n : Nat) : (encH k f s n).length = 18 := by simp [encH, be_length]
theorem flat_len (ds : List (List UInt8)) (h : All32 ds) : ds.flatten.length = ds.length * 32 := by
  induction ds with
  | nil => rfl
  | cons d ds ih =>
    rw [List.flatten_cons, List.length_append, ih (fun x hx => h x (by simp [hx])), h d (by simp), List.length_cons]
    omega
theorem flat_step (L : List UInt8) (ds : List (List UInt8)) (j : Nat) (h : j < ds.length) : (L ++ (ds.take j).flatten) ++ ds[j] = L ++ (ds.take (j + 1)).flatten := by
  rw [List.take_succ_eq_append_getElem h, List.flatten_append, List.append_assoc]
  simp
theorem take32 {ds : List (List UInt8)} (h : All32 ds) (j : Nat) : All32 (ds.take j) := fun d hd => h d (List.mem_of_mem_take hd)
def frE (g : Nat) (L : List Value) (u : Nat → Value) : Array Value := #[.agg L.toArray, .pointer (some ⟨g, 0, none⟩), .slice none 0 0, .int .i64 0, u 4, undef, undef, .agg L.toArray, .bool true, .bool false, u 10, u 11, u 12, u 13, u 14, u 15, u 16, u 17, u 18, u 19, u 20, u 21, undef, undef, undef, undef, undef, undef, undef, undef, undef, undef, undef, undef, undef, undef, undef, undef, undef, undef, undef]
def facE (g B k f s : Nat) (i : Nat) (v : Value) (W : World) : Prop := match i with
  | 0 => v = .pointer (some ⟨g, 0, none⟩)
  | 1 => v = .int .i64 (k : Int)
  | 2 => v = .int .u8 (k : Int)
  | 3 => Rd W v [UInt8.ofNat k]
  | 4 => v = .pointer (some ⟨g, 1, none⟩)
  | 5 => v = .int .i64 (f : Int)
  | 6 => v = .int .u64 (f : Int)
  | 7 => Oct.Own B W v ([UInt8.ofNat k] ++ be f 8)
  | 8 => v = .pointer (some ⟨g, 2, none⟩)
  | 9 => v = .int .i64 (s : Int)
  | 10 => v = .int .u64 (s : Int)
  | _ => Oct.Own B W v (([UInt8.ofNat k] ++ be f 8) ++ be s 8)
theorem c13 {i : Nat} (h : i < 13) : i = 0 ∨ i = 1 ∨ i = 2 ∨ i = 3 ∨ i = 4 ∨ i = 5 ∨ i = 6 ∨ i = 7 ∨ i = 8 ∨ i = 9 ∨ i = 10 ∨ i = 11 ∨ i = 12 := by omega
theorem int_s1 : (Tryd.prog.info? 3).map (fun i => i.size) = some 1 := by kernel_rfl
theorem int_s2 (w : World) : (isAgg 3).run Tryd.prog w = .ok false w := by kernel_rfl
theorem ret_own {B : Nat} {w w' : World} {n : Nat} {bs : List UInt8} {e : Ending} (hr : RetRow 5 1 n (bcs bs) w e w') (hn : n = bs.length) (hB : B ≤ w.heap.size) : ∃ v, e = .returned v ∧ Oct.Own B w' v bs ∧ Below w.heap.size w w' := by
  obtain ⟨v, h1, h2, h3⟩ := hr
  subst hn
  exact ⟨v, h1, Own.mono h2 hB, h3⟩
set_option maxRecDepth 100000 in
set_option maxHeartbeats 2000000 in
theorem encode_calls (k f s : Int) (vp : Value) (ds : List (List UInt8)) (w : World) (hp : Ds w vp ds) : Calls Tryd.prog 20 #[prV k f s vp] w fun e w' => if valB k f s ds.length then ∃ v, e = .returned (.tuple #[v, .int .i64 0]) ∧ Oct.Own w.heap.size w' v (encB k.toNat f.toNat s.toNat ds) ∧ Below w.heap.size w w' else e = .returned (.tuple #[.slice none 0 0, .int .i64 2]) ∧ Below w.heap.size w w' := by
  obtain ⟨pa, pc, rfl⟩ := hp.open
  have hv := fun w => valid_calls k f s pa ds.length pc hp.small w
  cases hb : valB k f s ds.length with
  | false =>
    rw [hb] at hv
    have HV := Lib.hid hv
    clear hv hb hp
    simp only [Bool.false_eq_true, if_false]
    go_enter Tryd.func20, Tryd.ntmps20
    go_wp2_with (first | (((with_reducible refine gate_dst (N := 1) rfl ?_); go_loud (refine wp_box rfl _ _ rfl (v := prV k f s (.slice pa ds.length pc)) rfl ?_); intro w1 hk1 hb1 hz1); rw [pr_cells] at hk1) | (((with_reducible refine gate_dst (N := 7) rfl ?_); go_loud (refine wp_load_blk rfl 35 _ rfl aggPr sizePr rfl hk1 (rfl) ?_))) | (go_at_call 28; go_loud (refine (HV.out _).mono ?_); rintro e w2 ⟨rfl, hb2⟩))
    go_ret2
    exact ⟨rfl, hb1.trans (hb2.mono hb1.size)⟩
  | true =>
    rw [hb] at hv
    obtain ⟨v1, v2, v3, v4, v5, v6⟩ := valid_parts hb
    obtain ⟨f, rfl⟩ := Int.eq_ofNat_of_zero_le v2
    obtain ⟨s, rfl⟩ := Int.eq_ofNat_of_zero_le v4
    obtain ⟨k, rfl⟩ := Int.eq_ofNat_of_zero_le (show 0 ≤ k by omega)
    simp only [Int.toNat_natCast, if_true]
    have HV := Lib.hid hv
    have HP := Lib.hid hp
    have hfl := flat_len ds hp.2
    have HFL := Lib.hid hfl
    obtain ⟨fin, hfin⟩ : ∃ l, encB k f s ds = l := ⟨_, rfl⟩
    rw [hfin]
    have HFIN := Lib.hid hfin
    have hk3 : k < 3 := by omega
    have hn50 : ds.length ≤ 50 := v6
    have hf48 : f ≤ 281474976710656 := by omega
    have hs48 : s ≤ 281474976710656 := by omega
    clear hv hb hp v1 v2 v3 v4 v5 v6 hfl hfin
    go_enter Tryd.func20, Tryd.ntmps20
    go_wp2_with (first | (((with_reducible refine gate_dst (N := 1) rfl ?_); go_loud (refine wp_box rfl _ _ rfl (v := prV k f s (.slice pa ds.length pc)) rfl ?_); intro w1 hk1 hb1 hz1); rw [pr_cells] at hk1) | (((with_reducible refine gate_dst (N := 7) rfl ?_); go_loud (refine wp_load_blk rfl 35 _ rfl aggPr sizePr rfl hk1 (rfl) ?_))) | (go_at_call 28; go_loud (refine (HV.out _).mono ?_); rintro e w2 ⟨rfl, hb2⟩))
    have hk2 := hk1.below hb2
    have hb02 : Below w.heap.size w w2 := hb1.trans (hb2.mono hb1.size)
    clear hk1
    refine wp_region_grow (frE w.heap.size (prL k f s (.slice pa ds.length pc))) (fun _ => undef) (facE w.heap.size w1.heap.size k f s) (by kernel_rfl) (by kernel_rfl) (by kernel_rfl) ?_ ?_ ?_ ?_
    · intro i hi u v
      have h13 : i < 13 := hi
      rcases c13 h13 with rfl | rfl | rfl | rfl | rfl | rfl | rfl | rfl | rfl | rfl | rfl | rfl | rfl <;> rfl
    · intro i hi v W W' hF hb
      have h13 : i < 13 := hi
      rcases c13 h13 with rfl | rfl | rfl | rfl | rfl | rfl | rfl | rfl | rfl | rfl | rfl | rfl | rfl <;> first | exact hF | exact Rd.below hF hb | exact Own.below hF hb
    · intro i o ho u W hb hdep K hK
      have h13 : i < 13 := (Array.getElem?_eq_some_iff.1 ho).1
      have hkW : Blk W w.heap.size 35 (prL k f s (.slice pa ds.length pc)) := hk2.below hb
      have hBW : w1.heap.size ≤ W.heap.size := by have := hb.size; have := hb2.size; omega
      have K0 := fun v (h : facE w.heap.size w1.heap.size k f s i v W) => hK v W (Below.refl _ _) h
      rcases c13 h13 with rfl | rfl | rfl | rfl | rfl | rfl | rfl | rfl | rfl | rfl | rfl | rfl | rfl <;> obtain rfl := Option.some.inj ho
      · refine st_run rfl (v := .pointer (some ⟨w.heap.size, 0, none⟩)) (w' := W) ?_ (K0 _ rfl)
        unfold frE; go_simp
      · have hu : u 10 = .pointer (some ⟨w.heap.size, 0, none⟩) := hdep ⟨0, .data⟩ (by simp) rfl
        exact st_load1 (by rfl) 3 (.tmp 10) (by rfl) int_s2 int_s1 (by exact hu) (hkW.cell 0) (K0 _ rfl)
      · have hu : u 11 = .int .i64 (k : Int) := hdep ⟨1, .data⟩ (by simp) rfl
        refine st_run rfl (v := .int .u8 (k : Int)) (w' := W) ?_ (K0 _ rfl)
        unfold frE
        have hw : IntKind.u8.wrap (k : Int) = (k : Int) := by rw [IntKind.wrap_u8]; omega
        go_simp
      · have hu : u 12 = .int .u8 (k : Int) := hdep ⟨2, .data⟩ (by simp) rfl
        have e8 : u8c (UInt8.ofNat k) = .int .u8 (k : Int) := by
          simp only [u8c, UInt8.toNat_ofNat']
          congr 1
          omega
        have hn := Rd.one W (UInt8.ofNat k) 5
        rw [e8] at hn
        refine st_run rfl (v := .slice (some ⟨W.heap.size, 0, none⟩) 1 1) (w' := W.alloc (.cells #[.int .u8 (k : Int)] 5)) ?_ (hK _ _ ((Below.refl _ _).alloc (Nat.le_refl _) _) hn)
        unfold frE
        first | (go_simp; done) | (go_simp; rfl)
      · refine st_run rfl (v := .pointer (some ⟨w.heap.size, 1, none⟩)) (w' := W) ?_ (K0 _ rfl)
        unfold frE; go_simp
      · have hu : u 14 = .pointer (some ⟨w.heap.size, 1, none⟩) := hdep ⟨4, .data⟩ (by simp) rfl
        exact st_load1 (by rfl) 3 (.tmp 14) (by rfl) int_s2 int_s1 (by exact hu) (hkW.cell 1) (K0 _ rfl)
      · have hu : u 15 = .int .i64 (f : Int) := hdep ⟨5, .data⟩ (by simp) rfl
        refine st_run rfl (v := .int .u64 (f : Int)) (w' := W) ?_ (K0 _ rfl)
        unfold frE
        have hw : IntKind.u64.wrap (f : Int) = (f : Int) := IntWalk.u64_in _ (by omega)
        go_simp
      · have hu3 : Rd W (u 13) [UInt8.ofNat k] := hdep ⟨3, .data⟩ (by simp) rfl
        have hu : u 16 = .int .u64 (f : Int) := hdep ⟨6, .data⟩ (by simp) rfl
        have hc := put64 (u 13) [UInt8.ofNat k] f W (hu3.bs (by simp)) (by omega)
        rw [← hu] at hc
        have HC := Lib.hid hc
        clear hc hu hdep K0 ho hu3
        refine st_want (a := { tmps := frE w.heap.size (prL k f s (.slice pa ds.length pc)) u, defers := [] }) rfl ?_
        unfold frE
        go_simp
        refine HC.out.mono ?_
        intro e w' hq
        obtain ⟨v', rfl, hown, hb'⟩ := ret_own hq (by simp [be_length]) hBW
        exact hK v' w' hb' hown
      · refine st_run rfl (v := .pointer (some ⟨w.heap.size, 2, none⟩)) (w' := W) ?_ (K0 _ rfl)
        unfold frE; go_simp
      · have hu : u 18 = .pointer (some ⟨w.heap.size, 2, none⟩) := hdep ⟨8, .data⟩ (by simp) rfl
        exact st_load1 (by rfl) 3 (.tmp 18) (by rfl) int_s2 int_s1 (by exact hu) (hkW.cell 2) (K0 _ rfl)
      · have hu : u 19 = .int .i64 (s : Int) := hdep ⟨9, .data⟩ (by simp) rfl
        refine st_run rfl (v := .int .u64 (s : Int)) (w' := W) ?_ (K0 _ rfl)
        unfold frE
        have hw : IntKind.u64.wrap (s : Int) = (s : Int) := IntWalk.u64_in _ (by omega)
        go_simp
      · have hu3 : Oct.Own w1.heap.size W (u 17) ([UInt8.ofNat k] ++ be f 8) := hdep ⟨7, .data⟩ (by simp) rfl
        have hu : u 20 = .int .u64 (s : Int) := hdep ⟨10, .data⟩ (by simp) rfl
        have hc := put64 (u 17) ([UInt8.ofNat k] ++ be f 8) s W (hu3.rd.bs (by simp [be_length])) (by omega)
        rw [← hu] at hc
        have HC := Lib.hid hc
        clear hc hu hdep K0 ho hu3
        refine st_want (a := { tmps := frE w.heap.size (prL k f s (.slice pa ds.length pc)) u, defers := [] }) rfl ?_
        unfold frE
        go_simp
        refine HC.out.mono ?_
        intro e w' hq
        obtain ⟨v', rfl, hown, hb'⟩ := ret_own hq (by simp [be_length]) hBW
        exact hK v' w' hb' hown
      · have hu3 : Oct.Own w1.heap.size W (u 21) (([UInt8.ofNat k] ++ be f 8) ++ be s 8) := hdep ⟨11, .data⟩ (by simp) rfl
        refine st_run rfl (v := u 21) (w' := W) ?_ (K0 _ hu3)
        clear hdep K0 hK ho hu3
        unfold frE; go_simp
    · intro u W hb hV
      have hown : Oct.Own w1.heap.size W (u 4) (([UInt8.ofNat k] ++ be f 8) ++ be s 8) := hV 12 (by decide)
      have hkW : Blk W w.heap.size 35 (prL k f s (.slice pa ds.length pc)) := hk2.below hb
      have hbW : Below w.heap.size w W := hb02.trans (hb.mono hb02.size)
      have hpW : Ds W (.slice pa ds.length pc) ds := HP.out.below hbW
      have c3 : W.cell? ⟨w.heap.size, 3, none⟩ = some (.slice pa ds.length pc) := hkW.cell 3
      have e8 : u8c (UInt8.ofNat ds.length) = .int .u8 (ds.length : Int) := by
        simp only [u8c, UInt8.toNat_ofNat']
        congr 1
        omega
      have hn := Rd.one W (UInt8.ofNat ds.length) 5
      rw [e8] at hn
      have hw8 : IntKind.u8.wrap (ds.length : Int) = (ds.length : Int) := by rw [IntKind.wrap_u8]; omega
      have hown' := hown.alloc (.cells #[.int .u8 (ds.length : Int)] 5)
      have HN := Lib.hid hn
      have HO := Lib.hid hown'
      have HPW := Lib.hid hpW
      unfold frE
      clear hV hn hown' hpW e8
      have hW1 : w1.heap.size ≤ W.heap.size := by have := hb.size; have := hb2.size; omega
      go_wp2_with (((with_reducible refine gate_dst (N := 28) rfl ?_); go_loud (refine wp_appB rfl (.tmp 22) (.tmp 27) rfl HO.out rfl HN.out rfl (by simp [be_length]) (by simp; omega) ?_); intro v4 w4 hown4 hg4); have hkW4 : Blk w4 w.heap.size 35 (prL k f s (.slice pa ds.length pc)) := (hkW.below ((Below.refl _ _).alloc (Nat.le_refl _) _)).grown hg4 (fun e => by have := (World.ownsRow.lt hown w.heap.size e.symm).1; omega); have c4 : w4.cell? ⟨w.heap.size, 3, none⟩ = some (.slice pa ds.length pc) := hkW4.cell 3)
      have hb4 : Below w1.heap.size w1 w4 := ((hb2.trans (hb.mono hb2.size)).alloc hW1 _).grown hg4 (by simp; omega) (fun r e => (World.ownsRow.lt hown r e).1)
      have hb04 : Below w.heap.size w w4 := hb1.trans (hb4.mono hb1.size)
      have hp4 : Ds w4 (.slice pa ds.length pc) ds := HP.out.below hb04
      have HP4 := Lib.hid hp4
      have hl4 : ((([UInt8.ofNat k] ++ be f 8) ++ be s 8) ++ [UInt8.ofNat ds.length]).length = 18 := encH_len k f s ds.length
      have hfin2 : ((([UInt8.ofNat k] ++ be f 8) ++ be s 8) ++ [UInt8.ofNat ds.length]) ++ ds.flatten = fin := HFIN.out
      generalize (([UInt8.ofNat k] ++ be f 8) ++ be s 8) ++ [UInt8.ofNat ds.length] = L at hown4 hl4 hfin2
      have HF2 := Lib.hid hfin2
      have HL4 := Lib.hid hl4
      clear hfin2 hl4 hp4 c4 hkW4 hkW hg4 hown hb hbW hb02 hk2 c3 hw8
      go_loopw [4, 6, 32] (fun v _ x wr => ∃ j : Nat, x = .int .i64 (j : Int) ∧ j ≤ ds.length ∧ Oct.Own w1.heap.size wr v (L ++ (ds.take j).flatten) ∧ Below w1.heap.size w1 wr ∧ Hid (Ds wr (.slice pa ds.length pc) ds)) (fun _ _ x _ => ds.length - (intOf x).toNat)
      case atStart => exact ⟨0, rfl, by omega, by simpa using hown4, hb4, HP4.out⟩
      case round =>
        obtain ⟨j, rfl, hj, hown, hb, HPr⟩ := hrel
        have hbr : Below w.heap.size w wr := hb1.trans (hb.mono hb1.size)
        have hzr := hb.size
        by_cases hlt : j < ds.length
        · have h32 : (ds[j]).length = 32 := HPr.out.2 _ (List.getElem_mem hlt)
          have hst := flat_step L ds j hlt
          have htl := flat_len (ds.take j) (take32 HPr.out.2 j)
          rw [List.length_take, Nat.min_eq_left hj] at htl
          have hlen : (L ++ (ds.take j).flatten).length ≤ 2000 := by rw [List.length_append, HL4.out, htl]; omega
          obtain ⟨dj, hdj⟩ : ∃ d, ds[j] = d := ⟨_, rfl⟩
          rw [hdj] at h32 hst
          have HST := Lib.hid hst
          have H32 := Lib.hid h32
          have HDJ := Lib.hid hdj
          obtain ⟨acc, hacc⟩ : ∃ l, L ++ (ds.take j).flatten = l := ⟨_, rfl⟩
          rw [hacc] at hown HST hlen
          clear hst h32 hdj hacc htl
          go_wp2_with (first | ((with_reducible refine gate_dst (N := 34) rfl ?_); go_loud (refine wp_getD rfl (fun _ => rfl) _ _ 34 rfl rfl rfl HPr.out j rfl rfl (fun _ => rfl) hlt ?_); intro p; rw [HDJ.out]) | (((with_reducible refine gate_dst (N := 6) rfl ?_); go_loud (refine wp_alloc rfl _ rfl zeroD ?_); intro w5 hk5 hb5 hz5)) | (((with_reducible refine gate_store (t := 24) (p := 6) rfl ?_); go_loud (refine wp_store_blk rfl 24 _ _ rfl rfl sizeD rfl hk5 (dz_cells) (v := dg dj) rfl (dg_size H32.out) (dg_one _) ?_); intro w6 hk6 hg6); go_loud (have hk6' : Blk w6 wr.heap.size 24 (bcs dj) := by simpa [Value.cells] using hk6); go_loud (have hrd6 : Rd w6 (.slice (some ⟨wr.heap.size, 0, none⟩) 32 32) dj := Rd.of_blk hk6' 32 H32.out (by unfold maxLen; omega)); go_loud (have hown6 := (hown.below hb5).kept hg6 (.inr (fun e => by have := (World.ownsRow.lt hown _ e).2; omega))); go_loud (have hz6 := hg6.size); go_loud (have hz5' := hb5.size)) | (((with_reducible refine gate_dst (N := 38) rfl ?_); go_loud (refine wp_appB rfl (.tmp 36) (.tmp 37) rfl hown6 rfl hrd6 rfl (by rw [H32.out]; omega) (by omega) ?_); intro v7 w7 hown7 hg7)))
          have hb7 : Below w1.heap.size w1 w7 := ((hb.trans (hb5.mono hb.size)).grown hg6 (by omega) (fun r e => by injection e with e; omega)).grown hg7 (by omega) (fun r e => (World.ownsRow.lt hown r e).1)
          have hp7 : Hid (Ds w7 (.slice pa ds.length pc) ds) := HP.out.below (hb1.trans (hb7.mono hb1.size))
          rw [HST.out] at hown7
          go_roundw
          case rel => exact ⟨j + 1, by go_num, by omega, hown7, hb7, hp7⟩
          case measure => simp [intOf]; omega
        · obtain rfl : j = ds.length := by omega
          rw [List.take_length, HF2.out] at hown
          have hres := hown.mono (show w.heap.size ≤ w1.heap.size by omega)
          go_wp2_with fail
          go_ret2
          exact ⟨_, rfl, hres, hbr⟩
end Go.Proofs.YtojenflknjhmkaaDoor.Wir
end

section
namespace Go.Proofs.YtojenflknjhmkaaDoor.Oct
open Go Go.RowKit Go.Proofs.YtojenflknjhmkaaDoor.Cop
set_option linter.unusedVariables false
theorem be_succ (m n : Nat) : be m (n + 1) = UInt8.ofNat (m / 2 ^ (8 * n)) :: be m n := by
  simp only [be, List.range_succ_eq_map, List.map_cons, List.map_map]
  congr 1
  apply List.map_congr_left
  intro j hj
  simp only [Function.comp, Nat.succ_eq_add_one]
  congr 4
  omega
theorem num_cons_aux (l : List UInt8) : ∀ a : Nat, l.foldl (fun v b => v * 256 + b.toNat) a = a * 256 ^ l.length + num l := by
  induction l with
  | nil => intro a; simp [num]
  | cons b l ih =>
    intro a
    have h0 := ih (0 * 256 + b.toNat)
    have e : num (b :: l) = l.foldl (fun v b => v * 256 + b.toNat) (0 * 256 + b.toNat) := rfl
    rw [List.foldl_cons, ih, e, h0, List.length_cons, Nat.pow_succ]
    rw [Nat.add_mul, Nat.zero_mul, Nat.zero_add, Nat.mul_assoc, Nat.mul_comm 256 (256 ^ l.length)]
    omega
theorem num_be (n : Nat) : ∀ m, m < 256 ^ n → num (be m n) = m := by
  have key : ∀ n m, num (be m n) = m % 256 ^ n := by
    intro n
    induction n with
    | zero => intro m; simp [be, num, Nat.mod_one]
    | succ n ih =>
      intro m
      rw [be_succ]
      have e : num (UInt8.ofNat (m / 2 ^ (8 * n)) :: be m n) = (be m n).foldl (fun v b => v * 256 + b.toNat) (0 * 256 + (UInt8.ofNat (m / 2 ^ (8 * n))).toNat) := rfl
      rw [e, num_cons_aux, be_length, ih, UInt8.toNat_ofNat']
      have e2 : (2 : Nat) ^ (8 * n) = 256 ^ n := by rw [Nat.pow_mul]
      have k2 : m % (256 ^ n * 256) = m % 256 ^ n + 256 ^ n * (m / 256 ^ n % 256) := Nat.mod_mul
      rw [Nat.mul_comm (256 ^ n) (m / 256 ^ n % 256)] at k2
      have e3 : (256 : Nat) ^ (n + 1) = 256 ^ n * 256 := by rw [Nat.pow_succ]
      rw [e2, e3, k2, Nat.zero_mul, Nat.zero_add]
      show m / 256 ^ n % 256 * 256 ^ n + m % 256 ^ n = _
      omega
  intro m hm
  rw [key, Nat.mod_eq_of_lt hm]

/-- What stands behind others is read. -/
theorem room_mid (A M B : List UInt8) : room (A ++ M ++ B).length (A.length : Int) M.length = 0 := by
  unfold room
  simp only [List.length_append]
  rw [if_neg (by omega), if_neg (by omega), if_neg (by omega)]
theorem cut_mid (A M B : List UInt8) : ((A ++ M ++ B).drop (A.length : Int).toNat).take M.length = M := by
  rw [Int.toNat_natCast, List.append_assoc, List.drop_left, List.take_left]
theorem gv_mid (A B : List UInt8) (m n : Nat) (hm : m < 256 ^ n) : gv (A ++ be m n ++ B) (A.length : Int) n = m := by
  have h1 := room_mid A (be m n) B
  have h2 := cut_mid A (be m n) B
  rw [be_length] at h1 h2
  unfold gv
  rw [if_pos h1, h2, num_be n m hm]

theorem gn_mid (A M B : List UInt8) : gn (A ++ M ++ B) (A.length : Int) M.length = (A.length : Int) + M.length := by
  unfold gn; rw [if_pos (room_mid A M B)]
theorem gd_mid (A D B : List UInt8) (hd : D.length = 32) : gd (A ++ D ++ B) (A.length : Int) = D := by
  have h1 := room_mid A D B
  have h2 := cut_mid A D B
  rw [hd] at h1 h2
  unfold gd; rw [if_pos h1, h2]

end Go.Proofs.YtojenflknjhmkaaDoor.Oct
namespace Go.Proofs.YtojenflknjhmkaaDoor.Wir
open Go Go.RowKit Go.Proofs.YtojenflknjhmkaaDoor.Cop Go.Proofs.YtojenflknjhmkaaDoor.Ver Go.Proofs.YtojenflknjhmkaaDoor.Oct Go.Proofs.YtojenflknjhmkaaDoor.Dsl
set_option linter.unusedVariables false
theorem getD_mid (A B : List UInt8) (x : UInt8) : (A ++ [x] ++ B).getD A.length 0 = x := by
  rw [List.append_assoc, List.getD_eq_getElem?_getD, List.getElem?_append_right (Nat.le_refl _), Nat.sub_self]; rfl
/-- A proof that may be is read out of its bytes again. -/
theorem dec_enc (k f s : Nat) (ds : List (List UInt8)) (h32 : All32 ds) (hv : valB k f s ds.length = true) :
    okB (encB k f s ds) = true ∧ kB (encB k f s ds) = k ∧ fB (encB k f s ds) = f ∧ sB (encB k f s ds) = s ∧ nB (encB k f s ds) = ds.length ∧ dB (encB k f s ds) ds.length = ds := by
  obtain ⟨hk, hf0, hf, hs0, hs, hn⟩ := valid_parts hv
  have hlen : (encB k f s ds).length = 18 + ds.length * 32 := by unfold encB; rw [List.length_append, encH_len, flat_len ds h32]
  have e0 : encB k f s ds = [] ++ [UInt8.ofNat k] ++ (be f 8 ++ be s 8 ++ [UInt8.ofNat ds.length] ++ ds.flatten) := by simp [encB, encH]
  have e1 : encB k f s ds = [UInt8.ofNat k] ++ be f 8 ++ (be s 8 ++ [UInt8.ofNat ds.length] ++ ds.flatten) := by simp [encB, encH]
  have e2 : encB k f s ds = ([UInt8.ofNat k] ++ be f 8) ++ be s 8 ++ ([UInt8.ofNat ds.length] ++ ds.flatten) := by simp [encB, encH]
  have e3 : encB k f s ds = ([UInt8.ofNat k] ++ be f 8 ++ be s 8) ++ [UInt8.ofNat ds.length] ++ ds.flatten := by simp [encB, encH]
  have l1 : ([UInt8.ofNat k] : List UInt8).length = 1 := rfl
  have l2 : ([UInt8.ofNat k] ++ be f 8).length = 9 := by simp [be_length]
  have l3 : ([UInt8.ofNat k] ++ be f 8 ++ be s 8).length = 17 := by simp [be_length]
  have hkB : kB (encB k f s ds) = k := by
    have := getD_mid [] (be f 8 ++ be s 8 ++ [UInt8.ofNat ds.length] ++ ds.flatten) (UInt8.ofNat k)
    unfold kB; rw [e0]
    rw [List.length_nil] at this
    rw [this, UInt8.toNat_ofNat']; omega
  have hnB : nB (encB k f s ds) = ds.length := by
    have := getD_mid ([UInt8.ofNat k] ++ be f 8 ++ be s 8) ds.flatten (UInt8.ofNat ds.length)
    rw [l3] at this
    unfold nB; rw [e3, this, UInt8.toNat_ofNat']; omega
  have hfB : fB (encB k f s ds) = f := by
    have := gv_mid [UInt8.ofNat k] (be s 8 ++ [UInt8.ofNat ds.length] ++ ds.flatten) f 8 (by omega)
    rw [l1] at this
    unfold fB; rw [e1]; exact this
  have hsB : sB (encB k f s ds) = s := by
    have := gv_mid ([UInt8.ofNat k] ++ be f 8) ([UInt8.ofNat ds.length] ++ ds.flatten) s 8 (by omega)
    rw [l2] at this
    unfold sB; rw [e2]; exact this
  refine ⟨?_, hkB, hfB, hsB, hnB, ?_⟩
  · rw [okB_v (by omega) (by rw [hnB, hlen]; omega) (by rw [hfB]; omega) (by rw [hsB]; omega), hkB, hfB, hsB, hnB]; exact hv
  · unfold dB
    apply List.ext_getElem
    · simp
    · intro i h1 h2
      rw [List.getElem_map, List.getElem_range]
      have hsp : ds = ds.take i ++ [ds[i]] ++ ds.drop (i + 1) := by
        rw [List.append_assoc, List.singleton_append, ← List.drop_eq_getElem_cons h2, List.take_append_drop]
      have hfl : ds.flatten = (ds.take i).flatten ++ (ds[i] ++ (ds.drop (i + 1)).flatten) := by
        have := congrArg List.flatten hsp
        rw [List.flatten_append, List.flatten_append, List.flatten_singleton, List.append_assoc] at this
        exact this
      have e4 : encB k f s ds = (encH k f s ds.length ++ (ds.take i).flatten) ++ ds[i] ++ (ds.drop (i + 1)).flatten := by
        unfold encB
        rw [hfl, List.append_assoc, List.append_assoc]
      have hlA : (encH k f s ds.length ++ (ds.take i).flatten).length = 18 + 32 * i := by
        rw [List.length_append, encH_len, flat_len _ (fun d hd => h32 d (List.mem_of_mem_take hd)), List.length_take]; omega
      have := gd_mid (encH k f s ds.length ++ (ds.take i).flatten) ds[i] (ds.drop (i + 1)).flatten (h32 _ (List.getElem_mem h2))
      rw [hlA] at this
      rw [e4]
      have e5 : ((18 + 32 * i : Nat) : Int) = 18 + 32 * (i : Int) := by omega
      rw [← e5]; exact this
end Go.Proofs.YtojenflknjhmkaaDoor.Wir
end
