/- The Merkle tree, plain: roots, peaks, paths, and where a path leads. -/
import Derived.Test.YtnecgoahdkfbeaaDoorVfyP
namespace Go.Proofs.YtnecgoahdkfbeaaDoor.TreP
open Go Go.Proofs.YtnecgoahdkfbeaaDoor.Cop Go.Proofs.YtnecgoahdkfbeaaDoor.Tre Go.Proofs.YtnecgoahdkfbeaaDoor.Ver Go.Proofs.YtnecgoahdkfbeaaDoor.Vfy Go.Proofs.YtnecgoahdkfbeaaDoor.Oct Go.Proofs.YtnecgoahdkfbeaaDoor.Dsl
set_option linter.unusedVariables false
/-- The root of leaves. -/
def RG : Nat → List (List UInt8) → List UInt8
  | 0, l => l.getD 0 []
  | f + 1, l => if l.length ≤ 1 then l.getD 0 [] else nodeS (RG f (l.take (H l.length))) (RG f (l.drop (H l.length)))
def R (l : List (List UInt8)) : List UInt8 := RG 49 l
theorem RG_fuel : ∀ (k f g : Nat) (l : List (List UInt8)), l.length ≤ 281474976710656 → l.length ≤ 2 ^ k → k ≤ f → k ≤ g → RG f l = RG g l
  | 0, f, g, l, hn, hk, hf, hg => by
    have h1 : l.length ≤ 1 := by simpa using hk
    cases f <;> cases g <;> simp [RG, h1]
  | k + 1, 0, g, l, hn, hk, hf, hg => by omega
  | k + 1, f + 1, 0, l, hn, hk, hf, hg => by omega
  | k + 1, f + 1, g + 1, l, hn, hk, hf, hg => by
    unfold RG
    by_cases h1 : l.length ≤ 1
    · simp [h1]
    · rw [if_neg h1, if_neg h1]
      obtain ⟨q1, q2, q3⟩ := H_spec l.length (by omega) hn
      have q4 := H_le l.length k (by omega) hn hk
      rw [RG_fuel k f g (l.take (H l.length)) (by rw [List.length_take]; omega) (by rw [List.length_take]; omega) (by omega) (by omega), RG_fuel k f g (l.drop (H l.length)) (by rw [List.length_drop]; omega) (by rw [List.length_drop]; omega) (by omega) (by omega)]
theorem R_one (l : List (List UInt8)) (h : l.length ≤ 1) : R l = l.getD 0 [] := by simp [R, RG, h]
theorem R_step (l : List (List UInt8)) (h : 2 ≤ l.length) (h' : l.length ≤ 281474976710656) : R l = nodeS (R (l.take (H l.length))) (R (l.drop (H l.length))) := by
  obtain ⟨q1, q2, q3⟩ := H_spec l.length h h'
  have q4 := H_le l.length 47 h h' (by omega)
  unfold R
  rw [show (49 : Nat) = 48 + 1 from rfl, RG, if_neg (by omega), RG_fuel 47 48 49 (l.take (H l.length)) (by rw [List.length_take]; omega) (by rw [List.length_take]; omega) (by omega) (by omega), RG_fuel 47 48 49 (l.drop (H l.length)) (by rw [List.length_drop]; omega) (by rw [List.length_drop]; omega) (by omega) (by omega)]
theorem getD0_len {l : List (List UInt8)} (h : All32 l) (h0 : 0 < l.length) : (l.getD 0 []).length = 32 := by
  rw [List.getD_eq_getElem?_getD, List.getElem?_eq_getElem h0]; exact h _ (List.getElem_mem h0)
theorem R_len (l : List (List UInt8)) (h : All32 l) (h0 : 0 < l.length) : (R l).length = 32 := by
  unfold R
  rw [show (49 : Nat) = 48 + 1 from rfl, RG]
  split
  · exact getD0_len h h0
  · exact nodeS_len _ _
/-- Two parts of which the first is the greatest power of two below the whole. -/
theorem R_app (a b : List (List UInt8)) (j : Nat) (ha : a.length = 2 ^ j) (h0 : 0 < b.length) (hb : b.length ≤ 2 ^ j) (hm : (a ++ b).length ≤ 281474976710656) : R (a ++ b) = nodeS (R a) (R b) := by
  have hp : 0 < 2 ^ j := Nat.pos_of_ne_zero (by simp)
  have hl : (a ++ b).length = 2 ^ j + b.length := by rw [List.length_append, ha]
  have hH : 2 ^ j = H (a ++ b).length := H_uniq _ j (by omega) hm (by omega) (by omega)
  rw [R_step _ (by omega) hm, ← hH, ← ha, List.take_left, List.drop_left]
/-! ### Peaks -/
def push : List (Nat × List UInt8) → Nat × List UInt8 → List (Nat × List UInt8)
  | [], p => [p]
  | q :: r, p => if q.1 = p.1 then push r (2 * p.1, nodeS q.2 p.2) else p :: q :: r
theorem push_eq (q p : Nat × List UInt8) (r : List (Nat × List UInt8)) (h : q.1 = p.1) : push (q :: r) p = push r (2 * p.1, nodeS q.2 p.2) := by rw [push, if_pos h]
theorem push_ne (q p : Nat × List UInt8) (r : List (Nat × List UInt8)) (h : q.1 ≠ p.1) : push (q :: r) p = p :: q :: r := by rw [push, if_neg h]
/-- The peaks behind leaves, the last one first. -/
def pks (l : List (List UInt8)) : List (Nat × List UInt8) := l.foldl (fun s d => push s (1, d)) []
theorem pks_snoc (l : List (List UInt8)) (d : List UInt8) : pks (l ++ [d]) = push (pks l) (1, d) := by unfold pks; rw [List.foldl_append]; rfl
def PK : List (Nat × List UInt8) → List (List UInt8) → Nat → Prop
  | [], l, _ => l = []
  | q :: r, l, k => ∃ j a b, k ≤ j ∧ q.1 = 2 ^ j ∧ l = a ++ b ∧ b.length = 2 ^ j ∧ q.2 = R b ∧ PK r a (j + 1)
theorem PK.mono : ∀ {s : List (Nat × List UInt8)} {l : List (List UInt8)} {k k' : Nat}, PK s l k → k' ≤ k → PK s l k'
  | [], l, k, k', h, _ => h
  | q :: r, l, k, k', ⟨j, a, b, h1, h2⟩, hk => ⟨j, a, b, by omega, h2⟩
theorem PK.push : ∀ (s : List (Nat × List UInt8)) (a b : List (List UInt8)) (j : Nat), PK s a j → b.length = 2 ^ j → (a ++ b).length ≤ 281474976710656 → PK (push s (2 ^ j, R b)) (a ++ b) 0
  | [], a, b, j, h, hb, _ => ⟨j, a, b, Nat.zero_le _, rfl, rfl, hb, rfl, h⟩
  | q :: r, a, b, j, ⟨j', a', b', h1, h2, h3, h4, h5, h6⟩, hb, hm => by
    by_cases hj : j' = j
    · subst hj
      rw [push_eq _ _ _ (by rw [h2])]
      have e : (2 * 2 ^ j', nodeS q.2 (R b)) = (2 ^ (j' + 1), R (b' ++ b)) := by
        rw [h5, R_app b' b j' h4 (by rw [hb]; exact Nat.pos_of_ne_zero (by simp)) (by omega) (by rw [h3] at hm; simp only [List.length_append] at hm ⊢; omega)]
        congr 1
        rw [Nat.pow_succ]; omega
      show PK (Go.Proofs.YtnecgoahdkfbeaaDoor.TreP.push r (2 * 2 ^ j', nodeS q.2 (R b))) _ _
      rw [e, h3, List.append_assoc]
      exact PK.push r a' (b' ++ b) (j' + 1) h6 (by rw [List.length_append, h4, hb, Nat.pow_succ]; omega) (by rw [h3] at hm; simpa [List.append_assoc] using hm)
    · have hne : (2 : Nat) ^ j' ≠ 2 ^ j := fun e => (Nat.lt_or_gt_of_ne hj).elim (fun c => Nat.ne_of_lt (Nat.pow_lt_pow_right (by decide) c) e) (fun c => Nat.ne_of_gt (Nat.pow_lt_pow_right (by decide) c) e)
      rw [push_ne _ _ _ (by rw [h2]; exact hne)]
      exact ⟨j, a, b, Nat.zero_le _, rfl, rfl, hb, rfl, j', a', b', by omega, h2, h3, h4, h5, h6⟩
theorem pks_PK (l : List (List UInt8)) (hm : l.length ≤ 281474976710656) : ∀ k, k ≤ l.length → PK (pks (l.take k)) (l.take k) 0
  | 0, _ => rfl
  | k + 1, hk => by
    have ih := pks_PK l hm k (by omega)
    rw [take_snoc l k (by omega), pks_snoc]
    have := PK.push _ _ [l[k]] 0 (ih.mono (Nat.le_refl _)) rfl (by rw [List.length_append, List.length_take]; simp; omega)
    rwa [R_one [l[k]] (by simp)] at this
def foldP (d : List UInt8) (r : List (Nat × List UInt8)) : List UInt8 := r.foldl (fun d p => nodeS p.2 d) d
theorem PK.fold : ∀ (r : List (Nat × List UInt8)) (a b : List (List UInt8)) (j : Nat), PK r a j → 0 < b.length → b.length ≤ 2 ^ j → (a ++ b).length ≤ 281474976710656 → foldP (R b) r = R (a ++ b)
  | [], a, b, j, h, _, _, _ => by
    have h : a = [] := h
    subst h
    show R b = R ([] ++ b)
    rw [List.nil_append]
  | q :: r, a, b, j, ⟨j', a', b', h1, h2, h3, h4, h5, h6⟩, h0, hb, hm => by
    have hp := Nat.pow_le_pow_right (show 0 < 2 by decide) h1
    show foldP (nodeS q.2 (R b)) r = _
    rw [h3] at hm
    rw [h5, ← R_app b' b j' h4 h0 (by omega) (by simp only [List.length_append] at hm ⊢; omega), h3, List.append_assoc]
    exact PK.fold r a' (b' ++ b) (j' + 1) h6 (by rw [List.length_append]; omega) (by rw [List.length_append, Nat.pow_succ]; omega) (by simpa [List.append_assoc] using hm)
theorem foldP_len : ∀ (r : List (Nat × List UInt8)) (d : List UInt8), d.length = 32 → (foldP d r).length = 32
  | [], d, h => h
  | q :: r, d, h => foldP_len r _ (nodeS_len _ _)
/-- The peaks' fold is the root. -/
theorem pks_root (l : List (List UInt8)) (h0 : 0 < l.length) (hm : l.length ≤ 281474976710656) : ∃ q r, pks l = q :: r ∧ foldP q.2 r = R l := by
  have h := pks_PK l hm l.length (Nat.le_refl _)
  rw [List.take_length] at h
  cases hp : pks l with
  | nil => rw [hp] at h; have h : l = [] := h; subst h; simp at h0
  | cons q r =>
    rw [hp] at h
    obtain ⟨j, a, b, h1, h2, h3, h4, h5, h6⟩ := h
    refine ⟨q, r, rfl, ?_⟩
    rw [h5, h3]
    exact PK.fold r a b (j + 1) h6 (by rw [h4]; exact Nat.pos_of_ne_zero (by simp)) (by rw [h4, Nat.pow_succ]; omega) (by rw [← h3]; exact hm)
/-- Peaks: their sizes, and that their digests are digests. -/
def PSm (m : Nat) (s : List (Nat × List UInt8)) : Prop := (∀ p ∈ s, 1 ≤ p.1 ∧ p.2.length = 32) ∧ (s.map (·.1)).sum ≤ m
theorem PSm.push : ∀ (s : List (Nat × List UInt8)) (p : Nat × List UInt8) (m : Nat), PSm m s → 1 ≤ p.1 → p.2.length = 32 → PSm (m + p.1) (push s p)
  | [], p, m, h, h1, h2 => ⟨fun q hq => by simp [Go.Proofs.YtnecgoahdkfbeaaDoor.TreP.push] at hq; subst hq; exact ⟨h1, h2⟩, by simp [Go.Proofs.YtnecgoahdkfbeaaDoor.TreP.push]⟩
  | q :: r, p, m, ⟨h, hs⟩, h1, h2 => by
    simp only [List.map_cons, List.sum_cons] at hs
    by_cases hq : q.1 = p.1
    · rw [push_eq _ _ _ hq]
      have := PSm.push r (2 * p.1, nodeS q.2 p.2) (m - q.1) ⟨fun x hx => h x (List.mem_cons_of_mem _ hx), by omega⟩ (by show 1 ≤ 2 * p.1; omega) (nodeS_len _ _)
      exact ⟨this.1, Nat.le_trans this.2 (by show m - q.1 + 2 * p.1 ≤ m + p.1; omega)⟩
    · rw [push_ne _ _ _ hq]
      refine ⟨fun x hx => ?_, by simp only [List.map_cons, List.sum_cons]; omega⟩
      rcases List.mem_cons.1 hx with rfl | hx
      · exact ⟨h1, h2⟩
      · exact h x hx
theorem PSm.len {s : List (Nat × List UInt8)} {m : Nat} (h : PSm m s) : s.length ≤ m := by
  obtain ⟨h1, h2⟩ := h
  have : ∀ (s : List (Nat × List UInt8)), (∀ p ∈ s, 1 ≤ p.1 ∧ p.2.length = 32) → s.length ≤ (s.map (·.1)).sum := by
    intro s
    induction s with
    | nil => simp
    | cons q r ih =>
      intro h
      have := ih fun x hx => h x (List.mem_cons_of_mem _ hx)
      have := (h q (List.mem_cons_self ..)).1
      simp only [List.length_cons, List.map_cons, List.sum_cons]; omega
  have := this s h1; omega
/-! ### Paths -/
def pathG : Nat → List (List UInt8) → Nat → List (List UInt8)
  | 0, _, _ => []
  | f + 1, l, i => if l.length ≤ 1 then [] else if i < H l.length then pathG f (l.take (H l.length)) i ++ [R (l.drop (H l.length))] else pathG f (l.drop (H l.length)) (i - H l.length) ++ [R (l.take (H l.length))]
def path (l : List (List UInt8)) (i : Nat) : List (List UInt8) := pathG 49 l i
theorem pathG_fuel : ∀ (k f g : Nat) (l : List (List UInt8)) (i : Nat), l.length ≤ 281474976710656 → l.length ≤ 2 ^ k → k ≤ f → k ≤ g → pathG f l i = pathG g l i
  | 0, f, g, l, i, hn, hk, hf, hg => by
    have h1 : l.length ≤ 1 := by simpa using hk
    cases f <;> cases g <;> simp [pathG, h1]
  | k + 1, 0, g, l, i, hn, hk, hf, hg => by omega
  | k + 1, f + 1, 0, l, i, hn, hk, hf, hg => by omega
  | k + 1, f + 1, g + 1, l, i, hn, hk, hf, hg => by
    unfold pathG
    by_cases h1 : l.length ≤ 1
    · simp [h1]
    · rw [if_neg h1, if_neg h1]
      obtain ⟨q1, q2, q3⟩ := H_spec l.length (by omega) hn
      have q4 := H_le l.length k (by omega) hn hk
      rw [pathG_fuel k f g (l.take (H l.length)) _ (by rw [List.length_take]; omega) (by rw [List.length_take]; omega) (by omega) (by omega), pathG_fuel k f g (l.drop (H l.length)) _ (by rw [List.length_drop]; omega) (by rw [List.length_drop]; omega) (by omega) (by omega)]
theorem path_one (l : List (List UInt8)) (i : Nat) (h : l.length ≤ 1) : path l i = [] := by simp [path, pathG, h]
theorem path_step (l : List (List UInt8)) (i : Nat) (h : 2 ≤ l.length) (h' : l.length ≤ 281474976710656) : path l i = if i < H l.length then path (l.take (H l.length)) i ++ [R (l.drop (H l.length))] else path (l.drop (H l.length)) (i - H l.length) ++ [R (l.take (H l.length))] := by
  obtain ⟨q1, q2, q3⟩ := H_spec l.length h h'
  have q4 := H_le l.length 47 h h' (by omega)
  unfold path
  rw [show (49 : Nat) = 48 + 1 from rfl, pathG, if_neg (by omega), pathG_fuel 47 48 49 (l.take (H l.length)) _ (by rw [List.length_take]; omega) (by rw [List.length_take]; omega) (by omega) (by omega), pathG_fuel 47 48 49 (l.drop (H l.length)) _ (by rw [List.length_drop]; omega) (by rw [List.length_drop]; omega) (by omega) (by omega)]
theorem all32_take {l : List (List UInt8)} (h : All32 l) (k : Nat) : All32 (l.take k) := fun d hd => h d (List.mem_of_mem_take hd)
theorem all32_drop {l : List (List UInt8)} (h : All32 l) (k : Nat) : All32 (l.drop k) := fun d hd => h d (List.mem_of_mem_drop hd)
theorem all32_snoc {l : List (List UInt8)} {d : List UInt8} (h : All32 l) (hd : d.length = 32) : All32 (l ++ [d]) := by
  intro x hx
  rcases List.mem_append.1 hx with hx | hx
  · exact h x hx
  · simp at hx; subst hx; exact hd
theorem path_all : ∀ (k : Nat) (l : List (List UInt8)) (i : Nat), l.length ≤ k → l.length ≤ 281474976710656 → All32 l → All32 (path l i) ∧ (path l i).length = (wayL i l.length).length ∧ (i < l.length → climb (l.getD i []) (wayL i l.length).reverse (path l i) = R l)
  | k, l, i, hk, hm, h32 => by
    by_cases h1 : l.length ≤ 1
    · rw [path_one l i h1, R_one l h1]
      have : wayL i l.length = [] := by
        rcases Nat.lt_or_ge 0 l.length with c | c
        · rw [show l.length = 1 by omega]; exact wayL_one i
        · rw [show l.length = 0 by omega]; simp [wayL, wayG]
      rw [this]
      refine ⟨(by intro d hd; cases hd), rfl, fun hi => ?_⟩
      rw [show i = 0 by omega]; rfl
    · obtain ⟨q1, q2, q3⟩ := H_spec l.length (by omega) hm
      have e1 : (l.take (H l.length)).length = H l.length := by rw [List.length_take]; omega
      have e2 : (l.drop (H l.length)).length = l.length - H l.length := by rw [List.length_drop]
      rw [path_step l i (by omega) hm, wayL_step i l.length (by omega) hm, R_step l (by omega) hm]
      cases k with
      | zero => omega
      | succ k =>
      split
      · rename_i hi
        obtain ⟨i1, i2, i3⟩ := path_all k (l.take (H l.length)) i (by omega) (by omega) (all32_take h32 _)
        rw [e1] at i2 i3
        refine ⟨all32_snoc i1 (R_len _ (all32_drop h32 _) (by omega)), by simp [i2], fun _ => ?_⟩
        rw [List.reverse_cons, climb_snoc _ _ _ _ _ (by simp [i2])]
        have e3 : l.getD i [] = (l.take (H l.length)).getD i [] := by
          rw [List.getD_eq_getElem?_getD, List.getD_eq_getElem?_getD, List.getElem?_take, if_pos hi]
        rw [e3, i3 hi]; rfl
      · rename_i hi
        obtain ⟨i1, i2, i3⟩ := path_all k (l.drop (H l.length)) (i - H l.length) (by omega) (by omega) (all32_drop h32 _)
        rw [e2] at i2 i3
        refine ⟨all32_snoc i1 (R_len _ (all32_take h32 _) (by omega)), by simp [i2], fun hl => ?_⟩
        rw [List.reverse_cons, climb_snoc _ _ _ _ _ (by simp [i2])]
        have e3 : l.getD i [] = (l.drop (H l.length)).getD (i - H l.length) [] := by
          rw [List.getD_eq_getElem?_getD, List.getD_eq_getElem?_getD, List.getElem?_drop]
          congr 2; omega
        rw [e3, i3 (by omega)]; rfl
/-! ### From one tree to another -/
def consG : Nat → List (List UInt8) → Nat → Bool → List (List UInt8)
  | 0, _, _, _ => []
  | f + 1, l, m, wh => if m = l.length then if wh then [] else [R l] else if m ≤ H l.length then consG f (l.take (H l.length)) m wh ++ [R (l.drop (H l.length))] else consG f (l.drop (H l.length)) (m - H l.length) false ++ [R (l.take (H l.length))]
def consL (l : List (List UInt8)) (m : Nat) (wh : Bool) : List (List UInt8) := consG 49 l m wh
theorem consG_fuel : ∀ (k f g : Nat) (l : List (List UInt8)) (m : Nat) (wh : Bool), l.length ≤ 281474976710656 → 1 ≤ m → m ≤ l.length → l.length ≤ 2 ^ k → k + 1 ≤ f → k + 1 ≤ g → consG f l m wh = consG g l m wh
  | k, 0, g, l, m, wh, hn, hm, hml, hk, hf, hg => by omega
  | k, f + 1, 0, l, m, wh, hn, hm, hml, hk, hf, hg => by omega
  | k, f + 1, g + 1, l, m, wh, hn, hm, hml, hk, hf, hg => by
    unfold consG
    by_cases h1 : m = l.length
    · simp [h1]
    · rw [if_neg h1, if_neg h1]
      obtain ⟨q1, q2, q3⟩ := H_spec l.length (by omega) hn
      cases k with
      | zero => simp at hk; omega
      | succ k =>
      have q4 := H_le l.length k (by omega) hn hk
      by_cases h2 : m ≤ H l.length
      · rw [if_pos h2, if_pos h2, consG_fuel k f g (l.take (H l.length)) m wh (by rw [List.length_take]; omega) hm (by rw [List.length_take]; omega) (by rw [List.length_take]; omega) (by omega) (by omega)]
      · rw [if_neg h2, if_neg h2, consG_fuel k f g (l.drop (H l.length)) (m - H l.length) false (by rw [List.length_drop]; omega) (by omega) (by rw [List.length_drop]; omega) (by rw [List.length_drop]; omega) (by omega) (by omega)]
theorem consL_one (l : List (List UInt8)) (wh : Bool) : consL l l.length wh = if wh then [] else [R l] := by simp [consL, consG]
theorem consL_step (l : List (List UInt8)) (m : Nat) (wh : Bool) (h1 : 1 ≤ m) (h : m < l.length) (h' : l.length ≤ 281474976710656) : consL l m wh = if m ≤ H l.length then consL (l.take (H l.length)) m wh ++ [R (l.drop (H l.length))] else consL (l.drop (H l.length)) (m - H l.length) false ++ [R (l.take (H l.length))] := by
  obtain ⟨q1, q2, q3⟩ := H_spec l.length (by omega) h'
  have q4 := H_le l.length 47 (by omega) h' (by omega)
  unfold consL
  rw [show (49 : Nat) = 48 + 1 from rfl, consG, if_neg (by omega)]
  by_cases h2 : m ≤ H l.length
  · rw [if_pos h2, if_pos h2, consG_fuel 47 48 49 (l.take (H l.length)) m wh (by rw [List.length_take]; omega) h1 (by rw [List.length_take]; omega) (by rw [List.length_take]; omega) (by omega) (by omega)]
  · rw [if_neg h2, if_neg h2, consG_fuel 47 48 49 (l.drop (H l.length)) (m - H l.length) false (by rw [List.length_drop]; omega) (by omega) (by rw [List.length_drop]; omega) (by rw [List.length_drop]; omega) (by omega) (by omega)]
theorem tail_snoc (xs : List (List UInt8)) (x : List UInt8) (h : 0 < xs.length) : (xs ++ [x]).tail = xs.tail ++ [x] ∧ (xs ++ [x]).getD 0 [] = xs.getD 0 [] := by
  cases xs with
  | nil => simp at h
  | cons y ys => exact ⟨rfl, rfl⟩
theorem two_snoc (d : List UInt8) (l : List Bool) (t wh : Bool) (xs : List (List UInt8)) (x : List UInt8) (h : xs.length = l.length + if wh then 0 else 1) : two d (t :: l) wh (xs ++ [x]) = step2 (two d l wh xs) (t, x) := by
  unfold two
  cases wh with
  | true => simp only [if_true, List.reverse_cons]; exact climb2_snoc _ _ _ _ _ (by simpa using h.symm)
  | false =>
    have hx : 0 < xs.length := by simp at h; omega
    obtain ⟨e1, e2⟩ := tail_snoc xs x hx
    simp only [Bool.false_eq_true, if_false, List.reverse_cons]
    rw [e1, e2]
    exact climb2_snoc _ _ _ _ _ (by simp at h ⊢; omega)
theorem cons_all : ∀ (k : Nat) (l : List (List UInt8)) (m : Nat) (wh : Bool), l.length ≤ k → l.length ≤ 281474976710656 → All32 l → 1 ≤ m → m ≤ l.length →
    All32 (consL l m wh) ∧ (consL l m wh).length = (stL m l.length).1.length + (if wh && (stL m l.length).2 then 0 else 1) ∧ (∀ d, ((wh && (stL m l.length).2) = true → d = R (l.take m)) → two d (stL m l.length).1 (wh && (stL m l.length).2) (consL l m wh) = (R (l.take m), R l))
  | k, l, m, wh, hk, hn, h32, h1, hml => by
    by_cases h2 : m = l.length
    · subst h2
      rw [consL_one, stL_one]
      cases wh with
      | true => exact ⟨(by intro d hd; cases hd), rfl, fun d hd => (by rw [hd rfl, List.take_length]; rfl)⟩
      | false =>
        refine ⟨?_, rfl, fun d hd => by rw [List.take_length]; rfl⟩
        intro d hd
        simp at hd; subst hd; exact R_len l h32 (by omega)
    · obtain ⟨q1, q2, q3⟩ := H_spec l.length (by omega) hn
      have e1 : (l.take (H l.length)).length = H l.length := by rw [List.length_take]; omega
      have e2 : (l.drop (H l.length)).length = l.length - H l.length := by rw [List.length_drop]
      rw [consL_step l m wh h1 (by omega) hn, stL_step m l.length h1 (by omega) hn]
      cases k with
      | zero => omega
      | succ k =>
      by_cases h3 : m ≤ H l.length
      · rw [if_pos h3, if_pos h3]
        obtain ⟨i1, i2, i3⟩ := cons_all k (l.take (H l.length)) m wh (by omega) (by omega) (all32_take h32 _) h1 (by omega)
        rw [e1] at i2 i3
        have e3 : (l.take (H l.length)).take m = l.take m := by rw [List.take_take, Nat.min_eq_left h3]
        rw [e3] at i3
        refine ⟨all32_snoc i1 (R_len _ (all32_drop h32 _) (by omega)), by simp [i2]; omega, fun d hd => ?_⟩
        rw [two_snoc _ _ _ _ _ _ i2, i3 d hd, R_step l (by omega) hn]; rfl
      · rw [if_neg h3, if_neg h3]
        obtain ⟨i1, i2, i3⟩ := cons_all k (l.drop (H l.length)) (m - H l.length) false (by omega) (by omega) (all32_drop h32 _) (by omega) (by omega)
        rw [e2] at i2 i3
        simp only [Bool.false_and, Bool.and_false] at i2 i3 ⊢
        refine ⟨all32_snoc i1 (R_len _ (all32_take h32 _) (by omega)), by simp [i2], fun d hd => ?_⟩
        rw [two_snoc _ _ _ _ _ _ i2, i3 d (by intro e; cases e)]
        have e3 : l.take m = l.take (H l.length) ++ (l.drop (H l.length)).take (m - H l.length) := by
          rw [← List.take_append_drop (H l.length) (l.take m), List.take_take, Nat.min_eq_left (by omega), List.drop_take]
        have hp : ∃ j, H l.length = 2 ^ j := ⟨_, rfl⟩
        obtain ⟨j, hj⟩ := hp
        have e4 : R (l.take m) = nodeS (R (l.take (H l.length))) (R ((l.drop (H l.length)).take (m - H l.length))) := by
          rw [e3]
          exact R_app _ _ j (by rw [e1, hj]) (by rw [List.length_take]; omega) (by rw [List.length_take]; omega) (by simp only [List.length_append, List.length_take, List.length_drop]; omega)
        rw [e4, R_step l (by omega) hn]; rfl
end Go.Proofs.YtnecgoahdkfbeaaDoor.TreP
