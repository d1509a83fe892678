/- The tiles that hold nodes, as a plain list: found or put behind, the width the greatest. -/
import Derived.Test.YtmiffljcggfcgaaMapS
import Derived.Test.YtmiffljcggfcgaaPureTileOf
namespace Go.Proofs.Ytmiffljcggfcgaa.Til
open Go Go.RowKit Go.Proofs.Ytmiffljcggfcgaa.Cop
set_option linter.unusedSimpArgs false
/-- A tile: level, index, width. -/
abbrev Tl := Int × Int × Int
def sfind (a b : Int) : List Tl → Option Nat
  | [] => none
  | (x, y, _) :: s => if (a == x) && (b == y) then some 0 else (sfind a b s).map (· + 1)
def upd (s : List Tl) (t : Tl) : List Tl :=
  match sfind t.1 t.2.1 s with
  | none => s ++ [t]
  | some k => s.set k (t.1, t.2.1, max (s.getD k t).2.2 t.2.2)
/-- The tile of a node; none: an error. -/
def ofN (h : Int) (n : Int × Int) : Option Tl :=
  match PTileOf.tile_Of.f h n.1 n.2 with
  | some (_, a, b, c, _, _, e) => if e = 0 then some (a, b, c) else none
  | none => none
def needs (h : Int) : List (Int × Int) → List Tl → Option (List Tl)
  | [], s => some s
  | n :: r, s => match ofN h n with
    | none => none
    | some t => needs h r (upd s t)
theorem sfind_some {a b : Int} : ∀ {s : List Tl} {k : Nat}, sfind a b s = some k → ∃ c, s[k]? = some (a, b, c)
  | [], _, h => by simp [sfind] at h
  | (x, y, c) :: s, k, h => by
    unfold sfind at h
    split at h
    · rename_i he
      simp at he h
      subst h
      exact ⟨c, by simp [he.1, he.2]⟩
    · obtain ⟨j, hj, rfl⟩ := Option.map_eq_some_iff.1 h
      obtain ⟨c', hc⟩ := sfind_some hj
      exact ⟨c', by simpa using hc⟩
theorem sfind_lt {a b : Int} {s : List Tl} {k : Nat} (h : sfind a b s = some k) : k < s.length := by
  obtain ⟨c, hc⟩ := sfind_some h
  exact (List.getElem?_eq_some_iff.1 hc).1
theorem upd_len (s : List Tl) (t : Tl) : (upd s t).length ≤ s.length + 1 := by
  unfold upd
  split <;> simp
/-- The search from a place on. -/
theorem sfind_step {a b : Int} {s : List Tl} {k : Nat} {x y c : Int} (h : s[k]? = some (x, y, c)) (hn : ((a == x) && (b == y)) = false) : (sfind a b (s.drop k)).map (· + k) = (sfind a b (s.drop (k + 1))).map (· + (k + 1)) := by
  obtain ⟨hk, he⟩ := List.getElem?_eq_some_iff.1 h
  rw [List.drop_eq_getElem_cons hk, he, sfind, hn]
  simp only [Bool.false_eq_true, if_false, Option.map_map]
  congr 1
  funext j
  simp only [Function.comp]
  omega
theorem sfind_here {a b : Int} {s : List Tl} {k : Nat} {x y c : Int} (h : s[k]? = some (x, y, c)) (hn : ((a == x) && (b == y)) = true) : (sfind a b (s.drop k)).map (· + k) = some k := by
  obtain ⟨hk, he⟩ := List.getElem?_eq_some_iff.1 h
  rw [List.drop_eq_getElem_cons hk, he, sfind, hn]
  simp
theorem sfind_end {a b : Int} (s : List Tl) : (sfind a b (s.drop s.length)).map (· + s.length) = none := by simp [sfind]
theorem sfind_zero {a b : Int} (s : List Tl) : (sfind a b (s.drop 0)).map (· + 0) = sfind a b s := by simp
/-- The map's entries: each tile's place. -/
def keyed : Nat → List Tl → List (Int × Int × Value)
  | _, [] => []
  | i, (x, y, _) :: s => (x, y, .int .i64 (i : Int)) :: keyed (i + 1) s
theorem keyed_find (a b : Int) : ∀ (s : List Tl) (i j : Nat), pfind a b (keyed i s) j = (sfind a b s).map fun k => (j + k, .int .i64 ((i + k : Nat) : Int))
  | [], i, j => rfl
  | (x, y, c) :: s, i, j => by
    rw [keyed, pfind, sfind]
    split
    · simp
    · rw [keyed_find a b s (i + 1) (j + 1)]
      cases sfind a b s with
      | none => rfl
      | some k =>
        simp only [Option.map_some, Option.some.injEq, Prod.mk.injEq]
        exact ⟨by omega, by rw [show i + 1 + k = i + (k + 1) from by omega]⟩
theorem keyed_app (t : Tl) : ∀ (s : List Tl) (i : Nat), keyed i (s ++ [t]) = keyed i s ++ [(t.1, t.2.1, .int .i64 ((i + s.length : Nat) : Int))]
  | [], i => by simp [keyed]
  | (x, y, c) :: s, i => by
    rw [List.cons_append, keyed, keyed_app t s (i + 1), keyed, List.cons_append, List.length_cons, show i + 1 + s.length = i + (s.length + 1) from by omega]
theorem keyed_set {x y c c' : Int} : ∀ (s : List Tl) (i k : Nat), s[k]? = some (x, y, c) → keyed i (s.set k (x, y, c')) = keyed i s
  | [], i, k, h => by simp at h
  | (u, v, d) :: s, i, 0, h => by
    simp at h
    obtain ⟨rfl, rfl, rfl⟩ := h
    rfl
  | (u, v, d) :: s, i, k + 1, h => by
    simp only [List.set_cons_succ, keyed]
    rw [keyed_set s (i + 1) k (by simpa using h)]
/-- A tile's cells. -/
def tcl (h : Int) (t : Tl) : List Value := [.int .i64 h, .int .i64 t.1, .int .i64 t.2.1, .int .i64 t.2.2]
theorem tcl_len (h : Int) (s : List Tl) : (s.flatMap (tcl h)).length = s.length * 4 := by
  induction s with
  | nil => rfl
  | cons x r ih => rw [List.flatMap_cons, List.length_append, ih, List.length_cons]; simp [tcl]; omega
theorem tcl_at (h : Int) : ∀ (s : List Tl) (k : Nat) (t : Tl), s[k]? = some t → ∀ j, j < 4 → (s.flatMap (tcl h))[k * 4 + j]? = (tcl h t)[j]?
  | [], k, t, hk, j, _ => by simp at hk
  | x :: s, 0, t, hk, j, hj => by
    simp at hk
    subst hk
    rw [List.flatMap_cons, List.getElem?_append_left (by simp [tcl]; omega)]
    simp
  | x :: s, k + 1, t, hk, j, hj => by
    have hl : (tcl h x).length = 4 := rfl
    rw [List.flatMap_cons, List.getElem?_append_right (by rw [hl]; omega), hl, show (k + 1) * 4 + j - 4 = k * 4 + j from by omega, tcl_at h s k t (by simpa using hk) j hj]
theorem tcl_set (h : Int) : ∀ (s : List Tl) (k : Nat) (x y c c' : Int), s[k]? = some (x, y, c) → (s.set k (x, y, c')).flatMap (tcl h) = (s.flatMap (tcl h)).set (k * 4 + 3) (.int .i64 c')
  | [], k, _, _, _, _, hk => by simp at hk
  | t :: s, 0, x, y, c, c', hk => by
    simp at hk
    subst hk
    rfl
  | t :: s, k + 1, x, y, c, c', hk => by
    simp only [List.set_cons_succ, List.flatMap_cons]
    rw [tcl_set h s k x y c c' (by simpa using hk)]
    rw [List.set_append_right _ _ (by simp [tcl]; omega)]
    have hl : (tcl h t).length = 4 := rfl
    rw [hl, show (k + 1) * 4 + 3 - 4 = k * 4 + 3 from by omega]
/-- Of and its two ways. -/
theorem of_two (h : Int) (n : Int × Int) : (ofN h n = none ∧ PTileOf.tile_Of.f h n.1 n.2 = some (0, 0, 0, 0, 0, 0, 2)) ∨ ∃ a b c x y, ofN h n = some (a, b, c) ∧ PTileOf.tile_Of.f h n.1 n.2 = some (h, a, b, c, x, y, 0) := by
  obtain ⟨_, r, hr⟩ := PTileOf.of_same 0 h n.1 n.2
  have key : PTileOf.tile_Of.f h n.1 n.2 = some (0, 0, 0, 0, 0, 0, 2) ∨ ∃ a b c x y, PTileOf.tile_Of.f h n.1 n.2 = some (h, a, b, c, x, y, 0) := by
    unfold PTileOf.tile_Of.f at hr ⊢
    obtain ⟨hb, hh⟩ : ∃ b, PTileOf.tile_height.f h = some b := by
      unfold PTileOf.tile_height.f
      split <;> exact ⟨_, rfl⟩
    rw [hh] at hr ⊢
    simp only [Option.bind_some] at hr ⊢
    cases hb with
    | false => simp
    | true =>
      simp only [if_true] at hr ⊢
      obtain ⟨vb, hv, _⟩ := PTileOf.valid_some n.1 n.2
      rw [hv] at hr ⊢
      simp only [Option.bind_some] at hr ⊢
      cases vb with
      | false => simp
      | true =>
        simp only [if_true] at hr ⊢
        split at hr
        · cases hr
        · split at hr
          · split at hr
            · rename_i h1 h2 h3
              right
              rw [if_neg h1, if_pos h2, if_pos h3]
              exact ⟨_, _, _, _, _, rfl⟩
            · cases hr
          · cases hr
  rcases key with hk | ⟨a, b, c, x, y, hk⟩
  · refine .inl ⟨?_, hk⟩
    unfold ofN
    rw [hk]
    rfl
  · refine .inr ⟨a, b, c, x, y, ?_, hk⟩
    unfold ofN
    rw [hk]
    rfl
end Go.Proofs.Ytmiffljcggfcgaa.Til
