/- Roots out of paths, plain: what verify and the reference tell. -/
import Derived.Test.YtnecgoahdkfbeaaDoorTre
import Derived.Test.YtnecgoahdkfbeaaDoorVerW
namespace Go.Proofs.YtnecgoahdkfbeaaDoor.Vfy
open Go Go.Proofs.YtnecgoahdkfbeaaDoor.Cop Go.Proofs.YtnecgoahdkfbeaaDoor.Tre Go.Proofs.YtnecgoahdkfbeaaDoor.Ver Go.Proofs.YtnecgoahdkfbeaaDoor.Oct Go.Proofs.YtnecgoahdkfbeaaDoor.Dsl
set_option linter.unusedVariables false
theorem right_is {i n : Int} {b : Bool} (h : rightB i n = b) : rightB i n = b := h
/-- One step up. -/
def stepD (d : List UInt8) (p : Bool × List UInt8) : List UInt8 := if p.1 then nodeS d p.2 else nodeS p.2 d
/-- From the leaf up: the turns from the leaf on. -/
def climb (d : List UInt8) (ts : List Bool) (xs : List (List UInt8)) : List UInt8 := (ts.zip xs).foldl stepD d
theorem climb_snoc (d : List UInt8) (ts : List Bool) (xs : List (List UInt8)) (t : Bool) (x : List UInt8) (h : ts.length = xs.length) : climb d (ts ++ [t]) (xs ++ [x]) = stepD (climb d ts xs) (t, x) := by
  unfold climb
  rw [List.zip_append h, List.foldl_append]
  rfl
theorem climb_len (d : List UInt8) (ts : List Bool) (xs : List (List UInt8)) (hd : d.length = 32) : (climb d ts xs).length = 32 := by
  unfold climb
  generalize ts.zip xs = l
  induction l generalizing d with
  | nil => exact hd
  | cons p l ih =>
    refine ih _ ?_
    unfold stepD; split <;> exact nodeS_len _ _
/-- After k steps. -/
def upK (d : List UInt8) (l : List Bool) (xs : List (List UInt8)) (k : Nat) : List UInt8 := climb d (l.reverse.take k) (xs.take k)
theorem upK_len (d : List UInt8) (l : List Bool) (xs : List (List UInt8)) (k : Nat) (hd : d.length = 32) : (upK d l xs k).length = 32 := climb_len _ _ _ hd
theorem upK_succ (d : List UInt8) (l : List Bool) (xs : List (List UInt8)) (k : Nat) (hk : k < l.length) (hl : l.length = xs.length) : upK d l xs (k + 1) = stepD (upK d l xs k) (l.getD (l.length - 1 - k) false, xs.getD k []) := by
  unfold upK
  have h1 : l.reverse.take (k + 1) = l.reverse.take k ++ [l.getD (l.length - 1 - k) false] := by
    rw [take_snoc _ _ (by simpa using hk)]
    congr 2
    rw [List.getElem_reverse, List.getD_eq_getElem?_getD, List.getElem?_eq_getElem (by omega)]
    rfl
  have h2 : xs.take (k + 1) = xs.take k ++ [xs.getD k []] := by
    rw [take_snoc xs k (by omega), List.getD_eq_getElem?_getD, List.getElem?_eq_getElem (by omega)]
    rfl
  rw [h1, h2, climb_snoc _ _ _ _ _ (by simp; omega)]
theorem upK_t {d : List UInt8} {l : List Bool} {xs : List (List UInt8)} {k : Nat} (hk : k < l.length) (hl : l.length = xs.length) (h : l.getD (l.length - 1 - k) false = true) : nodeS (upK d l xs k) (xs.getD k []) = upK d l xs (k + 1) := by
  rw [upK_succ d l xs k hk hl, h]; rfl
theorem upK_f {d : List UInt8} {l : List Bool} {xs : List (List UInt8)} {k : Nat} (hk : k < l.length) (hl : l.length = xs.length) (h : l.getD (l.length - 1 - k) false = false) : nodeS (xs.getD k []) (upK d l xs k) = upK d l xs (k + 1) := by
  rw [upK_succ d l xs k hk hl, h]; rfl
theorem upK_all (d : List UInt8) (l : List Bool) (xs : List (List UInt8)) (hl : l.length = xs.length) : upK d l xs l.length = climb d l.reverse xs := by
  unfold upK
  rw [List.take_of_length_le (by simp), List.take_of_length_le (by omega)]
/-- The top step, by the path's last digest. -/
theorem climb_top (d : List UInt8) (l : List Bool) (t : Bool) (xs : List (List UInt8)) (h : xs.length = l.length + 1) : climb d (t :: l).reverse xs = stepD (climb d l.reverse (xs.take (xs.length - 1))) (t, xs.getD (xs.length - 1) []) := by
  have e : xs = xs.take (xs.length - 1) ++ [xs.getD (xs.length - 1) []] := by
    have := take_snoc xs (xs.length - 1) (by omega)
    rw [show xs.length - 1 + 1 = xs.length by omega, List.take_length] at this
    rw [List.getD_eq_getElem?_getD, List.getElem?_eq_getElem (by omega)]
    exact this
  rw [List.reverse_cons]
  conv => lhs; rw [e]
  rw [climb_snoc _ _ _ _ _ (by simp; omega)]
def rootE (i n : Int) (k : Nat) : Int := if rightB i n then if lenN i n = k then 0 else 70 else 40
def rootD (d : List UInt8) (i n : Int) (xs : List (List UInt8)) : List UInt8 := if rootE i n xs.length = 0 then climb d (wayL i.toNat n.toNat).reverse xs else dz
theorem rootD_len (d : List UInt8) (i n : Int) (xs : List (List UInt8)) (hd : d.length = 32) : (rootD d i n xs).length = 32 := by
  unfold rootD; split
  · exact climb_len _ _ _ hd
  · rfl
/-! ### Two roots -/
def step2 (d : List UInt8 × List UInt8) (p : Bool × List UInt8) : List UInt8 × List UInt8 := if p.1 then (d.1, nodeS d.2 p.2) else (nodeS p.2 d.1, nodeS p.2 d.2)
def climb2 (d : List UInt8 × List UInt8) (ts : List Bool) (xs : List (List UInt8)) : List UInt8 × List UInt8 := (ts.zip xs).foldl step2 d
theorem climb2_snoc (d : List UInt8 × List UInt8) (ts : List Bool) (xs : List (List UInt8)) (t : Bool) (x : List UInt8) (h : ts.length = xs.length) : climb2 d (ts ++ [t]) (xs ++ [x]) = step2 (climb2 d ts xs) (t, x) := by
  unfold climb2
  rw [List.zip_append h, List.foldl_append]
  rfl
theorem climb2_len (d : List UInt8 × List UInt8) (ts : List Bool) (xs : List (List UInt8)) (hd : d.1.length = 32 ∧ d.2.length = 32) : (climb2 d ts xs).1.length = 32 ∧ (climb2 d ts xs).2.length = 32 := by
  unfold climb2
  generalize ts.zip xs = l
  induction l generalizing d with
  | nil => exact hd
  | cons p l ih =>
    refine ih _ ?_
    unfold step2; split
    · exact ⟨hd.1, nodeS_len _ _⟩
    · exact ⟨nodeS_len _ _, nodeS_len _ _⟩
def up2 (d : List UInt8) (l : List Bool) (xs : List (List UInt8)) (k : Nat) : List UInt8 × List UInt8 := climb2 (d, d) (l.reverse.take k) (xs.take k)
theorem up2_len1 (d : List UInt8) (l : List Bool) (xs : List (List UInt8)) (k : Nat) (hd : d.length = 32) : (up2 d l xs k).1.length = 32 := (climb2_len _ _ _ ⟨hd, hd⟩).1
theorem up2_len2 (d : List UInt8) (l : List Bool) (xs : List (List UInt8)) (k : Nat) (hd : d.length = 32) : (up2 d l xs k).2.length = 32 := (climb2_len _ _ _ ⟨hd, hd⟩).2
theorem up2_succ (d : List UInt8) (l : List Bool) (xs : List (List UInt8)) (k : Nat) (hk : k < l.length) (hl : l.length = xs.length) : up2 d l xs (k + 1) = step2 (up2 d l xs k) (l.getD (l.length - 1 - k) false, xs.getD k []) := by
  unfold up2
  have h1 : l.reverse.take (k + 1) = l.reverse.take k ++ [l.getD (l.length - 1 - k) false] := by
    rw [take_snoc _ _ (by simpa using hk)]
    congr 2
    rw [List.getElem_reverse, List.getD_eq_getElem?_getD, List.getElem?_eq_getElem (by omega)]
    rfl
  have h2 : xs.take (k + 1) = xs.take k ++ [xs.getD k []] := by
    rw [take_snoc xs k (by omega), List.getD_eq_getElem?_getD, List.getElem?_eq_getElem (by omega)]
    rfl
  rw [h1, h2, climb2_snoc _ _ _ _ _ (by simp; omega)]
theorem up2_t {d : List UInt8} {l : List Bool} {xs : List (List UInt8)} {k : Nat} (hk : k < l.length) (hl : l.length = xs.length) (h : l.getD (l.length - 1 - k) false = true) : (up2 d l xs k).1 = (up2 d l xs (k + 1)).1 ∧ nodeS (up2 d l xs k).2 (xs.getD k []) = (up2 d l xs (k + 1)).2 := by
  rw [up2_succ d l xs k hk hl, h]; exact ⟨rfl, rfl⟩
theorem up2_f {d : List UInt8} {l : List Bool} {xs : List (List UInt8)} {k : Nat} (hk : k < l.length) (hl : l.length = xs.length) (h : l.getD (l.length - 1 - k) false = false) : nodeS (xs.getD k []) (up2 d l xs k).1 = (up2 d l xs (k + 1)).1 ∧ nodeS (xs.getD k []) (up2 d l xs k).2 = (up2 d l xs (k + 1)).2 := by
  rw [up2_succ d l xs k hk hl, h]; exact ⟨rfl, rfl⟩
theorem up2_all (d : List UInt8) (l : List Bool) (xs : List (List UInt8)) (hl : l.length = xs.length) : up2 d l xs l.length = climb2 (d, d) l.reverse xs := by
  unfold up2
  rw [List.take_of_length_le (by simp), List.take_of_length_le (by omega)]
theorem climb2_top (d : List UInt8 × List UInt8) (l : List Bool) (t : Bool) (xs : List (List UInt8)) (h : xs.length = l.length + 1) : climb2 d (t :: l).reverse xs = step2 (climb2 d l.reverse (xs.take (xs.length - 1))) (t, xs.getD (xs.length - 1) []) := by
  have e : xs = xs.take (xs.length - 1) ++ [xs.getD (xs.length - 1) []] := by
    have := take_snoc xs (xs.length - 1) (by omega)
    rw [show xs.length - 1 + 1 = xs.length by omega, List.take_length] at this
    rw [List.getD_eq_getElem?_getD, List.getElem?_eq_getElem (by omega)]
    exact this
  rw [List.reverse_cons]
  conv => lhs; rw [e]
  rw [climb2_snoc _ _ _ _ _ (by simp; omega)]
/-- Out of what is known and a path: the roots; whole: what is known is a root itself. -/
def two (d : List UInt8) (l : List Bool) (wh : Bool) (xs : List (List UInt8)) : List UInt8 × List UInt8 := if wh then climb2 (d, d) l.reverse xs else climb2 (xs.getD 0 [], xs.getD 0 []) l.reverse xs.tail
def rootsE (m n : Int) (k : Nat) : Int := if ordB m n then if stN m n = k then 0 else 70 else 40
def rootsD (d : List UInt8) (m n : Int) (xs : List (List UInt8)) : List UInt8 × List UInt8 := if rootsE m n xs.length = 0 then two d (stL m.toNat n.toNat).1 (stL m.toNat n.toNat).2 xs else (dz, dz)
theorem two_len (d : List UInt8) (l : List Bool) (wh : Bool) (xs : List (List UInt8)) (hd : d.length = 32) (hx : wh = true ∨ (0 < xs.length ∧ All32 xs)) : (two d l wh xs).1.length = 32 ∧ (two d l wh xs).2.length = 32 := by
  unfold two; split
  · exact climb2_len _ _ _ ⟨hd, hd⟩
  · rename_i h
    obtain ⟨h0, h32⟩ := hx.resolve_left h
    have h1 : (xs.getD 0 []).length = 32 := by
      rw [List.getD_eq_getElem?_getD, List.getElem?_eq_getElem h0]; exact h32 _ (List.getElem_mem h0)
    exact climb2_len _ _ _ ⟨h1, h1⟩
theorem two_top (d : List UInt8) (l : List Bool) (t wh : Bool) (xs : List (List UInt8)) (h : xs.length = l.length + 1 + if wh then 0 else 1) : two d (t :: l) wh xs = step2 (two d l wh (xs.take (xs.length - 1))) (t, xs.getD (xs.length - 1) []) := by
  unfold two
  cases wh with
  | true => exact climb2_top _ _ _ _ (by simpa using h)
  | false =>
    have h2 : xs.length = l.length + 2 := by simpa using h
    have hx : ∃ y ys, xs = y :: ys := by cases xs with
      | nil => simp at h2
      | cons y ys => exact ⟨y, ys, rfl⟩
    obtain ⟨y, ys, rfl⟩ := hx
    have hy : ys.length = l.length + 1 := by simpa using h2
    have e1 : (y :: ys).take ((y :: ys).length - 1) = y :: ys.take (ys.length - 1) := by
      rw [show (y :: ys).length - 1 = (ys.length - 1) + 1 by simp; omega]; rfl
    have e2 : (y :: ys).getD ((y :: ys).length - 1) [] = ys.getD (ys.length - 1) [] := by
      rw [show (y :: ys).length - 1 = (ys.length - 1) + 1 by simp; omega]; rfl
    rw [if_neg (by decide), if_neg (by decide), e1, e2]
    exact climb2_top _ _ _ _ hy
end Go.Proofs.YtnecgoahdkfbeaaDoor.Vfy
