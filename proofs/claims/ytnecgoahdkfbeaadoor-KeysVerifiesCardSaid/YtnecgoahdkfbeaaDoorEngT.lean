/- Own slices across a region that writes blocks; slices of truth values. -/
import Derived.Test.YtnecgoahdkfbeaaDoorEngS
import Derived.Test.YtnecgoahdkfbeaaDoorEngD
namespace Go.Proofs.YtnecgoahdkfbeaaDoor
open Go Go.RowKit Go.Proofs.YtnecgoahdkfbeaaDoor.Cop Go.Proofs.YtnecgoahdkfbeaaDoor.Oct Go.Proofs.YtnecgoahdkfbeaaDoor.Dsl
set_option linter.unusedVariables false
theorem Oct.Own.grL {E : List Nat} {base : Nat} {w W : World} {v : Value} {xs : List UInt8} (h : Own base w v xs) (hg : Eng.GrL E w W) (hn : ∀ g, v.ownBlock = some g → g ∉ E) : Own base W v xs := Eng.own_grL h hg hn
theorem Eng.OwnD.grL {E : List Nat} {base : Nat} {w W : World} {v : Value} {xs : List (List UInt8)} (h : Eng.OwnD base w v xs) (hg : Eng.GrL E w W) (hn : ∀ g, v.ownBlock = some g → g ∉ E) : Eng.OwnD base W v xs := ⟨Eng.own_grL h.1 hg hn, h.2⟩
theorem Eng.ownR_grL {E : List Nat} {base : Nat} {w W : World} {e : TypeId} {sz : Nat} {v : Value} {n : Nat} {xs : List Value} (h : w.ownsRow base e sz v n xs) (hg : Eng.GrL E w W) (hn : ∀ g, v.ownBlock = some g → g ∉ E) : W.ownsRow base e sz v n xs := Eng.own_grL h hg hn
/-- A slice of truth values. -/
theorem Eng.row_get {w : World} {v : Value} {n : Nat} {cs : List Value} (h : Row w v n cs) {j : Nat} {u : Value} (hu : cs[j]? = some u) : w.cell? ((Eng.sAddr v).add (j * 1)) = some u := by
  rw [Nat.mul_one]; exact Eng.Row.addr h hu
theorem Eng.map_get {α : Type} (f : α → Value) (l : List α) (d : α) {j : Nat} (h : j < l.length) : (l.map f)[j]? = some (f (l.getD j d)) := by
  rw [List.getElem?_map, List.getD_eq_getElem?_getD, List.getElem?_eq_getElem h]; rfl
end Go.Proofs.YtnecgoahdkfbeaaDoor
