/- Contracts of package octet's numbers: put, get, room and what stands on them; any bytes, any place. -/
import Derived.Test.YtojenflknjhmkaaByt
namespace Go.Proofs.Ytojenflknjhmkaa.Oct
open Go Go.RowKit Go.Proofs.Ytojenflknjhmkaa.Cop


/-- The last n bytes of a number, the highest first. -/
def be (v n : Nat) : List UInt8 := (List.range n).map fun j => UInt8.ofNat (v / 2 ^ (8 * (n - 1 - j)))

theorem be_length (v n : Nat) : (be v n).length = n := by simp [be]
theorem be_take (v n k : Nat) (hk : k < n) : (be v n).take (n - (k + 1)) ++ [UInt8.ofNat (v / 2 ^ (8 * k))] = (be v n).take (n - k) := by
  have e : n - k = n - (k + 1) + 1 := by omega
  rw [e, List.take_add_one]
  congr 1
  have : n - (k + 1) < n := by omega
  simp only [be, List.getElem?_map, List.getElem?_range this, Option.map_some, Option.toList_some]
  congr 4
  omega

end Go.Proofs.Ytojenflknjhmkaa.Oct
