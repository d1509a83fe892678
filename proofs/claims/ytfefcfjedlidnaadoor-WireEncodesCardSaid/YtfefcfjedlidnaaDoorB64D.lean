/- Two words for texts told to the bases. -/
import Derived.Deep.RegionLaw
import Derived.Test.YtfefcfjedlidnaaDoorByt
namespace Go.Proofs.YtfefcfjedlidnaaDoor.Hex
open Go Go.RowKit Go.Proofs.YtfefcfjedlidnaaDoor.Cop Go.Proofs.YtfefcfjedlidnaaDoor.Oct
set_option linter.unusedVariables false
set_option linter.unusedSimpArgs false
theorem bget (s : ByteArray) (k : Nat) (h : k < s.size) : s[k] = s.data.toList[k]'(by simpa using h) := by
  rw [Array.getElem_toList]; rfl
theorem bgetD (s : ByteArray) (k : Nat) (h : k < s.size) : s.data.toList.getD k 0 = s[k] := by
  rw [bget s k h, List.getD, List.getElem?_eq_getElem (by exact h)]; rfl
end Go.Proofs.YtfefcfjedlidnaaDoor.Hex
namespace Go.Proofs.YtfefcfjedlidnaaDoor.B64
def SX : List UInt8 := [65, 66, 67, 68, 69, 70, 71, 72, 73, 74, 75, 76, 77, 78, 79, 80, 81, 82, 83, 84, 85, 86, 87, 88, 89, 90, 97, 98, 99, 100, 101, 102, 103, 104, 105, 106, 107, 108, 109, 110, 111, 112, 113, 114, 115, 116, 117, 118, 119, 120, 121, 122, 48, 49, 50, 51, 52, 53, 54, 55, 56, 57, 43, 47]
end Go.Proofs.YtfefcfjedlidnaaDoor.B64
