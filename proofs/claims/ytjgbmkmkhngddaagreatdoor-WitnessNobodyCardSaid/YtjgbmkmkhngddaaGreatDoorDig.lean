/- A digest: its type's facts. -/
import Derived.Test.YtjgbmkmkhngddaaGreatDoorByt
namespace Go.Proofs.YtjgbmkmkhngddaaGreatDoor.Oct
open Go Go.RowKit Go.Proofs.YtjgbmkmkhngddaaGreatDoor.Cop
theorem aggD (w : World) : (isAgg 35).run Tryz.prog w = .ok true w := by kernel_rfl
theorem sizeD : (Tryz.prog.info? 35).map (fun i => i.size) = some 32 := by kernel_rfl
/-- The digest of noughts. -/
def dz : List UInt8 := List.replicate 32 0
theorem zeroD (w : World) : (zeroValue 35).run Tryz.prog w = .ok (dg dz) w := by kernel_rfl
theorem dz_length : dz.length = 32 := by simp [dz]
theorem dg_size {d : List UInt8} (h : d.length = 32) : (dg d).cells.size = 32 := by simp [Value.cells, bcs, h]
theorem dg_one (d : List UInt8) : ∀ u ∈ (dg d).cells.toList, u.oneCell' = true := by intro u hu; exact bcs_one d u (by simpa [Value.cells] using hu)
theorem dz_cells : (dg dz).cells.toList.length = 32 := by simp [Value.cells, bcs, dz]
end Go.Proofs.YtjgbmkmkhngddaaGreatDoor.Oct
