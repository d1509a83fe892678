/- The package's variable of rounds' constants, out of a row's list. -/
import Derived.Test.YtnecgoahdkfbeaaDoorRows
import Derived.Test.YtnecgoahdkfbeaaDoorShaC
import Derived.Lib.LaidTab
import Derived.MakeChecks
namespace Go.Proofs.YtnecgoahdkfbeaaDoor.Sha
open Go Go.RowKit Go.Proofs.YtnecgoahdkfbeaaDoor.Cop
theorem kon_laid {W : World} {rest : List (String × DataW Unit)} (h : laidMet Tryd.prog (("coppice/hash.constants", Rows.laid_coppice_hash_constants) :: rest) W) : Kon W := by
  have e : (Rows.laid_coppice_hash_constants : DataW Unit) = Lib.tabData .u32 kt := by kernel_rfl
  rw [e] at h
  have hg : Tryd.prog.globalNamed "coppice/hash.constants" = some 7 := by kernel_rfl
  have ht : (Tryd.prog.globals[7]?).map (·.type) = some 318 := by kernel_rfl
  have ht64 : Lib.TabIs Tryd.prog W "coppice/hash.constants" .u32 kt := Lib.tabIs_of_head hg ht Tryd.underlying318 Tryd.underlying197 (by kernel_rfl) (by kernel_rfl) h
  intro i hi
  exact ht64.cell hg i hi
end Go.Proofs.YtnecgoahdkfbeaaDoor.Sha
