/- The package variables that a row lists: what they say of memory. -/
import Derived.Test.YtfefcfjedlidnaaDoorRows
import Derived.Test.YtfefcfjedlidnaaDoorShaC
import Derived.Test.YtfefcfjedlidnaaDoorUtV
import Derived.Lib.LaidTab
import Derived.Lib.LaidU8T
import Derived.MakeChecks
namespace Go.Proofs.YtfefcfjedlidnaaDoor.Sha
open Go Go.RowKit Go.Proofs.YtfefcfjedlidnaaDoor.Cop Go.Lib
set_option linter.unusedVariables false
theorem kon_reads {W : World} (h : VarReads Tryd.prog W "coppice/hash.constants" Rows.laid_coppice_hash_constants) : Kon W := by
  have e : (Rows.laid_coppice_hash_constants : DataW Unit) = Lib.tabData .u32 kt := by kernel_rfl
  rw [e] at h
  have hg : Tryd.prog.globalNamed "coppice/hash.constants" = some 5 := by kernel_rfl
  have ht : (Tryd.prog.globals[5]?).map (·.type) = some 247 := by kernel_rfl
  have ht64 : Lib.TabIs Tryd.prog W "coppice/hash.constants" .u32 kt := by
    obtain ⟨g', t', cs, fuel, p, hg', ht', hvar, hd⟩ := h
    obtain rfl := Option.some.inj (hg.symm.trans hg')
    obtain rfl := Option.some.inj (ht.symm.trans ht')
    unfold Lib.TabIs
    rw [hvar, ← cells_of_tab Tryd.underlying247 Tryd.underlying60 (by kernel_rfl) (by kernel_rfl) hd]
  intro i hi
  exact ht64.cell hg i hi
theorem tabs_reads {W : World} (h1 : VarReads Tryd.prog W "unicode/utf8.first" Rows.laid_unicode_utf8_first) (h2 : VarReads Tryd.prog W "unicode/utf8.acceptRanges" Rows.laid_unicode_utf8_acceptRanges) : Utf.Tabs W := by
  have e1 : (Rows.laid_unicode_utf8_first : DataW Unit) = firstData := by kernel_rfl
  have e2 : (Rows.laid_unicode_utf8_acceptRanges : DataW Unit) = acceptData := by kernel_rfl
  rw [e1] at h1
  rw [e2] at h2
  exact utf8Tabs_of_readsT (U8Types.of196 Tryd.laysValid) ⟨by kernel_rfl, by kernel_rfl, by kernel_rfl, by kernel_rfl, by kernel_rfl, by kernel_rfl, by kernel_rfl⟩ h1 h2
end Go.Proofs.YtfefcfjedlidnaaDoor.Sha
