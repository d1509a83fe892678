/- The table of powers out of a row's list. -/
import Derived.Test.YtfefcfjedlidnaaDoorRows
import Derived.Test.YtfefcfjedlidnaaDoorIto
import Derived.Lib.LaidTab
import Derived.Lib.LaidU8T
import Derived.MakeChecks
namespace Go.Proofs.YtfefcfjedlidnaaDoor.Ito
open Go Go.RowKit Go.Proofs.YtfefcfjedlidnaaDoor.Cop Go.Lib
set_option linter.unusedVariables false
theorem pows_reads {W : World} (h : VarReads Tryd.prog W "internal/strconv.uint64pow10" Rows.laid_internal_strconv_uint64pow10) : Pows W := by
  have e : (Rows.laid_internal_strconv_uint64pow10 : DataW Unit) = Lib.tabData .u64 Lib.pow10Tab := by kernel_rfl
  rw [e] at h
  have hg : Tryd.prog.globalNamed "internal/strconv.uint64pow10" = some 4 := by kernel_rfl
  have ht : (Tryd.prog.globals[4]?).map (·.type) = some 244 := by kernel_rfl
  obtain ⟨g', t', cs, fuel, p, hg', ht', hvar, hd⟩ := h
  obtain rfl := Option.some.inj (hg.symm.trans hg')
  obtain rfl := Option.some.inj (ht.symm.trans ht')
  unfold Pows Lib.TabIs
  rw [hvar, ← cells_of_tab Tryd.underlying244 Tryd.underlying121 (by kernel_rfl) (by kernel_rfl) hd]
end Go.Proofs.YtfefcfjedlidnaaDoor.Ito
