/- strings.asciiSpace read out of the row's list -/
import Derived.Test.YtbgiiijdabpbcaaDoorCallTie
import Derived.Test.YtbgiiijdabpbcaaDoorCallReads
namespace Go.Proofs.YtbgiiijdabpbcaaDoor
open Go.ChangeShapes Go.WideShapes Go.ChangeAt Go.RowKit
set_option linter.unusedVariables false
set_option maxRecDepth 100000

theorem sp_reads {W : World} (h : Lib.VarReads Tryd.prog W "strings.asciiSpace" Rows.laid_strings_asciiSpace) : Spaces W := by
  obtain ⟨g, t, cs, fuel, p, hg, ht, hv, hd⟩ := h
  obtain ⟨g', hg'⟩ : ∃ g', Tryd.prog.globalNamed "strings.asciiSpace" = some g' := ⟨(Tryd.prog.globalNamed "strings.asciiSpace").getD 0, by kernel_rfl⟩
  obtain rfl := Option.some.inj (hg'.symm.trans hg)
  have e : Rows.laid_strings_asciiSpace = (Lib.tabData .u8 Lib.asciiSpaceTab : DataW Unit) := by kernel_rfl
  rw [e] at hd
  have ht2 : (Tryd.prog.globals[g']?).map (·.type) = some 84 := by
    obtain rfl := Option.some.inj ((show Tryd.prog.globalNamed "strings.asciiSpace" = some ((Tryd.prog.globalNamed "strings.asciiSpace").getD 0) by kernel_rfl).symm.trans hg')
    kernel_rfl
  obtain rfl := Option.some.inj (ht2.symm.trans ht)
  unfold Spaces Lib.TabIs
  rw [hv, ← Lib.cells_of_tab Tryd.underlying84 Tryd.underlying5 (by kernel_rfl) (by kernel_rfl) hd]

end Go.Proofs.YtbgiiijdabpbcaaDoor
