/-
  Closed facts on the program that every row's proof wants, each reckoned once and by itself (together they want more memory than there is).
-/
import Derived.Test.YtflcbbikfdahhaaDoorRows
import Derived.SevenTiedAt
import Derived.JoinedOf
namespace Go.Proofs.YtflcbbikfdahhaaDoor
open Go
set_option linter.unusedSimpArgs false
set_option linter.unusedVariables false

theorem kf_laid : laidOutB Tryd.pinned.checked.prog = true := by kernel_rfl
theorem kf_maps : mapsRowed Tryd.pinned.checked.prog = true := by kernel_rfl
theorem kf_heard : Tryd.pinned.checked.prog.stopsHeard = true := by kernel_rfl
theorem kf_keys : Tryd.pinned.checked.prog.plainKeys = Rows.truthOfNegationRow.plainKeys := by kernel_rfl
theorem kf_looks : false = Tryd.pinned.checked.prog.looks [] := by kernel_rfl

end Go.Proofs.YtflcbbikfdahhaaDoor
