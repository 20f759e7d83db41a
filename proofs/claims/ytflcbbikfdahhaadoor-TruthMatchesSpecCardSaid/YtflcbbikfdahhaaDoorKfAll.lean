/-
  Closed facts on the program that every row's proof wants, each a theorem of its own.
-/
import Derived.Test.YtflcbbikfdahhaaDoorRows
import Derived.SevenTiedAt
import Derived.JoinedOf
namespace Go.Proofs.YtflcbbikfdahhaaDoor
open Go
set_option linter.unusedSimpArgs false
set_option linter.unusedVariables false

theorem kf_laid : laidOutB Tryd.pinned.checked.prog = true := by kernel_rfl
theorem kf_maps : mapsRowed Tryd.pinned.checked.prog = true := by kernel_rfl
theorem kf_heard : Tryd.pinned.checked.prog.stopsHeard = true := by kernel_rfl
theorem kf_keys : Tryd.pinned.checked.prog.plainKeys = Rows.truthOfNegationRow.plainKeys := by kernel_rfl
theorem kf_looks : false = Tryd.pinned.checked.prog.looks [] := by kernel_rfl
theorem kf_enter : Tryd.pinned.checked.prog.mayEnter = true := by kernel_rfl
theorem kf_lift : Tryd.pinned.checked.prog.liftsFinal = Rows.truthOfNegationRow.lifted := by kernel_rfl
theorem kf_make : Tryd.pinned.checked.prog.make = some Rows.truthOfNegationRow.make := by kernel_rfl
theorem kf_main : Tryd.pinned.checked.prog.mainIs = some (true, "91bc5d48d26aee418614a19e6e44f329f5fa5bd73b5e9d215a883cea40c1085e".toList) := by kernel_rfl

end Go.Proofs.YtflcbbikfdahhaaDoor
