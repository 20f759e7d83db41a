/-
  A closed fact on the program that every row's proof wants.
-/
import Derived.Test.YtflcbbikfdahhaaDoorRows
import Derived.SevenTiedAt
import Derived.JoinedOf
namespace Go.Proofs.YtflcbbikfdahhaaDoor
open Go
set_option linter.unusedSimpArgs false
set_option linter.unusedVariables false

theorem kf_make : Tryd.pinned.checked.prog.make = some Rows.truthOfNegationRow.make := by kernel_rfl

end Go.Proofs.YtflcbbikfdahhaaDoor
