/-
  A closed fact on the program that every row's proof wants.
-/
import Derived.Test.YtflcbbikfdahhaaDoorRows
import Derived.SevenTiedAt
import Derived.JoinedOf
namespace Go.Proofs.YtflcbbikfdahhaaDoor
open Go
set_option linter.unusedSimpArgs false
set_option linter.unusedVariables false

theorem kf_main : Tryd.pinned.checked.prog.mainIs = some (true, "91bc5d48d26aee418614a19e6e44f329f5fa5bd73b5e9d215a883cea40c1085e".toList) := by kernel_rfl

end Go.Proofs.YtflcbbikfdahhaaDoor
