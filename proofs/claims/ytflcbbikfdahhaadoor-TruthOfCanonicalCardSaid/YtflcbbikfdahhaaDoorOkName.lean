/-
  Names (term.Name), in plain words. Nothing here names the program.
-/
import Derived.Test.YtflcbbikfdahhaaDoorReps
namespace Go.Proofs.YtflcbbikfdahhaaDoor
open Go Go.RowKit
set_option linter.unusedSimpArgs false
set_option linter.unusedVariables false

/-! ### Names -/

def isLow (c : UInt8) : Bool := decide (97 ≤ c.toNat) && decide (c.toNat ≤ 122)
def isOther (c : UInt8) : Bool := (decide (48 ≤ c.toNat) && decide (c.toNat ≤ 57)) || decide (c.toNat = 95) || decide (c.toNat = 45)
/-- Is it a name? -/
def okName (s : ByteArray) : Bool := decide (1 ≤ s.size) && decide (s.size ≤ 30) && isLow (s.data.toList.headD 0) && s.data.toList.all (fun c => isLow c || isOther c)

end Go.Proofs.YtflcbbikfdahhaaDoor
