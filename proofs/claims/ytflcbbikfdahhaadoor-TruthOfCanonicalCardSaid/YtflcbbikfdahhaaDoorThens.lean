/-
  Ways out of parts. Nothing here names the program.
-/
import Derived.Test.YtflcbbikfdahhaaDoorParts
namespace Go.Proofs.YtflcbbikfdahhaaDoor
open Go Go.RowKit
set_option linter.unusedSimpArgs false
set_option linter.unusedVariables false

/-- A part that was stated for its normal exit alone. -/
theorem wp_thenQ {P : Program} {c : Code} {Q : Exit → Act → World → Prop} {a : Act} {w : World} (h : Code.wp P c (Exit.then (fun a' w' => Q .normal a' w') (fun _ _ _ => False)) a w) : Code.wp P c Q a w :=
  Code.wp_mono (fun e a' w' hh => by cases e with | normal => exact hh | _ => exact hh.elim) h
theorem thenR {K : Act → World → Prop} {Q : Exit → Act → World → Prop} {a : Act} {w : World} (h : Q .ret a w) : Exit.then K Q .ret a w := h
theorem inBlockR {k : Nat} {Q : Exit → Act → World → Prop} {a : Act} {w : World} (h : Q .ret a w) : Exit.inBlock k Q .ret a w := h
/-- What follows, laid once for several ways to it. -/
theorem wp_via {P : Program} {c : Code} {K : Act → World → Prop} {Q : Exit → Act → World → Prop} {a : Act} {w : World} (C : Act → World → Prop) (hK : ∀ a' w', C a' w' → K a' w') (h : (∀ a' w', C a' w' → K a' w') → Code.wp P c (Exit.then K Q) a w) : Code.wp P c (Exit.then K Q) a w := h hK

end Go.Proofs.YtflcbbikfdahhaaDoor
