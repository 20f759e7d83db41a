/-
  DERIVED. GIVEN WITH THE SEED: THE PROGRAM's TIES (one call each: nine closed facts by the kernel) AND EACH ROW's TIE, after the 31st guide's Derived/Test/Toyas{Tie, Card}.lean. No idea stands in it: it is a product of the set-up. Laid BY PROGRAM, IN A SANDBOX (cutbox-door.mjs). By AI agents, Wed Nov 11 2026. No macro, syntax, notation, axiom, sorry.
-/
import Derived.Test.YtflcbbikfdahhaaDoorRows
import Derived.LaidByTextLater
import Derived.SevenTiedAt
import Derived.LaidSub
import Derived.LaidOnce
namespace Go.Proofs.YtflcbbikfdahhaaDoor
open Go
set_option maxRecDepth 100000
theorem seatTie1 : Tryd.prog.laidByTextLater [("math/bits.deBruijn32tab", Rows.laid_math_bits_deBruijn32tab), ("math/bits.deBruijn64tab", Rows.laid_math_bits_deBruijn64tab), ("internal/strconv.uint64pow10", Rows.laid_internal_strconv_uint64pow10), ("glosswright/normalform.dual", Rows.laid_glosswright_normalform_dual), ("glosswright/glosswrightlaw1.none", Rows.laid_glosswright_glosswrightlaw1_none)] [.data, .data, .data, .mapped, .data] true :=
  Program.laidByTextLater_by_one 54 8 65 (by kernel_rfl) (by kernel_rfl) (by kernel_rfl) (by kernel_rfl) (by kernel_rfl) (by kernel_rfl) (fun _ _ => by kernel_rfl)
theorem noOwnUnsafe : Tryd.pinned.checked.prog.headLifts.contains "ownunsafe" = false := by kernel_rfl
theorem tie : Tryd.prog.laidByTextLater [("glosswright/glosswrightlaw1.none", Rows.laid_glosswright_glosswrightlaw1_none)] [.data] true :=
  Program.laidByTextLater.sub seatTie1 ["glosswright/glosswrightlaw1.none"] (by kernel_rfl) (by kernel_rfl)
theorem truthMatchesSpec_row_tie : Rows.truthMatchesSpecRow.laidByTextAt .later Tryd.pinned [.data] true :=
  OpenClaim.laidByTextAt_later rfl rfl tie noOwnUnsafe
theorem truthOfNegation_row_tie : Rows.truthOfNegationRow.laidByTextAt .later Tryd.pinned [.data] true :=
  OpenClaim.laidByTextAt_later rfl rfl tie noOwnUnsafe
theorem truthWitnessesMatchSpec_row_tie : Rows.truthWitnessesMatchSpecRow.laidByTextAt .later Tryd.pinned [.data] true :=
  OpenClaim.laidByTextAt_later rfl rfl tie noOwnUnsafe
theorem truthRenameMatchesSpec_row_tie : Rows.truthRenameMatchesSpecRow.laidByTextAt .later Tryd.pinned [.data] true :=
  OpenClaim.laidByTextAt_later rfl rfl tie noOwnUnsafe
theorem tie2 : Tryd.prog.laidByTextLater [("math/bits.deBruijn32tab", Rows.laid_math_bits_deBruijn32tab), ("math/bits.deBruijn64tab", Rows.laid_math_bits_deBruijn64tab), ("internal/strconv.uint64pow10", Rows.laid_internal_strconv_uint64pow10), ("glosswright/normalform.dual", Rows.laid_glosswright_normalform_dual), ("glosswright/glosswrightlaw1.none", Rows.laid_glosswright_glosswrightlaw1_none)] [.data, .data, .data, .mapped, .data] true :=
  Program.laidByTextLater.sub seatTie1 ["math/bits.deBruijn32tab", "math/bits.deBruijn64tab", "internal/strconv.uint64pow10", "glosswright/normalform.dual", "glosswright/glosswrightlaw1.none"] (by kernel_rfl) (by kernel_rfl)
theorem normalformNegativeMatchesSpec_row_tie : Rows.normalformNegativeMatchesSpecRow.laidByTextAt .later Tryd.pinned [.data, .data, .data, .mapped, .data] true :=
  OpenClaim.laidByTextAt_later rfl rfl tie2 noOwnUnsafe
theorem normalformOfNegation_row_tie : Rows.normalformOfNegationRow.laidByTextAt .later Tryd.pinned [.data, .data, .data, .mapped, .data] true :=
  OpenClaim.laidByTextAt_later rfl rfl tie2 noOwnUnsafe
theorem normalformPrenexMatchesSpec_row_tie : Rows.normalformPrenexMatchesSpecRow.laidByTextAt .later Tryd.pinned [.data, .data, .data, .mapped, .data] true :=
  OpenClaim.laidByTextAt_later rfl rfl tie2 noOwnUnsafe
theorem normalformNarrowMatchesSpec_row_tie : Rows.normalformNarrowMatchesSpecRow.laidByTextAt .later Tryd.pinned [.data, .data, .data, .mapped, .data] true :=
  OpenClaim.laidByTextAt_later rfl rfl tie2 noOwnUnsafe
theorem normalformShapes_row_tie : Rows.normalformShapesRow.laidByTextAt .later Tryd.pinned [.data, .data, .data, .mapped, .data] true :=
  OpenClaim.laidByTextAt_later rfl rfl tie2 noOwnUnsafe
theorem normalformKeepsTruth_row_tie : Rows.normalformKeepsTruthRow.laidByTextAt .later Tryd.pinned [.data, .data, .data, .mapped, .data] true :=
  OpenClaim.laidByTextAt_later rfl rfl tie2 noOwnUnsafe
theorem tie3 : Tryd.prog.laidByTextLater [("math/bits.deBruijn32tab", Rows.laid_math_bits_deBruijn32tab), ("math/bits.deBruijn64tab", Rows.laid_math_bits_deBruijn64tab), ("internal/strconv.uint64pow10", Rows.laid_internal_strconv_uint64pow10), ("glosswright/glosswrightlaw1.none", Rows.laid_glosswright_glosswrightlaw1_none)] [.data, .data, .data, .data] true :=
  Program.laidByTextLater.sub seatTie1 ["math/bits.deBruijn32tab", "math/bits.deBruijn64tab", "internal/strconv.uint64pow10", "glosswright/glosswrightlaw1.none"] (by kernel_rfl) (by kernel_rfl)
theorem truthOfCanonical_row_tie : Rows.truthOfCanonicalRow.laidByTextAt .later Tryd.pinned [.data, .data, .data, .data] true :=
  OpenClaim.laidByTextAt_later rfl rfl tie3 noOwnUnsafe
theorem truthOfInstances_row_tie : Rows.truthOfInstancesRow.laidByTextAt .later Tryd.pinned [.data, .data, .data, .data] true :=
  OpenClaim.laidByTextAt_later rfl rfl tie3 noOwnUnsafe
theorem truthMatchesSpecUpto_row_tie : Rows.truthMatchesSpecUptoRow.laidByTextAt .later Tryd.pinned [.data] true :=
  OpenClaim.laidByTextAt_later rfl rfl tie noOwnUnsafe
theorem truthOfNegationUpto_row_tie : Rows.truthOfNegationUptoRow.laidByTextAt .later Tryd.pinned [.data] true :=
  OpenClaim.laidByTextAt_later rfl rfl tie noOwnUnsafe
theorem truthWitnessesMatchSpecUpto_row_tie : Rows.truthWitnessesMatchSpecUptoRow.laidByTextAt .later Tryd.pinned [.data] true :=
  OpenClaim.laidByTextAt_later rfl rfl tie noOwnUnsafe
theorem normalformNegativeMatchesSpecUpto_row_tie : Rows.normalformNegativeMatchesSpecUptoRow.laidByTextAt .later Tryd.pinned [.data, .data, .data, .mapped, .data] true :=
  OpenClaim.laidByTextAt_later rfl rfl tie2 noOwnUnsafe
theorem normalformOfNegationUpto_row_tie : Rows.normalformOfNegationUptoRow.laidByTextAt .later Tryd.pinned [.data, .data, .data, .mapped, .data] true :=
  OpenClaim.laidByTextAt_later rfl rfl tie2 noOwnUnsafe
theorem normalformPrenexMatchesSpecUpto_row_tie : Rows.normalformPrenexMatchesSpecUptoRow.laidByTextAt .later Tryd.pinned [.data, .data, .data, .mapped, .data] true :=
  OpenClaim.laidByTextAt_later rfl rfl tie2 noOwnUnsafe
theorem normalformNarrowMatchesSpecUpto_row_tie : Rows.normalformNarrowMatchesSpecUptoRow.laidByTextAt .later Tryd.pinned [.data, .data, .data, .mapped, .data] true :=
  OpenClaim.laidByTextAt_later rfl rfl tie2 noOwnUnsafe
theorem normalformShapesUpto_row_tie : Rows.normalformShapesUptoRow.laidByTextAt .later Tryd.pinned [.data, .data, .data, .mapped, .data] true :=
  OpenClaim.laidByTextAt_later rfl rfl tie2 noOwnUnsafe
theorem truthOfCanonicalUpto_row_tie : Rows.truthOfCanonicalUptoRow.laidByTextAt .later Tryd.pinned [.data, .data, .data, .data] true :=
  OpenClaim.laidByTextAt_later rfl rfl tie3 noOwnUnsafe
theorem truthOfInstancesUpto_row_tie : Rows.truthOfInstancesUptoRow.laidByTextAt .later Tryd.pinned [.data, .data, .data, .data] true :=
  OpenClaim.laidByTextAt_later rfl rfl tie3 noOwnUnsafe
theorem truthRenameMatchesSpecUpto_row_tie : Rows.truthRenameMatchesSpecUptoRow.laidByTextAt .later Tryd.pinned [.data] true :=
  OpenClaim.laidByTextAt_later rfl rfl tie noOwnUnsafe
theorem normalformKeepsTruthUpto_row_tie : Rows.normalformKeepsTruthUptoRow.laidByTextAt .later Tryd.pinned [.data, .data, .data, .mapped, .data] true :=
  OpenClaim.laidByTextAt_later rfl rfl tie2 noOwnUnsafe
end Go.Proofs.YtflcbbikfdahhaaDoor
