/-
  NARROWER THAN 'FOR EVERY INPUT', by the rows' own cells (each row's printed sentence says how): TruthMatchesSpec: loops, laid · TruthOfNegation: loops, laid · TruthWitnessesMatchSpec: loops, laid · NormalformNegativeMatchesSpec: loops, laid · NormalformOfNegation: loops, laid · NormalformPrenexMatchesSpec: loops, laid · NormalformNarrowMatchesSpec: loops, laid · NormalformShapes: loops, laid · TruthOfCanonical: loops, laid · TruthOfInstances: loops, laid · TruthRenameMatchesSpec: loops, laid · NormalformKeepsTruth: loops, laid.
  DERIVED. THE GIVEN ROWS OF THIS SEAT. 12 by the template 'for every input the law returns true; each argument reads behind the call as it read before'; 0 by the template 'total and deterministic' (their statements: YtflcbbikfdahhaaDoorTotals.lean).
  GIVEN WITH THE SEED: the statements are not yours to turn. If you find one false, say at which input.
  Laid BY PROGRAM, IN A SANDBOX (cutbox-rows.mjs): the forced cells as the released guide's own fill.sh prints them over the translation c4469568b037b9d5… (all of the seat's roots in one cut). By AI agents, Wed Nov 11 2026. No macro, syntax, notation, axiom, sorry.
-/
import Derived.Test.YtflcbbikfdahhaaDoorChecked
import GoSem.Claim
import GoSem.ClaimJoined
import GoSem.ClaimMapViews
import Derived.JoinedTies
import Derived.KernelRfl
namespace Go.Proofs.YtflcbbikfdahhaaDoor
/- THE CELL 'sum', in the pinned program and in every row, IS THE sha256 OF THE DUMP (.gsa) THAT YtflcbbikfdahhaaDoorProg.lean LOADS. Nothing in Lean hashes anything: it is a label: what it is worth is what the hold of that sum in a sandbox is worth. -/
noncomputable def Tryd.pinned : Pinned := { name := "ytflcbbikfdahhaadoor", sum := "c4469568b037b9d50629b6ab17bb8ea13abcc5c37d59da6034a686340d9644f8", checked := Tryd.checked }
namespace Rows
def none {H : Type} : Left H := { results := [], args := [] }

/- WHAT THE LISTED PACKAGE-LEVEL VARIABLES READ AS WHEN THE CALL BEGINS. Each datum BY PROGRAM (the guide's laid-datum.mjs) off the statement by which the dump's own 'gosem.cut.vars' lays the variable. In a bare row this is a premise. The card (YtflcbbikfdahhaaDoorCards.lean) ties it to the program's text. -/
def laid_glosswright_glosswrightlaw1_none {H : Type} : DataW H := .agg [.lit (.int .i64 0), .lit (.int .i64 0)]
def laid_math_bits_deBruijn32tab {H : Type} : DataW H := .agg [.lit (.int .u8 0), .lit (.int .u8 1), .lit (.int .u8 28), .lit (.int .u8 2), .lit (.int .u8 29), .lit (.int .u8 14), .lit (.int .u8 24), .lit (.int .u8 3), .lit (.int .u8 30), .lit (.int .u8 22), .lit (.int .u8 20), .lit (.int .u8 15), .lit (.int .u8 25), .lit (.int .u8 17), .lit (.int .u8 4), .lit (.int .u8 8), .lit (.int .u8 31), .lit (.int .u8 27), .lit (.int .u8 13), .lit (.int .u8 23), .lit (.int .u8 21), .lit (.int .u8 19), .lit (.int .u8 16), .lit (.int .u8 7), .lit (.int .u8 26), .lit (.int .u8 12), .lit (.int .u8 18), .lit (.int .u8 6), .lit (.int .u8 11), .lit (.int .u8 5), .lit (.int .u8 10), .lit (.int .u8 9)]
def laid_math_bits_deBruijn64tab {H : Type} : DataW H := .agg [.lit (.int .u8 0), .lit (.int .u8 1), .lit (.int .u8 56), .lit (.int .u8 2), .lit (.int .u8 57), .lit (.int .u8 49), .lit (.int .u8 28), .lit (.int .u8 3), .lit (.int .u8 61), .lit (.int .u8 58), .lit (.int .u8 42), .lit (.int .u8 50), .lit (.int .u8 38), .lit (.int .u8 29), .lit (.int .u8 17), .lit (.int .u8 4), .lit (.int .u8 62), .lit (.int .u8 47), .lit (.int .u8 59), .lit (.int .u8 36), .lit (.int .u8 45), .lit (.int .u8 43), .lit (.int .u8 51), .lit (.int .u8 22), .lit (.int .u8 53), .lit (.int .u8 39), .lit (.int .u8 33), .lit (.int .u8 30), .lit (.int .u8 24), .lit (.int .u8 18), .lit (.int .u8 12), .lit (.int .u8 5), .lit (.int .u8 63), .lit (.int .u8 55), .lit (.int .u8 48), .lit (.int .u8 27), .lit (.int .u8 60), .lit (.int .u8 41), .lit (.int .u8 37), .lit (.int .u8 16), .lit (.int .u8 46), .lit (.int .u8 35), .lit (.int .u8 44), .lit (.int .u8 21), .lit (.int .u8 52), .lit (.int .u8 32), .lit (.int .u8 23), .lit (.int .u8 11), .lit (.int .u8 54), .lit (.int .u8 26), .lit (.int .u8 40), .lit (.int .u8 15), .lit (.int .u8 34), .lit (.int .u8 20), .lit (.int .u8 31), .lit (.int .u8 10), .lit (.int .u8 25), .lit (.int .u8 14), .lit (.int .u8 19), .lit (.int .u8 9), .lit (.int .u8 13), .lit (.int .u8 8), .lit (.int .u8 7), .lit (.int .u8 6)]
def laid_internal_strconv_uint64pow10 {H : Type} : DataW H := .agg [.lit (.int .u64 1), .lit (.int .u64 10), .lit (.int .u64 100), .lit (.int .u64 1000), .lit (.int .u64 10000), .lit (.int .u64 100000), .lit (.int .u64 1000000), .lit (.int .u64 10000000), .lit (.int .u64 100000000), .lit (.int .u64 1000000000), .lit (.int .u64 10000000000), .lit (.int .u64 100000000000), .lit (.int .u64 1000000000000), .lit (.int .u64 10000000000000), .lit (.int .u64 100000000000000), .lit (.int .u64 1000000000000000), .lit (.int .u64 10000000000000000), .lit (.int .u64 100000000000000000), .lit (.int .u64 1000000000000000000), .lit (.int .u64 10000000000000000000)]
def laid_glosswright_normalform_dual {H : Type} : DataW H := .map [(.int .i64 5, .lit (.int .i64 6)), (.int .i64 6, .lit (.int .i64 5)), (.int .i64 8, .lit (.int .i64 9)), (.int .i64 9, .lit (.int .i64 8))]

/-- 'glosswrightlaw1.TruthMatchesSpec': WHATEVER THE INPUT: true; the input reads as it did. -/
def truthMatchesSpecSpec : ChangeSpec := { name := "truthMatchesSpec", fn := fun _ => fun
  | [d1, d2] => { results := [.lit (.bool true)], args := [d1, d2] }
  | _ => none }
def truthMatchesSpecRow : OpenClaim := { program := "ytflcbbikfdahhaadoor", sum := "c4469568b037b9d50629b6ab17bb8ea13abcc5c37d59da6034a686340d9644f8", func := "glosswright/glosswrightlaw1.TruthMatchesSpec", spec := "truthMatchesSpec", unfollowed := true, recurses := true, named := ["glosswright/glosswrightlaw1.none"], loops := true, apart := false, laid := [("glosswright/glosswrightlaw1.none", laid_glosswright_glosswrightlaw1_none)] }
def TruthMatchesSpecSaid : Prop := truthMatchesSpecRow.holds Tryd.pinned (OpenSpec.ofChange truthMatchesSpecSpec)

/-- ITS FALSE NEIGHBOUR: 'it returns false'. Refute it at one input. -/
def truthMatchesSpecWrong : ChangeSpec := { name := "truthMatchesSpec", fn := fun _ => fun
  | [d1, d2] => { results := [.lit (.bool false)], args := [d1, d2] }
  | _ => none }
def TruthMatchesSpecWrongFalsely : Prop := truthMatchesSpecRow.holds Tryd.pinned (OpenSpec.ofChange truthMatchesSpecWrong)

/-- 'glosswrightlaw1.TruthOfNegation': WHATEVER THE INPUT: true; the input reads as it did. -/
def truthOfNegationSpec : ChangeSpec := { name := "truthOfNegation", fn := fun _ => fun
  | [d1, d2] => { results := [.lit (.bool true)], args := [d1, d2] }
  | _ => none }
def truthOfNegationRow : OpenClaim := { program := "ytflcbbikfdahhaadoor", sum := "c4469568b037b9d50629b6ab17bb8ea13abcc5c37d59da6034a686340d9644f8", func := "glosswright/glosswrightlaw1.TruthOfNegation", spec := "truthOfNegation", unfollowed := true, recurses := true, named := ["glosswright/glosswrightlaw1.none"], loops := true, apart := false, laid := [("glosswright/glosswrightlaw1.none", laid_glosswright_glosswrightlaw1_none)] }
def TruthOfNegationSaid : Prop := truthOfNegationRow.holds Tryd.pinned (OpenSpec.ofChange truthOfNegationSpec)

/-- ITS FALSE NEIGHBOUR: 'it returns false'. Refute it at one input. -/
def truthOfNegationWrong : ChangeSpec := { name := "truthOfNegation", fn := fun _ => fun
  | [d1, d2] => { results := [.lit (.bool false)], args := [d1, d2] }
  | _ => none }
def TruthOfNegationWrongFalsely : Prop := truthOfNegationRow.holds Tryd.pinned (OpenSpec.ofChange truthOfNegationWrong)

/-- 'glosswrightlaw1.TruthWitnessesMatchSpec': WHATEVER THE INPUT: true; the input reads as it did. -/
def truthWitnessesMatchSpecSpec : ChangeSpec := { name := "truthWitnessesMatchSpec", fn := fun _ => fun
  | [d1, d2] => { results := [.lit (.bool true)], args := [d1, d2] }
  | _ => none }
def truthWitnessesMatchSpecRow : OpenClaim := { program := "ytflcbbikfdahhaadoor", sum := "c4469568b037b9d50629b6ab17bb8ea13abcc5c37d59da6034a686340d9644f8", func := "glosswright/glosswrightlaw1.TruthWitnessesMatchSpec", spec := "truthWitnessesMatchSpec", unfollowed := true, recurses := true, named := ["glosswright/glosswrightlaw1.none"], loops := true, apart := false, laid := [("glosswright/glosswrightlaw1.none", laid_glosswright_glosswrightlaw1_none)] }
def TruthWitnessesMatchSpecSaid : Prop := truthWitnessesMatchSpecRow.holds Tryd.pinned (OpenSpec.ofChange truthWitnessesMatchSpecSpec)

/-- ITS FALSE NEIGHBOUR: 'it returns false'. Refute it at one input. -/
def truthWitnessesMatchSpecWrong : ChangeSpec := { name := "truthWitnessesMatchSpec", fn := fun _ => fun
  | [d1, d2] => { results := [.lit (.bool false)], args := [d1, d2] }
  | _ => none }
def TruthWitnessesMatchSpecWrongFalsely : Prop := truthWitnessesMatchSpecRow.holds Tryd.pinned (OpenSpec.ofChange truthWitnessesMatchSpecWrong)

/-- 'glosswrightlaw1.NormalformNegativeMatchesSpec': WHATEVER THE INPUT: true; the input reads as it did. -/
def normalformNegativeMatchesSpecSpec : ChangeSpec := { name := "normalformNegativeMatchesSpec", fn := fun _ => fun
  | [d] => { results := [.lit (.bool true)], args := [d] }
  | _ => none }
def normalformNegativeMatchesSpecRow : OpenClaim := { program := "ytflcbbikfdahhaadoor", sum := "c4469568b037b9d50629b6ab17bb8ea13abcc5c37d59da6034a686340d9644f8", func := "glosswright/glosswrightlaw1.NormalformNegativeMatchesSpec", spec := "normalformNegativeMatchesSpec", unfollowed := true, recurses := true, named := ["glosswright/glosswrightlaw1.none", "glosswright/normalform.dual", "internal/strconv.uint64pow10", "math/bits.deBruijn32tab", "math/bits.deBruijn64tab"], loops := true, apart := false, laid := [("math/bits.deBruijn32tab", laid_math_bits_deBruijn32tab), ("math/bits.deBruijn64tab", laid_math_bits_deBruijn64tab), ("internal/strconv.uint64pow10", laid_internal_strconv_uint64pow10), ("glosswright/normalform.dual", laid_glosswright_normalform_dual), ("glosswright/glosswrightlaw1.none", laid_glosswright_glosswrightlaw1_none)] }
def NormalformNegativeMatchesSpecSaid : Prop := normalformNegativeMatchesSpecRow.holds Tryd.pinned (OpenSpec.ofChange normalformNegativeMatchesSpecSpec)

/-- ITS FALSE NEIGHBOUR: 'it returns false'. Refute it at one input. -/
def normalformNegativeMatchesSpecWrong : ChangeSpec := { name := "normalformNegativeMatchesSpec", fn := fun _ => fun
  | [d] => { results := [.lit (.bool false)], args := [d] }
  | _ => none }
def NormalformNegativeMatchesSpecWrongFalsely : Prop := normalformNegativeMatchesSpecRow.holds Tryd.pinned (OpenSpec.ofChange normalformNegativeMatchesSpecWrong)

/-- 'glosswrightlaw1.NormalformOfNegation': WHATEVER THE INPUT: true; the input reads as it did. -/
def normalformOfNegationSpec : ChangeSpec := { name := "normalformOfNegation", fn := fun _ => fun
  | [d] => { results := [.lit (.bool true)], args := [d] }
  | _ => none }
def normalformOfNegationRow : OpenClaim := { program := "ytflcbbikfdahhaadoor", sum := "c4469568b037b9d50629b6ab17bb8ea13abcc5c37d59da6034a686340d9644f8", func := "glosswright/glosswrightlaw1.NormalformOfNegation", spec := "normalformOfNegation", unfollowed := true, recurses := true, named := ["glosswright/glosswrightlaw1.none", "glosswright/normalform.dual", "internal/strconv.uint64pow10", "math/bits.deBruijn32tab", "math/bits.deBruijn64tab"], loops := true, apart := false, laid := [("math/bits.deBruijn32tab", laid_math_bits_deBruijn32tab), ("math/bits.deBruijn64tab", laid_math_bits_deBruijn64tab), ("internal/strconv.uint64pow10", laid_internal_strconv_uint64pow10), ("glosswright/normalform.dual", laid_glosswright_normalform_dual), ("glosswright/glosswrightlaw1.none", laid_glosswright_glosswrightlaw1_none)] }
def NormalformOfNegationSaid : Prop := normalformOfNegationRow.holds Tryd.pinned (OpenSpec.ofChange normalformOfNegationSpec)

/-- ITS FALSE NEIGHBOUR: 'it returns false'. Refute it at one input. -/
def normalformOfNegationWrong : ChangeSpec := { name := "normalformOfNegation", fn := fun _ => fun
  | [d] => { results := [.lit (.bool false)], args := [d] }
  | _ => none }
def NormalformOfNegationWrongFalsely : Prop := normalformOfNegationRow.holds Tryd.pinned (OpenSpec.ofChange normalformOfNegationWrong)

/-- 'glosswrightlaw1.NormalformPrenexMatchesSpec': WHATEVER THE INPUT: true; the input reads as it did. -/
def normalformPrenexMatchesSpecSpec : ChangeSpec := { name := "normalformPrenexMatchesSpec", fn := fun _ => fun
  | [d] => { results := [.lit (.bool true)], args := [d] }
  | _ => none }
def normalformPrenexMatchesSpecRow : OpenClaim := { program := "ytflcbbikfdahhaadoor", sum := "c4469568b037b9d50629b6ab17bb8ea13abcc5c37d59da6034a686340d9644f8", func := "glosswright/glosswrightlaw1.NormalformPrenexMatchesSpec", spec := "normalformPrenexMatchesSpec", unfollowed := true, recurses := true, named := ["glosswright/glosswrightlaw1.none", "glosswright/normalform.dual", "internal/strconv.uint64pow10", "math/bits.deBruijn32tab", "math/bits.deBruijn64tab"], loops := true, apart := false, laid := [("math/bits.deBruijn32tab", laid_math_bits_deBruijn32tab), ("math/bits.deBruijn64tab", laid_math_bits_deBruijn64tab), ("internal/strconv.uint64pow10", laid_internal_strconv_uint64pow10), ("glosswright/normalform.dual", laid_glosswright_normalform_dual), ("glosswright/glosswrightlaw1.none", laid_glosswright_glosswrightlaw1_none)] }
def NormalformPrenexMatchesSpecSaid : Prop := normalformPrenexMatchesSpecRow.holds Tryd.pinned (OpenSpec.ofChange normalformPrenexMatchesSpecSpec)

/-- ITS FALSE NEIGHBOUR: 'it returns false'. Refute it at one input. -/
def normalformPrenexMatchesSpecWrong : ChangeSpec := { name := "normalformPrenexMatchesSpec", fn := fun _ => fun
  | [d] => { results := [.lit (.bool false)], args := [d] }
  | _ => none }
def NormalformPrenexMatchesSpecWrongFalsely : Prop := normalformPrenexMatchesSpecRow.holds Tryd.pinned (OpenSpec.ofChange normalformPrenexMatchesSpecWrong)

/-- 'glosswrightlaw1.NormalformNarrowMatchesSpec': WHATEVER THE INPUT: true; the input reads as it did. -/
def normalformNarrowMatchesSpecSpec : ChangeSpec := { name := "normalformNarrowMatchesSpec", fn := fun _ => fun
  | [d] => { results := [.lit (.bool true)], args := [d] }
  | _ => none }
def normalformNarrowMatchesSpecRow : OpenClaim := { program := "ytflcbbikfdahhaadoor", sum := "c4469568b037b9d50629b6ab17bb8ea13abcc5c37d59da6034a686340d9644f8", func := "glosswright/glosswrightlaw1.NormalformNarrowMatchesSpec", spec := "normalformNarrowMatchesSpec", unfollowed := true, recurses := true, named := ["glosswright/glosswrightlaw1.none", "glosswright/normalform.dual", "internal/strconv.uint64pow10", "math/bits.deBruijn32tab", "math/bits.deBruijn64tab"], loops := true, apart := false, laid := [("math/bits.deBruijn32tab", laid_math_bits_deBruijn32tab), ("math/bits.deBruijn64tab", laid_math_bits_deBruijn64tab), ("internal/strconv.uint64pow10", laid_internal_strconv_uint64pow10), ("glosswright/normalform.dual", laid_glosswright_normalform_dual), ("glosswright/glosswrightlaw1.none", laid_glosswright_glosswrightlaw1_none)] }
def NormalformNarrowMatchesSpecSaid : Prop := normalformNarrowMatchesSpecRow.holds Tryd.pinned (OpenSpec.ofChange normalformNarrowMatchesSpecSpec)

/-- ITS FALSE NEIGHBOUR: 'it returns false'. Refute it at one input. -/
def normalformNarrowMatchesSpecWrong : ChangeSpec := { name := "normalformNarrowMatchesSpec", fn := fun _ => fun
  | [d] => { results := [.lit (.bool false)], args := [d] }
  | _ => none }
def NormalformNarrowMatchesSpecWrongFalsely : Prop := normalformNarrowMatchesSpecRow.holds Tryd.pinned (OpenSpec.ofChange normalformNarrowMatchesSpecWrong)

/-- 'glosswrightlaw1.NormalformShapes': WHATEVER THE INPUT: true; the input reads as it did. -/
def normalformShapesSpec : ChangeSpec := { name := "normalformShapes", fn := fun _ => fun
  | [d] => { results := [.lit (.bool true)], args := [d] }
  | _ => none }
def normalformShapesRow : OpenClaim := { program := "ytflcbbikfdahhaadoor", sum := "c4469568b037b9d50629b6ab17bb8ea13abcc5c37d59da6034a686340d9644f8", func := "glosswright/glosswrightlaw1.NormalformShapes", spec := "normalformShapes", unfollowed := true, recurses := true, named := ["glosswright/glosswrightlaw1.none", "glosswright/normalform.dual", "internal/strconv.uint64pow10", "math/bits.deBruijn32tab", "math/bits.deBruijn64tab"], loops := true, apart := false, laid := [("math/bits.deBruijn32tab", laid_math_bits_deBruijn32tab), ("math/bits.deBruijn64tab", laid_math_bits_deBruijn64tab), ("internal/strconv.uint64pow10", laid_internal_strconv_uint64pow10), ("glosswright/normalform.dual", laid_glosswright_normalform_dual), ("glosswright/glosswrightlaw1.none", laid_glosswright_glosswrightlaw1_none)] }
def NormalformShapesSaid : Prop := normalformShapesRow.holds Tryd.pinned (OpenSpec.ofChange normalformShapesSpec)

/-- ITS FALSE NEIGHBOUR: 'it returns false'. Refute it at one input. -/
def normalformShapesWrong : ChangeSpec := { name := "normalformShapes", fn := fun _ => fun
  | [d] => { results := [.lit (.bool false)], args := [d] }
  | _ => none }
def NormalformShapesWrongFalsely : Prop := normalformShapesRow.holds Tryd.pinned (OpenSpec.ofChange normalformShapesWrong)

/-- 'glosswrightlaw1.TruthOfCanonical': WHATEVER THE INPUT: true; the input reads as it did. -/
def truthOfCanonicalSpec : ChangeSpec := { name := "truthOfCanonical", fn := fun _ => fun
  | [d1, d2] => { results := [.lit (.bool true)], args := [d1, d2] }
  | _ => none }
def truthOfCanonicalRow : OpenClaim := { program := "ytflcbbikfdahhaadoor", sum := "c4469568b037b9d50629b6ab17bb8ea13abcc5c37d59da6034a686340d9644f8", func := "glosswright/glosswrightlaw1.TruthOfCanonical", spec := "truthOfCanonical", unfollowed := true, recurses := true, named := ["glosswright/glosswrightlaw1.none", "internal/strconv.uint64pow10", "math/bits.deBruijn32tab", "math/bits.deBruijn64tab"], loops := true, apart := false, laid := [("math/bits.deBruijn32tab", laid_math_bits_deBruijn32tab), ("math/bits.deBruijn64tab", laid_math_bits_deBruijn64tab), ("internal/strconv.uint64pow10", laid_internal_strconv_uint64pow10), ("glosswright/glosswrightlaw1.none", laid_glosswright_glosswrightlaw1_none)] }
def TruthOfCanonicalSaid : Prop := truthOfCanonicalRow.holds Tryd.pinned (OpenSpec.ofChange truthOfCanonicalSpec)

/-- ITS FALSE NEIGHBOUR: 'it returns false'. Refute it at one input. -/
def truthOfCanonicalWrong : ChangeSpec := { name := "truthOfCanonical", fn := fun _ => fun
  | [d1, d2] => { results := [.lit (.bool false)], args := [d1, d2] }
  | _ => none }
def TruthOfCanonicalWrongFalsely : Prop := truthOfCanonicalRow.holds Tryd.pinned (OpenSpec.ofChange truthOfCanonicalWrong)

/-- 'glosswrightlaw1.TruthOfInstances': WHATEVER THE INPUT: true; the input reads as it did. -/
def truthOfInstancesSpec : ChangeSpec := { name := "truthOfInstances", fn := fun _ => fun
  | [d1, d2] => { results := [.lit (.bool true)], args := [d1, d2] }
  | _ => none }
def truthOfInstancesRow : OpenClaim := { program := "ytflcbbikfdahhaadoor", sum := "c4469568b037b9d50629b6ab17bb8ea13abcc5c37d59da6034a686340d9644f8", func := "glosswright/glosswrightlaw1.TruthOfInstances", spec := "truthOfInstances", unfollowed := true, recurses := true, named := ["glosswright/glosswrightlaw1.none", "internal/strconv.uint64pow10", "math/bits.deBruijn32tab", "math/bits.deBruijn64tab"], loops := true, apart := false, laid := [("math/bits.deBruijn32tab", laid_math_bits_deBruijn32tab), ("math/bits.deBruijn64tab", laid_math_bits_deBruijn64tab), ("internal/strconv.uint64pow10", laid_internal_strconv_uint64pow10), ("glosswright/glosswrightlaw1.none", laid_glosswright_glosswrightlaw1_none)] }
def TruthOfInstancesSaid : Prop := truthOfInstancesRow.holds Tryd.pinned (OpenSpec.ofChange truthOfInstancesSpec)

/-- ITS FALSE NEIGHBOUR: 'it returns false'. Refute it at one input. -/
def truthOfInstancesWrong : ChangeSpec := { name := "truthOfInstances", fn := fun _ => fun
  | [d1, d2] => { results := [.lit (.bool false)], args := [d1, d2] }
  | _ => none }
def TruthOfInstancesWrongFalsely : Prop := truthOfInstancesRow.holds Tryd.pinned (OpenSpec.ofChange truthOfInstancesWrong)

/-- 'glosswrightlaw1.TruthRenameMatchesSpec': WHATEVER THE INPUT: true; the input reads as it did. -/
def truthRenameMatchesSpecSpec : ChangeSpec := { name := "truthRenameMatchesSpec", fn := fun _ => fun
  | [d1, d2, d3] => { results := [.lit (.bool true)], args := [d1, d2, d3] }
  | _ => none }
def truthRenameMatchesSpecRow : OpenClaim := { program := "ytflcbbikfdahhaadoor", sum := "c4469568b037b9d50629b6ab17bb8ea13abcc5c37d59da6034a686340d9644f8", func := "glosswright/glosswrightlaw1.TruthRenameMatchesSpec", spec := "truthRenameMatchesSpec", unfollowed := true, recurses := true, named := ["glosswright/glosswrightlaw1.none"], loops := true, apart := false, laid := [("glosswright/glosswrightlaw1.none", laid_glosswright_glosswrightlaw1_none)] }
def TruthRenameMatchesSpecSaid : Prop := truthRenameMatchesSpecRow.holds Tryd.pinned (OpenSpec.ofChange truthRenameMatchesSpecSpec)

/-- ITS FALSE NEIGHBOUR: 'it returns false'. Refute it at one input. -/
def truthRenameMatchesSpecWrong : ChangeSpec := { name := "truthRenameMatchesSpec", fn := fun _ => fun
  | [d1, d2, d3] => { results := [.lit (.bool false)], args := [d1, d2, d3] }
  | _ => none }
def TruthRenameMatchesSpecWrongFalsely : Prop := truthRenameMatchesSpecRow.holds Tryd.pinned (OpenSpec.ofChange truthRenameMatchesSpecWrong)

/-- 'glosswrightlaw1.NormalformKeepsTruth': WHATEVER THE INPUT: true; the input reads as it did. -/
def normalformKeepsTruthSpec : ChangeSpec := { name := "normalformKeepsTruth", fn := fun _ => fun
  | [d1, d2] => { results := [.lit (.bool true)], args := [d1, d2] }
  | _ => none }
def normalformKeepsTruthRow : OpenClaim := { program := "ytflcbbikfdahhaadoor", sum := "c4469568b037b9d50629b6ab17bb8ea13abcc5c37d59da6034a686340d9644f8", func := "glosswright/glosswrightlaw1.NormalformKeepsTruth", spec := "normalformKeepsTruth", unfollowed := true, recurses := true, named := ["glosswright/glosswrightlaw1.none", "glosswright/normalform.dual", "internal/strconv.uint64pow10", "math/bits.deBruijn32tab", "math/bits.deBruijn64tab"], loops := true, apart := false, laid := [("math/bits.deBruijn32tab", laid_math_bits_deBruijn32tab), ("math/bits.deBruijn64tab", laid_math_bits_deBruijn64tab), ("internal/strconv.uint64pow10", laid_internal_strconv_uint64pow10), ("glosswright/normalform.dual", laid_glosswright_normalform_dual), ("glosswright/glosswrightlaw1.none", laid_glosswright_glosswrightlaw1_none)] }
def NormalformKeepsTruthSaid : Prop := normalformKeepsTruthRow.holds Tryd.pinned (OpenSpec.ofChange normalformKeepsTruthSpec)

/-- ITS FALSE NEIGHBOUR: 'it returns false'. Refute it at one input. -/
def normalformKeepsTruthWrong : ChangeSpec := { name := "normalformKeepsTruth", fn := fun _ => fun
  | [d1, d2] => { results := [.lit (.bool false)], args := [d1, d2] }
  | _ => none }
def NormalformKeepsTruthWrongFalsely : Prop := normalformKeepsTruthRow.holds Tryd.pinned (OpenSpec.ofChange normalformKeepsTruthWrong)

/- THE SECOND FORM. 'bulk': how many values and letters a reading holds, each counted each time it is reached (what is shared counts as often as it is met; a slice's spare places count too). A statement '..UptoSaid' is the law's where the arguments, and the package variables that the reading takes, are together of bulk at most 1048576: NARROWER than '..Said'. Prove '..Said' where nothing that the law and all that it calls make is longer than what came in: it says more and counts as full. Else prove '..UptoSaid'. A law counts once. -/
mutual
def uptoBulk {H : Type} : DataW H → Nat
  | .lit (.string bytes) => bytes.length + 1
  | .lit _ => 1
  | .nil => 1
  | .ptr d => uptoBulk d + 1
  | .slice elems spare => uptoBulkAll elems + uptoBulkAll spare + 1
  | .agg parts => uptoBulkAll parts + 1
  | .iface _ d => uptoBulk d + 1
  | .map entries => uptoBulkEntries entries + 1
  | .held _ => 1
def uptoBulkAll {H : Type} : List (DataW H) → Nat
  | [] => 0
  | d :: r => uptoBulk d + uptoBulkAll r
def uptoBulkEntries {H : Type} : List (Lit × DataW H) → Nat
  | [] => 0
  | x :: r => uptoBulkEntry x + uptoBulkEntries r
def uptoBulkEntry {H : Type} : Lit × DataW H → Nat
  | (.string bytes, d) => bytes.length + uptoBulk d + 1
  | (_, d) => uptoBulk d + 1
 end
def uptoSmall : (H : Type) → List (DataW H) → Bool := fun _ ds => decide (uptoBulkAll ds ≤ 1048576)
def OpenSpec.upto (s : _root_.Go.ChangeSpec) : _root_.Go.OpenSpec := { _root_.Go.OpenSpec.ofChange s with cond := some uptoSmall }

/-- 'glosswrightlaw1.TruthMatchesSpec', WHERE WHAT IT READS IS OF BULK AT MOST 1048576: true; the input reads as it did. -/
def truthMatchesSpecUptoRow : OpenClaim := { program := "ytflcbbikfdahhaadoor", sum := "c4469568b037b9d50629b6ab17bb8ea13abcc5c37d59da6034a686340d9644f8", func := "glosswright/glosswrightlaw1.TruthMatchesSpec", spec := "truthMatchesSpec", unfollowed := true, recurses := true, named := ["glosswright/glosswrightlaw1.none"], loops := true, apart := false, laid := [("glosswright/glosswrightlaw1.none", laid_glosswright_glosswrightlaw1_none)], narrowed := true }
def TruthMatchesSpecUptoSaid : Prop := truthMatchesSpecUptoRow.holds Tryd.pinned (OpenSpec.upto truthMatchesSpecSpec)

/-- 'glosswrightlaw1.TruthOfNegation', WHERE WHAT IT READS IS OF BULK AT MOST 1048576: true; the input reads as it did. -/
def truthOfNegationUptoRow : OpenClaim := { program := "ytflcbbikfdahhaadoor", sum := "c4469568b037b9d50629b6ab17bb8ea13abcc5c37d59da6034a686340d9644f8", func := "glosswright/glosswrightlaw1.TruthOfNegation", spec := "truthOfNegation", unfollowed := true, recurses := true, named := ["glosswright/glosswrightlaw1.none"], loops := true, apart := false, laid := [("glosswright/glosswrightlaw1.none", laid_glosswright_glosswrightlaw1_none)], narrowed := true }
def TruthOfNegationUptoSaid : Prop := truthOfNegationUptoRow.holds Tryd.pinned (OpenSpec.upto truthOfNegationSpec)

/-- 'glosswrightlaw1.TruthWitnessesMatchSpec', WHERE WHAT IT READS IS OF BULK AT MOST 1048576: true; the input reads as it did. -/
def truthWitnessesMatchSpecUptoRow : OpenClaim := { program := "ytflcbbikfdahhaadoor", sum := "c4469568b037b9d50629b6ab17bb8ea13abcc5c37d59da6034a686340d9644f8", func := "glosswright/glosswrightlaw1.TruthWitnessesMatchSpec", spec := "truthWitnessesMatchSpec", unfollowed := true, recurses := true, named := ["glosswright/glosswrightlaw1.none"], loops := true, apart := false, laid := [("glosswright/glosswrightlaw1.none", laid_glosswright_glosswrightlaw1_none)], narrowed := true }
def TruthWitnessesMatchSpecUptoSaid : Prop := truthWitnessesMatchSpecUptoRow.holds Tryd.pinned (OpenSpec.upto truthWitnessesMatchSpecSpec)

/-- 'glosswrightlaw1.NormalformNegativeMatchesSpec', WHERE WHAT IT READS IS OF BULK AT MOST 1048576: true; the input reads as it did. -/
def normalformNegativeMatchesSpecUptoRow : OpenClaim := { program := "ytflcbbikfdahhaadoor", sum := "c4469568b037b9d50629b6ab17bb8ea13abcc5c37d59da6034a686340d9644f8", func := "glosswright/glosswrightlaw1.NormalformNegativeMatchesSpec", spec := "normalformNegativeMatchesSpec", unfollowed := true, recurses := true, named := ["glosswright/glosswrightlaw1.none", "glosswright/normalform.dual", "internal/strconv.uint64pow10", "math/bits.deBruijn32tab", "math/bits.deBruijn64tab"], loops := true, apart := false, laid := [("math/bits.deBruijn32tab", laid_math_bits_deBruijn32tab), ("math/bits.deBruijn64tab", laid_math_bits_deBruijn64tab), ("internal/strconv.uint64pow10", laid_internal_strconv_uint64pow10), ("glosswright/normalform.dual", laid_glosswright_normalform_dual), ("glosswright/glosswrightlaw1.none", laid_glosswright_glosswrightlaw1_none)], narrowed := true }
def NormalformNegativeMatchesSpecUptoSaid : Prop := normalformNegativeMatchesSpecUptoRow.holds Tryd.pinned (OpenSpec.upto normalformNegativeMatchesSpecSpec)

/-- 'glosswrightlaw1.NormalformOfNegation', WHERE WHAT IT READS IS OF BULK AT MOST 1048576: true; the input reads as it did. -/
def normalformOfNegationUptoRow : OpenClaim := { program := "ytflcbbikfdahhaadoor", sum := "c4469568b037b9d50629b6ab17bb8ea13abcc5c37d59da6034a686340d9644f8", func := "glosswright/glosswrightlaw1.NormalformOfNegation", spec := "normalformOfNegation", unfollowed := true, recurses := true, named := ["glosswright/glosswrightlaw1.none", "glosswright/normalform.dual", "internal/strconv.uint64pow10", "math/bits.deBruijn32tab", "math/bits.deBruijn64tab"], loops := true, apart := false, laid := [("math/bits.deBruijn32tab", laid_math_bits_deBruijn32tab), ("math/bits.deBruijn64tab", laid_math_bits_deBruijn64tab), ("internal/strconv.uint64pow10", laid_internal_strconv_uint64pow10), ("glosswright/normalform.dual", laid_glosswright_normalform_dual), ("glosswright/glosswrightlaw1.none", laid_glosswright_glosswrightlaw1_none)], narrowed := true }
def NormalformOfNegationUptoSaid : Prop := normalformOfNegationUptoRow.holds Tryd.pinned (OpenSpec.upto normalformOfNegationSpec)

/-- 'glosswrightlaw1.NormalformPrenexMatchesSpec', WHERE WHAT IT READS IS OF BULK AT MOST 1048576: true; the input reads as it did. -/
def normalformPrenexMatchesSpecUptoRow : OpenClaim := { program := "ytflcbbikfdahhaadoor", sum := "c4469568b037b9d50629b6ab17bb8ea13abcc5c37d59da6034a686340d9644f8", func := "glosswright/glosswrightlaw1.NormalformPrenexMatchesSpec", spec := "normalformPrenexMatchesSpec", unfollowed := true, recurses := true, named := ["glosswright/glosswrightlaw1.none", "glosswright/normalform.dual", "internal/strconv.uint64pow10", "math/bits.deBruijn32tab", "math/bits.deBruijn64tab"], loops := true, apart := false, laid := [("math/bits.deBruijn32tab", laid_math_bits_deBruijn32tab), ("math/bits.deBruijn64tab", laid_math_bits_deBruijn64tab), ("internal/strconv.uint64pow10", laid_internal_strconv_uint64pow10), ("glosswright/normalform.dual", laid_glosswright_normalform_dual), ("glosswright/glosswrightlaw1.none", laid_glosswright_glosswrightlaw1_none)], narrowed := true }
def NormalformPrenexMatchesSpecUptoSaid : Prop := normalformPrenexMatchesSpecUptoRow.holds Tryd.pinned (OpenSpec.upto normalformPrenexMatchesSpecSpec)

/-- 'glosswrightlaw1.NormalformNarrowMatchesSpec', WHERE WHAT IT READS IS OF BULK AT MOST 1048576: true; the input reads as it did. -/
def normalformNarrowMatchesSpecUptoRow : OpenClaim := { program := "ytflcbbikfdahhaadoor", sum := "c4469568b037b9d50629b6ab17bb8ea13abcc5c37d59da6034a686340d9644f8", func := "glosswright/glosswrightlaw1.NormalformNarrowMatchesSpec", spec := "normalformNarrowMatchesSpec", unfollowed := true, recurses := true, named := ["glosswright/glosswrightlaw1.none", "glosswright/normalform.dual", "internal/strconv.uint64pow10", "math/bits.deBruijn32tab", "math/bits.deBruijn64tab"], loops := true, apart := false, laid := [("math/bits.deBruijn32tab", laid_math_bits_deBruijn32tab), ("math/bits.deBruijn64tab", laid_math_bits_deBruijn64tab), ("internal/strconv.uint64pow10", laid_internal_strconv_uint64pow10), ("glosswright/normalform.dual", laid_glosswright_normalform_dual), ("glosswright/glosswrightlaw1.none", laid_glosswright_glosswrightlaw1_none)], narrowed := true }
def NormalformNarrowMatchesSpecUptoSaid : Prop := normalformNarrowMatchesSpecUptoRow.holds Tryd.pinned (OpenSpec.upto normalformNarrowMatchesSpecSpec)

/-- 'glosswrightlaw1.NormalformShapes', WHERE WHAT IT READS IS OF BULK AT MOST 1048576: true; the input reads as it did. -/
def normalformShapesUptoRow : OpenClaim := { program := "ytflcbbikfdahhaadoor", sum := "c4469568b037b9d50629b6ab17bb8ea13abcc5c37d59da6034a686340d9644f8", func := "glosswright/glosswrightlaw1.NormalformShapes", spec := "normalformShapes", unfollowed := true, recurses := true, named := ["glosswright/glosswrightlaw1.none", "glosswright/normalform.dual", "internal/strconv.uint64pow10", "math/bits.deBruijn32tab", "math/bits.deBruijn64tab"], loops := true, apart := false, laid := [("math/bits.deBruijn32tab", laid_math_bits_deBruijn32tab), ("math/bits.deBruijn64tab", laid_math_bits_deBruijn64tab), ("internal/strconv.uint64pow10", laid_internal_strconv_uint64pow10), ("glosswright/normalform.dual", laid_glosswright_normalform_dual), ("glosswright/glosswrightlaw1.none", laid_glosswright_glosswrightlaw1_none)], narrowed := true }
def NormalformShapesUptoSaid : Prop := normalformShapesUptoRow.holds Tryd.pinned (OpenSpec.upto normalformShapesSpec)

/-- 'glosswrightlaw1.TruthOfCanonical', WHERE WHAT IT READS IS OF BULK AT MOST 1048576: true; the input reads as it did. -/
def truthOfCanonicalUptoRow : OpenClaim := { program := "ytflcbbikfdahhaadoor", sum := "c4469568b037b9d50629b6ab17bb8ea13abcc5c37d59da6034a686340d9644f8", func := "glosswright/glosswrightlaw1.TruthOfCanonical", spec := "truthOfCanonical", unfollowed := true, recurses := true, named := ["glosswright/glosswrightlaw1.none", "internal/strconv.uint64pow10", "math/bits.deBruijn32tab", "math/bits.deBruijn64tab"], loops := true, apart := false, laid := [("math/bits.deBruijn32tab", laid_math_bits_deBruijn32tab), ("math/bits.deBruijn64tab", laid_math_bits_deBruijn64tab), ("internal/strconv.uint64pow10", laid_internal_strconv_uint64pow10), ("glosswright/glosswrightlaw1.none", laid_glosswright_glosswrightlaw1_none)], narrowed := true }
def TruthOfCanonicalUptoSaid : Prop := truthOfCanonicalUptoRow.holds Tryd.pinned (OpenSpec.upto truthOfCanonicalSpec)

/-- 'glosswrightlaw1.TruthOfInstances', WHERE WHAT IT READS IS OF BULK AT MOST 1048576: true; the input reads as it did. -/
def truthOfInstancesUptoRow : OpenClaim := { program := "ytflcbbikfdahhaadoor", sum := "c4469568b037b9d50629b6ab17bb8ea13abcc5c37d59da6034a686340d9644f8", func := "glosswright/glosswrightlaw1.TruthOfInstances", spec := "truthOfInstances", unfollowed := true, recurses := true, named := ["glosswright/glosswrightlaw1.none", "internal/strconv.uint64pow10", "math/bits.deBruijn32tab", "math/bits.deBruijn64tab"], loops := true, apart := false, laid := [("math/bits.deBruijn32tab", laid_math_bits_deBruijn32tab), ("math/bits.deBruijn64tab", laid_math_bits_deBruijn64tab), ("internal/strconv.uint64pow10", laid_internal_strconv_uint64pow10), ("glosswright/glosswrightlaw1.none", laid_glosswright_glosswrightlaw1_none)], narrowed := true }
def TruthOfInstancesUptoSaid : Prop := truthOfInstancesUptoRow.holds Tryd.pinned (OpenSpec.upto truthOfInstancesSpec)

/-- 'glosswrightlaw1.TruthRenameMatchesSpec', WHERE WHAT IT READS IS OF BULK AT MOST 1048576: true; the input reads as it did. -/
def truthRenameMatchesSpecUptoRow : OpenClaim := { program := "ytflcbbikfdahhaadoor", sum := "c4469568b037b9d50629b6ab17bb8ea13abcc5c37d59da6034a686340d9644f8", func := "glosswright/glosswrightlaw1.TruthRenameMatchesSpec", spec := "truthRenameMatchesSpec", unfollowed := true, recurses := true, named := ["glosswright/glosswrightlaw1.none"], loops := true, apart := false, laid := [("glosswright/glosswrightlaw1.none", laid_glosswright_glosswrightlaw1_none)], narrowed := true }
def TruthRenameMatchesSpecUptoSaid : Prop := truthRenameMatchesSpecUptoRow.holds Tryd.pinned (OpenSpec.upto truthRenameMatchesSpecSpec)

/-- 'glosswrightlaw1.NormalformKeepsTruth', WHERE WHAT IT READS IS OF BULK AT MOST 1048576: true; the input reads as it did. -/
def normalformKeepsTruthUptoRow : OpenClaim := { program := "ytflcbbikfdahhaadoor", sum := "c4469568b037b9d50629b6ab17bb8ea13abcc5c37d59da6034a686340d9644f8", func := "glosswright/glosswrightlaw1.NormalformKeepsTruth", spec := "normalformKeepsTruth", unfollowed := true, recurses := true, named := ["glosswright/glosswrightlaw1.none", "glosswright/normalform.dual", "internal/strconv.uint64pow10", "math/bits.deBruijn32tab", "math/bits.deBruijn64tab"], loops := true, apart := false, laid := [("math/bits.deBruijn32tab", laid_math_bits_deBruijn32tab), ("math/bits.deBruijn64tab", laid_math_bits_deBruijn64tab), ("internal/strconv.uint64pow10", laid_internal_strconv_uint64pow10), ("glosswright/normalform.dual", laid_glosswright_normalform_dual), ("glosswright/glosswrightlaw1.none", laid_glosswright_glosswrightlaw1_none)], narrowed := true }
def NormalformKeepsTruthUptoSaid : Prop := normalformKeepsTruthUptoRow.holds Tryd.pinned (OpenSpec.upto normalformKeepsTruthSpec)

end Rows
end Go.Proofs.YtflcbbikfdahhaaDoor
