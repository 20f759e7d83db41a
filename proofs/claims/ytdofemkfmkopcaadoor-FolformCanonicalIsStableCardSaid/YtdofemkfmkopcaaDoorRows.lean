/-
  NARROWER THAN 'FOR EVERY INPUT', by the rows' own cells (each row's printed sentence says how): FolformMatchesSpec: loops, laid · TruthMatchesSpec: loops, laid · TruthOfNegation: loops, laid · FolformCanonicalMatchesSpec: loops, laid · FolformCanonicalIsStable: loops, laid · FolformInstanceMatchesSpec: loops, laid · FolformInstancesOfAlike: loops, laid · TruthWitnessesMatchSpec: loops, laid.
  DERIVED. THE GIVEN ROWS OF THIS SEAT. 8 by the template 'for every input the law returns true; each argument reads behind the call as it read before'; 0 by the template 'total and deterministic' (their statements: YtdofemkfmkopcaaDoorTotals.lean).
  GIVEN WITH THE SEED: the statements are not yours to turn. If you find one false, say at which input.
  Laid BY PROGRAM, IN A SANDBOX (cutbox-rows.mjs): the forced cells as the released guide's own fill.sh prints them over the translation 4b473f9d03a98ce8… (all of the seat's roots in one cut). By AI agents, Wed Nov 11 2026. No macro, syntax, notation, axiom, sorry.
-/
import Derived.Test.YtdofemkfmkopcaaDoorChecked
import GoSem.Claim
import GoSem.ClaimJoined
import GoSem.ClaimMapViews
import Derived.JoinedTies
import Derived.KernelRfl
namespace Go.Proofs.YtdofemkfmkopcaaDoor
/- THE CELL 'sum', in the pinned program and in every row, IS THE sha256 OF THE DUMP (.gsa) THAT YtdofemkfmkopcaaDoorProg.lean LOADS. Nothing in Lean hashes anything: it is a label: what it is worth is what the hold of that sum in a sandbox is worth. -/
noncomputable def Tryd.pinned : Pinned := { name := "ytdofemkfmkopcaadoor", sum := "4b473f9d03a98ce88902c73c6ad34306623242f0e1af16bac7456b05d6801d8c", checked := Tryd.checked }
namespace Rows
def none {H : Type} : Left H := { results := [], args := [] }

/- WHAT THE LISTED PACKAGE-LEVEL VARIABLES READ AS WHEN THE CALL BEGINS. Each datum BY PROGRAM (the guide's laid-datum.mjs) off the statement by which the dump's own 'gosem.cut.vars' lays the variable. In a bare row this is a premise. The card (YtdofemkfmkopcaaDoorCards.lean) ties it to the program's text. -/
def laid_glosswright_glosswrightlaw1_none {H : Type} : DataW H := .agg [.lit (.int .i64 0), .lit (.int .i64 0)]
def laid_math_bits_deBruijn32tab {H : Type} : DataW H := .agg [.lit (.int .u8 0), .lit (.int .u8 1), .lit (.int .u8 28), .lit (.int .u8 2), .lit (.int .u8 29), .lit (.int .u8 14), .lit (.int .u8 24), .lit (.int .u8 3), .lit (.int .u8 30), .lit (.int .u8 22), .lit (.int .u8 20), .lit (.int .u8 15), .lit (.int .u8 25), .lit (.int .u8 17), .lit (.int .u8 4), .lit (.int .u8 8), .lit (.int .u8 31), .lit (.int .u8 27), .lit (.int .u8 13), .lit (.int .u8 23), .lit (.int .u8 21), .lit (.int .u8 19), .lit (.int .u8 16), .lit (.int .u8 7), .lit (.int .u8 26), .lit (.int .u8 12), .lit (.int .u8 18), .lit (.int .u8 6), .lit (.int .u8 11), .lit (.int .u8 5), .lit (.int .u8 10), .lit (.int .u8 9)]
def laid_math_bits_deBruijn64tab {H : Type} : DataW H := .agg [.lit (.int .u8 0), .lit (.int .u8 1), .lit (.int .u8 56), .lit (.int .u8 2), .lit (.int .u8 57), .lit (.int .u8 49), .lit (.int .u8 28), .lit (.int .u8 3), .lit (.int .u8 61), .lit (.int .u8 58), .lit (.int .u8 42), .lit (.int .u8 50), .lit (.int .u8 38), .lit (.int .u8 29), .lit (.int .u8 17), .lit (.int .u8 4), .lit (.int .u8 62), .lit (.int .u8 47), .lit (.int .u8 59), .lit (.int .u8 36), .lit (.int .u8 45), .lit (.int .u8 43), .lit (.int .u8 51), .lit (.int .u8 22), .lit (.int .u8 53), .lit (.int .u8 39), .lit (.int .u8 33), .lit (.int .u8 30), .lit (.int .u8 24), .lit (.int .u8 18), .lit (.int .u8 12), .lit (.int .u8 5), .lit (.int .u8 63), .lit (.int .u8 55), .lit (.int .u8 48), .lit (.int .u8 27), .lit (.int .u8 60), .lit (.int .u8 41), .lit (.int .u8 37), .lit (.int .u8 16), .lit (.int .u8 46), .lit (.int .u8 35), .lit (.int .u8 44), .lit (.int .u8 21), .lit (.int .u8 52), .lit (.int .u8 32), .lit (.int .u8 23), .lit (.int .u8 11), .lit (.int .u8 54), .lit (.int .u8 26), .lit (.int .u8 40), .lit (.int .u8 15), .lit (.int .u8 34), .lit (.int .u8 20), .lit (.int .u8 31), .lit (.int .u8 10), .lit (.int .u8 25), .lit (.int .u8 14), .lit (.int .u8 19), .lit (.int .u8 9), .lit (.int .u8 13), .lit (.int .u8 8), .lit (.int .u8 7), .lit (.int .u8 6)]
def laid_internal_strconv_uint64pow10 {H : Type} : DataW H := .agg [.lit (.int .u64 1), .lit (.int .u64 10), .lit (.int .u64 100), .lit (.int .u64 1000), .lit (.int .u64 10000), .lit (.int .u64 100000), .lit (.int .u64 1000000), .lit (.int .u64 10000000), .lit (.int .u64 100000000), .lit (.int .u64 1000000000), .lit (.int .u64 10000000000), .lit (.int .u64 100000000000), .lit (.int .u64 1000000000000), .lit (.int .u64 10000000000000), .lit (.int .u64 100000000000000), .lit (.int .u64 1000000000000000), .lit (.int .u64 10000000000000000), .lit (.int .u64 100000000000000000), .lit (.int .u64 1000000000000000000), .lit (.int .u64 10000000000000000000)]

/-- 'glosswrightlaw1.FolformMatchesSpec': WHATEVER THE INPUT: true; the input reads as it did. -/
def folformMatchesSpecSpec : ChangeSpec := { name := "folformMatchesSpec", fn := fun _ => fun
  | [d] => { results := [.lit (.bool true)], args := [d] }
  | _ => none }
def folformMatchesSpecRow : OpenClaim := { program := "ytdofemkfmkopcaadoor", sum := "4b473f9d03a98ce88902c73c6ad34306623242f0e1af16bac7456b05d6801d8c", func := "glosswright/glosswrightlaw1.FolformMatchesSpec", spec := "folformMatchesSpec", inPlace := ["internal/abi.NoEscape", "internal/bytealg.MakeNoZero"], unfollowed := true, recurses := true, named := ["glosswright/glosswrightlaw1.none"], loops := true, apart := false, laid := [("glosswright/glosswrightlaw1.none", laid_glosswright_glosswrightlaw1_none)] }
def FolformMatchesSpecSaid : Prop := folformMatchesSpecRow.holds Tryd.pinned (OpenSpec.ofChange folformMatchesSpecSpec)

/-- ITS FALSE NEIGHBOUR: 'it returns false'. Refute it at one input. -/
def folformMatchesSpecWrong : ChangeSpec := { name := "folformMatchesSpec", fn := fun _ => fun
  | [d] => { results := [.lit (.bool false)], args := [d] }
  | _ => none }
def FolformMatchesSpecWrongFalsely : Prop := folformMatchesSpecRow.holds Tryd.pinned (OpenSpec.ofChange folformMatchesSpecWrong)

/-- 'glosswrightlaw1.TruthMatchesSpec': WHATEVER THE INPUT: true; the input reads as it did. -/
def truthMatchesSpecSpec : ChangeSpec := { name := "truthMatchesSpec", fn := fun _ => fun
  | [d1, d2] => { results := [.lit (.bool true)], args := [d1, d2] }
  | _ => none }
def truthMatchesSpecRow : OpenClaim := { program := "ytdofemkfmkopcaadoor", sum := "4b473f9d03a98ce88902c73c6ad34306623242f0e1af16bac7456b05d6801d8c", func := "glosswright/glosswrightlaw1.TruthMatchesSpec", spec := "truthMatchesSpec", unfollowed := true, recurses := true, named := ["glosswright/glosswrightlaw1.none"], loops := true, apart := false, laid := [("glosswright/glosswrightlaw1.none", laid_glosswright_glosswrightlaw1_none)] }
def TruthMatchesSpecSaid : Prop := truthMatchesSpecRow.holds Tryd.pinned (OpenSpec.ofChange truthMatchesSpecSpec)

/-- ITS FALSE NEIGHBOUR: 'it returns false'. Refute it at one input. -/
def truthMatchesSpecWrong : ChangeSpec := { name := "truthMatchesSpec", fn := fun _ => fun
  | [d1, d2] => { results := [.lit (.bool false)], args := [d1, d2] }
  | _ => none }
def TruthMatchesSpecWrongFalsely : Prop := truthMatchesSpecRow.holds Tryd.pinned (OpenSpec.ofChange truthMatchesSpecWrong)

/-- 'glosswrightlaw1.TruthOfNegation': WHATEVER THE INPUT: true; the input reads as it did. -/
def truthOfNegationSpec : ChangeSpec := { name := "truthOfNegation", fn := fun _ => fun
  | [d1, d2] => { results := [.lit (.bool true)], args := [d1, d2] }
  | _ => none }
def truthOfNegationRow : OpenClaim := { program := "ytdofemkfmkopcaadoor", sum := "4b473f9d03a98ce88902c73c6ad34306623242f0e1af16bac7456b05d6801d8c", func := "glosswright/glosswrightlaw1.TruthOfNegation", spec := "truthOfNegation", unfollowed := true, recurses := true, named := ["glosswright/glosswrightlaw1.none"], loops := true, apart := false, laid := [("glosswright/glosswrightlaw1.none", laid_glosswright_glosswrightlaw1_none)] }
def TruthOfNegationSaid : Prop := truthOfNegationRow.holds Tryd.pinned (OpenSpec.ofChange truthOfNegationSpec)

/-- ITS FALSE NEIGHBOUR: 'it returns false'. Refute it at one input. -/
def truthOfNegationWrong : ChangeSpec := { name := "truthOfNegation", fn := fun _ => fun
  | [d1, d2] => { results := [.lit (.bool false)], args := [d1, d2] }
  | _ => none }
def TruthOfNegationWrongFalsely : Prop := truthOfNegationRow.holds Tryd.pinned (OpenSpec.ofChange truthOfNegationWrong)

/-- 'glosswrightlaw1.FolformCanonicalMatchesSpec': WHATEVER THE INPUT: true; the input reads as it did. -/
def folformCanonicalMatchesSpecSpec : ChangeSpec := { name := "folformCanonicalMatchesSpec", fn := fun _ => fun
  | [d] => { results := [.lit (.bool true)], args := [d] }
  | _ => none }
def folformCanonicalMatchesSpecRow : OpenClaim := { program := "ytdofemkfmkopcaadoor", sum := "4b473f9d03a98ce88902c73c6ad34306623242f0e1af16bac7456b05d6801d8c", func := "glosswright/glosswrightlaw1.FolformCanonicalMatchesSpec", spec := "folformCanonicalMatchesSpec", unfollowed := true, recurses := true, named := ["glosswright/glosswrightlaw1.none", "internal/strconv.uint64pow10", "math/bits.deBruijn32tab", "math/bits.deBruijn64tab"], loops := true, apart := false, laid := [("math/bits.deBruijn32tab", laid_math_bits_deBruijn32tab), ("math/bits.deBruijn64tab", laid_math_bits_deBruijn64tab), ("internal/strconv.uint64pow10", laid_internal_strconv_uint64pow10), ("glosswright/glosswrightlaw1.none", laid_glosswright_glosswrightlaw1_none)] }
def FolformCanonicalMatchesSpecSaid : Prop := folformCanonicalMatchesSpecRow.holds Tryd.pinned (OpenSpec.ofChange folformCanonicalMatchesSpecSpec)

/-- ITS FALSE NEIGHBOUR: 'it returns false'. Refute it at one input. -/
def folformCanonicalMatchesSpecWrong : ChangeSpec := { name := "folformCanonicalMatchesSpec", fn := fun _ => fun
  | [d] => { results := [.lit (.bool false)], args := [d] }
  | _ => none }
def FolformCanonicalMatchesSpecWrongFalsely : Prop := folformCanonicalMatchesSpecRow.holds Tryd.pinned (OpenSpec.ofChange folformCanonicalMatchesSpecWrong)

/-- 'glosswrightlaw1.FolformCanonicalIsStable': WHATEVER THE INPUT: true; the input reads as it did. -/
def folformCanonicalIsStableSpec : ChangeSpec := { name := "folformCanonicalIsStable", fn := fun _ => fun
  | [d1, d2, d3] => { results := [.lit (.bool true)], args := [d1, d2, d3] }
  | _ => none }
def folformCanonicalIsStableRow : OpenClaim := { program := "ytdofemkfmkopcaadoor", sum := "4b473f9d03a98ce88902c73c6ad34306623242f0e1af16bac7456b05d6801d8c", func := "glosswright/glosswrightlaw1.FolformCanonicalIsStable", spec := "folformCanonicalIsStable", unfollowed := true, recurses := true, named := ["glosswright/glosswrightlaw1.none", "internal/strconv.uint64pow10", "math/bits.deBruijn32tab", "math/bits.deBruijn64tab"], loops := true, apart := false, laid := [("math/bits.deBruijn32tab", laid_math_bits_deBruijn32tab), ("math/bits.deBruijn64tab", laid_math_bits_deBruijn64tab), ("internal/strconv.uint64pow10", laid_internal_strconv_uint64pow10), ("glosswright/glosswrightlaw1.none", laid_glosswright_glosswrightlaw1_none)] }
def FolformCanonicalIsStableSaid : Prop := folformCanonicalIsStableRow.holds Tryd.pinned (OpenSpec.ofChange folformCanonicalIsStableSpec)

/-- ITS FALSE NEIGHBOUR: 'it returns false'. Refute it at one input. -/
def folformCanonicalIsStableWrong : ChangeSpec := { name := "folformCanonicalIsStable", fn := fun _ => fun
  | [d1, d2, d3] => { results := [.lit (.bool false)], args := [d1, d2, d3] }
  | _ => none }
def FolformCanonicalIsStableWrongFalsely : Prop := folformCanonicalIsStableRow.holds Tryd.pinned (OpenSpec.ofChange folformCanonicalIsStableWrong)

/-- 'glosswrightlaw1.FolformInstanceMatchesSpec': WHATEVER THE INPUT: true; the input reads as it did. -/
def folformInstanceMatchesSpecSpec : ChangeSpec := { name := "folformInstanceMatchesSpec", fn := fun _ => fun
  | [d1, d2] => { results := [.lit (.bool true)], args := [d1, d2] }
  | _ => none }
def folformInstanceMatchesSpecRow : OpenClaim := { program := "ytdofemkfmkopcaadoor", sum := "4b473f9d03a98ce88902c73c6ad34306623242f0e1af16bac7456b05d6801d8c", func := "glosswright/glosswrightlaw1.FolformInstanceMatchesSpec", spec := "folformInstanceMatchesSpec", unfollowed := true, recurses := true, named := ["glosswright/glosswrightlaw1.none", "internal/strconv.uint64pow10", "math/bits.deBruijn32tab", "math/bits.deBruijn64tab"], loops := true, apart := false, laid := [("math/bits.deBruijn32tab", laid_math_bits_deBruijn32tab), ("math/bits.deBruijn64tab", laid_math_bits_deBruijn64tab), ("internal/strconv.uint64pow10", laid_internal_strconv_uint64pow10), ("glosswright/glosswrightlaw1.none", laid_glosswright_glosswrightlaw1_none)] }
def FolformInstanceMatchesSpecSaid : Prop := folformInstanceMatchesSpecRow.holds Tryd.pinned (OpenSpec.ofChange folformInstanceMatchesSpecSpec)

/-- ITS FALSE NEIGHBOUR: 'it returns false'. Refute it at one input. -/
def folformInstanceMatchesSpecWrong : ChangeSpec := { name := "folformInstanceMatchesSpec", fn := fun _ => fun
  | [d1, d2] => { results := [.lit (.bool false)], args := [d1, d2] }
  | _ => none }
def FolformInstanceMatchesSpecWrongFalsely : Prop := folformInstanceMatchesSpecRow.holds Tryd.pinned (OpenSpec.ofChange folformInstanceMatchesSpecWrong)

/-- 'glosswrightlaw1.FolformInstancesOfAlike': WHATEVER THE INPUT: true; the input reads as it did. -/
def folformInstancesOfAlikeSpec : ChangeSpec := { name := "folformInstancesOfAlike", fn := fun _ => fun
  | [d1, d2] => { results := [.lit (.bool true)], args := [d1, d2] }
  | _ => none }
def folformInstancesOfAlikeRow : OpenClaim := { program := "ytdofemkfmkopcaadoor", sum := "4b473f9d03a98ce88902c73c6ad34306623242f0e1af16bac7456b05d6801d8c", func := "glosswright/glosswrightlaw1.FolformInstancesOfAlike", spec := "folformInstancesOfAlike", unfollowed := true, recurses := true, named := ["glosswright/glosswrightlaw1.none", "internal/strconv.uint64pow10", "math/bits.deBruijn32tab", "math/bits.deBruijn64tab"], loops := true, apart := false, laid := [("math/bits.deBruijn32tab", laid_math_bits_deBruijn32tab), ("math/bits.deBruijn64tab", laid_math_bits_deBruijn64tab), ("internal/strconv.uint64pow10", laid_internal_strconv_uint64pow10), ("glosswright/glosswrightlaw1.none", laid_glosswright_glosswrightlaw1_none)] }
def FolformInstancesOfAlikeSaid : Prop := folformInstancesOfAlikeRow.holds Tryd.pinned (OpenSpec.ofChange folformInstancesOfAlikeSpec)

/-- ITS FALSE NEIGHBOUR: 'it returns false'. Refute it at one input. -/
def folformInstancesOfAlikeWrong : ChangeSpec := { name := "folformInstancesOfAlike", fn := fun _ => fun
  | [d1, d2] => { results := [.lit (.bool false)], args := [d1, d2] }
  | _ => none }
def FolformInstancesOfAlikeWrongFalsely : Prop := folformInstancesOfAlikeRow.holds Tryd.pinned (OpenSpec.ofChange folformInstancesOfAlikeWrong)

/-- 'glosswrightlaw1.TruthWitnessesMatchSpec': WHATEVER THE INPUT: true; the input reads as it did. -/
def truthWitnessesMatchSpecSpec : ChangeSpec := { name := "truthWitnessesMatchSpec", fn := fun _ => fun
  | [d1, d2] => { results := [.lit (.bool true)], args := [d1, d2] }
  | _ => none }
def truthWitnessesMatchSpecRow : OpenClaim := { program := "ytdofemkfmkopcaadoor", sum := "4b473f9d03a98ce88902c73c6ad34306623242f0e1af16bac7456b05d6801d8c", func := "glosswright/glosswrightlaw1.TruthWitnessesMatchSpec", spec := "truthWitnessesMatchSpec", unfollowed := true, recurses := true, named := ["glosswright/glosswrightlaw1.none"], loops := true, apart := false, laid := [("glosswright/glosswrightlaw1.none", laid_glosswright_glosswrightlaw1_none)] }
def TruthWitnessesMatchSpecSaid : Prop := truthWitnessesMatchSpecRow.holds Tryd.pinned (OpenSpec.ofChange truthWitnessesMatchSpecSpec)

/-- ITS FALSE NEIGHBOUR: 'it returns false'. Refute it at one input. -/
def truthWitnessesMatchSpecWrong : ChangeSpec := { name := "truthWitnessesMatchSpec", fn := fun _ => fun
  | [d1, d2] => { results := [.lit (.bool false)], args := [d1, d2] }
  | _ => none }
def TruthWitnessesMatchSpecWrongFalsely : Prop := truthWitnessesMatchSpecRow.holds Tryd.pinned (OpenSpec.ofChange truthWitnessesMatchSpecWrong)

/- THE SECOND FORM. 'bulk': how many values and letters a reading holds, each counted each time it is reached (what is shared counts as often as it is met; a slice's spare places count too). A statement '..UptoSaid' is the law's where the arguments, and the package variables that the reading takes, are together of bulk at most 1048576: NARROWER than '..Said'. Prove '..Said' where nothing that the law and all that it calls make is longer than what came in: it says more and counts as full. Else prove '..UptoSaid'. A law counts once. -/
mutual
def uptoBulk {H : Type} : DataW H → Nat
  | .lit (.string bytes) => bytes.length + 1
  | .lit _ => 1
  | .nil => 1
  | .ptr d => uptoBulk d + 1
  | .slice elems spare => uptoBulkAll elems + uptoBulkAll spare + 1
  | .agg parts => uptoBulkAll parts + 1
  | .iface _ d => uptoBulk d + 1
  | .map entries => uptoBulkEntries entries + 1
  | .held _ => 1
def uptoBulkAll {H : Type} : List (DataW H) → Nat
  | [] => 0
  | d :: r => uptoBulk d + uptoBulkAll r
def uptoBulkEntries {H : Type} : List (Lit × DataW H) → Nat
  | [] => 0
  | x :: r => uptoBulkEntry x + uptoBulkEntries r
def uptoBulkEntry {H : Type} : Lit × DataW H → Nat
  | (.string bytes, d) => bytes.length + uptoBulk d + 1
  | (_, d) => uptoBulk d + 1
 end
def uptoSmall : (H : Type) → List (DataW H) → Bool := fun _ ds => decide (uptoBulkAll ds ≤ 1048576)
def OpenSpec.upto (s : _root_.Go.ChangeSpec) : _root_.Go.OpenSpec := { _root_.Go.OpenSpec.ofChange s with cond := some uptoSmall }

/-- 'glosswrightlaw1.FolformMatchesSpec', WHERE WHAT IT READS IS OF BULK AT MOST 1048576: true; the input reads as it did. -/
def folformMatchesSpecUptoRow : OpenClaim := { program := "ytdofemkfmkopcaadoor", sum := "4b473f9d03a98ce88902c73c6ad34306623242f0e1af16bac7456b05d6801d8c", func := "glosswright/glosswrightlaw1.FolformMatchesSpec", spec := "folformMatchesSpec", inPlace := ["internal/abi.NoEscape", "internal/bytealg.MakeNoZero"], unfollowed := true, recurses := true, named := ["glosswright/glosswrightlaw1.none"], loops := true, apart := false, laid := [("glosswright/glosswrightlaw1.none", laid_glosswright_glosswrightlaw1_none)], narrowed := true }
def FolformMatchesSpecUptoSaid : Prop := folformMatchesSpecUptoRow.holds Tryd.pinned (OpenSpec.upto folformMatchesSpecSpec)

/-- 'glosswrightlaw1.TruthMatchesSpec', WHERE WHAT IT READS IS OF BULK AT MOST 1048576: true; the input reads as it did. -/
def truthMatchesSpecUptoRow : OpenClaim := { program := "ytdofemkfmkopcaadoor", sum := "4b473f9d03a98ce88902c73c6ad34306623242f0e1af16bac7456b05d6801d8c", func := "glosswright/glosswrightlaw1.TruthMatchesSpec", spec := "truthMatchesSpec", unfollowed := true, recurses := true, named := ["glosswright/glosswrightlaw1.none"], loops := true, apart := false, laid := [("glosswright/glosswrightlaw1.none", laid_glosswright_glosswrightlaw1_none)], narrowed := true }
def TruthMatchesSpecUptoSaid : Prop := truthMatchesSpecUptoRow.holds Tryd.pinned (OpenSpec.upto truthMatchesSpecSpec)

/-- 'glosswrightlaw1.TruthOfNegation', WHERE WHAT IT READS IS OF BULK AT MOST 1048576: true; the input reads as it did. -/
def truthOfNegationUptoRow : OpenClaim := { program := "ytdofemkfmkopcaadoor", sum := "4b473f9d03a98ce88902c73c6ad34306623242f0e1af16bac7456b05d6801d8c", func := "glosswright/glosswrightlaw1.TruthOfNegation", spec := "truthOfNegation", unfollowed := true, recurses := true, named := ["glosswright/glosswrightlaw1.none"], loops := true, apart := false, laid := [("glosswright/glosswrightlaw1.none", laid_glosswright_glosswrightlaw1_none)], narrowed := true }
def TruthOfNegationUptoSaid : Prop := truthOfNegationUptoRow.holds Tryd.pinned (OpenSpec.upto truthOfNegationSpec)

/-- 'glosswrightlaw1.FolformCanonicalMatchesSpec', WHERE WHAT IT READS IS OF BULK AT MOST 1048576: true; the input reads as it did. -/
def folformCanonicalMatchesSpecUptoRow : OpenClaim := { program := "ytdofemkfmkopcaadoor", sum := "4b473f9d03a98ce88902c73c6ad34306623242f0e1af16bac7456b05d6801d8c", func := "glosswright/glosswrightlaw1.FolformCanonicalMatchesSpec", spec := "folformCanonicalMatchesSpec", unfollowed := true, recurses := true, named := ["glosswright/glosswrightlaw1.none", "internal/strconv.uint64pow10", "math/bits.deBruijn32tab", "math/bits.deBruijn64tab"], loops := true, apart := false, laid := [("math/bits.deBruijn32tab", laid_math_bits_deBruijn32tab), ("math/bits.deBruijn64tab", laid_math_bits_deBruijn64tab), ("internal/strconv.uint64pow10", laid_internal_strconv_uint64pow10), ("glosswright/glosswrightlaw1.none", laid_glosswright_glosswrightlaw1_none)], narrowed := true }
def FolformCanonicalMatchesSpecUptoSaid : Prop := folformCanonicalMatchesSpecUptoRow.holds Tryd.pinned (OpenSpec.upto folformCanonicalMatchesSpecSpec)

/-- 'glosswrightlaw1.FolformCanonicalIsStable', WHERE WHAT IT READS IS OF BULK AT MOST 1048576: true; the input reads as it did. -/
def folformCanonicalIsStableUptoRow : OpenClaim := { program := "ytdofemkfmkopcaadoor", sum := "4b473f9d03a98ce88902c73c6ad34306623242f0e1af16bac7456b05d6801d8c", func := "glosswright/glosswrightlaw1.FolformCanonicalIsStable", spec := "folformCanonicalIsStable", unfollowed := true, recurses := true, named := ["glosswright/glosswrightlaw1.none", "internal/strconv.uint64pow10", "math/bits.deBruijn32tab", "math/bits.deBruijn64tab"], loops := true, apart := false, laid := [("math/bits.deBruijn32tab", laid_math_bits_deBruijn32tab), ("math/bits.deBruijn64tab", laid_math_bits_deBruijn64tab), ("internal/strconv.uint64pow10", laid_internal_strconv_uint64pow10), ("glosswright/glosswrightlaw1.none", laid_glosswright_glosswrightlaw1_none)], narrowed := true }
def FolformCanonicalIsStableUptoSaid : Prop := folformCanonicalIsStableUptoRow.holds Tryd.pinned (OpenSpec.upto folformCanonicalIsStableSpec)

/-- 'glosswrightlaw1.FolformInstanceMatchesSpec', WHERE WHAT IT READS IS OF BULK AT MOST 1048576: true; the input reads as it did. -/
def folformInstanceMatchesSpecUptoRow : OpenClaim := { program := "ytdofemkfmkopcaadoor", sum := "4b473f9d03a98ce88902c73c6ad34306623242f0e1af16bac7456b05d6801d8c", func := "glosswright/glosswrightlaw1.FolformInstanceMatchesSpec", spec := "folformInstanceMatchesSpec", unfollowed := true, recurses := true, named := ["glosswright/glosswrightlaw1.none", "internal/strconv.uint64pow10", "math/bits.deBruijn32tab", "math/bits.deBruijn64tab"], loops := true, apart := false, laid := [("math/bits.deBruijn32tab", laid_math_bits_deBruijn32tab), ("math/bits.deBruijn64tab", laid_math_bits_deBruijn64tab), ("internal/strconv.uint64pow10", laid_internal_strconv_uint64pow10), ("glosswright/glosswrightlaw1.none", laid_glosswright_glosswrightlaw1_none)], narrowed := true }
def FolformInstanceMatchesSpecUptoSaid : Prop := folformInstanceMatchesSpecUptoRow.holds Tryd.pinned (OpenSpec.upto folformInstanceMatchesSpecSpec)

/-- 'glosswrightlaw1.FolformInstancesOfAlike', WHERE WHAT IT READS IS OF BULK AT MOST 1048576: true; the input reads as it did. -/
def folformInstancesOfAlikeUptoRow : OpenClaim := { program := "ytdofemkfmkopcaadoor", sum := "4b473f9d03a98ce88902c73c6ad34306623242f0e1af16bac7456b05d6801d8c", func := "glosswright/glosswrightlaw1.FolformInstancesOfAlike", spec := "folformInstancesOfAlike", unfollowed := true, recurses := true, named := ["glosswright/glosswrightlaw1.none", "internal/strconv.uint64pow10", "math/bits.deBruijn32tab", "math/bits.deBruijn64tab"], loops := true, apart := false, laid := [("math/bits.deBruijn32tab", laid_math_bits_deBruijn32tab), ("math/bits.deBruijn64tab", laid_math_bits_deBruijn64tab), ("internal/strconv.uint64pow10", laid_internal_strconv_uint64pow10), ("glosswright/glosswrightlaw1.none", laid_glosswright_glosswrightlaw1_none)], narrowed := true }
def FolformInstancesOfAlikeUptoSaid : Prop := folformInstancesOfAlikeUptoRow.holds Tryd.pinned (OpenSpec.upto folformInstancesOfAlikeSpec)

/-- 'glosswrightlaw1.TruthWitnessesMatchSpec', WHERE WHAT IT READS IS OF BULK AT MOST 1048576: true; the input reads as it did. -/
def truthWitnessesMatchSpecUptoRow : OpenClaim := { program := "ytdofemkfmkopcaadoor", sum := "4b473f9d03a98ce88902c73c6ad34306623242f0e1af16bac7456b05d6801d8c", func := "glosswright/glosswrightlaw1.TruthWitnessesMatchSpec", spec := "truthWitnessesMatchSpec", unfollowed := true, recurses := true, named := ["glosswright/glosswrightlaw1.none"], loops := true, apart := false, laid := [("glosswright/glosswrightlaw1.none", laid_glosswright_glosswrightlaw1_none)], narrowed := true }
def TruthWitnessesMatchSpecUptoSaid : Prop := truthWitnessesMatchSpecUptoRow.holds Tryd.pinned (OpenSpec.upto truthWitnessesMatchSpecSpec)

end Rows
end Go.Proofs.YtdofemkfmkopcaaDoor
