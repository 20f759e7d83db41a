/-
  NARROWER THAN 'FOR EVERY INPUT', by the rows' own cells (each row's printed sentence says how): ReduceStepMatchesSpec: loops, laid · ReduceNormalMatchesSpec: loops, laid · ReduceStepsLeadOn: loops, laid · ReducePartsFirst: loops, laid · ReduceLongMatchesSpec: loops, laid · ReduceUndoesBind: loops, laid · ReduceKeepsTypes: loops, laid · ReduceIsDone: loops, laid · ReduceEqualMatchesSpec: loops, laid.
  DERIVED. THE GIVEN ROWS OF THIS SEAT. 9 by the template 'for every input the law returns true; each argument reads behind the call as it read before'; 0 by the template 'total and deterministic' (their statements: YthflahcnkhmpaabDoorTotals.lean).
  GIVEN WITH THE SEED: the statements are not yours to turn. If you find one false, say at which input.
  Laid BY PROGRAM, IN A SANDBOX (cutbox-rows.mjs): the forced cells as the released guide's own fill.sh prints them over the translation 7d2fed835c4d04f2… (all of the seat's roots in one cut). By AI agents, Wed Nov 11 2026. No macro, syntax, notation, axiom, sorry.
-/
import Derived.Test.YthflahcnkhmpaabDoorChecked
import GoSem.Claim
import GoSem.ClaimJoined
import GoSem.ClaimMapViews
import Derived.JoinedTies
import Derived.KernelRfl
namespace Go.Proofs.YthflahcnkhmpaabDoor
/- THE CELL 'sum', in the pinned program and in every row, IS THE sha256 OF THE DUMP (.gsa) THAT YthflahcnkhmpaabDoorProg.lean LOADS. Nothing in Lean hashes anything: it is a label: what it is worth is what the hold of that sum in a sandbox is worth. -/
noncomputable def Tryd.pinned : Pinned := { name := "ythflahcnkhmpaabdoor", sum := "7d2fed835c4d04f29768e73a841ef6ff93d4e8bbf4394d9cf442fe0b64ef67c9", checked := Tryd.checked }
namespace Rows
def none {H : Type} : Left H := { results := [], args := [] }

/- WHAT THE LISTED PACKAGE-LEVEL VARIABLES READ AS WHEN THE CALL BEGINS. Each datum BY PROGRAM (the guide's laid-datum.mjs) off the statement by which the dump's own 'gosem.cut.vars' lays the variable. In a bare row this is a premise. The card (YthflahcnkhmpaabDoorCards.lean) ties it to the program's text. -/
def laid_glosswright_glosswrightlaw1_none {H : Type} : DataW H := .agg [.lit (.int .i64 0), .lit (.int .i64 0)]

/-- 'glosswrightlaw1.ReduceStepMatchesSpec': WHATEVER THE INPUT: true; the input reads as it did. -/
def reduceStepMatchesSpecSpec : ChangeSpec := { name := "reduceStepMatchesSpec", fn := fun _ => fun
  | [d] => { results := [.lit (.bool true)], args := [d] }
  | _ => none }
def reduceStepMatchesSpecRow : OpenClaim := { program := "ythflahcnkhmpaabdoor", sum := "7d2fed835c4d04f29768e73a841ef6ff93d4e8bbf4394d9cf442fe0b64ef67c9", func := "glosswright/glosswrightlaw1.ReduceStepMatchesSpec", spec := "reduceStepMatchesSpec", unfollowed := true, recurses := true, named := ["glosswright/glosswrightlaw1.none"], loops := true, apart := false, laid := [("glosswright/glosswrightlaw1.none", laid_glosswright_glosswrightlaw1_none)] }
def ReduceStepMatchesSpecSaid : Prop := reduceStepMatchesSpecRow.holds Tryd.pinned (OpenSpec.ofChange reduceStepMatchesSpecSpec)

/-- ITS FALSE NEIGHBOUR: 'it returns false'. Refute it at one input. -/
def reduceStepMatchesSpecWrong : ChangeSpec := { name := "reduceStepMatchesSpec", fn := fun _ => fun
  | [d] => { results := [.lit (.bool false)], args := [d] }
  | _ => none }
def ReduceStepMatchesSpecWrongFalsely : Prop := reduceStepMatchesSpecRow.holds Tryd.pinned (OpenSpec.ofChange reduceStepMatchesSpecWrong)

/-- 'glosswrightlaw1.ReduceNormalMatchesSpec': WHATEVER THE INPUT: true; the input reads as it did. -/
def reduceNormalMatchesSpecSpec : ChangeSpec := { name := "reduceNormalMatchesSpec", fn := fun _ => fun
  | [d] => { results := [.lit (.bool true)], args := [d] }
  | _ => none }
def reduceNormalMatchesSpecRow : OpenClaim := { program := "ythflahcnkhmpaabdoor", sum := "7d2fed835c4d04f29768e73a841ef6ff93d4e8bbf4394d9cf442fe0b64ef67c9", func := "glosswright/glosswrightlaw1.ReduceNormalMatchesSpec", spec := "reduceNormalMatchesSpec", unfollowed := true, recurses := true, named := ["glosswright/glosswrightlaw1.none"], loops := true, apart := false, laid := [("glosswright/glosswrightlaw1.none", laid_glosswright_glosswrightlaw1_none)] }
def ReduceNormalMatchesSpecSaid : Prop := reduceNormalMatchesSpecRow.holds Tryd.pinned (OpenSpec.ofChange reduceNormalMatchesSpecSpec)

/-- ITS FALSE NEIGHBOUR: 'it returns false'. Refute it at one input. -/
def reduceNormalMatchesSpecWrong : ChangeSpec := { name := "reduceNormalMatchesSpec", fn := fun _ => fun
  | [d] => { results := [.lit (.bool false)], args := [d] }
  | _ => none }
def ReduceNormalMatchesSpecWrongFalsely : Prop := reduceNormalMatchesSpecRow.holds Tryd.pinned (OpenSpec.ofChange reduceNormalMatchesSpecWrong)

/-- 'glosswrightlaw1.ReduceStepsLeadOn': WHATEVER THE INPUT: true; the input reads as it did. -/
def reduceStepsLeadOnSpec : ChangeSpec := { name := "reduceStepsLeadOn", fn := fun _ => fun
  | [d] => { results := [.lit (.bool true)], args := [d] }
  | _ => none }
def reduceStepsLeadOnRow : OpenClaim := { program := "ythflahcnkhmpaabdoor", sum := "7d2fed835c4d04f29768e73a841ef6ff93d4e8bbf4394d9cf442fe0b64ef67c9", func := "glosswright/glosswrightlaw1.ReduceStepsLeadOn", spec := "reduceStepsLeadOn", unfollowed := true, recurses := true, named := ["glosswright/glosswrightlaw1.none"], loops := true, apart := false, laid := [("glosswright/glosswrightlaw1.none", laid_glosswright_glosswrightlaw1_none)] }
def ReduceStepsLeadOnSaid : Prop := reduceStepsLeadOnRow.holds Tryd.pinned (OpenSpec.ofChange reduceStepsLeadOnSpec)

/-- ITS FALSE NEIGHBOUR: 'it returns false'. Refute it at one input. -/
def reduceStepsLeadOnWrong : ChangeSpec := { name := "reduceStepsLeadOn", fn := fun _ => fun
  | [d] => { results := [.lit (.bool false)], args := [d] }
  | _ => none }
def ReduceStepsLeadOnWrongFalsely : Prop := reduceStepsLeadOnRow.holds Tryd.pinned (OpenSpec.ofChange reduceStepsLeadOnWrong)

/-- 'glosswrightlaw1.ReducePartsFirst': WHATEVER THE INPUT: true; the input reads as it did. -/
def reducePartsFirstSpec : ChangeSpec := { name := "reducePartsFirst", fn := fun _ => fun
  | [d1, d2] => { results := [.lit (.bool true)], args := [d1, d2] }
  | _ => none }
def reducePartsFirstRow : OpenClaim := { program := "ythflahcnkhmpaabdoor", sum := "7d2fed835c4d04f29768e73a841ef6ff93d4e8bbf4394d9cf442fe0b64ef67c9", func := "glosswright/glosswrightlaw1.ReducePartsFirst", spec := "reducePartsFirst", unfollowed := true, recurses := true, named := ["glosswright/glosswrightlaw1.none"], loops := true, apart := false, laid := [("glosswright/glosswrightlaw1.none", laid_glosswright_glosswrightlaw1_none)] }
def ReducePartsFirstSaid : Prop := reducePartsFirstRow.holds Tryd.pinned (OpenSpec.ofChange reducePartsFirstSpec)

/-- ITS FALSE NEIGHBOUR: 'it returns false'. Refute it at one input. -/
def reducePartsFirstWrong : ChangeSpec := { name := "reducePartsFirst", fn := fun _ => fun
  | [d1, d2] => { results := [.lit (.bool false)], args := [d1, d2] }
  | _ => none }
def ReducePartsFirstWrongFalsely : Prop := reducePartsFirstRow.holds Tryd.pinned (OpenSpec.ofChange reducePartsFirstWrong)

/-- 'glosswrightlaw1.ReduceLongMatchesSpec': WHATEVER THE INPUT: true; the input reads as it did. -/
def reduceLongMatchesSpecSpec : ChangeSpec := { name := "reduceLongMatchesSpec", fn := fun _ => fun
  | [d] => { results := [.lit (.bool true)], args := [d] }
  | _ => none }
def reduceLongMatchesSpecRow : OpenClaim := { program := "ythflahcnkhmpaabdoor", sum := "7d2fed835c4d04f29768e73a841ef6ff93d4e8bbf4394d9cf442fe0b64ef67c9", func := "glosswright/glosswrightlaw1.ReduceLongMatchesSpec", spec := "reduceLongMatchesSpec", unfollowed := true, recurses := true, named := ["glosswright/glosswrightlaw1.none"], loops := true, apart := false, laid := [("glosswright/glosswrightlaw1.none", laid_glosswright_glosswrightlaw1_none)] }
def ReduceLongMatchesSpecSaid : Prop := reduceLongMatchesSpecRow.holds Tryd.pinned (OpenSpec.ofChange reduceLongMatchesSpecSpec)

/-- ITS FALSE NEIGHBOUR: 'it returns false'. Refute it at one input. -/
def reduceLongMatchesSpecWrong : ChangeSpec := { name := "reduceLongMatchesSpec", fn := fun _ => fun
  | [d] => { results := [.lit (.bool false)], args := [d] }
  | _ => none }
def ReduceLongMatchesSpecWrongFalsely : Prop := reduceLongMatchesSpecRow.holds Tryd.pinned (OpenSpec.ofChange reduceLongMatchesSpecWrong)

/-- 'glosswrightlaw1.ReduceUndoesBind': WHATEVER THE INPUT: true; the input reads as it did. -/
def reduceUndoesBindSpec : ChangeSpec := { name := "reduceUndoesBind", fn := fun _ => fun
  | [d1, d2] => { results := [.lit (.bool true)], args := [d1, d2] }
  | _ => none }
def reduceUndoesBindRow : OpenClaim := { program := "ythflahcnkhmpaabdoor", sum := "7d2fed835c4d04f29768e73a841ef6ff93d4e8bbf4394d9cf442fe0b64ef67c9", func := "glosswright/glosswrightlaw1.ReduceUndoesBind", spec := "reduceUndoesBind", unfollowed := true, recurses := true, named := ["glosswright/glosswrightlaw1.none"], loops := true, apart := false, laid := [("glosswright/glosswrightlaw1.none", laid_glosswright_glosswrightlaw1_none)] }
def ReduceUndoesBindSaid : Prop := reduceUndoesBindRow.holds Tryd.pinned (OpenSpec.ofChange reduceUndoesBindSpec)

/-- ITS FALSE NEIGHBOUR: 'it returns false'. Refute it at one input. -/
def reduceUndoesBindWrong : ChangeSpec := { name := "reduceUndoesBind", fn := fun _ => fun
  | [d1, d2] => { results := [.lit (.bool false)], args := [d1, d2] }
  | _ => none }
def ReduceUndoesBindWrongFalsely : Prop := reduceUndoesBindRow.holds Tryd.pinned (OpenSpec.ofChange reduceUndoesBindWrong)

/-- 'glosswrightlaw1.ReduceKeepsTypes': WHATEVER THE INPUT: true; the input reads as it did. -/
def reduceKeepsTypesSpec : ChangeSpec := { name := "reduceKeepsTypes", fn := fun _ => fun
  | [d] => { results := [.lit (.bool true)], args := [d] }
  | _ => none }
def reduceKeepsTypesRow : OpenClaim := { program := "ythflahcnkhmpaabdoor", sum := "7d2fed835c4d04f29768e73a841ef6ff93d4e8bbf4394d9cf442fe0b64ef67c9", func := "glosswright/glosswrightlaw1.ReduceKeepsTypes", spec := "reduceKeepsTypes", unfollowed := true, recurses := true, named := ["glosswright/glosswrightlaw1.none"], loops := true, apart := false, laid := [("glosswright/glosswrightlaw1.none", laid_glosswright_glosswrightlaw1_none)] }
def ReduceKeepsTypesSaid : Prop := reduceKeepsTypesRow.holds Tryd.pinned (OpenSpec.ofChange reduceKeepsTypesSpec)

/-- ITS FALSE NEIGHBOUR: 'it returns false'. Refute it at one input. -/
def reduceKeepsTypesWrong : ChangeSpec := { name := "reduceKeepsTypes", fn := fun _ => fun
  | [d] => { results := [.lit (.bool false)], args := [d] }
  | _ => none }
def ReduceKeepsTypesWrongFalsely : Prop := reduceKeepsTypesRow.holds Tryd.pinned (OpenSpec.ofChange reduceKeepsTypesWrong)

/-- 'glosswrightlaw1.ReduceIsDone': WHATEVER THE INPUT: true; the input reads as it did. -/
def reduceIsDoneSpec : ChangeSpec := { name := "reduceIsDone", fn := fun _ => fun
  | [d] => { results := [.lit (.bool true)], args := [d] }
  | _ => none }
def reduceIsDoneRow : OpenClaim := { program := "ythflahcnkhmpaabdoor", sum := "7d2fed835c4d04f29768e73a841ef6ff93d4e8bbf4394d9cf442fe0b64ef67c9", func := "glosswright/glosswrightlaw1.ReduceIsDone", spec := "reduceIsDone", unfollowed := true, recurses := true, named := ["glosswright/glosswrightlaw1.none"], loops := true, apart := false, laid := [("glosswright/glosswrightlaw1.none", laid_glosswright_glosswrightlaw1_none)] }
def ReduceIsDoneSaid : Prop := reduceIsDoneRow.holds Tryd.pinned (OpenSpec.ofChange reduceIsDoneSpec)

/-- ITS FALSE NEIGHBOUR: 'it returns false'. Refute it at one input. -/
def reduceIsDoneWrong : ChangeSpec := { name := "reduceIsDone", fn := fun _ => fun
  | [d] => { results := [.lit (.bool false)], args := [d] }
  | _ => none }
def ReduceIsDoneWrongFalsely : Prop := reduceIsDoneRow.holds Tryd.pinned (OpenSpec.ofChange reduceIsDoneWrong)

/-- 'glosswrightlaw1.ReduceEqualMatchesSpec': WHATEVER THE INPUT: true; the input reads as it did. -/
def reduceEqualMatchesSpecSpec : ChangeSpec := { name := "reduceEqualMatchesSpec", fn := fun _ => fun
  | [d1, d2] => { results := [.lit (.bool true)], args := [d1, d2] }
  | _ => none }
def reduceEqualMatchesSpecRow : OpenClaim := { program := "ythflahcnkhmpaabdoor", sum := "7d2fed835c4d04f29768e73a841ef6ff93d4e8bbf4394d9cf442fe0b64ef67c9", func := "glosswright/glosswrightlaw1.ReduceEqualMatchesSpec", spec := "reduceEqualMatchesSpec", unfollowed := true, recurses := true, named := ["glosswright/glosswrightlaw1.none"], loops := true, apart := false, laid := [("glosswright/glosswrightlaw1.none", laid_glosswright_glosswrightlaw1_none)] }
def ReduceEqualMatchesSpecSaid : Prop := reduceEqualMatchesSpecRow.holds Tryd.pinned (OpenSpec.ofChange reduceEqualMatchesSpecSpec)

/-- ITS FALSE NEIGHBOUR: 'it returns false'. Refute it at one input. -/
def reduceEqualMatchesSpecWrong : ChangeSpec := { name := "reduceEqualMatchesSpec", fn := fun _ => fun
  | [d1, d2] => { results := [.lit (.bool false)], args := [d1, d2] }
  | _ => none }
def ReduceEqualMatchesSpecWrongFalsely : Prop := reduceEqualMatchesSpecRow.holds Tryd.pinned (OpenSpec.ofChange reduceEqualMatchesSpecWrong)

/- THE SECOND FORM. 'bulk': how many values and letters a reading holds, each counted each time it is reached (what is shared counts as often as it is met; a slice's spare places count too). A statement '..UptoSaid' is the law's where the arguments, and the package variables that the reading takes, are together of bulk at most 1048576: NARROWER than '..Said'. Prove '..Said' where nothing that the law and all that it calls make is longer than what came in: it says more and counts as full. Else prove '..UptoSaid'. A law counts once. -/
mutual
def uptoBulk {H : Type} : DataW H → Nat
  | .lit (.string bytes) => bytes.length + 1
  | .lit _ => 1
  | .nil => 1
  | .ptr d => uptoBulk d + 1
  | .slice elems spare => uptoBulkAll elems + uptoBulkAll spare + 1
  | .agg parts => uptoBulkAll parts + 1
  | .iface _ d => uptoBulk d + 1
  | .map entries => uptoBulkEntries entries + 1
  | .held _ => 1
def uptoBulkAll {H : Type} : List (DataW H) → Nat
  | [] => 0
  | d :: r => uptoBulk d + uptoBulkAll r
def uptoBulkEntries {H : Type} : List (Lit × DataW H) → Nat
  | [] => 0
  | x :: r => uptoBulkEntry x + uptoBulkEntries r
def uptoBulkEntry {H : Type} : Lit × DataW H → Nat
  | (.string bytes, d) => bytes.length + uptoBulk d + 1
  | (_, d) => uptoBulk d + 1
 end
def uptoSmall : (H : Type) → List (DataW H) → Bool := fun _ ds => decide (uptoBulkAll ds ≤ 1048576)
def OpenSpec.upto (s : _root_.Go.ChangeSpec) : _root_.Go.OpenSpec := { _root_.Go.OpenSpec.ofChange s with cond := some uptoSmall }

/-- 'glosswrightlaw1.ReduceStepMatchesSpec', WHERE WHAT IT READS IS OF BULK AT MOST 1048576: true; the input reads as it did. -/
def reduceStepMatchesSpecUptoRow : OpenClaim := { program := "ythflahcnkhmpaabdoor", sum := "7d2fed835c4d04f29768e73a841ef6ff93d4e8bbf4394d9cf442fe0b64ef67c9", func := "glosswright/glosswrightlaw1.ReduceStepMatchesSpec", spec := "reduceStepMatchesSpec", unfollowed := true, recurses := true, named := ["glosswright/glosswrightlaw1.none"], loops := true, apart := false, laid := [("glosswright/glosswrightlaw1.none", laid_glosswright_glosswrightlaw1_none)], narrowed := true }
def ReduceStepMatchesSpecUptoSaid : Prop := reduceStepMatchesSpecUptoRow.holds Tryd.pinned (OpenSpec.upto reduceStepMatchesSpecSpec)

/-- 'glosswrightlaw1.ReduceNormalMatchesSpec', WHERE WHAT IT READS IS OF BULK AT MOST 1048576: true; the input reads as it did. -/
def reduceNormalMatchesSpecUptoRow : OpenClaim := { program := "ythflahcnkhmpaabdoor", sum := "7d2fed835c4d04f29768e73a841ef6ff93d4e8bbf4394d9cf442fe0b64ef67c9", func := "glosswright/glosswrightlaw1.ReduceNormalMatchesSpec", spec := "reduceNormalMatchesSpec", unfollowed := true, recurses := true, named := ["glosswright/glosswrightlaw1.none"], loops := true, apart := false, laid := [("glosswright/glosswrightlaw1.none", laid_glosswright_glosswrightlaw1_none)], narrowed := true }
def ReduceNormalMatchesSpecUptoSaid : Prop := reduceNormalMatchesSpecUptoRow.holds Tryd.pinned (OpenSpec.upto reduceNormalMatchesSpecSpec)

/-- 'glosswrightlaw1.ReduceStepsLeadOn', WHERE WHAT IT READS IS OF BULK AT MOST 1048576: true; the input reads as it did. -/
def reduceStepsLeadOnUptoRow : OpenClaim := { program := "ythflahcnkhmpaabdoor", sum := "7d2fed835c4d04f29768e73a841ef6ff93d4e8bbf4394d9cf442fe0b64ef67c9", func := "glosswright/glosswrightlaw1.ReduceStepsLeadOn", spec := "reduceStepsLeadOn", unfollowed := true, recurses := true, named := ["glosswright/glosswrightlaw1.none"], loops := true, apart := false, laid := [("glosswright/glosswrightlaw1.none", laid_glosswright_glosswrightlaw1_none)], narrowed := true }
def ReduceStepsLeadOnUptoSaid : Prop := reduceStepsLeadOnUptoRow.holds Tryd.pinned (OpenSpec.upto reduceStepsLeadOnSpec)

/-- 'glosswrightlaw1.ReducePartsFirst', WHERE WHAT IT READS IS OF BULK AT MOST 1048576: true; the input reads as it did. -/
def reducePartsFirstUptoRow : OpenClaim := { program := "ythflahcnkhmpaabdoor", sum := "7d2fed835c4d04f29768e73a841ef6ff93d4e8bbf4394d9cf442fe0b64ef67c9", func := "glosswright/glosswrightlaw1.ReducePartsFirst", spec := "reducePartsFirst", unfollowed := true, recurses := true, named := ["glosswright/glosswrightlaw1.none"], loops := true, apart := false, laid := [("glosswright/glosswrightlaw1.none", laid_glosswright_glosswrightlaw1_none)], narrowed := true }
def ReducePartsFirstUptoSaid : Prop := reducePartsFirstUptoRow.holds Tryd.pinned (OpenSpec.upto reducePartsFirstSpec)

/-- 'glosswrightlaw1.ReduceLongMatchesSpec', WHERE WHAT IT READS IS OF BULK AT MOST 1048576: true; the input reads as it did. -/
def reduceLongMatchesSpecUptoRow : OpenClaim := { program := "ythflahcnkhmpaabdoor", sum := "7d2fed835c4d04f29768e73a841ef6ff93d4e8bbf4394d9cf442fe0b64ef67c9", func := "glosswright/glosswrightlaw1.ReduceLongMatchesSpec", spec := "reduceLongMatchesSpec", unfollowed := true, recurses := true, named := ["glosswright/glosswrightlaw1.none"], loops := true, apart := false, laid := [("glosswright/glosswrightlaw1.none", laid_glosswright_glosswrightlaw1_none)], narrowed := true }
def ReduceLongMatchesSpecUptoSaid : Prop := reduceLongMatchesSpecUptoRow.holds Tryd.pinned (OpenSpec.upto reduceLongMatchesSpecSpec)

/-- 'glosswrightlaw1.ReduceUndoesBind', WHERE WHAT IT READS IS OF BULK AT MOST 1048576: true; the input reads as it did. -/
def reduceUndoesBindUptoRow : OpenClaim := { program := "ythflahcnkhmpaabdoor", sum := "7d2fed835c4d04f29768e73a841ef6ff93d4e8bbf4394d9cf442fe0b64ef67c9", func := "glosswright/glosswrightlaw1.ReduceUndoesBind", spec := "reduceUndoesBind", unfollowed := true, recurses := true, named := ["glosswright/glosswrightlaw1.none"], loops := true, apart := false, laid := [("glosswright/glosswrightlaw1.none", laid_glosswright_glosswrightlaw1_none)], narrowed := true }
def ReduceUndoesBindUptoSaid : Prop := reduceUndoesBindUptoRow.holds Tryd.pinned (OpenSpec.upto reduceUndoesBindSpec)

/-- 'glosswrightlaw1.ReduceKeepsTypes', WHERE WHAT IT READS IS OF BULK AT MOST 1048576: true; the input reads as it did. -/
def reduceKeepsTypesUptoRow : OpenClaim := { program := "ythflahcnkhmpaabdoor", sum := "7d2fed835c4d04f29768e73a841ef6ff93d4e8bbf4394d9cf442fe0b64ef67c9", func := "glosswright/glosswrightlaw1.ReduceKeepsTypes", spec := "reduceKeepsTypes", unfollowed := true, recurses := true, named := ["glosswright/glosswrightlaw1.none"], loops := true, apart := false, laid := [("glosswright/glosswrightlaw1.none", laid_glosswright_glosswrightlaw1_none)], narrowed := true }
def ReduceKeepsTypesUptoSaid : Prop := reduceKeepsTypesUptoRow.holds Tryd.pinned (OpenSpec.upto reduceKeepsTypesSpec)

/-- 'glosswrightlaw1.ReduceIsDone', WHERE WHAT IT READS IS OF BULK AT MOST 1048576: true; the input reads as it did. -/
def reduceIsDoneUptoRow : OpenClaim := { program := "ythflahcnkhmpaabdoor", sum := "7d2fed835c4d04f29768e73a841ef6ff93d4e8bbf4394d9cf442fe0b64ef67c9", func := "glosswright/glosswrightlaw1.ReduceIsDone", spec := "reduceIsDone", unfollowed := true, recurses := true, named := ["glosswright/glosswrightlaw1.none"], loops := true, apart := false, laid := [("glosswright/glosswrightlaw1.none", laid_glosswright_glosswrightlaw1_none)], narrowed := true }
def ReduceIsDoneUptoSaid : Prop := reduceIsDoneUptoRow.holds Tryd.pinned (OpenSpec.upto reduceIsDoneSpec)

/-- 'glosswrightlaw1.ReduceEqualMatchesSpec', WHERE WHAT IT READS IS OF BULK AT MOST 1048576: true; the input reads as it did. -/
def reduceEqualMatchesSpecUptoRow : OpenClaim := { program := "ythflahcnkhmpaabdoor", sum := "7d2fed835c4d04f29768e73a841ef6ff93d4e8bbf4394d9cf442fe0b64ef67c9", func := "glosswright/glosswrightlaw1.ReduceEqualMatchesSpec", spec := "reduceEqualMatchesSpec", unfollowed := true, recurses := true, named := ["glosswright/glosswrightlaw1.none"], loops := true, apart := false, laid := [("glosswright/glosswrightlaw1.none", laid_glosswright_glosswrightlaw1_none)], narrowed := true }
def ReduceEqualMatchesSpecUptoSaid : Prop := reduceEqualMatchesSpecUptoRow.holds Tryd.pinned (OpenSpec.upto reduceEqualMatchesSpecSpec)

end Rows
end Go.Proofs.YthflahcnkhmpaabDoor
