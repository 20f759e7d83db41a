/-
  NARROWER THAN 'FOR EVERY INPUT', by the rows' own cells (each row's printed sentence says how): SimpleOrderGrows: loops, laid · SimpleSplitRebuilds: loops, laid.
  DERIVED. THE GIVEN ROWS OF THIS SEAT. 2 by the template 'for every input the law returns true; each argument reads behind the call as it read before'; 0 by the template 'total and deterministic' (their statements: YtafbmhjahenbeaaDoorTotals.lean).
  GIVEN WITH THE SEED: the statements are not yours to turn. If you find one false, say at which input.
  Laid BY PROGRAM, IN A SANDBOX (cutbox-rows.mjs): the forced cells as the released guide's own fill.sh prints them over the translation eaf458bdb89d31b2… (all of the seat's roots in one cut). By AI agents, Wed Nov 11 2026. No macro, syntax, notation, axiom, sorry.
-/
import Derived.Test.YtafbmhjahenbeaaDoorChecked
import GoSem.Claim
import GoSem.ClaimJoined
import GoSem.ClaimMapViews
import Derived.JoinedTies
import Derived.KernelRfl
namespace Go.Proofs.YtafbmhjahenbeaaDoor
/- THE CELL 'sum', in the pinned program and in every row, IS THE sha256 OF THE DUMP (.gsa) THAT YtafbmhjahenbeaaDoorProg.lean LOADS. Nothing in Lean hashes anything: it is a label: what it is worth is what the hold of that sum in a sandbox is worth. -/
noncomputable def Tryd.pinned : Pinned := { name := "ytafbmhjahenbeaadoor", sum := "eaf458bdb89d31b2c733ff81a8c60fdd8fc7954f7a4d597884363f1f2234cf71", checked := Tryd.checked }
namespace Rows
def none {H : Type} : Left H := { results := [], args := [] }

/- WHAT THE LISTED PACKAGE-LEVEL VARIABLES READ AS WHEN THE CALL BEGINS. Each datum BY PROGRAM (the guide's laid-datum.mjs) off the statement by which the dump's own 'gosem.cut.vars' lays the variable. In a bare row this is a premise. The card (YtafbmhjahenbeaaDoorCards.lean) ties it to the program's text. -/
def laid_glosswright_glosswrightlaw1_none {H : Type} : DataW H := .agg [.lit (.int .i64 0), .lit (.int .i64 0)]

/-- 'glosswrightlaw1.SimpleOrderGrows': WHATEVER THE INPUT: true; the input reads as it did. -/
def simpleOrderGrowsSpec : ChangeSpec := { name := "simpleOrderGrows", fn := fun _ => fun
  | [d1, d2] => { results := [.lit (.bool true)], args := [d1, d2] }
  | _ => none }
def simpleOrderGrowsRow : OpenClaim := { program := "ytafbmhjahenbeaadoor", sum := "eaf458bdb89d31b2c733ff81a8c60fdd8fc7954f7a4d597884363f1f2234cf71", func := "glosswright/glosswrightlaw1.SimpleOrderGrows", spec := "simpleOrderGrows", unfollowed := true, recurses := true, named := ["glosswright/glosswrightlaw1.none"], loops := true, apart := false, laid := [("glosswright/glosswrightlaw1.none", laid_glosswright_glosswrightlaw1_none)] }
def SimpleOrderGrowsSaid : Prop := simpleOrderGrowsRow.holds Tryd.pinned (OpenSpec.ofChange simpleOrderGrowsSpec)

/-- ITS FALSE NEIGHBOUR: 'it returns false'. Refute it at one input. -/
def simpleOrderGrowsWrong : ChangeSpec := { name := "simpleOrderGrows", fn := fun _ => fun
  | [d1, d2] => { results := [.lit (.bool false)], args := [d1, d2] }
  | _ => none }
def SimpleOrderGrowsWrongFalsely : Prop := simpleOrderGrowsRow.holds Tryd.pinned (OpenSpec.ofChange simpleOrderGrowsWrong)

/-- 'glosswrightlaw1.SimpleSplitRebuilds': WHATEVER THE INPUT: true; the input reads as it did. -/
def simpleSplitRebuildsSpec : ChangeSpec := { name := "simpleSplitRebuilds", fn := fun _ => fun
  | [d] => { results := [.lit (.bool true)], args := [d] }
  | _ => none }
def simpleSplitRebuildsRow : OpenClaim := { program := "ytafbmhjahenbeaadoor", sum := "eaf458bdb89d31b2c733ff81a8c60fdd8fc7954f7a4d597884363f1f2234cf71", func := "glosswright/glosswrightlaw1.SimpleSplitRebuilds", spec := "simpleSplitRebuilds", unfollowed := true, recurses := true, named := ["glosswright/glosswrightlaw1.none"], loops := true, apart := false, laid := [("glosswright/glosswrightlaw1.none", laid_glosswright_glosswrightlaw1_none)] }
def SimpleSplitRebuildsSaid : Prop := simpleSplitRebuildsRow.holds Tryd.pinned (OpenSpec.ofChange simpleSplitRebuildsSpec)

/-- ITS FALSE NEIGHBOUR: 'it returns false'. Refute it at one input. -/
def simpleSplitRebuildsWrong : ChangeSpec := { name := "simpleSplitRebuilds", fn := fun _ => fun
  | [d] => { results := [.lit (.bool false)], args := [d] }
  | _ => none }
def SimpleSplitRebuildsWrongFalsely : Prop := simpleSplitRebuildsRow.holds Tryd.pinned (OpenSpec.ofChange simpleSplitRebuildsWrong)

/- THE SECOND FORM. 'bulk': how many values and letters a reading holds, each counted each time it is reached (what is shared counts as often as it is met; a slice's spare places count too). A statement '..UptoSaid' is the law's where the arguments, and the package variables that the reading takes, are together of bulk at most 1048576: NARROWER than '..Said'. Prove '..Said' where nothing that the law and all that it calls make is longer than what came in: it says more and counts as full. Else prove '..UptoSaid'. A law counts once. -/
mutual
def uptoBulk {H : Type} : DataW H → Nat
  | .lit (.string bytes) => bytes.length + 1
  | .lit _ => 1
  | .nil => 1
  | .ptr d => uptoBulk d + 1
  | .slice elems spare => uptoBulkAll elems + uptoBulkAll spare + 1
  | .agg parts => uptoBulkAll parts + 1
  | .iface _ d => uptoBulk d + 1
  | .map entries => uptoBulkEntries entries + 1
  | .held _ => 1
def uptoBulkAll {H : Type} : List (DataW H) → Nat
  | [] => 0
  | d :: r => uptoBulk d + uptoBulkAll r
def uptoBulkEntries {H : Type} : List (Lit × DataW H) → Nat
  | [] => 0
  | x :: r => uptoBulkEntry x + uptoBulkEntries r
def uptoBulkEntry {H : Type} : Lit × DataW H → Nat
  | (.string bytes, d) => bytes.length + uptoBulk d + 1
  | (_, d) => uptoBulk d + 1
 end
def uptoSmall : (H : Type) → List (DataW H) → Bool := fun _ ds => decide (uptoBulkAll ds ≤ 1048576)
def OpenSpec.upto (s : _root_.Go.ChangeSpec) : _root_.Go.OpenSpec := { _root_.Go.OpenSpec.ofChange s with cond := some uptoSmall }

/-- 'glosswrightlaw1.SimpleOrderGrows', WHERE WHAT IT READS IS OF BULK AT MOST 1048576: true; the input reads as it did. -/
def simpleOrderGrowsUptoRow : OpenClaim := { program := "ytafbmhjahenbeaadoor", sum := "eaf458bdb89d31b2c733ff81a8c60fdd8fc7954f7a4d597884363f1f2234cf71", func := "glosswright/glosswrightlaw1.SimpleOrderGrows", spec := "simpleOrderGrows", unfollowed := true, recurses := true, named := ["glosswright/glosswrightlaw1.none"], loops := true, apart := false, laid := [("glosswright/glosswrightlaw1.none", laid_glosswright_glosswrightlaw1_none)], narrowed := true }
def SimpleOrderGrowsUptoSaid : Prop := simpleOrderGrowsUptoRow.holds Tryd.pinned (OpenSpec.upto simpleOrderGrowsSpec)

/-- 'glosswrightlaw1.SimpleSplitRebuilds', WHERE WHAT IT READS IS OF BULK AT MOST 1048576: true; the input reads as it did. -/
def simpleSplitRebuildsUptoRow : OpenClaim := { program := "ytafbmhjahenbeaadoor", sum := "eaf458bdb89d31b2c733ff81a8c60fdd8fc7954f7a4d597884363f1f2234cf71", func := "glosswright/glosswrightlaw1.SimpleSplitRebuilds", spec := "simpleSplitRebuilds", unfollowed := true, recurses := true, named := ["glosswright/glosswrightlaw1.none"], loops := true, apart := false, laid := [("glosswright/glosswrightlaw1.none", laid_glosswright_glosswrightlaw1_none)], narrowed := true }
def SimpleSplitRebuildsUptoSaid : Prop := simpleSplitRebuildsUptoRow.holds Tryd.pinned (OpenSpec.upto simpleSplitRebuildsSpec)

end Rows
end Go.Proofs.YtafbmhjahenbeaaDoor
