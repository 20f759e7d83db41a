/-
  NARROWER THAN 'FOR EVERY INPUT', by the rows' own cells (each row's printed sentence says how): TruthModelsMatchSpec: laid · FolformReadMatchesSpec: laid · FolformTextsRoundTrip: loops, laid.
  DERIVED. THE GIVEN ROWS OF THIS SEAT. 3 by the template 'for every input the law returns true; each argument reads behind the call as it read before'; 0 by the template 'total and deterministic' (their statements: YtnoceodmnjhljabDoorTotals.lean).
  GIVEN WITH THE SEED: the statements are not yours to turn. If you find one false, say at which input.
  Laid BY PROGRAM, IN A SANDBOX (cutbox-rows.mjs): the forced cells as the released guide's own fill.sh prints them over the translation cdf1d65ccf4a8a8c… (all of the seat's roots in one cut). By AI agents, Wed Nov 11 2026. No macro, syntax, notation, axiom, sorry.
-/
import Derived.Test.YtnoceodmnjhljabDoorChecked
import GoSem.Claim
import GoSem.ClaimJoined
import GoSem.ClaimMapViews
import Derived.JoinedTies
import Derived.KernelRfl
namespace Go.Proofs.YtnoceodmnjhljabDoor
/- THE CELL 'sum', in the pinned program and in every row, IS THE sha256 OF THE DUMP (.gsa) THAT YtnoceodmnjhljabDoorProg.lean LOADS. Nothing in Lean hashes anything: it is a label: what it is worth is what the hold of that sum in a sandbox is worth. -/
noncomputable def Tryd.pinned : Pinned := { name := "ytnoceodmnjhljabdoor", sum := "cdf1d65ccf4a8a8cf8a97e9ad86784f4b5d7ea41d11a87c3fb988b374090b8d8", checked := Tryd.checked }
namespace Rows
def none {H : Type} : Left H := { results := [], args := [] }

/- WHAT THE LISTED PACKAGE-LEVEL VARIABLES READ AS WHEN THE CALL BEGINS. Each datum BY PROGRAM (the guide's laid-datum.mjs) off the statement by which the dump's own 'gosem.cut.vars' lays the variable. In a bare row this is a premise. The card (YtnoceodmnjhljabDoorCards.lean) ties it to the program's text. -/
def laid_glosswright_glosswrightlaw1_none {H : Type} : DataW H := .agg [.lit (.int .i64 0), .lit (.int .i64 0)]

/-- 'glosswrightlaw1.TruthModelsMatchSpec': WHATEVER THE INPUT: true; the input reads as it did. -/
def truthModelsMatchSpecSpec : ChangeSpec := { name := "truthModelsMatchSpec", fn := fun _ => fun
  | [d] => { results := [.lit (.bool true)], args := [d] }
  | _ => none }
def truthModelsMatchSpecRow : OpenClaim := { program := "ytnoceodmnjhljabdoor", sum := "cdf1d65ccf4a8a8cf8a97e9ad86784f4b5d7ea41d11a87c3fb988b374090b8d8", func := "glosswright/glosswrightlaw1.TruthModelsMatchSpec", spec := "truthModelsMatchSpec", unfollowed := true, recurses := true, named := ["glosswright/glosswrightlaw1.none"], apart := false, laid := [("glosswright/glosswrightlaw1.none", laid_glosswright_glosswrightlaw1_none)] }
def TruthModelsMatchSpecSaid : Prop := truthModelsMatchSpecRow.holds Tryd.pinned (OpenSpec.ofChange truthModelsMatchSpecSpec)

/-- ITS FALSE NEIGHBOUR: 'it returns false'. Refute it at one input. -/
def truthModelsMatchSpecWrong : ChangeSpec := { name := "truthModelsMatchSpec", fn := fun _ => fun
  | [d] => { results := [.lit (.bool false)], args := [d] }
  | _ => none }
def TruthModelsMatchSpecWrongFalsely : Prop := truthModelsMatchSpecRow.holds Tryd.pinned (OpenSpec.ofChange truthModelsMatchSpecWrong)

/-- 'glosswrightlaw1.FolformReadMatchesSpec': WHATEVER THE INPUT: true; the input reads as it did. -/
def folformReadMatchesSpecSpec : ChangeSpec := { name := "folformReadMatchesSpec", fn := fun _ => fun
  | [d] => { results := [.lit (.bool true)], args := [d] }
  | _ => none }
def folformReadMatchesSpecRow : OpenClaim := { program := "ytnoceodmnjhljabdoor", sum := "cdf1d65ccf4a8a8cf8a97e9ad86784f4b5d7ea41d11a87c3fb988b374090b8d8", func := "glosswright/glosswrightlaw1.FolformReadMatchesSpec", spec := "folformReadMatchesSpec", recurses := true, named := ["glosswright/glosswrightlaw1.none"], apart := false, laid := [("glosswright/glosswrightlaw1.none", laid_glosswright_glosswrightlaw1_none)] }
def FolformReadMatchesSpecSaid : Prop := folformReadMatchesSpecRow.holds Tryd.pinned (OpenSpec.ofChange folformReadMatchesSpecSpec)

/-- ITS FALSE NEIGHBOUR: 'it returns false'. Refute it at one input. -/
def folformReadMatchesSpecWrong : ChangeSpec := { name := "folformReadMatchesSpec", fn := fun _ => fun
  | [d] => { results := [.lit (.bool false)], args := [d] }
  | _ => none }
def FolformReadMatchesSpecWrongFalsely : Prop := folformReadMatchesSpecRow.holds Tryd.pinned (OpenSpec.ofChange folformReadMatchesSpecWrong)

/-- 'glosswrightlaw1.FolformTextsRoundTrip': WHATEVER THE INPUT: true; the input reads as it did. -/
def folformTextsRoundTripSpec : ChangeSpec := { name := "folformTextsRoundTrip", fn := fun _ => fun
  | [d] => { results := [.lit (.bool true)], args := [d] }
  | _ => none }
def folformTextsRoundTripRow : OpenClaim := { program := "ytnoceodmnjhljabdoor", sum := "cdf1d65ccf4a8a8cf8a97e9ad86784f4b5d7ea41d11a87c3fb988b374090b8d8", func := "glosswright/glosswrightlaw1.FolformTextsRoundTrip", spec := "folformTextsRoundTrip", inPlace := ["internal/abi.NoEscape", "internal/bytealg.MakeNoZero"], unfollowed := true, recurses := true, named := ["glosswright/glosswrightlaw1.none"], loops := true, apart := false, laid := [("glosswright/glosswrightlaw1.none", laid_glosswright_glosswrightlaw1_none)] }
def FolformTextsRoundTripSaid : Prop := folformTextsRoundTripRow.holds Tryd.pinned (OpenSpec.ofChange folformTextsRoundTripSpec)

/-- ITS FALSE NEIGHBOUR: 'it returns false'. Refute it at one input. -/
def folformTextsRoundTripWrong : ChangeSpec := { name := "folformTextsRoundTrip", fn := fun _ => fun
  | [d] => { results := [.lit (.bool false)], args := [d] }
  | _ => none }
def FolformTextsRoundTripWrongFalsely : Prop := folformTextsRoundTripRow.holds Tryd.pinned (OpenSpec.ofChange folformTextsRoundTripWrong)

/- THE SECOND FORM. 'bulk': how many values and letters a reading holds, each counted each time it is reached (what is shared counts as often as it is met; a slice's spare places count too). A statement '..UptoSaid' is the law's where the arguments, and the package variables that the reading takes, are together of bulk at most 1048576: NARROWER than '..Said'. Prove '..Said' where nothing that the law and all that it calls make is longer than what came in: it says more and counts as full. Else prove '..UptoSaid'. A law counts once. -/
mutual
def uptoBulk {H : Type} : DataW H → Nat
  | .lit (.string bytes) => bytes.length + 1
  | .lit _ => 1
  | .nil => 1
  | .ptr d => uptoBulk d + 1
  | .slice elems spare => uptoBulkAll elems + uptoBulkAll spare + 1
  | .agg parts => uptoBulkAll parts + 1
  | .iface _ d => uptoBulk d + 1
  | .map entries => uptoBulkEntries entries + 1
  | .held _ => 1
def uptoBulkAll {H : Type} : List (DataW H) → Nat
  | [] => 0
  | d :: r => uptoBulk d + uptoBulkAll r
def uptoBulkEntries {H : Type} : List (Lit × DataW H) → Nat
  | [] => 0
  | x :: r => uptoBulkEntry x + uptoBulkEntries r
def uptoBulkEntry {H : Type} : Lit × DataW H → Nat
  | (.string bytes, d) => bytes.length + uptoBulk d + 1
  | (_, d) => uptoBulk d + 1
 end
def uptoSmall : (H : Type) → List (DataW H) → Bool := fun _ ds => decide (uptoBulkAll ds ≤ 1048576)
def OpenSpec.upto (s : _root_.Go.ChangeSpec) : _root_.Go.OpenSpec := { _root_.Go.OpenSpec.ofChange s with cond := some uptoSmall }

/-- 'glosswrightlaw1.TruthModelsMatchSpec', WHERE WHAT IT READS IS OF BULK AT MOST 1048576: true; the input reads as it did. -/
def truthModelsMatchSpecUptoRow : OpenClaim := { program := "ytnoceodmnjhljabdoor", sum := "cdf1d65ccf4a8a8cf8a97e9ad86784f4b5d7ea41d11a87c3fb988b374090b8d8", func := "glosswright/glosswrightlaw1.TruthModelsMatchSpec", spec := "truthModelsMatchSpec", unfollowed := true, recurses := true, named := ["glosswright/glosswrightlaw1.none"], apart := false, laid := [("glosswright/glosswrightlaw1.none", laid_glosswright_glosswrightlaw1_none)], narrowed := true }
def TruthModelsMatchSpecUptoSaid : Prop := truthModelsMatchSpecUptoRow.holds Tryd.pinned (OpenSpec.upto truthModelsMatchSpecSpec)

/-- 'glosswrightlaw1.FolformReadMatchesSpec', WHERE WHAT IT READS IS OF BULK AT MOST 1048576: true; the input reads as it did. -/
def folformReadMatchesSpecUptoRow : OpenClaim := { program := "ytnoceodmnjhljabdoor", sum := "cdf1d65ccf4a8a8cf8a97e9ad86784f4b5d7ea41d11a87c3fb988b374090b8d8", func := "glosswright/glosswrightlaw1.FolformReadMatchesSpec", spec := "folformReadMatchesSpec", recurses := true, named := ["glosswright/glosswrightlaw1.none"], apart := false, laid := [("glosswright/glosswrightlaw1.none", laid_glosswright_glosswrightlaw1_none)], narrowed := true }
def FolformReadMatchesSpecUptoSaid : Prop := folformReadMatchesSpecUptoRow.holds Tryd.pinned (OpenSpec.upto folformReadMatchesSpecSpec)

/-- 'glosswrightlaw1.FolformTextsRoundTrip', WHERE WHAT IT READS IS OF BULK AT MOST 1048576: true; the input reads as it did. -/
def folformTextsRoundTripUptoRow : OpenClaim := { program := "ytnoceodmnjhljabdoor", sum := "cdf1d65ccf4a8a8cf8a97e9ad86784f4b5d7ea41d11a87c3fb988b374090b8d8", func := "glosswright/glosswrightlaw1.FolformTextsRoundTrip", spec := "folformTextsRoundTrip", inPlace := ["internal/abi.NoEscape", "internal/bytealg.MakeNoZero"], unfollowed := true, recurses := true, named := ["glosswright/glosswrightlaw1.none"], loops := true, apart := false, laid := [("glosswright/glosswrightlaw1.none", laid_glosswright_glosswrightlaw1_none)], narrowed := true }
def FolformTextsRoundTripUptoSaid : Prop := folformTextsRoundTripUptoRow.holds Tryd.pinned (OpenSpec.upto folformTextsRoundTripSpec)

end Rows
end Go.Proofs.YtnoceodmnjhljabDoor
