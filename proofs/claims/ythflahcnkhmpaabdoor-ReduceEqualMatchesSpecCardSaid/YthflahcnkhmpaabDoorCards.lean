/-
  DERIVED. GIVEN WITH THE SEED: THE CARDS: each row of YthflahcnkhmpaabDoorRows.lean that lists a variable, with what it lists TIED to the program's text (the seventh form; the later family's looks); each row that meets fmt, with fmt's text TOLD by the authors' own Lean function (tested against real Go, not proved from fmt's source: count such statements apart). THE CARD IS WHAT COUNTS. Prove the row's statement (the work); the ties are given (YthflahcnkhmpaabDoorTie.lean); close each card by the builder's one call (the guide's Derived/Test/ToyasCard.lean, 'card_holds'). Laid BY PROGRAM, IN A SANDBOX (cutbox-door.mjs). By AI agents, Wed Nov 11 2026. No macro, syntax, notation, axiom, sorry.
-/
import Derived.Test.YthflahcnkhmpaabDoorRows
import GoSem.ClaimSeven
namespace Go.Proofs.YthflahcnkhmpaabDoor
namespace Rows

/-- THE TIED CARD OF 'glosswrightlaw1.ReduceStepMatchesSpec'. -/
def reduceStepMatchesSpecCard : Claim7 := { stood := { row := reduceStepMatchesSpecRow, standIns := [], harness := (true, "4608b3b75b2543ba0753ca336feeaafa45f38aea9e9679e8da1673cdf2ad44fb"), looks := false }, kinds := [], alts := [], laidByText := true, laidKinds := [.data], laidTests := true, laidLooks := .later }
def ReduceStepMatchesSpecCardSaid : Prop := Claim7.holds Tryd.pinned (.plain (OpenSpec.ofChange reduceStepMatchesSpecSpec)) reduceStepMatchesSpecCard

/-- THE TIED CARD OF 'glosswrightlaw1.ReduceNormalMatchesSpec'. -/
def reduceNormalMatchesSpecCard : Claim7 := { stood := { row := reduceNormalMatchesSpecRow, standIns := [], harness := (true, "4608b3b75b2543ba0753ca336feeaafa45f38aea9e9679e8da1673cdf2ad44fb"), looks := false }, kinds := [], alts := [], laidByText := true, laidKinds := [.data], laidTests := true, laidLooks := .later }
def ReduceNormalMatchesSpecCardSaid : Prop := Claim7.holds Tryd.pinned (.plain (OpenSpec.ofChange reduceNormalMatchesSpecSpec)) reduceNormalMatchesSpecCard

/-- THE TIED CARD OF 'glosswrightlaw1.ReduceStepsLeadOn'. -/
def reduceStepsLeadOnCard : Claim7 := { stood := { row := reduceStepsLeadOnRow, standIns := [], harness := (true, "4608b3b75b2543ba0753ca336feeaafa45f38aea9e9679e8da1673cdf2ad44fb"), looks := false }, kinds := [], alts := [], laidByText := true, laidKinds := [.data], laidTests := true, laidLooks := .later }
def ReduceStepsLeadOnCardSaid : Prop := Claim7.holds Tryd.pinned (.plain (OpenSpec.ofChange reduceStepsLeadOnSpec)) reduceStepsLeadOnCard

/-- THE TIED CARD OF 'glosswrightlaw1.ReducePartsFirst'. -/
def reducePartsFirstCard : Claim7 := { stood := { row := reducePartsFirstRow, standIns := [], harness := (true, "4608b3b75b2543ba0753ca336feeaafa45f38aea9e9679e8da1673cdf2ad44fb"), looks := false }, kinds := [], alts := [], laidByText := true, laidKinds := [.data], laidTests := true, laidLooks := .later }
def ReducePartsFirstCardSaid : Prop := Claim7.holds Tryd.pinned (.plain (OpenSpec.ofChange reducePartsFirstSpec)) reducePartsFirstCard

/-- THE TIED CARD OF 'glosswrightlaw1.ReduceLongMatchesSpec'. -/
def reduceLongMatchesSpecCard : Claim7 := { stood := { row := reduceLongMatchesSpecRow, standIns := [], harness := (true, "4608b3b75b2543ba0753ca336feeaafa45f38aea9e9679e8da1673cdf2ad44fb"), looks := false }, kinds := [], alts := [], laidByText := true, laidKinds := [.data], laidTests := true, laidLooks := .later }
def ReduceLongMatchesSpecCardSaid : Prop := Claim7.holds Tryd.pinned (.plain (OpenSpec.ofChange reduceLongMatchesSpecSpec)) reduceLongMatchesSpecCard

/-- THE TIED CARD OF 'glosswrightlaw1.ReduceUndoesBind'. -/
def reduceUndoesBindCard : Claim7 := { stood := { row := reduceUndoesBindRow, standIns := [], harness := (true, "4608b3b75b2543ba0753ca336feeaafa45f38aea9e9679e8da1673cdf2ad44fb"), looks := false }, kinds := [], alts := [], laidByText := true, laidKinds := [.data], laidTests := true, laidLooks := .later }
def ReduceUndoesBindCardSaid : Prop := Claim7.holds Tryd.pinned (.plain (OpenSpec.ofChange reduceUndoesBindSpec)) reduceUndoesBindCard

/-- THE TIED CARD OF 'glosswrightlaw1.ReduceKeepsTypes'. -/
def reduceKeepsTypesCard : Claim7 := { stood := { row := reduceKeepsTypesRow, standIns := [], harness := (true, "4608b3b75b2543ba0753ca336feeaafa45f38aea9e9679e8da1673cdf2ad44fb"), looks := false }, kinds := [], alts := [], laidByText := true, laidKinds := [.data], laidTests := true, laidLooks := .later }
def ReduceKeepsTypesCardSaid : Prop := Claim7.holds Tryd.pinned (.plain (OpenSpec.ofChange reduceKeepsTypesSpec)) reduceKeepsTypesCard

/-- THE TIED CARD OF 'glosswrightlaw1.ReduceIsDone'. -/
def reduceIsDoneCard : Claim7 := { stood := { row := reduceIsDoneRow, standIns := [], harness := (true, "4608b3b75b2543ba0753ca336feeaafa45f38aea9e9679e8da1673cdf2ad44fb"), looks := false }, kinds := [], alts := [], laidByText := true, laidKinds := [.data], laidTests := true, laidLooks := .later }
def ReduceIsDoneCardSaid : Prop := Claim7.holds Tryd.pinned (.plain (OpenSpec.ofChange reduceIsDoneSpec)) reduceIsDoneCard

/-- THE TIED CARD OF 'glosswrightlaw1.ReduceEqualMatchesSpec'. -/
def reduceEqualMatchesSpecCard : Claim7 := { stood := { row := reduceEqualMatchesSpecRow, standIns := [], harness := (true, "4608b3b75b2543ba0753ca336feeaafa45f38aea9e9679e8da1673cdf2ad44fb"), looks := false }, kinds := [], alts := [], laidByText := true, laidKinds := [.data], laidTests := true, laidLooks := .later }
def ReduceEqualMatchesSpecCardSaid : Prop := Claim7.holds Tryd.pinned (.plain (OpenSpec.ofChange reduceEqualMatchesSpecSpec)) reduceEqualMatchesSpecCard

/-- THE SECOND FORM's CARD OF 'glosswrightlaw1.ReduceStepMatchesSpec'. -/
def reduceStepMatchesSpecUptoCard : Claim7 := { stood := { row := reduceStepMatchesSpecUptoRow, standIns := [], harness := (true, "4608b3b75b2543ba0753ca336feeaafa45f38aea9e9679e8da1673cdf2ad44fb"), looks := false }, kinds := [], alts := [], laidByText := true, laidKinds := [.data], laidTests := true, laidLooks := .later }
def ReduceStepMatchesSpecUptoCardSaid : Prop := Claim7.holds Tryd.pinned (.plain (OpenSpec.upto reduceStepMatchesSpecSpec)) reduceStepMatchesSpecUptoCard

/-- THE SECOND FORM's CARD OF 'glosswrightlaw1.ReduceNormalMatchesSpec'. -/
def reduceNormalMatchesSpecUptoCard : Claim7 := { stood := { row := reduceNormalMatchesSpecUptoRow, standIns := [], harness := (true, "4608b3b75b2543ba0753ca336feeaafa45f38aea9e9679e8da1673cdf2ad44fb"), looks := false }, kinds := [], alts := [], laidByText := true, laidKinds := [.data], laidTests := true, laidLooks := .later }
def ReduceNormalMatchesSpecUptoCardSaid : Prop := Claim7.holds Tryd.pinned (.plain (OpenSpec.upto reduceNormalMatchesSpecSpec)) reduceNormalMatchesSpecUptoCard

/-- THE SECOND FORM's CARD OF 'glosswrightlaw1.ReduceStepsLeadOn'. -/
def reduceStepsLeadOnUptoCard : Claim7 := { stood := { row := reduceStepsLeadOnUptoRow, standIns := [], harness := (true, "4608b3b75b2543ba0753ca336feeaafa45f38aea9e9679e8da1673cdf2ad44fb"), looks := false }, kinds := [], alts := [], laidByText := true, laidKinds := [.data], laidTests := true, laidLooks := .later }
def ReduceStepsLeadOnUptoCardSaid : Prop := Claim7.holds Tryd.pinned (.plain (OpenSpec.upto reduceStepsLeadOnSpec)) reduceStepsLeadOnUptoCard

/-- THE SECOND FORM's CARD OF 'glosswrightlaw1.ReducePartsFirst'. -/
def reducePartsFirstUptoCard : Claim7 := { stood := { row := reducePartsFirstUptoRow, standIns := [], harness := (true, "4608b3b75b2543ba0753ca336feeaafa45f38aea9e9679e8da1673cdf2ad44fb"), looks := false }, kinds := [], alts := [], laidByText := true, laidKinds := [.data], laidTests := true, laidLooks := .later }
def ReducePartsFirstUptoCardSaid : Prop := Claim7.holds Tryd.pinned (.plain (OpenSpec.upto reducePartsFirstSpec)) reducePartsFirstUptoCard

/-- THE SECOND FORM's CARD OF 'glosswrightlaw1.ReduceLongMatchesSpec'. -/
def reduceLongMatchesSpecUptoCard : Claim7 := { stood := { row := reduceLongMatchesSpecUptoRow, standIns := [], harness := (true, "4608b3b75b2543ba0753ca336feeaafa45f38aea9e9679e8da1673cdf2ad44fb"), looks := false }, kinds := [], alts := [], laidByText := true, laidKinds := [.data], laidTests := true, laidLooks := .later }
def ReduceLongMatchesSpecUptoCardSaid : Prop := Claim7.holds Tryd.pinned (.plain (OpenSpec.upto reduceLongMatchesSpecSpec)) reduceLongMatchesSpecUptoCard

/-- THE SECOND FORM's CARD OF 'glosswrightlaw1.ReduceUndoesBind'. -/
def reduceUndoesBindUptoCard : Claim7 := { stood := { row := reduceUndoesBindUptoRow, standIns := [], harness := (true, "4608b3b75b2543ba0753ca336feeaafa45f38aea9e9679e8da1673cdf2ad44fb"), looks := false }, kinds := [], alts := [], laidByText := true, laidKinds := [.data], laidTests := true, laidLooks := .later }
def ReduceUndoesBindUptoCardSaid : Prop := Claim7.holds Tryd.pinned (.plain (OpenSpec.upto reduceUndoesBindSpec)) reduceUndoesBindUptoCard

/-- THE SECOND FORM's CARD OF 'glosswrightlaw1.ReduceKeepsTypes'. -/
def reduceKeepsTypesUptoCard : Claim7 := { stood := { row := reduceKeepsTypesUptoRow, standIns := [], harness := (true, "4608b3b75b2543ba0753ca336feeaafa45f38aea9e9679e8da1673cdf2ad44fb"), looks := false }, kinds := [], alts := [], laidByText := true, laidKinds := [.data], laidTests := true, laidLooks := .later }
def ReduceKeepsTypesUptoCardSaid : Prop := Claim7.holds Tryd.pinned (.plain (OpenSpec.upto reduceKeepsTypesSpec)) reduceKeepsTypesUptoCard

/-- THE SECOND FORM's CARD OF 'glosswrightlaw1.ReduceIsDone'. -/
def reduceIsDoneUptoCard : Claim7 := { stood := { row := reduceIsDoneUptoRow, standIns := [], harness := (true, "4608b3b75b2543ba0753ca336feeaafa45f38aea9e9679e8da1673cdf2ad44fb"), looks := false }, kinds := [], alts := [], laidByText := true, laidKinds := [.data], laidTests := true, laidLooks := .later }
def ReduceIsDoneUptoCardSaid : Prop := Claim7.holds Tryd.pinned (.plain (OpenSpec.upto reduceIsDoneSpec)) reduceIsDoneUptoCard

/-- THE SECOND FORM's CARD OF 'glosswrightlaw1.ReduceEqualMatchesSpec'. -/
def reduceEqualMatchesSpecUptoCard : Claim7 := { stood := { row := reduceEqualMatchesSpecUptoRow, standIns := [], harness := (true, "4608b3b75b2543ba0753ca336feeaafa45f38aea9e9679e8da1673cdf2ad44fb"), looks := false }, kinds := [], alts := [], laidByText := true, laidKinds := [.data], laidTests := true, laidLooks := .later }
def ReduceEqualMatchesSpecUptoCardSaid : Prop := Claim7.holds Tryd.pinned (.plain (OpenSpec.upto reduceEqualMatchesSpecSpec)) reduceEqualMatchesSpecUptoCard
end Rows
end Go.Proofs.YthflahcnkhmpaabDoor
