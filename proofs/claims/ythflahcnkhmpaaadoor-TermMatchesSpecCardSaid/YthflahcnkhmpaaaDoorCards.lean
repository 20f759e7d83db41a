/-
  DERIVED. GIVEN WITH THE SEED: THE CARDS: each row of YthflahcnkhmpaaaDoorRows.lean that lists a variable, with what it lists TIED to the program's text (the seventh form; the later family's looks); each row that meets fmt, with fmt's text TOLD by the authors' own Lean function (tested against real Go, not proved from fmt's source: count such statements apart). THE CARD IS WHAT COUNTS. Prove the row's statement (the work); the ties are given (YthflahcnkhmpaaaDoorTie.lean); close each card by the builder's one call (the guide's Derived/Test/ToyasCard.lean, 'card_holds'). Laid BY PROGRAM, IN A SANDBOX (cutbox-door.mjs). By AI agents, Wed Nov 11 2026. No macro, syntax, notation, axiom, sorry.
-/
import Derived.Test.YthflahcnkhmpaaaDoorRows
import GoSem.ClaimSeven
namespace Go.Proofs.YthflahcnkhmpaaaDoor
namespace Rows

/-- THE TIED CARD OF 'glosswrightlaw1.SimpleOrderGrows'. -/
def simpleOrderGrowsCard : Claim7 := { stood := { row := simpleOrderGrowsRow, standIns := [], harness := (true, "bf3a24a88cd9221124204455356c45badf66e48927e8bdde19260794d7081e4c"), looks := false }, kinds := [], alts := [], laidByText := true, laidKinds := [.data], laidTests := true, laidLooks := .later }
def SimpleOrderGrowsCardSaid : Prop := Claim7.holds Tryd.pinned (.plain (OpenSpec.ofChange simpleOrderGrowsSpec)) simpleOrderGrowsCard

/-- THE TIED CARD OF 'glosswrightlaw1.SimpleSplitRebuilds'. -/
def simpleSplitRebuildsCard : Claim7 := { stood := { row := simpleSplitRebuildsRow, standIns := [], harness := (true, "bf3a24a88cd9221124204455356c45badf66e48927e8bdde19260794d7081e4c"), looks := false }, kinds := [], alts := [], laidByText := true, laidKinds := [.data], laidTests := true, laidLooks := .later }
def SimpleSplitRebuildsCardSaid : Prop := Claim7.holds Tryd.pinned (.plain (OpenSpec.ofChange simpleSplitRebuildsSpec)) simpleSplitRebuildsCard

/-- THE TIED CARD OF 'glosswrightlaw1.SimpleReadMatchesSpec'. -/
def simpleReadMatchesSpecCard : Claim7 := { stood := { row := simpleReadMatchesSpecRow, standIns := [], harness := (true, "bf3a24a88cd9221124204455356c45badf66e48927e8bdde19260794d7081e4c"), looks := false }, kinds := [], alts := [], laidByText := true, laidKinds := [.data], laidTests := true, laidLooks := .later }
def SimpleReadMatchesSpecCardSaid : Prop := Claim7.holds Tryd.pinned (.plain (OpenSpec.ofChange simpleReadMatchesSpecSpec)) simpleReadMatchesSpecCard

/-- THE TIED CARD OF 'glosswrightlaw1.SimpleMatchesSpec'. -/
def simpleMatchesSpecCard : Claim7 := { stood := { row := simpleMatchesSpecRow, standIns := [], harness := (true, "bf3a24a88cd9221124204455356c45badf66e48927e8bdde19260794d7081e4c"), looks := false }, kinds := [], alts := [], laidByText := true, laidKinds := [.data], laidTests := true, laidLooks := .later }
def SimpleMatchesSpecCardSaid : Prop := Claim7.holds Tryd.pinned (.plain (OpenSpec.ofChange simpleMatchesSpecSpec)) simpleMatchesSpecCard

/-- THE TIED CARD OF 'glosswrightlaw1.SimpleTextsRoundTrip'. -/
def simpleTextsRoundTripCard : Claim7 := { stood := { row := simpleTextsRoundTripRow, standIns := [], harness := (true, "bf3a24a88cd9221124204455356c45badf66e48927e8bdde19260794d7081e4c"), looks := false }, kinds := [], alts := [], laidByText := true, laidKinds := [.data], laidTests := true, laidLooks := .later }
def SimpleTextsRoundTripCardSaid : Prop := Claim7.holds Tryd.pinned (.plain (OpenSpec.ofChange simpleTextsRoundTripSpec)) simpleTextsRoundTripCard

/-- THE TIED CARD OF 'glosswrightlaw1.SimpleReadIsWritten'. -/
def simpleReadIsWrittenCard : Claim7 := { stood := { row := simpleReadIsWrittenRow, standIns := [], harness := (true, "bf3a24a88cd9221124204455356c45badf66e48927e8bdde19260794d7081e4c"), looks := false }, kinds := [], alts := [], laidByText := true, laidKinds := [.data], laidTests := true, laidLooks := .later }
def SimpleReadIsWrittenCardSaid : Prop := Claim7.holds Tryd.pinned (.plain (OpenSpec.ofChange simpleReadIsWrittenSpec)) simpleReadIsWrittenCard

/-- THE TIED CARD OF 'glosswrightlaw1.TermAppliesMatchSpec'. -/
def termAppliesMatchSpecCard : Claim7 := { stood := { row := termAppliesMatchSpecRow, standIns := [], harness := (true, "bf3a24a88cd9221124204455356c45badf66e48927e8bdde19260794d7081e4c"), looks := false }, kinds := [], alts := [], laidByText := true, laidKinds := [.data], laidTests := true, laidLooks := .later }
def TermAppliesMatchSpecCardSaid : Prop := Claim7.holds Tryd.pinned (.plain (OpenSpec.ofChange termAppliesMatchSpecSpec)) termAppliesMatchSpecCard

/-- THE TIED CARD OF 'glosswrightlaw1.TermTypesOfParts'. -/
def termTypesOfPartsCard : Claim7 := { stood := { row := termTypesOfPartsRow, standIns := [], harness := (true, "bf3a24a88cd9221124204455356c45badf66e48927e8bdde19260794d7081e4c"), looks := false }, kinds := [], alts := [], laidByText := true, laidKinds := [.data], laidTests := true, laidLooks := .later }
def TermTypesOfPartsCardSaid : Prop := Claim7.holds Tryd.pinned (.plain (OpenSpec.ofChange termTypesOfPartsSpec)) termTypesOfPartsCard

/-- THE TIED CARD OF 'glosswrightlaw1.TermBindMatchesSpec'. -/
def termBindMatchesSpecCard : Claim7 := { stood := { row := termBindMatchesSpecRow, standIns := [], harness := (true, "bf3a24a88cd9221124204455356c45badf66e48927e8bdde19260794d7081e4c"), looks := false }, kinds := [], alts := [], laidByText := true, laidKinds := [.data], laidTests := true, laidLooks := .later }
def TermBindMatchesSpecCardSaid : Prop := Claim7.holds Tryd.pinned (.plain (OpenSpec.ofChange termBindMatchesSpecSpec)) termBindMatchesSpecCard

/-- THE TIED CARD OF 'glosswrightlaw1.TermReadMatchesSpec'. -/
def termReadMatchesSpecCard : Claim7 := { stood := { row := termReadMatchesSpecRow, standIns := [], harness := (true, "bf3a24a88cd9221124204455356c45badf66e48927e8bdde19260794d7081e4c"), looks := false }, kinds := [], alts := [], laidByText := true, laidKinds := [.data], laidTests := true, laidLooks := .later }
def TermReadMatchesSpecCardSaid : Prop := Claim7.holds Tryd.pinned (.plain (OpenSpec.ofChange termReadMatchesSpecSpec)) termReadMatchesSpecCard

/-- THE TIED CARD OF 'glosswrightlaw1.TermMatchesSpec'. -/
def termMatchesSpecCard : Claim7 := { stood := { row := termMatchesSpecRow, standIns := [], harness := (true, "bf3a24a88cd9221124204455356c45badf66e48927e8bdde19260794d7081e4c"), looks := false }, kinds := [], alts := [], laidByText := true, laidKinds := [.data, .data, .data, .data], laidTests := true, laidLooks := .later }
def TermMatchesSpecCardSaid : Prop := Claim7.holds Tryd.pinned (.plain (OpenSpec.ofChange termMatchesSpecSpec)) termMatchesSpecCard

/-- THE TIED CARD OF 'glosswrightlaw1.TermTextsRoundTrip'. -/
def termTextsRoundTripCard : Claim7 := { stood := { row := termTextsRoundTripRow, standIns := [], harness := (true, "bf3a24a88cd9221124204455356c45badf66e48927e8bdde19260794d7081e4c"), looks := false }, kinds := [], alts := [], laidByText := true, laidKinds := [.data, .data, .data, .data], laidTests := true, laidLooks := .later }
def TermTextsRoundTripCardSaid : Prop := Claim7.holds Tryd.pinned (.plain (OpenSpec.ofChange termTextsRoundTripSpec)) termTextsRoundTripCard

/-- THE SECOND FORM's CARD OF 'glosswrightlaw1.SimpleOrderGrows'. -/
def simpleOrderGrowsUptoCard : Claim7 := { stood := { row := simpleOrderGrowsUptoRow, standIns := [], harness := (true, "bf3a24a88cd9221124204455356c45badf66e48927e8bdde19260794d7081e4c"), looks := false }, kinds := [], alts := [], laidByText := true, laidKinds := [.data], laidTests := true, laidLooks := .later }
def SimpleOrderGrowsUptoCardSaid : Prop := Claim7.holds Tryd.pinned (.plain (OpenSpec.upto simpleOrderGrowsSpec)) simpleOrderGrowsUptoCard

/-- THE SECOND FORM's CARD OF 'glosswrightlaw1.SimpleSplitRebuilds'. -/
def simpleSplitRebuildsUptoCard : Claim7 := { stood := { row := simpleSplitRebuildsUptoRow, standIns := [], harness := (true, "bf3a24a88cd9221124204455356c45badf66e48927e8bdde19260794d7081e4c"), looks := false }, kinds := [], alts := [], laidByText := true, laidKinds := [.data], laidTests := true, laidLooks := .later }
def SimpleSplitRebuildsUptoCardSaid : Prop := Claim7.holds Tryd.pinned (.plain (OpenSpec.upto simpleSplitRebuildsSpec)) simpleSplitRebuildsUptoCard

/-- THE SECOND FORM's CARD OF 'glosswrightlaw1.SimpleReadMatchesSpec'. -/
def simpleReadMatchesSpecUptoCard : Claim7 := { stood := { row := simpleReadMatchesSpecUptoRow, standIns := [], harness := (true, "bf3a24a88cd9221124204455356c45badf66e48927e8bdde19260794d7081e4c"), looks := false }, kinds := [], alts := [], laidByText := true, laidKinds := [.data], laidTests := true, laidLooks := .later }
def SimpleReadMatchesSpecUptoCardSaid : Prop := Claim7.holds Tryd.pinned (.plain (OpenSpec.upto simpleReadMatchesSpecSpec)) simpleReadMatchesSpecUptoCard

/-- THE SECOND FORM's CARD OF 'glosswrightlaw1.SimpleMatchesSpec'. -/
def simpleMatchesSpecUptoCard : Claim7 := { stood := { row := simpleMatchesSpecUptoRow, standIns := [], harness := (true, "bf3a24a88cd9221124204455356c45badf66e48927e8bdde19260794d7081e4c"), looks := false }, kinds := [], alts := [], laidByText := true, laidKinds := [.data], laidTests := true, laidLooks := .later }
def SimpleMatchesSpecUptoCardSaid : Prop := Claim7.holds Tryd.pinned (.plain (OpenSpec.upto simpleMatchesSpecSpec)) simpleMatchesSpecUptoCard

/-- THE SECOND FORM's CARD OF 'glosswrightlaw1.SimpleTextsRoundTrip'. -/
def simpleTextsRoundTripUptoCard : Claim7 := { stood := { row := simpleTextsRoundTripUptoRow, standIns := [], harness := (true, "bf3a24a88cd9221124204455356c45badf66e48927e8bdde19260794d7081e4c"), looks := false }, kinds := [], alts := [], laidByText := true, laidKinds := [.data], laidTests := true, laidLooks := .later }
def SimpleTextsRoundTripUptoCardSaid : Prop := Claim7.holds Tryd.pinned (.plain (OpenSpec.upto simpleTextsRoundTripSpec)) simpleTextsRoundTripUptoCard

/-- THE SECOND FORM's CARD OF 'glosswrightlaw1.SimpleReadIsWritten'. -/
def simpleReadIsWrittenUptoCard : Claim7 := { stood := { row := simpleReadIsWrittenUptoRow, standIns := [], harness := (true, "bf3a24a88cd9221124204455356c45badf66e48927e8bdde19260794d7081e4c"), looks := false }, kinds := [], alts := [], laidByText := true, laidKinds := [.data], laidTests := true, laidLooks := .later }
def SimpleReadIsWrittenUptoCardSaid : Prop := Claim7.holds Tryd.pinned (.plain (OpenSpec.upto simpleReadIsWrittenSpec)) simpleReadIsWrittenUptoCard

/-- THE SECOND FORM's CARD OF 'glosswrightlaw1.TermAppliesMatchSpec'. -/
def termAppliesMatchSpecUptoCard : Claim7 := { stood := { row := termAppliesMatchSpecUptoRow, standIns := [], harness := (true, "bf3a24a88cd9221124204455356c45badf66e48927e8bdde19260794d7081e4c"), looks := false }, kinds := [], alts := [], laidByText := true, laidKinds := [.data], laidTests := true, laidLooks := .later }
def TermAppliesMatchSpecUptoCardSaid : Prop := Claim7.holds Tryd.pinned (.plain (OpenSpec.upto termAppliesMatchSpecSpec)) termAppliesMatchSpecUptoCard

/-- THE SECOND FORM's CARD OF 'glosswrightlaw1.TermTypesOfParts'. -/
def termTypesOfPartsUptoCard : Claim7 := { stood := { row := termTypesOfPartsUptoRow, standIns := [], harness := (true, "bf3a24a88cd9221124204455356c45badf66e48927e8bdde19260794d7081e4c"), looks := false }, kinds := [], alts := [], laidByText := true, laidKinds := [.data], laidTests := true, laidLooks := .later }
def TermTypesOfPartsUptoCardSaid : Prop := Claim7.holds Tryd.pinned (.plain (OpenSpec.upto termTypesOfPartsSpec)) termTypesOfPartsUptoCard

/-- THE SECOND FORM's CARD OF 'glosswrightlaw1.TermBindMatchesSpec'. -/
def termBindMatchesSpecUptoCard : Claim7 := { stood := { row := termBindMatchesSpecUptoRow, standIns := [], harness := (true, "bf3a24a88cd9221124204455356c45badf66e48927e8bdde19260794d7081e4c"), looks := false }, kinds := [], alts := [], laidByText := true, laidKinds := [.data], laidTests := true, laidLooks := .later }
def TermBindMatchesSpecUptoCardSaid : Prop := Claim7.holds Tryd.pinned (.plain (OpenSpec.upto termBindMatchesSpecSpec)) termBindMatchesSpecUptoCard

/-- THE SECOND FORM's CARD OF 'glosswrightlaw1.TermReadMatchesSpec'. -/
def termReadMatchesSpecUptoCard : Claim7 := { stood := { row := termReadMatchesSpecUptoRow, standIns := [], harness := (true, "bf3a24a88cd9221124204455356c45badf66e48927e8bdde19260794d7081e4c"), looks := false }, kinds := [], alts := [], laidByText := true, laidKinds := [.data], laidTests := true, laidLooks := .later }
def TermReadMatchesSpecUptoCardSaid : Prop := Claim7.holds Tryd.pinned (.plain (OpenSpec.upto termReadMatchesSpecSpec)) termReadMatchesSpecUptoCard

/-- THE SECOND FORM's CARD OF 'glosswrightlaw1.TermMatchesSpec'. -/
def termMatchesSpecUptoCard : Claim7 := { stood := { row := termMatchesSpecUptoRow, standIns := [], harness := (true, "bf3a24a88cd9221124204455356c45badf66e48927e8bdde19260794d7081e4c"), looks := false }, kinds := [], alts := [], laidByText := true, laidKinds := [.data, .data, .data, .data], laidTests := true, laidLooks := .later }
def TermMatchesSpecUptoCardSaid : Prop := Claim7.holds Tryd.pinned (.plain (OpenSpec.upto termMatchesSpecSpec)) termMatchesSpecUptoCard

/-- THE SECOND FORM's CARD OF 'glosswrightlaw1.TermTextsRoundTrip'. -/
def termTextsRoundTripUptoCard : Claim7 := { stood := { row := termTextsRoundTripUptoRow, standIns := [], harness := (true, "bf3a24a88cd9221124204455356c45badf66e48927e8bdde19260794d7081e4c"), looks := false }, kinds := [], alts := [], laidByText := true, laidKinds := [.data, .data, .data, .data], laidTests := true, laidLooks := .later }
def TermTextsRoundTripUptoCardSaid : Prop := Claim7.holds Tryd.pinned (.plain (OpenSpec.upto termTextsRoundTripSpec)) termTextsRoundTripUptoCard
end Rows
end Go.Proofs.YthflahcnkhmpaaaDoor
