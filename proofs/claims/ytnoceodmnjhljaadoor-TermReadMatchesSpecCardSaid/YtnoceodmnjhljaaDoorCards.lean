/-
  DERIVED. GIVEN WITH THE SEED: THE CARDS: each row of YtnoceodmnjhljaaDoorRows.lean that lists a variable, with what it lists TIED to the program's text (the seventh form; the later family's looks); each row that meets fmt, with fmt's text TOLD by the authors' own Lean function (tested against real Go, not proved from fmt's source: count such statements apart). THE CARD IS WHAT COUNTS. Prove the row's statement (the work); the ties are given (YtnoceodmnjhljaaDoorTie.lean); close each card by the builder's one call (the guide's Derived/Test/ToyasCard.lean, 'card_holds'). Laid BY PROGRAM, IN A SANDBOX (cutbox-door.mjs). By AI agents, Wed Nov 11 2026. No macro, syntax, notation, axiom, sorry.
-/
import Derived.Test.YtnoceodmnjhljaaDoorRows
import GoSem.ClaimSeven
namespace Go.Proofs.YtnoceodmnjhljaaDoor
namespace Rows

/-- THE TIED CARD OF 'glosswrightlaw1.TermReadMatchesSpec'. -/
def termReadMatchesSpecCard : Claim7 := { stood := { row := termReadMatchesSpecRow, standIns := [], harness := (true, "ecad20fdaeee083480c896b4752486144fc143134b82169f20556bbcabf8e184"), looks := false }, kinds := [], alts := [], laidByText := true, laidKinds := [.data], laidTests := true, laidLooks := .later }
def TermReadMatchesSpecCardSaid : Prop := Claim7.holds Tryd.pinned (.plain (OpenSpec.ofChange termReadMatchesSpecSpec)) termReadMatchesSpecCard

/-- THE TIED CARD OF 'glosswrightlaw1.TermMatchesSpec'. -/
def termMatchesSpecCard : Claim7 := { stood := { row := termMatchesSpecRow, standIns := [], harness := (true, "ecad20fdaeee083480c896b4752486144fc143134b82169f20556bbcabf8e184"), looks := false }, kinds := [], alts := [], laidByText := true, laidKinds := [.data, .data, .data, .data], laidTests := true, laidLooks := .later }
def TermMatchesSpecCardSaid : Prop := Claim7.holds Tryd.pinned (.plain (OpenSpec.ofChange termMatchesSpecSpec)) termMatchesSpecCard

/-- THE TIED CARD OF 'glosswrightlaw1.TermTextsRoundTrip'. -/
def termTextsRoundTripCard : Claim7 := { stood := { row := termTextsRoundTripRow, standIns := [], harness := (true, "ecad20fdaeee083480c896b4752486144fc143134b82169f20556bbcabf8e184"), looks := false }, kinds := [], alts := [], laidByText := true, laidKinds := [.data, .data, .data, .data], laidTests := true, laidLooks := .later }
def TermTextsRoundTripCardSaid : Prop := Claim7.holds Tryd.pinned (.plain (OpenSpec.ofChange termTextsRoundTripSpec)) termTextsRoundTripCard

/-- THE SECOND FORM's CARD OF 'glosswrightlaw1.TermReadMatchesSpec'. -/
def termReadMatchesSpecUptoCard : Claim7 := { stood := { row := termReadMatchesSpecUptoRow, standIns := [], harness := (true, "ecad20fdaeee083480c896b4752486144fc143134b82169f20556bbcabf8e184"), looks := false }, kinds := [], alts := [], laidByText := true, laidKinds := [.data], laidTests := true, laidLooks := .later }
def TermReadMatchesSpecUptoCardSaid : Prop := Claim7.holds Tryd.pinned (.plain (OpenSpec.upto termReadMatchesSpecSpec)) termReadMatchesSpecUptoCard

/-- THE SECOND FORM's CARD OF 'glosswrightlaw1.TermMatchesSpec'. -/
def termMatchesSpecUptoCard : Claim7 := { stood := { row := termMatchesSpecUptoRow, standIns := [], harness := (true, "ecad20fdaeee083480c896b4752486144fc143134b82169f20556bbcabf8e184"), looks := false }, kinds := [], alts := [], laidByText := true, laidKinds := [.data, .data, .data, .data], laidTests := true, laidLooks := .later }
def TermMatchesSpecUptoCardSaid : Prop := Claim7.holds Tryd.pinned (.plain (OpenSpec.upto termMatchesSpecSpec)) termMatchesSpecUptoCard

/-- THE SECOND FORM's CARD OF 'glosswrightlaw1.TermTextsRoundTrip'. -/
def termTextsRoundTripUptoCard : Claim7 := { stood := { row := termTextsRoundTripUptoRow, standIns := [], harness := (true, "ecad20fdaeee083480c896b4752486144fc143134b82169f20556bbcabf8e184"), looks := false }, kinds := [], alts := [], laidByText := true, laidKinds := [.data, .data, .data, .data], laidTests := true, laidLooks := .later }
def TermTextsRoundTripUptoCardSaid : Prop := Claim7.holds Tryd.pinned (.plain (OpenSpec.upto termTextsRoundTripSpec)) termTextsRoundTripUptoCard
end Rows
end Go.Proofs.YtnoceodmnjhljaaDoor
