/-
  DERIVED. GIVEN WITH THE SEED: THE CARDS: each row of YtnoceodmnjhljabDoorRows.lean that lists a variable, with what it lists TIED to the program's text (the seventh form; the later family's looks); each row that meets fmt, with fmt's text TOLD by the authors' own Lean function (tested against real Go, not proved from fmt's source: count such statements apart). THE CARD IS WHAT COUNTS. Prove the row's statement (the work); the ties are given (YtnoceodmnjhljabDoorTie.lean); close each card by the builder's one call (the guide's Derived/Test/ToyasCard.lean, 'card_holds'). Laid BY PROGRAM, IN A SANDBOX (cutbox-door.mjs). By AI agents, Wed Nov 11 2026. No macro, syntax, notation, axiom, sorry.
-/
import Derived.Test.YtnoceodmnjhljabDoorRows
import GoSem.ClaimSeven
namespace Go.Proofs.YtnoceodmnjhljabDoor
namespace Rows

/-- THE TIED CARD OF 'glosswrightlaw1.TruthModelsMatchSpec'. -/
def truthModelsMatchSpecCard : Claim7 := { stood := { row := truthModelsMatchSpecRow, standIns := [], harness := (true, "3afbd3ee7f6e528c1fe2145449106645df9b193ff4c1b63a23bcb1c83fe96f3e"), looks := false }, kinds := [], alts := [], laidByText := true, laidKinds := [.data], laidTests := true, laidLooks := .later }
def TruthModelsMatchSpecCardSaid : Prop := Claim7.holds Tryd.pinned (.plain (OpenSpec.ofChange truthModelsMatchSpecSpec)) truthModelsMatchSpecCard

/-- THE TIED CARD OF 'glosswrightlaw1.FolformReadMatchesSpec'. -/
def folformReadMatchesSpecCard : Claim7 := { stood := { row := folformReadMatchesSpecRow, standIns := [], harness := (true, "3afbd3ee7f6e528c1fe2145449106645df9b193ff4c1b63a23bcb1c83fe96f3e"), looks := false }, kinds := [], alts := [], laidByText := true, laidKinds := [.data], laidTests := true, laidLooks := .later }
def FolformReadMatchesSpecCardSaid : Prop := Claim7.holds Tryd.pinned (.plain (OpenSpec.ofChange folformReadMatchesSpecSpec)) folformReadMatchesSpecCard

/-- THE TIED CARD OF 'glosswrightlaw1.FolformTextsRoundTrip'. -/
def folformTextsRoundTripCard : Claim7 := { stood := { row := folformTextsRoundTripRow, standIns := [], harness := (true, "3afbd3ee7f6e528c1fe2145449106645df9b193ff4c1b63a23bcb1c83fe96f3e"), looks := false }, kinds := [], alts := [], laidByText := true, laidKinds := [.data], laidTests := true, laidLooks := .later }
def FolformTextsRoundTripCardSaid : Prop := Claim7.holds Tryd.pinned (.plain (OpenSpec.ofChange folformTextsRoundTripSpec)) folformTextsRoundTripCard

/-- THE SECOND FORM's CARD OF 'glosswrightlaw1.TruthModelsMatchSpec'. -/
def truthModelsMatchSpecUptoCard : Claim7 := { stood := { row := truthModelsMatchSpecUptoRow, standIns := [], harness := (true, "3afbd3ee7f6e528c1fe2145449106645df9b193ff4c1b63a23bcb1c83fe96f3e"), looks := false }, kinds := [], alts := [], laidByText := true, laidKinds := [.data], laidTests := true, laidLooks := .later }
def TruthModelsMatchSpecUptoCardSaid : Prop := Claim7.holds Tryd.pinned (.plain (OpenSpec.upto truthModelsMatchSpecSpec)) truthModelsMatchSpecUptoCard

/-- THE SECOND FORM's CARD OF 'glosswrightlaw1.FolformReadMatchesSpec'. -/
def folformReadMatchesSpecUptoCard : Claim7 := { stood := { row := folformReadMatchesSpecUptoRow, standIns := [], harness := (true, "3afbd3ee7f6e528c1fe2145449106645df9b193ff4c1b63a23bcb1c83fe96f3e"), looks := false }, kinds := [], alts := [], laidByText := true, laidKinds := [.data], laidTests := true, laidLooks := .later }
def FolformReadMatchesSpecUptoCardSaid : Prop := Claim7.holds Tryd.pinned (.plain (OpenSpec.upto folformReadMatchesSpecSpec)) folformReadMatchesSpecUptoCard

/-- THE SECOND FORM's CARD OF 'glosswrightlaw1.FolformTextsRoundTrip'. -/
def folformTextsRoundTripUptoCard : Claim7 := { stood := { row := folformTextsRoundTripUptoRow, standIns := [], harness := (true, "3afbd3ee7f6e528c1fe2145449106645df9b193ff4c1b63a23bcb1c83fe96f3e"), looks := false }, kinds := [], alts := [], laidByText := true, laidKinds := [.data], laidTests := true, laidLooks := .later }
def FolformTextsRoundTripUptoCardSaid : Prop := Claim7.holds Tryd.pinned (.plain (OpenSpec.upto folformTextsRoundTripSpec)) folformTextsRoundTripUptoCard
end Rows
end Go.Proofs.YtnoceodmnjhljabDoor
