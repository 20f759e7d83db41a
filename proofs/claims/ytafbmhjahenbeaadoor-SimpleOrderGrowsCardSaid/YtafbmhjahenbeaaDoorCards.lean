/-
  DERIVED. GIVEN WITH THE SEED: THE CARDS: each row of YtafbmhjahenbeaaDoorRows.lean that lists a variable, with what it lists TIED to the program's text (the seventh form; the later family's looks); each row that meets fmt, with fmt's text TOLD by the authors' own Lean function (tested against real Go, not proved from fmt's source: count such statements apart). THE CARD IS WHAT COUNTS. Prove the row's statement (the work); the ties are given (YtafbmhjahenbeaaDoorTie.lean); close each card by the builder's one call (the guide's Derived/Test/ToyasCard.lean, 'card_holds'). Laid BY PROGRAM, IN A SANDBOX (cutbox-door.mjs). By AI agents, Wed Nov 11 2026. No macro, syntax, notation, axiom, sorry.
-/
import Derived.Test.YtafbmhjahenbeaaDoorRows
import GoSem.ClaimSeven
namespace Go.Proofs.YtafbmhjahenbeaaDoor
namespace Rows

/-- THE TIED CARD OF 'glosswrightlaw1.SimpleOrderGrows'. -/
def simpleOrderGrowsCard : Claim7 := { stood := { row := simpleOrderGrowsRow, standIns := [], harness := (true, "f3a4f4767572dffc1d60e5b63bac106534f94eb12f9f437ab11f96d2c901dfc1"), looks := false }, kinds := [], alts := [], laidByText := true, laidKinds := [.data], laidTests := true, laidLooks := .later }
def SimpleOrderGrowsCardSaid : Prop := Claim7.holds Tryd.pinned (.plain (OpenSpec.ofChange simpleOrderGrowsSpec)) simpleOrderGrowsCard

/-- THE TIED CARD OF 'glosswrightlaw1.SimpleSplitRebuilds'. -/
def simpleSplitRebuildsCard : Claim7 := { stood := { row := simpleSplitRebuildsRow, standIns := [], harness := (true, "f3a4f4767572dffc1d60e5b63bac106534f94eb12f9f437ab11f96d2c901dfc1"), looks := false }, kinds := [], alts := [], laidByText := true, laidKinds := [.data], laidTests := true, laidLooks := .later }
def SimpleSplitRebuildsCardSaid : Prop := Claim7.holds Tryd.pinned (.plain (OpenSpec.ofChange simpleSplitRebuildsSpec)) simpleSplitRebuildsCard

/-- THE SECOND FORM's CARD OF 'glosswrightlaw1.SimpleOrderGrows'. -/
def simpleOrderGrowsUptoCard : Claim7 := { stood := { row := simpleOrderGrowsUptoRow, standIns := [], harness := (true, "f3a4f4767572dffc1d60e5b63bac106534f94eb12f9f437ab11f96d2c901dfc1"), looks := false }, kinds := [], alts := [], laidByText := true, laidKinds := [.data], laidTests := true, laidLooks := .later }
def SimpleOrderGrowsUptoCardSaid : Prop := Claim7.holds Tryd.pinned (.plain (OpenSpec.upto simpleOrderGrowsSpec)) simpleOrderGrowsUptoCard

/-- THE SECOND FORM's CARD OF 'glosswrightlaw1.SimpleSplitRebuilds'. -/
def simpleSplitRebuildsUptoCard : Claim7 := { stood := { row := simpleSplitRebuildsUptoRow, standIns := [], harness := (true, "f3a4f4767572dffc1d60e5b63bac106534f94eb12f9f437ab11f96d2c901dfc1"), looks := false }, kinds := [], alts := [], laidByText := true, laidKinds := [.data], laidTests := true, laidLooks := .later }
def SimpleSplitRebuildsUptoCardSaid : Prop := Claim7.holds Tryd.pinned (.plain (OpenSpec.upto simpleSplitRebuildsSpec)) simpleSplitRebuildsUptoCard
end Rows
end Go.Proofs.YtafbmhjahenbeaaDoor
