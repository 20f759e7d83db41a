/-
  DERIVED. GIVEN WITH THE SEED: THE CARDS: each row of YthfokmjpbnfihaaDoorRows.lean that lists a variable, with what it lists TIED to the program's text (the seventh form; the later family's looks); each row that meets fmt, with fmt's text TOLD by the authors' own Lean function (tested against real Go, not proved from fmt's source: count such statements apart). THE CARD IS WHAT COUNTS. Prove the row's statement (the work); the ties are given (YthfokmjpbnfihaaDoorTie.lean); close each card by the builder's one call (the guide's Derived/Test/ToyasCard.lean, 'card_holds'). Laid BY PROGRAM, IN A SANDBOX (cutbox-door.mjs). By AI agents, Wed Nov 11 2026. No macro, syntax, notation, axiom, sorry.
-/
import Derived.Test.YthfokmjpbnfihaaDoorRows
import GoSem.ClaimSeven
namespace Go.Proofs.YthfokmjpbnfihaaDoor
namespace Rows

/-- THE TIED CARD OF 'glosswrightlaw1.TruthWitnessesMatchSpec'. -/
def truthWitnessesMatchSpecCard : Claim7 := { stood := { row := truthWitnessesMatchSpecRow, standIns := [], harness := (true, "ee9943ada7a923f91986c1006dd1081775599b3acc1cca8661e4f9a9915fdbdf"), looks := false }, kinds := [], alts := [], laidByText := true, laidKinds := [.data], laidTests := true, laidLooks := .later }
def TruthWitnessesMatchSpecCardSaid : Prop := Claim7.holds Tryd.pinned (.plain (OpenSpec.ofChange truthWitnessesMatchSpecSpec)) truthWitnessesMatchSpecCard

/-- THE TIED CARD OF 'glosswrightlaw1.TruthOfInstances'. -/
def truthOfInstancesCard : Claim7 := { stood := { row := truthOfInstancesRow, standIns := [], harness := (true, "ee9943ada7a923f91986c1006dd1081775599b3acc1cca8661e4f9a9915fdbdf"), looks := false }, kinds := [], alts := [], laidByText := true, laidKinds := [.data, .data, .data, .data], laidTests := true, laidLooks := .later }
def TruthOfInstancesCardSaid : Prop := Claim7.holds Tryd.pinned (.plain (OpenSpec.ofChange truthOfInstancesSpec)) truthOfInstancesCard

/-- THE TIED CARD OF 'glosswrightlaw1.TruthRenameMatchesSpec'. -/
def truthRenameMatchesSpecCard : Claim7 := { stood := { row := truthRenameMatchesSpecRow, standIns := [], harness := (true, "ee9943ada7a923f91986c1006dd1081775599b3acc1cca8661e4f9a9915fdbdf"), looks := false }, kinds := [], alts := [], laidByText := true, laidKinds := [.data], laidTests := true, laidLooks := .later }
def TruthRenameMatchesSpecCardSaid : Prop := Claim7.holds Tryd.pinned (.plain (OpenSpec.ofChange truthRenameMatchesSpecSpec)) truthRenameMatchesSpecCard

/-- THE SECOND FORM's CARD OF 'glosswrightlaw1.TruthWitnessesMatchSpec'. -/
def truthWitnessesMatchSpecUptoCard : Claim7 := { stood := { row := truthWitnessesMatchSpecUptoRow, standIns := [], harness := (true, "ee9943ada7a923f91986c1006dd1081775599b3acc1cca8661e4f9a9915fdbdf"), looks := false }, kinds := [], alts := [], laidByText := true, laidKinds := [.data], laidTests := true, laidLooks := .later }
def TruthWitnessesMatchSpecUptoCardSaid : Prop := Claim7.holds Tryd.pinned (.plain (OpenSpec.upto truthWitnessesMatchSpecSpec)) truthWitnessesMatchSpecUptoCard

/-- THE SECOND FORM's CARD OF 'glosswrightlaw1.TruthOfInstances'. -/
def truthOfInstancesUptoCard : Claim7 := { stood := { row := truthOfInstancesUptoRow, standIns := [], harness := (true, "ee9943ada7a923f91986c1006dd1081775599b3acc1cca8661e4f9a9915fdbdf"), looks := false }, kinds := [], alts := [], laidByText := true, laidKinds := [.data, .data, .data, .data], laidTests := true, laidLooks := .later }
def TruthOfInstancesUptoCardSaid : Prop := Claim7.holds Tryd.pinned (.plain (OpenSpec.upto truthOfInstancesSpec)) truthOfInstancesUptoCard

/-- THE SECOND FORM's CARD OF 'glosswrightlaw1.TruthRenameMatchesSpec'. -/
def truthRenameMatchesSpecUptoCard : Claim7 := { stood := { row := truthRenameMatchesSpecUptoRow, standIns := [], harness := (true, "ee9943ada7a923f91986c1006dd1081775599b3acc1cca8661e4f9a9915fdbdf"), looks := false }, kinds := [], alts := [], laidByText := true, laidKinds := [.data], laidTests := true, laidLooks := .later }
def TruthRenameMatchesSpecUptoCardSaid : Prop := Claim7.holds Tryd.pinned (.plain (OpenSpec.upto truthRenameMatchesSpecSpec)) truthRenameMatchesSpecUptoCard
end Rows
end Go.Proofs.YthfokmjpbnfihaaDoor
