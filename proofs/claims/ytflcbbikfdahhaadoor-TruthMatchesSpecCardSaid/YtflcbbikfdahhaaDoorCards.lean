/-
  DERIVED. GIVEN WITH THE SEED: THE CARDS: each row of YtflcbbikfdahhaaDoorRows.lean that lists a variable, with what it lists TIED to the program's text (the seventh form; the later family's looks); each row that meets fmt, with fmt's text TOLD by the authors' own Lean function (tested against real Go, not proved from fmt's source: count such statements apart). THE CARD IS WHAT COUNTS. Prove the row's statement (the work); the ties are given (YtflcbbikfdahhaaDoorTie.lean); close each card by the builder's one call (the guide's Derived/Test/ToyasCard.lean, 'card_holds'). Laid BY PROGRAM, IN A SANDBOX (cutbox-door.mjs). By AI agents, Wed Nov 11 2026. No macro, syntax, notation, axiom, sorry.
-/
import Derived.Test.YtflcbbikfdahhaaDoorRows
import GoSem.ClaimSeven
namespace Go.Proofs.YtflcbbikfdahhaaDoor
namespace Rows

/-- THE TIED CARD OF 'glosswrightlaw1.TruthMatchesSpec'. -/
def truthMatchesSpecCard : Claim7 := { stood := { row := truthMatchesSpecRow, standIns := [], harness := (true, "91bc5d48d26aee418614a19e6e44f329f5fa5bd73b5e9d215a883cea40c1085e"), looks := false }, kinds := [], alts := [], laidByText := true, laidKinds := [.data], laidTests := true, laidLooks := .later }
def TruthMatchesSpecCardSaid : Prop := Claim7.holds Tryd.pinned (.plain (OpenSpec.ofChange truthMatchesSpecSpec)) truthMatchesSpecCard

/-- THE TIED CARD OF 'glosswrightlaw1.TruthOfNegation'. -/
def truthOfNegationCard : Claim7 := { stood := { row := truthOfNegationRow, standIns := [], harness := (true, "91bc5d48d26aee418614a19e6e44f329f5fa5bd73b5e9d215a883cea40c1085e"), looks := false }, kinds := [], alts := [], laidByText := true, laidKinds := [.data], laidTests := true, laidLooks := .later }
def TruthOfNegationCardSaid : Prop := Claim7.holds Tryd.pinned (.plain (OpenSpec.ofChange truthOfNegationSpec)) truthOfNegationCard

/-- THE TIED CARD OF 'glosswrightlaw1.TruthWitnessesMatchSpec'. -/
def truthWitnessesMatchSpecCard : Claim7 := { stood := { row := truthWitnessesMatchSpecRow, standIns := [], harness := (true, "91bc5d48d26aee418614a19e6e44f329f5fa5bd73b5e9d215a883cea40c1085e"), looks := false }, kinds := [], alts := [], laidByText := true, laidKinds := [.data], laidTests := true, laidLooks := .later }
def TruthWitnessesMatchSpecCardSaid : Prop := Claim7.holds Tryd.pinned (.plain (OpenSpec.ofChange truthWitnessesMatchSpecSpec)) truthWitnessesMatchSpecCard

/-- THE TIED CARD OF 'glosswrightlaw1.NormalformNegativeMatchesSpec'. -/
def normalformNegativeMatchesSpecCard : Claim7 := { stood := { row := normalformNegativeMatchesSpecRow, standIns := [], harness := (true, "91bc5d48d26aee418614a19e6e44f329f5fa5bd73b5e9d215a883cea40c1085e"), looks := false }, kinds := [], alts := [], laidByText := true, laidKinds := [.data, .data, .data, .mapped, .data], laidTests := true, laidLooks := .later }
def NormalformNegativeMatchesSpecCardSaid : Prop := Claim7.holds Tryd.pinned (.plain (OpenSpec.ofChange normalformNegativeMatchesSpecSpec)) normalformNegativeMatchesSpecCard

/-- THE TIED CARD OF 'glosswrightlaw1.NormalformOfNegation'. -/
def normalformOfNegationCard : Claim7 := { stood := { row := normalformOfNegationRow, standIns := [], harness := (true, "91bc5d48d26aee418614a19e6e44f329f5fa5bd73b5e9d215a883cea40c1085e"), looks := false }, kinds := [], alts := [], laidByText := true, laidKinds := [.data, .data, .data, .mapped, .data], laidTests := true, laidLooks := .later }
def NormalformOfNegationCardSaid : Prop := Claim7.holds Tryd.pinned (.plain (OpenSpec.ofChange normalformOfNegationSpec)) normalformOfNegationCard

/-- THE TIED CARD OF 'glosswrightlaw1.NormalformPrenexMatchesSpec'. -/
def normalformPrenexMatchesSpecCard : Claim7 := { stood := { row := normalformPrenexMatchesSpecRow, standIns := [], harness := (true, "91bc5d48d26aee418614a19e6e44f329f5fa5bd73b5e9d215a883cea40c1085e"), looks := false }, kinds := [], alts := [], laidByText := true, laidKinds := [.data, .data, .data, .mapped, .data], laidTests := true, laidLooks := .later }
def NormalformPrenexMatchesSpecCardSaid : Prop := Claim7.holds Tryd.pinned (.plain (OpenSpec.ofChange normalformPrenexMatchesSpecSpec)) normalformPrenexMatchesSpecCard

/-- THE TIED CARD OF 'glosswrightlaw1.NormalformNarrowMatchesSpec'. -/
def normalformNarrowMatchesSpecCard : Claim7 := { stood := { row := normalformNarrowMatchesSpecRow, standIns := [], harness := (true, "91bc5d48d26aee418614a19e6e44f329f5fa5bd73b5e9d215a883cea40c1085e"), looks := false }, kinds := [], alts := [], laidByText := true, laidKinds := [.data, .data, .data, .mapped, .data], laidTests := true, laidLooks := .later }
def NormalformNarrowMatchesSpecCardSaid : Prop := Claim7.holds Tryd.pinned (.plain (OpenSpec.ofChange normalformNarrowMatchesSpecSpec)) normalformNarrowMatchesSpecCard

/-- THE TIED CARD OF 'glosswrightlaw1.NormalformShapes'. -/
def normalformShapesCard : Claim7 := { stood := { row := normalformShapesRow, standIns := [], harness := (true, "91bc5d48d26aee418614a19e6e44f329f5fa5bd73b5e9d215a883cea40c1085e"), looks := false }, kinds := [], alts := [], laidByText := true, laidKinds := [.data, .data, .data, .mapped, .data], laidTests := true, laidLooks := .later }
def NormalformShapesCardSaid : Prop := Claim7.holds Tryd.pinned (.plain (OpenSpec.ofChange normalformShapesSpec)) normalformShapesCard

/-- THE TIED CARD OF 'glosswrightlaw1.TruthOfCanonical'. -/
def truthOfCanonicalCard : Claim7 := { stood := { row := truthOfCanonicalRow, standIns := [], harness := (true, "91bc5d48d26aee418614a19e6e44f329f5fa5bd73b5e9d215a883cea40c1085e"), looks := false }, kinds := [], alts := [], laidByText := true, laidKinds := [.data, .data, .data, .data], laidTests := true, laidLooks := .later }
def TruthOfCanonicalCardSaid : Prop := Claim7.holds Tryd.pinned (.plain (OpenSpec.ofChange truthOfCanonicalSpec)) truthOfCanonicalCard

/-- THE TIED CARD OF 'glosswrightlaw1.TruthOfInstances'. -/
def truthOfInstancesCard : Claim7 := { stood := { row := truthOfInstancesRow, standIns := [], harness := (true, "91bc5d48d26aee418614a19e6e44f329f5fa5bd73b5e9d215a883cea40c1085e"), looks := false }, kinds := [], alts := [], laidByText := true, laidKinds := [.data, .data, .data, .data], laidTests := true, laidLooks := .later }
def TruthOfInstancesCardSaid : Prop := Claim7.holds Tryd.pinned (.plain (OpenSpec.ofChange truthOfInstancesSpec)) truthOfInstancesCard

/-- THE TIED CARD OF 'glosswrightlaw1.TruthRenameMatchesSpec'. -/
def truthRenameMatchesSpecCard : Claim7 := { stood := { row := truthRenameMatchesSpecRow, standIns := [], harness := (true, "91bc5d48d26aee418614a19e6e44f329f5fa5bd73b5e9d215a883cea40c1085e"), looks := false }, kinds := [], alts := [], laidByText := true, laidKinds := [.data], laidTests := true, laidLooks := .later }
def TruthRenameMatchesSpecCardSaid : Prop := Claim7.holds Tryd.pinned (.plain (OpenSpec.ofChange truthRenameMatchesSpecSpec)) truthRenameMatchesSpecCard

/-- THE TIED CARD OF 'glosswrightlaw1.NormalformKeepsTruth'. -/
def normalformKeepsTruthCard : Claim7 := { stood := { row := normalformKeepsTruthRow, standIns := [], harness := (true, "91bc5d48d26aee418614a19e6e44f329f5fa5bd73b5e9d215a883cea40c1085e"), looks := false }, kinds := [], alts := [], laidByText := true, laidKinds := [.data, .data, .data, .mapped, .data], laidTests := true, laidLooks := .later }
def NormalformKeepsTruthCardSaid : Prop := Claim7.holds Tryd.pinned (.plain (OpenSpec.ofChange normalformKeepsTruthSpec)) normalformKeepsTruthCard

/-- THE SECOND FORM's CARD OF 'glosswrightlaw1.TruthMatchesSpec'. -/
def truthMatchesSpecUptoCard : Claim7 := { stood := { row := truthMatchesSpecUptoRow, standIns := [], harness := (true, "91bc5d48d26aee418614a19e6e44f329f5fa5bd73b5e9d215a883cea40c1085e"), looks := false }, kinds := [], alts := [], laidByText := true, laidKinds := [.data], laidTests := true, laidLooks := .later }
def TruthMatchesSpecUptoCardSaid : Prop := Claim7.holds Tryd.pinned (.plain (OpenSpec.upto truthMatchesSpecSpec)) truthMatchesSpecUptoCard

/-- THE SECOND FORM's CARD OF 'glosswrightlaw1.TruthOfNegation'. -/
def truthOfNegationUptoCard : Claim7 := { stood := { row := truthOfNegationUptoRow, standIns := [], harness := (true, "91bc5d48d26aee418614a19e6e44f329f5fa5bd73b5e9d215a883cea40c1085e"), looks := false }, kinds := [], alts := [], laidByText := true, laidKinds := [.data], laidTests := true, laidLooks := .later }
def TruthOfNegationUptoCardSaid : Prop := Claim7.holds Tryd.pinned (.plain (OpenSpec.upto truthOfNegationSpec)) truthOfNegationUptoCard

/-- THE SECOND FORM's CARD OF 'glosswrightlaw1.TruthWitnessesMatchSpec'. -/
def truthWitnessesMatchSpecUptoCard : Claim7 := { stood := { row := truthWitnessesMatchSpecUptoRow, standIns := [], harness := (true, "91bc5d48d26aee418614a19e6e44f329f5fa5bd73b5e9d215a883cea40c1085e"), looks := false }, kinds := [], alts := [], laidByText := true, laidKinds := [.data], laidTests := true, laidLooks := .later }
def TruthWitnessesMatchSpecUptoCardSaid : Prop := Claim7.holds Tryd.pinned (.plain (OpenSpec.upto truthWitnessesMatchSpecSpec)) truthWitnessesMatchSpecUptoCard

/-- THE SECOND FORM's CARD OF 'glosswrightlaw1.NormalformNegativeMatchesSpec'. -/
def normalformNegativeMatchesSpecUptoCard : Claim7 := { stood := { row := normalformNegativeMatchesSpecUptoRow, standIns := [], harness := (true, "91bc5d48d26aee418614a19e6e44f329f5fa5bd73b5e9d215a883cea40c1085e"), looks := false }, kinds := [], alts := [], laidByText := true, laidKinds := [.data, .data, .data, .mapped, .data], laidTests := true, laidLooks := .later }
def NormalformNegativeMatchesSpecUptoCardSaid : Prop := Claim7.holds Tryd.pinned (.plain (OpenSpec.upto normalformNegativeMatchesSpecSpec)) normalformNegativeMatchesSpecUptoCard

/-- THE SECOND FORM's CARD OF 'glosswrightlaw1.NormalformOfNegation'. -/
def normalformOfNegationUptoCard : Claim7 := { stood := { row := normalformOfNegationUptoRow, standIns := [], harness := (true, "91bc5d48d26aee418614a19e6e44f329f5fa5bd73b5e9d215a883cea40c1085e"), looks := false }, kinds := [], alts := [], laidByText := true, laidKinds := [.data, .data, .data, .mapped, .data], laidTests := true, laidLooks := .later }
def NormalformOfNegationUptoCardSaid : Prop := Claim7.holds Tryd.pinned (.plain (OpenSpec.upto normalformOfNegationSpec)) normalformOfNegationUptoCard

/-- THE SECOND FORM's CARD OF 'glosswrightlaw1.NormalformPrenexMatchesSpec'. -/
def normalformPrenexMatchesSpecUptoCard : Claim7 := { stood := { row := normalformPrenexMatchesSpecUptoRow, standIns := [], harness := (true, "91bc5d48d26aee418614a19e6e44f329f5fa5bd73b5e9d215a883cea40c1085e"), looks := false }, kinds := [], alts := [], laidByText := true, laidKinds := [.data, .data, .data, .mapped, .data], laidTests := true, laidLooks := .later }
def NormalformPrenexMatchesSpecUptoCardSaid : Prop := Claim7.holds Tryd.pinned (.plain (OpenSpec.upto normalformPrenexMatchesSpecSpec)) normalformPrenexMatchesSpecUptoCard

/-- THE SECOND FORM's CARD OF 'glosswrightlaw1.NormalformNarrowMatchesSpec'. -/
def normalformNarrowMatchesSpecUptoCard : Claim7 := { stood := { row := normalformNarrowMatchesSpecUptoRow, standIns := [], harness := (true, "91bc5d48d26aee418614a19e6e44f329f5fa5bd73b5e9d215a883cea40c1085e"), looks := false }, kinds := [], alts := [], laidByText := true, laidKinds := [.data, .data, .data, .mapped, .data], laidTests := true, laidLooks := .later }
def NormalformNarrowMatchesSpecUptoCardSaid : Prop := Claim7.holds Tryd.pinned (.plain (OpenSpec.upto normalformNarrowMatchesSpecSpec)) normalformNarrowMatchesSpecUptoCard

/-- THE SECOND FORM's CARD OF 'glosswrightlaw1.NormalformShapes'. -/
def normalformShapesUptoCard : Claim7 := { stood := { row := normalformShapesUptoRow, standIns := [], harness := (true, "91bc5d48d26aee418614a19e6e44f329f5fa5bd73b5e9d215a883cea40c1085e"), looks := false }, kinds := [], alts := [], laidByText := true, laidKinds := [.data, .data, .data, .mapped, .data], laidTests := true, laidLooks := .later }
def NormalformShapesUptoCardSaid : Prop := Claim7.holds Tryd.pinned (.plain (OpenSpec.upto normalformShapesSpec)) normalformShapesUptoCard

/-- THE SECOND FORM's CARD OF 'glosswrightlaw1.TruthOfCanonical'. -/
def truthOfCanonicalUptoCard : Claim7 := { stood := { row := truthOfCanonicalUptoRow, standIns := [], harness := (true, "91bc5d48d26aee418614a19e6e44f329f5fa5bd73b5e9d215a883cea40c1085e"), looks := false }, kinds := [], alts := [], laidByText := true, laidKinds := [.data, .data, .data, .data], laidTests := true, laidLooks := .later }
def TruthOfCanonicalUptoCardSaid : Prop := Claim7.holds Tryd.pinned (.plain (OpenSpec.upto truthOfCanonicalSpec)) truthOfCanonicalUptoCard

/-- THE SECOND FORM's CARD OF 'glosswrightlaw1.TruthOfInstances'. -/
def truthOfInstancesUptoCard : Claim7 := { stood := { row := truthOfInstancesUptoRow, standIns := [], harness := (true, "91bc5d48d26aee418614a19e6e44f329f5fa5bd73b5e9d215a883cea40c1085e"), looks := false }, kinds := [], alts := [], laidByText := true, laidKinds := [.data, .data, .data, .data], laidTests := true, laidLooks := .later }
def TruthOfInstancesUptoCardSaid : Prop := Claim7.holds Tryd.pinned (.plain (OpenSpec.upto truthOfInstancesSpec)) truthOfInstancesUptoCard

/-- THE SECOND FORM's CARD OF 'glosswrightlaw1.TruthRenameMatchesSpec'. -/
def truthRenameMatchesSpecUptoCard : Claim7 := { stood := { row := truthRenameMatchesSpecUptoRow, standIns := [], harness := (true, "91bc5d48d26aee418614a19e6e44f329f5fa5bd73b5e9d215a883cea40c1085e"), looks := false }, kinds := [], alts := [], laidByText := true, laidKinds := [.data], laidTests := true, laidLooks := .later }
def TruthRenameMatchesSpecUptoCardSaid : Prop := Claim7.holds Tryd.pinned (.plain (OpenSpec.upto truthRenameMatchesSpecSpec)) truthRenameMatchesSpecUptoCard

/-- THE SECOND FORM's CARD OF 'glosswrightlaw1.NormalformKeepsTruth'. -/
def normalformKeepsTruthUptoCard : Claim7 := { stood := { row := normalformKeepsTruthUptoRow, standIns := [], harness := (true, "91bc5d48d26aee418614a19e6e44f329f5fa5bd73b5e9d215a883cea40c1085e"), looks := false }, kinds := [], alts := [], laidByText := true, laidKinds := [.data, .data, .data, .mapped, .data], laidTests := true, laidLooks := .later }
def NormalformKeepsTruthUptoCardSaid : Prop := Claim7.holds Tryd.pinned (.plain (OpenSpec.upto normalformKeepsTruthSpec)) normalformKeepsTruthUptoCard
end Rows
end Go.Proofs.YtflcbbikfdahhaaDoor
