/-
  DERIVED. GIVEN WITH THE SEED: THE CARDS: each row of YtdofemkfmkopcaaDoorRows.lean that lists a variable, with what it lists TIED to the program's text (the seventh form; the later family's looks); each row that meets fmt, with fmt's text TOLD by the authors' own Lean function (tested against real Go, not proved from fmt's source: count such statements apart). THE CARD IS WHAT COUNTS. Prove the row's statement (the work); the ties are given (YtdofemkfmkopcaaDoorTie.lean); close each card by the builder's one call (the guide's Derived/Test/ToyasCard.lean, 'card_holds'). Laid BY PROGRAM, IN A SANDBOX (cutbox-door.mjs). By AI agents, Wed Nov 11 2026. No macro, syntax, notation, axiom, sorry.
-/
import Derived.Test.YtdofemkfmkopcaaDoorRows
import GoSem.ClaimSeven
namespace Go.Proofs.YtdofemkfmkopcaaDoor
namespace Rows

/-- THE TIED CARD OF 'glosswrightlaw1.FolformMatchesSpec'. -/
def folformMatchesSpecCard : Claim7 := { stood := { row := folformMatchesSpecRow, standIns := [], harness := (true, "76aced7ce5bce748ebe790eba33c89d8b05e1f24ca23b4c44c48564e93311419"), looks := false }, kinds := [], alts := [], laidByText := true, laidKinds := [.data], laidTests := true, laidLooks := .later }
def FolformMatchesSpecCardSaid : Prop := Claim7.holds Tryd.pinned (.plain (OpenSpec.ofChange folformMatchesSpecSpec)) folformMatchesSpecCard

/-- THE TIED CARD OF 'glosswrightlaw1.TruthMatchesSpec'. -/
def truthMatchesSpecCard : Claim7 := { stood := { row := truthMatchesSpecRow, standIns := [], harness := (true, "76aced7ce5bce748ebe790eba33c89d8b05e1f24ca23b4c44c48564e93311419"), looks := false }, kinds := [], alts := [], laidByText := true, laidKinds := [.data], laidTests := true, laidLooks := .later }
def TruthMatchesSpecCardSaid : Prop := Claim7.holds Tryd.pinned (.plain (OpenSpec.ofChange truthMatchesSpecSpec)) truthMatchesSpecCard

/-- THE TIED CARD OF 'glosswrightlaw1.TruthOfNegation'. -/
def truthOfNegationCard : Claim7 := { stood := { row := truthOfNegationRow, standIns := [], harness := (true, "76aced7ce5bce748ebe790eba33c89d8b05e1f24ca23b4c44c48564e93311419"), looks := false }, kinds := [], alts := [], laidByText := true, laidKinds := [.data], laidTests := true, laidLooks := .later }
def TruthOfNegationCardSaid : Prop := Claim7.holds Tryd.pinned (.plain (OpenSpec.ofChange truthOfNegationSpec)) truthOfNegationCard

/-- THE TIED CARD OF 'glosswrightlaw1.FolformCanonicalMatchesSpec'. -/
def folformCanonicalMatchesSpecCard : Claim7 := { stood := { row := folformCanonicalMatchesSpecRow, standIns := [], harness := (true, "76aced7ce5bce748ebe790eba33c89d8b05e1f24ca23b4c44c48564e93311419"), looks := false }, kinds := [], alts := [], laidByText := true, laidKinds := [.data, .data, .data, .data], laidTests := true, laidLooks := .later }
def FolformCanonicalMatchesSpecCardSaid : Prop := Claim7.holds Tryd.pinned (.plain (OpenSpec.ofChange folformCanonicalMatchesSpecSpec)) folformCanonicalMatchesSpecCard

/-- THE TIED CARD OF 'glosswrightlaw1.FolformCanonicalIsStable'. -/
def folformCanonicalIsStableCard : Claim7 := { stood := { row := folformCanonicalIsStableRow, standIns := [], harness := (true, "76aced7ce5bce748ebe790eba33c89d8b05e1f24ca23b4c44c48564e93311419"), looks := false }, kinds := [], alts := [], laidByText := true, laidKinds := [.data, .data, .data, .data], laidTests := true, laidLooks := .later }
def FolformCanonicalIsStableCardSaid : Prop := Claim7.holds Tryd.pinned (.plain (OpenSpec.ofChange folformCanonicalIsStableSpec)) folformCanonicalIsStableCard

/-- THE TIED CARD OF 'glosswrightlaw1.FolformInstanceMatchesSpec'. -/
def folformInstanceMatchesSpecCard : Claim7 := { stood := { row := folformInstanceMatchesSpecRow, standIns := [], harness := (true, "76aced7ce5bce748ebe790eba33c89d8b05e1f24ca23b4c44c48564e93311419"), looks := false }, kinds := [], alts := [], laidByText := true, laidKinds := [.data, .data, .data, .data], laidTests := true, laidLooks := .later }
def FolformInstanceMatchesSpecCardSaid : Prop := Claim7.holds Tryd.pinned (.plain (OpenSpec.ofChange folformInstanceMatchesSpecSpec)) folformInstanceMatchesSpecCard

/-- THE TIED CARD OF 'glosswrightlaw1.FolformInstancesOfAlike'. -/
def folformInstancesOfAlikeCard : Claim7 := { stood := { row := folformInstancesOfAlikeRow, standIns := [], harness := (true, "76aced7ce5bce748ebe790eba33c89d8b05e1f24ca23b4c44c48564e93311419"), looks := false }, kinds := [], alts := [], laidByText := true, laidKinds := [.data, .data, .data, .data], laidTests := true, laidLooks := .later }
def FolformInstancesOfAlikeCardSaid : Prop := Claim7.holds Tryd.pinned (.plain (OpenSpec.ofChange folformInstancesOfAlikeSpec)) folformInstancesOfAlikeCard

/-- THE TIED CARD OF 'glosswrightlaw1.TruthWitnessesMatchSpec'. -/
def truthWitnessesMatchSpecCard : Claim7 := { stood := { row := truthWitnessesMatchSpecRow, standIns := [], harness := (true, "76aced7ce5bce748ebe790eba33c89d8b05e1f24ca23b4c44c48564e93311419"), looks := false }, kinds := [], alts := [], laidByText := true, laidKinds := [.data], laidTests := true, laidLooks := .later }
def TruthWitnessesMatchSpecCardSaid : Prop := Claim7.holds Tryd.pinned (.plain (OpenSpec.ofChange truthWitnessesMatchSpecSpec)) truthWitnessesMatchSpecCard

/-- THE SECOND FORM's CARD OF 'glosswrightlaw1.FolformMatchesSpec'. -/
def folformMatchesSpecUptoCard : Claim7 := { stood := { row := folformMatchesSpecUptoRow, standIns := [], harness := (true, "76aced7ce5bce748ebe790eba33c89d8b05e1f24ca23b4c44c48564e93311419"), looks := false }, kinds := [], alts := [], laidByText := true, laidKinds := [.data], laidTests := true, laidLooks := .later }
def FolformMatchesSpecUptoCardSaid : Prop := Claim7.holds Tryd.pinned (.plain (OpenSpec.upto folformMatchesSpecSpec)) folformMatchesSpecUptoCard

/-- THE SECOND FORM's CARD OF 'glosswrightlaw1.TruthMatchesSpec'. -/
def truthMatchesSpecUptoCard : Claim7 := { stood := { row := truthMatchesSpecUptoRow, standIns := [], harness := (true, "76aced7ce5bce748ebe790eba33c89d8b05e1f24ca23b4c44c48564e93311419"), looks := false }, kinds := [], alts := [], laidByText := true, laidKinds := [.data], laidTests := true, laidLooks := .later }
def TruthMatchesSpecUptoCardSaid : Prop := Claim7.holds Tryd.pinned (.plain (OpenSpec.upto truthMatchesSpecSpec)) truthMatchesSpecUptoCard

/-- THE SECOND FORM's CARD OF 'glosswrightlaw1.TruthOfNegation'. -/
def truthOfNegationUptoCard : Claim7 := { stood := { row := truthOfNegationUptoRow, standIns := [], harness := (true, "76aced7ce5bce748ebe790eba33c89d8b05e1f24ca23b4c44c48564e93311419"), looks := false }, kinds := [], alts := [], laidByText := true, laidKinds := [.data], laidTests := true, laidLooks := .later }
def TruthOfNegationUptoCardSaid : Prop := Claim7.holds Tryd.pinned (.plain (OpenSpec.upto truthOfNegationSpec)) truthOfNegationUptoCard

/-- THE SECOND FORM's CARD OF 'glosswrightlaw1.FolformCanonicalMatchesSpec'. -/
def folformCanonicalMatchesSpecUptoCard : Claim7 := { stood := { row := folformCanonicalMatchesSpecUptoRow, standIns := [], harness := (true, "76aced7ce5bce748ebe790eba33c89d8b05e1f24ca23b4c44c48564e93311419"), looks := false }, kinds := [], alts := [], laidByText := true, laidKinds := [.data, .data, .data, .data], laidTests := true, laidLooks := .later }
def FolformCanonicalMatchesSpecUptoCardSaid : Prop := Claim7.holds Tryd.pinned (.plain (OpenSpec.upto folformCanonicalMatchesSpecSpec)) folformCanonicalMatchesSpecUptoCard

/-- THE SECOND FORM's CARD OF 'glosswrightlaw1.FolformCanonicalIsStable'. -/
def folformCanonicalIsStableUptoCard : Claim7 := { stood := { row := folformCanonicalIsStableUptoRow, standIns := [], harness := (true, "76aced7ce5bce748ebe790eba33c89d8b05e1f24ca23b4c44c48564e93311419"), looks := false }, kinds := [], alts := [], laidByText := true, laidKinds := [.data, .data, .data, .data], laidTests := true, laidLooks := .later }
def FolformCanonicalIsStableUptoCardSaid : Prop := Claim7.holds Tryd.pinned (.plain (OpenSpec.upto folformCanonicalIsStableSpec)) folformCanonicalIsStableUptoCard

/-- THE SECOND FORM's CARD OF 'glosswrightlaw1.FolformInstanceMatchesSpec'. -/
def folformInstanceMatchesSpecUptoCard : Claim7 := { stood := { row := folformInstanceMatchesSpecUptoRow, standIns := [], harness := (true, "76aced7ce5bce748ebe790eba33c89d8b05e1f24ca23b4c44c48564e93311419"), looks := false }, kinds := [], alts := [], laidByText := true, laidKinds := [.data, .data, .data, .data], laidTests := true, laidLooks := .later }
def FolformInstanceMatchesSpecUptoCardSaid : Prop := Claim7.holds Tryd.pinned (.plain (OpenSpec.upto folformInstanceMatchesSpecSpec)) folformInstanceMatchesSpecUptoCard

/-- THE SECOND FORM's CARD OF 'glosswrightlaw1.FolformInstancesOfAlike'. -/
def folformInstancesOfAlikeUptoCard : Claim7 := { stood := { row := folformInstancesOfAlikeUptoRow, standIns := [], harness := (true, "76aced7ce5bce748ebe790eba33c89d8b05e1f24ca23b4c44c48564e93311419"), looks := false }, kinds := [], alts := [], laidByText := true, laidKinds := [.data, .data, .data, .data], laidTests := true, laidLooks := .later }
def FolformInstancesOfAlikeUptoCardSaid : Prop := Claim7.holds Tryd.pinned (.plain (OpenSpec.upto folformInstancesOfAlikeSpec)) folformInstancesOfAlikeUptoCard

/-- THE SECOND FORM's CARD OF 'glosswrightlaw1.TruthWitnessesMatchSpec'. -/
def truthWitnessesMatchSpecUptoCard : Claim7 := { stood := { row := truthWitnessesMatchSpecUptoRow, standIns := [], harness := (true, "76aced7ce5bce748ebe790eba33c89d8b05e1f24ca23b4c44c48564e93311419"), looks := false }, kinds := [], alts := [], laidByText := true, laidKinds := [.data], laidTests := true, laidLooks := .later }
def TruthWitnessesMatchSpecUptoCardSaid : Prop := Claim7.holds Tryd.pinned (.plain (OpenSpec.upto truthWitnessesMatchSpecSpec)) truthWitnessesMatchSpecUptoCard
end Rows
end Go.Proofs.YtdofemkfmkopcaaDoor
