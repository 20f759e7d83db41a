/- Lemmas. -/
import Derived.Test.YthfokmjpbnfihaaDoorId
namespace Go.Proofs.YthfokmjpbnfihaaDoor
open Go Go.RowKit
set_option linter.unusedSimpArgs false
set_option linter.unusedVariables false
noncomputable section
section
variable {L:Type} {ρ ρ':Rep L}
mutual
theorem Tree.In_map (hs:ρ.size=ρ'.size) (h:∀{w:World} {S:Nat→Prop} {a:L} {cs:List Value},ρ.R w S a cs→ρ'.R w S a cs) {w:World} {S:Nat→Prop}:∀(t:Tree L) (cs:List Value),Tree.In ρ w S t cs→Tree.In ρ' w S t cs
  | .mk a l,cs,hh=>by
    unfold Tree.In at hh ⊢
    obtain ⟨us,A,n,c,h0,h1,h2,h3,h4⟩ := hh
    refine ⟨us,A,n,c,h0,h h1,h2,h3,fun hn=>?_⟩
    obtain ⟨b,o,e,hb,hi⟩ := h4 hn
    exact ⟨b,o,e,hb,Tree.Ins_map hs h l b o hi⟩
theorem Tree.Ins_map (hs:ρ.size=ρ'.size) (h:∀{w:World} {S:Nat→Prop} {a:L} {cs:List Value},ρ.R w S a cs→ρ'.R w S a cs) {w:World} {S:Nat→Prop}:∀(l:List (Tree L)) (b o:Nat),Tree.Ins ρ w S l b o→Tree.Ins ρ' w S l b o
  | [],_,_,_=>by unfold Tree.Ins; trivial
  | t :: l,b,o,hh=>by
    unfold Tree.Ins at hh ⊢
    obtain ⟨cs,h0,h1,h2⟩ := hh
    exact ⟨cs,h0,Tree.In_map hs h t cs h1,by rw [← hs]; exact Tree.Ins_map hs h l b _ h2⟩
end
end
def fmLC:Rep FmL where
  size := 3
  R := fun w S a cs=>fmL.R w S a cs∧∃(A:Option Addr) (n c:Nat),cs[2]? = some (Value.slice A n c)∧n≤c
  pos := by omega
  len := fun h=>fmL.len h.1
  one := fun h=>fmL.one h.1
  keep := fun h hk hS=>⟨fmL.keep h.1 hk hS,h.2⟩
abbrev fmRepC:Rep Fm := treeRep fmLC
theorem Fm.ofC {w:World} {S:Nat→Prop} {t:Fm} {cs:List Value} (h:fmRepC.R w S t cs):fmRep.R w S t cs := Tree.In_map (ρ := fmLC) (ρ' := fmL) rfl (fun h=>h.1) t cs h
end

end Go.Proofs.YthfokmjpbnfihaaDoor
