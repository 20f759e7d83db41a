/-
  Formulas in memory: how a node's cells lie, a formula taken apart. Nothing here walks.
-/
import Derived.Test.YtflcbbikfdahhaaDoorFrd
import Derived.Test.YtflcbbikfdahhaaDoorSets
namespace Go.Proofs.YtflcbbikfdahhaaDoor
open Go Go.RowKit
set_option linter.unusedSimpArgs false
set_option linter.unusedVariables false

def fmL : Rep FmL where
  size := 3
  R w S a cs := ∃ v, cs = [.int .i64 a.kind, .string a.nm, v] ∧ a.nm.size ≤ maxLen ∧ strRep.Sl w S v a.ws
  pos := by omega
  len := by rintro w S a cs ⟨v, rfl, _⟩; rfl
  one := by
    rintro w S a cs ⟨v, rfl, _, A, n, c, rfl, _⟩ u hu
    simp at hu; rcases hu with rfl | rfl | rfl <;> rfl
  keep := by
    rintro w w' S S' a cs ⟨v, rfl, h0, h⟩ hk hS
    exact ⟨v, rfl, h0, h.keep hk hS⟩
abbrev fmRep : Rep Fm := treeRep fmL
/-- A formula in memory, taken apart. -/
theorem Fm.open_ {w : World} {S : Nat → Prop} {a : FmL} {l : List Fm} {cs : List Value} (h : fmRep.R w S (.mk a l) cs) :
    ∃ u v, cs = [.int .i64 a.kind, .string a.nm, u, v] ∧ a.nm.size ≤ maxLen ∧ strRep.Sl w S u a.ws ∧ fmRep.Sl w S v l := by
  obtain ⟨hs, v, rfl, ⟨u, rfl, h1, h2⟩, h3⟩ := Tree.In_iff.1 h
  exact ⟨u, v, rfl, h1, h2, h3⟩
theorem Fm.shut {w : World} {S : Nat → Prop} {a : FmL} {l : List Fm} {u v : Value} (h1 : a.nm.size ≤ maxLen) (h2 : strRep.Sl w S u a.ws) (h3 : fmRep.Sl w S v l) :
    fmRep.R w S (.mk a l) [.int .i64 a.kind, .string a.nm, u, v] :=
  Tree.In_iff.2 ⟨[.int .i64 a.kind, .string a.nm, u], v, rfl, ⟨u, rfl, h1, h2⟩, h3⟩
theorem Fm.shape {w : World} {S : Nat → Prop} {t : Fm} {cs : List Value} (h : fmRep.R w S t cs) :
    ∃ A n c B m d, cs = [.int .i64 t.lab.kind, .string t.lab.nm, .slice A n c, .slice B m d] ∧ t.kids.length = m ∧ m ≤ maxLen ∧ t.lab.ws.length = n ∧ n ≤ maxLen := by
  obtain ⟨a, l⟩ := t
  obtain ⟨u, v, rfl, h1, ⟨A, n, c, rfl, e1, e2, _⟩, B, m, d, rfl, h3, h4, _⟩ := Fm.open_ h
  exact ⟨_, _, _, _, _, _, rfl, h3, h4, e1, e2⟩
theorem fmZ_rep {w : World} {S : Nat → Prop} : fmRep.R w S fmZ [.int .i64 0, .string ⟨#[]⟩, .slice none 0 0, .slice none 0 0] :=
  Fm.shut (a := ⟨0, ⟨#[]⟩, []⟩) (l := []) (by decide +kernel) Rep.Sl.nil Rep.Sl.nil

end Go.Proofs.YtflcbbikfdahhaaDoor
