/-
  Lists in memory, element by element; how the folds of a model's fault go on; what a model's validation leaves. Nothing here walks.
-/
import Derived.Test.YtflcbbikfdahhaaDoorMd
namespace Go.Proofs.YtflcbbikfdahhaaDoor
open Go Go.RowKit
set_option linter.unusedSimpArgs false
set_option linter.unusedVariables false

/-- What comes ahead of the j-th. -/
def prevOf {α : Type} (l : List α) : Nat → Option α
  | 0 => none
  | j + 1 => l[j]?
theorem consF_step {sz : Int} {l : List Con} {j : Nat} (hj : j < l.length) : consF sz (prevOf l j) j (l.drop j) = if conCode sz (prevOf l j) l[j] = 0 then consF sz (prevOf l (j + 1)) (j + 1) (l.drop (j + 1)) else (conCode sz (prevOf l j) l[j], j) := by
  rw [List.drop_eq_getElem_cons hj]
  conv => lhs; unfold consF
  rw [show prevOf l (j + 1) = some l[j] from List.getElem?_eq_getElem hj]
theorem relsF_step {sz : Int} {l : List Rel} {j : Nat} (hj : j < l.length) : relsF sz (prevOf l j) j (l.drop j) = if relCode sz (prevOf l j) l[j] = 0 then relsF sz (prevOf l (j + 1)) (j + 1) (l.drop (j + 1)) else (relCode sz (prevOf l j) l[j], j) := by
  rw [List.drop_eq_getElem_cons hj]
  conv => lhs; unfold relsF
  rw [show prevOf l (j + 1) = some l[j] from List.getElem?_eq_getElem hj]
theorem tupsF_step {sz ar : Int} {l : List (List Int)} {j : Nat} (hj : j < l.length) : tupsF sz ar (prevOf l j) (l.drop j) = if tupCode sz ar (prevOf l j) l[j] = 0 then tupsF sz ar (prevOf l (j + 1)) (l.drop (j + 1)) else tupCode sz ar (prevOf l j) l[j] := by
  rw [List.drop_eq_getElem_cons hj]
  conv => lhs; unfold tupsF
  rw [show prevOf l (j + 1) = some l[j] from List.getElem?_eq_getElem hj]
/-- The cells of one constant, of one relation. -/
theorem con_at {w : World} {S : Nat → Prop} {A : Option Addr} {n c j : Nat} {l : List Con} (h : conRep.Sl w S (.slice A n c) l) (hj : j < l.length) : ∃ b o, A = some ⟨b, o, none⟩ ∧ S b ∧ w.cell? ⟨b, o + j * 2, none⟩ = some (.string l[j].nm) ∧ w.cell? ⟨b, o + j * 2 + 1, none⟩ = some (.int .i64 l[j].v) ∧ l[j].nm.size ≤ maxLen := by
  obtain ⟨b, o, cs, hA, hSb, ⟨hx, hn⟩, hcell⟩ := Rep.Sl.at_ h (k := j) (a := l[j]) (by simp [hj])
  subst hx
  exact ⟨b, o, hA, hSb, hcell 0 _ rfl, hcell 1 _ rfl, hn⟩
theorem rel_at {w : World} {S : Nat → Prop} {A : Option Addr} {n c j : Nat} {l : List Rel} (h : relRep.Sl w S (.slice A n c) l) (hj : j < l.length) : ∃ b o T t, A = some ⟨b, o, none⟩ ∧ S b ∧ w.cell? ⟨b, o + j * 3, none⟩ = some (.string l[j].nm) ∧ w.cell? ⟨b, o + j * 3 + 1, none⟩ = some (.int .i64 l[j].ar) ∧ w.cell? ⟨b, o + j * 3 + 2, none⟩ = some (.slice T l[j].tp.length t) ∧ l[j].nm.size ≤ maxLen ∧ l[j].tp.length ≤ maxLen ∧ intsRep.Sl w S (.slice T l[j].tp.length t) l[j].tp := by
  obtain ⟨b, o, cs, hA, hSb, ⟨v, hx, hn, hv⟩, hcell⟩ := Rep.Sl.at_ h (k := j) (a := l[j]) (by simp [hj])
  subst hx
  obtain ⟨T, t, rfl, hl⟩ := hv.shape
  exact ⟨b, o, T, t, hA, hSb, hcell 0 _ rfl, hcell 1 _ rfl, hcell 2 _ rfl, hn, hl, hv⟩
theorem tup_at {w : World} {S : Nat → Prop} {A : Option Addr} {n c j : Nat} {l : List (List Int)} (h : intsRep.Sl w S (.slice A n c) l) (hj : j < l.length) : ∃ b o T t, A = some ⟨b, o, none⟩ ∧ S b ∧ w.cell? ⟨b, o + j, none⟩ = some (.slice T l[j].length t) ∧ l[j].length ≤ maxLen ∧ zRep.Sl w S (.slice T l[j].length t) l[j] := by
  obtain ⟨b, o, cs, hA, hSb, ⟨v, hx, hv⟩, hcell⟩ := Rep.Sl.at_ h (k := j) (a := l[j]) (by simp [hj])
  subst hx
  obtain ⟨T, t, rfl, hl⟩ := hv.shape
  exact ⟨b, o, T, t, hA, hSb, by have := hcell 0 _ rfl; simpa [intsRep] using this, hl, hv⟩

theorem mdFault_mk (sz : Int) (cl : List Con) (rl : List Rel) : mdFault ⟨sz, cl, rl⟩ = if sz < 1 ∨ 6 < sz then (3, 0) else if 300 < cl.length ∨ 300 < rl.length then (2, 0) else if (consF sz none 0 cl).1 = 0 then relsF sz none 0 rl else consF sz none 0 cl := rfl

theorem below_nq {B : Nat} {u w : World} (h : Below B u w) (n : Nat) : Below B u (w.drewN n) := ⟨h.os, h.tape, h.output, h.size, h.block⟩
/-- What Validate leaves. -/
def MdAt (m : Md) (w : World) (e : Ending) (w' : World) : Prop := e = .returned (.agg #[.int .i64 ((mdFault m).1 : Nat), .int .i64 ((mdFault m).2 : Nat)]) ∧ Below w.heap.size w w'

end Go.Proofs.YtflcbbikfdahhaaDoor
