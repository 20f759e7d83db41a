/-
  A valid simple type in memory, taken apart; a type without a fault is a valid one. Nothing here walks the program.
-/
import Derived.Test.YtnoceodmnjhljaaDoorSimple
import Derived.Test.YtnoceodmnjhljaaDoorSy
namespace Go.Proofs.YtnoceodmnjhljaaDoor
open Go Go.RowKit
set_option linter.unusedSimpArgs false
set_option linter.unusedVariables false

theorem Sy.In_fn {w : World} {S : Nat → Prop} {a b : Sy} {v0 v1 : Value} (h : (Sy.fn a b).ty.In w S v0 v1) :
    ∃ bl o c x0 x1 y0 y1, v0 = .string bNil ∧ v1 = .slice (some ⟨bl, o, none⟩) 2 c ∧ S bl ∧ w.cell? ⟨bl, o, none⟩ = some x0 ∧ w.cell? ⟨bl, o + 1, none⟩ = some x1 ∧ w.cell? ⟨bl, o + 2, none⟩ = some y0 ∧ w.cell? ⟨bl, o + 2 + 1, none⟩ = some y1 ∧
      a.ty.In w S x0 x1 ∧ b.ty.In w S y0 y1 := by
  unfold Sy.ty at h
  obtain ⟨h0, _, A, n, c, h1, h2, _, h3⟩ := h.open_
  simp at h2
  subst h2
  obtain ⟨bl, o, rfl, hS, hi⟩ := h3 (by omega)
  unfold Ty.Ins at hi
  obtain ⟨x0, x1, e0, e1, e2, hi⟩ := hi
  unfold Ty.Ins at hi
  obtain ⟨y0, y1, f0, f1, f2, _⟩ := hi
  exact ⟨bl, o, c, x0, x1, y0, y1, h0, h1, hS, e0, e1, f0, f1, e2, f2⟩
theorem Sy.In_e {w : World} {S : Nat → Prop} {v0 v1 : Value} (h : Sy.e.ty.In w S v0 v1) : ∃ A c, v0 = .string bE ∧ v1 = .slice A 0 c := by
  unfold Sy.ty at h
  obtain ⟨h0, _, A, n, c, h1, h2, _⟩ := h.open_
  simp at h2; subst h2
  exact ⟨A, c, h0, h1⟩
theorem Sy.In_t {w : World} {S : Nat → Prop} {v0 v1 : Value} (h : Sy.t.ty.In w S v0 v1) : ∃ A c, v0 = .string bT ∧ v1 = .slice A 0 c := by
  unfold Sy.ty at h
  obtain ⟨h0, _, A, n, c, h1, h2, _⟩ := h.open_
  simp at h2; subst h2
  exact ⟨A, c, h0, h1⟩

theorem Ty.of_fault {t : Ty} (h : t.fault = 0) : ∃ s : Sy, t = s.ty ∧ s.nodes ≤ 200 ∧ s.depth ≤ 40 := by
  obtain ⟨s, h1, _, h3, h4⟩ := Ty.val_zero t 1 0 h
  exact ⟨s, h1, by omega, by omega⟩


end Go.Proofs.YtnoceodmnjhljaaDoor
