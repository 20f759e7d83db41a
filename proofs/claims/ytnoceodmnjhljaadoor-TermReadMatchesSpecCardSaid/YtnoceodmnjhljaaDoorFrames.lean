/-
  Open function types in memory: the frames of ReadType's stack. g is the block of the stack's own row; each frame's parts lie between two marks, the inner frame's behind the outer's.
-/
import Derived.Test.YtnoceodmnjhljaaDoorStack
import Derived.Test.YtnoceodmnjhljaaDoorSy
namespace Go.Proofs.YtnoceodmnjhljaaDoor
open Go Go.RowKit
set_option linter.unusedSimpArgs false
set_option linter.unusedVariables false

/-- A frame's field Args is v; all that it leads to lies in [lo, hi), not in g. -/
def FrOk (w : World) (g : Option Nat) (lo hi : Nat) : Option Sy → Value → Prop
  | none, v => v = .slice none 0 0
  | some a, v => ∃ h cap x0 x1, v = .slice (some ⟨h, 0, none⟩) 1 cap ∧ lo ≤ h ∧ h < hi ∧ g ≠ some h ∧ w.ownsRow lo 24 2 v 1 [x0, x1] ∧ a.ty.In w (fun b => lo ≤ b ∧ b < hi ∧ g ≠ some b ∧ b ≠ h) x0 x1
/-- All frames, the innermost first. -/
def FrsOk (w : World) (g : Option Nat) (base : Nat) : List (Option Sy × Value) → Nat → Prop
  | [], hi => base ≤ hi
  | (f, v) :: r, hi => ∃ lo, lo ≤ hi ∧ FrOk w g lo hi f v ∧ FrsOk w g base r lo

theorem FrOk.shape {w : World} {g : Option Nat} {lo hi : Nat} {f : Option Sy} {v : Value} (h : FrOk w g lo hi f v) : ∃ A n c, v = .slice A n c := by
  cases f with
  | none => exact ⟨_, _, _, h⟩
  | some a => obtain ⟨h', cap, x0, x1, e, _⟩ := h; exact ⟨_, _, _, e⟩
theorem FrOk.keep {w w' : World} {g g' : Option Nat} {lo hi : Nat} {f : Option Sy} {v : Value} (h : FrOk w g lo hi f v) (hk : ∀ b, lo ≤ b → b < hi → g ≠ some b → w'.heap[b]? = w.heap[b]?) (hg : ∀ b, b < hi → g' = some b → g = some b) : FrOk w' g' lo hi f v := by
  cases f with
  | none => exact h
  | some a =>
    obtain ⟨b, cap, x0, x1, e, h1, h2, h3, ⟨h4, h5⟩, h6⟩ := h
    refine ⟨b, cap, x0, x1, e, h1, h2, fun e => h3 (hg b h2 e), ⟨h4, ?_⟩, (h6.keep (fun k hk' => hk k hk'.1 hk'.2.1 hk'.2.2.1)).mono (fun k hk' => ⟨hk'.1, hk'.2.1, fun e => hk'.2.2.1 (hg k hk'.2.1 e), hk'.2.2.2⟩)⟩
    rcases h5 with h5 | ⟨g0, cap0, cur, e0, hg0, hh, r⟩
    · exact Or.inl h5
    · rw [e] at e0
      simp only [Value.slice.injEq, Option.some.injEq, Addr.mk.injEq] at e0
      obtain ⟨⟨rfl, _⟩, _, rfl⟩ := e0
      exact Or.inr ⟨b, cap, cur, e, hg0, (hk b h1 h2 h3).trans hh, r⟩
theorem FrOk.mono {w : World} {g : Option Nat} {lo hi hi' : Nat} {f : Option Sy} {v : Value} (h : FrOk w g lo hi f v) (hh : hi ≤ hi') : FrOk w g lo hi' f v := by
  cases f with
  | none => exact h
  | some a =>
    obtain ⟨b, cap, x0, x1, e, h1, h2, h3, h4, h6⟩ := h
    exact ⟨b, cap, x0, x1, e, h1, by omega, h3, h4, h6.mono (fun k hk' => ⟨hk'.1, by omega, hk'.2.2⟩)⟩
theorem FrsOk.base {w : World} {g : Option Nat} {base : Nat} : ∀ {l : List (Option Sy × Value)} {hi : Nat}, FrsOk w g base l hi → base ≤ hi
  | [], _, h => h
  | _ :: _, _, ⟨_, h1, _, h3⟩ => Nat.le_trans (FrsOk.base h3) h1
theorem FrsOk.keep {w w' : World} {g g' : Option Nat} {base : Nat} : ∀ {l : List (Option Sy × Value)} {hi : Nat}, FrsOk w g base l hi → (∀ b, base ≤ b → b < hi → g ≠ some b → w'.heap[b]? = w.heap[b]?) → (∀ b, b < hi → g' = some b → g = some b) → FrsOk w' g' base l hi
  | [], _, h, _, _ => h
  | (f, v) :: r, hi, h, hk, hg => by
    obtain ⟨lo, h1, h2, h3⟩ := h
    have hb : base ≤ lo := FrsOk.base h3
    exact ⟨lo, h1, h2.keep (fun b h4 h5 h6 => hk b (by omega) h5 h6) hg, FrsOk.keep h3 (fun b h4 h5 h6 => hk b h4 (by omega) h6) (fun b h4 h5 => hg b (by omega) h5)⟩
theorem FrsOk.mono {w : World} {g : Option Nat} {base : Nat} {l : List (Option Sy × Value)} {hi hi' : Nat} (h : FrsOk w g base l hi) (hh : hi ≤ hi') : FrsOk w g base l hi' := by
  cases l with
  | nil => exact Nat.le_trans h hh
  | cons p r =>
    obtain ⟨lo, h1, h2, h3⟩ := h
    exact ⟨lo, by omega, h2.mono hh, h3⟩
/-- One frame more. -/
theorem FrsOk.push {w : World} {g : Option Nat} {base : Nat} {l : List (Option Sy × Value)} {hi : Nat} (h : FrsOk w g base l hi) : FrsOk w g base ((none, .slice none 0 0) :: l) hi := ⟨hi, Nat.le_refl _, rfl, h⟩

/-- The cells of the stack's row, the outermost frame first. -/
def frCells (l : List (Option Sy × Value)) : List Value := l.reverse.flatMap fun p => [.string ⟨#[]⟩, p.2]
theorem frCells_cons (p : Option Sy × Value) (l : List (Option Sy × Value)) : frCells (p :: l) = frCells l ++ [.string ⟨#[]⟩, p.2] := by simp [frCells]
theorem frCells_len (l : List (Option Sy × Value)) : (frCells l).length = l.length * 2 := by
  induction l with
  | nil => rfl
  | cons p l ih => rw [frCells_cons, List.length_append, ih]; simp; omega

end Go.Proofs.YtnoceodmnjhljaaDoor
