/-
  Where a binary search ends. Nothing here names the program.
-/
import Derived.Test.YtflcbbikfdahhaaDoorReps
namespace Go.Proofs.YtflcbbikfdahhaaDoor
open Go Go.RowKit
set_option linter.unusedSimpArgs false
set_option linter.unusedVariables false

/-- How many there are ahead of the first that is not below. -/
def cutN {α : Type} (f : α → Int) (l : List α) : Nat := (l.takeWhile (fun x => decide (f x < 0))).length
/-- Is the first that is not below a hit? -/
def hitN {α : Type} (f : α → Int) (l : List α) : Bool := (l[cutN f l]?).any (fun x => decide (f x = 0))
theorem cutN_le {α : Type} (f : α → Int) : ∀ l : List α, cutN f l ≤ l.length
  | [] => by simp [cutN]
  | a :: l => by
    have := cutN_le f l
    unfold cutN at this ⊢
    rw [List.takeWhile_cons]
    split
    · simp only [List.length_cons]; omega
    · simp
theorem cutN_eq {α : Type} (f : α → Int) : ∀ (l : List α) (i : Nat), i ≤ l.length → (∀ k (h : k < l.length), k < i → f l[k] < 0) → (∀ h : i < l.length, ¬ f l[i] < 0) → cutN f l = i
  | [], i, h, _, _ => by simp at h; simp [cutN, h]
  | a :: l, 0, _, _, h2 => by
    unfold cutN
    rw [List.takeWhile_cons, if_neg]
    · rfl
    · have h3 : ¬ f a < 0 := h2 (Nat.succ_pos _)
      simpa using h3
  | a :: l, i + 1, h, h1, h2 => by
    have ih := cutN_eq f l i (by simpa using h) (fun k hk hki => h1 (k + 1) (Nat.succ_lt_succ hk) (by omega)) (fun hi => h2 (Nat.succ_lt_succ hi))
    have ha : f a < 0 := h1 0 (Nat.succ_pos _) (by omega)
    unfold cutN at ih ⊢
    rw [List.takeWhile_cons, if_pos (by simpa using ha), List.length_cons, ih]
theorem hitN_at {α : Type} (f : α → Int) (l : List α) (h : cutN f l < l.length) : hitN f l = decide (f l[cutN f l] = 0) := by
  unfold hitN
  rw [List.getElem?_eq_getElem h]; rfl
theorem hitN_end {α : Type} (f : α → Int) (l : List α) (h : ¬ cutN f l < l.length) : hitN f l = false := by
  unfold hitN
  rw [List.getElem?_eq_none (by omega)]; rfl

end Go.Proofs.YtflcbbikfdahhaaDoor
