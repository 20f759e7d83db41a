/-
  The visit of a stack of terms finds what tmVal finds; the types of a list of rows. Nothing here names the program.
-/
import Derived.Test.YthflahcnkhmpaaaDoorTerm
namespace Go.Proofs.YthflahcnkhmpaaaDoor
open Go Go.RowKit
set_option linter.unusedSimpArgs false
set_option linter.unusedVariables false

/-- A term that is still to be visited: the term, its depth, how many variables are bound. -/
structure TmAt where
  t : Tm
  d : Nat
  bd : Nat
/-- What the visit of a stack (its top first) finds, when n nodes have been counted: the code and the place. -/
noncomputable def tmStack : List TmAt → Nat → Nat × Nat
  | [], _ => (0, 0)
  | x :: r, n => if (tmVal x.t x.d x.bd n).1 = 0 then tmStack r (tmVal x.t x.d x.bd n).2.2 else ((tmVal x.t x.d x.bd n).1, (tmVal x.t x.d x.bd n).2.1)
theorem tmStack_vals : ∀ (l : List Tm) (d bd n : Nat) (r : List TmAt), tmStack (l.map (fun t => ⟨t, d, bd⟩) ++ r) n = if (tmVals l d bd n).1 = 0 then tmStack r (tmVals l d bd n).2.2 else ((tmVals l d bd n).1, (tmVals l d bd n).2.1)
  | [], d, bd, n, r => by unfold tmVals; simp
  | t :: l, d, bd, n, r => by
    unfold tmVals
    simp only [List.map_cons, List.cons_append, tmStack]
    by_cases h : (tmVal t d bd n).1 = 0
    · rw [if_pos h, if_pos h, tmStack_vals l d bd _ r]
    · rw [if_neg h, if_neg h, if_neg h]
theorem tmStack_step (a : TmL) (l : List Tm) (d bd n : Nat) (r : List TmAt) :
    tmStack (⟨.mk a l, d, bd⟩ :: r) n = if 200 < n + 1 ∨ 40 < d then (1, n) else if a.code l.length bd = 0 then tmStack (l.map (fun t => ⟨t, d + 1, a.under bd⟩) ++ r) (n + 1) else (a.code l.length bd, n) := by
  rw [tmStack]
  simp only
  unfold tmVal
  by_cases h : 200 < n + 1 ∨ 40 < d
  · rw [if_pos h, if_pos h]; simp
  · rw [if_neg h, if_neg h]
    by_cases h2 : a.code l.length bd = 0
    · rw [if_pos h2, if_pos h2, tmStack_vals]
    · rw [if_neg h2, if_neg h2]; simp [h2]
theorem tmStack_one (t : Tm) : (tmStack [⟨t, 1, 0⟩] 0).1 = (tmVal t 1 0 0).1 ∧ ((tmVal t 1 0 0).1 ≠ 0 → (tmStack [⟨t, 1, 0⟩] 0).2 = (tmVal t 1 0 0).2.1) := by
  simp only [tmStack]
  by_cases h : (tmVal t 1 0 0).1 = 0
  · rw [if_pos h]; exact ⟨h.symm, fun h' => absurd h h'⟩
  · rw [if_neg h]; exact ⟨rfl, fun _ => rfl⟩
theorem Tree.nodess_sum {L : Type} : ∀ l : List (Tree L), (l.map fun x => x.nodes).sum = Tree.nodess l
  | [] => rfl
  | t :: l => by simp [Tree.nodess, Tree.nodess_sum l]
def stNodes (l : List TmAt) : Nat := (l.map fun x => x.t.nodes).sum

theorem stNodes_append (l l' : List TmAt) : stNodes (l ++ l') = stNodes l + stNodes l' := by simp [stNodes]
theorem stNodes_kids (d bd : Nat) : ∀ l : List Tm, stNodes (l.reverse.map (fun u => ⟨u, d, bd⟩)) = Tree.nodess l
  | [] => rfl
  | t :: l => by
    rw [List.reverse_cons, List.map_append, stNodes_append, stNodes_kids d bd l]
    simp [stNodes, Tree.nodess]; omega
theorem stNodes_pop (L : List TmAt) (a : TmL) (l : List Tm) (d bd d1 b1 : Nat) : stNodes (L ++ l.reverse.map (fun u => ⟨u, d1, b1⟩)) < stNodes (L ++ [⟨.mk a l, d, bd⟩]) := by
  rw [stNodes_append, stNodes_append, stNodes_kids]
  simp [stNodes, Tree.nodes]

end Go.Proofs.YthflahcnkhmpaaaDoor
