/-
  A valid term's node: how many more variables are bound below it, its kind. Nothing here names the program's functions.
-/
import Derived.Test.YthflahcnkhmpaabDoorProg
import Derived.Test.YthflahcnkhmpaabDoorCloneTm
namespace Go.Proofs.YthflahcnkhmpaabDoor
open Go Go.RowKit
set_option linter.unusedSimpArgs false
set_option linter.unusedVariables false

def Tv.isVar : Tv → Bool
  | .var _ => true
  | _ => false
/-- Behind a node: one more bound variable, or as many. -/
def Tv.more : Tv → Nat → Nat
  | .abs _ _, k => k + 1
  | _, k => k
theorem Tv.ok_kids (v : Tv) (bd j : Nat) (h : v.ok bd) (hj : j < v.kids.length) : v.kids[j].ok (v.more bd) := by
  match v, j, hj with
  | .abs _ b, 0, _ => exact h.2
  | .app f x, 0, _ => exact h.1
  | .app f x, 1, _ => exact h.2
theorem Tv.more_le (v : Tv) (k : Nat) : v.more k ≤ k + 1 := by cases v <;> simp [Tv.more]
theorem Tv.kind_var (v : Tv) : (v.lab.kind == 2) = v.isVar := by cases v <;> rfl
theorem Tv.kind_abs (v : Tv) (k : Nat) : ((v.lab.kind == 3) = true ∧ v.more k = k + 1) ∨ ((v.lab.kind == 3) = false ∧ v.more k = k) := by
  cases v
  · exact Or.inr ⟨rfl, rfl⟩
  · exact Or.inr ⟨rfl, rfl⟩
  · exact Or.inl ⟨rfl, rfl⟩
  · exact Or.inr ⟨rfl, rfl⟩

end Go.Proofs.YthflahcnkhmpaabDoor
