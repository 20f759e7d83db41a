/-
  Stores of whole structs (six cells, two cells) into a block: what the block holds, what the others hold, the size.
-/
import Derived.Test.YtflcbbikfdahhaaDoorReps
namespace Go.Proofs.YtflcbbikfdahhaaDoor
open Go Go.RowKit
set_option linter.unusedSimpArgs false
set_option linter.unusedVariables false

/-- A goal at a world: what is known of the world, and the goal at every such world. -/
theorem gen_last {f : World → Prop} {w : World} (P : World → Prop) (h : P w) (k : ∀ wx, P wx → f wx) : f w := k w h

theorem heap_drew {w : World} {k : Nat} {x : Option Obj} (h : w.heap[k]? = x) : w.drew.heap[k]? = x := h

section
variable {w w0 : World} {b k B : Nat} {T : TypeId} {x : Option Obj} {a0 a1 a2 a3 a4 a5 v0 v1 v2 v3 v4 v5 : Value}
theorem at6 (h : w.heap[b]? = some (.cells #[a0, a1, a2, a3, a4, a5] T (0, 0))) :
    ((((((w.setCell ⟨b, 0, none⟩ v0).setCell ⟨b, 1, none⟩ v1).setCell ⟨b, 2, none⟩ v2).setCell ⟨b, 3, none⟩ v3).setCell ⟨b, 4, none⟩ v4).setCell ⟨b, 5, none⟩ v5).heap[b]? = some (.cells #[v0, v1, v2, v3, v4, v5] T (0, 0)) :=
  heap_set (heap_set (heap_set (heap_set (heap_set (heap_set h 0 v0) 1 v1) 2 v2) 3 v3) 4 v4) 5 v5
theorem at2 (h : w.heap[b]? = some (.cells #[a0, a1] T (0, 0))) : ((w.setCell ⟨b, 0, none⟩ v0).setCell ⟨b, 1, none⟩ v1).heap[b]? = some (.cells #[v0, v1] T (0, 0)) :=
  heap_set (heap_set h 0 v0) 1 v1
theorem far6 (h : k ≠ b) (hx : w.heap[k]? = x) :
    ((((((w.setCell ⟨b, 0, none⟩ v0).setCell ⟨b, 1, none⟩ v1).setCell ⟨b, 2, none⟩ v2).setCell ⟨b, 3, none⟩ v3).setCell ⟨b, 4, none⟩ v4).setCell ⟨b, 5, none⟩ v5).heap[k]? = x :=
  heap_far _ h (heap_far _ h (heap_far _ h (heap_far _ h (heap_far _ h (heap_far _ h hx)))))
theorem far2 (h : k ≠ b) (hx : w.heap[k]? = x) : ((w.setCell ⟨b, 0, none⟩ v0).setCell ⟨b, 1, none⟩ v1).heap[k]? = x := heap_far _ h (heap_far _ h hx)
theorem size6 : ((((((w.setCell ⟨b, 0, none⟩ v0).setCell ⟨b, 1, none⟩ v1).setCell ⟨b, 2, none⟩ v2).setCell ⟨b, 3, none⟩ v3).setCell ⟨b, 4, none⟩ v4).setCell ⟨b, 5, none⟩ v5).heap.size = w.heap.size := by
  simp only [size_set]
theorem size2 : ((w.setCell ⟨b, 0, none⟩ v0).setCell ⟨b, 1, none⟩ v1).heap.size = w.heap.size := by simp only [size_set]
theorem le6 (h : B ≤ w.heap.size) : B ≤ ((((((w.setCell ⟨b, 0, none⟩ v0).setCell ⟨b, 1, none⟩ v1).setCell ⟨b, 2, none⟩ v2).setCell ⟨b, 3, none⟩ v3).setCell ⟨b, 4, none⟩ v4).setCell ⟨b, 5, none⟩ v5).heap.size := Nat.le_trans h (Nat.le_of_eq size6.symm)
theorem le2 (h : B ≤ w.heap.size) : B ≤ ((w.setCell ⟨b, 0, none⟩ v0).setCell ⟨b, 1, none⟩ v1).heap.size := Nat.le_trans h (Nat.le_of_eq size2.symm)
theorem lt6 (h : B < w.heap.size) : B < ((((((w.setCell ⟨b, 0, none⟩ v0).setCell ⟨b, 1, none⟩ v1).setCell ⟨b, 2, none⟩ v2).setCell ⟨b, 3, none⟩ v3).setCell ⟨b, 4, none⟩ v4).setCell ⟨b, 5, none⟩ v5).heap.size := Nat.lt_of_lt_of_eq h size6.symm
theorem lt2 (h : B < w.heap.size) : B < ((w.setCell ⟨b, 0, none⟩ v0).setCell ⟨b, 1, none⟩ v1).heap.size := Nat.lt_of_lt_of_eq h size2.symm
theorem below6 (h : Below B w0 w) (hb : B ≤ b) :
    Below B w0 ((((((w.setCell ⟨b, 0, none⟩ v0).setCell ⟨b, 1, none⟩ v1).setCell ⟨b, 2, none⟩ v2).setCell ⟨b, 3, none⟩ v3).setCell ⟨b, 4, none⟩ v4).setCell ⟨b, 5, none⟩ v5) :=
  (((((h.setCell hb v0).setCell hb v1).setCell hb v2).setCell hb v3).setCell hb v4).setCell hb v5
theorem below2 (h : Below B w0 w) (hb : B ≤ b) : Below B w0 ((w.setCell ⟨b, 0, none⟩ v0).setCell ⟨b, 1, none⟩ v1) := (h.setCell hb v0).setCell hb v1
end

end Go.Proofs.YtflcbbikfdahhaaDoor
