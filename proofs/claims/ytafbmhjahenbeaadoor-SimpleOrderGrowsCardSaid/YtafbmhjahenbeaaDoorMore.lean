/-
  Small words on memory, beside XBase.
-/
import Derived.Test.YtafbmhjahenbeaaDoorBase
namespace Go.Proofs.YtafbmhjahenbeaaDoor
open Go Go.RowKit

theorem ret_int {k : IntKind} {a b : Int} (h : a = b) : Ending.returned (.int k a) = .returned (.int k b) := by rw [h]

theorem ret_beq {a b : Int} (h : a = b) : Ending.returned (.bool (a == b)) = .returned (.bool true) := by rw [h]; simp

theorem cellv {w : World} {b : Nat} {cs : Array Value} {T : TypeId} {fr : Nat × Nat} (hb : w.heap[b]? = some (.cells cs T fr)) (j : Nat) {v : Value} (hx : cs[j]? = some v) : w.cell? ⟨b, j, none⟩ = some v := cell_heap hb hx

theorem Ty.Ins2 {w : World} {S : Nat → Prop} {t u : Ty} {b : Nat} {v0 v1 u0 u1 : Value} {T : TypeId} {fr : Nat × Nat} (hb : w.heap[b]? = some (.cells #[v0, v1, u0, u1] T fr))
    (ht : Ty.In w S t v0 v1) (hu : Ty.In w S u u0 u1) : Ty.Ins w S [t, u] b 0 := by
  unfold Ty.Ins
  refine ⟨v0, v1, cellv hb 0 rfl, cellv hb 1 rfl, ht, ?_⟩
  unfold Ty.Ins
  refine ⟨u0, u1, cellv hb 2 rfl, cellv hb 3 rfl, hu, ?_⟩
  unfold Ty.Ins
  trivial

theorem Ty.In.ex {w w' : World} {S : Nat → Prop} {t : Ty} {v0 v1 : Value} (h : Ty.In w S t v0 v1) (hb : Below w.heap.size w w') (hS : ∀ b, S b → b < w.heap.size) : Ty.In w' (Ex S w w') t v0 v1 :=
  (h.below hb hS).mono fun _ h => Or.inl h

end Go.Proofs.YtafbmhjahenbeaaDoor
