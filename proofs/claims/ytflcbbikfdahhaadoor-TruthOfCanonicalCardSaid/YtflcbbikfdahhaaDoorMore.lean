/-
  Small words on memory, beside XBase.
-/
import Derived.Test.YtflcbbikfdahhaaDoorBase
namespace Go.Proofs.YtflcbbikfdahhaaDoor
open Go Go.RowKit
set_option linter.unusedSimpArgs false
set_option linter.unusedVariables false

theorem ret_int {k : IntKind} {a b : Int} (h : a = b) : Ending.returned (.int k a) = .returned (.int k b) := by rw [h]

theorem ret_beq {a b : Int} (h : a = b) : Ending.returned (.bool (a == b)) = .returned (.bool true) := by rw [h]; simp

theorem cellv {w : World} {b : Nat} {cs : Array Value} {T : TypeId} {fr : Nat × Nat} (hb : w.heap[b]? = some (.cells cs T fr)) (j : Nat) {v : Value} (hx : cs[j]? = some v) : w.cell? ⟨b, j, none⟩ = some v := cell_heap hb hx

theorem Ty.Ins2 {w : World} {S : Nat → Prop} {t u : Ty} {b : Nat} {v0 v1 u0 u1 : Value} {T : TypeId} {fr : Nat × Nat} (hb : w.heap[b]? = some (.cells #[v0, v1, u0, u1] T fr))
    (ht : Ty.In w S t v0 v1) (hu : Ty.In w S u u0 u1) : Ty.Ins w S [t, u] b 0 := by
  unfold Ty.Ins
  refine ⟨v0, v1, cellv hb 0 rfl, cellv hb 1 rfl, ht, ?_⟩
  unfold Ty.Ins
  refine ⟨u0, u1, cellv hb 2 rfl, cellv hb 3 rfl, hu, ?_⟩
  unfold Ty.Ins
  trivial

theorem Ty.In.ex {w w' : World} {S : Nat → Prop} {t : Ty} {v0 v1 : Value} (h : Ty.In w S t v0 v1) (hb : Below w.heap.size w w') (hS : ∀ b, S b → b < w.heap.size) : Ty.In w' (Ex S w w') t v0 v1 :=
  (h.below hb hS).mono fun _ h => Or.inl h

/-- A call of a Go function at a step of a drawn region, for go_region_law: by the callee's contract. -/
theorem step_call {P : Program} {ops : Array Oper} {o : Oper} {a : Act} {w : World} {K : Act → World → Prop} {Q : Exit → Act → World → Prop} {E : Prop} (hgd : o.guard = none) (f : FuncId) (args : Array Value) {R : Ending → World → Prop}
    (hrun : (execOp a.eval o).run P w = .ok (.enter f args) w) (hc : Calls P f args w R) (h : ∀ e w', R e w' → ∃ v, e = .returned v ∧ K (a.put o.dst v) w') :
    if Region.wanted o (yielded ops a.tmps) = true then Oper.wp P o a w K Q else E := by
  rw [if_pos (by simp [Region.wanted, hgd])]
  unfold Oper.wp
  rw [hrun, Oper.upon_enter]
  refine hc.mono fun e w' hr => ?_
  obtain ⟨v, rfl, hk⟩ := h e w' hr
  exact hk

end Go.Proofs.YtflcbbikfdahhaaDoor
