/-
  Package simple and the small makers of types in the references: the walks.
-/
import Derived.Test.YtnoceodmnjhljaaDoorProg
import Derived.Test.YtnoceodmnjhljaaDoorValTy
import Derived.Test.YtnoceodmnjhljaaDoorMore
namespace Go.Proofs.YtnoceodmnjhljaaDoor
open Go Go.RowKit
set_option linter.unusedSimpArgs false
set_option linter.unusedVariables false

/-- The fault code of simple.Validate. -/
noncomputable def Ty.fault (t : Ty) : Nat := (t.val 1 0).1

set_option maxRecDepth 100000 in
theorem validate_any (t : Ty) (v0 v1 : Value) (w : World) (S : Nat → Prop) (ht : t.In w S v0 v1) (hS : ∀ b, S b → b < w.heap.size) :
    Calls Tryd.prog 32 #[.agg #[v0, v1]] w fun e w' => e = .returned (.agg #[.int .i64 t.fault, .int .i64 0]) ∧ Below w.heap.size w w' := by
  obtain ⟨sx, Ax, nx, cx, rfl, rfl⟩ := ht.shape
  have HT := Lib.hid ht
  have HS := Lib.hid hS
  clear ht hS
  go_enter Tryd.func32, Tryd.ntmps32
  go_wp2_with fail
  refine (val_any t.size t _ _ _ S (w.heap.size + 1 + 1) (w.heap.size + 1 + 1 + 1) 1 0 (Nat.le_refl _) ?_ ?_ ?_ ?_ (by omega) (by omega) (by omega)).mono ?_
  · exact HT.out.keep fun k hk => by
      have := HS.out k hk
      exact heap_old (by go_size) (heap_old (by go_size) (heap_old (by go_size) (heap_old (by go_size) rfl)))
  · intro k hk; have := HS.out k hk; simp; omega
  · exact heap_old (by go_size) (heap_at (by go_size))
  · exact heap_at (by go_size)
  rintro e w1 ⟨rfl, hq, hg⟩
  have h1 : w1.heap[w.heap.size + 1]? = some (.cells #[.int .i64 0, .int .i64 0] 29 (0, 0)) :=
    (hg.block (w.heap.size + 1) (by go_size) (by intro e; injection e; omega)).trans (heap_old (by go_size) (heap_old (by go_size) (heap_at (by go_size))))
  have k0 := cellv h1 0 rfl
  have k1 := cellv h1 1 rfl
  have k2 := free_heap h1 0
  have k3 := free_heap h1 1
  have k4 := lt_heap h1
  have Hg := Lib.hid hg
  clear hg hq h1
  go_wp2_with fail
  refine bodyPost_ret (v := .agg #[.int .i64 t.fault, .int .i64 0]) (by simp [results, Tryd.results32, go_sem, k0, k1, Ty.fault]) rfl ?_
  refine ⟨rfl, ((?_ : Below w.heap.size w w1).setCell (by simp) _).setCell (by simp) _⟩
  have h4 : Below w.heap.size w ((((w.alloc (Obj.cells #[Value.string sx, Value.slice Ax nx cx] 24)).alloc (Obj.cells #[Value.int IntKind.i64 0, Value.int IntKind.i64 0] 29)).alloc (Obj.cells #[Value.int IntKind.i64 0] 3)).alloc
    (Obj.cells #[Value.func (Fn.func 49) #[] #[Value.pointer (some { block := w.heap.size + 1 + 1, off := 0 }), Value.pointer (some { block := w.heap.size + 1 + 1 + 1, off := 0 })]] 97)) := by go_grown
  exact h4.grown Hg.out (by go_size) (by intro k e; injection e; omega)

theorem base_any (s : ByteArray) (w : World) (hs : s.size ≤ maxLen) :
    Calls Tryd.prog 19 #[.string s] w fun e w' => e = .returned (.agg #[.string s, .slice none 0 0]) ∧ (Ty.mk s []).In w' (fun _ => False) (.string s) (.slice none 0 0) ∧ Below w.heap.size w w' := by
  go_enter Tryd.func19, Tryd.ntmps19
  go_wp2
  go_returns
  exact ⟨rfl, Ty.In.mk_ hs rfl (by omega) (by omega), by go_grown⟩

theorem to_any (t u : Ty) (a0 a1 b0 b1 : Value) (w : World) (S : Nat → Prop) (ht : t.In w S a0 a1) (hu : u.In w S b0 b1) (hS : ∀ b, S b → b < w.heap.size) :
    Calls Tryd.prog 36 #[.agg #[a0, a1], .agg #[b0, b1]] w fun e w' => ∃ v0 v1, e = .returned (.agg #[v0, v1]) ∧ (Ty.mk bNil [t, u]).In w' (Ex S w w') v0 v1 ∧ Below w.heap.size w w' := by
  obtain ⟨sx, Ax, nx, cx, rfl, rfl⟩ := ht.shape
  obtain ⟨sy, Ay, ny, cy, rfl, rfl⟩ := hu.shape
  have HT := Lib.hid ht
  have HU := Lib.hid hu
  have HS := Lib.hid hS
  clear ht hu hS
  go_enter Tryd.func36, Tryd.ntmps36
  go_wp2
  go_returns
  have hb : Below w.heap.size w ((((w.alloc (.cells #[.string sx, .slice Ax nx cx] 24)).alloc (.cells #[.string sy, .slice Ay ny cy] 24)).alloc
    (.cells #[.string bNil, .slice (some ⟨w.heap.size + 1 + 1 + 1, 0, none⟩) 2 2] 24)).alloc (.cells #[.string sx, .slice Ax nx cx, .string sy, .slice Ay ny cy] 24)) := by go_grown
  refine ⟨_, _, rfl, Ty.In.mk_ (by decide +kernel) rfl (by simp [maxLen]) fun _ => ⟨_, _, rfl, Or.inr ⟨by go_size, by go_size⟩, ?_⟩, hb⟩
  exact Ty.Ins2 (heap_at (by go_size)) (HT.out.ex hb HS.out) (HU.out.ex hb HS.out)

end Go.Proofs.YtnoceodmnjhljaaDoor
