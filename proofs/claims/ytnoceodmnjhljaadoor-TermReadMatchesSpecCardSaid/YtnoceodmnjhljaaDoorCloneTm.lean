/-
  term.Clone: the walk: a copy in new memory.
-/
import Derived.Test.YtnoceodmnjhljaaDoorProg
import Derived.Test.YtnoceodmnjhljaaDoorTerm
import Derived.Test.YtnoceodmnjhljaaDoorClone
namespace Go.Proofs.YtnoceodmnjhljaaDoor
open Go Go.RowKit
set_option linter.unusedSimpArgs false
set_option linter.unusedVariables false

def Tv.kids : Tv → List Tv
  | .con _ _ | .var _ => []
  | .abs _ b => [b]
  | .app f x => [f, x]
def Tv.lab : Tv → TmL
  | .con nm s => ⟨1, nm, 0, s.ty⟩
  | .var i => ⟨2, bNil, i, noTy⟩
  | .abs s _ => ⟨3, bNil, 0, s.ty⟩
  | .app _ _ => ⟨4, bNil, 0, noTy⟩
theorem Tv.tm_eq (v : Tv) : v.tm = .mk v.lab (v.kids.map Tv.tm) := by cases v <;> rfl
theorem Tv.kids_nodes (v : Tv) (j : Nat) (h : j < v.kids.length) : v.kids[j].nodes < v.nodes := by
  match v, j, h with
  | .abs _ b, 0, _ => simp [Tv.kids, Tv.nodes]
  | .app f x, 0, _ => simp [Tv.kids, Tv.nodes]; omega
  | .app f x, 1, _ => simp [Tv.kids, Tv.nodes]; omega
theorem Tv.kids_len (v : Tv) : v.kids.length ≤ 2 := by cases v <;> simp [Tv.kids]
/-- A type that a node of a valid term bears: a valid one, or none. -/
def Ty.sound (t : Ty) : Prop := t = noTy ∨ ∃ s : Sy, t = s.ty
theorem Tv.lab_sound (v : Tv) : v.lab.ty.sound := by
  cases v
  · exact Or.inr ⟨_, rfl⟩
  · exact Or.inl rfl
  · exact Or.inr ⟨_, rfl⟩
  · exact Or.inl rfl

theorem infoTerm : (Tryd.prog.info? 27).map (fun i => (i.zero, i.size, i.bytes)) = some (some (.agg #[.int .i64 0, .string ⟨#[]⟩, .int .i64 0, .string ⟨#[]⟩, .slice none 0 0, .slice none 0 0]), 6, 96) := by kernel_rfl

set_option maxRecDepth 100000 in
theorem cloneTy_any (t : Ty) (ht : t.sound) (v0 v1 : Value) (w : World) (S : Nat → Prop) (h : t.In w S v0 v1) (hS : ∀ b, S b → b < w.heap.size) :
    Calls Tryd.prog 28 #[.agg #[v0, v1]] w fun e w' => ∃ u0 u1, e = .returned (.agg #[u0, u1]) ∧ t.In w' (Fresh w w') u0 u1 ∧ Below w.heap.size w w' := by
  rcases ht with rfl | ⟨s, rfl⟩
  · obtain ⟨rfl, _, A, n, c, rfl, hl, _⟩ := h.open_
    simp at hl
    subst hl
    clear h hS
    go_enter Tryd.func28, Tryd.ntmps28
    go_wp2_with fail
    go_loopg [12] 0 (fun k v wr => v = .int .i64 0 ∧ wr.heap[w.heap.size + 1 + 1]? = some (.cells #[.string bNil, .slice none 0 0] 24 (0, 0)) ∧ wr.heap[w.heap.size + 1]? = some (.cells #[.string ⟨#[]⟩, .slice none 0 0] 24 (0, 0)) ∧ Below w.heap.size w wr)
    case atStart => exact ⟨rfl, heap_at (by go_size), heap_old (by go_size) (heap_at (by go_size)), by go_grown⟩
    case round =>
      obtain ⟨rfl, h2, h1, hb⟩ := hrel
      have HB := Lib.hid hb
      clear hb
      have h1_0 := cv0 h1
      have h1_1 := cv1 h1
      have h1_f0 := free_heap h1 0
      have h1_f1 := free_heap h1 1
      have h1_l := lt_heap h1
      have H1 := Lib.hid h1
      clear h1
      have h2_0 := cv0 h2
      have h2_1 := cv1 h2
      have h2_f0 := free_heap h2 0
      have h2_f1 := free_heap h2 1
      have h2_l := lt_heap h2
      have H2 := Lib.hid h2
      clear h2
      go_wp2_with fail
      refine bodyPost_ret (v := .agg #[.string bNil, .slice none 0 0]) (by simp [results, Tryd.results28, go_sem, h1_0, h1_1]) rfl ?_
      exact ⟨_, _, rfl, Ty.In.mk_ (by decide +kernel) rfl (by omega) (by omega), (HB.out.setCell (by simp) _).setCell (by simp) _⟩
  · exact clone_any _ s v0 v1 w S (Nat.le_refl _) h hS

end Go.Proofs.YtnoceodmnjhljaaDoor
