/-
  A slice of the call's own whose elements may lead to old memory (S, below 'base') and to what is new from 'base' on.
-/
import Derived.Test.YtnoceodmnjhljaaDoorReps
namespace Go.Proofs.YtnoceodmnjhljaaDoor
open Go Go.RowKit
set_option linter.unusedSimpArgs false
set_option linter.unusedVariables false

/-- In S, or new from base on. -/
def New (S : Nat → Prop) (base : Nat) (w : World) : Nat → Prop := fun b => S b ∨ (base ≤ b ∧ b < w.heap.size)
theorem New.lo {S : Nat → Prop} {base : Nat} {w : World} (hS : ∀ b, S b → b < base) (hb : base ≤ w.heap.size) : ∀ b, New S base w b → b < w.heap.size := by
  rintro b (h | h)
  · have := hS b h; omega
  · exact h.2
theorem New.up {S : Nat → Prop} {base : Nat} {w w' : World} (hs : w.heap.size ≤ w'.heap.size) : ∀ b, New S base w b → New S base w' b := by
  rintro b (h | h)
  · exact Or.inl h
  · exact Or.inr ⟨h.1, by omega⟩
/-- What lies in S or came since w1, seen from base. -/
theorem New.ex {S : Nat → Prop} {base : Nat} {w w1 : World} (hb : base ≤ w.heap.size) : ∀ b, Ex S w w1 b → New S base w1 b := by
  rintro b (h | h)
  · exact Or.inl h
  · exact Or.inr ⟨by omega, h.2⟩

section
variable {α : Type} {ρ : Rep α} {S : Nat → Prop}
theorem Rep.Own.growEx {E : TypeId} {base : Nat} {w w' : World} {v : Value} {l : List α} (h : ρ.Own E base w (New S base w) v l) (hkS : ∀ b, S b → w'.heap[b]? = w.heap[b]?) (hk : ∀ b, base ≤ b → b < w.heap.size → w'.heap[b]? = w.heap[b]?) (hs : w.heap.size ≤ w'.heap.size) :
    ρ.Own E base w' (New S base w') v l := by
  obtain ⟨xs, ⟨h1, h2⟩, h3⟩ := h
  refine ⟨xs, ⟨h1, ?_⟩, h3.keep (fun b hb => by rcases hb.1 with h | h; exact hkS b h; exact hk b h.1 h.2) (fun b hb => ⟨New.up hs b hb.1, hb.2⟩)⟩
  rcases h2 with h2 | ⟨g, cap, cur, e, hg, hh, r⟩
  · exact Or.inl h2
  · exact Or.inr ⟨g, cap, cur, e, hg, (hk g hg (lt_heap hh)).trans hh, r⟩
/-- A round of a loop 'c.Args = append(c.Args, f(x))': behind the call (world w1), the block of the new element (o), the append (w3). -/
theorem Rep.stepEx {E : TypeId} {base : Nat} {w1 w3 : World} {T : Nat → Prop} {v : Value} {l : List α} {a : α} {xs news : List Value} {g cap n : Nat} {o : Obj} (hl : l.length = n) (hSb : ∀ b, S b → b < base) (hbw : base ≤ w1.heap.size)
    (hall : ρ.All w1 (fun b => New S base w1 b ∧ v.ownBlock ≠ some b) l xs) (hn : ρ.R w1 T a news) (hT : ∀ b, T b → New S base w1 b ∧ v.ownBlock ≠ some b)
    (hown : w3.ownsRow base E ρ.size (.slice (some ⟨g, 0, none⟩) (n + 1) cap) (n + 1) (xs ++ news)) (hg : (w1.alloc o).grownBy w3 v.ownBlock) (hat : v.ownBlock = some g ∨ g = w1.heap.size + 1) :
    ρ.Own E base w3 (New S base w3) (.slice (some ⟨g, 0, none⟩) (n + 1) cap) (l ++ [a]) := by
  subst hl
  have hlo : ∀ b, New S base w1 b → b < w1.heap.size := New.lo hSb hbw
  have hk : ∀ b, (New S base w1 b ∧ v.ownBlock ≠ some b) → (w1.alloc o).heap[b]? = w1.heap[b]? := fun b hb => Below.heap_alloc w1 o b (hlo b hb.1)
  have hsz : w1.heap.size + 1 ≤ w3.heap.size := by have := hg.size; simpa using this
  have h := Rep.appended1 (w := w1.alloc o) (H := w1.heap.size + 1) (S := New S base w1) (T := T) (hall.keep hk (fun _ h => h)) (ρ.keep hn (fun b hb => hk b (hT b hb)) (fun _ h => h)) hT (fun b hb => by have := hlo b hb; simp; omega) hown hg hat (by simp)
  obtain ⟨xs', h1, h2⟩ := h
  exact ⟨xs', h1, h2.keep (fun _ _ => rfl) (fun b hb => ⟨New.up (by omega) b hb.1, hb.2⟩)⟩
end

end Go.Proofs.YtnoceodmnjhljaaDoor
