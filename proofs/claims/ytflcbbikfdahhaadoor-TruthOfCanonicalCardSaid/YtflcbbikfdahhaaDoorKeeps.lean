/-
  What a call leaves of memory that may write blocks of P. Nothing here names the program.
-/
import Derived.Test.YtflcbbikfdahhaaDoorSets
namespace Go.Proofs.YtflcbbikfdahhaaDoor
open Go Go.RowKit
set_option linter.unusedSimpArgs false
set_option linter.unusedVariables false

/-- All blocks but those of P stay as they were. -/
structure Keeps (P : Nat → Prop) (w w' : World) : Prop where
  os : w'.os = w.os
  tape : w'.tape = w.tape
  output : w'.output = w.output
  size : w.heap.size ≤ w'.heap.size
  block : ∀ k, k < w.heap.size → ¬ P k → w'.heap[k]? = w.heap[k]?
theorem Keeps.refl (P : Nat → Prop) (w : World) : Keeps P w w := ⟨rfl, rfl, rfl, Nat.le_refl _, fun _ _ _ => rfl⟩
theorem Keeps.trans {P : Nat → Prop} {u v w : World} (h : Keeps P u v) (k : Keeps P v w) : Keeps P u w :=
  ⟨k.os.trans h.os, k.tape.trans h.tape, k.output.trans h.output, Nat.le_trans h.size k.size, fun i h1 h2 => (k.block i (Nat.lt_of_lt_of_le h1 h.size) h2).trans (h.block i h1 h2)⟩
theorem Keeps.alloc {P : Nat → Prop} {u v : World} (h : Keeps P u v) (o : Obj) : Keeps P u (v.alloc o) :=
  ⟨h.os, h.tape, h.output, Nat.le_trans h.size (by simp), fun i h1 h2 => (Below.heap_alloc v o i (Nat.lt_of_lt_of_le h1 h.size)).trans (h.block i h1 h2)⟩
theorem Keeps.drew {P : Nat → Prop} {u v : World} (h : Keeps P u v) : Keeps P u v.drew := ⟨h.os, h.tape, h.output, h.size, h.block⟩
theorem Keeps.set {P : Nat → Prop} {u v : World} (h : Keeps P u v) {b : Nat} (hb : P b ∨ u.heap.size ≤ b) (i : Nat) (x : Value) : Keeps P u (v.setCell ⟨b, i, none⟩ x) :=
  ⟨h.os, h.tape, h.output, by simpa [World.setCell] using h.size, fun k h1 h2 => (Below.heap_setCell _ _ _ _ (by rintro rfl; rcases hb with hb | hb; exact h2 hb; omega)).trans (h.block k h1 h2)⟩
theorem Keeps.mono {P Q : Nat → Prop} {u v : World} (h : Keeps P u v) (hPQ : ∀ k, k < u.heap.size → P k → Q k) : Keeps Q u v := ⟨h.os, h.tape, h.output, h.size, fun k h1 h2 => h.block k h1 (fun hp => h2 (hPQ k h1 hp))⟩
/-- .. from a later world on: what it may write beside P is new since the first. -/
theorem Keeps.step {P Q : Nat → Prop} {u v w : World} (h : Keeps P u v) (k : Keeps Q v w) (hQ : ∀ i, Q i → P i ∨ u.heap.size ≤ i) : Keeps P u w :=
  ⟨k.os.trans h.os, k.tape.trans h.tape, k.output.trans h.output, Nat.le_trans h.size k.size, fun i h1 h2 => (k.block i (Nat.lt_of_lt_of_le h1 h.size) (fun hq => by rcases hQ i hq with h' | h'; exact h2 h'; omega)).trans (h.block i h1 h2)⟩
theorem Keeps.below {P : Nat → Prop} {u v : World} {B : Nat} (h : Keeps P u v) (hP : ∀ k, P k → B ≤ k) (hB : B ≤ u.heap.size) : Below B u v :=
  ⟨h.os, h.tape, h.output, h.size, fun k hk => h.block k (by omega) (fun hp => by have := hP k hp; omega)⟩
theorem Below.keeps {u v : World} (h : Below u.heap.size u v) (P : Nat → Prop) : Keeps P u v := ⟨h.os, h.tape, h.output, h.size, fun k h1 _ => h.block k h1⟩

def IsBool (e : Ending) : Prop := ∃ v, e = .returned (.bool v)

end Go.Proofs.YtflcbbikfdahhaaDoor
