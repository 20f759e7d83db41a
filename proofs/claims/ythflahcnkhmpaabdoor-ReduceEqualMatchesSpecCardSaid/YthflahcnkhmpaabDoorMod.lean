/-
  Below B, but for one old block rb that the call may write (a pointer's cell, a builder).
-/
import Derived.Test.YthflahcnkhmpaabDoorSets
namespace Go.Proofs.YthflahcnkhmpaabDoor
open Go Go.RowKit
set_option linter.unusedSimpArgs false
set_option linter.unusedVariables false

structure Mod (rb B : Nat) (a w : World) : Prop where
  os : w.os = a.os
  tape : w.tape = a.tape
  output : w.output = a.output
  size : a.heap.size ≤ w.heap.size
  block : ∀ k, k < B → k ≠ rb → w.heap[k]? = a.heap[k]?
section
variable {rb B B' : Nat} {a b w w' : World}
theorem Mod.refl : Mod rb B a a := ⟨rfl, rfl, rfl, Nat.le_refl _, fun _ _ _ => rfl⟩
theorem Mod.trans (h : Mod rb B a b) (k : Mod rb B b w) : Mod rb B a w :=
  ⟨k.os.trans h.os, k.tape.trans h.tape, k.output.trans h.output, Nat.le_trans h.size k.size, fun i hi hn => (k.block i hi hn).trans (h.block i hi hn)⟩
theorem Mod.mono (h : Mod rb B a w) (hB : B' ≤ B) : Mod rb B' a w := ⟨h.os, h.tape, h.output, h.size, fun k hk hn => h.block k (Nat.lt_of_lt_of_le hk hB) hn⟩
theorem Mod.below (h : Below B a w) : Mod rb B a w := ⟨h.os, h.tape, h.output, h.size, fun k hk _ => h.block k hk⟩
theorem Mod.thenBelow (h : Mod rb B a b) (k : Below B b w) : Mod rb B a w := h.trans (Mod.below k)
theorem Mod.drew (h : Mod rb B a w) : Mod rb B a w.drew := ⟨h.os, h.tape, h.output, h.size, h.block⟩
theorem Mod.alloc (h : Mod rb B a w) (hB : B ≤ w.heap.size) (o : Obj) : Mod rb B a (w.alloc o) := h.thenBelow ((Below.refl B w).alloc hB o)
theorem Mod.setCell (h : Mod rb B a w) {p : Addr} (hp : B ≤ p.block) (u : Value) : Mod rb B a (w.setCell p u) := h.thenBelow ((Below.refl B w).setCell hp u)
theorem Mod.setRow (h : Mod rb B a w) {o : Nat} (u : Value) : Mod rb B a (w.setCell ⟨rb, o, none⟩ u) :=
  h.trans ⟨rfl, rfl, rfl, by simp [World.setCell], fun _ _ hn => Below.heap_setCell _ _ _ _ hn⟩
theorem Mod.grown {row : Option Nat} (h : Mod rb B a w) (hg : w.grownBy w' row) (hB : B ≤ w.heap.size) (hr : ∀ k, row = some k → B ≤ k) : Mod rb B a w' := h.thenBelow ((Below.refl B w).grown hg hB hr)
/-- Where the block is one of the call's own. -/
theorem Mod.toBelow (h : Mod rb B a w) (hr : B ≤ rb) : Below B a w := ⟨h.os, h.tape, h.output, h.size, fun k hk => h.block k hk (by omega)⟩
theorem Mod.cut (h : Mod rb B a w) (hB : B' ≤ B) (hr : B' ≤ rb) : Below B' a w := (h.mono hB).toBelow hr
variable {T : TypeId} {v0 v1 v2 v3 v4 v5 : Value} {g : Nat}
theorem mod6 (h : Mod rb B a w) (hb : B ≤ g) :
    Mod rb B a ((((((w.setCell ⟨g, 0, none⟩ v0).setCell ⟨g, 1, none⟩ v1).setCell ⟨g, 2, none⟩ v2).setCell ⟨g, 3, none⟩ v3).setCell ⟨g, 4, none⟩ v4).setCell ⟨g, 5, none⟩ v5) :=
  h.thenBelow (below6 (Below.refl B w) hb)
theorem mod2 (h : Mod rb B a w) (hb : B ≤ g) : Mod rb B a ((w.setCell ⟨g, 0, none⟩ v0).setCell ⟨g, 1, none⟩ v1) := h.thenBelow (below2 (Below.refl B w) hb)
end

end Go.Proofs.YthflahcnkhmpaabDoor
