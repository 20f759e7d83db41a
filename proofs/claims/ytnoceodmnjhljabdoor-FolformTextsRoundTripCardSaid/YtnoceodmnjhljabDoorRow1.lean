/-
  Rows that the code owns: a cell stored, another block's cell stored, a world grown; four cells stored in a row. Nothing here walks.
-/
import Derived.Test.YtnoceodmnjhljabDoorSets
import Derived.Test.YtnoceodmnjhljabDoorStack
namespace Go.Proofs.YtnoceodmnjhljabDoor
open Go Go.RowKit
set_option linter.unusedSimpArgs false
set_option linter.unusedVariables false

theorem rowSet {w : World} {base n g cap i : Nat} {E : TypeId} {size : Nat} {xs : List Value} (h : w.ownsRow base E size (.slice (some ⟨g, 0, none⟩) n cap) n xs) (_hi : i < n * size) (x : Value) : (w.setCell ⟨g, i, none⟩ x).ownsRow base E size (.slice (some ⟨g, 0, none⟩) n cap) n (xs.set i x) := by
  obtain ⟨h1, h2⟩ := h
  refine ⟨by simpa using h1, ?_⟩
  rcases h2 with ⟨h2, _⟩ | ⟨g', cap', cur, e, hg, hh, h3, h4, h5, h6⟩
  · cases h2
  · simp only [Value.slice.injEq, Option.some.injEq, Addr.mk.injEq] at e
    obtain ⟨⟨rfl, _⟩, _, rfl⟩ := e
    refine Or.inr ⟨g, cap, cur.setIfInBounds i x, rfl, hg, heap_set hh i x, h3, h4, by simpa using h5, ?_⟩
    rw [Array.toList_setIfInBounds, List.take_set, h6]
theorem rowOther {w : World} {base b i : Nat} {E : TypeId} {size n : Nat} {v x : Value} {xs : List Value} (h : w.ownsRow base E size v n xs) (hne : v.ownBlock ≠ some b) : (w.setCell ⟨b, i, none⟩ x).ownsRow base E size v n xs := by
  obtain ⟨h1, h2⟩ := h
  refine ⟨h1, h2.imp_right ?_⟩
  rintro ⟨g', cap', cur, e, hg, hh, r⟩
  refine ⟨g', cap', cur, e, hg, heap_far _ ?_ hh, r⟩
  rintro rfl
  exact hne (by rw [e]; rfl)
theorem rowGrown {w w' : World} {base : Nat} {E : TypeId} {size n : Nat} {v : Value} {xs : List Value} (h : w.ownsRow base E size v n xs) (hk : ∀ b, b < w.heap.size → v.ownBlock = some b → w'.heap[b]? = w.heap[b]?) : w'.ownsRow base E size v n xs := by
  obtain ⟨h1, h2⟩ := h
  refine ⟨h1, h2.imp_right ?_⟩
  rintro ⟨g', cap', cur, e, hg, hh, r⟩
  exact ⟨g', cap', cur, e, hg, (hk g' (lt_heap hh) (by rw [e]; rfl)).trans hh, r⟩
section
variable {α : Type} {ρ : Rep α}
theorem Rep.Own.keepS {E : TypeId} {base : Nat} {w w' : World} {S S' : Nat → Prop} {v : Value} {l : List α} (h : ρ.Own E base w S v l) (hb : ∀ b, b < w.heap.size → v.ownBlock = some b → w'.heap[b]? = w.heap[b]?)
    (hk : ∀ b, S b → v.ownBlock ≠ some b → w'.heap[b]? = w.heap[b]?) (hS : ∀ b, S b → S' b) : ρ.Own E base w' S' v l := by
  obtain ⟨xs, h1, h2⟩ := h
  exact ⟨xs, rowGrown h1 hb, h2.keep (fun b hb => hk b hb.1 hb.2) (fun b hb => ⟨hS b hb.1, hb.2⟩)⟩
theorem Rep.Own.slS {E : TypeId} {base : Nat} {w : World} {S S' : Nat → Prop} {v : Value} {l : List α} (h : ρ.Own E base w S v l) (hm : l.length ≤ maxLen) (hS : ∀ b, S b → S' b) (hg : ∀ b, v.ownBlock = some b → S' b) : ρ.Sl w S' v l := by
  obtain ⟨A, c, rfl⟩ := h.len
  refine ⟨A, l.length, c, rfl, rfl, hm, fun hp => ?_⟩
  obtain ⟨xs, h1, h2⟩ := h
  obtain ⟨g, cap, e, hb, hlt⟩ := h1.form hp
  injection e with e1 _ _
  subst e1
  refine ⟨g, 0, xs, rfl, hg g rfl, h2.keep (fun _ _ => rfl) (fun b hb => hS b hb.1), fun j u hj => ?_⟩
  have := h1.cells (g := g) rfl j u hj
  rw [Nat.zero_add]
  rw [← this]
  congr 1
  unfold Addr.add; split <;> simp_all
end
theorem set_os (w : World) (a : Addr) (v : Value) : (w.setCell a v).os = w.os := rfl
theorem set_tape (w : World) (a : Addr) (v : Value) : (w.setCell a v).tape = w.tape := rfl
theorem set_output (w : World) (a : Addr) (v : Value) : (w.setCell a v).output = w.output := rfl
theorem snocAt {xs ys : List Value} {n j : Nat} {u : Value} (h : xs.length = n) (hj : ys[j]? = some u := by rfl) : (xs ++ ys)[n + j]? = some u := by
  subst h; rw [List.getElem?_append_right (by omega)]; simpa using hj
theorem set_at {xs ys : List Value} {n : Nat} (h : xs.length = n) (j : Nat) (x : Value) : (xs ++ ys).set (n + j) x = xs ++ ys.set j x := by
  subst h; rw [List.set_append_right (h := by omega)]; simp


section
variable {w w0 : World} {b k B : Nat} {T : TypeId} {x : Option Obj} {a0 a1 a2 a3 v0 v1 v2 v3 : Value}
theorem at4 (h : w.heap[b]? = some (.cells #[a0, a1, a2, a3] T (0, 0))) : ((((w.setCell ⟨b, 0, none⟩ v0).setCell ⟨b, 1, none⟩ v1).setCell ⟨b, 2, none⟩ v2).setCell ⟨b, 3, none⟩ v3).heap[b]? = some (.cells #[v0, v1, v2, v3] T (0, 0)) :=
  heap_set (heap_set (heap_set (heap_set h 0 v0) 1 v1) 2 v2) 3 v3
theorem far4 {i : Nat} (h : k ≠ b) (hx : w.heap[k]? = x) : ((((w.setCell ⟨b, i, none⟩ v0).setCell ⟨b, i + 1, none⟩ v1).setCell ⟨b, i + 2, none⟩ v2).setCell ⟨b, i + 3, none⟩ v3).heap[k]? = x :=
  heap_far _ h (heap_far _ h (heap_far _ h (heap_far _ h hx)))
theorem size4 : ((((w.setCell ⟨b, 0, none⟩ v0).setCell ⟨b, 1, none⟩ v1).setCell ⟨b, 2, none⟩ v2).setCell ⟨b, 3, none⟩ v3).heap.size = w.heap.size := by simp only [size_set]
theorem le4 (h : B ≤ w.heap.size) : B ≤ ((((w.setCell ⟨b, 0, none⟩ v0).setCell ⟨b, 1, none⟩ v1).setCell ⟨b, 2, none⟩ v2).setCell ⟨b, 3, none⟩ v3).heap.size := Nat.le_trans h (Nat.le_of_eq size4.symm)
theorem lt4 (h : B < w.heap.size) : B < ((((w.setCell ⟨b, 0, none⟩ v0).setCell ⟨b, 1, none⟩ v1).setCell ⟨b, 2, none⟩ v2).setCell ⟨b, 3, none⟩ v3).heap.size := Nat.lt_of_lt_of_eq h size4.symm
theorem below4 (h : Below B w0 w) (hb : B ≤ b) : Below B w0 ((((w.setCell ⟨b, 0, none⟩ v0).setCell ⟨b, 1, none⟩ v1).setCell ⟨b, 2, none⟩ v2).setCell ⟨b, 3, none⟩ v3) :=
  (((h.setCell hb v0).setCell hb v1).setCell hb v2).setCell hb v3
theorem row4 {base h m cap : Nat} {E : TypeId} {xs : List Value} {z0 z1 z2 z3 d0 d1 d2 d3 : Value} (hxs : xs.length = m * 4) (hown : w.ownsRow base E 4 (.slice (some ⟨h, 0, none⟩) (m + 1) cap) (m + 1) (xs ++ [z0, z1, z2, z3])) :
    ((((w.setCell ⟨h, m * 4, none⟩ d0).setCell ⟨h, m * 4 + 1, none⟩ d1).setCell ⟨h, m * 4 + 2, none⟩ d2).setCell ⟨h, m * 4 + 3, none⟩ d3).ownsRow base E 4 (.slice (some ⟨h, 0, none⟩) (m + 1) cap) (m + 1) (xs ++ [d0, d1, d2, d3]) := by
  have := rowSet (rowSet (rowSet (rowSet hown (i := m * 4) (by omega) d0) (i := m * 4 + 1) (by omega) d1) (i := m * 4 + 2) (by omega) d2) (i := m * 4 + 3) (by omega) d3
  have e0 : (xs ++ [z0, z1, z2, z3]).set (m * 4) d0 = xs ++ [d0, z1, z2, z3] := set_at hxs 0 d0
  rw [e0, set_at hxs 1, set_at hxs 2, set_at hxs 3] at this
  exact this
theorem oth4 {e : TypeId} {size n i : Nat} {v d0 d1 d2 d3 : Value} {ys : List Value} (hne : v.ownBlock ≠ some b) (hown : w.ownsRow B e size v n ys) :
    ((((w.setCell ⟨b, i, none⟩ d0).setCell ⟨b, i + 1, none⟩ d1).setCell ⟨b, i + 2, none⟩ d2).setCell ⟨b, i + 3, none⟩ d3).ownsRow B e size v n ys :=
  rowOther (rowOther (rowOther (rowOther hown hne) hne) hne) hne
end

end Go.Proofs.YtnoceodmnjhljabDoor
