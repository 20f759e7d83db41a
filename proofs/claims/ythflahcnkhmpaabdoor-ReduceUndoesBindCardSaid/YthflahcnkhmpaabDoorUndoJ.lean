/-
  What holds while the region 'u, g := Apply(b, constant(name, b.Type))' runs, whatever its order. Nothing here names a function.
-/
import Derived.Test.YthflahcnkhmpaabDoorFrame
import Derived.Test.YthflahcnkhmpaabDoorMod
import Derived.Test.YthflahcnkhmpaabDoorSets
namespace Go.Proofs.YthflahcnkhmpaabDoor
open Go Go.RowKit
set_option linter.unusedSimpArgs false
set_option linter.unusedVariables false

structure UJ (R : World → World → Int → Int → List Value → Prop) (B : Nat) (nm : ByteArray) (b40 c43 c44 : Value) (wq : World) (f : Nat → Bool) (x40 x41 x42 x43 x44 x45 x39 x46 x47 x10 x11 : Value) (ob oc : Nat) (kT : Int) (nmT : ByteArray) (ixT : Int) (sT : ByteArray) (AT : Option Addr) (nT cT : Nat) (BT : Option Addr) (mT dT : Nat) (c i : Int) (w5 w6 w : World) : Prop where
  bel : Below wq.heap.size wq w
  h40 : f 0 = true → x40 = b40
  h41 : f 1 = true → x41 = .string nm
  h42 : f 2 = true → x42 = .pointer (some ⟨B, 3, none⟩)
  h43 : f 3 = true → x43 = c43
  h44 : f 4 = true → x44 = c44
  h45 : f 5 = true → x45 = .tuple #[.agg #[.int .i64 kT, .string nmT, .int .i64 ixT, .string sT, .slice AT nT cT, .slice BT mT dT], .agg #[.int .i64 c, .int .i64 i]] ∧ R w5 w6 c i [.int .i64 kT, .string nmT, .int .i64 ixT, .string sT, .slice AT nT cT, .slice BT mT dT] ∧ (∀ k, w5.heap.size ≤ k → k < w6.heap.size → k < w.heap.size ∧ w.heap[k]? = w6.heap[k]?)
  h39 : f 6 = true → x39 = .tuple #[.agg #[.int .i64 kT, .string nmT, .int .i64 ixT, .string sT, .slice AT nT cT, .slice BT mT dT], .agg #[.int .i64 c, .int .i64 i]]
  h46 : f 7 = true → x46 = .agg #[.int .i64 kT, .string nmT, .int .i64 ixT, .string sT, .slice AT nT cT, .slice BT mT dT]
  h47 : f 8 = true → x47 = .agg #[.int .i64 c, .int .i64 i]
  h10 : f 9 = true → x10 = .pointer (some ⟨ob, 0, none⟩) ∧ wq.heap.size ≤ ob ∧ ∃ u0 u1 u2 u3 u4 u5 : Value, w.heap[ob]? = some (.cells #[u0, u1, u2, u3, u4, u5] 27 (0, 0))
  h11 : f 10 = true → x11 = .pointer (some ⟨oc, 0, none⟩) ∧ wq.heap.size ≤ oc ∧ ∃ u0 u1 : Value, w.heap[oc]? = some (.cells #[u0, u1] 29 (0, 0))
  ne : f 9 = true → f 10 = true → ob ≠ oc
  n9 : f 5 = true → f 9 = true → ¬ (w5.heap.size ≤ ob ∧ ob < w6.heap.size)
  n10 : f 5 = true → f 10 = true → ¬ (w5.heap.size ≤ oc ∧ oc < w6.heap.size)
  s11 : f 11 = true → w.heap[ob]? = some (.cells #[.int .i64 kT, .string nmT, .int .i64 ixT, .string sT, .slice AT nT cT, .slice BT mT dT] 27 (0, 0))
  s12 : f 12 = true → w.heap[oc]? = some (.cells #[.int .i64 c, .int .i64 i] 29 (0, 0))
  o5 : f 5 = false → f 6 = false ∧ f 7 = false ∧ f 8 = false ∧ f 11 = false ∧ f 12 = false
  o9 : f 9 = false → f 11 = false
  o10 : f 10 = false → f 12 = false

theorem ft {b : Bool} {p : Prop} (h : b = false) (h' : b = true) : p := by rw [h] at h'; cases h'
section
variable {R : World → World → Int → Int → List Value → Prop} {B : Nat} {nm : ByteArray} {b40 c43 c44 : Value} {wq : World} {f : Nat → Bool} {x40 x41 x42 x43 x44 x45 x39 x46 x47 x10 x11 : Value} {ob oc : Nat} {kT : Int} {nmT : ByteArray} {ixT : Int} {sT : ByteArray} {AT : Option Addr} {nT cT : Nat} {BT : Option Addr} {mT dT : Nat} {c i : Int} {w5 w6 w w' : World}
theorem UJ.start (hf : ∀ k, k < 13 → f k = false) (hb : Below wq.heap.size wq w) : UJ R B nm b40 c43 c44 wq f x40 x41 x42 x43 x44 x45 x39 x46 x47 x10 x11 ob oc kT nmT ixT sT AT nT cT BT mT dT c i w5 w6 w where
  bel := hb
  h40 h := ft (hf 0 (by decide)) h
  h41 h := ft (hf 1 (by decide)) h
  h42 h := ft (hf 2 (by decide)) h
  h43 h := ft (hf 3 (by decide)) h
  h44 h := ft (hf 4 (by decide)) h
  h45 h := ft (hf 5 (by decide)) h
  h39 h := ft (hf 6 (by decide)) h
  h46 h := ft (hf 7 (by decide)) h
  h47 h := ft (hf 8 (by decide)) h
  h10 h := ft (hf 9 (by decide)) h
  h11 h := ft (hf 10 (by decide)) h
  ne h := ft (hf 9 (by decide)) h
  n9 h := ft (hf 5 (by decide)) h
  n10 h := ft (hf 5 (by decide)) h
  s11 h := ft (hf 11 (by decide)) h
  s12 h := ft (hf 12 (by decide)) h
  o5 _ := ⟨hf 6 (by decide), hf 7 (by decide), hf 8 (by decide), hf 11 (by decide), hf 12 (by decide)⟩
  o9 _ := hf 11 (by decide)
  o10 _ := hf 12 (by decide)
theorem UJ.grow (h : UJ R B nm b40 c43 c44 wq f x40 x41 x42 x43 x44 x45 x39 x46 x47 x10 x11 ob oc kT nmT ixT sT AT nT cT BT mT dT c i w5 w6 w) (hb : Below w.heap.size w w') : UJ R B nm b40 c43 c44 wq f x40 x41 x42 x43 x44 x45 x39 x46 x47 x10 x11 ob oc kT nmT ixT sT AT nT cT BT mT dT c i w5 w6 w' :=
  { h with
    bel := h.bel.trans (hb.mono h.bel.size)
    h45 := fun h5 => by
      obtain ⟨e, hr, hk⟩ := h.h45 h5
      exact ⟨e, hr, fun k h1 h2 => ⟨Nat.lt_of_lt_of_le (hk k h1 h2).1 hb.size, (hb.block k (hk k h1 h2).1).trans (hk k h1 h2).2⟩⟩
    h10 := fun h9 => by
      obtain ⟨e, hl, u0, u1, u2, u3, u4, u5, hh⟩ := h.h10 h9
      exact ⟨e, hl, u0, u1, u2, u3, u4, u5, (hb.block _ (lt_heap hh)).trans hh⟩
    h11 := fun h9 => by
      obtain ⟨e, hl, u0, u1, hh⟩ := h.h11 h9
      exact ⟨e, hl, u0, u1, (hb.block _ (lt_heap hh)).trans hh⟩
    s11 := fun h9 => (hb.block _ (lt_heap (h.s11 h9))).trans (h.s11 h9)
    s12 := fun h9 => (hb.block _ (lt_heap (h.s12 h9))).trans (h.s12 h9) }
theorem UJ.st0 (h : UJ R B nm b40 c43 c44 wq f x40 x41 x42 x43 x44 x45 x39 x46 x47 x10 x11 ob oc kT nmT ixT sT AT nT cT BT mT dT c i w5 w6 w) : UJ R B nm b40 c43 c44 wq (upd f 0) b40 x41 x42 x43 x44 x45 x39 x46 x47 x10 x11 ob oc kT nmT ixT sT AT nT cT BT mT dT c i w5 w6 w := { h with h40 := fun _ => rfl }
theorem UJ.st1 (h : UJ R B nm b40 c43 c44 wq f x40 x41 x42 x43 x44 x45 x39 x46 x47 x10 x11 ob oc kT nmT ixT sT AT nT cT BT mT dT c i w5 w6 w) : UJ R B nm b40 c43 c44 wq (upd f 1) x40 (.string nm) x42 x43 x44 x45 x39 x46 x47 x10 x11 ob oc kT nmT ixT sT AT nT cT BT mT dT c i w5 w6 w := { h with h41 := fun _ => rfl }
theorem UJ.st2 (h : UJ R B nm b40 c43 c44 wq f x40 x41 x42 x43 x44 x45 x39 x46 x47 x10 x11 ob oc kT nmT ixT sT AT nT cT BT mT dT c i w5 w6 w) : UJ R B nm b40 c43 c44 wq (upd f 2) x40 x41 (.pointer (some ⟨B, 3, none⟩)) x43 x44 x45 x39 x46 x47 x10 x11 ob oc kT nmT ixT sT AT nT cT BT mT dT c i w5 w6 w := { h with h42 := fun _ => rfl }
theorem UJ.st3 (h : UJ R B nm b40 c43 c44 wq f x40 x41 x42 x43 x44 x45 x39 x46 x47 x10 x11 ob oc kT nmT ixT sT AT nT cT BT mT dT c i w5 w6 w) : UJ R B nm b40 c43 c44 wq (upd f 3) x40 x41 x42 c43 x44 x45 x39 x46 x47 x10 x11 ob oc kT nmT ixT sT AT nT cT BT mT dT c i w5 w6 w := { h with h43 := fun _ => rfl }
theorem UJ.st4 (h : UJ R B nm b40 c43 c44 wq f x40 x41 x42 x43 x44 x45 x39 x46 x47 x10 x11 ob oc kT nmT ixT sT AT nT cT BT mT dT c i w5 w6 w) (hb : Below w.heap.size w w') : UJ R B nm b40 c43 c44 wq (upd f 4) x40 x41 x42 x43 c44 x45 x39 x46 x47 x10 x11 ob oc kT nmT ixT sT AT nT cT BT mT dT c i w5 w6 w' := { h.grow hb with h44 := fun _ => rfl }
theorem UJ.st5 (h : UJ R B nm b40 c43 c44 wq f x40 x41 x42 x43 x44 x45 x39 x46 x47 x10 x11 ob oc kT nmT ixT sT AT nT cT BT mT dT c i w5 w6 w) (h5 : f 5 = false) (hb : Below w.heap.size w w') {kS : Int} {nmS : ByteArray} {ixS : Int} {sS : ByteArray} {AS : Option Addr} {nS cS : Nat} {BS : Option Addr} {mS dS : Nat} {c' i' : Int}
    (hr : R w w' c' i' [.int .i64 kS, .string nmS, .int .i64 ixS, .string sS, .slice AS nS cS, .slice BS mS dS]) :
    UJ R B nm b40 c43 c44 wq (upd f 5) x40 x41 x42 x43 x44 (.tuple #[.agg #[.int .i64 kS, .string nmS, .int .i64 ixS, .string sS, .slice AS nS cS, .slice BS mS dS], .agg #[.int .i64 c', .int .i64 i']]) x39 x46 x47 x10 x11 ob oc kS nmS ixS sS AS nS cS BS mS dS c' i' w w' w' :=
  have g := h.grow hb
  { bel := g.bel, h40 := g.h40, h41 := g.h41, h42 := g.h42, h43 := g.h43, h44 := g.h44, h10 := g.h10, h11 := g.h11, ne := g.ne, o9 := g.o9, o10 := g.o10
    h45 := fun _ => ⟨rfl, hr, fun k _ h2 => ⟨h2, rfl⟩⟩
    h39 := fun h6 => ft (h.o5 h5).1 h6
    h46 := fun h6 => ft (h.o5 h5).2.1 h6
    h47 := fun h6 => ft (h.o5 h5).2.2.1 h6
    s11 := fun h6 => ft (h.o5 h5).2.2.2.1 h6
    s12 := fun h6 => ft (h.o5 h5).2.2.2.2 h6
    n9 := fun _ h9 => by
      obtain ⟨_, _, _, _, _, _, _, _, hh⟩ := h.h10 h9
      have := lt_heap hh
      omega
    n10 := fun _ h9 => by
      obtain ⟨_, _, _, _, hh⟩ := h.h11 h9
      have := lt_heap hh
      omega
    o5 := fun h6 => by cases h6 }
theorem UJ.st6 (h : UJ R B nm b40 c43 c44 wq f x40 x41 x42 x43 x44 x45 x39 x46 x47 x10 x11 ob oc kT nmT ixT sT AT nT cT BT mT dT c i w5 w6 w) (h5 : f 5 = true) : UJ R B nm b40 c43 c44 wq (upd f 6) x40 x41 x42 x43 x44 x45 (.tuple #[.agg #[.int .i64 kT, .string nmT, .int .i64 ixT, .string sT, .slice AT nT cT, .slice BT mT dT], .agg #[.int .i64 c, .int .i64 i]]) x46 x47 x10 x11 ob oc kT nmT ixT sT AT nT cT BT mT dT c i w5 w6 w := { h with h39 := fun _ => rfl, o5 := fun h6 => ft h6 h5 }
theorem UJ.st7 (h : UJ R B nm b40 c43 c44 wq f x40 x41 x42 x43 x44 x45 x39 x46 x47 x10 x11 ob oc kT nmT ixT sT AT nT cT BT mT dT c i w5 w6 w) (h5 : f 5 = true) : UJ R B nm b40 c43 c44 wq (upd f 7) x40 x41 x42 x43 x44 x45 x39 (.agg #[.int .i64 kT, .string nmT, .int .i64 ixT, .string sT, .slice AT nT cT, .slice BT mT dT]) x47 x10 x11 ob oc kT nmT ixT sT AT nT cT BT mT dT c i w5 w6 w := { h with h46 := fun _ => rfl, o5 := fun h6 => ft h6 h5 }
theorem UJ.st8 (h : UJ R B nm b40 c43 c44 wq f x40 x41 x42 x43 x44 x45 x39 x46 x47 x10 x11 ob oc kT nmT ixT sT AT nT cT BT mT dT c i w5 w6 w) (h5 : f 5 = true) : UJ R B nm b40 c43 c44 wq (upd f 8) x40 x41 x42 x43 x44 x45 x39 x46 (.agg #[.int .i64 c, .int .i64 i]) x10 x11 ob oc kT nmT ixT sT AT nT cT BT mT dT c i w5 w6 w := { h with h47 := fun _ => rfl, o5 := fun h6 => ft h6 h5 }
theorem UJ.five6 (h : UJ R B nm b40 c43 c44 wq f x40 x41 x42 x43 x44 x45 x39 x46 x47 x10 x11 ob oc kT nmT ixT sT AT nT cT BT mT dT c i w5 w6 w) (h6 : f 6 = true) : f 5 = true := by
  cases h5 : f 5 with
  | true => rfl
  | false => exact ft (h.o5 h5).1 h6
theorem UJ.five7 (h : UJ R B nm b40 c43 c44 wq f x40 x41 x42 x43 x44 x45 x39 x46 x47 x10 x11 ob oc kT nmT ixT sT AT nT cT BT mT dT c i w5 w6 w) (h6 : f 7 = true) : f 5 = true := by
  cases h5 : f 5 with
  | true => rfl
  | false => exact ft (h.o5 h5).2.1 h6
theorem UJ.five8 (h : UJ R B nm b40 c43 c44 wq f x40 x41 x42 x43 x44 x45 x39 x46 x47 x10 x11 ob oc kT nmT ixT sT AT nT cT BT mT dT c i w5 w6 w) (h6 : f 8 = true) : f 5 = true := by
  cases h5 : f 5 with
  | true => rfl
  | false => exact ft (h.o5 h5).2.2.1 h6
theorem UJ.ten (h : UJ R B nm b40 c43 c44 wq f x40 x41 x42 x43 x44 x45 x39 x46 x47 x10 x11 ob oc kT nmT ixT sT AT nT cT BT mT dT c i w5 w6 w) (h6 : f 12 = true) : f 10 = true := by
  cases h5 : f 10 with
  | true => rfl
  | false => exact ft (h.o10 h5) h6
theorem UJ.nine (h : UJ R B nm b40 c43 c44 wq f x40 x41 x42 x43 x44 x45 x39 x46 x47 x10 x11 ob oc kT nmT ixT sT AT nT cT BT mT dT c i w5 w6 w) (h6 : f 11 = true) : f 9 = true := by
  cases h5 : f 9 with
  | true => rfl
  | false => exact ft (h.o9 h5) h6
theorem UJ.st9 (h : UJ R B nm b40 c43 c44 wq f x40 x41 x42 x43 x44 x45 x39 x46 x47 x10 x11 ob oc kT nmT ixT sT AT nT cT BT mT dT c i w5 w6 w) (h9 : f 9 = false) {u0 u1 u2 u3 u4 u5 : Value} :
    UJ R B nm b40 c43 c44 wq (upd f 9) x40 x41 x42 x43 x44 x45 x39 x46 x47 (.pointer (some ⟨w.heap.size, 0, none⟩)) x11 w.heap.size oc kT nmT ixT sT AT nT cT BT mT dT c i w5 w6 (w.alloc (.cells #[u0, u1, u2, u3, u4, u5] 27 (0, 0))) :=
  have g := h.grow ((Below.refl _ w).alloc (Nat.le_refl _) (.cells #[u0, u1, u2, u3, u4, u5] 27 (0, 0)))
  { bel := g.bel, h40 := g.h40, h41 := g.h41, h42 := g.h42, h43 := g.h43, h44 := g.h44, h45 := g.h45, h39 := g.h39, h46 := g.h46, h47 := g.h47, h11 := g.h11, n10 := g.n10, o5 := g.o5, o10 := g.o10, s12 := g.s12
    h10 := fun _ => ⟨rfl, h.bel.size, u0, u1, u2, u3, u4, u5, heap_at rfl⟩
    ne := fun _ ht => by
      obtain ⟨_, _, _, _, hh⟩ := h.h11 ht
      have := lt_heap hh
      omega
    n9 := fun h5 _ hh => by
      have := (h.h45 h5).2.2 _ hh.1 hh.2
      omega
    s11 := fun hh => ft (h.o9 h9) hh
    o9 := fun hh => by cases hh }
theorem UJ.st10 (h : UJ R B nm b40 c43 c44 wq f x40 x41 x42 x43 x44 x45 x39 x46 x47 x10 x11 ob oc kT nmT ixT sT AT nT cT BT mT dT c i w5 w6 w) (h9 : f 10 = false) {u0 u1 : Value} :
    UJ R B nm b40 c43 c44 wq (upd f 10) x40 x41 x42 x43 x44 x45 x39 x46 x47 x10 (.pointer (some ⟨w.heap.size, 0, none⟩)) ob w.heap.size kT nmT ixT sT AT nT cT BT mT dT c i w5 w6 (w.alloc (.cells #[u0, u1] 29 (0, 0))) :=
  have g := h.grow ((Below.refl _ w).alloc (Nat.le_refl _) (.cells #[u0, u1] 29 (0, 0)))
  { bel := g.bel, h40 := g.h40, h41 := g.h41, h42 := g.h42, h43 := g.h43, h44 := g.h44, h45 := g.h45, h39 := g.h39, h46 := g.h46, h47 := g.h47, h10 := g.h10, n9 := g.n9, o5 := g.o5, o9 := g.o9, s11 := g.s11
    h11 := fun _ => ⟨rfl, h.bel.size, u0, u1, heap_at rfl⟩
    ne := fun ht _ => by
      obtain ⟨_, _, _, _, _, _, _, _, hh⟩ := h.h10 ht
      have := lt_heap hh
      omega
    n10 := fun h5 _ hh => by
      have := (h.h45 h5).2.2 _ hh.1 hh.2
      omega
    s12 := fun hh => ft (h.o10 h9) hh
    o10 := fun hh => by cases hh }
theorem UJ.st11 (h : UJ R B nm b40 c43 c44 wq f x40 x41 x42 x43 x44 x45 x39 x46 x47 x10 x11 ob oc kT nmT ixT sT AT nT cT BT mT dT c i w5 w6 w) (h5 : f 5 = true) (h9 : f 9 = true) :
    UJ R B nm b40 c43 c44 wq (upd f 11) x40 x41 x42 x43 x44 x45 x39 x46 x47 x10 x11 ob oc kT nmT ixT sT AT nT cT BT mT dT c i w5 w6 ((((((w.setCell ⟨ob, 0, none⟩ (.int .i64 kT)).setCell ⟨ob, 1, none⟩ (.string nmT)).setCell ⟨ob, 2, none⟩ (.int .i64 ixT)).setCell ⟨ob, 3, none⟩ (.string sT)).setCell ⟨ob, 4, none⟩ (.slice AT nT cT)).setCell ⟨ob, 5, none⟩ (.slice BT mT dT)) := by
  obtain ⟨e, hl, u0, u1, u2, u3, u4, u5, hh⟩ := h.h10 h9
  exact { h with
    bel := below6 h.bel hl
    h45 := fun h5 => by
      obtain ⟨e, hr, hk⟩ := h.h45 h5
      exact ⟨e, hr, fun k h1 h2 => ⟨lt6 (hk k h1 h2).1, far6 (fun e2 => h.n9 h5 h9 (e2 ▸ ⟨h1, h2⟩)) (hk k h1 h2).2⟩⟩
    h10 := fun _ => ⟨e, hl, _, _, _, _, _, _, at6 hh⟩
    h11 := fun ht => by
      obtain ⟨e, hl, u0, u1, hh⟩ := h.h11 ht
      exact ⟨e, hl, u0, u1, far6 (fun e2 => h.ne h9 ht e2.symm) hh⟩
    s11 := fun _ => at6 hh
    s12 := fun ht => far6 (fun e2 => h.ne h9 (h.ten ht) e2.symm) (h.s12 ht)
    o5 := fun h6 => ft h6 h5
    o9 := fun h6 => ft h6 h9 }
theorem UJ.st12 (h : UJ R B nm b40 c43 c44 wq f x40 x41 x42 x43 x44 x45 x39 x46 x47 x10 x11 ob oc kT nmT ixT sT AT nT cT BT mT dT c i w5 w6 w) (h5 : f 5 = true) (h9 : f 10 = true) :
    UJ R B nm b40 c43 c44 wq (upd f 12) x40 x41 x42 x43 x44 x45 x39 x46 x47 x10 x11 ob oc kT nmT ixT sT AT nT cT BT mT dT c i w5 w6 ((w.setCell ⟨oc, 0, none⟩ (.int .i64 c)).setCell ⟨oc, 1, none⟩ (.int .i64 i)) := by
  obtain ⟨e, hl, u0, u1, hh⟩ := h.h11 h9
  exact { h with
    bel := below2 h.bel hl
    h45 := fun h5 => by
      obtain ⟨e, hr, hk⟩ := h.h45 h5
      exact ⟨e, hr, fun k h1 h2 => ⟨lt2 (hk k h1 h2).1, far2 (fun e2 => h.n10 h5 h9 (e2 ▸ ⟨h1, h2⟩)) (hk k h1 h2).2⟩⟩
    h11 := fun _ => ⟨e, hl, _, _, at2 hh⟩
    h10 := fun ht => by
      obtain ⟨e, hl, u0, u1, u2, u3, u4, u5, hh⟩ := h.h10 ht
      exact ⟨e, hl, u0, u1, u2, u3, u4, u5, far2 (h.ne ht h9) hh⟩
    s12 := fun _ => at2 hh
    s11 := fun ht => far2 (h.ne (h.nine ht) h9) (h.s11 ht)
    o5 := fun h6 => ft h6 h5
    o10 := fun h6 => ft h6 h9 }
end

/-- .. the slots and the letters left open. -/
def UJx (R : World → World → Int → Int → List Value → Prop) (B : Nat) (nm : ByteArray) (b40 c43 c44 : Value) (wq : World) (f : Nat → Bool) (ys : List Value) (w : World) : Prop :=
  ∃ (x40 x41 x42 x43 x44 x45 x39 x46 x47 x10 x11 : Value) (ob oc : Nat) (kT : Int) (nmT : ByteArray) (ixT : Int) (sT : ByteArray) (AT : Option Addr) (nT cT : Nat) (BT : Option Addr) (mT dT : Nat) (c i : Int) (w5 w6 : World), ys = [x40, x41, x42, x43, x44, x45, x39, x46, x47, x10, x11] ∧ UJ R B nm b40 c43 c44 wq f x40 x41 x42 x43 x44 x45 x39 x46 x47 x10 x11 ob oc kT nmT ixT sT AT nT cT BT mT dT c i w5 w6 w
theorem UJ.mk_ {R : World → World → Int → Int → List Value → Prop} {B : Nat} {nm : ByteArray} {b40 c43 c44 : Value} {wq : World} {f : Nat → Bool} {x40 x41 x42 x43 x44 x45 x39 x46 x47 x10 x11 : Value} {ob oc : Nat} {kT : Int} {nmT : ByteArray} {ixT : Int} {sT : ByteArray} {AT : Option Addr} {nT cT : Nat} {BT : Option Addr} {mT dT : Nat} {c i : Int} {w5 w6 w : World}
    (h : UJ R B nm b40 c43 c44 wq f x40 x41 x42 x43 x44 x45 x39 x46 x47 x10 x11 ob oc kT nmT ixT sT AT nT cT BT mT dT c i w5 w6 w) : UJx R B nm b40 c43 c44 wq f [x40, x41, x42, x43, x44, x45, x39, x46, x47, x10, x11] w := ⟨_, _, _, _, _, _, _, _, _, _, _, _, _, _, _, _, _, _, _, _, _, _, _, _, _, _, _, rfl, h⟩
theorem len11 {xs : List Value} (h : xs.length = 11) : ∃ x40 x41 x42 x43 x44 x45 x39 x46 x47 x10 x11 : Value, xs = [x40, x41, x42, x43, x44, x45, x39, x46, x47, x10, x11] := by
  match xs, h with
  | [x40, x41, x42, x43, x44, x45, x39, x46, x47, x10, x11], _ => exact ⟨x40, x41, x42, x43, x44, x45, x39, x46, x47, x10, x11, rfl⟩

end Go.Proofs.YthflahcnkhmpaabDoor
