/-
  simple.Reader: Fail, Peek, Take, part, Type; simple.Parse: the walks.
-/
import Derived.Test.YtnoceodmnjhljaaDoorRd
import Derived.Test.YtnoceodmnjhljaaDoorStack
namespace Go.Proofs.YtnoceodmnjhljaaDoor
open Go Go.RowKit
set_option linter.unusedSimpArgs false
set_option linter.unusedVariables false

/-- All blocks but those of P stay as they were. -/
structure Keeps (P : Nat → Prop) (w w' : World) : Prop where
  os : w'.os = w.os
  tape : w'.tape = w.tape
  output : w'.output = w.output
  size : w.heap.size ≤ w'.heap.size
  block : ∀ k, k < w.heap.size → ¬ P k → w'.heap[k]? = w.heap[k]?
theorem Keeps.refl (P : Nat → Prop) (w : World) : Keeps P w w := ⟨rfl, rfl, rfl, Nat.le_refl _, fun _ _ _ => rfl⟩
theorem Keeps.trans {P : Nat → Prop} {u v w : World} (h : Keeps P u v) (k : Keeps P v w) : Keeps P u w :=
  ⟨k.os.trans h.os, k.tape.trans h.tape, k.output.trans h.output, Nat.le_trans h.size k.size, fun i h1 h2 => (k.block i (Nat.lt_of_lt_of_le h1 h.size) h2).trans (h.block i h1 h2)⟩
theorem Keeps.alloc {P : Nat → Prop} {u v : World} (h : Keeps P u v) (o : Obj) : Keeps P u (v.alloc o) :=
  ⟨h.os, h.tape, h.output, Nat.le_trans h.size (by simp), fun i h1 h2 => (Below.heap_alloc v o i (Nat.lt_of_lt_of_le h1 h.size)).trans (h.block i h1 h2)⟩
theorem Keeps.drew {P : Nat → Prop} {u v : World} (h : Keeps P u v) : Keeps P u v.drew := ⟨h.os, h.tape, h.output, h.size, h.block⟩
theorem Keeps.set {P : Nat → Prop} {u v : World} (h : Keeps P u v) {b : Nat} (hb : P b ∨ u.heap.size ≤ b) (i : Nat) (x : Value) : Keeps P u (v.setCell ⟨b, i, none⟩ x) :=
  ⟨h.os, h.tape, h.output, by simpa [World.setCell] using h.size, fun k h1 h2 => (Below.heap_setCell _ _ _ _ (by rintro rfl; rcases hb with hb | hb; exact h2 hb; omega)).trans (h.block k h1 h2)⟩
theorem Keeps.mono {P Q : Nat → Prop} {u v : World} (h : Keeps P u v) (hPQ : ∀ k, k < u.heap.size → P k → Q k) : Keeps Q u v := ⟨h.os, h.tape, h.output, h.size, fun k h1 h2 => h.block k h1 (fun hp => h2 (hPQ k h1 hp))⟩
/-- .. from a later world on: what it may write beside P is new since the first. -/
theorem Keeps.step {P Q : Nat → Prop} {u v w : World} (h : Keeps P u v) (k : Keeps Q v w) (hQ : ∀ i, Q i → P i ∨ u.heap.size ≤ i) : Keeps P u w :=
  ⟨k.os.trans h.os, k.tape.trans h.tape, k.output.trans h.output, Nat.le_trans h.size k.size, fun i h1 h2 => (k.block i (Nat.lt_of_lt_of_le h1 h.size) (fun hq => by rcases hQ i hq with h' | h'; exact h2 h'; omega)).trans (h.block i h1 h2)⟩
theorem Keeps.below {P : Nat → Prop} {u v : World} {B : Nat} (h : Keeps P u v) (hP : ∀ k, P k → B ≤ k) (hB : B ≤ u.heap.size) : Below B u v :=
  ⟨h.os, h.tape, h.output, h.size, fun k hk => h.block k (by omega) (fun hp => by have := hP k hp; omega)⟩
theorem Below.keeps {u v : World} (h : Below u.heap.size u v) (P : Nat → Prop) : Keeps P u v := ⟨h.os, h.tape, h.output, h.size, fun k h1 _ => h.block k h1⟩

/-- The reader in block r: its text, its place, its fault. -/
def RdAt (w : World) (r : Nat) (x : ByteArray) (i c j : Nat) : Prop := w.heap[r]? = some (.cells #[.string x, .int .i64 i, .int .i64 c, .int .i64 j] 47 (0, 0))

set_option maxRecDepth 100000 in
theorem fail_any (r : Nat) (x : ByteArray) (i c j code at_ : Nat) (w : World) (h : RdAt w r x i c j) :
    Calls Tryd.prog 18 #[.pointer (some ⟨r, 0, none⟩), .int .i64 code, .int .i64 at_] w fun e w' => e = .returned (.tuple #[]) ∧ (if c = 0 then RdAt w' r x i code at_ else RdAt w' r x i c j) ∧ Keeps (· = r) w w' ∧ w'.heap.size = w.heap.size := by
  have H := Lib.hid h
  have c2 := cellv h 2 rfl
  have c3 := cellv h 3 rfl
  have d2 := free_heap h 2
  have d3 := free_heap h 3
  have l := lt_heap h
  clear h
  by_cases hc : c = 0
  · subst hc
    go_enter Tryd.func18, Tryd.ntmps18
    go_wp2_with fail
    go_end0
    refine ⟨rfl, by simpa [RdAt] using heap_set (heap_set H.out 2 (.int .i64 code)) 3 (.int .i64 at_), ((Keeps.refl (· = r) w).set (b := r) (Or.inl rfl) 2 _).set (b := r) (Or.inl rfl) 3 _, by rw [size_set, size_set]⟩
  · have hc' : ((c : Int) == 0) = false := beq_eq_false_iff_ne.2 (by omega)
    go_enter Tryd.func18, Tryd.ntmps18
    go_wp2_with fail
    go_end0
    exact ⟨rfl, H.out, Keeps.refl _ _, rfl⟩

set_option maxRecDepth 100000 in
theorem peek_any (r : Nat) (x : ByteArray) (i c j : Nat) (w : World) (h : RdAt w r x i c j) :
    Calls Tryd.prog 40 #[.pointer (some ⟨r, 0, none⟩)] w fun e w' => e = .returned (.int .u8 (byteAt x i)) ∧ Below w.heap.size w w' ∧ w'.heap.size = w.heap.size := by
  have c0 := cellv h 0 rfl
  have c1 := cellv h 1 rfl
  have l := lt_heap h
  clear h
  by_cases hi : i < x.size
  · rw [byteAt_in hi]
    go_enter Tryd.func40, Tryd.ntmps40
    go_wp2_with fail
    go_region
    all_goals go_wp2_with fail
    all_goals go_region
    all_goals go_wp2_with fail
    all_goals go_returns
    all_goals exact ⟨rfl, by go_grown, rfl⟩
  · rw [byteAt_out (by omega)]
    go_enter Tryd.func40, Tryd.ntmps40
    go_wp2_with fail
    go_region
    all_goals go_wp2_with fail
    all_goals go_returns
    all_goals exact ⟨rfl, by go_grown, rfl⟩

def IsBool (e : Ending) : Prop := ∃ v, e = .returned (.bool v)
/-- What Take leaves. -/
def TakeAt (w' : World) (r : Nat) (x : ByteArray) (i c j b : Nat) : Prop := if c = 0 then (if byteAt x i = b then RdAt w' r x (i + 1) 0 j else RdAt w' r x i 11 i) else RdAt w' r x i c j

set_option maxRecDepth 100000 in
theorem take_any (r : Nat) (x : ByteArray) (i c j : Nat) (b : UInt8) (w : World) (h : RdAt w r x i c j) (hb : b.toNat ≠ 0) (hx : x.size ≤ 4000) :
    Calls Tryd.prog 43 #[.pointer (some ⟨r, 0, none⟩), .int .u8 b.toNat] w fun e w' => IsBool e ∧ TakeAt w' r x i c j b.toNat ∧ Keeps (· = r) w w' ∧ w'.heap.size = w.heap.size := by
  have H := Lib.hid h
  have c0 := cellv h 0 rfl
  have c1 := cellv h 1 rfl
  have c2 := cellv h 2 rfl
  have c3 := cellv h 3 rfl
  have d1 := free_heap h 1
  have l := lt_heap h
  clear h
  have HB := Lib.hid hb
  clear hb
  by_cases hc : c = 0
  · by_cases hi : i < x.size
    · by_cases he : byteAt x i = b.toNat
      · have hbe : ((((x[i]'hi).toNat : Nat) : Int) == ((b.toNat : Nat) : Int)) = true := by rw [← byteAt_in hi, he]; simp
        have hT : ∀ w', RdAt w' r x (i + 1) 0 j → TakeAt w' r x i c j b.toNat := fun w' h => by unfold TakeAt; rw [if_pos hc, if_pos he]; exact h
        have HT := Lib.hid hT
        have hw1 : wrap64 ((i : Int) + 1) = (i : Int) + 1 := by go_unwrap
        clear he hT
        subst hc
        go_enter Tryd.func43, Tryd.ntmps43
        go_wp2_with fail
        go_region
        all_goals go_wp2_with fail
        go_returns
        refine ⟨⟨_, rfl⟩, HT.out _ ?_, ((Keeps.refl (· = r) w).set (b := r) (Or.inl rfl) 1 _).drew, by rw [World.size_drew, size_set]⟩
        exact show RdAt (w.setCell ⟨r, 1, none⟩ (.int .i64 ((i : Int) + 1))) r x (i + 1) 0 j by simpa [RdAt] using heap_set H.out 1 (.int .i64 ((i : Int) + 1))
      · have hbe : ((((x[i]'hi).toNat : Nat) : Int) == ((b.toNat : Nat) : Int)) = false := beq_eq_false_iff_ne.2 (by rw [byteAt_in hi] at he; omega)
        have hT : ∀ w', RdAt w' r x i 11 i → TakeAt w' r x i c j b.toNat := fun w' h => by unfold TakeAt; rw [if_pos hc, if_neg he]; exact h
        have HT := Lib.hid hT
        clear he hT
        subst hc
        go_enter Tryd.func43, Tryd.ntmps43
        go_wp2_with fail
        go_region
        all_goals go_wp2_with fail
        refine (fail_any r x i 0 j 11 i w.drew H.out).mono ?_
        rintro e w1 ⟨rfl, h1, hk, hsz⟩
        rw [if_pos rfl] at h1
        have HH1 := Lib.hid h1
        have HK := Lib.hid hk
        have HSZ := Lib.hid hsz
        clear h1 hk hsz
        go_wp2_with fail
        go_returns
        exact ⟨⟨_, rfl⟩, HT.out _ HH1.out, ((Keeps.refl _ _).drew).trans HK.out, HSZ.out⟩
    · have he : byteAt x i ≠ b.toNat := by rw [byteAt_out (by omega)]; exact fun e => HB.out e.symm
      have hT : ∀ w', RdAt w' r x i 11 i → TakeAt w' r x i c j b.toNat := fun w' h => by unfold TakeAt; rw [if_pos hc, if_neg he]; exact h
      have HT := Lib.hid hT
      clear he hT
      subst hc
      go_enter Tryd.func43, Tryd.ntmps43
      go_wp2_with fail
      go_region
      all_goals go_wp2_with fail
      refine (fail_any r x i 0 j 11 i w.drew H.out).mono ?_
      rintro e w1 ⟨rfl, h1, hk, hsz⟩
      rw [if_pos rfl] at h1
      have HH1 := Lib.hid h1
      have HK := Lib.hid hk
      have HSZ := Lib.hid hsz
      clear h1 hk hsz
      go_wp2_with fail
      go_returns
      exact ⟨⟨_, rfl⟩, HT.out _ HH1.out, ((Keeps.refl _ _).drew).trans HK.out, HSZ.out⟩
  · have hc' : ((c : Int) != 0) = true := by rw [bne_iff_ne]; omega
    have hT : ∀ w', RdAt w' r x i c j → TakeAt w' r x i c j b.toNat := fun w' h => by unfold TakeAt; rw [if_neg hc]; exact h
    have HT := Lib.hid hT
    clear hT
    go_enter Tryd.func43, Tryd.ntmps43
    go_wp2_with fail
    go_returns
    exact ⟨⟨_, rfl⟩, HT.out _ H.out, Keeps.refl _ _, rfl⟩

end Go.Proofs.YtnoceodmnjhljaaDoor
