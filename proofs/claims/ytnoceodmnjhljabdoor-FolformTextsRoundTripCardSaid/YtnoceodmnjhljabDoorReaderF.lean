/-
  The contracts of simple.Reader's methods where it is the first part of a formula's reader (a block of five cells).
-/
import Derived.Test.YtnoceodmnjhljabDoorProg
import Derived.Test.YtnoceodmnjhljabDoorByte
import Derived.Test.YtnoceodmnjhljabDoorKeeps
namespace Go.Proofs.YtnoceodmnjhljabDoor
open Go Go.RowKit
set_option linter.unusedSimpArgs false
set_option linter.unusedVariables false

variable {m : Nat}

/-- The reader in block r: its text, its place, its fault. -/
def RdG (m : Nat) (w : World) (r : Nat) (x : ByteArray) (i c j : Nat) : Prop := w.heap[r]? = some (.cells #[.string x, .int .i64 i, .int .i64 c, .int .i64 j, .int .i64 m] 57 (0, 0))

set_option maxRecDepth 100000 in
theorem failG_any (r : Nat) (x : ByteArray) (i c j code at_ : Nat) (w : World) (h : RdG m w r x i c j) :
    Calls Tryd.prog 22 #[.pointer (some ⟨r, 0, none⟩), .int .i64 code, .int .i64 at_] w fun e w' => e = .returned (.tuple #[]) ∧ (if c = 0 then RdG m w' r x i code at_ else RdG m w' r x i c j) ∧ Keeps (· = r) w w' ∧ w'.heap.size = w.heap.size := by
  have H := Lib.hid h
  have c2 := cellv h 2 rfl
  have c3 := cellv h 3 rfl
  have d2 := free_heap h 2
  have d3 := free_heap h 3
  have l := lt_heap h
  clear h
  by_cases hc : c = 0
  · subst hc
    go_enter Tryd.func22, Tryd.ntmps22
    go_wp2_with fail
    go_end0
    refine ⟨rfl, by simpa [RdG] using heap_set (heap_set H.out 2 (.int .i64 code)) 3 (.int .i64 at_), ((Keeps.refl (· = r) w).set (b := r) (Or.inl rfl) 2 _).set (b := r) (Or.inl rfl) 3 _, by rw [size_set, size_set]⟩
  · have hc' : ((c : Int) == 0) = false := beq_eq_false_iff_ne.2 (by omega)
    go_enter Tryd.func22, Tryd.ntmps22
    go_wp2_with fail
    go_end0
    exact ⟨rfl, H.out, Keeps.refl _ _, rfl⟩

set_option maxRecDepth 100000 in
theorem peekG_any (r : Nat) (x : ByteArray) (i c j : Nat) (w : World) (h : RdG m w r x i c j) :
    Calls Tryd.prog 30 #[.pointer (some ⟨r, 0, none⟩)] w fun e w' => e = .returned (.int .u8 (byteAt x i)) ∧ Below w.heap.size w w' ∧ w'.heap.size = w.heap.size := by
  have c0 := cellv h 0 rfl
  have c1 := cellv h 1 rfl
  have l := lt_heap h
  clear h
  by_cases hi : i < x.size
  · rw [byteAt_in hi]
    go_enter Tryd.func30, Tryd.ntmps30
    go_wp2_with fail
    go_region
    all_goals go_wp2_with fail
    all_goals go_region
    all_goals go_wp2_with fail
    all_goals go_returns
    all_goals exact ⟨rfl, by go_grown, rfl⟩
  · rw [byteAt_out (by omega)]
    go_enter Tryd.func30, Tryd.ntmps30
    go_wp2_with fail
    go_region
    all_goals go_wp2_with fail
    all_goals go_returns
    all_goals exact ⟨rfl, by go_grown, rfl⟩

/-- What Take leaves. -/
def TakeG (m : Nat) (w' : World) (r : Nat) (x : ByteArray) (i c j b : Nat) : Prop := if c = 0 then (if byteAt x i = b then RdG m w' r x (i + 1) 0 j else RdG m w' r x i 11 i) else RdG m w' r x i c j

set_option maxRecDepth 100000 in
theorem takeG_any (r : Nat) (x : ByteArray) (i c j : Nat) (b : UInt8) (w : World) (h : RdG m w r x i c j) (hb : b.toNat ≠ 0) (hx : x.size ≤ 4000) :
    Calls Tryd.prog 34 #[.pointer (some ⟨r, 0, none⟩), .int .u8 b.toNat] w fun e w' => IsBool e ∧ TakeG m w' r x i c j b.toNat ∧ Keeps (· = r) w w' ∧ w'.heap.size = w.heap.size := by
  have H := Lib.hid h
  have c0 := cellv h 0 rfl
  have c1 := cellv h 1 rfl
  have c2 := cellv h 2 rfl
  have c3 := cellv h 3 rfl
  have d1 := free_heap h 1
  have l := lt_heap h
  clear h
  have HB := Lib.hid hb
  clear hb
  by_cases hc : c = 0
  · by_cases hi : i < x.size
    · by_cases he : byteAt x i = b.toNat
      · have hbe : ((((x[i]'hi).toNat : Nat) : Int) == ((b.toNat : Nat) : Int)) = true := by rw [← byteAt_in hi, he]; simp
        have hT : ∀ w', RdG m w' r x (i + 1) 0 j → TakeG m w' r x i c j b.toNat := fun w' h => by unfold TakeG; rw [if_pos hc, if_pos he]; exact h
        have HT := Lib.hid hT
        have hw1 : wrap64 ((i : Int) + 1) = (i : Int) + 1 := by go_unwrap
        clear he hT
        subst hc
        go_enter Tryd.func34, Tryd.ntmps34
        go_wp2_with fail
        go_region
        all_goals go_wp2_with fail
        go_returns
        refine ⟨⟨_, rfl⟩, HT.out _ ?_, ((Keeps.refl (· = r) w).set (b := r) (Or.inl rfl) 1 _).drew, by rw [World.size_drew, size_set]⟩
        exact show RdG m (w.setCell ⟨r, 1, none⟩ (.int .i64 ((i : Int) + 1))) r x (i + 1) 0 j by simpa [RdG] using heap_set H.out 1 (.int .i64 ((i : Int) + 1))
      · have hbe : ((((x[i]'hi).toNat : Nat) : Int) == ((b.toNat : Nat) : Int)) = false := beq_eq_false_iff_ne.2 (by rw [byteAt_in hi] at he; omega)
        have hT : ∀ w', RdG m w' r x i 11 i → TakeG m w' r x i c j b.toNat := fun w' h => by unfold TakeG; rw [if_pos hc, if_neg he]; exact h
        have HT := Lib.hid hT
        clear he hT
        subst hc
        go_enter Tryd.func34, Tryd.ntmps34
        go_wp2_with fail
        go_region
        all_goals go_wp2_with fail
        refine (failG_any r x i 0 j 11 i w.drew H.out).mono ?_
        rintro e w1 ⟨rfl, h1, hk, hsz⟩
        rw [if_pos rfl] at h1
        have HH1 := Lib.hid h1
        have HK := Lib.hid hk
        have HSZ := Lib.hid hsz
        clear h1 hk hsz
        go_wp2_with fail
        go_returns
        exact ⟨⟨_, rfl⟩, HT.out _ HH1.out, ((Keeps.refl _ _).drew).trans HK.out, HSZ.out⟩
    · have he : byteAt x i ≠ b.toNat := by rw [byteAt_out (by omega)]; exact fun e => HB.out e.symm
      have hT : ∀ w', RdG m w' r x i 11 i → TakeG m w' r x i c j b.toNat := fun w' h => by unfold TakeG; rw [if_pos hc, if_neg he]; exact h
      have HT := Lib.hid hT
      clear he hT
      subst hc
      go_enter Tryd.func34, Tryd.ntmps34
      go_wp2_with fail
      go_region
      all_goals go_wp2_with fail
      refine (failG_any r x i 0 j 11 i w.drew H.out).mono ?_
      rintro e w1 ⟨rfl, h1, hk, hsz⟩
      rw [if_pos rfl] at h1
      have HH1 := Lib.hid h1
      have HK := Lib.hid hk
      have HSZ := Lib.hid hsz
      clear h1 hk hsz
      go_wp2_with fail
      go_returns
      exact ⟨⟨_, rfl⟩, HT.out _ HH1.out, ((Keeps.refl _ _).drew).trans HK.out, HSZ.out⟩
  · have hc' : ((c : Int) != 0) = true := by rw [bne_iff_ne]; omega
    have hT : ∀ w', RdG m w' r x i c j → TakeG m w' r x i c j b.toNat := fun w' h => by unfold TakeG; rw [if_neg hc]; exact h
    have HT := Lib.hid hT
    clear hT
    go_enter Tryd.func34, Tryd.ntmps34
    go_wp2_with fail
    go_returns
    exact ⟨⟨_, rfl⟩, HT.out _ H.out, Keeps.refl _ _, rfl⟩

end Go.Proofs.YtnoceodmnjhljabDoor
