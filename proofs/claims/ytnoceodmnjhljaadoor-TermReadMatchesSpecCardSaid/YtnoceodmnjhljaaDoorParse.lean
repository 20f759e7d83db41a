/-
  (*simple.Reader).Type, simple.Parse: the walks.
-/
import Derived.Test.YtnoceodmnjhljaaDoorPartWalk
namespace Go.Proofs.YtnoceodmnjhljaaDoor
open Go Go.RowKit
set_option linter.unusedSimpArgs false
set_option linter.unusedVariables false

/-- What a whole text is read as: the fault's code and place; the type. -/
def parseC (x : ByteArray) : Nat := match parse x with | .inl p => p.1 | .inr _ => 0
def parseJ (x : ByteArray) : Nat := match parse x with | .inl p => p.2 | .inr _ => 0
def parseT (x : ByteArray) : Ty := match parse x with | .inl _ => zeroTy | .inr s => s.ty

set_option maxRecDepth 100000 in
theorem type_any (x : ByteArray) (hx : x.size ≤ 4000) (s : St) (r : Nat) (w : World) (hr : RdAt w r x s.i s.c s.j) (hf : St.fits x { s with n := 0 }) :
    Calls Tryd.prog 42 #[.pointer (some ⟨r, 0, none⟩)] w fun e w' =>
      ∃ v0 v1, e = .returned (.agg #[v0, v1]) ∧ (partF x 40 { s with n := 0 }).1.In w' (Fresh w w') v0 v1 ∧ RdAt w' r x (partF x 40 { s with n := 0 }).2.i (partF x 40 { s with n := 0 }).2.c (partF x 40 { s with n := 0 }).2.j ∧ Keeps (· = r) w w' := by
  have HR := Lib.hid hr
  have l1 := lt_heap hr
  clear hr
  go_enter Tryd.func42, Tryd.ntmps42
  go_wp2_with fail
  refine (part_any x hx 40 1 { s with n := 0 } r (w.heap.size + 1) _ rfl (heap_old (by simp; omega) (heap_old l1 HR.out)) (heap_at (by simp)) (by omega) hf).mono ?_
  rintro e w1 ⟨v0, v1, rfl, ht, hr1, hn1, hk1⟩
  obtain ⟨sa, Aa, na, ca, rfl, rfl⟩ := ht.shape
  have z1 : w.heap.size + 2 ≤ w1.heap.size := by have := hk1.size; simpa using this
  have T1 := (hk1.block w.heap.size (by simp; omega) (by omega)).trans (heap_old (by simp) (heap_at rfl))
  have a0 := cellv T1 0 rfl
  have a1 := cellv T1 1 rfl
  have a2 := free_heap T1 0
  have a3 := free_heap T1 1
  have a4 := lt_heap T1
  have HT := Lib.hid ht
  have HR1 := Lib.hid hr1
  have HK1 := Lib.hid hk1
  clear ht hr1 hn1 hk1 T1
  go_wp2_with fail
  refine bodyPost_ret (v := .agg #[.string sa, .slice Aa na ca]) (by simp [results, Tryd.results42, go_sem, a0, a1]) rfl ?_
  refine ⟨_, _, rfl, (HT.out.keep (fun b hb => heap_far _ (by have := hb.1; simp at this; omega) (heap_far _ (by have := hb.1; simp at this; omega) rfl))).mono (fun b hb => ⟨by have := hb.1; simp at this; omega, by simpa [size_set] using hb.2⟩), heap_far _ (by omega) (heap_far _ (by omega) HR1.out), ?_⟩
  exact (((((Keeps.refl _ _).alloc _).alloc _).step HK1.out (fun k hk => by rcases hk with hk | hk; exact Or.inl hk; exact Or.inr (by omega))).set (Or.inr (Nat.le_refl _)) _ _).set (Or.inr (Nat.le_refl _)) _ _

/-- What both readers of a whole text leave. -/
def ParseAt (x : ByteArray) (w : World) (e : Ending) (w' : World) : Prop :=
  ∃ v0 v1, e = .returned (.tuple #[.agg #[v0, v1], .agg #[.int .i64 (parseC x), .int .i64 (parseJ x)]]) ∧ (parseT x).In w' (Fresh w w') v0 v1 ∧ Below w.heap.size w w'

theorem parse_long {x : ByteArray} (h : 4000 < x.size) : parse x = .inl (1, 0) := by unfold parse; rw [if_pos h]

/-- .. told by what Type leaves. -/
theorem parse_of {x : ByteArray} (hl : ¬ 4000 < x.size) :
    ((partF x 40 ⟨0, 0, 0, 0⟩).2.c ≠ 0 → parse x = .inl ((partF x 40 ⟨0, 0, 0, 0⟩).2.c, (partF x 40 ⟨0, 0, 0, 0⟩).2.j)) ∧
    ((partF x 40 ⟨0, 0, 0, 0⟩).2.c = 0 → (partF x 40 ⟨0, 0, 0, 0⟩).2.i < x.size → parse x = .inl (11, (partF x 40 ⟨0, 0, 0, 0⟩).2.i)) ∧
    ((partF x 40 ⟨0, 0, 0, 0⟩).2.c = 0 → ¬ (partF x 40 ⟨0, 0, 0, 0⟩).2.i < x.size → ∃ s : Sy, parse x = .inr s ∧ (partF x 40 ⟨0, 0, 0, 0⟩).1 = s.ty) := by
  have h := partF_rd x 40 ⟨0, 0, 0, 0⟩ rfl
  unfold parse
  rw [if_neg hl]
  simp only at h
  cases hr : rd x 40 0 0 with
  | bad c j =>
    rw [hr] at h
    obtain ⟨h1, h2, h3⟩ := h
    rw [h1, h2]
    exact ⟨fun _ => rfl, fun e => absurd e h3, fun e => absurd e h3⟩
  | ok s i m =>
    rw [hr] at h
    simp only at h
    rw [h]
    simp only
    exact ⟨fun e => absurd rfl e, fun _ hlt => if_pos hlt, fun _ hlt => ⟨s, if_neg hlt, rfl⟩⟩

end Go.Proofs.YtnoceodmnjhljaaDoor
