/-
  (*simple.Reader).Type, simple.Parse: the walks.
-/
import Derived.Test.YthflahcnkhmpaaaDoorPartWalk
namespace Go.Proofs.YthflahcnkhmpaaaDoor
open Go Go.RowKit
set_option linter.unusedSimpArgs false
set_option linter.unusedVariables false

/-- What a whole text is read as: the fault's code and place; the type. -/
def parseC (x : ByteArray) : Nat := match parse x with | .inl p => p.1 | .inr _ => 0
def parseJ (x : ByteArray) : Nat := match parse x with | .inl p => p.2 | .inr _ => 0
def parseT (x : ByteArray) : Ty := match parse x with | .inl _ => zeroTy | .inr s => s.ty

set_option maxRecDepth 100000 in
theorem type_any (x : ByteArray) (hx : x.size ≤ 4000) (s : St) (r : Nat) (w : World) (hr : RdAt w r x s.i s.c s.j) (hf : St.fits x { s with n := 0 }) :
    Calls Tryd.prog 49 #[.pointer (some ⟨r, 0, none⟩)] w fun e w' =>
      ∃ v0 v1, e = .returned (.agg #[v0, v1]) ∧ (partF x 40 { s with n := 0 }).1.In w' (Fresh w w') v0 v1 ∧ RdAt w' r x (partF x 40 { s with n := 0 }).2.i (partF x 40 { s with n := 0 }).2.c (partF x 40 { s with n := 0 }).2.j ∧ Keeps (· = r) w w' := by
  have HR := Lib.hid hr
  have l1 := lt_heap hr
  clear hr
  go_enter Tryd.func49, Tryd.ntmps49
  go_wp2_with fail
  refine (part_any x hx 40 1 { s with n := 0 } r (w.heap.size + 1) _ rfl (heap_old (by simp; omega) (heap_old l1 HR.out)) (heap_at (by simp)) (by omega) hf).mono ?_
  rintro e w1 ⟨v0, v1, rfl, ht, hr1, hn1, hk1⟩
  obtain ⟨sa, Aa, na, ca, rfl, rfl⟩ := ht.shape
  have z1 : w.heap.size + 2 ≤ w1.heap.size := by have := hk1.size; simpa using this
  have T1 := (hk1.block w.heap.size (by simp; omega) (by omega)).trans (heap_old (by simp) (heap_at rfl))
  have a0 := cellv T1 0 rfl
  have a1 := cellv T1 1 rfl
  have a2 := free_heap T1 0
  have a3 := free_heap T1 1
  have a4 := lt_heap T1
  have HT := Lib.hid ht
  have HR1 := Lib.hid hr1
  have HK1 := Lib.hid hk1
  clear ht hr1 hn1 hk1 T1
  go_wp2_with fail
  refine bodyPost_ret (v := .agg #[.string sa, .slice Aa na ca]) (by simp [results, Tryd.results49, go_sem, a0, a1]) rfl ?_
  refine ⟨_, _, rfl, (HT.out.keep (fun b hb => heap_far _ (by have := hb.1; simp at this; omega) (heap_far _ (by have := hb.1; simp at this; omega) rfl))).mono (fun b hb => ⟨by have := hb.1; simp at this; omega, by simpa [size_set] using hb.2⟩), heap_far _ (by omega) (heap_far _ (by omega) HR1.out), ?_⟩
  exact (((((Keeps.refl _ _).alloc _).alloc _).step HK1.out (fun k hk => by rcases hk with hk | hk; exact Or.inl hk; exact Or.inr (by omega))).set (Or.inr (Nat.le_refl _)) _ _).set (Or.inr (Nat.le_refl _)) _ _

/-- What both readers of a whole text leave. -/
def ParseAt (x : ByteArray) (w : World) (e : Ending) (w' : World) : Prop :=
  ∃ v0 v1, e = .returned (.tuple #[.agg #[v0, v1], .agg #[.int .i64 (parseC x), .int .i64 (parseJ x)]]) ∧ (parseT x).In w' (Fresh w w') v0 v1 ∧ Below w.heap.size w w'

theorem parse_long {x : ByteArray} (h : 4000 < x.size) : parse x = .inl (1, 0) := by unfold parse; rw [if_pos h]

/-- .. told by what Type leaves. -/
theorem parse_of {x : ByteArray} (hl : ¬ 4000 < x.size) :
    ((partF x 40 ⟨0, 0, 0, 0⟩).2.c ≠ 0 → parse x = .inl ((partF x 40 ⟨0, 0, 0, 0⟩).2.c, (partF x 40 ⟨0, 0, 0, 0⟩).2.j)) ∧
    ((partF x 40 ⟨0, 0, 0, 0⟩).2.c = 0 → (partF x 40 ⟨0, 0, 0, 0⟩).2.i < x.size → parse x = .inl (11, (partF x 40 ⟨0, 0, 0, 0⟩).2.i)) ∧
    ((partF x 40 ⟨0, 0, 0, 0⟩).2.c = 0 → ¬ (partF x 40 ⟨0, 0, 0, 0⟩).2.i < x.size → ∃ s : Sy, parse x = .inr s ∧ (partF x 40 ⟨0, 0, 0, 0⟩).1 = s.ty) := by
  have h := partF_rd x 40 ⟨0, 0, 0, 0⟩ rfl
  unfold parse
  rw [if_neg hl]
  simp only at h
  cases hr : rd x 40 0 0 with
  | bad c j =>
    rw [hr] at h
    obtain ⟨h1, h2, h3⟩ := h
    rw [h1, h2]
    exact ⟨fun _ => rfl, fun e => absurd e h3, fun e => absurd e h3⟩
  | ok s i m =>
    rw [hr] at h
    simp only at h
    rw [h]
    simp only
    exact ⟨fun e => absurd rfl e, fun _ hlt => if_pos hlt, fun _ hlt => ⟨s, if_neg hlt, rfl⟩⟩

set_option maxRecDepth 100000 in
set_option maxHeartbeats 1000000 in
theorem parse_any (x : ByteArray) (w : World) (hx : x.size ≤ maxLen) : Calls Tryd.prog 21 #[.string x] w (ParseAt x w) := by
  unfold maxLen at hx
  by_cases hl : 4000 < x.size
  · have hfin : ∀ w', Below w.heap.size w w' → ParseAt x w (.returned (.tuple #[.agg #[.string ⟨#[]⟩, .slice none 0 0], .agg #[.int .i64 1, .int .i64 0]])) w' := by
      intro w' h
      unfold ParseAt parseC parseJ parseT
      rw [parse_long hl]
      exact ⟨_, _, rfl, zero_fresh _ _, h⟩
    have HF := Lib.hid hfin
    clear hfin
    go_enter Tryd.func21, Tryd.ntmps21
    go_wp2_with fail
    refine bodyPost_ret (v := .tuple #[.agg #[.string ⟨#[]⟩, .slice none 0 0], .agg #[.int .i64 1, .int .i64 0]]) (by simp [results, Tryd.results21, go_sem]) rfl ?_
    exact HF.out _ (by go_grown)
  have hx4 : x.size ≤ 4000 := by omega
  have hf0 : St.fits x ⟨0, 0, 0, 0⟩ := ⟨by simp, by simp, by simp, by simp, fun _ => by simp⟩
  have hfit := partF_fits x 40 _ hf0
  have HP := Lib.hid (parse_of hl)
  go_enter Tryd.func21, Tryd.ntmps21
  go_wp2_with fail
  refine (type_any x hx4 ⟨0, 0, 0, 0⟩ (w.heap.size + 1 + 1) _ (heap_at (by simp)) hf0).mono ?_
  rintro e w1 ⟨v0, v1, rfl, ht, hr1, hk1⟩
  simp only at ht hr1
  generalize partF x 40 ⟨0, 0, 0, 0⟩ = p at *
  obtain ⟨tr, ⟨i, c, j, n⟩⟩ := p
  obtain ⟨f1, f2, f3, f4, f5⟩ := hfit
  simp only at ht hr1 f1 f2 f3 f4 f5
  obtain ⟨sa, Aa, na, ca, rfl, rfl⟩ := ht.shape
  have z1 : w.heap.size + 3 ≤ w1.heap.size := by have := hk1.size; simpa using this
  have T1 := (hk1.block w.heap.size (by simp; omega) (by omega)).trans (heap_old (by simp; omega) (heap_old (by simp) (heap_at rfl)))
  have U1 := (hk1.block (w.heap.size + 1) (by simp) (by omega)).trans (heap_old (by simp) (heap_at (by simp)))
  have B1 := Lib.hid (show Below w.heap.size w w1 from (show Below w.heap.size w _ by go_grown).trans (hk1.below (B := w.heap.size) (by rintro k rfl; omega) (by simp; omega)))
  have a0 := cellv T1 0 rfl
  have a1 := cellv T1 1 rfl
  have a2 := free_heap T1 0
  have a3 := free_heap T1 1
  have a4 := lt_heap T1
  have b0 := cellv U1 0 rfl
  have b1 := cellv U1 1 rfl
  have b2 := free_heap U1 0
  have b3 := free_heap U1 1
  have b4 := lt_heap U1
  have r0 := cellv hr1 0 rfl
  have r1 := cellv hr1 1 rfl
  have r2 := cellv hr1 2 rfl
  have r3 := cellv hr1 3 rfl
  have r4 := lt_heap hr1
  have HT := Lib.hid ht
  have HR1 := Lib.hid hr1
  have TT := Lib.hid T1
  have UU := Lib.hid U1
  clear ht hr1 hk1 T1 U1
  by_cases hc : c = 0
  · subst hc
    by_cases hi : i < x.size
    · go_wp2_with fail
      refine (fail_any (w.heap.size + 1 + 1) x i 0 j 11 i _ (heap_old r4 HR1.out)).mono ?_
      rintro e w2 ⟨rfl, hr2, hk2, hs2⟩
      rw [if_pos rfl] at hr2
      have z2 : w1.heap.size + 1 ≤ w2.heap.size := by have := hk2.size; simpa using this
      have T2 := (hk2.block w.heap.size (by simp; omega) (by omega)).trans (heap_old (lt_heap TT.out) TT.out)
      have U2 := (hk2.block (w.heap.size + 1) (by simp; omega) (by omega)).trans (heap_old (lt_heap UU.out) UU.out)
      have B2 := Lib.hid (show Below w.heap.size w w2 from (B1.out.alloc (by omega) _).trans (hk2.below (B := w.heap.size) (by rintro k rfl; omega) (by simp; omega)))
      have a0' := cellv T2 0 rfl
      have a1' := cellv T2 1 rfl
      have a2' := free_heap T2 0
      have a3' := free_heap T2 1
      have a4' := lt_heap T2
      have b0' := cellv U2 0 rfl
      have b1' := cellv U2 1 rfl
      have b2' := free_heap U2 0
      have b3' := free_heap U2 1
      have b4' := lt_heap U2
      have r0' := cellv hr2 0 rfl
      have r1' := cellv hr2 1 rfl
      have r2' := cellv hr2 2 rfl
      have r3' := cellv hr2 3 rfl
      have r4' := lt_heap hr2
      clear hk2 T2 U2 hs2 a0 a1 a2 a3 b0 b1 b2 b3 r0 r1 r2 r3
      go_wp2_with fail
      go_region
      all_goals go_wp2_with fail
      refine bodyPost_ret (v := .tuple #[.agg #[.string ⟨#[]⟩, .slice none 0 0], .agg #[.int .i64 11, .int .i64 i]]) (by simp [results, Tryd.results21, go_sem, a0', a1', b0', b1']) rfl ?_
      have hp := HP.out.2.1 (by trivial) hi
      unfold ParseAt parseC parseJ parseT
      rw [hp]
      exact ⟨_, _, rfl, zero_fresh _ _, ((((B2.out.setCell (by simp) _).setCell (by simp) _).setCell (by simp) _).setCell (by simp) _).drew⟩
    · go_wp2_with fail
      refine bodyPost_ret (v := .tuple #[.agg #[.string sa, .slice Aa na ca], .agg #[.int .i64 0, .int .i64 0]]) (by simp [results, Tryd.results21, go_sem, a0, a1, a4, b0, b1, b4]) rfl ?_
      obtain ⟨s, hp, hs⟩ := HP.out.2.2 (by trivial) hi
      unfold ParseAt parseC parseJ parseT
      rw [hp]
      refine ⟨_, _, rfl, ?_, ((((B1.out.setCell (by simp) _).setCell (by simp) _).setCell (by simp) _).setCell (by simp) _).alloc (by simp [size_set]; omega) _⟩
      simp only
      rw [← hs]
      refine (HT.out.keep (fun b hb => ?_)).mono (fun b hb => ⟨by have := hb.1; simp at this; omega, by have := hb.2; simp [size_set]; omega⟩)
      have h1 := hb.1
      have h2 := hb.2
      simp at h1
      exact heap_old (by simp [size_set]; omega) (heap_far _ (by omega) (heap_far _ (by omega) (heap_far _ (by omega) (heap_far _ (by omega) rfl))))
  · have hc' : ((c : Int) == 0) = false := beq_eq_false_iff_ne.2 (by omega)
    have hc2 : ((c : Int) != 0) = true := by rw [bne_iff_ne]; omega
    go_wp2_with fail
    go_region
    all_goals go_wp2_with fail
    refine bodyPost_ret (v := .tuple #[.agg #[.string ⟨#[]⟩, .slice none 0 0], .agg #[.int .i64 c, .int .i64 j]]) (by simp [results, Tryd.results21, go_sem, a0, a1, a4, b0, b1, b4]) rfl ?_
    have hp := HP.out.1 hc
    unfold ParseAt parseC parseJ parseT
    rw [hp]
    exact ⟨_, _, rfl, zero_fresh _ _, (((((B1.out.setCell (by simp) _).setCell (by simp) _).setCell (by simp) _).setCell (by simp) _).alloc (by simp [size_set]; omega) _).drew⟩

end Go.Proofs.YthflahcnkhmpaaaDoor
