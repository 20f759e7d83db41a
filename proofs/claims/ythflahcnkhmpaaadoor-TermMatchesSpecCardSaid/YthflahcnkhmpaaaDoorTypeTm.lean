/-
  term.Type: the walk.
-/
import Derived.Test.YthflahcnkhmpaaaDoorProg
import Derived.Test.YthflahcnkhmpaaaDoorValidTm
namespace Go.Proofs.YthflahcnkhmpaaaDoor
open Go Go.RowKit
set_option linter.unusedSimpArgs false
set_option linter.unusedVariables false

set_option maxRecDepth 100000 in
set_option maxHeartbeats 4000000 in
theorem type_bad (t : Tm) (cs : List Value) (w : World) (S : Nat → Prop) (ht : tmRep.R w S t cs) (hS : ∀ b, S b → b < w.heap.size) (hf : (tmFault t).1 ≠ 0) :
    Calls Tryd.prog 38 #[.agg cs.toArray] w fun e w' => e = .returned (.tuple #[.agg #[.string ⟨#[]⟩, .slice none 0 0], .agg #[.int .i64 ((tmFault t).1 : Nat), .int .i64 (tmFault t).2]]) ∧ Below w.heap.size w w' := by
  obtain ⟨s1, A1, n1, c1, B1, m1, d1, rfl, _, _⟩ := Tm.shape ht
  have HT := Lib.hid ht
  have HS := Lib.hid hS
  clear ht hS
  have hold : ∀ (o p q : Obj) k, S k → (((w.alloc o).alloc p).alloc q).heap[k]? = w.heap[k]? := fun o p q k hk => by
    have := HS.out k hk
    exact heap_old (by simp; omega) (heap_old (by simp; omega) (heap_old this rfl))
  have hv := fun (o p q : Obj) => Lib.hid (validateTm_any t [.int .i64 t.lab.kind, .string t.lab.nm, .int .i64 t.lab.ix, .string s1, .slice A1 n1 c1, .slice B1 m1 d1] (((w.alloc o).alloc p).alloc q) S (tmRep.keep HT.out (hold o p q) (fun _ h => h)) (fun k hk => by have := HS.out k hk; simp; omega))
  have hf' : (((tmFault t).1 : Int) != 0) = true := bne_iff_ne.2 (by omega)
  clear hf
  have HV := Lib.hid hv
  have HOLD := Lib.hid hold
  clear hv hold
  go_enter Tryd.func38, Tryd.ntmps38
  go_wp2_with fail
  (with_reducible refine (HV.out _ _ _).out.mono ?_)
  rintro e w1 ⟨rfl, hw1⟩
  have z1 : w.heap.size + 3 ≤ w1.heap.size := by have := hw1.size; simpa using this
  have h0 := (hw1.block w.heap.size (by simp; omega)).trans (heap_old (by simp <;> omega) (heap_old (by simp) (heap_at rfl)))
  have h1 := (hw1.block (w.heap.size + 1) (by simp <;> omega)).trans (heap_old (by simp) (heap_at (by simp)))
  have h2 := (hw1.block (w.heap.size + 1 + 1) (by simp)).trans (heap_at (by simp))
  have hB : Below w.heap.size w w1 := (show Below w.heap.size w _ by go_grown).trans (hw1.mono (by simp; omega))
  have HB := Lib.hid hB
  have HW1 := Lib.hid hw1
  clear hB hw1
  have h0_0 := cv0 h0
  have h0_1 := cv1 h0
  have h0_2 := cv2 h0
  have h0_3 := cv3 h0
  have h0_4 := cv4 h0
  have h0_5 := cv5 h0
  have h0_l := lt_heap h0
  have H0 := Lib.hid h0
  clear h0
  have h1_0 := cv0 h1
  have h1_1 := cv1 h1
  have h1_f0 := free_heap h1 0
  have h1_f1 := free_heap h1 1
  have h1_l := lt_heap h1
  have H1 := Lib.hid h1
  clear h1
  have h2_0 := cv0 h2
  have h2_1 := cv1 h2
  have h2_f0 := free_heap h2 0
  have h2_f1 := free_heap h2 1
  have h2_l := lt_heap h2
  have H2 := Lib.hid h2
  clear h2
  go_wp2_with fail
  go_region
  all_goals go_wp2_with fail
  all_goals
    refine bodyPost_ret (v := .tuple #[.agg #[.string ⟨#[]⟩, .slice none 0 0], .agg #[.int .i64 (tmFault t).1, .int .i64 (tmFault t).2]]) (by simp [results, Tryd.results38, go_sem, h1_0, h1_1, h1_l, h0_l, h2_0, h2_1, h2_l]) rfl ?_
    exact ⟨rfl, (((((HB.out.setCell (by simp) _).setCell (by simp) _).setCell (by simp <;> omega) _).setCell (by simp <;> omega) _).alloc (by simp [size_set]; omega) _).drew⟩

set_option maxRecDepth 100000 in
set_option maxHeartbeats 4000000 in
theorem type_ok (v : Tv) (s : Sy) (cs : List Value) (w : World) (S : Nat → Prop) (ht : tmRep.R w S v.tm cs) (hS : ∀ b, S b → b < w.heap.size) (hok : v.ok 0) (hn : v.nodes ≤ 200) (hd : v.depth ≤ 40) (hty : v.typ [] = some s) :
    Calls Tryd.prog 38 #[.agg cs.toArray] w fun e w' => ∃ v0 v1, e = .returned (.tuple #[.agg #[v0, v1], .agg #[.int .i64 0, .int .i64 0]]) ∧ s.ty.In w' (Fresh w w') v0 v1 ∧ Below w.heap.size w w' := by
  obtain ⟨s1, A1, n1, c1, B1, m1, d1, rfl, _, _⟩ := Tm.shape ht
  have HT := Lib.hid ht
  have HS := Lib.hid hS
  clear ht hS
  have hold : ∀ (o p q : Obj) k, S k → (((w.alloc o).alloc p).alloc q).heap[k]? = w.heap[k]? := fun o p q k hk => by
    have := HS.out k hk
    exact heap_old (by simp; omega) (heap_old (by simp; omega) (heap_old this rfl))
  have hv := fun (o p q : Obj) => validateTm_any v.tm [.int .i64 v.tm.lab.kind, .string v.tm.lab.nm, .int .i64 v.tm.lab.ix, .string s1, .slice A1 n1 c1, .slice B1 m1 d1] (((w.alloc o).alloc p).alloc q) S (tmRep.keep HT.out (hold o p q) (fun _ h => h)) (fun k hk => by have := HS.out k hk; simp; omega)
  rw [tmFault_ok hok hn hd hty] at hv
  have HV := Lib.hid hv
  have HOLD := Lib.hid hold
  clear hv hold
  go_enter Tryd.func38, Tryd.ntmps38
  go_wp2_with fail
  (with_reducible refine (HV.out _ _ _).mono ?_)
  rintro e w1 ⟨rfl, hw1⟩
  have z1 : w.heap.size + 3 ≤ w1.heap.size := by have := hw1.size; simpa using this
  have h0 := (hw1.block w.heap.size (by simp; omega)).trans (heap_old (by simp <;> omega) (heap_old (by simp) (heap_at rfl)))
  have h1 := (hw1.block (w.heap.size + 1) (by simp <;> omega)).trans (heap_old (by simp) (heap_at (by simp)))
  have h2 := (hw1.block (w.heap.size + 1 + 1) (by simp)).trans (heap_at (by simp))
  have hB : Below w.heap.size w w1 := (show Below w.heap.size w _ by go_grown).trans (hw1.mono (by simp; omega))
  have ht1 := fun (o : Obj) => Lib.hid (typed_any v [] [.int .i64 v.tm.lab.kind, .string v.tm.lab.nm, .int .i64 v.tm.lab.ix, .string s1, .slice A1 n1 c1, .slice B1 m1 d1] (.slice none 0 0) (w1.alloc o) S hok (by simp; omega) (tmRep.keep HT.out (fun k hk => by have := HS.out k hk; exact (heap_old (by omega) rfl).trans (hB.block k this)) (fun _ h => h)) Ctx.nil (fun k hk => by have := HS.out k hk; simp; omega))
  rw [hty] at ht1
  have HB := Lib.hid hB
  have HW1 := Lib.hid hw1
  have HT1 := Lib.hid ht1
  clear hB hw1 ht1
  have h0_0 := cv0 h0
  have h0_1 := cv1 h0
  have h0_2 := cv2 h0
  have h0_3 := cv3 h0
  have h0_4 := cv4 h0
  have h0_5 := cv5 h0
  have h0_l := lt_heap h0
  have H0 := Lib.hid h0
  clear h0
  have h1_0 := cv0 h1
  have h1_1 := cv1 h1
  have h1_f0 := free_heap h1 0
  have h1_f1 := free_heap h1 1
  have h1_l := lt_heap h1
  have H1 := Lib.hid h1
  clear h1
  have h2_0 := cv0 h2
  have h2_1 := cv1 h2
  have h2_f0 := free_heap h2 0
  have h2_f1 := free_heap h2 1
  have h2_l := lt_heap h2
  have H2 := Lib.hid h2
  clear h2
  go_wp2_with fail
  (with_reducible refine (HT1.out _).out.mono ?_)
  rintro e w2 ⟨⟨v0, v1, ok, T, rfl, hT, hr⟩, hw2⟩
  simp only at hr
  obtain ⟨rfl, rfl⟩ := hr
  obtain ⟨sT, AT, nT, cT, rfl, rfl⟩ := hT.shape
  have z2 : w1.heap.size + 1 ≤ w2.heap.size := by have := hw2.size; simpa using this
  have h1 := (hw2.block (w.heap.size + 1) (by simp; omega)).trans (heap_old h1_l H1.out)
  have h2 := (hw2.block (w.heap.size + 1 + 1) (by simp; omega)).trans (heap_old h2_l H2.out)
  have hB2 := (HB.out.alloc (by omega) (.cells #[.int .i64 0, .int .i64 0] 26)).trans (hw2.mono (by simp; omega))
  have hT2 : s.ty.In w2 (Lo w2) (.string sT) (.slice AT nT cT) := Ty.In_mono_ hT (fun k hk => by
    rcases hk with hk | hk
    · have := HS.out k hk; exact (show k < w2.heap.size by omega)
    · exact hk.2)
  have hcl := fun (o : Obj) => Lib.hid (clone_any _ s _ _ (w2.alloc o) (Lo w2) (Nat.le_refl _) (hT2.keep (fun k hk => heap_old hk rfl)) (fun k hk => by have h' : k < w2.heap.size := hk; simp; omega))
  clear h0_0 h0_1 h0_2 h0_3 h0_4 h0_5 h0_l h1_0 h1_1 h1_f0 h1_f1 h1_l h2_0 h2_1 h2_f0 h2_f1 h2_l hT hw2 hT2
  have HB2 := Lib.hid hB2
  have HCL := Lib.hid hcl
  clear hB2 hcl
  have h1_0 := cv0 h1
  have h1_1 := cv1 h1
  have h1_f0 := free_heap h1 0
  have h1_f1 := free_heap h1 1
  have h1_l := lt_heap h1
  have H1 := Lib.hid h1
  clear h1
  have h2_0 := cv0 h2
  have h2_1 := cv1 h2
  have h2_f0 := free_heap h2 0
  have h2_f1 := free_heap h2 1
  have h2_l := lt_heap h2
  have H2 := Lib.hid h2
  clear h2
  go_wp2_with fail
  (with_reducible refine (HCL.out _).out.mono ?_)
  rintro e w3 ⟨u0, u1, rfl, hT3, hw3⟩
  obtain ⟨sU, AU, nU, cU, rfl, rfl⟩ := hT3.shape
  have z3 : w2.heap.size + 1 ≤ w3.heap.size := by have := hw3.size; simpa using this
  have h1 := (hw3.block (w.heap.size + 1) (by simp; omega)).trans (heap_old h1_l H1.out)
  have h2 := (hw3.block (w.heap.size + 1 + 1) (by simp; omega)).trans (heap_old h2_l H2.out)
  have hB3 := (HB2.out.alloc (by omega) (.cells #[.string sT, .slice AT nT cT] 24)).trans (hw3.mono (by simp; omega))
  clear h1_0 h1_1 h1_f0 h1_f1 h1_l h2_0 h2_1 h2_f0 h2_f1 h2_l hw3
  have HB3 := Lib.hid hB3
  have HT3 := Lib.hid hT3
  clear hB3 hT3
  have h1_0 := cv0 h1
  have h1_1 := cv1 h1
  have h1_f0 := free_heap h1 0
  have h1_f1 := free_heap h1 1
  have h1_l := lt_heap h1
  have H1 := Lib.hid h1
  clear h1
  have h2_0 := cv0 h2
  have h2_1 := cv1 h2
  have h2_f0 := free_heap h2 0
  have h2_f1 := free_heap h2 1
  have h2_l := lt_heap h2
  have H2 := Lib.hid h2
  clear h2
  go_wp2_with fail
  refine bodyPost_ret (v := .tuple #[.agg #[.string sU, .slice AU nU cU], .agg #[.int .i64 0, .int .i64 0]]) (by simp [results, Tryd.results38, go_sem, h1_0, h1_1, h1_l, h2_0, h2_1, h2_l]) rfl ?_
  refine ⟨_, _, rfl, ?_, (((HB3.out.setCell (by simp) _).setCell (by simp) _).setCell (by simp <;> omega) _).setCell (by simp <;> omega) _⟩
  refine Ty.In_keep (fun k hk => ?_) (fun k hk => ?_) _ _ _ HT3.out
  · have h1 := hk.1; simp at h1
    exact heap_far _ (by omega) (heap_far _ (by omega) (heap_far _ (by omega) (heap_far _ (by omega) rfl)))
  · have h1 := hk.1; have h2 := hk.2; simp at h1
    exact ⟨by omega, by simp only [size_set]; omega⟩

end Go.Proofs.YthflahcnkhmpaaaDoor
