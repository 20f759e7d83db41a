/-
  folform.Free.
-/
import Derived.Test.YtdofemkfmkopcaaDoorConst
import Derived.Test.YtdofemkfmkopcaaDoorFPrint
namespace Go.Proofs.YtdofemkfmkopcaaDoor
open Go Go.RowKit Go.Sort
set_option linter.unusedSimpArgs false
set_option linter.unusedVariables false

theorem Fv.frees_len : ∀ (v : Fv) (bd : List ByteArray), v.ok → (fmFrees bd v.fm).length ≤ 3 * v.nodes
  | .tru, bd, _ => by simp [Fv.fm, fmFrees, fmFreess, Fv.nodes]
  | .pred n ws, bd, h => by
    have h2 := h.2.1
    have := List.length_filter_le (fun w => !hasB bd w) ws
    simp only [Fv.fm, fmFrees, fmFreess, Fv.nodes, List.append_nil]; omega
  | .same a b, bd, _ => by
    have := List.length_filter_le (fun w => !hasB bd w) [a, b]
    simp only [Fv.fm, fmFrees, fmFreess, Fv.nodes, List.append_nil]
    simp only [List.length_cons, List.length_nil] at this
    omega
  | .neg f, bd, h => by
    have := fun b => Fv.frees_len f b h
    simp only [Fv.fm, fmFrees, fmFreess, Fv.nodes, List.filter_nil, List.nil_append, List.append_nil]
    exact Nat.le_trans (this _) (by omega)
  | .bin k f g, bd, h => by
    have h1 := fun b => Fv.frees_len f b h.2.1
    have h2 := fun b => Fv.frees_len g b h.2.2
    simp only [Fv.fm, fmFrees, fmFreess, Fv.nodes, List.filter_nil, List.nil_append, List.append_nil, List.length_append]
    exact Nat.le_trans (Nat.add_le_add (h1 _) (h2 _)) (by omega)
  | .qu k x f, bd, h => by
    have := fun b => Fv.frees_len f b h.2.2
    simp only [Fv.fm, fmFrees, fmFreess, Fv.nodes, List.filter_nil, List.nil_append, List.append_nil]
    exact Nat.le_trans (this _) (by omega)
set_option maxRecDepth 100000 in
set_option maxHeartbeats 4000000 in
theorem free_any (t : Fm) (cs : List Value) (w : World) (S : Nat → Prop) (ht : fmRep.R w S t cs) (hS : ∀ b, S b → b < w.heap.size) :
    Calls Tryd.prog 14 #[.agg cs.toArray] w fun e w' => (∃ u, e = .returned (.tuple #[u, .agg #[.int .i64 ((fmFault t).1 : Nat), .int .i64 ((fmFault t).2 : Nat)]]) ∧ ((fmFault t).1 ≠ 0 → u = .slice none 0 0) ∧ ((fmFault t).1 = 0 → w'.ownsRow w.heap.size 9 1 u (fmConsts t).length ((fmConsts t).map .string))) ∧ Below w.heap.size w w' := by
  obtain ⟨A, n1, c1, B, n2, c2, rfl, _, _, _, _⟩ := Fm.shape ht
  obtain ⟨kd, hkd⟩ : ∃ k, t.lab.kind = k := ⟨_, rfl⟩
  obtain ⟨nm, hnm⟩ : ∃ k, t.lab.nm = k := ⟨_, rfl⟩
  rw [hkd, hnm] at ht ⊢
  have hold : ∀ (o p : Obj) k, S k → ((w.alloc o).alloc p).heap[k]? = w.heap[k]? := fun o p k hk => by
    have := hS k hk
    exact heap_old (by simp; omega) (heap_old this rfl)
  have hv := fun (o p : Obj) => Lib.hid (validateFm_any t [.int .i64 kd, .string nm, .slice A n1 c1, .slice B n2 c2] ((w.alloc o).alloc p) S (fmRep.keep ht (hold o p) (fun _ h => h)) (fun k hk => by have := hS k hk; simp; omega))
  by_cases hf : (fmFault t).1 = 0
  case neg =>
    have hf' : (((fmFault t).1 : Int) != 0) = true := bne_iff_ne.2 (by omega)
    clear hkd hnm ht
    have HV := Lib.hid hv
    have HF := Lib.hid hf
    have HS := Lib.hid hS
    clear hv hf hS
    go_enter Tryd.func14, Tryd.ntmps14
    go_wp2_with fail
    (with_reducible refine (HV.out _ _).out.mono ?_)
    rintro e w1 ⟨rfl, hw1⟩
    have z1 : w.heap.size + 1 + 1 ≤ w1.heap.size := by have := hw1.size; simpa using this
    have h1 := (hw1.block (w.heap.size + 1) (by simp)).trans (heap_at (by simp))
    have hB : Below w.heap.size w w1 := (show Below w.heap.size w _ by go_grown).trans (hw1.mono (by simp; omega))
    have HB := Lib.hid hB
    have HW1 := Lib.hid hw1
    clear hB hw1
    have h1_0 := cv0 h1
    have h1_1 := cv1 h1
    have h1_f0 := free_heap h1 0
    have h1_f1 := free_heap h1 1
    have h1_l := lt_heap h1
    have H1 := Lib.hid h1
    clear h1
    go_wp2_with fail
    go_region
    all_goals go_wp2_with fail
    all_goals
      refine bodyPost_ret (v := .tuple #[.slice none 0 0, .agg #[.int .i64 ((fmFault t).1 : Nat), .int .i64 ((fmFault t).2 : Nat)]]) (by simp [results, Tryd.results14, go_sem, h1_0, h1_1, h1_l]) rfl ?_
      exact ⟨⟨_, rfl, fun _ => rfl, fun h => absurd h HF.out⟩, ((below2 HB.out (by omega)).alloc (by simp only [size_set]; omega) _).drew⟩
  obtain ⟨v, rfl, ov, nv, dv, ev⟩ := fmFault_zero hf
  rw [ev] at hv ⊢
  have hlen := v.frees_len [] ov
  have hnd := v.fm_nodes
  have htx := fun (W : World) (h : ∀ k, S k → W.heap[k]? = w.heap[k]?) (hz : w.heap.size ≤ W.heap.size) => constants_any v.fm [.int .i64 kd, .string nm, .slice A n1 c1, .slice B n2 c2] W S (fmRep.keep ht h (fun _ h => h)) (fun k hk => Nat.lt_of_lt_of_le (hS k hk) hz) (by omega) (by omega)
  clear hkd hnm ht hf ev ov nv dv hlen hnd
  have HV := Lib.hid hv
  have HTX := Lib.hid htx
  have HS := Lib.hid hS
  clear hv htx hS
  go_enter Tryd.func14, Tryd.ntmps14
  go_wp2_with fail
  (with_reducible refine (HV.out _ _).out.mono ?_)
  rintro e w1 ⟨rfl, hw1⟩
  have z1 : w.heap.size + 1 + 1 ≤ w1.heap.size := by have := hw1.size; simpa using this
  have h0 := (hw1.block w.heap.size (by simp; omega)).trans (heap_old (by simp) (heap_at rfl))
  have h1 := (hw1.block (w.heap.size + 1) (by simp)).trans (heap_at (by simp))
  have hB : Below w.heap.size w w1 := (show Below w.heap.size w _ by go_grown).trans (hw1.mono (by simp; omega))
  have htx := fun (o : Obj) => HTX.out (w1.alloc o) (fun k hk => (heap_old (by have := HS.out k hk; omega) rfl).trans (hB.block k (HS.out k hk))) (by have := hB.size; simp; omega)
  clear HTX HV hw1
  have HB := Lib.hid hB
  have HTX := Lib.hid htx
  clear hB htx
  have h0_0 := cv0 h0
  have h0_1 := cv1 h0
  have h0_2 := cv2 h0
  have h0_3 := cv3 h0
  have h0_l := lt_heap h0
  have H0 := Lib.hid h0
  clear h0
  have h1_0 := cv0 h1
  have h1_1 := cv1 h1
  have h1_f0 := free_heap h1 0
  have h1_f1 := free_heap h1 1
  have h1_l := lt_heap h1
  have H1 := Lib.hid h1
  clear h1
  go_wp2_with fail
  (with_reducible refine (HTX.out _).mono ?_)
  rintro e w2 ⟨u, rfl, hrow, hw2⟩
  have z2 : w1.heap.size + 1 ≤ w2.heap.size := by have := hw2.size; simpa using this
  have hB2 : Below w.heap.size w w2 := (HB.out.alloc (by omega) _).trans (hw2.mono (by simp; omega))
  have h1 := (hw2.block (w.heap.size + 1) (by simp; omega)).trans (heap_old (by omega) H1.out)
  have hrow2 := ownsRow_rebase (base' := w.heap.size + 2) hrow (fun k e => by have := (hrow.lt k e).1; simp at this; omega)
  clear h0_0 h0_1 h0_2 h0_3 h0_l h1_0 h1_1 h1_f0 h1_f1 h1_l hw2 hrow
  have HB2 := Lib.hid hB2
  have HROW2 := Lib.hid hrow2
  clear hB2 hrow2
  have h1_0 := cv0 h1
  have h1_1 := cv1 h1
  have h1_f0 := free_heap h1 0
  have h1_f1 := free_heap h1 1
  have h1_l := lt_heap h1
  have H1 := Lib.hid h1
  clear h1
  go_wp2_with fail
  refine bodyPost_ret (v := .tuple #[u, .agg #[.int .i64 0, .int .i64 0]]) (by simp [results, Tryd.results14, go_sem, h1_0, h1_1, h1_l]) rfl ?_
  refine ⟨⟨u, rfl, fun h => absurd rfl h, fun _ => ?_⟩, below2 HB2.out (by omega)⟩
  have h9 := HROW2.out
  refine ownsRow_rebase (base := w.heap.size + 2) (rowGrownF h9 (fun k _ e => ?_)) (fun k e => by have := (h9.lt k e).1; omega)
  have := (h9.lt k e).1
  exact heap_far _ (by simp; omega) (heap_far _ (by simp; omega) rfl)

end Go.Proofs.YtdofemkfmkopcaaDoor
