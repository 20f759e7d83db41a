/-
  term.Print: the walk.
-/
import Derived.Test.YtnoceodmnjhljaaDoorProg
import Derived.Test.YtnoceodmnjhljaaDoorValidTm
import Derived.Test.YtnoceodmnjhljaaDoorWriteTm
namespace Go.Proofs.YtnoceodmnjhljaaDoor
open Go Go.RowKit
set_option linter.unusedSimpArgs false
set_option linter.unusedVariables false

/-- What term.Print returns. -/
def PrintTmAt (t : Tm) (e : Ending) : Prop :=
  ((tmFault t).1 ≠ 0 → e = .returned (.tuple #[.string ⟨#[]⟩, .agg #[.int .i64 ((tmFault t).1 : Nat), .int .i64 (tmFault t).2]])) ∧
  (∀ v : Tv, t = v.tm → (tmFault t).1 = 0 → (4000 < v.text.length → e = .returned (.tuple #[.string ⟨#[]⟩, .agg #[.int .i64 1, .int .i64 0]])) ∧ (v.text.length ≤ 4000 → e = .returned (.tuple #[.string ⟨v.text.toArray⟩, .agg #[.int .i64 0, .int .i64 0]])))

set_option maxRecDepth 100000 in
set_option maxHeartbeats 4000000 in
theorem printTm_any (t : Tm) (cs : List Value) (w : World) (S : Nat → Prop) (ht : tmRep.R w S t cs) (hS : ∀ b, S b → b < w.heap.size) :
    Calls Tryd.prog 10 #[.agg cs.toArray] w fun e w' => PrintTmAt t e ∧ Below w.heap.size w w' := by
  obtain ⟨s1, A1, n1, c1, B1, m1, d1, rfl, _, _⟩ := Tm.shape ht
  have HT := Lib.hid ht
  have HS := Lib.hid hS
  clear ht hS
  have hold : ∀ (o p : Obj) k, S k → ((w.alloc o).alloc p).heap[k]? = w.heap[k]? := fun o p k hk => by
    have := HS.out k hk
    exact heap_old (by simp; omega) (heap_old this rfl)
  have hv := fun (o p : Obj) => Lib.hid (validateTm_any t [.int .i64 t.lab.kind, .string t.lab.nm, .int .i64 t.lab.ix, .string s1, .slice A1 n1 c1, .slice B1 m1 d1] ((w.alloc o).alloc p) S (tmRep.keep HT.out (hold o p) (fun _ h => h)) (fun k hk => by have := HS.out k hk; simp; omega))
  by_cases hf : (tmFault t).1 = 0
  case neg =>
    have hf' : (((tmFault t).1 : Int) != 0) = true := bne_iff_ne.2 (by omega)
    unfold PrintTmAt
    have HV := Lib.hid hv
    have HOLD := Lib.hid hold
    have HF := Lib.hid hf
    clear hv hold hf
    go_enter Tryd.func10, Tryd.ntmps10
    go_wp2_with fail
    (with_reducible refine (HV.out _ _).out.mono ?_)
    rintro e w1 ⟨rfl, hw1⟩
    have z1 : w.heap.size + 2 ≤ w1.heap.size := by have := hw1.size; simpa using this
    have h1 := (hw1.block (w.heap.size + 1) (by simp)).trans (heap_at (by simp))
    have hB : Below w.heap.size w w1 := (show Below w.heap.size w _ by go_grown).trans (hw1.mono (by simp; omega))
    have HB := Lib.hid hB
    have HW1 := Lib.hid hw1
    clear hB hw1
    have h1_0 := cv0 h1
    have h1_1 := cv1 h1
    have h1_f0 := free_heap h1 0
    have h1_f1 := free_heap h1 1
    have h1_l := lt_heap h1
    have H1 := Lib.hid h1
    clear h1
    go_wp2_with fail
    go_region
    all_goals go_wp2_with fail
    all_goals
      refine bodyPost_ret (v := .tuple #[.string ⟨#[]⟩, .agg #[.int .i64 (tmFault t).1, .int .i64 (tmFault t).2]]) (by simp [results, Tryd.results10, go_sem, h1_0, h1_1, h1_l]) rfl ?_
      exact ⟨⟨fun _ => rfl, fun v _ h => absurd h HF.out⟩, ((below2 HB.out (by omega)).alloc (by simp only [size_set]; omega) _).drew⟩
  obtain ⟨v, s, rfl, ov, nv, dv, tv, ev⟩ := tmFault_zero hf
  rw [ev] at hv
  obtain ⟨x, ex, zx⟩ := v.string
  have hsm := v.small 0 ov (by omega)
  have hlen := v.text_len hsm
  have hfin : ∀ e : Ending, (4000 < v.text.length → e = .returned (.tuple #[.string ⟨#[]⟩, .agg #[.int .i64 1, .int .i64 0]])) → (v.text.length ≤ 4000 → e = .returned (.tuple #[.string x, .agg #[.int .i64 0, .int .i64 0]])) → PrintTmAt v.tm e := fun e h1 h2 => by
    refine ⟨fun h => absurd hf h, fun u hu _ => ?_⟩
    obtain rfl := Tv.tm_inj _ _ hu
    rw [ex]
    exact ⟨h1, h2⟩
  clear hf ev tv zx hsm
  have HV := Lib.hid hv
  have HOLD := Lib.hid hold
  have HFIN := Lib.hid hfin
  have OV := Lib.hid ov
  have NV := Lib.hid nv
  have DV := Lib.hid dv
  have EX := Lib.hid ex
  clear hv hold hfin ov nv dv ex
  go_enter Tryd.func10, Tryd.ntmps10
  go_wp2_with fail
  (with_reducible refine (HV.out _ _).out.mono ?_)
  rintro e w1 ⟨rfl, hw1⟩
  have z1 : w.heap.size + 2 ≤ w1.heap.size := by have := hw1.size; simpa using this
  have h0 := (hw1.block w.heap.size (by simp; omega)).trans (heap_old (by simp) (heap_at rfl))
  have h1 := (hw1.block (w.heap.size + 1) (by simp)).trans (heap_at (by simp))
  have hB : Below w.heap.size w w1 := (show Below w.heap.size w _ by go_grown).trans (hw1.mono (by simp; omega))
  have hlen2 : v.text.length ≤ 140737488355328 := by have := NV.out; omega
  have hwr := Lib.hid (writeTm_any v 0 [.int .i64 v.tm.lab.kind, .string v.tm.lab.nm, .int .i64 v.tm.lab.ix, .string s1, .slice A1 n1 c1, .slice B1 m1 d1] ((w1.alloc (.cells #[.int .i64 0, .int .i64 0] 29)).alloc (.cells #[.pointer none, .slice none 0 0] 61)) S (w1.heap.size + 1) (w1.heap.size + 1) [] OV.out (by have := DV.out; omega) (tmRep.keep HT.out (fun k hk => by have := HS.out k hk; exact (heap_old (by simp; omega) (heap_old (by omega) rfl)).trans (hB.block k this)) (fun _ h => h)) (fun k hk => by have := HS.out k hk; omega) (by have := Bld.new (w1.alloc (.cells #[.int .i64 0, .int .i64 0] 29)); simpa using this) (by simpa using hlen2))
  have HB := Lib.hid hB
  have HW1 := Lib.hid hw1
  have HWR := Lib.hid hwr
  clear hB hw1 hwr
  have h0_0 := cv0 h0
  have h0_1 := cv1 h0
  have h0_2 := cv2 h0
  have h0_3 := cv3 h0
  have h0_4 := cv4 h0
  have h0_5 := cv5 h0
  have h0_l := lt_heap h0
  have H0 := Lib.hid h0
  clear h0
  have h1_0 := cv0 h1
  have h1_1 := cv1 h1
  have h1_f0 := free_heap h1 0
  have h1_f1 := free_heap h1 1
  have h1_l := lt_heap h1
  have H1 := Lib.hid h1
  clear h1
  go_wp2_with fail
  (with_reducible refine HWR.out.out.mono ?_)
  rintro e w2 ⟨rfl, hb2, hk2⟩
  have hb2 : Bld (w1.heap.size + 1) (w1.heap.size + 1) v.text w2 := by simpa using hb2
  have z2 : w1.heap.size + 2 ≤ w2.heap.size := by have := hk2.size; simpa using this
  have hbw : Below w1.heap.size w1 w2 := (show Below w1.heap.size w1 ((w1.alloc (.cells #[.int .i64 0, .int .i64 0] 29)).alloc (.cells #[.pointer none, .slice none 0 0] 61)) by go_grown).trans ((hk2.below (Nat.le_refl _) (by simp)).mono (by omega))
  have hB2 : Below w.heap.size w w2 := HB.out.trans (hbw.mono (by omega))
  have h1 := (hbw.block _ h1_l).trans H1.out
  have hln := Tryd.Builder_Len (w1.heap.size + 1) (w1.heap.size + 1) (Lib.byteCells v.text) w2 hb2.is
  rw [Lib.byteCells_length] at hln
  have hst := Tryd.Builder_String_any (w1.heap.size + 1) (w1.heap.size + 1) v.text w2 hb2.is (by omega)
  rw [EX.out] at hst
  clear h0_0 h0_1 h0_2 h0_3 h0_4 h0_5 h0_l h1_0 h1_1 h1_f0 h1_f1 h1_l hk2 hbw hb2
  have HB2 := Lib.hid hB2
  have HLN := Lib.hid hln
  have HST := Lib.hid hst
  clear hB2 hln hst
  have h1_0 := cv0 h1
  have h1_1 := cv1 h1
  have h1_f0 := free_heap h1 0
  have h1_f1 := free_heap h1 1
  have h1_l := lt_heap h1
  have H1 := Lib.hid h1
  clear h1
  by_cases hbig : 4000 < v.text.length
  · have q1 : (4000 : Int) < (v.text.length : Int) := by omega
    go_wp2_with fail
    (with_reducible refine HLN.out.mono ?_)
    rintro e w3 ⟨rfl, rfl⟩
    go_wp2_with fail
    refine bodyPost_ret (v := .tuple #[.string ⟨#[]⟩, .agg #[.int .i64 1, .int .i64 0]]) (by simp [results, Tryd.results10, go_sem, h1_0, h1_1, h1_l]) rfl ?_
    exact ⟨HFIN.out _ (fun _ => rfl) (fun h => absurd h (by omega)), below2 HB2.out (by omega)⟩
  · have q1 : ¬ (4000 : Int) < (v.text.length : Int) := by omega
    go_wp2_with fail
    (with_reducible refine HLN.out.mono ?_)
    rintro e w3 ⟨rfl, rfl⟩
    go_wp2_with fail
    (with_reducible refine HST.out.mono ?_)
    rintro e w4 ⟨rfl, hw4⟩
    have z4 := hw4.size
    have h1 := (hw4.block (w.heap.size + 1) (by omega)).trans H1.out
    have hB4 := HB2.out.trans (hw4.mono (by omega))
    clear h1_0 h1_1 h1_f0 h1_f1 h1_l hw4
    have HB4 := Lib.hid hB4
    clear hB4
    have h1_0 := cv0 h1
    have h1_1 := cv1 h1
    have h1_f0 := free_heap h1 0
    have h1_f1 := free_heap h1 1
    have h1_l := lt_heap h1
    have H1 := Lib.hid h1
    clear h1
    go_wp2_with fail
    refine bodyPost_ret (v := .tuple #[.string x, .agg #[.int .i64 0, .int .i64 0]]) (by simp [results, Tryd.results10, go_sem, h1_0, h1_1, h1_l]) rfl ?_
    exact ⟨HFIN.out _ (fun h => absurd h hbig) (fun _ => rfl), below2 HB4.out (by omega)⟩

end Go.Proofs.YtnoceodmnjhljaaDoor
