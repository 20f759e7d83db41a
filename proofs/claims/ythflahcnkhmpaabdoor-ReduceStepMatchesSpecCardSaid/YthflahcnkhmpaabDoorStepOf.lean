/-
  reduce.Step: the walk.
-/
import Derived.Test.YthflahcnkhmpaabDoorProg
import Derived.Test.YthflahcnkhmpaabDoorSteps
import Derived.Test.YthflahcnkhmpaabDoorApply
namespace Go.Proofs.YthflahcnkhmpaabDoor
open Go Go.RowKit
set_option linter.unusedSimpArgs false
set_option linter.unusedVariables false

/-- What Step returns. -/
def StepOfAt (t : Tm) (w : World) (e : Ending) (w' : World) : Prop :=
  ((tmFault t).1 ≠ 0 → e = .returned (.tuple #[.agg zTm, .bool false, .agg #[.int .i64 ((tmFault t).1 : Nat), .int .i64 (tmFault t).2]])) ∧
  (∀ v : Tv, t = v.tm → (tmFault t).1 = 0 → (2000 < (v.step.getD v).nodes ∧ e = .returned (.tuple #[.agg zTm, .bool false, .agg #[.int .i64 17, .int .i64 (-1)]])) ∨
    ((v.step.getD v).nodes ≤ 2000 ∧ ∃ ds : List Value, e = .returned (.tuple #[.agg ds.toArray, .bool v.step.isSome, .agg #[.int .i64 0, .int .i64 0]]) ∧ tmRep.R w' (Fresh w w') (v.step.getD v).tm ds)) ∧ Below w.heap.size w w'

set_option maxRecDepth 100000 in
set_option maxHeartbeats 4000000 in
theorem stepOf_any (t : Tm) (cs : List Value) (w : World) (S : Nat → Prop) (ht : tmRep.R w S t cs) (hS : ∀ b, S b → b < w.heap.size) :
    Calls Tryd.prog 12 #[.agg cs.toArray] w (StepOfAt t w) := by
  obtain ⟨s1, A1, n1, c1, B1, m1, d1, rfl, _, _⟩ := Tm.shape ht
  have HT := Lib.hid ht
  have HS := Lib.hid hS
  clear ht hS
  have hold : ∀ (o p q : Obj) k, S k → (((w.alloc o).alloc p).alloc q).heap[k]? = w.heap[k]? := fun o p q k hk => by
    have := HS.out k hk
    exact heap_old (by simp; omega) (heap_old (by simp; omega) (heap_old this rfl))
  have hv := fun (o p q : Obj) => Lib.hid (validateTm_any t [.int .i64 t.lab.kind, .string t.lab.nm, .int .i64 t.lab.ix, .string s1, .slice A1 n1 c1, .slice B1 m1 d1] (((w.alloc o).alloc p).alloc q) S (tmRep.keep HT.out (hold o p q) (fun _ h => h)) (fun k hk => by have := HS.out k hk; simp; omega))
  have HV := Lib.hid hv
  have HOLD := Lib.hid hold
  clear hv hold
  go_enter Tryd.func12, Tryd.ntmps12
  go_wp2_with fail
  (with_reducible refine (HV.out _ _ _).out.mono ?_)
  rintro e w1 ⟨rfl, hw1⟩
  have z1 : w.heap.size + 3 ≤ w1.heap.size := by have := hw1.size; simpa using this
  have p0 := (hw1.block w.heap.size (by simp; omega)).trans (heap_old (by simp <;> omega) (heap_old (by simp) (heap_at rfl)))
  have p1 := (hw1.block (w.heap.size + 1) (by simp <;> omega)).trans (heap_old (by simp) (heap_at (by simp)))
  have p2 := (hw1.block (w.heap.size + 1 + 1) (by simp)).trans (heap_at (by simp))
  have hB : Below w.heap.size w w1 := ((((Below.refl _ w).alloc (Nat.le_refl _) _).alloc (by simp) _).alloc (by simp <;> omega) _).trans (hw1.mono (by simp; omega))
  have HB := Lib.hid hB
  have HW1 := Lib.hid hw1
  clear hB hw1
  have p0_0 := cv0 p0
  have p0_1 := cv1 p0
  have p0_2 := cv2 p0
  have p0_3 := cv3 p0
  have p0_4 := cv4 p0
  have p0_5 := cv5 p0
  have p0_l := lt_heap p0
  have P0 := Lib.hid p0
  clear p0
  have p1_0 := cv0 p1
  have p1_1 := cv1 p1
  have p1_2 := cv2 p1
  have p1_3 := cv3 p1
  have p1_4 := cv4 p1
  have p1_5 := cv5 p1
  have p1_f0 := free_heap p1 0
  have p1_f1 := free_heap p1 1
  have p1_f2 := free_heap p1 2
  have p1_f3 := free_heap p1 3
  have p1_f4 := free_heap p1 4
  have p1_f5 := free_heap p1 5
  have p1_l := lt_heap p1
  have P1 := Lib.hid p1
  clear p1
  have p2_0 := cv0 p2
  have p2_1 := cv1 p2
  have p2_f0 := free_heap p2 0
  have p2_f1 := free_heap p2 1
  have p2_l := lt_heap p2
  have P2 := Lib.hid p2
  clear p2
  by_cases hz : (tmFault t).1 = 0
  case neg =>
    have t1 : (((tmFault t).1 : Int) != 0) = true := bne_iff_ne.2 (by omega)
    have HZ := Lib.hid hz
    clear hz
    go_wp2_with fail
    go_region
    all_goals
      refine gen_last (fun wx => Below w.heap.size w wx ∧ wx.heap[w.heap.size + 1]? = some (.cells zTm 27 (0, 0)) ∧ wx.heap[w.heap.size + 1 + 1]? = some (.cells #[.int .i64 (tmFault t).1, .int .i64 (tmFault t).2] 29 (0, 0))) ?_ ?_
      · refine ⟨?_, ?_, ?_⟩
        · exact (((below2 (below6 HB.out (by omega)) (by omega)).alloc (le2 (le6 (by omega))) _).drew)
        · exact heap_drew (heap_old (lt2 (lt6 (by omega))) (far2 (by omega) (at6 P1.out)))
        · exact heap_drew (heap_old (lt2 (lt6 (by omega))) (at2 (far6 (by omega) P2.out)))
      rintro wx ⟨hb, k2, k3⟩
      have hfin : StepOfAt t w (.returned (.tuple #[.agg zTm, .bool false, .agg #[.int .i64 (tmFault t).1, .int .i64 (tmFault t).2]])) wx := ⟨fun _ => rfl, fun _ _ h => absurd h HZ.out, hb⟩
      clear p0_0 p0_1 p0_2 p0_3 p0_4 p0_5 p1_0 p1_1 p1_2 p1_3 p1_4 p1_5 p1_f0 p1_f1 p1_f2 p1_f3 p1_f4 p1_f5 p2_0 p2_1 p2_f0 p2_f1 t1
      unfold zTm at k2
      have HFIN := Lib.hid hfin
      have HB := Lib.hid hb
      clear hfin hb
      have k2_0 := cv0 k2
      have k2_1 := cv1 k2
      have k2_2 := cv2 k2
      have k2_3 := cv3 k2
      have k2_4 := cv4 k2
      have k2_5 := cv5 k2
      have k2_l := lt_heap k2
      have K2 := Lib.hid k2
      clear k2
      have k3_0 := cv0 k3
      have k3_1 := cv1 k3
      have k3_l := lt_heap k3
      have K3 := Lib.hid k3
      clear k3
      go_wp2_with fail
      refine bodyPost_ret (v := .tuple #[.agg #[.int .i64 0, .string ⟨#[]⟩, .int .i64 0, .string ⟨#[]⟩, .slice none 0 0, .slice none 0 0], .bool false, .agg #[.int .i64 (tmFault t).1, .int .i64 (tmFault t).2]]) (by simp [results, Tryd.results12, go_sem, k2_0, k2_1, k2_2, k2_3, k2_4, k2_5, k3_0, k3_1, k2_l, k3_l]) rfl ?_
      exact HFIN.out
  obtain ⟨v, s, rfl, ov, nv, dv, tv, ev⟩ := tmFault_zero hz
  have t1 : (((tmFault v.tm).1 : Int) != 0) = false := by rw [hz]; rfl
  have hstep := fun (o : Obj) => Lib.hid (step_any v.nodes v 0 [.int .i64 v.tm.lab.kind, .string v.tm.lab.nm, .int .i64 v.tm.lab.ix, .string s1, .slice A1 n1 c1, .slice B1 m1 d1] (w1.alloc o) S (Nat.le_refl _) ov (by omega) (tmRep.keep HT.out (fun k hk => by have := HS.out k hk; exact (heap_old (by omega) rfl).trans (HB.out.block k this)) (fun _ h => h)) (fun k hk => by have := HS.out k hk; simp; omega))
  have hnn : (v.step.getD v).nodes ≤ 4000000 := by
    cases hs : v.step with
    | none => simp; omega
    | some u => exact Tv.step_small hs (by omega)
  have HZ := Lib.hid hz
  clear hz ov nv dv tv ev
  have HSTEP := Lib.hid hstep
  clear hstep
  go_wp2_with fail
  (with_reducible refine (HSTEP.out _).out.mono ?_)
  unfold StepAt
  rintro e w2 ⟨ds, rfl, hu, hw2⟩
  generalize hU : v.step.getD v = u at *
  generalize hOK : v.step.isSome = ok at *
  have HUU := Lib.hid hU
  have HOO := Lib.hid hOK
  clear hU hOK
  obtain ⟨s2, A2, n2, c2, B2, m2, d2, rfl, _, _⟩ := Tm.shape hu
  have z2 : w1.heap.size + 1 ≤ w2.heap.size := by have := hw2.size; simpa using this
  have p1 := (hw2.block (w.heap.size + 1) (by simp; omega)).trans (heap_old p1_l P1.out)
  have p2 := (hw2.block (w.heap.size + 1 + 1) (by simp; omega)).trans (heap_old p2_l P2.out)
  have hB2 := (HB.out.alloc (by omega) (.cells #[.int .i64 (tmFault v.tm).1, .int .i64 (tmFault v.tm).2] 29)).trans (hw2.mono (by simp; omega))
  have hu' : tmRep.R w2 (Lo w2) u.tm [.int .i64 u.tm.lab.kind, .string u.tm.lab.nm, .int .i64 u.tm.lab.ix, .string s2, .slice A2 n2 c2, .slice B2 m2 d2] := tmRep.keep hu (fun _ _ => rfl) (fun k hk => by
    rcases hk with hk | hk
    · have := HS.out k hk; exact (show k < w2.heap.size by omega)
    · exact hk.2)
  have hbig := fun (o : Obj) => Lib.hid (big_any u.tm [.int .i64 u.tm.lab.kind, .string u.tm.lab.nm, .int .i64 u.tm.lab.ix, .string s2, .slice A2 n2 c2, .slice B2 m2 d2] (w2.alloc o) (Lo w2) (tmRep.keep hu' (fun k hk => heap_old hk rfl) (fun _ h => h)) (fun k hk => by have h' : k < w2.heap.size := hk; simp; omega) (by rw [Tv.tm_nodes]; omega))
  have HTM : Hid (u.tm.nodes = u.nodes) := Lib.hid u.tm_nodes
  clear p0_0 p0_1 p0_2 p0_3 p0_4 p0_5 p0_l p1_0 p1_1 p1_2 p1_3 p1_4 p1_5 p1_f0 p1_f1 p1_f2 p1_f3 p1_f4 p1_f5 p1_l p2_0 p2_1 p2_f0 p2_f1 p2_l t1
  have HB2 := Lib.hid hB2
  have HW2 := Lib.hid hw2
  have HU := Lib.hid hu
  have HUP := Lib.hid hu'
  have HBIG := Lib.hid hbig
  clear hB2 hw2 hu hu' hbig
  have p1_0 := cv0 p1
  have p1_1 := cv1 p1
  have p1_2 := cv2 p1
  have p1_3 := cv3 p1
  have p1_4 := cv4 p1
  have p1_5 := cv5 p1
  have p1_f0 := free_heap p1 0
  have p1_f1 := free_heap p1 1
  have p1_f2 := free_heap p1 2
  have p1_f3 := free_heap p1 3
  have p1_f4 := free_heap p1 4
  have p1_f5 := free_heap p1 5
  have p1_l := lt_heap p1
  have P1 := Lib.hid p1
  clear p1
  have p2_0 := cv0 p2
  have p2_1 := cv1 p2
  have p2_f0 := free_heap p2 0
  have p2_f1 := free_heap p2 1
  have p2_l := lt_heap p2
  have P2 := Lib.hid p2
  clear p2
  go_wp2_with fail
  (with_reducible refine (HBIG.out _).out.mono ?_)
  rw [HTM.out]
  rintro e w3 ⟨rfl, hw3⟩
  have z3 : w2.heap.size + 1 ≤ w3.heap.size := by have := hw3.size; simpa using this
  have p1 := (hw3.block (w.heap.size + 1) (by simp; omega)).trans (heap_old p1_l P1.out)
  have p2 := (hw3.block (w.heap.size + 1 + 1) (by simp; omega)).trans (heap_old p2_l P2.out)
  have q6 := (hw3.block w2.heap.size (by simp)).trans (heap_at rfl)
  have hB3 := (HB2.out.alloc (by omega) (.cells #[.int .i64 u.tm.lab.kind, .string u.tm.lab.nm, .int .i64 u.tm.lab.ix, .string s2, .slice A2 n2 c2, .slice B2 m2 d2] 27)).trans (hw3.mono (by simp; omega))
  have hu3 : tmRep.R w3 (Lo w2) u.tm [.int .i64 u.tm.lab.kind, .string u.tm.lab.nm, .int .i64 u.tm.lab.ix, .string s2, .slice A2 n2 c2, .slice B2 m2 d2] := tmRep.keep HUP.out (fun k hk => by have h' : k < w2.heap.size := hk; exact (hw3.block k (by simp; omega)).trans (heap_old h' rfl)) (fun _ h => h)
  clear p1_0 p1_1 p1_2 p1_3 p1_4 p1_5 p1_f0 p1_f1 p1_f2 p1_f3 p1_f4 p1_f5 p1_l p2_0 p2_1 p2_f0 p2_f1 p2_l
  have HB3 := Lib.hid hB3
  have HW3 := Lib.hid hw3
  have HU3 := Lib.hid hu3
  clear hB3 hw3 hu3
  have p1_0 := cv0 p1
  have p1_1 := cv1 p1
  have p1_2 := cv2 p1
  have p1_3 := cv3 p1
  have p1_4 := cv4 p1
  have p1_5 := cv5 p1
  have p1_f0 := free_heap p1 0
  have p1_f1 := free_heap p1 1
  have p1_f2 := free_heap p1 2
  have p1_f3 := free_heap p1 3
  have p1_f4 := free_heap p1 4
  have p1_f5 := free_heap p1 5
  have p1_l := lt_heap p1
  have P1 := Lib.hid p1
  clear p1
  have p2_0 := cv0 p2
  have p2_1 := cv1 p2
  have p2_f0 := free_heap p2 0
  have p2_f1 := free_heap p2 1
  have p2_l := lt_heap p2
  have P2 := Lib.hid p2
  clear p2
  have q6_0 := cv0 q6
  have q6_1 := cv1 q6
  have q6_2 := cv2 q6
  have q6_3 := cv3 q6
  have q6_4 := cv4 q6
  have q6_5 := cv5 q6
  have q6_l := lt_heap q6
  have Q6 := Lib.hid q6
  clear q6
  by_cases hg : 2000 < u.nodes
  · rw [decide_eq_true hg]
    have HG := Lib.hid hg
    clear hg
    go_upto_region 6 with (fail)
    go_cut [3] (fun s3 wx => s3 = .bool false ∧ Below w.heap.size w wx ∧ wx.heap[w.heap.size + 1]? = some (.cells zTm 27 (0, 0)) ∧ wx.heap[w.heap.size + 1 + 1]? = some (.cells #[.int .i64 17, .int .i64 (-1)] 29 (0, 0)))
    case first =>
      go_wp2_with fail
      go_meet
      refine ⟨rfl, ?_, ?_, ?_⟩
      · exact below2 (below6 HB3.out (by omega)) (by omega)
      · exact far2 (by omega) (at6 P1.out)
      · exact at2 (far6 (by omega) P2.out)
    case rest =>
      obtain ⟨rfl, hb, k2, k3⟩ := hcut
      rename World => wx
      have hfin : StepOfAt v.tm w (.returned (.tuple #[.agg zTm, .bool false, .agg #[.int .i64 17, .int .i64 (-1)]])) wx := by
        refine ⟨fun h => absurd HZ.out h, fun v' e1 _ => ?_, hb⟩
        obtain rfl := Tv.tm_inj _ _ e1
        exact Or.inl ⟨by rw [HUU.out]; exact HG.out, rfl⟩
      clear p1_0 p1_1 p1_2 p1_3 p1_4 p1_5 p1_f0 p1_f1 p1_f2 p1_f3 p1_f4 p1_f5 p2_0 p2_1 p2_f0 p2_f1 q6_0 q6_1 q6_2 q6_3 q6_4 q6_5
      unfold zTm at k2
      have HFIN := Lib.hid hfin
      have HB := Lib.hid hb
      clear hfin hb
      have k2_0 := cv0 k2
      have k2_1 := cv1 k2
      have k2_2 := cv2 k2
      have k2_3 := cv3 k2
      have k2_4 := cv4 k2
      have k2_5 := cv5 k2
      have k2_l := lt_heap k2
      have K2 := Lib.hid k2
      clear k2
      have k3_0 := cv0 k3
      have k3_1 := cv1 k3
      have k3_l := lt_heap k3
      have K3 := Lib.hid k3
      clear k3
      go_wp2_with fail
      refine bodyPost_ret (v := .tuple #[.agg #[.int .i64 0, .string ⟨#[]⟩, .int .i64 0, .string ⟨#[]⟩, .slice none 0 0, .slice none 0 0], .bool false, .agg #[.int .i64 17, .int .i64 (-1)]]) (by simp [results, Tryd.results12, go_sem, k2_0, k2_1, k2_2, k2_3, k2_4, k2_5, k3_0, k3_1, k2_l, k3_l]) rfl ?_
      exact HFIN.out
  · rw [decide_eq_false hg]
    have HG := Lib.hid hg
    clear hg
    have hcl := Lib.hid (cloneTm_any _ u [.int .i64 u.tm.lab.kind, .string u.tm.lab.nm, .int .i64 u.tm.lab.ix, .string s2, .slice A2 n2 c2, .slice B2 m2 d2] w3 (Lo w2) (Nat.le_refl _) HU3.out (fun k hk => by have h' : k < w2.heap.size := hk; omega))
    have HCL := Lib.hid hcl
    clear hcl
    go_upto_region 7 with (fail)
    go_cut [3] (fun s3 wx => s3 = .bool ok ∧ ∃ es : List Value, tmRep.R wx (Fresh w wx) u.tm es ∧ wx.heap[w.heap.size + 1]? = some (.cells es.toArray 27 (0, 0)) ∧ wx.heap[w.heap.size + 1 + 1]? = some (.cells #[.int .i64 0, .int .i64 0] 29 (0, 0)) ∧ Below w.heap.size w wx)
    case first =>
      go_wp2_with fail
      (with_reducible refine HCL.out.out.mono ?_)
      rintro e w5 ⟨es, rfl, hu5, hw5⟩
      obtain ⟨s5, A5, n5, c5, B5, m5, d5, rfl, _, _⟩ := Tm.shape hu5
      have z5 : w3.heap.size ≤ w5.heap.size := hw5.size
      have p1 := (hw5.block (w.heap.size + 1) (by omega)).trans P1.out
      have p2 := (hw5.block (w.heap.size + 1 + 1) (by omega)).trans P2.out
      clear p1_0 p1_1 p1_2 p1_3 p1_4 p1_5 p1_f0 p1_f1 p1_f2 p1_f3 p1_f4 p1_f5 p2_0 p2_1 p2_f0 p2_f1 p1_l p2_l q6_0 q6_1 q6_2 q6_3 q6_4 q6_5
      have hB5 : Below w.heap.size w w5 := HB3.out.trans (hw5.mono (by omega))
      have HU5 := Lib.hid hu5
      have HW5 := Lib.hid hw5
      have HB5 := Lib.hid hB5
      clear hu5 hw5 hB5
      have p1_0 := cv0 p1
      have p1_1 := cv1 p1
      have p1_2 := cv2 p1
      have p1_3 := cv3 p1
      have p1_4 := cv4 p1
      have p1_5 := cv5 p1
      have p1_f0 := free_heap p1 0
      have p1_f1 := free_heap p1 1
      have p1_f2 := free_heap p1 2
      have p1_f3 := free_heap p1 3
      have p1_f4 := free_heap p1 4
      have p1_f5 := free_heap p1 5
      have p1_l := lt_heap p1
      have P1 := Lib.hid p1
      clear p1
      have p2_0 := cv0 p2
      have p2_1 := cv1 p2
      have p2_f0 := free_heap p2 0
      have p2_f1 := free_heap p2 1
      have p2_l := lt_heap p2
      have P2 := Lib.hid p2
      clear p2
      go_wp2_with fail
      go_meet
      refine ⟨rfl, [.int .i64 u.tm.lab.kind, .string u.tm.lab.nm, .int .i64 u.tm.lab.ix, .string s5, .slice A5 n5 c5, .slice B5 m5 d5], ?_, far2 (by omega) (at6 P1.out), at2 (far6 (by omega) P2.out), below2 (below6 HB5.out (by omega)) (by omega)⟩
      exact tmRep.keep HU5.out (fun k hk => far2 (by have := hk.1; omega) (far6 (by have := hk.1; omega) rfl)) (fun k hk => ⟨by have := hk.1; omega, lt2 (lt6 hk.2)⟩)
    case rest =>
      obtain ⟨rfl, es, hu5, k2, k3, hb⟩ := hcut
      rename World => wx
      obtain ⟨s5, A5, n5, c5, B5, m5, d5, rfl, _, _⟩ := Tm.shape hu5
      have hfin : StepOfAt v.tm w (.returned (.tuple #[.agg ([.int .i64 u.tm.lab.kind, .string u.tm.lab.nm, .int .i64 u.tm.lab.ix, .string s5, .slice A5 n5 c5, .slice B5 m5 d5]).toArray, .bool ok, .agg #[.int .i64 0, .int .i64 0]])) wx := by
        refine ⟨fun h => absurd HZ.out h, fun v' e1 _ => ?_, hb⟩
        obtain rfl := Tv.tm_inj _ _ e1
        rw [HUU.out, HOO.out]
        exact Or.inr ⟨Nat.le_of_not_lt HG.out, _, rfl, hu5⟩
      clear p1_0 p1_1 p1_2 p1_3 p1_4 p1_5 p1_f0 p1_f1 p1_f2 p1_f3 p1_f4 p1_f5 p2_0 p2_1 p2_f0 p2_f1 q6_0 q6_1 q6_2 q6_3 q6_4 q6_5
      have HFIN := Lib.hid hfin
      have HB := Lib.hid hb
      have HU5 := Lib.hid hu5
      clear hfin hb hu5
      have k2_0 := cv0 k2
      have k2_1 := cv1 k2
      have k2_2 := cv2 k2
      have k2_3 := cv3 k2
      have k2_4 := cv4 k2
      have k2_5 := cv5 k2
      have k2_l := lt_heap k2
      have K2 := Lib.hid k2
      clear k2
      have k3_0 := cv0 k3
      have k3_1 := cv1 k3
      have k3_l := lt_heap k3
      have K3 := Lib.hid k3
      clear k3
      go_wp2_with fail
      refine bodyPost_ret (v := .tuple #[.agg #[.int .i64 u.tm.lab.kind, .string u.tm.lab.nm, .int .i64 u.tm.lab.ix, .string s5, .slice A5 n5 c5, .slice B5 m5 d5], .bool ok, .agg #[.int .i64 0, .int .i64 0]]) (by simp [results, Tryd.results12, go_sem, k2_0, k2_1, k2_2, k2_3, k2_4, k2_5, k3_0, k3_1, k2_l, k3_l]) rfl ?_
      exact HFIN.out

end Go.Proofs.YthflahcnkhmpaabDoor
