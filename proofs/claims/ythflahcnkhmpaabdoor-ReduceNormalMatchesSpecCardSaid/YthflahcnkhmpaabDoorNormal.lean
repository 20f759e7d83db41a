/-
  reduce.Normal: the walk.
-/
import Derived.Test.YthflahcnkhmpaabDoorProg
import Derived.Test.YthflahcnkhmpaabDoorSteps
import Derived.Test.YthflahcnkhmpaabDoorApply
namespace Go.Proofs.YthflahcnkhmpaabDoor
open Go Go.RowKit
set_option linter.unusedSimpArgs false
set_option linter.unusedVariables false

/-- What a function returns that brings a valid term into a form: the term's fault, a limit, or the new term. -/
def FormAt (r : Tv → Option Tv) (t : Tm) (w : World) (e : Ending) (w' : World) : Prop :=
  ((tmFault t).1 ≠ 0 → e = .returned (.tuple #[.agg zTm, .agg #[.int .i64 ((tmFault t).1 : Nat), .int .i64 (tmFault t).2]])) ∧
  (∀ v : Tv, t = v.tm → (tmFault t).1 = 0 → (r v = none ∧ e = .returned (.tuple #[.agg zTm, .agg #[.int .i64 17, .int .i64 (-1)]])) ∨
    (∃ (u : Tv) (ds : List Value), r v = some u ∧ e = .returned (.tuple #[.agg ds.toArray, .agg #[.int .i64 0, .int .i64 0]]) ∧ tmRep.R w' (Fresh w w') u.tm ds)) ∧ Below w.heap.size w w'

set_option maxRecDepth 100000 in
set_option maxHeartbeats 4000000 in
theorem normal_any (t : Tm) (cs : List Value) (w : World) (S : Nat → Prop) (ht : tmRep.R w S t cs) (hS : ∀ b, S b → b < w.heap.size) :
    Calls Tryd.prog 18 #[.agg cs.toArray] w (FormAt (Tv.steps 2001) t w) := by
  obtain ⟨s1, A1, n1, c1, B1, m1, d1, rfl, _, _⟩ := Tm.shape ht
  have HT := Lib.hid ht
  have HS := Lib.hid hS
  clear ht hS
  have hold : ∀ (o p q : Obj) k, S k → (((w.alloc o).alloc p).alloc q).heap[k]? = w.heap[k]? := fun o p q k hk => by
    have := HS.out k hk
    exact heap_old (by simp; omega) (heap_old (by simp; omega) (heap_old this rfl))
  have hv := fun (o p q : Obj) => Lib.hid (validateTm_any t [.int .i64 t.lab.kind, .string t.lab.nm, .int .i64 t.lab.ix, .string s1, .slice A1 n1 c1, .slice B1 m1 d1] (((w.alloc o).alloc p).alloc q) S (tmRep.keep HT.out (hold o p q) (fun _ h => h)) (fun k hk => by have := HS.out k hk; simp; omega))
  have HV := Lib.hid hv
  have HOLD := Lib.hid hold
  clear hv hold
  go_enter Tryd.func18, Tryd.ntmps18
  go_wp2_with fail
  (with_reducible refine (HV.out _ _ _).out.mono ?_)
  rintro e w1 ⟨rfl, hw1⟩
  have z1 : w.heap.size + 3 ≤ w1.heap.size := by have := hw1.size; simpa using this
  have p0 := (hw1.block w.heap.size (by simp; omega)).trans (heap_old (by simp <;> omega) (heap_old (by simp) (heap_at rfl)))
  have p1 := (hw1.block (w.heap.size + 1) (by simp <;> omega)).trans (heap_old (by simp) (heap_at (by simp)))
  have p2 := (hw1.block (w.heap.size + 1 + 1) (by simp)).trans (heap_at (by simp))
  have hB : Below w.heap.size w w1 := ((((Below.refl _ w).alloc (Nat.le_refl _) _).alloc (by simp) _).alloc (by simp <;> omega) _).trans (hw1.mono (by simp; omega))
  have HB := Lib.hid hB
  have HW1 := Lib.hid hw1
  clear hB hw1
  have p0_0 := cv0 p0
  have p0_1 := cv1 p0
  have p0_2 := cv2 p0
  have p0_3 := cv3 p0
  have p0_4 := cv4 p0
  have p0_5 := cv5 p0
  have p0_l := lt_heap p0
  have P0 := Lib.hid p0
  clear p0
  have p1_0 := cv0 p1
  have p1_1 := cv1 p1
  have p1_2 := cv2 p1
  have p1_3 := cv3 p1
  have p1_4 := cv4 p1
  have p1_5 := cv5 p1
  have p1_f0 := free_heap p1 0
  have p1_f1 := free_heap p1 1
  have p1_f2 := free_heap p1 2
  have p1_f3 := free_heap p1 3
  have p1_f4 := free_heap p1 4
  have p1_f5 := free_heap p1 5
  have p1_l := lt_heap p1
  have P1 := Lib.hid p1
  clear p1
  have p2_0 := cv0 p2
  have p2_1 := cv1 p2
  have p2_f0 := free_heap p2 0
  have p2_f1 := free_heap p2 1
  have p2_l := lt_heap p2
  have P2 := Lib.hid p2
  clear p2
  by_cases hz : (tmFault t).1 = 0
  case neg =>
    have t1 : (((tmFault t).1 : Int) != 0) = true := bne_iff_ne.2 (by omega)
    have HZ := Lib.hid hz
    clear hz
    go_wp2_with fail
    go_region
    all_goals
      refine gen_last (fun wx => Below w.heap.size w wx ∧ wx.heap[w.heap.size + 1]? = some (.cells zTm 27 (0, 0)) ∧ wx.heap[w.heap.size + 1 + 1]? = some (.cells #[.int .i64 (tmFault t).1, .int .i64 (tmFault t).2] 29 (0, 0))) ?_ ?_
      · refine ⟨?_, ?_, ?_⟩
        · exact (((below2 (below6 HB.out (by omega)) (by omega)).alloc (le2 (le6 (by omega))) _).drew)
        · exact heap_drew (heap_old (lt2 (lt6 (by omega))) (far2 (by omega) (at6 P1.out)))
        · exact heap_drew (heap_old (lt2 (lt6 (by omega))) (at2 (far6 (by omega) P2.out)))
      rintro wx ⟨hb, k2, k3⟩
      have hfin : FormAt (Tv.steps 2001) t w (.returned (.tuple #[.agg zTm, .agg #[.int .i64 (tmFault t).1, .int .i64 (tmFault t).2]])) wx := ⟨fun _ => rfl, fun _ _ h => absurd h HZ.out, hb⟩
      clear p0_0 p0_1 p0_2 p0_3 p0_4 p0_5 p1_0 p1_1 p1_2 p1_3 p1_4 p1_5 p1_f0 p1_f1 p1_f2 p1_f3 p1_f4 p1_f5 p2_0 p2_1 p2_f0 p2_f1 t1
      unfold zTm at k2
      have HFIN := Lib.hid hfin
      have HB := Lib.hid hb
      clear hfin hb
      have k2_0 := cv0 k2
      have k2_1 := cv1 k2
      have k2_2 := cv2 k2
      have k2_3 := cv3 k2
      have k2_4 := cv4 k2
      have k2_5 := cv5 k2
      have k2_l := lt_heap k2
      have K2 := Lib.hid k2
      clear k2
      have k3_0 := cv0 k3
      have k3_1 := cv1 k3
      have k3_l := lt_heap k3
      have K3 := Lib.hid k3
      clear k3
      go_wp2_with fail
      refine bodyPost_ret (v := .tuple #[.agg #[.int .i64 0, .string ⟨#[]⟩, .int .i64 0, .string ⟨#[]⟩, .slice none 0 0, .slice none 0 0], .agg #[.int .i64 (tmFault t).1, .int .i64 (tmFault t).2]]) (by simp [results, Tryd.results18, go_sem, k2_0, k2_1, k2_2, k2_3, k2_4, k2_5, k3_0, k3_1, k2_l, k3_l]) rfl ?_
      exact HFIN.out
  obtain ⟨v, s, rfl, ov, nv, dv, tv, ev⟩ := tmFault_zero hz
  have t1 : (((tmFault v.tm).1 : Int) != 0) = false := by rw [hz]; rfl
  have hsteps := fun (o : Obj) => Lib.hid (steps_any v [.int .i64 v.tm.lab.kind, .string v.tm.lab.nm, .int .i64 v.tm.lab.ix, .string s1, .slice A1 n1 c1, .slice B1 m1 d1] (w1.alloc o) S (by omega) ov (tmRep.keep HT.out (fun k hk => by have := HS.out k hk; exact (heap_old (by omega) rfl).trans (HB.out.block k this)) (fun _ h => h)) (fun k hk => by have := HS.out k hk; simp; omega))
  have HZ := Lib.hid hz
  clear hz ov nv dv tv ev
  have HSTEPS := Lib.hid hsteps
  clear hsteps
  go_wp2_with fail
  (with_reducible refine (HSTEPS.out _).out.mono ?_)
  rintro e w2 ⟨u, ds, rfl, hu, hsu, hw2⟩
  obtain ⟨s2, A2, n2, c2, B2, m2, d2, rfl, _, _⟩ := Tm.shape hu
  have z2 : w1.heap.size + 1 ≤ w2.heap.size := by have := hw2.size; simpa using this
  have p1 := (hw2.block (w.heap.size + 1) (by simp; omega)).trans (heap_old p1_l P1.out)
  have p2 := (hw2.block (w.heap.size + 1 + 1) (by simp; omega)).trans (heap_old p2_l P2.out)
  have hB2 := (HB.out.alloc (by omega) (.cells #[.int .i64 (tmFault v.tm).1, .int .i64 (tmFault v.tm).2] 29)).trans (hw2.mono (by simp; omega))
  clear p0_0 p0_1 p0_2 p0_3 p0_4 p0_5 p0_l p1_0 p1_1 p1_2 p1_3 p1_4 p1_5 p1_f0 p1_f1 p1_f2 p1_f3 p1_f4 p1_f5 p1_l p2_0 p2_1 p2_f0 p2_f1 p2_l t1
  have HB2 := Lib.hid hB2
  have HW2 := Lib.hid hw2
  have HU := Lib.hid hu
  have HSU := Lib.hid hsu
  clear hB2 hw2 hu hsu
  have p1_0 := cv0 p1
  have p1_1 := cv1 p1
  have p1_2 := cv2 p1
  have p1_3 := cv3 p1
  have p1_4 := cv4 p1
  have p1_5 := cv5 p1
  have p1_f0 := free_heap p1 0
  have p1_f1 := free_heap p1 1
  have p1_f2 := free_heap p1 2
  have p1_f3 := free_heap p1 3
  have p1_f4 := free_heap p1 4
  have p1_f5 := free_heap p1 5
  have p1_l := lt_heap p1
  have P1 := Lib.hid p1
  clear p1
  have p2_0 := cv0 p2
  have p2_1 := cv1 p2
  have p2_f0 := free_heap p2 0
  have p2_f1 := free_heap p2 1
  have p2_l := lt_heap p2
  have P2 := Lib.hid p2
  clear p2
  cases hs : Tv.steps 2001 v with
  | none =>
    have HSN := Lib.hid hs
    clear hs
    simp only [HSN.out, Option.isSome_none]
    go_upto_region 6 with (fail)
    go_cut [] (fun wx => Below w.heap.size w wx ∧ wx.heap[w.heap.size + 1]? = some (.cells zTm 27 (0, 0)) ∧ wx.heap[w.heap.size + 1 + 1]? = some (.cells #[.int .i64 17, .int .i64 (-1)] 29 (0, 0)))
    case first =>
      go_wp2_with fail
      go_meet
      refine ⟨?_, ?_, ?_⟩
      · exact (below2 (below6 HB2.out (by omega)) (by omega)).alloc (le2 (le6 (by omega))) _
      · exact heap_old (lt2 (lt6 (by omega))) (far2 (by omega) (at6 P1.out))
      · exact heap_old (lt2 (lt6 (by omega))) (at2 (far6 (by omega) P2.out))
    case rest =>
      obtain ⟨hb, k2, k3⟩ := hcut
      rename World => wx
      have hfin : FormAt (Tv.steps 2001) v.tm w (.returned (.tuple #[.agg zTm, .agg #[.int .i64 17, .int .i64 (-1)]])) wx := by
        refine ⟨fun h => absurd HZ.out h, fun v' e1 _ => ?_, hb⟩
        obtain rfl := Tv.tm_inj _ _ e1
        exact Or.inl ⟨HSN.out, rfl⟩
      clear p1_0 p1_1 p1_2 p1_3 p1_4 p1_5 p1_f0 p1_f1 p1_f2 p1_f3 p1_f4 p1_f5 p2_0 p2_1 p2_f0 p2_f1
      unfold zTm at k2
      have HFIN := Lib.hid hfin
      have HB := Lib.hid hb
      clear hfin hb
      have k2_0 := cv0 k2
      have k2_1 := cv1 k2
      have k2_2 := cv2 k2
      have k2_3 := cv3 k2
      have k2_4 := cv4 k2
      have k2_5 := cv5 k2
      have k2_l := lt_heap k2
      have K2 := Lib.hid k2
      clear k2
      have k3_0 := cv0 k3
      have k3_1 := cv1 k3
      have k3_l := lt_heap k3
      have K3 := Lib.hid k3
      clear k3
      go_wp2_with fail
      refine bodyPost_ret (v := .tuple #[.agg #[.int .i64 0, .string ⟨#[]⟩, .int .i64 0, .string ⟨#[]⟩, .slice none 0 0, .slice none 0 0], .agg #[.int .i64 17, .int .i64 (-1)]]) (by simp [results, Tryd.results18, go_sem, k2_0, k2_1, k2_2, k2_3, k2_4, k2_5, k3_0, k3_1, k2_l, k3_l]) rfl ?_
      exact HFIN.out
  | some u' =>
    obtain rfl : u = u' := HSU.out u' hs
    have HSN := Lib.hid hs
    clear hs
    have hcl := fun (o : Obj) => Lib.hid (cloneTm_any _ u [.int .i64 u.tm.lab.kind, .string u.tm.lab.nm, .int .i64 u.tm.lab.ix, .string s2, .slice A2 n2 c2, .slice B2 m2 d2] (w2.alloc o) (Lo w2) (Nat.le_refl _) (tmRep.keep HU.out (fun k hk => heap_old hk rfl) (fun _ h => h)) (fun k hk => by have h' : k < w2.heap.size := hk; simp; omega))
    have HCL := Lib.hid hcl
    clear hcl
    simp only [HSN.out, Option.isSome_some]
    go_upto_region 7 with (fail)
    go_cut [] (fun wx => ∃ es : List Value, tmRep.R wx (Fresh w wx) u.tm es ∧ wx.heap[w.heap.size + 1]? = some (.cells es.toArray 27 (0, 0)) ∧ wx.heap[w.heap.size + 1 + 1]? = some (.cells #[.int .i64 0, .int .i64 0] 29 (0, 0)) ∧ Below w.heap.size w wx)
    case first =>
      go_wp2_with fail
      (with_reducible refine (HCL.out _).out.mono ?_)
      rintro e w5 ⟨es, rfl, hu5, hw5⟩
      obtain ⟨s5, A5, n5, c5, B5, m5, d5, rfl, _, _⟩ := Tm.shape hu5
      have z5 : w2.heap.size + 1 ≤ w5.heap.size := by have := hw5.size; simpa using this
      have p1 := (hw5.block (w.heap.size + 1) (by simp; omega)).trans (heap_old p1_l P1.out)
      have p2 := (hw5.block (w.heap.size + 1 + 1) (by simp; omega)).trans (heap_old p2_l P2.out)
      clear p1_0 p1_1 p1_2 p1_3 p1_4 p1_5 p1_f0 p1_f1 p1_f2 p1_f3 p1_f4 p1_f5 p2_0 p2_1 p2_f0 p2_f1 p1_l p2_l
      have hB5 : Below w.heap.size w w5 := (HB2.out.alloc (by omega) _).trans (hw5.mono (by simp; omega))
      have HU5 := Lib.hid hu5
      have HW5 := Lib.hid hw5
      have HB5 := Lib.hid hB5
      clear hu5 hw5 hB5
      have p1_0 := cv0 p1
      have p1_1 := cv1 p1
      have p1_2 := cv2 p1
      have p1_3 := cv3 p1
      have p1_4 := cv4 p1
      have p1_5 := cv5 p1
      have p1_f0 := free_heap p1 0
      have p1_f1 := free_heap p1 1
      have p1_f2 := free_heap p1 2
      have p1_f3 := free_heap p1 3
      have p1_f4 := free_heap p1 4
      have p1_f5 := free_heap p1 5
      have p1_l := lt_heap p1
      have P1 := Lib.hid p1
      clear p1
      have p2_0 := cv0 p2
      have p2_1 := cv1 p2
      have p2_f0 := free_heap p2 0
      have p2_f1 := free_heap p2 1
      have p2_l := lt_heap p2
      have P2 := Lib.hid p2
      clear p2
      go_wp2_with fail
      go_meet
      refine ⟨[.int .i64 u.tm.lab.kind, .string u.tm.lab.nm, .int .i64 u.tm.lab.ix, .string s5, .slice A5 n5 c5, .slice B5 m5 d5], ?_, far2 (by omega) (at6 P1.out), at2 (far6 (by omega) P2.out), below2 (below6 HB5.out (by omega)) (by omega)⟩
      exact tmRep.keep HU5.out (fun k hk => far2 (by have := hk.1; simp at this; omega) (far6 (by have := hk.1; simp at this; omega) rfl)) (fun k hk => ⟨by have := hk.1; simp at this; omega, lt2 (lt6 hk.2)⟩)
    case rest =>
      obtain ⟨es, hu5, k2, k3, hb⟩ := hcut
      rename World => wx
      obtain ⟨s5, A5, n5, c5, B5, m5, d5, rfl, _, _⟩ := Tm.shape hu5
      have hfin : FormAt (Tv.steps 2001) v.tm w (.returned (.tuple #[.agg ([.int .i64 u.tm.lab.kind, .string u.tm.lab.nm, .int .i64 u.tm.lab.ix, .string s5, .slice A5 n5 c5, .slice B5 m5 d5]).toArray, .agg #[.int .i64 0, .int .i64 0]])) wx := by
        refine ⟨fun h => absurd HZ.out h, fun v' e1 _ => ?_, hb⟩
        obtain rfl := Tv.tm_inj _ _ e1
        exact Or.inr ⟨u, _, HSN.out, rfl, hu5⟩
      clear p1_0 p1_1 p1_2 p1_3 p1_4 p1_5 p1_f0 p1_f1 p1_f2 p1_f3 p1_f4 p1_f5 p2_0 p2_1 p2_f0 p2_f1
      have HFIN := Lib.hid hfin
      have HB := Lib.hid hb
      have HU5 := Lib.hid hu5
      clear hfin hb hu5
      have k2_0 := cv0 k2
      have k2_1 := cv1 k2
      have k2_2 := cv2 k2
      have k2_3 := cv3 k2
      have k2_4 := cv4 k2
      have k2_5 := cv5 k2
      have k2_l := lt_heap k2
      have K2 := Lib.hid k2
      clear k2
      have k3_0 := cv0 k3
      have k3_1 := cv1 k3
      have k3_l := lt_heap k3
      have K3 := Lib.hid k3
      clear k3
      go_wp2_with fail
      refine bodyPost_ret (v := .tuple #[.agg #[.int .i64 u.tm.lab.kind, .string u.tm.lab.nm, .int .i64 u.tm.lab.ix, .string s5, .slice A5 n5 c5, .slice B5 m5 d5], .agg #[.int .i64 0, .int .i64 0]]) (by simp [results, Tryd.results18, go_sem, k2_0, k2_1, k2_2, k2_3, k2_4, k2_5, k3_0, k3_1, k2_l, k3_l]) rfl ?_
      exact HFIN.out

end Go.Proofs.YthflahcnkhmpaabDoor
