/-
  The law ReduceStepsLeadOn: the walk.
-/
import Derived.Test.YthflahcnkhmpaabDoorProg
import Derived.Test.YthflahcnkhmpaabDoorRedex
import Derived.Test.YthflahcnkhmpaabDoorStepOf
import Derived.Test.YthflahcnkhmpaabDoorNormal
import Derived.Test.YthflahcnkhmpaabDoorEqTm
import Derived.Deep.QuietTactic
import Derived.BigQuiet
import Derived.WalkSmall
namespace Go.Proofs.YthflahcnkhmpaabDoor
open Go Go.RowKit
set_option linter.unusedSimpArgs false
set_option linter.unusedVariables false

theorem StepOfAt.redex {w w' : World} {e : Ending} (h : StepOfAt tvRedex.tm w e w') : ∃ ds : List Value, e = .returned (.tuple #[.agg ds.toArray, .bool true, .agg #[.int .i64 0, .int .i64 0]]) ∧ tmRep.R w' (Fresh w w') tvKim.tm ds := by
  rcases h.2.1 tvRedex rfl (by rw [tvRedex_fault]) with ⟨h1, _⟩ | ⟨_, ds, h2, h3⟩
  · exact absurd h1 (by decide)
  · exact ⟨ds, h2, h3⟩
theorem StepOfAt.cases {t : Tm} {w w' : World} {e : Ending} (h : StepOfAt t w e w') :
    (∃ c i : Int, c ≠ 0 ∧ e = .returned (.tuple #[.agg zTm, .bool false, .agg #[.int .i64 c, .int .i64 i]])) ∨
    (∃ (v : Tv) (s : Sy) (ds : List Value), t = v.tm ∧ (tmFault v.tm).1 = 0 ∧ v.ok 0 ∧ v.nodes ≤ 200 ∧ v.typ [] = some s ∧ e = .returned (.tuple #[.agg ds.toArray, .bool v.step.isSome, .agg #[.int .i64 0, .int .i64 0]]) ∧ tmRep.R w' (Fresh w w') (v.step.getD v).tm ds) := by
  by_cases hz : (tmFault t).1 = 0
  case neg => exact Or.inl ⟨_, _, by omega, h.1 hz⟩
  obtain ⟨v, s, rfl, ov, nv, dv, tv, ev⟩ := tmFault_zero hz
  rcases h.2.1 v rfl hz with ⟨_, h2⟩ | ⟨_, ds, h2, h3⟩
  · exact Or.inl ⟨_, _, by decide, h2⟩
  · exact Or.inr ⟨v, s, ds, rfl, hz, ov, nv, tv, h2, h3⟩
theorem tmFault_zz {t : Tm} (h : (tmFault t).1 = 0) : tmFault t = (0, 0) := by
  obtain ⟨_, _, _, _, _, _, _, e⟩ := tmFault_zero h
  exact e
theorem FormAt.cases {r : Tv → Option Tv} {v : Tv} {w w' : World} {e : Ending} (hz : (tmFault v.tm).1 = 0) (h : FormAt r v.tm w e w') :
    (∃ c i : Int, c ≠ 0 ∧ e = .returned (.tuple #[.agg zTm, .agg #[.int .i64 c, .int .i64 i]])) ∨
    (∃ (u : Tv) (ds : List Value), r v = some u ∧ e = .returned (.tuple #[.agg ds.toArray, .agg #[.int .i64 0, .int .i64 0]]) ∧ tmRep.R w' (Fresh w w') u.tm ds) := by
  rcases h.2.1 v rfl hz with ⟨_, h2⟩ | h2
  · exact Or.inl ⟨_, _, by decide, h2⟩
  · exact Or.inr h2

set_option maxRecDepth 100000 in
set_option maxHeartbeats 4000000 in
theorem leadLaw_any (t : Tm) (cs : List Value) (w : World) (S : Nat → Prop) (ht : tmRep.R w S t cs) (hS : ∀ b, S b → b < w.heap.size)
    (g0 : w.cell? ⟨0, 0, none⟩ = some (.int .i64 0)) (g1 : w.cell? ⟨0, 1, none⟩ = some (.int .i64 0)) :
    Calls Tryd.prog 5 #[.agg cs.toArray] w fun e w' => e = .returned (.bool true) ∧ Below w.heap.size w w' := by
  obtain ⟨s0, A0, n0, c0, B0, m0, d0, rfl, _, _⟩ := Tm.shape ht
  have hg := World.block_lt_of_cell? w _ g0
  have HT := Lib.hid ht
  have HS := Lib.hid hS
  have G0 := Lib.hid g0
  have G1 := Lib.hid g1
  clear ht hS g0 g1
  go_enter Tryd.func5, Tryd.ntmps5
  go_wp2_with fail
  (with_reducible refine (redex_any _).mono ?_)
  rintro e w1 ⟨es, rfl, h1, hw1⟩
  obtain ⟨s1, A1, n1, c1, B1, m1, d1, rfl, _, _⟩ := Tm.shape h1
  have z1 : w.heap.size + 1 ≤ w1.heap.size := by have := hw1.size; simpa using this
  have p0 := (hw1.block w.heap.size (by simp)).trans (heap_at rfl)
  have hB1 : Below w.heap.size w w1 := ((Below.refl _ w).alloc (Nat.le_refl _) _).trans (hw1.mono (by simp))
  have hst := Lib.hid (stepOf_any tvRedex.tm _ w1 _ h1 (fun k hk => hk.2))
  have P0 := Lib.hid p0
  have HW1 := Lib.hid hw1
  have H1 := Lib.hid h1
  have HB1 := Lib.hid hB1
  clear p0 hw1 h1 hB1
  go_wp2_with fail
  (with_reducible refine hst.out.mono ?_)
  rintro e w2 hr
  have hw2 := hr.2.2
  obtain ⟨ds, rfl, h2⟩ := hr.redex
  obtain ⟨u0, u1, vs, rfl, -, hty, Av, nv, cv, rfl, -⟩ := Tm.open_ (a := ⟨1, bKim, 0, Sy.e.ty⟩) (l := []) h2
  obtain ⟨sk, Ak, nk, ck, rfl, rfl⟩ := hty.shape
  have z2 := hw2.size
  have p0 := (hw2.block _ (by omega)).trans P0.out
  have hB2 := HB1.out.trans (hw2.mono (by omega))
  have c0' := (hB2.cell (p := ⟨0, 0, none⟩) hg).trans G0.out
  have c1' := (hB2.cell (p := ⟨0, 1, none⟩) hg).trans G1.out
  have l2 : 0 < w2.heap.size := by omega
  have l2b : 0 < w2.heap.size + 1 := by omega
  have hkim : (bKim.toList == [107, 105, 109]) = true := by decide +kernel
  have hS2 : ∀ (o p : Obj) k, S k → ((w2.alloc o).alloc p).heap[k]? = w.heap[k]? := fun o p k hk => by
    have := HS.out k hk
    exact heap_old (by simp; omega) (heap_old (by omega) (hB2.block k this))
  have hst2 := fun (o p : Obj) => Lib.hid (stepOf_any t [.int .i64 t.lab.kind, .string t.lab.nm, .int .i64 t.lab.ix, .string s0, .slice A0 n0 c0, .slice B0 m0 d0] ((w2.alloc o).alloc p) S (tmRep.keep HT.out (hS2 o p) (fun _ h => h)) (fun k hk => by have := HS.out k hk; simp; omega))
  clear hst hr h2 hty
  have HW2 := Lib.hid hw2
  have HB2 := Lib.hid hB2
  have HS2 := Lib.hid hS2
  have HST2 := Lib.hid hst2
  clear hw2 hB2 hS2 hst2
  have p0_0 := cv0 p0
  have p0_1 := cv1 p0
  have p0_2 := cv2 p0
  have p0_3 := cv3 p0
  have p0_4 := cv4 p0
  have p0_5 := cv5 p0
  have p0_l := lt_heap p0
  have P0 := Lib.hid p0
  clear p0
  simp only
  go_wp2_with fail
  (with_reducible refine (HST2.out _ _).out.mono ?_)
  rintro e w3 hr
  have hw3 := hr.2.2
  have z3 : w2.heap.size + 2 ≤ w3.heap.size := by have := hw3.size; simpa using this
  have hB3 := ((HB2.out.alloc (by omega) (.cells #[.int .i64 1, .string bKim, .int .i64 0, .string sk, .slice Ak nk ck, .slice Av nv cv] 27)).alloc (by simp; omega) (.cells #[.int .i64 0, .int .i64 0] 29)).trans (hw3.mono (by simp; omega))
  have p0 := (hw3.block w.heap.size (by simp; omega)).trans (heap_old (by simp; omega) (heap_old p0_l P0.out))
  have c0' := (hB3.cell (p := ⟨0, 0, none⟩) hg).trans G0.out
  have c1' := (hB3.cell (p := ⟨0, 1, none⟩) hg).trans G1.out
  have l3 : 0 < w3.heap.size := by omega
  have l3b : 0 < w3.heap.size + 1 := by omega
  clear p0_0 p0_1 p0_2 p0_3 p0_4 p0_5 p0_l hkim
  rcases hr.cases with ⟨c, i, hc, rfl⟩ | ⟨v, s, ds, rfl, hzv, ov, nv', tv, rfl, hu⟩
  · have hc' : (c == 0) = false := beq_eq_false_iff_ne.2 hc
    clear hr hc
    have HW3 := Lib.hid hw3
    have HB3 := Lib.hid hB3
    have P0 := Lib.hid p0
    clear hw3 hB3 p0
    unfold zTm
    go_wp2_with fail
    go_quiet (fail)
    go_wp2_with fail
    go_returns
    exact ⟨rfl, below_drewN ((HB3.out.alloc (by omega) _).alloc (by simp; omega) _) _⟩
  cases hs : v.step with
  | none =>
    simp only [hs, Option.getD_none] at hu
    obtain ⟨s3, A3, n3, c3, B3, m3, d3, rfl, _, _⟩ := Tm.shape hu
    clear hr hu hs
    have HW3 := Lib.hid hw3
    have HB3 := Lib.hid hB3
    have P0 := Lib.hid p0
    clear hw3 hB3 p0
    simp only [Option.isSome_none]
    go_wp2_with fail
    go_quiet (fail)
    go_wp2_with fail
    go_returns
    exact ⟨rfl, below_drewN ((HB3.out.alloc (by omega) _).alloc (by simp; omega) _) _⟩
  | some u =>
    simp only [hs, Option.getD_some] at hu
    obtain ⟨s3, A3, n3, c3, B3, m3, d3, rfl, _, _⟩ := Tm.shape hu
    have hval := fun (o p : Obj) => validateTm_any u.tm [.int .i64 u.tm.lab.kind, .string u.tm.lab.nm, .int .i64 u.tm.lab.ix, .string s3, .slice A3 n3 c3, .slice B3 m3 d3] ((w3.alloc o).alloc p).drew (Lo w3) (tmRep.keep hu (fun k hk => heap_drew (heap_old (by have := hk.2; simp; omega) (heap_old hk.2 rfl))) (fun k hk => hk.2)) (fun k hk => by have h' : k < w3.heap.size := hk; simp; omega)
    have hlead : ∀ a, Tv.steps 2001 v = some a → Tv.steps 2001 u = some a := fun a h => Tv.steps_mono _ _ _ (Tv.steps_step h hs)
    have HU3 := Lib.hid (tmRep.keep (S' := Lo w3) hu (fun _ _ => rfl) (fun k hk => hk.2))
    clear hr hu hs
    have HW3 := Lib.hid hw3
    have P0 := Lib.hid p0
    have HLEAD := Lib.hid hlead
    clear hw3 p0 hlead
    simp only [Option.isSome_some]
    have hBA := ((hB3.alloc (by omega) (.cells #[.int .i64 u.tm.lab.kind, .string u.tm.lab.nm, .int .i64 u.tm.lab.ix, .string s3, .slice A3 n3 c3, .slice B3 m3 d3] 27)).alloc (by simp; omega) (.cells #[.int .i64 0, .int .i64 0] 29))
    have HBA := Lib.hid hBA
    clear hBA
    by_cases hz : (tmFault u.tm).1 = 0
    case neg =>
      have hcz : (((tmFault u.tm).1 : Int) == 0) = false := beq_eq_false_iff_ne.2 (by omega)
      clear hz
      have HVAL := Lib.hid hval
      clear hval
      go_wp2_with fail
      go_region_held3 (fun w' => w'.cell? ⟨w3.heap.size + 1, 0, none⟩ = some (.int .i64 0) ∧ w'.cell? ⟨w3.heap.size + 1, 1, none⟩ = some (.int .i64 0) ∧ w'.cell? ⟨0, 0, none⟩ = some (.int .i64 0) ∧ w'.cell? ⟨0, 1, none⟩ = some (.int .i64 0) ∧
          w'.cell? ⟨w3.heap.size, 0, none⟩ = some (.int .i64 u.tm.lab.kind) ∧ w'.cell? ⟨w3.heap.size, 1, none⟩ = some (.string u.tm.lab.nm) ∧ w'.cell? ⟨w3.heap.size, 2, none⟩ = some (.int .i64 u.tm.lab.ix) ∧ w'.cell? ⟨w3.heap.size, 3, none⟩ = some (.string s3) ∧ w'.cell? ⟨w3.heap.size, 4, none⟩ = some (.slice A3 n3 c3) ∧ w'.cell? ⟨w3.heap.size, 5, none⟩ = some (.slice B3 m3 d3))
        ((first | (go_keep; done) | (go_split_ands; (repeat' apply And.intro) <;> (refine (kc4 _ _ (by omega)).trans ?_; assumption))))
        (((with_reducible refine (HVAL.out _ _).mono ?_); rintro e w4 ⟨rfl, hw4⟩; have kc4 : ∀ k q, k < w3.heap.size + 2 → w4.cell? ⟨k, q, none⟩ = _ := (fun k q h => hw4.cell (p := ⟨k, q, none⟩) (by simp; omega)); have HW4 := Lib.hid hw4; clear hw4))
      go_wp2_with fail
      go_returns
      exact ⟨rfl, (HBA.out.drew).trans (HW4.out.mono (by simp; omega))⟩
    have ez := tmFault_zz hz
    rw [ez] at hval
    have HZU := Lib.hid hz
    clear hz ez
    have HVAL := Lib.hid hval
    clear hval
    go_wp2_with fail
    go_region_held3 (fun w' => w'.cell? ⟨w3.heap.size + 1, 0, none⟩ = some (.int .i64 0) ∧ w'.cell? ⟨w3.heap.size + 1, 1, none⟩ = some (.int .i64 0) ∧ w'.cell? ⟨0, 0, none⟩ = some (.int .i64 0) ∧ w'.cell? ⟨0, 1, none⟩ = some (.int .i64 0) ∧
        w'.cell? ⟨w3.heap.size, 0, none⟩ = some (.int .i64 u.tm.lab.kind) ∧ w'.cell? ⟨w3.heap.size, 1, none⟩ = some (.string u.tm.lab.nm) ∧ w'.cell? ⟨w3.heap.size, 2, none⟩ = some (.int .i64 u.tm.lab.ix) ∧ w'.cell? ⟨w3.heap.size, 3, none⟩ = some (.string s3) ∧ w'.cell? ⟨w3.heap.size, 4, none⟩ = some (.slice A3 n3 c3) ∧ w'.cell? ⟨w3.heap.size, 5, none⟩ = some (.slice B3 m3 d3))
      ((first | (go_keep; done) | (go_split_ands; (repeat' apply And.intro) <;> (refine (kc4 _ _ (by omega)).trans ?_; assumption))))
      (((with_reducible refine (HVAL.out _ _).mono ?_); rintro e w4 ⟨rfl, hw4⟩; have kc4 : ∀ k q, k < w3.heap.size + 2 → w4.cell? ⟨k, q, none⟩ = _ := (fun k q h => hw4.cell (p := ⟨k, q, none⟩) (by simp; omega)); have z4 : w3.heap.size + 2 ≤ w4.heap.size := (by have := hw4.size; simpa using this); have HW4 := Lib.hid hw4; clear hw4))
    have hB4 : Below w.heap.size w w4 := (HBA.out.drew).trans (HW4.out.mono (by simp; omega))
    have p0 := (HW4.out.block w.heap.size (by simp; omega)).trans (heap_drew (heap_old (by simp; omega) (heap_old (by have := lt_heap P0.out; omega) P0.out)))
    have q6 := (HW4.out.block w3.heap.size (by simp; omega)).trans (heap_drew (heap_old (by simp) (heap_at rfl)))
    have c0' := (hB4.cell (p := ⟨0, 0, none⟩) hg).trans G0.out
    have c1' := (hB4.cell (p := ⟨0, 1, none⟩) hg).trans G1.out
    have l4 : 0 < w4.heap.size := by omega
    have hu4 : tmRep.R w4 (Lo w3) u.tm [.int .i64 u.tm.lab.kind, .string u.tm.lab.nm, .int .i64 u.tm.lab.ix, .string s3, .slice A3 n3 c3, .slice B3 m3 d3] := tmRep.keep HU3.out (fun k hk => by have h' : k < w3.heap.size := hk; exact (HW4.out.block k (by simp; omega)).trans (heap_drew (heap_old (by simp; omega) (heap_old h' rfl)))) (fun _ h => h)
    have hn1 := Lib.hid (normal_any v.tm [.int .i64 v.tm.lab.kind, .string v.tm.lab.nm, .int .i64 v.tm.lab.ix, .string s0, .slice A0 n0 c0, .slice B0 m0 d0] w4 S (tmRep.keep HT.out (fun k hk => hB4.block k (HS.out k hk)) (fun _ h => h)) (fun k hk => by have := HS.out k hk; omega))
    clear kc4
    have HB4 := Lib.hid hB4
    have HU4 := Lib.hid hu4
    have HN1 := Lib.hid hn1
    clear hB4 hu4 hn1
    have p0_0 := cv0 p0
    have p0_1 := cv1 p0
    have p0_2 := cv2 p0
    have p0_3 := cv3 p0
    have p0_4 := cv4 p0
    have p0_5 := cv5 p0
    have p0_l := lt_heap p0
    have P0 := Lib.hid p0
    clear p0
    have q6_0 := cv0 q6
    have q6_1 := cv1 q6
    have q6_2 := cv2 q6
    have q6_3 := cv3 q6
    have q6_4 := cv4 q6
    have q6_5 := cv5 q6
    have q6_l := lt_heap q6
    have Q6 := Lib.hid q6
    clear q6
    go_wp2_with fail
    (with_reducible refine HN1.out.out.mono ?_)
    rintro e w5 hr
    have hw5 := hr.2.2
    have z5 := hw5.size
    have hB5 := HB4.out.trans (hw5.mono (by omega))
    have q6 := (hw5.block _ q6_l).trans Q6.out
    have c0' := (hB5.cell (p := ⟨0, 0, none⟩) hg).trans G0.out
    have c1' := (hB5.cell (p := ⟨0, 1, none⟩) hg).trans G1.out
    have l5 : 0 < w5.heap.size := by omega
    have l5b : 0 < w5.heap.size + 1 := by omega
    have l6 : w3.heap.size < w5.heap.size := by omega
    have hn2 := fun (o p : Obj) => Lib.hid (normal_any u.tm [.int .i64 u.tm.lab.kind, .string u.tm.lab.nm, .int .i64 u.tm.lab.ix, .string s3, .slice A3 n3 c3, .slice B3 m3 d3] ((w5.alloc o).alloc p) (Lo w3) (tmRep.keep HU4.out (fun k hk => by have h' : k < w3.heap.size := hk; exact heap_old (by simp; omega) (heap_old (by omega) (hw5.block k (by omega)))) (fun _ h => h)) (fun k hk => by have h' : k < w3.heap.size := hk; simp; omega))
    clear p0_0 p0_1 p0_2 p0_3 p0_4 p0_5 p0_l q6_0 q6_1 q6_2 q6_3 q6_4 q6_5 q6_l
    have HN2 := Lib.hid hn2
    clear hn2
    rcases hr.cases hzv with ⟨c, i, hc, rfl⟩ | ⟨a, ds, ha, rfl, hua⟩
    · have hc' : (c == 0) = false := beq_eq_false_iff_ne.2 hc
      clear hr hc
      have HW5 := Lib.hid hw5
      have HB5 := Lib.hid hB5
      clear hw5 hB5
      have q6_0 := cv0 q6
      have q6_1 := cv1 q6
      have q6_2 := cv2 q6
      have q6_3 := cv3 q6
      have q6_4 := cv4 q6
      have q6_5 := cv5 q6
      have q6_l := lt_heap q6
      have Q6 := Lib.hid q6
      clear q6
      unfold zTm
      go_wp2_with fail
      (with_reducible refine (HN2.out _ _).out.mono ?_)
      rintro e w6 hr
      have hw6 := hr.2.2
      have z6 : w5.heap.size + 2 ≤ w6.heap.size := by have := hw6.size; simpa using this
      have hB6 := ((HB5.out.alloc (by omega) _).alloc (by simp; omega) _).trans (hw6.mono (by simp; omega))
      have r1 := (hw6.block (w5.heap.size + 1) (by simp)).trans (heap_at (by simp))
      have c0' := (hB6.cell (p := ⟨0, 0, none⟩) hg).trans G0.out
      have c1' := (hB6.cell (p := ⟨0, 1, none⟩) hg).trans G1.out
      have l7 : 0 < w6.heap.size := by omega
      have l7b : 0 < w6.heap.size + 1 := by omega
      clear q6_0 q6_1 q6_2 q6_3 q6_4 q6_5 q6_l
      have r1l : w5.heap.size + 1 < w6.heap.size + 1 := by omega
      have r1m : w5.heap.size < w6.heap.size := by omega
      rcases hr.cases HZU.out with ⟨c2, i2, _, rfl⟩ | ⟨a2, ds2, _, rfl, hua2⟩
      · clear hr
        have HW6 := Lib.hid hw6
        have HB6 := Lib.hid hB6
        clear hw6 hB6
        have r1_0 := cv0 r1
        have r1_1 := cv1 r1
        have r1_l := lt_heap r1
        have R1 := Lib.hid r1
        clear r1
        unfold zTm
        go_wp2_with fail
        go_returns
        exact ⟨rfl, (HB6.out.alloc (by omega) _).alloc (by simp; omega) _⟩
      · obtain ⟨s7, A7, n7, c7, B7, m7, d7, rfl, _, _⟩ := Tm.shape hua2
        clear hr hua2
        have HW6 := Lib.hid hw6
        have HB6 := Lib.hid hB6
        clear hw6 hB6
        have r1_0 := cv0 r1
        have r1_1 := cv1 r1
        have r1_l := lt_heap r1
        have R1 := Lib.hid r1
        clear r1
        go_wp2_with fail
        go_returns
        exact ⟨rfl, (HB6.out.alloc (by omega) _).alloc (by simp; omega) _⟩
    obtain ⟨s7, A7, n7, c7, B7, m7, d7, rfl, _, _⟩ := Tm.shape hua
    have ha2 := HLEAD.out a ha
    clear hr
    have HW5 := Lib.hid hw5
    have HB5 := Lib.hid hB5
    have HUA := Lib.hid hua
    have HA := Lib.hid ha
    have HA2 := Lib.hid ha2
    clear hw5 hB5 hua ha ha2
    have q6_0 := cv0 q6
    have q6_1 := cv1 q6
    have q6_2 := cv2 q6
    have q6_3 := cv3 q6
    have q6_4 := cv4 q6
    have q6_5 := cv5 q6
    have q6_l := lt_heap q6
    have Q6 := Lib.hid q6
    clear q6
    go_wp2_with fail
    (with_reducible refine (HN2.out _ _).out.mono ?_)
    rintro e w6 hr
    have hw6 := hr.2.2
    have z6 : w5.heap.size + 2 ≤ w6.heap.size := by have := hw6.size; simpa using this
    have hB6 := ((HB5.out.alloc (by omega) _).alloc (by simp; omega) _).trans (hw6.mono (by simp; omega))
    have r0 := (hw6.block w5.heap.size (by simp <;> omega)).trans (heap_old (by simp) (heap_at rfl))
    have r1 := (hw6.block (w5.heap.size + 1) (by simp)).trans (heap_at (by simp))
    have c0' := (hB6.cell (p := ⟨0, 0, none⟩) hg).trans G0.out
    have c1' := (hB6.cell (p := ⟨0, 1, none⟩) hg).trans G1.out
    have l7 : 0 < w6.heap.size := by omega
    have l7b : 0 < w6.heap.size + 1 := by omega
    clear q6_0 q6_1 q6_2 q6_3 q6_4 q6_5 q6_l
    have r1l : w5.heap.size + 1 < w6.heap.size + 1 := by omega
    have r1m : w5.heap.size < w6.heap.size := by omega
    rcases hr.cases HZU.out with ⟨c2, i2, hc2, rfl⟩ | ⟨a2, ds2, ha2, rfl, hua2⟩
    · exfalso
      rcases hr.2.1 u rfl HZU.out with ⟨h1, _⟩ | ⟨_, _, _, h1, _⟩
      · rw [HA2.out] at h1; simp at h1
      · injection h1 with h1
        injection h1 with h1
        simp at h1
        exact hc2 h1.2.1
    · obtain rfl : a = a2 := Option.some.inj (HA2.out.symm.trans ha2)
      obtain ⟨s8, A8, n8, c8, B8, m8, d8, rfl, _, _⟩ := Tm.shape hua2
      have heq := fun (o p : Obj) => eqTm_any _ a.tm a.tm [.int .i64 a.tm.lab.kind, .string a.tm.lab.nm, .int .i64 a.tm.lab.ix, .string s7, .slice A7 n7 c7, .slice B7 m7 d7] [.int .i64 a.tm.lab.kind, .string a.tm.lab.nm, .int .i64 a.tm.lab.ix, .string s8, .slice A8 n8 c8, .slice B8 m8 d8] ((w6.alloc o).alloc p) (Lo w6) (Nat.le_refl _)
        (tmRep.keep HUA.out (fun k hk => by have := hk.2; exact heap_old (by simp; omega) (heap_old (by omega) ((hw6.block k (by simp; omega)).trans (heap_old (by simp; omega) (heap_old hk.2 rfl))))) (fun k hk => by have := hk.2; exact (show k < w6.heap.size by omega)))
        (tmRep.keep hua2 (fun k hk => heap_old (by have := hk.2; simp; omega) (heap_old hk.2 rfl)) (fun k hk => hk.2)) (fun k hk => by have h' : k < w6.heap.size := hk; simp; omega)
      rw [tmBeq_self] at heq
      clear hr hua2 ha2
      have HW6 := Lib.hid hw6
      have HB6 := Lib.hid hB6
      have HEQ := Lib.hid heq
      clear hw6 hB6 heq
      have r0_0 := cv0 r0
      have r0_1 := cv1 r0
      have r0_2 := cv2 r0
      have r0_3 := cv3 r0
      have r0_4 := cv4 r0
      have r0_5 := cv5 r0
      have r0_l := lt_heap r0
      have R0 := Lib.hid r0
      clear r0
      have r1_0 := cv0 r1
      have r1_1 := cv1 r1
      have r1_l := lt_heap r1
      have R1 := Lib.hid r1
      clear r1
      go_wp2_with fail
      (with_reducible refine (HEQ.out _ _).mono ?_)
      rintro e w7 ⟨rfl, hw7⟩
      have HW7 := Lib.hid hw7
      clear hw7
      go_wp2_with fail
      go_returns
      exact ⟨rfl, ((HB6.out.alloc (by omega) _).alloc (by simp; omega) _).trans (HW7.out.mono (by simp; omega))⟩

end Go.Proofs.YthflahcnkhmpaabDoor
