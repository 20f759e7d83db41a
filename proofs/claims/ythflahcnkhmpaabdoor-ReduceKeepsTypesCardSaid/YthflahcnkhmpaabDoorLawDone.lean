/-
  The law ReduceIsDone: the walk.
-/
import Derived.Test.YthflahcnkhmpaabDoorProg
import Derived.Test.YthflahcnkhmpaabDoorRedex
import Derived.Test.YthflahcnkhmpaabDoorStepOf
import Derived.Test.YthflahcnkhmpaabDoorLongF
import Derived.Test.YthflahcnkhmpaabDoorEqTm
import Derived.Test.YthflahcnkhmpaabDoorLawLead
import Derived.Deep.CutBlock
import Derived.Deep.DeepCutAuto
namespace Go.Proofs.YthflahcnkhmpaabDoor
open Go Go.RowKit
set_option linter.unusedSimpArgs false
set_option linter.unusedVariables false

/-- A long normal form is its own. -/
theorem Tv.long_again {v u : Tv} {s s' : Sy} (hv : v.typ [] = some s) (h : Tv.long v = some u) (hu : u.typ [] = some s') : Tv.long u = some u ∧ s' = s := by
  unfold Tv.long at h
  rw [hv] at h
  cases hs : Tv.steps 2001 v with
  | none => rw [hs] at h; simp at h
  | some x =>
    rw [hs] at h
    simp only at h
    have hp := (Tv.steps_pars 2001 v x hs).2
    have hx := Tv.steps_typ 2001 v x [] s hs hv
    have h1 := Tv.expand_long 2001 x s [] 2000 (by decide) hp.1 hx
    have h2 := Tv.expand_typ 2001 x s [] 2000 hx
    generalize hY : Tv.expand 2001 x s [] 2000 = Y at *
    split at h
    · simp at h
    rename_i hn
    obtain rfl := Option.some.inj h
    obtain ⟨h3, h4⟩ := h1.2 (by omega)
    obtain rfl : s = s' := by rw [h2] at hu; exact Option.some.inj hu
    refine ⟨?_, rfl⟩
    have h5 := Long.normal _ [] Y.1 s (Nat.le_refl _) h4
    have h6 : Tv.steps 2001 Y.1 = some Y.1 := Tv.steps_normal 2000 h5 (by omega)
    have h7 := Long.expand _ [] Y.1 s (Nat.le_refl _) h4 2001 2000 (by omega) (by omega)
    unfold Tv.long
    rw [h2, h6]
    simp only [h7]
    rw [if_neg (by omega)]
theorem FormAt.cases3 {r : Tv → Option Tv} {t : Tm} {w w' : World} {e : Ending} (h : FormAt r t w e w') :
    (∃ c i : Int, c ≠ 0 ∧ e = .returned (.tuple #[.agg zTm, .agg #[.int .i64 c, .int .i64 i]])) ∨
    (∃ (v u : Tv) (s : Sy) (ds : List Value), t = v.tm ∧ v.ok 0 ∧ v.typ [] = some s ∧ (tmFault v.tm).1 = 0 ∧ r v = some u ∧ e = .returned (.tuple #[.agg ds.toArray, .agg #[.int .i64 0, .int .i64 0]]) ∧ tmRep.R w' (Fresh w w') u.tm ds) := by
  by_cases hz : (tmFault t).1 = 0
  case neg => exact Or.inl ⟨_, _, by omega, h.1 hz⟩
  obtain ⟨v, s, rfl, ov, nv, dv, tv, ev⟩ := tmFault_zero hz
  rcases h.2.1 v rfl hz with ⟨_, h2⟩ | ⟨u, ds, h1, h2, h3⟩
  · exact Or.inl ⟨_, _, by decide, h2⟩
  · exact Or.inr ⟨v, u, s, ds, rfl, ov, tv, hz, h1, h2, h3⟩
theorem heap_drewN {w : World} {k : Nat} {x : Option Obj} (h : w.heap[k]? = x) (n : Nat) : (w.drewN n).heap[k]? = x := h
theorem Tv.normal_again {v u : Tv} (h : Tv.steps 2001 v = some u) : u.step = none ∧ u.nodes ≤ 2000 := (Tv.steps_pars 2001 v u h).2

set_option maxRecDepth 100000 in
set_option maxHeartbeats 4000000 in
theorem doneLaw_any (t : Tm) (cs : List Value) (w : World) (S : Nat → Prop) (ht : tmRep.R w S t cs) (hS : ∀ b, S b → b < w.heap.size)
    (g0 : w.cell? ⟨0, 0, none⟩ = some (.int .i64 0)) (g1 : w.cell? ⟨0, 1, none⟩ = some (.int .i64 0)) :
    Calls Tryd.prog 10 #[.agg cs.toArray] w fun e w' => e = .returned (.bool true) ∧ Below w.heap.size w w' := by
  obtain ⟨s0, A0, n0, c0, B0, m0, d0, rfl, _, _⟩ := Tm.shape ht
  have hg := World.block_lt_of_cell? w _ g0
  have HT := Lib.hid ht
  have HS := Lib.hid hS
  have G0 := Lib.hid g0
  have G1 := Lib.hid g1
  clear ht hS g0 g1
  go_enter Tryd.func10, Tryd.ntmps10
  go_wp2_with fail
  (with_reducible refine (redex_any _).mono ?_)
  rintro e w1 ⟨es, rfl, h1, hw1⟩
  obtain ⟨s1, A1, n1, c1, B1, m1, d1, rfl, _, _⟩ := Tm.shape h1
  have z1 : w.heap.size + 1 ≤ w1.heap.size := by have := hw1.size; simpa using this
  have p0 := (hw1.block w.heap.size (by simp)).trans (heap_at rfl)
  have hB1 : Below w.heap.size w w1 := ((Below.refl _ w).alloc (Nat.le_refl _) _).trans (hw1.mono (by simp))
  have hst := Lib.hid (stepOf_any tvRedex.tm _ w1 _ h1 (fun k hk => hk.2))
  have P0 := Lib.hid p0
  have HW1 := Lib.hid hw1
  have H1 := Lib.hid h1
  have HB1 := Lib.hid hB1
  clear p0 hw1 h1 hB1
  go_wp2_with fail
  (with_reducible refine hst.out.mono ?_)
  rintro e w2 hr
  have hw2 := hr.2.2
  obtain ⟨ds, rfl, h2⟩ := hr.redex
  obtain ⟨u0, u1, vs, rfl, -, hty, Av, nv, cv, rfl, -⟩ := Tm.open_ (a := ⟨1, bKim, 0, Sy.e.ty⟩) (l := []) h2
  obtain ⟨sk, Ak, nk, ck, rfl, rfl⟩ := hty.shape
  have z2 := hw2.size
  have p0 := (hw2.block _ (by omega)).trans P0.out
  have hB2 := HB1.out.trans (hw2.mono (by omega))
  have c0' := (hB2.cell (p := ⟨0, 0, none⟩) hg).trans G0.out
  have c1' := (hB2.cell (p := ⟨0, 1, none⟩) hg).trans G1.out
  have l2 : 0 < w2.heap.size := by omega
  have l2b : 0 < w2.heap.size + 1 := by omega
  clear hst hr h2 hty
  have HW2 := Lib.hid hw2
  have HB2 := Lib.hid hB2
  clear hw2 hB2
  have p0_0 := cv0 p0
  have p0_1 := cv1 p0
  have p0_2 := cv2 p0
  have p0_3 := cv3 p0
  have p0_4 := cv4 p0
  have p0_5 := cv5 p0
  have p0_l := lt_heap p0
  have P0 := Lib.hid p0
  clear p0
  simp only
  go_upto_region 4 with (fail)
  refine gen_last (fun wa => Below w.heap.size w wa ∧ wa.heap[w.heap.size]? = some (.cells #[.int .i64 t.lab.kind, .string t.lab.nm, .int .i64 t.lab.ix, .string s0, .slice A0 n0 c0, .slice B0 m0 d0] 27 (0, 0))) ?_ ?_
  · exact ⟨(HB2.out.alloc (by omega) _).alloc (by simp; omega) _, heap_old (by simp; omega) (heap_old p0_l P0.out)⟩
  rintro wa ⟨hBa, p0⟩
  have lga : 0 < wa.heap.size := by have := hBa.size; omega
  have hna := Lib.hid (normal_any t [.int .i64 t.lab.kind, .string t.lab.nm, .int .i64 t.lab.ix, .string s0, .slice A0 n0 c0, .slice B0 m0 d0] wa S (tmRep.keep HT.out (fun k hk => hBa.block k (HS.out k hk)) (fun _ h => h)) (fun k hk => by have := HS.out k hk; have := hBa.size; omega))
  clear p0_0 p0_1 p0_2 p0_3 p0_4 p0_5 p0_l c0' c1' l2 l2b
  have HBA := Lib.hid hBa
  have HNA := Lib.hid hna
  clear hBa hna
  have p0_0 := cv0 p0
  have p0_1 := cv1 p0
  have p0_2 := cv2 p0
  have p0_3 := cv3 p0
  have p0_4 := cv4 p0
  have p0_5 := cv5 p0
  have p0_l := lt_heap p0
  have P0 := Lib.hid p0
  clear p0
  go_wp2_with fail
  (with_reducible refine HNA.out.out.mono ?_)
  rintro e w3 hr
  have hw3 := hr.2.2
  have z3 := hw3.size
  have hB3 := HBA.out.trans (hw3.mono (by have := HBA.out.size; omega))
  have p0 := (hw3.block w.heap.size p0_l).trans P0.out
  have c0' := (hB3.cell (p := ⟨0, 0, none⟩) hg).trans G0.out
  have c1' := (hB3.cell (p := ⟨0, 1, none⟩) hg).trans G1.out
  have l3 : 0 < w3.heap.size := by omega
  have l3b : 0 < w3.heap.size + 1 := by omega
  have l3w : w.heap.size < w3.heap.size := by omega
  clear p0_0 p0_1 p0_2 p0_3 p0_4 p0_5 p0_l
  rcases hr.cases3 with ⟨c, i, hc, rfl⟩ | ⟨v, u, s, ds, htv, ov, tv, hzv, hru, rfl, hu⟩
  · have hc' : (c == 0) = false := beq_eq_false_iff_ne.2 hc
    clear hr hc
    have HW3 := Lib.hid hw3
    have HB3 := Lib.hid hB3
    have P0 := Lib.hid p0
    clear hw3 hB3 p0
    unfold zTm
    go_wp2_with fail
    go_quiet (fail)
    go_upto_region 9 with (fail)
    refine gen_last (fun wb => Below w.heap.size w wb ∧ wb.heap[w.heap.size]? = some (.cells #[.int .i64 t.lab.kind, .string t.lab.nm, .int .i64 t.lab.ix, .string s0, .slice A0 n0 c0, .slice B0 m0 d0] 27 (0, 0))) ?_ ?_
    · exact ⟨below_drewN ((HB3.out.alloc (by omega) _).alloc (by simp; omega) _) _, (heap_drewN (heap_old (by simp; omega) (heap_old l3w P0.out)) _)⟩
    rintro wb ⟨hBb, p0⟩
    have lgb : 0 < wb.heap.size := by have := hBb.size; omega
    have lgb2 : w.heap.size < wb.heap.size := lt_heap p0
    clear c0' c1' l3 l3b hc'
    have hlb := Lib.hid (long_any t [.int .i64 t.lab.kind, .string t.lab.nm, .int .i64 t.lab.ix, .string s0, .slice A0 n0 c0, .slice B0 m0 d0] wb S (tmRep.keep HT.out (fun k hk => hBb.block k (HS.out k hk)) (fun _ h => h)) (fun k hk => by have := HS.out k hk; have := hBb.size; omega))
    have zb := hBb.size
    have p0_l := lt_heap p0
    clear p0_l
    have HBB := Lib.hid hBb
    have HLB := Lib.hid hlb
    clear hBb hlb
    have p0_0 := cv0 p0
    have p0_1 := cv1 p0
    have p0_2 := cv2 p0
    have p0_3 := cv3 p0
    have p0_4 := cv4 p0
    have p0_5 := cv5 p0
    have p0_l := lt_heap p0
    have P0 := Lib.hid p0
    clear p0
    go_wp2_with fail
    (with_reducible refine HLB.out.out.mono ?_)
    rintro e w3 hr
    have hw3 := hr.2.2
    have z3 := hw3.size
    have hB3 := HBB.out.trans (hw3.mono (by have := HBB.out.size; omega))
    have p0 := (hw3.block w.heap.size p0_l).trans P0.out
    have c0' := (hB3.cell (p := ⟨0, 0, none⟩) hg).trans G0.out
    have c1' := (hB3.cell (p := ⟨0, 1, none⟩) hg).trans G1.out
    have l3 : 0 < w3.heap.size := by omega
    have l3b : 0 < w3.heap.size + 1 := by omega
    have l3w : w.heap.size < w3.heap.size := by omega
    clear p0_0 p0_1 p0_2 p0_3 p0_4 p0_5 p0_l
    rcases hr.cases3 with ⟨c, i, hc, rfl⟩ | ⟨v, u, s, ds, rfl, ov, tv, hzv, hru, rfl, hu⟩
    · have hc' : (c == 0) = false := beq_eq_false_iff_ne.2 hc
      clear hr hc
      have HW3 := Lib.hid hw3
      have HB3 := Lib.hid hB3
      have P0 := Lib.hid p0
      clear hw3 hB3 p0
      unfold zTm
      go_wp2_with fail
      go_quiet (fail)
      go_wp2_with fail
      go_returns
      exact ⟨rfl, below_drewN ((HB3.out.alloc (by omega) _).alloc (by simp; omega) _) _⟩
    obtain ⟨s3, A3, n3, c3, B3, m3, d3, rfl, _, _⟩ := Tm.shape hu
    have hval := fun (o p : Obj) => validateTm_any u.tm [.int .i64 u.tm.lab.kind, .string u.tm.lab.nm, .int .i64 u.tm.lab.ix, .string s3, .slice A3 n3 c3, .slice B3 m3 d3] ((w3.alloc o).alloc p).drew (Lo w3) (tmRep.keep hu (fun k hk => heap_drew (heap_old (by have := hk.2; simp; omega) (heap_old hk.2 rfl))) (fun k hk => hk.2)) (fun k hk => by have h' : k < w3.heap.size := hk; simp; omega)
    have HU3 := Lib.hid (tmRep.keep (S' := Lo w3) hu (fun _ _ => rfl) (fun k hk => hk.2))
    have HRU := Lib.hid hru
    have HTV := Lib.hid tv
    clear hr hu hru tv ov hzv
    have HW3 := Lib.hid hw3
    have P0 := Lib.hid p0
    clear hw3 p0
    have hBA := ((hB3.alloc (by omega) (.cells #[.int .i64 u.tm.lab.kind, .string u.tm.lab.nm, .int .i64 u.tm.lab.ix, .string s3, .slice A3 n3 c3, .slice B3 m3 d3] 27)).alloc (by simp; omega) (.cells #[.int .i64 0, .int .i64 0] 29))
    have HBA := Lib.hid hBA
    clear hBA
    by_cases hz : (tmFault u.tm).1 = 0
    case neg =>
      have hcz : (((tmFault u.tm).1 : Int) == 0) = false := beq_eq_false_iff_ne.2 (by omega)
      clear hz
      have HVAL := Lib.hid hval
      clear hval
      go_wp2_with fail
      go_region_held3 (fun w' => w'.cell? ⟨w3.heap.size + 1, 0, none⟩ = some (.int .i64 0) ∧ w'.cell? ⟨w3.heap.size + 1, 1, none⟩ = some (.int .i64 0) ∧ w'.cell? ⟨0, 0, none⟩ = some (.int .i64 0) ∧ w'.cell? ⟨0, 1, none⟩ = some (.int .i64 0) ∧ w'.cell? ⟨w3.heap.size, 0, none⟩ = some (.int .i64 u.tm.lab.kind) ∧ w'.cell? ⟨w3.heap.size, 1, none⟩ = some (.string u.tm.lab.nm) ∧ w'.cell? ⟨w3.heap.size, 2, none⟩ = some (.int .i64 u.tm.lab.ix) ∧ w'.cell? ⟨w3.heap.size, 3, none⟩ = some (.string s3) ∧ w'.cell? ⟨w3.heap.size, 4, none⟩ = some (.slice A3 n3 c3) ∧ w'.cell? ⟨w3.heap.size, 5, none⟩ = some (.slice B3 m3 d3))
        ((first | (go_keep; done) | (go_split_ands; (repeat' apply And.intro) <;> (refine (kc4 _ _ (by omega)).trans ?_; assumption))))
        (((with_reducible refine (HVAL.out _ _).mono ?_); rintro e w4 ⟨rfl, hw4⟩; have kc4 : ∀ k q, k < w3.heap.size + 2 → w4.cell? ⟨k, q, none⟩ = _ := (fun k q h => hw4.cell (p := ⟨k, q, none⟩) (by simp; omega)); have z4 : w3.heap.size + 2 ≤ w4.heap.size := (by have := hw4.size; simpa using this); have HW4 := Lib.hid hw4; clear hw4))
      go_wp2_with fail
      go_returns
      exact ⟨rfl, (HBA.out.drew).trans (HW4.out.mono (by simp; omega))⟩
    have ez := tmFault_zz hz
    obtain ⟨vu, su, eu, ou, nu, du, tu, _⟩ := tmFault_zero hz
    obtain rfl := Tv.tm_inj _ _ eu
    rw [ez] at hval
    have HZU := Lib.hid hz
    have hag := Tv.long_again HTV.out HRU.out tu
    clear hz ez eu
    have HVAL := Lib.hid hval
    clear hval
    go_wp2_with fail
    go_region_held3 (fun w' => w'.cell? ⟨w3.heap.size + 1, 0, none⟩ = some (.int .i64 0) ∧ w'.cell? ⟨w3.heap.size + 1, 1, none⟩ = some (.int .i64 0) ∧ w'.cell? ⟨0, 0, none⟩ = some (.int .i64 0) ∧ w'.cell? ⟨0, 1, none⟩ = some (.int .i64 0) ∧ w'.cell? ⟨w3.heap.size, 0, none⟩ = some (.int .i64 u.tm.lab.kind) ∧ w'.cell? ⟨w3.heap.size, 1, none⟩ = some (.string u.tm.lab.nm) ∧ w'.cell? ⟨w3.heap.size, 2, none⟩ = some (.int .i64 u.tm.lab.ix) ∧ w'.cell? ⟨w3.heap.size, 3, none⟩ = some (.string s3) ∧ w'.cell? ⟨w3.heap.size, 4, none⟩ = some (.slice A3 n3 c3) ∧ w'.cell? ⟨w3.heap.size, 5, none⟩ = some (.slice B3 m3 d3))
      ((first | (go_keep; done) | (go_split_ands; (repeat' apply And.intro) <;> (refine (kc4 _ _ (by omega)).trans ?_; assumption))))
      (((with_reducible refine (HVAL.out _ _).mono ?_); rintro e w4 ⟨rfl, hw4⟩; have kc4 : ∀ k q, k < w3.heap.size + 2 → w4.cell? ⟨k, q, none⟩ = _ := (fun k q h => hw4.cell (p := ⟨k, q, none⟩) (by simp; omega)); have z4 : w3.heap.size + 2 ≤ w4.heap.size := (by have := hw4.size; simpa using this); have HW4 := Lib.hid hw4; clear hw4))
    have hB4 : Below w.heap.size w w4 := (HBA.out.drew).trans (HW4.out.mono (by simp; omega))
    have q6 := (HW4.out.block w3.heap.size (by simp; omega)).trans (heap_drew (heap_old (by simp) (heap_at rfl)))
    have c0' := (hB4.cell (p := ⟨0, 0, none⟩) hg).trans G0.out
    have c1' := (hB4.cell (p := ⟨0, 1, none⟩) hg).trans G1.out
    have l4 : 0 < w4.heap.size := by omega
    have hu4 : tmRep.R w4 (Lo w3) u.tm [.int .i64 u.tm.lab.kind, .string u.tm.lab.nm, .int .i64 u.tm.lab.ix, .string s3, .slice A3 n3 c3, .slice B3 m3 d3] := tmRep.keep HU3.out (fun k hk => by have h' : k < w3.heap.size := hk; exact (HW4.out.block k (by simp; omega)).trans (heap_drew (heap_old (by simp; omega) (heap_old h' rfl)))) (fun _ h => h)
    have hn2 := Lib.hid (long_any u.tm [.int .i64 u.tm.lab.kind, .string u.tm.lab.nm, .int .i64 u.tm.lab.ix, .string s3, .slice A3 n3 c3, .slice B3 m3 d3] w4 (Lo w3) hu4 (fun k hk => by have h' : k < w3.heap.size := hk; omega))
    clear kc4 ou nu du tu
    have HB4 := Lib.hid hB4
    have HU4 := Lib.hid hu4
    have HN2 := Lib.hid hn2
    clear hB4 hu4 hn2
    have q6_0 := cv0 q6
    have q6_1 := cv1 q6
    have q6_2 := cv2 q6
    have q6_3 := cv3 q6
    have q6_4 := cv4 q6
    have q6_5 := cv5 q6
    have q6_l := lt_heap q6
    have Q6 := Lib.hid q6
    clear q6
    go_wp2_with fail
    (with_reducible refine HN2.out.out.mono ?_)
    rintro e w5 hr
    have hw5 := hr.2.2
    have z5 := hw5.size
    have hB5 := HB4.out.trans (hw5.mono (by omega))
    have q6 := (hw5.block _ q6_l).trans Q6.out
    have c0' := (hB5.cell (p := ⟨0, 0, none⟩) hg).trans G0.out
    have c1' := (hB5.cell (p := ⟨0, 1, none⟩) hg).trans G1.out
    have l5 : 0 < w5.heap.size := by omega
    have l5b : 0 < w5.heap.size + 1 := by omega
    have l6 : w3.heap.size < w5.heap.size := by omega
    rcases hr.2.1 u rfl HZU.out with ⟨h1, _⟩ | ⟨u2, ds, hu2, rfl, hua⟩
    · rw [hag.1] at h1; simp at h1
    obtain rfl : u = u2 := by rw [hag.1] at hu2; exact Option.some.inj hu2
    obtain ⟨s8, A8, n8, c8, B8, m8, d8, rfl, _, _⟩ := Tm.shape hua
    have heq := fun (o p : Obj) => eqTm_any _ u.tm u.tm [.int .i64 u.tm.lab.kind, .string u.tm.lab.nm, .int .i64 u.tm.lab.ix, .string s3, .slice A3 n3 c3, .slice B3 m3 d3] [.int .i64 u.tm.lab.kind, .string u.tm.lab.nm, .int .i64 u.tm.lab.ix, .string s8, .slice A8 n8 c8, .slice B8 m8 d8] ((w5.alloc o).alloc p) (Lo w5) (Nat.le_refl _)
      (tmRep.keep HU4.out (fun k hk => by have h' : k < w3.heap.size := hk; exact heap_old (by simp; omega) (heap_old (by omega) (hw5.block k (by omega)))) (fun k hk => by have h' : k < w3.heap.size := hk; exact (show k < w5.heap.size by omega)))
      (tmRep.keep hua (fun k hk => heap_old (by have := hk.2; simp; omega) (heap_old hk.2 rfl)) (fun k hk => hk.2)) (fun k hk => by have h' : k < w5.heap.size := hk; simp; omega)
    rw [tmBeq_self] at heq
    clear q6_0 q6_1 q6_2 q6_3 q6_4 q6_5 q6_l hr hua hu2 hag
    have HW5 := Lib.hid hw5
    have HB5 := Lib.hid hB5
    have HEQ := Lib.hid heq
    clear hw5 hB5 heq
    have q6_0 := cv0 q6
    have q6_1 := cv1 q6
    have q6_2 := cv2 q6
    have q6_3 := cv3 q6
    have q6_4 := cv4 q6
    have q6_5 := cv5 q6
    have q6_l := lt_heap q6
    have Q6 := Lib.hid q6
    clear q6
    go_wp2_with fail
    (with_reducible refine (HEQ.out _ _).mono ?_)
    rintro e w7 ⟨rfl, hw7⟩
    have HW7 := Lib.hid hw7
    clear hw7
    go_wp2_with fail
    go_returns
    exact ⟨rfl, ((HB5.out.alloc (by omega) _).alloc (by simp; omega) _).trans (HW7.out.mono (by simp; omega))⟩
  obtain ⟨s3, A3, n3, c3, B3, m3, d3, rfl, _, _⟩ := Tm.shape hu
  have hval := fun (o p : Obj) => validateTm_any u.tm [.int .i64 u.tm.lab.kind, .string u.tm.lab.nm, .int .i64 u.tm.lab.ix, .string s3, .slice A3 n3 c3, .slice B3 m3 d3] ((w3.alloc o).alloc p).drew (Lo w3) (tmRep.keep hu (fun k hk => heap_drew (heap_old (by have := hk.2; simp; omega) (heap_old hk.2 rfl))) (fun k hk => hk.2)) (fun k hk => by have h' : k < w3.heap.size := hk; simp; omega)
  have HU3 := Lib.hid (tmRep.keep (S' := Lo w3) hu (fun _ _ => rfl) (fun k hk => hk.2))
  have HRU := Lib.hid hru
  clear hr hu hru tv ov hzv htv
  have HW3 := Lib.hid hw3
  have P0 := Lib.hid p0
  clear hw3 p0
  have hBA3 := ((hB3.alloc (by omega) (.cells #[.int .i64 u.tm.lab.kind, .string u.tm.lab.nm, .int .i64 u.tm.lab.ix, .string s3, .slice A3 n3 c3, .slice B3 m3 d3] 27)).alloc (by simp; omega) (.cells #[.int .i64 0, .int .i64 0] 29))
  have HBA3 := Lib.hid hBA3
  clear hBA3
  by_cases hz : (tmFault u.tm).1 = 0
  case neg =>
    have hcz : (((tmFault u.tm).1 : Int) == 0) = false := beq_eq_false_iff_ne.2 (by omega)
    clear hz
    have HVAL := Lib.hid hval
    clear hval
    go_wp2_with fail
    go_region_held3 (fun w' => w'.cell? ⟨w3.heap.size + 1, 0, none⟩ = some (.int .i64 0) ∧ w'.cell? ⟨w3.heap.size + 1, 1, none⟩ = some (.int .i64 0) ∧ w'.cell? ⟨0, 0, none⟩ = some (.int .i64 0) ∧ w'.cell? ⟨0, 1, none⟩ = some (.int .i64 0) ∧ w'.cell? ⟨w3.heap.size, 0, none⟩ = some (.int .i64 u.tm.lab.kind) ∧ w'.cell? ⟨w3.heap.size, 1, none⟩ = some (.string u.tm.lab.nm) ∧ w'.cell? ⟨w3.heap.size, 2, none⟩ = some (.int .i64 u.tm.lab.ix) ∧ w'.cell? ⟨w3.heap.size, 3, none⟩ = some (.string s3) ∧ w'.cell? ⟨w3.heap.size, 4, none⟩ = some (.slice A3 n3 c3) ∧ w'.cell? ⟨w3.heap.size, 5, none⟩ = some (.slice B3 m3 d3))
      ((first | (go_keep; done) | (go_split_ands; (repeat' apply And.intro) <;> (refine (kc4 _ _ (by omega)).trans ?_; assumption))))
      (((with_reducible refine (HVAL.out _ _).mono ?_); rintro e w4 ⟨rfl, hw4⟩; have kc4 : ∀ k q, k < w3.heap.size + 2 → w4.cell? ⟨k, q, none⟩ = _ := (fun k q h => hw4.cell (p := ⟨k, q, none⟩) (by simp; omega)); have z4 : w3.heap.size + 2 ≤ w4.heap.size := (by have := hw4.size; simpa using this); have HW4 := Lib.hid hw4; clear hw4))
    go_upto_region 9 with (fail)
    refine gen_last (fun wb => Below w.heap.size w wb ∧ wb.heap[w.heap.size]? = some (.cells #[.int .i64 t.lab.kind, .string t.lab.nm, .int .i64 t.lab.ix, .string s0, .slice A0 n0 c0, .slice B0 m0 d0] 27 (0, 0))) ?_ ?_
    · exact ⟨(HBA3.out.drew).trans (HW4.out.mono (by simp; omega)), (HW4.out.block w.heap.size (by simp; omega)).trans (heap_drew (heap_old (by simp; omega) (heap_old l3w P0.out)))⟩
    rintro wb ⟨hBb, p0⟩
    have lgb : 0 < wb.heap.size := by have := hBb.size; omega
    have lgb2 : w.heap.size < wb.heap.size := lt_heap p0
    clear c0' c1' l3 l3b kc4 z4
    have hlb := Lib.hid (long_any t [.int .i64 t.lab.kind, .string t.lab.nm, .int .i64 t.lab.ix, .string s0, .slice A0 n0 c0, .slice B0 m0 d0] wb S (tmRep.keep HT.out (fun k hk => hBb.block k (HS.out k hk)) (fun _ h => h)) (fun k hk => by have := HS.out k hk; have := hBb.size; omega))
    have zb := hBb.size
    have p0_l := lt_heap p0
    clear p0_l
    have HBB := Lib.hid hBb
    have HLB := Lib.hid hlb
    clear hBb hlb
    have p0_0 := cv0 p0
    have p0_1 := cv1 p0
    have p0_2 := cv2 p0
    have p0_3 := cv3 p0
    have p0_4 := cv4 p0
    have p0_5 := cv5 p0
    have p0_l := lt_heap p0
    have P0 := Lib.hid p0
    clear p0
    go_wp2_with fail
    (with_reducible refine HLB.out.out.mono ?_)
    rintro e w3 hr
    have hw3 := hr.2.2
    have z3 := hw3.size
    have hB3 := HBB.out.trans (hw3.mono (by have := HBB.out.size; omega))
    have p0 := (hw3.block w.heap.size p0_l).trans P0.out
    have c0' := (hB3.cell (p := ⟨0, 0, none⟩) hg).trans G0.out
    have c1' := (hB3.cell (p := ⟨0, 1, none⟩) hg).trans G1.out
    have l3 : 0 < w3.heap.size := by omega
    have l3b : 0 < w3.heap.size + 1 := by omega
    have l3w : w.heap.size < w3.heap.size := by omega
    clear p0_0 p0_1 p0_2 p0_3 p0_4 p0_5 p0_l
    rcases hr.cases3 with ⟨c, i, hc, rfl⟩ | ⟨v, u, s, ds, rfl, ov, tv, hzv, hru, rfl, hu⟩
    · have hc' : (c == 0) = false := beq_eq_false_iff_ne.2 hc
      clear hr hc
      have HW3 := Lib.hid hw3
      have HB3 := Lib.hid hB3
      have P0 := Lib.hid p0
      clear hw3 hB3 p0
      unfold zTm
      go_wp2_with fail
      go_quiet (fail)
      go_wp2_with fail
      go_returns
      exact ⟨rfl, below_drewN ((HB3.out.alloc (by omega) _).alloc (by simp; omega) _) _⟩
    obtain ⟨s3, A3, n3, c3, B3, m3, d3, rfl, _, _⟩ := Tm.shape hu
    have hval := fun (o p : Obj) => validateTm_any u.tm [.int .i64 u.tm.lab.kind, .string u.tm.lab.nm, .int .i64 u.tm.lab.ix, .string s3, .slice A3 n3 c3, .slice B3 m3 d3] ((w3.alloc o).alloc p).drew (Lo w3) (tmRep.keep hu (fun k hk => heap_drew (heap_old (by have := hk.2; simp; omega) (heap_old hk.2 rfl))) (fun k hk => hk.2)) (fun k hk => by have h' : k < w3.heap.size := hk; simp; omega)
    have HU3 := Lib.hid (tmRep.keep (S' := Lo w3) hu (fun _ _ => rfl) (fun k hk => hk.2))
    have HRU := Lib.hid hru
    have HTV := Lib.hid tv
    clear hr hu hru tv ov hzv
    have HW3 := Lib.hid hw3
    have P0 := Lib.hid p0
    clear hw3 p0
    have hBA := ((hB3.alloc (by omega) (.cells #[.int .i64 u.tm.lab.kind, .string u.tm.lab.nm, .int .i64 u.tm.lab.ix, .string s3, .slice A3 n3 c3, .slice B3 m3 d3] 27)).alloc (by simp; omega) (.cells #[.int .i64 0, .int .i64 0] 29))
    have HBA := Lib.hid hBA
    clear hBA
    by_cases hz : (tmFault u.tm).1 = 0
    case neg =>
      have hcz : (((tmFault u.tm).1 : Int) == 0) = false := beq_eq_false_iff_ne.2 (by omega)
      clear hz
      have HVAL := Lib.hid hval
      clear hval
      go_wp2_with fail
      go_region_held3 (fun w' => w'.cell? ⟨w3.heap.size + 1, 0, none⟩ = some (.int .i64 0) ∧ w'.cell? ⟨w3.heap.size + 1, 1, none⟩ = some (.int .i64 0) ∧ w'.cell? ⟨0, 0, none⟩ = some (.int .i64 0) ∧ w'.cell? ⟨0, 1, none⟩ = some (.int .i64 0) ∧ w'.cell? ⟨w3.heap.size, 0, none⟩ = some (.int .i64 u.tm.lab.kind) ∧ w'.cell? ⟨w3.heap.size, 1, none⟩ = some (.string u.tm.lab.nm) ∧ w'.cell? ⟨w3.heap.size, 2, none⟩ = some (.int .i64 u.tm.lab.ix) ∧ w'.cell? ⟨w3.heap.size, 3, none⟩ = some (.string s3) ∧ w'.cell? ⟨w3.heap.size, 4, none⟩ = some (.slice A3 n3 c3) ∧ w'.cell? ⟨w3.heap.size, 5, none⟩ = some (.slice B3 m3 d3))
        ((first | (go_keep; done) | (go_split_ands; (repeat' apply And.intro) <;> (refine (kc14 _ _ (by omega)).trans ?_; assumption))))
        (((with_reducible refine (HVAL.out _ _).mono ?_); rintro e w14 ⟨rfl, hw14⟩; have kc14 : ∀ k q, k < w3.heap.size + 2 → w14.cell? ⟨k, q, none⟩ = _ := (fun k q h => hw14.cell (p := ⟨k, q, none⟩) (by simp; omega)); have z4 : w3.heap.size + 2 ≤ w14.heap.size := (by have := hw14.size; simpa using this); have HW4 := Lib.hid hw14; clear hw14))
      go_wp2_with fail
      go_returns
      exact ⟨rfl, (HBA.out.drew).trans (HW4.out.mono (by simp; omega))⟩
    have ez := tmFault_zz hz
    obtain ⟨vu, su, eu, ou, nu, du, tu, _⟩ := tmFault_zero hz
    obtain rfl := Tv.tm_inj _ _ eu
    rw [ez] at hval
    have HZU := Lib.hid hz
    have hag := Tv.long_again HTV.out HRU.out tu
    clear hz ez eu
    have HVAL := Lib.hid hval
    clear hval
    go_wp2_with fail
    go_region_held3 (fun w' => w'.cell? ⟨w3.heap.size + 1, 0, none⟩ = some (.int .i64 0) ∧ w'.cell? ⟨w3.heap.size + 1, 1, none⟩ = some (.int .i64 0) ∧ w'.cell? ⟨0, 0, none⟩ = some (.int .i64 0) ∧ w'.cell? ⟨0, 1, none⟩ = some (.int .i64 0) ∧ w'.cell? ⟨w3.heap.size, 0, none⟩ = some (.int .i64 u.tm.lab.kind) ∧ w'.cell? ⟨w3.heap.size, 1, none⟩ = some (.string u.tm.lab.nm) ∧ w'.cell? ⟨w3.heap.size, 2, none⟩ = some (.int .i64 u.tm.lab.ix) ∧ w'.cell? ⟨w3.heap.size, 3, none⟩ = some (.string s3) ∧ w'.cell? ⟨w3.heap.size, 4, none⟩ = some (.slice A3 n3 c3) ∧ w'.cell? ⟨w3.heap.size, 5, none⟩ = some (.slice B3 m3 d3))
      ((first | (go_keep; done) | (go_split_ands; (repeat' apply And.intro) <;> (refine (kc14 _ _ (by omega)).trans ?_; assumption))))
      (((with_reducible refine (HVAL.out _ _).mono ?_); rintro e w14 ⟨rfl, hw14⟩; have kc14 : ∀ k q, k < w3.heap.size + 2 → w14.cell? ⟨k, q, none⟩ = _ := (fun k q h => hw14.cell (p := ⟨k, q, none⟩) (by simp; omega)); have z4 : w3.heap.size + 2 ≤ w14.heap.size := (by have := hw14.size; simpa using this); have HW4 := Lib.hid hw14; clear hw14))
    have hB4 : Below w.heap.size w w14 := (HBA.out.drew).trans (HW4.out.mono (by simp; omega))
    have q6 := (HW4.out.block w3.heap.size (by simp; omega)).trans (heap_drew (heap_old (by simp) (heap_at rfl)))
    have c0' := (hB4.cell (p := ⟨0, 0, none⟩) hg).trans G0.out
    have c1' := (hB4.cell (p := ⟨0, 1, none⟩) hg).trans G1.out
    have l4 : 0 < w14.heap.size := by omega
    have hu4 : tmRep.R w14 (Lo w3) u.tm [.int .i64 u.tm.lab.kind, .string u.tm.lab.nm, .int .i64 u.tm.lab.ix, .string s3, .slice A3 n3 c3, .slice B3 m3 d3] := tmRep.keep HU3.out (fun k hk => by have h' : k < w3.heap.size := hk; exact (HW4.out.block k (by simp; omega)).trans (heap_drew (heap_old (by simp; omega) (heap_old h' rfl)))) (fun _ h => h)
    have hn2 := Lib.hid (long_any u.tm [.int .i64 u.tm.lab.kind, .string u.tm.lab.nm, .int .i64 u.tm.lab.ix, .string s3, .slice A3 n3 c3, .slice B3 m3 d3] w14 (Lo w3) hu4 (fun k hk => by have h' : k < w3.heap.size := hk; omega))
    clear kc14 ou nu du tu
    have HB4 := Lib.hid hB4
    have HU4 := Lib.hid hu4
    have HN2 := Lib.hid hn2
    clear hB4 hu4 hn2
    have q6_0 := cv0 q6
    have q6_1 := cv1 q6
    have q6_2 := cv2 q6
    have q6_3 := cv3 q6
    have q6_4 := cv4 q6
    have q6_5 := cv5 q6
    have q6_l := lt_heap q6
    have Q6 := Lib.hid q6
    clear q6
    go_wp2_with fail
    (with_reducible refine HN2.out.out.mono ?_)
    rintro e w5 hr
    have hw5 := hr.2.2
    have z5 := hw5.size
    have hB5 := HB4.out.trans (hw5.mono (by omega))
    have q6 := (hw5.block _ q6_l).trans Q6.out
    have c0' := (hB5.cell (p := ⟨0, 0, none⟩) hg).trans G0.out
    have c1' := (hB5.cell (p := ⟨0, 1, none⟩) hg).trans G1.out
    have l5 : 0 < w5.heap.size := by omega
    have l5b : 0 < w5.heap.size + 1 := by omega
    have l6 : w3.heap.size < w5.heap.size := by omega
    rcases hr.2.1 u rfl HZU.out with ⟨h1, _⟩ | ⟨u2, ds, hu2, rfl, hua⟩
    · rw [hag.1] at h1; simp at h1
    obtain rfl : u = u2 := by rw [hag.1] at hu2; exact Option.some.inj hu2
    obtain ⟨s8, A8, n8, c8, B8, m8, d8, rfl, _, _⟩ := Tm.shape hua
    have heq := fun (o p : Obj) => eqTm_any _ u.tm u.tm [.int .i64 u.tm.lab.kind, .string u.tm.lab.nm, .int .i64 u.tm.lab.ix, .string s3, .slice A3 n3 c3, .slice B3 m3 d3] [.int .i64 u.tm.lab.kind, .string u.tm.lab.nm, .int .i64 u.tm.lab.ix, .string s8, .slice A8 n8 c8, .slice B8 m8 d8] ((w5.alloc o).alloc p) (Lo w5) (Nat.le_refl _)
      (tmRep.keep HU4.out (fun k hk => by have h' : k < w3.heap.size := hk; exact heap_old (by simp; omega) (heap_old (by omega) (hw5.block k (by omega)))) (fun k hk => by have h' : k < w3.heap.size := hk; exact (show k < w5.heap.size by omega)))
      (tmRep.keep hua (fun k hk => heap_old (by have := hk.2; simp; omega) (heap_old hk.2 rfl)) (fun k hk => hk.2)) (fun k hk => by have h' : k < w5.heap.size := hk; simp; omega)
    rw [tmBeq_self] at heq
    clear q6_0 q6_1 q6_2 q6_3 q6_4 q6_5 q6_l hr hua hu2 hag
    have HW5 := Lib.hid hw5
    have HB5 := Lib.hid hB5
    have HEQ := Lib.hid heq
    clear hw5 hB5 heq
    have q6_0 := cv0 q6
    have q6_1 := cv1 q6
    have q6_2 := cv2 q6
    have q6_3 := cv3 q6
    have q6_4 := cv4 q6
    have q6_5 := cv5 q6
    have q6_l := lt_heap q6
    have Q6 := Lib.hid q6
    clear q6
    go_wp2_with fail
    (with_reducible refine (HEQ.out _ _).mono ?_)
    rintro e w7 ⟨rfl, hw7⟩
    have HW7 := Lib.hid hw7
    clear hw7
    go_wp2_with fail
    go_returns
    exact ⟨rfl, ((HB5.out.alloc (by omega) _).alloc (by simp; omega) _).trans (HW7.out.mono (by simp; omega))⟩
  have ez := tmFault_zz hz
  rw [ez] at hval
  have HZU := Lib.hid hz
  have hno := Tv.normal_again HRU.out
  clear hz ez
  have HVAL := Lib.hid hval
  have HNO := Lib.hid hno
  clear hval hno
  go_wp2_with fail
  go_region_held3 (fun w' => w'.cell? ⟨w3.heap.size + 1, 0, none⟩ = some (.int .i64 0) ∧ w'.cell? ⟨w3.heap.size + 1, 1, none⟩ = some (.int .i64 0) ∧ w'.cell? ⟨0, 0, none⟩ = some (.int .i64 0) ∧ w'.cell? ⟨0, 1, none⟩ = some (.int .i64 0) ∧ w'.cell? ⟨w3.heap.size, 0, none⟩ = some (.int .i64 u.tm.lab.kind) ∧ w'.cell? ⟨w3.heap.size, 1, none⟩ = some (.string u.tm.lab.nm) ∧ w'.cell? ⟨w3.heap.size, 2, none⟩ = some (.int .i64 u.tm.lab.ix) ∧ w'.cell? ⟨w3.heap.size, 3, none⟩ = some (.string s3) ∧ w'.cell? ⟨w3.heap.size, 4, none⟩ = some (.slice A3 n3 c3) ∧ w'.cell? ⟨w3.heap.size, 5, none⟩ = some (.slice B3 m3 d3))
    ((first | (go_keep; done) | (go_split_ands; (repeat' apply And.intro) <;> (refine (kc4 _ _ (by omega)).trans ?_; assumption))))
    (((with_reducible refine (HVAL.out _ _).mono ?_); rintro e w4 ⟨rfl, hw4⟩; have kc4 : ∀ k q, k < w3.heap.size + 2 → w4.cell? ⟨k, q, none⟩ = _ := (fun k q h => hw4.cell (p := ⟨k, q, none⟩) (by simp; omega)); have z4 : w3.heap.size + 2 ≤ w4.heap.size := (by have := hw4.size; simpa using this); have HW4 := Lib.hid hw4; clear hw4))
  have hB4 : Below w.heap.size w w4 := (HBA3.out.drew).trans (HW4.out.mono (by simp; omega))
  have q6 := (HW4.out.block w3.heap.size (by simp; omega)).trans (heap_drew (heap_old (by simp) (heap_at rfl)))
  have p0 := (HW4.out.block w.heap.size (by simp; omega)).trans (heap_drew (heap_old (by simp; omega) (heap_old l3w P0.out)))
  have l4 : 0 < w4.heap.size := by omega
  have hu4 : tmRep.R w4 (Lo w3) u.tm [.int .i64 u.tm.lab.kind, .string u.tm.lab.nm, .int .i64 u.tm.lab.ix, .string s3, .slice A3 n3 c3, .slice B3 m3 d3] := tmRep.keep HU3.out (fun k hk => by have h' : k < w3.heap.size := hk; exact (HW4.out.block k (by simp; omega)).trans (heap_drew (heap_old (by simp; omega) (heap_old h' rfl)))) (fun _ h => h)
  have hn2 := Lib.hid (stepOf_any u.tm [.int .i64 u.tm.lab.kind, .string u.tm.lab.nm, .int .i64 u.tm.lab.ix, .string s3, .slice A3 n3 c3, .slice B3 m3 d3] w4 (Lo w3) hu4 (fun k hk => by have h' : k < w3.heap.size := hk; omega))
  clear kc4 c0' c1' l3 l3b
  have HB4 := Lib.hid hB4
  have HU4 := Lib.hid hu4
  have HN2 := Lib.hid hn2
  clear hB4 hu4 hn2
  have q6_0 := cv0 q6
  have q6_1 := cv1 q6
  have q6_2 := cv2 q6
  have q6_3 := cv3 q6
  have q6_4 := cv4 q6
  have q6_5 := cv5 q6
  have q6_l := lt_heap q6
  have Q6 := Lib.hid q6
  clear q6
  have p0_0 := cv0 p0
  have p0_1 := cv1 p0
  have p0_2 := cv2 p0
  have p0_3 := cv3 p0
  have p0_4 := cv4 p0
  have p0_5 := cv5 p0
  have p0_l := lt_heap p0
  have P0 := Lib.hid p0
  clear p0
  go_wp2_with fail
  (with_reducible refine HN2.out.out.mono ?_)
  rintro e w5 hr
  have hw5 := hr.2.2
  have z5 := hw5.size
  have hB5 := HB4.out.trans (hw5.mono (by omega))
  have q6 := (hw5.block _ q6_l).trans Q6.out
  have p0 := (hw5.block _ p0_l).trans P0.out
  have c0' := (hB5.cell (p := ⟨0, 0, none⟩) hg).trans G0.out
  have c1' := (hB5.cell (p := ⟨0, 1, none⟩) hg).trans G1.out
  have l5 : 0 < w5.heap.size := by omega
  have l5b : 0 < w5.heap.size + 1 := by omega
  have l6 : w3.heap.size < w5.heap.size := by omega
  have hgd : u.step.getD u = u := by rw [HNO.out.1]; rfl
  have hsm : u.step.isSome = false := by rw [HNO.out.1]; rfl
  rcases hr.2.1 u rfl HZU.out with ⟨h1, _⟩ | ⟨_, ds, rfl, hua⟩
  · rw [hgd] at h1; have := HNO.out.2; omega
  rw [hgd] at hua
  rw [hsm]
  obtain ⟨s8, A8, n8, c8, B8, m8, d8, rfl, _, _⟩ := Tm.shape hua
  have heq := fun (o p : Obj) => eqTm_any _ u.tm u.tm [.int .i64 u.tm.lab.kind, .string u.tm.lab.nm, .int .i64 u.tm.lab.ix, .string s3, .slice A3 n3 c3, .slice B3 m3 d3] [.int .i64 u.tm.lab.kind, .string u.tm.lab.nm, .int .i64 u.tm.lab.ix, .string s8, .slice A8 n8 c8, .slice B8 m8 d8] ((w5.alloc o).alloc p) (Lo w5) (Nat.le_refl _)
    (tmRep.keep HU4.out (fun k hk => by have h' : k < w3.heap.size := hk; exact heap_old (by simp; omega) (heap_old (by omega) (hw5.block k (by omega)))) (fun k hk => by have h' : k < w3.heap.size := hk; exact (show k < w5.heap.size by omega)))
    (tmRep.keep hua (fun k hk => heap_old (by have := hk.2; simp; omega) (heap_old hk.2 rfl)) (fun k hk => hk.2)) (fun k hk => by have h' : k < w5.heap.size := hk; simp; omega)
  rw [tmBeq_self] at heq
  clear q6_0 q6_1 q6_2 q6_3 q6_4 q6_5 q6_l p0_0 p0_1 p0_2 p0_3 p0_4 p0_5 p0_l hr hua hgd hsm
  have HW5 := Lib.hid hw5
  have HB5 := Lib.hid hB5
  have HEQ := Lib.hid heq
  have P0 := Lib.hid p0
  clear hw5 hB5 heq p0
  have q6_0 := cv0 q6
  have q6_1 := cv1 q6
  have q6_2 := cv2 q6
  have q6_3 := cv3 q6
  have q6_4 := cv4 q6
  have q6_5 := cv5 q6
  have q6_l := lt_heap q6
  have Q6 := Lib.hid q6
  clear q6
  go_wp2_with fail
  (with_reducible refine (HEQ.out _ _).mono ?_)
  rintro e w7 ⟨rfl, hw7⟩
  have HW7 := Lib.hid hw7
  clear hw7
  go_upto_region 9 with (fail)
  refine gen_last (fun wb => Below w.heap.size w wb ∧ wb.heap[w.heap.size]? = some (.cells #[.int .i64 t.lab.kind, .string t.lab.nm, .int .i64 t.lab.ix, .string s0, .slice A0 n0 c0, .slice B0 m0 d0] 27 (0, 0))) ?_ ?_
  · exact ⟨((HB5.out.alloc (by omega) _).alloc (by simp; omega) _).trans (HW7.out.mono (by simp; omega)), (HW7.out.block w.heap.size (by simp; omega)).trans (heap_old (by simp; omega) (heap_old (by omega) P0.out))⟩
  rintro wb ⟨hBb, p0⟩
  have lgb : 0 < wb.heap.size := by have := hBb.size; omega
  have lgb2 : w.heap.size < wb.heap.size := lt_heap p0
  clear c0' c1' l5 l5b q6_0 q6_1 q6_2 q6_3 q6_4 q6_5 q6_l
  have hlb := Lib.hid (long_any t [.int .i64 t.lab.kind, .string t.lab.nm, .int .i64 t.lab.ix, .string s0, .slice A0 n0 c0, .slice B0 m0 d0] wb S (tmRep.keep HT.out (fun k hk => hBb.block k (HS.out k hk)) (fun _ h => h)) (fun k hk => by have := HS.out k hk; have := hBb.size; omega))
  have zb := hBb.size
  have p0_l := lt_heap p0
  clear p0_l
  have HBB := Lib.hid hBb
  have HLB := Lib.hid hlb
  clear hBb hlb
  have p0_0 := cv0 p0
  have p0_1 := cv1 p0
  have p0_2 := cv2 p0
  have p0_3 := cv3 p0
  have p0_4 := cv4 p0
  have p0_5 := cv5 p0
  have p0_l := lt_heap p0
  have P0 := Lib.hid p0
  clear p0
  go_wp2_with fail
  (with_reducible refine HLB.out.out.mono ?_)
  rintro e w13 hr
  have hw13 := hr.2.2
  have z3 := hw13.size
  have hB3 := HBB.out.trans (hw13.mono (by have := HBB.out.size; omega))
  have p0 := (hw13.block w.heap.size p0_l).trans P0.out
  have c0' := (hB3.cell (p := ⟨0, 0, none⟩) hg).trans G0.out
  have c1' := (hB3.cell (p := ⟨0, 1, none⟩) hg).trans G1.out
  have l3 : 0 < w13.heap.size := by omega
  have l3b : 0 < w13.heap.size + 1 := by omega
  have l3w : w.heap.size < w13.heap.size := by omega
  clear p0_0 p0_1 p0_2 p0_3 p0_4 p0_5 p0_l
  rcases hr.cases3 with ⟨c, i, hc, rfl⟩ | ⟨v, u, s, ds, rfl, ov, tv, hzv, hru, rfl, hu⟩
  · have hc' : (c == 0) = false := beq_eq_false_iff_ne.2 hc
    clear hr hc
    have HW13 := Lib.hid hw13
    have HB3 := Lib.hid hB3
    have P0 := Lib.hid p0
    clear hw13 hB3 p0
    unfold zTm
    go_wp2_with fail
    go_quiet (fail)
    go_wp2_with fail
    go_returns
    exact ⟨rfl, below_drewN ((HB3.out.alloc (by omega) _).alloc (by simp; omega) _) _⟩
  obtain ⟨s3, A3, n3, c3, B3, m3, d3, rfl, _, _⟩ := Tm.shape hu
  have hval := fun (o p : Obj) => validateTm_any u.tm [.int .i64 u.tm.lab.kind, .string u.tm.lab.nm, .int .i64 u.tm.lab.ix, .string s3, .slice A3 n3 c3, .slice B3 m3 d3] ((w13.alloc o).alloc p).drew (Lo w13) (tmRep.keep hu (fun k hk => heap_drew (heap_old (by have := hk.2; simp; omega) (heap_old hk.2 rfl))) (fun k hk => hk.2)) (fun k hk => by have h' : k < w13.heap.size := hk; simp; omega)
  have HU3 := Lib.hid (tmRep.keep (S' := Lo w13) hu (fun _ _ => rfl) (fun k hk => hk.2))
  have HRU := Lib.hid hru
  have HTV := Lib.hid tv
  clear hr hu hru tv ov hzv
  have HW13 := Lib.hid hw13
  have P0 := Lib.hid p0
  clear hw13 p0
  have hBA := ((hB3.alloc (by omega) (.cells #[.int .i64 u.tm.lab.kind, .string u.tm.lab.nm, .int .i64 u.tm.lab.ix, .string s3, .slice A3 n3 c3, .slice B3 m3 d3] 27)).alloc (by simp; omega) (.cells #[.int .i64 0, .int .i64 0] 29))
  have HBA := Lib.hid hBA
  clear hBA
  by_cases hz : (tmFault u.tm).1 = 0
  case neg =>
    have hcz : (((tmFault u.tm).1 : Int) == 0) = false := beq_eq_false_iff_ne.2 (by omega)
    clear hz
    have HVAL := Lib.hid hval
    clear hval
    go_wp2_with fail
    go_region_held3 (fun w' => w'.cell? ⟨w13.heap.size + 1, 0, none⟩ = some (.int .i64 0) ∧ w'.cell? ⟨w13.heap.size + 1, 1, none⟩ = some (.int .i64 0) ∧ w'.cell? ⟨0, 0, none⟩ = some (.int .i64 0) ∧ w'.cell? ⟨0, 1, none⟩ = some (.int .i64 0) ∧ w'.cell? ⟨w13.heap.size, 0, none⟩ = some (.int .i64 u.tm.lab.kind) ∧ w'.cell? ⟨w13.heap.size, 1, none⟩ = some (.string u.tm.lab.nm) ∧ w'.cell? ⟨w13.heap.size, 2, none⟩ = some (.int .i64 u.tm.lab.ix) ∧ w'.cell? ⟨w13.heap.size, 3, none⟩ = some (.string s3) ∧ w'.cell? ⟨w13.heap.size, 4, none⟩ = some (.slice A3 n3 c3) ∧ w'.cell? ⟨w13.heap.size, 5, none⟩ = some (.slice B3 m3 d3))
      ((first | (go_keep; done) | (go_split_ands; (repeat' apply And.intro) <;> (refine (kc14 _ _ (by omega)).trans ?_; assumption))))
      (((with_reducible refine (HVAL.out _ _).mono ?_); rintro e w14 ⟨rfl, hw14⟩; have kc14 : ∀ k q, k < w13.heap.size + 2 → w14.cell? ⟨k, q, none⟩ = _ := (fun k q h => hw14.cell (p := ⟨k, q, none⟩) (by simp; omega)); have z4 : w13.heap.size + 2 ≤ w14.heap.size := (by have := hw14.size; simpa using this); have HW14 := Lib.hid hw14; clear hw14))
    go_wp2_with fail
    go_returns
    exact ⟨rfl, (HBA.out.drew).trans (HW14.out.mono (by simp; omega))⟩
  have ez := tmFault_zz hz
  obtain ⟨vu, su, eu, ou, nu, du, tu, _⟩ := tmFault_zero hz
  obtain rfl := Tv.tm_inj _ _ eu
  rw [ez] at hval
  have HZU := Lib.hid hz
  have hag := Tv.long_again HTV.out HRU.out tu
  clear hz ez eu
  have HVAL := Lib.hid hval
  clear hval
  go_wp2_with fail
  go_region_held3 (fun w' => w'.cell? ⟨w13.heap.size + 1, 0, none⟩ = some (.int .i64 0) ∧ w'.cell? ⟨w13.heap.size + 1, 1, none⟩ = some (.int .i64 0) ∧ w'.cell? ⟨0, 0, none⟩ = some (.int .i64 0) ∧ w'.cell? ⟨0, 1, none⟩ = some (.int .i64 0) ∧ w'.cell? ⟨w13.heap.size, 0, none⟩ = some (.int .i64 u.tm.lab.kind) ∧ w'.cell? ⟨w13.heap.size, 1, none⟩ = some (.string u.tm.lab.nm) ∧ w'.cell? ⟨w13.heap.size, 2, none⟩ = some (.int .i64 u.tm.lab.ix) ∧ w'.cell? ⟨w13.heap.size, 3, none⟩ = some (.string s3) ∧ w'.cell? ⟨w13.heap.size, 4, none⟩ = some (.slice A3 n3 c3) ∧ w'.cell? ⟨w13.heap.size, 5, none⟩ = some (.slice B3 m3 d3))
    ((first | (go_keep; done) | (go_split_ands; (repeat' apply And.intro) <;> (refine (kc14 _ _ (by omega)).trans ?_; assumption))))
    (((with_reducible refine (HVAL.out _ _).mono ?_); rintro e w14 ⟨rfl, hw14⟩; have kc14 : ∀ k q, k < w13.heap.size + 2 → w14.cell? ⟨k, q, none⟩ = _ := (fun k q h => hw14.cell (p := ⟨k, q, none⟩) (by simp; omega)); have z4 : w13.heap.size + 2 ≤ w14.heap.size := (by have := hw14.size; simpa using this); have HW14 := Lib.hid hw14; clear hw14))
  have hB4 : Below w.heap.size w w14 := (HBA.out.drew).trans (HW14.out.mono (by simp; omega))
  have q6 := (HW14.out.block w13.heap.size (by simp; omega)).trans (heap_drew (heap_old (by simp) (heap_at rfl)))
  have c0' := (hB4.cell (p := ⟨0, 0, none⟩) hg).trans G0.out
  have c1' := (hB4.cell (p := ⟨0, 1, none⟩) hg).trans G1.out
  have l4 : 0 < w14.heap.size := by omega
  have hu4 : tmRep.R w14 (Lo w13) u.tm [.int .i64 u.tm.lab.kind, .string u.tm.lab.nm, .int .i64 u.tm.lab.ix, .string s3, .slice A3 n3 c3, .slice B3 m3 d3] := tmRep.keep HU3.out (fun k hk => by have h' : k < w13.heap.size := hk; exact (HW14.out.block k (by simp; omega)).trans (heap_drew (heap_old (by simp; omega) (heap_old h' rfl)))) (fun _ h => h)
  have hn2 := Lib.hid (long_any u.tm [.int .i64 u.tm.lab.kind, .string u.tm.lab.nm, .int .i64 u.tm.lab.ix, .string s3, .slice A3 n3 c3, .slice B3 m3 d3] w14 (Lo w13) hu4 (fun k hk => by have h' : k < w13.heap.size := hk; omega))
  clear kc14 ou nu du tu
  have HB4 := Lib.hid hB4
  have HU4 := Lib.hid hu4
  have HN2 := Lib.hid hn2
  clear hB4 hu4 hn2
  have q6_0 := cv0 q6
  have q6_1 := cv1 q6
  have q6_2 := cv2 q6
  have q6_3 := cv3 q6
  have q6_4 := cv4 q6
  have q6_5 := cv5 q6
  have q6_l := lt_heap q6
  have Q6 := Lib.hid q6
  clear q6
  go_wp2_with fail
  (with_reducible refine HN2.out.out.mono ?_)
  rintro e w15 hr
  have hw15 := hr.2.2
  have z5 := hw15.size
  have hB5 := HB4.out.trans (hw15.mono (by omega))
  have q6 := (hw15.block _ q6_l).trans Q6.out
  have c0' := (hB5.cell (p := ⟨0, 0, none⟩) hg).trans G0.out
  have c1' := (hB5.cell (p := ⟨0, 1, none⟩) hg).trans G1.out
  have l5 : 0 < w15.heap.size := by omega
  have l5b : 0 < w15.heap.size + 1 := by omega
  have l6 : w13.heap.size < w15.heap.size := by omega
  rcases hr.2.1 u rfl HZU.out with ⟨h1, _⟩ | ⟨u2, ds, hu2, rfl, hua⟩
  · rw [hag.1] at h1; simp at h1
  obtain rfl : u = u2 := by rw [hag.1] at hu2; exact Option.some.inj hu2
  obtain ⟨s8, A8, n8, c8, B8, m8, d8, rfl, _, _⟩ := Tm.shape hua
  have heq := fun (o p : Obj) => eqTm_any _ u.tm u.tm [.int .i64 u.tm.lab.kind, .string u.tm.lab.nm, .int .i64 u.tm.lab.ix, .string s3, .slice A3 n3 c3, .slice B3 m3 d3] [.int .i64 u.tm.lab.kind, .string u.tm.lab.nm, .int .i64 u.tm.lab.ix, .string s8, .slice A8 n8 c8, .slice B8 m8 d8] ((w15.alloc o).alloc p) (Lo w15) (Nat.le_refl _)
    (tmRep.keep HU4.out (fun k hk => by have h' : k < w13.heap.size := hk; exact heap_old (by simp; omega) (heap_old (by omega) (hw15.block k (by omega)))) (fun k hk => by have h' : k < w13.heap.size := hk; exact (show k < w15.heap.size by omega)))
    (tmRep.keep hua (fun k hk => heap_old (by have := hk.2; simp; omega) (heap_old hk.2 rfl)) (fun k hk => hk.2)) (fun k hk => by have h' : k < w15.heap.size := hk; simp; omega)
  rw [tmBeq_self] at heq
  clear q6_0 q6_1 q6_2 q6_3 q6_4 q6_5 q6_l hr hua hu2 hag
  have HW15 := Lib.hid hw15
  have HB5 := Lib.hid hB5
  have HEQ := Lib.hid heq
  clear hw15 hB5 heq
  have q6_0 := cv0 q6
  have q6_1 := cv1 q6
  have q6_2 := cv2 q6
  have q6_3 := cv3 q6
  have q6_4 := cv4 q6
  have q6_5 := cv5 q6
  have q6_l := lt_heap q6
  have Q6 := Lib.hid q6
  clear q6
  go_wp2_with fail
  (with_reducible refine (HEQ.out _ _).mono ?_)
  rintro e w17 ⟨rfl, hw17⟩
  have HW17 := Lib.hid hw17
  clear hw17
  go_wp2_with fail
  go_returns
  exact ⟨rfl, ((HB5.out.alloc (by omega) _).alloc (by simp; omega) _).trans (HW17.out.mono (by simp; omega))⟩

end Go.Proofs.YthflahcnkhmpaabDoor
