/-
  The law ReduceKeepsTypes: the walk.
-/
import Derived.Test.YthflahcnkhmpaabDoorProg
import Derived.Test.YthflahcnkhmpaabDoorLawDone
import Derived.Test.YthflahcnkhmpaabDoorTypeTm
import Derived.Test.YthflahcnkhmpaabDoorEqTy
import Derived.Deep.DeepCutAuto
namespace Go.Proofs.YthflahcnkhmpaabDoor
open Go Go.RowKit
set_option linter.unusedSimpArgs false
set_option linter.unusedVariables false

theorem tvRedex_steps1 : Tv.steps 2001 tvRedex = some tvKim := by
  show Tv.steps (1999 + 1 + 1) tvRedex = some tvKim
  rw [Tv.steps, if_neg (by decide), tvRedex_step]
  exact Tv.steps_normal 1999 rfl (by decide)
theorem Tv.long_typ {v u : Tv} {s : Sy} (hv : v.typ [] = some s) (h : Tv.long v = some u) : u.typ [] = some s := by
  unfold Tv.long at h
  rw [hv] at h
  cases hs : Tv.steps 2001 v with
  | none => rw [hs] at h; simp at h
  | some x =>
    rw [hs] at h
    simp only at h
    have h2 := Tv.expand_typ 2001 x s [] 2000 (Tv.steps_typ 2001 v x [] s hs hv)
    generalize hY : Tv.expand 2001 x s [] 2000 = Y at *
    split at h
    · simp at h
    obtain rfl := Option.some.inj h
    exact h2
theorem Tv.normal_typ {v u : Tv} {s : Sy} (hv : v.typ [] = some s) (h : Tv.steps 2001 v = some u) : u.typ [] = some s := Tv.steps_typ 2001 v u [] s h hv
theorem FormAt.kim {w w' : World} {e : Ending} (h : FormAt (Tv.steps 2001) tvRedex.tm w e w') : ∃ ds : List Value, e = .returned (.tuple #[.agg ds.toArray, .agg #[.int .i64 0, .int .i64 0]]) ∧ tmRep.R w' (Fresh w w') tvKim.tm ds := by
  rcases h.2.1 tvRedex rfl (by rw [tvRedex_fault]) with ⟨h1, _⟩ | ⟨u, ds, h1, h2, h3⟩
  · rw [tvRedex_steps1] at h1; simp at h1
  · obtain rfl : tvKim = u := by rw [tvRedex_steps1] at h1; exact Option.some.inj h1
    exact ⟨ds, h2, h3⟩

set_option maxRecDepth 100000 in
set_option maxHeartbeats 4000000 in
theorem keepLaw_any (t : Tm) (cs : List Value) (w : World) (S : Nat → Prop) (ht : tmRep.R w S t cs) (hS : ∀ b, S b → b < w.heap.size)
    (g0 : w.cell? ⟨0, 0, none⟩ = some (.int .i64 0)) (g1 : w.cell? ⟨0, 1, none⟩ = some (.int .i64 0)) :
    Calls Tryd.prog 9 #[.agg cs.toArray] w fun e w' => e = .returned (.bool true) ∧ Below w.heap.size w w' := by
  obtain ⟨s0, A0, n0, c0, B0, m0, d0, rfl, _, _⟩ := Tm.shape ht
  have hg := World.block_lt_of_cell? w _ g0
  have HT := Lib.hid ht
  have HS := Lib.hid hS
  have G0 := Lib.hid g0
  have G1 := Lib.hid g1
  clear ht hS g0 g1
  go_enter Tryd.func9, Tryd.ntmps9
  go_wp2_with fail
  (with_reducible refine (redex_any _).mono ?_)
  rintro e w1 ⟨es, rfl, h1, hw1⟩
  obtain ⟨s1, A1, n1, c1, B1, m1, d1, rfl, _, _⟩ := Tm.shape h1
  have z1 : w.heap.size + 1 ≤ w1.heap.size := by have := hw1.size; simpa using this
  have p0 := (hw1.block w.heap.size (by simp)).trans (heap_at rfl)
  have hB1 : Below w.heap.size w w1 := ((Below.refl _ w).alloc (Nat.le_refl _) _).trans (hw1.mono (by simp))
  have hst := Lib.hid (normal_any tvRedex.tm _ w1 _ h1 (fun k hk => hk.2))
  have P0 := Lib.hid p0
  have HW1 := Lib.hid hw1
  have H1 := Lib.hid h1
  have HB1 := Lib.hid hB1
  clear p0 hw1 h1 hB1
  go_wp2_with fail
  (with_reducible refine hst.out.mono ?_)
  rintro e w2 hr
  have hw2 := hr.2.2
  obtain ⟨ds, rfl, h2⟩ := hr.kim
  obtain ⟨u0, u1, vs, rfl, -, hty, Av, nv, cv, rfl, -⟩ := Tm.open_ (a := ⟨1, bKim, 0, Sy.e.ty⟩) (l := []) h2
  obtain ⟨sk, Ak, nk, ck, rfl, rfl⟩ := hty.shape
  have z2 := hw2.size
  have p0 := (hw2.block _ (by omega)).trans P0.out
  have hB2 := HB1.out.trans (hw2.mono (by omega))
  have c0' := (hB2.cell (p := ⟨0, 0, none⟩) hg).trans G0.out
  have c1' := (hB2.cell (p := ⟨0, 1, none⟩) hg).trans G1.out
  have l2 : 0 < w2.heap.size := by omega
  have l2b : 0 < w2.heap.size + 1 := by omega
  clear hst hr h2 hty
  have HW2 := Lib.hid hw2
  have HB2 := Lib.hid hB2
  clear hw2 hB2
  have p0_0 := cv0 p0
  have p0_1 := cv1 p0
  have p0_2 := cv2 p0
  have p0_3 := cv3 p0
  have p0_4 := cv4 p0
  have p0_5 := cv5 p0
  have p0_l := lt_heap p0
  have P0 := Lib.hid p0
  clear p0
  simp only
  go_upto_region 4 with (fail)
  refine gen_last (fun wa => Below w.heap.size w wa ∧ wa.heap[w.heap.size]? = some (.cells #[.int .i64 t.lab.kind, .string t.lab.nm, .int .i64 t.lab.ix, .string s0, .slice A0 n0 c0, .slice B0 m0 d0] 27 (0, 0))) ?_ ?_
  · exact ⟨(HB2.out.alloc (by omega) _).alloc (by simp; omega) _, heap_old (by simp; omega) (heap_old p0_l P0.out)⟩
  rintro wa ⟨hBa, p0⟩
  have lga : 0 < wa.heap.size := by have := hBa.size; omega
  have hta : tmRep.R wa S t [.int .i64 t.lab.kind, .string t.lab.nm, .int .i64 t.lab.ix, .string s0, .slice A0 n0 c0, .slice B0 m0 d0] := tmRep.keep HT.out (fun k hk => hBa.block k (HS.out k hk)) (fun _ h => h)
  have hSa : ∀ k, S k → k < wa.heap.size := fun k hk => by have := HS.out k hk; have := hBa.size; omega
  clear p0_0 p0_1 p0_2 p0_3 p0_4 p0_5 p0_l c0' c1' l2 l2b
  by_cases hz : (tmFault t).1 = 0
  case neg =>
    have hbd := Lib.hid (type_bad t _ wa S hta hSa hz)
    have hc' : (((tmFault t).1 : Int) == 0) = false := beq_eq_false_iff_ne.2 (by omega)
    clear hz
    have HBA := Lib.hid hBa
    have HBD := Lib.hid hbd
    have HTA := Lib.hid hta
    have HSA := Lib.hid hSa
    clear hBa hbd hta hSa
    have p0_0 := cv0 p0
    have p0_1 := cv1 p0
    have p0_2 := cv2 p0
    have p0_3 := cv3 p0
    have p0_4 := cv4 p0
    have p0_5 := cv5 p0
    have p0_l := lt_heap p0
    have P0 := Lib.hid p0
    clear p0
    go_wp2_with fail
    (with_reducible refine HBD.out.out.mono ?_)
    rintro e w3 ⟨rfl, hw3⟩
    have hB3 := HBA.out.trans (hw3.mono (by have := HBA.out.size; omega))
    have c0' := (hB3.cell (p := ⟨0, 0, none⟩) hg).trans G0.out
    have c1' := (hB3.cell (p := ⟨0, 1, none⟩) hg).trans G1.out
    have z3 := hB3.size
    have l3 : 0 < w3.heap.size := by omega
    have l3b : 0 < w3.heap.size + 1 := by omega
    clear p0_0 p0_1 p0_2 p0_3 p0_4 p0_5 p0_l
    have HW3 := Lib.hid hw3
    have HB3 := Lib.hid hB3
    clear hw3 hB3
    go_wp2_with fail
    go_returns
    exact ⟨rfl, (HB3.out.alloc (by omega) _).alloc (by simp; omega) _⟩
  obtain ⟨v, s, rfl, ov, nv', dv, tv, _⟩ := tmFault_zero hz
  have hok := Lib.hid (type_ok v s _ wa S hta hSa ov nv' dv tv)
  have HTV := Lib.hid tv
  clear hz ov nv' dv tv
  have HBA := Lib.hid hBa
  have HOK := Lib.hid hok
  have HTA := Lib.hid hta
  have HSA := Lib.hid hSa
  clear hBa hok hta hSa
  have p0_0 := cv0 p0
  have p0_1 := cv1 p0
  have p0_2 := cv2 p0
  have p0_3 := cv3 p0
  have p0_4 := cv4 p0
  have p0_5 := cv5 p0
  have p0_l := lt_heap p0
  have P0 := Lib.hid p0
  clear p0
  go_wp2_with fail
  (with_reducible refine HOK.out.out.mono ?_)
  rintro e wt ⟨v0, v1, rfl, hT, hwt⟩
  obtain ⟨sT, AT, nT, cT, rfl, rfl⟩ := hT.shape
  have zt := hwt.size
  have hBt := HBA.out.trans (hwt.mono (by have := HBA.out.size; omega))
  have p0 := (hwt.block w.heap.size p0_l).trans P0.out
  have p0l : w.heap.size < wt.heap.size := by omega
  have c0' := (hBt.cell (p := ⟨0, 0, none⟩) hg).trans G0.out
  have c1' := (hBt.cell (p := ⟨0, 1, none⟩) hg).trans G1.out
  have l3 : 0 < wt.heap.size := by omega
  have l3b : 0 < wt.heap.size + 1 := by omega
  have hT' : s.ty.In wt (Lo wt) (.string sT) (.slice AT nT cT) := hT.mono (fun k hk => hk.2)
  clear p0_0 p0_1 p0_2 p0_3 p0_4 p0_5 p0_l hT
  have HWT := Lib.hid hwt
  have HBT := Lib.hid hBt
  have P0 := Lib.hid p0
  have HTP := Lib.hid hT'
  clear hwt hBt p0 hT'
  go_upto_region 7 with (fail)
  refine gen_last (fun wb => Below w.heap.size w wb ∧ wb.heap[w.heap.size]? = some (.cells #[.int .i64 v.tm.lab.kind, .string v.tm.lab.nm, .int .i64 v.tm.lab.ix, .string s0, .slice A0 n0 c0, .slice B0 m0 d0] 27 (0, 0)) ∧ wb.heap[wt.heap.size]? = some (.cells #[.string sT, .slice AT nT cT] 24 (0, 0)) ∧ Below wt.heap.size wt wb) ?_ ?_
  · exact ⟨(HBT.out.alloc (by omega) _).alloc (by simp; omega) _, heap_old (by simp; omega) (heap_old p0l P0.out), heap_old (by simp) (heap_at rfl), ((Below.refl _ _).alloc (Nat.le_refl _) _).alloc (by simp) _⟩
  rintro wb ⟨hBb, p0, p5, hbb⟩
  clear c0' c1' l3 l3b
  have hlb := Lib.hid (normal_any v.tm [.int .i64 v.tm.lab.kind, .string v.tm.lab.nm, .int .i64 v.tm.lab.ix, .string s0, .slice A0 n0 c0, .slice B0 m0 d0] wb S (tmRep.keep HT.out (fun k hk => hBb.block k (HS.out k hk)) (fun _ h => h)) (fun k hk => by have := HS.out k hk; have := hBb.size; omega))
  have zb := hBb.size
  have zbt := hbb.size
  have p5l : wt.heap.size < wb.heap.size := lt_heap p5
  have HBB_ := Lib.hid hbb
  clear hbb
  have HBB := Lib.hid hBb
  have HLB := Lib.hid hlb
  have P5 := Lib.hid p5
  clear hBb hlb p5
  have p0_0 := cv0 p0
  have p0_1 := cv1 p0
  have p0_2 := cv2 p0
  have p0_3 := cv3 p0
  have p0_4 := cv4 p0
  have p0_5 := cv5 p0
  have p0_l := lt_heap p0
  have P0 := Lib.hid p0
  clear p0
  go_wp2_with fail
  (with_reducible refine HLB.out.out.mono ?_)
  rintro e w13 hr
  have hw3 := hr.2.2
  have z3 := hw3.size
  have hB3 := HBB.out.trans (hw3.mono (by omega))
  have p0 := (hw3.block w.heap.size p0_l).trans P0.out
  have p5 := (hw3.block wt.heap.size p5l).trans P5.out
  have hb3t : Below wt.heap.size wt w13 := HBB_.out.trans (hw3.mono (by omega))
  have c0' := (hB3.cell (p := ⟨0, 0, none⟩) hg).trans G0.out
  have c1' := (hB3.cell (p := ⟨0, 1, none⟩) hg).trans G1.out
  have l3 : 0 < w13.heap.size := by omega
  have l3b : 0 < w13.heap.size + 1 := by omega
  have l3w : w.heap.size < w13.heap.size := by omega
  have l3t : wt.heap.size < w13.heap.size := by omega
  clear p0_0 p0_1 p0_2 p0_3 p0_4 p0_5 p0_l p5l
  rcases hr.cases3 with ⟨c, i, hc, rfl⟩ | ⟨v', u, s', ds, hvv, _, _, _, hru, rfl, hu⟩
  · have hc' : (c == 0) = false := beq_eq_false_iff_ne.2 hc
    clear hr hc
    have HW3 := Lib.hid hw3
    have HB3 := Lib.hid hB3
    have P0 := Lib.hid p0
    have P5 := Lib.hid p5
    have HB3T := Lib.hid hb3t
    clear hw3 hB3 p0 p5 hb3t
    unfold zTm
    go_wp2_with fail
    go_quiet (fail)
    go_upto_region 12 with (fail)
    refine gen_last (fun wc => Below w.heap.size w wc ∧ wc.heap[w.heap.size]? = some (.cells #[.int .i64 v.tm.lab.kind, .string v.tm.lab.nm, .int .i64 v.tm.lab.ix, .string s0, .slice A0 n0 c0, .slice B0 m0 d0] 27 (0, 0)) ∧ wc.heap[wt.heap.size]? = some (.cells #[.string sT, .slice AT nT cT] 24 (0, 0)) ∧ Below wt.heap.size wt wc) ?_ ?_
    · exact ⟨below_drewN ((HB3.out.alloc (by omega) _).alloc (by simp; omega) _) _, (heap_drewN (heap_old (by simp; omega) (heap_old l3w P0.out)) _), (heap_drewN (heap_old (by simp; omega) (heap_old l3t P5.out)) _), below_drewN ((HB3T.out.alloc (by omega) _).alloc (by simp; omega) _) _⟩
    rintro wc ⟨hBb, p0, p5, hbb⟩
    have hlb := Lib.hid (long_any v.tm [.int .i64 v.tm.lab.kind, .string v.tm.lab.nm, .int .i64 v.tm.lab.ix, .string s0, .slice A0 n0 c0, .slice B0 m0 d0] wc S (tmRep.keep HT.out (fun k hk => hBb.block k (HS.out k hk)) (fun _ h => h)) (fun k hk => by have := HS.out k hk; have := hBb.size; omega))
    have zb := hBb.size
    have zbt := hbb.size
    have p5l : wt.heap.size < wc.heap.size := lt_heap p5
    have HBB_ := Lib.hid hbb
    clear hbb
    have HBB := Lib.hid hBb
    have HLB := Lib.hid hlb
    have P5 := Lib.hid p5
    clear hBb hlb p5
    have p0_0 := cv0 p0
    have p0_1 := cv1 p0
    have p0_2 := cv2 p0
    have p0_3 := cv3 p0
    have p0_4 := cv4 p0
    have p0_5 := cv5 p0
    have p0_l := lt_heap p0
    have P0 := Lib.hid p0
    clear p0
    go_wp2_with fail
    (with_reducible refine HLB.out.out.mono ?_)
    rintro e w23 hr
    have hw3 := hr.2.2
    have z3 := hw3.size
    have hB3 := HBB.out.trans (hw3.mono (by omega))
    have p0 := (hw3.block w.heap.size p0_l).trans P0.out
    have p5 := (hw3.block wt.heap.size p5l).trans P5.out
    have hb3t : Below wt.heap.size wt w23 := HBB_.out.trans (hw3.mono (by omega))
    have c0' := (hB3.cell (p := ⟨0, 0, none⟩) hg).trans G0.out
    have c1' := (hB3.cell (p := ⟨0, 1, none⟩) hg).trans G1.out
    have l3 : 0 < w23.heap.size := by omega
    have l3b : 0 < w23.heap.size + 1 := by omega
    have l3w : w.heap.size < w23.heap.size := by omega
    have l3t : wt.heap.size < w23.heap.size := by omega
    clear p0_0 p0_1 p0_2 p0_3 p0_4 p0_5 p0_l p5l
    rcases hr.cases3 with ⟨c, i, hc, rfl⟩ | ⟨v', u, s', ds, hvv, _, _, _, hru, rfl, hu⟩
    · have hc' : (c == 0) = false := beq_eq_false_iff_ne.2 hc
      clear hr hc
      have HW3 := Lib.hid hw3
      have HB3 := Lib.hid hB3
      have P0 := Lib.hid p0
      have P5 := Lib.hid p5
      have HB3T := Lib.hid hb3t
      clear hw3 hB3 p0 p5 hb3t
      unfold zTm
      go_wp2_with fail
      go_quiet (fail)
      go_wp2_with fail
      go_returns
      exact ⟨rfl, below_drewN ((HB3.out.alloc (by omega) _).alloc (by simp; omega) _) _⟩
    obtain rfl := Tv.tm_inj _ _ hvv
    have htu := Tv.long_typ HTV.out hru
    obtain ⟨s3, A3, n3, c3, B3, m3, d3, rfl, _, _⟩ := Tm.shape hu
    have hval := fun (o p : Obj) => validateTm_any u.tm [.int .i64 u.tm.lab.kind, .string u.tm.lab.nm, .int .i64 u.tm.lab.ix, .string s3, .slice A3 n3 c3, .slice B3 m3 d3] ((w23.alloc o).alloc p).drew (Lo w23) (tmRep.keep hu (fun k hk => heap_drew (heap_old (by have := hk.2; simp; omega) (heap_old hk.2 rfl))) (fun k hk => hk.2)) (fun k hk => by have h' : k < w23.heap.size := hk; simp; omega)
    have HU3 := Lib.hid (tmRep.keep (S' := Lo w23) hu (fun _ _ => rfl) (fun k hk => hk.2))
    clear hr hu hru hvv
    have HW3 := Lib.hid hw3
    have P0 := Lib.hid p0
    have P5 := Lib.hid p5
    have HB3T := Lib.hid hb3t
    have HTU := Lib.hid htu
    clear hw3 p0 p5 hb3t htu
    have hBA3 := ((hB3.alloc (by omega) (.cells #[.int .i64 u.tm.lab.kind, .string u.tm.lab.nm, .int .i64 u.tm.lab.ix, .string s3, .slice A3 n3 c3, .slice B3 m3 d3] 27)).alloc (by simp; omega) (.cells #[.int .i64 0, .int .i64 0] 29))
    have HBA3 := Lib.hid hBA3
    clear hBA3
    by_cases hz : (tmFault u.tm).1 = 0
    case neg =>
      have hcz : (((tmFault u.tm).1 : Int) == 0) = false := beq_eq_false_iff_ne.2 (by omega)
      clear hz
      have HVAL := Lib.hid hval
      clear hval
      go_wp2_with fail
      go_region_held3 (fun w' => w'.cell? ⟨w23.heap.size + 1, 0, none⟩ = some (.int .i64 0) ∧ w'.cell? ⟨w23.heap.size + 1, 1, none⟩ = some (.int .i64 0) ∧ w'.cell? ⟨0, 0, none⟩ = some (.int .i64 0) ∧ w'.cell? ⟨0, 1, none⟩ = some (.int .i64 0) ∧ w'.cell? ⟨w23.heap.size, 0, none⟩ = some (.int .i64 u.tm.lab.kind) ∧ w'.cell? ⟨w23.heap.size, 1, none⟩ = some (.string u.tm.lab.nm) ∧ w'.cell? ⟨w23.heap.size, 2, none⟩ = some (.int .i64 u.tm.lab.ix) ∧ w'.cell? ⟨w23.heap.size, 3, none⟩ = some (.string s3) ∧ w'.cell? ⟨w23.heap.size, 4, none⟩ = some (.slice A3 n3 c3) ∧ w'.cell? ⟨w23.heap.size, 5, none⟩ = some (.slice B3 m3 d3))
        ((first | (go_keep; done) | (go_split_ands; (repeat' apply And.intro) <;> (refine (kc4 _ _ (by omega)).trans ?_; assumption))))
        (((with_reducible refine (HVAL.out _ _).mono ?_); rintro e w24 ⟨rfl, hw24⟩; have kc4 : ∀ k q, k < w23.heap.size + 2 → w24.cell? ⟨k, q, none⟩ = _ := (fun k q h => hw24.cell (p := ⟨k, q, none⟩) (by simp; omega)); have z24 : w23.heap.size + 2 ≤ w24.heap.size := (by have := hw24.size; simpa using this); have HW24 := Lib.hid hw24; clear hw24))
      go_wp2_with fail
      go_returns
      exact ⟨rfl, (HBA3.out.drew).trans (HW24.out.mono (by simp; omega))⟩
    have ez := tmFault_zz hz
    obtain ⟨vu, su, eu, ou, nu, du, tu, _⟩ := tmFault_zero hz
    obtain rfl := Tv.tm_inj _ _ eu
    rw [ez] at hval
    clear hz ez eu
    have HVAL := Lib.hid hval
    have OU := Lib.hid ou
    clear hval ou
    go_wp2_with fail
    go_region_held3 (fun w' => w'.cell? ⟨w23.heap.size + 1, 0, none⟩ = some (.int .i64 0) ∧ w'.cell? ⟨w23.heap.size + 1, 1, none⟩ = some (.int .i64 0) ∧ w'.cell? ⟨0, 0, none⟩ = some (.int .i64 0) ∧ w'.cell? ⟨0, 1, none⟩ = some (.int .i64 0) ∧ w'.cell? ⟨w23.heap.size, 0, none⟩ = some (.int .i64 u.tm.lab.kind) ∧ w'.cell? ⟨w23.heap.size, 1, none⟩ = some (.string u.tm.lab.nm) ∧ w'.cell? ⟨w23.heap.size, 2, none⟩ = some (.int .i64 u.tm.lab.ix) ∧ w'.cell? ⟨w23.heap.size, 3, none⟩ = some (.string s3) ∧ w'.cell? ⟨w23.heap.size, 4, none⟩ = some (.slice A3 n3 c3) ∧ w'.cell? ⟨w23.heap.size, 5, none⟩ = some (.slice B3 m3 d3))
      ((first | (go_keep; done) | (go_split_ands; (repeat' apply And.intro) <;> (refine (kc4 _ _ (by omega)).trans ?_; assumption))))
      (((with_reducible refine (HVAL.out _ _).mono ?_); rintro e w24 ⟨rfl, hw24⟩; have kc4 : ∀ k q, k < w23.heap.size + 2 → w24.cell? ⟨k, q, none⟩ = _ := (fun k q h => hw24.cell (p := ⟨k, q, none⟩) (by simp; omega)); have z24 : w23.heap.size + 2 ≤ w24.heap.size := (by have := hw24.size; simpa using this); have HW24 := Lib.hid hw24; clear hw24))
    have hB4 : Below w.heap.size w w24 := (HBA3.out.drew).trans (HW24.out.mono (by simp; omega))
    have hb4t : Below wt.heap.size wt w24 := (((HB3T.out.alloc (by omega) _).alloc (by simp; omega) _).drew).trans (HW24.out.mono (by simp; omega))
    have q6 := (HW24.out.block w23.heap.size (by simp; omega)).trans (heap_drew (heap_old (by simp) (heap_at rfl)))
    have p0 := (HW24.out.block w.heap.size (by simp; omega)).trans (heap_drew (heap_old (by simp; omega) (heap_old l3w P0.out)))
    have p5 := (HW24.out.block wt.heap.size (by simp; omega)).trans (heap_drew (heap_old (by simp; omega) (heap_old l3t P5.out)))
    have hu4 : tmRep.R w24 (Lo w23) u.tm [.int .i64 u.tm.lab.kind, .string u.tm.lab.nm, .int .i64 u.tm.lab.ix, .string s3, .slice A3 n3 c3, .slice B3 m3 d3] := tmRep.keep HU3.out (fun k hk => by have h' : k < w23.heap.size := hk; exact (HW24.out.block k (by simp; omega)).trans (heap_drew (heap_old (by simp; omega) (heap_old h' rfl)))) (fun _ h => h)
    have hn2 := Lib.hid (type_ok u s [.int .i64 u.tm.lab.kind, .string u.tm.lab.nm, .int .i64 u.tm.lab.ix, .string s3, .slice A3 n3 c3, .slice B3 m3 d3] w24 (Lo w23) hu4 (fun k hk => by have h' : k < w23.heap.size := hk; omega) OU.out nu du HTU.out)
    clear kc4 c0' c1' l3 l3b nu du tu
    have HB4 := Lib.hid hB4
    have HU4 := Lib.hid hu4
    have HN2 := Lib.hid hn2
    have HB4T := Lib.hid hb4t
    have P0 := Lib.hid p0
    have P5 := Lib.hid p5
    clear hB4 hu4 hn2 hb4t p0 p5
    have q6_0 := cv0 q6
    have q6_1 := cv1 q6
    have q6_2 := cv2 q6
    have q6_3 := cv3 q6
    have q6_4 := cv4 q6
    have q6_5 := cv5 q6
    have q6_l := lt_heap q6
    have Q6 := Lib.hid q6
    clear q6
    go_wp2_with fail
    (with_reducible refine HN2.out.out.mono ?_)
    rintro e w25 ⟨y0, y1, rfl, hy, hw5⟩
    obtain ⟨sY, AY, nY, cY, rfl, rfl⟩ := hy.shape
    have z5 := hw5.size
    have hB5 := HB4.out.trans (hw5.mono (by omega))
    have hb5t := HB4T.out.trans (hw5.mono (by omega))
    have p0 := (hw5.block w.heap.size (by omega)).trans P0.out
    have p5 := (hw5.block wt.heap.size (by omega)).trans P5.out
    have c0' := (hB5.cell (p := ⟨0, 0, none⟩) hg).trans G0.out
    have c1' := (hB5.cell (p := ⟨0, 1, none⟩) hg).trans G1.out
    have l5 : 0 < w25.heap.size := by omega
    have l5b : 0 < w25.heap.size + 1 := by omega
    have l5t : wt.heap.size < w25.heap.size := by omega
    have l5t2 : wt.heap.size < w25.heap.size + 1 := by omega
    have l5w : w.heap.size < w25.heap.size := by omega
    have heq := fun (o p : Obj) => eqTy_any _ s.ty s.ty (.string sY) (.slice AY nY cY) (.string sT) (.slice AT nT cT) ((w25.alloc o).alloc p) (Lo w25) (Nat.le_refl _)
      (Ty.In_keep (fun k hk => heap_old (by have := hk.2; simp; omega) (heap_old hk.2 rfl)) (fun k hk => hk.2) _ _ _ hy)
      (Ty.In_keep (fun k hk => by have h' : k < wt.heap.size := hk; exact heap_old (by simp; omega) (heap_old (by omega) (hb5t.block k h'))) (fun k hk => by have h' : k < wt.heap.size := hk; exact (show k < w25.heap.size by omega)) _ _ _ HTP.out) (fun k hk => by have h' : k < w25.heap.size := hk; simp; omega)
    rw [Ty.beq_self] at heq
    clear q6_0 q6_1 q6_2 q6_3 q6_4 q6_5 q6_l hy
    have HW5 := Lib.hid hw5
    have HB5 := Lib.hid hB5
    have HB5T := Lib.hid hb5t
    have HEQ := Lib.hid heq
    have P0 := Lib.hid p0
    clear hw5 hB5 hb5t heq p0
    have p5_0 := cv0 p5
    have p5_1 := cv1 p5
    have p5_l := lt_heap p5
    have P5 := Lib.hid p5
    clear p5
    go_wp2_with fail
    (with_reducible refine (HEQ.out _ _).mono ?_)
    rintro e w27 ⟨rfl, hw7⟩
    have HW7 := Lib.hid hw7
    clear hw7
    clear p5_0 p5_1 p5_l
    go_wp2_with fail
    go_returns
    exact ⟨rfl, ((HB5.out.alloc (by omega) _).alloc (by simp; omega) _).trans (HW7.out.mono (by simp; omega))⟩
  obtain rfl := Tv.tm_inj _ _ hvv
  have htu := Tv.normal_typ HTV.out hru
  obtain ⟨s3, A3, n3, c3, B3, m3, d3, rfl, _, _⟩ := Tm.shape hu
  have hval := fun (o p : Obj) => validateTm_any u.tm [.int .i64 u.tm.lab.kind, .string u.tm.lab.nm, .int .i64 u.tm.lab.ix, .string s3, .slice A3 n3 c3, .slice B3 m3 d3] ((w13.alloc o).alloc p).drew (Lo w13) (tmRep.keep hu (fun k hk => heap_drew (heap_old (by have := hk.2; simp; omega) (heap_old hk.2 rfl))) (fun k hk => hk.2)) (fun k hk => by have h' : k < w13.heap.size := hk; simp; omega)
  have HU3 := Lib.hid (tmRep.keep (S' := Lo w13) hu (fun _ _ => rfl) (fun k hk => hk.2))
  clear hr hu hru hvv
  have HW3 := Lib.hid hw3
  have P0 := Lib.hid p0
  have P5 := Lib.hid p5
  have HB3T := Lib.hid hb3t
  have HTU := Lib.hid htu
  clear hw3 p0 p5 hb3t htu
  have hBA3 := ((hB3.alloc (by omega) (.cells #[.int .i64 u.tm.lab.kind, .string u.tm.lab.nm, .int .i64 u.tm.lab.ix, .string s3, .slice A3 n3 c3, .slice B3 m3 d3] 27)).alloc (by simp; omega) (.cells #[.int .i64 0, .int .i64 0] 29))
  have HBA3 := Lib.hid hBA3
  clear hBA3
  by_cases hz : (tmFault u.tm).1 = 0
  case neg =>
    have hcz : (((tmFault u.tm).1 : Int) == 0) = false := beq_eq_false_iff_ne.2 (by omega)
    clear hz
    have HVAL := Lib.hid hval
    clear hval
    go_wp2_with fail
    go_region_held3 (fun w' => w'.cell? ⟨w13.heap.size + 1, 0, none⟩ = some (.int .i64 0) ∧ w'.cell? ⟨w13.heap.size + 1, 1, none⟩ = some (.int .i64 0) ∧ w'.cell? ⟨0, 0, none⟩ = some (.int .i64 0) ∧ w'.cell? ⟨0, 1, none⟩ = some (.int .i64 0) ∧ w'.cell? ⟨w13.heap.size, 0, none⟩ = some (.int .i64 u.tm.lab.kind) ∧ w'.cell? ⟨w13.heap.size, 1, none⟩ = some (.string u.tm.lab.nm) ∧ w'.cell? ⟨w13.heap.size, 2, none⟩ = some (.int .i64 u.tm.lab.ix) ∧ w'.cell? ⟨w13.heap.size, 3, none⟩ = some (.string s3) ∧ w'.cell? ⟨w13.heap.size, 4, none⟩ = some (.slice A3 n3 c3) ∧ w'.cell? ⟨w13.heap.size, 5, none⟩ = some (.slice B3 m3 d3))
      ((first | (go_keep; done) | (go_split_ands; (repeat' apply And.intro) <;> (refine (kc4 _ _ (by omega)).trans ?_; assumption))))
      (((with_reducible refine (HVAL.out _ _).mono ?_); rintro e w14 ⟨rfl, hw14⟩; have kc4 : ∀ k q, k < w13.heap.size + 2 → w14.cell? ⟨k, q, none⟩ = _ := (fun k q h => hw14.cell (p := ⟨k, q, none⟩) (by simp; omega)); have z14 : w13.heap.size + 2 ≤ w14.heap.size := (by have := hw14.size; simpa using this); have HW14 := Lib.hid hw14; clear hw14))
    go_upto_region 12 with (fail)
    refine gen_last (fun wc => Below w.heap.size w wc ∧ wc.heap[w.heap.size]? = some (.cells #[.int .i64 v.tm.lab.kind, .string v.tm.lab.nm, .int .i64 v.tm.lab.ix, .string s0, .slice A0 n0 c0, .slice B0 m0 d0] 27 (0, 0)) ∧ wc.heap[wt.heap.size]? = some (.cells #[.string sT, .slice AT nT cT] 24 (0, 0)) ∧ Below wt.heap.size wt wc) ?_ ?_
    · exact ⟨(HBA3.out.drew).trans (HW14.out.mono (by simp; omega)), (HW14.out.block w.heap.size (by simp; omega)).trans (heap_drew (heap_old (by simp; omega) (heap_old l3w P0.out))), (HW14.out.block wt.heap.size (by simp; omega)).trans (heap_drew (heap_old (by simp; omega) (heap_old l3t P5.out))), (((HB3T.out.alloc (by omega) _).alloc (by simp; omega) _).drew).trans (HW14.out.mono (by simp; omega))⟩
    rintro wc ⟨hBb, p0, p5, hbb⟩
    have hlb := Lib.hid (long_any v.tm [.int .i64 v.tm.lab.kind, .string v.tm.lab.nm, .int .i64 v.tm.lab.ix, .string s0, .slice A0 n0 c0, .slice B0 m0 d0] wc S (tmRep.keep HT.out (fun k hk => hBb.block k (HS.out k hk)) (fun _ h => h)) (fun k hk => by have := HS.out k hk; have := hBb.size; omega))
    have zb := hBb.size
    have zbt := hbb.size
    have p5l : wt.heap.size < wc.heap.size := lt_heap p5
    have HBB_ := Lib.hid hbb
    clear hbb
    have HBB := Lib.hid hBb
    have HLB := Lib.hid hlb
    have P5 := Lib.hid p5
    clear hBb hlb p5
    have p0_0 := cv0 p0
    have p0_1 := cv1 p0
    have p0_2 := cv2 p0
    have p0_3 := cv3 p0
    have p0_4 := cv4 p0
    have p0_5 := cv5 p0
    have p0_l := lt_heap p0
    have P0 := Lib.hid p0
    clear p0
    go_wp2_with fail
    (with_reducible refine HLB.out.out.mono ?_)
    rintro e w23 hr
    have hw3 := hr.2.2
    have z3 := hw3.size
    have hB3 := HBB.out.trans (hw3.mono (by omega))
    have p0 := (hw3.block w.heap.size p0_l).trans P0.out
    have p5 := (hw3.block wt.heap.size p5l).trans P5.out
    have hb3t : Below wt.heap.size wt w23 := HBB_.out.trans (hw3.mono (by omega))
    have c0' := (hB3.cell (p := ⟨0, 0, none⟩) hg).trans G0.out
    have c1' := (hB3.cell (p := ⟨0, 1, none⟩) hg).trans G1.out
    have l3 : 0 < w23.heap.size := by omega
    have l3b : 0 < w23.heap.size + 1 := by omega
    have l3w : w.heap.size < w23.heap.size := by omega
    have l3t : wt.heap.size < w23.heap.size := by omega
    clear p0_0 p0_1 p0_2 p0_3 p0_4 p0_5 p0_l p5l
    rcases hr.cases3 with ⟨c, i, hc, rfl⟩ | ⟨v', u, s', ds, hvv, _, _, _, hru, rfl, hu⟩
    · have hc' : (c == 0) = false := beq_eq_false_iff_ne.2 hc
      clear hr hc
      have HW3 := Lib.hid hw3
      have HB3 := Lib.hid hB3
      have P0 := Lib.hid p0
      have P5 := Lib.hid p5
      have HB3T := Lib.hid hb3t
      clear hw3 hB3 p0 p5 hb3t
      unfold zTm
      go_wp2_with fail
      go_quiet (fail)
      go_wp2_with fail
      go_returns
      exact ⟨rfl, below_drewN ((HB3.out.alloc (by omega) _).alloc (by simp; omega) _) _⟩
    obtain rfl := Tv.tm_inj _ _ hvv
    have htu := Tv.long_typ HTV.out hru
    obtain ⟨s3, A3, n3, c3, B3, m3, d3, rfl, _, _⟩ := Tm.shape hu
    have hval := fun (o p : Obj) => validateTm_any u.tm [.int .i64 u.tm.lab.kind, .string u.tm.lab.nm, .int .i64 u.tm.lab.ix, .string s3, .slice A3 n3 c3, .slice B3 m3 d3] ((w23.alloc o).alloc p).drew (Lo w23) (tmRep.keep hu (fun k hk => heap_drew (heap_old (by have := hk.2; simp; omega) (heap_old hk.2 rfl))) (fun k hk => hk.2)) (fun k hk => by have h' : k < w23.heap.size := hk; simp; omega)
    have HU3 := Lib.hid (tmRep.keep (S' := Lo w23) hu (fun _ _ => rfl) (fun k hk => hk.2))
    clear hr hu hru hvv
    have HW3 := Lib.hid hw3
    have P0 := Lib.hid p0
    have P5 := Lib.hid p5
    have HB3T := Lib.hid hb3t
    have HTU := Lib.hid htu
    clear hw3 p0 p5 hb3t htu
    have hBA3 := ((hB3.alloc (by omega) (.cells #[.int .i64 u.tm.lab.kind, .string u.tm.lab.nm, .int .i64 u.tm.lab.ix, .string s3, .slice A3 n3 c3, .slice B3 m3 d3] 27)).alloc (by simp; omega) (.cells #[.int .i64 0, .int .i64 0] 29))
    have HBA3 := Lib.hid hBA3
    clear hBA3
    by_cases hz : (tmFault u.tm).1 = 0
    case neg =>
      have hcz : (((tmFault u.tm).1 : Int) == 0) = false := beq_eq_false_iff_ne.2 (by omega)
      clear hz
      have HVAL := Lib.hid hval
      clear hval
      go_wp2_with fail
      go_region_held3 (fun w' => w'.cell? ⟨w23.heap.size + 1, 0, none⟩ = some (.int .i64 0) ∧ w'.cell? ⟨w23.heap.size + 1, 1, none⟩ = some (.int .i64 0) ∧ w'.cell? ⟨0, 0, none⟩ = some (.int .i64 0) ∧ w'.cell? ⟨0, 1, none⟩ = some (.int .i64 0) ∧ w'.cell? ⟨w23.heap.size, 0, none⟩ = some (.int .i64 u.tm.lab.kind) ∧ w'.cell? ⟨w23.heap.size, 1, none⟩ = some (.string u.tm.lab.nm) ∧ w'.cell? ⟨w23.heap.size, 2, none⟩ = some (.int .i64 u.tm.lab.ix) ∧ w'.cell? ⟨w23.heap.size, 3, none⟩ = some (.string s3) ∧ w'.cell? ⟨w23.heap.size, 4, none⟩ = some (.slice A3 n3 c3) ∧ w'.cell? ⟨w23.heap.size, 5, none⟩ = some (.slice B3 m3 d3))
        ((first | (go_keep; done) | (go_split_ands; (repeat' apply And.intro) <;> (refine (kc4 _ _ (by omega)).trans ?_; assumption))))
        (((with_reducible refine (HVAL.out _ _).mono ?_); rintro e w24 ⟨rfl, hw24⟩; have kc4 : ∀ k q, k < w23.heap.size + 2 → w24.cell? ⟨k, q, none⟩ = _ := (fun k q h => hw24.cell (p := ⟨k, q, none⟩) (by simp; omega)); have z24 : w23.heap.size + 2 ≤ w24.heap.size := (by have := hw24.size; simpa using this); have HW24 := Lib.hid hw24; clear hw24))
      go_wp2_with fail
      go_returns
      exact ⟨rfl, (HBA3.out.drew).trans (HW24.out.mono (by simp; omega))⟩
    have ez := tmFault_zz hz
    obtain ⟨vu, su, eu, ou, nu, du, tu, _⟩ := tmFault_zero hz
    obtain rfl := Tv.tm_inj _ _ eu
    rw [ez] at hval
    clear hz ez eu
    have HVAL := Lib.hid hval
    have OU := Lib.hid ou
    clear hval ou
    go_wp2_with fail
    go_region_held3 (fun w' => w'.cell? ⟨w23.heap.size + 1, 0, none⟩ = some (.int .i64 0) ∧ w'.cell? ⟨w23.heap.size + 1, 1, none⟩ = some (.int .i64 0) ∧ w'.cell? ⟨0, 0, none⟩ = some (.int .i64 0) ∧ w'.cell? ⟨0, 1, none⟩ = some (.int .i64 0) ∧ w'.cell? ⟨w23.heap.size, 0, none⟩ = some (.int .i64 u.tm.lab.kind) ∧ w'.cell? ⟨w23.heap.size, 1, none⟩ = some (.string u.tm.lab.nm) ∧ w'.cell? ⟨w23.heap.size, 2, none⟩ = some (.int .i64 u.tm.lab.ix) ∧ w'.cell? ⟨w23.heap.size, 3, none⟩ = some (.string s3) ∧ w'.cell? ⟨w23.heap.size, 4, none⟩ = some (.slice A3 n3 c3) ∧ w'.cell? ⟨w23.heap.size, 5, none⟩ = some (.slice B3 m3 d3))
      ((first | (go_keep; done) | (go_split_ands; (repeat' apply And.intro) <;> (refine (kc4 _ _ (by omega)).trans ?_; assumption))))
      (((with_reducible refine (HVAL.out _ _).mono ?_); rintro e w24 ⟨rfl, hw24⟩; have kc4 : ∀ k q, k < w23.heap.size + 2 → w24.cell? ⟨k, q, none⟩ = _ := (fun k q h => hw24.cell (p := ⟨k, q, none⟩) (by simp; omega)); have z24 : w23.heap.size + 2 ≤ w24.heap.size := (by have := hw24.size; simpa using this); have HW24 := Lib.hid hw24; clear hw24))
    have hB4 : Below w.heap.size w w24 := (HBA3.out.drew).trans (HW24.out.mono (by simp; omega))
    have hb4t : Below wt.heap.size wt w24 := (((HB3T.out.alloc (by omega) _).alloc (by simp; omega) _).drew).trans (HW24.out.mono (by simp; omega))
    have q6 := (HW24.out.block w23.heap.size (by simp; omega)).trans (heap_drew (heap_old (by simp) (heap_at rfl)))
    have p0 := (HW24.out.block w.heap.size (by simp; omega)).trans (heap_drew (heap_old (by simp; omega) (heap_old l3w P0.out)))
    have p5 := (HW24.out.block wt.heap.size (by simp; omega)).trans (heap_drew (heap_old (by simp; omega) (heap_old l3t P5.out)))
    have hu4 : tmRep.R w24 (Lo w23) u.tm [.int .i64 u.tm.lab.kind, .string u.tm.lab.nm, .int .i64 u.tm.lab.ix, .string s3, .slice A3 n3 c3, .slice B3 m3 d3] := tmRep.keep HU3.out (fun k hk => by have h' : k < w23.heap.size := hk; exact (HW24.out.block k (by simp; omega)).trans (heap_drew (heap_old (by simp; omega) (heap_old h' rfl)))) (fun _ h => h)
    have hn2 := Lib.hid (type_ok u s [.int .i64 u.tm.lab.kind, .string u.tm.lab.nm, .int .i64 u.tm.lab.ix, .string s3, .slice A3 n3 c3, .slice B3 m3 d3] w24 (Lo w23) hu4 (fun k hk => by have h' : k < w23.heap.size := hk; omega) OU.out nu du HTU.out)
    clear kc4 c0' c1' l3 l3b nu du tu
    have HB4 := Lib.hid hB4
    have HU4 := Lib.hid hu4
    have HN2 := Lib.hid hn2
    have HB4T := Lib.hid hb4t
    have P0 := Lib.hid p0
    have P5 := Lib.hid p5
    clear hB4 hu4 hn2 hb4t p0 p5
    have q6_0 := cv0 q6
    have q6_1 := cv1 q6
    have q6_2 := cv2 q6
    have q6_3 := cv3 q6
    have q6_4 := cv4 q6
    have q6_5 := cv5 q6
    have q6_l := lt_heap q6
    have Q6 := Lib.hid q6
    clear q6
    go_wp2_with fail
    (with_reducible refine HN2.out.out.mono ?_)
    rintro e w25 ⟨y0, y1, rfl, hy, hw5⟩
    obtain ⟨sY, AY, nY, cY, rfl, rfl⟩ := hy.shape
    have z5 := hw5.size
    have hB5 := HB4.out.trans (hw5.mono (by omega))
    have hb5t := HB4T.out.trans (hw5.mono (by omega))
    have p0 := (hw5.block w.heap.size (by omega)).trans P0.out
    have p5 := (hw5.block wt.heap.size (by omega)).trans P5.out
    have c0' := (hB5.cell (p := ⟨0, 0, none⟩) hg).trans G0.out
    have c1' := (hB5.cell (p := ⟨0, 1, none⟩) hg).trans G1.out
    have l5 : 0 < w25.heap.size := by omega
    have l5b : 0 < w25.heap.size + 1 := by omega
    have l5t : wt.heap.size < w25.heap.size := by omega
    have l5t2 : wt.heap.size < w25.heap.size + 1 := by omega
    have l5w : w.heap.size < w25.heap.size := by omega
    have heq := fun (o p : Obj) => eqTy_any _ s.ty s.ty (.string sY) (.slice AY nY cY) (.string sT) (.slice AT nT cT) ((w25.alloc o).alloc p) (Lo w25) (Nat.le_refl _)
      (Ty.In_keep (fun k hk => heap_old (by have := hk.2; simp; omega) (heap_old hk.2 rfl)) (fun k hk => hk.2) _ _ _ hy)
      (Ty.In_keep (fun k hk => by have h' : k < wt.heap.size := hk; exact heap_old (by simp; omega) (heap_old (by omega) (hb5t.block k h'))) (fun k hk => by have h' : k < wt.heap.size := hk; exact (show k < w25.heap.size by omega)) _ _ _ HTP.out) (fun k hk => by have h' : k < w25.heap.size := hk; simp; omega)
    rw [Ty.beq_self] at heq
    clear q6_0 q6_1 q6_2 q6_3 q6_4 q6_5 q6_l hy
    have HW5 := Lib.hid hw5
    have HB5 := Lib.hid hB5
    have HB5T := Lib.hid hb5t
    have HEQ := Lib.hid heq
    have P0 := Lib.hid p0
    clear hw5 hB5 hb5t heq p0
    have p5_0 := cv0 p5
    have p5_1 := cv1 p5
    have p5_l := lt_heap p5
    have P5 := Lib.hid p5
    clear p5
    go_wp2_with fail
    (with_reducible refine (HEQ.out _ _).mono ?_)
    rintro e w27 ⟨rfl, hw7⟩
    have HW7 := Lib.hid hw7
    clear hw7
    clear p5_0 p5_1 p5_l
    go_wp2_with fail
    go_returns
    exact ⟨rfl, ((HB5.out.alloc (by omega) _).alloc (by simp; omega) _).trans (HW7.out.mono (by simp; omega))⟩
  have ez := tmFault_zz hz
  obtain ⟨vu, su, eu, ou, nu, du, tu, _⟩ := tmFault_zero hz
  obtain rfl := Tv.tm_inj _ _ eu
  rw [ez] at hval
  clear hz ez eu
  have HVAL := Lib.hid hval
  have OU := Lib.hid ou
  clear hval ou
  go_wp2_with fail
  go_region_held3 (fun w' => w'.cell? ⟨w13.heap.size + 1, 0, none⟩ = some (.int .i64 0) ∧ w'.cell? ⟨w13.heap.size + 1, 1, none⟩ = some (.int .i64 0) ∧ w'.cell? ⟨0, 0, none⟩ = some (.int .i64 0) ∧ w'.cell? ⟨0, 1, none⟩ = some (.int .i64 0) ∧ w'.cell? ⟨w13.heap.size, 0, none⟩ = some (.int .i64 u.tm.lab.kind) ∧ w'.cell? ⟨w13.heap.size, 1, none⟩ = some (.string u.tm.lab.nm) ∧ w'.cell? ⟨w13.heap.size, 2, none⟩ = some (.int .i64 u.tm.lab.ix) ∧ w'.cell? ⟨w13.heap.size, 3, none⟩ = some (.string s3) ∧ w'.cell? ⟨w13.heap.size, 4, none⟩ = some (.slice A3 n3 c3) ∧ w'.cell? ⟨w13.heap.size, 5, none⟩ = some (.slice B3 m3 d3))
    ((first | (go_keep; done) | (go_split_ands; (repeat' apply And.intro) <;> (refine (kc4 _ _ (by omega)).trans ?_; assumption))))
    (((with_reducible refine (HVAL.out _ _).mono ?_); rintro e w14 ⟨rfl, hw14⟩; have kc4 : ∀ k q, k < w13.heap.size + 2 → w14.cell? ⟨k, q, none⟩ = _ := (fun k q h => hw14.cell (p := ⟨k, q, none⟩) (by simp; omega)); have z14 : w13.heap.size + 2 ≤ w14.heap.size := (by have := hw14.size; simpa using this); have HW14 := Lib.hid hw14; clear hw14))
  have hB4 : Below w.heap.size w w14 := (HBA3.out.drew).trans (HW14.out.mono (by simp; omega))
  have hb4t : Below wt.heap.size wt w14 := (((HB3T.out.alloc (by omega) _).alloc (by simp; omega) _).drew).trans (HW14.out.mono (by simp; omega))
  have q6 := (HW14.out.block w13.heap.size (by simp; omega)).trans (heap_drew (heap_old (by simp) (heap_at rfl)))
  have p0 := (HW14.out.block w.heap.size (by simp; omega)).trans (heap_drew (heap_old (by simp; omega) (heap_old l3w P0.out)))
  have p5 := (HW14.out.block wt.heap.size (by simp; omega)).trans (heap_drew (heap_old (by simp; omega) (heap_old l3t P5.out)))
  have hu4 : tmRep.R w14 (Lo w13) u.tm [.int .i64 u.tm.lab.kind, .string u.tm.lab.nm, .int .i64 u.tm.lab.ix, .string s3, .slice A3 n3 c3, .slice B3 m3 d3] := tmRep.keep HU3.out (fun k hk => by have h' : k < w13.heap.size := hk; exact (HW14.out.block k (by simp; omega)).trans (heap_drew (heap_old (by simp; omega) (heap_old h' rfl)))) (fun _ h => h)
  have hn2 := Lib.hid (type_ok u s [.int .i64 u.tm.lab.kind, .string u.tm.lab.nm, .int .i64 u.tm.lab.ix, .string s3, .slice A3 n3 c3, .slice B3 m3 d3] w14 (Lo w13) hu4 (fun k hk => by have h' : k < w13.heap.size := hk; omega) OU.out nu du HTU.out)
  clear kc4 c0' c1' l3 l3b nu du tu
  have HB4 := Lib.hid hB4
  have HU4 := Lib.hid hu4
  have HN2 := Lib.hid hn2
  have HB4T := Lib.hid hb4t
  have P0 := Lib.hid p0
  have P5 := Lib.hid p5
  clear hB4 hu4 hn2 hb4t p0 p5
  have q6_0 := cv0 q6
  have q6_1 := cv1 q6
  have q6_2 := cv2 q6
  have q6_3 := cv3 q6
  have q6_4 := cv4 q6
  have q6_5 := cv5 q6
  have q6_l := lt_heap q6
  have Q6 := Lib.hid q6
  clear q6
  go_wp2_with fail
  (with_reducible refine HN2.out.out.mono ?_)
  rintro e w15 ⟨y0, y1, rfl, hy, hw5⟩
  obtain ⟨sY, AY, nY, cY, rfl, rfl⟩ := hy.shape
  have z5 := hw5.size
  have hB5 := HB4.out.trans (hw5.mono (by omega))
  have hb5t := HB4T.out.trans (hw5.mono (by omega))
  have p0 := (hw5.block w.heap.size (by omega)).trans P0.out
  have p5 := (hw5.block wt.heap.size (by omega)).trans P5.out
  have c0' := (hB5.cell (p := ⟨0, 0, none⟩) hg).trans G0.out
  have c1' := (hB5.cell (p := ⟨0, 1, none⟩) hg).trans G1.out
  have l5 : 0 < w15.heap.size := by omega
  have l5b : 0 < w15.heap.size + 1 := by omega
  have l5t : wt.heap.size < w15.heap.size := by omega
  have l5t2 : wt.heap.size < w15.heap.size + 1 := by omega
  have l5w : w.heap.size < w15.heap.size := by omega
  have heq := fun (o p : Obj) => eqTy_any _ s.ty s.ty (.string sY) (.slice AY nY cY) (.string sT) (.slice AT nT cT) ((w15.alloc o).alloc p) (Lo w15) (Nat.le_refl _)
    (Ty.In_keep (fun k hk => heap_old (by have := hk.2; simp; omega) (heap_old hk.2 rfl)) (fun k hk => hk.2) _ _ _ hy)
    (Ty.In_keep (fun k hk => by have h' : k < wt.heap.size := hk; exact heap_old (by simp; omega) (heap_old (by omega) (hb5t.block k h'))) (fun k hk => by have h' : k < wt.heap.size := hk; exact (show k < w15.heap.size by omega)) _ _ _ HTP.out) (fun k hk => by have h' : k < w15.heap.size := hk; simp; omega)
  rw [Ty.beq_self] at heq
  clear q6_0 q6_1 q6_2 q6_3 q6_4 q6_5 q6_l hy
  have HW5 := Lib.hid hw5
  have HB5 := Lib.hid hB5
  have HB5T := Lib.hid hb5t
  have HEQ := Lib.hid heq
  have P0 := Lib.hid p0
  clear hw5 hB5 hb5t heq p0
  have p5_0 := cv0 p5
  have p5_1 := cv1 p5
  have p5_l := lt_heap p5
  have P5 := Lib.hid p5
  clear p5
  go_wp2_with fail
  (with_reducible refine (HEQ.out _ _).mono ?_)
  rintro e w17 ⟨rfl, hw7⟩
  have HW7 := Lib.hid hw7
  clear hw7
  clear p5_0 p5_1 p5_l
  go_upto_region 12 with (fail)
  refine gen_last (fun wc => Below w.heap.size w wc ∧ wc.heap[w.heap.size]? = some (.cells #[.int .i64 v.tm.lab.kind, .string v.tm.lab.nm, .int .i64 v.tm.lab.ix, .string s0, .slice A0 n0 c0, .slice B0 m0 d0] 27 (0, 0)) ∧ wc.heap[wt.heap.size]? = some (.cells #[.string sT, .slice AT nT cT] 24 (0, 0)) ∧ Below wt.heap.size wt wc) ?_ ?_
  · exact ⟨((HB5.out.alloc (by omega) _).alloc (by simp; omega) _).trans (HW7.out.mono (by simp; omega)), (HW7.out.block w.heap.size (by simp; omega)).trans (heap_old (by simp; omega) (heap_old l5w P0.out)), (HW7.out.block wt.heap.size (by simp; omega)).trans (heap_old (by simp; omega) (heap_old l5t P5.out)), ((HB5T.out.alloc (by omega) _).alloc (by simp; omega) _).trans (HW7.out.mono (by simp; omega))⟩
  rintro wc ⟨hBb, p0, p5, hbb⟩
  have hlb := Lib.hid (long_any v.tm [.int .i64 v.tm.lab.kind, .string v.tm.lab.nm, .int .i64 v.tm.lab.ix, .string s0, .slice A0 n0 c0, .slice B0 m0 d0] wc S (tmRep.keep HT.out (fun k hk => hBb.block k (HS.out k hk)) (fun _ h => h)) (fun k hk => by have := HS.out k hk; have := hBb.size; omega))
  have zb := hBb.size
  have zbt := hbb.size
  have p5l : wt.heap.size < wc.heap.size := lt_heap p5
  have HBB_ := Lib.hid hbb
  clear hbb
  have HBB := Lib.hid hBb
  have HLB := Lib.hid hlb
  have P5 := Lib.hid p5
  clear hBb hlb p5
  have p0_0 := cv0 p0
  have p0_1 := cv1 p0
  have p0_2 := cv2 p0
  have p0_3 := cv3 p0
  have p0_4 := cv4 p0
  have p0_5 := cv5 p0
  have p0_l := lt_heap p0
  have P0 := Lib.hid p0
  clear p0
  go_wp2_with fail
  (with_reducible refine HLB.out.out.mono ?_)
  rintro e w23 hr
  have hw3 := hr.2.2
  have z3 := hw3.size
  have hB3 := HBB.out.trans (hw3.mono (by omega))
  have p0 := (hw3.block w.heap.size p0_l).trans P0.out
  have p5 := (hw3.block wt.heap.size p5l).trans P5.out
  have hb3t : Below wt.heap.size wt w23 := HBB_.out.trans (hw3.mono (by omega))
  have c0' := (hB3.cell (p := ⟨0, 0, none⟩) hg).trans G0.out
  have c1' := (hB3.cell (p := ⟨0, 1, none⟩) hg).trans G1.out
  have l3 : 0 < w23.heap.size := by omega
  have l3b : 0 < w23.heap.size + 1 := by omega
  have l3w : w.heap.size < w23.heap.size := by omega
  have l3t : wt.heap.size < w23.heap.size := by omega
  clear p0_0 p0_1 p0_2 p0_3 p0_4 p0_5 p0_l p5l
  rcases hr.cases3 with ⟨c, i, hc, rfl⟩ | ⟨v', u, s', ds, hvv, _, _, _, hru, rfl, hu⟩
  · have hc' : (c == 0) = false := beq_eq_false_iff_ne.2 hc
    clear hr hc
    have HW3 := Lib.hid hw3
    have HB3 := Lib.hid hB3
    have P0 := Lib.hid p0
    have P5 := Lib.hid p5
    have HB3T := Lib.hid hb3t
    clear hw3 hB3 p0 p5 hb3t
    unfold zTm
    go_wp2_with fail
    go_quiet (fail)
    go_wp2_with fail
    go_returns
    exact ⟨rfl, below_drewN ((HB3.out.alloc (by omega) _).alloc (by simp; omega) _) _⟩
  obtain rfl := Tv.tm_inj _ _ hvv
  have htu := Tv.long_typ HTV.out hru
  obtain ⟨s3, A3, n3, c3, B3, m3, d3, rfl, _, _⟩ := Tm.shape hu
  have hval := fun (o p : Obj) => validateTm_any u.tm [.int .i64 u.tm.lab.kind, .string u.tm.lab.nm, .int .i64 u.tm.lab.ix, .string s3, .slice A3 n3 c3, .slice B3 m3 d3] ((w23.alloc o).alloc p).drew (Lo w23) (tmRep.keep hu (fun k hk => heap_drew (heap_old (by have := hk.2; simp; omega) (heap_old hk.2 rfl))) (fun k hk => hk.2)) (fun k hk => by have h' : k < w23.heap.size := hk; simp; omega)
  have HU3 := Lib.hid (tmRep.keep (S' := Lo w23) hu (fun _ _ => rfl) (fun k hk => hk.2))
  clear hr hu hru hvv
  have HW3 := Lib.hid hw3
  have P0 := Lib.hid p0
  have P5 := Lib.hid p5
  have HB3T := Lib.hid hb3t
  have HTU := Lib.hid htu
  clear hw3 p0 p5 hb3t htu
  have hBA3 := ((hB3.alloc (by omega) (.cells #[.int .i64 u.tm.lab.kind, .string u.tm.lab.nm, .int .i64 u.tm.lab.ix, .string s3, .slice A3 n3 c3, .slice B3 m3 d3] 27)).alloc (by simp; omega) (.cells #[.int .i64 0, .int .i64 0] 29))
  have HBA3 := Lib.hid hBA3
  clear hBA3
  by_cases hz : (tmFault u.tm).1 = 0
  case neg =>
    have hcz : (((tmFault u.tm).1 : Int) == 0) = false := beq_eq_false_iff_ne.2 (by omega)
    clear hz
    have HVAL := Lib.hid hval
    clear hval
    go_wp2_with fail
    go_region_held3 (fun w' => w'.cell? ⟨w23.heap.size + 1, 0, none⟩ = some (.int .i64 0) ∧ w'.cell? ⟨w23.heap.size + 1, 1, none⟩ = some (.int .i64 0) ∧ w'.cell? ⟨0, 0, none⟩ = some (.int .i64 0) ∧ w'.cell? ⟨0, 1, none⟩ = some (.int .i64 0) ∧ w'.cell? ⟨w23.heap.size, 0, none⟩ = some (.int .i64 u.tm.lab.kind) ∧ w'.cell? ⟨w23.heap.size, 1, none⟩ = some (.string u.tm.lab.nm) ∧ w'.cell? ⟨w23.heap.size, 2, none⟩ = some (.int .i64 u.tm.lab.ix) ∧ w'.cell? ⟨w23.heap.size, 3, none⟩ = some (.string s3) ∧ w'.cell? ⟨w23.heap.size, 4, none⟩ = some (.slice A3 n3 c3) ∧ w'.cell? ⟨w23.heap.size, 5, none⟩ = some (.slice B3 m3 d3))
      ((first | (go_keep; done) | (go_split_ands; (repeat' apply And.intro) <;> (refine (kc4 _ _ (by omega)).trans ?_; assumption))))
      (((with_reducible refine (HVAL.out _ _).mono ?_); rintro e w24 ⟨rfl, hw24⟩; have kc4 : ∀ k q, k < w23.heap.size + 2 → w24.cell? ⟨k, q, none⟩ = _ := (fun k q h => hw24.cell (p := ⟨k, q, none⟩) (by simp; omega)); have z24 : w23.heap.size + 2 ≤ w24.heap.size := (by have := hw24.size; simpa using this); have HW24 := Lib.hid hw24; clear hw24))
    go_wp2_with fail
    go_returns
    exact ⟨rfl, (HBA3.out.drew).trans (HW24.out.mono (by simp; omega))⟩
  have ez := tmFault_zz hz
  obtain ⟨vu, su, eu, ou, nu, du, tu, _⟩ := tmFault_zero hz
  obtain rfl := Tv.tm_inj _ _ eu
  rw [ez] at hval
  clear hz ez eu
  have HVAL := Lib.hid hval
  have OU := Lib.hid ou
  clear hval ou
  go_wp2_with fail
  go_region_held3 (fun w' => w'.cell? ⟨w23.heap.size + 1, 0, none⟩ = some (.int .i64 0) ∧ w'.cell? ⟨w23.heap.size + 1, 1, none⟩ = some (.int .i64 0) ∧ w'.cell? ⟨0, 0, none⟩ = some (.int .i64 0) ∧ w'.cell? ⟨0, 1, none⟩ = some (.int .i64 0) ∧ w'.cell? ⟨w23.heap.size, 0, none⟩ = some (.int .i64 u.tm.lab.kind) ∧ w'.cell? ⟨w23.heap.size, 1, none⟩ = some (.string u.tm.lab.nm) ∧ w'.cell? ⟨w23.heap.size, 2, none⟩ = some (.int .i64 u.tm.lab.ix) ∧ w'.cell? ⟨w23.heap.size, 3, none⟩ = some (.string s3) ∧ w'.cell? ⟨w23.heap.size, 4, none⟩ = some (.slice A3 n3 c3) ∧ w'.cell? ⟨w23.heap.size, 5, none⟩ = some (.slice B3 m3 d3))
    ((first | (go_keep; done) | (go_split_ands; (repeat' apply And.intro) <;> (refine (kc4 _ _ (by omega)).trans ?_; assumption))))
    (((with_reducible refine (HVAL.out _ _).mono ?_); rintro e w24 ⟨rfl, hw24⟩; have kc4 : ∀ k q, k < w23.heap.size + 2 → w24.cell? ⟨k, q, none⟩ = _ := (fun k q h => hw24.cell (p := ⟨k, q, none⟩) (by simp; omega)); have z24 : w23.heap.size + 2 ≤ w24.heap.size := (by have := hw24.size; simpa using this); have HW24 := Lib.hid hw24; clear hw24))
  have hB4 : Below w.heap.size w w24 := (HBA3.out.drew).trans (HW24.out.mono (by simp; omega))
  have hb4t : Below wt.heap.size wt w24 := (((HB3T.out.alloc (by omega) _).alloc (by simp; omega) _).drew).trans (HW24.out.mono (by simp; omega))
  have q6 := (HW24.out.block w23.heap.size (by simp; omega)).trans (heap_drew (heap_old (by simp) (heap_at rfl)))
  have p0 := (HW24.out.block w.heap.size (by simp; omega)).trans (heap_drew (heap_old (by simp; omega) (heap_old l3w P0.out)))
  have p5 := (HW24.out.block wt.heap.size (by simp; omega)).trans (heap_drew (heap_old (by simp; omega) (heap_old l3t P5.out)))
  have hu4 : tmRep.R w24 (Lo w23) u.tm [.int .i64 u.tm.lab.kind, .string u.tm.lab.nm, .int .i64 u.tm.lab.ix, .string s3, .slice A3 n3 c3, .slice B3 m3 d3] := tmRep.keep HU3.out (fun k hk => by have h' : k < w23.heap.size := hk; exact (HW24.out.block k (by simp; omega)).trans (heap_drew (heap_old (by simp; omega) (heap_old h' rfl)))) (fun _ h => h)
  have hn2 := Lib.hid (type_ok u s [.int .i64 u.tm.lab.kind, .string u.tm.lab.nm, .int .i64 u.tm.lab.ix, .string s3, .slice A3 n3 c3, .slice B3 m3 d3] w24 (Lo w23) hu4 (fun k hk => by have h' : k < w23.heap.size := hk; omega) OU.out nu du HTU.out)
  clear kc4 c0' c1' l3 l3b nu du tu
  have HB4 := Lib.hid hB4
  have HU4 := Lib.hid hu4
  have HN2 := Lib.hid hn2
  have HB4T := Lib.hid hb4t
  have P0 := Lib.hid p0
  have P5 := Lib.hid p5
  clear hB4 hu4 hn2 hb4t p0 p5
  have q6_0 := cv0 q6
  have q6_1 := cv1 q6
  have q6_2 := cv2 q6
  have q6_3 := cv3 q6
  have q6_4 := cv4 q6
  have q6_5 := cv5 q6
  have q6_l := lt_heap q6
  have Q6 := Lib.hid q6
  clear q6
  go_wp2_with fail
  (with_reducible refine HN2.out.out.mono ?_)
  rintro e w25 ⟨y0, y1, rfl, hy, hw5⟩
  obtain ⟨sY, AY, nY, cY, rfl, rfl⟩ := hy.shape
  have z5 := hw5.size
  have hB5 := HB4.out.trans (hw5.mono (by omega))
  have hb5t := HB4T.out.trans (hw5.mono (by omega))
  have p0 := (hw5.block w.heap.size (by omega)).trans P0.out
  have p5 := (hw5.block wt.heap.size (by omega)).trans P5.out
  have c0' := (hB5.cell (p := ⟨0, 0, none⟩) hg).trans G0.out
  have c1' := (hB5.cell (p := ⟨0, 1, none⟩) hg).trans G1.out
  have l5 : 0 < w25.heap.size := by omega
  have l5b : 0 < w25.heap.size + 1 := by omega
  have l5t : wt.heap.size < w25.heap.size := by omega
  have l5t2 : wt.heap.size < w25.heap.size + 1 := by omega
  have l5w : w.heap.size < w25.heap.size := by omega
  have heq := fun (o p : Obj) => eqTy_any _ s.ty s.ty (.string sY) (.slice AY nY cY) (.string sT) (.slice AT nT cT) ((w25.alloc o).alloc p) (Lo w25) (Nat.le_refl _)
    (Ty.In_keep (fun k hk => heap_old (by have := hk.2; simp; omega) (heap_old hk.2 rfl)) (fun k hk => hk.2) _ _ _ hy)
    (Ty.In_keep (fun k hk => by have h' : k < wt.heap.size := hk; exact heap_old (by simp; omega) (heap_old (by omega) (hb5t.block k h'))) (fun k hk => by have h' : k < wt.heap.size := hk; exact (show k < w25.heap.size by omega)) _ _ _ HTP.out) (fun k hk => by have h' : k < w25.heap.size := hk; simp; omega)
  rw [Ty.beq_self] at heq
  clear q6_0 q6_1 q6_2 q6_3 q6_4 q6_5 q6_l hy
  have HW5 := Lib.hid hw5
  have HB5 := Lib.hid hB5
  have HB5T := Lib.hid hb5t
  have HEQ := Lib.hid heq
  have P0 := Lib.hid p0
  clear hw5 hB5 hb5t heq p0
  have p5_0 := cv0 p5
  have p5_1 := cv1 p5
  have p5_l := lt_heap p5
  have P5 := Lib.hid p5
  clear p5
  go_wp2_with fail
  (with_reducible refine (HEQ.out _ _).mono ?_)
  rintro e w27 ⟨rfl, hw7⟩
  have HW7 := Lib.hid hw7
  clear hw7
  clear p5_0 p5_1 p5_l
  go_wp2_with fail
  go_returns
  exact ⟨rfl, ((HB5.out.alloc (by omega) _).alloc (by simp; omega) _).trans (HW7.out.mono (by simp; omega))⟩

end Go.Proofs.YthflahcnkhmpaabDoor
