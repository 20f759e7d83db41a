/-
  The statement ReduceLongMatchesSpecCardSaid is proved: whatever its argument, the law ReduceLongMatchesSpec returns true, and it reads afterwards as before.
  Conditions: those of the given row alone (the listed variables are laid as the program's text lays them; the card ties that).
-/
import Derived.Test.YthflahcnkhmpaabDoorProg
import Derived.Test.YthflahcnkhmpaabDoorMakers
import Derived.Test.YthflahcnkhmpaabDoorExpand
import Derived.Test.YthflahcnkhmpaabDoorTypedR
import Derived.Test.YthflahcnkhmpaabDoorEqTy
import Derived.Test.YthflahcnkhmpaabDoorTmStack
import Derived.Deep.QuietTactic
import Derived.BigQuiet
import Derived.WalkSmall
import Derived.Test.YthflahcnkhmpaabDoorRows
import Derived.Test.YthflahcnkhmpaabDoorTie
import Derived.Test.YthflahcnkhmpaabDoorCards
import Derived.Test.YthflahcnkhmpaabDoorRead
import Derived.SevenTiedAt
namespace Go.Proofs.YthflahcnkhmpaabDoor
open Go Go.RowKit
set_option linter.unusedSimpArgs false
set_option linter.unusedVariables false

def bWalkL : ByteArray := ⟨#[119, 97, 108, 107]⟩
def tvWalkL : Tv := .con bWalkL (.fn .e .t)
theorem Sy.et_faultL : (Sy.fn .e .t).ty.fault = 0 := by unfold Ty.fault; rw [Sy.val_ok (.fn .e .t) 1 0 (by decide) (by decide)]
theorem tvWalkL_fault : tmFault tvWalkL.tm = (0, 0) := tmFault_ok (s := .fn .e .t) ⟨by decide +kernel, Sy.et_faultL⟩ (by decide) (by decide) rfl
theorem tvWalkL_long : Tv.long tvWalkL = some (.abs .e (.app tvWalkL (.var 0))) := by
  have h1 : Tv.steps 2001 tvWalkL = some tvWalkL := Tv.steps_normal 2000 rfl (by decide)
  have h2 : Tv.expand 2001 tvWalkL (.fn .e .t) [] 2000 = (.abs .e (.app tvWalkL (.var 0)), 1996) := by
    rw [Tv.expand_eta 2000 _ _ _ _ _ (by omega) rfl, Tv.expand_base 1999 _ _ _ _ (by omega) rfl]
    show (Tv.abs .e (Tv.app tvWalkL (Tv.expand 1999 (.var 0) .e [.e] (2000 - 1 - 1 - 1)).1), (Tv.expand 1999 (.var 0) .e [.e] (2000 - 1 - 1 - 1)).2) = _
    rw [Tv.expand_base 1998 _ _ _ _ (by omega) rfl]
    rfl
  unfold Tv.long
  rw [show tvWalkL.typ [] = some (.fn .e .t) from rfl, h1]
  simp only [h2]
  rfl
theorem FormAt.walkL {w w' : World} {e : Ending} (h : FormAt Tv.long tvWalkL.tm w e w') : ∃ ds : List Value, e = .returned (.tuple #[.agg ds.toArray, .agg #[.int .i64 0, .int .i64 0]]) ∧ tmRep.R w' (Fresh w w') (Tv.abs .e (.app tvWalkL (.var 0))).tm ds := by
  rcases h.2.1 tvWalkL rfl (by rw [tvWalkL_fault]) with ⟨h1, _⟩ | ⟨u, ds, h1, h2, h3⟩
  · rw [tvWalkL_long] at h1; simp at h1
  · rw [tvWalkL_long] at h1
    obtain rfl := Option.some.inj h1
    exact ⟨ds, h2, h3⟩
/-- What a function returns for a valid term, in letters: there is no form, or it. -/
theorem FormAt.uniL {r : Tv → Option Tv} {v : Tv} {w w' : World} {e : Ending} (hz : (tmFault v.tm).1 = 0) (h : FormAt r v.tm w e w') :
    ∃ (kT : Int) (nmT : ByteArray) (ixT : Int) (s7 : ByteArray) (A7 : Option Addr) (n7 c7 : Nat) (B7 : Option Addr) (m7 d7 : Nat) (ca ia : Int) (TT : Tm),
      e = .returned (.tuple #[.agg #[.int .i64 kT, .string nmT, .int .i64 ixT, .string s7, .slice A7 n7 c7, .slice B7 m7 d7], .agg #[.int .i64 ca, .int .i64 ia]]) ∧ tmRep.R w' (Lo w') TT [.int .i64 kT, .string nmT, .int .i64 ixT, .string s7, .slice A7 n7 c7, .slice B7 m7 d7] ∧
      ((r v = none ∧ TT = tmZero0 ∧ ca = 17 ∧ ia = -1) ∨ (∃ u, r v = some u ∧ TT = u.tm ∧ ca = 0 ∧ ia = 0)) := by
  rcases h.2.1 v rfl hz with ⟨h1, h2⟩ | ⟨u, ds, h1, h2, h3⟩
  · exact ⟨_, _, _, _, _, _, _, _, _, _, _, _, tmZero0, h2, tmZero0_in, Or.inl ⟨h1, rfl, rfl, rfl⟩⟩
  · obtain ⟨s7, A7, n7, c7, B7, m7, d7, rfl, _, _⟩ := Tm.shape h3
    exact ⟨_, _, _, _, _, _, _, _, _, _, _, _, u.tm, h2, tmRep.keep h3 (fun _ _ => rfl) (fun k hk => hk.2), Or.inr ⟨u, h1, rfl, rfl, rfl⟩⟩

set_option maxRecDepth 100000 in
set_option maxHeartbeats 4000000 in
theorem longLaw_any (t : Tm) (cs : List Value) (w : World) (S : Nat → Prop) (ht : tmRep.R w S t cs) (hS : ∀ b, S b → b < w.heap.size)
    (g0 : w.cell? ⟨0, 0, none⟩ = some (.int .i64 0)) (g1 : w.cell? ⟨0, 1, none⟩ = some (.int .i64 0)) :
    Calls Tryd.prog 7 #[.agg cs.toArray] w fun e w' => e = .returned (.bool true) ∧ Below w.heap.size w w' := by
  obtain ⟨s0, A0, n0, c0, B0, m0, d0, rfl, _, _⟩ := Tm.shape ht
  have hg := World.block_lt_of_cell? w _ g0
  have HT := Lib.hid ht
  have HS := Lib.hid hS
  have G0 := Lib.hid g0
  have G1 := Lib.hid g1
  clear ht hS g0 g1
  go_enter Tryd.func7, Tryd.ntmps7
  go_wp2_with fail
  (with_reducible refine (et_any _).mono ?_)
  rintro e w1 ⟨v0, v1, rfl, h1, hw1⟩
  obtain ⟨se, Ae, ne, ce, rfl, rfl⟩ := h1.shape
  have z1 : w.heap.size + 1 ≤ w1.heap.size := by have := hw1.size; simpa using this
  have p0 := (hw1.block w.heap.size (by simp)).trans (heap_at rfl)
  have hB1 : Below w.heap.size w w1 := ((Below.refl _ w).alloc (Nat.le_refl _) _).trans (hw1.mono (by simp))
  have h1' : (Sy.fn .e .t).ty.In w1 (Lo w1) (.string se) (.slice Ae ne ce) := h1.mono (fun b hb => by rcases hb with hb | hb; exact hb.elim; exact hb.2)
  have hwk := Lib.hid (constant_any ⟨#[119, 97, 108, 107]⟩ (Sy.fn .e .t).ty _ _ w1 (Lo w1) (by decide +kernel) h1' (fun b h => h))
  clear h1 h1' hw1
  have HB1 := Lib.hid hB1
  have P0 := Lib.hid p0
  have HWK := Lib.hid hwk
  clear hB1 p0 hwk
  go_wp2_with fail
  (with_reducible refine HWK.out.out.mono ?_)
  rintro e wa ⟨rfl, ha, hwa⟩
  have hBa := HB1.out.trans (hwa.mono (by omega))
  have za := hwa.size
  have p0 := (hwa.block _ (by omega)).trans P0.out
  have hst := fun (o : Obj) => Lib.hid (long_any tvWalkL.tm [.int .i64 1, .string ⟨#[119, 97, 108, 107]⟩, .int .i64 0, .string se, .slice Ae ne ce, .slice none 0 0] (wa.alloc o) (Lo w1) (tmRep.keep ha (fun k hk => heap_old (by have h' : k < w1.heap.size := hk; omega) rfl) (fun _ h => h)) (fun k hk => by have h' : k < w1.heap.size := hk; simp; omega))
  clear hwa ha
  have HBA := Lib.hid hBa
  have P0 := Lib.hid p0
  have HST := Lib.hid hst
  clear hBa p0 hst
  go_wp2_with fail
  (with_reducible refine (HST.out _).out.mono ?_)
  rintro e w2 hr
  have hw2 := hr.2.2
  obtain ⟨ds, rfl, h2⟩ := hr.walkL
  obtain ⟨u0, u1, vs, rfl, -, hty, hsl⟩ := Tm.open_ (a := ⟨3, bNil, 0, Sy.e.ty⟩) (l := [(Tv.app tvWalkL (.var 0)).tm]) h2
  have HSL := Lib.hid hsl
  obtain ⟨Av, nv, cv, rfl, hln, -⟩ := hsl
  obtain rfl : 1 = nv := hln
  obtain ⟨bk, ok, kc, rfl, hSk, hkr, hkc⟩ := Rep.Sl.at_ HSL.out (k := 0) (a := (Tv.app tvWalkL (.var 0)).tm) rfl
  obtain ⟨sq, Aq, nq, cq, Bq, mq, dq, rfl, _, _⟩ := Tm.shape hkr
  obtain ⟨sk, Ak, nk, ck, rfl, rfl⟩ := hty.shape
  have z2 : wa.heap.size + 1 ≤ w2.heap.size := by have := hw2.size; simpa using this
  have ek : w2.cell? ⟨bk, ok, none⟩ = some (.int .i64 4) := by
    have := hkc 0 _ rfl
    rwa [show ok + 0 * tmRep.size + 0 = ok from by show ok + 0 * 6 + 0 = _; omega] at this
  have lk : bk < w2.heap.size := hSk.2
  have lk2 : bk < w2.heap.size + 1 := by omega
  have p0 := (hw2.block _ (by simp; omega)).trans (heap_old (by omega) P0.out)
  have hB2 := (HBA.out.alloc (by omega) (.cells #[.int .i64 1, .string ⟨#[119, 97, 108, 107]⟩, .int .i64 0, .string se, .slice Ae ne ce, .slice none 0 0] 27)).trans (hw2.mono (by simp; omega))
  have c0' := (hB2.cell (p := ⟨0, 0, none⟩) hg).trans G0.out
  have c1' := (hB2.cell (p := ⟨0, 1, none⟩) hg).trans G1.out
  have l2 : 0 < w2.heap.size := by omega
  have l2b : 0 < w2.heap.size + 1 := by omega
  have hS2 : ∀ (o p : Obj) k, S k → ((w2.alloc o).alloc p).heap[k]? = w.heap[k]? := fun o p k hk => by
    have := HS.out k hk
    exact heap_old (by simp; omega) (heap_old (by omega) (hB2.block k this))
  have hst2 := fun (o p : Obj) => Lib.hid (long_any t [.int .i64 t.lab.kind, .string t.lab.nm, .int .i64 t.lab.ix, .string s0, .slice A0 n0 c0, .slice B0 m0 d0] ((w2.alloc o).alloc p) S (tmRep.keep HT.out (hS2 o p) (fun _ h => h)) (fun k hk => by have := HS.out k hk; simp; omega))
  clear hr h2 hty hkr hkc
  have HW2 := Lib.hid hw2
  have HB2 := Lib.hid hB2
  have HS2 := Lib.hid hS2
  have HST2 := Lib.hid hst2
  clear hw2 hB2 hS2 hst2
  have p0_0 := cv0 p0
  have p0_1 := cv1 p0
  have p0_2 := cv2 p0
  have p0_3 := cv3 p0
  have p0_4 := cv4 p0
  have p0_5 := cv5 p0
  have p0_l := lt_heap p0
  have P0 := Lib.hid p0
  clear p0
  simp only
  go_wp2_with fail
  (with_reducible refine (HST2.out _ _).out.mono ?_)
  rintro e w3 hr
  have hw3 := hr.2.2
  have z3 : w2.heap.size + 2 ≤ w3.heap.size := by have := hw3.size; simpa using this
  have hB3 := ((HB2.out.alloc (by omega) (.cells #[.int .i64 3, .string bNil, .int .i64 0, .string sk, .slice Ak nk ck, .slice (some ⟨bk, ok, none⟩) 1 cv] 27)).alloc (by simp; omega) (.cells #[.int .i64 0, .int .i64 0] 29)).trans (hw3.mono (by simp; omega))
  have p0 := (hw3.block w.heap.size (by simp; omega)).trans (heap_old (by simp; omega) (heap_old p0_l P0.out))
  have c0' := (hB3.cell (p := ⟨0, 0, none⟩) hg).trans G0.out
  have c1' := (hB3.cell (p := ⟨0, 1, none⟩) hg).trans G1.out
  have l3 : 0 < w3.heap.size := by omega
  have l3b : 0 < w3.heap.size + 1 := by omega
  clear p0_0 p0_1 p0_2 p0_3 p0_4 p0_5 p0_l
  have hS4 : ∀ (o p : Obj) k, S k → ((w3.alloc o).alloc p).heap[k]? = w.heap[k]? := fun o p k hk => heap_old (by have := HS.out k hk; simp; omega) (heap_old (by have := HS.out k hk; omega) (hB3.block k (HS.out k hk)))
  have hff := fun (o p : Obj) => Lib.hid (refTmFault_any t [.int .i64 t.lab.kind, .string t.lab.nm, .int .i64 t.lab.ix, .string s0, .slice A0 n0 c0, .slice B0 m0 d0] ((w3.alloc o).alloc p) S (tmRep.keep HT.out (hS4 o p) (fun _ h => h)) (fun k hk => by have := HS.out k hk; simp; omega))
  have l3w : w.heap.size < w3.heap.size := by omega
  by_cases hz : (tmFault t).1 = 0
  case neg =>
    obtain rfl := hr.1 hz
    have hzz := fun (W : World) => Lib.hid (eqTm_any _ tmZero0 tmZero0 _ _ W (Lo W) (Nat.le_refl _) tmZero0_in tmZero0_in (fun _ h => h))
    rw [tmBeq_self] at hzz
    have hc1 : (((tmFault t).1 : Int) == 0) = false := beq_eq_false_iff_ne.2 (by omega)
    clear hr hz hS4
    have HFF := Lib.hid hff
    have HZZ := Lib.hid hzz
    have HW3 := Lib.hid hw3
    have HB3 := Lib.hid hB3
    clear hff hzz hw3 hB3
    have p0_0 := cv0 p0
    have p0_1 := cv1 p0
    have p0_2 := cv2 p0
    have p0_3 := cv3 p0
    have p0_4 := cv4 p0
    have p0_5 := cv5 p0
    have p0_l := lt_heap p0
    have P0 := Lib.hid p0
    clear p0
    unfold zTm
    go_wp2_with fail
    (with_reducible refine (HFF.out _ _).out.mono ?_)
    rintro e wd ⟨rfl, hwd⟩
    have zd : w3.heap.size + 2 ≤ wd.heap.size := by have := hwd.size; simpa using this
    have hBd := ((HB3.out.alloc (by omega) (.cells #[.int .i64 0, .string ⟨#[]⟩, .int .i64 0, .string ⟨#[]⟩, .slice none 0 0, .slice none 0 0] 27)).alloc (by simp; omega) (.cells #[.int .i64 (tmFault t).1, .int .i64 (tmFault t).2] 29)).trans (hwd.mono (by simp; omega))
    have r9 := (hwd.block w3.heap.size (by simp <;> omega)).trans (heap_old (by simp) (heap_at rfl))
    have r10 := (hwd.block (w3.heap.size + 1) (by simp)).trans (heap_at (by simp))
    have c0 := (hBd.cell (p := ⟨0, 0, none⟩) hg).trans G0.out
    have c1 := (hBd.cell (p := ⟨0, 1, none⟩) hg).trans G1.out
    have ld : 0 < wd.heap.size := by omega
    have ldb : 0 < wd.heap.size + 1 := by omega
    have l9 : w3.heap.size < wd.heap.size := by omega
    have l10 : w3.heap.size + 1 < wd.heap.size := by omega
    have l9b : w3.heap.size < wd.heap.size + 1 := by omega
    have l10b : w3.heap.size + 1 < wd.heap.size + 1 := by omega
    clear p0_0 p0_1 p0_2 p0_3 p0_4 p0_5 p0_l c0' c1'
    have HWD := Lib.hid hwd
    have HBD := Lib.hid hBd
    clear hwd hBd
    have r9_0 := cv0 r9
    have r9_1 := cv1 r9
    have r9_2 := cv2 r9
    have r9_3 := cv3 r9
    have r9_4 := cv4 r9
    have r9_5 := cv5 r9
    have r9_l := lt_heap r9
    have R9 := Lib.hid r9
    clear r9
    have r10_0 := cv0 r10
    have r10_1 := cv1 r10
    have r10_l := lt_heap r10
    have R10 := Lib.hid r10
    clear r10
    go_wp2_with fail
    (with_reducible refine (HZZ.out _).out.mono ?_)
    rintro e we ⟨rfl, hwe⟩
    have HWE := Lib.hid hwe
    clear hwe
    go_wp2_with fail
    go_returns
    exact ⟨rfl, (HBD.out.alloc (by omega) _).trans (HWE.out.mono (by simp; omega))⟩
  obtain ⟨v, sv, rfl, ov, nv', dv, tv, ev⟩ := tmFault_zero hz
  obtain ⟨kT, nmT, ixT, s7, A7, n7, c7, B7, m7, d7, ca, ia, TT, rfl, hTT, hOK⟩ := hr.uniL hz
  have HOV := Lib.hid ov
  have HSV := Lib.hid tv
  clear hr hz dv tv hS4 ov
  have HTT := Lib.hid hTT
  have HOK := Lib.hid hOK
  have HFF := Lib.hid hff
  have HW3 := Lib.hid hw3
  have HB3 := Lib.hid hB3
  clear hTT hOK hff hw3 hB3
  have p0_0 := cv0 p0
  have p0_1 := cv1 p0
  have p0_2 := cv2 p0
  have p0_3 := cv3 p0
  have p0_4 := cv4 p0
  have p0_5 := cv5 p0
  have p0_l := lt_heap p0
  have P0 := Lib.hid p0
  clear p0
  go_wp2_with fail
  (with_reducible refine (HFF.out _ _).out.mono ?_)
  rw [ev]
  rintro e w4 ⟨rfl, hw4⟩
  have z4 : w3.heap.size + 2 ≤ w4.heap.size := by have := hw4.size; simpa using this
  have hB4 := ((HB3.out.alloc (by omega) (.cells #[.int .i64 kT, .string nmT, .int .i64 ixT, .string s7, .slice A7 n7 c7, .slice B7 m7 d7] 27)).alloc (by simp; omega) (.cells #[.int .i64 ca, .int .i64 ia] 29)).trans (hw4.mono (by simp; omega))
  have hk4 : ∀ k, k < w3.heap.size → w4.heap[k]? = w3.heap[k]? := fun k hk => (hw4.block k (by simp; omega)).trans (heap_old (by simp; omega) (heap_old hk rfl))
  have r6 := (hw4.block w3.heap.size (by simp <;> omega)).trans (heap_old (by simp) (heap_at rfl))
  have r8 := (hw4.block (w3.heap.size + 1) (by simp)).trans (heap_at (by simp))
  have p0 := (hk4 _ p0_l).trans P0.out
  have c0' := (hB4.cell (p := ⟨0, 0, none⟩) hg).trans G0.out
  have c1' := (hB4.cell (p := ⟨0, 1, none⟩) hg).trans G1.out
  have l4 : 0 < w4.heap.size := by omega
  have l4b : 0 < w4.heap.size + 1 := by omega
  have hT4 : tmRep.R w4 (Lo w3) TT [.int .i64 kT, .string nmT, .int .i64 ixT, .string s7, .slice A7 n7 c7, .slice B7 m7 d7] := tmRep.keep HTT.out (fun k hk => hk4 k hk) (fun _ h => h)
  have hst := fun (o : Obj) => Lib.hid (refLong_any v HSV.out [.int .i64 v.tm.lab.kind, .string v.tm.lab.nm, .int .i64 v.tm.lab.ix, .string s0, .slice A0 n0 c0, .slice B0 m0 d0] (w4.alloc o) S HOV.out nv' (tmRep.keep HT.out (fun k hk => (heap_old (by have := HS.out k hk; omega) rfl).trans (hB4.block k (HS.out k hk))) (fun _ h => h)) (fun k hk => by have := HS.out k hk; simp; omega))
  clear p0_0 p0_1 p0_2 p0_3 p0_4 p0_5 p0_l ev
  have HW4 := Lib.hid hw4
  have HB4 := Lib.hid hB4
  have HT4 := Lib.hid hT4
  have HST := Lib.hid hst
  have R6 := Lib.hid r6
  have R8 := Lib.hid r8
  have HK4 := Lib.hid hk4
  clear hw4 hB4 hT4 hst r6 r8 hk4
  have p0_0 := cv0 p0
  have p0_1 := cv1 p0
  have p0_2 := cv2 p0
  have p0_3 := cv3 p0
  have p0_4 := cv4 p0
  have p0_5 := cv5 p0
  have p0_l := lt_heap p0
  have P0 := Lib.hid p0
  clear p0
  go_wp2_with fail
  (with_reducible refine (HST.out _).out.mono ?_)
  unfold RefFormAt
  rintro e w5 ⟨U, ds, rfl, hU, hUe, hw5⟩
  obtain ⟨s5, A5, n5, c5, B5, m5, d5, rfl, _, _⟩ := Tm.shape hU
  have z5 : w4.heap.size + 1 ≤ w5.heap.size := by have := hw5.size; simpa using this
  have hB5 := (HB4.out.alloc (by omega) (.cells #[.int .i64 0, .int .i64 0] 29)).trans (hw5.mono (by simp; omega))
  have hk5 : ∀ k, k < w4.heap.size → w5.heap[k]? = w4.heap[k]? := fun k hk => (hw5.block k (by simp; omega)).trans (heap_old hk rfl)
  have r6 := (hk5 _ (by omega)).trans R6.out
  have r8 := (hk5 _ (by omega)).trans R8.out
  have c0' := (hB5.cell (p := ⟨0, 0, none⟩) hg).trans G0.out
  have c1' := (hB5.cell (p := ⟨0, 1, none⟩) hg).trans G1.out
  have l5 : 0 < w5.heap.size := by omega
  have l5b : 0 < w5.heap.size + 1 := by omega
  have hT5 : tmRep.R w5 (Lo w5) TT [.int .i64 kT, .string nmT, .int .i64 ixT, .string s7, .slice A7 n7 c7, .slice B7 m7 d7] := tmRep.keep HT4.out (fun k hk => by have h' : k < w3.heap.size := hk; exact hk5 k (by omega)) (fun k hk => by have h' : k < w3.heap.size := hk; exact (show k < w5.heap.size by omega))
  clear p0_0 p0_1 p0_2 p0_3 p0_4 p0_5 p0_l
  rcases HOK.out with ⟨hr, rfl, rfl, rfl⟩ | ⟨u, hr, rfl, rfl, rfl⟩
  · have heq := fun (o : Obj) => Lib.hid (eqTm_any _ tmZero0 tmZero0 [.int .i64 kT, .string nmT, .int .i64 ixT, .string s7, .slice A7 n7 c7, .slice B7 m7 d7] _ (w5.alloc o) (Lo w5) (Nat.le_refl _) (tmRep.keep hT5 (fun k hk => heap_old hk rfl) (fun _ h => h)) tmZero0_in (fun k hk => by have h' : k < w5.heap.size := hk; simp; omega))
    rw [tmBeq_self] at heq
    rw [hr]
    clear hT5 hU hUe hr
    have HW5 := Lib.hid hw5
    have HB5 := Lib.hid hB5
    have HK5 := Lib.hid hk5
    have HEQ := Lib.hid heq
    clear hw5 hB5 hk5 heq
    have r6_0 := cv0 r6
    have r6_1 := cv1 r6
    have r6_2 := cv2 r6
    have r6_3 := cv3 r6
    have r6_4 := cv4 r6
    have r6_5 := cv5 r6
    have r6_l := lt_heap r6
    have R6 := Lib.hid r6
    clear r6
    have r8_0 := cv0 r8
    have r8_1 := cv1 r8
    have r8_l := lt_heap r8
    have R8 := Lib.hid r8
    clear r8
    simp only [Option.isSome_none]
    go_wp2_with fail
    (with_reducible refine (HEQ.out _).out.mono ?_)
    rintro e w7 ⟨rfl, hw7⟩
    have HW7 := Lib.hid hw7
    clear hw7
    go_wp2_with fail
    go_returns
    exact ⟨rfl, (HB5.out.alloc (by omega) _).trans (HW7.out.mono (by simp; omega))⟩
  · obtain rfl : U = u.tm := hUe u hr
    have heq := fun (o : Obj) => Lib.hid (eqTm_any _ u.tm u.tm [.int .i64 kT, .string nmT, .int .i64 ixT, .string s7, .slice A7 n7 c7, .slice B7 m7 d7] [.int .i64 u.tm.lab.kind, .string u.tm.lab.nm, .int .i64 u.tm.lab.ix, .string s5, .slice A5 n5 c5, .slice B5 m5 d5] (w5.alloc o) (Lo w5) (Nat.le_refl _) (tmRep.keep hT5 (fun k hk => heap_old hk rfl) (fun _ h => h)) (tmRep.keep hU (fun k hk => heap_old hk rfl) (fun _ h => h)) (fun k hk => by have h' : k < w5.heap.size := hk; simp; omega))
    rw [tmBeq_self] at heq
    rw [hr]
    clear hT5 hU hUe hr
    have HW5 := Lib.hid hw5
    have HB5 := Lib.hid hB5
    have HK5 := Lib.hid hk5
    have HEQ := Lib.hid heq
    clear hw5 hB5 hk5 heq
    have r6_0 := cv0 r6
    have r6_1 := cv1 r6
    have r6_2 := cv2 r6
    have r6_3 := cv3 r6
    have r6_4 := cv4 r6
    have r6_5 := cv5 r6
    have r6_l := lt_heap r6
    have R6 := Lib.hid r6
    clear r6
    have r8_0 := cv0 r8
    have r8_1 := cv1 r8
    have r8_l := lt_heap r8
    have R8 := Lib.hid r8
    clear r8
    simp only [Option.isSome_some]
    go_wp2_with fail
    (with_reducible refine (HEQ.out _).out.mono ?_)
    rintro e w7 ⟨rfl, hw7⟩
    have HW7 := Lib.hid hw7
    clear hw7
    go_wp2_with fail
    go_returns
    exact ⟨rfl, (HB5.out.alloc (by omega) _).trans (HW7.out.mono (by simp; omega))⟩

open Go.ChangeShapes Go.WideShapes Go.ChangeAt Go.WideMaps Go.WideElems Go.RowKit

set_option maxRecDepth 100000 in
theorem reduceLongMatchesSpec_lifted (os : Os) (started : os.Started) (H : Type) (enc : TypeId × Value → H) :
    ReturnsInHanded {} Tryd.checked os 7 .any
      (fun w args => (Rows.reduceLongMatchesSpecSpec.pre enc Tryd.prog Tryd.f7 [] false w args ∧ laidMetH Tryd.prog laidNone w) ∧ sizedMet enc Tryd.prog Tryd.f7 (OpenSpec.ofChange Rows.reduceLongMatchesSpecSpec) false w args)
      (Rows.reduceLongMatchesSpecSpec.post enc Tryd.prog Tryd.f7 false true false false) := by
  refine returnsInHanded_of_change_and (C := Tryd.checked) (X := fun w _ => laidMetH Tryd.prog laidNone w) (fun _ _ _ hh h => h.of_heap hh) ownKnobNone started (by kernel_rfl) Tryd.func7
    (ChangeSpec.witness_shaped (enc := enc) (C := Tryd.checked) (os := os) (X := fun w _ => laidMetH Tryd.prog laidNone w) false (World.doorLaid Tryd.prog 400 os) #[.agg #[.int .i64 0, .string ⟨#[]⟩, .int .i64 0, .string ⟨#[]⟩, .slice none 0 0, .slice none 0 0]] 8 rfl (World.shaped_of_RefB (by kernel_rfl) (by kernel_rfl)) (by kernel_rfl) (by kernel_rfl) (by kernel_rfl) (door_met os _)) ?_
  intro W base args ds gs before hval0 hW _ _ hL _
  have hval : ∀ (j : Nat) t v, Tryd.f7.params[j]? = some t → args[j]? = some v → Value.okWide Tryd.prog W .any base t v := hval0
  have hW' := hW
  obtain ⟨p, q, hA0, hV, rfl, hfz, hnd⟩ := hW
  have hA : DataW.TrodAll enc Tryd.prog W 0 (fun _ => true) true Tryd.f7.params.toList args.toList ds p := hA0
  rw [Tryd.params7] at hA hval
  obtain ⟨v0, d0, rfl, rfl, h0⟩ := trodAll_one hA
  obtain ⟨rfl, rfl⟩ := trodVars_none hV
  obtain ⟨c0, rfl, hc0⟩ := okWide_struct Tryd.underlying27 (hval 0 27 v0 rfl rfl)
  have h0k := h0
  obtain ⟨fuel0, hf0⟩ := h0
  obtain ⟨t0, ht00⟩ := tm_of_trod fuel0 _ _ hf0
  have ht0 : tmRep.R W (Lo W) t0 c0.toList := by simpa [Value.cells] using ht00
  obtain ⟨g0, g1⟩ := of_laid hL
  clear hA0 hval0
  simp only [List.append_nil] at hW'
  have hlt : ∀ x ∈ p, x.block < W.heap.size := fun x hx => by simpa using hW'.lt x (by simpa using hx)
  refine (longLaw_any t0 c0.toList W (Lo W) ht0 (fun _ h => h) g0 g1).mono fun e W' ⟨he, hnx⟩ => ?_
  subst he
  refine ⟨_, rfl, _, _, _, [], p, [], hW', trodAll_mk1 (shut_bool Tryd.underlying4 _), ?_, rfl, hnx.frame _, fun h => by cases h⟩
  exact trodAll_mk1 (Below.trod laidOutAll (by kernel_rfl) (of_decide_eq_true (by kernel_rfl)) h0k hnx (fun x hx => hlt x hx))

theorem reduceLongMatchesSpec_row : Rows.ReduceLongMatchesSpecSaid :=
  OpenClaim.holds_of_wide 7 Tryd.f7 rfl rfl rfl rfl rfl rfl rfl ⟨rfl, rfl, rfl, rfl, rfl⟩ rfl rfl rfl rfl rfl (by kernel_rfl) Tryd.func7 (by kernel_rfl)
    (of_decide_eq_true (by kernel_rfl)) (by unfold Func.isWrapper; first | (rw [if_pos (by decide +kernel)]; kernel_rfl) | (rw [if_neg (by decide +kernel)]; exact ⟨rfl, rfl⟩))
    (fun os started H enc _ => reduceLongMatchesSpec_lifted os started H enc)

theorem reduceLongMatchesSpec_holds : Rows.ReduceLongMatchesSpecCardSaid :=
  Claim7.holds_tied_plain_at .later [] [.data] true (true, "4608b3b75b2543ba0753ca336feeaafa45f38aea9e9679e8da1673cdf2ad44fb") false
    reduceLongMatchesSpec_row (fun _ h => by cases h) (by kernel_rfl) (fun _ h => by cases h) reduceLongMatchesSpec_row_tie rfl ⟨rfl, rfl⟩ (by kernel_rfl) rfl
    (fun f fn hf hfn => by
      obtain rfl : f = 7 := Option.some.inj ((show Tryd.prog.funcNamed "glosswright/glosswrightlaw1.ReduceLongMatchesSpec" = some 7 by kernel_rfl).symm.trans hf) |>.symm
      obtain rfl : fn = Tryd.f7 := (Option.some.inj (Tryd.func7.symm.trans hfn)).symm
      exact ⟨by kernel_rfl, fun j t ht => by
        rw [Tryd.params7] at ht
        have hm : t ∈ [27] := by simpa using Array.mem_of_getElem? ht
        have hall : ([27].all fun u => !Tryd.prog.wantsStandIn u) = true := by kernel_rfl
        exact (show Tryd.prog.wantsStandIn t = false by simpa using List.all_eq_true.1 hall t hm)⟩)
    (by kernel_rfl)
#print axioms reduceLongMatchesSpec_holds
end Go.Proofs.YthflahcnkhmpaabDoor
