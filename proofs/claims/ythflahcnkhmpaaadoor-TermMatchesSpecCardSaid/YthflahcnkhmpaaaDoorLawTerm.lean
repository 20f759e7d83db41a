/-
  The law TermMatchesSpec: the walk.
-/
import Derived.Test.YthflahcnkhmpaaaDoorProg
import Derived.Test.YthflahcnkhmpaaaDoorMakers
import Derived.Test.YthflahcnkhmpaaaDoorEqTy
import Derived.Test.YthflahcnkhmpaaaDoorPrintTm
import Derived.Test.YthflahcnkhmpaaaDoorTermText
import Derived.Test.YthflahcnkhmpaaaDoorTypeTm
import Derived.Test.YthflahcnkhmpaaaDoorTmStack
import Derived.Deep.RegionHeld3
import Derived.Deep.QuietTactic
import Derived.BigQuiet
import Derived.WalkSmall
namespace Go.Proofs.YthflahcnkhmpaaaDoor
open Go Go.RowKit
set_option linter.unusedSimpArgs false
set_option linter.unusedVariables false

theorem Sy.e_faultP : Sy.e.ty.fault = 0 := by unfold Ty.fault; rw [Sy.val_ok .e 1 0 (by decide) (by decide)]
theorem tvId_okP : tvId.ok 0 := ⟨Sy.e_faultP, by simp [Tv.ok]⟩
theorem tvId_faultP : tmFault tvId.tm = (0, 0) := tmFault_ok (s := .fn .e .e) tvId_okP (by decide) (by decide) rfl
theorem tvId_text : tvId.text = [91, 101, 32, 35, 48, 93] := by
  simp only [tvId, Tv.text, Sy.bytes, Lib.decDigits_one (show 0 < 10 by omega)]
  rfl
theorem PrintTmAt.id {e : Ending} (h : PrintTmAt tvId.tm e) : e = .returned (.tuple #[.string ⟨#[91, 101, 32, 35, 48, 93]⟩, .agg #[.int .i64 0, .int .i64 0]]) := by
  have h1 := (h.2 tvId rfl (by rw [tvId_faultP])).2 (by rw [tvId_text]; decide)
  rw [h1, tvId_text]
/-- The zero type. -/
theorem noTy_inP {W : World} {S : Nat → Prop} : noTy.In W S (.string ⟨#[]⟩) (.slice none 0 0) := Ty.In.mk_ (by decide +kernel) rfl (by omega) (by omega)

set_option maxRecDepth 100000 in
set_option maxHeartbeats 4000000 in
theorem termLaw_any (t : Tm) (cs : List Value) (w : World) (S : Nat → Prop) (ht : tmRep.R w S t cs) (hS : ∀ b, S b → b < w.heap.size)
    (g0 : w.cell? ⟨0, 0, none⟩ = some (.int .i64 0)) (g1 : w.cell? ⟨0, 1, none⟩ = some (.int .i64 0)) :
    Calls Tryd.prog 13 #[.agg cs.toArray] w fun e w' => e = .returned (.bool true) ∧ Below w.heap.size w w' := by
  obtain ⟨s1, A1, n1, c1, B1, m1, d1, rfl, _, _⟩ := Tm.shape ht
  have hg := World.block_lt_of_cell? w _ g0
  have HT := Lib.hid ht
  have HS := Lib.hid hS
  have G0 := Lib.hid g0
  have G1 := Lib.hid g1
  clear ht hS g0 g1
  go_enter Tryd.func13, Tryd.ntmps13
  go_wp2_with fail
  (with_reducible refine (identity_any _).mono ?_)
  rintro e w1 ⟨es, rfl, h1, hw⟩
  obtain ⟨s3, A3, n3, c3, B3, m3, d3, rfl, _, _⟩ := Tm.shape h1
  have HB0 : Hid (Below w.heap.size w w) := Lib.hid (Below.refl _ w)
  have hpr := Lib.hid (printTm_any tvId.tm [.int .i64 tvId.tm.lab.kind, .string tvId.tm.lab.nm, .int .i64 tvId.tm.lab.ix, .string s3, .slice A3 n3 c3, .slice B3 m3 d3] w1 _ h1 (fun k hk => hk.2))
  clear h1
  have zw1 : w.heap.size + 1 ≤ w1.heap.size := by have := hw.size; simpa using this
  have hkw1 : ∀ k, k < w.heap.size → w1.heap[k]? = w.heap[k]? := fun k hk => (hw.block k (by simp; omega)).trans (heap_old hk rfl)
  have p0 := (hw.block w.heap.size (by simp)).trans (heap_at rfl)
  have hB1 : Below w.heap.size w w1 := (HB0.out.alloc (by omega) (.cells #[.int .i64 t.lab.kind, .string t.lab.nm, .int .i64 t.lab.ix, .string s1, .slice A1 n1 c1, .slice B1 m1 d1] 49)).trans (hw.mono (by first | (simp; done) | (simp; omega)))
  have HPR := Lib.hid hpr
  clear hpr
  clear hw
  have HB1 := Lib.hid hB1
  have HKW1 := Lib.hid hkw1
  clear hB1 hkw1
  have p0_0 := cv0 p0
  have p0_1 := cv1 p0
  have p0_2 := cv2 p0
  have p0_3 := cv3 p0
  have p0_4 := cv4 p0
  have p0_5 := cv5 p0
  have p0_l := lt_heap p0
  have P0 := Lib.hid p0
  clear p0
  go_wp2_with fail
  (with_reducible refine HPR.out.out.mono ?_)
  rintro e w2 ⟨hr, hw⟩
  obtain rfl := hr.id
  have zw2 : w1.heap.size ≤ w2.heap.size := hw.size
  have hkw2 : ∀ k, k < w1.heap.size → w2.heap[k]? = w1.heap[k]? := fun k hk => hw.block k hk
  have p0 := (hkw2 _ p0_l).trans P0.out
  have hB2 : Below w.heap.size w w2 := HB1.out.trans (hw.mono (by omega))
  have c0' := (hB2.cell (p := ⟨0, 0, none⟩) hg).trans G0.out
  have c1' := (hB2.cell (p := ⟨0, 1, none⟩) hg).trans G1.out
  have lw2 : 0 < w2.heap.size := by have := hB2.size; omega
  have lw2b : 0 < w2.heap.size + 1 := by omega
  clear p0_0 p0_1 p0_2 p0_3 p0_4 p0_5 p0_l
  clear hr
  clear hw
  have HB2 := Lib.hid hB2
  have HKW2 := Lib.hid hkw2
  clear hB2 hkw2
  have p0_0 := cv0 p0
  have p0_1 := cv1 p0
  have p0_2 := cv2 p0
  have p0_3 := cv3 p0
  have p0_4 := cv4 p0
  have p0_5 := cv5 p0
  have p0_l := lt_heap p0
  have P0 := Lib.hid p0
  clear p0
  have hstr : ((⟨#[91, 101, 32, 35, 48, 93]⟩ : ByteArray).toList == [91, 101, 32, 35, 48, 93]) = true := by decide +kernel
  have hff := fun (o : Obj) => Lib.hid (refTmFault_any t [.int .i64 t.lab.kind, .string t.lab.nm, .int .i64 t.lab.ix, .string s1, .slice A1 n1 c1, .slice B1 m1 d1] (w2.alloc o) S (tmRep.keep HT.out (fun k hk => (heap_old (by have := HS.out k hk; omega) rfl).trans (HB2.out.block k (HS.out k hk))) (fun _ h => h)) (fun k hk => by have := HS.out k hk; simp; omega))
  have HFF := Lib.hid hff
  clear hff
  simp only
  go_wp2_with fail
  (with_reducible refine (HFF.out _).out.mono ?_)
  rintro e w3 ⟨rfl, hw⟩
  clear hstr
  have zw3 : w2.heap.size + 1 ≤ w3.heap.size := by have := hw.size; simpa using this
  have hkw3 : ∀ k, k < w2.heap.size → w3.heap[k]? = w2.heap[k]? := fun k hk => (hw.block k (by simp; omega)).trans (heap_old hk rfl)
  have p0 := (hkw3 _ p0_l).trans P0.out
  have q0 := (hw.block w2.heap.size (by simp)).trans (heap_at rfl)
  have hB3 : Below w.heap.size w w3 := (HB2.out.alloc (by omega) (.cells #[.int .i64 0, .int .i64 0] 26)).trans (hw.mono (by first | (simp; done) | (simp; omega)))
  clear p0_0 p0_1 p0_2 p0_3 p0_4 p0_5 p0_l
  clear hw
  have HB3 := Lib.hid hB3
  have HKW3 := Lib.hid hkw3
  clear hB3 hkw3
  have p0_0 := cv0 p0
  have p0_1 := cv1 p0
  have p0_2 := cv2 p0
  have p0_3 := cv3 p0
  have p0_4 := cv4 p0
  have p0_5 := cv5 p0
  have p0_l := lt_heap p0
  have P0 := Lib.hid p0
  clear p0
  have q0_0 := cv0 q0
  have q0_1 := cv1 q0
  have q0_l := lt_heap q0
  have Q0 := Lib.hid q0
  clear q0
  clear q0_0 q0_1 q0_l
  by_cases hz : (tmFault t).1 = 0
  case neg =>
    have hty := fun (o : Obj) => Lib.hid (type_bad t [.int .i64 t.lab.kind, .string t.lab.nm, .int .i64 t.lab.ix, .string s1, .slice A1 n1 c1, .slice B1 m1 d1] (w3.alloc o) S (tmRep.keep HT.out (fun k hk => (heap_old (by have := HS.out k hk; omega) rfl).trans (HB3.out.block k (HS.out k hk))) (fun _ h => h)) (fun k hk => by have := HS.out k hk; simp; omega) hz)
    have HTY := Lib.hid hty
    clear hty
    go_wp2_with fail
    (with_reducible refine (HTY.out _).out.mono ?_)
    rintro e w4 ⟨rfl, hw⟩
    have zw4 : w3.heap.size + 1 ≤ w4.heap.size := by have := hw.size; simpa using this
    have hkw4 : ∀ k, k < w3.heap.size → w4.heap[k]? = w3.heap[k]? := fun k hk => (hw.block k (by simp; omega)).trans (heap_old hk rfl)
    have p0 := (hkw4 _ p0_l).trans P0.out
    have qf := (hw.block w3.heap.size (by simp)).trans (heap_at rfl)
    have hB4 : Below w.heap.size w w4 := (HB3.out.alloc (by omega) (.cells #[.int .i64 (tmFault t).1, .int .i64 (tmFault t).2] 26)).trans (hw.mono (by first | (simp; done) | (simp; omega)))
    clear p0_0 p0_1 p0_2 p0_3 p0_4 p0_5 p0_l
    clear hw
    have HB4 := Lib.hid hB4
    have HKW4 := Lib.hid hkw4
    clear hB4 hkw4
    have p0_0 := cv0 p0
    have p0_1 := cv1 p0
    have p0_2 := cv2 p0
    have p0_3 := cv3 p0
    have p0_4 := cv4 p0
    have p0_5 := cv5 p0
    have p0_l := lt_heap p0
    have P0 := Lib.hid p0
    clear p0
    have qf_0 := cv0 qf
    have qf_1 := cv1 qf
    have qf_l := lt_heap qf
    have QF := Lib.hid qf
    clear qf
    have hpt := fun (o p : Obj) => Lib.hid (printTm_any t [.int .i64 t.lab.kind, .string t.lab.nm, .int .i64 t.lab.ix, .string s1, .slice A1 n1 c1, .slice B1 m1 d1] ((w4.alloc o).alloc p) S (tmRep.keep HT.out (fun k hk => (heap_old (by have := HS.out k hk; simp; omega) (heap_old (by have := HS.out k hk; omega) rfl)).trans (HB4.out.block k (HS.out k hk))) (fun _ h => h)) (fun k hk => by have := HS.out k hk; simp; omega))
    have HPT := Lib.hid hpt
    clear hpt
    go_wp2_with fail
    (with_reducible refine (HPT.out _ _).out.mono ?_)
    rintro e w5 ⟨hr, hw⟩
    obtain rfl := hr.1 hz
    clear hr
    have zw5 : w4.heap.size + 2 ≤ w5.heap.size := by have := hw.size; simpa using this
    have hkw5 : ∀ k, k < w4.heap.size → w5.heap[k]? = w4.heap[k]? := fun k hk => (hw.block k (by simp; omega)).trans (heap_old (by simp; omega) (heap_old hk rfl))
    have p0 := (hkw5 _ p0_l).trans P0.out
    have qf := (hkw5 _ qf_l).trans QF.out
    have qs := (hw.block (w4.heap.size) (by simp <;> omega)).trans (heap_old (by simp) (heap_at rfl))
    have qe := (hw.block (w4.heap.size + 1) (by simp)).trans (heap_at (by simp))
    have hB5 : Below w.heap.size w w5 := ((HB4.out.alloc (by omega) (.cells #[.string ⟨#[]⟩, .slice none 0 0] 24)).alloc (by first | (simp; done) | (simp; omega)) (.cells #[.int .i64 (tmFault t).1, .int .i64 (tmFault t).2] 26)).trans (hw.mono (by first | (simp; done) | (simp; omega)))
    clear p0_0 p0_1 p0_2 p0_3 p0_4 p0_5 p0_l qf_0 qf_1 qf_l
    clear hw
    have HB5 := Lib.hid hB5
    have HKW5 := Lib.hid hkw5
    clear hB5 hkw5
    have p0_0 := cv0 p0
    have p0_1 := cv1 p0
    have p0_2 := cv2 p0
    have p0_3 := cv3 p0
    have p0_4 := cv4 p0
    have p0_5 := cv5 p0
    have p0_l := lt_heap p0
    have P0 := Lib.hid p0
    clear p0
    have qf_0 := cv0 qf
    have qf_1 := cv1 qf
    have qf_l := lt_heap qf
    have QF := Lib.hid qf
    clear qf
    have qs_0 := cv0 qs
    have qs_1 := cv1 qs
    have qs_l := lt_heap qs
    have QS := Lib.hid qs
    clear qs
    have qe_0 := cv0 qe
    have qe_1 := cv1 qe
    have qe_l := lt_heap qe
    have QE := Lib.hid qe
    clear qe
    have hval := fun (o : Obj) => validateTm_any t [.int .i64 t.lab.kind, .string t.lab.nm, .int .i64 t.lab.ix, .string s1, .slice A1 n1 c1, .slice B1 m1 d1] (w5.alloc o).drew S (tmRep.keep HT.out (fun k hk => heap_drew ((heap_old (by have := HS.out k hk; omega) rfl).trans (HB5.out.block k (HS.out k hk)))) (fun _ h => h)) (fun k hk => by have := HS.out k hk; simp; omega)
    have HVAL := Lib.hid hval
    clear hval
    have lw5 : w.heap.size < w5.heap.size := by omega
    go_wp2_with fail
    go_region_held3 (fun w' => w'.cell? ⟨w.heap.size, 0, none⟩ = some (.int .i64 t.lab.kind) ∧ w'.cell? ⟨w.heap.size, 1, none⟩ = some (.string t.lab.nm) ∧ w'.cell? ⟨w.heap.size, 2, none⟩ = some (.int .i64 t.lab.ix) ∧ w'.cell? ⟨w.heap.size, 3, none⟩ = some (.string s1) ∧ w'.cell? ⟨w.heap.size, 4, none⟩ = some (.slice A1 n1 c1) ∧ w'.cell? ⟨w.heap.size, 5, none⟩ = some (.slice B1 m1 d1) ∧ w'.cell? ⟨w3.heap.size, 0, none⟩ = some (.int .i64 (tmFault t).1) ∧ w'.cell? ⟨w3.heap.size, 1, none⟩ = some (.int .i64 (tmFault t).2) ∧ w'.cell? ⟨w4.heap.size + 1, 0, none⟩ = some (.int .i64 (tmFault t).1) ∧ w'.cell? ⟨w4.heap.size + 1, 1, none⟩ = some (.int .i64 (tmFault t).2))
      ((first | (go_keep; done) | (go_split_ands; (repeat' apply And.intro) <;> (refine (kc6 _ _ (by omega)).trans ?_; assumption))))
      (((with_reducible refine (HVAL.out _).mono ?_); rintro e w6 ⟨rfl, hw6⟩; have kc6 : ∀ k q, k < w5.heap.size + 1 → w6.cell? ⟨k, q, none⟩ = _ := (fun k q h => hw6.cell (p := ⟨k, q, none⟩) (by simp; omega)); have z6 : w5.heap.size + 1 ≤ w6.heap.size := (by have := hw6.size; simpa using this); have HW6 := Lib.hid hw6; clear hw6))
    go_upto_region 9 with (fail)
    refine gen_last (fun wb => Below w.heap.size w wb ∧ w5.heap.size + 1 ≤ wb.heap.size ∧ (∀ k, k < w5.heap.size → wb.heap[k]? = w5.heap[k]?) ∧ wb.heap[w5.heap.size]? = some (.cells #[.int .i64 (tmFault t).1, .int .i64 (tmFault t).2] 26 (0, 0))) ?_ ?_
    · exact ⟨((HB5.out.alloc (by omega) _).drew).trans (HW6.out.mono (by simp; omega)), z6, fun k hk => (HW6.out.block k (by simp; omega)).trans (heap_drew (heap_old hk rfl)), (HW6.out.block _ (by simp)).trans (heap_drew (heap_at rfl))⟩
    rintro wb ⟨hBb, zb, hkb, q9⟩
    have p0 := (hkb _ p0_l).trans P0.out
    have qf := (hkb _ qf_l).trans QF.out
    have qs := (hkb _ qs_l).trans QS.out
    have c0' := (hBb.cell (p := ⟨0, 0, none⟩) hg).trans G0.out
    have c1' := (hBb.cell (p := ⟨0, 1, none⟩) hg).trans G1.out
    have lwb : 0 < wb.heap.size := by have := hBb.size; omega
    have lwbb : 0 < wb.heap.size + 1 := by omega
    clear p0_0 p0_1 p0_2 p0_3 p0_4 p0_5 p0_l qf_0 qf_1 qf_l qs_0 qs_1 qs_l qe_0 qe_1 qe_l
    clear kc6 z6
    have HBB := Lib.hid hBb
    have HKB := Lib.hid hkb
    clear hBb hkb
    have p0_0 := cv0 p0
    have p0_1 := cv1 p0
    have p0_2 := cv2 p0
    have p0_3 := cv3 p0
    have p0_4 := cv4 p0
    have p0_5 := cv5 p0
    have p0_l := lt_heap p0
    have P0 := Lib.hid p0
    clear p0
    have qf_0 := cv0 qf
    have qf_1 := cv1 qf
    have qf_l := lt_heap qf
    have QF := Lib.hid qf
    clear qf
    have qs_0 := cv0 qs
    have qs_1 := cv1 qs
    have qs_l := lt_heap qs
    have QS := Lib.hid qs
    clear qs
    have q9_0 := cv0 q9
    have q9_1 := cv1 q9
    have q9_l := lt_heap q9
    have Q9 := Lib.hid q9
    clear q9
    have hc1 : (((tmFault t).1 : Int) == 0) = false := beq_eq_false_iff_ne.2 (by omega)
    have hzz := fun (W : World) => Lib.hid (eqTy_any _ noTy noTy _ _ _ _ W (Lo W) (Nat.le_refl _) noTy_inP noTy_inP (fun _ h => h))
    rw [Ty.beq_self] at hzz
    have HZZ := Lib.hid hzz
    clear hzz
    go_wp2_with fail
    (with_reducible refine (HZZ.out _).out.mono ?_)
    rintro e we ⟨rfl, hwe⟩
    have HWE := Lib.hid hwe
    clear hwe
    go_wp2_with fail
    go_returns
    exact ⟨rfl, HBB.out.trans (HWE.out.mono (by omega))⟩
  obtain ⟨v, s, rfl, ov, nv, dv, tv, ev⟩ := tmFault_zero hz
  rw [ev]
  have hty := fun (o : Obj) => Lib.hid (type_ok v s [.int .i64 v.tm.lab.kind, .string v.tm.lab.nm, .int .i64 v.tm.lab.ix, .string s1, .slice A1 n1 c1, .slice B1 m1 d1] (w3.alloc o) S (tmRep.keep HT.out (fun k hk => (heap_old (by have := HS.out k hk; omega) rfl).trans (HB3.out.block k (HS.out k hk))) (fun _ h => h)) (fun k hk => by have := HS.out k hk; simp; omega) ov nv dv tv)
  have HTY := Lib.hid hty
  clear hty
  go_wp2_with fail
  (with_reducible refine (HTY.out _).out.mono ?_)
  rintro e w4 ⟨v0, v1, rfl, hsT, hw⟩
  obtain ⟨sv, Av, nn, cv, rfl, rfl⟩ := hsT.shape
  have zw4 : w3.heap.size + 1 ≤ w4.heap.size := by have := hw.size; simpa using this
  have hkw4 : ∀ k, k < w3.heap.size → w4.heap[k]? = w3.heap[k]? := fun k hk => (hw.block k (by simp; omega)).trans (heap_old hk rfl)
  have p0 := (hkw4 _ p0_l).trans P0.out
  have qf := (hw.block w3.heap.size (by simp)).trans (heap_at rfl)
  have hB4 : Below w.heap.size w w4 := (HB3.out.alloc (by omega) (.cells #[.int .i64 0, .int .i64 0] 26)).trans (hw.mono (by first | (simp; done) | (simp; omega)))
  clear p0_0 p0_1 p0_2 p0_3 p0_4 p0_5 p0_l
  have HST := Lib.hid hsT
  clear hsT
  clear hw
  have HB4 := Lib.hid hB4
  have HKW4 := Lib.hid hkw4
  clear hB4 hkw4
  have p0_0 := cv0 p0
  have p0_1 := cv1 p0
  have p0_2 := cv2 p0
  have p0_3 := cv3 p0
  have p0_4 := cv4 p0
  have p0_5 := cv5 p0
  have p0_l := lt_heap p0
  have P0 := Lib.hid p0
  clear p0
  have qf_0 := cv0 qf
  have qf_1 := cv1 qf
  have qf_l := lt_heap qf
  have QF := Lib.hid qf
  clear qf
  have hpt := fun (o p : Obj) => Lib.hid (printTm_any v.tm [.int .i64 v.tm.lab.kind, .string v.tm.lab.nm, .int .i64 v.tm.lab.ix, .string s1, .slice A1 n1 c1, .slice B1 m1 d1] ((w4.alloc o).alloc p) S (tmRep.keep HT.out (fun k hk => (heap_old (by have := HS.out k hk; simp; omega) (heap_old (by have := HS.out k hk; omega) rfl)).trans (HB4.out.block k (HS.out k hk))) (fun _ h => h)) (fun k hk => by have := HS.out k hk; simp; omega))
  have HPT := Lib.hid hpt
  clear hpt
  go_wp2_with fail
  (with_reducible refine (HPT.out _ _).out.mono ?_)
  rintro e w5 ⟨hr, hw⟩
  obtain ⟨px, cp, ip, rfl, hpx⟩ : ∃ (px : ByteArray) (cp ip : Int), e = .returned (.tuple #[.string px, .agg #[.int .i64 cp, .int .i64 ip]]) ∧ ((4000 < v.text.length ∧ px = ⟨#[]⟩ ∧ cp = 1 ∧ ip = 0) ∨ (v.text.length ≤ 4000 ∧ px = ⟨v.text.toArray⟩ ∧ cp = 0 ∧ ip = 0)) := by
    have h2 := hr.2 v rfl hz
    rcases Nat.lt_or_ge 4000 v.text.length with h3 | h3
    · exact ⟨_, _, _, h2.1 h3, Or.inl ⟨h3, rfl, rfl, rfl⟩⟩
    · exact ⟨_, _, _, h2.2 h3, Or.inr ⟨h3, rfl, rfl, rfl⟩⟩
  have HPX := Lib.hid hpx
  clear hr hpx
  have zw5 : w4.heap.size + 2 ≤ w5.heap.size := by have := hw.size; simpa using this
  have hkw5 : ∀ k, k < w4.heap.size → w5.heap[k]? = w4.heap[k]? := fun k hk => (hw.block k (by simp; omega)).trans (heap_old (by simp; omega) (heap_old hk rfl))
  have p0 := (hkw5 _ p0_l).trans P0.out
  have qf := (hkw5 _ qf_l).trans QF.out
  have qs := (hw.block (w4.heap.size) (by simp <;> omega)).trans (heap_old (by simp) (heap_at rfl))
  have qe := (hw.block (w4.heap.size + 1) (by simp)).trans (heap_at (by simp))
  have hB5 : Below w.heap.size w w5 := ((HB4.out.alloc (by omega) (.cells #[.string sv, .slice Av nn cv] 24)).alloc (by first | (simp; done) | (simp; omega)) (.cells #[.int .i64 0, .int .i64 0] 26)).trans (hw.mono (by first | (simp; done) | (simp; omega)))
  clear p0_0 p0_1 p0_2 p0_3 p0_4 p0_5 p0_l qf_0 qf_1 qf_l
  clear hw
  have HB5 := Lib.hid hB5
  have HKW5 := Lib.hid hkw5
  clear hB5 hkw5
  have p0_0 := cv0 p0
  have p0_1 := cv1 p0
  have p0_2 := cv2 p0
  have p0_3 := cv3 p0
  have p0_4 := cv4 p0
  have p0_5 := cv5 p0
  have p0_l := lt_heap p0
  have P0 := Lib.hid p0
  clear p0
  have qf_0 := cv0 qf
  have qf_1 := cv1 qf
  have qf_l := lt_heap qf
  have QF := Lib.hid qf
  clear qf
  have qs_0 := cv0 qs
  have qs_1 := cv1 qs
  have qs_l := lt_heap qs
  have QS := Lib.hid qs
  clear qs
  have qe_0 := cv0 qe
  have qe_1 := cv1 qe
  have qe_l := lt_heap qe
  have QE := Lib.hid qe
  clear qe
  have hval := fun (o : Obj) => validateTm_any v.tm [.int .i64 v.tm.lab.kind, .string v.tm.lab.nm, .int .i64 v.tm.lab.ix, .string s1, .slice A1 n1 c1, .slice B1 m1 d1] (w5.alloc o).drew S (tmRep.keep HT.out (fun k hk => heap_drew ((heap_old (by have := HS.out k hk; omega) rfl).trans (HB5.out.block k (HS.out k hk)))) (fun _ h => h)) (fun k hk => by have := HS.out k hk; simp; omega)
  rw [ev] at hval
  have HVAL := Lib.hid hval
  clear hval
  have lw5 : w.heap.size < w5.heap.size := by omega
  go_wp2_with fail
  go_region_held3 (fun w' => w'.cell? ⟨w.heap.size, 0, none⟩ = some (.int .i64 v.tm.lab.kind) ∧ w'.cell? ⟨w.heap.size, 1, none⟩ = some (.string v.tm.lab.nm) ∧ w'.cell? ⟨w.heap.size, 2, none⟩ = some (.int .i64 v.tm.lab.ix) ∧ w'.cell? ⟨w.heap.size, 3, none⟩ = some (.string s1) ∧ w'.cell? ⟨w.heap.size, 4, none⟩ = some (.slice A1 n1 c1) ∧ w'.cell? ⟨w.heap.size, 5, none⟩ = some (.slice B1 m1 d1) ∧ w'.cell? ⟨w3.heap.size, 0, none⟩ = some (.int .i64 0) ∧ w'.cell? ⟨w3.heap.size, 1, none⟩ = some (.int .i64 0) ∧ w'.cell? ⟨w4.heap.size + 1, 0, none⟩ = some (.int .i64 0) ∧ w'.cell? ⟨w4.heap.size + 1, 1, none⟩ = some (.int .i64 0))
    ((first | (go_keep; done) | (go_split_ands; (repeat' apply And.intro) <;> (refine (kc6 _ _ (by omega)).trans ?_; assumption))))
    (((with_reducible refine (HVAL.out _).mono ?_); rintro e w6 ⟨rfl, hw6⟩; have kc6 : ∀ k q, k < w5.heap.size + 1 → w6.cell? ⟨k, q, none⟩ = _ := (fun k q h => hw6.cell (p := ⟨k, q, none⟩) (by simp; omega)); have z6 : w5.heap.size + 1 ≤ w6.heap.size := (by have := hw6.size; simpa using this); have HW6 := Lib.hid hw6; clear hw6))
  go_upto_region 9 with (fail)
  refine gen_last (fun wb => Below w.heap.size w wb ∧ w5.heap.size + 1 ≤ wb.heap.size ∧ (∀ k, k < w5.heap.size → wb.heap[k]? = w5.heap[k]?) ∧ wb.heap[w5.heap.size]? = some (.cells #[.int .i64 cp, .int .i64 ip] 26 (0, 0))) ?_ ?_
  · exact ⟨((HB5.out.alloc (by omega) _).drew).trans (HW6.out.mono (by simp; omega)), z6, fun k hk => (HW6.out.block k (by simp; omega)).trans (heap_drew (heap_old hk rfl)), (HW6.out.block _ (by simp)).trans (heap_drew (heap_at rfl))⟩
  rintro wb ⟨hBb, zb, hkb, q9⟩
  have p0 := (hkb _ p0_l).trans P0.out
  have qf := (hkb _ qf_l).trans QF.out
  have qs := (hkb _ qs_l).trans QS.out
  have c0' := (hBb.cell (p := ⟨0, 0, none⟩) hg).trans G0.out
  have c1' := (hBb.cell (p := ⟨0, 1, none⟩) hg).trans G1.out
  have lwb : 0 < wb.heap.size := by have := hBb.size; omega
  have lwbb : 0 < wb.heap.size + 1 := by omega
  clear p0_0 p0_1 p0_2 p0_3 p0_4 p0_5 p0_l qf_0 qf_1 qf_l qs_0 qs_1 qs_l qe_0 qe_1 qe_l
  clear kc6 z6
  have HBB := Lib.hid hBb
  have HKB := Lib.hid hkb
  clear hBb hkb
  have p0_0 := cv0 p0
  have p0_1 := cv1 p0
  have p0_2 := cv2 p0
  have p0_3 := cv3 p0
  have p0_4 := cv4 p0
  have p0_5 := cv5 p0
  have p0_l := lt_heap p0
  have P0 := Lib.hid p0
  clear p0
  have qf_0 := cv0 qf
  have qf_1 := cv1 qf
  have qf_l := lt_heap qf
  have QF := Lib.hid qf
  clear qf
  have qs_0 := cv0 qs
  have qs_1 := cv1 qs
  have qs_l := lt_heap qs
  have QS := Lib.hid qs
  clear qs
  have q9_0 := cv0 q9
  have q9_1 := cv1 q9
  have q9_l := lt_heap q9
  have Q9 := Lib.hid q9
  clear q9
  have hto := Lib.hid (typeOf_any v [.int .i64 v.tm.lab.kind, .string v.tm.lab.nm, .int .i64 v.tm.lab.ix, .string s1, .slice A1 n1 c1, .slice B1 m1 d1] wb S ov (by omega) (tmRep.keep HT.out (fun k hk => HBB.out.block k (HS.out k hk)) (fun _ h => h)) (fun k hk => by have := HS.out k hk; omega))
  have HTO := Lib.hid hto
  clear hto
  go_wp2_with fail
  (with_reducible refine HTO.out.out.mono ?_)
  unfold TypeOfAt
  rintro e w7 ⟨y0, y1, rfl, hyT, -, hw⟩
  have hyT := hyT s tv
  obtain ⟨sy, Ay, ny, cy, rfl, rfl⟩ := hyT.shape
  have zw7 : wb.heap.size ≤ w7.heap.size := hw.size
  have hkw7 : ∀ k, k < wb.heap.size → w7.heap[k]? = wb.heap[k]? := fun k hk => hw.block k hk
  have p0 := (hkw7 _ p0_l).trans P0.out
  have qf := (hkw7 _ qf_l).trans QF.out
  have qs := (hkw7 _ qs_l).trans QS.out
  have q9 := (hkw7 _ q9_l).trans Q9.out
  have hB7 : Below w.heap.size w w7 := HBB.out.trans (hw.mono (by omega))
  clear p0_0 p0_1 p0_2 p0_3 p0_4 p0_5 p0_l qf_0 qf_1 qf_l qs_0 qs_1 qs_l q9_0 q9_1 q9_l
  have HYT := Lib.hid hyT
  clear hyT
  clear hw
  have HB7 := Lib.hid hB7
  have HKW7 := Lib.hid hkw7
  clear hB7 hkw7
  have p0_0 := cv0 p0
  have p0_1 := cv1 p0
  have p0_2 := cv2 p0
  have p0_3 := cv3 p0
  have p0_4 := cv4 p0
  have p0_5 := cv5 p0
  have p0_l := lt_heap p0
  have P0 := Lib.hid p0
  clear p0
  have qf_0 := cv0 qf
  have qf_1 := cv1 qf
  have qf_l := lt_heap qf
  have QF := Lib.hid qf
  clear qf
  have qs_0 := cv0 qs
  have qs_1 := cv1 qs
  have qs_l := lt_heap qs
  have QS := Lib.hid qs
  clear qs
  have q9_0 := cv0 q9
  have q9_1 := cv1 q9
  have q9_l := lt_heap q9
  have Q9 := Lib.hid q9
  clear q9
  obtain ⟨x, ex, zx⟩ := v.string
  have hsm := v.small 0 ov (by omega)
  have htx := fun (o : Obj) => Lib.hid (termText_any v [.int .i64 v.tm.lab.kind, .string v.tm.lab.nm, .int .i64 v.tm.lab.ix, .string s1, .slice A1 n1 c1, .slice B1 m1 d1] (w7.alloc o) S hsm (by omega) (tmRep.keep HT.out (fun k hk => (heap_old (by have := HS.out k hk; omega) rfl).trans (HB7.out.block k (HS.out k hk))) (fun _ h => h)) (fun k hk => by have := HS.out k hk; simp; omega))
  rw [ex] at htx
  have HTX := Lib.hid htx
  clear htx
  go_wp2_with fail
  (with_reducible refine (HTX.out _).out.mono ?_)
  rintro e w8 ⟨rfl, hw⟩
  have zw8 : w7.heap.size + 1 ≤ w8.heap.size := by have := hw.size; simpa using this
  have hkw8 : ∀ k, k < w7.heap.size → w8.heap[k]? = w7.heap[k]? := fun k hk => (hw.block k (by simp; omega)).trans (heap_old hk rfl)
  have p0 := (hkw8 _ p0_l).trans P0.out
  have qf := (hkw8 _ qf_l).trans QF.out
  have qs := (hkw8 _ qs_l).trans QS.out
  have q9 := (hkw8 _ q9_l).trans Q9.out
  have qx := (hw.block w7.heap.size (by simp)).trans (heap_at rfl)
  have hB8 : Below w.heap.size w w8 := (HB7.out.alloc (by omega) (.cells #[.string sy, .slice Ay ny cy] 24)).trans (hw.mono (by first | (simp; done) | (simp; omega)))
  have c0' := (hB8.cell (p := ⟨0, 0, none⟩) hg).trans G0.out
  have c1' := (hB8.cell (p := ⟨0, 1, none⟩) hg).trans G1.out
  have lw8 : 0 < w8.heap.size := by have := hB8.size; omega
  have lw8b : 0 < w8.heap.size + 1 := by omega
  clear p0_0 p0_1 p0_2 p0_3 p0_4 p0_5 p0_l qf_0 qf_1 qf_l qs_0 qs_1 qs_l q9_0 q9_1 q9_l
  clear hw
  have HB8 := Lib.hid hB8
  have HKW8 := Lib.hid hkw8
  clear hB8 hkw8
  have p0_0 := cv0 p0
  have p0_1 := cv1 p0
  have p0_2 := cv2 p0
  have p0_3 := cv3 p0
  have p0_4 := cv4 p0
  have p0_5 := cv5 p0
  have p0_l := lt_heap p0
  have P0 := Lib.hid p0
  clear p0
  have qf_0 := cv0 qf
  have qf_1 := cv1 qf
  have qf_l := lt_heap qf
  have QF := Lib.hid qf
  clear qf
  have qs_0 := cv0 qs
  have qs_1 := cv1 qs
  have qs_l := lt_heap qs
  have QS := Lib.hid qs
  clear qs
  have q9_0 := cv0 q9
  have q9_1 := cv1 q9
  have q9_l := lt_heap q9
  have Q9 := Lib.hid q9
  clear q9
  have qx_0 := cv0 qx
  have qx_1 := cv1 qx
  have qx_l := lt_heap qx
  have QX := Lib.hid qx
  clear qx
  have HEX := Lib.hid ex
  have hS8 : s.ty.In w8 (Lo w8) (.string sv) (.slice Av nn cv) := Ty.In_keep (fun k hk => by have h' := hk.2; exact (HKW8.out k (by omega)).trans ((HKW7.out k (by omega)).trans ((HKB.out k (by omega)).trans (HKW5.out k (by omega))))) (fun k hk => by have h' := hk.2; exact (show k < w8.heap.size by omega)) _ _ _ HST.out
  have hY8 : s.ty.In w8 (Lo w8) (.string sy) (.slice Ay ny cy) := Ty.In_keep (fun k hk => HKW8.out k (by rcases hk with hk | hk; have := HS.out k hk; omega; exact hk.2)) (fun k hk => by rcases hk with hk | hk; have := HS.out k hk; exact (show k < w8.heap.size by omega); exact (show k < w8.heap.size by have := hk.2; omega)) _ _ _ HYT.out
  have heq := Lib.hid (eqTy_any _ s.ty s.ty (.string sv) (.slice Av nn cv) (.string sy) (.slice Ay ny cy) w8 (Lo w8) (Nat.le_refl _) hS8 hY8 (fun _ h => h))
  rw [Ty.beq_self] at heq
  clear hS8 hY8 ex hsm
  have HEQ := Lib.hid heq
  clear heq
  rcases HPX.out with ⟨hbig, rfl, rfl, rfl⟩ | ⟨hsmall, hpx, rfl, rfl⟩
  · have q1 : (4000 : Int) < (x.size : Int) := by omega
    go_wp2_with fail
    (with_reducible refine HEQ.out.out.mono ?_)
    rintro e we ⟨rfl, hwe⟩
    have HWE := Lib.hid hwe
    clear hwe
    go_wp2_with fail
    go_returns
    exact ⟨rfl, HB8.out.trans (HWE.out.mono (by omega))⟩
  · have q1 : ¬ (4000 : Int) < (x.size : Int) := by omega
    obtain rfl : px = x := hpx.trans HEX.out
    clear hpx
    go_wp2_with fail
    (with_reducible refine HEQ.out.out.mono ?_)
    rintro e we ⟨rfl, hwe⟩
    have HWE := Lib.hid hwe
    clear hwe
    go_wp2_with fail
    go_returns
    exact ⟨rfl, HB8.out.trans (HWE.out.mono (by omega))⟩

end Go.Proofs.YthflahcnkhmpaaaDoor
