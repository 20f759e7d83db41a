/-
  The law TermAppliesMatchSpec: the walk.
-/
import Derived.Test.YthflahcnkhmpaaaDoorProg
import Derived.Test.YthflahcnkhmpaaaDoorMakers
import Derived.Test.YthflahcnkhmpaaaDoorEqTm
import Derived.Test.YthflahcnkhmpaaaDoorRefSize
import Derived.Test.YthflahcnkhmpaaaDoorTFault
import Derived.Deep.RegionHeld3
import Derived.Deep.QuietTactic
import Derived.BigQuiet
import Derived.WalkSmall
namespace Go.Proofs.YthflahcnkhmpaaaDoor
open Go Go.RowKit
set_option linter.unusedSimpArgs false
set_option linter.unusedVariables false

def bKimA : ByteArray := ⟨#[107, 105, 109]⟩
def bWalkA : ByteArray := ⟨#[119, 97, 108, 107]⟩
def tvKimA : Tv := .con bKimA .e
def tvWalkA : Tv := .con bWalkA (.fn .e .t)
theorem Sy.et_fault : (Sy.fn .e .t).ty.fault = 0 := by unfold Ty.fault; rw [Sy.val_ok (.fn .e .t) 1 0 (by decide) (by decide)]
theorem Sy.e_faultA : Sy.e.ty.fault = 0 := by unfold Ty.fault; rw [Sy.val_ok .e 1 0 (by decide) (by decide)]
theorem kimA_fault : tmFault tvKimA.tm = (0, 0) := tmFault_ok (s := .e) ⟨by decide +kernel, Sy.e_faultA⟩ (by decide) (by decide) rfl
theorem walkA_fault : tmFault tvWalkA.tm = (0, 0) := tmFault_ok (s := .fn .e .t) ⟨by decide +kernel, Sy.et_fault⟩ (by decide) (by decide) rfl
theorem ApplyAt.ex {w w' : World} {e : Ending} (h : ApplyAt tvWalkA.tm tvKimA.tm w e w') : ∃ ds : List Value, e = .returned (.tuple #[.agg ds.toArray, .agg #[.int .i64 0, .int .i64 0]]) ∧ tmRep.R w' (Fresh w w') (Tv.app tvWalkA tvKimA).tm ds := by
  have h1 := h.2.2.1 tvWalkA tvKimA rfl rfl (by rw [walkA_fault]) (by rw [kimA_fault])
  unfold ApplyRes at h1
  rw [if_neg (by simp [tvWalkA, tvKimA, Tv.typ]), if_neg (by decide)] at h1
  exact h1
/-- The zero term. -/
def tmZero : Tm := .mk ⟨0, bNil, 0, noTy⟩ []
theorem tmZero_in {W : World} {S : Nat → Prop} : tmRep.R W S tmZero [.int .i64 0, .string ⟨#[]⟩, .int .i64 0, .string ⟨#[]⟩, .slice none 0 0, .slice none 0 0] :=
  Tm.shut (a := ⟨0, bNil, 0, noTy⟩) (l := []) (by decide +kernel) (Ty.In.mk_ (by decide +kernel) rfl (by omega) (by omega)) Rep.Sl.nil

set_option maxRecDepth 100000 in
set_option maxHeartbeats 4000000 in
theorem applyLaw_any (f : Tm) (cs : List Value) (x : Tm) (ds : List Value) (w : World) (S : Nat → Prop) (hf : tmRep.R w S f cs) (hx : tmRep.R w S x ds) (hS : ∀ b, S b → b < w.heap.size)
    (g0 : w.cell? ⟨0, 0, none⟩ = some (.int .i64 0)) (g1 : w.cell? ⟨0, 1, none⟩ = some (.int .i64 0)) :
    Calls Tryd.prog 9 #[.agg cs.toArray, .agg ds.toArray] w fun e w' => e = .returned (.bool true) ∧ Below w.heap.size w w' := by
  obtain ⟨s1, A1, n1, c1, B1, m1, d1, rfl, _, _⟩ := Tm.shape hf
  obtain ⟨s2, A2, n2, c2, B2, m2, d2, rfl, _, _⟩ := Tm.shape hx
  have hg := World.block_lt_of_cell? w _ g0
  have HXT := Lib.hid hx
  have HF := Lib.hid hf
  have HX := Lib.hid hx
  have HS := Lib.hid hS
  have G0 := Lib.hid g0
  have G1 := Lib.hid g1
  clear hf hx hS g0 g1
  go_enter Tryd.func9, Tryd.ntmps9
  go_wp2_with fail
  (with_reducible refine (et_any _).mono ?_)
  rintro e w1 ⟨v0, v1, rfl, h1, hw1⟩
  obtain ⟨se, Ae, ne, ce, rfl, rfl⟩ := h1.shape
  have z1 : w.heap.size + 2 ≤ w1.heap.size := by have := hw1.size; simpa using this
  have p0 := (hw1.block w.heap.size (by simp; omega)).trans (heap_old (by simp) (heap_at rfl))
  have p1 := (hw1.block (w.heap.size + 1) (by simp)).trans (heap_at (by simp))
  have hB1 : Below w.heap.size w w1 := (((Below.refl _ w).alloc (Nat.le_refl _) _).alloc (by simp) _).trans (hw1.mono (by simp; omega))
  have h1' : (Sy.fn .e .t).ty.In w1 (Lo w1) (.string se) (.slice Ae ne ce) := h1.mono (fun b hb => by rcases hb with hb | hb; exact hb.elim; exact hb.2)
  have hwk := Lib.hid (constant_any ⟨#[119, 97, 108, 107]⟩ (Sy.fn .e .t).ty _ _ w1 (Lo w1) (by decide +kernel) h1' (fun b h => h))
  clear h1 h1' hw1
  have HB1 := Lib.hid hB1
  have P0 := Lib.hid p0
  have P1 := Lib.hid p1
  have HWK := Lib.hid hwk
  clear hB1 p0 p1 hwk
  go_wp2_with fail
  (with_reducible refine HWK.out.out.mono ?_)
  rintro e w2 ⟨rfl, h2, hw2⟩
  have hB2 := HB1.out.trans (hw2.mono (by omega))
  have z2 := hw2.size
  have p0 := (hw2.block _ (by omega)).trans P0.out
  have p1 := (hw2.block _ (by omega)).trans P1.out
  have hbe : Hid _ := Lib.hid (base_any ⟨#[101]⟩ w2 (by decide +kernel))
  clear hw2
  have H2 := Lib.hid h2
  have HB2 := Lib.hid hB2
  have P0 := Lib.hid p0
  have P1 := Lib.hid p1
  clear h2 hB2 p0 p1
  go_wp2_with fail
  (with_reducible refine hbe.out.mono ?_)
  rintro e w3 ⟨rfl, h3, hw3⟩
  clear hbe
  have hB3 := HB2.out.trans (hw3.mono (by omega))
  have z3 := hw3.size
  have p0 := (hw3.block _ (by omega)).trans P0.out
  have p1 := (hw3.block _ (by omega)).trans P1.out
  have h2' := tmRep.keep (S' := Lo w3) H2.out (fun k hk => hw3.block k (by have h' : k < w1.heap.size := hk; omega)) (fun k hk => by have h' : k < w1.heap.size := hk; exact (show k < w3.heap.size by omega))
  have hkm := Lib.hid (constant_any ⟨#[107, 105, 109]⟩ Sy.e.ty (.string ⟨#[101]⟩) (.slice none 0 0) w3 (Lo w3) (by decide +kernel) (Ty.In.mk_ (by decide +kernel) rfl (by omega) (by omega)) (fun b h => h))
  clear hw3 h3
  have H2P := Lib.hid h2'
  have HB3 := Lib.hid hB3
  have P0 := Lib.hid p0
  have P1 := Lib.hid p1
  have HKM := Lib.hid hkm
  clear h2' hB3 p0 p1 hkm
  go_wp2_with fail
  (with_reducible refine HKM.out.out.mono ?_)
  rintro e w4 ⟨rfl, h4, hw4⟩
  have hB4 := HB3.out.trans (hw4.mono (by omega))
  have z4 := hw4.size
  have p0 := (hw4.block _ (by omega)).trans P0.out
  have p1 := (hw4.block _ (by omega)).trans P1.out
  have h24 := tmRep.keep (S' := Lo w4) H2P.out (fun k hk => hw4.block k hk) (fun k hk => by have h' : k < w3.heap.size := hk; exact (show k < w4.heap.size by omega))
  have h44 := tmRep.keep (S' := Lo w4) h4 (fun _ _ => rfl) (fun k hk => by have h' : k < w3.heap.size := hk; exact (show k < w4.heap.size by omega))
  have hold : ∀ (o p : Obj) k, Lo w4 k → ((w4.alloc o).alloc p).heap[k]? = w4.heap[k]? := fun o p k hk => by
    have h' : k < w4.heap.size := hk
    exact heap_old (by simp; omega) (heap_old h' rfl)
  have hap := fun (o p : Obj) => Lib.hid (apply_any tvWalkA.tm tvKimA.tm [.int .i64 1, .string ⟨#[119, 97, 108, 107]⟩, .int .i64 0, .string se, .slice Ae ne ce, .slice none 0 0] [.int .i64 1, .string ⟨#[107, 105, 109]⟩, .int .i64 0, .string ⟨#[101]⟩, .slice none 0 0, .slice none 0 0] ((w4.alloc o).alloc p) (Lo w4) (tmRep.keep h24 (hold o p) (fun _ h => h)) (tmRep.keep h44 (hold o p) (fun _ h => h)) (fun k hk => by have h' : k < w4.heap.size := hk; simp; omega))
  clear hw4 h4
  have HB4 := Lib.hid hB4
  have P0 := Lib.hid p0
  have P1 := Lib.hid p1
  have HAP := Lib.hid hap
  have H24 := Lib.hid h24
  have H44 := Lib.hid h44
  have HOLD := Lib.hid hold
  clear hB4 p0 p1 hap h24 h44 hold
  go_wp2_with fail
  (with_reducible refine (HAP.out _ _).out.mono ?_)
  rintro e w5 hr
  have hw5 := hr.2.2.2
  obtain ⟨ds5, rfl, h5⟩ := hr.ex
  obtain ⟨s5, A5, n5, c5, B5, m5, d5, rfl, _, _⟩ := Tm.shape h5
  have z5 : w4.heap.size + 2 ≤ w5.heap.size := by have := hw5.size; simpa using this
  have hB5 : Below w.heap.size w w5 := ((HB4.out.alloc (by omega) _).alloc (by simp; omega) _).trans (hw5.mono (by simp; omega))
  have p0 := (hw5.block w.heap.size (by simp; omega)).trans (heap_old (by simp; omega) (heap_old (by omega) P0.out))
  have p1 := (hw5.block (w.heap.size + 1) (by simp; omega)).trans (heap_old (by simp; omega) (heap_old (by omega) P1.out))
  have q5 := (hw5.block w4.heap.size (by simp <;> omega)).trans (heap_old (by simp) (heap_at rfl))
  have q6 := (hw5.block (w4.heap.size + 1) (by simp)).trans (heap_at (by simp))
  have c0 := (hB5.cell (p := ⟨0, 0, none⟩) hg).trans G0.out
  have c1' := (hB5.cell (p := ⟨0, 1, none⟩) hg).trans G1.out
  have l5 : 0 < w5.heap.size := by omega
  have l5b : 0 < w5.heap.size + 1 := by omega
  have l5c : w4.heap.size < w5.heap.size := by omega
  have l5d : w4.heap.size + 1 < w5.heap.size := by omega
  have hk5 : ∀ k, k < w4.heap.size → w5.heap[k]? = w4.heap[k]? := fun k hk => (hw5.block k (by simp; omega)).trans (heap_old (by simp; omega) (heap_old hk rfl))
  have h25 := tmRep.keep (S' := Lo w4) H24.out (fun k hk => hk5 k hk) (fun _ h => h)
  have h45 := tmRep.keep (S' := Lo w4) H44.out (fun k hk => hk5 k hk) (fun _ h => h)
  have happ := fun (o p : Obj) => Lib.hid (app_any tvWalkA.tm tvKimA.tm [.int .i64 1, .string ⟨#[119, 97, 108, 107]⟩, .int .i64 0, .string se, .slice Ae ne ce, .slice none 0 0] [.int .i64 1, .string ⟨#[107, 105, 109]⟩, .int .i64 0, .string ⟨#[101]⟩, .slice none 0 0, .slice none 0 0] ((w5.alloc o).alloc p).drew (Lo w4)
    (tmRep.keep h25 (fun k hk => by have h' : k < w4.heap.size := hk; exact heap_drew (heap_old (by simp; omega) (heap_old (by omega) rfl))) (fun _ h => h)) (tmRep.keep h45 (fun k hk => by have h' : k < w4.heap.size := hk; exact heap_drew (heap_old (by simp; omega) (heap_old (by omega) rfl))) (fun _ h => h)) (fun k hk => by have h' : k < w4.heap.size := hk; simp; omega))
  have HU5 := Lib.hid (tmRep.keep (S' := Lo w5) h5 (fun _ _ => rfl) (fun k hk => hk.2))
  have hBA := ((hB5.alloc (by omega) (.cells #[.int .i64 (Tv.app tvWalkA tvKimA).tm.lab.kind, .string (Tv.app tvWalkA tvKimA).tm.lab.nm, .int .i64 (Tv.app tvWalkA tvKimA).tm.lab.ix, .string s5, .slice A5 n5 c5, .slice B5 m5 d5] 49)).alloc (by simp; omega) (.cells #[.int .i64 0, .int .i64 0] 26))
  clear hr h5 h25 h45 hk5
  have HW5 := Lib.hid hw5
  have HB5 := Lib.hid hB5
  have P0 := Lib.hid p0
  have P1 := Lib.hid p1
  have HAPP := Lib.hid happ
  have HBA := Lib.hid hBA
  clear hw5 hB5 p0 p1 happ hBA
  have q5_0 := cv0 q5
  have q5_1 := cv1 q5
  have q5_2 := cv2 q5
  have q5_3 := cv3 q5
  have q5_4 := cv4 q5
  have q5_5 := cv5 q5
  have q5_l := lt_heap q5
  have Q5 := Lib.hid q5
  clear q5
  have q6_0 := cv0 q6
  have q6_1 := cv1 q6
  have q6_2 := cv2 q6
  have q6_3 := cv3 q6
  have q6_4 := cv4 q6
  have q6_5 := cv5 q6
  have q6_l := lt_heap q6
  have Q6 := Lib.hid q6
  clear q6
  go_wp2_with fail
  go_region_held3 (fun w' => w'.cell? ⟨w5.heap.size + 1, 0, none⟩ = some (.int .i64 0) ∧ w'.cell? ⟨w5.heap.size + 1, 1, none⟩ = some (.int .i64 0) ∧ w'.cell? ⟨0, 0, none⟩ = some (.int .i64 0) ∧ w'.cell? ⟨0, 1, none⟩ = some (.int .i64 0) ∧ w'.cell? ⟨w5.heap.size, 0, none⟩ = some (.int .i64 (Tv.app tvWalkA tvKimA).tm.lab.kind) ∧ w'.cell? ⟨w5.heap.size, 1, none⟩ = some (.string (Tv.app tvWalkA tvKimA).tm.lab.nm) ∧ w'.cell? ⟨w5.heap.size, 2, none⟩ = some (.int .i64 (Tv.app tvWalkA tvKimA).tm.lab.ix) ∧ w'.cell? ⟨w5.heap.size, 3, none⟩ = some (.string s5) ∧ w'.cell? ⟨w5.heap.size, 4, none⟩ = some (.slice A5 n5 c5) ∧ w'.cell? ⟨w5.heap.size, 5, none⟩ = some (.slice B5 m5 d5) ∧ w'.cell? ⟨w4.heap.size, 0, none⟩ = some (.int .i64 1) ∧ w'.cell? ⟨w4.heap.size, 1, none⟩ = some (.string ⟨#[119, 97, 108, 107]⟩) ∧ w'.cell? ⟨w4.heap.size, 2, none⟩ = some (.int .i64 0) ∧ w'.cell? ⟨w4.heap.size, 3, none⟩ = some (.string se) ∧ w'.cell? ⟨w4.heap.size, 4, none⟩ = some (.slice Ae ne ce) ∧ w'.cell? ⟨w4.heap.size, 5, none⟩ = some (.slice none 0 0) ∧ w'.cell? ⟨w4.heap.size + 1, 0, none⟩ = some (.int .i64 1) ∧ w'.cell? ⟨w4.heap.size + 1, 1, none⟩ = some (.string ⟨#[107, 105, 109]⟩) ∧ w'.cell? ⟨w4.heap.size + 1, 2, none⟩ = some (.int .i64 0) ∧ w'.cell? ⟨w4.heap.size + 1, 3, none⟩ = some (.string ⟨#[101]⟩) ∧ w'.cell? ⟨w4.heap.size + 1, 4, none⟩ = some (.slice none 0 0) ∧ w'.cell? ⟨w4.heap.size + 1, 5, none⟩ = some (.slice none 0 0))
    ((first | (go_keep; done) | (go_split_ands; (repeat' apply And.intro) <;> (refine (kc7 _ _ (by omega)).trans ?_; assumption)) | (go_split_ands; (repeat' apply And.intro) <;> (refine (kc6 _ _ (by omega)).trans ?_; assumption))))
    (first
      | ((with_reducible refine (HAPP.out _ _).out.mono ?_); rintro e w6 ⟨es, rfl, h6, hw6⟩; obtain ⟨s6, A6, n6, c6, B6, m6, d6, rfl, _, _⟩ := Tm.shape h6; have kc6 : ∀ k q, k < w5.heap.size + 2 → w6.cell? ⟨k, q, none⟩ = _ := (fun k q h => hw6.cell (p := ⟨k, q, none⟩) (by simp; omega)); have z6 : w5.heap.size + 2 ≤ w6.heap.size := (by have := hw6.size; simpa using this); have HU6 := Lib.hid h6; have HW6 := Lib.hid hw6; clear h6 hw6)
      | (have hq := eqTm_any _ (Tv.app tvWalkA tvKimA).tm (tmApp tvWalkA.tm tvKimA.tm) [.int .i64 (Tv.app tvWalkA tvKimA).tm.lab.kind, .string (Tv.app tvWalkA tvKimA).tm.lab.nm, .int .i64 (Tv.app tvWalkA tvKimA).tm.lab.ix, .string s5, .slice A5 n5 c5, .slice B5 m5 d5] [.int .i64 (tmApp tvWalkA.tm tvKimA.tm).lab.kind, .string (tmApp tvWalkA.tm tvKimA.tm).lab.nm, .int .i64 (tmApp tvWalkA.tm tvKimA.tm).lab.ix, .string s6, .slice A6 n6 c6, .slice B6 m6 d6] w6 (Lo w6) (Nat.le_refl _) (tmRep.keep HU5.out (fun k hk => by have h' : k < w5.heap.size := hk; exact (HW6.out.block k (by simp; omega)).trans (heap_drew (heap_old (by simp; omega) (heap_old h' rfl)))) (fun k hk => by have h' : k < w5.heap.size := hk; exact (show k < w6.heap.size by omega))) (tmRep.keep HU6.out (fun _ _ => rfl) (fun k hk => by rcases hk with hk | hk; have h' : k < w4.heap.size := hk; exact (show k < w6.heap.size by omega); exact hk.2)) (fun k hk => hk); rw [show tmBeq (Tv.app tvWalkA tvKimA).tm (tmApp tvWalkA.tm tvKimA.tm) = true from tmBeq_self _] at hq; (with_reducible refine hq.mono ?_); clear hq; rintro e w7 ⟨rfl, hw7⟩; have kc7 : ∀ k q, k < w6.heap.size → w7.cell? ⟨k, q, none⟩ = _ := (fun k q h => hw7.cell (p := ⟨k, q, none⟩) h); have z7 := hw7.size; have HW7 := Lib.hid hw7; clear hw7))
  go_upto_region 5 with (fail)
  refine gen_last (fun wb => Below w.heap.size w wb ∧ wb.heap[w.heap.size]? = some (.cells #[.int .i64 f.lab.kind, .string f.lab.nm, .int .i64 f.lab.ix, .string s1, .slice A1 n1 c1, .slice B1 m1 d1] 49 (0, 0)) ∧ wb.heap[w.heap.size + 1]? = some (.cells #[.int .i64 x.lab.kind, .string x.lab.nm, .int .i64 x.lab.ix, .string s2, .slice A2 n2 c2, .slice B2 m2 d2] 49 (0, 0))) ?_ ?_
  · exact ⟨((HBA.out.drew).trans (HW6.out.mono (by simp; omega))).trans (HW7.out.mono (by omega)), (HW7.out.block _ (by omega)).trans ((HW6.out.block w.heap.size (by simp; omega)).trans (heap_drew (heap_old (by simp; omega) (heap_old (by omega) P0.out)))), (HW7.out.block _ (by omega)).trans ((HW6.out.block (w.heap.size + 1) (by simp; omega)).trans (heap_drew (heap_old (by simp; omega) (heap_old (by omega) P1.out))))⟩
  rintro wb ⟨hBb, p0, p1⟩
  have zb := hBb.size
  have p0l := lt_heap p0
  have p1l := lt_heap p1
  have hSb : ∀ k, S k → wb.heap[k]? = w.heap[k]? := fun k hk => hBb.block k (HS.out k hk)
  have hap2 := Lib.hid (apply_any f x [.int .i64 f.lab.kind, .string f.lab.nm, .int .i64 f.lab.ix, .string s1, .slice A1 n1 c1, .slice B1 m1 d1] [.int .i64 x.lab.kind, .string x.lab.nm, .int .i64 x.lab.ix, .string s2, .slice A2 n2 c2, .slice B2 m2 d2] wb S (tmRep.keep HF.out hSb (fun _ h => h)) (tmRep.keep HX.out hSb (fun _ h => h)) (fun k hk => by have := HS.out k hk; omega))
  clear kc6 kc7 z6 z7 q5_0 q5_1 q5_2 q5_3 q5_4 q5_5 q5_l q6_0 q6_1 q6_2 q6_3 q6_4 q6_5 q6_l c0 c1' l5 l5b l5c l5d
  have HBB := Lib.hid hBb
  have HSB := Lib.hid hSb
  have HAP2 := Lib.hid hap2
  clear hBb hSb hap2
  have p0_0 := cv0 p0
  have p0_1 := cv1 p0
  have p0_2 := cv2 p0
  have p0_3 := cv3 p0
  have p0_4 := cv4 p0
  have p0_5 := cv5 p0
  have p0_l := lt_heap p0
  have P0 := Lib.hid p0
  clear p0
  have p1_0 := cv0 p1
  have p1_1 := cv1 p1
  have p1_2 := cv2 p1
  have p1_3 := cv3 p1
  have p1_4 := cv4 p1
  have p1_5 := cv5 p1
  have p1_l := lt_heap p1
  have P1 := Lib.hid p1
  clear p1
  go_wp2_with fail
  (with_reducible refine HAP2.out.out.mono ?_)
  rintro e wc hr
  have hwc : Below wb.heap.size wb wc := hr.2.2.2
  have zc := hwc.size
  have hBc := HBB.out.trans (hwc.mono (by omega))
  have p0 := (hwc.block _ p0_l).trans P0.out
  have p1 := (hwc.block _ p1_l).trans P1.out
  have c0 := (hBc.cell (p := ⟨0, 0, none⟩) hg).trans G0.out
  have c1' := (hBc.cell (p := ⟨0, 1, none⟩) hg).trans G1.out
  have hSc : ∀ (o p : Obj) k, S k → ((wc.alloc o).alloc p).heap[k]? = w.heap[k]? := fun o p k hk => heap_old (by have := HS.out k hk; simp; omega) (heap_old (by have := HS.out k hk; omega) (hBc.block k (HS.out k hk)))
  have hff := fun (o p : Obj) => Lib.hid (refTmFault_any f [.int .i64 f.lab.kind, .string f.lab.nm, .int .i64 f.lab.ix, .string s1, .slice A1 n1 c1, .slice B1 m1 d1] ((wc.alloc o).alloc p) S (tmRep.keep HF.out (hSc o p) (fun _ h => h)) (fun k hk => by have := HS.out k hk; simp; omega))
  have hzz := fun (W : World) => Lib.hid (eqTm_any _ tmZero tmZero _ _ W (Lo W) (Nat.le_refl _) tmZero_in tmZero_in (fun _ h => h))
  rw [tmBeq_self] at hzz
  clear p0_0 p0_1 p0_2 p0_3 p0_4 p0_5 p0_l p1_0 p1_1 p1_2 p1_3 p1_4 p1_5 p1_l p0l p1l
  have HBC := Lib.hid hBc
  have HWC := Lib.hid hwc
  have HSC := Lib.hid hSc
  have HFF := Lib.hid hff
  have HZZ := Lib.hid hzz
  clear hBc hwc hSc hff hzz
  by_cases hz : (tmFault f).1 = 0
  case neg =>
    obtain rfl := hr.1 hz
    have hc1 : (((tmFault f).1 : Int) == 0) = false := beq_eq_false_iff_ne.2 (by omega)
    clear hr hz
    have p0_0 := cv0 p0
    have p0_1 := cv1 p0
    have p0_2 := cv2 p0
    have p0_3 := cv3 p0
    have p0_4 := cv4 p0
    have p0_5 := cv5 p0
    have p0_l := lt_heap p0
    have P0 := Lib.hid p0
    clear p0
    have p1_0 := cv0 p1
    have p1_1 := cv1 p1
    have p1_2 := cv2 p1
    have p1_3 := cv3 p1
    have p1_4 := cv4 p1
    have p1_5 := cv5 p1
    have p1_l := lt_heap p1
    have P1 := Lib.hid p1
    clear p1
    unfold zTm
    go_wp2_with fail
    (with_reducible refine (HFF.out _ _).out.mono ?_)
    rintro e wd ⟨rfl, hwd⟩
    have zd : wc.heap.size + 2 ≤ wd.heap.size := by have := hwd.size; simpa using this
    have hBd := ((HBC.out.alloc (by omega) _).alloc (by simp; omega) _).trans (hwd.mono (by simp; omega))
    have r9 := (hwd.block wc.heap.size (by simp <;> omega)).trans (heap_old (by simp) (heap_at rfl))
    have r10 := (hwd.block (wc.heap.size + 1) (by simp)).trans (heap_at (by simp))
    have c0 := (hBd.cell (p := ⟨0, 0, none⟩) hg).trans G0.out
    have c1' := (hBd.cell (p := ⟨0, 1, none⟩) hg).trans G1.out
    have ld : 0 < wd.heap.size := by omega
    have ldb : 0 < wd.heap.size + 1 := by omega
    have l9 : wc.heap.size < wd.heap.size := by omega
    have l10 : wc.heap.size + 1 < wd.heap.size := by omega
    have l9b : wc.heap.size < wd.heap.size + 1 := by omega
    have l10b : wc.heap.size + 1 < wd.heap.size + 1 := by omega
    clear p0_0 p0_1 p0_2 p0_3 p0_4 p0_5 p0_l p1_0 p1_1 p1_2 p1_3 p1_4 p1_5 p1_l
    have HWD := Lib.hid hwd
    have HBD := Lib.hid hBd
    clear hwd hBd
    have r9_0 := cv0 r9
    have r9_1 := cv1 r9
    have r9_2 := cv2 r9
    have r9_3 := cv3 r9
    have r9_4 := cv4 r9
    have r9_5 := cv5 r9
    have r9_l := lt_heap r9
    have R9 := Lib.hid r9
    clear r9
    have r10_0 := cv0 r10
    have r10_1 := cv1 r10
    have r10_l := lt_heap r10
    have R10 := Lib.hid r10
    clear r10
    go_wp2_with fail
    (with_reducible refine (HZZ.out _).out.mono ?_)
    rintro e we ⟨rfl, hwe⟩
    have HWE := Lib.hid hwe
    clear hwe
    go_wp2_with fail
    go_returns
    exact ⟨rfl, (HBD.out.alloc (by omega) _).trans (HWE.out.mono (by simp; omega))⟩
  obtain ⟨vf, sf, rfl, of, nf, df, tf, ef⟩ := tmFault_zero hz
  obtain ⟨kT, nmT, ixT, s7, A7, n7, c7, B7, m7, d7, ca, ia, TT, rfl, hTT, hX, hOK⟩ : ∃ (kT : Int) (nmT : ByteArray) (ixT : Int) (s7 : ByteArray) (A7 : Option Addr) (n7 c7 : Nat) (B7 : Option Addr) (m7 d7 : Nat) (ca ia : Int) (TT : Tm),
      e = .returned (.tuple #[.agg #[.int .i64 kT, .string nmT, .int .i64 ixT, .string s7, .slice A7 n7 c7, .slice B7 m7 d7], .agg #[.int .i64 ca, .int .i64 ia]]) ∧ tmRep.R wc (Lo wc) TT [.int .i64 kT, .string nmT, .int .i64 ixT, .string s7, .slice A7 n7 c7, .slice B7 m7 d7] ∧
      ((tmFault x).1 ≠ 0 → TT = tmZero ∧ ca = ((tmFault x).1 : Nat) ∧ ia = (tmFault x).2) ∧
      (∀ vx : Tv, x = vx.tm → (tmFault x).1 = 0 → ((Tv.typ [] (.app vf vx) = none ∧ TT = tmZero ∧ ca = 12 ∧ ia = -2) ∨ ((Tv.typ [] (.app vf vx)).isSome = true ∧ (200 < vf.nodes + vx.nodes + 1 ∨ 40 < max vf.depth vx.depth + 1) ∧ TT = tmZero ∧ ca = 1 ∧ ia = -2) ∨ ((Tv.typ [] (.app vf vx)).isSome = true ∧ ¬ (200 < vf.nodes + vx.nodes + 1 ∨ 40 < max vf.depth vx.depth + 1) ∧ TT = (Tv.app vf vx).tm ∧ ca = 0 ∧ ia = 0))) := by
    by_cases hx0 : (tmFault x).1 = 0
    case neg => exact ⟨_, _, _, _, _, _, _, _, _, _, _, _, tmZero, hr.2.1 hz hx0, tmZero_in, fun _ => ⟨rfl, rfl, rfl⟩, fun _ _ h => absurd h hx0⟩
    obtain ⟨vx, sx, rfl, ox, nx, dx, tx, ex⟩ := tmFault_zero hx0
    have h1 := hr.2.2.1 vf vx rfl rfl hz hx0
    unfold ApplyRes at h1
    split at h1
    · rename_i h2
      refine ⟨_, _, _, _, _, _, _, _, _, _, _, _, tmZero, h1, tmZero_in, fun h => absurd hx0 h, fun vx' e' _ => ?_⟩
      obtain rfl := Tv.tm_inj _ _ e'
      exact Or.inl ⟨by simpa using h2, rfl, rfl, rfl⟩
    split at h1
    · rename_i h2 h3
      refine ⟨_, _, _, _, _, _, _, _, _, _, _, _, tmZero, h1, tmZero_in, fun h => absurd hx0 h, fun vx' e' _ => ?_⟩
      obtain rfl := Tv.tm_inj _ _ e'
      exact Or.inr (Or.inl ⟨by simpa [Option.isSome_iff_ne_none] using h2, h3, rfl, rfl, rfl⟩)
    · rename_i h2 h3
      obtain ⟨ds, rfl, hu⟩ := h1
      obtain ⟨s7, A7, n7, c7, B7, m7, d7, rfl, _, _⟩ := Tm.shape hu
      refine ⟨_, _, _, _, _, _, _, _, _, _, _, _, (Tv.app vf vx).tm, rfl, tmRep.keep hu (fun _ _ => rfl) (fun k hk => hk.2), fun h => absurd hx0 h, fun vx' e' _ => ?_⟩
      obtain rfl := Tv.tm_inj _ _ e'
      exact Or.inr (Or.inr ⟨by simpa [Option.isSome_iff_ne_none] using h2, h3, rfl, rfl, rfl⟩)
  have HOF := Lib.hid of
  have hnf : vf.nodes ≤ 200 := nf
  clear hr hz nf df tf of
  have HTT := Lib.hid hTT
  have HX := Lib.hid hX
  have HOK := Lib.hid hOK
  clear hTT hX hOK
  have p0_0 := cv0 p0
  have p0_1 := cv1 p0
  have p0_2 := cv2 p0
  have p0_3 := cv3 p0
  have p0_4 := cv4 p0
  have p0_5 := cv5 p0
  have p0_l := lt_heap p0
  have P0 := Lib.hid p0
  clear p0
  have p1_0 := cv0 p1
  have p1_1 := cv1 p1
  have p1_2 := cv2 p1
  have p1_3 := cv3 p1
  have p1_4 := cv4 p1
  have p1_5 := cv5 p1
  have p1_l := lt_heap p1
  have P1 := Lib.hid p1
  clear p1
  go_wp2_with fail
  (with_reducible refine (HFF.out _ _).out.mono ?_)
  rw [ef]
  rintro e wd ⟨rfl, hwd⟩
  have zd : wc.heap.size + 2 ≤ wd.heap.size := by have := hwd.size; simpa using this
  have hBd := ((HBC.out.alloc (by omega) (.cells #[.int .i64 kT, .string nmT, .int .i64 ixT, .string s7, .slice A7 n7 c7, .slice B7 m7 d7] 49)).alloc (by simp; omega) (.cells #[.int .i64 ca, .int .i64 ia] 26)).trans (hwd.mono (by simp; omega))
  have hkd : ∀ k, k < wc.heap.size → wd.heap[k]? = wc.heap[k]? := fun k hk => (hwd.block k (by simp; omega)).trans (heap_old (by simp; omega) (heap_old hk rfl))
  have r9 := (hwd.block wc.heap.size (by simp <;> omega)).trans (heap_old (by simp) (heap_at rfl))
  have r10 := (hwd.block (wc.heap.size + 1) (by simp)).trans (heap_at (by simp))
  have p0 := (hkd _ p0_l).trans P0.out
  have p1 := (hkd _ p1_l).trans P1.out
  have c0 := (hBd.cell (p := ⟨0, 0, none⟩) hg).trans G0.out
  have c1' := (hBd.cell (p := ⟨0, 1, none⟩) hg).trans G1.out
  have ld : 0 < wd.heap.size := by omega
  have ldb : 0 < wd.heap.size + 1 := by omega
  have hfx := fun (o : Obj) => Lib.hid (refTmFault_any x [.int .i64 x.lab.kind, .string x.lab.nm, .int .i64 x.lab.ix, .string s2, .slice A2 n2 c2, .slice B2 m2 d2] (wd.alloc o) S (tmRep.keep HXT.out (fun k hk => (heap_old (by have := HS.out k hk; omega) rfl).trans (hBd.block k (HS.out k hk))) (fun _ h => h)) (fun k hk => by have := HS.out k hk; simp; omega))
  clear p0_0 p0_1 p0_2 p0_3 p0_4 p0_5 p0_l p1_0 p1_1 p1_2 p1_3 p1_4 p1_5 p1_l
  have HWD := Lib.hid hwd
  have HBD := Lib.hid hBd
  have HKD := Lib.hid hkd
  have HFX := Lib.hid hfx
  have R9 := Lib.hid r9
  have R10 := Lib.hid r10
  clear hwd hBd hkd hfx r9 r10
  have p0_0 := cv0 p0
  have p0_1 := cv1 p0
  have p0_2 := cv2 p0
  have p0_3 := cv3 p0
  have p0_4 := cv4 p0
  have p0_5 := cv5 p0
  have p0_l := lt_heap p0
  have P0 := Lib.hid p0
  clear p0
  have p1_0 := cv0 p1
  have p1_1 := cv1 p1
  have p1_2 := cv2 p1
  have p1_3 := cv3 p1
  have p1_4 := cv4 p1
  have p1_5 := cv5 p1
  have p1_l := lt_heap p1
  have P1 := Lib.hid p1
  clear p1
  go_wp2_with fail
  (with_reducible refine (HFX.out _).out.mono ?_)
  rintro e we ⟨rfl, hwe⟩
  have ze : wd.heap.size + 1 ≤ we.heap.size := by have := hwe.size; simpa using this
  have hBe := (HBD.out.alloc (by omega) (.cells #[.int .i64 0, .int .i64 0] 26)).trans (hwe.mono (by simp; omega))
  have hke : ∀ k, k < wd.heap.size → we.heap[k]? = wd.heap[k]? := fun k hk => (hwe.block k (by simp; omega)).trans (heap_old hk rfl)
  have r9 := (hke _ (by omega)).trans R9.out
  have r10 := (hke _ (by omega)).trans R10.out
  have p0 := (hke _ p0_l).trans P0.out
  have p1 := (hke _ p1_l).trans P1.out
  have c0 := (hBe.cell (p := ⟨0, 0, none⟩) hg).trans G0.out
  have c1' := (hBe.cell (p := ⟨0, 1, none⟩) hg).trans G1.out
  have le : 0 < we.heap.size := by omega
  have leb : 0 < we.heap.size + 1 := by omega
  have l9 : wc.heap.size < we.heap.size := by omega
  have l10 : wc.heap.size + 1 < we.heap.size := by omega
  have l9b : wc.heap.size < we.heap.size + 1 := by omega
  have l10b : wc.heap.size + 1 < we.heap.size + 1 := by omega
  clear p0_0 p0_1 p0_2 p0_3 p0_4 p0_5 p0_l p1_0 p1_1 p1_2 p1_3 p1_4 p1_5 p1_l
  have HWE := Lib.hid hwe
  have HBE := Lib.hid hBe
  have HKE := Lib.hid hke
  clear hwe hBe hke
  by_cases hx0 : (tmFault x).1 = 0
  case neg =>
    obtain ⟨rfl, rfl, rfl⟩ := HX.out hx0
    have hc1 : (((tmFault x).1 : Int) == 0) = false := beq_eq_false_iff_ne.2 (by omega)
    have heq := fun (o : Obj) => Lib.hid (eqTm_any _ tmZero tmZero [.int .i64 kT, .string nmT, .int .i64 ixT, .string s7, .slice A7 n7 c7, .slice B7 m7 d7] _ (we.alloc o) (Lo we) (Nat.le_refl _) (tmRep.keep HTT.out (fun k hk => by have h' : k < wc.heap.size := hk; exact (heap_old (by omega) rfl).trans ((HKE.out k (by omega)).trans (HKD.out k h'))) (fun k hk => by have h' : k < wc.heap.size := hk; exact (show k < we.heap.size by omega))) tmZero_in (fun k hk => by have h' : k < we.heap.size := hk; simp; omega))
    rw [tmBeq_self] at heq
    clear hx0
    have HEQ := Lib.hid heq
    have P0 := Lib.hid p0
    have P1 := Lib.hid p1
    clear heq p0 p1
    have r9_0 := cv0 r9
    have r9_1 := cv1 r9
    have r9_2 := cv2 r9
    have r9_3 := cv3 r9
    have r9_4 := cv4 r9
    have r9_5 := cv5 r9
    have r9_l := lt_heap r9
    have R9 := Lib.hid r9
    clear r9
    have r10_0 := cv0 r10
    have r10_1 := cv1 r10
    have r10_l := lt_heap r10
    have R10 := Lib.hid r10
    clear r10
    go_wp2_with fail
    (with_reducible refine (HEQ.out _).out.mono ?_)
    rintro e wf ⟨rfl, hwf⟩
    have HWF := Lib.hid hwf
    clear hwf
    go_wp2_with fail
    go_returns
    exact ⟨rfl, (HBE.out.alloc (by omega) _).trans (HWF.out.mono (by simp; omega))⟩
  obtain ⟨vx, sx, rfl, ox, nx, dx, tx, ex⟩ := tmFault_zero hx0
  have hok := HOK.out vx rfl hx0
  rw [ex]
  have hSe : ∀ (o : Obj) k, S k → (we.alloc o).heap[k]? = w.heap[k]? := fun o k hk => (heap_old (by have := HS.out k hk; have := HBE.out.size; omega) rfl).trans (HBE.out.block k (HS.out k hk))
  have happ2 := fun (o : Obj) => Lib.hid (app_any vf.tm vx.tm [.int .i64 vf.tm.lab.kind, .string vf.tm.lab.nm, .int .i64 vf.tm.lab.ix, .string s1, .slice A1 n1 c1, .slice B1 m1 d1] [.int .i64 vx.tm.lab.kind, .string vx.tm.lab.nm, .int .i64 vx.tm.lab.ix, .string s2, .slice A2 n2 c2, .slice B2 m2 d2] (we.alloc o) S (tmRep.keep HF.out (hSe o) (fun _ h => h)) (tmRep.keep HXT.out (hSe o) (fun _ h => h)) (fun k hk => by have := HS.out k hk; simp; omega))
  have hokA : (Tv.app vf vx).ok 0 := ⟨HOF.out, ox⟩
  have hnx : vx.nodes ≤ 200 := nx
  clear hx0 ox dx tx ex nx hSe
  have HAPP2 := Lib.hid happ2
  have HOK := Lib.hid hok
  have HOKA := Lib.hid hokA
  clear happ2 hok hokA
  have p0_0 := cv0 p0
  have p0_1 := cv1 p0
  have p0_2 := cv2 p0
  have p0_3 := cv3 p0
  have p0_4 := cv4 p0
  have p0_5 := cv5 p0
  have p0_l := lt_heap p0
  have P0 := Lib.hid p0
  clear p0
  have p1_0 := cv0 p1
  have p1_1 := cv1 p1
  have p1_2 := cv2 p1
  have p1_3 := cv3 p1
  have p1_4 := cv4 p1
  have p1_5 := cv5 p1
  have p1_l := lt_heap p1
  have P1 := Lib.hid p1
  clear p1
  go_wp2_with fail
  (with_reducible refine (HAPP2.out _).out.mono ?_)
  rintro e wf ⟨es, rfl, h8, hwf⟩
  obtain ⟨u0, u1, vs, rfl, _, hty8, hsl8⟩ := Tm.open_ (a := ⟨4, bNil, 0, noTy⟩) (l := [vf.tm, vx.tm]) h8
  obtain ⟨s8, A8, n8, c8, rfl, rfl⟩ := hty8.shape
  obtain ⟨B8, m8, d8, rfl, _⟩ := id hsl8
  have zf : we.heap.size + 1 ≤ wf.heap.size := by have := hwf.size; simpa using this
  have hBf := (HBE.out.alloc (by omega) (.cells #[.int .i64 0, .int .i64 0] 26)).trans (hwf.mono (by simp; omega))
  have hkf : ∀ k, k < we.heap.size → wf.heap[k]? = we.heap[k]? := fun k hk => (hwf.block k (by simp; omega)).trans (heap_old hk rfl)
  have r9 := (hkf _ (by omega)).trans r9
  have r10 := (hkf _ (by omega)).trans r10
  have hu8 : tmRep.R wf (Lo wf) (Tv.app vf vx).tm [.int .i64 4, .string bNil, .int .i64 0, .string s8, .slice A8 n8 c8, .slice B8 m8 d8] := tmRep.keep h8 (fun _ _ => rfl) (fun k hk => by
    rcases hk with hk | hk
    · have := HS.out k hk; exact (show k < wf.heap.size by omega)
    · exact hk.2)
  have hT9 : tmRep.R wf (Lo wf) TT [.int .i64 kT, .string nmT, .int .i64 ixT, .string s7, .slice A7 n7 c7, .slice B7 m7 d7] := tmRep.keep HTT.out (fun k hk => by have h' : k < wc.heap.size := hk; exact (hkf k (by omega)).trans ((HKE.out k (by omega)).trans (HKD.out k h'))) (fun k hk => by have h' : k < wc.heap.size := hk; exact (show k < wf.heap.size by omega))
  have hto := fun (o : Obj) => Lib.hid (typeOf_any (.app vf vx) [.int .i64 4, .string bNil, .int .i64 0, .string s8, .slice A8 n8 c8, .slice B8 m8 d8] (wf.alloc o) (Lo wf) HOKA.out (by simp only [Tv.nodes]; omega) (tmRep.keep hu8 (fun k hk => heap_old hk rfl) (fun _ h => h)) (fun k hk => by have h' : k < wf.heap.size := hk; simp; omega))
  clear p0_0 p0_1 p0_2 p0_3 p0_4 p0_5 p0_l p1_0 p1_1 p1_2 p1_3 p1_4 p1_5 p1_l h8 hty8 hsl8 c0 c1'
  have HWF := Lib.hid hwf
  have HBF := Lib.hid hBf
  have HKF := Lib.hid hkf
  have HU8 := Lib.hid hu8
  have HT9 := Lib.hid hT9
  have HTO := Lib.hid hto
  have R9 := Lib.hid r9
  have R10 := Lib.hid r10
  clear hwf hBf hkf hu8 hT9 hto r9 r10
  go_wp2_with fail
  (with_reducible refine (HTO.out _).out.mono ?_)
  rintro e wg ⟨y0, y1, rfl, hsm, hnn, hwg⟩
  obtain ⟨sT, AT, nT, cT, rfl, rfl⟩ : ∃ s A n c, y0 = .string s ∧ y1 = .slice A n c := by
    cases h : Tv.typ [] (.app vf vx) with
    | some s => exact (hsm s h).shape
    | none => exact ⟨_, _, _, _, (hnn h).1, (hnn h).2⟩
  have zg : wf.heap.size + 1 ≤ wg.heap.size := by have := hwg.size; simpa using this
  have hBg := (HBF.out.alloc (by omega) (.cells #[.int .i64 4, .string bNil, .int .i64 0, .string s8, .slice A8 n8 c8, .slice B8 m8 d8] 49)).trans (hwg.mono (by simp; omega))
  have hkg : ∀ k, k < wf.heap.size → wg.heap[k]? = wf.heap[k]? := fun k hk => (hwg.block k (by simp; omega)).trans (heap_old hk rfl)
  have r9 := (hkg _ (by omega)).trans R9.out
  have r10 := (hkg _ (by omega)).trans R10.out
  have r13 := (hwg.block wf.heap.size (by simp)).trans (heap_at rfl)
  have c0 := (hBg.cell (p := ⟨0, 0, none⟩) hg).trans G0.out
  have c1' := (hBg.cell (p := ⟨0, 1, none⟩) hg).trans G1.out
  have lg : 0 < wg.heap.size := by omega
  have lgb : 0 < wg.heap.size + 1 := by omega
  have l9g : wc.heap.size < wg.heap.size + 1 := by omega
  have l10g : wc.heap.size + 1 < wg.heap.size + 1 := by omega
  have l13g : wf.heap.size < wg.heap.size + 1 := by omega
  have hTg : ∀ W : World, Below wg.heap.size wg W → tmRep.R W (Lo W) TT [.int .i64 kT, .string nmT, .int .i64 ixT, .string s7, .slice A7 n7 c7, .slice B7 m7 d7] := fun W hW => tmRep.keep HT9.out (fun k hk => by have h' : k < wf.heap.size := hk; exact (hW.block k (by omega)).trans (hkg k h')) (fun k hk => by have h' : k < wf.heap.size := hk; have := hW.size; exact (show k < W.heap.size by omega))
  have hug : ∀ W : World, Below wg.heap.size wg W → tmRep.R W (Lo W) (Tv.app vf vx).tm [.int .i64 4, .string bNil, .int .i64 0, .string s8, .slice A8 n8 c8, .slice B8 m8 d8] := fun W hW => tmRep.keep HU8.out (fun k hk => by have h' : k < wf.heap.size := hk; exact (hW.block k (by omega)).trans (hkg k h')) (fun k hk => by have h' : k < wf.heap.size := hk; have := hW.size; exact (show k < W.heap.size by omega))
  clear hsm hnn
  have HWG := Lib.hid hwg
  have HBG := Lib.hid hBg
  have HKG := Lib.hid hkg
  have HTG := Lib.hid hTg
  have HUG := Lib.hid hug
  clear hwg hBg hkg hTg hug
  have r9_0 := cv0 r9
  have r9_1 := cv1 r9
  have r9_2 := cv2 r9
  have r9_3 := cv3 r9
  have r9_4 := cv4 r9
  have r9_5 := cv5 r9
  have r9_l := lt_heap r9
  have R9 := Lib.hid r9
  clear r9
  have r10_0 := cv0 r10
  have r10_1 := cv1 r10
  have r10_l := lt_heap r10
  have R10 := Lib.hid r10
  clear r10
  have r13_0 := cv0 r13
  have r13_1 := cv1 r13
  have r13_2 := cv2 r13
  have r13_3 := cv3 r13
  have r13_4 := cv4 r13
  have r13_5 := cv5 r13
  have r13_l := lt_heap r13
  have R13 := Lib.hid r13
  clear r13
  rcases HOK.out with ⟨h1, rfl, rfl, rfl⟩ | ⟨h1, h2, rfl, rfl, rfl⟩ | ⟨h1, h2, rfl, rfl, rfl⟩
  · have h1' : (Tv.typ [] (.app vf vx)).isSome = false := by rw [h1]; rfl
    rw [h1']
    clear h1 h1'
    have heq := fun (o : Obj) => Lib.hid (eqTm_any _ tmZero tmZero [.int .i64 kT, .string nmT, .int .i64 ixT, .string s7, .slice A7 n7 c7, .slice B7 m7 d7] _ (wg.alloc o) (Lo (wg.alloc o)) (Nat.le_refl _) (HTG.out _ ((Below.refl _ _).alloc (Nat.le_refl _) _)) tmZero_in (fun _ h => h))
    rw [tmBeq_self] at heq
    have HEQ := Lib.hid heq
    clear heq
    go_wp2_with fail
    (with_reducible refine (HEQ.out _).out.mono ?_)
    rintro e wh ⟨rfl, hwh⟩
    have HWH := Lib.hid hwh
    clear hwh
    go_wp2_with fail
    go_returns
    exact ⟨rfl, (HBG.out.alloc (by omega) _).trans (HWH.out.mono (by simp; omega))⟩
  · rw [h1]
    have hnN : (Tv.app vf vx).tm.nodes = vf.nodes + vx.nodes + 1 := by rw [Tv.tm_nodes]; rfl
    have hdD : (Tv.app vf vx).tm.depth = max vf.depth vx.depth + 1 := by rw [Tv.tm_depth]; rfl
    obtain ⟨NN, hNN⟩ : ∃ NN, NN = (Tv.app vf vx).tm.nodes := ⟨_, rfl⟩
    obtain ⟨DD, hDD⟩ : ∃ DD, DD = (Tv.app vf vx).tm.depth := ⟨_, rfl⟩
    have hszc := fun (o : Obj) => Lib.hid (termSize_any (Tv.app vf vx).tm.nodes (Tv.app vf vx).tm [.int .i64 4, .string bNil, .int .i64 0, .string s8, .slice A8 n8 c8, .slice B8 m8 d8] (wg.alloc o) (Lo (wg.alloc o)) (Nat.le_refl _) (by omega) (HUG.out _ ((Below.refl _ _).alloc (Nat.le_refl _) _)) (fun _ h => h))
    rw [← hNN] at hszc hnN
    rw [← hDD] at hdD
    have hnb : NN ≤ 1000 := by omega
    have hDN : DD ≤ 1000 := by have := Tree.depth_le_nodes (Tv.app vf vx).tm; omega
    have h2' : 200 < NN ∨ 40 < DD := by rw [hnN, hdD]; exact h2
    have HNN := Lib.hid hNN
    have HDD := Lib.hid hDD
    clear h1 h2 hnN hdD hNN hDD
    have HSZC := Lib.hid hszc
    clear hszc
    go_wp2_with fail
    (with_reducible refine (HSZC.out _).out.mono ?_)
    rintro e wh ⟨rfl, hwh⟩
    have zh : wg.heap.size + 1 ≤ wh.heap.size := by have := hwh.size; simpa using this
    have hBh := (HBG.out.alloc (by omega) (.cells #[.string sT, .slice AT nT cT] 24)).trans (hwh.mono (by simp; omega))
    have hgh : Below wg.heap.size wg wh := ((Below.refl _ wg).alloc (Nat.le_refl _) _).trans (hwh.mono (by simp))
    have r9 := (hgh.block _ r9_l).trans R9.out
    have r10 := (hgh.block _ r10_l).trans R10.out
    have r13 := (hgh.block _ r13_l).trans R13.out
    have c0 := (hBh.cell (p := ⟨0, 0, none⟩) hg).trans G0.out
    have c1' := (hBh.cell (p := ⟨0, 1, none⟩) hg).trans G1.out
    have lh : 0 < wh.heap.size := by omega
    clear r9_0 r9_1 r9_2 r9_3 r9_4 r9_5 r9_l r10_0 r10_1 r10_l r13_0 r13_1 r13_2 r13_3 r13_4 r13_5 r13_l
    by_cases hn2 : 200 < NN
    · clear h2'
      have HWH := Lib.hid hwh
      have HBH := Lib.hid hBh
      have HGH := Lib.hid hgh
      clear hwh hBh hgh
      have heq := Lib.hid (eqTm_any _ tmZero tmZero [.int .i64 kT, .string nmT, .int .i64 ixT, .string s7, .slice A7 n7 c7, .slice B7 m7 d7] _ wh (Lo wh) (Nat.le_refl _) (HTG.out _ HGH.out) tmZero_in (fun _ h => h))
      rw [tmBeq_self] at heq
      have HEQ := Lib.hid heq
      clear heq
      have r9_0 := cv0 r9
      have r9_1 := cv1 r9
      have r9_2 := cv2 r9
      have r9_3 := cv3 r9
      have r9_4 := cv4 r9
      have r9_5 := cv5 r9
      have r9_l := lt_heap r9
      have R9 := Lib.hid r9
      clear r9
      have r10_0 := cv0 r10
      have r10_1 := cv1 r10
      have r10_l := lt_heap r10
      have R10 := Lib.hid r10
      clear r10
      have r13_0 := cv0 r13
      have r13_1 := cv1 r13
      have r13_2 := cv2 r13
      have r13_3 := cv3 r13
      have r13_4 := cv4 r13
      have r13_5 := cv5 r13
      have r13_l := lt_heap r13
      have R13 := Lib.hid r13
      clear r13
      go_wp2_with fail
      (with_reducible refine HEQ.out.out.mono ?_)
      rintro e wj ⟨rfl, hwj⟩
      have HWJ := Lib.hid hwj
      clear hwj
      go_wp2_with fail
      go_returns
      exact ⟨rfl, HBH.out.trans (HWJ.out.mono (by omega))⟩
    have hd2 : 40 < DD := by omega
    clear h2'
    have hdpc := Lib.hid (termDepth_any (Tv.app vf vx).tm.nodes (Tv.app vf vx).tm [.int .i64 4, .string bNil, .int .i64 0, .string s8, .slice A8 n8 c8, .slice B8 m8 d8] wh (Lo wh) (Nat.le_refl _) (by have := HNN.out; omega) (HUG.out _ hgh) (fun _ h => h))
    rw [← HDD.out] at hdpc
    have HWH := Lib.hid hwh
    have HBH := Lib.hid hBh
    have HGH := Lib.hid hgh
    have HDPC := Lib.hid hdpc
    clear hwh hBh hgh hdpc
    have r9_0 := cv0 r9
    have r9_1 := cv1 r9
    have r9_2 := cv2 r9
    have r9_3 := cv3 r9
    have r9_4 := cv4 r9
    have r9_5 := cv5 r9
    have r9_l := lt_heap r9
    have R9 := Lib.hid r9
    clear r9
    have r10_0 := cv0 r10
    have r10_1 := cv1 r10
    have r10_l := lt_heap r10
    have R10 := Lib.hid r10
    clear r10
    have r13_0 := cv0 r13
    have r13_1 := cv1 r13
    have r13_2 := cv2 r13
    have r13_3 := cv3 r13
    have r13_4 := cv4 r13
    have r13_5 := cv5 r13
    have r13_l := lt_heap r13
    have R13 := Lib.hid r13
    clear r13
    go_wp2_with fail
    (with_reducible refine HDPC.out.out.mono ?_)
    rintro e wi ⟨rfl, hwi⟩
    have zi := hwi.size
    have hBi := HBH.out.trans (hwi.mono (by omega))
    have hgi := HGH.out.trans (hwi.mono (by omega))
    have r9 := (hgi.block _ (by omega)).trans ((HGH.out.block _ (by omega)).symm.trans R9.out)
    have r10 := (hgi.block _ (by omega)).trans ((HGH.out.block _ (by omega)).symm.trans R10.out)
    have r13 := (hgi.block _ (by omega)).trans ((HGH.out.block _ (by omega)).symm.trans R13.out)
    have c0 := (hBi.cell (p := ⟨0, 0, none⟩) hg).trans G0.out
    have c1' := (hBi.cell (p := ⟨0, 1, none⟩) hg).trans G1.out
    have li : 0 < wi.heap.size := by omega
    clear r9_0 r9_1 r9_2 r9_3 r9_4 r9_5 r9_l r10_0 r10_1 r10_l r13_0 r13_1 r13_2 r13_3 r13_4 r13_5 r13_l
    have HWI := Lib.hid hwi
    have HBI := Lib.hid hBi
    have HGI := Lib.hid hgi
    clear hwi hBi hgi
    have heq := Lib.hid (eqTm_any _ tmZero tmZero [.int .i64 kT, .string nmT, .int .i64 ixT, .string s7, .slice A7 n7 c7, .slice B7 m7 d7] _ wi (Lo wi) (Nat.le_refl _) (HTG.out _ HGI.out) tmZero_in (fun _ h => h))
    rw [tmBeq_self] at heq
    have HEQ := Lib.hid heq
    clear heq
    have r9_0 := cv0 r9
    have r9_1 := cv1 r9
    have r9_2 := cv2 r9
    have r9_3 := cv3 r9
    have r9_4 := cv4 r9
    have r9_5 := cv5 r9
    have r9_l := lt_heap r9
    have R9 := Lib.hid r9
    clear r9
    have r10_0 := cv0 r10
    have r10_1 := cv1 r10
    have r10_l := lt_heap r10
    have R10 := Lib.hid r10
    clear r10
    have r13_0 := cv0 r13
    have r13_1 := cv1 r13
    have r13_2 := cv2 r13
    have r13_3 := cv3 r13
    have r13_4 := cv4 r13
    have r13_5 := cv5 r13
    have r13_l := lt_heap r13
    have R13 := Lib.hid r13
    clear r13
    go_wp2_with fail
    (with_reducible refine HEQ.out.out.mono ?_)
    rintro e wj ⟨rfl, hwj⟩
    have HWJ := Lib.hid hwj
    clear hwj
    go_wp2_with fail
    go_returns
    exact ⟨rfl, HBI.out.trans (HWJ.out.mono (by omega))⟩
  · rw [h1]
    have hnN : (Tv.app vf vx).tm.nodes = vf.nodes + vx.nodes + 1 := by rw [Tv.tm_nodes]; rfl
    have hdD : (Tv.app vf vx).tm.depth = max vf.depth vx.depth + 1 := by rw [Tv.tm_depth]; rfl
    obtain ⟨NN, hNN⟩ : ∃ NN, NN = (Tv.app vf vx).tm.nodes := ⟨_, rfl⟩
    obtain ⟨DD, hDD⟩ : ∃ DD, DD = (Tv.app vf vx).tm.depth := ⟨_, rfl⟩
    have hszc := fun (o : Obj) => Lib.hid (termSize_any (Tv.app vf vx).tm.nodes (Tv.app vf vx).tm [.int .i64 4, .string bNil, .int .i64 0, .string s8, .slice A8 n8 c8, .slice B8 m8 d8] (wg.alloc o) (Lo (wg.alloc o)) (Nat.le_refl _) (by omega) (HUG.out _ ((Below.refl _ _).alloc (Nat.le_refl _) _)) (fun _ h => h))
    rw [← hNN] at hszc hnN
    rw [← hDD] at hdD
    have hnb : NN ≤ 1000 := by omega
    have hDN : DD ≤ 1000 := by have := Tree.depth_le_nodes (Tv.app vf vx).tm; omega
    have h2' : ¬ (200 < NN ∨ 40 < DD) := by rw [hnN, hdD]; exact h2
    have HNN := Lib.hid hNN
    have HDD := Lib.hid hDD
    clear h1 h2 hnN hdD hNN hDD
    have HSZC := Lib.hid hszc
    clear hszc
    go_wp2_with fail
    (with_reducible refine (HSZC.out _).out.mono ?_)
    rintro e wh ⟨rfl, hwh⟩
    have zh : wg.heap.size + 1 ≤ wh.heap.size := by have := hwh.size; simpa using this
    have hBh := (HBG.out.alloc (by omega) (.cells #[.string sT, .slice AT nT cT] 24)).trans (hwh.mono (by simp; omega))
    have hgh : Below wg.heap.size wg wh := ((Below.refl _ wg).alloc (Nat.le_refl _) _).trans (hwh.mono (by simp))
    have r9 := (hgh.block _ r9_l).trans R9.out
    have r10 := (hgh.block _ r10_l).trans R10.out
    have r13 := (hgh.block _ r13_l).trans R13.out
    have c0 := (hBh.cell (p := ⟨0, 0, none⟩) hg).trans G0.out
    have c1' := (hBh.cell (p := ⟨0, 1, none⟩) hg).trans G1.out
    have lh : 0 < wh.heap.size := by omega
    clear r9_0 r9_1 r9_2 r9_3 r9_4 r9_5 r9_l r10_0 r10_1 r10_l r13_0 r13_1 r13_2 r13_3 r13_4 r13_5 r13_l
    have hn2 : ¬ 200 < NN := by omega
    have hd2 : ¬ 40 < DD := by omega
    clear h2'
    have hdpc := Lib.hid (termDepth_any (Tv.app vf vx).tm.nodes (Tv.app vf vx).tm [.int .i64 4, .string bNil, .int .i64 0, .string s8, .slice A8 n8 c8, .slice B8 m8 d8] wh (Lo wh) (Nat.le_refl _) (by have := HNN.out; omega) (HUG.out _ hgh) (fun _ h => h))
    rw [← HDD.out] at hdpc
    have HWH := Lib.hid hwh
    have HBH := Lib.hid hBh
    have HGH := Lib.hid hgh
    have HDPC := Lib.hid hdpc
    clear hwh hBh hgh hdpc
    have r9_0 := cv0 r9
    have r9_1 := cv1 r9
    have r9_2 := cv2 r9
    have r9_3 := cv3 r9
    have r9_4 := cv4 r9
    have r9_5 := cv5 r9
    have r9_l := lt_heap r9
    have R9 := Lib.hid r9
    clear r9
    have r10_0 := cv0 r10
    have r10_1 := cv1 r10
    have r10_l := lt_heap r10
    have R10 := Lib.hid r10
    clear r10
    have r13_0 := cv0 r13
    have r13_1 := cv1 r13
    have r13_2 := cv2 r13
    have r13_3 := cv3 r13
    have r13_4 := cv4 r13
    have r13_5 := cv5 r13
    have r13_l := lt_heap r13
    have R13 := Lib.hid r13
    clear r13
    go_wp2_with fail
    (with_reducible refine HDPC.out.out.mono ?_)
    rintro e wi ⟨rfl, hwi⟩
    have zi := hwi.size
    have hBi := HBH.out.trans (hwi.mono (by omega))
    have hgi := HGH.out.trans (hwi.mono (by omega))
    have r9 := (hgi.block _ (by omega)).trans ((HGH.out.block _ (by omega)).symm.trans R9.out)
    have r10 := (hgi.block _ (by omega)).trans ((HGH.out.block _ (by omega)).symm.trans R10.out)
    have r13 := (hgi.block _ (by omega)).trans ((HGH.out.block _ (by omega)).symm.trans R13.out)
    have c0 := (hBi.cell (p := ⟨0, 0, none⟩) hg).trans G0.out
    have c1' := (hBi.cell (p := ⟨0, 1, none⟩) hg).trans G1.out
    have li : 0 < wi.heap.size := by omega
    clear r9_0 r9_1 r9_2 r9_3 r9_4 r9_5 r9_l r10_0 r10_1 r10_l r13_0 r13_1 r13_2 r13_3 r13_4 r13_5 r13_l
    have heq := Lib.hid (eqTm_any _ (Tv.app vf vx).tm (Tv.app vf vx).tm [.int .i64 kT, .string nmT, .int .i64 ixT, .string s7, .slice A7 n7 c7, .slice B7 m7 d7] [.int .i64 4, .string bNil, .int .i64 0, .string s8, .slice A8 n8 c8, .slice B8 m8 d8] wi (Lo wi) (Nat.le_refl _) (HTG.out _ hgi) (HUG.out _ hgi) (fun _ h => h))
    rw [tmBeq_self] at heq
    have HWI := Lib.hid hwi
    have HBI := Lib.hid hBi
    have HGI := Lib.hid hgi
    have HEQ := Lib.hid heq
    clear hwi hBi hgi heq
    have r9_0 := cv0 r9
    have r9_1 := cv1 r9
    have r9_2 := cv2 r9
    have r9_3 := cv3 r9
    have r9_4 := cv4 r9
    have r9_5 := cv5 r9
    have r9_l := lt_heap r9
    have R9 := Lib.hid r9
    clear r9
    have r10_0 := cv0 r10
    have r10_1 := cv1 r10
    have r10_l := lt_heap r10
    have R10 := Lib.hid r10
    clear r10
    have r13_0 := cv0 r13
    have r13_1 := cv1 r13
    have r13_2 := cv2 r13
    have r13_3 := cv3 r13
    have r13_4 := cv4 r13
    have r13_5 := cv5 r13
    have r13_l := lt_heap r13
    have R13 := Lib.hid r13
    clear r13
    go_wp2_with fail
    (with_reducible refine HEQ.out.out.mono ?_)
    rintro e wj ⟨rfl, hwj⟩
    have HWJ := Lib.hid hwj
    clear hwj
    go_wp2_with fail
    go_returns
    exact ⟨rfl, HBI.out.trans (HWJ.out.mono (by omega))⟩

end Go.Proofs.YthflahcnkhmpaaaDoor
