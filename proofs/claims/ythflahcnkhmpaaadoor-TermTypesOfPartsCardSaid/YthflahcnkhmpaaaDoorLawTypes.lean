/-
  The law TermTypesOfParts: the walk.
-/
import Derived.Test.YthflahcnkhmpaaaDoorProg
import Derived.Test.YthflahcnkhmpaaaDoorMakers
import Derived.Test.YthflahcnkhmpaaaDoorEqTy
import Derived.Test.YthflahcnkhmpaaaDoorLam
namespace Go.Proofs.YthflahcnkhmpaaaDoor
open Go Go.RowKit

/-- Apply has returned a fault. -/
def BadTm (e : Ending) : Prop := ∃ c i : Int, c ≠ 0 ∧ e = .returned (.tuple #[.agg zTm, .agg #[.int .i64 c, .int .i64 i]])
/-- Apply has returned a term. -/
def GoodTm (f x : Tm) (w : World) (e : Ending) (w' : World) : Prop := ∃ (vf vx : Tv) (a b : Sy) (ds : List Value), f = vf.tm ∧ x = vx.tm ∧ vf.ok 0 ∧ vx.ok 0 ∧ vf.nodes + vx.nodes + 1 ≤ 200 ∧ max vf.depth vx.depth + 1 ≤ 40 ∧ vf.typ [] = some (.fn a b) ∧ vx.typ [] = some a ∧
  e = .returned (.tuple #[.agg ds.toArray, .agg #[.int .i64 0, .int .i64 0]]) ∧ tmRep.R w' (Fresh w w') (Tv.app vf vx).tm ds
theorem ApplyAt.cases {f x : Tm} {w w' : World} {e : Ending} (h : ApplyAt f x w e w') : BadTm e ∨ GoodTm f x w e w' := by
  obtain ⟨h1, h2, h3, _⟩ := h
  by_cases hf : (tmFault f).1 = 0
  case neg => exact Or.inl ⟨_, _, by omega, h1 hf⟩
  by_cases hx : (tmFault x).1 = 0
  case neg => exact Or.inl ⟨_, _, by omega, h2 hf hx⟩
  obtain ⟨vf, sf, rfl, of, nf, df, tf, _⟩ := tmFault_zero hf
  obtain ⟨vx, sx, rfl, ox, nx, dx, tx, _⟩ := tmFault_zero hx
  have h4 := h3 vf vx rfl rfl hf hx
  unfold ApplyRes at h4
  split at h4
  · exact Or.inl ⟨_, _, by omega, h4⟩
  split at h4
  · exact Or.inl ⟨_, _, by omega, h4⟩
  rename_i h5 h6
  obtain ⟨b, hb⟩ := Option.isSome_iff_exists.1 (by cases h : (Tv.typ [] (.app vf vx)).isSome <;> simp_all : (Tv.typ [] (.app vf vx)).isSome = true)
  obtain ⟨a, t1, t2⟩ := Tv.typ_app hb
  obtain ⟨ds, e1, e2⟩ := h4
  exact Or.inr ⟨vf, vx, a, b, ds, rfl, rfl, of, ox, by omega, by omega, t1, t2, e1, e2⟩

theorem Sy.e_fault : Sy.e.ty.fault = 0 := by unfold Ty.fault; rw [Sy.val_ok .e 1 0 (by decide) (by decide)]
theorem tvId_ok : tvId.ok 0 := ⟨Sy.e_fault, by simp [Tv.ok]⟩
theorem tvId_typ : Tv.typ [] tvId = some (.fn .e .e) := rfl

theorem Lo.lt {w : World} : ∀ b, Lo w b → b < w.heap.size := fun _ h => h
theorem base_e (W : World) : Calls Tryd.prog 18 #[.string ⟨#[101]⟩] W fun e w' => e = .returned (.agg #[.string ⟨#[101]⟩, .slice none 0 0]) ∧ Below W.heap.size W w' :=
  (base_any _ W (by decide +kernel)).mono fun _ _ h => ⟨h.1, h.2.2⟩
theorem bE_in {W : World} {S : Nat → Prop} : (Ty.mk bE []).In W S (.string ⟨#[101]⟩) (.slice none 0 0) := Ty.In.mk_ (by decide +kernel) rfl (by decide) (by omega)
theorem to_ee (W : World) : Calls Tryd.prog 16 #[.agg #[.string ⟨#[101]⟩, .slice none 0 0], .agg #[.string ⟨#[101]⟩, .slice none 0 0]] W fun e w' => ∃ v0 v1, e = .returned (.agg #[v0, v1]) ∧ (Sy.fn .e .e).ty.In w' (Lo w') v0 v1 ∧ Below W.heap.size W w' :=
  (to_any (.mk bE []) (.mk bE []) _ _ _ _ W (Lo W) bE_in bE_in (fun _ h => h)).mono fun _ w' h => by
    obtain ⟨v0, v1, h1, h2, h3⟩ := h
    have := h3.size
    exact ⟨v0, v1, h1, h2.mono (fun b hb => by rcases hb with hb | hb; have h' : b < W.heap.size := hb; exact (show b < w'.heap.size by omega); exact hb.2), h3⟩

set_option maxRecDepth 100000 in
set_option maxHeartbeats 3200000 in
theorem typesLaw_any (f : Tm) (cs : List Value) (x : Tm) (ds : List Value) (w : World) (S : Nat → Prop) (hf : tmRep.R w S f cs) (hx : tmRep.R w S x ds) (hS : ∀ b, S b → b < w.heap.size)
    (g0 : w.cell? ⟨0, 0, none⟩ = some (.int .i64 0)) (g1 : w.cell? ⟨0, 1, none⟩ = some (.int .i64 0)) :
    Calls Tryd.prog 10 #[.agg cs.toArray, .agg ds.toArray] w fun e w' => e = .returned (.bool true) ∧ Below w.heap.size w w' := by
  obtain ⟨s1, A1, n1, c1, B1, m1, d1, rfl, _, _⟩ := Tm.shape hf
  obtain ⟨s2, A2, n2, c2, B2, m2, d2, rfl, _, _⟩ := Tm.shape hx
  have hg := World.block_lt_of_cell? w _ g0
  have HF := Lib.hid hf
  have HX := Lib.hid hx
  have HS := Lib.hid hS
  have G0 := Lib.hid g0
  have G1 := Lib.hid g1
  clear hf hx hS g0 g1
  go_enter Tryd.func10, Tryd.ntmps10
  go_wp2_with fail
  (with_reducible refine (identity_any _).mono ?_)
  rintro e w1 ⟨es, rfl, h1, hw1⟩
  obtain ⟨s3, A3, n3, c3, B3, m3, d3, rfl, _, _⟩ := Tm.shape h1
  have z1 : w.heap.size + 2 ≤ w1.heap.size := by have := hw1.size; simpa using this
  have p0 := (hw1.block w.heap.size (by simp; omega)).trans (heap_old (by simp) (heap_at rfl))
  have p1 := (hw1.block (w.heap.size + 1) (by simp)).trans (heap_at (by simp))
  have hB1 : Below w.heap.size w w1 := (((Below.refl _ w).alloc (Nat.le_refl _) _).alloc (by simp) _).trans (hw1.mono (by simp; omega))
  have hty1 := Lib.hid (type_ok tvId (.fn .e .e) _ w1 _ h1 (fun k hk => hk.2) tvId_ok (by decide) (by decide) tvId_typ)
  have HW1 := Lib.hid hw1
  have H1 := Lib.hid h1
  have HB1 := Lib.hid hB1
  clear hw1 h1 hB1
  have p0_0 := cv0 p0
  have p0_1 := cv1 p0
  have p0_2 := cv2 p0
  have p0_3 := cv3 p0
  have p0_4 := cv4 p0
  have p0_5 := cv5 p0
  have p0_l := lt_heap p0
  have P0 := Lib.hid p0
  clear p0
  have p1_0 := cv0 p1
  have p1_1 := cv1 p1
  have p1_2 := cv2 p1
  have p1_3 := cv3 p1
  have p1_4 := cv4 p1
  have p1_5 := cv5 p1
  have p1_l := lt_heap p1
  have P1 := Lib.hid p1
  clear p1
  go_wp2_with fail
  (with_reducible refine hty1.out.mono ?_)
  rintro e w2 ⟨v0, v1, rfl, h2, hw2⟩
  obtain ⟨sT, AT, nT, cT, rfl, rfl⟩ := h2.shape
  have z2 : w1.heap.size ≤ w2.heap.size := hw2.size
  have p0 := (hw2.block _ p0_l).trans P0.out
  have p1 := (hw2.block _ p1_l).trans P1.out
  have hB2 := HB1.out.trans (hw2.mono (by omega))
  clear p0_0 p0_1 p0_2 p0_3 p0_4 p0_5 p1_0 p1_1 p1_2 p1_3 p1_4 p1_5 hty1 p0_l p1_l
  have c0 := (hB2.cell (p := ⟨0, 0, none⟩) hg).trans G0.out
  have c1' := (hB2.cell (p := ⟨0, 1, none⟩) hg).trans G1.out
  have l1 : 0 < w2.heap.size := by omega
  have H2 := Lib.hid (h2.mono (S' := Lo w2) (fun b hb => hb.2))
  clear hw2 h2
  have HB2 := Lib.hid hB2
  clear hB2
  have p0_0 := cv0 p0
  have p0_1 := cv1 p0
  have p0_2 := cv2 p0
  have p0_3 := cv3 p0
  have p0_4 := cv4 p0
  have p0_5 := cv5 p0
  have p0_l := lt_heap p0
  have P0 := Lib.hid p0
  clear p0
  have p1_0 := cv0 p1
  have p1_1 := cv1 p1
  have p1_2 := cv2 p1
  have p1_3 := cv3 p1
  have p1_4 := cv4 p1
  have p1_5 := cv5 p1
  have p1_l := lt_heap p1
  have P1 := Lib.hid p1
  clear p1
  go_wp2_with fail
  have hB := ((HB2.out.alloc (by omega) (.cells #[.string sT, .slice AT nT cT] 24)).alloc (by simp; omega) (.cells #[.int .i64 0, .int .i64 0] 26))
  have hL2 : ∀ w' : World, Below (w2.heap.size + 2) ((w2.alloc (.cells #[.string sT, .slice AT nT cT] 24)).alloc (.cells #[.int .i64 0, .int .i64 0] 26)) w' → (Sy.fn .e .e).ty.In w' (Lo w') (.string sT) (.slice AT nT cT) := fun w' hb =>
    Ty.In_keep (fun b hb' => by have h' : b < w2.heap.size := hb'; exact (hb.block b (by omega)).trans (heap_old (by simp; omega) (heap_old h' rfl))) (fun b hb' => by have h' : b < w2.heap.size := hb'; have := hb.size; simp at this; exact (show b < w'.heap.size by omega)) _ _ _ H2.out
  have HL2 := Lib.hid hL2
  have HB := Lib.hid hB
  clear hL2 hB
  go_region_held3 (fun w' => w'.cell? ⟨w2.heap.size + 1, 0, none⟩ = some (.int .i64 0) ∧ w'.cell? ⟨w2.heap.size + 1, 1, none⟩ = some (.int .i64 0) ∧ w'.cell? ⟨0, 0, none⟩ = some (.int .i64 0) ∧ w'.cell? ⟨0, 1, none⟩ = some (.int .i64 0) ∧ w'.cell? ⟨w2.heap.size, 0, none⟩ = some (.string sT) ∧ w'.cell? ⟨w2.heap.size, 1, none⟩ = some (.slice AT nT cT))
    ((first | (go_keep; done) | (go_split_ands; (repeat' apply And.intro) <;> (refine (kc6 _ _ (by omega)).trans ?_; assumption)) | (go_split_ands; (repeat' apply And.intro) <;> (refine (kc5 _ _ (by omega)).trans ?_; assumption)) | (go_split_ands; (repeat' apply And.intro) <;> (refine (kc4 _ _ (by omega)).trans ?_; assumption)) | (go_split_ands; (repeat' apply And.intro) <;> (refine (kc3 _ _ (by omega)).trans ?_; assumption))))
    (first
      | ((with_reducible refine (base_e _).mono ?_); (first | (have hh := kc3; clear hh; rintro e w4 ⟨rfl, hw4⟩; have z4 : w3.heap.size ≤ w4.heap.size := (by have := hw4.size; simpa using this); have kc4 : ∀ k q, k < w3.heap.size → w4.cell? ⟨k, q, none⟩ = _ := (fun k q h => hw4.cell (p := ⟨k, q, none⟩) (by simpa using h)); have HW4 := Lib.hid hw4; clear hw4) | (rintro e w3 ⟨rfl, hw3⟩; have z3 : w2.heap.size + 2 ≤ w3.heap.size := (by have := hw3.size; simpa using this); have kc3 : ∀ k q, k < w2.heap.size + 2 → w3.cell? ⟨k, q, none⟩ = _ := (fun k q h => hw3.cell (p := ⟨k, q, none⟩) (by simp; omega)); have HW3 := Lib.hid hw3; clear hw3)))
      | ((with_reducible refine (to_ee w4).mono ?_); rintro e w5 ⟨u0, u1, rfl, h5, hw5⟩; obtain ⟨s5, A5, n5, c5, rfl, rfl⟩ := h5.shape; have z5 : w4.heap.size ≤ w5.heap.size := hw5.size; have kc5 : ∀ k q, k < w4.heap.size → w5.cell? ⟨k, q, none⟩ = _ := (fun k q h => hw5.cell (p := ⟨k, q, none⟩) h); have H5 := Lib.hid h5; have HW5 := Lib.hid hw5; clear hw5 h5)
      | (have hq := eqTy_any _ (Sy.fn .e .e).ty (Sy.fn .e .e).ty _ _ _ _ w5 (Lo w5) (Nat.le_refl _) (HL2.out _ (((Below.refl _ _).drew.trans (HW3.out.mono (by simp))).trans ((HW4.out.mono (by omega)).trans (HW5.out.mono (by omega))))) H5.out (fun _ h => h); rw [Ty.beq_self] at hq; (with_reducible refine hq.mono ?_); clear hq; rintro e w6 ⟨rfl, hw6⟩; have kc6 : ∀ k q, k < w5.heap.size → w6.cell? ⟨k, q, none⟩ = _ := (fun k q h => hw6.cell (p := ⟨k, q, none⟩) h); have z6 := hw6.size; have HW6 := Lib.hid hw6; clear hw6))
  have hk26 : ∀ k, k < w2.heap.size → w6.heap[k]? = w2.heap[k]? := fun k hk => (HW6.out.block k (by omega)).trans ((HW5.out.block k (by omega)).trans ((HW4.out.block k (by first | omega | (simp; omega))).trans ((HW3.out.block k (by simp; omega)).trans (heap_drew (heap_old (by simp; omega) (heap_old hk rfl))))))
  have hB6 : Below w.heap.size w w6 := (((HB.out.drew).trans (HW3.out.mono (by simp; omega))).trans (HW4.out.mono (by first | omega | (simp; omega)))).trans ((HW5.out.mono (by omega)).trans (HW6.out.mono (by omega)))
  have z26 : w2.heap.size + 2 ≤ w6.heap.size := by omega
  have p0 := (hk26 _ p0_l).trans P0.out
  have p1 := (hk26 _ p1_l).trans P1.out
  clear p0_0 p0_1 p0_2 p0_3 p0_4 p0_5 p1_0 p1_1 p1_2 p1_3 p1_4 p1_5 p0_l p1_l kc3 kc4 kc5 kc6 c0 c1' l1 hk26 z3 z4 z5 z6
  have hS6 : ∀ k, S k → w6.heap[k]? = w.heap[k]? := fun k hk => hB6.block k (HS.out k hk)
  have hap := apply_any f x [.int .i64 f.lab.kind, .string f.lab.nm, .int .i64 f.lab.ix, .string s1, .slice A1 n1 c1, .slice B1 m1 d1] [.int .i64 x.lab.kind, .string x.lab.nm, .int .i64 x.lab.ix, .string s2, .slice A2 n2 c2, .slice B2 m2 d2] w6 S (tmRep.keep HF.out hS6 (fun _ h => h)) (tmRep.keep HX.out hS6 (fun _ h => h)) (fun k hk => by have := HS.out k hk; omega)
  have HB6 := Lib.hid hB6
  have HAP := Lib.hid hap
  have HS6 := Lib.hid hS6
  clear hB6 hap hS6
  have p0_0 := cv0 p0
  have p0_1 := cv1 p0
  have p0_2 := cv2 p0
  have p0_3 := cv3 p0
  have p0_4 := cv4 p0
  have p0_5 := cv5 p0
  have p0_l := lt_heap p0
  have P0 := Lib.hid p0
  clear p0
  have p1_0 := cv0 p1
  have p1_1 := cv1 p1
  have p1_2 := cv2 p1
  have p1_3 := cv3 p1
  have p1_4 := cv4 p1
  have p1_5 := cv5 p1
  have p1_l := lt_heap p1
  have P1 := Lib.hid p1
  clear p1
  go_wp2_with fail
  (with_reducible refine HAP.out.mono ?_)
  rintro e w7 hr
  have hw7 : Below w6.heap.size w6 w7 := hr.2.2.2
  have z7 : w6.heap.size ≤ w7.heap.size := hw7.size
  have hB7 := HB6.out.trans (hw7.mono (by omega))
  have c0 := (hB7.cell (p := ⟨0, 0, none⟩) hg).trans G0.out
  have c1' := (hB7.cell (p := ⟨0, 1, none⟩) hg).trans G1.out
  have l7 : 0 < w7.heap.size := by omega
  have l7b : 0 < w7.heap.size + 1 := by omega
  have p0 := (hw7.block _ p0_l).trans P0.out
  have p1 := (hw7.block _ p1_l).trans P1.out
  clear p0_0 p0_1 p0_2 p0_3 p0_4 p0_5 p1_0 p1_1 p1_2 p1_3 p1_4 p1_5 p0_l p1_l
  rcases hr.cases with ⟨c, i, hc, rfl⟩ | ⟨vf, vx, a, b, ds, rfl, rfl, of, ox, nn, dd, tf, tx, rfl, hu⟩
  · have hc' : (c == 0) = false := beq_eq_false_iff_ne.2 hc
    clear hr hc
    have HW7 := Lib.hid hw7
    have HB7 := Lib.hid hB7
    have P0 := Lib.hid p0
    have P1 := Lib.hid p1
    clear hw7 hB7 p0 p1
    unfold zTm
    go_wp2_with fail
    go_returns
    exact ⟨rfl, (HB7.out.alloc (by omega) _).alloc (by simp; omega) _⟩
  obtain ⟨s7, A7, n7, c7, B7, m7, d7, rfl, _, _⟩ := Tm.shape hu
  have hSw : ∀ k, S k → k < w7.heap.size := fun k hk => by have := HS.out k hk; omega
  have hS7 : ∀ k, S k → w7.heap[k]? = w.heap[k]? := fun k hk => hB7.block k (HS.out k hk)
  have hT1 := fun (o p : Obj) => Lib.hid (type_ok vf (.fn a b) [.int .i64 vf.tm.lab.kind, .string vf.tm.lab.nm, .int .i64 vf.tm.lab.ix, .string s1, .slice A1 n1 c1, .slice B1 m1 d1] ((w7.alloc o).alloc p) S (tmRep.keep HF.out (fun k hk => heap_old (by have := hSw k hk; simp; omega) (heap_old (hSw k hk) (hS7 k hk))) (fun _ h => h)) (fun k hk => by have := hSw k hk; simp; omega) of (by omega) (by omega) tf)
  have hu' := tmRep.keep (S' := Lo w7) hu (fun _ _ => rfl) (fun k hk => hk.2)
  have HR := Lib.hid hr
  have HW7 := Lib.hid hw7
  have HB7 := Lib.hid hB7
  have HU := Lib.hid hu
  have HUP := Lib.hid hu'
  have HT1 := Lib.hid hT1
  have HSW := Lib.hid hSw
  have HS7 := Lib.hid hS7
  clear hr hw7 hB7 hu hu' hT1 hSw hS7
  have HTF := Lib.hid tf
  have HTX := Lib.hid tx
  have HOX := Lib.hid ox
  have HOF := Lib.hid of
  clear tf tx ox of
  have p0_0 := cv0 p0
  have p0_1 := cv1 p0
  have p0_2 := cv2 p0
  have p0_3 := cv3 p0
  have p0_4 := cv4 p0
  have p0_5 := cv5 p0
  have p0_l := lt_heap p0
  have P0 := Lib.hid p0
  clear p0
  have p1_0 := cv0 p1
  have p1_1 := cv1 p1
  have p1_2 := cv2 p1
  have p1_3 := cv3 p1
  have p1_4 := cv4 p1
  have p1_5 := cv5 p1
  have p1_l := lt_heap p1
  have P1 := Lib.hid p1
  clear p1
  go_wp2_with fail
  (with_reducible refine (HT1.out _ _).out.mono ?_)
  rintro e w8 ⟨v0, v1, rfl, h8, hw8⟩
  have z8 : w7.heap.size + 2 ≤ w8.heap.size := by have := hw8.size; simpa using this
  have hB8 := ((HB7.out.alloc (by omega) (.cells #[.int .i64 (Tv.app vf vx).tm.lab.kind, .string (Tv.app vf vx).tm.lab.nm, .int .i64 (Tv.app vf vx).tm.lab.ix, .string s7, .slice A7 n7 c7, .slice B7 m7 d7] 49)).alloc (by simp; omega) (.cells #[.int .i64 0, .int .i64 0] 26)).trans (hw8.mono (by simp; omega))
  have p1 := (hw8.block _ (by simp; omega)).trans (heap_old (by simp; omega) (heap_old p1_l P1.out))
  have p7 := (hw8.block w7.heap.size (by simp <;> omega)).trans (heap_old (by simp) (heap_at rfl))
  have c0 := (hB8.cell (p := ⟨0, 0, none⟩) hg).trans G0.out
  have c1' := (hB8.cell (p := ⟨0, 1, none⟩) hg).trans G1.out
  have l8 : 0 < w8.heap.size := by omega
  have l8b : w.heap.size < w8.heap.size := by omega
  have hSw8 : ∀ k, S k → k < w8.heap.size := fun k hk => by have := HS.out k hk; omega
  have hS8 : ∀ k, S k → w8.heap[k]? = w.heap[k]? := fun k hk => hB8.block k (HS.out k hk)
  have hT2 := fun (o p : Obj) => Lib.hid (type_ok vx a [.int .i64 vx.tm.lab.kind, .string vx.tm.lab.nm, .int .i64 vx.tm.lab.ix, .string s2, .slice A2 n2 c2, .slice B2 m2 d2] ((w8.alloc o).alloc p) S (tmRep.keep HX.out (fun k hk => heap_old (by have := hSw8 k hk; simp; omega) (heap_old (hSw8 k hk) (hS8 k hk))) (fun _ h => h)) (fun k hk => by have := hSw8 k hk; simp; omega) HOX.out (by omega) (by omega) HTX.out)
  have hk78 : ∀ k, k < w7.heap.size → w8.heap[k]? = w7.heap[k]? := fun k hk => (hw8.block k (by simp; omega)).trans (heap_old (by simp; omega) (heap_old hk rfl))
  have hu8 : tmRep.R w8 (Lo w7) (Tv.app vf vx).tm [.int .i64 (Tv.app vf vx).tm.lab.kind, .string (Tv.app vf vx).tm.lab.nm, .int .i64 (Tv.app vf vx).tm.lab.ix, .string s7, .slice A7 n7 c7, .slice B7 m7 d7] := tmRep.keep HUP.out hk78 (fun _ h => h)
  obtain ⟨bF, oF, cF, x0, x1, y0, y1, rfl, rfl, hSF, k0, k1, k2, k3, hInA, hInB⟩ := Sy.In_fn h8
  obtain ⟨sx, Ax, nx, cx, rfl, rfl⟩ := hInA.shape
  obtain ⟨sy, Ay, ny, cy, rfl, rfl⟩ := hInB.shape
  have hbF : bF < w8.heap.size := hSF.2
  have HIA := Lib.hid (hInA.mono (S' := Lo w8) (fun k hk => hk.2))
  have HIB := Lib.hid (hInB.mono (S' := Lo w8) (fun k hk => hk.2))
  have K0 := Lib.hid k0
  have K1 := Lib.hid k1
  have K2 := Lib.hid k2
  have K3 := Lib.hid k3
  clear p0_0 p0_1 p0_2 p0_3 p0_4 p0_5 p1_0 p1_1 p1_2 p1_3 p1_4 p1_5 p0_l p1_l h8 hInA hInB hSF k0 k1 k2 k3
  have HW8 := Lib.hid hw8
  have HB8 := Lib.hid hB8
  have HSW8 := Lib.hid hSw8
  have HS8 := Lib.hid hS8
  have HT2 := Lib.hid hT2
  have HK78 := Lib.hid hk78
  have HU8 := Lib.hid hu8
  clear hw8 hB8 hSw8 hS8 hT2 hk78 hu8
  have p1_0 := cv0 p1
  have p1_1 := cv1 p1
  have p1_2 := cv2 p1
  have p1_3 := cv3 p1
  have p1_4 := cv4 p1
  have p1_5 := cv5 p1
  have p1_l := lt_heap p1
  have P1 := Lib.hid p1
  clear p1
  have p7_0 := cv0 p7
  have p7_1 := cv1 p7
  have p7_2 := cv2 p7
  have p7_3 := cv3 p7
  have p7_4 := cv4 p7
  have p7_5 := cv5 p7
  have p7_l := lt_heap p7
  have P7 := Lib.hid p7
  clear p7
  go_wp2_with fail
  (with_reducible refine (HT2.out _ _).out.mono ?_)
  rintro e w9 ⟨v0, v1, rfl, h9, hw9⟩
  obtain ⟨s9, A9, n9, c9, rfl, rfl⟩ := h9.shape
  have z9 : w8.heap.size + 2 ≤ w9.heap.size := by have := hw9.size; simpa using this
  have hB9 := ((HB8.out.alloc (by omega) (.cells #[.string bNil, .slice (some ⟨bF, oF, none⟩) 2 cF] 24)).alloc (by simp; omega) (.cells #[.int .i64 0, .int .i64 0] 26)).trans (hw9.mono (by simp; omega))
  have p7 := (hw9.block _ (by simp; omega)).trans (heap_old (by simp; omega) (heap_old p7_l P7.out))
  have q9 := (hw9.block w8.heap.size (by simp <;> omega)).trans (heap_old (by simp) (heap_at rfl))
  have q10 := (hw9.block (w8.heap.size + 1) (by simp)).trans (heap_at (by simp))
  have hk89 : ∀ k, k < w8.heap.size → w9.heap[k]? = w8.heap[k]? := fun k hk => (hw9.block k (by simp; omega)).trans (heap_old (by simp; omega) (heap_old hk rfl))
  have hT3 := fun (o p : Obj) => Lib.hid (type_ok (.app vf vx) b [.int .i64 (Tv.app vf vx).tm.lab.kind, .string (Tv.app vf vx).tm.lab.nm, .int .i64 (Tv.app vf vx).tm.lab.ix, .string s7, .slice A7 n7 c7, .slice B7 m7 d7] ((w9.alloc o).alloc p) (Lo w7) (tmRep.keep HU8.out (fun k hk => by have h' : k < w7.heap.size := hk; exact heap_old (by simp; omega) (heap_old (by omega) (hk89 k (by omega)))) (fun _ h => h)) (fun k hk => by have h' : k < w7.heap.size := hk; simp; omega) ⟨HOF.out, HOX.out⟩ (by simp only [Tv.nodes]; omega) (by simp only [Tv.depth]; omega) (Tv.typ_app_mk HTF.out HTX.out))
  have H9 := Lib.hid (h9.mono (S' := Lo w9) (fun k hk => hk.2))
  clear p1_0 p1_1 p1_2 p1_3 p1_4 p1_5 p1_l p7_0 p7_1 p7_2 p7_3 p7_4 p7_5 p7_l c0 c1' h9
  have HW9 := Lib.hid hw9
  have HB9 := Lib.hid hB9
  have HK89 := Lib.hid hk89
  have HT3 := Lib.hid hT3
  have Q9 := Lib.hid q9
  have Q10 := Lib.hid q10
  clear hw9 hB9 hk89 hT3 q9 q10
  have p7_0 := cv0 p7
  have p7_1 := cv1 p7
  have p7_2 := cv2 p7
  have p7_3 := cv3 p7
  have p7_4 := cv4 p7
  have p7_5 := cv5 p7
  have p7_l := lt_heap p7
  have P7 := Lib.hid p7
  clear p7
  go_wp2_with fail
  (with_reducible refine (HT3.out _ _).out.mono ?_)
  rintro e w10 ⟨v0, v1, rfl, h10, hw10⟩
  obtain ⟨s10, A10, n10, c10, rfl, rfl⟩ := h10.shape
  have z10 : w9.heap.size + 2 ≤ w10.heap.size := by have := hw10.size; simpa using this
  have hB10 := ((HB9.out.alloc (by omega) (.cells #[.string s9, .slice A9 n9 c9] 24)).alloc (by simp; omega) (.cells #[.int .i64 0, .int .i64 0] 26)).trans (hw10.mono (by simp; omega))
  have hk910 : ∀ k, k < w9.heap.size → w10.heap[k]? = w9.heap[k]? := fun k hk => (hw10.block k (by simp; omega)).trans (heap_old (by simp; omega) (heap_old hk rfl))
  have q9 := (hk910 w8.heap.size (by omega)).trans Q9.out
  have q10 := (hk910 (w8.heap.size + 1) (by omega)).trans Q10.out
  have q11 := (hw10.block w9.heap.size (by simp <;> omega)).trans (heap_old (by simp) (heap_at rfl))
  have q12 := (hw10.block (w9.heap.size + 1) (by simp)).trans (heap_at (by simp))
  have hkF := (hk910 bF (by omega)).trans (HK89.out bF hbF)
  have e0 := (cell_keep hkF oF).trans K0.out
  have e1 := (cell_keep hkF (oF + 1)).trans K1.out
  have e2 := (cell_keep hkF (oF + 2)).trans K2.out
  have e3 := (cell_keep hkF (oF + 2 + 1)).trans K3.out
  have c0 := (hB10.cell (p := ⟨0, 0, none⟩) hg).trans G0.out
  have c1' := (hB10.cell (p := ⟨0, 1, none⟩) hg).trans G1.out
  have l10 : 0 < w10.heap.size := by omega
  have l10b : 0 < w10.heap.size + 1 := by omega
  have l10e : w8.heap.size < w10.heap.size := by omega
  have l10f : w9.heap.size < w10.heap.size := by omega
  have l10g : w8.heap.size + 1 < w10.heap.size + 1 := by omega
  have l10c : bF < w10.heap.size := by omega
  have l10d : bF < w10.heap.size + 1 := by omega
  have HIA10 := Lib.hid (Ty.In_keep (S' := Lo w10) (fun k hk => by have h' : k < w8.heap.size := hk; exact (hk910 k (by omega)).trans (HK89.out k h')) (fun k hk => by have h' : k < w8.heap.size := hk; exact (show k < w10.heap.size by omega)) _ _ _ HIA.out)
  have HIB10 := Lib.hid (Ty.In_keep (S' := Lo w10) (fun k hk => by have h' : k < w8.heap.size := hk; exact (hk910 k (by omega)).trans (HK89.out k h')) (fun k hk => by have h' : k < w8.heap.size := hk; exact (show k < w10.heap.size by omega)) _ _ _ HIB.out)
  have H9P := Lib.hid (Ty.In_keep (S' := Lo w10) (fun k hk => hk910 k hk) (fun k hk => by have h' : k < w9.heap.size := hk; exact (show k < w10.heap.size by omega)) _ _ _ H9.out)
  have H10 := Lib.hid (h10.mono (S' := Lo w10) (fun k hk => hk.2))
  clear p7_0 p7_1 p7_2 p7_3 p7_4 p7_5 p7_l h10
  have HW10 := Lib.hid hw10
  have HB10 := Lib.hid hB10
  have HK910 := Lib.hid hk910
  have HKF := Lib.hid hkF
  clear hw10 hB10 hk910 hkF
  have q9_0 := cv0 q9
  have q9_1 := cv1 q9
  have q9_l := lt_heap q9
  have Q9 := Lib.hid q9
  clear q9
  have q10_0 := cv0 q10
  have q10_1 := cv1 q10
  have q10_l := lt_heap q10
  have Q10 := Lib.hid q10
  clear q10
  have q11_0 := cv0 q11
  have q11_1 := cv1 q11
  have q11_l := lt_heap q11
  have Q11 := Lib.hid q11
  clear q11
  have q12_0 := cv0 q12
  have q12_1 := cv1 q12
  have q12_l := lt_heap q12
  have Q12 := Lib.hid q12
  clear q12
  go_wp2_with fail
  have hBA := ((HB10.out.alloc (by omega) (.cells #[.string s10, .slice A10 n10 c10] 24)).alloc (by simp; omega) (.cells #[.int .i64 0, .int .i64 0] 26))
  have hLW : ∀ (t : Ty) (v0 v1 : Value) (w' : World), t.In w10 (Lo w10) v0 v1 → Below (w10.heap.size + 2) ((w10.alloc (.cells #[.string s10, .slice A10 n10 c10] 24)).alloc (.cells #[.int .i64 0, .int .i64 0] 26)) w' → t.In w' (Lo w') v0 v1 := fun t v0 v1 w' h hb =>
    Ty.In_keep (fun b hb' => by have h' : b < w10.heap.size := hb'; exact (hb.block b (by omega)).trans (heap_old (by simp; omega) (heap_old h' rfl))) (fun b hb' => by have h' : b < w10.heap.size := hb'; have := hb.size; simp at this; exact (show b < w'.heap.size by omega)) _ _ _ h
  have HLW := Lib.hid hLW
  have HBA := Lib.hid hBA
  clear hLW hBA
  go_region_held3 (fun w' => w'.cell? ⟨w8.heap.size, 0, none⟩ = some (.string bNil) ∧ w'.cell? ⟨w8.heap.size, 1, none⟩ = some (.slice (some ⟨bF, oF, none⟩) 2 cF) ∧ w'.cell? ⟨w8.heap.size + 1, 0, none⟩ = some (.int .i64 0) ∧ w'.cell? ⟨w8.heap.size + 1, 1, none⟩ = some (.int .i64 0) ∧
      w'.cell? ⟨w9.heap.size, 0, none⟩ = some (.string s9) ∧ w'.cell? ⟨w9.heap.size, 1, none⟩ = some (.slice A9 n9 c9) ∧ w'.cell? ⟨w9.heap.size + 1, 0, none⟩ = some (.int .i64 0) ∧ w'.cell? ⟨w9.heap.size + 1, 1, none⟩ = some (.int .i64 0) ∧
      w'.cell? ⟨w10.heap.size, 0, none⟩ = some (.string s10) ∧ w'.cell? ⟨w10.heap.size, 1, none⟩ = some (.slice A10 n10 c10) ∧ w'.cell? ⟨w10.heap.size + 1, 0, none⟩ = some (.int .i64 0) ∧ w'.cell? ⟨w10.heap.size + 1, 1, none⟩ = some (.int .i64 0) ∧
      w'.cell? ⟨0, 0, none⟩ = some (.int .i64 0) ∧ w'.cell? ⟨0, 1, none⟩ = some (.int .i64 0) ∧
      w'.cell? ⟨bF, oF, none⟩ = some (.string sx) ∧ w'.cell? ⟨bF, oF + 1, none⟩ = some (.slice Ax nx cx) ∧ w'.cell? ⟨bF, oF + 2, none⟩ = some (.string sy) ∧ w'.cell? ⟨bF, oF + 2 + 1, none⟩ = some (.slice Ay ny cy))
    ((first | (go_keep; done) | (go_split_ands; (repeat' apply And.intro) <;> (refine (kc12 _ _ (by omega)).trans ?_; assumption)) | (go_split_ands; (repeat' apply And.intro) <;> (refine (kc11 _ _ (by omega)).trans ?_; assumption))))
    (first
      | (have hh := kc11; clear hh; have hq := eqTy_any _ b.ty b.ty _ _ _ _ w11 (Lo w11) (Nat.le_refl _) (HLW.out _ _ _ _ HIB10.out ((Below.refl _ _).drew.trans (HW11.out.mono (by simp)))) (HLW.out _ _ _ _ H10.out ((Below.refl _ _).drew.trans (HW11.out.mono (by simp)))) (fun _ h => h); rw [Ty.beq_self] at hq; (with_reducible refine hq.mono ?_); clear hq; rintro e w12 ⟨rfl, hw12⟩; have kc12 : ∀ k q, k < w11.heap.size → w12.cell? ⟨k, q, none⟩ = _ := (fun k q h => hw12.cell (p := ⟨k, q, none⟩) h); have z12 := hw12.size; have HW12 := Lib.hid hw12; clear hw12)
      | (have hq := fun W => eqTy_any _ a.ty a.ty (.string sx) (.slice Ax nx cx) (.string s9) (.slice A9 n9 c9) W (Lo W) (Nat.le_refl _); rw [Ty.beq_self] at hq; (with_reducible refine (hq _ (HLW.out _ _ _ _ HIA10.out (Below.refl _ _).drew) (HLW.out _ _ _ _ H9P.out (Below.refl _ _).drew) Lo.lt).mono ?_); clear hq; rintro e w11 ⟨rfl, hw11⟩; have kc11 : ∀ k q, k < w10.heap.size + 2 → w11.cell? ⟨k, q, none⟩ = _ := (fun k q h => hw11.cell (p := ⟨k, q, none⟩) (by simp; omega)); have z11 : w10.heap.size + 2 ≤ w11.heap.size := (by have := hw11.size; simpa using this); have HW11 := Lib.hid hw11; clear hw11))
  go_wp2_with fail
  go_returns
  exact ⟨rfl, ((HBA.out.drew).trans (HW11.out.mono (by simp; omega))).trans (HW12.out.mono (by omega))⟩

end Go.Proofs.YthflahcnkhmpaaaDoor
