/-
  The law TermBindMatchesSpec: the walk.
-/
import Derived.Test.YthflahcnkhmpaaaDoorProg
import Derived.Test.YthflahcnkhmpaaaDoorLawApply
import Derived.Test.YthflahcnkhmpaaaDoorBind
import Derived.Test.YthflahcnkhmpaaaDoorBindAll
namespace Go.Proofs.YthflahcnkhmpaaaDoor
open Go Go.RowKit
set_option linter.unusedSimpArgs false
set_option linter.unusedVariables false

theorem bindCode_kimA : bindCode bKimA tvKimA = 0 := by simp [bindCode, tvKimA, Tv.named, alike, Tv.nodes, Tv.depth]
theorem bindTerm_kimA : bindTerm bKimA tvKimA = tvId := by simp [bindTerm, tvKimA, Tv.named, Tv.bind, tvId]
theorem BindAt.kimA {w w' : World} {e : Ending} (h : BindAt tvKimA.tm bKimA w e w') : ∃ ds : List Value, e = .returned (.tuple #[.agg ds.toArray, .agg #[.int .i64 0, .int .i64 0]]) ∧ tmRep.R w' (Fresh w w') tvId.tm ds := by
  have := (h.2.1 tvKimA rfl (by rw [kimA_fault])).2 bindCode_kimA
  rwa [bindTerm_kimA] at this
theorem kimA_in {W : World} {S : Nat → Prop} : tmRep.R W S tvKimA.tm [.int .i64 1, .string ⟨#[107, 105, 109]⟩, .int .i64 0, .string ⟨#[101]⟩, .slice none 0 0, .slice none 0 0] :=
  Tm.shut (a := ⟨1, bKimA, 0, Sy.e.ty⟩) (l := []) (by decide +kernel) (Ty.In.mk_ (by decide +kernel) rfl (by omega) (by omega)) Rep.Sl.nil
/-- What Bind returns, in one shape: six cells and two numbers. -/
theorem BindAt.uni {t : Tm} {nm : ByteArray} {w w' : World} {e : Ending} (h : BindAt t nm w e w') :
    ∃ (U : Tm) (s' : ByteArray) (A' : Option Addr) (n' c' : Nat) (A : Option Addr) (n c : Nat) (f i : Int), e = .returned (.tuple #[.agg #[.int .i64 U.lab.kind, .string U.lab.nm, .int .i64 U.lab.ix, .string s', .slice A' n' c', .slice A n c], .agg #[.int .i64 f, .int .i64 i]]) ∧
      tmRep.R w' (Fresh w w') U [.int .i64 U.lab.kind, .string U.lab.nm, .int .i64 U.lab.ix, .string s', .slice A' n' c', .slice A n c] ∧
      (((tmFault t).1 ≠ 0 ∧ U = tmZero ∧ f = (tmFault t).1 ∧ i = (tmFault t).2) ∨
       ∃ v : Tv, t = v.tm ∧ (tmFault v.tm).1 = 0 ∧ v.ok 0 ∧ v.nodes ≤ 200 ∧ ((bindCode nm v ≠ 0 ∧ U = tmZero ∧ f = bindCode nm v ∧ i = -2) ∨ (bindCode nm v = 0 ∧ U = (bindTerm nm v).tm ∧ f = 0 ∧ i = 0))) := by
  by_cases hz : (tmFault t).1 = 0
  case neg =>
    refine ⟨tmZero, bNil, none, 0, 0, none, 0, 0, _, _, h.1 hz, tmZero_in, Or.inl ⟨hz, rfl, rfl, rfl⟩⟩
  obtain ⟨v, s, rfl, ov, nv, dv, tv, ev⟩ := tmFault_zero hz
  obtain ⟨h1, h2⟩ := h.2.1 v rfl hz
  by_cases hc : bindCode nm v = 0
  · obtain ⟨ds, h3, h4⟩ := h2 hc
    obtain ⟨s7, A7, n7, c7, B7, m7, d7, rfl, _, _⟩ := Tm.shape h4
    exact ⟨(bindTerm nm v).tm, _, _, _, _, _, _, _, 0, 0, h3, h4, Or.inr ⟨v, rfl, hz, ov, nv, Or.inr ⟨hc, rfl, rfl, rfl⟩⟩⟩
  · exact ⟨tmZero, bNil, none, 0, 0, none, 0, 0, _, _, h1 hc, tmZero_in, Or.inr ⟨v, rfl, hz, ov, nv, Or.inl ⟨hc, rfl, rfl, rfl⟩⟩⟩
/-- .. and BindOf. -/
theorem BindOfAt.uni {v : Tv} {nm : ByteArray} {w w' : World} {S : Nat → Prop} {e : Ending} (h : BindOfAt v nm w S e w') :
    ∃ (U : Tm) (s' : ByteArray) (A' : Option Addr) (n' c' : Nat) (A : Option Addr) (n c : Nat) (f i : Int), e = .returned (.tuple #[.agg #[.int .i64 U.lab.kind, .string U.lab.nm, .int .i64 U.lab.ix, .string s', .slice A' n' c', .slice A n c], .agg #[.int .i64 f, .int .i64 i]]) ∧
      tmRep.R w' (Ex S w w') U [.int .i64 U.lab.kind, .string U.lab.nm, .int .i64 U.lab.ix, .string s', .slice A' n' c', .slice A n c] ∧
      ((bindCode nm v ≠ 0 ∧ U = tmZero ∧ f = bindCode nm v ∧ i = -2) ∨ (bindCode nm v = 0 ∧ U = (bindTerm nm v).tm ∧ f = 0 ∧ i = 0)) := by
  by_cases hc : bindCode nm v = 0
  · obtain ⟨ds, h3, h4⟩ := h.2.1 hc
    obtain ⟨s7, A7, n7, c7, B7, m7, d7, rfl, _, _⟩ := Tm.shape h4
    exact ⟨(bindTerm nm v).tm, _, _, _, _, _, _, _, 0, 0, h3, h4, Or.inr ⟨hc, rfl, rfl, rfl⟩⟩
  · exact ⟨tmZero, bNil, none, 0, 0, none, 0, 0, _, _, h.1 hc, tmZero_in, Or.inl ⟨hc, rfl, rfl, rfl⟩⟩

set_option maxRecDepth 100000 in
set_option maxHeartbeats 4000000 in
theorem bindLaw_any (t : Tm) (cs : List Value) (nm : ByteArray) (w : World) (S : Nat → Prop) (ht : tmRep.R w S t cs) (hnms : nm.size ≤ maxLen) (hS : ∀ b, S b → b < w.heap.size)
    (g0 : w.cell? ⟨0, 0, none⟩ = some (.int .i64 0)) (g1 : w.cell? ⟨0, 1, none⟩ = some (.int .i64 0)) :
    Calls Tryd.prog 11 #[.agg cs.toArray, .string nm] w fun e w' => e = .returned (.bool true) ∧ Below w.heap.size w w' := by
  obtain ⟨s0, A0, n0, c0, B0, m0, d0, rfl, _, _⟩ := Tm.shape ht
  have hg := World.block_lt_of_cell? w _ g0
  have HT := Lib.hid ht
  have HS := Lib.hid hS
  have G0 := Lib.hid g0
  have G1 := Lib.hid g1
  clear ht hS g0 g1
  go_enter Tryd.func11, Tryd.ntmps11
  go_wp2_with fail
  (with_reducible refine (base_any ⟨#[101]⟩ _ (by decide +kernel)).mono ?_)
  rintro e w1 ⟨rfl, -, hw1⟩
  have z1 : w.heap.size + 1 ≤ w1.heap.size := by have := hw1.size; simpa using this
  have p0 := (hw1.block w.heap.size (by simp)).trans (heap_at rfl)
  have hB1 : Below w.heap.size w w1 := ((Below.refl _ w).alloc (Nat.le_refl _) _).trans (hw1.mono (by simp))
  have hkm := Lib.hid (constant_any ⟨#[107, 105, 109]⟩ Sy.e.ty (.string ⟨#[101]⟩) (.slice none 0 0) w1 (fun _ => False) (by decide +kernel) (Ty.In.mk_ (by decide +kernel) rfl (by omega) (by omega)) (fun b h => h.elim))
  have P0 := Lib.hid p0
  have HB1 := Lib.hid hB1
  have HW1 := Lib.hid hw1
  have HKM := Lib.hid hkm
  clear p0 hB1 hw1 hkm
  go_wp2_with fail
  (with_reducible refine HKM.out.out.mono ?_)
  rintro e w2 ⟨rfl, -, hw2⟩
  have z2 := hw2.size
  have p0 := (hw2.block _ (by omega)).trans P0.out
  have hB2 := HB1.out.trans (hw2.mono (by omega))
  have hbk := Lib.hid (bind_any tvKimA.tm ⟨#[107, 105, 109]⟩ [.int .i64 1, .string ⟨#[107, 105, 109]⟩, .int .i64 0, .string ⟨#[101]⟩, .slice none 0 0, .slice none 0 0] w2 (fun _ => False) kimA_in (by decide +kernel) (fun _ h => h.elim))
  have P0 := Lib.hid p0
  have HB2 := Lib.hid hB2
  have HW2 := Lib.hid hw2
  have HBK := Lib.hid hbk
  clear p0 hB2 hw2 hbk
  go_wp2_with fail
  (with_reducible refine HBK.out.out.mono ?_)
  rintro e w3 hr
  have hw3 := hr.2.2
  obtain ⟨ds, rfl, h3⟩ := BindAt.kimA hr
  obtain ⟨s3, A3, n3, c3, B3, m3, d3, rfl, _, _⟩ := Tm.shape h3
  have z3 := hw3.size
  have p0 := (hw3.block _ (by have := lt_heap P0.out; omega)).trans P0.out
  have hB3 := HB2.out.trans (hw3.mono (by omega))
  have c0' := (hB3.cell (p := ⟨0, 0, none⟩) hg).trans G0.out
  have c1' := (hB3.cell (p := ⟨0, 1, none⟩) hg).trans G1.out
  have l3 : 0 < w3.heap.size := by omega
  have l3b : 0 < w3.heap.size + 1 := by omega
  have l3c : 0 < w3.heap.size + 1 + 1 := by omega
  have HU3 := Lib.hid (tmRep.keep (S' := Lo w3) h3 (fun _ _ => rfl) (fun k hk => hk.2))
  have hBA := ((hB3.alloc (by omega) (.cells #[.int .i64 tvId.tm.lab.kind, .string tvId.tm.lab.nm, .int .i64 tvId.tm.lab.ix, .string s3, .slice A3 n3 c3, .slice B3 m3 d3] 49)).alloc (by simp; omega) (.cells #[.int .i64 0, .int .i64 0] 26))
  clear hr h3
  have HW3 := Lib.hid hw3
  have HB3 := Lib.hid hB3
  have P0 := Lib.hid p0
  have HBA := Lib.hid hBA
  clear hw3 hB3 p0 hBA
  go_wp2_with fail
  go_region_held3 (fun w' => w'.cell? ⟨w3.heap.size + 1, 0, none⟩ = some (.int .i64 0) ∧ w'.cell? ⟨w3.heap.size + 1, 1, none⟩ = some (.int .i64 0) ∧ w'.cell? ⟨0, 0, none⟩ = some (.int .i64 0) ∧ w'.cell? ⟨0, 1, none⟩ = some (.int .i64 0) ∧ w'.cell? ⟨w3.heap.size, 0, none⟩ = some (.int .i64 tvId.tm.lab.kind) ∧ w'.cell? ⟨w3.heap.size, 1, none⟩ = some (.string tvId.tm.lab.nm) ∧ w'.cell? ⟨w3.heap.size, 2, none⟩ = some (.int .i64 tvId.tm.lab.ix) ∧ w'.cell? ⟨w3.heap.size, 3, none⟩ = some (.string s3) ∧ w'.cell? ⟨w3.heap.size, 4, none⟩ = some (.slice A3 n3 c3) ∧ w'.cell? ⟨w3.heap.size, 5, none⟩ = some (.slice B3 m3 d3))
    ((first | (go_keep; done) | (go_split_ands; (repeat' apply And.intro) <;> (refine (kc5 _ _ (by omega)).trans ?_; assumption)) | (go_split_ands; (repeat' apply And.intro) <;> (refine (kc4 _ _ (by omega)).trans ?_; assumption))))
    (first
      | ((with_reducible refine (identity_any _).mono ?_); rintro e w4 ⟨es, rfl, h4, hw4⟩; obtain ⟨s4, A4, n4, c4, B4, m4, d4, rfl, _, _⟩ := Tm.shape h4; have kc4 : ∀ k q, k < w3.heap.size + 2 → w4.cell? ⟨k, q, none⟩ = _ := (fun k q h => hw4.cell (p := ⟨k, q, none⟩) (by simp; omega)); have z4 : w3.heap.size + 2 ≤ w4.heap.size := (by have := hw4.size; simpa using this); have HU4 := Lib.hid h4; have HW4 := Lib.hid hw4; clear h4 hw4)
      | (have hq := eqTm_any _ tvId.tm tvId.tm [.int .i64 tvId.tm.lab.kind, .string tvId.tm.lab.nm, .int .i64 tvId.tm.lab.ix, .string s3, .slice A3 n3 c3, .slice B3 m3 d3] [.int .i64 tvId.tm.lab.kind, .string tvId.tm.lab.nm, .int .i64 tvId.tm.lab.ix, .string s4, .slice A4 n4 c4, .slice B4 m4 d4] w4 (Lo w4) (Nat.le_refl _) (tmRep.keep HU3.out (fun k hk => by have h' : k < w3.heap.size := hk; exact (HW4.out.block k (by simp; omega)).trans (heap_drew (heap_old (by simp; omega) (heap_old h' rfl)))) (fun k hk => by have h' : k < w3.heap.size := hk; exact (show k < w4.heap.size by omega))) (tmRep.keep HU4.out (fun _ _ => rfl) (fun k hk => hk.2)) (fun k hk => hk); rw [show tmBeq tvId.tm tvId.tm = true from tmBeq_self _] at hq; (with_reducible refine hq.mono ?_); clear hq; rintro e w5 ⟨rfl, hw5⟩; have kc5 : ∀ k q, k < w4.heap.size → w5.cell? ⟨k, q, none⟩ = _ := (fun k q h => hw5.cell (p := ⟨k, q, none⟩) h); have z5 := hw5.size; have HW5 := Lib.hid hw5; clear hw5)
      | fail)
  go_upto_region 4 with (fail)
  refine gen_last (fun wb => Below w.heap.size w wb ∧ wb.heap[w.heap.size]? = some (.cells #[.int .i64 t.lab.kind, .string t.lab.nm, .int .i64 t.lab.ix, .string s0, .slice A0 n0 c0, .slice B0 m0 d0] 49 (0, 0))) ?_ ?_
  · exact ⟨((HBA.out.drew).trans (HW4.out.mono (by simp; omega))).trans (HW5.out.mono (by omega)), (HW5.out.block _ (by have := lt_heap P0.out; omega)).trans ((HW4.out.block w.heap.size (by have := lt_heap P0.out; simp; omega)).trans (heap_drew (heap_old (by have := lt_heap P0.out; simp; omega) (heap_old (lt_heap P0.out) P0.out))))⟩
  rintro wb ⟨hBb, p0⟩
  have zb := hBb.size
  have hSb : ∀ k, S k → wb.heap[k]? = w.heap[k]? := fun k hk => hBb.block k (HS.out k hk)
  have hbi := Lib.hid (bind_any t nm [.int .i64 t.lab.kind, .string t.lab.nm, .int .i64 t.lab.ix, .string s0, .slice A0 n0 c0, .slice B0 m0 d0] wb S (tmRep.keep HT.out hSb (fun _ h => h)) hnms (fun k hk => by have := HS.out k hk; omega))
  clear kc4 kc5 z4 z5 c0' c1' l3 l3b l3c
  have HBB := Lib.hid hBb
  have HSB := Lib.hid hSb
  have HBI := Lib.hid hbi
  clear hBb hSb hbi
  have p0_0 := cv0 p0
  have p0_1 := cv1 p0
  have p0_2 := cv2 p0
  have p0_3 := cv3 p0
  have p0_4 := cv4 p0
  have p0_5 := cv5 p0
  have p0_l := lt_heap p0
  have P0 := Lib.hid p0
  clear p0
  go_wp2_with fail
  (with_reducible refine HBI.out.out.mono ?_)
  rintro e wc hr
  have hwc : Below wb.heap.size wb wc := hr.2.2
  obtain ⟨U, sU, AU, nU, cU, BU, mU, dU, f, i, rfl, hU, hcase⟩ := hr.uni
  have zc := hwc.size
  have hBc := HBB.out.trans (hwc.mono (by omega))
  have p0 := (hwc.block _ p0_l).trans P0.out
  have hSc : ∀ (o p : Obj) k, S k → ((wc.alloc o).alloc p).heap[k]? = w.heap[k]? := fun o p k hk => heap_old (by have := HS.out k hk; simp; omega) (heap_old (by have := HS.out k hk; omega) (hBc.block k (HS.out k hk)))
  have hff := fun (o p : Obj) => Lib.hid (refTmFault_any t [.int .i64 t.lab.kind, .string t.lab.nm, .int .i64 t.lab.ix, .string s0, .slice A0 n0 c0, .slice B0 m0 d0] ((wc.alloc o).alloc p) S (tmRep.keep HT.out (hSc o p) (fun _ h => h)) (fun k hk => by have := HS.out k hk; simp; omega))
  have HUC := Lib.hid (tmRep.keep (S' := Lo wc) hU (fun _ _ => rfl) (fun k hk => hk.2))
  clear p0_0 p0_1 p0_2 p0_3 p0_4 p0_5 p0_l hr hU
  have HBC := Lib.hid hBc
  have HWC := Lib.hid hwc
  have HSC := Lib.hid hSc
  have HFF := Lib.hid hff
  clear hBc hwc hSc hff
  have p0_0 := cv0 p0
  have p0_1 := cv1 p0
  have p0_2 := cv2 p0
  have p0_3 := cv3 p0
  have p0_4 := cv4 p0
  have p0_5 := cv5 p0
  have p0_l := lt_heap p0
  have P0 := Lib.hid p0
  clear p0
  go_wp2_with fail
  (with_reducible refine (HFF.out _ _).out.mono ?_)
  rintro e wd ⟨rfl, hwd⟩
  have zd : wc.heap.size + 2 ≤ wd.heap.size := by have := hwd.size; simpa using this
  have hBd := ((HBC.out.alloc (by omega) (.cells #[.int .i64 U.lab.kind, .string U.lab.nm, .int .i64 U.lab.ix, .string sU, .slice AU nU cU, .slice BU mU dU] 49)).alloc (by simp; omega) (.cells #[.int .i64 f, .int .i64 i] 26)).trans (hwd.mono (by simp; omega))
  have p0 := (hwd.block w.heap.size (by have := lt_heap P0.out; simp; omega)).trans (heap_old (by have := lt_heap P0.out; simp; omega) (heap_old (lt_heap P0.out) P0.out))
  have r9 := (hwd.block wc.heap.size (by simp <;> omega)).trans (heap_old (by simp) (heap_at rfl))
  have r10 := (hwd.block (wc.heap.size + 1) (by simp)).trans (heap_at (by simp))
  have cc0 := (hBd.cell (p := ⟨0, 0, none⟩) hg).trans G0.out
  have cc1 := (hBd.cell (p := ⟨0, 1, none⟩) hg).trans G1.out
  have ld : 0 < wd.heap.size := by omega
  have ldb : 0 < wd.heap.size + 1 := by omega
  have l9b : wc.heap.size < wd.heap.size + 1 := by omega
  have l10b : wc.heap.size + 1 < wd.heap.size + 1 := by omega
  have hUd : ∀ W : World, Below wd.heap.size wd W → tmRep.R W (Lo W) U [.int .i64 U.lab.kind, .string U.lab.nm, .int .i64 U.lab.ix, .string sU, .slice AU nU cU, .slice BU mU dU] := fun W hW => tmRep.keep HUC.out (fun k hk => by have h' : k < wc.heap.size := hk; exact (hW.block k (by omega)).trans ((hwd.block k (by simp; omega)).trans (heap_old (by simp; omega) (heap_old h' rfl)))) (fun k hk => by have h' : k < wc.heap.size := hk; have := hW.size; exact (show k < W.heap.size by omega))
  clear p0_0 p0_1 p0_2 p0_3 p0_4 p0_5 p0_l
  rcases hcase with ⟨hz, rfl, rfl, rfl⟩ | ⟨v, rfl, hz, ov, nv, hcase⟩
  · have hc1 : (((tmFault t).1 : Int) == 0) = false := beq_eq_false_iff_ne.2 (by omega)
    have heq := fun (o : Obj) => Lib.hid (eqTm_any _ tmZero tmZero [.int .i64 tmZero.lab.kind, .string tmZero.lab.nm, .int .i64 tmZero.lab.ix, .string sU, .slice AU nU cU, .slice BU mU dU] _ (wd.alloc o) (Lo (wd.alloc o)) (Nat.le_refl _) (hUd _ ((Below.refl _ _).alloc (Nat.le_refl _) _)) tmZero_in (fun _ h => h))
    rw [tmBeq_self] at heq
    clear hz
    have HWD := Lib.hid hwd
    have HBD := Lib.hid hBd
    have HUD := Lib.hid hUd
    have HEQ := Lib.hid heq
    have P0 := Lib.hid p0
    clear hwd hBd hUd heq p0
    have r9_0 := cv0 r9
    have r9_1 := cv1 r9
    have r9_2 := cv2 r9
    have r9_3 := cv3 r9
    have r9_4 := cv4 r9
    have r9_5 := cv5 r9
    have r9_l := lt_heap r9
    have R9 := Lib.hid r9
    clear r9
    have r10_0 := cv0 r10
    have r10_1 := cv1 r10
    have r10_l := lt_heap r10
    have R10 := Lib.hid r10
    clear r10
    go_wp2_with fail
    (with_reducible refine (HEQ.out _).out.mono ?_)
    rintro e we ⟨rfl, hwe⟩
    have HWE := Lib.hid hwe
    clear hwe
    go_wp2_with fail
    go_returns
    exact ⟨rfl, (HBD.out.alloc (by omega) _).trans (HWE.out.mono (by simp; omega))⟩
  have ez : tmFault v.tm = (0, 0) := by
    obtain ⟨_, _, _, _, _, _, _, e⟩ := tmFault_zero hz
    exact e
  rw [ez]
  have hSd : ∀ (o : Obj) k, S k → (wd.alloc o).heap[k]? = w.heap[k]? := fun o k hk => heap_old (by have := HS.out k hk; omega) (hBd.block k (HS.out k hk))
  have hbo := fun (o : Obj) => Lib.hid (bindOf_any v nm [.int .i64 v.tm.lab.kind, .string v.tm.lab.nm, .int .i64 v.tm.lab.ix, .string s0, .slice A0 n0 c0, .slice B0 m0 d0] (wd.alloc o) S (tmRep.keep HT.out (hSd o) (fun _ h => h)) ov nv hnms (fun k hk => by have := HS.out k hk; simp; omega))
  clear ov nv hz ez
  have HWD := Lib.hid hwd
  have HBD := Lib.hid hBd
  have HUD := Lib.hid hUd
  have HBO := Lib.hid hbo
  have HSD := Lib.hid hSd
  clear hwd hBd hUd hbo hSd
  have r9_0 := cv0 r9
  have r9_1 := cv1 r9
  have r9_2 := cv2 r9
  have r9_3 := cv3 r9
  have r9_4 := cv4 r9
  have r9_5 := cv5 r9
  have r9_l := lt_heap r9
  have R9 := Lib.hid r9
  clear r9
  have r10_0 := cv0 r10
  have r10_1 := cv1 r10
  have r10_l := lt_heap r10
  have R10 := Lib.hid r10
  clear r10
  have p0_0 := cv0 p0
  have p0_1 := cv1 p0
  have p0_2 := cv2 p0
  have p0_3 := cv3 p0
  have p0_4 := cv4 p0
  have p0_5 := cv5 p0
  have p0_l := lt_heap p0
  have P0 := Lib.hid p0
  clear p0
  go_wp2_with fail
  (with_reducible refine (HBO.out _).out.mono ?_)
  rintro e we hr
  have hwe : Below (wd.alloc _).heap.size (wd.alloc _) we := hr.2.2
  obtain ⟨V, sV, AV, nV, cV, BV, mV, dV, g, k2, rfl, hV, hcase2⟩ := hr.uni
  have ze : wd.heap.size + 1 ≤ we.heap.size := by have := hwe.size; simpa using this
  have hde : Below wd.heap.size wd we := ((Below.refl _ wd).alloc (Nat.le_refl _) _).trans (hwe.mono (by simp))
  have hBe := HBD.out.trans (hde.mono (by omega))
  have r9 := (hde.block _ r9_l).trans R9.out
  have r10 := (hde.block _ r10_l).trans R10.out
  have hue := HUD.out we hde
  have hVe : tmRep.R we (Lo we) V [.int .i64 V.lab.kind, .string V.lab.nm, .int .i64 V.lab.ix, .string sV, .slice AV nV cV, .slice BV mV dV] := tmRep.keep hV (fun _ _ => rfl) (fun k hk => by
    rcases hk with hk | hk
    · have := HS.out k hk; exact (show k < we.heap.size by omega)
    · exact hk.2)
  have hUV : U = V ∧ f = g ∧ i = k2 := by
    rcases hcase with ⟨h1, rfl, rfl, rfl⟩ | ⟨h1, rfl, rfl, rfl⟩
    · rcases hcase2 with ⟨_, rfl, rfl, rfl⟩ | ⟨h2, _⟩
      · exact ⟨rfl, rfl, rfl⟩
      · exact absurd h2 h1
    · rcases hcase2 with ⟨h2, _⟩ | ⟨_, rfl, rfl, rfl⟩
      · exact absurd h1 h2
      · exact ⟨rfl, rfl, rfl⟩
  obtain ⟨rfl, rfl, rfl⟩ := hUV
  have heq := fun (o p : Obj) => Lib.hid (eqTm_any _ U U [.int .i64 U.lab.kind, .string U.lab.nm, .int .i64 U.lab.ix, .string sU, .slice AU nU cU, .slice BU mU dU] [.int .i64 U.lab.kind, .string U.lab.nm, .int .i64 U.lab.ix, .string sV, .slice AV nV cV, .slice BV mV dV] ((we.alloc o).alloc p) (Lo we) (Nat.le_refl _) (tmRep.keep hue (fun k hk => by have h' : k < we.heap.size := hk; exact heap_old (by simp; omega) (heap_old h' rfl)) (fun _ h => h)) (tmRep.keep hVe (fun k hk => by have h' : k < we.heap.size := hk; exact heap_old (by simp; omega) (heap_old h' rfl)) (fun _ h => h)) (fun k hk => by have h' : k < we.heap.size := hk; simp; omega))
  rw [tmBeq_self] at heq
  have l11 : wc.heap.size < we.heap.size + 1 := by omega
  have l12 : wc.heap.size + 1 < we.heap.size + 1 := by omega
  clear r9_0 r9_1 r9_2 r9_3 r9_4 r9_5 r9_l r10_0 r10_1 r10_l p0_0 p0_1 p0_2 p0_3 p0_4 p0_5 p0_l cc0 cc1 ld ldb l9b l10b hcase hcase2 hr hV hue hVe
  have HWE := Lib.hid hwe
  have HDE := Lib.hid hde
  have HBE := Lib.hid hBe
  have HEQ := Lib.hid heq
  clear hwe hde hBe heq
  have r9_0 := cv0 r9
  have r9_1 := cv1 r9
  have r9_2 := cv2 r9
  have r9_3 := cv3 r9
  have r9_4 := cv4 r9
  have r9_5 := cv5 r9
  have r9_l := lt_heap r9
  have R9 := Lib.hid r9
  clear r9
  have r10_0 := cv0 r10
  have r10_1 := cv1 r10
  have r10_l := lt_heap r10
  have R10 := Lib.hid r10
  clear r10
  go_wp2_with fail
  (with_reducible refine (HEQ.out _ _).out.mono ?_)
  rintro e wf ⟨rfl, hwf⟩
  have HWF := Lib.hid hwf
  clear hwf
  go_wp2_with fail
  go_returns
  exact ⟨rfl, ((HBE.out.alloc (by omega) _).alloc (by simp; omega) _).trans (HWF.out.mono (by simp; omega))⟩

end Go.Proofs.YthflahcnkhmpaaaDoor
