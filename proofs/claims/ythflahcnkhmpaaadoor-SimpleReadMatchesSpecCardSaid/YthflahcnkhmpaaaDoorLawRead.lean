/-
  The law SimpleReadMatchesSpec: the walk.
-/
import Derived.Test.YthflahcnkhmpaaaDoorProg
import Derived.Test.YthflahcnkhmpaaaDoorSimpleRead
import Derived.Test.YthflahcnkhmpaaaDoorEqTy
namespace Go.Proofs.YthflahcnkhmpaaaDoor
open Go Go.RowKit
set_option linter.unusedSimpArgs false
set_option linter.unusedVariables false

theorem fault_ok (s : Sy) (h : s.nodes ≤ 200) (h' : s.depth ≤ 40) : s.ty.fault = 0 := by
  unfold Ty.fault; rw [Sy.val_ok s 1 0 (by omega) (by omega)]
theorem parse_bytes (s : Sy) (h : s.nodes ≤ 200) (h' : s.depth ≤ 40) : parse ⟨s.bytes.toArray⟩ = .inr s := by
  have hl := s.bytes_len
  have hsz : (⟨s.bytes.toArray⟩ : ByteArray).size = s.bytes.length := by simp [ByteArray.size]
  have hr := rd_text ⟨s.bytes.toArray⟩ s 40 0 0 [] (by simp) h' (by omega)
  unfold parse
  rw [if_neg (by omega), hr]
  simp only
  rw [if_neg (by omega)]
theorem parse_et : parse ⟨#[40, 101, 32, 116, 41]⟩ = .inr (.fn .e .t) := parse_bytes (.fn .e .t) (by decide) (by decide)

set_option maxRecDepth 100000 in
set_option maxHeartbeats 3200000 in
theorem readLaw_any (x : ByteArray) (w : World) (S : Nat → Prop) (hx : x.size ≤ maxLen) (hS : ∀ b, S b → b < w.heap.size)
    (g0 : w.cell? ⟨0, 0, none⟩ = some (.int .i64 0)) (g1 : w.cell? ⟨0, 1, none⟩ = some (.int .i64 0)) :
    Calls Tryd.prog 5 #[.string x] w fun e w' => e = .returned (.bool true) ∧ Below w.heap.size w w' := by
  have hg := World.block_lt_of_cell? w _ g0
  have G0 := Lib.hid g0
  have G1 := Lib.hid g1
  have HX := Lib.hid hx
  clear g0 g1 hS hx
  go_enter Tryd.func5, Tryd.ntmps5
  go_wp2_with fail
  refine (parse_any ⟨#[40, 101, 32, 116, 41]⟩ w (by decide +kernel)).mono ?_
  unfold ParseAt parseC parseJ parseT
  rw [parse_et]
  simp only
  rintro e w1 ⟨v0, v1, rfl, h1, hw1⟩
  obtain ⟨s1, A1, n1, c1, rfl, rfl⟩ := h1.shape
  have B1 := Lib.hid hw1
  have z1 := hw1.size
  have c0 := (hw1.cell (p := ⟨0, 0, none⟩) hg).trans G0.out
  have c1' := (hw1.cell (p := ⟨0, 1, none⟩) hg).trans G1.out
  have l1 : 0 < w1.heap.size := by omega
  have H1 := Lib.hid (h1.mono (S' := Lo w1) (fun b hb => hb.2))
  clear hw1 h1
  go_wp2_with fail
  have hB := ((B1.out.alloc z1 (.cells #[.string s1, .slice A1 n1 c1] 24)).alloc (by simp; omega) (.cells #[.int .i64 0, .int .i64 0] 26))
  have HB := Lib.hid hB
  clear hB
  have hL1 : ∀ w' : World, Below (w1.heap.size + 2) ((w1.alloc (.cells #[.string s1, .slice A1 n1 c1] 24)).alloc (.cells #[.int .i64 0, .int .i64 0] 26)) w' → (Sy.fn .e .t).ty.In w' (Lo w') (.string s1) (.slice A1 n1 c1) := fun w' hb =>
    Ty.In_keep (fun b hb' => by have h' : b < w1.heap.size := hb'; exact (hb.block b (by omega)).trans (heap_old (by simp; omega) (heap_old h' rfl))) (fun b hb' => by have h' : b < w1.heap.size := hb'; have := hb.size; simp at this; exact (show b < w'.heap.size by omega)) _ _ _ H1.out
  have HL1 := Lib.hid hL1
  clear hL1
  go_region_held3 (fun w' => w'.cell? ⟨w1.heap.size + 1, 0, none⟩ = some (.int .i64 0) ∧ w'.cell? ⟨w1.heap.size + 1, 1, none⟩ = some (.int .i64 0) ∧ w'.cell? ⟨0, 0, none⟩ = some (.int .i64 0) ∧ w'.cell? ⟨0, 1, none⟩ = some (.int .i64 0) ∧ w'.cell? ⟨w1.heap.size, 0, none⟩ = some (.string s1) ∧ w'.cell? ⟨w1.heap.size, 1, none⟩ = some (.slice A1 n1 c1))
    ((first | (go_keep; done) | (go_split_ands; (repeat' apply And.intro) <;> (refine (kc2 _ _ (by omega)).trans ?_; assumption)) | (go_split_ands; (repeat' apply And.intro) <;> (refine (kc _ _ (by first | omega | (simp; omega))).trans ?_; assumption))))
    (first
      | ((with_reducible refine (et_any _).mono ?_); rintro e w2 ⟨u0, u1, rfl, h2, hw2⟩; obtain ⟨s2, A2, n2, c2, rfl, rfl⟩ := h2.shape; have z2 : w1.heap.size + 2 ≤ w2.heap.size := (by have := hw2.size; simpa using this); have kc : ∀ k q, k < w1.heap.size + 2 → w2.cell? ⟨k, q, none⟩ = _ := (fun k q h => hw2.cell (p := ⟨k, q, none⟩) (by simp; omega)); have H2 := Lib.hid (h2.mono (S' := Lo w2) (fun b hb => (by rcases hb with hb | hb; exact hb.elim; exact hb.2))); have HW2 := Lib.hid hw2; clear hw2 h2)
      | (have hq := eqTy_any _ (.mk bNil [.mk bE [], .mk bT []]) (.mk bNil [.mk bE [], .mk bT []]) _ _ _ _ w2 (Lo w2) (Nat.le_refl _) (HL1.out _ ((Below.refl _ _).drew.trans (HW2.out.mono (by simp)))) H2.out (fun _ h => h); rw [Ty.beq_self] at hq; (with_reducible refine hq.mono ?_); clear hq; rintro e w3 ⟨rfl, hw3⟩; have kc2 : ∀ k q, k < w2.heap.size → w3.cell? ⟨k, q, none⟩ = _ := (fun k q h => hw3.cell (p := ⟨k, q, none⟩) h); have z3 := hw3.size; have HW3 := Lib.hid hw3; clear hw3))
  go_wp2_with fail
  have hB3 : Below w.heap.size w w3 := ((HB.out.drew).trans (HW2.out.mono (by simp; omega))).trans (HW3.out.mono (by omega))
  have HB3 := Lib.hid hB3
  clear hB3 c0 c1' l1
  (with_reducible refine (parse_any x _ HX.out).mono ?_)
  unfold ParseAt
  rintro e w4 ⟨v0, v1, rfl, h4, hw4⟩
  obtain ⟨s4, A4, n4, c4, rfl, rfl⟩ := h4.shape
  have B4 := Lib.hid (HB3.out.trans (hw4.mono (by omega)))
  have z4 := hw4.size
  have H4 := Lib.hid (h4.mono (S' := Lo w4) (fun b hb => hb.2))
  clear hw4 h4
  go_wp2_with fail
  (with_reducible refine (simpleRead_any x _ HX.out).mono ?_)
  unfold ParseAt
  rintro e w5 ⟨v0, v1, rfl, h5, hw5⟩
  obtain ⟨s5, A5, n5, c5, rfl, rfl⟩ := h5.shape
  have z5 : w4.heap.size + 2 ≤ w5.heap.size := by have := hw5.size; simpa using this
  have B5 := Lib.hid (((B4.out.alloc (by omega) (.cells #[.string s4, .slice A4 n4 c4] 24)).alloc (by simp; omega) (.cells #[.int .i64 (parseC x), .int .i64 (parseJ x)] 26)).trans (hw5.mono (by simp; omega)))
  have k0 := (hw5.block w4.heap.size (by simp <;> omega)).trans (heap_old (by simp) (heap_at rfl))
  have k1 := (hw5.block (w4.heap.size + 1) (by simp)).trans (heap_at (by simp))
  have H4' := Lib.hid (show (parseT x).In w5 (Lo w5) (.string s4) (.slice A4 n4 c4) from Ty.In_keep (fun b hb' => by have h' : b < w4.heap.size := hb'; exact (hw5.block b (by simp; omega)).trans (heap_old (by simp; omega) (heap_old h' rfl))) (fun b hb' => by have h' : b < w4.heap.size := hb'; exact (show b < w5.heap.size by omega)) _ _ _ H4.out)
  have H5 := Lib.hid (h5.mono (S' := Lo w5) (fun b hb => hb.2))
  have hin : ∀ (o p : Obj) b, Lo w5 b → ((w5.alloc o).alloc p).heap[b]? = w5.heap[b]? := fun o p b hb' => by have h' : b < w5.heap.size := hb'; exact heap_old (by simp; omega) (heap_old h' rfl)
  have hq := fun o p => Lib.hid (eqTy_any _ (parseT x) (parseT x) _ _ _ _ ((w5.alloc o).alloc p) (Lo w5) (Nat.le_refl _) (H4'.out.keep (hin o p)) (H5.out.keep (hin o p)) (fun b hb' => by have h' : b < w5.heap.size := hb'; simp; omega))
  rw [Ty.beq_self] at hq
  have fC : (((parseC x : Nat) : Int) == ((parseC x : Nat) : Int)) = true := beq_self_eq_true _
  clear hw5 h5 hin
  have HQ := Lib.hid hq
  clear hq
  have k0_0 := cv0 k0
  have k0_1 := cv1 k0
  have k0_f0 := free_heap k0 0
  have k0_f1 := free_heap k0 1
  have k0_l := lt_heap k0
  have K0 := Lib.hid k0
  clear k0
  have k1_0 := cv0 k1
  have k1_1 := cv1 k1
  have k1_f0 := free_heap k1 0
  have k1_f1 := free_heap k1 1
  have k1_l := lt_heap k1
  have K1 := Lib.hid k1
  clear k1
  go_wp2_with fail
  (with_reducible refine (HQ.out _ _).out.mono ?_)
  rintro e w6 ⟨rfl, hw6⟩
  have B6 := Lib.hid (((B5.out.alloc (by omega) (.cells #[.string s5, .slice A5 n5 c5] 24)).alloc (by simp; omega) (.cells #[.int .i64 (parseC x), .int .i64 (parseJ x)] 26)).trans (hw6.mono (by simp; omega)))
  clear hw6
  go_wp2_with fail
  go_returns
  exact ⟨rfl, B6.out⟩

end Go.Proofs.YthflahcnkhmpaaaDoor
