/-
  The law SimpleReadIsWritten: the walk.
-/
import Derived.Test.YthflahcnkhmpaaaDoorProg
import Derived.Test.YthflahcnkhmpaaaDoorParse
import Derived.Test.YthflahcnkhmpaaaDoorPrint
namespace Go.Proofs.YthflahcnkhmpaaaDoor
open Go Go.RowKit

theorem fault_ok (s : Sy) (h : s.nodes ≤ 200) (h' : s.depth ≤ 40) : s.ty.fault = 0 := by
  unfold Ty.fault; rw [Sy.val_ok s 1 0 (by omega) (by omega)]

/-- What is read is valid, and its text is what was read. -/
theorem parse_inr {x : ByteArray} {s : Sy} (h : parse x = .inr s) : s.ty.fault = 0 ∧ x = ⟨s.bytes.toArray⟩ := by
  unfold parse at h
  split at h
  · cases h
  split at h
  · cases h
  rename_i s' j m hr
  split at h
  · cases h
  rename_i hj
  injection h with h
  subst h
  obtain ⟨h1, _, h3, h4, h5, h6⟩ := rd_ok x 40 0 0 _ _ _ hr
  have hjs : j = x.size := by omega
  refine ⟨fault_ok _ (by omega) h5, bytes_mk ?_⟩
  rw [List.drop_zero, hjs, ← bytes_len x, List.drop_length, List.append_nil] at h6
  exact h6
theorem parse_inl {x : ByteArray} {p : Nat × Nat} (h : parse x = .inl p) : p.1 ≠ 0 := by
  unfold parse at h
  split at h
  · cases h; simp
  split at h
  · rename_i c j hr
    cases h
    rcases (rd_bad x 40 0 0 _ _ hr (by omega)).2 with e | e <;> simp [e]
  · split at h
    · cases h; simp
    · cases h

set_option maxRecDepth 100000 in
set_option maxHeartbeats 1600000 in
theorem written_any (x : ByteArray) (w : World) (S : Nat → Prop) (hx : x.size ≤ maxLen) (hS : ∀ b, S b → b < w.heap.size)
    (g0 : w.cell? ⟨0, 0, none⟩ = some (.int .i64 0)) (g1 : w.cell? ⟨0, 1, none⟩ = some (.int .i64 0)) :
    Calls Tryd.prog 8 #[.string x] w fun e w' => e = .returned (.bool true) ∧ Below w.heap.size w w' := by
  have hg := World.block_lt_of_cell? w _ g0
  have G0 := Lib.hid g0
  have G1 := Lib.hid g1
  have HX := Lib.hid hx
  clear g0 g1 hS hx
  go_enter Tryd.func8, Tryd.ntmps8
  go_wp2_with fail
  refine (base_any bE w (by decide +kernel)).mono ?_
  rintro e w1 ⟨rfl, h1, hw1⟩
  have B1 := Lib.hid hw1
  have z1 := hw1.size
  have H1 := Lib.hid h1
  clear h1 hw1
  go_wp2_with fail
  refine (print_ok .e _ _ _ _ H1.out (fun _ h => h.elim) (fault_ok _ (by decide) (by decide)) (by decide)).mono ?_
  rw [show (⟨(Sy.e).bytes.toArray⟩ : ByteArray) = bE from rfl]
  rintro e w2 ⟨rfl, hw2⟩
  have B2 := Lib.hid (B1.out.trans (hw2.mono z1))
  have z2 := hw2.size
  have c0 := (B2.out.cell (p := ⟨0, 0, none⟩) hg).trans G0.out
  have c1 := (B2.out.cell (p := ⟨0, 1, none⟩) hg).trans G1.out
  have l2 : 0 < w2.heap.size := by omega
  have hbe : (bE.toList == [101]) = true := by simp [bE]
  clear hw2
  go_wp2_with fail
  refine (parse_any x _ HX.out).mono ?_
  unfold ParseAt parseC parseJ parseT
  cases hp : parse x with
  | inl p =>
    have hp1 := parse_inl hp
    have hp' : ((p.1 : Int) == 0) = false := beq_eq_false_iff_ne.2 (by omega)
    simp only
    clear hp hp1
    rintro e w3 ⟨v0, v1, rfl, h3, hw3⟩
    obtain ⟨su, Au, nu, cu, rfl, rfl⟩ := h3.shape
    have B3 := Lib.hid ((B2.out.alloc (by omega) _).trans (hw3.mono (by simp; omega)))
    have z3 : w2.heap.size + 1 ≤ w3.heap.size := by have := hw3.size; simpa using this
    have c0' := (B3.out.cell (p := ⟨0, 0, none⟩) hg).trans G0.out
    have c1' := (B3.out.cell (p := ⟨0, 1, none⟩) hg).trans G1.out
    have l3 : 0 < w3.heap.size := by omega
    clear hw3 h3 c0 c1
    go_wp2_with fail
    go_returns
    exact ⟨rfl, (B3.out.alloc (by omega) _).alloc (by simp; omega) _⟩
  | inr s =>
    obtain ⟨hf, hxs⟩ := parse_inr hp
    simp only
    clear hp
    rintro e w3 ⟨v0, v1, rfl, h3, hw3⟩
    obtain ⟨su, Au, nu, cu, rfl, rfl⟩ := h3.shape
    have B3 := Lib.hid ((B2.out.alloc (by omega) _).trans (hw3.mono (by simp; omega)))
    have z3 : w2.heap.size + 1 ≤ w3.heap.size := by have := hw3.size; simpa using this
    have c0' := (B3.out.cell (p := ⟨0, 0, none⟩) hg).trans G0.out
    have c1' := (B3.out.cell (p := ⟨0, 1, none⟩) hg).trans G1.out
    have l3 : 0 < w3.heap.size := by omega
    have H3 := Lib.hid (h3.mono (S' := Lo w3) (fun b hb => hb.2))
    have HXS := Lib.hid hxs
    have HF := Lib.hid hf
    clear hw3 h3 c0 c1 hxs hf
    go_wp2_with fail
    refine (print_any s.ty _ _ _ (Lo w3) (by exact H3.out.keep (fun b hb => heap_old (by unfold Lo at hb; simp; omega) (heap_old hb rfl))) (fun b hb => by unfold Lo at hb; simp; omega)).mono ?_
    rw [Sy.textv s HF.out, ← HXS.out, HF.out]
    rintro e w4 ⟨rfl, hw4⟩
    have B4 := Lib.hid (((B3.out.alloc (by omega) _).alloc (by simp; omega) _).trans (hw4.mono (by simp; omega)))
    have z4 : w3.heap.size + 2 ≤ w4.heap.size := by have := hw4.size; simpa using this
    have c0 := (B4.out.cell (p := ⟨0, 0, none⟩) hg).trans G0.out
    have c1 := (B4.out.cell (p := ⟨0, 1, none⟩) hg).trans G1.out
    have l4 : 0 < w4.heap.size := by omega
    clear hw4 c0' c1'
    go_wp2_with fail
    go_returns
    exact ⟨by simp, B4.out.alloc (by omega) _⟩

end Go.Proofs.YthflahcnkhmpaaaDoor
