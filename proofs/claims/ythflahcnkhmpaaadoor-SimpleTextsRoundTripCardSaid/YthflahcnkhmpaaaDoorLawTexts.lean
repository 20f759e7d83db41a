/-
  The law SimpleTextsRoundTrip: the walk.
-/
import Derived.Test.YthflahcnkhmpaaaDoorProg
import Derived.Test.YthflahcnkhmpaaaDoorParse
import Derived.Test.YthflahcnkhmpaaaDoorPrint
import Derived.Test.YthflahcnkhmpaaaDoorEqTy
namespace Go.Proofs.YthflahcnkhmpaaaDoor
open Go Go.RowKit

theorem fault_ok (s : Sy) (h : s.nodes ≤ 200) (h' : s.depth ≤ 40) : s.ty.fault = 0 := by
  unfold Ty.fault; rw [Sy.val_ok s 1 0 (by omega) (by omega)]

/-- A valid type's text is read as the type. -/
theorem parse_bytes (s : Sy) (h : s.nodes ≤ 200) (h' : s.depth ≤ 40) : parse ⟨s.bytes.toArray⟩ = .inr s := by
  have hl := s.bytes_len
  have hsz : (⟨s.bytes.toArray⟩ : ByteArray).size = s.bytes.length := by simp [ByteArray.size]
  have hr := rd_text ⟨s.bytes.toArray⟩ s 40 0 0 [] (by simp) h' (by omega)
  unfold parse
  rw [if_neg (by omega), hr]
  simp only
  rw [if_neg (by omega)]
theorem parse_t : parse ⟨#[116]⟩ = .inr .t := parse_bytes .t (by decide) (by decide)

set_option maxRecDepth 100000 in
set_option maxHeartbeats 1600000 in
theorem texts_any (t : Ty) (a0 a1 : Value) (w : World) (S : Nat → Prop) (ht : t.In w S a0 a1) (hS : ∀ b, S b → b < w.heap.size)
    (g0 : w.cell? ⟨0, 0, none⟩ = some (.int .i64 0)) (g1 : w.cell? ⟨0, 1, none⟩ = some (.int .i64 0)) :
    Calls Tryd.prog 7 #[.agg #[a0, a1]] w fun e w' => e = .returned (.bool true) ∧ Below w.heap.size w w' := by
  obtain ⟨sx, Ax, nx, cx, rfl, rfl⟩ := ht.shape
  have HT := Lib.hid ht
  have HS := Lib.hid hS
  have hg := World.block_lt_of_cell? w _ g0
  have G0 := Lib.hid g0
  have G1 := Lib.hid g1
  clear ht hS g0 g1
  go_enter Tryd.func7, Tryd.ntmps7
  go_wp2_with fail
  refine (parse_any ⟨#[116]⟩ _ (by decide +kernel)).mono ?_
  unfold ParseAt parseC parseJ parseT
  rw [parse_t]
  simp only
  rintro e w1 ⟨v0, v1, rfl, h1, hw1⟩
  obtain ⟨A1, c1, rfl, rfl⟩ := Sy.In_t h1
  have B1 := Lib.hid ((show Below w.heap.size w _ by go_grown).trans (hw1.mono (by go_size)))
  have z1 : w.heap.size + 1 ≤ w1.heap.size := by have := hw1.size; simpa using this
  have a1 : w1.heap[w.heap.size]? = some (.cells #[.string sx, .slice Ax nx cx] 24 (0, 0)) := (hw1.block _ (by simp)).trans (heap_at rfl)
  have c0 := (B1.out.cell (p := ⟨0, 0, none⟩) hg).trans G0.out
  have c1 := (B1.out.cell (p := ⟨0, 1, none⟩) hg).trans G1.out
  have l1 : 0 < w1.heap.size := by omega
  have p0 := cellv a1 0 rfl
  have p1 := cellv a1 1 rfl
  have l0 := lt_heap a1
  have A1 := Lib.hid a1
  have hbt : (bT.toList == [116]) = true := by simp [bT]
  clear hw1 h1 a1
  go_wp2_with fail
  refine (print_any t _ _ _ S (by exact (HT.out.below B1.out HS.out).keep (fun k hk => heap_old (by have := HS.out k hk; simp; omega) (heap_old (by have := HS.out k hk; omega) rfl))) (by intro b hb; have := HS.out b hb; simp; omega)).mono ?_
  rintro e w2 ⟨rfl, hw2⟩
  have z2 : w1.heap.size + 2 ≤ w2.heap.size := by have := hw2.size; simpa using this
  have B2 := Lib.hid (((B1.out.alloc (by omega) _).alloc (by simp; omega) _).trans (hw2.mono (by simp; omega)))
  have a2 := (hw2.block _ (by have := lt_heap A1.out; simp; omega)).trans (heap_old (by have := lt_heap A1.out; simp; omega) (heap_old (lt_heap A1.out) A1.out))
  have c0' := (B2.out.cell (p := ⟨0, 0, none⟩) hg).trans G0.out
  have c1' := (B2.out.cell (p := ⟨0, 1, none⟩) hg).trans G1.out
  have l2 : 0 < w2.heap.size := by omega
  have q0 := cellv a2 0 rfl
  have q1 := cellv a2 1 rfl
  have y2 := lt_heap a2
  have A2 := Lib.hid a2
  clear hw2 a2 c0 c1 p0 p1
  by_cases hf : t.fault = 0
  case neg =>
    have hf' : ((t.fault : Int) == 0) = false := beq_eq_false_iff_ne.2 (by omega)
    clear hf
    go_wp2_with fail
    go_returns
    exact ⟨rfl, B2.out.alloc (by omega) _⟩
  obtain ⟨s, rfl, hn, hd⟩ := Ty.of_fault hf
  rw [Sy.textv s hf, hf]
  clear hf
  have hp := parse_bytes s hn hd
  have hl := s.bytes_len
  obtain ⟨x, ex, zx⟩ := s.string
  rw [ex] at hp ⊢
  have hxs : x.size ≤ 4000 := by omega
  have HPx := Lib.hid hp
  clear ex zx hl hp
  go_wp2_with fail
  refine (parse_any x _ (by unfold maxLen; omega)).mono ?_
  unfold ParseAt parseC parseJ parseT
  rw [HPx.out]
  simp only
  rintro e w3 ⟨u0, u1, rfl, h3, hw3⟩
  obtain ⟨su, Au, nu, cu, rfl, rfl⟩ := h3.shape
  have z3 : w2.heap.size + 1 ≤ w3.heap.size := by have := hw3.size; simpa using this
  have B3 := Lib.hid ((B2.out.alloc (by omega) _).trans (hw3.mono (by simp; omega)))
  have a3 := (hw3.block _ (by have := lt_heap A2.out; simp; omega)).trans (heap_old (lt_heap A2.out) A2.out)
  have c0 := (B3.out.cell (p := ⟨0, 0, none⟩) hg).trans G0.out
  have c1 := (B3.out.cell (p := ⟨0, 1, none⟩) hg).trans G1.out
  have l3 : 0 < w3.heap.size := by omega
  have p0 := cellv a3 0 rfl
  have p1 := cellv a3 1 rfl
  have y3 := lt_heap a3
  have H3 := Lib.hid (h3.mono (S' := Lo w3) (fun b hb => hb.2))
  clear hw3 h3 a3 c0' c1' q0 q1
  go_wp2_with fail
  refine (eqTy_any _ s.ty s.ty _ _ _ _ _ (Lo w3) (Nat.le_refl _) (by exact ((HT.out.below B3.out HS.out).mono (fun b hb => by have := HS.out b hb; unfold Lo; omega)).keep (fun b hb => heap_old (by unfold Lo at hb; simp; omega) (heap_old hb rfl))) (by exact H3.out.keep (fun b hb => heap_old (by unfold Lo at hb; simp; omega) (heap_old hb rfl))) (fun b hb => by unfold Lo at hb; simp; omega)).mono ?_
  rw [Ty.beq_self]
  rintro e w4 ⟨rfl, hw4⟩
  have B4 := Lib.hid (((B3.out.alloc (by omega) _).alloc (by simp; omega) _).trans (hw4.mono (by simp; omega)))
  clear hw4
  go_wp2_with fail
  go_returns
  exact ⟨rfl, B4.out⟩

end Go.Proofs.YthflahcnkhmpaaaDoor
