/-
  The law SimpleOrderGrows: the walk.
-/
import Derived.Test.YtafbmhjahenbeaaDoorProg
import Derived.Test.YtafbmhjahenbeaaDoorOrder
namespace Go.Proofs.YtafbmhjahenbeaaDoor
open Go Go.RowKit

theorem fault_ok (s : Sy) (h : s.nodes ≤ 200) (h' : s.depth ≤ 40) : s.ty.fault = 0 := by
  unfold Ty.fault; rw [Sy.val_ok s 1 0 (by omega) (by omega)]

theorem Ty.ordv_le (t : Ty) : t.ordv ≤ 200 := by
  by_cases h : t.fault = 0
  · obtain ⟨s, rfl, hn, _⟩ := Ty.of_fault h
    have := s.ord_lt
    rw [Sy.ordv s h]; omega
  · rw [Ty.ordv_fault h]; omega
theorem Ty.ordv_fn (t u : Ty) (h : (Ty.mk bNil [t, u]).fault = 0) : (Ty.mk bNil [t, u]).ordv = max (t.ordv + 1) u.ordv := by
  obtain ⟨s, e, hn, hd⟩ := Ty.of_fault h
  match s, e with
  | .fn a b, e =>
    simp only [Sy.ty, Ty.mk.injEq, List.cons.injEq, and_true, true_and] at e
    obtain ⟨rfl, rfl⟩ := e
    simp only [Sy.nodes, Sy.depth] at hn hd
    rw [Sy.ordv a (fault_ok a (by omega) (by omega)), Sy.ordv b (fault_ok b (by omega) (by omega))]
    exact Sy.ordv (.fn a b) h
  | .e, e => simp [Sy.ty] at e
  | .t, e => simp [Sy.ty] at e

set_option maxRecDepth 100000 in
theorem orderGrows_any (t u : Ty) (a0 a1 b0 b1 : Value) (w : World) (S : Nat → Prop) (ht : t.In w S a0 a1) (hu : u.In w S b0 b1) (hS : ∀ b, S b → b < w.heap.size)
    (g0 : w.cell? ⟨0, 0, none⟩ = some (.int .i64 0)) (g1 : w.cell? ⟨0, 1, none⟩ = some (.int .i64 0)) :
    Calls Tryd.prog 3 #[.agg #[a0, a1], .agg #[b0, b1]] w fun e w' => e = .returned (.bool true) ∧ Below w.heap.size w w' := by
  obtain ⟨sx, Ax, nx, cx, rfl, rfl⟩ := ht.shape
  obtain ⟨sy, Ay, ny, cy, rfl, rfl⟩ := hu.shape
  have HT := Lib.hid ht
  have HU := Lib.hid hu
  have HS := Lib.hid hS
  have hg := World.block_lt_of_cell? w _ g0
  have G0 := Lib.hid g0
  have G1 := Lib.hid g1
  clear ht hu hS g0 g1
  go_enter Tryd.func3, Tryd.ntmps3
  go_wp2_with fail
  refine (et_any _).mono ?_
  rintro e w1 ⟨u0, u1, rfl, h1, hw1⟩
  have hb1 : Below w.heap.size w w1 := (show Below w.heap.size w _ by go_grown).trans (hw1.mono (by go_size))
  have B1 := Lib.hid hb1
  have E1 := Lib.hid h1
  have W1 := Lib.hid hw1
  have z1 : w.heap.size + 2 ≤ w1.heap.size := by have := hw1.size; simpa using this
  clear h1 hw1 hb1
  go_wp2_with fail
  refine (base_any _ _ (by decide +kernel)).mono ?_
  rintro e w2 ⟨rfl, h2, hw2⟩
  have E2 := Lib.hid h2
  have W2 := Lib.hid hw2
  have B2 := Lib.hid (B1.out.trans (hw2.mono (by omega)))
  have z2 : w1.heap.size ≤ w2.heap.size := hw2.size
  clear h2 hw2
  go_wp2_with fail
  refine (to_any _ _ _ _ _ _ _ (fun b => b < w1.heap.size) ((E1.out.below W2.out (fun b h => by rcases h with h | h; exact h.elim; exact h.2)).mono (fun b h => by rcases h with h | h; exact h.elim; exact h.2)) (E2.out.mono (fun _ h => h.elim)) (by intro b hb; omega)).mono ?_
  rintro e w3 ⟨x0, x1, rfl, h3, hw3⟩
  have E3 := Lib.hid h3
  have W3 := Lib.hid hw3
  have B3 := Lib.hid (B2.out.trans (hw3.mono (by omega)))
  have z3 : w2.heap.size ≤ w3.heap.size := hw3.size
  clear h3 hw3
  go_wp2_with fail
  refine (orderOf_any _ _ _ _ _ E3.out (Ex.lo (by intro b hb; omega) z3)).mono ?_
  rintro e w4 ⟨rfl, hw4⟩
  rw [show (Ty.mk bNil [Ty.mk bNil [Ty.mk bE [], Ty.mk bT []], Ty.mk { data := #[116] } []]) = (Sy.fn (.fn .e .t) .t).ty from rfl, fault_ok (Sy.fn (.fn .e .t) .t) (by decide) (by decide), Sy.ordv (Sy.fn (.fn .e .t) .t) (fault_ok _ (by decide) (by decide)), show (Sy.fn (.fn .e .t) .t).ord = 2 from rfl]
  have hb4 := B3.out.trans (hw4.mono (by omega))
  have c0 := (hb4.cell (p := ⟨0, 0, none⟩) hg).trans G0.out
  have c1 := (hb4.cell (p := ⟨0, 1, none⟩) hg).trans G1.out
  have a4 : w4.heap[w.heap.size]? = some (.cells #[.string sx, .slice Ax nx cx] 24 (0, 0)) := by
    rw [hw4.block _ (by omega), W3.out.block _ (by omega), W2.out.block _ (by omega), W1.out.block _ (by go_size)]
    exact heap_old (by go_size) (heap_at (by go_size))
  have b4 : w4.heap[w.heap.size + 1]? = some (.cells #[.string sy, .slice Ay ny cy] 24 (0, 0)) := by
    rw [hw4.block _ (by omega), W3.out.block _ (by omega), W2.out.block _ (by omega), W1.out.block _ (by go_size)]
    exact heap_at (by go_size)
  have B4 := Lib.hid hb4
  have z4 : w3.heap.size ≤ w4.heap.size := hw4.size
  clear hw4 hb4
  have p0 := cellv a4 0 rfl
  have p1 := cellv a4 1 rfl
  have q0 := cellv b4 0 rfl
  have q1 := cellv b4 1 rfl
  have A4 := Lib.hid a4
  have BB4 := Lib.hid b4
  have l0 := lt_heap a4
  have l1 := lt_heap b4
  have l2 : 0 < w4.heap.size := by omega
  clear a4 b4
  go_wp2_with fail
  refine (orderOf_any t _ _ _ S (by exact (HT.out.below B4.out HS.out).keep (fun k hk => heap_old (by have := HS.out k hk; omega) rfl)) (by intro b hb; have := HS.out b hb; simp; omega)).mono ?_
  rintro e w5 ⟨rfl, hw5⟩
  have B5 := Lib.hid ((B4.out.alloc (by omega) _).trans (hw5.mono (by go_size)))
  have b5 : w5.heap[w.heap.size + 1]? = some (.cells #[.string sy, .slice Ay ny cy] 24 (0, 0)) := (hw5.block _ (by go_size)).trans (heap_old (by omega) BB4.out)
  have a5 : w5.heap[w.heap.size]? = some (.cells #[.string sx, .slice Ax nx cx] 24 (0, 0)) := (hw5.block _ (by go_size)).trans (heap_old (by omega) A4.out)
  have z5 : w4.heap.size + 1 ≤ w5.heap.size := by have := hw5.size; simpa using this
  have q0' := cellv b5 0 rfl
  have q1' := cellv b5 1 rfl
  have p0' := cellv a5 0 rfl
  have p1' := cellv a5 1 rfl
  have BB5 := Lib.hid b5
  have A5 := Lib.hid a5
  have l0' := lt_heap a5
  have l1' := lt_heap b5
  clear b5 a5 hw5
  go_wp2_with fail
  refine (orderOf_any u _ _ _ S (by exact (HU.out.below B5.out HS.out).keep (fun k hk => heap_old (by have := HS.out k hk; omega) rfl)) (by intro b hb; have := HS.out b hb; simp; omega)).mono ?_
  rintro e w6 ⟨rfl, hw6⟩
  have B6 := Lib.hid ((B5.out.alloc (by omega) _).trans (hw6.mono (by go_size)))
  have b6 : w6.heap[w.heap.size + 1]? = some (.cells #[.string sy, .slice Ay ny cy] 24 (0, 0)) := (hw6.block _ (by go_size)).trans (heap_old (by omega) BB5.out)
  have a6 : w6.heap[w.heap.size]? = some (.cells #[.string sx, .slice Ax nx cx] 24 (0, 0)) := (hw6.block _ (by go_size)).trans (heap_old (by omega) A5.out)
  have f6 : w6.heap[w5.heap.size]? = some (.cells #[.int .i64 t.fault, .int .i64 0] 26 (0, 0)) := (hw6.block _ (by go_size)).trans (heap_at (by omega))
  have z6 : w5.heap.size + 1 ≤ w6.heap.size := by have := hw6.size; simpa using this
  have q0'' := cellv b6 0 rfl
  have q1'' := cellv b6 1 rfl
  have p0'' := cellv a6 0 rfl
  have p1'' := cellv a6 1 rfl
  have F6 := Lib.hid f6
  have l0'' := lt_heap a6
  have l1'' := lt_heap b6
  clear b6 a6 f6 hw6
  go_wp2_with fail
  refine (to_any t u _ _ _ _ _ S (by exact (HT.out.below B6.out HS.out).keep (fun k hk => heap_old (by have := HS.out k hk; omega) rfl)) (by exact (HU.out.below B6.out HS.out).keep (fun k hk => heap_old (by have := HS.out k hk; omega) rfl)) (by intro b hb; have := HS.out b hb; simp; omega)).mono ?_
  rintro e w7 ⟨x0', x1', rfl, h7, hw7⟩
  have B7 := Lib.hid ((B6.out.alloc (by omega) _).trans (hw7.mono (by go_size)))
  have E7 := Lib.hid h7
  have f7 : w7.heap[w5.heap.size]? = some (.cells #[.int .i64 t.fault, .int .i64 0] 26 (0, 0)) := (hw7.block _ (by go_size)).trans (heap_old (by omega) F6.out)
  have g7 : w7.heap[w6.heap.size]? = some (.cells #[.int .i64 u.fault, .int .i64 0] 26 (0, 0)) := (hw7.block _ (by go_size)).trans (heap_at (by omega))
  have z7 : w6.heap.size + 1 ≤ w7.heap.size := by have := hw7.size; simpa using this
  have F7 := Lib.hid f7
  have G7 := Lib.hid g7
  clear f7 g7 hw7 h7
  go_wp2_with fail
  refine (orderOf_any _ _ _ _ _ E7.out (by rintro b (h | h); have := HS.out b h; omega; exact h.2)).mono ?_
  rintro e w8 ⟨rfl, hw8⟩
  have B8 := Lib.hid (B7.out.trans (hw8.mono (by omega)))
  have f8 : w8.heap[w5.heap.size]? = some (.cells #[.int .i64 t.fault, .int .i64 0] 26 (0, 0)) := (hw8.block _ (by omega)).trans F7.out
  have g8 : w8.heap[w6.heap.size]? = some (.cells #[.int .i64 u.fault, .int .i64 0] 26 (0, 0)) := (hw8.block _ (by omega)).trans G7.out
  have z8 : w7.heap.size ≤ w8.heap.size := hw8.size
  have r0 := cellv f8 0 rfl
  have r1 := cellv f8 1 rfl
  have s0 := cellv g8 0 rfl
  have s1 := cellv g8 1 rfl
  have c0' := (B8.out.cell (p := ⟨0, 0, none⟩) hg).trans G0.out
  have c1' := (B8.out.cell (p := ⟨0, 1, none⟩) hg).trans G1.out
  have l8 : 0 < w8.heap.size := by omega
  have l8' := lt_heap f8
  have l8'' := lt_heap g8
  clear f8 g8 hw8
  have hx := Ty.ordv_le t
  have hy := Ty.ordv_le u
  have HM := Lib.hid (Ty.ordv_fn t u)
  generalize t.ordv = x at *
  generalize u.ordv = y at *
  generalize (Ty.mk bNil [t, u]).ordv = z at *
  generalize t.fault = ft at *
  generalize u.fault = fu at *
  generalize (Ty.mk bNil [t, u]).fault = fz at *
  by_cases n1 : ft = 0
  case neg =>
    have n1' : ((ft : Int) == 0) = false := beq_eq_false_iff_ne.2 (by omega)
    go_wp2_with fail
    go_returns
    exact ⟨rfl, B8.out.alloc (by omega) _⟩
  subst n1
  by_cases n2 : fu = 0
  case neg =>
    have n2' : ((fu : Int) == 0) = false := beq_eq_false_iff_ne.2 (by omega)
    go_wp2_with fail
    go_returns
    exact ⟨rfl, B8.out.alloc (by omega) _⟩
  subst n2
  by_cases n3 : fz = 0
  case neg =>
    have n3' : ((fz : Int) == 0) = false := beq_eq_false_iff_ne.2 (by omega)
    go_wp2_with fail
    go_returns
    exact ⟨rfl, B8.out.alloc (by omega) _⟩
  subst n3
  have hz := HM.out rfl
  subst hz
  go_wp2_with fail
  all_goals
    go_returns
    exact ⟨ret_beq (by omega), B8.out.alloc (by omega) _⟩

end Go.Proofs.YtafbmhjahenbeaaDoor
