/-
  The law SimpleMatchesSpec: the walk.
-/
import Derived.Test.YthflahcnkhmpaaaDoorProg
import Derived.Test.YthflahcnkhmpaaaDoorArgs
import Derived.Test.YthflahcnkhmpaaaDoorFault
namespace Go.Proofs.YthflahcnkhmpaaaDoor
open Go Go.RowKit

theorem fault_ok (s : Sy) (h : s.nodes ≤ 200) (h' : s.depth ≤ 40) : s.ty.fault = 0 := by
  unfold Ty.fault; rw [Sy.val_ok s 1 0 (by omega) (by omega)]

/-- What the head of the law does: the example is printed right. -/
theorem et_text : (⟨(Sy.fn .e .t).bytes.toArray⟩ : ByteArray) = ⟨#[40, 101, 32, 116, 41]⟩ := rfl

open Classical in
/-- What simple.Split returns: nothing beside a fault. -/
noncomputable def Ty.argsv (t : Ty) : List Ty := if h : ∃ s : Sy, t = s.ty ∧ t.fault = 0 then (Classical.choose h).args.map Sy.ty else []
open Classical in
noncomputable def Ty.basev (t : Ty) : ByteArray := if h : ∃ s : Sy, t = s.ty ∧ t.fault = 0 then (Classical.choose h).last.base else ⟨#[]⟩
theorem Sy.argsv (s : Sy) (h : s.ty.fault = 0) : s.ty.argsv = s.args.map Sy.ty := by
  have hh : ∃ s' : Sy, s.ty = s'.ty ∧ s.ty.fault = 0 := ⟨s, rfl, h⟩
  unfold Ty.argsv
  rw [dif_pos hh, ← Sy.ty_inj _ _ (Classical.choose_spec hh).1]
theorem Sy.basev (s : Sy) (h : s.ty.fault = 0) : s.ty.basev = s.last.base := by
  have hh : ∃ s' : Sy, s.ty = s'.ty ∧ s.ty.fault = 0 := ⟨s, rfl, h⟩
  unfold Ty.basev
  rw [dif_pos hh, ← Sy.ty_inj _ _ (Classical.choose_spec hh).1]
theorem Ty.argsv_fault {t : Ty} (h : t.fault ≠ 0) : t.argsv = [] := by
  unfold Ty.argsv
  rw [dif_neg]
  rintro ⟨_, _, h'⟩
  exact h h'
theorem Ty.basev_fault {t : Ty} (h : t.fault ≠ 0) : t.basev = ⟨#[]⟩ := by
  unfold Ty.basev
  rw [dif_neg]
  rintro ⟨_, _, h'⟩
  exact h h'
theorem split_any (t : Ty) (v0 v1 : Value) (w : World) (S : Nat → Prop) (ht : t.In w S v0 v1) (hS : ∀ b, S b → b < w.heap.size) :
    Calls Tryd.prog 19 #[.agg #[v0, v1]] w fun e w' => ∃ A n c, e = .returned (.tuple #[.slice A n c, .agg #[.string t.basev, .slice none 0 0], .agg #[.int .i64 t.fault, .int .i64 0]]) ∧ tyRep.Sl w' (Fresh w w') (.slice A n c) t.argsv ∧ Below w.heap.size w w' := by
  by_cases hf : t.fault = 0
  · obtain ⟨s, rfl, hn, _⟩ := Ty.of_fault hf
    rw [hf, Sy.argsv s hf, Sy.basev s hf]
    refine (split_ok s v0 v1 w S ht hS hf hn).mono ?_
    rintro e w' ⟨u, rfl, h1, h2⟩
    obtain ⟨A, n, c, rfl, h3⟩ := h1
    exact ⟨A, n, c, rfl, ⟨A, n, c, rfl, h3⟩, h2⟩
  · rw [Ty.argsv_fault hf, Ty.basev_fault hf]
    refine (split_fault t v0 v1 w S ht hS hf).mono ?_
    rintro e w' ⟨rfl, h2⟩
    exact ⟨none, 0, 0, rfl, Rep.Sl.nil, h2⟩

theorem zero_in (w : World) (S : Nat → Prop) : Ty.In w S (.mk ⟨#[]⟩ []) (.string ⟨#[]⟩) (.slice none 0 0) := Ty.In.mk_ (by decide +kernel) rfl (by omega) (by omega)

set_option maxRecDepth 100000 in
set_option maxHeartbeats 4000000 in
theorem matches_any (t : Ty) (a0 a1 : Value) (w : World) (S : Nat → Prop) (ht : t.In w S a0 a1) (hS : ∀ b, S b → b < w.heap.size)
    (g0 : w.cell? ⟨0, 0, none⟩ = some (.int .i64 0)) (g1 : w.cell? ⟨0, 1, none⟩ = some (.int .i64 0)) :
    Calls Tryd.prog 6 #[.agg #[a0, a1]] w fun e w' => e = .returned (.bool true) ∧ Below w.heap.size w w' := by
  obtain ⟨sx, Ax, nx, cx, rfl, rfl⟩ := ht.shape
  have HT := Lib.hid ht
  have HS := Lib.hid hS
  have hg := World.block_lt_of_cell? w _ g0
  have G0 := Lib.hid g0
  have G1 := Lib.hid g1
  clear ht hS g0 g1
  go_enter Tryd.func6, Tryd.ntmps6
  go_wp2_with fail
  refine (et_any _).mono ?_
  rintro e w1 ⟨u0, u1, rfl, h1, hw1⟩
  have B1 := Lib.hid ((show Below w.heap.size w _ by go_grown).trans (hw1.mono (by go_size)))
  have E1 := Lib.hid h1
  have W1 := Lib.hid hw1
  have z1 : w.heap.size + 1 ≤ w1.heap.size := by have := hw1.size; simpa using this
  clear h1 hw1
  go_wp2_with fail
  refine (print_ok (.fn .e .t) _ _ _ _ E1.out (fun b h => by rcases h with h | h; exact h.elim; exact h.2) (fault_ok _ (by decide) (by decide)) (by decide)).mono ?_
  rw [et_text]
  rintro e w2 ⟨rfl, hw2⟩
  have B2 := Lib.hid (B1.out.trans (hw2.mono (by omega)))
  have z2 : w1.heap.size ≤ w2.heap.size := hw2.size
  have a2 : w2.heap[w.heap.size]? = some (.cells #[.string sx, .slice Ax nx cx] 24 (0, 0)) := by
    rw [hw2.block _ (by omega), W1.out.block _ (by go_size)]
    exact heap_at (by go_size)
  have c0 := (B2.out.cell (p := ⟨0, 0, none⟩) hg).trans G0.out
  have c1 := (B2.out.cell (p := ⟨0, 1, none⟩) hg).trans G1.out
  have l2 : 0 < w2.heap.size := by omega
  have p0 := cellv a2 0 rfl
  have p1 := cellv a2 1 rfl
  have l0 := lt_heap a2
  have A2 := Lib.hid a2
  clear hw2 a2
  go_wp2_with fail
  refine (refFault_any t _ _ _ S (by exact (HT.out.below B2.out HS.out).keep (fun k hk => heap_old (by have := HS.out k hk; omega) rfl)) (by intro b hb; have := HS.out b hb; simp; omega)).mono ?_
  rintro e w3 ⟨rfl, hw3⟩
  have B3 := Lib.hid ((B2.out.alloc (by omega) _).trans (hw3.mono (by simp; omega)))
  have z3 : w2.heap.size + 1 ≤ w3.heap.size := by have := hw3.size; simpa using this
  have a3 : w3.heap[w.heap.size]? = some (.cells #[.string sx, .slice Ax nx cx] 24 (0, 0)) := (hw3.block _ (by simp; omega)).trans (heap_old (by omega) A2.out)
  have p0' := cellv a3 0 rfl
  have p1' := cellv a3 1 rfl
  have y3 := lt_heap a3
  have A3 := Lib.hid a3
  clear hw3 a3 c0 c1 p0 p1
  go_wp2_with fail
  refine (print_any t _ _ _ S (by exact (HT.out.below B3.out HS.out).keep (fun k hk => heap_old (by have := HS.out k hk; omega) rfl)) (by intro b hb; have := HS.out b hb; simp; omega)).mono ?_
  rintro e w4 ⟨rfl, hw4⟩
  have B4 := Lib.hid ((B3.out.alloc (by omega) _).trans (hw4.mono (by simp; omega)))
  have z4 : w3.heap.size + 1 ≤ w4.heap.size := by have := hw4.size; simpa using this
  have a4 : w4.heap[w.heap.size]? = some (.cells #[.string sx, .slice Ax nx cx] 24 (0, 0)) := (hw4.block _ (by simp; omega)).trans (heap_old (by omega) A3.out)
  have d4 : w4.heap[w3.heap.size]? = some (.cells #[.int .i64 t.fault, .int .i64 0] 26 (0, 0)) := (hw4.block _ (by simp)).trans (heap_at rfl)
  have p0 := cellv a4 0 rfl
  have p1 := cellv a4 1 rfl
  have y4 := lt_heap a4
  have A4 := Lib.hid a4
  have D4 := Lib.hid d4
  clear hw4 a4 d4 p0' p1'
  go_wp2_with fail
  refine (orderOf_any t _ _ _ S (by exact (HT.out.below B4.out HS.out).keep (fun k hk => heap_old (by have := HS.out k hk; omega) rfl)) (by intro b hb; have := HS.out b hb; simp; omega)).mono ?_
  rintro e w5 ⟨rfl, hw5⟩
  have B5 := Lib.hid ((B4.out.alloc (by omega) _).trans (hw5.mono (by simp; omega)))
  have z5 : w4.heap.size + 1 ≤ w5.heap.size := by have := hw5.size; simpa using this
  have a5 : w5.heap[w.heap.size]? = some (.cells #[.string sx, .slice Ax nx cx] 24 (0, 0)) := (hw5.block _ (by simp; omega)).trans (heap_old (by omega) A4.out)
  have d5 : w5.heap[w3.heap.size]? = some (.cells #[.int .i64 t.fault, .int .i64 0] 26 (0, 0)) := (hw5.block _ (by simp; omega)).trans (heap_old (by omega) D4.out)
  have e5 : w5.heap[w4.heap.size]? = some (.cells #[.int .i64 t.fault, .int .i64 0] 26 (0, 0)) := (hw5.block _ (by simp)).trans (heap_at rfl)
  have p0' := cellv a5 0 rfl
  have p1' := cellv a5 1 rfl
  have y5 := lt_heap a5
  have A5 := Lib.hid a5
  have D5 := Lib.hid d5
  have E5 := Lib.hid e5
  clear hw5 a5 d5 e5 p0 p1
  go_wp2_with fail
  refine (split_any t _ _ _ S (by exact (HT.out.below B5.out HS.out).keep (fun k hk => heap_old (by have := HS.out k hk; omega) rfl)) (by intro b hb; have := HS.out b hb; simp; omega)).mono ?_
  rintro e w6 ⟨Aq, nq, cq, rfl, hq, hw6⟩
  have B6 := Lib.hid ((B5.out.alloc (by omega) _).trans (hw6.mono (by simp; omega)))
  have z6 : w5.heap.size + 1 ≤ w6.heap.size := by have := hw6.size; simpa using this
  have a6 : w6.heap[w.heap.size]? = some (.cells #[.string sx, .slice Ax nx cx] 24 (0, 0)) := (hw6.block _ (by simp; omega)).trans (heap_old (by omega) A5.out)
  have d6 : w6.heap[w3.heap.size]? = some (.cells #[.int .i64 t.fault, .int .i64 0] 26 (0, 0)) := (hw6.block _ (by simp; omega)).trans (heap_old (by omega) D5.out)
  have e6 : w6.heap[w4.heap.size]? = some (.cells #[.int .i64 t.fault, .int .i64 0] 26 (0, 0)) := (hw6.block _ (by simp; omega)).trans (heap_old (by omega) E5.out)
  have f6 : w6.heap[w5.heap.size]? = some (.cells #[.int .i64 t.fault, .int .i64 0] 26 (0, 0)) := (hw6.block _ (by simp)).trans (heap_at rfl)
  have p0 := cellv a6 0 rfl
  have p1 := cellv a6 1 rfl
  have r0 := cellv d6 0 rfl
  have r1 := cellv d6 1 rfl
  have s0 := cellv e6 0 rfl
  have s1 := cellv e6 1 rfl
  have t0 := cellv f6 0 rfl
  have x1 := lt_heap d6
  have x2 := lt_heap e6
  have x3 := lt_heap f6
  have t1 := cellv f6 1 rfl
  have HQ := Lib.hid (hq.keep (fun _ _ => rfl) (fun b (hb : _) => (show b < w6.heap.size from hb.2)))
  have y6 := lt_heap a6
  have A6 := Lib.hid a6
  have D6 := Lib.hid d6
  have E6 := Lib.hid e6
  have F6 := Lib.hid f6
  clear hw6 a6 d6 e6 f6 p0' p1' hq
  go_wp2_with fail
  go_region_held3 (fun w' => w'.cell? ⟨w.heap.size, 0, none⟩ = some (.string sx) ∧ w'.cell? ⟨w.heap.size, 1, none⟩ = some (.slice Ax nx cx) ∧ w'.cell? ⟨w3.heap.size, 0, none⟩ = some (.int .i64 t.fault) ∧ w'.cell? ⟨w3.heap.size, 1, none⟩ = some (.int .i64 0) ∧
      w'.cell? ⟨w4.heap.size, 0, none⟩ = some (.int .i64 t.fault) ∧ w'.cell? ⟨w4.heap.size, 1, none⟩ = some (.int .i64 0) ∧ w'.cell? ⟨w5.heap.size, 0, none⟩ = some (.int .i64 t.fault) ∧ w'.cell? ⟨w5.heap.size, 1, none⟩ = some (.int .i64 0) ∧
      w'.cell? ⟨w6.heap.size + 1, 0, none⟩ = some (.int .i64 t.fault) ∧ w'.cell? ⟨w6.heap.size + 1, 1, none⟩ = some (.int .i64 0))
    ((first | (go_keep; done) | (go_split_ands; (repeat' apply And.intro) <;> (refine (kc _ _ (by go_size)).trans ?_; assumption))))
    ((go_at_call 25; refine (validate_any t _ _ _ S (by exact (HT.out.below B6.out HS.out).keep (fun k hk => heap_old (by have := HS.out k hk; simp; omega) (heap_old (by have := HS.out k hk; omega) rfl))) (by intro b hb; have := HS.out b hb; simp; omega)).mono ?_; rintro e w7 ⟨rfl, hw7⟩; obtain ⟨kc, kf⟩ := bcell hw7; have Hw7 := Lib.hid hw7))
  have z7 : w6.heap.size + 1 + 1 ≤ w7.heap.size := by have := hw7.size; simpa using this
  have B7 := Lib.hid ((((B6.out.alloc (by omega) _).alloc (by simp; omega) _).drew).trans (hw7.mono (by simp; omega)))
  have a7 : w7.heap[w.heap.size]? = some (.cells #[.string sx, .slice Ax nx cx] 24 (0, 0)) := (hw7.block _ (by simp; omega)).trans (heap_old (by simp; omega) (heap_old (by omega) A6.out))
  have d7 : w7.heap[w3.heap.size]? = some (.cells #[.int .i64 t.fault, .int .i64 0] 26 (0, 0)) := (hw7.block _ (by simp; omega)).trans (heap_old (by simp; omega) (heap_old (by omega) D6.out))
  have b7 : w7.heap[w6.heap.size]? = some (.cells #[.string t.basev, .slice none 0 0] 24 (0, 0)) := (hw7.block _ (by simp; omega)).trans (heap_old (by simp) (heap_at rfl))
  have c0 := (B7.out.cell (p := ⟨0, 0, none⟩) hg).trans G0.out
  have c1 := (B7.out.cell (p := ⟨0, 1, none⟩) hg).trans G1.out
  have l7 : 0 < w7.heap.size := by omega
  have HQ7 := Lib.hid (HQ.out.keep (S' := Lo w7) (fun b hb => (hw7.block b (by simp; omega)).trans (heap_old (by simp; omega) (heap_old hb rfl))) (fun b hb => by unfold Lo; omega))
  have q0 := cellv a7 0 rfl
  have q1 := cellv a7 1 rfl
  have i0 := cellv d7 0 rfl
  have i1 := cellv d7 1 rfl
  have j0 := cellv b7 0 rfl
  have j1 := cellv b7 1 rfl
  have k0 := lt_heap a7
  have k1 := lt_heap d7
  have k2 := lt_heap b7
  have A7 := Lib.hid a7
  have D7 := Lib.hid d7
  have J7 := Lib.hid b7
  clear hw7 Hw7 a7 d7 b7 kc kf p0 p1 r0 r1 s0 s1 t0 t1
  by_cases hf : t.fault = 0
  case neg =>
    have hf' : ((t.fault : Int) == 0) = false := beq_eq_false_iff_ne.2 (by omega)
    have hq := HQ7.out
    rw [Ty.argsv_fault hf] at hq
    obtain ⟨Aq', nq', cq', e, hnq, _⟩ := hq
    injection e with e1 e2 e3
    subst e1 e2 e3
    obtain rfl : 0 = nq := hnq
    have E1 := Lib.hid (Ty.ordv_fault hf)
    rw [Ty.basev_fault hf] at j0
    simp only [Ty.textv_fault hf, Ty.ordv_fault hf]
    clear hf
    go_wp2_with fail
    refine (eqTy_any _ (.mk ⟨#[]⟩ []) (.mk ⟨#[]⟩ []) _ _ _ _ _ (fun _ => False) (Nat.le_refl _) (zero_in _ _) (zero_in _ _) (fun _ h => h.elim)).mono ?_
    rw [Ty.beq_self]
    rintro e w8 ⟨rfl, hw8⟩
    have B8 := Lib.hid (B7.out.trans (hw8.mono (by omega)))
    clear hw8
    go_wp2_with fail
    go_returns
    exact ⟨rfl, B8.out⟩
  obtain ⟨s, rfl, hn, _⟩ := Ty.of_fault hf
  have HF := Lib.hid hf
  have hf' : ((s.ty.fault : Int) == 0) = true := by rw [hf]; rfl
  rw [Sy.basev s hf] at j0
  simp only [Sy.textv s hf, Sy.ordv s hf]
  have HQ7 := Lib.hid (by have := HQ7.out; rw [Sy.argsv s hf] at this; exact this)
  clear hf
  go_wp2_with fail
  refine (arguments_any s _ _ _ S (by exact HT.out.below B7.out HS.out) (by intro b hb; have := HS.out b hb; omega) hn).mono ?_
  rintro e w8 ⟨u, y0, y1, rfl, hu, hy, hw8⟩
  obtain ⟨sy, Ay, ny, cy, rfl, rfl⟩ := hy.shape
  have hex : ∀ b, Ex S w7 w8 b → b < w8.heap.size := Ex.lo (fun b hb => by have := HS.out b hb; omega) hw8.size
  have z8 : w7.heap.size ≤ w8.heap.size := hw8.size
  have B8 := Lib.hid (B7.out.trans (hw8.mono (by omega)))
  have HU := Lib.hid (hu.keep (fun _ _ => rfl) hex)
  have HY := Lib.hid hy
  have HQ8 := Lib.hid (HQ7.out.keep (S' := Lo w8) (fun b hb => hw8.block b hb) (fun b hb => by unfold Lo at *; omega))
  have a8 := (hw8.block _ (lt_heap A7.out)).trans A7.out
  have b8 := (hw8.block _ (lt_heap J7.out)).trans J7.out
  have A8 := Lib.hid a8
  have J8 := Lib.hid b8
  have p0 := cellv a8 0 rfl
  have p1 := cellv a8 1 rfl
  have k3 := lt_heap a8
  clear hw8 hu hy hex a8 b8 q0 q1 i0 i1 j0 j1
  go_wp2_with fail
  refine (refText_any s _ _ _ S (by exact (HT.out.below B8.out HS.out).keep (fun k hk => heap_old (by have := HS.out k hk; omega) rfl)) (by intro b hb; have := HS.out b hb; simp; omega) hn).mono ?_
  rintro e w9 ⟨rfl, hw9⟩
  have z9 : w8.heap.size + 1 ≤ w9.heap.size := by have := hw9.size; simpa using this
  have B9 := Lib.hid ((B8.out.alloc (by omega) _).trans (hw9.mono (by simp; omega)))
  have a9 := (hw9.block _ (by have := lt_heap A8.out; simp; omega)).trans (heap_old (lt_heap A8.out) A8.out)
  have b9 := (hw9.block _ (by have := lt_heap J8.out; simp; omega)).trans (heap_old (lt_heap J8.out) J8.out)
  have c9 : w9.heap[w8.heap.size]? = some (.cells #[.string sy, .slice Ay ny cy] 24 (0, 0)) := (hw9.block _ (by simp)).trans (heap_at rfl)
  have A9 := Lib.hid a9
  have J9 := Lib.hid b9
  have C9 := Lib.hid c9
  have HW9 := Lib.hid hw9
  have q0 := cellv a9 0 rfl
  have q1 := cellv a9 1 rfl
  have k4 := lt_heap a9
  have hst : ((⟨s.bytes.toArray⟩ : ByteArray).toList == (⟨s.bytes.toArray⟩ : ByteArray).toList) = true := by simp
  clear hw9 a9 b9 c9 p0 p1
  go_wp2_with fail
  refine (orderOf_ref s.nodes s _ _ _ S (Nat.le_refl _) (by exact HT.out.below B9.out HS.out) (by intro b hb; have := HS.out b hb; omega) hn).mono ?_
  rintro e w10 ⟨rfl, hw10⟩
  have z10 : w9.heap.size ≤ w10.heap.size := hw10.size
  have B10 := Lib.hid (B9.out.trans (hw10.mono (by omega)))
  have hso : ((s.ord : Int) == (s.ord : Int)) = true := by simp
  have HW10 := Lib.hid hw10
  clear hw10
  go_wp2_with fail
  have hk10 : ∀ b, b < w8.heap.size → w10.heap[b]? = w8.heap[b]? := fun b hb => (HW10.out.block b (by omega)).trans ((HW9.out.block b (by simp; omega)).trans (heap_old hb rfl))
  refine (eqTys_any (s.args.map Sy.ty) (s.args.map Sy.ty) _ _ _ (Lo w10) (HQ8.out.keep (fun b hb => hk10 b hb) (fun b hb => by unfold Lo at *; omega)) (HU.out.keep (fun b hb => hk10 b hb) (fun b hb => by unfold Lo; omega)) (fun _ h => h)).mono ?_
  rw [Ty.beqs_self]
  rintro e w11 ⟨rfl, hw11⟩
  have z11 : w10.heap.size ≤ w11.heap.size := hw11.size
  have B11 := Lib.hid (B10.out.trans (hw11.mono (by omega)))
  have b11 := (hw11.block _ (by have := lt_heap J9.out; omega)).trans ((HW10.out.block _ (lt_heap J9.out)).trans J9.out)
  have c11 := (hw11.block _ (by omega)).trans ((HW10.out.block _ (by omega)).trans C9.out)
  have r0 := cellv b11 0 rfl
  have r1 := cellv b11 1 rfl
  have r2 := lt_heap b11
  have s0 := cellv c11 0 rfl
  have s1 := cellv c11 1 rfl
  have s2 := lt_heap c11
  have hk11 : ∀ b, b < w8.heap.size → w11.heap[b]? = w8.heap[b]? := fun b hb => (hw11.block b (by omega)).trans (hk10 b hb)
  have HK11 := Lib.hid hk11
  rw [Sy.basev s HF.out] at r0
  clear hw11 b11 c11 hk11 hk10 q0 q1
  go_wp2_with fail
  refine (eqTy_any _ s.last.ty s.last.ty _ _ _ _ _ (Lo w11) (Nat.le_refl _) ?_ (HY.out.keep (fun b hb => HK11.out b (by have := HS.out b hb; omega)) |>.mono (fun b hb => by have := HS.out b hb; unfold Lo; omega)) (fun _ h => h)).mono ?_
  · rcases s.last_base with h | h
    · rw [h]; exact Ty.In.mk_ (by decide +kernel) rfl (by omega) (by omega)
    · rw [h]; exact Ty.In.mk_ (by decide +kernel) rfl (by omega) (by omega)
  rw [Ty.beq_self]
  rintro e w12 ⟨rfl, hw12⟩
  have B12 := Lib.hid (B11.out.trans (hw12.mono (by omega)))
  clear hw12
  go_wp2_with fail
  go_returns
  exact ⟨rfl, B12.out⟩

end Go.Proofs.YthflahcnkhmpaaaDoor
