/-
  The law SimpleSplitRebuilds: the walk.
-/
import Derived.Test.YthflahcnkhmpaaaDoorProg
import Derived.Test.YthflahcnkhmpaaaDoorSplit
import Derived.Test.YthflahcnkhmpaaaDoorEqTy
namespace Go.Proofs.YthflahcnkhmpaaaDoor
open Go Go.RowKit

theorem fault_ok (s : Sy) (h : s.nodes ≤ 200) (h' : s.depth ≤ 40) : s.ty.fault = 0 := by
  unfold Ty.fault; rw [Sy.val_ok s 1 0 (by omega) (by omega)]

set_option maxRecDepth 100000 in
set_option maxHeartbeats 1600000 in
theorem splitLaw_any (t : Ty) (a0 a1 : Value) (w : World) (S : Nat → Prop) (ht : t.In w S a0 a1) (hS : ∀ b, S b → b < w.heap.size)
    (g0 : w.cell? ⟨0, 0, none⟩ = some (.int .i64 0)) (g1 : w.cell? ⟨0, 1, none⟩ = some (.int .i64 0)) :
    Calls Tryd.prog 4 #[.agg #[a0, a1]] w fun e w' => e = .returned (.bool true) ∧ Below w.heap.size w w' := by
  obtain ⟨sx, Ax, nx, cx, rfl, rfl⟩ := ht.shape
  have HT := Lib.hid ht
  have HS := Lib.hid hS
  have hg := World.block_lt_of_cell? w _ g0
  have G0 := Lib.hid g0
  have G1 := Lib.hid g1
  clear ht hS g0 g1
  go_enter Tryd.func4, Tryd.ntmps4
  go_wp2_with fail
  refine (et_any _).mono ?_
  rintro e w1 ⟨u0, u1, rfl, h1, hw1⟩
  have B1 := Lib.hid ((show Below w.heap.size w _ by go_grown).trans (hw1.mono (by go_size)))
  have E1 := Lib.hid h1
  have W1 := Lib.hid hw1
  have z1 : w.heap.size + 1 ≤ w1.heap.size := by have := hw1.size; simpa using this
  clear h1 hw1
  go_wp2_with fail
  refine (split_ok (.fn .e .t) _ _ _ _ E1.out (fun b h => by rcases h with h | h; exact h.elim; exact h.2) (fault_ok _ (by decide) (by decide)) (by decide)).mono ?_
  rintro e w2 ⟨uu, rfl, h2, hw2⟩
  obtain ⟨Au, nu, cu, rfl, hn2, hx2⟩ := h2
  clear hx2
  obtain rfl : 1 = nu := hn2
  have B2 := Lib.hid (B1.out.trans (hw2.mono (by omega)))
  have z2 : w1.heap.size ≤ w2.heap.size := hw2.size
  have a2 : w2.heap[w.heap.size]? = some (.cells #[.string sx, .slice Ax nx cx] 24 (0, 0)) := by
    rw [hw2.block _ (by omega), W1.out.block _ (by go_size)]
    exact heap_at (by go_size)
  have c0 := (B2.out.cell (p := ⟨0, 0, none⟩) hg).trans G0.out
  have c1 := (B2.out.cell (p := ⟨0, 1, none⟩) hg).trans G1.out
  have l2 : 0 < w2.heap.size := by omega
  have p0 := cellv a2 0 rfl
  have p1 := cellv a2 1 rfl
  have l0 := lt_heap a2
  have A2 := Lib.hid a2
  have hlb : (Sy.fn Sy.e Sy.t).last.base = bT := rfl
  clear hw2 a2
  rw [hlb]
  clear hlb
  have hbt : (bT.toList == [116]) = true := by simp [bT]
  go_wp2_with fail
  by_cases hf : t.fault = 0
  case neg =>
    have hf' : ((t.fault : Int) == 0) = false := beq_eq_false_iff_ne.2 (by omega)
    have Hf := Lib.hid hf
    clear hf
    refine (split_fault t _ _ _ S (by exact (HT.out.below B2.out HS.out).keep (fun k hk => heap_old (by have := HS.out k hk; simp; omega) (heap_old (by have := HS.out k hk; omega) rfl))) (by intro b hb; have := HS.out b hb; simp; omega) Hf.out).mono ?_
    rintro e w3 ⟨rfl, hw3⟩
    have B3 := Lib.hid (((B2.out.alloc (by omega) _).alloc (by go_size) _).trans (hw3.mono (by simp; omega)))
    have c0' := (B3.out.cell (p := ⟨0, 0, none⟩) hg).trans G0.out
    have c1' := (B3.out.cell (p := ⟨0, 1, none⟩) hg).trans G1.out
    have z3 : w2.heap.size + 1 + 1 ≤ w3.heap.size := by have := hw3.size; simpa using this
    have l3 : 0 < w3.heap.size := by omega
    clear hw3
    go_wp2_with fail
    go_returns
    exact ⟨rfl, (B3.out.alloc (by omega) _).alloc (by go_size) _⟩
  obtain ⟨s, rfl, hn, _⟩ := Ty.of_fault hf
  have Hf := Lib.hid hf
  clear hf
  refine (split_ok s _ _ _ S (by exact (HT.out.below B2.out HS.out).keep (fun k hk => heap_old (by have := HS.out k hk; simp; omega) (heap_old (by have := HS.out k hk; omega) rfl))) (by intro b hb; have := HS.out b hb; simp; omega) Hf.out hn).mono ?_
  rintro e w3 ⟨us, rfl, h3, hw3⟩
  have B3 := Lib.hid (((B2.out.alloc (by omega) _).alloc (by go_size) _).trans (hw3.mono (by simp; omega)))
  have c0' := (B3.out.cell (p := ⟨0, 0, none⟩) hg).trans G0.out
  have c1' := (B3.out.cell (p := ⟨0, 1, none⟩) hg).trans G1.out
  have z3 : w2.heap.size + 1 + 1 ≤ w3.heap.size := by have := hw3.size; simpa using this
  have l3 : 0 < w3.heap.size := by omega
  have a3 : w3.heap[w.heap.size]? = some (.cells #[.string sx, .slice Ax nx cx] 24 (0, 0)) := (hw3.block _ (by simp; omega)).trans (heap_old (by simp; omega) (heap_old (by omega) A2.out))
  obtain ⟨As, ns, cs, rfl, hns, _, hA⟩ := h3
  rw [List.length_map] at hns
  subst hns
  have h3 : tyRep.Sl w3 (Lo w3) (.slice As s.args.length cs) (s.args.map Sy.ty) := ⟨As, s.args.length, cs, rfl, by simp, by have := s.args_len; simp [maxLen]; omega, fun hp => by
    obtain ⟨b, o, xs, e, hb, hx, hc⟩ := hA hp
    exact ⟨b, o, xs, e, hb.2, hx.keep (fun _ _ => rfl) (fun _ h => h.2), hc⟩⟩
  have H3 := Lib.hid h3
  have A3 := Lib.hid a3
  have hal := s.args_len
  clear hw3 h3 a3 hA
  go_wp2_with fail
  go_loopg [9] s.args.length (fun k v wr => ∃ (y0 y1 : Value), k ≤ s.args.length ∧ v = .int .i64 ((k : Int) - 1) ∧ wr.heap[w3.heap.size]? = some (.cells #[y0, y1] 24 (0, 0)) ∧
    ((s.args.drop k).foldr Sy.fn s.last).ty.In wr (fun b => b < wr.heap.size ∧ b ≠ w3.heap.size) y0 y1 ∧ Below w3.heap.size w3 wr)
  case atStart =>
    refine ⟨_, _, Nat.le_refl _, rfl, heap_old (by go_size) (heap_at (by go_size)), ?_, by go_grown⟩
    rw [List.drop_length]
    rcases s.last_base with h | h
    · rw [List.foldr_nil, h]
      exact Ty.In.mk_ (by decide +kernel) rfl (by omega) (by omega)
    · rw [List.foldr_nil, h]
      exact Ty.In.mk_ (by decide +kernel) rfl (by omega) (by omega)
  case round =>
    obtain ⟨y0, y1, hk, rfl, hb0, hin, hb⟩ := hrel
    obtain ⟨sy, Ay, ny, cy, rfl, rfl⟩ := hin.shape
    have a0 := cellv hb0 0 rfl
    have a1 := cellv hb0 1 rfl
    have a2 := free_heap hb0 0
    have a3 := free_heap hb0 1
    have a4 := lt_heap hb0
    have HIN := Lib.hid hin
    have HB0 := Lib.hid hb0
    have HB := Lib.hid hb
    have zr : w3.heap.size + 1 ≤ wr.heap.size := by omega
    have b0 := cellv ((hb.block _ (lt_heap A3.out)).trans A3.out) 0 rfl
    have b1 := cellv ((hb.block _ (lt_heap A3.out)).trans A3.out) 1 rfl
    clear hin hb0 hb
    cases gk with
    | zero =>
      have hs0 : ((s.args.drop 0).foldr Sy.fn s.last) = s := by rw [List.drop_zero]; exact s.rebuild
      have HS0 := Lib.hid hs0
      have hl0 : w.heap.size < wr.heap.size := by have := lt_heap A3.out; omega
      clear hs0
      go_wp2_with fail
      refine (eqTy_any s.ty.size s.ty s.ty _ _ _ _ _ (Lo wr) (Nat.le_refl _) (by have := HIN.out; rw [HS0.out] at this; exact this.mono (fun b h => h.1)) (by exact ((HT.out.below B3.out HS.out).below HB.out (fun b h => by have := HS.out b h; omega)).mono (fun b h => by have := HS.out b h; unfold Lo; omega)) (fun b h => h)).mono ?_
      rw [Ty.beq_self]
      rintro e w4 ⟨rfl, hw4⟩
      have HW4 := Lib.hid hw4
      clear hw4
      go_wp2_with fail
      go_returns
      exact ⟨rfl, (B3.out.trans (HB.out.mono (by omega))).trans (HW4.out.mono (by omega))⟩
    | succ k =>
      rw [show (((k + 1 : Nat)) : Int) - 1 = (k : Int) by omega]
      obtain ⟨b, o, xs, rfl, hSb, ⟨x0, x1, rfl, hx⟩, hcell⟩ := H3.out.at_ (k := k) (a := s.args[k].ty) (by rw [List.getElem?_map, List.getElem?_eq_getElem (by omega)]; rfl)
      obtain ⟨sx', Ax', nx', cx', rfl, rfl⟩ := hx.shape
      have f0 : wr.cell? ⟨b, o + k * 2, none⟩ = some (.string sx') := (cell_keep (HB.out.block b hSb) _).trans (by simpa [tyRep] using hcell 0 _ rfl)
      have f1 : wr.cell? ⟨b, o + k * 2 + 1, none⟩ = some (.slice Ax' nx' cx') := (cell_keep (HB.out.block b hSb) _).trans (by simpa [tyRep] using hcell 1 _ rfl)
      have HX := Lib.hid (hx.below HB.out (fun b h => h))
      have hfold : (s.args.drop k).foldr Sy.fn s.last = .fn s.args[k] ((s.args.drop (k + 1)).foldr Sy.fn s.last) := by rw [List.drop_eq_getElem_cons (by omega)]; rfl
      have HF := Lib.hid hfold
      have q0 : (0 : Int) ≤ (k : Int) := by omega
      have q1 : (k : Int) < (s.args.length : Int) := by omega
      clear hcell hx hfold
      go_wp2_with fail
      go_region_law (refine step_call (by rfl) 16 #[.agg #[.string sx', .slice Ax' nx' cx'], .agg #[.string sy, .slice Ay ny cy]] (by go_simp) (to_any s.args[k].ty ((s.args.drop (k + 1)).foldr Sy.fn s.last).ty _ _ _ _ _ (fun b => b < wr.heap.size ∧ b ≠ w3.heap.size) (by exact (HX.out.drew).mono (fun b h => by unfold Lo at h; exact ⟨by omega, by omega⟩)) (by exact HIN.out.drew) (by intro b h; simp; exact h.1)) ?_; rintro e w4 ⟨u0, u1, rfl, hu, hw4⟩; refine ⟨_, rfl, ?_⟩; obtain ⟨su, Auu, nuu, cuu, rfl, rfl⟩ := hu.shape; have h4 := (hw4.block w3.heap.size (by simp; omega)).trans HB0.out; have d0 := cellv h4 0 rfl; have d1 := cellv h4 1 rfl; have d2 := free_heap h4 0; have d3 := free_heap h4 1; have H4 := Lib.hid h4; have HU := Lib.hid hu; have HW4 := Lib.hid hw4; clear hu hw4 h4)
      all_goals
        go_wp2_with fail
        go_roundg k
        case measure => omega
        case rel =>
          have z4 : wr.heap.size ≤ w4.heap.size := HW4.out.size
          refine ⟨_, _, by omega, rfl, heap_set (heap_set H4.out 0 _) 1 _, ?_, ((HB.out.drew.trans (HW4.out.mono (by simp; omega))).setCell (by simp) _).setCell (by simp) _⟩
          rw [HF.out]
          refine HU.out.keep (fun b hb => ?_) |>.mono ?_
          · exact heap_far _ (by rcases hb with hb | hb; exact hb.2; have := hb.1; simp at this; omega) (heap_far _ (by rcases hb with hb | hb; exact hb.2; have := hb.1; simp at this; omega) rfl)
          · rintro b (hb | hb)
            · exact ⟨by rw [size_set, size_set]; omega, hb.2⟩
            · exact ⟨by rw [size_set, size_set]; exact hb.2, by have := hb.1; simp at this; omega⟩

end Go.Proofs.YthflahcnkhmpaaaDoor
