/-
  simple.Split: the walk.
-/
import Derived.Test.YthflahcnkhmpaaaDoorProg
import Derived.Test.YthflahcnkhmpaaaDoorClone
namespace Go.Proofs.YthflahcnkhmpaaaDoor
open Go Go.RowKit

def Sy.args : Sy → List Sy
  | .e | .t => []
  | .fn a b => a :: b.args
def Sy.last : Sy → Sy
  | .e => .e
  | .t => .t
  | .fn _ b => b.last
theorem Sy.args_len (s : Sy) : s.args.length < s.nodes := by
  induction s with
  | e => simp [Sy.args, Sy.nodes]
  | t => simp [Sy.args, Sy.nodes]
  | fn a b _ ihb => simp [Sy.args, Sy.nodes]; omega
theorem Sy.rebuild (s : Sy) : s.args.foldr Sy.fn s.last = s := by
  induction s with
  | e => rfl
  | t => rfl
  | fn a b _ ihb => simp [Sy.args, Sy.last, ihb]
theorem Sy.last_base (s : Sy) : s.last = .e ∨ s.last = .t := by
  induction s with
  | e => exact Or.inl rfl
  | t => exact Or.inr rfl
  | fn a b _ ihb => exact ihb

set_option maxRecDepth 100000 in
theorem split_fault (t : Ty) (v0 v1 : Value) (w : World) (S : Nat → Prop) (ht : t.In w S v0 v1) (hS : ∀ b, S b → b < w.heap.size) (hf : t.fault ≠ 0) :
    Calls Tryd.prog 19 #[.agg #[v0, v1]] w fun e w' => e = .returned (.tuple #[.slice none 0 0, .agg #[.string ⟨#[]⟩, .slice none 0 0], .agg #[.int .i64 t.fault, .int .i64 0]]) ∧ Below w.heap.size w w' := by
  obtain ⟨sx, Ax, nx, cx, rfl, rfl⟩ := ht.shape
  have HT := Lib.hid ht
  have HS := Lib.hid hS
  have Hf := Lib.hid hf
  have hf' : ((t.fault : Int) != 0) = true := by rw [bne_iff_ne]; omega
  clear ht hS hf
  go_enter Tryd.func19, Tryd.ntmps19
  go_wp2_with fail
  refine (validate_any t _ _ _ S (by exact HT.out.below (B := w.heap.size) (by go_grown) HS.out) (by intro b hb; have := HS.out b hb; simp; omega)).mono ?_
  rintro e w1 ⟨rfl, hw1⟩
  have h1 : w1.heap[w.heap.size + 1 + 1]? = some (.cells #[.int .i64 0, .int .i64 0] 26 (0, 0)) := (hw1.block _ (by go_size)).trans (heap_at (by go_size))
  have h2 : w1.heap[w.heap.size + 1]? = some (.cells #[.string ⟨#[]⟩, .slice none 0 0] 24 (0, 0)) := (hw1.block _ (by go_size)).trans (heap_old (by go_size) (heap_at (by go_size)))
  have k0 := cellv h1 0 rfl
  have k1 := cellv h1 1 rfl
  have k2 := free_heap h1 0
  have k3 := free_heap h1 1
  have k4 := lt_heap h1
  have l0 := cellv h2 0 rfl
  have l1 := cellv h2 1 rfl
  have l2 := free_heap h2 0
  have l3 := free_heap h2 1
  have l4 := lt_heap h2
  have hb : Below w.heap.size w w1 := (show Below w.heap.size w _ by go_grown).trans (hw1.mono (by simp; omega))
  have HB := Lib.hid hb
  clear hw1 h1 h2 hb
  go_wp2_with fail
  go_region
  go_wp2_with fail
  refine bodyPost_ret (v := .tuple #[.slice none 0 0, .agg #[.string ⟨#[]⟩, .slice none 0 0], .agg #[.int .i64 t.fault, .int .i64 0]]) (by simp [results, Tryd.results19, go_sem, k0, k1, k4, l0, l1, l4]) rfl ?_
  exact ⟨rfl, (((((HB.out.setCell (by simp) _).setCell (by simp) _).setCell (by simp; omega) _).setCell (by simp; omega) _).alloc (by simp [size_set]; omega) _).drew⟩

set_option maxRecDepth 100000 in
set_option maxHeartbeats 1600000 in
theorem split_ok (s : Sy) (v0 v1 : Value) (w : World) (S : Nat → Prop) (ht : s.ty.In w S v0 v1) (hS : ∀ b, S b → b < w.heap.size) (hf : s.ty.fault = 0) (hn : s.nodes ≤ 200) :
    Calls Tryd.prog 19 #[.agg #[v0, v1]] w fun e w' => ∃ u, e = .returned (.tuple #[u, .agg #[.string s.last.base, .slice none 0 0], .agg #[.int .i64 0, .int .i64 0]]) ∧ tyRep.Sl w' (Fresh w w') u (s.args.map Sy.ty) ∧ Below w.heap.size w w' := by
  obtain ⟨sx, Ax, nx, cx, rfl, rfl⟩ := ht.shape
  have HT := Lib.hid ht
  have HS := Lib.hid hS
  have Hf := Lib.hid hf
  clear ht hS hf
  have hal := s.args_len
  obtain ⟨i0, hi0, hz0, hz1, hz2⟩ := info_parts infoSimple
  go_enter Tryd.func19, Tryd.ntmps19
  go_wp2_with fail
  refine (validate_any s.ty _ _ _ S (by exact HT.out.below (B := w.heap.size) (by go_grown) HS.out) (by intro b hb; have := HS.out b hb; simp; omega)).mono ?_
  rw [Hf.out]
  rintro e w1 ⟨rfl, hw1⟩
  have h1 : w1.heap[w.heap.size + 1 + 1]? = some (.cells #[.int .i64 0, .int .i64 0] 26 (0, 0)) := (hw1.block _ (by go_size)).trans (heap_at (by go_size))
  have h2 : w1.heap[w.heap.size + 1]? = some (.cells #[.string ⟨#[]⟩, .slice none 0 0] 24 (0, 0)) := (hw1.block _ (by go_size)).trans (heap_old (by go_size) (heap_at (by go_size)))
  have h3 : w1.heap[w.heap.size]? = some (.cells #[.string sx, .slice Ax nx cx] 24 (0, 0)) := (hw1.block _ (by go_size)).trans (heap_old (by go_size) (heap_old (by go_size) (heap_at (by go_size))))
  have hb : Below w.heap.size w w1 := (show Below w.heap.size w _ by go_grown).trans (hw1.mono (by simp; omega))
  have k4 := lt_heap h1
  have HB := Lib.hid hb
  have H1 := Lib.hid h1
  have H2 := Lib.hid h2
  have H3 := Lib.hid h3
  clear hw1 h1 h2 h3 hb
  go_wp2_with fail
  go_loopg [6] s.nodes (fun k v wr => ∃ (l : List Sy) (τ : Sy) (y0 y1 : Value), τ.nodes ≤ k ∧ s.args = l ++ τ.args ∧ s.last = τ.last ∧ τ.ty.In wr S y0 y1 ∧
    wr.heap[w.heap.size]? = some (.cells #[y0, y1] 24 (0, 0)) ∧ wr.heap[w.heap.size + 1]? = some (.cells #[.string ⟨#[]⟩, .slice none 0 0] 24 (0, 0)) ∧ wr.heap[w.heap.size + 1 + 1]? = some (.cells #[.int .i64 0, .int .i64 0] 26 (0, 0)) ∧
    tyRep.Own 24 (w.heap.size + 3) wr (fun b => w.heap.size + 3 ≤ b ∧ b < wr.heap.size) v (l.map Sy.ty) ∧ Below w.heap.size w wr)
  case atStart => exact ⟨[], s, _, _, Nat.le_refl _, rfl, rfl, (HT.out.below HB.out HS.out).keep (fun k hk => heap_old (by have := HS.out k hk; omega) rfl), heap_old (by omega) H3.out, heap_old (by omega) H2.out, heap_old (by omega) H1.out, Rep.Own.nil, HB.out.alloc (by omega) _⟩
  case round =>
    obtain ⟨l, τ, y0, y1, hk, ha, hl, hin, hb0, hb1, hb2, hown, hb⟩ := hrel
    obtain ⟨sy, Ay, ny, cy, rfl, rfl⟩ := hin.shape
    obtain ⟨Aq, cq, hq⟩ := hown.len
    rw [List.length_map] at hq
    subst hq
    have a0 := cellv hb0 0 rfl
    have a1 := cellv hb0 1 rfl
    have a2 := free_heap hb0 0
    have a3 := free_heap hb0 1
    have a4 := lt_heap hb0
    have b0 := cellv hb1 0 rfl
    have b1 := cellv hb1 1 rfl
    have b2 := free_heap hb1 0
    have b3 := free_heap hb1 1
    have b4 := lt_heap hb1
    have c0 := cellv hb2 0 rfl
    have c1 := cellv hb2 1 rfl
    have c2 := free_heap hb2 0
    have c3 := free_heap hb2 1
    have c4 := lt_heap hb2
    have HA := Lib.hid ha
    have HL := Lib.hid hl
    have HIN := Lib.hid hin
    have HB0 := Lib.hid hb0
    have HB1 := Lib.hid hb1
    have HB2 := Lib.hid hb2
    have HO := Lib.hid hown
    have HBB := Lib.hid hb
    have hlen : l.length ≤ 200 := by have := congrArg List.length ha; simp at this; omega
    clear ha hl hin hb0 hb1 hb2 hown hb
    cases τ with
    | fn a b =>
      obtain ⟨bl, o, c, x0, x1, z0, z1, e0, e1, hSb, f0, f1, f2, f3, hia, hib⟩ := Sy.In_fn HIN.out
      injection e0 with e0
      injection e1 with e1 e2 e3
      subst e0 e1 e2 e3
      obtain ⟨sa, Aa, na, ca, rfl, rfl⟩ := hia.shape
      obtain ⟨sb, Ab, nb, cb, rfl, rfl⟩ := hib.shape
      have HIA := Lib.hid hia
      have HIB := Lib.hid hib
      have hbs := HS.out _ hSb
      have z1 : bl < wr.heap.size := by omega
      clear hia hib
      go_wp2_with fail
      refine (clone_any a.nodes a _ _ _ S (Nat.le_refl _) HIA.out (by intro k hk; have := HS.out k hk; omega)).mono ?_
      rintro e w2 ⟨u0, u1, rfl, hu, hw2⟩
      obtain ⟨su, Au, nu, cu, rfl, rfl⟩ := hu.shape
      have HU := Lib.hid hu
      have HW2 := Lib.hid hw2
      have z2 : wr.heap.size ≤ w2.heap.size := hw2.size
      obtain ⟨xs, hown, hall⟩ := HO.out.grow (w' := w2) (fun k _ hk => hw2.block k hk) z2
      rw [List.length_map] at hown
      have HOWN := Lib.hid hown
      have HALL := Lib.hid hall
      have hblk : ∀ k, (Value.slice Aq l.length cq).ownBlock = some k → w.heap.size + 3 ≤ k ∧ k < wr.heap.size := HO.out.block
      have HBLK := Lib.hid hblk
      clear hu hw2 hown hall hblk
      go_wp2_with (at_builtin; refine wpList_append_lies (w2.alloc (.cells #[.string su, .slice Au nu cu] 24)) ?h1 (.tmp 18) (.tmp 24) 22 ?h2 (w.heap.size + 3) 24 i0 (.agg #[.string ⟨#[]⟩, .slice none 0 0]) 2 40 ?h3 hi0 hz0 hz1 hz2 ?h4 ?h5 (.slice Aq l.length cq) l.length xs ?h6 ?h7 ⟨w2.heap.size, 0, none⟩ 1 1 [.string su, .slice Au nu cu] ?h8 ?h9 ?h10 ?h11 ?h12 ?h13 ?h14 ?h15 (w2.heap.size + 1) ?h16 ?_)
      case h1 => rfl
      case h2 => rfl
      case h3 => exact Tryd.underlying22
      case h4 => rfl
      case h5 => omega
      case h6 => rfl
      case h7 => exact HOWN.out.alloc _
      case h8 => rfl
      case h9 => rfl
      case h10 => exact World.news_of_block (cs := #[.string su, .slice Au nu cu]) (t := 24) (fr := (0, 0)) (heap_alloc_new w2 _)
      case h11 => simp [Value.oneCell']
      case h12 => omega
      case h13 => simp [maxLen]; omega
      case h14 => omega
      case h15 => simp; omega
      case h16 => simp
      intro gg cap w3 hown3 hgrow hat hlt
      have HOWN3 := Lib.hid hown3
      have HGROW := Lib.hid hgrow
      have HAT := Lib.hid hat
      have z3 : w2.heap.size + 1 ≤ w3.heap.size := by have := hgrow.size; simpa using this
      have hg : ∀ k, k < w.heap.size + 3 → w3.heap[k]? = wr.heap[k]? := fun k hk => (hgrow.block k (by simp; omega) (by intro e; have := HBLK.out _ e.symm; omega)).trans (heap_old (by omega) (HW2.out.block k (by omega)))
      have g0 := cellv ((hg _ (by omega)).trans HB0.out) 0 rfl
      have g1 := cellv ((hg _ (by omega)).trans HB0.out) 1 rfl
      have g2 := free_heap ((hg _ (by omega)).trans HB0.out) 0
      have g3 := free_heap ((hg _ (by omega)).trans HB0.out) 1
      have g4 := lt_heap ((hg _ (by omega)).trans HB0.out)
      have gf2 := (cell_keep (hg bl (by omega)) _).trans f2
      have gf3 := (cell_keep (hg bl (by omega)) _).trans f3
      have gf0 := (cell_keep (hg bl (by omega)) _).trans f0
      have gf1 := (cell_keep (hg bl (by omega)) _).trans f1
      have HG := Lib.hid hg
      clear hown3 hgrow hat hg
      go_wp2_with fail
      go_roundg b.nodes
      case measure => simp only [Sy.nodes] at hk; omega
      case rel =>
        have hb3 : Below w.heap.size w w3 := ((HBB.out.trans (HW2.out.mono (by omega))).alloc (by omega) _).grown HGROW.out (by simp; omega) (fun k hk => by have := HBLK.out k hk; omega)
        have hown := Rep.step (l := l.map Sy.ty) (a := a.ty) (List.length_map _) HALL.out (show tyRep.R w2 _ a.ty _ from ⟨_, _, rfl, HU.out⟩) (fun b hb => ⟨⟨by have := hb.1; omega, hb.2⟩, fun e => by have := HBLK.out _ e; have := hb.1; omega⟩) HOWN3.out HGROW.out HAT.out
        refine ⟨l ++ [a], b, _, _, Nat.le_refl _, by rw [HA.out]; simp [Sy.args], HL.out, ?_, heap_set (heap_set ((HG.out _ (by omega)).trans HB0.out) 0 _) 1 _, heap_far _ (by omega) (heap_far _ (by omega) ((HG.out _ (by omega)).trans HB1.out)), heap_far _ (by omega) (heap_far _ (by omega) ((HG.out _ (by omega)).trans HB2.out)), ?_, (hb3.setCell (by simp) _).setCell (by simp) _⟩
        · exact HIB.out.keep fun k hk => heap_far _ (by have := HS.out k hk; omega) (heap_far _ (by have := HS.out k hk; omega) (HG.out k (by have := HS.out k hk; omega)))
        · rw [List.map_append]
          exact hown.grow (fun k hk _ => heap_far _ (by omega) (heap_far _ (by omega) rfl)) (by rw [size_set, size_set]; omega)
    | e =>
      obtain ⟨A', c', e0, e1⟩ := Sy.In_e HIN.out
      injection e0 with e0
      injection e1 with e1 e2 e3
      subst e0 e1 e2 e3
      go_wp2_with fail
      go_region
      all_goals go_wp2_with fail
      have hla : s.args = l := by have := HA.out; simpa [Sy.args] using this
      have hll : s.last.base = bE := by rw [HL.out]; rfl
      refine bodyPost_ret (v := .tuple #[.slice Aq l.length cq, .agg #[.string bE, .slice none 0 0], .agg #[.int .i64 0, .int .i64 0]]) (by simp [results, Tryd.results19, go_sem, b0, b1, b4, c0, c1, c4]) rfl ?_
      refine ⟨_, by rw [hll], ?_, ((((HBB.out.setCell (by simp) _).setCell (by simp) _).setCell (by simp; omega) _).setCell (by simp; omega) _).drew⟩
      rw [hla]
      exact (Rep.Own.sl (S' := fun b => w.heap.size + 3 ≤ b ∧ b < wr.heap.size) HO.out (by simp [maxLen]; omega) (fun b hb => hb) (fun b h1 h2 => ⟨h1, h2⟩)).keep (fun b hb => heap_far _ (by omega) (heap_far _ (by omega) (heap_far _ (by omega) (heap_far _ (by omega) rfl)))) (fun b hb => ⟨by omega, by simp only [World.size_drew, size_set]; omega⟩)
    | t =>
      obtain ⟨A', c', e0, e1⟩ := Sy.In_t HIN.out
      injection e0 with e0
      injection e1 with e1 e2 e3
      subst e0 e1 e2 e3
      go_wp2_with fail
      go_region
      all_goals go_wp2_with fail
      have hla : s.args = l := by have := HA.out; simpa [Sy.args] using this
      have hll : s.last.base = bT := by rw [HL.out]; rfl
      refine bodyPost_ret (v := .tuple #[.slice Aq l.length cq, .agg #[.string bT, .slice none 0 0], .agg #[.int .i64 0, .int .i64 0]]) (by simp [results, Tryd.results19, go_sem, b0, b1, b4, c0, c1, c4]) rfl ?_
      refine ⟨_, by rw [hll], ?_, ((((HBB.out.setCell (by simp) _).setCell (by simp) _).setCell (by simp; omega) _).setCell (by simp; omega) _).drew⟩
      rw [hla]
      exact (Rep.Own.sl (S' := fun b => w.heap.size + 3 ≤ b ∧ b < wr.heap.size) HO.out (by simp [maxLen]; omega) (fun b hb => hb) (fun b h1 h2 => ⟨h1, h2⟩)).keep (fun b hb => heap_far _ (by omega) (heap_far _ (by omega) (heap_far _ (by omega) (heap_far _ (by omega) rfl)))) (fun b hb => ⟨by omega, by simp only [World.size_drew, size_set]; omega⟩)

end Go.Proofs.YthflahcnkhmpaaaDoor
