/-
  simple.order, simple.Order: the walks.
-/
import Derived.Test.YthflahcnkhmpaaaDoorProg
import Derived.Test.YthflahcnkhmpaaaDoorSimple
import Derived.Test.YthflahcnkhmpaaaDoorSyIn
namespace Go.Proofs.YthflahcnkhmpaaaDoor
open Go Go.RowKit
set_option linter.unusedSimpArgs false
set_option linter.unusedVariables false

set_option maxRecDepth 100000 in
theorem order_any : ∀ (s : Sy) (v0 v1 : Value) (w : World) (S : Nat → Prop), s.ty.In w S v0 v1 → (∀ b, S b → b < w.heap.size) → s.nodes ≤ 200 →
    Calls Tryd.prog 47 #[.agg #[v0, v1]] w fun e w' => e = .returned (.int .i64 s.ord) ∧ Below w.heap.size w w' := by
  intro s
  induction s with
  | e =>
    intro v0 v1 w S h hS hn
    obtain ⟨A, c, rfl, rfl⟩ := Sy.In_e h
    clear h hS
    go_enter Tryd.func47, Tryd.ntmps47
    go_wp2_with fail
    go_returns
    exact ⟨rfl, by go_grown⟩
  | t =>
    intro v0 v1 w S h hS hn
    obtain ⟨A, c, rfl, rfl⟩ := Sy.In_t h
    clear h hS
    go_enter Tryd.func47, Tryd.ntmps47
    go_wp2_with fail
    go_returns
    exact ⟨rfl, by go_grown⟩
  | fn a b iha ihb =>
    intro v0 v1 w S h hS hn
    have IA := Lib.hid iha
    have IB := Lib.hid ihb
    clear iha ihb
    obtain ⟨bl, o, c, x0, x1, y0, y1, rfl, rfl, hSb, f0, f1, f2, f3, ha, hb⟩ := Sy.In_fn h
    have HA := Lib.hid ha
    have HB := Lib.hid hb
    have HS := Lib.hid hS
    have Hn := Lib.hid hn
    have hbl := hS bl hSb
    clear ha hb hS h hn
    go_enter Tryd.func47, Tryd.ntmps47
    go_wp2_with fail
    have hob : a.ord ≤ 200 := by have := a.ord_lt; have := Hn.out; simp [Sy.nodes] at this; omega
    go_region_held3 (fun w' => w'.cell? ⟨w.heap.size, 1, none⟩ = some (.slice (some ⟨bl, o, none⟩) 2 c) ∧ w'.cell? ⟨bl, o, none⟩ = some x0 ∧ w'.cell? ⟨bl, o + 1, none⟩ = some x1 ∧ w'.cell? ⟨bl, o + 2, none⟩ = some y0 ∧ w'.cell? ⟨bl, o + 2 + 1, none⟩ = some y1)
      ((first | (go_keep; done) | (go_split_ands; (repeat' apply And.intro) <;> (refine (kc2 _ _ (by go_size)).trans ?_; assumption)) | (go_split_ands; (repeat' apply And.intro) <;> (refine (kc _ _ (by go_size)).trans ?_; assumption))))
      (first
        | (go_at_call_of 47 x0; refine (IA.out x0 x1 _ S (by exact HA.out.below (B := w.heap.size) (by go_grown) HS.out) (by intro b hb; have := HS.out b hb; simp; omega) (by have := Hn.out; simp [Sy.nodes] at this; omega)).mono ?_; rintro e w1 ⟨rfl, hw1⟩; obtain ⟨kc, kf⟩ := bcell hw1; have Hw1 := Lib.hid hw1; have z1 : w.heap.size + 1 ≤ w1.heap.size := (by have := hw1.size; simpa using this))
        | (go_at_call_of 47 y0; refine (IB.out y0 y1 _ S (by exact HB.out.below (B := w.heap.size) ((show Below w.heap.size w _ by go_grown).trans (Hw1.out.mono (by simp))) HS.out) (by intro b hb; have := HS.out b hb; omega) (by have := Hn.out; simp [Sy.nodes] at this; omega)).mono ?_; rintro e w2 ⟨rfl, hw2⟩; obtain ⟨kc2, kf2⟩ := bcell hw2; have Hw2 := Lib.hid hw2))
    go_wp2_with fail
    all_goals
      go_returns
      refine ⟨?_, (show Below w.heap.size w _ by go_grown).trans ((Hw1.out.mono (by simp)).trans (hw2.mono (by omega)))⟩
      simp only [Sy.ord]
      refine ret_int ?_
      go_unwrap
      omega

set_option maxRecDepth 100000 in
theorem orderOf_fault (t : Ty) (v0 v1 : Value) (w : World) (S : Nat → Prop) (ht : t.In w S v0 v1) (hS : ∀ b, S b → b < w.heap.size) (hf : t.fault ≠ 0) :
    Calls Tryd.prog 15 #[.agg #[v0, v1]] w fun e w' => e = .returned (.tuple #[.int .i64 0, .agg #[.int .i64 t.fault, .int .i64 0]]) ∧ Below w.heap.size w w' := by
  obtain ⟨sx, Ax, nx, cx, rfl, rfl⟩ := ht.shape
  have HT := Lib.hid ht
  have HS := Lib.hid hS
  have Hf := Lib.hid hf
  have hf' : ((t.fault : Int) != 0) = true := by rw [bne_iff_ne]; omega
  clear ht hS hf
  go_enter Tryd.func15, Tryd.ntmps15
  go_wp2_with fail
  refine (validate_any t _ _ _ S (by exact HT.out.below (B := w.heap.size) (by go_grown) HS.out) (by intro b hb; have := HS.out b hb; simp; omega)).mono ?_
  rintro e w1 ⟨rfl, hw1⟩
  have h1 : w1.heap[w.heap.size + 1]? = some (.cells #[.int .i64 0, .int .i64 0] 26 (0, 0)) := (hw1.block (w.heap.size + 1) (by go_size)).trans (heap_at (by go_size))
  have k0 := cellv h1 0 rfl
  have k1 := cellv h1 1 rfl
  have k2 := free_heap h1 0
  have k3 := free_heap h1 1
  have k4 := lt_heap h1
  have Hw1 := Lib.hid hw1
  clear hw1 h1
  go_wp2_with fail
  go_region
  go_wp2_with fail
  refine bodyPost_ret (v := .tuple #[.int .i64 0, .agg #[.int .i64 t.fault, .int .i64 0]]) (by simp [results, Tryd.results15, go_sem, k0, k1, k4]) rfl ?_
  refine ⟨rfl, ?_⟩
  have hb : Below w.heap.size w w1 := (show Below w.heap.size w _ by go_grown).trans (Hw1.out.mono (by simp; omega))
  exact (((hb.setCell (by simp) _).setCell (by simp) _).alloc (by go_size) _).drew

set_option maxRecDepth 100000 in
theorem orderOf_ok (s : Sy) (v0 v1 : Value) (w : World) (S : Nat → Prop) (ht : s.ty.In w S v0 v1) (hS : ∀ b, S b → b < w.heap.size) (hf : s.ty.fault = 0) (hn : s.nodes ≤ 200) :
    Calls Tryd.prog 15 #[.agg #[v0, v1]] w fun e w' => e = .returned (.tuple #[.int .i64 s.ord, .agg #[.int .i64 0, .int .i64 0]]) ∧ Below w.heap.size w w' := by
  obtain ⟨sx, Ax, nx, cx, rfl, rfl⟩ := ht.shape
  have HT := Lib.hid ht
  have HS := Lib.hid hS
  have Hf := Lib.hid hf
  clear ht hS hf
  go_enter Tryd.func15, Tryd.ntmps15
  go_wp2_with fail
  refine (validate_any s.ty _ _ _ S (by exact HT.out.below (B := w.heap.size) (by go_grown) HS.out) (by intro b hb; have := HS.out b hb; simp; omega)).mono ?_
  rw [Hf.out]
  rintro e w1 ⟨rfl, hw1⟩
  have h1 : w1.heap[w.heap.size + 1]? = some (.cells #[.int .i64 0, .int .i64 0] 26 (0, 0)) := (hw1.block (w.heap.size + 1) (by go_size)).trans (heap_at (by go_size))
  have h2 : w1.heap[w.heap.size]? = some (.cells #[.string sx, .slice Ax nx cx] 24 (0, 0)) := (hw1.block w.heap.size (by go_size)).trans (heap_old (by go_size) (heap_at (by go_size)))
  have k0 := cellv h1 0 rfl
  have k1 := cellv h1 1 rfl
  have k2 := free_heap h1 0
  have k3 := free_heap h1 1
  have k4 := lt_heap h1
  have l0 := cellv h2 0 rfl
  have l1 := cellv h2 1 rfl
  have k5 := lt_heap h2
  have hb : Below w.heap.size w w1 := (show Below w.heap.size w _ by go_grown).trans (hw1.mono (by simp; omega))
  have HB := Lib.hid hb
  have H1 := Lib.hid h1
  clear hw1 h1 h2 hb
  go_wp2_with fail
  refine (order_any s _ _ _ S (by exact (HT.out.below HB.out HS.out).keep (fun k hk => heap_old (by have := HS.out k hk; omega) rfl)) (by intro b hb; have := HS.out b hb; simp; omega) hn).mono ?_
  rintro e w2 ⟨rfl, hw2⟩
  have h1 : w2.heap[w.heap.size + 1]? = some (.cells #[.int .i64 0, .int .i64 0] 26 (0, 0)) := (hw2.block (w.heap.size + 1) (by go_size)).trans (heap_old (by go_size) H1.out)
  have k0' := cellv h1 0 rfl
  have k1' := cellv h1 1 rfl
  have k2' := free_heap h1 0
  have k3' := free_heap h1 1
  have k4' := lt_heap h1
  have hb2 : Below w.heap.size w w2 := (HB.out.alloc (by omega) _).trans (hw2.mono (by go_size))
  have HB2 := Lib.hid hb2
  clear hw2 h1 hb2
  go_wp2_with fail
  refine bodyPost_ret (v := .tuple #[.int .i64 s.ord, .agg #[.int .i64 0, .int .i64 0]]) (by simp [results, Tryd.results15, go_sem, k0', k1', k4']) rfl ?_
  exact ⟨rfl, (HB2.out.setCell (by simp) _).setCell (by simp) _⟩

open Classical in
/-- The order that simple.Order returns: 0 beside a fault. -/
noncomputable def Ty.ordv (t : Ty) : Nat := if h : ∃ s : Sy, t = s.ty ∧ t.fault = 0 then (Classical.choose h).ord else 0
theorem Sy.ordv (s : Sy) (h : s.ty.fault = 0) : s.ty.ordv = s.ord := by
  have hh : ∃ s' : Sy, s.ty = s'.ty ∧ s.ty.fault = 0 := ⟨s, rfl, h⟩
  unfold Ty.ordv
  rw [dif_pos hh, ← Sy.ty_inj _ _ (Classical.choose_spec hh).1]
theorem Ty.ordv_fault {t : Ty} (h : t.fault ≠ 0) : t.ordv = 0 := by
  unfold Ty.ordv
  rw [dif_neg]
  rintro ⟨_, _, h'⟩
  exact h h'
theorem orderOf_any (t : Ty) (v0 v1 : Value) (w : World) (S : Nat → Prop) (ht : t.In w S v0 v1) (hS : ∀ b, S b → b < w.heap.size) :
    Calls Tryd.prog 15 #[.agg #[v0, v1]] w fun e w' => e = .returned (.tuple #[.int .i64 t.ordv, .agg #[.int .i64 t.fault, .int .i64 0]]) ∧ Below w.heap.size w w' := by
  by_cases hf : t.fault = 0
  · obtain ⟨s, rfl, hn, _⟩ := Ty.of_fault hf
    rw [hf, Sy.ordv s hf]
    exact orderOf_ok s v0 v1 w S ht hS hf hn
  · rw [Ty.ordv_fault hf]
    exact orderOf_fault t v0 v1 w S ht hS hf

end Go.Proofs.YthflahcnkhmpaaaDoor
