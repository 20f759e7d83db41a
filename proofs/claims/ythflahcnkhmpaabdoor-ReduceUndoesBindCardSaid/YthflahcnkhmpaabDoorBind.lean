/-
  term.Bind: the walk.
-/
import Derived.Test.YthflahcnkhmpaabDoorProg
import Derived.Test.YthflahcnkhmpaabDoorLook
import Derived.Test.YthflahcnkhmpaabDoorPutC
import Derived.Test.YthflahcnkhmpaabDoorApply
import Derived.Test.YthflahcnkhmpaabDoorMakers
import Derived.Test.YthflahcnkhmpaabDoorSameTy
import Derived.Test.YthflahcnkhmpaabDoorRepsEx
import Derived.Deep.RegionHeld3
namespace Go.Proofs.YthflahcnkhmpaabDoor
open Go Go.RowKit
set_option linter.unusedSimpArgs false
set_option linter.unusedVariables false

/-- What Bind returns for a valid term. -/
def BindRes (v : Tv) (nm : ByteArray) (w w' : World) (e : Ending) : Prop :=
  (bindCode nm v ≠ 0 → e = .returned (.tuple #[.agg zTm, .agg #[.int .i64 (bindCode nm v : Nat), .int .i64 (-2)]])) ∧
  (bindCode nm v = 0 → ∃ ds : List Value, e = .returned (.tuple #[.agg ds.toArray, .agg #[.int .i64 0, .int .i64 0]]) ∧ tmRep.R w' (Fresh w w') (bindTerm nm v).tm ds)
/-- What Bind returns. -/
def BindAt (t : Tm) (nm : ByteArray) (w : World) (e : Ending) (w' : World) : Prop :=
  ((tmFault t).1 ≠ 0 → e = .returned (.tuple #[.agg zTm, .agg #[.int .i64 ((tmFault t).1 : Nat), .int .i64 (tmFault t).2]])) ∧
  (∀ v : Tv, t = v.tm → (tmFault t).1 = 0 → BindRes v nm w w' e) ∧ Below w.heap.size w w'

theorem Coll.toBelow {w1 w2 : World} {bt B : Nat} {q q' : Value} (h : Coll w1 w2 bt q q') (hb : B ≤ bt) (hB : B ≤ w1.heap.size) (hq : ∀ k, q.ownBlock = some k → B ≤ k) : Below B w1 w2 :=
  ⟨h.os, h.tape, h.output, h.size, fun k hk => h.block k (by omega) (by omega) (fun e => by have := hq k e; omega)⟩
theorem alike_take {a : Sy} {l : List Sy} (h : ∀ x ∈ a :: l, x = a) : alike (a :: l) = true := by
  simp only [alike, List.all_eq_true]
  intro x hx
  simp [h x (by simp [hx])]
theorem alike_ne {a x : Sy} {l : List Sy} (h : x ∈ a :: l) (hx : x ≠ a) : alike (a :: l) = false := by
  cases e : alike (a :: l)
  · rfl
  · exact absurd (alike_eq e x h) hx
theorem Tm.abs_lit {W : World} {S : Nat → Prop} {a : Sy} {b : Tv} {v0 v1 : Value} {ds : List Value} {blk : Nat} {T : TypeId} {fr : Nat × Nat} (ha : a.ty.In W S v0 v1) (hb : tmRep.R W S b.tm ds) (hk : W.heap[blk]? = some (.cells ds.toArray T fr)) (hS : S blk) :
    tmRep.R W S (Tv.abs a b).tm [.int .i64 3, .string ⟨#[]⟩, .int .i64 0, v0, v1, .slice (some ⟨blk, 0, none⟩) 1 1] :=
  Tm.shut (a := ⟨3, bNil, 0, a.ty⟩) (l := [b.tm]) (by show bNil.size ≤ maxLen; decide +kernel) ha (Tm.one_lit hb hk hS)

theorem cell_al {W : World} {o : Obj} {k q : Nat} (h : k < W.heap.size) : (W.alloc o).cell? ⟨k, q, none⟩ = W.cell? ⟨k, q, none⟩ := cell_keep (heap_old h rfl) q
theorem cell_st {W : World} {b i k q : Nat} {x : Value} (h : k ≠ b) : (W.setCell ⟨b, i, none⟩ x).cell? ⟨k, q, none⟩ = W.cell? ⟨k, q, none⟩ := cell_keep (heap_far _ h rfl) q
theorem below_d {B : Nat} {a w : World} (h : Below B a w) : Below B a.drew w := ⟨h.os, h.tape, h.output, h.size, h.block⟩
theorem below_u {B : Nat} {a w : World} (h : Below B a.drew w) : Below B a w := ⟨h.os, h.tape, h.output, h.size, h.block⟩
/-- Four blocks' cells, from world to world. -/
theorem bind_keep {W V : World} {k1 k2 k3 k4 o2 : Nat} {x1 x2 x2' x3 y0 y1 y2 y3 y4 y5 : Value} (h1 : W.heap[k1]? = V.heap[k1]?) (h2 : W.heap[k2]? = V.heap[k2]?) (h3 : W.heap[k3]? = V.heap[k3]?) (h4 : W.heap[k4]? = V.heap[k4]?)
    (h : V.cell? ⟨k1, 0, none⟩ = some x1 ∧ V.cell? ⟨k2, o2, none⟩ = some x2 ∧ V.cell? ⟨k2, o2 + 1, none⟩ = some x2' ∧ V.cell? ⟨k3, 0, none⟩ = some x3 ∧ V.cell? ⟨k4, 0, none⟩ = some y0 ∧ V.cell? ⟨k4, 1, none⟩ = some y1 ∧ V.cell? ⟨k4, 2, none⟩ = some y2 ∧ V.cell? ⟨k4, 3, none⟩ = some y3 ∧ V.cell? ⟨k4, 4, none⟩ = some y4 ∧ V.cell? ⟨k4, 5, none⟩ = some y5) :
    W.cell? ⟨k1, 0, none⟩ = some x1 ∧ W.cell? ⟨k2, o2, none⟩ = some x2 ∧ W.cell? ⟨k2, o2 + 1, none⟩ = some x2' ∧ W.cell? ⟨k3, 0, none⟩ = some x3 ∧ W.cell? ⟨k4, 0, none⟩ = some y0 ∧ W.cell? ⟨k4, 1, none⟩ = some y1 ∧ W.cell? ⟨k4, 2, none⟩ = some y2 ∧ W.cell? ⟨k4, 3, none⟩ = some y3 ∧ W.cell? ⟨k4, 4, none⟩ = some y4 ∧ W.cell? ⟨k4, 5, none⟩ = some y5 := by
  obtain ⟨a1, a2, a3, a4, b0, b1, b2, b3, b4, b5⟩ := h
  exact ⟨(cell_keep h1 _).trans a1, (cell_keep h2 _).trans a2, (cell_keep h2 _).trans a3, (cell_keep h3 _).trans a4, (cell_keep h4 _).trans b0, (cell_keep h4 _).trans b1, (cell_keep h4 _).trans b2, (cell_keep h4 _).trans b3, (cell_keep h4 _).trans b4, (cell_keep h4 _).trans b5⟩
theorem bind_out {w4 w5 w6 wx : World} {a : Sy} {b : Tv} {v0 v1 : Value} {ds : List Value} {lb : Nat} {T : TypeId} {S5 S6 : Nat → Prop} (hx : a.ty.In w5 S5 v0 v1) (hu : tmRep.R w6 S6 b.tm ds)
    (h5 : ∀ k, S5 k → (w4.heap.size ≤ k ∧ k < wx.heap.size) ∧ wx.heap[k]? = w5.heap[k]?) (h6 : ∀ k, S6 k → (w4.heap.size ≤ k ∧ k < wx.heap.size) ∧ wx.heap[k]? = w6.heap[k]?)
    (hl : wx.heap[lb]? = some (.cells ds.toArray T (0, 0))) (hlb : w4.heap.size ≤ lb) :
    tmRep.R wx (fun k => w4.heap.size ≤ k ∧ k < wx.heap.size) (Tv.abs a b).tm [.int .i64 3, .string ⟨#[]⟩, .int .i64 0, v0, v1, .slice (some ⟨lb, 0, none⟩) 1 1] :=
  Tm.abs_lit (Ty.In_keep (fun k hk => (h5 k hk).2) (fun k hk => (h5 k hk).1) _ _ _ hx) (tmRep.keep hu (fun k hk => (h6 k hk).2) (fun k hk => (h6 k hk).1)) hl ⟨hlb, lt_heap hl⟩

set_option maxRecDepth 100000 in
set_option maxHeartbeats 16000000 in
theorem bind_any (t : Tm) (nm : ByteArray) (cs : List Value) (w : World) (S : Nat → Prop) (ht : tmRep.R w S t cs) (hnms : nm.size ≤ maxLen) (hS : ∀ b, S b → b < w.heap.size) :
    Calls Tryd.prog 27 #[.agg cs.toArray, .string nm] w (BindAt t nm w) := by
  obtain ⟨s1, A1, n1, c1, B1, m1, d1, rfl, _, _⟩ := Tm.shape ht
  have HT := Lib.hid ht
  have HS := Lib.hid hS
  clear ht hS
  have hold : ∀ (o p q r : Obj) k, S k → ((((w.alloc o).alloc p).alloc q).alloc r).heap[k]? = w.heap[k]? := fun o p q r k hk => by
    have := HS.out k hk
    exact heap_old (by simp; omega) (heap_old (by simp; omega) (heap_old (by simp; omega) (heap_old this rfl)))
  have hv := fun (o p q r : Obj) => Lib.hid (validateTm_any t [.int .i64 t.lab.kind, .string t.lab.nm, .int .i64 t.lab.ix, .string s1, .slice A1 n1 c1, .slice B1 m1 d1] ((((w.alloc o).alloc p).alloc q).alloc r) S (tmRep.keep HT.out (hold o p q r) (fun _ h => h)) (fun k hk => by have := HS.out k hk; simp; omega))
  have HV := Lib.hid hv
  have HOLD := Lib.hid hold
  clear hv hold
  go_enter Tryd.func27, Tryd.ntmps27
  go_wp2_with fail
  (with_reducible refine (HV.out _ _ _ _).out.mono ?_)
  rintro e w1 ⟨rfl, hw1⟩
  have z1 : w.heap.size + 4 ≤ w1.heap.size := by have := hw1.size; simpa using this
  have h0 := (hw1.block w.heap.size (by simp; omega)).trans (heap_old (by simp <;> omega) (heap_old (by simp <;> omega) (heap_old (by simp) (heap_at rfl))))
  have h1 := (hw1.block (w.heap.size + 1) (by simp <;> omega)).trans (heap_old (by simp <;> omega) (heap_old (by simp) (heap_at (by simp))))
  have h2 := (hw1.block (w.heap.size + 1 + 1) (by simp <;> omega)).trans (heap_old (by simp) (heap_at (by simp)))
  have h3 := (hw1.block (w.heap.size + 1 + 1 + 1) (by simp)).trans (heap_at (by simp))
  have hB : Below w.heap.size w w1 := (show Below w.heap.size w _ by go_grown).trans (hw1.mono (by simp; omega))
  have HB := Lib.hid hB
  have HW1 := Lib.hid hw1
  clear hB hw1
  have h0_0 := cv0 h0
  have h0_1 := cv1 h0
  have h0_2 := cv2 h0
  have h0_3 := cv3 h0
  have h0_4 := cv4 h0
  have h0_5 := cv5 h0
  have h0_l := lt_heap h0
  have H0 := Lib.hid h0
  clear h0
  have h1_0 := cv0 h1
  have h1_l := lt_heap h1
  have H1 := Lib.hid h1
  clear h1
  have h2_0 := cv0 h2
  have h2_1 := cv1 h2
  have h2_2 := cv2 h2
  have h2_3 := cv3 h2
  have h2_4 := cv4 h2
  have h2_5 := cv5 h2
  have h2_f0 := free_heap h2 0
  have h2_f1 := free_heap h2 1
  have h2_f2 := free_heap h2 2
  have h2_f3 := free_heap h2 3
  have h2_f4 := free_heap h2 4
  have h2_f5 := free_heap h2 5
  have h2_l := lt_heap h2
  have H2 := Lib.hid h2
  clear h2
  have h3_0 := cv0 h3
  have h3_1 := cv1 h3
  have h3_f0 := free_heap h3 0
  have h3_f1 := free_heap h3 1
  have h3_l := lt_heap h3
  have H3 := Lib.hid h3
  clear h3
  by_cases hz : (tmFault t).1 = 0
  case neg =>
    have t1 : (((tmFault t).1 : Int) != 0) = true := bne_iff_ne.2 (by omega)
    have HZ := Lib.hid hz
    clear hz
    go_wp2_with fail
    go_region
    all_goals
      refine gen_last (fun wx => Below w.heap.size w wx ∧ wx.heap[w.heap.size + 1 + 1]? = some (.cells zTm 27 (0, 0)) ∧ wx.heap[w.heap.size + 1 + 1 + 1]? = some (.cells #[.int .i64 (tmFault t).1, .int .i64 (tmFault t).2] 29 (0, 0))) ?_ ?_
      · refine ⟨?_, ?_, ?_⟩
        · exact (((below2 (below6 HB.out (by omega)) (by omega)).alloc (le2 (le6 (by omega))) _).drew)
        · exact heap_drew (heap_old (lt2 (lt6 (by omega))) (far2 (by omega) (at6 H2.out)))
        · exact heap_drew (heap_old (lt2 (lt6 (by omega))) (at2 (far6 (by omega) H3.out)))
      rintro wx ⟨hb, k2, k3⟩
      have hfin : BindAt t nm w (.returned (.tuple #[.agg zTm, .agg #[.int .i64 (tmFault t).1, .int .i64 (tmFault t).2]])) wx := ⟨fun _ => rfl, fun _ _ h => absurd h HZ.out, hb⟩
      clear h0_0 h0_1 h0_2 h0_3 h0_4 h0_5 h1_0 h2_0 h2_1 h2_2 h2_3 h2_4 h2_5 h2_f0 h2_f1 h2_f2 h2_f3 h2_f4 h2_f5 h3_0 h3_1 h3_f0 h3_f1 t1
      unfold zTm at k2
      have HFIN := Lib.hid hfin
      have HB := Lib.hid hb
      clear hfin hb
      have k2_0 := cv0 k2
      have k2_1 := cv1 k2
      have k2_2 := cv2 k2
      have k2_3 := cv3 k2
      have k2_4 := cv4 k2
      have k2_5 := cv5 k2
      have k2_l := lt_heap k2
      have K2 := Lib.hid k2
      clear k2
      have k3_0 := cv0 k3
      have k3_1 := cv1 k3
      have k3_l := lt_heap k3
      have K3 := Lib.hid k3
      clear k3
      go_wp2_with fail
      refine bodyPost_ret (v := .tuple #[.agg #[.int .i64 0, .string ⟨#[]⟩, .int .i64 0, .string ⟨#[]⟩, .slice none 0 0, .slice none 0 0], .agg #[.int .i64 (tmFault t).1, .int .i64 (tmFault t).2]]) (by simp [results, Tryd.results27, go_sem, k2_0, k2_1, k2_2, k2_3, k2_4, k2_5, k3_0, k3_1, k2_l, k3_l]) rfl ?_
      exact HFIN.out
  obtain ⟨v, sv, rfl, ov, nv, dv, tv, ev⟩ := tmFault_zero hz
  have t1 : (((tmFault v.tm).1 : Int) != 0) = false := by rw [hz]; rfl
  have HZ := Lib.hid hz
  clear hz ev ov tv
  -- what is to be shown, once the answer is known
  have hfin0 : ∀ (e : Ending) (wx : World), Below w.heap.size w wx → BindRes v nm w wx e → BindAt v.tm nm w e wx := fun e wx hb h => ⟨fun h' => absurd HZ.out h', fun v' e' _ => by obtain rfl := Tv.tm_inj _ _ e'; exact h, hb⟩
  have HFIN0 := Lib.hid hfin0
  clear hfin0
  go_upto_region 7 with (fail)
  refine gen_last (fun w2 => Below w.heap.size w w2 ∧ (w2.heap.size ≤ w1.heap.size + 3 ∧ w1.heap.size + 3 ≤ w2.heap.size) ∧ w2.heap[w1.heap.size + 1]? = some (.cells #[.slice none 0 0] 22 (0, 0)) ∧
    w2.heap[w1.heap.size + 1 + 1]? = some (.cells #[.func (Fn.func 56) #[] #[.pointer (some ⟨w.heap.size + 1, 0, none⟩), .pointer (some ⟨w1.heap.size + 1, 0, none⟩), .pointer (some ⟨w1.heap.size + 1 + 1, 0, none⟩)]] 77 (0, 0)) ∧ (∀ k, k < w1.heap.size → w2.heap[k]? = w1.heap[k]?)) ?_ ?_
  · refine ⟨?_, ?_, ?_, ?_, ?_⟩
    · exact ((HB.out.alloc (by omega) _).alloc (by simp; omega) _).alloc (by simp; omega) _
    · simp
    · exact heap_old (by simp) (heap_at (by simp))
    · exact heap_at (by simp)
    · exact fun k hk => heap_old (by simp; omega) (heap_old (by simp; omega) (heap_old hk rfl))
  rintro w2 ⟨hB2, z2, hf, hlk, hk2⟩
  have h0 := (hk2 _ (by omega)).trans H0.out
  have h1 := (hk2 _ (by omega)).trans H1.out
  have hSw : ∀ k, S k → k < w.heap.size := HS.out
  have hS2 : ∀ k, S k → w2.heap[k]? = w.heap[k]? := fun k hk => hB2.block k (HS.out k hk)
  have hlook := Lib.hid (look_any v.nodes v [.int .i64 v.tm.lab.kind, .string v.tm.lab.nm, .int .i64 v.tm.lab.ix, .string s1, .slice A1 n1 c1, .slice B1 m1 d1] w2 S nm (w.heap.size + 1) (w1.heap.size + 1) (w1.heap.size + 1 + 1) (w1.heap.size + 3) (.slice none 0 0) [] (Nat.le_refl _) (tmRep.keep HT.out hS2 (fun _ h => h)) (fun b hb => by have := HS.out b hb; omega) (by omega) (by omega) (by omega) (by omega) (by omega) (by omega) h1 hnms hlk hf Rep.Own.nil (by simp; omega))
  clear h0_0 h0_1 h0_2 h0_3 h0_4 h0_5 h0_l h1_0 h1_l h2_0 h2_1 h2_2 h2_3 h2_4 h2_5 h2_f0 h2_f1 h2_f2 h2_f3 h2_f4 h2_f5 h2_l h3_0 h3_1 h3_f0 h3_f1 h3_l t1
  have HK2 := Lib.hid hk2
  have HB2 := Lib.hid hB2
  have HLOOK := Lib.hid hlook
  have HS2 := Lib.hid hS2
  have HF := Lib.hid hf
  have H1 := Lib.hid h1
  clear hk2 hB2 hlook hS2 hf h1
  have h0_0 := cv0 h0
  have h0_1 := cv1 h0
  have h0_2 := cv2 h0
  have h0_3 := cv3 h0
  have h0_4 := cv4 h0
  have h0_5 := cv5 h0
  have h0_l := lt_heap h0
  have H0 := Lib.hid h0
  clear h0
  have hlk_0 := cv0 hlk
  have hlk_l := lt_heap hlk
  have HLK := Lib.hid hlk
  clear hlk
  go_wp2_with fail
  (with_reducible refine HLOOK.out.out.mono ?_)
  rintro e w3 ⟨q, rfl, hq, hown, hcol⟩
  simp only [List.nil_append] at hown
  have z3 := hcol.size
  have hnq : ∀ k, (Value.slice none 0 0).ownBlock = some k → w1.heap.size + 3 ≤ k ∧ k < w2.heap.size := fun k e => by simp [Value.ownBlock] at e
  have hB3 : Below w.heap.size w w3 := HB2.out.trans (hcol.toBelow (by omega) (by omega) (fun k hk => by have := (hnq k hk).1; omega))
  have h0 := (hcol.keep1 (base := w1.heap.size + 3) (by omega) (by omega) (by omega) hnq).trans H0.out
  have h1 := (hcol.keep1 (b := w.heap.size + 1) (base := w1.heap.size + 3) (by omega) (by omega) (by omega) hnq).trans H1.out
  have h2 := (hcol.keep1 (b := w.heap.size + 1 + 1) (base := w1.heap.size + 3) (by omega) (by omega) (by omega) hnq).trans ((HK2.out _ (by omega)).trans H2.out)
  have h3 := (hcol.keep1 (b := w.heap.size + 1 + 1 + 1) (base := w1.heap.size + 3) (by omega) (by omega) (by omega) hnq).trans ((HK2.out _ (by omega)).trans H3.out)
  obtain ⟨Aq, cq, hqe⟩ := hown.len
  rw [List.length_map] at hqe
  subst hqe
  have hnl := Tv.named_len nm v
  have hsl : tyRep.Sl w3 (New S (w1.heap.size + 3) w3) (.slice Aq (v.named nm).length cq) ((v.named nm).map Sy.ty) := Rep.Own.sl hown (by simp [maxLen]; omega) (fun b hb => Or.inl hb) (fun b h1 h2 => Or.inr ⟨h1, h2⟩)
  clear h0_0 h0_1 h0_2 h0_3 h0_4 h0_5 h0_l hlk_0 hlk_l
  have HOWN := Lib.hid hown
  have HCOL := Lib.hid hcol
  have HB3 := Lib.hid hB3
  have HSL := Lib.hid hsl
  clear hown hcol hB3 hsl
  have h0_0 := cv0 h0
  have h0_1 := cv1 h0
  have h0_2 := cv2 h0
  have h0_3 := cv3 h0
  have h0_4 := cv4 h0
  have h0_5 := cv5 h0
  have h0_l := lt_heap h0
  have H0 := Lib.hid h0
  clear h0
  have h1_0 := cv0 h1
  have h1_l := lt_heap h1
  have H1 := Lib.hid h1
  clear h1
  have h2_0 := cv0 h2
  have h2_1 := cv1 h2
  have h2_2 := cv2 h2
  have h2_3 := cv3 h2
  have h2_4 := cv4 h2
  have h2_5 := cv5 h2
  have h2_f0 := free_heap h2 0
  have h2_f1 := free_heap h2 1
  have h2_f2 := free_heap h2 2
  have h2_f3 := free_heap h2 3
  have h2_f4 := free_heap h2 4
  have h2_f5 := free_heap h2 5
  have h2_l := lt_heap h2
  have H2 := Lib.hid h2
  clear h2
  have h3_0 := cv0 h3
  have h3_1 := cv1 h3
  have h3_f0 := free_heap h3 0
  have h3_f1 := free_heap h3 1
  have h3_l := lt_heap h3
  have H3 := Lib.hid h3
  clear h3
  have hq_0 := cv0 hq
  have hq_l := lt_heap hq
  have HQ := Lib.hid hq
  clear hq
  cases hnd : v.named nm with
  | nil =>
    rw [hnd] at hq_0
    have hbc : bindCode nm v = 6 := by unfold bindCode; rw [hnd]; rfl
    have HBC := Lib.hid hbc
    have t0 : ((([] : List Sy).length : Int) == 0) = true := by simp
    clear hbc hnd
    go_upto_region 9 with (fail)
    go_cut [] (fun wx => Below w.heap.size w wx ∧ wx.heap[w.heap.size + 1 + 1]? = some (.cells zTm 27 (0, 0)) ∧ wx.heap[w.heap.size + 1 + 1 + 1]? = some (.cells #[.int .i64 6, .int .i64 (-2)] 29 (0, 0)))
    case first =>
      go_wp2_with fail
      go_meet
      exact ⟨below2 (below6 HB3.out (by omega)) (by omega), far2 (by omega) (at6 H2.out), at2 (far6 (by omega) H3.out)⟩
    case rest =>
      obtain ⟨hb, k2, k3⟩ := hcut
      rename World => wx
      have hfin : BindAt v.tm nm w (.returned (.tuple #[.agg zTm, .agg #[.int .i64 6, .int .i64 (-2)]])) wx := HFIN0.out _ _ hb ⟨fun _ => by rw [HBC.out]; rfl, fun h => by rw [HBC.out] at h; simp at h⟩
      clear h0_0 h0_1 h0_2 h0_3 h0_4 h0_5 h1_0 h2_0 h2_1 h2_2 h2_3 h2_4 h2_5 h2_f0 h2_f1 h2_f2 h2_f3 h2_f4 h2_f5 h3_0 h3_1 h3_f0 h3_f1 t0 hq_0
      unfold zTm at k2
      have HFIN := Lib.hid hfin
      have HB := Lib.hid hb
      clear hfin hb
      have k2_0 := cv0 k2
      have k2_1 := cv1 k2
      have k2_2 := cv2 k2
      have k2_3 := cv3 k2
      have k2_4 := cv4 k2
      have k2_5 := cv5 k2
      have k2_l := lt_heap k2
      have K2 := Lib.hid k2
      clear k2
      have k3_0 := cv0 k3
      have k3_1 := cv1 k3
      have k3_l := lt_heap k3
      have K3 := Lib.hid k3
      clear k3
      go_wp2_with fail
      refine bodyPost_ret (v := .tuple #[.agg #[.int .i64 0, .string ⟨#[]⟩, .int .i64 0, .string ⟨#[]⟩, .slice none 0 0, .slice none 0 0], .agg #[.int .i64 6, .int .i64 (-2)]]) (by simp [results, Tryd.results27, go_sem, k2_0, k2_1, k2_2, k2_3, k2_4, k2_5, k3_0, k3_1, k2_l, k3_l]) rfl ?_
      exact HFIN.out
  | cons a l =>
  have hsl' := HSL.out
  rw [hnd] at hsl'
  obtain ⟨b, o, kc, rfl, hSb, hr0, hc0⟩ := Rep.Sl.at_ hsl' (k := 0) (a := a.ty) (by simp)
  obtain ⟨u0, u1, rfl, hin0⟩ := hr0
  obtain ⟨su, Au, nu, cu, rfl, rfl⟩ := hin0.shape
  have hNw : ∀ k, New S (w1.heap.size + 3) w3 k → k < w3.heap.size ∧ (k < w.heap.size ∨ w1.heap.size + 3 ≤ k) := fun k hk => by
    rcases hk with hk | hk
    · have := HS.out k hk; omega
    · omega
  have hbw := hNw b hSb
  have e0 : w3.cell? ⟨b, o, none⟩ = _ := hc0 0 _ rfl
  have e1 : w3.cell? ⟨b, o + 1, none⟩ = _ := hc0 1 _ rfl
  obtain ⟨n, hn⟩ : ∃ n, n = (a :: l).length := ⟨_, rfl⟩
  have hq := HQ.out
  rw [hnd, ← hn] at hq_0 hq hnl
  rw [← hn] at hsl'
  clear HQ
  have HQ := Lib.hid hq
  clear hq
  have hn1 : 1 ≤ n := by rw [hn]; simp
  have t0 : ((n : Int) == 0) = false := beq_eq_false_iff_ne.2 (by omega)
  have HND := Lib.hid hnd
  have HN := Lib.hid hn
  have HSL2 := Lib.hid hsl'
  have HIN0 := Lib.hid hin0
  clear hnd hsl' hn hc0 hin0 HSL
  have HNW := Lib.hid hNw
  clear hNw
  go_wp2_with fail
  go_loopg [31] n (fun k vi wr => ∃ j : Nat, j + k = n ∧ vi = .int .i64 j ∧ (∀ x ∈ (a :: l).take j, x = a) ∧ Below w3.heap.size w3 wr)
  case atStart => exact ⟨0, by omega, rfl, by simp, Below.refl _ _⟩
  case round =>
    obtain ⟨j, hj, rfl, hal, hb⟩ := hrel
    have zr := hb.size
    have q00 : 0 < n := by omega
    by_cases hjl : j < n
    · have hjl' : j < (a :: l).length := by rw [← HN.out]; exact hjl
      obtain ⟨b', o', kc, eA, hSb', ⟨x0, x1, rfl, hin⟩, hcs⟩ := Rep.Sl.at_ HSL2.out (k := j) (a := ((a :: l)[j]).ty) (by rw [List.getElem?_map, List.getElem?_eq_getElem hjl']; rfl)
      simp only [Option.some.injEq, Addr.mk.injEq, and_true] at eA
      obtain ⟨rfl, rfl⟩ := eA
      obtain ⟨sx, Ax, nx, cx, rfl, rfl⟩ := hin.shape
      have hk := hb.block b hbw.1
      have f0 : wr.cell? ⟨b, o + j * 2, none⟩ = some (.string sx) := (cell_keep hk _).trans (hcs 0 _ rfl)
      have f1 : wr.cell? ⟨b, o + j * 2 + 1, none⟩ = some (.slice Ax nx cx) := (cell_keep hk _).trans (hcs 1 _ rfl)
      have g0 := (cell_keep hk _).trans e0
      have g1 := (cell_keep hk _).trans e1
      have hq' := (hb.block _ hq_l).trans HQ.out
      have h2 := (hb.block _ h2_l).trans H2.out
      have h3 := (hb.block _ h3_l).trans H3.out
      have q0 : (0 : Int) ≤ (j : Int) := by omega
      have q1 : (j : Int) < (n : Int) := by omega
      have zb : b < wr.heap.size := by omega
      have hmem : (a :: l)[j] ∈ a :: l := List.getElem_mem hjl'
      generalize hxj : (a :: l)[j] = x at *
      have hcall := fun (p : Obj) => Lib.hid (sameTy_any x.ty.size x.ty a.ty (.string sx) (.slice Ax nx cx) (.string su) (.slice Au nu cu) (wr.alloc p).drew (New S (w1.heap.size + 3) w3) (Nat.le_refl _) (hin.keep (fun k hk => (heap_old (by have := (HNW.out k hk).1; omega) (hb.block k (HNW.out k hk).1)))) (HIN0.out.keep (fun k hk => (heap_old (by have := (HNW.out k hk).1; omega) (hb.block k (HNW.out k hk).1)))) (fun k hk => by have := (HNW.out k hk).1; simp; omega))
      clear h0_0 h0_1 h0_2 h0_3 h0_4 h0_5 h1_0 h2_0 h2_1 h2_2 h2_3 h2_4 h2_5 h2_f0 h2_f1 h2_f2 h2_f3 h2_f4 h2_f5 h3_0 h3_1 h3_f0 h3_f1 hq_0 e0 e1 hcs hin hk t0
      have HB := Lib.hid hb
      have HCALL := Lib.hid hcall
      clear hb hcall
      have hq'_0 := cv0 hq'
      have hq'_l := lt_heap hq'
      have HQP := Lib.hid hq'
      clear hq'
      have h2_0 := cv0 h2
      have h2_1 := cv1 h2
      have h2_2 := cv2 h2
      have h2_3 := cv3 h2
      have h2_4 := cv4 h2
      have h2_5 := cv5 h2
      have h2_f0 := free_heap h2 0
      have h2_f1 := free_heap h2 1
      have h2_f2 := free_heap h2 2
      have h2_f3 := free_heap h2 3
      have h2_f4 := free_heap h2 4
      have h2_f5 := free_heap h2 5
      have h2_l := lt_heap h2
      have H2 := Lib.hid h2
      clear h2
      have h3_0 := cv0 h3
      have h3_1 := cv1 h3
      have h3_f0 := free_heap h3 0
      have h3_f1 := free_heap h3 1
      have h3_l := lt_heap h3
      have H3 := Lib.hid h3
      clear h3
      by_cases he : x.ty.beq a.ty = true
      all_goals try simp only [Bool.not_eq_true] at he
      all_goals
        go_wp2_with fail
        go_region_held3 (fun w' => w'.cell? ⟨wr.heap.size, 0, none⟩ = some (.string sx) ∧ w'.cell? ⟨wr.heap.size, 1, none⟩ = some (.slice Ax nx cx) ∧ w'.cell? ⟨w1.heap.size + 1, 0, none⟩ = some (.slice (some ⟨b, o, none⟩) n cq) ∧ w'.cell? ⟨b, o, none⟩ = some (.string su) ∧ w'.cell? ⟨b, o + 1, none⟩ = some (.slice Au nu cu))
          ((first | (go_keep; done) | (go_split_ands; (repeat' apply And.intro) <;> (refine (kc _ _ (by omega)).trans ?_; assumption))))
          (((with_reducible refine (HCALL.out _).out.mono ?_); rintro e w4 ⟨rfl, hw4⟩; have kc : ∀ k q, k < wr.heap.size + 1 → w4.cell? ⟨k, q, none⟩ = _ := (fun k q h => hw4.cell (p := ⟨k, q, none⟩) (by simp; omega)); have z4 : wr.heap.size + 1 ≤ w4.heap.size := (by have := hw4.size; simpa using this); have HW4 := Lib.hid hw4; clear hw4))
        have hb4 : Below w3.heap.size w3 w4 := ((HB.out.alloc (by omega) _).drew).trans (HW4.out.mono (by simp; omega))
      · have hxa : x = a := Sy.ty_inj _ _ (Ty.eq_of_beq _ _ he)
        have HB4 := Lib.hid hb4
        clear hb4
        go_wp2_with fail
        go_roundg (n - (j + 1))
        case measure => omega
        case rel =>
          refine ⟨j + 1, by omega, by go_num, fun y hy => ?_, HB4.out⟩
          rw [List.take_succ_eq_append_getElem hjl', List.mem_append, hxj] at hy
          rcases hy with hy | hy
          · exact hal y hy
          · rw [List.mem_singleton.1 hy]; exact hxa
      · --<
        have hxa : x ≠ a := fun h => by subst h; rw [Ty.beq_self] at he; simp at he
        have hbc : bindCode nm v = 12 := by
          unfold bindCode
          rw [HND.out, if_neg (by simp), if_pos (alike_ne hmem hxa)]
        have h2 := (HW4.out.block (w.heap.size + 1 + 1) (by simp; omega)).trans (heap_old h2_l H2.out)
        have h3 := (HW4.out.block (w.heap.size + 1 + 1 + 1) (by simp; omega)).trans (heap_old h3_l H3.out)
        have hB4 : Below w.heap.size w w4 := HB3.out.trans (hb4.mono (by omega))
        clear h2_0 h2_1 h2_2 h2_3 h2_4 h2_5 h2_f0 h2_f1 h2_f2 h2_f3 h2_f4 h2_f5 h3_0 h3_1 h3_f0 h3_f1 hq'_0 f0 f1 g0 g1 kc hb4
        have HBC := Lib.hid hbc
        have HB4 := Lib.hid hB4
        clear hbc hB4
        have h2_0 := cv0 h2
        have h2_1 := cv1 h2
        have h2_2 := cv2 h2
        have h2_3 := cv3 h2
        have h2_4 := cv4 h2
        have h2_5 := cv5 h2
        have h2_f0 := free_heap h2 0
        have h2_f1 := free_heap h2 1
        have h2_f2 := free_heap h2 2
        have h2_f3 := free_heap h2 3
        have h2_f4 := free_heap h2 4
        have h2_f5 := free_heap h2 5
        have h2_l := lt_heap h2
        have H2 := Lib.hid h2
        clear h2
        have h3_0 := cv0 h3
        have h3_1 := cv1 h3
        have h3_f0 := free_heap h3 0
        have h3_f1 := free_heap h3 1
        have h3_l := lt_heap h3
        have H3 := Lib.hid h3
        clear h3
        go_upto_region 14 with (fail)
        go_cut [] (fun wx => Below w.heap.size w wx ∧ wx.heap[w.heap.size + 1 + 1]? = some (.cells zTm 27 (0, 0)) ∧ wx.heap[w.heap.size + 1 + 1 + 1]? = some (.cells #[.int .i64 12, .int .i64 (-2)] 29 (0, 0)))
        case first =>
          go_wp2_with fail
          go_meet
          exact ⟨below2 (below6 HB4.out (by omega)) (by omega), far2 (by omega) (at6 H2.out), at2 (far6 (by omega) H3.out)⟩
        case rest =>
          obtain ⟨hb, k2, k3⟩ := hcut
          rename World => wx
          have hfin : BindAt v.tm nm w (.returned (.tuple #[.agg zTm, .agg #[.int .i64 12, .int .i64 (-2)]])) wx := HFIN0.out _ _ hb ⟨fun _ => by rw [HBC.out]; rfl, fun h => by rw [HBC.out] at h; simp at h⟩
          clear h2_0 h2_1 h2_2 h2_3 h2_4 h2_5 h2_f0 h2_f1 h2_f2 h2_f3 h2_f4 h2_f5 h3_0 h3_1 h3_f0 h3_f1
          unfold zTm at k2
          have HFIN := Lib.hid hfin
          have HB := Lib.hid hb
          clear hfin hb
          have k2_0 := cv0 k2
          have k2_1 := cv1 k2
          have k2_2 := cv2 k2
          have k2_3 := cv3 k2
          have k2_4 := cv4 k2
          have k2_5 := cv5 k2
          have k2_l := lt_heap k2
          have K2 := Lib.hid k2
          clear k2
          have k3_0 := cv0 k3
          have k3_1 := cv1 k3
          have k3_l := lt_heap k3
          have K3 := Lib.hid k3
          clear k3
          go_wp2_with fail
          refine bodyPost_ret (v := .tuple #[.agg #[.int .i64 0, .string ⟨#[]⟩, .int .i64 0, .string ⟨#[]⟩, .slice none 0 0, .slice none 0 0], .agg #[.int .i64 12, .int .i64 (-2)]]) (by simp [results, Tryd.results27, go_sem, k2_0, k2_1, k2_2, k2_3, k2_4, k2_5, k3_0, k3_1, k2_l, k3_l]) rfl ?_
          exact HFIN.out
    · have hjn : j = (a :: l).length := by have := HN.out; omega
      rw [hjn, List.take_length] at hal
      have hak : alike (v.named nm) = true := by rw [HND.out]; exact alike_take hal
      clear h0_0 h0_1 h0_2 h0_3 h0_4 h0_5 h1_0 h2_0 h2_1 h2_2 h2_3 h2_4 h2_5 h2_f0 h2_f1 h2_f2 h2_f3 h2_f4 h2_f5 h3_0 h3_1 h3_f0 h3_f1 hq_0 t0 hal hjn
      have HAK := Lib.hid hak
      have HB := Lib.hid hb
      clear hak hb
      go_upto_region 18 with (fail)
      refine gen_last (fun w4 => Below w3.heap.size w3 w4 ∧ (w4.heap.size ≤ wr.heap.size + 1 ∧ wr.heap.size + 1 ≤ w4.heap.size) ∧ w4.heap[wr.heap.size]? = some (.cells #[.func (Fn.func 58) #[] #[.pointer (some ⟨w.heap.size + 1, 0, none⟩), .pointer (some ⟨wr.heap.size, 0, none⟩)]] 78 (0, 0))) ?_ ?_
      · refine ⟨HB.out.alloc (by omega) _, by simp, heap_at rfl⟩
      rintro w4 ⟨hbq, z4, hpc⟩
      have hk4 := hbq.block
      have h0 := (hk4 _ h0_l).trans H0.out
      have h1 := (hk4 _ h1_l).trans H1.out
      have h2 := (hk4 _ h2_l).trans H2.out
      have h3 := (hk4 _ h3_l).trans H3.out
      have hq' := (hk4 _ hq_l).trans HQ.out
      have g0 := (cell_keep (hk4 b hbw.1) _).trans e0
      have g1 := (cell_keep (hk4 b hbw.1) _).trans e1
      have zb : b < w4.heap.size := by omega
      have hB4 : Below w.heap.size w w4 := HB3.out.trans (hbq.mono (by omega))
      have hin4 := HIN0.out.keep (fun k hk => hk4 k (HNW.out k hk).1)
      have hNw4 : ∀ k, New S (w1.heap.size + 3) w3 k → k < w4.heap.size := fun k hk => by have := (HNW.out k hk).1; omega
      have ht4 := tmRep.keep HT.out (fun k hk => hB4.block k (HS.out k hk)) (fun _ h => h)
      have hcl := fun (W : World) (h : Below w4.heap.size w4.drew W) => Lib.hid (cloneTy_any a.ty (Or.inr ⟨a, rfl⟩) (.string su) (.slice Au nu cu) W (New S (w1.heap.size + 3) w3) (hin4.keep (fun k hk => h.block k (hNw4 k hk))) (fun k hk => by have := hNw4 k hk; have h' : w4.heap.size ≤ W.heap.size := h.size; omega))
      have hput := fun (w5 : World) (h : Below w4.heap.size w4.drew w5) => Lib.hid (putC_any v.nodes v 0 [.int .i64 v.tm.lab.kind, .string v.tm.lab.nm, .int .i64 v.tm.lab.ix, .string s1, .slice A1 n1 c1, .slice B1 m1 d1] w5 S nm (w.heap.size + 1) wr.heap.size (Nat.le_refl _) (by omega) (tmRep.keep ht4 (fun k hk => h.block k (by have := HS.out k hk; omega)) (fun _ h => h)) (fun k hk => by have := HS.out k hk; have h' : w4.heap.size ≤ w5.heap.size := h.size; omega) ((h.block _ (by omega)).trans h1) hnms ((h.block _ (by omega)).trans hpc))
      simp only [Int.cast_ofNat_Int] at hput
      clear e0 e1 hin4 ht4
      have HBQ := Lib.hid hbq
      have HK4 := Lib.hid hk4
      have HB4 := Lib.hid hB4
      have HNW4 := Lib.hid hNw4
      have HCL := Lib.hid hcl
      have HPUT := Lib.hid hput
      clear hbq hk4 hB4 hNw4 hcl hput
      have h0_0 := cv0 h0
      have h0_1 := cv1 h0
      have h0_2 := cv2 h0
      have h0_3 := cv3 h0
      have h0_4 := cv4 h0
      have h0_5 := cv5 h0
      have h0_l := lt_heap h0
      have H0 := Lib.hid h0
      clear h0
      have h1_0 := cv0 h1
      have h1_l := lt_heap h1
      have H1 := Lib.hid h1
      clear h1
      have hpc_0 := cv0 hpc
      have hpc_l := lt_heap hpc
      have HPC := Lib.hid hpc
      clear hpc
      have hq'_0 := cv0 hq'
      have hq'_l := lt_heap hq'
      have HQP := Lib.hid hq'
      clear hq'
      have hs4 := And.intro hq'_0 (And.intro g0 (And.intro g1 (And.intro hpc_0 (And.intro h0_0 (And.intro h0_1 (And.intro h0_2 (And.intro h0_3 (And.intro h0_4 h0_5))))))))
      have HS4 := Lib.hid hs4
      clear hs4
      go_cut [12] (fun s12 wx => ∃ (ob : Nat) (es : List Value), s12 = .pointer (some ⟨ob, 0, none⟩) ∧ wx.heap[ob]? = some (.cells es.toArray 27 (0, 0)) ∧ tmRep.R wx (fun b => w4.heap.size ≤ b ∧ b < wx.heap.size) (bindTerm nm v).tm es ∧ w4.heap.size ≤ ob ∧ Below w4.heap.size w4 wx)
      case first =>
        go_region_held3 (fun w' => w'.cell? ⟨w1.heap.size + 1, 0, none⟩ = some (.slice (some ⟨b, o, none⟩) n cq) ∧ w'.cell? ⟨b, o, none⟩ = some (.string su) ∧ w'.cell? ⟨b, o + 1, none⟩ = some (.slice Au nu cu) ∧ w'.cell? ⟨wr.heap.size, 0, none⟩ = some (.func (Fn.func 58) #[] #[.pointer (some ⟨w.heap.size + 1, 0, none⟩), .pointer (some ⟨wr.heap.size, 0, none⟩)]) ∧ w'.cell? ⟨w.heap.size, 0, none⟩ = some (.int .i64 v.tm.lab.kind) ∧ w'.cell? ⟨w.heap.size, 1, none⟩ = some (.string v.tm.lab.nm) ∧ w'.cell? ⟨w.heap.size, 2, none⟩ = some (.int .i64 v.tm.lab.ix) ∧ w'.cell? ⟨w.heap.size, 3, none⟩ = some (.string s1) ∧ w'.cell? ⟨w.heap.size, 4, none⟩ = some (.slice A1 n1 c1) ∧ w'.cell? ⟨w.heap.size, 5, none⟩ = some (.slice B1 m1 d1))
          ((first | (with_reducible refine bind_keep ?_ ?_ ?_ ?_ HS4.out <;> (repeat (first | (with_reducible exact (KH6.out _ (by omega)).trans (KH5.out _ (by omega))) | (with_reducible exact KH5.out _ (by omega)) | (with_reducible exact rfl) | (with_reducible refine heap_drew ?_) | (with_reducible refine far6 (by omega) ?_) | (with_reducible refine heap_old (by first | omega | (simp; omega)) ?_)))) | (go_keep; done)))
          (first
          | ((with_reducible refine (HCL.out _ (Below.refl _ _)).out.mono ?_); rintro e w5 ⟨x0, x1, rfl, hx, hw5⟩; have hb5 : Below w4.heap.size w4.drew w5 := hw5; obtain ⟨sx, Ax, nx, cx, rfl, rfl⟩ := hx.shape; have z5 : w4.heap.size ≤ w5.heap.size := hb5.size; have KH5 : Hid (∀ k, k < w4.heap.size → w5.heap[k]? = w4.heap[k]?) := Lib.hid (fun k h => hb5.block k h); have HX := Lib.hid hx; have HB5 := Lib.hid hb5; have HW5 := Lib.hid hw5; clear hx hb5 hw5)
          | ((with_reducible refine (HCL.out _ (below_d ((Below.refl w4.heap.size w4).alloc (Nat.le_refl _) _).drew)).out.mono ?_); rintro e w5 ⟨x0, x1, rfl, hx, hw5⟩; have hb5 : Below w4.heap.size w4.drew w5 := (below_d ((Below.refl w4.heap.size w4).alloc (Nat.le_refl _) _).drew).trans (hw5.mono (by simp)); have RO5 := Lib.hid ((hw5.block w4.heap.size (by simp)).trans (heap_drew (heap_at rfl))); have MA : Hid (0 = 0) := Lib.hid rfl; obtain ⟨sx, Ax, nx, cx, rfl, rfl⟩ := hx.shape; have z5 : w4.heap.size ≤ w5.heap.size := hb5.size; have KH5 : Hid (∀ k, k < w4.heap.size → w5.heap[k]? = w4.heap[k]?) := Lib.hid (fun k h => hb5.block k h); have HX := Lib.hid hx; have HB5 := Lib.hid hb5; have HW5 := Lib.hid hw5; clear hx hb5 hw5)
          | ((with_reducible refine (HPUT.out _ HB5.out).out.mono ?_); rintro e w6 ⟨ds, rfl, hu, hw6⟩; obtain ⟨s6, A6, n6, c6, B6, m6, d6, rfl, _, _⟩ := Tm.shape hu; have z6 : w5.heap.size ≤ w6.heap.size := hw6.size; have KH6 : Hid (∀ k, k < w4.heap.size → w6.heap[k]? = w5.heap[k]?) := Lib.hid (fun k h => hw6.block k (by omega)); have z45 := lt_heap RO5.out; have ro := (hw6.block w4.heap.size z45).trans RO5.out; clear z45; have ro_0 := cv0 ro; have ro_1 := cv1 ro; have ro_2 := cv2 ro; have ro_3 := cv3 ro; have ro_4 := cv4 ro; have ro_5 := cv5 ro; have ro_f0 := free_heap ro 0; have ro_f1 := free_heap ro 1; have ro_f2 := free_heap ro 2; have ro_f3 := free_heap ro 3; have ro_f4 := free_heap ro 4; have ro_f5 := free_heap ro 5; have ro_l := lt_heap ro; have RO := Lib.hid ro; clear ro;  have HU := Lib.hid hu; have HW6 := Lib.hid hw6; clear hu hw6)
          | ((with_reducible refine (HPUT.out _ HB5.out).out.mono ?_); (fail_if_success (have zz := RO5.out)); rintro e w6 ⟨ds, rfl, hu, hw6⟩; obtain ⟨s6, A6, n6, c6, B6, m6, d6, rfl, _, _⟩ := Tm.shape hu; have z6 : w5.heap.size ≤ w6.heap.size := hw6.size; have KH6 : Hid (∀ k, k < w4.heap.size → w6.heap[k]? = w5.heap[k]?) := Lib.hid (fun k h => hw6.block k (by omega));  have HU := Lib.hid hu; have HW6 := Lib.hid hw6; clear hu hw6)
          | ((with_reducible refine (HPUT.out _ (HB5.out.alloc z5 _)).out.mono ?_); rintro e w6 ⟨ds, rfl, hu, hw6⟩; have MB : Hid (0 = 0) := Lib.hid rfl; obtain ⟨s6, A6, n6, c6, B6, m6, d6, rfl, _, _⟩ := Tm.shape hu; have z6 : w5.heap.size + 1 ≤ w6.heap.size := (by have := hw6.size; simpa using this); have KH6 : Hid (∀ k, k < w4.heap.size → w6.heap[k]? = w5.heap[k]?) := Lib.hid (fun k h => (hw6.block k (by simp; omega)).trans (heap_old (by omega) rfl)); have ro := (hw6.block w5.heap.size (by simp)).trans (heap_at rfl); have ro_0 := cv0 ro; have ro_1 := cv1 ro; have ro_2 := cv2 ro; have ro_3 := cv3 ro; have ro_4 := cv4 ro; have ro_5 := cv5 ro; have ro_f0 := free_heap ro 0; have ro_f1 := free_heap ro 1; have ro_f2 := free_heap ro 2; have ro_f3 := free_heap ro 3; have ro_f4 := free_heap ro 4; have ro_f5 := free_heap ro 5; have ro_l := lt_heap ro; have RO := Lib.hid ro; clear ro; have HU := Lib.hid hu; have HW6 := Lib.hid hw6; clear hu hw6)
          | fail)
        all_goals
          have e : (bindTerm nm v).tm = (Tv.abs a (v.bind nm 0)).tm := by unfold bindTerm; rw [HND.out]; rfl
          go_wp2_with fail
          go_meet
          rw [e]
          clear hq'_0 g0 g1 hpc_0 h0_0 h0_1 h0_2 h0_3 h0_4 h0_5 h1_0
          first
          | (have := MB.out
             clear ro_0 ro_1 ro_2 ro_3 ro_4 ro_5 ro_f0 ro_f1 ro_f2 ro_f3 ro_f4 ro_f5
             have kx : ∀ (o : Obj) (v0 v1 v2 v3 v4 v5 : Value) k, k < w6.heap.size → k ≠ w5.heap.size → (((((((w6.setCell ⟨w5.heap.size, 0, none⟩ v0).setCell ⟨w5.heap.size, 1, none⟩ v1).setCell ⟨w5.heap.size, 2, none⟩ v2).setCell ⟨w5.heap.size, 3, none⟩ v3).setCell ⟨w5.heap.size, 4, none⟩ v4).setCell ⟨w5.heap.size, 5, none⟩ v5).alloc o).heap[k]? = w6.heap[k]? := fun o v0 v1 v2 v3 v4 v5 k h1 h2 => heap_old (lt6 h1) (far6 h2 rfl)
             have k5 : ∀ k, k < w5.heap.size → w6.heap[k]? = w5.heap[k]? := fun k h => (HW6.out.block k (by simp; omega)).trans (heap_old h rfl)
             have hbf := (((below_u HB5.out).alloc z5 (.cells #[.int .i64 0, .string ⟨#[]⟩, .int .i64 0, .string ⟨#[]⟩, .slice none 0 0, .slice none 0 0] 27)).trans (HW6.out.mono (by simp; omega)))
             have hl : w6.heap.size ≠ w5.heap.size := by omega
             have h46 : w4.heap.size ≤ w6.heap.size := by omega
             refine ⟨w5.heap.size, [.int .i64 3, .string ⟨#[]⟩, .int .i64 0, .string sx, .slice Ax nx cx, .slice (some ⟨w6.heap.size, 0, none⟩) 1 1], rfl, heap_old (lt6 ro_l) (at6 RO.out), bind_out (ds := [.int .i64 (v.bind nm 0).tm.lab.kind, .string (v.bind nm 0).tm.lab.nm, .int .i64 (v.bind nm 0).tm.lab.ix, .string s6, .slice A6 n6 c6, .slice B6 m6 d6]) HX.out HU.out (fun k hk => ?_) (fun k hk => ?_) (heap_at size6.symm) h46, z5, (below6 hbf z5).alloc (le6 h46) _⟩
             · have h2 := hk.2
               exact ⟨⟨hk.1, by simp [size_set]; omega⟩, (kx _ _ _ _ _ _ _ k (by omega) (by omega)).trans (k5 k h2)⟩
             · have h1 := hk.1
               have h2 := hk.2
               simp only [World.size_alloc] at h1
               exact ⟨⟨by omega, by simp [size_set]; omega⟩, kx _ _ _ _ _ _ _ k h2 (by omega)⟩)
          | (have := MA.out
             clear ro_0 ro_1 ro_2 ro_3 ro_4 ro_5 ro_f0 ro_f1 ro_f2 ro_f3 ro_f4 ro_f5
             have kx : ∀ (o : Obj) (v0 v1 v2 v3 v4 v5 : Value) k, k < w6.heap.size → k ≠ w4.heap.size → (((((((w6.setCell ⟨w4.heap.size, 0, none⟩ v0).setCell ⟨w4.heap.size, 1, none⟩ v1).setCell ⟨w4.heap.size, 2, none⟩ v2).setCell ⟨w4.heap.size, 3, none⟩ v3).setCell ⟨w4.heap.size, 4, none⟩ v4).setCell ⟨w4.heap.size, 5, none⟩ v5).alloc o).heap[k]? = w6.heap[k]? := fun o v0 v1 v2 v3 v4 v5 k h1 h2 => heap_old (lt6 h1) (far6 h2 rfl)
             have hbf := (below_u HB5.out).trans (HW6.out.mono z5)
             have hl : w6.heap.size ≠ w4.heap.size := by omega
             have h46 : w4.heap.size ≤ w6.heap.size := by omega
             refine ⟨w4.heap.size, [.int .i64 3, .string ⟨#[]⟩, .int .i64 0, .string sx, .slice Ax nx cx, .slice (some ⟨w6.heap.size, 0, none⟩) 1 1], rfl, heap_old (lt6 ro_l) (at6 RO.out), bind_out (ds := [.int .i64 (v.bind nm 0).tm.lab.kind, .string (v.bind nm 0).tm.lab.nm, .int .i64 (v.bind nm 0).tm.lab.ix, .string s6, .slice A6 n6 c6, .slice B6 m6 d6]) HX.out HU.out (fun k hk => ?_) (fun k hk => ?_) (heap_at size6.symm) h46, Nat.le_refl _, (below6 hbf (Nat.le_refl _)).alloc (le6 h46) _⟩
             · have h1 := hk.1
               have h2 := hk.2
               simp at h1
               exact ⟨⟨by omega, by simp [size_set]; omega⟩, (kx _ _ _ _ _ _ _ k (by omega) (by omega)).trans (HW6.out.block k h2)⟩
             · have h1 := hk.1
               have h2 := hk.2
               exact ⟨⟨by omega, by simp [size_set]; omega⟩, kx _ _ _ _ _ _ _ k h2 (by have := lt_heap RO5.out; omega)⟩)
          | -- behind both, and behind the literal
            (have hbf := (((below_u HB5.out).trans (HW6.out.mono z5)).alloc (Nat.le_trans z5 z6) (.cells #[.int .i64 (v.bind nm 0).tm.lab.kind, .string (v.bind nm 0).tm.lab.nm, .int .i64 (v.bind nm 0).tm.lab.ix, .string s6, .slice A6 n6 c6, .slice B6 m6 d6] 27)).alloc (by simp; omega) (.cells #[.int .i64 3, .string ⟨#[]⟩, .int .i64 0, .string sx, .slice Ax nx cx, .slice (some ⟨w6.heap.size, 0, none⟩) 1 1] 27)
             refine ⟨w6.heap.size + 1, [.int .i64 3, .string ⟨#[]⟩, .int .i64 0, .string sx, .slice Ax nx cx, .slice (some ⟨w6.heap.size, 0, none⟩) 1 1], rfl, heap_at (by simp), bind_out (ds := [.int .i64 (v.bind nm 0).tm.lab.kind, .string (v.bind nm 0).tm.lab.nm, .int .i64 (v.bind nm 0).tm.lab.ix, .string s6, .slice A6 n6 c6, .slice B6 m6 d6]) HX.out HU.out (fun k hk => ?_) (fun k hk => ?_) (heap_old (by simp) (heap_at rfl)) (by omega), by omega, hbf⟩
             · have h1 := hk.1
               have h2 := hk.2
               exact ⟨⟨h1, by simp; omega⟩, heap_old (by simp; omega) (heap_old (by omega) (HW6.out.block k h2))⟩
             · have h1 := hk.1
               have h2 := hk.2
               exact ⟨⟨by omega, by simp; omega⟩, heap_old (by simp; omega) (heap_old h2 rfl)⟩)
          | -- behind both, ahead of the literal
            (have hbf := (((below_u HB5.out).trans (HW6.out.mono z5)).alloc (Nat.le_trans z5 z6) (.cells #[.int .i64 3, .string ⟨#[]⟩, .int .i64 0, .string sx, .slice Ax nx cx, .slice (some ⟨w6.heap.size + 1, 0, none⟩) 1 1] 27)).alloc (by simp; omega) (.cells #[.int .i64 (v.bind nm 0).tm.lab.kind, .string (v.bind nm 0).tm.lab.nm, .int .i64 (v.bind nm 0).tm.lab.ix, .string s6, .slice A6 n6 c6, .slice B6 m6 d6] 27)
             refine ⟨w6.heap.size, [.int .i64 3, .string ⟨#[]⟩, .int .i64 0, .string sx, .slice Ax nx cx, .slice (some ⟨w6.heap.size + 1, 0, none⟩) 1 1], rfl, heap_old (by simp) (heap_at rfl), bind_out (ds := [.int .i64 (v.bind nm 0).tm.lab.kind, .string (v.bind nm 0).tm.lab.nm, .int .i64 (v.bind nm 0).tm.lab.ix, .string s6, .slice A6 n6 c6, .slice B6 m6 d6]) HX.out HU.out (fun k hk => ?_) (fun k hk => ?_) (heap_at (by simp)) (by omega), by omega, hbf⟩
             · have h1 := hk.1
               have h2 := hk.2
               exact ⟨⟨h1, by simp; omega⟩, heap_old (by simp; omega) (heap_old (by omega) (HW6.out.block k h2))⟩
             · have h1 := hk.1
               have h2 := hk.2
               exact ⟨⟨by omega, by simp; omega⟩, heap_old (by simp; omega) (heap_old h2 rfl)⟩)
      case rest =>
        obtain ⟨ob, es, rfl, hob, hes, hobl, hbx⟩ := hcut
        rename World => wx
        obtain ⟨s7, A7, n7, c7, B7, m7, d7, rfl, _, _⟩ := Tm.shape hes
        have zx := hbx.size
        have h2 := (hbx.block _ (by omega)).trans ((HK4.out _ h2_l).trans H2.out)
        have h3 := (hbx.block _ (by omega)).trans ((HK4.out _ h3_l).trans H3.out)
        have hBx := HB4.out.trans (hbx.mono (by omega))
        have hbn := Tv.bind_nodes nm v 0
        have hbd := Tv.bind_depth nm v 0
        have hbt : (bindTerm nm v).tm.nodes = v.nodes + 1 ∧ (bindTerm nm v).tm.depth = v.depth + 1 := by
          rw [Tv.tm_nodes, Tv.tm_depth]
          unfold bindTerm
          simp only [Tv.nodes, Tv.depth, hbn, hbd, and_self]
        have hfit := Lib.hid (fits_any (bindTerm nm v).tm _ wx _ hes (fun k hk => hk.2) (by omega))
        rw [hbt.1, hbt.2] at hfit
        have obl := lt_heap hob
        clear h0_0 h0_1 h0_2 h0_3 h0_4 h0_5 h0_l h1_0 h1_l h2_l h3_l hpc_0 hpc_l hq'_0 hq'_l hq_l hbt hbn hbd g0 g1
        have HFIT := Lib.hid hfit
        have HES := Lib.hid hes
        have HBX := Lib.hid hbx
        have HBX := Lib.hid hBx
        clear hfit hes hbx hBx
        have hob_0 := cv0 hob
        have hob_1 := cv1 hob
        have hob_2 := cv2 hob
        have hob_3 := cv3 hob
        have hob_4 := cv4 hob
        have hob_5 := cv5 hob
        have hob_l := lt_heap hob
        have HOB := Lib.hid hob
        clear hob
        have h2_0 := cv0 h2
        have h2_1 := cv1 h2
        have h2_2 := cv2 h2
        have h2_3 := cv3 h2
        have h2_4 := cv4 h2
        have h2_5 := cv5 h2
        have h2_f0 := free_heap h2 0
        have h2_f1 := free_heap h2 1
        have h2_f2 := free_heap h2 2
        have h2_f3 := free_heap h2 3
        have h2_f4 := free_heap h2 4
        have h2_f5 := free_heap h2 5
        have h2_l := lt_heap h2
        have H2 := Lib.hid h2
        clear h2
        have h3_0 := cv0 h3
        have h3_1 := cv1 h3
        have h3_f0 := free_heap h3 0
        have h3_f1 := free_heap h3 1
        have h3_l := lt_heap h3
        have H3 := Lib.hid h3
        clear h3
        go_wp2_with fail
        (with_reducible refine HFIT.out.out.mono ?_)
        rintro e wy ⟨rfl, hwy⟩
        have zy := hwy.size
        have zy2 : wx.heap.size ≤ wy.heap.size := zy
        have h2 := (hwy.block _ h2_l).trans H2.out
        have h3 := (hwy.block _ h3_l).trans H3.out
        have hob := (hwy.block _ hob_l).trans HOB.out
        have hBy := HBX.out.trans (hwy.mono (by omega))
        clear hob_0 hob_1 hob_2 hob_3 hob_4 hob_5 h2_0 h2_1 h2_2 h2_3 h2_4 h2_5 h2_f0 h2_f1 h2_f2 h2_f3 h2_f4 h2_f5 h3_0 h3_1 h3_f0 h3_f1 zy
        have HWY := Lib.hid hwy
        have HBY := Lib.hid hBy
        clear hwy hBy
        have hob_0 := cv0 hob
        have hob_1 := cv1 hob
        have hob_2 := cv2 hob
        have hob_3 := cv3 hob
        have hob_4 := cv4 hob
        have hob_5 := cv5 hob
        have hob_l := lt_heap hob
        have HOB := Lib.hid hob
        clear hob
        have h2_0 := cv0 h2
        have h2_1 := cv1 h2
        have h2_2 := cv2 h2
        have h2_3 := cv3 h2
        have h2_4 := cv4 h2
        have h2_5 := cv5 h2
        have h2_f0 := free_heap h2 0
        have h2_f1 := free_heap h2 1
        have h2_f2 := free_heap h2 2
        have h2_f3 := free_heap h2 3
        have h2_f4 := free_heap h2 4
        have h2_f5 := free_heap h2 5
        have h2_l := lt_heap h2
        have H2 := Lib.hid h2
        clear h2
        have h3_0 := cv0 h3
        have h3_1 := cv1 h3
        have h3_f0 := free_heap h3 0
        have h3_f1 := free_heap h3 1
        have h3_l := lt_heap h3
        have H3 := Lib.hid h3
        clear h3
        by_cases hq : v.nodes + 1 ≤ 200 ∧ v.depth + 1 ≤ 40
        case neg =>
          have hq2 : (decide (v.nodes + 1 ≤ 200) && decide (v.depth + 1 ≤ 40)) = false := by
            by_cases h1 : v.nodes + 1 ≤ 200
            · have h2 : ¬ v.depth + 1 ≤ 40 := fun h => hq ⟨h1, h⟩
              simp [h2]
            · simp [h1]
          have hbc : bindCode nm v = 1 := by
            unfold bindCode
            rw [HND.out, if_neg (by simp), if_neg (by rw [← HND.out, HAK.out]; simp), if_pos (by omega)]
          rw [hq2]
          have HBC := Lib.hid hbc
          clear hq hq2 hbc
          go_upto_region 20 with (fail)
          go_cut [] (fun wx => Below w.heap.size w wx ∧ wx.heap[w.heap.size + 1 + 1]? = some (.cells zTm 27 (0, 0)) ∧ wx.heap[w.heap.size + 1 + 1 + 1]? = some (.cells #[.int .i64 1, .int .i64 (-2)] 29 (0, 0)))
          case first =>
            go_wp2_with fail
            go_meet
            exact ⟨below2 (below6 HBY.out (by omega)) (by omega), far2 (by omega) (at6 H2.out), at2 (far6 (by omega) H3.out)⟩
          case rest =>
            obtain ⟨hb, k2, k3⟩ := hcut
            rename World => wx
            have hfin : BindAt v.tm nm w (.returned (.tuple #[.agg zTm, .agg #[.int .i64 1, .int .i64 (-2)]])) wx := HFIN0.out _ _ hb ⟨fun _ => by rw [HBC.out]; rfl, fun h => by rw [HBC.out] at h; simp at h⟩
            clear hob_0 hob_1 hob_2 hob_3 hob_4 hob_5 h2_0 h2_1 h2_2 h2_3 h2_4 h2_5 h2_f0 h2_f1 h2_f2 h2_f3 h2_f4 h2_f5 h3_0 h3_1 h3_f0 h3_f1
            unfold zTm at k2
            have HFIN := Lib.hid hfin
            have HB := Lib.hid hb
            clear hfin hb
            have k2_0 := cv0 k2
            have k2_1 := cv1 k2
            have k2_2 := cv2 k2
            have k2_3 := cv3 k2
            have k2_4 := cv4 k2
            have k2_5 := cv5 k2
            have k2_l := lt_heap k2
            have K2 := Lib.hid k2
            clear k2
            have k3_0 := cv0 k3
            have k3_1 := cv1 k3
            have k3_l := lt_heap k3
            have K3 := Lib.hid k3
            clear k3
            go_wp2_with fail
            refine bodyPost_ret (v := .tuple #[.agg #[.int .i64 0, .string ⟨#[]⟩, .int .i64 0, .string ⟨#[]⟩, .slice none 0 0, .slice none 0 0], .agg #[.int .i64 1, .int .i64 (-2)]]) (by simp [results, Tryd.results27, go_sem, k2_0, k2_1, k2_2, k2_3, k2_4, k2_5, k3_0, k3_1, k2_l, k3_l]) rfl ?_
            exact HFIN.out
        have hq2 : (decide (v.nodes + 1 ≤ 200) && decide (v.depth + 1 ≤ 40)) = true := by simp [hq.1, hq.2]
        have hbc : bindCode nm v = 0 := by
          unfold bindCode
          rw [HND.out, if_neg (by simp), if_neg (by rw [← HND.out, HAK.out]; simp), if_neg (by omega)]
        rw [hq2]
        have HBC := Lib.hid hbc
        clear hq hq2 hbc
        go_upto_region 21 with (fail)
        go_cut [] (fun wz => wz.heap[w.heap.size + 1 + 1]? = some (.cells #[.int .i64 (bindTerm nm v).tm.lab.kind, .string (bindTerm nm v).tm.lab.nm, .int .i64 (bindTerm nm v).tm.lab.ix, .string s7, .slice A7 n7 c7, .slice B7 m7 d7] 27 (0, 0)) ∧ wz.heap[w.heap.size + 1 + 1 + 1]? = some (.cells #[.int .i64 0, .int .i64 0] 29 (0, 0)) ∧ tmRep.R wz (Fresh w wz) (bindTerm nm v).tm [.int .i64 (bindTerm nm v).tm.lab.kind, .string (bindTerm nm v).tm.lab.nm, .int .i64 (bindTerm nm v).tm.lab.ix, .string s7, .slice A7 n7 c7, .slice B7 m7 d7] ∧ Below w.heap.size w wz)
        case first =>
          go_wp2_with fail
          go_meet
          refine ⟨far2 (by omega) (at6 H2.out), at2 (far6 (by omega) H3.out), tmRep.keep HES.out (fun k hk => far2 (by have := hk.1; omega) (far6 (by have := hk.1; omega) (HWY.out.block k hk.2))) (fun k hk => ⟨by have := hk.1; omega, lt2 (lt6 (by have := hk.2; omega))⟩), below2 (below6 HBY.out (by omega)) (by omega)⟩
        case rest =>
          obtain ⟨k2, k3, hu, hb⟩ := hcut
          rename World => wz
          have hfin : BindAt v.tm nm w (.returned (.tuple #[.agg ([.int .i64 (bindTerm nm v).tm.lab.kind, .string (bindTerm nm v).tm.lab.nm, .int .i64 (bindTerm nm v).tm.lab.ix, .string s7, .slice A7 n7 c7, .slice B7 m7 d7]).toArray, .agg #[.int .i64 0, .int .i64 0]])) wz := HFIN0.out _ _ hb ⟨fun h => absurd HBC.out h, fun _ => ⟨_, rfl, hu⟩⟩
          clear hob_0 hob_1 hob_2 hob_3 hob_4 hob_5 h2_0 h2_1 h2_2 h2_3 h2_4 h2_5 h2_f0 h2_f1 h2_f2 h2_f3 h2_f4 h2_f5 h3_0 h3_1 h3_f0 h3_f1
          have HFIN := Lib.hid hfin
          have HB := Lib.hid hb
          have HU := Lib.hid hu
          clear hfin hb hu
          have k2_0 := cv0 k2
          have k2_1 := cv1 k2
          have k2_2 := cv2 k2
          have k2_3 := cv3 k2
          have k2_4 := cv4 k2
          have k2_5 := cv5 k2
          have k2_l := lt_heap k2
          have K2 := Lib.hid k2
          clear k2
          have k3_0 := cv0 k3
          have k3_1 := cv1 k3
          have k3_l := lt_heap k3
          have K3 := Lib.hid k3
          clear k3
          go_wp2_with fail
          refine bodyPost_ret (v := .tuple #[.agg #[.int .i64 (bindTerm nm v).tm.lab.kind, .string (bindTerm nm v).tm.lab.nm, .int .i64 (bindTerm nm v).tm.lab.ix, .string s7, .slice A7 n7 c7, .slice B7 m7 d7], .agg #[.int .i64 0, .int .i64 0]]) (by simp [results, Tryd.results27, go_sem, k2_0, k2_1, k2_2, k2_3, k2_4, k2_5, k3_0, k3_1, k2_l, k3_l]) rfl ?_
          exact HFIN.out

end Go.Proofs.YthflahcnkhmpaabDoor
