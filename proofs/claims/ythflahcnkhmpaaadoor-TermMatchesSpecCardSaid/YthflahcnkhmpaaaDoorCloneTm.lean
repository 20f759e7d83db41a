/-
  term.Clone: the walk: a copy in new memory.
-/
import Derived.Test.YthflahcnkhmpaaaDoorProg
import Derived.Test.YthflahcnkhmpaaaDoorTerm
import Derived.Test.YthflahcnkhmpaaaDoorClone
namespace Go.Proofs.YthflahcnkhmpaaaDoor
open Go Go.RowKit
set_option linter.unusedSimpArgs false
set_option linter.unusedVariables false

def Tv.kids : Tv → List Tv
  | .con _ _ | .var _ => []
  | .abs _ b => [b]
  | .app f x => [f, x]
def Tv.lab : Tv → TmL
  | .con nm s => ⟨1, nm, 0, s.ty⟩
  | .var i => ⟨2, bNil, i, noTy⟩
  | .abs s _ => ⟨3, bNil, 0, s.ty⟩
  | .app _ _ => ⟨4, bNil, 0, noTy⟩
theorem Tv.tm_eq (v : Tv) : v.tm = .mk v.lab (v.kids.map Tv.tm) := by cases v <;> rfl
theorem Tv.kids_nodes (v : Tv) (j : Nat) (h : j < v.kids.length) : v.kids[j].nodes < v.nodes := by
  match v, j, h with
  | .abs _ b, 0, _ => simp [Tv.kids, Tv.nodes]
  | .app f x, 0, _ => simp [Tv.kids, Tv.nodes]; omega
  | .app f x, 1, _ => simp [Tv.kids, Tv.nodes]; omega
theorem Tv.kids_len (v : Tv) : v.kids.length ≤ 2 := by cases v <;> simp [Tv.kids]
/-- A type that a node of a valid term bears: a valid one, or none. -/
def Ty.sound (t : Ty) : Prop := t = noTy ∨ ∃ s : Sy, t = s.ty
theorem Tv.lab_sound (v : Tv) : v.lab.ty.sound := by
  cases v
  · exact Or.inr ⟨_, rfl⟩
  · exact Or.inl rfl
  · exact Or.inr ⟨_, rfl⟩
  · exact Or.inl rfl

theorem infoTerm : (Tryd.prog.info? 49).map (fun i => (i.zero, i.size, i.bytes)) = some (some (.agg #[.int .i64 0, .string ⟨#[]⟩, .int .i64 0, .string ⟨#[]⟩, .slice none 0 0, .slice none 0 0]), 6, 96) := by kernel_rfl

set_option maxRecDepth 100000 in
theorem cloneTy_any (t : Ty) (ht : t.sound) (v0 v1 : Value) (w : World) (S : Nat → Prop) (h : t.In w S v0 v1) (hS : ∀ b, S b → b < w.heap.size) :
    Calls Tryd.prog 48 #[.agg #[v0, v1]] w fun e w' => ∃ u0 u1, e = .returned (.agg #[u0, u1]) ∧ t.In w' (Fresh w w') u0 u1 ∧ Below w.heap.size w w' := by
  rcases ht with rfl | ⟨s, rfl⟩
  · obtain ⟨rfl, _, A, n, c, rfl, hl, _⟩ := h.open_
    simp at hl
    subst hl
    clear h hS
    go_enter Tryd.func48, Tryd.ntmps48
    go_wp2_with fail
    go_loopg [12] 0 (fun k v wr => v = .int .i64 0 ∧ wr.heap[w.heap.size + 1 + 1]? = some (.cells #[.string bNil, .slice none 0 0] 24 (0, 0)) ∧ wr.heap[w.heap.size + 1]? = some (.cells #[.string ⟨#[]⟩, .slice none 0 0] 24 (0, 0)) ∧ Below w.heap.size w wr)
    case atStart => exact ⟨rfl, heap_at (by go_size), heap_old (by go_size) (heap_at (by go_size)), by go_grown⟩
    case round =>
      obtain ⟨rfl, h2, h1, hb⟩ := hrel
      have HB := Lib.hid hb
      clear hb
      have h1_0 := cv0 h1
      have h1_1 := cv1 h1
      have h1_f0 := free_heap h1 0
      have h1_f1 := free_heap h1 1
      have h1_l := lt_heap h1
      have H1 := Lib.hid h1
      clear h1
      have h2_0 := cv0 h2
      have h2_1 := cv1 h2
      have h2_f0 := free_heap h2 0
      have h2_f1 := free_heap h2 1
      have h2_l := lt_heap h2
      have H2 := Lib.hid h2
      clear h2
      go_wp2_with fail
      refine bodyPost_ret (v := .agg #[.string bNil, .slice none 0 0]) (by simp [results, Tryd.results48, go_sem, h1_0, h1_1]) rfl ?_
      exact ⟨_, _, rfl, Ty.In.mk_ (by decide +kernel) rfl (by omega) (by omega), (HB.out.setCell (by simp) _).setCell (by simp) _⟩
  · exact clone_any _ s v0 v1 w S (Nat.le_refl _) h hS

set_option maxRecDepth 100000 in
set_option maxHeartbeats 4000000 in
theorem cloneTm_any : ∀ (N : Nat) (v : Tv) (cs : List Value) (w : World) (S : Nat → Prop), v.nodes ≤ N → tmRep.R w S v.tm cs → (∀ b, S b → b < w.heap.size) →
    Calls Tryd.prog 56 #[.agg cs.toArray] w fun e w' => ∃ ds, e = .returned (.agg ds.toArray) ∧ tmRep.R w' (Fresh w w') v.tm ds ∧ Below w.heap.size w w' := by
  intro N
  induction N with
  | zero => intro v; have := v.nodes_pos; intros; omega
  | succ N ih =>
  intro v cs w S hN h hS
  have IH := Lib.hid ih
  clear ih
  rw [Tv.tm_eq] at h
  have hso := v.lab_sound
  obtain ⟨u0, u1, vs, rfl, hnm, hty, hl⟩ := Tm.open_ h
  obtain ⟨sa, Aa, na, ca, rfl, rfl⟩ := hty.shape
  have HL := Lib.hid hl
  have hkl := v.kids_len
  obtain ⟨A, n, c, rfl, hln, hm, _⟩ := hl
  rw [List.length_map] at hln
  subst hln
  have HNM := Lib.hid hnm
  have HSO := Lib.hid hso
  have HTE := Lib.hid v.tm_eq
  generalize v.lab = lab at *
  obtain ⟨kd, nm, ix, ty⟩ := lab
  simp only at hty
  clear h hnm hso
  have HS := Lib.hid hS
  have HN := Lib.hid hN
  have HTY := Lib.hid hty
  clear hS hN hty
  obtain ⟨i0, hi0, hz0, hz1, hz2⟩ := info_parts infoTerm
  go_enter Tryd.func56, Tryd.ntmps56
  go_wp2_with fail
  refine (cloneTy_any ty HSO.out _ _ _ S (HTY.out.keep (fun k hk => heap_old (by have := HS.out k hk; simp; omega) (heap_old (by have := HS.out k hk; simp; omega) (heap_old (HS.out k hk) rfl)))) (fun k hk => by have := HS.out k hk; simp; omega)).mono ?_
  rintro e w1 ⟨t0, t1, rfl, hct, hw1⟩
  obtain ⟨sc, Ac, nc, cc, rfl, rfl⟩ := hct.shape
  have hx0 := (hw1.block w.heap.size (by simp <;> omega)).trans (heap_old (by simp <;> omega) (heap_old (by simp) (heap_at rfl)))
  have hx1 := (hw1.block (w.heap.size + 1) (by simp)).trans (heap_old (by simp) (heap_at (by simp)))
  have hx2 := (hw1.block (w.heap.size + 1 + 1) (by simp)).trans (heap_at (by simp))
  have z1 : w.heap.size + 3 ≤ w1.heap.size := by have := hw1.size; simpa using this
  have hb1 : Below w.heap.size w w1 := (show Below w.heap.size w _ by go_grown).trans (hw1.mono (by simp; omega))
  have hct' := hct.mono (S' := fun b => w.heap.size + 3 ≤ b ∧ b < w1.heap.size) (fun b hb => by have h1 := hb.1; have h2 := hb.2; simp at h1; omega)
  have HCTP := Lib.hid hct'
  have HB1 := Lib.hid hb1
  have HCT := Lib.hid hct
  have HW1 := Lib.hid hw1
  clear hct' hb1 hct hw1
  have hx0_0 := cv0 hx0
  have hx0_1 := cv1 hx0
  have hx0_2 := cv2 hx0
  have hx0_3 := cv3 hx0
  have hx0_4 := cv4 hx0
  have hx0_5 := cv5 hx0
  have hx0_l := lt_heap hx0
  have HX0 := Lib.hid hx0
  clear hx0
  have hx1_0 := cv0 hx1
  have hx1_1 := cv1 hx1
  have hx1_2 := cv2 hx1
  have hx1_3 := cv3 hx1
  have hx1_4 := cv4 hx1
  have hx1_5 := cv5 hx1
  have hx1_f0 := free_heap hx1 0
  have hx1_f1 := free_heap hx1 1
  have hx1_f2 := free_heap hx1 2
  have hx1_f3 := free_heap hx1 3
  have hx1_f4 := free_heap hx1 4
  have hx1_f5 := free_heap hx1 5
  have hx1_l := lt_heap hx1
  have HX1 := Lib.hid hx1
  clear hx1
  have hx2_0 := cv0 hx2
  have hx2_1 := cv1 hx2
  have hx2_2 := cv2 hx2
  have hx2_3 := cv3 hx2
  have hx2_4 := cv4 hx2
  have hx2_5 := cv5 hx2
  have hx2_f0 := free_heap hx2 0
  have hx2_f1 := free_heap hx2 1
  have hx2_f2 := free_heap hx2 2
  have hx2_f3 := free_heap hx2 3
  have hx2_f4 := free_heap hx2 4
  have hx2_f5 := free_heap hx2 5
  have hx2_l := lt_heap hx2
  have HX2 := Lib.hid hx2
  clear hx2
  go_wp2_with fail
  go_loopg [15] v.kids.length (fun k v15 wr => ∃ (j : Nat) (q : Value), j + k = v.kids.length ∧ v15 = .int .i64 j ∧ wr.heap[w.heap.size + 1 + 1]? = some (.cells #[.int .i64 kd, .string nm, .int .i64 ix, .string sc, .slice Ac nc cc, q] 49 (0, 0)) ∧
    wr.heap[w.heap.size + 1]? = some (.cells #[.int .i64 0, .string ⟨#[]⟩, .int .i64 0, .string ⟨#[]⟩, .slice none 0 0, .slice none 0 0] 49 (0, 0)) ∧ tmRep.Own 49 w1.heap.size wr (fun b => w1.heap.size ≤ b ∧ b < wr.heap.size) q ((v.kids.take j).map Tv.tm) ∧ Below w.heap.size w wr ∧ w1.heap.size ≤ wr.heap.size ∧ (∀ b, w.heap.size + 3 ≤ b → b < w1.heap.size → wr.heap[b]? = w1.heap[b]?))
  case atStart =>
    refine ⟨0, .slice none 0 0, by omega, rfl, ?_, heap_far _ (by omega) (heap_far _ (by omega) (heap_far _ (by omega) HX1.out)), by simpa using Rep.Own.nil, ((HB1.out.setCell (by simp <;> omega) _).setCell (by simp <;> omega) _).setCell (by simp <;> omega) _, by simp [size_set], fun b h1 h2 => heap_far _ (by omega) (heap_far _ (by omega) (heap_far _ (by omega) rfl))⟩
    simpa using heap_set (heap_set (heap_set HX2.out 3 _) 4 _) 5 _
  case round =>
    obtain ⟨j, q, hj, rfl, hc, hr, hown, hb, hw1s, hkk⟩ := hrel
    obtain ⟨Aq, cq, hq⟩ := hown.len
    have hlen : ((v.kids.take j).map Tv.tm).length = j := by simp; omega
    rw [hlen] at hq
    subst hq
    have HO := Lib.hid hown
    clear hx0_0 hx0_1 hx0_2 hx0_3 hx0_4 hx0_5 hx0_l hx1_0 hx1_1 hx1_2 hx1_3 hx1_4 hx1_5 hx1_f0 hx1_f1 hx1_f2 hx1_f3 hx1_f4 hx1_f5 hx1_l hx2_0 hx2_1 hx2_2 hx2_3 hx2_4 hx2_5 hx2_f0 hx2_f1 hx2_f2 hx2_f3 hx2_f4 hx2_f5 hx2_l
    have HB := Lib.hid hb
    have HKK := Lib.hid hkk
    have HLEN := Lib.hid hlen
    have HOWN := Lib.hid hown
    clear hb hkk hlen hown
    have hc_0 := cv0 hc
    have hc_1 := cv1 hc
    have hc_2 := cv2 hc
    have hc_3 := cv3 hc
    have hc_4 := cv4 hc
    have hc_5 := cv5 hc
    have hc_f0 := free_heap hc 0
    have hc_f1 := free_heap hc 1
    have hc_f2 := free_heap hc 2
    have hc_f3 := free_heap hc 3
    have hc_f4 := free_heap hc 4
    have hc_f5 := free_heap hc 5
    have hc_l := lt_heap hc
    have HC := Lib.hid hc
    clear hc
    have hr_0 := cv0 hr
    have hr_1 := cv1 hr
    have hr_2 := cv2 hr
    have hr_3 := cv3 hr
    have hr_4 := cv4 hr
    have hr_5 := cv5 hr
    have hr_f0 := free_heap hr 0
    have hr_f1 := free_heap hr 1
    have hr_f2 := free_heap hr 2
    have hr_f3 := free_heap hr 3
    have hr_f4 := free_heap hr 4
    have hr_f5 := free_heap hr 5
    have hr_l := lt_heap hr
    have HR := Lib.hid hr
    clear hr
    by_cases hjl : j < v.kids.length
    · obtain ⟨b, o, kc, rfl, hSb, hkr, hkc⟩ := Rep.Sl.at_ HL.out (k := j) (a := v.kids[j].tm) (by simp [hjl])
      obtain ⟨s1, A1, n1, c1, B1, m1, d1, rfl, _, _⟩ := Tm.shape hkr
      have hbs := HS.out _ hSb
      have hk := HB.out.block b hbs
      have e0 : wr.cell? ⟨b, o + j * 6, none⟩ = _ := (cell_keep hk _).trans (hkc 0 _ rfl)
      have e1 : wr.cell? ⟨b, o + j * 6 + 1, none⟩ = _ := (cell_keep hk _).trans (hkc 1 _ rfl)
      have e2 : wr.cell? ⟨b, o + j * 6 + 2, none⟩ = _ := (cell_keep hk _).trans (hkc 2 _ rfl)
      have e3 : wr.cell? ⟨b, o + j * 6 + 3, none⟩ = _ := (cell_keep hk _).trans (hkc 3 _ rfl)
      have e4 : wr.cell? ⟨b, o + j * 6 + 4, none⟩ = _ := (cell_keep hk _).trans (hkc 4 _ rfl)
      have e5 : wr.cell? ⟨b, o + j * 6 + 5, none⟩ = _ := (cell_keep hk _).trans (hkc 5 _ rfl)
      have HX := Lib.hid (tmRep.keep hkr (fun k hk => HB.out.block k (HS.out k hk)) (fun _ h => h))
      have zb : b < wr.heap.size := by have := HB.out.size; omega
      have q0 : (0 : Int) ≤ (j : Int) := by omega
      have q1 : (j : Int) < (v.kids.length : Int) := by omega
      clear hkr hkc hk
      go_wp2_with fail
      have hkn := v.kids_nodes j hjl
      have hblk : ∀ k, (Value.slice Aq j cq).ownBlock = some k → w1.heap.size ≤ k ∧ k < wr.heap.size := HO.out.block
      have hih := fun (o : Obj) => Lib.hid (IH.out v.kids[j] [.int .i64 v.kids[j].tm.lab.kind, .string v.kids[j].tm.lab.nm, .int .i64 v.kids[j].tm.lab.ix, .string s1, .slice A1 n1 c1, .slice B1 m1 d1] (wr.alloc o).drew S (by have := HN.out; omega) (tmRep.keep HX.out (fun k hk => heap_old (by have := HS.out k hk; have := HB.out.size; omega) rfl) (fun _ h => h)) (fun k hk => by have := HS.out k hk; have := HB.out.size; simp; omega))
      have HBLK := Lib.hid hblk
      have HIH := Lib.hid hih
      clear hblk hih
      have hxc : w.heap.size + 1 + 1 < wr.heap.size := by omega
      go_region_law (first
          | (refine step_call (by rfl) 56 #[.agg #[.int .i64 v.kids[j].tm.lab.kind, .string v.kids[j].tm.lab.nm, .int .i64 v.kids[j].tm.lab.ix, .string s1, .slice A1 n1 c1, .slice B1 m1 d1]] (by go_simp) (HIH.out _).out ?_; rintro e w2 ⟨ds, rfl, hu, hw2⟩; refine ⟨_, rfl, ?_⟩; obtain ⟨s2, A2, n2, c2, B2, m2, d2, rfl, _, _⟩ := Tm.shape hu; have hy := (hw2.block (w.heap.size + 1 + 1) (by simp; omega)).trans (heap_old (by omega) HC.out); have hz := (hw2.block (w.heap.size + 1) (by simp; omega)).trans (heap_old (by omega) HR.out); have hy_5 := cv5 hy; have hy_f := free_heap hy 5; have z2 : wr.heap.size + 1 ≤ w2.heap.size := (by have := hw2.size; simpa using this); have d3 : w.heap.size + 1 + 1 < w2.heap.size := (by omega); have hw2k : ∀ k, k < wr.heap.size → w2.heap[k]? = wr.heap[k]? := (fun k hk => (hw2.block k (by simp; omega)).trans (heap_old hk rfl)); obtain ⟨xs, hown, hall⟩ := HO.out.grow (w' := w2) (fun k _ hk => hw2k k hk) (by omega); rw [HLEN.out] at hown; have HOWN := Lib.hid hown; have HALL := Lib.hid hall; have HU := Lib.hid hu; have HW2 := Lib.hid hw2; have HW2K := Lib.hid hw2k; have HY := Lib.hid hy; have HZ := Lib.hid hz; clear hu hw2 hown hall hy hz hw2k)
          | (refine step_append_lies _ (by rfl) (.tmp 20) (.tmp 23) _ (by rfl) w1.heap.size 49 i0 _ 6 96 Tryd.underlying47 hi0 hz0 hz1 hz2 rfl (by omega) (.slice Aq j cq) j xs (by rfl) (HOWN.out.alloc _) ⟨w2.heap.size, 0, none⟩ 1 1 [.int .i64 v.kids[j].tm.lab.kind, .string v.kids[j].tm.lab.nm, .int .i64 v.kids[j].tm.lab.ix, .string s2, .slice A2 n2 c2, .slice B2 m2 d2] (by rfl) (by rfl) (World.news_of_block (cs := #[.int .i64 v.kids[j].tm.lab.kind, .string v.kids[j].tm.lab.nm, .int .i64 v.kids[j].tm.lab.ix, .string s2, .slice A2 n2 c2, .slice B2 m2 d2]) (t := 49) (fr := (0, 0)) (heap_alloc_new w2 _)) (by simp [Value.oneCell']) (by omega) (by unfold maxLen; omega) (by omega) (by simp; omega) (w2.heap.size + 1) (by simp) ?_; intro gg cap w3 hown3 hgrow hat hlt; have h3 := (hgrow.block (w.heap.size + 1 + 1) (by simp; omega) (by intro e; have := HBLK.out _ e.symm; omega)).trans (heap_old d3 HY.out); have h4 := (hgrow.block (w.heap.size + 1) (by simp; omega) (by intro e; have := HBLK.out _ e.symm; omega)).trans (heap_old (by omega) HZ.out); have h3_5 := cv5 h3; have h3_f := free_heap h3 5; have H3 := Lib.hid h3; have H4 := Lib.hid h4; clear h3 h4; have z3 : w2.heap.size + 1 ≤ w3.heap.size := (by have := hgrow.size; simpa using this); have HOWN3 := Lib.hid hown3; have HGROW := Lib.hid hgrow; have HAT := Lib.hid hat; clear hown3 hgrow hat))
      all_goals
        go_wp2_with fail
        go_roundg (v.kids.length - (j + 1))
        case measure => omega
        case rel =>
          have hb3 : Below w.heap.size w w3 := ((((HB.out.alloc (by omega) _).drew).trans (HW2.out.mono (by simp; omega))).alloc (by omega) _).grown HGROW.out (by simp; omega) (fun k hk => by have := HBLK.out k hk; omega)
          have hown := Rep.step (l := (v.kids.take j).map Tv.tm) (a := v.kids[j].tm) HLEN.out HALL.out HU.out (fun b hb => ⟨⟨by have := hb.1; simp at this; omega, hb.2⟩, fun e => by have := HBLK.out _ e; have := hb.1; simp at this; omega⟩) HOWN3.out HGROW.out HAT.out
          refine ⟨j + 1, .slice (some ⟨gg, 0, none⟩) (j + 1) cap, by omega, by go_num, by simpa using heap_set H3.out 5 _, heap_far _ (by omega) H4.out, ?_, hb3.setCell (by simp <;> omega) _, by rw [size_set]; omega, fun k h1 h2 => heap_far _ (by omega) ((HGROW.out.block k (by simp; omega) (by intro e; have := HBLK.out _ e.symm; omega)).trans ((heap_old (by omega) (HW2K.out k (by omega))).trans (HKK.out k h1 h2)))⟩
          rw [List.take_succ_eq_append_getElem hjl, List.map_append]
          exact hown.grow (fun k hk _ => heap_far _ (by omega) rfl) (by rw [size_set]; omega)
    · go_wp2_with fail
      have hjk : j = v.kids.length := by omega
      refine bodyPost_ret (v := .agg #[.int .i64 kd, .string nm, .int .i64 ix, .string sc, .slice Ac nc cc, .slice Aq j cq]) (by simp [results, Tryd.results56, go_sem, hr_0, hr_1, hr_2, hr_3, hr_4, hr_5, hr_l]) rfl ?_
      have hown := HO.out
      rw [hjk, List.take_length] at hown
      rw [HTE.out, hjk]
      refine ⟨_, rfl, Tm.shut (l := v.kids.map Tv.tm) (a := ⟨kd, nm, ix, ty⟩) HNM.out ?_ ?_, (((((HB.out.setCell (by simp <;> omega) _).setCell (by simp <;> omega) _).setCell (by simp <;> omega) _).setCell (by simp <;> omega) _).setCell (by simp <;> omega) _).setCell (by simp <;> omega) _⟩
      · exact (HCTP.out.keep (fun b hb => heap_far _ (by omega) (heap_far _ (by omega) (heap_far _ (by omega) (heap_far _ (by omega) (heap_far _ (by omega) (heap_far _ (by omega) (HKK.out b hb.1 hb.2)))))))).mono (fun b hb => ⟨by omega, by simp only [size_set]; omega⟩)
      · exact ((Rep.Own.sl (S' := fun b => w1.heap.size ≤ b ∧ b < wr.heap.size) hown (by simp [maxLen]; omega) (fun b hb => hb) (fun b h1 h2 => ⟨h1, h2⟩)).keep (fun b hb => heap_far _ (by omega) (heap_far _ (by omega) (heap_far _ (by omega) (heap_far _ (by omega) (heap_far _ (by omega) (heap_far _ (by omega) rfl)))))) (fun b hb => ⟨by omega, by simp only [size_set]; omega⟩))

end Go.Proofs.YthflahcnkhmpaaaDoor
