/-
  reduce.put: the walk.
-/
import Derived.Test.YthflahcnkhmpaabDoorProg
import Derived.Test.YthflahcnkhmpaabDoorLift
namespace Go.Proofs.YthflahcnkhmpaabDoor
open Go Go.RowKit
set_option linter.unusedSimpArgs false
set_option linter.unusedVariables false

theorem Tv.put_eq (v x : Tv) (a : Nat) (h : v.isVar = false) : (v.put x a).tm = .mk v.lab (v.kids.map fun y => (y.put x (v.more a)).tm) := by
  cases v <;> first | rfl | simp [Tv.isVar] at h

set_option maxRecDepth 100000 in
set_option maxHeartbeats 4000000 in
theorem put_any : ∀ (N : Nat) (v x : Tv) (a bd bx : Nat) (cs ds : List Value) (w : World) (S : Nat → Prop), v.nodes ≤ N → v.ok bd → x.ok bx → bd + v.nodes ≤ 1000000000000 → bx + x.nodes + a + v.nodes ≤ 1000000000000 → tmRep.R w S v.tm cs → tmRep.R w S x.tm ds → (∀ b, S b → b < w.heap.size) →
    Calls Tryd.prog 62 #[.agg cs.toArray, .agg ds.toArray, .int .i64 a] w fun e w' => ∃ es, e = .returned (.agg es.toArray) ∧ tmRep.R w' (Ex S w w') (v.put x a).tm es ∧ Below w.heap.size w w' := by
  intro N
  induction N with
  | zero => intro v; have := v.nodes_pos; intros; omega
  | succ N ih =>
  intro v x a bd bx cs ds w S hN hok hokx hbn hbx h hx hS
  have IH := Lib.hid ih
  clear ih
  have hnp := v.nodes_pos
  obtain ⟨sX, AX, nX, cX, BX, mX, dX, rfl, _, _⟩ := Tm.shape hx
  by_cases hv : v.isVar = true
  · cases v with
    | var i =>
      obtain ⟨u0, u1, vs, rfl, hnm, hty, hl⟩ := Tm.open_ h
      obtain ⟨sa, Aa, na, ca, rfl, rfl⟩ := hty.shape
      obtain ⟨A, m, cp, rfl, hln, hm, _⟩ := hl
      simp only [List.length_nil] at hln
      subst hln
      have hi : i < bd := hok
      simp only [Tv.nodes] at hbn hbx
      clear h hm hok hN hnp hv
      have hlow : ∀ (o p q r : Obj) b, S b → ((((w.alloc o).alloc p).alloc q).alloc r).heap[b]? = w.heap[b]? := fun o p q r b hb => by
        have := hS b hb
        exact heap_old (by simp; omega) (heap_old (by simp; omega) (heap_old (by simp; omega) (heap_old this rfl)))
      rcases Nat.lt_trichotomy i a with hia | hia | hia
      · have e : Tv.put (.var i) x a = .var i := by simp only [Tv.put]; rw [if_neg (by omega), if_neg (by omega)]
        rw [e]
        clear e
        have HS := Lib.hid hS
        have HTY := Lib.hid hty
        have HNM := Lib.hid hnm
        have HLOW := Lib.hid hlow
        have HX := Lib.hid hx
        have HOKX := Lib.hid hokx
        clear hS hty hnm hlow hx hokx
        go_enter Tryd.func62, Tryd.ntmps62
        go_wp2_with fail
        refine bodyPost_ret (v := .agg #[.int .i64 2, .string bNil, .int .i64 (i : Int), .string sa, .slice Aa na ca, .slice A 0 cp]) (by simp [results, Tryd.results62, go_sem]) rfl ?_
        refine ⟨[.int .i64 2, .string bNil, .int .i64 (i : Int), .string sa, .slice Aa na ca, .slice A 0 cp], by simp, Tm.shut (a := ⟨2, bNil, (i : Int), noTy⟩) (l := []) HNM.out ?_ Rep.Sl.nil, by go_grown⟩
        exact Ty.In_keep (fun b hb => HLOW.out _ _ _ _ b hb) (fun b hb => Or.inl hb) _ _ _ HTY.out
      · subst hia
        have e : Tv.put (.var i) x i = x.lift i 0 := by simp [Tv.put]
        rw [e]
        clear e
        have hv := fun (o p q r : Obj) => Lib.hid (lift_any x.nodes x i 0 bx [.int .i64 x.tm.lab.kind, .string x.tm.lab.nm, .int .i64 x.tm.lab.ix, .string sX, .slice AX nX cX, .slice BX mX dX] ((((w.alloc o).alloc p).alloc q).alloc r) S (Nat.le_refl _) hokx (by omega) (by omega) (tmRep.keep hx (hlow o p q r) (fun _ h => h)) (fun k hk => by have := hS k hk; simp; omega))
        simp only [Int.cast_ofNat_Int] at hv
        have HS := Lib.hid hS
        have HTY := Lib.hid hty
        have HNM := Lib.hid hnm
        have HLOW := Lib.hid hlow
        have HX := Lib.hid hx
        have HOKX := Lib.hid hokx
        have HV := Lib.hid hv
        clear hS hty hnm hlow hx hokx hv
        go_enter Tryd.func62, Tryd.ntmps62
        go_wp2_with fail
        (with_reducible refine (HV.out _ _ _ _).out.mono ?_)
        rintro e w1 ⟨es, rfl, hu, hw1⟩
        obtain ⟨s2, A2, n2, c2, B2, m2, d2, rfl, _, _⟩ := Tm.shape hu
        have z1 : w.heap.size + 4 ≤ w1.heap.size := by have := hw1.size; simpa using this
        have hr := (hw1.block (w.heap.size + 1 + 1) (by simp)).trans (heap_old (by simp) (heap_at (by simp)))
        have hB : Below w.heap.size w w1 := (show Below w.heap.size w _ by go_grown).trans (hw1.mono (by simp; omega))
        have HU := Lib.hid hu
        have HW1 := Lib.hid hw1
        have HB := Lib.hid hB
        clear hu hw1 hB
        have hr_0 := cv0 hr
        have hr_1 := cv1 hr
        have hr_2 := cv2 hr
        have hr_3 := cv3 hr
        have hr_4 := cv4 hr
        have hr_5 := cv5 hr
        have hr_f0 := free_heap hr 0
        have hr_f1 := free_heap hr 1
        have hr_f2 := free_heap hr 2
        have hr_f3 := free_heap hr 3
        have hr_f4 := free_heap hr 4
        have hr_f5 := free_heap hr 5
        have hr_l := lt_heap hr
        have HR := Lib.hid hr
        clear hr
        go_wp2_with fail
        refine bodyPost_ret (v := .agg #[.int .i64 (x.lift i 0).tm.lab.kind, .string (x.lift i 0).tm.lab.nm, .int .i64 (x.lift i 0).tm.lab.ix, .string s2, .slice A2 n2 c2, .slice B2 m2 d2]) (by simp [results, Tryd.results62, go_sem, hr_0, hr_1, hr_2, hr_3, hr_4, hr_5, hr_l]) rfl ?_
        refine ⟨_, rfl, tmRep.keep HU.out (fun k hk => ?_) (fun k hk => ?_), (((((HB.out.setCell (by simp <;> omega) _).setCell (by simp <;> omega) _).setCell (by simp <;> omega) _).setCell (by simp <;> omega) _).setCell (by simp <;> omega) _).setCell (by simp <;> omega) _⟩
        · have h' : k ≠ w.heap.size + 1 + 1 := by
            rcases hk with hk | hk
            · have := HS.out k hk; omega
            · have := hk.1; simp at this; omega
          exact heap_far _ h' (heap_far _ h' (heap_far _ h' (heap_far _ h' (heap_far _ h' (heap_far _ h' rfl)))))
        · exact hk.imp_right (fun h => ⟨by have := h.1; simp at this; omega, by simp only [size_set]; exact h.2⟩)
      · have e : Tv.put (.var i) x a = .var (i - 1) := by simp only [Tv.put]; rw [if_neg (by omega), if_pos (by omega)]
        rw [e]
        clear e
        have HS := Lib.hid hS
        have HTY := Lib.hid hty
        have HNM := Lib.hid hnm
        have HLOW := Lib.hid hlow
        have HX := Lib.hid hx
        have HOKX := Lib.hid hokx
        clear hS hty hnm hlow hx hokx
        go_enter Tryd.func62, Tryd.ntmps62
        go_wp2_with fail
        refine bodyPost_ret (v := .agg #[.int .i64 2, .string bNil, .int .i64 ((i : Int) - 1), .string sa, .slice Aa na ca, .slice A 0 cp]) (by simp [results, Tryd.results62, go_sem]) rfl ?_
        refine ⟨[.int .i64 2, .string bNil, .int .i64 ((i - 1 : Nat) : Int), .string sa, .slice Aa na ca, .slice A 0 cp], by simp; omega, Tm.shut (a := ⟨2, bNil, ((i - 1 : Nat) : Int), noTy⟩) (l := []) HNM.out ?_ Rep.Sl.nil, by go_grown⟩
        exact Ty.In_keep (fun b hb => HLOW.out _ _ _ _ b hb) (fun b hb => Or.inl hb) _ _ _ HTY.out
    | con _ _ => simp [Tv.isVar] at hv
    | abs _ _ => simp [Tv.isVar] at hv
    | app _ _ => simp [Tv.isVar] at hv
  · rw [Bool.not_eq_true] at hv
    rw [Tv.put_eq v x a hv]
    rw [Tv.tm_eq] at h
    obtain ⟨u0, u1, vs, rfl, hnm, hty, hl⟩ := Tm.open_ h
    obtain ⟨sa, Aa, na, ca, rfl, rfl⟩ := hty.shape
    have HL := Lib.hid hl
    have hkl := v.kids_len
    have hka := v.kind_abs a
    have t2 : (v.lab.kind == 2) = false := v.kind_var.trans hv
    have hml := v.more_le a
    have hmb := v.more_le bd
    obtain ⟨A, m, c, rfl, hln, hm, _⟩ := hl
    rw [List.length_map] at hln
    subst hln
    have HOK := Lib.hid hok
    have HNM := Lib.hid hnm
    have HXR := Lib.hid hx
    have HOKX := Lib.hid hokx
    generalize v.lab = lab at *
    obtain ⟨kd, nm, ix, ty⟩ := lab
    simp only at hty hka t2
    clear h hnm hok hm hnp hx hokx
    obtain ⟨i0, hi0, hz0, hz1, hz2⟩ := info_parts infoTerm
    have HS := Lib.hid hS
    have HN := Lib.hid hN
    have HTY := Lib.hid hty
    have HV := Lib.hid hv
    clear hS hN hty hv
    rcases hka with ⟨t3, hlw⟩ | ⟨t3, hlw⟩
    all_goals
      have hlwi := congrArg (fun x : Nat => (x : Int)) hlw
      try simp only [Int.natCast_add, Int.cast_ofNat_Int] at hlwi
      have HLWI := Lib.hid hlwi
      clear hlw hlwi
      go_enter Tryd.func62, Tryd.ntmps62
      go_wp2_with fail
      go_loopg [39] v.kids.length (fun g vi wr => ∃ (j : Nat) (q : Value), j + g = v.kids.length ∧ vi = .int .i64 j ∧ wr.heap[w.heap.size + 1 + 1 + 1]? = some (.cells #[.int .i64 kd, .string nm, .int .i64 ix, .string sa, .slice Aa na ca, q] 27 (0, 0)) ∧
        wr.heap[w.heap.size + 1 + 1]? = some (.cells #[.int .i64 0, .string ⟨#[]⟩, .int .i64 0, .string ⟨#[]⟩, .slice none 0 0, .slice none 0 0] 27 (0, 0)) ∧ tmRep.Own 27 (w.heap.size + 4) wr (New S (w.heap.size + 4) wr) q ((v.kids.take j).map fun x_ => (x_.put x (v.more a)).tm) ∧ Below w.heap.size w wr ∧ w.heap.size + 4 ≤ wr.heap.size ∧ wr.heap[w.heap.size + 1]? = some (.cells #[.int .i64 x.tm.lab.kind, .string x.tm.lab.nm, .int .i64 x.tm.lab.ix, .string sX, .slice AX nX cX, .slice BX mX dX] 27 (0, 0)))
      case atStart =>
        refine ⟨0, .slice none 0 0, by omega, rfl, heap_at (by simp), heap_old (by simp) (heap_at (by simp)), by simpa using Rep.Own.nil, by go_grown, by simp, heap_old (by simp) (heap_old (by simp) (heap_at (by simp)))⟩
      case round =>
        obtain ⟨j, q, hj, rfl, hc, hr, hown, hb, hw1s, hkx⟩ := hrel
        obtain ⟨Aq, cq, hq⟩ := hown.len
        have hlen : ((v.kids.take j).map fun x_ => (x_.put x (v.more a)).tm).length = j := by simp; omega
        rw [hlen] at hq
        subst hq
        have HO := Lib.hid hown
        have HB := Lib.hid hb
        have HLEN := Lib.hid hlen
        have HOWN := Lib.hid hown
        clear hb hlen hown
        have hc_0 := cv0 hc
        have hc_1 := cv1 hc
        have hc_2 := cv2 hc
        have hc_3 := cv3 hc
        have hc_4 := cv4 hc
        have hc_5 := cv5 hc
        have hc_f0 := free_heap hc 0
        have hc_f1 := free_heap hc 1
        have hc_f2 := free_heap hc 2
        have hc_f3 := free_heap hc 3
        have hc_f4 := free_heap hc 4
        have hc_f5 := free_heap hc 5
        have hc_l := lt_heap hc
        have HC := Lib.hid hc
        clear hc
        have hr_0 := cv0 hr
        have hr_1 := cv1 hr
        have hr_2 := cv2 hr
        have hr_3 := cv3 hr
        have hr_4 := cv4 hr
        have hr_5 := cv5 hr
        have hr_f0 := free_heap hr 0
        have hr_f1 := free_heap hr 1
        have hr_f2 := free_heap hr 2
        have hr_f3 := free_heap hr 3
        have hr_f4 := free_heap hr 4
        have hr_f5 := free_heap hr 5
        have hr_l := lt_heap hr
        have HR := Lib.hid hr
        clear hr
        have hkx_0 := cv0 hkx
        have hkx_1 := cv1 hkx
        have hkx_2 := cv2 hkx
        have hkx_3 := cv3 hkx
        have hkx_4 := cv4 hkx
        have hkx_5 := cv5 hkx
        have hkx_l := lt_heap hkx
        have HKX := Lib.hid hkx
        clear hkx
        by_cases hjl : j < v.kids.length
        · obtain ⟨b, o, kc, rfl, hSb, hkr, hkc⟩ := Rep.Sl.at_ HL.out (k := j) (a := v.kids[j].tm) (by simp [hjl])
          obtain ⟨s1, A1, n1, c1, B1, m1, d1, rfl, _, _⟩ := Tm.shape hkr
          have hbs := HS.out _ hSb
          have hk := HB.out.block b hbs
          have e0 : wr.cell? ⟨b, o + j * 6, none⟩ = _ := (cell_keep hk _).trans (hkc 0 _ rfl)
          have e1 : wr.cell? ⟨b, o + j * 6 + 1, none⟩ = _ := (cell_keep hk _).trans (hkc 1 _ rfl)
          have e2 : wr.cell? ⟨b, o + j * 6 + 2, none⟩ = _ := (cell_keep hk _).trans (hkc 2 _ rfl)
          have e3 : wr.cell? ⟨b, o + j * 6 + 3, none⟩ = _ := (cell_keep hk _).trans (hkc 3 _ rfl)
          have e4 : wr.cell? ⟨b, o + j * 6 + 4, none⟩ = _ := (cell_keep hk _).trans (hkc 4 _ rfl)
          have e5 : wr.cell? ⟨b, o + j * 6 + 5, none⟩ = _ := (cell_keep hk _).trans (hkc 5 _ rfl)
          have HX := Lib.hid (tmRep.keep hkr (fun k hk => HB.out.block k (HS.out k hk)) (fun _ h => h))
          have zb : b < wr.heap.size := by have := HB.out.size; omega
          have q0 : (0 : Int) ≤ (j : Int) := by omega
          have q1 : (j : Int) < (v.kids.length : Int) := by omega
          clear hkr hkc hk
          go_wp2_with fail
          have hkn := v.kids_nodes j hjl
          have hSw : ∀ k, S k → k < wr.heap.size := fun k hk => by have := HS.out k hk; have := HB.out.size; omega
          have hblk : ∀ k, (Value.slice Aq j cq).ownBlock = some k → w.heap.size + 4 ≤ k ∧ k < wr.heap.size := HO.out.block
          have hih := fun (o : Obj) => Lib.hid (IH.out v.kids[j] x (v.more a) (v.more bd) bx [.int .i64 v.kids[j].tm.lab.kind, .string v.kids[j].tm.lab.nm, .int .i64 v.kids[j].tm.lab.ix, .string s1, .slice A1 n1 c1, .slice B1 m1 d1] [.int .i64 x.tm.lab.kind, .string x.tm.lab.nm, .int .i64 x.tm.lab.ix, .string sX, .slice AX nX cX, .slice BX mX dX] (wr.alloc o).drew S (by have := HN.out; omega) (v.ok_kids bd j HOK.out hjl) HOKX.out (by omega) (by omega) (tmRep.keep HX.out (fun k hk => heap_old (hSw k hk) rfl) (fun _ h => h)) (tmRep.keep HXR.out (fun k hk => (heap_old (hSw k hk) rfl).trans (HB.out.block k (HS.out k hk))) (fun _ h => h)) (fun k hk => by have := hSw k hk; simp; omega))
          simp only [HLWI.out] at hih
          have HBLK := Lib.hid hblk
          have HIH := Lib.hid hih
          have HSW := Lib.hid hSw
          clear hblk hih hSw
          have hxc : w.heap.size + 1 + 1 + 1 < wr.heap.size := by omega
          go_region_law (first
              | (refine step_call (by rfl) 62 _ (by go_simp) (HIH.out _).out ?_; rintro e w2 ⟨ds, rfl, hu, hw2⟩; refine ⟨_, rfl, ?_⟩; obtain ⟨s2, A2, n2, c2, B2, m2, d2, rfl, _, _⟩ := Tm.shape hu; have hy := (hw2.block (w.heap.size + 1 + 1 + 1) (by simp; omega)).trans (heap_old (by omega) HC.out); have hz := (hw2.block (w.heap.size + 1 + 1) (by simp; omega)).trans (heap_old (by omega) HR.out); have hy_5 := cv5 hy; have hy_f := free_heap hy 5; have z2 : wr.heap.size + 1 ≤ w2.heap.size := (by have := hw2.size; simpa using this); have d3 : w.heap.size + 1 + 1 + 1 < w2.heap.size := (by omega); have hw2k : ∀ k, k < wr.heap.size → w2.heap[k]? = wr.heap[k]? := (fun k hk => (hw2.block k (by simp; omega)).trans (heap_old hk rfl)); obtain ⟨xs, hown, hall⟩ := HO.out.growEx (w' := w2) (fun k hk => hw2k k (HSW.out k hk)) (fun k _ hk => hw2k k hk) (by omega); rw [HLEN.out] at hown; have HOWN := Lib.hid hown; have HALL := Lib.hid hall; have HU := Lib.hid hu; have HW2 := Lib.hid hw2; have HW2K := Lib.hid hw2k; have HY := Lib.hid hy; have HZ := Lib.hid hz; clear hu hw2 hown hall hy hz hw2k; have hkx2 := (HW2.out.block (w.heap.size + 1) (by simp; omega)).trans (heap_old (by omega) HKX.out); have HKX2 := Lib.hid hkx2; clear hkx2)
              | (refine step_append_lies _ (by rfl) (.tmp 44) (.tmp 49) _ (by rfl) (w.heap.size + 4) 27 i0 _ 6 96 Tryd.underlying25 hi0 hz0 hz1 hz2 rfl (by omega) (.slice Aq j cq) j xs (by rfl) (HOWN.out.alloc _) ⟨w2.heap.size, 0, none⟩ 1 1 [.int .i64 (v.kids[j].put x (v.more a)).tm.lab.kind, .string (v.kids[j].put x (v.more a)).tm.lab.nm, .int .i64 (v.kids[j].put x (v.more a)).tm.lab.ix, .string s2, .slice A2 n2 c2, .slice B2 m2 d2] (by rfl) (by rfl) (World.news_of_block (cs := #[.int .i64 (v.kids[j].put x (v.more a)).tm.lab.kind, .string (v.kids[j].put x (v.more a)).tm.lab.nm, .int .i64 (v.kids[j].put x (v.more a)).tm.lab.ix, .string s2, .slice A2 n2 c2, .slice B2 m2 d2]) (t := 27) (fr := (0, 0)) (heap_alloc_new w2 _)) (by simp [Value.oneCell']) (by omega) (by unfold maxLen; omega) (by omega) (by simp; omega) (w2.heap.size + 1) (by simp) ?_; intro gg cap w3 hown3 hgrow hat hlt; have h3 := (hgrow.block (w.heap.size + 1 + 1 + 1) (by simp; omega) (by intro e; have := HBLK.out _ e.symm; omega)).trans (heap_old d3 HY.out); have h4 := (hgrow.block (w.heap.size + 1 + 1) (by simp; omega) (by intro e; have := HBLK.out _ e.symm; omega)).trans (heap_old (by omega) HZ.out); have h3_5 := cv5 h3; have h3_f := free_heap h3 5; have H3 := Lib.hid h3; have H4 := Lib.hid h4; clear h3 h4; have z3 : w2.heap.size + 1 ≤ w3.heap.size := (by have := hgrow.size; simpa using this); have HOWN3 := Lib.hid hown3; have HGROW := Lib.hid hgrow; have HAT := Lib.hid hat; have hkx3 := (hgrow.block (w.heap.size + 1) (by simp; omega) (by intro e; have := HBLK.out _ e.symm; omega)).trans (heap_old (by omega) HKX2.out); have HKX3 := Lib.hid hkx3; clear hkx3; clear hown3 hgrow hat))
          all_goals
            go_wp2_with fail
            go_roundg (v.kids.length - (j + 1))
            case measure => omega
            case rel =>
              have hb3 : Below w.heap.size w w3 := ((((HB.out.alloc (by omega) _).drew).trans (HW2.out.mono (by simp; omega))).alloc (by omega) _).grown HGROW.out (by simp; omega) (fun k hk => by have := HBLK.out k hk; omega)
              have hown := Rep.stepEx (S := S) (l := (v.kids.take j).map fun x_ => (x_.put x (v.more a)).tm) (a := (v.kids[j].put x (v.more a)).tm) HLEN.out (fun k hk => by have := HS.out k hk; omega) (by omega) HALL.out HU.out (fun b hb => ⟨by rcases hb with hb | hb; exact Or.inl hb; have := hb.1; simp at this; exact Or.inr ⟨by omega, hb.2⟩, fun e => by have := HBLK.out _ e; rcases hb with hb | hb; have := HS.out _ hb; omega; have := hb.1; simp at this; omega⟩) HOWN3.out HGROW.out HAT.out
              refine ⟨j + 1, .slice (some ⟨gg, 0, none⟩) (j + 1) cap, by omega, by go_num, by simpa using heap_set H3.out 5 _, heap_far _ (by omega) H4.out, ?_, hb3.setCell (by simp <;> omega) _, by rw [size_set]; omega, heap_far _ (by omega) HKX3.out⟩
              rw [List.take_succ_eq_append_getElem hjl, List.map_append]
              exact hown.growEx (fun k hk => heap_far _ (by have := HS.out k hk; omega) rfl) (fun k hk _ => heap_far _ (by omega) rfl) (by rw [size_set]; omega)
        · go_wp2_with fail
          have hjk : j = v.kids.length := by omega
          refine bodyPost_ret (v := .agg #[.int .i64 kd, .string nm, .int .i64 ix, .string sa, .slice Aa na ca, .slice Aq j cq]) (by simp [results, Tryd.results62, go_sem, hr_0, hr_1, hr_2, hr_3, hr_4, hr_5, hr_l]) rfl ?_
          have hown := HO.out
          rw [hjk, List.take_length] at hown
          rw [hjk]
          refine ⟨_, rfl, Tm.shut (l := v.kids.map fun x_ => (x_.put x (v.more a)).tm) (a := ⟨kd, nm, ix, ty⟩) HNM.out ?_ ?_, (((((HB.out.setCell (by simp <;> omega) _).setCell (by simp <;> omega) _).setCell (by simp <;> omega) _).setCell (by simp <;> omega) _).setCell (by simp <;> omega) _).setCell (by simp <;> omega) _⟩
          · exact (HTY.out.keep (fun b hb => have h' := HS.out b hb; heap_far _ (by omega) (heap_far _ (by omega) (heap_far _ (by omega) (heap_far _ (by omega) (heap_far _ (by omega) (heap_far _ (by omega) (HB.out.block b h')))))))).mono (fun b hb => Or.inl hb)
          · exact ((Rep.Own.sl (S' := New S (w.heap.size + 4) wr) hown (by simp [maxLen]; omega) (fun b hb => hb) (fun b h1 h2 => Or.inr ⟨h1, h2⟩)).keep (fun b hb => have h' : b < w.heap.size ∨ w.heap.size + 4 ≤ b := hb.imp (HS.out b) (fun h => h.1); heap_far _ (by omega) (heap_far _ (by omega) (heap_far _ (by omega) (heap_far _ (by omega) (heap_far _ (by omega) (heap_far _ (by omega) rfl)))))) (fun b hb => hb.imp_right (fun h => ⟨by omega, by simp only [size_set]; exact h.2⟩)))


end Go.Proofs.YthflahcnkhmpaabDoor
