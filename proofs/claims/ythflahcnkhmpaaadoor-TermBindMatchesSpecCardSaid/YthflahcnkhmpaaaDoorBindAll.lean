/-
  The reference's bindAll (the variable in the constants' place; their types are collected through a pointer): the walk.
-/
import Derived.Test.YthflahcnkhmpaaaDoorProg
import Derived.Test.YthflahcnkhmpaaaDoorLook
import Derived.Test.YthflahcnkhmpaaaDoorBind
import Derived.Test.YthflahcnkhmpaaaDoorRefText
import Derived.Test.YthflahcnkhmpaaaDoorRefSize
namespace Go.Proofs.YthflahcnkhmpaaaDoor
open Go Go.RowKit
set_option linter.unusedSimpArgs false
set_option linter.unusedVariables false

theorem Rep.Own.neT {α : Type} {ρ : Rep α} {E E' : TypeId} {base k : Nat} {w : World} {S : Nat → Prop} {v : Value} {l : List α} {c : Array Value} {fz : Nat × Nat} (h : ρ.Own E base w S v l) (hk : w.heap[k]? = some (.cells c E' fz)) (hE : E ≠ E') : v.ownBlock ≠ some k := by
  intro e
  obtain ⟨_, _, c', fz', h'⟩ := h.ownT k e
  rw [hk] at h'
  simp only [Option.some.injEq, Obj.cells.injEq] at h'
  exact hE h'.2.1.symm

/-- What bindAll leaves. -/
def BindAllAt (v : Tv) (nm : ByteArray) (d bt base : Nat) (q : Value) (l : List Sy) (w : World) (S : Nat → Prop) (e : Ending) (w' : World) : Prop :=
  ∃ (q' : Value) (es : List Value), e = .returned (.agg es.toArray) ∧ w'.heap[bt]? = some (.cells #[q'] 22 (0, 0)) ∧ tyRep.Own 24 base w' S q' ((l ++ v.named nm).map Sy.ty) ∧
    tmRep.R w' (KT 49 S w.heap.size w') (v.bind nm d).tm es ∧ Coll w w' bt q q'

set_option maxRecDepth 100000 in
set_option maxHeartbeats 4000000 in
theorem bindAll_any : ∀ (N : Nat) (v : Tv) (d : Nat) (cs : List Value) (w : World) (S : Nat → Prop) (nm : ByteArray) (bt base : Nat) (q : Value) (l : List Sy), v.nodes ≤ N → d + v.nodes ≤ 1000000000000 → tmRep.R w S v.tm cs → (∀ b, S b → b < bt) → bt < base → base ≤ w.heap.size → nm.size ≤ maxLen →
    w.heap[bt]? = some (.cells #[q] 22 (0, 0)) → tyRep.Own 24 base w S q (l.map Sy.ty) → l.length + v.nodes ≤ 100000 →
    Calls Tryd.prog 65 #[.agg cs.toArray, .string nm, .int .i64 d, .pointer (some ⟨bt, 0, none⟩)] w (BindAllAt v nm d bt base q l w S) := by
  intro N
  induction N with
  | zero => intro v; have := v.nodes_pos; intros; omega
  | succ N ih =>
  intro v d cs w S nm bt base q l hN hd h hS hbt hbw hnms hq hown hlen
  have IH := Lib.hid ih
  clear ih
  have hnp := v.nodes_pos
  have htl := lt_heap hq
  have hql : ∀ k, q.ownBlock = some k → base ≤ k ∧ k < w.heap.size := hown.block
  have hS0 : ∀ b, S b → b < w.heap.size := fun b hb => by have := hS b hb; omega
  have e1 := cv0 hq
  have e1f := free_heap hq 0
  by_cases hv : v.isCon nm
  · obtain ⟨s, rfl, hnd⟩ := Tv.named_con hv
    unfold BindAllAt
    rw [hnd, Tv.bind_con d hv]
    obtain ⟨u0, u1, vs, rfl, hnm, hty, hl⟩ := Tm.open_ (a := ⟨1, nm, 0, s.ty⟩) (l := []) h
    obtain ⟨sa, Aa, na, ca, rfl, rfl⟩ := hty.shape
    obtain ⟨A, m, cp, rfl, hln, hm, _⟩ := hl
    simp only [List.length_nil] at hln
    subst hln
    obtain ⟨Aq, cq, hqe⟩ := hown.len
    rw [List.length_map] at hqe
    subst hqe
    have t1 : (nm.toList == nm.toList) = true := by simp
    obtain ⟨i0, hi0, hz0, hz1, hz2⟩ := info_parts infoSimple
    simp only at hty
    clear h hm hN hnp hv hnm
    have HS := Lib.hid hS
    have HQ := Lib.hid hq
    have HOWN := Lib.hid hown
    have HTY := Lib.hid hty
    have HQL := Lib.hid hql
    have HS0 := Lib.hid hS0
    clear hS hq hown hty hql hS0
    go_enter Tryd.func65, Tryd.ntmps65
    go_upto_region 2 with (fail)
    refine gen_last (fun wb => Below w.heap.size w wb ∧ (wb.heap.size ≤ w.heap.size + 2 ∧ w.heap.size + 2 ≤ wb.heap.size) ∧ wb.heap[w.heap.size]? = some (.cells #[.int .i64 1, .string nm, .int .i64 0, .string sa, .slice Aa na ca, .slice A 0 cp] 49 (0, 0)) ∧
      wb.heap[w.heap.size + 1]? = some (.cells #[.int .i64 0, .string ⟨#[]⟩, .int .i64 0, .string ⟨#[]⟩, .slice none 0 0, .slice none 0 0] 49 (0, 0))) ?_ ?_
    · exact ⟨((Below.refl _ w).alloc (Nat.le_refl _) _).alloc (by simp) _, by simp, heap_old (by simp) (heap_at rfl), heap_at (by simp)⟩
    rintro wb ⟨hbb, zb, pb, pr⟩
    obtain ⟨xs, hrow, hall⟩ := HOWN.out.below hbb HS0.out
    rw [List.length_map] at hrow
    have hqw := (hbb.block bt htl).trans HQ.out
    have htyb := HTY.out.keep (fun b hb => hbb.block b (HS0.out b hb))
    have hqlb : ∀ k, (Value.slice Aq l.length cq).ownBlock = some k → base ≤ k ∧ k < wb.heap.size := fun k hk => by have := HQL.out k hk; omega
    have hnw : (Value.slice Aq l.length cq).ownBlock ≠ some w.heap.size := fun e => by have := (HQL.out _ e).2; omega
    have hnr : (Value.slice Aq l.length cq).ownBlock ≠ some (w.heap.size + 1) := fun e => by have := (HQL.out _ e).2; omega
    have hnb : (Value.slice Aq l.length cq).ownBlock ≠ some bt := fun e => by have := (HQL.out _ e).1; omega
    clear e1 e1f
    have HROW := Lib.hid hrow
    have HALL := Lib.hid hall
    have HTYB := Lib.hid htyb
    have HQLB := Lib.hid hqlb
    have HBB := Lib.hid hbb
    have HNW := Lib.hid hnw
    have HNB := Lib.hid hnb
    have HNR := Lib.hid hnr
    have PR := Lib.hid pr
    clear hrow hall htyb hqlb hbb hnw hnb hnr pr
    have pb_0 := cv0 pb
    have pb_1 := cv1 pb
    have pb_2 := cv2 pb
    have pb_3 := cv3 pb
    have pb_4 := cv4 pb
    have pb_5 := cv5 pb
    have pb_l := lt_heap pb
    have PB := Lib.hid pb
    clear pb
    have hqw_0 := cv0 hqw
    have hqw_f0 := free_heap hqw 0
    have hqw_l := lt_heap hqw
    have HQW := Lib.hid hqw
    clear hqw
    have hsz1 : bt < wb.heap.size + 1 := by omega
    have hsz2 : w.heap.size < wb.heap.size + 1 := by omega
    have q5 : (0 : Int) ≤ (l.length : Int) := by omega
    have q6 : (l.length : Int) < (l.length : Int) + 1 := by omega
    go_cut [] (fun wx => ∃ q', AppTy 24 22 base bt S wb wx (.slice Aq l.length cq) q' (l.map Sy.ty ++ [s.ty]) ∧ wx.heap[w.heap.size + 1]? = some (.cells #[.int .i64 0, .string ⟨#[]⟩, .int .i64 0, .string ⟨#[]⟩, .slice none 0 0, .slice none 0 0] 49 (0, 0)))
    case first =>
      go_region_law ((refine step_append_lies _ (by rfl) (.tmp 22) (.tmp 26) _ (by rfl) base 24 i0 _ 2 40 Tryd.underlying22 hi0 hz0 hz1 hz2 rfl (by omega) (.slice Aq l.length cq) l.length xs (by rfl) (HROW.out.alloc _).drew ⟨wb.heap.size, 0, none⟩ 1 1 [.string ⟨#[]⟩, .slice none 0 0] (by rfl) (by rfl) (World.news_of_block (cs := #[.string ⟨#[]⟩, .slice none 0 0]) (t := 24) (fr := (0, 0)) (heap_alloc_new wb _)) (by simp [Value.oneCell']) (by omega) (by unfold maxLen; omega) (by omega) (by simp; omega) (wb.heap.size + 1) (by simp) ?_; intro gg cap w3 hown3 hgrow hat hlt; have kk : ∀ b, b < wb.heap.size → (Value.slice Aq l.length cq).ownBlock ≠ some b → w3.heap[b]? = wb.heap[b]? := (fun b hb hne => (hgrow.block b (by simp; omega) (fun e => hne e.symm)).trans (heap_old hb rfl)); have r1 := (kk bt hqw_l HNB.out).trans HQW.out; have r2 := (kk w.heap.size pb_l HNW.out).trans PB.out; have r4 := (kk (w.heap.size + 1) (by omega) HNR.out).trans PR.out; have r1_0 := cv0 r1; have r1_f := free_heap r1 0; have r2_3 := cv3 r2; have r2_4 := cv4 r2; have r1_l := lt_heap r1; have r2_l := lt_heap r2; have m0 := (hown3.cellAt (l.length * 2) (by omega)).trans (snocT0 HROW.out.1); have m1 := (hown3.cellAt (l.length * 2 + 1) (by omega)).trans (snocT1 HROW.out.1); have m2 := hown3.frozenAt (l.length * 2); have m3 := hown3.frozenAt (l.length * 2 + 1); have ne1 : bt ≠ gg := (by rintro rfl; rcases hat with h | h; exact HNB.out h; omega); have ne2 : w.heap.size ≠ gg := (by rintro rfl; rcases hat with h | h; exact HNW.out h; omega); have ne3 : w.heap.size + 1 ≠ gg := (by rintro rfl; rcases hat with h | h; exact HNR.out h; omega); have HOWN3 := Lib.hid hown3; have HGROW := Lib.hid hgrow; have HAT := Lib.hid hat; have R1 := Lib.hid r1; have R4 := Lib.hid r4; clear hown3 hgrow hat r1 r2 r4 kk))
      all_goals
        go_wp2_with fail
        go_meet
        have hh := app_ty (T := 22) (l := l.map Sy.ty) (by simp) rfl HQW.out HALL.out HQLB.out HS.out hbt (by omega) HOWN3.out HGROW.out HAT.out HTYB.out
        first
        | exact ⟨_, hh.1, heap_far _ (by omega) (farq (fun e => ne3 e) R4.out)⟩
        | exact ⟨_, hh.2, farq (fun e => ne3 e) (heap_far _ (by omega) R4.out)⟩
    case rest =>
      obtain ⟨q', ⟨h1, h2, h3⟩, pr⟩ := hcut
      rename World => wx
      clear pb_0 pb_1 pb_2 pb_3 pb_4 pb_5 hqw_0 hqw_f0
      have hfin : Coll w wx bt (.slice Aq l.length cq) q' := (Coll.below HBB.out).trans h3
      have hnx : q'.ownBlock ≠ some (w.heap.size + 1) := h3.ne (by omega) HNR.out
      have hzx := h3.size
      have H1 := Lib.hid h1
      have H2 := Lib.hid h2
      have H3 := Lib.hid h3
      have HFIN := Lib.hid hfin
      have HNX := Lib.hid hnx
      clear h1 h2 h3 hfin hnx
      have pr_0 := cv0 pr
      have pr_1 := cv1 pr
      have pr_2 := cv2 pr
      have pr_3 := cv3 pr
      have pr_4 := cv4 pr
      have pr_5 := cv5 pr
      have pr_f0 := free_heap pr 0
      have pr_f1 := free_heap pr 1
      have pr_f2 := free_heap pr 2
      have pr_f3 := free_heap pr 3
      have pr_f4 := free_heap pr 4
      have pr_f5 := free_heap pr 5
      have pr_l := lt_heap pr
      have PR := Lib.hid pr
      clear pr
      go_wp2_with fail
      refine bodyPost_ret (v := .agg #[.int .i64 2, .string ⟨#[]⟩, .int .i64 d, .string ⟨#[]⟩, .slice none 0 0, .slice none 0 0]) (by simp [results, Tryd.results65, go_sem, pr_0, pr_1, pr_2, pr_3, pr_4, pr_5, pr_l]) rfl ?_
      refine ⟨q', [.int .i64 2, .string ⟨#[]⟩, .int .i64 d, .string ⟨#[]⟩, .slice none 0 0, .slice none 0 0], rfl, far6 (by omega) H1.out, ?_, Tm.shut (a := ⟨2, bNil, (d : Int), noTy⟩) (l := []) (by show bNil.size ≤ maxLen; decide +kernel) noTy_in Rep.Sl.nil, (((((HFIN.out.setCell (by simp) _).setCell (by simp) _).setCell (by simp) _).setCell (by simp) _).setCell (by simp) _).setCell (by simp) _⟩
      rw [List.map_append]
      exact H2.out.keepG (fun g e => far6 (by rintro rfl; exact HNX.out e) rfl) (fun b hb => far6 (by have := HS0.out b hb; omega) rfl)
  · unfold BindAllAt
    rw [Tv.named_kids hv, Tv.bind_eq d hv]
    have hkc := Tv.notCon_kind hv
    have hkl := fun j h => Tv.named_kids_len (nm := nm) v j h
    have hkn := v.kids_nodes
    have hka := v.kind_abs d
    have hml := v.more_le d
    rw [Tv.tm_eq] at h
    obtain ⟨u0, u1, vs, rfl, hnm, hty, hl⟩ := Tm.open_ h
    obtain ⟨sa, Aa, na, ca, rfl, rfl⟩ := hty.shape
    have HL := Lib.hid hl
    have hkl2 := v.kids_len
    obtain ⟨A, n, c, rfl, hln, hm, _⟩ := hl
    rw [List.length_map] at hln
    subst hln
    have HNM := Lib.hid hnm
    generalize v.lab = lab at *
    obtain ⟨kd, nx, ix, ty⟩ := lab
    simp only at hkc hka hty
    clear h hnm hm hv
    obtain ⟨i0, hi0, hz0, hz1, hz2⟩ := info_parts infoTerm
    have HS := Lib.hid hS
    have HN := Lib.hid hN
    have HQ := Lib.hid hq
    have HOWN := Lib.hid hown
    have HQL := Lib.hid hql
    have HS0 := Lib.hid hS0
    have HKL := Lib.hid hkl
    have HKN := Lib.hid hkn
    have HTY := Lib.hid hty
    clear hS hN hq hown hql hS0 hkl hkn hty
    go_enter Tryd.func65, Tryd.ntmps65
    go_upto_region 1 with (fail)
    go_cut [19] (fun s19 wx => s19 = .bool false ∧ wx = (w.alloc (.cells #[.int .i64 kd, .string nx, .int .i64 ix, .string sa, .slice Aa na ca, .slice A v.kids.length c] 49)).alloc (.cells #[.int .i64 0, .string ⟨#[]⟩, .int .i64 0, .string ⟨#[]⟩, .slice none 0 0, .slice none 0 0] 49))
    case first =>
      rcases hkc with t1 | ⟨t1, t2⟩
      · go_wp2_with fail
        go_meet
        exact ⟨rfl, rfl⟩
      · go_wp2_with fail
        go_meet
        exact ⟨rfl, rfl⟩
    case rest =>
    obtain ⟨rfl, rfl⟩ := hcut
    clear hkc e1 e1f
    go_upto_if 43 with (fail)
    go_cut [2] (fun s2 wx => s2 = .int .i64 (v.more d : Nat) ∧ Below w.heap.size w wx ∧ (wx.heap.size ≤ w.heap.size + 3 ∧ w.heap.size + 3 ≤ wx.heap.size) ∧ wx.heap[w.heap.size]? = some (.cells #[.int .i64 kd, .string nx, .int .i64 ix, .string sa, .slice Aa na ca, .slice A v.kids.length c] 49 (0, 0)) ∧
      wx.heap[w.heap.size + 1]? = some (.cells #[.int .i64 0, .string ⟨#[]⟩, .int .i64 0, .string ⟨#[]⟩, .slice none 0 0, .slice none 0 0] 49 (0, 0)) ∧
      wx.heap[w.heap.size + 1 + 1]? = some (.cells #[.int .i64 kd, .string nx, .int .i64 ix, .string sa, .slice Aa na ca, .slice none 0 0] 49 (0, 0)))
    case first =>
      rcases hka with ⟨t3, hlw⟩ | ⟨t3, hlw⟩
      all_goals
        go_wp2_with fail
        go_meet
        exact ⟨by first | (rw [hlw]; done) | (rw [hlw]; go_num), (((Below.refl _ w).alloc (Nat.le_refl _) _).alloc (by simp) _).alloc (by simp <;> omega) _, by simp, heap_old (by simp <;> omega) (heap_old (by simp) (heap_at rfl)), heap_old (by simp) (heap_at (by simp)), heap_at (by simp)⟩
    case rest =>
    obtain ⟨rfl, hbx, hzx, hx0, hx1, hx2⟩ := hcut
    rename World => wx
    clear hka
    have HBX := Lib.hid hbx
    clear hbx
    have hx0_0 := cv0 hx0
    have hx0_1 := cv1 hx0
    have hx0_2 := cv2 hx0
    have hx0_3 := cv3 hx0
    have hx0_4 := cv4 hx0
    have hx0_5 := cv5 hx0
    have hx0_l := lt_heap hx0
    have HX0 := Lib.hid hx0
    clear hx0
    have HX1 := Lib.hid hx1
    have HX2 := Lib.hid hx2
    clear hx1 hx2
    go_wp2_with fail
    go_loopg [49] v.kids.length (fun k vi wr => ∃ (j : Nat) (q5 q' : Value), j + k = v.kids.length ∧ vi = .int .i64 j ∧
      (wr.heap[w.heap.size]? = some (.cells #[.int .i64 kd, .string nx, .int .i64 ix, .string sa, .slice Aa na ca, .slice A v.kids.length c] 49 (0, 0)) ∧
      wr.heap[w.heap.size + 1]? = some (.cells #[.int .i64 0, .string ⟨#[]⟩, .int .i64 0, .string ⟨#[]⟩, .slice none 0 0, .slice none 0 0] 49 (0, 0)) ∧
      wr.heap[w.heap.size + 1 + 1]? = some (.cells #[.int .i64 kd, .string nx, .int .i64 ix, .string sa, .slice Aa na ca, q5] 49 (0, 0))) ∧
      tmRep.Own 49 (w.heap.size + 3) wr (KT 49 S (w.heap.size + 3) wr) q5 ((v.kids.take j).map fun x => (x.bind nm (v.more d)).tm) ∧
      wr.heap[bt]? = some (.cells #[q'] 22 (0, 0)) ∧ tyRep.Own 24 base wr S q' ((l ++ ((v.kids.take j).map (Tv.named nm)).flatten).map Sy.ty) ∧ Coll w wr bt q q' ∧ w.heap.size + 3 ≤ wr.heap.size)
    case atStart =>
      exact ⟨0, .slice none 0 0, q, by omega, rfl, ⟨HX0.out, HX1.out, HX2.out⟩, by simpa using Rep.Own.nil, (HBX.out.block _ htl).trans HQ.out, by simpa using HOWN.out.below HBX.out HS0.out, Coll.below HBX.out, hzx.2⟩
    case round =>
      obtain ⟨j, q5, q', hj, rfl, ⟨hx0, hx1, hx2⟩, hown5, hq', hown', hcol, zr⟩ := hrel
      obtain ⟨Aq, cq, hqe⟩ := hown5.len
      have hlen5 : ((v.kids.take j).map fun x => (x.bind nm (v.more d)).tm).length = j := by simp; omega
      rw [hlen5] at hqe
      subst hqe
      have hkS := hcol.keepS HS.out hbt hbw HQL.out
      have hSr : ∀ k, S k → k < wr.heap.size := fun k hk => by have := HS0.out k hk; omega
      have hET : 24 ≠ 49 := by decide
      have hn0 := hown'.neT hx0 hET
      have hn1 := hown'.neT hx1 hET
      have hn2 := hown'.neT hx2 hET
      have hblk5 : ∀ k, (Value.slice Aq j cq).ownBlock = some k → w.heap.size + 3 ≤ k ∧ k < wr.heap.size := hown5.block
      have hapart := hown'.apart hown5 hET
      clear hx0_0 hx0_1 hx0_2 hx0_3 hx0_4 hx0_5 hx0_l
      have HKS := Lib.hid hkS
      have HOWNP := Lib.hid hown'
      have HCOL := Lib.hid hcol
      have HSR := Lib.hid hSr
      have HOWN5 := Lib.hid hown5
      have HBLK5 := Lib.hid hblk5
      have HAPART := Lib.hid hapart
      have HLEN5 := Lib.hid hlen5
      have HN0 := Lib.hid hn0
      have HN1 := Lib.hid hn1
      have HN2 := Lib.hid hn2
      clear hkS hown' hcol hSr hown5 hblk5 hapart hlen5 hn0 hn1 hn2
      have hx0_0 := cv0 hx0
      have hx0_1 := cv1 hx0
      have hx0_2 := cv2 hx0
      have hx0_3 := cv3 hx0
      have hx0_4 := cv4 hx0
      have hx0_5 := cv5 hx0
      have hx0_l := lt_heap hx0
      have HX0 := Lib.hid hx0
      clear hx0
      have hx1_0 := cv0 hx1
      have hx1_1 := cv1 hx1
      have hx1_2 := cv2 hx1
      have hx1_3 := cv3 hx1
      have hx1_4 := cv4 hx1
      have hx1_5 := cv5 hx1
      have hx1_f0 := free_heap hx1 0
      have hx1_f1 := free_heap hx1 1
      have hx1_f2 := free_heap hx1 2
      have hx1_f3 := free_heap hx1 3
      have hx1_f4 := free_heap hx1 4
      have hx1_f5 := free_heap hx1 5
      have hx1_l := lt_heap hx1
      have HX1 := Lib.hid hx1
      clear hx1
      have hx2_0 := cv0 hx2
      have hx2_1 := cv1 hx2
      have hx2_2 := cv2 hx2
      have hx2_3 := cv3 hx2
      have hx2_4 := cv4 hx2
      have hx2_5 := cv5 hx2
      have hx2_f0 := free_heap hx2 0
      have hx2_f1 := free_heap hx2 1
      have hx2_f2 := free_heap hx2 2
      have hx2_f3 := free_heap hx2 3
      have hx2_f4 := free_heap hx2 4
      have hx2_f5 := free_heap hx2 5
      have hx2_l := lt_heap hx2
      have HX2 := Lib.hid hx2
      clear hx2
      have hq'_0 := cv0 hq'
      have hq'_l := lt_heap hq'
      have HQP := Lib.hid hq'
      clear hq'
      by_cases hjl : j < v.kids.length
      · obtain ⟨b, o, kc, rfl, hSb, hkr, hkc⟩ := Rep.Sl.at_ HL.out (k := j) (a := v.kids[j].tm) (by simp [hjl])
        obtain ⟨s1, A1, n1, c1, B1, m1, d1, rfl, _, _⟩ := Tm.shape hkr
        have hk := HKS.out b hSb
        have e0 : wr.cell? ⟨b, o + j * 6, none⟩ = _ := (cell_keep hk _).trans (hkc 0 _ rfl)
        have e1 : wr.cell? ⟨b, o + j * 6 + 1, none⟩ = _ := (cell_keep hk _).trans (hkc 1 _ rfl)
        have e2 : wr.cell? ⟨b, o + j * 6 + 2, none⟩ = _ := (cell_keep hk _).trans (hkc 2 _ rfl)
        have e3 : wr.cell? ⟨b, o + j * 6 + 3, none⟩ = _ := (cell_keep hk _).trans (hkc 3 _ rfl)
        have e4 : wr.cell? ⟨b, o + j * 6 + 4, none⟩ = _ := (cell_keep hk _).trans (hkc 4 _ rfl)
        have e5 : wr.cell? ⟨b, o + j * 6 + 5, none⟩ = _ := (cell_keep hk _).trans (hkc 5 _ rfl)
        have zb : b < wr.heap.size := HSR.out b hSb
        have q0 : (0 : Int) ≤ (j : Int) := by omega
        have q1 : (j : Int) < (v.kids.length : Int) := by omega
        have hkj := HKL.out j hjl
        have hnj := HKN.out j hjl
        have hih := Lib.hid (IH.out v.kids[j] (v.more d) [.int .i64 v.kids[j].tm.lab.kind, .string v.kids[j].tm.lab.nm, .int .i64 v.kids[j].tm.lab.ix, .string s1, .slice A1 n1 c1, .slice B1 m1 d1] wr.drew S nm bt base q' (l ++ ((v.kids.take j).map (Tv.named nm)).flatten) (by have := HN.out; omega) (by omega) (tmRep.keep hkr (fun k hk => HKS.out k hk) (fun _ h => h)) HS.out hbt (by show base ≤ wr.heap.size; omega) hnms HQP.out (HOWNP.out.keepG (fun _ _ => rfl) (fun _ _ => rfl)) (by rw [List.length_append]; omega))
        clear hkr hkc hk hkj hnj
        have HIH := Lib.hid hih
        clear hih
        have hxc : w.heap.size + 1 + 1 < wr.heap.size := by omega
        have hb0 : w.heap.size ≠ bt := by omega
        have hb1 : w.heap.size + 1 ≠ bt := by omega
        have hb2 : w.heap.size + 1 + 1 ≠ bt := by omega
        go_wp2_with fail
        go_region_law (first
            | (refine step_call (by rfl) 65 _ (by go_simp) HIH.out.out ?_; rintro e w2 ⟨q2, ds, rfl, hq2, ho2, hu, hc2⟩; refine ⟨_, rfl, ?_⟩; obtain ⟨s2, A2, n2, c2, B2, m2, d2, rfl, _, _⟩ := Tm.shape hu; have z2 : wr.heap.size ≤ w2.heap.size := hc2.size; have k0 := (hc2.block _ hx0_l hb0 HN0.out).trans HX0.out; have k1 := (hc2.block _ hx1_l hb1 HN1.out).trans HX1.out; have k2 := (hc2.block _ hx2_l hb2 HN2.out).trans HX2.out; have k2_5 := cv5 k2; have k2_f := free_heap k2 5; have d3 : w.heap.size + 1 + 1 < w2.heap.size := (by omega); have hkT : ∀ b c fz, w.heap.size + 3 ≤ b → wr.heap[b]? = some (.cells c 49 fz) → w2.heap[b]? = wr.heap[b]? := (fun b c fz hb hc => hc2.block b (lt_heap hc) (by omega) (HOWNP.out.neT hc hET)); have hkS2 : ∀ b, S b → w2.heap[b]? = wr.heap[b]? := (fun b hb => hc2.block b (HSR.out b hb) (by have := HS.out b hb; omega) (fun e => by have := (HOWNP.out.block b e).1; have := HS.out b hb; omega)); have hown5' := HOWN5.out.keepT (w' := w2) hkS2 hkT z2; obtain ⟨xs, hownx, hallx⟩ := id hown5'; rw [HLEN5.out] at hownx; have hap2 := ho2.apart hown5' hET; have HOWNX := Lib.hid hownx; have HALLX := Lib.hid hallx; have HO2 := Lib.hid ho2; have HU := Lib.hid hu; have HC2 := Lib.hid hc2; have HQ2 := Lib.hid hq2; have K0 := Lib.hid k0; have K1 := Lib.hid k1; have K2 := Lib.hid k2; have HAP2 := Lib.hid hap2; have HKS2 := Lib.hid hkS2; clear hu hc2 hq2 ho2 k0 k1 k2 hkT hkS2 hown5' hownx hallx hap2)
            | (refine step_append_lies _ (by rfl) (.tmp 53) (.tmp 63) _ (by rfl) (w.heap.size + 3) 49 i0 _ 6 96 Tryd.underlying47 hi0 hz0 hz1 hz2 rfl (by omega) (.slice Aq j cq) j xs (by rfl) (HOWNX.out.alloc _) ⟨w2.heap.size, 0, none⟩ 1 1 [.int .i64 (v.kids[j].bind nm (v.more d)).tm.lab.kind, .string (v.kids[j].bind nm (v.more d)).tm.lab.nm, .int .i64 (v.kids[j].bind nm (v.more d)).tm.lab.ix, .string s2, .slice A2 n2 c2, .slice B2 m2 d2] (by rfl) (by rfl) (World.news_of_block (cs := #[.int .i64 (v.kids[j].bind nm (v.more d)).tm.lab.kind, .string (v.kids[j].bind nm (v.more d)).tm.lab.nm, .int .i64 (v.kids[j].bind nm (v.more d)).tm.lab.ix, .string s2, .slice A2 n2 c2, .slice B2 m2 d2]) (t := 49) (fr := (0, 0)) (heap_alloc_new w2 _)) (by simp [Value.oneCell']) (by omega) (by unfold maxLen; omega) (by omega) (by simp; omega) (w2.heap.size + 1) (by simp) ?_; intro gg cap w3 hown3 hgrow hat hlt; have kk : ∀ b, b < w2.heap.size → (Value.slice Aq j cq).ownBlock ≠ some b → w3.heap[b]? = w2.heap[b]? := (fun b hb hne => (hgrow.block b (by simp; omega) (fun e => hne e.symm)).trans (heap_old hb rfl)); have h3 := (kk (w.heap.size + 1 + 1) d3 (fun e => by have := (HBLK5.out _ e).1; omega)).trans K2.out; have h4 := (kk (w.heap.size + 1) (by omega) (fun e => by have := (HBLK5.out _ e).1; omega)).trans K1.out; have h5 := (kk w.heap.size (by omega) (fun e => by have := (HBLK5.out _ e).1; omega)).trans K0.out; have h3_5 := cv5 h3; have h3_f := free_heap h3 5; have H3 := Lib.hid h3; have H4 := Lib.hid h4; have H5 := Lib.hid h5; clear h3 h4 h5; have z3 : w2.heap.size + 1 ≤ w3.heap.size := (by have := hgrow.size; simpa using this); have HOWN3 := Lib.hid hown3; have HGROW := Lib.hid hgrow; have HAT := Lib.hid hat; have HKK := Lib.hid kk; clear hown3 hgrow hat kk))
        all_goals
          go_wp2_with fail
          go_roundg (v.kids.length - (j + 1))
          case measure => omega
          case rel =>
            have hstep := Rep.stepT (E := 49) (S := S) (base := w.heap.size + 3) (l := (v.kids.take j).map fun x => (x.bind nm (v.more d)).tm) (a := (v.kids[j].bind nm (v.more d)).tm) HLEN5.out (fun b hb => by have := HS0.out b hb; omega) (by omega) HALLX.out HU.out (fun b hb => ⟨hb.imp_right (fun h => ⟨by have h' : wr.heap.size ≤ b := h.1; omega, h.2⟩), fun e => by
              have h5 := HBLK5.out b e
              rcases hb with hb | hb
              · have := HS0.out b hb; omega
              · have h' : wr.heap.size ≤ b := hb.1; omega⟩) HOWN3.out HGROW.out HAT.out
            have hcoll3 : Coll w w3 bt q q2 := ((HCOL.out.drew.trans HC2.out).alloc _).grownBy HGROW.out (fun k hk => by have := (HBLK5.out k hk).1; omega)
            have hq3 := (HKK.out bt (lt_heap HQ2.out) (fun e => by have := (HBLK5.out _ e).1; omega)).trans HQ2.out
            have ho3 := HO2.out.keepG (w' := w3) (fun g e => HKK.out g (HO2.out.block g e).2 (HAP2.out g e)) (fun b hb => HKK.out b (by have := HSR.out b hb; omega) (fun e => by have := (HBLK5.out _ e).1; have := HS0.out b hb; omega))
            have hkg : ∀ k, k ≠ w.heap.size + 1 + 1 → (w3.setCell ⟨w.heap.size + 1 + 1, 5, none⟩ (.slice (some ⟨gg, 0, none⟩) (j + 1) cap)).heap[k]? = w3.heap[k]? := fun k hk => heap_far _ hk rfl
            refine ⟨j + 1, .slice (some ⟨gg, 0, none⟩) (j + 1) cap, q2, by omega, by go_num, ⟨(hkg _ (by omega)).trans H5.out, (hkg _ (by omega)).trans H4.out, heap_set H3.out 5 _⟩, ?_, (hkg _ (by omega)).trans hq3, ?_, hcoll3.setCell (by simp <;> omega) _, by rw [size_set]; omega⟩
            · rw [List.take_succ_eq_append_getElem hjl, List.map_append]
              exact hstep.keepT (fun b hb => hkg b (by have := HS0.out b hb; omega)) (fun b c fz hb _ => hkg b (by omega)) (by rw [size_set]; omega)
            · rw [Tv.named_take hjl, ← List.append_assoc]
              exact ho3.keepG (fun g e => hkg g (fun h => by
                subst h
                exact (ho3.neT H3.out hET) e)) (fun b hb => hkg b (by have := HS0.out b hb; omega))
      · go_wp2_with fail
        have hjk : j = v.kids.length := by omega
        refine bodyPost_ret (v := .agg #[.int .i64 kd, .string nx, .int .i64 ix, .string sa, .slice Aa na ca, .slice Aq j cq]) (by simp [results, Tryd.results65, go_sem, hx1_0, hx1_1, hx1_2, hx1_3, hx1_4, hx1_5, hx1_l]) rfl ?_
        have hown5 := HOWN5.out
        have hown' := HOWNP.out
        rw [hjk, List.take_length] at hown5 hown'
        rw [hjk]
        refine ⟨q', [.int .i64 kd, .string nx, .int .i64 ix, .string sa, .slice Aa na ca, .slice Aq v.kids.length cq], rfl, far6 (by omega) HQP.out, hown'.keepG (fun g e => far6 (by rintro rfl; exact HN1.out e) rfl) (fun b hb => far6 (by have := HS0.out b hb; omega) rfl), Tm.shut (l := v.kids.map fun x => (x.bind nm (v.more d)).tm) (a := ⟨kd, nx, ix, ty⟩) HNM.out ?_ ?_, (((((HCOL.out.setCell (by simp) _).setCell (by simp) _).setCell (by simp) _).setCell (by simp) _).setCell (by simp) _).setCell (by simp) _⟩
        · exact Ty.In_keep (fun b hb => far6 (by have := HS0.out b hb; omega) (HKS.out b hb)) (fun b hb => Or.inl hb) _ _ _ HTY.out
        · exact (Rep.Own.slT hown5 (by simp [maxLen]; omega) (fun b hb => hb)).keep (fun b hb => far6 (by
            rcases hb with hb | hb
            · have := HS0.out b hb; omega
            · omega) rfl) (fun b hb => hb.imp_right (fun h => ⟨by omega, lt6 h.2.1, by
            obtain ⟨c, fz, h3⟩ := h.2.2
            exact ⟨c, fz, far6 (by omega) h3⟩⟩))


/-- What BindOf returns for a valid term. -/
def BindOfAt (v : Tv) (nm : ByteArray) (w : World) (S : Nat → Prop) (e : Ending) (w' : World) : Prop :=
  (bindCode nm v ≠ 0 → e = .returned (.tuple #[.agg zTm, .agg #[.int .i64 (bindCode nm v : Nat), .int .i64 (-2)]])) ∧
  (bindCode nm v = 0 → ∃ ds : List Value, e = .returned (.tuple #[.agg ds.toArray, .agg #[.int .i64 0, .int .i64 0]]) ∧ tmRep.R w' (Ex S w w') (bindTerm nm v).tm ds) ∧ Below w.heap.size w w'
theorem Sy.nodes_le {s : Sy} (h : s.ty.fault = 0) : s.nodes ≤ 200 := by
  obtain ⟨s', h1, _, h3, _⟩ := Ty.val_zero s.ty 1 0 h
  rw [Sy.ty_inj _ _ h1]; omega

set_option maxRecDepth 100000 in
set_option maxHeartbeats 4000000 in
theorem bindOf_any (v : Tv) (nm : ByteArray) (cs : List Value) (w : World) (S : Nat → Prop) (ht : tmRep.R w S v.tm cs) (ov : v.ok 0) (nv : v.nodes ≤ 200) (hnms : nm.size ≤ maxLen) (hS : ∀ b, S b → b < w.heap.size) :
    Calls Tryd.prog 41 #[.agg cs.toArray, .string nm] w (BindOfAt v nm w S) := by
  obtain ⟨s1, A1, n1, c1, B1, m1, d1, rfl, _, _⟩ := Tm.shape ht
  have hsn : ∀ s ∈ v.named nm, s.nodes ≤ 200 := fun s hs => Sy.nodes_le (Tv.named_ok nm v 0 ov s hs).2
  have HT := Lib.hid ht
  have HS := Lib.hid hS
  have HSN := Lib.hid hsn
  clear ht hS hsn
  go_enter Tryd.func41, Tryd.ntmps41
  go_upto_region 2 with (fail)
  refine gen_last (fun w2 => Below w.heap.size w w2 ∧ (w2.heap.size ≤ w.heap.size + 4 ∧ w.heap.size + 4 ≤ w2.heap.size) ∧ w2.heap[w.heap.size]? = some (.cells #[.int .i64 v.tm.lab.kind, .string v.tm.lab.nm, .int .i64 v.tm.lab.ix, .string s1, .slice A1 n1 c1, .slice B1 m1 d1] 49 (0, 0)) ∧ w2.heap[w.heap.size + 1]? = some (.cells zTm 49 (0, 0)) ∧
    w2.heap[w.heap.size + 1 + 1]? = some (.cells #[.int .i64 0, .int .i64 0] 26 (0, 0)) ∧ w2.heap[w.heap.size + 1 + 1 + 1]? = some (.cells #[.slice none 0 0] 22 (0, 0))) ?_ ?_
  · exact ⟨((((Below.refl _ w).alloc (Nat.le_refl _) _).alloc (by simp) _).alloc (by simp; omega) _).alloc (by simp; omega) _, by simp, heap_old (by simp <;> omega) (heap_old (by simp <;> omega) (heap_old (by simp) (heap_at rfl))), heap_old (by simp <;> omega) (heap_old (by simp) (heap_at (by simp))), heap_old (by simp) (heap_at (by simp)), heap_at (by simp)⟩
  rintro w2 ⟨hB2, z2, h0, h2, h3, hf⟩
  have hS2 : ∀ k, S k → w2.heap[k]? = w.heap[k]? := fun k hk => hB2.block k (HS.out k hk)
  have hall := Lib.hid (bindAll_any v.nodes v 0 [.int .i64 v.tm.lab.kind, .string v.tm.lab.nm, .int .i64 v.tm.lab.ix, .string s1, .slice A1 n1 c1, .slice B1 m1 d1] w2 S nm (w.heap.size + 1 + 1 + 1) (w.heap.size + 4) (.slice none 0 0) [] (Nat.le_refl _) (by omega) (tmRep.keep HT.out hS2 (fun _ h => h)) (fun b hb => by have := HS.out b hb; omega) (by omega) z2.2 hnms hf Rep.Own.nil (by simp; omega))
  simp only [Int.cast_ofNat_Int] at hall
  have HB2 := Lib.hid hB2
  have HS2 := Lib.hid hS2
  have HF := Lib.hid hf
  have H2 := Lib.hid h2
  have H3 := Lib.hid h3
  have HALL := Lib.hid hall
  clear hB2 hS2 hf h2 h3 hall
  have h0_0 := cv0 h0
  have h0_1 := cv1 h0
  have h0_2 := cv2 h0
  have h0_3 := cv3 h0
  have h0_4 := cv4 h0
  have h0_5 := cv5 h0
  have h0_l := lt_heap h0
  have H0 := Lib.hid h0
  clear h0
  go_wp2_with fail
  (with_reducible refine HALL.out.out.mono ?_)
  rintro e w3 ⟨q, es, rfl, hq, hown, hu, hcol⟩
  simp only [List.nil_append] at hown
  obtain ⟨s3, A3, n3, c3, B3, m3, d3, rfl, _, _⟩ := Tm.shape hu
  have z3 := hcol.size
  have hnq : ∀ k, (Value.slice none 0 0).ownBlock = some k → w.heap.size + 4 ≤ k ∧ k < w2.heap.size := fun k e => by simp [Value.ownBlock] at e
  have hB3 : Below w.heap.size w w3 := HB2.out.trans (hcol.toBelow (by omega) (by omega) (fun k hk => by have := (hnq k hk).1; omega))
  have h2 := (hcol.keep1 (b := w.heap.size + 1) (base := w.heap.size + 4) (by omega) (by omega) (by omega) hnq).trans H2.out
  have h3 := (hcol.keep1 (b := w.heap.size + 1 + 1) (base := w.heap.size + 4) (by omega) (by omega) (by omega) hnq).trans H3.out
  obtain ⟨Aq, cq, hqe⟩ := hown.len
  rw [List.length_map] at hqe
  subst hqe
  have hnl := Tv.named_len nm v
  have hsl : tyRep.Sl w3 (New S (w.heap.size + 4) w3) (.slice Aq (v.named nm).length cq) ((v.named nm).map Sy.ty) := Rep.Own.sl hown (by simp [maxLen]; omega) (fun b hb => Or.inl hb) (fun b h1 h2 => Or.inr ⟨h1, h2⟩)
  have hu' : tmRep.R w3 (New S (w.heap.size + 4) w3) (v.bind nm 0).tm [.int .i64 (v.bind nm 0).tm.lab.kind, .string (v.bind nm 0).tm.lab.nm, .int .i64 (v.bind nm 0).tm.lab.ix, .string s3, .slice A3 n3 c3, .slice B3 m3 d3] := tmRep.keep hu (fun _ _ => rfl) (fun k hk => hk.imp_right (fun h => ⟨by have := h.1; omega, h.2.1⟩))
  clear h0_0 h0_1 h0_2 h0_3 h0_4 h0_5 h0_l hu
  unfold zTm at h2
  have HOWN := Lib.hid hown
  have HCOL := Lib.hid hcol
  have HB3 := Lib.hid hB3
  have HSL := Lib.hid hsl
  have HUP := Lib.hid hu'
  clear hown hcol hB3 hsl hu'
  have h2_0 := cv0 h2
  have h2_1 := cv1 h2
  have h2_2 := cv2 h2
  have h2_3 := cv3 h2
  have h2_4 := cv4 h2
  have h2_5 := cv5 h2
  have h2_f0 := free_heap h2 0
  have h2_f1 := free_heap h2 1
  have h2_f2 := free_heap h2 2
  have h2_f3 := free_heap h2 3
  have h2_f4 := free_heap h2 4
  have h2_f5 := free_heap h2 5
  have h2_l := lt_heap h2
  have H2 := Lib.hid h2
  clear h2
  have h3_0 := cv0 h3
  have h3_1 := cv1 h3
  have h3_f0 := free_heap h3 0
  have h3_f1 := free_heap h3 1
  have h3_l := lt_heap h3
  have H3 := Lib.hid h3
  clear h3
  have hq_0 := cv0 hq
  have hq_l := lt_heap hq
  have HQ := Lib.hid hq
  clear hq
  cases hnd : v.named nm with
  | nil =>
    rw [hnd] at hq_0
    have hbc : bindCode nm v = 6 := by unfold bindCode; rw [hnd]; rfl
    have HBC := Lib.hid hbc
    have t0 : ((([] : List Sy).length : Int) == 0) = true := by simp
    clear hbc hnd
    have l3 : w.heap.size + 1 < w3.heap.size + 1 := by omega
    go_upto_region 4 with (fail)
    go_cut [] (fun wx => Below w.heap.size w wx ∧ wx.heap[w.heap.size + 1]? = some (.cells zTm 49 (0, 0)) ∧ wx.heap[w.heap.size + 1 + 1]? = some (.cells #[.int .i64 6, .int .i64 (-2)] 26 (0, 0)))
    case first =>
      go_wp2_with fail
      go_meet
      exact ⟨(below2 (below6 HB3.out (by omega)) (by omega)).alloc (le2 (le6 (by omega))) _, heap_old (lt2 (lt6 (by omega))) (far2 (by omega) (at6 H2.out)), heap_old (lt2 (lt6 (by omega))) (at2 (far6 (by omega) H3.out))⟩
    case rest =>
      obtain ⟨hb, k2, k3⟩ := hcut
      rename World => wx
      have hfin : BindOfAt v nm w S (.returned (.tuple #[.agg zTm, .agg #[.int .i64 6, .int .i64 (-2)]])) wx := ⟨fun _ => by rw [HBC.out]; rfl, fun h => by rw [HBC.out] at h; simp at h, hb⟩
      clear h2_0 h2_1 h2_2 h2_3 h2_4 h2_5 h2_f0 h2_f1 h2_f2 h2_f3 h2_f4 h2_f5 h3_0 h3_1 h3_f0 h3_f1 t0 hq_0
      unfold zTm at k2
      have HFIN := Lib.hid hfin
      have HB := Lib.hid hb
      clear hfin hb
      have k2_0 := cv0 k2
      have k2_1 := cv1 k2
      have k2_2 := cv2 k2
      have k2_3 := cv3 k2
      have k2_4 := cv4 k2
      have k2_5 := cv5 k2
      have k2_l := lt_heap k2
      have K2 := Lib.hid k2
      clear k2
      have k3_0 := cv0 k3
      have k3_1 := cv1 k3
      have k3_l := lt_heap k3
      have K3 := Lib.hid k3
      clear k3
      go_wp2_with fail
      refine bodyPost_ret (v := .tuple #[.agg #[.int .i64 0, .string ⟨#[]⟩, .int .i64 0, .string ⟨#[]⟩, .slice none 0 0, .slice none 0 0], .agg #[.int .i64 6, .int .i64 (-2)]]) (by simp [results, Tryd.results41, go_sem, k2_0, k2_1, k2_2, k2_3, k2_4, k2_5, k3_0, k3_1, k2_l, k3_l]) rfl ?_
      exact HFIN.out
  | cons a l =>
  have hsl' := HSL.out
  rw [hnd] at hsl'
  obtain ⟨b, o, kc, rfl, hSb, hr0, hc0⟩ := Rep.Sl.at_ hsl' (k := 0) (a := a.ty) (by simp)
  obtain ⟨u0, u1, rfl, hin0⟩ := hr0
  obtain ⟨su, Au, nu, cu, rfl, rfl⟩ := hin0.shape
  have hNw : ∀ k, New S (w.heap.size + 4) w3 k → k < w3.heap.size ∧ (k < w.heap.size ∨ w.heap.size + 4 ≤ k) := fun k hk => by
    rcases hk with hk | hk
    · have := HS.out k hk; omega
    · omega
  have hbw := hNw b hSb
  have e0 : w3.cell? ⟨b, o, none⟩ = _ := hc0 0 _ rfl
  have e1 : w3.cell? ⟨b, o + 1, none⟩ = _ := hc0 1 _ rfl
  obtain ⟨n, hn⟩ : ∃ n, n = (a :: l).length := ⟨_, rfl⟩
  have hq := HQ.out
  rw [hnd, ← hn] at hq_0 hq hnl
  rw [← hn] at hsl'
  clear HQ
  have HQ := Lib.hid hq
  clear hq
  have hn1 : 1 ≤ n := by rw [hn]; simp
  have t0 : ((n : Int) == 0) = false := beq_eq_false_iff_ne.2 (by omega)
  have ha200 : a.nodes ≤ 1000000000000 := by have := HSN.out a (by rw [hnd]; simp); omega
  have HND := Lib.hid hnd
  have HN := Lib.hid hn
  have HSL2 := Lib.hid hsl'
  have HIN0 := Lib.hid hin0
  clear hnd hsl' hn hc0 hin0 HSL
  have HNW := Lib.hid hNw
  clear hNw
  go_wp2_with fail
  go_loopg [21] n (fun k vi wr => ∃ j : Nat, j + k = n ∧ vi = .int .i64 j ∧ (∀ x ∈ (a :: l).take j, x = a) ∧ Below w3.heap.size w3 wr ∧ wr.heap[w3.heap.size]? = some (.cells #[.int .i64 (v.bind nm 0).tm.lab.kind, .string (v.bind nm 0).tm.lab.nm, .int .i64 (v.bind nm 0).tm.lab.ix, .string s3, .slice A3 n3 c3, .slice B3 m3 d3] 49 (0, 0)))
  case atStart => exact ⟨0, by omega, rfl, by simp, (Below.refl _ _).alloc (Nat.le_refl _) _, heap_at rfl⟩
  case round =>
    obtain ⟨j, hj, rfl, hal, hb, hbb⟩ := hrel
    have zr := hb.size
    have q00 : 0 < n := by omega
    by_cases hjl : j < n
    · have hjl' : j < (a :: l).length := by rw [← HN.out]; exact hjl
      obtain ⟨b', o', kc, eA, hSb', ⟨x0, x1, rfl, hin⟩, hcs⟩ := Rep.Sl.at_ HSL2.out (k := j) (a := ((a :: l)[j]).ty) (by rw [List.getElem?_map, List.getElem?_eq_getElem hjl']; rfl)
      simp only [Option.some.injEq, Addr.mk.injEq, and_true] at eA
      obtain ⟨rfl, rfl⟩ := eA
      obtain ⟨sx, Ax, nx, cx, rfl, rfl⟩ := hin.shape
      have hk := hb.block b hbw.1
      have f0 : wr.cell? ⟨b, o + j * 2, none⟩ = some (.string sx) := (cell_keep hk _).trans (hcs 0 _ rfl)
      have f1 : wr.cell? ⟨b, o + j * 2 + 1, none⟩ = some (.slice Ax nx cx) := (cell_keep hk _).trans (hcs 1 _ rfl)
      have g0 := (cell_keep hk _).trans e0
      have g1 := (cell_keep hk _).trans e1
      have hq' := (hb.block _ hq_l).trans HQ.out
      have h2 := (hb.block _ h2_l).trans H2.out
      have h3 := (hb.block _ h3_l).trans H3.out
      have q0 : (0 : Int) ≤ (j : Int) := by omega
      have q1 : (j : Int) < (n : Int) := by omega
      have zb : b < wr.heap.size := by omega
      have zbb := lt_heap hbb
      have hmem : (a :: l)[j] ∈ a :: l := List.getElem_mem hjl'
      generalize hxj : (a :: l)[j] = x at *
      have hx200 : x.nodes ≤ 1000000000000 := by have := HSN.out x (by rw [HND.out]; exact hmem); omega
      have hcall := fun (p : Obj) => Lib.hid (refSameType_any x a (.string sx) (.slice Ax nx cx) (.string su) (.slice Au nu cu) (wr.alloc p).drew (New S (w.heap.size + 4) w3) (hin.keep (fun k hk => (heap_old (by have := (HNW.out k hk).1; omega) (hb.block k (HNW.out k hk).1)))) (HIN0.out.keep (fun k hk => (heap_old (by have := (HNW.out k hk).1; omega) (hb.block k (HNW.out k hk).1)))) (fun k hk => by have := (HNW.out k hk).1; simp; omega) hx200 ha200)
      clear h2_0 h2_1 h2_2 h2_3 h2_4 h2_5 h2_f0 h2_f1 h2_f2 h2_f3 h2_f4 h2_f5 h3_0 h3_1 h3_f0 h3_f1 hq_0 e0 e1 hcs hin hk t0
      have HB := Lib.hid hb
      have HBB := Lib.hid hbb
      clear hb hbb
      have hq'_0 := cv0 hq'
      have hq'_l := lt_heap hq'
      have HQP := Lib.hid hq'
      clear hq'
      have h2_0 := cv0 h2
      have h2_1 := cv1 h2
      have h2_2 := cv2 h2
      have h2_3 := cv3 h2
      have h2_4 := cv4 h2
      have h2_5 := cv5 h2
      have h2_f0 := free_heap h2 0
      have h2_f1 := free_heap h2 1
      have h2_f2 := free_heap h2 2
      have h2_f3 := free_heap h2 3
      have h2_f4 := free_heap h2 4
      have h2_f5 := free_heap h2 5
      have h2_l := lt_heap h2
      have H2 := Lib.hid h2
      clear h2
      have h3_0 := cv0 h3
      have h3_1 := cv1 h3
      have h3_f0 := free_heap h3 0
      have h3_f1 := free_heap h3 1
      have h3_l := lt_heap h3
      have H3 := Lib.hid h3
      clear h3
      by_cases he : x = a
      all_goals
        first | (rw [decide_eq_true he] at hcall) | (rw [decide_eq_false he] at hcall)
        have HCALL := Lib.hid hcall
        clear hcall
        go_wp2_with fail
        go_region_held3 (fun w' => w'.cell? ⟨wr.heap.size, 0, none⟩ = some (.string sx) ∧ w'.cell? ⟨wr.heap.size, 1, none⟩ = some (.slice Ax nx cx) ∧ w'.cell? ⟨w.heap.size + 1 + 1 + 1, 0, none⟩ = some (.slice (some ⟨b, o, none⟩) n cq) ∧ w'.cell? ⟨b, o, none⟩ = some (.string su) ∧ w'.cell? ⟨b, o + 1, none⟩ = some (.slice Au nu cu))
          ((first | (go_keep; done) | (go_split_ands; (repeat' apply And.intro) <;> (refine (kc _ _ (by omega)).trans ?_; assumption))))
          (first | ((with_reducible refine (HCALL.out _).out.mono ?_); rintro e w4 ⟨rfl, hw4⟩; have kc : ∀ k q, k < wr.heap.size + 1 → w4.cell? ⟨k, q, none⟩ = _ := (fun k q h => hw4.cell (p := ⟨k, q, none⟩) (by simp; omega)); have z4 : wr.heap.size + 1 ≤ w4.heap.size := (by have := hw4.size; simpa using this); have HW4 := Lib.hid hw4; clear hw4) | fail)
        have hb4 : Below w3.heap.size w3 w4 := ((HB.out.alloc (by omega) _).drew).trans (HW4.out.mono (by simp; omega))
        have hbb4 := (HW4.out.block w3.heap.size (by simp; omega)).trans (heap_drew (heap_old zbb HBB.out))
      · have HB4 := Lib.hid hb4
        have HBB4 := Lib.hid hbb4
        clear hb4 hbb4
        go_wp2_with fail
        go_roundg (n - (j + 1))
        case measure => omega
        case rel =>
          refine ⟨j + 1, by omega, by go_num, fun y hy => ?_, HB4.out, HBB4.out⟩
          rw [List.take_succ_eq_append_getElem hjl', List.mem_append, hxj] at hy
          rcases hy with hy | hy
          · exact hal y hy
          · rw [List.mem_singleton.1 hy]; exact he
      · have hbc : bindCode nm v = 12 := by
          unfold bindCode
          rw [HND.out, if_neg (by simp), if_pos (alike_ne hmem he)]
        have h2 := (HW4.out.block (w.heap.size + 1) (by simp; omega)).trans (heap_drew (heap_old h2_l H2.out))
        have h3 := (HW4.out.block (w.heap.size + 1 + 1) (by simp; omega)).trans (heap_drew (heap_old h3_l H3.out))
        have hB4 : Below w.heap.size w w4 := HB3.out.trans (hb4.mono (by omega))
        clear h2_0 h2_1 h2_2 h2_3 h2_4 h2_5 h2_f0 h2_f1 h2_f2 h2_f3 h2_f4 h2_f5 h3_0 h3_1 h3_f0 h3_f1 hq'_0 f0 f1 g0 g1 kc hb4 hbb4
        have HBC := Lib.hid hbc
        have HB4 := Lib.hid hB4
        clear hbc hB4
        have h2_0 := cv0 h2
        have h2_1 := cv1 h2
        have h2_2 := cv2 h2
        have h2_3 := cv3 h2
        have h2_4 := cv4 h2
        have h2_5 := cv5 h2
        have h2_f0 := free_heap h2 0
        have h2_f1 := free_heap h2 1
        have h2_f2 := free_heap h2 2
        have h2_f3 := free_heap h2 3
        have h2_f4 := free_heap h2 4
        have h2_f5 := free_heap h2 5
        have h2_l := lt_heap h2
        have H2 := Lib.hid h2
        clear h2
        have h3_0 := cv0 h3
        have h3_1 := cv1 h3
        have h3_f0 := free_heap h3 0
        have h3_f1 := free_heap h3 1
        have h3_l := lt_heap h3
        have H3 := Lib.hid h3
        clear h3
        go_upto_region 9 with (fail)
        go_cut [] (fun wx => Below w.heap.size w wx ∧ wx.heap[w.heap.size + 1]? = some (.cells zTm 49 (0, 0)) ∧ wx.heap[w.heap.size + 1 + 1]? = some (.cells #[.int .i64 12, .int .i64 (-2)] 26 (0, 0)))
        case first =>
          go_wp2_with fail
          go_meet
          exact ⟨below2 (below6 HB4.out (by omega)) (by omega), far2 (by omega) (at6 H2.out), at2 (far6 (by omega) H3.out)⟩
        case rest =>
          obtain ⟨hb, k2, k3⟩ := hcut
          rename World => wx
          have hfin : BindOfAt v nm w S (.returned (.tuple #[.agg zTm, .agg #[.int .i64 12, .int .i64 (-2)]])) wx := ⟨fun _ => by rw [HBC.out]; rfl, fun h => by rw [HBC.out] at h; simp at h, hb⟩
          clear h2_0 h2_1 h2_2 h2_3 h2_4 h2_5 h2_f0 h2_f1 h2_f2 h2_f3 h2_f4 h2_f5 h3_0 h3_1 h3_f0 h3_f1
          unfold zTm at k2
          have HFIN := Lib.hid hfin
          have HB := Lib.hid hb
          clear hfin hb
          have k2_0 := cv0 k2
          have k2_1 := cv1 k2
          have k2_2 := cv2 k2
          have k2_3 := cv3 k2
          have k2_4 := cv4 k2
          have k2_5 := cv5 k2
          have k2_l := lt_heap k2
          have K2 := Lib.hid k2
          clear k2
          have k3_0 := cv0 k3
          have k3_1 := cv1 k3
          have k3_l := lt_heap k3
          have K3 := Lib.hid k3
          clear k3
          go_wp2_with fail
          refine bodyPost_ret (v := .tuple #[.agg #[.int .i64 0, .string ⟨#[]⟩, .int .i64 0, .string ⟨#[]⟩, .slice none 0 0, .slice none 0 0], .agg #[.int .i64 12, .int .i64 (-2)]]) (by simp [results, Tryd.results41, go_sem, k2_0, k2_1, k2_2, k2_3, k2_4, k2_5, k3_0, k3_1, k2_l, k3_l]) rfl ?_
          exact HFIN.out
    · have hjn : j = (a :: l).length := by have := HN.out; omega
      rw [hjn, List.take_length] at hal
      have hak : alike (v.named nm) = true := by rw [HND.out]; exact alike_take hal
      have hq' := (hb.block _ hq_l).trans HQ.out
      have hk := hb.block b hbw.1
      have g0 := (cell_keep hk _).trans e0
      have g1 := (cell_keep hk _).trans e1
      have zb : b < wr.heap.size := by omega
      have h2 := (hb.block _ h2_l).trans H2.out
      have h3 := (hb.block _ h3_l).trans H3.out
      have hBr : Below w.heap.size w wr := HB3.out.trans (hb.mono (by omega))
      have hinr := HIN0.out.keep (fun k hk => hb.block k (HNW.out k hk).1)
      have hur := tmRep.keep HUP.out (fun k hk => hb.block k (HNW.out k hk).1) (fun _ h => h)
      clear h2_0 h2_1 h2_2 h2_3 h2_4 h2_5 h2_f0 h2_f1 h2_f2 h2_f3 h2_f4 h2_f5 h3_0 h3_1 h3_f0 h3_f1 hq_0 t0 hal hjn e0 e1 hk
      have HAK := Lib.hid hak
      have HB := Lib.hid hb
      have HBR := Lib.hid hBr
      have HINR := Lib.hid hinr
      have HUR := Lib.hid hur
      have H2 := Lib.hid h2
      have H3 := Lib.hid h3
      clear hak hb hBr hinr hur h2 h3
      have hq'_0 := cv0 hq'
      have hq'_l := lt_heap hq'
      have HQP := Lib.hid hq'
      clear hq'
      have hbb_0 := cv0 hbb
      have hbb_1 := cv1 hbb
      have hbb_2 := cv2 hbb
      have hbb_3 := cv3 hbb
      have hbb_4 := cv4 hbb
      have hbb_5 := cv5 hbb
      have hbb_l := lt_heap hbb
      have HBB := Lib.hid hbb
      clear hbb
      have l4 : w.heap.size + 1 + 1 + 1 < wr.heap.size + 1 := by omega
      have l5 : b < wr.heap.size + 1 := by omega
      have l6 : w3.heap.size < wr.heap.size + 1 := by omega
      go_upto_region 11 with (fail)
      go_cut [10] (fun s10 wx => ∃ (ob : Nat) (es : List Value), s10 = .pointer (some ⟨ob, 0, none⟩) ∧ wx.heap[ob]? = some (.cells es.toArray 49 (0, 0)) ∧ tmRep.R wx (New S (w.heap.size + 4) wx) (bindTerm nm v).tm es ∧ Below wr.heap.size wr wx ∧ wr.heap.size ≤ ob)
      case first =>
        go_region
        all_goals
          go_wp2_with fail
          go_meet
          have e : (bindTerm nm v).tm = (Tv.abs a (v.bind nm 0)).tm := by unfold bindTerm; rw [HND.out]; rfl
          rw [e]
          first
          | (refine ⟨wr.heap.size + 1, [.int .i64 3, .string ⟨#[]⟩, .int .i64 0, .string su, .slice Au nu cu, .slice (some ⟨wr.heap.size, 0, none⟩) 1 1], rfl, ?_, Tm.abs_lit (ds := [.int .i64 (v.bind nm 0).tm.lab.kind, .string (v.bind nm 0).tm.lab.nm, .int .i64 (v.bind nm 0).tm.lab.ix, .string s3, .slice A3 n3 c3, .slice B3 m3 d3]) (T := 49) (fr := (0, 0)) (Ty.In_keep (fun k hk => ?_) (fun k hk => ?_) _ _ _ HINR.out) (tmRep.keep HUR.out (fun k hk => ?_) (fun k hk => ?_)) ?_ (Or.inr ⟨by omega, (by first | omega | (simp [size_set]; done) | (simp [size_set]; omega))⟩), ?_, by omega⟩
             · (repeat (first | (with_reducible exact heap_at rfl) | (with_reducible refine at6 ?_) | (with_reducible refine heap_drew ?_) | (with_reducible refine far6 (by omega) ?_) | (with_reducible refine heap_old ?hlt ?_; case hlt => first | omega | (simp [size_set]; done) | (simp [size_set]; omega)) | (with_reducible refine heap_at ?_; simp [size_set]; done)))
             · have hkl := (HNW.out k hk).1
               (repeat (first | (with_reducible exact rfl) | (with_reducible refine heap_drew ?_) | (with_reducible refine far6 (by omega) ?_) | (with_reducible refine heap_old ?hlt ?_; case hlt => first | omega | (simp [size_set]; done) | (simp [size_set]; omega))))
             · exact hk.imp_right (fun h => ⟨h.1, by have := h.2; first | omega | (simp [size_set]; done) | (simp [size_set]; omega)⟩)
             · have hkl := (HNW.out k hk).1
               (repeat (first | (with_reducible exact rfl) | (with_reducible refine heap_drew ?_) | (with_reducible refine far6 (by omega) ?_) | (with_reducible refine heap_old ?hlt ?_; case hlt => first | omega | (simp [size_set]; done) | (simp [size_set]; omega))))
             · exact hk.imp_right (fun h => ⟨h.1, by have := h.2; first | omega | (simp [size_set]; done) | (simp [size_set]; omega)⟩)
             · (repeat (first | (with_reducible exact heap_at rfl) | (with_reducible refine at6 ?_) | (with_reducible refine heap_drew ?_) | (with_reducible refine far6 (by omega) ?_) | (with_reducible refine heap_old ?hlt ?_; case hlt => first | omega | (simp [size_set]; done) | (simp [size_set]; omega)) | (with_reducible refine heap_at ?_; simp [size_set]; done)))
             · (repeat (first | (with_reducible exact Below.refl _ _) | (with_reducible refine Below.drew ?_) | (with_reducible refine below6 ?_ ?hlt; case hlt => first | omega | (simp [size_set]; done) | (simp [size_set]; omega)) | (with_reducible refine Below.alloc ?_ ?hlt _; case hlt => first | omega | (simp [size_set]; done) | (simp [size_set]; omega)))))
          | (refine ⟨wr.heap.size, [.int .i64 3, .string ⟨#[]⟩, .int .i64 0, .string su, .slice Au nu cu, .slice (some ⟨wr.heap.size + 1, 0, none⟩) 1 1], rfl, ?_, Tm.abs_lit (ds := [.int .i64 (v.bind nm 0).tm.lab.kind, .string (v.bind nm 0).tm.lab.nm, .int .i64 (v.bind nm 0).tm.lab.ix, .string s3, .slice A3 n3 c3, .slice B3 m3 d3]) (T := 49) (fr := (0, 0)) (Ty.In_keep (fun k hk => ?_) (fun k hk => ?_) _ _ _ HINR.out) (tmRep.keep HUR.out (fun k hk => ?_) (fun k hk => ?_)) ?_ (Or.inr ⟨by omega, (by first | omega | (simp [size_set]; done) | (simp [size_set]; omega))⟩), ?_, by omega⟩
             · (repeat (first | (with_reducible exact heap_at rfl) | (with_reducible refine at6 ?_) | (with_reducible refine heap_drew ?_) | (with_reducible refine far6 (by omega) ?_) | (with_reducible refine heap_old ?hlt ?_; case hlt => first | omega | (simp [size_set]; done) | (simp [size_set]; omega)) | (with_reducible refine heap_at ?_; simp [size_set]; done)))
             · have hkl := (HNW.out k hk).1
               (repeat (first | (with_reducible exact rfl) | (with_reducible refine heap_drew ?_) | (with_reducible refine far6 (by omega) ?_) | (with_reducible refine heap_old ?hlt ?_; case hlt => first | omega | (simp [size_set]; done) | (simp [size_set]; omega))))
             · exact hk.imp_right (fun h => ⟨h.1, by have := h.2; first | omega | (simp [size_set]; done) | (simp [size_set]; omega)⟩)
             · have hkl := (HNW.out k hk).1
               (repeat (first | (with_reducible exact rfl) | (with_reducible refine heap_drew ?_) | (with_reducible refine far6 (by omega) ?_) | (with_reducible refine heap_old ?hlt ?_; case hlt => first | omega | (simp [size_set]; done) | (simp [size_set]; omega))))
             · exact hk.imp_right (fun h => ⟨h.1, by have := h.2; first | omega | (simp [size_set]; done) | (simp [size_set]; omega)⟩)
             · (repeat (first | (with_reducible exact heap_at rfl) | (with_reducible refine at6 ?_) | (with_reducible refine heap_drew ?_) | (with_reducible refine far6 (by omega) ?_) | (with_reducible refine heap_old ?hlt ?_; case hlt => first | omega | (simp [size_set]; done) | (simp [size_set]; omega)) | (with_reducible refine heap_at ?_; simp [size_set]; done)))
             · (repeat (first | (with_reducible exact Below.refl _ _) | (with_reducible refine Below.drew ?_) | (with_reducible refine below6 ?_ ?hlt; case hlt => first | omega | (simp [size_set]; done) | (simp [size_set]; omega)) | (with_reducible refine Below.alloc ?_ ?hlt _; case hlt => first | omega | (simp [size_set]; done) | (simp [size_set]; omega)))))
      case rest =>
        obtain ⟨ob, es, rfl, hob, hes, hbx, hobl⟩ := hcut
        rename World => wx
        obtain ⟨s7, A7, n7, c7, B7, m7, d7, rfl, _, _⟩ := Tm.shape hes
        have zx := hbx.size
        have hBx := HBR.out.trans (hbx.mono (by omega))
        have h2 := (hbx.block _ (by omega)).trans H2.out
        have h3 := (hbx.block _ (by omega)).trans H3.out
        have hbt : (bindTerm nm v).tm.nodes = v.nodes + 1 ∧ (bindTerm nm v).tm.depth = v.depth + 1 := by
          rw [Tv.tm_nodes, Tv.tm_depth]
          unfold bindTerm
          simp only [Tv.nodes, Tv.depth, Tv.bind_nodes nm v 0, Tv.bind_depth nm v 0, and_self]
        have hSx : ∀ k, New S (w.heap.size + 4) wx k → k < wx.heap.size ∧ k ≠ w.heap.size + 1 ∧ k ≠ w.heap.size + 1 + 1 := fun k hk => by
          rcases hk with hk | hk
          · have := HS.out k hk; omega
          · omega
        obtain ⟨NN, hNN⟩ : ∃ NN, NN = (bindTerm nm v).tm.nodes := ⟨_, rfl⟩
        obtain ⟨DD, hDD⟩ : ∃ DD, DD = (bindTerm nm v).tm.depth := ⟨_, rfl⟩
        have hsz := Lib.hid (termSize_any (bindTerm nm v).tm.nodes (bindTerm nm v).tm [.int .i64 (bindTerm nm v).tm.lab.kind, .string (bindTerm nm v).tm.lab.nm, .int .i64 (bindTerm nm v).tm.lab.ix, .string s7, .slice A7 n7 c7, .slice B7 m7 d7] wx _ (Nat.le_refl _) (by omega) hes (fun k hk => (hSx k hk).1))
        have hdp := fun (wy : World) (h : Below wx.heap.size wx wy) => Lib.hid (termDepth_any (bindTerm nm v).tm.nodes (bindTerm nm v).tm [.int .i64 (bindTerm nm v).tm.lab.kind, .string (bindTerm nm v).tm.lab.nm, .int .i64 (bindTerm nm v).tm.lab.ix, .string s7, .slice A7 n7 c7, .slice B7 m7 d7] wy (New S (w.heap.size + 4) wx) (Nat.le_refl _) (by omega) (tmRep.keep hes (fun k hk => h.block k (hSx k hk).1) (fun _ h => h)) (fun k hk => by have := (hSx k hk).1; have := h.size; omega))
        rw [← hNN] at hsz
        simp only [← hDD] at hdp
        have hN2 : NN = v.nodes + 1 := hNN.trans hbt.1
        have hD2 : DD = v.depth + 1 := hDD.trans hbt.2
        have hNb : NN ≤ 1000 := by omega
        have hDb : DD ≤ 1000 := by have := Tree.depth_le_nodes (bindTerm nm v).tm; omega
        have HN2 := Lib.hid hN2
        have HD2 := Lib.hid hD2
        clear hNN hDD hN2 hD2 hbt hbb_0 hbb_1 hbb_2 hbb_3 hbb_4 hbb_5 hbb_l hq'_0 hq'_l g0 g1 hq_l
        have HSZ := Lib.hid hsz
        have HDP := Lib.hid hdp
        have HES := Lib.hid hes
        have HBX := Lib.hid hbx
        have HBX := Lib.hid hBx
        have H2 := Lib.hid h2
        have H3 := Lib.hid h3
        have HSX := Lib.hid hSx
        clear hsz hdp hes hbx hBx h2 h3 hSx
        have hob_0 := cv0 hob
        have hob_1 := cv1 hob
        have hob_2 := cv2 hob
        have hob_3 := cv3 hob
        have hob_4 := cv4 hob
        have hob_5 := cv5 hob
        have hob_l := lt_heap hob
        have HOB := Lib.hid hob
        clear hob
        go_upto_region 12 with (fail)
        go_cut [47] (fun s47 wy => s47 = .bool (decide (200 < NN ∨ 40 < DD)) ∧ Below wx.heap.size wx wy)
        case first =>
          go_wp2_with fail
          (with_reducible refine HSZ.out.out.mono ?_)
          rintro e wy ⟨rfl, hwy⟩
          have r9 := (hwy.block _ hob_l).trans HOB.out
          have hd := HDP.out wy hwy
          clear hob_0 hob_1 hob_2 hob_3 hob_4 hob_5
          have HWY := Lib.hid hwy
          have HD := Lib.hid hd
          clear hwy hd
          have r9_0 := cv0 r9
          have r9_1 := cv1 r9
          have r9_2 := cv2 r9
          have r9_3 := cv3 r9
          have r9_4 := cv4 r9
          have r9_5 := cv5 r9
          have r9_l := lt_heap r9
          have R9 := Lib.hid r9
          clear r9
          by_cases hn2 : 200 < NN
          · go_wp2_with fail
            go_meet
            exact ⟨by simp [hn2], HWY.out⟩
          · go_wp2_with fail
            (with_reducible refine HD.out.out.mono ?_)
            rintro e wz ⟨rfl, hwz⟩
            have hBz := HWY.out.trans (hwz.mono HWY.out.size)
            clear r9_0 r9_1 r9_2 r9_3 r9_4 r9_5
            have HWZ := Lib.hid hwz
            have HBZ := Lib.hid hBz
            clear hwz hBz
            by_cases hd2 : 40 < DD
            · go_wp2_with fail
              go_meet
              exact ⟨by first | (simp [hd2]; done) | (simp [hd2]; omega), HBZ.out⟩
            · go_wp2_with fail
              go_meet
              exact ⟨by first | (simp [hn2, hd2]; done) | (simp [hn2, hd2]; omega), HBZ.out⟩
        case rest =>
          obtain ⟨rfl, hwy⟩ := hcut
          rename World => wy
          have zy := hwy.size
          have h2 := (hwy.block _ (by omega)).trans H2.out
          have h3 := (hwy.block _ (by omega)).trans H3.out
          have hob := (hwy.block _ hob_l).trans HOB.out
          have hBy := HBX.out.trans (hwy.mono (by omega))
          clear hob_0 hob_1 hob_2 hob_3 hob_4 hob_5 hob_l
          have HWY := Lib.hid hwy
          have HBY := Lib.hid hBy
          clear hwy hBy
          have hob_0 := cv0 hob
          have hob_1 := cv1 hob
          have hob_2 := cv2 hob
          have hob_3 := cv3 hob
          have hob_4 := cv4 hob
          have hob_5 := cv5 hob
          have hob_l := lt_heap hob
          have HOB := Lib.hid hob
          clear hob
          have h2_0 := cv0 h2
          have h2_1 := cv1 h2
          have h2_2 := cv2 h2
          have h2_3 := cv3 h2
          have h2_4 := cv4 h2
          have h2_5 := cv5 h2
          have h2_f0 := free_heap h2 0
          have h2_f1 := free_heap h2 1
          have h2_f2 := free_heap h2 2
          have h2_f3 := free_heap h2 3
          have h2_f4 := free_heap h2 4
          have h2_f5 := free_heap h2 5
          have h2_l := lt_heap h2
          have H2 := Lib.hid h2
          clear h2
          have h3_0 := cv0 h3
          have h3_1 := cv1 h3
          have h3_f0 := free_heap h3 0
          have h3_f1 := free_heap h3 1
          have h3_l := lt_heap h3
          have H3 := Lib.hid h3
          clear h3
          by_cases hq : 200 < NN ∨ 40 < DD
          · have hbc : bindCode nm v = 1 := by
              have h1 := HN2.out
              have h2 := HD2.out
              unfold bindCode
              rw [HND.out, if_neg (by simp), if_neg (by rw [← HND.out, HAK.out]; simp), if_pos (by omega)]
            rw [decide_eq_true hq]
            have HBC := Lib.hid hbc
            clear hq hbc
            go_upto_region 13 with (fail)
            go_cut [] (fun wx => Below w.heap.size w wx ∧ wx.heap[w.heap.size + 1]? = some (.cells zTm 49 (0, 0)) ∧ wx.heap[w.heap.size + 1 + 1]? = some (.cells #[.int .i64 1, .int .i64 (-2)] 26 (0, 0)))
            case first =>
              go_wp2_with fail
              go_meet
              exact ⟨below2 (below6 HBY.out (by omega)) (by omega), far2 (by omega) (at6 H2.out), at2 (far6 (by omega) H3.out)⟩
            case rest =>
              obtain ⟨hb, k2, k3⟩ := hcut
              rename World => wz
              have hfin : BindOfAt v nm w S (.returned (.tuple #[.agg zTm, .agg #[.int .i64 1, .int .i64 (-2)]])) wz := ⟨fun _ => by rw [HBC.out]; rfl, fun h => by rw [HBC.out] at h; simp at h, hb⟩
              clear hob_0 hob_1 hob_2 hob_3 hob_4 hob_5 h2_0 h2_1 h2_2 h2_3 h2_4 h2_5 h2_f0 h2_f1 h2_f2 h2_f3 h2_f4 h2_f5 h3_0 h3_1 h3_f0 h3_f1
              unfold zTm at k2
              have HFIN := Lib.hid hfin
              have HB := Lib.hid hb
              clear hfin hb
              have k2_0 := cv0 k2
              have k2_1 := cv1 k2
              have k2_2 := cv2 k2
              have k2_3 := cv3 k2
              have k2_4 := cv4 k2
              have k2_5 := cv5 k2
              have k2_l := lt_heap k2
              have K2 := Lib.hid k2
              clear k2
              have k3_0 := cv0 k3
              have k3_1 := cv1 k3
              have k3_l := lt_heap k3
              have K3 := Lib.hid k3
              clear k3
              go_wp2_with fail
              refine bodyPost_ret (v := .tuple #[.agg #[.int .i64 0, .string ⟨#[]⟩, .int .i64 0, .string ⟨#[]⟩, .slice none 0 0, .slice none 0 0], .agg #[.int .i64 1, .int .i64 (-2)]]) (by simp [results, Tryd.results41, go_sem, k2_0, k2_1, k2_2, k2_3, k2_4, k2_5, k3_0, k3_1, k2_l, k3_l]) rfl ?_
              exact HFIN.out
          · have hbc : bindCode nm v = 0 := by
              have h1 := HN2.out
              have h2 := HD2.out
              unfold bindCode
              rw [HND.out, if_neg (by simp), if_neg (by rw [← HND.out, HAK.out]; simp), if_neg (by omega)]
            rw [decide_eq_false hq]
            have HBC := Lib.hid hbc
            clear hq hbc
            go_upto_region 14 with (fail)
            go_cut [] (fun wz => wz.heap[w.heap.size + 1]? = some (.cells #[.int .i64 (bindTerm nm v).tm.lab.kind, .string (bindTerm nm v).tm.lab.nm, .int .i64 (bindTerm nm v).tm.lab.ix, .string s7, .slice A7 n7 c7, .slice B7 m7 d7] 49 (0, 0)) ∧ wz.heap[w.heap.size + 1 + 1]? = some (.cells #[.int .i64 0, .int .i64 0] 26 (0, 0)) ∧ tmRep.R wz (Ex S w wz) (bindTerm nm v).tm [.int .i64 (bindTerm nm v).tm.lab.kind, .string (bindTerm nm v).tm.lab.nm, .int .i64 (bindTerm nm v).tm.lab.ix, .string s7, .slice A7 n7 c7, .slice B7 m7 d7] ∧ Below w.heap.size w wz)
            case first =>
              go_wp2_with fail
              go_meet
              refine ⟨far2 (by omega) (at6 H2.out), at2 (far6 (by omega) H3.out), tmRep.keep HES.out (fun k hk => far2 (HSX.out k hk).2.2 (far6 (HSX.out k hk).2.1 (HWY.out.block k (HSX.out k hk).1))) (fun k hk => hk.imp_right (fun h => ⟨by have := h.1; omega, lt2 (lt6 (by have := h.2; omega))⟩)), below2 (below6 HBY.out (by omega)) (by omega)⟩
            case rest =>
              obtain ⟨k2, k3, hu, hb⟩ := hcut
              rename World => wz
              have hfin : BindOfAt v nm w S (.returned (.tuple #[.agg ([.int .i64 (bindTerm nm v).tm.lab.kind, .string (bindTerm nm v).tm.lab.nm, .int .i64 (bindTerm nm v).tm.lab.ix, .string s7, .slice A7 n7 c7, .slice B7 m7 d7]).toArray, .agg #[.int .i64 0, .int .i64 0]])) wz := ⟨fun h => absurd HBC.out h, fun _ => ⟨_, rfl, hu⟩, hb⟩
              clear hob_0 hob_1 hob_2 hob_3 hob_4 hob_5 h2_0 h2_1 h2_2 h2_3 h2_4 h2_5 h2_f0 h2_f1 h2_f2 h2_f3 h2_f4 h2_f5 h3_0 h3_1 h3_f0 h3_f1
              have HFIN := Lib.hid hfin
              have HB := Lib.hid hb
              have HU := Lib.hid hu
              clear hfin hb hu
              have k2_0 := cv0 k2
              have k2_1 := cv1 k2
              have k2_2 := cv2 k2
              have k2_3 := cv3 k2
              have k2_4 := cv4 k2
              have k2_5 := cv5 k2
              have k2_l := lt_heap k2
              have K2 := Lib.hid k2
              clear k2
              have k3_0 := cv0 k3
              have k3_1 := cv1 k3
              have k3_l := lt_heap k3
              have K3 := Lib.hid k3
              clear k3
              go_wp2_with fail
              refine bodyPost_ret (v := .tuple #[.agg #[.int .i64 (bindTerm nm v).tm.lab.kind, .string (bindTerm nm v).tm.lab.nm, .int .i64 (bindTerm nm v).tm.lab.ix, .string s7, .slice A7 n7 c7, .slice B7 m7 d7], .agg #[.int .i64 0, .int .i64 0]]) (by simp [results, Tryd.results41, go_sem, k2_0, k2_1, k2_2, k2_3, k2_4, k2_5, k3_0, k3_1, k2_l, k3_l]) rfl ?_
              exact HFIN.out

end Go.Proofs.YthflahcnkhmpaaaDoor
