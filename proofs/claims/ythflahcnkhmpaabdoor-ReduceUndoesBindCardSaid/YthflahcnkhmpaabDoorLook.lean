/-
  term.Bind's first inner function (the types of the constants of a name are collected): the walk.
-/
import Derived.Test.YthflahcnkhmpaabDoorProg
import Derived.Test.YthflahcnkhmpaabDoorTyBox
import Derived.Test.YthflahcnkhmpaabDoorPutC
namespace Go.Proofs.YthflahcnkhmpaabDoor
open Go Go.RowKit
set_option linter.unusedSimpArgs false
set_option linter.unusedVariables false

theorem Tv.named_con {nm : ByteArray} {v : Tv} (h : v.isCon nm) : ∃ s, v = .con nm s ∧ v.named nm = [s] := by
  cases v with
  | con n s => simp only [Tv.isCon] at h; subst h; exact ⟨s, rfl, by simp [Tv.named]⟩
  | _ => exact h.elim
theorem Tv.named_kids {nm : ByteArray} {v : Tv} (h : ¬ v.isCon nm) : v.named nm = (v.kids.map (Tv.named nm)).flatten := by
  cases v with
  | con n s => simp only [Tv.isCon] at h; simp [Tv.named, h, Tv.kids]
  | var i => rfl
  | abs s b => simp [Tv.named, Tv.kids]
  | app f x => simp [Tv.named, Tv.kids]
theorem Tv.named_take {nm : ByteArray} {l : List Tv} {j : Nat} (h : j < l.length) : ((l.take (j + 1)).map (Tv.named nm)).flatten = ((l.take j).map (Tv.named nm)).flatten ++ l[j].named nm := by
  rw [List.take_succ_eq_append_getElem h, List.map_append, List.flatten_append]; simp only [List.map_cons, List.map_nil, List.flatten_cons, List.flatten_nil, List.append_nil]
theorem Tv.named_kids_len {nm : ByteArray} (v : Tv) (j : Nat) (h : j < v.kids.length) : ((v.kids.take j).map (Tv.named nm)).flatten.length + v.kids[j].nodes ≤ v.nodes := by
  have h1 := fun x : Tv => Tv.named_len nm x
  match v, j, h with
  | .abs _ b, 0, _ => simp [Tv.kids, Tv.nodes]
  | .app f x, 0, _ => simp [Tv.kids, Tv.nodes]; omega
  | .app f x, 1, _ => have := h1 f; simp [Tv.kids, Tv.nodes]; omega

/-- What collecting leaves. -/
def LookAt (v : Tv) (nm : ByteArray) (bt base : Nat) (q : Value) (l : List Sy) (w : World) (S : Nat → Prop) (e : Ending) (w' : World) : Prop :=
  ∃ q', e = .returned (.tuple #[]) ∧ w'.heap[bt]? = some (.cells #[q'] 22 (0, 0)) ∧ tyRep.Own 24 base w' S q' ((l ++ v.named nm).map Sy.ty) ∧ Coll w w' bt q q'

set_option maxRecDepth 100000 in
set_option maxHeartbeats 4000000 in
theorem look_any : ∀ (N : Nat) (v : Tv) (cs : List Value) (w : World) (S : Nat → Prop) (nm : ByteArray) (bn bt bl base : Nat) (q : Value) (l : List Sy), v.nodes ≤ N → tmRep.R w S v.tm cs → (∀ b, S b → b < bt) → bt < base → base ≤ w.heap.size → bn < base → bl < base → bn ≠ bt → bl ≠ bt →
    w.heap[bn]? = some (.cells #[.string nm] 9 (0, 0)) → nm.size ≤ maxLen →
    w.heap[bl]? = some (.cells #[.func (Fn.func 56) #[] #[.pointer (some ⟨bn, 0, none⟩), .pointer (some ⟨bt, 0, none⟩), .pointer (some ⟨bl, 0, none⟩)]] 77 (0, 0)) →
    w.heap[bt]? = some (.cells #[q] 22 (0, 0)) → tyRep.Own 24 base w S q (l.map Sy.ty) → l.length + v.nodes ≤ 100000 →
    Calls Tryd.prog 56 #[.agg cs.toArray, .pointer (some ⟨bn, 0, none⟩), .pointer (some ⟨bt, 0, none⟩), .pointer (some ⟨bl, 0, none⟩)] w (LookAt v nm bt base q l w S) := by
  intro N
  induction N with
  | zero => intro v; have := v.nodes_pos; intros; omega
  | succ N ih =>
  intro v cs w S nm bn bt bl base q l hN h hS hbt hbw hnb hlb hnt hlt hbn hnms hbl hq hown hlen
  have IH := Lib.hid ih
  clear ih
  have hnp := v.nodes_pos
  have hnl := lt_heap hbn
  have htl := lt_heap hq
  have hll := lt_heap hbl
  have e0 := cv0 hbn
  have e1 := cv0 hq
  have e1f := free_heap hq 0
  have hql : ∀ k, q.ownBlock = some k → base ≤ k ∧ k < w.heap.size := hown.block
  have hS0 : ∀ b, S b → b < w.heap.size := fun b hb => by have := hS b hb; omega
  by_cases hv : v.isCon nm
  · obtain ⟨s, rfl, hnd⟩ := Tv.named_con hv
    unfold LookAt
    rw [hnd]
    obtain ⟨u0, u1, vs, rfl, hnm, hty, hl⟩ := Tm.open_ (a := ⟨1, nm, 0, s.ty⟩) (l := []) h
    obtain ⟨sa, Aa, na, ca, rfl, rfl⟩ := hty.shape
    obtain ⟨A, m, cp, rfl, hln, hm, _⟩ := hl
    simp only [List.length_nil] at hln
    subst hln
    obtain ⟨Aq, cq, hqe⟩ := hown.len
    rw [List.length_map] at hqe
    subst hqe
    have t1 : (nm.toList == nm.toList) = true := by simp
    obtain ⟨i0, hi0, hz0, hz1, hz2⟩ := info_parts infoSimple
    simp only at hty
    clear h hm hN hnp hv hnm
    have HS := Lib.hid hS
    have HBN := Lib.hid hbn
    have HQ := Lib.hid hq
    have HOWN := Lib.hid hown
    have HTY := Lib.hid hty
    have HQL := Lib.hid hql
    have HS0 := Lib.hid hS0
    clear hS hbn hq hown hty hql hS0
    go_enter Tryd.func56, Tryd.ntmps56
    go_upto_region 2 with (fail)
    refine gen_last (fun wb => Below w.heap.size w wb ∧ (wb.heap.size ≤ w.heap.size + 1 ∧ w.heap.size + 1 ≤ wb.heap.size) ∧ wb.heap[w.heap.size]? = some (.cells #[.int .i64 1, .string nm, .int .i64 0, .string sa, .slice Aa na ca, .slice A 0 cp] 27 (0, 0))) ?_ ?_
    · exact ⟨(Below.refl _ w).alloc (Nat.le_refl _) _, by simp, heap_at rfl⟩
    rintro wb ⟨hbb, zb, pb⟩
    obtain ⟨xs, hrow, hall⟩ := HOWN.out.below hbb HS0.out
    rw [List.length_map] at hrow
    have hqw := (hbb.block bt htl).trans HQ.out
    have htyb := HTY.out.keep (fun b hb => hbb.block b (HS0.out b hb))
    have hqlb : ∀ k, (Value.slice Aq l.length cq).ownBlock = some k → base ≤ k ∧ k < wb.heap.size := fun k hk => by have := HQL.out k hk; omega
    have hnw : (Value.slice Aq l.length cq).ownBlock ≠ some w.heap.size := fun e => by have := (HQL.out _ e).2; omega
    have hnb : (Value.slice Aq l.length cq).ownBlock ≠ some bt := fun e => by have := (HQL.out _ e).1; omega
    clear e0 e1 e1f
    have HROW := Lib.hid hrow
    have HALL := Lib.hid hall
    have HTYB := Lib.hid htyb
    have HQLB := Lib.hid hqlb
    have HBB := Lib.hid hbb
    have HNW := Lib.hid hnw
    have HNB := Lib.hid hnb
    clear hrow hall htyb hqlb hbb hnw hnb
    have pb_0 := cv0 pb
    have pb_1 := cv1 pb
    have pb_2 := cv2 pb
    have pb_3 := cv3 pb
    have pb_4 := cv4 pb
    have pb_5 := cv5 pb
    have pb_l := lt_heap pb
    have PB := Lib.hid pb
    clear pb
    have hqw_0 := cv0 hqw
    have hqw_f0 := free_heap hqw 0
    have hqw_l := lt_heap hqw
    have HQW := Lib.hid hqw
    clear hqw
    have hsz1 : bt < wb.heap.size + 1 := by omega
    have hsz2 : w.heap.size < wb.heap.size + 1 := by omega
    have q5 : (0 : Int) ≤ (l.length : Int) := by omega
    have q6 : (l.length : Int) < (l.length : Int) + 1 := by omega
    go_cut [] (fun wx => ∃ q', AppTy 24 22 base bt S wb wx (.slice Aq l.length cq) q' (l.map Sy.ty ++ [s.ty]) ∧ wx.heap[w.heap.size]? = some (.cells #[.int .i64 1, .string nm, .int .i64 0, .string sa, .slice Aa na ca, .slice A 0 cp] 27 (0, 0)))
    case first =>
      go_region_law ((refine step_append_lies _ (by rfl) (.tmp 16) (.tmp 20) _ (by rfl) base 24 i0 _ 2 40 Tryd.underlying22 hi0 hz0 hz1 hz2 rfl (by omega) (.slice Aq l.length cq) l.length xs (by rfl) (HROW.out.alloc _).drew ⟨wb.heap.size, 0, none⟩ 1 1 [.string ⟨#[]⟩, .slice none 0 0] (by rfl) (by rfl) (World.news_of_block (cs := #[.string ⟨#[]⟩, .slice none 0 0]) (t := 24) (fr := (0, 0)) (heap_alloc_new wb _)) (by simp [Value.oneCell']) (by omega) (by unfold maxLen; omega) (by omega) (by simp; omega) (wb.heap.size + 1) (by simp) ?_; intro gg cap w3 hown3 hgrow hat hlt; have kk : ∀ b, b < wb.heap.size → (Value.slice Aq l.length cq).ownBlock ≠ some b → w3.heap[b]? = wb.heap[b]? := (fun b hb hne => (hgrow.block b (by simp; omega) (fun e => hne e.symm)).trans (heap_old hb rfl)); have r1 := (kk bt hqw_l HNB.out).trans HQW.out; have r2 := (kk w.heap.size pb_l HNW.out).trans PB.out; have r1_0 := cv0 r1; have r1_f := free_heap r1 0; have r2_3 := cv3 r2; have r2_4 := cv4 r2; have r1_l := lt_heap r1; have r2_l := lt_heap r2; have m0 := (hown3.cellAt (l.length * 2) (by omega)).trans (snocT0 HROW.out.1); have m1 := (hown3.cellAt (l.length * 2 + 1) (by omega)).trans (snocT1 HROW.out.1); have m2 := hown3.frozenAt (l.length * 2); have m3 := hown3.frozenAt (l.length * 2 + 1); have ne1 : bt ≠ gg := (by rintro rfl; rcases hat with h | h; exact HNB.out h; omega); have ne2 : w.heap.size ≠ gg := (by rintro rfl; rcases hat with h | h; exact HNW.out h; omega); have HOWN3 := Lib.hid hown3; have HGROW := Lib.hid hgrow; have HAT := Lib.hid hat; have R1 := Lib.hid r1; have R2 := Lib.hid r2; clear hown3 hgrow hat r1 r2 kk))
      all_goals
        go_wp2_with fail
        go_meet
        have hh := app_ty (T := 22) (l := l.map Sy.ty) (by simp) rfl HQW.out HALL.out HQLB.out HS.out hbt (by omega) HOWN3.out HGROW.out HAT.out HTYB.out
        first
        | exact ⟨_, hh.1, heap_far _ (by omega) (farq (fun e => ne2 e) R2.out)⟩
        | exact ⟨_, hh.2, farq (fun e => ne2 e) (heap_far _ (by omega) R2.out)⟩
    case rest =>
      obtain ⟨q', ⟨h1, h2, h3⟩, pb⟩ := hcut
      rename World => wx
      clear pb_0 pb_1 pb_2 pb_3 pb_4 pb_5 hqw_0 hqw_f0
      have hfin : Coll w wx bt (.slice Aq l.length cq) q' := (Coll.below HBB.out).trans h3
      have H1 := Lib.hid h1
      have H2 := Lib.hid h2
      have H3 := Lib.hid h3
      have HFIN := Lib.hid hfin
      clear h1 h2 h3 hfin
      have pb_0 := cv0 pb
      have pb_1 := cv1 pb
      have pb_2 := cv2 pb
      have pb_3 := cv3 pb
      have pb_4 := cv4 pb
      have pb_5 := cv5 pb
      have pb_l := lt_heap pb
      have PB := Lib.hid pb
      clear pb
      go_wp2_with fail
      go_loopg [26] 0 (fun k v wr => v = .int .i64 0 ∧ wr = wx)
      case atStart => exact ⟨rfl, rfl⟩
      case round =>
        obtain ⟨rfl, rfl⟩ := hrel
        go_wp2_with fail
        go_returns
        exact ⟨q', rfl, H1.out, by rw [List.map_append]; exact H2.out, HFIN.out⟩
  · unfold LookAt
    rw [Tv.named_kids hv]
    have hkc := Tv.notCon_kind hv
    have hkl := fun j h => Tv.named_kids_len (nm := nm) v j h
    have hkn := v.kids_nodes
    rw [Tv.tm_eq] at h
    obtain ⟨u0, u1, vs, rfl, hnm, hty, hl⟩ := Tm.open_ h
    obtain ⟨sa, Aa, na, ca, rfl, rfl⟩ := hty.shape
    have HL := Lib.hid hl
    have hkl2 := v.kids_len
    obtain ⟨A, n, c, rfl, hln, hm, _⟩ := hl
    rw [List.length_map] at hln
    subst hln
    generalize v.lab = lab at *
    obtain ⟨kd, nx, ix, ty⟩ := lab
    simp only at hkc
    clear h hnm hm hv hty
    have HS := Lib.hid hS
    have HN := Lib.hid hN
    have HBN := Lib.hid hbn
    have HBL := Lib.hid hbl
    have HQ := Lib.hid hq
    have HOWN := Lib.hid hown
    have HQL := Lib.hid hql
    have HS0 := Lib.hid hS0
    have HKL := Lib.hid hkl
    have HKN := Lib.hid hkn
    clear hS hN hbn hbl hq hown hql hS0 hkl hkn
    go_enter Tryd.func56, Tryd.ntmps56
    go_upto_region 1 with (fail)
    go_cut [15] (fun s15 wx => s15 = .bool false ∧ wx = w.alloc (.cells #[.int .i64 kd, .string nx, .int .i64 ix, .string sa, .slice Aa na ca, .slice A v.kids.length c] 27))
    case first =>
      rcases hkc with t1 | ⟨t1, t2⟩
      · go_wp2_with fail
        go_meet
        exact ⟨rfl, rfl⟩
      · go_wp2_with fail
        go_meet
        exact ⟨rfl, rfl⟩
    case rest =>
    obtain ⟨rfl, rfl⟩ := hcut
    clear hkc e0 e1 e1f
    go_wp2_with fail
    go_loopg [26] v.kids.length (fun k vi wr => ∃ (j : Nat) (q' : Value), j + k = v.kids.length ∧ vi = .int .i64 j ∧ wr.heap[bt]? = some (.cells #[q'] 22 (0, 0)) ∧ tyRep.Own 24 base wr S q' ((l ++ ((v.kids.take j).map (Tv.named nm)).flatten).map Sy.ty) ∧ Coll w wr bt q q')
    case atStart =>
      exact ⟨0, q, by omega, rfl, heap_old htl HQ.out, by simpa using HOWN.out.below ((Below.refl _ w).alloc (Nat.le_refl _) _) HS0.out, Coll.refl.alloc _⟩
    case round =>
      obtain ⟨j, q', hj, rfl, hq', hown', hcol⟩ := hrel
      have zr := hcol.size
      have hbl' := (hcol.keep1 hlb hlt hbw HQL.out).trans HBL.out
      have hbn' := (hcol.keep1 hnb hnt hbw HQL.out).trans HBN.out
      have hkS := hcol.keepS HS.out hbt hbw HQL.out
      have f0 := cv0 hbl'
      have f0l := lt_heap hbl'
      have hSr : ∀ k, S k → k < wr.heap.size := fun k hk => by have := HS0.out k hk; omega
      have HBLP := Lib.hid hbl'
      have HBNP := Lib.hid hbn'
      have HKS := Lib.hid hkS
      have HOWNP := Lib.hid hown'
      have HCOL := Lib.hid hcol
      have HSR := Lib.hid hSr
      clear hbl' hbn' hkS hown' hcol hSr
      have hq'_0 := cv0 hq'
      have hq'_l := lt_heap hq'
      have HQP := Lib.hid hq'
      clear hq'
      by_cases hjl : j < v.kids.length
      · obtain ⟨b, o, kc, rfl, hSb, hkr, hkc⟩ := Rep.Sl.at_ HL.out (k := j) (a := v.kids[j].tm) (by simp [hjl])
        obtain ⟨s1, A1, n1, c1, B1, m1, d1, rfl, _, _⟩ := Tm.shape hkr
        have hk := HKS.out b hSb
        have e0 : wr.cell? ⟨b, o + j * 6, none⟩ = _ := (cell_keep hk _).trans (hkc 0 _ rfl)
        have e1 : wr.cell? ⟨b, o + j * 6 + 1, none⟩ = _ := (cell_keep hk _).trans (hkc 1 _ rfl)
        have e2 : wr.cell? ⟨b, o + j * 6 + 2, none⟩ = _ := (cell_keep hk _).trans (hkc 2 _ rfl)
        have e3 : wr.cell? ⟨b, o + j * 6 + 3, none⟩ = _ := (cell_keep hk _).trans (hkc 3 _ rfl)
        have e4 : wr.cell? ⟨b, o + j * 6 + 4, none⟩ = _ := (cell_keep hk _).trans (hkc 4 _ rfl)
        have e5 : wr.cell? ⟨b, o + j * 6 + 5, none⟩ = _ := (cell_keep hk _).trans (hkc 5 _ rfl)
        have zb : b < wr.heap.size := HSR.out b hSb
        have q0 : (0 : Int) ≤ (j : Int) := by omega
        have q1 : (j : Int) < (v.kids.length : Int) := by omega
        have hkj := HKL.out j hjl
        have hnj := HKN.out j hjl
        have hih := fun (o : Obj) => Lib.hid (IH.out v.kids[j] [.int .i64 v.kids[j].tm.lab.kind, .string v.kids[j].tm.lab.nm, .int .i64 v.kids[j].tm.lab.ix, .string s1, .slice A1 n1 c1, .slice B1 m1 d1] (wr.alloc o) S nm bn bt bl base q' (l ++ ((v.kids.take j).map (Tv.named nm)).flatten) (by have := HN.out; omega) (tmRep.keep hkr (fun k hk => heap_old (HSR.out k hk) (HKS.out k hk)) (fun _ h => h)) HS.out hbt (by simp; omega) hnb hlb hnt hlt (heap_old (by omega) HBNP.out) hnms (heap_old f0l HBLP.out) (heap_old hq'_l HQP.out) (HOWNP.out.below ((Below.refl _ wr).alloc (Nat.le_refl _) _) HSR.out) (by rw [List.length_append]; omega))
        clear hkr hkc hk hkj hnj
        have HIH := Lib.hid hih
        clear hih
        go_wp2_with fail
        (with_reducible refine (HIH.out _).out.mono ?_)
        rintro e w2 ⟨q2, rfl, h1, h2, h3⟩
        have H1 := Lib.hid h1
        have H2 := Lib.hid h2
        have H3 := Lib.hid h3
        clear h1 h2 h3
        go_wp2_with fail
        go_roundg (v.kids.length - (j + 1))
        case measure => omega
        case rel =>
          exact ⟨j + 1, q2, by omega, by go_num, H1.out, by rw [Tv.named_take hjl, ← List.append_assoc]; exact H2.out, (HCOL.out.alloc _).trans H3.out⟩
      · go_wp2_with fail
        have hjk : j = v.kids.length := by omega
        go_returns
        have h2 := HOWNP.out
        rw [hjk, List.take_length] at h2
        exact ⟨q', rfl, HQP.out, h2, HCOL.out⟩

end Go.Proofs.YthflahcnkhmpaabDoor
