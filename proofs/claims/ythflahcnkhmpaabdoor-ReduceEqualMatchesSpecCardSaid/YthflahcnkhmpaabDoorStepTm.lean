/-
  reduce.step: the walk: the leftmost outermost redex is contracted.
-/
import Derived.Test.YthflahcnkhmpaabDoorProg
import Derived.Test.YthflahcnkhmpaabDoorPut
import Derived.Test.YthflahcnkhmpaabDoorRowSet
import Derived.Deep.DeepCutAuto
namespace Go.Proofs.YthflahcnkhmpaabDoor
open Go Go.RowKit
set_option linter.unusedSimpArgs false
set_option linter.unusedVariables false

def Tv.isRedex : Tv → Bool
  | .app (.abs _ _) _ => true
  | _ => false
theorem Tv.step_kids_none (v : Tv) (h : v.isRedex = false) (hk : ∀ j (hj : j < v.kids.length), v.kids[j].step = none) : v.step = none := by
  cases v with
  | con _ _ => rfl
  | var _ => rfl
  | abs s b =>
    have := hk 0 (by simp [Tv.kids])
    simp only [Tv.kids, List.getElem_cons_zero] at this
    simp [Tv.step, this]
  | app f x =>
    have h0 := hk 0 (by simp [Tv.kids])
    have h1 := hk 1 (by simp [Tv.kids])
    simp only [Tv.kids, List.getElem_cons_zero, List.getElem_cons_succ] at h0 h1
    rcases Tv.step_app f x with ⟨s, b, rfl, _⟩ | ⟨_, ⟨f', e, _⟩ | ⟨_, e⟩⟩
    · simp [Tv.isRedex] at h
    · rw [h0] at e; simp at e
    · rw [e, h1]; rfl
theorem Tv.step_kids_some (v : Tv) (h : v.isRedex = false) (j : Nat) (hj : j < v.kids.length) (hk : ∀ i (hi : i < v.kids.length), i < j → v.kids[i].step = none) (y : Tv) (hy : v.kids[j].step = some y) :
    ∃ u, v.step = some u ∧ u.tm = .mk v.lab ((v.kids.set j y).map Tv.tm) := by
  match v, j, hj with
  | .abs s b, 0, _ =>
    simp only [Tv.kids, List.getElem_cons_zero] at hy
    exact ⟨.abs s y, by simp [Tv.step, hy], rfl⟩
  | .app f x, 0, _ =>
    simp only [Tv.kids, List.getElem_cons_zero] at hy
    rcases Tv.step_app f x with ⟨s, b, rfl, _⟩ | ⟨_, ⟨f', e1, e⟩ | ⟨e1, _⟩⟩
    · simp [Tv.isRedex] at h
    · rw [hy] at e1; obtain rfl := Option.some.inj e1
      exact ⟨_, e, rfl⟩
    · rw [hy] at e1; simp at e1
  | .app f x, 1, _ =>
    simp only [Tv.kids, List.getElem_cons_succ, List.getElem_cons_zero] at hy
    have h0 := hk 0 (by simp [Tv.kids]) (by omega)
    simp only [Tv.kids, List.getElem_cons_zero] at h0
    rcases Tv.step_app f x with ⟨s, b, rfl, _⟩ | ⟨_, ⟨f', e1, e⟩ | ⟨e1, e⟩⟩
    · simp [Tv.isRedex] at h
    · rw [h0] at e1; simp at e1
    · exact ⟨.app f y, by rw [e, hy]; rfl, rfl⟩
theorem Tv.redex (v : Tv) (h : v.isRedex = true) : ∃ s b x, v = .app (.abs s b) x := by
  cases v with
  | app f x => cases f with
    | abs s b => exact ⟨s, b, x, rfl⟩
    | _ => simp [Tv.isRedex] at h
  | _ => simp [Tv.isRedex] at h
/-- No redex: no application, or its function is no abstraction. -/
theorem Tv.no_redex (v : Tv) (h : v.isRedex = false) : (v.lab.kind == 4) = false ∨ ((v.lab.kind == 4) = true ∧ ∃ f x, v.kids = [f, x] ∧ (f.lab.kind == 3) = false) := by
  cases v with
  | app f x =>
    refine Or.inr ⟨rfl, f, x, rfl, ?_⟩
    cases f with
    | abs s b => simp [Tv.isRedex] at h
    | _ => rfl
  | _ => exact Or.inl rfl

theorem Tm.kidAt {w : World} {S : Nat → Prop} {l : List Tm} {A : Option Addr} {n c k : Nat} {t : Tm} (h : tmRep.Sl w S (.slice A n c) l) (hk : l[k]? = some t) :
    ∃ b o cs, A = some ⟨b, o, none⟩ ∧ S b ∧ tmRep.R w S t cs ∧ ∀ j u, cs[j]? = some u → w.cell? ⟨b, o + k * 6 + j, none⟩ = some u := Rep.Sl.at_ h hk

/-- What step returns. -/
def StepAt (v : Tv) (w : World) (S : Nat → Prop) (e : Ending) (w' : World) : Prop :=
  ∃ ds : List Value, e = .returned (.tuple #[.agg ds.toArray, .bool v.step.isSome]) ∧ tmRep.R w' (Ex S w w') (v.step.getD v).tm ds ∧ Below w.heap.size w w'

set_option maxRecDepth 100000 in
set_option maxHeartbeats 4000000 in
theorem step_redex (v : Tv) (bd : Nat) (cs : List Value) (w : World) (S : Nat → Prop) (hv : v.isRedex = true) (hok : v.ok bd) (hbn : bd + v.nodes ≤ 1000000000000) (h : tmRep.R w S v.tm cs) (hS : ∀ b, S b → b < w.heap.size) :
    Calls Tryd.prog 32 #[.agg cs.toArray] w (StepAt v w S) := by
  obtain ⟨s, b, x, rfl⟩ := v.redex hv
  obtain ⟨u0, u1, vs, rfl, hnm, hty, hl⟩ := Tm.open_ h
  obtain ⟨sa, Aa, na, ca, rfl, rfl⟩ := hty.shape
  have HR := Lib.hid h
  obtain ⟨A, n, cp, rfl, hln, hm, hA⟩ := hl
  simp only [List.length_cons, List.length_nil] at hln
  subst hln
  obtain ⟨bb, oo, kc1, rfl, hSb, hkr1, hkc1⟩ := Tm.kidAt (l := [(Tv.abs s b).tm, x.tm]) (c := cp) (k := 0) ⟨_, _, _, rfl, rfl, hm, hA⟩ rfl
  obtain ⟨bb', oo', kc2, hbo, _, hkr2, hkc2⟩ := Tm.kidAt (l := [(Tv.abs s b).tm, x.tm]) (c := cp) (k := 1) ⟨_, _, _, rfl, rfl, hm, hA⟩ rfl
  obtain ⟨rfl, rfl⟩ : bb = bb' ∧ oo = oo' := by simpa using hbo
  obtain ⟨w0, w1', vs1, rfl, _, hty1, hl1⟩ := Tm.open_ hkr1
  obtain ⟨sc, Ac, nc, cc, rfl, rfl⟩ := hty1.shape
  obtain ⟨A1, n1, cp1, rfl, hln1, hm1, hA1⟩ := hl1
  simp only [List.length_cons, List.length_nil] at hln1
  subst hln1
  obtain ⟨bk, ok', kc3, rfl, hSk, hkr3, hkc3⟩ := Tm.kidAt (l := [b.tm]) (c := cp1) (k := 0) ⟨_, _, _, rfl, rfl, hm1, hA1⟩ rfl
  obtain ⟨s2, A2, n2, c2, B2, m2, d2, rfl, _, _⟩ := Tm.shape hkr2
  obtain ⟨s3, A3, n3, c3, B3, m3, d3, rfl, _, _⟩ := Tm.shape hkr3
  have hk := fun (o p : Obj) (k : Nat) (hk : S k) => (show ((w.alloc o).alloc p).heap[k]? = w.heap[k]? from heap_old (by have := hS k hk; simp; omega) (heap_old (hS k hk) rfl))
  have f0 := hkc1 0 _ rfl
  rw [show oo + 0 * 6 + 0 = oo by omega] at f0
  have f5 := hkc1 5 _ rfl
  rw [show oo + 0 * 6 + 5 = oo + 5 by omega] at f5
  have e0 := hkc2 0 _ rfl
  rw [show oo + 1 * 6 + 0 = oo + 6 by omega] at e0
  have e1 := hkc2 1 _ rfl
  rw [show oo + 1 * 6 + 1 = oo + 6 + 1 by omega] at e1
  have e2 := hkc2 2 _ rfl
  rw [show oo + 1 * 6 + 2 = oo + 6 + 2 by omega] at e2
  have e3 := hkc2 3 _ rfl
  rw [show oo + 1 * 6 + 3 = oo + 6 + 3 by omega] at e3
  have e4 := hkc2 4 _ rfl
  rw [show oo + 1 * 6 + 4 = oo + 6 + 4 by omega] at e4
  have e5 := hkc2 5 _ rfl
  rw [show oo + 1 * 6 + 5 = oo + 6 + 5 by omega] at e5
  have d0 := hkc3 0 _ rfl
  rw [show ok' + 0 * 6 + 0 = ok' by omega] at d0
  have d1' := hkc3 1 _ rfl
  rw [show ok' + 0 * 6 + 1 = ok' + 1 by omega] at d1'
  have d2' := hkc3 2 _ rfl
  rw [show ok' + 0 * 6 + 2 = ok' + 2 by omega] at d2'
  have d3' := hkc3 3 _ rfl
  rw [show ok' + 0 * 6 + 3 = ok' + 3 by omega] at d3'
  have d4' := hkc3 4 _ rfl
  rw [show ok' + 0 * 6 + 4 = ok' + 4 by omega] at d4'
  have d5' := hkc3 5 _ rfl
  rw [show ok' + 0 * 6 + 5 = ok' + 5 by omega] at d5'
  have lb := hS _ hSb
  have lk := hS _ hSk
  have lb1 : bb < w.heap.size + 1 := by omega
  have lk1 : bk < w.heap.size + 1 := by omega
  simp only [Tv.nodes] at hbn
  have hput := fun (o p : Obj) => Lib.hid (put_any b.nodes b x 0 (bd + 1) bd [.int .i64 b.tm.lab.kind, .string b.tm.lab.nm, .int .i64 b.tm.lab.ix, .string s3, .slice A3 n3 c3, .slice B3 m3 d3] [.int .i64 x.tm.lab.kind, .string x.tm.lab.nm, .int .i64 x.tm.lab.ix, .string s2, .slice A2 n2 c2, .slice B2 m2 d2] ((w.alloc o).alloc p).drew S (Nat.le_refl _) hok.1.2 hok.2 (by omega) (by omega) (tmRep.keep hkr3 (hk o p) (fun _ h => h)) (tmRep.keep hkr2 (hk o p) (fun _ h => h)) (fun k hk => by have := hS k hk; simp; omega))
  simp only [Int.cast_ofNat_Int] at hput
  have hst : (Tv.app (.abs s b) x).step = some (b.put x 0) := rfl
  clear h hnm hty1 hkc1 hkc2 hkc3 hkr1 hkr2 hkr3 hA hA1 hm hm1 hok hv
  have HS := Lib.hid hS
  have HTY := Lib.hid hty
  have HPUT := Lib.hid hput
  have HK := Lib.hid hk
  have HST := Lib.hid hst
  clear hS hty hput hk hst
  go_enter Tryd.func32, Tryd.ntmps32
  go_wp2_with fail
  go_region_law (refine step_call (by rfl) 62 _ (by go_simp) (HPUT.out _ _).out ?_; rintro e w2 ⟨ds, rfl, hu, hw2⟩; refine ⟨_, rfl, ?_⟩; obtain ⟨s4, A4, n4, c4, B4, m4, d4, rfl, _, _⟩ := Tm.shape hu; have z2 : w.heap.size + 2 ≤ w2.heap.size := (by have := hw2.size; simpa using this); have hr := (hw2.block (w.heap.size + 1) (by simp)).trans (heap_drew (heap_at (by simp))); have hr_0 := cv0 hr; have hr_1 := cv1 hr; have hr_2 := cv2 hr; have hr_3 := cv3 hr; have hr_4 := cv4 hr; have hr_5 := cv5 hr; have hr_f0 := free_heap hr 0; have hr_f1 := free_heap hr 1; have hr_f2 := free_heap hr 2; have hr_f3 := free_heap hr 3; have hr_f4 := free_heap hr 4; have hr_f5 := free_heap hr 5; have hr_l := lt_heap hr; have HRR := Lib.hid hr; have HU := Lib.hid hu; have HW2 := Lib.hid hw2; clear hr hu hw2)
  all_goals
    refine gen_last (fun wx => Below w.heap.size w wx ∧ wx.heap[w.heap.size + 1]? = some (.cells #[.int .i64 (b.put x 0).tm.lab.kind, .string (b.put x 0).tm.lab.nm, .int .i64 (b.put x 0).tm.lab.ix, .string s4, .slice A4 n4 c4, .slice B4 m4 d4] 27 (0, 0)) ∧ tmRep.R wx (Ex S w wx) (b.put x 0).tm [.int .i64 (b.put x 0).tm.lab.kind, .string (b.put x 0).tm.lab.nm, .int .i64 (b.put x 0).tm.lab.ix, .string s4, .slice A4 n4 c4, .slice B4 m4 d4]) ?_ ?_
    · refine ⟨?_, ?_, ?_⟩
      · exact below6 (((((Below.refl _ w).alloc (Nat.le_refl _) _).alloc (by simp) _).drew).trans (HW2.out.mono (by simp; omega))) (by omega)
      · exact at6 HRR.out
      · refine tmRep.keep HU.out (fun k hk => far6 ?_ rfl) (fun k hk => ?_)
        · rcases hk with hk | hk
          · have := HS.out k hk; omega
          · have := hk.1; simp at this; omega
        · exact hk.imp_right (fun h => ⟨by have := h.1; simp at this; omega, lt6 h.2⟩)
    rintro wx ⟨hb, k0, hu⟩
    have hfin : StepAt (.app (.abs s b) x) w S (.returned (.tuple #[.agg ([.int .i64 (b.put x 0).tm.lab.kind, .string (b.put x 0).tm.lab.nm, .int .i64 (b.put x 0).tm.lab.ix, .string s4, .slice A4 n4 c4, .slice B4 m4 d4]).toArray, .bool true])) wx := by
      unfold StepAt
      rw [HST.out]
      exact ⟨_, rfl, hu, hb⟩
    clear hr_0 hr_1 hr_2 hr_3 hr_4 hr_5 hr_f0 hr_f1 hr_f2 hr_f3 hr_f4 hr_f5 hr_l
    have HB := Lib.hid hb
    have HU := Lib.hid hu
    have HFIN := Lib.hid hfin
    clear hb hu hfin
    have k0_0 := cv0 k0
    have k0_1 := cv1 k0
    have k0_2 := cv2 k0
    have k0_3 := cv3 k0
    have k0_4 := cv4 k0
    have k0_5 := cv5 k0
    have k0_l := lt_heap k0
    have K0 := Lib.hid k0
    clear k0
    go_wp2_with fail
    refine bodyPost_ret (v := .tuple #[.agg #[.int .i64 (b.put x 0).tm.lab.kind, .string (b.put x 0).tm.lab.nm, .int .i64 (b.put x 0).tm.lab.ix, .string s4, .slice A4 n4 c4, .slice B4 m4 d4], .bool true]) (by simp [results, Tryd.results32, go_sem, k0_0, k0_1, k0_2, k0_3, k0_4, k0_5, k0_l]) rfl ?_
    exact HFIN.out


set_option maxRecDepth 100000 in
set_option maxHeartbeats 4000000 in
theorem step_any : ∀ (N : Nat) (v : Tv) (bd : Nat) (cs : List Value) (w : World) (S : Nat → Prop), v.nodes ≤ N → v.ok bd → bd + v.nodes ≤ 1000000000000 → tmRep.R w S v.tm cs → (∀ b, S b → b < w.heap.size) →
    Calls Tryd.prog 32 #[.agg cs.toArray] w (StepAt v w S) := by
  intro N
  induction N with
  | zero => intro v; have := v.nodes_pos; intros; omega
  | succ N ih =>
  intro v bd cs w S hN hok hbn h hS
  have IH := Lib.hid ih
  clear ih
  by_cases hv : v.isRedex = true
  · exact step_redex v bd cs w S hv hok hbn h hS
  rw [Bool.not_eq_true] at hv
  have HRV := Lib.hid h
  rw [Tv.tm_eq] at h
  obtain ⟨u0, u1, vs, rfl, hnm, hty, hl⟩ := Tm.open_ h
  obtain ⟨sa, Aa, na, ca, rfl, rfl⟩ := hty.shape
  have HL := Lib.hid hl
  have hkl := v.kids_len
  have hno := v.no_redex hv
  obtain ⟨A, m, c, rfl, hln, hm, _⟩ := hl
  rw [List.length_map] at hln
  subst hln
  have HOK := Lib.hid hok
  have HNM := Lib.hid hnm
  have hmb := v.more_le bd
  have HKN : Hid (∀ j (hj : j < v.kids.length), v.kids[j].nodes < v.nodes) := Lib.hid v.kids_nodes
  have HNONE : Hid _ := Lib.hid (Tv.step_kids_none v hv)
  have HSOME : Hid _ := Lib.hid (Tv.step_kids_some v hv)
  have HLAB := Lib.hid (rfl : v.lab = v.lab)
  generalize hlab : v.lab = lab at h hty hno hnm HNM HSOME HRV
  obtain ⟨kd, nm, ix, ty⟩ := lab
  simp only at hty hno
  clear h hnm hok hm HLAB hlab
  obtain ⟨i0, hi0, hz0, hz1, hz2⟩ := info_parts infoTerm
  have HS := Lib.hid hS
  have HN := Lib.hid hN
  have HTY := Lib.hid hty
  have HV := Lib.hid hv
  clear hS hN hty hv
  go_enter Tryd.func32, Tryd.ntmps32
  go_upto_region 1 with (fail)
  go_cut [19] (fun s19 wx => s19 = .bool false ∧ wx = (w.alloc (.cells #[.int .i64 kd, .string nm, .int .i64 ix, .string sa, .slice Aa na ca, .slice A v.kids.length c] 27)).alloc (.cells #[.int .i64 0, .string ⟨#[]⟩, .int .i64 0, .string ⟨#[]⟩, .slice none 0 0, .slice none 0 0] 27))
  case first =>
    rcases hno with hk4 | ⟨hk4, f, x, hkids, hk3⟩
    · go_wp2_with fail
      go_meet
      exact ⟨rfl, rfl⟩
    · obtain ⟨b, o, kc, rfl, hSb, hkr, hkc⟩ := Rep.Sl.at_ HL.out (k := 0) (a := f.tm) (by rw [hkids]; rfl)
      obtain ⟨s1, A1, n1, c1, B1, m1, d1, rfl, _, _⟩ := Tm.shape hkr
      have e0 := hkc 0 _ rfl
      rw [show o + 0 * tmRep.size + 0 = o by omega, show f.tm.lab = f.lab by rw [Tv.tm_eq]; rfl] at e0
      have lb := HS.out _ hSb
      have lb1 : b < w.heap.size + 1 := by omega
      have q0 : (0 : Int) < (v.kids.length : Int) := by rw [hkids]; simp
      clear hkr hkc hkids
      go_wp2_with fail
      go_meet
      exact ⟨rfl, rfl⟩
  case rest =>
  obtain ⟨rfl, rfl⟩ := hcut
  clear hno
  go_wp2_with fail
  go_loopg [35] v.kids.length (fun g vi wr => ∃ (j : Nat), j + g = v.kids.length ∧ vi = .int .i64 j ∧ (∀ i (hi : i < v.kids.length), i < j → v.kids[i].step = none) ∧ wr.heap[w.heap.size]? = some (.cells #[.int .i64 kd, .string nm, .int .i64 ix, .string sa, .slice Aa na ca, .slice A v.kids.length c] 27 (0, 0)) ∧
    wr.heap[w.heap.size + 1]? = some (.cells #[.int .i64 0, .string ⟨#[]⟩, .int .i64 0, .string ⟨#[]⟩, .slice none 0 0, .slice none 0 0] 27 (0, 0)) ∧ Below w.heap.size w wr ∧ w.heap.size + 2 ≤ wr.heap.size)
  case atStart => exact ⟨0, by omega, rfl, fun i hi h => absurd h (by omega), heap_old (by simp) (heap_at rfl), heap_at (by simp), by go_grown, by simp⟩
  case round =>
    obtain ⟨j, hj, rfl, hpre, ht, hr, hb, hw1s⟩ := hrel
    have HB := Lib.hid hb
    have HPRE := Lib.hid hpre
    clear hb hpre
    have ht_0 := cv0 ht
    have ht_1 := cv1 ht
    have ht_2 := cv2 ht
    have ht_3 := cv3 ht
    have ht_4 := cv4 ht
    have ht_5 := cv5 ht
    have ht_l := lt_heap ht
    have HT := Lib.hid ht
    clear ht
    have hr_0 := cv0 hr
    have hr_1 := cv1 hr
    have hr_2 := cv2 hr
    have hr_3 := cv3 hr
    have hr_4 := cv4 hr
    have hr_5 := cv5 hr
    have hr_f0 := free_heap hr 0
    have hr_f1 := free_heap hr 1
    have hr_f2 := free_heap hr 2
    have hr_f3 := free_heap hr 3
    have hr_f4 := free_heap hr 4
    have hr_f5 := free_heap hr 5
    have hr_l := lt_heap hr
    have HR := Lib.hid hr
    clear hr
    by_cases hjl : j < v.kids.length
    case neg =>
      have hst : v.step = none := HNONE.out (fun i hi => HPRE.out i hi (by omega))
      have HST := Lib.hid hst
      clear hst
      go_wp2_with fail
      refine bodyPost_ret (v := .tuple #[.agg #[.int .i64 kd, .string nm, .int .i64 ix, .string sa, .slice Aa na ca, .slice A v.kids.length c], .bool false]) (by simp [results, Tryd.results32, go_sem, hr_0, hr_1, hr_2, hr_3, hr_4, hr_5, hr_l]) rfl ?_
      unfold StepAt
      rw [HST.out]
      exact ⟨_, rfl, tmRep.keep HRV.out (fun k hk => far6 (by have := HS.out k hk; omega) (HB.out.block k (HS.out k hk))) (fun k hk => Or.inl hk), below6 HB.out (by omega)⟩
    obtain ⟨b, o, kc, rfl, hSb, hkr, hkc⟩ := Rep.Sl.at_ HL.out (k := j) (a := v.kids[j].tm) (by simp [hjl])
    obtain ⟨s1, A1, n1, c1, B1, m1, d1, rfl, _, _⟩ := Tm.shape hkr
    have hbs := HS.out _ hSb
    have hk := HB.out.block b hbs
    have e0 : wr.cell? ⟨b, o + j * 6, none⟩ = _ := (cell_keep hk _).trans (hkc 0 _ rfl)
    have e1 : wr.cell? ⟨b, o + j * 6 + 1, none⟩ = _ := (cell_keep hk _).trans (hkc 1 _ rfl)
    have e2 : wr.cell? ⟨b, o + j * 6 + 2, none⟩ = _ := (cell_keep hk _).trans (hkc 2 _ rfl)
    have e3 : wr.cell? ⟨b, o + j * 6 + 3, none⟩ = _ := (cell_keep hk _).trans (hkc 3 _ rfl)
    have e4 : wr.cell? ⟨b, o + j * 6 + 4, none⟩ = _ := (cell_keep hk _).trans (hkc 4 _ rfl)
    have e5 : wr.cell? ⟨b, o + j * 6 + 5, none⟩ = _ := (cell_keep hk _).trans (hkc 5 _ rfl)
    have hX := (tmRep.keep hkr (fun k hk => HB.out.block k (HS.out k hk)) (fun _ h => h))
    have zb : b < wr.heap.size := by have := HB.out.size; omega
    have q0 : (0 : Int) ≤ (j : Int) := by omega
    have q1 : (j : Int) < (v.kids.length : Int) := by omega
    have hSw : ∀ k, S k → k < wr.heap.size := fun k hk => by have := HS.out k hk; have := HB.out.size; omega
    have hkn := HKN.out j hjl
    have hih := fun (o : Obj) => Lib.hid (IH.out v.kids[j] (v.more bd) [.int .i64 v.kids[j].tm.lab.kind, .string v.kids[j].tm.lab.nm, .int .i64 v.kids[j].tm.lab.ix, .string s1, .slice A1 n1 c1, .slice B1 m1 d1] (wr.alloc o) S (by have := HN.out; omega) (v.ok_kids bd j HOK.out hjl) (by omega) (tmRep.keep hX (fun k hk => heap_old (hSw k hk) rfl) (fun _ h => h)) (fun k hk => by have := hSw k hk; simp; omega))
    clear hkr hkc hk
    have HX := Lib.hid hX
    have HSW := Lib.hid hSw
    have HIH := Lib.hid hih
    clear hX hSw hih
    go_wp2_with fail
    (with_reducible refine (HIH.out _).out.mono ?_)
    unfold StepAt
    rintro e w2 ⟨ds, rfl, hu, hw2⟩
    obtain ⟨s2, A2, n2, c2, B2, m2, d2, rfl, _, _⟩ := Tm.shape hu
    have z2 : wr.heap.size + 1 ≤ w2.heap.size := by have := hw2.size; simpa using this
    have hw2k : ∀ k, k < wr.heap.size → w2.heap[k]? = wr.heap[k]? := (fun k hk => (hw2.block k (by simp; omega)).trans (heap_old hk rfl))
    have ht := (hw2k _ ht_l).trans HT.out
    have hr := (hw2k _ hr_l).trans HR.out
    have hb2 : Below w.heap.size w w2 := (HB.out.alloc (by omega) _).trans (hw2.mono (by simp; omega))
    clear ht_0 ht_1 ht_2 ht_3 ht_4 ht_5 ht_l hr_0 hr_1 hr_2 hr_3 hr_4 hr_5 hr_f0 hr_f1 hr_f2 hr_f3 hr_f4 hr_f5 hr_l e0 e1 e2 e3 e4 e5
    have HU := Lib.hid hu
    have HW2 := Lib.hid hw2
    have HW2K := Lib.hid hw2k
    have HB2 := Lib.hid hb2
    clear hu hw2 hw2k hb2
    have ht_0 := cv0 ht
    have ht_1 := cv1 ht
    have ht_2 := cv2 ht
    have ht_3 := cv3 ht
    have ht_4 := cv4 ht
    have ht_5 := cv5 ht
    have ht_l := lt_heap ht
    have HT := Lib.hid ht
    clear ht
    have hr_0 := cv0 hr
    have hr_1 := cv1 hr
    have hr_2 := cv2 hr
    have hr_3 := cv3 hr
    have hr_4 := cv4 hr
    have hr_5 := cv5 hr
    have hr_f0 := free_heap hr 0
    have hr_f1 := free_heap hr 1
    have hr_f2 := free_heap hr 2
    have hr_f3 := free_heap hr 3
    have hr_f4 := free_heap hr 4
    have hr_f5 := free_heap hr 5
    have hr_l := lt_heap hr
    have HR := Lib.hid hr
    clear hr
    cases hst : v.kids[j].step with
    | none =>
      have HST := Lib.hid hst
      clear hst
      simp only [HST.out, Option.isSome_none]
      go_wp2_with fail
      go_roundg (v.kids.length - (j + 1))
      case measure => omega
      case rel =>
        refine ⟨j + 1, by omega, by go_num, fun i hi h => ?_, heap_old ht_l HT.out, heap_old hr_l HR.out, HB2.out.alloc (by omega) _, by simp; omega⟩
        rcases Nat.lt_or_ge i j with h' | h'
        · exact HPRE.out i hi h'
        · obtain rfl : i = j := by omega
          exact HST.out
    | some y =>
      obtain ⟨u, hvs, hut⟩ := HSOME.out j hjl HPRE.out y hst
      rw [hst] at HU
      have HST := Lib.hid hst
      have HVS := Lib.hid hvs
      have HUT := Lib.hid hut
      clear hst hvs hut
      simp only [HST.out, Option.isSome_some, Option.getD_some]
      simp only [Option.getD_some] at HU
      obtain ⟨A', n', c', eq, hln', hm', hA'⟩ := HL.out
      injection eq with eq1 eq2 eq3
      subst eq2 eq3
      obtain ⟨b', o', xs, eA, hSb', hall, hcells⟩ := hA' (by omega)
      rw [eA] at eq1
      obtain ⟨rfl, rfl⟩ : b = b' ∧ o = o' := by simpa using eq1
      clear eq1 eA hA' hm' hln'
      have hxl : xs.length = v.kids.length * 6 := by rw [hall.len, List.length_map]; rfl
      have hbw : b < w2.heap.size := by have := HW2.out.size; simp at this; omega
      have hSw2 : ∀ k, S k → k < w2.heap.size := fun k hk => by have := HSW.out k hk; omega
      have hkS : ∀ k, S k → w2.heap[k]? = w.heap[k]? := fun k hk => (HW2K.out k (HSW.out k hk)).trans (HB.out.block k (HS.out k hk))
      have HONE : Hid (∀ u ∈ xs, u.oneCell' = true) := Lib.hid hall.one
      have HALL := Lib.hid hall
      have HCELLS := Lib.hid hcells
      have HXL := Lib.hid hxl
      have HKS := Lib.hid hkS
      have HSW2 := Lib.hid hSw2
      clear hall hcells hxl hkS hSw2
      have l1 : w.heap.size < w2.heap.size + 1 := by omega
      have l2 : w.heap.size < w2.heap.size + 1 + 1 := by omega
      have l3 : w.heap.size < w2.heap.size + 1 + 1 + 1 := by omega
      go_upto_region 9 with (fail)
      go_cut [] (fun wx => ∃ gg cap : Nat, wx.heap[w2.heap.size + 1]? = some (.cells #[.int .i64 kd, .string nm, .int .i64 ix, .string sa, .slice Aa na ca, .slice (some ⟨gg, 0, none⟩) v.kids.length cap] 27 (0, 0)) ∧ wx.heap[w2.heap.size]? = some (.cells #[.int .i64 y.tm.lab.kind, .string y.tm.lab.nm, .int .i64 y.tm.lab.ix, .string s2, .slice A2 n2 c2, .slice B2 m2 d2] 27 (0, 0)) ∧
        wx.heap[w.heap.size + 1]? = some (.cells #[.int .i64 0, .string ⟨#[]⟩, .int .i64 0, .string ⟨#[]⟩, .slice none 0 0, .slice none 0 0] 27 (0, 0)) ∧ wx.ownsRow (w2.heap.size + 2) 27 6 (.slice (some ⟨gg, 0, none⟩) v.kids.length cap) v.kids.length xs ∧ w2.heap.size + 2 ≤ gg ∧ gg < wx.heap.size ∧ v.kids.length ≤ cap ∧ Below w2.heap.size w2 wx ∧ w2.heap.size + 2 ≤ wx.heap.size)
      case first =>
        go_wp2_with (at_builtin; refine wpList_append_lies _ ?h1 (.tmp 47) (.tmp 49) 25 ?h2 (w2.heap.size + 2) 27 i0 _ 6 96 ?h3 hi0 hz0 hz1 hz2 ?h4 ?h5 (.slice (some ⟨w2.heap.size + 1 + 1, 0, none⟩) 0 0) 0 [] ?h6 ?h7 ⟨b, o, none⟩ v.kids.length c xs ?h8 ?h9 ?h10 ?h11 ?h12 ?h13 ?h14 ?h15 (w2.heap.size + 3) ?h16 ?_)
        case h1 => rfl
        case h2 => rfl
        case h3 => exact Tryd.underlying25
        case h4 => rfl
        case h5 => omega
        case h6 => rfl
        case h7 => exact ownsRow_empty (by simp) (by simp)
        case h8 => rfl
        case h9 => exact HXL.out
        case h10 =>
          intro j u hj
          have := HCELLS.out j u hj
          rw [addr_none]
          refine (cell_keep (heap_old (by simp; omega) (heap_old (by simp; omega) (heap_old hbw (HKS.out b hSb)))) _).trans this
        case h11 => exact HONE.out
        case h12 => omega
        case h13 => unfold maxLen; omega
        case h14 => omega
        case h15 => simp
        case h16 => simp
        intro gg cap w3 hown3 hgrow hat hlt
        have z3 : w2.heap.size + 3 ≤ w3.heap.size := by have := hgrow.size; simpa using this
        have hbel : Below w2.heap.size w2 w3 := ((((Below.refl _ w2).alloc (Nat.le_refl _) _).alloc (by simp) _).alloc (by simp <;> omega) _).grown hgrow (by simp <;> omega) (fun k hk => by simp [Value.ownBlock] at hk; omega)
        have HBEL := Lib.hid hbel
        clear hbel
        have hgA : ∀ k, k < w2.heap.size + 2 → w3.heap[k]? = _ := fun k hk => hgrow.block k (by simp; omega) (by simp [Value.ownBlock]; omega)
        have h8 := (hgA (w2.heap.size + 1) (by omega)).trans (heap_old (by simp <;> omega) (heap_at (by simp)))
        have h6 := (hgA w2.heap.size (by omega)).trans (heap_old (by simp <;> omega) (heap_old (by simp) (heap_at rfl)))
        have hlow : ∀ k, k < w2.heap.size → w3.heap[k]? = w2.heap[k]? := fun k hk => (hgA k (by omega)).trans (heap_old (by simp; omega) (heap_old (by simp; omega) (heap_old hk rfl)))
        have hgg : w2.heap.size + 2 ≤ gg := by
          rcases hat with h | h
          · simp [Value.ownBlock] at h; omega
          · omega
        have HGA := Lib.hid hgA
        have HOWN3 := Lib.hid hown3
        have HGROW := Lib.hid hgrow
        have HAT := Lib.hid hat
        have HLOW := Lib.hid hlow
        clear hgA hown3 hgrow hat hlow
        have h8_0 := cv0 h8
        have h8_1 := cv1 h8
        have h8_2 := cv2 h8
        have h8_3 := cv3 h8
        have h8_4 := cv4 h8
        have h8_5 := cv5 h8
        have h8_f0 := free_heap h8 0
        have h8_f1 := free_heap h8 1
        have h8_f2 := free_heap h8 2
        have h8_f3 := free_heap h8 3
        have h8_f4 := free_heap h8 4
        have h8_f5 := free_heap h8 5
        have h8_l := lt_heap h8
        have H8 := Lib.hid h8
        clear h8
        have h6_0 := cv0 h6
        have h6_1 := cv1 h6
        have h6_2 := cv2 h6
        have h6_3 := cv3 h6
        have h6_4 := cv4 h6
        have h6_5 := cv5 h6
        have h6_l := lt_heap h6
        have H6 := Lib.hid h6
        clear h6
        go_wp2_with fail
        go_meet
        refine ⟨gg, cap, heap_set H8.out 5 _, heap_far _ (by omega) H6.out, heap_far _ (by omega) ((HLOW.out _ (by omega)).trans HR.out), ownsRow_far HOWN3.out (fun k hk => heap_far _ (by simp [Value.ownBlock] at hk; omega) rfl), hgg, by rw [size_set]; exact hlt, ownsRow_cap HOWN3.out, HBEL.out.setCell (by show w2.heap.size ≤ w2.heap.size + 1; omega) _, by rw [size_set]; omega⟩
      case rest =>
        obtain ⟨gg, cap, h8, h6, hr', hown, hgg, hgl, hcap, hbx, zx⟩ := hcut
        rename World => wx
        have hlow := fun (k : Nat) (hk : k < w2.heap.size) => hbx.block k hk
        have HBX := Lib.hid hbx
        clear hbx
        have ho : ∀ k, k < 6 → ∃ u, wx.cell? ⟨gg, j * 6 + k, none⟩ = some u := fun k hk => ⟨_, (hown.cellAt (j * 6 + k) (by omega)).trans (List.getElem?_eq_getElem (by have := HXL.out; omega))⟩
        obtain ⟨o0, g0⟩ := ho 0 (by omega)
        obtain ⟨o1, g1⟩ := ho 1 (by omega)
        obtain ⟨o2, g2⟩ := ho 2 (by omega)
        obtain ⟨o3, g3⟩ := ho 3 (by omega)
        obtain ⟨o4, g4⟩ := ho 4 (by omega)
        obtain ⟨o5, g5⟩ := ho 5 (by omega)
        have gf0 := hown.frozenAt (j * 6)
        have gf1 := hown.frozenAt (j * 6 + 1)
        have gf2 := hown.frozenAt (j * 6 + 2)
        have gf3 := hown.frozenAt (j * 6 + 3)
        have gf4 := hown.frozenAt (j * 6 + 4)
        have gf5 := hown.frozenAt (j * 6 + 5)
        rw [Nat.add_zero] at g0
        clear ht_0 ht_1 ht_2 ht_3 ht_4 ht_5 ht_l hr_0 hr_1 hr_2 hr_3 hr_4 hr_5 hr_f0 hr_f1 hr_f2 hr_f3 hr_f4 hr_f5 hr_l ho
        have HOWN := Lib.hid hown
        have HLOW := Lib.hid hlow
        have HRP := Lib.hid hr'
        clear hown hlow hr'
        have h8_0 := cv0 h8
        have h8_1 := cv1 h8
        have h8_2 := cv2 h8
        have h8_3 := cv3 h8
        have h8_4 := cv4 h8
        have h8_5 := cv5 h8
        have h8_l := lt_heap h8
        have H8 := Lib.hid h8
        clear h8
        have h6_0 := cv0 h6
        have h6_1 := cv1 h6
        have h6_2 := cv2 h6
        have h6_3 := cv3 h6
        have h6_4 := cv4 h6
        have h6_5 := cv5 h6
        have h6_l := lt_heap h6
        have H6 := Lib.hid h6
        clear h6
        have q2 : (j : Int) < (cap : Int) := by omega
        go_upto_region 10 with (fail)
        go_cut [] (fun wy => ∃ ys : List Value, wy.heap[w2.heap.size + 1]? = some (.cells #[.int .i64 kd, .string nm, .int .i64 ix, .string sa, .slice Aa na ca, .slice (some ⟨gg, 0, none⟩) v.kids.length cap] 27 (0, 0)) ∧
          wy.heap[w.heap.size + 1]? = some (.cells #[.int .i64 0, .string ⟨#[]⟩, .int .i64 0, .string ⟨#[]⟩, .slice none 0 0, .slice none 0 0] 27 (0, 0)) ∧ (∀ q u, ys[q]? = some u → wy.cell? ⟨gg, q, none⟩ = some u) ∧ tmRep.All wy (New S (w.heap.size + 2) wy) ((v.kids.set j y).map Tv.tm) ys ∧ gg < wy.heap.size ∧ Below w2.heap.size w2 wy)
        case first =>
          go_wp2_with fail
          go_meet
          have hS2 : ∀ k, k < w2.heap.size → ((((((wx.setCell ⟨gg, j * 6, none⟩ (.int .i64 y.tm.lab.kind)).setCell ⟨gg, j * 6 + 1, none⟩ (.string y.tm.lab.nm)).setCell ⟨gg, j * 6 + 2, none⟩ (.int .i64 y.tm.lab.ix)).setCell ⟨gg, j * 6 + 3, none⟩ (.string s2)).setCell ⟨gg, j * 6 + 4, none⟩ (.slice A2 n2 c2)).setCell ⟨gg, j * 6 + 5, none⟩ (.slice B2 m2 d2)).heap[k]? = w2.heap[k]? := fun k hk =>
            heap_far _ (by omega) (heap_far _ (by omega) (heap_far _ (by omega) (heap_far _ (by omega) (heap_far _ (by omega) (heap_far _ (by omega) (HLOW.out k hk))))))
          have hfar : ∀ k o, k ≠ gg → wx.heap[k]? = o → ((((((wx.setCell ⟨gg, j * 6, none⟩ (.int .i64 y.tm.lab.kind)).setCell ⟨gg, j * 6 + 1, none⟩ (.string y.tm.lab.nm)).setCell ⟨gg, j * 6 + 2, none⟩ (.int .i64 y.tm.lab.ix)).setCell ⟨gg, j * 6 + 3, none⟩ (.string s2)).setCell ⟨gg, j * 6 + 4, none⟩ (.slice A2 n2 c2)).setCell ⟨gg, j * 6 + 5, none⟩ (.slice B2 m2 d2)).heap[k]? = o := fun k o hk h =>
            heap_far _ hk (heap_far _ hk (heap_far _ hk (heap_far _ hk (heap_far _ hk (heap_far _ hk h)))))
          have hbx6 := (((((HBX.out.setCell (p := ⟨gg, j * 6, none⟩) (by show w2.heap.size ≤ gg; omega) (.int .i64 y.tm.lab.kind)).setCell (p := ⟨gg, j * 6 + 1, none⟩) (by show w2.heap.size ≤ gg; omega) (.string y.tm.lab.nm)).setCell (p := ⟨gg, j * 6 + 2, none⟩) (by show w2.heap.size ≤ gg; omega) (.int .i64 y.tm.lab.ix)).setCell (p := ⟨gg, j * 6 + 3, none⟩) (by show w2.heap.size ≤ gg; omega) (.string s2)).setCell (p := ⟨gg, j * 6 + 4, none⟩) (by show w2.heap.size ≤ gg; omega) (.slice A2 n2 c2)).setCell (p := ⟨gg, j * 6 + 5, none⟩) (by show w2.heap.size ≤ gg; omega) (.slice B2 m2 d2)
          have hsz : ((((((wx.setCell ⟨gg, j * 6, none⟩ (.int .i64 y.tm.lab.kind)).setCell ⟨gg, j * 6 + 1, none⟩ (.string y.tm.lab.nm)).setCell ⟨gg, j * 6 + 2, none⟩ (.int .i64 y.tm.lab.ix)).setCell ⟨gg, j * 6 + 3, none⟩ (.string s2)).setCell ⟨gg, j * 6 + 4, none⟩ (.slice A2 n2 c2)).setCell ⟨gg, j * 6 + 5, none⟩ (.slice B2 m2 d2)).heap.size = wx.heap.size := by simp only [size_set]
          refine ⟨xs.take (j * 6) ++ ([.int .i64 y.tm.lab.kind, .string y.tm.lab.nm, .int .i64 y.tm.lab.ix, .string s2, .slice A2 n2 c2, .slice B2 m2 d2] ++ xs.drop (j * 6 + 6)), hfar _ _ (by omega) H8.out, hfar _ _ (by omega) HRP.out, ?_, ?_, by rw [hsz]; exact hgl, hbx6⟩
          · exact row_set6 (fun q u hq => (HOWN.out.cellAt q (by have := HXL.out; have := (List.getElem?_eq_some_iff.1 hq).1; omega)).trans hq) (by have := HXL.out; omega)
          · rw [List.map_set]
            refine Rep.All.set (ρ := tmRep) (k := j) (HALL.out.keep (fun k hk => (hS2 k (HSW2.out k hk)).trans (HKS.out k hk)) (fun k hk => Or.inl hk)) (by rw [List.length_map]; exact hjl) ?_
            refine tmRep.keep HU.out (fun k hk => hS2 k ?_) (fun k hk => ?_)
            · rcases hk with hk | hk
              · exact HSW2.out k hk
              · exact hk.2
            · exact hk.imp_right (fun h => ⟨by have := h.1; simp at this; omega, by rw [hsz]; have := h.2; omega⟩)
        case rest =>
          obtain ⟨ys, k8, kr, hcl, hal, hgl2, hby⟩ := hcut
          rename World => wy
          have hBy : Below w.heap.size w wy := HB2.out.trans (hby.mono (by omega))
          have zy := hby.size
          clear h8_0 h8_1 h8_2 h8_3 h8_4 h8_5 h8_l h6_0 h6_1 h6_2 h6_3 h6_4 h6_5 h6_l g0 g1 g2 g3 g4 g5 gf0 gf1 gf2 gf3 gf4 gf5
          have HCL := Lib.hid hcl
          have HAL := Lib.hid hal
          have HBY := Lib.hid hby
          have HBY := Lib.hid hBy
          clear hcl hal hby hBy
          have k8_0 := cv0 k8
          have k8_1 := cv1 k8
          have k8_2 := cv2 k8
          have k8_3 := cv3 k8
          have k8_4 := cv4 k8
          have k8_5 := cv5 k8
          have k8_l := lt_heap k8
          have K8 := Lib.hid k8
          clear k8
          have kr_0 := cv0 kr
          have kr_1 := cv1 kr
          have kr_2 := cv2 kr
          have kr_3 := cv3 kr
          have kr_4 := cv4 kr
          have kr_5 := cv5 kr
          have kr_f0 := free_heap kr 0
          have kr_f1 := free_heap kr 1
          have kr_f2 := free_heap kr 2
          have kr_f3 := free_heap kr 3
          have kr_f4 := free_heap kr 4
          have kr_f5 := free_heap kr 5
          have kr_l := lt_heap kr
          have KR := Lib.hid kr
          clear kr
          go_wp2_with fail
          refine bodyPost_ret (v := .tuple #[.agg #[.int .i64 kd, .string nm, .int .i64 ix, .string sa, .slice Aa na ca, .slice (some ⟨gg, 0, none⟩) v.kids.length cap], .bool true]) (by simp [results, Tryd.results32, go_sem, kr_0, kr_1, kr_2, kr_3, kr_4, kr_5, kr_l]) rfl ?_
          unfold StepAt
          rw [HVS.out]
          refine ⟨_, rfl, ?_, below6 HBY.out (by omega)⟩
          simp only [Option.getD_some]
          rw [HUT.out]
          refine Tm.shut (a := ⟨kd, nm, ix, ty⟩) HNM.out (Ty.In_keep (fun k hk => far6 (by have := HS.out k hk; omega) (HBY.out.block k (HS.out k hk))) (fun k hk => Or.inl hk) _ _ _ HTY.out) ?_
          refine ⟨_, v.kids.length, cap, rfl, by simp, by simp [maxLen]; omega, fun _ => ⟨gg, 0, ys, rfl, Or.inr ⟨by omega, lt6 hgl2⟩, HAL.out.keep (fun k hk => far6 ?_ rfl) (fun k hk => hk.imp_right (fun h => ⟨by have := h.1; omega, lt6 h.2⟩)), fun q u hq => ?_⟩⟩
          · rcases hk with hk | hk
            · have := HS.out k hk; omega
            · have := hk.1; omega
          · rw [Nat.zero_add]
            exact (cell_keep (far6 (by omega) rfl) q).trans (HCL.out q u hq)

end Go.Proofs.YthflahcnkhmpaabDoor
