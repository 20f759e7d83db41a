/-
  glosswrightequal.Simple: the walk: two types are compared node by node.
-/
import Derived.Test.YtnoceodmnjhljaaDoorProg
import Derived.Test.YtnoceodmnjhljaaDoorBase
import Derived.Test.YtnoceodmnjhljaaDoorTerm
namespace Go.Proofs.YtnoceodmnjhljaaDoor
open Go Go.RowKit
set_option linter.unusedSimpArgs false
set_option linter.unusedVariables false

set_option maxHeartbeats 400000 in
theorem eqTy_any : ∀ (N : Nat) (x y : Ty) (a0 a1 b0 b1 : Value) (w : World) (S : Nat → Prop) (hN : x.size ≤ N) (hx : x.In w S a0 a1) (hy : y.In w S b0 b1) (hS : ∀ b, S b → b < w.heap.size),
    Calls Tryd.prog 14 #[.agg #[a0, a1], .agg #[b0, b1]] w fun e w' => e = .returned (.bool (x.beq y)) ∧ Below w.heap.size w w' := by
  intro N
  induction N with
  | zero => intro x; cases x; intros; simp [Ty.size] at *
  | succ N ih =>
  intro x y a0 a1 b0 b1 w S hN hx hy hS
  have IH := Lib.hid ih
  clear ih
  obtain ⟨s, l⟩ := x
  obtain ⟨s', l'⟩ := y
  unfold Ty.In at hx hy
  obtain ⟨rfl, hs, A, n, c, rfl, rfl, hn, hA⟩ := hx
  obtain ⟨rfl, hs', A', n', c', rfl, rfl, hn', hA'⟩ := hy
  unfold maxLen at hn hn'
  have HA := Lib.hid hA
  have HA' := Lib.hid hA'
  clear hA hA'
  have HS := Lib.hid hS
  clear hS
  have HN := Lib.hid hN
  clear hN
  by_cases hss : s = s'
  case neg =>
    have hss' : (s.toList == s'.toList) = false := bytes_ne hss
    go_enter Tryd.func14, Tryd.ntmps14
    go_wp2_with fail
    go_returns
    exact ⟨by simp [Ty.beq, hss], ((Below.refl _ _).alloc (Nat.le_refl _) _).alloc (by simp) _⟩
  subst hss
  by_cases hll : l.length = l'.length
  case neg =>
    have hss' : ((l.length : Int) != (l'.length : Int)) = true := by rw [bne_iff_ne]; omega
    go_enter Tryd.func14, Tryd.ntmps14
    go_wp2_with fail
    go_returns
    have : Ty.beqs l l' = false := by
      cases h : Ty.beqs l l'
      · rfl
      · exact absurd (Ty.beqs_len l l' h) hll
    exact ⟨by simp [Ty.beq, this], ((Below.refl _ _).alloc (Nat.le_refl _) _).alloc (by simp) _⟩
  have Hll := Lib.hid hll
  have hss' : ((l.length : Int) != (l'.length : Int)) = false := by rw [hll]; simp
  clear hll
  go_enter Tryd.func14, Tryd.ntmps14
  go_wp2_with fail
  go_loopg [23] l.length (fun k v wr => ∃ j : Nat, j + k = l.length ∧ v = .int .i64 j ∧ Ty.beqs (l.take j) (l'.take j) = true ∧ Below (w.heap.size + 2) ((w.alloc (.cells #[.string s, .slice A l.length c] 24)).alloc (.cells #[.string s, .slice A' l'.length c'] 24)) wr)
  case atStart => exact ⟨0, by omega, rfl, by simp [Ty.beqs], Below.refl _ _⟩
  case round =>
    obtain ⟨j, hj, rfl, hb, hwr⟩ := hrel
    have hw0 : Below w.heap.size w wr := (((Below.refl _ w).alloc (Nat.le_refl _) _).alloc (by simp) _).trans (hwr.mono (by omega))
    have Hw0 := Lib.hid hw0
    have c0 : wr.cell? ⟨w.heap.size, 0, none⟩ = some (.string s) := (hwr.cell (p := ⟨w.heap.size, 0, none⟩) (by simp)).trans (by simp)
    have c1 : wr.cell? ⟨w.heap.size, 1, none⟩ = some (.slice A l.length c) := (hwr.cell (p := ⟨w.heap.size, 1, none⟩) (by simp)).trans (by simp)
    have d0 : wr.cell? ⟨w.heap.size + 1, 0, none⟩ = some (.string s) := (hwr.cell (p := ⟨w.heap.size + 1, 0, none⟩) (by simp)).trans (by simp)
    have d1 : wr.cell? ⟨w.heap.size + 1, 1, none⟩ = some (.slice A' l'.length c') := (hwr.cell (p := ⟨w.heap.size + 1, 1, none⟩) (by simp)).trans (by simp)
    have hsz : w.heap.size + 2 ≤ wr.heap.size := by have := hwr.size; simp at this; omega
    have Hwr := Lib.hid hwr
    have Hb := Lib.hid hb
    clear hwr hb hw0
    by_cases hjl : j < l.length
    · have hjl' : j < l'.length := by have := Hll.out; omega
      obtain ⟨b, o, rfl, hSb, hIn⟩ := HA.out (by omega)
      obtain ⟨b', o', rfl, hSb', hIn'⟩ := HA'.out (by omega)
      obtain ⟨u0, u1, e0, e1, e2⟩ := Ty.Ins_at (k := j) hIn (List.getElem?_eq_getElem hjl)
      obtain ⟨u0', u1', e0', e1', e2'⟩ := Ty.Ins_at (k := j) hIn' (List.getElem?_eq_getElem hjl')
      have hbs := HS.out _ hSb
      have hbs' := HS.out _ hSb'
      have f0 := (cell_keep (Hw0.out.block b hbs) _).trans e0
      have f1 := (cell_keep (Hw0.out.block b hbs) _).trans e1
      have f0' := (cell_keep (Hw0.out.block b' hbs') _).trans e0'
      have f1' := (cell_keep (Hw0.out.block b' hbs') _).trans e1'
      have HE := Lib.hid (Ty.In_keep (fun k hk => Hw0.out.block k (HS.out k hk)) (fun _ h => h) _ _ _ e2)
      have HE' := Lib.hid (Ty.In_keep (fun k hk => Hw0.out.block k (HS.out k hk)) (fun _ h => h) _ _ _ e2')
      clear e0 e1 e0' e1' e2 e2'
      have q0 : (0 : Int) ≤ (j : Int) := by omega
      have q1 : (j : Int) < (l.length : Int) := by omega
      have q2 : (j : Int) < (l'.length : Int) := by omega
      have HI := Lib.hid hIn
      have HI' := Lib.hid hIn'
      clear hIn hIn'
      by_cases he : l[j].beq l'[j] = true
      all_goals try simp only [Bool.not_eq_true] at he
      all_goals
        go_wp2_with fail
        go_region_held3 (fun w' => w'.cell? ⟨w.heap.size, 1, none⟩ = some (.slice (some ⟨b, o, none⟩) l.length c) ∧ w'.cell? ⟨w.heap.size + 1, 1, none⟩ = some (.slice (some ⟨b', o', none⟩) l'.length c') ∧
          w'.cell? ⟨b, o + j * 2, none⟩ = some u0 ∧ w'.cell? ⟨b, o + j * 2 + 1, none⟩ = some u1 ∧ w'.cell? ⟨b', o' + j * 2, none⟩ = some u0' ∧ w'.cell? ⟨b', o' + j * 2 + 1, none⟩ = some u1')
          ((first | (go_keep; done) | ((repeat' apply And.intro) <;> (refine (kc _ _ (by simp; omega)).trans ?_; assumption))))
          ((go_at_call 14; refine (IH.out l[j] l'[j] u0 u1 u0' u1' _ S ?q1 ?q2 ?q3 ?q4).mono ?_; (case q1 => (have := Ty.size_at l j hjl; have := HN.out; simp [Ty.size] at this; omega)); (case q2 => exact HE.out.drew); (case q3 => exact HE'.out.drew); (case q4 => (intro b hb; have := HS.out b hb; simp; omega)); rintro e w1 ⟨rfl, hw1⟩; obtain ⟨kc, kf⟩ := bcell hw1))
        go_wp2_with fail
      · go_roundg (l.length - (j + 1))
        case measure => omega
        case rel => exact ⟨j + 1, by omega, by go_num, Ty.beqs_snoc l l' j hjl hjl' Hb.out he, Hwr.out.drew.trans (hw1.mono (by simp; omega))⟩
      · go_returns
        exact ⟨by simp [Ty.beq, Ty.beqs_at l l' j hjl hjl' he], Hw0.out.drew.trans (hw1.mono (by simp; omega))⟩
    · go_wp2_with fail
      go_returns
      have h1 : j = l.length := by omega
      have h2 := Hb.out
      have h3 := Hll.out
      rw [h1, List.take_length] at h2
      rw [h3, List.take_length] at h2
      exact ⟨by simp [Ty.beq, h2], Hw0.out⟩


def TmL.eq (a b : TmL) : Bool := decide (a.kind = b.kind) && decide (a.nm = b.nm) && decide (a.ix = b.ix) && a.ty.beq b.ty
theorem TmL.of_eq {a b : TmL} (h : a.eq b = true) : a = b := by
  cases a; cases b
  simp only [TmL.eq, Bool.and_eq_true, decide_eq_true_eq] at h
  obtain ⟨⟨⟨rfl, rfl⟩, rfl⟩, h⟩ := h
  rw [Ty.eq_of_beq _ _ h]
theorem TmL.eq_self (a : TmL) : a.eq a = true := by simp [TmL.eq, Ty.beq_self]
abbrev tmBeq (t u : Tm) : Bool := Tree.beq TmL.eq t u
theorem tmBeq_self (t : Tm) : tmBeq t t = true := Tree.beq_self TmL.eq_self t

set_option maxRecDepth 100000 in
set_option maxHeartbeats 4000000 in
theorem eqTm_any : ∀ (N : Nat) (x y : Tm) (cs ds : List Value) (w : World) (S : Nat → Prop), x.nodes ≤ N → tmRep.R w S x cs → tmRep.R w S y ds → (∀ b, S b → b < w.heap.size) →
    Calls Tryd.prog 7 #[.agg cs.toArray, .agg ds.toArray] w fun e w' => e = .returned (.bool (tmBeq x y)) ∧ Below w.heap.size w w' := by
  intro N
  induction N with
  | zero => intro x; have := x.nodes_pos; intros; omega
  | succ N ih =>
  intro x y cs ds w S hN hx hy hS
  have IH := Lib.hid ih
  clear ih
  obtain ⟨⟨k1, s1, i1, ty1⟩, l1⟩ := x
  obtain ⟨⟨k2, s2, i2, ty2⟩, l2⟩ := y
  obtain ⟨u0, u1, v1, rfl, hn1, ht1, hl1⟩ := Tm.open_ hx
  obtain ⟨u2, u3, v2, rfl, hn2, ht2, hl2⟩ := Tm.open_ hy
  obtain ⟨sa, Aa, na, ca, rfl, rfl⟩ := ht1.shape
  obtain ⟨sb, Ab, nb, cb, rfl, rfl⟩ := ht2.shape
  have HL1 := Lib.hid hl1
  have HL2 := Lib.hid hl2
  obtain ⟨A1, m1, c1, rfl, rfl, hm1, _⟩ := hl1
  obtain ⟨A2, m2, c2, rfl, rfl, hm2, _⟩ := hl2
  unfold maxLen at hm1 hm2
  simp only at ht1 ht2
  clear hx hy hn1 hn2
  have HS := Lib.hid hS
  have HN := Lib.hid hN
  have HT1 := Lib.hid ht1
  have HT2 := Lib.hid ht2
  clear hS hN ht1 ht2
  by_cases hk : k1 = k2
  case neg =>
    have t1 : (k1 != k2) = true := bne_iff_ne.2 hk
    have f : tmBeq (.mk ⟨k1, s1, i1, ty1⟩ l1) (.mk ⟨k2, s2, i2, ty2⟩ l2) = false := by simp [tmBeq, Tree.beq, TmL.eq, hk]
    rw [f]
    clear hk f
    go_enter Tryd.func7, Tryd.ntmps7
    go_wp2_with fail
    go_returns
    exact ⟨rfl, by go_grown⟩
  subst hk
  by_cases hs : s1 = s2
  case neg =>
    have t1 : (s1.toList == s2.toList) = false := bytes_ne hs
    have f : tmBeq (.mk ⟨k1, s1, i1, ty1⟩ l1) (.mk ⟨k1, s2, i2, ty2⟩ l2) = false := by simp [tmBeq, Tree.beq, TmL.eq, hs]
    rw [f]
    clear hs f
    go_enter Tryd.func7, Tryd.ntmps7
    go_wp2_with fail
    go_returns
    exact ⟨rfl, by go_grown⟩
  subst hs
  by_cases hi : i1 = i2
  case neg =>
    have t1 : (i1 != i2) = true := bne_iff_ne.2 hi
    have f : tmBeq (.mk ⟨k1, s1, i1, ty1⟩ l1) (.mk ⟨k1, s1, i2, ty2⟩ l2) = false := by simp [tmBeq, Tree.beq, TmL.eq, hi]
    rw [f]
    clear hi f
    go_enter Tryd.func7, Tryd.ntmps7
    go_wp2_with fail
    go_returns
    exact ⟨rfl, by go_grown⟩
  subst hi
  have hlow : ∀ b, S b → b < w.heap.size + 1 + 1 := fun b hb => by have := HS.out b hb; omega
  have hq : ∀ (o p : Obj) b, S b → ((w.alloc o).alloc p).heap[b]? = w.heap[b]? := fun o p b hb => heap_old (by have := HS.out b hb; simp; omega) (heap_old (HS.out b hb) rfl)
  have HLOW := Lib.hid hlow
  have HQ := Lib.hid hq
  clear hlow hq
  have hcall := fun (o p : Obj) => Lib.hid (eqTy_any _ ty1 ty2 _ _ _ _ ((w.alloc o).alloc p) S (Nat.le_refl _) (HT1.out.keep (HQ.out o p)) (HT2.out.keep (HQ.out o p)) (fun b hb => by have := HLOW.out b hb; simpa using this))
  have HCALL := Lib.hid hcall
  clear hcall
  by_cases ht : ty1.beq ty2 = true
  case neg =>
    have f : tmBeq (.mk ⟨k1, s1, i1, ty1⟩ l1) (.mk ⟨k1, s1, i1, ty2⟩ l2) = false := by simp [tmBeq, Tree.beq, TmL.eq, ht]
    rw [f]
    have ht' : ty1.beq ty2 = false := by simpa using ht
    clear ht f
    go_enter Tryd.func7, Tryd.ntmps7
    go_wp2_with fail
    refine (HCALL.out _ _).out.mono ?_
    rw [ht']
    rintro e w1 ⟨rfl, hw1⟩
    have HW1 := Lib.hid ((show Below w.heap.size w _ by go_grown).trans (hw1.mono (by simp; omega)))
    clear hw1
    go_wp2_with fail
    go_returns
    exact ⟨rfl, HW1.out⟩
  by_cases hl : l1.length = l2.length
  case neg =>
    have t1 : ((l1.length : Int) != (l2.length : Int)) = true := bne_iff_ne.2 (by omega)
    have f : tmBeq (.mk ⟨k1, s1, i1, ty1⟩ l1) (.mk ⟨k1, s1, i1, ty2⟩ l2) = false := by
      have : Tree.beqs TmL.eq l1 l2 = false := by
        cases h : Tree.beqs TmL.eq l1 l2
        · rfl
        · exact absurd (Tree.beqs_len l1 l2 h) hl
      simp [tmBeq, Tree.beq, this]
    rw [f]
    clear hl f
    go_enter Tryd.func7, Tryd.ntmps7
    go_wp2_with fail
    refine (HCALL.out _ _).out.mono ?_
    rw [ht]
    rintro e w1 ⟨rfl, hw1⟩
    have h0 := (hw1.block w.heap.size (by simp <;> omega)).trans (heap_old (by simp) (heap_at rfl))
    have h1 := (hw1.block (w.heap.size + 1) (by simp)).trans (heap_at (by simp))
    have HW1 := Lib.hid ((show Below w.heap.size w _ by go_grown).trans (hw1.mono (by simp; omega)))
    clear hw1
    have h0_0 := cv0 h0
    have h0_1 := cv1 h0
    have h0_2 := cv2 h0
    have h0_3 := cv3 h0
    have h0_4 := cv4 h0
    have h0_5 := cv5 h0
    have h0_l := lt_heap h0
    have H0 := Lib.hid h0
    clear h0
    have h1_0 := cv0 h1
    have h1_1 := cv1 h1
    have h1_2 := cv2 h1
    have h1_3 := cv3 h1
    have h1_4 := cv4 h1
    have h1_5 := cv5 h1
    have h1_l := lt_heap h1
    have H1 := Lib.hid h1
    clear h1
    go_wp2_with fail
    go_returns
    exact ⟨rfl, HW1.out⟩
  have f : ∀ b, Tree.beqs TmL.eq l1 l2 = b → tmBeq (.mk ⟨k1, s1, i1, ty1⟩ l1) (.mk ⟨k1, s1, i1, ty2⟩ l2) = b := fun b h => by simp [tmBeq, Tree.beq, TmL.eq, ht, h]
  have HLL := Lib.hid hl
  have t1 : ((l1.length : Int) != (l2.length : Int)) = false := by rw [hl]; simp
  have F := Lib.hid f
  clear f
  clear hl
  go_enter Tryd.func7, Tryd.ntmps7
  go_wp2_with fail
  refine (HCALL.out _ _).out.mono ?_
  rw [ht]
  rintro e w1 ⟨rfl, hw1⟩
  have h0 := (hw1.block w.heap.size (by simp <;> omega)).trans (heap_old (by simp) (heap_at rfl))
  have h1 := (hw1.block (w.heap.size + 1) (by simp)).trans (heap_at (by simp))
  have HW1 := Lib.hid ((show Below w.heap.size w _ by go_grown).trans (hw1.mono (by simp; omega)))
  have z1 : w.heap.size + 1 + 1 ≤ w1.heap.size := by have := hw1.size; simpa using this
  clear hw1
  have h0_0 := cv0 h0
  have h0_1 := cv1 h0
  have h0_2 := cv2 h0
  have h0_3 := cv3 h0
  have h0_4 := cv4 h0
  have h0_5 := cv5 h0
  have h0_l := lt_heap h0
  have H0 := Lib.hid h0
  clear h0
  have h1_0 := cv0 h1
  have h1_1 := cv1 h1
  have h1_2 := cv2 h1
  have h1_3 := cv3 h1
  have h1_4 := cv4 h1
  have h1_5 := cv5 h1
  have h1_l := lt_heap h1
  have H1 := Lib.hid h1
  clear h1
  go_wp2_with fail
  clear h0_0 h0_1 h0_2 h0_3 h0_4 h0_5 h1_0 h1_1 h1_2 h1_3 h1_4 h1_5 h0_l h1_l ht
  go_loopg [45] l1.length (fun k v wr => ∃ j : Nat, j + k = l1.length ∧ v = .int .i64 j ∧ Tree.beqs TmL.eq (l1.take j) (l2.take j) = true ∧ Below w1.heap.size w1 wr)
  case atStart => exact ⟨0, by omega, rfl, by simp [Tree.beqs], Below.refl _ _⟩
  case round =>
    obtain ⟨j, hj, rfl, hb, hwr⟩ := hrel
    have h0 := (hwr.block _ (by omega)).trans H0.out
    have h1 := (hwr.block _ (by omega)).trans H1.out
    have hsz : w1.heap.size ≤ wr.heap.size := hwr.size
    have hw0 := HW1.out.trans (hwr.mono (by omega))
    have HWR := Lib.hid hwr
    have HB := Lib.hid hb
    have HW0 := Lib.hid hw0
    clear hwr hb hw0
    have h0_0 := cv0 h0
    have h0_1 := cv1 h0
    have h0_2 := cv2 h0
    have h0_3 := cv3 h0
    have h0_4 := cv4 h0
    have h0_5 := cv5 h0
    have h0_l := lt_heap h0
    have H0 := Lib.hid h0
    clear h0
    have h1_0 := cv0 h1
    have h1_1 := cv1 h1
    have h1_2 := cv2 h1
    have h1_3 := cv3 h1
    have h1_4 := cv4 h1
    have h1_5 := cv5 h1
    have h1_l := lt_heap h1
    have H1 := Lib.hid h1
    clear h1
    by_cases hjl : j < l1.length
    · have hjl' : j < l2.length := by have := HLL.out; omega
      obtain ⟨b, o, kc1, rfl, hSb, hr1, hc1⟩ := Rep.Sl.at_ HL1.out (List.getElem?_eq_getElem hjl)
      obtain ⟨b', o', kc2, rfl, hSb', hr2, hc2⟩ := Rep.Sl.at_ HL2.out (List.getElem?_eq_getElem hjl')
      obtain ⟨s1', A1', n1', c1', B1', m1', d1', rfl, _, _⟩ := Tm.shape hr1
      obtain ⟨s2', A2', n2', c2', B2', m2', d2', rfl, _, _⟩ := Tm.shape hr2
      have hbs := HS.out _ hSb
      have hbs' := HS.out _ hSb'
      have hk1 := HW0.out.block b hbs
      have hk2 := HW0.out.block b' hbs'
      have e0 : wr.cell? ⟨b, o + j * 6, none⟩ = _ := (cell_keep hk1 _).trans (hc1 0 _ rfl)
      have e1 : wr.cell? ⟨b, o + j * 6 + 1, none⟩ = _ := (cell_keep hk1 _).trans (hc1 1 _ rfl)
      have e2 : wr.cell? ⟨b, o + j * 6 + 2, none⟩ = _ := (cell_keep hk1 _).trans (hc1 2 _ rfl)
      have e3 : wr.cell? ⟨b, o + j * 6 + 3, none⟩ = _ := (cell_keep hk1 _).trans (hc1 3 _ rfl)
      have e4 : wr.cell? ⟨b, o + j * 6 + 4, none⟩ = _ := (cell_keep hk1 _).trans (hc1 4 _ rfl)
      have e5 : wr.cell? ⟨b, o + j * 6 + 5, none⟩ = _ := (cell_keep hk1 _).trans (hc1 5 _ rfl)
      have f0 : wr.cell? ⟨b', o' + j * 6, none⟩ = _ := (cell_keep hk2 _).trans (hc2 0 _ rfl)
      have f1 : wr.cell? ⟨b', o' + j * 6 + 1, none⟩ = _ := (cell_keep hk2 _).trans (hc2 1 _ rfl)
      have f2 : wr.cell? ⟨b', o' + j * 6 + 2, none⟩ = _ := (cell_keep hk2 _).trans (hc2 2 _ rfl)
      have f3 : wr.cell? ⟨b', o' + j * 6 + 3, none⟩ = _ := (cell_keep hk2 _).trans (hc2 3 _ rfl)
      have f4 : wr.cell? ⟨b', o' + j * 6 + 4, none⟩ = _ := (cell_keep hk2 _).trans (hc2 4 _ rfl)
      have f5 : wr.cell? ⟨b', o' + j * 6 + 5, none⟩ = _ := (cell_keep hk2 _).trans (hc2 5 _ rfl)
      have HR1 := Lib.hid (tmRep.keep hr1 (fun k hk => HW0.out.block k (HS.out k hk)) (fun _ h => h))
      have HR2 := Lib.hid (tmRep.keep hr2 (fun k hk => HW0.out.block k (HS.out k hk)) (fun _ h => h))
      have hih : Calls Tryd.prog 7 #[.agg #[.int .i64 l1[j].lab.kind, .string l1[j].lab.nm, .int .i64 l1[j].lab.ix, .string s1', .slice A1' n1' c1', .slice B1' m1' d1'], .agg #[.int .i64 l2[j].lab.kind, .string l2[j].lab.nm, .int .i64 l2[j].lab.ix, .string s2', .slice A2' n2' c2', .slice B2' m2' d2']] wr.drew _ := IH.out l1[j] l2[j] [.int .i64 l1[j].lab.kind, .string l1[j].lab.nm, .int .i64 l1[j].lab.ix, .string s1', .slice A1' n1' c1', .slice B1' m1' d1'] [.int .i64 l2[j].lab.kind, .string l2[j].lab.nm, .int .i64 l2[j].lab.ix, .string s2', .slice A2' n2' c2', .slice B2' m2' d2'] wr.drew S (by have := Tree.nodes_at l1 j hjl; have := HN.out; simp [Tree.nodes] at this; omega) (tmRep.keep HR1.out (fun _ _ => rfl) (fun _ h => h)) (tmRep.keep HR2.out (fun _ _ => rfl) (fun _ h => h)) (fun b hb => by have := HS.out b hb; simp; omega)
      clear hr1 hr2 hc1 hc2 hk1 hk2
      have HIH := Lib.hid hih
      clear hih
      have q0 : (0 : Int) ≤ (j : Int) := by omega
      have q1 : (j : Int) < (l1.length : Int) := by omega
      have q2 : (j : Int) < (l2.length : Int) := by omega
      have hbw : b < wr.heap.size ∧ b' < wr.heap.size := ⟨by omega, by omega⟩
      by_cases he : tmBeq l1[j] l2[j] = true
      all_goals try simp only [Bool.not_eq_true] at he
      all_goals
        rw [he] at HIH
        have HE := Lib.hid he
        clear he
        go_wp2_with fail
        go_region_held3 (fun w' => w'.cell? ⟨w.heap.size, 5, none⟩ = some (.slice (some ⟨b, o, none⟩) l1.length c1) ∧ w'.cell? ⟨w.heap.size + 1, 5, none⟩ = some (.slice (some ⟨b', o', none⟩) l2.length c2) ∧ w'.cell? ⟨b, o + j * 6, none⟩ = some (.int .i64 l1[j].lab.kind) ∧ w'.cell? ⟨b, o + j * 6 + 1, none⟩ = some (.string l1[j].lab.nm) ∧ w'.cell? ⟨b, o + j * 6 + 2, none⟩ = some (.int .i64 l1[j].lab.ix) ∧ w'.cell? ⟨b, o + j * 6 + 3, none⟩ = some (.string s1') ∧ w'.cell? ⟨b, o + j * 6 + 4, none⟩ = some (.slice A1' n1' c1') ∧ w'.cell? ⟨b, o + j * 6 + 5, none⟩ = some (.slice B1' m1' d1') ∧ w'.cell? ⟨b', o' + j * 6, none⟩ = some (.int .i64 l2[j].lab.kind) ∧ w'.cell? ⟨b', o' + j * 6 + 1, none⟩ = some (.string l2[j].lab.nm) ∧ w'.cell? ⟨b', o' + j * 6 + 2, none⟩ = some (.int .i64 l2[j].lab.ix) ∧ w'.cell? ⟨b', o' + j * 6 + 3, none⟩ = some (.string s2') ∧ w'.cell? ⟨b', o' + j * 6 + 4, none⟩ = some (.slice A2' n2' c2') ∧ w'.cell? ⟨b', o' + j * 6 + 5, none⟩ = some (.slice B2' m2' d2'))
          ((first | (go_keep; done) | (go_split_ands; (repeat' apply And.intro) <;> (refine (kc _ _ (by omega)).trans ?_; assumption))))
          (((with_reducible refine HIH.out.mono ?_); rintro e w2 ⟨rfl, hw2⟩; have kc : ∀ k q, k < wr.heap.size → w2.cell? ⟨k, q, none⟩ = wr.cell? ⟨k, q, none⟩ := (fun k q h => hw2.cell (p := ⟨k, q, none⟩) h); have HW2 := Lib.hid hw2; clear hw2))
        go_wp2_with fail
      · go_roundg (l1.length - (j + 1))
        case measure => omega
        case rel => exact ⟨j + 1, by omega, by go_num, Tree.beqs_snoc l1 l2 j hjl hjl' HB.out HE.out, HWR.out.drew.trans (HW2.out.mono (by simp; omega))⟩
      · go_returns
        rw [F.out false (Tree.beqs_at l1 l2 j hjl hjl' HE.out)]
        exact ⟨rfl, HW0.out.drew.trans (HW2.out.mono (by simp; omega))⟩
    · go_wp2_with fail
      go_returns
      have h1 : j = l1.length := by omega
      have h2 := HB.out
      have h3 := HLL.out
      rw [h1, List.take_length] at h2
      rw [h3, List.take_length] at h2
      rw [F.out true h2]
      exact ⟨rfl, HW0.out⟩
end Go.Proofs.YtnoceodmnjhljaaDoor
