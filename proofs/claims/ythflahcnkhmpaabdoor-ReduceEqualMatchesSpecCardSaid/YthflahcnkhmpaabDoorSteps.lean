/-
  reduce.big, reduce.Steps: the walks.
-/
import Derived.Test.YthflahcnkhmpaabDoorProg
import Derived.Test.YthflahcnkhmpaabDoorStepTm
import Derived.Test.YthflahcnkhmpaabDoorSizeTm
import Derived.Test.YthflahcnkhmpaabDoorName
namespace Go.Proofs.YthflahcnkhmpaabDoor
open Go Go.RowKit
set_option linter.unusedSimpArgs false
set_option linter.unusedVariables false

theorem Tv.lift_nodes : ∀ (t : Tv) (n k : Nat), (t.lift n k).nodes = t.nodes
  | .con _ _, _, _ => rfl
  | .var i, n, k => by unfold Tv.lift; split <;> rfl
  | .abs s b, n, k => by simp [Tv.lift, Tv.nodes, Tv.lift_nodes b]
  | .app f x, n, k => by simp [Tv.lift, Tv.nodes, Tv.lift_nodes f, Tv.lift_nodes x]
theorem Tv.put_nodes : ∀ (t x : Tv) (a : Nat), (t.put x a).nodes ≤ t.nodes * x.nodes
  | .con _ _, x, _ => by have := x.nodes_pos; simp [Tv.put, Tv.nodes]; omega
  | .var i, x, a => by
    have := x.nodes_pos
    unfold Tv.put
    split
    · simp [Tv.lift_nodes, Tv.nodes]
    · split <;> (simp [Tv.nodes]; omega)
  | .abs s b, x, a => by
    have h := Tv.put_nodes b x (a + 1)
    have := x.nodes_pos
    simp only [Tv.put, Tv.nodes, Nat.add_mul]; omega
  | .app f y, x, a => by
    have h1 := Tv.put_nodes f x a
    have h2 := Tv.put_nodes y x a
    have := x.nodes_pos
    simp only [Tv.put, Tv.nodes, Nat.add_mul]; omega
theorem Tv.step_nodes : ∀ (t u : Tv), t.step = some u → u.nodes ≤ t.nodes * t.nodes
  | .con _ _, _, h => by simp [Tv.step] at h
  | .var _, _, h => by simp [Tv.step] at h
  | .abs s b, u, h => by
    simp only [Tv.step, Option.map_eq_some_iff] at h
    obtain ⟨b', h1, rfl⟩ := h
    have := Tv.step_nodes b b' h1
    simp only [Tv.nodes, Nat.add_mul, Nat.mul_add]; omega
  | .app f x, u, h => by
    rcases Tv.step_app f x with ⟨s, b, rfl, e⟩ | ⟨_, ⟨f', e1, e⟩ | ⟨_, e⟩⟩
    · rw [e] at h; obtain rfl := Option.some.inj h
      refine Nat.le_trans (Tv.put_nodes b x 0) (Nat.mul_le_mul ?_ ?_)
      · simp only [Tv.nodes]; omega
      · simp only [Tv.nodes]; omega
    · rw [e] at h; obtain rfl := Option.some.inj h
      have := Tv.step_nodes f f' e1
      simp only [Tv.nodes, Nat.add_mul, Nat.mul_add]; omega
    · rw [e] at h
      obtain ⟨x', e1, rfl⟩ := Option.map_eq_some_iff.1 h
      have := Tv.step_nodes x x' e1
      simp only [Tv.nodes, Nat.add_mul, Nat.mul_add]; omega
theorem Tv.step_small {t u : Tv} (h : t.step = some u) (ht : t.nodes ≤ 2000) : u.nodes ≤ 4000000 :=
  Nat.le_trans (Tv.step_nodes t u h) (Nat.le_trans (Nat.mul_le_mul ht ht) (by decide))

set_option maxRecDepth 100000 in
theorem big_any (t : Tm) (cs : List Value) (w : World) (S : Nat → Prop) (ht : tmRep.R w S t cs) (hS : ∀ b, S b → b < w.heap.size) (hM : t.nodes ≤ 1000000000000) :
    Calls Tryd.prog 33 #[.agg cs.toArray] w fun e w' => e = .returned (.bool (decide (2000 < t.nodes))) ∧ Below w.heap.size w w' := by
  obtain ⟨s1, A1, n1, c1, B1, m1, d1, rfl, _, _⟩ := Tm.shape ht
  have hv := fun (o : Obj) => Lib.hid (size_any t.nodes t [.int .i64 t.lab.kind, .string t.lab.nm, .int .i64 t.lab.ix, .string s1, .slice A1 n1 c1, .slice B1 m1 d1] (w.alloc o) S (Nat.le_refl _) hM (tmRep.keep ht (fun k hk => heap_old (hS k hk) rfl) (fun _ h => h)) (fun k hk => by have := hS k hk; simp; omega))
  clear ht hS
  have HV := Lib.hid hv
  have HM := Lib.hid hM
  clear hv hM
  go_enter Tryd.func33, Tryd.ntmps33
  go_wp2_with fail
  (with_reducible refine (HV.out _).out.mono ?_)
  rintro e w1 ⟨rfl, hw1⟩
  have HB := Lib.hid ((show Below w.heap.size w _ by go_grown).trans (hw1.mono (by simp)))
  clear hw1
  by_cases h1 : 2000 < t.nodes
  · go_wp2_with fail
    go_returns
    exact ⟨ret_bool (by simp [h1] <;> omega), HB.out⟩
  · go_wp2_with fail
    go_returns
    exact ⟨ret_bool (by simp [h1] <;> omega), HB.out⟩

/-- What Steps returns. -/
def StepsEx (v : Tv) (w : World) (S : Nat → Prop) (e : Ending) (w' : World) : Prop :=
  ∃ (u : Tv) (ds : List Value), e = .returned (.tuple #[.agg ds.toArray, .bool (Tv.steps 2001 v).isSome]) ∧ tmRep.R w' (Ex S w w') u.tm ds ∧ (∀ u', Tv.steps 2001 v = some u' → u = u') ∧ Below w.heap.size w w'
def StepsAt (v : Tv) (w : World) (e : Ending) (w' : World) : Prop :=
  ∃ (u : Tv) (ds : List Value), e = .returned (.tuple #[.agg ds.toArray, .bool (Tv.steps 2001 v).isSome]) ∧ tmRep.R w' (Lo w') u.tm ds ∧ (∀ u', Tv.steps 2001 v = some u' → u = u') ∧ Below w.heap.size w w'

set_option maxRecDepth 100000 in
set_option maxHeartbeats 4000000 in
theorem stepsEx_any (v : Tv) (cs : List Value) (w : World) (S : Nat → Prop) (hn : v.nodes ≤ 4000000) (hok : v.ok 0) (h : tmRep.R w S v.tm cs) (hS : ∀ b, S b → b < w.heap.size) :
    Calls Tryd.prog 44 #[.agg cs.toArray] w (StepsEx v w S) := by
  obtain ⟨s1, A1, n1, c1, B1, m1, d1, rfl, _, _⟩ := Tm.shape h
  have H := Lib.hid h
  have HS := Lib.hid hS
  clear h hS
  go_enter Tryd.func44, Tryd.ntmps44
  go_wp2_with fail
  go_loopg [6] 2001 (fun g vi wr => ∃ (i : Nat) (v' : Tv) (s : ByteArray) (A : Option Addr) (n c : Nat) (B : Option Addr) (m d : Nat), i + g = 2001 ∧ vi = .int .i64 i ∧ v'.nodes ≤ 4000000 ∧ v'.ok 0 ∧ Tv.steps g v' = Tv.steps 2001 v ∧
    wr.heap[w.heap.size]? = some (.cells #[.int .i64 v'.tm.lab.kind, .string v'.tm.lab.nm, .int .i64 v'.tm.lab.ix, .string s, .slice A n c, .slice B m d] 27 (0, 0)) ∧
    wr.heap[w.heap.size + 1]? = some (.cells #[.int .i64 0, .string ⟨#[]⟩, .int .i64 0, .string ⟨#[]⟩, .slice none 0 0, .slice none 0 0] 27 (0, 0)) ∧
    tmRep.R wr (New S (w.heap.size + 2) wr) v'.tm [.int .i64 v'.tm.lab.kind, .string v'.tm.lab.nm, .int .i64 v'.tm.lab.ix, .string s, .slice A n c, .slice B m d] ∧ Below w.heap.size w wr ∧ w.heap.size + 2 ≤ wr.heap.size)
  case atStart =>
    exact ⟨0, v, s1, A1, n1, c1, B1, m1, d1, by omega, rfl, hn, hok, rfl, heap_old (by simp) (heap_at rfl), heap_at (by simp), tmRep.keep H.out (fun k hk => heap_old (by have := HS.out k hk; simp; omega) (heap_old (HS.out k hk) rfl)) (fun k hk => Or.inl hk), by go_grown, by simp⟩
  case round =>
    obtain ⟨i, v', s, A, n, c, B, m, d, hi, rfl, hn', hok', hst, ht, hr, hv, hb, hsz⟩ := hrel
    have hlo : ∀ k, New S (w.heap.size + 2) wr k → k < wr.heap.size := New.lo (fun k hk => by have := HS.out k hk; omega) hsz
    have HB := Lib.hid hb
    have HST := Lib.hid hst
    clear hb hst
    have ht_0 := cv0 ht
    have ht_1 := cv1 ht
    have ht_2 := cv2 ht
    have ht_3 := cv3 ht
    have ht_4 := cv4 ht
    have ht_5 := cv5 ht
    have ht_f0 := free_heap ht 0
    have ht_f1 := free_heap ht 1
    have ht_f2 := free_heap ht 2
    have ht_f3 := free_heap ht 3
    have ht_f4 := free_heap ht 4
    have ht_f5 := free_heap ht 5
    have ht_l := lt_heap ht
    have HT := Lib.hid ht
    clear ht
    have hr_0 := cv0 hr
    have hr_1 := cv1 hr
    have hr_2 := cv2 hr
    have hr_3 := cv3 hr
    have hr_4 := cv4 hr
    have hr_5 := cv5 hr
    have hr_f0 := free_heap hr 0
    have hr_f1 := free_heap hr 1
    have hr_f2 := free_heap hr 2
    have hr_f3 := free_heap hr 3
    have hr_f4 := free_heap hr 4
    have hr_f5 := free_heap hr 5
    have hr_l := lt_heap hr
    have HR := Lib.hid hr
    clear hr
    cases gk with
    | zero =>
      have hi' : i = 2001 := by omega
      subst hi'
      have HV := Lib.hid hv
      have HLO := Lib.hid hlo
      clear hv hlo
      go_wp2_with fail
      refine bodyPost_ret (v := .tuple #[.agg #[.int .i64 v'.tm.lab.kind, .string v'.tm.lab.nm, .int .i64 v'.tm.lab.ix, .string s, .slice A n c, .slice B m d], .bool false]) (by simp [results, Tryd.results44, go_sem, hr_0, hr_1, hr_2, hr_3, hr_4, hr_5, hr_l]) rfl ?_
      have hz : Tv.steps 2001 v = none := HST.out.symm.trans rfl
      unfold StepsEx
      rw [hz]
      refine ⟨v', _, rfl, tmRep.keep HV.out (fun k hk => far6 ?_ rfl) (fun k hk => hk.imp id (fun h => ⟨by have := h.1; omega, lt6 h.2⟩)), fun u' h => (by simp at h), below6 HB.out (by omega)⟩
      rcases hk with hk | hk
      · have := HS.out k hk; omega
      · have := hk.1; omega
    | succ g =>
      have hbig := Lib.hid (big_any v'.tm _ wr _ hv hlo (by rw [Tv.tm_nodes]; omega))
      have HTM : Hid (v'.tm.nodes = v'.nodes) := Lib.hid v'.tm_nodes
      have HV := Lib.hid hv
      have HLO := Lib.hid hlo
      have HBIG := Lib.hid hbig
      clear hv hlo hbig
      go_wp2_with fail
      (with_reducible refine HBIG.out.out.mono ?_)
      rw [HTM.out]
      rintro e w2 ⟨rfl, hw2⟩
      have ht := (hw2.block _ ht_l).trans HT.out
      have hr := (hw2.block _ hr_l).trans HR.out
      have z2 := hw2.size
      have hb2 := HB.out.trans (hw2.mono (by omega))
      have hv2 := tmRep.keep (S' := New S (w.heap.size + 2) w2) HV.out (fun k hk => hw2.block k (HLO.out k hk)) (fun k hk => New.up z2 k hk)
      have hlo2 : ∀ k, New S (w.heap.size + 2) w2 k → k < w2.heap.size := New.lo (fun k hk => by have := HS.out k hk; omega) (by omega)
      clear ht_0 ht_1 ht_2 ht_3 ht_4 ht_5 ht_f0 ht_f1 ht_f2 ht_f3 ht_f4 ht_f5 ht_l hr_0 hr_1 hr_2 hr_3 hr_4 hr_5 hr_f0 hr_f1 hr_f2 hr_f3 hr_f4 hr_f5 hr_l
      by_cases hg : 2000 < v'.nodes
      · rw [decide_eq_true hg]
        have hz : Tv.steps 2001 v = none := by rw [← HST.out, Tv.steps, if_pos hg]
        have HW2 := Lib.hid hw2
        have HB2 := Lib.hid hb2
        have HV2 := Lib.hid hv2
        have HLO2 := Lib.hid hlo2
        have HZ := Lib.hid hz
        clear hw2 hb2 hv2 hlo2 hz
        have ht_0 := cv0 ht
        have ht_1 := cv1 ht
        have ht_2 := cv2 ht
        have ht_3 := cv3 ht
        have ht_4 := cv4 ht
        have ht_5 := cv5 ht
        have ht_f0 := free_heap ht 0
        have ht_f1 := free_heap ht 1
        have ht_f2 := free_heap ht 2
        have ht_f3 := free_heap ht 3
        have ht_f4 := free_heap ht 4
        have ht_f5 := free_heap ht 5
        have ht_l := lt_heap ht
        have HT := Lib.hid ht
        clear ht
        have hr_0 := cv0 hr
        have hr_1 := cv1 hr
        have hr_2 := cv2 hr
        have hr_3 := cv3 hr
        have hr_4 := cv4 hr
        have hr_5 := cv5 hr
        have hr_f0 := free_heap hr 0
        have hr_f1 := free_heap hr 1
        have hr_f2 := free_heap hr 2
        have hr_f3 := free_heap hr 3
        have hr_f4 := free_heap hr 4
        have hr_f5 := free_heap hr 5
        have hr_l := lt_heap hr
        have HR := Lib.hid hr
        clear hr
        go_wp2_with fail
        refine bodyPost_ret (v := .tuple #[.agg #[.int .i64 v'.tm.lab.kind, .string v'.tm.lab.nm, .int .i64 v'.tm.lab.ix, .string s, .slice A n c, .slice B m d], .bool false]) (by simp [results, Tryd.results44, go_sem, hr_0, hr_1, hr_2, hr_3, hr_4, hr_5, hr_l]) rfl ?_
        unfold StepsEx
        rw [HZ.out]
        refine ⟨v', _, rfl, tmRep.keep HV2.out (fun k hk => far6 ?_ rfl) (fun k hk => hk.imp id (fun h => ⟨by have := h.1; omega, lt6 h.2⟩)), fun u' h => (by simp at h), below6 HB2.out (by omega)⟩
        rcases hk with hk | hk
        · have := HS.out k hk; omega
        · have := hk.1; omega
      · rw [decide_eq_false hg]
        have hstep := Lib.hid (step_any v'.nodes v' 0 _ w2 _ (Nat.le_refl _) hok' (by omega) hv2 hlo2)
        have hn2 : v'.nodes ≤ 2000 := by omega
        have HW2 := Lib.hid hw2
        have HB2 := Lib.hid hb2
        have HV2 := Lib.hid hv2
        have HLO2 := Lib.hid hlo2
        have HSTEP := Lib.hid hstep
        clear hw2 hb2 hv2 hlo2 hstep
        have ht_0 := cv0 ht
        have ht_1 := cv1 ht
        have ht_2 := cv2 ht
        have ht_3 := cv3 ht
        have ht_4 := cv4 ht
        have ht_5 := cv5 ht
        have ht_f0 := free_heap ht 0
        have ht_f1 := free_heap ht 1
        have ht_f2 := free_heap ht 2
        have ht_f3 := free_heap ht 3
        have ht_f4 := free_heap ht 4
        have ht_f5 := free_heap ht 5
        have ht_l := lt_heap ht
        have HT := Lib.hid ht
        clear ht
        have hr_0 := cv0 hr
        have hr_1 := cv1 hr
        have hr_2 := cv2 hr
        have hr_3 := cv3 hr
        have hr_4 := cv4 hr
        have hr_5 := cv5 hr
        have hr_f0 := free_heap hr 0
        have hr_f1 := free_heap hr 1
        have hr_f2 := free_heap hr 2
        have hr_f3 := free_heap hr 3
        have hr_f4 := free_heap hr 4
        have hr_f5 := free_heap hr 5
        have hr_l := lt_heap hr
        have HR := Lib.hid hr
        clear hr
        go_wp2_with fail
        (with_reducible refine HSTEP.out.out.mono ?_)
        unfold StepAt
        rintro e w3 ⟨ds, rfl, hu, hw3⟩
        obtain ⟨s3, A3, n3, c3, B3, m3, d3, rfl, _, _⟩ := Tm.shape hu
        have ht := (hw3.block _ ht_l).trans HT.out
        have hr := (hw3.block _ hr_l).trans HR.out
        have z3 := hw3.size
        have hb3 := HB2.out.trans (hw3.mono (by omega))
        clear ht_0 ht_1 ht_2 ht_3 ht_4 ht_5 ht_f0 ht_f1 ht_f2 ht_f3 ht_f4 ht_f5 ht_l hr_0 hr_1 hr_2 hr_3 hr_4 hr_5 hr_f0 hr_f1 hr_f2 hr_f3 hr_f4 hr_f5 hr_l
        have HU := Lib.hid hu
        have HW3 := Lib.hid hw3
        have HB3 := Lib.hid hb3
        clear hu hw3 hb3
        have ht_0 := cv0 ht
        have ht_1 := cv1 ht
        have ht_2 := cv2 ht
        have ht_3 := cv3 ht
        have ht_4 := cv4 ht
        have ht_5 := cv5 ht
        have ht_f0 := free_heap ht 0
        have ht_f1 := free_heap ht 1
        have ht_f2 := free_heap ht 2
        have ht_f3 := free_heap ht 3
        have ht_f4 := free_heap ht 4
        have ht_f5 := free_heap ht 5
        have ht_l := lt_heap ht
        have HT := Lib.hid ht
        clear ht
        have hr_0 := cv0 hr
        have hr_1 := cv1 hr
        have hr_2 := cv2 hr
        have hr_3 := cv3 hr
        have hr_4 := cv4 hr
        have hr_5 := cv5 hr
        have hr_f0 := free_heap hr 0
        have hr_f1 := free_heap hr 1
        have hr_f2 := free_heap hr 2
        have hr_f3 := free_heap hr 3
        have hr_f4 := free_heap hr 4
        have hr_f5 := free_heap hr 5
        have hr_l := lt_heap hr
        have HR := Lib.hid hr
        clear hr
        have l1 : w.heap.size < w3.heap.size + 1 := by omega
        cases hs : v'.step with
        | none =>
          have hz : Tv.steps 2001 v = some v' := by rw [← HST.out, Tv.steps, if_neg hg, hs]
          have HS_ := Lib.hid hs
          clear hs
          have HZ := Lib.hid hz
          clear hz
          simp only [HS_.out, Option.isSome_none, Option.getD_none]
          go_upto_region 7 with (fail)
          go_cut [3] (fun s3 wx => s3 = .bool true ∧ wx.heap[w.heap.size + 1]? = some (.cells #[.int .i64 v'.tm.lab.kind, .string v'.tm.lab.nm, .int .i64 v'.tm.lab.ix, .string s, .slice A n c, .slice B m d] 27 (0, 0)) ∧ tmRep.R wx (Ex S w wx) v'.tm [.int .i64 v'.tm.lab.kind, .string v'.tm.lab.nm, .int .i64 v'.tm.lab.ix, .string s, .slice A n c, .slice B m d] ∧ Below w.heap.size w wx)
          case first =>
            go_wp2_with fail
            go_meet
            refine ⟨rfl, heap_old (lt6 hr_l) (at6 HR.out), tmRep.keep HV2.out (fun k hk => heap_old (lt6 (by have := HLO2.out k hk; omega)) (far6 ?_ (HW3.out.block k (HLO2.out k hk)))) (fun k hk => ?_), (below6 HB3.out (by omega)).alloc (le6 (by omega)) _⟩
            · rcases hk with hk | hk
              · have := HS.out k hk; omega
              · have := hk.1; omega
            · have := HLO2.out k hk
              have h1 := Nat.lt_of_lt_of_le (lt6 (v0 := .int .i64 v'.tm.lab.kind) (v1 := .string v'.tm.lab.nm) (v2 := .int .i64 v'.tm.lab.ix) (v3 := .string s) (v4 := .slice A n c) (v5 := .slice B m d) (b := w.heap.size + 1) (show k < w3.heap.size by omega)) (Nat.le_succ _)
              exact hk.imp id (fun h => ⟨by have := h.1; omega, by rw [World.size_alloc]; exact h1⟩)
          case rest =>
            obtain ⟨rfl, kr, hvx, hbx⟩ := hcut
            rename World => wx
            clear ht_0 ht_1 ht_2 ht_3 ht_4 ht_5 ht_f0 ht_f1 ht_f2 ht_f3 ht_f4 ht_f5 ht_l hr_0 hr_1 hr_2 hr_3 hr_4 hr_5 hr_f0 hr_f1 hr_f2 hr_f3 hr_f4 hr_f5 hr_l
            have HVX := Lib.hid hvx
            have HBX := Lib.hid hbx
            clear hvx hbx
            have kr_0 := cv0 kr
            have kr_1 := cv1 kr
            have kr_2 := cv2 kr
            have kr_3 := cv3 kr
            have kr_4 := cv4 kr
            have kr_5 := cv5 kr
            have kr_l := lt_heap kr
            have KR := Lib.hid kr
            clear kr
            go_wp2_with fail
            refine bodyPost_ret (v := .tuple #[.agg #[.int .i64 v'.tm.lab.kind, .string v'.tm.lab.nm, .int .i64 v'.tm.lab.ix, .string s, .slice A n c, .slice B m d], .bool true]) (by simp [results, Tryd.results44, go_sem, kr_0, kr_1, kr_2, kr_3, kr_4, kr_5, kr_l]) rfl ?_
            unfold StepsEx
            rw [HZ.out]
            exact ⟨v', _, rfl, HVX.out, fun u' h => Option.some.inj h, HBX.out⟩
        | some u =>
          have hok2 : u.ok 0 := Tv.ok_step v' u 0 hs hok'
          have hns : u.nodes ≤ 4000000 := Tv.step_small hs hn2
          have hz : Tv.steps g u = Tv.steps 2001 v := by rw [← HST.out, Tv.steps, if_neg hg, hs]
          have HS_ := Lib.hid hs
          clear hs
          have HZ := Lib.hid hz
          have HOK2 := Lib.hid hok2
          clear hz hok2
          simp only [HS_.out, Option.isSome_some, Option.getD_some]
          simp only [HS_.out, Option.getD_some] at HU
          go_wp2_with fail
          go_roundg g
          case measure => omega
          case rel =>
            refine ⟨i + 1, u, s3, A3, n3, c3, B3, m3, d3, by omega, by go_num, hns, HOK2.out, HZ.out, heap_old (lt6 ht_l) (at6 HT.out), heap_old (lt6 hr_l) (far6 (by omega) HR.out), tmRep.keep HU.out (fun k hk => heap_old (lt6 ?_) (far6 ?_ rfl)) (fun k hk => ?_), (below6 HB3.out (by omega)).alloc (le6 (by omega)) _, ?_⟩
            · rcases hk with hk | hk
              · have := HLO2.out k hk; omega
              · exact hk.2
            · rcases hk with (hk | hk) | hk
              · have := HS.out k hk; omega
              · have := hk.1; omega
              · have := hk.1; omega
            · have hsz : ∀ o : Obj, k < w3.heap.size → k < (World.alloc (((((((w3.setCell ⟨w.heap.size, 0, none⟩ (.int .i64 u.tm.lab.kind)).setCell ⟨w.heap.size, 1, none⟩ (.string u.tm.lab.nm)).setCell ⟨w.heap.size, 2, none⟩ (.int .i64 u.tm.lab.ix)).setCell ⟨w.heap.size, 3, none⟩ (.string s3)).setCell ⟨w.heap.size, 4, none⟩ (.slice A3 n3 c3)).setCell ⟨w.heap.size, 5, none⟩ (.slice B3 m3 d3))) o).heap.size := fun o h => Nat.lt_of_lt_of_le (lt6 h) (by rw [World.size_alloc]; exact Nat.le_succ _)
              rcases hk with (hk | hk) | hk
              · exact Or.inl hk
              · exact Or.inr ⟨hk.1, hsz _ (by omega)⟩
              · exact Or.inr ⟨by have := hk.1; omega, hsz _ hk.2⟩
            · exact Nat.le_trans (le6 (show w.heap.size + 2 ≤ w3.heap.size by omega)) (by rw [World.size_alloc]; exact Nat.le_succ _)

theorem steps_any (v : Tv) (cs : List Value) (w : World) (S : Nat → Prop) (hn : v.nodes ≤ 4000000) (hok : v.ok 0) (h : tmRep.R w S v.tm cs) (hS : ∀ b, S b → b < w.heap.size) :
    Calls Tryd.prog 44 #[.agg cs.toArray] w (StepsAt v w) :=
  (stepsEx_any v cs w S hn hok h hS).mono fun _ w' hh => by
    obtain ⟨u, ds, h1, h2, h3, h4⟩ := hh
    have := h4.size
    exact ⟨u, ds, h1, tmRep.keep h2 (fun _ _ => rfl) (fun k hk => by
      rcases hk with hk | hk
      · have := hS k hk; exact (show k < w'.heap.size by omega)
      · exact hk.2), h3, h4⟩

end Go.Proofs.YthflahcnkhmpaabDoor
