/-
  The reference's size of a named term: the walk.
-/
import Derived.Test.YthflahcnkhmpaabDoorProg
import Derived.Test.YthflahcnkhmpaabDoorNamed
import Derived.Test.YthflahcnkhmpaabDoorSizeTm
import Derived.Test.YthflahcnkhmpaabDoorRepl
namespace Go.Proofs.YthflahcnkhmpaabDoor
open Go Go.RowKit
set_option linter.unusedSimpArgs false
set_option linter.unusedVariables false

set_option maxRecDepth 100000 in
set_option maxHeartbeats 2000000 in
theorem nmSize_any : ∀ (N : Nat) (t : Nt) (cs : List Value) (w : World) (S : Nat → Prop), t.nodes ≤ N → t.nodes ≤ 1000000000000 → nmRep.R w S t cs → (∀ b, S b → b < w.heap.size) →
    Calls Tryd.prog 68 #[.agg cs.toArray] w fun e w' => e = .returned (.int .i64 (t.nodes : Nat)) ∧ Below w.heap.size w w' := by
  intro N
  induction N with
  | zero => intro t; have := t.nodes_pos; intros; omega
  | succ N ih =>
  intro t cs w S hN hM ht hS
  have IH := Lib.hid ih
  clear ih
  obtain ⟨⟨kk, i, s, ty⟩, l⟩ := t
  obtain ⟨u0, u1, v, rfl, _, hty, hl⟩ := Nt.open_ ht
  obtain ⟨sa, Aa, na, ca, rfl, rfl⟩ := hty.shape
  have HL := Lib.hid hl
  obtain ⟨A, m, c, rfl, rfl, hm, _⟩ := hl
  unfold maxLen at hm
  have hbig : 1 + Tree.nodess l ≤ 1000000000000 := by simpa [Tree.nodes] using hM
  clear ht hty
  have HS := Lib.hid hS
  have HN := Lib.hid hN
  clear hS hN
  go_enter Tryd.func68, Tryd.ntmps68
  go_wp2_with fail
  go_loopg [3, 8] l.length (fun k v3 v8 wr => ∃ j : Nat, j + k = l.length ∧ v8 = .int .i64 j ∧ v3 = .int .i64 ((1 + Tree.nodess (l.take j) : Nat) : Int) ∧ Below w.heap.size w wr ∧ wr.heap[w.heap.size]? = some (.cells #[.int .i64 kk, .int .i64 i, .string s, .string sa, .slice Aa na ca, .slice A l.length c] 65 (0, 0)))
  case atStart => exact ⟨0, by omega, rfl, by simp [Tree.nodess, Tree.depths], by go_grown, heap_at rfl⟩
  case round =>
    obtain ⟨j, hj, rfl, rfl, hb, h0⟩ := hrel
    have hle := Tree.nodess_take_le l j
    have hdn : Tree.depths (l.take j) ≤ 1000000000000 := by
      have := Tree.depth_le_nodes (.mk (⟨kk, i, s, ty⟩ : NmL) (l.take j))
      simp [Tree.depth, Tree.nodes] at this; omega
    have HB := Lib.hid hb
    have hbsz := hb.size
    clear hb
    have h0_0 := cv0 h0
    have h0_1 := cv1 h0
    have h0_2 := cv2 h0
    have h0_3 := cv3 h0
    have h0_4 := cv4 h0
    have h0_5 := cv5 h0
    have h0_l := lt_heap h0
    have H0 := Lib.hid h0
    clear h0
    by_cases hjl : j < l.length
    · obtain ⟨b, o, kc, rfl, hSb, hr, hc⟩ := Rep.Sl.at_ HL.out (List.getElem?_eq_getElem hjl)
      obtain ⟨s1, A1, n1, c1, B1, m1, d1, rfl, _, _⟩ := Nt.shape hr
      have hbs := HS.out _ hSb
      have hk := HB.out.block b hbs
      have e0 : wr.cell? ⟨b, o + j * 6, none⟩ = _ := (cell_keep hk _).trans (hc 0 _ rfl)
      have e1 : wr.cell? ⟨b, o + j * 6 + 1, none⟩ = _ := (cell_keep hk _).trans (hc 1 _ rfl)
      have e2 : wr.cell? ⟨b, o + j * 6 + 2, none⟩ = _ := (cell_keep hk _).trans (hc 2 _ rfl)
      have e3 : wr.cell? ⟨b, o + j * 6 + 3, none⟩ = _ := (cell_keep hk _).trans (hc 3 _ rfl)
      have e4 : wr.cell? ⟨b, o + j * 6 + 4, none⟩ = _ := (cell_keep hk _).trans (hc 4 _ rfl)
      have e5 : wr.cell? ⟨b, o + j * 6 + 5, none⟩ = _ := (cell_keep hk _).trans (hc 5 _ rfl)
      have HR := Lib.hid (nmRep.keep hr (fun k hk => HB.out.block k (HS.out k hk)) (fun _ h => h))
      have hn1 := Tree.nodess_take l j hjl
      have hd1 := Tree.depths_take l j hjl
      have hx := Tree.nodess_take_le l (j + 1)
      have hdl := Tree.depth_le_nodes l[j]
      have HN1 := Lib.hid hn1
      have HD1 := Lib.hid hd1
      have q0 : (0 : Int) ≤ (j : Int) := by omega
      have q1 : (j : Int) < (l.length : Int) := by omega
      have p1 : l[j].nodes + Tree.nodess (l.take j) ≤ 1000000000000 := by omega
      have p2 : l[j].depth ≤ 1000000000000 := by omega
      have hbw : b < wr.heap.size := by omega
      have hcall := fun (w' : World) (h : w'.heap = wr.heap) => Lib.hid (IH.out l[j] [.int .i64 l[j].lab.kind, .int .i64 l[j].lab.id, .string l[j].lab.nm, .string s1, .slice A1 n1 c1, .slice B1 m1 d1] w' S (by have := Tree.nodes_at l j hjl; have := HN.out; simp [Tree.nodes] at this; omega) (by omega) (nmRep.keep HR.out (fun k hk => by rw [h]) (fun _ h => h)) (fun b hb => by have := HS.out b hb; rw [h]; omega))
      clear hr hc hk hn1 hd1 hx hdl hle
      have HCALL := Lib.hid hcall
      clear hcall
      go_wp2_with fail
      refine (HCALL.out _ rfl).out.mono ?_
      rintro e w2 ⟨rfl, hw2⟩
      have h2 := (hw2.block _ (by omega)).trans H0.out
      have HW2 := Lib.hid (HB.out.trans (hw2.mono (by omega)))
      have H2 := Lib.hid h2
      clear h2
      clear hw2
      go_wp2_with fail
      all_goals
        go_roundg (l.length - (j + 1))
        case measure => omega
        case rel =>
          refine ⟨j + 1, by omega, by go_num, ?_, HW2.out, H2.out⟩
          first
          | (rw [HN1.out]; congr 1; omega)
          | (rw [HD1.out]; congr 1; omega)
    · go_wp2_with fail
      have h1 : j = l.length := by omega
      go_returns
      subst h1
      rw [List.take_length]
      exact ⟨by simp [Tree.nodes, Tree.depth], HB.out⟩


theorem Nm.tr_nodes : ∀ v : Nm, v.tr.nodes = v.nodes
  | .con _ _ => by simp [Nm.tr, Nm.nodes, Tree.nodes, Tree.nodess]
  | .var _ => by simp [Nm.tr, Nm.nodes, Tree.nodes, Tree.nodess]
  | .abs _ _ b => by simp [Nm.tr, Nm.nodes, Tree.nodes, Tree.nodess, Nm.tr_nodes b]; omega
  | .app f x => by simp [Nm.tr, Nm.nodes, Tree.nodes, Tree.nodess, Nm.tr_nodes f, Nm.tr_nodes x]; omega
theorem Nm.contract_le : ∀ (v : Nm) (n : Nat) (r : Nm × Nat), v.contract n = some r → r.2 ≤ n + v.nodes * v.nodes
  | .con _ _, _, _, h => by simp [Nm.contract] at h
  | .var _, _, _, h => by simp [Nm.contract] at h
  | .abs i s b, n, r, h => by
    simp only [Nm.contract, Option.map_eq_some_iff] at h
    obtain ⟨r', h1, rfl⟩ := h
    have := Nm.contract_le b n r' h1
    simp only [Nm.nodes, Nat.add_mul, Nat.mul_add]; omega
  | .app f x, n, r, h => by
    rcases Nm.contract_app f x n with ⟨i, s, b, rfl, e⟩ | ⟨_, ⟨r', e1, e⟩ | ⟨_, e⟩⟩
    · rw [e] at h
      obtain rfl := Option.some.inj h
      have h1 := Nm.repl_le i x b n
      have h2 : b.nodes * x.nodes ≤ (Nm.app (.abs i s b) x).nodes * (Nm.app (.abs i s b) x).nodes := Nat.mul_le_mul (by simp only [Nm.nodes]; omega) (by simp only [Nm.nodes]; omega)
      omega
    · rw [e] at h
      obtain rfl := Option.some.inj h
      have := Nm.contract_le f n r' e1
      simp only [Nm.nodes, Nat.add_mul, Nat.mul_add]; omega
    · rw [e] at h
      obtain ⟨r', e1, rfl⟩ := Option.map_eq_some_iff.1 h
      have := Nm.contract_le x n r' e1
      simp only [Nm.nodes, Nat.add_mul, Nat.mul_add]; omega
/-- What normal leaves: v is the term that it stands for. -/
def NormAt (v : Tv) (n bn : Nat) (w : World) (S : Nat → Prop) (e : Ending) (w' : World) : Prop :=
  ∃ (u : Nm) (ds : List Value) (m : Nat), e = .returned (.tuple #[.agg ds.toArray, .bool (Tv.steps 2001 v).isSome]) ∧ nmRep.R w' (Ex S w w') u.tr ds ∧ (∀ u', Tv.steps 2001 v = some u' → u.tv [] = u' ∧ u.good m [] ∧ u.nodes ≤ 2000) ∧
    w'.heap[bn]? = some (.cells #[.int .i64 (m : Nat)] 3 (0, 0)) ∧ m ≤ n + 2001 * 4000000 ∧ Mods (· = bn) w.heap.size w w'

set_option maxRecDepth 100000 in
set_option maxHeartbeats 4000000 in
theorem normR_any (v : Nm) (n0 : Nat) (cs : List Value) (w : World) (S : Nat → Prop) (bn : Nat) (hn : v.nodes ≤ 4000000) (hok : v.good n0 []) (hn0 : n0 ≤ 1000000) (h : nmRep.R w S v.tr cs) (hS : ∀ b, S b → b < w.heap.size ∧ b ≠ bn)
    (hbn : w.heap[bn]? = some (.cells #[.int .i64 n0] 3 (0, 0))) :
    Calls Tryd.prog 45 #[.agg cs.toArray, .pointer (some ⟨bn, 0, none⟩)] w (NormAt (v.tv []) n0 bn w S) := by
  have hbl := lt_heap hbn
  obtain ⟨s1, A1, n1, c1, B1, m1, d1, rfl, _, _⟩ := Nt.shape h
  have H := Lib.hid h
  have HS := Lib.hid hS
  have HBN := Lib.hid hbn
  clear h hS hbn
  go_enter Tryd.func45, Tryd.ntmps45
  go_wp2_with fail
  go_loopg [6] 2001 (fun g vi wr => ∃ (i : Nat) (v' : Nm) (nj : Nat) (s : ByteArray) (A : Option Addr) (n c : Nat) (B : Option Addr) (m d : Nat), i + g = 2001 ∧ vi = .int .i64 i ∧ v'.nodes ≤ 4000000 ∧ v'.good nj [] ∧ Tv.steps g (v'.tv []) = Tv.steps 2001 (v.tv []) ∧ nj + g * 4000000 ≤ n0 + 2001 * 4000000 ∧ wr.heap[bn]? = some (.cells #[.int .i64 nj] 3 (0, 0)) ∧
    wr.heap[w.heap.size]? = some (.cells #[.int .i64 v'.tr.lab.kind, .int .i64 v'.tr.lab.id, .string v'.tr.lab.nm, .string s, .slice A n c, .slice B m d] 65 (0, 0)) ∧
    wr.heap[w.heap.size + 1]? = some (.cells #[.int .i64 0, .int .i64 0, .string ⟨#[]⟩, .string ⟨#[]⟩, .slice none 0 0, .slice none 0 0] 65 (0, 0)) ∧
    nmRep.R wr (New S (w.heap.size + 2) wr) v'.tr [.int .i64 v'.tr.lab.kind, .int .i64 v'.tr.lab.id, .string v'.tr.lab.nm, .string s, .slice A n c, .slice B m d] ∧ Mods (· = bn) w.heap.size w wr ∧ w.heap.size + 2 ≤ wr.heap.size)
  case atStart =>
    exact ⟨0, v, n0, s1, A1, n1, c1, B1, m1, d1, by omega, rfl, hn, hok, rfl, Nat.le_refl _, heap_old (by simp; omega) (heap_old hbl HBN.out), heap_old (by simp) (heap_at rfl), heap_at (by simp), nmRep.keep H.out (fun k hk => heap_old (by have := HS.out k hk; simp; omega) (heap_old (HS.out k hk).1 rfl)) (fun k hk => Or.inl hk), Mods.below (by go_grown), by simp⟩
  case round =>
    obtain ⟨i, v', nj, s, A, n, c, B, m, d, hi, rfl, hn', hok', hst, hnj, hbr, ht, hr, hv, hb, hsz⟩ := hrel
    have hlo : ∀ k, New S (w.heap.size + 2) wr k → k < wr.heap.size := New.lo (fun k hk => by have := HS.out k hk; omega) hsz
    have HB := Lib.hid hb
    have HST := Lib.hid hst
    have HBR := Lib.hid hbr
    clear hb hst hbr
    have hb0 : w.heap.size ≠ bn := by omega
    have hb1 : w.heap.size + 1 ≠ bn := by omega
    have hne : ∀ k, New S (w.heap.size + 2) wr k → k ≠ bn := fun k hk => by
      rcases hk with hk | hk
      · exact (HS.out k hk).2
      · have := hk.1; omega
    have HNE := Lib.hid hne
    clear hne
    have ht_0 := cv0 ht
    have ht_1 := cv1 ht
    have ht_2 := cv2 ht
    have ht_3 := cv3 ht
    have ht_4 := cv4 ht
    have ht_5 := cv5 ht
    have ht_f0 := free_heap ht 0
    have ht_f1 := free_heap ht 1
    have ht_f2 := free_heap ht 2
    have ht_f3 := free_heap ht 3
    have ht_f4 := free_heap ht 4
    have ht_f5 := free_heap ht 5
    have ht_l := lt_heap ht
    have HT := Lib.hid ht
    clear ht
    have hr_0 := cv0 hr
    have hr_1 := cv1 hr
    have hr_2 := cv2 hr
    have hr_3 := cv3 hr
    have hr_4 := cv4 hr
    have hr_5 := cv5 hr
    have hr_f0 := free_heap hr 0
    have hr_f1 := free_heap hr 1
    have hr_f2 := free_heap hr 2
    have hr_f3 := free_heap hr 3
    have hr_f4 := free_heap hr 4
    have hr_f5 := free_heap hr 5
    have hr_l := lt_heap hr
    have HR := Lib.hid hr
    clear hr
    cases gk with
    | zero =>
      have hi' : i = 2001 := by omega
      subst hi'
      have HV := Lib.hid hv
      have HLO := Lib.hid hlo
      clear hv hlo
      go_wp2_with fail
      refine bodyPost_ret (v := .tuple #[.agg #[.int .i64 v'.tr.lab.kind, .int .i64 v'.tr.lab.id, .string v'.tr.lab.nm, .string s, .slice A n c, .slice B m d], .bool false]) (by simp [results, Tryd.results45, go_sem, hr_0, hr_1, hr_2, hr_3, hr_4, hr_5, hr_l]) rfl ?_
      have hz : Tv.steps 2001 (v.tv []) = none := HST.out.symm.trans rfl
      unfold NormAt
      rw [hz]
      refine ⟨v', _, nj, rfl, nmRep.keep HV.out (fun k hk => far6 ?_ rfl) (fun k hk => hk.imp id (fun h => ⟨by have := h.1; omega, lt6 h.2⟩)), fun u' h => (by simp at h), far6 (by omega) HBR.out, by omega, mods6 HB.out (by omega)⟩
      rcases hk with hk | hk
      · have := HS.out k hk; omega
      · have := hk.1; omega
    | succ g =>
      have hbig := Lib.hid (nmSize_any v'.tr.nodes v'.tr _ wr _ (Nat.le_refl _) (by rw [Nm.tr_nodes]; omega) hv hlo)
      have HTM : Hid (v'.tr.nodes = v'.nodes) := Lib.hid v'.tr_nodes
      rw [HTM.out] at hbig
      have HV := Lib.hid hv
      have HLO := Lib.hid hlo
      have HBIG := Lib.hid hbig
      clear hv hlo hbig
      go_wp2_with fail
      (with_reducible refine HBIG.out.out.mono ?_)
      rintro e w2 ⟨rfl, hw2⟩
      have hbr2 := (hw2.block bn (by omega)).trans HBR.out
      have ht := (hw2.block _ ht_l).trans HT.out
      have hr := (hw2.block _ hr_l).trans HR.out
      have z2 := hw2.size
      have hb2 := HB.out.thenBelow (hw2.mono (by omega))
      have hv2 := nmRep.keep (S' := New S (w.heap.size + 2) w2) HV.out (fun k hk => hw2.block k (HLO.out k hk)) (fun k hk => New.up z2 k hk)
      have hlo2 : ∀ k, New S (w.heap.size + 2) w2 k → k < w2.heap.size := New.lo (fun k hk => by have := HS.out k hk; omega) (by omega)
      clear ht_0 ht_1 ht_2 ht_3 ht_4 ht_5 ht_f0 ht_f1 ht_f2 ht_f3 ht_f4 ht_f5 ht_l hr_0 hr_1 hr_2 hr_3 hr_4 hr_5 hr_f0 hr_f1 hr_f2 hr_f3 hr_f4 hr_f5 hr_l
      by_cases hg : 2000 < v'.nodes
      · have hgi : (2000 : Int) < (v'.nodes : Int) := by omega
        have hz : Tv.steps 2001 (v.tv []) = none := by rw [← HST.out, Tv.steps, if_pos (by rw [Nm.tv_nodes]; exact hg)]
        have HW2 := Lib.hid hw2
        have HB2 := Lib.hid hb2
        have HV2 := Lib.hid hv2
        have HLO2 := Lib.hid hlo2
        have HZ := Lib.hid hz
        have HBR2 := Lib.hid hbr2
        clear hw2 hb2 hv2 hlo2 hz hbr2
        have ht_0 := cv0 ht
        have ht_1 := cv1 ht
        have ht_2 := cv2 ht
        have ht_3 := cv3 ht
        have ht_4 := cv4 ht
        have ht_5 := cv5 ht
        have ht_f0 := free_heap ht 0
        have ht_f1 := free_heap ht 1
        have ht_f2 := free_heap ht 2
        have ht_f3 := free_heap ht 3
        have ht_f4 := free_heap ht 4
        have ht_f5 := free_heap ht 5
        have ht_l := lt_heap ht
        have HT := Lib.hid ht
        clear ht
        have hr_0 := cv0 hr
        have hr_1 := cv1 hr
        have hr_2 := cv2 hr
        have hr_3 := cv3 hr
        have hr_4 := cv4 hr
        have hr_5 := cv5 hr
        have hr_f0 := free_heap hr 0
        have hr_f1 := free_heap hr 1
        have hr_f2 := free_heap hr 2
        have hr_f3 := free_heap hr 3
        have hr_f4 := free_heap hr 4
        have hr_f5 := free_heap hr 5
        have hr_l := lt_heap hr
        have HR := Lib.hid hr
        clear hr
        go_wp2_with fail
        refine bodyPost_ret (v := .tuple #[.agg #[.int .i64 v'.tr.lab.kind, .int .i64 v'.tr.lab.id, .string v'.tr.lab.nm, .string s, .slice A n c, .slice B m d], .bool false]) (by simp [results, Tryd.results45, go_sem, hr_0, hr_1, hr_2, hr_3, hr_4, hr_5, hr_l]) rfl ?_
        unfold NormAt
        rw [HZ.out]
        refine ⟨v', _, nj, rfl, nmRep.keep HV2.out (fun k hk => far6 ?_ rfl) (fun k hk => hk.imp id (fun h => ⟨by have := h.1; omega, lt6 h.2⟩)), fun u' h => (by simp at h), far6 (by omega) HBR2.out, by omega, mods6 HB2.out (by omega)⟩
        rcases hk with hk | hk
        · have := HS.out k hk; omega
        · have := hk.1; omega
      · have hgi : ¬ (2000 : Int) < (v'.nodes : Int) := by omega
        have hne2 : ∀ k, New S (w.heap.size + 2) w2 k → k ≠ bn := fun k hk => by
          rcases hk with hk | hk
          · exact (HS.out k hk).2
          · have := hk.1; omega
        have hsq : v'.nodes * v'.nodes ≤ 4000000 := Nat.le_trans (Nat.mul_le_mul (show v'.nodes ≤ 2000 by omega) (show v'.nodes ≤ 2000 by omega)) (by decide)
        have hstep := Lib.hid (contract_any v'.nodes v' nj _ w2 _ bn (Nat.le_refl _) (by omega) (by omega) hv2 (fun k hk => ⟨hlo2 k hk, hne2 k hk⟩) hbr2)
        have hct := Nm.contract_tv v' [] nj hok' (by simp)
        have hcl := fun r => v'.contract_le nj r
        have hn2 : v'.nodes ≤ 2000 := by omega
        have HW2 := Lib.hid hw2
        have HB2 := Lib.hid hb2
        have HV2 := Lib.hid hv2
        have HLO2 := Lib.hid hlo2
        have HSTEP := Lib.hid hstep
        have HNE2 := Lib.hid hne2
        have HBR2 := Lib.hid hbr2
        clear hw2 hb2 hv2 hlo2 hstep hne2 hbr2
        have ht_0 := cv0 ht
        have ht_1 := cv1 ht
        have ht_2 := cv2 ht
        have ht_3 := cv3 ht
        have ht_4 := cv4 ht
        have ht_5 := cv5 ht
        have ht_f0 := free_heap ht 0
        have ht_f1 := free_heap ht 1
        have ht_f2 := free_heap ht 2
        have ht_f3 := free_heap ht 3
        have ht_f4 := free_heap ht 4
        have ht_f5 := free_heap ht 5
        have ht_l := lt_heap ht
        have HT := Lib.hid ht
        clear ht
        have hr_0 := cv0 hr
        have hr_1 := cv1 hr
        have hr_2 := cv2 hr
        have hr_3 := cv3 hr
        have hr_4 := cv4 hr
        have hr_5 := cv5 hr
        have hr_f0 := free_heap hr 0
        have hr_f1 := free_heap hr 1
        have hr_f2 := free_heap hr 2
        have hr_f3 := free_heap hr 3
        have hr_f4 := free_heap hr 4
        have hr_f5 := free_heap hr 5
        have hr_l := lt_heap hr
        have HR := Lib.hid hr
        clear hr
        go_wp2_with fail
        (with_reducible refine HSTEP.out.out.mono ?_)
        unfold ContractAt
        rintro e w3 ⟨ds, rfl, hu, hbr3, hw3⟩
        obtain ⟨s3, A3, n3, c3, B3, m3, d3, rfl, _, _⟩ := Nt.shape hu
        have ht := (hw3.block _ ht_l hb0).trans HT.out
        have hr := (hw3.block _ hr_l hb1).trans HR.out
        have z3 := hw3.size
        have hb3 := HB2.out.trans (hw3.mono (by omega))
        clear ht_0 ht_1 ht_2 ht_3 ht_4 ht_5 ht_f0 ht_f1 ht_f2 ht_f3 ht_f4 ht_f5 ht_l hr_0 hr_1 hr_2 hr_3 hr_4 hr_5 hr_f0 hr_f1 hr_f2 hr_f3 hr_f4 hr_f5 hr_l
        have HU := Lib.hid hu
        have HW3 := Lib.hid hw3
        have HB3 := Lib.hid hb3
        have HBR3 := Lib.hid hbr3
        clear hu hw3 hb3 hbr3
        have ht_0 := cv0 ht
        have ht_1 := cv1 ht
        have ht_2 := cv2 ht
        have ht_3 := cv3 ht
        have ht_4 := cv4 ht
        have ht_5 := cv5 ht
        have ht_f0 := free_heap ht 0
        have ht_f1 := free_heap ht 1
        have ht_f2 := free_heap ht 2
        have ht_f3 := free_heap ht 3
        have ht_f4 := free_heap ht 4
        have ht_f5 := free_heap ht 5
        have ht_l := lt_heap ht
        have HT := Lib.hid ht
        clear ht
        have hr_0 := cv0 hr
        have hr_1 := cv1 hr
        have hr_2 := cv2 hr
        have hr_3 := cv3 hr
        have hr_4 := cv4 hr
        have hr_5 := cv5 hr
        have hr_f0 := free_heap hr 0
        have hr_f1 := free_heap hr 1
        have hr_f2 := free_heap hr 2
        have hr_f3 := free_heap hr 3
        have hr_f4 := free_heap hr 4
        have hr_f5 := free_heap hr 5
        have hr_l := lt_heap hr
        have HR := Lib.hid hr
        clear hr
        have l1 : w.heap.size < w3.heap.size + 1 := by omega
        cases hs : v'.contract nj with
        | none =>
          rw [hs] at hct
          have hct : (v'.tv []).step = none := hct
          have hz : Tv.steps 2001 (v.tv []) = some (v'.tv []) := by rw [← HST.out, Tv.steps, if_neg (by rw [Nm.tv_nodes]; exact hg), hct]
          have HS_ := Lib.hid hs
          have HGD := Lib.hid hok'
          clear hs hct hcl
          have HZ := Lib.hid hz
          clear hz
          simp only [HS_.out, Option.isSome_none, Option.getD_none]
          simp only [HS_.out, Option.getD_none] at HBR3
          go_upto_region 8 with (fail)
          go_cut [5] (fun s5 wx => s5 = .bool true ∧ wx.heap[bn]? = some (.cells #[.int .i64 nj] 3 (0, 0)) ∧ wx.heap[w.heap.size + 1]? = some (.cells #[.int .i64 v'.tr.lab.kind, .int .i64 v'.tr.lab.id, .string v'.tr.lab.nm, .string s, .slice A n c, .slice B m d] 65 (0, 0)) ∧ nmRep.R wx (Ex S w wx) v'.tr [.int .i64 v'.tr.lab.kind, .int .i64 v'.tr.lab.id, .string v'.tr.lab.nm, .string s, .slice A n c, .slice B m d] ∧ Mods (· = bn) w.heap.size w wx)
          case first =>
            go_wp2_with fail
            go_meet
            refine ⟨rfl, heap_old (lt6 (by omega)) (far6 (by omega) HBR3.out), heap_old (lt6 hr_l) (at6 HR.out), nmRep.keep HV2.out (fun k hk => heap_old (lt6 (by have := HLO2.out k hk; omega)) (far6 ?_ (HW3.out.block k (HLO2.out k hk) (HNE2.out k hk)))) (fun k hk => ?_), (mods6 HB3.out (by omega)).alloc (le6 (by omega)) _⟩
            · rcases hk with hk | hk
              · have := HS.out k hk; omega
              · have := hk.1; omega
            · have := HLO2.out k hk
              have h1 := Nat.lt_of_lt_of_le (lt6 (v0 := .int .i64 v'.tr.lab.kind) (v1 := .int .i64 v'.tr.lab.id) (v2 := .string v'.tr.lab.nm) (v3 := .string s) (v4 := .slice A n c) (v5 := .slice B m d) (b := w.heap.size + 1) (show k < w3.heap.size by omega)) (Nat.le_succ _)
              exact hk.imp id (fun h => ⟨by have := h.1; omega, by rw [World.size_alloc]; exact h1⟩)
          case rest =>
            obtain ⟨rfl, kb, kr, hvx, hbx⟩ := hcut
            rename World => wx
            clear ht_0 ht_1 ht_2 ht_3 ht_4 ht_5 ht_f0 ht_f1 ht_f2 ht_f3 ht_f4 ht_f5 ht_l hr_0 hr_1 hr_2 hr_3 hr_4 hr_5 hr_f0 hr_f1 hr_f2 hr_f3 hr_f4 hr_f5 hr_l
            have HVX := Lib.hid hvx
            have HBX := Lib.hid hbx
            have KB := Lib.hid kb
            clear hvx hbx kb
            have kr_0 := cv0 kr
            have kr_1 := cv1 kr
            have kr_2 := cv2 kr
            have kr_3 := cv3 kr
            have kr_4 := cv4 kr
            have kr_5 := cv5 kr
            have kr_l := lt_heap kr
            have KR := Lib.hid kr
            clear kr
            go_wp2_with fail
            refine bodyPost_ret (v := .tuple #[.agg #[.int .i64 v'.tr.lab.kind, .int .i64 v'.tr.lab.id, .string v'.tr.lab.nm, .string s, .slice A n c, .slice B m d], .bool true]) (by simp [results, Tryd.results45, go_sem, kr_0, kr_1, kr_2, kr_3, kr_4, kr_5, kr_l]) rfl ?_
            unfold NormAt
            rw [HZ.out]
            exact ⟨v', _, nj, rfl, HVX.out, fun u' h => ⟨Option.some.inj h, HGD.out, hn2⟩, KB.out, by omega, HBX.out⟩
        | some ur =>
          obtain ⟨u, nu⟩ := ur
          rw [hs] at hct
          obtain ⟨hct, hok2, _⟩ : _ ∧ _ ∧ _ := hct
          have hle := hcl _ hs
          have hns : u.nodes ≤ 4000000 := by
            have := Tv.step_small hct (by rw [Nm.tv_nodes]; exact hn2)
            rwa [Nm.tv_nodes] at this
          have hz : Tv.steps g (u.tv []) = Tv.steps 2001 (v.tv []) := by rw [← HST.out, Tv.steps, if_neg (by rw [Nm.tv_nodes]; exact hg), hct]
          have HS_ := Lib.hid hs
          clear hs hct hcl
          have HZ := Lib.hid hz
          have HOK2 := Lib.hid hok2
          clear hz hok2
          simp only [HS_.out, Option.isSome_some, Option.getD_some]
          simp only [HS_.out, Option.getD_some] at HU HBR3
          go_wp2_with fail
          go_roundg g
          case measure => omega
          case rel =>
            refine ⟨i + 1, u, nu, s3, A3, n3, c3, B3, m3, d3, by omega, by go_num, hns, HOK2.out, HZ.out, by omega, heap_old (lt6 (by omega)) (far6 (by omega) HBR3.out), heap_old (lt6 ht_l) (at6 HT.out), heap_old (lt6 hr_l) (far6 (by omega) HR.out), nmRep.keep HU.out (fun k hk => heap_old (lt6 ?_) (far6 ?_ rfl)) (fun k hk => ?_), (mods6 HB3.out (by omega)).alloc (le6 (by omega)) _, ?_⟩
            · rcases hk with hk | hk
              · have := HLO2.out k hk; omega
              · exact hk.2
            · rcases hk with (hk | hk) | hk
              · have := HS.out k hk; omega
              · have := hk.1; omega
              · have := hk.1; omega
            · have hsz : ∀ o : Obj, k < w3.heap.size → k < (World.alloc (((((((w3.setCell ⟨w.heap.size, 0, none⟩ (.int .i64 u.tr.lab.kind)).setCell ⟨w.heap.size, 1, none⟩ (.int .i64 u.tr.lab.id)).setCell ⟨w.heap.size, 2, none⟩ (.string u.tr.lab.nm)).setCell ⟨w.heap.size, 3, none⟩ (.string s3)).setCell ⟨w.heap.size, 4, none⟩ (.slice A3 n3 c3)).setCell ⟨w.heap.size, 5, none⟩ (.slice B3 m3 d3))) o).heap.size := fun o h => Nat.lt_of_lt_of_le (lt6 h) (by rw [World.size_alloc]; exact Nat.le_succ _)
              rcases hk with (hk | hk) | hk
              · exact Or.inl hk
              · exact Or.inr ⟨hk.1, hsz _ (by omega)⟩
              · exact Or.inr ⟨by have := hk.1; omega, hsz _ hk.2⟩
            · exact Nat.le_trans (le6 (show w.heap.size + 2 ≤ w3.heap.size by omega)) (by rw [World.size_alloc]; exact Nat.le_succ _)


def tmZero0 : Tm := .mk ⟨0, bNil, 0, noTy⟩ []
theorem tmZero0_in {W : World} {S : Nat → Prop} : tmRep.R W S tmZero0 [.int .i64 0, .string ⟨#[]⟩, .int .i64 0, .string ⟨#[]⟩, .slice none 0 0, .slice none 0 0] :=
  Tm.shut (a := ⟨0, bNil, 0, noTy⟩) (l := []) (by decide +kernel) (Ty.In.mk_ (by decide +kernel) rfl (by omega) (by omega)) Rep.Sl.nil
/-- What the reference's Normal (or Long) returns: whether there is a form, and it. -/
def RefFormAt (r : Tv → Option Tv) (v : Tv) (w : World) (e : Ending) (w' : World) : Prop :=
  ∃ (U : Tm) (ds : List Value), e = .returned (.tuple #[.agg ds.toArray, .bool (r v).isSome]) ∧ tmRep.R w' (Lo w') U ds ∧ (∀ u, r v = some u → U = u.tm) ∧ Below w.heap.size w w'

set_option maxRecDepth 100000 in
set_option maxHeartbeats 4000000 in
theorem refNormal_any (v : Tv) (cs : List Value) (w : World) (S : Nat → Prop) (hok : v.ok 0) (hn : v.nodes ≤ 200) (h : tmRep.R w S v.tm cs) (hS : ∀ b, S b → b < w.heap.size) :
    Calls Tryd.prog 19 #[.agg cs.toArray] w (RefFormAt (Tv.steps 2001) v w) := by
  obtain ⟨s0, A0, n0, c0, B0, m0, d0, rfl, _, _⟩ := Tm.shape h
  have hgood := Nm.of_tv v [] 0 hok List.nodup_nil (by simp)
  have hnx := Nm.of_nodes hok
  have hle := Nm.of_le v [] 0
  have hna := fun (o p q : Obj) (hq : q = .cells #[.int .i64 0] 3) => Lib.hid (names_any v.nodes v [] 0 [.int .i64 v.tm.lab.kind, .string v.tm.lab.nm, .int .i64 v.tm.lab.ix, .string s0, .slice A0 n0 c0, .slice B0 m0 d0] (.slice none 0 0) (((w.alloc o).alloc p).alloc q) S (fun _ => False) (w.heap.size + 1 + 1) (Nat.le_refl _) hok (by omega) (by simp; omega)
    (tmRep.keep h (fun k hk => heap_old (by have := hS k hk; simp; omega) (heap_old (by have := hS k hk; simp; omega) (heap_old (hS k hk) rfl))) (fun _ h => h)) Rep.Sl.nil (fun k hk => ⟨by have := hS k hk; simp; omega, by have := hS k hk; omega⟩) (fun _ h => h.elim) (by subst hq; exact heap_at (by simp)))
  generalize hX : (Nm.of v [] 0).1 = x at *
  generalize hN : (Nm.of v [] 0).2 = n at *
  have HXX := Lib.hid hX
  have HNN := Lib.hid hN
  clear hX hN h
  have HS := Lib.hid hS
  have HNA := Lib.hid hna
  have HOK := Lib.hid hok
  clear hS hna hok
  go_enter Tryd.func19, Tryd.ntmps19
  go_wp2_with fail
  (with_reducible refine (HNA.out _ _ _ rfl).out.mono ?_)
  unfold NamesAt
  rw [HXX.out, HNN.out]
  rintro e w1 ⟨es, rfl, hu, hb1, hm1⟩
  obtain ⟨s1, A1, n1, c1, B1, m1, d1, rfl, _, _⟩ := Nt.shape hu
  have z1 : w.heap.size + 3 ≤ w1.heap.size := by have := hm1.size; simpa using this
  have p0 := (hm1.block w.heap.size (by simp; omega) (by omega)).trans (heap_old (by simp <;> omega) (heap_old (by simp) (heap_at rfl)))
  have p1 := (hm1.block (w.heap.size + 1) (by simp <;> omega) (by omega)).trans (heap_old (by simp) (heap_at (by simp)))
  have hmw : Mods (· = w.heap.size + 1 + 1) w.heap.size w w1 := (Mods.below (by go_grown : Below w.heap.size w (((w.alloc _).alloc _).alloc _))).trans (hm1.mono (by simp; omega))
  have hu' : nmRep.R w1 (fun k => S k ∨ (w.heap.size + 3 ≤ k ∧ k < w1.heap.size)) x.tr [.int .i64 x.tr.lab.kind, .int .i64 x.tr.lab.id, .string x.tr.lab.nm, .string s1, .slice A1 n1 c1, .slice B1 m1 d1] := nmRep.keep hu (fun _ _ => rfl) (fun k hk => hk.imp_right (fun hk => by have := hk.1; simp at this; exact ⟨by omega, hk.2⟩))
  have hno := Lib.hid (normR_any x n [.int .i64 x.tr.lab.kind, .int .i64 x.tr.lab.id, .string x.tr.lab.nm, .string s1, .slice A1 n1 c1, .slice B1 m1 d1] w1 (fun k => S k ∨ (w.heap.size + 3 ≤ k ∧ k < w1.heap.size)) (w.heap.size + 1 + 1) (by omega) hgood.2.1 (by omega) hu' (fun k hk => by
    rcases hk with hk | hk
    · have := HS.out k hk; exact ⟨by omega, by omega⟩
    · exact ⟨hk.2, by omega⟩) hb1)
  rw [hgood.1] at hno
  clear hu hu' hgood
  have HM1 := Lib.hid hm1
  have HMW := Lib.hid hmw
  have HNO := Lib.hid hno
  have HB1 := Lib.hid hb1
  clear hm1 hmw hno hb1
  have p0_0 := cv0 p0
  have p0_1 := cv1 p0
  have p0_2 := cv2 p0
  have p0_3 := cv3 p0
  have p0_4 := cv4 p0
  have p0_5 := cv5 p0
  have p0_l := lt_heap p0
  have P0 := Lib.hid p0
  clear p0
  have p1_0 := cv0 p1
  have p1_1 := cv1 p1
  have p1_2 := cv2 p1
  have p1_3 := cv3 p1
  have p1_4 := cv4 p1
  have p1_5 := cv5 p1
  have p1_f0 := free_heap p1 0
  have p1_f1 := free_heap p1 1
  have p1_f2 := free_heap p1 2
  have p1_f3 := free_heap p1 3
  have p1_f4 := free_heap p1 4
  have p1_f5 := free_heap p1 5
  have p1_l := lt_heap p1
  have P1 := Lib.hid p1
  clear p1
  go_wp2_with fail
  (with_reducible refine HNO.out.out.mono ?_)
  unfold NormAt
  rintro e w2 ⟨y, es, m, rfl, hu, hyt, hb2, -, hm2⟩
  obtain ⟨s2, A2, n2, c2, B2, m2, d2, rfl, _, _⟩ := Nt.shape hu
  have z2 : w1.heap.size ≤ w2.heap.size := hm2.size
  have p1 := (hm2.block (w.heap.size + 1) (by omega) (by omega)).trans P1.out
  have hmw2 : Mods (· = w.heap.size + 1 + 1) w.heap.size w w2 := HMW.out.trans (hm2.mono (by omega))
  have hu' : nmRep.R w2 (fun k => S k ∨ (w.heap.size + 3 ≤ k ∧ k < w2.heap.size)) y.tr [.int .i64 y.tr.lab.kind, .int .i64 y.tr.lab.id, .string y.tr.lab.nm, .string s2, .slice A2 n2 c2, .slice B2 m2 d2] := nmRep.keep hu (fun _ _ => rfl) (fun k hk => by
    rcases hk with (hk | hk) | hk
    · exact Or.inl hk
    · exact Or.inr ⟨hk.1, by omega⟩
    · exact Or.inr ⟨by have := hk.1; omega, hk.2⟩)
  have hs2 : ∀ k, (S k ∨ (w.heap.size + 3 ≤ k ∧ k < w2.heap.size)) → k < w2.heap.size := fun k hk => by
    rcases hk with hk | hk
    · have := HS.out k hk; omega
    · exact hk.2
  clear p0_0 p0_1 p0_2 p0_3 p0_4 p0_5 p0_l p1_0 p1_1 p1_2 p1_3 p1_4 p1_5 p1_f0 p1_f1 p1_f2 p1_f3 p1_f4 p1_f5 p1_l
  cases hr : Tv.steps 2001 v with
  | none =>
    have HR := Lib.hid hr
    clear hu hu' hs2 hyt hr
    have HM2 := Lib.hid hm2
    have HMW2 := Lib.hid hmw2
    clear hm2 hmw2
    have p1_0 := cv0 p1
    have p1_1 := cv1 p1
    have p1_2 := cv2 p1
    have p1_3 := cv3 p1
    have p1_4 := cv4 p1
    have p1_5 := cv5 p1
    have p1_f0 := free_heap p1 0
    have p1_f1 := free_heap p1 1
    have p1_f2 := free_heap p1 2
    have p1_f3 := free_heap p1 3
    have p1_f4 := free_heap p1 4
    have p1_f5 := free_heap p1 5
    have p1_l := lt_heap p1
    have P1 := Lib.hid p1
    clear p1
    simp only [Option.isSome_none]
    go_upto_region 4 with (fail)
    go_cut [3] (fun s3 wx => s3 = .bool false ∧ Mods (· = w.heap.size + 1 + 1) w.heap.size w wx ∧ wx.heap[w.heap.size + 1]? = some (.cells #[.int .i64 0, .string ⟨#[]⟩, .int .i64 0, .string ⟨#[]⟩, .slice none 0 0, .slice none 0 0] 27 (0, 0)))
    case first =>
      go_wp2_with fail
      go_meet
      exact ⟨rfl, (mods6 HMW2.out (by omega)).alloc (le6 (by omega)) _, heap_old (lt6 p1_l) (at6 P1.out)⟩
    case rest =>
      obtain ⟨rfl, hbx, k2⟩ := hcut
      rename World => wx
      clear p1_0 p1_1 p1_2 p1_3 p1_4 p1_5 p1_f0 p1_f1 p1_f2 p1_f3 p1_f4 p1_f5 p1_l
      have HBX := Lib.hid hbx
      clear hbx
      have k2_0 := cv0 k2
      have k2_1 := cv1 k2
      have k2_2 := cv2 k2
      have k2_3 := cv3 k2
      have k2_4 := cv4 k2
      have k2_5 := cv5 k2
      have k2_l := lt_heap k2
      have K2 := Lib.hid k2
      clear k2
      go_wp2_with fail
      refine bodyPost_ret (v := .tuple #[.agg #[.int .i64 0, .string ⟨#[]⟩, .int .i64 0, .string ⟨#[]⟩, .slice none 0 0, .slice none 0 0], .bool false]) (by simp [results, Tryd.results19, go_sem, k2_0, k2_1, k2_2, k2_3, k2_4, k2_5, k2_l]) rfl ?_
      unfold RefFormAt
      rw [HR.out]
      exact ⟨tmZero0, [.int .i64 0, .string ⟨#[]⟩, .int .i64 0, .string ⟨#[]⟩, .slice none 0 0, .slice none 0 0], rfl, tmZero0_in, fun u h => by simp at h, HBX.out.toBelow (fun k hk => by have h2 : k = w.heap.size + 1 + 1 := hk; omega)⟩
  | some u =>
    obtain ⟨hy1, hy2, hy3⟩ := hyt u hr
    have hba := fun (o : Obj) => Lib.hid (back_any y.nodes y [] [.int .i64 y.tr.lab.kind, .int .i64 y.tr.lab.id, .string y.tr.lab.nm, .string s2, .slice A2 n2 c2, .slice B2 m2 d2] (.slice none 0 0) (w2.alloc o) (fun k => S k ∨ (w.heap.size + 3 ≤ k ∧ k < w2.heap.size)) (fun _ => False) (Nat.le_refl _) (by simp; omega) (nmRep.keep hu' (fun k hk => heap_old (hs2 k hk) rfl) (fun _ h => h)) Rep.Sl.nil (fun k hk => by have := hs2 k hk; simp; omega) (fun _ h => h.elim))
    have HR := Lib.hid hr
    clear hu hu' hs2 hyt hr
    have HM2 := Lib.hid hm2
    have HMW2 := Lib.hid hmw2
    have HBA := Lib.hid hba
    have HY1 := Lib.hid hy1
    clear hm2 hmw2 hba hy1
    have p1_0 := cv0 p1
    have p1_1 := cv1 p1
    have p1_2 := cv2 p1
    have p1_3 := cv3 p1
    have p1_4 := cv4 p1
    have p1_5 := cv5 p1
    have p1_f0 := free_heap p1 0
    have p1_f1 := free_heap p1 1
    have p1_f2 := free_heap p1 2
    have p1_f3 := free_heap p1 3
    have p1_f4 := free_heap p1 4
    have p1_f5 := free_heap p1 5
    have p1_l := lt_heap p1
    have P1 := Lib.hid p1
    clear p1
    simp only [Option.isSome_some]
    go_wp2_with fail
    (with_reducible refine (HBA.out _).out.mono ?_)
    unfold BackAt
    rw [HY1.out]
    rintro e w3 ⟨es, rfl, hu, hw3⟩
    obtain ⟨s3, A3, n3, c3, B3, m3, d3, rfl, _, _⟩ := Tm.shape hu
    have z3 : w2.heap.size + 1 ≤ w3.heap.size := by have := hw3.size; simpa using this
    have p1 := (hw3.block (w.heap.size + 1) (by simp; omega)).trans (heap_old p1_l P1.out)
    have hB3 : Mods (· = w.heap.size + 1 + 1) w.heap.size w w3 := (HMW2.out.alloc (by omega) _).thenBelow (hw3.mono (by simp; omega))
    clear p1_0 p1_1 p1_2 p1_3 p1_4 p1_5 p1_f0 p1_f1 p1_f2 p1_f3 p1_f4 p1_f5 p1_l
    have HU := Lib.hid hu
    have HB3 := Lib.hid hB3
    have HW3 := Lib.hid hw3
    clear hu hB3 hw3
    have p1_0 := cv0 p1
    have p1_1 := cv1 p1
    have p1_2 := cv2 p1
    have p1_3 := cv3 p1
    have p1_4 := cv4 p1
    have p1_5 := cv5 p1
    have p1_f0 := free_heap p1 0
    have p1_f1 := free_heap p1 1
    have p1_f2 := free_heap p1 2
    have p1_f3 := free_heap p1 3
    have p1_f4 := free_heap p1 4
    have p1_f5 := free_heap p1 5
    have p1_l := lt_heap p1
    have P1 := Lib.hid p1
    clear p1
    go_wp2_with fail
    refine bodyPost_ret (v := .tuple #[.agg #[.int .i64 u.tm.lab.kind, .string u.tm.lab.nm, .int .i64 u.tm.lab.ix, .string s3, .slice A3 n3 c3, .slice B3 m3 d3], .bool true]) (by simp [results, Tryd.results19, go_sem, p1_0, p1_1, p1_2, p1_3, p1_4, p1_5, p1_l]) rfl ?_
    unfold RefFormAt
    rw [HR.out]
    refine ⟨u.tm, _, rfl, ?_, fun u' h => by rw [Option.some.inj h], (mods6 HB3.out (by omega)).toBelow (fun k hk => by have h2 : k = w.heap.size + 1 + 1 := hk; omega)⟩
    refine tmRep.keep HU.out (fun k hk => far6 ?_ rfl) (fun k hk => ?_)
    · rcases hk with (hk | hk) | hk
      · have := HS.out k hk; omega
      · omega
      · have := hk.1; simp at this; omega
    · rcases hk with (hk | hk) | hk
      · exact (show k < _ from lt6 (by have := HS.out k hk; omega))
      · exact (show k < _ from lt6 (by omega))
      · exact (show k < _ from lt6 hk.2)

end Go.Proofs.YthflahcnkhmpaabDoor
