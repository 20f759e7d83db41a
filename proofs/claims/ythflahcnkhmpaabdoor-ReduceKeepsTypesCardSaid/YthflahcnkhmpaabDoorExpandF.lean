/-
  reduce.Expand: the walk.
-/
import Derived.Test.YthflahcnkhmpaabDoorProg
import Derived.Test.YthflahcnkhmpaabDoorSteps
import Derived.Test.YthflahcnkhmpaabDoorExpBase
namespace Go.Proofs.YthflahcnkhmpaabDoor
open Go Go.RowKit
set_option linter.unusedSimpArgs false
set_option linter.unusedVariables false

/-- The long normal form. -/
def Tv.long (v : Tv) : Option Tv := match v.typ [], Tv.steps 2001 v with
  | some s, some x => if (Tv.expand 2001 x s [] 2000).2 < 0 then none else some (Tv.expand 2001 x s [] 2000).1
  | _, _ => none
/-- What Expand returns. -/
def ExpandAt (v : Tv) (w : World) (e : Ending) (w' : World) : Prop :=
  ∃ (u : Tv) (ds : List Value), e = .returned (.tuple #[.agg ds.toArray, .bool (Tv.long v).isSome]) ∧ tmRep.R w' (Lo w') u.tm ds ∧ (∀ u', Tv.long v = some u' → u = u') ∧ Below w.heap.size w w'

set_option maxRecDepth 100000 in
set_option maxHeartbeats 4000000 in
theorem expandF_any (v : Tv) (s : Sy) (cs : List Value) (w : World) (S : Nat → Prop) (hn : v.nodes ≤ 90000) (hok : v.ok 0) (hty : v.typ [] = some s) (h : tmRep.R w S v.tm cs) (hS : ∀ b, S b → b < w.heap.size) :
    Calls Tryd.prog 54 #[.agg cs.toArray] w (ExpandAt v w) := by
  obtain ⟨s1, A1, n1, c1, B1, m1, d1, rfl, _, _⟩ := Tm.shape h
  have hold : ∀ (o p : Obj) k, S k → ((w.alloc o).alloc p).heap[k]? = w.heap[k]? := fun o p k hk => heap_old (by have := hS k hk; simp; omega) (heap_old (hS k hk) rfl)
  have htp := fun (o p : Obj) => Lib.hid (typed_any v [] [.int .i64 v.tm.lab.kind, .string v.tm.lab.nm, .int .i64 v.tm.lab.ix, .string s1, .slice A1 n1 c1, .slice B1 m1 d1] (.slice none 0 0) ((w.alloc o).alloc p) S hok (by have := v.depth_le_nodes; simp only [List.length_nil]; omega) (tmRep.keep h (hold o p) (fun _ h => h)) Ctx.nil (fun k hk => by have := hS k hk; simp; omega))
  have H := Lib.hid h
  have HS := Lib.hid hS
  have HTP := Lib.hid htp
  have HOLD := Lib.hid hold
  have HTY := Lib.hid hty
  have HOK := Lib.hid hok
  clear h hS htp hold hty hok
  go_enter Tryd.func54, Tryd.ntmps54
  go_wp2_with fail
  (with_reducible refine (HTP.out _ _).out.mono ?_)
  rintro e w1 ⟨⟨v0, v1, ok, T, rfl, hT, hrr⟩, hw1⟩
  rw [HTY.out] at hrr
  obtain ⟨rfl, rfl⟩ := hrr
  obtain ⟨sg, Ag, ng, cg, rfl, rfl⟩ := hT.shape
  have z1 : w.heap.size + 2 ≤ w1.heap.size := by have := hw1.size; simpa using this
  have p0 := (hw1.block w.heap.size (by simp; omega)).trans (heap_old (by simp) (heap_at rfl))
  have p1 := (hw1.block (w.heap.size + 1) (by simp)).trans (heap_at (by simp))
  have hB1 : Below w.heap.size w w1 := ((((Below.refl _ w).alloc (Nat.le_refl _) _).alloc (by simp) _)).trans (hw1.mono (by simp; omega))
  have hT1 : s.ty.In w1 (fun k => k < w1.heap.size ∧ k ≠ w.heap.size + 1) (.string sg) (.slice Ag ng cg) := hT.mono (fun b hb => by
    rcases hb with hb | hb
    · have := HS.out b hb; exact ⟨by omega, by omega⟩
    · have h1 : w.heap.size + 2 ≤ b := by have := hb.1; simpa using this
      exact ⟨hb.2, by omega⟩)
  have hst := fun (o : Obj) => Lib.hid (stepsEx_any v [.int .i64 v.tm.lab.kind, .string v.tm.lab.nm, .int .i64 v.tm.lab.ix, .string s1, .slice A1 n1 c1, .slice B1 m1 d1] (w1.alloc o) S (by omega) HOK.out (tmRep.keep H.out (fun k hk => (heap_old (by have := HS.out k hk; omega) rfl).trans (hB1.block k (HS.out k hk))) (fun _ h => h)) (fun k hk => by have := HS.out k hk; simp; omega))
  clear hT hw1
  have HB1 := Lib.hid hB1
  have HT1 := Lib.hid hT1
  have HST := Lib.hid hst
  clear hB1 hT1 hst
  have p0_0 := cv0 p0
  have p0_1 := cv1 p0
  have p0_2 := cv2 p0
  have p0_3 := cv3 p0
  have p0_4 := cv4 p0
  have p0_5 := cv5 p0
  have p0_l := lt_heap p0
  have P0 := Lib.hid p0
  clear p0
  have p1_0 := cv0 p1
  have p1_1 := cv1 p1
  have p1_2 := cv2 p1
  have p1_3 := cv3 p1
  have p1_4 := cv4 p1
  have p1_5 := cv5 p1
  have p1_l := lt_heap p1
  have P1 := Lib.hid p1
  clear p1
  go_wp2_with fail
  (with_reducible refine (HST.out _).out.mono ?_)
  rintro e w2 ⟨u, ds, rfl, hu, hsu, hw2⟩
  obtain ⟨s2, A2, n2, c2, B2, m2, d2, rfl, _, _⟩ := Tm.shape hu
  have hu' : tmRep.R w2 (fun k => k < w2.heap.size ∧ k ≠ w.heap.size + 1) u.tm [.int .i64 u.tm.lab.kind, .string u.tm.lab.nm, .int .i64 u.tm.lab.ix, .string s2, .slice A2 n2 c2, .slice B2 m2 d2] := tmRep.keep hu (fun _ _ => rfl) (fun k hk => by
    have z2 := hw2.size
    simp at z2
    rcases hk with hk | hk
    · have := HS.out k hk; exact ⟨by omega, by omega⟩
    · have h1 : w1.heap.size + 1 ≤ k := by have := hk.1; simpa using this
      exact ⟨hk.2, by omega⟩)
  have z2 : w1.heap.size + 1 ≤ w2.heap.size := by have := hw2.size; simpa using this
  have p0 := (hw2.block _ (by simp; omega)).trans (heap_old p0_l P0.out)
  have p1 := (hw2.block _ (by simp; omega)).trans (heap_old p1_l P1.out)
  have p4 := (hw2.block w1.heap.size (by simp)).trans (heap_at rfl)
  have hB2 : Below w.heap.size w w2 := (HB1.out.alloc (by omega) _).trans (hw2.mono (by simp; omega))
  have hT2 : s.ty.In w2 (fun k => k < w1.heap.size ∧ k ≠ w.heap.size + 1) (.string sg) (.slice Ag ng cg) := HT1.out.keep (fun k hk => by have h' : k < w1.heap.size := hk.1; exact (hw2.block k (by simp; omega)).trans (heap_old h' rfl))
  clear p0_0 p0_1 p0_2 p0_3 p0_4 p0_5 p0_l p1_0 p1_1 p1_2 p1_3 p1_4 p1_5 p1_l
  clear hu
  have HB2 := Lib.hid hB2
  have HT2 := Lib.hid hT2
  have HW2 := Lib.hid hw2
  have HUP := Lib.hid hu'
  have HSU := Lib.hid hsu
  clear hB2 hT2 hw2 hu' hsu
  have p0_0 := cv0 p0
  have p0_1 := cv1 p0
  have p0_2 := cv2 p0
  have p0_3 := cv3 p0
  have p0_4 := cv4 p0
  have p0_5 := cv5 p0
  have p0_l := lt_heap p0
  have P0 := Lib.hid p0
  clear p0
  have p1_0 := cv0 p1
  have p1_1 := cv1 p1
  have p1_2 := cv2 p1
  have p1_3 := cv3 p1
  have p1_4 := cv4 p1
  have p1_5 := cv5 p1
  have p1_f0 := free_heap p1 0
  have p1_f1 := free_heap p1 1
  have p1_f2 := free_heap p1 2
  have p1_f3 := free_heap p1 3
  have p1_f4 := free_heap p1 4
  have p1_f5 := free_heap p1 5
  have p1_l := lt_heap p1
  have P1 := Lib.hid p1
  clear p1
  have p4_0 := cv0 p4
  have p4_1 := cv1 p4
  have p4_l := lt_heap p4
  have P4 := Lib.hid p4
  clear p4
  have hv2 : ∀ W : World, Below w2.heap.size w2 W → tmRep.R W (Lo W) v.tm [.int .i64 v.tm.lab.kind, .string v.tm.lab.nm, .int .i64 v.tm.lab.ix, .string s1, .slice A1 n1 c1, .slice B1 m1 d1] := fun W hW => tmRep.keep H.out (fun k hk => (hW.block k (by have := HS.out k hk; omega)).trans (HB2.out.block k (HS.out k hk))) (fun k hk => by have := HS.out k hk; have := hW.size; exact (show k < W.heap.size by omega))
  have HV2 := Lib.hid hv2
  clear hv2
  cases hs : Tv.steps 2001 v with
  | none =>
    have hl : Tv.long v = none := by unfold Tv.long; rw [HTY.out, hs]
    have HSN := Lib.hid hs
    clear hs
    simp only [HSN.out, Option.isSome_none]
    have HL := Lib.hid hl
    clear hl
    go_upto_region 4 with (fail)
    go_cut [3] (fun s3 wx => s3 = .bool false ∧ wx.heap[w.heap.size + 1]? = some (.cells #[.int .i64 v.tm.lab.kind, .string v.tm.lab.nm, .int .i64 v.tm.lab.ix, .string s1, .slice A1 n1 c1, .slice B1 m1 d1] 27 (0, 0)) ∧ tmRep.R wx (Lo wx) v.tm [.int .i64 v.tm.lab.kind, .string v.tm.lab.nm, .int .i64 v.tm.lab.ix, .string s1, .slice A1 n1 c1, .slice B1 m1 d1] ∧ Below w.heap.size w wx)
    case first =>
      go_wp2_with fail
      go_meet
      refine ⟨rfl, heap_old (lt6 p1_l) (at6 P1.out), ?_, (below6 HB2.out (by omega)).alloc (le6 (by omega)) _⟩
      exact tmRep.keep H.out (fun k hk => heap_old (lt6 (by have := HS.out k hk; omega)) (far6 (by have := HS.out k hk; omega) (HB2.out.block k (HS.out k hk)))) (fun k hk => Nat.lt_of_lt_of_le (lt6 (show k < w2.heap.size by have := HS.out k hk; omega)) (by rw [World.size_alloc]; exact Nat.le_succ _))
    case rest =>
      obtain ⟨rfl, kr, hvx, hbx⟩ := hcut
      rename World => wx
      clear p0_0 p0_1 p0_2 p0_3 p0_4 p0_5 p0_l p1_0 p1_1 p1_2 p1_3 p1_4 p1_5 p1_f0 p1_f1 p1_f2 p1_f3 p1_f4 p1_f5 p1_l
      have HVX := Lib.hid hvx
      have HBX := Lib.hid hbx
      clear hvx hbx
      have kr_0 := cv0 kr
      have kr_1 := cv1 kr
      have kr_2 := cv2 kr
      have kr_3 := cv3 kr
      have kr_4 := cv4 kr
      have kr_5 := cv5 kr
      have kr_l := lt_heap kr
      have KR := Lib.hid kr
      clear kr
      go_wp2_with fail
      refine bodyPost_ret (v := .tuple #[.agg #[.int .i64 v.tm.lab.kind, .string v.tm.lab.nm, .int .i64 v.tm.lab.ix, .string s1, .slice A1 n1 c1, .slice B1 m1 d1], .bool false]) (by simp [results, Tryd.results54, go_sem, kr_0, kr_1, kr_2, kr_3, kr_4, kr_5, kr_l]) rfl ?_
      unfold ExpandAt
      rw [HL.out]
      exact ⟨v, _, rfl, HVX.out, fun u' h => by simp at h, HBX.out⟩
  | some x =>
    obtain rfl : u = x := HSU.out x hs
    have hnm := (Tv.steps_pars 2001 v u hs).2
    have htu := Tv.steps_typ 2001 v u [] s hs HTY.out
    have hou := Tv.steps_ok 2001 v u 0 hs HOK.out
    have hlr : Tv.long v = if (Tv.expand 2001 u s [] 2000).2 < 0 then none else some (Tv.expand 2001 u s [] 2000).1 := by unfold Tv.long; rw [HTY.out, hs]
    have HSN := Lib.hid hs
    clear hs
    simp only [HSN.out, Option.isSome_some]
    have hxl := Tv.expand_long 2001 u s [] 2000 (by decide) hnm.1 htu
    have hpre : ExpPre 2001 u s [] 2000 (w2.heap.size + 1) [.int .i64 u.tm.lab.kind, .string u.tm.lab.nm, .int .i64 u.tm.lab.ix, .string s2, .slice A2 n2 c2, .slice B2 m2 d2] (.string sg) (.slice Ag ng cg) (.slice none 0 0) ((w2.alloc (.cells #[.int .i64 u.tm.lab.kind, .string u.tm.lab.nm, .int .i64 u.tm.lab.ix, .string s2, .slice A2 n2 c2, .slice B2 m2 d2] 27)).alloc (.cells #[.int .i64 2000] 3)) (fun k => k < w2.heap.size ∧ k ≠ w.heap.size + 1) :=
      ⟨by decide, by decide, by have := hnm.2; simp only [List.length_nil]; omega, hnm.1, htu, hou, tmRep.keep HUP.out (fun k hk => by have h' : k < w2.heap.size := hk.1; exact heap_old (by simp; omega) (heap_old h' rfl)) (fun _ h => h), Ty.In_keep (fun k hk => by have h' : k < w1.heap.size := hk.1; exact heap_old (by simp; omega) (heap_old (by omega) rfl)) (fun k hk => ⟨by have := hk.1; omega, hk.2⟩) _ _ _ HT2.out, Ctx.nil, heap_at (by simp), fun h => by have h' : w2.heap.size + 1 < w2.heap.size := h.1; omega, fun k hk => by have h' : k < w2.heap.size := hk.1; simp; omega, Nat.le_refl _⟩
    have hex := Lib.hid (expand_any 2001 u s [] 2000 _ _ _ _ _ _ _ hpre)
    clear hnm htu hou hpre
    generalize hY : Tv.expand 2001 u s [] 2000 = Y at hlr hxl
    have HY := Lib.hid hY
    clear hY
    have HEX := Lib.hid hex
    have HLR := Lib.hid hlr
    have HXL := Lib.hid hxl
    clear hex hlr hxl
    go_wp2_with fail
    (with_reducible refine HEX.out.out.mono ?_)
    simp only [ExpAt, HY.out]
    rintro e w3 ⟨ds, rfl, hy, hroom, hM⟩
    obtain ⟨s3, A3, n3, c3, B3, m3, d3, rfl, _, _⟩ := Tm.shape hy
    have z3 : w2.heap.size + 2 ≤ w3.heap.size := by have := hM.size; simpa using this
    have hk3 : ∀ k, k < w2.heap.size → w3.heap[k]? = w2.heap[k]? := fun k hk => (hM.block k (by simp; omega) (by omega)).trans (heap_old (by simp; omega) (heap_old hk rfl))
    have p0 := (hk3 _ p0_l).trans P0.out
    have p1 := (hk3 _ p1_l).trans P1.out
    have hB3 : Below w.heap.size w w3 := ((HB2.out.alloc (by omega) _).alloc (by simp; omega) _).trans (hM.cut (B' := w.heap.size) (by simp; omega) (by omega))
    have hyL : tmRep.R w3 (Lo w3) Y.1.tm [.int .i64 Y.1.tm.lab.kind, .string Y.1.tm.lab.nm, .int .i64 Y.1.tm.lab.ix, .string s3, .slice A3 n3 c3, .slice B3 m3 d3] := tmRep.keep hy (fun _ _ => rfl) (fun k hk => by
      rcases hk with hk | hk
      · have h' : k < w2.heap.size := hk.1; exact (show k < w3.heap.size by omega)
      · exact hk.2)
    have hyN : tmRep.R w3 (fun k => k < w3.heap.size ∧ k ≠ w.heap.size + 1) Y.1.tm [.int .i64 Y.1.tm.lab.kind, .string Y.1.tm.lab.nm, .int .i64 Y.1.tm.lab.ix, .string s3, .slice A3 n3 c3, .slice B3 m3 d3] := tmRep.keep hy (fun _ _ => rfl) (fun k hk => by
      rcases hk with hk | hk
      · have h' : k < w2.heap.size := hk.1; exact ⟨by omega, hk.2⟩
      · have h1 : w2.heap.size + 1 + 1 ≤ k := by have := hk.1; simpa using this
        exact ⟨hk.2, by omega⟩)
    have hv3 : tmRep.R w3 (Lo w3) v.tm [.int .i64 v.tm.lab.kind, .string v.tm.lab.nm, .int .i64 v.tm.lab.ix, .string s1, .slice A1 n1 c1, .slice B1 m1 d1] := tmRep.keep H.out (fun k hk => hB3.block k (HS.out k hk)) (fun k hk => by have := HS.out k hk; exact (show k < w3.heap.size by omega))
    have hroom8 := hroom
    clear hM hk3 p0_0 p0_1 p0_2 p0_3 p0_4 p0_5 p0_l p1_0 p1_1 p1_2 p1_3 p1_4 p1_5 p1_f0 p1_f1 p1_f2 p1_f3 p1_f4 p1_f5 p1_l p4_0 p4_1 p4_l hroom hy
    have HB3 := Lib.hid hB3
    have HYL := Lib.hid hyL
    have HYN := Lib.hid hyN
    have HV3 := Lib.hid hv3
    clear hB3 hyL hyN hv3
    have hroom8_0 := cv0 hroom8
    have hroom8_l := lt_heap hroom8
    have HROOM8 := Lib.hid hroom8
    clear hroom8
    have p0_0 := cv0 p0
    have p0_1 := cv1 p0
    have p0_2 := cv2 p0
    have p0_3 := cv3 p0
    have p0_4 := cv4 p0
    have p0_5 := cv5 p0
    have p0_l := lt_heap p0
    have P0 := Lib.hid p0
    clear p0
    have p1_0 := cv0 p1
    have p1_1 := cv1 p1
    have p1_2 := cv2 p1
    have p1_3 := cv3 p1
    have p1_4 := cv4 p1
    have p1_5 := cv5 p1
    have p1_f0 := free_heap p1 0
    have p1_f1 := free_heap p1 1
    have p1_f2 := free_heap p1 2
    have p1_f3 := free_heap p1 3
    have p1_f4 := free_heap p1 4
    have p1_f5 := free_heap p1 5
    have p1_l := lt_heap p1
    have P1 := Lib.hid p1
    clear p1
    by_cases hneg : Y.2 < 0
    · have hl : Tv.long v = none := by rw [HLR.out, if_pos hneg]
      have HL := Lib.hid hl
      clear hl
      go_upto_region 8 with (fail)
      go_cut [3] (fun s3 wx => s3 = .bool false ∧ wx.heap[w.heap.size + 1]? = some (.cells #[.int .i64 v.tm.lab.kind, .string v.tm.lab.nm, .int .i64 v.tm.lab.ix, .string s1, .slice A1 n1 c1, .slice B1 m1 d1] 27 (0, 0)) ∧ tmRep.R wx (Lo wx) v.tm [.int .i64 v.tm.lab.kind, .string v.tm.lab.nm, .int .i64 v.tm.lab.ix, .string s1, .slice A1 n1 c1, .slice B1 m1 d1] ∧ Below w.heap.size w wx)
      case first =>
        go_wp2_with fail
        go_meet
        refine ⟨rfl, heap_old (lt6 p1_l) (at6 P1.out), ?_, (below6 HB3.out (by omega)).alloc (le6 (by omega)) _⟩
        exact tmRep.keep H.out (fun k hk => heap_old (lt6 (by have := HS.out k hk; omega)) (far6 (by have := HS.out k hk; omega) (HB3.out.block k (HS.out k hk)))) (fun k hk => Nat.lt_of_lt_of_le (lt6 (show k < w3.heap.size by have := HS.out k hk; omega)) (by rw [World.size_alloc]; exact Nat.le_succ _))
      case rest =>
        obtain ⟨rfl, kr, hvx, hbx⟩ := hcut
        rename World => wx
        clear p0_0 p0_1 p0_2 p0_3 p0_4 p0_5 p0_l p1_0 p1_1 p1_2 p1_3 p1_4 p1_5 p1_f0 p1_f1 p1_f2 p1_f3 p1_f4 p1_f5 p1_l hroom8_0 hroom8_l
        have HVX := Lib.hid hvx
        have HBX := Lib.hid hbx
        clear hvx hbx
        have kr_0 := cv0 kr
        have kr_1 := cv1 kr
        have kr_2 := cv2 kr
        have kr_3 := cv3 kr
        have kr_4 := cv4 kr
        have kr_5 := cv5 kr
        have kr_l := lt_heap kr
        have KR := Lib.hid kr
        clear kr
        go_wp2_with fail
        refine bodyPost_ret (v := .tuple #[.agg #[.int .i64 v.tm.lab.kind, .string v.tm.lab.nm, .int .i64 v.tm.lab.ix, .string s1, .slice A1 n1 c1, .slice B1 m1 d1], .bool false]) (by simp [results, Tryd.results54, go_sem, kr_0, kr_1, kr_2, kr_3, kr_4, kr_5, kr_l]) rfl ?_
        unfold ExpandAt
        rw [HL.out]
        exact ⟨v, _, rfl, HVX.out, fun u' h => by simp at h, HBX.out⟩
    · have hl : Tv.long v = some Y.1 := by rw [HLR.out, if_neg hneg]
      have hyn : ¬ 2000 < Y.1.nodes := by have := (HXL.out.2 (by omega)).1; omega
      have hbig := fun (o : Obj) => Lib.hid (big_any Y.1.tm [.int .i64 Y.1.tm.lab.kind, .string Y.1.tm.lab.nm, .int .i64 Y.1.tm.lab.ix, .string s3, .slice A3 n3 c3, .slice B3 m3 d3] (w3.alloc o) (Lo w3) (tmRep.keep HYL.out (fun k hk => heap_old hk rfl) (fun _ h => h)) (fun k hk => by have h' : k < w3.heap.size := hk; simp; omega) (by rw [Tv.tm_nodes]; omega))
      have HTM : Hid (Y.1.tm.nodes = Y.1.nodes) := Lib.hid Y.1.tm_nodes
      have HL := Lib.hid hl
      have HBIG := Lib.hid hbig
      clear hl hbig
      go_wp2_with fail
      (with_reducible refine (HBIG.out _).out.mono ?_)
      rw [HTM.out, decide_eq_false hyn]
      rintro e w4 ⟨rfl, hw4⟩
      have z4 : w3.heap.size + 1 ≤ w4.heap.size := by have := hw4.size; simpa using this
      have p1 := (hw4.block _ (by simp; omega)).trans (heap_old p1_l P1.out)
      have p9 := (hw4.block w3.heap.size (by simp)).trans (heap_at rfl)
      have hB4 : Below w.heap.size w w4 := (HB3.out.alloc (by omega) _).trans (hw4.mono (by simp; omega))
      have hy4 : tmRep.R w4 (fun k => k < w3.heap.size ∧ k ≠ w.heap.size + 1) Y.1.tm [.int .i64 Y.1.tm.lab.kind, .string Y.1.tm.lab.nm, .int .i64 Y.1.tm.lab.ix, .string s3, .slice A3 n3 c3, .slice B3 m3 d3] := tmRep.keep HYN.out (fun k hk => by have h' : k < w3.heap.size := hk.1; exact (hw4.block k (by simp; omega)).trans (heap_old h' rfl)) (fun _ h => h)
      clear p0_0 p0_1 p0_2 p0_3 p0_4 p0_5 p0_l p1_0 p1_1 p1_2 p1_3 p1_4 p1_5 p1_f0 p1_f1 p1_f2 p1_f3 p1_f4 p1_f5 p1_l hroom8_0 hroom8_l
      have HW4 := Lib.hid hw4
      have HB4 := Lib.hid hB4
      have HY4 := Lib.hid hy4
      clear hw4 hB4 hy4
      have p1_0 := cv0 p1
      have p1_1 := cv1 p1
      have p1_2 := cv2 p1
      have p1_3 := cv3 p1
      have p1_4 := cv4 p1
      have p1_5 := cv5 p1
      have p1_f0 := free_heap p1 0
      have p1_f1 := free_heap p1 1
      have p1_f2 := free_heap p1 2
      have p1_f3 := free_heap p1 3
      have p1_f4 := free_heap p1 4
      have p1_f5 := free_heap p1 5
      have p1_l := lt_heap p1
      have P1 := Lib.hid p1
      clear p1
      have p9_0 := cv0 p9
      have p9_1 := cv1 p9
      have p9_2 := cv2 p9
      have p9_3 := cv3 p9
      have p9_4 := cv4 p9
      have p9_5 := cv5 p9
      have p9_l := lt_heap p9
      have P9 := Lib.hid p9
      clear p9
      go_upto_region 9 with (fail)
      go_cut [3] (fun q3 wx => q3 = .bool true ∧ wx.heap[w.heap.size + 1]? = some (.cells #[.int .i64 Y.1.tm.lab.kind, .string Y.1.tm.lab.nm, .int .i64 Y.1.tm.lab.ix, .string s3, .slice A3 n3 c3, .slice B3 m3 d3] 27 (0, 0)) ∧ tmRep.R wx (Lo wx) Y.1.tm [.int .i64 Y.1.tm.lab.kind, .string Y.1.tm.lab.nm, .int .i64 Y.1.tm.lab.ix, .string s3, .slice A3 n3 c3, .slice B3 m3 d3] ∧ Below w.heap.size w wx)
      case first =>
        go_wp2_with fail
        go_meet
        refine ⟨rfl, at6 P1.out, ?_, below6 HB4.out (by omega)⟩
        exact tmRep.keep HY4.out (fun k hk => far6 hk.2 rfl) (fun k hk => lt6 (show k < w4.heap.size by have := hk.1; omega))
      case rest =>
        obtain ⟨rfl, kr, hvx, hbx⟩ := hcut
        rename World => wx
        clear p1_0 p1_1 p1_2 p1_3 p1_4 p1_5 p1_f0 p1_f1 p1_f2 p1_f3 p1_f4 p1_f5 p1_l p9_0 p9_1 p9_2 p9_3 p9_4 p9_5 p9_l
        have HVX := Lib.hid hvx
        have HBX := Lib.hid hbx
        clear hvx hbx
        have kr_0 := cv0 kr
        have kr_1 := cv1 kr
        have kr_2 := cv2 kr
        have kr_3 := cv3 kr
        have kr_4 := cv4 kr
        have kr_5 := cv5 kr
        have kr_l := lt_heap kr
        have KR := Lib.hid kr
        clear kr
        go_wp2_with fail
        refine bodyPost_ret (v := .tuple #[.agg #[.int .i64 Y.1.tm.lab.kind, .string Y.1.tm.lab.nm, .int .i64 Y.1.tm.lab.ix, .string s3, .slice A3 n3 c3, .slice B3 m3 d3], .bool true]) (by simp [results, Tryd.results54, go_sem, kr_0, kr_1, kr_2, kr_3, kr_4, kr_5, kr_l]) rfl ?_
        unfold ExpandAt
        rw [HL.out]
        exact ⟨Y.1, _, rfl, HVX.out, fun u' h => by simpa using h, HBX.out⟩

end Go.Proofs.YthflahcnkhmpaabDoor
