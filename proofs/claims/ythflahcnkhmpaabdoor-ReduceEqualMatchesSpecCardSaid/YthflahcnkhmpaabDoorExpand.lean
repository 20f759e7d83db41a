/-
  reduce.expand: the walk.
-/
import Derived.Test.YthflahcnkhmpaabDoorProg
import Derived.Test.YthflahcnkhmpaabDoorLift
import Derived.Test.YthflahcnkhmpaabDoorTyped
import Derived.Test.YthflahcnkhmpaabDoorExp
import Derived.Test.YthflahcnkhmpaabDoorMod
import Derived.Test.YthflahcnkhmpaabDoorSyIn
import Derived.Test.YthflahcnkhmpaabDoorApply
import Derived.Test.YthflahcnkhmpaabDoorOwnSet
import Derived.Deep.DeepCutAuto
import Derived.Test.YthflahcnkhmpaabDoorSteps
namespace Go.Proofs.YthflahcnkhmpaabDoor
open Go Go.RowKit
set_option linter.unusedSimpArgs false
set_option linter.unusedVariables false

/-- What expand returns; rb: the block of room. -/
def ExpAt (n : Nat) (v : Tv) (s : Sy) (c : List Sy) (r : Int) (rb : Nat) (w : World) (S : Nat → Prop) (e : Ending) (w' : World) : Prop :=
  ∃ ds : List Value, e = .returned (.agg ds.toArray) ∧ tmRep.R w' (Ex S w w') (Tv.expand n v s c r).1.tm ds ∧ w'.heap[rb]? = some (.cells #[.int .i64 (Tv.expand n v s c r).2] 3 (0, 0)) ∧ Mod rb w.heap.size w w'
/-- The premises. -/
structure ExpPre (n : Nat) (v : Tv) (s : Sy) (c : List Sy) (r : Int) (rb : Nat) (cs : List Value) (s0 s1 u : Value) (w : World) (S : Nat → Prop) : Prop where
  fuel : r < n
  low : -1000000000 ≤ r
  big : c.length + v.nodes + 3 * n ≤ 100000
  norm : v.step = none
  typ : Tv.typ c v = some s
  ok : v.ok c.length
  hv : tmRep.R w S v.tm cs
  hs : s.ty.In w S s0 s1
  hc : Ctx w S u c
  room : w.heap[rb]? = some (.cells #[.int .i64 r] 3 (0, 0))
  out : ¬ S rb
  lo : ∀ b, S b → b < w.heap.size
  fu : n ≤ 2001
theorem ExpPre.drew {n : Nat} {v : Tv} {s : Sy} {c : List Sy} {r : Int} {rb : Nat} {cs : List Value} {s0 s1 u : Value} {w : World} {S : Nat → Prop} (h : ExpPre n v s c r rb cs s0 s1 u w S) : ExpPre n v s c r rb cs s0 s1 u w.drew S :=
  ⟨h.fuel, h.low, h.big, h.norm, h.typ, h.ok, tmRep.keep h.hv (fun _ _ => rfl) (fun _ h => h), h.hs.drew, h.hc.keep (fun _ _ => rfl) (fun _ h => h), h.room, h.out, h.lo, h.fu⟩
/-- An abstraction in memory: its part lies in a block of its own. -/
theorem Tm.abs_lit {W : World} {S : Nat → Prop} {a : Sy} {x : Tv} {v0 v1 : Value} {cs : List Value} {blk : Nat} {T : TypeId} {fr : Nat × Nat} (ha : Ty.In W S a.ty v0 v1) (hx : tmRep.R W S x.tm cs) (hb : W.heap[blk]? = some (.cells cs.toArray T fr)) (hS : S blk) :
    tmRep.R W S (Tv.abs a x).tm [.int .i64 3, .string ⟨#[]⟩, .int .i64 0, v0, v1, .slice (some ⟨blk, 0, none⟩) 1 1] :=
  Tm.shut (a := ⟨3, bNil, 0, a.ty⟩) (l := [x.tm]) (show bNil.size ≤ maxLen by decide +kernel) ha
    ⟨_, 1, 1, rfl, rfl, by simp [maxLen], fun _ => ⟨blk, 0, cs, rfl, hS, Rep.All.single hx, fun j u hj => by rw [Nat.zero_add]; exact cell_heap hb (by simpa using hj)⟩⟩
def ExpIH (n : Nat) : Prop := ∀ (v : Tv) (s : Sy) (c : List Sy) (r : Int) (rb : Nat) (cs : List Value) (s0 s1 u : Value) (w : World) (S : Nat → Prop), ExpPre n v s c r rb cs s0 s1 u w S →
  Calls Tryd.prog 70 #[.agg cs.toArray, .agg #[s0, s1], u, .pointer (some ⟨rb, 0, none⟩)] w (ExpAt n v s c r rb w S)

set_option maxRecDepth 100000 in
set_option maxHeartbeats 4000000 in
theorem expand_neg_any (n : Nat) (v : Tv) (s : Sy) (c : List Sy) (r : Int) (rb : Nat) (cs : List Value) (s0 s1 u : Value) (w : World) (S : Nat → Prop) (h : ExpPre n v s c r rb cs s0 s1 u w S) (hr : r < 0) :
    Calls Tryd.prog 70 #[.agg cs.toArray, .agg #[s0, s1], u, .pointer (some ⟨rb, 0, none⟩)] w (ExpAt n v s c r rb w S) := by
  obtain ⟨s9, A9, n9, c9, B9, m9, d9, rfl, _, _⟩ := Tm.shape h.hv
  obtain ⟨st, At, nt, ct, rfl, rfl⟩ := h.hs.shape
  obtain ⟨_, A, nn, k, rfl, _, _⟩ := h.hc
  have hroom := h.room
  have hlo := h.lo
  have hout := h.out
  have hv := h.hv
  have l1 := lt_heap hroom
  have l2 : rb < w.heap.size + 1 := by omega
  have l3 : rb < w.heap.size + 1 + 1 := by omega
  have e : Tv.expand n v s c r = (v, r) := Tv.expand_neg n v s c r hr
  have H := Lib.hid h
  have HLO := Lib.hid hlo
  have HOUT := Lib.hid hout
  have HV := Lib.hid hv
  have E := Lib.hid e
  clear h hlo hout hv e
  have hroom_0 := cv0 hroom
  have hroom_l := lt_heap hroom
  have HROOM := Lib.hid hroom
  clear hroom
  go_enter Tryd.func70, Tryd.ntmps70
  go_wp2_with fail
  refine bodyPost_ret (v := .agg #[.int .i64 v.tm.lab.kind, .string v.tm.lab.nm, .int .i64 v.tm.lab.ix, .string s9, .slice A9 n9 c9, .slice B9 m9 d9]) (by simp [results, Tryd.results70, go_sem]) rfl ?_
  unfold ExpAt
  rw [E.out]
  refine ⟨_, rfl, tmRep.keep HV.out (fun k hk => ?_) (fun k hk => Or.inl hk), ?_, Mod.below (by go_grown)⟩
  · have := HLO.out k hk
    exact heap_old (by simp; omega) (heap_old (by simp; omega) (heap_old this rfl))
  · exact heap_old (by simp; omega) (heap_old (by simp; omega) (heap_old (by omega) HROOM.out))

set_option maxRecDepth 100000 in
set_option maxHeartbeats 4000000 in
theorem expand_fn_any (n : Nat) (IH : ExpIH n) (v : Tv) (a b : Sy) (c : List Sy) (r : Int) (rb : Nat) (cs : List Value) (s0 s1 u : Value) (w : World) (S : Nat → Prop) (h : ExpPre (n + 1) v (.fn a b) c r rb cs s0 s1 u w S) (hr : 0 ≤ r) :
    Calls Tryd.prog 70 #[.agg cs.toArray, .agg #[s0, s1], u, .pointer (some ⟨rb, 0, none⟩)] w (ExpAt (n + 1) v (.fn a b) c r rb w S) := by
  obtain ⟨s9, A9, n9, c9, B9, m9, d9, rfl, _, _⟩ := Tm.shape h.hv
  obtain ⟨bs, os, ct, x0, x1, y0, y1, rfl, rfl, hSs, k0, k1, k2, k3, hIa, hIb⟩ := Sy.In_fn h.hs
  obtain ⟨sx, Ax, nx, cx, rfl, rfl⟩ := hIa.shape
  obtain ⟨sy, Ay, ny, cy, rfl, rfl⟩ := hIb.shape
  obtain ⟨hsl, Ac, nc, kcp, rfl, hnk, hnone⟩ := h.hc
  have hcn : c.length = nc := by
    obtain ⟨_, _, _, e, hl, _⟩ := hsl
    injection e with _ e _
    simpa [e] using hl
  have hroom := h.room
  have hfu := h.fuel
  have hbig := h.big
  have l1 := lt_heap hroom
  have l2 : rb < w.heap.size + 1 := by omega
  have l3 : rb < w.heap.size + 1 + 1 := by omega
  have q1 : (0 : Int) ≤ (nc : Int) := by omega
  have q2 : (nc : Int) ≤ (kcp : Int) := by omega
  have hru : r ≤ 1000000 := by omega
  have hnc : nc ≤ 100000 := by omega
  have hlo := h.lo
  have hnb : bs ≠ rb := fun e => h.out (e ▸ hSs)
  have lbs := hlo bs hSs
  have HIH := Lib.hid IH
  have HCN := Lib.hid hcn
  have H := Lib.hid h
  clear hcn hbig IH h
  have HSL := Lib.hid hsl
  have HLO := Lib.hid hlo
  have K0 := Lib.hid k0
  have K1 := Lib.hid k1
  have K2 := Lib.hid k2
  have K3 := Lib.hid k3
  have HIA := Lib.hid hIa
  have HIB := Lib.hid hIb
  have HNONE := Lib.hid hnone
  have HSS := Lib.hid hSs
  have HFU := Lib.hid hfu
  clear hsl hlo k0 k1 k2 k3 hIa hIb hnone hSs hfu
  have hroom_0 := cv0 hroom
  have hroom_f0 := free_heap hroom 0
  have hroom_l := lt_heap hroom
  have HROOM := Lib.hid hroom
  clear hroom
  go_enter Tryd.func70, Tryd.ntmps70
  go_upto_region 5 with (fail)
  refine gen_last (fun wx => wx.heap[w.heap.size]? = some (.cells #[.int .i64 v.tm.lab.kind, .string v.tm.lab.nm, .int .i64 v.tm.lab.ix, .string s9, .slice A9 n9 c9, .slice B9 m9 d9] 27 (0, 0)) ∧ wx.heap[w.heap.size + 1]? = some (.cells #[.string bNil, .slice (some ⟨bs, os, none⟩) 2 ct] 24 (0, 0)) ∧
    wx.heap[w.heap.size + 1 + 1]? = some (.cells #[.int .i64 0, .string ⟨#[]⟩, .int .i64 0, .string ⟨#[]⟩, .slice none 0 0, .slice none 0 0] 27 (0, 0)) ∧ wx.heap[rb]? = some (.cells #[.int .i64 (r - 1)] 3 (0, 0)) ∧ Mod rb w.heap.size w wx ∧ w.heap.size + 3 ≤ wx.heap.size) ?_ ?_
  · refine ⟨heap_old (by simp [size_set]; omega) (heap_old (by simp [size_set]) (heap_at (size_set _ _ _).symm)), heap_old (by simp [size_set]) (heap_at (by simp [size_set])), heap_at (by simp [size_set]), ?_, (((Mod.refl.setRow _).alloc (by simp [size_set]) _).alloc (by simp [size_set]) _).alloc (by simp [size_set]; omega) _, by simp [size_set]⟩
    exact heap_old (by simp [size_set]; omega) (heap_old (by simp [size_set]; omega) (heap_old (by simp [size_set]; omega) (by simpa using heap_set HROOM.out 0 (.int .i64 (r - 1)))))
  rintro wx ⟨p4, p5, p8, hroom, hM, zx⟩
  have hkx : ∀ k, k < w.heap.size → k ≠ rb → wx.heap[k]? = w.heap[k]? := fun k h1 h2 => hM.block k h1 h2
  have hkS : ∀ k, S k → wx.heap[k]? = w.heap[k]? := fun k hk => hM.block k (HLO.out k hk) (fun e => H.out.out (e ▸ hk))
  have hkb := hkS bs HSS.out
  have e0 := (cell_keep hkb os).trans K0.out
  have e1 := (cell_keep hkb (os + 1)).trans K1.out
  have e2 := (cell_keep hkb (os + 2)).trans K2.out
  have e3 := (cell_keep hkb (os + 2 + 1)).trans K3.out
  have hnew : ∀ k, k < wx.heap.size → k < wx.heap.size + 1 := fun k h => by omega
  have lbx : bs < wx.heap.size := by omega
  have HRX := Lib.hid hroom
  obtain ⟨i0, hi0, hz0, hz1, hz2⟩ := info_parts infoSimple
  clear hroom_0 hroom_f0 hroom_l hroom hkb hnew
  have HM := Lib.hid hM
  have HKX := Lib.hid hkx
  have HKS := Lib.hid hkS
  clear hM hkx hkS
  have p4_0 := cv0 p4
  have p4_1 := cv1 p4
  have p4_2 := cv2 p4
  have p4_3 := cv3 p4
  have p4_4 := cv4 p4
  have p4_5 := cv5 p4
  have p4_l := lt_heap p4
  have P4 := Lib.hid p4
  clear p4
  have p5_0 := cv0 p5
  have p5_1 := cv1 p5
  have p5_l := lt_heap p5
  have P5 := Lib.hid p5
  clear p5
  have p8_0 := cv0 p8
  have p8_1 := cv1 p8
  have p8_2 := cv2 p8
  have p8_3 := cv3 p8
  have p8_4 := cv4 p8
  have p8_5 := cv5 p8
  have p8_f0 := free_heap p8 0
  have p8_f1 := free_heap p8 1
  have p8_f2 := free_heap p8 2
  have p8_f3 := free_heap p8 3
  have p8_f4 := free_heap p8 4
  have p8_f5 := free_heap p8 5
  have p8_l := lt_heap p8
  have P8 := Lib.hid p8
  clear p8
  obtain ⟨olds, hall, holen, _, hocells⟩ := (HSL.out.keep HKS.out (fun _ h => h)).olds (fun h => (HNONE.out h).1)
  simp only [tyRep] at holen
  have HALL := Lib.hid hall
  have HOCELLS := Lib.hid hocells
  clear hall hocells
  go_cut [9] (fun s9 wy => Ctx wy (fun k => S k ∨ (wx.heap.size ≤ k ∧ k < wy.heap.size)) s9 (a :: c) ∧ Below wx.heap.size wx wy)
  case first =>
    go_region_law ((refine step_append_grows (by rfl) (.tmp 35) (.tmp 40) _ (by rfl) 24 i0 _ 2 40 Tryd.underlying22 hi0 hz0 hz1 hz2 rfl (by omega) Ac nc nc olds (by rfl) (fun h => ⟨(HNONE.out h).1, (HNONE.out h).1⟩) holen ?ho ⟨wx.heap.size, 0, none⟩ 1 1 [.string sx, .slice Ax nx cx] (by rfl) (by rfl) ?hn (by simp [Value.oneCell']) (by omega) (by have := HCN.out; unfold maxLen; omega) (by have := HCN.out; omega) ?hK; (case ho => exact (fun a ha j u hj => (World.cell?_of_block (heap_drew (heap_old (World.block_lt_of_cell? wx _ (HOCELLS.out a ha j u hj)) rfl))).trans (HOCELLS.out a ha j u hj))); (case hn => exact World.news_of_block (cs := #[.string sx, .slice Ax nx cx]) (t := 24) (fr := (0, 0)) (heap_drew (heap_at rfl))); intro v' w3 hown3 hgrow))
    all_goals
      go_wp2_with fail
      go_meet
      refine ⟨?_, ((Below.refl _ wx).alloc (Nat.le_refl _) _).drew.grown hgrow (by simp) (fun k hk => by cases hk)⟩
      exact (Ctx.push (w := wx) HALL.out ⟨_, _, rfl, HIA.out.keep HKS.out⟩ HCN.out hown3 hgrow (fun k hk => heap_drew (heap_old (by have := HLO.out k hk; omega) rfl)) (fun k hk => by have := HLO.out k hk; simp; omega) (by have := HCN.out; unfold maxLen; omega)).keep (fun _ _ => rfl) (fun b hb => hb.imp_right (fun h => ⟨by have := h.1; simp at this; omega, h.2⟩))
  case rest =>
    obtain ⟨hcx, hbx⟩ := hcut
    rename World => wy
    have zy : wx.heap.size ≤ wy.heap.size := hbx.size
    have p4 := (hbx.block _ p4_l).trans P4.out
    have p5 := (hbx.block _ p5_l).trans P5.out
    have p8 := (hbx.block _ p8_l).trans P8.out
    have hroom := (hbx.block rb (by omega)).trans HRX.out
    have hMy : Mod rb w.heap.size w wy := HM.out.thenBelow (hbx.mono (by omega))
    have hkSy : ∀ k, S k → wy.heap[k]? = w.heap[k]? := fun k hk => (hbx.block k (by have := HLO.out k hk; omega)).trans (HKS.out k hk)
    have hkb := hkSy bs HSS.out
    have e0 := (cell_keep hkb os).trans K0.out
    have e1 := (cell_keep hkb (os + 1)).trans K1.out
    have e2 := (cell_keep hkb (os + 2)).trans K2.out
    have e3 := (cell_keep hkb (os + 2 + 1)).trans K3.out
    have lby : bs < wy.heap.size := by omega
    clear p4_0 p4_1 p4_2 p4_3 p4_4 p4_5 p4_l p5_0 p5_1 p5_l p8_0 p8_1 p8_2 p8_3 p8_4 p8_5 p8_f0 p8_f1 p8_f2 p8_f3 p8_f4 p8_f5 p8_l hkb
    have HCX := Lib.hid hcx
    have HBX := Lib.hid hbx
    have HMY := Lib.hid hMy
    have HKSY := Lib.hid hkSy
    clear hcx hbx hMy hkSy
    have hroom_0 := cv0 hroom
    have hroom_l := lt_heap hroom
    have HROOM := Lib.hid hroom
    clear hroom
    have p4_0 := cv0 p4
    have p4_1 := cv1 p4
    have p4_2 := cv2 p4
    have p4_3 := cv3 p4
    have p4_4 := cv4 p4
    have p4_5 := cv5 p4
    have p4_l := lt_heap p4
    have P4 := Lib.hid p4
    clear p4
    have p5_0 := cv0 p5
    have p5_1 := cv1 p5
    have p5_l := lt_heap p5
    have P5 := Lib.hid p5
    clear p5
    have p8_0 := cv0 p8
    have p8_1 := cv1 p8
    have p8_2 := cv2 p8
    have p8_3 := cv3 p8
    have p8_4 := cv4 p8
    have p8_5 := cv5 p8
    have p8_f0 := free_heap p8 0
    have p8_f1 := free_heap p8 1
    have p8_f2 := free_heap p8 2
    have p8_f3 := free_heap p8 3
    have p8_f4 := free_heap p8 4
    have p8_f5 := free_heap p8 5
    have p8_l := lt_heap p8
    have P8 := Lib.hid p8
    clear p8
    cases hab : v.isAbs with
    | true =>
      cases v with
      | abs sv x =>
        have hvx := H.out.hv
        have t3 : ((Tv.abs sv x).tm.lab.kind == 3) = true := rfl
        obtain ⟨_, _, vv, e9, _, _, hl9⟩ := Tm.open_ (a := ⟨3, bNil, 0, sv.ty⟩) (l := [x.tm]) hvx
        simp only [List.cons.injEq, and_true] at e9
        obtain ⟨_, _, _, _, _, e9⟩ := e9
        subst e9
        obtain ⟨A', m', cp', e9, hl9', hm9, hA9⟩ := hl9
        simp only [Value.slice.injEq] at e9
        obtain ⟨rfl, rfl, rfl⟩ := e9
        simp only [List.length_singleton] at hl9'
        subst hl9'
        obtain ⟨b2, o2, kc, rfl, hSb2, hkr, hkc⟩ := Tm.kid (l := [x.tm]) (c := d9) (k := 0) ⟨_, _, _, rfl, rfl, hm9, hA9⟩ rfl
        obtain ⟨s1, A1, n1, c1, B1, m1, d1, rfl, _, _⟩ := Tm.shape hkr
        have hkc' : ∀ (j : Nat) (u : Value), _ → w.cell? ⟨b2, o2 + j, none⟩ = some u := fun j u hj => by simpa using hkc j u hj
        have hk2 := HKSY.out b2 hSb2
        have g0 : wy.cell? ⟨b2, o2, none⟩ = _ := (cell_keep hk2 _).trans (hkc' 0 _ rfl)
        have g1 : wy.cell? ⟨b2, o2 + 1, none⟩ = _ := (cell_keep hk2 _).trans (hkc' 1 _ rfl)
        have g2 : wy.cell? ⟨b2, o2 + 2, none⟩ = _ := (cell_keep hk2 _).trans (hkc' 2 _ rfl)
        have g3 : wy.cell? ⟨b2, o2 + 3, none⟩ = _ := (cell_keep hk2 _).trans (hkc' 3 _ rfl)
        have g4 : wy.cell? ⟨b2, o2 + 4, none⟩ = _ := (cell_keep hk2 _).trans (hkc' 4 _ rfl)
        have g5 : wy.cell? ⟨b2, o2 + 5, none⟩ = _ := (cell_keep hk2 _).trans (hkc' 5 _ rfl)
        have l2' := HLO.out b2 hSb2
        have lb2 : b2 < wy.heap.size := by omega
        obtain ⟨b', eb, htx⟩ := Tv.typ_abs H.out.typ
        obtain ⟨rfl, rfl⟩ : a = sv ∧ b = b' := by simpa using eb
        have hnx : x.step = none := by simpa [Tv.step] using H.out.norm
        have hih := Lib.hid (HIH.out x b (a :: c) (r - 1) rb [.int .i64 x.tm.lab.kind, .string x.tm.lab.nm, .int .i64 x.tm.lab.ix, .string s1, .slice A1 n1 c1, .slice B1 m1 d1] (.string sy) (.slice Ay ny cy) u9 wy.drew (fun k => S k ∨ (wx.heap.size ≤ k ∧ k < wy.heap.size))
          (ExpPre.drew ⟨by have := HFU.out; omega, by omega, by have := H.out.big; simp only [List.length_cons, Tv.nodes] at this ⊢; omega, hnx, htx, H.out.ok.2, tmRep.keep hkr HKSY.out (fun k hk => Or.inl hk), (HIB.out.keep HKSY.out).mono (fun k hk => Or.inl hk), HCX.out, HROOM.out, by rintro (h | h); exact H.out.out h; omega, fun k hk => by rcases hk with hk | hk; have := HLO.out k hk; exact (show k < wy.heap.size by omega); exact hk.2, by have := H.out.fu; omega⟩))
        have hres := Tv.expand_abs n a x a b c r (by omega)
        clear hvx hA9 hm9 hkr hkc hkc' hk2 htx hnx eb
        have HIH := Lib.hid hih
        have HRES := Lib.hid hres
        clear hih hres
        have hbn : b2 ≠ rb := fun e => H.out.out (e ▸ hSb2)
        have p8n : w.heap.size + 1 + 1 < wy.heap.size := p8_l
        go_wp2_with fail
        go_region_held3 (fun w' => w'.cell? ⟨w.heap.size + 1, 1, none⟩ = some (.slice (some ⟨bs, os, none⟩) 2 ct) ∧ w'.cell? ⟨bs, os, none⟩ = some (.string sx) ∧ w'.cell? ⟨bs, os + 1, none⟩ = some (.slice Ax nx cx) ∧ w'.cell? ⟨bs, os + 2, none⟩ = some (.string sy) ∧ w'.cell? ⟨bs, os + 2 + 1, none⟩ = some (.slice Ay ny cy) ∧ w'.cell? ⟨w.heap.size, 5, none⟩ = some (.slice (some ⟨b2, o2, none⟩) 1 d9) ∧ w'.cell? ⟨b2, o2, none⟩ = some (.int .i64 x.tm.lab.kind) ∧ w'.cell? ⟨b2, o2 + 1, none⟩ = some (.string x.tm.lab.nm) ∧ w'.cell? ⟨b2, o2 + 2, none⟩ = some (.int .i64 x.tm.lab.ix) ∧ w'.cell? ⟨b2, o2 + 3, none⟩ = some (.string s1) ∧ w'.cell? ⟨b2, o2 + 4, none⟩ = some (.slice A1 n1 c1) ∧ w'.cell? ⟨b2, o2 + 5, none⟩ = some (.slice B1 m1 d1))
          ((first
            | (go_split_ands; (repeat' apply And.intro) <;> (with_reducible refine (cell_keep (heap_old (lt6 (by omega)) (far6 (by omega) rfl)) _).trans ((kc _ _ (by omega) (by omega)).trans ?_)) <;> assumption)
            | (go_split_ands; (repeat' apply And.intro) <;> (with_reducible refine (cell_keep (far6 (by omega) (heap_old (by omega) rfl)) _).trans ((kc _ _ (by omega) (by omega)).trans ?_)) <;> assumption)
            | (go_split_ands; (repeat' apply And.intro) <;> (with_reducible refine (cell_keep (heap_old (by omega) rfl) _).trans ((kc _ _ (by omega) (by omega)).trans ?_)) <;> assumption)
            | (go_split_ands; (repeat' apply And.intro) <;> (with_reducible refine (kc _ _ (by omega) (by omega)).trans ?_) <;> assumption)
            | (go_keep; done)))
          (((with_reducible refine HIH.out.out.mono ?_); rintro e w5 ⟨ds, rfl, hu5, hroom5, hM5⟩; obtain ⟨s5, A5, n5, c5, B5, m5, d5, rfl, _, _⟩ := Tm.shape hu5; have kc : ∀ k q, k < wy.heap.size → k ≠ rb → w5.cell? ⟨k, q, none⟩ = wy.cell? ⟨k, q, none⟩ := (fun k q h1 h2 => cell_keep (hM5.block k h1 h2) q); have z5 : wy.heap.size ≤ w5.heap.size := hM5.size; have k8 := (hM5.block _ p8_l (by omega)).trans P8.out; have k8_0 := cv0 k8; have k8_1 := cv1 k8; have k8_2 := cv2 k8; have k8_3 := cv3 k8; have k8_4 := cv4 k8; have k8_5 := cv5 k8; have k8_f0 := free_heap k8 0; have k8_f1 := free_heap k8 1; have k8_f2 := free_heap k8 2; have k8_f3 := free_heap k8 3; have k8_f4 := free_heap k8 4; have k8_f5 := free_heap k8 5; have k8_l := lt_heap k8; have K8 := Lib.hid k8; have HU5 := Lib.hid hu5; have HROOM5 := Lib.hid hroom5; have HM5 := Lib.hid hM5; clear hu5 hroom5 hM5 k8))
        refine gen_last (fun wz => wz.heap[w.heap.size + 1 + 1]? = some (.cells #[.int .i64 3, .string ⟨#[]⟩, .int .i64 0, .string sx, .slice Ax nx cx, .slice (some ⟨w5.heap.size, 0, none⟩) 1 1] 27 (0, 0)) ∧ wz.heap[w5.heap.size]? = some (.cells #[.int .i64 (Tv.expand n x b (a :: c) (r - 1)).1.tm.lab.kind, .string (Tv.expand n x b (a :: c) (r - 1)).1.tm.lab.nm, .int .i64 (Tv.expand n x b (a :: c) (r - 1)).1.tm.lab.ix, .string s5, .slice A5 n5 c5, .slice B5 m5 d5] 27 (0, 0)) ∧ w5.heap.size + 1 ≤ wz.heap.size ∧ (∀ k, k < w5.heap.size → k ≠ w.heap.size + 1 + 1 → wz.heap[k]? = w5.heap[k]?) ∧ Mod rb w.heap.size w wz) ?_ ?_
        · refine ⟨?_, ?_, ?_, fun k h1 h2 => ?_, ?_⟩
          · exact heap_old (lt6 k8_l) (at6 K8.out)
          · exact heap_at size6.symm
          · rw [World.size_alloc]; exact Nat.succ_le_succ (le6 (Nat.le_refl _))
          · exact heap_old (lt6 h1) (far6 h2 rfl)
          · exact (mod6 (HMY.out.trans ((Mod.refl.drew).trans (HM5.out.mono (show w.heap.size ≤ wy.heap.size by omega)))) (by omega)).alloc (le6 (by omega)) _
        rintro wz ⟨q8, q9, zz, hkz, hMz⟩
        have hfin : ExpAt (n + 1) (.abs a x) (.fn a b) c r rb w S (.returned (.agg #[.int .i64 3, .string ⟨#[]⟩, .int .i64 0, .string sx, .slice Ax nx cx, .slice (some ⟨w5.heap.size, 0, none⟩) 1 1])) wz := by
          unfold ExpAt
          rw [HRES.out]
          have hlo : ∀ k, S k → k < w.heap.size := HLO.out
          refine ⟨_, rfl, Tm.abs_lit (cs := [.int .i64 (Tv.expand n x b (a :: c) (r - 1)).1.tm.lab.kind, .string (Tv.expand n x b (a :: c) (r - 1)).1.tm.lab.nm, .int .i64 (Tv.expand n x b (a :: c) (r - 1)).1.tm.lab.ix, .string s5, .slice A5 n5 c5, .slice B5 m5 d5]) ?_ ?_ q9 (Or.inr ⟨by omega, by omega⟩), ?_, hMz⟩
          · exact Ty.In_keep (fun k hk => hMz.block k (hlo k hk) (fun e => H.out.out (e ▸ hk))) (fun k hk => Or.inl hk) _ _ _ HIA.out
          · refine tmRep.keep HU5.out (fun k hk => ?_) (fun k hk => ?_)
            · rcases hk with (hk | hk) | hk
              · have := hlo k hk; exact hkz k (by omega) (by omega)
              · exact hkz k (by omega) (by omega)
              · exact hkz k (by omega) (by have h' : wy.heap.size ≤ k := hk.1; omega)
            · rcases hk with (hk | hk) | hk
              · exact Or.inl hk
              · exact Or.inr ⟨by omega, by omega⟩
              · have h' : wy.heap.size ≤ k := hk.1
                exact Or.inr ⟨by omega, by omega⟩
          · exact (hkz rb (by omega) (by omega)).trans HROOM5.out
        clear k8_0 k8_1 k8_2 k8_3 k8_4 k8_5 k8_f0 k8_f1 k8_f2 k8_f3 k8_f4 k8_f5 k8_l p8_0 p8_1 p8_2 p8_3 p8_4 p8_5 p8_f0 p8_f1 p8_f2 p8_f3 p8_f4 p8_f5 kc
        have HFIN := Lib.hid hfin
        have HKZ := Lib.hid hkz
        have HMZ := Lib.hid hMz
        have Q9 := Lib.hid q9
        clear hfin hkz hMz q9
        have q8_0 := cv0 q8
        have q8_1 := cv1 q8
        have q8_2 := cv2 q8
        have q8_3 := cv3 q8
        have q8_4 := cv4 q8
        have q8_5 := cv5 q8
        have q8_l := lt_heap q8
        have Q8 := Lib.hid q8
        clear q8
        go_wp2_with fail
        refine bodyPost_ret (v := .agg #[.int .i64 3, .string ⟨#[]⟩, .int .i64 0, .string sx, .slice Ax nx cx, .slice (some ⟨w5.heap.size, 0, none⟩) 1 1]) (by simp [results, Tryd.results70, go_sem, q8_0, q8_1, q8_2, q8_3, q8_4, q8_5, q8_l]) rfl ?_
        exact HFIN.out
      | _ => simp [Tv.isAbs] at hab
    | false =>
      have t3 : (v.tm.lab.kind == 3) = false := by cases v <;> first | rfl | simp [Tv.isAbs] at hab
      have hlf : Hid (Calls Tryd.prog 74 #[.agg #[.int .i64 v.tm.lab.kind, .string v.tm.lab.nm, .int .i64 v.tm.lab.ix, .string s9, .slice A9 n9 c9, .slice B9 m9 d9], .int .i64 1, .int .i64 0] wy fun e w' => ∃ ds, e = .returned (.agg ds.toArray) ∧ tmRep.R w' (Ex S wy w') (v.lift 1 0).tm ds ∧ Below wy.heap.size wy w') :=
        Lib.hid (lift_any v.nodes v 1 0 c.length [.int .i64 v.tm.lab.kind, .string v.tm.lab.nm, .int .i64 v.tm.lab.ix, .string s9, .slice A9 n9 c9, .slice B9 m9 d9] wy S (Nat.le_refl _) H.out.ok (by have := H.out.big; omega) (by have := H.out.big; omega) (tmRep.keep H.out.hv HKSY.out (fun _ h => h)) (fun k hk => by have := HLO.out k hk; omega))
      have HAB := Lib.hid hab
      clear hab
      have HLF := Lib.hid hlf
      clear hlf
      go_upto_region 8 with (fail)
      go_wp2_with fail
      (with_reducible refine HLF.out.out.mono ?_)
      rintro e w5 ⟨ds, rfl, hu5, hw5⟩
      obtain ⟨s5, A5, n5, c5, B5, m5, d5, rfl, _, _⟩ := Tm.shape hu5
      have z5 := hw5.size
      have p4 := (hw5.block _ p4_l).trans P4.out
      have p5 := (hw5.block _ p5_l).trans P5.out
      have p8 := (hw5.block _ p8_l).trans P8.out
      clear p4_0 p4_1 p4_2 p4_3 p4_4 p4_5 p4_l p5_0 p5_1 p5_l p8_0 p8_1 p8_2 p8_3 p8_4 p8_5 p8_f0 p8_f1 p8_f2 p8_f3 p8_f4 p8_f5 p8_l e0 e1 e2 e3
      have HU5 := Lib.hid hu5
      have HW5 := Lib.hid hw5
      clear hu5 hw5
      have p4_0 := cv0 p4
      have p4_1 := cv1 p4
      have p4_2 := cv2 p4
      have p4_3 := cv3 p4
      have p4_4 := cv4 p4
      have p4_5 := cv5 p4
      have p4_l := lt_heap p4
      have P4 := Lib.hid p4
      clear p4
      have p5_0 := cv0 p5
      have p5_1 := cv1 p5
      have p5_l := lt_heap p5
      have P5 := Lib.hid p5
      clear p5
      have p8_0 := cv0 p8
      have p8_1 := cv1 p8
      have p8_2 := cv2 p8
      have p8_3 := cv3 p8
      have p8_4 := cv4 p8
      have p8_5 := cv5 p8
      have p8_f0 := free_heap p8 0
      have p8_f1 := free_heap p8 1
      have p8_f2 := free_heap p8 2
      have p8_f3 := free_heap p8 3
      have p8_f4 := free_heap p8 4
      have p8_f5 := free_heap p8 5
      have p8_l := lt_heap p8
      have P8 := Lib.hid p8
      clear p8
      go_upto_region 9 with (fail)
      refine gen_last (fun wz => tmRep.R wz (fun k => S k ∨ (wx.heap.size ≤ k ∧ k < wz.heap.size)) (Tv.app (v.lift 1 0) (.var 0)).tm [.int .i64 4, .string ⟨#[]⟩, .int .i64 0, .string ⟨#[]⟩, .slice none 0 0, .slice (some ⟨w5.heap.size, 0, none⟩) 2 2] ∧
        wz.heap[w5.heap.size + 1]? = some (.cells #[.int .i64 4, .string ⟨#[]⟩, .int .i64 0, .string ⟨#[]⟩, .slice none 0 0, .slice (some ⟨w5.heap.size, 0, none⟩) 2 2] 27 (0, 0)) ∧ Below wy.heap.size wy wz ∧ w5.heap.size + 2 ≤ wz.heap.size) ?_ ?_
      · have hvar : ∀ (W : World) (S : Nat → Prop), tmRep.R W S (Tv.var 0).tm [.int .i64 2, .string ⟨#[]⟩, .int .i64 0, .string ⟨#[]⟩, .slice none 0 0, .slice none 0 0] := fun W S =>
          Tm.shut (a := ⟨2, bNil, ((0 : Nat) : Int), noTy⟩) (l := []) (by decide +kernel) (Ty.In.mk_ (by decide +kernel) rfl (by omega) (by omega)) Rep.Sl.nil
        refine ⟨Tm.app_lit (cs := [.int .i64 (v.lift 1 0).tm.lab.kind, .string (v.lift 1 0).tm.lab.nm, .int .i64 (v.lift 1 0).tm.lab.ix, .string s5, .slice A5 n5 c5, .slice B5 m5 d5]) ?_ (hvar _ _) (heap_old (by simp) (heap_at rfl)) (Or.inr ⟨by omega, by simp; omega⟩), heap_at (by simp), (HW5.out.alloc (by omega) _).alloc (by simp; omega) _, by simp⟩
        refine tmRep.keep HU5.out (fun k hk => ?_) (fun k hk => ?_)
        · have h' : k < w5.heap.size := by rcases hk with hk | hk; have := HLO.out k hk; omega; exact hk.2
          exact heap_old (by simp; omega) (heap_old h' rfl)
        · rcases hk with hk | hk
          · exact Or.inl hk
          · exact Or.inr ⟨by have := hk.1; omega, by have := hk.2; simp; omega⟩
      rintro wz ⟨huz, p10, hbz, zz⟩
      have p4 := (hbz.block _ (by omega)).trans ((HW5.out.block _ (by omega)).symm.trans P4.out)
      have p5 := (hbz.block _ (by omega)).trans ((HW5.out.block _ (by omega)).symm.trans P5.out)
      have p8 := (hbz.block _ (by omega)).trans ((HW5.out.block _ (by omega)).symm.trans P8.out)
      have hkSz : ∀ k, S k → wz.heap[k]? = w.heap[k]? := fun k hk => (hbz.block k (by have := HLO.out k hk; omega)).trans (HKSY.out k hk)
      have hkb := hkSz bs HSS.out
      have e0 := (cell_keep hkb os).trans K0.out
      have e1 := (cell_keep hkb (os + 1)).trans K1.out
      have e2 := (cell_keep hkb (os + 2)).trans K2.out
      have e3 := (cell_keep hkb (os + 2 + 1)).trans K3.out
      have lbz : bs < wz.heap.size := by omega
      have hroomz := (hbz.block rb (by omega)).trans HROOM.out
      have hMz : Mod rb w.heap.size w wz := HMY.out.thenBelow (hbz.mono (by omega))
      have hcz : Ctx wz (fun k => S k ∨ (wx.heap.size ≤ k ∧ k < wz.heap.size)) u9 (a :: c) := HCX.out.keep (fun k hk => by
        rcases hk with hk | hk
        · exact hbz.block k (by have := HLO.out k hk; omega)
        · exact hbz.block k hk.2) (fun k hk => hk.imp_right (fun h => ⟨h.1, by omega⟩))
      clear hkb p4_0 p4_1 p4_2 p4_3 p4_4 p4_5 p4_l p5_0 p5_1 p5_l p8_0 p8_1 p8_2 p8_3 p8_4 p8_5 p8_f0 p8_f1 p8_f2 p8_f3 p8_f4 p8_f5 p8_l
      have hih := Lib.hid (HIH.out (.app (v.lift 1 0) (.var 0)) b (a :: c) (r - 1) rb _ (.string sy) (.slice Ay ny cy) u9 wz.drew (fun k => S k ∨ (wx.heap.size ≤ k ∧ k < wz.heap.size))
        (ExpPre.drew ⟨by have := HFU.out; omega, by omega, by have := H.out.big; rw [Tv.eta_nodes]; simp only [List.length_cons] at this ⊢; omega, Tv.step_eta H.out.norm HAB.out, Tv.typ_eta H.out.typ, ⟨Tv.ok_lift v 1 0 c.length H.out.ok (by omega), by show 0 < (a :: c).length; simp⟩, huz, (HIB.out.keep hkSz).mono (fun k hk => Or.inl hk), hcz, hroomz, by rintro (h | h); exact H.out.out h; omega, fun k hk => by rcases hk with hk | hk; have := HLO.out k hk; exact (show k < wz.heap.size by omega); exact hk.2, by have := H.out.fu; omega⟩))
      have hres := Tv.expand_eta n v a b c r (by omega) HAB.out
      have HIH := Lib.hid hih
      have HRES := Lib.hid hres
      have HUZ := Lib.hid huz
      have HBZ := Lib.hid hbz
      have HKSZ := Lib.hid hkSz
      have HROOMZ := Lib.hid hroomz
      have HMZ := Lib.hid hMz
      have HCZ := Lib.hid hcz
      clear hih hres huz hbz hkSz hroomz hMz hcz
      have p4_0 := cv0 p4
      have p4_1 := cv1 p4
      have p4_2 := cv2 p4
      have p4_3 := cv3 p4
      have p4_4 := cv4 p4
      have p4_5 := cv5 p4
      have p4_l := lt_heap p4
      have P4 := Lib.hid p4
      clear p4
      have p5_0 := cv0 p5
      have p5_1 := cv1 p5
      have p5_l := lt_heap p5
      have P5 := Lib.hid p5
      clear p5
      have p8_0 := cv0 p8
      have p8_1 := cv1 p8
      have p8_2 := cv2 p8
      have p8_3 := cv3 p8
      have p8_4 := cv4 p8
      have p8_5 := cv5 p8
      have p8_f0 := free_heap p8 0
      have p8_f1 := free_heap p8 1
      have p8_f2 := free_heap p8 2
      have p8_f3 := free_heap p8 3
      have p8_f4 := free_heap p8 4
      have p8_f5 := free_heap p8 5
      have p8_l := lt_heap p8
      have P8 := Lib.hid p8
      clear p8
      have p10_0 := cv0 p10
      have p10_1 := cv1 p10
      have p10_2 := cv2 p10
      have p10_3 := cv3 p10
      have p10_4 := cv4 p10
      have p10_5 := cv5 p10
      have p10_l := lt_heap p10
      have P10 := Lib.hid p10
      clear p10
      go_wp2_with fail
      go_region_held3 (fun w' => w'.cell? ⟨w.heap.size + 1, 1, none⟩ = some (.slice (some ⟨bs, os, none⟩) 2 ct) ∧ w'.cell? ⟨bs, os, none⟩ = some (.string sx) ∧ w'.cell? ⟨bs, os + 1, none⟩ = some (.slice Ax nx cx) ∧ w'.cell? ⟨bs, os + 2, none⟩ = some (.string sy) ∧ w'.cell? ⟨bs, os + 2 + 1, none⟩ = some (.slice Ay ny cy) ∧
          w'.cell? ⟨w5.heap.size + 1, 0, none⟩ = some (.int .i64 4) ∧ w'.cell? ⟨w5.heap.size + 1, 1, none⟩ = some (.string ⟨#[]⟩) ∧ w'.cell? ⟨w5.heap.size + 1, 2, none⟩ = some (.int .i64 0) ∧ w'.cell? ⟨w5.heap.size + 1, 3, none⟩ = some (.string ⟨#[]⟩) ∧ w'.cell? ⟨w5.heap.size + 1, 4, none⟩ = some (.slice none 0 0) ∧ w'.cell? ⟨w5.heap.size + 1, 5, none⟩ = some (.slice (some ⟨w5.heap.size, 0, none⟩) 2 2))
        ((first
          | (go_split_ands; (repeat' apply And.intro) <;> (with_reducible refine (cell_keep (heap_old (lt6 (by omega)) (far6 (by omega) rfl)) _).trans ((kc _ _ (by omega) (by omega)).trans ?_)) <;> assumption)
          | (go_split_ands; (repeat' apply And.intro) <;> (with_reducible refine (cell_keep (heap_old (by omega) rfl) _).trans ((kc _ _ (by omega) (by omega)).trans ?_)) <;> assumption)
          | (go_split_ands; (repeat' apply And.intro) <;> (with_reducible refine (kc _ _ (by omega) (by omega)).trans ?_) <;> assumption)
          | (go_keep; done)))
        (((with_reducible refine HIH.out.out.mono ?_); rintro e w6 ⟨ds, rfl, hu6, hroom6, hM6⟩; obtain ⟨s6, A6, n6, c6, B6, m6, d6, rfl, _, _⟩ := Tm.shape hu6; have kc : ∀ k q, k < wz.heap.size → k ≠ rb → w6.cell? ⟨k, q, none⟩ = wz.cell? ⟨k, q, none⟩ := (fun k q h1 h2 => cell_keep (hM6.block k h1 h2) q); have z6 : wz.heap.size ≤ w6.heap.size := hM6.size; have k8 := (hM6.block _ p8_l (by omega)).trans P8.out; have k8_0 := cv0 k8; have k8_1 := cv1 k8; have k8_2 := cv2 k8; have k8_3 := cv3 k8; have k8_4 := cv4 k8; have k8_5 := cv5 k8; have k8_f0 := free_heap k8 0; have k8_f1 := free_heap k8 1; have k8_f2 := free_heap k8 2; have k8_f3 := free_heap k8 3; have k8_f4 := free_heap k8 4; have k8_f5 := free_heap k8 5; have k8_l := lt_heap k8; have K8 := Lib.hid k8; have HU6 := Lib.hid hu6; have HROOM6 := Lib.hid hroom6; have HM6 := Lib.hid hM6; clear hu6 hroom6 hM6 k8))
      refine gen_last (fun wq => wq.heap[w.heap.size + 1 + 1]? = some (.cells #[.int .i64 3, .string ⟨#[]⟩, .int .i64 0, .string sx, .slice Ax nx cx, .slice (some ⟨w6.heap.size, 0, none⟩) 1 1] 27 (0, 0)) ∧ wq.heap[w6.heap.size]? = some (.cells #[.int .i64 (Tv.expand n (.app (v.lift 1 0) (.var 0)) b (a :: c) (r - 1)).1.tm.lab.kind, .string (Tv.expand n (.app (v.lift 1 0) (.var 0)) b (a :: c) (r - 1)).1.tm.lab.nm, .int .i64 (Tv.expand n (.app (v.lift 1 0) (.var 0)) b (a :: c) (r - 1)).1.tm.lab.ix, .string s6, .slice A6 n6 c6, .slice B6 m6 d6] 27 (0, 0)) ∧ w6.heap.size + 1 ≤ wq.heap.size ∧ (∀ k, k < w6.heap.size → k ≠ w.heap.size + 1 + 1 → wq.heap[k]? = w6.heap[k]?) ∧ Mod rb w.heap.size w wq) ?_ ?_
      · refine ⟨?_, ?_, ?_, fun k h1 h2 => ?_, ?_⟩
        · exact heap_old (lt6 k8_l) (at6 K8.out)
        · exact heap_at size6.symm
        · rw [World.size_alloc]; exact Nat.succ_le_succ (le6 (Nat.le_refl _))
        · exact heap_old (lt6 h1) (far6 h2 rfl)
        · exact (mod6 (HMZ.out.trans ((Mod.refl.drew).trans (HM6.out.mono (show w.heap.size ≤ wz.heap.size by omega)))) (by omega)).alloc (le6 (by omega)) _
      rintro wq ⟨q8, q9, zq, hkz, hMq⟩
      have hfin : ExpAt (n + 1) v (.fn a b) c r rb w S (.returned (.agg #[.int .i64 3, .string ⟨#[]⟩, .int .i64 0, .string sx, .slice Ax nx cx, .slice (some ⟨w6.heap.size, 0, none⟩) 1 1])) wq := by
        unfold ExpAt
        rw [HRES.out]
        have hlo : ∀ k, S k → k < w.heap.size := HLO.out
        refine ⟨_, rfl, Tm.abs_lit (cs := [.int .i64 (Tv.expand n (.app (v.lift 1 0) (.var 0)) b (a :: c) (r - 1)).1.tm.lab.kind, .string (Tv.expand n (.app (v.lift 1 0) (.var 0)) b (a :: c) (r - 1)).1.tm.lab.nm, .int .i64 (Tv.expand n (.app (v.lift 1 0) (.var 0)) b (a :: c) (r - 1)).1.tm.lab.ix, .string s6, .slice A6 n6 c6, .slice B6 m6 d6]) ?_ ?_ q9 (Or.inr ⟨by omega, by omega⟩), ?_, hMq⟩
        · exact Ty.In_keep (fun k hk => hMq.block k (hlo k hk) (fun e => H.out.out (e ▸ hk))) (fun k hk => Or.inl hk) _ _ _ HIA.out
        · refine tmRep.keep HU6.out (fun k hk => ?_) (fun k hk => ?_)
          · rcases hk with (hk | hk) | hk
            · have := hlo k hk; exact hkz k (by omega) (by omega)
            · exact hkz k (by omega) (by omega)
            · exact hkz k (by omega) (by have h' : wz.heap.size ≤ k := hk.1; omega)
          · rcases hk with (hk | hk) | hk
            · exact Or.inl hk
            · exact Or.inr ⟨by omega, by omega⟩
            · have h' : wz.heap.size ≤ k := hk.1
              exact Or.inr ⟨by omega, by omega⟩
        · exact (hkz rb (by omega) (by omega)).trans HROOM6.out
      clear k8_0 k8_1 k8_2 k8_3 k8_4 k8_5 k8_f0 k8_f1 k8_f2 k8_f3 k8_f4 k8_f5 k8_l p8_0 p8_1 p8_2 p8_3 p8_4 p8_5 p8_f0 p8_f1 p8_f2 p8_f3 p8_f4 p8_f5 kc
      have HFIN := Lib.hid hfin
      have HKZ := Lib.hid hkz
      have HMQ := Lib.hid hMq
      have Q9 := Lib.hid q9
      clear hfin hkz hMq q9
      have q8_0 := cv0 q8
      have q8_1 := cv1 q8
      have q8_2 := cv2 q8
      have q8_3 := cv3 q8
      have q8_4 := cv4 q8
      have q8_5 := cv5 q8
      have q8_l := lt_heap q8
      have Q8 := Lib.hid q8
      clear q8
      go_wp2_with fail
      refine bodyPost_ret (v := .agg #[.int .i64 3, .string ⟨#[]⟩, .int .i64 0, .string sx, .slice Ax nx cx, .slice (some ⟨w6.heap.size, 0, none⟩) 1 1]) (by simp [results, Tryd.results70, go_sem, q8_0, q8_1, q8_2, q8_3, q8_4, q8_5, q8_l]) rfl ?_
      exact HFIN.out


theorem infoTermB : (Tryd.prog.info? 27).map (fun i => (i.zero, i.size, i.bytes)) = some (some (.agg #[.int .i64 0, .string ⟨#[]⟩, .int .i64 0, .string ⟨#[]⟩, .slice none 0 0, .slice none 0 0]), 6, 96) := by kernel_rfl
theorem Tv.head_nonapp : ∀ v : Tv, (v.tm.lab.kind == 4) = false → v.head = v ∧ v.rargs = []
  | .con _ _, _ => ⟨rfl, rfl⟩
  | .var _, _ => ⟨rfl, rfl⟩
  | .abs _ _, _ => ⟨rfl, rfl⟩
  | .app _ _, h => by simp [Tv.tm, Tree.lab] at h
theorem Tv.xargs_nil (F : Tv → Sy → Int → Tv × Int) (h : Sy) (r : Int) (acc : Tv) : Tv.xargs F [] h r acc = (acc, r) := by cases h <;> rfl
theorem Tv.head_nodes : ∀ v : Tv, v.head.nodes ≤ v.nodes
  | .con _ _ => Nat.le_refl _
  | .var _ => Nat.le_refl _
  | .abs _ _ => Nat.le_refl _
  | .app f x => by have := Tv.head_nodes f; simp only [Tv.head, Tv.nodes]; omega
theorem Tv.depth_le_nodes (v : Tv) : v.depth ≤ v.nodes := by
  induction v with
  | con _ _ => simp [Tv.depth, Tv.nodes]
  | var _ => simp [Tv.depth, Tv.nodes]
  | abs _ _ ih => simp [Tv.depth, Tv.nodes, ih]
  | app f x ih1 ih2 => simp only [Tv.depth, Tv.nodes]; omega
theorem Tv.head_ok : ∀ (v : Tv) (bd : Nat), v.ok bd → v.head.ok bd
  | .con _ _, _, h => h
  | .var _, _, h => h
  | .abs _ _, _, h => h
  | .app f x, bd, h => Tv.head_ok f bd h.1
theorem Tv.rargs_ok : ∀ (v : Tv) (bd : Nat), v.ok bd → ∀ x ∈ v.rargs, x.ok bd
  | .con _ _, _, _, x, hx => by simp [Tv.rargs] at hx
  | .var _, _, _, x, hx => by simp [Tv.rargs] at hx
  | .abs _ _, _, _, x, hx => by simp [Tv.rargs] at hx
  | .app f y, bd, h, x, hx => by
    simp only [Tv.rargs, List.mem_cons] at hx
    rcases hx with rfl | hx
    · exact h.2
    · exact Tv.rargs_ok f bd h.1 x hx

set_option maxRecDepth 100000 in
set_option maxHeartbeats 4000000 in
theorem expand_base_any (n : Nat) (IH : ExpIH n) (v : Tv) (s : Sy) (c : List Sy) (r : Int) (rb : Nat) (cs : List Value) (s0 s1 u : Value) (w : World) (S : Nat → Prop) (h : ExpPre (n + 1) v s c r rb cs s0 s1 u w S) (hr : 0 ≤ r) (hs : s.isFn = false) :
    Calls Tryd.prog 70 #[.agg cs.toArray, .agg #[s0, s1], u, .pointer (some ⟨rb, 0, none⟩)] w (ExpAt (n + 1) v s c r rb w S) := by
  obtain ⟨s9, A9, n9, c9, B9, m9, d9, rfl, _, _⟩ := Tm.shape h.hv
  obtain ⟨st, At, nt, ct, rfl, rfl⟩ := h.hs.shape
  have hnt : nt = 0 := by
    cases s with
    | fn a b => simp [Sy.isFn] at hs
    | e => obtain ⟨_, _, _, e⟩ := Sy.In_e h.hs; simp at e; exact e.2.1
    | t => obtain ⟨_, _, _, e⟩ := Sy.In_t h.hs; simp at e; exact e.2.1
  subst hnt
  obtain ⟨_, Ac, nc, kcp, rfl, hnk, hnone⟩ := id h.hc
  have hroom := h.room
  have l1 := lt_heap hroom
  have l2 : rb < w.heap.size + 1 := by omega
  have l3 : rb < w.heap.size + 1 + 1 := by omega
  have hlo := h.lo
  have hbig := h.big
  have hfu := h.fu
  obtain ⟨g, hg1, hg2⟩ := Tv.spine_typ v c s h.typ
  have hab : v.isAbs = false := by
    cases v with
    | abs a b => obtain ⟨r, e, _⟩ := Tv.typ_abs h.typ; rw [e] at hs; simp [Sy.isFn] at hs
    | _ => rfl
  have hrl := v.rargs_len
  have hres := Tv.expand_base n v s c r (by omega) hs
  rw [hg1] at hres
  simp only [Option.getD_some] at hres
  have hru : r ≤ 1000000 := by have := h.fuel; omega
  obtain ⟨i0, hi0, hz0, hz1, hz2⟩ := info_parts infoTermB
  have HIH := Lib.hid IH
  have H := Lib.hid h
  clear IH h
  have HLO := Lib.hid hlo
  have HG1 := Lib.hid hg1
  have HG2 := Lib.hid hg2
  have HAB := Lib.hid hab
  have HRES := Lib.hid hres
  have HRL := Lib.hid hrl
  clear hlo hg1 hg2 hab hres hrl
  have hroom_0 := cv0 hroom
  have hroom_l := lt_heap hroom
  have HROOM := Lib.hid hroom
  clear hroom
  go_enter Tryd.func70, Tryd.ntmps70
  go_wp2_with fail
  go_loopg [11] v.nodes (fun m v11 wr => ∃ (v' : Tv) (L : List Tv) (s' : ByteArray) (A' : Option Addr) (n' c' : Nat) (B' : Option Addr) (m' d' : Nat), v'.nodes ≤ m ∧ v'.nodes + L.length ≤ v.nodes ∧ v.rargs = L ++ v'.rargs ∧ v.head = v'.head ∧
    wr.heap[w.heap.size]? = some (.cells #[.int .i64 v'.tm.lab.kind, .string v'.tm.lab.nm, .int .i64 v'.tm.lab.ix, .string s', .slice A' n' c', .slice B' m' d'] 27 (0, 0)) ∧
    tmRep.R wr S v'.tm [.int .i64 v'.tm.lab.kind, .string v'.tm.lab.nm, .int .i64 v'.tm.lab.ix, .string s', .slice A' n' c', .slice B' m' d'] ∧
    wr.heap[w.heap.size + 1 + 1]? = some (.cells #[.int .i64 0, .string ⟨#[]⟩, .int .i64 0, .string ⟨#[]⟩, .slice none 0 0, .slice none 0 0] 27 (0, 0)) ∧
    tmRep.Own 27 (w.heap.size + 3) wr S v11 (L.map Tv.tm) ∧ Below w.heap.size w wr ∧ w.heap.size + 3 ≤ wr.heap.size)
  case atStart =>
    refine ⟨v, [], s9, A9, n9, c9, B9, m9, d9, Nat.le_refl _, by simp, by simp, rfl, heap_old (by simp; omega) (heap_old (by simp) (heap_at rfl)), tmRep.keep H.out.hv (fun k hk => ?_) (fun _ h => h), heap_at (by simp), Rep.Own.nil, by go_grown, by simp⟩
    have := HLO.out k hk
    exact heap_old (by simp; omega) (heap_old (by simp; omega) (heap_old this rfl))
  case round =>
    obtain ⟨v', L, s', A', n', c', B', m', d', hm, hvl, hra, hhd, p0, hv', p2, hown, hb, hsz⟩ := hrel
    cases hk4 : (v'.tm.lab.kind == 4) with
    | true =>
      cases v' with
      | con _ _ => simp [Tv.tm, Tree.lab] at hk4
      | var _ => simp [Tv.tm, Tree.lab] at hk4
      | abs _ _ => simp [Tv.tm, Tree.lab] at hk4
      | app f x =>
        obtain ⟨_, _, vv, e9, _, _, hl9⟩ := Tm.open_ (a := ⟨4, bNil, 0, noTy⟩) (l := [f.tm, x.tm]) hv'
        simp only [List.cons.injEq, and_true] at e9
        obtain ⟨_, _, _, _, _, e9⟩ := e9
        subst e9
        obtain ⟨Aa, ma, ca, e9, hl9', hm9, hA9⟩ := hl9
        simp only [Value.slice.injEq] at e9
        obtain ⟨rfl, rfl, rfl⟩ := e9
        simp only [List.length_cons, List.length_nil] at hl9'
        subst hl9'
        obtain ⟨b, o, kc1, rfl, hSb, hkr1, hkc1⟩ := Tm.kid (l := [f.tm, x.tm]) (c := d') (k := 0) ⟨_, _, _, rfl, rfl, hm9, hA9⟩ rfl
        obtain ⟨b', o', kc2, hbo, _, hkr2, hkc2⟩ := Tm.kid (l := [f.tm, x.tm]) (c := d') (k := 1) ⟨_, _, _, rfl, rfl, hm9, hA9⟩ rfl
        obtain ⟨rfl, rfl⟩ : b = b' ∧ o = o' := by simpa using hbo
        obtain ⟨s1, A1, n1, c1, B1, m1, d1, rfl, _, _⟩ := Tm.shape hkr1
        obtain ⟨s2, A2, n2, c2, B2, m2, d2, rfl, _, _⟩ := Tm.shape hkr2
        have hkc1' : ∀ (j : Nat) (u : Value), _ → wr.cell? ⟨b, o + j, none⟩ = some u := fun j u hj => by simpa using hkc1 j u hj
        have hkc2' : ∀ (j : Nat) (u : Value), _ → wr.cell? ⟨b, o + 6 + j, none⟩ = some u := fun j u hj => by simpa using hkc2 j u hj
        have f0 : wr.cell? ⟨b, o, none⟩ = _ := hkc1' 0 _ rfl
        have f1 : wr.cell? ⟨b, o + 1, none⟩ = _ := hkc1' 1 _ rfl
        have f2 : wr.cell? ⟨b, o + 2, none⟩ = _ := hkc1' 2 _ rfl
        have f3 : wr.cell? ⟨b, o + 3, none⟩ = _ := hkc1' 3 _ rfl
        have f4 : wr.cell? ⟨b, o + 4, none⟩ = _ := hkc1' 4 _ rfl
        have f5 : wr.cell? ⟨b, o + 5, none⟩ = _ := hkc1' 5 _ rfl
        have e0 : wr.cell? ⟨b, o + 6, none⟩ = _ := hkc2' 0 _ rfl
        have e1 : wr.cell? ⟨b, o + 6 + 1, none⟩ = _ := hkc2' 1 _ rfl
        have e2 : wr.cell? ⟨b, o + 6 + 2, none⟩ = _ := hkc2' 2 _ rfl
        have e3 : wr.cell? ⟨b, o + 6 + 3, none⟩ = _ := hkc2' 3 _ rfl
        have e4 : wr.cell? ⟨b, o + 6 + 4, none⟩ = _ := hkc2' 4 _ rfl
        have e5 : wr.cell? ⟨b, o + 6 + 5, none⟩ = _ := hkc2' 5 _ rfl
        have lb := HLO.out b hSb
        have lbr : b < wr.heap.size := by omega
        obtain ⟨Aq, cq, hq⟩ := hown.len
        rw [List.length_map] at hq
        subst hq
        have hblk := hown.block
        obtain ⟨xs, hrow, hall⟩ := id hown
        rw [List.length_map] at hrow
        have hvn := v.nodes_pos
        simp only [Tv.nodes] at hm hvl
        have hSr : ∀ k, S k → k < wr.heap.size := fun k hk => by have := HLO.out k hk; omega
        clear hkc1 hkc1' hkc2 hkc2' hA9 hm9 hbo hk4
        have HVP := Lib.hid hv'
        have HOWN := Lib.hid hown
        have HB := Lib.hid hb
        have HKR1 := Lib.hid hkr1
        have HKR2 := Lib.hid hkr2
        have HBLK := Lib.hid hblk
        have HROW := Lib.hid hrow
        have HALL := Lib.hid hall
        have HRA := Lib.hid hra
        have HHD := Lib.hid hhd
        have HSR := Lib.hid hSr
        clear hv' hown hb hkr1 hkr2 hblk hrow hall hra hhd hSr
        have p0_0 := cv0 p0
        have p0_1 := cv1 p0
        have p0_2 := cv2 p0
        have p0_3 := cv3 p0
        have p0_4 := cv4 p0
        have p0_5 := cv5 p0
        have p0_f0 := free_heap p0 0
        have p0_f1 := free_heap p0 1
        have p0_f2 := free_heap p0 2
        have p0_f3 := free_heap p0 3
        have p0_f4 := free_heap p0 4
        have p0_f5 := free_heap p0 5
        have p0_l := lt_heap p0
        have P0 := Lib.hid p0
        clear p0
        have p2_0 := cv0 p2
        have p2_1 := cv1 p2
        have p2_2 := cv2 p2
        have p2_3 := cv3 p2
        have p2_4 := cv4 p2
        have p2_5 := cv5 p2
        have p2_l := lt_heap p2
        have P2 := Lib.hid p2
        clear p2
        go_wp2_with (at_builtin; refine wpList_append_lies _ ?h1 (.tmp 84) (.tmp 89) 25 ?h2 (w.heap.size + 3) 27 i0 _ 6 96 ?h3 hi0 hz0 hz1 hz2 ?h4 ?h5 (.slice Aq L.length cq) L.length xs ?h6 ?h7 ⟨wr.heap.size, 0, none⟩ 1 1 [.int .i64 x.tm.lab.kind, .string x.tm.lab.nm, .int .i64 x.tm.lab.ix, .string s2, .slice A2 n2 c2, .slice B2 m2 d2] ?h8 ?h9 ?h10 ?h11 ?h12 ?h13 ?h14 ?h15 (wr.heap.size + 1) ?h16 ?_)
        all_goals try (case h1 => rfl)
        all_goals try (case h2 => rfl)
        all_goals try (case h3 => exact Tryd.underlying25)
        all_goals try (case h4 => rfl)
        all_goals try (case h5 => omega)
        all_goals try (case h6 => rfl)
        all_goals try (case h7 => exact HROW.out.alloc _)
        all_goals try (case h8 => rfl)
        all_goals try (case h9 => rfl)
        all_goals try (case h10 => exact World.news_of_block (cs := #[.int .i64 x.tm.lab.kind, .string x.tm.lab.nm, .int .i64 x.tm.lab.ix, .string s2, .slice A2 n2 c2, .slice B2 m2 d2]) (t := 27) (fr := (0, 0)) (heap_at (by simp)))
        all_goals try (case h11 => simp [Value.oneCell'])
        all_goals try (case h12 => omega)
        all_goals try (case h13 => first | (simp [maxLen]; omega) | (unfold maxLen; omega))
        all_goals try (case h14 => omega)
        all_goals try (case h15 => first | omega | (simp; omega))
        all_goals try (case h16 => first | simp | omega)
        intro gg cap w3 hown3 hgrow hat hlt
        have z3 : wr.heap.size + 1 ≤ w3.heap.size := by have := hgrow.size; simpa using this
        have hk3 : ∀ k, k < wr.heap.size → (Value.slice Aq L.length cq).ownBlock ≠ some k → w3.heap[k]? = wr.heap[k]? := fun k h1 h2 => (hgrow.block k (by simp; omega) (fun e => h2 e.symm)).trans (heap_old h1 rfl)
        have hlow3 : ∀ k, k < w.heap.size + 3 → w3.heap[k]? = wr.heap[k]? := fun k hk => hk3 k (by omega) (fun e => by have := (HBLK.out k e).1; omega)
        have p0 := (hlow3 _ (by omega)).trans P0.out
        have p2 := (hlow3 _ (by omega)).trans P2.out
        have hkb := hlow3 b (by omega)
        have f0 := (cell_keep hkb _).trans f0
        have f1 := (cell_keep hkb _).trans f1
        have f2 := (cell_keep hkb _).trans f2
        have f3 := (cell_keep hkb _).trans f3
        have f4 := (cell_keep hkb _).trans f4
        have f5 := (cell_keep hkb _).trans f5
        have lb3 : b < w3.heap.size := by omega
        clear p0_0 p0_1 p0_2 p0_3 p0_4 p0_5 p0_f0 p0_f1 p0_f2 p0_f3 p0_f4 p0_f5 p0_l p2_0 p2_1 p2_2 p2_3 p2_4 p2_5 p2_l e0 e1 e2 e3 e4 e5
        have HOWN3 := Lib.hid hown3
        have HGROW := Lib.hid hgrow
        have HAT := Lib.hid hat
        have HK3 := Lib.hid hk3
        have HLOW3 := Lib.hid hlow3
        have HKB := Lib.hid hkb
        clear hown3 hgrow hat hk3 hlow3 hkb
        have p0_0 := cv0 p0
        have p0_1 := cv1 p0
        have p0_2 := cv2 p0
        have p0_3 := cv3 p0
        have p0_4 := cv4 p0
        have p0_5 := cv5 p0
        have p0_f0 := free_heap p0 0
        have p0_f1 := free_heap p0 1
        have p0_f2 := free_heap p0 2
        have p0_f3 := free_heap p0 3
        have p0_f4 := free_heap p0 4
        have p0_f5 := free_heap p0 5
        have p0_l := lt_heap p0
        have P0 := Lib.hid p0
        clear p0
        have p2_0 := cv0 p2
        have p2_1 := cv1 p2
        have p2_2 := cv2 p2
        have p2_3 := cv3 p2
        have p2_4 := cv4 p2
        have p2_5 := cv5 p2
        have p2_l := lt_heap p2
        have P2 := Lib.hid p2
        clear p2
        go_wp2_with fail
        go_roundg f.nodes
        case measure => omega
        case rel =>
          have hS3 : ∀ k, S k → w3.heap[k]? = wr.heap[k]? := fun k hk => HLOW3.out k (by have := HLO.out k hk; omega)
          have hap := Rep.appended1 (ρ := tmRep) (w := wr.alloc (.cells #[.int .i64 x.tm.lab.kind, .string x.tm.lab.nm, .int .i64 x.tm.lab.ix, .string s2, .slice A2 n2 c2, .slice B2 m2 d2] 27)) (H := wr.heap.size + 1) (l := L.map Tv.tm) (a := x.tm) (S := S) (T := S)
            (HALL.out.keep (fun k hk => heap_old (HSR.out k hk.1) rfl) (fun _ h => h)) (tmRep.keep HKR2.out (fun k hk => heap_old (HSR.out k hk) rfl) (fun _ h => h))
            (fun k hk => ⟨hk, fun e => by have := HBLK.out _ e; have := HLO.out k hk; omega⟩) (fun k hk => by have := HSR.out k hk; simp; omega) (by rw [List.length_map]; exact HOWN3.out) HGROW.out HAT.out (by simp)
          rw [List.length_map] at hap
          have hb3 : Below w.heap.size w w3 := (HB.out.alloc (by omega) _).grown HGROW.out (by simp; omega) (fun k hk => by have := HBLK.out k hk; omega)
          have hne : w.heap.size ≠ gg := by
            rcases HAT.out with h | h
            · have := HBLK.out gg h; omega
            · omega
          refine ⟨f, L ++ [x], s1, A1, n1, c1, B1, m1, d1, Nat.le_refl _, by simp; omega, by rw [HRA.out]; simp [Tv.rargs], by rw [HHD.out]; rfl, at6 P0.out, tmRep.keep HKR1.out (fun k hk => far6 (by have := HLO.out k hk; omega) (hS3 k hk)) (fun _ h => h), far6 (by omega) P2.out, ?_, below6 hb3 (by omega), le6 (by omega)⟩
          rw [List.map_append]
          exact hap.keepG (fun k e => far6 (by simp only [Value.ownBlock, Option.some.injEq] at e; omega) rfl) (fun k hk => far6 (by have := HLO.out k hk; omega) rfl)
    | false =>
      obtain ⟨hv1, hv2⟩ := Tv.head_nonapp v' hk4
      rw [hv1] at hhd
      rw [hv2, List.append_nil] at hra
      subst hhd hra
      have hn' := v.head_nodes
      have hgt := HG1.out
      obtain ⟨Aq, cq, hq⟩ := hown.len
      rw [List.length_map] at hq
      subst hq
      have hroomr := (hb.block rb l1).trans HROOM.out
      clear hv1 hv2 hm
      have HVP := Lib.hid hv'
      have HOWN := Lib.hid hown
      have HB := Lib.hid hb
      clear hv' hown hb
      have hroomr_0 := cv0 hroomr
      have hroomr_f0 := free_heap hroomr 0
      have hroomr_l := lt_heap hroomr
      have HROOMR := Lib.hid hroomr
      clear hroomr
      have p0_0 := cv0 p0
      have p0_1 := cv1 p0
      have p0_2 := cv2 p0
      have p0_3 := cv3 p0
      have p0_4 := cv4 p0
      have p0_5 := cv5 p0
      have p0_l := lt_heap p0
      have P0 := Lib.hid p0
      clear p0
      have p2_0 := cv0 p2
      have p2_1 := cv1 p2
      have p2_2 := cv2 p2
      have p2_3 := cv3 p2
      have p2_4 := cv4 p2
      have p2_5 := cv5 p2
      have p2_l := lt_heap p2
      have P2 := Lib.hid p2
      clear p2
      go_upto_region 15 with (fail)
      refine gen_last (fun wa => (∀ k, k ≠ rb → wa.heap[k]? = wr.heap[k]?) ∧ wa.heap[rb]? = some (.cells #[.int .i64 (r - 1)] 3 (0, 0)) ∧ wa.heap.size = wr.heap.size ∧ Mod rb w.heap.size w wa) ?_ ?_
      · exact ⟨fun k hk => heap_far _ hk rfl, heap_set HROOMR.out 0 (.int .i64 (r - 1)), size_set _ _ _, (Mod.below HB.out).setRow _⟩
      rintro wa ⟨hka, hra, zwa, hMa⟩
      have HRA_ := Lib.hid hra
      have hSa : ∀ k, S k → wa.heap[k]? = wr.heap[k]? := fun k hk => hka k (fun e => H.out.out (e ▸ hk))
      have hSwa : ∀ k, S k → wa.heap[k]? = w.heap[k]? := fun k hk => (hSa k hk).trans (HB.out.block k (HLO.out k hk))
      have p0 := (hka _ (by omega)).trans P0.out
      have p2 := (hka _ (by omega)).trans P2.out
      have hty := Lib.hid (typed_any v.head c [.int .i64 v.head.tm.lab.kind, .string v.head.tm.lab.nm, .int .i64 v.head.tm.lab.ix, .string s', .slice A' n' c', .slice B' m' d'] (.slice Ac nc kcp) wa S (Tv.head_ok v _ H.out.ok) (by have := v.head.depth_le_nodes; omega) (tmRep.keep HVP.out hSa (fun _ h => h)) (H.out.hc.keep hSwa (fun _ h => h)) (fun k hk => by have := HLO.out k hk; omega))
      clear hroomr_0 hroomr_f0 hroomr_l p0_0 p0_1 p0_2 p0_3 p0_4 p0_5 p0_l p2_0 p2_1 p2_2 p2_3 p2_4 p2_5 p2_l
      clear hra
      have HKA := Lib.hid hka
      have HMA := Lib.hid hMa
      have HSA := Lib.hid hSa
      have HSWA := Lib.hid hSwa
      have HTY := Lib.hid hty
      clear hka hMa hSa hSwa hty
      have p0_0 := cv0 p0
      have p0_1 := cv1 p0
      have p0_2 := cv2 p0
      have p0_3 := cv3 p0
      have p0_4 := cv4 p0
      have p0_5 := cv5 p0
      have p0_l := lt_heap p0
      have P0 := Lib.hid p0
      clear p0
      have p2_0 := cv0 p2
      have p2_1 := cv1 p2
      have p2_2 := cv2 p2
      have p2_3 := cv3 p2
      have p2_4 := cv4 p2
      have p2_5 := cv5 p2
      have p2_l := lt_heap p2
      have P2 := Lib.hid p2
      clear p2
      go_wp2_with fail
      (with_reducible refine HTY.out.out.mono ?_)
      rintro e w5 ⟨⟨v0, v1, ok, T, rfl, hT, hrr⟩, hw5⟩
      rw [hgt] at hrr
      obtain ⟨rfl, rfl⟩ := hrr
      obtain ⟨sg, Ag, ng, cg, rfl, rfl⟩ := hT.shape
      have z5 := hw5.size
      have p0 := (hw5.block _ p0_l).trans P0.out
      have p2 := (hw5.block _ p2_l).trans P2.out
      clear p0_0 p0_1 p0_2 p0_3 p0_4 p0_5 p0_l p2_0 p2_1 p2_2 p2_3 p2_4 p2_5 p2_l
      have HW5 := Lib.hid hw5
      have HT := Lib.hid hT
      have P0 := Lib.hid p0
      have P2 := Lib.hid p2
      clear hw5 hT p0 p2
      go_wp2_with fail
      go_loopg [14] v.rargs.length (fun m v14 wz => v14 = .int .i64 ((m : Int) - 1) ∧ m ≤ v.rargs.length ∧ ∃ (acc : Tv) (h : Sy) (r' : Int) (s' : ByteArray) (A' : Option Addr) (n' c' : Nat) (B' : Option Addr) (m' d' : Nat) (sh : ByteArray) (Ah : Option Addr) (nh ch : Nat),
        Tv.xargs (fun x a r => Tv.expand n x a c r) (v.rargs.take m).reverse h r' acc = Tv.xargs (fun x a r => Tv.expand n x a c r) v.rargs.reverse g (r - 1) v.head ∧ Fit c (v.rargs.take m).reverse h s ∧ r' ≤ r - 1 ∧ -((n * 100000 : Nat) : Int) - 1 - ((v.rargs.length - m : Nat) : Int) ≤ r' ∧
        wz.heap[w.heap.size]? = some (.cells #[.int .i64 acc.tm.lab.kind, .string acc.tm.lab.nm, .int .i64 acc.tm.lab.ix, .string s', .slice A' n' c', .slice B' m' d'] 27 (0, 0)) ∧
        tmRep.R wz (fun b => New S wa.heap.size wz b ∧ b ≠ w5.heap.size) acc.tm [.int .i64 acc.tm.lab.kind, .string acc.tm.lab.nm, .int .i64 acc.tm.lab.ix, .string s', .slice A' n' c', .slice B' m' d'] ∧
        wz.heap[w5.heap.size]? = some (.cells #[.string sh, .slice Ah nh ch] 24 (0, 0)) ∧ h.ty.In wz (fun b => New S wa.heap.size wz b ∧ b ≠ w5.heap.size) (.string sh) (.slice Ah nh ch) ∧
        wz.heap[rb]? = some (.cells #[.int .i64 r'] 3 (0, 0)) ∧ Mod rb w.heap.size w wz ∧ w5.heap.size + 1 ≤ wz.heap.size ∧ (∀ k, w.heap.size + 1 ≤ k → k < w5.heap.size → wz.heap[k]? = w5.heap[k]?))
      case atStart =>
        have hold : ∀ (o : Obj) k, k < w5.heap.size → (w5.alloc o).heap[k]? = w5.heap[k]? := fun o k hk => heap_old hk rfl
        refine ⟨rfl, Nat.le_refl _, v.head, g, r - 1, s', A', n', c', B', m', d', sg, Ag, ng, cg, by rw [List.take_length], by rw [List.take_length]; exact HG2.out, Int.le_refl _, by omega, heap_old (by omega) P0.out, ?_, heap_at rfl, ?_, ?_, ?_, by simp, fun k h1 h2 => heap_old h2 rfl⟩
        · exact tmRep.keep HVP.out (fun k hk => (hold _ k (by have := HLO.out k hk; omega)).trans ((HW5.out.block k (by have := HLO.out k hk; omega)).trans (HSA.out k hk))) (fun k hk => ⟨Or.inl hk, by have := HLO.out k hk; omega⟩)
        · refine Ty.In_keep (fun k hk => hold _ k ?_) (fun k hk => ?_) _ _ _ HT.out
          · rcases hk with hk | hk
            · have := HLO.out k hk; omega
            · exact hk.2
          · rcases hk with hk | hk
            · exact ⟨Or.inl hk, by have := HLO.out k hk; omega⟩
            · exact ⟨Or.inr ⟨hk.1, by have := hk.2; simp; omega⟩, by have := hk.2; omega⟩
        · exact heap_old (by omega) ((HW5.out.block rb (by omega)).trans HRA_.out)
        · exact (HMA.out.thenBelow (HW5.out.mono (by omega))).alloc (by omega) _
      case round =>
        rename World => wz
        obtain ⟨rfl, hml, acc, h, r', s3, A3, n3, c3, B3, m3, d3, sh, Ah, nh, ch, hxa, hfit, hr1, hr2, p0, hacc, p12, hht, hrz, hMz, zz, hkz⟩ := hrel
        have hSz : ∀ k, S k → wz.heap[k]? = w.heap[k]? := fun k hk => hMz.block k (HLO.out k hk) (fun e => H.out.out (e ▸ hk))
        have hKlo : ∀ k, New S wa.heap.size wz k → k < wz.heap.size := New.lo (fun k hk => by have := HLO.out k hk; omega) (by omega)
        cases gk with
        | zero =>
          have e0 : ((0 : Nat) : Int) - 1 = -1 := rfl
          rw [e0]
          simp only [List.take_zero, List.reverse_nil] at hxa hfit
          have p2z := (hkz (w.heap.size + 1 + 1) (by omega) (by omega)).trans P2.out
          have HF := Lib.hid (HRES.out.trans (hxa.symm.trans (Tv.xargs_nil _ _ _ _)))
          clear hxa hfit e0
          have HACC := Lib.hid hacc
          have HHT := Lib.hid hht
          have HRZ := Lib.hid hrz
          have HMZ := Lib.hid hMz
          have HKZ := Lib.hid hkz
          have HSZ := Lib.hid hSz
          have HKLO := Lib.hid hKlo
          clear hacc hht hrz hMz hkz hSz hKlo
          have p0_0 := cv0 p0
          have p0_1 := cv1 p0
          have p0_2 := cv2 p0
          have p0_3 := cv3 p0
          have p0_4 := cv4 p0
          have p0_5 := cv5 p0
          have p0_l := lt_heap p0
          have P0 := Lib.hid p0
          clear p0
          have p2z_0 := cv0 p2z
          have p2z_1 := cv1 p2z
          have p2z_2 := cv2 p2z
          have p2z_3 := cv3 p2z
          have p2z_4 := cv4 p2z
          have p2z_5 := cv5 p2z
          have p2z_f0 := free_heap p2z 0
          have p2z_f1 := free_heap p2z 1
          have p2z_f2 := free_heap p2z 2
          have p2z_f3 := free_heap p2z 3
          have p2z_f4 := free_heap p2z 4
          have p2z_f5 := free_heap p2z 5
          have p2z_l := lt_heap p2z
          have P2Z := Lib.hid p2z
          clear p2z
          have p12_0 := cv0 p12
          have p12_1 := cv1 p12
          have p12_l := lt_heap p12
          have P12 := Lib.hid p12
          clear p12
          go_wp2_with fail
          refine bodyPost_ret (v := .agg #[.int .i64 acc.tm.lab.kind, .string acc.tm.lab.nm, .int .i64 acc.tm.lab.ix, .string s3, .slice A3 n3 c3, .slice B3 m3 d3]) (by simp [results, Tryd.results70, go_sem, p2z_0, p2z_1, p2z_2, p2z_3, p2z_4, p2z_5, p2z_l]) rfl ?_
          unfold ExpAt
          rw [HF.out]
          refine ⟨_, rfl, tmRep.keep HACC.out (fun k hk => far6 ?_ rfl) (fun k hk => ?_), far6 (by omega) HRZ.out, mod6 HMZ.out (by omega)⟩
          · rcases hk.1 with h | h
            · have := HLO.out k h; omega
            · have := h.1; omega
          · rcases hk.1 with h | h
            · exact Or.inl h
            · exact Or.inr ⟨by have := h.1; omega, lt6 h.2⟩
        | succ i =>
          have e6 : ((i + 1 : Nat) : Int) - 1 = (i : Int) := by omega
          rw [e6]
          have hil : i < v.rargs.length := by omega
          obtain ⟨x, hx⟩ : ∃ x, v.rargs[i]? = some x := ⟨_, List.getElem?_eq_getElem hil⟩
          have htk : (v.rargs.take (i + 1)).reverse = x :: (v.rargs.take i).reverse := by
            rw [List.take_add_one, hx]; simp
          rw [htk] at hxa hfit
          obtain ⟨a, b, rfl, htx, hfit⟩ := hfit
          rw [Tv.xargs] at hxa
          have hnx : x.step = none := Tv.normal_args v H.out.norm HAB.out x (List.mem_of_getElem? hx)
          have hxok : x.ok c.length := Tv.rargs_ok v _ H.out.ok x (List.mem_of_getElem? hx)
          have hxn := Tv.rargs_nodes v x (List.mem_of_getElem? hx)
          -- the argument's cells
          obtain ⟨gA, capA, eA, hgA1, hgA2⟩ : ∃ gA capA, Value.slice Aq v.rargs.length cq = .slice (some ⟨gA, 0, none⟩) v.rargs.length capA ∧ w.heap.size + 3 ≤ gA ∧ gA < wr.heap.size := by
            obtain ⟨xs, h1, _⟩ := HOWN.out
            rw [List.length_map] at h1
            exact h1.form (by omega)
          simp only [Value.slice.injEq, true_and] at eA
          obtain ⟨rfl, rfl⟩ := eA
          have hgz : wz.heap[gA]? = wr.heap[gA]? := (hkz gA (by omega) (by omega)).trans ((HW5.out.block gA (by omega)).trans (HKA.out gA (by omega)))
          have hownz : tmRep.Own 27 (w.heap.size + 3) wz S (.slice (some ⟨gA, 0, none⟩) v.rargs.length cq) (v.rargs.map Tv.tm) := HOWN.out.keepG (fun k e => by simp only [Value.ownBlock, Option.some.injEq] at e; subst e; exact hgz) (fun k hk => (hSz k hk).trans (HB.out.block k (HLO.out k hk)).symm)
          obtain ⟨xc, hxR, hxc⟩ := hownz.at_ (k := i) (a := x.tm) (by rw [List.getElem?_map, hx]; rfl)
          obtain ⟨s1, A1, n1, c1, B1, m1, d1, rfl, _, _⟩ := Tm.shape hxR
          -- the type's cells
          obtain ⟨bs, os, ctt, x0, x1, y0, y1, e0, e1, hKs, k0, k1, k2, k3, hIa, hIb⟩ := Sy.In_fn hht
          simp only [Value.string.injEq, Value.slice.injEq] at e0 e1
          obtain rfl := e0
          obtain ⟨rfl, rfl, rfl⟩ := e1
          obtain ⟨sx, Ax, nx, cx, rfl, rfl⟩ := hIa.shape
          obtain ⟨sy, Ay, ny, cy, rfl, rfl⟩ := hIb.shape
          have lbs := hKlo bs hKs.1
          have hbsr : bs ≠ rb := by
            rcases hKs.1 with h | h
            · exact fun e => H.out.out (e ▸ h)
            · have := h.1; omega
          have hbs0 : bs ≠ w.heap.size := by
            rcases hKs.1 with h | h
            · have := HLO.out bs h; omega
            · have := h.1; omega
          have hbs5 : bs ≠ w5.heap.size := hKs.2
          have hnw := H.out.fu
          have hrw : -1000000000 ≤ r' - 1 := by
            have : n * 100000 ≤ 2001 * 100000 := Nat.mul_le_mul_right _ (by omega)
            omega
          clear hownz hKs
          have HACC := Lib.hid hacc
          have HMZ := Lib.hid hMz
          have HKZ := Lib.hid hkz
          have HSZ := Lib.hid hSz
          have HKLO := Lib.hid hKlo
          have HXR := Lib.hid hxR
          have HIA := Lib.hid hIa
          have HIB := Lib.hid hIb
          have HXA := Lib.hid hxa
          have HFIT := Lib.hid hfit
          have HTX := Lib.hid htx
          have HNX := Lib.hid hnx
          have HXOK := Lib.hid hxok
          have HX := Lib.hid hx
          have HTK := Lib.hid htk
          have HHT := Lib.hid hht
          have HGZ := Lib.hid hgz
          clear hacc hMz hkz hSz hKlo hxR hIa hIb hxa hfit htx hnx hxok hx htk hht hgz
          have p0_0 := cv0 p0
          have p0_1 := cv1 p0
          have p0_2 := cv2 p0
          have p0_3 := cv3 p0
          have p0_4 := cv4 p0
          have p0_5 := cv5 p0
          have p0_f0 := free_heap p0 0
          have p0_f1 := free_heap p0 1
          have p0_f2 := free_heap p0 2
          have p0_f3 := free_heap p0 3
          have p0_f4 := free_heap p0 4
          have p0_f5 := free_heap p0 5
          have p0_l := lt_heap p0
          have P0 := Lib.hid p0
          clear p0
          have p12_0 := cv0 p12
          have p12_1 := cv1 p12
          have p12_l := lt_heap p12
          have P12 := Lib.hid p12
          clear p12
          have hrz_0 := cv0 hrz
          have hrz_f0 := free_heap hrz 0
          have hrz_l := lt_heap hrz
          have HRZ := Lib.hid hrz
          clear hrz
          go_upto_region 20 with (fail)
          refine gen_last (fun wb => (∀ k, k ≠ rb → wb.heap[k]? = wz.heap[k]?) ∧ wb.heap[rb]? = some (.cells #[.int .i64 (r' - 1)] 3 (0, 0)) ∧ wb.heap.size = wz.heap.size ∧ Mod rb w.heap.size w wb) ?_ ?_
          · exact ⟨fun k hk => heap_far _ hk rfl, heap_set HRZ.out 0 (.int .i64 (r' - 1)), size_set _ _ _, HMZ.out.setRow _⟩
          rintro wb ⟨hkb, hrb, zb, hMb⟩
          have hKb : ∀ k, New S wa.heap.size wz k → wb.heap[k]? = wz.heap[k]? := fun k hk => hkb k (fun e => by
            rcases hk with h | h
            · exact H.out.out (e ▸ h)
            · have := h.1; omega)
          have p0 := (hkb w.heap.size (by omega)).trans P0.out
          have p12 := (hkb w5.heap.size (by omega)).trans P12.out
          have hgb := hkb gA (by omega)
          have hbb := hkb bs hbsr
          have a0 : wb.cell? ⟨gA, i * 6, none⟩ = _ := (cell_keep hgb _).trans (hxc 0 _ rfl)
          have a1 : wb.cell? ⟨gA, i * 6 + 1, none⟩ = _ := (cell_keep hgb _).trans (hxc 1 _ rfl)
          have a2 : wb.cell? ⟨gA, i * 6 + 2, none⟩ = _ := (cell_keep hgb _).trans (hxc 2 _ rfl)
          have a3 : wb.cell? ⟨gA, i * 6 + 3, none⟩ = _ := (cell_keep hgb _).trans (hxc 3 _ rfl)
          have a4 : wb.cell? ⟨gA, i * 6 + 4, none⟩ = _ := (cell_keep hgb _).trans (hxc 4 _ rfl)
          have a5 : wb.cell? ⟨gA, i * 6 + 5, none⟩ = _ := (cell_keep hgb _).trans (hxc 5 _ rfl)
          have b0 := (cell_keep hbb os).trans k0
          have b1 := (cell_keep hbb (os + 1)).trans k1
          have b2 := (cell_keep hbb (os + 2)).trans k2
          have b3 := (cell_keep hbb (os + 2 + 1)).trans k3
          have lgb : gA < wb.heap.size := by omega
          have lbb : bs < wb.heap.size := by omega
          have q0 : (0 : Int) ≤ (i : Int) := by omega
          have q1 : (i : Int) < (v.rargs.length : Int) := by omega
          have hlob : ∀ k, (New S wa.heap.size wz k ∧ k ≠ w5.heap.size) → k < wb.heap.size := fun k hk => by have := HKLO.out k hk.1; omega
          have hpre : ∀ W : World, (∀ k, k < wb.heap.size → W.heap[k]? = wb.heap[k]?) → wb.heap.size ≤ W.heap.size → ExpPre n x a c (r' - 1) rb [.int .i64 x.tm.lab.kind, .string x.tm.lab.nm, .int .i64 x.tm.lab.ix, .string s1, .slice A1 n1 c1, .slice B1 m1 d1] (.string sx) (.slice Ax nx cx) (.slice Ac nc kcp) W (fun k => New S wa.heap.size wz k ∧ k ≠ w5.heap.size) := fun W hW hWs =>
            ⟨by have := H.out.fuel; omega, hrw, by have := H.out.big; omega, HNX.out, HTX.out, HXOK.out, tmRep.keep HXR.out (fun k hk => (hW k (by have := HLO.out k hk; omega)).trans (hKb k (Or.inl hk))) (fun k hk => ⟨Or.inl hk, by have := HLO.out k hk; omega⟩), HIA.out.keep (fun k hk => (hW k (hlob k hk)).trans (hKb k hk.1)), H.out.hc.keep (fun k hk => (hW k (by have := HLO.out k hk; omega)).trans ((hKb k (Or.inl hk)).trans (HSZ.out k hk))) (fun k hk => ⟨Or.inl hk, by have := HLO.out k hk; omega⟩), (hW rb (by omega)).trans hrb, by
              rintro ⟨h | h, _⟩
              · exact H.out.out h
              · have := h.1; omega, fun k hk => by have := hlob k hk; omega, by omega⟩
          have hihA := Lib.hid (HIH.out x a c (r' - 1) rb [.int .i64 x.tm.lab.kind, .string x.tm.lab.nm, .int .i64 x.tm.lab.ix, .string s1, .slice A1 n1 c1, .slice B1 m1 d1] (.string sx) (.slice Ax nx cx) (.slice Ac nc kcp) wb.drew _ (hpre wb (fun _ _ => rfl) (Nat.le_refl _)).drew)
          have hihB := Lib.hid (HIH.out x a c (r' - 1) rb [.int .i64 x.tm.lab.kind, .string x.tm.lab.nm, .int .i64 x.tm.lab.ix, .string s1, .slice A1 n1 c1, .slice B1 m1 d1] (.string sx) (.slice Ax nx cx) (.slice Ac nc kcp) (wb.alloc (.cells #[.int .i64 0, .string ⟨#[]⟩, .int .i64 0, .string ⟨#[]⟩, .slice none 0 0, .slice none 0 0] 27)).drew _ (hpre (wb.alloc (.cells #[.int .i64 0, .string ⟨#[]⟩, .int .i64 0, .string ⟨#[]⟩, .slice none 0 0, .slice none 0 0] 27)) (fun k hk => heap_old hk rfl) (by simp)).drew)
          have hexl := Tv.expand_low n x a c (r' - 1) 100000 (by have := H.out.big; omega)
          clear p0_0 p0_1 p0_2 p0_3 p0_4 p0_5 p0_f0 p0_f1 p0_f2 p0_f3 p0_f4 p0_f5 p0_l p12_0 p12_1 p12_l hrz_0 hrz_f0 hrz_l k0 k1 k2 k3 hrb
          have HZB := Lib.hid zb
          have zb1 : wz.heap.size ≤ wb.heap.size := by omega
          have zb2 : wb.heap.size ≤ wz.heap.size := by omega
          clear zb hpre
          have HKB_ := Lib.hid hKb
          clear hKb
          have HIHA := Lib.hid hihA
          have HIHB := Lib.hid hihB
          have HKB := Lib.hid hkb
          have HMB := Lib.hid hMb
          have HEXL := Lib.hid hexl
          have HLOB := Lib.hid hlob
          have HGB := Lib.hid hgb
          have HBB := Lib.hid hbb
          clear hihA hihB hkb hMb hexl hlob hgb hbb
          have p0_0 := cv0 p0
          have p0_1 := cv1 p0
          have p0_2 := cv2 p0
          have p0_3 := cv3 p0
          have p0_4 := cv4 p0
          have p0_5 := cv5 p0
          have p0_f0 := free_heap p0 0
          have p0_f1 := free_heap p0 1
          have p0_f2 := free_heap p0 2
          have p0_f3 := free_heap p0 3
          have p0_f4 := free_heap p0 4
          have p0_f5 := free_heap p0 5
          have p0_l := lt_heap p0
          have P0 := Lib.hid p0
          clear p0
          have p12_0 := cv0 p12
          have p12_1 := cv1 p12
          have p12_f0 := free_heap p12 0
          have p12_f1 := free_heap p12 1
          have p12_l := lt_heap p12
          have P12 := Lib.hid p12
          clear p12
          go_cut [15] (fun s15 wd => ∃ (b15 : Nat) (s6 : ByteArray) (A6 : Option Addr) (n6 c6 : Nat) (B6 : Option Addr) (m6 d6 : Nat), s15 = .pointer (some ⟨b15, 0, none⟩) ∧ wb.heap.size ≤ b15 ∧ b15 < wd.heap.size ∧ wd.heap[b15]? = some (.cells #[.int .i64 (Tv.expand n x a c (r' - 1)).1.tm.lab.kind, .string (Tv.expand n x a c (r' - 1)).1.tm.lab.nm, .int .i64 (Tv.expand n x a c (r' - 1)).1.tm.lab.ix, .string s6, .slice A6 n6 c6, .slice B6 m6 d6] 27 (0, 0)) ∧
            tmRep.R wd (fun k => (New S wa.heap.size wd k ∧ k ≠ w5.heap.size) ∧ k ≠ b15) (Tv.expand n x a c (r' - 1)).1.tm [.int .i64 (Tv.expand n x a c (r' - 1)).1.tm.lab.kind, .string (Tv.expand n x a c (r' - 1)).1.tm.lab.nm, .int .i64 (Tv.expand n x a c (r' - 1)).1.tm.lab.ix, .string s6, .slice A6 n6 c6, .slice B6 m6 d6] ∧ wd.heap[rb]? = some (.cells #[.int .i64 (Tv.expand n x a c (r' - 1)).2] 3 (0, 0)) ∧ Mod rb wb.heap.size wb wd)
          case first =>
            go_region_held3 (fun w' => w'.cell? ⟨gA, i * 6, none⟩ = some (.int .i64 x.tm.lab.kind) ∧ w'.cell? ⟨gA, i * 6 + 1, none⟩ = some (.string x.tm.lab.nm) ∧ w'.cell? ⟨gA, i * 6 + 2, none⟩ = some (.int .i64 x.tm.lab.ix) ∧ w'.cell? ⟨gA, i * 6 + 3, none⟩ = some (.string s1) ∧ w'.cell? ⟨gA, i * 6 + 4, none⟩ = some (.slice A1 n1 c1) ∧ w'.cell? ⟨gA, i * 6 + 5, none⟩ = some (.slice B1 m1 d1) ∧ w'.cell? ⟨w5.heap.size, 1, none⟩ = some (.slice (some ⟨bs, os, none⟩) 2 ch) ∧ w'.cell? ⟨bs, os, none⟩ = some (.string sx) ∧ w'.cell? ⟨bs, os + 1, none⟩ = some (.slice Ax nx cx))
              ((first
                | (go_split_ands; (repeat' apply And.intro) <;> (with_reducible refine (cell_keep (heap_old (by omega) rfl) _).trans ((kc _ _ (by omega) (by omega)).trans ?_)) <;> assumption)
                | (go_split_ands; (repeat' apply And.intro) <;> (with_reducible refine (cell_keep (far6 (by omega) rfl) _).trans ((kc _ _ (by omega) (by omega)).trans ?_)) <;> assumption)
                | (go_split_ands; (repeat' apply And.intro) <;> (with_reducible refine (kc _ _ (by omega) (by omega)).trans ?_) <;> assumption)
                | (go_keep; done)))
              (first
                | ((with_reducible refine HIHA.out.out.mono ?_); rintro e w6 ⟨ds, rfl, hu6, hroom6, hM6⟩; obtain ⟨s6, A6, n6, c6, B6, m6, d6, rfl, _, _⟩ := Tm.shape hu6; have kc : ∀ k q, k < wb.heap.size → k ≠ rb → w6.cell? ⟨k, q, none⟩ = wb.cell? ⟨k, q, none⟩ := (fun k q h1 h2 => cell_keep (hM6.block k h1 h2) q); have z6 : wb.heap.size ≤ w6.heap.size := hM6.size; have HU6 := Lib.hid hu6; have HROOM6 := Lib.hid hroom6; have HM6 := Lib.hid hM6; clear hu6 hroom6 hM6)
                | ((with_reducible refine HIHB.out.out.mono ?_); rintro e w6 ⟨ds, rfl, hu6, hroom6, hM6⟩; obtain ⟨s6, A6, n6, c6, B6, m6, d6, rfl, _, _⟩ := Tm.shape hu6; have kc : ∀ k q, k < wb.heap.size → k ≠ rb → w6.cell? ⟨k, q, none⟩ = wb.cell? ⟨k, q, none⟩ := (fun k q h1 h2 => (cell_keep (hM6.block k (by simp; omega) h2) q).trans (cell_keep (heap_old h1 rfl) q)); have z6 : wb.heap.size + 1 ≤ w6.heap.size := (by have := hM6.size; simpa using this); have k15 := (hM6.block wb.heap.size (by simp) (by omega)).trans (heap_at rfl); have k15_0 := cv0 k15; have k15_1 := cv1 k15; have k15_2 := cv2 k15; have k15_3 := cv3 k15; have k15_4 := cv4 k15; have k15_5 := cv5 k15; have k15_f0 := free_heap k15 0; have k15_f1 := free_heap k15 1; have k15_f2 := free_heap k15 2; have k15_f3 := free_heap k15 3; have k15_f4 := free_heap k15 4; have k15_f5 := free_heap k15 5; have k15_l := lt_heap k15; have K15 := Lib.hid k15; have HU6 := Lib.hid hu6; have HROOM6 := Lib.hid hroom6; have HM6 := Lib.hid hM6; clear hu6 hroom6 hM6 k15))
            · go_wp2_with fail
              go_meet
              refine ⟨w6.heap.size, s6, A6, n6, c6, B6, m6, d6, rfl, by omega, by simp, heap_at rfl, tmRep.keep HU6.out (fun k hk => ?_) (fun k hk => ?_), heap_old (by omega) HROOM6.out, (Mod.refl.drew.trans (HM6.out.mono (show wb.heap.size ≤ wb.heap.size from Nat.le_refl _))).alloc (show wb.heap.size ≤ w6.heap.size from z6) _⟩
              · rcases hk with hk | hk
                · have := HLOB.out k hk; exact heap_old (by omega) rfl
                · exact heap_old hk.2 rfl
              · rcases hk with hk | hk
                · have := HLOB.out k hk
                  refine ⟨⟨?_, hk.2⟩, by omega⟩
                  rcases hk.1 with h | h
                  · exact Or.inl h
                  · exact Or.inr ⟨h.1, by simp; omega⟩
                · have h1 : wb.heap.size ≤ k := hk.1
                  have h2 := hk.2
                  exact ⟨⟨Or.inr ⟨by omega, by simp; omega⟩, by omega⟩, by omega⟩
            · go_wp2_with fail
              go_meet
              refine ⟨wb.heap.size, s6, A6, n6, c6, B6, m6, d6, rfl, Nat.le_refl _, lt6 k15_l, at6 K15.out, tmRep.keep HU6.out (fun k hk => far6 ?_ rfl) (fun k hk => ?_), far6 (by omega) HROOM6.out, mod6 (((Mod.refl.alloc (Nat.le_refl _) _).drew).trans (HM6.out.mono (by simp))) (Nat.le_refl _)⟩
              · rcases hk with hk | hk
                · have := HLOB.out k hk; omega
                · have h1 : wb.heap.size + 1 ≤ k := by have := hk.1; simpa using this
                  omega
              · rcases hk with hk | hk
                · have := HLOB.out k hk
                  refine ⟨⟨?_, hk.2⟩, by omega⟩
                  rcases hk.1 with h | h
                  · exact Or.inl h
                  · exact Or.inr ⟨h.1, lt6 (by omega)⟩
                · have h1 : wb.heap.size + 1 ≤ k := by have := hk.1; simpa using this
                  have h2 := hk.2
                  exact ⟨⟨Or.inr ⟨by omega, lt6 h2⟩, by omega⟩, by omega⟩
          case rest =>
            obtain ⟨b15, s6, A6, n6, c6, B6, m6, d6, rfl, l15, l15b, p15, hyR, hrd, hMd⟩ := hcut
            rename World => wd
            have zd := hMd.size
            have p0 := (hMd.block w.heap.size (by omega) (by omega)).trans P0.out
            have p12 := (hMd.block w5.heap.size (by omega) (by omega)).trans P12.out
            have hbd : wd.heap[bs]? = wb.heap[bs]? := hMd.block bs (by omega) hbsr
            have b2 := (cell_keep hbd (os + 2)).trans b2
            have b3 := (cell_keep hbd (os + 2 + 1)).trans b3
            have lbd : bs < wd.heap.size := by omega
            have hKd : ∀ k, New S wa.heap.size wz k → wd.heap[k]? = wz.heap[k]? := fun k hk => (hMd.block k (by have := HKLO.out k hk; omega) (fun e => by
              rcases hk with h | h
              · exact H.out.out (e ▸ h)
              · have := h.1; omega)).trans (HKB_.out k hk)
            have hnb : bs ≠ b15 := by omega
            clear a0 a1 a2 a3 a4 a5 b0 b1 p0_0 p0_1 p0_2 p0_3 p0_4 p0_5 p0_f0 p0_f1 p0_f2 p0_f3 p0_f4 p0_f5 p0_l p12_0 p12_1 p12_f0 p12_f1 p12_l hbd
            have HYR := Lib.hid hyR
            have HRD := Lib.hid hrd
            have HMD := Lib.hid hMd
            have HKD := Lib.hid hKd
            clear hyR hrd hMd hKd
            have p0_0 := cv0 p0
            have p0_1 := cv1 p0
            have p0_2 := cv2 p0
            have p0_3 := cv3 p0
            have p0_4 := cv4 p0
            have p0_5 := cv5 p0
            have p0_f0 := free_heap p0 0
            have p0_f1 := free_heap p0 1
            have p0_f2 := free_heap p0 2
            have p0_f3 := free_heap p0 3
            have p0_f4 := free_heap p0 4
            have p0_f5 := free_heap p0 5
            have p0_l := lt_heap p0
            have P0 := Lib.hid p0
            clear p0
            have p12_0 := cv0 p12
            have p12_1 := cv1 p12
            have p12_f0 := free_heap p12 0
            have p12_f1 := free_heap p12 1
            have p12_l := lt_heap p12
            have P12 := Lib.hid p12
            clear p12
            have p15_0 := cv0 p15
            have p15_1 := cv1 p15
            have p15_2 := cv2 p15
            have p15_3 := cv3 p15
            have p15_4 := cv4 p15
            have p15_5 := cv5 p15
            have p15_l := lt_heap p15
            have P15 := Lib.hid p15
            clear p15
            go_upto_region 18 with (fail)
            refine gen_last (fun wq => wq.heap[w.heap.size]? = some (.cells #[.int .i64 4, .string ⟨#[]⟩, .int .i64 0, .string ⟨#[]⟩, .slice none 0 0, .slice (some ⟨wd.heap.size, 0, none⟩) 2 2] 27 (0, 0)) ∧ wq.heap[w5.heap.size]? = some (.cells #[.string sy, .slice Ay ny cy] 24 (0, 0)) ∧
              wq.heap[wd.heap.size]? = some (.cells #[.int .i64 acc.tm.lab.kind, .string acc.tm.lab.nm, .int .i64 acc.tm.lab.ix, .string s3, .slice A3 n3 c3, .slice B3 m3 d3, .int .i64 (Tv.expand n x a c (r' - 1)).1.tm.lab.kind, .string (Tv.expand n x a c (r' - 1)).1.tm.lab.nm, .int .i64 (Tv.expand n x a c (r' - 1)).1.tm.lab.ix, .string s6, .slice A6 n6 c6, .slice B6 m6 d6] 27 (0, 0)) ∧
              (∀ k, k < wd.heap.size → k ≠ w.heap.size → k ≠ w5.heap.size → wq.heap[k]? = wd.heap[k]?) ∧ wd.heap.size + 1 ≤ wq.heap.size ∧ Mod rb w.heap.size w wq) ?_ ?_
            · refine ⟨heap_old (lt6 (lt2 p0_l)) (at6 (far2 (by omega) P0.out)), heap_old (lt6 (lt2 p12_l)) (far6 (by omega) (at2 P12.out)), heap_at (by simp only [size_set]), fun k h1 h2 h3 => heap_old (lt6 (lt2 h1)) (far6 h2 (far2 h3 rfl)), by rw [World.size_alloc]; simp only [size_set]; exact Nat.le_refl _, ?_⟩
              exact (mod6 (mod2 (HMB.out.trans (HMD.out.mono (by omega))) (by omega)) (Nat.le_refl _)).alloc (le6 (le2 (by omega))) _
            rintro wq ⟨q0', q12, q11, hkq, zq, hMq⟩
            clear p0_0 p0_1 p0_2 p0_3 p0_4 p0_5 p0_f0 p0_f1 p0_f2 p0_f3 p0_f4 p0_f5 p0_l p12_0 p12_1 p12_f0 p12_f1 p12_l p15_0 p15_1 p15_2 p15_3 p15_4 p15_5 p15_l b2 b3
            have Q0P := Lib.hid q0'
            have Q12 := Lib.hid q12
            have Q11 := Lib.hid q11
            have HKQ := Lib.hid hkq
            have HMQ := Lib.hid hMq
            clear q0' q12 q11 hkq hMq
            go_wp2_with fail
            go_roundg i
            case measure => omega
            case rel =>
              have hex := Tv.expand_long n x a c (r' - 1) (by have := H.out.fuel; omega) HNX.out HTX.out
              have hlw := HEXL.out
              have hkk : ∀ k, (New S wa.heap.size wz k ∧ k ≠ w5.heap.size) → wq.heap[k]? = wz.heap[k]? := fun k hk => (HKQ.out k (by have := HLOB.out k hk; omega) (by
                rcases hk.1 with h | h
                · have := HLO.out k h; omega
                · have := h.1; omega) hk.2).trans (HKD.out k hk.1)
              have hup : ∀ k, (New S wa.heap.size wz k ∧ k ≠ w5.heap.size) → (New S wa.heap.size wq k ∧ k ≠ w5.heap.size) := fun k hk => ⟨New.up (by omega) k hk.1, hk.2⟩
              refine ⟨rfl, by omega, .app acc (Tv.expand n x a c (r' - 1)).1, b, (Tv.expand n x a c (r' - 1)).2, ⟨#[]⟩, none, 0, 0, some ⟨wd.heap.size, 0, none⟩, 2, 2, sy, Ay, ny, cy, HXA.out, HFIT.out, by have := hex.1; omega, ?_, Q0P.out, ?_, Q12.out, Ty.In_keep hkk hup _ _ _ HIB.out, ?_, HMQ.out, by omega, fun k h1 h2 => ?_⟩
              · by_cases h0 : r' - 1 < 0
                · rw [hlw.1 h0]; omega
                · have := hlw.2 (by omega); omega
              · refine Tm.app_lit (cs := [.int .i64 acc.tm.lab.kind, .string acc.tm.lab.nm, .int .i64 acc.tm.lab.ix, .string s3, .slice A3 n3 c3, .slice B3 m3 d3]) (ds := [.int .i64 (Tv.expand n x a c (r' - 1)).1.tm.lab.kind, .string (Tv.expand n x a c (r' - 1)).1.tm.lab.nm, .int .i64 (Tv.expand n x a c (r' - 1)).1.tm.lab.ix, .string s6, .slice A6 n6 c6, .slice B6 m6 d6]) (tmRep.keep HACC.out hkk hup) (tmRep.keep HYR.out (fun k hk => ?_) (fun k hk => ?_)) Q11.out ⟨Or.inr ⟨by omega, by omega⟩, by omega⟩
                · have h1 : k < wd.heap.size := New.lo (w := wd) (fun k hk => by have := HLO.out k hk; omega) (by omega) k hk.1.1
                  refine HKQ.out k h1 ?_ hk.1.2
                  rcases hk.1.1 with h | h
                  · have := HLO.out k h; omega
                  · have := h.1; omega
                · exact ⟨New.up (by omega) k hk.1.1, hk.1.2⟩
              · exact (HKQ.out rb (by omega) (by omega) (by omega)).trans HRD.out
              · exact (HKQ.out k (by omega) (by omega) (by omega)).trans ((HMD.out.block k (by omega) (by omega)).trans ((HKB.out k (by omega)).trans (HKZ.out k h1 h2)))

theorem expand_any : ∀ n : Nat, ExpIH n := by
  intro n
  induction n with
  | zero =>
    intro v s c r rb cs s0 s1 u w S h
    exact expand_neg_any 0 v s c r rb cs s0 s1 u w S h (by have := h.fuel; omega)
  | succ n ih =>
    intro v s c r rb cs s0 s1 u w S h
    by_cases hr : r < 0
    · exact expand_neg_any (n + 1) v s c r rb cs s0 s1 u w S h hr
    cases hs : s.isFn with
    | true =>
      cases s with
      | fn a b => exact expand_fn_any n ih v a b c r rb cs s0 s1 u w S h (by omega)
      | e => simp [Sy.isFn] at hs
      | t => simp [Sy.isFn] at hs
    | false => exact expand_base_any n ih v s c r rb cs s0 s1 u w S h (by omega) hs


/-- The long normal form. -/
def Tv.long (v : Tv) : Option Tv := match v.typ [], Tv.steps 2001 v with
  | some s, some x => if (Tv.expand 2001 x s [] 2000).2 < 0 then none else some (Tv.expand 2001 x s [] 2000).1
  | _, _ => none
/-- What Expand returns. -/
def ExpandAt (v : Tv) (w : World) (e : Ending) (w' : World) : Prop :=
  ∃ (u : Tv) (ds : List Value), e = .returned (.tuple #[.agg ds.toArray, .bool (Tv.long v).isSome]) ∧ tmRep.R w' (Lo w') u.tm ds ∧ (∀ u', Tv.long v = some u' → u = u') ∧ Below w.heap.size w w'

set_option maxRecDepth 100000 in
set_option maxHeartbeats 4000000 in
theorem expandF_any (v : Tv) (s : Sy) (cs : List Value) (w : World) (S : Nat → Prop) (hn : v.nodes ≤ 90000) (hok : v.ok 0) (hty : v.typ [] = some s) (h : tmRep.R w S v.tm cs) (hS : ∀ b, S b → b < w.heap.size) :
    Calls Tryd.prog 54 #[.agg cs.toArray] w (ExpandAt v w) := by
  obtain ⟨s1, A1, n1, c1, B1, m1, d1, rfl, _, _⟩ := Tm.shape h
  have hold : ∀ (o p : Obj) k, S k → ((w.alloc o).alloc p).heap[k]? = w.heap[k]? := fun o p k hk => heap_old (by have := hS k hk; simp; omega) (heap_old (hS k hk) rfl)
  have htp := fun (o p : Obj) => Lib.hid (typed_any v [] [.int .i64 v.tm.lab.kind, .string v.tm.lab.nm, .int .i64 v.tm.lab.ix, .string s1, .slice A1 n1 c1, .slice B1 m1 d1] (.slice none 0 0) ((w.alloc o).alloc p) S hok (by have := v.depth_le_nodes; simp only [List.length_nil]; omega) (tmRep.keep h (hold o p) (fun _ h => h)) Ctx.nil (fun k hk => by have := hS k hk; simp; omega))
  have H := Lib.hid h
  have HS := Lib.hid hS
  have HTP := Lib.hid htp
  have HOLD := Lib.hid hold
  have HTY := Lib.hid hty
  have HOK := Lib.hid hok
  clear h hS htp hold hty hok
  go_enter Tryd.func54, Tryd.ntmps54
  go_wp2_with fail
  (with_reducible refine (HTP.out _ _).out.mono ?_)
  rintro e w1 ⟨⟨v0, v1, ok, T, rfl, hT, hrr⟩, hw1⟩
  rw [HTY.out] at hrr
  obtain ⟨rfl, rfl⟩ := hrr
  obtain ⟨sg, Ag, ng, cg, rfl, rfl⟩ := hT.shape
  have z1 : w.heap.size + 2 ≤ w1.heap.size := by have := hw1.size; simpa using this
  have p0 := (hw1.block w.heap.size (by simp; omega)).trans (heap_old (by simp) (heap_at rfl))
  have p1 := (hw1.block (w.heap.size + 1) (by simp)).trans (heap_at (by simp))
  have hB1 : Below w.heap.size w w1 := ((((Below.refl _ w).alloc (Nat.le_refl _) _).alloc (by simp) _)).trans (hw1.mono (by simp; omega))
  have hT1 : s.ty.In w1 (fun k => k < w1.heap.size ∧ k ≠ w.heap.size + 1) (.string sg) (.slice Ag ng cg) := hT.mono (fun b hb => by
    rcases hb with hb | hb
    · have := HS.out b hb; exact ⟨by omega, by omega⟩
    · have h1 : w.heap.size + 2 ≤ b := by have := hb.1; simpa using this
      exact ⟨hb.2, by omega⟩)
  have hst := fun (o : Obj) => Lib.hid (stepsEx_any v [.int .i64 v.tm.lab.kind, .string v.tm.lab.nm, .int .i64 v.tm.lab.ix, .string s1, .slice A1 n1 c1, .slice B1 m1 d1] (w1.alloc o) S (by omega) HOK.out (tmRep.keep H.out (fun k hk => (heap_old (by have := HS.out k hk; omega) rfl).trans (hB1.block k (HS.out k hk))) (fun _ h => h)) (fun k hk => by have := HS.out k hk; simp; omega))
  clear hT hw1
  have HB1 := Lib.hid hB1
  have HT1 := Lib.hid hT1
  have HST := Lib.hid hst
  clear hB1 hT1 hst
  have p0_0 := cv0 p0
  have p0_1 := cv1 p0
  have p0_2 := cv2 p0
  have p0_3 := cv3 p0
  have p0_4 := cv4 p0
  have p0_5 := cv5 p0
  have p0_l := lt_heap p0
  have P0 := Lib.hid p0
  clear p0
  have p1_0 := cv0 p1
  have p1_1 := cv1 p1
  have p1_2 := cv2 p1
  have p1_3 := cv3 p1
  have p1_4 := cv4 p1
  have p1_5 := cv5 p1
  have p1_l := lt_heap p1
  have P1 := Lib.hid p1
  clear p1
  go_wp2_with fail
  (with_reducible refine (HST.out _).out.mono ?_)
  rintro e w2 ⟨u, ds, rfl, hu, hsu, hw2⟩
  obtain ⟨s2, A2, n2, c2, B2, m2, d2, rfl, _, _⟩ := Tm.shape hu
  have hu' : tmRep.R w2 (fun k => k < w2.heap.size ∧ k ≠ w.heap.size + 1) u.tm [.int .i64 u.tm.lab.kind, .string u.tm.lab.nm, .int .i64 u.tm.lab.ix, .string s2, .slice A2 n2 c2, .slice B2 m2 d2] := tmRep.keep hu (fun _ _ => rfl) (fun k hk => by
    have z2 := hw2.size
    simp at z2
    rcases hk with hk | hk
    · have := HS.out k hk; exact ⟨by omega, by omega⟩
    · have h1 : w1.heap.size + 1 ≤ k := by have := hk.1; simpa using this
      exact ⟨hk.2, by omega⟩)
  have z2 : w1.heap.size + 1 ≤ w2.heap.size := by have := hw2.size; simpa using this
  have p0 := (hw2.block _ (by simp; omega)).trans (heap_old p0_l P0.out)
  have p1 := (hw2.block _ (by simp; omega)).trans (heap_old p1_l P1.out)
  have p4 := (hw2.block w1.heap.size (by simp)).trans (heap_at rfl)
  have hB2 : Below w.heap.size w w2 := (HB1.out.alloc (by omega) _).trans (hw2.mono (by simp; omega))
  have hT2 : s.ty.In w2 (fun k => k < w1.heap.size ∧ k ≠ w.heap.size + 1) (.string sg) (.slice Ag ng cg) := HT1.out.keep (fun k hk => by have h' : k < w1.heap.size := hk.1; exact (hw2.block k (by simp; omega)).trans (heap_old h' rfl))
  clear p0_0 p0_1 p0_2 p0_3 p0_4 p0_5 p0_l p1_0 p1_1 p1_2 p1_3 p1_4 p1_5 p1_l
  clear hu
  have HB2 := Lib.hid hB2
  have HT2 := Lib.hid hT2
  have HW2 := Lib.hid hw2
  have HUP := Lib.hid hu'
  have HSU := Lib.hid hsu
  clear hB2 hT2 hw2 hu' hsu
  have p0_0 := cv0 p0
  have p0_1 := cv1 p0
  have p0_2 := cv2 p0
  have p0_3 := cv3 p0
  have p0_4 := cv4 p0
  have p0_5 := cv5 p0
  have p0_l := lt_heap p0
  have P0 := Lib.hid p0
  clear p0
  have p1_0 := cv0 p1
  have p1_1 := cv1 p1
  have p1_2 := cv2 p1
  have p1_3 := cv3 p1
  have p1_4 := cv4 p1
  have p1_5 := cv5 p1
  have p1_f0 := free_heap p1 0
  have p1_f1 := free_heap p1 1
  have p1_f2 := free_heap p1 2
  have p1_f3 := free_heap p1 3
  have p1_f4 := free_heap p1 4
  have p1_f5 := free_heap p1 5
  have p1_l := lt_heap p1
  have P1 := Lib.hid p1
  clear p1
  have p4_0 := cv0 p4
  have p4_1 := cv1 p4
  have p4_l := lt_heap p4
  have P4 := Lib.hid p4
  clear p4
  have hv2 : ∀ W : World, Below w2.heap.size w2 W → tmRep.R W (Lo W) v.tm [.int .i64 v.tm.lab.kind, .string v.tm.lab.nm, .int .i64 v.tm.lab.ix, .string s1, .slice A1 n1 c1, .slice B1 m1 d1] := fun W hW => tmRep.keep H.out (fun k hk => (hW.block k (by have := HS.out k hk; omega)).trans (HB2.out.block k (HS.out k hk))) (fun k hk => by have := HS.out k hk; have := hW.size; exact (show k < W.heap.size by omega))
  have HV2 := Lib.hid hv2
  clear hv2
  cases hs : Tv.steps 2001 v with
  | none =>
    have hl : Tv.long v = none := by unfold Tv.long; rw [HTY.out, hs]
    have HSN := Lib.hid hs
    clear hs
    simp only [HSN.out, Option.isSome_none]
    have HL := Lib.hid hl
    clear hl
    go_upto_region 4 with (fail)
    go_cut [3] (fun s3 wx => s3 = .bool false ∧ wx.heap[w.heap.size + 1]? = some (.cells #[.int .i64 v.tm.lab.kind, .string v.tm.lab.nm, .int .i64 v.tm.lab.ix, .string s1, .slice A1 n1 c1, .slice B1 m1 d1] 27 (0, 0)) ∧ tmRep.R wx (Lo wx) v.tm [.int .i64 v.tm.lab.kind, .string v.tm.lab.nm, .int .i64 v.tm.lab.ix, .string s1, .slice A1 n1 c1, .slice B1 m1 d1] ∧ Below w.heap.size w wx)
    case first =>
      go_wp2_with fail
      go_meet
      refine ⟨rfl, heap_old (lt6 p1_l) (at6 P1.out), ?_, (below6 HB2.out (by omega)).alloc (le6 (by omega)) _⟩
      exact tmRep.keep H.out (fun k hk => heap_old (lt6 (by have := HS.out k hk; omega)) (far6 (by have := HS.out k hk; omega) (HB2.out.block k (HS.out k hk)))) (fun k hk => Nat.lt_of_lt_of_le (lt6 (show k < w2.heap.size by have := HS.out k hk; omega)) (by rw [World.size_alloc]; exact Nat.le_succ _))
    case rest =>
      obtain ⟨rfl, kr, hvx, hbx⟩ := hcut
      rename World => wx
      clear p0_0 p0_1 p0_2 p0_3 p0_4 p0_5 p0_l p1_0 p1_1 p1_2 p1_3 p1_4 p1_5 p1_f0 p1_f1 p1_f2 p1_f3 p1_f4 p1_f5 p1_l
      have HVX := Lib.hid hvx
      have HBX := Lib.hid hbx
      clear hvx hbx
      have kr_0 := cv0 kr
      have kr_1 := cv1 kr
      have kr_2 := cv2 kr
      have kr_3 := cv3 kr
      have kr_4 := cv4 kr
      have kr_5 := cv5 kr
      have kr_l := lt_heap kr
      have KR := Lib.hid kr
      clear kr
      go_wp2_with fail
      refine bodyPost_ret (v := .tuple #[.agg #[.int .i64 v.tm.lab.kind, .string v.tm.lab.nm, .int .i64 v.tm.lab.ix, .string s1, .slice A1 n1 c1, .slice B1 m1 d1], .bool false]) (by simp [results, Tryd.results54, go_sem, kr_0, kr_1, kr_2, kr_3, kr_4, kr_5, kr_l]) rfl ?_
      unfold ExpandAt
      rw [HL.out]
      exact ⟨v, _, rfl, HVX.out, fun u' h => by simp at h, HBX.out⟩
  | some x =>
    obtain rfl : u = x := HSU.out x hs
    have hnm := (Tv.steps_pars 2001 v u hs).2
    have htu := Tv.steps_typ 2001 v u [] s hs HTY.out
    have hou := Tv.steps_ok 2001 v u 0 hs HOK.out
    have hlr : Tv.long v = if (Tv.expand 2001 u s [] 2000).2 < 0 then none else some (Tv.expand 2001 u s [] 2000).1 := by unfold Tv.long; rw [HTY.out, hs]
    have HSN := Lib.hid hs
    clear hs
    simp only [HSN.out, Option.isSome_some]
    have hxl := Tv.expand_long 2001 u s [] 2000 (by decide) hnm.1 htu
    have hpre : ExpPre 2001 u s [] 2000 (w2.heap.size + 1) [.int .i64 u.tm.lab.kind, .string u.tm.lab.nm, .int .i64 u.tm.lab.ix, .string s2, .slice A2 n2 c2, .slice B2 m2 d2] (.string sg) (.slice Ag ng cg) (.slice none 0 0) ((w2.alloc (.cells #[.int .i64 u.tm.lab.kind, .string u.tm.lab.nm, .int .i64 u.tm.lab.ix, .string s2, .slice A2 n2 c2, .slice B2 m2 d2] 27)).alloc (.cells #[.int .i64 2000] 3)) (fun k => k < w2.heap.size ∧ k ≠ w.heap.size + 1) :=
      ⟨by decide, by decide, by have := hnm.2; simp only [List.length_nil]; omega, hnm.1, htu, hou, tmRep.keep HUP.out (fun k hk => by have h' : k < w2.heap.size := hk.1; exact heap_old (by simp; omega) (heap_old h' rfl)) (fun _ h => h), Ty.In_keep (fun k hk => by have h' : k < w1.heap.size := hk.1; exact heap_old (by simp; omega) (heap_old (by omega) rfl)) (fun k hk => ⟨by have := hk.1; omega, hk.2⟩) _ _ _ HT2.out, Ctx.nil, heap_at (by simp), fun h => by have h' : w2.heap.size + 1 < w2.heap.size := h.1; omega, fun k hk => by have h' : k < w2.heap.size := hk.1; simp; omega, Nat.le_refl _⟩
    have hex := Lib.hid (expand_any 2001 u s [] 2000 _ _ _ _ _ _ _ hpre)
    clear hnm htu hou hpre
    generalize hY : Tv.expand 2001 u s [] 2000 = Y at hlr hxl
    have HY := Lib.hid hY
    clear hY
    have HEX := Lib.hid hex
    have HLR := Lib.hid hlr
    have HXL := Lib.hid hxl
    clear hex hlr hxl
    go_wp2_with fail
    (with_reducible refine HEX.out.out.mono ?_)
    simp only [ExpAt, HY.out]
    rintro e w3 ⟨ds, rfl, hy, hroom, hM⟩
    obtain ⟨s3, A3, n3, c3, B3, m3, d3, rfl, _, _⟩ := Tm.shape hy
    have z3 : w2.heap.size + 2 ≤ w3.heap.size := by have := hM.size; simpa using this
    have hk3 : ∀ k, k < w2.heap.size → w3.heap[k]? = w2.heap[k]? := fun k hk => (hM.block k (by simp; omega) (by omega)).trans (heap_old (by simp; omega) (heap_old hk rfl))
    have p0 := (hk3 _ p0_l).trans P0.out
    have p1 := (hk3 _ p1_l).trans P1.out
    have hB3 : Below w.heap.size w w3 := ((HB2.out.alloc (by omega) _).alloc (by simp; omega) _).trans (hM.cut (B' := w.heap.size) (by simp; omega) (by omega))
    have hyL : tmRep.R w3 (Lo w3) Y.1.tm [.int .i64 Y.1.tm.lab.kind, .string Y.1.tm.lab.nm, .int .i64 Y.1.tm.lab.ix, .string s3, .slice A3 n3 c3, .slice B3 m3 d3] := tmRep.keep hy (fun _ _ => rfl) (fun k hk => by
      rcases hk with hk | hk
      · have h' : k < w2.heap.size := hk.1; exact (show k < w3.heap.size by omega)
      · exact hk.2)
    have hyN : tmRep.R w3 (fun k => k < w3.heap.size ∧ k ≠ w.heap.size + 1) Y.1.tm [.int .i64 Y.1.tm.lab.kind, .string Y.1.tm.lab.nm, .int .i64 Y.1.tm.lab.ix, .string s3, .slice A3 n3 c3, .slice B3 m3 d3] := tmRep.keep hy (fun _ _ => rfl) (fun k hk => by
      rcases hk with hk | hk
      · have h' : k < w2.heap.size := hk.1; exact ⟨by omega, hk.2⟩
      · have h1 : w2.heap.size + 1 + 1 ≤ k := by have := hk.1; simpa using this
        exact ⟨hk.2, by omega⟩)
    have hv3 : tmRep.R w3 (Lo w3) v.tm [.int .i64 v.tm.lab.kind, .string v.tm.lab.nm, .int .i64 v.tm.lab.ix, .string s1, .slice A1 n1 c1, .slice B1 m1 d1] := tmRep.keep H.out (fun k hk => hB3.block k (HS.out k hk)) (fun k hk => by have := HS.out k hk; exact (show k < w3.heap.size by omega))
    have hroom8 := hroom
    clear hM hk3 p0_0 p0_1 p0_2 p0_3 p0_4 p0_5 p0_l p1_0 p1_1 p1_2 p1_3 p1_4 p1_5 p1_f0 p1_f1 p1_f2 p1_f3 p1_f4 p1_f5 p1_l p4_0 p4_1 p4_l hroom hy
    have HB3 := Lib.hid hB3
    have HYL := Lib.hid hyL
    have HYN := Lib.hid hyN
    have HV3 := Lib.hid hv3
    clear hB3 hyL hyN hv3
    have hroom8_0 := cv0 hroom8
    have hroom8_l := lt_heap hroom8
    have HROOM8 := Lib.hid hroom8
    clear hroom8
    have p0_0 := cv0 p0
    have p0_1 := cv1 p0
    have p0_2 := cv2 p0
    have p0_3 := cv3 p0
    have p0_4 := cv4 p0
    have p0_5 := cv5 p0
    have p0_l := lt_heap p0
    have P0 := Lib.hid p0
    clear p0
    have p1_0 := cv0 p1
    have p1_1 := cv1 p1
    have p1_2 := cv2 p1
    have p1_3 := cv3 p1
    have p1_4 := cv4 p1
    have p1_5 := cv5 p1
    have p1_f0 := free_heap p1 0
    have p1_f1 := free_heap p1 1
    have p1_f2 := free_heap p1 2
    have p1_f3 := free_heap p1 3
    have p1_f4 := free_heap p1 4
    have p1_f5 := free_heap p1 5
    have p1_l := lt_heap p1
    have P1 := Lib.hid p1
    clear p1
    by_cases hneg : Y.2 < 0
    · have hl : Tv.long v = none := by rw [HLR.out, if_pos hneg]
      have HL := Lib.hid hl
      clear hl
      go_upto_region 8 with (fail)
      go_cut [3] (fun s3 wx => s3 = .bool false ∧ wx.heap[w.heap.size + 1]? = some (.cells #[.int .i64 v.tm.lab.kind, .string v.tm.lab.nm, .int .i64 v.tm.lab.ix, .string s1, .slice A1 n1 c1, .slice B1 m1 d1] 27 (0, 0)) ∧ tmRep.R wx (Lo wx) v.tm [.int .i64 v.tm.lab.kind, .string v.tm.lab.nm, .int .i64 v.tm.lab.ix, .string s1, .slice A1 n1 c1, .slice B1 m1 d1] ∧ Below w.heap.size w wx)
      case first =>
        go_wp2_with fail
        go_meet
        refine ⟨rfl, heap_old (lt6 p1_l) (at6 P1.out), ?_, (below6 HB3.out (by omega)).alloc (le6 (by omega)) _⟩
        exact tmRep.keep H.out (fun k hk => heap_old (lt6 (by have := HS.out k hk; omega)) (far6 (by have := HS.out k hk; omega) (HB3.out.block k (HS.out k hk)))) (fun k hk => Nat.lt_of_lt_of_le (lt6 (show k < w3.heap.size by have := HS.out k hk; omega)) (by rw [World.size_alloc]; exact Nat.le_succ _))
      case rest =>
        obtain ⟨rfl, kr, hvx, hbx⟩ := hcut
        rename World => wx
        clear p0_0 p0_1 p0_2 p0_3 p0_4 p0_5 p0_l p1_0 p1_1 p1_2 p1_3 p1_4 p1_5 p1_f0 p1_f1 p1_f2 p1_f3 p1_f4 p1_f5 p1_l hroom8_0 hroom8_l
        have HVX := Lib.hid hvx
        have HBX := Lib.hid hbx
        clear hvx hbx
        have kr_0 := cv0 kr
        have kr_1 := cv1 kr
        have kr_2 := cv2 kr
        have kr_3 := cv3 kr
        have kr_4 := cv4 kr
        have kr_5 := cv5 kr
        have kr_l := lt_heap kr
        have KR := Lib.hid kr
        clear kr
        go_wp2_with fail
        refine bodyPost_ret (v := .tuple #[.agg #[.int .i64 v.tm.lab.kind, .string v.tm.lab.nm, .int .i64 v.tm.lab.ix, .string s1, .slice A1 n1 c1, .slice B1 m1 d1], .bool false]) (by simp [results, Tryd.results54, go_sem, kr_0, kr_1, kr_2, kr_3, kr_4, kr_5, kr_l]) rfl ?_
        unfold ExpandAt
        rw [HL.out]
        exact ⟨v, _, rfl, HVX.out, fun u' h => by simp at h, HBX.out⟩
    · have hl : Tv.long v = some Y.1 := by rw [HLR.out, if_neg hneg]
      have hyn : ¬ 2000 < Y.1.nodes := by have := (HXL.out.2 (by omega)).1; omega
      have hbig := fun (o : Obj) => Lib.hid (big_any Y.1.tm [.int .i64 Y.1.tm.lab.kind, .string Y.1.tm.lab.nm, .int .i64 Y.1.tm.lab.ix, .string s3, .slice A3 n3 c3, .slice B3 m3 d3] (w3.alloc o) (Lo w3) (tmRep.keep HYL.out (fun k hk => heap_old hk rfl) (fun _ h => h)) (fun k hk => by have h' : k < w3.heap.size := hk; simp; omega) (by rw [Tv.tm_nodes]; omega))
      have HTM : Hid (Y.1.tm.nodes = Y.1.nodes) := Lib.hid Y.1.tm_nodes
      have HL := Lib.hid hl
      have HBIG := Lib.hid hbig
      clear hl hbig
      go_wp2_with fail
      (with_reducible refine (HBIG.out _).out.mono ?_)
      rw [HTM.out, decide_eq_false hyn]
      rintro e w4 ⟨rfl, hw4⟩
      have z4 : w3.heap.size + 1 ≤ w4.heap.size := by have := hw4.size; simpa using this
      have p1 := (hw4.block _ (by simp; omega)).trans (heap_old p1_l P1.out)
      have p9 := (hw4.block w3.heap.size (by simp)).trans (heap_at rfl)
      have hB4 : Below w.heap.size w w4 := (HB3.out.alloc (by omega) _).trans (hw4.mono (by simp; omega))
      have hy4 : tmRep.R w4 (fun k => k < w3.heap.size ∧ k ≠ w.heap.size + 1) Y.1.tm [.int .i64 Y.1.tm.lab.kind, .string Y.1.tm.lab.nm, .int .i64 Y.1.tm.lab.ix, .string s3, .slice A3 n3 c3, .slice B3 m3 d3] := tmRep.keep HYN.out (fun k hk => by have h' : k < w3.heap.size := hk.1; exact (hw4.block k (by simp; omega)).trans (heap_old h' rfl)) (fun _ h => h)
      clear p0_0 p0_1 p0_2 p0_3 p0_4 p0_5 p0_l p1_0 p1_1 p1_2 p1_3 p1_4 p1_5 p1_f0 p1_f1 p1_f2 p1_f3 p1_f4 p1_f5 p1_l hroom8_0 hroom8_l
      have HW4 := Lib.hid hw4
      have HB4 := Lib.hid hB4
      have HY4 := Lib.hid hy4
      clear hw4 hB4 hy4
      have p1_0 := cv0 p1
      have p1_1 := cv1 p1
      have p1_2 := cv2 p1
      have p1_3 := cv3 p1
      have p1_4 := cv4 p1
      have p1_5 := cv5 p1
      have p1_f0 := free_heap p1 0
      have p1_f1 := free_heap p1 1
      have p1_f2 := free_heap p1 2
      have p1_f3 := free_heap p1 3
      have p1_f4 := free_heap p1 4
      have p1_f5 := free_heap p1 5
      have p1_l := lt_heap p1
      have P1 := Lib.hid p1
      clear p1
      have p9_0 := cv0 p9
      have p9_1 := cv1 p9
      have p9_2 := cv2 p9
      have p9_3 := cv3 p9
      have p9_4 := cv4 p9
      have p9_5 := cv5 p9
      have p9_l := lt_heap p9
      have P9 := Lib.hid p9
      clear p9
      go_upto_region 9 with (fail)
      go_cut [3] (fun q3 wx => q3 = .bool true ∧ wx.heap[w.heap.size + 1]? = some (.cells #[.int .i64 Y.1.tm.lab.kind, .string Y.1.tm.lab.nm, .int .i64 Y.1.tm.lab.ix, .string s3, .slice A3 n3 c3, .slice B3 m3 d3] 27 (0, 0)) ∧ tmRep.R wx (Lo wx) Y.1.tm [.int .i64 Y.1.tm.lab.kind, .string Y.1.tm.lab.nm, .int .i64 Y.1.tm.lab.ix, .string s3, .slice A3 n3 c3, .slice B3 m3 d3] ∧ Below w.heap.size w wx)
      case first =>
        go_wp2_with fail
        go_meet
        refine ⟨rfl, at6 P1.out, ?_, below6 HB4.out (by omega)⟩
        exact tmRep.keep HY4.out (fun k hk => far6 hk.2 rfl) (fun k hk => lt6 (show k < w4.heap.size by have := hk.1; omega))
      case rest =>
        obtain ⟨rfl, kr, hvx, hbx⟩ := hcut
        rename World => wx
        clear p1_0 p1_1 p1_2 p1_3 p1_4 p1_5 p1_f0 p1_f1 p1_f2 p1_f3 p1_f4 p1_f5 p1_l p9_0 p9_1 p9_2 p9_3 p9_4 p9_5 p9_l
        have HVX := Lib.hid hvx
        have HBX := Lib.hid hbx
        clear hvx hbx
        have kr_0 := cv0 kr
        have kr_1 := cv1 kr
        have kr_2 := cv2 kr
        have kr_3 := cv3 kr
        have kr_4 := cv4 kr
        have kr_5 := cv5 kr
        have kr_l := lt_heap kr
        have KR := Lib.hid kr
        clear kr
        go_wp2_with fail
        refine bodyPost_ret (v := .tuple #[.agg #[.int .i64 Y.1.tm.lab.kind, .string Y.1.tm.lab.nm, .int .i64 Y.1.tm.lab.ix, .string s3, .slice A3 n3 c3, .slice B3 m3 d3], .bool true]) (by simp [results, Tryd.results54, go_sem, kr_0, kr_1, kr_2, kr_3, kr_4, kr_5, kr_l]) rfl ?_
        unfold ExpandAt
        rw [HL.out]
        exact ⟨Y.1, _, rfl, HVX.out, fun u' h => by simpa using h, HBX.out⟩


/-- What a function returns that brings a valid term into a form: the term's fault, a limit, or the new term. -/
def FormAt (r : Tv → Option Tv) (t : Tm) (w : World) (e : Ending) (w' : World) : Prop :=
  ((tmFault t).1 ≠ 0 → e = .returned (.tuple #[.agg zTm, .agg #[.int .i64 ((tmFault t).1 : Nat), .int .i64 (tmFault t).2]])) ∧
  (∀ v : Tv, t = v.tm → (tmFault t).1 = 0 → (r v = none ∧ e = .returned (.tuple #[.agg zTm, .agg #[.int .i64 17, .int .i64 (-1)]])) ∨
    (∃ (u : Tv) (ds : List Value), r v = some u ∧ e = .returned (.tuple #[.agg ds.toArray, .agg #[.int .i64 0, .int .i64 0]]) ∧ tmRep.R w' (Fresh w w') u.tm ds)) ∧ Below w.heap.size w w'

set_option maxRecDepth 100000 in
set_option maxHeartbeats 4000000 in
theorem normal_any (t : Tm) (cs : List Value) (w : World) (S : Nat → Prop) (ht : tmRep.R w S t cs) (hS : ∀ b, S b → b < w.heap.size) :
    Calls Tryd.prog 18 #[.agg cs.toArray] w (FormAt (Tv.steps 2001) t w) := by
  obtain ⟨s1, A1, n1, c1, B1, m1, d1, rfl, _, _⟩ := Tm.shape ht
  have HT := Lib.hid ht
  have HS := Lib.hid hS
  clear ht hS
  have hold : ∀ (o p q : Obj) k, S k → (((w.alloc o).alloc p).alloc q).heap[k]? = w.heap[k]? := fun o p q k hk => by
    have := HS.out k hk
    exact heap_old (by simp; omega) (heap_old (by simp; omega) (heap_old this rfl))
  have hv := fun (o p q : Obj) => Lib.hid (validateTm_any t [.int .i64 t.lab.kind, .string t.lab.nm, .int .i64 t.lab.ix, .string s1, .slice A1 n1 c1, .slice B1 m1 d1] (((w.alloc o).alloc p).alloc q) S (tmRep.keep HT.out (hold o p q) (fun _ h => h)) (fun k hk => by have := HS.out k hk; simp; omega))
  have HV := Lib.hid hv
  have HOLD := Lib.hid hold
  clear hv hold
  go_enter Tryd.func18, Tryd.ntmps18
  go_wp2_with fail
  (with_reducible refine (HV.out _ _ _).out.mono ?_)
  rintro e w1 ⟨rfl, hw1⟩
  have z1 : w.heap.size + 3 ≤ w1.heap.size := by have := hw1.size; simpa using this
  have p0 := (hw1.block w.heap.size (by simp; omega)).trans (heap_old (by simp <;> omega) (heap_old (by simp) (heap_at rfl)))
  have p1 := (hw1.block (w.heap.size + 1) (by simp <;> omega)).trans (heap_old (by simp) (heap_at (by simp)))
  have p2 := (hw1.block (w.heap.size + 1 + 1) (by simp)).trans (heap_at (by simp))
  have hB : Below w.heap.size w w1 := ((((Below.refl _ w).alloc (Nat.le_refl _) _).alloc (by simp) _).alloc (by simp <;> omega) _).trans (hw1.mono (by simp; omega))
  have HB := Lib.hid hB
  have HW1 := Lib.hid hw1
  clear hB hw1
  have p0_0 := cv0 p0
  have p0_1 := cv1 p0
  have p0_2 := cv2 p0
  have p0_3 := cv3 p0
  have p0_4 := cv4 p0
  have p0_5 := cv5 p0
  have p0_l := lt_heap p0
  have P0 := Lib.hid p0
  clear p0
  have p1_0 := cv0 p1
  have p1_1 := cv1 p1
  have p1_2 := cv2 p1
  have p1_3 := cv3 p1
  have p1_4 := cv4 p1
  have p1_5 := cv5 p1
  have p1_f0 := free_heap p1 0
  have p1_f1 := free_heap p1 1
  have p1_f2 := free_heap p1 2
  have p1_f3 := free_heap p1 3
  have p1_f4 := free_heap p1 4
  have p1_f5 := free_heap p1 5
  have p1_l := lt_heap p1
  have P1 := Lib.hid p1
  clear p1
  have p2_0 := cv0 p2
  have p2_1 := cv1 p2
  have p2_f0 := free_heap p2 0
  have p2_f1 := free_heap p2 1
  have p2_l := lt_heap p2
  have P2 := Lib.hid p2
  clear p2
  by_cases hz : (tmFault t).1 = 0
  case neg =>
    have t1 : (((tmFault t).1 : Int) != 0) = true := bne_iff_ne.2 (by omega)
    have HZ := Lib.hid hz
    clear hz
    go_wp2_with fail
    go_region
    all_goals
      refine gen_last (fun wx => Below w.heap.size w wx ∧ wx.heap[w.heap.size + 1]? = some (.cells zTm 27 (0, 0)) ∧ wx.heap[w.heap.size + 1 + 1]? = some (.cells #[.int .i64 (tmFault t).1, .int .i64 (tmFault t).2] 29 (0, 0))) ?_ ?_
      · refine ⟨?_, ?_, ?_⟩
        · exact (((below2 (below6 HB.out (by omega)) (by omega)).alloc (le2 (le6 (by omega))) _).drew)
        · exact heap_drew (heap_old (lt2 (lt6 (by omega))) (far2 (by omega) (at6 P1.out)))
        · exact heap_drew (heap_old (lt2 (lt6 (by omega))) (at2 (far6 (by omega) P2.out)))
      rintro wx ⟨hb, k2, k3⟩
      have hfin : FormAt (Tv.steps 2001) t w (.returned (.tuple #[.agg zTm, .agg #[.int .i64 (tmFault t).1, .int .i64 (tmFault t).2]])) wx := ⟨fun _ => rfl, fun _ _ h => absurd h HZ.out, hb⟩
      clear p0_0 p0_1 p0_2 p0_3 p0_4 p0_5 p1_0 p1_1 p1_2 p1_3 p1_4 p1_5 p1_f0 p1_f1 p1_f2 p1_f3 p1_f4 p1_f5 p2_0 p2_1 p2_f0 p2_f1 t1
      unfold zTm at k2
      have HFIN := Lib.hid hfin
      have HB := Lib.hid hb
      clear hfin hb
      have k2_0 := cv0 k2
      have k2_1 := cv1 k2
      have k2_2 := cv2 k2
      have k2_3 := cv3 k2
      have k2_4 := cv4 k2
      have k2_5 := cv5 k2
      have k2_l := lt_heap k2
      have K2 := Lib.hid k2
      clear k2
      have k3_0 := cv0 k3
      have k3_1 := cv1 k3
      have k3_l := lt_heap k3
      have K3 := Lib.hid k3
      clear k3
      go_wp2_with fail
      refine bodyPost_ret (v := .tuple #[.agg #[.int .i64 0, .string ⟨#[]⟩, .int .i64 0, .string ⟨#[]⟩, .slice none 0 0, .slice none 0 0], .agg #[.int .i64 (tmFault t).1, .int .i64 (tmFault t).2]]) (by simp [results, Tryd.results18, go_sem, k2_0, k2_1, k2_2, k2_3, k2_4, k2_5, k3_0, k3_1, k2_l, k3_l]) rfl ?_
      exact HFIN.out
  obtain ⟨v, s, rfl, ov, nv, dv, tv, ev⟩ := tmFault_zero hz
  have t1 : (((tmFault v.tm).1 : Int) != 0) = false := by rw [hz]; rfl
  have hsteps := fun (o : Obj) => Lib.hid (steps_any v [.int .i64 v.tm.lab.kind, .string v.tm.lab.nm, .int .i64 v.tm.lab.ix, .string s1, .slice A1 n1 c1, .slice B1 m1 d1] (w1.alloc o) S (by omega) ov (tmRep.keep HT.out (fun k hk => by have := HS.out k hk; exact (heap_old (by omega) rfl).trans (HB.out.block k this)) (fun _ h => h)) (fun k hk => by have := HS.out k hk; simp; omega))
  have HZ := Lib.hid hz
  clear hz ov nv dv tv ev
  have HSTEPS := Lib.hid hsteps
  clear hsteps
  go_wp2_with fail
  (with_reducible refine (HSTEPS.out _).out.mono ?_)
  rintro e w2 ⟨u, ds, rfl, hu, hsu, hw2⟩
  obtain ⟨s2, A2, n2, c2, B2, m2, d2, rfl, _, _⟩ := Tm.shape hu
  have z2 : w1.heap.size + 1 ≤ w2.heap.size := by have := hw2.size; simpa using this
  have p1 := (hw2.block (w.heap.size + 1) (by simp; omega)).trans (heap_old p1_l P1.out)
  have p2 := (hw2.block (w.heap.size + 1 + 1) (by simp; omega)).trans (heap_old p2_l P2.out)
  have hB2 := (HB.out.alloc (by omega) (.cells #[.int .i64 (tmFault v.tm).1, .int .i64 (tmFault v.tm).2] 29)).trans (hw2.mono (by simp; omega))
  clear p0_0 p0_1 p0_2 p0_3 p0_4 p0_5 p0_l p1_0 p1_1 p1_2 p1_3 p1_4 p1_5 p1_f0 p1_f1 p1_f2 p1_f3 p1_f4 p1_f5 p1_l p2_0 p2_1 p2_f0 p2_f1 p2_l t1
  have HB2 := Lib.hid hB2
  have HW2 := Lib.hid hw2
  have HU := Lib.hid hu
  have HSU := Lib.hid hsu
  clear hB2 hw2 hu hsu
  have p1_0 := cv0 p1
  have p1_1 := cv1 p1
  have p1_2 := cv2 p1
  have p1_3 := cv3 p1
  have p1_4 := cv4 p1
  have p1_5 := cv5 p1
  have p1_f0 := free_heap p1 0
  have p1_f1 := free_heap p1 1
  have p1_f2 := free_heap p1 2
  have p1_f3 := free_heap p1 3
  have p1_f4 := free_heap p1 4
  have p1_f5 := free_heap p1 5
  have p1_l := lt_heap p1
  have P1 := Lib.hid p1
  clear p1
  have p2_0 := cv0 p2
  have p2_1 := cv1 p2
  have p2_f0 := free_heap p2 0
  have p2_f1 := free_heap p2 1
  have p2_l := lt_heap p2
  have P2 := Lib.hid p2
  clear p2
  cases hs : Tv.steps 2001 v with
  | none =>
    have HSN := Lib.hid hs
    clear hs
    simp only [HSN.out, Option.isSome_none]
    go_upto_region 6 with (fail)
    go_cut [] (fun wx => Below w.heap.size w wx ∧ wx.heap[w.heap.size + 1]? = some (.cells zTm 27 (0, 0)) ∧ wx.heap[w.heap.size + 1 + 1]? = some (.cells #[.int .i64 17, .int .i64 (-1)] 29 (0, 0)))
    case first =>
      go_wp2_with fail
      go_meet
      refine ⟨?_, ?_, ?_⟩
      · exact (below2 (below6 HB2.out (by omega)) (by omega)).alloc (le2 (le6 (by omega))) _
      · exact heap_old (lt2 (lt6 (by omega))) (far2 (by omega) (at6 P1.out))
      · exact heap_old (lt2 (lt6 (by omega))) (at2 (far6 (by omega) P2.out))
    case rest =>
      obtain ⟨hb, k2, k3⟩ := hcut
      rename World => wx
      have hfin : FormAt (Tv.steps 2001) v.tm w (.returned (.tuple #[.agg zTm, .agg #[.int .i64 17, .int .i64 (-1)]])) wx := by
        refine ⟨fun h => absurd HZ.out h, fun v' e1 _ => ?_, hb⟩
        obtain rfl := Tv.tm_inj _ _ e1
        exact Or.inl ⟨HSN.out, rfl⟩
      clear p1_0 p1_1 p1_2 p1_3 p1_4 p1_5 p1_f0 p1_f1 p1_f2 p1_f3 p1_f4 p1_f5 p2_0 p2_1 p2_f0 p2_f1
      unfold zTm at k2
      have HFIN := Lib.hid hfin
      have HB := Lib.hid hb
      clear hfin hb
      have k2_0 := cv0 k2
      have k2_1 := cv1 k2
      have k2_2 := cv2 k2
      have k2_3 := cv3 k2
      have k2_4 := cv4 k2
      have k2_5 := cv5 k2
      have k2_l := lt_heap k2
      have K2 := Lib.hid k2
      clear k2
      have k3_0 := cv0 k3
      have k3_1 := cv1 k3
      have k3_l := lt_heap k3
      have K3 := Lib.hid k3
      clear k3
      go_wp2_with fail
      refine bodyPost_ret (v := .tuple #[.agg #[.int .i64 0, .string ⟨#[]⟩, .int .i64 0, .string ⟨#[]⟩, .slice none 0 0, .slice none 0 0], .agg #[.int .i64 17, .int .i64 (-1)]]) (by simp [results, Tryd.results18, go_sem, k2_0, k2_1, k2_2, k2_3, k2_4, k2_5, k3_0, k3_1, k2_l, k3_l]) rfl ?_
      exact HFIN.out
  | some u' =>
    obtain rfl : u = u' := HSU.out u' hs
    have HSN := Lib.hid hs
    clear hs
    have hcl := fun (o : Obj) => Lib.hid (cloneTm_any _ u [.int .i64 u.tm.lab.kind, .string u.tm.lab.nm, .int .i64 u.tm.lab.ix, .string s2, .slice A2 n2 c2, .slice B2 m2 d2] (w2.alloc o) (Lo w2) (Nat.le_refl _) (tmRep.keep HU.out (fun k hk => heap_old hk rfl) (fun _ h => h)) (fun k hk => by have h' : k < w2.heap.size := hk; simp; omega))
    have HCL := Lib.hid hcl
    clear hcl
    simp only [HSN.out, Option.isSome_some]
    go_upto_region 7 with (fail)
    go_cut [] (fun wx => ∃ es : List Value, tmRep.R wx (Fresh w wx) u.tm es ∧ wx.heap[w.heap.size + 1]? = some (.cells es.toArray 27 (0, 0)) ∧ wx.heap[w.heap.size + 1 + 1]? = some (.cells #[.int .i64 0, .int .i64 0] 29 (0, 0)) ∧ Below w.heap.size w wx)
    case first =>
      go_wp2_with fail
      (with_reducible refine (HCL.out _).out.mono ?_)
      rintro e w5 ⟨es, rfl, hu5, hw5⟩
      obtain ⟨s5, A5, n5, c5, B5, m5, d5, rfl, _, _⟩ := Tm.shape hu5
      have z5 : w2.heap.size + 1 ≤ w5.heap.size := by have := hw5.size; simpa using this
      have p1 := (hw5.block (w.heap.size + 1) (by simp; omega)).trans (heap_old p1_l P1.out)
      have p2 := (hw5.block (w.heap.size + 1 + 1) (by simp; omega)).trans (heap_old p2_l P2.out)
      clear p1_0 p1_1 p1_2 p1_3 p1_4 p1_5 p1_f0 p1_f1 p1_f2 p1_f3 p1_f4 p1_f5 p2_0 p2_1 p2_f0 p2_f1 p1_l p2_l
      have hB5 : Below w.heap.size w w5 := (HB2.out.alloc (by omega) _).trans (hw5.mono (by simp; omega))
      have HU5 := Lib.hid hu5
      have HW5 := Lib.hid hw5
      have HB5 := Lib.hid hB5
      clear hu5 hw5 hB5
      have p1_0 := cv0 p1
      have p1_1 := cv1 p1
      have p1_2 := cv2 p1
      have p1_3 := cv3 p1
      have p1_4 := cv4 p1
      have p1_5 := cv5 p1
      have p1_f0 := free_heap p1 0
      have p1_f1 := free_heap p1 1
      have p1_f2 := free_heap p1 2
      have p1_f3 := free_heap p1 3
      have p1_f4 := free_heap p1 4
      have p1_f5 := free_heap p1 5
      have p1_l := lt_heap p1
      have P1 := Lib.hid p1
      clear p1
      have p2_0 := cv0 p2
      have p2_1 := cv1 p2
      have p2_f0 := free_heap p2 0
      have p2_f1 := free_heap p2 1
      have p2_l := lt_heap p2
      have P2 := Lib.hid p2
      clear p2
      go_wp2_with fail
      go_meet
      refine ⟨[.int .i64 u.tm.lab.kind, .string u.tm.lab.nm, .int .i64 u.tm.lab.ix, .string s5, .slice A5 n5 c5, .slice B5 m5 d5], ?_, far2 (by omega) (at6 P1.out), at2 (far6 (by omega) P2.out), below2 (below6 HB5.out (by omega)) (by omega)⟩
      exact tmRep.keep HU5.out (fun k hk => far2 (by have := hk.1; simp at this; omega) (far6 (by have := hk.1; simp at this; omega) rfl)) (fun k hk => ⟨by have := hk.1; simp at this; omega, lt2 (lt6 hk.2)⟩)
    case rest =>
      obtain ⟨es, hu5, k2, k3, hb⟩ := hcut
      rename World => wx
      obtain ⟨s5, A5, n5, c5, B5, m5, d5, rfl, _, _⟩ := Tm.shape hu5
      have hfin : FormAt (Tv.steps 2001) v.tm w (.returned (.tuple #[.agg ([.int .i64 u.tm.lab.kind, .string u.tm.lab.nm, .int .i64 u.tm.lab.ix, .string s5, .slice A5 n5 c5, .slice B5 m5 d5]).toArray, .agg #[.int .i64 0, .int .i64 0]])) wx := by
        refine ⟨fun h => absurd HZ.out h, fun v' e1 _ => ?_, hb⟩
        obtain rfl := Tv.tm_inj _ _ e1
        exact Or.inr ⟨u, _, HSN.out, rfl, hu5⟩
      clear p1_0 p1_1 p1_2 p1_3 p1_4 p1_5 p1_f0 p1_f1 p1_f2 p1_f3 p1_f4 p1_f5 p2_0 p2_1 p2_f0 p2_f1
      have HFIN := Lib.hid hfin
      have HB := Lib.hid hb
      have HU5 := Lib.hid hu5
      clear hfin hb hu5
      have k2_0 := cv0 k2
      have k2_1 := cv1 k2
      have k2_2 := cv2 k2
      have k2_3 := cv3 k2
      have k2_4 := cv4 k2
      have k2_5 := cv5 k2
      have k2_l := lt_heap k2
      have K2 := Lib.hid k2
      clear k2
      have k3_0 := cv0 k3
      have k3_1 := cv1 k3
      have k3_l := lt_heap k3
      have K3 := Lib.hid k3
      clear k3
      go_wp2_with fail
      refine bodyPost_ret (v := .tuple #[.agg #[.int .i64 u.tm.lab.kind, .string u.tm.lab.nm, .int .i64 u.tm.lab.ix, .string s5, .slice A5 n5 c5, .slice B5 m5 d5], .agg #[.int .i64 0, .int .i64 0]]) (by simp [results, Tryd.results18, go_sem, k2_0, k2_1, k2_2, k2_3, k2_4, k2_5, k3_0, k3_1, k2_l, k3_l]) rfl ?_
      exact HFIN.out


set_option maxRecDepth 100000 in
set_option maxHeartbeats 4000000 in
theorem long_any (t : Tm) (cs : List Value) (w : World) (S : Nat → Prop) (ht : tmRep.R w S t cs) (hS : ∀ b, S b → b < w.heap.size) :
    Calls Tryd.prog 24 #[.agg cs.toArray] w (FormAt Tv.long t w) := by
  obtain ⟨s1, A1, n1, c1, B1, m1, d1, rfl, _, _⟩ := Tm.shape ht
  have HT := Lib.hid ht
  have HS := Lib.hid hS
  clear ht hS
  have hold : ∀ (o p q : Obj) k, S k → (((w.alloc o).alloc p).alloc q).heap[k]? = w.heap[k]? := fun o p q k hk => by
    have := HS.out k hk
    exact heap_old (by simp; omega) (heap_old (by simp; omega) (heap_old this rfl))
  have hv := fun (o p q : Obj) => Lib.hid (validateTm_any t [.int .i64 t.lab.kind, .string t.lab.nm, .int .i64 t.lab.ix, .string s1, .slice A1 n1 c1, .slice B1 m1 d1] (((w.alloc o).alloc p).alloc q) S (tmRep.keep HT.out (hold o p q) (fun _ h => h)) (fun k hk => by have := HS.out k hk; simp; omega))
  have HV := Lib.hid hv
  have HOLD := Lib.hid hold
  clear hv hold
  go_enter Tryd.func24, Tryd.ntmps24
  go_wp2_with fail
  (with_reducible refine (HV.out _ _ _).out.mono ?_)
  rintro e w1 ⟨rfl, hw1⟩
  have z1 : w.heap.size + 3 ≤ w1.heap.size := by have := hw1.size; simpa using this
  have p0 := (hw1.block w.heap.size (by simp; omega)).trans (heap_old (by simp <;> omega) (heap_old (by simp) (heap_at rfl)))
  have p1 := (hw1.block (w.heap.size + 1) (by simp <;> omega)).trans (heap_old (by simp) (heap_at (by simp)))
  have p2 := (hw1.block (w.heap.size + 1 + 1) (by simp)).trans (heap_at (by simp))
  have hB : Below w.heap.size w w1 := ((((Below.refl _ w).alloc (Nat.le_refl _) _).alloc (by simp) _).alloc (by simp <;> omega) _).trans (hw1.mono (by simp; omega))
  have HB := Lib.hid hB
  have HW1 := Lib.hid hw1
  clear hB hw1
  have p0_0 := cv0 p0
  have p0_1 := cv1 p0
  have p0_2 := cv2 p0
  have p0_3 := cv3 p0
  have p0_4 := cv4 p0
  have p0_5 := cv5 p0
  have p0_l := lt_heap p0
  have P0 := Lib.hid p0
  clear p0
  have p1_0 := cv0 p1
  have p1_1 := cv1 p1
  have p1_2 := cv2 p1
  have p1_3 := cv3 p1
  have p1_4 := cv4 p1
  have p1_5 := cv5 p1
  have p1_f0 := free_heap p1 0
  have p1_f1 := free_heap p1 1
  have p1_f2 := free_heap p1 2
  have p1_f3 := free_heap p1 3
  have p1_f4 := free_heap p1 4
  have p1_f5 := free_heap p1 5
  have p1_l := lt_heap p1
  have P1 := Lib.hid p1
  clear p1
  have p2_0 := cv0 p2
  have p2_1 := cv1 p2
  have p2_f0 := free_heap p2 0
  have p2_f1 := free_heap p2 1
  have p2_l := lt_heap p2
  have P2 := Lib.hid p2
  clear p2
  by_cases hz : (tmFault t).1 = 0
  case neg =>
    have t1 : (((tmFault t).1 : Int) != 0) = true := bne_iff_ne.2 (by omega)
    have HZ := Lib.hid hz
    clear hz
    go_wp2_with fail
    go_region
    all_goals
      refine gen_last (fun wx => Below w.heap.size w wx ∧ wx.heap[w.heap.size + 1]? = some (.cells zTm 27 (0, 0)) ∧ wx.heap[w.heap.size + 1 + 1]? = some (.cells #[.int .i64 (tmFault t).1, .int .i64 (tmFault t).2] 29 (0, 0))) ?_ ?_
      · refine ⟨?_, ?_, ?_⟩
        · exact (((below2 (below6 HB.out (by omega)) (by omega)).alloc (le2 (le6 (by omega))) _).drew)
        · exact heap_drew (heap_old (lt2 (lt6 (by omega))) (far2 (by omega) (at6 P1.out)))
        · exact heap_drew (heap_old (lt2 (lt6 (by omega))) (at2 (far6 (by omega) P2.out)))
      rintro wx ⟨hb, k2, k3⟩
      have hfin : FormAt Tv.long t w (.returned (.tuple #[.agg zTm, .agg #[.int .i64 (tmFault t).1, .int .i64 (tmFault t).2]])) wx := ⟨fun _ => rfl, fun _ _ h => absurd h HZ.out, hb⟩
      clear p0_0 p0_1 p0_2 p0_3 p0_4 p0_5 p1_0 p1_1 p1_2 p1_3 p1_4 p1_5 p1_f0 p1_f1 p1_f2 p1_f3 p1_f4 p1_f5 p2_0 p2_1 p2_f0 p2_f1 t1
      unfold zTm at k2
      have HFIN := Lib.hid hfin
      have HB := Lib.hid hb
      clear hfin hb
      have k2_0 := cv0 k2
      have k2_1 := cv1 k2
      have k2_2 := cv2 k2
      have k2_3 := cv3 k2
      have k2_4 := cv4 k2
      have k2_5 := cv5 k2
      have k2_l := lt_heap k2
      have K2 := Lib.hid k2
      clear k2
      have k3_0 := cv0 k3
      have k3_1 := cv1 k3
      have k3_l := lt_heap k3
      have K3 := Lib.hid k3
      clear k3
      go_wp2_with fail
      refine bodyPost_ret (v := .tuple #[.agg #[.int .i64 0, .string ⟨#[]⟩, .int .i64 0, .string ⟨#[]⟩, .slice none 0 0, .slice none 0 0], .agg #[.int .i64 (tmFault t).1, .int .i64 (tmFault t).2]]) (by simp [results, Tryd.results24, go_sem, k2_0, k2_1, k2_2, k2_3, k2_4, k2_5, k3_0, k3_1, k2_l, k3_l]) rfl ?_
      exact HFIN.out
  obtain ⟨v, s, rfl, ov, nv, dv, tv, ev⟩ := tmFault_zero hz
  have t1 : (((tmFault v.tm).1 : Int) != 0) = false := by rw [hz]; rfl
  have hsteps := fun (o : Obj) => Lib.hid (expandF_any v s [.int .i64 v.tm.lab.kind, .string v.tm.lab.nm, .int .i64 v.tm.lab.ix, .string s1, .slice A1 n1 c1, .slice B1 m1 d1] (w1.alloc o) S (by omega) ov tv (tmRep.keep HT.out (fun k hk => by have := HS.out k hk; exact (heap_old (by omega) rfl).trans (HB.out.block k this)) (fun _ h => h)) (fun k hk => by have := HS.out k hk; simp; omega))
  have HZ := Lib.hid hz
  clear hz ov nv dv tv ev
  have HSTEPS := Lib.hid hsteps
  clear hsteps
  go_wp2_with fail
  (with_reducible refine (HSTEPS.out _).out.mono ?_)
  unfold ExpandAt
  rintro e w2 ⟨u, ds, rfl, hu, hsu, hw2⟩
  obtain ⟨s2, A2, n2, c2, B2, m2, d2, rfl, _, _⟩ := Tm.shape hu
  have z2 : w1.heap.size + 1 ≤ w2.heap.size := by have := hw2.size; simpa using this
  have p1 := (hw2.block (w.heap.size + 1) (by simp; omega)).trans (heap_old p1_l P1.out)
  have p2 := (hw2.block (w.heap.size + 1 + 1) (by simp; omega)).trans (heap_old p2_l P2.out)
  have hB2 := (HB.out.alloc (by omega) (.cells #[.int .i64 (tmFault v.tm).1, .int .i64 (tmFault v.tm).2] 29)).trans (hw2.mono (by simp; omega))
  clear p0_0 p0_1 p0_2 p0_3 p0_4 p0_5 p0_l p1_0 p1_1 p1_2 p1_3 p1_4 p1_5 p1_f0 p1_f1 p1_f2 p1_f3 p1_f4 p1_f5 p1_l p2_0 p2_1 p2_f0 p2_f1 p2_l t1
  have HB2 := Lib.hid hB2
  have HW2 := Lib.hid hw2
  have HU := Lib.hid hu
  have HSU := Lib.hid hsu
  clear hB2 hw2 hu hsu
  have p1_0 := cv0 p1
  have p1_1 := cv1 p1
  have p1_2 := cv2 p1
  have p1_3 := cv3 p1
  have p1_4 := cv4 p1
  have p1_5 := cv5 p1
  have p1_f0 := free_heap p1 0
  have p1_f1 := free_heap p1 1
  have p1_f2 := free_heap p1 2
  have p1_f3 := free_heap p1 3
  have p1_f4 := free_heap p1 4
  have p1_f5 := free_heap p1 5
  have p1_l := lt_heap p1
  have P1 := Lib.hid p1
  clear p1
  have p2_0 := cv0 p2
  have p2_1 := cv1 p2
  have p2_f0 := free_heap p2 0
  have p2_f1 := free_heap p2 1
  have p2_l := lt_heap p2
  have P2 := Lib.hid p2
  clear p2
  cases hs : Tv.long v with
  | none =>
    have HSN := Lib.hid hs
    clear hs
    simp only [HSN.out, Option.isSome_none]
    go_upto_region 6 with (fail)
    go_cut [] (fun wx => Below w.heap.size w wx ∧ wx.heap[w.heap.size + 1]? = some (.cells zTm 27 (0, 0)) ∧ wx.heap[w.heap.size + 1 + 1]? = some (.cells #[.int .i64 17, .int .i64 (-1)] 29 (0, 0)))
    case first =>
      go_wp2_with fail
      go_meet
      refine ⟨?_, ?_, ?_⟩
      · exact (below2 (below6 HB2.out (by omega)) (by omega)).alloc (le2 (le6 (by omega))) _
      · exact heap_old (lt2 (lt6 (by omega))) (far2 (by omega) (at6 P1.out))
      · exact heap_old (lt2 (lt6 (by omega))) (at2 (far6 (by omega) P2.out))
    case rest =>
      obtain ⟨hb, k2, k3⟩ := hcut
      rename World => wx
      have hfin : FormAt Tv.long v.tm w (.returned (.tuple #[.agg zTm, .agg #[.int .i64 17, .int .i64 (-1)]])) wx := by
        refine ⟨fun h => absurd HZ.out h, fun v' e1 _ => ?_, hb⟩
        obtain rfl := Tv.tm_inj _ _ e1
        exact Or.inl ⟨HSN.out, rfl⟩
      clear p1_0 p1_1 p1_2 p1_3 p1_4 p1_5 p1_f0 p1_f1 p1_f2 p1_f3 p1_f4 p1_f5 p2_0 p2_1 p2_f0 p2_f1
      unfold zTm at k2
      have HFIN := Lib.hid hfin
      have HB := Lib.hid hb
      clear hfin hb
      have k2_0 := cv0 k2
      have k2_1 := cv1 k2
      have k2_2 := cv2 k2
      have k2_3 := cv3 k2
      have k2_4 := cv4 k2
      have k2_5 := cv5 k2
      have k2_l := lt_heap k2
      have K2 := Lib.hid k2
      clear k2
      have k3_0 := cv0 k3
      have k3_1 := cv1 k3
      have k3_l := lt_heap k3
      have K3 := Lib.hid k3
      clear k3
      go_wp2_with fail
      refine bodyPost_ret (v := .tuple #[.agg #[.int .i64 0, .string ⟨#[]⟩, .int .i64 0, .string ⟨#[]⟩, .slice none 0 0, .slice none 0 0], .agg #[.int .i64 17, .int .i64 (-1)]]) (by simp [results, Tryd.results24, go_sem, k2_0, k2_1, k2_2, k2_3, k2_4, k2_5, k3_0, k3_1, k2_l, k3_l]) rfl ?_
      exact HFIN.out
  | some u' =>
    obtain rfl : u = u' := HSU.out u' hs
    have HSN := Lib.hid hs
    clear hs
    have hcl := fun (o : Obj) => Lib.hid (cloneTm_any _ u [.int .i64 u.tm.lab.kind, .string u.tm.lab.nm, .int .i64 u.tm.lab.ix, .string s2, .slice A2 n2 c2, .slice B2 m2 d2] (w2.alloc o) (Lo w2) (Nat.le_refl _) (tmRep.keep HU.out (fun k hk => heap_old hk rfl) (fun _ h => h)) (fun k hk => by have h' : k < w2.heap.size := hk; simp; omega))
    have HCL := Lib.hid hcl
    clear hcl
    simp only [HSN.out, Option.isSome_some]
    go_upto_region 7 with (fail)
    go_cut [] (fun wx => ∃ es : List Value, tmRep.R wx (Fresh w wx) u.tm es ∧ wx.heap[w.heap.size + 1]? = some (.cells es.toArray 27 (0, 0)) ∧ wx.heap[w.heap.size + 1 + 1]? = some (.cells #[.int .i64 0, .int .i64 0] 29 (0, 0)) ∧ Below w.heap.size w wx)
    case first =>
      go_wp2_with fail
      (with_reducible refine (HCL.out _).out.mono ?_)
      rintro e w5 ⟨es, rfl, hu5, hw5⟩
      obtain ⟨s5, A5, n5, c5, B5, m5, d5, rfl, _, _⟩ := Tm.shape hu5
      have z5 : w2.heap.size + 1 ≤ w5.heap.size := by have := hw5.size; simpa using this
      have p1 := (hw5.block (w.heap.size + 1) (by simp; omega)).trans (heap_old p1_l P1.out)
      have p2 := (hw5.block (w.heap.size + 1 + 1) (by simp; omega)).trans (heap_old p2_l P2.out)
      clear p1_0 p1_1 p1_2 p1_3 p1_4 p1_5 p1_f0 p1_f1 p1_f2 p1_f3 p1_f4 p1_f5 p2_0 p2_1 p2_f0 p2_f1 p1_l p2_l
      have hB5 : Below w.heap.size w w5 := (HB2.out.alloc (by omega) _).trans (hw5.mono (by simp; omega))
      have HU5 := Lib.hid hu5
      have HW5 := Lib.hid hw5
      have HB5 := Lib.hid hB5
      clear hu5 hw5 hB5
      have p1_0 := cv0 p1
      have p1_1 := cv1 p1
      have p1_2 := cv2 p1
      have p1_3 := cv3 p1
      have p1_4 := cv4 p1
      have p1_5 := cv5 p1
      have p1_f0 := free_heap p1 0
      have p1_f1 := free_heap p1 1
      have p1_f2 := free_heap p1 2
      have p1_f3 := free_heap p1 3
      have p1_f4 := free_heap p1 4
      have p1_f5 := free_heap p1 5
      have p1_l := lt_heap p1
      have P1 := Lib.hid p1
      clear p1
      have p2_0 := cv0 p2
      have p2_1 := cv1 p2
      have p2_f0 := free_heap p2 0
      have p2_f1 := free_heap p2 1
      have p2_l := lt_heap p2
      have P2 := Lib.hid p2
      clear p2
      go_wp2_with fail
      go_meet
      refine ⟨[.int .i64 u.tm.lab.kind, .string u.tm.lab.nm, .int .i64 u.tm.lab.ix, .string s5, .slice A5 n5 c5, .slice B5 m5 d5], ?_, far2 (by omega) (at6 P1.out), at2 (far6 (by omega) P2.out), below2 (below6 HB5.out (by omega)) (by omega)⟩
      exact tmRep.keep HU5.out (fun k hk => far2 (by have := hk.1; simp at this; omega) (far6 (by have := hk.1; simp at this; omega) rfl)) (fun k hk => ⟨by have := hk.1; simp at this; omega, lt2 (lt6 hk.2)⟩)
    case rest =>
      obtain ⟨es, hu5, k2, k3, hb⟩ := hcut
      rename World => wx
      obtain ⟨s5, A5, n5, c5, B5, m5, d5, rfl, _, _⟩ := Tm.shape hu5
      have hfin : FormAt Tv.long v.tm w (.returned (.tuple #[.agg ([.int .i64 u.tm.lab.kind, .string u.tm.lab.nm, .int .i64 u.tm.lab.ix, .string s5, .slice A5 n5 c5, .slice B5 m5 d5]).toArray, .agg #[.int .i64 0, .int .i64 0]])) wx := by
        refine ⟨fun h => absurd HZ.out h, fun v' e1 _ => ?_, hb⟩
        obtain rfl := Tv.tm_inj _ _ e1
        exact Or.inr ⟨u, _, HSN.out, rfl, hu5⟩
      clear p1_0 p1_1 p1_2 p1_3 p1_4 p1_5 p1_f0 p1_f1 p1_f2 p1_f3 p1_f4 p1_f5 p2_0 p2_1 p2_f0 p2_f1
      have HFIN := Lib.hid hfin
      have HB := Lib.hid hb
      have HU5 := Lib.hid hu5
      clear hfin hb hu5
      have k2_0 := cv0 k2
      have k2_1 := cv1 k2
      have k2_2 := cv2 k2
      have k2_3 := cv3 k2
      have k2_4 := cv4 k2
      have k2_5 := cv5 k2
      have k2_l := lt_heap k2
      have K2 := Lib.hid k2
      clear k2
      have k3_0 := cv0 k3
      have k3_1 := cv1 k3
      have k3_l := lt_heap k3
      have K3 := Lib.hid k3
      clear k3
      go_wp2_with fail
      refine bodyPost_ret (v := .tuple #[.agg #[.int .i64 u.tm.lab.kind, .string u.tm.lab.nm, .int .i64 u.tm.lab.ix, .string s5, .slice A5 n5 c5, .slice B5 m5 d5], .agg #[.int .i64 0, .int .i64 0]]) (by simp [results, Tryd.results24, go_sem, k2_0, k2_1, k2_2, k2_3, k2_4, k2_5, k3_0, k3_1, k2_l, k3_l]) rfl ?_
      exact HFIN.out

end Go.Proofs.YthflahcnkhmpaabDoor
