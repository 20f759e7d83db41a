/-
  reduce.expand: the walk.
-/
import Derived.Test.YthflahcnkhmpaabDoorProg
import Derived.Test.YthflahcnkhmpaabDoorLift
import Derived.Test.YthflahcnkhmpaabDoorTyped
import Derived.Test.YthflahcnkhmpaabDoorExpB
import Derived.Test.YthflahcnkhmpaabDoorMod
import Derived.Test.YthflahcnkhmpaabDoorSyIn
import Derived.Test.YthflahcnkhmpaabDoorApply
namespace Go.Proofs.YthflahcnkhmpaabDoor
open Go Go.RowKit
set_option linter.unusedSimpArgs false
set_option linter.unusedVariables false

/-- What expand returns; rb: the block of room. -/
def ExpAt (n : Nat) (v : Tv) (s : Sy) (c : List Sy) (r : Int) (rb : Nat) (w : World) (S : Nat → Prop) (e : Ending) (w' : World) : Prop :=
  ∃ ds : List Value, e = .returned (.agg ds.toArray) ∧ tmRep.R w' (Ex S w w') (Tv.expand n v s c r).1.tm ds ∧ w'.heap[rb]? = some (.cells #[.int .i64 (Tv.expand n v s c r).2] 3 (0, 0)) ∧ Mod rb w.heap.size w w'
/-- The premises. -/
structure ExpPre (n : Nat) (v : Tv) (s : Sy) (c : List Sy) (r : Int) (rb : Nat) (cs : List Value) (s0 s1 u : Value) (w : World) (S : Nat → Prop) : Prop where
  fuel : r < n
  low : -1000000000 ≤ r
  big : c.length + v.nodes + 3 * n ≤ 100000
  norm : v.step = none
  typ : Tv.typ c v = some s
  ok : v.ok c.length
  hv : tmRep.R w S v.tm cs
  hs : s.ty.In w S s0 s1
  hc : Ctx w S u c
  room : w.heap[rb]? = some (.cells #[.int .i64 r] 3 (0, 0))
  out : ¬ S rb
  lo : ∀ b, S b → b < w.heap.size
  fu : n ≤ 2001
theorem ExpPre.drew {n : Nat} {v : Tv} {s : Sy} {c : List Sy} {r : Int} {rb : Nat} {cs : List Value} {s0 s1 u : Value} {w : World} {S : Nat → Prop} (h : ExpPre n v s c r rb cs s0 s1 u w S) : ExpPre n v s c r rb cs s0 s1 u w.drew S :=
  ⟨h.fuel, h.low, h.big, h.norm, h.typ, h.ok, tmRep.keep h.hv (fun _ _ => rfl) (fun _ h => h), h.hs.drew, h.hc.keep (fun _ _ => rfl) (fun _ h => h), h.room, h.out, h.lo, h.fu⟩
/-- An abstraction in memory: its part lies in a block of its own. -/
theorem Tm.abs_lit {W : World} {S : Nat → Prop} {a : Sy} {x : Tv} {v0 v1 : Value} {cs : List Value} {blk : Nat} {T : TypeId} {fr : Nat × Nat} (ha : Ty.In W S a.ty v0 v1) (hx : tmRep.R W S x.tm cs) (hb : W.heap[blk]? = some (.cells cs.toArray T fr)) (hS : S blk) :
    tmRep.R W S (Tv.abs a x).tm [.int .i64 3, .string ⟨#[]⟩, .int .i64 0, v0, v1, .slice (some ⟨blk, 0, none⟩) 1 1] :=
  Tm.shut (a := ⟨3, bNil, 0, a.ty⟩) (l := [x.tm]) (show bNil.size ≤ maxLen by decide +kernel) ha
    ⟨_, 1, 1, rfl, rfl, by simp [maxLen], fun _ => ⟨blk, 0, cs, rfl, hS, Rep.All.single hx, fun j u hj => by rw [Nat.zero_add]; exact cell_heap hb (by simpa using hj)⟩⟩
def ExpIH (n : Nat) : Prop := ∀ (v : Tv) (s : Sy) (c : List Sy) (r : Int) (rb : Nat) (cs : List Value) (s0 s1 u : Value) (w : World) (S : Nat → Prop), ExpPre n v s c r rb cs s0 s1 u w S →
  Calls Tryd.prog 70 #[.agg cs.toArray, .agg #[s0, s1], u, .pointer (some ⟨rb, 0, none⟩)] w (ExpAt n v s c r rb w S)

set_option maxRecDepth 100000 in
set_option maxHeartbeats 4000000 in
theorem expand_neg_any (n : Nat) (v : Tv) (s : Sy) (c : List Sy) (r : Int) (rb : Nat) (cs : List Value) (s0 s1 u : Value) (w : World) (S : Nat → Prop) (h : ExpPre n v s c r rb cs s0 s1 u w S) (hr : r < 0) :
    Calls Tryd.prog 70 #[.agg cs.toArray, .agg #[s0, s1], u, .pointer (some ⟨rb, 0, none⟩)] w (ExpAt n v s c r rb w S) := by
  obtain ⟨s9, A9, n9, c9, B9, m9, d9, rfl, _, _⟩ := Tm.shape h.hv
  obtain ⟨st, At, nt, ct, rfl, rfl⟩ := h.hs.shape
  obtain ⟨_, A, nn, k, rfl, _, _⟩ := h.hc
  have hroom := h.room
  have hlo := h.lo
  have hout := h.out
  have hv := h.hv
  have l1 := lt_heap hroom
  have l2 : rb < w.heap.size + 1 := by omega
  have l3 : rb < w.heap.size + 1 + 1 := by omega
  have e : Tv.expand n v s c r = (v, r) := Tv.expand_neg n v s c r hr
  have H := Lib.hid h
  have HLO := Lib.hid hlo
  have HOUT := Lib.hid hout
  have HV := Lib.hid hv
  have E := Lib.hid e
  clear h hlo hout hv e
  have hroom_0 := cv0 hroom
  have hroom_l := lt_heap hroom
  have HROOM := Lib.hid hroom
  clear hroom
  go_enter Tryd.func70, Tryd.ntmps70
  go_wp2_with fail
  refine bodyPost_ret (v := .agg #[.int .i64 v.tm.lab.kind, .string v.tm.lab.nm, .int .i64 v.tm.lab.ix, .string s9, .slice A9 n9 c9, .slice B9 m9 d9]) (by simp [results, Tryd.results70, go_sem]) rfl ?_
  unfold ExpAt
  rw [E.out]
  refine ⟨_, rfl, tmRep.keep HV.out (fun k hk => ?_) (fun k hk => Or.inl hk), ?_, Mod.below (by go_grown)⟩
  · have := HLO.out k hk
    exact heap_old (by simp; omega) (heap_old (by simp; omega) (heap_old this rfl))
  · exact heap_old (by simp; omega) (heap_old (by simp; omega) (heap_old (by omega) HROOM.out))

set_option maxRecDepth 100000 in
set_option maxHeartbeats 4000000 in
theorem expand_fn_any (n : Nat) (IH : ExpIH n) (v : Tv) (a b : Sy) (c : List Sy) (r : Int) (rb : Nat) (cs : List Value) (s0 s1 u : Value) (w : World) (S : Nat → Prop) (h : ExpPre (n + 1) v (.fn a b) c r rb cs s0 s1 u w S) (hr : 0 ≤ r) :
    Calls Tryd.prog 70 #[.agg cs.toArray, .agg #[s0, s1], u, .pointer (some ⟨rb, 0, none⟩)] w (ExpAt (n + 1) v (.fn a b) c r rb w S) := by
  obtain ⟨s9, A9, n9, c9, B9, m9, d9, rfl, _, _⟩ := Tm.shape h.hv
  obtain ⟨bs, os, ct, x0, x1, y0, y1, rfl, rfl, hSs, k0, k1, k2, k3, hIa, hIb⟩ := Sy.In_fn h.hs
  obtain ⟨sx, Ax, nx, cx, rfl, rfl⟩ := hIa.shape
  obtain ⟨sy, Ay, ny, cy, rfl, rfl⟩ := hIb.shape
  obtain ⟨hsl, Ac, nc, kcp, rfl, hnk, hnone⟩ := h.hc
  have hcn : c.length = nc := by
    obtain ⟨_, _, _, e, hl, _⟩ := hsl
    injection e with _ e _
    simpa [e] using hl
  have hroom := h.room
  have hfu := h.fuel
  have hbig := h.big
  have l1 := lt_heap hroom
  have l2 : rb < w.heap.size + 1 := by omega
  have l3 : rb < w.heap.size + 1 + 1 := by omega
  have q1 : (0 : Int) ≤ (nc : Int) := by omega
  have q2 : (nc : Int) ≤ (kcp : Int) := by omega
  have hru : r ≤ 1000000 := by omega
  have hnc : nc ≤ 100000 := by omega
  have hlo := h.lo
  have hnb : bs ≠ rb := fun e => h.out (e ▸ hSs)
  have lbs := hlo bs hSs
  have HIH := Lib.hid IH
  have HCN := Lib.hid hcn
  have H := Lib.hid h
  clear hcn hbig IH h
  have HSL := Lib.hid hsl
  have HLO := Lib.hid hlo
  have K0 := Lib.hid k0
  have K1 := Lib.hid k1
  have K2 := Lib.hid k2
  have K3 := Lib.hid k3
  have HIA := Lib.hid hIa
  have HIB := Lib.hid hIb
  have HNONE := Lib.hid hnone
  have HSS := Lib.hid hSs
  have HFU := Lib.hid hfu
  clear hsl hlo k0 k1 k2 k3 hIa hIb hnone hSs hfu
  have hroom_0 := cv0 hroom
  have hroom_f0 := free_heap hroom 0
  have hroom_l := lt_heap hroom
  have HROOM := Lib.hid hroom
  clear hroom
  go_enter Tryd.func70, Tryd.ntmps70
  go_upto_region 5 with (fail)
  refine gen_last (fun wx => wx.heap[w.heap.size]? = some (.cells #[.int .i64 v.tm.lab.kind, .string v.tm.lab.nm, .int .i64 v.tm.lab.ix, .string s9, .slice A9 n9 c9, .slice B9 m9 d9] 27 (0, 0)) ∧ wx.heap[w.heap.size + 1]? = some (.cells #[.string bNil, .slice (some ⟨bs, os, none⟩) 2 ct] 24 (0, 0)) ∧
    wx.heap[w.heap.size + 1 + 1]? = some (.cells #[.int .i64 0, .string ⟨#[]⟩, .int .i64 0, .string ⟨#[]⟩, .slice none 0 0, .slice none 0 0] 27 (0, 0)) ∧ wx.heap[rb]? = some (.cells #[.int .i64 (r - 1)] 3 (0, 0)) ∧ Mod rb w.heap.size w wx ∧ w.heap.size + 3 ≤ wx.heap.size) ?_ ?_
  · refine ⟨heap_old (by simp [size_set]; omega) (heap_old (by simp [size_set]) (heap_at (size_set _ _ _).symm)), heap_old (by simp [size_set]) (heap_at (by simp [size_set])), heap_at (by simp [size_set]), ?_, (((Mod.refl.setRow _).alloc (by simp [size_set]) _).alloc (by simp [size_set]) _).alloc (by simp [size_set]; omega) _, by simp [size_set]⟩
    exact heap_old (by simp [size_set]; omega) (heap_old (by simp [size_set]; omega) (heap_old (by simp [size_set]; omega) (by simpa using heap_set HROOM.out 0 (.int .i64 (r - 1)))))
  rintro wx ⟨p4, p5, p8, hroom, hM, zx⟩
  have hkx : ∀ k, k < w.heap.size → k ≠ rb → wx.heap[k]? = w.heap[k]? := fun k h1 h2 => hM.block k h1 h2
  have hkS : ∀ k, S k → wx.heap[k]? = w.heap[k]? := fun k hk => hM.block k (HLO.out k hk) (fun e => H.out.out (e ▸ hk))
  have hkb := hkS bs HSS.out
  have e0 := (cell_keep hkb os).trans K0.out
  have e1 := (cell_keep hkb (os + 1)).trans K1.out
  have e2 := (cell_keep hkb (os + 2)).trans K2.out
  have e3 := (cell_keep hkb (os + 2 + 1)).trans K3.out
  have hnew : ∀ k, k < wx.heap.size → k < wx.heap.size + 1 := fun k h => by omega
  have lbx : bs < wx.heap.size := by omega
  have HRX := Lib.hid hroom
  obtain ⟨i0, hi0, hz0, hz1, hz2⟩ := info_parts infoSimple
  clear hroom_0 hroom_f0 hroom_l hroom hkb hnew
  have HM := Lib.hid hM
  have HKX := Lib.hid hkx
  have HKS := Lib.hid hkS
  clear hM hkx hkS
  have p4_0 := cv0 p4
  have p4_1 := cv1 p4
  have p4_2 := cv2 p4
  have p4_3 := cv3 p4
  have p4_4 := cv4 p4
  have p4_5 := cv5 p4
  have p4_l := lt_heap p4
  have P4 := Lib.hid p4
  clear p4
  have p5_0 := cv0 p5
  have p5_1 := cv1 p5
  have p5_l := lt_heap p5
  have P5 := Lib.hid p5
  clear p5
  have p8_0 := cv0 p8
  have p8_1 := cv1 p8
  have p8_2 := cv2 p8
  have p8_3 := cv3 p8
  have p8_4 := cv4 p8
  have p8_5 := cv5 p8
  have p8_f0 := free_heap p8 0
  have p8_f1 := free_heap p8 1
  have p8_f2 := free_heap p8 2
  have p8_f3 := free_heap p8 3
  have p8_f4 := free_heap p8 4
  have p8_f5 := free_heap p8 5
  have p8_l := lt_heap p8
  have P8 := Lib.hid p8
  clear p8
  obtain ⟨olds, hall, holen, _, hocells⟩ := (HSL.out.keep HKS.out (fun _ h => h)).olds (fun h => (HNONE.out h).1)
  simp only [tyRep] at holen
  have HALL := Lib.hid hall
  have HOCELLS := Lib.hid hocells
  clear hall hocells
  go_cut [9] (fun s9 wy => Ctx wy (fun k => S k ∨ (wx.heap.size ≤ k ∧ k < wy.heap.size)) s9 (a :: c) ∧ Below wx.heap.size wx wy)
  case first =>
    go_region_law ((refine step_append_grows (by rfl) (.tmp 35) (.tmp 40) _ (by rfl) 24 i0 _ 2 40 Tryd.underlying22 hi0 hz0 hz1 hz2 rfl (by omega) Ac nc nc olds (by rfl) (fun h => ⟨(HNONE.out h).1, (HNONE.out h).1⟩) holen ?ho ⟨wx.heap.size, 0, none⟩ 1 1 [.string sx, .slice Ax nx cx] (by rfl) (by rfl) ?hn (by simp [Value.oneCell']) (by omega) (by have := HCN.out; unfold maxLen; omega) (by have := HCN.out; omega) ?hK; (case ho => exact (fun a ha j u hj => (World.cell?_of_block (heap_drew (heap_old (World.block_lt_of_cell? wx _ (HOCELLS.out a ha j u hj)) rfl))).trans (HOCELLS.out a ha j u hj))); (case hn => exact World.news_of_block (cs := #[.string sx, .slice Ax nx cx]) (t := 24) (fr := (0, 0)) (heap_drew (heap_at rfl))); intro v' w3 hown3 hgrow))
    all_goals
      go_wp2_with fail
      go_meet
      refine ⟨?_, ((Below.refl _ wx).alloc (Nat.le_refl _) _).drew.grown hgrow (by simp) (fun k hk => by cases hk)⟩
      exact (Ctx.push (w := wx) HALL.out ⟨_, _, rfl, HIA.out.keep HKS.out⟩ HCN.out hown3 hgrow (fun k hk => heap_drew (heap_old (by have := HLO.out k hk; omega) rfl)) (fun k hk => by have := HLO.out k hk; simp; omega) (by have := HCN.out; unfold maxLen; omega)).keep (fun _ _ => rfl) (fun b hb => hb.imp_right (fun h => ⟨by have := h.1; simp at this; omega, h.2⟩))
  case rest =>
    obtain ⟨hcx, hbx⟩ := hcut
    rename World => wy
    have zy : wx.heap.size ≤ wy.heap.size := hbx.size
    have p4 := (hbx.block _ p4_l).trans P4.out
    have p5 := (hbx.block _ p5_l).trans P5.out
    have p8 := (hbx.block _ p8_l).trans P8.out
    have hroom := (hbx.block rb (by omega)).trans HRX.out
    have hMy : Mod rb w.heap.size w wy := HM.out.thenBelow (hbx.mono (by omega))
    have hkSy : ∀ k, S k → wy.heap[k]? = w.heap[k]? := fun k hk => (hbx.block k (by have := HLO.out k hk; omega)).trans (HKS.out k hk)
    have hkb := hkSy bs HSS.out
    have e0 := (cell_keep hkb os).trans K0.out
    have e1 := (cell_keep hkb (os + 1)).trans K1.out
    have e2 := (cell_keep hkb (os + 2)).trans K2.out
    have e3 := (cell_keep hkb (os + 2 + 1)).trans K3.out
    have lby : bs < wy.heap.size := by omega
    clear p4_0 p4_1 p4_2 p4_3 p4_4 p4_5 p4_l p5_0 p5_1 p5_l p8_0 p8_1 p8_2 p8_3 p8_4 p8_5 p8_f0 p8_f1 p8_f2 p8_f3 p8_f4 p8_f5 p8_l hkb
    have HCX := Lib.hid hcx
    have HBX := Lib.hid hbx
    have HMY := Lib.hid hMy
    have HKSY := Lib.hid hkSy
    clear hcx hbx hMy hkSy
    have hroom_0 := cv0 hroom
    have hroom_l := lt_heap hroom
    have HROOM := Lib.hid hroom
    clear hroom
    have p4_0 := cv0 p4
    have p4_1 := cv1 p4
    have p4_2 := cv2 p4
    have p4_3 := cv3 p4
    have p4_4 := cv4 p4
    have p4_5 := cv5 p4
    have p4_l := lt_heap p4
    have P4 := Lib.hid p4
    clear p4
    have p5_0 := cv0 p5
    have p5_1 := cv1 p5
    have p5_l := lt_heap p5
    have P5 := Lib.hid p5
    clear p5
    have p8_0 := cv0 p8
    have p8_1 := cv1 p8
    have p8_2 := cv2 p8
    have p8_3 := cv3 p8
    have p8_4 := cv4 p8
    have p8_5 := cv5 p8
    have p8_f0 := free_heap p8 0
    have p8_f1 := free_heap p8 1
    have p8_f2 := free_heap p8 2
    have p8_f3 := free_heap p8 3
    have p8_f4 := free_heap p8 4
    have p8_f5 := free_heap p8 5
    have p8_l := lt_heap p8
    have P8 := Lib.hid p8
    clear p8
    cases hab : v.isAbs with
    | true =>
      cases v with
      | abs sv x =>
        have hvx := H.out.hv
        have t3 : ((Tv.abs sv x).tm.lab.kind == 3) = true := rfl
        obtain ⟨_, _, vv, e9, _, _, hl9⟩ := Tm.open_ (a := ⟨3, bNil, 0, sv.ty⟩) (l := [x.tm]) hvx
        simp only [List.cons.injEq, and_true] at e9
        obtain ⟨_, _, _, _, _, e9⟩ := e9
        subst e9
        obtain ⟨A', m', cp', e9, hl9', hm9, hA9⟩ := hl9
        simp only [Value.slice.injEq] at e9
        obtain ⟨rfl, rfl, rfl⟩ := e9
        simp only [List.length_singleton] at hl9'
        subst hl9'
        obtain ⟨b2, o2, kc, rfl, hSb2, hkr, hkc⟩ := Tm.kid (l := [x.tm]) (c := d9) (k := 0) ⟨_, _, _, rfl, rfl, hm9, hA9⟩ rfl
        obtain ⟨s1, A1, n1, c1, B1, m1, d1, rfl, _, _⟩ := Tm.shape hkr
        have hkc' : ∀ (j : Nat) (u : Value), _ → w.cell? ⟨b2, o2 + j, none⟩ = some u := fun j u hj => by simpa using hkc j u hj
        have hk2 := HKSY.out b2 hSb2
        have g0 : wy.cell? ⟨b2, o2, none⟩ = _ := (cell_keep hk2 _).trans (hkc' 0 _ rfl)
        have g1 : wy.cell? ⟨b2, o2 + 1, none⟩ = _ := (cell_keep hk2 _).trans (hkc' 1 _ rfl)
        have g2 : wy.cell? ⟨b2, o2 + 2, none⟩ = _ := (cell_keep hk2 _).trans (hkc' 2 _ rfl)
        have g3 : wy.cell? ⟨b2, o2 + 3, none⟩ = _ := (cell_keep hk2 _).trans (hkc' 3 _ rfl)
        have g4 : wy.cell? ⟨b2, o2 + 4, none⟩ = _ := (cell_keep hk2 _).trans (hkc' 4 _ rfl)
        have g5 : wy.cell? ⟨b2, o2 + 5, none⟩ = _ := (cell_keep hk2 _).trans (hkc' 5 _ rfl)
        have l2' := HLO.out b2 hSb2
        have lb2 : b2 < wy.heap.size := by omega
        obtain ⟨b', eb, htx⟩ := Tv.typ_abs H.out.typ
        obtain ⟨rfl, rfl⟩ : a = sv ∧ b = b' := by simpa using eb
        have hnx : x.step = none := by simpa [Tv.step] using H.out.norm
        have hih := Lib.hid (HIH.out x b (a :: c) (r - 1) rb [.int .i64 x.tm.lab.kind, .string x.tm.lab.nm, .int .i64 x.tm.lab.ix, .string s1, .slice A1 n1 c1, .slice B1 m1 d1] (.string sy) (.slice Ay ny cy) u9 wy.drew (fun k => S k ∨ (wx.heap.size ≤ k ∧ k < wy.heap.size))
          (ExpPre.drew ⟨by have := HFU.out; omega, by omega, by have := H.out.big; simp only [List.length_cons, Tv.nodes] at this ⊢; omega, hnx, htx, H.out.ok.2, tmRep.keep hkr HKSY.out (fun k hk => Or.inl hk), (HIB.out.keep HKSY.out).mono (fun k hk => Or.inl hk), HCX.out, HROOM.out, by rintro (h | h); exact H.out.out h; omega, fun k hk => by rcases hk with hk | hk; have := HLO.out k hk; exact (show k < wy.heap.size by omega); exact hk.2, by have := H.out.fu; omega⟩))
        have hres := Tv.expand_abs n a x a b c r (by omega)
        clear hvx hA9 hm9 hkr hkc hkc' hk2 htx hnx eb
        have HIH := Lib.hid hih
        have HRES := Lib.hid hres
        clear hih hres
        have hbn : b2 ≠ rb := fun e => H.out.out (e ▸ hSb2)
        have p8n : w.heap.size + 1 + 1 < wy.heap.size := p8_l
        go_wp2_with fail
        go_region_held3 (fun w' => w'.cell? ⟨w.heap.size + 1, 1, none⟩ = some (.slice (some ⟨bs, os, none⟩) 2 ct) ∧ w'.cell? ⟨bs, os, none⟩ = some (.string sx) ∧ w'.cell? ⟨bs, os + 1, none⟩ = some (.slice Ax nx cx) ∧ w'.cell? ⟨bs, os + 2, none⟩ = some (.string sy) ∧ w'.cell? ⟨bs, os + 2 + 1, none⟩ = some (.slice Ay ny cy) ∧ w'.cell? ⟨w.heap.size, 5, none⟩ = some (.slice (some ⟨b2, o2, none⟩) 1 d9) ∧ w'.cell? ⟨b2, o2, none⟩ = some (.int .i64 x.tm.lab.kind) ∧ w'.cell? ⟨b2, o2 + 1, none⟩ = some (.string x.tm.lab.nm) ∧ w'.cell? ⟨b2, o2 + 2, none⟩ = some (.int .i64 x.tm.lab.ix) ∧ w'.cell? ⟨b2, o2 + 3, none⟩ = some (.string s1) ∧ w'.cell? ⟨b2, o2 + 4, none⟩ = some (.slice A1 n1 c1) ∧ w'.cell? ⟨b2, o2 + 5, none⟩ = some (.slice B1 m1 d1))
          ((first
            | (go_split_ands; (repeat' apply And.intro) <;> (with_reducible refine (cell_keep (heap_old (lt6 (by omega)) (far6 (by omega) rfl)) _).trans ((kc _ _ (by omega) (by omega)).trans ?_)) <;> assumption)
            | (go_split_ands; (repeat' apply And.intro) <;> (with_reducible refine (cell_keep (far6 (by omega) (heap_old (by omega) rfl)) _).trans ((kc _ _ (by omega) (by omega)).trans ?_)) <;> assumption)
            | (go_split_ands; (repeat' apply And.intro) <;> (with_reducible refine (cell_keep (heap_old (by omega) rfl) _).trans ((kc _ _ (by omega) (by omega)).trans ?_)) <;> assumption)
            | (go_split_ands; (repeat' apply And.intro) <;> (with_reducible refine (kc _ _ (by omega) (by omega)).trans ?_) <;> assumption)
            | (go_keep; done)))
          (((with_reducible refine HIH.out.out.mono ?_); rintro e w5 ⟨ds, rfl, hu5, hroom5, hM5⟩; obtain ⟨s5, A5, n5, c5, B5, m5, d5, rfl, _, _⟩ := Tm.shape hu5; have kc : ∀ k q, k < wy.heap.size → k ≠ rb → w5.cell? ⟨k, q, none⟩ = wy.cell? ⟨k, q, none⟩ := (fun k q h1 h2 => cell_keep (hM5.block k h1 h2) q); have z5 : wy.heap.size ≤ w5.heap.size := hM5.size; have k8 := (hM5.block _ p8_l (by omega)).trans P8.out; have k8_0 := cv0 k8; have k8_1 := cv1 k8; have k8_2 := cv2 k8; have k8_3 := cv3 k8; have k8_4 := cv4 k8; have k8_5 := cv5 k8; have k8_f0 := free_heap k8 0; have k8_f1 := free_heap k8 1; have k8_f2 := free_heap k8 2; have k8_f3 := free_heap k8 3; have k8_f4 := free_heap k8 4; have k8_f5 := free_heap k8 5; have k8_l := lt_heap k8; have K8 := Lib.hid k8; have HU5 := Lib.hid hu5; have HROOM5 := Lib.hid hroom5; have HM5 := Lib.hid hM5; clear hu5 hroom5 hM5 k8))
        refine gen_last (fun wz => wz.heap[w.heap.size + 1 + 1]? = some (.cells #[.int .i64 3, .string ⟨#[]⟩, .int .i64 0, .string sx, .slice Ax nx cx, .slice (some ⟨w5.heap.size, 0, none⟩) 1 1] 27 (0, 0)) ∧ wz.heap[w5.heap.size]? = some (.cells #[.int .i64 (Tv.expand n x b (a :: c) (r - 1)).1.tm.lab.kind, .string (Tv.expand n x b (a :: c) (r - 1)).1.tm.lab.nm, .int .i64 (Tv.expand n x b (a :: c) (r - 1)).1.tm.lab.ix, .string s5, .slice A5 n5 c5, .slice B5 m5 d5] 27 (0, 0)) ∧ w5.heap.size + 1 ≤ wz.heap.size ∧ (∀ k, k < w5.heap.size → k ≠ w.heap.size + 1 + 1 → wz.heap[k]? = w5.heap[k]?) ∧ Mod rb w.heap.size w wz) ?_ ?_
        · refine ⟨?_, ?_, ?_, fun k h1 h2 => ?_, ?_⟩
          · exact heap_old (lt6 k8_l) (at6 K8.out)
          · exact heap_at size6.symm
          · rw [World.size_alloc]; exact Nat.succ_le_succ (le6 (Nat.le_refl _))
          · exact heap_old (lt6 h1) (far6 h2 rfl)
          · exact (mod6 (HMY.out.trans ((Mod.refl.drew).trans (HM5.out.mono (show w.heap.size ≤ wy.heap.size by omega)))) (by omega)).alloc (le6 (by omega)) _
        rintro wz ⟨q8, q9, zz, hkz, hMz⟩
        have hfin : ExpAt (n + 1) (.abs a x) (.fn a b) c r rb w S (.returned (.agg #[.int .i64 3, .string ⟨#[]⟩, .int .i64 0, .string sx, .slice Ax nx cx, .slice (some ⟨w5.heap.size, 0, none⟩) 1 1])) wz := by
          unfold ExpAt
          rw [HRES.out]
          have hlo : ∀ k, S k → k < w.heap.size := HLO.out
          refine ⟨_, rfl, Tm.abs_lit (cs := [.int .i64 (Tv.expand n x b (a :: c) (r - 1)).1.tm.lab.kind, .string (Tv.expand n x b (a :: c) (r - 1)).1.tm.lab.nm, .int .i64 (Tv.expand n x b (a :: c) (r - 1)).1.tm.lab.ix, .string s5, .slice A5 n5 c5, .slice B5 m5 d5]) ?_ ?_ q9 (Or.inr ⟨by omega, by omega⟩), ?_, hMz⟩
          · exact Ty.In_keep (fun k hk => hMz.block k (hlo k hk) (fun e => H.out.out (e ▸ hk))) (fun k hk => Or.inl hk) _ _ _ HIA.out
          · refine tmRep.keep HU5.out (fun k hk => ?_) (fun k hk => ?_)
            · rcases hk with (hk | hk) | hk
              · have := hlo k hk; exact hkz k (by omega) (by omega)
              · exact hkz k (by omega) (by omega)
              · exact hkz k (by omega) (by have h' : wy.heap.size ≤ k := hk.1; omega)
            · rcases hk with (hk | hk) | hk
              · exact Or.inl hk
              · exact Or.inr ⟨by omega, by omega⟩
              · have h' : wy.heap.size ≤ k := hk.1
                exact Or.inr ⟨by omega, by omega⟩
          · exact (hkz rb (by omega) (by omega)).trans HROOM5.out
        clear k8_0 k8_1 k8_2 k8_3 k8_4 k8_5 k8_f0 k8_f1 k8_f2 k8_f3 k8_f4 k8_f5 k8_l p8_0 p8_1 p8_2 p8_3 p8_4 p8_5 p8_f0 p8_f1 p8_f2 p8_f3 p8_f4 p8_f5 kc
        have HFIN := Lib.hid hfin
        have HKZ := Lib.hid hkz
        have HMZ := Lib.hid hMz
        have Q9 := Lib.hid q9
        clear hfin hkz hMz q9
        have q8_0 := cv0 q8
        have q8_1 := cv1 q8
        have q8_2 := cv2 q8
        have q8_3 := cv3 q8
        have q8_4 := cv4 q8
        have q8_5 := cv5 q8
        have q8_l := lt_heap q8
        have Q8 := Lib.hid q8
        clear q8
        go_wp2_with fail
        refine bodyPost_ret (v := .agg #[.int .i64 3, .string ⟨#[]⟩, .int .i64 0, .string sx, .slice Ax nx cx, .slice (some ⟨w5.heap.size, 0, none⟩) 1 1]) (by simp [results, Tryd.results70, go_sem, q8_0, q8_1, q8_2, q8_3, q8_4, q8_5, q8_l]) rfl ?_
        exact HFIN.out
      | _ => simp [Tv.isAbs] at hab
    | false =>
      have t3 : (v.tm.lab.kind == 3) = false := by cases v <;> first | rfl | simp [Tv.isAbs] at hab
      have hlf : Hid (Calls Tryd.prog 74 #[.agg #[.int .i64 v.tm.lab.kind, .string v.tm.lab.nm, .int .i64 v.tm.lab.ix, .string s9, .slice A9 n9 c9, .slice B9 m9 d9], .int .i64 1, .int .i64 0] wy fun e w' => ∃ ds, e = .returned (.agg ds.toArray) ∧ tmRep.R w' (Ex S wy w') (v.lift 1 0).tm ds ∧ Below wy.heap.size wy w') :=
        Lib.hid (lift_any v.nodes v 1 0 c.length [.int .i64 v.tm.lab.kind, .string v.tm.lab.nm, .int .i64 v.tm.lab.ix, .string s9, .slice A9 n9 c9, .slice B9 m9 d9] wy S (Nat.le_refl _) H.out.ok (by have := H.out.big; omega) (by have := H.out.big; omega) (tmRep.keep H.out.hv HKSY.out (fun _ h => h)) (fun k hk => by have := HLO.out k hk; omega))
      have HAB := Lib.hid hab
      clear hab
      have HLF := Lib.hid hlf
      clear hlf
      go_upto_region 8 with (fail)
      go_wp2_with fail
      (with_reducible refine HLF.out.out.mono ?_)
      rintro e w5 ⟨ds, rfl, hu5, hw5⟩
      obtain ⟨s5, A5, n5, c5, B5, m5, d5, rfl, _, _⟩ := Tm.shape hu5
      have z5 := hw5.size
      have p4 := (hw5.block _ p4_l).trans P4.out
      have p5 := (hw5.block _ p5_l).trans P5.out
      have p8 := (hw5.block _ p8_l).trans P8.out
      clear p4_0 p4_1 p4_2 p4_3 p4_4 p4_5 p4_l p5_0 p5_1 p5_l p8_0 p8_1 p8_2 p8_3 p8_4 p8_5 p8_f0 p8_f1 p8_f2 p8_f3 p8_f4 p8_f5 p8_l e0 e1 e2 e3
      have HU5 := Lib.hid hu5
      have HW5 := Lib.hid hw5
      clear hu5 hw5
      have p4_0 := cv0 p4
      have p4_1 := cv1 p4
      have p4_2 := cv2 p4
      have p4_3 := cv3 p4
      have p4_4 := cv4 p4
      have p4_5 := cv5 p4
      have p4_l := lt_heap p4
      have P4 := Lib.hid p4
      clear p4
      have p5_0 := cv0 p5
      have p5_1 := cv1 p5
      have p5_l := lt_heap p5
      have P5 := Lib.hid p5
      clear p5
      have p8_0 := cv0 p8
      have p8_1 := cv1 p8
      have p8_2 := cv2 p8
      have p8_3 := cv3 p8
      have p8_4 := cv4 p8
      have p8_5 := cv5 p8
      have p8_f0 := free_heap p8 0
      have p8_f1 := free_heap p8 1
      have p8_f2 := free_heap p8 2
      have p8_f3 := free_heap p8 3
      have p8_f4 := free_heap p8 4
      have p8_f5 := free_heap p8 5
      have p8_l := lt_heap p8
      have P8 := Lib.hid p8
      clear p8
      go_upto_region 9 with (fail)
      refine gen_last (fun wz => tmRep.R wz (fun k => S k ∨ (wx.heap.size ≤ k ∧ k < wz.heap.size)) (Tv.app (v.lift 1 0) (.var 0)).tm [.int .i64 4, .string ⟨#[]⟩, .int .i64 0, .string ⟨#[]⟩, .slice none 0 0, .slice (some ⟨w5.heap.size, 0, none⟩) 2 2] ∧
        wz.heap[w5.heap.size + 1]? = some (.cells #[.int .i64 4, .string ⟨#[]⟩, .int .i64 0, .string ⟨#[]⟩, .slice none 0 0, .slice (some ⟨w5.heap.size, 0, none⟩) 2 2] 27 (0, 0)) ∧ Below wy.heap.size wy wz ∧ w5.heap.size + 2 ≤ wz.heap.size) ?_ ?_
      · have hvar : ∀ (W : World) (S : Nat → Prop), tmRep.R W S (Tv.var 0).tm [.int .i64 2, .string ⟨#[]⟩, .int .i64 0, .string ⟨#[]⟩, .slice none 0 0, .slice none 0 0] := fun W S =>
          Tm.shut (a := ⟨2, bNil, ((0 : Nat) : Int), noTy⟩) (l := []) (by decide +kernel) (Ty.In.mk_ (by decide +kernel) rfl (by omega) (by omega)) Rep.Sl.nil
        refine ⟨Tm.app_lit (cs := [.int .i64 (v.lift 1 0).tm.lab.kind, .string (v.lift 1 0).tm.lab.nm, .int .i64 (v.lift 1 0).tm.lab.ix, .string s5, .slice A5 n5 c5, .slice B5 m5 d5]) ?_ (hvar _ _) (heap_old (by simp) (heap_at rfl)) (Or.inr ⟨by omega, by simp; omega⟩), heap_at (by simp), (HW5.out.alloc (by omega) _).alloc (by simp; omega) _, by simp⟩
        refine tmRep.keep HU5.out (fun k hk => ?_) (fun k hk => ?_)
        · have h' : k < w5.heap.size := by rcases hk with hk | hk; have := HLO.out k hk; omega; exact hk.2
          exact heap_old (by simp; omega) (heap_old h' rfl)
        · rcases hk with hk | hk
          · exact Or.inl hk
          · exact Or.inr ⟨by have := hk.1; omega, by have := hk.2; simp; omega⟩
      rintro wz ⟨huz, p10, hbz, zz⟩
      have p4 := (hbz.block _ (by omega)).trans ((HW5.out.block _ (by omega)).symm.trans P4.out)
      have p5 := (hbz.block _ (by omega)).trans ((HW5.out.block _ (by omega)).symm.trans P5.out)
      have p8 := (hbz.block _ (by omega)).trans ((HW5.out.block _ (by omega)).symm.trans P8.out)
      have hkSz : ∀ k, S k → wz.heap[k]? = w.heap[k]? := fun k hk => (hbz.block k (by have := HLO.out k hk; omega)).trans (HKSY.out k hk)
      have hkb := hkSz bs HSS.out
      have e0 := (cell_keep hkb os).trans K0.out
      have e1 := (cell_keep hkb (os + 1)).trans K1.out
      have e2 := (cell_keep hkb (os + 2)).trans K2.out
      have e3 := (cell_keep hkb (os + 2 + 1)).trans K3.out
      have lbz : bs < wz.heap.size := by omega
      have hroomz := (hbz.block rb (by omega)).trans HROOM.out
      have hMz : Mod rb w.heap.size w wz := HMY.out.thenBelow (hbz.mono (by omega))
      have hcz : Ctx wz (fun k => S k ∨ (wx.heap.size ≤ k ∧ k < wz.heap.size)) u9 (a :: c) := HCX.out.keep (fun k hk => by
        rcases hk with hk | hk
        · exact hbz.block k (by have := HLO.out k hk; omega)
        · exact hbz.block k hk.2) (fun k hk => hk.imp_right (fun h => ⟨h.1, by omega⟩))
      clear hkb p4_0 p4_1 p4_2 p4_3 p4_4 p4_5 p4_l p5_0 p5_1 p5_l p8_0 p8_1 p8_2 p8_3 p8_4 p8_5 p8_f0 p8_f1 p8_f2 p8_f3 p8_f4 p8_f5 p8_l
      have hih := Lib.hid (HIH.out (.app (v.lift 1 0) (.var 0)) b (a :: c) (r - 1) rb _ (.string sy) (.slice Ay ny cy) u9 wz.drew (fun k => S k ∨ (wx.heap.size ≤ k ∧ k < wz.heap.size))
        (ExpPre.drew ⟨by have := HFU.out; omega, by omega, by have := H.out.big; rw [Tv.eta_nodes]; simp only [List.length_cons] at this ⊢; omega, Tv.step_eta H.out.norm HAB.out, Tv.typ_eta H.out.typ, ⟨Tv.ok_lift v 1 0 c.length H.out.ok (by omega), by show 0 < (a :: c).length; simp⟩, huz, (HIB.out.keep hkSz).mono (fun k hk => Or.inl hk), hcz, hroomz, by rintro (h | h); exact H.out.out h; omega, fun k hk => by rcases hk with hk | hk; have := HLO.out k hk; exact (show k < wz.heap.size by omega); exact hk.2, by have := H.out.fu; omega⟩))
      have hres := Tv.expand_eta n v a b c r (by omega) HAB.out
      have HIH := Lib.hid hih
      have HRES := Lib.hid hres
      have HUZ := Lib.hid huz
      have HBZ := Lib.hid hbz
      have HKSZ := Lib.hid hkSz
      have HROOMZ := Lib.hid hroomz
      have HMZ := Lib.hid hMz
      have HCZ := Lib.hid hcz
      clear hih hres huz hbz hkSz hroomz hMz hcz
      have p4_0 := cv0 p4
      have p4_1 := cv1 p4
      have p4_2 := cv2 p4
      have p4_3 := cv3 p4
      have p4_4 := cv4 p4
      have p4_5 := cv5 p4
      have p4_l := lt_heap p4
      have P4 := Lib.hid p4
      clear p4
      have p5_0 := cv0 p5
      have p5_1 := cv1 p5
      have p5_l := lt_heap p5
      have P5 := Lib.hid p5
      clear p5
      have p8_0 := cv0 p8
      have p8_1 := cv1 p8
      have p8_2 := cv2 p8
      have p8_3 := cv3 p8
      have p8_4 := cv4 p8
      have p8_5 := cv5 p8
      have p8_f0 := free_heap p8 0
      have p8_f1 := free_heap p8 1
      have p8_f2 := free_heap p8 2
      have p8_f3 := free_heap p8 3
      have p8_f4 := free_heap p8 4
      have p8_f5 := free_heap p8 5
      have p8_l := lt_heap p8
      have P8 := Lib.hid p8
      clear p8
      have p10_0 := cv0 p10
      have p10_1 := cv1 p10
      have p10_2 := cv2 p10
      have p10_3 := cv3 p10
      have p10_4 := cv4 p10
      have p10_5 := cv5 p10
      have p10_l := lt_heap p10
      have P10 := Lib.hid p10
      clear p10
      go_wp2_with fail
      go_region_held3 (fun w' => w'.cell? ⟨w.heap.size + 1, 1, none⟩ = some (.slice (some ⟨bs, os, none⟩) 2 ct) ∧ w'.cell? ⟨bs, os, none⟩ = some (.string sx) ∧ w'.cell? ⟨bs, os + 1, none⟩ = some (.slice Ax nx cx) ∧ w'.cell? ⟨bs, os + 2, none⟩ = some (.string sy) ∧ w'.cell? ⟨bs, os + 2 + 1, none⟩ = some (.slice Ay ny cy) ∧
          w'.cell? ⟨w5.heap.size + 1, 0, none⟩ = some (.int .i64 4) ∧ w'.cell? ⟨w5.heap.size + 1, 1, none⟩ = some (.string ⟨#[]⟩) ∧ w'.cell? ⟨w5.heap.size + 1, 2, none⟩ = some (.int .i64 0) ∧ w'.cell? ⟨w5.heap.size + 1, 3, none⟩ = some (.string ⟨#[]⟩) ∧ w'.cell? ⟨w5.heap.size + 1, 4, none⟩ = some (.slice none 0 0) ∧ w'.cell? ⟨w5.heap.size + 1, 5, none⟩ = some (.slice (some ⟨w5.heap.size, 0, none⟩) 2 2))
        ((first
          | (go_split_ands; (repeat' apply And.intro) <;> (with_reducible refine (cell_keep (heap_old (lt6 (by omega)) (far6 (by omega) rfl)) _).trans ((kc _ _ (by omega) (by omega)).trans ?_)) <;> assumption)
          | (go_split_ands; (repeat' apply And.intro) <;> (with_reducible refine (cell_keep (heap_old (by omega) rfl) _).trans ((kc _ _ (by omega) (by omega)).trans ?_)) <;> assumption)
          | (go_split_ands; (repeat' apply And.intro) <;> (with_reducible refine (kc _ _ (by omega) (by omega)).trans ?_) <;> assumption)
          | (go_keep; done)))
        (((with_reducible refine HIH.out.out.mono ?_); rintro e w6 ⟨ds, rfl, hu6, hroom6, hM6⟩; obtain ⟨s6, A6, n6, c6, B6, m6, d6, rfl, _, _⟩ := Tm.shape hu6; have kc : ∀ k q, k < wz.heap.size → k ≠ rb → w6.cell? ⟨k, q, none⟩ = wz.cell? ⟨k, q, none⟩ := (fun k q h1 h2 => cell_keep (hM6.block k h1 h2) q); have z6 : wz.heap.size ≤ w6.heap.size := hM6.size; have k8 := (hM6.block _ p8_l (by omega)).trans P8.out; have k8_0 := cv0 k8; have k8_1 := cv1 k8; have k8_2 := cv2 k8; have k8_3 := cv3 k8; have k8_4 := cv4 k8; have k8_5 := cv5 k8; have k8_f0 := free_heap k8 0; have k8_f1 := free_heap k8 1; have k8_f2 := free_heap k8 2; have k8_f3 := free_heap k8 3; have k8_f4 := free_heap k8 4; have k8_f5 := free_heap k8 5; have k8_l := lt_heap k8; have K8 := Lib.hid k8; have HU6 := Lib.hid hu6; have HROOM6 := Lib.hid hroom6; have HM6 := Lib.hid hM6; clear hu6 hroom6 hM6 k8))
      refine gen_last (fun wq => wq.heap[w.heap.size + 1 + 1]? = some (.cells #[.int .i64 3, .string ⟨#[]⟩, .int .i64 0, .string sx, .slice Ax nx cx, .slice (some ⟨w6.heap.size, 0, none⟩) 1 1] 27 (0, 0)) ∧ wq.heap[w6.heap.size]? = some (.cells #[.int .i64 (Tv.expand n (.app (v.lift 1 0) (.var 0)) b (a :: c) (r - 1)).1.tm.lab.kind, .string (Tv.expand n (.app (v.lift 1 0) (.var 0)) b (a :: c) (r - 1)).1.tm.lab.nm, .int .i64 (Tv.expand n (.app (v.lift 1 0) (.var 0)) b (a :: c) (r - 1)).1.tm.lab.ix, .string s6, .slice A6 n6 c6, .slice B6 m6 d6] 27 (0, 0)) ∧ w6.heap.size + 1 ≤ wq.heap.size ∧ (∀ k, k < w6.heap.size → k ≠ w.heap.size + 1 + 1 → wq.heap[k]? = w6.heap[k]?) ∧ Mod rb w.heap.size w wq) ?_ ?_
      · refine ⟨?_, ?_, ?_, fun k h1 h2 => ?_, ?_⟩
        · exact heap_old (lt6 k8_l) (at6 K8.out)
        · exact heap_at size6.symm
        · rw [World.size_alloc]; exact Nat.succ_le_succ (le6 (Nat.le_refl _))
        · exact heap_old (lt6 h1) (far6 h2 rfl)
        · exact (mod6 (HMZ.out.trans ((Mod.refl.drew).trans (HM6.out.mono (show w.heap.size ≤ wz.heap.size by omega)))) (by omega)).alloc (le6 (by omega)) _
      rintro wq ⟨q8, q9, zq, hkz, hMq⟩
      have hfin : ExpAt (n + 1) v (.fn a b) c r rb w S (.returned (.agg #[.int .i64 3, .string ⟨#[]⟩, .int .i64 0, .string sx, .slice Ax nx cx, .slice (some ⟨w6.heap.size, 0, none⟩) 1 1])) wq := by
        unfold ExpAt
        rw [HRES.out]
        have hlo : ∀ k, S k → k < w.heap.size := HLO.out
        refine ⟨_, rfl, Tm.abs_lit (cs := [.int .i64 (Tv.expand n (.app (v.lift 1 0) (.var 0)) b (a :: c) (r - 1)).1.tm.lab.kind, .string (Tv.expand n (.app (v.lift 1 0) (.var 0)) b (a :: c) (r - 1)).1.tm.lab.nm, .int .i64 (Tv.expand n (.app (v.lift 1 0) (.var 0)) b (a :: c) (r - 1)).1.tm.lab.ix, .string s6, .slice A6 n6 c6, .slice B6 m6 d6]) ?_ ?_ q9 (Or.inr ⟨by omega, by omega⟩), ?_, hMq⟩
        · exact Ty.In_keep (fun k hk => hMq.block k (hlo k hk) (fun e => H.out.out (e ▸ hk))) (fun k hk => Or.inl hk) _ _ _ HIA.out
        · refine tmRep.keep HU6.out (fun k hk => ?_) (fun k hk => ?_)
          · rcases hk with (hk | hk) | hk
            · have := hlo k hk; exact hkz k (by omega) (by omega)
            · exact hkz k (by omega) (by omega)
            · exact hkz k (by omega) (by have h' : wz.heap.size ≤ k := hk.1; omega)
          · rcases hk with (hk | hk) | hk
            · exact Or.inl hk
            · exact Or.inr ⟨by omega, by omega⟩
            · have h' : wz.heap.size ≤ k := hk.1
              exact Or.inr ⟨by omega, by omega⟩
        · exact (hkz rb (by omega) (by omega)).trans HROOM6.out
      clear k8_0 k8_1 k8_2 k8_3 k8_4 k8_5 k8_f0 k8_f1 k8_f2 k8_f3 k8_f4 k8_f5 k8_l p8_0 p8_1 p8_2 p8_3 p8_4 p8_5 p8_f0 p8_f1 p8_f2 p8_f3 p8_f4 p8_f5 kc
      have HFIN := Lib.hid hfin
      have HKZ := Lib.hid hkz
      have HMQ := Lib.hid hMq
      have Q9 := Lib.hid q9
      clear hfin hkz hMq q9
      have q8_0 := cv0 q8
      have q8_1 := cv1 q8
      have q8_2 := cv2 q8
      have q8_3 := cv3 q8
      have q8_4 := cv4 q8
      have q8_5 := cv5 q8
      have q8_l := lt_heap q8
      have Q8 := Lib.hid q8
      clear q8
      go_wp2_with fail
      refine bodyPost_ret (v := .agg #[.int .i64 3, .string ⟨#[]⟩, .int .i64 0, .string sx, .slice Ax nx cx, .slice (some ⟨w6.heap.size, 0, none⟩) 1 1]) (by simp [results, Tryd.results70, go_sem, q8_0, q8_1, q8_2, q8_3, q8_4, q8_5, q8_l]) rfl ?_
      exact HFIN.out

end Go.Proofs.YthflahcnkhmpaabDoor
