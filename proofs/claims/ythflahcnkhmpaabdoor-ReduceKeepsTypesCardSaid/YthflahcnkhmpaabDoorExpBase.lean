/-
  reduce.expand of a term of a base type: the walk; and reduce.expand as a whole.
-/
import Derived.Test.YthflahcnkhmpaabDoorProg
import Derived.Test.YthflahcnkhmpaabDoorExpand
import Derived.Test.YthflahcnkhmpaabDoorOwnSet
import Derived.Deep.DeepCutAuto
namespace Go.Proofs.YthflahcnkhmpaabDoor
open Go Go.RowKit
set_option linter.unusedSimpArgs false
set_option linter.unusedVariables false

theorem infoTermB : (Tryd.prog.info? 27).map (fun i => (i.zero, i.size, i.bytes)) = some (some (.agg #[.int .i64 0, .string ⟨#[]⟩, .int .i64 0, .string ⟨#[]⟩, .slice none 0 0, .slice none 0 0]), 6, 96) := by kernel_rfl
theorem Tv.head_nonapp : ∀ v : Tv, (v.tm.lab.kind == 4) = false → v.head = v ∧ v.rargs = []
  | .con _ _, _ => ⟨rfl, rfl⟩
  | .var _, _ => ⟨rfl, rfl⟩
  | .abs _ _, _ => ⟨rfl, rfl⟩
  | .app _ _, h => by simp [Tv.tm, Tree.lab] at h
theorem Tv.xargs_nil (F : Tv → Sy → Int → Tv × Int) (h : Sy) (r : Int) (acc : Tv) : Tv.xargs F [] h r acc = (acc, r) := by cases h <;> rfl
theorem Tv.head_nodes : ∀ v : Tv, v.head.nodes ≤ v.nodes
  | .con _ _ => Nat.le_refl _
  | .var _ => Nat.le_refl _
  | .abs _ _ => Nat.le_refl _
  | .app f x => by have := Tv.head_nodes f; simp only [Tv.head, Tv.nodes]; omega
theorem Tv.depth_le_nodes (v : Tv) : v.depth ≤ v.nodes := by
  induction v with
  | con _ _ => simp [Tv.depth, Tv.nodes]
  | var _ => simp [Tv.depth, Tv.nodes]
  | abs _ _ ih => simp [Tv.depth, Tv.nodes, ih]
  | app f x ih1 ih2 => simp only [Tv.depth, Tv.nodes]; omega
theorem Tv.head_ok : ∀ (v : Tv) (bd : Nat), v.ok bd → v.head.ok bd
  | .con _ _, _, h => h
  | .var _, _, h => h
  | .abs _ _, _, h => h
  | .app f x, bd, h => Tv.head_ok f bd h.1
theorem Tv.rargs_ok : ∀ (v : Tv) (bd : Nat), v.ok bd → ∀ x ∈ v.rargs, x.ok bd
  | .con _ _, _, _, x, hx => by simp [Tv.rargs] at hx
  | .var _, _, _, x, hx => by simp [Tv.rargs] at hx
  | .abs _ _, _, _, x, hx => by simp [Tv.rargs] at hx
  | .app f y, bd, h, x, hx => by
    simp only [Tv.rargs, List.mem_cons] at hx
    rcases hx with rfl | hx
    · exact h.2
    · exact Tv.rargs_ok f bd h.1 x hx

set_option maxRecDepth 100000 in
set_option maxHeartbeats 4000000 in
theorem expand_base_any (n : Nat) (IH : ExpIH n) (v : Tv) (s : Sy) (c : List Sy) (r : Int) (rb : Nat) (cs : List Value) (s0 s1 u : Value) (w : World) (S : Nat → Prop) (h : ExpPre (n + 1) v s c r rb cs s0 s1 u w S) (hr : 0 ≤ r) (hs : s.isFn = false) :
    Calls Tryd.prog 70 #[.agg cs.toArray, .agg #[s0, s1], u, .pointer (some ⟨rb, 0, none⟩)] w (ExpAt (n + 1) v s c r rb w S) := by
  obtain ⟨s9, A9, n9, c9, B9, m9, d9, rfl, _, _⟩ := Tm.shape h.hv
  obtain ⟨st, At, nt, ct, rfl, rfl⟩ := h.hs.shape
  have hnt : nt = 0 := by
    cases s with
    | fn a b => simp [Sy.isFn] at hs
    | e => obtain ⟨_, _, _, e⟩ := Sy.In_e h.hs; simp at e; exact e.2.1
    | t => obtain ⟨_, _, _, e⟩ := Sy.In_t h.hs; simp at e; exact e.2.1
  subst hnt
  obtain ⟨_, Ac, nc, kcp, rfl, hnk, hnone⟩ := id h.hc
  have hroom := h.room
  have l1 := lt_heap hroom
  have l2 : rb < w.heap.size + 1 := by omega
  have l3 : rb < w.heap.size + 1 + 1 := by omega
  have hlo := h.lo
  have hbig := h.big
  have hfu := h.fu
  obtain ⟨g, hg1, hg2⟩ := Tv.spine_typ v c s h.typ
  have hab : v.isAbs = false := by
    cases v with
    | abs a b => obtain ⟨r, e, _⟩ := Tv.typ_abs h.typ; rw [e] at hs; simp [Sy.isFn] at hs
    | _ => rfl
  have hrl := v.rargs_len
  have hres := Tv.expand_base n v s c r (by omega) hs
  rw [hg1] at hres
  simp only [Option.getD_some] at hres
  have hru : r ≤ 1000000 := by have := h.fuel; omega
  obtain ⟨i0, hi0, hz0, hz1, hz2⟩ := info_parts infoTermB
  have HIH := Lib.hid IH
  have H := Lib.hid h
  clear IH h
  have HLO := Lib.hid hlo
  have HG1 := Lib.hid hg1
  have HG2 := Lib.hid hg2
  have HAB := Lib.hid hab
  have HRES := Lib.hid hres
  have HRL := Lib.hid hrl
  clear hlo hg1 hg2 hab hres hrl
  have hroom_0 := cv0 hroom
  have hroom_l := lt_heap hroom
  have HROOM := Lib.hid hroom
  clear hroom
  go_enter Tryd.func70, Tryd.ntmps70
  go_wp2_with fail
  go_loopg [11] v.nodes (fun m v11 wr => ∃ (v' : Tv) (L : List Tv) (s' : ByteArray) (A' : Option Addr) (n' c' : Nat) (B' : Option Addr) (m' d' : Nat), v'.nodes ≤ m ∧ v'.nodes + L.length ≤ v.nodes ∧ v.rargs = L ++ v'.rargs ∧ v.head = v'.head ∧
    wr.heap[w.heap.size]? = some (.cells #[.int .i64 v'.tm.lab.kind, .string v'.tm.lab.nm, .int .i64 v'.tm.lab.ix, .string s', .slice A' n' c', .slice B' m' d'] 27 (0, 0)) ∧
    tmRep.R wr S v'.tm [.int .i64 v'.tm.lab.kind, .string v'.tm.lab.nm, .int .i64 v'.tm.lab.ix, .string s', .slice A' n' c', .slice B' m' d'] ∧
    wr.heap[w.heap.size + 1 + 1]? = some (.cells #[.int .i64 0, .string ⟨#[]⟩, .int .i64 0, .string ⟨#[]⟩, .slice none 0 0, .slice none 0 0] 27 (0, 0)) ∧
    tmRep.Own 27 (w.heap.size + 3) wr S v11 (L.map Tv.tm) ∧ Below w.heap.size w wr ∧ w.heap.size + 3 ≤ wr.heap.size)
  case atStart =>
    refine ⟨v, [], s9, A9, n9, c9, B9, m9, d9, Nat.le_refl _, by simp, by simp, rfl, heap_old (by simp; omega) (heap_old (by simp) (heap_at rfl)), tmRep.keep H.out.hv (fun k hk => ?_) (fun _ h => h), heap_at (by simp), Rep.Own.nil, by go_grown, by simp⟩
    have := HLO.out k hk
    exact heap_old (by simp; omega) (heap_old (by simp; omega) (heap_old this rfl))
  case round =>
    obtain ⟨v', L, s', A', n', c', B', m', d', hm, hvl, hra, hhd, p0, hv', p2, hown, hb, hsz⟩ := hrel
    cases hk4 : (v'.tm.lab.kind == 4) with
    | true =>
      cases v' with
      | con _ _ => simp [Tv.tm, Tree.lab] at hk4
      | var _ => simp [Tv.tm, Tree.lab] at hk4
      | abs _ _ => simp [Tv.tm, Tree.lab] at hk4
      | app f x =>
        obtain ⟨_, _, vv, e9, _, _, hl9⟩ := Tm.open_ (a := ⟨4, bNil, 0, noTy⟩) (l := [f.tm, x.tm]) hv'
        simp only [List.cons.injEq, and_true] at e9
        obtain ⟨_, _, _, _, _, e9⟩ := e9
        subst e9
        obtain ⟨Aa, ma, ca, e9, hl9', hm9, hA9⟩ := hl9
        simp only [Value.slice.injEq] at e9
        obtain ⟨rfl, rfl, rfl⟩ := e9
        simp only [List.length_cons, List.length_nil] at hl9'
        subst hl9'
        obtain ⟨b, o, kc1, rfl, hSb, hkr1, hkc1⟩ := Tm.kid (l := [f.tm, x.tm]) (c := d') (k := 0) ⟨_, _, _, rfl, rfl, hm9, hA9⟩ rfl
        obtain ⟨b', o', kc2, hbo, _, hkr2, hkc2⟩ := Tm.kid (l := [f.tm, x.tm]) (c := d') (k := 1) ⟨_, _, _, rfl, rfl, hm9, hA9⟩ rfl
        obtain ⟨rfl, rfl⟩ : b = b' ∧ o = o' := by simpa using hbo
        obtain ⟨s1, A1, n1, c1, B1, m1, d1, rfl, _, _⟩ := Tm.shape hkr1
        obtain ⟨s2, A2, n2, c2, B2, m2, d2, rfl, _, _⟩ := Tm.shape hkr2
        have hkc1' : ∀ (j : Nat) (u : Value), _ → wr.cell? ⟨b, o + j, none⟩ = some u := fun j u hj => by simpa using hkc1 j u hj
        have hkc2' : ∀ (j : Nat) (u : Value), _ → wr.cell? ⟨b, o + 6 + j, none⟩ = some u := fun j u hj => by simpa using hkc2 j u hj
        have f0 : wr.cell? ⟨b, o, none⟩ = _ := hkc1' 0 _ rfl
        have f1 : wr.cell? ⟨b, o + 1, none⟩ = _ := hkc1' 1 _ rfl
        have f2 : wr.cell? ⟨b, o + 2, none⟩ = _ := hkc1' 2 _ rfl
        have f3 : wr.cell? ⟨b, o + 3, none⟩ = _ := hkc1' 3 _ rfl
        have f4 : wr.cell? ⟨b, o + 4, none⟩ = _ := hkc1' 4 _ rfl
        have f5 : wr.cell? ⟨b, o + 5, none⟩ = _ := hkc1' 5 _ rfl
        have e0 : wr.cell? ⟨b, o + 6, none⟩ = _ := hkc2' 0 _ rfl
        have e1 : wr.cell? ⟨b, o + 6 + 1, none⟩ = _ := hkc2' 1 _ rfl
        have e2 : wr.cell? ⟨b, o + 6 + 2, none⟩ = _ := hkc2' 2 _ rfl
        have e3 : wr.cell? ⟨b, o + 6 + 3, none⟩ = _ := hkc2' 3 _ rfl
        have e4 : wr.cell? ⟨b, o + 6 + 4, none⟩ = _ := hkc2' 4 _ rfl
        have e5 : wr.cell? ⟨b, o + 6 + 5, none⟩ = _ := hkc2' 5 _ rfl
        have lb := HLO.out b hSb
        have lbr : b < wr.heap.size := by omega
        obtain ⟨Aq, cq, hq⟩ := hown.len
        rw [List.length_map] at hq
        subst hq
        have hblk := hown.block
        obtain ⟨xs, hrow, hall⟩ := id hown
        rw [List.length_map] at hrow
        have hvn := v.nodes_pos
        simp only [Tv.nodes] at hm hvl
        have hSr : ∀ k, S k → k < wr.heap.size := fun k hk => by have := HLO.out k hk; omega
        clear hkc1 hkc1' hkc2 hkc2' hA9 hm9 hbo hk4
        have HVP := Lib.hid hv'
        have HOWN := Lib.hid hown
        have HB := Lib.hid hb
        have HKR1 := Lib.hid hkr1
        have HKR2 := Lib.hid hkr2
        have HBLK := Lib.hid hblk
        have HROW := Lib.hid hrow
        have HALL := Lib.hid hall
        have HRA := Lib.hid hra
        have HHD := Lib.hid hhd
        have HSR := Lib.hid hSr
        clear hv' hown hb hkr1 hkr2 hblk hrow hall hra hhd hSr
        have p0_0 := cv0 p0
        have p0_1 := cv1 p0
        have p0_2 := cv2 p0
        have p0_3 := cv3 p0
        have p0_4 := cv4 p0
        have p0_5 := cv5 p0
        have p0_f0 := free_heap p0 0
        have p0_f1 := free_heap p0 1
        have p0_f2 := free_heap p0 2
        have p0_f3 := free_heap p0 3
        have p0_f4 := free_heap p0 4
        have p0_f5 := free_heap p0 5
        have p0_l := lt_heap p0
        have P0 := Lib.hid p0
        clear p0
        have p2_0 := cv0 p2
        have p2_1 := cv1 p2
        have p2_2 := cv2 p2
        have p2_3 := cv3 p2
        have p2_4 := cv4 p2
        have p2_5 := cv5 p2
        have p2_l := lt_heap p2
        have P2 := Lib.hid p2
        clear p2
        go_wp2_with (at_builtin; refine wpList_append_lies _ ?h1 (.tmp 84) (.tmp 89) 25 ?h2 (w.heap.size + 3) 27 i0 _ 6 96 ?h3 hi0 hz0 hz1 hz2 ?h4 ?h5 (.slice Aq L.length cq) L.length xs ?h6 ?h7 ⟨wr.heap.size, 0, none⟩ 1 1 [.int .i64 x.tm.lab.kind, .string x.tm.lab.nm, .int .i64 x.tm.lab.ix, .string s2, .slice A2 n2 c2, .slice B2 m2 d2] ?h8 ?h9 ?h10 ?h11 ?h12 ?h13 ?h14 ?h15 (wr.heap.size + 1) ?h16 ?_)
        all_goals try (case h1 => rfl)
        all_goals try (case h2 => rfl)
        all_goals try (case h3 => exact Tryd.underlying25)
        all_goals try (case h4 => rfl)
        all_goals try (case h5 => omega)
        all_goals try (case h6 => rfl)
        all_goals try (case h7 => exact HROW.out.alloc _)
        all_goals try (case h8 => rfl)
        all_goals try (case h9 => rfl)
        all_goals try (case h10 => exact World.news_of_block (cs := #[.int .i64 x.tm.lab.kind, .string x.tm.lab.nm, .int .i64 x.tm.lab.ix, .string s2, .slice A2 n2 c2, .slice B2 m2 d2]) (t := 27) (fr := (0, 0)) (heap_at (by simp)))
        all_goals try (case h11 => simp [Value.oneCell'])
        all_goals try (case h12 => omega)
        all_goals try (case h13 => first | (simp [maxLen]; omega) | (unfold maxLen; omega))
        all_goals try (case h14 => omega)
        all_goals try (case h15 => first | omega | (simp; omega))
        all_goals try (case h16 => first | simp | omega)
        intro gg cap w3 hown3 hgrow hat hlt
        have z3 : wr.heap.size + 1 ≤ w3.heap.size := by have := hgrow.size; simpa using this
        have hk3 : ∀ k, k < wr.heap.size → (Value.slice Aq L.length cq).ownBlock ≠ some k → w3.heap[k]? = wr.heap[k]? := fun k h1 h2 => (hgrow.block k (by simp; omega) (fun e => h2 e.symm)).trans (heap_old h1 rfl)
        have hlow3 : ∀ k, k < w.heap.size + 3 → w3.heap[k]? = wr.heap[k]? := fun k hk => hk3 k (by omega) (fun e => by have := (HBLK.out k e).1; omega)
        have p0 := (hlow3 _ (by omega)).trans P0.out
        have p2 := (hlow3 _ (by omega)).trans P2.out
        have hkb := hlow3 b (by omega)
        have f0 := (cell_keep hkb _).trans f0
        have f1 := (cell_keep hkb _).trans f1
        have f2 := (cell_keep hkb _).trans f2
        have f3 := (cell_keep hkb _).trans f3
        have f4 := (cell_keep hkb _).trans f4
        have f5 := (cell_keep hkb _).trans f5
        have lb3 : b < w3.heap.size := by omega
        clear p0_0 p0_1 p0_2 p0_3 p0_4 p0_5 p0_f0 p0_f1 p0_f2 p0_f3 p0_f4 p0_f5 p0_l p2_0 p2_1 p2_2 p2_3 p2_4 p2_5 p2_l e0 e1 e2 e3 e4 e5
        have HOWN3 := Lib.hid hown3
        have HGROW := Lib.hid hgrow
        have HAT := Lib.hid hat
        have HK3 := Lib.hid hk3
        have HLOW3 := Lib.hid hlow3
        have HKB := Lib.hid hkb
        clear hown3 hgrow hat hk3 hlow3 hkb
        have p0_0 := cv0 p0
        have p0_1 := cv1 p0
        have p0_2 := cv2 p0
        have p0_3 := cv3 p0
        have p0_4 := cv4 p0
        have p0_5 := cv5 p0
        have p0_f0 := free_heap p0 0
        have p0_f1 := free_heap p0 1
        have p0_f2 := free_heap p0 2
        have p0_f3 := free_heap p0 3
        have p0_f4 := free_heap p0 4
        have p0_f5 := free_heap p0 5
        have p0_l := lt_heap p0
        have P0 := Lib.hid p0
        clear p0
        have p2_0 := cv0 p2
        have p2_1 := cv1 p2
        have p2_2 := cv2 p2
        have p2_3 := cv3 p2
        have p2_4 := cv4 p2
        have p2_5 := cv5 p2
        have p2_l := lt_heap p2
        have P2 := Lib.hid p2
        clear p2
        go_wp2_with fail
        go_roundg f.nodes
        case measure => omega
        case rel =>
          have hS3 : ∀ k, S k → w3.heap[k]? = wr.heap[k]? := fun k hk => HLOW3.out k (by have := HLO.out k hk; omega)
          have hap := Rep.appended1 (ρ := tmRep) (w := wr.alloc (.cells #[.int .i64 x.tm.lab.kind, .string x.tm.lab.nm, .int .i64 x.tm.lab.ix, .string s2, .slice A2 n2 c2, .slice B2 m2 d2] 27)) (H := wr.heap.size + 1) (l := L.map Tv.tm) (a := x.tm) (S := S) (T := S)
            (HALL.out.keep (fun k hk => heap_old (HSR.out k hk.1) rfl) (fun _ h => h)) (tmRep.keep HKR2.out (fun k hk => heap_old (HSR.out k hk) rfl) (fun _ h => h))
            (fun k hk => ⟨hk, fun e => by have := HBLK.out _ e; have := HLO.out k hk; omega⟩) (fun k hk => by have := HSR.out k hk; simp; omega) (by rw [List.length_map]; exact HOWN3.out) HGROW.out HAT.out (by simp)
          rw [List.length_map] at hap
          have hb3 : Below w.heap.size w w3 := (HB.out.alloc (by omega) _).grown HGROW.out (by simp; omega) (fun k hk => by have := HBLK.out k hk; omega)
          have hne : w.heap.size ≠ gg := by
            rcases HAT.out with h | h
            · have := HBLK.out gg h; omega
            · omega
          refine ⟨f, L ++ [x], s1, A1, n1, c1, B1, m1, d1, Nat.le_refl _, by simp; omega, by rw [HRA.out]; simp [Tv.rargs], by rw [HHD.out]; rfl, at6 P0.out, tmRep.keep HKR1.out (fun k hk => far6 (by have := HLO.out k hk; omega) (hS3 k hk)) (fun _ h => h), far6 (by omega) P2.out, ?_, below6 hb3 (by omega), le6 (by omega)⟩
          rw [List.map_append]
          exact hap.keepG (fun k e => far6 (by simp only [Value.ownBlock, Option.some.injEq] at e; omega) rfl) (fun k hk => far6 (by have := HLO.out k hk; omega) rfl)
    | false =>
      obtain ⟨hv1, hv2⟩ := Tv.head_nonapp v' hk4
      rw [hv1] at hhd
      rw [hv2, List.append_nil] at hra
      subst hhd hra
      have hn' := v.head_nodes
      have hgt := HG1.out
      obtain ⟨Aq, cq, hq⟩ := hown.len
      rw [List.length_map] at hq
      subst hq
      have hroomr := (hb.block rb l1).trans HROOM.out
      clear hv1 hv2 hm
      have HVP := Lib.hid hv'
      have HOWN := Lib.hid hown
      have HB := Lib.hid hb
      clear hv' hown hb
      have hroomr_0 := cv0 hroomr
      have hroomr_f0 := free_heap hroomr 0
      have hroomr_l := lt_heap hroomr
      have HROOMR := Lib.hid hroomr
      clear hroomr
      have p0_0 := cv0 p0
      have p0_1 := cv1 p0
      have p0_2 := cv2 p0
      have p0_3 := cv3 p0
      have p0_4 := cv4 p0
      have p0_5 := cv5 p0
      have p0_l := lt_heap p0
      have P0 := Lib.hid p0
      clear p0
      have p2_0 := cv0 p2
      have p2_1 := cv1 p2
      have p2_2 := cv2 p2
      have p2_3 := cv3 p2
      have p2_4 := cv4 p2
      have p2_5 := cv5 p2
      have p2_l := lt_heap p2
      have P2 := Lib.hid p2
      clear p2
      go_upto_region 15 with (fail)
      refine gen_last (fun wa => (∀ k, k ≠ rb → wa.heap[k]? = wr.heap[k]?) ∧ wa.heap[rb]? = some (.cells #[.int .i64 (r - 1)] 3 (0, 0)) ∧ wa.heap.size = wr.heap.size ∧ Mod rb w.heap.size w wa) ?_ ?_
      · exact ⟨fun k hk => heap_far _ hk rfl, heap_set HROOMR.out 0 (.int .i64 (r - 1)), size_set _ _ _, (Mod.below HB.out).setRow _⟩
      rintro wa ⟨hka, hra, zwa, hMa⟩
      have HRA_ := Lib.hid hra
      have hSa : ∀ k, S k → wa.heap[k]? = wr.heap[k]? := fun k hk => hka k (fun e => H.out.out (e ▸ hk))
      have hSwa : ∀ k, S k → wa.heap[k]? = w.heap[k]? := fun k hk => (hSa k hk).trans (HB.out.block k (HLO.out k hk))
      have p0 := (hka _ (by omega)).trans P0.out
      have p2 := (hka _ (by omega)).trans P2.out
      have hty := Lib.hid (typed_any v.head c [.int .i64 v.head.tm.lab.kind, .string v.head.tm.lab.nm, .int .i64 v.head.tm.lab.ix, .string s', .slice A' n' c', .slice B' m' d'] (.slice Ac nc kcp) wa S (Tv.head_ok v _ H.out.ok) (by have := v.head.depth_le_nodes; omega) (tmRep.keep HVP.out hSa (fun _ h => h)) (H.out.hc.keep hSwa (fun _ h => h)) (fun k hk => by have := HLO.out k hk; omega))
      clear hroomr_0 hroomr_f0 hroomr_l p0_0 p0_1 p0_2 p0_3 p0_4 p0_5 p0_l p2_0 p2_1 p2_2 p2_3 p2_4 p2_5 p2_l
      clear hra
      have HKA := Lib.hid hka
      have HMA := Lib.hid hMa
      have HSA := Lib.hid hSa
      have HSWA := Lib.hid hSwa
      have HTY := Lib.hid hty
      clear hka hMa hSa hSwa hty
      have p0_0 := cv0 p0
      have p0_1 := cv1 p0
      have p0_2 := cv2 p0
      have p0_3 := cv3 p0
      have p0_4 := cv4 p0
      have p0_5 := cv5 p0
      have p0_l := lt_heap p0
      have P0 := Lib.hid p0
      clear p0
      have p2_0 := cv0 p2
      have p2_1 := cv1 p2
      have p2_2 := cv2 p2
      have p2_3 := cv3 p2
      have p2_4 := cv4 p2
      have p2_5 := cv5 p2
      have p2_l := lt_heap p2
      have P2 := Lib.hid p2
      clear p2
      go_wp2_with fail
      (with_reducible refine HTY.out.out.mono ?_)
      rintro e w5 ⟨⟨v0, v1, ok, T, rfl, hT, hrr⟩, hw5⟩
      rw [hgt] at hrr
      obtain ⟨rfl, rfl⟩ := hrr
      obtain ⟨sg, Ag, ng, cg, rfl, rfl⟩ := hT.shape
      have z5 := hw5.size
      have p0 := (hw5.block _ p0_l).trans P0.out
      have p2 := (hw5.block _ p2_l).trans P2.out
      clear p0_0 p0_1 p0_2 p0_3 p0_4 p0_5 p0_l p2_0 p2_1 p2_2 p2_3 p2_4 p2_5 p2_l
      have HW5 := Lib.hid hw5
      have HT := Lib.hid hT
      have P0 := Lib.hid p0
      have P2 := Lib.hid p2
      clear hw5 hT p0 p2
      go_wp2_with fail
      go_loopg [14] v.rargs.length (fun m v14 wz => v14 = .int .i64 ((m : Int) - 1) ∧ m ≤ v.rargs.length ∧ ∃ (acc : Tv) (h : Sy) (r' : Int) (s' : ByteArray) (A' : Option Addr) (n' c' : Nat) (B' : Option Addr) (m' d' : Nat) (sh : ByteArray) (Ah : Option Addr) (nh ch : Nat),
        Tv.xargs (fun x a r => Tv.expand n x a c r) (v.rargs.take m).reverse h r' acc = Tv.xargs (fun x a r => Tv.expand n x a c r) v.rargs.reverse g (r - 1) v.head ∧ Fit c (v.rargs.take m).reverse h s ∧ r' ≤ r - 1 ∧ -((n * 100000 : Nat) : Int) - 1 - ((v.rargs.length - m : Nat) : Int) ≤ r' ∧
        wz.heap[w.heap.size]? = some (.cells #[.int .i64 acc.tm.lab.kind, .string acc.tm.lab.nm, .int .i64 acc.tm.lab.ix, .string s', .slice A' n' c', .slice B' m' d'] 27 (0, 0)) ∧
        tmRep.R wz (fun b => New S wa.heap.size wz b ∧ b ≠ w5.heap.size) acc.tm [.int .i64 acc.tm.lab.kind, .string acc.tm.lab.nm, .int .i64 acc.tm.lab.ix, .string s', .slice A' n' c', .slice B' m' d'] ∧
        wz.heap[w5.heap.size]? = some (.cells #[.string sh, .slice Ah nh ch] 24 (0, 0)) ∧ h.ty.In wz (fun b => New S wa.heap.size wz b ∧ b ≠ w5.heap.size) (.string sh) (.slice Ah nh ch) ∧
        wz.heap[rb]? = some (.cells #[.int .i64 r'] 3 (0, 0)) ∧ Mod rb w.heap.size w wz ∧ w5.heap.size + 1 ≤ wz.heap.size ∧ (∀ k, w.heap.size + 1 ≤ k → k < w5.heap.size → wz.heap[k]? = w5.heap[k]?))
      case atStart =>
        have hold : ∀ (o : Obj) k, k < w5.heap.size → (w5.alloc o).heap[k]? = w5.heap[k]? := fun o k hk => heap_old hk rfl
        refine ⟨rfl, Nat.le_refl _, v.head, g, r - 1, s', A', n', c', B', m', d', sg, Ag, ng, cg, by rw [List.take_length], by rw [List.take_length]; exact HG2.out, Int.le_refl _, by omega, heap_old (by omega) P0.out, ?_, heap_at rfl, ?_, ?_, ?_, by simp, fun k h1 h2 => heap_old h2 rfl⟩
        · exact tmRep.keep HVP.out (fun k hk => (hold _ k (by have := HLO.out k hk; omega)).trans ((HW5.out.block k (by have := HLO.out k hk; omega)).trans (HSA.out k hk))) (fun k hk => ⟨Or.inl hk, by have := HLO.out k hk; omega⟩)
        · refine Ty.In_keep (fun k hk => hold _ k ?_) (fun k hk => ?_) _ _ _ HT.out
          · rcases hk with hk | hk
            · have := HLO.out k hk; omega
            · exact hk.2
          · rcases hk with hk | hk
            · exact ⟨Or.inl hk, by have := HLO.out k hk; omega⟩
            · exact ⟨Or.inr ⟨hk.1, by have := hk.2; simp; omega⟩, by have := hk.2; omega⟩
        · exact heap_old (by omega) ((HW5.out.block rb (by omega)).trans HRA_.out)
        · exact (HMA.out.thenBelow (HW5.out.mono (by omega))).alloc (by omega) _
      case round =>
        rename World => wz
        obtain ⟨rfl, hml, acc, h, r', s3, A3, n3, c3, B3, m3, d3, sh, Ah, nh, ch, hxa, hfit, hr1, hr2, p0, hacc, p12, hht, hrz, hMz, zz, hkz⟩ := hrel
        have hSz : ∀ k, S k → wz.heap[k]? = w.heap[k]? := fun k hk => hMz.block k (HLO.out k hk) (fun e => H.out.out (e ▸ hk))
        have hKlo : ∀ k, New S wa.heap.size wz k → k < wz.heap.size := New.lo (fun k hk => by have := HLO.out k hk; omega) (by omega)
        cases gk with
        | zero =>
          have e0 : ((0 : Nat) : Int) - 1 = -1 := rfl
          rw [e0]
          simp only [List.take_zero, List.reverse_nil] at hxa hfit
          have p2z := (hkz (w.heap.size + 1 + 1) (by omega) (by omega)).trans P2.out
          have HF := Lib.hid (HRES.out.trans (hxa.symm.trans (Tv.xargs_nil _ _ _ _)))
          clear hxa hfit e0
          have HACC := Lib.hid hacc
          have HHT := Lib.hid hht
          have HRZ := Lib.hid hrz
          have HMZ := Lib.hid hMz
          have HKZ := Lib.hid hkz
          have HSZ := Lib.hid hSz
          have HKLO := Lib.hid hKlo
          clear hacc hht hrz hMz hkz hSz hKlo
          have p0_0 := cv0 p0
          have p0_1 := cv1 p0
          have p0_2 := cv2 p0
          have p0_3 := cv3 p0
          have p0_4 := cv4 p0
          have p0_5 := cv5 p0
          have p0_l := lt_heap p0
          have P0 := Lib.hid p0
          clear p0
          have p2z_0 := cv0 p2z
          have p2z_1 := cv1 p2z
          have p2z_2 := cv2 p2z
          have p2z_3 := cv3 p2z
          have p2z_4 := cv4 p2z
          have p2z_5 := cv5 p2z
          have p2z_f0 := free_heap p2z 0
          have p2z_f1 := free_heap p2z 1
          have p2z_f2 := free_heap p2z 2
          have p2z_f3 := free_heap p2z 3
          have p2z_f4 := free_heap p2z 4
          have p2z_f5 := free_heap p2z 5
          have p2z_l := lt_heap p2z
          have P2Z := Lib.hid p2z
          clear p2z
          have p12_0 := cv0 p12
          have p12_1 := cv1 p12
          have p12_l := lt_heap p12
          have P12 := Lib.hid p12
          clear p12
          go_wp2_with fail
          refine bodyPost_ret (v := .agg #[.int .i64 acc.tm.lab.kind, .string acc.tm.lab.nm, .int .i64 acc.tm.lab.ix, .string s3, .slice A3 n3 c3, .slice B3 m3 d3]) (by simp [results, Tryd.results70, go_sem, p2z_0, p2z_1, p2z_2, p2z_3, p2z_4, p2z_5, p2z_l]) rfl ?_
          unfold ExpAt
          rw [HF.out]
          refine ⟨_, rfl, tmRep.keep HACC.out (fun k hk => far6 ?_ rfl) (fun k hk => ?_), far6 (by omega) HRZ.out, mod6 HMZ.out (by omega)⟩
          · rcases hk.1 with h | h
            · have := HLO.out k h; omega
            · have := h.1; omega
          · rcases hk.1 with h | h
            · exact Or.inl h
            · exact Or.inr ⟨by have := h.1; omega, lt6 h.2⟩
        | succ i =>
          have e6 : ((i + 1 : Nat) : Int) - 1 = (i : Int) := by omega
          rw [e6]
          have hil : i < v.rargs.length := by omega
          obtain ⟨x, hx⟩ : ∃ x, v.rargs[i]? = some x := ⟨_, List.getElem?_eq_getElem hil⟩
          have htk : (v.rargs.take (i + 1)).reverse = x :: (v.rargs.take i).reverse := by
            rw [List.take_add_one, hx]; simp
          rw [htk] at hxa hfit
          obtain ⟨a, b, rfl, htx, hfit⟩ := hfit
          rw [Tv.xargs] at hxa
          have hnx : x.step = none := Tv.normal_args v H.out.norm HAB.out x (List.mem_of_getElem? hx)
          have hxok : x.ok c.length := Tv.rargs_ok v _ H.out.ok x (List.mem_of_getElem? hx)
          have hxn := Tv.rargs_nodes v x (List.mem_of_getElem? hx)
          -- the argument's cells
          obtain ⟨gA, capA, eA, hgA1, hgA2⟩ : ∃ gA capA, Value.slice Aq v.rargs.length cq = .slice (some ⟨gA, 0, none⟩) v.rargs.length capA ∧ w.heap.size + 3 ≤ gA ∧ gA < wr.heap.size := by
            obtain ⟨xs, h1, _⟩ := HOWN.out
            rw [List.length_map] at h1
            exact h1.form (by omega)
          simp only [Value.slice.injEq, true_and] at eA
          obtain ⟨rfl, rfl⟩ := eA
          have hgz : wz.heap[gA]? = wr.heap[gA]? := (hkz gA (by omega) (by omega)).trans ((HW5.out.block gA (by omega)).trans (HKA.out gA (by omega)))
          have hownz : tmRep.Own 27 (w.heap.size + 3) wz S (.slice (some ⟨gA, 0, none⟩) v.rargs.length cq) (v.rargs.map Tv.tm) := HOWN.out.keepG (fun k e => by simp only [Value.ownBlock, Option.some.injEq] at e; subst e; exact hgz) (fun k hk => (hSz k hk).trans (HB.out.block k (HLO.out k hk)).symm)
          obtain ⟨xc, hxR, hxc⟩ := hownz.at_ (k := i) (a := x.tm) (by rw [List.getElem?_map, hx]; rfl)
          obtain ⟨s1, A1, n1, c1, B1, m1, d1, rfl, _, _⟩ := Tm.shape hxR
          -- the type's cells
          obtain ⟨bs, os, ctt, x0, x1, y0, y1, e0, e1, hKs, k0, k1, k2, k3, hIa, hIb⟩ := Sy.In_fn hht
          simp only [Value.string.injEq, Value.slice.injEq] at e0 e1
          obtain rfl := e0
          obtain ⟨rfl, rfl, rfl⟩ := e1
          obtain ⟨sx, Ax, nx, cx, rfl, rfl⟩ := hIa.shape
          obtain ⟨sy, Ay, ny, cy, rfl, rfl⟩ := hIb.shape
          have lbs := hKlo bs hKs.1
          have hbsr : bs ≠ rb := by
            rcases hKs.1 with h | h
            · exact fun e => H.out.out (e ▸ h)
            · have := h.1; omega
          have hbs0 : bs ≠ w.heap.size := by
            rcases hKs.1 with h | h
            · have := HLO.out bs h; omega
            · have := h.1; omega
          have hbs5 : bs ≠ w5.heap.size := hKs.2
          have hnw := H.out.fu
          have hrw : -1000000000 ≤ r' - 1 := by
            have : n * 100000 ≤ 2001 * 100000 := Nat.mul_le_mul_right _ (by omega)
            omega
          clear hownz hKs
          have HACC := Lib.hid hacc
          have HMZ := Lib.hid hMz
          have HKZ := Lib.hid hkz
          have HSZ := Lib.hid hSz
          have HKLO := Lib.hid hKlo
          have HXR := Lib.hid hxR
          have HIA := Lib.hid hIa
          have HIB := Lib.hid hIb
          have HXA := Lib.hid hxa
          have HFIT := Lib.hid hfit
          have HTX := Lib.hid htx
          have HNX := Lib.hid hnx
          have HXOK := Lib.hid hxok
          have HX := Lib.hid hx
          have HTK := Lib.hid htk
          have HHT := Lib.hid hht
          have HGZ := Lib.hid hgz
          clear hacc hMz hkz hSz hKlo hxR hIa hIb hxa hfit htx hnx hxok hx htk hht hgz
          have p0_0 := cv0 p0
          have p0_1 := cv1 p0
          have p0_2 := cv2 p0
          have p0_3 := cv3 p0
          have p0_4 := cv4 p0
          have p0_5 := cv5 p0
          have p0_f0 := free_heap p0 0
          have p0_f1 := free_heap p0 1
          have p0_f2 := free_heap p0 2
          have p0_f3 := free_heap p0 3
          have p0_f4 := free_heap p0 4
          have p0_f5 := free_heap p0 5
          have p0_l := lt_heap p0
          have P0 := Lib.hid p0
          clear p0
          have p12_0 := cv0 p12
          have p12_1 := cv1 p12
          have p12_l := lt_heap p12
          have P12 := Lib.hid p12
          clear p12
          have hrz_0 := cv0 hrz
          have hrz_f0 := free_heap hrz 0
          have hrz_l := lt_heap hrz
          have HRZ := Lib.hid hrz
          clear hrz
          go_upto_region 20 with (fail)
          refine gen_last (fun wb => (∀ k, k ≠ rb → wb.heap[k]? = wz.heap[k]?) ∧ wb.heap[rb]? = some (.cells #[.int .i64 (r' - 1)] 3 (0, 0)) ∧ wb.heap.size = wz.heap.size ∧ Mod rb w.heap.size w wb) ?_ ?_
          · exact ⟨fun k hk => heap_far _ hk rfl, heap_set HRZ.out 0 (.int .i64 (r' - 1)), size_set _ _ _, HMZ.out.setRow _⟩
          rintro wb ⟨hkb, hrb, zb, hMb⟩
          have hKb : ∀ k, New S wa.heap.size wz k → wb.heap[k]? = wz.heap[k]? := fun k hk => hkb k (fun e => by
            rcases hk with h | h
            · exact H.out.out (e ▸ h)
            · have := h.1; omega)
          have p0 := (hkb w.heap.size (by omega)).trans P0.out
          have p12 := (hkb w5.heap.size (by omega)).trans P12.out
          have hgb := hkb gA (by omega)
          have hbb := hkb bs hbsr
          have a0 : wb.cell? ⟨gA, i * 6, none⟩ = _ := (cell_keep hgb _).trans (hxc 0 _ rfl)
          have a1 : wb.cell? ⟨gA, i * 6 + 1, none⟩ = _ := (cell_keep hgb _).trans (hxc 1 _ rfl)
          have a2 : wb.cell? ⟨gA, i * 6 + 2, none⟩ = _ := (cell_keep hgb _).trans (hxc 2 _ rfl)
          have a3 : wb.cell? ⟨gA, i * 6 + 3, none⟩ = _ := (cell_keep hgb _).trans (hxc 3 _ rfl)
          have a4 : wb.cell? ⟨gA, i * 6 + 4, none⟩ = _ := (cell_keep hgb _).trans (hxc 4 _ rfl)
          have a5 : wb.cell? ⟨gA, i * 6 + 5, none⟩ = _ := (cell_keep hgb _).trans (hxc 5 _ rfl)
          have b0 := (cell_keep hbb os).trans k0
          have b1 := (cell_keep hbb (os + 1)).trans k1
          have b2 := (cell_keep hbb (os + 2)).trans k2
          have b3 := (cell_keep hbb (os + 2 + 1)).trans k3
          have lgb : gA < wb.heap.size := by omega
          have lbb : bs < wb.heap.size := by omega
          have q0 : (0 : Int) ≤ (i : Int) := by omega
          have q1 : (i : Int) < (v.rargs.length : Int) := by omega
          have hlob : ∀ k, (New S wa.heap.size wz k ∧ k ≠ w5.heap.size) → k < wb.heap.size := fun k hk => by have := HKLO.out k hk.1; omega
          have hpre : ∀ W : World, (∀ k, k < wb.heap.size → W.heap[k]? = wb.heap[k]?) → wb.heap.size ≤ W.heap.size → ExpPre n x a c (r' - 1) rb [.int .i64 x.tm.lab.kind, .string x.tm.lab.nm, .int .i64 x.tm.lab.ix, .string s1, .slice A1 n1 c1, .slice B1 m1 d1] (.string sx) (.slice Ax nx cx) (.slice Ac nc kcp) W (fun k => New S wa.heap.size wz k ∧ k ≠ w5.heap.size) := fun W hW hWs =>
            ⟨by have := H.out.fuel; omega, hrw, by have := H.out.big; omega, HNX.out, HTX.out, HXOK.out, tmRep.keep HXR.out (fun k hk => (hW k (by have := HLO.out k hk; omega)).trans (hKb k (Or.inl hk))) (fun k hk => ⟨Or.inl hk, by have := HLO.out k hk; omega⟩), HIA.out.keep (fun k hk => (hW k (hlob k hk)).trans (hKb k hk.1)), H.out.hc.keep (fun k hk => (hW k (by have := HLO.out k hk; omega)).trans ((hKb k (Or.inl hk)).trans (HSZ.out k hk))) (fun k hk => ⟨Or.inl hk, by have := HLO.out k hk; omega⟩), (hW rb (by omega)).trans hrb, by
              rintro ⟨h | h, _⟩
              · exact H.out.out h
              · have := h.1; omega, fun k hk => by have := hlob k hk; omega, by omega⟩
          have hihA := Lib.hid (HIH.out x a c (r' - 1) rb [.int .i64 x.tm.lab.kind, .string x.tm.lab.nm, .int .i64 x.tm.lab.ix, .string s1, .slice A1 n1 c1, .slice B1 m1 d1] (.string sx) (.slice Ax nx cx) (.slice Ac nc kcp) wb.drew _ (hpre wb (fun _ _ => rfl) (Nat.le_refl _)).drew)
          have hihB := Lib.hid (HIH.out x a c (r' - 1) rb [.int .i64 x.tm.lab.kind, .string x.tm.lab.nm, .int .i64 x.tm.lab.ix, .string s1, .slice A1 n1 c1, .slice B1 m1 d1] (.string sx) (.slice Ax nx cx) (.slice Ac nc kcp) (wb.alloc (.cells #[.int .i64 0, .string ⟨#[]⟩, .int .i64 0, .string ⟨#[]⟩, .slice none 0 0, .slice none 0 0] 27)).drew _ (hpre (wb.alloc (.cells #[.int .i64 0, .string ⟨#[]⟩, .int .i64 0, .string ⟨#[]⟩, .slice none 0 0, .slice none 0 0] 27)) (fun k hk => heap_old hk rfl) (by simp)).drew)
          have hexl := Tv.expand_low n x a c (r' - 1) 100000 (by have := H.out.big; omega)
          clear p0_0 p0_1 p0_2 p0_3 p0_4 p0_5 p0_f0 p0_f1 p0_f2 p0_f3 p0_f4 p0_f5 p0_l p12_0 p12_1 p12_l hrz_0 hrz_f0 hrz_l k0 k1 k2 k3 hrb
          have HZB := Lib.hid zb
          have zb1 : wz.heap.size ≤ wb.heap.size := by omega
          have zb2 : wb.heap.size ≤ wz.heap.size := by omega
          clear zb hpre
          have HKB_ := Lib.hid hKb
          clear hKb
          have HIHA := Lib.hid hihA
          have HIHB := Lib.hid hihB
          have HKB := Lib.hid hkb
          have HMB := Lib.hid hMb
          have HEXL := Lib.hid hexl
          have HLOB := Lib.hid hlob
          have HGB := Lib.hid hgb
          have HBB := Lib.hid hbb
          clear hihA hihB hkb hMb hexl hlob hgb hbb
          have p0_0 := cv0 p0
          have p0_1 := cv1 p0
          have p0_2 := cv2 p0
          have p0_3 := cv3 p0
          have p0_4 := cv4 p0
          have p0_5 := cv5 p0
          have p0_f0 := free_heap p0 0
          have p0_f1 := free_heap p0 1
          have p0_f2 := free_heap p0 2
          have p0_f3 := free_heap p0 3
          have p0_f4 := free_heap p0 4
          have p0_f5 := free_heap p0 5
          have p0_l := lt_heap p0
          have P0 := Lib.hid p0
          clear p0
          have p12_0 := cv0 p12
          have p12_1 := cv1 p12
          have p12_f0 := free_heap p12 0
          have p12_f1 := free_heap p12 1
          have p12_l := lt_heap p12
          have P12 := Lib.hid p12
          clear p12
          go_cut [15] (fun s15 wd => ∃ (b15 : Nat) (s6 : ByteArray) (A6 : Option Addr) (n6 c6 : Nat) (B6 : Option Addr) (m6 d6 : Nat), s15 = .pointer (some ⟨b15, 0, none⟩) ∧ wb.heap.size ≤ b15 ∧ b15 < wd.heap.size ∧ wd.heap[b15]? = some (.cells #[.int .i64 (Tv.expand n x a c (r' - 1)).1.tm.lab.kind, .string (Tv.expand n x a c (r' - 1)).1.tm.lab.nm, .int .i64 (Tv.expand n x a c (r' - 1)).1.tm.lab.ix, .string s6, .slice A6 n6 c6, .slice B6 m6 d6] 27 (0, 0)) ∧
            tmRep.R wd (fun k => (New S wa.heap.size wd k ∧ k ≠ w5.heap.size) ∧ k ≠ b15) (Tv.expand n x a c (r' - 1)).1.tm [.int .i64 (Tv.expand n x a c (r' - 1)).1.tm.lab.kind, .string (Tv.expand n x a c (r' - 1)).1.tm.lab.nm, .int .i64 (Tv.expand n x a c (r' - 1)).1.tm.lab.ix, .string s6, .slice A6 n6 c6, .slice B6 m6 d6] ∧ wd.heap[rb]? = some (.cells #[.int .i64 (Tv.expand n x a c (r' - 1)).2] 3 (0, 0)) ∧ Mod rb wb.heap.size wb wd)
          case first =>
            go_region_held3 (fun w' => w'.cell? ⟨gA, i * 6, none⟩ = some (.int .i64 x.tm.lab.kind) ∧ w'.cell? ⟨gA, i * 6 + 1, none⟩ = some (.string x.tm.lab.nm) ∧ w'.cell? ⟨gA, i * 6 + 2, none⟩ = some (.int .i64 x.tm.lab.ix) ∧ w'.cell? ⟨gA, i * 6 + 3, none⟩ = some (.string s1) ∧ w'.cell? ⟨gA, i * 6 + 4, none⟩ = some (.slice A1 n1 c1) ∧ w'.cell? ⟨gA, i * 6 + 5, none⟩ = some (.slice B1 m1 d1) ∧ w'.cell? ⟨w5.heap.size, 1, none⟩ = some (.slice (some ⟨bs, os, none⟩) 2 ch) ∧ w'.cell? ⟨bs, os, none⟩ = some (.string sx) ∧ w'.cell? ⟨bs, os + 1, none⟩ = some (.slice Ax nx cx))
              ((first
                | (go_split_ands; (repeat' apply And.intro) <;> (with_reducible refine (cell_keep (heap_old (by omega) rfl) _).trans ((kc _ _ (by omega) (by omega)).trans ?_)) <;> assumption)
                | (go_split_ands; (repeat' apply And.intro) <;> (with_reducible refine (cell_keep (far6 (by omega) rfl) _).trans ((kc _ _ (by omega) (by omega)).trans ?_)) <;> assumption)
                | (go_split_ands; (repeat' apply And.intro) <;> (with_reducible refine (kc _ _ (by omega) (by omega)).trans ?_) <;> assumption)
                | (go_keep; done)))
              (first
                | ((with_reducible refine HIHA.out.out.mono ?_); rintro e w6 ⟨ds, rfl, hu6, hroom6, hM6⟩; obtain ⟨s6, A6, n6, c6, B6, m6, d6, rfl, _, _⟩ := Tm.shape hu6; have kc : ∀ k q, k < wb.heap.size → k ≠ rb → w6.cell? ⟨k, q, none⟩ = wb.cell? ⟨k, q, none⟩ := (fun k q h1 h2 => cell_keep (hM6.block k h1 h2) q); have z6 : wb.heap.size ≤ w6.heap.size := hM6.size; have HU6 := Lib.hid hu6; have HROOM6 := Lib.hid hroom6; have HM6 := Lib.hid hM6; clear hu6 hroom6 hM6)
                | ((with_reducible refine HIHB.out.out.mono ?_); rintro e w6 ⟨ds, rfl, hu6, hroom6, hM6⟩; obtain ⟨s6, A6, n6, c6, B6, m6, d6, rfl, _, _⟩ := Tm.shape hu6; have kc : ∀ k q, k < wb.heap.size → k ≠ rb → w6.cell? ⟨k, q, none⟩ = wb.cell? ⟨k, q, none⟩ := (fun k q h1 h2 => (cell_keep (hM6.block k (by simp; omega) h2) q).trans (cell_keep (heap_old h1 rfl) q)); have z6 : wb.heap.size + 1 ≤ w6.heap.size := (by have := hM6.size; simpa using this); have k15 := (hM6.block wb.heap.size (by simp) (by omega)).trans (heap_at rfl); have k15_0 := cv0 k15; have k15_1 := cv1 k15; have k15_2 := cv2 k15; have k15_3 := cv3 k15; have k15_4 := cv4 k15; have k15_5 := cv5 k15; have k15_f0 := free_heap k15 0; have k15_f1 := free_heap k15 1; have k15_f2 := free_heap k15 2; have k15_f3 := free_heap k15 3; have k15_f4 := free_heap k15 4; have k15_f5 := free_heap k15 5; have k15_l := lt_heap k15; have K15 := Lib.hid k15; have HU6 := Lib.hid hu6; have HROOM6 := Lib.hid hroom6; have HM6 := Lib.hid hM6; clear hu6 hroom6 hM6 k15))
            · go_wp2_with fail
              go_meet
              refine ⟨w6.heap.size, s6, A6, n6, c6, B6, m6, d6, rfl, by omega, by simp, heap_at rfl, tmRep.keep HU6.out (fun k hk => ?_) (fun k hk => ?_), heap_old (by omega) HROOM6.out, (Mod.refl.drew.trans (HM6.out.mono (show wb.heap.size ≤ wb.heap.size from Nat.le_refl _))).alloc (show wb.heap.size ≤ w6.heap.size from z6) _⟩
              · rcases hk with hk | hk
                · have := HLOB.out k hk; exact heap_old (by omega) rfl
                · exact heap_old hk.2 rfl
              · rcases hk with hk | hk
                · have := HLOB.out k hk
                  refine ⟨⟨?_, hk.2⟩, by omega⟩
                  rcases hk.1 with h | h
                  · exact Or.inl h
                  · exact Or.inr ⟨h.1, by simp; omega⟩
                · have h1 : wb.heap.size ≤ k := hk.1
                  have h2 := hk.2
                  exact ⟨⟨Or.inr ⟨by omega, by simp; omega⟩, by omega⟩, by omega⟩
            · go_wp2_with fail
              go_meet
              refine ⟨wb.heap.size, s6, A6, n6, c6, B6, m6, d6, rfl, Nat.le_refl _, lt6 k15_l, at6 K15.out, tmRep.keep HU6.out (fun k hk => far6 ?_ rfl) (fun k hk => ?_), far6 (by omega) HROOM6.out, mod6 (((Mod.refl.alloc (Nat.le_refl _) _).drew).trans (HM6.out.mono (by simp))) (Nat.le_refl _)⟩
              · rcases hk with hk | hk
                · have := HLOB.out k hk; omega
                · have h1 : wb.heap.size + 1 ≤ k := by have := hk.1; simpa using this
                  omega
              · rcases hk with hk | hk
                · have := HLOB.out k hk
                  refine ⟨⟨?_, hk.2⟩, by omega⟩
                  rcases hk.1 with h | h
                  · exact Or.inl h
                  · exact Or.inr ⟨h.1, lt6 (by omega)⟩
                · have h1 : wb.heap.size + 1 ≤ k := by have := hk.1; simpa using this
                  have h2 := hk.2
                  exact ⟨⟨Or.inr ⟨by omega, lt6 h2⟩, by omega⟩, by omega⟩
          case rest =>
            obtain ⟨b15, s6, A6, n6, c6, B6, m6, d6, rfl, l15, l15b, p15, hyR, hrd, hMd⟩ := hcut
            rename World => wd
            have zd := hMd.size
            have p0 := (hMd.block w.heap.size (by omega) (by omega)).trans P0.out
            have p12 := (hMd.block w5.heap.size (by omega) (by omega)).trans P12.out
            have hbd : wd.heap[bs]? = wb.heap[bs]? := hMd.block bs (by omega) hbsr
            have b2 := (cell_keep hbd (os + 2)).trans b2
            have b3 := (cell_keep hbd (os + 2 + 1)).trans b3
            have lbd : bs < wd.heap.size := by omega
            have hKd : ∀ k, New S wa.heap.size wz k → wd.heap[k]? = wz.heap[k]? := fun k hk => (hMd.block k (by have := HKLO.out k hk; omega) (fun e => by
              rcases hk with h | h
              · exact H.out.out (e ▸ h)
              · have := h.1; omega)).trans (HKB_.out k hk)
            have hnb : bs ≠ b15 := by omega
            clear a0 a1 a2 a3 a4 a5 b0 b1 p0_0 p0_1 p0_2 p0_3 p0_4 p0_5 p0_f0 p0_f1 p0_f2 p0_f3 p0_f4 p0_f5 p0_l p12_0 p12_1 p12_f0 p12_f1 p12_l hbd
            have HYR := Lib.hid hyR
            have HRD := Lib.hid hrd
            have HMD := Lib.hid hMd
            have HKD := Lib.hid hKd
            clear hyR hrd hMd hKd
            have p0_0 := cv0 p0
            have p0_1 := cv1 p0
            have p0_2 := cv2 p0
            have p0_3 := cv3 p0
            have p0_4 := cv4 p0
            have p0_5 := cv5 p0
            have p0_f0 := free_heap p0 0
            have p0_f1 := free_heap p0 1
            have p0_f2 := free_heap p0 2
            have p0_f3 := free_heap p0 3
            have p0_f4 := free_heap p0 4
            have p0_f5 := free_heap p0 5
            have p0_l := lt_heap p0
            have P0 := Lib.hid p0
            clear p0
            have p12_0 := cv0 p12
            have p12_1 := cv1 p12
            have p12_f0 := free_heap p12 0
            have p12_f1 := free_heap p12 1
            have p12_l := lt_heap p12
            have P12 := Lib.hid p12
            clear p12
            have p15_0 := cv0 p15
            have p15_1 := cv1 p15
            have p15_2 := cv2 p15
            have p15_3 := cv3 p15
            have p15_4 := cv4 p15
            have p15_5 := cv5 p15
            have p15_l := lt_heap p15
            have P15 := Lib.hid p15
            clear p15
            go_upto_region 18 with (fail)
            refine gen_last (fun wq => wq.heap[w.heap.size]? = some (.cells #[.int .i64 4, .string ⟨#[]⟩, .int .i64 0, .string ⟨#[]⟩, .slice none 0 0, .slice (some ⟨wd.heap.size, 0, none⟩) 2 2] 27 (0, 0)) ∧ wq.heap[w5.heap.size]? = some (.cells #[.string sy, .slice Ay ny cy] 24 (0, 0)) ∧
              wq.heap[wd.heap.size]? = some (.cells #[.int .i64 acc.tm.lab.kind, .string acc.tm.lab.nm, .int .i64 acc.tm.lab.ix, .string s3, .slice A3 n3 c3, .slice B3 m3 d3, .int .i64 (Tv.expand n x a c (r' - 1)).1.tm.lab.kind, .string (Tv.expand n x a c (r' - 1)).1.tm.lab.nm, .int .i64 (Tv.expand n x a c (r' - 1)).1.tm.lab.ix, .string s6, .slice A6 n6 c6, .slice B6 m6 d6] 27 (0, 0)) ∧
              (∀ k, k < wd.heap.size → k ≠ w.heap.size → k ≠ w5.heap.size → wq.heap[k]? = wd.heap[k]?) ∧ wd.heap.size + 1 ≤ wq.heap.size ∧ Mod rb w.heap.size w wq) ?_ ?_
            · refine ⟨heap_old (lt6 (lt2 p0_l)) (at6 (far2 (by omega) P0.out)), heap_old (lt6 (lt2 p12_l)) (far6 (by omega) (at2 P12.out)), heap_at (by simp only [size_set]), fun k h1 h2 h3 => heap_old (lt6 (lt2 h1)) (far6 h2 (far2 h3 rfl)), by rw [World.size_alloc]; simp only [size_set]; exact Nat.le_refl _, ?_⟩
              exact (mod6 (mod2 (HMB.out.trans (HMD.out.mono (by omega))) (by omega)) (Nat.le_refl _)).alloc (le6 (le2 (by omega))) _
            rintro wq ⟨q0', q12, q11, hkq, zq, hMq⟩
            clear p0_0 p0_1 p0_2 p0_3 p0_4 p0_5 p0_f0 p0_f1 p0_f2 p0_f3 p0_f4 p0_f5 p0_l p12_0 p12_1 p12_f0 p12_f1 p12_l p15_0 p15_1 p15_2 p15_3 p15_4 p15_5 p15_l b2 b3
            have Q0P := Lib.hid q0'
            have Q12 := Lib.hid q12
            have Q11 := Lib.hid q11
            have HKQ := Lib.hid hkq
            have HMQ := Lib.hid hMq
            clear q0' q12 q11 hkq hMq
            go_wp2_with fail
            go_roundg i
            case measure => omega
            case rel =>
              have hex := Tv.expand_long n x a c (r' - 1) (by have := H.out.fuel; omega) HNX.out HTX.out
              have hlw := HEXL.out
              have hkk : ∀ k, (New S wa.heap.size wz k ∧ k ≠ w5.heap.size) → wq.heap[k]? = wz.heap[k]? := fun k hk => (HKQ.out k (by have := HLOB.out k hk; omega) (by
                rcases hk.1 with h | h
                · have := HLO.out k h; omega
                · have := h.1; omega) hk.2).trans (HKD.out k hk.1)
              have hup : ∀ k, (New S wa.heap.size wz k ∧ k ≠ w5.heap.size) → (New S wa.heap.size wq k ∧ k ≠ w5.heap.size) := fun k hk => ⟨New.up (by omega) k hk.1, hk.2⟩
              refine ⟨rfl, by omega, .app acc (Tv.expand n x a c (r' - 1)).1, b, (Tv.expand n x a c (r' - 1)).2, ⟨#[]⟩, none, 0, 0, some ⟨wd.heap.size, 0, none⟩, 2, 2, sy, Ay, ny, cy, HXA.out, HFIT.out, by have := hex.1; omega, ?_, Q0P.out, ?_, Q12.out, Ty.In_keep hkk hup _ _ _ HIB.out, ?_, HMQ.out, by omega, fun k h1 h2 => ?_⟩
              · by_cases h0 : r' - 1 < 0
                · rw [hlw.1 h0]; omega
                · have := hlw.2 (by omega); omega
              · refine Tm.app_lit (cs := [.int .i64 acc.tm.lab.kind, .string acc.tm.lab.nm, .int .i64 acc.tm.lab.ix, .string s3, .slice A3 n3 c3, .slice B3 m3 d3]) (ds := [.int .i64 (Tv.expand n x a c (r' - 1)).1.tm.lab.kind, .string (Tv.expand n x a c (r' - 1)).1.tm.lab.nm, .int .i64 (Tv.expand n x a c (r' - 1)).1.tm.lab.ix, .string s6, .slice A6 n6 c6, .slice B6 m6 d6]) (tmRep.keep HACC.out hkk hup) (tmRep.keep HYR.out (fun k hk => ?_) (fun k hk => ?_)) Q11.out ⟨Or.inr ⟨by omega, by omega⟩, by omega⟩
                · have h1 : k < wd.heap.size := New.lo (w := wd) (fun k hk => by have := HLO.out k hk; omega) (by omega) k hk.1.1
                  refine HKQ.out k h1 ?_ hk.1.2
                  rcases hk.1.1 with h | h
                  · have := HLO.out k h; omega
                  · have := h.1; omega
                · exact ⟨New.up (by omega) k hk.1.1, hk.1.2⟩
              · exact (HKQ.out rb (by omega) (by omega) (by omega)).trans HRD.out
              · exact (HKQ.out k (by omega) (by omega) (by omega)).trans ((HMD.out.block k (by omega) (by omega)).trans ((HKB.out k (by omega)).trans (HKZ.out k h1 h2)))

theorem expand_any : ∀ n : Nat, ExpIH n := by
  intro n
  induction n with
  | zero =>
    intro v s c r rb cs s0 s1 u w S h
    exact expand_neg_any 0 v s c r rb cs s0 s1 u w S h (by have := h.fuel; omega)
  | succ n ih =>
    intro v s c r rb cs s0 s1 u w S h
    by_cases hr : r < 0
    · exact expand_neg_any (n + 1) v s c r rb cs s0 s1 u w S h hr
    cases hs : s.isFn with
    | true =>
      cases s with
      | fn a b => exact expand_fn_any n ih v a b c r rb cs s0 s1 u w S h (by omega)
      | e => simp [Sy.isFn] at hs
      | t => simp [Sy.isFn] at hs
    | false => exact expand_base_any n ih v s c r rb cs s0 s1 u w S h (by omega) hs

end Go.Proofs.YthflahcnkhmpaabDoor
