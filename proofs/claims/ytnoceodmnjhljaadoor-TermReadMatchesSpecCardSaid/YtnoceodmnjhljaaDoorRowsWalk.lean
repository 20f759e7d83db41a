/-
  The reference's rows (a term as a table): the walk.
-/
import Derived.Test.YtnoceodmnjhljaaDoorProg
import Derived.Test.YtnoceodmnjhljaaDoorOwnSet
import Derived.Deep.DeepCutAuto
import Derived.Test.YtnoceodmnjhljaaDoorRowsTm
namespace Go.Proofs.YtnoceodmnjhljaaDoor
open Go Go.RowKit
set_option linter.unusedSimpArgs false
set_option linter.unusedVariables false

theorem infoRow : (Tryd.prog.info? 79).map (fun i => (i.zero, i.size, i.bytes)) = some (some (.agg #[.int .i64 0, .string ⟨#[]⟩, .string ⟨#[]⟩, .slice none 0 0, .int .i64 0, .slice none 0 0, .int .i64 0]), 7, 104) := by kernel_rfl
theorem infoInt : (Tryd.prog.info? 3).map (fun i => (i.zero, i.size, i.bytes)) = some (some (.int .i64 0), 1, 8) := by kernel_rfl

/-- What rows returns. -/
def RowsAt (t : Tm) (up : Int) (v : Value) (L : List RRow) (base : Nat) (w : World) (S : Nat → Prop) (e : Ending) (w' : World) : Prop :=
  ∃ v' rs, e = .returned v' ∧ rowRep.Own 79 base w' S v' (L ++ rs) ∧ RowsM (KB w.heap.size w') w' rs (rowsOf t up L.length) ∧ w.grownBy w' v.ownBlock ∧ (v'.ownBlock = v.ownBlock ∨ ∀ k, v'.ownBlock = some k → w.heap.size ≤ k)

set_option maxRecDepth 100000 in
set_option maxHeartbeats 4000000 in
theorem rows_any : ∀ (N : Nat) (t : Tm) (cs : List Value) (up : Int) (v : Value) (L : List RRow) (base : Nat) (w : World) (S : Nat → Prop), t.nodes ≤ N → L.length + t.nodes ≤ 100000 → tmRep.R w S t cs → (∀ b, S b → b < base) → base ≤ w.heap.size →
    rowRep.Own 79 base w S v L →
    Calls Tryd.prog 34 #[.agg cs.toArray, .int .i64 up, v] w (RowsAt t up v L base w S) := by
  intro N
  induction N with
  | zero => intro t; have := t.nodes_pos; intros; omega
  | succ N ih =>
  intro t cs up v L base w S hN hM ht hS hbase hown
  have IH := Lib.hid ih
  clear ih
  obtain ⟨⟨kk, s, i, ty⟩, l⟩ := t
  obtain ⟨u0, u1, vs, rfl, hnm, hty, hl⟩ := Tm.open_ ht
  obtain ⟨sa, Aa, na, ca, rfl, rfl⟩ := hty.shape
  have HL := Lib.hid hl
  obtain ⟨A, m, c, rfl, rfl, hm, _⟩ := hl
  obtain ⟨Av, cv, rfl⟩ := hown.len
  simp only [Tree.nodes] at hN hM
  have hlen := Tree.nodess_len l
  obtain ⟨j0, hj0, jz0, jz1, jz2⟩ := info_parts infoRow
  obtain ⟨k0, hk0, kz0, kz1, kz2⟩ := info_parts infoInt
  obtain ⟨xs, hrow, hall⟩ := id hown
  have hblk := hown.block
  simp only at hnm hty
  clear ht hm
  have HS := Lib.hid hS
  have HN := Lib.hid hN
  have HTY := Lib.hid hty
  have HNM := Lib.hid hnm
  have HALL := Lib.hid hall
  have HOWN := Lib.hid hown
  have HBLK := Lib.hid hblk
  have HROW := Lib.hid hrow
  clear hS hN hty hnm hall hown hblk hrow
  go_enter Tryd.func34, Tryd.ntmps34
  go_wp2_with (at_builtin; refine wpList_append_lies _ ?h1 (.tmp 11) (.tmp 22) 76 ?h2 base 79 j0 _ 7 104 ?h3 hj0 jz0 jz1 jz2 ?h4 ?h5 (.slice Av L.length cv) L.length xs ?h6 ?h7 ⟨w.heap.size + 1, 0, none⟩ 1 1 [.int .i64 kk, .string s, .string sa, .slice Aa na ca, .int .i64 i, .slice none 0 0, .int .i64 up] ?h8 ?h9 ?h10 ?h11 ?h12 ?h13 ?h14 ?h15 (w.heap.size + 2) ?h16 ?_)
  case h1 => rfl
  case h2 => rfl
  case h3 => exact Tryd.underlying76
  case h4 => rfl
  case h5 => omega
  case h6 => rfl
  case h7 => exact (HROW.out.alloc _).alloc _
  case h8 => rfl
  case h9 => rfl
  case h10 => exact World.news_of_block (cs := #[.int .i64 kk, .string s, .string sa, .slice Aa na ca, .int .i64 i, .slice none 0 0, .int .i64 up]) (t := 79) (fr := (0, 0)) (heap_at (by simp))
  case h11 => simp [Value.oneCell']
  case h12 => omega
  case h13 => simp [maxLen]; omega
  case h14 => omega
  case h15 => simp; omega
  case h16 => simp
  intro gg cap w3 hown3 hgrow hat hlt
  have hT : 79 ≠ 3 := by decide
  have hbs : (w.alloc (.cells #[.int .i64 kk, .string s, .int .i64 i, .string sa, .slice Aa na ca, .slice A l.length c] 27)).heap.size = w.heap.size + 1 := by simp
  have hold : ∀ (o p : Obj) k, k < w.heap.size → ((w.alloc o).alloc p).heap[k]? = w.heap[k]? := fun o p k hk => heap_old (by simp; omega) (heap_old hk rfl)
  have hown1 : rowRep.Own 79 base w3 S (.slice (some ⟨gg, 0, none⟩) (L.length + 1) cap) (L ++ [⟨kk, s, ty, i, .slice none 0 0, up⟩]) := by
    refine Rep.appended1 (ρ := rowRep) (w := (w.alloc (.cells #[.int .i64 kk, .string s, .int .i64 i, .string sa, .slice Aa na ca, .slice A l.length c] 27)).alloc (.cells #[.int .i64 kk, .string s, .string sa, .slice Aa na ca, .int .i64 i, .slice none 0 0, .int .i64 up] 79)) (H := w.heap.size + 2) (T := S) (HALL.out.keep (fun k hk => hold _ _ k (by have := HS.out k hk.1; omega)) (fun _ h => h)) ?_ (fun k hk => ⟨hk, fun e => by have := (HBLK.out _ e).1; have := HS.out k hk; omega⟩) (fun k hk => by have := HS.out k hk; simp; omega) hown3 hgrow hat (by simp)
    exact ⟨_, _, rfl, HNM.out, HTY.out.keep (fun k hk => hold _ _ k (by have := HS.out k hk; omega)), rfl⟩
  have hgr : w.grownBy w3 (Value.slice Av L.length cv).ownBlock := ⟨hgrow.os, hgrow.tape, hgrow.output, by have := hgrow.size; simp at this; omega, fun k hk hne => (hgrow.block k (by simp; omega) hne).trans (hold _ _ k hk)⟩
  have hat' : (Value.slice (some ⟨gg, 0, none⟩) (L.length + 1) cap).ownBlock = (Value.slice Av L.length cv).ownBlock ∨ ∀ k, (Value.slice (some ⟨gg, 0, none⟩) (L.length + 1) cap).ownBlock = some k → w.heap.size < k := by
    rcases hat with h | h
    · exact Or.inl h.symm
    · exact Or.inr (fun k e => by simp only [Value.ownBlock, Option.some.injEq] at e; omega)
  have hbx : w3.heap[w.heap.size]? = some (.cells #[.int .i64 kk, .string s, .int .i64 i, .string sa, .slice Aa na ca, .slice A l.length c] 27 (0, 0)) := (hgrow.block w.heap.size (by simp; omega) (by intro e; have := (HBLK.out _ e.symm).2; omega)).trans (heap_old (by simp) (heap_at rfl))
  clear hown3 hgrow hat hlt hold hbs
  have HOWN1 := Lib.hid hown1
  have HGR := Lib.hid hgr
  have HATP := Lib.hid hat'
  have HT := Lib.hid hT
  clear hown1 hgr hat' hT
  have hbx_0 := cv0 hbx
  have hbx_1 := cv1 hbx
  have hbx_2 := cv2 hbx
  have hbx_3 := cv3 hbx
  have hbx_4 := cv4 hbx
  have hbx_5 := cv5 hbx
  have hbx_l := lt_heap hbx
  have HBX := Lib.hid hbx
  clear hbx
  go_wp2_with fail
  go_loopg [2, 27] l.length (fun g v2 v27 wr => ∃ (j : Nat) (kv : Value) (rs : List RRow), j + g = l.length ∧ v27 = .int .i64 j ∧ rowRep.Own 79 base wr S v2 (L ++ (⟨kk, s, ty, i, kv, up⟩ :: rs)) ∧ RowsM (fun b => KB w.heap.size wr b ∧ kv.ownBlock ≠ some b) wr rs (rowssOf (l.take j) L.length (L.length + 1)) ∧
    intRep.Own 3 (w.heap.size + 1) wr (fun _ => False) kv (kidsAt (l.take j) (L.length + 1)) ∧ w.grownBy wr (Value.slice Av L.length cv).ownBlock ∧ (v2.ownBlock = (Value.slice Av L.length cv).ownBlock ∨ ∀ k, v2.ownBlock = some k → w.heap.size < k) ∧
    wr.heap[w.heap.size]? = some (.cells #[.int .i64 kk, .string s, .int .i64 i, .string sa, .slice Aa na ca, .slice A l.length c] 27 (0, 0)))
  case atStart =>
    exact ⟨0, .slice none 0 0, [], by omega, rfl, HOWN1.out, (show RowsM _ _ [] (rowssOf (l.take 0) _ _) by simp [rowssOf, RowsM]), (show intRep.Own _ _ _ _ _ (kidsAt (l.take 0) _) by simpa [kidsAt] using Rep.Own.nil), HGR.out, HATP.out, HBX.out⟩
  case round =>
    obtain ⟨j, kv, rs, hj, rfl, hown, hrs, hkv, hg, hat, hbx⟩ := hrel
    obtain ⟨nn, hnn⟩ : ∃ nn, nn = (L ++ (⟨kk, s, ty, i, kv, up⟩ :: rs : List RRow)).length := ⟨_, rfl⟩
    obtain ⟨Aq, cq, hq⟩ := hown.len
    rw [← hnn] at hq
    subst hq
    have hrl := hrs.len
    rw [rowssOf_len] at hrl
    have hnn' : nn = L.length + 1 + Tree.nodess (l.take j) := by rw [hnn]; simp [hrl]; omega
    have hts := Tree.nodess_take_le l j
    obtain ⟨ys, hrow2, _⟩ := id hown
    rw [← hnn] at hrow2
    obtain ⟨g, cap2, e1, hbg, hgl⟩ := hrow2.form (by omega)
    simp only [Value.slice.injEq] at e1
    obtain ⟨rfl, _, rfl⟩ := e1
    obtain ⟨g', o', csr, eA, _, hcsr, hcell⟩ := Rep.Sl.at_ (ρ := rowRep) (w := wr) (S := fun _ => True) (A := some ⟨g, 0, none⟩) (n := nn) (c := cq) (k := L.length) (a := ⟨kk, s, ty, i, kv, up⟩) (l := L ++ (⟨kk, s, ty, i, kv, up⟩ :: rs)) ⟨_, _, _, rfl, hnn.symm, by unfold maxLen; omega, fun _ => by
      obtain ⟨xs', h1, h2⟩ := hown
      exact ⟨g, 0, xs', rfl, trivial, h2.keep (fun _ _ => rfl) (fun _ _ => trivial), fun q u hu => by have := h1.cells (g := g) rfl q u hu; rw [addr_none] at this; exact this⟩⟩ (by simp)
    simp only [Option.some.injEq, Addr.mk.injEq, and_true] at eA
    obtain ⟨rfl, rfl⟩ := eA
    obtain ⟨z0, z1, rfl, _⟩ := hcsr
    have f5 : wr.cell? ⟨g, L.length * 7 + 5, none⟩ = some kv := by have := hcell 5 kv rfl; simpa [rowRep] using this
    have f5f : wr.frozen? ⟨g, L.length * 7 + 5, none⟩ = false := hrow2.frozenAt _
    have hgw : w.heap.size < wr.heap.size := lt_heap hbx
    clear hcell hrow2
    by_cases hjl : j < l.length
    · obtain ⟨b, o, kc, rfl, hSb, hkr, hkc⟩ := Rep.Sl.at_ HL.out (List.getElem?_eq_getElem hjl)
      obtain ⟨s1, A1, n1, c1, B1, m1, d1, rfl, _, _⟩ := Tm.shape hkr
      have hap := hown.apart hkv HT.out g rfl
      have hkl : (kidsAt (l.take j) (L.length + 1)).length = j := by rw [kidsAt_len]; simp; omega
      obtain ⟨kxs, hkrow, hkall⟩ := id hkv
      rw [hkl] at hkrow
      have hkb := hkv.block
      have hSn : ∀ k, S k → k < w.heap.size ∧ k ≠ g := fun k hk => by have := HS.out k hk; omega
      have hvk : (Value.slice Av L.length cv).ownBlock = some g ∨ w.heap.size < g := by
        rcases hat with h | h
        · exact Or.inl h.symm
        · exact Or.inr (h g rfl)
      have q0 : (0 : Int) ≤ (j : Int) := by omega
      have q1 : (j : Int) < (l.length : Int) := by omega
      have q2 : (0 : Int) ≤ (L.length : Int) := by omega
      have q3 : (L.length : Int) < (nn : Int) := by omega
      have hlS := HS.out b hSb
      have hkS : ∀ k, S k → wr.heap[k]? = w.heap[k]? := fun k hk => hg.block k (hSn k hk).1 (fun e => by have := (HBLK.out k e.symm).1; have := HS.out k hk; omega)
      have hnb : nn ≤ 100000 := by omega
      have hnl : L.length + 1 ≤ nn := by omega
      have HNQ := Lib.hid hnn'
      clear hnn'
      have hbx_0 := cv0 hbx
      have hbx_1 := cv1 hbx
      have hbx_2 := cv2 hbx
      have hbx_3 := cv3 hbx
      have hbx_4 := cv4 hbx
      have hbx_5 := cv5 hbx
      have hbx_l := lt_heap hbx
      have HBX := Lib.hid hbx
      clear hbx
      have HOWN := Lib.hid hown
      have HRS := Lib.hid hrs
      have HKV := Lib.hid hkv
      have HG := Lib.hid hg
      have HAT := Lib.hid hat
      have HAP := Lib.hid hap
      have HKROW := Lib.hid hkrow
      have HKALL := Lib.hid hkall
      have HKR := Lib.hid hkr
      have HKC := Lib.hid hkc
      have HNN := Lib.hid hnn
      have HRL := Lib.hid hrl
      have HSN := Lib.hid hSn
      have HVK := Lib.hid hvk
      have HKB := Lib.hid hkb
      clear hown hrs hkv hg hat hap hkrow hkall hkr hkc hnn hrl hSn hvk hkb
      have HKS_ := Lib.hid hkS
      clear hkS
      go_wp2_with (at_builtin; refine wpList_append_lies _ ?h1 (.tmp 36) (.tmp 39) 68 ?h2 (w.heap.size + 1) 3 k0 _ 1 8 ?h3 hk0 kz0 kz1 kz2 ?h4 ?h5 kv j kxs ?h6 ?h7 ⟨wr.heap.size, 0, none⟩ 1 1 [.int .i64 nn] ?h8 ?h9 ?h10 ?h11 ?h12 ?h13 ?h14 ?h15 (wr.heap.size + 1) ?h16 ?_)
      all_goals try (case h1 => rfl)
      all_goals try (case h2 => rfl)
      all_goals try (case h3 => exact Tryd.underlying68)
      all_goals try (case h4 => rfl)
      all_goals try (case h5 => omega)
      all_goals try (case h6 => rfl)
      all_goals try (case h7 => exact HKROW.out.alloc _)
      all_goals try (case h8 => rfl)
      all_goals try (case h9 => rfl)
      all_goals try (case h10 => exact World.news_of_block (cs := #[.int .i64 nn]) (t := 3) (fr := (0, 0)) (heap_at (by simp)))
      all_goals try (case h11 => simp [Value.oneCell'])
      all_goals try (case h12 => omega)
      all_goals try (case h13 => first | (simp [maxLen]; omega) | (unfold maxLen; omega))
      all_goals try (case h14 => omega)
      all_goals try (case h15 => first | omega | (simp; omega))
      all_goals try (case h16 => first | simp | omega)
      intro kg kcap w4 hown4 hgrow hat4 hlt4
      have hg4 : w4.heap[g]? = wr.heap[g]? := (hgrow.block g (by simp; omega) (fun e => HAP.out e.symm)).trans (heap_old hgl rfl)
      have hS4 : ∀ k, S k → w4.heap[k]? = wr.heap[k]? := fun k hk => (hgrow.block k (by have := (HSN.out k hk).1; simp; omega) (fun e => by have := (HKB.out k e.symm).1; have := (HSN.out k hk).1; omega)).trans (heap_old (by have := (HSN.out k hk).1; omega) rfl)
      have hbx4 := (hgrow.block w.heap.size (by simp; omega) (fun e => by have := (HKB.out _ e.symm).1; omega)).trans (heap_old hgw HBX.out)
      have f5' := (cell_keep hg4 (L.length * 7 + 5)).trans f5
      have f5f' : w4.frozen? ⟨g, L.length * 7 + 5, none⟩ = false := (World.frozen?_of_block (a := ⟨g, L.length * 7 + 5, none⟩) hg4).trans f5f
      have z4 : wr.heap.size + 1 ≤ w4.heap.size := by have := hgrow.size; simpa using this
      have hgl4 : g < w4.heap.size := by omega
      have hkg : kg ≠ g := by
        rcases hat4 with h | h
        · exact fun e => HAP.out (e ▸ h)
        · omega
      have hkown : intRep.Own 3 (w.heap.size + 1) w4 (fun _ => False) (.slice (some ⟨kg, 0, none⟩) (j + 1) kcap) (kidsAt (l.take j) (L.length + 1) ++ [(nn : Int)]) := by
        have := Rep.appended1 (ρ := intRep) (w := wr.alloc (.cells #[.int .i64 nn] 3)) (H := wr.heap.size + 1) (S := fun _ => False) (T := fun _ => False) (a := (nn : Int)) (HKALL.out.keep (fun k hk => hk.1.elim) (fun _ h => h)) rfl (fun k hk => hk.elim) (fun k hk => hk.elim) (by rw [hkl]; exact hown4) hgrow hat4 (by simp)
        rw [hkl] at this; exact this
      clear f5 f5f hbx_0 hbx_1 hbx_2 hbx_3 hbx_4 hbx_5 hbx_l
      have HGROW := Lib.hid hgrow
      have HAT4 := Lib.hid hat4
      have HOWN4 := Lib.hid hown4
      have HKOWN := Lib.hid hkown
      have HG4 := Lib.hid hg4
      have HS4 := Lib.hid hS4
      clear hgrow hat4 hown4 hkown hg4 hS4
      have hbx4_0 := cv0 hbx4
      have hbx4_1 := cv1 hbx4
      have hbx4_2 := cv2 hbx4
      have hbx4_3 := cv3 hbx4
      have hbx4_4 := cv4 hbx4
      have hbx4_5 := cv5 hbx4
      have hbx4_l := lt_heap hbx4
      have HBX4 := Lib.hid hbx4
      clear hbx4
      go_upto_region 7 with (fail)
      refine gen_last (fun wx => wx.heap.size = w4.heap.size ∧ (∀ k, k ≠ g → wx.heap[k]? = w4.heap[k]?) ∧ (wx.os = w4.os ∧ wx.tape = w4.tape ∧ wx.output = w4.output) ∧ rowRep.Own 79 base wx S (.slice (some ⟨g, 0, none⟩) nn cq) (L ++ (⟨kk, s, ty, i, .slice (some ⟨kg, 0, none⟩) (j + 1) kcap, up⟩ :: rs))) ?_ ?_
      · refine ⟨size_set _ _ _, fun k hk => heap_far _ hk rfl, ⟨rfl, rfl, rfl⟩, ?_⟩
        have h1 := (HOWN.out.keepG (w' := w4) (fun k e => by simp only [Value.ownBlock, Option.some.injEq] at e; subst e; exact HG4.out) HS4.out).set1 (k := L.length) (j := 5) (q := L.length * 7 + 5) (a := ⟨kk, s, ty, i, kv, up⟩) (a' := ⟨kk, s, ty, i, .slice (some ⟨kg, 0, none⟩) (j + 1) kcap, up⟩) (x := .slice (some ⟨kg, 0, none⟩) (j + 1) kcap) (by simp) (by decide) rfl (by
          rintro S' cs ⟨u0, u1, rfl, h1, h2, _⟩
          exact ⟨u0, u1, rfl, h1, h2, rfl⟩)
        rw [List.set_append_right _ _ (Nat.le_refl _), Nat.sub_self] at h1
        exact h1
      rintro wx ⟨zx, hkx, hox, hownx⟩
      have hkxS : ∀ k, S k → wx.heap[k]? = w.heap[k]? := fun k hk => (hkx k (HSN.out k hk).2).trans ((HS4.out k hk).trans (HKS_.out k hk))
      have hbx5 := (hkx w.heap.size (by rcases HVK.out with h | h; have := (HBLK.out g h).2; omega; omega)).trans HBX4.out
      have hkbx := hkxS b hSb
      have e0 : wx.cell? ⟨b, o + j * 6, none⟩ = _ := (cell_keep hkbx _).trans (HKC.out 0 _ rfl)
      have e1 : wx.cell? ⟨b, o + j * 6 + 1, none⟩ = _ := (cell_keep hkbx _).trans (HKC.out 1 _ rfl)
      have e2 : wx.cell? ⟨b, o + j * 6 + 2, none⟩ = _ := (cell_keep hkbx _).trans (HKC.out 2 _ rfl)
      have e3 : wx.cell? ⟨b, o + j * 6 + 3, none⟩ = _ := (cell_keep hkbx _).trans (HKC.out 3 _ rfl)
      have e4 : wx.cell? ⟨b, o + j * 6 + 4, none⟩ = _ := (cell_keep hkbx _).trans (HKC.out 4 _ rfl)
      have e5 : wx.cell? ⟨b, o + j * 6 + 5, none⟩ = _ := (cell_keep hkbx _).trans (HKC.out 5 _ rfl)
      have zb : b < wx.heap.size := by omega
      have hl1 : (L ++ (⟨kk, s, ty, i, .slice (some ⟨kg, 0, none⟩) (j + 1) kcap, up⟩ :: rs)).length = nn := by rw [HNN.out]; simp
      have hnd := Tree.nodess_take l j hjl
      have hnd2 := Tree.nodess_take_le l (j + 1)
      have hna := Tree.nodes_at l j hjl
      have hih := Lib.hid (IH.out l[j] [.int .i64 l[j].lab.kind, .string l[j].lab.nm, .int .i64 l[j].lab.ix, .string s1, .slice A1 n1 c1, .slice B1 m1 d1] (L.length : Nat) (.slice (some ⟨g, 0, none⟩) nn cq) _ base wx S (by have := HN.out; omega) (by rw [hl1]; have := HNQ.out; omega) (tmRep.keep HKR.out hkxS (fun _ h => h)) HS.out (by omega) hownx)
      clear hbx4_0 hbx4_1 hbx4_2 hbx4_3 hbx4_4 hbx4_5 hbx4_l f5' f5f' hkbx hnd hnd2 hna
      have HIH := Lib.hid hih
      have HOWNX := Lib.hid hownx
      have HKXS := Lib.hid hkxS
      have HKX := Lib.hid hkx
      have HL1 := Lib.hid hl1
      have HOX := Lib.hid hox
      clear hih hownx hkxS hkx hl1 hox
      have hbx5_0 := cv0 hbx5
      have hbx5_1 := cv1 hbx5
      have hbx5_2 := cv2 hbx5
      have hbx5_3 := cv3 hbx5
      have hbx5_4 := cv4 hbx5
      have hbx5_5 := cv5 hbx5
      have hbx5_l := lt_heap hbx5
      have HBX5 := Lib.hid hbx5
      clear hbx5
      go_wp2_with fail
      (with_reducible refine HIH.out.out.mono ?_)
      rintro e w5 ⟨v5, rs5, rfl, hown5, hrs5, hg5, hat5⟩
      have hbx6 := (hg5.block w.heap.size (by omega) (fun e => by simp only [Value.ownBlock, Option.some.injEq] at e; rcases HVK.out with h | h; have := (HBLK.out g h).2; omega; omega)).trans HBX5.out
      have z5 := hg5.size
      clear hbx5_0 hbx5_1 hbx5_2 hbx5_3 hbx5_4 hbx5_5 hbx5_l e0 e1 e2 e3 e4 e5
      have HOWN5 := Lib.hid hown5
      have HRS5 := Lib.hid hrs5
      have HG5 := Lib.hid hg5
      have HAT5 := Lib.hid hat5
      clear hown5 hrs5 hg5 hat5
      have hbx6_0 := cv0 hbx6
      have hbx6_1 := cv1 hbx6
      have hbx6_2 := cv2 hbx6
      have hbx6_3 := cv3 hbx6
      have hbx6_4 := cv4 hbx6
      have hbx6_5 := cv5 hbx6
      have hbx6_l := lt_heap hbx6
      have HBX6 := Lib.hid hbx6
      clear hbx6
      go_wp2_with fail
      go_roundg (l.length - (j + 1))
      case measure => omega
      case rel =>
        have htk : l.take (j + 1) = l.take j ++ [l[j]] := List.take_succ_eq_append_getElem hjl
        have hng : ∀ k, KB w.heap.size wr k → k ≠ g := by
          rintro k ⟨_, _, c', fz', h3⟩ rfl
          obtain ⟨xs', h1, _⟩ := HOWN.out
          obtain ⟨c'', fz'', h4⟩ := Go.Lib.ownsRow_kind h1 k rfl
          rw [h3] at h4
          simp only [Option.some.injEq, Obj.cells.injEq] at h4
          exact HT.out h4.2.1.symm
        have hk5 : ∀ k, k < wx.heap.size → k ≠ g → w5.heap[k]? = w4.heap[k]? := fun k h1 h2 => (HG5.out.block k h1 (fun e => by simp only [Value.ownBlock, Option.some.injEq] at e; exact h2 e)).trans (HKX.out k h2)
        have hk4 : ∀ k, k < wr.heap.size → kv.ownBlock ≠ some k → w4.heap[k]? = wr.heap[k]? := fun k h1 h2 => (HGROW.out.block k (by simp; omega) (fun e => h2 e.symm)).trans (heap_old h1 rfl)
        refine ⟨j + 1, .slice (some ⟨kg, 0, none⟩) (j + 1) kcap, rs ++ rs5, by omega, by go_num, ?_, ?_, ?_, ?_, ?_, HBX6.out⟩
        · have := HOWN5.out
          simpa using this
        · rw [htk, rowssOf_snoc]
          have h1 : RowsM (fun b => KB w.heap.size w5 b ∧ (Value.slice (some ⟨kg, 0, none⟩) (j + 1) kcap).ownBlock ≠ some b) w5 rs (rowssOf (l.take j) L.length (L.length + 1)) := by
            refine RowsM.keep (fun k hk => ?_) (fun k hk => ⟨?_, ?_⟩) HRS.out
            · exact (hk5 k (by have := hk.1.2.1; omega) (hng k hk.1)).trans (hk4 k hk.1.2.1 hk.2)
            · obtain ⟨h1, h2, c', fz', h3⟩ := hk.1
              exact ⟨h1, by omega, c', fz', ((hk5 k (by omega) (hng k hk.1)).trans (hk4 k h2 hk.2)).trans h3⟩
            · rcases HAT4.out with h | h
              · rw [show (Value.slice (some ⟨kg, 0, none⟩) (j + 1) kcap).ownBlock = kv.ownBlock from h.symm]; exact hk.2
              · intro e
                simp only [Value.ownBlock, Option.some.injEq] at e
                have := hk.1.2.1; omega
          have h2 : RowsM (fun b => KB w.heap.size w5 b ∧ (Value.slice (some ⟨kg, 0, none⟩) (j + 1) kcap).ownBlock ≠ some b) w5 rs5 (rowsOf l[j] L.length (L.length + 1 + Tree.nodess (l.take j))) := by
            have := HRS5.out
            rw [HL1.out, HNQ.out] at this
            refine RowsM.keep (fun _ _ => rfl) (fun k hk => ⟨⟨by have := hk.1; omega, hk.2⟩, fun e => ?_⟩) this
            simp only [Value.ownBlock, Option.some.injEq] at e
            have := hk.1; omega
          exact h1.append h2
        · rw [htk, kidsAt_snoc, show L.length + 1 + Tree.nodess (l.take j) = nn from HNQ.out.symm]
          exact HKOWN.out.keepG (fun k e => by simp only [Value.ownBlock, Option.some.injEq] at e; subst e; exact hk5 kg (by omega) hkg) (fun k hk => hk.elim)
        · have hgo := HGROW.out
          refine ⟨HG5.out.os.trans (HOX.out.1.trans (hgo.os.trans HG.out.os)), HG5.out.tape.trans (HOX.out.2.1.trans (hgo.tape.trans HG.out.tape)), HG5.out.output.trans (HOX.out.2.2.trans (hgo.output.trans HG.out.output)), by have := HG.out.size; omega, fun k h1 h2 => ?_⟩
          exact (hk5 k (by omega) (by rintro rfl; rcases HVK.out with h | h; exact h2 h.symm; omega)).trans ((hk4 k (by omega) (fun e => by have := (HKB.out k e).1; omega)).trans (HG.out.block k h1 h2))
        · rcases HAT5.out with h | h
          · rcases HVK.out with h' | h'
            · exact Or.inl (h.trans h'.symm)
            · exact Or.inr (fun k e => by rw [h] at e; simp only [Value.ownBlock, Option.some.injEq] at e; omega)
          · exact Or.inr (fun k e => by have := h k e; omega)
    · have hjk : j = l.length := by omega
      subst hjk
      rw [List.take_length] at hrs hkv
      have hkl : (kidsAt l (L.length + 1)).length = l.length := kidsAt_len _ _
      have hap := hown.apart hkv HT.out g rfl
      have hbx_0 := cv0 hbx
      have hbx_1 := cv1 hbx
      have hbx_2 := cv2 hbx
      have hbx_3 := cv3 hbx
      have hbx_4 := cv4 hbx
      have hbx_5 := cv5 hbx
      have hbx_l := lt_heap hbx
      have HBX := Lib.hid hbx
      clear hbx
      have HNQ := Lib.hid hnn'
      clear hnn' f5 f5f
      have HOWN := Lib.hid hown
      have HRS := Lib.hid hrs
      have HKV := Lib.hid hkv
      have HG := Lib.hid hg
      have HAT := Lib.hid hat
      have HNN := Lib.hid hnn
      have HRL := Lib.hid hrl
      have HAP := Lib.hid hap
      clear hown hrs hkv hg hat hnn hrl hap
      go_wp2_with fail
      go_returns
      refine ⟨_, ⟨kk, s, ty, i, kv, up⟩ :: rs, rfl, HOWN.out, ⟨⟨rfl, rfl, rfl, rfl, rfl, ?_⟩, HRS.out.keep (fun _ _ => rfl) (fun k hk => hk.1)⟩, HG.out, HAT.out.imp id (fun h k e => by have := h k e; omega)⟩
      obtain ⟨kA, kc, e⟩ := HKV.out.len
      obtain ⟨kxs, h1, h2⟩ := HKV.out
      refine ⟨kA, l.length, kc, by rw [← hkl]; exact e, hkl, by unfold maxLen; omega, fun hp => ?_⟩
      obtain ⟨kg, kcap, e2, hb1, hb2⟩ := h1.form (by rw [hkl]; exact hp)
      obtain ⟨c', fz', h3⟩ := Go.Lib.ownsRow_kind h1 kg (by rw [e2]; rfl)
      refine ⟨kg, 0, kxs, ?_, ⟨by omega, hb2, c', fz', h3⟩, h2.keep (fun _ _ => rfl) (fun k hk => hk.1.elim), fun q u hu => ?_⟩
      · rw [e2] at e; simp only [Value.slice.injEq] at e; exact e.1.symm
      · have := h1.cells (g := kg) (by rw [e2]; rfl) q u hu
        rw [addr_none] at this; exact this


/-- From row 'at' upwards the abstractions are those of the context. -/
inductive UpCtx (L : List TRow) : Int → List Sy → Prop where
  | nil : UpCtx L (-1) []
  | abs {k : Nat} {r : TRow} {s : Sy} {c : List Sy} : L[k]? = some r → r.kind = 3 → r.ty = s.ty → r.up < k → UpCtx L r.up c → UpCtx L k (s :: c)
  | other {k : Nat} {r : TRow} {c : List Sy} : L[k]? = some r → r.kind ≠ 3 → r.up < k → UpCtx L r.up c → UpCtx L k c

/-- Where the parts of the subterm u stand, whose row is k. -/
def PartsAt (S : List (List Sy × Tv)) (k : Nat) (c : List Sy) (kids : List Int) : Tv → Prop
  | .abs s b => kids = [((k + 1 : Nat) : Int)] ∧ S[k + 1]? = some (s :: c, b)
  | .app f x => kids = [((k + 1 : Nat) : Int), ((k + 1 + f.nodes : Nat) : Int)] ∧ S[k + 1]? = some (c, f) ∧ S[k + 1 + f.nodes]? = some (c, x)
  | _ => kids = []
/-- Row k is that of the subterm k. -/
def RowFits (L : List TRow) (S : List (List Sy × Tv)) (k : Nat) : Prop :=
  ∃ (c : List Sy) (u : Tv) (r : TRow), S[k]? = some (c, u) ∧ L[k]? = some r ∧ r.kind = u.lab.kind ∧ r.nm = u.lab.nm ∧ r.ty = u.lab.ty ∧ r.ix = u.lab.ix ∧ r.up < k ∧ UpCtx L r.up c ∧ PartsAt S k c r.kids u

theorem get_mid {α : Type} {A B : List α} {l : List α} {n j : Nat} (hn : A.length = n) (hj : j < l.length) : (A ++ l ++ B)[n + j]? = l[j]? := by
  subst hn
  rw [List.append_assoc, List.getElem?_append_right (by omega), List.getElem?_append_left (by omega)]
  congr 1; omega

theorem rows_fit : ∀ (v : Tv) (c : List Sy) (up : Int) (n : Nat) (A B : List TRow) (A' B' : List (List Sy × Tv)), A.length = n → A'.length = n → up < n → UpCtx (A ++ rowsOf v.tm up n ++ B) up c →
    ∀ j, j < v.nodes → RowFits (A ++ rowsOf v.tm up n ++ B) (A' ++ v.subs c ++ B') (n + j)
  | .con nm s, c, up, n, A, B, A', B', h1, h2, hup, hu, j, hj => by
    simp only [Tv.nodes] at hj
    obtain rfl : j = 0 := by omega
    refine ⟨c, .con nm s, ⟨1, nm, s.ty, 0, [], up⟩, ?_, ?_, rfl, rfl, rfl, rfl, by simp only; omega, hu, rfl⟩
    · rw [get_mid h2 (by simp [Tv.subs])]; rfl
    · rw [get_mid h1 (by simp [Tv.tm, rowsOf])]; rfl
  | .var i, c, up, n, A, B, A', B', h1, h2, hup, hu, j, hj => by
    simp only [Tv.nodes] at hj
    obtain rfl : j = 0 := by omega
    refine ⟨c, .var i, ⟨2, bNil, noTy, i, [], up⟩, ?_, ?_, rfl, rfl, rfl, rfl, by simp only; omega, hu, rfl⟩
    · rw [get_mid h2 (by simp [Tv.subs])]; rfl
    · rw [get_mid h1 (by simp [Tv.tm, rowsOf])]; rfl
  | .abs s b, c, up, n, A, B, A', B', h1, h2, hup, hu, j, hj => by
    have eR : A ++ rowsOf (Tv.abs s b).tm up n ++ B = (A ++ [⟨3, bNil, s.ty, 0, [((n + 1 : Nat) : Int)], up⟩]) ++ rowsOf b.tm n (n + 1) ++ B := by
      simp [Tv.tm, rowsOf, rowssOf, kidsAt]
    have eS : A' ++ (Tv.abs s b).subs c ++ B' = (A' ++ [(c, .abs s b)]) ++ b.subs (s :: c) ++ B' := by simp [Tv.subs]
    have h0 : (A ++ rowsOf (Tv.abs s b).tm up n ++ B)[n]? = some ⟨3, bNil, s.ty, 0, [((n + 1 : Nat) : Int)], up⟩ := by
      rw [eR, List.append_assoc, List.append_assoc, List.getElem?_append_right (by omega), h1, Nat.sub_self]; rfl
    have s0 : (A' ++ (Tv.abs s b).subs c ++ B')[n]? = some (c, .abs s b) := by
      rw [eS, List.append_assoc, List.append_assoc, List.getElem?_append_right (by omega), h2, Nat.sub_self]; rfl
    have hb := b.nodes_pos
    have s1 : (A' ++ (Tv.abs s b).subs c ++ B')[n + 1]? = some (s :: c, b) := by
      rw [eS, show n + 1 = (n + 1) + 0 by omega, get_mid (by simp [h2]) (by rw [Tv.subs_len]; omega)]
      cases b <;> rfl
    cases j with
    | zero => exact ⟨c, .abs s b, _, s0, h0, rfl, rfl, rfl, rfl, by simp only; omega, hu, rfl, s1⟩
    | succ j =>
      simp only [Tv.nodes] at hj
      have ih := rows_fit b (s :: c) n (n + 1) (A ++ [⟨3, bNil, s.ty, 0, [((n + 1 : Nat) : Int)], up⟩]) B (A' ++ [(c, .abs s b)]) B' (by simp [h1]) (by simp [h2]) (by omega) (by rw [← eR]; exact .abs h0 rfl rfl hup hu) j (by omega)
      rw [eR, eS, show n + (j + 1) = n + 1 + j by omega]
      exact ih
  | .app f x, c, up, n, A, B, A', B', h1, h2, hup, hu, j, hj => by
    have eR : A ++ rowsOf (Tv.app f x).tm up n ++ B = (A ++ [⟨4, bNil, noTy, 0, [((n + 1 : Nat) : Int), ((n + 1 + f.nodes : Nat) : Int)], up⟩]) ++ rowsOf f.tm n (n + 1) ++ (rowsOf x.tm n (n + 1 + f.nodes) ++ B) := by
      simp [Tv.tm, rowsOf, rowssOf, kidsAt, Tv.tm_nodes]
    have eR2 : A ++ rowsOf (Tv.app f x).tm up n ++ B = (A ++ [⟨4, bNil, noTy, 0, [((n + 1 : Nat) : Int), ((n + 1 + f.nodes : Nat) : Int)], up⟩] ++ rowsOf f.tm n (n + 1)) ++ rowsOf x.tm n (n + 1 + f.nodes) ++ B := by
      rw [eR]; simp
    have eS : A' ++ (Tv.app f x).subs c ++ B' = (A' ++ [(c, .app f x)]) ++ f.subs c ++ (x.subs c ++ B') := by simp [Tv.subs]
    have eS2 : A' ++ (Tv.app f x).subs c ++ B' = (A' ++ [(c, .app f x)] ++ f.subs c) ++ x.subs c ++ B' := by simp [Tv.subs]
    have h0 : (A ++ rowsOf (Tv.app f x).tm up n ++ B)[n]? = some ⟨4, bNil, noTy, 0, [((n + 1 : Nat) : Int), ((n + 1 + f.nodes : Nat) : Int)], up⟩ := by
      rw [eR, List.append_assoc, List.append_assoc, List.getElem?_append_right (by omega), h1, Nat.sub_self]; rfl
    have s0 : (A' ++ (Tv.app f x).subs c ++ B')[n]? = some (c, .app f x) := by
      rw [eS, List.append_assoc, List.append_assoc, List.getElem?_append_right (by omega), h2, Nat.sub_self]; rfl
    have s1 : (A' ++ (Tv.app f x).subs c ++ B')[n + 1]? = some (c, f) := by
      have := f.nodes_pos
      rw [eS, show n + 1 = (n + 1) + 0 by omega, get_mid (by simp [h2]) (by rw [Tv.subs_len]; omega)]
      cases f <;> rfl
    have s2 : (A' ++ (Tv.app f x).subs c ++ B')[n + 1 + f.nodes]? = some (c, x) := by
      have := x.nodes_pos
      rw [eS2, show n + 1 + f.nodes = (n + 1 + f.nodes) + 0 by omega, get_mid (by simp [h2, Tv.subs_len]; omega) (by rw [Tv.subs_len]; omega)]
      cases x <;> rfl
    cases j with
    | zero => exact ⟨c, .app f x, _, s0, h0, rfl, rfl, rfl, rfl, by simp only; omega, hu, rfl, s1, s2⟩
    | succ j =>
      simp only [Tv.nodes] at hj
      have hu1 : UpCtx (A ++ rowsOf (Tv.app f x).tm up n ++ B) n c := .other h0 (show ¬ ((4 : Int) = 3) by decide) hup hu
      by_cases hjf : j < f.nodes
      · have ih := rows_fit f c n (n + 1) (A ++ [⟨4, bNil, noTy, 0, [((n + 1 : Nat) : Int), ((n + 1 + f.nodes : Nat) : Int)], up⟩]) (rowsOf x.tm n (n + 1 + f.nodes) ++ B) (A' ++ [(c, .app f x)]) (x.subs c ++ B') (by simp [h1]) (by simp [h2]) (by omega) (by rw [← eR]; exact hu1) j hjf
        rw [eR, eS, show n + (j + 1) = n + 1 + j by omega]
        exact ih
      · obtain ⟨k, rfl⟩ : ∃ k, j = f.nodes + k := ⟨j - f.nodes, by omega⟩
        have ih := rows_fit x c n (n + 1 + f.nodes) (A ++ [⟨4, bNil, noTy, 0, [((n + 1 : Nat) : Int), ((n + 1 + f.nodes : Nat) : Int)], up⟩] ++ rowsOf f.tm n (n + 1)) B (A' ++ [(c, .app f x)] ++ f.subs c) B' (by simp [h1, rowsOf_len, Tv.tm_nodes]; omega) (by simp [h2, Tv.subs_len]; omega) (by omega) (by rw [← eR2]; exact hu1) k (by omega)
        rw [eR2, eS2, show n + (f.nodes + k + 1) = n + 1 + f.nodes + k by omega]
        exact ih
theorem rows_fit0 (v : Tv) (k : Nat) (hk : k < v.nodes) : RowFits (rowsOf v.tm (-1) 0) (v.subs []) k := by
  have := rows_fit v [] (-1) 0 [] [] [] [] rfl rfl (by omega) .nil k hk
  simpa using this

/-- Contexts are no longer than the term is large. -/
theorem Tv.subs_ctx : ∀ (v : Tv) (c : List Sy), ∀ p ∈ v.subs c, p.1.length ≤ c.length + v.nodes
  | .con _ _, c, p, hp => by simp [Tv.subs] at hp; subst hp; simp
  | .var _, c, p, hp => by simp [Tv.subs] at hp; subst hp; simp
  | .abs s b, c, p, hp => by
    simp only [Tv.subs, List.mem_cons] at hp
    rcases hp with rfl | hp
    · simp
    · have := Tv.subs_ctx b (s :: c) p hp
      simp only [List.length_cons, Tv.nodes] at this ⊢; omega
  | .app f x, c, p, hp => by
    simp only [Tv.subs, List.mem_cons, List.mem_append] at hp
    simp only [Tv.nodes]
    rcases hp with rfl | hp | hp
    · simp
    · have := Tv.subs_ctx f c p hp; omega
    · have := Tv.subs_ctx x c p hp; omega
/-- A part without a type: the whole has none. -/
theorem Tv.subs_some : ∀ (v : Tv) (c : List Sy) (s : Sy), Tv.typ c v = some s → ∀ p ∈ v.subs c, (Tv.typ p.1 p.2).isSome = true
  | .con _ _, c, s, h, p, hp => by simp [Tv.subs] at hp; subst hp; simp [h]
  | .var _, c, s, h, p, hp => by simp [Tv.subs] at hp; subst hp; simp [h]
  | .abs s b, c, u, h, p, hp => by
    simp only [Tv.subs, List.mem_cons] at hp
    rcases hp with rfl | hp
    · simp [h]
    · simp only [Tv.typ, Option.map_eq_some_iff] at h
      obtain ⟨r, h1, _⟩ := h
      exact Tv.subs_some b (s :: c) r h1 p hp
  | .app f x, c, u, h, p, hp => by
    simp only [Tv.subs, List.mem_cons, List.mem_append] at hp
    rcases hp with rfl | hp
    · simp [h]
    · simp only [Tv.typ] at h
      split at h
      · rename_i a b s' e1 e2
        rcases hp with hp | hp
        · exact Tv.subs_some f c _ e1 p hp
        · exact Tv.subs_some x c _ e2 p hp
      · simp at h


/-- The cells of row k. -/
theorem row_cells {w : World} {S : Nat → Prop} {base n g cap k : Nat} {T : TypeId} {rs : List RRow} {r : RRow} (h : rowRep.Own T base w S (.slice (some ⟨g, 0, none⟩) n cap) rs) (hk : rs[k]? = some r) :
    ∃ u0 u1, Ty.In w S r.ty u0 u1 ∧ w.cell? ⟨g, k * 7, none⟩ = some (.int .i64 r.kind) ∧ w.cell? ⟨g, k * 7 + 1, none⟩ = some (.string r.nm) ∧ w.cell? ⟨g, k * 7 + 2, none⟩ = some u0 ∧ w.cell? ⟨g, k * 7 + 3, none⟩ = some u1 ∧
      w.cell? ⟨g, k * 7 + 4, none⟩ = some (.int .i64 r.ix) ∧ w.cell? ⟨g, k * 7 + 5, none⟩ = some r.kv ∧ w.cell? ⟨g, k * 7 + 6, none⟩ = some (.int .i64 r.up) := by
  obtain ⟨xs, h1, h2⟩ := h
  obtain ⟨cs, ⟨u0, u1, rfl, _, h4, _⟩, h5⟩ := h2.at_ hk
  have hc : ∀ q u, xs[q]? = some u → w.cell? ⟨g, q, none⟩ = some u := fun q u hu => by
    have := h1.cells (g := g) rfl q u hu; rw [addr_none] at this; simpa using this
  exact ⟨u0, u1, h4.mono (fun b hb => hb.1), hc _ _ (h5 0 _ rfl), hc _ _ (h5 1 _ rfl), hc _ _ (h5 2 _ rfl), hc _ _ (h5 3 _ rfl), hc _ _ (h5 4 _ rfl), hc _ _ (h5 5 _ rfl), hc _ _ (h5 6 _ rfl)⟩

/-- Upwards to the j-th abstraction. -/
theorem UpCtx.step {L : List TRow} {at_ : Int} {c : List Sy} {j : Nat} {s : Sy} (h : UpCtx L at_ c) (hj : c[j]? = some s) :
    ∃ (k : Nat) (r : TRow), at_ = k ∧ L[k]? = some r ∧ r.up < k ∧ ((r.kind = 3 ∧ j = 0 ∧ r.ty = s.ty) ∨ (r.kind = 3 ∧ ∃ i c', j = i + 1 ∧ UpCtx L r.up c' ∧ c'[i]? = some s) ∨ (r.kind ≠ 3 ∧ UpCtx L r.up c)) := by
  cases h with
  | nil => simp at hj
  | abs h1 h2 h3 h4 h5 =>
    rename_i k r s' c'
    refine ⟨k, r, rfl, h1, h4, ?_⟩
    cases j with
    | zero => exact Or.inl ⟨h2, rfl, by simp at hj; rw [h3, hj]⟩
    | succ i => exact Or.inr (Or.inl ⟨h2, i, c', rfl, h5, by simpa using hj⟩)
  | other h1 h2 h3 h4 =>
    rename_i k r
    exact ⟨k, r, rfl, h1, h3, Or.inr (Or.inr ⟨h2, h4⟩)⟩

set_option maxRecDepth 100000 in
set_option maxHeartbeats 4000000 in
theorem binder_any (rs : List RRow) (R : List TRow) (K : Nat → Prop) (S : Nat → Prop) (base g n cap k : Nat) (j : Nat) (r : TRow) (c : List Sy) (s : Sy) (w : World) (hown : rowRep.Own 79 base w S (.slice (some ⟨g, 0, none⟩) n cap) rs)
    (hm : RowsM K w rs R) (hn : rs.length = n) (hk : R[k]? = some r) (hix : r.ix = j) (hj1 : j ≤ 1000000) (hn1 : n ≤ 1000000) (hu : UpCtx R r.up c) (hj : c[j]? = some s) :
    Calls Tryd.prog 35 #[.slice (some ⟨g, 0, none⟩) n cap, .int .i64 k] w fun e w' => ∃ p q : _, e = .returned (.int .i64 ((p : Nat) : Int)) ∧ R[p]? = some q ∧ q.ty = s.ty ∧ Below w.heap.size w w' := by
  have hlen := hm.len
  obtain ⟨r', hr', hm'⟩ := hm.at_ hk
  obtain ⟨u0, u1, _, c0, c1, c2, c3, c4, c5, c6⟩ := row_cells hown hr'
  have hkl : k < rs.length := (List.getElem?_eq_some_iff.1 hr').1
  have e4 := hm'.ix
  have e6 := hm'.up
  rw [hix] at e4
  have hgl : g < w.heap.size := (hown.block g rfl).2
  have q0 : (0 : Int) ≤ (k : Int) := by omega
  have q1 : (k : Int) < (n : Int) := by omega
  rw [e4] at c4
  rw [e6] at c6
  have hu' := hu
  clear hu hix hk hm' e4 e6 hr'
  have HOWN := Lib.hid hown
  have HM := Lib.hid hm
  have HUP := Lib.hid hu'
  have HJ := Lib.hid hj
  clear hown hm hu' hj
  go_enter Tryd.func35, Tryd.ntmps35
  go_wp2_with fail
  clear c0 c1 c2 c3 c4 c5 c6
  go_loopg [5, 6] n (fun m v5 v6 wr => wr = w ∧ ∃ (a : Nat) (i : Nat) (c' : List Sy), v5 = .int .i64 i ∧ v6 = .int .i64 a ∧ UpCtx R a c' ∧ c'[i]? = some s ∧ i ≤ j ∧ a < m)
  case atStart =>
    obtain ⟨a, q, e1, e2, e3, _⟩ := HUP.out.step HJ.out
    have hal := (List.getElem?_eq_some_iff.1 e2).1
    refine ⟨rfl, a, j, c, rfl, by rw [e1], by rw [← e1]; exact HUP.out, HJ.out, Nat.le_refl _, by omega⟩
  case round =>
    obtain ⟨rfl, a, i, c', rfl, rfl, hu1, hj', hij, ham⟩ := hrel
    obtain ⟨a', q, e1, e2, e3, h4⟩ := hu1.step hj'
    obtain rfl : a = a' := by omega
    obtain ⟨r', hr', hm'⟩ := HM.out.at_ e2
    obtain ⟨u0, u1, _, c0, c1, c2, c3, c4, c5, c6⟩ := row_cells HOWN.out hr'
    have hal : a < rs.length := (List.getElem?_eq_some_iff.1 hr').1
    rw [hm'.kind] at c0
    rw [hm'.up] at c6
    have p0 : (0 : Int) ≤ (a : Int) := by omega
    have p1 : (a : Int) < (n : Int) := by omega
    have HE2 := Lib.hid e2
    have HU1 := Lib.hid hu1
    have HJP := Lib.hid hj'
    clear e2 hr' hm' hu1 hj' e1
    rcases h4 with ⟨h5, h6, h7⟩ | ⟨h5, i', c'', h6, h7, h8⟩ | ⟨h5, h6⟩
    · have t3 : (q.kind == 3) = true := by rw [h5]; rfl
      subst h6
      have H7 := Lib.hid h7
      clear h5 h7
      go_wp2_with fail
      go_returns
      exact ⟨a, q, rfl, HE2.out, H7.out, Below.refl _ _⟩
    · have t3 : (q.kind == 3) = true := by rw [h5]; rfl
      subst h6
      have t4 : (((i' + 1 : Nat) : Int) == 0) = false := beq_eq_false_iff_ne.2 (by omega)
      have t5 : ((i' + 1 : Nat) : Int) - 1 = (i' : Int) := by omega
      obtain ⟨a2, q2, e1, _, _, _⟩ := h7.step h8
      rw [e1] at c6 h7 e3
      have H7 := Lib.hid h7
      have H8 := Lib.hid h8
      clear h5 h7 h8 e1
      go_wp2_with fail
      go_roundg a
      case measure => omega
      case rel => exact ⟨rfl, a2, i', c'', by first | rfl | (rw [t5]) | (congr 1; omega), rfl, H7.out, H8.out, by omega, by omega⟩
    · have t3 : (q.kind == 3) = false := beq_eq_false_iff_ne.2 h5
      obtain ⟨a2, q2, e1, _, _, _⟩ := h6.step HJP.out
      rw [e1] at c6 h6 e3
      have H6 := Lib.hid h6
      clear h5 h6 e1
      go_wp2_with fail
      go_roundg a
      case measure => omega
      case rel => exact ⟨rfl, a2, i, c', rfl, rfl, H6.out, HJP.out, by omega, by omega⟩

end Go.Proofs.YtnoceodmnjhljaaDoor
