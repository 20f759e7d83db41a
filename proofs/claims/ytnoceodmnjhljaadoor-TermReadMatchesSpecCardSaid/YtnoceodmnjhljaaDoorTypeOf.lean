/-
  The reference's TypeOf: the walk.
-/
import Derived.Test.YtnoceodmnjhljaaDoorProg
import Derived.Test.YtnoceodmnjhljaaDoorRowsWalk
import Derived.Test.YtnoceodmnjhljaaDoorLam
import Derived.Test.YtnoceodmnjhljaaDoorSyBytes
import Derived.Test.YtnoceodmnjhljaaDoorSimple
import Derived.Test.YtnoceodmnjhljaaDoorStack
import Derived.Test.YtnoceodmnjhljaaDoorRepsEx
import Derived.Test.YtnoceodmnjhljaaDoorSets
import Derived.Deep.DeepCutAuto
namespace Go.Proofs.YtnoceodmnjhljaaDoor
open Go Go.RowKit
set_option linter.unusedSimpArgs false
set_option linter.unusedVariables false

theorem Tv.typ_nodes : ∀ (v : Tv) (c : List Sy) (s : Sy), v.ok c.length → (∀ x ∈ c, x.nodes ≤ 200) → Tv.typ c v = some s → s.nodes ≤ 201 * v.nodes
  | .con nm s', c, s, h, _, ht => by
    obtain rfl : s' = s := by simpa [Tv.typ] using ht
    obtain ⟨s2, e, _, h3, _⟩ := Ty.val_zero s'.ty 1 0 h.2
    obtain rfl := Sy.ty_inj _ _ e
    simp only [Tv.nodes]; omega
  | .var i, c, s, _, hc, ht => by
    have := hc s (List.mem_of_getElem? (show c[i]? = some s from ht))
    simp only [Tv.nodes]; omega
  | .abs s' b, c, s, h, hc, ht => by
    obtain ⟨r, rfl, h1⟩ := Tv.typ_abs ht
    obtain ⟨s2, e, _, h3, _⟩ := Ty.val_zero s'.ty 1 0 h.1
    obtain rfl := Sy.ty_inj _ _ e
    have := Tv.typ_nodes b (s' :: c) r h.2 (fun x hx => by
      rcases List.mem_cons.1 hx with rfl | hx
      · omega
      · exact hc x hx) h1
    simp only [Tv.nodes, Sy.nodes]; omega
  | .app f x, c, s, h, hc, ht => by
    obtain ⟨a, h1, _⟩ := Tv.typ_app ht
    have := Tv.typ_nodes f c _ h.1 hc h1
    simp only [Tv.nodes, Sy.nodes] at this ⊢; omega
theorem Tv.subs_small : ∀ (v : Tv) (c : List Sy), v.ok c.length → (∀ x ∈ c, x.nodes ≤ 200) → ∀ p ∈ v.subs c, ∀ x ∈ p.1, x.nodes ≤ 200
  | .con _ _, c, _, hc, p, hp => by simp [Tv.subs] at hp; subst hp; exact hc
  | .var _, c, _, hc, p, hp => by simp [Tv.subs] at hp; subst hp; exact hc
  | .abs s b, c, h, hc, p, hp => by
    obtain ⟨s2, e, _, h3, _⟩ := Ty.val_zero s.ty 1 0 h.1
    obtain rfl := Sy.ty_inj _ _ e
    simp only [Tv.subs, List.mem_cons] at hp
    rcases hp with rfl | hp
    · exact hc
    · exact Tv.subs_small b (s :: c) h.2 (fun x hx => by
        rcases List.mem_cons.1 hx with rfl | hx
        · omega
        · exact hc x hx) p hp
  | .app f x, c, h, hc, p, hp => by
    simp only [Tv.subs, List.mem_cons, List.mem_append] at hp
    rcases hp with rfl | hp | hp
    · exact hc
    · exact Tv.subs_small f c h.1 hc p hp
    · exact Tv.subs_small x c h.2 hc p hp
theorem Tv.subs_nodes : ∀ (v : Tv) (c : List Sy), ∀ p ∈ v.subs c, p.2.nodes ≤ v.nodes
  | .con _ _, c, p, hp => by simp [Tv.subs] at hp; subst hp; exact Nat.le_refl _
  | .var _, c, p, hp => by simp [Tv.subs] at hp; subst hp; exact Nat.le_refl _
  | .abs s b, c, p, hp => by
    simp only [Tv.subs, List.mem_cons] at hp
    rcases hp with rfl | hp
    · exact Nat.le_refl _
    · have := Tv.subs_nodes b (s :: c) p hp; simp only [Tv.nodes]; omega
  | .app f x, c, p, hp => by
    simp only [Tv.subs, List.mem_cons, List.mem_append] at hp
    rcases hp with rfl | hp | hp
    · exact Nat.le_refl _
    · have := Tv.subs_nodes f c p hp; simp only [Tv.nodes]; omega
    · have := Tv.subs_nodes x c p hp; simp only [Tv.nodes]; omega

/-- What TypeOf returns. -/
def TypeOfAt (v : Tv) (w : World) (S : Nat → Prop) (e : Ending) (w' : World) : Prop :=
  ∃ v0 v1, e = .returned (.tuple #[.agg #[v0, v1], .bool (v.typ []).isSome]) ∧ (∀ s, v.typ [] = some s → s.ty.In w' (Ex S w w') v0 v1) ∧ (v.typ [] = none → v0 = .string bNil ∧ v1 = .slice none 0 0) ∧ Below w.heap.size w w'

theorem cell_put2 {w : World} {k p g i j : Nat} {u v : Value} {x : Option Value} (hne : k ≠ g ∨ (p ≠ i ∧ p ≠ j)) (h : w.cell? ⟨k, p, none⟩ = x) : ((w.setCell ⟨g, i, none⟩ u).setCell ⟨g, j, none⟩ v).cell? ⟨k, p, none⟩ = x := by
  have e1 : (⟨k, p, none⟩ : Addr) ≠ ⟨g, i, none⟩ := fun e => by simp only [Addr.mk.injEq, and_true] at e; omega
  have e2 : (⟨k, p, none⟩ : Addr) ≠ ⟨g, j, none⟩ := fun e => by simp only [Addr.mk.injEq, and_true] at e; omega
  exact (World.cell?_setCell_other _ _ _ _ (Ne.symm e2)).trans ((World.cell?_setCell_other _ _ _ _ (Ne.symm e1)).trans h)
theorem grown_at_tb {a b : World} {k i j : Nat} (h : a.grownBy b (some k)) (u v : Value) : a.grownBy ((b.setCell ⟨k, i, none⟩ u).setCell ⟨k, j, none⟩ v) (some k) :=
  ⟨h.os, h.tape, h.output, by simp only [size_set]; exact h.size, fun q hq hne => heap_far _ (by rintro rfl; exact hne rfl) (heap_far _ (by rintro rfl; exact hne rfl) (h.block q hq hne))⟩

set_option maxRecDepth 100000 in
set_option maxHeartbeats 4000000 in
theorem typeOf_any (v : Tv) (cs : List Value) (w : World) (S : Nat → Prop) (hok : v.ok 0) (hn : v.nodes ≤ 10000) (ht : tmRep.R w S v.tm cs) (hS : ∀ b, S b → b < w.heap.size) :
    Calls Tryd.prog 15 #[.agg cs.toArray] w (TypeOfAt v w S) := by
  obtain ⟨s1, A1, n1, c1, B1, m1, d1, rfl, _, _⟩ := Tm.shape ht
  have hnd := v.tm_nodes
  have hrows := fun (o p : Obj) => Lib.hid (rows_any v.tm.nodes v.tm [.int .i64 v.tm.lab.kind, .string v.tm.lab.nm, .int .i64 v.tm.lab.ix, .string s1, .slice A1 n1 c1, .slice B1 m1 d1] (-1) (.slice none 0 0) [] w.heap.size ((w.alloc o).alloc p) S (Nat.le_refl _) (by simp; omega) (tmRep.keep ht (fun k hk => heap_old (by have := hS k hk; simp; omega) (heap_old (hS k hk) rfl)) (fun _ h => h)) hS (by simp; omega) Rep.Own.nil)
  have HT := Lib.hid ht
  have HS := Lib.hid hS
  have HROWS := Lib.hid hrows
  have HOK := Lib.hid hok
  clear ht hS hrows hok
  go_enter Tryd.func15, Tryd.ntmps15
  go_wp2_with fail
  (with_reducible refine (HROWS.out _ _).out.mono ?_)
  rintro e w1 ⟨v4, rs, rfl, hown, hrs, hg1, hat1⟩
  have hrl := hrs.len
  rw [rowsOf_len, hnd] at hrl
  simp only [List.nil_append] at hown
  obtain ⟨Av, cv, rfl⟩ := hown.len
  obtain ⟨n, hnn⟩ : ∃ n, n = rs.length := ⟨_, rfl⟩
  rw [← hnn] at hown hrl
  have hnp := v.nodes_pos
  have hn1 : n ≤ 10000 := by omega
  have hn0 : 1 ≤ n := by omega
  obtain ⟨g, cap, e1, hbg, hgl⟩ : ∃ g cap, (Value.slice Av n cv) = .slice (some ⟨g, 0, none⟩) n cap ∧ w.heap.size ≤ g ∧ g < w1.heap.size := by
    obtain ⟨xs, h1, _⟩ := hown
    rw [← hnn] at h1
    exact h1.form (by omega)
  simp only [Value.slice.injEq, true_and] at e1
  obtain ⟨rfl, rfl⟩ := e1
  rw [← hnn]
  have hat2 : w.heap.size + 2 ≤ g := by
    rcases hat1 with h | h
    · simp [Value.ownBlock] at h
    · have := h g rfl; simpa using this
  have p0 := (hg1.block w.heap.size (by simp; omega) (by simp [Value.ownBlock])).trans (heap_old (by simp) (heap_at rfl))
  have p1 := (hg1.block (w.heap.size + 1) (by simp) (by simp [Value.ownBlock])).trans (heap_at (by simp))
  have z1 : w.heap.size + 2 ≤ w1.heap.size := by have := hg1.size; simpa using this
  have hB1 : Below w.heap.size w w1 := ⟨hg1.os, hg1.tape, hg1.output, by omega, fun k hk => (hg1.block k (by simp; omega) (by simp [Value.ownBlock])).trans (heap_old (by simp; omega) (heap_old hk rfl))⟩
  have HOWN := Lib.hid hown
  have HRS := Lib.hid hrs
  have HG1 := Lib.hid hg1
  have HAT1 := Lib.hid hat1
  have HB1 := Lib.hid hB1
  have HNN := Lib.hid hnn
  have HRL := Lib.hid hrl
  clear hown hrs hg1 hat1 hB1 hnn hrl
  have p0_0 := cv0 p0
  have p0_1 := cv1 p0
  have p0_2 := cv2 p0
  have p0_3 := cv3 p0
  have p0_4 := cv4 p0
  have p0_5 := cv5 p0
  have p0_l := lt_heap p0
  have P0 := Lib.hid p0
  clear p0
  have p1_0 := cv0 p1
  have p1_1 := cv1 p1
  have p1_l := lt_heap p1
  have P1 := Lib.hid p1
  clear p1
  obtain ⟨i0, hi0, hz0, hz1, hz2⟩ := info_parts infoSimple
  go_upto_region 2 with (fail)
  go_wp2_with (at_make; refine wpList_make_full _ rfl _ _ 22 rfl w.heap.size 24 i0 (.agg #[.string ⟨#[]⟩, .slice none 0 0]) 2 Tryd.underlying22 hi0 hz0 hz1 .i64 .i64 _ _ n rfl rfl (by first | rfl | omega) (by first | rfl | omega) (by rw [hz2]; omega) (by unfold maxLen; omega) (by omega) ?_; intro w2 hmk hmg)
  have z2 := hmg.size
  have hTown : tyRep.Own 24 w.heap.size w2 S (.slice (some ⟨w1.heap.size, 0, none⟩) n n) (List.replicate n noTy) := ⟨_, by rw [List.length_replicate]; exact hmk, All_blank n⟩
  have htl : w1.heap.size < w2.heap.size := (hTown.block _ rfl).2
  have hB2 : Below w.heap.size w w2 := HB1.out.grown hmg (by omega) (fun k hk => by cases hk)
  have hk2 : ∀ k, k < w1.heap.size → w2.heap[k]? = w1.heap[k]? := fun k hk => hmg.block k hk (by simp)
  have hown2 : rowRep.Own 79 w.heap.size w2 S (.slice (some ⟨g, 0, none⟩) n cv) rs := HOWN.out.keepG (fun k e => by simp only [Value.ownBlock, Option.some.injEq] at e; subst e; exact hk2 _ hgl) (fun b hb => hk2 b (by have := HS.out b hb; omega))
  have hrs2 : RowsM (KB (w.heap.size + 2) w1) w2 rs (rowsOf v.tm (-1) 0) := HRS.out.keep (fun b hb => hk2 b hb.2.1) (fun b hb => ⟨by have := hb.1; simpa using this, hb.2⟩)
  have p1 := (hk2 _ p1_l).trans P1.out
  clear hmk p0_0 p0_1 p0_2 p0_3 p0_4 p0_5 p0_l p1_0 p1_1 p1_l
  have hS2 : ∀ k, S k → w2.heap[k]? = w.heap[k]? := fun k hk => hB2.block k (HS.out k hk)
  have HTOWN := Lib.hid hTown
  have HB2 := Lib.hid hB2
  have HK2 := Lib.hid hk2
  have HOWN2 := Lib.hid hown2
  have HRS2 := Lib.hid hrs2
  have HS2 := Lib.hid hS2
  have P1 := Lib.hid p1
  have HMG := Lib.hid hmg
  clear hTown hB2 hk2 hown2 hrs2 hS2 p1 hmg
  go_wp2_with fail
  go_loopg [6] n (fun m v6 wr => v6 = .int .i64 ((m : Int) - 1) ∧ m ≤ n ∧ w2.grownBy wr (some w1.heap.size) ∧ ∃ TL : List Ty, TL.length = n ∧ tyRep.Own 24 w.heap.size wr (New S w2.heap.size wr) (.slice (some ⟨w1.heap.size, 0, none⟩) n n) TL ∧
    (∀ (k : Nat) (c : List Sy) (u : Tv), m ≤ k → (v.subs [])[k]? = some (c, u) → ∃ s, Tv.typ c u = some s ∧ TL[k]? = some s.ty))
  case atStart =>
    refine ⟨rfl, Nat.le_refl _, ⟨rfl, rfl, rfl, Nat.le_refl _, fun _ _ _ => rfl⟩, _, List.length_replicate .., HTOWN.out.mono (fun b hb => Or.inl hb), fun k c u hk hs => ?_⟩
    have := (List.getElem?_eq_some_iff.1 hs).1
    rw [Tv.subs_len] at this
    have := HRL.out
    omega
  case round =>
    obtain ⟨rfl, hmn, hgr, TL, hTL, hTo, hty⟩ := hrel
    have zr := hgr.size
    have hkr : ∀ k, k < w2.heap.size → k ≠ w1.heap.size → wr.heap[k]? = w2.heap[k]? := fun k h1 h2 => hgr.block k h1 (fun e => by simp only [Option.some.injEq] at e; exact h2 e)
    have hBr : Below w.heap.size w wr := HB2.out.trans ⟨hgr.os, hgr.tape, hgr.output, hgr.size, fun k hk => hkr k (by omega) (by omega)⟩
    have hTl : ∀ k, New S w2.heap.size wr k → k < wr.heap.size := New.lo (fun k hk => by have := HS.out k hk; omega) zr
    have p1 := (hkr (w.heap.size + 1) (by omega) (by omega)).trans P1.out
    have lg : g < wr.heap.size := by omega
    have lt : w1.heap.size < wr.heap.size := by omega
    obtain ⟨txs, htx1, htx2⟩ := id hTo
    rw [hTL] at htx1
    have hcell : ∀ q u, txs[q]? = some u → wr.cell? ⟨w1.heap.size, q, none⟩ = some u := fun q u hu => by
      have := htx1.cells (g := w1.heap.size) rfl q u hu; rw [addr_none] at this; simpa using this
    have hfree : ∀ q, wr.frozen? ⟨w1.heap.size, q, none⟩ = false := fun q => htx1.frozenAt q
    cases gk with
    | zero =>
      have hs0 : (v.subs [])[0]? = some ([], v) := by cases v <;> rfl
      obtain ⟨s, ht, hT0⟩ := hty 0 [] v (Nat.le_refl _) hs0
      obtain ⟨ks, ⟨v0, v1, rfl, hIn⟩, hkc⟩ := htx2.at_ hT0
      obtain ⟨sx, Ax, nx, cx, rfl, rfl⟩ := hIn.shape
      have f0 : wr.cell? ⟨w1.heap.size, 0, none⟩ = some (.string sx) := hcell _ _ (by simpa using hkc 0 _ rfl)
      have f1 : wr.cell? ⟨w1.heap.size, 1, none⟩ = some (.slice Ax nx cx) := hcell _ _ (by simpa using hkc 1 _ rfl)
      have e0 : ((0 : Nat) : Int) - 1 = -1 := rfl
      rw [e0]
      have q1 : (0 : Int) < (n : Int) := by omega
      have HIN := Lib.hid (hIn.mono (fun b hb => hb.1))
      have HTY0 := Lib.hid ht
      clear hTo hty htx1 htx2 hcell hfree hIn hkc hs0 hT0 ht e0
      have HGR := Lib.hid hgr
      have HKR := Lib.hid hkr
      have HBR := Lib.hid hBr
      have HTL := Lib.hid hTl
      clear hgr hkr hBr hTl
      have p1_0 := cv0 p1
      have p1_1 := cv1 p1
      have p1_f0 := free_heap p1 0
      have p1_f1 := free_heap p1 1
      have p1_l := lt_heap p1
      have P1 := Lib.hid p1
      clear p1
      go_wp2_with fail
      refine bodyPost_ret (v := .tuple #[.agg #[.string sx, .slice Ax nx cx], .bool true]) (by simp [results, Tryd.results15, go_sem, p1_0, p1_1, p1_l]) rfl ?_
      refine ⟨_, _, by rw [HTY0.out]; rfl, fun s' h => ?_, fun h => by rw [HTY0.out] at h; simp at h, below2 HBR.out (by omega)⟩
      obtain rfl : s = s' := by rw [HTY0.out] at h; exact Option.some.inj h
      refine Ty.In_keep (fun k hk => far2 ?_ rfl) (fun k hk => ?_) _ _ _ HIN.out
      · rcases hk with hk | hk
        · have := HS.out k hk; omega
        · have := hk.1; omega
      · rcases hk with hk | hk
        · exact Or.inl hk
        · exact Or.inr ⟨by have := hk.1; omega, lt2 hk.2⟩
    | succ i =>
      have e6 : ((i + 1 : Nat) : Int) - 1 = (i : Int) := by omega
      rw [e6]
      have hiv : i < v.nodes := by have := HRL.out; omega
      obtain ⟨c, u, r, hSi, hRi, hrk, hrn, hrt, hri, hru, hup, hparts⟩ := rows_fit0 v i hiv
      have hown3 : rowRep.Own 79 w.heap.size wr S (.slice (some ⟨g, 0, none⟩) n cv) rs := HOWN2.out.keepG (fun k e => by simp only [Value.ownBlock, Option.some.injEq] at e; subst e; exact hkr _ (by omega) (by omega)) (fun b hb => hkr b (by have := HS.out b hb; omega) (by have := HS.out b hb; omega))
      have hKB : ∀ b, KB (w.heap.size + 2) w1 b → wr.heap[b]? = w2.heap[b]? := fun b hb => hkr b (by have := hb.2.1; omega) (by have := hb.2.1; omega)
      have hrs3 : RowsM (KB (w.heap.size + 2) w1) wr rs (rowsOf v.tm (-1) 0) := HRS2.out.keep hKB (fun _ h => h)
      obtain ⟨r', hr', hm'⟩ := hrs3.at_ hRi
      obtain ⟨u0, u1, hrty, c0, c1, c2, c3, c4, c5, c6⟩ := row_cells hown3 hr'
      obtain ⟨sr, Ar, nr, cr, rfl, rfl⟩ := hrty.shape
      rw [hm'.kind, hrk] at c0
      rw [hm'.ty, hrt] at hrty
      have hkv := hm'.kids
      obtain ⟨Ak, nk, ck, ekv, hkl, _⟩ := id hkv
      rw [ekv] at c5 hkv
      have p2 : (0 : Int) ≤ (i : Int) := by omega
      have p3 : (i : Int) < (n : Int) := by omega
      have huok := Tv.subs_typ v [] HOK.out (c, u) (List.mem_of_getElem? hSi)
      have hfin : ∀ s, Tv.typ c u = some s → ∀ (k : Nat) (c' : List Sy) (u' : Tv), i ≤ k → (v.subs [])[k]? = some (c', u') → ∃ s', Tv.typ c' u' = some s' ∧ (TL.set i s.ty)[k]? = some s'.ty := by
        intro s hs k c' u' hk hku
        by_cases h : k = i
        · subst h
          rw [hSi] at hku
          simp only [Option.some.injEq, Prod.mk.injEq] at hku
          obtain ⟨rfl, rfl⟩ := hku
          exact ⟨s, hs, by rw [List.getElem?_set_self (by omega)]⟩
        · obtain ⟨s', h1, h2⟩ := hty k c' u' (by omega) hku
          exact ⟨s', h1, by rw [List.getElem?_set_ne (by omega)]; exact h2⟩
      clear hcell hfree htx2 htx1 hKB hm' hr' hrn
      have HGR := Lib.hid hgr
      have HKR := Lib.hid hkr
      have HBR := Lib.hid hBr
      have HTL := Lib.hid hTl
      have HTO := Lib.hid hTo
      have HTY := Lib.hid hty
      have HOWN3 := Lib.hid hown3
      have HRS3 := Lib.hid hrs3
      have HRTY := Lib.hid hrty
      have HKV := Lib.hid hkv
      have HKL := Lib.hid hkl
      have HPARTS := Lib.hid hparts
      have HUOK := Lib.hid huok
      have HFIN := Lib.hid hfin
      have P1 := Lib.hid p1
      have HSI := Lib.hid hSi
      have HRI := Lib.hid hRi
      have HUP := Lib.hid hup
      clear hgr hkr hBr hTl hTo hty hown3 hrs3 hrty hkv hkl hparts huok hfin p1 hSi hRi hup
      go_upto_region 7 with (fail)
      refine gen_last (fun wx => wx.heap[wr.heap.size]? = some (.cells #[.int .i64 u.lab.kind, .string r'.nm, .string sr, .slice Ar nr cr, .int .i64 r'.ix, .slice Ak nk ck, .int .i64 r'.up] 79 (0, 0)) ∧ Below wr.heap.size wr wx ∧ wr.heap.size + 1 ≤ wx.heap.size) ?_ ?_
      · exact ⟨heap_at rfl, (Below.refl _ _).alloc (Nat.le_refl _) _, by simp⟩
      rintro wx ⟨px, hbx, zx⟩
      have hgx : w2.grownBy wx (some w1.heap.size) := ⟨hbx.os.trans HGR.out.os, hbx.tape.trans HGR.out.tape, hbx.output.trans HGR.out.output, by omega, fun k h1 h2 => (hbx.block k (by omega)).trans (HGR.out.block k h1 h2)⟩
      have hSx : ∀ k, New S w2.heap.size wr k → wx.heap[k]? = wr.heap[k]? := fun k hk => hbx.block k (HTL.out k hk)
      have hTx : tyRep.Own 24 w.heap.size wx (New S w2.heap.size wx) (.slice (some ⟨w1.heap.size, 0, none⟩) n n) TL := (HTO.out.keepG (fun k e => by simp only [Value.ownBlock, Option.some.injEq] at e; subst e; exact hbx.block _ lt) hSx).mono (New.up (by omega))
      have hownx : rowRep.Own 79 w.heap.size wx S (.slice (some ⟨g, 0, none⟩) n cv) rs := HOWN3.out.keepG (fun k e => by simp only [Value.ownBlock, Option.some.injEq] at e; subst e; exact hbx.block _ lg) (fun b hb => hbx.block b (by have := HS.out b hb; omega))
      have hrsx : RowsM (KB (w.heap.size + 2) w1) wx rs (rowsOf v.tm (-1) 0) := HRS3.out.keep (fun b hb => hbx.block b (by have := hb.2.1; omega)) (fun _ h => h)
      have hkvx := HKV.out.keep (fun b hb => hbx.block b (by have := hb.2.1; omega)) (fun _ h => h)
      have hrtx := HRTY.out.keep (fun b hb => hbx.block b (by have := HS.out b hb; omega))
      have p1 := (hbx.block _ (by omega)).trans P1.out
      have hBwx : Below w.heap.size w wx := HBR.out.trans (hbx.mono (by omega))
      obtain ⟨txs, htx1, htx2⟩ := id hTx
      rw [hTL] at htx1
      have hcell : ∀ q u, txs[q]? = some u → wx.cell? ⟨w1.heap.size, q, none⟩ = some u := fun q u hu => by
        have := htx1.cells (g := w1.heap.size) rfl q u hu; rw [addr_none] at this; simpa using this
      have hfree : ∀ q, wx.frozen? ⟨w1.heap.size, q, none⟩ = false := fun q => htx1.frozenAt q
      have hat : ∀ (k : Nat) (t : Ty), TL[k]? = some t → ∃ sy Ay ny cy, wx.cell? ⟨w1.heap.size, k * 2, none⟩ = some (.string sy) ∧ wx.cell? ⟨w1.heap.size, k * 2 + 1, none⟩ = some (.slice Ay ny cy) ∧ Ty.In wx (fun b => New S w2.heap.size wx b ∧ b ≠ w1.heap.size) t (.string sy) (.slice Ay ny cy) := fun k t ht => by
        obtain ⟨ks, ⟨v0, v1, rfl, hIn⟩, hkc⟩ := htx2.at_ ht
        obtain ⟨sx, Ax, nx, cx, rfl, rfl⟩ := hIn.shape
        exact ⟨sx, Ax, nx, cx, hcell _ _ (show txs[k * 2]? = _ from hkc 0 _ rfl), hcell _ _ (show txs[k * 2 + 1]? = _ from hkc 1 _ rfl), hIn.mono (fun b hb => ⟨hb.1, fun e => hb.2 (by rw [e]; rfl)⟩)⟩
      obtain ⟨sO, AO, nO, cO, o0, o1, _⟩ := hat i TL[i] (List.getElem?_eq_getElem (by omega))
      have o0f := hfree (i * 2)
      have o1f := hfree (i * 2 + 1)
      have lgx : g < wx.heap.size := by omega
      have ltx : w1.heap.size < wx.heap.size := by omega
      clear hcell hfree htx2 htx1 txs c0 c1 c2 c3 c4 c5 c6
      have HGX := Lib.hid hgx
      have HSX := Lib.hid hSx
      have HTX := Lib.hid hTx
      have HOWNX := Lib.hid hownx
      have HRSX := Lib.hid hrsx
      have HKVX := Lib.hid hkvx
      have HRTX := Lib.hid hrtx
      have P1 := Lib.hid p1
      have HBWX := Lib.hid hBwx
      have HAT := Lib.hid hat
      have HBX := Lib.hid hbx
      clear hgx hSx hTx hownx hrsx hkvx hrtx p1 hBwx hat hbx
      have px_0 := cv0 px
      have px_1 := cv1 px
      have px_2 := cv2 px
      have px_3 := cv3 px
      have px_4 := cv4 px
      have px_5 := cv5 px
      have px_6 := cv6 px
      have px_l := lt_heap px
      have PX := Lib.hid px
      clear px
      cases u with
      | con nm s =>
        have t1 : ((Tv.con nm s).lab.kind == 1) = true := rfl
        have HT0 := Lib.hid (show Tv.typ c (.con nm s) = some s from rfl)
        go_wp2_with fail
        go_roundg i
        case measure => omega
        case rel =>
          refine ⟨rfl, by omega, grown_at_tb HGX.out _ _, TL.set i s.ty, by rw [List.length_set]; exact hTL, ?_, HFIN.out s HT0.out⟩
          exact (HTX.out.put2 (q := i * 2) (by omega) rfl (Ty.In_keep (fun _ _ => rfl) (fun b hb => ⟨Or.inl hb, by have := HS.out b hb; omega⟩) _ _ _ HRTX.out) (fun _ h => h)).mono (New.up (by simp only [size_set]; exact Nat.le_refl _))
      | var j =>
        have t1 : ((Tv.var j).lab.kind == 1) = false := rfl
        have t2 : ((Tv.var j).lab.kind == 2) = true := rfl
        have hj : j < c.length := HUOK.out
        have hrix : r.ix = j := hri
        have hjc := Tv.subs_ctx v [] (c, .var j) (List.mem_of_getElem? HSI.out)
        simp only [List.length_nil] at hjc
        have hvn : v.nodes = n := by have := HRL.out; omega
        have hbi := Lib.hid (binder_any rs (rowsOf v.tm (-1) 0) _ S w.heap.size g n cv i j r c c[j] wx HOWNX.out HRSX.out HNN.out.symm HRI.out hrix (by omega) (by omega) HUP.out (List.getElem?_eq_getElem hj))
        have HT0 := Lib.hid (show Tv.typ c (.var j) = some c[j] by simp [Tv.typ, hj])
        have HBI := Lib.hid hbi
        clear hbi
        go_wp2_with fail
        (with_reducible refine HBI.out.out.mono ?_)
        rintro e w5 ⟨p, q, rfl, hq, hqt, hw5⟩
        have HQT := Lib.hid hqt
        obtain ⟨r2, hr2, hm2⟩ := HRSX.out.at_ hq
        obtain ⟨y0, y1, hy, d0, d1, d2, d3, d4, d5, d6⟩ := row_cells HOWNX.out hr2
        obtain ⟨sy, Ay, ny, cy, rfl, rfl⟩ := hy.shape
        have hpl : p < n := by have := (List.getElem?_eq_some_iff.1 hr2).1; have := HNN.out; omega
        rw [hm2.ty] at hy
        have hg5 := hw5.block g lgx
        have ht5 := hw5.block w1.heap.size ltx
        have d2 := (cell_keep hg5 _).trans d2
        have d3 := (cell_keep hg5 _).trans d3
        have o0' := (cell_keep ht5 _).trans o0
        have o1' := (cell_keep ht5 _).trans o1
        have o0f' : w5.frozen? ⟨w1.heap.size, i * 2, none⟩ = false := (World.frozen?_of_block (a := ⟨w1.heap.size, i * 2, none⟩) ht5).trans o0f
        have o1f' : w5.frozen? ⟨w1.heap.size, i * 2 + 1, none⟩ = false := (World.frozen?_of_block (a := ⟨w1.heap.size, i * 2 + 1, none⟩) ht5).trans o1f
        have p4 : (0 : Int) ≤ (p : Int) := by omega
        have p5 : (p : Int) < (n : Int) := by omega
        have z5 := hw5.size
        have l5 : w1.heap.size < w5.heap.size := by omega
        have l6 : g < w5.heap.size := by omega
        clear d0 d1 d4 d5 d6 o0 o1 o0f o1f hm2 hr2 hqt hg5 ht5 px_0 px_1 px_2 px_3 px_4 px_5 px_6 px_l
        have HY := Lib.hid hy
        have HW5 := Lib.hid hw5
        have HQ := Lib.hid hq
        clear hy hw5 hq
        go_wp2_with fail
        go_roundg i
        case measure => omega
        case rel =>
          have hg5 : w2.grownBy w5 (some w1.heap.size) := ⟨HW5.out.os.trans HGX.out.os, HW5.out.tape.trans HGX.out.tape, HW5.out.output.trans HGX.out.output, by omega, fun k h1 h2 => (HW5.out.block k (by omega)).trans (HGX.out.block k h1 h2)⟩
          refine ⟨rfl, by omega, grown_at_tb hg5 _ _, TL.set i c[j].ty, by rw [List.length_set]; exact hTL, ?_, HFIN.out _ HT0.out⟩
          have h1 := HTX.out.below HW5.out (New.lo (fun k hk => by have := HS.out k hk; omega) (by omega))
          rw [← HQT.out]
          exact (h1.put2 (q := i * 2) (by omega) rfl (Ty.In_keep (fun b hb => HW5.out.block b (by have := HS.out b hb; omega)) (fun b hb => ⟨Or.inl hb, by have := HS.out b hb; omega⟩) _ _ _ HY.out) (fun _ h => h)).mono (New.up (by simp only [size_set]; exact z5))
      | abs s b =>
        have t1 : ((Tv.abs s b).lab.kind == 1) = false := rfl
        have t2 : ((Tv.abs s b).lab.kind == 2) = false := rfl
        have t3 : ((Tv.abs s b).lab.kind == 3) = true := rfl
        obtain ⟨hk1, hs1⟩ : r.kids = [((i + 1 : Nat) : Int)] ∧ (v.subs [])[i + 1]? = some (s :: c, b) := HPARTS.out
        obtain ⟨q, hq⟩ : ∃ q, q = i + 1 := ⟨_, rfl⟩
        rw [← hq] at hk1 hs1
        have hql : q < n := by have := (List.getElem?_eq_some_iff.1 hs1).1; rw [Tv.subs_len] at this; have := HRL.out; omega
        obtain ⟨sb, htb, hTq⟩ := HTY.out q (s :: c) b (by omega) hs1
        obtain ⟨sy, Ay, ny, cy, f0, f1, hIy⟩ := HAT.out q sb.ty hTq
        have hkv2 := HKVX.out
        rw [hk1] at hkv2
        have hkl2 := HKL.out
        rw [hk1] at hkl2
        simp only [List.length_singleton] at hkl2
        subst hkl2
        obtain ⟨kb, ko, kcs, rfl, hKb, rfl, hkc⟩ := Rep.Sl.at_ hkv2 (k := 0) (a := (q : Int)) rfl
        have f2 : wx.cell? ⟨kb, ko, none⟩ = some (.int .i64 q) := by simpa using hkc 0 _ rfl
        have lkb : kb < wx.heap.size := by have := hKb.2.1; omega
        have lkb1 : kb < w1.heap.size := hKb.2.1
        have hqi : i < q := by omega
        have HT0 := Lib.hid (show Tv.typ c (.abs s b) = some (.fn s sb) by simp [Tv.typ, htb])
        have hR2 : Ty.In wx.drew (fun b => New S w2.heap.size wx b ∧ b ≠ w1.heap.size) s.ty (.string sr) (.slice Ar nr cr) := (Ty.In.mono (S := S) (show Ty.In wx S s.ty (.string sr) (.slice Ar nr cr) from HRTX.out) (fun b hb => ⟨Or.inl hb, by have := HS.out b hb; omega⟩)).drew
        have hto := Lib.hid (to_any s.ty sb.ty (.string sr) (.slice Ar nr cr) (.string sy) (.slice Ay ny cy) wx.drew (fun b => New S w2.heap.size wx b ∧ b ≠ w1.heap.size) hR2 hIy.drew (fun k hk => New.lo (w := wx) (fun k hk => by have := HS.out k hk; omega) (by omega) k hk.1))
        have p4 : (0 : Int) ≤ (q : Int) := by omega
        have p5 : (q : Int) < (n : Int) := by omega
        clear hk1 hs1 hTq htb hIy hkv2 hkc hKb hR2
        have HTO := Lib.hid hto
        have HQ := Lib.hid hq
        clear hto hq
        go_wp2_with fail
        go_region_held3 (fun w' => w'.cell? ⟨wr.heap.size, 2, none⟩ = some (.string sr) ∧ w'.cell? ⟨wr.heap.size, 3, none⟩ = some (.slice Ar nr cr) ∧ w'.cell? ⟨wr.heap.size, 5, none⟩ = some (.slice (some ⟨kb, ko, none⟩) 1 ck) ∧ w'.cell? ⟨kb, ko, none⟩ = some (.int .i64 q) ∧ w'.cell? ⟨w1.heap.size, q * 2, none⟩ = some (.string sy) ∧ w'.cell? ⟨w1.heap.size, q * 2 + 1, none⟩ = some (.slice Ay ny cy))
          ((first | (go_keep; done) | (go_split_ands; (repeat' apply And.intro) <;> (refine (kc _ _ (by omega)).trans ?_; assumption)) | (go_split_ands; (repeat' apply And.intro) <;> (refine cell_put2 (by omega) ((kc _ _ (by omega)).trans ?_); assumption))))
          (((with_reducible refine HTO.out.out.mono ?_); rintro e w5 ⟨v0, v1, rfl, hT5, hw5⟩; obtain ⟨s5, A5, n5, c5, rfl, rfl⟩ := hT5.shape; have kc : ∀ k q, k < wx.heap.size → w5.cell? ⟨k, q, none⟩ = wx.cell? ⟨k, q, none⟩ := (fun k q h => hw5.cell (p := ⟨k, q, none⟩) h); have ht5 : w5.heap[w1.heap.size]? = wx.heap[w1.heap.size]? := (hw5.block w1.heap.size ltx); have o0' := (cell_keep ht5 _).trans o0; have o1' := (cell_keep ht5 _).trans o1; have o0f' : w5.frozen? ⟨w1.heap.size, i * 2, none⟩ = false := ((World.frozen?_of_block (a := ⟨w1.heap.size, i * 2, none⟩) ht5).trans o0f); have o1f' : w5.frozen? ⟨w1.heap.size, i * 2 + 1, none⟩ = false := ((World.frozen?_of_block (a := ⟨w1.heap.size, i * 2 + 1, none⟩) ht5).trans o1f); have z5 : wx.heap.size ≤ w5.heap.size := hw5.size; have l5 : w1.heap.size < w5.heap.size := (by omega); have HT5 := Lib.hid hT5; have HW5 := Lib.hid hw5; clear hT5 hw5 ht5))
        go_wp2_with fail
        go_roundg i
        case measure => omega
        case rel =>
          have hg5 : w2.grownBy w5 (some w1.heap.size) := ⟨HW5.out.os.trans HGX.out.os, HW5.out.tape.trans HGX.out.tape, HW5.out.output.trans HGX.out.output, by omega, fun k h1 h2 => (HW5.out.block k (show k < wx.heap.size by omega)).trans (HGX.out.block k h1 h2)⟩
          refine ⟨rfl, by omega, grown_at_tb hg5 _ _, TL.set i (Sy.fn s sb).ty, by rw [List.length_set]; exact hTL, ?_, HFIN.out _ HT0.out⟩
          have h1 := (HTX.out.keepG (w' := w5) (fun k e => by simp only [Value.ownBlock, Option.some.injEq] at e; subst e; exact HW5.out.block _ ltx) (fun b hb => HW5.out.block b (New.lo (w := wx) (fun k hk => by have := HS.out k hk; omega) (by omega) b hb))).mono (New.up z5)
          exact (h1.put2 (q := i * 2) (by omega) rfl (Ty.In_keep (fun _ _ => rfl) (fun b hb => by
            rcases hb with hb | hb
            · exact ⟨New.up z5 b hb.1, hb.2⟩
            · have h2 : wx.heap.size ≤ b := hb.1
              exact ⟨Or.inr ⟨by omega, hb.2⟩, by omega⟩) _ _ _ HT5.out) (fun _ h => h)).mono (New.up (by simp only [size_set]; exact Nat.le_refl _))
      | app f x =>
        have t1 : ((Tv.app f x).lab.kind == 1) = false := rfl
        have t2 : ((Tv.app f x).lab.kind == 2) = false := rfl
        have t3 : ((Tv.app f x).lab.kind == 3) = false := rfl
        have t4 : ((Tv.app f x).lab.kind == 4) = true := rfl
        obtain ⟨hk1, hs1, hs2⟩ : r.kids = [((i + 1 : Nat) : Int), ((i + 1 + f.nodes : Nat) : Int)] ∧ (v.subs [])[i + 1]? = some (c, f) ∧ (v.subs [])[i + 1 + f.nodes]? = some (c, x) := HPARTS.out
        obtain ⟨q, hq⟩ : ∃ q, q = i + 1 := ⟨_, rfl⟩
        obtain ⟨p, hp⟩ : ∃ p, p = i + 1 + f.nodes := ⟨_, rfl⟩
        rw [← hp] at hk1 hs2
        rw [← hq] at hk1 hs1
        have hql : q < n := by have := (List.getElem?_eq_some_iff.1 hs1).1; rw [Tv.subs_len] at this; have := HRL.out; omega
        have hpl : p < n := by have := (List.getElem?_eq_some_iff.1 hs2).1; rw [Tv.subs_len] at this; have := HRL.out; omega
        obtain ⟨sf, htf, hTq⟩ := HTY.out q c f (by omega) hs1
        obtain ⟨sx, htx, hTp⟩ := HTY.out p c x (by omega) hs2
        obtain ⟨sy, Ay, ny, cy, f0, f1, hIy⟩ := HAT.out q sf.ty hTq
        obtain ⟨sz, Az, nz, cz, f2, f3, hIz⟩ := HAT.out p sx.ty hTp
        have hkv2 := HKVX.out
        rw [hk1] at hkv2
        have hkl2 := HKL.out
        rw [hk1] at hkl2
        simp only [List.length_cons, List.length_nil] at hkl2
        subst hkl2
        obtain ⟨kb, ko, kcs, rfl, hKb, rfl, hkc⟩ := Rep.Sl.at_ hkv2 (k := 0) (a := (q : Int)) rfl
        obtain ⟨kb', ko', kcs, eA, _, rfl, hkc'⟩ := Rep.Sl.at_ hkv2 (k := 1) (a := (p : Int)) rfl
        obtain ⟨rfl, rfl⟩ : kb = kb' ∧ ko = ko' := by simpa using eA
        have f4 : wx.cell? ⟨kb, ko, none⟩ = some (.int .i64 q) := by simpa using hkc 0 _ rfl
        have f5 : wx.cell? ⟨kb, ko + 1, none⟩ = some (.int .i64 p) := by have := hkc' 0 _ rfl; simpa [intRep] using this
        have lkb : kb < wx.heap.size := by have := hKb.2.1; omega
        have p4 : (0 : Int) ≤ (q : Int) := by omega
        have p5 : (q : Int) < (n : Int) := by omega
        have p6 : (0 : Int) ≤ (p : Int) := by omega
        have p7 : (p : Int) < (n : Int) := by omega
        clear hk1 hs1 hs2 hTq hTp hkv2 hkc hkc' hKb eA
        have HTX_ := Lib.hid htx
        clear htx
        have HQ := Lib.hid hq
        have HP := Lib.hid hp
        have HIY := Lib.hid hIy
        have HIZ := Lib.hid hIz
        have HTF := Lib.hid htf
        clear hq hp hIy hIz htf
        go_upto_region 15 with (fail)
        go_cut [8, 9] (fun s8 s9 wy => ∃ b8 b9, s8 = .pointer (some ⟨b8, 0, none⟩) ∧ s9 = .pointer (some ⟨b9, 0, none⟩) ∧ wx.heap.size ≤ b8 ∧ wx.heap.size ≤ b9 ∧ wy.heap[b8]? = some (.cells #[.string sy, .slice Ay ny cy] 24 (0, 0)) ∧ wy.heap[b9]? = some (.cells #[.string sz, .slice Az nz cz] 24 (0, 0)) ∧ Below wx.heap.size wx wy)
        case first =>
          go_region
          all_goals
            go_wp2_with fail
            go_meet
            refine ⟨_, _, rfl, rfl, by first | exact Nat.le_refl _ | exact Nat.le_succ _, by first | exact Nat.le_refl _ | exact Nat.le_succ _, ?_, ?_, (((Below.refl _ _).alloc (Nat.le_refl _) _).alloc (by simp) _).drew⟩
            · first | exact heap_drew (heap_old (by simp) (heap_at rfl)) | exact heap_drew (heap_at (by simp))
            · first | exact heap_drew (heap_old (by simp) (heap_at rfl)) | exact heap_drew (heap_at (by simp))
        case rest =>
          obtain ⟨b8, b9, rfl, rfl, l8, l9, h8, h9, hb⟩ := hcut
          rename World => wy
          have zy := hb.size
          have hgy : w2.grownBy wy (some w1.heap.size) := ⟨hb.os.trans HGX.out.os, hb.tape.trans HGX.out.tape, hb.output.trans HGX.out.output, by omega, fun k h1 h2 => (hb.block k (by omega)).trans (HGX.out.block k h1 h2)⟩
          have hlow : ∀ k, New S w2.heap.size wx k → k < wx.heap.size := New.lo (fun k hk => by have := HS.out k hk; omega) (by omega)
          have hTy := (HTX.out.keepG (w' := wy) (fun k e => by simp only [Value.ownBlock, Option.some.injEq] at e; subst e; exact hb.block _ ltx) (fun b h => hb.block b (hlow b h))).mono (New.up zy)
          have hby : Below w.heap.size w wy := HBWX.out.trans (hb.mono (by omega))
          have p1 := (hb.block _ (by omega)).trans P1.out
          have hIy2 : Ty.In wy (fun b => New S w2.heap.size wx b ∧ b ≠ w1.heap.size) sf.ty (.string sy) (.slice Ay ny cy) := HIY.out.keep (fun k hk => hb.block k (hlow k hk.1))
          have hIz2 : Ty.In wy (fun b => New S w2.heap.size wx b ∧ b ≠ w1.heap.size) sx.ty (.string sz) (.slice Az nz cz) := HIZ.out.keep (fun k hk => hb.block k (hlow k hk.1))
          have hbad : Tv.typ c (.app f x) = none → v.typ [] = none := fun h => by
            cases h2 : v.typ [] with
            | none => rfl
            | some s =>
              have := Tv.subs_some v [] s h2 (c, .app f x) (List.mem_of_getElem? HSI.out)
              rw [h] at this; simp at this
          have hend : v.typ [] = none → ∀ w', Below w.heap.size w w' → TypeOfAt v w S (.returned (.tuple #[.agg #[.string ⟨#[]⟩, .slice none 0 0], .bool false])) w' := fun h w' hb => by
            refine ⟨_, _, by rw [h]; rfl, fun s e => by rw [h] at e; simp at e, fun _ => ⟨rfl, rfl⟩, hb⟩
          clear px_0 px_1 px_2 px_3 px_4 px_5 px_6 px_l f0 f1 f2 f3 f4 f5
          have HTY_ := Lib.hid hTy
          clear hTy
          have HGY := Lib.hid hgy
          have HBY := Lib.hid hby
          have HIY2 := Lib.hid hIy2
          have HIZ2 := Lib.hid hIz2
          have HBAD := Lib.hid hbad
          have HEND := Lib.hid hend
          have HLOW := Lib.hid hlow
          clear hgy hby hIy2 hIz2 hbad hend hlow
          have h8_0 := cv0 h8
          have h8_1 := cv1 h8
          have h8_l := lt_heap h8
          have H8 := Lib.hid h8
          clear h8
          have h9_0 := cv0 h9
          have h9_1 := cv1 h9
          have h9_l := lt_heap h9
          have H9 := Lib.hid h9
          clear h9
          have p1_0 := cv0 p1
          have p1_1 := cv1 p1
          have p1_f0 := free_heap p1 0
          have p1_f1 := free_heap p1 1
          have p1_l := lt_heap p1
          have P1 := Lib.hid p1
          clear p1
          by_cases hfn : ∃ a bb, sf = .fn a bb
          case neg =>
            have HN0 := Lib.hid (HBAD.out (show Tv.typ c (.app f x) = none by
              cases sf with
              | fn a bb => exact absurd ⟨a, bb, rfl⟩ hfn
              | e => simp [Tv.typ, HTF.out, HTX_.out]
              | t => simp [Tv.typ, HTF.out, HTX_.out]))
            have hsy : sy.toList.isEmpty = false := by
              cases sf with
              | fn a bb => exact absurd ⟨a, bb, rfl⟩ hfn
              | e => obtain ⟨_, _, h, _⟩ := Sy.In_e HIY2.out; simp only [Value.string.injEq] at h; rw [h]; exact empty_e
              | t => obtain ⟨_, _, h, _⟩ := Sy.In_t HIY2.out; simp only [Value.string.injEq] at h; rw [h]; exact empty_t
            clear hfn
            go_wp2_with fail
            go_region
            all_goals go_wp2_with fail
            all_goals
              refine bodyPost_ret (v := .tuple #[.agg #[.string ⟨#[]⟩, .slice none 0 0], .bool false]) (by simp [results, Tryd.results15, go_sem, p1_0, p1_1, p1_l]) rfl ?_
              refine HEND.out HN0.out _ ?_
              first | exact (below2 HBY.out (by omega)).drew | exact below2 HBY.out (by omega) | exact below2 HBY.out.drew (by omega)
          obtain ⟨a, bb, rfl⟩ := hfn
          have ha200 := Nat.le_trans (Tv.typ_nodes f c (.fn a bb) HUOK.out.1 (Tv.subs_small v [] HOK.out (by simp) _ (List.mem_of_getElem? HSI.out)) HTF.out) (Nat.mul_le_mul_left 201 (show f.nodes ≤ 10000 by have := Tv.subs_nodes v [] _ (List.mem_of_getElem? HSI.out); simp only [Tv.nodes] at this; omega))
          have hx200 := Nat.le_trans (Tv.typ_nodes x c sx HUOK.out.2 (Tv.subs_small v [] HOK.out (by simp) _ (List.mem_of_getElem? HSI.out)) HTX_.out) (Nat.mul_le_mul_left 201 (show x.nodes ≤ 10000 by have := Tv.subs_nodes v [] _ (List.mem_of_getElem? HSI.out); simp only [Tv.nodes] at this; omega))
          simp only [Sy.nodes] at ha200
          obtain ⟨bl, oo, cc, x0, x1, y0, y1, e0, e1, hSbl, g0, g1, g2, g3, ha, hb'⟩ := Sy.In_fn HIY2.out
          simp only [Value.string.injEq, Value.slice.injEq] at e0 e1
          obtain rfl := e0
          obtain ⟨rfl, rfl, rfl⟩ := e1
          obtain ⟨sg, Ag, ng, cg, rfl, rfl⟩ := ha.shape
          obtain ⟨sh, Ah, nh, ch, rfl, rfl⟩ := hb'.shape
          have lbl : bl < wx.heap.size := HLOW.out bl hSbl.1
          have lbl2 : bl < wy.heap.size := by omega
          have hst := refSameType_any a sx (.string sg) (.slice Ag ng cg) (.string sz) (.slice Az nz cz) wy.drew (fun b => New S w2.heap.size wx b ∧ b ≠ w1.heap.size) ha.drew HIZ2.out.drew (fun k hk => by have := HLOW.out k hk.1; exact (show k < wy.heap.size by omega)) (by omega) (by omega)
          have hbne : bl ≠ w1.heap.size := hSbl.2
          have hb8 : b8 ≠ w1.heap.size := by omega
          have HBB := Lib.hid hb'.drew
          have t0 := empty_nil
          have lt2y : w1.heap.size < wy.heap.size := by omega
          have lw1 : w.heap.size + 1 < wy.heap.size := by omega
          have ht5 := hb.block w1.heap.size ltx
          have o0y := (cell_keep ht5 _).trans o0
          have o1y := (cell_keep ht5 _).trans o1
          have o0fy : wy.frozen? ⟨w1.heap.size, i * 2, none⟩ = false := (World.frozen?_of_block (a := ⟨w1.heap.size, i * 2, none⟩) ht5).trans o0f
          have o1fy : wy.frozen? ⟨w1.heap.size, i * 2 + 1, none⟩ = false := (World.frozen?_of_block (a := ⟨w1.heap.size, i * 2 + 1, none⟩) ht5).trans o1f
          clear ha hb' ha200 hx200 o0 o1 o0f o1f ht5
          by_cases hax : a = sx
          case neg =>
            have HN0 := Lib.hid (HBAD.out (show Tv.typ c (.app f x) = none by simp [Tv.typ, HTF.out, HTX_.out, hax]))
            rw [decide_eq_false hax] at hst
            clear hax
            have HST := Lib.hid hst
            clear hst
            go_wp2_with fail
            go_region_held3 (fun w' => w'.cell? ⟨b8, 0, none⟩ = some (.string bNil) ∧ w'.cell? ⟨b8, 1, none⟩ = some (.slice (some ⟨bl, oo, none⟩) 2 cy) ∧ w'.cell? ⟨bl, oo, none⟩ = some (.string sg) ∧ w'.cell? ⟨bl, oo + 1, none⟩ = some (.slice Ag ng cg) ∧ w'.cell? ⟨b9, 0, none⟩ = some (.string sz) ∧ w'.cell? ⟨b9, 1, none⟩ = some (.slice Az nz cz))
              ((first | (go_keep; done) | (go_split_ands; (repeat' apply And.intro) <;> (refine (kc _ _ (by omega)).trans ?_; assumption))))
              (((with_reducible refine HST.out.mono ?_); rintro e w5 ⟨rfl, hw5⟩; have kc : ∀ k q, k < wy.heap.size → w5.cell? ⟨k, q, none⟩ = wy.cell? ⟨k, q, none⟩ := (fun k q h => hw5.cell (p := ⟨k, q, none⟩) h); have p1' := (hw5.block (w.heap.size + 1) p1_l).trans P1.out; have r1_0 := cv0 p1'; have r1_1 := cv1 p1'; have r1_f0 := free_heap p1' 0; have r1_f1 := free_heap p1' 1; have r1_l := lt_heap p1'; have HW5 := Lib.hid hw5; clear hw5 p1'))
            go_wp2_with fail
            refine bodyPost_ret (v := .tuple #[.agg #[.string ⟨#[]⟩, .slice none 0 0], .bool false]) (by simp [results, Tryd.results15, go_sem, r1_0, r1_1, r1_l]) rfl ?_
            exact HEND.out HN0.out _ (below2 (HBY.out.drew.trans (HW5.out.mono (show w.heap.size ≤ wy.heap.size by omega))) (by omega))
          subst hax
          have HT0 := Lib.hid (show Tv.typ c (.app f x) = some bb by simp [Tv.typ, HTF.out, HTX_.out])
          rw [decide_eq_true rfl] at hst
          have HST := Lib.hid hst
          clear hst
          go_wp2_with fail
          go_region_held3 (fun w' => w'.cell? ⟨b8, 0, none⟩ = some (.string bNil) ∧ w'.cell? ⟨b8, 1, none⟩ = some (.slice (some ⟨bl, oo, none⟩) 2 cy) ∧ w'.cell? ⟨bl, oo, none⟩ = some (.string sg) ∧ w'.cell? ⟨bl, oo + 1, none⟩ = some (.slice Ag ng cg) ∧ w'.cell? ⟨b9, 0, none⟩ = some (.string sz) ∧ w'.cell? ⟨b9, 1, none⟩ = some (.slice Az nz cz))
            ((first | (go_keep; done) | (go_split_ands; (repeat' apply And.intro) <;> (refine (kc _ _ (by omega)).trans ?_; assumption))))
            (((with_reducible refine HST.out.mono ?_); rintro e w5 ⟨rfl, hw5⟩; have kc : ∀ k q, k < wy.heap.size → w5.cell? ⟨k, q, none⟩ = wy.cell? ⟨k, q, none⟩ := (fun k q h => hw5.cell (p := ⟨k, q, none⟩) h); have ht5 : w5.heap[w1.heap.size]? = wy.heap[w1.heap.size]? := (hw5.block w1.heap.size lt2y); have o0' := (cell_keep ht5 _).trans o0y; have o1' := (cell_keep ht5 _).trans o1y; have o0f' : w5.frozen? ⟨w1.heap.size, i * 2, none⟩ = false := ((World.frozen?_of_block (a := ⟨w1.heap.size, i * 2, none⟩) ht5).trans o0fy); have o1f' : w5.frozen? ⟨w1.heap.size, i * 2 + 1, none⟩ = false := ((World.frozen?_of_block (a := ⟨w1.heap.size, i * 2 + 1, none⟩) ht5).trans o1fy); have z5 : wy.heap.size ≤ w5.heap.size := hw5.size; have l5 : w1.heap.size < w5.heap.size := (by omega); have k8 := (kc b8 1 h8_l).trans h8_1; have k2 := (kc bl (oo + 2) lbl2).trans g2; have k3 := (kc bl (oo + 2 + 1) lbl2).trans g3; have HW5 := Lib.hid hw5; clear hw5 ht5))
          go_wp2_with fail
          go_roundg i
          case measure => omega
          case rel =>
            have hg5 : w2.grownBy w5 (some w1.heap.size) := ⟨HW5.out.os.trans HGY.out.os, HW5.out.tape.trans HGY.out.tape, HW5.out.output.trans HGY.out.output, by omega, fun k h1 h2 => (HW5.out.block k (show k < wy.heap.size by omega)).trans (HGY.out.block k h1 h2)⟩
            refine ⟨rfl, by omega, grown_at_tb hg5 _ _, TL.set i bb.ty, by rw [List.length_set]; exact hTL, ?_, HFIN.out _ HT0.out⟩
            have h1 := (HTY_.out.keepG (w' := w5) (fun k e => by simp only [Value.ownBlock, Option.some.injEq] at e; subst e; exact HW5.out.block _ lt2y) (fun b hb => HW5.out.block b (New.lo (w := wy) (fun k hk => by have := HS.out k hk; omega) (by omega) b hb))).mono (New.up z5)
            exact (h1.put2 (q := i * 2) (by omega) rfl (Ty.In_keep (fun k hk => HW5.out.block k (show k < wy.heap.size by have := HLOW.out k hk.1; omega)) (fun b hb => ⟨New.up (by omega) b hb.1, hb.2⟩) _ _ _ HBB.out) (fun _ h => h)).mono (New.up (by simp only [size_set]; exact Nat.le_refl _))

end Go.Proofs.YtnoceodmnjhljaaDoor
