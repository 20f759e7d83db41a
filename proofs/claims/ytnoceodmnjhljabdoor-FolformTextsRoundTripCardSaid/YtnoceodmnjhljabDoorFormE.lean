/-
  (*folform.reader).form: results of calls, by parts.
-/
import Derived.Test.YtnoceodmnjhljabDoorFormC
namespace Go.Proofs.YtnoceodmnjhljabDoor
open Go Go.RowKit
set_option linter.unusedSimpArgs false
set_option linter.unusedVariables false

/-- What is kept of a block but the result's own when the result's cells are stored. -/
theorem put4_far {w1 : World} {g b : Nat} (b0 b1 b2 b3 : Value) (hb : b ≠ g) : ((((w1.setCell ⟨g, 0, none⟩ b0).setCell ⟨g, 1, none⟩ b1).setCell ⟨g, 2, none⟩ b2).setCell ⟨g, 3, none⟩ b3).heap[b]? = w1.heap[b]? := heap_far _ hb (heap_far _ hb (heap_far _ hb (heap_far _ hb rfl)))
theorem put4_size {w1 : World} {g : Nat} (b0 b1 b2 b3 : Value) : ((((w1.setCell ⟨g, 0, none⟩ b0).setCell ⟨g, 1, none⟩ b1).setCell ⟨g, 2, none⟩ b2).setCell ⟨g, 3, none⟩ b3).heap.size = w1.heap.size := by simp only [size_set]
noncomputable def c_fm_r16 : Code := sub [1, 1, 1, 1, 1, 1, 0, 1, 0, 1, 1, 1, 0, 0] (Tryd.f21.body.getD .skip)
set_option maxRecDepth 1000000 in
set_option maxHeartbeats 16000000 in
theorem fm_r16_wp {Q : Exit → Act → World → Prop} {x : ByteArray} {r i c j k n d : Nat} {wo w : World} {f : FRd} (hp : FS n wo w r x i c j) (hf : ∀ W, RdG n W r x i c j → Calls Tryd.prog 31 #[.pointer (some ⟨r, 0, none⟩), .int .i64 (d : Int)] W (FormG x r i c j k f W)) (hN : ∀ i' c' j' n' ka na A1 m1 c1 A2 m2 c2 a' w', Frm 154 [(4, .pointer (some ⟨wo.heap.size, 0, none⟩))] a' → FD n' wo w' r x i' c' j' (.int .i64 ka) (.string na) (.slice A1 m1 c1) (.slice A2 m2 c2) → (c ≠ 0 → i' = i ∧ c' = c ∧ j' = j) → (c = 0 → FEnd x k i' c' j' n' j (fun v => fmRep.R w' (SN wo w') v.fm [.int .i64 ka, .string na, .slice A1 m1 c1, .slice A2 m2 c2]) f) → Q .normal a' w') : ∀ ac, Frm 154 [(0, .pointer (some ⟨r, 0, none⟩)), (1, .int .i64 (d : Nat)), (4, .pointer (some ⟨wo.heap.size, 0, none⟩))] ac → Code.wp Tryd.prog c_fm_r16 Q ac w := by
  refine frm_open ?_
  refine frame_fm ?_
  intros
  rename_i hq
  obtain ⟨-, -, e0q, e1q, e2q, -⟩ := hq
  have e0q := (Option.some.inj e0q).symm; subst e0q
  have e1q := (Option.some.inj e1q).symm; subst e1q
  have e2q := (Option.some.inj e2q).symm; subst e2q
  conv => arg 2; whnf
  have HN := Lib.hid hN
  have HF := Lib.hid hf
  clear hN hf
  have z0 := cellv hp.res 0 rfl
  have z1 := cellv hp.res 1 rfl
  have z2 := cellv hp.res 2 rfl
  have z3 := cellv hp.res 3 rfl
  have zf0 := free_heap hp.res 0
  have zf1 := free_heap hp.res 1
  have zf2 := free_heap hp.res 2
  have zf3 := free_heap hp.res 3
  have zl := lt_heap hp.res
  have r1 := cellv hp.rd 1 rfl
  have r2 := cellv hp.rd 2 rfl
  have r4 := cellv hp.rd 4 rfl
  have d1 := free_heap hp.rd 1
  have d4 := free_heap hp.rd 4
  have rl := lt_heap hp.rd
  have HP := Lib.hid hp
  clear hp
  go_wp2_with fail
  (with_reducible refine (HF.out _ HP.out.rd).mono ?_)
  rintro e w1 ⟨i', c', j', n', ka, na, A1, m1, c1, A2, m2, c2, rfl, hr1, hk1, he1, hf1⟩
  have hp1 := HP.out.keeps hk1 hr1
  have hsz1 := hk1.size
  have y0 := cellv hp1.res 0 rfl
  have y1 := cellv hp1.res 1 rfl
  have y2 := cellv hp1.res 2 rfl
  have y3 := cellv hp1.res 3 rfl
  have yf0 := free_heap hp1.res 0
  have yf1 := free_heap hp1.res 1
  have yf2 := free_heap hp1.res 2
  have yf3 := free_heap hp1.res 3
  have yl := lt_heap hp1.res
  have HP1 := Lib.hid hp1
  have HE1 := Lib.hid he1
  have HF1 := Lib.hid hf1
  clear hp1 he1 hf1 hr1 hk1 z0 z1 z2 z3 zf0 zf1 zf2 zf3 zl r1 r2 r4 d1 d4 rl
  go_wp2_with fail
  have hlo : wo.heap.size < w.heap.size := HP.out.rl
  refine HN.out i' c' j' n' ka na A1 m1 c1 A2 m2 c2 _ _ (id ⟨rfl, rfl, rfl, trivial⟩) (HP1.out.put4 _ _ _ _) HE1.out (fun h0 => (HF1.out h0).mono fun v hv => fmRep.keep hv (fun b hb => put4_far _ _ _ _ (by have := hb.1; omega)) (fun b hb => ⟨by have := hb.1; omega, by rw [put4_size]; exact hb.2⟩))
noncomputable def c_fm_r20 : Code := sub [1, 1, 1, 1, 1, 1, 1, 1, 0, 1, 0, 1, 0] (Tryd.f21.body.getD .skip)
set_option maxRecDepth 1000000 in
set_option maxHeartbeats 16000000 in
theorem fm_r20_wp {Q : Exit → Act → World → Prop} {a : ByteArray} {x : ByteArray} {r i j n d : Nat} {wo w : World} (hx : x.size ≤ 4000) (hi : i ≤ x.size) (hp : FS n wo w r x i 0 j) (hN : ∀ l i' c' j' A cv a' w', Frm 154 [(4, .pointer (some ⟨wo.heap.size, 0, none⟩))] a' → FD n wo w' r x i' c' j' (.int .i64 2) (.string a) (.slice A l.length cv) (.slice none 0 0) → l.length ≤ 4 → WEnd x j i' c' j' l (wordsF x i) → strRep.Sl w' (SN wo w') (.slice A l.length cv) l → Q .normal a' w') : ∀ ac, Frm 154 [(0, .pointer (some ⟨r, 0, none⟩)), (1, .int .i64 (d : Nat)), (4, .pointer (some ⟨wo.heap.size, 0, none⟩)), (6, .string a)] ac → Code.wp Tryd.prog c_fm_r20 Q ac w := by
  refine frm_open ?_
  refine frame_fm ?_
  intros
  rename_i hq
  obtain ⟨-, -, e0q, e1q, e2q, e3q, -⟩ := hq
  have e0q := (Option.some.inj e0q).symm; subst e0q
  have e1q := (Option.some.inj e1q).symm; subst e1q
  have e2q := (Option.some.inj e2q).symm; subst e2q
  have e3q := (Option.some.inj e3q).symm; subst e3q
  conv => arg 2; whnf
  have hwd := fun (W : World) (h : RdG n W r x i 0 j) => wordsR_any x r i j n W hx hi h
  have HN := Lib.hid hN
  have HWD := Lib.hid hwd
  clear hN hwd
  have z0 := cellv hp.res 0 rfl
  have z1 := cellv hp.res 1 rfl
  have z2 := cellv hp.res 2 rfl
  have z3 := cellv hp.res 3 rfl
  have zf0 := free_heap hp.res 0
  have zf1 := free_heap hp.res 1
  have zf2 := free_heap hp.res 2
  have zf3 := free_heap hp.res 3
  have zl := lt_heap hp.res
  have r1 := cellv hp.rd 1 rfl
  have r2 := cellv hp.rd 2 rfl
  have r4 := cellv hp.rd 4 rfl
  have d1 := free_heap hp.rd 1
  have d4 := free_heap hp.rd 4
  have rl := lt_heap hp.rd
  have HP := Lib.hid hp
  clear hp
  go_wp2_with fail
  (with_reducible refine (HWD.out _ HP.out.rd).mono ?_)
  rintro e w1 ⟨l, i', c', j', v, rfl, hw1, hl4, he1⟩
  have hp1 := HP.out.keeps hw1.kp hw1.rd
  have hsz1 := hw1.kp.size
  obtain ⟨Av, cv, rfl⟩ := hw1.own.len
  have y0 := cellv hp1.res 0 rfl
  have y1 := cellv hp1.res 1 rfl
  have y2 := cellv hp1.res 2 rfl
  have y3 := cellv hp1.res 3 rfl
  have yf0 := free_heap hp1.res 0
  have yf1 := free_heap hp1.res 1
  have yf2 := free_heap hp1.res 2
  have yf3 := free_heap hp1.res 3
  have yl := lt_heap hp1.res
  have HP1 := Lib.hid hp1
  have HW1 := Lib.hid hw1
  have HE1 := Lib.hid he1
  clear hp1 he1 hw1 z0 z1 z2 z3 zf0 zf1 zf2 zf3 zl r1 r2 r4 d1 d4 rl
  go_wp2_with fail
  have hlo : wo.heap.size < w.heap.size := HP.out.rl
  have hlt : ∀ b, (Value.slice Av l.length cv).ownBlock = some b → w.heap.size ≤ b ∧ b < w1.heap.size := by obtain ⟨xs, h1, _⟩ := HW1.out.own; exact h1.lt
  have hsl := HW1.out.own.slS (S' := SN w w1) (by unfold maxLen; omega) (fun b hb => hb) (fun b hb => hlt b hb)
  refine HN.out l i' c' j' Av cv _ _ (id ⟨rfl, rfl, rfl, trivial⟩) (HP1.out.put4 _ _ _ _) hl4 HE1.out ?_
  exact hsl.keep (fun b hb => put4_far _ _ _ _ (by have := hb.1; omega)) (fun b hb => ⟨by have := hb.1; omega, by rw [put4_size]; exact hb.2⟩)


set_option maxRecDepth 1000000 in
theorem fm_ret_wp {R : Ending → World → Prop} {w' : World} {g : Nat} {ka : Int} {na : ByteArray} {A1 A2 : Option Addr} {m1 c1 m2 c2 : Nat} (hg : w'.heap[g]? = some (.cells #[.int .i64 ka, .string na, .slice A1 m1 c1, .slice A2 m2 c2] 34 (0, 0))) (hR : R (.returned (.agg #[.int .i64 ka, .string na, .slice A1 m1 c1, .slice A2 m2 c2])) w') : ∀ ac, Frm 154 [(4, .pointer (some ⟨g, 0, none⟩))] ac → bodyPost Tryd.prog Tryd.f21 R .ret ac w' := by
  refine frm_open ?_
  refine frame_fm ?_
  intros
  rename_i hq
  obtain ⟨-, -, e0q, -⟩ := hq
  have e0q := (Option.some.inj e0q).symm; subst e0q
  have z0 := cellv hg 0 rfl
  have z1 := cellv hg 1 rfl
  have z2 := cellv hg 2 rfl
  have z3 := cellv hg 3 rfl
  have zl := lt_heap hg
  refine bodyPost_ret (v := .agg #[.int .i64 ka, .string na, .slice A1 m1 c1, .slice A2 m2 c2]) (by simp [results, Tryd.results21, go_sem, z0, z1, z2, z3, zl]) rfl ?_
  exact hR
noncomputable def c_fm_r0 : Code := sub [0] (Tryd.f21.body.getD .skip)
set_option maxRecDepth 1000000 in
set_option maxHeartbeats 16000000 in
theorem fm_r0_wp {Q : Exit → Act → World → Prop} {x : ByteArray} {r i c j n d : Nat} {wo : World} (hr : RdG n wo r x i c j) (hN : ∀ a' w', Frm 154 [(0, .pointer (some ⟨r, 0, none⟩)), (1, .int .i64 (d : Nat)), (4, .pointer (some ⟨wo.heap.size, 0, none⟩))] a' → FS n wo w' r x i c j → Q .normal a' w') : ∀ ac, Frm 154 [(0, .pointer (some ⟨r, 0, none⟩)), (1, .int .i64 (d : Nat))] ac → Code.wp Tryd.prog c_fm_r0 Q ac wo := by
  refine frm_open ?_
  refine frame_fm ?_
  intros
  rename_i hq
  obtain ⟨-, -, e0q, e1q, -⟩ := hq
  have e0q := (Option.some.inj e0q).symm; subst e0q
  have e1q := (Option.some.inj e1q).symm; subst e1q
  conv => arg 2; whnf
  have ro := lt_heap hr
  have HR_ := Lib.hid hr
  clear hr
  have HN := Lib.hid hN
  clear hN
  go_wp2_with fail
  refine HN.out _ _ (id ⟨rfl, rfl, rfl, rfl, rfl, trivial⟩) ⟨heap_old ro HR_.out, heap_alloc_new wo _, (Keeps.refl _ _).alloc _, ro⟩
set_option maxRecDepth 100000 in
set_option maxHeartbeats 4000000 in
theorem formR_err (x : ByteArray) (r i c j n d k : Nat) (f : FRd) (w : World) (hc : c ≠ 0) (hr : RdG n w r x i c j) : Calls Tryd.prog 21 #[.pointer (some ⟨r, 0, none⟩), .int .i64 (d : Int)] w (FormG x r i c j k f w) := by
  go_enter Tryd.func21, Tryd.ntmps21
  refine wp_seq ?_
  refine fm_r0_wp hr (fun a1 w1 h1 hp1 => ?_) _ (id ⟨rfl, rfl, rfl, rfl, trivial⟩)
  refine wp_seq ?_
  refine wp_seq ?_
  refine fm_r1_wp hp1 (fun a2 h2 => ?_) a1 h1
  refine wp_cond_true ((h2.eval (k := 15) (v := .bool (decide (c ≠ 0))) (by simp)).trans (by rw [decide_eq_true hc])) ?_
  refine wp_seq ?_
  refine fm_r2_wp hp1 (fun a3 w3 h3 hd3 => ?_) a2 ⟨h2.1, h2.2.1, h2.2.2.1, h2.2.2.2.1, h2.2.2.2.2.1, trivial⟩
  refine wp_ret ?_
  exact fm_ret_wp hd3.res ⟨i, c, j, n, 0, ⟨#[]⟩, none, 0, 0, none, 0, 0, rfl, hd3.rd, hd3.kp, fun _ => ⟨rfl, rfl, rfl⟩, fun h => absurd h hc⟩ a3 h3


noncomputable def c_fm_sw : Code := sub [1, 1, 1, 1, 1, 1] (Tryd.f21.body.getD .skip)
noncomputable def c_fm_b1 : Code := sub [1] (Tryd.f21.body.getD .skip)
set_option maxRecDepth 100000 in
set_option maxHeartbeats 4000000 in
theorem fm_head_wp {Q : Exit → Act → World → Prop} {x : ByteArray} {r i j n d k : Nat} {wo w : World} (hd : d + k = 41) (hn : n ≤ 200) (hp : FS n wo w r x i 0 j)
    (hR : ∀ c' n' a' w', frd x k i n = .bad c' i → c' ≠ 0 → Frm 154 [(4, .pointer (some ⟨wo.heap.size, 0, none⟩))] a' → FD n' wo w' r x i c' i (.int .i64 0) (.string ⟨#[]⟩) (.slice none 0 0) (.slice none 0 0) → Q .ret a' w')
    (hS : ∀ k' a' w', k = k' + 1 → n + 1 ≤ 200 → startF (byteAt x i) → Frm 154 [(0, .pointer (some ⟨r, 0, none⟩)), (1, .int .i64 (d : Nat)), (4, .pointer (some ⟨wo.heap.size, 0, none⟩)), (5, .int .u8 (byteAt x i : Nat))] a' → FS (n + 1) wo w' r x i 0 j → Code.wp Tryd.prog c_fm_sw Q a' w') : ∀ ac, Frm 154 [(0, .pointer (some ⟨r, 0, none⟩)), (1, .int .i64 (d : Nat)), (4, .pointer (some ⟨wo.heap.size, 0, none⟩))] ac → Code.wp Tryd.prog c_fm_b1 Q ac w := by
  intro a0 hf0
  conv => arg 2; whnf
  refine wp_seq ?_
  refine wp_seq ?_
  refine fm_r1_wp hp (fun a2 h2 => ?_) a0 hf0
  refine wp_cond_false ((h2.eval (k := 15) (v := .bool (decide ((0 : Nat) ≠ 0))) (by simp)).trans (by rw [decide_eq_false (fun h => h rfl)])) ?_
  refine wp_skip ?_
  show Code.wp _ _ _ a2 w
  refine wp_seq ?_
  refine fm_r3_wp hp (fun a3 w3 h3 hp3 => ?_) a2 ⟨h2.1, h2.2.1, h2.2.2.1, h2.2.2.2.1, h2.2.2.2.2.1, trivial⟩
  refine wp_seq ?_
  refine wp_seq ?_
  refine fm_r4_wp (fun a4 h4 => ?_) a3 h3
  by_cases hs : startF (byteAt x i)
  case neg =>
    refine wp_cond_true ((h4.eval (k := 35) (v := .bool (decide (¬ startF (byteAt x i)))) (by simp)).trans (by rw [decide_eq_true hs])) ?_
    refine wp_seq ?_
    refine Code.wp_mono (Q := Exit.then (fun a' w' => Frm 154 [(0, .pointer (some ⟨r, 0, none⟩)), (1, .int .i64 (d : Nat)), (4, .pointer (some ⟨wo.heap.size, 0, none⟩))] a' ∧ FS n wo w' r x i 11 i) (fun _ _ _ => False)) ?_ (fm_r5_wp hp3 (fun a5 w5 h5 hp5 => ⟨h5, hp5⟩) a4 ⟨h4.1, h4.2.1, h4.2.2.1, h4.2.2.2.1, h4.2.2.2.2.1, trivial⟩)
    intro e a5 w5 h
    cases e with
    | normal =>
      obtain ⟨h5, hp5⟩ := h
      refine wp_seq ?_
      refine fm_r6_wp hp5 (fun a6 w6 h6 hd6 => ?_) a5 h5
      refine wp_ret ?_
      exact hR 11 n a6 w6 (by cases k <;> simp only [frd] <;> rw [if_neg hs]) (by decide) h6 hd6
    | _ => exact h.elim
  refine wp_cond_false ((h4.eval (k := 35) (v := .bool (decide (¬ startF (byteAt x i)))) (by simp)).trans (by rw [decide_eq_false (fun h => h hs)])) ?_
  refine wp_skip ?_
  show Code.wp _ _ _ a4 w3
  refine wp_seq ?_
  refine fm_r7_wp (by omega) hp3 (fun a5 w5 h5 hp5 => ?_) a4 ⟨h4.1, h4.2.1, h4.2.2.1, h4.2.2.2.1, h4.2.2.2.2.1, h4.2.2.2.2.2.1, trivial⟩
  refine wp_seq ?_
  refine wp_seq ?_
  refine fm_r8_wp hp5 (fun a6 h6 => ?_) a5 h5
  by_cases hl : 200 < n + 1 ∨ 40 < d
  · refine wp_cond_true ((h6.eval (k := 61) (v := .bool (decide (200 < n + 1 ∨ 40 < d))) (by simp)).trans (by rw [decide_eq_true hl])) ?_
    refine wp_seq ?_
    refine Code.wp_mono (Q := Exit.then (fun a' w' => Frm 154 [(0, .pointer (some ⟨r, 0, none⟩)), (1, .int .i64 (d : Nat)), (4, .pointer (some ⟨wo.heap.size, 0, none⟩))] a' ∧ FS (n + 1) wo w' r x i 1 i) (fun _ _ _ => False)) ?_ (fm_r9_wp hp5 (fun a5 w5 h5 hp5 => ⟨h5, hp5⟩) a6 ⟨h6.1, h6.2.1, h6.2.2.1, h6.2.2.2.1, h6.2.2.2.2.1, trivial⟩)
    intro e a7 w7 h
    cases e with
    | normal =>
      obtain ⟨h7, hp7⟩ := h
      refine wp_seq ?_
      refine fm_r10_wp hp7 (fun a8 w8 h8 hd8 => ?_) a7 h7
      refine wp_ret ?_
      refine hR 1 (n + 1) a8 w8 ?_ (by decide) h8 hd8
      cases k with
      | zero => simp only [frd]; rw [if_pos hs]
      | succ k => simp only [frd]; rw [if_pos hs, if_pos (by omega)]
    | _ => exact h.elim
  · refine wp_cond_false ((h6.eval (k := 61) (v := .bool (decide (200 < n + 1 ∨ 40 < d))) (by simp)).trans (by rw [decide_eq_false hl])) ?_
    refine wp_skip ?_
    show Code.wp _ _ _ a6 w5
    obtain ⟨k', rfl⟩ : ∃ k', k = k' + 1 := ⟨k - 1, by omega⟩
    exact hS k' a6 w5 rfl (by omega) hs ⟨h6.1, h6.2.1, h6.2.2.1, h6.2.2.2.1, h6.2.2.2.2.1, h6.2.2.2.2.2.1, trivial⟩ hp5


theorem FEnd.up {x : ByteArray} {K K' i' c' j' n' j : Nat} {P P' : Fv → Prop} {f g : FRd} (h : FEnd x K i' c' j' n' j P f) (hK : K ≤ K') (hbad : ∀ c a, f = .bad c a → g = .bad c a) (hok : ∀ v a b, f = .ok v a b → ∃ v', g = .ok v' a b ∧ (P v → P' v')) : FEnd x K' i' c' j' n' j P' g := by
  cases f with
  | bad c a =>
    rw [hbad c a rfl]
    obtain ⟨h1, h2, h3, h4⟩ := h
    exact ⟨h1, h2, h3, by omega⟩
  | ok v a b =>
    obtain ⟨v', e, hp⟩ := hok v a b rfl
    rw [e]
    obtain ⟨h1, h2, h3, h4, h5, h6, h7⟩ := h
    exact ⟨h1, h2, h3, h4, h5, h6, hp h7⟩
noncomputable def c_fm_nm : Code := sub [1, 1, 1, 1, 1, 1, 1] (Tryd.f21.body.getD .skip)
set_option maxRecDepth 100000 in
set_option maxHeartbeats 4000000 in
theorem fm_sw_wp {Q : Exit → Act → World → Prop} {x : ByteArray} {r i j n d k : Nat} {wo w : World} {pf : FRd} (hx : x.size ≤ 4000) (hi : i ≤ x.size) (hd : d ≤ 50) (hn : n + 1 ≤ 200) (hs : startF (byteAt x i)) (hp : FS (n + 1) wo w r x i 0 j)
    (hf : ∀ W, RdG (n + 1) W r x (i + 1) 0 j → Calls Tryd.prog 21 #[.pointer (some ⟨r, 0, none⟩), .int .i64 ((d : Int) + 1)] W (FormG x r (i + 1) 0 j (k + 1) (frd x k (i + 1) (n + 1)) W))
    (hpr : byteAt x i = 40 → frd x (k + 1) i n = pf ∧ ∀ W, RdG (n + 1) W r x i 0 j → Calls Tryd.prog 31 #[.pointer (some ⟨r, 0, none⟩), .int .i64 (d : Int)] W (FormG x r i 0 j (k + 2) pf W))
    (hR : ∀ i' c' j' n' ka na A1 m1 c1 A2 m2 c2 a' w', Frm 154 [(4, .pointer (some ⟨wo.heap.size, 0, none⟩))] a' → FD n' wo w' r x i' c' j' (.int .i64 ka) (.string na) (.slice A1 m1 c1) (.slice A2 m2 c2) → FEnd x (k + 2) i' c' j' n' j (fun v => fmRep.R w' (SN wo w') v.fm [.int .i64 ka, .string na, .slice A1 m1 c1, .slice A2 m2 c2]) (frd x (k + 1) i n) → Q .ret a' w')
    (hS : ∀ a', byteAt x i ≠ 45 → byteAt x i ≠ 40 → Frm 154 [(0, .pointer (some ⟨r, 0, none⟩)), (1, .int .i64 (d : Nat)), (4, .pointer (some ⟨wo.heap.size, 0, none⟩))] a' → Code.wp Tryd.prog c_fm_nm Q a' w) : ∀ ac, Frm 154 [(0, .pointer (some ⟨r, 0, none⟩)), (1, .int .i64 (d : Nat)), (4, .pointer (some ⟨wo.heap.size, 0, none⟩)), (5, .int .u8 (byteAt x i : Nat))] ac → Code.wp Tryd.prog c_fm_sw Q ac w := by
  intro a0 hf0
  conv => arg 2; whnf
  refine wp_seq ?_
  refine wp_seq ?_
  refine fm_r11_wp (fun a1 h1 => ?_) a0 hf0
  refine wp_block ?_
  refine wp_seq ?_
  refine fm_r12_wp (fun a2 h2 => ?_) a1 h1
  by_cases h45 : byteAt x i = 45
  · refine wp_cond_true ((h2.eval (k := 73) (v := .bool (decide (byteAt x i = 45))) (by simp)).trans (by rw [decide_eq_true h45])) ?_
    have hlt := byteAt_lt (x := x) (i := i) (by rw [h45]; omega)
    refine wp_seq ?_
    refine fm_r13_wp (by omega) hp (fun a3 w3 h3 hp3 => ?_) a2 ⟨h2.1, h2.2.1, h2.2.2.1, h2.2.2.2.1, h2.2.2.2.2.1, trivial⟩
    refine wp_seq ?_
    refine fm_r14_wp hd hp3 hf (fun i' c' j' n' g a4 w4 h4 hd4 _ he4 => ?_) a3 h3
    refine wp_ret ?_
    refine hR i' c' j' n' 4 ⟨#[]⟩ none 0 0 _ 1 1 a4 w4 h4 hd4 ?_
    refine (he4 rfl).up (by omega) (fun c a e => ?_) (fun v a b e => ⟨.neg v, ?_, fun h => Fm.shut (a := ⟨4, ⟨#[]⟩, []⟩) (l := [v.fm]) (by decide +kernel) Rep.Sl.nil h⟩)
    · simp only [frd]
      rw [if_pos hs, if_neg (by omega), if_pos h45, e]
    · simp only [frd]
      rw [if_pos hs, if_neg (by omega), if_pos h45, e]
  refine wp_cond_false ((h2.eval (k := 73) (v := .bool (decide (byteAt x i = 45))) (by simp)).trans (by rw [decide_eq_false h45])) ?_
  refine wp_seq ?_
  refine fm_r15_wp (fun a3 h3 => ?_) a2 ⟨h2.1, h2.2.1, h2.2.2.1, h2.2.2.2.1, h2.2.2.2.2.1, h2.2.2.2.2.2.1, trivial⟩
  by_cases h40 : byteAt x i = 40
  · refine wp_cond_true ((h3.eval (k := 90) (v := .bool (decide (byteAt x i = 40))) (by simp)).trans (by rw [decide_eq_true h40])) ?_
    refine wp_seq ?_
    refine fm_r16_wp hp (hpr h40).2 (fun i' c' j' n' ka na A1 m1 c1 A2 m2 c2 a4 w4 h4 hd4 _ he4 => ?_) a3 ⟨h3.1, h3.2.1, h3.2.2.1, h3.2.2.2.1, h3.2.2.2.2.1, trivial⟩
    refine wp_ret ?_
    refine hR i' c' j' n' ka na A1 m1 c1 A2 m2 c2 a4 w4 h4 hd4 ?_
    rw [(hpr h40).1]
    exact he4 rfl
  refine wp_cond_false ((h3.eval (k := 90) (v := .bool (decide (byteAt x i = 40))) (by simp)).trans (by rw [decide_eq_false h40])) ?_
  refine wp_skip ?_
  exact hS a3 h45 h40 ⟨h3.1, h3.2.1, h3.2.2.1, h3.2.2.2.1, h3.2.2.2.2.1, trivial⟩


noncomputable def c_fm_kw : Code := sub [1, 1, 1, 1, 1, 1, 1, 1, 1] (Tryd.f21.body.getD .skip)
set_option maxRecDepth 100000 in
set_option maxHeartbeats 4000000 in
theorem fm_nm_wp {Q : Exit → Act → World → Prop} {x : ByteArray} {r i j n d k : Nat} {wo w : World} (hx : x.size ≤ 4000) (hi : i ≤ x.size) (hn : n + 1 ≤ 200) (hlow : 97 ≤ byteAt x i ∧ byteAt x i ≤ 122) (hp : FS (n + 1) wo w r x i 0 j)
    (hR : ∀ i' c' j' n' ka na A1 m1 c1 A2 m2 c2 a' w', Frm 154 [(4, .pointer (some ⟨wo.heap.size, 0, none⟩))] a' → FD n' wo w' r x i' c' j' (.int .i64 ka) (.string na) (.slice A1 m1 c1) (.slice A2 m2 c2) → FEnd x (k + 2) i' c' j' n' j (fun v => fmRep.R w' (SN wo w') v.fm [.int .i64 ka, .string na, .slice A1 m1 c1, .slice A2 m2 c2]) (frd x (k + 1) i n) → Q .ret a' w')
    (hS : ∀ a' w', byteAt x (nameE x i) ≠ 40 → Frm 154 [(0, .pointer (some ⟨r, 0, none⟩)), (1, .int .i64 (d : Nat)), (4, .pointer (some ⟨wo.heap.size, 0, none⟩)), (6, .string (x.extract i (nameE x i)))] a' → FS (n + 1) wo w' r x (nameE x i) 0 j → Code.wp Tryd.prog c_fm_kw Q a' w') : ∀ ac, Frm 154 [(0, .pointer (some ⟨r, 0, none⟩)), (1, .int .i64 (d : Nat)), (4, .pointer (some ⟨wo.heap.size, 0, none⟩))] ac → Code.wp Tryd.prog c_fm_nm Q ac w := by
  intro a0 hf0
  conv => arg 2; whnf
  have hpos := nameE_pos hlow
  have htop := nameE_top hi
  refine wp_seq ?_
  refine fm_r17_wp hx hi hp (fun a1 w1 h1 _ hp1 => ?_) a0 hf0
  have hp1 := hp1 (by omega)
  refine wp_seq ?_
  refine wp_seq ?_
  refine fm_r18_wp hp1 (fun a2 w2 h2 hp2 => ?_) a1 h1
  by_cases h40 : byteAt x (nameE x i) = 40
  · refine wp_cond_true ((h2.eval (k := 101) (v := .bool (decide (byteAt x (nameE x i) = 40))) (by simp)).trans (by rw [decide_eq_true h40])) ?_
    have hlt := byteAt_lt (x := x) (i := nameE x i) (by rw [h40]; omega)
    refine wp_seq ?_
    refine fm_r19_wp (by omega) hp2 (fun a3 w3 h3 hp3 => ?_) a2 ⟨h2.1, h2.2.1, h2.2.2.1, h2.2.2.2.1, h2.2.2.2.2.1, h2.2.2.2.2.2.1, trivial⟩
    refine wp_seq ?_
    refine fm_r20_wp hx (by omega) hp3 (fun l i' c' j' A cv a4 w4 h4 hd4 hl4 he4 hsl => ?_) a3 h3
    refine wp_ret ?_
    refine hR i' c' j' (n + 1) 2 _ A l.length cv none 0 0 a4 w4 h4 hd4 ?_
    have hfr : frd x (k + 1) i n = match wordsF x (nameE x i + 1) with
      | .bad j => .bad 11 j
      | .ok l j => .ok (.pred (x.extract i (nameE x i)) l) j (n + 1) := by
      simp only [frd]
      rw [if_pos (Or.inr (Or.inr hlow)), if_neg (by omega), if_neg (by omega), if_neg (by omega)]
      simp only [atomF]
      rw [if_pos h40]
      cases wordsF x (nameE x i + 1) <;> rfl
    rw [hfr]
    revert he4
    cases wordsF x (nameE x i + 1) with
    | bad a =>
      rintro ⟨e1, e2, e3⟩
      exact ⟨e2, by decide, e3, by omega⟩
    | ok l2 a =>
      rintro ⟨rfl, e1, e2, e3, e4⟩
      exact ⟨e1, e2, e3, rfl, e4, by omega, Fm.shut (a := ⟨2, x.extract i (nameE x i), l⟩) (l := []) (ext_le2 x i _ hx) hsl Rep.Sl.nil⟩
  refine wp_cond_false ((h2.eval (k := 101) (v := .bool (decide (byteAt x (nameE x i) = 40))) (by simp)).trans (by rw [decide_eq_false h40])) ?_
  refine wp_skip ?_
  exact hS a2 w2 h40 ⟨h2.1, h2.2.1, h2.2.2.1, h2.2.2.2.1, h2.2.2.2.2.1, h2.2.2.2.2.2.1, trivial⟩ hp2


noncomputable def c_fm_qu : Code := sub [1, 1, 1, 1, 1, 1, 1, 1, 1, 0, 1, 0, 1, 1, 1, 0] (Tryd.f21.body.getD .skip)
set_option maxRecDepth 100000 in
set_option maxHeartbeats 4000000 in
theorem fm_kw_wp {Q : Exit → Act → World → Prop} {x : ByteArray} {r i j n d k : Nat} {wo w : World} (hx : x.size ≤ 4000) (hi : i ≤ x.size) (hn : n + 1 ≤ 200) (hlow : 97 ≤ byteAt x i ∧ byteAt x i ≤ 122) (h40 : byteAt x (nameE x i) ≠ 40) (hp : FS (n + 1) wo w r x (nameE x i) 0 j)
    (hR : ∀ i' c' j' n' ka na A1 m1 c1 A2 m2 c2 a' w', Frm 154 [(4, .pointer (some ⟨wo.heap.size, 0, none⟩))] a' → FD n' wo w' r x i' c' j' (.int .i64 ka) (.string na) (.slice A1 m1 c1) (.slice A2 m2 c2) → FEnd x (k + 2) i' c' j' n' j (fun v => fmRep.R w' (SN wo w') v.fm [.int .i64 ka, .string na, .slice A1 m1 c1, .slice A2 m2 c2]) (frd x (k + 1) i n) → Q .ret a' w')
    (hS : ∀ a' Q', (x.extract i (nameE x i) = wAll ∨ x.extract i (nameE x i) = wSome) → x.extract i (nameE x i) ≠ wTrue → (∀ a w, Q .ret a w → Q' .ret a w) → Frm 154 [(0, .pointer (some ⟨r, 0, none⟩)), (1, .int .i64 (d : Nat)), (4, .pointer (some ⟨wo.heap.size, 0, none⟩)), (6, .string (x.extract i (nameE x i)))] a' → Code.wp Tryd.prog c_fm_qu Q' a' w) : ∀ ac, Frm 154 [(0, .pointer (some ⟨r, 0, none⟩)), (1, .int .i64 (d : Nat)), (4, .pointer (some ⟨wo.heap.size, 0, none⟩)), (6, .string (x.extract i (nameE x i)))] ac → Code.wp Tryd.prog c_fm_kw Q ac w := by
  intro a0 hf0
  conv => arg 2; whnf
  have htop := nameE_top hi
  have hfr : frd x (k + 1) i n = match atomF x i (n + 1) with
      | some r => r
      | none =>
        match frd x k (quI x i) (n + 1) with
        | .bad c j => .bad c j
        | .ok v j m => .ok (.qu (quK x i) (quX x i) v) j m := by
    simp only [frd]
    rw [if_pos (Or.inr (Or.inr hlow)), if_neg (by omega), if_neg (by omega), if_neg (by omega)]
    cases atomF x i (n + 1) <;> rfl
  refine wp_seq ?_
  refine wp_seq ?_
  refine fm_r21_wp (fun a1 h1 => ?_) a0 hf0
  refine wp_block ?_
  refine wp_seq ?_
  refine fm_r22_wp (fun a2 h2 => ?_) a1 h1
  by_cases ht : x.extract i (nameE x i) = wTrue
  · refine wp_cond_true ((h2.eval (k := 116) (v := .bool (decide (x.extract i (nameE x i) = wTrue))) (by simp)).trans (by rw [decide_eq_true ht])) ?_
    refine wp_seq ?_
    refine fm_r23_wp hp (fun a3 w3 h3 hd3 => ?_) a2 ⟨h2.1, h2.2.1, h2.2.2.1, h2.2.2.2.1, h2.2.2.2.2.1, trivial⟩
    refine wp_ret ?_
    refine hR _ _ _ _ _ _ _ _ _ _ _ _ a3 w3 h3 hd3 ?_
    rw [hfr]
    simp only [atomF]
    rw [if_neg h40, if_pos ht]
    exact ⟨rfl, rfl, rfl, rfl, htop, hn, Fm.shut (a := ⟨1, ⟨#[]⟩, []⟩) (l := []) (by decide +kernel) Rep.Sl.nil Rep.Sl.nil⟩
  refine wp_cond_false ((h2.eval (k := 116) (v := .bool (decide (x.extract i (nameE x i) = wTrue))) (by simp)).trans (by rw [decide_eq_false ht])) ?_
  refine wp_seq ?_
  refine wp_seq ?_
  refine fm_r24_wp (fun a3 h3 => ?_) a2 ⟨h2.1, h2.2.1, h2.2.2.1, h2.2.2.2.1, h2.2.2.2.2.1, h2.2.2.2.2.2.1, h2.2.2.2.2.2.2.1, trivial⟩
  by_cases hA : x.extract i (nameE x i) = wAll
  · refine wp_cond_true ((h3.eval (k := 119) (v := .bool (decide (x.extract i (nameE x i) = wAll))) (by simp)).trans (by rw [decide_eq_true hA])) ?_
    refine wp_skip ?_
    show Code.wp _ _ _ a3 w
    refine wp_cond_true ((h3.eval (k := 119) (v := .bool (decide (x.extract i (nameE x i) = wAll))) (by simp)).trans (by rw [decide_eq_true hA])) ?_
    exact hS a3 _ (Or.inl hA) ht (fun a w h => h) ⟨h3.1, h3.2.1, h3.2.2.1, h3.2.2.2.1, h3.2.2.2.2.1, h3.2.2.2.2.2.1, trivial⟩
  refine wp_cond_false ((h3.eval (k := 119) (v := .bool (decide (x.extract i (nameE x i) = wAll))) (by simp)).trans (by rw [decide_eq_false hA])) ?_
  refine fm_r25_wp (fun a4 h4 => ?_) a3 ⟨h3.1, h3.2.1, h3.2.2.1, h3.2.2.2.1, h3.2.2.2.2.1, h3.2.2.2.2.2.1, h3.2.2.2.2.2.2.1, trivial⟩
  show Code.wp _ _ _ a4 w
  by_cases hB : x.extract i (nameE x i) = wSome
  · refine wp_cond_true ((h4.eval (k := 119) (v := .bool (decide (x.extract i (nameE x i) = wSome))) (by simp)).trans (by rw [decide_eq_true hB])) ?_
    exact hS a4 _ (Or.inr hB) ht (fun a w h => h) ⟨h4.1, h4.2.1, h4.2.2.1, h4.2.2.2.1, h4.2.2.2.2.1, h4.2.2.2.2.2.1, trivial⟩
  refine wp_cond_false ((h4.eval (k := 119) (v := .bool (decide (x.extract i (nameE x i) = wSome))) (by simp)).trans (by rw [decide_eq_false hB])) ?_
  refine wp_skip ?_
  show Code.wp _ _ _ a4 w
  refine wp_seq ?_
  refine Code.wp_mono (Q := Exit.then (fun a' w' => Frm 154 [(0, .pointer (some ⟨r, 0, none⟩)), (1, .int .i64 (d : Nat)), (4, .pointer (some ⟨wo.heap.size, 0, none⟩))] a' ∧ FS (n + 1) wo w' r x (nameE x i) 11 (nameE x i)) (fun _ _ _ => False)) ?_ (fm_r31_wp hp (fun a5 w5 h5 hp5 => ⟨h5, hp5⟩) a4 ⟨h4.1, h4.2.1, h4.2.2.1, h4.2.2.2.1, h4.2.2.2.2.1, trivial⟩)
  intro e a5 w5 h
  cases e with
  | normal =>
    obtain ⟨h5, hp5⟩ := h
    refine wp_seq ?_
    refine fm_r32_wp hp5 (fun a6 w6 h6 hd6 => ?_) a5 h5
    refine wp_ret ?_
    refine hR _ _ _ _ _ _ _ _ _ _ _ _ a6 w6 h6 hd6 ?_
    rw [hfr]
    simp only [atomF]
    rw [if_neg h40, if_neg ht, if_neg (fun h => by rcases h with h | h; exact hA h; exact hB h)]
    exact ⟨rfl, by decide, rfl, by omega⟩
  | _ => exact h.elim


noncomputable def c_fm_q30 : Code := sub [1, 1, 1, 1, 1, 1, 1, 1, 1, 0, 1, 0, 1, 1, 1, 0, 1, 1, 1, 1] (Tryd.f21.body.getD .skip)
set_option maxRecDepth 100000 in
set_option maxHeartbeats 4000000 in
theorem fm_qu_wp {Q : Exit → Act → World → Prop} {x : ByteArray} {r i j n d k : Nat} {wo w : World} (hx : x.size ≤ 4000) (hi : i ≤ x.size) (hd : d ≤ 50) (hn : n + 1 ≤ 200) (hlow : 97 ≤ byteAt x i ∧ byteAt x i ≤ 122) (h40 : byteAt x (nameE x i) ≠ 40) (ht : x.extract i (nameE x i) ≠ wTrue) (hab : x.extract i (nameE x i) = wAll ∨ x.extract i (nameE x i) = wSome) (hp : FS (n + 1) wo w r x (nameE x i) 0 j)
    (hf : ∀ i2 c2 j2 W, (c2 = 0 → i2 ≤ x.size) → RdG (n + 1) W r x i2 c2 j2 → Calls Tryd.prog 21 #[.pointer (some ⟨r, 0, none⟩), .int .i64 ((d : Int) + 1)] W (FormG x r i2 c2 j2 (k + 1) (frd x k i2 (n + 1)) W))
    (hR : ∀ i' c' j' n' ka na A1 m1 c1 A2 m2 c2 a' w', Frm 154 [(4, .pointer (some ⟨wo.heap.size, 0, none⟩))] a' → FD n' wo w' r x i' c' j' (.int .i64 ka) (.string na) (.slice A1 m1 c1) (.slice A2 m2 c2) → FEnd x (k + 2) i' c' j' n' j (fun v => fmRep.R w' (SN wo w') v.fm [.int .i64 ka, .string na, .slice A1 m1 c1, .slice A2 m2 c2]) (frd x (k + 1) i n) → Q .ret a' w') : ∀ ac, Frm 154 [(0, .pointer (some ⟨r, 0, none⟩)), (1, .int .i64 (d : Nat)), (4, .pointer (some ⟨wo.heap.size, 0, none⟩)), (6, .string (x.extract i (nameE x i)))] ac → Code.wp Tryd.prog c_fm_qu Q ac w := by
  intro a0 hf0
  conv => arg 2; whnf
  have htop := nameE_top hi
  refine wp_seq ?_
  refine fm_r26_wp hx hp (fun a1 w1 h1 hp1 => ?_) a0 hf0
  refine wp_seq ?_
  refine fm_r27_wp hab (fun a2 w2 h2 hb2 _ => ?_) a1 h1
  have hp2 := hp1.below hb2
  have hfr : frd x (k + 1) i n = if byteAt x (nameE x i) ≠ 32 then .bad 11 (nameE x i)
      else if nameE x (nameE x i + 1) = nameE x i + 1 ∨ byteAt x (nameE x (nameE x i + 1)) ≠ 32 then .bad 11 (nameE x (nameE x i + 1))
      else match frd x k (quI x i) (n + 1) with
        | .bad c j => .bad c j
        | .ok v j m => .ok (.qu (quK x i) (quX x i) v) j m := by
    simp only [frd]
    rw [if_pos (Or.inr (Or.inr hlow)), if_neg (by omega), if_neg (by omega), if_neg (by omega)]
    simp only [atomF]
    rw [if_neg h40, if_neg ht, if_pos hab]
    by_cases h1 : byteAt x (nameE x i) ≠ 32
    · rw [if_pos h1, if_pos h1]
    · rw [if_neg h1, if_neg h1]
      by_cases h2 : nameE x (nameE x i + 1) = nameE x i + 1 ∨ byteAt x (nameE x (nameE x i + 1)) ≠ 32
      · rw [if_pos h2, if_pos h2]
      · rw [if_neg h2, if_neg h2]
        cases frd x k (quI x i) (n + 1) <;> rfl
  have hc8 : (if x.extract i (nameE x i) = wAll then (8 : Int) else 9) = ((quK x i : Nat) : Int) := by unfold quK; by_cases h : x.extract i (nameE x i) = wAll <;> simp [h]
  rw [hc8] at h2
  have fin : ∀ (i5 c5 j5 : Nat) (y : ByteArray) (a5 : Act) (w5 : World), y.size ≤ maxLen → (c5 = 0 → i5 = quI x i ∧ y = quX x i ∧ j5 = j ∧ i5 ≤ x.size ∧ byteAt x (nameE x i) = 32 ∧ ¬ (nameE x (nameE x i + 1) = nameE x i + 1 ∨ byteAt x (nameE x (nameE x i + 1)) ≠ 32)) → (c5 ≠ 0 → frd x (k + 1) i n = .bad c5 j5 ∧ i5 ≤ x.size + 1) → Frm 154 [(0, .pointer (some ⟨r, 0, none⟩)), (1, .int .i64 (d : Nat)), (4, .pointer (some ⟨wo.heap.size, 0, none⟩)), (6, .string (x.extract i (nameE x i))), (7, .int .i64 (quK x i : Nat)), (8, .string y)] a5 → FS (n + 1) wo w5 r x i5 c5 j5 → Code.wp Tryd.prog c_fm_q30 Q a5 w5 := by
    intro i5 c5 j5 y a5 w5 hy h0 hne h5 hp5
    conv => arg 2; whnf
    refine wp_seq ?_
    refine fm_r30_wp hd hp5 (fun W hW => hf i5 c5 j5 W (fun e => (h0 e).2.2.2.1) hW) (fun i' c' j' n' g a6 w6 h6 hd6 hA hB => ?_) a5 h5
    refine wp_ret ?_
    refine hR _ _ _ _ _ _ _ _ _ _ _ _ a6 w6 h6 hd6 ?_
    by_cases hc : c5 = 0
    · obtain ⟨rfl, rfl, rfl, h4, h6, h7⟩ := h0 hc
      rw [hfr, if_neg (fun h => h h6), if_neg h7]
      refine (hB hc).up (by omega) (fun c a e => by rw [e]) (fun v a b e => ⟨.qu (quK x i) (quX x i) v, by rw [e], fun h => Fm.shut (a := ⟨quK x i, quX x i, []⟩) (l := [v.fm]) hy Rep.Sl.nil h⟩)
    · obtain ⟨e1, e2, e3⟩ := hA hc
      obtain ⟨e4, e5⟩ := hne hc
      rw [e4]
      exact ⟨e2, hc, e3, by omega⟩
  refine wp_seq ?_
  by_cases h32 : byteAt x (nameE x i) = 32
  case neg =>
    have hp2' : FS (n + 1) wo w2 r x (nameE x i) 11 (nameE x i) := by simpa [takeI, takeC, takeJ, h32] using hp2
    refine fm_r28e_wp (by decide) hp2' (fun a3 h3 => ?_) a2 h2
    refine wp_seq ?_
    refine fm_r29_wp hx hp2' (fun a4 w4 h4 hp4 => ?_) a3 h3
    have hp4' : FS (n + 1) wo w4 r x (nameE x i) 11 (nameE x i) := by simpa [takeI, takeC, takeJ] using hp4
    exact fin _ 11 _ ⟨#[]⟩ a4 w4 (by decide +kernel) (fun h => absurd h (by decide)) (fun _ => ⟨by rw [hfr, if_pos h32], by omega⟩) h4 hp4'
  have hlt := byteAt_lt (x := x) (i := nameE x i) (by rw [h32]; omega)
  have hp2' : FS (n + 1) wo w2 r x (nameE x i + 1) 0 j := by simpa [takeI, takeC, takeJ, h32] using hp2
  have htop2 := nameE_top (x := x) (i := nameE x i + 1) (by omega)
  refine fm_r28_wp hx (by omega) hp2' (fun a3 w3 h3 hA hB => ?_) a2 h2
  refine wp_seq ?_
  by_cases hne : nameE x (nameE x i + 1) = nameE x i + 1
  · refine fm_r29_wp hx (hA hne) (fun a4 w4 h4 hp4 => ?_) a3 h3
    have hp4' : FS (n + 1) wo w4 r x (nameE x i + 1) 11 (nameE x i + 1) := by simpa [takeI, takeC, takeJ] using hp4
    exact fin _ 11 _ _ a4 w4 (ext_le2 x _ _ hx) (fun h => absurd h (by decide)) (fun _ => ⟨by rw [hfr, if_neg (fun h => h h32), if_pos (Or.inl hne), hne], by omega⟩) h4 hp4'
  · by_cases h33 : byteAt x (nameE x (nameE x i + 1)) = 32
    · have hlt3 := byteAt_lt (x := x) (i := nameE x (nameE x i + 1)) (by rw [h33]; omega)
      refine fm_r29_wp hx (hB hne) (fun a4 w4 h4 hp4 => ?_) a3 h3
      have hp4' : FS (n + 1) wo w4 r x (nameE x (nameE x i + 1) + 1) 0 j := by simpa [takeI, takeC, takeJ, h33] using hp4
      exact fin (nameE x (nameE x i + 1) + 1) 0 _ _ a4 w4 (ext_le2 x _ _ hx) (fun _ => ⟨rfl, rfl, rfl, Nat.succ_le_of_lt hlt3, h32, fun h => by rcases h with h | h; exact hne h; exact h h33⟩) (fun h => absurd rfl h) h4 hp4'
    · refine fm_r29_wp hx (hB hne) (fun a4 w4 h4 hp4 => ?_) a3 h3
      have hp4' : FS (n + 1) wo w4 r x (nameE x (nameE x i + 1)) 11 (nameE x (nameE x i + 1)) := by simpa [takeI, takeC, takeJ, h33] using hp4
      exact fin _ 11 _ _ a4 w4 (ext_le2 x _ _ hx) (fun h => absurd h (by decide)) (fun _ => ⟨by rw [hfr, if_neg (fun h => h h32), if_pos (Or.inr h33)], by omega⟩) h4 hp4'


/-- What a parenthesis opens, when n nodes were counted. -/
def pairF (x : ByteArray) (k i n : Nat) : FRd :=
  match sameF x (i + 1) n with
  | some r => r
  | none =>
    match frd x k (i + 1) n with
    | .bad c j => .bad c j
    | .ok v j m =>
      if byteAt x j ≠ 32 then .bad 11 j
      else if signF (byteAt x (j + 1)) = 0 then .bad 11 (j + 1)
      else if byteAt x (j + 2) ≠ 32 then .bad 11 (j + 2)
      else match frd x k (j + 3) m with
        | .bad c j' => .bad c j'
        | .ok u j' m' => if byteAt x j' = 41 then .ok (.bin (signF (byteAt x (j + 1))) v u) (j' + 1) m' else .bad 11 j'
set_option maxRecDepth 100000 in
set_option maxHeartbeats 4000000 in
theorem formR_step (x : ByteArray) (r i j n d k : Nat) (w : World) (hx : x.size ≤ 4000) (hd : d + k = 41) (hi : i ≤ x.size) (hn : n ≤ 200) (hr : RdG n w r x i 0 j)
    (hform : ∀ k' i2 c2 j2 n2 W, k = k' + 1 → (c2 = 0 → i2 ≤ x.size) → n2 ≤ 200 → RdG n2 W r x i2 c2 j2 → Calls Tryd.prog 21 #[.pointer (some ⟨r, 0, none⟩), .int .i64 ((d : Int) + 1)] W (FormG x r i2 c2 j2 (k' + 1) (frd x k' i2 n2) W))
    (hpair : ∀ k' n2 W, k = k' + 1 → byteAt x i = 40 → n2 ≤ 200 → RdG n2 W r x i 0 j → Calls Tryd.prog 31 #[.pointer (some ⟨r, 0, none⟩), .int .i64 (d : Int)] W (FormG x r i 0 j (k' + 2) (pairF x k' i n2) W)) :
    Calls Tryd.prog 21 #[.pointer (some ⟨r, 0, none⟩), .int .i64 (d : Int)] w (FormG x r i 0 j (k + 1) (frd x k i n) w) := by
  go_enter Tryd.func21, Tryd.ntmps21
  refine wp_seq ?_
  refine fm_r0_wp hr (fun a1 w1 h1 hp1 => ?_) _ (id ⟨rfl, rfl, rfl, rfl, trivial⟩)
  refine fm_head_wp (k := k) hd hn hp1 (fun c' n' a' w' e hc h hd' => ?_) (fun k' a2 w2 hk hn1 hs h2 hp2 => ?_) a1 h1
  · refine fm_ret_wp hd'.res ⟨i, c', i, n', 0, ⟨#[]⟩, none, 0, 0, none, 0, 0, rfl, hd'.rd, hd'.kp, fun h => absurd rfl h, fun _ => ?_⟩ a' h
    rw [e]
    exact ⟨rfl, hc, rfl, by omega⟩
  subst hk
  have hRR : ∀ i' c' j' n' ka na A1 m1 c1 A2 m2 c2 a' w', Frm 154 [(4, .pointer (some ⟨w.heap.size, 0, none⟩))] a' → FD n' w w' r x i' c' j' (.int .i64 ka) (.string na) (.slice A1 m1 c1) (.slice A2 m2 c2) → FEnd x (k' + 2) i' c' j' n' j (fun v => fmRep.R w' (SN w w') v.fm [.int .i64 ka, .string na, .slice A1 m1 c1, .slice A2 m2 c2]) (frd x (k' + 1) i n) → bodyPost Tryd.prog Tryd.f21 (FormG x r i 0 j (k' + 1 + 1) (frd x (k' + 1) i n) w) .ret a' w' := fun i' c' j' n' ka na A1 m1 c1 A2 m2 c2 a' w' h hd' he => fm_ret_wp hd'.res ⟨i', c', j', n', ka, na, A1, m1, c1, A2, m2, c2, rfl, hd'.rd, hd'.kp, fun h => absurd rfl h, fun _ => he⟩ a' h
  have hlt : i < x.size := byteAt_lt (by unfold startF at hs; omega)
  refine fm_sw_wp (pf := pairF x k' i (n + 1)) hx hi (by omega) hn1 hs hp2 (fun W hW => hform k' _ _ _ _ W rfl (fun _ => by omega) hn1 hW) (fun h40 => have h40' : ¬ byteAt x i = 45 := (by omega); ⟨by simp only [frd, pairF]; rw [if_pos hs, if_neg (by omega), if_neg h40', if_pos h40]; rfl, fun W hW => hpair k' _ W rfl h40 hn1 hW⟩) hRR (fun a3 h45 h40 h3 => ?_) a2 h2
  have hlow : 97 ≤ byteAt x i ∧ byteAt x i ≤ 122 := by unfold startF at hs; omega
  have htop := nameE_top hi
  refine fm_nm_wp hx hi hn1 hlow hp2 hRR (fun a4 w4 hne h4 hp4 => ?_) a3 h3
  refine fm_kw_wp hx hi hn1 hlow hne hp4 hRR (fun a5 Q' hab ht hQ h5 => ?_) a4 h4
  exact fm_qu_wp hx hi (by omega) hn1 hlow hne ht hab hp4 (fun i2 c2 j2 W h0 hW => hform k' i2 c2 j2 _ W rfl h0 hn1 hW) (fun i' c' j' n' ka na A1 m1 c1 A2 m2 c2 a' w' h hd' he => hQ _ _ (hRR i' c' j' n' ka na A1 m1 c1 A2 m2 c2 a' w' h hd' he)) a5 h5

end Go.Proofs.YtnoceodmnjhljabDoor
