/-
  The reference's Put.
-/
import Derived.Test.YtdofemkfmkopcaaDoorCrA
namespace Go.Proofs.YtdofemkfmkopcaaDoor
open Go Go.RowKit
set_option linter.unusedSimpArgs false
set_option linter.unusedVariables false

theorem tw_take {α : Type} (p : α → Bool) (l : List α) (i : Nat) (h1 : ∀ y ∈ l.take i, p y = true) (h2 : ∀ y, (l.drop i).head? = some y → p y = false) : l.takeWhile p = l.take i ∧ l.dropWhile p = l.drop i := by
  have e : l = l.take i ++ l.drop i := (List.take_append_drop i l).symm
  constructor
  · conv => lhs; rw [e]
    rw [List.takeWhile_append_of_pos h1]
    cases hd : l.drop i with
    | nil => simp
    | cons y r => rw [List.takeWhile_cons_of_neg (by rw [h2 y (by rw [hd]; rfl)]; decide), List.append_nil]
  · conv => lhs; rw [e]
    rw [List.dropWhile_append_of_pos h1]
    cases hd : l.drop i with
    | nil => simp
    | cons y r => rw [List.dropWhile_cons_of_neg (by rw [h2 y (by rw [hd]; rfl)]; decide)]
theorem row_cells {w : World} {B g n c : Nat} {l : List ByteArray} (h : w.ownsRow B 9 1 (.slice (some ⟨g, 0, none⟩) n c) n (l.map .string)) (hn : l.length = n) : (∀ j u, (l.map Value.string)[j]? = some u → w.cell? ⟨g, j, none⟩ = some u) ∧ n ≤ c ∧ g < w.heap.size := by
  obtain ⟨_, ⟨e, e0⟩ | ⟨g', cap, cur, e, hg, hh, h1, h2, h3, h4⟩⟩ := h
  · cases e
  · injection e with e1 e2 e3
    injection e1 with e1
    injection e1 with e1 _ _
    subst e1 e3
    refine ⟨fun j u hu => ?_, h1, lt_heap hh⟩
    have hj : j < n := by
      have := (List.getElem?_eq_some_iff.1 hu).1
      simpa [hn] using this
    have h5 : cur[j]? = some u := by
      rw [← Array.getElem?_toList, ← List.getElem?_take_of_lt hj]
      rw [Nat.mul_one] at h4
      rw [h4]; exact hu
    simp only [World.cell?, hh]
    simpa using h5
noncomputable def c_pt_loop : Code := sub [1, 1, 1, 1, 0, 0] (Tryd.f66.body.getD .skip)
set_option maxRecDepth 100000 in
set_option maxHeartbeats 4000000 in
theorem pt_loop_wp {Q : Exit → Act → World → Prop} {g n c : Nat} {l : List ByteArray} {x : ByteArray} {w : World} (hcell : ∀ j u, (l.map Value.string)[j]? = some u → w.cell? ⟨g, j, none⟩ = some u) (hn : l.length = n) (hn5 : n ≤ 1000000) (hbl : g < w.heap.size)
    (hX : ∀ i a', i ≤ n → l.takeWhile (fun y => lessB y x) = l.take i → l.dropWhile (fun y => lessB y x) = l.drop i → Frm 39 [(0, .slice (some ⟨g, 0, none⟩) n c), (1, .string x), (5, .slice none 0 0), (6, .int .i64 (i : Nat))] a' → Q (.exit 0) a' w) : ∀ ac, Frm 39 [(0, .slice (some ⟨g, 0, none⟩) n c), (1, .string x), (5, .slice none 0 0), (6, .int .i64 (0 : Nat))] ac → Code.wp Tryd.prog c_pt_loop Q ac w := by
  intro a0 hf0
  conv => arg 2; whnf
  refine wp_loopR (fun gg a' w' => ∃ i : Nat, i + gg = n ∧ (∀ y ∈ l.take i, lessB y x = true) ∧ w' = w ∧ Frm 39 [(0, .slice (some ⟨g, 0, none⟩) n c), (1, .string x), (5, .slice none 0 0), (6, .int .i64 (i : Nat))] a') n ⟨0, by omega, by simp, rfl, hf0⟩ ?_
  rintro gg a1 w1 ⟨i, hig, hall, rfl, h1⟩
  refine wp_seq ?_
  refine wp_seq ?_
  by_cases hi : i < n
  case neg =>
    obtain rfl : i = n := by omega
    refine pt_r5x_wp (fun a2 h2 => ?_) a1 h1
    refine wp_cond_false ((h2.eval (k := 22) (v := .bool false) (by simp)).trans (by rw [show false = false from rfl])) ?_
    obtain ⟨e1, e2⟩ := tw_take (fun y => lessB y x) l i hall (fun y hy => by rw [List.drop_of_length_le (by omega)] at hy; cases hy)
    exact wp_exit (hX i a2 (Nat.le_refl _) e1 e2 ⟨h2.1, h2.2.1, h2.2.2.1, h2.2.2.2.1, h2.2.2.2.2.1, h2.2.2.2.2.2.1, trivial⟩)
  have hil : i < l.length := by omega
  have hcx : w1.cell? ⟨g, i, none⟩ = some (.string l[i]) := hcell i _ (by rw [List.getElem?_map, List.getElem?_eq_getElem hil]; rfl)
  refine pt_r5_wp hi hcx hbl (fun a2 h2 => ?_) a1 h1
  cases hp : lessB l[i] x
  · refine wp_cond_false ((h2.eval (k := 22) (v := .bool (lessB l[i] x)) (by simp)).trans (by rw [hp])) ?_
    obtain ⟨e1, e2⟩ := tw_take (fun y => lessB y x) l i hall (fun y hy => by rw [List.drop_eq_getElem_cons hil] at hy; injection hy with hy; rw [← hy]; exact hp)
    exact wp_exit (hX i a2 (by omega) e1 e2 ⟨h2.1, h2.2.1, h2.2.2.1, h2.2.2.2.1, h2.2.2.2.2.1, h2.2.2.2.2.2.1, trivial⟩)
  · refine wp_cond_true ((h2.eval (k := 22) (v := .bool (lessB l[i] x)) (by simp)).trans (by rw [hp])) ?_
    refine wp_skip ?_
    show Code.wp _ _ _ a2 w1
    refine wp_block ?_
    refine pt_r6_wp (by omega) (fun a3 h3 => ?_) a2 ⟨h2.1, h2.2.1, h2.2.2.1, h2.2.2.2.1, h2.2.2.2.2.1, h2.2.2.2.2.2.1, trivial⟩
    refine ⟨gg - 1, by omega, i + 1, by omega, ?_, rfl, h3⟩
    intro y hy
    rw [List.take_succ_eq_append_getElem hil] at hy
    rcases List.mem_append.1 hy with hy | hy
    · exact hall y hy
    · simp at hy; rw [hy]; exact hp
set_option maxRecDepth 100000 in
set_option maxHeartbeats 4000000 in
/-- The reference's Put. -/
theorem refPut_any {w : World} {B : Nat} {v : Value} {l : List ByteArray} (x : ByteArray) (hB : B ≤ w.heap.size) (h : w.ownsRow B 9 1 v l.length (l.map .string)) (hz : ∀ s ∈ l, s.size ≤ maxLen) (hl : l.length ≤ 1000000) :
    Calls Tryd.prog 66 #[v, .string x] w fun e w' => ∃ v', e = .returned v' ∧ w'.ownsRow B 9 1 v' (putB l x).length ((putB l x).map .string) ∧ Below w.heap.size w w' := by
  have hsl := sl_of_row (S := fun k => k < w.heap.size) h hz (by unfold maxLen; omega) (fun k hk => (h.lt k hk).2)
  obtain ⟨D, m, e, rfl, hlen, _⟩ := id hsl
  have hhas := refHas_any hsl (fun _ hk => hk) x
  have fin : ∀ (a' : Act) (w' : World) (v' : Value), Frm 39 [(4, v')] a' → w'.ownsRow B 9 1 v' (putB l x).length ((putB l x).map .string) → Below w.heap.size w w' → bodyPost Tryd.prog Tryd.f66 (fun e w' => ∃ v', e = .returned v' ∧ w'.ownsRow B 9 1 v' (putB l x).length ((putB l x).map .string) ∧ Below w.heap.size w w') .ret a' w' := fun a' w' v' hf hr hb => pt_ret_wp ⟨v', rfl, hr, hb⟩ a' hf
  go_enter Tryd.func66, Tryd.ntmps66
  refine wp_seq ?_
  refine pt_r0_wp (fun a0 h0 => ?_) _ (id ⟨rfl, rfl, rfl, rfl, trivial⟩)
  refine wp_seq ?_
  refine wp_seq ?_
  refine pt_r1_wp hhas (fun a1 h1 => ?_) a0 h0
  cases hb : hasB l x
  case true =>
    rw [hb] at h1
    refine wp_cond_true ((h1.eval (k := 9) (v := .bool true) (by simp)).trans (by rw [show true = true from rfl])) ?_
    refine wp_seq ?_
    refine pt_r2_wp (fun a2 h2 => ?_) a1 ⟨h1.1, h1.2.1, h1.2.2.1, h1.2.2.2.1, trivial⟩
    refine wp_ret ?_
    refine fin a2 w _ h2 ?_ (Below.refl _ _)
    have e1 : putB l x = l := by unfold putB; rw [if_pos hb]
    rw [e1]
    exact h
  rw [hb] at h1
  refine wp_cond_false ((h1.eval (k := 9) (v := .bool false) (by simp)).trans (by rw [show false = false from rfl])) ?_
  refine wp_skip ?_
  show Code.wp _ _ _ a1 w
  have eput : ∀ i, l.takeWhile (fun y => lessB y x) = l.take i → l.dropWhile (fun y => lessB y x) = l.drop i → putB l x = l.take i ++ x :: l.drop i := fun i e1 e2 => by
    unfold putB; rw [if_neg (by rw [hb]; decide), e1, e2]
  refine wp_seq ?_
  refine pt_r3_wp (fun a2 h2 => ?_) a1 ⟨h1.1, h1.2.1, h1.2.2.1, h1.2.2.2.1, trivial⟩
  refine wp_seq ?_
  refine pt_r4_wp (fun a3 h3 => ?_) a2 h2
  refine wp_seq ?_
  refine wp_block ?_
  have hbz : ∀ {w1 w2 : World} {u : Value}, w.heap.size ≤ w1.heap.size → w1.grownBy w2 u.ownBlock → (∀ k, u.ownBlock = some k → w.heap.size ≤ k) → Below w.heap.size w1 w2 := fun hs hg hk => ⟨hg.os, hg.tape, hg.output, hg.size, fun k hlt => hg.block k (by omega) (fun e => by have := hk k e.symm; omega)⟩
  obtain ⟨_, ⟨ev, e0⟩ | ⟨g, cap, cur, ev, hg, hh, _⟩⟩ := id h
  · injection ev with ev1 ev2 ev3
    obtain rfl : l = [] := List.length_eq_zero_iff.1 e0
    subst ev1 ev3
    obtain rfl : m = 0 := hlen.symm
    clear ev2
    refine wp_loopR (fun _ a' w' => w' = w ∧ Frm 39 [(0, Value.slice none 0 0), (1, .string x), (5, .slice none 0 0), (6, .int .i64 (0 : Nat))] a') 0 ⟨rfl, h3⟩ ?_
    rintro _ a4 w4 ⟨rfl, h4⟩
    refine wp_seq ?_
    refine wp_seq ?_
    refine pt_r5n_wp (fun a5 h5 => ?_) a4 h4
    refine wp_cond_false ((h5.eval (k := 22) (v := .bool false) (by simp)).trans (by rw [show false = false from rfl])) ?_
    refine wp_exit ?_
    repeat refine then_exit ?_
    refine inBlock_exit ?_
    show Code.wp _ _ _ a5 w4
    refine wp_seq ?_
    refine pt_r7n_wp (B := B) hB (fun A7 c7 a6 w6 h6 hr6 hg6 hx6 => ?_) a5 ⟨h5.1, h5.2.1, h5.2.2.1, h5.2.2.2.1, h5.2.2.2.2.1, h5.2.2.2.2.2.1, trivial⟩
    have hk6 : ∀ k, (Value.slice A7 0 c7).ownBlock = some k → w4.heap.size ≤ k := fun k e => by
      rcases hx6 with hx | ⟨k', e', hle⟩
      · rw [hx] at e; cases e
      · rw [e'] at e; injection e with e; omega
    have hb6 := hbz (u := Value.slice none 0 0) (Nat.le_refl _) hg6 (fun k e => by cases e)
    have hs6 := hb6.size
    refine wp_seq ?_
    refine pt_r8_wp (B := B) (by omega) (by omega) hr6 (fun A8 c8 a7 w7 h7 hr7 hg7 hx7 => ?_) a6 h6
    have hb7 := hb6.trans (hbz hs6 hg7 hk6)
    have hs7 := hb7.size
    have hk7 : ∀ k, (Value.slice A8 (0 + 1) c8).ownBlock = some k → w4.heap.size ≤ k := fun k e => by
      rcases hx7 with hx | ⟨k', e', hle⟩
      · rw [hx] at e; exact hk6 k e
      · rw [e'] at e; injection e with e; omega
    refine wp_seq ?_
    refine pt_r9n_wp (B := B) (by omega) (by omega) hr7 (fun A9 c9 a8 w8 h8 hr8 hg8 hx8 => ?_) a7 h7
    refine wp_ret ?_
    refine fin a8 w8 _ h8 ?_ (hb7.trans (hbz hs7 hg8 hk7))
    rw [eput 0 rfl rfl]
    exact hr8
  · injection ev with ev1 ev2 ev3
    subst ev1
    obtain ⟨hcell, hnc, hbl⟩ := row_cells (by rw [← hlen]; rw [hlen] at h ⊢; exact h) hlen
    refine pt_loop_wp hcell hlen (by omega) hbl (fun i a4 hi e1 e2 h4 => ?_) a3 h3
    refine inBlock_exit ?_
    show Code.wp _ _ _ a4 w
    refine wp_seq ?_
    refine pt_r7_wp (B := B) hB hcell hlen hnc (by omega) hbl hi (fun A7 c7 a6 w6 h6 hr6 hg6 hx6 => ?_) a4 h4
    have hk6 : ∀ k, (Value.slice A7 i c7).ownBlock = some k → w.heap.size ≤ k := fun k e => by
      rcases hx6 with hx | ⟨k', e', hle⟩
      · rw [hx] at e; cases e
      · rw [e'] at e; injection e with e; omega
    have hb6 := hbz (u := Value.slice none 0 0) (Nat.le_refl _) hg6 (fun k e => by cases e)
    have hs6 := hb6.size
    refine wp_seq ?_
    refine pt_r8_wp (B := B) (by omega) (by omega) hr6 (fun A8 c8 a7 w7 h7 hr7 hg7 hx7 => ?_) a6 h6
    have hb7 := hb6.trans (hbz hs6 hg7 hk6)
    have hs7 := hb7.size
    have hk7 : ∀ k, (Value.slice A8 (i + 1) c8).ownBlock = some k → w.heap.size ≤ k := fun k e => by
      rcases hx7 with hx | ⟨k', e', hle⟩
      · rw [hx] at e; exact hk6 k e
      · rw [e'] at e; injection e with e; omega
    have hcell7 : ∀ j u, (l.map Value.string)[j]? = some u → w7.cell? ⟨g, j, none⟩ = some u := fun j u hu => (cell_keep (hb7.block g hbl) _).trans (hcell j u hu)
    refine wp_seq ?_
    have hlist : (putB l x).map Value.string = (l.take i).map .string ++ [.string x] ++ (l.drop i).map .string := by rw [eput i e1 e2]; simp
    have hll : (putB l x).length = i + 1 + (m - i) := by rw [eput i e1 e2]; simp; omega
    by_cases hic : i < e
    · refine pt_r9_wp (B := B) (by omega) hcell7 hlen hnc (by omega) (by omega) hi hic (by omega) hr7 (fun A9 c9 a8 w8 h8 hr8 hg8 hx8 => ?_) a7 h7
      refine wp_ret ?_
      refine fin a8 w8 _ h8 ?_ (hb7.trans (hbz hs7 hg8 hk7))
      rw [hll, hlist]
      exact hr8
    · obtain rfl : i = m := by omega
      obtain rfl : i = e := by omega
      refine pt_r9e_wp (B := B) (by omega) (by omega) (by omega) hr7 (fun A9 c9 a8 w8 h8 hr8 hg8 hx8 => ?_) a7 h7
      refine wp_ret ?_
      refine fin a8 w8 _ h8 ?_ (hb7.trans (hbz hs7 hg8 hk7))
      rw [hll, hlist, List.drop_of_length_le (by omega)]
      simpa using hr8

end Go.Proofs.YtdofemkfmkopcaaDoor
