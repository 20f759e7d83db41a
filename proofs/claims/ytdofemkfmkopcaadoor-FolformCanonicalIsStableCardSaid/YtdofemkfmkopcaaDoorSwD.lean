/-
  The reference's Swapped: the parts.
-/
import Derived.Test.YtdofemkfmkopcaaDoorSwC
import Derived.Test.YtdofemkfmkopcaaDoorStack

namespace Go.Proofs.YtdofemkfmkopcaaDoor
open Go Go.RowKit
set_option linter.unusedSimpArgs false
set_option linter.unusedVariables false

theorem infoForm : (Tryd.prog.info? 25).map (fun i => (i.zero, i.size, i.bytes)) = some (some (.agg #[.int .i64 0, .string ⟨#[]⟩, .slice none 0 0, .slice none 0 0]), 4, 72) := by kernel_rfl
theorem rows_ne {w : World} {B1 B2 s1 s2 n1 n2 : Nat} {E1 E2 : TypeId} {v1 v2 : Value} {x1 x2 : List Value} (h1 : w.ownsRow B1 E1 s1 v1 n1 x1) (h2 : w.ownsRow B2 E2 s2 v2 n2 x2) (hE : E1 ≠ E2) : ∀ k, v1.ownBlock = some k → v2.ownBlock ≠ some k := by
  intro k e1 e2
  rcases h1.2 with ⟨e, _⟩ | ⟨g, _, _, e, _, hh, _⟩
  · rw [e] at e1; cases e1
  rcases h2.2 with ⟨f, _⟩ | ⟨g', _, _, f, _, hh', _⟩
  · rw [f] at e2; cases e2
  rw [e] at e1; rw [f] at e2
  have q1 : g = k := Option.some.inj e1
  have q2 : g' = k := Option.some.inj e2
  subst q1 q2
  rw [hh] at hh'
  injection hh' with hh'
  injection hh' with _ q _
  exact hE q
/-- One part more. -/
theorem CY.sub {tt : List Fm} {PP : Nat → Prop} {vw vs : Value} {ws : List ByteArray} {x : ByteArray} {wo w : World} {kd : Int} {nm : ByteArray} {A B : Option Addr} {n1 c1 n2 c2 : Nat} {w2 w3 : World} {g cap : Nat} {t : Fm} {es xs : List Value} {o : Obj} (h : CY PP wo w vw ws x vs kd nm A n1 c1 B n2 c2) (hrow : w.ownsRow (wo.heap.size + 3) 25 4 vs tt.length xs) (hall : fmRep.All w (fun b => (wo.heap.size + 3 ≤ b ∧ b < w.heap.size) ∧ vs.ownBlock ≠ some b) tt xs) (hb2 : Below w.heap.size w w2) (hes : fmRep.R w2 (fun b => w.heap.size ≤ b ∧ b < w2.heap.size) t es)
    (hown : w3.ownsRow (wo.heap.size + 3) 25 4 (.slice (some ⟨g, 0, none⟩) (tt.length + 1) cap) (tt.length + 1) (xs ++ es)) (hg : (w2.alloc o).grownBy w3 vs.ownBlock) (hat : vs.ownBlock = some g ∨ g = w2.heap.size + 1) :
    w3.heap[wo.heap.size + 2]? = some (.cells #[.int .i64 kd, .string x, vw, vs] 25 (0, 0)) ∧ CY PP wo (w3.setCell ⟨wo.heap.size + 2, 3, none⟩ (.slice (some ⟨g, 0, none⟩) (tt.length + 1) cap)) vw ws x (.slice (some ⟨g, 0, none⟩) (tt.length + 1) cap) kd nm A n1 c1 B n2 c2 ∧ fmRep.Own 25 (wo.heap.size + 3) (w3.setCell ⟨wo.heap.size + 2, 3, none⟩ (.slice (some ⟨g, 0, none⟩) (tt.length + 1) cap)) (fun b => wo.heap.size + 3 ≤ b ∧ b < (w3.setCell ⟨wo.heap.size + 2, 3, none⟩ (.slice (some ⟨g, 0, none⟩) (tt.length + 1) cap)).heap.size) (.slice (some ⟨g, 0, none⟩) (tt.length + 1) cap) (tt ++ [t]) := by
  have hc := lt_heap h.c
  have hz2 := hb2.size
  have h2 := h.below hb2
  have hge : ∀ k, vs.ownBlock = some k → wo.heap.size + 3 ≤ k ∧ k < w.heap.size := fun k e => hrow.lt k e
  have hk : ∀ k, k < w2.heap.size → vs.ownBlock ≠ some k → w3.heap[k]? = w2.heap[k]? := fun k h1 h2 => (hg.block k (by simp; omega) (fun e => h2 e.symm)).trans (heap_old h1 rfl)
  have hne : ∀ k, k < wo.heap.size + 3 → vs.ownBlock ≠ some k := fun k hk e => by have := (hge k e).1; omega
  have hc3 := (hk (wo.heap.size + 2) (by omega) (hne _ (by omega))).trans h2.c
  have hsz : w2.heap.size + 1 ≤ w3.heap.size := by have := hg.size; simpa using this
  have hgg := (hown.lt g rfl).1
  have hrow2 : w2.ownsRow (wo.heap.size + 3) 25 4 vs tt.length xs := by
    obtain ⟨q1, q2⟩ := hrow
    refine ⟨q1, ?_⟩
    rcases q2 with q2 | ⟨g', cap', cur, e, q3, hh, r⟩
    · exact Or.inl q2
    · exact Or.inr ⟨g', cap', cur, e, q3, (hb2.block g' (lt_heap hh)).trans hh, r⟩
  have hvw := rows_ne h2.rw hrow2 (by decide)
  have hst := Rep.step (ρ := fmRep) (base := wo.heap.size + 3) (w1 := w2) (w3 := w3) (T := fun b => w.heap.size ≤ b ∧ b < w2.heap.size) (v := vs) (o := o) rfl (hall.keep (fun b hb => hb2.block b hb.1.2) (fun b hb => ⟨⟨hb.1.1, by have := hb.1.2; omega⟩, hb.2⟩)) hes (fun b hb => ⟨⟨by have := hb.1; omega, hb.2⟩, fun e => by have := (hge b e).2; have := hb.1; omega⟩) hown hg hat
  have hbs := h2.b.size
  refine ⟨hc3, ⟨?_, ?_, ?_, ?_, ?_, h.p⟩, ?_⟩
  · exact heap_far _ (by omega) ((hk _ (by omega) (hne _ (by omega))).trans h2.a)
  · exact heap_far _ (by omega) ((hk _ (by omega) (hne _ (by omega))).trans h2.z)
  · have := heap_set hc3 3 (.slice (some ⟨g, 0, none⟩) (tt.length + 1) cap)
    simpa using this
  · exact rowGrownF (rowGrownF h2.rw (fun b hb e => hk b hb (hvw b e))) (fun b _ e => heap_far _ (by have := (h2.rw.lt b e).1; omega) rfl)
  · refine ⟨hg.os.trans h2.b.os, hg.tape.trans h2.b.tape, hg.output.trans h2.b.output, by rw [size_set]; omega, fun k hk1 hk2 => ?_⟩
    exact (heap_far _ (by omega) (hk k (by omega) (hne k (by omega)))).trans (h2.b.block k hk1 hk2)
  · have := hst.grow (w' := w3.setCell ⟨wo.heap.size + 2, 3, none⟩ (.slice (some ⟨g, 0, none⟩) (tt.length + 1) cap)) (fun b hb1 _ => heap_far _ (by omega) rfl) (by rw [size_set]; omega)
    exact this
noncomputable def c_sw_r20 : Code := sub [1, 1, 1, 1, 0, 0] (Tryd.f31.body.getD .skip)
set_option maxRecDepth 1000000 in
set_option maxHeartbeats 16000000 in
theorem sw_r20_wp {Q : Exit → Act → World → Prop} {Df Dt : Option Addr} {mf ef mt et : Nat} {PP : Nat → Prop} {vw vs : Value} {ws : List ByteArray} {x : ByteArray} {wo w : World} {kd : Int} {nm : ByteArray} {A B : Option Addr} {n1 c1 n2 c2 : Nat} (hs : CY PP wo w vw ws x vs kd nm A n1 c1 B n2 c2) (hN : ∀ a', Frm 95 [(1, .slice Df mf ef), (2, .slice Dt mt et), (3, .pointer (some ⟨wo.heap.size, 0, none⟩)), (6, .pointer (some ⟨wo.heap.size + 1, 0, none⟩)), (7, .pointer (some ⟨wo.heap.size + 2, 0, none⟩)), (75, .slice B n2 c2), (76, .int .i64 (n2 : Nat)), (77, .int .i64 (0 : Nat))] a' → Q .normal a' w) : ∀ ac, Frm 95 [(1, .slice Df mf ef), (2, .slice Dt mt et), (3, .pointer (some ⟨wo.heap.size, 0, none⟩)), (6, .pointer (some ⟨wo.heap.size + 1, 0, none⟩)), (7, .pointer (some ⟨wo.heap.size + 2, 0, none⟩))] ac → Code.wp Tryd.prog c_sw_r20 Q ac w := by
  refine frm_open ?_
  refine frame_sw ?_
  intros
  rename_i hq
  obtain ⟨-, -, e0q, e1q, e2q, e3q, e4q, -⟩ := hq
  obtain rfl := sI e0q
  obtain rfl := sI e1q
  obtain rfl := sI e2q
  obtain rfl := sI e3q
  obtain rfl := sI e4q
  conv => arg 2; whnf
  have a0 := cellv hs.a 0 rfl
  have a1 := cellv hs.a 1 rfl
  have a2 := cellv hs.a 2 rfl
  have a3 := cellv hs.a 3 rfl
  have al := lt_heap hs.a
  have HS := Lib.hid hs
  clear hs
  have HN := Lib.hid hN
  clear hN
  go_wp2_with fail
  exact HN.out _ (id ⟨rfl, rfl, rfl, rfl, rfl, rfl, rfl, rfl, rfl, rfl, trivial⟩)
noncomputable def c_sw_r21 : Code := sub [1, 1, 1, 1, 0, 1, 0, 0, 0] (Tryd.f31.body.getD .skip)
set_option maxRecDepth 1000000 in
set_option maxHeartbeats 16000000 in
theorem sw_r21_wp {Q : Exit → Act → World → Prop} {B : Option Addr} {n2 c2 i : Nat} {wo w : World} {Df Dt : Option Addr} {mf ef mt et : Nat} (hN : ∀ a', Frm 95 [(1, .slice Df mf ef), (2, .slice Dt mt et), (3, .pointer (some ⟨wo.heap.size, 0, none⟩)), (6, .pointer (some ⟨wo.heap.size + 1, 0, none⟩)), (7, .pointer (some ⟨wo.heap.size + 2, 0, none⟩)), (75, .slice B n2 c2), (76, .int .i64 (n2 : Nat)), (77, .int .i64 (i : Nat)), (78, .bool (decide (i < n2)))] a' → Q .normal a' w) : ∀ ac, Frm 95 [(1, .slice Df mf ef), (2, .slice Dt mt et), (3, .pointer (some ⟨wo.heap.size, 0, none⟩)), (6, .pointer (some ⟨wo.heap.size + 1, 0, none⟩)), (7, .pointer (some ⟨wo.heap.size + 2, 0, none⟩)), (75, .slice B n2 c2), (76, .int .i64 (n2 : Nat)), (77, .int .i64 (i : Nat))] ac → Code.wp Tryd.prog c_sw_r21 Q ac w := by
  refine frm_open ?_
  refine frame_sw ?_
  intros
  rename_i hq
  obtain ⟨-, -, e0q, e1q, e2q, e3q, e4q, e5q, e6q, e7q, -⟩ := hq
  obtain rfl := sI e0q
  obtain rfl := sI e1q
  obtain rfl := sI e2q
  obtain rfl := sI e3q
  obtain rfl := sI e4q
  obtain rfl := sI e5q
  obtain rfl := sI e6q
  obtain rfl := sI e7q
  conv => arg 2; whnf
  by_cases h : i < n2
  · have t1 : decide ((i : Int) < (n2 : Int)) = true := by first | exact decide_eq_true (by omega) | exact beq_iff_eq.2 (by omega) | exact bne_iff_ne.2 (by omega)
    have t2 : (decide (i < n2)) = true := decide_eq_true h
    rw [t2] at hN
    clear h
    have HN := Lib.hid hN
    clear hN
    go_wp2_with fail
    exact HN.out _ (id ⟨rfl, rfl, rfl, rfl, rfl, rfl, rfl, rfl, rfl, rfl, rfl, trivial⟩)
  · have t1 : decide ((i : Int) < (n2 : Int)) = false := by first | exact decide_eq_false (by omega) | exact beq_eq_false_iff_ne.2 (by omega) | exact bne_eq_false_iff_eq.2 (by omega)
    have t2 : (decide (i < n2)) = false := decide_eq_false h
    rw [t2] at hN
    clear h
    have HN := Lib.hid hN
    clear hN
    go_wp2_with fail
    exact HN.out _ (id ⟨rfl, rfl, rfl, rfl, rfl, rfl, rfl, rfl, rfl, rfl, rfl, trivial⟩)
noncomputable def c_sw_r22 : Code := sub [1, 1, 1, 1, 0, 1, 0, 0, 1, 1, 0, 0, 0] (Tryd.f31.body.getD .skip)
set_option maxRecDepth 1000000 in
set_option maxHeartbeats 16000000 in
theorem sw_r22_wp {Q : Exit → Act → World → Prop} {B : Option Addr} {n2 c2 i : Nat} {wo w : World} {Df Dt : Option Addr} {mf ef mt et : Nat} (hN : ∀ a', Frm 95 [(1, .slice Df mf ef), (2, .slice Dt mt et), (3, .pointer (some ⟨wo.heap.size, 0, none⟩)), (6, .pointer (some ⟨wo.heap.size + 1, 0, none⟩)), (7, .pointer (some ⟨wo.heap.size + 2, 0, none⟩)), (75, .slice B n2 c2), (76, .int .i64 (n2 : Nat)), (77, .int .i64 (i : Nat)), (12, .int .i64 (i : Nat))] a' → Q .normal a' w) : ∀ ac, Frm 95 [(1, .slice Df mf ef), (2, .slice Dt mt et), (3, .pointer (some ⟨wo.heap.size, 0, none⟩)), (6, .pointer (some ⟨wo.heap.size + 1, 0, none⟩)), (7, .pointer (some ⟨wo.heap.size + 2, 0, none⟩)), (75, .slice B n2 c2), (76, .int .i64 (n2 : Nat)), (77, .int .i64 (i : Nat))] ac → Code.wp Tryd.prog c_sw_r22 Q ac w := by
  refine frm_open ?_
  refine frame_sw ?_
  intros
  rename_i hq
  obtain ⟨-, -, e0q, e1q, e2q, e3q, e4q, e5q, e6q, e7q, -⟩ := hq
  obtain rfl := sI e0q
  obtain rfl := sI e1q
  obtain rfl := sI e2q
  obtain rfl := sI e3q
  obtain rfl := sI e4q
  obtain rfl := sI e5q
  obtain rfl := sI e6q
  obtain rfl := sI e7q
  conv => arg 2; whnf
  have HN := Lib.hid hN
  clear hN
  go_wp2_with fail
  exact HN.out _ (id ⟨rfl, rfl, rfl, rfl, rfl, rfl, rfl, rfl, rfl, rfl, rfl, trivial⟩)
noncomputable def c_sw_r24 : Code := sub [1, 1, 1, 1, 0, 1, 0, 0, 1, 1, 1] (Tryd.f31.body.getD .skip)
set_option maxRecDepth 1000000 in
set_option maxHeartbeats 16000000 in
theorem sw_r24_wp {Q : Exit → Act → World → Prop} {B : Option Addr} {n2 c2 i : Nat} {wo w : World} {Df Dt : Option Addr} {mf ef mt et : Nat} (hi : i < n2) (hlim : n2 ≤ maxLen) (hN : ∀ a', Frm 95 [(1, .slice Df mf ef), (2, .slice Dt mt et), (3, .pointer (some ⟨wo.heap.size, 0, none⟩)), (6, .pointer (some ⟨wo.heap.size + 1, 0, none⟩)), (7, .pointer (some ⟨wo.heap.size + 2, 0, none⟩)), (75, .slice B n2 c2), (76, .int .i64 (n2 : Nat)), (77, .int .i64 (i + 1 : Nat))] a' → Q .normal a' w) : ∀ ac, Frm 95 [(1, .slice Df mf ef), (2, .slice Dt mt et), (3, .pointer (some ⟨wo.heap.size, 0, none⟩)), (6, .pointer (some ⟨wo.heap.size + 1, 0, none⟩)), (7, .pointer (some ⟨wo.heap.size + 2, 0, none⟩)), (75, .slice B n2 c2), (76, .int .i64 (n2 : Nat)), (77, .int .i64 (i : Nat))] ac → Code.wp Tryd.prog c_sw_r24 Q ac w := by
  refine frm_open ?_
  refine frame_sw ?_
  intros
  rename_i hq
  obtain ⟨-, -, e0q, e1q, e2q, e3q, e4q, e5q, e6q, e7q, -⟩ := hq
  obtain rfl := sI e0q
  obtain rfl := sI e1q
  obtain rfl := sI e2q
  obtain rfl := sI e3q
  obtain rfl := sI e4q
  obtain rfl := sI e5q
  obtain rfl := sI e6q
  obtain rfl := sI e7q
  conv => arg 2; whnf
  have hi4 : (i : Int) ≤ 9223372036854775806 := by unfold maxLen at hlim; omega
  have HN := Lib.hid hN
  clear hN
  go_wp2_with fail
  exact HN.out _ (id ⟨rfl, rfl, rfl, rfl, rfl, rfl, rfl, rfl, rfl, rfl, trivial⟩)
noncomputable def c_sw_r23 : Code := sub [1, 1, 1, 1, 0, 1, 0, 0, 1, 1, 0, 0, 1] (Tryd.f31.body.getD .skip)
set_option maxRecDepth 1000000 in
set_option maxHeartbeats 16000000 in
theorem sw_r23_wp {K : Act → World → Prop} {i b o : Nat} {t : Fm} {ke : Int} {ne : ByteArray} {Ae Be : Option Addr} {n3 c3 n4 c4 : Nat} {Df Dt : Option Addr} {mf ef mt et : Nat} {tt : List Fm} {PP : Nat → Prop} {vw vs : Value} {ws : List ByteArray} {x : ByteArray} {wo w : World} {kd : Int} {nm : ByteArray} {A : Option Addr} {n1 c1 n2 c2 : Nat} (hi : i < n2) (htt : tt.length ≤ 1000) (e0 : w.cell? ⟨b, o + i * 4, none⟩ = some (.int .i64 ke)) (e1 : w.cell? ⟨b, o + i * 4 + 1, none⟩ = some (.string ne)) (e2 : w.cell? ⟨b, o + i * 4 + 2, none⟩ = some (.slice Ae n3 c3)) (e3 : w.cell? ⟨b, o + i * 4 + 3, none⟩ = some (.slice Be n4 c4)) (hbl : b < w.heap.size) (hc : ∀ W : World, Below w.heap.size w W → Calls Tryd.prog 31 #[.agg #[.int .i64 ke, .string ne, .slice Ae n3 c3, .slice Be n4 c4], .slice Df mf ef, .slice Dt mt et] W fun e w' => ∃ es : List Value, e = .returned (.agg es.toArray) ∧ fmRep.R w' (fun b => w.heap.size ≤ b ∧ b < w'.heap.size) t es ∧ Below w.heap.size w w') (hs : CY PP wo w vw ws x vs kd nm A n1 c1 (some ⟨b, o, none⟩) n2 c2) (ho : fmRep.Own 25 (wo.heap.size + 3) w (fun b => wo.heap.size + 3 ≤ b ∧ b < w.heap.size) vs tt) (hN : ∀ v' a' w', Frm 95 [(1, .slice Df mf ef), (2, .slice Dt mt et), (3, .pointer (some ⟨wo.heap.size, 0, none⟩)), (6, .pointer (some ⟨wo.heap.size + 1, 0, none⟩)), (7, .pointer (some ⟨wo.heap.size + 2, 0, none⟩)), (75, .slice (some ⟨b, o, none⟩) n2 c2), (76, .int .i64 (n2 : Nat)), (77, .int .i64 (i : Nat))] a' → CY PP wo w' vw ws x v' kd nm A n1 c1 (some ⟨b, o, none⟩) n2 c2 → fmRep.Own 25 (wo.heap.size + 3) w' (fun b => wo.heap.size + 3 ≤ b ∧ b < w'.heap.size) v' (tt ++ [t]) → K a' w') : ∀ ac, Frm 95 [(1, .slice Df mf ef), (2, .slice Dt mt et), (3, .pointer (some ⟨wo.heap.size, 0, none⟩)), (6, .pointer (some ⟨wo.heap.size + 1, 0, none⟩)), (7, .pointer (some ⟨wo.heap.size + 2, 0, none⟩)), (75, .slice (some ⟨b, o, none⟩) n2 c2), (76, .int .i64 (n2 : Nat)), (77, .int .i64 (i : Nat)), (12, .int .i64 (i : Nat))] ac → Code.wp Tryd.prog c_sw_r23 (Exit.then K (fun _ _ _ => False)) ac w := by
  refine frm_open ?_
  refine frame_sw ?_
  intros
  rename_i hq
  obtain ⟨-, -, e0q, e1q, e2q, e3q, e4q, e5q, e6q, e7q, e8q, -⟩ := hq
  obtain rfl := sI e0q
  obtain rfl := sI e1q
  obtain rfl := sI e2q
  obtain rfl := sI e3q
  obtain rfl := sI e4q
  obtain rfl := sI e5q
  obtain rfl := sI e6q
  obtain rfl := sI e7q
  obtain rfl := sI e8q
  conv => arg 2; whnf
  obtain ⟨ti, hti, hti0, hti1, hti2⟩ := info_parts infoForm
  have q0 : (0 : Int) ≤ (i : Int) := by omega
  have q1 : (i : Int) < (n2 : Int) := by omega
  obtain ⟨Av, cv, rfl⟩ := ho.len
  obtain ⟨xs, hrow, hall⟩ := id ho
  have a3 : w.cell? ⟨wo.heap.size, 3, none⟩ = some (.slice (some ⟨b, o, none⟩) n2 c2) := cellv hs.a 3 rfl
  have al := lt_heap hs.a
  have k3 : w.cell? ⟨wo.heap.size + 2, 3, none⟩ = some (.slice Av tt.length cv) := cellv hs.c 3 rfl
  have kf := free_heap hs.c 3
  have kl := lt_heap hs.c
  have hwo := hs.b.size
  have HALL := Lib.hid hall
  have HROW := Lib.hid hrow
  have HC := Lib.hid hc
  clear hall hrow hc ho
  have HS := Lib.hid hs
  clear hs
  generalize hgc : wo.heap.size + 2 = gc at k3 kf kl hN ⊢
  have HN := Lib.hid hN
  clear hN
  go_region_law (first
    | (refine step_call (by rfl) 31 _ ?hargs (HC.out _ ?hbel) ?_; (case hargs => (go_simp; done)); (case hbel => (go_grown)); rintro e w2 ⟨es, rfl, hes, hb2⟩; refine ⟨_, rfl, ?_⟩; obtain ⟨A5, n5, c5, B5, n6, c6, rfl, _, _, _, _⟩ := Fm.shape hes; have z2 := hb2.size; have kl2 : gc < w2.heap.size := (by omega); have m3 := (cell_keep (hb2.block _ kl) 3).trans k3; have mfz := (World.frozen?_of_block (a := ⟨gc, 3, none⟩) (hb2.block _ kl)).trans kf; have HES := Lib.hid hes; have HB2 := Lib.hid hb2; have HROW2 := Lib.hid (show w2.ownsRow (wo.heap.size + 3) 25 4 (.slice Av tt.length cv) tt.length xs from ⟨HROW.out.1, HROW.out.2.imp (fun h => h) (fun h => by obtain ⟨g', cap', cur, e, q3, hh, r⟩ := h; exact ⟨g', cap', cur, e, q3, (hb2.block g' (lt_heap hh)).trans hh, r⟩)⟩); clear hes hb2)
    | (refine step_append_lies _ (by rfl) (.tmp 81) (.tmp 90) _ (by rfl) (wo.heap.size + 3) 25 ti _ 4 72 Tryd.underlying23 hti hti0 hti1 hti2 rfl (by omega) (.slice Av tt.length cv) tt.length xs (by rfl) (by first | exact HROW2.out.alloc _ | exact (HROW2.out.alloc _).drew) ⟨w2.heap.size, 0, none⟩ 1 1 [.int .i64 t.lab.kind, .string t.lab.nm, .slice A5 n5 c5, .slice B5 n6 c6] (by rfl) (by rfl) (World.news_of_block (cs := #[.int .i64 t.lab.kind, .string t.lab.nm, .slice A5 n5 c5, .slice B5 n6 c6]) (t := 25) (fr := (0, 0)) (by first | exact heap_alloc_new w2 _ | exact heap_drew (heap_alloc_new w2 _))) (by simp [Value.oneCell']) (by omega) (by unfold maxLen; omega) (by omega) (by first | omega | (simp; done) | (simp; omega)) (w2.heap.size + 1) (by simp) ?_; intro gq cap w3 hown3 hgrow hat hlt; have hsb := HS.out.sub HROW.out HALL.out HB2.out HES.out (o := .cells #[.int .i64 t.lab.kind, .string t.lab.nm, .slice A5 n5 c5, .slice B5 n6 c6] 25) hown3 ⟨hgrow.os, hgrow.tape, hgrow.output, hgrow.size, hgrow.block⟩ hat; have d3 := cellv hsb.1 3 rfl; have df := free_heap hsb.1 3; have dl := lt_heap hsb.1; rw [hgc] at d3 df dl; have HSB := Lib.hid hsb; clear hown3 hgrow hat hlt hsb))
  all_goals go_wp2_with fail
  all_goals subst hgc
  all_goals exact HN.out _ _ _ (id ⟨rfl, rfl, rfl, rfl, rfl, rfl, rfl, rfl, rfl, rfl, trivial⟩) HSB.out.2.1 HSB.out.2.2

end Go.Proofs.YtdofemkfmkopcaaDoor
