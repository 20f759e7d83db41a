/-
  The reference's Swapped: the name of a quantifier.
-/
import Derived.Test.YtdofemkfmkopcaaDoorSwB
import Derived.Deep.RegionLaw
namespace Go.Proofs.YtdofemkfmkopcaaDoor
open Go Go.RowKit
set_option linter.unusedSimpArgs false
set_option linter.unusedVariables false

theorem CY.name {PP : Nat → Prop} {vw vs : Value} {ws : List ByteArray} {x : ByteArray} {wo w : World} {kd : Int} {nm : ByteArray} {A B : Option Addr} {n1 c1 n2 c2 : Nat} (h : CY PP wo w vw ws x vs kd nm A n1 c1 B n2 c2) (y : ByteArray) : CY PP wo (w.setCell ⟨wo.heap.size + 2, 1, none⟩ (.string y)) vw ws y vs kd nm A n1 c1 B n2 c2 := by
  have h2 := lt_heap h.c
  refine ⟨heap_far _ (by omega) h.a, heap_far _ (by omega) h.z, ?_, rowGrownF h.rw (fun b _ e => heap_far _ (by have := (h.rw.lt b e).1; omega) rfl), ?_, h.p⟩
  · have := heap_set h.c 1 (.string y)
    simpa using this
  · refine ⟨h.b.os, h.b.tape, h.b.output, by rw [size_set]; exact h.b.size, fun k hk1 hk2 => (heap_far _ (by omega) rfl).trans (h.b.block k hk1 hk2)⟩
theorem CY.below {PP : Nat → Prop} {vw vs : Value} {ws : List ByteArray} {x : ByteArray} {wo w : World} {kd : Int} {nm : ByteArray} {A B : Option Addr} {n1 c1 n2 c2 : Nat} {w' : World} (h : CY PP wo w vw ws x vs kd nm A n1 c1 B n2 c2) (hb : Below w.heap.size w w') : CY PP wo w' vw ws x vs kd nm A n1 c1 B n2 c2 := h.keeps (Below.keeps hb _)
noncomputable def c_sw_r13 : Code := sub [1, 1, 1, 0, 0] (Tryd.f31.body.getD .skip)
set_option maxRecDepth 1000000 in
set_option maxHeartbeats 16000000 in
theorem sw_r13_wp {Q : Exit → Act → World → Prop} {Df Dt : Option Addr} {mf ef mt et : Nat} {PP : Nat → Prop} {vw vs : Value} {ws : List ByteArray} {x : ByteArray} {wo w : World} {kd : Int} {nm : ByteArray} {A B : Option Addr} {n1 c1 n2 c2 : Nat} (hs : CY PP wo w vw ws x vs kd nm A n1 c1 B n2 c2) (hN : ∀ a', Frm 95 [(1, .slice Df mf ef), (2, .slice Dt mt et), (3, .pointer (some ⟨wo.heap.size, 0, none⟩)), (6, .pointer (some ⟨wo.heap.size + 1, 0, none⟩)), (7, .pointer (some ⟨wo.heap.size + 2, 0, none⟩)), (55, .bool (isQu kd))] a' → Q .normal a' w) : ∀ ac, Frm 95 [(1, .slice Df mf ef), (2, .slice Dt mt et), (3, .pointer (some ⟨wo.heap.size, 0, none⟩)), (6, .pointer (some ⟨wo.heap.size + 1, 0, none⟩)), (7, .pointer (some ⟨wo.heap.size + 2, 0, none⟩))] ac → Code.wp Tryd.prog c_sw_r13 Q ac w := by
  refine frm_open ?_
  refine frame_sw ?_
  intros
  rename_i hq
  obtain ⟨-, -, e0q, e1q, e2q, e3q, e4q, -⟩ := hq
  obtain rfl := sI e0q
  obtain rfl := sI e1q
  obtain rfl := sI e2q
  obtain rfl := sI e3q
  obtain rfl := sI e4q
  conv => arg 2; whnf
  have a0 := cellv hs.a 0 rfl
  have a1 := cellv hs.a 1 rfl
  have a2 := cellv hs.a 2 rfl
  have a3 := cellv hs.a 3 rfl
  have al := lt_heap hs.a
  have HS := Lib.hid hs
  clear hs
  by_cases h8 : kd = 8
  · subst h8
    rw [show isQu 8 = true from rfl] at hN
    have HN := Lib.hid hN
    clear hN
    go_wp2_with fail
    exact HN.out _ (id ⟨rfl, rfl, rfl, rfl, rfl, rfl, rfl, rfl, trivial⟩)
  have t8 : (kd == 8) = false := beq_eq_false_iff_ne.2 h8
  by_cases h9 : kd = 9
  · subst h9
    rw [show isQu 9 = true from rfl] at hN
    have HN := Lib.hid hN
    clear hN
    go_wp2_with fail
    exact HN.out _ (id ⟨rfl, rfl, rfl, rfl, rfl, rfl, rfl, rfl, trivial⟩)
  have t9 : (kd == 9) = false := beq_eq_false_iff_ne.2 h9
  rw [show isQu kd = false from by simp [isQu, h8, h9]] at hN
  clear h8 h9
  have HN := Lib.hid hN
  clear hN
  go_wp2_with fail
  exact HN.out _ (id ⟨rfl, rfl, rfl, rfl, rfl, rfl, rfl, rfl, trivial⟩)
noncomputable def c_sw_r14 : Code := sub [1, 1, 1, 0, 1, 0, 0] (Tryd.f31.body.getD .skip)
set_option maxRecDepth 1000000 in
set_option maxHeartbeats 16000000 in
theorem sw_r14_wp {Q : Exit → Act → World → Prop} {wo w : World} {Df Dt : Option Addr} {mf ef mt et : Nat} (hN : ∀ a', Frm 95 [(1, .slice Df mf ef), (2, .slice Dt mt et), (3, .pointer (some ⟨wo.heap.size, 0, none⟩)), (6, .pointer (some ⟨wo.heap.size + 1, 0, none⟩)), (7, .pointer (some ⟨wo.heap.size + 2, 0, none⟩)), (57, .int .i64 (mf : Nat)), (58, .int .i64 (0 : Nat))] a' → Q .normal a' w) : ∀ ac, Frm 95 [(1, .slice Df mf ef), (2, .slice Dt mt et), (3, .pointer (some ⟨wo.heap.size, 0, none⟩)), (6, .pointer (some ⟨wo.heap.size + 1, 0, none⟩)), (7, .pointer (some ⟨wo.heap.size + 2, 0, none⟩))] ac → Code.wp Tryd.prog c_sw_r14 Q ac w := by
  refine frm_open ?_
  refine frame_sw ?_
  intros
  rename_i hq
  obtain ⟨-, -, e0q, e1q, e2q, e3q, e4q, -⟩ := hq
  obtain rfl := sI e0q
  obtain rfl := sI e1q
  obtain rfl := sI e2q
  obtain rfl := sI e3q
  obtain rfl := sI e4q
  conv => arg 2; whnf
  have HN := Lib.hid hN
  clear hN
  go_wp2_with fail
  exact HN.out _ (id ⟨rfl, rfl, rfl, rfl, rfl, rfl, rfl, rfl, rfl, trivial⟩)
noncomputable def c_sw_r15 : Code := sub [1, 1, 1, 0, 1, 0, 1, 0, 0, 0] (Tryd.f31.body.getD .skip)
set_option maxRecDepth 1000000 in
set_option maxHeartbeats 16000000 in
theorem sw_r15_wp {Q : Exit → Act → World → Prop} {j : Nat} {wo w : World} {Df Dt : Option Addr} {mf ef mt et : Nat} (hN : ∀ a', Frm 95 [(1, .slice Df mf ef), (2, .slice Dt mt et), (3, .pointer (some ⟨wo.heap.size, 0, none⟩)), (6, .pointer (some ⟨wo.heap.size + 1, 0, none⟩)), (7, .pointer (some ⟨wo.heap.size + 2, 0, none⟩)), (57, .int .i64 (mf : Nat)), (58, .int .i64 (j : Nat)), (59, .bool (decide (j < mf)))] a' → Q .normal a' w) : ∀ ac, Frm 95 [(1, .slice Df mf ef), (2, .slice Dt mt et), (3, .pointer (some ⟨wo.heap.size, 0, none⟩)), (6, .pointer (some ⟨wo.heap.size + 1, 0, none⟩)), (7, .pointer (some ⟨wo.heap.size + 2, 0, none⟩)), (57, .int .i64 (mf : Nat)), (58, .int .i64 (j : Nat))] ac → Code.wp Tryd.prog c_sw_r15 Q ac w := by
  refine frm_open ?_
  refine frame_sw ?_
  intros
  rename_i hq
  obtain ⟨-, -, e0q, e1q, e2q, e3q, e4q, e5q, e6q, -⟩ := hq
  obtain rfl := sI e0q
  obtain rfl := sI e1q
  obtain rfl := sI e2q
  obtain rfl := sI e3q
  obtain rfl := sI e4q
  obtain rfl := sI e5q
  obtain rfl := sI e6q
  conv => arg 2; whnf
  by_cases h : j < mf
  · have t1 : decide ((j : Int) < (mf : Int)) = true := by first | exact decide_eq_true (by omega) | exact beq_iff_eq.2 (by omega) | exact bne_iff_ne.2 (by omega)
    have t2 : (decide (j < mf)) = true := decide_eq_true h
    rw [t2] at hN
    clear h
    have HN := Lib.hid hN
    clear hN
    go_wp2_with fail
    exact HN.out _ (id ⟨rfl, rfl, rfl, rfl, rfl, rfl, rfl, rfl, rfl, rfl, trivial⟩)
  · have t1 : decide ((j : Int) < (mf : Int)) = false := by first | exact decide_eq_false (by omega) | exact beq_eq_false_iff_ne.2 (by omega) | exact bne_eq_false_iff_eq.2 (by omega)
    have t2 : (decide (j < mf)) = false := decide_eq_false h
    rw [t2] at hN
    clear h
    have HN := Lib.hid hN
    clear hN
    go_wp2_with fail
    exact HN.out _ (id ⟨rfl, rfl, rfl, rfl, rfl, rfl, rfl, rfl, rfl, rfl, trivial⟩)
noncomputable def c_sw_r16 : Code := sub [1, 1, 1, 0, 1, 0, 1, 0, 0, 1, 1, 0, 0, 0] (Tryd.f31.body.getD .skip)
set_option maxRecDepth 1000000 in
set_option maxHeartbeats 16000000 in
theorem sw_r16_wp {Q : Exit → Act → World → Prop} {j : Nat} {wo w : World} {Df Dt : Option Addr} {mf ef mt et : Nat} (hN : ∀ a', Frm 95 [(1, .slice Df mf ef), (2, .slice Dt mt et), (3, .pointer (some ⟨wo.heap.size, 0, none⟩)), (6, .pointer (some ⟨wo.heap.size + 1, 0, none⟩)), (7, .pointer (some ⟨wo.heap.size + 2, 0, none⟩)), (57, .int .i64 (mf : Nat)), (58, .int .i64 (j : Nat)), (11, .int .i64 (j : Nat))] a' → Q .normal a' w) : ∀ ac, Frm 95 [(1, .slice Df mf ef), (2, .slice Dt mt et), (3, .pointer (some ⟨wo.heap.size, 0, none⟩)), (6, .pointer (some ⟨wo.heap.size + 1, 0, none⟩)), (7, .pointer (some ⟨wo.heap.size + 2, 0, none⟩)), (57, .int .i64 (mf : Nat)), (58, .int .i64 (j : Nat))] ac → Code.wp Tryd.prog c_sw_r16 Q ac w := by
  refine frm_open ?_
  refine frame_sw ?_
  intros
  rename_i hq
  obtain ⟨-, -, e0q, e1q, e2q, e3q, e4q, e5q, e6q, -⟩ := hq
  obtain rfl := sI e0q
  obtain rfl := sI e1q
  obtain rfl := sI e2q
  obtain rfl := sI e3q
  obtain rfl := sI e4q
  obtain rfl := sI e5q
  obtain rfl := sI e6q
  conv => arg 2; whnf
  have HN := Lib.hid hN
  clear hN
  go_wp2_with fail
  exact HN.out _ (id ⟨rfl, rfl, rfl, rfl, rfl, rfl, rfl, rfl, rfl, rfl, trivial⟩)
noncomputable def c_sw_r17 : Code := sub [1, 1, 1, 0, 1, 0, 1, 0, 0, 1, 1, 0, 0, 1, 0] (Tryd.f31.body.getD .skip)
set_option maxRecDepth 1000000 in
set_option maxHeartbeats 16000000 in
theorem sw_r17_wp {K : Act → World → Prop} {b o j : Nat} {y : ByteArray} {Dt : Option Addr} {mf ef mt et : Nat} {PP : Nat → Prop} {vw vs : Value} {ws : List ByteArray} {x : ByteArray} {wo w : World} {kd : Int} {nm : ByteArray} {A B : Option Addr} {n1 c1 n2 c2 : Nat} (hj : j < mf) (hc : w.cell? ⟨b, o + j, none⟩ = some (.string y)) (hbl : b < w.heap.size) (hs : CY PP wo w vw ws x vs kd nm A n1 c1 B n2 c2) (hN : ∀ a' w', Frm 95 [(1, .slice (some ⟨b, o, none⟩) mf ef), (2, .slice Dt mt et), (3, .pointer (some ⟨wo.heap.size, 0, none⟩)), (6, .pointer (some ⟨wo.heap.size + 1, 0, none⟩)), (7, .pointer (some ⟨wo.heap.size + 2, 0, none⟩)), (57, .int .i64 (mf : Nat)), (58, .int .i64 (j : Nat)), (11, .int .i64 (j : Nat)), (67, .bool (decide (y = nm)))] a' → Below w.heap.size w w' → K a' w') : ∀ ac, Frm 95 [(1, .slice (some ⟨b, o, none⟩) mf ef), (2, .slice Dt mt et), (3, .pointer (some ⟨wo.heap.size, 0, none⟩)), (6, .pointer (some ⟨wo.heap.size + 1, 0, none⟩)), (7, .pointer (some ⟨wo.heap.size + 2, 0, none⟩)), (57, .int .i64 (mf : Nat)), (58, .int .i64 (j : Nat)), (11, .int .i64 (j : Nat))] ac → Code.wp Tryd.prog c_sw_r17 (Exit.then K (fun _ _ _ => False)) ac w := by
  refine frm_open ?_
  refine frame_sw ?_
  intros
  rename_i hq
  obtain ⟨-, -, e0q, e1q, e2q, e3q, e4q, e5q, e6q, e7q, -⟩ := hq
  obtain rfl := sI e0q
  obtain rfl := sI e1q
  obtain rfl := sI e2q
  obtain rfl := sI e3q
  obtain rfl := sI e4q
  obtain rfl := sI e5q
  obtain rfl := sI e6q
  obtain rfl := sI e7q
  conv => arg 2; whnf
  have q0 : (0 : Int) ≤ (j : Int) := by omega
  have q1 : (j : Int) < (mf : Int) := by omega
  have a0 := cellv hs.a 0 rfl
  have a1 := cellv hs.a 1 rfl
  have a2 := cellv hs.a 2 rfl
  have a3 := cellv hs.a 3 rfl
  have al := lt_heap hs.a
  by_cases h : y = nm
  · subst h
    have t1 : (y.toList == y.toList) = true := beq_self_eq_true _
    rw [show decide (y = y) = true from decide_eq_true rfl] at hN
    clear hs
    go_region
    all_goals go_wp2_with fail
    all_goals exact hN _ _ (id ⟨rfl, rfl, rfl, rfl, rfl, rfl, rfl, rfl, rfl, rfl, rfl, trivial⟩) (by go_grown)
  · have t1 : (y.toList == nm.toList) = false := beq_eq_false_iff_ne.2 (fun e => h (bytes_inj e))
    rw [show decide (y = nm) = false from decide_eq_false h] at hN
    clear hs h
    go_region
    all_goals go_wp2_with fail
    all_goals exact hN _ _ (id ⟨rfl, rfl, rfl, rfl, rfl, rfl, rfl, rfl, rfl, rfl, rfl, trivial⟩) (by go_grown)
noncomputable def c_sw_r18 : Code := sub [1, 1, 1, 0, 1, 0, 1, 0, 0, 1, 1, 0, 0, 1, 1, 0, 0] (Tryd.f31.body.getD .skip)
set_option maxRecDepth 1000000 in
set_option maxHeartbeats 16000000 in
theorem sw_r18_wp {Q : Exit → Act → World → Prop} {b o j : Nat} {y : ByteArray} {Df : Option Addr} {mf ef mt et : Nat} {PP : Nat → Prop} {vw vs : Value} {ws : List ByteArray} {x : ByteArray} {wo w : World} {kd : Int} {nm : ByteArray} {A B : Option Addr} {n1 c1 n2 c2 : Nat} (hj : j < mt) (hc : w.cell? ⟨b, o + j, none⟩ = some (.string y)) (hbl : b < w.heap.size) (hs : CY PP wo w vw ws x vs kd nm A n1 c1 B n2 c2) (hN : ∀ a' w', Frm 95 [(1, .slice Df mf ef), (2, .slice (some ⟨b, o, none⟩) mt et), (3, .pointer (some ⟨wo.heap.size, 0, none⟩)), (6, .pointer (some ⟨wo.heap.size + 1, 0, none⟩)), (7, .pointer (some ⟨wo.heap.size + 2, 0, none⟩))] a' → CY PP wo w' vw ws y vs kd nm A n1 c1 B n2 c2 → Q .normal a' w') : ∀ ac, Frm 95 [(1, .slice Df mf ef), (2, .slice (some ⟨b, o, none⟩) mt et), (3, .pointer (some ⟨wo.heap.size, 0, none⟩)), (6, .pointer (some ⟨wo.heap.size + 1, 0, none⟩)), (7, .pointer (some ⟨wo.heap.size + 2, 0, none⟩)), (57, .int .i64 (mf : Nat)), (58, .int .i64 (j : Nat)), (11, .int .i64 (j : Nat))] ac → Code.wp Tryd.prog c_sw_r18 Q ac w := by
  refine frm_open ?_
  refine frame_sw ?_
  intros
  rename_i hq
  obtain ⟨-, -, e0q, e1q, e2q, e3q, e4q, e5q, e6q, e7q, -⟩ := hq
  obtain rfl := sI e0q
  obtain rfl := sI e1q
  obtain rfl := sI e2q
  obtain rfl := sI e3q
  obtain rfl := sI e4q
  obtain rfl := sI e5q
  obtain rfl := sI e6q
  obtain rfl := sI e7q
  conv => arg 2; whnf
  have q0 : (0 : Int) ≤ (j : Int) := by omega
  have q1 : (j : Int) < (mt : Int) := by omega
  have d1 := cellv hs.c 1 rfl
  have df := free_heap hs.c 1
  have dl := lt_heap hs.c
  have hy := hs.name y
  have HY := Lib.hid hy
  have HS := Lib.hid hs
  clear hs
  clear hy
  have HN := Lib.hid hN
  clear hN
  go_wp2_with fail
  exact HN.out _ _ (id ⟨rfl, rfl, rfl, rfl, rfl, rfl, rfl, trivial⟩) HY.out
noncomputable def c_sw_r19 : Code := sub [1, 1, 1, 0, 1, 0, 1, 0, 0, 1, 1, 1] (Tryd.f31.body.getD .skip)
set_option maxRecDepth 1000000 in
set_option maxHeartbeats 16000000 in
theorem sw_r19_wp {Q : Exit → Act → World → Prop} {j : Nat} {wo w : World} {Df Dt : Option Addr} {mf ef mt et : Nat} (hj : j < mf) (hlim : mf ≤ maxLen) (hN : ∀ a', Frm 95 [(1, .slice Df mf ef), (2, .slice Dt mt et), (3, .pointer (some ⟨wo.heap.size, 0, none⟩)), (6, .pointer (some ⟨wo.heap.size + 1, 0, none⟩)), (7, .pointer (some ⟨wo.heap.size + 2, 0, none⟩)), (57, .int .i64 (mf : Nat)), (58, .int .i64 (j + 1 : Nat))] a' → Q .normal a' w) : ∀ ac, Frm 95 [(1, .slice Df mf ef), (2, .slice Dt mt et), (3, .pointer (some ⟨wo.heap.size, 0, none⟩)), (6, .pointer (some ⟨wo.heap.size + 1, 0, none⟩)), (7, .pointer (some ⟨wo.heap.size + 2, 0, none⟩)), (57, .int .i64 (mf : Nat)), (58, .int .i64 (j : Nat))] ac → Code.wp Tryd.prog c_sw_r19 Q ac w := by
  refine frm_open ?_
  refine frame_sw ?_
  intros
  rename_i hq
  obtain ⟨-, -, e0q, e1q, e2q, e3q, e4q, e5q, e6q, -⟩ := hq
  obtain rfl := sI e0q
  obtain rfl := sI e1q
  obtain rfl := sI e2q
  obtain rfl := sI e3q
  obtain rfl := sI e4q
  obtain rfl := sI e5q
  obtain rfl := sI e6q
  conv => arg 2; whnf
  have hi4 : (j : Int) ≤ 9223372036854775806 := by unfold maxLen at hlim; omega
  have HN := Lib.hid hN
  clear hN
  go_wp2_with fail
  exact HN.out _ (id ⟨rfl, rfl, rfl, rfl, rfl, rfl, rfl, rfl, rfl, trivial⟩)
noncomputable def c_sw_name : Code := sub [1, 1, 1, 0, 1, 0, 1, 0] (Tryd.f31.body.getD .skip)
set_option maxRecDepth 100000 in
set_option maxHeartbeats 4000000 in
theorem sw_name_wp {Q : Exit → Act → World → Prop} {SS : Nat → Prop} {fs ts : List ByteArray} {Df Dt : Option Addr} {mf ef mt et : Nat} {PP : Nat → Prop} {vw vs : Value} {ws : List ByteArray} {x : ByteArray} {wo w : World} {kd : Int} {nm : ByteArray} {A B : Option Addr} {n1 c1 n2 c2 : Nat} (hS : ∀ k, SS k → k < wo.heap.size ∧ ¬ PP k) (hf : strRep.Sl wo SS (.slice Df mf ef) fs) (ht : strRep.Sl wo SS (.slice Dt mt et) ts) (hlen : fs.length = ts.length) (hx0 : x = nm) (hs : CY PP wo w vw ws x vs kd nm A n1 c1 B n2 c2) 
    (hX : ∀ a' w', Frm 95 [(1, .slice Df mf ef), (2, .slice Dt mt et), (3, .pointer (some ⟨wo.heap.size, 0, none⟩)), (6, .pointer (some ⟨wo.heap.size + 1, 0, none⟩)), (7, .pointer (some ⟨wo.heap.size + 2, 0, none⟩))] a' → CY PP wo w' vw ws (subP fs ts nm) vs kd nm A n1 c1 B n2 c2 → Q (.exit 4) a' w') : ∀ ac, Frm 95 [(1, .slice Df mf ef), (2, .slice Dt mt et), (3, .pointer (some ⟨wo.heap.size, 0, none⟩)), (6, .pointer (some ⟨wo.heap.size + 1, 0, none⟩)), (7, .pointer (some ⟨wo.heap.size + 2, 0, none⟩)), (57, .int .i64 (mf : Nat)), (58, .int .i64 (0 : Nat))] ac → Code.wp Tryd.prog c_sw_name Q ac w := by
  subst hx0
  intro a0 hf0
  conv => arg 2; whnf
  obtain ⟨D', m', e', e9, hfl, hfm, _⟩ := id hf
  injection e9 with e1 e2 e3
  subst e1 e2 e3
  obtain ⟨D'', m'', e'', e9, htl, htm, _⟩ := id ht
  injection e9 with e1 e2 e3
  subst e1 e2 e3
  refine wp_loopR (fun g a' w' => ∃ j : Nat, j + g = fs.length ∧ (∀ i, i < j → fs[i]? ≠ some x) ∧ CY PP wo w' vw ws x vs kd x A n1 c1 B n2 c2 ∧ Frm 95 [(1, .slice Df mf ef), (2, .slice Dt mt et), (3, .pointer (some ⟨wo.heap.size, 0, none⟩)), (6, .pointer (some ⟨wo.heap.size + 1, 0, none⟩)), (7, .pointer (some ⟨wo.heap.size + 2, 0, none⟩)), (57, .int .i64 (mf : Nat)), (58, .int .i64 (j : Nat))] a') fs.length ⟨0, by omega, by omega, hs, hf0⟩ ?_
  rintro g a1 w1 ⟨j, hjg, hno, hs1, h1⟩
  refine wp_seq ?_
  refine sw_r15_wp (fun a2 h2 => ?_) a1 h1
  refine wp_seq ?_
  by_cases hj : j < mf
  case neg =>
    refine wp_cond_false ((h2.eval (k := 59) (v := .bool (decide (j < mf))) (by simp)).trans (by rw [decide_eq_false hj])) ?_
    refine wp_exit (hX a2 w1 ⟨h2.1, h2.2.1, h2.2.2.1, h2.2.2.2.1, h2.2.2.2.2.1, h2.2.2.2.2.2.1, h2.2.2.2.2.2.2.1, trivial⟩ ?_)
    rw [subP_none fs ts x (fun i hi => hno i (by omega))]
    exact hs1
  refine wp_cond_true ((h2.eval (k := 59) (v := .bool (decide (j < mf))) (by simp)).trans (by rw [decide_eq_true hj])) ?_
  refine wp_skip ?_
  show Code.wp _ _ _ a2 w1
  have hold := fun k hk => hs1.b.block k (hS k hk).1 (hS k hk).2
  have hbs := hs1.b.size
  have hjl : j < fs.length := by omega
  have hjt : j < ts.length := by omega
  obtain ⟨b, o, cs, rfl, hSb, ⟨rfl, _⟩, hc⟩ := Rep.Sl.at_ hf (List.getElem?_eq_getElem hjl)
  have hc0 : w1.cell? ⟨b, o + j, none⟩ = some (.string fs[j]) := (cell_keep (hold b hSb) _).trans (by simpa [strRep] using hc 0 _ rfl)
  obtain ⟨b2, o2, cs2, rfl, hSb2, ⟨rfl, _⟩, hc2⟩ := Rep.Sl.at_ ht (List.getElem?_eq_getElem hjt)
  have hc20 : w1.cell? ⟨b2, o2 + j, none⟩ = some (.string ts[j]) := (cell_keep (hold b2 hSb2) _).trans (by simpa [strRep] using hc2 0 _ rfl)
  refine wp_seq ?_
  refine wp_block ?_
  refine wp_seq ?_
  refine sw_r16_wp (fun a3 h3 => ?_) a2 ⟨h2.1, h2.2.1, h2.2.2.1, h2.2.2.2.1, h2.2.2.2.2.1, h2.2.2.2.2.2.1, h2.2.2.2.2.2.2.1, h2.2.2.2.2.2.2.2.1, h2.2.2.2.2.2.2.2.2.1, trivial⟩
  refine wp_seq ?_
  refine Code.wp_mono (Q := Exit.then (fun a' w' => Frm 95 [(1, .slice (some ⟨b, o, none⟩) mf ef), (2, .slice (some ⟨b2, o2, none⟩) mt et), (3, .pointer (some ⟨wo.heap.size, 0, none⟩)), (6, .pointer (some ⟨wo.heap.size + 1, 0, none⟩)), (7, .pointer (some ⟨wo.heap.size + 2, 0, none⟩)), (57, .int .i64 (mf : Nat)), (58, .int .i64 (j : Nat)), (11, .int .i64 (j : Nat)), (67, .bool (decide (fs[j] = x)))] a' ∧ Below w1.heap.size w1 w') (fun _ _ _ => False)) ?_ (sw_r17_wp hj hc0 (by have := (hS b hSb).1; omega) hs1 (fun a' w' h' hb' => ⟨h', hb'⟩) a3 h3)
  intro ex a4 w4 hx
  cases ex with
  | normal =>
    obtain ⟨h4, hb4⟩ := hx
    have hs4 := hs1.below hb4
    have hbs4 := hb4.size
    show Code.wp _ _ _ a4 w4
    by_cases hx : fs[j] = x
    · refine wp_cond_true ((h4.eval (k := 67) (v := .bool (decide (fs[j] = x))) (by simp)).trans (by rw [decide_eq_true hx])) ?_
      refine wp_seq ?_
      refine sw_r18_wp (by omega) ((cell_keep (hb4.block b2 (by have := (hS b2 hSb2).1; omega)) _).trans hc20) (by have := (hS b2 hSb2).1; omega) hs4 (fun a5 w5 h5 hs5 => ?_) a4 ⟨h4.1, h4.2.1, h4.2.2.1, h4.2.2.2.1, h4.2.2.2.2.1, h4.2.2.2.2.2.1, h4.2.2.2.2.2.2.1, h4.2.2.2.2.2.2.2.1, h4.2.2.2.2.2.2.2.2.1, h4.2.2.2.2.2.2.2.2.2.1, trivial⟩
      refine wp_exit ?_
      repeat refine then_exit ?_
      refine inBlock_far (by decide) ?_
      repeat refine then_exit ?_
      refine hX a5 w5 h5 ?_
      rw [subP_at fs ts x j hjl hjt hno hx]
      exact hs5
    · refine wp_cond_false ((h4.eval (k := 67) (v := .bool (decide (fs[j] = x))) (by simp)).trans (by rw [decide_eq_false hx])) ?_
      refine wp_skip ?_
      show Code.wp _ _ _ a4 w4
      refine sw_r19_wp hj (by omega) (fun a5 h5 => ?_) a4 ⟨h4.1, h4.2.1, h4.2.2.1, h4.2.2.2.1, h4.2.2.2.2.1, h4.2.2.2.2.2.1, h4.2.2.2.2.2.2.1, h4.2.2.2.2.2.2.2.1, h4.2.2.2.2.2.2.2.2.1, trivial⟩
      refine ⟨g - 1, by omega, j + 1, by omega, fun i hi => ?_, hs4, h5⟩
      by_cases hij : i < j
      · exact hno i hij
      · obtain rfl : i = j := by omega
        rw [List.getElem?_eq_getElem hjl]
        exact fun e => hx (Option.some.inj e)
  | _ => exact hx.elim

end Go.Proofs.YtdofemkfmkopcaaDoor
