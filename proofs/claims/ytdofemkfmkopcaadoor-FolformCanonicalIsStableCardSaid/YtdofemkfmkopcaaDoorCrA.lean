/-
  The reference's Has, by parts.
-/
import Derived.Test.YtdofemkfmkopcaaDoorCnB
import Derived.Test.YtdofemkfmkopcaaDoorAppS
import Derived.Test.YtdofemkfmkopcaaDoorParts
namespace Go.Proofs.YtdofemkfmkopcaaDoor
open Go Go.RowKit
set_option linter.unusedSimpArgs false
set_option linter.unusedVariables false

set_option maxRecDepth 1000000 in
theorem frame_hs {P : Act → Prop} (h : ∀ x0 x1 x2 x3 x4 x5 x6 x7 x8 x9 x10 x11 x12 x13 x14 x15 x16 : Value, P ⟨(x0 :: x1 :: x2 :: x3 :: x4 :: x5 :: x6 :: x7 :: x8 :: x9 :: x10 :: x11 :: x12 :: x13 :: x14 :: x15 :: x16 :: []).toArray, []⟩) : ∀ a : Act, a.tmps.toList.length = 17 → a.defers = [] → P a := by
  rintro ⟨⟨l⟩, d⟩ hs hd
  simp only at hd
  subst hd
  revert l
  show ∀ l : List Value, l.length = 17 → P ⟨⟨l⟩, []⟩
  refine openS (n := 16) (fun x0 => ?_)
  refine openS (n := 15) (fun x1 => ?_)
  refine openS (n := 14) (fun x2 => ?_)
  refine openS (n := 13) (fun x3 => ?_)
  refine openS (n := 12) (fun x4 => ?_)
  refine openS (n := 11) (fun x5 => ?_)
  refine openS (n := 10) (fun x6 => ?_)
  refine openS (n := 9) (fun x7 => ?_)
  refine openS (n := 8) (fun x8 => ?_)
  refine openS (n := 7) (fun x9 => ?_)
  refine openS (n := 6) (fun x10 => ?_)
  refine openS (n := 5) (fun x11 => ?_)
  refine openS (n := 4) (fun x12 => ?_)
  refine openS (n := 3) (fun x13 => ?_)
  refine openS (n := 2) (fun x14 => ?_)
  refine openS (n := 1) (fun x15 => ?_)
  refine openS (n := 0) (fun x16 => ?_)
  refine open0 ?_
  exact h x0 x1 x2 x3 x4 x5 x6 x7 x8 x9 x10 x11 x12 x13 x14 x15 x16
set_option maxRecDepth 1000000 in
theorem frame_pt {P : Act → Prop} (h : ∀ x0 x1 x2 x3 x4 x5 x6 x7 x8 x9 x10 x11 x12 x13 x14 x15 x16 x17 x18 x19 x20 x21 x22 x23 x24 x25 x26 x27 x28 x29 x30 x31 x32 x33 x34 x35 x36 x37 x38 : Value, P ⟨(x0 :: x1 :: x2 :: x3 :: x4 :: x5 :: x6 :: x7 :: x8 :: x9 :: x10 :: x11 :: x12 :: x13 :: x14 :: x15 :: x16 :: x17 :: x18 :: x19 :: x20 :: x21 :: x22 :: x23 :: x24 :: x25 :: x26 :: x27 :: x28 :: x29 :: x30 :: x31 :: x32 :: x33 :: x34 :: x35 :: x36 :: x37 :: x38 :: []).toArray, []⟩) : ∀ a : Act, a.tmps.toList.length = 39 → a.defers = [] → P a := by
  rintro ⟨⟨l⟩, d⟩ hs hd
  simp only at hd
  subst hd
  revert l
  show ∀ l : List Value, l.length = 39 → P ⟨⟨l⟩, []⟩
  refine openS (n := 38) (fun x0 => ?_)
  refine openS (n := 37) (fun x1 => ?_)
  refine openS (n := 36) (fun x2 => ?_)
  refine openS (n := 35) (fun x3 => ?_)
  refine openS (n := 34) (fun x4 => ?_)
  refine openS (n := 33) (fun x5 => ?_)
  refine openS (n := 32) (fun x6 => ?_)
  refine openS (n := 31) (fun x7 => ?_)
  refine openS (n := 30) (fun x8 => ?_)
  refine openS (n := 29) (fun x9 => ?_)
  refine openS (n := 28) (fun x10 => ?_)
  refine openS (n := 27) (fun x11 => ?_)
  refine openS (n := 26) (fun x12 => ?_)
  refine openS (n := 25) (fun x13 => ?_)
  refine openS (n := 24) (fun x14 => ?_)
  refine openS (n := 23) (fun x15 => ?_)
  refine openS (n := 22) (fun x16 => ?_)
  refine openS (n := 21) (fun x17 => ?_)
  refine openS (n := 20) (fun x18 => ?_)
  refine openS (n := 19) (fun x19 => ?_)
  refine openS (n := 18) (fun x20 => ?_)
  refine openS (n := 17) (fun x21 => ?_)
  refine openS (n := 16) (fun x22 => ?_)
  refine openS (n := 15) (fun x23 => ?_)
  refine openS (n := 14) (fun x24 => ?_)
  refine openS (n := 13) (fun x25 => ?_)
  refine openS (n := 12) (fun x26 => ?_)
  refine openS (n := 11) (fun x27 => ?_)
  refine openS (n := 10) (fun x28 => ?_)
  refine openS (n := 9) (fun x29 => ?_)
  refine openS (n := 8) (fun x30 => ?_)
  refine openS (n := 7) (fun x31 => ?_)
  refine openS (n := 6) (fun x32 => ?_)
  refine openS (n := 5) (fun x33 => ?_)
  refine openS (n := 4) (fun x34 => ?_)
  refine openS (n := 3) (fun x35 => ?_)
  refine openS (n := 2) (fun x36 => ?_)
  refine openS (n := 1) (fun x37 => ?_)
  refine openS (n := 0) (fun x38 => ?_)
  refine open0 ?_
  exact h x0 x1 x2 x3 x4 x5 x6 x7 x8 x9 x10 x11 x12 x13 x14 x15 x16 x17 x18 x19 x20 x21 x22 x23 x24 x25 x26 x27 x28 x29 x30 x31 x32 x33 x34 x35 x36 x37 x38
noncomputable def c_hs_r0 : Code := sub [0] (Tryd.f29.body.getD .skip)
set_option maxRecDepth 1000000 in
set_option maxHeartbeats 16000000 in
theorem hs_r0_wp {Q : Exit → Act → World → Prop} {D : Option Addr} {m e : Nat} {x : ByteArray} {w : World} (hN : ∀ a', Frm 17 [(0, .slice D m e), (1, .string x)] a' → Q .normal a' w) : ∀ ac, Frm 17 [(0, .slice D m e), (1, .string x)] ac → Code.wp Tryd.prog c_hs_r0 Q ac w := by
  refine frm_open ?_
  refine frame_hs ?_
  intros
  rename_i hq
  obtain ⟨-, -, e0q, e1q, -⟩ := hq
  obtain rfl := sI e0q
  obtain rfl := sI e1q
  conv => arg 2; whnf
  have HN := Lib.hid hN
  clear hN
  go_wp2_with fail
  exact HN.out _ (id ⟨rfl, rfl, rfl, rfl, trivial⟩)
noncomputable def c_hs_r1 : Code := sub [1, 0, 0] (Tryd.f29.body.getD .skip)
set_option maxRecDepth 1000000 in
set_option maxHeartbeats 16000000 in
theorem hs_r1_wp {Q : Exit → Act → World → Prop} {D : Option Addr} {m e : Nat} {x : ByteArray} {w : World} (hN : ∀ a', Frm 17 [(0, .slice D m e), (1, .string x), (7, .slice D m e), (8, .int .i64 (m : Nat)), (9, .int .i64 (0 : Nat))] a' → Q .normal a' w) : ∀ ac, Frm 17 [(0, .slice D m e), (1, .string x)] ac → Code.wp Tryd.prog c_hs_r1 Q ac w := by
  refine frm_open ?_
  refine frame_hs ?_
  intros
  rename_i hq
  obtain ⟨-, -, e0q, e1q, -⟩ := hq
  obtain rfl := sI e0q
  obtain rfl := sI e1q
  conv => arg 2; whnf
  have HN := Lib.hid hN
  clear hN
  go_wp2_with fail
  exact HN.out _ (id ⟨rfl, rfl, rfl, rfl, rfl, rfl, rfl, trivial⟩)
noncomputable def c_hs_r2 : Code := sub [1, 0, 1, 0, 0, 0] (Tryd.f29.body.getD .skip)
set_option maxRecDepth 1000000 in
set_option maxHeartbeats 16000000 in
theorem hs_r2_wp {Q : Exit → Act → World → Prop} {i : Nat} {D : Option Addr} {m e : Nat} {x : ByteArray} {w : World} (hN : ∀ a', Frm 17 [(0, .slice D m e), (1, .string x), (7, .slice D m e), (8, .int .i64 (m : Nat)), (9, .int .i64 (i : Nat)), (10, .bool (decide (i < m)))] a' → Q .normal a' w) : ∀ ac, Frm 17 [(0, .slice D m e), (1, .string x), (7, .slice D m e), (8, .int .i64 (m : Nat)), (9, .int .i64 (i : Nat))] ac → Code.wp Tryd.prog c_hs_r2 Q ac w := by
  refine frm_open ?_
  refine frame_hs ?_
  intros
  rename_i hq
  obtain ⟨-, -, e0q, e1q, e2q, e3q, e4q, -⟩ := hq
  obtain rfl := sI e0q
  obtain rfl := sI e1q
  obtain rfl := sI e2q
  obtain rfl := sI e3q
  obtain rfl := sI e4q
  conv => arg 2; whnf
  by_cases h : i < m
  · have t1 : decide ((i : Int) < (m : Int)) = true := by first | exact decide_eq_true (by omega) | exact beq_iff_eq.2 (by omega) | exact bne_iff_ne.2 (by omega)
    have t2 : (decide (i < m)) = true := decide_eq_true h
    rw [t2] at hN
    clear h
    have HN := Lib.hid hN
    clear hN
    go_wp2_with fail
    exact HN.out _ (id ⟨rfl, rfl, rfl, rfl, rfl, rfl, rfl, rfl, trivial⟩)
  · have t1 : decide ((i : Int) < (m : Int)) = false := by first | exact decide_eq_false (by omega) | exact beq_eq_false_iff_ne.2 (by omega) | exact bne_eq_false_iff_eq.2 (by omega)
    have t2 : (decide (i < m)) = false := decide_eq_false h
    rw [t2] at hN
    clear h
    have HN := Lib.hid hN
    clear hN
    go_wp2_with fail
    exact HN.out _ (id ⟨rfl, rfl, rfl, rfl, rfl, rfl, rfl, rfl, trivial⟩)
noncomputable def c_hs_r3 : Code := sub [1, 0, 1, 0, 0, 1, 1, 0, 0, 0] (Tryd.f29.body.getD .skip)
set_option maxRecDepth 1000000 in
set_option maxHeartbeats 16000000 in
theorem hs_r3_wp {Q : Exit → Act → World → Prop} {b o : Nat} {y : ByteArray} {i : Nat} {m e : Nat} {x : ByteArray} {w : World} (hi : i < m) (hc : w.cell? ⟨b, o + i, none⟩ = some (.string y)) (hbl : b < w.heap.size) (hN : ∀ a', Frm 17 [(0, .slice (some ⟨b, o, none⟩) m e), (1, .string x), (7, .slice (some ⟨b, o, none⟩) m e), (8, .int .i64 (m : Nat)), (9, .int .i64 (i : Nat)), (6, .string y)] a' → Q .normal a' w) : ∀ ac, Frm 17 [(0, .slice (some ⟨b, o, none⟩) m e), (1, .string x), (7, .slice (some ⟨b, o, none⟩) m e), (8, .int .i64 (m : Nat)), (9, .int .i64 (i : Nat))] ac → Code.wp Tryd.prog c_hs_r3 Q ac w := by
  refine frm_open ?_
  refine frame_hs ?_
  intros
  rename_i hq
  obtain ⟨-, -, e0q, e1q, e2q, e3q, e4q, -⟩ := hq
  obtain rfl := sI e0q
  obtain rfl := sI e1q
  obtain rfl := sI e2q
  obtain rfl := sI e3q
  obtain rfl := sI e4q
  conv => arg 2; whnf
  have q0 : (0 : Int) ≤ (i : Int) := by omega
  have q1 : (i : Int) < (m : Int) := by omega
  have HN := Lib.hid hN
  clear hN
  go_wp2_with fail
  exact HN.out _ (id ⟨rfl, rfl, rfl, rfl, rfl, rfl, rfl, rfl, trivial⟩)
noncomputable def c_hs_r4 : Code := sub [1, 0, 1, 0, 0, 1, 1, 0, 0, 1, 0] (Tryd.f29.body.getD .skip)
set_option maxRecDepth 1000000 in
set_option maxHeartbeats 16000000 in
theorem hs_r4_wp {Q : Exit → Act → World → Prop} {y : ByteArray} {i : Nat} {D : Option Addr} {m e : Nat} {x : ByteArray} {w : World} (hN : ∀ a', Frm 17 [(0, .slice D m e), (1, .string x), (7, .slice D m e), (8, .int .i64 (m : Nat)), (9, .int .i64 (i : Nat)), (6, .string y), (15, .bool (decide (y = x)))] a' → Q .normal a' w) : ∀ ac, Frm 17 [(0, .slice D m e), (1, .string x), (7, .slice D m e), (8, .int .i64 (m : Nat)), (9, .int .i64 (i : Nat)), (6, .string y)] ac → Code.wp Tryd.prog c_hs_r4 Q ac w := by
  refine frm_open ?_
  refine frame_hs ?_
  intros
  rename_i hq
  obtain ⟨-, -, e0q, e1q, e2q, e3q, e4q, e5q, -⟩ := hq
  obtain rfl := sI e0q
  obtain rfl := sI e1q
  obtain rfl := sI e2q
  obtain rfl := sI e3q
  obtain rfl := sI e4q
  obtain rfl := sI e5q
  conv => arg 2; whnf
  by_cases h : y = x
  · subst h
    have t1 : (y.toList == y.toList) = true := beq_self_eq_true _
    rw [show decide (y = y) = true from decide_eq_true rfl] at hN
    have HN := Lib.hid hN
    clear hN
    go_wp2_with fail
    exact HN.out _ (id ⟨rfl, rfl, rfl, rfl, rfl, rfl, rfl, rfl, rfl, trivial⟩)
  · have t1 : (y.toList == x.toList) = false := beq_eq_false_iff_ne.2 (fun e => h (bytes_inj e))
    rw [show decide (y = x) = false from decide_eq_false h] at hN
    have HN := Lib.hid hN
    clear hN
    go_wp2_with fail
    exact HN.out _ (id ⟨rfl, rfl, rfl, rfl, rfl, rfl, rfl, rfl, rfl, trivial⟩)
noncomputable def c_hs_r5 : Code := sub [1, 0, 1, 0, 0, 1, 1, 0, 0, 1, 1, 0, 0] (Tryd.f29.body.getD .skip)
set_option maxRecDepth 1000000 in
set_option maxHeartbeats 16000000 in
theorem hs_r5_wp {Q : Exit → Act → World → Prop} {y : ByteArray} {i : Nat} {D : Option Addr} {m e : Nat} {x : ByteArray} {w : World} (hN : ∀ a', Frm 17 [(4, .bool true)] a' → Q .normal a' w) : ∀ ac, Frm 17 [(0, .slice D m e), (1, .string x), (7, .slice D m e), (8, .int .i64 (m : Nat)), (9, .int .i64 (i : Nat)), (6, .string y)] ac → Code.wp Tryd.prog c_hs_r5 Q ac w := by
  refine frm_open ?_
  refine frame_hs ?_
  intros
  rename_i hq
  obtain ⟨-, -, e0q, e1q, e2q, e3q, e4q, e5q, -⟩ := hq
  obtain rfl := sI e0q
  obtain rfl := sI e1q
  obtain rfl := sI e2q
  obtain rfl := sI e3q
  obtain rfl := sI e4q
  obtain rfl := sI e5q
  conv => arg 2; whnf
  have HN := Lib.hid hN
  clear hN
  go_wp2_with fail
  exact HN.out _ (id ⟨rfl, rfl, rfl, trivial⟩)
noncomputable def c_hs_r6 : Code := sub [1, 0, 1, 0, 0, 1, 1, 1] (Tryd.f29.body.getD .skip)
set_option maxRecDepth 1000000 in
set_option maxHeartbeats 16000000 in
theorem hs_r6_wp {Q : Exit → Act → World → Prop} {i : Nat} {D : Option Addr} {m e : Nat} {x : ByteArray} {w : World} (hi : i < m) (hlim : m ≤ maxLen) (hN : ∀ a', Frm 17 [(0, .slice D m e), (1, .string x), (7, .slice D m e), (8, .int .i64 (m : Nat)), (9, .int .i64 (i + 1 : Nat))] a' → Q .normal a' w) : ∀ ac, Frm 17 [(0, .slice D m e), (1, .string x), (7, .slice D m e), (8, .int .i64 (m : Nat)), (9, .int .i64 (i : Nat))] ac → Code.wp Tryd.prog c_hs_r6 Q ac w := by
  refine frm_open ?_
  refine frame_hs ?_
  intros
  rename_i hq
  obtain ⟨-, -, e0q, e1q, e2q, e3q, e4q, -⟩ := hq
  obtain rfl := sI e0q
  obtain rfl := sI e1q
  obtain rfl := sI e2q
  obtain rfl := sI e3q
  obtain rfl := sI e4q
  conv => arg 2; whnf
  have hi4 : (i : Int) ≤ 9223372036854775806 := by unfold maxLen at hlim; omega
  have HN := Lib.hid hN
  clear hN
  go_wp2_with fail
  exact HN.out _ (id ⟨rfl, rfl, rfl, rfl, rfl, rfl, rfl, trivial⟩)
noncomputable def c_hs_r7 : Code := sub [1, 1, 0] (Tryd.f29.body.getD .skip)
set_option maxRecDepth 1000000 in
set_option maxHeartbeats 16000000 in
theorem hs_r7_wp {Q : Exit → Act → World → Prop} {D : Option Addr} {m e : Nat} {x : ByteArray} {w : World} (hN : ∀ a', Frm 17 [(4, .bool false)] a' → Q .normal a' w) : ∀ ac, Frm 17 [(0, .slice D m e), (1, .string x)] ac → Code.wp Tryd.prog c_hs_r7 Q ac w := by
  refine frm_open ?_
  refine frame_hs ?_
  intros
  rename_i hq
  obtain ⟨-, -, e0q, e1q, -⟩ := hq
  obtain rfl := sI e0q
  obtain rfl := sI e1q
  conv => arg 2; whnf
  have HN := Lib.hid hN
  clear hN
  go_wp2_with fail
  exact HN.out _ (id ⟨rfl, rfl, rfl, trivial⟩)
set_option maxRecDepth 1000000 in
theorem hs_ret_wp {R : Ending → World → Prop} {w' : World} {bb : Bool} (hR : R (.returned (.bool bb)) w') : ∀ ac, Frm 17 [(4, .bool bb)] ac → bodyPost Tryd.prog Tryd.f29 R .ret ac w' := by
  refine frm_open ?_
  refine frame_hs ?_
  intros
  rename_i hq
  obtain ⟨-, -, e0q, -⟩ := hq
  obtain rfl := sI e0q
  refine bodyPost_ret (v := .bool bb) (by simp [results, Tryd.results29, go_sem]) rfl ?_
  exact hR
theorem then_ret {K : Act → World → Prop} {Q : Exit → Act → World → Prop} {a : Act} {w : World} (h : Q .ret a w) : Exit.then K Q .ret a w := h
theorem inBlock_ret {k : Nat} {Q : Exit → Act → World → Prop} {a : Act} {w : World} (h : Q .ret a w) : Exit.inBlock k Q .ret a w := h
set_option maxRecDepth 100000 in
set_option maxHeartbeats 4000000 in
/-- The reference's Has. -/
theorem refHas_any {w : World} {S : Nat → Prop} {D : Option Addr} {m e : Nat} {bd : List ByteArray} (h : strRep.Sl w S (.slice D m e) bd) (hS : ∀ k, S k → k < w.heap.size) (x : ByteArray) : Calls Tryd.prog 29 #[.slice D m e, .string x] w fun e w' => e = .returned (.bool (hasB bd x)) ∧ w' = w := by
  obtain ⟨D', m', c', e9, hlen, hmax, _⟩ := id h
  injection e9 with e1 e2 e3
  subst e1 e2 e3
  go_enter Tryd.func29, Tryd.ntmps29
  refine wp_seq ?_
  refine hs_r0_wp (fun a0 h0 => ?_) _ (id ⟨rfl, rfl, rfl, rfl, trivial⟩)
  refine wp_seq ?_
  refine wp_seq ?_
  refine hs_r1_wp (fun a1 h1 => ?_) a0 h0
  refine wp_block ?_
  refine wp_loopR (fun g a' w' => ∃ j : Nat, j + g = bd.length ∧ hasB (bd.take j) x = false ∧ w' = w ∧ Frm 17 [(0, .slice D m e), (1, .string x), (7, .slice D m e), (8, .int .i64 (m : Nat)), (9, .int .i64 (j : Nat))] a') bd.length ⟨0, by omega, rfl, rfl, h1⟩ ?_
  rintro g a2 w2 ⟨j, hjg, hno, rfl, h2⟩
  refine wp_seq ?_
  refine hs_r2_wp (fun a3 h3 => ?_) a2 h2
  refine wp_seq ?_
  by_cases hj : j < m
  case neg =>
    refine wp_cond_false ((h3.eval (k := 10) (v := .bool (decide (j < m))) (by simp)).trans (by rw [decide_eq_false hj])) ?_
    refine wp_exit ?_
    repeat refine then_exit ?_
    refine inBlock_exit ?_
    show Code.wp _ _ _ a3 w2
    refine wp_seq ?_
    refine hs_r7_wp (fun a4 h4 => ?_) a3 ⟨h3.1, h3.2.1, h3.2.2.1, h3.2.2.2.1, trivial⟩
    refine wp_ret ?_
    refine hs_ret_wp (bb := false) ?_ a4 h4
    rw [List.take_of_length_le (by omega)] at hno
    exact ⟨by rw [hno], rfl⟩
  refine wp_cond_true ((h3.eval (k := 10) (v := .bool (decide (j < m))) (by simp)).trans (by rw [decide_eq_true hj])) ?_
  refine wp_skip ?_
  show Code.wp _ _ _ a3 w2
  have hjl : j < bd.length := by omega
  obtain ⟨b, o, cs, rfl, hSb, ⟨rfl, hsz⟩, hc⟩ := Rep.Sl.at_ h (List.getElem?_eq_getElem hjl)
  have hc0 : w2.cell? ⟨b, o + j, none⟩ = some (.string bd[j]) := by simpa [strRep] using hc 0 _ rfl
  have htk : hasB (bd.take (j + 1)) x = decide (bd[j] = x) := by
    unfold hasB at hno ⊢
    rw [List.take_succ_eq_append_getElem hjl, List.any_append, hno]
    simp
  refine wp_seq ?_
  refine wp_block ?_
  refine wp_seq ?_
  refine hs_r3_wp hj hc0 (hS b hSb) (fun a4 h4 => ?_) a3 ⟨h3.1, h3.2.1, h3.2.2.1, h3.2.2.2.1, h3.2.2.2.2.1, h3.2.2.2.2.2.1, h3.2.2.2.2.2.2.1, trivial⟩
  refine wp_seq ?_
  refine hs_r4_wp (fun a5 h5 => ?_) a4 h4
  by_cases hx : bd[j] = x
  · refine wp_cond_true ((h5.eval (k := 15) (v := .bool (decide (bd[j] = x))) (by simp)).trans (by rw [decide_eq_true hx])) ?_
    refine wp_seq ?_
    refine hs_r5_wp (fun a6 h6 => ?_) a5 ⟨h5.1, h5.2.1, h5.2.2.1, h5.2.2.2.1, h5.2.2.2.2.1, h5.2.2.2.2.2.1, h5.2.2.2.2.2.2.1, h5.2.2.2.2.2.2.2.1, trivial⟩
    refine wp_ret ?_
    repeat (first | refine then_ret ?_ | refine inBlock_ret ?_)
    refine hs_ret_wp (bb := true) ?_ a6 h6
    have hm : hasB bd x = true := hasB_iff.2 (by rw [← hx]; exact List.getElem_mem hjl)
    exact ⟨by rw [hm], rfl⟩
  · refine wp_cond_false ((h5.eval (k := 15) (v := .bool (decide (bd[j] = x))) (by simp)).trans (by rw [decide_eq_false hx])) ?_
    refine wp_skip ?_
    show Code.wp _ _ _ a5 w2
    refine hs_r6_wp hj (by omega) (fun a6 h6 => ?_) a5 ⟨h5.1, h5.2.1, h5.2.2.1, h5.2.2.2.1, h5.2.2.2.2.1, h5.2.2.2.2.2.1, h5.2.2.2.2.2.2.1, trivial⟩
    exact ⟨g - 1, by omega, j + 1, by omega, by rw [htk]; exact decide_eq_false hx, rfl, h6⟩
noncomputable def c_pt_r0 : Code := sub [0] (Tryd.f66.body.getD .skip)
set_option maxRecDepth 1000000 in
set_option maxHeartbeats 16000000 in
theorem pt_r0_wp {Q : Exit → Act → World → Prop} {v : Value} {x : ByteArray} {w : World} (hN : ∀ a', Frm 39 [(0, v), (1, .string x)] a' → Q .normal a' w) : ∀ ac, Frm 39 [(0, v), (1, .string x)] ac → Code.wp Tryd.prog c_pt_r0 Q ac w := by
  refine frm_open ?_
  refine frame_pt ?_
  intros
  rename_i hq
  obtain ⟨-, -, e0q, e1q, -⟩ := hq
  obtain rfl := sI e0q
  obtain rfl := sI e1q
  conv => arg 2; whnf
  have HN := Lib.hid hN
  clear hN
  go_wp2_with fail
  exact HN.out _ (id ⟨rfl, rfl, rfl, rfl, trivial⟩)
noncomputable def c_pt_r1 : Code := sub [1, 0, 0] (Tryd.f66.body.getD .skip)
set_option maxRecDepth 1000000 in
set_option maxHeartbeats 16000000 in
theorem pt_r1_wp {Q : Exit → Act → World → Prop} {bb : Bool} {v : Value} {x : ByteArray} {w : World} (hc : Calls Tryd.prog 29 #[v, .string x] w fun e w' => e = .returned (.bool bb) ∧ w' = w) (hN : ∀ a', Frm 39 [(0, v), (1, .string x), (9, .bool bb)] a' → Q .normal a' w) : ∀ ac, Frm 39 [(0, v), (1, .string x)] ac → Code.wp Tryd.prog c_pt_r1 Q ac w := by
  refine frm_open ?_
  refine frame_pt ?_
  intros
  rename_i hq
  obtain ⟨-, -, e0q, e1q, -⟩ := hq
  obtain rfl := sI e0q
  obtain rfl := sI e1q
  conv => arg 2; whnf
  have HN := Lib.hid hN
  have HC := Lib.hid hc
  clear hN hc
  go_wp2_with fail
  (with_reducible refine HC.out.mono ?_)
  rintro e w1 ⟨rfl, rfl⟩
  go_wp2_with fail
  exact HN.out _ (id ⟨rfl, rfl, rfl, rfl, rfl, trivial⟩)
noncomputable def c_pt_r2 : Code := sub [1, 0, 1, 0, 0] (Tryd.f66.body.getD .skip)
set_option maxRecDepth 1000000 in
set_option maxHeartbeats 16000000 in
theorem pt_r2_wp {Q : Exit → Act → World → Prop} {v : Value} {x : ByteArray} {w : World} (hN : ∀ a', Frm 39 [(4, v)] a' → Q .normal a' w) : ∀ ac, Frm 39 [(0, v), (1, .string x)] ac → Code.wp Tryd.prog c_pt_r2 Q ac w := by
  refine frm_open ?_
  refine frame_pt ?_
  intros
  rename_i hq
  obtain ⟨-, -, e0q, e1q, -⟩ := hq
  obtain rfl := sI e0q
  obtain rfl := sI e1q
  conv => arg 2; whnf
  have HN := Lib.hid hN
  clear hN
  go_wp2_with fail
  exact HN.out _ (id ⟨rfl, rfl, rfl, trivial⟩)
noncomputable def c_pt_r3 : Code := sub [1, 1, 0] (Tryd.f66.body.getD .skip)
set_option maxRecDepth 1000000 in
set_option maxHeartbeats 16000000 in
theorem pt_r3_wp {Q : Exit → Act → World → Prop} {v : Value} {x : ByteArray} {w : World} (hN : ∀ a', Frm 39 [(0, v), (1, .string x), (5, .slice none 0 0)] a' → Q .normal a' w) : ∀ ac, Frm 39 [(0, v), (1, .string x)] ac → Code.wp Tryd.prog c_pt_r3 Q ac w := by
  refine frm_open ?_
  refine frame_pt ?_
  intros
  rename_i hq
  obtain ⟨-, -, e0q, e1q, -⟩ := hq
  obtain rfl := sI e0q
  obtain rfl := sI e1q
  conv => arg 2; whnf
  have HN := Lib.hid hN
  clear hN
  go_wp2_with fail
  exact HN.out _ (id ⟨rfl, rfl, rfl, rfl, rfl, trivial⟩)
noncomputable def c_pt_r4 : Code := sub [1, 1, 1, 0] (Tryd.f66.body.getD .skip)
set_option maxRecDepth 1000000 in
set_option maxHeartbeats 16000000 in
theorem pt_r4_wp {Q : Exit → Act → World → Prop} {v : Value} {x : ByteArray} {w : World} (hN : ∀ a', Frm 39 [(0, v), (1, .string x), (5, .slice none 0 0), (6, .int .i64 (0 : Nat))] a' → Q .normal a' w) : ∀ ac, Frm 39 [(0, v), (1, .string x), (5, .slice none 0 0)] ac → Code.wp Tryd.prog c_pt_r4 Q ac w := by
  refine frm_open ?_
  refine frame_pt ?_
  intros
  rename_i hq
  obtain ⟨-, -, e0q, e1q, e2q, -⟩ := hq
  obtain rfl := sI e0q
  obtain rfl := sI e1q
  obtain rfl := sI e2q
  conv => arg 2; whnf
  have HN := Lib.hid hN
  clear hN
  go_wp2_with fail
  exact HN.out _ (id ⟨rfl, rfl, rfl, rfl, rfl, rfl, trivial⟩)
noncomputable def c_pt_r5n : Code := sub [1, 1, 1, 1, 0, 0, 0, 0, 0] (Tryd.f66.body.getD .skip)
set_option maxRecDepth 1000000 in
set_option maxHeartbeats 16000000 in
theorem pt_r5n_wp {Q : Exit → Act → World → Prop} {x : ByteArray} {w : World} (hN : ∀ a', Frm 39 [(0, Value.slice none 0 0), (1, .string x), (5, .slice none 0 0), (6, .int .i64 (0 : Nat)), (22, .bool false)] a' → Q .normal a' w) : ∀ ac, Frm 39 [(0, Value.slice none 0 0), (1, .string x), (5, .slice none 0 0), (6, .int .i64 (0 : Nat))] ac → Code.wp Tryd.prog c_pt_r5n Q ac w := by
  refine frm_open ?_
  refine frame_pt ?_
  intros
  rename_i hq
  obtain ⟨-, -, e0q, e1q, e2q, e3q, -⟩ := hq
  obtain rfl := sI e0q
  obtain rfl := sI e1q
  obtain rfl := sI e2q
  obtain rfl := sI e3q
  conv => arg 2; whnf
  have HN := Lib.hid hN
  clear hN
  go_wp2_with fail
  exact HN.out _ (id ⟨rfl, rfl, rfl, rfl, rfl, rfl, rfl, trivial⟩)
noncomputable def c_pt_r5x : Code := sub [1, 1, 1, 1, 0, 0, 0, 0, 0] (Tryd.f66.body.getD .skip)
set_option maxRecDepth 1000000 in
set_option maxHeartbeats 16000000 in
theorem pt_r5x_wp {Q : Exit → Act → World → Prop} {g n c : Nat} {x : ByteArray} {w : World} (hN : ∀ a', Frm 39 [(0, .slice (some ⟨g, 0, none⟩) n c), (1, .string x), (5, .slice none 0 0), (6, .int .i64 (n : Nat)), (22, .bool false)] a' → Q .normal a' w) : ∀ ac, Frm 39 [(0, .slice (some ⟨g, 0, none⟩) n c), (1, .string x), (5, .slice none 0 0), (6, .int .i64 (n : Nat))] ac → Code.wp Tryd.prog c_pt_r5x Q ac w := by
  refine frm_open ?_
  refine frame_pt ?_
  intros
  rename_i hq
  obtain ⟨-, -, e0q, e1q, e2q, e3q, -⟩ := hq
  obtain rfl := sI e0q
  obtain rfl := sI e1q
  obtain rfl := sI e2q
  obtain rfl := sI e3q
  conv => arg 2; whnf
  have t1 : decide ((n : Int) < (n : Int)) = false := decide_eq_false (by omega)
  have t2 : decide (n < n) = false := decide_eq_false (by omega)
  have HN := Lib.hid hN
  clear hN
  go_wp2_with fail
  exact HN.out _ (id ⟨rfl, rfl, rfl, rfl, rfl, rfl, rfl, trivial⟩)
noncomputable def c_pt_r5 : Code := sub [1, 1, 1, 1, 0, 0, 0, 0, 0] (Tryd.f66.body.getD .skip)
set_option maxRecDepth 1000000 in
set_option maxHeartbeats 16000000 in
theorem pt_r5_wp {Q : Exit → Act → World → Prop} {y : ByteArray} {g n c i : Nat} {x : ByteArray} {w : World} (hi : i < n) (hc : w.cell? ⟨g, i, none⟩ = some (.string y)) (hbl : g < w.heap.size) (hN : ∀ a', Frm 39 [(0, .slice (some ⟨g, 0, none⟩) n c), (1, .string x), (5, .slice none 0 0), (6, .int .i64 (i : Nat)), (22, .bool (lessB y x))] a' → Q .normal a' w) : ∀ ac, Frm 39 [(0, .slice (some ⟨g, 0, none⟩) n c), (1, .string x), (5, .slice none 0 0), (6, .int .i64 (i : Nat))] ac → Code.wp Tryd.prog c_pt_r5 Q ac w := by
  refine frm_open ?_
  refine frame_pt ?_
  intros
  rename_i hq
  obtain ⟨-, -, e0q, e1q, e2q, e3q, -⟩ := hq
  obtain rfl := sI e0q
  obtain rfl := sI e1q
  obtain rfl := sI e2q
  obtain rfl := sI e3q
  conv => arg 2; whnf
  have q0 : (0 : Int) ≤ (i : Int) := by omega
  have q1 : (i : Int) < (n : Int) := by omega
  have t1 : decide ((i : Int) < (n : Int)) = true := decide_eq_true (by omega)
  have t2 : decide (i < n) = true := decide_eq_true (by omega)
  have HN := Lib.hid hN
  clear hN
  go_wp2_with fail
  exact HN.out _ (id ⟨rfl, rfl, rfl, rfl, rfl, rfl, rfl, trivial⟩)
noncomputable def c_pt_r6 : Code := sub [1, 1, 1, 1, 0, 0, 0, 1, 0] (Tryd.f66.body.getD .skip)
set_option maxRecDepth 1000000 in
set_option maxHeartbeats 16000000 in
theorem pt_r6_wp {Q : Exit → Act → World → Prop} {i : Nat} {v : Value} {x : ByteArray} {w : World} (hi : i ≤ 1000000) (hN : ∀ a', Frm 39 [(0, v), (1, .string x), (5, .slice none 0 0), (6, .int .i64 (i + 1 : Nat))] a' → Q .normal a' w) : ∀ ac, Frm 39 [(0, v), (1, .string x), (5, .slice none 0 0), (6, .int .i64 (i : Nat))] ac → Code.wp Tryd.prog c_pt_r6 Q ac w := by
  refine frm_open ?_
  refine frame_pt ?_
  intros
  rename_i hq
  obtain ⟨-, -, e0q, e1q, e2q, e3q, -⟩ := hq
  obtain rfl := sI e0q
  obtain rfl := sI e1q
  obtain rfl := sI e2q
  obtain rfl := sI e3q
  conv => arg 2; whnf
  have hi4 : (i : Int) ≤ 9223372036854775806 := by omega
  have HN := Lib.hid hN
  clear hN
  go_wp2_with fail
  exact HN.out _ (id ⟨rfl, rfl, rfl, rfl, rfl, rfl, trivial⟩)
noncomputable def c_pt_r7 : Code := sub [1, 1, 1, 1, 1, 0] (Tryd.f66.body.getD .skip)
set_option maxRecDepth 1000000 in
set_option maxHeartbeats 16000000 in
theorem pt_r7_wp {Q : Exit → Act → World → Prop} {g n c i B : Nat} {x : ByteArray} {l : List ByteArray} {w : World} (hB : B ≤ w.heap.size) (hcell : ∀ j u, (l.map Value.string)[j]? = some u → w.cell? ⟨g, j, none⟩ = some u) (hll : l.length = n) (hnc : n ≤ c) (hn5 : n ≤ 1000000) (hbl : g < w.heap.size) (hi : i ≤ n) (hN : ∀ A9 c9 a' w', Frm 39 [(0, .slice (some ⟨g, 0, none⟩) n c), (1, .string x), (5, .slice A9 i c9), (6, .int .i64 (i : Nat))] a' → w'.ownsRow B 9 1 (.slice A9 (i) c9) (i) ((l.take i).map .string) → w.grownBy w' (Value.slice none 0 0).ownBlock → ((Value.slice A9 (i) c9).ownBlock = (Value.slice none 0 0).ownBlock ∨ ∃ k, (Value.slice A9 (i) c9).ownBlock = some k ∧ w.heap.size ≤ k) → Q .normal a' w') : ∀ ac, Frm 39 [(0, .slice (some ⟨g, 0, none⟩) n c), (1, .string x), (5, .slice none 0 0), (6, .int .i64 (i : Nat))] ac → Code.wp Tryd.prog c_pt_r7 Q ac w := by
  refine frm_open ?_
  refine frame_pt ?_
  intros
  rename_i hq
  obtain ⟨-, -, e0q, e1q, e2q, e3q, -⟩ := hq
  obtain rfl := sI e0q
  obtain rfl := sI e1q
  obtain rfl := sI e2q
  obtain rfl := sI e3q
  conv => arg 2; whnf
  obtain ⟨ts, hts, ht0, ht1, ht2⟩ := info_parts infoStr
  have q0 : (0 : Int) ≤ (i : Int) := by omega
  have q1 : (i : Int) ≤ (n : Int) := by omega
  have q2 : (n : Int) ≤ (c : Int) := by omega
  have q3 : (i : Int) ≤ (c : Int) := by omega
  have hcx : ∀ j u, ((l.take i).map Value.string)[j]? = some u → w.cell? (Addr.add ⟨g, 0, none⟩ j) = some u := by
    intro j u hu
    rw [addr_none, Nat.zero_add]
    refine hcell j u ?_
    rw [List.map_take] at hu
    have hj := (List.getElem?_eq_some_iff.1 hu).1
    rw [List.length_take] at hj
    rwa [List.getElem?_take_of_lt (by omega)] at hu
  have hlt : ((l.take i).map Value.string).length = i * 1 := by simp; omega
  have HCX := Lib.hid hcx
  have HLT := Lib.hid hlt
  clear hcx hlt hcell
  have HN := Lib.hid hN
  clear hN
  go_wp2_with (at_builtin; refine wpList_append_all (w) ?h1 (.tmp 25) (.tmp 28) 22 ?h2 B 9 ts (.string ⟨#[]⟩) 1 16 ?h3 hts ht0 ht1 ht2 ?h4 ?h5 (Value.slice none 0 0) (0) ([]) ?h6 ?h7 (.slice (some ⟨g, 0, none⟩) i c) (i) ((l.take i).map .string) ?h8 (HLT.out) (Or.inr ⟨_, _, rfl, HCX.out⟩) (by (intro u hu; rw [List.mem_map] at hu; obtain ⟨s, _, rfl⟩ := hu; rfl)) ?h12 ?h13 ?h14 (w.heap.size) ?h15 (i) ?h16 ?_)
  try (case h1 => rfl)
  try (case h2 => rfl)
  try (case h3 => exact Tryd.underlying22)
  try (case h4 => rfl)
  try (case h5 => omega)
  try (case h6 => rfl)
  try (case h7 => exact World.ownsRow_nil _ _ _ _)
  try (case h8 => first | rfl | (intro h; omega) | (simp; done) | (simp; omega))
  try (case h12 => first | (simp [maxLen]; omega) | (unfold maxLen; omega))
  try (case h13 => omega)
  try (case h14 => first | omega | (simp; omega))
  try (case h15 => first | rfl | simp)
  try (case h16 => omega)
  intro A9 c9 w6 hown3 hgrow hat
  have hgr : w.grownBy w6 (Value.slice none 0 0).ownBlock := hgrow
  have hax : (Value.slice A9 (i) c9).ownBlock = (Value.slice none 0 0).ownBlock ∨ ∃ k, (Value.slice A9 (i) c9).ownBlock = some k ∧ w.heap.size ≤ k := (by rcases hat with h | h; exact Or.inl h; exact Or.inr ⟨_, h, by first | exact Nat.le_refl _ | (simp; done)⟩)
  clear hgrow hat
  have HOWN3 := Lib.hid hown3
  have HGR := Lib.hid hgr
  have HAX := Lib.hid hax
  clear hown3 hgr hax
  go_wp2_with fail
  exact HN.out _ _ _ _ (id ⟨rfl, rfl, rfl, rfl, rfl, rfl, trivial⟩) (by simpa using HOWN3.out) HGR.out HAX.out
noncomputable def c_pt_r7n : Code := sub [1, 1, 1, 1, 1, 0] (Tryd.f66.body.getD .skip)
set_option maxRecDepth 1000000 in
set_option maxHeartbeats 16000000 in
theorem pt_r7n_wp {Q : Exit → Act → World → Prop} {B : Nat} {x : ByteArray} {w : World} (hB : B ≤ w.heap.size) (hN : ∀ A9 c9 a' w', Frm 39 [(0, Value.slice none 0 0), (1, .string x), (5, .slice A9 0 c9), (6, .int .i64 (0 : Nat))] a' → w'.ownsRow B 9 1 (.slice A9 (0) c9) (0) ([]) → w.grownBy w' (Value.slice none 0 0).ownBlock → ((Value.slice A9 (0) c9).ownBlock = (Value.slice none 0 0).ownBlock ∨ ∃ k, (Value.slice A9 (0) c9).ownBlock = some k ∧ w.heap.size ≤ k) → Q .normal a' w') : ∀ ac, Frm 39 [(0, Value.slice none 0 0), (1, .string x), (5, .slice none 0 0), (6, .int .i64 (0 : Nat))] ac → Code.wp Tryd.prog c_pt_r7n Q ac w := by
  refine frm_open ?_
  refine frame_pt ?_
  intros
  rename_i hq
  obtain ⟨-, -, e0q, e1q, e2q, e3q, -⟩ := hq
  obtain rfl := sI e0q
  obtain rfl := sI e1q
  obtain rfl := sI e2q
  obtain rfl := sI e3q
  conv => arg 2; whnf
  obtain ⟨ts, hts, ht0, ht1, ht2⟩ := info_parts infoStr
  have HN := Lib.hid hN
  clear hN
  go_wp2_with (at_builtin; refine wpList_append_all (w) ?h1 (.tmp 25) (.tmp 28) 22 ?h2 B 9 ts (.string ⟨#[]⟩) 1 16 ?h3 hts ht0 ht1 ht2 ?h4 ?h5 (Value.slice none 0 0) (0) ([]) ?h6 ?h7 (.slice none 0 0) (0) ([]) ?h8 (rfl) (Or.inl ⟨rfl, _, rfl⟩) (by (intro u hu; cases hu)) ?h12 ?h13 ?h14 (w.heap.size) ?h15 (0) ?h16 ?_)
  try (case h1 => rfl)
  try (case h2 => rfl)
  try (case h3 => exact Tryd.underlying22)
  try (case h4 => rfl)
  try (case h5 => omega)
  try (case h6 => rfl)
  try (case h7 => exact World.ownsRow_nil _ _ _ _)
  try (case h8 => first | rfl | (intro h; omega) | (simp; done) | (simp; omega))
  try (case h12 => first | (simp [maxLen]; omega) | (unfold maxLen; omega))
  try (case h13 => omega)
  try (case h14 => first | omega | (simp; omega))
  try (case h15 => first | rfl | simp)
  try (case h16 => omega)
  intro A9 c9 w6 hown3 hgrow hat
  have hgr : w.grownBy w6 (Value.slice none 0 0).ownBlock := hgrow
  have hax : (Value.slice A9 (0) c9).ownBlock = (Value.slice none 0 0).ownBlock ∨ ∃ k, (Value.slice A9 (0) c9).ownBlock = some k ∧ w.heap.size ≤ k := (by rcases hat with h | h; exact Or.inl h; exact Or.inr ⟨_, h, by first | exact Nat.le_refl _ | (simp; done)⟩)
  clear hgrow hat
  have HOWN3 := Lib.hid hown3
  have HGR := Lib.hid hgr
  have HAX := Lib.hid hax
  clear hown3 hgr hax
  go_wp2_with fail
  exact HN.out _ _ _ _ (id ⟨rfl, rfl, rfl, rfl, rfl, rfl, trivial⟩) (by simpa using HOWN3.out) HGR.out HAX.out
noncomputable def c_pt_r8 : Code := sub [1, 1, 1, 1, 1, 1, 0] (Tryd.f66.body.getD .skip)
set_option maxRecDepth 1000000 in
set_option maxHeartbeats 16000000 in
theorem pt_r8_wp {Q : Exit → Act → World → Prop} {A8 : Option Addr} {k8 c8 i B : Nat} {xs : List Value} {v : Value} {x : ByteArray} {w : World} (hB : B ≤ w.heap.size) (hk8 : k8 ≤ 1000000) (hown : w.ownsRow B 9 1 (.slice A8 k8 c8) k8 xs) (hN : ∀ A9 c9 a' w', Frm 39 [(0, v), (1, .string x), (5, .slice A9 (k8 + 1) c9), (6, .int .i64 (i : Nat))] a' → w'.ownsRow B 9 1 (.slice A9 (k8 + 1) c9) (k8 + 1) (xs ++ [.string x]) → w.grownBy w' (Value.slice A8 k8 c8).ownBlock → ((Value.slice A9 (k8 + 1) c9).ownBlock = (Value.slice A8 k8 c8).ownBlock ∨ ∃ k, (Value.slice A9 (k8 + 1) c9).ownBlock = some k ∧ w.heap.size ≤ k) → Q .normal a' w') : ∀ ac, Frm 39 [(0, v), (1, .string x), (5, .slice A8 k8 c8), (6, .int .i64 (i : Nat))] ac → Code.wp Tryd.prog c_pt_r8 Q ac w := by
  refine frm_open ?_
  refine frame_pt ?_
  intros
  rename_i hq
  obtain ⟨-, -, e0q, e1q, e2q, e3q, -⟩ := hq
  obtain rfl := sI e0q
  obtain rfl := sI e1q
  obtain rfl := sI e2q
  obtain rfl := sI e3q
  conv => arg 2; whnf
  obtain ⟨ts, hts, ht0, ht1, ht2⟩ := info_parts infoStr
  have HOWN := Lib.hid hown
  clear hown
  have HN := Lib.hid hN
  clear hN
  go_wp2_with (at_builtin; refine wpList_append_all (w.alloc (.cells #[.string x] 9)) ?h1 (.tmp 30) (.tmp 32) 22 ?h2 B 9 ts (.string ⟨#[]⟩) 1 16 ?h3 hts ht0 ht1 ht2 ?h4 ?h5 (.slice A8 k8 c8) (k8) (xs) ?h6 ?h7 (.slice (some ⟨w.heap.size, 0, none⟩) 1 1) (1) ([.string x]) ?h8 (rfl) (Or.inr ⟨_, _, rfl, World.news_of_block (cs := #[.string x]) (t := 9) (fr := (0, 0)) (heap_alloc_new w _)⟩) (by simp [Value.oneCell']) ?h12 ?h13 ?h14 (w.heap.size + 1) ?h15 (k8 + 1) ?h16 ?_)
  try (case h1 => rfl)
  try (case h2 => rfl)
  try (case h3 => exact Tryd.underlying22)
  try (case h4 => rfl)
  try (case h5 => omega)
  try (case h6 => rfl)
  try (case h7 => exact HOWN.out.alloc _)
  try (case h8 => first | rfl | (intro h; omega) | (simp; done) | (simp; omega))
  try (case h12 => first | (simp [maxLen]; omega) | (unfold maxLen; omega))
  try (case h13 => omega)
  try (case h14 => first | omega | (simp; omega))
  try (case h15 => first | rfl | simp)
  try (case h16 => omega)
  intro A9 c9 w6 hown3 hgrow hat
  have hgr : w.grownBy w6 (Value.slice A8 k8 c8).ownBlock := ⟨hgrow.os, hgrow.tape, hgrow.output, by have := hgrow.size; simp at this; omega, fun k hk hne => (hgrow.block k (by simp; omega) hne).trans (heap_old hk rfl)⟩
  have hax : (Value.slice A9 (k8 + 1) c9).ownBlock = (Value.slice A8 k8 c8).ownBlock ∨ ∃ k, (Value.slice A9 (k8 + 1) c9).ownBlock = some k ∧ w.heap.size ≤ k := (by rcases hat with h | h; exact Or.inl h; exact Or.inr ⟨_, h, by first | exact Nat.le_refl _ | (simp; done) | omega⟩)
  clear hgrow hat
  have HOWN3 := Lib.hid hown3
  have HGR := Lib.hid hgr
  have HAX := Lib.hid hax
  clear hown3 hgr hax
  go_wp2_with fail
  exact HN.out _ _ _ _ (id ⟨rfl, rfl, rfl, rfl, rfl, rfl, trivial⟩) (by simpa using HOWN3.out) HGR.out HAX.out
noncomputable def c_pt_r9 : Code := sub [1, 1, 1, 1, 1, 1, 1, 0] (Tryd.f66.body.getD .skip)
set_option maxRecDepth 1000000 in
set_option maxHeartbeats 16000000 in
theorem pt_r9_wp {Q : Exit → Act → World → Prop} {A8 : Option Addr} {k8 c8 : Nat} {xs : List Value} {g n c i B : Nat} {x : ByteArray} {l : List ByteArray} {w : World} (hB : B ≤ w.heap.size) (hcell : ∀ j u, (l.map Value.string)[j]? = some u → w.cell? ⟨g, j, none⟩ = some u) (hll : l.length = n) (hnc : n ≤ c) (hn5 : n ≤ 1000000) (hbl : g < w.heap.size) (hi : i ≤ n) (hic : i < c) (hk8 : k8 ≤ 1000001) (hown : w.ownsRow B 9 1 (.slice A8 k8 c8) k8 xs) (hN : ∀ A9 c9 a' w', Frm 39 [(4, .slice A9 (k8 + (n - i)) c9)] a' → w'.ownsRow B 9 1 (.slice A9 (k8 + (n - i)) c9) (k8 + (n - i)) (xs ++ (l.drop i).map .string) → w.grownBy w' (Value.slice A8 k8 c8).ownBlock → ((Value.slice A9 (k8 + (n - i)) c9).ownBlock = (Value.slice A8 k8 c8).ownBlock ∨ ∃ k, (Value.slice A9 (k8 + (n - i)) c9).ownBlock = some k ∧ w.heap.size ≤ k) → Q .normal a' w') : ∀ ac, Frm 39 [(0, .slice (some ⟨g, 0, none⟩) n c), (1, .string x), (5, .slice A8 k8 c8), (6, .int .i64 (i : Nat))] ac → Code.wp Tryd.prog c_pt_r9 Q ac w := by
  refine frm_open ?_
  refine frame_pt ?_
  intros
  rename_i hq
  obtain ⟨-, -, e0q, e1q, e2q, e3q, -⟩ := hq
  obtain rfl := sI e0q
  obtain rfl := sI e1q
  obtain rfl := sI e2q
  obtain rfl := sI e3q
  conv => arg 2; whnf
  obtain ⟨ts, hts, ht0, ht1, ht2⟩ := info_parts infoStr
  have q0 : (0 : Int) ≤ (i : Int) := by omega
  have q1 : (i : Int) ≤ (n : Int) := by omega
  have q2 : (n : Int) ≤ (c : Int) := by omega
  have q3 : (i : Int) ≤ (c : Int) := by omega
  have hcx : ∀ j u, ((l.drop i).map Value.string)[j]? = some u → w.cell? (Addr.add ⟨g, i, none⟩ j) = some u := by
    intro j u hu
    rw [addr_none]
    refine hcell (i + j) u ?_
    rwa [List.map_drop, List.getElem?_drop] at hu
  have hlt : ((l.drop i).map Value.string).length = (n - i) * 1 := by simp; omega
  have HCX := Lib.hid hcx
  have HLT := Lib.hid hlt
  clear hcx hlt hcell
  have HOWN := Lib.hid hown
  clear hown
  have HN := Lib.hid hN
  clear hN
  go_wp2_with (at_builtin; refine wpList_append_all (w) ?h1 (.tmp 34) (.tmp 37) 22 ?h2 B 9 ts (.string ⟨#[]⟩) 1 16 ?h3 hts ht0 ht1 ht2 ?h4 ?h5 (.slice A8 k8 c8) (k8) (xs) ?h6 ?h7 (.slice (some ⟨g, i, none⟩) (n - i) (c - i)) (n - i) ((l.drop i).map .string) ?h8 (HLT.out) (Or.inr ⟨_, _, rfl, HCX.out⟩) (by (intro u hu; rw [List.mem_map] at hu; obtain ⟨s, _, rfl⟩ := hu; rfl)) ?h12 ?h13 ?h14 (w.heap.size) ?h15 (k8 + (n - i)) ?h16 ?_)
  try (case h1 => rfl)
  try (case h2 => rfl)
  try (case h3 => exact Tryd.underlying22)
  try (case h4 => rfl)
  try (case h5 => omega)
  try (case h6 => rfl)
  try (case h7 => exact HOWN.out)
  try (case h8 => first | rfl | (intro h; omega) | (simp; done) | (simp; omega))
  try (case h12 => first | (simp [maxLen]; omega) | (unfold maxLen; omega))
  try (case h13 => omega)
  try (case h14 => first | omega | (simp; omega))
  try (case h15 => first | rfl | simp)
  try (case h16 => omega)
  intro A9 c9 w6 hown3 hgrow hat
  have hgr : w.grownBy w6 (Value.slice A8 k8 c8).ownBlock := hgrow
  have hax : (Value.slice A9 (k8 + (n - i)) c9).ownBlock = (Value.slice A8 k8 c8).ownBlock ∨ ∃ k, (Value.slice A9 (k8 + (n - i)) c9).ownBlock = some k ∧ w.heap.size ≤ k := (by rcases hat with h | h; exact Or.inl h; exact Or.inr ⟨_, h, by first | exact Nat.le_refl _ | (simp; done)⟩)
  clear hgrow hat
  have HOWN3 := Lib.hid hown3
  have HGR := Lib.hid hgr
  have HAX := Lib.hid hax
  clear hown3 hgr hax
  go_wp2_with fail
  exact HN.out _ _ _ _ (id ⟨rfl, rfl, rfl, trivial⟩) (by simpa using HOWN3.out) HGR.out HAX.out
noncomputable def c_pt_r9e : Code := sub [1, 1, 1, 1, 1, 1, 1, 0] (Tryd.f66.body.getD .skip)
set_option maxRecDepth 1000000 in
set_option maxHeartbeats 16000000 in
theorem pt_r9e_wp {Q : Exit → Act → World → Prop} {A8 : Option Addr} {k8 c8 : Nat} {xs : List Value} {g i B : Nat} {x : ByteArray} {w : World} (hB : B ≤ w.heap.size) (hi5 : i ≤ 1000000) (hk8 : k8 ≤ 1000001) (hown : w.ownsRow B 9 1 (.slice A8 k8 c8) k8 xs) (hN : ∀ A9 c9 a' w', Frm 39 [(4, .slice A9 k8 c9)] a' → w'.ownsRow B 9 1 (.slice A9 (k8) c9) (k8) (xs) → w.grownBy w' (Value.slice A8 k8 c8).ownBlock → ((Value.slice A9 (k8) c9).ownBlock = (Value.slice A8 k8 c8).ownBlock ∨ ∃ k, (Value.slice A9 (k8) c9).ownBlock = some k ∧ w.heap.size ≤ k) → Q .normal a' w') : ∀ ac, Frm 39 [(0, .slice (some ⟨g, 0, none⟩) i i), (1, .string x), (5, .slice A8 k8 c8), (6, .int .i64 (i : Nat))] ac → Code.wp Tryd.prog c_pt_r9e Q ac w := by
  refine frm_open ?_
  refine frame_pt ?_
  intros
  rename_i hq
  obtain ⟨-, -, e0q, e1q, e2q, e3q, -⟩ := hq
  obtain rfl := sI e0q
  obtain rfl := sI e1q
  obtain rfl := sI e2q
  obtain rfl := sI e3q
  conv => arg 2; whnf
  obtain ⟨ts, hts, ht0, ht1, ht2⟩ := info_parts infoStr
  have q0 : (0 : Int) ≤ (i : Int) := by omega
  have HOWN := Lib.hid hown
  clear hown
  have HN := Lib.hid hN
  clear hN
  go_wp2_with (at_builtin; refine wpList_append_all (w) ?h1 (.tmp 34) (.tmp 37) 22 ?h2 B 9 ts (.string ⟨#[]⟩) 1 16 ?h3 hts ht0 ht1 ht2 ?h4 ?h5 (.slice A8 k8 c8) (k8) (xs) ?h6 ?h7 (.slice (some ⟨g, 0, none⟩) 0 0) (0) ([]) ?h8 (rfl) (Or.inr ⟨_, _, rfl, by simp⟩) (by (intro u hu; cases hu)) ?h12 ?h13 ?h14 (w.heap.size) ?h15 (k8) ?h16 ?_)
  try (case h1 => rfl)
  try (case h2 => rfl)
  try (case h3 => exact Tryd.underlying22)
  try (case h4 => rfl)
  try (case h5 => omega)
  try (case h6 => rfl)
  try (case h7 => exact HOWN.out)
  try (case h8 => first | rfl | (intro h; omega) | (simp; done) | (simp; omega))
  try (case h12 => first | (simp [maxLen]; omega) | (unfold maxLen; omega))
  try (case h13 => omega)
  try (case h14 => first | omega | (simp; omega))
  try (case h15 => first | rfl | simp)
  try (case h16 => omega)
  intro A9 c9 w6 hown3 hgrow hat
  have hgr : w.grownBy w6 (Value.slice A8 k8 c8).ownBlock := hgrow
  have hax : (Value.slice A9 (k8) c9).ownBlock = (Value.slice A8 k8 c8).ownBlock ∨ ∃ k, (Value.slice A9 (k8) c9).ownBlock = some k ∧ w.heap.size ≤ k := (by rcases hat with h | h; exact Or.inl h; exact Or.inr ⟨_, h, by first | exact Nat.le_refl _ | (simp; done)⟩)
  clear hgrow hat
  have HOWN3 := Lib.hid hown3
  have HGR := Lib.hid hgr
  have HAX := Lib.hid hax
  clear hown3 hgr hax
  go_wp2_with fail
  exact HN.out _ _ _ _ (id ⟨rfl, rfl, rfl, trivial⟩) (by simpa using HOWN3.out) HGR.out HAX.out
noncomputable def c_pt_r9n : Code := sub [1, 1, 1, 1, 1, 1, 1, 0] (Tryd.f66.body.getD .skip)
set_option maxRecDepth 1000000 in
set_option maxHeartbeats 16000000 in
theorem pt_r9n_wp {Q : Exit → Act → World → Prop} {A8 : Option Addr} {k8 c8 B : Nat} {xs : List Value} {x : ByteArray} {w : World} (hB : B ≤ w.heap.size) (hk8 : k8 ≤ 1000001) (hown : w.ownsRow B 9 1 (.slice A8 k8 c8) k8 xs) (hN : ∀ A9 c9 a' w', Frm 39 [(4, .slice A9 k8 c9)] a' → w'.ownsRow B 9 1 (.slice A9 (k8) c9) (k8) (xs) → w.grownBy w' (Value.slice A8 k8 c8).ownBlock → ((Value.slice A9 (k8) c9).ownBlock = (Value.slice A8 k8 c8).ownBlock ∨ ∃ k, (Value.slice A9 (k8) c9).ownBlock = some k ∧ w.heap.size ≤ k) → Q .normal a' w') : ∀ ac, Frm 39 [(0, Value.slice none 0 0), (1, .string x), (5, .slice A8 k8 c8), (6, .int .i64 (0 : Nat))] ac → Code.wp Tryd.prog c_pt_r9n Q ac w := by
  refine frm_open ?_
  refine frame_pt ?_
  intros
  rename_i hq
  obtain ⟨-, -, e0q, e1q, e2q, e3q, -⟩ := hq
  obtain rfl := sI e0q
  obtain rfl := sI e1q
  obtain rfl := sI e2q
  obtain rfl := sI e3q
  conv => arg 2; whnf
  obtain ⟨ts, hts, ht0, ht1, ht2⟩ := info_parts infoStr
  have HOWN := Lib.hid hown
  clear hown
  have HN := Lib.hid hN
  clear hN
  go_wp2_with (at_builtin; refine wpList_append_all (w) ?h1 (.tmp 34) (.tmp 37) 22 ?h2 B 9 ts (.string ⟨#[]⟩) 1 16 ?h3 hts ht0 ht1 ht2 ?h4 ?h5 (.slice A8 k8 c8) (k8) (xs) ?h6 ?h7 (.slice none 0 0) (0) ([]) ?h8 (rfl) (Or.inl ⟨rfl, _, rfl⟩) (by (intro u hu; cases hu)) ?h12 ?h13 ?h14 (w.heap.size) ?h15 (k8) ?h16 ?_)
  try (case h1 => rfl)
  try (case h2 => rfl)
  try (case h3 => exact Tryd.underlying22)
  try (case h4 => rfl)
  try (case h5 => omega)
  try (case h6 => rfl)
  try (case h7 => exact HOWN.out)
  try (case h8 => first | rfl | (intro h; omega) | (simp; done) | (simp; omega))
  try (case h12 => first | (simp [maxLen]; omega) | (unfold maxLen; omega))
  try (case h13 => omega)
  try (case h14 => first | omega | (simp; omega))
  try (case h15 => first | rfl | simp)
  try (case h16 => omega)
  intro A9 c9 w6 hown3 hgrow hat
  have hgr : w.grownBy w6 (Value.slice A8 k8 c8).ownBlock := hgrow
  have hax : (Value.slice A9 (k8) c9).ownBlock = (Value.slice A8 k8 c8).ownBlock ∨ ∃ k, (Value.slice A9 (k8) c9).ownBlock = some k ∧ w.heap.size ≤ k := (by rcases hat with h | h; exact Or.inl h; exact Or.inr ⟨_, h, by first | exact Nat.le_refl _ | (simp; done)⟩)
  clear hgrow hat
  have HOWN3 := Lib.hid hown3
  have HGR := Lib.hid hgr
  have HAX := Lib.hid hax
  clear hown3 hgr hax
  go_wp2_with fail
  exact HN.out _ _ _ _ (id ⟨rfl, rfl, rfl, trivial⟩) (by simpa using HOWN3.out) HGR.out HAX.out
set_option maxRecDepth 1000000 in
theorem pt_ret_wp {R : Ending → World → Prop} {w' : World} {vv : Value} (hR : R (.returned (vv)) w') : ∀ ac, Frm 39 [(4, vv)] ac → bodyPost Tryd.prog Tryd.f66 R .ret ac w' := by
  refine frm_open ?_
  refine frame_pt ?_
  intros
  rename_i hq
  obtain ⟨-, -, e0q, -⟩ := hq
  obtain rfl := sI e0q
  refine bodyPost_ret (v := vv) (by simp [results, Tryd.results66, go_sem]) rfl ?_
  exact hR

end Go.Proofs.YtdofemkfmkopcaaDoor
