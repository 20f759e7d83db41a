/-
  truth.Fault's inner function: by parts, joined.
-/
import Derived.Test.YtflcbbikfdahhaaDoorCkA
import Derived.Test.YtflcbbikfdahhaaDoorFind
import Derived.Test.YtflcbbikfdahhaaDoorNest
namespace Go.Proofs.YtflcbbikfdahhaaDoor
open Go Go.RowKit
set_option linter.unusedSimpArgs false
set_option linter.unusedVariables false

set_option maxRecDepth 1000000 in
theorem frame_fl {P : Act → Prop} (h : ∀ x0 x1 x2 x3 x4 x5 x6 x7 x8 x9 x10 x11 x12 x13 x14 x15 x16 x17 x18 x19 x20 x21 x22 x23 x24 x25 x26 x27 x28 x29 x30 x31 x32 x33 x34 x35 : Value, P ⟨(x0 :: x1 :: x2 :: x3 :: x4 :: x5 :: x6 :: x7 :: x8 :: x9 :: x10 :: x11 :: x12 :: x13 :: x14 :: x15 :: x16 :: x17 :: x18 :: x19 :: x20 :: x21 :: x22 :: x23 :: x24 :: x25 :: x26 :: x27 :: x28 :: x29 :: x30 :: x31 :: x32 :: x33 :: x34 :: x35 :: []).toArray, []⟩) : ∀ a : Act, a.tmps.toList.length = 36 → a.defers = [] → P a := by
  rintro ⟨⟨l⟩, d⟩ hs hd
  simp only at hd
  subst hd
  revert l
  show ∀ l : List Value, l.length = 36 → P ⟨⟨l⟩, []⟩
  refine openS (n := 35) (fun x0 => ?_)
  refine openS (n := 34) (fun x1 => ?_)
  refine openS (n := 33) (fun x2 => ?_)
  refine openS (n := 32) (fun x3 => ?_)
  refine openS (n := 31) (fun x4 => ?_)
  refine openS (n := 30) (fun x5 => ?_)
  refine openS (n := 29) (fun x6 => ?_)
  refine openS (n := 28) (fun x7 => ?_)
  refine openS (n := 27) (fun x8 => ?_)
  refine openS (n := 26) (fun x9 => ?_)
  refine openS (n := 25) (fun x10 => ?_)
  refine openS (n := 24) (fun x11 => ?_)
  refine openS (n := 23) (fun x12 => ?_)
  refine openS (n := 22) (fun x13 => ?_)
  refine openS (n := 21) (fun x14 => ?_)
  refine openS (n := 20) (fun x15 => ?_)
  refine openS (n := 19) (fun x16 => ?_)
  refine openS (n := 18) (fun x17 => ?_)
  refine openS (n := 17) (fun x18 => ?_)
  refine openS (n := 16) (fun x19 => ?_)
  refine openS (n := 15) (fun x20 => ?_)
  refine openS (n := 14) (fun x21 => ?_)
  refine openS (n := 13) (fun x22 => ?_)
  refine openS (n := 12) (fun x23 => ?_)
  refine openS (n := 11) (fun x24 => ?_)
  refine openS (n := 10) (fun x25 => ?_)
  refine openS (n := 9) (fun x26 => ?_)
  refine openS (n := 8) (fun x27 => ?_)
  refine openS (n := 7) (fun x28 => ?_)
  refine openS (n := 6) (fun x29 => ?_)
  refine openS (n := 5) (fun x30 => ?_)
  refine openS (n := 4) (fun x31 => ?_)
  refine openS (n := 3) (fun x32 => ?_)
  refine openS (n := 2) (fun x33 => ?_)
  refine openS (n := 1) (fun x34 => ?_)
  refine openS (n := 0) (fun x35 => ?_)
  refine open0 ?_
  exact h x0 x1 x2 x3 x4 x5 x6 x7 x8 x9 x10 x11 x12 x13 x14 x15 x16 x17 x18 x19 x20 x21 x22 x23 x24 x25 x26 x27 x28 x29 x30 x31 x32 x33 x34 x35
noncomputable def c_fl_r0 : Code := sub [0] (Tryd.f80.body.getD .skip)
set_option maxRecDepth 1000000 in
set_option maxHeartbeats 16000000 in
theorem fl_r0_wp {Q : Exit → Act → World → Prop} {gm gw : Nat} {wo : World} {kd : Int} {nm : ByteArray} {A B : Option Addr} {n1 c1 n2 c2 : Nat} (hN : ∀ a', Frm 36 [(1, .pointer (some ⟨gm, 0, none⟩)), (2, .pointer (some ⟨gw, 0, none⟩)), (3, .pointer (some ⟨wo.heap.size, 0, none⟩))] a' → Q .normal a' (wo.alloc (.cells #[.int .i64 kd, .string nm, .slice A n1 c1, .slice B n2 c2] 29))) : ∀ ac, Frm 36 [(0, .agg #[.int .i64 kd, .string nm, .slice A n1 c1, .slice B n2 c2]), (1, .pointer (some ⟨gm, 0, none⟩)), (2, .pointer (some ⟨gw, 0, none⟩))] ac → Code.wp Tryd.prog c_fl_r0 Q ac wo := by
  refine frm_open ?_
  refine frame_fl ?_
  intros
  rename_i hq
  obtain ⟨-, -, e0q, e1q, e2q, -⟩ := hq
  obtain rfl := sI e0q
  obtain rfl := sI e1q
  obtain rfl := sI e2q
  conv => arg 2; whnf
  have HN := Lib.hid hN
  clear hN
  go_wp2_with fail
  exact HN.out _ (id ⟨rfl, rfl, rfl, rfl, rfl, trivial⟩)
noncomputable def c_fl_r1 : Code := sub [1, 0, 0] (Tryd.f80.body.getD .skip)
set_option maxRecDepth 1000000 in
set_option maxHeartbeats 16000000 in
theorem fl_r1_wp {Q : Exit → Act → World → Prop} {gm gw : Nat} {wo w : World} {kd : Int} {nm : ByteArray} {A B : Option Addr} {n1 c1 n2 c2 : Nat} (ha : w.heap[wo.heap.size]? = some (.cells #[.int .i64 kd, .string nm, .slice A n1 c1, .slice B n2 c2] 29 (0, 0))) (hN : ∀ a', Frm 36 [(1, .pointer (some ⟨gm, 0, none⟩)), (2, .pointer (some ⟨gw, 0, none⟩)), (3, .pointer (some ⟨wo.heap.size, 0, none⟩)), (11, .bool (decide (kd = 2)))] a' → Q .normal a' w) : ∀ ac, Frm 36 [(1, .pointer (some ⟨gm, 0, none⟩)), (2, .pointer (some ⟨gw, 0, none⟩)), (3, .pointer (some ⟨wo.heap.size, 0, none⟩))] ac → Code.wp Tryd.prog c_fl_r1 Q ac w := by
  refine frm_open ?_
  refine frame_fl ?_
  intros
  rename_i hq
  obtain ⟨-, -, e0q, e1q, e2q, -⟩ := hq
  obtain rfl := sI e0q
  obtain rfl := sI e1q
  obtain rfl := sI e2q
  conv => arg 2; whnf
  have a0 := cellv ha 0 rfl
  have a1 := cellv ha 1 rfl
  have a2 := cellv ha 2 rfl
  have a3 := cellv ha 3 rfl
  have al := lt_heap ha
  clear ha
  by_cases h : kd = 2
  · have t1 : (kd == 2) = true := beq_iff_eq.2 h
    have t2 : decide (kd = 2) = true := decide_eq_true h
    rw [t2] at hN
    clear h
    have HN := Lib.hid hN
    clear hN
    go_wp2_with fail
    exact HN.out _ (id ⟨rfl, rfl, rfl, rfl, rfl, rfl, trivial⟩)
  · have t1 : (kd == 2) = false := beq_eq_false_iff_ne.2 h
    have t2 : decide (kd = 2) = false := decide_eq_false h
    rw [t2] at hN
    clear h
    have HN := Lib.hid hN
    clear hN
    go_wp2_with fail
    exact HN.out _ (id ⟨rfl, rfl, rfl, rfl, rfl, rfl, trivial⟩)
noncomputable def c_fl_r2 : Code := sub [1, 0, 1, 0, 0] (Tryd.f80.body.getD .skip)
set_option maxRecDepth 1000000 in
set_option maxHeartbeats 16000000 in
theorem fl_r2_wp {Q : Exit → Act → World → Prop} {bb : Bool} {z : Int} {Am Bm : Option Addr} {nm1 cm nm2 dm : Nat} {gm gw : Nat} {wo w : World} {kd : Int} {nm : ByteArray} {A B : Option Addr} {n1 c1 n2 c2 : Nat} (ha : w.heap[wo.heap.size]? = some (.cells #[.int .i64 kd, .string nm, .slice A n1 c1, .slice B n2 c2] 29 (0, 0))) (hgm : w.heap[gm]? = some (.cells #[.int .i64 z, .slice Am nm1 cm, .slice Bm nm2 dm] 25 (0, 0))) (hc : Calls Tryd.prog 81 #[.agg #[.int .i64 z, .slice Am nm1 cm, .slice Bm nm2 dm], .string nm, .int .i64 (n1 : Nat)] w fun e w' => (∃ p y D9 a9 b9, e = .returned (.tuple #[.agg #[.string p, .int .i64 y, .slice D9 a9 b9], .bool bb])) ∧ Below w.heap.size w w') (hN : ∀ a' w', Frm 36 [(1, .pointer (some ⟨gm, 0, none⟩)), (2, .pointer (some ⟨gw, 0, none⟩)), (3, .pointer (some ⟨wo.heap.size, 0, none⟩)), (6, .bool bb)] a' → Below w.heap.size w w' → Q .normal a' w') : ∀ ac, Frm 36 [(1, .pointer (some ⟨gm, 0, none⟩)), (2, .pointer (some ⟨gw, 0, none⟩)), (3, .pointer (some ⟨wo.heap.size, 0, none⟩))] ac → Code.wp Tryd.prog c_fl_r2 Q ac w := by
  refine frm_open ?_
  refine frame_fl ?_
  intros
  rename_i hq
  obtain ⟨-, -, e0q, e1q, e2q, -⟩ := hq
  obtain rfl := sI e0q
  obtain rfl := sI e1q
  obtain rfl := sI e2q
  conv => arg 2; whnf
  have a0 := cellv ha 0 rfl
  have a1 := cellv ha 1 rfl
  have a2 := cellv ha 2 rfl
  have a3 := cellv ha 3 rfl
  have al := lt_heap ha
  clear ha
  have m0 := cellv hgm 0 rfl
  have m1 := cellv hgm 1 rfl
  have m2 := cellv hgm 2 rfl
  have ml := lt_heap hgm
  clear hgm
  have HN := Lib.hid hN
  have HC := Lib.hid hc
  clear hN hc
  go_wp2_with fail
  (with_reducible refine HC.out.mono ?_)
  rintro e w1 ⟨⟨pr, yr, D9, a9, b9, rfl⟩, hb1⟩
  have HB1 := Lib.hid hb1
  clear hb1
  go_wp2_with fail
  exact HN.out _ _ (id ⟨rfl, rfl, rfl, rfl, rfl, rfl, trivial⟩) (HB1.out.alloc HB1.out.size _)
noncomputable def c_fl_r3 : Code := sub [1, 0, 1, 0, 1, 0] (Tryd.f80.body.getD .skip)
set_option maxRecDepth 1000000 in
set_option maxHeartbeats 16000000 in
theorem fl_r3_wp {Q : Exit → Act → World → Prop} {bb : Bool} {gm gw : Nat} {wo w : World} (hN : ∀ a', Frm 36 [(1, .pointer (some ⟨gm, 0, none⟩)), (2, .pointer (some ⟨gw, 0, none⟩)), (3, .pointer (some ⟨wo.heap.size, 0, none⟩)), (23, .bool (!bb))] a' → Q .normal a' w) : ∀ ac, Frm 36 [(1, .pointer (some ⟨gm, 0, none⟩)), (2, .pointer (some ⟨gw, 0, none⟩)), (3, .pointer (some ⟨wo.heap.size, 0, none⟩)), (6, .bool bb)] ac → Code.wp Tryd.prog c_fl_r3 Q ac w := by
  refine frm_open ?_
  refine frame_fl ?_
  intros
  rename_i hq
  obtain ⟨-, -, e0q, e1q, e2q, e3q, -⟩ := hq
  obtain rfl := sI e0q
  obtain rfl := sI e1q
  obtain rfl := sI e2q
  obtain rfl := sI e3q
  conv => arg 2; whnf
  have HN := Lib.hid hN
  clear hN
  go_wp2_with fail
  exact HN.out _ (id ⟨rfl, rfl, rfl, rfl, rfl, rfl, trivial⟩)
noncomputable def c_fl_r4 : Code := sub [1, 0, 1, 0, 1, 1, 0, 0] (Tryd.f80.body.getD .skip)
set_option maxRecDepth 1000000 in
set_option maxHeartbeats 16000000 in
theorem fl_r4_wp {Q : Exit → Act → World → Prop} {gm gw : Nat} {wo w : World} (hN : ∀ a', Frm 36 [(4, .bool false)] a' → Q .normal a' w) : ∀ ac, Frm 36 [(1, .pointer (some ⟨gm, 0, none⟩)), (2, .pointer (some ⟨gw, 0, none⟩)), (3, .pointer (some ⟨wo.heap.size, 0, none⟩))] ac → Code.wp Tryd.prog c_fl_r4 Q ac w := by
  refine frm_open ?_
  refine frame_fl ?_
  intros
  rename_i hq
  obtain ⟨-, -, e0q, e1q, e2q, -⟩ := hq
  obtain rfl := sI e0q
  obtain rfl := sI e1q
  obtain rfl := sI e2q
  conv => arg 2; whnf
  have HN := Lib.hid hN
  clear hN
  go_wp2_with fail
  exact HN.out _ (id ⟨rfl, rfl, rfl, trivial⟩)
noncomputable def c_fl_r5 : Code := sub [1, 1, 0, 0] (Tryd.f80.body.getD .skip)
set_option maxRecDepth 1000000 in
set_option maxHeartbeats 16000000 in
theorem fl_r5_wp {Q : Exit → Act → World → Prop} {gm gw : Nat} {wo w : World} {kd : Int} {nm : ByteArray} {A B : Option Addr} {n1 c1 n2 c2 : Nat} (ha : w.heap[wo.heap.size]? = some (.cells #[.int .i64 kd, .string nm, .slice A n1 c1, .slice B n2 c2] 29 (0, 0))) (hN : ∀ a', Frm 36 [(1, .pointer (some ⟨gm, 0, none⟩)), (2, .pointer (some ⟨gw, 0, none⟩)), (3, .pointer (some ⟨wo.heap.size, 0, none⟩)), (25, .slice B n2 c2), (26, .int .i64 (n2 : Nat)), (27, .int .i64 (0 : Nat))] a' → Q .normal a' w) : ∀ ac, Frm 36 [(1, .pointer (some ⟨gm, 0, none⟩)), (2, .pointer (some ⟨gw, 0, none⟩)), (3, .pointer (some ⟨wo.heap.size, 0, none⟩))] ac → Code.wp Tryd.prog c_fl_r5 Q ac w := by
  refine frm_open ?_
  refine frame_fl ?_
  intros
  rename_i hq
  obtain ⟨-, -, e0q, e1q, e2q, -⟩ := hq
  obtain rfl := sI e0q
  obtain rfl := sI e1q
  obtain rfl := sI e2q
  conv => arg 2; whnf
  have a0 := cellv ha 0 rfl
  have a1 := cellv ha 1 rfl
  have a2 := cellv ha 2 rfl
  have a3 := cellv ha 3 rfl
  have al := lt_heap ha
  clear ha
  have HN := Lib.hid hN
  clear hN
  go_wp2_with fail
  exact HN.out _ (id ⟨rfl, rfl, rfl, rfl, rfl, rfl, rfl, rfl, trivial⟩)
noncomputable def c_fl_r6 : Code := sub [1, 1, 0, 1, 0, 0, 0] (Tryd.f80.body.getD .skip)
set_option maxRecDepth 1000000 in
set_option maxHeartbeats 16000000 in
theorem fl_r6_wp {Q : Exit → Act → World → Prop} {B : Option Addr} {n2 c2 i : Nat} {gm gw : Nat} {wo w : World} (hN : ∀ a', Frm 36 [(1, .pointer (some ⟨gm, 0, none⟩)), (2, .pointer (some ⟨gw, 0, none⟩)), (3, .pointer (some ⟨wo.heap.size, 0, none⟩)), (25, .slice B n2 c2), (26, .int .i64 (n2 : Nat)), (27, .int .i64 (i : Nat)), (28, .bool (decide (i < n2)))] a' → Q .normal a' w) : ∀ ac, Frm 36 [(1, .pointer (some ⟨gm, 0, none⟩)), (2, .pointer (some ⟨gw, 0, none⟩)), (3, .pointer (some ⟨wo.heap.size, 0, none⟩)), (25, .slice B n2 c2), (26, .int .i64 (n2 : Nat)), (27, .int .i64 (i : Nat))] ac → Code.wp Tryd.prog c_fl_r6 Q ac w := by
  refine frm_open ?_
  refine frame_fl ?_
  intros
  rename_i hq
  obtain ⟨-, -, e0q, e1q, e2q, e3q, e4q, e5q, -⟩ := hq
  obtain rfl := sI e0q
  obtain rfl := sI e1q
  obtain rfl := sI e2q
  obtain rfl := sI e3q
  obtain rfl := sI e4q
  obtain rfl := sI e5q
  conv => arg 2; whnf
  by_cases h : i < n2
  · have t1 : decide ((i : Int) < (n2 : Int)) = true := by first | exact decide_eq_true (by omega) | exact beq_iff_eq.2 (by omega) | exact bne_iff_ne.2 (by omega)
    have t2 : (decide (i < n2)) = true := decide_eq_true h
    rw [t2] at hN
    clear h
    have HN := Lib.hid hN
    clear hN
    go_wp2_with fail
    exact HN.out _ (id ⟨rfl, rfl, rfl, rfl, rfl, rfl, rfl, rfl, rfl, trivial⟩)
  · have t1 : decide ((i : Int) < (n2 : Int)) = false := by first | exact decide_eq_false (by omega) | exact beq_eq_false_iff_ne.2 (by omega) | exact bne_eq_false_iff_eq.2 (by omega)
    have t2 : (decide (i < n2)) = false := decide_eq_false h
    rw [t2] at hN
    clear h
    have HN := Lib.hid hN
    clear hN
    go_wp2_with fail
    exact HN.out _ (id ⟨rfl, rfl, rfl, rfl, rfl, rfl, rfl, rfl, rfl, trivial⟩)
noncomputable def c_fl_r7 : Code := sub [1, 1, 0, 1, 0, 0, 1, 1, 0, 0, 0] (Tryd.f80.body.getD .skip)
set_option maxRecDepth 1000000 in
set_option maxHeartbeats 16000000 in
theorem fl_r7_wp {Q : Exit → Act → World → Prop} {b o i : Nat} {ke : Int} {ne : ByteArray} {Ae Be : Option Addr} {n3 c3 n4 c4 : Nat} {gm gw : Nat} {wo w : World} {n2 c2 : Nat} (hi : i < n2) (e0 : w.cell? ⟨b, o + i * 4, none⟩ = some (.int .i64 ke)) (e1 : w.cell? ⟨b, o + i * 4 + 1, none⟩ = some (.string ne)) (e2 : w.cell? ⟨b, o + i * 4 + 2, none⟩ = some (.slice Ae n3 c3)) (e3 : w.cell? ⟨b, o + i * 4 + 3, none⟩ = some (.slice Be n4 c4)) (hbl : b < w.heap.size) (hN : ∀ a' w', Frm 36 [(1, .pointer (some ⟨gm, 0, none⟩)), (2, .pointer (some ⟨gw, 0, none⟩)), (3, .pointer (some ⟨wo.heap.size, 0, none⟩)), (25, .slice (some ⟨b, o, none⟩) n2 c2), (26, .int .i64 (n2 : Nat)), (27, .int .i64 (i : Nat)), (8, .pointer (some ⟨w.heap.size, 0, none⟩))] a' → w'.heap[w.heap.size]? = some (.cells #[.int .i64 ke, .string ne, .slice Ae n3 c3, .slice Be n4 c4] 29 (0, 0)) → Below w.heap.size w w' → Q .normal a' w') : ∀ ac, Frm 36 [(1, .pointer (some ⟨gm, 0, none⟩)), (2, .pointer (some ⟨gw, 0, none⟩)), (3, .pointer (some ⟨wo.heap.size, 0, none⟩)), (25, .slice (some ⟨b, o, none⟩) n2 c2), (26, .int .i64 (n2 : Nat)), (27, .int .i64 (i : Nat))] ac → Code.wp Tryd.prog c_fl_r7 Q ac w := by
  refine frm_open ?_
  refine frame_fl ?_
  intros
  rename_i hq
  obtain ⟨-, -, e0q, e1q, e2q, e3q, e4q, e5q, -⟩ := hq
  obtain rfl := sI e0q
  obtain rfl := sI e1q
  obtain rfl := sI e2q
  obtain rfl := sI e3q
  obtain rfl := sI e4q
  obtain rfl := sI e5q
  conv => arg 2; whnf
  have q0 : (0 : Int) ≤ (i : Int) := by omega
  have q1 : (i : Int) < (n2 : Int) := by omega
  have HN := Lib.hid hN
  clear hN
  go_wp2_with fail
  exact HN.out _ _ (id ⟨rfl, rfl, rfl, rfl, rfl, rfl, rfl, rfl, rfl, trivial⟩) (heap_alloc_new _ _) ((Below.refl _ w).alloc (Nat.le_refl _) _)
noncomputable def c_fl_r8 : Code := sub [1, 1, 0, 1, 0, 0, 1, 1, 0, 0, 1, 0] (Tryd.f80.body.getD .skip)
set_option maxRecDepth 1000000 in
set_option maxHeartbeats 16000000 in
theorem fl_r8_wp {Q : Exit → Act → World → Prop} {bb : Bool} {E : Nat} {ke : Int} {ne : ByteArray} {Ae Be : Option Addr} {n3 c3 n4 c4 : Nat} {B : Option Addr} {n2 c2 i : Nat} {gm gw : Nat} {wo w : World} (hgw : w.heap[gw]? = some (.cells #[.func (Fn.func 80) #[] #[.pointer (some ⟨gm, 0, none⟩), .pointer (some ⟨gw, 0, none⟩)]] 53 (0, 0))) (he : w.heap[E]? = some (.cells #[.int .i64 ke, .string ne, .slice Ae n3 c3, .slice Be n4 c4] 29 (0, 0))) (hc : Calls Tryd.prog 80 #[.agg #[.int .i64 ke, .string ne, .slice Ae n3 c3, .slice Be n4 c4], .pointer (some ⟨gm, 0, none⟩), .pointer (some ⟨gw, 0, none⟩)] w fun e w' => e = .returned (.bool bb) ∧ Below w.heap.size w w') (hN : ∀ a' w', Frm 36 [(1, .pointer (some ⟨gm, 0, none⟩)), (2, .pointer (some ⟨gw, 0, none⟩)), (3, .pointer (some ⟨wo.heap.size, 0, none⟩)), (25, .slice B n2 c2), (26, .int .i64 (n2 : Nat)), (27, .int .i64 (i : Nat)), (34, .bool (!bb))] a' → Below w.heap.size w w' → Q .normal a' w') : ∀ ac, Frm 36 [(1, .pointer (some ⟨gm, 0, none⟩)), (2, .pointer (some ⟨gw, 0, none⟩)), (3, .pointer (some ⟨wo.heap.size, 0, none⟩)), (25, .slice B n2 c2), (26, .int .i64 (n2 : Nat)), (27, .int .i64 (i : Nat)), (8, .pointer (some ⟨E, 0, none⟩))] ac → Code.wp Tryd.prog c_fl_r8 Q ac w := by
  refine frm_open ?_
  refine frame_fl ?_
  intros
  rename_i hq
  obtain ⟨-, -, e0q, e1q, e2q, e3q, e4q, e5q, e6q, -⟩ := hq
  obtain rfl := sI e0q
  obtain rfl := sI e1q
  obtain rfl := sI e2q
  obtain rfl := sI e3q
  obtain rfl := sI e4q
  obtain rfl := sI e5q
  obtain rfl := sI e6q
  conv => arg 2; whnf
  have f0 := cellv hgw 0 rfl
  have fl := lt_heap hgw
  have a0 := cellv he 0 rfl
  have a1 := cellv he 1 rfl
  have a2 := cellv he 2 rfl
  have a3 := cellv he 3 rfl
  have al := lt_heap he
  clear he hgw
  have HN := Lib.hid hN
  have HC := Lib.hid hc
  clear hN hc
  go_wp2_with fail
  (with_reducible refine HC.out.mono ?_)
  rintro e w1 ⟨rfl, hb1⟩
  have HB1 := Lib.hid hb1
  clear hb1
  go_wp2_with fail
  exact HN.out _ _ (id ⟨rfl, rfl, rfl, rfl, rfl, rfl, rfl, rfl, rfl, trivial⟩) HB1.out
noncomputable def c_fl_r9 : Code := sub [1, 1, 0, 1, 0, 0, 1, 1, 0, 0, 1, 1, 0, 0] (Tryd.f80.body.getD .skip)
set_option maxRecDepth 1000000 in
set_option maxHeartbeats 16000000 in
theorem fl_r9_wp {Q : Exit → Act → World → Prop} {gm gw : Nat} {wo w : World} (hN : ∀ a', Frm 36 [(4, .bool false)] a' → Q .normal a' w) : ∀ ac, Frm 36 [(1, .pointer (some ⟨gm, 0, none⟩)), (2, .pointer (some ⟨gw, 0, none⟩)), (3, .pointer (some ⟨wo.heap.size, 0, none⟩))] ac → Code.wp Tryd.prog c_fl_r9 Q ac w := by
  refine frm_open ?_
  refine frame_fl ?_
  intros
  rename_i hq
  obtain ⟨-, -, e0q, e1q, e2q, -⟩ := hq
  obtain rfl := sI e0q
  obtain rfl := sI e1q
  obtain rfl := sI e2q
  conv => arg 2; whnf
  have HN := Lib.hid hN
  clear hN
  go_wp2_with fail
  exact HN.out _ (id ⟨rfl, rfl, rfl, trivial⟩)
noncomputable def c_fl_r10 : Code := sub [1, 1, 0, 1, 0, 0, 1, 1, 1] (Tryd.f80.body.getD .skip)
set_option maxRecDepth 1000000 in
set_option maxHeartbeats 16000000 in
theorem fl_r10_wp {Q : Exit → Act → World → Prop} {B : Option Addr} {n2 c2 i : Nat} {gm gw : Nat} {wo w : World} (hi : i < n2) (hlim : n2 ≤ maxLen) (hN : ∀ a', Frm 36 [(1, .pointer (some ⟨gm, 0, none⟩)), (2, .pointer (some ⟨gw, 0, none⟩)), (3, .pointer (some ⟨wo.heap.size, 0, none⟩)), (25, .slice B n2 c2), (26, .int .i64 (n2 : Nat)), (27, .int .i64 (i + 1 : Nat))] a' → Q .normal a' w) : ∀ ac, Frm 36 [(1, .pointer (some ⟨gm, 0, none⟩)), (2, .pointer (some ⟨gw, 0, none⟩)), (3, .pointer (some ⟨wo.heap.size, 0, none⟩)), (25, .slice B n2 c2), (26, .int .i64 (n2 : Nat)), (27, .int .i64 (i : Nat))] ac → Code.wp Tryd.prog c_fl_r10 Q ac w := by
  refine frm_open ?_
  refine frame_fl ?_
  intros
  rename_i hq
  obtain ⟨-, -, e0q, e1q, e2q, e3q, e4q, e5q, -⟩ := hq
  obtain rfl := sI e0q
  obtain rfl := sI e1q
  obtain rfl := sI e2q
  obtain rfl := sI e3q
  obtain rfl := sI e4q
  obtain rfl := sI e5q
  conv => arg 2; whnf
  have hi4 : (i : Int) ≤ 9223372036854775806 := by unfold maxLen at hlim; omega
  have HN := Lib.hid hN
  clear hN
  go_wp2_with fail
  exact HN.out _ (id ⟨rfl, rfl, rfl, rfl, rfl, rfl, rfl, rfl, trivial⟩)
noncomputable def c_fl_r11 : Code := sub [1, 1, 1, 0] (Tryd.f80.body.getD .skip)
set_option maxRecDepth 1000000 in
set_option maxHeartbeats 16000000 in
theorem fl_r11_wp {Q : Exit → Act → World → Prop} {gm gw : Nat} {wo w : World} (hN : ∀ a', Frm 36 [(4, .bool true)] a' → Q .normal a' w) : ∀ ac, Frm 36 [(1, .pointer (some ⟨gm, 0, none⟩)), (2, .pointer (some ⟨gw, 0, none⟩)), (3, .pointer (some ⟨wo.heap.size, 0, none⟩))] ac → Code.wp Tryd.prog c_fl_r11 Q ac w := by
  refine frm_open ?_
  refine frame_fl ?_
  intros
  rename_i hq
  obtain ⟨-, -, e0q, e1q, e2q, -⟩ := hq
  obtain rfl := sI e0q
  obtain rfl := sI e1q
  obtain rfl := sI e2q
  conv => arg 2; whnf
  have HN := Lib.hid hN
  clear hN
  go_wp2_with fail
  exact HN.out _ (id ⟨rfl, rfl, rfl, trivial⟩)
set_option maxRecDepth 1000000 in
theorem fl_ret_wp {R : Ending → World → Prop} {w' : World} {bb : Bool} (hR : R (.returned (.bool bb)) w') : ∀ ac, Frm 36 [(4, .bool bb)] ac → bodyPost Tryd.prog Tryd.f80 R .ret ac w' := by
  refine frm_open ?_
  refine frame_fl ?_
  intros
  rename_i hq
  obtain ⟨-, -, e0q, -⟩ := hq
  obtain rfl := sI e0q
  refine bodyPost_ret (v := .bool bb) (by simp [results, Tryd.results80, go_sem]) rfl ?_
  exact hR
mutual
/-- Does the model have each relation? -/
def hasT (m : Md) : Tree FmL → Bool
  | .mk a l => (if a.kind = 2 then (relV m a.nm a.ws.length).isSome else true) && hasTs m l
def hasTs (m : Md) : List (Tree FmL) → Bool
  | [] => true
  | t :: l => hasT m t && hasTs m l
end
theorem hasTs_app (m : Md) : ∀ a b : List (Tree FmL), hasTs m (a ++ b) = (hasTs m a && hasTs m b)
  | [], b => by simp [hasTs]
  | x :: a, b => by simp [hasTs, hasTs_app m a b, Bool.and_assoc]
theorem hasTs_take (m : Md) (l : List (Tree FmL)) (j : Nat) (h : j < l.length) : hasTs m (l.take (j + 1)) = (hasTs m (l.take j) && hasT m l[j]) := by
  rw [List.take_succ_eq_append_getElem h, hasTs_app]; simp [hasTs]
theorem hasTs_false (m : Md) (l : List (Tree FmL)) (j : Nat) (h : hasTs m (l.take j) = false) : hasTs m l = false := by
  rw [← List.take_append_drop j l, hasTs_app, h]; rfl
theorem hasT_fm (m : Md) : ∀ v : Fv, v.ok → hasT m v.fm = hasRels m v
  | .tru, _ => by simp [Fv.fm, hasT, hasTs, hasRels]
  | .pred n ws, _ => by simp [Fv.fm, hasT, hasTs, hasRels]
  | .same a b, _ => by simp [Fv.fm, hasT, hasTs, hasRels]
  | .neg f, h => by have := hasT_fm m f h; simp [Fv.fm, hasT, hasTs, hasRels, this]
  | .bin k f g, h => by
    have h1 := hasT_fm m f h.2.1
    have h2 := hasT_fm m g h.2.2
    have hk := h.1
    have : ¬ (k : Int) = 2 := by omega
    simp [Fv.fm, hasT, hasTs, hasRels, this, h1, h2]
  | .qu k x f, h => by
    have h1 := hasT_fm m f h.2.2
    have hk := h.1
    have : ¬ (k : Int) = 2 := by omega
    simp [Fv.fm, hasT, hasTs, hasRels, this, h1]
set_option maxRecDepth 100000 in
set_option maxHeartbeats 4000000 in
/-- truth.Fault's inner function. -/
theorem fault1_any (m : Md) (hg : m.good) {gm gw : Nat} {Am Bm : Option Addr} {cm dm : Nat} : ∀ (N : Nat) (t : Fm) (cs : List Value) (w : World) (S : Nat → Prop), t.nodes ≤ N → fmRep.R w S t cs → (∀ b, S b → b < w.heap.size) → m.In w S [.int .i64 m.sz, .slice Am m.cs.length cm, .slice Bm m.rs.length dm] → w.heap[gm]? = some (.cells #[.int .i64 m.sz, .slice Am m.cs.length cm, .slice Bm m.rs.length dm] 25 (0, 0)) → w.heap[gw]? = some (.cells #[.func (Fn.func 80) #[] #[.pointer (some ⟨gm, 0, none⟩), .pointer (some ⟨gw, 0, none⟩)]] 53 (0, 0)) → Calls Tryd.prog 80 #[.agg cs.toArray, .pointer (some ⟨gm, 0, none⟩), .pointer (some ⟨gw, 0, none⟩)] w fun e w' => e = .returned (.bool (hasT m t)) ∧ Below w.heap.size w w' := by
  intro N
  induction N with
  | zero => intro t; have := t.nodes_pos; intros; omega
  | succ N ih =>
  intro t cs w S hN ht hS hm hgm hgw
  obtain ⟨⟨kd, nm, us⟩, ks⟩ := t
  obtain ⟨u, v9, rfl, hnm, hw, hl⟩ := Fm.open_ ht
  simp only at hw hnm
  obtain ⟨A, n1, c1, rfl, e1, hm1, _⟩ := id hw
  obtain ⟨B, n2, c2, rfl, e2, hm2, _⟩ := id hl
  clear ht
  simp only [Tree.nodes] at hN
  have hgml := lt_heap hgm
  have hgwl := lt_heap hgw
  go_enter Tryd.func80, Tryd.ntmps80
  refine wp_seq ?_
  refine fl_r0_wp (fun a0 h0 => ?_) _ (id ⟨rfl, rfl, rfl, rfl, rfl, trivial⟩)
  refine gen_last (fun wx => wx.heap[w.heap.size]? = some (.cells #[.int .i64 kd, .string nm, .slice A n1 c1, .slice B n2 c2] 29 (0, 0)) ∧ Below w.heap.size w wx) ⟨heap_alloc_new _ _, (Below.refl _ _).alloc (Nat.le_refl _) _⟩ ?_
  rintro wy ⟨hay, hby⟩
  have hbys := hby.size
  have hgm1 := (hby.block _ hgml).trans hgm
  have hgw1 := (hby.block _ hgwl).trans hgw
  refine wp_seq ?_
  refine wp_via (fun ax wx => (if kd = 2 then (relV m nm us.length).isSome else true) = true ∧ wx.heap[w.heap.size]? = some (.cells #[.int .i64 kd, .string nm, .slice A n1 c1, .slice B n2 c2] 29 (0, 0)) ∧ Below w.heap.size w wx ∧ Frm 36 [(1, .pointer (some ⟨gm, 0, none⟩)), (2, .pointer (some ⟨gw, 0, none⟩)), (3, .pointer (some ⟨w.heap.size, 0, none⟩))] ax) ?_ (fun hK => ?_)
  · rintro ax wx ⟨hkq, ha, hb, hx⟩
    have hbs := hb.size
    have hold := fun k hk => hb.block k (hS k hk)
    have hal := lt_heap ha
    have hgm' := (hb.block _ hgml).trans hgm
    have hgw' := (hb.block _ hgwl).trans hgw
    have hhas : hasT m (.mk ⟨kd, nm, us⟩ ks) = hasTs m ks := by
      show ((if kd = 2 then (relV m nm us.length).isSome else true) && hasTs m ks) = _
      rw [hkq, Bool.true_and]
    rw [hhas]
    show Code.wp _ _ _ ax wx
    refine wp_seq ?_
    refine wp_seq ?_
    refine fl_r5_wp ha (fun a2 h2 => ?_) ax hx
    refine wp_block ?_
    refine wp_loopR (fun g a' w' => ∃ j : Nat, j + g = ks.length ∧ hasTs m (ks.take j) = true ∧ Below wx.heap.size wx w' ∧ Frm 36 [(1, .pointer (some ⟨gm, 0, none⟩)), (2, .pointer (some ⟨gw, 0, none⟩)), (3, .pointer (some ⟨w.heap.size, 0, none⟩)), (25, .slice B n2 c2), (26, .int .i64 (n2 : Nat)), (27, .int .i64 (j : Nat))] a') ks.length ⟨0, by omega, by simp [hasTs], Below.refl _ _, h2⟩ ?_
    rintro g a3 w3 ⟨j, hjg, hno, hb3, h3⟩
    have hb3s := hb3.size
    refine wp_seq ?_
    refine fl_r6_wp (fun a4 h4 => ?_) a3 h3
    refine wp_seq ?_
    by_cases hj : j < n2
    case neg =>
      refine wp_cond_false ((h4.eval (k := 28) (v := .bool (decide (j < n2))) (by simp)).trans (by rw [decide_eq_false hj])) ?_
      refine wp_exit ?_
      repeat refine then_exit ?_
      refine inBlock_exit ?_
      show Code.wp _ _ _ a4 w3
      refine wp_seq ?_
      refine fl_r11_wp (fun a5 h5 => ?_) a4 ⟨h4.1, h4.2.1, h4.2.2.1, h4.2.2.2.1, h4.2.2.2.2.1, trivial⟩
      refine wp_ret ?_
      refine fl_ret_wp (bb := true) ⟨?_, hb.trans (hb3.mono hbs)⟩ a5 h5
      rw [List.take_of_length_le (by omega)] at hno
      rw [hno]
    refine wp_cond_true ((h4.eval (k := 28) (v := .bool (decide (j < n2))) (by simp)).trans (by rw [decide_eq_true hj])) ?_
    refine wp_skip ?_
    show Code.wp _ _ _ a4 w3
    have hjl : j < ks.length := by omega
    obtain ⟨b, o, cs, rfl, hSb, hr, hc⟩ := Rep.Sl.at_ hl (List.getElem?_eq_getElem hjl)
    obtain ⟨Ae, n3, c3, Be, n4, c4, rfl, _, _, _, _⟩ := Fm.shape hr
    have hold3 : ∀ k, S k → w3.heap[k]? = w.heap[k]? := fun k hk => (hb3.block k (by have := hS k hk; omega)).trans (hold k hk)
    have hkb := hold3 b hSb
    have e0 : w3.cell? ⟨b, o + j * 4, none⟩ = _ := (cell_keep hkb _).trans (hc 0 _ rfl)
    have e1 : w3.cell? ⟨b, o + j * 4 + 1, none⟩ = _ := (cell_keep hkb _).trans (hc 1 _ rfl)
    have e2 : w3.cell? ⟨b, o + j * 4 + 2, none⟩ = _ := (cell_keep hkb _).trans (hc 2 _ rfl)
    have e3 : w3.cell? ⟨b, o + j * 4 + 3, none⟩ = _ := (cell_keep hkb _).trans (hc 3 _ rfl)
    have hnj := Tree.nodes_at ks j hjl
    have htk := hasTs_take m ks j hjl
    rw [hno, Bool.true_and] at htk
    refine wp_seq ?_
    refine wp_block ?_
    refine wp_seq ?_
    refine fl_r7_wp hj e0 e1 e2 e3 (by have := hS b hSb; omega) (fun a5 w5 h5 he5 hb5 => ?_) a4 ⟨h4.1, h4.2.1, h4.2.2.1, h4.2.2.2.1, h4.2.2.2.2.1, h4.2.2.2.2.2.1, h4.2.2.2.2.2.2.1, h4.2.2.2.2.2.2.2.1, trivial⟩
    have hb35 := hb3.trans (hb5.mono hb3s)
    have hb5s := hb5.size
    have hold5 : ∀ k, S k → w5.heap[k]? = w.heap[k]? := fun k hk => (hb35.block k (by have := hS k hk; omega)).trans (hold k hk)
    have hih := ih ks[j] _ w5 S (by omega) (fmRep.keep hr hold5 (fun _ h => h)) (fun b hb => by have := hS b hb; omega) (hm.keep hold5 (fun _ h => h)) ((hb35.block _ (by omega)).trans hgm') ((hb35.block _ (by omega)).trans hgw')
    refine wp_seq ?_
    refine fl_r8_wp ((hb35.block _ (by omega)).trans hgw') he5 hih (fun a6 w6 h6 hb6 => ?_) a5 h5
    have hb36 := hb35.trans (hb6.mono (by omega))
    cases hx2 : hasT m ks[j]
    · rw [hx2] at h6 htk
      refine wp_cond_true ((h6.eval (k := 34) (v := .bool (!false)) (by simp)).trans (by rw [show (!false) = true from rfl])) ?_
      refine wp_seq ?_
      refine fl_r9_wp (fun a7 h7 => ?_) a6 ⟨h6.1, h6.2.1, h6.2.2.1, h6.2.2.2.1, h6.2.2.2.2.1, trivial⟩
      refine wp_ret ?_
      repeat (first | refine thenR ?_ | refine inBlockR ?_)
      refine fl_ret_wp (bb := false) ⟨?_, hb.trans (hb36.mono hbs)⟩ a7 h7
      rw [hasTs_false m ks _ htk]
    · rw [hx2] at h6 htk
      refine wp_cond_false ((h6.eval (k := 34) (v := .bool (!true)) (by simp)).trans (by rw [show (!true) = false from rfl])) ?_
      refine wp_skip ?_
      show Code.wp _ _ _ a6 w6
      refine fl_r10_wp hj (by omega) (fun a7 h7 => ?_) a6 ⟨h6.1, h6.2.1, h6.2.2.1, h6.2.2.2.1, h6.2.2.2.2.1, h6.2.2.2.2.2.1, h6.2.2.2.2.2.2.1, h6.2.2.2.2.2.2.2.1, trivial⟩
      exact ⟨g - 1, by omega, j + 1, by omega, htk, hb36, h7⟩
  · refine wp_seq ?_
    refine fl_r1_wp hay (fun a1 h1 => ?_) a0 h0
    by_cases hk2 : kd = 2
    · refine wp_cond_true ((h1.eval (k := 11) (v := .bool (decide (kd = 2))) (by simp)).trans (by rw [decide_eq_true hk2])) ?_
      refine wp_seq ?_
      refine fl_r2_wp hay hgm1 ((find_any m nm hnm n1 _ wy S (hm.keep (fun k hk => hby.block k (hS k hk)) (fun _ h => h)) (fun k hk => by have := hS k hk; omega) hg).mono (fun e w' h => ⟨by obtain ⟨⟨p, y, D9, a9, b9, he, _⟩, _⟩ := h; exact ⟨p, y, D9, a9, b9, he⟩, h.2⟩)) (fun a2 w2 h2 hb2 => ?_) a1 ⟨h1.1, h1.2.1, h1.2.2.1, h1.2.2.2.1, h1.2.2.2.2.1, trivial⟩
      refine wp_seq ?_
      refine fl_r3_wp (fun a3 h3 => ?_) a2 h2
      have hnl : n1 = us.length := by omega
      cases hf : (relV m nm n1).isSome
      · rw [hf] at h3
        refine wp_cond_true ((h3.eval (k := 23) (v := .bool (!false)) (by simp)).trans (by rw [show (!false) = true from rfl])) ?_
        refine wp_seq ?_
        refine fl_r4_wp (fun a7 h7 => ?_) a3 ⟨h3.1, h3.2.1, h3.2.2.1, h3.2.2.2.1, h3.2.2.2.2.1, trivial⟩
        refine wp_ret ?_
        repeat (first | refine thenR ?_ | refine inBlockR ?_)
        refine fl_ret_wp (bb := false) ⟨?_, hby.trans (hb2.mono hbys)⟩ a7 h7
        rw [hnl] at hf
        simp [hasT, hk2, hf]
      · rw [hf] at h3
        refine wp_cond_false ((h3.eval (k := 23) (v := .bool (!true)) (by simp)).trans (by rw [show (!true) = false from rfl])) ?_
        refine wp_skip ?_
        rw [hnl] at hf
        exact hK _ _ ⟨by rw [if_pos hk2, hf], (hb2.block _ (lt_heap hay)).trans hay, hby.trans (hb2.mono hbys), ⟨h3.1, h3.2.1, h3.2.2.1, h3.2.2.2.1, h3.2.2.2.2.1, trivial⟩⟩
    · refine wp_cond_false ((h1.eval (k := 11) (v := .bool (decide (kd = 2))) (by simp)).trans (by rw [decide_eq_false hk2])) ?_
      refine wp_skip ?_
      exact hK _ _ ⟨by rw [if_neg hk2], hay, hby, ⟨h1.1, h1.2.1, h1.2.2.1, h1.2.2.2.1, h1.2.2.2.2.1, trivial⟩⟩

end Go.Proofs.YtflcbbikfdahhaaDoor
