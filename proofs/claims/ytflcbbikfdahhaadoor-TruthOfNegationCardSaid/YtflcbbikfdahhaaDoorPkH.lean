/-
  truth.Holds: by parts, joined.
-/
import Derived.Test.YtflcbbikfdahhaaDoorPkL
import Derived.Test.YtflcbbikfdahhaaDoorVlB
import Derived.Test.YtflcbbikfdahhaaDoorVlP
import Derived.Test.YtflcbbikfdahhaaDoorThens
import Derived.Test.YtflcbbikfdahhaaDoorCkC
import Derived.Test.YtflcbbikfdahhaaDoorMdVal
import Derived.Test.YtflcbbikfdahhaaDoorKeeps
import Derived.Deep.RegionHeld3
namespace Go.Proofs.YtflcbbikfdahhaaDoor

section
open Go Go.RowKit
set_option linter.unusedSimpArgs false
set_option linter.unusedVariables false

set_option maxRecDepth 1000000 in
theorem frame_ft {P : Act → Prop} (h : ∀ x0 x1 x2 x3 x4 x5 x6 x7 x8 x9 x10 x11 x12 x13 x14 x15 x16 x17 x18 x19 x20 x21 x22 x23 x24 x25 x26 x27 x28 x29 x30 x31 x32 x33 x34 x35 x36 x37 : Value, P ⟨(x0 :: x1 :: x2 :: x3 :: x4 :: x5 :: x6 :: x7 :: x8 :: x9 :: x10 :: x11 :: x12 :: x13 :: x14 :: x15 :: x16 :: x17 :: x18 :: x19 :: x20 :: x21 :: x22 :: x23 :: x24 :: x25 :: x26 :: x27 :: x28 :: x29 :: x30 :: x31 :: x32 :: x33 :: x34 :: x35 :: x36 :: x37 :: []).toArray, []⟩) : ∀ a : Act, a.tmps.toList.length = 38 → a.defers = [] → P a := by
  rintro ⟨⟨l⟩, d⟩ hs hd
  simp only at hd
  subst hd
  revert l
  show ∀ l : List Value, l.length = 38 → P ⟨⟨l⟩, []⟩
  refine openS (n := 37) (fun x0 => ?_)
  refine openS (n := 36) (fun x1 => ?_)
  refine openS (n := 35) (fun x2 => ?_)
  refine openS (n := 34) (fun x3 => ?_)
  refine openS (n := 33) (fun x4 => ?_)
  refine openS (n := 32) (fun x5 => ?_)
  refine openS (n := 31) (fun x6 => ?_)
  refine openS (n := 30) (fun x7 => ?_)
  refine openS (n := 29) (fun x8 => ?_)
  refine openS (n := 28) (fun x9 => ?_)
  refine openS (n := 27) (fun x10 => ?_)
  refine openS (n := 26) (fun x11 => ?_)
  refine openS (n := 25) (fun x12 => ?_)
  refine openS (n := 24) (fun x13 => ?_)
  refine openS (n := 23) (fun x14 => ?_)
  refine openS (n := 22) (fun x15 => ?_)
  refine openS (n := 21) (fun x16 => ?_)
  refine openS (n := 20) (fun x17 => ?_)
  refine openS (n := 19) (fun x18 => ?_)
  refine openS (n := 18) (fun x19 => ?_)
  refine openS (n := 17) (fun x20 => ?_)
  refine openS (n := 16) (fun x21 => ?_)
  refine openS (n := 15) (fun x22 => ?_)
  refine openS (n := 14) (fun x23 => ?_)
  refine openS (n := 13) (fun x24 => ?_)
  refine openS (n := 12) (fun x25 => ?_)
  refine openS (n := 11) (fun x26 => ?_)
  refine openS (n := 10) (fun x27 => ?_)
  refine openS (n := 9) (fun x28 => ?_)
  refine openS (n := 8) (fun x29 => ?_)
  refine openS (n := 7) (fun x30 => ?_)
  refine openS (n := 6) (fun x31 => ?_)
  refine openS (n := 5) (fun x32 => ?_)
  refine openS (n := 4) (fun x33 => ?_)
  refine openS (n := 3) (fun x34 => ?_)
  refine openS (n := 2) (fun x35 => ?_)
  refine openS (n := 1) (fun x36 => ?_)
  refine openS (n := 0) (fun x37 => ?_)
  refine open0 ?_
  exact h x0 x1 x2 x3 x4 x5 x6 x7 x8 x9 x10 x11 x12 x13 x14 x15 x16 x17 x18 x19 x20 x21 x22 x23 x24 x25 x26 x27 x28 x29 x30 x31 x32 x33 x34 x35 x36 x37
noncomputable def c_ft_r0 : Code := sub [0] (Tryd.f47.body.getD .skip)
set_option maxRecDepth 1000000 in
set_option maxHeartbeats 16000000 in
theorem ft_r0_wp {Q : Exit → Act → World → Prop} {z : Int} {Am Bm : Option Addr} {nm1 cm nm2 dm : Nat} {wo : World} {kd : Int} {nm : ByteArray} {A B : Option Addr} {n1 c1 n2 c2 : Nat} (hN : ∀ a', Frm 38 [(2, .pointer (some ⟨wo.heap.size, 0, none⟩)), (3, .pointer (some ⟨(wo.heap.size + 1), 0, none⟩)), (4, .pointer (some ⟨(wo.heap.size + 1 + 1), 0, none⟩))] a' → Q .normal a' (((wo.alloc (.cells #[.int .i64 z, .slice Am nm1 cm, .slice Bm nm2 dm] 25)).alloc (.cells #[.int .i64 kd, .string nm, .slice A n1 c1, .slice B n2 c2] 29)).alloc (.cells #[.int .i64 0, .int .i64 0] 31))) : ∀ ac, Frm 38 [(0, .agg #[.int .i64 z, .slice Am nm1 cm, .slice Bm nm2 dm]), (1, .agg #[.int .i64 kd, .string nm, .slice A n1 c1, .slice B n2 c2])] ac → Code.wp Tryd.prog c_ft_r0 Q ac wo := by
  refine frm_open ?_
  refine frame_ft ?_
  intros
  rename_i hq
  obtain ⟨-, -, e0q, e1q, -⟩ := hq
  obtain rfl := sI e0q
  obtain rfl := sI e1q
  conv => arg 2; whnf
  have HN := Lib.hid hN
  clear hN
  go_wp2_with fail
  exact HN.out _ (id ⟨rfl, rfl, rfl, rfl, rfl, trivial⟩)
noncomputable def c_ft_r1 : Code := sub [1, 0, 0] (Tryd.f47.body.getD .skip)
set_option maxRecDepth 1000000 in
set_option maxHeartbeats 16000000 in
theorem ft_r1_wp {Q : Exit → Act → World → Prop} {k : Nat} {wo w : World} {kd : Int} {nm : ByteArray} {A B : Option Addr} {n1 c1 n2 c2 : Nat} (ha : w.heap[wo.heap.size + 1]? = some (.cells #[.int .i64 kd, .string nm, .slice A n1 c1, .slice B n2 c2] 29 (0, 0))) (hc : Calls Tryd.prog 77 #[.agg #[.int .i64 kd, .string nm, .slice A n1 c1, .slice B n2 c2]] w fun e w' => e = .returned (.int .i64 (k : Nat)) ∧ Below w.heap.size w w') (hN : ∀ a' w', Frm 38 [(2, .pointer (some ⟨wo.heap.size, 0, none⟩)), (3, .pointer (some ⟨(wo.heap.size + 1), 0, none⟩)), (4, .pointer (some ⟨(wo.heap.size + 1 + 1), 0, none⟩)), (12, .bool (decide (5 < k)))] a' → Below w.heap.size w w' → Q .normal a' w') : ∀ ac, Frm 38 [(2, .pointer (some ⟨wo.heap.size, 0, none⟩)), (3, .pointer (some ⟨(wo.heap.size + 1), 0, none⟩)), (4, .pointer (some ⟨(wo.heap.size + 1 + 1), 0, none⟩))] ac → Code.wp Tryd.prog c_ft_r1 Q ac w := by
  refine frm_open ?_
  refine frame_ft ?_
  intros
  rename_i hq
  obtain ⟨-, -, e0q, e1q, e2q, -⟩ := hq
  obtain rfl := sI e0q
  obtain rfl := sI e1q
  obtain rfl := sI e2q
  conv => arg 2; whnf
  have a0 := cellv ha 0 rfl
  have a1 := cellv ha 1 rfl
  have a2 := cellv ha 2 rfl
  have a3 := cellv ha 3 rfl
  have al := lt_heap ha
  clear ha
  by_cases h : 5 < k
  · have t1 : decide ((5 : Int) < (k : Int)) = true := decide_eq_true (by omega)
    rw [show decide (5 < k) = true from decide_eq_true h] at hN
    clear h
    have HN := Lib.hid hN
    have HC := Lib.hid hc
    clear hN hc
    go_wp2_with fail
    (with_reducible refine HC.out.mono ?_)
    rintro e w1 ⟨rfl, hb1⟩
    have HB1 := Lib.hid hb1
    clear hb1
    go_wp2_with fail
    exact HN.out _ _ (id ⟨rfl, rfl, rfl, rfl, rfl, rfl, trivial⟩) HB1.out
  · have t1 : decide ((5 : Int) < (k : Int)) = false := decide_eq_false (by omega)
    rw [show decide (5 < k) = false from decide_eq_false h] at hN
    clear h
    have HN := Lib.hid hN
    have HC := Lib.hid hc
    clear hN hc
    go_wp2_with fail
    (with_reducible refine HC.out.mono ?_)
    rintro e w1 ⟨rfl, hb1⟩
    have HB1 := Lib.hid hb1
    clear hb1
    go_wp2_with fail
    exact HN.out _ _ (id ⟨rfl, rfl, rfl, rfl, rfl, rfl, trivial⟩) HB1.out
noncomputable def c_ft_r2 : Code := sub [1, 0, 1, 0, 0] (Tryd.f47.body.getD .skip)
set_option maxRecDepth 1000000 in
set_option maxHeartbeats 16000000 in
theorem ft_r2_wp {Q : Exit → Act → World → Prop} {wo w : World} (hz : w.heap[wo.heap.size + 1 + 1]? = some (.cells #[.int .i64 0, .int .i64 0] 31 (0, 0))) (hN : ∀ a' w', Frm 38 [(4, .pointer (some ⟨(wo.heap.size + 1 + 1), 0, none⟩))] a' → w'.heap[wo.heap.size + 1 + 1]? = some (.cells #[.int .i64 17, .int .i64 (-2)] 31 (0, 0)) → Below wo.heap.size w w' → Q .normal a' w') : ∀ ac, Frm 38 [(2, .pointer (some ⟨wo.heap.size, 0, none⟩)), (3, .pointer (some ⟨(wo.heap.size + 1), 0, none⟩)), (4, .pointer (some ⟨(wo.heap.size + 1 + 1), 0, none⟩))] ac → Code.wp Tryd.prog c_ft_r2 Q ac w := by
  refine frm_open ?_
  refine frame_ft ?_
  intros
  rename_i hq
  obtain ⟨-, -, e0q, e1q, e2q, -⟩ := hq
  obtain rfl := sI e0q
  obtain rfl := sI e1q
  obtain rfl := sI e2q
  conv => arg 2; whnf
  have z0 := cellv hz 0 rfl
  have z1 := cellv hz 1 rfl
  have zf0 := free_heap hz 0
  have zf1 := free_heap hz 1
  have zl := lt_heap hz
  have HZ := Lib.hid hz
  clear hz
  have HN := Lib.hid hN
  clear hN
  go_wp2_with fail
  exact HN.out _ _ (id ⟨rfl, rfl, rfl, trivial⟩) (at2 HZ.out) (((Below.refl _ w).setCell (show wo.heap.size ≤ wo.heap.size + 1 + 1 by omega) _).setCell (show wo.heap.size ≤ wo.heap.size + 1 + 1 by omega) _)
noncomputable def c_ft_r3 : Code := sub [1, 1, 0, 0] (Tryd.f47.body.getD .skip)
set_option maxRecDepth 1000000 in
set_option maxHeartbeats 16000000 in
theorem ft_r3_wp {Q : Exit → Act → World → Prop} {PP : Option Addr → Nat → Nat → World → Prop} {wo w : World} {kd : Int} {nm : ByteArray} {A B : Option Addr} {n1 c1 n2 c2 : Nat} (ha : w.heap[wo.heap.size + 1]? = some (.cells #[.int .i64 kd, .string nm, .slice A n1 c1, .slice B n2 c2] 29 (0, 0))) (hc : Calls Tryd.prog 78 #[.agg #[.int .i64 kd, .string nm, .slice A n1 c1, .slice B n2 c2]] w fun e w' => ∃ Dc mc ec, e = .returned (.slice Dc mc ec) ∧ PP Dc mc ec w') (hN : ∀ Dc mc ec a' w', Frm 38 [(2, .pointer (some ⟨wo.heap.size, 0, none⟩)), (3, .pointer (some ⟨(wo.heap.size + 1), 0, none⟩)), (4, .pointer (some ⟨(wo.heap.size + 1 + 1), 0, none⟩)), (15, .slice Dc mc ec), (16, .int .i64 (mc : Nat)), (17, .int .i64 (0 : Nat))] a' → PP Dc mc ec w' → Q .normal a' w') : ∀ ac, Frm 38 [(2, .pointer (some ⟨wo.heap.size, 0, none⟩)), (3, .pointer (some ⟨(wo.heap.size + 1), 0, none⟩)), (4, .pointer (some ⟨(wo.heap.size + 1 + 1), 0, none⟩))] ac → Code.wp Tryd.prog c_ft_r3 Q ac w := by
  refine frm_open ?_
  refine frame_ft ?_
  intros
  rename_i hq
  obtain ⟨-, -, e0q, e1q, e2q, -⟩ := hq
  obtain rfl := sI e0q
  obtain rfl := sI e1q
  obtain rfl := sI e2q
  conv => arg 2; whnf
  have a0 := cellv ha 0 rfl
  have a1 := cellv ha 1 rfl
  have a2 := cellv ha 2 rfl
  have a3 := cellv ha 3 rfl
  have al := lt_heap ha
  clear ha
  have HN := Lib.hid hN
  have HC := Lib.hid hc
  clear hN hc
  go_wp2_with fail
  (with_reducible refine HC.out.mono ?_)
  rintro e w1 ⟨Dc, mc, ec, rfl, hb1⟩
  have HB1 := Lib.hid hb1
  clear hb1
  go_wp2_with fail
  exact HN.out _ _ _ _ _ (id ⟨rfl, rfl, rfl, rfl, rfl, rfl, rfl, rfl, trivial⟩) HB1.out
noncomputable def c_ft_r4 : Code := sub [1, 1, 0, 1, 0, 0, 0] (Tryd.f47.body.getD .skip)
set_option maxRecDepth 1000000 in
set_option maxHeartbeats 16000000 in
theorem ft_r4_wp {Q : Exit → Act → World → Prop} {Dc : Option Addr} {mc ec i : Nat} {wo w : World} (hN : ∀ a', Frm 38 [(2, .pointer (some ⟨wo.heap.size, 0, none⟩)), (3, .pointer (some ⟨(wo.heap.size + 1), 0, none⟩)), (4, .pointer (some ⟨(wo.heap.size + 1 + 1), 0, none⟩)), (15, .slice Dc mc ec), (16, .int .i64 (mc : Nat)), (17, .int .i64 (i : Nat)), (18, .bool (decide (i < mc)))] a' → Q .normal a' w) : ∀ ac, Frm 38 [(2, .pointer (some ⟨wo.heap.size, 0, none⟩)), (3, .pointer (some ⟨(wo.heap.size + 1), 0, none⟩)), (4, .pointer (some ⟨(wo.heap.size + 1 + 1), 0, none⟩)), (15, .slice Dc mc ec), (16, .int .i64 (mc : Nat)), (17, .int .i64 (i : Nat))] ac → Code.wp Tryd.prog c_ft_r4 Q ac w := by
  refine frm_open ?_
  refine frame_ft ?_
  intros
  rename_i hq
  obtain ⟨-, -, e0q, e1q, e2q, e3q, e4q, e5q, -⟩ := hq
  obtain rfl := sI e0q
  obtain rfl := sI e1q
  obtain rfl := sI e2q
  obtain rfl := sI e3q
  obtain rfl := sI e4q
  obtain rfl := sI e5q
  conv => arg 2; whnf
  by_cases h : i < mc
  · have t1 : decide ((i : Int) < (mc : Int)) = true := by first | exact decide_eq_true (by omega) | exact beq_iff_eq.2 (by omega) | exact bne_iff_ne.2 (by omega)
    have t2 : (decide (i < mc)) = true := decide_eq_true h
    rw [t2] at hN
    clear h
    have HN := Lib.hid hN
    clear hN
    go_wp2_with fail
    exact HN.out _ (id ⟨rfl, rfl, rfl, rfl, rfl, rfl, rfl, rfl, rfl, trivial⟩)
  · have t1 : decide ((i : Int) < (mc : Int)) = false := by first | exact decide_eq_false (by omega) | exact beq_eq_false_iff_ne.2 (by omega) | exact bne_eq_false_iff_eq.2 (by omega)
    have t2 : (decide (i < mc)) = false := decide_eq_false h
    rw [t2] at hN
    clear h
    have HN := Lib.hid hN
    clear hN
    go_wp2_with fail
    exact HN.out _ (id ⟨rfl, rfl, rfl, rfl, rfl, rfl, rfl, rfl, rfl, trivial⟩)
noncomputable def c_ft_r5 : Code := sub [1, 1, 0, 1, 0, 0, 1, 1, 0, 0, 0] (Tryd.f47.body.getD .skip)
set_option maxRecDepth 1000000 in
set_option maxHeartbeats 16000000 in
theorem ft_r5_wp {Q : Exit → Act → World → Prop} {b o : Nat} {s : ByteArray} {mc ec i : Nat} {wo w : World} (hi : i < mc) (hc : w.cell? ⟨b, o + i, none⟩ = some (.string s)) (hbl : b < w.heap.size) (hN : ∀ a', Frm 38 [(2, .pointer (some ⟨wo.heap.size, 0, none⟩)), (3, .pointer (some ⟨(wo.heap.size + 1), 0, none⟩)), (4, .pointer (some ⟨(wo.heap.size + 1 + 1), 0, none⟩)), (15, .slice (some ⟨b, o, none⟩) mc ec), (16, .int .i64 (mc : Nat)), (17, .int .i64 (i : Nat)), (6, .string s)] a' → Q .normal a' w) : ∀ ac, Frm 38 [(2, .pointer (some ⟨wo.heap.size, 0, none⟩)), (3, .pointer (some ⟨(wo.heap.size + 1), 0, none⟩)), (4, .pointer (some ⟨(wo.heap.size + 1 + 1), 0, none⟩)), (15, .slice (some ⟨b, o, none⟩) mc ec), (16, .int .i64 (mc : Nat)), (17, .int .i64 (i : Nat))] ac → Code.wp Tryd.prog c_ft_r5 Q ac w := by
  refine frm_open ?_
  refine frame_ft ?_
  intros
  rename_i hq
  obtain ⟨-, -, e0q, e1q, e2q, e3q, e4q, e5q, -⟩ := hq
  obtain rfl := sI e0q
  obtain rfl := sI e1q
  obtain rfl := sI e2q
  obtain rfl := sI e3q
  obtain rfl := sI e4q
  obtain rfl := sI e5q
  conv => arg 2; whnf
  have q0 : (0 : Int) ≤ (i : Int) := by omega
  have q1 : (i : Int) < (mc : Int) := by omega
  have HN := Lib.hid hN
  clear hN
  go_wp2_with fail
  exact HN.out _ (id ⟨rfl, rfl, rfl, rfl, rfl, rfl, rfl, rfl, rfl, trivial⟩)
noncomputable def c_ft_r6 : Code := sub [1, 1, 0, 1, 0, 0, 1, 1, 0, 0, 1, 0] (Tryd.f47.body.getD .skip)
set_option maxRecDepth 1000000 in
set_option maxHeartbeats 16000000 in
theorem ft_r6_wp {Q : Exit → Act → World → Prop} {bb : Bool} {v : Int} {s : ByteArray} {z : Int} {Am Bm : Option Addr} {nm1 cm nm2 dm : Nat} {Dc : Option Addr} {mc ec i : Nat} {wo w : World} (hgm : w.heap[wo.heap.size]? = some (.cells #[.int .i64 z, .slice Am nm1 cm, .slice Bm nm2 dm] 25 (0, 0))) (hc : Calls Tryd.prog 79 #[.agg #[.int .i64 z, .slice Am nm1 cm, .slice Bm nm2 dm], .string s] w fun e w' => e = .returned (.tuple #[.int .i64 v, .bool bb]) ∧ Below w.heap.size w w') (hN : ∀ a' w', Frm 38 [(2, .pointer (some ⟨wo.heap.size, 0, none⟩)), (3, .pointer (some ⟨(wo.heap.size + 1), 0, none⟩)), (4, .pointer (some ⟨(wo.heap.size + 1 + 1), 0, none⟩)), (15, .slice Dc mc ec), (16, .int .i64 (mc : Nat)), (17, .int .i64 (i : Nat)), (8, .bool bb)] a' → Below w.heap.size w w' → Q .normal a' w') : ∀ ac, Frm 38 [(2, .pointer (some ⟨wo.heap.size, 0, none⟩)), (3, .pointer (some ⟨(wo.heap.size + 1), 0, none⟩)), (4, .pointer (some ⟨(wo.heap.size + 1 + 1), 0, none⟩)), (15, .slice Dc mc ec), (16, .int .i64 (mc : Nat)), (17, .int .i64 (i : Nat)), (6, .string s)] ac → Code.wp Tryd.prog c_ft_r6 Q ac w := by
  refine frm_open ?_
  refine frame_ft ?_
  intros
  rename_i hq
  obtain ⟨-, -, e0q, e1q, e2q, e3q, e4q, e5q, e6q, -⟩ := hq
  obtain rfl := sI e0q
  obtain rfl := sI e1q
  obtain rfl := sI e2q
  obtain rfl := sI e3q
  obtain rfl := sI e4q
  obtain rfl := sI e5q
  obtain rfl := sI e6q
  conv => arg 2; whnf
  have m0 := cellv hgm 0 rfl
  have m1 := cellv hgm 1 rfl
  have m2 := cellv hgm 2 rfl
  have ml := lt_heap hgm
  clear hgm
  have HN := Lib.hid hN
  have HC := Lib.hid hc
  clear hN hc
  go_wp2_with fail
  (with_reducible refine HC.out.mono ?_)
  rintro e w1 ⟨rfl, hb1⟩
  have HB1 := Lib.hid hb1
  clear hb1
  go_wp2_with fail
  exact HN.out _ _ (id ⟨rfl, rfl, rfl, rfl, rfl, rfl, rfl, rfl, rfl, trivial⟩) HB1.out
noncomputable def c_ft_r7 : Code := sub [1, 1, 0, 1, 0, 0, 1, 1, 0, 0, 1, 1, 0] (Tryd.f47.body.getD .skip)
set_option maxRecDepth 1000000 in
set_option maxHeartbeats 16000000 in
theorem ft_r7_wp {Q : Exit → Act → World → Prop} {bb : Bool} {Dc : Option Addr} {mc ec i : Nat} {wo w : World} (hN : ∀ a', Frm 38 [(2, .pointer (some ⟨wo.heap.size, 0, none⟩)), (3, .pointer (some ⟨(wo.heap.size + 1), 0, none⟩)), (4, .pointer (some ⟨(wo.heap.size + 1 + 1), 0, none⟩)), (15, .slice Dc mc ec), (16, .int .i64 (mc : Nat)), (17, .int .i64 (i : Nat)), (28, .bool (!bb))] a' → Q .normal a' w) : ∀ ac, Frm 38 [(2, .pointer (some ⟨wo.heap.size, 0, none⟩)), (3, .pointer (some ⟨(wo.heap.size + 1), 0, none⟩)), (4, .pointer (some ⟨(wo.heap.size + 1 + 1), 0, none⟩)), (15, .slice Dc mc ec), (16, .int .i64 (mc : Nat)), (17, .int .i64 (i : Nat)), (8, .bool bb)] ac → Code.wp Tryd.prog c_ft_r7 Q ac w := by
  refine frm_open ?_
  refine frame_ft ?_
  intros
  rename_i hq
  obtain ⟨-, -, e0q, e1q, e2q, e3q, e4q, e5q, e6q, -⟩ := hq
  obtain rfl := sI e0q
  obtain rfl := sI e1q
  obtain rfl := sI e2q
  obtain rfl := sI e3q
  obtain rfl := sI e4q
  obtain rfl := sI e5q
  obtain rfl := sI e6q
  conv => arg 2; whnf
  have HN := Lib.hid hN
  clear hN
  go_wp2_with fail
  exact HN.out _ (id ⟨rfl, rfl, rfl, rfl, rfl, rfl, rfl, rfl, rfl, trivial⟩)
noncomputable def c_ft_r8 : Code := sub [1, 1, 0, 1, 0, 0, 1, 1, 0, 0, 1, 1, 1, 0, 0] (Tryd.f47.body.getD .skip)
set_option maxRecDepth 1000000 in
set_option maxHeartbeats 16000000 in
theorem ft_r8_wp {Q : Exit → Act → World → Prop} {wo w : World} (hz : w.heap[wo.heap.size + 1 + 1]? = some (.cells #[.int .i64 0, .int .i64 0] 31 (0, 0))) (hN : ∀ a' w', Frm 38 [(4, .pointer (some ⟨(wo.heap.size + 1 + 1), 0, none⟩))] a' → w'.heap[wo.heap.size + 1 + 1]? = some (.cells #[.int .i64 6, .int .i64 (-2)] 31 (0, 0)) → Below wo.heap.size w w' → Q .normal a' w') : ∀ ac, Frm 38 [(2, .pointer (some ⟨wo.heap.size, 0, none⟩)), (3, .pointer (some ⟨(wo.heap.size + 1), 0, none⟩)), (4, .pointer (some ⟨(wo.heap.size + 1 + 1), 0, none⟩))] ac → Code.wp Tryd.prog c_ft_r8 Q ac w := by
  refine frm_open ?_
  refine frame_ft ?_
  intros
  rename_i hq
  obtain ⟨-, -, e0q, e1q, e2q, -⟩ := hq
  obtain rfl := sI e0q
  obtain rfl := sI e1q
  obtain rfl := sI e2q
  conv => arg 2; whnf
  have z0 := cellv hz 0 rfl
  have z1 := cellv hz 1 rfl
  have zf0 := free_heap hz 0
  have zf1 := free_heap hz 1
  have zl := lt_heap hz
  have HZ := Lib.hid hz
  clear hz
  have HN := Lib.hid hN
  clear hN
  go_wp2_with fail
  exact HN.out _ _ (id ⟨rfl, rfl, rfl, trivial⟩) (at2 HZ.out) (((Below.refl _ w).setCell (show wo.heap.size ≤ wo.heap.size + 1 + 1 by omega) _).setCell (show wo.heap.size ≤ wo.heap.size + 1 + 1 by omega) _)
noncomputable def c_ft_r9 : Code := sub [1, 1, 0, 1, 0, 0, 1, 1, 1] (Tryd.f47.body.getD .skip)
set_option maxRecDepth 1000000 in
set_option maxHeartbeats 16000000 in
theorem ft_r9_wp {Q : Exit → Act → World → Prop} {Dc : Option Addr} {mc ec i : Nat} {wo w : World} (hi : i < mc) (hlim : mc ≤ maxLen) (hN : ∀ a', Frm 38 [(2, .pointer (some ⟨wo.heap.size, 0, none⟩)), (3, .pointer (some ⟨(wo.heap.size + 1), 0, none⟩)), (4, .pointer (some ⟨(wo.heap.size + 1 + 1), 0, none⟩)), (15, .slice Dc mc ec), (16, .int .i64 (mc : Nat)), (17, .int .i64 (i + 1 : Nat))] a' → Q .normal a' w) : ∀ ac, Frm 38 [(2, .pointer (some ⟨wo.heap.size, 0, none⟩)), (3, .pointer (some ⟨(wo.heap.size + 1), 0, none⟩)), (4, .pointer (some ⟨(wo.heap.size + 1 + 1), 0, none⟩)), (15, .slice Dc mc ec), (16, .int .i64 (mc : Nat)), (17, .int .i64 (i : Nat))] ac → Code.wp Tryd.prog c_ft_r9 Q ac w := by
  refine frm_open ?_
  refine frame_ft ?_
  intros
  rename_i hq
  obtain ⟨-, -, e0q, e1q, e2q, e3q, e4q, e5q, -⟩ := hq
  obtain rfl := sI e0q
  obtain rfl := sI e1q
  obtain rfl := sI e2q
  obtain rfl := sI e3q
  obtain rfl := sI e4q
  obtain rfl := sI e5q
  conv => arg 2; whnf
  have hi4 : (i : Int) ≤ 9223372036854775806 := by unfold maxLen at hlim; omega
  have HN := Lib.hid hN
  clear hN
  go_wp2_with fail
  exact HN.out _ (id ⟨rfl, rfl, rfl, rfl, rfl, rfl, rfl, rfl, trivial⟩)
noncomputable def c_ft_r10 : Code := sub [1, 1, 1, 0] (Tryd.f47.body.getD .skip)
set_option maxRecDepth 1000000 in
set_option maxHeartbeats 16000000 in
theorem ft_r10_wp {Q : Exit → Act → World → Prop} {wo w : World} (hN : ∀ z a' w', Frm 38 [(2, .pointer (some ⟨wo.heap.size, 0, none⟩)), (3, .pointer (some ⟨(wo.heap.size + 1), 0, none⟩)), (4, .pointer (some ⟨(wo.heap.size + 1 + 1), 0, none⟩)), (9, .pointer (some ⟨w.heap.size, 0, none⟩))] a' → w'.heap[w.heap.size]? = some (.cells #[z] 53 (0, 0)) → Below w.heap.size w w' → Q .normal a' w') : ∀ ac, Frm 38 [(2, .pointer (some ⟨wo.heap.size, 0, none⟩)), (3, .pointer (some ⟨(wo.heap.size + 1), 0, none⟩)), (4, .pointer (some ⟨(wo.heap.size + 1 + 1), 0, none⟩))] ac → Code.wp Tryd.prog c_ft_r10 Q ac w := by
  refine frm_open ?_
  refine frame_ft ?_
  intros
  rename_i hq
  obtain ⟨-, -, e0q, e1q, e2q, -⟩ := hq
  obtain rfl := sI e0q
  obtain rfl := sI e1q
  obtain rfl := sI e2q
  conv => arg 2; whnf
  have HN := Lib.hid hN
  clear hN
  go_wp2_with fail
  exact HN.out _ _ _ (id ⟨rfl, rfl, rfl, rfl, rfl, rfl, trivial⟩) (heap_alloc_new _ _) ((Below.refl _ w).alloc (Nat.le_refl _) _)
noncomputable def c_ft_r11 : Code := sub [1, 1, 1, 1, 0] (Tryd.f47.body.getD .skip)
set_option maxRecDepth 1000000 in
set_option maxHeartbeats 16000000 in
theorem ft_r11_wp {Q : Exit → Act → World → Prop} {gw : Nat} {z : Value} {wo w : World} (hw : w.heap[gw]? = some (.cells #[z] 53 (0, 0))) (hN : ∀ a' w', Frm 38 [(2, .pointer (some ⟨wo.heap.size, 0, none⟩)), (3, .pointer (some ⟨(wo.heap.size + 1), 0, none⟩)), (4, .pointer (some ⟨(wo.heap.size + 1 + 1), 0, none⟩)), (9, .pointer (some ⟨gw, 0, none⟩))] a' → w'.heap[gw]? = some (.cells #[.func (Fn.func 80) #[] #[.pointer (some ⟨wo.heap.size, 0, none⟩), .pointer (some ⟨gw, 0, none⟩)]] 53 (0, 0)) → Keeps (· = gw) w w' → Q .normal a' w') : ∀ ac, Frm 38 [(2, .pointer (some ⟨wo.heap.size, 0, none⟩)), (3, .pointer (some ⟨(wo.heap.size + 1), 0, none⟩)), (4, .pointer (some ⟨(wo.heap.size + 1 + 1), 0, none⟩)), (9, .pointer (some ⟨gw, 0, none⟩))] ac → Code.wp Tryd.prog c_ft_r11 Q ac w := by
  refine frm_open ?_
  refine frame_ft ?_
  intros
  rename_i hq
  obtain ⟨-, -, e0q, e1q, e2q, e3q, -⟩ := hq
  obtain rfl := sI e0q
  obtain rfl := sI e1q
  obtain rfl := sI e2q
  obtain rfl := sI e3q
  conv => arg 2; whnf
  have z0 := cellv hw 0 rfl
  have zf0 := free_heap hw 0
  have zl := lt_heap hw
  have HW := Lib.hid hw
  clear hw
  have HN := Lib.hid hN
  clear hN
  go_wp2_with fail
  exact HN.out _ _ (id ⟨rfl, rfl, rfl, rfl, rfl, rfl, trivial⟩) (heap_set HW.out 0 _) (Keeps.set (P := (· = gw)) (Keeps.refl _ w) (Or.inl rfl) 0 _)
noncomputable def c_ft_r12 : Code := sub [1, 1, 1, 1, 1, 0, 0] (Tryd.f47.body.getD .skip)
set_option maxRecDepth 1000000 in
set_option maxHeartbeats 16000000 in
theorem ft_r12_wp {Q : Exit → Act → World → Prop} {bb : Bool} {gw : Nat} {wo w : World} {kd : Int} {nm : ByteArray} {A B : Option Addr} {n1 c1 n2 c2 : Nat} (ha : w.heap[wo.heap.size + 1]? = some (.cells #[.int .i64 kd, .string nm, .slice A n1 c1, .slice B n2 c2] 29 (0, 0))) (hgw : w.heap[gw]? = some (.cells #[.func (Fn.func 80) #[] #[.pointer (some ⟨wo.heap.size, 0, none⟩), .pointer (some ⟨gw, 0, none⟩)]] 53 (0, 0))) (hc : Calls Tryd.prog 80 #[.agg #[.int .i64 kd, .string nm, .slice A n1 c1, .slice B n2 c2], .pointer (some ⟨wo.heap.size, 0, none⟩), .pointer (some ⟨gw, 0, none⟩)] w fun e w' => e = .returned (.bool bb) ∧ Below w.heap.size w w') (hN : ∀ a' w', Frm 38 [(2, .pointer (some ⟨wo.heap.size, 0, none⟩)), (3, .pointer (some ⟨(wo.heap.size + 1), 0, none⟩)), (4, .pointer (some ⟨(wo.heap.size + 1 + 1), 0, none⟩)), (35, .bool (!bb))] a' → Below w.heap.size w w' → Q .normal a' w') : ∀ ac, Frm 38 [(2, .pointer (some ⟨wo.heap.size, 0, none⟩)), (3, .pointer (some ⟨(wo.heap.size + 1), 0, none⟩)), (4, .pointer (some ⟨(wo.heap.size + 1 + 1), 0, none⟩)), (9, .pointer (some ⟨gw, 0, none⟩))] ac → Code.wp Tryd.prog c_ft_r12 Q ac w := by
  refine frm_open ?_
  refine frame_ft ?_
  intros
  rename_i hq
  obtain ⟨-, -, e0q, e1q, e2q, e3q, -⟩ := hq
  obtain rfl := sI e0q
  obtain rfl := sI e1q
  obtain rfl := sI e2q
  obtain rfl := sI e3q
  conv => arg 2; whnf
  have a0 := cellv ha 0 rfl
  have a1 := cellv ha 1 rfl
  have a2 := cellv ha 2 rfl
  have a3 := cellv ha 3 rfl
  have al := lt_heap ha
  clear ha
  have f0 := cellv hgw 0 rfl
  have fl := lt_heap hgw
  clear hgw
  have HN := Lib.hid hN
  have HC := Lib.hid hc
  clear hN hc
  go_wp2_with fail
  (with_reducible refine HC.out.mono ?_)
  rintro e w1 ⟨rfl, hb1⟩
  have HB1 := Lib.hid hb1
  clear hb1
  go_wp2_with fail
  exact HN.out _ _ (id ⟨rfl, rfl, rfl, rfl, rfl, rfl, trivial⟩) HB1.out
noncomputable def c_ft_r13 : Code := sub [1, 1, 1, 1, 1, 0, 1, 0, 0] (Tryd.f47.body.getD .skip)
set_option maxRecDepth 1000000 in
set_option maxHeartbeats 16000000 in
theorem ft_r13_wp {Q : Exit → Act → World → Prop} {wo w : World} (hz : w.heap[wo.heap.size + 1 + 1]? = some (.cells #[.int .i64 0, .int .i64 0] 31 (0, 0))) (hN : ∀ a' w', Frm 38 [(4, .pointer (some ⟨(wo.heap.size + 1 + 1), 0, none⟩))] a' → w'.heap[wo.heap.size + 1 + 1]? = some (.cells #[.int .i64 6, .int .i64 (-2)] 31 (0, 0)) → Below wo.heap.size w w' → Q .normal a' w') : ∀ ac, Frm 38 [(2, .pointer (some ⟨wo.heap.size, 0, none⟩)), (3, .pointer (some ⟨(wo.heap.size + 1), 0, none⟩)), (4, .pointer (some ⟨(wo.heap.size + 1 + 1), 0, none⟩))] ac → Code.wp Tryd.prog c_ft_r13 Q ac w := by
  refine frm_open ?_
  refine frame_ft ?_
  intros
  rename_i hq
  obtain ⟨-, -, e0q, e1q, e2q, -⟩ := hq
  obtain rfl := sI e0q
  obtain rfl := sI e1q
  obtain rfl := sI e2q
  conv => arg 2; whnf
  have z0 := cellv hz 0 rfl
  have z1 := cellv hz 1 rfl
  have zf0 := free_heap hz 0
  have zf1 := free_heap hz 1
  have zl := lt_heap hz
  have HZ := Lib.hid hz
  clear hz
  have HN := Lib.hid hN
  clear hN
  go_wp2_with fail
  exact HN.out _ _ (id ⟨rfl, rfl, rfl, trivial⟩) (at2 HZ.out) (((Below.refl _ w).setCell (show wo.heap.size ≤ wo.heap.size + 1 + 1 by omega) _).setCell (show wo.heap.size ≤ wo.heap.size + 1 + 1 by omega) _)
noncomputable def c_ft_r14 : Code := sub [1, 1, 1, 1, 1, 1, 0] (Tryd.f47.body.getD .skip)
set_option maxRecDepth 1000000 in
set_option maxHeartbeats 16000000 in
theorem ft_r14_wp {Q : Exit → Act → World → Prop} {wo w : World} (hz : w.heap[wo.heap.size + 1 + 1]? = some (.cells #[.int .i64 0, .int .i64 0] 31 (0, 0))) (hN : ∀ a' w', Frm 38 [(4, .pointer (some ⟨(wo.heap.size + 1 + 1), 0, none⟩))] a' → w'.heap[wo.heap.size + 1 + 1]? = some (.cells #[.int .i64 0, .int .i64 0] 31 (0, 0)) → Below wo.heap.size w w' → Q .normal a' w') : ∀ ac, Frm 38 [(2, .pointer (some ⟨wo.heap.size, 0, none⟩)), (3, .pointer (some ⟨(wo.heap.size + 1), 0, none⟩)), (4, .pointer (some ⟨(wo.heap.size + 1 + 1), 0, none⟩))] ac → Code.wp Tryd.prog c_ft_r14 Q ac w := by
  refine frm_open ?_
  refine frame_ft ?_
  intros
  rename_i hq
  obtain ⟨-, -, e0q, e1q, e2q, -⟩ := hq
  obtain rfl := sI e0q
  obtain rfl := sI e1q
  obtain rfl := sI e2q
  conv => arg 2; whnf
  have z0 := cellv hz 0 rfl
  have z1 := cellv hz 1 rfl
  have zf0 := free_heap hz 0
  have zf1 := free_heap hz 1
  have zl := lt_heap hz
  have HZ := Lib.hid hz
  clear hz
  have HN := Lib.hid hN
  clear hN
  go_wp2_with fail
  exact HN.out _ _ (id ⟨rfl, rfl, rfl, trivial⟩) (at2 HZ.out) (((Below.refl _ w).setCell (show wo.heap.size ≤ wo.heap.size + 1 + 1 by omega) _).setCell (show wo.heap.size ≤ wo.heap.size + 1 + 1 by omega) _)
set_option maxRecDepth 1000000 in
theorem ft_ret_wp {R : Ending → World → Prop} {w' : World} {gz : Nat} {x y : Int} (hz : w'.heap[gz]? = some (.cells #[.int .i64 x, .int .i64 y] 31 (0, 0))) (hR : R (.returned (.agg #[.int .i64 x, .int .i64 y])) w') : ∀ ac, Frm 38 [(4, .pointer (some ⟨gz, 0, none⟩))] ac → bodyPost Tryd.prog Tryd.f47 R .ret ac w' := by
  have z0 := cellv hz 0 rfl
  have z1 := cellv hz 1 rfl
  have zl := lt_heap hz
  refine frm_open ?_
  refine frame_ft ?_
  intros
  rename_i hq
  obtain ⟨-, -, e0q, -⟩ := hq
  obtain rfl := sI e0q
  refine bodyPost_ret (v := .agg #[.int .i64 x, .int .i64 y]) (by simp [results, Tryd.results47, go_sem, z0, z1, zl]) rfl ?_
  exact hR
theorem sl_sizes9 {w : World} {S : Nat → Prop} {v : Value} {l : List ByteArray} (h : strRep.Sl w S v l) : ∀ s ∈ l, s.size ≤ maxLen := by
  intro s hs
  obtain ⟨k, hk, rfl⟩ := List.getElem_of_mem hs
  obtain ⟨A, n, c, rfl, _⟩ := id h
  obtain ⟨b, o, cs, _, _, hr, _⟩ := Rep.Sl.at_ h (List.getElem?_eq_getElem hk)
  exact hr.2
mutual
/-- The words of a formula in memory are no longer than strings are. -/
theorem frees_size9 (S : Nat → Prop) (w : World) : ∀ (t : Tree FmL) (cs : List Value) (bd : List ByteArray), fmRep.R w S t cs → ∀ s ∈ fmFrees bd t, s.size ≤ maxLen
  | .mk a l, cs, bd, h, s, hs => by
    obtain ⟨u, v, rfl, _, h1, h2⟩ := Fm.open_ h
    unfold fmFrees at hs
    rcases List.mem_append.1 hs with hs | hs
    · exact sl_sizes9 h1 s (List.mem_filter.1 hs).1
    · obtain ⟨A, n, c, rfl, hl, _, h3⟩ := h2
      cases l with
      | nil => simp [fmFreess] at hs
      | cons t l =>
        obtain ⟨b, o, xs, _, _, hx, _⟩ := h3 (by rw [← hl]; simp)
        exact freess_size9 S w (t :: l) xs _ hx s hs
theorem freess_size9 (S : Nat → Prop) (w : World) : ∀ (l : List (Tree FmL)) (xs : List Value) (bd : List ByteArray), fmRep.All w S l xs → ∀ s ∈ fmFreess bd l, s.size ≤ maxLen
  | [], _, _, _, s, hs => by simp [fmFreess] at hs
  | t :: l, xs, bd, h, s, hs => by
    obtain ⟨cs, rest, rfl, h1, h2⟩ := h
    unfold fmFreess at hs
    rcases List.mem_append.1 hs with hs | hs
    · exact frees_size9 S w t cs bd h1 s hs
    · exact freess_size9 S w l rest bd h2 s hs
end

/-- What is wrong with a model and a formula together: the code, the place. -/
def pairT (m : Md) (t : Fm) : Int × Int := if 5 < nestT t then (17, -2) else if allC m (fmConsts t) = false then (6, -2) else if hasT m t = false then (6, -2) else (0, 0)
set_option maxRecDepth 100000 in
set_option maxHeartbeats 4000000 in
/-- truth.Fault. -/
theorem fault_any (m : Md) (hg : m.good) (t : Fm) (ms cs : List Value) (w : World) (S : Nat → Prop) (ht : fmRep.R w S t cs) (hS : ∀ b, S b → b < w.heap.size) (hm : m.In w S ms) (hn : t.nodes ≤ 1000000) (hln : (fmFrees [] t).length ≤ 1000000) :
    Calls Tryd.prog 47 #[.agg ms.toArray, .agg cs.toArray] w fun e w' => e = .returned (.agg #[.int .i64 (pairT m t).1, .int .i64 (pairT m t).2]) ∧ Below w.heap.size w w' := by
  obtain ⟨A, n1, c1, B, n2, c2, rfl, _, _, _, _⟩ := Fm.shape ht
  obtain ⟨Am, cm, Bm, dm, rfl, _, _, hcs, _⟩ := Md.shape hm
  obtain ⟨kd, hkd⟩ : ∃ k, t.lab.kind = k := ⟨_, rfl⟩
  obtain ⟨nm, hnm⟩ : ∃ k, t.lab.nm = k := ⟨_, rfl⟩
  rw [hkd, hnm] at ht ⊢
  go_enter Tryd.func47, Tryd.ntmps47
  refine wp_seq ?_
  refine ft_r0_wp (fun a0 h0 => ?_) _ (id ⟨rfl, rfl, rfl, rfl, trivial⟩)
  refine gen_last (fun wx => wx.heap[w.heap.size]? = some (.cells #[.int .i64 m.sz, .slice Am m.cs.length cm, .slice Bm m.rs.length dm] 25 (0, 0)) ∧ wx.heap[w.heap.size + 1]? = some (.cells #[.int .i64 kd, .string nm, .slice A n1 c1, .slice B n2 c2] 29 (0, 0)) ∧ wx.heap[w.heap.size + 1 + 1]? = some (.cells #[.int .i64 0, .int .i64 0] 31 (0, 0)) ∧ Below w.heap.size w wx) ⟨heap_old (by simp; omega) (heap_old (by simp) (heap_alloc_new _ _)), heap_old (by simp) (by simpa using heap_alloc_new (w.alloc (.cells #[.int .i64 m.sz, .slice Am m.cs.length cm, .slice Bm m.rs.length dm] 25)) _), by simpa using heap_alloc_new ((w.alloc (.cells #[.int .i64 m.sz, .slice Am m.cs.length cm, .slice Bm m.rs.length dm] 25)).alloc (.cells #[.int .i64 kd, .string nm, .slice A n1 c1, .slice B n2 c2] 29)) _, (((Below.refl _ _).alloc (Nat.le_refl _) _).alloc (by simp) _).alloc (by simp; omega) _⟩ ?_
  rintro wy ⟨hmy, hay, hzy, hby⟩
  have hbys := hby.size
  have hzl := lt_heap hzy
  have holdy := fun k hk => hby.block k (hS k hk)
  refine wp_seq ?_
  refine wp_seq ?_
  refine ft_r1_wp hay (nest_any 1000000 t [.int .i64 kd, .string nm, .slice A n1 c1, .slice B n2 c2] wy S hn (Nat.le_refl _) (fmRep.keep ht holdy (fun _ h => h)) (fun k hk => by have := hS k hk; omega)) (fun a1 w1 h1 hb1 => ?_) a0 h0
  have hb1s := hb1.size
  by_cases hne : 5 < nestT t
  · refine wp_cond_true ((h1.eval (k := 12) (v := .bool (decide (5 < nestT t))) (by simp)).trans (by rw [decide_eq_true hne])) ?_
    refine wp_seq ?_
    refine ft_r2_wp ((hb1.block _ hzl).trans hzy) (fun a2 w2 h2 hz2 hb2 => ?_) a1 ⟨h1.1, h1.2.1, h1.2.2.1, h1.2.2.2.1, h1.2.2.2.2.1, trivial⟩
    refine wp_ret ?_
    repeat (first | refine thenR ?_ | refine inBlockR ?_)
    refine ft_ret_wp hz2 ⟨?_, ((hby.trans (hb1.mono hbys)).trans hb2)⟩ a2 h2
    rw [show pairT m t = (17, -2) from if_pos hne]
  refine wp_cond_false ((h1.eval (k := 12) (v := .bool (decide (5 < nestT t))) (by simp)).trans (by rw [decide_eq_false hne])) ?_
  refine wp_skip ?_
  show Code.wp _ _ _ a1 w1
  have hold1 : ∀ k, S k → w1.heap[k]? = w.heap[k]? := fun k hk => (hb1.block k (by have := hS k hk; omega)).trans (holdy k hk)
  have hco := (constants_any t [.int .i64 kd, .string nm, .slice A n1 c1, .slice B n2 c2] w1 S (fmRep.keep ht hold1 (fun _ h => h)) (fun k hk => by have := hS k hk; omega) hn hln).mono (R' := fun e w' => ∃ Dc mc ec, e = .returned (.slice Dc mc ec) ∧ (mc = (fmConsts t).length ∧ strRep.Sl w' (fun k => w1.heap.size ≤ k ∧ k < w'.heap.size) (.slice Dc mc ec) (fmConsts t) ∧ Below w1.heap.size w1 w')) (by
    rintro e w' ⟨v, rfl, ho, hb⟩
    have hsl := sl_of_row (S := fun k => w1.heap.size ≤ k ∧ k < w'.heap.size) ho (fun s hs => frees_size9 S w t _ [] ht s (mem_constsB.1 hs)) (by have := consts_len9 t; unfold maxLen; omega) (fun k hk => ⟨own_ge ho k hk, (ho.lt k hk).2⟩)
    obtain ⟨Dc, ec, rfl, _⟩ := hsl.shape
    exact ⟨Dc, _, ec, rfl, rfl, hsl, hb⟩)
  refine wp_seq ?_
  refine wp_seq ?_
  refine ft_r3_wp (PP := fun Dc mc ec w' => mc = (fmConsts t).length ∧ strRep.Sl w' (fun k => w1.heap.size ≤ k ∧ k < w'.heap.size) (.slice Dc mc ec) (fmConsts t) ∧ Below w1.heap.size w1 w') ((hb1.block _ (by omega)).trans hay) hco (fun Dc mc ec a2 w2 h2 hp2 => ?_) a1 ⟨h1.1, h1.2.1, h1.2.2.1, h1.2.2.2.1, h1.2.2.2.2.1, trivial⟩
  obtain ⟨rfl, hrow, hb2⟩ := hp2
  have hpair : pairT m t = if allC m (fmConsts t) = false then (6, -2) else if hasT m t = false then (6, -2) else (0, 0) := if_neg hne
  rw [hpair]
  obtain ⟨L, hL⟩ : ∃ L, fmConsts t = L := ⟨_, rfl⟩
  have hLl : L.length ≤ 1000000 := by have := consts_len9 t; rw [hL] at this; omega
  rw [hL] at h2 hrow ⊢
  have hb2s := hb2.size
  have hbw2 := hb1.trans (hb2.mono hb1s)
  refine wp_block ?_
  refine wp_loopR (fun g a' w' => ∃ i : Nat, i + g = L.length ∧ allC m (L.take i) = true ∧ Below w2.heap.size w2 w' ∧ Frm 38 [(2, .pointer (some ⟨w.heap.size, 0, none⟩)), (3, .pointer (some ⟨(w.heap.size + 1), 0, none⟩)), (4, .pointer (some ⟨(w.heap.size + 1 + 1), 0, none⟩)), (15, .slice Dc L.length ec), (16, .int .i64 (L.length : Nat)), (17, .int .i64 (i : Nat))] a') L.length ⟨0, by omega, rfl, Below.refl _ _, h2⟩ ?_
  rintro g a3 w3 ⟨i, hig, hno, hb3, h3⟩
  have hb3s := hb3.size
  have hbw3 := hbw2.trans (hb3.mono (by omega))
  have hold3 : ∀ k, S k → w3.heap[k]? = w.heap[k]? := fun k hk => (hbw3.block k (by have := hS k hk; omega)).trans (holdy k hk)
  have hS3 : ∀ k, S k → k < w3.heap.size := fun k hk => by have := hS k hk; omega
  refine wp_seq ?_
  refine ft_r4_wp (fun a4 h4 => ?_) a3 h3
  refine wp_seq ?_
  by_cases hi : i < L.length
  case neg =>
    refine wp_cond_false ((h4.eval (k := 18) (v := .bool (decide (i < L.length))) (by simp)).trans (by rw [decide_eq_false hi])) ?_
    refine wp_exit ?_
    repeat refine then_exit ?_
    refine inBlock_exit ?_
    show Code.wp _ _ _ a4 w3
    rw [List.take_of_length_le (by omega)] at hno
    rw [if_neg (by rw [hno]; exact Bool.noConfusion)]
    refine wp_seq ?_
    refine ft_r10_wp (fun z a5 w5 h5 hz5 hb5 => ?_) a4 ⟨h4.1, h4.2.1, h4.2.2.1, h4.2.2.2.1, h4.2.2.2.2.1, trivial⟩
    have hb5s := hb5.size
    refine wp_seq ?_
    refine ft_r11_wp hz5 (fun a6 w6 h6 hw6 hk6 => ?_) a5 h5
    have hk6s := hk6.size
    have hb36 : Below w3.heap.size w3 w6 := hb5.trans (hk6.below (fun k hk => Nat.le_of_eq hk.symm) hb5s)
    have hbw6 := hbw3.trans (hb36.mono (by omega))
    have hold6 : ∀ k, S k → w6.heap[k]? = w.heap[k]? := fun k hk => (hbw6.block k (by have := hS k hk; omega)).trans (holdy k hk)
    have hf1 := fault1_any m hg 1000000 t [.int .i64 kd, .string nm, .slice A n1 c1, .slice B n2 c2] w6 S hn (fmRep.keep ht hold6 (fun _ h => h)) (fun k hk => by have := hS k hk; omega) (hm.keep hold6 (fun _ h => h)) ((hbw6.block _ (by omega)).trans hmy) hw6
    refine wp_seq ?_
    refine wp_seq ?_
    refine ft_r12_wp ((hbw6.block _ (by omega)).trans hay) hw6 hf1 (fun a7 w7 h7 hb7 => ?_) a6 h6
    have hbw7 := hbw6.trans (hb7.mono (by omega))
    cases hf : hasT m t
    · rw [hf] at h7
      refine wp_cond_true ((h7.eval (k := 35) (v := .bool (!false)) (by simp)).trans (by rw [show (!false) = true from rfl])) ?_
      refine wp_seq ?_
      refine ft_r13_wp ((hbw7.block _ hzl).trans hzy) (fun a8 w8 h8 hz8 hb8 => ?_) a7 ⟨h7.1, h7.2.1, h7.2.2.1, h7.2.2.2.1, h7.2.2.2.2.1, trivial⟩
      refine wp_ret ?_
      repeat (first | refine thenR ?_ | refine inBlockR ?_)
      refine ft_ret_wp hz8 ⟨?_, ((hby.trans (hbw7.mono hbys)).trans hb8)⟩ a8 h8
      rw [if_pos rfl]
    · rw [hf] at h7
      refine wp_cond_false ((h7.eval (k := 35) (v := .bool (!true)) (by simp)).trans (by rw [show (!true) = false from rfl])) ?_
      refine wp_skip ?_
      show Code.wp _ _ _ a7 w7
      refine wp_seq ?_
      refine ft_r14_wp ((hbw7.block _ hzl).trans hzy) (fun a8 w8 h8 hz8 hb8 => ?_) a7 ⟨h7.1, h7.2.1, h7.2.2.1, h7.2.2.2.1, h7.2.2.2.2.1, trivial⟩
      refine wp_ret ?_
      repeat (first | refine thenR ?_ | refine inBlockR ?_)
      refine ft_ret_wp hz8 ⟨?_, ((hby.trans (hbw7.mono hbys)).trans hb8)⟩ a8 h8
      rw [if_neg Bool.noConfusion]
  refine wp_cond_true ((h4.eval (k := 18) (v := .bool (decide (i < L.length))) (by simp)).trans (by rw [decide_eq_true hi])) ?_
  refine wp_skip ?_
  show Code.wp _ _ _ a4 w3
  obtain ⟨b, o, cs9, rfl, hSb, hr9, hc9⟩ := Rep.Sl.at_ hrow (List.getElem?_eq_getElem hi)
  have e9 : w3.cell? ⟨b, o + i, none⟩ = some (.string L[i]) := (cell_keep (hb3.block b hSb.2) _).trans (by have := hc9 0 _ (by rw [show cs9 = [.string L[i]] from hr9.1]; rfl); simpa [strRep] using this)
  refine wp_seq ?_
  refine wp_block ?_
  refine wp_seq ?_
  refine ft_r5_wp hi e9 (by omega) (fun a5 h5 => ?_) a4 ⟨h4.1, h4.2.1, h4.2.2.1, h4.2.2.2.1, h4.2.2.2.2.1, h4.2.2.2.2.2.1, h4.2.2.2.2.2.2.1, h4.2.2.2.2.2.2.2.1, trivial⟩
  refine wp_seq ?_
  refine ft_r6_wp ((hbw3.block _ (by omega)).trans hmy) (constant_any m L[i] _ w3 S (hm.keep hold3 (fun _ h => h)) hS3 hg) (fun a6 w6 h6 hb6 => ?_) a5 h5
  have hb36 := hb3.trans (hb6.mono hb3s)
  refine wp_seq ?_
  refine ft_r7_wp (fun a7 h7 => ?_) a6 ⟨h6.1, h6.2.1, h6.2.2.1, h6.2.2.2.1, h6.2.2.2.2.1, h6.2.2.2.2.2.1, h6.2.2.2.2.2.2.1, h6.2.2.2.2.2.2.2.1, h6.2.2.2.2.2.2.2.2.1, trivial⟩
  have htk := allC_take m L i hi
  rw [hno, Bool.true_and] at htk
  cases hf : (conV m L[i]).isSome
  · rw [hf] at h7 htk
    refine wp_cond_true ((h7.eval (k := 28) (v := .bool (!false)) (by simp)).trans (by rw [show (!false) = true from rfl])) ?_
    refine wp_seq ?_
    refine ft_r8_wp (((hbw3.trans (hb6.mono (by omega))).block _ hzl).trans hzy) (fun a8 w8 h8 hz8 hb8 => ?_) a7 ⟨h7.1, h7.2.1, h7.2.2.1, h7.2.2.2.1, h7.2.2.2.2.1, trivial⟩
    refine wp_ret ?_
    repeat (first | refine thenR ?_ | refine inBlockR ?_)
    refine ft_ret_wp hz8 ⟨?_, ((hby.trans ((hbw3.trans (hb6.mono (by omega))).mono hbys)).trans hb8)⟩ a8 h8
    rw [if_pos (allC_false m L _ htk)]
  · rw [hf] at h7 htk
    refine wp_cond_false ((h7.eval (k := 28) (v := .bool (!true)) (by simp)).trans (by rw [show (!true) = false from rfl])) ?_
    refine wp_skip ?_
    show Code.wp _ _ _ a7 w6
    refine ft_r9_wp hi (by unfold maxLen; omega) (fun a9 h9 => ?_) a7 ⟨h7.1, h7.2.1, h7.2.2.1, h7.2.2.2.1, h7.2.2.2.2.1, h7.2.2.2.2.2.1, h7.2.2.2.2.2.2.1, h7.2.2.2.2.2.2.2.1, trivial⟩
    exact ⟨g - 1, by omega, i + 1, by omega, htk, hb36, h9⟩
end

section
open Go Go.RowKit
set_option linter.unusedSimpArgs false
set_option linter.unusedVariables false

set_option maxRecDepth 1000000 in
theorem frame_wv {P : Act → Prop} (h : ∀ x0 x1 x2 x3 x4 x5 x6 x7 x8 x9 x10 x11 x12 x13 x14 x15 x16 x17 x18 x19 x20 x21 x22 x23 x24 x25 x26 x27 x28 x29 x30 x31 x32 x33 : Value, P ⟨(x0 :: x1 :: x2 :: x3 :: x4 :: x5 :: x6 :: x7 :: x8 :: x9 :: x10 :: x11 :: x12 :: x13 :: x14 :: x15 :: x16 :: x17 :: x18 :: x19 :: x20 :: x21 :: x22 :: x23 :: x24 :: x25 :: x26 :: x27 :: x28 :: x29 :: x30 :: x31 :: x32 :: x33 :: []).toArray, []⟩) : ∀ a : Act, a.tmps.toList.length = 34 → a.defers = [] → P a := by
  rintro ⟨⟨l⟩, d⟩ hs hd
  simp only at hd
  subst hd
  revert l
  show ∀ l : List Value, l.length = 34 → P ⟨⟨l⟩, []⟩
  refine openS (n := 33) (fun x0 => ?_)
  refine openS (n := 32) (fun x1 => ?_)
  refine openS (n := 31) (fun x2 => ?_)
  refine openS (n := 30) (fun x3 => ?_)
  refine openS (n := 29) (fun x4 => ?_)
  refine openS (n := 28) (fun x5 => ?_)
  refine openS (n := 27) (fun x6 => ?_)
  refine openS (n := 26) (fun x7 => ?_)
  refine openS (n := 25) (fun x8 => ?_)
  refine openS (n := 24) (fun x9 => ?_)
  refine openS (n := 23) (fun x10 => ?_)
  refine openS (n := 22) (fun x11 => ?_)
  refine openS (n := 21) (fun x12 => ?_)
  refine openS (n := 20) (fun x13 => ?_)
  refine openS (n := 19) (fun x14 => ?_)
  refine openS (n := 18) (fun x15 => ?_)
  refine openS (n := 17) (fun x16 => ?_)
  refine openS (n := 16) (fun x17 => ?_)
  refine openS (n := 15) (fun x18 => ?_)
  refine openS (n := 14) (fun x19 => ?_)
  refine openS (n := 13) (fun x20 => ?_)
  refine openS (n := 12) (fun x21 => ?_)
  refine openS (n := 11) (fun x22 => ?_)
  refine openS (n := 10) (fun x23 => ?_)
  refine openS (n := 9) (fun x24 => ?_)
  refine openS (n := 8) (fun x25 => ?_)
  refine openS (n := 7) (fun x26 => ?_)
  refine openS (n := 6) (fun x27 => ?_)
  refine openS (n := 5) (fun x28 => ?_)
  refine openS (n := 4) (fun x29 => ?_)
  refine openS (n := 3) (fun x30 => ?_)
  refine openS (n := 2) (fun x31 => ?_)
  refine openS (n := 1) (fun x32 => ?_)
  refine openS (n := 0) (fun x33 => ?_)
  refine open0 ?_
  exact h x0 x1 x2 x3 x4 x5 x6 x7 x8 x9 x10 x11 x12 x13 x14 x15 x16 x17 x18 x19 x20 x21 x22 x23 x24 x25 x26 x27 x28 x29 x30 x31 x32 x33
noncomputable def c_wv_r0 : Code := sub [0] (Tryd.f82.body.getD .skip)
set_option maxRecDepth 1000000 in
set_option maxHeartbeats 16000000 in
theorem wv_r0_wp {Q : Exit → Act → World → Prop} {x : ByteArray} {ge gm : Nat} {w : World} (hN : ∀ a', Frm 34 [(0, .string x), (1, .pointer (some ⟨ge, 0, none⟩)), (2, .pointer (some ⟨gm, 0, none⟩))] a' → Q .normal a' w) : ∀ ac, Frm 34 [(0, .string x), (1, .pointer (some ⟨ge, 0, none⟩)), (2, .pointer (some ⟨gm, 0, none⟩))] ac → Code.wp Tryd.prog c_wv_r0 Q ac w := by
  refine frm_open ?_
  refine frame_wv ?_
  intros
  rename_i hq
  obtain ⟨-, -, e0q, e1q, e2q, -⟩ := hq
  obtain rfl := sI e0q
  obtain rfl := sI e1q
  obtain rfl := sI e2q
  conv => arg 2; whnf
  have HN := Lib.hid hN
  clear hN
  go_wp2_with fail
  exact HN.out _ (id ⟨rfl, rfl, rfl, rfl, rfl, trivial⟩)
noncomputable def c_wv_r1 : Code := sub [1, 0, 0] (Tryd.f82.body.getD .skip)
set_option maxRecDepth 1000000 in
set_option maxHeartbeats 16000000 in
theorem wv_r1_wp {Q : Exit → Act → World → Prop} {De : Option Addr} {me ee : Nat} {x : ByteArray} {ge gm : Nat} {w : World} (hme : me ≤ 1000000) (hge : w.heap[ge]? = some (.cells #[.slice De me ee] 71 (0, 0))) (hN : ∀ a', Frm 34 [(0, .string x), (1, .pointer (some ⟨ge, 0, none⟩)), (2, .pointer (some ⟨gm, 0, none⟩)), (5, .int .i64 ((me : Int) - 1))] a' → Q .normal a' w) : ∀ ac, Frm 34 [(0, .string x), (1, .pointer (some ⟨ge, 0, none⟩)), (2, .pointer (some ⟨gm, 0, none⟩))] ac → Code.wp Tryd.prog c_wv_r1 Q ac w := by
  refine frm_open ?_
  refine frame_wv ?_
  intros
  rename_i hq
  obtain ⟨-, -, e0q, e1q, e2q, -⟩ := hq
  obtain rfl := sI e0q
  obtain rfl := sI e1q
  obtain rfl := sI e2q
  conv => arg 2; whnf
  have q1 : (me : Int) ≤ 1000000 := by omega
  have g0 := cellv hge 0 rfl
  have gl := lt_heap hge
  clear hge
  have HN := Lib.hid hN
  clear hN
  go_wp2_with fail
  exact HN.out _ (id ⟨rfl, rfl, rfl, rfl, rfl, rfl, trivial⟩)
noncomputable def c_wv_r2 : Code := sub [1, 0, 1, 0, 0, 0, 0] (Tryd.f82.body.getD .skip)
set_option maxRecDepth 1000000 in
set_option maxHeartbeats 16000000 in
theorem wv_r2_wp {Q : Exit → Act → World → Prop} {z : Int} {x : ByteArray} {ge gm : Nat} {w : World} (hN : ∀ a', Frm 34 [(0, .string x), (1, .pointer (some ⟨ge, 0, none⟩)), (2, .pointer (some ⟨gm, 0, none⟩)), (5, .int .i64 (z)), (12, .bool (decide (0 ≤ z)))] a' → Q .normal a' w) : ∀ ac, Frm 34 [(0, .string x), (1, .pointer (some ⟨ge, 0, none⟩)), (2, .pointer (some ⟨gm, 0, none⟩)), (5, .int .i64 (z))] ac → Code.wp Tryd.prog c_wv_r2 Q ac w := by
  refine frm_open ?_
  refine frame_wv ?_
  intros
  rename_i hq
  obtain ⟨-, -, e0q, e1q, e2q, e3q, -⟩ := hq
  obtain rfl := sI e0q
  obtain rfl := sI e1q
  obtain rfl := sI e2q
  obtain rfl := sI e3q
  conv => arg 2; whnf
  by_cases h : 0 ≤ z
  · have t1 : decide (0 ≤ z) = true := by first | exact decide_eq_true (by omega) | exact beq_iff_eq.2 (by omega) | exact bne_iff_ne.2 (by omega)
    have t2 : (decide (0 ≤ z)) = true := decide_eq_true h
    rw [t2] at hN
    clear h
    have HN := Lib.hid hN
    clear hN
    go_wp2_with fail
    exact HN.out _ (id ⟨rfl, rfl, rfl, rfl, rfl, rfl, rfl, trivial⟩)
  · have t1 : decide (0 ≤ z) = false := by first | exact decide_eq_false (by omega) | exact beq_eq_false_iff_ne.2 (by omega) | exact bne_eq_false_iff_eq.2 (by omega)
    have t2 : (decide (0 ≤ z)) = false := decide_eq_false h
    rw [t2] at hN
    clear h
    have HN := Lib.hid hN
    clear hN
    go_wp2_with fail
    exact HN.out _ (id ⟨rfl, rfl, rfl, rfl, rfl, rfl, rfl, trivial⟩)
noncomputable def c_wv_r4 : Code := sub [1, 0, 1, 0, 0, 1, 0, 0, 0] (Tryd.f82.body.getD .skip)
set_option maxRecDepth 1000000 in
set_option maxHeartbeats 16000000 in
theorem wv_r4_wp {Q : Exit → Act → World → Prop} {k b o me ee : Nat} {y : ByteArray} {x : ByteArray} {ge gm : Nat} {w : World} (hk : k < me) (hge : w.heap[ge]? = some (.cells #[.slice (some ⟨b, o, none⟩) me ee] 71 (0, 0))) (e0 : w.cell? ⟨b, o + k * 2, none⟩ = some (.string y)) (hbl : b < w.heap.size) (hN : ∀ a', Frm 34 [(0, .string x), (1, .pointer (some ⟨ge, 0, none⟩)), (2, .pointer (some ⟨gm, 0, none⟩)), (5, .int .i64 ((k : Nat))), (21, .bool (decide (y = x)))] a' → Q .normal a' w) : ∀ ac, Frm 34 [(0, .string x), (1, .pointer (some ⟨ge, 0, none⟩)), (2, .pointer (some ⟨gm, 0, none⟩)), (5, .int .i64 ((k : Nat)))] ac → Code.wp Tryd.prog c_wv_r4 Q ac w := by
  refine frm_open ?_
  refine frame_wv ?_
  intros
  rename_i hq
  obtain ⟨-, -, e0q, e1q, e2q, e3q, -⟩ := hq
  obtain rfl := sI e0q
  obtain rfl := sI e1q
  obtain rfl := sI e2q
  obtain rfl := sI e3q
  conv => arg 2; whnf
  have q0 : (0 : Int) ≤ (k : Int) := by omega
  have q1 : (k : Int) < (me : Int) := by omega
  have g0 := cellv hge 0 rfl
  have gl := lt_heap hge
  clear hge
  by_cases hy : y = x
  · have t1 : (y.toList == x.toList) = true := by rw [hy]; exact beq_self_eq_true _
    rw [decide_eq_true hy] at hN
    clear hy
    have HN := Lib.hid hN
    clear hN
    go_wp2_with fail
    exact HN.out _ (id ⟨rfl, rfl, rfl, rfl, rfl, rfl, rfl, trivial⟩)
  · have t1 : (y.toList == x.toList) = false := beq_eq_false_iff_ne.2 (fun e => hy (bytes_inj e))
    rw [decide_eq_false hy] at hN
    clear hy
    have HN := Lib.hid hN
    clear hN
    go_wp2_with fail
    exact HN.out _ (id ⟨rfl, rfl, rfl, rfl, rfl, rfl, rfl, trivial⟩)
noncomputable def c_wv_r5 : Code := sub [1, 0, 1, 0, 0, 1, 0, 0, 1, 0, 0] (Tryd.f82.body.getD .skip)
set_option maxRecDepth 1000000 in
set_option maxHeartbeats 16000000 in
theorem wv_r5_wp {Q : Exit → Act → World → Prop} {k b o me ee : Nat} {v : Int} {x : ByteArray} {ge gm : Nat} {w : World} (hk : k < me) (hge : w.heap[ge]? = some (.cells #[.slice (some ⟨b, o, none⟩) me ee] 71 (0, 0))) (e1 : w.cell? ⟨b, o + k * 2 + 1, none⟩ = some (.int .i64 v)) (hbl : b < w.heap.size) (hN : ∀ a', Frm 34 [(4, .int .i64 v)] a' → Q .normal a' w) : ∀ ac, Frm 34 [(0, .string x), (1, .pointer (some ⟨ge, 0, none⟩)), (2, .pointer (some ⟨gm, 0, none⟩)), (5, .int .i64 ((k : Nat)))] ac → Code.wp Tryd.prog c_wv_r5 Q ac w := by
  refine frm_open ?_
  refine frame_wv ?_
  intros
  rename_i hq
  obtain ⟨-, -, e0q, e1q, e2q, e3q, -⟩ := hq
  obtain rfl := sI e0q
  obtain rfl := sI e1q
  obtain rfl := sI e2q
  obtain rfl := sI e3q
  conv => arg 2; whnf
  have q0 : (0 : Int) ≤ (k : Int) := by omega
  have q1 : (k : Int) < (me : Int) := by omega
  have g0 := cellv hge 0 rfl
  have gl := lt_heap hge
  clear hge
  have HN := Lib.hid hN
  clear hN
  go_wp2_with fail
  exact HN.out _ (id ⟨rfl, rfl, rfl, trivial⟩)
noncomputable def c_wv_r3 : Code := sub [1, 0, 1, 0, 0, 1, 1] (Tryd.f82.body.getD .skip)
set_option maxRecDepth 1000000 in
set_option maxHeartbeats 16000000 in
theorem wv_r3_wp {Q : Exit → Act → World → Prop} {z : Int} {x : ByteArray} {ge gm : Nat} {w : World} (hz0 : 0 ≤ z) (hz1 : z ≤ 1000000) (hN : ∀ a', Frm 34 [(0, .string x), (1, .pointer (some ⟨ge, 0, none⟩)), (2, .pointer (some ⟨gm, 0, none⟩)), (5, .int .i64 (z - 1))] a' → Q .normal a' w) : ∀ ac, Frm 34 [(0, .string x), (1, .pointer (some ⟨ge, 0, none⟩)), (2, .pointer (some ⟨gm, 0, none⟩)), (5, .int .i64 (z))] ac → Code.wp Tryd.prog c_wv_r3 Q ac w := by
  refine frm_open ?_
  refine frame_wv ?_
  intros
  rename_i hq
  obtain ⟨-, -, e0q, e1q, e2q, e3q, -⟩ := hq
  obtain rfl := sI e0q
  obtain rfl := sI e1q
  obtain rfl := sI e2q
  obtain rfl := sI e3q
  conv => arg 2; whnf
  have q1 : z ≤ 1000000 := by omega
  have q2 : 0 ≤ z := by omega
  have HN := Lib.hid hN
  clear hN
  go_wp2_with fail
  exact HN.out _ (id ⟨rfl, rfl, rfl, rfl, rfl, rfl, trivial⟩)
noncomputable def c_wv_r6 : Code := sub [1, 1, 0] (Tryd.f82.body.getD .skip)
set_option maxRecDepth 1000000 in
set_option maxHeartbeats 16000000 in
theorem wv_r6_wp {Q : Exit → Act → World → Prop} {bb : Bool} {v : Int} {z : Int} {Am Bm : Option Addr} {nm1 cm nm2 dm : Nat} {x : ByteArray} {ge gm : Nat} {w : World} (hgm : w.heap[gm]? = some (.cells #[.int .i64 z, .slice Am nm1 cm, .slice Bm nm2 dm] 25 (0, 0))) (hc : Calls Tryd.prog 79 #[.agg #[.int .i64 z, .slice Am nm1 cm, .slice Bm nm2 dm], .string x] w fun e w' => e = .returned (.tuple #[.int .i64 v, .bool bb]) ∧ Below w.heap.size w w') (hN : ∀ a' w', Frm 34 [(6, .int .i64 v)] a' → Below w.heap.size w w' → Q .normal a' w') : ∀ ac, Frm 34 [(0, .string x), (1, .pointer (some ⟨ge, 0, none⟩)), (2, .pointer (some ⟨gm, 0, none⟩))] ac → Code.wp Tryd.prog c_wv_r6 Q ac w := by
  refine frm_open ?_
  refine frame_wv ?_
  intros
  rename_i hq
  obtain ⟨-, -, e0q, e1q, e2q, -⟩ := hq
  obtain rfl := sI e0q
  obtain rfl := sI e1q
  obtain rfl := sI e2q
  conv => arg 2; whnf
  have m0 := cellv hgm 0 rfl
  have m1 := cellv hgm 1 rfl
  have m2 := cellv hgm 2 rfl
  have ml := lt_heap hgm
  clear hgm
  have HN := Lib.hid hN
  have HC := Lib.hid hc
  clear hN hc
  go_wp2_with fail
  (with_reducible refine HC.out.mono ?_)
  rintro e w1 ⟨rfl, hb1⟩
  have HB1 := Lib.hid hb1
  clear hb1
  go_wp2_with fail
  exact HN.out _ _ (id ⟨rfl, rfl, rfl, trivial⟩) HB1.out
noncomputable def c_wv_r7 : Code := sub [1, 1, 1, 0] (Tryd.f82.body.getD .skip)
set_option maxRecDepth 1000000 in
set_option maxHeartbeats 16000000 in
theorem wv_r7_wp {Q : Exit → Act → World → Prop} {v : Int} {w : World} (hN : ∀ a', Frm 34 [(4, .int .i64 v)] a' → Q .normal a' w) : ∀ ac, Frm 34 [(6, .int .i64 v)] ac → Code.wp Tryd.prog c_wv_r7 Q ac w := by
  refine frm_open ?_
  refine frame_wv ?_
  intros
  rename_i hq
  obtain ⟨-, -, e0q, -⟩ := hq
  obtain rfl := sI e0q
  conv => arg 2; whnf
  have HN := Lib.hid hN
  clear hN
  go_wp2_with fail
  exact HN.out _ (id ⟨rfl, rfl, rfl, trivial⟩)
set_option maxRecDepth 1000000 in
theorem wv_ret_wp {R : Ending → World → Prop} {w' : World} {v : Int} (hR : R (.returned (.int .i64 v)) w') : ∀ ac, Frm 34 [(4, .int .i64 v)] ac → bodyPost Tryd.prog Tryd.f82 R .ret ac w' := by
  refine frm_open ?_
  refine frame_wv ?_
  intros
  rename_i hq
  obtain ⟨-, -, e0q, -⟩ := hq
  obtain rfl := sI e0q
  refine bodyPost_ret (v := .int .i64 v) (by simp [results, Tryd.results82, go_sem]) rfl ?_
  exact hR
/-- The variables' values in memory: two cells each. -/
def envRep : Rep (ByteArray × Int) where
  size := 2
  R _ _ a cs := cs = [.string a.1, .int .i64 a.2]
  pos := by omega
  len := by rintro w S a cs rfl; rfl
  one := by
    rintro w S a cs rfl u hu
    simp at hu; rcases hu with rfl | rfl <;> rfl
  keep := by rintro w w' S S' a cs h _ _; exact h
theorem env_at {w : World} {S : Nat → Prop} {A : Option Addr} {n c j : Nat} {l : List (ByteArray × Int)} (h : envRep.Sl w S (.slice A n c) l) (hj : j < l.length) : ∃ b o, A = some ⟨b, o, none⟩ ∧ S b ∧ w.cell? ⟨b, o + j * 2, none⟩ = some (.string l[j].1) ∧ w.cell? ⟨b, o + j * 2 + 1, none⟩ = some (.int .i64 l[j].2) := by
  obtain ⟨b, o, cs, hA, hSb, hx, hcell⟩ := Rep.Sl.at_ h (k := j) (a := l[j]) (by simp [hj])
  subst hx
  exact ⟨b, o, hA, hSb, hcell 0 _ rfl, hcell 1 _ rfl⟩
theorem envV_take (l : List (ByteArray × Int)) (x : ByteArray) (k : Nat) (h : k < l.length) : envV (l.take (k + 1)) x = if l[k].1 = x then some l[k].2 else envV (l.take k) x := by
  rw [List.take_succ_eq_append_getElem h]
  exact envV_snoc _ _ _ _
set_option maxRecDepth 100000 in
set_option maxHeartbeats 4000000 in
/-- A word's value. -/
theorem word_any (m : Md) (hg : m.good) (env : List (ByteArray × Int)) (x : ByteArray) (w : World) (S : Nat → Prop) {ge gm : Nat} {De : Option Addr} {me ee : Nat} {Am Bm : Option Addr} {cm dm : Nat} (he : envRep.Sl w S (.slice De me ee) env) (hel : env.length ≤ 1000) (hS : ∀ b, S b → b < w.heap.size) (hm : m.In w S [.int .i64 m.sz, .slice Am m.cs.length cm, .slice Bm m.rs.length dm]) (hge : w.heap[ge]? = some (.cells #[.slice De me ee] 71 (0, 0))) (hgm : w.heap[gm]? = some (.cells #[.int .i64 m.sz, .slice Am m.cs.length cm, .slice Bm m.rs.length dm] 25 (0, 0))) :
    Calls Tryd.prog 82 #[.string x, .pointer (some ⟨ge, 0, none⟩), .pointer (some ⟨gm, 0, none⟩)] w fun e w' => e = .returned (.int .i64 (wordV m env x)) ∧ Below w.heap.size w w' := by
  obtain ⟨_, _, _, eq, hme, _⟩ := id he
  simp only [Value.slice.injEq] at eq
  obtain ⟨rfl, rfl, rfl⟩ := eq
  have hme2 : me = env.length := by omega
  go_enter Tryd.func82, Tryd.ntmps82
  refine wp_seq ?_
  refine wv_r0_wp (fun a0 h0 => ?_) _ (id ⟨rfl, rfl, rfl, rfl, rfl, trivial⟩)
  refine wp_seq ?_
  refine wp_seq ?_
  refine wv_r1_wp (by omega) hge (fun a1 h1 => ?_) a0 h0
  refine wp_block ?_
  refine wp_loopR (fun g a' w' => ∃ i : Nat, g = i ∧ i ≤ env.length ∧ w' = w ∧ envV env x = envV (env.take i) x ∧ Frm 34 [(0, .string x), (1, .pointer (some ⟨ge, 0, none⟩)), (2, .pointer (some ⟨gm, 0, none⟩)), (5, .int .i64 ((i : Int) - 1))] a') env.length ⟨env.length, rfl, Nat.le_refl _, rfl, by rw [List.take_of_length_le (Nat.le_refl _)], by rw [← hme2]; exact h1⟩ ?_
  rintro g a2 w2 ⟨i, rfl, hil, rfl, hv, h2⟩
  refine wp_seq ?_
  refine wp_seq ?_
  refine wv_r2_wp (fun a3 h3 => ?_) a2 h2
  by_cases hz : (0 : Int) ≤ (g : Int) - 1
  case neg =>
    refine wp_cond_false ((h3.eval (k := 12) (v := .bool (decide ((0 : Int) ≤ (g : Int) - 1))) (by simp)).trans (by rw [decide_eq_false hz])) ?_
    refine wp_exit ?_
    repeat refine then_exit ?_
    refine inBlock_exit ?_
    show Code.wp _ _ _ a3 w2
    have hg0 : g = 0 := by omega
    subst hg0
    refine wp_seq ?_
    refine wv_r6_wp hgm (constant_any m x _ w2 S hm hS hg) (fun a4 w4 h4 hb4 => ?_) a3 ⟨h3.1, h3.2.1, h3.2.2.1, h3.2.2.2.1, h3.2.2.2.2.1, trivial⟩
    refine wp_seq ?_
    refine wv_r7_wp (fun a5 h5 => ?_) a4 h4
    refine wp_ret ?_
    refine wv_ret_wp ⟨?_, hb4⟩ a5 h5
    unfold wordV
    rw [hv]; rfl
  refine wp_cond_true ((h3.eval (k := 12) (v := .bool (decide ((0 : Int) ≤ (g : Int) - 1))) (by simp)).trans (by rw [decide_eq_true hz])) ?_
  refine wp_skip ?_
  show Code.wp _ _ _ a3 w2
  obtain ⟨k, rfl⟩ : ∃ k, g = k + 1 := ⟨g - 1, by omega⟩
  have hkl : k < env.length := by omega
  obtain ⟨b, o, rfl, hSb, e0, e1⟩ := env_at he hkl
  have hzk : ((k + 1 : Nat) : Int) - 1 = (k : Nat) := by omega
  rw [hzk] at h3
  refine wp_seq ?_
  refine wp_block ?_
  refine wp_seq ?_
  refine wv_r4_wp (by omega) hge e0 (hS b hSb) (fun a4 h4 => ?_) a3 ⟨h3.1, h3.2.1, h3.2.2.1, h3.2.2.2.1, h3.2.2.2.2.1, h3.2.2.2.2.2.1, trivial⟩
  have htk := envV_take env x k hkl
  by_cases hy : env[k].1 = x
  · refine wp_cond_true ((h4.eval (k := 21) (v := .bool (decide (env[k].1 = x))) (by simp)).trans (by rw [decide_eq_true hy])) ?_
    refine wp_seq ?_
    refine wv_r5_wp (by omega) hge e1 (hS b hSb) (fun a5 h5 => ?_) a4 ⟨h4.1, h4.2.1, h4.2.2.1, h4.2.2.2.1, h4.2.2.2.2.1, h4.2.2.2.2.2.1, trivial⟩
    refine wp_ret ?_
    repeat (first | refine thenR ?_ | refine inBlockR ?_)
    refine wv_ret_wp ⟨?_, Below.refl _ _⟩ a5 h5
    unfold wordV
    rw [hv, htk, if_pos hy]; rfl
  · refine wp_cond_false ((h4.eval (k := 21) (v := .bool (decide (env[k].1 = x))) (by simp)).trans (by rw [decide_eq_false hy])) ?_
    refine wp_skip ?_
    show Code.wp _ _ _ a4 w2
    refine wv_r3_wp (by omega) (by omega) (fun a5 h5 => ?_) a4 ⟨h4.1, h4.2.1, h4.2.2.1, h4.2.2.2.1, h4.2.2.2.2.1, h4.2.2.2.2.2.1, trivial⟩
    exact ⟨k, by omega, k, rfl, by omega, rfl, by rw [hv, htk, if_neg hy], h5⟩
end

section
open Go Go.RowKit
set_option linter.unusedSimpArgs false
set_option linter.unusedVariables false

theorem wp_thenF {P : Program} {c : Code} {K : Act → World → Prop} {Q : Exit → Act → World → Prop} {a : Act} {w : World} (h : Code.wp P c (Exit.then K (fun _ _ _ => False)) a w) : Code.wp P c (Exit.then K Q) a w :=
  Code.wp_mono (fun e a' w' hh => by cases e with | normal => exact hh | _ => exact hh.elim) h
theorem envVals_snoc (e : List (ByteArray × Int)) (x : ByteArray) (z : Int) : envVals (e ++ [(x, z)]) = envVals e ++ [.string x, .int .i64 z] := by
  unfold envVals
  rw [List.flatMap_append]; rfl
theorem envAll {w : World} {S : Nat → Prop} : ∀ e : List (ByteArray × Int), envRep.All w S e (envVals e)
  | [] => rfl
  | p :: e => ⟨[.string p.1, .int .i64 p.2], envVals e, rfl, rfl, envAll e⟩
theorem envAll_eq {w : World} {S : Nat → Prop} : ∀ {e : List (ByteArray × Int)} {xs : List Value}, envRep.All w S e xs → xs = envVals e
  | [], xs, h => h
  | p :: e, xs, h => by
    obtain ⟨cs, rest, rfl, h1, h2⟩ := h
    rw [envAll_eq h2]
    obtain rfl : cs = [.string p.1, .int .i64 p.2] := h1
    rfl
set_option maxRecDepth 100000 in
set_option maxHeartbeats 4000000 in
theorem value_tru (m : Md) (hg : m.good) {Am Bm : Option Addr} {cm dm : Nat} : ∀ (env : List (ByteArray × Int)) (cs : List Value) (w : World) (S : Nat → Prop) (De : Option Addr) (me ee : Nat), env.length + Fv.nodes (.tru) ≤ 1000 → fmRep.R w S (Fv.fm (.tru)) cs → envRep.Sl w S (.slice De me ee) env → (env = [] → De = none) → me ≤ ee → m.In w S [.int .i64 m.sz, .slice Am m.cs.length cm, .slice Bm m.rs.length dm] → (∀ b, S b → b < w.heap.size) → Calls Tryd.prog 48 #[.agg #[.int .i64 m.sz, .slice Am m.cs.length cm, .slice Bm m.rs.length dm], .agg cs.toArray, .slice De me ee] w fun e w' => e = .returned (.bool (evalF m (.tru) env)) ∧ Below w.heap.size w w' := by
  intro env cs w S De me ee hlen ht he he0 hme hm hS
  change fmRep.R w S (.mk ⟨1, ⟨#[]⟩, []⟩ []) cs at ht
  generalize hkd : (1 : Int) = kd at ht
  generalize hnme : (⟨#[]⟩ : ByteArray) = nm at ht
  obtain ⟨u, v9, rfl, hnm, hw, hl⟩ := Fm.open_ ht
  simp only at hw hnm
  obtain ⟨A, n1, c1, rfl, e1, hm1, _⟩ := id hw
  obtain ⟨B, n2, c2, rfl, e2, hm2, _⟩ := id hl
  go_enter Tryd.func48, Tryd.ntmps48
  refine wp_seq ?_
  refine vl_r0_wp (fun a0 h0 => ?_) _ (id ⟨rfl, rfl, rfl, rfl, rfl, trivial⟩)
  refine gen_last (fun wx => wx.heap[w.heap.size]? = some (.cells #[.int .i64 m.sz, .slice Am m.cs.length cm, .slice Bm m.rs.length dm] 25 (0, 0)) ∧ wx.heap[w.heap.size + 1]? = some (.cells #[.int .i64 kd, .string nm, .slice A n1 c1, .slice B n2 c2] 29 (0, 0)) ∧ wx.heap[w.heap.size + 1 + 1]? = some (.cells #[.slice De me ee] 71 (0, 0)) ∧ Below w.heap.size w wx) ⟨heap_old (by simp; omega) (heap_old (by simp) (heap_at rfl)), heap_old (by simp) (heap_at (by simp)), heap_at (by simp), by go_grown⟩ ?_
  rintro wy ⟨hmy, hay, hey, hby⟩
  have hbys := hby.size
  have hgyl := lt_heap hey
  have hkeep : ∀ W : World, Below wy.heap.size wy W → ∀ k, S k → W.heap[k]? = w.heap[k]? := fun W hb k hk => (hb.block k (by have := hS k hk; omega)).trans (hby.block k (hS k hk))
  have hlt : ∀ W : World, Below wy.heap.size wy W → ∀ k, S k → k < W.heap.size := fun W hb k hk => by have := hS k hk; have := hb.size; omega
  refine wp_seq ?_
  refine vl_r1_wp (fun a1 h1 => ?_) a0 h0
  refine wp_seq ?_
  refine wp_seq ?_
  refine vl_r2_wp hay (fun a2 h2 => ?_) a1 h1
  refine wp_block ?_
  refine wp_seq ?_
  refine vl_r3_wp (fun a3 h3 => ?_) a2 ⟨h2.1, h2.2.1, h2.2.2.1, h2.2.2.2.1, h2.2.2.2.2.1, h2.2.2.2.2.2.1, h2.2.2.2.2.2.2.1, trivial⟩
  have q1 : kd = 1 := by omega
  refine wp_cond_true ((h3.eval (k := 19) (v := .bool (decide (kd = 1))) (by simp)).trans (by rw [decide_eq_true q1])) ?_
  refine wp_seq ?_
  refine vl_r4_wp (fun a9 h9 => ?_) a3 ⟨h3.1, h3.2.1, h3.2.2.1, h3.2.2.2.1, h3.2.2.2.2.1, h3.2.2.2.2.2.1, trivial⟩
  refine wp_ret ?_
  repeat (first | refine thenR ?_ | refine inBlockR ?_)
  refine vl_ret_wp (bb := true) ⟨rfl, hby⟩ a9 h9
set_option maxRecDepth 100000 in
set_option maxHeartbeats 4000000 in
theorem value_neg (m : Md) (hg : m.good) {Am Bm : Option Addr} {cm dm : Nat} {f : Fv} (hok : f.ok) (hrel : hasRels m f = true) (ihf : Fv.ok f → hasRels m f = true → ∀ (env : List (ByteArray × Int)) (cs : List Value) (w : World) (S : Nat → Prop) (De : Option Addr) (me ee : Nat), env.length + Fv.nodes (f) ≤ 1000 → fmRep.R w S (Fv.fm (f)) cs → envRep.Sl w S (.slice De me ee) env → (env = [] → De = none) → me ≤ ee → m.In w S [.int .i64 m.sz, .slice Am m.cs.length cm, .slice Bm m.rs.length dm] → (∀ b, S b → b < w.heap.size) → Calls Tryd.prog 48 #[.agg #[.int .i64 m.sz, .slice Am m.cs.length cm, .slice Bm m.rs.length dm], .agg cs.toArray, .slice De me ee] w fun e w' => e = .returned (.bool (evalF m (f) env)) ∧ Below w.heap.size w w') : ∀ (env : List (ByteArray × Int)) (cs : List Value) (w : World) (S : Nat → Prop) (De : Option Addr) (me ee : Nat), env.length + Fv.nodes (.neg f) ≤ 1000 → fmRep.R w S (Fv.fm (.neg f)) cs → envRep.Sl w S (.slice De me ee) env → (env = [] → De = none) → me ≤ ee → m.In w S [.int .i64 m.sz, .slice Am m.cs.length cm, .slice Bm m.rs.length dm] → (∀ b, S b → b < w.heap.size) → Calls Tryd.prog 48 #[.agg #[.int .i64 m.sz, .slice Am m.cs.length cm, .slice Bm m.rs.length dm], .agg cs.toArray, .slice De me ee] w fun e w' => e = .returned (.bool (evalF m (.neg f) env)) ∧ Below w.heap.size w w' := by
  intro env cs w S De me ee hlen ht he he0 hme hm hS
  change fmRep.R w S (.mk ⟨4, ⟨#[]⟩, []⟩ [f.fm]) cs at ht
  generalize hkd : (4 : Int) = kd at ht
  generalize hnme : (⟨#[]⟩ : ByteArray) = nm at ht
  obtain ⟨u, v9, rfl, hnm, hw, hl⟩ := Fm.open_ ht
  simp only at hw hnm
  obtain ⟨A, n1, c1, rfl, e1, hm1, _⟩ := id hw
  obtain ⟨B, n2, c2, rfl, e2, hm2, _⟩ := id hl
  go_enter Tryd.func48, Tryd.ntmps48
  refine wp_seq ?_
  refine vl_r0_wp (fun a0 h0 => ?_) _ (id ⟨rfl, rfl, rfl, rfl, rfl, trivial⟩)
  refine gen_last (fun wx => wx.heap[w.heap.size]? = some (.cells #[.int .i64 m.sz, .slice Am m.cs.length cm, .slice Bm m.rs.length dm] 25 (0, 0)) ∧ wx.heap[w.heap.size + 1]? = some (.cells #[.int .i64 kd, .string nm, .slice A n1 c1, .slice B n2 c2] 29 (0, 0)) ∧ wx.heap[w.heap.size + 1 + 1]? = some (.cells #[.slice De me ee] 71 (0, 0)) ∧ Below w.heap.size w wx) ⟨heap_old (by simp; omega) (heap_old (by simp) (heap_at rfl)), heap_old (by simp) (heap_at (by simp)), heap_at (by simp), by go_grown⟩ ?_
  rintro wy ⟨hmy, hay, hey, hby⟩
  have hbys := hby.size
  have hgyl := lt_heap hey
  have hkeep : ∀ W : World, Below wy.heap.size wy W → ∀ k, S k → W.heap[k]? = w.heap[k]? := fun W hb k hk => (hb.block k (by have := hS k hk; omega)).trans (hby.block k (hS k hk))
  have hlt : ∀ W : World, Below wy.heap.size wy W → ∀ k, S k → k < W.heap.size := fun W hb k hk => by have := hS k hk; have := hb.size; omega
  refine wp_seq ?_
  refine vl_r1_wp (fun a1 h1 => ?_) a0 h0
  refine wp_seq ?_
  refine wp_seq ?_
  refine vl_r2_wp hay (fun a2 h2 => ?_) a1 h1
  refine wp_block ?_
  simp only [Fv.nodes] at hlen
  obtain rfl : n2 = 1 := by simpa using e2.symm
  obtain ⟨b, o, cs1, rfl, hSb, hr1, hcc1⟩ := Rep.Sl.at_ hl (k := 0) (a := f.fm) rfl
  obtain ⟨Ae, n3, c3, Be, n4, c4, rfl, _, _, _, _⟩ := Fm.shape hr1
  have hbl : b < wy.heap.size := hlt wy (Below.refl _ _) b hSb
  have e0_0 : wy.cell? ⟨b, o, none⟩ = _ := (cell_keep (hkeep wy (Below.refl _ _) b hSb) _).trans (hcc1 0 _ rfl)
  have e0_1 : wy.cell? ⟨b, o + 1, none⟩ = _ := (cell_keep (hkeep wy (Below.refl _ _) b hSb) _).trans (hcc1 1 _ rfl)
  have e0_2 : wy.cell? ⟨b, o + 2, none⟩ = _ := (cell_keep (hkeep wy (Below.refl _ _) b hSb) _).trans (hcc1 2 _ rfl)
  have e0_3 : wy.cell? ⟨b, o + 3, none⟩ = _ := (cell_keep (hkeep wy (Below.refl _ _) b hSb) _).trans (hcc1 3 _ rfl)
  have hih1 : ∀ W : World, Below wy.heap.size wy W → Calls Tryd.prog 48 #[.agg #[.int .i64 m.sz, .slice Am m.cs.length cm, .slice Bm m.rs.length dm], _, .slice De me ee] W fun e w' => e = .returned (.bool (evalF m f env)) ∧ Below wy.heap.size wy w' := fun W hb => (ihf hok hrel env _ W S _ _ _ (by omega) (fmRep.keep hr1 (hkeep W hb) (fun _ h => h)) (he.keep (hkeep W hb) (fun _ h => h)) he0 hme (hm.keep (hkeep W hb) (fun _ h => h)) (hlt W hb)).mono (fun e w' h => ⟨h.1, hb.trans (h.2.mono hb.size)⟩)
  refine wp_seq ?_
  refine vl_r3_wp (fun a3 h3 => ?_) a2 ⟨h2.1, h2.2.1, h2.2.2.1, h2.2.2.2.1, h2.2.2.2.2.1, h2.2.2.2.2.2.1, h2.2.2.2.2.2.2.1, trivial⟩
  have q1 : ¬ kd = 1 := by omega
  refine wp_cond_false ((h3.eval (k := 19) (v := .bool (decide (kd = 1))) (by simp)).trans (by rw [decide_eq_false q1])) ?_
  refine wp_seq ?_
  refine vl_r5_wp (fun a4 h4 => ?_) a3 ⟨h3.1, h3.2.1, h3.2.2.1, h3.2.2.2.1, h3.2.2.2.2.1, h3.2.2.2.2.2.1, h3.2.2.2.2.2.2.1, trivial⟩
  have q2 : ¬ kd = 2 := by omega
  refine wp_cond_false ((h4.eval (k := 21) (v := .bool (decide (kd = 2))) (by simp)).trans (by rw [decide_eq_false q2])) ?_
  refine wp_seq ?_
  refine vl_r15_wp (fun a5 h5 => ?_) a4 ⟨h4.1, h4.2.1, h4.2.2.1, h4.2.2.2.1, h4.2.2.2.2.1, h4.2.2.2.2.2.1, h4.2.2.2.2.2.2.1, trivial⟩
  have q3 : ¬ kd = 3 := by omega
  refine wp_cond_false ((h5.eval (k := 54) (v := .bool (decide (kd = 3))) (by simp)).trans (by rw [decide_eq_false q3])) ?_
  refine wp_seq ?_
  refine vl_r17_wp (fun a6 h6 => ?_) a5 ⟨h5.1, h5.2.1, h5.2.2.1, h5.2.2.2.1, h5.2.2.2.2.1, h5.2.2.2.2.2.1, h5.2.2.2.2.2.2.1, trivial⟩
  have q4 : kd = 4 := by omega
  refine wp_cond_true ((h6.eval (k := 69) (v := .bool (decide (kd = 4))) (by simp)).trans (by rw [decide_eq_true q4])) ?_
  refine wp_seq ?_
  refine wp_thenQ (vl_r18_wp hmy hay hey e0_0 e0_1 e0_2 e0_3 hbl hih1 (fun a9 w9 h9 hb9 => ?_) a6 ⟨h6.1, h6.2.1, h6.2.2.1, h6.2.2.2.1, h6.2.2.2.2.1, h6.2.2.2.2.2.1, trivial⟩)
  refine wp_ret ?_
  repeat (first | refine thenR ?_ | refine inBlockR ?_)
  refine vl_ret_wp (bb := _) ⟨rfl, hby.trans (hb9.mono hbys)⟩ a9 h9
set_option maxRecDepth 100000 in
set_option maxHeartbeats 4000000 in
theorem value_bin (m : Md) (hg : m.good) {Am Bm : Option Addr} {cm dm : Nat} {k : Nat} {f g : Fv} (hok : (Fv.bin k f g).ok) (hrel : hasRels m f = true ∧ hasRels m g = true) (ihf : Fv.ok f → hasRels m f = true → ∀ (env : List (ByteArray × Int)) (cs : List Value) (w : World) (S : Nat → Prop) (De : Option Addr) (me ee : Nat), env.length + Fv.nodes (f) ≤ 1000 → fmRep.R w S (Fv.fm (f)) cs → envRep.Sl w S (.slice De me ee) env → (env = [] → De = none) → me ≤ ee → m.In w S [.int .i64 m.sz, .slice Am m.cs.length cm, .slice Bm m.rs.length dm] → (∀ b, S b → b < w.heap.size) → Calls Tryd.prog 48 #[.agg #[.int .i64 m.sz, .slice Am m.cs.length cm, .slice Bm m.rs.length dm], .agg cs.toArray, .slice De me ee] w fun e w' => e = .returned (.bool (evalF m (f) env)) ∧ Below w.heap.size w w') (ihg : Fv.ok g → hasRels m g = true → ∀ (env : List (ByteArray × Int)) (cs : List Value) (w : World) (S : Nat → Prop) (De : Option Addr) (me ee : Nat), env.length + Fv.nodes (g) ≤ 1000 → fmRep.R w S (Fv.fm (g)) cs → envRep.Sl w S (.slice De me ee) env → (env = [] → De = none) → me ≤ ee → m.In w S [.int .i64 m.sz, .slice Am m.cs.length cm, .slice Bm m.rs.length dm] → (∀ b, S b → b < w.heap.size) → Calls Tryd.prog 48 #[.agg #[.int .i64 m.sz, .slice Am m.cs.length cm, .slice Bm m.rs.length dm], .agg cs.toArray, .slice De me ee] w fun e w' => e = .returned (.bool (evalF m (g) env)) ∧ Below w.heap.size w w') : ∀ (env : List (ByteArray × Int)) (cs : List Value) (w : World) (S : Nat → Prop) (De : Option Addr) (me ee : Nat), env.length + Fv.nodes (.bin k f g) ≤ 1000 → fmRep.R w S (Fv.fm (.bin k f g)) cs → envRep.Sl w S (.slice De me ee) env → (env = [] → De = none) → me ≤ ee → m.In w S [.int .i64 m.sz, .slice Am m.cs.length cm, .slice Bm m.rs.length dm] → (∀ b, S b → b < w.heap.size) → Calls Tryd.prog 48 #[.agg #[.int .i64 m.sz, .slice Am m.cs.length cm, .slice Bm m.rs.length dm], .agg cs.toArray, .slice De me ee] w fun e w' => e = .returned (.bool (evalF m (.bin k f g) env)) ∧ Below w.heap.size w w' := by
  intro env cs w S De me ee hlen ht he he0 hme hm hS
  change fmRep.R w S (.mk ⟨(k : Int), ⟨#[]⟩, []⟩ [f.fm, g.fm]) cs at ht
  generalize hkd : ((k : Int) : Int) = kd at ht
  generalize hnme : (⟨#[]⟩ : ByteArray) = nm at ht
  obtain ⟨u, v9, rfl, hnm, hw, hl⟩ := Fm.open_ ht
  simp only at hw hnm
  obtain ⟨A, n1, c1, rfl, e1, hm1, _⟩ := id hw
  obtain ⟨B, n2, c2, rfl, e2, hm2, _⟩ := id hl
  go_enter Tryd.func48, Tryd.ntmps48
  refine wp_seq ?_
  refine vl_r0_wp (fun a0 h0 => ?_) _ (id ⟨rfl, rfl, rfl, rfl, rfl, trivial⟩)
  refine gen_last (fun wx => wx.heap[w.heap.size]? = some (.cells #[.int .i64 m.sz, .slice Am m.cs.length cm, .slice Bm m.rs.length dm] 25 (0, 0)) ∧ wx.heap[w.heap.size + 1]? = some (.cells #[.int .i64 kd, .string nm, .slice A n1 c1, .slice B n2 c2] 29 (0, 0)) ∧ wx.heap[w.heap.size + 1 + 1]? = some (.cells #[.slice De me ee] 71 (0, 0)) ∧ Below w.heap.size w wx) ⟨heap_old (by simp; omega) (heap_old (by simp) (heap_at rfl)), heap_old (by simp) (heap_at (by simp)), heap_at (by simp), by go_grown⟩ ?_
  rintro wy ⟨hmy, hay, hey, hby⟩
  have hbys := hby.size
  have hgyl := lt_heap hey
  have hkeep : ∀ W : World, Below wy.heap.size wy W → ∀ k, S k → W.heap[k]? = w.heap[k]? := fun W hb k hk => (hb.block k (by have := hS k hk; omega)).trans (hby.block k (hS k hk))
  have hlt : ∀ W : World, Below wy.heap.size wy W → ∀ k, S k → k < W.heap.size := fun W hb k hk => by have := hS k hk; have := hb.size; omega
  refine wp_seq ?_
  refine vl_r1_wp (fun a1 h1 => ?_) a0 h0
  refine wp_seq ?_
  refine wp_seq ?_
  refine vl_r2_wp hay (fun a2 h2 => ?_) a1 h1
  refine wp_block ?_
  simp only [Fv.nodes] at hlen
  obtain rfl : n2 = 2 := by simpa using e2.symm
  obtain ⟨b, o, cs1, rfl, hSb, hr1, hcc1⟩ := Rep.Sl.at_ hl (k := 0) (a := f.fm) rfl
  obtain ⟨b', o', cs2, e9, _, hr2, hcc2⟩ := Rep.Sl.at_ hl (k := 1) (a := g.fm) rfl
  simp only [Option.some.injEq, Addr.mk.injEq] at e9
  obtain ⟨rfl, rfl, _⟩ := e9
  obtain ⟨Ae, n3, c3, Be, n4, c4, rfl, _, _, _, _⟩ := Fm.shape hr1
  obtain ⟨Af, n5, c5, Bf, n6, c6, rfl, _, _, _, _⟩ := Fm.shape hr2
  have hbl : b < wy.heap.size := hlt wy (Below.refl _ _) b hSb
  have e0_0 : wy.cell? ⟨b, o, none⟩ = _ := (cell_keep (hkeep wy (Below.refl _ _) b hSb) _).trans (hcc1 0 _ rfl)
  have e0_1 : wy.cell? ⟨b, o + 1, none⟩ = _ := (cell_keep (hkeep wy (Below.refl _ _) b hSb) _).trans (hcc1 1 _ rfl)
  have e0_2 : wy.cell? ⟨b, o + 2, none⟩ = _ := (cell_keep (hkeep wy (Below.refl _ _) b hSb) _).trans (hcc1 2 _ rfl)
  have e0_3 : wy.cell? ⟨b, o + 3, none⟩ = _ := (cell_keep (hkeep wy (Below.refl _ _) b hSb) _).trans (hcc1 3 _ rfl)
  have e1_0 : wy.cell? ⟨b, o + 4, none⟩ = _ := (cell_keep (hkeep wy (Below.refl _ _) b hSb) _).trans (hcc2 0 _ rfl)
  have e1_1 : wy.cell? ⟨b, o + 5, none⟩ = _ := (cell_keep (hkeep wy (Below.refl _ _) b hSb) _).trans (hcc2 1 _ rfl)
  have e1_2 : wy.cell? ⟨b, o + 6, none⟩ = _ := (cell_keep (hkeep wy (Below.refl _ _) b hSb) _).trans (hcc2 2 _ rfl)
  have e1_3 : wy.cell? ⟨b, o + 7, none⟩ = _ := (cell_keep (hkeep wy (Below.refl _ _) b hSb) _).trans (hcc2 3 _ rfl)
  have hih1 : ∀ W : World, Below wy.heap.size wy W → Calls Tryd.prog 48 #[.agg #[.int .i64 m.sz, .slice Am m.cs.length cm, .slice Bm m.rs.length dm], _, .slice De me ee] W fun e w' => e = .returned (.bool (evalF m f env)) ∧ Below wy.heap.size wy w' := fun W hb => (ihf hok.2.1 hrel.1 env _ W S _ _ _ (by omega) (fmRep.keep hr1 (hkeep W hb) (fun _ h => h)) (he.keep (hkeep W hb) (fun _ h => h)) he0 hme (hm.keep (hkeep W hb) (fun _ h => h)) (hlt W hb)).mono (fun e w' h => ⟨h.1, hb.trans (h.2.mono hb.size)⟩)
  have hih2 : ∀ W : World, Below wy.heap.size wy W → Calls Tryd.prog 48 #[.agg #[.int .i64 m.sz, .slice Am m.cs.length cm, .slice Bm m.rs.length dm], _, .slice De me ee] W fun e w' => e = .returned (.bool (evalF m g env)) ∧ Below wy.heap.size wy w' := fun W hb => (ihg hok.2.2 hrel.2 env _ W S _ _ _ (by omega) (fmRep.keep hr2 (hkeep W hb) (fun _ h => h)) (he.keep (hkeep W hb) (fun _ h => h)) he0 hme (hm.keep (hkeep W hb) (fun _ h => h)) (hlt W hb)).mono (fun e w' h => ⟨h.1, hb.trans (h.2.mono hb.size)⟩)
  have hk := hok.1
  rcases hk with rfl | rfl | rfl
  · refine wp_seq ?_
    refine vl_r3_wp (fun a3 h3 => ?_) a2 ⟨h2.1, h2.2.1, h2.2.2.1, h2.2.2.2.1, h2.2.2.2.2.1, h2.2.2.2.2.2.1, h2.2.2.2.2.2.2.1, trivial⟩
    have q1 : ¬ kd = 1 := by omega
    refine wp_cond_false ((h3.eval (k := 19) (v := .bool (decide (kd = 1))) (by simp)).trans (by rw [decide_eq_false q1])) ?_
    refine wp_seq ?_
    refine vl_r5_wp (fun a4 h4 => ?_) a3 ⟨h3.1, h3.2.1, h3.2.2.1, h3.2.2.2.1, h3.2.2.2.2.1, h3.2.2.2.2.2.1, h3.2.2.2.2.2.2.1, trivial⟩
    have q2 : ¬ kd = 2 := by omega
    refine wp_cond_false ((h4.eval (k := 21) (v := .bool (decide (kd = 2))) (by simp)).trans (by rw [decide_eq_false q2])) ?_
    refine wp_seq ?_
    refine vl_r15_wp (fun a5 h5 => ?_) a4 ⟨h4.1, h4.2.1, h4.2.2.1, h4.2.2.2.1, h4.2.2.2.2.1, h4.2.2.2.2.2.1, h4.2.2.2.2.2.2.1, trivial⟩
    have q3 : ¬ kd = 3 := by omega
    refine wp_cond_false ((h5.eval (k := 54) (v := .bool (decide (kd = 3))) (by simp)).trans (by rw [decide_eq_false q3])) ?_
    refine wp_seq ?_
    refine vl_r17_wp (fun a6 h6 => ?_) a5 ⟨h5.1, h5.2.1, h5.2.2.1, h5.2.2.2.1, h5.2.2.2.2.1, h5.2.2.2.2.2.1, h5.2.2.2.2.2.2.1, trivial⟩
    have q4 : ¬ kd = 4 := by omega
    refine wp_cond_false ((h6.eval (k := 69) (v := .bool (decide (kd = 4))) (by simp)).trans (by rw [decide_eq_false q4])) ?_
    refine wp_seq ?_
    refine vl_r19_wp (fun a7 h7 => ?_) a6 ⟨h6.1, h6.2.1, h6.2.2.1, h6.2.2.2.1, h6.2.2.2.2.1, h6.2.2.2.2.2.1, h6.2.2.2.2.2.2.1, trivial⟩
    have q5 : kd = 5 := by omega
    refine wp_cond_true ((h7.eval (k := 79) (v := .bool (decide (kd = 5))) (by simp)).trans (by rw [decide_eq_true q5])) ?_
    refine wp_seq ?_
    refine wp_thenQ (vl_r20_wp hmy hay hey e0_0 e0_1 e0_2 e0_3 e1_0 e1_1 e1_2 e1_3 hbl hih1 hih2 (fun a9 w9 h9 hb9 => ?_) a7 ⟨h7.1, h7.2.1, h7.2.2.1, h7.2.2.2.1, h7.2.2.2.2.1, h7.2.2.2.2.2.1, trivial⟩)
    refine wp_ret ?_
    repeat (first | refine thenR ?_ | refine inBlockR ?_)
    refine vl_ret_wp (bb := _) ⟨by simp [evalF], hby.trans (hb9.mono hbys)⟩ a9 h9
  · refine wp_seq ?_
    refine vl_r3_wp (fun a3 h3 => ?_) a2 ⟨h2.1, h2.2.1, h2.2.2.1, h2.2.2.2.1, h2.2.2.2.2.1, h2.2.2.2.2.2.1, h2.2.2.2.2.2.2.1, trivial⟩
    have q1 : ¬ kd = 1 := by omega
    refine wp_cond_false ((h3.eval (k := 19) (v := .bool (decide (kd = 1))) (by simp)).trans (by rw [decide_eq_false q1])) ?_
    refine wp_seq ?_
    refine vl_r5_wp (fun a4 h4 => ?_) a3 ⟨h3.1, h3.2.1, h3.2.2.1, h3.2.2.2.1, h3.2.2.2.2.1, h3.2.2.2.2.2.1, h3.2.2.2.2.2.2.1, trivial⟩
    have q2 : ¬ kd = 2 := by omega
    refine wp_cond_false ((h4.eval (k := 21) (v := .bool (decide (kd = 2))) (by simp)).trans (by rw [decide_eq_false q2])) ?_
    refine wp_seq ?_
    refine vl_r15_wp (fun a5 h5 => ?_) a4 ⟨h4.1, h4.2.1, h4.2.2.1, h4.2.2.2.1, h4.2.2.2.2.1, h4.2.2.2.2.2.1, h4.2.2.2.2.2.2.1, trivial⟩
    have q3 : ¬ kd = 3 := by omega
    refine wp_cond_false ((h5.eval (k := 54) (v := .bool (decide (kd = 3))) (by simp)).trans (by rw [decide_eq_false q3])) ?_
    refine wp_seq ?_
    refine vl_r17_wp (fun a6 h6 => ?_) a5 ⟨h5.1, h5.2.1, h5.2.2.1, h5.2.2.2.1, h5.2.2.2.2.1, h5.2.2.2.2.2.1, h5.2.2.2.2.2.2.1, trivial⟩
    have q4 : ¬ kd = 4 := by omega
    refine wp_cond_false ((h6.eval (k := 69) (v := .bool (decide (kd = 4))) (by simp)).trans (by rw [decide_eq_false q4])) ?_
    refine wp_seq ?_
    refine vl_r19_wp (fun a7 h7 => ?_) a6 ⟨h6.1, h6.2.1, h6.2.2.1, h6.2.2.2.1, h6.2.2.2.2.1, h6.2.2.2.2.2.1, h6.2.2.2.2.2.2.1, trivial⟩
    have q5 : ¬ kd = 5 := by omega
    refine wp_cond_false ((h7.eval (k := 79) (v := .bool (decide (kd = 5))) (by simp)).trans (by rw [decide_eq_false q5])) ?_
    refine wp_seq ?_
    refine vl_r21_wp (fun a8 h8 => ?_) a7 ⟨h7.1, h7.2.1, h7.2.2.1, h7.2.2.2.1, h7.2.2.2.2.1, h7.2.2.2.2.2.1, h7.2.2.2.2.2.2.1, trivial⟩
    have q6 : kd = 6 := by omega
    refine wp_cond_true ((h8.eval (k := 97) (v := .bool (decide (kd = 6))) (by simp)).trans (by rw [decide_eq_true q6])) ?_
    refine wp_seq ?_
    refine wp_thenQ (vl_r22_wp hmy hay hey e0_0 e0_1 e0_2 e0_3 e1_0 e1_1 e1_2 e1_3 hbl hih1 hih2 (fun a9 w9 h9 hb9 => ?_) a8 ⟨h8.1, h8.2.1, h8.2.2.1, h8.2.2.2.1, h8.2.2.2.2.1, h8.2.2.2.2.2.1, trivial⟩)
    refine wp_ret ?_
    repeat (first | refine thenR ?_ | refine inBlockR ?_)
    refine vl_ret_wp (bb := _) ⟨by simp [evalF], hby.trans (hb9.mono hbys)⟩ a9 h9
  · refine wp_seq ?_
    refine vl_r3_wp (fun a3 h3 => ?_) a2 ⟨h2.1, h2.2.1, h2.2.2.1, h2.2.2.2.1, h2.2.2.2.2.1, h2.2.2.2.2.2.1, h2.2.2.2.2.2.2.1, trivial⟩
    have q1 : ¬ kd = 1 := by omega
    refine wp_cond_false ((h3.eval (k := 19) (v := .bool (decide (kd = 1))) (by simp)).trans (by rw [decide_eq_false q1])) ?_
    refine wp_seq ?_
    refine vl_r5_wp (fun a4 h4 => ?_) a3 ⟨h3.1, h3.2.1, h3.2.2.1, h3.2.2.2.1, h3.2.2.2.2.1, h3.2.2.2.2.2.1, h3.2.2.2.2.2.2.1, trivial⟩
    have q2 : ¬ kd = 2 := by omega
    refine wp_cond_false ((h4.eval (k := 21) (v := .bool (decide (kd = 2))) (by simp)).trans (by rw [decide_eq_false q2])) ?_
    refine wp_seq ?_
    refine vl_r15_wp (fun a5 h5 => ?_) a4 ⟨h4.1, h4.2.1, h4.2.2.1, h4.2.2.2.1, h4.2.2.2.2.1, h4.2.2.2.2.2.1, h4.2.2.2.2.2.2.1, trivial⟩
    have q3 : ¬ kd = 3 := by omega
    refine wp_cond_false ((h5.eval (k := 54) (v := .bool (decide (kd = 3))) (by simp)).trans (by rw [decide_eq_false q3])) ?_
    refine wp_seq ?_
    refine vl_r17_wp (fun a6 h6 => ?_) a5 ⟨h5.1, h5.2.1, h5.2.2.1, h5.2.2.2.1, h5.2.2.2.2.1, h5.2.2.2.2.2.1, h5.2.2.2.2.2.2.1, trivial⟩
    have q4 : ¬ kd = 4 := by omega
    refine wp_cond_false ((h6.eval (k := 69) (v := .bool (decide (kd = 4))) (by simp)).trans (by rw [decide_eq_false q4])) ?_
    refine wp_seq ?_
    refine vl_r19_wp (fun a7 h7 => ?_) a6 ⟨h6.1, h6.2.1, h6.2.2.1, h6.2.2.2.1, h6.2.2.2.2.1, h6.2.2.2.2.2.1, h6.2.2.2.2.2.2.1, trivial⟩
    have q5 : ¬ kd = 5 := by omega
    refine wp_cond_false ((h7.eval (k := 79) (v := .bool (decide (kd = 5))) (by simp)).trans (by rw [decide_eq_false q5])) ?_
    refine wp_seq ?_
    refine vl_r21_wp (fun a8 h8 => ?_) a7 ⟨h7.1, h7.2.1, h7.2.2.1, h7.2.2.2.1, h7.2.2.2.2.1, h7.2.2.2.2.2.1, h7.2.2.2.2.2.2.1, trivial⟩
    have q6 : ¬ kd = 6 := by omega
    refine wp_cond_false ((h8.eval (k := 97) (v := .bool (decide (kd = 6))) (by simp)).trans (by rw [decide_eq_false q6])) ?_
    refine wp_seq ?_
    refine vl_r23_wp (fun a9 h9 => ?_) a8 ⟨h8.1, h8.2.1, h8.2.2.1, h8.2.2.2.1, h8.2.2.2.2.1, h8.2.2.2.2.2.1, h8.2.2.2.2.2.2.1, trivial⟩
    have q7 : kd = 7 := by omega
    refine wp_cond_true ((h9.eval (k := 115) (v := .bool (decide (kd = 7))) (by simp)).trans (by rw [decide_eq_true q7])) ?_
    refine wp_seq ?_
    refine wp_thenQ (vl_r24_wp hmy hay hey e0_0 e0_1 e0_2 e0_3 e1_0 e1_1 e1_2 e1_3 hbl hih1 hih2 (fun a9 w9 h9 hb9 => ?_) a9 ⟨h9.1, h9.2.1, h9.2.2.1, h9.2.2.2.1, h9.2.2.2.2.1, h9.2.2.2.2.2.1, trivial⟩)
    refine wp_ret ?_
    repeat (first | refine thenR ?_ | refine inBlockR ?_)
    refine vl_ret_wp (bb := _) ⟨by simp [evalF], hby.trans (hb9.mono hbys)⟩ a9 h9
set_option maxRecDepth 100000 in
set_option maxHeartbeats 4000000 in
theorem value_same (m : Md) (hg : m.good) {Am Bm : Option Addr} {cm dm : Nat} {x y : ByteArray} : ∀ (env : List (ByteArray × Int)) (cs : List Value) (w : World) (S : Nat → Prop) (De : Option Addr) (me ee : Nat), env.length + Fv.nodes (.same x y) ≤ 1000 → fmRep.R w S (Fv.fm (.same x y)) cs → envRep.Sl w S (.slice De me ee) env → (env = [] → De = none) → me ≤ ee → m.In w S [.int .i64 m.sz, .slice Am m.cs.length cm, .slice Bm m.rs.length dm] → (∀ b, S b → b < w.heap.size) → Calls Tryd.prog 48 #[.agg #[.int .i64 m.sz, .slice Am m.cs.length cm, .slice Bm m.rs.length dm], .agg cs.toArray, .slice De me ee] w fun e w' => e = .returned (.bool (evalF m (.same x y) env)) ∧ Below w.heap.size w w' := by
  intro env cs w S De me ee hlen ht he he0 hme hm hS
  change fmRep.R w S (.mk ⟨3, ⟨#[]⟩, [x, y]⟩ []) cs at ht
  generalize hkd : (3 : Int) = kd at ht
  generalize hnme : (⟨#[]⟩ : ByteArray) = nm at ht
  obtain ⟨u, v9, rfl, hnm, hw, hl⟩ := Fm.open_ ht
  simp only at hw hnm
  obtain ⟨A, n1, c1, rfl, e1, hm1, _⟩ := id hw
  obtain ⟨B, n2, c2, rfl, e2, hm2, _⟩ := id hl
  go_enter Tryd.func48, Tryd.ntmps48
  refine wp_seq ?_
  refine vl_r0_wp (fun a0 h0 => ?_) _ (id ⟨rfl, rfl, rfl, rfl, rfl, trivial⟩)
  refine gen_last (fun wx => wx.heap[w.heap.size]? = some (.cells #[.int .i64 m.sz, .slice Am m.cs.length cm, .slice Bm m.rs.length dm] 25 (0, 0)) ∧ wx.heap[w.heap.size + 1]? = some (.cells #[.int .i64 kd, .string nm, .slice A n1 c1, .slice B n2 c2] 29 (0, 0)) ∧ wx.heap[w.heap.size + 1 + 1]? = some (.cells #[.slice De me ee] 71 (0, 0)) ∧ Below w.heap.size w wx) ⟨heap_old (by simp; omega) (heap_old (by simp) (heap_at rfl)), heap_old (by simp) (heap_at (by simp)), heap_at (by simp), by go_grown⟩ ?_
  rintro wy ⟨hmy, hay, hey, hby⟩
  have hbys := hby.size
  have hgyl := lt_heap hey
  have hkeep : ∀ W : World, Below wy.heap.size wy W → ∀ k, S k → W.heap[k]? = w.heap[k]? := fun W hb k hk => (hb.block k (by have := hS k hk; omega)).trans (hby.block k (hS k hk))
  have hlt : ∀ W : World, Below wy.heap.size wy W → ∀ k, S k → k < W.heap.size := fun W hb k hk => by have := hS k hk; have := hb.size; omega
  refine wp_seq ?_
  refine vl_r1_wp (fun a1 h1 => ?_) a0 h0
  refine wp_seq ?_
  refine wp_seq ?_
  refine vl_r2_wp hay (fun a2 h2 => ?_) a1 h1
  refine wp_block ?_
  obtain rfl : n1 = 2 := by simpa using e1.symm
  obtain ⟨b, o, cs1, rfl, hSb, ⟨rfl, _⟩, hcc1⟩ := Rep.Sl.at_ hw (k := 0) (a := x) rfl
  obtain ⟨b', o', cs2, e9, _, ⟨rfl, _⟩, hcc2⟩ := Rep.Sl.at_ hw (k := 1) (a := y) rfl
  simp only [Option.some.injEq, Addr.mk.injEq] at e9
  obtain ⟨rfl, rfl, _⟩ := e9
  have hbl : b < wy.heap.size := hlt wy (Below.refl _ _) b hSb
  have e0_0 : wy.cell? ⟨b, o, none⟩ = _ := (cell_keep (hkeep wy (Below.refl _ _) b hSb) _).trans (hcc1 0 _ rfl)
  have e0_1 : wy.cell? ⟨b, o + 1, none⟩ = _ := (cell_keep (hkeep wy (Below.refl _ _) b hSb) _).trans (hcc2 0 _ rfl)
  have hwd : ∀ (s : ByteArray) (W : World), Below wy.heap.size wy W → Calls Tryd.prog 82 #[.string s, .pointer (some ⟨(w.heap.size + 1 + 1), 0, none⟩), .pointer (some ⟨w.heap.size, 0, none⟩)] W fun e w' => e = .returned (.int .i64 (wordV m env s)) ∧ Below wy.heap.size wy w' := fun s W hb => (word_any m hg env s W S (he.keep (hkeep W hb) (fun _ h => h)) (by omega) (hlt W hb) (hm.keep (hkeep W hb) (fun _ h => h)) ((hb.block _ (lt_heap hey)).trans hey) ((hb.block _ (lt_heap hmy)).trans hmy)).mono (fun e w' h => ⟨h.1, hb.trans (h.2.mono hb.size)⟩)
  refine wp_seq ?_
  refine vl_r3_wp (fun a3 h3 => ?_) a2 ⟨h2.1, h2.2.1, h2.2.2.1, h2.2.2.2.1, h2.2.2.2.2.1, h2.2.2.2.2.2.1, h2.2.2.2.2.2.2.1, trivial⟩
  have q1 : ¬ kd = 1 := by omega
  refine wp_cond_false ((h3.eval (k := 19) (v := .bool (decide (kd = 1))) (by simp)).trans (by rw [decide_eq_false q1])) ?_
  refine wp_seq ?_
  refine vl_r5_wp (fun a4 h4 => ?_) a3 ⟨h3.1, h3.2.1, h3.2.2.1, h3.2.2.2.1, h3.2.2.2.2.1, h3.2.2.2.2.2.1, h3.2.2.2.2.2.2.1, trivial⟩
  have q2 : ¬ kd = 2 := by omega
  refine wp_cond_false ((h4.eval (k := 21) (v := .bool (decide (kd = 2))) (by simp)).trans (by rw [decide_eq_false q2])) ?_
  refine wp_seq ?_
  refine vl_r15_wp (fun a5 h5 => ?_) a4 ⟨h4.1, h4.2.1, h4.2.2.1, h4.2.2.2.1, h4.2.2.2.2.1, h4.2.2.2.2.2.1, h4.2.2.2.2.2.2.1, trivial⟩
  have q3 : kd = 3 := by omega
  refine wp_cond_true ((h5.eval (k := 54) (v := .bool (decide (kd = 3))) (by simp)).trans (by rw [decide_eq_true q3])) ?_
  refine wp_seq ?_
  refine wp_thenQ (vl_r16_wp hay e0_0 e0_1 hbl (hwd x) (hwd y) (fun a9 w9 h9 hb9 => ?_) a5 ⟨h5.1, h5.2.1, h5.2.2.1, h5.2.2.2.1, h5.2.2.2.2.1, h5.2.2.2.2.2.1, trivial⟩)
  refine wp_ret ?_
  repeat (first | refine thenR ?_ | refine inBlockR ?_)
  refine vl_ret_wp (bb := _) ⟨rfl, hby.trans (hb9.mono hbys)⟩ a9 h9
set_option maxRecDepth 100000 in
set_option maxHeartbeats 4000000 in
theorem value_pred (m : Md) (hg : m.good) {Am Bm : Option Addr} {cm dm : Nat} {n : ByteArray} {ws : List ByteArray} (hok : (Fv.pred n ws).ok) (hrel : (relV m n ws.length).isSome = true) : ∀ (env : List (ByteArray × Int)) (cs : List Value) (w : World) (S : Nat → Prop) (De : Option Addr) (me ee : Nat), env.length + Fv.nodes (.pred n ws) ≤ 1000 → fmRep.R w S (Fv.fm (.pred n ws)) cs → envRep.Sl w S (.slice De me ee) env → (env = [] → De = none) → me ≤ ee → m.In w S [.int .i64 m.sz, .slice Am m.cs.length cm, .slice Bm m.rs.length dm] → (∀ b, S b → b < w.heap.size) → Calls Tryd.prog 48 #[.agg #[.int .i64 m.sz, .slice Am m.cs.length cm, .slice Bm m.rs.length dm], .agg cs.toArray, .slice De me ee] w fun e w' => e = .returned (.bool (evalF m (.pred n ws) env)) ∧ Below w.heap.size w w' := by
  intro env cs w S De me ee hlen ht he he0 hme hm hS
  change fmRep.R w S (.mk ⟨2, n, ws⟩ []) cs at ht
  generalize hkd : (2 : Int) = kd at ht
  generalize hnme : (n : ByteArray) = nm at ht
  obtain ⟨u, v9, rfl, hnm, hw, hl⟩ := Fm.open_ ht
  simp only at hw hnm
  obtain ⟨A, n1, c1, rfl, e1, hm1, _⟩ := id hw
  obtain ⟨B, n2, c2, rfl, e2, hm2, _⟩ := id hl
  go_enter Tryd.func48, Tryd.ntmps48
  refine wp_seq ?_
  refine vl_r0_wp (fun a0 h0 => ?_) _ (id ⟨rfl, rfl, rfl, rfl, rfl, trivial⟩)
  refine gen_last (fun wx => wx.heap[w.heap.size]? = some (.cells #[.int .i64 m.sz, .slice Am m.cs.length cm, .slice Bm m.rs.length dm] 25 (0, 0)) ∧ wx.heap[w.heap.size + 1]? = some (.cells #[.int .i64 kd, .string nm, .slice A n1 c1, .slice B n2 c2] 29 (0, 0)) ∧ wx.heap[w.heap.size + 1 + 1]? = some (.cells #[.slice De me ee] 71 (0, 0)) ∧ Below w.heap.size w wx) ⟨heap_old (by simp; omega) (heap_old (by simp) (heap_at rfl)), heap_old (by simp) (heap_at (by simp)), heap_at (by simp), by go_grown⟩ ?_
  rintro wy ⟨hmy, hay, hey, hby⟩
  have hbys := hby.size
  have hgyl := lt_heap hey
  have hkeep : ∀ W : World, Below wy.heap.size wy W → ∀ k, S k → W.heap[k]? = w.heap[k]? := fun W hb k hk => (hb.block k (by have := hS k hk; omega)).trans (hby.block k (hS k hk))
  have hlt : ∀ W : World, Below wy.heap.size wy W → ∀ k, S k → k < W.heap.size := fun W hb k hk => by have := hS k hk; have := hb.size; omega
  refine wp_seq ?_
  refine vl_r1_wp (fun a1 h1 => ?_) a0 h0
  refine wp_seq ?_
  refine wp_seq ?_
  refine vl_r2_wp hay (fun a2 h2 => ?_) a1 h1
  refine wp_block ?_
  subst hnme
  have hwl := hok.2.1
  have hn1 : n1 = ws.length := by omega
  have hrow : ∀ (s : ByteArray) (W : World) (v' : Value) (k : Nat) (xs : List Value), Below wy.heap.size wy W → W.ownsRow wy.heap.size 3 1 v' k xs → Calls Tryd.prog 82 #[.string s, .pointer (some ⟨(w.heap.size + 1 + 1), 0, none⟩), .pointer (some ⟨w.heap.size, 0, none⟩)] W fun e w' => e = .returned (.int .i64 (wordV m env s)) ∧ Below wy.heap.size W w' ∧ w'.ownsRow wy.heap.size 3 1 v' k xs ∧ wy.heap.size ≤ w'.heap.size := fun s W v' k xs hb hr => (word_any m hg env s W S (he.keep (hkeep W hb) (fun _ h => h)) (by omega) (hlt W hb) (hm.keep (hkeep W hb) (fun _ h => h)) ((hb.block _ (lt_heap hey)).trans hey) ((hb.block _ (lt_heap hmy)).trans hmy)).mono (fun e w' h => ⟨h.1, h.2.mono hb.size, own_keep hr h.2.block, by have := h.2.size; have := hb.size; omega⟩)
  refine wp_seq ?_
  refine vl_r3_wp (fun a3 h3 => ?_) a2 ⟨h2.1, h2.2.1, h2.2.2.1, h2.2.2.2.1, h2.2.2.2.2.1, h2.2.2.2.2.2.1, h2.2.2.2.2.2.2.1, trivial⟩
  have q1 : ¬ kd = 1 := by omega
  refine wp_cond_false ((h3.eval (k := 19) (v := .bool (decide (kd = 1))) (by simp)).trans (by rw [decide_eq_false q1])) ?_
  refine wp_seq ?_
  refine vl_r5_wp (fun a4 h4 => ?_) a3 ⟨h3.1, h3.2.1, h3.2.2.1, h3.2.2.2.1, h3.2.2.2.2.1, h3.2.2.2.2.2.1, h3.2.2.2.2.2.2.1, trivial⟩
  have q2 : kd = 2 := by omega
  refine wp_cond_true ((h4.eval (k := 21) (v := .bool (decide (kd = 2))) (by simp)).trans (by rw [decide_eq_true q2])) ?_
  refine wp_seq ?_
  refine vl_r6_wp (fun a9 h9 => ?_) a4 ⟨h4.1, h4.2.1, h4.2.2.1, h4.2.2.2.1, h4.2.2.2.2.1, h4.2.2.2.2.2.1, trivial⟩
  refine wp_seq ?_
  refine wp_seq ?_
  refine vl_r7_wp hay (fun a10 h10 => ?_) a9 h9
  refine wp_block ?_
  refine wp_loopR (fun g a' w' => ∃ (j : Nat) (v' : Value), j + g = ws.length ∧ w'.ownsRow wy.heap.size 3 1 v' j ((ws.take j).map (fun x => .int .i64 (wordV m env x))) ∧ Below wy.heap.size wy w' ∧ Frm 168 [(3, .pointer (some ⟨w.heap.size, 0, none⟩)), (4, .pointer (some ⟨(w.heap.size + 1), 0, none⟩)), (5, .pointer (some ⟨(w.heap.size + 1 + 1), 0, none⟩)), (7, .func (Fn.func 82) #[] #[.pointer (some ⟨(w.heap.size + 1 + 1), 0, none⟩), .pointer (some ⟨w.heap.size, 0, none⟩)]), (8, v'), (24, .slice A n1 c1), (25, .int .i64 (n1 : Nat)), (26, .int .i64 (j : Nat))] a') ws.length ⟨0, _, by omega, World.ownsRow_nil _ _ _ _, Below.refl _ _, h10⟩ ?_
  rintro g a11 w3 ⟨j, v', hjg, hr3, hb3, h11⟩
  have hb3s := hb3.size
  refine wp_seq ?_
  refine vl_r8_wp (fun a12 h12 => ?_) a11 h11
  refine wp_seq ?_
  by_cases hj : j < n1
  case neg =>
    refine wp_cond_false ((h12.eval (k := 27) (v := .bool (decide (j < n1))) (by simp)).trans (by rw [decide_eq_false hj])) ?_
    refine wp_exit ?_
    repeat refine then_exit ?_
    refine inBlock_exit ?_
    show Code.wp _ _ _ a12 w3
    have hjl : j = ws.length := by omega
    rw [List.take_of_length_le (by omega)] at hr3
    obtain ⟨ts, hts⟩ : ∃ ts, ws.map (wordV m env) = ts := ⟨_, rfl⟩
    have hr3' : w3.ownsRow wy.heap.size 3 1 v' j (ts.map (.int .i64 ·)) := by
      rw [← hts, List.map_map]; exact hr3
    have htl : ts.length = ws.length := by rw [← hts, List.length_map]
    have hjt : j = ts.length := by omega
    clear hr3 hjl
    subst hjt
    obtain ⟨Dt, et, rfl, _⟩ := own_cap hr3'
    have hsl : zRep.Sl w3 (fun k => k < w3.heap.size) (.slice Dt ts.length et) ts := sl_of_own hr3' (zAll ts) (by unfold maxLen; omega) (fun k hk => (hr3'.lt k hk).2)
    have hrel' : (relV m n ts.length).isSome = true := by rw [htl]; exact hrel
    obtain ⟨r, hr⟩ := Option.isSome_iff_exists.1 hrel'
    have hrm : r ∈ m.rs := List.mem_of_find?_eq_some hr
    have hay3 := (hb3.block _ (lt_heap hay)).trans hay
    have hmy3 := (hb3.block _ (lt_heap hmy)).trans hmy
    refine wp_seq ?_
    refine vl_r12_wp (bb := (relV m n ts.length).isSome) (X := fun p y D9 a9 b9 => ∀ r, relV m n ts.length = some r → p = r.nm ∧ y = r.ar ∧ intsRep.Sl w3 S (.slice D9 a9 b9) r.tp) hay3 hmy3 (find_any m n hnm ts.length _ w3 S (hm.keep (hkeep w3 hb3) (fun _ h => h)) (hlt w3 hb3) hg) (fun rn ra D9 a9 b9 gx a13 w13 h13 hx13 hb13 hX => ?_) a12 ⟨h12.1, h12.2.1, h12.2.2.1, h12.2.2.2.1, h12.2.2.2.2.1, h12.2.2.2.2.2.1, h12.2.2.2.2.2.2.1, trivial⟩
    obtain ⟨rfl, rfl, hsr⟩ := hX r hr
    have hb13s := hb13.size
    have hcut := @hit_lt _ (fun u => cmpL u ts) r.tp
    have hbs := br_any r.tp (fun u => cmpL u ts) D9 a9 b9 (.slice Dt ts.length et) w13 S (hsr.keep (fun k hk => hb13.block k (hlt w3 hb3 k hk)) (fun _ h => h)) (fun k hk => by have := hlt w3 hb3 k hk; omega) (Rel.few hg.sz (hg.rk r hrm)) (mono_cut (Rel.tup_cut (hg.rk r hrm) ts)) (fun W q hq es hes hbS hbW => by
      obtain ⟨v9, rfl, hv9⟩ := hes
      obtain ⟨B9, d9, rfl, _⟩ := hv9.shape
      exact (cmpL_any _ ts B9 Dt d9 et W (fun _ => True) (hv9.keep (fun _ _ => rfl) (fun _ _ => trivial)) (hsl.keep (fun k hk => (hbW.block k (by omega)).trans (hb13.block k hk)) (fun _ _ => trivial))).mono (fun e w' h => ⟨h.1, by rw [h.2]; exact Below.refl _ _⟩))
    refine wp_seq ?_
    refine vl_r13_wp hx13 hbs (fun a14 w14 h14 hb14 => ?_) a13 ⟨h13.1, h13.2.1, h13.2.2.1, h13.2.2.2.1, h13.2.2.2.2.1, h13.2.2.2.2.2.1, h13.2.2.2.2.2.2.1, h13.2.2.2.2.2.2.2.1, trivial⟩
    refine wp_seq ?_
    refine vl_r14_wp (fun a15 h15 => ?_) a14 h14
    refine wp_ret ?_
    repeat (first | refine thenR ?_ | refine inBlockR ?_)
    refine vl_ret_wp (bb := _) ⟨?_, hby.trans ((hb3.trans ((hb13.trans (hb14.mono hb13s)).mono hb3s)).mono hbys)⟩ a15 h15
    show Ending.returned (.bool _) = .returned (.bool (predV m n (ws.map (wordV m env))))
    rw [hts, pred_hit hg hr hcut]
  refine wp_cond_true ((h12.eval (k := 27) (v := .bool (decide (j < n1))) (by simp)).trans (by rw [decide_eq_true hj])) ?_
  refine wp_skip ?_
  show Code.wp _ _ _ a12 w3
  have hjl : j < ws.length := by omega
  obtain ⟨b, o, cs1, rfl, hSb, ⟨rfl, _⟩, hcc⟩ := Rep.Sl.at_ hw (List.getElem?_eq_getElem hjl)
  have hc0 : w3.cell? ⟨b, o + j, none⟩ = some (.string ws[j]) := (cell_keep (hkeep w3 hb3 b hSb) _).trans (by simpa [strRep] using hcc 0 _ rfl)
  obtain ⟨A9, c9, rfl, _⟩ := own_cap hr3
  refine wp_seq ?_
  refine wp_block ?_
  refine wp_seq ?_
  refine vl_r9_wp hj hc0 (hlt w3 hb3 b hSb) (fun a13 h13 => ?_) a12 ⟨h12.1, h12.2.1, h12.2.2.1, h12.2.2.2.1, h12.2.2.2.2.1, h12.2.2.2.2.2.1, h12.2.2.2.2.2.2.1, h12.2.2.2.2.2.2.2.1, h12.2.2.2.2.2.2.2.2.1, h12.2.2.2.2.2.2.2.2.2.1, trivial⟩
  refine vl_r10_wp (by omega) (hrow ws[j] w3 _ _ _ hb3 hr3) (fun v4 a14 w4 h14 hr4 hb4 => ?_) a13 h13
  show Code.wp _ _ _ a14 w4
  refine vl_r11_wp hj (by unfold maxLen; omega) (fun a15 h15 => ?_) a14 h14
  refine ⟨g - 1, by omega, j + 1, v4, by omega, ?_, hb3.trans hb4, h15⟩
  rw [List.take_succ_eq_append_getElem hjl, List.map_append]
  exact hr4
set_option maxRecDepth 100000 in
set_option maxHeartbeats 4000000 in
theorem value_qu (m : Md) (hg : m.good) {Am Bm : Option Addr} {cm dm : Nat} {k : Nat} {x : ByteArray} {f : Fv} (hok : (Fv.qu k x f).ok) (hrel : hasRels m f = true) (ihf : Fv.ok f → hasRels m f = true → ∀ (env : List (ByteArray × Int)) (cs : List Value) (w : World) (S : Nat → Prop) (De : Option Addr) (me ee : Nat), env.length + Fv.nodes (f) ≤ 1000 → fmRep.R w S (Fv.fm (f)) cs → envRep.Sl w S (.slice De me ee) env → (env = [] → De = none) → me ≤ ee → m.In w S [.int .i64 m.sz, .slice Am m.cs.length cm, .slice Bm m.rs.length dm] → (∀ b, S b → b < w.heap.size) → Calls Tryd.prog 48 #[.agg #[.int .i64 m.sz, .slice Am m.cs.length cm, .slice Bm m.rs.length dm], .agg cs.toArray, .slice De me ee] w fun e w' => e = .returned (.bool (evalF m (f) env)) ∧ Below w.heap.size w w') : ∀ (env : List (ByteArray × Int)) (cs : List Value) (w : World) (S : Nat → Prop) (De : Option Addr) (me ee : Nat), env.length + Fv.nodes (.qu k x f) ≤ 1000 → fmRep.R w S (Fv.fm (.qu k x f)) cs → envRep.Sl w S (.slice De me ee) env → (env = [] → De = none) → me ≤ ee → m.In w S [.int .i64 m.sz, .slice Am m.cs.length cm, .slice Bm m.rs.length dm] → (∀ b, S b → b < w.heap.size) → Calls Tryd.prog 48 #[.agg #[.int .i64 m.sz, .slice Am m.cs.length cm, .slice Bm m.rs.length dm], .agg cs.toArray, .slice De me ee] w fun e w' => e = .returned (.bool (evalF m (.qu k x f) env)) ∧ Below w.heap.size w w' := by
  intro env cs w S De me ee hlen ht he he0 hme hm hS
  change fmRep.R w S (.mk ⟨(k : Int), x, []⟩ [f.fm]) cs at ht
  generalize hkd : ((k : Int) : Int) = kd at ht
  generalize hnme : (x : ByteArray) = nm at ht
  obtain ⟨u, v9, rfl, hnm, hw, hl⟩ := Fm.open_ ht
  simp only at hw hnm
  obtain ⟨A, n1, c1, rfl, e1, hm1, _⟩ := id hw
  obtain ⟨B, n2, c2, rfl, e2, hm2, _⟩ := id hl
  go_enter Tryd.func48, Tryd.ntmps48
  refine wp_seq ?_
  refine vl_r0_wp (fun a0 h0 => ?_) _ (id ⟨rfl, rfl, rfl, rfl, rfl, trivial⟩)
  refine gen_last (fun wx => wx.heap[w.heap.size]? = some (.cells #[.int .i64 m.sz, .slice Am m.cs.length cm, .slice Bm m.rs.length dm] 25 (0, 0)) ∧ wx.heap[w.heap.size + 1]? = some (.cells #[.int .i64 kd, .string nm, .slice A n1 c1, .slice B n2 c2] 29 (0, 0)) ∧ wx.heap[w.heap.size + 1 + 1]? = some (.cells #[.slice De me ee] 71 (0, 0)) ∧ Below w.heap.size w wx) ⟨heap_old (by simp; omega) (heap_old (by simp) (heap_at rfl)), heap_old (by simp) (heap_at (by simp)), heap_at (by simp), by go_grown⟩ ?_
  rintro wy ⟨hmy, hay, hey, hby⟩
  have hbys := hby.size
  have hgyl := lt_heap hey
  have hkeep : ∀ W : World, Below wy.heap.size wy W → ∀ k, S k → W.heap[k]? = w.heap[k]? := fun W hb k hk => (hb.block k (by have := hS k hk; omega)).trans (hby.block k (hS k hk))
  have hlt : ∀ W : World, Below wy.heap.size wy W → ∀ k, S k → k < W.heap.size := fun W hb k hk => by have := hS k hk; have := hb.size; omega
  refine wp_seq ?_
  refine vl_r1_wp (fun a1 h1 => ?_) a0 h0
  refine wp_seq ?_
  refine wp_seq ?_
  refine vl_r2_wp hay (fun a2 h2 => ?_) a1 h1
  refine wp_block ?_
  simp only [Fv.nodes] at hlen
  subst hnme
  have hk := hok.1
  obtain rfl : n2 = 1 := by simpa using e2.symm
  obtain ⟨b, o, cs1, rfl, hSb, hr1, hcc1⟩ := Rep.Sl.at_ hl (k := 0) (a := f.fm) rfl
  obtain ⟨Ae, n3, c3, Be, n4, c4, rfl, _, _, _, _⟩ := Fm.shape hr1
  have hbl : b < wy.heap.size := hlt wy (Below.refl _ _) b hSb
  refine wp_seq ?_
  refine vl_r3_wp (fun a3 h3 => ?_) a2 ⟨h2.1, h2.2.1, h2.2.2.1, h2.2.2.2.1, h2.2.2.2.2.1, h2.2.2.2.2.2.1, h2.2.2.2.2.2.2.1, trivial⟩
  have q1 : ¬ kd = 1 := by omega
  refine wp_cond_false ((h3.eval (k := 19) (v := .bool (decide (kd = 1))) (by simp)).trans (by rw [decide_eq_false q1])) ?_
  refine wp_seq ?_
  refine vl_r5_wp (fun a4 h4 => ?_) a3 ⟨h3.1, h3.2.1, h3.2.2.1, h3.2.2.2.1, h3.2.2.2.2.1, h3.2.2.2.2.2.1, h3.2.2.2.2.2.2.1, trivial⟩
  have q2 : ¬ kd = 2 := by omega
  refine wp_cond_false ((h4.eval (k := 21) (v := .bool (decide (kd = 2))) (by simp)).trans (by rw [decide_eq_false q2])) ?_
  refine wp_seq ?_
  refine vl_r15_wp (fun a5 h5 => ?_) a4 ⟨h4.1, h4.2.1, h4.2.2.1, h4.2.2.2.1, h4.2.2.2.2.1, h4.2.2.2.2.2.1, h4.2.2.2.2.2.2.1, trivial⟩
  have q3 : ¬ kd = 3 := by omega
  refine wp_cond_false ((h5.eval (k := 54) (v := .bool (decide (kd = 3))) (by simp)).trans (by rw [decide_eq_false q3])) ?_
  refine wp_seq ?_
  refine vl_r17_wp (fun a6 h6 => ?_) a5 ⟨h5.1, h5.2.1, h5.2.2.1, h5.2.2.2.1, h5.2.2.2.2.1, h5.2.2.2.2.2.1, h5.2.2.2.2.2.2.1, trivial⟩
  have q4 : ¬ kd = 4 := by omega
  refine wp_cond_false ((h6.eval (k := 69) (v := .bool (decide (kd = 4))) (by simp)).trans (by rw [decide_eq_false q4])) ?_
  refine wp_seq ?_
  refine vl_r19_wp (fun a7 h7 => ?_) a6 ⟨h6.1, h6.2.1, h6.2.2.1, h6.2.2.2.1, h6.2.2.2.2.1, h6.2.2.2.2.2.1, h6.2.2.2.2.2.2.1, trivial⟩
  have q5 : ¬ kd = 5 := by omega
  refine wp_cond_false ((h7.eval (k := 79) (v := .bool (decide (kd = 5))) (by simp)).trans (by rw [decide_eq_false q5])) ?_
  refine wp_seq ?_
  refine vl_r21_wp (fun a8 h8 => ?_) a7 ⟨h7.1, h7.2.1, h7.2.2.1, h7.2.2.2.1, h7.2.2.2.2.1, h7.2.2.2.2.2.1, h7.2.2.2.2.2.2.1, trivial⟩
  have q6 : ¬ kd = 6 := by omega
  refine wp_cond_false ((h8.eval (k := 97) (v := .bool (decide (kd = 6))) (by simp)).trans (by rw [decide_eq_false q6])) ?_
  refine wp_seq ?_
  refine vl_r23_wp (fun a9 h9 => ?_) a8 ⟨h8.1, h8.2.1, h8.2.2.1, h8.2.2.2.1, h8.2.2.2.2.1, h8.2.2.2.2.2.1, h8.2.2.2.2.2.2.1, trivial⟩
  have q7 : ¬ kd = 7 := by omega
  refine wp_cond_false ((h9.eval (k := 115) (v := .bool (decide (kd = 7))) (by simp)).trans (by rw [decide_eq_false q7])) ?_
  refine wp_skip ?_
  show Code.wp _ _ _ a9 wy
  refine wp_seq ?_
  refine wp_seq ?_
  refine vl_r25_wp hmy (fun a10 h10 => ?_) a9 ⟨h9.1, h9.2.1, h9.2.2.1, h9.2.2.2.1, h9.2.2.2.2.1, h9.2.2.2.2.2.1, trivial⟩
  refine wp_block ?_
  refine wp_loopR (fun g a' w' => ∃ i : Nat, i + g = m.sz.toNat ∧ (∀ j : Nat, j < i → (evalF m f (env ++ [(x, (j : Int))]) != (kd == 8)) = false) ∧ Below wy.heap.size wy w' ∧ Frm 168 [(3, .pointer (some ⟨w.heap.size, 0, none⟩)), (4, .pointer (some ⟨(w.heap.size + 1), 0, none⟩)), (5, .pointer (some ⟨(w.heap.size + 1 + 1), 0, none⟩)), (7, .func (Fn.func 82) #[] #[.pointer (some ⟨(w.heap.size + 1 + 1), 0, none⟩), .pointer (some ⟨w.heap.size, 0, none⟩)]), (135, .int .i64 m.sz), (136, .int .i64 (i : Nat))] a') m.sz.toNat ⟨0, by omega, fun j hj => absurd hj (Nat.not_lt_zero _), Below.refl _ _, h10⟩ ?_
  rintro g a11 w3 ⟨i, hig, hno, hb3, h11⟩
  have hb3s := hb3.size
  have hay3 := (hb3.block _ (lt_heap hay)).trans hay
  have hmy3 := (hb3.block _ (lt_heap hmy)).trans hmy
  have hey3 := (hb3.block _ (lt_heap hey)).trans hey
  have hsz := hg.sz
  refine wp_seq ?_
  refine vl_r26_wp (fun a12 h12 => ?_) a11 h11
  refine wp_seq ?_
  by_cases hi : (i : Int) < m.sz
  case neg =>
    refine wp_cond_false ((h12.eval (k := 137) (v := .bool (decide ((i : Int) < m.sz))) (by simp)).trans (by rw [decide_eq_false hi])) ?_
    refine wp_exit ?_
    repeat refine then_exit ?_
    refine inBlock_exit ?_
    show Code.wp _ _ _ a12 w3
    refine wp_seq ?_
    refine vl_r31_wp hay3 (fun a15 h15 => ?_) a12 ⟨h12.1, h12.2.1, h12.2.2.1, h12.2.2.2.1, h12.2.2.2.2.1, h12.2.2.2.2.2.1, trivial⟩
    refine wp_ret ?_
    repeat (first | refine thenR ?_ | refine inBlockR ?_)
    refine vl_ret_wp (bb := _) ⟨?_, hby.trans (hb3.mono hbys)⟩ a15 h15
    rw [← hkd, qu_end hk (fun j hj => by rw [hkd]; exact hno j (by omega))]
  refine wp_cond_true ((h12.eval (k := 137) (v := .bool (decide ((i : Int) < m.sz))) (by simp)).trans (by rw [decide_eq_true hi])) ?_
  refine wp_skip ?_
  show Code.wp _ _ _ a12 w3
  refine wp_seq ?_
  refine wp_block ?_
  refine wp_seq ?_
  refine vl_r27_wp (fun a13 h13 => ?_) a12 ⟨h12.1, h12.2.1, h12.2.2.1, h12.2.2.2.1, h12.2.2.2.2.1, h12.2.2.2.2.2.1, h12.2.2.2.2.2.2.1, h12.2.2.2.2.2.2.2.1, trivial⟩
  have e0_0 : w3.cell? ⟨b, o, none⟩ = _ := (cell_keep (hkeep w3 hb3 b hSb) _).trans (hcc1 0 _ rfl)
  have e0_1 : w3.cell? ⟨b, o + 1, none⟩ = _ := (cell_keep (hkeep w3 hb3 b hSb) _).trans (hcc1 1 _ rfl)
  have e0_2 : w3.cell? ⟨b, o + 2, none⟩ = _ := (cell_keep (hkeep w3 hb3 b hSb) _).trans (hcc1 2 _ rfl)
  have e0_3 : w3.cell? ⟨b, o + 3, none⟩ = _ := (cell_keep (hkeep w3 hb3 b hSb) _).trans (hcc1 3 _ rfl)
  have hih : ∀ (W : World) (v' : Value), W.ownsRow (w3.heap.size + 1) 72 2 v' (env.length + 1) (envVals env ++ [.string x, .int .i64 (i : Nat)]) → Below w3.heap.size w3 W → Calls Tryd.prog 48 #[.agg #[.int .i64 m.sz, .slice Am m.cs.length cm, .slice Bm m.rs.length dm], .agg #[.int .i64 f.fm.lab.kind, .string f.fm.lab.nm, .slice Ae n3 c3, .slice Be n4 c4], v'] W fun e w' => e = .returned (.bool (evalF m f (env ++ [(x, (i : Int))]))) ∧ Below w3.heap.size w3 w' := by
    intro W v' hown hbW
    have hbW2 := hb3.trans (hbW.mono hb3s)
    have hbWs := hbW.size
    obtain ⟨A9, c9, rfl, hcap⟩ := own_cap hown
    have hS' : ∀ k, (S k ∨ (w3.heap.size ≤ k ∧ k < W.heap.size)) → k < W.heap.size := fun k hk => hk.elim (fun h => hlt W hbW2 k h) (fun h => h.2)
    have hsl : envRep.Sl W (fun k => S k ∨ (w3.heap.size ≤ k ∧ k < W.heap.size)) (.slice A9 (env.length + 1) c9) (env ++ [(x, (i : Int))]) := by
      have h9 := sl_of_own (ρ := envRep) (l := env ++ [(x, (i : Int))]) (S := fun k => S k ∨ (w3.heap.size ≤ k ∧ k < W.heap.size)) (xs := envVals (env ++ [(x, (i : Int))])) (v := .slice A9 (env.length + 1) c9) (E := 72) (base := w3.heap.size + 1) (w := W) (by rw [envVals_snoc, List.length_append]; exact hown) (envAll _) (by rw [List.length_append]; unfold maxLen; simp only [List.length_singleton]; omega) (fun k hk => Or.inr ⟨by have := (hown.lt k hk).1; omega, (hown.lt k hk).2⟩)
      exact h9
    exact (ihf hok.2.2 hrel (env ++ [(x, (i : Int))]) _ W (fun k => S k ∨ (w3.heap.size ≤ k ∧ k < W.heap.size)) _ _ _ (by rw [List.length_append, List.length_singleton]; omega) (fmRep.keep hr1 (hkeep W hbW2) (fun _ h => Or.inl h)) hsl (fun h => by simp at h) hcap (hm.keep (hkeep W hbW2) (fun _ h => Or.inl h)) hS').mono (fun e w' h => ⟨h.1, hbW.trans (h.2.mono hbWs)⟩)
  refine wp_seq ?_
  refine wp_via (fun a9 w9 => Frm 168 [(3, .pointer (some ⟨w.heap.size, 0, none⟩)), (4, .pointer (some ⟨(w.heap.size + 1), 0, none⟩)), (5, .pointer (some ⟨(w.heap.size + 1 + 1), 0, none⟩)), (7, .func (Fn.func 82) #[] #[.pointer (some ⟨(w.heap.size + 1 + 1), 0, none⟩), .pointer (some ⟨w.heap.size, 0, none⟩)]), (135, .int .i64 m.sz), (136, .int .i64 (i : Nat)), (160, .bool (evalF m f (env ++ [(x, (i : Int))]) != (kd == 8)))] a9 ∧ Below w3.heap.size w3 w9) ?_ (fun hK => ?_)
  · rintro a14 w4 ⟨h14, hb4⟩
    have hb34 := hb3.trans (hb4.mono hb3s)
    have hay4 := (hb34.block _ (lt_heap hay)).trans hay
    cases hx2 : (evalF m f (env ++ [(x, (i : Int))]) != (kd == 8))
    · rw [hx2] at h14
      refine wp_cond_false ((h14.eval (k := 160) (v := .bool false) (by simp)).trans (by rw [show false = false from rfl])) ?_
      refine wp_skip ?_
      show Code.wp _ _ _ a14 w4
      refine vl_r30_wp (by omega) (fun a15 h15 => ?_) a14 ⟨h14.1, h14.2.1, h14.2.2.1, h14.2.2.2.1, h14.2.2.2.2.1, h14.2.2.2.2.2.1, h14.2.2.2.2.2.2.1, h14.2.2.2.2.2.2.2.1, trivial⟩
      refine ⟨g - 1, by omega, i + 1, by omega, fun j hj => ?_, hb34, h15⟩
      by_cases hji : j = i
      · rw [hji]; exact hx2
      · exact hno j (by omega)
    · rw [hx2] at h14
      refine wp_cond_true ((h14.eval (k := 160) (v := .bool true) (by simp)).trans (by rw [show true = true from rfl])) ?_
      refine wp_seq ?_
      refine vl_r29_wp hay4 (fun a15 h15 => ?_) a14 ⟨h14.1, h14.2.1, h14.2.2.1, h14.2.2.2.1, h14.2.2.2.2.1, h14.2.2.2.2.2.1, trivial⟩
      refine wp_ret ?_
      repeat (first | refine thenR ?_ | refine inBlockR ?_)
      refine vl_ret_wp (bb := _) ⟨?_, hby.trans (hb34.mono hbys)⟩ a15 h15
      rw [← hkd, qu_stop hk hi (by rw [hkd]; exact hx2)]
  · have hl3 : b < w3.heap.size := hlt w3 hb3 b hSb
    obtain ⟨De', me', ee', eqd, hel, _, hpos⟩ := id he
    simp only [Value.slice.injEq] at eqd
    obtain ⟨rfl, rfl, rfl⟩ := eqd
    by_cases hz : env = []
    · have hD := he0 hz
      subst hz
      subst hD
      obtain rfl : me = 0 := by simpa using hel.symm
      refine wp_thenF ?_
      exact vl_r28n_wp hmy3 hay3 hey3 e0_0 e0_1 e0_2 e0_3 hl3 rfl rfl hih (fun a14 w4 h14 hb4 => hK _ _ ⟨h14, hb4⟩) a13 h13
    · have hp : 0 < me := by
        rcases Nat.eq_zero_or_pos me with h | h
        · exact absurd (List.length_eq_zero_iff.1 (by omega)) hz
        · exact h
      obtain ⟨b2, o2, xs, rfl, hSb2, hxs, hcell⟩ := hpos hp
      obtain rfl := envAll_eq hxs
      rw [hel] at hih
      refine wp_thenF ?_
      exact vl_r28_wp hmy3 hay3 hel (by omega) hme (hlt w3 hb3 b2 hSb2) (fun j u hu => (cell_keep (hkeep w3 hb3 b2 hSb2) _).trans (hcell j u hu)) hey3 e0_0 e0_1 e0_2 e0_3 hl3 rfl rfl hih (fun a14 w4 h14 hb4 => hK _ _ ⟨h14, hb4⟩) a13 h13
/-- truth.Value. -/
theorem value_any (m : Md) (hg : m.good) {Am Bm : Option Addr} {cm dm : Nat} : ∀ v : Fv, v.ok → hasRels m v = true → ∀ (env : List (ByteArray × Int)) (cs : List Value) (w : World) (S : Nat → Prop) (De : Option Addr) (me ee : Nat), env.length + Fv.nodes (v) ≤ 1000 → fmRep.R w S (Fv.fm (v)) cs → envRep.Sl w S (.slice De me ee) env → (env = [] → De = none) → me ≤ ee → m.In w S [.int .i64 m.sz, .slice Am m.cs.length cm, .slice Bm m.rs.length dm] → (∀ b, S b → b < w.heap.size) → Calls Tryd.prog 48 #[.agg #[.int .i64 m.sz, .slice Am m.cs.length cm, .slice Bm m.rs.length dm], .agg cs.toArray, .slice De me ee] w fun e w' => e = .returned (.bool (evalF m (v) env)) ∧ Below w.heap.size w w'
  | .tru, _, _ => value_tru m hg
  | .pred _ _, h, hr => value_pred m hg h hr
  | .same _ _, _, _ => value_same m hg
  | .neg f, h, hr => value_neg m hg h hr (value_any m hg f)
  | .bin _ f g, h, hr => value_bin m hg h (by simpa [hasRels] using hr) (value_any m hg f) (value_any m hg g)
  | .qu _ _ f, h, hr => value_qu m hg h hr (value_any m hg f)
end

section
open Go Go.RowKit
set_option linter.unusedSimpArgs false
set_option linter.unusedVariables false

theorem keeps2G {w : World} {b : Nat} {v0 v1 : Value} : Keeps (fun k => k = b) w ((w.setCell ⟨b, 0, none⟩ v0).setCell ⟨b, 1, none⟩ v1) := Keeps.set (P := fun k => k = b) (Keeps.set (P := fun k => k = b) (Keeps.refl (fun k => k = b) w) (Or.inl rfl) 0 v0) (Or.inl rfl) 1 v1
set_option maxRecDepth 1000000 in
theorem frame_ho {P : Act → Prop} (h : ∀ x0 x1 x2 x3 x4 x5 x6 x7 x8 x9 x10 x11 x12 x13 x14 x15 x16 x17 x18 x19 x20 x21 x22 x23 x24 x25 x26 x27 x28 x29 x30 x31 : Value, P ⟨(x0 :: x1 :: x2 :: x3 :: x4 :: x5 :: x6 :: x7 :: x8 :: x9 :: x10 :: x11 :: x12 :: x13 :: x14 :: x15 :: x16 :: x17 :: x18 :: x19 :: x20 :: x21 :: x22 :: x23 :: x24 :: x25 :: x26 :: x27 :: x28 :: x29 :: x30 :: x31 :: []).toArray, []⟩) : ∀ a : Act, a.tmps.toList.length = 32 → a.defers = [] → P a := by
  rintro ⟨⟨l⟩, d⟩ hs hd
  simp only at hd
  subst hd
  revert l
  show ∀ l : List Value, l.length = 32 → P ⟨⟨l⟩, []⟩
  refine openS (n := 31) (fun x0 => ?_)
  refine openS (n := 30) (fun x1 => ?_)
  refine openS (n := 29) (fun x2 => ?_)
  refine openS (n := 28) (fun x3 => ?_)
  refine openS (n := 27) (fun x4 => ?_)
  refine openS (n := 26) (fun x5 => ?_)
  refine openS (n := 25) (fun x6 => ?_)
  refine openS (n := 24) (fun x7 => ?_)
  refine openS (n := 23) (fun x8 => ?_)
  refine openS (n := 22) (fun x9 => ?_)
  refine openS (n := 21) (fun x10 => ?_)
  refine openS (n := 20) (fun x11 => ?_)
  refine openS (n := 19) (fun x12 => ?_)
  refine openS (n := 18) (fun x13 => ?_)
  refine openS (n := 17) (fun x14 => ?_)
  refine openS (n := 16) (fun x15 => ?_)
  refine openS (n := 15) (fun x16 => ?_)
  refine openS (n := 14) (fun x17 => ?_)
  refine openS (n := 13) (fun x18 => ?_)
  refine openS (n := 12) (fun x19 => ?_)
  refine openS (n := 11) (fun x20 => ?_)
  refine openS (n := 10) (fun x21 => ?_)
  refine openS (n := 9) (fun x22 => ?_)
  refine openS (n := 8) (fun x23 => ?_)
  refine openS (n := 7) (fun x24 => ?_)
  refine openS (n := 6) (fun x25 => ?_)
  refine openS (n := 5) (fun x26 => ?_)
  refine openS (n := 4) (fun x27 => ?_)
  refine openS (n := 3) (fun x28 => ?_)
  refine openS (n := 2) (fun x29 => ?_)
  refine openS (n := 1) (fun x30 => ?_)
  refine openS (n := 0) (fun x31 => ?_)
  refine open0 ?_
  exact h x0 x1 x2 x3 x4 x5 x6 x7 x8 x9 x10 x11 x12 x13 x14 x15 x16 x17 x18 x19 x20 x21 x22 x23 x24 x25 x26 x27 x28 x29 x30 x31
noncomputable def c_ho_r0 : Code := sub [0] (Tryd.f15.body.getD .skip)
set_option maxRecDepth 1000000 in
set_option maxHeartbeats 16000000 in
theorem ho_r0_wp {Q : Exit → Act → World → Prop} {z : Int} {Am Bm : Option Addr} {nm1 cm nm2 dm : Nat} {wo : World} {kd : Int} {nm : ByteArray} {A B : Option Addr} {n1 c1 n2 c2 : Nat} (hN : ∀ a', Frm 32 [(2, .pointer (some ⟨wo.heap.size, 0, none⟩)), (3, .pointer (some ⟨(wo.heap.size + 1), 0, none⟩)), (5, .pointer (some ⟨(wo.heap.size + 1 + 1), 0, none⟩))] a' → Q .normal a' (((wo.alloc (.cells #[.int .i64 z, .slice Am nm1 cm, .slice Bm nm2 dm] 25)).alloc (.cells #[.int .i64 kd, .string nm, .slice A n1 c1, .slice B n2 c2] 29)).alloc (.cells #[.int .i64 0, .int .i64 0] 31))) : ∀ ac, Frm 32 [(0, .agg #[.int .i64 z, .slice Am nm1 cm, .slice Bm nm2 dm]), (1, .agg #[.int .i64 kd, .string nm, .slice A n1 c1, .slice B n2 c2])] ac → Code.wp Tryd.prog c_ho_r0 Q ac wo := by
  refine frm_open ?_
  refine frame_ho ?_
  intros
  rename_i hq
  obtain ⟨-, -, e0q, e1q, -⟩ := hq
  obtain rfl := sI e0q
  obtain rfl := sI e1q
  conv => arg 2; whnf
  have HN := Lib.hid hN
  clear hN
  go_wp2_with fail
  exact HN.out _ (id ⟨rfl, rfl, rfl, rfl, rfl, trivial⟩)
noncomputable def c_ho_r1 : Code := sub [1, 0, 0] (Tryd.f15.body.getD .skip)
set_option maxRecDepth 1000000 in
set_option maxHeartbeats 16000000 in
theorem ho_r1_wp {Q : Exit → Act → World → Prop} {c j : Int} {z : Int} {Am Bm : Option Addr} {nm1 cm nm2 dm : Nat} {wo w : World} (hgm : w.heap[wo.heap.size]? = some (.cells #[.int .i64 z, .slice Am nm1 cm, .slice Bm nm2 dm] 25 (0, 0))) (hc : Calls Tryd.prog 44 #[.agg #[.int .i64 z, .slice Am nm1 cm, .slice Bm nm2 dm]] w fun e w' => e = .returned (.agg #[.int .i64 c, .int .i64 j]) ∧ Below w.heap.size w w') (hN : ∀ ge a' w', Frm 32 [(2, .pointer (some ⟨wo.heap.size, 0, none⟩)), (3, .pointer (some ⟨(wo.heap.size + 1), 0, none⟩)), (5, .pointer (some ⟨(wo.heap.size + 1 + 1), 0, none⟩)), (6, .pointer (some ⟨ge, 0, none⟩))] a' → w.heap.size ≤ ge → w'.heap[ge]? = some (.cells #[.int .i64 c, .int .i64 j] 31 (0, 0)) → Below w.heap.size w w' → Q .normal a' w') : ∀ ac, Frm 32 [(2, .pointer (some ⟨wo.heap.size, 0, none⟩)), (3, .pointer (some ⟨(wo.heap.size + 1), 0, none⟩)), (5, .pointer (some ⟨(wo.heap.size + 1 + 1), 0, none⟩))] ac → Code.wp Tryd.prog c_ho_r1 Q ac w := by
  refine frm_open ?_
  refine frame_ho ?_
  intros
  rename_i hq
  obtain ⟨-, -, e0q, e1q, e2q, -⟩ := hq
  obtain rfl := sI e0q
  obtain rfl := sI e1q
  obtain rfl := sI e2q
  conv => arg 2; whnf
  have m0 := cellv hgm 0 rfl
  have m1 := cellv hgm 1 rfl
  have m2 := cellv hgm 2 rfl
  have ml := lt_heap hgm
  clear hgm
  have HN := Lib.hid hN
  have HC := Lib.hid hc
  clear hN hc
  go_wp2_with fail
  (with_reducible refine HC.out.mono ?_)
  rintro e w1 ⟨rfl, hb1⟩
  have HB1 := Lib.hid hb1
  clear hb1
  go_wp2_with fail
  have hz := HB1.out.size
  exact HN.out w1.heap.size _ _ (id ⟨rfl, rfl, rfl, rfl, rfl, rfl, trivial⟩) hz (heap_at rfl) (HB1.out.alloc hz _)
noncomputable def c_ho_r4 : Code := sub [1, 1, 0, 0] (Tryd.f15.body.getD .skip)
set_option maxRecDepth 1000000 in
set_option maxHeartbeats 16000000 in
theorem ho_r4_wp {Q : Exit → Act → World → Prop} {c j : Int} {wo w : World} {kd : Int} {nm : ByteArray} {A B : Option Addr} {n1 c1 n2 c2 : Nat} (ha : w.heap[wo.heap.size + 1]? = some (.cells #[.int .i64 kd, .string nm, .slice A n1 c1, .slice B n2 c2] 29 (0, 0))) (hc : Calls Tryd.prog 46 #[.agg #[.int .i64 kd, .string nm, .slice A n1 c1, .slice B n2 c2]] w fun e w' => e = .returned (.agg #[.int .i64 c, .int .i64 j]) ∧ Below w.heap.size w w') (hN : ∀ ge a' w', Frm 32 [(2, .pointer (some ⟨wo.heap.size, 0, none⟩)), (3, .pointer (some ⟨(wo.heap.size + 1), 0, none⟩)), (5, .pointer (some ⟨(wo.heap.size + 1 + 1), 0, none⟩)), (7, .pointer (some ⟨ge, 0, none⟩))] a' → w.heap.size ≤ ge → w'.heap[ge]? = some (.cells #[.int .i64 c, .int .i64 j] 31 (0, 0)) → Below w.heap.size w w' → Q .normal a' w') : ∀ ac, Frm 32 [(2, .pointer (some ⟨wo.heap.size, 0, none⟩)), (3, .pointer (some ⟨(wo.heap.size + 1), 0, none⟩)), (5, .pointer (some ⟨(wo.heap.size + 1 + 1), 0, none⟩))] ac → Code.wp Tryd.prog c_ho_r4 Q ac w := by
  refine frm_open ?_
  refine frame_ho ?_
  intros
  rename_i hq
  obtain ⟨-, -, e0q, e1q, e2q, -⟩ := hq
  obtain rfl := sI e0q
  obtain rfl := sI e1q
  obtain rfl := sI e2q
  conv => arg 2; whnf
  have a0 := cellv ha 0 rfl
  have a1 := cellv ha 1 rfl
  have a2 := cellv ha 2 rfl
  have a3 := cellv ha 3 rfl
  have al := lt_heap ha
  clear ha
  have HN := Lib.hid hN
  have HC := Lib.hid hc
  clear hN hc
  go_wp2_with fail
  (with_reducible refine HC.out.mono ?_)
  rintro e w1 ⟨rfl, hb1⟩
  have HB1 := Lib.hid hb1
  clear hb1
  go_wp2_with fail
  have hz := HB1.out.size
  exact HN.out w1.heap.size _ _ (id ⟨rfl, rfl, rfl, rfl, rfl, rfl, trivial⟩) hz (heap_at rfl) (HB1.out.alloc hz _)
noncomputable def c_ho_r7 : Code := sub [1, 1, 1, 0, 0] (Tryd.f15.body.getD .skip)
set_option maxRecDepth 1000000 in
set_option maxHeartbeats 16000000 in
theorem ho_r7_wp {Q : Exit → Act → World → Prop} {c j : Int} {z : Int} {Am Bm : Option Addr} {nm1 cm nm2 dm : Nat} {wo w : World} {kd : Int} {nm : ByteArray} {A B : Option Addr} {n1 c1 n2 c2 : Nat} (hgm : w.heap[wo.heap.size]? = some (.cells #[.int .i64 z, .slice Am nm1 cm, .slice Bm nm2 dm] 25 (0, 0))) (ha : w.heap[wo.heap.size + 1]? = some (.cells #[.int .i64 kd, .string nm, .slice A n1 c1, .slice B n2 c2] 29 (0, 0))) (hc : Calls Tryd.prog 47 #[.agg #[.int .i64 z, .slice Am nm1 cm, .slice Bm nm2 dm], .agg #[.int .i64 kd, .string nm, .slice A n1 c1, .slice B n2 c2]] w fun e w' => e = .returned (.agg #[.int .i64 c, .int .i64 j]) ∧ Below w.heap.size w w') (hN : ∀ ge a' w', Frm 32 [(2, .pointer (some ⟨wo.heap.size, 0, none⟩)), (3, .pointer (some ⟨(wo.heap.size + 1), 0, none⟩)), (5, .pointer (some ⟨(wo.heap.size + 1 + 1), 0, none⟩)), (8, .pointer (some ⟨ge, 0, none⟩))] a' → w.heap.size ≤ ge → w'.heap[ge]? = some (.cells #[.int .i64 c, .int .i64 j] 31 (0, 0)) → Below w.heap.size w w' → Q .normal a' w') : ∀ ac, Frm 32 [(2, .pointer (some ⟨wo.heap.size, 0, none⟩)), (3, .pointer (some ⟨(wo.heap.size + 1), 0, none⟩)), (5, .pointer (some ⟨(wo.heap.size + 1 + 1), 0, none⟩))] ac → Code.wp Tryd.prog c_ho_r7 Q ac w := by
  refine frm_open ?_
  refine frame_ho ?_
  intros
  rename_i hq
  obtain ⟨-, -, e0q, e1q, e2q, -⟩ := hq
  obtain rfl := sI e0q
  obtain rfl := sI e1q
  obtain rfl := sI e2q
  conv => arg 2; whnf
  have m0 := cellv hgm 0 rfl
  have m1 := cellv hgm 1 rfl
  have m2 := cellv hgm 2 rfl
  have ml := lt_heap hgm
  clear hgm
  have a0 := cellv ha 0 rfl
  have a1 := cellv ha 1 rfl
  have a2 := cellv ha 2 rfl
  have a3 := cellv ha 3 rfl
  have al := lt_heap ha
  clear ha
  have HN := Lib.hid hN
  have HC := Lib.hid hc
  clear hN hc
  go_wp2_with fail
  (with_reducible refine HC.out.mono ?_)
  rintro e w1 ⟨rfl, hb1⟩
  have HB1 := Lib.hid hb1
  clear hb1
  go_wp2_with fail
  have hz := HB1.out.size
  exact HN.out w1.heap.size _ _ (id ⟨rfl, rfl, rfl, rfl, rfl, rfl, trivial⟩) hz (heap_at rfl) (HB1.out.alloc hz _)
noncomputable def c_ho_r2 : Code := sub [1, 0, 1, 0] (Tryd.f15.body.getD .skip)
set_option maxRecDepth 1000000 in
set_option maxHeartbeats 16000000 in
theorem ho_r2_wp {Q : Exit → Act → World → Prop} {gb : Nat} {c j : Int} {wo w : World} (hb : w.heap[gb]? = some (.cells #[.int .i64 c, .int .i64 j] 31 (0, 0))) (hN : ∀ a', Frm 32 [(2, .pointer (some ⟨wo.heap.size, 0, none⟩)), (3, .pointer (some ⟨(wo.heap.size + 1), 0, none⟩)), (5, .pointer (some ⟨(wo.heap.size + 1 + 1), 0, none⟩)), (6, .pointer (some ⟨gb, 0, none⟩)), (13, .bool (decide (c ≠ 0)))] a' → Q .normal a' w) : ∀ ac, Frm 32 [(2, .pointer (some ⟨wo.heap.size, 0, none⟩)), (3, .pointer (some ⟨(wo.heap.size + 1), 0, none⟩)), (5, .pointer (some ⟨(wo.heap.size + 1 + 1), 0, none⟩)), (6, .pointer (some ⟨gb, 0, none⟩))] ac → Code.wp Tryd.prog c_ho_r2 Q ac w := by
  refine frm_open ?_
  refine frame_ho ?_
  intros
  rename_i hq
  obtain ⟨-, -, e0q, e1q, e2q, e3q, -⟩ := hq
  obtain rfl := sI e0q
  obtain rfl := sI e1q
  obtain rfl := sI e2q
  obtain rfl := sI e3q
  conv => arg 2; whnf
  have b0 := cellv hb 0 rfl
  have bl := lt_heap hb
  clear hb
  by_cases h : c ≠ 0
  · have t0 := h
    have t1 : (c != 0) = true := by first | exact bne_iff_ne.2 (by omega) | exact bne_eq_false_iff_eq.2 (by omega)
    rw [show decide (c ≠ 0) = true from by simpa using h] at hN
    clear h
    have HN := Lib.hid hN
    clear hN
    go_wp2_with fail
    exact HN.out _ (id ⟨rfl, rfl, rfl, rfl, rfl, rfl, rfl, trivial⟩)
  · have t0 := h
    have t1 : (c != 0) = false := by first | exact bne_iff_ne.2 (by omega) | exact bne_eq_false_iff_eq.2 (by omega)
    rw [show decide (c ≠ 0) = false from by simpa using h] at hN
    clear h
    have HN := Lib.hid hN
    clear hN
    go_wp2_with fail
    exact HN.out _ (id ⟨rfl, rfl, rfl, rfl, rfl, rfl, rfl, trivial⟩)
noncomputable def c_ho_r5 : Code := sub [1, 1, 0, 1, 0] (Tryd.f15.body.getD .skip)
set_option maxRecDepth 1000000 in
set_option maxHeartbeats 16000000 in
theorem ho_r5_wp {Q : Exit → Act → World → Prop} {gb : Nat} {c j : Int} {wo w : World} (hb : w.heap[gb]? = some (.cells #[.int .i64 c, .int .i64 j] 31 (0, 0))) (hN : ∀ a', Frm 32 [(2, .pointer (some ⟨wo.heap.size, 0, none⟩)), (3, .pointer (some ⟨(wo.heap.size + 1), 0, none⟩)), (5, .pointer (some ⟨(wo.heap.size + 1 + 1), 0, none⟩)), (7, .pointer (some ⟨gb, 0, none⟩)), (19, .bool (decide (c ≠ 0)))] a' → Q .normal a' w) : ∀ ac, Frm 32 [(2, .pointer (some ⟨wo.heap.size, 0, none⟩)), (3, .pointer (some ⟨(wo.heap.size + 1), 0, none⟩)), (5, .pointer (some ⟨(wo.heap.size + 1 + 1), 0, none⟩)), (7, .pointer (some ⟨gb, 0, none⟩))] ac → Code.wp Tryd.prog c_ho_r5 Q ac w := by
  refine frm_open ?_
  refine frame_ho ?_
  intros
  rename_i hq
  obtain ⟨-, -, e0q, e1q, e2q, e3q, -⟩ := hq
  obtain rfl := sI e0q
  obtain rfl := sI e1q
  obtain rfl := sI e2q
  obtain rfl := sI e3q
  conv => arg 2; whnf
  have b0 := cellv hb 0 rfl
  have bl := lt_heap hb
  clear hb
  by_cases h : c ≠ 0
  · have t0 := h
    have t1 : (c != 0) = true := by first | exact bne_iff_ne.2 (by omega) | exact bne_eq_false_iff_eq.2 (by omega)
    rw [show decide (c ≠ 0) = true from by simpa using h] at hN
    clear h
    have HN := Lib.hid hN
    clear hN
    go_wp2_with fail
    exact HN.out _ (id ⟨rfl, rfl, rfl, rfl, rfl, rfl, rfl, trivial⟩)
  · have t0 := h
    have t1 : (c != 0) = false := by first | exact bne_iff_ne.2 (by omega) | exact bne_eq_false_iff_eq.2 (by omega)
    rw [show decide (c ≠ 0) = false from by simpa using h] at hN
    clear h
    have HN := Lib.hid hN
    clear hN
    go_wp2_with fail
    exact HN.out _ (id ⟨rfl, rfl, rfl, rfl, rfl, rfl, rfl, trivial⟩)
noncomputable def c_ho_r8 : Code := sub [1, 1, 1, 0, 1, 0] (Tryd.f15.body.getD .skip)
set_option maxRecDepth 1000000 in
set_option maxHeartbeats 16000000 in
theorem ho_r8_wp {Q : Exit → Act → World → Prop} {gb : Nat} {c j : Int} {wo w : World} (hb : w.heap[gb]? = some (.cells #[.int .i64 c, .int .i64 j] 31 (0, 0))) (hN : ∀ a', Frm 32 [(2, .pointer (some ⟨wo.heap.size, 0, none⟩)), (3, .pointer (some ⟨(wo.heap.size + 1), 0, none⟩)), (5, .pointer (some ⟨(wo.heap.size + 1 + 1), 0, none⟩)), (8, .pointer (some ⟨gb, 0, none⟩)), (26, .bool (decide (c ≠ 0)))] a' → Q .normal a' w) : ∀ ac, Frm 32 [(2, .pointer (some ⟨wo.heap.size, 0, none⟩)), (3, .pointer (some ⟨(wo.heap.size + 1), 0, none⟩)), (5, .pointer (some ⟨(wo.heap.size + 1 + 1), 0, none⟩)), (8, .pointer (some ⟨gb, 0, none⟩))] ac → Code.wp Tryd.prog c_ho_r8 Q ac w := by
  refine frm_open ?_
  refine frame_ho ?_
  intros
  rename_i hq
  obtain ⟨-, -, e0q, e1q, e2q, e3q, -⟩ := hq
  obtain rfl := sI e0q
  obtain rfl := sI e1q
  obtain rfl := sI e2q
  obtain rfl := sI e3q
  conv => arg 2; whnf
  have b0 := cellv hb 0 rfl
  have bl := lt_heap hb
  clear hb
  by_cases h : c ≠ 0
  · have t0 := h
    have t1 : (c != 0) = true := by first | exact bne_iff_ne.2 (by omega) | exact bne_eq_false_iff_eq.2 (by omega)
    rw [show decide (c ≠ 0) = true from by simpa using h] at hN
    clear h
    have HN := Lib.hid hN
    clear hN
    go_wp2_with fail
    exact HN.out _ (id ⟨rfl, rfl, rfl, rfl, rfl, rfl, rfl, trivial⟩)
  · have t0 := h
    have t1 : (c != 0) = false := by first | exact bne_iff_ne.2 (by omega) | exact bne_eq_false_iff_eq.2 (by omega)
    rw [show decide (c ≠ 0) = false from by simpa using h] at hN
    clear h
    have HN := Lib.hid hN
    clear hN
    go_wp2_with fail
    exact HN.out _ (id ⟨rfl, rfl, rfl, rfl, rfl, rfl, rfl, trivial⟩)
noncomputable def c_ho_r3 : Code := sub [1, 0, 1, 1, 0, 0] (Tryd.f15.body.getD .skip)
set_option maxRecDepth 1000000 in
set_option maxHeartbeats 16000000 in
theorem ho_r3_wp {K : Act → World → Prop} {gx gb : Nat} {c j : Int} {w : World} (hbx2 : gb ≠ gx) (hbx : w.heap[gb]? = some (.cells #[.int .i64 c, .int .i64 j] 31 (0, 0))) (hx : w.heap[gx]? = some (.cells #[.int .i64 0, .int .i64 0] 31 (0, 0))) (hN : ∀ a' w', Frm 32 [(4, .bool false), (5, .pointer (some ⟨gx, 0, none⟩))] a' → w'.heap[gx]? = some (.cells #[.int .i64 c, .int .i64 j] 31 (0, 0)) → Keeps (fun k => k = gx) w w' → K a' w') : ∀ ac, Frm 32 [(5, .pointer (some ⟨gx, 0, none⟩)), (6, .pointer (some ⟨gb, 0, none⟩))] ac → Code.wp Tryd.prog c_ho_r3 (Exit.then K (fun _ _ _ => False)) ac w := by
  refine frm_open ?_
  refine frame_ho ?_
  intros
  rename_i hq
  obtain ⟨-, -, e0q, e1q, -⟩ := hq
  obtain rfl := sI e0q
  obtain rfl := sI e1q
  conv => arg 2; whnf
  have b0 := cellv hbx 0 rfl
  have b1 := cellv hbx 1 rfl
  have bl := lt_heap hbx
  have x0 := cellv hx 0 rfl
  have x1 := cellv hx 1 rfl
  have xf0 := free_heap hx 0
  have xf1 := free_heap hx 1
  have xl := lt_heap hx
  have HX := Lib.hid hx
  clear hbx hx
  have HN := Lib.hid hN
  clear hN
  go_region
  all_goals go_wp2_with fail
  all_goals exact HN.out _ _ (id ⟨rfl, rfl, rfl, rfl, trivial⟩) (heap_drew (at2 HX.out)) (Keeps.drew keeps2G)
noncomputable def c_ho_r6 : Code := sub [1, 1, 0, 1, 1, 0, 0] (Tryd.f15.body.getD .skip)
set_option maxRecDepth 1000000 in
set_option maxHeartbeats 16000000 in
theorem ho_r6_wp {K : Act → World → Prop} {gx gb : Nat} {c j : Int} {w : World} (hbx2 : gb ≠ gx) (hbx : w.heap[gb]? = some (.cells #[.int .i64 c, .int .i64 j] 31 (0, 0))) (hx : w.heap[gx]? = some (.cells #[.int .i64 0, .int .i64 0] 31 (0, 0))) (hN : ∀ a' w', Frm 32 [(4, .bool false), (5, .pointer (some ⟨gx, 0, none⟩))] a' → w'.heap[gx]? = some (.cells #[.int .i64 c, .int .i64 j] 31 (0, 0)) → Keeps (fun k => k = gx) w w' → K a' w') : ∀ ac, Frm 32 [(5, .pointer (some ⟨gx, 0, none⟩)), (7, .pointer (some ⟨gb, 0, none⟩))] ac → Code.wp Tryd.prog c_ho_r6 (Exit.then K (fun _ _ _ => False)) ac w := by
  refine frm_open ?_
  refine frame_ho ?_
  intros
  rename_i hq
  obtain ⟨-, -, e0q, e1q, -⟩ := hq
  obtain rfl := sI e0q
  obtain rfl := sI e1q
  conv => arg 2; whnf
  have b0 := cellv hbx 0 rfl
  have b1 := cellv hbx 1 rfl
  have bl := lt_heap hbx
  have x0 := cellv hx 0 rfl
  have x1 := cellv hx 1 rfl
  have xf0 := free_heap hx 0
  have xf1 := free_heap hx 1
  have xl := lt_heap hx
  have HX := Lib.hid hx
  clear hbx hx
  have HN := Lib.hid hN
  clear hN
  go_region
  all_goals go_wp2_with fail
  all_goals exact HN.out _ _ (id ⟨rfl, rfl, rfl, rfl, trivial⟩) (heap_drew (at2 HX.out)) (Keeps.drew keeps2G)
noncomputable def c_ho_r9 : Code := sub [1, 1, 1, 0, 1, 1, 0, 0] (Tryd.f15.body.getD .skip)
set_option maxRecDepth 1000000 in
set_option maxHeartbeats 16000000 in
theorem ho_r9_wp {K : Act → World → Prop} {gx gb : Nat} {c j : Int} {w : World} (hbx2 : gb ≠ gx) (hbx : w.heap[gb]? = some (.cells #[.int .i64 c, .int .i64 j] 31 (0, 0))) (hx : w.heap[gx]? = some (.cells #[.int .i64 0, .int .i64 0] 31 (0, 0))) (hN : ∀ a' w', Frm 32 [(4, .bool false), (5, .pointer (some ⟨gx, 0, none⟩))] a' → w'.heap[gx]? = some (.cells #[.int .i64 c, .int .i64 j] 31 (0, 0)) → Keeps (fun k => k = gx) w w' → K a' w') : ∀ ac, Frm 32 [(5, .pointer (some ⟨gx, 0, none⟩)), (8, .pointer (some ⟨gb, 0, none⟩))] ac → Code.wp Tryd.prog c_ho_r9 (Exit.then K (fun _ _ _ => False)) ac w := by
  refine frm_open ?_
  refine frame_ho ?_
  intros
  rename_i hq
  obtain ⟨-, -, e0q, e1q, -⟩ := hq
  obtain rfl := sI e0q
  obtain rfl := sI e1q
  conv => arg 2; whnf
  have b0 := cellv hbx 0 rfl
  have b1 := cellv hbx 1 rfl
  have bl := lt_heap hbx
  have x0 := cellv hx 0 rfl
  have x1 := cellv hx 1 rfl
  have xf0 := free_heap hx 0
  have xf1 := free_heap hx 1
  have xl := lt_heap hx
  have HX := Lib.hid hx
  clear hbx hx
  have HN := Lib.hid hN
  clear hN
  go_region
  all_goals go_wp2_with fail
  all_goals exact HN.out _ _ (id ⟨rfl, rfl, rfl, rfl, trivial⟩) (heap_drew (at2 HX.out)) (Keeps.drew keeps2G)
noncomputable def c_ho_r10 : Code := sub [1, 1, 1, 1, 0] (Tryd.f15.body.getD .skip)
set_option maxRecDepth 1000000 in
set_option maxHeartbeats 16000000 in
theorem ho_r10_wp {Q : Exit → Act → World → Prop} {bb : Bool} {z : Int} {Am Bm : Option Addr} {nm1 cm nm2 dm : Nat} {wo w : World} {kd : Int} {nm : ByteArray} {A B : Option Addr} {n1 c1 n2 c2 : Nat} (hgm : w.heap[wo.heap.size]? = some (.cells #[.int .i64 z, .slice Am nm1 cm, .slice Bm nm2 dm] 25 (0, 0))) (ha : w.heap[wo.heap.size + 1]? = some (.cells #[.int .i64 kd, .string nm, .slice A n1 c1, .slice B n2 c2] 29 (0, 0))) (hx : w.heap[wo.heap.size + 1 + 1]? = some (.cells #[.int .i64 0, .int .i64 0] 31 (0, 0))) (hc : Calls Tryd.prog 48 #[.agg #[.int .i64 z, .slice Am nm1 cm, .slice Bm nm2 dm], .agg #[.int .i64 kd, .string nm, .slice A n1 c1, .slice B n2 c2], .slice none 0 0] w fun e w' => e = .returned (.bool bb) ∧ Below w.heap.size w w') (hN : ∀ w1 a' w', Frm 32 [(4, .bool bb), (5, .pointer (some ⟨(wo.heap.size + 1 + 1), 0, none⟩))] a' → w'.heap[wo.heap.size + 1 + 1]? = some (.cells #[.int .i64 0, .int .i64 0] 31 (0, 0)) → Below w.heap.size w w1 → Keeps (fun k => k = wo.heap.size + 1 + 1) w1 w' → Q .normal a' w') : ∀ ac, Frm 32 [(2, .pointer (some ⟨wo.heap.size, 0, none⟩)), (3, .pointer (some ⟨(wo.heap.size + 1), 0, none⟩)), (5, .pointer (some ⟨(wo.heap.size + 1 + 1), 0, none⟩))] ac → Code.wp Tryd.prog c_ho_r10 Q ac w := by
  refine frm_open ?_
  refine frame_ho ?_
  intros
  rename_i hq
  obtain ⟨-, -, e0q, e1q, e2q, -⟩ := hq
  obtain rfl := sI e0q
  obtain rfl := sI e1q
  obtain rfl := sI e2q
  conv => arg 2; whnf
  have XC := Lib.hid (fun (W : World) (h : W.heap[wo.heap.size + 1 + 1]? = some (.cells #[.int .i64 0, .int .i64 0] 31 (0, 0))) => And.intro (cellv h 0 rfl) (And.intro (cellv h 1 rfl) (And.intro (free_heap h 0) (free_heap h 1))))
  have m0 := cellv hgm 0 rfl
  have m1 := cellv hgm 1 rfl
  have m2 := cellv hgm 2 rfl
  have ml := lt_heap hgm
  clear hgm
  have a0 := cellv ha 0 rfl
  have a1 := cellv ha 1 rfl
  have a2 := cellv ha 2 rfl
  have a3 := cellv ha 3 rfl
  have al := lt_heap ha
  clear ha
  have HN := Lib.hid hN
  have HC := Lib.hid hc
  have HX := Lib.hid hx
  clear hN hc hx
  go_wp2_with fail
  (with_reducible refine HC.out.mono ?_)
  rintro e w1 ⟨rfl, hb1⟩
  have hx1 := (hb1.block _ (lt_heap HX.out)).trans HX.out
  obtain ⟨u0, u1, uf0, uf1⟩ := XC.out w1 hx1
  have ul := lt_heap hx1
  have HX1 := Lib.hid hx1
  have HB1 := Lib.hid hb1
  clear hb1 hx1
  go_wp2_with fail
  exact HN.out _ _ _ (id ⟨rfl, rfl, rfl, rfl, trivial⟩) (at2 HX1.out) HB1.out keeps2G
set_option maxRecDepth 1000000 in
theorem ho_ret_wp {R : Ending → World → Prop} {w' : World} {gx : Nat} {c j : Int} {bb : Bool} (hx : w'.heap[gx]? = some (.cells #[.int .i64 c, .int .i64 j] 31 (0, 0))) (hR : R (.returned (.tuple #[.bool bb, .agg #[.int .i64 c, .int .i64 j]])) w') : ∀ ac, Frm 32 [(4, .bool bb), (5, .pointer (some ⟨gx, 0, none⟩))] ac → bodyPost Tryd.prog Tryd.f15 R .ret ac w' := by
  refine frm_open ?_
  refine frame_ho ?_
  intros
  rename_i hq
  obtain ⟨-, -, e0q, e1q, -⟩ := hq
  obtain rfl := sI e0q
  obtain rfl := sI e1q
  have x0 := cellv hx 0 rfl
  have x1 := cellv hx 1 rfl
  have xl := lt_heap hx
  refine bodyPost_ret (v := .tuple #[.bool bb, .agg #[.int .i64 c, .int .i64 j]]) (by simp [results, Tryd.results15, go_sem, x0, x1, xl]) rfl ?_
  exact hR
/-- What is wrong with a model and a formula, and with both together. -/
def holdsC (m : Md) (t : Fm) : Int × Int := if (mdFault m).1 ≠ 0 then (((mdFault m).1 : Nat), ((mdFault m).2 : Nat)) else if (fmFault t).1 ≠ 0 then (((fmFault t).1 : Nat), ((fmFault t).2 : Nat)) else pairT m t
theorem pairT_zero {m : Md} {t : Fm} (h : (pairT m t).1 = 0) : pairT m t = (0, 0) ∧ nestT t ≤ 5 ∧ allC m (fmConsts t) = true ∧ hasT m t = true := by
  unfold pairT at h ⊢
  split at h
  · exact absurd h (by simp)
  rename_i h1
  split at h
  · exact absurd h (by simp)
  rename_i h2
  split at h
  · exact absurd h (by simp)
  rename_i h3
  rw [if_neg h1, if_neg h2, if_neg h3]
  exact ⟨rfl, by omega, by simpa using h2, by simpa using h3⟩
theorem fault_ok9 {t : Fm} (h : (fmFault t).1 = 0) : ∃ v : Fv, t = v.fm ∧ v.ok ∧ v.nodes ≤ 200 ∧ v.depth ≤ 40 ∧ fmFault t = (0, 0) := by
  obtain ⟨v, e, h1, h2, h3, h4⟩ := Fv.of_val t 1 0 h
  exact ⟨v, e, h1, by omega, by omega, Prod.ext h ((fmVal_le false t 1 0 (by omega)).2 h).2⟩
theorem frees_few : ∀ (v : Fv), v.ok → ∀ bd : List ByteArray, (fmFrees bd v.fm).length ≤ 3 * v.nodes
  | .tru, _, _ => by simp [Fv.fm, fmFrees, fmFreess]
  | .pred n ws, h, bd => by
    have h1 := h.2.1
    have h2 := List.length_filter_le (fun w => !hasB bd w) ws
    simp only [Fv.fm, fmFrees, fmFreess, List.append_nil, Fv.nodes]; omega
  | .same a b, _, bd => by
    have h2 := List.length_filter_le (fun w => !hasB bd w) [a, b]
    simp only [Fv.fm, fmFrees, fmFreess, List.append_nil, Fv.nodes, List.length_cons, List.length_nil] at h2 ⊢; omega
  | .neg f, h, bd => by
    have := fun b => frees_few f h b
    simp only [Fv.fm, fmFrees, fmFreess, List.append_nil, List.filter_nil, List.nil_append, Fv.nodes]
    refine Nat.le_trans (this _) ?_
    omega
  | .bin _ f g, h, bd => by
    have h1 := fun b => frees_few f h.2.1 b
    have h2 := fun b => frees_few g h.2.2 b
    simp only [Fv.fm, fmFrees, fmFreess, List.append_nil, List.filter_nil, List.nil_append, Fv.nodes, List.length_append]
    refine Nat.le_trans (Nat.add_le_add (h1 _) (h2 _)) ?_
    omega
  | .qu _ _ f, h, bd => by
    have := fun b => frees_few f h.2.2 b
    simp only [Fv.fm, fmFrees, fmFreess, List.append_nil, List.filter_nil, List.nil_append, Fv.nodes]
    refine Nat.le_trans (this _) ?_
    omega
theorem fm_small {v : Fv} (hv : v.ok) (hn : v.nodes ≤ 200) : v.fm.nodes ≤ 1000000 ∧ (fmFrees [] v.fm).length ≤ 1000000 := by
  have h2 := frees_few v hv []
  rw [Fv.fm_nodes]
  omega
set_option maxRecDepth 100000 in
set_option maxHeartbeats 4000000 in
/-- truth.Holds. -/
theorem holds_any (m : Md) (t : Fm) (ms cs : List Value) (w : World) (S : Nat → Prop) (ht : fmRep.R w S t cs) (hm : m.In w S ms) (hS : ∀ b, S b → b < w.heap.size) :
    Calls Tryd.prog 15 #[.agg ms.toArray, .agg cs.toArray] w fun e w' => ∃ b, e = .returned (.tuple #[.bool b, .agg #[.int .i64 (holdsC m t).1, .int .i64 (holdsC m t).2]]) ∧ ((holdsC m t).1 ≠ 0 → b = false) ∧ ((holdsC m t).1 = 0 → ∃ v : Fv, t = v.fm ∧ v.ok ∧ v.nodes ≤ 200 ∧ v.depth ≤ 40 ∧ b = evalF m v []) ∧ Below w.heap.size w w' := by
  obtain ⟨A, n1, c1, B, n2, c2, rfl, _, _, _, _⟩ := Fm.shape ht
  obtain ⟨Am, cm, Bm, dm, rfl, _, _, _, _⟩ := Md.shape hm
  obtain ⟨kd, hkd⟩ : ∃ k, t.lab.kind = k := ⟨_, rfl⟩
  obtain ⟨nm, hnm⟩ : ∃ k, t.lab.nm = k := ⟨_, rfl⟩
  rw [hkd, hnm] at ht ⊢
  go_enter Tryd.func15, Tryd.ntmps15
  refine wp_seq ?_
  refine ho_r0_wp (fun a0 h0 => ?_) _ (id ⟨rfl, rfl, rfl, rfl, trivial⟩)
  refine gen_last (fun wx => wx.heap[w.heap.size]? = some (.cells #[.int .i64 m.sz, .slice Am m.cs.length cm, .slice Bm m.rs.length dm] 25 (0, 0)) ∧ wx.heap[w.heap.size + 1]? = some (.cells #[.int .i64 kd, .string nm, .slice A n1 c1, .slice B n2 c2] 29 (0, 0)) ∧ wx.heap[w.heap.size + 1 + 1]? = some (.cells #[.int .i64 0, .int .i64 0] 31 (0, 0)) ∧ Below w.heap.size w wx) ⟨heap_old (by simp; omega) (heap_old (by simp) (heap_at rfl)), heap_old (by simp) (heap_at (by simp)), heap_at (by simp), by go_grown⟩ ?_
  rintro wy ⟨hmy, hay, hey, hby⟩
  have hbys := hby.size
  have hgyl := lt_heap hey
  have hkeep : ∀ W : World, Below w.heap.size w W → ∀ k, S k → W.heap[k]? = w.heap[k]? := fun W hb k hk => hb.block k (hS k hk)
  have hlt : ∀ W : World, Below w.heap.size w W → ∀ k, S k → k < W.heap.size := fun W hb k hk => by have := hS k hk; have := hb.size; omega
  refine wp_seq ?_
  refine wp_seq ?_
  have hv1 := validateMd_any m _ wy S (hm.keep (hkeep wy hby) (fun _ h => h)) (hlt wy hby)
  unfold MdAt at hv1
  refine ho_r1_wp hmy hv1 (fun g1 a1 w1 h1 hg1 hge1 hb1 => ?_) a0 h0
  have hb1s := hb1.size
  have hx1 := (hb1.block _ (lt_heap hey)).trans hey
  refine wp_seq ?_
  refine ho_r2_wp hge1 (fun a2 h2 => ?_) a1 h1
  by_cases hf1 : ((mdFault m).1 : Int) ≠ 0
  · refine wp_cond_true ((h2.eval (k := 13) (v := .bool (decide (((mdFault m).1 : Int) ≠ 0))) (by simp)).trans (by rw [decide_eq_true hf1])) ?_
    have hcc : holdsC m t = ((((mdFault m).1 : Nat) : Int), (((mdFault m).2 : Nat) : Int)) := if_pos (by omega)
    rw [hcc]
    refine wp_seq ?_
    refine wp_thenQ (ho_r3_wp (by omega) hge1 hx1 (fun a20 w20 h20 hx20 hk20 => ?_) a2 ⟨h2.1, h2.2.1, h2.2.2.2.2.1, h2.2.2.2.2.2.1, trivial⟩)
    refine wp_ret ?_
    repeat (first | refine thenR ?_ | refine inBlockR ?_)
    refine ho_ret_wp hx20 ⟨false, rfl, fun _ => rfl, fun h0 => absurd h0 hf1, (hby.trans (hb1.mono hbys)).trans (Keeps.below (B := w.heap.size) hk20 (fun k e => by have e : k = w.heap.size + 1 + 1 := e; omega) (by have := (hby.trans (hb1.mono hbys)).size; omega))⟩ a20 h20
  refine wp_cond_false ((h2.eval (k := 13) (v := .bool (decide (((mdFault m).1 : Int) ≠ 0))) (by simp)).trans (by rw [decide_eq_false hf1])) ?_
  refine wp_skip ?_
  show Code.wp _ _ _ a2 w1
  have hm0 : (mdFault m).1 = 0 := by omega
  have hg := Md.good_of hm0
  have hb01 := hby.trans (hb1.mono hbys)
  refine wp_seq ?_
  refine wp_seq ?_
  have hv2 := validateFm_any t [.int .i64 kd, .string nm, .slice A n1 c1, .slice B n2 c2] w1 S (fmRep.keep ht (hkeep w1 hb01) (fun _ h => h)) (hlt w1 hb01)
  have hay1 := (hb1.block _ (lt_heap hay)).trans hay
  have hmy1 := (hb1.block _ (lt_heap hmy)).trans hmy
  refine ho_r4_wp hay1 hv2 (fun g2 a3 w2 h3 hg2 hge2 hb2 => ?_) a2 ⟨h2.1, h2.2.1, h2.2.2.1, h2.2.2.2.1, h2.2.2.2.2.1, trivial⟩
  have hb2s := hb2.size
  have hx2 := (hb2.block _ (lt_heap hx1)).trans hx1
  refine wp_seq ?_
  refine ho_r5_wp hge2 (fun a4 h4 => ?_) a3 h3
  have hb02 := hb01.trans (hb2.mono (by omega))
  by_cases hf2 : ((fmFault t).1 : Int) ≠ 0
  · refine wp_cond_true ((h4.eval (k := 19) (v := .bool (decide (((fmFault t).1 : Int) ≠ 0))) (by simp)).trans (by rw [decide_eq_true hf2])) ?_
    have hcc : holdsC m t = ((((fmFault t).1 : Nat) : Int), (((fmFault t).2 : Nat) : Int)) := by
      unfold holdsC
      rw [if_neg (by omega), if_pos (by omega)]
    rw [hcc]
    refine wp_seq ?_
    refine wp_thenQ (ho_r6_wp (by omega) hge2 hx2 (fun a20 w20 h20 hx20 hk20 => ?_) a4 ⟨h4.1, h4.2.1, h4.2.2.2.2.1, h4.2.2.2.2.2.1, trivial⟩)
    refine wp_ret ?_
    repeat (first | refine thenR ?_ | refine inBlockR ?_)
    refine ho_ret_wp hx20 ⟨false, rfl, fun _ => rfl, fun h0 => absurd h0 hf2, hb02.trans (Keeps.below (B := w.heap.size) hk20 (fun k e => by have e : k = w.heap.size + 1 + 1 := e; omega) (by have := hb02.size; omega))⟩ a20 h20
  refine wp_cond_false ((h4.eval (k := 19) (v := .bool (decide (((fmFault t).1 : Int) ≠ 0))) (by simp)).trans (by rw [decide_eq_false hf2])) ?_
  refine wp_skip ?_
  show Code.wp _ _ _ a4 w2
  have ht0 : (fmFault t).1 = 0 := by omega
  obtain ⟨v, hvt, ov, nv, dv, ev⟩ := fault_ok9 ht0
  have hsm := fm_small ov nv
  have hcc : holdsC m t = pairT m t := by
    unfold holdsC
    rw [if_neg (by omega), if_neg (by omega)]
  rw [hcc]
  refine wp_seq ?_
  refine wp_seq ?_
  have hay2 := (hb2.block _ (lt_heap hay1)).trans hay1
  have hmy2 := (hb2.block _ (lt_heap hmy1)).trans hmy1
  have hv3 := fault_any m hg t [.int .i64 m.sz, .slice Am m.cs.length cm, .slice Bm m.rs.length dm] [.int .i64 kd, .string nm, .slice A n1 c1, .slice B n2 c2] w2 S (fmRep.keep ht (hkeep w2 hb02) (fun _ h => h)) (hlt w2 hb02) (hm.keep (hkeep w2 hb02) (fun _ h => h)) (by rw [hvt]; exact hsm.1) (by rw [hvt]; exact hsm.2)
  refine ho_r7_wp hmy2 hay2 hv3 (fun g3 a5 w3 h5 hg3 hge3 hb3 => ?_) a4 ⟨h4.1, h4.2.1, h4.2.2.1, h4.2.2.2.1, h4.2.2.2.2.1, trivial⟩
  have hb3s := hb3.size
  have hx3 := (hb3.block _ (lt_heap hx2)).trans hx2
  refine wp_seq ?_
  refine ho_r8_wp hge3 (fun a6 h6 => ?_) a5 h5
  have hb03 := hb02.trans (hb3.mono (by omega))
  by_cases hf3 : (pairT m t).1 ≠ 0
  · refine wp_cond_true ((h6.eval (k := 26) (v := .bool (decide ((pairT m t).1 ≠ 0))) (by simp)).trans (by rw [decide_eq_true hf3])) ?_
    refine wp_seq ?_
    refine wp_thenQ (ho_r9_wp (by omega) hge3 hx3 (fun a20 w20 h20 hx20 hk20 => ?_) a6 ⟨h6.1, h6.2.1, h6.2.2.2.2.1, h6.2.2.2.2.2.1, trivial⟩)
    refine wp_ret ?_
    repeat (first | refine thenR ?_ | refine inBlockR ?_)
    refine ho_ret_wp hx20 ⟨false, rfl, fun _ => rfl, fun h0 => absurd h0 hf3, hb03.trans (Keeps.below (B := w.heap.size) hk20 (fun k e => by have e : k = w.heap.size + 1 + 1 := e; omega) (by have := hb03.size; omega))⟩ a20 h20
  refine wp_cond_false ((h6.eval (k := 26) (v := .bool (decide ((pairT m t).1 ≠ 0))) (by simp)).trans (by rw [decide_eq_false hf3])) ?_
  refine wp_skip ?_
  show Code.wp _ _ _ a6 w3
  obtain ⟨hp0, _, _, hrel⟩ := pairT_zero (Decidable.not_not.1 hf3)
  rw [hp0]
  have hay3 := (hb3.block _ (lt_heap hay2)).trans hay2
  have hmy3 := (hb3.block _ (lt_heap hmy2)).trans hmy2
  subst hvt
  rw [hasT_fm m v ov] at hrel
  have hv4 := value_any m hg v ov hrel [] [.int .i64 kd, .string nm, .slice A n1 c1, .slice B n2 c2] w3 S none 0 0 (by simp; omega) (fmRep.keep ht (hkeep w3 hb03) (fun _ h => h)) Rep.Sl.nil (fun _ => rfl) (Nat.le_refl _) (hm.keep (hkeep w3 hb03) (fun _ h => h)) (hlt w3 hb03)
  refine wp_seq ?_
  refine ho_r10_wp hmy3 hay3 hx3 hv4 (fun w4 a7 w5 h7 hx7 hb4 hk5 => ?_) a6 ⟨h6.1, h6.2.1, h6.2.2.1, h6.2.2.2.1, h6.2.2.2.2.1, trivial⟩
  have hb04 := hb03.trans (hb4.mono (by omega))
  refine wp_ret ?_
  exact ho_ret_wp hx7 ⟨_, rfl, fun h => absurd rfl h, fun _ => ⟨v, rfl, ov, nv, dv, rfl⟩, hb04.trans (Keeps.below (B := w.heap.size) hk5 (fun k e => by have e : k = w.heap.size + 1 + 1 := e; omega) (by have := hb04.size; omega))⟩ a7 h7
end

end Go.Proofs.YtflcbbikfdahhaaDoor
