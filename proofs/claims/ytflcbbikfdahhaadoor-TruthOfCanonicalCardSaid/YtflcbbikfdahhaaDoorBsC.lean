/-
  slices.BinarySearchFunc: its regions, by parts.
-/
import Derived.Test.YtflcbbikfdahhaaDoorProg
import Derived.Test.YtflcbbikfdahhaaDoorParts
import Derived.Test.YtflcbbikfdahhaaDoorMore
import Derived.Test.YtflcbbikfdahhaaDoorSets
import Derived.Deep.DeepCutAuto
import Derived.Deep.RegionLaw
import Derived.Deep.RegionHeld3
namespace Go.Proofs.YtflcbbikfdahhaaDoor
open Go Go.RowKit
set_option linter.unusedSimpArgs false
set_option linter.unusedVariables false

set_option maxRecDepth 1000000 in
theorem frame_bc {P : Act → Prop} (h : ∀ x0 x1 x2 x3 x4 x5 x6 x7 x8 x9 x10 x11 x12 x13 x14 x15 x16 x17 x18 x19 x20 x21 x22 x23 x24 x25 x26 x27 x28 x29 x30 x31 x32 x33 x34 x35 x36 x37 x38 x39 x40 x41 x42 x43 x44 x45 x46 x47 x48 : Value, P ⟨(x0 :: x1 :: x2 :: x3 :: x4 :: x5 :: x6 :: x7 :: x8 :: x9 :: x10 :: x11 :: x12 :: x13 :: x14 :: x15 :: x16 :: x17 :: x18 :: x19 :: x20 :: x21 :: x22 :: x23 :: x24 :: x25 :: x26 :: x27 :: x28 :: x29 :: x30 :: x31 :: x32 :: x33 :: x34 :: x35 :: x36 :: x37 :: x38 :: x39 :: x40 :: x41 :: x42 :: x43 :: x44 :: x45 :: x46 :: x47 :: x48 :: []).toArray, []⟩) : ∀ a : Act, a.tmps.toList.length = 49 → a.defers = [] → P a := by
  rintro ⟨⟨l⟩, d⟩ hs hd
  simp only at hd
  subst hd
  revert l
  show ∀ l : List Value, l.length = 49 → P ⟨⟨l⟩, []⟩
  refine openS (n := 48) (fun x0 => ?_)
  refine openS (n := 47) (fun x1 => ?_)
  refine openS (n := 46) (fun x2 => ?_)
  refine openS (n := 45) (fun x3 => ?_)
  refine openS (n := 44) (fun x4 => ?_)
  refine openS (n := 43) (fun x5 => ?_)
  refine openS (n := 42) (fun x6 => ?_)
  refine openS (n := 41) (fun x7 => ?_)
  refine openS (n := 40) (fun x8 => ?_)
  refine openS (n := 39) (fun x9 => ?_)
  refine openS (n := 38) (fun x10 => ?_)
  refine openS (n := 37) (fun x11 => ?_)
  refine openS (n := 36) (fun x12 => ?_)
  refine openS (n := 35) (fun x13 => ?_)
  refine openS (n := 34) (fun x14 => ?_)
  refine openS (n := 33) (fun x15 => ?_)
  refine openS (n := 32) (fun x16 => ?_)
  refine openS (n := 31) (fun x17 => ?_)
  refine openS (n := 30) (fun x18 => ?_)
  refine openS (n := 29) (fun x19 => ?_)
  refine openS (n := 28) (fun x20 => ?_)
  refine openS (n := 27) (fun x21 => ?_)
  refine openS (n := 26) (fun x22 => ?_)
  refine openS (n := 25) (fun x23 => ?_)
  refine openS (n := 24) (fun x24 => ?_)
  refine openS (n := 23) (fun x25 => ?_)
  refine openS (n := 22) (fun x26 => ?_)
  refine openS (n := 21) (fun x27 => ?_)
  refine openS (n := 20) (fun x28 => ?_)
  refine openS (n := 19) (fun x29 => ?_)
  refine openS (n := 18) (fun x30 => ?_)
  refine openS (n := 17) (fun x31 => ?_)
  refine openS (n := 16) (fun x32 => ?_)
  refine openS (n := 15) (fun x33 => ?_)
  refine openS (n := 14) (fun x34 => ?_)
  refine openS (n := 13) (fun x35 => ?_)
  refine openS (n := 12) (fun x36 => ?_)
  refine openS (n := 11) (fun x37 => ?_)
  refine openS (n := 10) (fun x38 => ?_)
  refine openS (n := 9) (fun x39 => ?_)
  refine openS (n := 8) (fun x40 => ?_)
  refine openS (n := 7) (fun x41 => ?_)
  refine openS (n := 6) (fun x42 => ?_)
  refine openS (n := 5) (fun x43 => ?_)
  refine openS (n := 4) (fun x44 => ?_)
  refine openS (n := 3) (fun x45 => ?_)
  refine openS (n := 2) (fun x46 => ?_)
  refine openS (n := 1) (fun x47 => ?_)
  refine openS (n := 0) (fun x48 => ?_)
  refine open0 ?_
  exact h x0 x1 x2 x3 x4 x5 x6 x7 x8 x9 x10 x11 x12 x13 x14 x15 x16 x17 x18 x19 x20 x21 x22 x23 x24 x25 x26 x27 x28 x29 x30 x31 x32 x33 x34 x35 x36 x37 x38 x39 x40 x41 x42 x43 x44 x45 x46 x47 x48
noncomputable def c_bc_r0 : Code := sub [0] (Tryd.f107.body.getD .skip)
set_option maxRecDepth 1000000 in
set_option maxHeartbeats 16000000 in
theorem bc_r0_wp {Q : Exit → Act → World → Prop} {A : Option Addr} {n c : Nat} {tv : Value} {w : World} (hN : ∀ a', Frm 49 [(0, .slice A n c), (1, tv), (2, .func (Fn.func 108) #[] #[])] a' → Q .normal a' w) : ∀ ac, Frm 49 [(0, .slice A n c), (1, tv), (2, .func (Fn.func 108) #[] #[])] ac → Code.wp Tryd.prog c_bc_r0 Q ac w := by
  refine frm_open ?_
  refine frame_bc ?_
  intros
  rename_i hq
  obtain ⟨-, -, e0q, e1q, e2q, -⟩ := hq
  obtain rfl := sI e0q
  obtain rfl := sI e1q
  obtain rfl := sI e2q
  conv => arg 2; whnf
  have HN := Lib.hid hN
  clear hN
  go_wp2_with fail
  exact HN.out _ (id ⟨rfl, rfl, rfl, rfl, rfl, trivial⟩)
noncomputable def c_bc_r1 : Code := sub [1, 0] (Tryd.f107.body.getD .skip)
set_option maxRecDepth 1000000 in
set_option maxHeartbeats 16000000 in
theorem bc_r1_wp {Q : Exit → Act → World → Prop} {A : Option Addr} {n c : Nat} {tv : Value} {w : World} (hN : ∀ a', Frm 49 [(0, .slice A n c), (1, tv), (2, .func (Fn.func 108) #[] #[]), (8, .int .i64 (n : Nat))] a' → Q .normal a' w) : ∀ ac, Frm 49 [(0, .slice A n c), (1, tv), (2, .func (Fn.func 108) #[] #[])] ac → Code.wp Tryd.prog c_bc_r1 Q ac w := by
  refine frm_open ?_
  refine frame_bc ?_
  intros
  rename_i hq
  obtain ⟨-, -, e0q, e1q, e2q, -⟩ := hq
  obtain rfl := sI e0q
  obtain rfl := sI e1q
  obtain rfl := sI e2q
  conv => arg 2; whnf
  have HN := Lib.hid hN
  clear hN
  go_wp2_with fail
  exact HN.out _ (id ⟨rfl, rfl, rfl, rfl, rfl, rfl, trivial⟩)
noncomputable def c_bc_r2 : Code := sub [1, 1, 0] (Tryd.f107.body.getD .skip)
set_option maxRecDepth 1000000 in
set_option maxHeartbeats 16000000 in
theorem bc_r2_wp {Q : Exit → Act → World → Prop} {A : Option Addr} {n c : Nat} {tv : Value} {w : World} (hN : ∀ a', Frm 49 [(0, .slice A n c), (1, tv), (2, .func (Fn.func 108) #[] #[]), (8, .int .i64 (n : Nat)), (9, .int .i64 (0 : Nat)), (10, .int .i64 (n : Nat))] a' → Q .normal a' w) : ∀ ac, Frm 49 [(0, .slice A n c), (1, tv), (2, .func (Fn.func 108) #[] #[]), (8, .int .i64 (n : Nat))] ac → Code.wp Tryd.prog c_bc_r2 Q ac w := by
  refine frm_open ?_
  refine frame_bc ?_
  intros
  rename_i hq
  obtain ⟨-, -, e0q, e1q, e2q, e3q, -⟩ := hq
  obtain rfl := sI e0q
  obtain rfl := sI e1q
  obtain rfl := sI e2q
  obtain rfl := sI e3q
  conv => arg 2; whnf
  have HN := Lib.hid hN
  clear hN
  go_wp2_with fail
  exact HN.out _ (id ⟨rfl, rfl, rfl, rfl, rfl, rfl, rfl, rfl, trivial⟩)
noncomputable def c_bc_r3 : Code := sub [1, 1, 1, 0, 0, 0, 0, 0] (Tryd.f107.body.getD .skip)
set_option maxRecDepth 1000000 in
set_option maxHeartbeats 16000000 in
theorem bc_r3_wp {Q : Exit → Act → World → Prop} {i j : Nat} {A : Option Addr} {n c : Nat} {tv : Value} {w : World} (hN : ∀ a', Frm 49 [(0, .slice A n c), (1, tv), (2, .func (Fn.func 108) #[] #[]), (8, .int .i64 (n : Nat)), (9, .int .i64 (i : Nat)), (10, .int .i64 (j : Nat)), (17, .bool (decide (i < j)))] a' → Q .normal a' w) : ∀ ac, Frm 49 [(0, .slice A n c), (1, tv), (2, .func (Fn.func 108) #[] #[]), (8, .int .i64 (n : Nat)), (9, .int .i64 (i : Nat)), (10, .int .i64 (j : Nat))] ac → Code.wp Tryd.prog c_bc_r3 Q ac w := by
  refine frm_open ?_
  refine frame_bc ?_
  intros
  rename_i hq
  obtain ⟨-, -, e0q, e1q, e2q, e3q, e4q, e5q, -⟩ := hq
  obtain rfl := sI e0q
  obtain rfl := sI e1q
  obtain rfl := sI e2q
  obtain rfl := sI e3q
  obtain rfl := sI e4q
  obtain rfl := sI e5q
  conv => arg 2; whnf
  by_cases h : i < j
  · have t1 : decide ((i : Int) < (j : Int)) = true := by first | exact decide_eq_true (by omega) | exact beq_iff_eq.2 (by omega) | exact bne_iff_ne.2 (by omega)
    have t2 : (decide (i < j)) = true := decide_eq_true h
    rw [t2] at hN
    clear h
    have HN := Lib.hid hN
    clear hN
    go_wp2_with fail
    exact HN.out _ (id ⟨rfl, rfl, rfl, rfl, rfl, rfl, rfl, rfl, rfl, trivial⟩)
  · have t1 : decide ((i : Int) < (j : Int)) = false := by first | exact decide_eq_false (by omega) | exact beq_eq_false_iff_ne.2 (by omega) | exact bne_eq_false_iff_eq.2 (by omega)
    have t2 : (decide (i < j)) = false := decide_eq_false h
    rw [t2] at hN
    clear h
    have HN := Lib.hid hN
    clear hN
    go_wp2_with fail
    exact HN.out _ (id ⟨rfl, rfl, rfl, rfl, rfl, rfl, rfl, rfl, rfl, trivial⟩)
noncomputable def c_bc_r4 : Code := sub [1, 1, 1, 0, 0, 0, 1, 0, 0] (Tryd.f107.body.getD .skip)
set_option maxRecDepth 1000000 in
set_option maxHeartbeats 16000000 in
theorem bc_r4_wp {Q : Exit → Act → World → Prop} {i j : Nat} {A : Option Addr} {n c : Nat} {tv : Value} {w : World} (hi : i ≤ 1000000) (hj : j ≤ 1000000) (hN : ∀ a', Frm 49 [(0, .slice A n c), (1, tv), (2, .func (Fn.func 108) #[] #[]), (8, .int .i64 (n : Nat)), (9, .int .i64 (i : Nat)), (10, .int .i64 (j : Nat)), (11, .int .i64 (((i + j) / 2) : Nat))] a' → Q .normal a' w) : ∀ ac, Frm 49 [(0, .slice A n c), (1, tv), (2, .func (Fn.func 108) #[] #[]), (8, .int .i64 (n : Nat)), (9, .int .i64 (i : Nat)), (10, .int .i64 (j : Nat))] ac → Code.wp Tryd.prog c_bc_r4 Q ac w := by
  refine frm_open ?_
  refine frame_bc ?_
  intros
  rename_i hq
  obtain ⟨-, -, e0q, e1q, e2q, e3q, e4q, e5q, -⟩ := hq
  obtain rfl := sI e0q
  obtain rfl := sI e1q
  obtain rfl := sI e2q
  obtain rfl := sI e3q
  obtain rfl := sI e4q
  obtain rfl := sI e5q
  conv => arg 2; whnf
  have q1 : (i : Int) ≤ 1000000 := by omega
  have q2 : (j : Int) ≤ 1000000 := by omega
  have HN := Lib.hid hN
  clear hN
  go_wp2_with fail
  exact HN.out _ (id ⟨rfl, rfl, rfl, rfl, rfl, rfl, rfl, rfl, rfl, trivial⟩)
noncomputable def c_bc_r5 : Code := sub [1, 1, 1, 0, 0, 0, 1, 0, 1, 0] (Tryd.f107.body.getD .skip)
set_option maxRecDepth 1000000 in
set_option maxHeartbeats 16000000 in
theorem bc_r5_wp {Q : Exit → Act → World → Prop} {h : Nat} {z : Int} {b o : Nat} {p : ByteArray} {q : Int} {i j : Nat} {n c : Nat} {tv : Value} {w : World} (hh : h < n) (e0 : w.cell? ⟨b, o + h * 2, none⟩ = some (.string p)) (e1 : w.cell? ⟨b, o + h * 2 + 1, none⟩ = some (.int .i64 q)) (hbl : b < w.heap.size) (hc : ∀ W : World, Below w.heap.size w W → Calls Tryd.prog 108 #[.agg #[.string p, .int .i64 q], tv] W fun e w' => e = .returned (.int .i64 z) ∧ Below w.heap.size w w') (hN : ∀ a' w', Frm 49 [(0, .slice (some ⟨b, o, none⟩) n c), (1, tv), (2, .func (Fn.func 108) #[] #[]), (8, .int .i64 (n : Nat)), (9, .int .i64 (i : Nat)), (10, .int .i64 (j : Nat)), (11, .int .i64 (h : Nat)), (31, .bool (decide (z < 0)))] a' → Below w.heap.size w w' → Q .normal a' w') : ∀ ac, Frm 49 [(0, .slice (some ⟨b, o, none⟩) n c), (1, tv), (2, .func (Fn.func 108) #[] #[]), (8, .int .i64 (n : Nat)), (9, .int .i64 (i : Nat)), (10, .int .i64 (j : Nat)), (11, .int .i64 (h : Nat))] ac → Code.wp Tryd.prog c_bc_r5 Q ac w := by
  refine frm_open ?_
  refine frame_bc ?_
  intros
  rename_i hq
  obtain ⟨-, -, e0q, e1q, e2q, e3q, e4q, e5q, e6q, -⟩ := hq
  obtain rfl := sI e0q
  obtain rfl := sI e1q
  obtain rfl := sI e2q
  obtain rfl := sI e3q
  obtain rfl := sI e4q
  obtain rfl := sI e5q
  obtain rfl := sI e6q
  conv => arg 2; whnf
  have q0 : (0 : Int) ≤ (h : Int) := by omega
  have q1 : (h : Int) < (n : Int) := by omega
  by_cases hz : z < 0
  · have t1 : decide (z < 0) = true := decide_eq_true hz
    rw [t1] at hN
    clear hz
    have HN := Lib.hid hN
    have HC := Lib.hid hc
    clear hN hc
    go_wp2_with fail
    (with_reducible refine (HC.out _ (Below.refl _ _)).mono ?_)
    rintro e w1 ⟨rfl, hb1⟩
    have HB1 := Lib.hid hb1
    clear hb1
    go_wp2_with fail
    exact HN.out _ _ (id ⟨rfl, rfl, rfl, rfl, rfl, rfl, rfl, rfl, rfl, rfl, trivial⟩) HB1.out
  · have t1 : decide (z < 0) = false := decide_eq_false hz
    rw [t1] at hN
    clear hz
    have HN := Lib.hid hN
    have HC := Lib.hid hc
    clear hN hc
    go_wp2_with fail
    (with_reducible refine (HC.out _ (Below.refl _ _)).mono ?_)
    rintro e w1 ⟨rfl, hb1⟩
    have HB1 := Lib.hid hb1
    clear hb1
    go_wp2_with fail
    exact HN.out _ _ (id ⟨rfl, rfl, rfl, rfl, rfl, rfl, rfl, rfl, rfl, rfl, trivial⟩) HB1.out
noncomputable def c_bc_r6 : Code := sub [1, 1, 1, 0, 0, 0, 1, 0, 1, 1, 0] (Tryd.f107.body.getD .skip)
set_option maxRecDepth 1000000 in
set_option maxHeartbeats 16000000 in
theorem bc_r6_wp {Q : Exit → Act → World → Prop} {h : Nat} {i j : Nat} {A : Option Addr} {n c : Nat} {tv : Value} {w : World} (hh : h ≤ 1000000) (hN : ∀ a', Frm 49 [(0, .slice A n c), (1, tv), (2, .func (Fn.func 108) #[] #[]), (8, .int .i64 (n : Nat)), (9, .int .i64 ((h + 1) : Nat)), (10, .int .i64 (j : Nat))] a' → Q .normal a' w) : ∀ ac, Frm 49 [(0, .slice A n c), (1, tv), (2, .func (Fn.func 108) #[] #[]), (8, .int .i64 (n : Nat)), (9, .int .i64 (i : Nat)), (10, .int .i64 (j : Nat)), (11, .int .i64 (h : Nat))] ac → Code.wp Tryd.prog c_bc_r6 Q ac w := by
  refine frm_open ?_
  refine frame_bc ?_
  intros
  rename_i hq
  obtain ⟨-, -, e0q, e1q, e2q, e3q, e4q, e5q, e6q, -⟩ := hq
  obtain rfl := sI e0q
  obtain rfl := sI e1q
  obtain rfl := sI e2q
  obtain rfl := sI e3q
  obtain rfl := sI e4q
  obtain rfl := sI e5q
  obtain rfl := sI e6q
  conv => arg 2; whnf
  have q1 : (h : Int) ≤ 1000000 := by omega
  have HN := Lib.hid hN
  clear hN
  go_wp2_with fail
  exact HN.out _ (id ⟨rfl, rfl, rfl, rfl, rfl, rfl, rfl, rfl, trivial⟩)
noncomputable def c_bc_r7 : Code := sub [1, 1, 1, 0, 0, 0, 1, 0, 1, 1, 1] (Tryd.f107.body.getD .skip)
set_option maxRecDepth 1000000 in
set_option maxHeartbeats 16000000 in
theorem bc_r7_wp {Q : Exit → Act → World → Prop} {h : Nat} {i j : Nat} {A : Option Addr} {n c : Nat} {tv : Value} {w : World} (hN : ∀ a', Frm 49 [(0, .slice A n c), (1, tv), (2, .func (Fn.func 108) #[] #[]), (8, .int .i64 (n : Nat)), (9, .int .i64 (i : Nat)), (10, .int .i64 (h : Nat))] a' → Q .normal a' w) : ∀ ac, Frm 49 [(0, .slice A n c), (1, tv), (2, .func (Fn.func 108) #[] #[]), (8, .int .i64 (n : Nat)), (9, .int .i64 (i : Nat)), (10, .int .i64 (j : Nat)), (11, .int .i64 (h : Nat))] ac → Code.wp Tryd.prog c_bc_r7 Q ac w := by
  refine frm_open ?_
  refine frame_bc ?_
  intros
  rename_i hq
  obtain ⟨-, -, e0q, e1q, e2q, e3q, e4q, e5q, e6q, -⟩ := hq
  obtain rfl := sI e0q
  obtain rfl := sI e1q
  obtain rfl := sI e2q
  obtain rfl := sI e3q
  obtain rfl := sI e4q
  obtain rfl := sI e5q
  obtain rfl := sI e6q
  conv => arg 2; whnf
  have HN := Lib.hid hN
  clear hN
  go_wp2_with fail
  exact HN.out _ (id ⟨rfl, rfl, rfl, rfl, rfl, rfl, rfl, rfl, trivial⟩)
noncomputable def c_bc_r8n : Code := sub [1, 1, 1, 1, 0] (Tryd.f107.body.getD .skip)
set_option maxRecDepth 1000000 in
set_option maxHeartbeats 16000000 in
theorem bc_r8n_wp {Q : Exit → Act → World → Prop} {i j : Nat} {A : Option Addr} {n c : Nat} {tv : Value} {w : World} (hi : n ≤ i) (hN : ∀ a', Frm 49 [(6, .int .i64 (i : Nat)), (7, .bool false)] a' → Q .normal a' w) : ∀ ac, Frm 49 [(0, .slice A n c), (1, tv), (2, .func (Fn.func 108) #[] #[]), (8, .int .i64 (n : Nat)), (9, .int .i64 (i : Nat)), (10, .int .i64 (j : Nat))] ac → Code.wp Tryd.prog c_bc_r8n Q ac w := by
  refine frm_open ?_
  refine frame_bc ?_
  intros
  rename_i hq
  obtain ⟨-, -, e0q, e1q, e2q, e3q, e4q, e5q, -⟩ := hq
  obtain rfl := sI e0q
  obtain rfl := sI e1q
  obtain rfl := sI e2q
  obtain rfl := sI e3q
  obtain rfl := sI e4q
  obtain rfl := sI e5q
  conv => arg 2; whnf
  have t1 : decide ((i : Int) < (n : Int)) = false := decide_eq_false (by omega)
  have t2 : decide (i < n) = false := decide_eq_false (by omega)
  have HN := Lib.hid hN
  clear hN
  go_wp2_with fail
  exact HN.out _ (id ⟨rfl, rfl, rfl, rfl, trivial⟩)
noncomputable def c_bc_r8 : Code := sub [1, 1, 1, 1, 0] (Tryd.f107.body.getD .skip)
set_option maxRecDepth 1000000 in
set_option maxHeartbeats 16000000 in
theorem bc_r8_wp {Q : Exit → Act → World → Prop} {z : Int} {b o : Nat} {p : ByteArray} {q : Int} {i j : Nat} {n c : Nat} {tv : Value} {w : World} (hi : i < n) (e0 : w.cell? ⟨b, o + i * 2, none⟩ = some (.string p)) (e1 : w.cell? ⟨b, o + i * 2 + 1, none⟩ = some (.int .i64 q)) (hbl : b < w.heap.size) (hc : ∀ W : World, Below w.heap.size w W → Calls Tryd.prog 108 #[.agg #[.string p, .int .i64 q], tv] W fun e w' => e = .returned (.int .i64 z) ∧ Below w.heap.size w w') (hN : ∀ a' w', Frm 49 [(6, .int .i64 (i : Nat)), (7, .bool (decide (z = 0)))] a' → Below w.heap.size w w' → Q .normal a' w') : ∀ ac, Frm 49 [(0, .slice (some ⟨b, o, none⟩) n c), (1, tv), (2, .func (Fn.func 108) #[] #[]), (8, .int .i64 (n : Nat)), (9, .int .i64 (i : Nat)), (10, .int .i64 (j : Nat))] ac → Code.wp Tryd.prog c_bc_r8 Q ac w := by
  refine frm_open ?_
  refine frame_bc ?_
  intros
  rename_i hq
  obtain ⟨-, -, e0q, e1q, e2q, e3q, e4q, e5q, -⟩ := hq
  obtain rfl := sI e0q
  obtain rfl := sI e1q
  obtain rfl := sI e2q
  obtain rfl := sI e3q
  obtain rfl := sI e4q
  obtain rfl := sI e5q
  conv => arg 2; whnf
  have q0 : (0 : Int) ≤ (i : Int) := by omega
  have q1 : (i : Int) < (n : Int) := by omega
  have t1 : decide ((i : Int) < (n : Int)) = true := decide_eq_true (by omega)
  have t2 : decide (i < n) = true := decide_eq_true (by omega)
  by_cases hz : z = 0
  · subst hz
    rw [show decide ((0 : Int) = 0) = true from rfl] at hN
    have HN := Lib.hid hN
    have HC := Lib.hid hc
    clear hN hc
    go_wp2_with fail
    (with_reducible refine (HC.out _ (Below.refl _ _)).mono ?_)
    rintro e w1 ⟨rfl, hb1⟩
    have HB1 := Lib.hid hb1
    clear hb1
    go_wp2_with fail
    exact HN.out _ _ (id ⟨rfl, rfl, rfl, rfl, trivial⟩) HB1.out
  · have t3 : (z == 0) = false := beq_eq_false_iff_ne.2 hz
    rw [show decide (z = 0) = false from decide_eq_false hz] at hN
    clear hz
    have HN := Lib.hid hN
    have HC := Lib.hid hc
    clear hN hc
    go_wp2_with fail
    (with_reducible refine (HC.out _ (Below.refl _ _)).mono ?_)
    rintro e w1 ⟨rfl, hb1⟩
    have HB1 := Lib.hid hb1
    clear hb1
    go_wp2_with fail
    exact HN.out _ _ (id ⟨rfl, rfl, rfl, rfl, trivial⟩) HB1.out
set_option maxRecDepth 1000000 in
theorem bc_ret_wp {R : Ending → World → Prop} {w' : World} {i : Nat} {bb : Bool} (hR : R (.returned (.tuple #[.int .i64 (i : Nat), .bool bb])) w') : ∀ ac, Frm 49 [(6, .int .i64 (i : Nat)), (7, .bool bb)] ac → bodyPost Tryd.prog Tryd.f107 R .ret ac w' := by
  refine frm_open ?_
  refine frame_bc ?_
  intros
  rename_i hq
  obtain ⟨-, -, e0q, e1q, -⟩ := hq
  obtain rfl := sI e0q
  obtain rfl := sI e1q
  refine bodyPost_ret (v := .tuple #[.int .i64 (i : Nat), .bool bb]) (by simp [results, Tryd.results107, go_sem]) rfl ?_
  exact hR

end Go.Proofs.YtflcbbikfdahhaaDoor
