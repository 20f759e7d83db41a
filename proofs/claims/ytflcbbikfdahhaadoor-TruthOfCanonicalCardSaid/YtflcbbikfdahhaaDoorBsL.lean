/-
  slices.BinarySearchFunc: its regions, by parts.
-/
import Derived.Test.YtflcbbikfdahhaaDoorProg
import Derived.Test.YtflcbbikfdahhaaDoorParts
import Derived.Test.YtflcbbikfdahhaaDoorMore
import Derived.Test.YtflcbbikfdahhaaDoorSets
import Derived.Deep.DeepCutAuto
import Derived.Deep.RegionLaw
import Derived.Deep.RegionHeld3
import Derived.Deep.QuietTactic
import Derived.BigQuiet
namespace Go.Proofs.YtflcbbikfdahhaaDoor
open Go Go.RowKit
set_option linter.unusedSimpArgs false
set_option linter.unusedVariables false

set_option maxRecDepth 1000000 in
theorem frame_bl {P : Act → Prop} (h : ∀ x0 x1 x2 x3 x4 x5 x6 x7 x8 x9 x10 x11 x12 x13 x14 x15 x16 x17 x18 x19 x20 x21 x22 x23 x24 x25 x26 x27 x28 x29 x30 x31 x32 x33 x34 x35 x36 x37 x38 x39 x40 x41 x42 x43 x44 x45 x46 x47 x48 : Value, P ⟨(x0 :: x1 :: x2 :: x3 :: x4 :: x5 :: x6 :: x7 :: x8 :: x9 :: x10 :: x11 :: x12 :: x13 :: x14 :: x15 :: x16 :: x17 :: x18 :: x19 :: x20 :: x21 :: x22 :: x23 :: x24 :: x25 :: x26 :: x27 :: x28 :: x29 :: x30 :: x31 :: x32 :: x33 :: x34 :: x35 :: x36 :: x37 :: x38 :: x39 :: x40 :: x41 :: x42 :: x43 :: x44 :: x45 :: x46 :: x47 :: x48 :: []).toArray, []⟩) : ∀ a : Act, a.tmps.toList.length = 49 → a.defers = [] → P a := by
  rintro ⟨⟨l⟩, d⟩ hs hd
  simp only at hd
  subst hd
  revert l
  show ∀ l : List Value, l.length = 49 → P ⟨⟨l⟩, []⟩
  refine openS (n := 48) (fun x0 => ?_)
  refine openS (n := 47) (fun x1 => ?_)
  refine openS (n := 46) (fun x2 => ?_)
  refine openS (n := 45) (fun x3 => ?_)
  refine openS (n := 44) (fun x4 => ?_)
  refine openS (n := 43) (fun x5 => ?_)
  refine openS (n := 42) (fun x6 => ?_)
  refine openS (n := 41) (fun x7 => ?_)
  refine openS (n := 40) (fun x8 => ?_)
  refine openS (n := 39) (fun x9 => ?_)
  refine openS (n := 38) (fun x10 => ?_)
  refine openS (n := 37) (fun x11 => ?_)
  refine openS (n := 36) (fun x12 => ?_)
  refine openS (n := 35) (fun x13 => ?_)
  refine openS (n := 34) (fun x14 => ?_)
  refine openS (n := 33) (fun x15 => ?_)
  refine openS (n := 32) (fun x16 => ?_)
  refine openS (n := 31) (fun x17 => ?_)
  refine openS (n := 30) (fun x18 => ?_)
  refine openS (n := 29) (fun x19 => ?_)
  refine openS (n := 28) (fun x20 => ?_)
  refine openS (n := 27) (fun x21 => ?_)
  refine openS (n := 26) (fun x22 => ?_)
  refine openS (n := 25) (fun x23 => ?_)
  refine openS (n := 24) (fun x24 => ?_)
  refine openS (n := 23) (fun x25 => ?_)
  refine openS (n := 22) (fun x26 => ?_)
  refine openS (n := 21) (fun x27 => ?_)
  refine openS (n := 20) (fun x28 => ?_)
  refine openS (n := 19) (fun x29 => ?_)
  refine openS (n := 18) (fun x30 => ?_)
  refine openS (n := 17) (fun x31 => ?_)
  refine openS (n := 16) (fun x32 => ?_)
  refine openS (n := 15) (fun x33 => ?_)
  refine openS (n := 14) (fun x34 => ?_)
  refine openS (n := 13) (fun x35 => ?_)
  refine openS (n := 12) (fun x36 => ?_)
  refine openS (n := 11) (fun x37 => ?_)
  refine openS (n := 10) (fun x38 => ?_)
  refine openS (n := 9) (fun x39 => ?_)
  refine openS (n := 8) (fun x40 => ?_)
  refine openS (n := 7) (fun x41 => ?_)
  refine openS (n := 6) (fun x42 => ?_)
  refine openS (n := 5) (fun x43 => ?_)
  refine openS (n := 4) (fun x44 => ?_)
  refine openS (n := 3) (fun x45 => ?_)
  refine openS (n := 2) (fun x46 => ?_)
  refine openS (n := 1) (fun x47 => ?_)
  refine openS (n := 0) (fun x48 => ?_)
  refine open0 ?_
  exact h x0 x1 x2 x3 x4 x5 x6 x7 x8 x9 x10 x11 x12 x13 x14 x15 x16 x17 x18 x19 x20 x21 x22 x23 x24 x25 x26 x27 x28 x29 x30 x31 x32 x33 x34 x35 x36 x37 x38 x39 x40 x41 x42 x43 x44 x45 x46 x47 x48
noncomputable def c_bl_r0 : Code := sub [0] (Tryd.f109.body.getD .skip)
set_option maxRecDepth 1000000 in
set_option maxHeartbeats 16000000 in
theorem bl_r0_wp {Q : Exit → Act → World → Prop} {A : Option Addr} {n c : Nat} {tp : ByteArray} {tq : Int} {TB : Option Addr} {tm td : Nat} {wo : World} (hN : ∀ a', Frm 49 [(0, .slice A n c), (2, .func (Fn.func 75) #[] #[]), (4, .pointer (some ⟨wo.heap.size, 0, none⟩))] a' → Q .normal a' (wo.alloc (.cells #[.string tp, .int .i64 tq, .slice TB tm td] 65))) : ∀ ac, Frm 49 [(0, .slice A n c), (1, .agg #[.string tp, .int .i64 tq, .slice TB tm td]), (2, .func (Fn.func 75) #[] #[])] ac → Code.wp Tryd.prog c_bl_r0 Q ac wo := by
  refine frm_open ?_
  refine frame_bl ?_
  intros
  rename_i hq
  obtain ⟨-, -, e0q, e1q, e2q, -⟩ := hq
  obtain rfl := sI e0q
  obtain rfl := sI e1q
  obtain rfl := sI e2q
  conv => arg 2; whnf
  have HN := Lib.hid hN
  clear hN
  go_wp2_with fail
  exact HN.out _ (id ⟨rfl, rfl, rfl, rfl, rfl, trivial⟩)
noncomputable def c_bl_r1 : Code := sub [1, 0] (Tryd.f109.body.getD .skip)
set_option maxRecDepth 1000000 in
set_option maxHeartbeats 16000000 in
theorem bl_r1_wp {Q : Exit → Act → World → Prop} {A : Option Addr} {n c : Nat} {wo w : World} (hN : ∀ a', Frm 49 [(0, .slice A n c), (2, .func (Fn.func 75) #[] #[]), (4, .pointer (some ⟨wo.heap.size, 0, none⟩)), (8, .int .i64 (n : Nat))] a' → Q .normal a' w) : ∀ ac, Frm 49 [(0, .slice A n c), (2, .func (Fn.func 75) #[] #[]), (4, .pointer (some ⟨wo.heap.size, 0, none⟩))] ac → Code.wp Tryd.prog c_bl_r1 Q ac w := by
  refine frm_open ?_
  refine frame_bl ?_
  intros
  rename_i hq
  obtain ⟨-, -, e0q, e1q, e2q, -⟩ := hq
  obtain rfl := sI e0q
  obtain rfl := sI e1q
  obtain rfl := sI e2q
  conv => arg 2; whnf
  have HN := Lib.hid hN
  clear hN
  go_wp2_with fail
  exact HN.out _ (id ⟨rfl, rfl, rfl, rfl, rfl, rfl, trivial⟩)
noncomputable def c_bl_r2 : Code := sub [1, 1, 0] (Tryd.f109.body.getD .skip)
set_option maxRecDepth 1000000 in
set_option maxHeartbeats 16000000 in
theorem bl_r2_wp {Q : Exit → Act → World → Prop} {A : Option Addr} {n c : Nat} {wo w : World} (hN : ∀ a', Frm 49 [(0, .slice A n c), (2, .func (Fn.func 75) #[] #[]), (4, .pointer (some ⟨wo.heap.size, 0, none⟩)), (8, .int .i64 (n : Nat)), (9, .int .i64 (0 : Nat)), (10, .int .i64 (n : Nat))] a' → Q .normal a' w) : ∀ ac, Frm 49 [(0, .slice A n c), (2, .func (Fn.func 75) #[] #[]), (4, .pointer (some ⟨wo.heap.size, 0, none⟩)), (8, .int .i64 (n : Nat))] ac → Code.wp Tryd.prog c_bl_r2 Q ac w := by
  refine frm_open ?_
  refine frame_bl ?_
  intros
  rename_i hq
  obtain ⟨-, -, e0q, e1q, e2q, e3q, -⟩ := hq
  obtain rfl := sI e0q
  obtain rfl := sI e1q
  obtain rfl := sI e2q
  obtain rfl := sI e3q
  conv => arg 2; whnf
  have HN := Lib.hid hN
  clear hN
  go_wp2_with fail
  exact HN.out _ (id ⟨rfl, rfl, rfl, rfl, rfl, rfl, rfl, rfl, trivial⟩)
noncomputable def c_bl_r3 : Code := sub [1, 1, 1, 0, 0, 0, 0, 0] (Tryd.f109.body.getD .skip)
set_option maxRecDepth 1000000 in
set_option maxHeartbeats 16000000 in
theorem bl_r3_wp {Q : Exit → Act → World → Prop} {i j : Nat} {A : Option Addr} {n c : Nat} {wo w : World} (hN : ∀ a', Frm 49 [(0, .slice A n c), (2, .func (Fn.func 75) #[] #[]), (4, .pointer (some ⟨wo.heap.size, 0, none⟩)), (8, .int .i64 (n : Nat)), (9, .int .i64 (i : Nat)), (10, .int .i64 (j : Nat)), (17, .bool (decide (i < j)))] a' → Q .normal a' w) : ∀ ac, Frm 49 [(0, .slice A n c), (2, .func (Fn.func 75) #[] #[]), (4, .pointer (some ⟨wo.heap.size, 0, none⟩)), (8, .int .i64 (n : Nat)), (9, .int .i64 (i : Nat)), (10, .int .i64 (j : Nat))] ac → Code.wp Tryd.prog c_bl_r3 Q ac w := by
  refine frm_open ?_
  refine frame_bl ?_
  intros
  rename_i hq
  obtain ⟨-, -, e0q, e1q, e2q, e3q, e4q, e5q, -⟩ := hq
  obtain rfl := sI e0q
  obtain rfl := sI e1q
  obtain rfl := sI e2q
  obtain rfl := sI e3q
  obtain rfl := sI e4q
  obtain rfl := sI e5q
  conv => arg 2; whnf
  by_cases h : i < j
  · have t1 : decide ((i : Int) < (j : Int)) = true := by first | exact decide_eq_true (by omega) | exact beq_iff_eq.2 (by omega) | exact bne_iff_ne.2 (by omega)
    have t2 : (decide (i < j)) = true := decide_eq_true h
    rw [t2] at hN
    clear h
    have HN := Lib.hid hN
    clear hN
    go_wp2_with fail
    exact HN.out _ (id ⟨rfl, rfl, rfl, rfl, rfl, rfl, rfl, rfl, rfl, trivial⟩)
  · have t1 : decide ((i : Int) < (j : Int)) = false := by first | exact decide_eq_false (by omega) | exact beq_eq_false_iff_ne.2 (by omega) | exact bne_eq_false_iff_eq.2 (by omega)
    have t2 : (decide (i < j)) = false := decide_eq_false h
    rw [t2] at hN
    clear h
    have HN := Lib.hid hN
    clear hN
    go_wp2_with fail
    exact HN.out _ (id ⟨rfl, rfl, rfl, rfl, rfl, rfl, rfl, rfl, rfl, trivial⟩)
noncomputable def c_bl_r4 : Code := sub [1, 1, 1, 0, 0, 0, 1, 0, 0] (Tryd.f109.body.getD .skip)
set_option maxRecDepth 1000000 in
set_option maxHeartbeats 16000000 in
theorem bl_r4_wp {Q : Exit → Act → World → Prop} {i j : Nat} {A : Option Addr} {n c : Nat} {wo w : World} (hi : i ≤ 1000000) (hj : j ≤ 1000000) (hN : ∀ a', Frm 49 [(0, .slice A n c), (2, .func (Fn.func 75) #[] #[]), (4, .pointer (some ⟨wo.heap.size, 0, none⟩)), (8, .int .i64 (n : Nat)), (9, .int .i64 (i : Nat)), (10, .int .i64 (j : Nat)), (11, .int .i64 (((i + j) / 2) : Nat))] a' → Q .normal a' w) : ∀ ac, Frm 49 [(0, .slice A n c), (2, .func (Fn.func 75) #[] #[]), (4, .pointer (some ⟨wo.heap.size, 0, none⟩)), (8, .int .i64 (n : Nat)), (9, .int .i64 (i : Nat)), (10, .int .i64 (j : Nat))] ac → Code.wp Tryd.prog c_bl_r4 Q ac w := by
  refine frm_open ?_
  refine frame_bl ?_
  intros
  rename_i hq
  obtain ⟨-, -, e0q, e1q, e2q, e3q, e4q, e5q, -⟩ := hq
  obtain rfl := sI e0q
  obtain rfl := sI e1q
  obtain rfl := sI e2q
  obtain rfl := sI e3q
  obtain rfl := sI e4q
  obtain rfl := sI e5q
  conv => arg 2; whnf
  have q1 : (i : Int) ≤ 1000000 := by omega
  have q2 : (j : Int) ≤ 1000000 := by omega
  have HN := Lib.hid hN
  clear hN
  go_wp2_with fail
  exact HN.out _ (id ⟨rfl, rfl, rfl, rfl, rfl, rfl, rfl, rfl, rfl, trivial⟩)
noncomputable def c_bl_r5 : Code := sub [1, 1, 1, 0, 0, 0, 1, 0, 1, 0] (Tryd.f109.body.getD .skip)
set_option maxRecDepth 1000000 in
set_option maxHeartbeats 16000000 in
theorem bl_r5_wp {K : Act → World → Prop} {h : Nat} {z : Int} {b o : Nat} {p : ByteArray} {q : Int} {B : Option Addr} {m d : Nat} {i j : Nat} {n c : Nat} {tp : ByteArray} {tq : Int} {TB : Option Addr} {tm td : Nat} {wo w : World} (hh : h < n) (hbx : w.heap[wo.heap.size]? = some (.cells #[.string tp, .int .i64 tq, .slice TB tm td] 65 (0, 0))) (e0 : w.cell? ⟨b, o + h * 3, none⟩ = some (.string p)) (e1 : w.cell? ⟨b, o + h * 3 + 1, none⟩ = some (.int .i64 q)) (e2 : w.cell? ⟨b, o + h * 3 + 2, none⟩ = some (.slice B m d)) (hbl : b < w.heap.size) (hc : ∀ W : World, Below w.heap.size w W → Calls Tryd.prog 75 #[.agg #[.string p, .int .i64 q, .slice B m d], .agg #[.string tp, .int .i64 tq, .slice TB tm td]] W fun e w' => e = .returned (.int .i64 z) ∧ Below w.heap.size w w') (hN : ∀ a' w', Frm 49 [(0, .slice (some ⟨b, o, none⟩) n c), (2, .func (Fn.func 75) #[] #[]), (4, .pointer (some ⟨wo.heap.size, 0, none⟩)), (8, .int .i64 (n : Nat)), (9, .int .i64 (i : Nat)), (10, .int .i64 (j : Nat)), (11, .int .i64 (h : Nat)), (31, .bool (decide (z < 0)))] a' → Below w.heap.size w w' → K a' w') : ∀ ac, Frm 49 [(0, .slice (some ⟨b, o, none⟩) n c), (2, .func (Fn.func 75) #[] #[]), (4, .pointer (some ⟨wo.heap.size, 0, none⟩)), (8, .int .i64 (n : Nat)), (9, .int .i64 (i : Nat)), (10, .int .i64 (j : Nat)), (11, .int .i64 (h : Nat))] ac → Code.wp Tryd.prog c_bl_r5 (Exit.then K (fun _ _ _ => False)) ac w := by
  refine frm_open ?_
  refine frame_bl ?_
  intros
  rename_i hq
  obtain ⟨-, -, e0q, e1q, e2q, e3q, e4q, e5q, e6q, -⟩ := hq
  obtain rfl := sI e0q
  obtain rfl := sI e1q
  obtain rfl := sI e2q
  obtain rfl := sI e3q
  obtain rfl := sI e4q
  obtain rfl := sI e5q
  obtain rfl := sI e6q
  conv => arg 2; whnf
  have q0 : (0 : Int) ≤ (h : Int) := by omega
  have q1 : (h : Int) < (n : Int) := by omega
  have x0 := cellv hbx 0 rfl
  have x1 := cellv hbx 1 rfl
  have x2 := cellv hbx 2 rfl
  have xl := lt_heap hbx
  clear hbx
  by_cases hz : z < 0
  · have t1 : decide (z < 0) = true := decide_eq_true hz
    rw [t1] at hN
    clear hz
    have HC := Lib.hid hc
    have HN := Lib.hid hN
    clear hc hN
    go_region_law (first
      | (refine step_call (by rfl) 75 _ ?hargs (HC.out _ ?hbel) ?_; (case hargs => (go_simp; done)); (case hbel => first | exact Below.refl _ _ | exact (Below.refl _ _).drew); rintro e w1 ⟨rfl, hb1⟩; refine ⟨_, rfl, ?_⟩; have HB1 := Lib.hid hb1; clear hb1))
    all_goals go_wp2_with fail
    all_goals exact HN.out _ _ (id ⟨rfl, rfl, rfl, rfl, rfl, rfl, rfl, rfl, rfl, rfl, trivial⟩) HB1.out
  · have t1 : decide (z < 0) = false := decide_eq_false hz
    rw [t1] at hN
    clear hz
    have HC := Lib.hid hc
    have HN := Lib.hid hN
    clear hc hN
    go_region_law (first
      | (refine step_call (by rfl) 75 _ ?hargs (HC.out _ ?hbel) ?_; (case hargs => (go_simp; done)); (case hbel => first | exact Below.refl _ _ | exact (Below.refl _ _).drew); rintro e w1 ⟨rfl, hb1⟩; refine ⟨_, rfl, ?_⟩; have HB1 := Lib.hid hb1; clear hb1))
    all_goals go_wp2_with fail
    all_goals exact HN.out _ _ (id ⟨rfl, rfl, rfl, rfl, rfl, rfl, rfl, rfl, rfl, rfl, trivial⟩) HB1.out
noncomputable def c_bl_r6 : Code := sub [1, 1, 1, 0, 0, 0, 1, 0, 1, 1, 0] (Tryd.f109.body.getD .skip)
set_option maxRecDepth 1000000 in
set_option maxHeartbeats 16000000 in
theorem bl_r6_wp {Q : Exit → Act → World → Prop} {h : Nat} {i j : Nat} {A : Option Addr} {n c : Nat} {wo w : World} (hh : h ≤ 1000000) (hN : ∀ a', Frm 49 [(0, .slice A n c), (2, .func (Fn.func 75) #[] #[]), (4, .pointer (some ⟨wo.heap.size, 0, none⟩)), (8, .int .i64 (n : Nat)), (9, .int .i64 ((h + 1) : Nat)), (10, .int .i64 (j : Nat))] a' → Q .normal a' w) : ∀ ac, Frm 49 [(0, .slice A n c), (2, .func (Fn.func 75) #[] #[]), (4, .pointer (some ⟨wo.heap.size, 0, none⟩)), (8, .int .i64 (n : Nat)), (9, .int .i64 (i : Nat)), (10, .int .i64 (j : Nat)), (11, .int .i64 (h : Nat))] ac → Code.wp Tryd.prog c_bl_r6 Q ac w := by
  refine frm_open ?_
  refine frame_bl ?_
  intros
  rename_i hq
  obtain ⟨-, -, e0q, e1q, e2q, e3q, e4q, e5q, e6q, -⟩ := hq
  obtain rfl := sI e0q
  obtain rfl := sI e1q
  obtain rfl := sI e2q
  obtain rfl := sI e3q
  obtain rfl := sI e4q
  obtain rfl := sI e5q
  obtain rfl := sI e6q
  conv => arg 2; whnf
  have q1 : (h : Int) ≤ 1000000 := by omega
  have HN := Lib.hid hN
  clear hN
  go_wp2_with fail
  exact HN.out _ (id ⟨rfl, rfl, rfl, rfl, rfl, rfl, rfl, rfl, trivial⟩)
noncomputable def c_bl_r7 : Code := sub [1, 1, 1, 0, 0, 0, 1, 0, 1, 1, 1] (Tryd.f109.body.getD .skip)
set_option maxRecDepth 1000000 in
set_option maxHeartbeats 16000000 in
theorem bl_r7_wp {Q : Exit → Act → World → Prop} {h : Nat} {i j : Nat} {A : Option Addr} {n c : Nat} {wo w : World} (hN : ∀ a', Frm 49 [(0, .slice A n c), (2, .func (Fn.func 75) #[] #[]), (4, .pointer (some ⟨wo.heap.size, 0, none⟩)), (8, .int .i64 (n : Nat)), (9, .int .i64 (i : Nat)), (10, .int .i64 (h : Nat))] a' → Q .normal a' w) : ∀ ac, Frm 49 [(0, .slice A n c), (2, .func (Fn.func 75) #[] #[]), (4, .pointer (some ⟨wo.heap.size, 0, none⟩)), (8, .int .i64 (n : Nat)), (9, .int .i64 (i : Nat)), (10, .int .i64 (j : Nat)), (11, .int .i64 (h : Nat))] ac → Code.wp Tryd.prog c_bl_r7 Q ac w := by
  refine frm_open ?_
  refine frame_bl ?_
  intros
  rename_i hq
  obtain ⟨-, -, e0q, e1q, e2q, e3q, e4q, e5q, e6q, -⟩ := hq
  obtain rfl := sI e0q
  obtain rfl := sI e1q
  obtain rfl := sI e2q
  obtain rfl := sI e3q
  obtain rfl := sI e4q
  obtain rfl := sI e5q
  obtain rfl := sI e6q
  conv => arg 2; whnf
  have HN := Lib.hid hN
  clear hN
  go_wp2_with fail
  exact HN.out _ (id ⟨rfl, rfl, rfl, rfl, rfl, rfl, rfl, rfl, trivial⟩)
noncomputable def c_bl_r8n : Code := sub [1, 1, 1, 1, 0] (Tryd.f109.body.getD .skip)
set_option maxRecDepth 1000000 in
set_option maxHeartbeats 16000000 in
theorem bl_r8n_wp {K : Act → World → Prop} {i j : Nat} {A : Option Addr} {n c : Nat} {tp : ByteArray} {tq : Int} {TB : Option Addr} {tm td : Nat} {wo w : World} (hi : n ≤ i) (hbx : w.heap[wo.heap.size]? = some (.cells #[.string tp, .int .i64 tq, .slice TB tm td] 65 (0, 0))) (hN : ∀ a' w', Frm 49 [(6, .int .i64 (i : Nat)), (7, .bool false)] a' → Below w.heap.size w w' → K a' w') : ∀ ac, Frm 49 [(0, .slice A n c), (2, .func (Fn.func 75) #[] #[]), (4, .pointer (some ⟨wo.heap.size, 0, none⟩)), (8, .int .i64 (n : Nat)), (9, .int .i64 (i : Nat)), (10, .int .i64 (j : Nat))] ac → Code.wp Tryd.prog c_bl_r8n (Exit.then K (fun _ _ _ => False)) ac w := by
  refine frm_open ?_
  refine frame_bl ?_
  intros
  rename_i hq
  obtain ⟨-, -, e0q, e1q, e2q, e3q, e4q, e5q, -⟩ := hq
  obtain rfl := sI e0q
  obtain rfl := sI e1q
  obtain rfl := sI e2q
  obtain rfl := sI e3q
  obtain rfl := sI e4q
  obtain rfl := sI e5q
  conv => arg 2; whnf
  have t1 : decide ((i : Int) < (n : Int)) = false := decide_eq_false (by omega)
  have t2 : decide (i < n) = false := decide_eq_false (by omega)
  have x0 := cellv hbx 0 rfl
  have x1 := cellv hbx 1 rfl
  have x2 := cellv hbx 2 rfl
  have xl := lt_heap hbx
  clear hbx
  have HN := Lib.hid hN
  clear hN
  go_quiet (fail)
  all_goals go_wp2_with fail
  all_goals exact HN.out _ _ (id ⟨rfl, rfl, rfl, rfl, trivial⟩) (by first | exact Below.refl _ _ | exact below_drewN (Below.refl _ _) _)
noncomputable def c_bl_r8 : Code := sub [1, 1, 1, 1, 0] (Tryd.f109.body.getD .skip)
set_option maxRecDepth 1000000 in
set_option maxHeartbeats 16000000 in
theorem bl_r8_wp {K : Act → World → Prop} {z : Int} {b o : Nat} {p : ByteArray} {q : Int} {B : Option Addr} {m d : Nat} {i j : Nat} {n c : Nat} {tp : ByteArray} {tq : Int} {TB : Option Addr} {tm td : Nat} {wo w : World} (hi : i < n) (hbx : w.heap[wo.heap.size]? = some (.cells #[.string tp, .int .i64 tq, .slice TB tm td] 65 (0, 0))) (e0 : w.cell? ⟨b, o + i * 3, none⟩ = some (.string p)) (e1 : w.cell? ⟨b, o + i * 3 + 1, none⟩ = some (.int .i64 q)) (e2 : w.cell? ⟨b, o + i * 3 + 2, none⟩ = some (.slice B m d)) (hbl : b < w.heap.size) (hc : ∀ W : World, Below w.heap.size w W → Calls Tryd.prog 75 #[.agg #[.string p, .int .i64 q, .slice B m d], .agg #[.string tp, .int .i64 tq, .slice TB tm td]] W fun e w' => e = .returned (.int .i64 z) ∧ Below w.heap.size w w') (hN : ∀ a' w', Frm 49 [(6, .int .i64 (i : Nat)), (7, .bool (decide (z = 0)))] a' → Below w.heap.size w w' → K a' w') : ∀ ac, Frm 49 [(0, .slice (some ⟨b, o, none⟩) n c), (2, .func (Fn.func 75) #[] #[]), (4, .pointer (some ⟨wo.heap.size, 0, none⟩)), (8, .int .i64 (n : Nat)), (9, .int .i64 (i : Nat)), (10, .int .i64 (j : Nat))] ac → Code.wp Tryd.prog c_bl_r8 (Exit.then K (fun _ _ _ => False)) ac w := by
  refine frm_open ?_
  refine frame_bl ?_
  intros
  rename_i hq
  obtain ⟨-, -, e0q, e1q, e2q, e3q, e4q, e5q, -⟩ := hq
  obtain rfl := sI e0q
  obtain rfl := sI e1q
  obtain rfl := sI e2q
  obtain rfl := sI e3q
  obtain rfl := sI e4q
  obtain rfl := sI e5q
  conv => arg 2; whnf
  have q0 : (0 : Int) ≤ (i : Int) := by omega
  have q1 : (i : Int) < (n : Int) := by omega
  have t1 : decide ((i : Int) < (n : Int)) = true := decide_eq_true (by omega)
  have t2 : decide (i < n) = true := decide_eq_true (by omega)
  have x0 := cellv hbx 0 rfl
  have x1 := cellv hbx 1 rfl
  have x2 := cellv hbx 2 rfl
  have xl := lt_heap hbx
  clear hbx
  by_cases hz : z = 0
  · subst hz
    rw [show decide ((0 : Int) = 0) = true from rfl] at hN
    have HC := Lib.hid hc
    have HN := Lib.hid hN
    clear hc hN
    go_region_held3 (fun w' => w'.cell? ⟨b, o + i * 3, none⟩ = some (.string p) ∧ w'.cell? ⟨b, o + i * 3 + 1, none⟩ = some (.int .i64 q) ∧ w'.cell? ⟨b, o + i * 3 + 2, none⟩ = some (.slice B m d) ∧ w'.cell? ⟨wo.heap.size, 0, none⟩ = some (.string tp) ∧ w'.cell? ⟨wo.heap.size, 1, none⟩ = some (.int .i64 tq) ∧ w'.cell? ⟨wo.heap.size, 2, none⟩ = some (.slice TB tm td))
      ((first | (go_keep; done) | (go_split_ands; (repeat' apply And.intro) <;> (refine (kc5 _ _ (by omega)).trans ?_; assumption))))
      (first
        | ((with_reducible refine (HC.out _ ?hbel).mono ?_); (case hbel => first | exact Below.refl _ _ | exact (Below.refl _ _).drew); rintro e w4 ⟨rfl, hw4⟩; have kc5 : ∀ k q, k < w.heap.size → w4.cell? ⟨k, q, none⟩ = _ := (fun k q h => hw4.cell (p := ⟨k, q, none⟩) h); have HB1 := Lib.hid hw4; clear hw4)
        | fail)
    all_goals go_wp2_with fail
    all_goals exact HN.out _ _ (id ⟨rfl, rfl, rfl, rfl, trivial⟩) HB1.out
  · have t3 : (z == 0) = false := beq_eq_false_iff_ne.2 hz
    rw [show decide (z = 0) = false from decide_eq_false hz] at hN
    clear hz
    have HC := Lib.hid hc
    have HN := Lib.hid hN
    clear hc hN
    go_region_held3 (fun w' => w'.cell? ⟨b, o + i * 3, none⟩ = some (.string p) ∧ w'.cell? ⟨b, o + i * 3 + 1, none⟩ = some (.int .i64 q) ∧ w'.cell? ⟨b, o + i * 3 + 2, none⟩ = some (.slice B m d) ∧ w'.cell? ⟨wo.heap.size, 0, none⟩ = some (.string tp) ∧ w'.cell? ⟨wo.heap.size, 1, none⟩ = some (.int .i64 tq) ∧ w'.cell? ⟨wo.heap.size, 2, none⟩ = some (.slice TB tm td))
      ((first | (go_keep; done) | (go_split_ands; (repeat' apply And.intro) <;> (refine (kc5 _ _ (by omega)).trans ?_; assumption))))
      (first
        | ((with_reducible refine (HC.out _ ?hbel).mono ?_); (case hbel => first | exact Below.refl _ _ | exact (Below.refl _ _).drew); rintro e w4 ⟨rfl, hw4⟩; have kc5 : ∀ k q, k < w.heap.size → w4.cell? ⟨k, q, none⟩ = _ := (fun k q h => hw4.cell (p := ⟨k, q, none⟩) h); have HB1 := Lib.hid hw4; clear hw4)
        | fail)
    all_goals go_wp2_with fail
    all_goals exact HN.out _ _ (id ⟨rfl, rfl, rfl, rfl, trivial⟩) HB1.out
set_option maxRecDepth 1000000 in
theorem bl_ret_wp {R : Ending → World → Prop} {w' : World} {i : Nat} {bb : Bool} (hR : R (.returned (.tuple #[.int .i64 (i : Nat), .bool bb])) w') : ∀ ac, Frm 49 [(6, .int .i64 (i : Nat)), (7, .bool bb)] ac → bodyPost Tryd.prog Tryd.f109 R .ret ac w' := by
  refine frm_open ?_
  refine frame_bl ?_
  intros
  rename_i hq
  obtain ⟨-, -, e0q, e1q, -⟩ := hq
  obtain rfl := sI e0q
  obtain rfl := sI e1q
  refine bodyPost_ret (v := .tuple #[.int .i64 (i : Nat), .bool bb]) (by simp [results, Tryd.results109, go_sem]) rfl ?_
  exact hR

end Go.Proofs.YtflcbbikfdahhaaDoor
