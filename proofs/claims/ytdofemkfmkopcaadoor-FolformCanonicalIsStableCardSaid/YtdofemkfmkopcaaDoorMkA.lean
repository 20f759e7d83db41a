/-
  The reference's marked: its regions, by parts.
-/
import Derived.Test.YtdofemkfmkopcaaDoorSwE
import Derived.Test.YtdofemkfmkopcaaDoorDigE
namespace Go.Proofs.YtdofemkfmkopcaaDoor
open Go Go.RowKit
set_option linter.unusedSimpArgs false
set_option linter.unusedVariables false

set_option maxRecDepth 1000000 in
theorem frame_mk {P : Act → Prop} (h : ∀ x0 x1 x2 x3 x4 x5 x6 x7 x8 x9 x10 x11 x12 x13 x14 x15 x16 x17 x18 x19 x20 x21 x22 x23 x24 x25 x26 x27 x28 x29 x30 x31 x32 x33 x34 x35 x36 x37 x38 x39 x40 x41 x42 x43 x44 x45 x46 x47 x48 x49 x50 x51 x52 x53 x54 x55 x56 x57 x58 x59 x60 x61 x62 x63 x64 x65 x66 x67 x68 x69 x70 x71 x72 x73 x74 x75 x76 x77 x78 x79 x80 x81 x82 x83 x84 x85 x86 x87 x88 x89 x90 x91 x92 x93 x94 x95 x96 x97 x98 x99 x100 x101 x102 x103 x104 : Value, P ⟨(x0 :: x1 :: x2 :: x3 :: x4 :: x5 :: x6 :: x7 :: x8 :: x9 :: x10 :: x11 :: x12 :: x13 :: x14 :: x15 :: x16 :: x17 :: x18 :: x19 :: x20 :: x21 :: x22 :: x23 :: x24 :: x25 :: x26 :: x27 :: x28 :: x29 :: x30 :: x31 :: x32 :: x33 :: x34 :: x35 :: x36 :: x37 :: x38 :: x39 :: x40 :: x41 :: x42 :: x43 :: x44 :: x45 :: x46 :: x47 :: x48 :: x49 :: x50 :: x51 :: x52 :: x53 :: x54 :: x55 :: x56 :: x57 :: x58 :: x59 :: x60 :: x61 :: x62 :: x63 :: x64 :: x65 :: x66 :: x67 :: x68 :: x69 :: x70 :: x71 :: x72 :: x73 :: x74 :: x75 :: x76 :: x77 :: x78 :: x79 :: x80 :: x81 :: x82 :: x83 :: x84 :: x85 :: x86 :: x87 :: x88 :: x89 :: x90 :: x91 :: x92 :: x93 :: x94 :: x95 :: x96 :: x97 :: x98 :: x99 :: x100 :: x101 :: x102 :: x103 :: x104 :: []).toArray, []⟩) : ∀ a : Act, a.tmps.toList.length = 105 → a.defers = [] → P a := by
  rintro ⟨⟨l⟩, d⟩ hs hd
  simp only at hd
  subst hd
  revert l
  show ∀ l : List Value, l.length = 105 → P ⟨⟨l⟩, []⟩
  refine openS (n := 104) (fun x0 => ?_)
  refine openS (n := 103) (fun x1 => ?_)
  refine openS (n := 102) (fun x2 => ?_)
  refine openS (n := 101) (fun x3 => ?_)
  refine openS (n := 100) (fun x4 => ?_)
  refine openS (n := 99) (fun x5 => ?_)
  refine openS (n := 98) (fun x6 => ?_)
  refine openS (n := 97) (fun x7 => ?_)
  refine openS (n := 96) (fun x8 => ?_)
  refine openS (n := 95) (fun x9 => ?_)
  refine openS (n := 94) (fun x10 => ?_)
  refine openS (n := 93) (fun x11 => ?_)
  refine openS (n := 92) (fun x12 => ?_)
  refine openS (n := 91) (fun x13 => ?_)
  refine openS (n := 90) (fun x14 => ?_)
  refine openS (n := 89) (fun x15 => ?_)
  refine openS (n := 88) (fun x16 => ?_)
  refine openS (n := 87) (fun x17 => ?_)
  refine openS (n := 86) (fun x18 => ?_)
  refine openS (n := 85) (fun x19 => ?_)
  refine openS (n := 84) (fun x20 => ?_)
  refine openS (n := 83) (fun x21 => ?_)
  refine openS (n := 82) (fun x22 => ?_)
  refine openS (n := 81) (fun x23 => ?_)
  refine openS (n := 80) (fun x24 => ?_)
  refine openS (n := 79) (fun x25 => ?_)
  refine openS (n := 78) (fun x26 => ?_)
  refine openS (n := 77) (fun x27 => ?_)
  refine openS (n := 76) (fun x28 => ?_)
  refine openS (n := 75) (fun x29 => ?_)
  refine openS (n := 74) (fun x30 => ?_)
  refine openS (n := 73) (fun x31 => ?_)
  refine openS (n := 72) (fun x32 => ?_)
  refine openS (n := 71) (fun x33 => ?_)
  refine openS (n := 70) (fun x34 => ?_)
  refine openS (n := 69) (fun x35 => ?_)
  refine openS (n := 68) (fun x36 => ?_)
  refine openS (n := 67) (fun x37 => ?_)
  refine openS (n := 66) (fun x38 => ?_)
  refine openS (n := 65) (fun x39 => ?_)
  refine openS (n := 64) (fun x40 => ?_)
  refine openS (n := 63) (fun x41 => ?_)
  refine openS (n := 62) (fun x42 => ?_)
  refine openS (n := 61) (fun x43 => ?_)
  refine openS (n := 60) (fun x44 => ?_)
  refine openS (n := 59) (fun x45 => ?_)
  refine openS (n := 58) (fun x46 => ?_)
  refine openS (n := 57) (fun x47 => ?_)
  refine openS (n := 56) (fun x48 => ?_)
  refine openS (n := 55) (fun x49 => ?_)
  refine openS (n := 54) (fun x50 => ?_)
  refine openS (n := 53) (fun x51 => ?_)
  refine openS (n := 52) (fun x52 => ?_)
  refine openS (n := 51) (fun x53 => ?_)
  refine openS (n := 50) (fun x54 => ?_)
  refine openS (n := 49) (fun x55 => ?_)
  refine openS (n := 48) (fun x56 => ?_)
  refine openS (n := 47) (fun x57 => ?_)
  refine openS (n := 46) (fun x58 => ?_)
  refine openS (n := 45) (fun x59 => ?_)
  refine openS (n := 44) (fun x60 => ?_)
  refine openS (n := 43) (fun x61 => ?_)
  refine openS (n := 42) (fun x62 => ?_)
  refine openS (n := 41) (fun x63 => ?_)
  refine openS (n := 40) (fun x64 => ?_)
  refine openS (n := 39) (fun x65 => ?_)
  refine openS (n := 38) (fun x66 => ?_)
  refine openS (n := 37) (fun x67 => ?_)
  refine openS (n := 36) (fun x68 => ?_)
  refine openS (n := 35) (fun x69 => ?_)
  refine openS (n := 34) (fun x70 => ?_)
  refine openS (n := 33) (fun x71 => ?_)
  refine openS (n := 32) (fun x72 => ?_)
  refine openS (n := 31) (fun x73 => ?_)
  refine openS (n := 30) (fun x74 => ?_)
  refine openS (n := 29) (fun x75 => ?_)
  refine openS (n := 28) (fun x76 => ?_)
  refine openS (n := 27) (fun x77 => ?_)
  refine openS (n := 26) (fun x78 => ?_)
  refine openS (n := 25) (fun x79 => ?_)
  refine openS (n := 24) (fun x80 => ?_)
  refine openS (n := 23) (fun x81 => ?_)
  refine openS (n := 22) (fun x82 => ?_)
  refine openS (n := 21) (fun x83 => ?_)
  refine openS (n := 20) (fun x84 => ?_)
  refine openS (n := 19) (fun x85 => ?_)
  refine openS (n := 18) (fun x86 => ?_)
  refine openS (n := 17) (fun x87 => ?_)
  refine openS (n := 16) (fun x88 => ?_)
  refine openS (n := 15) (fun x89 => ?_)
  refine openS (n := 14) (fun x90 => ?_)
  refine openS (n := 13) (fun x91 => ?_)
  refine openS (n := 12) (fun x92 => ?_)
  refine openS (n := 11) (fun x93 => ?_)
  refine openS (n := 10) (fun x94 => ?_)
  refine openS (n := 9) (fun x95 => ?_)
  refine openS (n := 8) (fun x96 => ?_)
  refine openS (n := 7) (fun x97 => ?_)
  refine openS (n := 6) (fun x98 => ?_)
  refine openS (n := 5) (fun x99 => ?_)
  refine openS (n := 4) (fun x100 => ?_)
  refine openS (n := 3) (fun x101 => ?_)
  refine openS (n := 2) (fun x102 => ?_)
  refine openS (n := 1) (fun x103 => ?_)
  refine openS (n := 0) (fun x104 => ?_)
  refine open0 ?_
  exact h x0 x1 x2 x3 x4 x5 x6 x7 x8 x9 x10 x11 x12 x13 x14 x15 x16 x17 x18 x19 x20 x21 x22 x23 x24 x25 x26 x27 x28 x29 x30 x31 x32 x33 x34 x35 x36 x37 x38 x39 x40 x41 x42 x43 x44 x45 x46 x47 x48 x49 x50 x51 x52 x53 x54 x55 x56 x57 x58 x59 x60 x61 x62 x63 x64 x65 x66 x67 x68 x69 x70 x71 x72 x73 x74 x75 x76 x77 x78 x79 x80 x81 x82 x83 x84 x85 x86 x87 x88 x89 x90 x91 x92 x93 x94 x95 x96 x97 x98 x99 x100 x101 x102 x103 x104
noncomputable def c_mk_r0 : Code := sub [0] (Tryd.f80.body.getD .skip)
set_option maxRecDepth 1000000 in
set_option maxHeartbeats 16000000 in
theorem mk_r0_wp {Q : Exit → Act → World → Prop} {Df Dt : Option Addr} {bn mf ef mt et : Nat} {wo : World} {kd : Int} {nm : ByteArray} {A B : Option Addr} {n1 c1 n2 c2 : Nat} (hN : ∀ a', Frm 105 [(1, .slice Df mf ef), (2, .slice Dt mt et), (3, .pointer (some ⟨bn, 0, none⟩)), (4, .pointer (some ⟨wo.heap.size, 0, none⟩)), (8, .pointer (some ⟨wo.heap.size + 1, 0, none⟩))] a' → Q .normal a' ((wo.alloc (.cells #[.int .i64 kd, .string nm, .slice A n1 c1, .slice B n2 c2] 25)).alloc (.cells #[.int .i64 0, .string ⟨#[]⟩, .slice none 0 0, .slice none 0 0] 25))) : ∀ ac, Frm 105 [(0, .agg #[.int .i64 kd, .string nm, .slice A n1 c1, .slice B n2 c2]), (1, .slice Df mf ef), (2, .slice Dt mt et), (3, .pointer (some ⟨bn, 0, none⟩))] ac → Code.wp Tryd.prog c_mk_r0 Q ac wo := by
  refine frm_open ?_
  refine frame_mk ?_
  intros
  rename_i hq
  obtain ⟨-, -, e0q, e1q, e2q, e3q, -⟩ := hq
  obtain rfl := sI e0q
  obtain rfl := sI e1q
  obtain rfl := sI e2q
  obtain rfl := sI e3q
  conv => arg 2; whnf
  have HN := Lib.hid hN
  clear hN
  go_wp2_with fail
  exact HN.out _ (id ⟨rfl, rfl, rfl, rfl, rfl, rfl, rfl, trivial⟩)
noncomputable def c_mk_r1 : Code := sub [1, 0] (Tryd.f80.body.getD .skip)
set_option maxRecDepth 1000000 in
set_option maxHeartbeats 16000000 in
theorem mk_r1_wp {Q : Exit → Act → World → Prop} {Df Dt : Option Addr} {bn mf ef mt et : Nat} {wo w : World} {kd : Int} {nm : ByteArray} {A B : Option Addr} {n1 c1 n2 c2 : Nat} (ha : w.heap[wo.heap.size]? = some (.cells #[.int .i64 kd, .string nm, .slice A n1 c1, .slice B n2 c2] 25 (0, 0))) (hN : ∀ a', Frm 105 [(1, .slice Df mf ef), (2, .slice Dt mt et), (3, .pointer (some ⟨bn, 0, none⟩)), (4, .pointer (some ⟨wo.heap.size, 0, none⟩)), (8, .pointer (some ⟨wo.heap.size + 1, 0, none⟩)), (9, .pointer (some ⟨w.heap.size, 0, none⟩))] a' → Q .normal a' (w.alloc (.cells #[.int .i64 kd, .string nm, .slice none 0 0, .slice none 0 0] 25))) : ∀ ac, Frm 105 [(1, .slice Df mf ef), (2, .slice Dt mt et), (3, .pointer (some ⟨bn, 0, none⟩)), (4, .pointer (some ⟨wo.heap.size, 0, none⟩)), (8, .pointer (some ⟨wo.heap.size + 1, 0, none⟩))] ac → Code.wp Tryd.prog c_mk_r1 Q ac w := by
  refine frm_open ?_
  refine frame_mk ?_
  intros
  rename_i hq
  obtain ⟨-, -, e0q, e1q, e2q, e3q, e4q, -⟩ := hq
  obtain rfl := sI e0q
  obtain rfl := sI e1q
  obtain rfl := sI e2q
  obtain rfl := sI e3q
  obtain rfl := sI e4q
  conv => arg 2; whnf
  have a0 := cellv ha 0 rfl
  have a1 := cellv ha 1 rfl
  have a2 := cellv ha 2 rfl
  have a3 := cellv ha 3 rfl
  have al := lt_heap ha
  clear ha
  have HN := Lib.hid hN
  clear hN
  go_wp2_with fail
  exact HN.out _ (id ⟨rfl, rfl, rfl, rfl, rfl, rfl, rfl, rfl, trivial⟩)
noncomputable def c_mk_r2 : Code := sub [1, 1, 0, 0] (Tryd.f80.body.getD .skip)
set_option maxRecDepth 1000000 in
set_option maxHeartbeats 16000000 in
theorem mk_r2_wp {Q : Exit → Act → World → Prop} {Df Dt : Option Addr} {bn mf ef mt et : Nat} {PP : Nat → Prop} {vw vs : Value} {ws : List ByteArray} {x : ByteArray} {wo w : World} {kd : Int} {nm : ByteArray} {A B : Option Addr} {n1 c1 n2 c2 : Nat} (hs : CY PP wo w vw ws x vs kd nm A n1 c1 B n2 c2) (hN : ∀ a', Frm 105 [(1, .slice Df mf ef), (2, .slice Dt mt et), (3, .pointer (some ⟨bn, 0, none⟩)), (4, .pointer (some ⟨wo.heap.size, 0, none⟩)), (8, .pointer (some ⟨wo.heap.size + 1, 0, none⟩)), (9, .pointer (some ⟨wo.heap.size + 2, 0, none⟩)), (20, .slice A n1 c1), (21, .int .i64 (n1 : Nat)), (22, .int .i64 (0 : Nat))] a' → Q .normal a' w) : ∀ ac, Frm 105 [(1, .slice Df mf ef), (2, .slice Dt mt et), (3, .pointer (some ⟨bn, 0, none⟩)), (4, .pointer (some ⟨wo.heap.size, 0, none⟩)), (8, .pointer (some ⟨wo.heap.size + 1, 0, none⟩)), (9, .pointer (some ⟨wo.heap.size + 2, 0, none⟩))] ac → Code.wp Tryd.prog c_mk_r2 Q ac w := by
  refine frm_open ?_
  refine frame_mk ?_
  intros
  rename_i hq
  obtain ⟨-, -, e0q, e1q, e2q, e3q, e4q, e5q, -⟩ := hq
  obtain rfl := sI e0q
  obtain rfl := sI e1q
  obtain rfl := sI e2q
  obtain rfl := sI e3q
  obtain rfl := sI e4q
  obtain rfl := sI e5q
  conv => arg 2; whnf
  have a0 := cellv hs.a 0 rfl
  have a1 := cellv hs.a 1 rfl
  have a2 := cellv hs.a 2 rfl
  have a3 := cellv hs.a 3 rfl
  have al := lt_heap hs.a
  have HS := Lib.hid hs
  clear hs
  have HN := Lib.hid hN
  clear hN
  go_wp2_with fail
  exact HN.out _ (id ⟨rfl, rfl, rfl, rfl, rfl, rfl, rfl, rfl, rfl, rfl, rfl, trivial⟩)
noncomputable def c_mk_r3 : Code := sub [1, 1, 0, 1, 0, 0, 0] (Tryd.f80.body.getD .skip)
set_option maxRecDepth 1000000 in
set_option maxHeartbeats 16000000 in
theorem mk_r3_wp {Q : Exit → Act → World → Prop} {A : Option Addr} {n1 c1 i : Nat} {wo w : World} {Df Dt : Option Addr} {bn mf ef mt et : Nat} (hN : ∀ a', Frm 105 [(1, .slice Df mf ef), (2, .slice Dt mt et), (3, .pointer (some ⟨bn, 0, none⟩)), (4, .pointer (some ⟨wo.heap.size, 0, none⟩)), (8, .pointer (some ⟨wo.heap.size + 1, 0, none⟩)), (9, .pointer (some ⟨wo.heap.size + 2, 0, none⟩)), (20, .slice A n1 c1), (21, .int .i64 (n1 : Nat)), (22, .int .i64 (i : Nat)), (23, .bool (decide (i < n1)))] a' → Q .normal a' w) : ∀ ac, Frm 105 [(1, .slice Df mf ef), (2, .slice Dt mt et), (3, .pointer (some ⟨bn, 0, none⟩)), (4, .pointer (some ⟨wo.heap.size, 0, none⟩)), (8, .pointer (some ⟨wo.heap.size + 1, 0, none⟩)), (9, .pointer (some ⟨wo.heap.size + 2, 0, none⟩)), (20, .slice A n1 c1), (21, .int .i64 (n1 : Nat)), (22, .int .i64 (i : Nat))] ac → Code.wp Tryd.prog c_mk_r3 Q ac w := by
  refine frm_open ?_
  refine frame_mk ?_
  intros
  rename_i hq
  obtain ⟨-, -, e0q, e1q, e2q, e3q, e4q, e5q, e6q, e7q, e8q, -⟩ := hq
  obtain rfl := sI e0q
  obtain rfl := sI e1q
  obtain rfl := sI e2q
  obtain rfl := sI e3q
  obtain rfl := sI e4q
  obtain rfl := sI e5q
  obtain rfl := sI e6q
  obtain rfl := sI e7q
  obtain rfl := sI e8q
  conv => arg 2; whnf
  by_cases h : i < n1
  · have t1 : decide ((i : Int) < (n1 : Int)) = true := by first | exact decide_eq_true (by omega) | exact beq_iff_eq.2 (by omega) | exact bne_iff_ne.2 (by omega)
    have t2 : (decide (i < n1)) = true := decide_eq_true h
    rw [t2] at hN
    clear h
    have HN := Lib.hid hN
    clear hN
    go_wp2_with fail
    exact HN.out _ (id ⟨rfl, rfl, rfl, rfl, rfl, rfl, rfl, rfl, rfl, rfl, rfl, rfl, trivial⟩)
  · have t1 : decide ((i : Int) < (n1 : Int)) = false := by first | exact decide_eq_false (by omega) | exact beq_eq_false_iff_ne.2 (by omega) | exact bne_eq_false_iff_eq.2 (by omega)
    have t2 : (decide (i < n1)) = false := decide_eq_false h
    rw [t2] at hN
    clear h
    have HN := Lib.hid hN
    clear hN
    go_wp2_with fail
    exact HN.out _ (id ⟨rfl, rfl, rfl, rfl, rfl, rfl, rfl, rfl, rfl, rfl, rfl, rfl, trivial⟩)
noncomputable def c_mk_r4 : Code := sub [1, 1, 0, 1, 0, 0, 1, 1, 0, 0, 0] (Tryd.f80.body.getD .skip)
set_option maxRecDepth 1000000 in
set_option maxHeartbeats 16000000 in
theorem mk_r4_wp {Q : Exit → Act → World → Prop} {b o n1 c1 i : Nat} {s : ByteArray} {wo w : World} {Df Dt : Option Addr} {bn mf ef mt et : Nat} (hi : i < n1) (hc : w.cell? ⟨b, o + i, none⟩ = some (.string s)) (hbl : b < w.heap.size) (hN : ∀ a', Frm 105 [(1, .slice Df mf ef), (2, .slice Dt mt et), (3, .pointer (some ⟨bn, 0, none⟩)), (4, .pointer (some ⟨wo.heap.size, 0, none⟩)), (8, .pointer (some ⟨wo.heap.size + 1, 0, none⟩)), (9, .pointer (some ⟨wo.heap.size + 2, 0, none⟩)), (20, .slice (some ⟨b, o, none⟩) n1 c1), (21, .int .i64 (n1 : Nat)), (22, .int .i64 (i : Nat)), (11, .string s)] a' → Q .normal a' w) : ∀ ac, Frm 105 [(1, .slice Df mf ef), (2, .slice Dt mt et), (3, .pointer (some ⟨bn, 0, none⟩)), (4, .pointer (some ⟨wo.heap.size, 0, none⟩)), (8, .pointer (some ⟨wo.heap.size + 1, 0, none⟩)), (9, .pointer (some ⟨wo.heap.size + 2, 0, none⟩)), (20, .slice (some ⟨b, o, none⟩) n1 c1), (21, .int .i64 (n1 : Nat)), (22, .int .i64 (i : Nat))] ac → Code.wp Tryd.prog c_mk_r4 Q ac w := by
  refine frm_open ?_
  refine frame_mk ?_
  intros
  rename_i hq
  obtain ⟨-, -, e0q, e1q, e2q, e3q, e4q, e5q, e6q, e7q, e8q, -⟩ := hq
  obtain rfl := sI e0q
  obtain rfl := sI e1q
  obtain rfl := sI e2q
  obtain rfl := sI e3q
  obtain rfl := sI e4q
  obtain rfl := sI e5q
  obtain rfl := sI e6q
  obtain rfl := sI e7q
  obtain rfl := sI e8q
  conv => arg 2; whnf
  have q0 : (0 : Int) ≤ (i : Int) := by omega
  have q1 : (i : Int) < (n1 : Int) := by omega
  have HN := Lib.hid hN
  clear hN
  go_wp2_with fail
  exact HN.out _ (id ⟨rfl, rfl, rfl, rfl, rfl, rfl, rfl, rfl, rfl, rfl, rfl, rfl, trivial⟩)
noncomputable def c_mk_r5 : Code := sub [1, 1, 0, 1, 0, 0, 1, 1, 0, 0, 1, 0, 0] (Tryd.f80.body.getD .skip)
set_option maxRecDepth 1000000 in
set_option maxHeartbeats 16000000 in
theorem mk_r5_wp {Q : Exit → Act → World → Prop} {s : ByteArray} {A : Option Addr} {n1 c1 i : Nat} {wo w : World} {Df Dt : Option Addr} {bn mf ef mt et : Nat} (hlim : mf ≤ maxLen) (hN : ∀ a', Frm 105 [(1, .slice Df mf ef), (2, .slice Dt mt et), (3, .pointer (some ⟨bn, 0, none⟩)), (4, .pointer (some ⟨wo.heap.size, 0, none⟩)), (8, .pointer (some ⟨wo.heap.size + 1, 0, none⟩)), (9, .pointer (some ⟨wo.heap.size + 2, 0, none⟩)), (20, .slice A n1 c1), (21, .int .i64 (n1 : Nat)), (22, .int .i64 (i : Nat)), (11, .string s), (12, .int .i64 ((mf : Int) - 1))] a' → Q .normal a' w) : ∀ ac, Frm 105 [(1, .slice Df mf ef), (2, .slice Dt mt et), (3, .pointer (some ⟨bn, 0, none⟩)), (4, .pointer (some ⟨wo.heap.size, 0, none⟩)), (8, .pointer (some ⟨wo.heap.size + 1, 0, none⟩)), (9, .pointer (some ⟨wo.heap.size + 2, 0, none⟩)), (20, .slice A n1 c1), (21, .int .i64 (n1 : Nat)), (22, .int .i64 (i : Nat)), (11, .string s)] ac → Code.wp Tryd.prog c_mk_r5 Q ac w := by
  refine frm_open ?_
  refine frame_mk ?_
  intros
  rename_i hq
  obtain ⟨-, -, e0q, e1q, e2q, e3q, e4q, e5q, e6q, e7q, e8q, e9q, -⟩ := hq
  obtain rfl := sI e0q
  obtain rfl := sI e1q
  obtain rfl := sI e2q
  obtain rfl := sI e3q
  obtain rfl := sI e4q
  obtain rfl := sI e5q
  obtain rfl := sI e6q
  obtain rfl := sI e7q
  obtain rfl := sI e8q
  obtain rfl := sI e9q
  conv => arg 2; whnf
  have q9 : (mf : Int) ≤ 9223372036854775807 := by unfold maxLen at hlim; omega
  have HN := Lib.hid hN
  clear hN
  go_wp2_with fail
  exact HN.out _ (id ⟨rfl, rfl, rfl, rfl, rfl, rfl, rfl, rfl, rfl, rfl, rfl, rfl, rfl, trivial⟩)
noncomputable def c_mk_r6 : Code := sub [1, 1, 0, 1, 0, 0, 1, 1, 0, 0, 1, 0, 1, 0, 0, 0, 0] (Tryd.f80.body.getD .skip)
set_option maxRecDepth 1000000 in
set_option maxHeartbeats 16000000 in
theorem mk_r6_wp {Q : Exit → Act → World → Prop} {z : Int} {s : ByteArray} {A : Option Addr} {n1 c1 i : Nat} {wo w : World} {Df Dt : Option Addr} {bn mf ef mt et : Nat} (hN : ∀ a', Frm 105 [(1, .slice Df mf ef), (2, .slice Dt mt et), (3, .pointer (some ⟨bn, 0, none⟩)), (4, .pointer (some ⟨wo.heap.size, 0, none⟩)), (8, .pointer (some ⟨wo.heap.size + 1, 0, none⟩)), (9, .pointer (some ⟨wo.heap.size + 2, 0, none⟩)), (20, .slice A n1 c1), (21, .int .i64 (n1 : Nat)), (22, .int .i64 (i : Nat)), (11, .string s), (12, .int .i64 z), (30, .bool (decide (0 ≤ z)))] a' → Q .normal a' w) : ∀ ac, Frm 105 [(1, .slice Df mf ef), (2, .slice Dt mt et), (3, .pointer (some ⟨bn, 0, none⟩)), (4, .pointer (some ⟨wo.heap.size, 0, none⟩)), (8, .pointer (some ⟨wo.heap.size + 1, 0, none⟩)), (9, .pointer (some ⟨wo.heap.size + 2, 0, none⟩)), (20, .slice A n1 c1), (21, .int .i64 (n1 : Nat)), (22, .int .i64 (i : Nat)), (11, .string s), (12, .int .i64 z)] ac → Code.wp Tryd.prog c_mk_r6 Q ac w := by
  refine frm_open ?_
  refine frame_mk ?_
  intros
  rename_i hq
  obtain ⟨-, -, e0q, e1q, e2q, e3q, e4q, e5q, e6q, e7q, e8q, e9q, e10q, -⟩ := hq
  obtain rfl := sI e0q
  obtain rfl := sI e1q
  obtain rfl := sI e2q
  obtain rfl := sI e3q
  obtain rfl := sI e4q
  obtain rfl := sI e5q
  obtain rfl := sI e6q
  obtain rfl := sI e7q
  obtain rfl := sI e8q
  obtain rfl := sI e9q
  obtain rfl := sI e10q
  conv => arg 2; whnf
  by_cases h : 0 ≤ z
  · have t1 : decide (0 ≤ z) = true := by first | exact decide_eq_true (by omega) | exact beq_iff_eq.2 (by omega) | exact bne_iff_ne.2 (by omega)
    have t2 : (decide (0 ≤ z)) = true := decide_eq_true h
    rw [t2] at hN
    clear h
    have HN := Lib.hid hN
    clear hN
    go_wp2_with fail
    exact HN.out _ (id ⟨rfl, rfl, rfl, rfl, rfl, rfl, rfl, rfl, rfl, rfl, rfl, rfl, rfl, rfl, trivial⟩)
  · have t1 : decide (0 ≤ z) = false := by first | exact decide_eq_false (by omega) | exact beq_eq_false_iff_ne.2 (by omega) | exact bne_eq_false_iff_eq.2 (by omega)
    have t2 : (decide (0 ≤ z)) = false := decide_eq_false h
    rw [t2] at hN
    clear h
    have HN := Lib.hid hN
    clear hN
    go_wp2_with fail
    exact HN.out _ (id ⟨rfl, rfl, rfl, rfl, rfl, rfl, rfl, rfl, rfl, rfl, rfl, rfl, rfl, rfl, trivial⟩)
noncomputable def c_mk_r8 : Code := sub [1, 1, 0, 1, 0, 0, 1, 1, 0, 0, 1, 0, 1, 0, 0, 1, 0, 0, 0] (Tryd.f80.body.getD .skip)
set_option maxRecDepth 1000000 in
set_option maxHeartbeats 16000000 in
theorem mk_r8_wp {Q : Exit → Act → World → Prop} {b o : Nat} {y : ByteArray} {j : Nat} {s : ByteArray} {A : Option Addr} {n1 c1 i : Nat} {wo w : World} {Dt : Option Addr} {bn mf ef mt et : Nat} (hj : j < mf) (hc : w.cell? ⟨b, o + j, none⟩ = some (.string y)) (hbl : b < w.heap.size) (hN : ∀ a', Frm 105 [(1, .slice (some ⟨b, o, none⟩) mf ef), (2, .slice Dt mt et), (3, .pointer (some ⟨bn, 0, none⟩)), (4, .pointer (some ⟨wo.heap.size, 0, none⟩)), (8, .pointer (some ⟨wo.heap.size + 1, 0, none⟩)), (9, .pointer (some ⟨wo.heap.size + 2, 0, none⟩)), (20, .slice A n1 c1), (21, .int .i64 (n1 : Nat)), (22, .int .i64 (i : Nat)), (11, .string s), (12, .int .i64 (j : Nat)), (38, .bool (decide (y = s)))] a' → Q .normal a' w) : ∀ ac, Frm 105 [(1, .slice (some ⟨b, o, none⟩) mf ef), (2, .slice Dt mt et), (3, .pointer (some ⟨bn, 0, none⟩)), (4, .pointer (some ⟨wo.heap.size, 0, none⟩)), (8, .pointer (some ⟨wo.heap.size + 1, 0, none⟩)), (9, .pointer (some ⟨wo.heap.size + 2, 0, none⟩)), (20, .slice A n1 c1), (21, .int .i64 (n1 : Nat)), (22, .int .i64 (i : Nat)), (11, .string s), (12, .int .i64 (j : Nat))] ac → Code.wp Tryd.prog c_mk_r8 Q ac w := by
  refine frm_open ?_
  refine frame_mk ?_
  intros
  rename_i hq
  obtain ⟨-, -, e0q, e1q, e2q, e3q, e4q, e5q, e6q, e7q, e8q, e9q, e10q, -⟩ := hq
  obtain rfl := sI e0q
  obtain rfl := sI e1q
  obtain rfl := sI e2q
  obtain rfl := sI e3q
  obtain rfl := sI e4q
  obtain rfl := sI e5q
  obtain rfl := sI e6q
  obtain rfl := sI e7q
  obtain rfl := sI e8q
  obtain rfl := sI e9q
  obtain rfl := sI e10q
  conv => arg 2; whnf
  have q0 : (0 : Int) ≤ (j : Int) := by omega
  have q1 : (j : Int) < (mf : Int) := by omega
  by_cases h : y = s
  · subst h
    have t1 : (y.toList == y.toList) = true := beq_self_eq_true _
    rw [show decide (y = y) = true from decide_eq_true rfl] at hN
    have HN := Lib.hid hN
    clear hN
    go_wp2_with fail
    exact HN.out _ (id ⟨rfl, rfl, rfl, rfl, rfl, rfl, rfl, rfl, rfl, rfl, rfl, rfl, rfl, rfl, trivial⟩)
  · have t1 : (y.toList == s.toList) = false := beq_eq_false_iff_ne.2 (fun e => h (bytes_inj e))
    rw [show decide (y = s) = false from decide_eq_false h] at hN
    have HN := Lib.hid hN
    clear hN
    go_wp2_with fail
    exact HN.out _ (id ⟨rfl, rfl, rfl, rfl, rfl, rfl, rfl, rfl, rfl, rfl, rfl, rfl, rfl, rfl, trivial⟩)
noncomputable def c_mk_r9 : Code := sub [1, 1, 0, 1, 0, 0, 1, 1, 0, 0, 1, 0, 1, 0, 0, 1, 0, 0, 1, 0, 0] (Tryd.f80.body.getD .skip)
set_option maxRecDepth 1000000 in
set_option maxHeartbeats 16000000 in
theorem mk_r9_wp {Q : Exit → Act → World → Prop} {b o : Nat} {y : ByteArray} {j : Nat} {s : ByteArray} {A : Option Addr} {n1 c1 i : Nat} {wo w : World} {Df : Option Addr} {bn mf ef mt et : Nat} (hj : j < mt) (hc : w.cell? ⟨b, o + j, none⟩ = some (.string y)) (hbl : b < w.heap.size) (hN : ∀ a', Frm 105 [(1, .slice Df mf ef), (2, .slice (some ⟨b, o, none⟩) mt et), (3, .pointer (some ⟨bn, 0, none⟩)), (4, .pointer (some ⟨wo.heap.size, 0, none⟩)), (8, .pointer (some ⟨wo.heap.size + 1, 0, none⟩)), (9, .pointer (some ⟨wo.heap.size + 2, 0, none⟩)), (20, .slice A n1 c1), (21, .int .i64 (n1 : Nat)), (22, .int .i64 (i : Nat)), (11, .string y)] a' → Q .normal a' w) : ∀ ac, Frm 105 [(1, .slice Df mf ef), (2, .slice (some ⟨b, o, none⟩) mt et), (3, .pointer (some ⟨bn, 0, none⟩)), (4, .pointer (some ⟨wo.heap.size, 0, none⟩)), (8, .pointer (some ⟨wo.heap.size + 1, 0, none⟩)), (9, .pointer (some ⟨wo.heap.size + 2, 0, none⟩)), (20, .slice A n1 c1), (21, .int .i64 (n1 : Nat)), (22, .int .i64 (i : Nat)), (11, .string s), (12, .int .i64 (j : Nat))] ac → Code.wp Tryd.prog c_mk_r9 Q ac w := by
  refine frm_open ?_
  refine frame_mk ?_
  intros
  rename_i hq
  obtain ⟨-, -, e0q, e1q, e2q, e3q, e4q, e5q, e6q, e7q, e8q, e9q, e10q, -⟩ := hq
  obtain rfl := sI e0q
  obtain rfl := sI e1q
  obtain rfl := sI e2q
  obtain rfl := sI e3q
  obtain rfl := sI e4q
  obtain rfl := sI e5q
  obtain rfl := sI e6q
  obtain rfl := sI e7q
  obtain rfl := sI e8q
  obtain rfl := sI e9q
  obtain rfl := sI e10q
  conv => arg 2; whnf
  have q0 : (0 : Int) ≤ (j : Int) := by omega
  have q1 : (j : Int) < (mt : Int) := by omega
  have HN := Lib.hid hN
  clear hN
  go_wp2_with fail
  exact HN.out _ (id ⟨rfl, rfl, rfl, rfl, rfl, rfl, rfl, rfl, rfl, rfl, rfl, rfl, trivial⟩)
noncomputable def c_mk_r7 : Code := sub [1, 1, 0, 1, 0, 0, 1, 1, 0, 0, 1, 0, 1, 0, 0, 1, 1] (Tryd.f80.body.getD .skip)
set_option maxRecDepth 1000000 in
set_option maxHeartbeats 16000000 in
theorem mk_r7_wp {Q : Exit → Act → World → Prop} {j : Nat} {s : ByteArray} {A : Option Addr} {n1 c1 i : Nat} {wo w : World} {Df Dt : Option Addr} {bn mf ef mt et : Nat} (hlim : j ≤ maxLen) (hN : ∀ a', Frm 105 [(1, .slice Df mf ef), (2, .slice Dt mt et), (3, .pointer (some ⟨bn, 0, none⟩)), (4, .pointer (some ⟨wo.heap.size, 0, none⟩)), (8, .pointer (some ⟨wo.heap.size + 1, 0, none⟩)), (9, .pointer (some ⟨wo.heap.size + 2, 0, none⟩)), (20, .slice A n1 c1), (21, .int .i64 (n1 : Nat)), (22, .int .i64 (i : Nat)), (11, .string s), (12, .int .i64 ((j : Int) - 1))] a' → Q .normal a' w) : ∀ ac, Frm 105 [(1, .slice Df mf ef), (2, .slice Dt mt et), (3, .pointer (some ⟨bn, 0, none⟩)), (4, .pointer (some ⟨wo.heap.size, 0, none⟩)), (8, .pointer (some ⟨wo.heap.size + 1, 0, none⟩)), (9, .pointer (some ⟨wo.heap.size + 2, 0, none⟩)), (20, .slice A n1 c1), (21, .int .i64 (n1 : Nat)), (22, .int .i64 (i : Nat)), (11, .string s), (12, .int .i64 (j : Nat))] ac → Code.wp Tryd.prog c_mk_r7 Q ac w := by
  refine frm_open ?_
  refine frame_mk ?_
  intros
  rename_i hq
  obtain ⟨-, -, e0q, e1q, e2q, e3q, e4q, e5q, e6q, e7q, e8q, e9q, e10q, -⟩ := hq
  obtain rfl := sI e0q
  obtain rfl := sI e1q
  obtain rfl := sI e2q
  obtain rfl := sI e3q
  obtain rfl := sI e4q
  obtain rfl := sI e5q
  obtain rfl := sI e6q
  obtain rfl := sI e7q
  obtain rfl := sI e8q
  obtain rfl := sI e9q
  obtain rfl := sI e10q
  conv => arg 2; whnf
  have q9 : (j : Int) ≤ 9223372036854775807 := by unfold maxLen at hlim; omega
  have HN := Lib.hid hN
  clear hN
  go_wp2_with fail
  exact HN.out _ (id ⟨rfl, rfl, rfl, rfl, rfl, rfl, rfl, rfl, rfl, rfl, rfl, rfl, rfl, trivial⟩)
noncomputable def c_mk_r11 : Code := sub [1, 1, 0, 1, 0, 0, 1, 1, 1] (Tryd.f80.body.getD .skip)
set_option maxRecDepth 1000000 in
set_option maxHeartbeats 16000000 in
theorem mk_r11_wp {Q : Exit → Act → World → Prop} {A : Option Addr} {n1 c1 i : Nat} {wo w : World} {Df Dt : Option Addr} {bn mf ef mt et : Nat} (hi : i < n1) (hlim : n1 ≤ maxLen) (hN : ∀ a', Frm 105 [(1, .slice Df mf ef), (2, .slice Dt mt et), (3, .pointer (some ⟨bn, 0, none⟩)), (4, .pointer (some ⟨wo.heap.size, 0, none⟩)), (8, .pointer (some ⟨wo.heap.size + 1, 0, none⟩)), (9, .pointer (some ⟨wo.heap.size + 2, 0, none⟩)), (20, .slice A n1 c1), (21, .int .i64 (n1 : Nat)), (22, .int .i64 (i + 1 : Nat))] a' → Q .normal a' w) : ∀ ac, Frm 105 [(1, .slice Df mf ef), (2, .slice Dt mt et), (3, .pointer (some ⟨bn, 0, none⟩)), (4, .pointer (some ⟨wo.heap.size, 0, none⟩)), (8, .pointer (some ⟨wo.heap.size + 1, 0, none⟩)), (9, .pointer (some ⟨wo.heap.size + 2, 0, none⟩)), (20, .slice A n1 c1), (21, .int .i64 (n1 : Nat)), (22, .int .i64 (i : Nat))] ac → Code.wp Tryd.prog c_mk_r11 Q ac w := by
  refine frm_open ?_
  refine frame_mk ?_
  intros
  rename_i hq
  obtain ⟨-, -, e0q, e1q, e2q, e3q, e4q, e5q, e6q, e7q, e8q, -⟩ := hq
  obtain rfl := sI e0q
  obtain rfl := sI e1q
  obtain rfl := sI e2q
  obtain rfl := sI e3q
  obtain rfl := sI e4q
  obtain rfl := sI e5q
  obtain rfl := sI e6q
  obtain rfl := sI e7q
  obtain rfl := sI e8q
  conv => arg 2; whnf
  have hi4 : (i : Int) ≤ 9223372036854775806 := by unfold maxLen at hlim; omega
  have HN := Lib.hid hN
  clear hN
  go_wp2_with fail
  exact HN.out _ (id ⟨rfl, rfl, rfl, rfl, rfl, rfl, rfl, rfl, rfl, rfl, rfl, trivial⟩)
noncomputable def c_mk_r10 : Code := sub [1, 1, 0, 1, 0, 0, 1, 1, 0, 0, 1, 1] (Tryd.f80.body.getD .skip)
set_option maxRecDepth 1000000 in
set_option maxHeartbeats 16000000 in
theorem mk_r10_wp {Q : Exit → Act → World → Prop} {s : ByteArray} {i : Nat} {Df Dt : Option Addr} {bn mf ef mt et : Nat} {PP : Nat → Prop} {vw vs : Value} {ws : List ByteArray} {x : ByteArray} {wo w : World} {kd : Int} {nm : ByteArray} {A B : Option Addr} {n1 c1 n2 c2 : Nat} {k : Nat} (hl : ws.length ≤ 1000000) (hs : CY PP wo w vw ws x vs kd nm A n1 c1 B n2 c2) (hbw : bn < wo.heap.size) (hk : w.heap[bn]? = some (.cells #[.int .i64 (k : Nat)] 3 (0, 0))) (hN : ∀ v' a' w', Frm 105 [(1, .slice Df mf ef), (2, .slice Dt mt et), (3, .pointer (some ⟨bn, 0, none⟩)), (4, .pointer (some ⟨wo.heap.size, 0, none⟩)), (8, .pointer (some ⟨wo.heap.size + 1, 0, none⟩)), (9, .pointer (some ⟨wo.heap.size + 2, 0, none⟩)), (20, .slice A n1 c1), (21, .int .i64 (n1 : Nat)), (22, .int .i64 (i : Nat))] a' → CY PP wo w' v' (ws ++ [s]) x vs kd nm A n1 c1 B n2 c2 → w'.heap[bn]? = some (.cells #[.int .i64 (k : Nat)] 3 (0, 0)) → Q .normal a' w') : ∀ ac, Frm 105 [(1, .slice Df mf ef), (2, .slice Dt mt et), (3, .pointer (some ⟨bn, 0, none⟩)), (4, .pointer (some ⟨wo.heap.size, 0, none⟩)), (8, .pointer (some ⟨wo.heap.size + 1, 0, none⟩)), (9, .pointer (some ⟨wo.heap.size + 2, 0, none⟩)), (20, .slice A n1 c1), (21, .int .i64 (n1 : Nat)), (22, .int .i64 (i : Nat)), (11, .string s)] ac → Code.wp Tryd.prog c_mk_r10 Q ac w := by
  refine frm_open ?_
  refine frame_mk ?_
  intros
  rename_i hq
  obtain ⟨-, -, e0q, e1q, e2q, e3q, e4q, e5q, e6q, e7q, e8q, e9q, -⟩ := hq
  obtain rfl := sI e0q
  obtain rfl := sI e1q
  obtain rfl := sI e2q
  obtain rfl := sI e3q
  obtain rfl := sI e4q
  obtain rfl := sI e5q
  obtain rfl := sI e6q
  obtain rfl := sI e7q
  obtain rfl := sI e8q
  obtain rfl := sI e9q
  conv => arg 2; whnf
  obtain ⟨tsi, hts, ht0, ht1, ht2⟩ := info_parts infoStr
  have b2 := cellv hs.c 2 rfl
  have bf := free_heap hs.c 2
  have blt := lt_heap hs.c
  obtain ⟨A9, c9, rfl⟩ : ∃ A c, vw = .slice A ws.length c := by
    rcases hs.rw.2 with ⟨e, e0⟩ | ⟨g, cap, cur, e, _⟩
    · exact ⟨none, 0, by rw [e, e0]⟩
    · exact ⟨_, _, e⟩
  have hrow := hs.rw
  have HS := Lib.hid hs
  clear hs
  have HN := Lib.hid hN
  have HROW := Lib.hid hrow
  clear hN hrow
  go_wp2_with (at_builtin; refine wpList_append_lies (w.alloc (.cells #[.string s] 9)) ?h1 (.tmp 44) (.tmp 46) 22 ?h2 (wo.heap.size + 3) 9 tsi (.string ⟨#[]⟩) 1 16 ?h3 hts ht0 ht1 ht2 ?h4 ?h5 (.slice A9 ws.length c9) ws.length (ws.map .string) ?h6 ?h7 ⟨w.heap.size, 0, none⟩ 1 1 [.string s] ?h8 ?h9 ?h10 ?h11 ?h12 ?h13 ?h14 ?h15 (w.heap.size + 1) ?h16 ?_)
  try (case h1 => rfl)
  try (case h2 => rfl)
  try (case h3 => exact Tryd.underlying22)
  try (case h4 => rfl)
  try (case h5 => omega)
  try (case h6 => rfl)
  try (case h7 => exact HROW.out.alloc _)
  try (case h8 => rfl)
  try (case h9 => rfl)
  try (case h10 => exact World.news_of_block (cs := #[.string s]) (t := 9) (fr := (0, 0)) (heap_alloc_new w _))
  try (case h11 => simp [Value.oneCell'])
  try (case h12 => omega)
  try (case h13 => first | (simp [maxLen]; omega) | (unfold maxLen; omega))
  try (case h14 => omega)
  try (case h15 => first | omega | (simp; omega))
  try (case h16 => first | rfl | simp)
  intro gg cap w6 hown3 hgrow hat hlt
  have hap := HS.out.word hown3 hgrow
  have HAP := Lib.hid hap
  have HGR := Lib.hid (hgrow.block bn (by have := lt_heap hk; simp; omega) (fun e => by have := (HROW.out.lt bn e.symm).1; omega))
  have d2 := cellv hap.1 2 rfl
  have df := free_heap hap.1 2
  have dl := lt_heap hap.1
  clear hown3 hgrow hat hap b2 bf blt hlt
  go_wp2_with fail
  exact HN.out _ _ _ (id ⟨rfl, rfl, rfl, rfl, rfl, rfl, rfl, rfl, rfl, rfl, rfl, trivial⟩) HAP.out.2 ((heap_far _ (by omega) (HGR.out.trans (heap_old (lt_heap hk) rfl))).trans hk)
noncomputable def c_mk_r12 : Code := sub [1, 1, 1, 0, 0] (Tryd.f80.body.getD .skip)
set_option maxRecDepth 1000000 in
set_option maxHeartbeats 16000000 in
theorem mk_r12_wp {Q : Exit → Act → World → Prop} {Df Dt : Option Addr} {bn mf ef mt et : Nat} {PP : Nat → Prop} {vw vs : Value} {ws : List ByteArray} {x : ByteArray} {wo w : World} {kd : Int} {nm : ByteArray} {A B : Option Addr} {n1 c1 n2 c2 : Nat} (hs : CY PP wo w vw ws x vs kd nm A n1 c1 B n2 c2) (hN : ∀ a', Frm 105 [(1, .slice Df mf ef), (2, .slice Dt mt et), (3, .pointer (some ⟨bn, 0, none⟩)), (4, .pointer (some ⟨wo.heap.size, 0, none⟩)), (8, .pointer (some ⟨wo.heap.size + 1, 0, none⟩)), (9, .pointer (some ⟨wo.heap.size + 2, 0, none⟩)), (57, .bool (isQu kd))] a' → Q .normal a' w) : ∀ ac, Frm 105 [(1, .slice Df mf ef), (2, .slice Dt mt et), (3, .pointer (some ⟨bn, 0, none⟩)), (4, .pointer (some ⟨wo.heap.size, 0, none⟩)), (8, .pointer (some ⟨wo.heap.size + 1, 0, none⟩)), (9, .pointer (some ⟨wo.heap.size + 2, 0, none⟩))] ac → Code.wp Tryd.prog c_mk_r12 Q ac w := by
  refine frm_open ?_
  refine frame_mk ?_
  intros
  rename_i hq
  obtain ⟨-, -, e0q, e1q, e2q, e3q, e4q, e5q, -⟩ := hq
  obtain rfl := sI e0q
  obtain rfl := sI e1q
  obtain rfl := sI e2q
  obtain rfl := sI e3q
  obtain rfl := sI e4q
  obtain rfl := sI e5q
  conv => arg 2; whnf
  have a0 := cellv hs.a 0 rfl
  have a1 := cellv hs.a 1 rfl
  have a2 := cellv hs.a 2 rfl
  have a3 := cellv hs.a 3 rfl
  have al := lt_heap hs.a
  have HS := Lib.hid hs
  clear hs
  by_cases h8 : kd = 8
  · subst h8
    rw [show isQu 8 = true from rfl] at hN
    have HN := Lib.hid hN
    clear hN
    go_wp2_with fail
    exact HN.out _ (id ⟨rfl, rfl, rfl, rfl, rfl, rfl, rfl, rfl, rfl, trivial⟩)
  have t8 : (kd == 8) = false := beq_eq_false_iff_ne.2 h8
  by_cases h9 : kd = 9
  · subst h9
    rw [show isQu 9 = true from rfl] at hN
    have HN := Lib.hid hN
    clear hN
    go_wp2_with fail
    exact HN.out _ (id ⟨rfl, rfl, rfl, rfl, rfl, rfl, rfl, rfl, rfl, trivial⟩)
  have t9 : (kd == 9) = false := beq_eq_false_iff_ne.2 h9
  rw [show isQu kd = false from by simp [isQu, h8, h9]] at hN
  clear h8 h9
  have HN := Lib.hid hN
  clear hN
  go_wp2_with fail
  exact HN.out _ (id ⟨rfl, rfl, rfl, rfl, rfl, rfl, rfl, rfl, rfl, trivial⟩)
theorem CY.count {bn : Nat} {vw vs : Value} {ws : List ByteArray} {x : ByteArray} {wo w : World} {kd : Int} {nm : ByteArray} {A B : Option Addr} {n1 c1 n2 c2 : Nat} (h : CY (· = bn) wo w vw ws x vs kd nm A n1 c1 B n2 c2) (v : Value) : CY (· = bn) wo (w.setCell ⟨bn, 0, none⟩ v) vw ws x vs kd nm A n1 c1 B n2 c2 := h.keeps (Keeps.set (P := (· = bn)) (Keeps.refl _ _) (Or.inl rfl) 0 v)
theorem gB_cat (n : Nat) : (⟨#[33]⟩ : ByteArray) ++ ⟨(Lib.decDigits n).toArray⟩ = gB n := dat_inj (by simp [gB, dat, ByteArray.data_append])
noncomputable def c_mk_r13 : Code := sub [1, 1, 1, 0, 1, 0, 0] (Tryd.f80.body.getD .skip)
set_option maxRecDepth 1000000 in
set_option maxHeartbeats 16000000 in
theorem mk_r13_wp {Q : Exit → Act → World → Prop} {k : Nat} {d : ByteArray} {Df Dt : Option Addr} {bn mf ef mt et : Nat} {vw vs : Value} {ws : List ByteArray} {x : ByteArray} {wo w : World} {kd : Int} {nm : ByteArray} {A B : Option Addr} {n1 c1 n2 c2 : Nat} (hd : d.size ≤ 1000000) (hk : w.heap[bn]? = some (.cells #[.int .i64 (k : Nat)] 3 (0, 0))) (hbw : bn < wo.heap.size) (hc : Calls Tryd.prog 81 #[.int .i64 (k : Nat)] w fun e w' => e = .returned (.string d) ∧ Below w.heap.size w w') (hs : CY (· = bn) wo w vw ws x vs kd nm A n1 c1 B n2 c2) (hN : ∀ a' w', Frm 105 [(1, .slice Df mf ef), (2, .slice Dt mt et), (3, .pointer (some ⟨bn, 0, none⟩)), (4, .pointer (some ⟨wo.heap.size, 0, none⟩)), (8, .pointer (some ⟨wo.heap.size + 1, 0, none⟩)), (9, .pointer (some ⟨wo.heap.size + 2, 0, none⟩))] a' → CY (· = bn) wo w' vw ws ((⟨#[33]⟩ : ByteArray) ++ d) vs kd nm A n1 c1 B n2 c2 → w'.heap[bn]? = some (.cells #[.int .i64 (k : Nat)] 3 (0, 0)) → Q .normal a' w') : ∀ ac, Frm 105 [(1, .slice Df mf ef), (2, .slice Dt mt et), (3, .pointer (some ⟨bn, 0, none⟩)), (4, .pointer (some ⟨wo.heap.size, 0, none⟩)), (8, .pointer (some ⟨wo.heap.size + 1, 0, none⟩)), (9, .pointer (some ⟨wo.heap.size + 2, 0, none⟩))] ac → Code.wp Tryd.prog c_mk_r13 Q ac w := by
  refine frm_open ?_
  refine frame_mk ?_
  intros
  rename_i hq
  obtain ⟨-, -, e0q, e1q, e2q, e3q, e4q, e5q, -⟩ := hq
  obtain rfl := sI e0q
  obtain rfl := sI e1q
  obtain rfl := sI e2q
  obtain rfl := sI e3q
  obtain rfl := sI e4q
  obtain rfl := sI e5q
  conv => arg 2; whnf
  have k0 := cellv hk 0 rfl
  have kl := lt_heap hk
  have hy := fun (W : World) (hb : Below w.heap.size w W) => (hs.below hb).name ((⟨#[33]⟩ : ByteArray) ++ d)
  have d1 := fun (W : World) (hb : Below w.heap.size w W) => cellv (hs.below hb).c 1 rfl
  have df := fun (W : World) (hb : Below w.heap.size w W) => free_heap (hs.below hb).c 1
  have dl := fun (W : World) (hb : Below w.heap.size w W) => lt_heap (hs.below hb).c
  have hcl := lt_heap hs.c
  have HY := Lib.hid hy
  have D1 := Lib.hid d1
  have DF := Lib.hid df
  have DL := Lib.hid dl
  have t1 : ¬ 9223372036854775807 < 1 + d.size := by omega
  have HK := Lib.hid hk
  clear hy d1 df dl hk
  have HS := Lib.hid hs
  clear hs
  have HN := Lib.hid hN
  have HC := Lib.hid hc
  clear hN hc
  go_wp2_with fail
  (with_reducible refine HC.out.mono ?_)
  rintro e w1 ⟨rfl, hb1⟩
  have e1 := D1.out w1 hb1
  have e2 := DF.out w1 hb1
  have e3 := DL.out w1 hb1
  have HY1 := Lib.hid (HY.out w1 hb1)
  have HB1 := Lib.hid hb1
  clear hb1
  go_wp2_with fail
  refine HN.out _ _ (id ⟨rfl, rfl, rfl, rfl, rfl, rfl, rfl, rfl, trivial⟩) HY1.out ?_
  exact (heap_far _ (by omega) (HB1.out.block bn kl)).trans HK.out
noncomputable def c_mk_r14 : Code := sub [1, 1, 1, 0, 1, 0, 1, 0] (Tryd.f80.body.getD .skip)
set_option maxRecDepth 1000000 in
set_option maxHeartbeats 16000000 in
theorem mk_r14_wp {Q : Exit → Act → World → Prop} {k : Nat} {Df Dt : Option Addr} {bn mf ef mt et : Nat} {vw vs : Value} {ws : List ByteArray} {x : ByteArray} {wo w : World} {kd : Int} {nm : ByteArray} {A B : Option Addr} {n1 c1 n2 c2 : Nat} (hkn : k ≤ 1000000) (hk : w.heap[bn]? = some (.cells #[.int .i64 (k : Nat)] 3 (0, 0))) (hs : CY (· = bn) wo w vw ws x vs kd nm A n1 c1 B n2 c2) (hN : ∀ a' w', Frm 105 [(1, .slice Df mf ef), (2, .slice Dt mt et), (3, .pointer (some ⟨bn, 0, none⟩)), (4, .pointer (some ⟨wo.heap.size, 0, none⟩)), (8, .pointer (some ⟨wo.heap.size + 1, 0, none⟩)), (9, .pointer (some ⟨wo.heap.size + 2, 0, none⟩))] a' → CY (· = bn) wo w' vw ws x vs kd nm A n1 c1 B n2 c2 → w'.heap[bn]? = some (.cells #[.int .i64 ((k + 1) : Nat)] 3 (0, 0)) → Q .normal a' w') : ∀ ac, Frm 105 [(1, .slice Df mf ef), (2, .slice Dt mt et), (3, .pointer (some ⟨bn, 0, none⟩)), (4, .pointer (some ⟨wo.heap.size, 0, none⟩)), (8, .pointer (some ⟨wo.heap.size + 1, 0, none⟩)), (9, .pointer (some ⟨wo.heap.size + 2, 0, none⟩))] ac → Code.wp Tryd.prog c_mk_r14 Q ac w := by
  refine frm_open ?_
  refine frame_mk ?_
  intros
  rename_i hq
  obtain ⟨-, -, e0q, e1q, e2q, e3q, e4q, e5q, -⟩ := hq
  obtain rfl := sI e0q
  obtain rfl := sI e1q
  obtain rfl := sI e2q
  obtain rfl := sI e3q
  obtain rfl := sI e4q
  obtain rfl := sI e5q
  conv => arg 2; whnf
  have k0 := cellv hk 0 rfl
  have kf := free_heap hk 0
  have kl := lt_heap hk
  have kw : IntKind.i64.wrap ((k : Int) + 1) = ((k + 1 : Nat) : Int) := by rw [wrap_small _ (by omega) (by omega)]; omega
  have HK := Lib.hid hk
  clear hk
  have HS := Lib.hid hs
  clear hs
  have HN := Lib.hid hN
  clear hN
  go_wp2_with fail
  refine HN.out _ _ (id ⟨rfl, rfl, rfl, rfl, rfl, rfl, rfl, rfl, trivial⟩) (HS.out.count _) ?_
  have := heap_set HK.out 0 (.int .i64 ((k + 1 : Nat) : Int))
  simpa using this
noncomputable def c_mk_r16 : Code := sub [1, 1, 1, 1, 0, 0] (Tryd.f80.body.getD .skip)
set_option maxRecDepth 1000000 in
set_option maxHeartbeats 16000000 in
theorem mk_r16_wp {Q : Exit → Act → World → Prop} {Df Dt : Option Addr} {bn mf ef mt et : Nat} {PP : Nat → Prop} {vw vs : Value} {ws : List ByteArray} {x : ByteArray} {wo w : World} {kd : Int} {nm : ByteArray} {A B : Option Addr} {n1 c1 n2 c2 : Nat} (hs : CY PP wo w vw ws x vs kd nm A n1 c1 B n2 c2) (hN : ∀ a', Frm 105 [(1, .slice Df mf ef), (2, .slice Dt mt et), (3, .pointer (some ⟨bn, 0, none⟩)), (4, .pointer (some ⟨wo.heap.size, 0, none⟩)), (8, .pointer (some ⟨wo.heap.size + 1, 0, none⟩)), (9, .pointer (some ⟨wo.heap.size + 2, 0, none⟩)), (84, .slice B n2 c2), (85, .int .i64 (n2 : Nat)), (86, .int .i64 (0 : Nat))] a' → Q .normal a' w) : ∀ ac, Frm 105 [(1, .slice Df mf ef), (2, .slice Dt mt et), (3, .pointer (some ⟨bn, 0, none⟩)), (4, .pointer (some ⟨wo.heap.size, 0, none⟩)), (8, .pointer (some ⟨wo.heap.size + 1, 0, none⟩)), (9, .pointer (some ⟨wo.heap.size + 2, 0, none⟩))] ac → Code.wp Tryd.prog c_mk_r16 Q ac w := by
  refine frm_open ?_
  refine frame_mk ?_
  intros
  rename_i hq
  obtain ⟨-, -, e0q, e1q, e2q, e3q, e4q, e5q, -⟩ := hq
  obtain rfl := sI e0q
  obtain rfl := sI e1q
  obtain rfl := sI e2q
  obtain rfl := sI e3q
  obtain rfl := sI e4q
  obtain rfl := sI e5q
  conv => arg 2; whnf
  have a0 := cellv hs.a 0 rfl
  have a1 := cellv hs.a 1 rfl
  have a2 := cellv hs.a 2 rfl
  have a3 := cellv hs.a 3 rfl
  have al := lt_heap hs.a
  have HS := Lib.hid hs
  clear hs
  have HN := Lib.hid hN
  clear hN
  go_wp2_with fail
  exact HN.out _ (id ⟨rfl, rfl, rfl, rfl, rfl, rfl, rfl, rfl, rfl, rfl, rfl, trivial⟩)
noncomputable def c_mk_r17 : Code := sub [1, 1, 1, 1, 0, 1, 0, 0, 0] (Tryd.f80.body.getD .skip)
set_option maxRecDepth 1000000 in
set_option maxHeartbeats 16000000 in
theorem mk_r17_wp {Q : Exit → Act → World → Prop} {B : Option Addr} {n2 c2 i : Nat} {wo w : World} {Df Dt : Option Addr} {bn mf ef mt et : Nat} (hN : ∀ a', Frm 105 [(1, .slice Df mf ef), (2, .slice Dt mt et), (3, .pointer (some ⟨bn, 0, none⟩)), (4, .pointer (some ⟨wo.heap.size, 0, none⟩)), (8, .pointer (some ⟨wo.heap.size + 1, 0, none⟩)), (9, .pointer (some ⟨wo.heap.size + 2, 0, none⟩)), (84, .slice B n2 c2), (85, .int .i64 (n2 : Nat)), (86, .int .i64 (i : Nat)), (87, .bool (decide (i < n2)))] a' → Q .normal a' w) : ∀ ac, Frm 105 [(1, .slice Df mf ef), (2, .slice Dt mt et), (3, .pointer (some ⟨bn, 0, none⟩)), (4, .pointer (some ⟨wo.heap.size, 0, none⟩)), (8, .pointer (some ⟨wo.heap.size + 1, 0, none⟩)), (9, .pointer (some ⟨wo.heap.size + 2, 0, none⟩)), (84, .slice B n2 c2), (85, .int .i64 (n2 : Nat)), (86, .int .i64 (i : Nat))] ac → Code.wp Tryd.prog c_mk_r17 Q ac w := by
  refine frm_open ?_
  refine frame_mk ?_
  intros
  rename_i hq
  obtain ⟨-, -, e0q, e1q, e2q, e3q, e4q, e5q, e6q, e7q, e8q, -⟩ := hq
  obtain rfl := sI e0q
  obtain rfl := sI e1q
  obtain rfl := sI e2q
  obtain rfl := sI e3q
  obtain rfl := sI e4q
  obtain rfl := sI e5q
  obtain rfl := sI e6q
  obtain rfl := sI e7q
  obtain rfl := sI e8q
  conv => arg 2; whnf
  by_cases h : i < n2
  · have t1 : decide ((i : Int) < (n2 : Int)) = true := by first | exact decide_eq_true (by omega) | exact beq_iff_eq.2 (by omega) | exact bne_iff_ne.2 (by omega)
    have t2 : (decide (i < n2)) = true := decide_eq_true h
    rw [t2] at hN
    clear h
    have HN := Lib.hid hN
    clear hN
    go_wp2_with fail
    exact HN.out _ (id ⟨rfl, rfl, rfl, rfl, rfl, rfl, rfl, rfl, rfl, rfl, rfl, rfl, trivial⟩)
  · have t1 : decide ((i : Int) < (n2 : Int)) = false := by first | exact decide_eq_false (by omega) | exact beq_eq_false_iff_ne.2 (by omega) | exact bne_eq_false_iff_eq.2 (by omega)
    have t2 : (decide (i < n2)) = false := decide_eq_false h
    rw [t2] at hN
    clear h
    have HN := Lib.hid hN
    clear hN
    go_wp2_with fail
    exact HN.out _ (id ⟨rfl, rfl, rfl, rfl, rfl, rfl, rfl, rfl, rfl, rfl, rfl, rfl, trivial⟩)
noncomputable def c_mk_r18 : Code := sub [1, 1, 1, 1, 0, 1, 0, 0, 1, 1, 0, 0, 0] (Tryd.f80.body.getD .skip)
set_option maxRecDepth 1000000 in
set_option maxHeartbeats 16000000 in
theorem mk_r18_wp {Q : Exit → Act → World → Prop} {B : Option Addr} {n2 c2 i : Nat} {wo w : World} {Df Dt : Option Addr} {bn mf ef mt et : Nat} (hN : ∀ a', Frm 105 [(1, .slice Df mf ef), (2, .slice Dt mt et), (3, .pointer (some ⟨bn, 0, none⟩)), (4, .pointer (some ⟨wo.heap.size, 0, none⟩)), (8, .pointer (some ⟨wo.heap.size + 1, 0, none⟩)), (9, .pointer (some ⟨wo.heap.size + 2, 0, none⟩)), (84, .slice B n2 c2), (85, .int .i64 (n2 : Nat)), (86, .int .i64 (i : Nat)), (13, .int .i64 (i : Nat))] a' → Q .normal a' w) : ∀ ac, Frm 105 [(1, .slice Df mf ef), (2, .slice Dt mt et), (3, .pointer (some ⟨bn, 0, none⟩)), (4, .pointer (some ⟨wo.heap.size, 0, none⟩)), (8, .pointer (some ⟨wo.heap.size + 1, 0, none⟩)), (9, .pointer (some ⟨wo.heap.size + 2, 0, none⟩)), (84, .slice B n2 c2), (85, .int .i64 (n2 : Nat)), (86, .int .i64 (i : Nat))] ac → Code.wp Tryd.prog c_mk_r18 Q ac w := by
  refine frm_open ?_
  refine frame_mk ?_
  intros
  rename_i hq
  obtain ⟨-, -, e0q, e1q, e2q, e3q, e4q, e5q, e6q, e7q, e8q, -⟩ := hq
  obtain rfl := sI e0q
  obtain rfl := sI e1q
  obtain rfl := sI e2q
  obtain rfl := sI e3q
  obtain rfl := sI e4q
  obtain rfl := sI e5q
  obtain rfl := sI e6q
  obtain rfl := sI e7q
  obtain rfl := sI e8q
  conv => arg 2; whnf
  have HN := Lib.hid hN
  clear hN
  go_wp2_with fail
  exact HN.out _ (id ⟨rfl, rfl, rfl, rfl, rfl, rfl, rfl, rfl, rfl, rfl, rfl, rfl, trivial⟩)
noncomputable def c_mk_r20 : Code := sub [1, 1, 1, 1, 0, 1, 0, 0, 1, 1, 1] (Tryd.f80.body.getD .skip)
set_option maxRecDepth 1000000 in
set_option maxHeartbeats 16000000 in
theorem mk_r20_wp {Q : Exit → Act → World → Prop} {B : Option Addr} {n2 c2 i : Nat} {wo w : World} {Df Dt : Option Addr} {bn mf ef mt et : Nat} (hi : i < n2) (hlim : n2 ≤ maxLen) (hN : ∀ a', Frm 105 [(1, .slice Df mf ef), (2, .slice Dt mt et), (3, .pointer (some ⟨bn, 0, none⟩)), (4, .pointer (some ⟨wo.heap.size, 0, none⟩)), (8, .pointer (some ⟨wo.heap.size + 1, 0, none⟩)), (9, .pointer (some ⟨wo.heap.size + 2, 0, none⟩)), (84, .slice B n2 c2), (85, .int .i64 (n2 : Nat)), (86, .int .i64 (i + 1 : Nat))] a' → Q .normal a' w) : ∀ ac, Frm 105 [(1, .slice Df mf ef), (2, .slice Dt mt et), (3, .pointer (some ⟨bn, 0, none⟩)), (4, .pointer (some ⟨wo.heap.size, 0, none⟩)), (8, .pointer (some ⟨wo.heap.size + 1, 0, none⟩)), (9, .pointer (some ⟨wo.heap.size + 2, 0, none⟩)), (84, .slice B n2 c2), (85, .int .i64 (n2 : Nat)), (86, .int .i64 (i : Nat))] ac → Code.wp Tryd.prog c_mk_r20 Q ac w := by
  refine frm_open ?_
  refine frame_mk ?_
  intros
  rename_i hq
  obtain ⟨-, -, e0q, e1q, e2q, e3q, e4q, e5q, e6q, e7q, e8q, -⟩ := hq
  obtain rfl := sI e0q
  obtain rfl := sI e1q
  obtain rfl := sI e2q
  obtain rfl := sI e3q
  obtain rfl := sI e4q
  obtain rfl := sI e5q
  obtain rfl := sI e6q
  obtain rfl := sI e7q
  obtain rfl := sI e8q
  conv => arg 2; whnf
  have hi4 : (i : Int) ≤ 9223372036854775806 := by unfold maxLen at hlim; omega
  have HN := Lib.hid hN
  clear hN
  go_wp2_with fail
  exact HN.out _ (id ⟨rfl, rfl, rfl, rfl, rfl, rfl, rfl, rfl, rfl, rfl, rfl, trivial⟩)
noncomputable def c_mk_r21 : Code := sub [1, 1, 1, 1, 1, 0] (Tryd.f80.body.getD .skip)
set_option maxRecDepth 1000000 in
set_option maxHeartbeats 16000000 in
theorem mk_r21_wp {Q : Exit → Act → World → Prop} {gc gz : Nat} {w : World} {kd : Int} {x : ByteArray} {Aw Av : Option Addr} {nw cw nv cv : Nat} (hc : w.heap[gc]? = some (.cells #[.int .i64 kd, .string x, .slice Aw nw cw, .slice Av nv cv] 25 (0, 0))) (hz : w.heap[gz]? = some (.cells #[.int .i64 0, .string ⟨#[]⟩, .slice none 0 0, .slice none 0 0] 25 (0, 0))) (hN : ∀ a' w', Frm 105 [(8, .pointer (some ⟨gz, 0, none⟩))] a' → w'.heap[gz]? = some (.cells #[.int .i64 kd, .string x, .slice Aw nw cw, .slice Av nv cv] 25 (0, 0)) → Keeps (· = gz) w w' → Q .normal a' w') : ∀ ac, Frm 105 [(8, .pointer (some ⟨gz, 0, none⟩)), (9, .pointer (some ⟨gc, 0, none⟩))] ac → Code.wp Tryd.prog c_mk_r21 Q ac w := by
  refine frm_open ?_
  refine frame_mk ?_
  intros
  rename_i hq
  obtain ⟨-, -, e0q, e1q, -⟩ := hq
  obtain rfl := sI e0q
  obtain rfl := sI e1q
  conv => arg 2; whnf
  have c0 := cellv hc 0 rfl
  have c1 := cellv hc 1 rfl
  have c2 := cellv hc 2 rfl
  have c3 := cellv hc 3 rfl
  have cl := lt_heap hc
  have z0 := cellv hz 0 rfl
  have z1 := cellv hz 1 rfl
  have z2 := cellv hz 2 rfl
  have z3 := cellv hz 3 rfl
  have zf0 := free_heap hz 0
  have zf1 := free_heap hz 1
  have zf2 := free_heap hz 2
  have zf3 := free_heap hz 3
  have zl := lt_heap hz
  have HZ := Lib.hid hz
  clear hc hz
  have HN := Lib.hid hN
  clear hN
  go_wp2_with fail
  exact HN.out _ _ (id ⟨rfl, rfl, rfl, trivial⟩) (at4F HZ.out) (keeps4F (Keeps.refl _ _) (Or.inl rfl))
set_option maxRecDepth 1000000 in
theorem mk_ret_wp {R : Ending → World → Prop} {w' : World} {g : Nat} {v0 v1 v2 v3 : Value} (hg : w'.heap[g]? = some (.cells #[v0, v1, v2, v3] 25 (0, 0))) (ho : v0.oneCell' = true ∧ v1.oneCell' = true ∧ v2.oneCell' = true ∧ v3.oneCell' = true) (hR : R (.returned (.agg #[v0, v1, v2, v3])) w') : ∀ ac, Frm 105 [(8, .pointer (some ⟨g, 0, none⟩))] ac → bodyPost Tryd.prog Tryd.f80 R .ret ac w' := by
  refine frm_open ?_
  refine frame_mk ?_
  intros
  rename_i hq
  obtain ⟨-, -, e0q, -⟩ := hq
  obtain rfl := sI e0q
  have z0 := cellv hg 0 rfl
  have z1 := cellv hg 1 rfl
  have z2 := cellv hg 2 rfl
  have z3 := cellv hg 3 rfl
  have zl := lt_heap hg
  obtain ⟨o0, o1, o2, o3⟩ := ho
  refine bodyPost_ret (v := .agg #[v0, v1, v2, v3]) (by simp [results, Tryd.results80, go_sem, z0, z1, z2, z3, zl, o0, o1, o2, o3]) rfl ?_
  exact hR

end Go.Proofs.YtdofemkfmkopcaaDoor
