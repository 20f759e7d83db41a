/-
  The reference's FormText: its regions, by parts.
-/
import Derived.Test.YtdofemkfmkopcaaDoorCkA
import Derived.Test.YtdofemkfmkopcaaDoorFmText
import Derived.Test.YtdofemkfmkopcaaDoorCrA
import Derived.Deep.RegionLaw
namespace Go.Proofs.YtdofemkfmkopcaaDoor
open Go Go.RowKit
set_option linter.unusedSimpArgs false
set_option linter.unusedVariables false

set_option maxRecDepth 1000000 in
theorem frame_ft {P : Act → Prop} (h : ∀ x0 x1 x2 x3 x4 x5 x6 x7 x8 x9 x10 x11 x12 x13 x14 x15 x16 x17 x18 x19 x20 x21 x22 x23 x24 x25 x26 x27 x28 x29 x30 x31 x32 x33 x34 x35 x36 x37 x38 x39 x40 x41 x42 x43 x44 x45 x46 x47 x48 x49 x50 x51 x52 x53 x54 x55 x56 x57 x58 x59 x60 x61 x62 x63 x64 x65 x66 x67 x68 x69 x70 x71 x72 x73 x74 x75 x76 x77 x78 x79 x80 x81 x82 x83 x84 x85 x86 x87 x88 x89 x90 x91 x92 x93 x94 x95 x96 x97 x98 x99 x100 x101 x102 x103 x104 x105 x106 x107 : Value, P ⟨(x0 :: x1 :: x2 :: x3 :: x4 :: x5 :: x6 :: x7 :: x8 :: x9 :: x10 :: x11 :: x12 :: x13 :: x14 :: x15 :: x16 :: x17 :: x18 :: x19 :: x20 :: x21 :: x22 :: x23 :: x24 :: x25 :: x26 :: x27 :: x28 :: x29 :: x30 :: x31 :: x32 :: x33 :: x34 :: x35 :: x36 :: x37 :: x38 :: x39 :: x40 :: x41 :: x42 :: x43 :: x44 :: x45 :: x46 :: x47 :: x48 :: x49 :: x50 :: x51 :: x52 :: x53 :: x54 :: x55 :: x56 :: x57 :: x58 :: x59 :: x60 :: x61 :: x62 :: x63 :: x64 :: x65 :: x66 :: x67 :: x68 :: x69 :: x70 :: x71 :: x72 :: x73 :: x74 :: x75 :: x76 :: x77 :: x78 :: x79 :: x80 :: x81 :: x82 :: x83 :: x84 :: x85 :: x86 :: x87 :: x88 :: x89 :: x90 :: x91 :: x92 :: x93 :: x94 :: x95 :: x96 :: x97 :: x98 :: x99 :: x100 :: x101 :: x102 :: x103 :: x104 :: x105 :: x106 :: x107 :: []).toArray, []⟩) : ∀ a : Act, a.tmps.toList.length = 108 → a.defers = [] → P a := by
  rintro ⟨⟨l⟩, d⟩ hs hd
  simp only at hd
  subst hd
  revert l
  show ∀ l : List Value, l.length = 108 → P ⟨⟨l⟩, []⟩
  refine openS (n := 107) (fun x0 => ?_)
  refine openS (n := 106) (fun x1 => ?_)
  refine openS (n := 105) (fun x2 => ?_)
  refine openS (n := 104) (fun x3 => ?_)
  refine openS (n := 103) (fun x4 => ?_)
  refine openS (n := 102) (fun x5 => ?_)
  refine openS (n := 101) (fun x6 => ?_)
  refine openS (n := 100) (fun x7 => ?_)
  refine openS (n := 99) (fun x8 => ?_)
  refine openS (n := 98) (fun x9 => ?_)
  refine openS (n := 97) (fun x10 => ?_)
  refine openS (n := 96) (fun x11 => ?_)
  refine openS (n := 95) (fun x12 => ?_)
  refine openS (n := 94) (fun x13 => ?_)
  refine openS (n := 93) (fun x14 => ?_)
  refine openS (n := 92) (fun x15 => ?_)
  refine openS (n := 91) (fun x16 => ?_)
  refine openS (n := 90) (fun x17 => ?_)
  refine openS (n := 89) (fun x18 => ?_)
  refine openS (n := 88) (fun x19 => ?_)
  refine openS (n := 87) (fun x20 => ?_)
  refine openS (n := 86) (fun x21 => ?_)
  refine openS (n := 85) (fun x22 => ?_)
  refine openS (n := 84) (fun x23 => ?_)
  refine openS (n := 83) (fun x24 => ?_)
  refine openS (n := 82) (fun x25 => ?_)
  refine openS (n := 81) (fun x26 => ?_)
  refine openS (n := 80) (fun x27 => ?_)
  refine openS (n := 79) (fun x28 => ?_)
  refine openS (n := 78) (fun x29 => ?_)
  refine openS (n := 77) (fun x30 => ?_)
  refine openS (n := 76) (fun x31 => ?_)
  refine openS (n := 75) (fun x32 => ?_)
  refine openS (n := 74) (fun x33 => ?_)
  refine openS (n := 73) (fun x34 => ?_)
  refine openS (n := 72) (fun x35 => ?_)
  refine openS (n := 71) (fun x36 => ?_)
  refine openS (n := 70) (fun x37 => ?_)
  refine openS (n := 69) (fun x38 => ?_)
  refine openS (n := 68) (fun x39 => ?_)
  refine openS (n := 67) (fun x40 => ?_)
  refine openS (n := 66) (fun x41 => ?_)
  refine openS (n := 65) (fun x42 => ?_)
  refine openS (n := 64) (fun x43 => ?_)
  refine openS (n := 63) (fun x44 => ?_)
  refine openS (n := 62) (fun x45 => ?_)
  refine openS (n := 61) (fun x46 => ?_)
  refine openS (n := 60) (fun x47 => ?_)
  refine openS (n := 59) (fun x48 => ?_)
  refine openS (n := 58) (fun x49 => ?_)
  refine openS (n := 57) (fun x50 => ?_)
  refine openS (n := 56) (fun x51 => ?_)
  refine openS (n := 55) (fun x52 => ?_)
  refine openS (n := 54) (fun x53 => ?_)
  refine openS (n := 53) (fun x54 => ?_)
  refine openS (n := 52) (fun x55 => ?_)
  refine openS (n := 51) (fun x56 => ?_)
  refine openS (n := 50) (fun x57 => ?_)
  refine openS (n := 49) (fun x58 => ?_)
  refine openS (n := 48) (fun x59 => ?_)
  refine openS (n := 47) (fun x60 => ?_)
  refine openS (n := 46) (fun x61 => ?_)
  refine openS (n := 45) (fun x62 => ?_)
  refine openS (n := 44) (fun x63 => ?_)
  refine openS (n := 43) (fun x64 => ?_)
  refine openS (n := 42) (fun x65 => ?_)
  refine openS (n := 41) (fun x66 => ?_)
  refine openS (n := 40) (fun x67 => ?_)
  refine openS (n := 39) (fun x68 => ?_)
  refine openS (n := 38) (fun x69 => ?_)
  refine openS (n := 37) (fun x70 => ?_)
  refine openS (n := 36) (fun x71 => ?_)
  refine openS (n := 35) (fun x72 => ?_)
  refine openS (n := 34) (fun x73 => ?_)
  refine openS (n := 33) (fun x74 => ?_)
  refine openS (n := 32) (fun x75 => ?_)
  refine openS (n := 31) (fun x76 => ?_)
  refine openS (n := 30) (fun x77 => ?_)
  refine openS (n := 29) (fun x78 => ?_)
  refine openS (n := 28) (fun x79 => ?_)
  refine openS (n := 27) (fun x80 => ?_)
  refine openS (n := 26) (fun x81 => ?_)
  refine openS (n := 25) (fun x82 => ?_)
  refine openS (n := 24) (fun x83 => ?_)
  refine openS (n := 23) (fun x84 => ?_)
  refine openS (n := 22) (fun x85 => ?_)
  refine openS (n := 21) (fun x86 => ?_)
  refine openS (n := 20) (fun x87 => ?_)
  refine openS (n := 19) (fun x88 => ?_)
  refine openS (n := 18) (fun x89 => ?_)
  refine openS (n := 17) (fun x90 => ?_)
  refine openS (n := 16) (fun x91 => ?_)
  refine openS (n := 15) (fun x92 => ?_)
  refine openS (n := 14) (fun x93 => ?_)
  refine openS (n := 13) (fun x94 => ?_)
  refine openS (n := 12) (fun x95 => ?_)
  refine openS (n := 11) (fun x96 => ?_)
  refine openS (n := 10) (fun x97 => ?_)
  refine openS (n := 9) (fun x98 => ?_)
  refine openS (n := 8) (fun x99 => ?_)
  refine openS (n := 7) (fun x100 => ?_)
  refine openS (n := 6) (fun x101 => ?_)
  refine openS (n := 5) (fun x102 => ?_)
  refine openS (n := 4) (fun x103 => ?_)
  refine openS (n := 3) (fun x104 => ?_)
  refine openS (n := 2) (fun x105 => ?_)
  refine openS (n := 1) (fun x106 => ?_)
  refine openS (n := 0) (fun x107 => ?_)
  refine open0 ?_
  exact h x0 x1 x2 x3 x4 x5 x6 x7 x8 x9 x10 x11 x12 x13 x14 x15 x16 x17 x18 x19 x20 x21 x22 x23 x24 x25 x26 x27 x28 x29 x30 x31 x32 x33 x34 x35 x36 x37 x38 x39 x40 x41 x42 x43 x44 x45 x46 x47 x48 x49 x50 x51 x52 x53 x54 x55 x56 x57 x58 x59 x60 x61 x62 x63 x64 x65 x66 x67 x68 x69 x70 x71 x72 x73 x74 x75 x76 x77 x78 x79 x80 x81 x82 x83 x84 x85 x86 x87 x88 x89 x90 x91 x92 x93 x94 x95 x96 x97 x98 x99 x100 x101 x102 x103 x104 x105 x106 x107
structure TX (wo w : World) (kd : Int) (nm : ByteArray) (A : Option Addr) (n1 c1 : Nat) (B : Option Addr) (n2 c2 : Nat) : Prop where
  a : w.heap[wo.heap.size]? = some (.cells #[.int .i64 kd, .string nm, .slice A n1 c1, .slice B n2 c2] 25 (0, 0))
  b : Below wo.heap.size wo w
theorem TX.below {wo w w' : World} {kd : Int} {nm : ByteArray} {A B : Option Addr} {n1 c1 n2 c2 : Nat} (h : TX wo w kd nm A n1 c1 B n2 c2) (hb : Below w.heap.size w w') : TX wo w' kd nm A n1 c1 B n2 c2 := ⟨(hb.block _ (lt_heap h.a)).trans h.a, h.b.trans (hb.mono h.b.size)⟩
noncomputable def c_ft_r0 : Code := sub [0] (Tryd.f16.body.getD .skip)
set_option maxRecDepth 1000000 in
set_option maxHeartbeats 16000000 in
theorem ft_r0_wp {Q : Exit → Act → World → Prop} {wo : World} {kd : Int} {nm : ByteArray} {A B : Option Addr} {n1 c1 n2 c2 : Nat} (hN : ∀ a', Frm 108 [(1, .pointer (some ⟨wo.heap.size, 0, none⟩))] a' → Q .normal a' (wo.alloc (.cells #[.int .i64 kd, .string nm, .slice A n1 c1, .slice B n2 c2] 25))) : ∀ ac, Frm 108 [(0, .agg #[.int .i64 kd, .string nm, .slice A n1 c1, .slice B n2 c2])] ac → Code.wp Tryd.prog c_ft_r0 Q ac wo := by
  refine frm_open ?_
  refine frame_ft ?_
  intros
  rename_i hq
  obtain ⟨-, -, e0q, -⟩ := hq
  have e0q := (Option.some.inj e0q).symm; subst e0q
  conv => arg 2; whnf
  have HN := Lib.hid hN
  clear hN
  go_wp2_with fail
  exact HN.out _ (id ⟨rfl, rfl, rfl, trivial⟩)
noncomputable def c_ft_r1 : Code := sub [1, 0, 0] (Tryd.f16.body.getD .skip)
set_option maxRecDepth 1000000 in
set_option maxHeartbeats 16000000 in
theorem ft_r1_wp {Q : Exit → Act → World → Prop} {wo w : World} {kd : Int} {nm : ByteArray} {A B : Option Addr} {n1 c1 n2 c2 : Nat} (hs : TX wo w kd nm A n1 c1 B n2 c2) (hN : ∀ a', Frm 108 [(1, .pointer (some ⟨wo.heap.size, 0, none⟩)), (8, .int .i64 kd)] a' → Q .normal a' w) : ∀ ac, Frm 108 [(1, .pointer (some ⟨wo.heap.size, 0, none⟩))] ac → Code.wp Tryd.prog c_ft_r1 Q ac w := by
  refine frm_open ?_
  refine frame_ft ?_
  intros
  rename_i hq
  obtain ⟨-, -, e0q, -⟩ := hq
  have e0q := (Option.some.inj e0q).symm; subst e0q
  conv => arg 2; whnf
  have a0 := cellv hs.a 0 rfl
  have a1 := cellv hs.a 1 rfl
  have a2 := cellv hs.a 2 rfl
  have a3 := cellv hs.a 3 rfl
  have al := lt_heap hs.a
  have HS := Lib.hid hs
  clear hs
  have HN := Lib.hid hN
  clear hN
  go_wp2_with fail
  exact HN.out _ (id ⟨rfl, rfl, rfl, rfl, trivial⟩)
noncomputable def c_ft_r2 : Code := sub [1, 0, 1, 0, 0] (Tryd.f16.body.getD .skip)
set_option maxRecDepth 1000000 in
set_option maxHeartbeats 16000000 in
theorem ft_r2_wp {Q : Exit → Act → World → Prop} {kd : Int} {wo w : World} (hN : ∀ a', Frm 108 [(1, .pointer (some ⟨wo.heap.size, 0, none⟩)), (8, .int .i64 kd), (9, .bool (decide (kd = 1)))] a' → Q .normal a' w) : ∀ ac, Frm 108 [(1, .pointer (some ⟨wo.heap.size, 0, none⟩)), (8, .int .i64 kd)] ac → Code.wp Tryd.prog c_ft_r2 Q ac w := by
  refine frm_open ?_
  refine frame_ft ?_
  intros
  rename_i hq
  obtain ⟨-, -, e0q, e1q, -⟩ := hq
  have e0q := (Option.some.inj e0q).symm; subst e0q
  have e1q := (Option.some.inj e1q).symm; subst e1q
  conv => arg 2; whnf
  by_cases h : kd = 1
  · subst h
    rw [show decide ((1 : Int) = 1) = true from rfl] at hN
    have HN := Lib.hid hN
    clear hN
    go_wp2_with fail
    exact HN.out _ (id ⟨rfl, rfl, rfl, rfl, rfl, trivial⟩)
  · have t1 : (kd == 1) = false := beq_eq_false_iff_ne.2 h
    rw [show decide (kd = 1) = false from decide_eq_false h] at hN
    clear h
    have HN := Lib.hid hN
    clear hN
    go_wp2_with fail
    exact HN.out _ (id ⟨rfl, rfl, rfl, rfl, rfl, trivial⟩)
noncomputable def c_ft_r4 : Code := sub [1, 0, 1, 0, 1, 1, 0, 0] (Tryd.f16.body.getD .skip)
set_option maxRecDepth 1000000 in
set_option maxHeartbeats 16000000 in
theorem ft_r4_wp {Q : Exit → Act → World → Prop} {kd : Int} {wo w : World} (hN : ∀ a', Frm 108 [(1, .pointer (some ⟨wo.heap.size, 0, none⟩)), (8, .int .i64 kd), (11, .bool (decide (kd = 2)))] a' → Q .normal a' w) : ∀ ac, Frm 108 [(1, .pointer (some ⟨wo.heap.size, 0, none⟩)), (8, .int .i64 kd)] ac → Code.wp Tryd.prog c_ft_r4 Q ac w := by
  refine frm_open ?_
  refine frame_ft ?_
  intros
  rename_i hq
  obtain ⟨-, -, e0q, e1q, -⟩ := hq
  have e0q := (Option.some.inj e0q).symm; subst e0q
  have e1q := (Option.some.inj e1q).symm; subst e1q
  conv => arg 2; whnf
  by_cases h : kd = 2
  · subst h
    rw [show decide ((2 : Int) = 2) = true from rfl] at hN
    have HN := Lib.hid hN
    clear hN
    go_wp2_with fail
    exact HN.out _ (id ⟨rfl, rfl, rfl, rfl, rfl, trivial⟩)
  · have t1 : (kd == 2) = false := beq_eq_false_iff_ne.2 h
    rw [show decide (kd = 2) = false from decide_eq_false h] at hN
    clear h
    have HN := Lib.hid hN
    clear hN
    go_wp2_with fail
    exact HN.out _ (id ⟨rfl, rfl, rfl, rfl, rfl, trivial⟩)
noncomputable def c_ft_r5 : Code := sub [1, 0, 1, 0, 1, 1, 0, 1, 1] (Tryd.f16.body.getD .skip)
set_option maxRecDepth 1000000 in
set_option maxHeartbeats 16000000 in
theorem ft_r5_wp {Q : Exit → Act → World → Prop} {kd : Int} {wo w : World} (hN : ∀ a', Frm 108 [(1, .pointer (some ⟨wo.heap.size, 0, none⟩)), (8, .int .i64 kd), (11, .bool (decide (kd = 3)))] a' → Q .normal a' w) : ∀ ac, Frm 108 [(1, .pointer (some ⟨wo.heap.size, 0, none⟩)), (8, .int .i64 kd)] ac → Code.wp Tryd.prog c_ft_r5 Q ac w := by
  refine frm_open ?_
  refine frame_ft ?_
  intros
  rename_i hq
  obtain ⟨-, -, e0q, e1q, -⟩ := hq
  have e0q := (Option.some.inj e0q).symm; subst e0q
  have e1q := (Option.some.inj e1q).symm; subst e1q
  conv => arg 2; whnf
  by_cases h : kd = 3
  · subst h
    rw [show decide ((3 : Int) = 3) = true from rfl] at hN
    have HN := Lib.hid hN
    clear hN
    go_wp2_with fail
    exact HN.out _ (id ⟨rfl, rfl, rfl, rfl, rfl, trivial⟩)
  · have t1 : (kd == 3) = false := beq_eq_false_iff_ne.2 h
    rw [show decide (kd = 3) = false from decide_eq_false h] at hN
    clear h
    have HN := Lib.hid hN
    clear hN
    go_wp2_with fail
    exact HN.out _ (id ⟨rfl, rfl, rfl, rfl, rfl, trivial⟩)
noncomputable def c_ft_r17 : Code := sub [1, 0, 1, 0, 1, 1, 1, 1, 0] (Tryd.f16.body.getD .skip)
set_option maxRecDepth 1000000 in
set_option maxHeartbeats 16000000 in
theorem ft_r17_wp {Q : Exit → Act → World → Prop} {kd : Int} {wo w : World} (hN : ∀ a', Frm 108 [(1, .pointer (some ⟨wo.heap.size, 0, none⟩)), (8, .int .i64 kd), (50, .bool (decide (kd = 4)))] a' → Q .normal a' w) : ∀ ac, Frm 108 [(1, .pointer (some ⟨wo.heap.size, 0, none⟩)), (8, .int .i64 kd)] ac → Code.wp Tryd.prog c_ft_r17 Q ac w := by
  refine frm_open ?_
  refine frame_ft ?_
  intros
  rename_i hq
  obtain ⟨-, -, e0q, e1q, -⟩ := hq
  have e0q := (Option.some.inj e0q).symm; subst e0q
  have e1q := (Option.some.inj e1q).symm; subst e1q
  conv => arg 2; whnf
  by_cases h : kd = 4
  · subst h
    rw [show decide ((4 : Int) = 4) = true from rfl] at hN
    have HN := Lib.hid hN
    clear hN
    go_wp2_with fail
    exact HN.out _ (id ⟨rfl, rfl, rfl, rfl, rfl, trivial⟩)
  · have t1 : (kd == 4) = false := beq_eq_false_iff_ne.2 h
    rw [show decide (kd = 4) = false from decide_eq_false h] at hN
    clear h
    have HN := Lib.hid hN
    clear hN
    go_wp2_with fail
    exact HN.out _ (id ⟨rfl, rfl, rfl, rfl, rfl, trivial⟩)
noncomputable def c_ft_r19 : Code := sub [1, 0, 1, 0, 1, 1, 1, 1, 1, 1, 0] (Tryd.f16.body.getD .skip)
set_option maxRecDepth 1000000 in
set_option maxHeartbeats 16000000 in
theorem ft_r19_wp {Q : Exit → Act → World → Prop} {kd : Int} {wo w : World} (hN : ∀ a', Frm 108 [(1, .pointer (some ⟨wo.heap.size, 0, none⟩)), (8, .int .i64 kd), (58, .bool (decide (kd = 8)))] a' → Q .normal a' w) : ∀ ac, Frm 108 [(1, .pointer (some ⟨wo.heap.size, 0, none⟩)), (8, .int .i64 kd)] ac → Code.wp Tryd.prog c_ft_r19 Q ac w := by
  refine frm_open ?_
  refine frame_ft ?_
  intros
  rename_i hq
  obtain ⟨-, -, e0q, e1q, -⟩ := hq
  have e0q := (Option.some.inj e0q).symm; subst e0q
  have e1q := (Option.some.inj e1q).symm; subst e1q
  conv => arg 2; whnf
  by_cases h : kd = 8
  · subst h
    rw [show decide ((8 : Int) = 8) = true from rfl] at hN
    have HN := Lib.hid hN
    clear hN
    go_wp2_with fail
    exact HN.out _ (id ⟨rfl, rfl, rfl, rfl, rfl, trivial⟩)
  · have t1 : (kd == 8) = false := beq_eq_false_iff_ne.2 h
    rw [show decide (kd = 8) = false from decide_eq_false h] at hN
    clear h
    have HN := Lib.hid hN
    clear hN
    go_wp2_with fail
    exact HN.out _ (id ⟨rfl, rfl, rfl, rfl, rfl, trivial⟩)
noncomputable def c_ft_r21 : Code := sub [1, 0, 1, 0, 1, 1, 1, 1, 1, 1, 1, 1, 0] (Tryd.f16.body.getD .skip)
set_option maxRecDepth 1000000 in
set_option maxHeartbeats 16000000 in
theorem ft_r21_wp {Q : Exit → Act → World → Prop} {kd : Int} {wo w : World} (hN : ∀ a', Frm 108 [(1, .pointer (some ⟨wo.heap.size, 0, none⟩)), (8, .int .i64 kd), (70, .bool (decide (kd = 9)))] a' → Q .normal a' w) : ∀ ac, Frm 108 [(1, .pointer (some ⟨wo.heap.size, 0, none⟩)), (8, .int .i64 kd)] ac → Code.wp Tryd.prog c_ft_r21 Q ac w := by
  refine frm_open ?_
  refine frame_ft ?_
  intros
  rename_i hq
  obtain ⟨-, -, e0q, e1q, -⟩ := hq
  have e0q := (Option.some.inj e0q).symm; subst e0q
  have e1q := (Option.some.inj e1q).symm; subst e1q
  conv => arg 2; whnf
  by_cases h : kd = 9
  · subst h
    rw [show decide ((9 : Int) = 9) = true from rfl] at hN
    have HN := Lib.hid hN
    clear hN
    go_wp2_with fail
    exact HN.out _ (id ⟨rfl, rfl, rfl, rfl, rfl, trivial⟩)
  · have t1 : (kd == 9) = false := beq_eq_false_iff_ne.2 h
    rw [show decide (kd = 9) = false from decide_eq_false h] at hN
    clear h
    have HN := Lib.hid hN
    clear hN
    go_wp2_with fail
    exact HN.out _ (id ⟨rfl, rfl, rfl, rfl, rfl, trivial⟩)
noncomputable def c_ft_r23 : Code := sub [1, 0, 1, 0, 1, 1, 1, 1, 1, 1, 1, 1, 1, 1, 0] (Tryd.f16.body.getD .skip)
set_option maxRecDepth 1000000 in
set_option maxHeartbeats 16000000 in
theorem ft_r23_wp {Q : Exit → Act → World → Prop} {kd : Int} {wo w : World} (hN : ∀ a', Frm 108 [(1, .pointer (some ⟨wo.heap.size, 0, none⟩)), (8, .int .i64 kd), (82, .bool (decide (kd = 10)))] a' → Q .normal a' w) : ∀ ac, Frm 108 [(1, .pointer (some ⟨wo.heap.size, 0, none⟩)), (8, .int .i64 kd)] ac → Code.wp Tryd.prog c_ft_r23 Q ac w := by
  refine frm_open ?_
  refine frame_ft ?_
  intros
  rename_i hq
  obtain ⟨-, -, e0q, e1q, -⟩ := hq
  have e0q := (Option.some.inj e0q).symm; subst e0q
  have e1q := (Option.some.inj e1q).symm; subst e1q
  conv => arg 2; whnf
  by_cases h : kd = 10
  · subst h
    rw [show decide ((10 : Int) = 10) = true from rfl] at hN
    have HN := Lib.hid hN
    clear hN
    go_wp2_with fail
    exact HN.out _ (id ⟨rfl, rfl, rfl, rfl, rfl, trivial⟩)
  · have t1 : (kd == 10) = false := beq_eq_false_iff_ne.2 h
    rw [show decide (kd = 10) = false from decide_eq_false h] at hN
    clear h
    have HN := Lib.hid hN
    clear hN
    go_wp2_with fail
    exact HN.out _ (id ⟨rfl, rfl, rfl, rfl, rfl, trivial⟩)
noncomputable def c_ft_r3 : Code := sub [1, 0, 1, 0, 1, 0, 0] (Tryd.f16.body.getD .skip)
set_option maxRecDepth 1000000 in
set_option maxHeartbeats 16000000 in
theorem ft_r3_wp {Q : Exit → Act → World → Prop} {kd : Int} {wo w : World} (hN : ∀ a', Frm 108 [(2, .string (⟨#[116, 114, 117, 101]⟩ : ByteArray))] a' → Q .normal a' w) : ∀ ac, Frm 108 [(1, .pointer (some ⟨wo.heap.size, 0, none⟩)), (8, .int .i64 kd)] ac → Code.wp Tryd.prog c_ft_r3 Q ac w := by
  refine frm_open ?_
  refine frame_ft ?_
  intros
  rename_i hq
  obtain ⟨-, -, e0q, e1q, -⟩ := hq
  have e0q := (Option.some.inj e0q).symm; subst e0q
  have e1q := (Option.some.inj e1q).symm; subst e1q
  conv => arg 2; whnf
  have HN := Lib.hid hN
  clear hN
  go_wp2_with fail
  exact HN.out _ (id ⟨rfl, rfl, rfl, trivial⟩)
noncomputable def c_ft_r6 : Code := sub [1, 0, 1, 0, 1, 1, 1, 0, 0] (Tryd.f16.body.getD .skip)
set_option maxRecDepth 1000000 in
set_option maxHeartbeats 16000000 in
theorem ft_r6_wp {Q : Exit → Act → World → Prop} {kd : Int} {wo w : World} (hN : ∀ a', Frm 108 [(1, .pointer (some ⟨wo.heap.size, 0, none⟩)), (8, .int .i64 kd), (3, .string (⟨#[]⟩ : ByteArray))] a' → Q .normal a' w) : ∀ ac, Frm 108 [(1, .pointer (some ⟨wo.heap.size, 0, none⟩)), (8, .int .i64 kd)] ac → Code.wp Tryd.prog c_ft_r6 Q ac w := by
  refine frm_open ?_
  refine frame_ft ?_
  intros
  rename_i hq
  obtain ⟨-, -, e0q, e1q, -⟩ := hq
  have e0q := (Option.some.inj e0q).symm; subst e0q
  have e1q := (Option.some.inj e1q).symm; subst e1q
  conv => arg 2; whnf
  have HN := Lib.hid hN
  clear hN
  go_wp2_with fail
  exact HN.out _ (id ⟨rfl, rfl, rfl, rfl, rfl, trivial⟩)
noncomputable def c_ft_r7 : Code := sub [1, 0, 1, 0, 1, 1, 1, 0, 1, 0, 0] (Tryd.f16.body.getD .skip)
set_option maxRecDepth 1000000 in
set_option maxHeartbeats 16000000 in
theorem ft_r7_wp {Q : Exit → Act → World → Prop} {s : ByteArray} {wo w : World} {kd : Int} {nm : ByteArray} {A B : Option Addr} {n1 c1 n2 c2 : Nat} (hs : TX wo w kd nm A n1 c1 B n2 c2) (hN : ∀ a', Frm 108 [(1, .pointer (some ⟨wo.heap.size, 0, none⟩)), (8, .int .i64 kd), (3, .string s), (15, .slice A n1 c1), (16, .int .i64 (n1 : Nat)), (17, .int .i64 (0 : Nat))] a' → Q .normal a' w) : ∀ ac, Frm 108 [(1, .pointer (some ⟨wo.heap.size, 0, none⟩)), (8, .int .i64 kd), (3, .string s)] ac → Code.wp Tryd.prog c_ft_r7 Q ac w := by
  refine frm_open ?_
  refine frame_ft ?_
  intros
  rename_i hq
  obtain ⟨-, -, e0q, e1q, e2q, -⟩ := hq
  have e0q := (Option.some.inj e0q).symm; subst e0q
  have e1q := (Option.some.inj e1q).symm; subst e1q
  have e2q := (Option.some.inj e2q).symm; subst e2q
  conv => arg 2; whnf
  have a0 := cellv hs.a 0 rfl
  have a1 := cellv hs.a 1 rfl
  have a2 := cellv hs.a 2 rfl
  have a3 := cellv hs.a 3 rfl
  have al := lt_heap hs.a
  have HS := Lib.hid hs
  clear hs
  have HN := Lib.hid hN
  clear hN
  go_wp2_with fail
  exact HN.out _ (id ⟨rfl, rfl, rfl, rfl, rfl, rfl, rfl, rfl, trivial⟩)
noncomputable def c_ft_r8 : Code := sub [1, 0, 1, 0, 1, 1, 1, 0, 1, 0, 1, 0, 0, 0] (Tryd.f16.body.getD .skip)
set_option maxRecDepth 1000000 in
set_option maxHeartbeats 16000000 in
theorem ft_r8_wp {Q : Exit → Act → World → Prop} {kd : Int} {s : ByteArray} {A : Option Addr} {n1 c1 i : Nat} {wo w : World} (hN : ∀ a', Frm 108 [(1, .pointer (some ⟨wo.heap.size, 0, none⟩)), (8, .int .i64 kd), (3, .string s), (15, .slice A n1 c1), (16, .int .i64 (n1 : Nat)), (17, .int .i64 (i : Nat)), (18, .bool (decide (i < n1)))] a' → Q .normal a' w) : ∀ ac, Frm 108 [(1, .pointer (some ⟨wo.heap.size, 0, none⟩)), (8, .int .i64 kd), (3, .string s), (15, .slice A n1 c1), (16, .int .i64 (n1 : Nat)), (17, .int .i64 (i : Nat))] ac → Code.wp Tryd.prog c_ft_r8 Q ac w := by
  refine frm_open ?_
  refine frame_ft ?_
  intros
  rename_i hq
  obtain ⟨-, -, e0q, e1q, e2q, e3q, e4q, e5q, -⟩ := hq
  have e0q := (Option.some.inj e0q).symm; subst e0q
  have e1q := (Option.some.inj e1q).symm; subst e1q
  have e2q := (Option.some.inj e2q).symm; subst e2q
  have e3q := (Option.some.inj e3q).symm; subst e3q
  have e4q := (Option.some.inj e4q).symm; subst e4q
  have e5q := (Option.some.inj e5q).symm; subst e5q
  conv => arg 2; whnf
  by_cases h : i < n1
  · have t1 : decide ((i : Int) < (n1 : Int)) = true := by first | exact decide_eq_true (by omega) | exact beq_iff_eq.2 (by omega) | exact bne_iff_ne.2 (by omega)
    have t2 : (decide (i < n1)) = true := decide_eq_true h
    rw [t2] at hN
    clear h
    have HN := Lib.hid hN
    clear hN
    go_wp2_with fail
    exact HN.out _ (id ⟨rfl, rfl, rfl, rfl, rfl, rfl, rfl, rfl, rfl, trivial⟩)
  · have t1 : decide ((i : Int) < (n1 : Int)) = false := by first | exact decide_eq_false (by omega) | exact beq_eq_false_iff_ne.2 (by omega) | exact bne_eq_false_iff_eq.2 (by omega)
    have t2 : (decide (i < n1)) = false := decide_eq_false h
    rw [t2] at hN
    clear h
    have HN := Lib.hid hN
    clear hN
    go_wp2_with fail
    exact HN.out _ (id ⟨rfl, rfl, rfl, rfl, rfl, rfl, rfl, rfl, rfl, trivial⟩)
noncomputable def c_ft_r9 : Code := sub [1, 0, 1, 0, 1, 1, 1, 0, 1, 0, 1, 0, 0, 1, 1, 0, 0, 0] (Tryd.f16.body.getD .skip)
set_option maxRecDepth 1000000 in
set_option maxHeartbeats 16000000 in
theorem ft_r9_wp {Q : Exit → Act → World → Prop} {x : ByteArray} {b o : Nat} {kd : Int} {s : ByteArray} {n1 c1 i : Nat} {wo w : World} (hi : i < n1) (hc : w.cell? ⟨b, o + i, none⟩ = some (.string x)) (hbl : b < w.heap.size) (hN : ∀ a', Frm 108 [(1, .pointer (some ⟨wo.heap.size, 0, none⟩)), (8, .int .i64 kd), (3, .string s), (15, .slice (some ⟨b, o, none⟩) n1 c1), (16, .int .i64 (n1 : Nat)), (17, .int .i64 (i : Nat)), (4, .int .i64 (i : Nat)), (5, .string x)] a' → Q .normal a' w) : ∀ ac, Frm 108 [(1, .pointer (some ⟨wo.heap.size, 0, none⟩)), (8, .int .i64 kd), (3, .string s), (15, .slice (some ⟨b, o, none⟩) n1 c1), (16, .int .i64 (n1 : Nat)), (17, .int .i64 (i : Nat))] ac → Code.wp Tryd.prog c_ft_r9 Q ac w := by
  refine frm_open ?_
  refine frame_ft ?_
  intros
  rename_i hq
  obtain ⟨-, -, e0q, e1q, e2q, e3q, e4q, e5q, -⟩ := hq
  have e0q := (Option.some.inj e0q).symm; subst e0q
  have e1q := (Option.some.inj e1q).symm; subst e1q
  have e2q := (Option.some.inj e2q).symm; subst e2q
  have e3q := (Option.some.inj e3q).symm; subst e3q
  have e4q := (Option.some.inj e4q).symm; subst e4q
  have e5q := (Option.some.inj e5q).symm; subst e5q
  conv => arg 2; whnf
  have q0 : (0 : Int) ≤ (i : Int) := by omega
  have q1 : (i : Int) < (n1 : Int) := by omega
  have HN := Lib.hid hN
  clear hN
  go_wp2_with fail
  exact HN.out _ (id ⟨rfl, rfl, rfl, rfl, rfl, rfl, rfl, rfl, rfl, rfl, trivial⟩)
noncomputable def c_ft_r10 : Code := sub [1, 0, 1, 0, 1, 1, 1, 0, 1, 0, 1, 0, 0, 1, 1, 0, 0, 1, 0, 0] (Tryd.f16.body.getD .skip)
set_option maxRecDepth 1000000 in
set_option maxHeartbeats 16000000 in
theorem ft_r10_wp {Q : Exit → Act → World → Prop} {x s : ByteArray} {i : Nat} {wo w : World} {kd : Int} {nm : ByteArray} {A B : Option Addr} {n1 c1 n2 c2 : Nat} (hs : TX wo w kd nm A n1 c1 B n2 c2) (hN : ∀ a', Frm 108 [(1, .pointer (some ⟨wo.heap.size, 0, none⟩)), (8, .int .i64 kd), (3, .string s), (15, .slice A n1 c1), (16, .int .i64 (n1 : Nat)), (17, .int .i64 (i : Nat)), (4, .int .i64 (i : Nat)), (5, .string x), (28, .bool (decide (0 < i) && decide (kd = 2)))] a' → Q .normal a' w) : ∀ ac, Frm 108 [(1, .pointer (some ⟨wo.heap.size, 0, none⟩)), (8, .int .i64 kd), (3, .string s), (15, .slice A n1 c1), (16, .int .i64 (n1 : Nat)), (17, .int .i64 (i : Nat)), (4, .int .i64 (i : Nat)), (5, .string x)] ac → Code.wp Tryd.prog c_ft_r10 Q ac w := by
  refine frm_open ?_
  refine frame_ft ?_
  intros
  rename_i hq
  obtain ⟨-, -, e0q, e1q, e2q, e3q, e4q, e5q, e6q, e7q, -⟩ := hq
  have e0q := (Option.some.inj e0q).symm; subst e0q
  have e1q := (Option.some.inj e1q).symm; subst e1q
  have e2q := (Option.some.inj e2q).symm; subst e2q
  have e3q := (Option.some.inj e3q).symm; subst e3q
  have e4q := (Option.some.inj e4q).symm; subst e4q
  have e5q := (Option.some.inj e5q).symm; subst e5q
  have e6q := (Option.some.inj e6q).symm; subst e6q
  have e7q := (Option.some.inj e7q).symm; subst e7q
  conv => arg 2; whnf
  have a0 := cellv hs.a 0 rfl
  have a1 := cellv hs.a 1 rfl
  have a2 := cellv hs.a 2 rfl
  have a3 := cellv hs.a 3 rfl
  have al := lt_heap hs.a
  have HS := Lib.hid hs
  clear hs
  by_cases h0 : 0 < i
  case neg =>
    have t0 : decide ((0 : Int) < (i : Int)) = false := decide_eq_false (by omega)
    have t1 : decide (0 < i) = false := decide_eq_false h0
    rw [t1, Bool.false_and] at hN
    clear h0
    have HN := Lib.hid hN
    clear hN
    go_wp2_with fail
    exact HN.out _ (id ⟨rfl, rfl, rfl, rfl, rfl, rfl, rfl, rfl, rfl, rfl, rfl, trivial⟩)
  have t0 : decide ((0 : Int) < (i : Int)) = true := decide_eq_true (by omega)
  have t1 : decide (0 < i) = true := decide_eq_true h0
  rw [t1, Bool.true_and] at hN
  clear h0
  by_cases h : kd = 2
  · subst h
    rw [show decide ((2 : Int) = 2) = true from rfl] at hN
    have HN := Lib.hid hN
    clear hN
    go_wp2_with fail
    exact HN.out _ (id ⟨rfl, rfl, rfl, rfl, rfl, rfl, rfl, rfl, rfl, rfl, rfl, trivial⟩)
  · have t2 : (kd == 2) = false := beq_eq_false_iff_ne.2 h
    rw [show decide (kd = 2) = false from decide_eq_false h] at hN
    clear h
    have HN := Lib.hid hN
    clear hN
    go_wp2_with fail
    exact HN.out _ (id ⟨rfl, rfl, rfl, rfl, rfl, rfl, rfl, rfl, rfl, rfl, rfl, trivial⟩)
noncomputable def c_ft_r12 : Code := sub [1, 0, 1, 0, 1, 1, 1, 0, 1, 0, 1, 0, 0, 1, 1, 0, 0, 1, 1, 0, 0] (Tryd.f16.body.getD .skip)
set_option maxRecDepth 1000000 in
set_option maxHeartbeats 16000000 in
theorem ft_r12_wp {Q : Exit → Act → World → Prop} {x s : ByteArray} {i : Nat} {wo w : World} {kd : Int} {nm : ByteArray} {A B : Option Addr} {n1 c1 n2 c2 : Nat} (hs : TX wo w kd nm A n1 c1 B n2 c2) (hN : ∀ a', Frm 108 [(1, .pointer (some ⟨wo.heap.size, 0, none⟩)), (8, .int .i64 kd), (3, .string s), (15, .slice A n1 c1), (16, .int .i64 (n1 : Nat)), (17, .int .i64 (i : Nat)), (4, .int .i64 (i : Nat)), (5, .string x), (37, .bool (decide (0 < i) && decide (kd = 3)))] a' → Q .normal a' w) : ∀ ac, Frm 108 [(1, .pointer (some ⟨wo.heap.size, 0, none⟩)), (8, .int .i64 kd), (3, .string s), (15, .slice A n1 c1), (16, .int .i64 (n1 : Nat)), (17, .int .i64 (i : Nat)), (4, .int .i64 (i : Nat)), (5, .string x)] ac → Code.wp Tryd.prog c_ft_r12 Q ac w := by
  refine frm_open ?_
  refine frame_ft ?_
  intros
  rename_i hq
  obtain ⟨-, -, e0q, e1q, e2q, e3q, e4q, e5q, e6q, e7q, -⟩ := hq
  have e0q := (Option.some.inj e0q).symm; subst e0q
  have e1q := (Option.some.inj e1q).symm; subst e1q
  have e2q := (Option.some.inj e2q).symm; subst e2q
  have e3q := (Option.some.inj e3q).symm; subst e3q
  have e4q := (Option.some.inj e4q).symm; subst e4q
  have e5q := (Option.some.inj e5q).symm; subst e5q
  have e6q := (Option.some.inj e6q).symm; subst e6q
  have e7q := (Option.some.inj e7q).symm; subst e7q
  conv => arg 2; whnf
  have a0 := cellv hs.a 0 rfl
  have a1 := cellv hs.a 1 rfl
  have a2 := cellv hs.a 2 rfl
  have a3 := cellv hs.a 3 rfl
  have al := lt_heap hs.a
  have HS := Lib.hid hs
  clear hs
  by_cases h0 : 0 < i
  case neg =>
    have t0 : decide ((0 : Int) < (i : Int)) = false := decide_eq_false (by omega)
    have t1 : decide (0 < i) = false := decide_eq_false h0
    rw [t1, Bool.false_and] at hN
    clear h0
    have HN := Lib.hid hN
    clear hN
    go_wp2_with fail
    exact HN.out _ (id ⟨rfl, rfl, rfl, rfl, rfl, rfl, rfl, rfl, rfl, rfl, rfl, trivial⟩)
  have t0 : decide ((0 : Int) < (i : Int)) = true := decide_eq_true (by omega)
  have t1 : decide (0 < i) = true := decide_eq_true h0
  rw [t1, Bool.true_and] at hN
  clear h0
  by_cases h : kd = 3
  · subst h
    rw [show decide ((3 : Int) = 3) = true from rfl] at hN
    have HN := Lib.hid hN
    clear hN
    go_wp2_with fail
    exact HN.out _ (id ⟨rfl, rfl, rfl, rfl, rfl, rfl, rfl, rfl, rfl, rfl, rfl, trivial⟩)
  · have t2 : (kd == 3) = false := beq_eq_false_iff_ne.2 h
    rw [show decide (kd = 3) = false from decide_eq_false h] at hN
    clear h
    have HN := Lib.hid hN
    clear hN
    go_wp2_with fail
    exact HN.out _ (id ⟨rfl, rfl, rfl, rfl, rfl, rfl, rfl, rfl, rfl, rfl, rfl, trivial⟩)
noncomputable def c_ft_r11 : Code := sub [1, 0, 1, 0, 1, 1, 1, 0, 1, 0, 1, 0, 0, 1, 1, 0, 0, 1, 0, 1, 0] (Tryd.f16.body.getD .skip)
set_option maxRecDepth 1000000 in
set_option maxHeartbeats 16000000 in
theorem ft_r11_wp {Q : Exit → Act → World → Prop} {kd : Int} {x s : ByteArray} {A : Option Addr} {n1 c1 i : Nat} {wo w : World} (hz : s.size ≤ 100000) (hx : x.size ≤ 100000) (hN : ∀ a', Frm 108 [(1, .pointer (some ⟨wo.heap.size, 0, none⟩)), (8, .int .i64 kd), (3, .string (s ++ (⟨#[44]⟩ : ByteArray))), (15, .slice A n1 c1), (16, .int .i64 (n1 : Nat)), (17, .int .i64 (i : Nat)), (4, .int .i64 (i : Nat)), (5, .string x)] a' → Q .normal a' w) : ∀ ac, Frm 108 [(1, .pointer (some ⟨wo.heap.size, 0, none⟩)), (8, .int .i64 kd), (3, .string s), (15, .slice A n1 c1), (16, .int .i64 (n1 : Nat)), (17, .int .i64 (i : Nat)), (4, .int .i64 (i : Nat)), (5, .string x)] ac → Code.wp Tryd.prog c_ft_r11 Q ac w := by
  refine frm_open ?_
  refine frame_ft ?_
  intros
  rename_i hq
  obtain ⟨-, -, e0q, e1q, e2q, e3q, e4q, e5q, e6q, e7q, -⟩ := hq
  have e0q := (Option.some.inj e0q).symm; subst e0q
  have e1q := (Option.some.inj e1q).symm; subst e1q
  have e2q := (Option.some.inj e2q).symm; subst e2q
  have e3q := (Option.some.inj e3q).symm; subst e3q
  have e4q := (Option.some.inj e4q).symm; subst e4q
  have e5q := (Option.some.inj e5q).symm; subst e5q
  have e6q := (Option.some.inj e6q).symm; subst e6q
  have e7q := (Option.some.inj e7q).symm; subst e7q
  conv => arg 2; whnf
  have tl1 : ¬ 9223372036854775807 < s.size + 1 := by omega
  have tm1 : ¬ 9223372036854775806 < s.size := by omega
  have HN := Lib.hid hN
  clear hN
  go_wp2_with fail
  exact HN.out _ (id ⟨rfl, rfl, rfl, rfl, rfl, rfl, rfl, rfl, rfl, rfl, trivial⟩)
noncomputable def c_ft_r13 : Code := sub [1, 0, 1, 0, 1, 1, 1, 0, 1, 0, 1, 0, 0, 1, 1, 0, 0, 1, 1, 0, 1, 0] (Tryd.f16.body.getD .skip)
set_option maxRecDepth 1000000 in
set_option maxHeartbeats 16000000 in
theorem ft_r13_wp {Q : Exit → Act → World → Prop} {kd : Int} {x s : ByteArray} {A : Option Addr} {n1 c1 i : Nat} {wo w : World} (hz : s.size ≤ 100000) (hx : x.size ≤ 100000) (hN : ∀ a', Frm 108 [(1, .pointer (some ⟨wo.heap.size, 0, none⟩)), (8, .int .i64 kd), (3, .string (s ++ (⟨#[32, 61, 32]⟩ : ByteArray))), (15, .slice A n1 c1), (16, .int .i64 (n1 : Nat)), (17, .int .i64 (i : Nat)), (4, .int .i64 (i : Nat)), (5, .string x)] a' → Q .normal a' w) : ∀ ac, Frm 108 [(1, .pointer (some ⟨wo.heap.size, 0, none⟩)), (8, .int .i64 kd), (3, .string s), (15, .slice A n1 c1), (16, .int .i64 (n1 : Nat)), (17, .int .i64 (i : Nat)), (4, .int .i64 (i : Nat)), (5, .string x)] ac → Code.wp Tryd.prog c_ft_r13 Q ac w := by
  refine frm_open ?_
  refine frame_ft ?_
  intros
  rename_i hq
  obtain ⟨-, -, e0q, e1q, e2q, e3q, e4q, e5q, e6q, e7q, -⟩ := hq
  have e0q := (Option.some.inj e0q).symm; subst e0q
  have e1q := (Option.some.inj e1q).symm; subst e1q
  have e2q := (Option.some.inj e2q).symm; subst e2q
  have e3q := (Option.some.inj e3q).symm; subst e3q
  have e4q := (Option.some.inj e4q).symm; subst e4q
  have e5q := (Option.some.inj e5q).symm; subst e5q
  have e6q := (Option.some.inj e6q).symm; subst e6q
  have e7q := (Option.some.inj e7q).symm; subst e7q
  conv => arg 2; whnf
  have tl1 : ¬ 9223372036854775807 < s.size + 3 := by omega
  have tm1 : ¬ 9223372036854775804 < s.size := by omega
  have HN := Lib.hid hN
  clear hN
  go_wp2_with fail
  exact HN.out _ (id ⟨rfl, rfl, rfl, rfl, rfl, rfl, rfl, rfl, rfl, rfl, trivial⟩)
noncomputable def c_ft_r14 : Code := sub [1, 0, 1, 0, 1, 1, 1, 0, 1, 0, 1, 0, 0, 1, 1, 0, 0, 1, 1, 1] (Tryd.f16.body.getD .skip)
set_option maxRecDepth 1000000 in
set_option maxHeartbeats 16000000 in
theorem ft_r14_wp {Q : Exit → Act → World → Prop} {kd : Int} {x s : ByteArray} {A : Option Addr} {n1 c1 i : Nat} {wo w : World} (hz : s.size ≤ 100000) (hx : x.size ≤ 100000) (hN : ∀ a', Frm 108 [(1, .pointer (some ⟨wo.heap.size, 0, none⟩)), (8, .int .i64 kd), (3, .string (s ++ x)), (15, .slice A n1 c1), (16, .int .i64 (n1 : Nat)), (17, .int .i64 (i : Nat))] a' → Q .normal a' w) : ∀ ac, Frm 108 [(1, .pointer (some ⟨wo.heap.size, 0, none⟩)), (8, .int .i64 kd), (3, .string s), (15, .slice A n1 c1), (16, .int .i64 (n1 : Nat)), (17, .int .i64 (i : Nat)), (4, .int .i64 (i : Nat)), (5, .string x)] ac → Code.wp Tryd.prog c_ft_r14 Q ac w := by
  refine frm_open ?_
  refine frame_ft ?_
  intros
  rename_i hq
  obtain ⟨-, -, e0q, e1q, e2q, e3q, e4q, e5q, e6q, e7q, -⟩ := hq
  have e0q := (Option.some.inj e0q).symm; subst e0q
  have e1q := (Option.some.inj e1q).symm; subst e1q
  have e2q := (Option.some.inj e2q).symm; subst e2q
  have e3q := (Option.some.inj e3q).symm; subst e3q
  have e4q := (Option.some.inj e4q).symm; subst e4q
  have e5q := (Option.some.inj e5q).symm; subst e5q
  have e6q := (Option.some.inj e6q).symm; subst e6q
  have e7q := (Option.some.inj e7q).symm; subst e7q
  conv => arg 2; whnf
  have tl1 : ¬ 9223372036854775807 < s.size + x.size := by omega
  have HN := Lib.hid hN
  clear hN
  go_wp2_with fail
  exact HN.out _ (id ⟨rfl, rfl, rfl, rfl, rfl, rfl, rfl, rfl, trivial⟩)
noncomputable def c_ft_r15 : Code := sub [1, 0, 1, 0, 1, 1, 1, 0, 1, 0, 1, 0, 0, 1, 1, 1] (Tryd.f16.body.getD .skip)
set_option maxRecDepth 1000000 in
set_option maxHeartbeats 16000000 in
theorem ft_r15_wp {Q : Exit → Act → World → Prop} {kd : Int} {s : ByteArray} {A : Option Addr} {n1 c1 i : Nat} {wo w : World} (hi : i < n1) (hlim : n1 ≤ maxLen) (hN : ∀ a', Frm 108 [(1, .pointer (some ⟨wo.heap.size, 0, none⟩)), (8, .int .i64 kd), (3, .string s), (15, .slice A n1 c1), (16, .int .i64 (n1 : Nat)), (17, .int .i64 (i + 1 : Nat))] a' → Q .normal a' w) : ∀ ac, Frm 108 [(1, .pointer (some ⟨wo.heap.size, 0, none⟩)), (8, .int .i64 kd), (3, .string s), (15, .slice A n1 c1), (16, .int .i64 (n1 : Nat)), (17, .int .i64 (i : Nat))] ac → Code.wp Tryd.prog c_ft_r15 Q ac w := by
  refine frm_open ?_
  refine frame_ft ?_
  intros
  rename_i hq
  obtain ⟨-, -, e0q, e1q, e2q, e3q, e4q, e5q, -⟩ := hq
  have e0q := (Option.some.inj e0q).symm; subst e0q
  have e1q := (Option.some.inj e1q).symm; subst e1q
  have e2q := (Option.some.inj e2q).symm; subst e2q
  have e3q := (Option.some.inj e3q).symm; subst e3q
  have e4q := (Option.some.inj e4q).symm; subst e4q
  have e5q := (Option.some.inj e5q).symm; subst e5q
  conv => arg 2; whnf
  have hi4 : (i : Int) ≤ 9223372036854775806 := by unfold maxLen at hlim; omega
  have HN := Lib.hid hN
  clear hN
  go_wp2_with fail
  exact HN.out _ (id ⟨rfl, rfl, rfl, rfl, rfl, rfl, rfl, rfl, trivial⟩)
noncomputable def c_ft_r16 : Code := sub [1, 0, 1, 0, 1, 1, 1, 0, 1, 1, 0] (Tryd.f16.body.getD .skip)
set_option maxRecDepth 1000000 in
set_option maxHeartbeats 16000000 in
theorem ft_r16_wp {Q : Exit → Act → World → Prop} {s : ByteArray} {wo w : World} {kd : Int} {nm : ByteArray} {A B : Option Addr} {n1 c1 n2 c2 : Nat} (hz : s.size ≤ 100000) (hx : nm.size ≤ 100000) (hs : TX wo w kd nm A n1 c1 B n2 c2) (hN : ∀ a', Frm 108 [(2, .string (nm ++ (⟨#[40]⟩ : ByteArray) ++ s ++ (⟨#[41]⟩ : ByteArray)))] a' → Q .normal a' w) : ∀ ac, Frm 108 [(1, .pointer (some ⟨wo.heap.size, 0, none⟩)), (8, .int .i64 kd), (3, .string s)] ac → Code.wp Tryd.prog c_ft_r16 Q ac w := by
  refine frm_open ?_
  refine frame_ft ?_
  intros
  rename_i hq
  obtain ⟨-, -, e0q, e1q, e2q, -⟩ := hq
  have e0q := (Option.some.inj e0q).symm; subst e0q
  have e1q := (Option.some.inj e1q).symm; subst e1q
  have e2q := (Option.some.inj e2q).symm; subst e2q
  conv => arg 2; whnf
  have tl1 : ¬ 9223372036854775807 < nm.size + 1 := by omega
  have tm1 : ¬ 9223372036854775806 < nm.size := by omega
  have tl2 : ¬ 9223372036854775807 < nm.size + 1 + s.size := by omega
  have tl3 : ¬ 9223372036854775807 < nm.size + 1 + s.size + 1 := by omega
  have tm3 : ¬ 9223372036854775806 < nm.size + 1 + s.size := by omega
  have a0 := cellv hs.a 0 rfl
  have a1 := cellv hs.a 1 rfl
  have a2 := cellv hs.a 2 rfl
  have a3 := cellv hs.a 3 rfl
  have al := lt_heap hs.a
  have HS := Lib.hid hs
  clear hs
  have HN := Lib.hid hN
  clear hN
  go_wp2_with fail
  exact HN.out _ (id ⟨rfl, rfl, rfl, trivial⟩)
noncomputable def c_ft_r18 : Code := sub [1, 0, 1, 0, 1, 1, 1, 1, 1, 0, 0] (Tryd.f16.body.getD .skip)
set_option maxRecDepth 1000000 in
set_option maxHeartbeats 16000000 in
theorem ft_r18_wp {Q : Exit → Act → World → Prop} {y : ByteArray} {b o : Nat} {wo w : World} {kd : Int} {nm : ByteArray} {A : Option Addr} {n1 c1 n2 c2 : Nat} {ke : Int} {ne : ByteArray} {Ae Be : Option Addr} {n3 c3 n4 c4 : Nat} (hy : y.size ≤ 100000) (hn2 : 0 < n2) (e0 : w.cell? ⟨b, o, none⟩ = some (.int .i64 ke)) (e1 : w.cell? ⟨b, o + 1, none⟩ = some (.string ne)) (e2 : w.cell? ⟨b, o + 2, none⟩ = some (.slice Ae n3 c3)) (e3 : w.cell? ⟨b, o + 3, none⟩ = some (.slice Be n4 c4)) (hbl : b < w.heap.size) (hc1 : ∀ W : World, Below w.heap.size w W → Calls Tryd.prog 16 #[.agg #[.int .i64 ke, .string ne, .slice Ae n3 c3, .slice Be n4 c4]] W fun e w' => e = .returned (.string y) ∧ Below w.heap.size w w') (hs : TX wo w kd nm A n1 c1 (some ⟨b, o, none⟩) n2 c2) (hN : ∀ a' w', Frm 108 [(2, .string ((⟨#[45]⟩ : ByteArray) ++ y))] a' → Below w.heap.size w w' → Q .normal a' w') : ∀ ac, Frm 108 [(1, .pointer (some ⟨wo.heap.size, 0, none⟩)), (8, .int .i64 kd)] ac → Code.wp Tryd.prog c_ft_r18 Q ac w := by
  refine frm_open ?_
  refine frame_ft ?_
  intros
  rename_i hq
  obtain ⟨-, -, e0q, e1q, -⟩ := hq
  have e0q := (Option.some.inj e0q).symm; subst e0q
  have e1q := (Option.some.inj e1q).symm; subst e1q
  conv => arg 2; whnf
  have a0 := cellv hs.a 0 rfl
  have a1 := cellv hs.a 1 rfl
  have a2 := cellv hs.a 2 rfl
  have a3 := cellv hs.a 3 rfl
  have al := lt_heap hs.a
  have HS := Lib.hid hs
  clear hs
  have tl1 : ¬ 9223372036854775807 < 1 + y.size := by omega
  have q1 : (0 : Int) < (n2 : Int) := by omega
  have hcw := hc1 w (Below.refl _ _)
  have HN := Lib.hid hN
  have HCW := Lib.hid hcw
  clear hN hcw
  clear hc1
  go_wp2_with fail
  (with_reducible refine HCW.out.mono ?_)
  rintro e w1 ⟨rfl, hp⟩
  have HP := Lib.hid hp
  clear hp
  go_wp2_with fail
  exact HN.out _ _ (id ⟨rfl, rfl, rfl, trivial⟩) HP.out
noncomputable def c_ft_r20 : Code := sub [1, 0, 1, 0, 1, 1, 1, 1, 1, 1, 1, 0, 0] (Tryd.f16.body.getD .skip)
set_option maxRecDepth 1000000 in
set_option maxHeartbeats 16000000 in
theorem ft_r20_wp {K : Act → World → Prop} {y : ByteArray} {b o : Nat} {wo w : World} {kd : Int} {nm : ByteArray} {A : Option Addr} {n1 c1 n2 c2 : Nat} {ke : Int} {ne : ByteArray} {Ae Be : Option Addr} {n3 c3 n4 c4 : Nat} (hx : nm.size ≤ 100000) (hy : y.size ≤ 100000) (hn2 : 0 < n2) (e0 : w.cell? ⟨b, o, none⟩ = some (.int .i64 ke)) (e1 : w.cell? ⟨b, o + 1, none⟩ = some (.string ne)) (e2 : w.cell? ⟨b, o + 2, none⟩ = some (.slice Ae n3 c3)) (e3 : w.cell? ⟨b, o + 3, none⟩ = some (.slice Be n4 c4)) (hbl : b < w.heap.size) (hc1 : ∀ W : World, Below w.heap.size w W → Calls Tryd.prog 16 #[.agg #[.int .i64 ke, .string ne, .slice Ae n3 c3, .slice Be n4 c4]] W fun e w' => e = .returned (.string y) ∧ Below w.heap.size w w') (hs : TX wo w kd nm A n1 c1 (some ⟨b, o, none⟩) n2 c2) (hN : ∀ a' w', Frm 108 [(2, .string ((⟨#[97, 108, 108, 32]⟩ : ByteArray) ++ nm ++ (⟨#[32]⟩ : ByteArray) ++ y))] a' → Below w.heap.size w w' → K a' w') : ∀ ac, Frm 108 [(1, .pointer (some ⟨wo.heap.size, 0, none⟩)), (8, .int .i64 kd)] ac → Code.wp Tryd.prog c_ft_r20 (Exit.then K (fun _ _ _ => False)) ac w := by
  refine frm_open ?_
  refine frame_ft ?_
  intros
  rename_i hq
  obtain ⟨-, -, e0q, e1q, -⟩ := hq
  have e0q := (Option.some.inj e0q).symm; subst e0q
  have e1q := (Option.some.inj e1q).symm; subst e1q
  conv => arg 2; whnf
  have a0 := cellv hs.a 0 rfl
  have a1 := cellv hs.a 1 rfl
  have a2 := cellv hs.a 2 rfl
  have a3 := cellv hs.a 3 rfl
  have al := lt_heap hs.a
  have tl1 : ¬ 9223372036854775807 < 4 + nm.size := by omega
  have tl2 : ¬ 9223372036854775807 < 4 + nm.size + 1 := by omega
  have tm2 : ¬ 9223372036854775806 < 4 + nm.size := by omega
  have tl3 : ¬ 9223372036854775807 < 4 + nm.size + 1 + y.size := by omega
  have q1 : (0 : Int) < (n2 : Int) := by omega
  have hwz := hs.b.size
  have HS := Lib.hid hs
  clear hs
  have HC1 := Lib.hid hc1
  clear hc1
  go_region_law (refine step_call (by rfl) 16 _ ?hargs (HC1.out _ ?hbel) ?_; (case hargs => (go_simp; done)); (case hbel => (go_grown)); rintro e w2 ⟨rfl, hbw2⟩; refine ⟨_, rfl, ?_⟩; have zw2 := hbw2.size; have b1 := (cell_keep (hbw2.block _ al) 1).trans a1; have HBw2 := Lib.hid hbw2; clear hbw2)
  all_goals go_wp2_with fail
  all_goals exact hN _ _ (id ⟨rfl, rfl, rfl, trivial⟩) (by first | exact HBw2.out | exact HBw2.out.trans (show Below w.heap.size w2 _ by go_grown))
noncomputable def c_ft_r22 : Code := sub [1, 0, 1, 0, 1, 1, 1, 1, 1, 1, 1, 1, 1, 0, 0] (Tryd.f16.body.getD .skip)
set_option maxRecDepth 1000000 in
set_option maxHeartbeats 16000000 in
theorem ft_r22_wp {K : Act → World → Prop} {y : ByteArray} {b o : Nat} {wo w : World} {kd : Int} {nm : ByteArray} {A : Option Addr} {n1 c1 n2 c2 : Nat} {ke : Int} {ne : ByteArray} {Ae Be : Option Addr} {n3 c3 n4 c4 : Nat} (hx : nm.size ≤ 100000) (hy : y.size ≤ 100000) (hn2 : 0 < n2) (e0 : w.cell? ⟨b, o, none⟩ = some (.int .i64 ke)) (e1 : w.cell? ⟨b, o + 1, none⟩ = some (.string ne)) (e2 : w.cell? ⟨b, o + 2, none⟩ = some (.slice Ae n3 c3)) (e3 : w.cell? ⟨b, o + 3, none⟩ = some (.slice Be n4 c4)) (hbl : b < w.heap.size) (hc1 : ∀ W : World, Below w.heap.size w W → Calls Tryd.prog 16 #[.agg #[.int .i64 ke, .string ne, .slice Ae n3 c3, .slice Be n4 c4]] W fun e w' => e = .returned (.string y) ∧ Below w.heap.size w w') (hs : TX wo w kd nm A n1 c1 (some ⟨b, o, none⟩) n2 c2) (hN : ∀ a' w', Frm 108 [(2, .string ((⟨#[115, 111, 109, 101, 32]⟩ : ByteArray) ++ nm ++ (⟨#[32]⟩ : ByteArray) ++ y))] a' → Below w.heap.size w w' → K a' w') : ∀ ac, Frm 108 [(1, .pointer (some ⟨wo.heap.size, 0, none⟩)), (8, .int .i64 kd)] ac → Code.wp Tryd.prog c_ft_r22 (Exit.then K (fun _ _ _ => False)) ac w := by
  refine frm_open ?_
  refine frame_ft ?_
  intros
  rename_i hq
  obtain ⟨-, -, e0q, e1q, -⟩ := hq
  have e0q := (Option.some.inj e0q).symm; subst e0q
  have e1q := (Option.some.inj e1q).symm; subst e1q
  conv => arg 2; whnf
  have a0 := cellv hs.a 0 rfl
  have a1 := cellv hs.a 1 rfl
  have a2 := cellv hs.a 2 rfl
  have a3 := cellv hs.a 3 rfl
  have al := lt_heap hs.a
  have tl1 : ¬ 9223372036854775807 < 5 + nm.size := by omega
  have tl2 : ¬ 9223372036854775807 < 5 + nm.size + 1 := by omega
  have tm2 : ¬ 9223372036854775806 < 5 + nm.size := by omega
  have tl3 : ¬ 9223372036854775807 < 5 + nm.size + 1 + y.size := by omega
  have q1 : (0 : Int) < (n2 : Int) := by omega
  have hwz := hs.b.size
  have HS := Lib.hid hs
  clear hs
  have HC1 := Lib.hid hc1
  clear hc1
  go_region_law (refine step_call (by rfl) 16 _ ?hargs (HC1.out _ ?hbel) ?_; (case hargs => (go_simp; done)); (case hbel => (go_grown)); rintro e w2 ⟨rfl, hbw2⟩; refine ⟨_, rfl, ?_⟩; have zw2 := hbw2.size; have b1 := (cell_keep (hbw2.block _ al) 1).trans a1; have HBw2 := Lib.hid hbw2; clear hbw2)
  all_goals go_wp2_with fail
  all_goals exact hN _ _ (id ⟨rfl, rfl, rfl, trivial⟩) (by first | exact HBw2.out | exact HBw2.out.trans (show Below w.heap.size w2 _ by go_grown))
noncomputable def c_ft_r25_5 : Code := sub [1, 1, 0] (Tryd.f16.body.getD .skip)
set_option maxRecDepth 1000000 in
set_option maxHeartbeats 16000000 in
theorem ft_r25_5_wp {Q : Exit → Act → World → Prop} {wo w : World} {nm : ByteArray} {A B : Option Addr} {n1 c1 n2 c2 : Nat} (hs : TX wo w 5 nm A n1 c1 B n2 c2) (hN : ∀ a' w', Frm 108 [(1, .pointer (some ⟨wo.heap.size, 0, none⟩)), (6, .string (⟨#[32, 38, 32]⟩ : ByteArray))] a' → Below w.heap.size w w' → Q .normal a' w') : ∀ ac, Frm 108 [(1, .pointer (some ⟨wo.heap.size, 0, none⟩)), (8, .int .i64 5)] ac → Code.wp Tryd.prog c_ft_r25_5 Q ac w := by
  refine frm_open ?_
  refine frame_ft ?_
  intros
  rename_i hq
  obtain ⟨-, -, e0q, e1q, -⟩ := hq
  have e0q := (Option.some.inj e0q).symm; subst e0q
  have e1q := (Option.some.inj e1q).symm; subst e1q
  conv => arg 2; whnf
  have a0 := cellv hs.a 0 rfl
  have a1 := cellv hs.a 1 rfl
  have a2 := cellv hs.a 2 rfl
  have a3 := cellv hs.a 3 rfl
  have al := lt_heap hs.a
  have HS := Lib.hid hs
  clear hs
  have HN := Lib.hid hN
  clear hN
  go_wp2_with fail
  exact HN.out _ _ (id ⟨rfl, rfl, rfl, rfl, trivial⟩) (by go_grown)
noncomputable def c_ft_r25_6 : Code := sub [1, 1, 0] (Tryd.f16.body.getD .skip)
set_option maxRecDepth 1000000 in
set_option maxHeartbeats 16000000 in
theorem ft_r25_6_wp {Q : Exit → Act → World → Prop} {wo w : World} {nm : ByteArray} {A B : Option Addr} {n1 c1 n2 c2 : Nat} (hs : TX wo w 6 nm A n1 c1 B n2 c2) (hN : ∀ a' w', Frm 108 [(1, .pointer (some ⟨wo.heap.size, 0, none⟩)), (6, .string (⟨#[32, 124, 32]⟩ : ByteArray))] a' → Below w.heap.size w w' → Q .normal a' w') : ∀ ac, Frm 108 [(1, .pointer (some ⟨wo.heap.size, 0, none⟩)), (8, .int .i64 6)] ac → Code.wp Tryd.prog c_ft_r25_6 Q ac w := by
  refine frm_open ?_
  refine frame_ft ?_
  intros
  rename_i hq
  obtain ⟨-, -, e0q, e1q, -⟩ := hq
  have e0q := (Option.some.inj e0q).symm; subst e0q
  have e1q := (Option.some.inj e1q).symm; subst e1q
  conv => arg 2; whnf
  have a0 := cellv hs.a 0 rfl
  have a1 := cellv hs.a 1 rfl
  have a2 := cellv hs.a 2 rfl
  have a3 := cellv hs.a 3 rfl
  have al := lt_heap hs.a
  have HS := Lib.hid hs
  clear hs
  have HN := Lib.hid hN
  clear hN
  go_wp2_with fail
  exact HN.out _ _ (id ⟨rfl, rfl, rfl, rfl, trivial⟩) (by go_grown)
noncomputable def c_ft_r25_7 : Code := sub [1, 1, 0] (Tryd.f16.body.getD .skip)
set_option maxRecDepth 1000000 in
set_option maxHeartbeats 16000000 in
theorem ft_r25_7_wp {Q : Exit → Act → World → Prop} {wo w : World} {nm : ByteArray} {A B : Option Addr} {n1 c1 n2 c2 : Nat} (hs : TX wo w 7 nm A n1 c1 B n2 c2) (hN : ∀ a' w', Frm 108 [(1, .pointer (some ⟨wo.heap.size, 0, none⟩)), (6, .string (⟨#[32, 62, 32]⟩ : ByteArray))] a' → Below w.heap.size w w' → Q .normal a' w') : ∀ ac, Frm 108 [(1, .pointer (some ⟨wo.heap.size, 0, none⟩)), (8, .int .i64 7)] ac → Code.wp Tryd.prog c_ft_r25_7 Q ac w := by
  refine frm_open ?_
  refine frame_ft ?_
  intros
  rename_i hq
  obtain ⟨-, -, e0q, e1q, -⟩ := hq
  have e0q := (Option.some.inj e0q).symm; subst e0q
  have e1q := (Option.some.inj e1q).symm; subst e1q
  conv => arg 2; whnf
  have a0 := cellv hs.a 0 rfl
  have a1 := cellv hs.a 1 rfl
  have a2 := cellv hs.a 2 rfl
  have a3 := cellv hs.a 3 rfl
  have al := lt_heap hs.a
  have HS := Lib.hid hs
  clear hs
  have HN := Lib.hid hN
  clear hN
  go_wp2_with fail
  exact HN.out _ _ (id ⟨rfl, rfl, rfl, rfl, trivial⟩) (by go_grown)
noncomputable def c_ft_r26 : Code := sub [1, 1, 1, 0] (Tryd.f16.body.getD .skip)
set_option maxRecDepth 1000000 in
set_option maxHeartbeats 16000000 in
theorem ft_r26_wp {K : Act → World → Prop} {sg y z : ByteArray} {b o : Nat} {wo w : World} {kd : Int} {nm : ByteArray} {A : Option Addr} {n1 c1 n2 c2 : Nat} {ke : Int} {ne : ByteArray} {Ae Be : Option Addr} {n3 c3 n4 c4 : Nat} {kef : Int} {nef : ByteArray} {Aef Bef : Option Addr} {n3f c3f n4f c4f : Nat} (hsg : sg.size = 3) (hy : y.size ≤ 100000) (hzz : z.size ≤ 100000) (hn2 : 1 < n2) (e0 : w.cell? ⟨b, o, none⟩ = some (.int .i64 ke)) (e1 : w.cell? ⟨b, o + 1, none⟩ = some (.string ne)) (e2 : w.cell? ⟨b, o + 2, none⟩ = some (.slice Ae n3 c3)) (e3 : w.cell? ⟨b, o + 3, none⟩ = some (.slice Be n4 c4)) (f0 : w.cell? ⟨b, o + 4, none⟩ = some (.int .i64 kef)) (f1 : w.cell? ⟨b, o + 4 + 1, none⟩ = some (.string nef)) (f2 : w.cell? ⟨b, o + 4 + 2, none⟩ = some (.slice Aef n3f c3f)) (f3 : w.cell? ⟨b, o + 4 + 3, none⟩ = some (.slice Bef n4f c4f)) (hbl : b < w.heap.size) (hc1 : ∀ W : World, Below w.heap.size w W → Calls Tryd.prog 16 #[.agg #[.int .i64 ke, .string ne, .slice Ae n3 c3, .slice Be n4 c4]] W fun e w' => e = .returned (.string y) ∧ Below w.heap.size w w') (hc2 : ∀ W : World, Below w.heap.size w W → Calls Tryd.prog 16 #[.agg #[.int .i64 kef, .string nef, .slice Aef n3f c3f, .slice Bef n4f c4f]] W fun e w' => e = .returned (.string z) ∧ Below w.heap.size w w') (hs : TX wo w kd nm A n1 c1 (some ⟨b, o, none⟩) n2 c2) (hN : ∀ a' w', Frm 108 [(2, .string ((⟨#[40]⟩ : ByteArray) ++ y ++ sg ++ z ++ (⟨#[41]⟩ : ByteArray)))] a' → Below w.heap.size w w' → K a' w') : ∀ ac, Frm 108 [(1, .pointer (some ⟨wo.heap.size, 0, none⟩)), (6, .string sg)] ac → Code.wp Tryd.prog c_ft_r26 (Exit.then K (fun _ _ _ => False)) ac w := by
  refine frm_open ?_
  refine frame_ft ?_
  intros
  rename_i hq
  obtain ⟨-, -, e0q, e1q, -⟩ := hq
  have e0q := (Option.some.inj e0q).symm; subst e0q
  have e1q := (Option.some.inj e1q).symm; subst e1q
  conv => arg 2; whnf
  have a0 := cellv hs.a 0 rfl
  have a1 := cellv hs.a 1 rfl
  have a2 := cellv hs.a 2 rfl
  have a3 := cellv hs.a 3 rfl
  have al := lt_heap hs.a
  have tl1 : ¬ 9223372036854775807 < 1 + y.size := by omega
  have tl2 : ¬ 9223372036854775807 < 1 + y.size + 3 := by omega
  have tm2 : ¬ 9223372036854775804 < 1 + y.size := by omega
  have tl3 : ¬ 9223372036854775807 < 1 + y.size + 3 + z.size := by omega
  have tl4 : ¬ 9223372036854775807 < 1 + y.size + 3 + z.size + 1 := by omega
  have tm4 : ¬ 9223372036854775806 < 1 + y.size + 3 + z.size := by omega
  have tl5 : ¬ 9223372036854775807 < 1 + y.size + sg.size := by omega
  have tl6 : ¬ 9223372036854775807 < 1 + y.size + sg.size + z.size := by omega
  have tl7 : ¬ 9223372036854775807 < 1 + y.size + sg.size + z.size + 1 := by omega
  have tm7 : ¬ 9223372036854775806 < 1 + y.size + sg.size + z.size := by omega
  have q1 : (0 : Int) < (n2 : Int) := by omega
  have q2 : (1 : Int) < (n2 : Int) := by omega
  have q3 : 0 < n2 := by omega
  have hwz := hs.b.size
  have HS := Lib.hid hs
  clear hs
  have HC1 := Lib.hid hc1
  have HC2 := Lib.hid hc2
  clear hc1 hc2
  go_region_law (first
    | (refine step_call (by rfl) 16 _ ?hargs (HC1.out _ ?hbel) ?_; (case hargs => (go_simp; done)); (case hbel => (go_grown)); rintro e w2 ⟨rfl, hbw2⟩; refine ⟨_, rfl, ?_⟩; have zw2 := hbw2.size; have b3 := (cell_keep (hbw2.block _ al) 3).trans a3; have m0 := (cell_keep (hbw2.block b hbl) (o + 4)).trans f0; have m1 := (cell_keep (hbw2.block b hbl) (o + 4 + 1)).trans f1; have m2 := (cell_keep (hbw2.block b hbl) (o + 4 + 2)).trans f2; have m3 := (cell_keep (hbw2.block b hbl) (o + 4 + 3)).trans f3; have HBw2 := Lib.hid hbw2; clear hbw2)
    | (refine step_call (by rfl) 16 _ ?hargs (HC2.out _ ?hbel) ?_; (case hargs => (go_simp; done)); (case hbel => (exact HBw2.out.trans (show Below w.heap.size w2 _ by go_grown))); rintro e w3 ⟨rfl, hbw3⟩; refine ⟨_, rfl, ?_⟩; have zw3 := hbw3.size; skip; have HBw3 := Lib.hid hbw3; clear hbw3))
  all_goals go_wp2_with fail
  all_goals exact hN _ _ (id ⟨rfl, rfl, rfl, trivial⟩) HBw3.out
set_option maxRecDepth 1000000 in
theorem ft_ret_wp {R : Ending → World → Prop} {w' : World} {vv : Value} (hR : R (.returned (vv)) w') : ∀ ac, Frm 108 [(2, vv)] ac → bodyPost Tryd.prog Tryd.f16 R .ret ac w' := by
  refine frm_open ?_
  refine frame_ft ?_
  intros
  rename_i hq
  obtain ⟨-, -, e0q, -⟩ := hq
  have e0q := (Option.some.inj e0q).symm; subst e0q
  refine bodyPost_ret (v := vv) (by simp [results, Tryd.results16, go_sem]) rfl ?_
  exact hR

end Go.Proofs.YtdofemkfmkopcaaDoor
