/-
  strings.Join of at most three short words with a comma between: the walk, by parts.
-/
import Derived.Test.YtdofemkfmkopcaaDoorProg
import Derived.Test.YtdofemkfmkopcaaDoorBuilder
import Derived.Test.YtdofemkfmkopcaaDoorShelf
import Derived.Test.YtdofemkfmkopcaaDoorFmText
import Derived.Test.YtdofemkfmkopcaaDoorParts
import Derived.Deep.DeepCutAuto
import Derived.BigQuiet
namespace Go.Proofs.YtdofemkfmkopcaaDoor
open Go Go.RowKit
set_option linter.unusedSimpArgs false
set_option linter.unusedVariables false

set_option maxRecDepth 1000000 in
theorem frame_jn {P : Act → Prop} (h : ∀ x0 x1 x2 x3 x4 x5 x6 x7 x8 x9 x10 x11 x12 x13 x14 x15 x16 x17 x18 x19 x20 x21 x22 x23 x24 x25 x26 x27 x28 x29 x30 x31 x32 x33 x34 x35 x36 x37 x38 x39 x40 x41 x42 x43 x44 x45 x46 x47 x48 x49 x50 x51 x52 x53 x54 x55 x56 x57 x58 x59 x60 x61 x62 x63 x64 x65 x66 x67 x68 x69 x70 x71 x72 x73 x74 : Value, P ⟨(x0 :: x1 :: x2 :: x3 :: x4 :: x5 :: x6 :: x7 :: x8 :: x9 :: x10 :: x11 :: x12 :: x13 :: x14 :: x15 :: x16 :: x17 :: x18 :: x19 :: x20 :: x21 :: x22 :: x23 :: x24 :: x25 :: x26 :: x27 :: x28 :: x29 :: x30 :: x31 :: x32 :: x33 :: x34 :: x35 :: x36 :: x37 :: x38 :: x39 :: x40 :: x41 :: x42 :: x43 :: x44 :: x45 :: x46 :: x47 :: x48 :: x49 :: x50 :: x51 :: x52 :: x53 :: x54 :: x55 :: x56 :: x57 :: x58 :: x59 :: x60 :: x61 :: x62 :: x63 :: x64 :: x65 :: x66 :: x67 :: x68 :: x69 :: x70 :: x71 :: x72 :: x73 :: x74 :: []).toArray, []⟩) : ∀ a : Act, a.tmps.toList.length = 75 → a.defers = [] → P a := by
  rintro ⟨⟨l⟩, d⟩ hs hd
  simp only at hd
  subst hd
  revert l
  show ∀ l : List Value, l.length = 75 → P ⟨⟨l⟩, []⟩
  refine openS (n := 74) (fun x0 => ?_)
  refine openS (n := 73) (fun x1 => ?_)
  refine openS (n := 72) (fun x2 => ?_)
  refine openS (n := 71) (fun x3 => ?_)
  refine openS (n := 70) (fun x4 => ?_)
  refine openS (n := 69) (fun x5 => ?_)
  refine openS (n := 68) (fun x6 => ?_)
  refine openS (n := 67) (fun x7 => ?_)
  refine openS (n := 66) (fun x8 => ?_)
  refine openS (n := 65) (fun x9 => ?_)
  refine openS (n := 64) (fun x10 => ?_)
  refine openS (n := 63) (fun x11 => ?_)
  refine openS (n := 62) (fun x12 => ?_)
  refine openS (n := 61) (fun x13 => ?_)
  refine openS (n := 60) (fun x14 => ?_)
  refine openS (n := 59) (fun x15 => ?_)
  refine openS (n := 58) (fun x16 => ?_)
  refine openS (n := 57) (fun x17 => ?_)
  refine openS (n := 56) (fun x18 => ?_)
  refine openS (n := 55) (fun x19 => ?_)
  refine openS (n := 54) (fun x20 => ?_)
  refine openS (n := 53) (fun x21 => ?_)
  refine openS (n := 52) (fun x22 => ?_)
  refine openS (n := 51) (fun x23 => ?_)
  refine openS (n := 50) (fun x24 => ?_)
  refine openS (n := 49) (fun x25 => ?_)
  refine openS (n := 48) (fun x26 => ?_)
  refine openS (n := 47) (fun x27 => ?_)
  refine openS (n := 46) (fun x28 => ?_)
  refine openS (n := 45) (fun x29 => ?_)
  refine openS (n := 44) (fun x30 => ?_)
  refine openS (n := 43) (fun x31 => ?_)
  refine openS (n := 42) (fun x32 => ?_)
  refine openS (n := 41) (fun x33 => ?_)
  refine openS (n := 40) (fun x34 => ?_)
  refine openS (n := 39) (fun x35 => ?_)
  refine openS (n := 38) (fun x36 => ?_)
  refine openS (n := 37) (fun x37 => ?_)
  refine openS (n := 36) (fun x38 => ?_)
  refine openS (n := 35) (fun x39 => ?_)
  refine openS (n := 34) (fun x40 => ?_)
  refine openS (n := 33) (fun x41 => ?_)
  refine openS (n := 32) (fun x42 => ?_)
  refine openS (n := 31) (fun x43 => ?_)
  refine openS (n := 30) (fun x44 => ?_)
  refine openS (n := 29) (fun x45 => ?_)
  refine openS (n := 28) (fun x46 => ?_)
  refine openS (n := 27) (fun x47 => ?_)
  refine openS (n := 26) (fun x48 => ?_)
  refine openS (n := 25) (fun x49 => ?_)
  refine openS (n := 24) (fun x50 => ?_)
  refine openS (n := 23) (fun x51 => ?_)
  refine openS (n := 22) (fun x52 => ?_)
  refine openS (n := 21) (fun x53 => ?_)
  refine openS (n := 20) (fun x54 => ?_)
  refine openS (n := 19) (fun x55 => ?_)
  refine openS (n := 18) (fun x56 => ?_)
  refine openS (n := 17) (fun x57 => ?_)
  refine openS (n := 16) (fun x58 => ?_)
  refine openS (n := 15) (fun x59 => ?_)
  refine openS (n := 14) (fun x60 => ?_)
  refine openS (n := 13) (fun x61 => ?_)
  refine openS (n := 12) (fun x62 => ?_)
  refine openS (n := 11) (fun x63 => ?_)
  refine openS (n := 10) (fun x64 => ?_)
  refine openS (n := 9) (fun x65 => ?_)
  refine openS (n := 8) (fun x66 => ?_)
  refine openS (n := 7) (fun x67 => ?_)
  refine openS (n := 6) (fun x68 => ?_)
  refine openS (n := 5) (fun x69 => ?_)
  refine openS (n := 4) (fun x70 => ?_)
  refine openS (n := 3) (fun x71 => ?_)
  refine openS (n := 2) (fun x72 => ?_)
  refine openS (n := 1) (fun x73 => ?_)
  refine openS (n := 0) (fun x74 => ?_)
  refine open0 ?_
  exact h x0 x1 x2 x3 x4 x5 x6 x7 x8 x9 x10 x11 x12 x13 x14 x15 x16 x17 x18 x19 x20 x21 x22 x23 x24 x25 x26 x27 x28 x29 x30 x31 x32 x33 x34 x35 x36 x37 x38 x39 x40 x41 x42 x43 x44 x45 x46 x47 x48 x49 x50 x51 x52 x53 x54 x55 x56 x57 x58 x59 x60 x61 x62 x63 x64 x65 x66 x67 x68 x69 x70 x71 x72 x73 x74
noncomputable def c_jn_r0 : Code := sub [0] (Tryd.f83.body.getD .skip)
set_option maxRecDepth 1000000 in
set_option maxHeartbeats 16000000 in
theorem jn_r0_wp {Q : Exit → Act → World → Prop} {b o n c : Nat} {w : World} (hN : ∀ a', Frm 75 [(0, .slice (some ⟨b, o, none⟩) n c), (1, .string ⟨#[44]⟩)] a' → Q .normal a' w) : ∀ ac, Frm 75 [(0, .slice (some ⟨b, o, none⟩) n c), (1, .string ⟨#[44]⟩)] ac → Code.wp Tryd.prog c_jn_r0 Q ac w := by
  refine frm_open ?_
  refine frame_jn ?_
  intros
  rename_i hq
  obtain ⟨-, -, e0q, e1q, -⟩ := hq
  have e0q := (Option.some.inj e0q).symm; subst e0q
  have e1q := (Option.some.inj e1q).symm; subst e1q
  conv => arg 2; whnf
  have HN := Lib.hid hN
  clear hN
  go_wp2_with fail
  exact HN.out _ (id ⟨rfl, rfl, rfl, rfl, trivial⟩)
noncomputable def c_jn_r1 : Code := sub [1, 0, 0] (Tryd.f83.body.getD .skip)
set_option maxRecDepth 1000000 in
set_option maxHeartbeats 16000000 in
theorem jn_r1_wp {Q : Exit → Act → World → Prop} {b o n c : Nat} {w : World} (hN : ∀ a', Frm 75 [(0, .slice (some ⟨b, o, none⟩) n c), (1, .string ⟨#[44]⟩), (12, .int .i64 (n : Nat))] a' → Q .normal a' w) : ∀ ac, Frm 75 [(0, .slice (some ⟨b, o, none⟩) n c), (1, .string ⟨#[44]⟩)] ac → Code.wp Tryd.prog c_jn_r1 Q ac w := by
  refine frm_open ?_
  refine frame_jn ?_
  intros
  rename_i hq
  obtain ⟨-, -, e0q, e1q, -⟩ := hq
  have e0q := (Option.some.inj e0q).symm; subst e0q
  have e1q := (Option.some.inj e1q).symm; subst e1q
  conv => arg 2; whnf
  have HN := Lib.hid hN
  clear hN
  go_wp2_with fail
  exact HN.out _ (id ⟨rfl, rfl, rfl, rfl, rfl, trivial⟩)
noncomputable def c_jn_r2 : Code := sub [1, 0, 1, 0, 0] (Tryd.f83.body.getD .skip)
set_option maxRecDepth 1000000 in
set_option maxHeartbeats 16000000 in
theorem jn_r2_wp {Q : Exit → Act → World → Prop} {b o n c : Nat} {w : World} (hn : 2 ≤ n) (hN : ∀ a', Frm 75 [(0, .slice (some ⟨b, o, none⟩) n c), (1, .string ⟨#[44]⟩), (12, .int .i64 (n : Nat)), (13, .bool false)] a' → Q .normal a' w) : ∀ ac, Frm 75 [(0, .slice (some ⟨b, o, none⟩) n c), (1, .string ⟨#[44]⟩), (12, .int .i64 (n : Nat))] ac → Code.wp Tryd.prog c_jn_r2 Q ac w := by
  refine frm_open ?_
  refine frame_jn ?_
  intros
  rename_i hq
  obtain ⟨-, -, e0q, e1q, e2q, -⟩ := hq
  have e0q := (Option.some.inj e0q).symm; subst e0q
  have e1q := (Option.some.inj e1q).symm; subst e1q
  have e2q := (Option.some.inj e2q).symm; subst e2q
  conv => arg 2; whnf
  have t1 : ((n : Int) == 0) = false := beq_eq_false_iff_ne.2 (by omega)
  clear hn
  have HN := Lib.hid hN
  clear hN
  go_wp2_with fail
  exact HN.out _ (id ⟨rfl, rfl, rfl, rfl, rfl, rfl, trivial⟩)
noncomputable def c_jn_r4 : Code := sub [1, 0, 1, 0, 1, 1, 0] (Tryd.f83.body.getD .skip)
set_option maxRecDepth 1000000 in
set_option maxHeartbeats 16000000 in
theorem jn_r4_wp {Q : Exit → Act → World → Prop} {b o n c : Nat} {w : World} (hn : 2 ≤ n) (hN : ∀ a', Frm 75 [(0, .slice (some ⟨b, o, none⟩) n c), (1, .string ⟨#[44]⟩), (15, .bool false)] a' → Q .normal a' w) : ∀ ac, Frm 75 [(0, .slice (some ⟨b, o, none⟩) n c), (1, .string ⟨#[44]⟩), (12, .int .i64 (n : Nat))] ac → Code.wp Tryd.prog c_jn_r4 Q ac w := by
  refine frm_open ?_
  refine frame_jn ?_
  intros
  rename_i hq
  obtain ⟨-, -, e0q, e1q, e2q, -⟩ := hq
  have e0q := (Option.some.inj e0q).symm; subst e0q
  have e1q := (Option.some.inj e1q).symm; subst e1q
  have e2q := (Option.some.inj e2q).symm; subst e2q
  conv => arg 2; whnf
  have t1 : ((n : Int) == 1) = false := beq_eq_false_iff_ne.2 (by omega)
  clear hn
  have HN := Lib.hid hN
  clear hN
  go_wp2_with fail
  exact HN.out _ (id ⟨rfl, rfl, rfl, rfl, rfl, trivial⟩)
noncomputable def c_jn_r6 : Code := sub [1, 1, 0] (Tryd.f83.body.getD .skip)
set_option maxRecDepth 1000000 in
set_option maxHeartbeats 16000000 in
theorem jn_r6_wp {Q : Exit → Act → World → Prop} {b o n c : Nat} {w : World} (hN : ∀ a', Frm 75 [(0, .slice (some ⟨b, o, none⟩) n c), (1, .string ⟨#[44]⟩), (5, .int .i64 0)] a' → Q .normal a' w) : ∀ ac, Frm 75 [(0, .slice (some ⟨b, o, none⟩) n c), (1, .string ⟨#[44]⟩)] ac → Code.wp Tryd.prog c_jn_r6 Q ac w := by
  refine frm_open ?_
  refine frame_jn ?_
  intros
  rename_i hq
  obtain ⟨-, -, e0q, e1q, -⟩ := hq
  have e0q := (Option.some.inj e0q).symm; subst e0q
  have e1q := (Option.some.inj e1q).symm; subst e1q
  conv => arg 2; whnf
  have HN := Lib.hid hN
  clear hN
  go_wp2_with fail
  exact HN.out _ (id ⟨rfl, rfl, rfl, rfl, rfl, trivial⟩)
noncomputable def c_jn_r7 : Code := sub [1, 1, 1, 0, 0] (Tryd.f83.body.getD .skip)
set_option maxRecDepth 1000000 in
set_option maxHeartbeats 16000000 in
theorem jn_r7_wp {Q : Exit → Act → World → Prop} {b o n c : Nat} {w : World} (hN : ∀ a', Frm 75 [(0, .slice (some ⟨b, o, none⟩) n c), (1, .string ⟨#[44]⟩), (5, .int .i64 0), (22, .bool true)] a' → Q .normal a' w) : ∀ ac, Frm 75 [(0, .slice (some ⟨b, o, none⟩) n c), (1, .string ⟨#[44]⟩), (5, .int .i64 0)] ac → Code.wp Tryd.prog c_jn_r7 Q ac w := by
  refine frm_open ?_
  refine frame_jn ?_
  intros
  rename_i hq
  obtain ⟨-, -, e0q, e1q, e2q, -⟩ := hq
  have e0q := (Option.some.inj e0q).symm; subst e0q
  have e1q := (Option.some.inj e1q).symm; subst e1q
  have e2q := (Option.some.inj e2q).symm; subst e2q
  conv => arg 2; whnf
  have HN := Lib.hid hN
  clear hN
  go_wp2_with fail
  exact HN.out _ (id ⟨rfl, rfl, rfl, rfl, rfl, rfl, trivial⟩)
noncomputable def c_jn_r8 : Code := sub [1, 1, 1, 0, 1, 0, 0, 0] (Tryd.f83.body.getD .skip)
set_option maxRecDepth 1000000 in
set_option maxHeartbeats 16000000 in
theorem jn_r8_wp {Q : Exit → Act → World → Prop} {b o n c : Nat} {w : World} (hn : n = 2 ∨ n = 3) (hN : ∀ a', Frm 75 [(0, .slice (some ⟨b, o, none⟩) n c), (1, .string ⟨#[44]⟩), (5, .int .i64 0), (29, .bool false)] a' → Q .normal a' w) : ∀ ac, Frm 75 [(0, .slice (some ⟨b, o, none⟩) n c), (1, .string ⟨#[44]⟩), (5, .int .i64 0)] ac → Code.wp Tryd.prog c_jn_r8 Q ac w := by
  refine frm_open ?_
  refine frame_jn ?_
  intros
  rename_i hq
  obtain ⟨-, -, e0q, e1q, e2q, -⟩ := hq
  have e0q := (Option.some.inj e0q).symm; subst e0q
  have e1q := (Option.some.inj e1q).symm; subst e1q
  have e2q := (Option.some.inj e2q).symm; subst e2q
  conv => arg 2; whnf
  rcases hn with rfl | rfl
  · have HN := Lib.hid hN
    clear hN
    go_wp2_with fail
    exact HN.out _ (id ⟨rfl, rfl, rfl, rfl, rfl, rfl, trivial⟩)
  · have HN := Lib.hid hN
    clear hN
    go_wp2_with fail
    exact HN.out _ (id ⟨rfl, rfl, rfl, rfl, rfl, rfl, trivial⟩)
noncomputable def c_jn_r10 : Code := sub [1, 1, 1, 0, 1, 0, 1] (Tryd.f83.body.getD .skip)
set_option maxRecDepth 1000000 in
set_option maxHeartbeats 16000000 in
theorem jn_r10_wp {Q : Exit → Act → World → Prop} {b o n c : Nat} {w : World} (hn : n = 2 ∨ n = 3) (hN : ∀ (s : Nat) a', s ≤ 3 → Frm 75 [(0, .slice (some ⟨b, o, none⟩) n c), (1, .string ⟨#[44]⟩), (5, .int .i64 (s : Nat))] a' → Q .normal a' w) : ∀ ac, Frm 75 [(0, .slice (some ⟨b, o, none⟩) n c), (1, .string ⟨#[44]⟩), (5, .int .i64 0)] ac → Code.wp Tryd.prog c_jn_r10 Q ac w := by
  refine frm_open ?_
  refine frame_jn ?_
  intros
  rename_i hq
  obtain ⟨-, -, e0q, e1q, e2q, -⟩ := hq
  have e0q := (Option.some.inj e0q).symm; subst e0q
  have e1q := (Option.some.inj e1q).symm; subst e1q
  have e2q := (Option.some.inj e2q).symm; subst e2q
  conv => arg 2; whnf
  rcases hn with rfl | rfl
  · have HN := Lib.hid hN
    clear hN
    go_wp2_with fail
    exact HN.out 1 _ (by omega) (id ⟨rfl, rfl, rfl, rfl, rfl, trivial⟩)
  · have HN := Lib.hid hN
    clear hN
    go_wp2_with fail
    exact HN.out 2 _ (by omega) (id ⟨rfl, rfl, rfl, rfl, rfl, trivial⟩)
noncomputable def c_jn_r11 : Code := sub [1, 1, 1, 1, 0, 0] (Tryd.f83.body.getD .skip)
set_option maxRecDepth 1000000 in
set_option maxHeartbeats 16000000 in
theorem jn_r11_wp {Q : Exit → Act → World → Prop} {b o n c : Nat} {s : Nat} {w : World} (hN : ∀ a', Frm 75 [(0, .slice (some ⟨b, o, none⟩) n c), (1, .string ⟨#[44]⟩), (5, .int .i64 (s : Nat)), (39, .slice (some ⟨b, o, none⟩) n c), (40, .int .i64 (n : Nat)), (41, .int .i64 (0 : Nat))] a' → Q .normal a' w) : ∀ ac, Frm 75 [(0, .slice (some ⟨b, o, none⟩) n c), (1, .string ⟨#[44]⟩), (5, .int .i64 (s : Nat))] ac → Code.wp Tryd.prog c_jn_r11 Q ac w := by
  refine frm_open ?_
  refine frame_jn ?_
  intros
  rename_i hq
  obtain ⟨-, -, e0q, e1q, e2q, -⟩ := hq
  have e0q := (Option.some.inj e0q).symm; subst e0q
  have e1q := (Option.some.inj e1q).symm; subst e1q
  have e2q := (Option.some.inj e2q).symm; subst e2q
  conv => arg 2; whnf
  have HN := Lib.hid hN
  clear hN
  go_wp2_with fail
  exact HN.out _ (id ⟨rfl, rfl, rfl, rfl, rfl, rfl, rfl, rfl, trivial⟩)
noncomputable def c_jn_r12 : Code := sub [1, 1, 1, 1, 0, 1, 0, 0, 0] (Tryd.f83.body.getD .skip)
set_option maxRecDepth 1000000 in
set_option maxHeartbeats 16000000 in
theorem jn_r12_wp {Q : Exit → Act → World → Prop} {b o n c : Nat} {s i : Nat} {w : World} (hN : ∀ a', Frm 75 [(0, .slice (some ⟨b, o, none⟩) n c), (1, .string ⟨#[44]⟩), (5, .int .i64 (s : Nat)), (39, .slice (some ⟨b, o, none⟩) n c), (40, .int .i64 (n : Nat)), (41, .int .i64 (i : Nat)), (42, .bool (decide (i < n)))] a' → Q .normal a' w) : ∀ ac, Frm 75 [(0, .slice (some ⟨b, o, none⟩) n c), (1, .string ⟨#[44]⟩), (5, .int .i64 (s : Nat)), (39, .slice (some ⟨b, o, none⟩) n c), (40, .int .i64 (n : Nat)), (41, .int .i64 (i : Nat))] ac → Code.wp Tryd.prog c_jn_r12 Q ac w := by
  refine frm_open ?_
  refine frame_jn ?_
  intros
  rename_i hq
  obtain ⟨-, -, e0q, e1q, e2q, e3q, e4q, e5q, -⟩ := hq
  have e0q := (Option.some.inj e0q).symm; subst e0q
  have e1q := (Option.some.inj e1q).symm; subst e1q
  have e2q := (Option.some.inj e2q).symm; subst e2q
  have e3q := (Option.some.inj e3q).symm; subst e3q
  have e4q := (Option.some.inj e4q).symm; subst e4q
  have e5q := (Option.some.inj e5q).symm; subst e5q
  conv => arg 2; whnf
  by_cases h : i < n
  · have t1 : decide ((i : Int) < (n : Nat)) = true := decide_eq_true (by omega)
    have t2 : decide (i < n) = true := decide_eq_true h
    rw [t2] at hN
    clear h
    have HN := Lib.hid hN
    clear hN
    go_wp2_with fail
    exact HN.out _ (id ⟨rfl, rfl, rfl, rfl, rfl, rfl, rfl, rfl, rfl, trivial⟩)
  · have t1 : decide ((i : Int) < (n : Nat)) = false := decide_eq_false (by omega)
    have t2 : decide (i < n) = false := decide_eq_false h
    rw [t2] at hN
    clear h
    have HN := Lib.hid hN
    clear hN
    go_wp2_with fail
    exact HN.out _ (id ⟨rfl, rfl, rfl, rfl, rfl, rfl, rfl, rfl, rfl, trivial⟩)
noncomputable def c_jn_r13 : Code := sub [1, 1, 1, 1, 0, 1, 0, 0, 1, 1, 0, 0, 0] (Tryd.f83.body.getD .skip)
set_option maxRecDepth 1000000 in
set_option maxHeartbeats 16000000 in
theorem jn_r13_wp {Q : Exit → Act → World → Prop} {b o n c : Nat} {s i : Nat} {x : ByteArray} {w : World} (hi : i < n) (hc : w.cell? ⟨b, o + i, none⟩ = some (.string x)) (hbl : b < w.heap.size) (hN : ∀ a', Frm 75 [(0, .slice (some ⟨b, o, none⟩) n c), (1, .string ⟨#[44]⟩), (5, .int .i64 (s : Nat)), (39, .slice (some ⟨b, o, none⟩) n c), (40, .int .i64 (n : Nat)), (41, .int .i64 (i : Nat)), (7, .string x)] a' → Q .normal a' w) : ∀ ac, Frm 75 [(0, .slice (some ⟨b, o, none⟩) n c), (1, .string ⟨#[44]⟩), (5, .int .i64 (s : Nat)), (39, .slice (some ⟨b, o, none⟩) n c), (40, .int .i64 (n : Nat)), (41, .int .i64 (i : Nat))] ac → Code.wp Tryd.prog c_jn_r13 Q ac w := by
  refine frm_open ?_
  refine frame_jn ?_
  intros
  rename_i hq
  obtain ⟨-, -, e0q, e1q, e2q, e3q, e4q, e5q, -⟩ := hq
  have e0q := (Option.some.inj e0q).symm; subst e0q
  have e1q := (Option.some.inj e1q).symm; subst e1q
  have e2q := (Option.some.inj e2q).symm; subst e2q
  have e3q := (Option.some.inj e3q).symm; subst e3q
  have e4q := (Option.some.inj e4q).symm; subst e4q
  have e5q := (Option.some.inj e5q).symm; subst e5q
  conv => arg 2; whnf
  have q0 : (0 : Int) ≤ (i : Int) := by omega
  have q1 : (i : Int) < (n : Int) := by omega
  have HN := Lib.hid hN
  clear hN
  go_wp2_with fail
  exact HN.out _ (id ⟨rfl, rfl, rfl, rfl, rfl, rfl, rfl, rfl, rfl, trivial⟩)
noncomputable def c_jn_r14 : Code := sub [1, 1, 1, 1, 0, 1, 0, 0, 1, 1, 0, 0, 1, 0, 0] (Tryd.f83.body.getD .skip)
set_option maxRecDepth 1000000 in
set_option maxHeartbeats 16000000 in
theorem jn_r14_wp {Q : Exit → Act → World → Prop} {b o n c : Nat} {s i : Nat} {x : ByteArray} {w : World} (hs : s ≤ 10000) (hx : x.size ≤ 1000) (hN : ∀ a', Frm 75 [(0, .slice (some ⟨b, o, none⟩) n c), (1, .string ⟨#[44]⟩), (5, .int .i64 (s : Nat)), (39, .slice (some ⟨b, o, none⟩) n c), (40, .int .i64 (n : Nat)), (41, .int .i64 (i : Nat)), (7, .string x), (49, .bool false)] a' → Q .normal a' w) : ∀ ac, Frm 75 [(0, .slice (some ⟨b, o, none⟩) n c), (1, .string ⟨#[44]⟩), (5, .int .i64 (s : Nat)), (39, .slice (some ⟨b, o, none⟩) n c), (40, .int .i64 (n : Nat)), (41, .int .i64 (i : Nat)), (7, .string x)] ac → Code.wp Tryd.prog c_jn_r14 Q ac w := by
  refine frm_open ?_
  refine frame_jn ?_
  intros
  rename_i hq
  obtain ⟨-, -, e0q, e1q, e2q, e3q, e4q, e5q, e6q, -⟩ := hq
  have e0q := (Option.some.inj e0q).symm; subst e0q
  have e1q := (Option.some.inj e1q).symm; subst e1q
  have e2q := (Option.some.inj e2q).symm; subst e2q
  have e3q := (Option.some.inj e3q).symm; subst e3q
  have e4q := (Option.some.inj e4q).symm; subst e4q
  have e5q := (Option.some.inj e5q).symm; subst e5q
  have e6q := (Option.some.inj e6q).symm; subst e6q
  conv => arg 2; whnf
  have ha : (s : Int) ≤ 10000 := by omega
  have hb : (x.size : Int) ≤ 1000 := by omega
  have hc0 : (0 : Int) ≤ (s : Int) := by omega
  have t1 : decide ((9223372036854775807 : Int) - (s : Int) < (x.size : Int)) = false := decide_eq_false (by omega)
  have HN := Lib.hid hN
  clear hN
  go_wp2_with fail
  exact HN.out _ (id ⟨rfl, rfl, rfl, rfl, rfl, rfl, rfl, rfl, rfl, rfl, trivial⟩)
noncomputable def c_jn_r16 : Code := sub [1, 1, 1, 1, 0, 1, 0, 0, 1, 1, 0, 0, 1, 1] (Tryd.f83.body.getD .skip)
set_option maxRecDepth 1000000 in
set_option maxHeartbeats 16000000 in
theorem jn_r16_wp {Q : Exit → Act → World → Prop} {b o n c : Nat} {s i : Nat} {x : ByteArray} {w : World} (hs : s ≤ 10000) (hx : x.size ≤ 1000) (hN : ∀ a', Frm 75 [(0, .slice (some ⟨b, o, none⟩) n c), (1, .string ⟨#[44]⟩), (5, .int .i64 (s + x.size : Nat)), (39, .slice (some ⟨b, o, none⟩) n c), (40, .int .i64 (n : Nat)), (41, .int .i64 (i : Nat))] a' → Q .normal a' w) : ∀ ac, Frm 75 [(0, .slice (some ⟨b, o, none⟩) n c), (1, .string ⟨#[44]⟩), (5, .int .i64 (s : Nat)), (39, .slice (some ⟨b, o, none⟩) n c), (40, .int .i64 (n : Nat)), (41, .int .i64 (i : Nat)), (7, .string x)] ac → Code.wp Tryd.prog c_jn_r16 Q ac w := by
  refine frm_open ?_
  refine frame_jn ?_
  intros
  rename_i hq
  obtain ⟨-, -, e0q, e1q, e2q, e3q, e4q, e5q, e6q, -⟩ := hq
  have e0q := (Option.some.inj e0q).symm; subst e0q
  have e1q := (Option.some.inj e1q).symm; subst e1q
  have e2q := (Option.some.inj e2q).symm; subst e2q
  have e3q := (Option.some.inj e3q).symm; subst e3q
  have e4q := (Option.some.inj e4q).symm; subst e4q
  have e5q := (Option.some.inj e5q).symm; subst e5q
  have e6q := (Option.some.inj e6q).symm; subst e6q
  conv => arg 2; whnf
  have ha : (s : Int) ≤ 10000 := by omega
  have hb : (x.size : Int) ≤ 1000 := by omega
  have HN := Lib.hid hN
  clear hN
  go_wp2_with fail
  exact HN.out _ (id ⟨rfl, rfl, rfl, rfl, rfl, rfl, rfl, rfl, trivial⟩)
noncomputable def c_jn_r17 : Code := sub [1, 1, 1, 1, 0, 1, 0, 0, 1, 1, 1] (Tryd.f83.body.getD .skip)
set_option maxRecDepth 1000000 in
set_option maxHeartbeats 16000000 in
theorem jn_r17_wp {Q : Exit → Act → World → Prop} {b o n c : Nat} {s i : Nat} {w : World} (hi : i ≤ 1000) (hN : ∀ a', Frm 75 [(0, .slice (some ⟨b, o, none⟩) n c), (1, .string ⟨#[44]⟩), (5, .int .i64 (s : Nat)), (39, .slice (some ⟨b, o, none⟩) n c), (40, .int .i64 (n : Nat)), (41, .int .i64 (i + 1 : Nat))] a' → Q .normal a' w) : ∀ ac, Frm 75 [(0, .slice (some ⟨b, o, none⟩) n c), (1, .string ⟨#[44]⟩), (5, .int .i64 (s : Nat)), (39, .slice (some ⟨b, o, none⟩) n c), (40, .int .i64 (n : Nat)), (41, .int .i64 (i : Nat))] ac → Code.wp Tryd.prog c_jn_r17 Q ac w := by
  refine frm_open ?_
  refine frame_jn ?_
  intros
  rename_i hq
  obtain ⟨-, -, e0q, e1q, e2q, e3q, e4q, e5q, -⟩ := hq
  have e0q := (Option.some.inj e0q).symm; subst e0q
  have e1q := (Option.some.inj e1q).symm; subst e1q
  have e2q := (Option.some.inj e2q).symm; subst e2q
  have e3q := (Option.some.inj e3q).symm; subst e3q
  have e4q := (Option.some.inj e4q).symm; subst e4q
  have e5q := (Option.some.inj e5q).symm; subst e5q
  conv => arg 2; whnf
  have ha : (i : Int) ≤ 10000 := by omega
  have HN := Lib.hid hN
  clear hN
  go_wp2_with fail
  exact HN.out _ (id ⟨rfl, rfl, rfl, rfl, rfl, rfl, rfl, rfl, trivial⟩)
noncomputable def c_jn_r18 : Code := sub [1, 1, 1, 1, 1, 0] (Tryd.f83.body.getD .skip)
set_option maxRecDepth 1000000 in
set_option maxHeartbeats 16000000 in
theorem jn_r18_wp {Q : Exit → Act → World → Prop} {b o n c : Nat} {s : Nat} {w : World} (hN : ∀ a', Frm 75 [(0, .slice (some ⟨b, o, none⟩) n c), (1, .string ⟨#[44]⟩), (5, .int .i64 (s : Nat)), (8, .pointer (some ⟨w.heap.size, 0, none⟩))] a' → Q .normal a' (w.alloc (.cells #[.pointer none, .slice none 0 0] 84))) : ∀ ac, Frm 75 [(0, .slice (some ⟨b, o, none⟩) n c), (1, .string ⟨#[44]⟩), (5, .int .i64 (s : Nat))] ac → Code.wp Tryd.prog c_jn_r18 Q ac w := by
  refine frm_open ?_
  refine frame_jn ?_
  intros
  rename_i hq
  obtain ⟨-, -, e0q, e1q, e2q, -⟩ := hq
  have e0q := (Option.some.inj e0q).symm; subst e0q
  have e1q := (Option.some.inj e1q).symm; subst e1q
  have e2q := (Option.some.inj e2q).symm; subst e2q
  conv => arg 2; whnf
  have HN := Lib.hid hN
  clear hN
  go_wp2_with fail
  exact HN.out _ (id ⟨rfl, rfl, rfl, rfl, rfl, rfl, trivial⟩)
noncomputable def c_jn_r19 : Code := sub [1, 1, 1, 1, 1, 1, 0] (Tryd.f83.body.getD .skip)
set_option maxRecDepth 1000000 in
set_option maxHeartbeats 16000000 in
theorem jn_r19_wp {Q : Exit → Act → World → Prop} {b o n c : Nat} {s g : Nat} {w : World} (hs : s ≤ 100000) (hg : w.heap[g]? = some (.cells #[.pointer none, .slice none 0 0] 84 (0, 0))) (hN : ∀ a' w', Frm 75 [(0, .slice (some ⟨b, o, none⟩) n c), (1, .string ⟨#[44]⟩), (8, .pointer (some ⟨g, 0, none⟩))] a' → Bld g g [] w' → Below g w w' → Q .normal a' w') : ∀ ac, Frm 75 [(0, .slice (some ⟨b, o, none⟩) n c), (1, .string ⟨#[44]⟩), (5, .int .i64 (s : Nat)), (8, .pointer (some ⟨g, 0, none⟩))] ac → Code.wp Tryd.prog c_jn_r19 Q ac w := by
  refine frm_open ?_
  refine frame_jn ?_
  intros
  rename_i hq
  obtain ⟨-, -, e0q, e1q, e2q, e3q, -⟩ := hq
  have e0q := (Option.some.inj e0q).symm; subst e0q
  have e1q := (Option.some.inj e1q).symm; subst e1q
  have e2q := (Option.some.inj e2q).symm; subst e2q
  have e3q := (Option.some.inj e3q).symm; subst e3q
  conv => arg 2; whnf
  have hgr := Tryd.Builder_Grow_fresh g g s w (Nat.le_refl _) hg (by have := lt_heap hg; omega) (by omega)
  have HN := Lib.hid hN
  have HGR := Lib.hid hgr
  clear hN hgr
  clear hg
  go_wp2_with fail
  (with_reducible refine HGR.out.mono ?_)
  rintro e w1 ⟨rfl, h1, hb1⟩
  have HB1 := Lib.hid hb1
  have H1 := Lib.hid h1
  clear hb1 h1
  go_wp2_with fail
  refine HN.out _ _ (id ⟨rfl, rfl, rfl, rfl, rfl, trivial⟩) ?_ HB1.out
  obtain ⟨hB, v, hh, hown, hne⟩ := H1.out
  exact ⟨hB, _, v, Or.inr rfl, hh, hown⟩
noncomputable def c_jn_r20 : Code := sub [1, 1, 1, 1, 1, 1, 1, 0] (Tryd.f83.body.getD .skip)
set_option maxRecDepth 1000000 in
set_option maxHeartbeats 16000000 in
theorem jn_r20_wp {Q : Exit → Act → World → Prop} {b o n c : Nat} {g : Nat} {l : List UInt8} {x : ByteArray} {w : World} (hn : 2 ≤ n) (hx : x.size ≤ 1000) (hl : l.length ≤ 10000) (hc : w.cell? ⟨b, o, none⟩ = some (.string x)) (hbl : b < w.heap.size) (hb : Bld g g l w) (hN : ∀ a' w', Frm 75 [(0, .slice (some ⟨b, o, none⟩) n c), (1, .string ⟨#[44]⟩), (8, .pointer (some ⟨g, 0, none⟩))] a' → Bld g g (l ++ x.data.toList) w' → KeepB g g w w' → Q .normal a' w') : ∀ ac, Frm 75 [(0, .slice (some ⟨b, o, none⟩) n c), (1, .string ⟨#[44]⟩), (8, .pointer (some ⟨g, 0, none⟩))] ac → Code.wp Tryd.prog c_jn_r20 Q ac w := by
  refine frm_open ?_
  refine frame_jn ?_
  intros
  rename_i hq
  obtain ⟨-, -, e0q, e1q, e2q, -⟩ := hq
  have e0q := (Option.some.inj e0q).symm; subst e0q
  have e1q := (Option.some.inj e1q).symm; subst e1q
  have e2q := (Option.some.inj e2q).symm; subst e2q
  conv => arg 2; whnf
  have hwr := writeString_any g g l x w hb (by omega)
  have HN := Lib.hid hN
  have HWR := Lib.hid hwr
  clear hN hwr
  have q1 : (0 : Int) < (n : Int) := by omega
  clear hb
  go_wp2_with fail
  (with_reducible refine HWR.out.mono ?_)
  rintro e w1 ⟨rfl, h1, hk1⟩
  have HK1 := Lib.hid hk1
  have H1 := Lib.hid h1
  clear hk1 h1
  go_wp2_with fail
  exact HN.out _ _ (id ⟨rfl, rfl, rfl, rfl, rfl, trivial⟩) H1.out HK1.out
noncomputable def c_jn_r21 : Code := sub [1, 1, 1, 1, 1, 1, 1, 1, 0, 0] (Tryd.f83.body.getD .skip)
set_option maxRecDepth 1000000 in
set_option maxHeartbeats 16000000 in
theorem jn_r21_wp {Q : Exit → Act → World → Prop} {b o n c : Nat} {g : Nat} {w : World} (hn : 2 ≤ n) (hnc : n ≤ c) (hN : ∀ a', Frm 75 [(0, .slice (some ⟨b, o, none⟩) n c), (1, .string ⟨#[44]⟩), (8, .pointer (some ⟨g, 0, none⟩)), (63, .slice (some ⟨b, o + 1, none⟩) (n - 1) (c - 1)), (64, .int .i64 (n - 1 : Nat)), (65, .int .i64 (0 : Nat))] a' → Q .normal a' w) : ∀ ac, Frm 75 [(0, .slice (some ⟨b, o, none⟩) n c), (1, .string ⟨#[44]⟩), (8, .pointer (some ⟨g, 0, none⟩))] ac → Code.wp Tryd.prog c_jn_r21 Q ac w := by
  refine frm_open ?_
  refine frame_jn ?_
  intros
  rename_i hq
  obtain ⟨-, -, e0q, e1q, e2q, -⟩ := hq
  have e0q := (Option.some.inj e0q).symm; subst e0q
  have e1q := (Option.some.inj e1q).symm; subst e1q
  have e2q := (Option.some.inj e2q).symm; subst e2q
  conv => arg 2; whnf
  have q1 : (1 : Int) ≤ (n : Int) := by omega
  have q2 : (n : Int) ≤ (c : Int) := by omega
  have HN := Lib.hid hN
  clear hN
  go_wp2_with fail
  exact HN.out _ (id ⟨rfl, rfl, rfl, rfl, rfl, rfl, rfl, rfl, trivial⟩)
noncomputable def c_jn_r22 : Code := sub [1, 1, 1, 1, 1, 1, 1, 1, 0, 1, 0, 0, 0] (Tryd.f83.body.getD .skip)
set_option maxRecDepth 1000000 in
set_option maxHeartbeats 16000000 in
theorem jn_r22_wp {Q : Exit → Act → World → Prop} {b o n c : Nat} {g i : Nat} {w : World} (hN : ∀ a', Frm 75 [(0, .slice (some ⟨b, o, none⟩) n c), (1, .string ⟨#[44]⟩), (8, .pointer (some ⟨g, 0, none⟩)), (63, .slice (some ⟨b, o + 1, none⟩) (n - 1) (c - 1)), (64, .int .i64 (n - 1 : Nat)), (65, .int .i64 (i : Nat)), (66, .bool (decide (i < (n - 1))))] a' → Q .normal a' w) : ∀ ac, Frm 75 [(0, .slice (some ⟨b, o, none⟩) n c), (1, .string ⟨#[44]⟩), (8, .pointer (some ⟨g, 0, none⟩)), (63, .slice (some ⟨b, o + 1, none⟩) (n - 1) (c - 1)), (64, .int .i64 (n - 1 : Nat)), (65, .int .i64 (i : Nat))] ac → Code.wp Tryd.prog c_jn_r22 Q ac w := by
  refine frm_open ?_
  refine frame_jn ?_
  intros
  rename_i hq
  obtain ⟨-, -, e0q, e1q, e2q, e3q, e4q, e5q, -⟩ := hq
  have e0q := (Option.some.inj e0q).symm; subst e0q
  have e1q := (Option.some.inj e1q).symm; subst e1q
  have e2q := (Option.some.inj e2q).symm; subst e2q
  have e3q := (Option.some.inj e3q).symm; subst e3q
  have e4q := (Option.some.inj e4q).symm; subst e4q
  have e5q := (Option.some.inj e5q).symm; subst e5q
  conv => arg 2; whnf
  by_cases h : i < (n - 1)
  · have t1 : decide ((i : Int) < ((n - 1) : Nat)) = true := decide_eq_true (by omega)
    have t2 : decide (i < (n - 1)) = true := decide_eq_true h
    rw [t2] at hN
    clear h
    have HN := Lib.hid hN
    clear hN
    go_wp2_with fail
    exact HN.out _ (id ⟨rfl, rfl, rfl, rfl, rfl, rfl, rfl, rfl, rfl, trivial⟩)
  · have t1 : decide ((i : Int) < ((n - 1) : Nat)) = false := decide_eq_false (by omega)
    have t2 : decide (i < (n - 1)) = false := decide_eq_false h
    rw [t2] at hN
    clear h
    have HN := Lib.hid hN
    clear hN
    go_wp2_with fail
    exact HN.out _ (id ⟨rfl, rfl, rfl, rfl, rfl, rfl, rfl, rfl, rfl, trivial⟩)
noncomputable def c_jn_r23 : Code := sub [1, 1, 1, 1, 1, 1, 1, 1, 0, 1, 0, 0, 1, 1, 0, 0, 0] (Tryd.f83.body.getD .skip)
set_option maxRecDepth 1000000 in
set_option maxHeartbeats 16000000 in
theorem jn_r23_wp {Q : Exit → Act → World → Prop} {b o n c : Nat} {g i : Nat} {x : ByteArray} {w : World} (hi : i < n - 1) (hc : w.cell? ⟨b, o + 1 + i, none⟩ = some (.string x)) (hbl : b < w.heap.size) (hN : ∀ a', Frm 75 [(0, .slice (some ⟨b, o, none⟩) n c), (1, .string ⟨#[44]⟩), (8, .pointer (some ⟨g, 0, none⟩)), (63, .slice (some ⟨b, o + 1, none⟩) (n - 1) (c - 1)), (64, .int .i64 (n - 1 : Nat)), (65, .int .i64 (i : Nat)), (10, .string x)] a' → Q .normal a' w) : ∀ ac, Frm 75 [(0, .slice (some ⟨b, o, none⟩) n c), (1, .string ⟨#[44]⟩), (8, .pointer (some ⟨g, 0, none⟩)), (63, .slice (some ⟨b, o + 1, none⟩) (n - 1) (c - 1)), (64, .int .i64 (n - 1 : Nat)), (65, .int .i64 (i : Nat))] ac → Code.wp Tryd.prog c_jn_r23 Q ac w := by
  refine frm_open ?_
  refine frame_jn ?_
  intros
  rename_i hq
  obtain ⟨-, -, e0q, e1q, e2q, e3q, e4q, e5q, -⟩ := hq
  have e0q := (Option.some.inj e0q).symm; subst e0q
  have e1q := (Option.some.inj e1q).symm; subst e1q
  have e2q := (Option.some.inj e2q).symm; subst e2q
  have e3q := (Option.some.inj e3q).symm; subst e3q
  have e4q := (Option.some.inj e4q).symm; subst e4q
  have e5q := (Option.some.inj e5q).symm; subst e5q
  conv => arg 2; whnf
  have q0 : (0 : Int) ≤ (i : Int) := by omega
  have q1 : (i : Int) < ((n - 1 : Nat) : Int) := by omega
  have q2 : i < n - 1 := hi
  have HN := Lib.hid hN
  clear hN
  go_wp2_with fail
  exact HN.out _ (id ⟨rfl, rfl, rfl, rfl, rfl, rfl, rfl, rfl, rfl, trivial⟩)
noncomputable def c_jn_r24 : Code := sub [1, 1, 1, 1, 1, 1, 1, 1, 0, 1, 0, 0, 1, 1, 0, 0, 1, 0] (Tryd.f83.body.getD .skip)
set_option maxRecDepth 1000000 in
set_option maxHeartbeats 16000000 in
theorem jn_r24_wp {Q : Exit → Act → World → Prop} {b o n c : Nat} {g i : Nat} {l : List UInt8} {x : ByteArray} {w : World} (hl : l.length ≤ 10000) (hb : Bld g g l w) (hN : ∀ a' w', Frm 75 [(0, .slice (some ⟨b, o, none⟩) n c), (1, .string ⟨#[44]⟩), (8, .pointer (some ⟨g, 0, none⟩)), (63, .slice (some ⟨b, o + 1, none⟩) (n - 1) (c - 1)), (64, .int .i64 (n - 1 : Nat)), (65, .int .i64 (i : Nat)), (10, .string x)] a' → Bld g g (l ++ (⟨#[44]⟩ : ByteArray).data.toList) w' → KeepB g g w w' → Q .normal a' w') : ∀ ac, Frm 75 [(0, .slice (some ⟨b, o, none⟩) n c), (1, .string ⟨#[44]⟩), (8, .pointer (some ⟨g, 0, none⟩)), (63, .slice (some ⟨b, o + 1, none⟩) (n - 1) (c - 1)), (64, .int .i64 (n - 1 : Nat)), (65, .int .i64 (i : Nat)), (10, .string x)] ac → Code.wp Tryd.prog c_jn_r24 Q ac w := by
  refine frm_open ?_
  refine frame_jn ?_
  intros
  rename_i hq
  obtain ⟨-, -, e0q, e1q, e2q, e3q, e4q, e5q, e6q, -⟩ := hq
  have e0q := (Option.some.inj e0q).symm; subst e0q
  have e1q := (Option.some.inj e1q).symm; subst e1q
  have e2q := (Option.some.inj e2q).symm; subst e2q
  have e3q := (Option.some.inj e3q).symm; subst e3q
  have e4q := (Option.some.inj e4q).symm; subst e4q
  have e5q := (Option.some.inj e5q).symm; subst e5q
  have e6q := (Option.some.inj e6q).symm; subst e6q
  conv => arg 2; whnf
  have hwr := writeString_any g g l (⟨#[44]⟩ : ByteArray) w hb (by have : (⟨#[44]⟩ : ByteArray).size = 1 := rfl; omega)
  have HN := Lib.hid hN
  have HWR := Lib.hid hwr
  clear hN hwr
  clear hb
  go_wp2_with fail
  (with_reducible refine HWR.out.mono ?_)
  rintro e w1 ⟨rfl, h1, hk1⟩
  have HK1 := Lib.hid hk1
  have H1 := Lib.hid h1
  clear hk1 h1
  go_wp2_with fail
  exact HN.out _ _ (id ⟨rfl, rfl, rfl, rfl, rfl, rfl, rfl, rfl, rfl, trivial⟩) H1.out HK1.out
noncomputable def c_jn_r25 : Code := sub [1, 1, 1, 1, 1, 1, 1, 1, 0, 1, 0, 0, 1, 1, 0, 0, 1, 1] (Tryd.f83.body.getD .skip)
set_option maxRecDepth 1000000 in
set_option maxHeartbeats 16000000 in
theorem jn_r25_wp {Q : Exit → Act → World → Prop} {b o n c : Nat} {g i : Nat} {l : List UInt8} {x : ByteArray} {w : World} (hx : x.size ≤ 1000) (hl : l.length ≤ 10000) (hb : Bld g g l w) (hN : ∀ a' w', Frm 75 [(0, .slice (some ⟨b, o, none⟩) n c), (1, .string ⟨#[44]⟩), (8, .pointer (some ⟨g, 0, none⟩)), (63, .slice (some ⟨b, o + 1, none⟩) (n - 1) (c - 1)), (64, .int .i64 (n - 1 : Nat)), (65, .int .i64 (i : Nat))] a' → Bld g g (l ++ x.data.toList) w' → KeepB g g w w' → Q .normal a' w') : ∀ ac, Frm 75 [(0, .slice (some ⟨b, o, none⟩) n c), (1, .string ⟨#[44]⟩), (8, .pointer (some ⟨g, 0, none⟩)), (63, .slice (some ⟨b, o + 1, none⟩) (n - 1) (c - 1)), (64, .int .i64 (n - 1 : Nat)), (65, .int .i64 (i : Nat)), (10, .string x)] ac → Code.wp Tryd.prog c_jn_r25 Q ac w := by
  refine frm_open ?_
  refine frame_jn ?_
  intros
  rename_i hq
  obtain ⟨-, -, e0q, e1q, e2q, e3q, e4q, e5q, e6q, -⟩ := hq
  have e0q := (Option.some.inj e0q).symm; subst e0q
  have e1q := (Option.some.inj e1q).symm; subst e1q
  have e2q := (Option.some.inj e2q).symm; subst e2q
  have e3q := (Option.some.inj e3q).symm; subst e3q
  have e4q := (Option.some.inj e4q).symm; subst e4q
  have e5q := (Option.some.inj e5q).symm; subst e5q
  have e6q := (Option.some.inj e6q).symm; subst e6q
  conv => arg 2; whnf
  have hwr := writeString_any g g l x w hb (by omega)
  have HN := Lib.hid hN
  have HWR := Lib.hid hwr
  clear hN hwr
  clear hb
  go_wp2_with fail
  (with_reducible refine HWR.out.mono ?_)
  rintro e w1 ⟨rfl, h1, hk1⟩
  have HK1 := Lib.hid hk1
  have H1 := Lib.hid h1
  clear hk1 h1
  go_wp2_with fail
  exact HN.out _ _ (id ⟨rfl, rfl, rfl, rfl, rfl, rfl, rfl, rfl, trivial⟩) H1.out HK1.out
noncomputable def c_jn_r26 : Code := sub [1, 1, 1, 1, 1, 1, 1, 1, 0, 1, 0, 0, 1, 1, 1] (Tryd.f83.body.getD .skip)
set_option maxRecDepth 1000000 in
set_option maxHeartbeats 16000000 in
theorem jn_r26_wp {Q : Exit → Act → World → Prop} {b o n c : Nat} {g i : Nat} {w : World} (hi : i ≤ 1000) (hN : ∀ a', Frm 75 [(0, .slice (some ⟨b, o, none⟩) n c), (1, .string ⟨#[44]⟩), (8, .pointer (some ⟨g, 0, none⟩)), (63, .slice (some ⟨b, o + 1, none⟩) (n - 1) (c - 1)), (64, .int .i64 (n - 1 : Nat)), (65, .int .i64 (i + 1 : Nat))] a' → Q .normal a' w) : ∀ ac, Frm 75 [(0, .slice (some ⟨b, o, none⟩) n c), (1, .string ⟨#[44]⟩), (8, .pointer (some ⟨g, 0, none⟩)), (63, .slice (some ⟨b, o + 1, none⟩) (n - 1) (c - 1)), (64, .int .i64 (n - 1 : Nat)), (65, .int .i64 (i : Nat))] ac → Code.wp Tryd.prog c_jn_r26 Q ac w := by
  refine frm_open ?_
  refine frame_jn ?_
  intros
  rename_i hq
  obtain ⟨-, -, e0q, e1q, e2q, e3q, e4q, e5q, -⟩ := hq
  have e0q := (Option.some.inj e0q).symm; subst e0q
  have e1q := (Option.some.inj e1q).symm; subst e1q
  have e2q := (Option.some.inj e2q).symm; subst e2q
  have e3q := (Option.some.inj e3q).symm; subst e3q
  have e4q := (Option.some.inj e4q).symm; subst e4q
  have e5q := (Option.some.inj e5q).symm; subst e5q
  conv => arg 2; whnf
  have ha : (i : Int) ≤ 10000 := by omega
  have HN := Lib.hid hN
  clear hN
  go_wp2_with fail
  exact HN.out _ (id ⟨rfl, rfl, rfl, rfl, rfl, rfl, rfl, rfl, trivial⟩)
noncomputable def c_jn_r27 : Code := sub [1, 1, 1, 1, 1, 1, 1, 1, 1, 0] (Tryd.f83.body.getD .skip)
set_option maxRecDepth 1000000 in
set_option maxHeartbeats 16000000 in
theorem jn_r27_wp {Q : Exit → Act → World → Prop} {g : Nat} {l : List UInt8} {w : World} (hb : Bld g g l w) (hN : ∀ a' w', Frm 75 [(4, .string ⟨l.toArray⟩)] a' → Below g w w' → Q .normal a' w') : ∀ ac, Frm 75 [(8, .pointer (some ⟨g, 0, none⟩))] ac → Code.wp Tryd.prog c_jn_r27 Q ac w := by
  refine frm_open ?_
  refine frame_jn ?_
  intros
  rename_i hq
  obtain ⟨-, -, e0q, -⟩ := hq
  have e0q := (Option.some.inj e0q).symm; subst e0q
  conv => arg 2; whnf
  have hst := Tryd.Builder_String_any g g l w hb.is (by obtain ⟨hB, p, v, _, hh, _⟩ := hb; have := lt_heap hh; omega)
  have HN := Lib.hid hN
  have HST := Lib.hid hst
  clear hN hst
  clear hb
  go_wp2_with fail
  (with_reducible refine HST.out.mono ?_)
  rintro e w1 ⟨rfl, hb1⟩
  have HB1 := Lib.hid hb1
  clear hb1
  go_wp2_with fail
  exact HN.out _ _ (id ⟨rfl, rfl, rfl, trivial⟩) HB1.out
set_option maxRecDepth 1000000 in
theorem jn_ret_wp {R : Ending → World → Prop} {w' : World} {x : ByteArray} (hR : R (.returned (.string x)) w') : ∀ ac, Frm 75 [(4, .string x)] ac → bodyPost Tryd.prog Tryd.f83 R .ret ac w' := by
  refine frm_open ?_
  refine frame_jn ?_
  intros
  rename_i hq
  obtain ⟨-, -, e0q, -⟩ := hq
  have e0q := (Option.some.inj e0q).symm; subst e0q
  refine bodyPost_ret (v := .string x) (by simp [results, Tryd.results83, go_sem]) rfl ?_
  exact hR
noncomputable def c_jn_l1 : Code := sub [1, 1, 1, 1, 0, 1, 0] (Tryd.f83.body.getD .skip)
set_option maxRecDepth 100000 in
set_option maxHeartbeats 4000000 in
theorem jn_l1_wp {Q : Exit → Act → World → Prop} {b o n c : Nat} {s : Nat} {w : World} {xs : List ByteArray} (hn : xs.length = n) (hn3 : n ≤ 3) (hs : s ≤ 3) (hx : ∀ a ∈ xs, a.size ≤ 1000) (hc : ∀ j (h : j < xs.length), w.cell? ⟨b, o + j, none⟩ = some (.string xs[j])) (hbl : b < w.heap.size)
    (hX : ∀ (s : Nat) a', s ≤ 10000 → Frm 75 [(0, .slice (some ⟨b, o, none⟩) n c), (1, .string ⟨#[44]⟩), (5, .int .i64 (s : Nat))] a' → Q (.exit 1) a' w) : ∀ ac, Frm 75 [(0, .slice (some ⟨b, o, none⟩) n c), (1, .string ⟨#[44]⟩), (5, .int .i64 (s : Nat)), (39, .slice (some ⟨b, o, none⟩) n c), (40, .int .i64 (n : Nat)), (41, .int .i64 (0 : Nat))] ac → Code.wp Tryd.prog c_jn_l1 Q ac w := by
  intro a0 hf0
  conv => arg 2; whnf
  refine wp_loopR (fun g a' w' => ∃ j s : Nat, j + g = n ∧ s ≤ 3 + 1000 * j ∧ w' = w ∧ Frm 75 [(0, .slice (some ⟨b, o, none⟩) n c), (1, .string ⟨#[44]⟩), (5, .int .i64 (s : Nat)), (39, .slice (some ⟨b, o, none⟩) n c), (40, .int .i64 (n : Nat)), (41, .int .i64 (j : Nat))] a') n ⟨0, s, by omega, by omega, rfl, hf0⟩ ?_
  rintro g a1 w1 ⟨j, s1, hjg, hs1, rfl, h1⟩
  refine wp_seq ?_
  refine jn_r12_wp (fun a2 h2 => ?_) a1 h1
  refine wp_seq ?_
  by_cases hj : j < n
  case neg =>
    refine wp_cond_false ((h2.eval (k := 42) (v := .bool (decide (j < n))) (by simp)).trans (by rw [decide_eq_false hj])) ?_
    exact wp_exit (hX s1 a2 (by omega) ⟨h2.1, h2.2.1, h2.2.2.1, h2.2.2.2.1, h2.2.2.2.2.1, trivial⟩)
  refine wp_cond_true ((h2.eval (k := 42) (v := .bool (decide (j < n))) (by simp)).trans (by rw [decide_eq_true hj])) ?_
  refine wp_skip ?_
  show Code.wp _ _ _ a2 w1
  have hjl : j < xs.length := by omega
  have hxs := hx xs[j] (List.getElem_mem hjl)
  refine wp_seq ?_
  refine wp_block ?_
  refine wp_seq ?_
  refine jn_r13_wp hj (hc j hjl) hbl (fun a3 h3 => ?_) a2 ⟨h2.1, h2.2.1, h2.2.2.1, h2.2.2.2.1, h2.2.2.2.2.1, h2.2.2.2.2.2.1, h2.2.2.2.2.2.2.1, h2.2.2.2.2.2.2.2.1, trivial⟩
  refine wp_seq ?_
  refine wp_seq ?_
  refine jn_r14_wp (by omega) hxs (fun a4 h4 => ?_) a3 h3
  refine wp_cond_false ((h4.eval (k := 49) (v := .bool false) (by simp)).trans rfl) ?_
  refine wp_skip ?_
  show Code.wp _ _ _ a4 w1
  refine jn_r16_wp (by omega) hxs (fun a5 h5 => ?_) a4 ⟨h4.1, h4.2.1, h4.2.2.1, h4.2.2.2.1, h4.2.2.2.2.1, h4.2.2.2.2.2.1, h4.2.2.2.2.2.2.1, h4.2.2.2.2.2.2.2.1, h4.2.2.2.2.2.2.2.2.1, trivial⟩
  show Code.wp _ _ _ a5 w1
  refine jn_r17_wp (by omega) (fun a6 h6 => ?_) a5 h5
  exact ⟨g - 1, by omega, j + 1, _, by omega, by omega, rfl, h6⟩
theorem tail_take (xs : List ByteArray) (j : Nat) (h : j + 1 < xs.length) : ((xs.tail.take (j + 1)).map (fun a => 44 :: a.data.toList)).flatten = ((xs.tail.take j).map (fun a => 44 :: a.data.toList)).flatten ++ (44 :: xs[j + 1].data.toList) := by
  have hl : j < xs.tail.length := by simp; omega
  rw [List.take_succ_eq_append_getElem hl]
  simp
theorem wordsT_flat : ∀ (a : ByteArray) (l : List ByteArray), wordsT (a :: l) = a.data.toList ++ (l.map (fun a => 44 :: a.data.toList)).flatten
  | a, [] => by simp [wordsT]
  | a, b :: l => by
    simp only [wordsT, List.map_cons, List.flatten_cons]
    rw [wordsT_flat b l]
    simp
theorem flat_len (l : List ByteArray) (h : ∀ a ∈ l, a.size ≤ 1000) : ((l.map (fun a => 44 :: a.data.toList)).flatten).length ≤ 1001 * l.length := by
  induction l with
  | nil => simp
  | cons a l ih =>
    have h1 := h a (by simp)
    have h2 := ih (fun x hx => h x (by simp [hx]))
    have h3 : a.data.toList.length = a.size := by rw [Array.length_toList]; rfl
    simp only [List.map_cons, List.flatten_cons, List.length_append, List.length_cons]
    omega
noncomputable def c_jn_l3 : Code := sub [1, 1, 1, 1, 1, 1, 1, 1, 0, 1, 0] (Tryd.f83.body.getD .skip)
set_option maxRecDepth 100000 in
set_option maxHeartbeats 4000000 in
theorem jn_l3_wp {Q : Exit → Act → World → Prop} {b o n c : Nat} {g : Nat} {l : List UInt8} {w : World} {xs : List ByteArray} (hn : xs.length = n) (hn2 : 2 ≤ n) (hn3 : n ≤ 3) (hx : ∀ a ∈ xs, a.size ≤ 1000) (hl : l.length ≤ 1000) (hc : ∀ j (h : j < xs.length), w.cell? ⟨b, o + j, none⟩ = some (.string xs[j])) (hbl : b < g) (hgw : g < w.heap.size) (hb : Bld g g l w)
    (hX : ∀ a' w', Frm 75 [(8, .pointer (some ⟨g, 0, none⟩))] a' → Bld g g (l ++ (xs.tail.map (fun a => 44 :: a.data.toList)).flatten) w' → KeepB g g w w' → Q (.exit 3) a' w') : ∀ ac, Frm 75 [(0, .slice (some ⟨b, o, none⟩) n c), (1, .string ⟨#[44]⟩), (8, .pointer (some ⟨g, 0, none⟩)), (63, .slice (some ⟨b, o + 1, none⟩) (n - 1) (c - 1)), (64, .int .i64 (n - 1 : Nat)), (65, .int .i64 (0 : Nat))] ac → Code.wp Tryd.prog c_jn_l3 Q ac w := by
  intro a0 hf0
  conv => arg 2; whnf
  refine wp_loopR (fun q a' w' => ∃ j : Nat, j + q = n - 1 ∧ Bld g g (l ++ ((xs.tail.take j).map (fun a => 44 :: a.data.toList)).flatten) w' ∧ KeepB g g w w' ∧ Frm 75 [(0, .slice (some ⟨b, o, none⟩) n c), (1, .string ⟨#[44]⟩), (8, .pointer (some ⟨g, 0, none⟩)), (63, .slice (some ⟨b, o + 1, none⟩) (n - 1) (c - 1)), (64, .int .i64 (n - 1 : Nat)), (65, .int .i64 (j : Nat))] a') (n - 1) ⟨0, by omega, by simpa using hb, KeepB.refl _ _ _, hf0⟩ ?_
  rintro q a1 w1 ⟨j, hjg, hb1, hk1, h1⟩
  refine wp_seq ?_
  refine jn_r22_wp (fun a2 h2 => ?_) a1 h1
  refine wp_seq ?_
  by_cases hj : j < n - 1
  case neg =>
    refine wp_cond_false ((h2.eval (k := 66) (v := .bool (decide (j < n - 1))) (by simp)).trans (by rw [decide_eq_false hj])) ?_
    refine wp_exit (hX a2 w1 ⟨h2.1, h2.2.1, h2.2.2.2.2.1, trivial⟩ ?_ hk1)
    rwa [List.take_of_length_le (by simp; omega)] at hb1
  refine wp_cond_true ((h2.eval (k := 66) (v := .bool (decide (j < n - 1))) (by simp)).trans (by rw [decide_eq_true hj])) ?_
  refine wp_skip ?_
  show Code.wp _ _ _ a2 w1
  have hjl : j + 1 < xs.length := by omega
  have hxs := hx xs[j + 1] (List.getElem_mem hjl)
  have hk1b : w1.heap[b]? = w.heap[b]? := hk1.block b (by omega) (by omega) (Or.inl hbl)
  have hc1 : w1.cell? ⟨b, o + 1 + j, none⟩ = some (.string xs[j + 1]) := (cell_keep hk1b _).trans (by rw [show o + 1 + j = o + (j + 1) by omega]; exact hc (j + 1) hjl)
  have hfl := flat_len (xs.tail.take j) (fun a ha => hx a (List.mem_of_mem_tail (List.mem_of_mem_take ha)))
  have hfl2 : (xs.tail.take j).length ≤ 3 := by simp; omega
  have hlen1 : (l ++ ((xs.tail.take j).map (fun a => 44 :: a.data.toList)).flatten).length ≤ 5000 := by rw [List.length_append]; omega
  refine wp_seq ?_
  refine wp_block ?_
  refine wp_seq ?_
  refine jn_r23_wp hj hc1 (by have := hk1.size; omega) (fun a3 h3 => ?_) a2 ⟨h2.1, h2.2.1, h2.2.2.1, h2.2.2.2.1, h2.2.2.2.2.1, h2.2.2.2.2.2.1, h2.2.2.2.2.2.2.1, h2.2.2.2.2.2.2.2.1, trivial⟩
  refine wp_seq ?_
  refine jn_r24_wp (by omega) hb1 (fun a4 w4 h4 hb4 hk4 => ?_) a3 h3
  refine jn_r25_wp hxs (by rw [List.length_append]; have : (⟨#[44]⟩ : ByteArray).data.toList.length = 1 := rfl; omega) hb4 (fun a5 w5 h5 hb5 hk5 => ?_) a4 h4
  show Code.wp _ _ _ a5 w5
  refine jn_r26_wp (by omega) (fun a6 h6 => ?_) a5 h5
  refine ⟨q - 1, by omega, j + 1, by omega, ?_, hk1.trans (hk4.trans hk5), h6⟩
  rw [tail_take xs j hjl]
  simpa [List.append_assoc] using hb5
noncomputable def c_jn_rest : Code := sub [1, 1] (Tryd.f83.body.getD .skip)
set_option maxRecDepth 100000 in
set_option maxHeartbeats 4000000 in
theorem join_many (xs : List ByteArray) (b o n c : Nat) (w : World) (hn : xs.length = n) (hn2 : n = 2 ∨ n = 3) (hnc : n ≤ c) (hx : ∀ a ∈ xs, a.size ≤ 1000) (hc : ∀ j (h : j < xs.length), w.cell? ⟨b, o + j, none⟩ = some (.string xs[j])) (hbl : b < w.heap.size) :
    Calls Tryd.prog 83 #[.slice (some ⟨b, o, none⟩) n c, .string ⟨#[44]⟩] w fun e w' => e = .returned (.string ⟨(wordsT xs).toArray⟩) ∧ Below w.heap.size w w' := by
  go_enter Tryd.func83, Tryd.ntmps83
  refine wp_seq ?_
  refine jn_r0_wp (fun a1 h1 => ?_) _ (id ⟨rfl, rfl, rfl, rfl, trivial⟩)
  refine wp_seq ?_
  refine wp_seq ?_
  refine jn_r1_wp (fun a2 h2 => ?_) a1 h1
  refine wp_block ?_
  refine wp_seq ?_
  refine jn_r2_wp (by omega) (fun a3 h3 => ?_) a2 h2
  refine wp_cond_false ((h3.eval (k := 13) (v := .bool false) (by simp)).trans rfl) ?_
  refine wp_seq ?_
  refine jn_r4_wp (by omega) (fun a4 h4 => ?_) a3 ⟨h3.1, h3.2.1, h3.2.2.1, h3.2.2.2.1, h3.2.2.2.2.1, trivial⟩
  refine wp_cond_false ((h4.eval (k := 15) (v := .bool false) (by simp)).trans rfl) ?_
  refine wp_skip ?_
  show Code.wp _ _ _ a4 w
  refine wp_seq ?_
  refine jn_r6_wp (fun a5 h5 => ?_) a4 ⟨h4.1, h4.2.1, h4.2.2.1, h4.2.2.2.1, trivial⟩
  refine wp_seq ?_
  refine wp_seq ?_
  refine jn_r7_wp (fun a6 h6 => ?_) a5 h5
  refine wp_cond_true ((h6.eval (k := 22) (v := .bool true) (by simp)).trans rfl) ?_
  refine wp_seq ?_
  refine wp_seq ?_
  refine jn_r8_wp hn2 (fun a7 h7 => ?_) a6 ⟨h6.1, h6.2.1, h6.2.2.1, h6.2.2.2.1, h6.2.2.2.2.1, trivial⟩
  refine wp_cond_false ((h7.eval (k := 29) (v := .bool false) (by simp)).trans rfl) ?_
  refine wp_skip ?_
  show Code.wp _ _ _ a7 w
  refine jn_r10_wp hn2 (fun s a8 hs h8 => ?_) a7 ⟨h7.1, h7.2.1, h7.2.2.1, h7.2.2.2.1, h7.2.2.2.2.1, trivial⟩
  show Code.wp _ _ _ a8 w
  refine wp_seq ?_
  refine wp_seq ?_
  refine jn_r11_wp (fun a9 h9 => ?_) a8 h8
  refine wp_block ?_
  refine jn_l1_wp hn (by omega) hs hx hc hbl (fun s2 a10 hs2 h10 => ?_) a9 h9
  refine inBlock_exit ?_
  show Code.wp _ _ _ a10 w
  refine wp_seq ?_
  refine jn_r18_wp (fun a11 h11 => ?_) a10 h10
  have hg0 := heap_alloc_new w (.cells #[.pointer none, .slice none 0 0] 84)
  have hz0 : (w.alloc (.cells #[.pointer none, .slice none 0 0] 84)).heap.size = w.heap.size + 1 := by simp
  have hbw : Below w.heap.size w (w.alloc (.cells #[.pointer none, .slice none 0 0] 84)) := (Below.refl _ _).alloc (Nat.le_refl _) _
  generalize w.alloc (.cells #[.pointer none, .slice none 0 0] 84) = w1 at hg0 hz0 hbw ⊢
  refine wp_seq ?_
  refine jn_r19_wp (by omega) hg0 (fun a12 w2 h12 hb2 hbl2 => ?_) a11 h11
  have hbw2 := hbw.trans hbl2
  have hc2 : ∀ j (h : j < xs.length), w2.cell? ⟨b, o + j, none⟩ = some (.string xs[j]) := fun j h => (cell_keep (hbw2.block b hbl) _).trans (hc j h)
  have hsz2 : w.heap.size < w2.heap.size := by have := hbl2.size; omega
  have hx0 := hx xs[0] (List.getElem_mem (by omega))
  refine wp_seq ?_
  refine jn_r20_wp (by omega) hx0 (by simp) (by first | (simp; done) | (have := hc2 0 (by omega); simpa using this)) (by omega) hb2 (fun a13 w3 h13 hb3 hk3 => ?_) a12 h12
  have hsz3 := hk3.size
  have hbl3 : Below w.heap.size w w3 := hbw2.trans (hk3.below (Nat.le_refl _) (by omega))
  have hc3 : ∀ j (h : j < xs.length), w3.cell? ⟨b, o + j, none⟩ = some (.string xs[j]) := fun j h => (cell_keep (hbl3.block b hbl) _).trans (hc j h)
  refine wp_seq ?_
  refine wp_seq ?_
  refine jn_r21_wp (by omega) hnc (fun a14 h14 => ?_) a13 h13
  refine wp_block ?_
  refine jn_l3_wp hn (by omega) (by omega) hx (by have : xs[0].data.toList.length = xs[0].size := (by rw [Array.length_toList]; rfl); simp only [List.nil_append]; omega) hc3 hbl (by omega) hb3 (fun a15 w4 h15 hb4 hk4 => ?_) a14 h14
  refine inBlock_exit ?_
  show Code.wp _ _ _ a15 w4
  have hbl4 : Below w.heap.size w w4 := hbl3.trans (hk4.below (Nat.le_refl _) (by omega))
  refine wp_seq ?_
  refine jn_r27_wp hb4 (fun a16 w5 h16 hb5 => ?_) a15 h15
  refine wp_ret ?_
  refine jn_ret_wp ⟨?_, hbl4.trans hb5⟩ a16 h16
  congr 2
  match xs, hn with
  | a :: l, _ => rw [wordsT_flat a l]; simp
set_option maxRecDepth 100000 in
set_option maxHeartbeats 4000000 in
theorem join_any (xs : List ByteArray) (A : Option Addr) (n c : Nat) (w : World) (S : Nat → Prop) (hv : strRep.Sl w S (.slice A n c) xs) (hnc : n ≤ c) (hn3 : xs.length ≤ 3) (hx : ∀ a ∈ xs, a.size ≤ 1000) (hS : ∀ b, S b → b < w.heap.size) :
    Calls Tryd.prog 83 #[.slice A n c, .string ⟨#[44]⟩] w fun e w' => e = .returned (.string ⟨(wordsT xs).toArray⟩) ∧ Below w.heap.size w w' := by
  have HV := Lib.hid hv
  obtain ⟨A', n', c', e, hl, _, _⟩ := hv
  injection e with e1 e2 e3
  subst e1 e2 e3
  match xs, hl with
  | [], hl =>
    obtain rfl : n = 0 := hl.symm
    clear hS hx hn3 hnc
    go_enter Tryd.func83, Tryd.ntmps83
    go_wp2_with fail
    go_returns
    exact ⟨rfl, Below.refl _ _⟩
  | [a], hl =>
    obtain rfl : n = 1 := hl.symm
    obtain ⟨b, o, cs, rfl, hSb, ⟨rfl, _⟩, hc⟩ := Rep.Sl.at_ HV.out (k := 0) (a := a) rfl
    have hc0 : w.cell? ⟨b, o, none⟩ = some (.string a) := by simpa [strRep] using hc 0 _ rfl
    have hbl := hS b hSb
    have he : (⟨(wordsT [a]).toArray⟩ : ByteArray) = a := bytes_eqF (by simp [wordsT])
    rw [he]
    clear hS hx hn3 hnc hc he
    go_enter Tryd.func83, Tryd.ntmps83
    go_wp2_with fail
    go_returns
    exact ⟨rfl, Below.refl _ _⟩
  | a :: a2 :: r, hl =>
    obtain ⟨b, o, cs, rfl, hSb, _, _⟩ := Rep.Sl.at_ HV.out (k := 0) (a := a) rfl
    refine join_many (a :: a2 :: r) b o n c w hl (by simp at hl hn3; omega) hnc hx (fun j h => ?_) (hS b hSb)
    obtain ⟨b', o', cs', e', _, ⟨rfl, _⟩, hc⟩ := Rep.Sl.at_ HV.out (List.getElem?_eq_getElem h)
    simp only [Option.some.injEq, Addr.mk.injEq, and_true] at e'
    obtain ⟨rfl, rfl⟩ := e'
    simpa [strRep] using hc 0 _ rfl

end Go.Proofs.YtdofemkfmkopcaaDoor
