/-
  The statement TruthOfCanonicalCardSaid is proved: whatever its arguments, the law TruthOfCanonical returns true, and they read afterwards as before.
  Conditions: those of the given row alone (the listed variables are laid as the program's text lays them; the card ties that).
-/
import Derived.Test.YtflcbbikfdahhaaDoorCkA
import Derived.Test.YtflcbbikfdahhaaDoorName
import Derived.Test.YtflcbbikfdahhaaDoorFm
import Derived.Test.YtflcbbikfdahhaaDoorProg
import Derived.Test.YtflcbbikfdahhaaDoorMore
import Derived.Test.YtflcbbikfdahhaaDoorReps
import Derived.Test.YtflcbbikfdahhaaDoorRows
import Derived.Test.YtflcbbikfdahhaaDoorMdAt
import Derived.Test.YtflcbbikfdahhaaDoorTie
import Derived.Test.YtflcbbikfdahhaaDoorCards
import Derived.Test.YtflcbbikfdahhaaDoorKfAll
import Derived.Test.YtflcbbikfdahhaaDoorWtb
import Derived.Deep.RegionLawGrows
import Derived.Deep.RegionLaw
import Derived.ChangeArms
import Derived.ChangeSame
import Derived.Deep.Slices
import Derived.ProofKit
import Derived.LaidMore
import Derived.OpenShut
import Derived.Stop.Joined
import Derived.Lib.LaidTab
import Derived.Lib.ItoaMem
import Derived.Stop.LaidErr
import Derived.SevenTiedAt
import Derived.JoinedOf
namespace Go.Proofs.YtflcbbikfdahhaaDoor

section
open Go Go.RowKit
set_option linter.unusedSimpArgs false
set_option linter.unusedVariables false
set_option maxRecDepth 1000000 in
theorem frame_rn {P : Act → Prop} (h : ∀ x0 x1 x2 x3 x4 x5 x6 x7 x8 x9 x10 x11 x12 x13 x14 x15 x16 x17 x18 x19 x20 x21 x22 x23 x24 x25 x26 x27 x28 x29 x30 x31 x32 x33 x34 x35 x36 x37 x38 x39 x40 x41 x42 x43 x44 x45 x46 x47 x48 x49 x50 x51 x52 x53 x54 x55 x56 x57 x58 x59 x60 x61 x62 x63 x64 x65 x66 x67 x68 x69 x70 x71 x72 x73 x74 x75 x76 x77 x78 x79 x80 x81 x82 x83 x84 x85 x86 : Value, P ⟨(x0 :: x1 :: x2 :: x3 :: x4 :: x5 :: x6 :: x7 :: x8 :: x9 :: x10 :: x11 :: x12 :: x13 :: x14 :: x15 :: x16 :: x17 :: x18 :: x19 :: x20 :: x21 :: x22 :: x23 :: x24 :: x25 :: x26 :: x27 :: x28 :: x29 :: x30 :: x31 :: x32 :: x33 :: x34 :: x35 :: x36 :: x37 :: x38 :: x39 :: x40 :: x41 :: x42 :: x43 :: x44 :: x45 :: x46 :: x47 :: x48 :: x49 :: x50 :: x51 :: x52 :: x53 :: x54 :: x55 :: x56 :: x57 :: x58 :: x59 :: x60 :: x61 :: x62 :: x63 :: x64 :: x65 :: x66 :: x67 :: x68 :: x69 :: x70 :: x71 :: x72 :: x73 :: x74 :: x75 :: x76 :: x77 :: x78 :: x79 :: x80 :: x81 :: x82 :: x83 :: x84 :: x85 :: x86 :: []).toArray, []⟩) : ∀ a : Act, a.tmps.toList.length = 87 → a.defers = [] → P a := by
  rintro ⟨⟨l⟩, d⟩ hs hd
  simp only at hd
  subst hd
  revert l
  show ∀ l : List Value, l.length = 87 → P ⟨⟨l⟩, []⟩
  iterate 87 refine openS (fun _ => ?_)
  refine open0 ?_
  exact h ..
noncomputable def c_rn_r0 : Code := sub [0] (Tryd.f119.body.getD .skip)
set_option maxRecDepth 1000000 in
set_option maxHeartbeats 16000000 in
theorem rn_r0_wp {Q : Exit → Act → World → Prop} {De : Option Addr} {bn bu me ee : Nat} {wo : World} {kd : Int} {nm : ByteArray} {A B : Option Addr} {n1 c1 n2 c2 : Nat} (hN : ∀ a', Frm 87 [(1, .slice De me ee), (2, .func (Fn.func 117) #[] #[.pointer (some ⟨bn, 0, none⟩), .pointer (some ⟨bu, 0, none⟩)]), (3, .pointer (some ⟨wo.heap.size, 0, none⟩)), (6, .pointer (some ⟨wo.heap.size + 1, 0, none⟩))] a' → Q .normal a' ((wo.alloc (.cells #[.int .i64 kd, .string nm, .slice A n1 c1, .slice B n2 c2] 29)).alloc (.cells #[.int .i64 0, .string ⟨#[]⟩, .slice none 0 0, .slice none 0 0] 29))) : ∀ ac, Frm 87 [(0, .agg #[.int .i64 kd, .string nm, .slice A n1 c1, .slice B n2 c2]), (1, .slice De me ee), (2, .func (Fn.func 117) #[] #[.pointer (some ⟨bn, 0, none⟩), .pointer (some ⟨bu, 0, none⟩)])] ac → Code.wp Tryd.prog c_rn_r0 Q ac wo := by
  refine frm_open ?_
  refine frame_rn ?_
  intros
  rename_i hq
  obtain ⟨-, -, e0q, e1q, e2q, -⟩ := hq
  obtain rfl := sI e0q
  obtain rfl := sI e1q
  obtain rfl := sI e2q
  conv => arg 2; whnf
  have HN := Lib.hid hN
  clear hN
  go_wp2_with fail
  exact HN.out _ (id ⟨rfl, rfl, rfl, rfl, rfl, rfl, trivial⟩)
noncomputable def c_rn_r1 : Code := sub [1, 0] (Tryd.f119.body.getD .skip)
set_option maxRecDepth 1000000 in
set_option maxHeartbeats 16000000 in
theorem rn_r1_wp {Q : Exit → Act → World → Prop} {De : Option Addr} {bn bu me ee : Nat} {wo w : World} {kd : Int} {nm : ByteArray} {A B : Option Addr} {n1 c1 n2 c2 : Nat} (ha : w.heap[wo.heap.size]? = some (.cells #[.int .i64 kd, .string nm, .slice A n1 c1, .slice B n2 c2] 29 (0, 0))) (hN : ∀ a', Frm 87 [(1, .slice De me ee), (2, .func (Fn.func 117) #[] #[.pointer (some ⟨bn, 0, none⟩), .pointer (some ⟨bu, 0, none⟩)]), (3, .pointer (some ⟨wo.heap.size, 0, none⟩)), (6, .pointer (some ⟨wo.heap.size + 1, 0, none⟩)), (7, .pointer (some ⟨w.heap.size, 0, none⟩))] a' → Q .normal a' (w.alloc (.cells #[.int .i64 kd, .string nm, .slice none 0 0, .slice none 0 0] 29))) : ∀ ac, Frm 87 [(1, .slice De me ee), (2, .func (Fn.func 117) #[] #[.pointer (some ⟨bn, 0, none⟩), .pointer (some ⟨bu, 0, none⟩)]), (3, .pointer (some ⟨wo.heap.size, 0, none⟩)), (6, .pointer (some ⟨wo.heap.size + 1, 0, none⟩))] ac → Code.wp Tryd.prog c_rn_r1 Q ac w := by
  refine frm_open ?_
  refine frame_rn ?_
  intros
  rename_i hq
  obtain ⟨-, -, e0q, e1q, e2q, e3q, -⟩ := hq
  obtain rfl := sI e0q
  obtain rfl := sI e1q
  obtain rfl := sI e2q
  obtain rfl := sI e3q
  conv => arg 2; whnf
  have a0 := cellv ha 0 rfl
  have a1 := cellv ha 1 rfl
  have a2 := cellv ha 2 rfl
  have a3 := cellv ha 3 rfl
  have al := lt_heap ha
  clear ha
  have HN := Lib.hid hN
  clear hN
  go_wp2_with fail
  exact HN.out _ (id ⟨rfl, rfl, rfl, rfl, rfl, rfl, rfl, trivial⟩)
noncomputable def c_rn_r2 : Code := sub [1, 1, 0, 0] (Tryd.f119.body.getD .skip)
set_option maxRecDepth 1000000 in
set_option maxHeartbeats 16000000 in
theorem rn_r2_wp {Q : Exit → Act → World → Prop} {De : Option Addr} {bn bu me ee : Nat} {PP : Nat → Prop} {vw vs : Value} {ws : List ByteArray} {x : ByteArray} {wo w : World} {kd : Int} {nm : ByteArray} {A B : Option Addr} {n1 c1 n2 c2 : Nat} (hs : CY PP wo w vw ws x vs kd nm A n1 c1 B n2 c2) (hN : ∀ a', Frm 87 [(1, .slice De me ee), (2, .func (Fn.func 117) #[] #[.pointer (some ⟨bn, 0, none⟩), .pointer (some ⟨bu, 0, none⟩)]), (3, .pointer (some ⟨wo.heap.size, 0, none⟩)), (6, .pointer (some ⟨wo.heap.size + 1, 0, none⟩)), (7, .pointer (some ⟨wo.heap.size + 2, 0, none⟩)), (19, .slice A n1 c1), (20, .int .i64 (n1 : Nat)), (21, .int .i64 (0 : Nat))] a' → Q .normal a' w) : ∀ ac, Frm 87 [(1, .slice De me ee), (2, .func (Fn.func 117) #[] #[.pointer (some ⟨bn, 0, none⟩), .pointer (some ⟨bu, 0, none⟩)]), (3, .pointer (some ⟨wo.heap.size, 0, none⟩)), (6, .pointer (some ⟨wo.heap.size + 1, 0, none⟩)), (7, .pointer (some ⟨wo.heap.size + 2, 0, none⟩))] ac → Code.wp Tryd.prog c_rn_r2 Q ac w := by
  refine frm_open ?_
  refine frame_rn ?_
  intros
  rename_i hq
  obtain ⟨-, -, e0q, e1q, e2q, e3q, e4q, -⟩ := hq
  obtain rfl := sI e0q
  obtain rfl := sI e1q
  obtain rfl := sI e2q
  obtain rfl := sI e3q
  obtain rfl := sI e4q
  conv => arg 2; whnf
  have a0 := cellv hs.a 0 rfl
  have a1 := cellv hs.a 1 rfl
  have a2 := cellv hs.a 2 rfl
  have a3 := cellv hs.a 3 rfl
  have al := lt_heap hs.a
  have HS := Lib.hid hs
  clear hs
  have HN := Lib.hid hN
  clear hN
  go_wp2_with fail
  exact HN.out _ (id ⟨rfl, rfl, rfl, rfl, rfl, rfl, rfl, rfl, rfl, rfl, trivial⟩)
noncomputable def c_rn_r3 : Code := sub [1, 1, 0, 1, 0, 0, 0] (Tryd.f119.body.getD .skip)
set_option maxRecDepth 1000000 in
set_option maxHeartbeats 16000000 in
theorem rn_r3_wp {Q : Exit → Act → World → Prop} {A : Option Addr} {n1 c1 i : Nat} {wo w : World} {De : Option Addr} {bn bu me ee : Nat} (hN : ∀ a', Frm 87 [(1, .slice De me ee), (2, .func (Fn.func 117) #[] #[.pointer (some ⟨bn, 0, none⟩), .pointer (some ⟨bu, 0, none⟩)]), (3, .pointer (some ⟨wo.heap.size, 0, none⟩)), (6, .pointer (some ⟨wo.heap.size + 1, 0, none⟩)), (7, .pointer (some ⟨wo.heap.size + 2, 0, none⟩)), (19, .slice A n1 c1), (20, .int .i64 (n1 : Nat)), (21, .int .i64 (i : Nat)), (22, .bool (decide (i < n1)))] a' → Q .normal a' w) : ∀ ac, Frm 87 [(1, .slice De me ee), (2, .func (Fn.func 117) #[] #[.pointer (some ⟨bn, 0, none⟩), .pointer (some ⟨bu, 0, none⟩)]), (3, .pointer (some ⟨wo.heap.size, 0, none⟩)), (6, .pointer (some ⟨wo.heap.size + 1, 0, none⟩)), (7, .pointer (some ⟨wo.heap.size + 2, 0, none⟩)), (19, .slice A n1 c1), (20, .int .i64 (n1 : Nat)), (21, .int .i64 (i : Nat))] ac → Code.wp Tryd.prog c_rn_r3 Q ac w := by
  refine frm_open ?_
  refine frame_rn ?_
  intros
  rename_i hq
  obtain ⟨-, -, e0q, e1q, e2q, e3q, e4q, e5q, e6q, e7q, -⟩ := hq
  obtain rfl := sI e0q
  obtain rfl := sI e1q
  obtain rfl := sI e2q
  obtain rfl := sI e3q
  obtain rfl := sI e4q
  obtain rfl := sI e5q
  obtain rfl := sI e6q
  obtain rfl := sI e7q
  conv => arg 2; whnf
  by_cases h : i < n1
  · have t1 : decide ((i : Int) < (n1 : Int)) = true := by first | exact decide_eq_true (by omega) | exact beq_iff_eq.2 (by omega) | exact bne_iff_ne.2 (by omega)
    have t2 : (decide (i < n1)) = true := decide_eq_true h
    rw [t2] at hN
    clear h
    have HN := Lib.hid hN
    clear hN
    go_wp2_with fail
    exact HN.out _ (id ⟨rfl, rfl, rfl, rfl, rfl, rfl, rfl, rfl, rfl, rfl, rfl, trivial⟩)
  · have t1 : decide ((i : Int) < (n1 : Int)) = false := by first | exact decide_eq_false (by omega) | exact beq_eq_false_iff_ne.2 (by omega) | exact bne_eq_false_iff_eq.2 (by omega)
    have t2 : (decide (i < n1)) = false := decide_eq_false h
    rw [t2] at hN
    clear h
    have HN := Lib.hid hN
    clear hN
    go_wp2_with fail
    exact HN.out _ (id ⟨rfl, rfl, rfl, rfl, rfl, rfl, rfl, rfl, rfl, rfl, rfl, trivial⟩)
noncomputable def c_rn_r4 : Code := sub [1, 1, 0, 1, 0, 0, 1, 1, 0, 0, 0] (Tryd.f119.body.getD .skip)
set_option maxRecDepth 1000000 in
set_option maxHeartbeats 16000000 in
theorem rn_r4_wp {Q : Exit → Act → World → Prop} {b o n1 c1 i : Nat} {s : ByteArray} {wo w : World} {De : Option Addr} {bn bu me ee : Nat} (hi : i < n1) (hc : w.cell? ⟨b, o + i, none⟩ = some (.string s)) (hbl : b < w.heap.size) (hN : ∀ a', Frm 87 [(1, .slice De me ee), (2, .func (Fn.func 117) #[] #[.pointer (some ⟨bn, 0, none⟩), .pointer (some ⟨bu, 0, none⟩)]), (3, .pointer (some ⟨wo.heap.size, 0, none⟩)), (6, .pointer (some ⟨wo.heap.size + 1, 0, none⟩)), (7, .pointer (some ⟨wo.heap.size + 2, 0, none⟩)), (19, .slice (some ⟨b, o, none⟩) n1 c1), (20, .int .i64 (n1 : Nat)), (21, .int .i64 (i : Nat)), (9, .string s)] a' → Q .normal a' w) : ∀ ac, Frm 87 [(1, .slice De me ee), (2, .func (Fn.func 117) #[] #[.pointer (some ⟨bn, 0, none⟩), .pointer (some ⟨bu, 0, none⟩)]), (3, .pointer (some ⟨wo.heap.size, 0, none⟩)), (6, .pointer (some ⟨wo.heap.size + 1, 0, none⟩)), (7, .pointer (some ⟨wo.heap.size + 2, 0, none⟩)), (19, .slice (some ⟨b, o, none⟩) n1 c1), (20, .int .i64 (n1 : Nat)), (21, .int .i64 (i : Nat))] ac → Code.wp Tryd.prog c_rn_r4 Q ac w := by
  refine frm_open ?_
  refine frame_rn ?_
  intros
  rename_i hq
  obtain ⟨-, -, e0q, e1q, e2q, e3q, e4q, e5q, e6q, e7q, -⟩ := hq
  obtain rfl := sI e0q
  obtain rfl := sI e1q
  obtain rfl := sI e2q
  obtain rfl := sI e3q
  obtain rfl := sI e4q
  obtain rfl := sI e5q
  obtain rfl := sI e6q
  obtain rfl := sI e7q
  conv => arg 2; whnf
  have q0 : (0 : Int) ≤ (i : Int) := by omega
  have q1 : (i : Int) < (n1 : Int) := by omega
  have HN := Lib.hid hN
  clear hN
  go_wp2_with fail
  exact HN.out _ (id ⟨rfl, rfl, rfl, rfl, rfl, rfl, rfl, rfl, rfl, rfl, rfl, trivial⟩)
noncomputable def c_rn_r5 : Code := sub [1, 1, 0, 1, 0, 0, 1, 1, 0, 0, 1, 0, 0] (Tryd.f119.body.getD .skip)
set_option maxRecDepth 1000000 in
set_option maxHeartbeats 16000000 in
theorem rn_r5_wp {Q : Exit → Act → World → Prop} {s : ByteArray} {A : Option Addr} {n1 c1 i : Nat} {wo w : World} {De : Option Addr} {bn bu me ee : Nat} (hlim : me ≤ maxLen) (hN : ∀ a', Frm 87 [(1, .slice De me ee), (2, .func (Fn.func 117) #[] #[.pointer (some ⟨bn, 0, none⟩), .pointer (some ⟨bu, 0, none⟩)]), (3, .pointer (some ⟨wo.heap.size, 0, none⟩)), (6, .pointer (some ⟨wo.heap.size + 1, 0, none⟩)), (7, .pointer (some ⟨wo.heap.size + 2, 0, none⟩)), (19, .slice A n1 c1), (20, .int .i64 (n1 : Nat)), (21, .int .i64 (i : Nat)), (9, .string s), (10, .int .i64 ((me : Int) - 1))] a' → Q .normal a' w) : ∀ ac, Frm 87 [(1, .slice De me ee), (2, .func (Fn.func 117) #[] #[.pointer (some ⟨bn, 0, none⟩), .pointer (some ⟨bu, 0, none⟩)]), (3, .pointer (some ⟨wo.heap.size, 0, none⟩)), (6, .pointer (some ⟨wo.heap.size + 1, 0, none⟩)), (7, .pointer (some ⟨wo.heap.size + 2, 0, none⟩)), (19, .slice A n1 c1), (20, .int .i64 (n1 : Nat)), (21, .int .i64 (i : Nat)), (9, .string s)] ac → Code.wp Tryd.prog c_rn_r5 Q ac w := by
  refine frm_open ?_
  refine frame_rn ?_
  intros
  rename_i hq
  obtain ⟨-, -, e0q, e1q, e2q, e3q, e4q, e5q, e6q, e7q, e8q, -⟩ := hq
  obtain rfl := sI e0q
  obtain rfl := sI e1q
  obtain rfl := sI e2q
  obtain rfl := sI e3q
  obtain rfl := sI e4q
  obtain rfl := sI e5q
  obtain rfl := sI e6q
  obtain rfl := sI e7q
  obtain rfl := sI e8q
  conv => arg 2; whnf
  have q9 : (me : Int) ≤ 9223372036854775807 := by unfold maxLen at hlim; omega
  have HN := Lib.hid hN
  clear hN
  go_wp2_with fail
  exact HN.out _ (id ⟨rfl, rfl, rfl, rfl, rfl, rfl, rfl, rfl, rfl, rfl, rfl, rfl, trivial⟩)
noncomputable def c_rn_r6 : Code := sub [1, 1, 0, 1, 0, 0, 1, 1, 0, 0, 1, 0, 1, 0, 0, 0, 0] (Tryd.f119.body.getD .skip)
set_option maxRecDepth 1000000 in
set_option maxHeartbeats 16000000 in
theorem rn_r6_wp {Q : Exit → Act → World → Prop} {z : Int} {s : ByteArray} {A : Option Addr} {n1 c1 i : Nat} {wo w : World} {De : Option Addr} {bn bu me ee : Nat} (hN : ∀ a', Frm 87 [(1, .slice De me ee), (2, .func (Fn.func 117) #[] #[.pointer (some ⟨bn, 0, none⟩), .pointer (some ⟨bu, 0, none⟩)]), (3, .pointer (some ⟨wo.heap.size, 0, none⟩)), (6, .pointer (some ⟨wo.heap.size + 1, 0, none⟩)), (7, .pointer (some ⟨wo.heap.size + 2, 0, none⟩)), (19, .slice A n1 c1), (20, .int .i64 (n1 : Nat)), (21, .int .i64 (i : Nat)), (9, .string s), (10, .int .i64 z), (29, .bool (decide (0 ≤ z)))] a' → Q .normal a' w) : ∀ ac, Frm 87 [(1, .slice De me ee), (2, .func (Fn.func 117) #[] #[.pointer (some ⟨bn, 0, none⟩), .pointer (some ⟨bu, 0, none⟩)]), (3, .pointer (some ⟨wo.heap.size, 0, none⟩)), (6, .pointer (some ⟨wo.heap.size + 1, 0, none⟩)), (7, .pointer (some ⟨wo.heap.size + 2, 0, none⟩)), (19, .slice A n1 c1), (20, .int .i64 (n1 : Nat)), (21, .int .i64 (i : Nat)), (9, .string s), (10, .int .i64 z)] ac → Code.wp Tryd.prog c_rn_r6 Q ac w := by
  refine frm_open ?_
  refine frame_rn ?_
  intros
  rename_i hq
  obtain ⟨-, -, e0q, e1q, e2q, e3q, e4q, e5q, e6q, e7q, e8q, e9q, -⟩ := hq
  obtain rfl := sI e0q
  obtain rfl := sI e1q
  obtain rfl := sI e2q
  obtain rfl := sI e3q
  obtain rfl := sI e4q
  obtain rfl := sI e5q
  obtain rfl := sI e6q
  obtain rfl := sI e7q
  obtain rfl := sI e8q
  obtain rfl := sI e9q
  conv => arg 2; whnf
  by_cases h : 0 ≤ z
  · have t1 : decide (0 ≤ z) = true := by first | exact decide_eq_true (by omega) | exact beq_iff_eq.2 (by omega) | exact bne_iff_ne.2 (by omega)
    have t2 : (decide (0 ≤ z)) = true := decide_eq_true h
    rw [t2] at hN
    clear h
    have HN := Lib.hid hN
    clear hN
    go_wp2_with fail
    exact HN.out _ (id ⟨rfl, rfl, rfl, rfl, rfl, rfl, rfl, rfl, rfl, rfl, rfl, rfl, rfl, trivial⟩)
  · have t1 : decide (0 ≤ z) = false := by first | exact decide_eq_false (by omega) | exact beq_eq_false_iff_ne.2 (by omega) | exact bne_eq_false_iff_eq.2 (by omega)
    have t2 : (decide (0 ≤ z)) = false := decide_eq_false h
    rw [t2] at hN
    clear h
    have HN := Lib.hid hN
    clear hN
    go_wp2_with fail
    exact HN.out _ (id ⟨rfl, rfl, rfl, rfl, rfl, rfl, rfl, rfl, rfl, rfl, rfl, rfl, rfl, trivial⟩)
noncomputable def c_rn_r8 : Code := sub [1, 1, 0, 1, 0, 0, 1, 1, 0, 0, 1, 0, 1, 0, 0, 1, 0, 0, 0] (Tryd.f119.body.getD .skip)
set_option maxRecDepth 1000000 in
set_option maxHeartbeats 16000000 in
theorem rn_r8_wp {Q : Exit → Act → World → Prop} {b o : Nat} {y : ByteArray} {j : Nat} {s : ByteArray} {A : Option Addr} {n1 c1 i : Nat} {wo w : World} {bn bu me ee : Nat} (hj : j < me) (hc : w.cell? ⟨b, o + j * 2, none⟩ = some (.string y)) (hbl : b < w.heap.size) (hN : ∀ a', Frm 87 [(1, .slice (some ⟨b, o, none⟩) me ee), (2, .func (Fn.func 117) #[] #[.pointer (some ⟨bn, 0, none⟩), .pointer (some ⟨bu, 0, none⟩)]), (3, .pointer (some ⟨wo.heap.size, 0, none⟩)), (6, .pointer (some ⟨wo.heap.size + 1, 0, none⟩)), (7, .pointer (some ⟨wo.heap.size + 2, 0, none⟩)), (19, .slice A n1 c1), (20, .int .i64 (n1 : Nat)), (21, .int .i64 (i : Nat)), (9, .string s), (10, .int .i64 (j : Nat)), (38, .bool (decide (y = s)))] a' → Q .normal a' w) : ∀ ac, Frm 87 [(1, .slice (some ⟨b, o, none⟩) me ee), (2, .func (Fn.func 117) #[] #[.pointer (some ⟨bn, 0, none⟩), .pointer (some ⟨bu, 0, none⟩)]), (3, .pointer (some ⟨wo.heap.size, 0, none⟩)), (6, .pointer (some ⟨wo.heap.size + 1, 0, none⟩)), (7, .pointer (some ⟨wo.heap.size + 2, 0, none⟩)), (19, .slice A n1 c1), (20, .int .i64 (n1 : Nat)), (21, .int .i64 (i : Nat)), (9, .string s), (10, .int .i64 (j : Nat))] ac → Code.wp Tryd.prog c_rn_r8 Q ac w := by
  refine frm_open ?_
  refine frame_rn ?_
  intros
  rename_i hq
  obtain ⟨-, -, e0q, e1q, e2q, e3q, e4q, e5q, e6q, e7q, e8q, e9q, -⟩ := hq
  obtain rfl := sI e0q
  obtain rfl := sI e1q
  obtain rfl := sI e2q
  obtain rfl := sI e3q
  obtain rfl := sI e4q
  obtain rfl := sI e5q
  obtain rfl := sI e6q
  obtain rfl := sI e7q
  obtain rfl := sI e8q
  obtain rfl := sI e9q
  conv => arg 2; whnf
  have q0 : (0 : Int) ≤ (j : Int) := by omega
  have q1 : (j : Int) < (me : Int) := by omega
  by_cases h : y = s
  · subst h
    have t1 : (y.toList == y.toList) = true := beq_self_eq_true _
    rw [show decide (y = y) = true from decide_eq_true rfl] at hN
    have HN := Lib.hid hN
    clear hN
    go_wp2_with fail
    exact HN.out _ (id ⟨rfl, rfl, rfl, rfl, rfl, rfl, rfl, rfl, rfl, rfl, rfl, rfl, rfl, trivial⟩)
  · have t1 : (y.toList == s.toList) = false := beq_eq_false_iff_ne.2 (fun e => h (bytes_inj e))
    rw [show decide (y = s) = false from decide_eq_false h] at hN
    have HN := Lib.hid hN
    clear hN
    go_wp2_with fail
    exact HN.out _ (id ⟨rfl, rfl, rfl, rfl, rfl, rfl, rfl, rfl, rfl, rfl, rfl, rfl, rfl, trivial⟩)
noncomputable def c_rn_r9 : Code := sub [1, 1, 0, 1, 0, 0, 1, 1, 0, 0, 1, 0, 1, 0, 0, 1, 0, 0, 1, 0, 0] (Tryd.f119.body.getD .skip)
set_option maxRecDepth 1000000 in
set_option maxHeartbeats 16000000 in
theorem rn_r9_wp {Q : Exit → Act → World → Prop} {b o : Nat} {y : ByteArray} {j : Nat} {s : ByteArray} {A : Option Addr} {n1 c1 i : Nat} {wo w : World} {bn bu me ee : Nat} (hj : j < me) (hc : w.cell? ⟨b, o + j * 2 + 1, none⟩ = some (.string y)) (hbl : b < w.heap.size) (hN : ∀ a', Frm 87 [(1, .slice (some ⟨b, o, none⟩) me ee), (2, .func (Fn.func 117) #[] #[.pointer (some ⟨bn, 0, none⟩), .pointer (some ⟨bu, 0, none⟩)]), (3, .pointer (some ⟨wo.heap.size, 0, none⟩)), (6, .pointer (some ⟨wo.heap.size + 1, 0, none⟩)), (7, .pointer (some ⟨wo.heap.size + 2, 0, none⟩)), (19, .slice A n1 c1), (20, .int .i64 (n1 : Nat)), (21, .int .i64 (i : Nat)), (9, .string y)] a' → Q .normal a' w) : ∀ ac, Frm 87 [(1, .slice (some ⟨b, o, none⟩) me ee), (2, .func (Fn.func 117) #[] #[.pointer (some ⟨bn, 0, none⟩), .pointer (some ⟨bu, 0, none⟩)]), (3, .pointer (some ⟨wo.heap.size, 0, none⟩)), (6, .pointer (some ⟨wo.heap.size + 1, 0, none⟩)), (7, .pointer (some ⟨wo.heap.size + 2, 0, none⟩)), (19, .slice A n1 c1), (20, .int .i64 (n1 : Nat)), (21, .int .i64 (i : Nat)), (9, .string s), (10, .int .i64 (j : Nat))] ac → Code.wp Tryd.prog c_rn_r9 Q ac w := by
  refine frm_open ?_
  refine frame_rn ?_
  intros
  rename_i hq
  obtain ⟨-, -, e0q, e1q, e2q, e3q, e4q, e5q, e6q, e7q, e8q, e9q, -⟩ := hq
  obtain rfl := sI e0q
  obtain rfl := sI e1q
  obtain rfl := sI e2q
  obtain rfl := sI e3q
  obtain rfl := sI e4q
  obtain rfl := sI e5q
  obtain rfl := sI e6q
  obtain rfl := sI e7q
  obtain rfl := sI e8q
  obtain rfl := sI e9q
  conv => arg 2; whnf
  have q0 : (0 : Int) ≤ (j : Int) := by omega
  have q1 : (j : Int) < (me : Int) := by omega
  have HN := Lib.hid hN
  clear hN
  go_wp2_with fail
  exact HN.out _ (id ⟨rfl, rfl, rfl, rfl, rfl, rfl, rfl, rfl, rfl, rfl, rfl, trivial⟩)
noncomputable def c_rn_r7 : Code := sub [1, 1, 0, 1, 0, 0, 1, 1, 0, 0, 1, 0, 1, 0, 0, 1, 1] (Tryd.f119.body.getD .skip)
set_option maxRecDepth 1000000 in
set_option maxHeartbeats 16000000 in
theorem rn_r7_wp {Q : Exit → Act → World → Prop} {j : Nat} {s : ByteArray} {A : Option Addr} {n1 c1 i : Nat} {wo w : World} {De : Option Addr} {bn bu me ee : Nat} (hlim : j ≤ maxLen) (hN : ∀ a', Frm 87 [(1, .slice De me ee), (2, .func (Fn.func 117) #[] #[.pointer (some ⟨bn, 0, none⟩), .pointer (some ⟨bu, 0, none⟩)]), (3, .pointer (some ⟨wo.heap.size, 0, none⟩)), (6, .pointer (some ⟨wo.heap.size + 1, 0, none⟩)), (7, .pointer (some ⟨wo.heap.size + 2, 0, none⟩)), (19, .slice A n1 c1), (20, .int .i64 (n1 : Nat)), (21, .int .i64 (i : Nat)), (9, .string s), (10, .int .i64 ((j : Int) - 1))] a' → Q .normal a' w) : ∀ ac, Frm 87 [(1, .slice De me ee), (2, .func (Fn.func 117) #[] #[.pointer (some ⟨bn, 0, none⟩), .pointer (some ⟨bu, 0, none⟩)]), (3, .pointer (some ⟨wo.heap.size, 0, none⟩)), (6, .pointer (some ⟨wo.heap.size + 1, 0, none⟩)), (7, .pointer (some ⟨wo.heap.size + 2, 0, none⟩)), (19, .slice A n1 c1), (20, .int .i64 (n1 : Nat)), (21, .int .i64 (i : Nat)), (9, .string s), (10, .int .i64 (j : Nat))] ac → Code.wp Tryd.prog c_rn_r7 Q ac w := by
  refine frm_open ?_
  refine frame_rn ?_
  intros
  rename_i hq
  obtain ⟨-, -, e0q, e1q, e2q, e3q, e4q, e5q, e6q, e7q, e8q, e9q, -⟩ := hq
  obtain rfl := sI e0q
  obtain rfl := sI e1q
  obtain rfl := sI e2q
  obtain rfl := sI e3q
  obtain rfl := sI e4q
  obtain rfl := sI e5q
  obtain rfl := sI e6q
  obtain rfl := sI e7q
  obtain rfl := sI e8q
  obtain rfl := sI e9q
  conv => arg 2; whnf
  have q9 : (j : Int) ≤ 9223372036854775807 := by unfold maxLen at hlim; omega
  have HN := Lib.hid hN
  clear hN
  go_wp2_with fail
  exact HN.out _ (id ⟨rfl, rfl, rfl, rfl, rfl, rfl, rfl, rfl, rfl, rfl, rfl, rfl, trivial⟩)
noncomputable def c_rn_r11 : Code := sub [1, 1, 0, 1, 0, 0, 1, 1, 1] (Tryd.f119.body.getD .skip)
set_option maxRecDepth 1000000 in
set_option maxHeartbeats 16000000 in
theorem rn_r11_wp {Q : Exit → Act → World → Prop} {A : Option Addr} {n1 c1 i : Nat} {wo w : World} {De : Option Addr} {bn bu me ee : Nat} (hi : i < n1) (hlim : n1 ≤ maxLen) (hN : ∀ a', Frm 87 [(1, .slice De me ee), (2, .func (Fn.func 117) #[] #[.pointer (some ⟨bn, 0, none⟩), .pointer (some ⟨bu, 0, none⟩)]), (3, .pointer (some ⟨wo.heap.size, 0, none⟩)), (6, .pointer (some ⟨wo.heap.size + 1, 0, none⟩)), (7, .pointer (some ⟨wo.heap.size + 2, 0, none⟩)), (19, .slice A n1 c1), (20, .int .i64 (n1 : Nat)), (21, .int .i64 (i + 1 : Nat))] a' → Q .normal a' w) : ∀ ac, Frm 87 [(1, .slice De me ee), (2, .func (Fn.func 117) #[] #[.pointer (some ⟨bn, 0, none⟩), .pointer (some ⟨bu, 0, none⟩)]), (3, .pointer (some ⟨wo.heap.size, 0, none⟩)), (6, .pointer (some ⟨wo.heap.size + 1, 0, none⟩)), (7, .pointer (some ⟨wo.heap.size + 2, 0, none⟩)), (19, .slice A n1 c1), (20, .int .i64 (n1 : Nat)), (21, .int .i64 (i : Nat))] ac → Code.wp Tryd.prog c_rn_r11 Q ac w := by
  refine frm_open ?_
  refine frame_rn ?_
  intros
  rename_i hq
  obtain ⟨-, -, e0q, e1q, e2q, e3q, e4q, e5q, e6q, e7q, -⟩ := hq
  obtain rfl := sI e0q
  obtain rfl := sI e1q
  obtain rfl := sI e2q
  obtain rfl := sI e3q
  obtain rfl := sI e4q
  obtain rfl := sI e5q
  obtain rfl := sI e6q
  obtain rfl := sI e7q
  conv => arg 2; whnf
  have hi4 : (i : Int) ≤ 9223372036854775806 := by unfold maxLen at hlim; omega
  have HN := Lib.hid hN
  clear hN
  go_wp2_with fail
  exact HN.out _ (id ⟨rfl, rfl, rfl, rfl, rfl, rfl, rfl, rfl, rfl, rfl, trivial⟩)
noncomputable def c_rn_r10 : Code := sub [1, 1, 0, 1, 0, 0, 1, 1, 0, 0, 1, 1] (Tryd.f119.body.getD .skip)
set_option maxRecDepth 1000000 in
set_option maxHeartbeats 16000000 in
theorem rn_r10_wp {Q : Exit → Act → World → Prop} {s : ByteArray} {i : Nat} {De : Option Addr} {bn bu me ee : Nat} {PP : Nat → Prop} {vw vs : Value} {ws : List ByteArray} {x : ByteArray} {wo w : World} {kd : Int} {nm : ByteArray} {A B : Option Addr} {n1 c1 n2 c2 : Nat} {k : Nat} (hl : ws.length ≤ 1000000) (hs : CY PP wo w vw ws x vs kd nm A n1 c1 B n2 c2) (hbw : bn < wo.heap.size) (hk : w.heap[bn]? = some (.cells #[.int .i64 (k : Nat)] 3 (0, 0))) (hN : ∀ v' a' w', Frm 87 [(1, .slice De me ee), (2, .func (Fn.func 117) #[] #[.pointer (some ⟨bn, 0, none⟩), .pointer (some ⟨bu, 0, none⟩)]), (3, .pointer (some ⟨wo.heap.size, 0, none⟩)), (6, .pointer (some ⟨wo.heap.size + 1, 0, none⟩)), (7, .pointer (some ⟨wo.heap.size + 2, 0, none⟩)), (19, .slice A n1 c1), (20, .int .i64 (n1 : Nat)), (21, .int .i64 (i : Nat))] a' → CY PP wo w' v' (ws ++ [s]) x vs kd nm A n1 c1 B n2 c2 → w'.heap[bn]? = some (.cells #[.int .i64 (k : Nat)] 3 (0, 0)) → Q .normal a' w') : ∀ ac, Frm 87 [(1, .slice De me ee), (2, .func (Fn.func 117) #[] #[.pointer (some ⟨bn, 0, none⟩), .pointer (some ⟨bu, 0, none⟩)]), (3, .pointer (some ⟨wo.heap.size, 0, none⟩)), (6, .pointer (some ⟨wo.heap.size + 1, 0, none⟩)), (7, .pointer (some ⟨wo.heap.size + 2, 0, none⟩)), (19, .slice A n1 c1), (20, .int .i64 (n1 : Nat)), (21, .int .i64 (i : Nat)), (9, .string s)] ac → Code.wp Tryd.prog c_rn_r10 Q ac w := by
  refine frm_open ?_
  refine frame_rn ?_
  intros
  rename_i hq
  obtain ⟨-, -, e0q, e1q, e2q, e3q, e4q, e5q, e6q, e7q, e8q, -⟩ := hq
  obtain rfl := sI e0q
  obtain rfl := sI e1q
  obtain rfl := sI e2q
  obtain rfl := sI e3q
  obtain rfl := sI e4q
  obtain rfl := sI e5q
  obtain rfl := sI e6q
  obtain rfl := sI e7q
  obtain rfl := sI e8q
  conv => arg 2; whnf
  obtain ⟨tsi, hts, ht0, ht1, ht2⟩ := info_parts infoStr
  have b2 := cellv hs.c 2 rfl
  have bf := free_heap hs.c 2
  have blt := lt_heap hs.c
  obtain ⟨A9, c9, rfl⟩ : ∃ A c, vw = .slice A ws.length c := by
    rcases hs.rw.2 with ⟨e, e0⟩ | ⟨g, cap, cur, e, _⟩
    · exact ⟨none, 0, by rw [e, e0]⟩
    · exact ⟨_, _, e⟩
  have hrow := hs.rw
  have HS := Lib.hid hs
  clear hs
  have HN := Lib.hid hN
  have HROW := Lib.hid hrow
  clear hN hrow
  go_wp2_with (at_builtin; refine wpList_append_lies (w.alloc (.cells #[.string s] 9)) ?h1 (.tmp 45) (.tmp 47) 26 ?h2 (wo.heap.size + 3) 9 tsi (.string ⟨#[]⟩) 1 16 ?h3 hts ht0 ht1 ht2 ?h4 ?h5 (.slice A9 ws.length c9) ws.length (ws.map .string) ?h6 ?h7 ⟨w.heap.size, 0, none⟩ 1 1 [.string s] ?h8 ?h9 ?h10 ?h11 ?h12 ?h13 ?h14 ?h15 (w.heap.size + 1) ?h16 ?_)
  try (case h1 => rfl)
  try (case h2 => rfl)
  try (case h3 => exact Tryd.underlying26)
  try (case h4 => rfl)
  try (case h5 => omega)
  try (case h6 => rfl)
  try (case h7 => exact HROW.out.alloc _)
  try (case h8 => rfl)
  try (case h9 => rfl)
  try (case h10 => exact World.news_of_block (cs := #[.string s]) (t := 9) (fr := (0, 0)) (heap_alloc_new w _))
  try (case h11 => simp [Value.oneCell'])
  try (case h12 => omega)
  try (case h13 => first | (simp [maxLen]; omega) | (unfold maxLen; omega))
  try (case h14 => omega)
  try (case h15 => first | omega | (simp; omega))
  try (case h16 => first | rfl | simp)
  intro gg cap w6 hown3 hgrow hat hlt
  have hap := HS.out.word hown3 hgrow
  have HAP := Lib.hid hap
  have HGR := Lib.hid (hgrow.block bn (by have := lt_heap hk; simp; omega) (fun e => by have := (HROW.out.lt bn e.symm).1; omega))
  have d2 := cellv hap.1 2 rfl
  have df := free_heap hap.1 2
  have dl := lt_heap hap.1
  clear hown3 hgrow hat hap b2 bf blt hlt
  go_wp2_with fail
  exact HN.out _ _ _ (id ⟨rfl, rfl, rfl, rfl, rfl, rfl, rfl, rfl, rfl, rfl, trivial⟩) HAP.out.2 ((heap_far _ (by omega) (HGR.out.trans (heap_old (lt_heap hk) rfl))).trans hk)
noncomputable def c_rn_r12 : Code := sub [1, 1, 1, 0, 0] (Tryd.f119.body.getD .skip)
set_option maxRecDepth 1000000 in
set_option maxHeartbeats 16000000 in
theorem rn_r12_wp {Q : Exit → Act → World → Prop} {De : Option Addr} {bn bu me ee : Nat} {PP : Nat → Prop} {vw vs : Value} {ws : List ByteArray} {x : ByteArray} {wo w : World} {kd : Int} {nm : ByteArray} {A B : Option Addr} {n1 c1 n2 c2 : Nat} (hs : CY PP wo w vw ws x vs kd nm A n1 c1 B n2 c2) (hN : ∀ a' w', Frm 87 [(1, .slice De me ee), (2, .func (Fn.func 117) #[] #[.pointer (some ⟨bn, 0, none⟩), .pointer (some ⟨bu, 0, none⟩)]), (3, .pointer (some ⟨wo.heap.size, 0, none⟩)), (6, .pointer (some ⟨wo.heap.size + 1, 0, none⟩)), (7, .pointer (some ⟨wo.heap.size + 2, 0, none⟩)), (52, .bool (isQu kd))] a' → CY PP wo w' vw ws x vs kd nm A n1 c1 B n2 c2 → Below w.heap.size w w' → Q .normal a' w') : ∀ ac, Frm 87 [(1, .slice De me ee), (2, .func (Fn.func 117) #[] #[.pointer (some ⟨bn, 0, none⟩), .pointer (some ⟨bu, 0, none⟩)]), (3, .pointer (some ⟨wo.heap.size, 0, none⟩)), (6, .pointer (some ⟨wo.heap.size + 1, 0, none⟩)), (7, .pointer (some ⟨wo.heap.size + 2, 0, none⟩))] ac → Code.wp Tryd.prog c_rn_r12 Q ac w := by
  refine frm_open ?_
  refine frame_rn ?_
  intros
  rename_i hq
  obtain ⟨-, -, e0q, e1q, e2q, e3q, e4q, -⟩ := hq
  obtain rfl := sI e0q
  obtain rfl := sI e1q
  obtain rfl := sI e2q
  obtain rfl := sI e3q
  obtain rfl := sI e4q
  conv => arg 2; whnf
  have hq := quant_any kd nm A B n1 c1 n2 c2 w
  have a0 := cellv hs.a 0 rfl
  have a1 := cellv hs.a 1 rfl
  have a2 := cellv hs.a 2 rfl
  have a3 := cellv hs.a 3 rfl
  have al := lt_heap hs.a
  have HS := Lib.hid hs
  clear hs
  have HN := Lib.hid hN
  have HQ := Lib.hid hq
  clear hN hq
  go_wp2_with fail
  (with_reducible refine HQ.out.mono ?_)
  rintro e w1 ⟨rfl, hb1⟩
  have hs := HS.out.below hb1
  have HS1 := Lib.hid hs
  have HB1 := Lib.hid hb1
  clear hb1 hs
  go_wp2_with fail
  exact HN.out _ _ (id ⟨rfl, rfl, rfl, rfl, rfl, rfl, rfl, rfl, trivial⟩) HS1.out HB1.out
noncomputable def c_rn_r13 : Code := sub [1, 1, 1, 0, 1, 0, 0] (Tryd.f119.body.getD .skip)
set_option maxRecDepth 1000000 in
set_option maxHeartbeats 16000000 in
theorem rn_r13_wp {Q : Exit → Act → World → Prop} {k : Nat} {y : ByteArray} {De : Option Addr} {bn bu me ee : Nat} {vw vs : Value} {ws : List ByteArray} {x : ByteArray} {wo w : World} {kd : Int} {nm : ByteArray} {A B : Option Addr} {n1 c1 n2 c2 : Nat} (hbw : bn < wo.heap.size) (hc : Calls Tryd.prog 117 #[.pointer (some ⟨bn, 0, none⟩), .pointer (some ⟨bu, 0, none⟩)] w fun e w' => e = .returned (.string y) ∧ w'.heap[bn]? = some (.cells #[.int .i64 (k : Nat)] 3 (0, 0)) ∧ Keeps (· = bn) w w') (hs : CY (· = bn) wo w vw ws x vs kd nm A n1 c1 B n2 c2) (hN : ∀ a' w', Frm 87 [(1, .slice De me ee), (2, .func (Fn.func 117) #[] #[.pointer (some ⟨bn, 0, none⟩), .pointer (some ⟨bu, 0, none⟩)]), (3, .pointer (some ⟨wo.heap.size, 0, none⟩)), (6, .pointer (some ⟨wo.heap.size + 1, 0, none⟩)), (7, .pointer (some ⟨wo.heap.size + 2, 0, none⟩))] a' → CY (· = bn) wo w' vw ws y vs kd nm A n1 c1 B n2 c2 → w'.heap[bn]? = some (.cells #[.int .i64 (k : Nat)] 3 (0, 0)) → Q .normal a' w') : ∀ ac, Frm 87 [(1, .slice De me ee), (2, .func (Fn.func 117) #[] #[.pointer (some ⟨bn, 0, none⟩), .pointer (some ⟨bu, 0, none⟩)]), (3, .pointer (some ⟨wo.heap.size, 0, none⟩)), (6, .pointer (some ⟨wo.heap.size + 1, 0, none⟩)), (7, .pointer (some ⟨wo.heap.size + 2, 0, none⟩))] ac → Code.wp Tryd.prog c_rn_r13 Q ac w := by
  refine frm_open ?_
  refine frame_rn ?_
  intros
  rename_i hq
  obtain ⟨-, -, e0q, e1q, e2q, e3q, e4q, -⟩ := hq
  obtain rfl := sI e0q
  obtain rfl := sI e1q
  obtain rfl := sI e2q
  obtain rfl := sI e3q
  obtain rfl := sI e4q
  conv => arg 2; whnf
  have hy := fun (W : World) (hb : Keeps (· = bn) w W) => (hs.keeps hb).name y
  have d1 := fun (W : World) (hb : Keeps (· = bn) w W) => cellv (hs.keeps hb).c 1 rfl
  have df := fun (W : World) (hb : Keeps (· = bn) w W) => free_heap (hs.keeps hb).c 1
  have dl := fun (W : World) (hb : Keeps (· = bn) w W) => lt_heap (hs.keeps hb).c
  have hcl := lt_heap hs.c
  have HY := Lib.hid hy
  have D1 := Lib.hid d1
  have DF := Lib.hid df
  have DL := Lib.hid dl
  clear hy d1 df dl
  have HS := Lib.hid hs
  clear hs
  have HN := Lib.hid hN
  have HC := Lib.hid hc
  clear hN hc
  go_wp2_with fail
  (with_reducible refine HC.out.mono ?_)
  rintro e w1 ⟨rfl, hkk, hb1⟩
  have e1 := D1.out w1 hb1
  have e2 := DF.out w1 hb1
  have e3 := DL.out w1 hb1
  have HY1 := Lib.hid (HY.out w1 hb1)
  have HB1 := Lib.hid hb1
  have HKK := Lib.hid hkk
  clear hb1 hkk
  go_wp2_with fail
  refine HN.out _ _ (id ⟨rfl, rfl, rfl, rfl, rfl, rfl, rfl, trivial⟩) HY1.out ?_
  exact (heap_far _ (by omega) HKK.out)
def bindRep : Rep (ByteArray × ByteArray) where
  size := 2
  R _ _ p cs := cs = [.string p.1, .string p.2] ∧ p.1.size ≤ maxLen ∧ p.2.size ≤ maxLen
  pos := by omega
  len := by rintro w S a cs ⟨rfl, _⟩; rfl
  one := by rintro w S a cs ⟨rfl, _⟩ u hu; simp at hu; rcases hu with rfl | rfl <;> rfl
  keep := by rintro w w' S S' a cs h _ _; exact h
def bindVals (env : Env) : List Value := env.flatMap (fun p => [.string p.1, .string p.2])
theorem bindVals_len (env : Env) : (bindVals env).length = env.length * 2 := by
  unfold bindVals
  induction env with
  | nil => rfl
  | cons p e ih => rw [List.flatMap_cons, List.length_append, ih]; simp; omega
theorem bindAll {w : World} {S : Nat → Prop} : ∀ {env : Env} {xs : List Value}, bindRep.All w S env xs → xs = bindVals env ∧ ∀ p ∈ env, p.1.size ≤ maxLen ∧ p.2.size ≤ maxLen
  | [], xs, h => by simp [Rep.All] at h; subst h; exact ⟨rfl, by simp⟩
  | p :: env, xs, h => by
    obtain ⟨cs, rest, rfl, ⟨rfl, h1, h2⟩, h3⟩ := h
    obtain ⟨rfl, h4⟩ := bindAll h3
    refine ⟨rfl, fun q hq => ?_⟩
    rcases List.mem_cons.1 hq with rfl | hq
    · exact ⟨h1, h2⟩
    · exact h4 q hq
theorem bindAll_of {w : World} {S : Nat → Prop} : ∀ {env : Env}, (∀ p ∈ env, p.1.size ≤ maxLen ∧ p.2.size ≤ maxLen) → bindRep.All w S env (bindVals env)
  | [], _ => rfl
  | p :: env, h => ⟨_, _, rfl, ⟨rfl, h p (List.mem_cons_self ..)⟩, bindAll_of (fun q hq => h q (List.mem_cons_of_mem _ hq))⟩
theorem bind_of_row {w : World} {base : Nat} {v : Value} {env : Env} {E : TypeId} {S : Nat → Prop} (h : w.ownsRow base E 2 v env.length (bindVals env)) (hz : ∀ p ∈ env, p.1.size ≤ maxLen ∧ p.2.size ≤ maxLen) (hm : env.length ≤ maxLen) (hS : ∀ b, base ≤ b → b < w.heap.size → S b) : bindRep.Sl w S v env :=
  Rep.Own.sl (E := E) (base := base) (S := fun _ => False) ⟨bindVals env, h, bindAll_of hz⟩ hm (fun _ h => h.elim) hS
theorem bind_sizes {w : World} {S : Nat → Prop} {v : Value} {env : Env} (h : bindRep.Sl w S v env) : ∀ p ∈ env, p.1.size ≤ maxLen ∧ p.2.size ≤ maxLen := by
  obtain ⟨A, n, c, rfl, h1, _, h3⟩ := h
  cases env with
  | nil => simp
  | cons p env =>
    obtain ⟨_, _, _, _, _, h4, _⟩ := h3 (by rw [← h1]; simp)
    exact (bindAll h4).2
/-- The pairs, as append reads them. -/
theorem bind_cells {w : World} {S : Nat → Prop} {m e : Nat} {A : Option Addr} {env : Env} (h : bindRep.Sl w S (.slice A m e) env) (hA : m = 0 → A = none) : (A = none ∧ m = 0 ∧ env = []) ∨ ∃ b o, A = some ⟨b, o, none⟩ ∧ S b ∧ 0 < m ∧ ∀ j u, (bindVals env)[j]? = some u → w.cell? ⟨b, o + j, none⟩ = some u := by
  obtain ⟨A', n, c, e9, h1, _, h3⟩ := h
  injection e9 with e1 e2 e3
  subst e1 e2 e3
  by_cases h0 : m = 0
  · left
    refine ⟨hA h0, h0, ?_⟩
    rw [h0] at h1
    exact List.length_eq_zero_iff.1 h1
  · obtain ⟨b, o, xs, e, hS, hx, hc⟩ := h3 (by omega)
    obtain ⟨rfl, _⟩ := bindAll hx
    exact Or.inr ⟨b, o, e, hS, by omega, hc⟩
theorem infoBind : (Tryd.prog.info? 102).map (fun i => (i.zero, i.size, i.bytes)) = some (some (.agg #[.string ⟨#[]⟩, .string ⟨#[]⟩]), 2, 32) := by kernel_rfl
noncomputable def c_rn_r14 : Code := sub [1, 1, 1, 0, 1, 0, 1] (Tryd.f119.body.getD .skip)
set_option maxRecDepth 1000000 in
set_option maxHeartbeats 16000000 in
theorem rn_r14_wp {K : Act → World → Prop} {b o : Nat} {env : Env} {bn bu me ee : Nat} {PP : Nat → Prop} {vw vs : Value} {ws : List ByteArray} {x : ByteArray} {wo w : World} {kd : Int} {nm : ByteArray} {A B : Option Addr} {n1 c1 n2 c2 : Nat} (hbl : env.length = me) (hm : me ≤ 1000000) (hme : me ≤ ee) (hbw : b < w.heap.size) (hcell : ∀ j u, (bindVals env)[j]? = some u → w.cell? ⟨b, o + j, none⟩ = some u) (hs : CY PP wo w vw ws x vs kd nm A n1 c1 B n2 c2) (hN : ∀ v' a' w', Frm 87 [(1, v'), (2, .func (Fn.func 117) #[] #[.pointer (some ⟨bn, 0, none⟩), .pointer (some ⟨bu, 0, none⟩)]), (3, .pointer (some ⟨wo.heap.size, 0, none⟩)), (6, .pointer (some ⟨wo.heap.size + 1, 0, none⟩)), (7, .pointer (some ⟨wo.heap.size + 2, 0, none⟩))] a' → w'.ownsRow (w.heap.size + 1) 102 2 v' (me + 1) (bindVals env ++ [.string nm, .string x]) → Below w.heap.size w w' → K a' w') : ∀ ac, Frm 87 [(1, .slice (some ⟨b, o, none⟩) me ee), (2, .func (Fn.func 117) #[] #[.pointer (some ⟨bn, 0, none⟩), .pointer (some ⟨bu, 0, none⟩)]), (3, .pointer (some ⟨wo.heap.size, 0, none⟩)), (6, .pointer (some ⟨wo.heap.size + 1, 0, none⟩)), (7, .pointer (some ⟨wo.heap.size + 2, 0, none⟩))] ac → Code.wp Tryd.prog c_rn_r14 (Exit.then K (fun _ _ _ => False)) ac w := by
  refine frm_open ?_
  refine frame_rn ?_
  intros
  rename_i hq
  obtain ⟨-, -, e0q, e1q, e2q, e3q, e4q, -⟩ := hq
  obtain rfl := sI e0q
  obtain rfl := sI e1q
  obtain rfl := sI e2q
  obtain rfl := sI e3q
  obtain rfl := sI e4q
  conv => arg 2; whnf
  obtain ⟨ti, hti, ht0, ht1, ht2⟩ := info_parts infoBind
  have q1 : (me : Int) ≤ (ee : Int) := by omega
  have hcA : ∀ j u, (bindVals env)[j]? = some u → (w.alloc (.cells #[.string nm, .string x] 102)).cell? ⟨b, o + j, none⟩ = some u := fun j u hu => (cell_keep (heap_old hbw rfl) _).trans (hcell j u hu)
  have HCELLA := Lib.hid hcA
  have hbl2 : (bindVals env).length = me * 2 := by rw [bindVals_len, hbl]
  have HBL := Lib.hid hbl2
  clear hcA hcell hbl2
  have a0 := cellv hs.a 0 rfl
  have a1 := cellv hs.a 1 rfl
  have a2 := cellv hs.a 2 rfl
  have a3 := cellv hs.a 3 rfl
  have al := lt_heap hs.a
  have z1 := cellv hs.c 1 rfl
  have zl := lt_heap hs.c
  have HS := Lib.hid hs
  clear hs
  go_region_law ((refine step_append_grows (by rfl) (.tmp 61) (.tmp 67) 103 (by rfl) 102 ti (.agg #[.string ⟨#[]⟩, .string ⟨#[]⟩]) 2 32 Tryd.underlying103 hti ht0 ht1 ht2 rfl (by decide) (some ⟨b, o, none⟩) me me (bindVals env) (by rfl) ?c0 ?c1 ?c2 ⟨w.heap.size, 0, none⟩ 1 1 [.string nm, .string x] (by rfl) rfl ?c3 ?c4 ?c5 ?c6 ?c7 ?_; (case c0 => (first | (intro h; cases h; done) | exact fun _ => ⟨rfl, rfl⟩)); (case c1 => exact HBL.out); (case c2 => (intro b9 hb9 j u hu; cases hb9; rw [Addr.add_lit]; exact HCELLA.out j u hu)); (case c3 => (exact World.news_of_block (cs := #[.string nm, .string x]) (t := 102) (fr := (0, 0)) (by first | exact heap_drew (heap_alloc_new w _) | exact heap_alloc_new w _ | exact heap_alloc_new w.drew _))); (case c4 => (intro u hu; simp at hu; rcases hu with rfl | rfl <;> rfl)); (case c5 => omega); (case c6 => (unfold maxLen; omega)); (case c7 => omega); intro v' w2 hown hgrow; have HOWN := Lib.hid hown; have HGROW := Lib.hid hgrow; clear hown hgrow))
  all_goals go_wp2_with fail
  all_goals exact hN _ _ _ (id ⟨rfl, rfl, rfl, rfl, rfl, rfl, rfl, trivial⟩) (by simpa using HOWN.out) (by first | exact ⟨HGROW.out.os, HGROW.out.tape, HGROW.out.output, by have := HGROW.out.size; simp at this; omega, fun k hk => (HGROW.out.block k (by simp; omega) (by simp)).trans (by first | exact heap_drew (heap_old hk rfl) | exact heap_old hk rfl)⟩)
noncomputable def c_rn_r14n : Code := sub [1, 1, 1, 0, 1, 0, 1] (Tryd.f119.body.getD .skip)
set_option maxRecDepth 1000000 in
set_option maxHeartbeats 16000000 in
theorem rn_r14n_wp {K : Act → World → Prop} {bn bu ee : Nat} {PP : Nat → Prop} {vw vs : Value} {ws : List ByteArray} {x : ByteArray} {wo w : World} {kd : Int} {nm : ByteArray} {A B : Option Addr} {n1 c1 n2 c2 : Nat} (hs : CY PP wo w vw ws x vs kd nm A n1 c1 B n2 c2) (hN : ∀ v' a' w', Frm 87 [(1, v'), (2, .func (Fn.func 117) #[] #[.pointer (some ⟨bn, 0, none⟩), .pointer (some ⟨bu, 0, none⟩)]), (3, .pointer (some ⟨wo.heap.size, 0, none⟩)), (6, .pointer (some ⟨wo.heap.size + 1, 0, none⟩)), (7, .pointer (some ⟨wo.heap.size + 2, 0, none⟩))] a' → w'.ownsRow (w.heap.size + 1) 102 2 v' (0 + 1) ([] ++ [.string nm, .string x]) → Below w.heap.size w w' → K a' w') : ∀ ac, Frm 87 [(1, .slice none 0 ee), (2, .func (Fn.func 117) #[] #[.pointer (some ⟨bn, 0, none⟩), .pointer (some ⟨bu, 0, none⟩)]), (3, .pointer (some ⟨wo.heap.size, 0, none⟩)), (6, .pointer (some ⟨wo.heap.size + 1, 0, none⟩)), (7, .pointer (some ⟨wo.heap.size + 2, 0, none⟩))] ac → Code.wp Tryd.prog c_rn_r14n (Exit.then K (fun _ _ _ => False)) ac w := by
  refine frm_open ?_
  refine frame_rn ?_
  intros
  rename_i hq
  obtain ⟨-, -, e0q, e1q, e2q, e3q, e4q, -⟩ := hq
  obtain rfl := sI e0q
  obtain rfl := sI e1q
  obtain rfl := sI e2q
  obtain rfl := sI e3q
  obtain rfl := sI e4q
  conv => arg 2; whnf
  obtain ⟨ti, hti, ht0, ht1, ht2⟩ := info_parts infoBind
  have a0 := cellv hs.a 0 rfl
  have a1 := cellv hs.a 1 rfl
  have a2 := cellv hs.a 2 rfl
  have a3 := cellv hs.a 3 rfl
  have al := lt_heap hs.a
  have z1 := cellv hs.c 1 rfl
  have zl := lt_heap hs.c
  have HS := Lib.hid hs
  clear hs
  go_region_law ((refine step_append_grows (by rfl) (.tmp 61) (.tmp 67) 103 (by rfl) 102 ti (.agg #[.string ⟨#[]⟩, .string ⟨#[]⟩]) 2 32 Tryd.underlying103 hti ht0 ht1 ht2 rfl (by decide) none 0 0 [] (by rfl) ?c0 ?c1 ?c2 ⟨w.heap.size, 0, none⟩ 1 1 [.string nm, .string x] (by rfl) rfl ?c3 ?c4 ?c5 ?c6 ?c7 ?_; (case c0 => (first | (intro h; cases h; done) | exact fun _ => ⟨rfl, rfl⟩)); (case c1 => rfl); (case c2 => (intro b9 hb9; cases hb9)); (case c3 => (exact World.news_of_block (cs := #[.string nm, .string x]) (t := 102) (fr := (0, 0)) (by first | exact heap_drew (heap_alloc_new w _) | exact heap_alloc_new w _ | exact heap_alloc_new w.drew _))); (case c4 => (intro u hu; simp at hu; rcases hu with rfl | rfl <;> rfl)); (case c5 => omega); (case c6 => (unfold maxLen; omega)); (case c7 => omega); intro v' w2 hown hgrow; have HOWN := Lib.hid hown; have HGROW := Lib.hid hgrow; clear hown hgrow))
  all_goals go_wp2_with fail
  all_goals exact hN _ _ _ (id ⟨rfl, rfl, rfl, rfl, rfl, rfl, rfl, trivial⟩) (by simpa using HOWN.out) (by first | exact ⟨HGROW.out.os, HGROW.out.tape, HGROW.out.output, by have := HGROW.out.size; simp at this; omega, fun k hk => (HGROW.out.block k (by simp; omega) (by simp)).trans (by first | exact heap_drew (heap_old hk rfl) | exact heap_old hk rfl)⟩)
noncomputable def c_rn_r15 : Code := sub [1, 1, 1, 1, 0, 0] (Tryd.f119.body.getD .skip)
set_option maxRecDepth 1000000 in
set_option maxHeartbeats 16000000 in
theorem rn_r15_wp {Q : Exit → Act → World → Prop} {De : Option Addr} {bn bu me ee : Nat} {PP : Nat → Prop} {vw vs : Value} {ws : List ByteArray} {x : ByteArray} {wo w : World} {kd : Int} {nm : ByteArray} {A B : Option Addr} {n1 c1 n2 c2 : Nat} (hs : CY PP wo w vw ws x vs kd nm A n1 c1 B n2 c2) (hN : ∀ a', Frm 87 [(1, .slice De me ee), (2, .func (Fn.func 117) #[] #[.pointer (some ⟨bn, 0, none⟩), .pointer (some ⟨bu, 0, none⟩)]), (3, .pointer (some ⟨wo.heap.size, 0, none⟩)), (6, .pointer (some ⟨wo.heap.size + 1, 0, none⟩)), (7, .pointer (some ⟨wo.heap.size + 2, 0, none⟩)), (70, .slice B n2 c2), (71, .int .i64 (n2 : Nat)), (72, .int .i64 (0 : Nat))] a' → Q .normal a' w) : ∀ ac, Frm 87 [(1, .slice De me ee), (2, .func (Fn.func 117) #[] #[.pointer (some ⟨bn, 0, none⟩), .pointer (some ⟨bu, 0, none⟩)]), (3, .pointer (some ⟨wo.heap.size, 0, none⟩)), (6, .pointer (some ⟨wo.heap.size + 1, 0, none⟩)), (7, .pointer (some ⟨wo.heap.size + 2, 0, none⟩))] ac → Code.wp Tryd.prog c_rn_r15 Q ac w := by
  refine frm_open ?_
  refine frame_rn ?_
  intros
  rename_i hq
  obtain ⟨-, -, e0q, e1q, e2q, e3q, e4q, -⟩ := hq
  obtain rfl := sI e0q
  obtain rfl := sI e1q
  obtain rfl := sI e2q
  obtain rfl := sI e3q
  obtain rfl := sI e4q
  conv => arg 2; whnf
  have a0 := cellv hs.a 0 rfl
  have a1 := cellv hs.a 1 rfl
  have a2 := cellv hs.a 2 rfl
  have a3 := cellv hs.a 3 rfl
  have al := lt_heap hs.a
  have HS := Lib.hid hs
  clear hs
  have HN := Lib.hid hN
  clear hN
  go_wp2_with fail
  exact HN.out _ (id ⟨rfl, rfl, rfl, rfl, rfl, rfl, rfl, rfl, rfl, rfl, trivial⟩)
noncomputable def c_rn_r16 : Code := sub [1, 1, 1, 1, 0, 1, 0, 0, 0] (Tryd.f119.body.getD .skip)
set_option maxRecDepth 1000000 in
set_option maxHeartbeats 16000000 in
theorem rn_r16_wp {Q : Exit → Act → World → Prop} {B : Option Addr} {n2 c2 i : Nat} {wo w : World} {De : Option Addr} {bn bu me ee : Nat} (hN : ∀ a', Frm 87 [(1, .slice De me ee), (2, .func (Fn.func 117) #[] #[.pointer (some ⟨bn, 0, none⟩), .pointer (some ⟨bu, 0, none⟩)]), (3, .pointer (some ⟨wo.heap.size, 0, none⟩)), (6, .pointer (some ⟨wo.heap.size + 1, 0, none⟩)), (7, .pointer (some ⟨wo.heap.size + 2, 0, none⟩)), (70, .slice B n2 c2), (71, .int .i64 (n2 : Nat)), (72, .int .i64 (i : Nat)), (73, .bool (decide (i < n2)))] a' → Q .normal a' w) : ∀ ac, Frm 87 [(1, .slice De me ee), (2, .func (Fn.func 117) #[] #[.pointer (some ⟨bn, 0, none⟩), .pointer (some ⟨bu, 0, none⟩)]), (3, .pointer (some ⟨wo.heap.size, 0, none⟩)), (6, .pointer (some ⟨wo.heap.size + 1, 0, none⟩)), (7, .pointer (some ⟨wo.heap.size + 2, 0, none⟩)), (70, .slice B n2 c2), (71, .int .i64 (n2 : Nat)), (72, .int .i64 (i : Nat))] ac → Code.wp Tryd.prog c_rn_r16 Q ac w := by
  refine frm_open ?_
  refine frame_rn ?_
  intros
  rename_i hq
  obtain ⟨-, -, e0q, e1q, e2q, e3q, e4q, e5q, e6q, e7q, -⟩ := hq
  obtain rfl := sI e0q
  obtain rfl := sI e1q
  obtain rfl := sI e2q
  obtain rfl := sI e3q
  obtain rfl := sI e4q
  obtain rfl := sI e5q
  obtain rfl := sI e6q
  obtain rfl := sI e7q
  conv => arg 2; whnf
  by_cases h : i < n2
  · have t1 : decide ((i : Int) < (n2 : Int)) = true := by first | exact decide_eq_true (by omega) | exact beq_iff_eq.2 (by omega) | exact bne_iff_ne.2 (by omega)
    have t2 : (decide (i < n2)) = true := decide_eq_true h
    rw [t2] at hN
    clear h
    have HN := Lib.hid hN
    clear hN
    go_wp2_with fail
    exact HN.out _ (id ⟨rfl, rfl, rfl, rfl, rfl, rfl, rfl, rfl, rfl, rfl, rfl, trivial⟩)
  · have t1 : decide ((i : Int) < (n2 : Int)) = false := by first | exact decide_eq_false (by omega) | exact beq_eq_false_iff_ne.2 (by omega) | exact bne_eq_false_iff_eq.2 (by omega)
    have t2 : (decide (i < n2)) = false := decide_eq_false h
    rw [t2] at hN
    clear h
    have HN := Lib.hid hN
    clear hN
    go_wp2_with fail
    exact HN.out _ (id ⟨rfl, rfl, rfl, rfl, rfl, rfl, rfl, rfl, rfl, rfl, rfl, trivial⟩)
noncomputable def c_rn_r17 : Code := sub [1, 1, 1, 1, 0, 1, 0, 0, 1, 1, 0, 0, 0] (Tryd.f119.body.getD .skip)
set_option maxRecDepth 1000000 in
set_option maxHeartbeats 16000000 in
theorem rn_r17_wp {Q : Exit → Act → World → Prop} {b o i : Nat} {ke : Int} {ne : ByteArray} {Ae Be : Option Addr} {n3 c3 n4 c4 n2 c2 : Nat} {wo w : World} {De : Option Addr} {bn bu me ee : Nat} (hi : i < n2) (e0 : w.cell? ⟨b, o + i * 4, none⟩ = some (.int .i64 ke)) (e1 : w.cell? ⟨b, o + i * 4 + 1, none⟩ = some (.string ne)) (e2 : w.cell? ⟨b, o + i * 4 + 2, none⟩ = some (.slice Ae n3 c3)) (e3 : w.cell? ⟨b, o + i * 4 + 3, none⟩ = some (.slice Be n4 c4)) (hbl : b < w.heap.size) (hN : ∀ a', Frm 87 [(1, .slice De me ee), (2, .func (Fn.func 117) #[] #[.pointer (some ⟨bn, 0, none⟩), .pointer (some ⟨bu, 0, none⟩)]), (3, .pointer (some ⟨wo.heap.size, 0, none⟩)), (6, .pointer (some ⟨wo.heap.size + 1, 0, none⟩)), (7, .pointer (some ⟨wo.heap.size + 2, 0, none⟩)), (70, .slice (some ⟨b, o, none⟩) n2 c2), (71, .int .i64 (n2 : Nat)), (72, .int .i64 (i : Nat)), (12, .pointer (some ⟨w.heap.size, 0, none⟩))] a' → Q .normal a' (w.alloc (.cells #[.int .i64 ke, .string ne, .slice Ae n3 c3, .slice Be n4 c4] 29))) : ∀ ac, Frm 87 [(1, .slice De me ee), (2, .func (Fn.func 117) #[] #[.pointer (some ⟨bn, 0, none⟩), .pointer (some ⟨bu, 0, none⟩)]), (3, .pointer (some ⟨wo.heap.size, 0, none⟩)), (6, .pointer (some ⟨wo.heap.size + 1, 0, none⟩)), (7, .pointer (some ⟨wo.heap.size + 2, 0, none⟩)), (70, .slice (some ⟨b, o, none⟩) n2 c2), (71, .int .i64 (n2 : Nat)), (72, .int .i64 (i : Nat))] ac → Code.wp Tryd.prog c_rn_r17 Q ac w := by
  refine frm_open ?_
  refine frame_rn ?_
  intros
  rename_i hq
  obtain ⟨-, -, e0q, e1q, e2q, e3q, e4q, e5q, e6q, e7q, -⟩ := hq
  obtain rfl := sI e0q
  obtain rfl := sI e1q
  obtain rfl := sI e2q
  obtain rfl := sI e3q
  obtain rfl := sI e4q
  obtain rfl := sI e5q
  obtain rfl := sI e6q
  obtain rfl := sI e7q
  conv => arg 2; whnf
  have q0 : (0 : Int) ≤ (i : Int) := by omega
  have q1 : (i : Int) < (n2 : Int) := by omega
  have HN := Lib.hid hN
  clear hN
  go_wp2_with fail
  exact HN.out _ (id ⟨rfl, rfl, rfl, rfl, rfl, rfl, rfl, rfl, rfl, rfl, rfl, trivial⟩)
noncomputable def c_rn_r18 : Code := sub [1, 1, 1, 1, 0, 1, 0, 0, 1, 1, 0, 0, 1] (Tryd.f119.body.getD .skip)
set_option maxRecDepth 1000000 in
set_option maxHeartbeats 16000000 in
theorem rn_r18_wp {K : Act → World → Prop} {kk i b o : Nat} {t : Fm} {ke : Int} {ne : ByteArray} {Ae Be : Option Addr} {n3 c3 n4 c4 : Nat} {ge : Nat} {De : Option Addr} {bn bu me ee : Nat} {tt : List Fm} {vw vs : Value} {ws : List ByteArray} {x : ByteArray} {wo w : World} {kd : Int} {nm : ByteArray} {A B : Option Addr} {n1 c1 n2 c2 : Nat} (hge : w.heap[ge]? = some (.cells #[.int .i64 ke, .string ne, .slice Ae n3 c3, .slice Be n4 c4] 29 (0, 0))) (hbw : bn < wo.heap.size) (htt : tt.length ≤ 1000) (hc : ∀ W : World, Below w.heap.size w W → Calls Tryd.prog 119 #[.agg #[.int .i64 ke, .string ne, .slice Ae n3 c3, .slice Be n4 c4], .slice De me ee, .func (Fn.func 117) #[] #[.pointer (some ⟨bn, 0, none⟩), .pointer (some ⟨bu, 0, none⟩)]] W fun e w' => ∃ es : List Value, e = .returned (.agg es.toArray) ∧ fmRep.R w' (fun b => w.heap.size ≤ b ∧ b < w'.heap.size) t es ∧ Keeps (· = bn) w w' ∧ w'.heap[bn]? = some (.cells #[.int .i64 (kk : Nat)] 3 (0, 0))) (hs : CY (· = bn) wo w vw ws x vs kd nm A n1 c1 B n2 c2) (ho : fmRep.Own 29 (wo.heap.size + 3) w (fun b => wo.heap.size + 3 ≤ b ∧ b < w.heap.size) vs tt) (hN : ∀ v' a' w', Frm 87 [(1, .slice De me ee), (2, .func (Fn.func 117) #[] #[.pointer (some ⟨bn, 0, none⟩), .pointer (some ⟨bu, 0, none⟩)]), (3, .pointer (some ⟨wo.heap.size, 0, none⟩)), (6, .pointer (some ⟨wo.heap.size + 1, 0, none⟩)), (7, .pointer (some ⟨wo.heap.size + 2, 0, none⟩)), (70, .slice B n2 c2), (71, .int .i64 (n2 : Nat)), (72, .int .i64 (i : Nat))] a' → CY (· = bn) wo w' vw ws x v' kd nm A n1 c1 B n2 c2 → fmRep.Own 29 (wo.heap.size + 3) w' (fun b => wo.heap.size + 3 ≤ b ∧ b < w'.heap.size) v' (tt ++ [t]) → w'.heap[bn]? = some (.cells #[.int .i64 (kk : Nat)] 3 (0, 0)) → Fra (· = bn) (wo.heap.size + 2) w w' vs v' → K a' w') : ∀ ac, Frm 87 [(1, .slice De me ee), (2, .func (Fn.func 117) #[] #[.pointer (some ⟨bn, 0, none⟩), .pointer (some ⟨bu, 0, none⟩)]), (3, .pointer (some ⟨wo.heap.size, 0, none⟩)), (6, .pointer (some ⟨wo.heap.size + 1, 0, none⟩)), (7, .pointer (some ⟨wo.heap.size + 2, 0, none⟩)), (70, .slice B n2 c2), (71, .int .i64 (n2 : Nat)), (72, .int .i64 (i : Nat)), (12, .pointer (some ⟨ge, 0, none⟩))] ac → Code.wp Tryd.prog c_rn_r18 (Exit.then K (fun _ _ _ => False)) ac w := by
  refine frm_open ?_
  refine frame_rn ?_
  intros
  rename_i hq
  obtain ⟨-, -, e0q, e1q, e2q, e3q, e4q, e5q, e6q, e7q, e8q, -⟩ := hq
  obtain rfl := sI e0q
  obtain rfl := sI e1q
  obtain rfl := sI e2q
  obtain rfl := sI e3q
  obtain rfl := sI e4q
  obtain rfl := sI e5q
  obtain rfl := sI e6q
  obtain rfl := sI e7q
  obtain rfl := sI e8q
  conv => arg 2; whnf
  obtain ⟨ti, hti, hti0, hti1, hti2⟩ := info_parts infoForm
  have g0 := cellv hge 0 rfl
  have g1 := cellv hge 1 rfl
  have g2 := cellv hge 2 rfl
  have g3 := cellv hge 3 rfl
  have gl := lt_heap hge
  clear hge
  obtain ⟨Av, cv, rfl⟩ := ho.len
  obtain ⟨xs, hrow, hall⟩ := id ho
  have a3 : w.cell? ⟨wo.heap.size, 3, none⟩ = some (.slice B n2 c2) := cellv hs.a 3 rfl
  have al := lt_heap hs.a
  have k3 : w.cell? ⟨wo.heap.size + 2, 3, none⟩ = some (.slice Av tt.length cv) := cellv hs.c 3 rfl
  have kf := free_heap hs.c 3
  have kl := lt_heap hs.c
  have hwo := hs.b.size
  have HALL := Lib.hid hall
  have HROW := Lib.hid hrow
  have HC := Lib.hid hc
  clear hall hrow hc ho
  have HS := Lib.hid hs
  clear hs
  generalize hgc : wo.heap.size + 2 = gc at k3 kf kl hN ⊢
  have HN := Lib.hid hN
  clear hN
  go_region_law (first
    | (refine step_call (by rfl) 119 _ ?hargs (HC.out _ ?hbel) ?_; (case hargs => (go_simp; done)); (case hbel => (go_grown)); rintro e w2 ⟨es, rfl, hes, hb2, hkc⟩; refine ⟨_, rfl, ?_⟩; obtain ⟨A5, n5, c5, B5, n6, c6, rfl, _, _, _, _⟩ := Fm.shape hes; have z2 := hb2.size; have kl2 : gc < w2.heap.size := (by omega); have m3 := (cell_keep (hb2.block _ kl (fun e => (by have e : gc = bn := e; omega))) 3).trans k3; have mfz := (World.frozen?_of_block (a := ⟨gc, 3, none⟩) (hb2.block _ kl (fun e => (by have e : gc = bn := e; omega)))).trans kf; have HES := Lib.hid hes; have HB2 := Lib.hid hb2; have HKC := Lib.hid hkc; have HROW2 := Lib.hid (show w2.ownsRow (wo.heap.size + 3) 29 4 (.slice Av tt.length cv) tt.length xs from ⟨HROW.out.1, HROW.out.2.imp (fun h => h) (fun h => by obtain ⟨g', cap', cur, e, q3, hh, r⟩ := h; exact ⟨g', cap', cur, e, q3, (hb2.block g' (lt_heap hh) (fun e => (by have e : g' = bn := e; omega))).trans hh, r⟩)⟩); clear hes hb2 hkc)
    | (refine step_append_lies _ (by rfl) (.tmp 77) (.tmp 82) _ (by rfl) (wo.heap.size + 3) 29 ti _ 4 72 Tryd.underlying27 hti hti0 hti1 hti2 rfl (by omega) (.slice Av tt.length cv) tt.length xs (by rfl) (by first | exact HROW2.out.alloc _ | exact (HROW2.out.alloc _).drew) ⟨w2.heap.size, 0, none⟩ 1 1 [.int .i64 t.lab.kind, .string t.lab.nm, .slice A5 n5 c5, .slice B5 n6 c6] (by rfl) (by rfl) (World.news_of_block (cs := #[.int .i64 t.lab.kind, .string t.lab.nm, .slice A5 n5 c5, .slice B5 n6 c6]) (t := 29) (fr := (0, 0)) (by first | exact heap_alloc_new w2 _ | exact heap_drew (heap_alloc_new w2 _))) (by simp [Value.oneCell']) (by omega) (by unfold maxLen; omega) (by omega) (by first | omega | (simp; done) | (simp; omega)) (w2.heap.size + 1) (by simp) ?_; intro gq cap w3 hown3 hgrow hat hlt; have hsb := HS.out.subK HROW.out HALL.out HB2.out HES.out (o := .cells #[.int .i64 t.lab.kind, .string t.lab.nm, .slice A5 n5 c5, .slice B5 n6 c6] 29) hown3 ⟨hgrow.os, hgrow.tape, hgrow.output, hgrow.size, hgrow.block⟩ hat; have d3 := cellv hsb.1 3 rfl; have df := free_heap hsb.1 3; have dl := lt_heap hsb.1; rw [hgc] at d3 df dl; have HSB := Lib.hid hsb; clear hown3 hgrow hat hlt hsb))
  all_goals go_wp2_with fail
  all_goals subst hgc
  all_goals exact HN.out _ _ _ (id ⟨rfl, rfl, rfl, rfl, rfl, rfl, rfl, rfl, rfl, rfl, trivial⟩) HSB.out.2.1 HSB.out.2.2.1 ((HSB.out.2.2.2.1 bn hbw).trans HKC.out) HSB.out.2.2.2.2
noncomputable def c_rn_r19 : Code := sub [1, 1, 1, 1, 0, 1, 0, 0, 1, 1, 1] (Tryd.f119.body.getD .skip)
set_option maxRecDepth 1000000 in
set_option maxHeartbeats 16000000 in
theorem rn_r19_wp {Q : Exit → Act → World → Prop} {B : Option Addr} {n2 c2 i : Nat} {wo w : World} {De : Option Addr} {bn bu me ee : Nat} (hi : i < n2) (hlim : n2 ≤ maxLen) (hN : ∀ a', Frm 87 [(1, .slice De me ee), (2, .func (Fn.func 117) #[] #[.pointer (some ⟨bn, 0, none⟩), .pointer (some ⟨bu, 0, none⟩)]), (3, .pointer (some ⟨wo.heap.size, 0, none⟩)), (6, .pointer (some ⟨wo.heap.size + 1, 0, none⟩)), (7, .pointer (some ⟨wo.heap.size + 2, 0, none⟩)), (70, .slice B n2 c2), (71, .int .i64 (n2 : Nat)), (72, .int .i64 (i + 1 : Nat))] a' → Q .normal a' w) : ∀ ac, Frm 87 [(1, .slice De me ee), (2, .func (Fn.func 117) #[] #[.pointer (some ⟨bn, 0, none⟩), .pointer (some ⟨bu, 0, none⟩)]), (3, .pointer (some ⟨wo.heap.size, 0, none⟩)), (6, .pointer (some ⟨wo.heap.size + 1, 0, none⟩)), (7, .pointer (some ⟨wo.heap.size + 2, 0, none⟩)), (70, .slice B n2 c2), (71, .int .i64 (n2 : Nat)), (72, .int .i64 (i : Nat))] ac → Code.wp Tryd.prog c_rn_r19 Q ac w := by
  refine frm_open ?_
  refine frame_rn ?_
  intros
  rename_i hq
  obtain ⟨-, -, e0q, e1q, e2q, e3q, e4q, e5q, e6q, e7q, -⟩ := hq
  obtain rfl := sI e0q
  obtain rfl := sI e1q
  obtain rfl := sI e2q
  obtain rfl := sI e3q
  obtain rfl := sI e4q
  obtain rfl := sI e5q
  obtain rfl := sI e6q
  obtain rfl := sI e7q
  conv => arg 2; whnf
  have hi4 : (i : Int) ≤ 9223372036854775806 := by unfold maxLen at hlim; omega
  have HN := Lib.hid hN
  clear hN
  go_wp2_with fail
  exact HN.out _ (id ⟨rfl, rfl, rfl, rfl, rfl, rfl, rfl, rfl, rfl, rfl, trivial⟩)
noncomputable def c_rn_r20 : Code := sub [1, 1, 1, 1, 1, 0] (Tryd.f119.body.getD .skip)
set_option maxRecDepth 1000000 in
set_option maxHeartbeats 16000000 in
theorem rn_r20_wp {Q : Exit → Act → World → Prop} {gc gz : Nat} {w : World} {kd : Int} {x : ByteArray} {Aw Av : Option Addr} {nw cw nv cv : Nat} (hc : w.heap[gc]? = some (.cells #[.int .i64 kd, .string x, .slice Aw nw cw, .slice Av nv cv] 29 (0, 0))) (hz : w.heap[gz]? = some (.cells #[.int .i64 0, .string ⟨#[]⟩, .slice none 0 0, .slice none 0 0] 29 (0, 0))) (hN : ∀ a' w', Frm 87 [(6, .pointer (some ⟨gz, 0, none⟩))] a' → w'.heap[gz]? = some (.cells #[.int .i64 kd, .string x, .slice Aw nw cw, .slice Av nv cv] 29 (0, 0)) → Keeps (· = gz) w w' → Q .normal a' w') : ∀ ac, Frm 87 [(6, .pointer (some ⟨gz, 0, none⟩)), (7, .pointer (some ⟨gc, 0, none⟩))] ac → Code.wp Tryd.prog c_rn_r20 Q ac w := by
  refine frm_open ?_
  refine frame_rn ?_
  intros
  rename_i hq
  obtain ⟨-, -, e0q, e1q, -⟩ := hq
  obtain rfl := sI e0q
  obtain rfl := sI e1q
  conv => arg 2; whnf
  have c0 := cellv hc 0 rfl
  have c1 := cellv hc 1 rfl
  have c2 := cellv hc 2 rfl
  have c3 := cellv hc 3 rfl
  have cl := lt_heap hc
  have z0 := cellv hz 0 rfl
  have z1 := cellv hz 1 rfl
  have z2 := cellv hz 2 rfl
  have z3 := cellv hz 3 rfl
  have zf0 := free_heap hz 0
  have zf1 := free_heap hz 1
  have zf2 := free_heap hz 2
  have zf3 := free_heap hz 3
  have zl := lt_heap hz
  have HZ := Lib.hid hz
  clear hc hz
  have HN := Lib.hid hN
  clear hN
  go_wp2_with fail
  exact HN.out _ _ (id ⟨rfl, rfl, rfl, trivial⟩) (at4F HZ.out) (keeps4F (Keeps.refl _ _) (Or.inl rfl))
set_option maxRecDepth 1000000 in
theorem rn_ret_wp {R : Ending → World → Prop} {w' : World} {g : Nat} {v0 v1 v2 v3 : Value} (hg : w'.heap[g]? = some (.cells #[v0, v1, v2, v3] 29 (0, 0))) (ho : v0.oneCell' = true ∧ v1.oneCell' = true ∧ v2.oneCell' = true ∧ v3.oneCell' = true) (hR : R (.returned (.agg #[v0, v1, v2, v3])) w') : ∀ ac, Frm 87 [(6, .pointer (some ⟨g, 0, none⟩))] ac → bodyPost Tryd.prog Tryd.f119 R .ret ac w' := by
  refine frm_open ?_
  refine frame_rn ?_
  intros
  rename_i hq
  obtain ⟨-, -, e0q, -⟩ := hq
  obtain rfl := sI e0q
  have z0 := cellv hg 0 rfl
  have z1 := cellv hg 1 rfl
  have z2 := cellv hg 2 rfl
  have z3 := cellv hg 3 rfl
  have zl := lt_heap hg
  obtain ⟨o0, o1, o2, o3⟩ := ho
  refine bodyPost_ret (v := .agg #[v0, v1, v2, v3]) (by simp [results, Tryd.results119, go_sem, z0, z1, z2, z3, zl, o0, o1, o2, o3]) rfl ?_
  exact hR
end

section
open Go Go.RowKit
set_option linter.unusedSimpArgs false
set_option linter.unusedVariables false
noncomputable def c_rn_look : Code := sub [1, 1, 0, 1, 0, 0, 1, 1, 0, 0, 1, 0, 1, 0] (Tryd.f119.body.getD .skip)
set_option maxRecDepth 100000 in
set_option maxHeartbeats 4000000 in
theorem rn_look_wp {Q : Exit → Act → World → Prop} {SS : Nat → Prop} {env : Env} {s : ByteArray} {A : Option Addr} {n1 c1 i : Nat} {wo w : World} {De : Option Addr} {bn bu me ee : Nat} (hS : ∀ k, SS k → k < w.heap.size) (hf : bindRep.Sl w SS (.slice De me ee) env) 
    (hX : ∀ a', Frm 87 [(1, .slice De me ee), (2, .func (Fn.func 117) #[] #[.pointer (some ⟨bn, 0, none⟩), .pointer (some ⟨bu, 0, none⟩)]), (3, .pointer (some ⟨wo.heap.size, 0, none⟩)), (6, .pointer (some ⟨wo.heap.size + 1, 0, none⟩)), (7, .pointer (some ⟨wo.heap.size + 2, 0, none⟩)), (19, .slice A n1 c1), (20, .int .i64 (n1 : Nat)), (21, .int .i64 (i : Nat)), (9, .string (lookE env s))] a' → Q (.exit 2) a' w) : ∀ ac, Frm 87 [(1, .slice De me ee), (2, .func (Fn.func 117) #[] #[.pointer (some ⟨bn, 0, none⟩), .pointer (some ⟨bu, 0, none⟩)]), (3, .pointer (some ⟨wo.heap.size, 0, none⟩)), (6, .pointer (some ⟨wo.heap.size + 1, 0, none⟩)), (7, .pointer (some ⟨wo.heap.size + 2, 0, none⟩)), (19, .slice A n1 c1), (20, .int .i64 (n1 : Nat)), (21, .int .i64 (i : Nat)), (9, .string s), (10, .int .i64 ((me : Int) - 1))] ac → Code.wp Tryd.prog c_rn_look Q ac w := by
  intro a0 hf0
  conv => arg 2; whnf
  obtain ⟨D', m', e', e9, hfl, hfm, _⟩ := id hf
  injection e9 with e1 e2 e3
  subst e1 e2 e3
  refine wp_loopR (fun g a' w' => g ≤ me ∧ (∀ i, g ≤ i → ∀ p, env[i]? = some p → p.1 ≠ s) ∧ w' = w ∧ Frm 87 [(1, .slice De me ee), (2, .func (Fn.func 117) #[] #[.pointer (some ⟨bn, 0, none⟩), .pointer (some ⟨bu, 0, none⟩)]), (3, .pointer (some ⟨wo.heap.size, 0, none⟩)), (6, .pointer (some ⟨wo.heap.size + 1, 0, none⟩)), (7, .pointer (some ⟨wo.heap.size + 2, 0, none⟩)), (19, .slice A n1 c1), (20, .int .i64 (n1 : Nat)), (21, .int .i64 (i : Nat)), (9, .string s), (10, .int .i64 ((g : Int) - 1))] a') me ⟨Nat.le_refl _, fun i hi p hp => by have := (List.getElem?_eq_some_iff.1 hp).1; omega, rfl, hf0⟩ ?_
  rintro g a1 w1 ⟨hgm, hno, rfl, h1⟩
  refine wp_seq ?_
  refine wp_seq ?_
  refine rn_r6_wp (fun a2 h2 => ?_) a1 h1
  cases g with
  | zero =>
    refine wp_cond_false ((h2.eval (k := 29) (v := .bool (decide (0 ≤ ((0 : Nat) : Int) - 1))) (by simp)).trans (by rw [decide_eq_false (by omega)])) ?_
    refine wp_exit (hX a2 ?_)
    rw [lookE_none env s (fun i p hp => hno i (Nat.zero_le _) p hp)]
    exact ⟨h2.1, h2.2.1, h2.2.2.1, h2.2.2.2.1, h2.2.2.2.2.1, h2.2.2.2.2.2.1, h2.2.2.2.2.2.2.1, h2.2.2.2.2.2.2.2.1, h2.2.2.2.2.2.2.2.2.1, h2.2.2.2.2.2.2.2.2.2.1, h2.2.2.2.2.2.2.2.2.2.2.1, trivial⟩
  | succ j =>
    refine wp_cond_true ((h2.eval (k := 29) (v := .bool (decide (0 ≤ ((j + 1 : Nat) : Int) - 1))) (by simp)).trans (by rw [decide_eq_true (by omega)])) ?_
    refine wp_skip ?_
    show Code.wp _ _ _ a2 w1
    have hje : j < env.length := by omega
    have hi1 : (((j + 1 : Nat) : Int) - 1) = ((j : Nat) : Int) := by omega
    rw [hi1] at h2
    obtain ⟨b, o, cs, rfl, hSb, ⟨rfl, _⟩, hc⟩ := Rep.Sl.at_ hf (List.getElem?_eq_getElem hje)
    have hc0 : w1.cell? ⟨b, o + j * 2, none⟩ = some (.string env[j].1) := hc 0 _ rfl
    have hc1 : w1.cell? ⟨b, o + j * 2 + 1, none⟩ = some (.string env[j].2) := hc 1 _ rfl
    refine wp_seq ?_
    refine wp_block ?_
    refine wp_seq ?_
    refine rn_r8_wp (by omega) hc0 (hS b hSb) (fun a4 h4 => ?_) a2 ⟨h2.1, h2.2.1, h2.2.2.1, h2.2.2.2.1, h2.2.2.2.2.1, h2.2.2.2.2.2.1, h2.2.2.2.2.2.2.1, h2.2.2.2.2.2.2.2.1, h2.2.2.2.2.2.2.2.2.1, h2.2.2.2.2.2.2.2.2.2.1, h2.2.2.2.2.2.2.2.2.2.2.1, h2.2.2.2.2.2.2.2.2.2.2.2.1, trivial⟩
    by_cases hx : env[j].1 = s
    · refine wp_cond_true ((h4.eval (k := 38) (v := .bool (decide (env[j].1 = s))) (by simp)).trans (by rw [decide_eq_true hx])) ?_
      refine wp_seq ?_
      refine rn_r9_wp (by omega) hc1 (hS b hSb) (fun a5 h5 => ?_) a4 ⟨h4.1, h4.2.1, h4.2.2.1, h4.2.2.2.1, h4.2.2.2.2.1, h4.2.2.2.2.2.1, h4.2.2.2.2.2.2.1, h4.2.2.2.2.2.2.2.1, h4.2.2.2.2.2.2.2.2.1, h4.2.2.2.2.2.2.2.2.2.1, h4.2.2.2.2.2.2.2.2.2.2.1, h4.2.2.2.2.2.2.2.2.2.2.2.1, trivial⟩
      refine wp_exit ?_
      repeat refine then_exit ?_
      refine inBlock_far (by decide) ?_
      repeat refine then_exit ?_
      refine hX a5 ?_
      rw [lookE_at env s j hje (fun i hi p hp => hno i (by omega) p hp) hx]
      exact h5
    · refine wp_cond_false ((h4.eval (k := 38) (v := .bool (decide (env[j].1 = s))) (by simp)).trans (by rw [decide_eq_false hx])) ?_
      refine wp_skip ?_
      show Code.wp _ _ _ a4 w1
      refine rn_r7_wp (by omega) (fun a5 h5 => ?_) a4 ⟨h4.1, h4.2.1, h4.2.2.1, h4.2.2.2.1, h4.2.2.2.2.1, h4.2.2.2.2.2.1, h4.2.2.2.2.2.2.1, h4.2.2.2.2.2.2.2.1, h4.2.2.2.2.2.2.2.2.1, h4.2.2.2.2.2.2.2.2.2.1, h4.2.2.2.2.2.2.2.2.2.2.1, h4.2.2.2.2.2.2.2.2.2.2.2.1, trivial⟩
      refine ⟨j, by omega, by omega, fun i hi p hp => ?_, rfl, h5⟩
      by_cases hij : j = i
      · subst hij
        rw [List.getElem?_eq_getElem hje] at hp
        obtain rfl := Option.some.inj hp
        exact hx
      · exact hno i (by omega) p hp
noncomputable def c_rn_wl : Code := sub [1, 1, 0, 1, 0] (Tryd.f119.body.getD .skip)
set_option maxRecDepth 100000 in
set_option maxHeartbeats 4000000 in
theorem rn_wl_wp {Q : Exit → Act → World → Prop} {SS : Nat → Prop} {env : Env} {us : List ByteArray} {k : Nat} {De : Option Addr} {bn bu me ee : Nat} {vw vs : Value} {ws : List ByteArray} {x : ByteArray} {wo w : World} {kd : Int} {nm : ByteArray} {A B : Option Addr} {n1 c1 n2 c2 : Nat} (hS : ∀ k, SS k → k < wo.heap.size ∧ k ≠ bn) (hf : bindRep.Sl wo SS (.slice De me ee) env) (hu : strRep.Sl wo SS (.slice A n1 c1) us) (hul : us.length ≤ 1000000) (hw0 : ws = []) (hk : w.heap[bn]? = some (.cells #[.int .i64 (k : Nat)] 3 (0, 0))) (hs : CY (· = bn) wo w vw ws x vs kd nm A n1 c1 B n2 c2) 
    (hX : ∀ v' a' w', Frm 87 [(1, .slice De me ee), (2, .func (Fn.func 117) #[] #[.pointer (some ⟨bn, 0, none⟩), .pointer (some ⟨bu, 0, none⟩)]), (3, .pointer (some ⟨wo.heap.size, 0, none⟩)), (6, .pointer (some ⟨wo.heap.size + 1, 0, none⟩)), (7, .pointer (some ⟨wo.heap.size + 2, 0, none⟩))] a' → CY (· = bn) wo w' v' (us.map (lookE env)) x vs kd nm A n1 c1 B n2 c2 → w'.heap[bn]? = some (.cells #[.int .i64 (k : Nat)] 3 (0, 0)) → Q (.exit 0) a' w') : ∀ ac, Frm 87 [(1, .slice De me ee), (2, .func (Fn.func 117) #[] #[.pointer (some ⟨bn, 0, none⟩), .pointer (some ⟨bu, 0, none⟩)]), (3, .pointer (some ⟨wo.heap.size, 0, none⟩)), (6, .pointer (some ⟨wo.heap.size + 1, 0, none⟩)), (7, .pointer (some ⟨wo.heap.size + 2, 0, none⟩)), (19, .slice A n1 c1), (20, .int .i64 (n1 : Nat)), (21, .int .i64 (0 : Nat))] ac → Code.wp Tryd.prog c_rn_wl Q ac w := by
  subst hw0
  intro a0 hf0
  conv => arg 2; whnf
  obtain ⟨A', n', c', e9, hlen2, hmax, _⟩ := id hu
  injection e9 with e1 e2 e3
  subst e1 e2 e3
  obtain ⟨D', m', e', e9, hfl, hfm, _⟩ := id hf
  injection e9 with e1 e2 e3
  subst e1 e2 e3
  have hbw := hs.p bn rfl
  refine wp_loopR (fun g a' w' => ∃ (i : Nat) (v' : Value), i + g = us.length ∧ CY (· = bn) wo w' v' ((us.take i).map (lookE env)) x vs kd nm A n1 c1 B n2 c2 ∧ w'.heap[bn]? = some (.cells #[.int .i64 (k : Nat)] 3 (0, 0)) ∧ Frm 87 [(1, .slice De me ee), (2, .func (Fn.func 117) #[] #[.pointer (some ⟨bn, 0, none⟩), .pointer (some ⟨bu, 0, none⟩)]), (3, .pointer (some ⟨wo.heap.size, 0, none⟩)), (6, .pointer (some ⟨wo.heap.size + 1, 0, none⟩)), (7, .pointer (some ⟨wo.heap.size + 2, 0, none⟩)), (19, .slice A n1 c1), (20, .int .i64 (n1 : Nat)), (21, .int .i64 (i : Nat))] a') us.length ⟨0, vw, by omega, by simpa using hs, hk, hf0⟩ ?_
  rintro g a1 w1 ⟨i, v1, hig, hs1, hk1, h1⟩
  refine wp_seq ?_
  refine rn_r3_wp (fun a2 h2 => ?_) a1 h1
  refine wp_seq ?_
  by_cases hi : i < n1
  case neg =>
    refine wp_cond_false ((h2.eval (k := 22) (v := .bool (decide (i < n1))) (by simp)).trans (by rw [decide_eq_false hi])) ?_
    refine wp_exit (hX v1 a2 w1 ⟨h2.1, h2.2.1, h2.2.2.1, h2.2.2.2.1, h2.2.2.2.2.1, h2.2.2.2.2.2.1, h2.2.2.2.2.2.2.1, trivial⟩ ?_ hk1)
    rwa [List.take_of_length_le (by omega)] at hs1
  refine wp_cond_true ((h2.eval (k := 22) (v := .bool (decide (i < n1))) (by simp)).trans (by rw [decide_eq_true hi])) ?_
  refine wp_skip ?_
  show Code.wp _ _ _ a2 w1
  have hold := fun k hk => hs1.b.block k (hS k hk).1 (hS k hk).2
  have hbs := hs1.b.size
  have hil : i < us.length := by omega
  obtain ⟨b, o, cs, rfl, hSb, ⟨rfl, hsz⟩, hc⟩ := Rep.Sl.at_ hu (List.getElem?_eq_getElem hil)
  have hc0 : w1.cell? ⟨b, o + i, none⟩ = some (.string us[i]) := (cell_keep (hold b hSb) _).trans (by simpa [strRep] using hc 0 _ rfl)
  have hll : ((us.take i).map (lookE env)).length ≤ 1000000 := by
    rw [List.length_map, List.length_take]; omega
  refine wp_seq ?_
  refine wp_block ?_
  refine wp_seq ?_
  refine rn_r4_wp hi hc0 (by have := (hS b hSb).1; omega) (fun a3 h3 => ?_) a2 ⟨h2.1, h2.2.1, h2.2.2.1, h2.2.2.2.1, h2.2.2.2.2.1, h2.2.2.2.2.2.1, h2.2.2.2.2.2.2.1, h2.2.2.2.2.2.2.2.1, h2.2.2.2.2.2.2.2.2.1, h2.2.2.2.2.2.2.2.2.2.1, trivial⟩
  refine wp_seq ?_
  refine wp_seq ?_
  refine rn_r5_wp hfm (fun a4 h4 => ?_) a3 h3
  refine wp_block ?_
  refine rn_look_wp (SS := SS) (env := env) (fun k hk => by have := (hS k hk).1; omega) (hf.keep hold (fun _ h => h)) (fun a5 h5 => ?_) a4 h4
  refine inBlock_exit ?_
  show Code.wp _ _ _ a5 w1
  refine rn_r10_wp hll hs1 hbw hk1 (fun v6 a6 w6 h6 hs6 hk6 => ?_) a5 h5
  show Code.wp _ _ _ a6 w6
  refine rn_r11_wp hi (by omega) (fun a7 h7 => ?_) a6 h6
  refine ⟨g - 1, by omega, i + 1, v6, by omega, ?_, hk6, h7⟩
  rw [List.take_succ_eq_append_getElem hil, List.map_append]
  exact hs6
noncomputable def c_rn_sl : Code := sub [1, 1, 1, 1, 0, 1, 0] (Tryd.f119.body.getD .skip)
set_option maxRecDepth 100000 in
set_option maxHeartbeats 4000000 in
theorem rn_sl_wp {Q : Exit → Act → World → Prop} {SS : Nat → Prop} {nmf : Nat → ByteArray} {cf : Nat → Nat} {w0 : World} {env : Env} {ks : List Fm} {k : Nat} {De : Option Addr} {bn bu me ee : Nat} {vw vs : Value} {ws : List ByteArray} {x : ByteArray} {wo w : World} {kd : Int} {nm : ByteArray} {A B : Option Addr} {n1 c1 n2 c2 : Nat} (hw0 : w0.heap.size ≤ wo.heap.size) (hS : ∀ k, SS k → k < w.heap.size ∧ k ≠ bn ∧ k ≠ wo.heap.size + 2) (hf : bindRep.Sl w SS (.slice De me ee) env) (hk : fmRep.Sl w SS (.slice B n2 c2) ks) (hkl : ks.length ≤ 1000) (hcn : w.heap[bn]? = some (.cells #[.int .i64 ((cf k) : Nat)] 3 (0, 0))) (hk0 : Keeps (· = bn) w0 w) (hs : CY (· = bn) wo w vw ws x vs kd nm A n1 c1 B n2 c2) (ho : fmRep.Own 29 (wo.heap.size + 3) w (fun b => wo.heap.size + 3 ≤ b ∧ b < w.heap.size) vs []) (hv0 : vs.ownBlock = none) (ih : ∀ (t : Fm) (cs : List Value) (W : World) (kk : Nat), t ∈ ks → kk + quN t ≤ k + quNs ks → fmRep.R W SS t cs → (∀ k, SS k → k < W.heap.size ∧ k ≠ bn) → bindRep.Sl W SS (.slice De me ee) env → Keeps (· = bn) w0 W → W.heap[bn]? = some (.cells #[.int .i64 ((cf kk) : Nat)] 3 (0, 0)) → Calls Tryd.prog 119 #[.agg cs.toArray, .slice De me ee, .func (Fn.func 117) #[] #[.pointer (some ⟨bn, 0, none⟩), .pointer (some ⟨bu, 0, none⟩)]] W fun e w' => ∃ es : List Value, e = .returned (.agg es.toArray) ∧ fmRep.R w' (fun b => W.heap.size ≤ b ∧ b < w'.heap.size) (renF nmf env t kk).1 es ∧ Keeps (· = bn) W w' ∧ w'.heap[bn]? = some (.cells #[.int .i64 ((cf (renF nmf env t kk).2) : Nat)] 3 (0, 0))) 
    (hX : ∀ v' a' w', Frm 87 [(1, .slice De me ee), (2, .func (Fn.func 117) #[] #[.pointer (some ⟨bn, 0, none⟩), .pointer (some ⟨bu, 0, none⟩)]), (3, .pointer (some ⟨wo.heap.size, 0, none⟩)), (6, .pointer (some ⟨wo.heap.size + 1, 0, none⟩)), (7, .pointer (some ⟨wo.heap.size + 2, 0, none⟩))] a' → CY (· = bn) wo w' vw ws x v' kd nm A n1 c1 B n2 c2 → fmRep.Own 29 (wo.heap.size + 3) w' (fun b => wo.heap.size + 3 ≤ b ∧ b < w'.heap.size) v' (renFs nmf env ks k).1 → w'.heap[bn]? = some (.cells #[.int .i64 ((cf (renFs nmf env ks k).2) : Nat)] 3 (0, 0)) → Q (.exit 4) a' w') : ∀ ac, Frm 87 [(1, .slice De me ee), (2, .func (Fn.func 117) #[] #[.pointer (some ⟨bn, 0, none⟩), .pointer (some ⟨bu, 0, none⟩)]), (3, .pointer (some ⟨wo.heap.size, 0, none⟩)), (6, .pointer (some ⟨wo.heap.size + 1, 0, none⟩)), (7, .pointer (some ⟨wo.heap.size + 2, 0, none⟩)), (70, .slice B n2 c2), (71, .int .i64 (n2 : Nat)), (72, .int .i64 (0 : Nat))] ac → Code.wp Tryd.prog c_rn_sl Q ac w := by
  intro a0 hf0
  conv => arg 2; whnf
  obtain ⟨B', n', c', e9, hlen, hmax, _⟩ := id hk
  injection e9 with e1 e2 e3
  subst e1 e2 e3
  have hbw := hs.p bn rfl
  refine wp_loopR (fun g a' w' => ∃ (j : Nat) (v' : Value), j + g = ks.length ∧ CY (· = bn) wo w' vw ws x v' kd nm A n1 c1 B n2 c2 ∧ fmRep.Own 29 (wo.heap.size + 3) w' (fun b => wo.heap.size + 3 ≤ b ∧ b < w'.heap.size) v' (renFs nmf env (ks.take j) k).1 ∧ w'.heap[bn]? = some (.cells #[.int .i64 ((cf (renFs nmf env (ks.take j) k).2) : Nat)] 3 (0, 0)) ∧ (∀ b, b < w.heap.size → b ≠ bn → b ≠ wo.heap.size + 2 → w'.heap[b]? = w.heap[b]?) ∧ (∀ b, v'.ownBlock = some b → w.heap.size ≤ b) ∧ w.heap.size ≤ w'.heap.size ∧ Frm 87 [(1, .slice De me ee), (2, .func (Fn.func 117) #[] #[.pointer (some ⟨bn, 0, none⟩), .pointer (some ⟨bu, 0, none⟩)]), (3, .pointer (some ⟨wo.heap.size, 0, none⟩)), (6, .pointer (some ⟨wo.heap.size + 1, 0, none⟩)), (7, .pointer (some ⟨wo.heap.size + 2, 0, none⟩)), (70, .slice B n2 c2), (71, .int .i64 (n2 : Nat)), (72, .int .i64 (j : Nat))] a') ks.length ⟨0, vs, by omega, hs, by simpa [renFs] using ho, by simpa [renFs] using hcn, fun _ _ _ _ => rfl, fun b e => by rw [hv0] at e; (cases e), Nat.le_refl _, hf0⟩ ?_
  rintro g a1 w1 ⟨j, v1, hjg, hs1, ho1, hk1, hfr, hvb, hsz1, h1⟩
  refine wp_seq ?_
  refine rn_r16_wp (fun a2 h2 => ?_) a1 h1
  refine wp_seq ?_
  by_cases hj : j < n2
  case neg =>
    refine wp_cond_false ((h2.eval (k := 73) (v := .bool (decide (j < n2))) (by simp)).trans (by rw [decide_eq_false hj])) ?_
    refine wp_exit (hX v1 a2 w1 ⟨h2.1, h2.2.1, h2.2.2.1, h2.2.2.2.1, h2.2.2.2.2.1, h2.2.2.2.2.2.1, h2.2.2.2.2.2.2.1, trivial⟩ hs1 ?_ ?_)
    · rwa [List.take_of_length_le (by omega)] at ho1
    · rwa [List.take_of_length_le (by omega)] at hk1
  refine wp_cond_true ((h2.eval (k := 73) (v := .bool (decide (j < n2))) (by simp)).trans (by rw [decide_eq_true hj])) ?_
  refine wp_skip ?_
  show Code.wp _ _ _ a2 w1
  have hjl : j < ks.length := by omega
  obtain ⟨b, o, cs, rfl, hSb, hr, hc⟩ := Rep.Sl.at_ hk (List.getElem?_eq_getElem hjl)
  obtain ⟨Ae, n3, c3, Be, n4, c4, rfl, _, _, _, _⟩ := Fm.shape hr
  have hold : ∀ k, SS k → w1.heap[k]? = w.heap[k]? := fun k hk => hfr k (hS k hk).1 (hS k hk).2.1 (hS k hk).2.2
  have hkb := hold b hSb
  have e0 : w1.cell? ⟨b, o + j * 4, none⟩ = _ := (cell_keep hkb _).trans (hc 0 _ rfl)
  have e1 : w1.cell? ⟨b, o + j * 4 + 1, none⟩ = _ := (cell_keep hkb _).trans (hc 1 _ rfl)
  have e2 : w1.cell? ⟨b, o + j * 4 + 2, none⟩ = _ := (cell_keep hkb _).trans (hc 2 _ rfl)
  have e3 : w1.cell? ⟨b, o + j * 4 + 3, none⟩ = _ := (cell_keep hkb _).trans (hc 3 _ rfl)
  have hSw : ∀ k, SS k → k < w1.heap.size := fun k hk => by have := (hS k hk).1; omega
  have hqu := quNs_take ks j hjl
  have hcnt : (renFs nmf env (ks.take j) k).2 = k + quNs (ks.take j) := renFs_count _ _ _ _
  refine wp_seq ?_
  refine wp_block ?_
  refine wp_seq ?_
  refine rn_r17_wp hj e0 e1 e2 e3 (by have := hSw b hSb; omega) (fun a3 h3 => ?_) a2 ⟨h2.1, h2.2.1, h2.2.2.1, h2.2.2.2.1, h2.2.2.2.2.1, h2.2.2.2.2.2.1, h2.2.2.2.2.2.2.1, h2.2.2.2.2.2.2.2.1, h2.2.2.2.2.2.2.2.2.1, h2.2.2.2.2.2.2.2.2.2.1, trivial⟩
  refine gen_last (fun wx => wx.heap[w1.heap.size]? = some (.cells #[.int .i64 ks[j].lab.kind, .string ks[j].lab.nm, .slice Ae n3 c3, .slice Be n4 c4] 29 (0, 0)) ∧ Below w1.heap.size w1 wx) ⟨heap_alloc_new _ _, (Below.refl _ _).alloc (Nat.le_refl _) _⟩ ?_
  rintro wx ⟨hge, hbx⟩
  have hbxs := hbx.size
  have hsx := hs1.below hbx
  have hox : fmRep.Own 29 (wo.heap.size + 3) wx (fun b => wo.heap.size + 3 ≤ b ∧ b < wx.heap.size) v1 (renFs nmf env (ks.take j) k).1 := ho1.keep (fun b hb => hbx.block b hb) (fun b hb => hb.2) (fun b hb => ⟨hb.1, by omega⟩)
  have hcall : ∀ W : World, Below wx.heap.size wx W → Calls Tryd.prog 119 #[.agg #[.int .i64 ks[j].lab.kind, .string ks[j].lab.nm, .slice Ae n3 c3, .slice Be n4 c4], .slice De me ee, .func (Fn.func 117) #[] #[.pointer (some ⟨bn, 0, none⟩), .pointer (some ⟨bu, 0, none⟩)]] W fun e w' => ∃ es : List Value, e = .returned (.agg es.toArray) ∧ fmRep.R w' (fun b => wx.heap.size ≤ b ∧ b < w'.heap.size) (renF nmf env ks[j] (renFs nmf env (ks.take j) k).2).1 es ∧ Keeps (· = bn) wx w' ∧ w'.heap[bn]? = some (.cells #[.int .i64 ((cf (renF nmf env ks[j] (renFs nmf env (ks.take j) k).2).2) : Nat)] 3 (0, 0)) := by
    intro W hb
    have hbz := hb.size
    have holdW : ∀ k, SS k → W.heap[k]? = w.heap[k]? := fun k hk => (hb.block k (by have := hSw k hk; omega)).trans ((hbx.block k (hSw k hk)).trans (hold k hk))
    have hkW : Keeps (· = bn) w0 W := by
      have hwo : Keeps (· = bn) wo W := (hs1.b.trans (Below.keeps hbx _)).trans (Below.keeps hb _)
      have h00 := hk0.size
      exact ⟨hwo.os.trans (hs.b.os.symm.trans hk0.os), hwo.tape.trans (hs.b.tape.symm.trans hk0.tape), hwo.output.trans (hs.b.output.symm.trans hk0.output), by omega, fun i h1 h2 => (hwo.block i (by omega) h2).trans ((hs.b.block i (by omega) h2).symm.trans (hk0.block i h1 h2))⟩
    refine (ih ks[j] _ W (renFs nmf env (ks.take j) k).2 (List.getElem_mem hjl) (by omega) (fmRep.keep hr holdW (fun _ h => h)) (fun k hk => ⟨by have := hSw k hk; omega, (hS k hk).2.1⟩) (hf.keep holdW (fun _ h => h)) hkW ((hb.block bn (by have := lt_heap hk1; omega)).trans ((hbx.block bn (lt_heap hk1)).trans hk1))).mono ?_
    rintro e w' ⟨es, he, hr9, hb9, hk9⟩
    exact ⟨es, he, Rep.mono hr9 (fun b hb => ⟨by omega, hb.2⟩), (Below.keeps hb _).trans hb9, hk9⟩
  show Code.wp _ _ _ a3 wx
  refine Code.wp_mono (Q := Exit.then (fun a' w' => ∃ v' : Value, Frm 87 [(1, .slice De me ee), (2, .func (Fn.func 117) #[] #[.pointer (some ⟨bn, 0, none⟩), .pointer (some ⟨bu, 0, none⟩)]), (3, .pointer (some ⟨wo.heap.size, 0, none⟩)), (6, .pointer (some ⟨wo.heap.size + 1, 0, none⟩)), (7, .pointer (some ⟨wo.heap.size + 2, 0, none⟩)), (70, .slice (some ⟨b, o, none⟩) n2 c2), (71, .int .i64 (n2 : Nat)), (72, .int .i64 (j : Nat))] a' ∧ CY (· = bn) wo w' vw ws x v' kd nm A n1 c1 (some ⟨b, o, none⟩) n2 c2 ∧ fmRep.Own 29 (wo.heap.size + 3) w' (fun b => wo.heap.size + 3 ≤ b ∧ b < w'.heap.size) v' ((renFs nmf env (ks.take j) k).1 ++ [(renF nmf env ks[j] (renFs nmf env (ks.take j) k).2).1]) ∧ w'.heap[bn]? = some (.cells #[.int .i64 ((cf (renF nmf env ks[j] (renFs nmf env (ks.take j) k).2).2) : Nat)] 3 (0, 0)) ∧ Fra (· = bn) (wo.heap.size + 2) wx w' v1 v') (fun _ _ _ => False)) ?_ (rn_r18_wp (b := 0) (o := 0) hge hbw (by rw [renFs_len, List.length_take]; omega) hcall hsx hox (fun v' a' w' h' hs' ho' hk' hf' => ⟨v', h', hs', ho', hk', hf'⟩) a3 h3)
  intro ex a4 w4 hx
  cases ex with
  | normal =>
    obtain ⟨v4, h4, hs4, ho4, hk4, hf4⟩ := hx
    have hf4s := hf4.size
    show Code.wp _ _ _ a4 w4
    refine rn_r19_wp hj (by omega) (fun a5 h5 => ?_) a4 h4
    have htk := renFs_take nmf env ks k j hjl
    have hcl1 := lt_heap hs1.c
    refine ⟨g - 1, by omega, j + 1, v4, by omega, hs4, by rw [htk]; exact ho4, by rw [htk]; exact hk4, fun b h1 h2 h3 => (hf4.keep b (by omega) h2 h3 (fun e => by have := hvb b e; omega)).trans ((hbx.block b (by omega)).trans (hfr b h1 h2 h3)), fun b e => ?_, by omega, h5⟩
    rcases hf4.at_ b e with e | e
    · exact hvb b e
    · omega
  | _ => exact hx.elim
noncomputable def c_rn_p15 : Code := sub [1, 1, 1, 1] (Tryd.f119.body.getD .skip)
set_option maxRecDepth 100000 in
set_option maxHeartbeats 4000000 in
/-- folform.renamed. -/
theorem renamed_any : ∀ (N : Nat) (t : Fm) (cs : List Value) (w w0 : World) (S : Nat → Prop) (De : Option Addr) (me ee : Nat) (env : Env) (k bn bu KM : Nat) (nmf : Nat → ByteArray) (cf : Nat → Nat), t.nodes ≤ N → N ≤ 1000 → (allW t).length ≤ 1000000 → env.length + N ≤ 10000 → k + quN t ≤ KM → (∀ j, j < KM → (nmf j).size ≤ maxLen) → (me = 0 → De = none) → me ≤ ee → fmRep.R w S t cs → (∀ b, S b → b < w.heap.size ∧ b ≠ bn) → bindRep.Sl w S (.slice De me ee) env → Keeps (· = bn) w0 w → (∀ (W : World) (k : Nat), k < KM → Keeps (· = bn) w0 W → W.heap[bn]? = some (.cells #[.int .i64 ((cf k) : Nat)] 3 (0, 0)) → Calls Tryd.prog 117 #[.pointer (some ⟨bn, 0, none⟩), .pointer (some ⟨bu, 0, none⟩)] W fun e w' => e = .returned (.string (nmf k)) ∧ w'.heap[bn]? = some (.cells #[.int .i64 ((cf (k + 1)) : Nat)] 3 (0, 0)) ∧ Keeps (· = bn) W w') → w.heap[bn]? = some (.cells #[.int .i64 ((cf k) : Nat)] 3 (0, 0)) →
    Calls Tryd.prog 119 #[.agg cs.toArray, .slice De me ee, .func (Fn.func 117) #[] #[.pointer (some ⟨bn, 0, none⟩), .pointer (some ⟨bu, 0, none⟩)]] w (fun e w' => ∃ es : List Value, e = .returned (.agg es.toArray) ∧ fmRep.R w' (fun b => w.heap.size ≤ b ∧ b < w'.heap.size) (renF nmf env t k).1 es ∧ Keeps (· = bn) w w' ∧ w'.heap[bn]? = some (.cells #[.int .i64 ((cf (renF nmf env t k).2) : Nat)] 3 (0, 0))) := by
  intro N
  induction N with
  | zero => intro t; have := t.nodes_pos; intros; omega
  | succ N ih =>
  intro t cs w w0 S De me ee env k bn bu KM nmf cf hN hN1 hal hen hkq hnz hDe hmee ht hS hf hk0 hnx hcn
  obtain ⟨⟨kd, nm, us⟩, ks⟩ := t
  obtain ⟨u, v9, rfl, hnm, hw, hl⟩ := Fm.open_ ht
  simp only at hw hnm
  obtain ⟨A, n1, c1, rfl, e1, hm1, _⟩ := id hw
  obtain ⟨B, n2, c2, rfl, e2, hm2, _⟩ := id hl
  clear ht
  have hbn := lt_heap hcn
  have hk0s := hk0.size
  have hez := bind_sizes hf
  have hmf : env.length = me := by
    obtain ⟨_, _, _, e9, h9, _⟩ := id hf
    injection e9 with _ e9 _
    omega
  have hkn := Tree.nodess_len ks
  simp only [Tree.nodes] at hN
  simp only [allW, List.length_append] at hal
  go_enter Tryd.func119, Tryd.ntmps119
  refine wp_seq ?_
  refine rn_r0_wp (fun a0 h0 => ?_) _ (id ⟨rfl, rfl, rfl, rfl, rfl, trivial⟩)
  refine gen_last (fun wx => wx.heap[w.heap.size]? = some (.cells #[.int .i64 kd, .string nm, .slice A n1 c1, .slice B n2 c2] 29 (0, 0)) ∧ wx.heap[w.heap.size + 1]? = some (.cells #[.int .i64 0, .string ⟨#[]⟩, .slice none 0 0, .slice none 0 0] 29 (0, 0)) ∧ wx.heap.size = w.heap.size + 2 ∧ Below w.heap.size w wx) ⟨heap_old (by simp) (heap_at (by simp)), heap_at (by simp), by simp, ((Below.refl _ _).alloc (Nat.le_refl _) _).alloc (by simp) _⟩ ?_
  rintro wx ⟨ha, hz, hsz, hb⟩
  refine wp_seq ?_
  refine rn_r1_wp ha (fun a1 h1 => ?_) a0 h0
  rw [hsz] at h1
  refine gen_last (fun wy => CY (· = bn) w wy (.slice none 0 0) [] nm (.slice none 0 0) kd nm A n1 c1 B n2 c2 ∧ wy.heap[bn]? = some (.cells #[.int .i64 ((cf k) : Nat)] 3 (0, 0))) ⟨CY.start ha hz hsz hb (fun k e => by have e : k = bn := e; omega), heap_old (by rw [hsz]; omega) ((hb.block bn hbn).trans hcn)⟩ ?_
  rintro wy ⟨hs, hcy⟩
  have p15 : ∀ (a5 : Act) (w5 : World) (S' : Nat → Prop) (De : Option Addr) (me ee : Nat) (env' : Env) (k' : Nat) (x : ByteArray) (vw : Value), x.size ≤ maxLen → (renF nmf env (.mk ⟨kd, nm, us⟩ ks) k = (.mk ⟨kd, x, us.map (lookE env)⟩ (renFs nmf env' ks k').1, (renFs nmf env' ks k').2)) → env'.length + N ≤ 10000 → k' + quNs ks ≤ KM → (me = 0 → De = none) → me ≤ ee → (∀ b, S b → S' b) → (∀ b, S' b → b < w5.heap.size ∧ b ≠ bn ∧ b ≠ w.heap.size + 2) → bindRep.Sl w5 S' (.slice De me ee) env' → w5.heap[bn]? = some (.cells #[.int .i64 ((cf k') : Nat)] 3 (0, 0)) → CY (· = bn) w w5 vw (us.map (lookE env)) x (.slice none 0 0) kd nm A n1 c1 B n2 c2 → Frm 87 [(1, .slice De me ee), (2, .func (Fn.func 117) #[] #[.pointer (some ⟨bn, 0, none⟩), .pointer (some ⟨bu, 0, none⟩)]), (3, .pointer (some ⟨w.heap.size, 0, none⟩)), (6, .pointer (some ⟨w.heap.size + 1, 0, none⟩)), (7, .pointer (some ⟨w.heap.size + 2, 0, none⟩))] a5 → Code.wp Tryd.prog c_rn_p15 (bodyPost Tryd.prog Tryd.f119 (fun e w' => ∃ es : List Value, e = .returned (.agg es.toArray) ∧ fmRep.R w' (fun b => w.heap.size ≤ b ∧ b < w'.heap.size) (renF nmf env (.mk ⟨kd, nm, us⟩ ks) k).1 es ∧ Keeps (· = bn) w w' ∧ w'.heap[bn]? = some (.cells #[.int .i64 ((cf (renF nmf env (.mk ⟨kd, nm, us⟩ ks) k).2) : Nat)] 3 (0, 0)))) a5 w5 := by
    intro a5 w5 S' De me ee env' k' x vw hxs ex hen' hkq' hDe' hme' hsub hS5 hf5 hk5 hs5 h5
    conv => arg 2; whnf
    refine wp_seq ?_
    refine wp_seq ?_
    refine rn_r15_wp hs5 (fun a6 h6 => ?_) a5 h5
    refine wp_block ?_
    refine rn_sl_wp (SS := S') (env := env') (k := k') (w0 := w0) (nmf := nmf) (cf := cf) hk0s hS5 hf5 (hl.keep (fun b hb => hs5.b.block b (hS b hb).1 (hS b hb).2) hsub) (by omega) hk5 (hk0.trans hs5.b) hs5 Rep.Own.nil rfl (fun t cs W kk htl hkk hr hS9 hf9 hk9 hc9 => ?_) (fun v7 a7 w7 h7 hs7 ho7 hk7 => ?_) a6 h6
    · obtain ⟨j, hj, rfl⟩ := List.getElem_of_mem htl
      have := Tree.nodes_at ks j hj
      have := allWs_at_le ks j hj
      exact ih ks[j] cs W w0 S' De me ee env' kk bn bu KM nmf cf (by omega) (by omega) (by omega) hen' (by omega) hnz hDe' hme' hr hS9 hf9 hk9 hnx hc9
    · refine inBlock_exit ?_
      show Code.wp _ _ _ a7 w7
      obtain ⟨Aw, cw, rfl⟩ : ∃ A c, vw = .slice A (us.map (lookE env)).length c := by
        rcases hs7.rw.2 with ⟨e, e0⟩ | ⟨g, cap, cur, e, _⟩
        · exact ⟨none, 0, by rw [e, e0]⟩
        · exact ⟨_, _, e⟩
      obtain ⟨Av, cv, rfl⟩ := ho7.len
      have hbs := hs7.b.size
      have hzl := lt_heap hs7.z
      refine wp_seq ?_
      refine rn_r20_wp hs7.c hs7.z (fun a8 w8 h8 hz8 hk8 => ?_) a7 ⟨h7.1, h7.2.1, h7.2.2.2.2.2.1, h7.2.2.2.2.2.2.1, trivial⟩
      refine wp_ret ?_
      refine rn_ret_wp hz8 ⟨rfl, rfl, rfl, rfl⟩ ⟨_, rfl, ?_, ?_, ?_⟩ a8 h8
      · have h9 := hs7.fin ho7 hxs (fun s hs => ?_) (by rw [List.length_map]; omega) (by rw [renFs_len]; omega) hk8
        · rw [ex]
          exact h9
        · obtain ⟨y, hy, rfl⟩ := List.mem_map.1 hs
          exact lookE_size y env y (fun p hp => (hez p hp).2) (sl_sizes hw y hy)
      · exact hs7.b.step hk8 (fun i e => Or.inr (by have e : i = w.heap.size + 1 := e; omega))
      · rw [ex]
        exact (hk8.block bn (by omega) (by omega)).trans hk7
  refine wp_seq ?_
  refine wp_seq ?_
  refine rn_r2_wp hs (fun a2 h2 => ?_) a1 h1
  refine wp_block ?_
  refine rn_wl_wp (SS := S) (env := env) hS hf hw (by omega) rfl hcy hs (fun v3 a3 w3 h3 hs3 hk3 => ?_) a2 h2
  refine inBlock_exit ?_
  show Code.wp _ _ _ a3 w3
  refine wp_seq ?_
  refine wp_seq ?_
  refine rn_r12_wp hs3 (fun a4 w4 h4 hs4 hb4 => ?_) a3 h3
  have hk4 := (hb4.block bn (lt_heap hk3)).trans hk3
  have hq : isQu kd = true ↔ kd = 8 ∨ kd = 9 := by unfold isQu; simp
  have hbs4 := hs4.b.size
  have hcl4 := lt_heap hs4.c
  have hold4 := fun b hb => hs4.b.block b (hS b hb).1 (hS b hb).2
  have hf4 := hf.keep hold4 (fun _ h => h)
  have hS4 : ∀ b, S b → b < w4.heap.size ∧ b ≠ bn ∧ b ≠ w.heap.size + 2 := fun b hb => by have := hS b hb; exact ⟨by omega, this.2, by omega⟩
  cases hk : isQu kd
  · rw [hk] at h4
    refine wp_cond_false ((h4.eval (k := 52) (v := .bool false) (by simp)).trans (by rw [show false = false from rfl])) ?_
    refine wp_skip ?_
    have hnq : ¬ isQ kd := fun h => by rw [hq.2 h] at hk; cases hk
    refine p15 a4 w4 S De me ee env k nm v3 hnm (renF_n (a := ⟨kd, nm, us⟩) hnq) (by omega) ?_ hDe hmee (fun _ h => h) hS4 hf4 hk4 hs4 ⟨h4.1, h4.2.1, h4.2.2.1, h4.2.2.2.1, h4.2.2.2.2.1, h4.2.2.2.2.2.1, h4.2.2.2.2.2.2.1, trivial⟩
    simp only [quN] at hkq
    omega
  · rw [hk] at h4
    refine wp_cond_true ((h4.eval (k := 52) (v := .bool true) (by simp)).trans (by rw [show true = true from rfl])) ?_
    have hyq : isQ kd := hq.1 hk
    have hkq1 : k + 1 + quNs ks ≤ KM := by
      simp only [quN] at hkq
      rw [if_pos hyq] at hkq
      omega
    refine wp_seq ?_
    refine rn_r13_wp hbn (hnx w4 k (by omega) (hk0.trans hs4.b) hk4) hs4 (fun a6 w6 h6 hs6 hk6 => ?_) a4 ⟨h4.1, h4.2.1, h4.2.2.1, h4.2.2.2.1, h4.2.2.2.2.1, h4.2.2.2.2.2.1, h4.2.2.2.2.2.2.1, trivial⟩
    have hbs6 := hs6.b.size
    have hcl6 := lt_heap hs6.c
    have hold6 := fun b hb => hs6.b.block b (hS b hb).1 (hS b hb).2
    have hf6 := hf.keep hold6 (fun _ h => h)
    have hgz : (nmf k).size ≤ maxLen := hnz k (by omega)
    have fin : ∀ (a7 : Act) (w7 : World) (u7 : Value), w7.ownsRow (w6.heap.size + 1) 102 2 u7 (me + 1) (bindVals env ++ [.string nm, .string (nmf k)]) → Below w6.heap.size w6 w7 → Frm 87 [(1, u7), (2, .func (Fn.func 117) #[] #[.pointer (some ⟨bn, 0, none⟩), .pointer (some ⟨bu, 0, none⟩)]), (3, .pointer (some ⟨w.heap.size, 0, none⟩)), (6, .pointer (some ⟨w.heap.size + 1, 0, none⟩)), (7, .pointer (some ⟨w.heap.size + 2, 0, none⟩))] a7 → Code.wp Tryd.prog c_rn_p15 (bodyPost Tryd.prog Tryd.f119 (fun e w' => ∃ es : List Value, e = .returned (.agg es.toArray) ∧ fmRep.R w' (fun b => w.heap.size ≤ b ∧ b < w'.heap.size) (renF nmf env (.mk ⟨kd, nm, us⟩ ks) k).1 es ∧ Keeps (· = bn) w w' ∧ w'.heap[bn]? = some (.cells #[.int .i64 ((cf (renF nmf env (.mk ⟨kd, nm, us⟩ ks) k).2) : Nat)] 3 (0, 0)))) a7 w7 := by
      intro a7 w7 u7 g1 g3 h7
      have hs7 := hs6.below g3
      have g3s := g3.size
      have hl1 : (env ++ [(nm, nmf k)]).length = me + 1 := by simp [hmf]
      have hbv : bindVals (env ++ [(nm, nmf k)]) = bindVals env ++ [.string nm, .string (nmf k)] := by simp [bindVals]
      have r1 : w7.ownsRow (w6.heap.size + 1) 102 2 u7 (env ++ [(nm, nmf k)]).length (bindVals (env ++ [(nm, nmf k)])) := by rw [hl1, hbv]; exact g1
      have hez2 : ∀ p ∈ env ++ [(nm, nmf k)], p.1.size ≤ maxLen ∧ p.2.size ≤ maxLen := by
        intro p hp
        rcases List.mem_append.1 hp with hp | hp
        · exact hez p hp
        · simp at hp; subst hp; exact ⟨hnm, hgz⟩
      have q1 := bind_of_row (S := fun b => S b ∨ (w6.heap.size ≤ b ∧ b < w7.heap.size)) r1 hez2 (by rw [hl1]; unfold maxLen; omega) (fun b h1 h2 => Or.inr ⟨by omega, h2⟩)
      obtain ⟨A1, d1, rfl, hd1⟩ : ∃ A d, u7 = .slice A (me + 1) d ∧ me + 1 ≤ d := by
        rcases g1.2 with ⟨_, e0⟩ | ⟨g, cap, cur, e, _, _, h2, _⟩
        · omega
        · exact ⟨_, _, e, h2⟩
      refine p15 a7 w7 (fun b => S b ∨ (w6.heap.size ≤ b ∧ b < w7.heap.size)) A1 (me + 1) d1 (env ++ [(nm, nmf k)]) (k + 1) (nmf k) v3 hgz (renF_q (a := ⟨kd, nm, us⟩) hyq) (by simp; omega) hkq1 (by omega) hd1 (fun b h => Or.inl h) (fun b hb => ?_) q1 ((g3.block bn (by omega)).trans hk6) hs7 h7
      rcases hb with hb | hb
      · have := hS b hb; exact ⟨by omega, this.2, by omega⟩
      · exact ⟨by omega, by omega, by omega⟩
    rcases bind_cells hf6 hDe with ⟨rfl, rfl, rfl⟩ | ⟨b, o, rfl, hSb, hm0, hcell⟩
    · refine Code.wp_mono (Q := Exit.then (fun a' w' => ∃ u7 : Value, Frm 87 [(1, u7), (2, .func (Fn.func 117) #[] #[.pointer (some ⟨bn, 0, none⟩), .pointer (some ⟨bu, 0, none⟩)]), (3, .pointer (some ⟨w.heap.size, 0, none⟩)), (6, .pointer (some ⟨w.heap.size + 1, 0, none⟩)), (7, .pointer (some ⟨w.heap.size + 2, 0, none⟩))] a' ∧ w'.ownsRow (w6.heap.size + 1) 102 2 u7 (0 + 1) ([] ++ [.string nm, .string (nmf k)]) ∧ Below w6.heap.size w6 w') (fun _ _ _ => False)) ?_ (rn_r14n_wp hs6 (fun v' a' w' h' g1 g3 => ⟨v', h', g1, g3⟩) a6 h6)
      intro ex a7 w7 hx
      cases ex with
      | normal =>
        obtain ⟨u7, h7, g1, g3⟩ := hx
        exact fin a7 w7 u7 g1 g3 h7
      | _ => exact hx.elim
    · refine Code.wp_mono (Q := Exit.then (fun a' w' => ∃ u7 : Value, Frm 87 [(1, u7), (2, .func (Fn.func 117) #[] #[.pointer (some ⟨bn, 0, none⟩), .pointer (some ⟨bu, 0, none⟩)]), (3, .pointer (some ⟨w.heap.size, 0, none⟩)), (6, .pointer (some ⟨w.heap.size + 1, 0, none⟩)), (7, .pointer (some ⟨w.heap.size + 2, 0, none⟩))] a' ∧ w'.ownsRow (w6.heap.size + 1) 102 2 u7 (me + 1) (bindVals env ++ [.string nm, .string (nmf k)]) ∧ Below w6.heap.size w6 w') (fun _ _ _ => False)) ?_ (rn_r14_wp hmf (by omega) hmee (by have := hS b hSb; omega) hcell hs6 (fun v' a' w' h' g1 g3 => ⟨v', h', g1, g3⟩) a6 h6)
      intro ex a7 w7 hx
      cases ex with
      | normal =>
        obtain ⟨u7, h7, g1, g3⟩ := hx
        exact fin a7 w7 u7 g1 g3 h7
      | _ => exact hx.elim
end

section
open Go Go.RowKit
set_option linter.unusedSimpArgs false
set_option linter.unusedVariables false
set_option maxRecDepth 1000000 in
theorem frame_ca {P : Act → Prop} (h : ∀ x0 x1 x2 x3 x4 x5 x6 x7 x8 x9 x10 x11 x12 x13 x14 x15 x16 x17 x18 x19 x20 x21 x22 x23 x24 x25 x26 x27 x28 x29 x30 x31 x32 x33 x34 x35 x36 x37 x38 x39 x40 x41 x42 : Value, P ⟨(x0 :: x1 :: x2 :: x3 :: x4 :: x5 :: x6 :: x7 :: x8 :: x9 :: x10 :: x11 :: x12 :: x13 :: x14 :: x15 :: x16 :: x17 :: x18 :: x19 :: x20 :: x21 :: x22 :: x23 :: x24 :: x25 :: x26 :: x27 :: x28 :: x29 :: x30 :: x31 :: x32 :: x33 :: x34 :: x35 :: x36 :: x37 :: x38 :: x39 :: x40 :: x41 :: x42 :: []).toArray, []⟩) : ∀ a : Act, a.tmps.toList.length = 43 → a.defers = [] → P a := by
  rintro ⟨⟨l⟩, d⟩ hs hd
  simp only at hd
  subst hd
  revert l
  show ∀ l : List Value, l.length = 43 → P ⟨⟨l⟩, []⟩
  iterate 43 refine openS (fun _ => ?_)
  refine open0 ?_
  exact h ..
/-- In canon: its own blocks, the names that are taken. -/
structure US (wo w : World) (bu : Nat) (v : Value) (l : List ByteArray) (kd : Int) (nm : ByteArray) (A : Option Addr) (n1 c1 : Nat) (B : Option Addr) (n2 c2 : Nat) : Prop where
  a : w.heap[wo.heap.size]? = some (.cells #[.int .i64 kd, .string nm, .slice A n1 c1, .slice B n2 c2] 29 (0, 0))
  z : w.heap[wo.heap.size + 1]? = some (.cells #[.int .i64 0, .string ⟨#[]⟩, .slice none 0 0, .slice none 0 0] 29 (0, 0))
  u : w.heap[bu]? = some (.cells #[v] 26 (0, 0))
  r : w.ownsRow (wo.heap.size + 2) 9 1 v l.length (l.map .string)
  ne : v.ownBlock ≠ some bu
  b : Below wo.heap.size wo w
  lo : wo.heap.size + 2 ≤ bu
theorem US.below {bu : Nat} {v : Value} {l : List ByteArray} {wo w : World} {kd : Int} {nm : ByteArray} {A B : Option Addr} {n1 c1 n2 c2 : Nat} {w' : World} (h : US wo w bu v l kd nm A n1 c1 B n2 c2) (hb : Below w.heap.size w w') : US wo w' bu v l kd nm A n1 c1 B n2 c2 := by
  have h0 := lt_heap h.a
  have h1 := lt_heap h.z
  have h2 := lt_heap h.u
  exact ⟨(hb.block _ h0).trans h.a, (hb.block _ h1).trans h.z, (hb.block _ h2).trans h.u, rowGrownF h.r (fun b hlt _ => hb.block b hlt), h.ne, h.b.trans (hb.mono (by have := h.b.size; omega)), h.lo⟩
theorem row_set {w : World} {base n cap g i : Nat} {E : TypeId} {xs : List Value} {x : Value} (h : w.ownsRow base E 1 (.slice (some ⟨g, 0, none⟩) n cap) n xs) : (w.setCell ⟨g, i, none⟩ x).ownsRow base E 1 (.slice (some ⟨g, 0, none⟩) n cap) n (xs.set i x) := by
  obtain ⟨h3, h4⟩ := h
  refine ⟨by rw [List.length_set]; exact h3, ?_⟩
  rcases h4 with ⟨h4, _⟩ | ⟨g', cap', cur, e, hb, hh, h5, h6, h7, h8⟩
  · cases h4
  · cases e
    exact Or.inr ⟨g, cap, cur.setIfInBounds i x, rfl, hb, heap_set hh _ _, h5, h6, by rw [Array.size_setIfInBounds]; exact h7, by rw [Array.toList_setIfInBounds, List.take_set, h8]⟩
theorem US.put {bu g mu eu i : Nat} {l : List ByteArray} {wo w : World} {kd : Int} {nm : ByteArray} {A B : Option Addr} {n1 c1 n2 c2 : Nat} (h : US wo w bu (.slice (some ⟨g, 0, none⟩) mu eu) l kd nm A n1 c1 B n2 c2) (hm : l.length = mu) (y : ByteArray) : US wo (w.setCell ⟨g, i, none⟩ (.string y)) bu (.slice (some ⟨g, 0, none⟩) mu eu) (l.set i y) kd nm A n1 c1 B n2 c2 := by
  subst hm
  have hg := (h.r.lt g rfl).1
  have hgu : bu ≠ g := fun e => h.ne (by rw [e]; rfl)
  refine ⟨heap_far _ (by omega) h.a, heap_far _ (by omega) h.z, heap_far _ hgu h.u, ?_, h.ne, ⟨h.b.os, h.b.tape, h.b.output, by rw [size_set]; exact h.b.size, fun k hk => (heap_far _ (by omega) rfl).trans (h.b.block k hk)⟩, h.lo⟩
  rw [List.length_set, List.map_set]
  exact row_set h.r
noncomputable def c_ca_r0 : Code := sub [0] (Tryd.f94.body.getD .skip)
set_option maxRecDepth 1000000 in
set_option maxHeartbeats 16000000 in
theorem ca_r0_wp {Q : Exit → Act → World → Prop} {De : Option Addr} {me ee : Nat} {wo : World} {kd : Int} {nm : ByteArray} {A B : Option Addr} {n1 c1 n2 c2 : Nat} (hN : ∀ a', Frm 43 [(1, .slice De me ee), (2, .pointer (some ⟨wo.heap.size, 0, none⟩)), (4, .pointer (some ⟨wo.heap.size + 1, 0, none⟩))] a' → Q .normal a' ((wo.alloc (.cells #[.int .i64 kd, .string nm, .slice A n1 c1, .slice B n2 c2] 29)).alloc (.cells #[.int .i64 0, .string ⟨#[]⟩, .slice none 0 0, .slice none 0 0] 29))) : ∀ ac, Frm 43 [(0, .agg #[.int .i64 kd, .string nm, .slice A n1 c1, .slice B n2 c2]), (1, .slice De me ee)] ac → Code.wp Tryd.prog c_ca_r0 Q ac wo := by
  refine frm_open ?_
  refine frame_ca ?_
  intros
  rename_i hq
  obtain ⟨-, -, e0q, e1q, -⟩ := hq
  obtain rfl := sI e0q
  obtain rfl := sI e1q
  conv => arg 2; whnf
  have HN := Lib.hid hN
  clear hN
  go_wp2_with fail
  exact HN.out _ (id ⟨rfl, rfl, rfl, rfl, rfl, trivial⟩)
noncomputable def c_ca_r1 : Code := sub [1, 0] (Tryd.f94.body.getD .skip)
set_option maxRecDepth 1000000 in
set_option maxHeartbeats 16000000 in
theorem ca_r1_wp {Q : Exit → Act → World → Prop} {PV : Option Addr → Nat → Nat → World → Prop} {De : Option Addr} {me ee : Nat} {wo w : World} {kd : Int} {nm : ByteArray} {A B : Option Addr} {n1 c1 n2 c2 : Nat} (ha : w.heap[wo.heap.size]? = some (.cells #[.int .i64 kd, .string nm, .slice A n1 c1, .slice B n2 c2] 29 (0, 0))) (hc : Calls Tryd.prog 78 #[.agg #[.int .i64 kd, .string nm, .slice A n1 c1, .slice B n2 c2]] w fun e w' => ∃ Du mu eu, e = .returned (.slice Du mu eu) ∧ PV Du mu eu w') (hN : ∀ Du mu eu w1 a', Frm 43 [(1, .slice De me ee), (2, .pointer (some ⟨wo.heap.size, 0, none⟩)), (4, .pointer (some ⟨wo.heap.size + 1, 0, none⟩)), (5, .pointer (some ⟨w1.heap.size, 0, none⟩))] a' → PV Du mu eu w1 → Q .normal a' (w1.alloc (.cells #[.slice Du mu eu] 26))) : ∀ ac, Frm 43 [(1, .slice De me ee), (2, .pointer (some ⟨wo.heap.size, 0, none⟩)), (4, .pointer (some ⟨wo.heap.size + 1, 0, none⟩))] ac → Code.wp Tryd.prog c_ca_r1 Q ac w := by
  refine frm_open ?_
  refine frame_ca ?_
  intros
  rename_i hq
  obtain ⟨-, -, e0q, e1q, e2q, -⟩ := hq
  obtain rfl := sI e0q
  obtain rfl := sI e1q
  obtain rfl := sI e2q
  conv => arg 2; whnf
  have a0 := cellv ha 0 rfl
  have a1 := cellv ha 1 rfl
  have a2 := cellv ha 2 rfl
  have a3 := cellv ha 3 rfl
  have al := lt_heap ha
  clear ha
  have HN := Lib.hid hN
  have HC := Lib.hid hc
  clear hN hc
  go_wp2_with fail
  (with_reducible refine HC.out.mono ?_)
  rintro e w1 ⟨Du, mu, eu, rfl, hp⟩
  have HP := Lib.hid hp
  clear hp
  go_wp2_with fail
  exact HN.out _ _ _ _ _ (id ⟨rfl, rfl, rfl, rfl, rfl, rfl, trivial⟩) HP.out
noncomputable def c_ca_r2 : Code := sub [1, 1, 0, 0] (Tryd.f94.body.getD .skip)
set_option maxRecDepth 1000000 in
set_option maxHeartbeats 16000000 in
theorem ca_r2_wp {Q : Exit → Act → World → Prop} {wo w : World} {De : Option Addr} {me ee bu : Nat} (hN : ∀ a', Frm 43 [(1, .slice De me ee), (2, .pointer (some ⟨wo.heap.size, 0, none⟩)), (4, .pointer (some ⟨wo.heap.size + 1, 0, none⟩)), (5, .pointer (some ⟨bu, 0, none⟩)), (14, .slice De me ee), (15, .int .i64 (me : Nat)), (16, .int .i64 (0 : Nat))] a' → Q .normal a' w) : ∀ ac, Frm 43 [(1, .slice De me ee), (2, .pointer (some ⟨wo.heap.size, 0, none⟩)), (4, .pointer (some ⟨wo.heap.size + 1, 0, none⟩)), (5, .pointer (some ⟨bu, 0, none⟩))] ac → Code.wp Tryd.prog c_ca_r2 Q ac w := by
  refine frm_open ?_
  refine frame_ca ?_
  intros
  rename_i hq
  obtain ⟨-, -, e0q, e1q, e2q, e3q, -⟩ := hq
  obtain rfl := sI e0q
  obtain rfl := sI e1q
  obtain rfl := sI e2q
  obtain rfl := sI e3q
  conv => arg 2; whnf
  have HN := Lib.hid hN
  clear hN
  go_wp2_with fail
  exact HN.out _ (id ⟨rfl, rfl, rfl, rfl, rfl, rfl, rfl, rfl, rfl, trivial⟩)
noncomputable def c_ca_r3 : Code := sub [1, 1, 0, 1, 0, 0, 0] (Tryd.f94.body.getD .skip)
set_option maxRecDepth 1000000 in
set_option maxHeartbeats 16000000 in
theorem ca_r3_wp {Q : Exit → Act → World → Prop} {i : Nat} {wo w : World} {De : Option Addr} {me ee bu : Nat} (hN : ∀ a', Frm 43 [(1, .slice De me ee), (2, .pointer (some ⟨wo.heap.size, 0, none⟩)), (4, .pointer (some ⟨wo.heap.size + 1, 0, none⟩)), (5, .pointer (some ⟨bu, 0, none⟩)), (14, .slice De me ee), (15, .int .i64 (me : Nat)), (16, .int .i64 (i : Nat)), (17, .bool (decide (i < me)))] a' → Q .normal a' w) : ∀ ac, Frm 43 [(1, .slice De me ee), (2, .pointer (some ⟨wo.heap.size, 0, none⟩)), (4, .pointer (some ⟨wo.heap.size + 1, 0, none⟩)), (5, .pointer (some ⟨bu, 0, none⟩)), (14, .slice De me ee), (15, .int .i64 (me : Nat)), (16, .int .i64 (i : Nat))] ac → Code.wp Tryd.prog c_ca_r3 Q ac w := by
  refine frm_open ?_
  refine frame_ca ?_
  intros
  rename_i hq
  obtain ⟨-, -, e0q, e1q, e2q, e3q, e4q, e5q, e6q, -⟩ := hq
  obtain rfl := sI e0q
  obtain rfl := sI e1q
  obtain rfl := sI e2q
  obtain rfl := sI e3q
  obtain rfl := sI e4q
  obtain rfl := sI e5q
  obtain rfl := sI e6q
  conv => arg 2; whnf
  by_cases h : i < me
  · have t1 : decide ((i : Int) < (me : Int)) = true := by first | exact decide_eq_true (by omega) | exact beq_iff_eq.2 (by omega) | exact bne_iff_ne.2 (by omega)
    have t2 : (decide (i < me)) = true := decide_eq_true h
    rw [t2] at hN
    clear h
    have HN := Lib.hid hN
    clear hN
    go_wp2_with fail
    exact HN.out _ (id ⟨rfl, rfl, rfl, rfl, rfl, rfl, rfl, rfl, rfl, rfl, trivial⟩)
  · have t1 : decide ((i : Int) < (me : Int)) = false := by first | exact decide_eq_false (by omega) | exact beq_eq_false_iff_ne.2 (by omega) | exact bne_eq_false_iff_eq.2 (by omega)
    have t2 : (decide (i < me)) = false := decide_eq_false h
    rw [t2] at hN
    clear h
    have HN := Lib.hid hN
    clear hN
    go_wp2_with fail
    exact HN.out _ (id ⟨rfl, rfl, rfl, rfl, rfl, rfl, rfl, rfl, rfl, rfl, trivial⟩)
noncomputable def c_ca_r4 : Code := sub [1, 1, 0, 1, 0, 0, 1, 1, 0, 0, 0] (Tryd.f94.body.getD .skip)
set_option maxRecDepth 1000000 in
set_option maxHeartbeats 16000000 in
theorem ca_r4_wp {Q : Exit → Act → World → Prop} {b o i me ee bu : Nat} {p q : ByteArray} {wo w : World} (hi : i < me) (h0 : w.cell? ⟨b, o + i * 2, none⟩ = some (.string p)) (h1 : w.cell? ⟨b, o + i * 2 + 1, none⟩ = some (.string q)) (hbl : b < w.heap.size) (hN : ∀ a', Frm 43 [(1, .slice (some ⟨b, o, none⟩) me ee), (2, .pointer (some ⟨wo.heap.size, 0, none⟩)), (4, .pointer (some ⟨wo.heap.size + 1, 0, none⟩)), (5, .pointer (some ⟨bu, 0, none⟩)), (14, .slice (some ⟨b, o, none⟩) me ee), (15, .int .i64 (me : Nat)), (16, .int .i64 (i : Nat)), (7, .pointer (some ⟨w.heap.size, 0, none⟩))] a' → Q .normal a' (w.alloc (.cells #[.string p, .string q] 102))) : ∀ ac, Frm 43 [(1, .slice (some ⟨b, o, none⟩) me ee), (2, .pointer (some ⟨wo.heap.size, 0, none⟩)), (4, .pointer (some ⟨wo.heap.size + 1, 0, none⟩)), (5, .pointer (some ⟨bu, 0, none⟩)), (14, .slice (some ⟨b, o, none⟩) me ee), (15, .int .i64 (me : Nat)), (16, .int .i64 (i : Nat))] ac → Code.wp Tryd.prog c_ca_r4 Q ac w := by
  refine frm_open ?_
  refine frame_ca ?_
  intros
  rename_i hq
  obtain ⟨-, -, e0q, e1q, e2q, e3q, e4q, e5q, e6q, -⟩ := hq
  obtain rfl := sI e0q
  obtain rfl := sI e1q
  obtain rfl := sI e2q
  obtain rfl := sI e3q
  obtain rfl := sI e4q
  obtain rfl := sI e5q
  obtain rfl := sI e6q
  conv => arg 2; whnf
  have q0 : (0 : Int) ≤ (i : Int) := by omega
  have q1 : (i : Int) < (me : Int) := by omega
  have HN := Lib.hid hN
  clear hN
  go_wp2_with fail
  exact HN.out _ (id ⟨rfl, rfl, rfl, rfl, rfl, rfl, rfl, rfl, rfl, rfl, trivial⟩)
noncomputable def c_ca_r5 : Code := sub [1, 1, 0, 1, 0, 0, 1, 1, 0, 0, 1, 0] (Tryd.f94.body.getD .skip)
set_option maxRecDepth 1000000 in
set_option maxHeartbeats 16000000 in
theorem ca_r5_wp {Q : Exit → Act → World → Prop} {bp : Nat} {Du : Option Addr} {mu eu : Nat} {i : Nat} {wo w : World} {De : Option Addr} {me ee bu : Nat} (hu : w.heap[bu]? = some (.cells #[.slice Du mu eu] 26 (0, 0))) (hN : ∀ a', Frm 43 [(1, .slice De me ee), (2, .pointer (some ⟨wo.heap.size, 0, none⟩)), (4, .pointer (some ⟨wo.heap.size + 1, 0, none⟩)), (5, .pointer (some ⟨bu, 0, none⟩)), (14, .slice De me ee), (15, .int .i64 (me : Nat)), (16, .int .i64 (i : Nat)), (7, .pointer (some ⟨bp, 0, none⟩)), (20, .slice Du mu eu), (21, .int .i64 (mu : Nat)), (22, .int .i64 (0 : Nat))] a' → Q .normal a' w) : ∀ ac, Frm 43 [(1, .slice De me ee), (2, .pointer (some ⟨wo.heap.size, 0, none⟩)), (4, .pointer (some ⟨wo.heap.size + 1, 0, none⟩)), (5, .pointer (some ⟨bu, 0, none⟩)), (14, .slice De me ee), (15, .int .i64 (me : Nat)), (16, .int .i64 (i : Nat)), (7, .pointer (some ⟨bp, 0, none⟩))] ac → Code.wp Tryd.prog c_ca_r5 Q ac w := by
  refine frm_open ?_
  refine frame_ca ?_
  intros
  rename_i hq
  obtain ⟨-, -, e0q, e1q, e2q, e3q, e4q, e5q, e6q, e7q, -⟩ := hq
  obtain rfl := sI e0q
  obtain rfl := sI e1q
  obtain rfl := sI e2q
  obtain rfl := sI e3q
  obtain rfl := sI e4q
  obtain rfl := sI e5q
  obtain rfl := sI e6q
  obtain rfl := sI e7q
  conv => arg 2; whnf
  have u0 := cellv hu 0 rfl
  have ul := lt_heap hu
  clear hu
  have HN := Lib.hid hN
  clear hN
  go_wp2_with fail
  exact HN.out _ (id ⟨rfl, rfl, rfl, rfl, rfl, rfl, rfl, rfl, rfl, rfl, rfl, rfl, rfl, trivial⟩)
noncomputable def c_ca_r6 : Code := sub [1, 1, 0, 1, 0, 0, 1, 1, 0, 0, 1, 1, 0, 0, 0] (Tryd.f94.body.getD .skip)
set_option maxRecDepth 1000000 in
set_option maxHeartbeats 16000000 in
theorem ca_r6_wp {Q : Exit → Act → World → Prop} {bp j : Nat} {Du : Option Addr} {mu eu : Nat} {i : Nat} {wo w : World} {De : Option Addr} {me ee bu : Nat} (hN : ∀ a', Frm 43 [(1, .slice De me ee), (2, .pointer (some ⟨wo.heap.size, 0, none⟩)), (4, .pointer (some ⟨wo.heap.size + 1, 0, none⟩)), (5, .pointer (some ⟨bu, 0, none⟩)), (14, .slice De me ee), (15, .int .i64 (me : Nat)), (16, .int .i64 (i : Nat)), (7, .pointer (some ⟨bp, 0, none⟩)), (20, .slice Du mu eu), (21, .int .i64 (mu : Nat)), (22, .int .i64 (j : Nat)), (23, .bool (decide (j < mu)))] a' → Q .normal a' w) : ∀ ac, Frm 43 [(1, .slice De me ee), (2, .pointer (some ⟨wo.heap.size, 0, none⟩)), (4, .pointer (some ⟨wo.heap.size + 1, 0, none⟩)), (5, .pointer (some ⟨bu, 0, none⟩)), (14, .slice De me ee), (15, .int .i64 (me : Nat)), (16, .int .i64 (i : Nat)), (7, .pointer (some ⟨bp, 0, none⟩)), (20, .slice Du mu eu), (21, .int .i64 (mu : Nat)), (22, .int .i64 (j : Nat))] ac → Code.wp Tryd.prog c_ca_r6 Q ac w := by
  refine frm_open ?_
  refine frame_ca ?_
  intros
  rename_i hq
  obtain ⟨-, -, e0q, e1q, e2q, e3q, e4q, e5q, e6q, e7q, e8q, e9q, e10q, -⟩ := hq
  obtain rfl := sI e0q
  obtain rfl := sI e1q
  obtain rfl := sI e2q
  obtain rfl := sI e3q
  obtain rfl := sI e4q
  obtain rfl := sI e5q
  obtain rfl := sI e6q
  obtain rfl := sI e7q
  obtain rfl := sI e8q
  obtain rfl := sI e9q
  obtain rfl := sI e10q
  conv => arg 2; whnf
  by_cases h : j < mu
  · have t1 : decide ((j : Int) < (mu : Int)) = true := by first | exact decide_eq_true (by omega) | exact beq_iff_eq.2 (by omega) | exact bne_iff_ne.2 (by omega)
    have t2 : (decide (j < mu)) = true := decide_eq_true h
    rw [t2] at hN
    clear h
    have HN := Lib.hid hN
    clear hN
    go_wp2_with fail
    exact HN.out _ (id ⟨rfl, rfl, rfl, rfl, rfl, rfl, rfl, rfl, rfl, rfl, rfl, rfl, rfl, rfl, trivial⟩)
  · have t1 : decide ((j : Int) < (mu : Int)) = false := by first | exact decide_eq_false (by omega) | exact beq_eq_false_iff_ne.2 (by omega) | exact bne_eq_false_iff_eq.2 (by omega)
    have t2 : (decide (j < mu)) = false := decide_eq_false h
    rw [t2] at hN
    clear h
    have HN := Lib.hid hN
    clear hN
    go_wp2_with fail
    exact HN.out _ (id ⟨rfl, rfl, rfl, rfl, rfl, rfl, rfl, rfl, rfl, rfl, rfl, rfl, rfl, rfl, trivial⟩)
noncomputable def c_ca_r7 : Code := sub [1, 1, 0, 1, 0, 0, 1, 1, 0, 0, 1, 1, 0, 0, 1, 1, 0, 0, 0] (Tryd.f94.body.getD .skip)
set_option maxRecDepth 1000000 in
set_option maxHeartbeats 16000000 in
theorem ca_r7_wp {Q : Exit → Act → World → Prop} {g : Nat} {s : ByteArray} {bp j : Nat} {mu eu : Nat} {i : Nat} {wo w : World} {De : Option Addr} {me ee bu : Nat} (hj : j < mu) (hc : w.cell? ⟨g, j, none⟩ = some (.string s)) (hbl : g < w.heap.size) (hN : ∀ a', Frm 43 [(1, .slice De me ee), (2, .pointer (some ⟨wo.heap.size, 0, none⟩)), (4, .pointer (some ⟨wo.heap.size + 1, 0, none⟩)), (5, .pointer (some ⟨bu, 0, none⟩)), (14, .slice De me ee), (15, .int .i64 (me : Nat)), (16, .int .i64 (i : Nat)), (7, .pointer (some ⟨bp, 0, none⟩)), (20, .slice (some ⟨g, 0, none⟩) mu eu), (21, .int .i64 (mu : Nat)), (22, .int .i64 (j : Nat)), (8, .int .i64 (j : Nat)), (9, .string s)] a' → Q .normal a' w) : ∀ ac, Frm 43 [(1, .slice De me ee), (2, .pointer (some ⟨wo.heap.size, 0, none⟩)), (4, .pointer (some ⟨wo.heap.size + 1, 0, none⟩)), (5, .pointer (some ⟨bu, 0, none⟩)), (14, .slice De me ee), (15, .int .i64 (me : Nat)), (16, .int .i64 (i : Nat)), (7, .pointer (some ⟨bp, 0, none⟩)), (20, .slice (some ⟨g, 0, none⟩) mu eu), (21, .int .i64 (mu : Nat)), (22, .int .i64 (j : Nat))] ac → Code.wp Tryd.prog c_ca_r7 Q ac w := by
  refine frm_open ?_
  refine frame_ca ?_
  intros
  rename_i hq
  obtain ⟨-, -, e0q, e1q, e2q, e3q, e4q, e5q, e6q, e7q, e8q, e9q, e10q, -⟩ := hq
  obtain rfl := sI e0q
  obtain rfl := sI e1q
  obtain rfl := sI e2q
  obtain rfl := sI e3q
  obtain rfl := sI e4q
  obtain rfl := sI e5q
  obtain rfl := sI e6q
  obtain rfl := sI e7q
  obtain rfl := sI e8q
  obtain rfl := sI e9q
  obtain rfl := sI e10q
  conv => arg 2; whnf
  have q0 : (0 : Int) ≤ (j : Int) := by omega
  have q1 : (j : Int) < (mu : Int) := by omega
  have HN := Lib.hid hN
  clear hN
  go_wp2_with fail
  exact HN.out _ (id ⟨rfl, rfl, rfl, rfl, rfl, rfl, rfl, rfl, rfl, rfl, rfl, rfl, rfl, rfl, rfl, trivial⟩)
noncomputable def c_ca_r8 : Code := sub [1, 1, 0, 1, 0, 0, 1, 1, 0, 0, 1, 1, 0, 0, 1, 1, 0, 0, 1, 0] (Tryd.f94.body.getD .skip)
set_option maxRecDepth 1000000 in
set_option maxHeartbeats 16000000 in
theorem ca_r8_wp {Q : Exit → Act → World → Prop} {s p q : ByteArray} {bp j : Nat} {Du : Option Addr} {mu eu : Nat} {i : Nat} {wo w : World} {De : Option Addr} {me ee bu : Nat} (hp : w.heap[bp]? = some (.cells #[.string p, .string q] 102 (0, 0))) (hN : ∀ a', Frm 43 [(1, .slice De me ee), (2, .pointer (some ⟨wo.heap.size, 0, none⟩)), (4, .pointer (some ⟨wo.heap.size + 1, 0, none⟩)), (5, .pointer (some ⟨bu, 0, none⟩)), (14, .slice De me ee), (15, .int .i64 (me : Nat)), (16, .int .i64 (i : Nat)), (7, .pointer (some ⟨bp, 0, none⟩)), (20, .slice Du mu eu), (21, .int .i64 (mu : Nat)), (22, .int .i64 (j : Nat)), (8, .int .i64 (j : Nat)), (9, .string s), (30, .bool (decide (s = p)))] a' → Q .normal a' w) : ∀ ac, Frm 43 [(1, .slice De me ee), (2, .pointer (some ⟨wo.heap.size, 0, none⟩)), (4, .pointer (some ⟨wo.heap.size + 1, 0, none⟩)), (5, .pointer (some ⟨bu, 0, none⟩)), (14, .slice De me ee), (15, .int .i64 (me : Nat)), (16, .int .i64 (i : Nat)), (7, .pointer (some ⟨bp, 0, none⟩)), (20, .slice Du mu eu), (21, .int .i64 (mu : Nat)), (22, .int .i64 (j : Nat)), (8, .int .i64 (j : Nat)), (9, .string s)] ac → Code.wp Tryd.prog c_ca_r8 Q ac w := by
  refine frm_open ?_
  refine frame_ca ?_
  intros
  rename_i hq
  obtain ⟨-, -, e0q, e1q, e2q, e3q, e4q, e5q, e6q, e7q, e8q, e9q, e10q, e11q, e12q, -⟩ := hq
  obtain rfl := sI e0q
  obtain rfl := sI e1q
  obtain rfl := sI e2q
  obtain rfl := sI e3q
  obtain rfl := sI e4q
  obtain rfl := sI e5q
  obtain rfl := sI e6q
  obtain rfl := sI e7q
  obtain rfl := sI e8q
  obtain rfl := sI e9q
  obtain rfl := sI e10q
  obtain rfl := sI e11q
  obtain rfl := sI e12q
  conv => arg 2; whnf
  have p0 := cellv hp 0 rfl
  have pl := lt_heap hp
  clear hp
  by_cases h : s = p
  · subst h
    have t1 : (s.toList == s.toList) = true := beq_self_eq_true _
    rw [show decide (s = s) = true from decide_eq_true rfl] at hN
    have HN := Lib.hid hN
    clear hN
    go_wp2_with fail
    exact HN.out _ (id ⟨rfl, rfl, rfl, rfl, rfl, rfl, rfl, rfl, rfl, rfl, rfl, rfl, rfl, rfl, rfl, rfl, trivial⟩)
  · have t1 : (s.toList == p.toList) = false := beq_eq_false_iff_ne.2 (fun e => h (bytes_inj e))
    rw [show decide (s = p) = false from decide_eq_false h] at hN
    have HN := Lib.hid hN
    clear hN
    go_wp2_with fail
    exact HN.out _ (id ⟨rfl, rfl, rfl, rfl, rfl, rfl, rfl, rfl, rfl, rfl, rfl, rfl, rfl, rfl, rfl, rfl, trivial⟩)
noncomputable def c_ca_r9 : Code := sub [1, 1, 0, 1, 0, 0, 1, 1, 0, 0, 1, 1, 0, 0, 1, 1, 0, 0, 1, 1, 0] (Tryd.f94.body.getD .skip)
set_option maxRecDepth 1000000 in
set_option maxHeartbeats 16000000 in
theorem ca_r9_wp {Q : Exit → Act → World → Prop} {g : Nat} {s p q y : ByteArray} {bp j : Nat} {mu eu : Nat} {i : Nat} {wo w : World} {De : Option Addr} {me ee bu : Nat} (hj : j < mu) (hu : w.heap[bu]? = some (.cells #[.slice (some ⟨g, 0, none⟩) mu eu] 26 (0, 0))) (hp : w.heap[bp]? = some (.cells #[.string p, .string q] 102 (0, 0))) (hc : w.cell? ⟨g, j, none⟩ = some (.string y)) (hfz : w.frozen? ⟨g, j, none⟩ = false) (hbl : g < w.heap.size) (hN : ∀ a', Frm 43 [(1, .slice De me ee), (2, .pointer (some ⟨wo.heap.size, 0, none⟩)), (4, .pointer (some ⟨wo.heap.size + 1, 0, none⟩)), (5, .pointer (some ⟨bu, 0, none⟩)), (14, .slice De me ee), (15, .int .i64 (me : Nat)), (16, .int .i64 (i : Nat)), (7, .pointer (some ⟨bp, 0, none⟩)), (20, .slice (some ⟨g, 0, none⟩) mu eu), (21, .int .i64 (mu : Nat)), (22, .int .i64 (j : Nat))] a' → Q .normal a' (w.setCell ⟨g, j, none⟩ (.string q))) : ∀ ac, Frm 43 [(1, .slice De me ee), (2, .pointer (some ⟨wo.heap.size, 0, none⟩)), (4, .pointer (some ⟨wo.heap.size + 1, 0, none⟩)), (5, .pointer (some ⟨bu, 0, none⟩)), (14, .slice De me ee), (15, .int .i64 (me : Nat)), (16, .int .i64 (i : Nat)), (7, .pointer (some ⟨bp, 0, none⟩)), (20, .slice (some ⟨g, 0, none⟩) mu eu), (21, .int .i64 (mu : Nat)), (22, .int .i64 (j : Nat)), (8, .int .i64 (j : Nat)), (9, .string s)] ac → Code.wp Tryd.prog c_ca_r9 Q ac w := by
  refine frm_open ?_
  refine frame_ca ?_
  intros
  rename_i hq
  obtain ⟨-, -, e0q, e1q, e2q, e3q, e4q, e5q, e6q, e7q, e8q, e9q, e10q, e11q, e12q, -⟩ := hq
  obtain rfl := sI e0q
  obtain rfl := sI e1q
  obtain rfl := sI e2q
  obtain rfl := sI e3q
  obtain rfl := sI e4q
  obtain rfl := sI e5q
  obtain rfl := sI e6q
  obtain rfl := sI e7q
  obtain rfl := sI e8q
  obtain rfl := sI e9q
  obtain rfl := sI e10q
  obtain rfl := sI e11q
  obtain rfl := sI e12q
  conv => arg 2; whnf
  have p1 := cellv hp 1 rfl
  have pl := lt_heap hp
  have u0 := cellv hu 0 rfl
  have ul := lt_heap hu
  have q0 : (0 : Int) ≤ (j : Int) := by omega
  have q1 : (j : Int) < (mu : Int) := by omega
  clear hp hu
  have HN := Lib.hid hN
  clear hN
  go_wp2_with fail
  exact HN.out _ (id ⟨rfl, rfl, rfl, rfl, rfl, rfl, rfl, rfl, rfl, rfl, rfl, rfl, rfl, trivial⟩)
noncomputable def c_ca_r10 : Code := sub [1, 1, 0, 1, 0, 0, 1, 1, 0, 0, 1, 1, 0, 0, 1, 1, 1] (Tryd.f94.body.getD .skip)
set_option maxRecDepth 1000000 in
set_option maxHeartbeats 16000000 in
theorem ca_r10_wp {Q : Exit → Act → World → Prop} {bp j : Nat} {Du : Option Addr} {mu eu : Nat} {i : Nat} {wo w : World} {De : Option Addr} {me ee bu : Nat} (hj : j < mu) (hlim : mu ≤ maxLen) (hN : ∀ a', Frm 43 [(1, .slice De me ee), (2, .pointer (some ⟨wo.heap.size, 0, none⟩)), (4, .pointer (some ⟨wo.heap.size + 1, 0, none⟩)), (5, .pointer (some ⟨bu, 0, none⟩)), (14, .slice De me ee), (15, .int .i64 (me : Nat)), (16, .int .i64 (i : Nat)), (7, .pointer (some ⟨bp, 0, none⟩)), (20, .slice Du mu eu), (21, .int .i64 (mu : Nat)), (22, .int .i64 (j + 1 : Nat))] a' → Q .normal a' w) : ∀ ac, Frm 43 [(1, .slice De me ee), (2, .pointer (some ⟨wo.heap.size, 0, none⟩)), (4, .pointer (some ⟨wo.heap.size + 1, 0, none⟩)), (5, .pointer (some ⟨bu, 0, none⟩)), (14, .slice De me ee), (15, .int .i64 (me : Nat)), (16, .int .i64 (i : Nat)), (7, .pointer (some ⟨bp, 0, none⟩)), (20, .slice Du mu eu), (21, .int .i64 (mu : Nat)), (22, .int .i64 (j : Nat))] ac → Code.wp Tryd.prog c_ca_r10 Q ac w := by
  refine frm_open ?_
  refine frame_ca ?_
  intros
  rename_i hq
  obtain ⟨-, -, e0q, e1q, e2q, e3q, e4q, e5q, e6q, e7q, e8q, e9q, e10q, -⟩ := hq
  obtain rfl := sI e0q
  obtain rfl := sI e1q
  obtain rfl := sI e2q
  obtain rfl := sI e3q
  obtain rfl := sI e4q
  obtain rfl := sI e5q
  obtain rfl := sI e6q
  obtain rfl := sI e7q
  obtain rfl := sI e8q
  obtain rfl := sI e9q
  obtain rfl := sI e10q
  conv => arg 2; whnf
  have hi4 : (j : Int) ≤ 9223372036854775806 := by unfold maxLen at hlim; omega
  have HN := Lib.hid hN
  clear hN
  go_wp2_with fail
  exact HN.out _ (id ⟨rfl, rfl, rfl, rfl, rfl, rfl, rfl, rfl, rfl, rfl, rfl, rfl, rfl, trivial⟩)
noncomputable def c_ca_r11 : Code := sub [1, 1, 0, 1, 0, 0, 1, 1, 1] (Tryd.f94.body.getD .skip)
set_option maxRecDepth 1000000 in
set_option maxHeartbeats 16000000 in
theorem ca_r11_wp {Q : Exit → Act → World → Prop} {i : Nat} {wo w : World} {De : Option Addr} {me ee bu : Nat} (hi : i < me) (hlim : me ≤ maxLen) (hN : ∀ a', Frm 43 [(1, .slice De me ee), (2, .pointer (some ⟨wo.heap.size, 0, none⟩)), (4, .pointer (some ⟨wo.heap.size + 1, 0, none⟩)), (5, .pointer (some ⟨bu, 0, none⟩)), (14, .slice De me ee), (15, .int .i64 (me : Nat)), (16, .int .i64 (i + 1 : Nat))] a' → Q .normal a' w) : ∀ ac, Frm 43 [(1, .slice De me ee), (2, .pointer (some ⟨wo.heap.size, 0, none⟩)), (4, .pointer (some ⟨wo.heap.size + 1, 0, none⟩)), (5, .pointer (some ⟨bu, 0, none⟩)), (14, .slice De me ee), (15, .int .i64 (me : Nat)), (16, .int .i64 (i : Nat))] ac → Code.wp Tryd.prog c_ca_r11 Q ac w := by
  refine frm_open ?_
  refine frame_ca ?_
  intros
  rename_i hq
  obtain ⟨-, -, e0q, e1q, e2q, e3q, e4q, e5q, e6q, -⟩ := hq
  obtain rfl := sI e0q
  obtain rfl := sI e1q
  obtain rfl := sI e2q
  obtain rfl := sI e3q
  obtain rfl := sI e4q
  obtain rfl := sI e5q
  obtain rfl := sI e6q
  conv => arg 2; whnf
  have hi4 : (i : Int) ≤ 9223372036854775806 := by unfold maxLen at hlim; omega
  have HN := Lib.hid hN
  clear hN
  go_wp2_with fail
  exact HN.out _ (id ⟨rfl, rfl, rfl, rfl, rfl, rfl, rfl, rfl, rfl, trivial⟩)
noncomputable def c_ca_r12 : Code := sub [1, 1, 1, 0] (Tryd.f94.body.getD .skip)
set_option maxRecDepth 1000000 in
set_option maxHeartbeats 16000000 in
theorem ca_r12_wp {Q : Exit → Act → World → Prop} {wo w : World} {De : Option Addr} {me ee bu : Nat} (hN : ∀ a', Frm 43 [(1, .slice De me ee), (2, .pointer (some ⟨wo.heap.size, 0, none⟩)), (4, .pointer (some ⟨wo.heap.size + 1, 0, none⟩)), (5, .pointer (some ⟨bu, 0, none⟩)), (10, .pointer (some ⟨w.heap.size, 0, none⟩))] a' → Q .normal a' (w.alloc (.cells #[.int .i64 0] 3))) : ∀ ac, Frm 43 [(1, .slice De me ee), (2, .pointer (some ⟨wo.heap.size, 0, none⟩)), (4, .pointer (some ⟨wo.heap.size + 1, 0, none⟩)), (5, .pointer (some ⟨bu, 0, none⟩))] ac → Code.wp Tryd.prog c_ca_r12 Q ac w := by
  refine frm_open ?_
  refine frame_ca ?_
  intros
  rename_i hq
  obtain ⟨-, -, e0q, e1q, e2q, e3q, -⟩ := hq
  obtain rfl := sI e0q
  obtain rfl := sI e1q
  obtain rfl := sI e2q
  obtain rfl := sI e3q
  conv => arg 2; whnf
  have HN := Lib.hid hN
  clear hN
  go_wp2_with fail
  exact HN.out _ (id ⟨rfl, rfl, rfl, rfl, rfl, rfl, rfl, trivial⟩)
noncomputable def c_ca_r13 : Code := sub [1, 1, 1, 1, 0] (Tryd.f94.body.getD .skip)
set_option maxRecDepth 1000000 in
set_option maxHeartbeats 16000000 in
theorem ca_r13_wp {Q : Exit → Act → World → Prop} {bk : Nat} {wo w : World} {De : Option Addr} {me ee bu : Nat} (hN : ∀ a', Frm 43 [(1, .slice De me ee), (2, .pointer (some ⟨wo.heap.size, 0, none⟩)), (4, .pointer (some ⟨wo.heap.size + 1, 0, none⟩)), (5, .pointer (some ⟨bu, 0, none⟩)), (11, .func (Fn.func 117) #[] #[.pointer (some ⟨bk, 0, none⟩), .pointer (some ⟨bu, 0, none⟩)])] a' → Q .normal a' w) : ∀ ac, Frm 43 [(1, .slice De me ee), (2, .pointer (some ⟨wo.heap.size, 0, none⟩)), (4, .pointer (some ⟨wo.heap.size + 1, 0, none⟩)), (5, .pointer (some ⟨bu, 0, none⟩)), (10, .pointer (some ⟨bk, 0, none⟩))] ac → Code.wp Tryd.prog c_ca_r13 Q ac w := by
  refine frm_open ?_
  refine frame_ca ?_
  intros
  rename_i hq
  obtain ⟨-, -, e0q, e1q, e2q, e3q, e4q, -⟩ := hq
  obtain rfl := sI e0q
  obtain rfl := sI e1q
  obtain rfl := sI e2q
  obtain rfl := sI e3q
  obtain rfl := sI e4q
  conv => arg 2; whnf
  have HN := Lib.hid hN
  clear hN
  go_wp2_with fail
  exact HN.out _ (id ⟨rfl, rfl, rfl, rfl, rfl, rfl, rfl, trivial⟩)
noncomputable def c_ca_r14 : Code := sub [1, 1, 1, 1, 1, 0] (Tryd.f94.body.getD .skip)
set_option maxRecDepth 1000000 in
set_option maxHeartbeats 16000000 in
theorem ca_r14_wp {Q : Exit → Act → World → Prop} {PV : Int → ByteArray → Option Addr → Nat → Nat → Option Addr → Nat → Nat → World → Prop} {gz : Nat} {bk : Nat} {wo w : World} {De : Option Addr} {me ee bu : Nat} {kd : Int} {nm : ByteArray} {A B : Option Addr} {n1 c1 n2 c2 : Nat} (ha : w.heap[wo.heap.size]? = some (.cells #[.int .i64 kd, .string nm, .slice A n1 c1, .slice B n2 c2] 29 (0, 0))) (hc : Calls Tryd.prog 119 #[.agg #[.int .i64 kd, .string nm, .slice A n1 c1, .slice B n2 c2], .slice De me ee, .func (Fn.func 117) #[] #[.pointer (some ⟨bk, 0, none⟩), .pointer (some ⟨bu, 0, none⟩)]] w fun e w' => ∃ ke ne Ae n3 c3 Be n4 c4, e = .returned (.agg #[.int .i64 ke, .string ne, .slice Ae n3 c3, .slice Be n4 c4]) ∧ w'.heap[gz]? = some (.cells #[.int .i64 0, .string ⟨#[]⟩, .slice none 0 0, .slice none 0 0] 29 (0, 0)) ∧ PV ke ne Ae n3 c3 Be n4 c4 w') (hN : ∀ ke ne Ae n3 c3 Be n4 c4 w1 a' w', Frm 43 [(4, .pointer (some ⟨gz, 0, none⟩))] a' → PV ke ne Ae n3 c3 Be n4 c4 w1 → w'.heap[gz]? = some (.cells #[.int .i64 ke, .string ne, .slice Ae n3 c3, .slice Be n4 c4] 29 (0, 0)) → Keeps (· = gz) w1 w' → Q .normal a' w') : ∀ ac, Frm 43 [(1, .slice De me ee), (2, .pointer (some ⟨wo.heap.size, 0, none⟩)), (4, .pointer (some ⟨gz, 0, none⟩)), (5, .pointer (some ⟨bu, 0, none⟩)), (11, .func (Fn.func 117) #[] #[.pointer (some ⟨bk, 0, none⟩), .pointer (some ⟨bu, 0, none⟩)])] ac → Code.wp Tryd.prog c_ca_r14 Q ac w := by
  refine frm_open ?_
  refine frame_ca ?_
  intros
  rename_i hq
  obtain ⟨-, -, e0q, e1q, e2q, e3q, e4q, -⟩ := hq
  obtain rfl := sI e0q
  obtain rfl := sI e1q
  obtain rfl := sI e2q
  obtain rfl := sI e3q
  obtain rfl := sI e4q
  conv => arg 2; whnf
  have a0 := cellv ha 0 rfl
  have a1 := cellv ha 1 rfl
  have a2 := cellv ha 2 rfl
  have a3 := cellv ha 3 rfl
  have al := lt_heap ha
  clear ha
  have z0 := fun (W : World) (h : W.heap[gz]? = some (.cells #[.int .i64 0, .string ⟨#[]⟩, .slice none 0 0, .slice none 0 0] 29 (0, 0))) => cellv h 0 rfl
  have z1 := fun (W : World) (h : W.heap[gz]? = some (.cells #[.int .i64 0, .string ⟨#[]⟩, .slice none 0 0, .slice none 0 0] 29 (0, 0))) => cellv h 1 rfl
  have z2 := fun (W : World) (h : W.heap[gz]? = some (.cells #[.int .i64 0, .string ⟨#[]⟩, .slice none 0 0, .slice none 0 0] 29 (0, 0))) => cellv h 2 rfl
  have z3 := fun (W : World) (h : W.heap[gz]? = some (.cells #[.int .i64 0, .string ⟨#[]⟩, .slice none 0 0, .slice none 0 0] 29 (0, 0))) => cellv h 3 rfl
  have zf := fun (W : World) (h : W.heap[gz]? = some (.cells #[.int .i64 0, .string ⟨#[]⟩, .slice none 0 0, .slice none 0 0] 29 (0, 0))) => And.intro (free_heap h 0) (And.intro (free_heap h 1) (And.intro (free_heap h 2) (free_heap h 3)))
  have Z0 := Lib.hid z0
  have Z1 := Lib.hid z1
  have Z2 := Lib.hid z2
  have Z3 := Lib.hid z3
  have ZF := Lib.hid zf
  clear z0 z1 z2 z3 zf
  have HN := Lib.hid hN
  have HC := Lib.hid hc
  clear hN hc
  go_wp2_with fail
  (with_reducible refine HC.out.mono ?_)
  rintro e w1 ⟨ke, ne, Ae, n3, c3, Be, n4, c4, rfl, hz, hp⟩
  have y0 := Z0.out w1 hz
  have y1 := Z1.out w1 hz
  have y2 := Z2.out w1 hz
  have y3 := Z3.out w1 hz
  obtain ⟨yf0, yf1, yf2, yf3⟩ := ZF.out w1 hz
  have yl := lt_heap hz
  have HP := Lib.hid hp
  have HZ := Lib.hid hz
  clear hp hz
  go_wp2_with fail
  exact HN.out _ _ _ _ _ _ _ _ _ _ _ (id ⟨rfl, rfl, rfl, trivial⟩) HP.out (at4F HZ.out) (keeps4F (Keeps.refl _ _) (Or.inl rfl))
set_option maxRecDepth 1000000 in
theorem ca_ret_wp {R : Ending → World → Prop} {w' : World} {g : Nat} {v0 v1 v2 v3 : Value} (hg : w'.heap[g]? = some (.cells #[v0, v1, v2, v3] 29 (0, 0))) (ho : v0.oneCell' = true ∧ v1.oneCell' = true ∧ v2.oneCell' = true ∧ v3.oneCell' = true) (hR : R (.returned (.agg #[v0, v1, v2, v3])) w') : ∀ ac, Frm 43 [(4, .pointer (some ⟨g, 0, none⟩))] ac → bodyPost Tryd.prog Tryd.f94 R .ret ac w' := by
  refine frm_open ?_
  refine frame_ca ?_
  intros
  rename_i hq
  obtain ⟨-, -, e0q, -⟩ := hq
  obtain rfl := sI e0q
  have z0 := cellv hg 0 rfl
  have z1 := cellv hg 1 rfl
  have z2 := cellv hg 2 rfl
  have z3 := cellv hg 3 rfl
  have zl := lt_heap hg
  obtain ⟨o0, o1, o2, o3⟩ := ho
  refine bodyPost_ret (v := .agg #[v0, v1, v2, v3]) (by simp [results, Tryd.results94, go_sem, z0, z1, z2, z3, zl, o0, o1, o2, o3]) rfl ?_
  exact hR
end

section
open Go Go.RowKit
set_option linter.unusedSimpArgs false
set_option linter.unusedVariables false
theorem fmConsts_len (t : Fm) : (fmConsts t).length ≤ (fmFrees [] t).length := by
  unfold fmConsts constsB
  rw [List.length_map]
  refine Nat.le_trans (compact_len _) ?_
  unfold sortS
  rw [List.length_mergeSort, List.length_map]
  exact Nat.le_refl _
mutual
theorem frees_le : ∀ (t : Tree FmL) (bd : List ByteArray), (fmFrees bd t).length ≤ (allW t).length
  | .mk a l, bd => by
    have h1 := freess_le l (if a.kind = 8 ∨ a.kind = 9 then bd ++ [a.nm] else bd)
    have h2 := List.length_filter_le (fun w => !hasB bd w) a.ws
    unfold fmFrees allW
    rw [List.length_append, List.length_append]; omega
theorem freess_le : ∀ (l : List (Tree FmL)) (bd : List ByteArray), (fmFreess bd l).length ≤ (allWs l).length
  | [], _ => by simp [fmFreess]
  | t :: l, bd => by
    have h1 := frees_le t bd
    have h2 := freess_le l bd
    unfold fmFreess allWs
    rw [List.length_append, List.length_append]; omega
end
/-- In a valid formula: few words beside many quantifiers. -/
theorem Fv.words_le : ∀ v : Fv, v.ok → (allW v.fm).length + 3 * quN v.fm ≤ 3 * v.nodes := by
  intro v
  induction v with
  | tru => intro _; simp [Fv.fm, allW, allWs, quN, quNs, isQ, Fv.nodes]
  | pred n ws =>
    intro h
    have := h.2.1
    simp [Fv.fm, allW, allWs, quN, quNs, isQ, Fv.nodes]; omega
  | same a b => intro _; simp [Fv.fm, allW, allWs, quN, quNs, isQ, Fv.nodes]
  | neg f ih =>
    intro h
    have := ih h
    simp [Fv.fm, allW, allWs, quN, quNs, isQ, Fv.nodes]; omega
  | bin k f g ihf ihg =>
    intro h
    have h1 := ihf h.2.1
    have h2 := ihg h.2.2
    have hk : ¬ isQ k := by
      rintro (e | e) <;> (rcases h.1 with r | r | r <;> omega)
    simp only [Fv.fm, allW, allWs, quN, quNs, Fv.nodes, List.length_append, List.length_nil]
    rw [if_neg hk]; omega
  | qu k x f ih =>
    intro h
    have := ih h.2.2
    have hk : isQ k := by
      rcases h.1 with e | e
      · exact Or.inl (by omega)
      · exact Or.inr (by omega)
    simp only [Fv.fm, allW, allWs, quN, quNs, Fv.nodes, List.length_append, List.length_nil]
    rw [if_pos hk]; omega
theorem small_prod (q c : Nat) (hq : q ≤ 200) (h : c + 3 * q ≤ 600) : (q + 1) * (c + 1) ≤ 80000 := by
  have key : ∀ q : Fin 201, (q.val + 1) * (600 - 3 * q.val + 1) ≤ 80000 := by decide +kernel
  have h1 := key ⟨q, by omega⟩
  have h2 : (q + 1) * (c + 1) ≤ (q + 1) * (600 - 3 * q + 1) := Nat.mul_le_mul_left _ (by omega)
  exact Nat.le_trans h2 h1
/-- The numbers in a canonical form are small. -/
theorem fromV_le (u : List ByteArray) (q k : Nat) (hq : q ≤ 200) (hu : u.length + 3 * q ≤ 600) (hk : k ≤ q) : fromV u k + u.length ≤ 80000 := by
  have h1 := small_prod q u.length hq hu
  have h3 : fromV u k ≤ k * (u.length + 1) := by
    cases k with
    | zero => exact Nat.zero_le _
    | succ k => exact numV_le u k
  have h2 : k * (u.length + 1) ≤ q * (u.length + 1) := Nat.mul_le_mul_right _ hk
  rw [Nat.succ_mul] at h1
  omega
theorem vB_size {n : Nat} (h : n ≤ 1000000) : (vB n).size ≤ maxLen := by
  have := dec_len n n (Nat.le_refl _)
  unfold vB maxLen
  simp [ByteArray.size]; omega
/-- The names taken, replaced up to the i-th. -/
def repU (p q : ByteArray) (l : List ByteArray) (j : Nat) : List ByteArray := (l.take j).map (fun w => if p = w then q else w) ++ l.drop j
theorem repU_len (p q : ByteArray) (l : List ByteArray) (j : Nat) : (repU p q l j).length = l.length := by
  unfold repU
  rw [List.length_append, List.length_map, ← List.length_append, List.take_append_drop]
theorem repU_at (p q : ByteArray) (l : List ByteArray) (j : Nat) (h : j < l.length) : (repU p q l j)[j]? = some l[j] := by
  unfold repU
  rw [List.getElem?_append_right (by simp; omega), List.length_map, List.length_take, List.getElem?_drop]
  rw [show j + (j - min j l.length) = j by omega, List.getElem?_eq_getElem h]
theorem repU_hit (p q : ByteArray) (l : List ByteArray) (j : Nat) (h : j < l.length) (e : l[j] = p) : (repU p q l j).set j q = repU p q l (j + 1) := by
  unfold repU
  have h1 : ((l.take j).map (fun w => if p = w then q else w)).length = j := by rw [List.length_map, List.length_take]; omega
  rw [List.set_append_right _ _ (by omega), h1, Nat.sub_self, List.drop_eq_getElem_cons h, List.set_cons_zero, List.take_succ_eq_append_getElem h, List.map_append, List.append_assoc]
  simp [e]
theorem repU_miss (p q : ByteArray) (l : List ByteArray) (j : Nat) (h : j < l.length) (e : l[j] ≠ p) : repU p q l j = repU p q l (j + 1) := by
  unfold repU
  rw [List.take_succ_eq_append_getElem h, List.map_append, List.append_assoc]
  simp only [List.map_cons, List.map_nil, List.cons_append, List.nil_append]
  rw [if_neg (fun e2 : p = l[j] => e e2.symm), ← List.drop_eq_getElem_cons h]
mutual
/-- The words of a formula in memory are no longer than strings are. -/
theorem frees_size (S : Nat → Prop) (w : World) : ∀ (t : Tree FmL) (cs : List Value) (bd : List ByteArray), fmRep.R w S t cs → ∀ s ∈ fmFrees bd t, s.size ≤ maxLen
  | .mk a l, cs, bd, h, s, hs => by
    obtain ⟨u, v, rfl, _, h1, h2⟩ := Fm.open_ h
    unfold fmFrees at hs
    rcases List.mem_append.1 hs with hs | hs
    · exact sl_sizes h1 s (List.mem_filter.1 hs).1
    · obtain ⟨A, n, c, rfl, hl, _, h3⟩ := h2
      cases l with
      | nil => simp [fmFreess] at hs
      | cons t l =>
        obtain ⟨b, o, xs, _, _, hx, _⟩ := h3 (by rw [← hl]; simp)
        exact freess_size S w (t :: l) xs _ hx s hs
theorem freess_size (S : Nat → Prop) (w : World) : ∀ (l : List (Tree FmL)) (xs : List Value) (bd : List ByteArray), fmRep.All w S l xs → ∀ s ∈ fmFreess bd l, s.size ≤ maxLen
  | [], _, _, _, s, hs => by simp [fmFreess] at hs
  | t :: l, xs, bd, h, s, hs => by
    obtain ⟨cs, rest, rfl, h1, h2⟩ := h
    unfold fmFreess at hs
    rcases List.mem_append.1 hs with hs | hs
    · exact frees_size S w t cs bd h1 s hs
    · exact freess_size S w l rest bd h2 s hs
end
noncomputable def c_ca_in : Code := sub [1, 1, 0, 1, 0, 0, 1, 1, 0, 0, 1, 1, 0] (Tryd.f94.body.getD .skip)
set_option maxRecDepth 100000 in
set_option maxHeartbeats 4000000 in
theorem ca_in_wp {Q : Exit → Act → World → Prop} {bp i : Nat} {p q : ByteArray} {De : Option Addr} {me ee bu : Nat} {Du : Option Addr} {mu eu : Nat} {l : List ByteArray} {wo w : World} {kd : Int} {nm : ByteArray} {A B : Option Addr} {n1 c1 n2 c2 : Nat} (hp : w.heap[bp]? = some (.cells #[.string p, .string q] 102 (0, 0))) (hbp : bp ≠ bu) (hrp : ∀ k, (.slice Du mu eu : Value).ownBlock = some k → k ≠ bp) (hlm : l.length = mu) (hll : l.length ≤ 1000000) (hs : US wo w bu (.slice Du mu eu) l kd nm A n1 c1 B n2 c2) 
    (hX : ∀ a' w', Frm 43 [(1, .slice De me ee), (2, .pointer (some ⟨wo.heap.size, 0, none⟩)), (4, .pointer (some ⟨wo.heap.size + 1, 0, none⟩)), (5, .pointer (some ⟨bu, 0, none⟩)), (14, .slice De me ee), (15, .int .i64 (me : Nat)), (16, .int .i64 (i : Nat))] a' → US wo w' bu (.slice Du mu eu) (l.map (fun w => if p = w then q else w)) kd nm A n1 c1 B n2 c2 → Q (.exit 2) a' w') : ∀ ac, Frm 43 [(1, .slice De me ee), (2, .pointer (some ⟨wo.heap.size, 0, none⟩)), (4, .pointer (some ⟨wo.heap.size + 1, 0, none⟩)), (5, .pointer (some ⟨bu, 0, none⟩)), (14, .slice De me ee), (15, .int .i64 (me : Nat)), (16, .int .i64 (i : Nat)), (7, .pointer (some ⟨bp, 0, none⟩)), (20, .slice Du mu eu), (21, .int .i64 (mu : Nat)), (22, .int .i64 (0 : Nat))] ac → Code.wp Tryd.prog c_ca_in Q ac w := by
  intro a0 hf0
  conv => arg 2; whnf
  refine wp_loopR (fun g a' w' => ∃ j : Nat, j + g = mu ∧ US wo w' bu (.slice Du mu eu) (repU p q l j) kd nm A n1 c1 B n2 c2 ∧ w'.heap[bp]? = some (.cells #[.string p, .string q] 102 (0, 0)) ∧ Frm 43 [(1, .slice De me ee), (2, .pointer (some ⟨wo.heap.size, 0, none⟩)), (4, .pointer (some ⟨wo.heap.size + 1, 0, none⟩)), (5, .pointer (some ⟨bu, 0, none⟩)), (14, .slice De me ee), (15, .int .i64 (me : Nat)), (16, .int .i64 (i : Nat)), (7, .pointer (some ⟨bp, 0, none⟩)), (20, .slice Du mu eu), (21, .int .i64 (mu : Nat)), (22, .int .i64 (j : Nat))] a') mu ⟨0, by omega, by simpa [repU] using hs, hp, hf0⟩ ?_
  rintro g a1 w1 ⟨j, hjg, hs1, hp1, h1⟩
  refine wp_seq ?_
  refine ca_r6_wp (fun a2 h2 => ?_) a1 h1
  refine wp_seq ?_
  by_cases hj : j < mu
  case neg =>
    refine wp_cond_false ((h2.eval (k := 23) (v := .bool (decide (j < mu))) (by simp)).trans (by rw [decide_eq_false hj])) ?_
    refine wp_exit (hX a2 w1 ⟨h2.1, h2.2.1, h2.2.2.1, h2.2.2.2.1, h2.2.2.2.2.1, h2.2.2.2.2.2.1, h2.2.2.2.2.2.2.1, h2.2.2.2.2.2.2.2.1, h2.2.2.2.2.2.2.2.2.1, trivial⟩ ?_)
    have e : repU p q l j = l.map (fun w => if p = w then q else w) := by
      unfold repU
      rw [List.take_of_length_le (by omega), List.drop_of_length_le (by omega), List.append_nil]
    rwa [e] at hs1
  refine wp_cond_true ((h2.eval (k := 23) (v := .bool (decide (j < mu))) (by simp)).trans (by rw [decide_eq_true hj])) ?_
  refine wp_skip ?_
  show Code.wp _ _ _ a2 w1
  have hjl : j < l.length := by omega
  obtain ⟨g', rfl, hg', hcell, hfz⟩ : ∃ g', Du = some ⟨g', 0, none⟩ ∧ g' < w1.heap.size ∧ w1.cell? ⟨g', j, none⟩ = some (.string l[j]) ∧ w1.frozen? ⟨g', j, none⟩ = false := by
    have hr := hs1.r
    rw [repU_len, hlm] at hr
    obtain ⟨g', cap, e, _, hlt⟩ := hr.form (by omega)
    injection e with e1 _ e3
    subst e1 e3
    refine ⟨g', rfl, hlt, ?_, hr.frozenAt j⟩
    rw [hr.cellAt j (by omega), List.getElem?_map, repU_at p q l j hjl]
    rfl
  refine wp_seq ?_
  refine wp_block ?_
  refine wp_seq ?_
  refine ca_r7_wp hj hcell hg' (fun a3 h3 => ?_) a2 ⟨h2.1, h2.2.1, h2.2.2.1, h2.2.2.2.1, h2.2.2.2.2.1, h2.2.2.2.2.2.1, h2.2.2.2.2.2.2.1, h2.2.2.2.2.2.2.2.1, h2.2.2.2.2.2.2.2.2.1, h2.2.2.2.2.2.2.2.2.2.1, h2.2.2.2.2.2.2.2.2.2.2.1, h2.2.2.2.2.2.2.2.2.2.2.2.1, h2.2.2.2.2.2.2.2.2.2.2.2.2.1, trivial⟩
  refine wp_seq ?_
  refine ca_r8_wp hp1 (fun a4 h4 => ?_) a3 h3
  by_cases hx : l[j] = p
  · refine wp_cond_true ((h4.eval (k := 30) (v := .bool (decide (l[j] = p))) (by simp)).trans (by rw [decide_eq_true hx])) ?_
    refine ca_r9_wp hj hs1.u hp1 hcell hfz hg' (fun a5 h5 => ?_) a4 ⟨h4.1, h4.2.1, h4.2.2.1, h4.2.2.2.1, h4.2.2.2.2.1, h4.2.2.2.2.2.1, h4.2.2.2.2.2.2.1, h4.2.2.2.2.2.2.2.1, h4.2.2.2.2.2.2.2.2.1, h4.2.2.2.2.2.2.2.2.2.1, h4.2.2.2.2.2.2.2.2.2.2.1, h4.2.2.2.2.2.2.2.2.2.2.2.1, h4.2.2.2.2.2.2.2.2.2.2.2.2.1, h4.2.2.2.2.2.2.2.2.2.2.2.2.2.1, h4.2.2.2.2.2.2.2.2.2.2.2.2.2.2.1, trivial⟩
    have hs5 := hs1.put (i := j) (by rw [repU_len]; exact hlm) q
    rw [repU_hit p q l j hjl hx] at hs5
    refine gen_last (fun wx => US wo wx bu (.slice (some ⟨g', 0, none⟩) mu eu) (repU p q l (j + 1)) kd nm A n1 c1 B n2 c2 ∧ wx.heap[bp]? = some (.cells #[.string p, .string q] 102 (0, 0))) ⟨hs5, heap_far _ (fun e => hrp g' rfl e.symm) hp1⟩ ?_
    rintro wx ⟨hs6, hp6⟩
    show Code.wp _ _ _ a5 wx
    refine ca_r10_wp hj (by unfold maxLen; omega) (fun a6 h6 => ?_) a5 h5
    exact ⟨g - 1, by omega, j + 1, by omega, hs6, hp6, h6⟩
  · refine wp_cond_false ((h4.eval (k := 30) (v := .bool (decide (l[j] = p))) (by simp)).trans (by rw [decide_eq_false hx])) ?_
    refine wp_skip ?_
    show Code.wp _ _ _ a4 w1
    refine ca_r10_wp hj (by unfold maxLen; omega) (fun a6 h6 => ?_) a4 ⟨h4.1, h4.2.1, h4.2.2.1, h4.2.2.2.1, h4.2.2.2.2.1, h4.2.2.2.2.2.1, h4.2.2.2.2.2.2.1, h4.2.2.2.2.2.2.2.1, h4.2.2.2.2.2.2.2.2.1, h4.2.2.2.2.2.2.2.2.2.1, h4.2.2.2.2.2.2.2.2.2.2.1, h4.2.2.2.2.2.2.2.2.2.2.2.1, h4.2.2.2.2.2.2.2.2.2.2.2.2.1, trivial⟩
    rw [repU_miss p q l j hjl hx] at hs1
    exact ⟨g - 1, by omega, j + 1, by omega, hs1, hp1, h6⟩
noncomputable def c_ca_ou : Code := sub [1, 1, 0, 1, 0] (Tryd.f94.body.getD .skip)
set_option maxRecDepth 100000 in
set_option maxHeartbeats 4000000 in
theorem ca_ou_wp {Q : Exit → Act → World → Prop} {SS : Nat → Prop} {env : Env} {De : Option Addr} {me ee bu : Nat} {Du : Option Addr} {mu eu : Nat} {l : List ByteArray} {wo w : World} {kd : Int} {nm : ByteArray} {A B : Option Addr} {n1 c1 n2 c2 : Nat} (hS : ∀ k, SS k → k < wo.heap.size) (hf : bindRep.Sl wo SS (.slice De me ee) env) (hen : env.length ≤ 1) (hlm : l.length = mu) (hll : l.length ≤ 1000000) (hs : US wo w bu (.slice Du mu eu) l kd nm A n1 c1 B n2 c2) 
    (hX : ∀ a' w', Frm 43 [(1, .slice De me ee), (2, .pointer (some ⟨wo.heap.size, 0, none⟩)), (4, .pointer (some ⟨wo.heap.size + 1, 0, none⟩)), (5, .pointer (some ⟨bu, 0, none⟩))] a' → US wo w' bu (.slice Du mu eu) (l.map (lookE env)) kd nm A n1 c1 B n2 c2 → Q (.exit 0) a' w') : ∀ ac, Frm 43 [(1, .slice De me ee), (2, .pointer (some ⟨wo.heap.size, 0, none⟩)), (4, .pointer (some ⟨wo.heap.size + 1, 0, none⟩)), (5, .pointer (some ⟨bu, 0, none⟩)), (14, .slice De me ee), (15, .int .i64 (me : Nat)), (16, .int .i64 (0 : Nat))] ac → Code.wp Tryd.prog c_ca_ou Q ac w := by
  intro a0 hf0
  conv => arg 2; whnf
  obtain ⟨D', m', e', e9, hfl, hfm, _⟩ := id hf
  injection e9 with e1 e2 e3
  subst e1 e2 e3
  refine wp_loopR (fun g a' w' => ∃ i : Nat, i + g = env.length ∧ US wo w' bu (.slice Du mu eu) (l.map (lookE (env.take i))) kd nm A n1 c1 B n2 c2 ∧ Frm 43 [(1, .slice De me ee), (2, .pointer (some ⟨wo.heap.size, 0, none⟩)), (4, .pointer (some ⟨wo.heap.size + 1, 0, none⟩)), (5, .pointer (some ⟨bu, 0, none⟩)), (14, .slice De me ee), (15, .int .i64 (me : Nat)), (16, .int .i64 (i : Nat))] a') env.length ⟨0, by omega, by rw [List.take_zero, map_look_nil]; exact hs, hf0⟩ ?_
  rintro g a1 w1 ⟨i, hig, hs1, h1⟩
  refine wp_seq ?_
  refine ca_r3_wp (fun a2 h2 => ?_) a1 h1
  refine wp_seq ?_
  by_cases hi : i < me
  case neg =>
    refine wp_cond_false ((h2.eval (k := 17) (v := .bool (decide (i < me))) (by simp)).trans (by rw [decide_eq_false hi])) ?_
    refine wp_exit (hX a2 w1 ⟨h2.1, h2.2.1, h2.2.2.1, h2.2.2.2.1, h2.2.2.2.2.1, h2.2.2.2.2.2.1, trivial⟩ ?_)
    rwa [List.take_of_length_le (by omega)] at hs1
  refine wp_cond_true ((h2.eval (k := 17) (v := .bool (decide (i < me))) (by simp)).trans (by rw [decide_eq_true hi])) ?_
  refine wp_skip ?_
  show Code.wp _ _ _ a2 w1
  obtain rfl : i = 0 := by omega
  have hie : 0 < env.length := by omega
  obtain ⟨b, o, cs, rfl, hSb, ⟨rfl, _⟩, hc⟩ := Rep.Sl.at_ hf (List.getElem?_eq_getElem hie)
  have hkb := hs1.b.block b (hS b hSb)
  have hbs := hs1.b.size
  have hc0 : w1.cell? ⟨b, o + 0 * 2, none⟩ = some (.string env[0].1) := (cell_keep hkb _).trans (hc 0 _ rfl)
  have hc1 : w1.cell? ⟨b, o + 0 * 2 + 1, none⟩ = some (.string env[0].2) := (cell_keep hkb _).trans (hc 1 _ rfl)
  refine wp_seq ?_
  refine wp_block ?_
  refine wp_seq ?_
  refine ca_r4_wp hi hc0 hc1 (by have := hS b hSb; omega) (fun a3 h3 => ?_) a2 ⟨h2.1, h2.2.1, h2.2.2.1, h2.2.2.2.1, h2.2.2.2.2.1, h2.2.2.2.2.2.1, h2.2.2.2.2.2.2.1, h2.2.2.2.2.2.2.2.1, h2.2.2.2.2.2.2.2.2.1, trivial⟩
  refine gen_last (fun wx => wx.heap[w1.heap.size]? = some (.cells #[.string env[0].1, .string env[0].2] 102 (0, 0)) ∧ Below w1.heap.size w1 wx) ⟨heap_alloc_new _ _, (Below.refl _ _).alloc (Nat.le_refl _) _⟩ ?_
  rintro wx ⟨hp, hbx⟩
  have hsx := hs1.below hbx
  have hul := lt_heap hs1.u
  rw [List.take_zero, map_look_nil] at hsx
  refine wp_seq ?_
  refine ca_r5_wp hsx.u (fun a4 h4 => ?_) a3 h3
  refine wp_block ?_
  refine ca_in_wp hp (by omega) (fun k e => by have := (hs1.r.lt k e).2; omega) hlm hll hsx (fun a5 w5 h5 hs5 => ?_) a4 h4
  refine inBlock_exit ?_
  show Code.wp _ _ _ a5 w5
  refine ca_r11_wp hi (by omega) (fun a6 h6 => ?_) a5 h5
  refine ⟨g - 1, by omega, 0 + 1, by omega, ?_, h6⟩
  have e : env.take (0 + 1) = [env[0]] := by
    rw [List.take_succ_eq_append_getElem hie]; rfl
  rw [e]
  exact hs5
set_option maxRecDepth 100000 in
set_option maxHeartbeats 4000000 in
/-- folform.canon, for no pair or one. -/
theorem canon_any (v : Fv) (hv : v.ok) (hn : v.nodes ≤ 200) (cs : List Value) (w : World) (S : Nat → Prop) (De : Option Addr) (me ee : Nat) (env : Env) (hen : env.length ≤ 1) (hDe : me = 0 → De = none) (hmee : me ≤ ee) (ht : fmRep.R w S v.fm cs) (hS : ∀ b, S b → b < w.heap.size) (hf : bindRep.Sl w S (.slice De me ee) env) (htab : ∀ W, Below w.heap.size w W → Lib.TabIs Tryd.prog W "internal/strconv.uint64pow10" .u64 Lib.pow10Tab) :
    Calls Tryd.prog 94 #[.agg cs.toArray, .slice De me ee] w fun e w' => ∃ es : List Value, e = .returned (.agg es.toArray) ∧ fmRep.R w' (fun b => w.heap.size ≤ b ∧ b < w'.heap.size) (canF env v.fm) es ∧ Below w.heap.size w w' := by
  have hwq := Fv.words_le v hv
  have hfn := v.fm_nodes
  have hcl := fmConsts_len v.fm
  have hfl := frees_le v.fm []
  have hqn : quN v.fm ≤ 200 := by omega
  generalize v.fm = t at hwq hfn hcl hfl hqn ht ⊢
  clear hv
  obtain ⟨A, n1, c1, B, n2, c2, rfl, _, _, _, _⟩ := Fm.shape ht
  obtain ⟨kd, hkd⟩ : ∃ k, t.lab.kind = k := ⟨_, rfl⟩
  obtain ⟨nm, hnm⟩ : ∃ k, t.lab.nm = k := ⟨_, rfl⟩
  rw [hkd, hnm] at ht ⊢
  have hmf : env.length = me := by
    obtain ⟨_, _, _, e9, h9, _⟩ := id hf
    injection e9 with _ e9 _
    omega
  go_enter Tryd.func94, Tryd.ntmps94
  refine wp_seq ?_
  refine ca_r0_wp (fun a0 h0 => ?_) _ (id ⟨rfl, rfl, rfl, rfl, trivial⟩)
  refine gen_last (fun wx => wx.heap[w.heap.size]? = some (.cells #[.int .i64 kd, .string nm, .slice A n1 c1, .slice B n2 c2] 29 (0, 0)) ∧ wx.heap[w.heap.size + 1]? = some (.cells #[.int .i64 0, .string ⟨#[]⟩, .slice none 0 0, .slice none 0 0] 29 (0, 0)) ∧ wx.heap.size = w.heap.size + 2 ∧ Below w.heap.size w wx) ⟨heap_old (by simp) (heap_at (by simp)), heap_at (by simp), by simp, ((Below.refl _ _).alloc (Nat.le_refl _) _).alloc (by simp) _⟩ ?_
  rintro wx ⟨ha, hz, hsz, hb⟩
  refine wp_seq ?_
  have hcon := (constants_any t [.int .i64 kd, .string nm, .slice A n1 c1, .slice B n2 c2] wx S (fmRep.keep ht (fun b hb2 => hb.block b (hS b hb2)) (fun _ h => h)) (fun b hb2 => by have := hS b hb2; omega) (by omega) (by omega)).mono (R' := fun e w' => ∃ Du mu eu, e = .returned (.slice Du mu eu) ∧ ((fmConsts t).length = mu ∧ w'.ownsRow wx.heap.size 9 1 (.slice Du mu eu) (fmConsts t).length ((fmConsts t).map .string) ∧ Below wx.heap.size wx w')) (by
    rintro e w' ⟨v', rfl, hr, hb9⟩
    obtain ⟨A9, c9, rfl⟩ : ∃ A c, v' = .slice A (fmConsts t).length c := by
      rcases hr.2 with ⟨e, e0⟩ | ⟨g, cap, cur, e, _⟩
      · exact ⟨none, 0, by rw [e, e0]⟩
      · exact ⟨_, _, e⟩
    exact ⟨_, _, _, rfl, rfl, hr, hb9⟩)
  refine ca_r1_wp ha hcon (fun Du mu eu w1 a1 h1 hp1 => ?_) a0 h0
  obtain ⟨hlm, hr1, hb1⟩ := hp1
  have hb1s := hb1.size
  obtain ⟨bu, hbu⟩ : ∃ b, w1.heap.size = b := ⟨_, rfl⟩
  rw [hbu] at h1
  refine gen_last (fun wy => US w wy bu (.slice Du mu eu) (fmConsts t) kd nm A n1 c1 B n2 c2) ⟨heap_old (by have := lt_heap ha; omega) ((hb1.block _ (lt_heap ha)).trans ha), heap_old (by have := lt_heap hz; omega) ((hb1.block _ (lt_heap hz)).trans hz), by rw [← hbu]; exact heap_alloc_new _ _, ⟨hr1.1, ?_⟩, fun e => by have := (hr1.lt _ e).2; omega, (hb.trans (hb1.mono (by omega))).alloc (by omega) _, by omega⟩ ?_
  · rcases hr1.2 with q | ⟨g, cap, cur, e, hg, hh, r⟩
    · exact Or.inl q
    · exact Or.inr ⟨g, cap, cur, e, by omega, heap_old (lt_heap hh) hh, r⟩
  intro wy hs
  refine wp_seq ?_
  refine wp_seq ?_
  refine ca_r2_wp (fun a2 h2 => ?_) a1 h1
  refine wp_block ?_
  refine ca_ou_wp (SS := S) (env := env) hS hf hen hlm (by omega) hs (fun a3 w3 h3 hs3 => ?_) a2 h2
  refine inBlock_exit ?_
  show Code.wp _ _ _ a3 w3
  obtain ⟨u, hu⟩ : ∃ u, (fmConsts t).map (lookE env) = u := ⟨_, rfl⟩
  rw [hu] at hs3
  have hul : u.length = mu := by rw [← hu, List.length_map]; exact hlm
  refine wp_seq ?_
  refine ca_r12_wp (fun a4 h4 => ?_) a3 h3
  obtain ⟨bk, hbk⟩ : ∃ b, w3.heap.size = b := ⟨_, rfl⟩
  rw [hbk] at h4
  have hus := lt_heap hs3.u
  refine gen_last (fun wy => US w wy bu (.slice Du mu eu) u kd nm A n1 c1 B n2 c2 ∧ wy.heap[bk]? = some (.cells #[.int .i64 ((0 : Nat) : Int)] 3 (0, 0)) ∧ wy.heap.size = bk + 1) ⟨hs3.below ((Below.refl _ _).alloc (Nat.le_refl _) _), by rw [← hbk]; exact heap_alloc_new _ _, by simp [hbk]⟩ ?_
  rintro w4 ⟨hs4, hk4, hz4⟩
  refine wp_seq ?_
  refine ca_r13_wp (fun a5 h5 => ?_) a4 h4
  have hbs4 := hs4.b.size
  have hbk0 : w.heap.size ≤ bk := by have := hs3.b.size; omega
  have hsz4 : ∀ s ∈ u, s.size ≤ maxLen := by
    intro s hs
    rw [← hu] at hs
    obtain ⟨y, hy, rfl⟩ := List.mem_map.1 hs
    refine lookE_size y env y (fun p hp => (bind_sizes hf p hp).2) ?_
    have hym : y ∈ fmFrees [] t := mem_constsB.1 hy
    have key := frees_size S w t [.int .i64 kd, .string nm, .slice A n1 c1, .slice B n2 c2] [] ht
    exact key y hym
  have hsl4 := sl_of_row (S := fun b => b < w4.heap.size ∧ b ≠ bk ∧ w.heap.size + 2 ≤ b) hs4.r hsz4 (by unfold maxLen; omega) (fun b e => ⟨(hs4.r.lt b e).2, fun e2 => by
    subst e2
    have hr4 := hs4.r
    rcases hr4.2 with ⟨q, _⟩ | ⟨g, cap, cur, q, _, hh, _⟩
    · rw [q] at e; cases e
    · rw [q] at e
      have e : g = b := Option.some.inj e
      subst e
      rw [hk4] at hh
      injection hh with hh
      injection hh with _ hh _
      exact absurd hh (by decide), (hs4.r.lt b e).1⟩)
  have hnx : ∀ (W : World) (k : Nat), k < quN t → Keeps (· = bk) w4 W → W.heap[bk]? = some (.cells #[.int .i64 (fromV u k : Nat)] 3 (0, 0)) → Calls Tryd.prog 117 #[.pointer (some ⟨bk, 0, none⟩), .pointer (some ⟨bu, 0, none⟩)] W fun e w' => e = .returned (.string (namV u k)) ∧ w'.heap[bk]? = some (.cells #[.int .i64 (fromV u (k + 1) : Nat)] 3 (0, 0)) ∧ Keeps (· = bk) W w' := by
    intro W k hk hkp hcn
    have hfv := fromV_le u (quN t) k hqn (by omega) (by omega)
    have hW : Below w.heap.size w W := (hs4.b.trans (Keeps.below (B := w.heap.size) hkp (fun k e => by have e : k = bk := e; omega) hbs4))
    have hWs := hkp.size
    have h9 := next_any (S := fun b => b < w4.heap.size ∧ b ≠ bk ∧ w.heap.size + 2 ≤ b) hcn ((hkp.block bu (lt_heap hs4.u) (by omega)).trans hs4.u) (by omega) (hsl4.keep (fun b hb => hkp.block b hb.1 hb.2.1) (fun _ h => h)) (fun b hb => ⟨by omega, hb.2.1⟩) (by omega) (fun W' hk' => htab W' (hW.trans (Keeps.below hk' (fun k e => by have e : k = bk := e; omega) hW.size)))
    refine h9.mono ?_
    rintro e w' ⟨rfl, hc9, hk9⟩
    refine ⟨by rw [namV, numV_from], ?_, hk9⟩
    rw [hc9]
    rw [show fromV u (k + 1) = numV u k + 1 from rfl, numV_from]
  have hren := (renamed_any t.nodes t [.int .i64 kd, .string nm, .slice A n1 c1, .slice B n2 c2] w4 w4 S De me ee env 0 bk bu (quN t) (namV u) (fromV u) (Nat.le_refl _) (by omega) (by omega) (by omega) (by omega) (fun j hj => vB_size (by have := fromV_le u (quN t) (j + 1) hqn (by omega) (by omega); have e : fromV u (j + 1) = numV u j + 1 := rfl; omega)) hDe hmee (fmRep.keep ht (fun b hb => hs4.b.block b (hS b hb)) (fun _ h => h)) (fun b hb => by have := hS b hb; exact ⟨by omega, by omega⟩) (hf.keep (fun b hb => hs4.b.block b (hS b hb)) (fun _ h => h)) (Keeps.refl _ _) hnx hk4).mono (R' := fun e w' => ∃ ke ne Ae n3 c3 Be n4 c4, e = .returned (.agg #[.int .i64 ke, .string ne, .slice Ae n3 c3, .slice Be n4 c4]) ∧ w'.heap[w.heap.size + 1]? = some (.cells #[.int .i64 0, .string ⟨#[]⟩, .slice none 0 0, .slice none 0 0] 29 (0, 0)) ∧ (fmRep.R w' (fun b => w4.heap.size ≤ b ∧ b < w'.heap.size) (renF (namV u) env t 0).1 [.int .i64 ke, .string ne, .slice Ae n3 c3, .slice Be n4 c4] ∧ Keeps (· = bk) w4 w')) (by
    rintro e w' ⟨es, rfl, hr, hk9, _⟩
    obtain ⟨A5, n5, c5, B5, n6, c6, rfl, _, _, _, _⟩ := Fm.shape hr
    exact ⟨_, _, _, _, _, _, _, _, rfl, (hk9.block _ (lt_heap hs4.z) (by have := hs4.lo; have := lt_heap hs3.z; omega)).trans hs4.z, hr, hk9⟩)
  refine wp_seq ?_
  refine ca_r14_wp hs4.a hren (fun ke ne Ae n3 c3 Be n4 c4 w5 a6 w6 h6 hp6 hz6 hk6 => ?_) a5 h5
  obtain ⟨hr5, hk5⟩ := hp6
  have hk6s := hk6.size
  have hk5s := hk5.size
  have hzl := lt_heap hs4.z
  refine wp_ret ?_
  refine ca_ret_wp hz6 ⟨rfl, rfl, rfl, rfl⟩ ⟨_, rfl, ?_, ?_⟩ a6 h6
  · have e : canF env t = (renF (namV u) env t 0).1 := by unfold canF; rw [hu]
    rw [e]
    exact fmRep.keep hr5 (fun b hb => hk6.block b hb.2 (by omega)) (fun b hb => ⟨by omega, by omega⟩)
  · have h1 : Below w.heap.size w w5 := hs4.b.trans (Keeps.below (B := w.heap.size) hk5 (fun k e => by have e : k = bk := e; omega) hbs4)
    exact h1.trans (Keeps.below (B := w.heap.size) hk6 (fun k e => by have e : k = w.heap.size + 1 := e; omega) (by have := h1.size; omega))
end

section
open Go Go.RowKit
set_option linter.unusedSimpArgs false
set_option linter.unusedVariables false
set_option maxRecDepth 1000000 in
theorem frame_cq {P : Act → Prop} (h : ∀ x0 x1 x2 x3 x4 : Value, P ⟨(x0 :: x1 :: x2 :: x3 :: x4 :: []).toArray, []⟩) : ∀ a : Act, a.tmps.toList.length = 5 → a.defers = [] → P a := by
  rintro ⟨⟨l⟩, d⟩ hs hd
  simp only at hd
  subst hd
  revert l
  show ∀ l : List Value, l.length = 5 → P ⟨⟨l⟩, []⟩
  iterate 5 refine openS (fun _ => ?_)
  refine open0 ?_
  exact h ..
noncomputable def c_cq_r0 : Code := sub [0] (Tryd.f66.body.getD .skip)
set_option maxRecDepth 1000000 in
set_option maxHeartbeats 16000000 in
theorem cq_r0_wp {Q : Exit → Act → World → Prop} {wo : World} {kd : Int} {nm : ByteArray} {A B : Option Addr} {n1 c1 n2 c2 : Nat} (hN : ∀ a', Frm 5 [(1, .pointer (some ⟨wo.heap.size, 0, none⟩)), (2, .pointer (some ⟨wo.heap.size + 1, 0, none⟩))] a' → Q .normal a' ((wo.alloc (.cells #[.int .i64 kd, .string nm, .slice A n1 c1, .slice B n2 c2] 29)).alloc (.cells #[.int .i64 0, .string ⟨#[]⟩, .slice none 0 0, .slice none 0 0] 29))) : ∀ ac, Frm 5 [(0, .agg #[.int .i64 kd, .string nm, .slice A n1 c1, .slice B n2 c2])] ac → Code.wp Tryd.prog c_cq_r0 Q ac wo := by
  refine frm_open ?_
  refine frame_cq ?_
  intros
  rename_i hq
  obtain ⟨-, -, e0q, -⟩ := hq
  obtain rfl := sI e0q
  conv => arg 2; whnf
  have HN := Lib.hid hN
  clear hN
  go_wp2_with fail
  exact HN.out _ (id ⟨rfl, rfl, rfl, rfl, trivial⟩)
noncomputable def c_cq_r1 : Code := sub [1, 0] (Tryd.f66.body.getD .skip)
set_option maxRecDepth 1000000 in
set_option maxHeartbeats 16000000 in
theorem cq_r1_wp {Q : Exit → Act → World → Prop} {PV : Int → ByteArray → Option Addr → Nat → Nat → Option Addr → Nat → Nat → World → Prop} {gz : Nat} {wo w : World} {kd : Int} {nm : ByteArray} {A B : Option Addr} {n1 c1 n2 c2 : Nat} (ha : w.heap[wo.heap.size]? = some (.cells #[.int .i64 kd, .string nm, .slice A n1 c1, .slice B n2 c2] 29 (0, 0))) (hc : Calls Tryd.prog 94 #[.agg #[.int .i64 kd, .string nm, .slice A n1 c1, .slice B n2 c2], .slice none 0 0] w fun e w' => ∃ ke ne Ae n3 c3 Be n4 c4, e = .returned (.agg #[.int .i64 ke, .string ne, .slice Ae n3 c3, .slice Be n4 c4]) ∧ w'.heap[gz]? = some (.cells #[.int .i64 0, .string ⟨#[]⟩, .slice none 0 0, .slice none 0 0] 29 (0, 0)) ∧ PV ke ne Ae n3 c3 Be n4 c4 w') (hN : ∀ ke ne Ae n3 c3 Be n4 c4 w1 a' w', Frm 5 [(2, .pointer (some ⟨gz, 0, none⟩))] a' → PV ke ne Ae n3 c3 Be n4 c4 w1 → w'.heap[gz]? = some (.cells #[.int .i64 ke, .string ne, .slice Ae n3 c3, .slice Be n4 c4] 29 (0, 0)) → Keeps (· = gz) w1 w' → Q .normal a' w') : ∀ ac, Frm 5 [(1, .pointer (some ⟨wo.heap.size, 0, none⟩)), (2, .pointer (some ⟨gz, 0, none⟩))] ac → Code.wp Tryd.prog c_cq_r1 Q ac w := by
  refine frm_open ?_
  refine frame_cq ?_
  intros
  rename_i hq
  obtain ⟨-, -, e0q, e1q, -⟩ := hq
  obtain rfl := sI e0q
  obtain rfl := sI e1q
  conv => arg 2; whnf
  have a0 := cellv ha 0 rfl
  have a1 := cellv ha 1 rfl
  have a2 := cellv ha 2 rfl
  have a3 := cellv ha 3 rfl
  have al := lt_heap ha
  clear ha
  have z0 := fun (W : World) (h : W.heap[gz]? = some (.cells #[.int .i64 0, .string ⟨#[]⟩, .slice none 0 0, .slice none 0 0] 29 (0, 0))) => cellv h 0 rfl
  have z1 := fun (W : World) (h : W.heap[gz]? = some (.cells #[.int .i64 0, .string ⟨#[]⟩, .slice none 0 0, .slice none 0 0] 29 (0, 0))) => cellv h 1 rfl
  have z2 := fun (W : World) (h : W.heap[gz]? = some (.cells #[.int .i64 0, .string ⟨#[]⟩, .slice none 0 0, .slice none 0 0] 29 (0, 0))) => cellv h 2 rfl
  have z3 := fun (W : World) (h : W.heap[gz]? = some (.cells #[.int .i64 0, .string ⟨#[]⟩, .slice none 0 0, .slice none 0 0] 29 (0, 0))) => cellv h 3 rfl
  have zf := fun (W : World) (h : W.heap[gz]? = some (.cells #[.int .i64 0, .string ⟨#[]⟩, .slice none 0 0, .slice none 0 0] 29 (0, 0))) => And.intro (free_heap h 0) (And.intro (free_heap h 1) (And.intro (free_heap h 2) (free_heap h 3)))
  have Z0 := Lib.hid z0
  have Z1 := Lib.hid z1
  have Z2 := Lib.hid z2
  have Z3 := Lib.hid z3
  have ZF := Lib.hid zf
  clear z0 z1 z2 z3 zf
  have HN := Lib.hid hN
  have HC := Lib.hid hc
  clear hN hc
  go_wp2_with fail
  (with_reducible refine HC.out.mono ?_)
  rintro e w1 ⟨ke, ne, Ae, n3, c3, Be, n4, c4, rfl, hz, hp⟩
  have y0 := Z0.out w1 hz
  have y1 := Z1.out w1 hz
  have y2 := Z2.out w1 hz
  have y3 := Z3.out w1 hz
  obtain ⟨yf0, yf1, yf2, yf3⟩ := ZF.out w1 hz
  have yl := lt_heap hz
  have HP := Lib.hid hp
  have HZ := Lib.hid hz
  clear hp hz
  go_wp2_with fail
  exact HN.out _ _ _ _ _ _ _ _ _ _ _ (id ⟨rfl, rfl, rfl, trivial⟩) HP.out (at4F HZ.out) (keeps4F (Keeps.refl _ _) (Or.inl rfl))
set_option maxRecDepth 1000000 in
theorem cq_ret_wp {R : Ending → World → Prop} {w' : World} {g : Nat} {v0 v1 v2 v3 : Value} (hg : w'.heap[g]? = some (.cells #[v0, v1, v2, v3] 29 (0, 0))) (ho : v0.oneCell' = true ∧ v1.oneCell' = true ∧ v2.oneCell' = true ∧ v3.oneCell' = true) (hR : R (.returned (.agg #[v0, v1, v2, v3])) w') : ∀ ac, Frm 5 [(2, .pointer (some ⟨g, 0, none⟩))] ac → bodyPost Tryd.prog Tryd.f66 R .ret ac w' := by
  refine frm_open ?_
  refine frame_cq ?_
  intros
  rename_i hq
  obtain ⟨-, -, e0q, -⟩ := hq
  obtain rfl := sI e0q
  have z0 := cellv hg 0 rfl
  have z1 := cellv hg 1 rfl
  have z2 := cellv hg 2 rfl
  have z3 := cellv hg 3 rfl
  have zl := lt_heap hg
  obtain ⟨o0, o1, o2, o3⟩ := ho
  refine bodyPost_ret (v := .agg #[v0, v1, v2, v3]) (by simp [results, Tryd.results66, go_sem, z0, z1, z2, z3, zl, o0, o1, o2, o3]) rfl ?_
  exact hR
set_option maxRecDepth 100000 in
set_option maxHeartbeats 4000000 in
theorem canonQ_any (v : Fv) (hv : v.ok) (hn : v.nodes ≤ 200) (cs : List Value) (w : World) (S : Nat → Prop) (ht : fmRep.R w S v.fm cs) (hS : ∀ b, S b → b < w.heap.size) (htab : ∀ W, Below w.heap.size w W → Lib.TabIs Tryd.prog W "internal/strconv.uint64pow10" .u64 Lib.pow10Tab) :
    Calls Tryd.prog 66 #[.agg cs.toArray] w fun e w' => ∃ es : List Value, e = .returned (.agg es.toArray) ∧ fmRep.R w' (fun b => w.heap.size ≤ b ∧ b < w'.heap.size) (canF [] v.fm) es ∧ Below w.heap.size w w' := by
  obtain ⟨A, n1, c1, B, n2, c2, rfl, _, _, _, _⟩ := Fm.shape ht
  obtain ⟨kd, hkd⟩ : ∃ k, v.fm.lab.kind = k := ⟨_, rfl⟩
  obtain ⟨nm, hnm⟩ : ∃ k, v.fm.lab.nm = k := ⟨_, rfl⟩
  rw [hkd, hnm] at ht ⊢
  go_enter Tryd.func66, Tryd.ntmps66
  refine wp_seq ?_
  refine cq_r0_wp (fun a0 h0 => ?_) _ (id ⟨rfl, rfl, rfl, trivial⟩)
  refine gen_last (fun wx => wx.heap[w.heap.size]? = some (.cells #[.int .i64 kd, .string nm, .slice A n1 c1, .slice B n2 c2] 29 (0, 0)) ∧ wx.heap[w.heap.size + 1]? = some (.cells #[.int .i64 0, .string ⟨#[]⟩, .slice none 0 0, .slice none 0 0] 29 (0, 0)) ∧ wx.heap.size = w.heap.size + 2 ∧ Below w.heap.size w wx) ⟨heap_old (by simp) (heap_at (by simp)), heap_at (by simp), by simp, ((Below.refl _ _).alloc (Nat.le_refl _) _).alloc (by simp) _⟩ ?_
  rintro wx ⟨ha, hz, hsz, hb⟩
  have hc := (canon_any v hv hn [.int .i64 kd, .string nm, .slice A n1 c1, .slice B n2 c2] wx S none 0 0 [] (by simp) (fun _ => rfl) (Nat.le_refl _) (fmRep.keep ht (fun b h => hb.block b (hS b h)) (fun _ h => h)) (fun b h => by have := hS b h; omega) Rep.Sl.nil (fun W h => htab W (hb.trans (h.mono (by omega))))).mono (R' := fun e w' => ∃ ke ne Ae n3 c3 Be n4 c4, e = .returned (.agg #[.int .i64 ke, .string ne, .slice Ae n3 c3, .slice Be n4 c4]) ∧ w'.heap[w.heap.size + 1]? = some (.cells #[.int .i64 0, .string ⟨#[]⟩, .slice none 0 0, .slice none 0 0] 29 (0, 0)) ∧ (fmRep.R w' (fun b => wx.heap.size ≤ b ∧ b < w'.heap.size) (canF [] v.fm) [.int .i64 ke, .string ne, .slice Ae n3 c3, .slice Be n4 c4] ∧ Below wx.heap.size wx w')) (by
    rintro e w' ⟨es, rfl, hr, hb9⟩
    obtain ⟨A5, n5, c5, B5, n6, c6, rfl, _, _, _, _⟩ := Fm.shape hr
    exact ⟨_, _, _, _, _, _, _, _, rfl, (hb9.block _ (lt_heap hz)).trans hz, hr, hb9⟩)
  refine wp_seq ?_
  refine cq_r1_wp ha hc (fun ke ne Ae n3 c3 Be n4 c4 w5 a6 w6 h6 hp6 hz6 hk6 => ?_) a0 h0
  obtain ⟨hr5, hb5⟩ := hp6
  have hk6s := hk6.size
  have hb5s := hb5.size
  refine wp_ret ?_
  refine cq_ret_wp hz6 ⟨rfl, rfl, rfl, rfl⟩ ⟨_, rfl, ?_, ?_⟩ a6 h6
  · exact fmRep.keep hr5 (fun b hb => hk6.block b hb.2 (by omega)) (fun b hb => ⟨by omega, by omega⟩)
  · have h1 : Below w.heap.size w w5 := hb.trans (hb5.mono (by omega))
    exact h1.trans (Keeps.below (B := w.heap.size) hk6 (fun k e => by have e : k = w.heap.size + 1 := e; omega) (by have := h1.size; omega))
end

section
open Go Go.RowKit
set_option linter.unusedSimpArgs false
set_option linter.unusedVariables false
theorem far4F {w : World} {b k : Nat} {v0 v1 v2 v3 : Value} {x : Option Obj} (h : k ≠ b) (hx : w.heap[k]? = x) : ((((w.setCell ⟨b, 0, none⟩ v0).setCell ⟨b, 1, none⟩ v1).setCell ⟨b, 2, none⟩ v2).setCell ⟨b, 3, none⟩ v3).heap[k]? = x := heap_far _ h (heap_far _ h (heap_far _ h (heap_far _ h hx)))
theorem keeps2F {PP : Nat → Prop} {u w : World} {b : Nat} {v0 v1 : Value} (h : Keeps PP u w) (hb : PP b ∨ u.heap.size ≤ b) : Keeps PP u ((w.setCell ⟨b, 0, none⟩ v0).setCell ⟨b, 1, none⟩ v1) := (h.set hb 0 v0).set hb 1 v1
set_option maxRecDepth 1000000 in
theorem frame_ck2 {P : Act → Prop} (h : ∀ x0 x1 x2 x3 x4 x5 x6 x7 x8 x9 x10 x11 x12 x13 x14 : Value, P ⟨(x0 :: x1 :: x2 :: x3 :: x4 :: x5 :: x6 :: x7 :: x8 :: x9 :: x10 :: x11 :: x12 :: x13 :: x14 :: []).toArray, []⟩) : ∀ a : Act, a.tmps.toList.length = 15 → a.defers = [] → P a := by
  rintro ⟨⟨l⟩, d⟩ hs hd
  simp only at hd
  subst hd
  revert l
  show ∀ l : List Value, l.length = 15 → P ⟨⟨l⟩, []⟩
  iterate 15 refine openS (fun _ => ?_)
  refine open0 ?_
  exact h ..
noncomputable def c_ck2_r0 : Code := sub [0] (Tryd.f37.body.getD .skip)
set_option maxRecDepth 1000000 in
set_option maxHeartbeats 16000000 in
theorem ck2_r0_wp {Q : Exit → Act → World → Prop} {wo : World} {kd : Int} {nm : ByteArray} {A B : Option Addr} {n1 c1 n2 c2 : Nat} (hN : ∀ a', Frm 15 [(1, .pointer (some ⟨wo.heap.size, 0, none⟩)), (2, .pointer (some ⟨wo.heap.size + 1, 0, none⟩)), (3, .pointer (some ⟨wo.heap.size + 1 + 1, 0, none⟩))] a' → Q .normal a' (((wo.alloc (.cells #[.int .i64 kd, .string nm, .slice A n1 c1, .slice B n2 c2] 29)).alloc (.cells #[.int .i64 0, .string ⟨#[]⟩, .slice none 0 0, .slice none 0 0] 29)).alloc (.cells #[.int .i64 0, .int .i64 0] 31))) : ∀ ac, Frm 15 [(0, .agg #[.int .i64 kd, .string nm, .slice A n1 c1, .slice B n2 c2])] ac → Code.wp Tryd.prog c_ck2_r0 Q ac wo := by
  refine frm_open ?_
  refine frame_ck2 ?_
  intros
  rename_i hq
  obtain ⟨-, -, e0q, -⟩ := hq
  obtain rfl := sI e0q
  conv => arg 2; whnf
  have HN := Lib.hid hN
  clear hN
  go_wp2_with fail
  exact HN.out _ (id ⟨rfl, rfl, rfl, rfl, rfl, trivial⟩)
noncomputable def c_ck2_r1 : Code := sub [1, 0, 0] (Tryd.f37.body.getD .skip)
set_option maxRecDepth 1000000 in
set_option maxHeartbeats 16000000 in
theorem ck2_r1_wp {Q : Exit → Act → World → Prop} {wo w : World} {c j : Nat} {y : ByteArray} {kd : Int} {nm : ByteArray} {A B : Option Addr} {n1 c1 n2 c2 : Nat} (ha : w.heap[wo.heap.size]? = some (.cells #[.int .i64 kd, .string nm, .slice A n1 c1, .slice B n2 c2] 29 (0, 0))) (hc : Calls Tryd.prog 46 #[.agg #[.int .i64 kd, .string nm, .slice A n1 c1, .slice B n2 c2]] w fun e w' => e = .returned (.agg #[.int .i64 (c : Nat), .int .i64 (j : Nat)]) ∧ Below w.heap.size w w') (hN : ∀ w1 a', Frm 15 [(1, .pointer (some ⟨wo.heap.size, 0, none⟩)), (2, .pointer (some ⟨wo.heap.size + 1, 0, none⟩)), (3, .pointer (some ⟨wo.heap.size + 2, 0, none⟩)), (4, .pointer (some ⟨w1.heap.size, 0, none⟩))] a' → Below w.heap.size w w1 → Q .normal a' (w1.alloc (.cells #[.int .i64 (c : Nat), .int .i64 (j : Nat)] 31))) : ∀ ac, Frm 15 [(1, .pointer (some ⟨wo.heap.size, 0, none⟩)), (2, .pointer (some ⟨wo.heap.size + 1, 0, none⟩)), (3, .pointer (some ⟨wo.heap.size + 2, 0, none⟩))] ac → Code.wp Tryd.prog c_ck2_r1 Q ac w := by
  refine frm_open ?_
  refine frame_ck2 ?_
  intros
  rename_i hq
  obtain ⟨-, -, e0q, e1q, e2q, -⟩ := hq
  obtain rfl := sI e0q
  obtain rfl := sI e1q
  obtain rfl := sI e2q
  conv => arg 2; whnf
  have a0 := cellv ha 0 rfl
  have a1 := cellv ha 1 rfl
  have a2 := cellv ha 2 rfl
  have a3 := cellv ha 3 rfl
  have al := lt_heap ha
  clear ha
  have HN := Lib.hid hN
  have HC := Lib.hid hc
  clear hN hc
  go_wp2_with fail
  (with_reducible refine HC.out.mono ?_)
  rintro e w1 ⟨rfl, hb1⟩
  have HB1 := Lib.hid hb1
  clear hb1
  go_wp2_with fail
  exact HN.out _ _ (id ⟨rfl, rfl, rfl, rfl, rfl, rfl, trivial⟩) HB1.out
noncomputable def c_ck2_r2 : Code := sub [1, 0, 1, 0] (Tryd.f37.body.getD .skip)
set_option maxRecDepth 1000000 in
set_option maxHeartbeats 16000000 in
theorem ck2_r2_wp {Q : Exit → Act → World → Prop} {gb c j : Nat} {y : ByteArray} {wo w : World} (hb : w.heap[gb]? = some (.cells #[.int .i64 (c : Nat), .int .i64 (j : Nat)] 31 (0, 0))) (hN : ∀ a', Frm 15 [(1, .pointer (some ⟨wo.heap.size, 0, none⟩)), (2, .pointer (some ⟨wo.heap.size + 1, 0, none⟩)), (3, .pointer (some ⟨wo.heap.size + 2, 0, none⟩)), (4, .pointer (some ⟨gb, 0, none⟩)), (9, .bool (decide (c ≠ 0)))] a' → Q .normal a' w) : ∀ ac, Frm 15 [(1, .pointer (some ⟨wo.heap.size, 0, none⟩)), (2, .pointer (some ⟨wo.heap.size + 1, 0, none⟩)), (3, .pointer (some ⟨wo.heap.size + 2, 0, none⟩)), (4, .pointer (some ⟨gb, 0, none⟩))] ac → Code.wp Tryd.prog c_ck2_r2 Q ac w := by
  refine frm_open ?_
  refine frame_ck2 ?_
  intros
  rename_i hq
  obtain ⟨-, -, e0q, e1q, e2q, e3q, -⟩ := hq
  obtain rfl := sI e0q
  obtain rfl := sI e1q
  obtain rfl := sI e2q
  obtain rfl := sI e3q
  conv => arg 2; whnf
  have b0 := cellv hb 0 rfl
  have bl := lt_heap hb
  clear hb
  by_cases h : c ≠ 0
  · have t0 := h
    have t1 : ((c : Int) != 0) = true := by first | exact bne_iff_ne.2 (by omega) | exact bne_eq_false_iff_eq.2 (by omega)
    rw [show decide (c ≠ 0) = true from by simpa using h] at hN
    clear h
    have HN := Lib.hid hN
    clear hN
    go_wp2_with fail
    exact HN.out _ (id ⟨rfl, rfl, rfl, rfl, rfl, rfl, rfl, trivial⟩)
  · have t0 := h
    have t1 : ((c : Int) != 0) = false := by first | exact bne_iff_ne.2 (by omega) | exact bne_eq_false_iff_eq.2 (by omega)
    rw [show decide (c ≠ 0) = false from by simpa using h] at hN
    clear h
    have HN := Lib.hid hN
    clear hN
    go_wp2_with fail
    exact HN.out _ (id ⟨rfl, rfl, rfl, rfl, rfl, rfl, rfl, trivial⟩)
noncomputable def c_ck2_r3 : Code := sub [1, 0, 1, 1, 0, 0] (Tryd.f37.body.getD .skip)
set_option maxRecDepth 1000000 in
set_option maxHeartbeats 16000000 in
theorem ck2_r3_wp {K : Act → World → Prop} {gz gx gb : Nat} {c j : Int} {w : World} (hne : gz ≠ gx) (hz : w.heap[gz]? = some (.cells #[.int .i64 0, .string ⟨#[]⟩, .slice none 0 0, .slice none 0 0] 29 (0, 0))) (hx : w.heap[gx]? = some (.cells #[.int .i64 0, .int .i64 0] 31 (0, 0))) (hbz : gb ≠ gz) (hbx2 : gb ≠ gx) (hbx : w.heap[gb]? = some (.cells #[.int .i64 c, .int .i64 j] 31 (0, 0))) (hN : ∀ a' w', Frm 15 [(2, .pointer (some ⟨gz, 0, none⟩)), (3, .pointer (some ⟨gx, 0, none⟩))] a' → w'.heap[gz]? = some (.cells #[.int .i64 0, .string ⟨#[]⟩, .slice none 0 0, .slice none 0 0] 29 (0, 0)) → w'.heap[gx]? = some (.cells #[.int .i64 c, .int .i64 j] 31 (0, 0)) → Keeps (fun k => k = gz ∨ k = gx) w w' → K a' w') : ∀ ac, Frm 15 [(2, .pointer (some ⟨gz, 0, none⟩)), (3, .pointer (some ⟨gx, 0, none⟩)), (4, .pointer (some ⟨gb, 0, none⟩))] ac → Code.wp Tryd.prog c_ck2_r3 (Exit.then K (fun _ _ _ => False)) ac w := by
  refine frm_open ?_
  refine frame_ck2 ?_
  intros
  rename_i hq
  obtain ⟨-, -, e0q, e1q, e2q, -⟩ := hq
  obtain rfl := sI e0q
  obtain rfl := sI e1q
  obtain rfl := sI e2q
  conv => arg 2; whnf
  have b0 := cellv hbx 0 rfl
  have b1 := cellv hbx 1 rfl
  have bl := lt_heap hbx
  have z0 := cellv hz 0 rfl
  have z1 := cellv hz 1 rfl
  have z2 := cellv hz 2 rfl
  have z3 := cellv hz 3 rfl
  have zf0 := free_heap hz 0
  have zf1 := free_heap hz 1
  have zf2 := free_heap hz 2
  have zf3 := free_heap hz 3
  have zl := lt_heap hz
  have x0 := cellv hx 0 rfl
  have x1 := cellv hx 1 rfl
  have xf0 := free_heap hx 0
  have xf1 := free_heap hx 1
  have xl := lt_heap hx
  have HZ := Lib.hid hz
  have HX := Lib.hid hx
  clear hz hx
  clear hbx
  have HN := Lib.hid hN
  clear hN
  go_region
  all_goals go_wp2_with fail
  all_goals refine HN.out _ _ (id ⟨rfl, rfl, rfl, rfl, trivial⟩) ?_ ?_ ?_
  · exact heap_drew (far2 hne (at4F HZ.out))
  · exact heap_drew (at2 (far4F (Ne.symm hne) HX.out))
  · exact Keeps.drew (keeps2F (keeps4F (Keeps.refl _ _) (Or.inl (Or.inl rfl))) (Or.inl (Or.inr rfl)))
noncomputable def c_ck2_r4 : Code := sub [1, 1, 0] (Tryd.f37.body.getD .skip)
set_option maxRecDepth 1000000 in
set_option maxHeartbeats 16000000 in
theorem ck2_r4_wp {Q : Exit → Act → World → Prop} {PV : Int → ByteArray → Option Addr → Nat → Nat → Option Addr → Nat → Nat → World → Prop} {gz gx : Nat} {wo w : World} {kd : Int} {nm : ByteArray} {A B : Option Addr} {n1 c1 n2 c2 : Nat} (ha : w.heap[wo.heap.size]? = some (.cells #[.int .i64 kd, .string nm, .slice A n1 c1, .slice B n2 c2] 29 (0, 0))) (hne : gz ≠ gx) (hc : Calls Tryd.prog 66 #[.agg #[.int .i64 kd, .string nm, .slice A n1 c1, .slice B n2 c2]] w fun e w' => ∃ ke ne Ae n3 c3 Be n4 c4, e = .returned (.agg #[.int .i64 ke, .string ne, .slice Ae n3 c3, .slice Be n4 c4]) ∧ w'.heap[gz]? = some (.cells #[.int .i64 0, .string ⟨#[]⟩, .slice none 0 0, .slice none 0 0] 29 (0, 0)) ∧ w'.heap[gx]? = some (.cells #[.int .i64 0, .int .i64 0] 31 (0, 0)) ∧ PV ke ne Ae n3 c3 Be n4 c4 w') (hN : ∀ ke ne Ae n3 c3 Be n4 c4 w1 a' w', Frm 15 [(2, .pointer (some ⟨gz, 0, none⟩)), (3, .pointer (some ⟨gx, 0, none⟩))] a' → PV ke ne Ae n3 c3 Be n4 c4 w1 → w'.heap[gz]? = some (.cells #[.int .i64 ke, .string ne, .slice Ae n3 c3, .slice Be n4 c4] 29 (0, 0)) → w'.heap[gx]? = some (.cells #[.int .i64 0, .int .i64 0] 31 (0, 0)) → Keeps (fun k => k = gz ∨ k = gx) w1 w' → Q .normal a' w') : ∀ ac, Frm 15 [(1, .pointer (some ⟨wo.heap.size, 0, none⟩)), (2, .pointer (some ⟨gz, 0, none⟩)), (3, .pointer (some ⟨gx, 0, none⟩))] ac → Code.wp Tryd.prog c_ck2_r4 Q ac w := by
  refine frm_open ?_
  refine frame_ck2 ?_
  intros
  rename_i hq
  obtain ⟨-, -, e0q, e1q, e2q, -⟩ := hq
  obtain rfl := sI e0q
  obtain rfl := sI e1q
  obtain rfl := sI e2q
  conv => arg 2; whnf
  have a0 := cellv ha 0 rfl
  have a1 := cellv ha 1 rfl
  have a2 := cellv ha 2 rfl
  have a3 := cellv ha 3 rfl
  have al := lt_heap ha
  clear ha
  have zc := fun (W : World) (h : W.heap[gz]? = some (.cells #[.int .i64 0, .string ⟨#[]⟩, .slice none 0 0, .slice none 0 0] 29 (0, 0))) => And.intro (cellv h 0 rfl) (And.intro (cellv h 1 rfl) (And.intro (cellv h 2 rfl) (And.intro (cellv h 3 rfl) (And.intro (free_heap h 0) (And.intro (free_heap h 1) (And.intro (free_heap h 2) (free_heap h 3)))))))
  have xc := fun (W : World) (h : W.heap[gx]? = some (.cells #[.int .i64 0, .int .i64 0] 31 (0, 0))) => And.intro (cellv h 0 rfl) (And.intro (cellv h 1 rfl) (And.intro (free_heap h 0) (free_heap h 1)))
  have ZC := Lib.hid zc
  have XC := Lib.hid xc
  clear zc xc
  have HN := Lib.hid hN
  have HC := Lib.hid hc
  clear hN hc
  go_wp2_with fail
  (with_reducible refine HC.out.mono ?_)
  rintro e w1 ⟨ke, ne, Ae, n3, c3, Be, n4, c4, rfl, hz, hx, hp⟩
  obtain ⟨y0, y1, y2, y3, yf0, yf1, yf2, yf3⟩ := ZC.out w1 hz
  obtain ⟨u0, u1, uf0, uf1⟩ := XC.out w1 hx
  have yl := lt_heap hz
  have ul := lt_heap hx
  have HP := Lib.hid hp
  have HZ := Lib.hid hz
  have HX := Lib.hid hx
  clear hp hz hx
  go_wp2_with fail
  refine HN.out _ _ _ _ _ _ _ _ _ _ _ (id ⟨rfl, rfl, rfl, rfl, trivial⟩) HP.out ?_ ?_ ?_
  · exact far2 hne (at4F HZ.out)
  · exact at2 (far4F (Ne.symm hne) HX.out)
  · exact keeps2F (keeps4F (Keeps.refl _ _) (Or.inl (Or.inl rfl))) (Or.inl (Or.inr rfl))
set_option maxRecDepth 1000000 in
theorem ck2_ret_wp {R : Ending → World → Prop} {w' : World} {gz gx : Nat} {v0 v1 v2 v3 : Value} {c j : Int} (hg : w'.heap[gz]? = some (.cells #[v0, v1, v2, v3] 29 (0, 0))) (hx : w'.heap[gx]? = some (.cells #[.int .i64 c, .int .i64 j] 31 (0, 0))) (ho : v0.oneCell' = true ∧ v1.oneCell' = true ∧ v2.oneCell' = true ∧ v3.oneCell' = true) (hR : R (.returned (.tuple #[.agg #[v0, v1, v2, v3], .agg #[.int .i64 c, .int .i64 j]])) w') : ∀ ac, Frm 15 [(2, .pointer (some ⟨gz, 0, none⟩)), (3, .pointer (some ⟨gx, 0, none⟩))] ac → bodyPost Tryd.prog Tryd.f37 R .ret ac w' := by
  refine frm_open ?_
  refine frame_ck2 ?_
  intros
  rename_i hq
  obtain ⟨-, -, e0q, e1q, -⟩ := hq
  obtain rfl := sI e0q
  obtain rfl := sI e1q
  have z0 := cellv hg 0 rfl
  have z1 := cellv hg 1 rfl
  have z2 := cellv hg 2 rfl
  have z3 := cellv hg 3 rfl
  have zl := lt_heap hg
  have x0 := cellv hx 0 rfl
  have x1 := cellv hx 1 rfl
  have xl := lt_heap hx
  obtain ⟨o0, o1, o2, o3⟩ := ho
  refine bodyPost_ret (v := .tuple #[.agg #[v0, v1, v2, v3], .agg #[.int .i64 c, .int .i64 j]]) (by simp [results, Tryd.results37, go_sem, z0, z1, z2, z3, zl, x0, x1, xl, o0, o1, o2, o3]) rfl ?_
  exact hR
end

section
open Go Go.RowKit
set_option linter.unusedSimpArgs false
set_option linter.unusedVariables false
theorem fmFault_ok {t : Fm} (h : (fmFault t).1 = 0) : ∃ v : Fv, t = v.fm ∧ v.ok ∧ v.nodes ≤ 200 ∧ v.depth ≤ 40 ∧ fmFault t = (0, 0) := by
  obtain ⟨v, e, h1, h2, h3, h4⟩ := Fv.of_val t 1 0 h
  exact ⟨v, e, h1, by omega, by omega, Prod.ext h ((fmVal_le false t 1 0 (by omega)).2 h).2⟩
/-- What Canonical returns. -/
noncomputable def canT (t : Fm) : Fm := if (fmFault t).1 = 0 then canF [] t else fmZ
set_option maxRecDepth 100000 in
set_option maxHeartbeats 4000000 in
/-- folform.Canonical. -/
theorem canonical_any (t : Fm) (cs : List Value) (w : World) (S : Nat → Prop) (ht : fmRep.R w S t cs) (hS : ∀ b, S b → b < w.heap.size) (htab : ∀ W, Below w.heap.size w W → Lib.TabIs Tryd.prog W "internal/strconv.uint64pow10" .u64 Lib.pow10Tab) :
    Calls Tryd.prog 37 #[.agg cs.toArray] w fun e w' => ∃ es : List Value, e = .returned (.tuple #[.agg es.toArray, .agg #[.int .i64 ((fmFault t).1 : Nat), .int .i64 ((fmFault t).2 : Nat)]]) ∧ fmRep.R w' (fun b => w.heap.size ≤ b ∧ b < w'.heap.size) (canT t) es ∧ Below w.heap.size w w' := by
  obtain ⟨A, n1, c1, B, n2, c2, rfl, _, _, _, _⟩ := Fm.shape ht
  obtain ⟨kd, hkd⟩ : ∃ k, t.lab.kind = k := ⟨_, rfl⟩
  obtain ⟨nm, hnm⟩ : ∃ k, t.lab.nm = k := ⟨_, rfl⟩
  rw [hkd, hnm] at ht ⊢
  go_enter Tryd.func37, Tryd.ntmps37
  refine wp_seq ?_
  refine ck2_r0_wp (fun a0 h0 => ?_) _ (id ⟨rfl, rfl, rfl, trivial⟩)
  refine gen_last (fun wx => wx.heap[w.heap.size]? = some (.cells #[.int .i64 kd, .string nm, .slice A n1 c1, .slice B n2 c2] 29 (0, 0)) ∧ wx.heap[w.heap.size + 1]? = some (.cells #[.int .i64 0, .string ⟨#[]⟩, .slice none 0 0, .slice none 0 0] 29 (0, 0)) ∧ wx.heap[w.heap.size + 2]? = some (.cells #[.int .i64 0, .int .i64 0] 31 (0, 0)) ∧ wx.heap.size = w.heap.size + 3 ∧ Below w.heap.size w wx) ⟨heap_old (by simp; omega) (heap_old (by simp) (heap_at (by simp))), heap_old (by simp) (heap_at (by simp)), heap_at (by simp), by simp, (((Below.refl _ _).alloc (Nat.le_refl _) _).alloc (by simp) _).alloc (by simp; omega) _⟩ ?_
  rintro wx ⟨ha, hz, hx, hsz, hb⟩
  refine wp_seq ?_
  have hv := validateFm_any t [.int .i64 kd, .string nm, .slice A n1 c1, .slice B n2 c2] wx S (fmRep.keep ht (fun b h => hb.block b (hS b h)) (fun _ h => h)) (fun b h => by have := hS b h; omega)
  refine wp_seq ?_
  refine ck2_r1_wp (y := nm) ha hv (fun w1 a1 h1 hb1 => ?_) a0 h0
  obtain ⟨gb, hgb⟩ : ∃ b, w1.heap.size = b := ⟨_, rfl⟩
  rw [hgb] at h1
  have hb1s := hb1.size
  refine gen_last (fun wy => wy.heap[w.heap.size]? = some (.cells #[.int .i64 kd, .string nm, .slice A n1 c1, .slice B n2 c2] 29 (0, 0)) ∧ wy.heap[w.heap.size + 1]? = some (.cells #[.int .i64 0, .string ⟨#[]⟩, .slice none 0 0, .slice none 0 0] 29 (0, 0)) ∧ wy.heap[w.heap.size + 2]? = some (.cells #[.int .i64 0, .int .i64 0] 31 (0, 0)) ∧ wy.heap[gb]? = some (.cells #[.int .i64 ((fmFault t).1 : Nat), .int .i64 ((fmFault t).2 : Nat)] 31 (0, 0)) ∧ Below w.heap.size w wy ∧ w.heap.size + 3 ≤ wy.heap.size) ⟨heap_old (by have := lt_heap ha; omega) ((hb1.block _ (lt_heap ha)).trans ha), heap_old (by have := lt_heap hz; omega) ((hb1.block _ (lt_heap hz)).trans hz), heap_old (by have := lt_heap hx; omega) ((hb1.block _ (lt_heap hx)).trans hx), by rw [← hgb]; exact heap_alloc_new _ _, (hb.trans (hb1.mono (by omega))).alloc (by omega) _, by simp; omega⟩ ?_
  rintro w2 ⟨ha2, hz2, hx2, hg2, hb2, hs2⟩
  refine wp_seq ?_
  refine ck2_r2_wp (y := nm) hg2 (fun a2 h2 => ?_) a1 h1
  by_cases hf : (fmFault t).1 = 0
  case neg =>
    refine wp_cond_true ((h2.eval (k := 9) (v := .bool (decide ((fmFault t).1 ≠ 0))) (by simp)).trans (by rw [decide_eq_true hf])) ?_
    refine wp_seq ?_
    refine Code.wp_mono (Q := Exit.then (fun a' w' => Frm 15 [(2, .pointer (some ⟨w.heap.size + 1, 0, none⟩)), (3, .pointer (some ⟨w.heap.size + 2, 0, none⟩))] a' ∧ w'.heap[w.heap.size + 1]? = some (.cells #[.int .i64 0, .string ⟨#[]⟩, .slice none 0 0, .slice none 0 0] 29 (0, 0)) ∧ w'.heap[w.heap.size + 2]? = some (.cells #[.int .i64 ((fmFault t).1 : Nat), .int .i64 ((fmFault t).2 : Nat)] 31 (0, 0)) ∧ Keeps (fun k => k = w.heap.size + 1 ∨ k = w.heap.size + 2) w2 w') (fun _ _ _ => False)) ?_ (ck2_r3_wp (by omega) hz2 hx2 (by omega) (by omega) hg2 (fun a' w' h' g1 g2 g3 => ⟨h', g1, g2, g3⟩) a2 ⟨h2.1, h2.2.1, h2.2.2.2.1, h2.2.2.2.2.1, h2.2.2.2.2.2.1, trivial⟩)
    intro ex a3 w3 hx3'
    cases ex with
    | normal =>
      obtain ⟨h3, hz3, hx3, hk3⟩ := hx3'
      refine wp_ret ?_
      repeat (first | refine then_ret ?_ | refine inBlock_ret ?_)
      refine ck2_ret_wp hz3 hx3 ⟨rfl, rfl, rfl, rfl⟩ ⟨_, rfl, ?_, ?_⟩ a3 h3
      · rw [show canT t = fmZ from if_neg hf]
        exact fmZ_rep
      · exact hb2.trans (Keeps.below (B := w.heap.size) hk3 (fun k e => by have e : k = w.heap.size + 1 ∨ k = w.heap.size + 2 := e; omega) (by omega))
    | _ => exact hx3'.elim
  refine wp_cond_false ((h2.eval (k := 9) (v := .bool (decide ((fmFault t).1 ≠ 0))) (by simp)).trans (by rw [decide_eq_false (fun h => h hf)])) ?_
  refine wp_skip ?_
  show Code.wp _ _ _ a2 w2
  obtain ⟨v, rfl, ov, nv, dv, ev⟩ := fmFault_ok hf
  have hc := (canonQ_any v ov nv [.int .i64 kd, .string nm, .slice A n1 c1, .slice B n2 c2] w2 S (fmRep.keep ht (fun b h => hb2.block b (hS b h)) (fun _ h => h)) (fun b h => by have := hS b h; omega) (fun W h => htab W (hb2.trans (h.mono (by omega))))).mono (R' := fun e w' => ∃ ke ne Ae n3 c3 Be n4 c4, e = .returned (.agg #[.int .i64 ke, .string ne, .slice Ae n3 c3, .slice Be n4 c4]) ∧ w'.heap[w.heap.size + 1]? = some (.cells #[.int .i64 0, .string ⟨#[]⟩, .slice none 0 0, .slice none 0 0] 29 (0, 0)) ∧ w'.heap[w.heap.size + 2]? = some (.cells #[.int .i64 0, .int .i64 0] 31 (0, 0)) ∧ (fmRep.R w' (fun b => w2.heap.size ≤ b ∧ b < w'.heap.size) (canF [] v.fm) [.int .i64 ke, .string ne, .slice Ae n3 c3, .slice Be n4 c4] ∧ Below w2.heap.size w2 w')) (by
    rintro e w' ⟨es, rfl, hr, hb9⟩
    obtain ⟨A5, n5, c5, B5, n6, c6, rfl, _, _, _, _⟩ := Fm.shape hr
    exact ⟨_, _, _, _, _, _, _, _, rfl, (hb9.block _ (lt_heap hz2)).trans hz2, (hb9.block _ (lt_heap hx2)).trans hx2, hr, hb9⟩)
  refine wp_seq ?_
  refine ck2_r4_wp ha2 (by omega) hc (fun ke ne Ae n3 c3 Be n4 c4 w5 a6 w6 h6 hp6 hz6 hx6 hk6 => ?_) a2 ⟨h2.1, h2.2.1, h2.2.2.1, h2.2.2.2.1, h2.2.2.2.2.1, trivial⟩
  obtain ⟨hr5, hb5⟩ := hp6
  have hk6s := hk6.size
  have hb5s := hb5.size
  refine wp_ret ?_
  refine ck2_ret_wp hz6 hx6 ⟨rfl, rfl, rfl, rfl⟩ ⟨[.int .i64 ke, .string ne, .slice Ae n3 c3, .slice Be n4 c4], by rw [ev]; rfl, ?_, ?_⟩ a6 h6
  · rw [show canT v.fm = canF [] v.fm from if_pos hf]
    exact fmRep.keep hr5 (fun b hb => hk6.block b hb.2 (by omega)) (fun b hb => ⟨by omega, by omega⟩)
  · have h1 : Below w.heap.size w w5 := hb2.trans (hb5.mono (by omega))
    exact h1.trans (Keeps.below (B := w.heap.size) hk6 (fun k e => by have e : k = w.heap.size + 1 ∨ k = w.heap.size + 2 := e; omega) (by have := h1.size; omega))
end

section
open Go Go.RowKit
set_option linter.unusedSimpArgs false
set_option linter.unusedVariables false
theorem okName_namV {v : Fv} (hv : v.ok) (hn : v.nodes ≤ 200) (env : Env) : ∀ j, j < quN v.fm → okName (namV ((fmConsts v.fm).map (lookE env)) j) = true := by
  intro j hj
  have hwq := Fv.words_le v hv
  have h1 := fmConsts_len v.fm
  have h2 := frees_le v.fm []
  have hfv := fromV_le ((fmConsts v.fm).map (lookE env)) (quN v.fm) (j + 1) (by omega) (by rw [List.length_map]; omega) (by omega)
  have e : fromV ((fmConsts v.fm).map (lookE env)) (j + 1) = numV ((fmConsts v.fm).map (lookE env)) j + 1 := rfl
  exact okName_vB (by omega)
end

section
open Go Go.RowKit
set_option linter.unusedSimpArgs false
set_option linter.unusedVariables false
theorem canon_law {m : Md} {t : Fm} (h : (holdsC m t).1 = 0) : fmFault t = (0, 0) ∧ holdsC m (canT t) = (0, 0) ∧ (holdsB m t == holdsB m (canT t)) = true := by
  obtain ⟨hm, hf, hp⟩ := holdsC_ok h
  obtain ⟨v, rfl, ov, nv, dv, ev⟩ := fault_ok9 hf
  have hc : canT v.fm = canF [] v.fm := if_pos hf
  have e2 := canV_fm ov
  have h1 := canV_eval m ov
  have h2 := canV_nest v
  have h3 := canV_rels m v
  have ov2 : (canV v).ok := canV_ok ov (fun j hj => by have := okName_namV ov nv [] j hj; rwa [map_look_nil] at this)
  have nv2 : (canV v).nodes = v.nodes := Fv.rn_nodes _ v _ _
  have dv2 : (canV v).depth = v.depth := Fv.rn_depth _ v _ _
  obtain ⟨hp0, hp1, hp2, hp3⟩ := pairT_zero hp
  have hz : holdsC m (canT v.fm) = (0, 0) := by
    rw [hc, e2]
    refine holdsC_zero hm ov2 (by omega) (by omega) ?_ ?_ ?_
    · rw [nestT_fm _ ov2, h2, ← nestT_fm _ ov]; exact hp1
    · intro c hcm
      have h9 : c ∈ fmConsts (canV v).fm := mem_constsB.2 hcm
      rw [← e2, consts_canF] at h9
      unfold allC at hp2
      exact List.all_eq_true.1 hp2 c h9
    · rw [hasT_fm _ _ ov2, h3, ← hasT_fm _ _ ov]; exact hp3
  refine ⟨ev, hz, ?_⟩
  rw [holdsB_good h ov]
  have hz1 : (holdsC m (canV v).fm).1 = 0 := by
    have h9 := hz
    rw [hc, e2] at h9
    rw [h9]
  rw [hc, e2, holdsB_good hz1 ov2, h1]
  simp
end

section
open Go Go.RowKit
set_option linter.unusedSimpArgs false
set_option linter.unusedVariables false
section
variable {L : Type} {ρ ρ' : Rep L}
mutual
theorem Tree.In_map (hs : ρ.size = ρ'.size) (h : ∀ {w : World} {S : Nat → Prop} {a : L} {cs : List Value}, ρ.R w S a cs → ρ'.R w S a cs) {w : World} {S : Nat → Prop} : ∀ (t : Tree L) (cs : List Value), Tree.In ρ w S t cs → Tree.In ρ' w S t cs
  | .mk a l, cs, hh => by
    unfold Tree.In at hh ⊢
    obtain ⟨us, A, n, c, h0, h1, h2, h3, h4⟩ := hh
    refine ⟨us, A, n, c, h0, h h1, h2, h3, fun hn => ?_⟩
    obtain ⟨b, o, e, hb, hi⟩ := h4 hn
    exact ⟨b, o, e, hb, Tree.Ins_map hs h l b o hi⟩
theorem Tree.Ins_map (hs : ρ.size = ρ'.size) (h : ∀ {w : World} {S : Nat → Prop} {a : L} {cs : List Value}, ρ.R w S a cs → ρ'.R w S a cs) {w : World} {S : Nat → Prop} : ∀ (l : List (Tree L)) (b o : Nat), Tree.Ins ρ w S l b o → Tree.Ins ρ' w S l b o
  | [], _, _, _ => by unfold Tree.Ins; trivial
  | t :: l, b, o, hh => by
    unfold Tree.Ins at hh ⊢
    obtain ⟨cs, h0, h1, h2⟩ := hh
    exact ⟨cs, h0, Tree.In_map hs h t cs h1, by rw [← hs]; exact Tree.Ins_map hs h l b _ h2⟩
end
end
def fmLC : Rep FmL where
  size := 3
  R := fun w S a cs => fmL.R w S a cs ∧ ∃ (A : Option Addr) (n c : Nat), cs[2]? = some (Value.slice A n c) ∧ n ≤ c
  pos := by omega
  len := fun h => fmL.len h.1
  one := fun h => fmL.one h.1
  keep := fun h hk hS => ⟨fmL.keep h.1 hk hS, h.2⟩
abbrev fmRepC : Rep Fm := treeRep fmLC
theorem Fm.ofC {w : World} {S : Nat → Prop} {t : Fm} {cs : List Value} (h : fmRepC.R w S t cs) : fmRep.R w S t cs := Tree.In_map (ρ := fmLC) (ρ' := fmL) rfl (fun h => h.1) t cs h
end

section
open Go Go.RowKit
set_option linter.unusedSimpArgs false
set_option linter.unusedVariables false
set_option maxRecDepth 100000 in
set_option maxHeartbeats 4000000 in
theorem canonTruth_any (m : Md) (t : Fm) (ms cs : List Value) (w : World) (S : Nat → Prop) (hm : m.In w S ms) (ht : fmRep.R w S t cs) (hS : ∀ b, S b → b < w.heap.size) (g0 : w.cell? ⟨0, 0, none⟩ = some (.int .i64 0)) (g1 : w.cell? ⟨0, 1, none⟩ = some (.int .i64 0)) (htab : ∀ W2, Below w.heap.size w W2 → Lib.TabIs Tryd.prog W2 "internal/strconv.uint64pow10" .u64 Lib.pow10Tab) : Calls Tryd.prog 11 #[.agg ms.toArray, .agg cs.toArray] w fun e w' => e = .returned (.bool true) ∧ Below w.heap.size w w' := by
  obtain ⟨A, n1, c1, B, n2, c2, rfl, _, _, _, _⟩ := Fm.shape ht
  obtain ⟨Am, cm, Bm, dm, rfl, _, _, _, _⟩ := Md.shape hm
  obtain ⟨kd, hkd⟩ : ∃ k, t.lab.kind = k := ⟨_, rfl⟩
  obtain ⟨nm, hnm⟩ : ∃ k, t.lab.nm = k := ⟨_, rfl⟩
  rw [hkd, hnm] at ht ⊢
  go_enter Tryd.func11, Tryd.ntmps11
  have lg := World.block_lt_of_cell? w _ g0
  have hret : ∀ a' w', Frm 61 [(4, .bool true)] a' → Below w.heap.size w w' → bodyPost Tryd.prog Tryd.f11 (fun e w' => e = .returned (.bool true) ∧ Below w.heap.size w w') .ret a' w' := fun a' w' h hb => lt_ret_wp ⟨rfl, hb⟩ a' h
  have gg := fun (W : World) (hb : Below w.heap.size w W) => And.intro ((hb.cell (p := ⟨0, 0, none⟩) lg).trans g0) ((hb.cell (p := ⟨0, 1, none⟩) lg).trans g1)
  have hmk := fun (W : World) (hb : Below w.heap.size w W) => Md.In.keep (w' := W) (S' := Lo W) hm (fun b hbS => hb.block b (hS b hbS)) (fun b hbS => Nat.lt_of_lt_of_le (hS b hbS) hb.size)
  have hold := fun (W : World) (hb : Below w.heap.size w W) => fmRep.keep (w' := W) (S' := Lo W) ht (fun b hbS => hb.block b (hS b hbS)) (fun b hbS => Nat.lt_of_lt_of_le (hS b hbS) hb.size)
  have htb := fun (W : World) (hb : Below w.heap.size w W) => fun (W2 : World) (h2 : Below W.heap.size W W2) => htab W2 (hb.trans (h2.mono hb.size))
  refine wp_seq ?_
  refine lt_r0_wp (fun a0 h0 => ?_) _ (id ⟨rfl, rfl, rfl, rfl, trivial⟩)
  refine gen_last (fun wx => wx.heap[w.heap.size]? = some (.cells #[.int .i64 m.sz, .slice Am m.cs.length cm, .slice Bm m.rs.length dm] 25 (0, 0)) ∧ wx.heap[w.heap.size + 1]? = some (.cells #[.int .i64 kd, .string nm, .slice A n1 c1, .slice B n2 c2] 29 (0, 0)) ∧ Below w.heap.size w wx) ⟨heap_old (by simp) (heap_at rfl), heap_at (by simp), by go_grown⟩ ?_
  rintro wy ⟨hmy, hay, hby⟩
  refine wp_seq ?_
  refine wp_seq ?_
  refine lt_r1_wp (fun W ms9 cs9 q1 q2 _ => holds_good exAll_zero exAll_ok exAll_eval ms9 cs9 W _ q1 q2 (fun _ h => h)) (fun ge1 a1 w1 h1 he1 hb1' => ?_) a0 h0
  have hb1 := hby.trans (hb1'.mono hby.size)
  refine wp_seq ?_
  refine lt_r2_wp (gg w1 hb1).1 (gg w1 hb1).2 he1 (fun a2 h2 => ?_) a1 h1
  refine wp_cond_false ((h2.eval (k := 27) (v := .bool false) (by simp)).trans rfl) ?_
  refine wp_skip ?_
  show Code.wp _ _ _ a2 w1
  have hm1 := (hb1'.block _ (lt_heap hmy)).trans hmy
  have ha1 := (hb1'.block _ (lt_heap hay)).trans hay
  refine wp_seq ?_
  refine lt_r4_wp hm1 ha1 (holdsB_any m t _ _ w1 _ (hold w1 hb1) (hmk w1 hb1) (fun _ h => h)) (fun gx a3 w3 h3 he3 hb3' => ?_) a2 ⟨h2.1, h2.2.1, h2.2.2.1, h2.2.2.2.1, trivial⟩
  have hb3 := hb1.trans (hb3'.mono hb1.size)
  have hm3 := (hb3'.block _ (lt_heap hm1)).trans hm1
  have ha3 := (hb3'.block _ (lt_heap ha1)).trans ha1
  refine wp_seq ?_
  refine wp_seq ?_
  by_cases hc1 : (holdsC m t).1 = 0
  case neg =>
    refine lt_r5c_wp (gg w3 hb3).1 (gg w3 hb3).2 hc1 he3 (fun a4 h4 => ?_) a3 h3
    refine wp_cond_true ((h4.eval (k := 36) (v := .bool true) (by simp)).trans rfl) ?_
    refine wp_seq ?_
    refine lt_r6_wp (fun a5 h5 => ?_) a4 ⟨h4.1, h4.2.1, h4.2.2.1, h4.2.2.2.1, trivial⟩
    refine wp_ret ?_
    repeat (first | refine thenR ?_ | refine inBlockR ?_)
    exact hret a5 _ h5 hb3
  obtain ⟨ev, hz, hbb⟩ := canon_law hc1
  rw [holdsC_snd hc1] at he3
  refine lt_r5z_wp (gg w3 hb3).1 (gg w3 hb3).2 he3 (fun a4 h4 => ?_) a3 h3
  refine wp_cond_false ((h4.eval (k := 36) (v := .bool false) (by simp)).trans rfl) ?_
  refine wp_skip ?_
  show Code.wp _ _ _ a4 w3
  have hca := canonical_any t [.int .i64 kd, .string nm, .slice A n1 c1, .slice B n2 c2] w3 _ (hold w3 hb3) (fun _ h => h) (htb w3 hb3)
  rw [ev] at hca
  refine wp_seq ?_
  refine lt_r7_wp ha3 hca (fun A0 n0 c0 B0 m0 d0 gh gy a6 w6 h6 hgh hgy hne6 hr6 hb6' => ?_) a4 ⟨h4.1, h4.2.1, h4.2.2.1, h4.2.2.2.1, h4.2.2.2.2.1, trivial⟩
  have hb6 := hb3.trans (hb6'.mono hb3.size)
  have hm6 := (hb6'.block _ (lt_heap hm3)).trans hm3
  refine wp_seq ?_
  have hho := holdsB_any m (canT t) _ _ w6 _ hr6 (hmk w6 hb6) (fun _ h => h)
  rw [hz] at hho
  refine lt_r8_wp hm6 hgh hho (fun gz a7 w7 h7 he7 hb7' => ?_) a6 h6
  have hb7 := hb6.trans (hb7'.mono hb6.size)
  have hgy7 := (hb7'.block _ (lt_heap hgy)).trans hgy
  refine wp_seq ?_
  refine lt_r9_wp (gg w7 hb7).1 (gg w7 hb7).2 hbb hgy7 he7 (fun a8 h8 => ?_) a7 ⟨h7.1, h7.2.1, h7.2.2.2.2.1, h7.2.2.2.2.2.2.1, h7.2.2.2.2.2.2.2.1, h7.2.2.2.2.2.2.2.2.1, trivial⟩
  refine wp_ret ?_
  exact hret a8 _ h8 hb7
theorem canonTruth_door (m : Md) (ms : List Value) (t : Fm) (cs : List Value) (w : World) (S : Nat → Prop) (hm : m.In w S ms) (ht : fmRepC.R w S t cs) (hS : ∀ b, S b → b < w.heap.size) (g0 : w.cell? ⟨0, 0, none⟩ = some (.int .i64 0)) (g1 : w.cell? ⟨0, 1, none⟩ = some (.int .i64 0)) (htab : ∀ W2, Below w.heap.size w W2 → Lib.TabIs Tryd.prog W2 "internal/strconv.uint64pow10" .u64 Lib.pow10Tab) : Calls Tryd.prog 11 #[.agg ms.toArray, .agg cs.toArray] w fun e w' => e = .returned (.bool true) ∧ Below w.heap.size w w' := canonTruth_any m t ms cs w S hm (Fm.ofC ht) hS g0 g1 htab
end

section
open Go Go.RowKit Go.ChangeShapes Go.WideShapes Go.Deep
set_option linter.unusedSimpArgs false
set_option linter.unusedVariables false
theorem cells9 : Tryd.prog.cellsOf 9 = 1 := by kernel_rfl
theorem spot_none {w : World} {a : Addr} {v : Value} (h : w.cell? a = some v) : a = ⟨a.block, a.off, none⟩ := by
  cases a with
  | mk b o s =>
    cases s with
    | none => rfl
    | some k => unfold World.cell? at h; simp at h; split at h <;> simp at h
theorem add_none (b o n : Nat) : Addr.add ⟨b, o, none⟩ n = ⟨b, o + n, none⟩ := by
  unfold Addr.add; split <;> simp [*]
open Go Go.RowKit Go.ChangeShapes Go.WideShapes Go.Deep
section
variable {H : Type} {enc : TypeId × Value → H} {w : World} {spare : Nat → Bool} {held : Bool}
/-- A slice whose elements are read as things of a kind: the list of these. -/
theorem sl_of_trod {α : Type} {ρ : Rep α} {E T : TypeId} (hc : Tryd.prog.cellsOf E = ρ.size) (ht : Tryd.prog.underlying T = some (.slice E)) {fuel : Nat} {v : Value} {x : DataW H × List MemPlace}
    (hE : ∀ n, n < fuel → ∀ (cs : List Value) (y : DataW H × List MemPlace), DataW.trod enc Tryd.prog w 0 spare held n E cs = some y → ∃ a, ρ.R w (Lo w) a cs)
    (h : DataW.trod enc Tryd.prog w 0 spare held fuel T [v] = some x) : ∃ l, ρ.Sl w (Lo w) v l := by
  rcases DataW.trod_slice ht h with ⟨e1, _⟩ | ⟨a, len, cap, elems, rest, n', hn', e1, _, _, hlc, hcm, _, hel, _, _⟩
  · simp only [List.cons.injEq, and_true] at e1
    subst e1
    exact ⟨[], Rep.Sl.nil⟩
  simp only [List.cons.injEq, and_true] at e1
  subst e1
  rw [hc] at hel
  have hall : ∀ i, i < len → ∃ (t : α) (cs : List Value), ρ.R w (Lo w) t cs ∧ ∀ j u, cs[j]? = some u → w.cell? (a.add (i * ρ.size + j)) = some u := by
    intro i hi
    have hb := hel i hi
    have hlt : i < elems.length := by omega
    rw [List.getElem?_eq_getElem hlt] at hb
    cases hcs : w.cells? 0 (a.add (i * ρ.size)) ρ.size with
    | none => rw [hcs] at hb; simp at hb
    | some cs' =>
      rw [hcs] at hb
      simp only [Option.bind_some] at hb
      obtain ⟨t, ht⟩ := hE n' (by omega) cs' _ hb
      obtain ⟨_, _, hat⟩ := World.cells?_some hcs
      refine ⟨t, cs', ht, fun j u hj => ?_⟩
      have hjl : j < cs'.length := (List.getElem?_eq_some_iff.1 hj).1
      have p := hat j (by rw [ρ.len ht] at hjl; exact hjl)
      rw [add_add] at p
      rw [p]; exact hj
  have key : ∀ m, m ≤ len → ∃ (l : List α) (xs : List Value), l.length = m ∧ ρ.All w (Lo w) l xs ∧ ∀ j u, xs[j]? = some u → w.cell? (a.add j) = some u := by
    intro m
    induction m with
    | zero => intro _; exact ⟨[], [], rfl, rfl, by simp⟩
    | succ m ih =>
      intro hm
      obtain ⟨l, xs, h1, h2, h3⟩ := ih (by omega)
      obtain ⟨t, cs, h4, h5⟩ := hall m (by omega)
      refine ⟨l ++ [t], xs ++ cs, by simp [h1], h2.append (Rep.All.single h4), fun j u hj => ?_⟩
      have hx : xs.length = m * ρ.size := by rw [h2.len, h1]
      by_cases hlt : j < xs.length
      · rw [List.getElem?_append_left hlt] at hj; exact h3 j u hj
      · rw [List.getElem?_append_right (by omega)] at hj
        have := h5 _ u hj
        rw [show m * ρ.size + (j - xs.length) = j by omega] at this
        exact this
  obtain ⟨l, xs, h1, h2, h3⟩ := key len (Nat.le_refl _)
  refine ⟨l, _, len, cap, rfl, h1, by omega, fun hp => ?_⟩
  have hxl : 0 < xs.length := by rw [h2.len, h1]; exact Nat.mul_pos hp ρ.pos
  have hp0 : w.cell? a = some xs[0] := by have := h3 0 _ (List.getElem?_eq_getElem hxl); simpa [Addr.add] using this
  have ha := spot_none hp0
  refine ⟨a.block, a.off, xs, by rw [← ha], World.block_lt_of_cell? w _ hp0, h2, fun j u hj => ?_⟩
  have := h3 j u hj
  rw [ha, add_none] at this
  exact this
end
open Go.ChangeShapes Go.WideShapes Go.ChangeAt Go.WideMaps Go.WideElems Go.RowKit
theorem ownKnobNone : ownKnob Tryd.prog.godebug = none := by kernel_rfl
theorem laidOutAll : laidOutB Tryd.prog = true := by kernel_rfl
theorem gNone : Tryd.prog.globalNamed "glosswright/glosswrightlaw1.none" = some 0 := by kernel_rfl
theorem tNone : (Tryd.prog.globals[0]?).map (·.type) = some 31 := by kernel_rfl
theorem cellsFault : Tryd.prog.cellsOf 31 = 2 := by kernel_rfl
theorem cellsInt : Tryd.prog.cellsOf 3 = 1 := by kernel_rfl
end

section
open Go Go.RowKit Go.ChangeShapes Go.WideShapes Go.Deep
set_option linter.unusedSimpArgs false
set_option linter.unusedVariables false
theorem cellsMd : Tryd.prog.cellsOf 25 = 3 := by kernel_rfl
theorem cellsCon : Tryd.prog.cellsOf 56 = 2 := by kernel_rfl
theorem cellsRel : Tryd.prog.cellsOf 65 = 3 := by kernel_rfl
theorem cellsCons : Tryd.prog.cellsOf 22 = 1 := by kernel_rfl
theorem cellsRels : Tryd.prog.cellsOf 23 = 1 := by kernel_rfl
theorem cellsRows : Tryd.prog.cellsOf 39 = 1 := by kernel_rfl
theorem cellsRow : Tryd.prog.cellsOf 44 = 1 := by kernel_rfl
section
variable {H : Type} {enc : TypeId × Value → H} {w : World} {spare : Nat → Bool} {held : Bool}
set_option maxRecDepth 100000 in
theorem int_of_trod {fuel : Nat} {cs : List Value} {x : DataW H × List MemPlace} (h : DataW.trod enc Tryd.prog w 0 spare held fuel 3 cs = some x) : ∃ a, zRep.R w (Lo w) a cs := by
  obtain ⟨k, e0, _, _⟩ := DataW.trod_int Tryd.underlying3 h
  exact ⟨k, e0⟩
theorem sl_one {α : Type} {ρ : Rep α} {E T : TypeId} (hT : Tryd.prog.cellsOf T = 1) (hc : Tryd.prog.cellsOf E = ρ.size) (ht : Tryd.prog.underlying T = some (.slice E)) {fuel : Nat} {cs : List Value} {x : DataW H × List MemPlace}
    (hE : ∀ n, n < fuel → ∀ (cs : List Value) (y : DataW H × List MemPlace), DataW.trod enc Tryd.prog w 0 spare held n E cs = some y → ∃ a, ρ.R w (Lo w) a cs)
    (h : DataW.trod enc Tryd.prog w 0 spare held fuel T cs = some x) : ∃ v l, cs = [v] ∧ ρ.Sl w (Lo w) v l := by
  have hv : ∃ v, cs = [v] := by
    rcases DataW.trod_slice ht h with ⟨e1, _⟩ | ⟨a, len, cap, elems, rest, n', hn', e1, _⟩
    · exact ⟨_, e1⟩
    · exact ⟨_, e1⟩
  obtain ⟨v, rfl⟩ := hv
  obtain ⟨l, hl⟩ := sl_of_trod hc ht hE h
  exact ⟨v, l, rfl, hl⟩
set_option maxRecDepth 100000 in
theorem ints_of_trod {fuel : Nat} {cs : List Value} {x : DataW H × List MemPlace} (h : DataW.trod enc Tryd.prog w 0 spare held fuel 44 cs = some x) : ∃ a, intsRep.R w (Lo w) a cs := by
  obtain ⟨v, l, rfl, hl⟩ := sl_one (ρ := zRep) cellsRow cellsInt Tryd.underlying44 (fun n _ cs y hy => int_of_trod hy) h
  exact ⟨l, v, rfl, hl⟩
set_option maxRecDepth 100000 in
theorem con_of_trod {fuel : Nat} {cs : List Value} {x : DataW H × List MemPlace} (h : DataW.trod enc Tryd.prog w 0 spare held fuel 56 cs = some x) : ∃ a, conRep.R w (Lo w) a cs := by
  obtain ⟨xs, n, hn, hx, hlen, hxl, hf⟩ := DataW.trod_struct Tryd.underlying56 h
  rw [cellsCon] at hlen
  match cs, hlen with
  | [v0, v1], _ =>
  match xs, hxl with
  | [y0, y1], _ =>
  have h0 : DataW.trod enc Tryd.prog w 0 spare held n 9 [v0] = some y0 := by simpa [cells9] using hf 0 _ rfl
  have h1 : DataW.trod enc Tryd.prog w 0 spare held n 3 [v1] = some y1 := by simpa [cellsInt] using hf 1 _ rfl
  obtain ⟨s, e0, _, hs⟩ := DataW.trod_string Tryd.underlying9 h0
  obtain ⟨k, e1, _, _⟩ := DataW.trod_int Tryd.underlying3 h1
  simp only [List.cons.injEq, and_true] at e0 e1
  subst e0 e1
  exact ⟨⟨s, k⟩, rfl, hs⟩
set_option maxRecDepth 100000 in
theorem rel_of_trod {fuel : Nat} {cs : List Value} {x : DataW H × List MemPlace} (h : DataW.trod enc Tryd.prog w 0 spare held fuel 65 cs = some x) : ∃ a, relRep.R w (Lo w) a cs := by
  obtain ⟨xs, n, hn, hx, hlen, hxl, hf⟩ := DataW.trod_struct Tryd.underlying65 h
  rw [cellsRel] at hlen
  match cs, hlen with
  | [v0, v1, v2], _ =>
  match xs, hxl with
  | [y0, y1, y2], _ =>
  have h0 : DataW.trod enc Tryd.prog w 0 spare held n 9 [v0] = some y0 := by simpa [cells9] using hf 0 _ rfl
  have h1 : DataW.trod enc Tryd.prog w 0 spare held n 3 [v1] = some y1 := by simpa [cellsInt] using hf 1 _ rfl
  have h2 : DataW.trod enc Tryd.prog w 0 spare held n 39 [v2] = some y2 := by simpa [cellsRows] using hf 2 _ rfl
  obtain ⟨s, e0, _, hs⟩ := DataW.trod_string Tryd.underlying9 h0
  obtain ⟨k, e1, _, _⟩ := DataW.trod_int Tryd.underlying3 h1
  obtain ⟨v, l, e2, hl⟩ := sl_one (ρ := intsRep) cellsRows cellsRow Tryd.underlying39 (fun n _ cs y hy => ints_of_trod hy) h2
  simp only [List.cons.injEq, and_true] at e0 e1 e2
  subst e0 e1 e2
  exact ⟨⟨s, k, l⟩, v2, rfl, hs, hl⟩
set_option maxRecDepth 100000 in
theorem md_of_trod (fuel : Nat) (cs : List Value) (x : DataW H × List MemPlace) (h : DataW.trod enc Tryd.prog w 0 spare held fuel 25 cs = some x) : ∃ m : Md, m.In w (Lo w) cs := by
  obtain ⟨xs, n, hn, hx, hlen, hxl, hf⟩ := DataW.trod_struct Tryd.underlying25 h
  rw [cellsMd] at hlen
  match cs, hlen with
  | [v0, v1, v2], _ =>
  match xs, hxl with
  | [y0, y1, y2], _ =>
  have h0 : DataW.trod enc Tryd.prog w 0 spare held n 3 [v0] = some y0 := by simpa [cellsInt] using hf 0 _ rfl
  have h1 : DataW.trod enc Tryd.prog w 0 spare held n 22 [v1] = some y1 := by simpa [cellsInt, cellsCons] using hf 1 _ rfl
  have h2 : DataW.trod enc Tryd.prog w 0 spare held n 23 [v2] = some y2 := by simpa [cellsInt, cellsCons, cellsRels] using hf 2 _ rfl
  obtain ⟨k, e0, _, _⟩ := DataW.trod_int Tryd.underlying3 h0
  obtain ⟨va, l1, e1, hl1⟩ := sl_one (ρ := conRep) cellsCons cellsCon Tryd.underlying22 (fun n _ cs y hy => con_of_trod hy) h1
  obtain ⟨vb, l2, e2, hl2⟩ := sl_one (ρ := relRep) cellsRels cellsRel Tryd.underlying23 (fun n _ cs y hy => rel_of_trod hy) h2
  simp only [List.cons.injEq, and_true] at e0 e1 e2
  subst e0 e1 e2
  exact ⟨⟨k, l1, l2⟩, v1, v2, rfl, hl1, hl2⟩
end
end

section
open Go Go.RowKit Go.ChangeShapes Go.WideShapes Go.Deep
set_option linter.unusedSimpArgs false
set_option linter.unusedVariables false
theorem cellsFm : Tryd.prog.cellsOf 29 = 4 := by kernel_rfl
theorem cellsFms : Tryd.prog.cellsOf 27 = 1 := by kernel_rfl
theorem cellsStrs : Tryd.prog.cellsOf 26 = 1 := by kernel_rfl
section
variable {H : Type} {enc : TypeId × Value → H} {w : World} {spare : Nat → Bool} {held : Bool}
theorem str_of_trod {fuel : Nat} {cs : List Value} {x : DataW H × List MemPlace} (h : DataW.trod enc Tryd.prog w 0 spare held fuel 9 cs = some x) : ∃ a, strRep.R w (Lo w) a cs := by
  obtain ⟨s, e0, _, hs⟩ := DataW.trod_string Tryd.underlying9 h
  exact ⟨s, e0, hs⟩
theorem strs_of_trod {fuel : Nat} {v : Value} {x : DataW H × List MemPlace} (h : DataW.trod enc Tryd.prog w 0 spare held fuel 26 [v] = some x) : ∃ l A n c, v = .slice A n c ∧ n ≤ c ∧ strRep.Sl w (Lo w) v l := by
  obtain ⟨l, hl⟩ := sl_of_trod (ρ := strRep) cells9 Tryd.underlying26 (fun n _ cs y hy => str_of_trod hy) h
  rcases DataW.trod_slice Tryd.underlying26 h with ⟨e1, _⟩ | ⟨a, len, cap, elems, rest, n', hn', e1, _, _, hlc, _⟩
  · simp only [List.cons.injEq, and_true] at e1
    exact ⟨l, _, _, _, e1, by omega, hl⟩
  · simp only [List.cons.injEq, and_true] at e1
    exact ⟨l, _, _, _, e1, hlc, hl⟩
set_option maxRecDepth 100000 in
theorem fm_of_trod : ∀ (fuel : Nat) (cs : List Value) (x : DataW H × List MemPlace), DataW.trod enc Tryd.prog w 0 spare held fuel 29 cs = some x → ∃ t, fmRepC.R w (Lo w) t cs := by
  intro fuel
  induction fuel using Nat.strongRecOn with
  | _ fuel ih =>
  intro cs x h
  obtain ⟨xs, n, hn, hx, hlen, hxl, hf⟩ := DataW.trod_struct Tryd.underlying29 h
  rw [cellsFm] at hlen
  match cs, hlen with
  | [v0, v1, v2, v3], _ =>
  match xs, hxl with
  | [y0, y1, y2, y3], _ =>
  have h0 : DataW.trod enc Tryd.prog w 0 spare held n 3 [v0] = some y0 := by simpa [cellsInt] using hf 0 _ rfl
  have h1 : DataW.trod enc Tryd.prog w 0 spare held n 9 [v1] = some y1 := by simpa [cells9] using hf 1 _ rfl
  have h2 : DataW.trod enc Tryd.prog w 0 spare held n 26 [v2] = some y2 := by simpa [cellsStrs] using hf 2 _ rfl
  have h3 : DataW.trod enc Tryd.prog w 0 spare held n 27 [v3] = some y3 := by simpa [cellsFms] using hf 3 _ rfl
  obtain ⟨k, e0, _, _⟩ := DataW.trod_int Tryd.underlying3 h0
  obtain ⟨s, e1, _, hs⟩ := DataW.trod_string Tryd.underlying9 h1
  obtain ⟨ws, A, m, c, rfl, hmc, hw⟩ := strs_of_trod h2
  simp only [List.cons.injEq, and_true] at e0 e1
  subst e0 e1
  obtain ⟨l, hl⟩ := sl_of_trod (ρ := fmRepC) cellsFm Tryd.underlying27 (fun m hm cs y hy => ih m (by omega) cs y hy) h3
  exact ⟨.mk ⟨k, s, ws⟩ l, Tree.In_iff.2 ⟨[.int .i64 k, .string s, .slice A m c], v3, rfl, ⟨⟨_, rfl, hs, hw⟩, A, m, c, rfl, hmc⟩, hl⟩⟩
end
end

section
open Go.ChangeShapes Go.WideShapes Go.ChangeAt Go.WideMaps Go.WideElems Go.RowKit
set_option linter.unusedSimpArgs false
set_option linter.unusedVariables false
def laidM {H : Type} : List (String × DataW H) := [("math/bits.deBruijn32tab", Rows.laid_math_bits_deBruijn32tab), ("math/bits.deBruijn64tab", Rows.laid_math_bits_deBruijn64tab), ("internal/strconv.uint64pow10", Rows.laid_internal_strconv_uint64pow10), ("glosswright/glosswrightlaw1.none", Rows.laid_glosswright_glosswrightlaw1_none)]
theorem door_metM (os : Os) (args : Array Value) : laidMetH Tryd.prog laidM ((World.doorLaid Tryd.prog 400 os).forCall (fun _ _ => 0) ⟨#[], args, []⟩).memory :=
  laidMetH_of_parts3 (fuel := 8) (laidMet_of_run' 8 (by kernel_rfl) (by kernel_rfl)) (by kernel_rfl) (by kernel_rfl)
set_option maxRecDepth 100000 in
theorem of_laidM {W : World} (h : laidMetH Tryd.prog laidM W) : W.cell? ⟨0, 0, none⟩ = some (.int .i64 0) ∧ W.cell? ⟨0, 1, none⟩ = some (.int .i64 0) := by
  rw [MakeChecks.laidMetH_plain _ _ _ (by kernel_rfl)] at h
  obtain ⟨ps, ⟨_, _, _, _, _, _, _, _, _, _, ⟨_, _, _, _, _, _, _, _, _, _, ⟨_, _, _, _, _, _, _, _, _, _, ⟨g0, t0, cs0, f0, p0, q0, hg0, ht0, hv0, hd0, _, _⟩, _⟩, _⟩, _⟩, _, _⟩ := h
  obtain rfl := Option.some.inj (gNone.symm.trans hg0)
  obtain rfl := Option.some.inj (tNone.symm.trans ht0)
  obtain ⟨xs, n, hn, hx, hlen, hxl, hf⟩ := DataW.trod_struct Tryd.underlying31 hd0
  rw [cellsFault] at hlen
  obtain ⟨l⟩ := cs0
  match l, hlen with
  | [c0, c1], _ =>
  match xs, hxl with
  | [y0, y1], _ =>
  have h0 : DataW.trod (fun _ => ()) Tryd.prog W 0 (fun _ => true) false n 3 [c0] = some y0 := by simpa [cellsInt] using hf 0 _ rfl
  have h1 : DataW.trod (fun _ => ()) Tryd.prog W 0 (fun _ => true) false n 3 [c1] = some y1 := by simpa [cellsInt] using hf 1 _ rfl
  obtain ⟨k0, e0, e0', _⟩ := DataW.trod_int Tryd.underlying3 h0
  obtain ⟨k1, e1, e1', _⟩ := DataW.trod_int Tryd.underlying3 h1
  simp only [List.cons.injEq, and_true] at e0 e1
  subst e0 e1
  simp only [Prod.mk.injEq] at hx
  have hx1 := hx.1
  rw [e0', e1'] at hx1
  simp [Rows.laid_glosswright_glosswrightlaw1_none] at hx1
  obtain ⟨rfl, rfl⟩ := hx1
  exact ⟨by simpa using World.var?_cell hg0 hv0 0, by simpa using World.var?_cell hg0 hv0 1⟩
theorem tab_below {w w' : World} (h : Lib.TabIs Tryd.prog w "internal/strconv.uint64pow10" .u64 Lib.pow10Tab) (hb : Below w.heap.size w w') : Lib.TabIs Tryd.prog w' "internal/strconv.uint64pow10" .u64 Lib.pow10Tab := by
  have hg : Tryd.prog.globalNamed "internal/strconv.uint64pow10" = some 2 := by kernel_rfl
  unfold Lib.TabIs World.var? at h ⊢
  rw [hg] at h ⊢
  simp only [Option.bind_some] at h ⊢
  have hlt : 2 < w.heap.size := by
    rcases Nat.lt_or_ge 2 w.heap.size with h' | h'
    · exact h'
    · rw [Array.getElem?_eq_none h'] at h; cases h
  rw [hb.block _ hlt]
  exact h
theorem tab_of_laidM {W : World} (h : laidMetH Tryd.prog laidM W) : Lib.TabIs Tryd.prog W "internal/strconv.uint64pow10" .u64 Lib.pow10Tab := by
  rw [MakeChecks.laidMetH_plain _ _ _ (by kernel_rfl)] at h
  have h2 := laidMet.tail (laidMet.tail h)
  exact Lib.tabIs_of_head (P := Tryd.prog) (name := "internal/strconv.uint64pow10") (k := .u64) (zs := Lib.pow10Tab) (g := 2) (by kernel_rfl) (by kernel_rfl) Tryd.underlying164 Tryd.underlying135 (by kernel_rfl) (by kernel_rfl) h2
end

section
open Go.ChangeShapes Go.WideShapes Go.ChangeAt Go.WideMaps Go.WideElems Go.RowKit
set_option linter.unusedSimpArgs false
set_option linter.unusedVariables false
set_option maxRecDepth 100000 in
theorem truthOfCanonical_lifted (os : Os) (started : os.Started) (H : Type) (enc : TypeId × Value → H) :
    ReturnsInHanded {} Tryd.checked os 11 .any
      (fun w args => (Rows.truthOfCanonicalSpec.pre enc Tryd.prog Tryd.f11 [] false w args ∧ laidMetH Tryd.prog laidM w) ∧ sizedMet enc Tryd.prog Tryd.f11 (OpenSpec.ofChange Rows.truthOfCanonicalSpec) false w args)
      (Rows.truthOfCanonicalSpec.post enc Tryd.prog Tryd.f11 false true false false) := by
  refine returnsInHanded_of_change_and (C := Tryd.checked) (X := fun w _ => laidMetH Tryd.prog laidM w) (fun _ _ _ hh h => h.of_heap hh) ownKnobNone started (by kernel_rfl) Tryd.func11
    (ChangeSpec.witness_shaped (enc := enc) (C := Tryd.checked) (os := os) (X := fun w _ => laidMetH Tryd.prog laidM w) false (World.doorLaid Tryd.prog 400 os) #[.agg #[.int .i64 0, .slice none 0 0, .slice none 0 0], .agg #[.int .i64 0, .string ⟨#[]⟩, .slice none 0 0, .slice none 0 0]] 8 rfl (World.shaped_of_RefB (by kernel_rfl) (by kernel_rfl)) (by kernel_rfl) (by kernel_rfl) (by kernel_rfl) (door_metM os _)) ?_
  intro W base args ds gs before hval0 hW _ _ hL _
  have hval : ∀ (j : Nat) t v, Tryd.f11.params[j]? = some t → args[j]? = some v → Value.okWide Tryd.prog W .any base t v := hval0
  have hW' := hW
  obtain ⟨p, q, hA0, hV, rfl, hfz, hnd⟩ := hW
  have hA : DataW.TrodAll enc Tryd.prog W 0 (fun _ => true) true Tryd.f11.params.toList args.toList ds p := hA0
  rw [Tryd.params11] at hA hval
  obtain ⟨v0, v1, d0, d1, p0, p1, rfl, rfl, rfl, h0, h1⟩ := trodAll_two hA
  obtain ⟨rfl, rfl⟩ := trodVars_none hV
  obtain ⟨c0, rfl, hc0⟩ := okWide_struct Tryd.underlying25 (hval 0 25 v0 rfl rfl)
  have h0k := h0
  obtain ⟨fuel0, hf0⟩ := h0
  obtain ⟨t0, ht00⟩ := md_of_trod fuel0 _ _ hf0
  have ht0 : t0.In W (Lo W) c0.toList := by simpa [Value.cells] using ht00
  obtain ⟨c1, rfl, hc1⟩ := okWide_struct Tryd.underlying29 (hval 1 29 v1 rfl rfl)
  have h1k := h1
  obtain ⟨fuel1, hf1⟩ := h1
  obtain ⟨t1, ht10⟩ := fm_of_trod fuel1 _ _ hf1
  have ht1 : fmRepC.R W (Lo W) t1 c1.toList := by simpa [Value.cells] using ht10
  obtain ⟨g0, g1⟩ := of_laidM hL
  have htab0 := tab_of_laidM hL
  have htab : ∀ W2, Below W.heap.size W W2 → Lib.TabIs Tryd.prog W2 "internal/strconv.uint64pow10" .u64 Lib.pow10Tab := fun W2 hb => tab_below htab0 hb
  clear hA0 hval0
  simp only [List.append_nil] at hW'
  have hlt : ∀ x ∈ p0 ++ p1, x.block < W.heap.size := fun x hx => by simpa using hW'.lt x (by simpa using hx)
  refine (canonTruth_door t0 c0.toList t1 c1.toList W (Lo W) ht0 ht1 (fun _ h => h) g0 g1 htab).mono fun e W' ⟨he, hnx⟩ => ?_
  subst he
  refine ⟨_, rfl, _, _, _, [], p0 ++ p1, [], hW', trodAll_mk1 (shut_bool Tryd.underlying4 _), ?_, rfl, hnx.frame _, fun h => by cases h⟩
  exact trodAll_mk2 (Below.trod laidOutAll (by kernel_rfl) (of_decide_eq_true (by kernel_rfl)) h0k hnx (fun x hx => hlt x (by simp [hx]))) (Below.trod laidOutAll (by kernel_rfl) (of_decide_eq_true (by kernel_rfl)) h1k hnx (fun x hx => hlt x (by simp [hx])))
theorem truthOfCanonical_kfn : Tryd.pinned.checked.prog.funcNamed "glosswright/glosswrightlaw1.TruthOfCanonical" = some 11 := by kernel_rfl
theorem truthOfCanonical_kin : (Rows.truthOfCanonicalRow.inPlace == Tryd.pinned.checked.prog.inPlace 11) = true := by kernel_rfl
theorem truthOfCanonical_kun : (Rows.truthOfCanonicalRow.unfollowed == Tryd.pinned.checked.prog.unfollowed 11) = true := by kernel_rfl
theorem truthOfCanonical_kre : (Rows.truthOfCanonicalRow.recurses == Tryd.pinned.checked.prog.recurses 11) = true := by kernel_rfl
theorem truthOfCanonical_kva : (Rows.truthOfCanonicalRow.named == Tryd.pinned.checked.prog.varsNamed 11) = true := by kernel_rfl
theorem truthOfCanonical_kgo : false = Rows.truthOfCanonicalRow.goesBy Tryd.pinned.checked.prog := by kernel_rfl
theorem truthOfCanonical_kwf : Rows.truthOfCanonicalRow.wfByText (OpenSpec.ofChange Rows.truthOfCanonicalSpec) = true := by kernel_rfl
theorem truthOfCanonical_band {a b : Bool} (h : a = true) (k : b = true) : (a && b) = true := by rw [h, k]; rfl
theorem truthOfCanonical_closed : joinedFacts Tryd.pinned.checked.prog 11 Tryd.f11 Rows.truthOfCanonicalSpec Rows.truthOfCanonicalRow = true := by
  unfold joinedFacts
  repeat' with_reducible refine truthOfCanonical_band ?_ ?_
  all_goals first
    | with_reducible exact kf_laid
    | with_reducible exact kf_maps
    | with_reducible exact kf_enter
    | with_reducible exact kf_heard
    | with_reducible exact truthOfCanonical_kin
    | with_reducible exact truthOfCanonical_kun
    | with_reducible exact truthOfCanonical_kre
    | with_reducible exact truthOfCanonical_kva
    | (rw [kf_lift]; as_aux_lemma => kernel_rfl)
    | (rw [kf_make]; as_aux_lemma => kernel_rfl)
    | (rw [kf_keys]; as_aux_lemma => kernel_rfl)
    | as_aux_lemma => kernel_rfl
theorem truthOfCanonical_row : Rows.TruthOfCanonicalSaid :=
  OpenClaim.holds_of_wide 11 Tryd.f11 rfl rfl rfl rfl rfl rfl rfl ⟨rfl, rfl, rfl, rfl, rfl⟩ rfl rfl rfl rfl rfl truthOfCanonical_kfn Tryd.func11 truthOfCanonical_closed
    (of_decide_eq_true (by kernel_rfl)) (by unfold Func.isWrapper; first | (rw [if_pos (by decide +kernel)]; kernel_rfl) | (rw [if_neg (by decide +kernel)]; exact ⟨rfl, rfl⟩))
    (fun os started H enc _ => truthOfCanonical_lifted os started H enc)
theorem truthOfCanonical_holds : Rows.TruthOfCanonicalCardSaid :=
  Claim7.holds_tied_plain_at .later [] [.data, .data, .data, .data] true (true, "91bc5d48d26aee418614a19e6e44f329f5fa5bd73b5e9d215a883cea40c1085e") false
    truthOfCanonical_row (fun _ h => by cases h) truthOfCanonical_kwf (fun _ h => by cases h) truthOfCanonical_row_tie rfl ⟨rfl, rfl⟩ kf_main rfl
    (fun f fn hf hfn => by
      obtain rfl : f = 11 := Option.some.inj ((show Tryd.prog.funcNamed "glosswright/glosswrightlaw1.TruthOfCanonical" = some 11 from truthOfCanonical_kfn).symm.trans hf) |>.symm
      obtain rfl : fn = Tryd.f11 := (Option.some.inj (Tryd.func11.symm.trans hfn)).symm
      exact ⟨kf_looks, fun j t ht => by
        rw [Tryd.params11] at ht
        have hm : t ∈ [25, 29] := by simpa using Array.mem_of_getElem? ht
        have hall : ([25, 29].all fun u => !Tryd.prog.wantsStandIn u) = true := by kernel_rfl
        exact (show Tryd.prog.wantsStandIn t = false by simpa using List.all_eq_true.1 hall t hm)⟩)
    truthOfCanonical_kgo
#print axioms truthOfCanonical_holds
end

end Go.Proofs.YtflcbbikfdahhaaDoor
