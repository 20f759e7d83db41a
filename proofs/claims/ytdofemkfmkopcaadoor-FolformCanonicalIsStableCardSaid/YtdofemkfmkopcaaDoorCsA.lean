/-
  The reference's consts: its regions, by parts.
-/
import Derived.Test.YtdofemkfmkopcaaDoorCrB
import Derived.Deep.RegionLaw
namespace Go.Proofs.YtdofemkfmkopcaaDoor
open Go Go.RowKit
set_option linter.unusedSimpArgs false
set_option linter.unusedVariables false

set_option maxRecDepth 1000000 in
theorem frame_cs {P : Act → Prop} (h : ∀ x0 x1 x2 x3 x4 x5 x6 x7 x8 x9 x10 x11 x12 x13 x14 x15 x16 x17 x18 x19 x20 x21 x22 x23 x24 x25 x26 x27 x28 x29 x30 x31 x32 x33 x34 x35 x36 x37 x38 x39 x40 x41 x42 x43 x44 x45 x46 x47 x48 x49 x50 x51 x52 x53 x54 x55 : Value, P ⟨(x0 :: x1 :: x2 :: x3 :: x4 :: x5 :: x6 :: x7 :: x8 :: x9 :: x10 :: x11 :: x12 :: x13 :: x14 :: x15 :: x16 :: x17 :: x18 :: x19 :: x20 :: x21 :: x22 :: x23 :: x24 :: x25 :: x26 :: x27 :: x28 :: x29 :: x30 :: x31 :: x32 :: x33 :: x34 :: x35 :: x36 :: x37 :: x38 :: x39 :: x40 :: x41 :: x42 :: x43 :: x44 :: x45 :: x46 :: x47 :: x48 :: x49 :: x50 :: x51 :: x52 :: x53 :: x54 :: x55 :: []).toArray, []⟩) : ∀ a : Act, a.tmps.toList.length = 56 → a.defers = [] → P a := by
  rintro ⟨⟨l⟩, d⟩ hs hd
  simp only at hd
  subst hd
  revert l
  show ∀ l : List Value, l.length = 56 → P ⟨⟨l⟩, []⟩
  refine openS (n := 55) (fun x0 => ?_)
  refine openS (n := 54) (fun x1 => ?_)
  refine openS (n := 53) (fun x2 => ?_)
  refine openS (n := 52) (fun x3 => ?_)
  refine openS (n := 51) (fun x4 => ?_)
  refine openS (n := 50) (fun x5 => ?_)
  refine openS (n := 49) (fun x6 => ?_)
  refine openS (n := 48) (fun x7 => ?_)
  refine openS (n := 47) (fun x8 => ?_)
  refine openS (n := 46) (fun x9 => ?_)
  refine openS (n := 45) (fun x10 => ?_)
  refine openS (n := 44) (fun x11 => ?_)
  refine openS (n := 43) (fun x12 => ?_)
  refine openS (n := 42) (fun x13 => ?_)
  refine openS (n := 41) (fun x14 => ?_)
  refine openS (n := 40) (fun x15 => ?_)
  refine openS (n := 39) (fun x16 => ?_)
  refine openS (n := 38) (fun x17 => ?_)
  refine openS (n := 37) (fun x18 => ?_)
  refine openS (n := 36) (fun x19 => ?_)
  refine openS (n := 35) (fun x20 => ?_)
  refine openS (n := 34) (fun x21 => ?_)
  refine openS (n := 33) (fun x22 => ?_)
  refine openS (n := 32) (fun x23 => ?_)
  refine openS (n := 31) (fun x24 => ?_)
  refine openS (n := 30) (fun x25 => ?_)
  refine openS (n := 29) (fun x26 => ?_)
  refine openS (n := 28) (fun x27 => ?_)
  refine openS (n := 27) (fun x28 => ?_)
  refine openS (n := 26) (fun x29 => ?_)
  refine openS (n := 25) (fun x30 => ?_)
  refine openS (n := 24) (fun x31 => ?_)
  refine openS (n := 23) (fun x32 => ?_)
  refine openS (n := 22) (fun x33 => ?_)
  refine openS (n := 21) (fun x34 => ?_)
  refine openS (n := 20) (fun x35 => ?_)
  refine openS (n := 19) (fun x36 => ?_)
  refine openS (n := 18) (fun x37 => ?_)
  refine openS (n := 17) (fun x38 => ?_)
  refine openS (n := 16) (fun x39 => ?_)
  refine openS (n := 15) (fun x40 => ?_)
  refine openS (n := 14) (fun x41 => ?_)
  refine openS (n := 13) (fun x42 => ?_)
  refine openS (n := 12) (fun x43 => ?_)
  refine openS (n := 11) (fun x44 => ?_)
  refine openS (n := 10) (fun x45 => ?_)
  refine openS (n := 9) (fun x46 => ?_)
  refine openS (n := 8) (fun x47 => ?_)
  refine openS (n := 7) (fun x48 => ?_)
  refine openS (n := 6) (fun x49 => ?_)
  refine openS (n := 5) (fun x50 => ?_)
  refine openS (n := 4) (fun x51 => ?_)
  refine openS (n := 3) (fun x52 => ?_)
  refine openS (n := 2) (fun x53 => ?_)
  refine openS (n := 1) (fun x54 => ?_)
  refine openS (n := 0) (fun x55 => ?_)
  refine open0 ?_
  exact h x0 x1 x2 x3 x4 x5 x6 x7 x8 x9 x10 x11 x12 x13 x14 x15 x16 x17 x18 x19 x20 x21 x22 x23 x24 x25 x26 x27 x28 x29 x30 x31 x32 x33 x34 x35 x36 x37 x38 x39 x40 x41 x42 x43 x44 x45 x46 x47 x48 x49 x50 x51 x52 x53 x54 x55
/-- In the reference's consts: its own block, the list so far. -/
structure CT (B0 : Nat) (wo w : World) (v : Value) (l : List ByteArray) (kd : Int) (nm : ByteArray) (A : Option Addr) (n1 c1 : Nat) (B : Option Addr) (n2 c2 : Nat) : Prop where
  a : w.heap[wo.heap.size]? = some (.cells #[.int .i64 kd, .string nm, .slice A n1 c1, .slice B n2 c2] 25 (0, 0))
  r : w.ownsRow B0 9 1 v l.length (l.map .string)
  z : ∀ s ∈ l, s.size ≤ maxLen
  b : Below wo.heap.size wo w
theorem CT.step {B0 : Nat} {l l' : List ByteArray} {v v' : Value} {wo w w' : World} {kd : Int} {nm : ByteArray} {A B : Option Addr} {n1 c1 n2 c2 : Nat} (h : CT B0 wo w v l kd nm A n1 c1 B n2 c2) (hb : Below w.heap.size w w') (hr : w'.ownsRow B0 9 1 v' l'.length (l'.map .string)) (hz : ∀ s ∈ l', s.size ≤ maxLen) : CT B0 wo w' v' l' kd nm A n1 c1 B n2 c2 :=
  ⟨(hb.block _ (lt_heap h.a)).trans h.a, hr, hz, h.b.trans (hb.mono h.b.size)⟩
theorem CT.below {B0 : Nat} {l : List ByteArray} {v : Value} {wo w w' : World} {kd : Int} {nm : ByteArray} {A B : Option Addr} {n1 c1 n2 c2 : Nat} (h : CT B0 wo w v l kd nm A n1 c1 B n2 c2) (hb : Below w.heap.size w w') : CT B0 wo w' v l kd nm A n1 c1 B n2 c2 := h.step hb (rowGrownF h.r (fun k hk _ => hb.block k hk)) h.z
theorem putB_len (l : List ByteArray) (s : ByteArray) : (putB l s).length ≤ l.length + 1 := by
  unfold putB
  split
  · omega
  · have : l.length = (l.takeWhile (fun x => lessB x s)).length + (l.dropWhile (fun x => lessB x s)).length := by rw [← List.length_append, List.takeWhile_append_dropWhile]
    simp only [List.length_append, List.length_cons]
    omega
theorem puts_len (xs : List ByteArray) : ∀ l : List ByteArray, (xs.foldl putB l).length ≤ l.length + xs.length := by
  induction xs with
  | nil => intro l; simp
  | cons a r ih => intro l; have := ih (putB l a); have := putB_len l a; simp only [List.foldl_cons, List.length_cons]; omega
noncomputable def c_cs_r0 : Code := sub [0] (Tryd.f41.body.getD .skip)
set_option maxRecDepth 1000000 in
set_option maxHeartbeats 16000000 in
theorem cs_r0_wp {Q : Exit → Act → World → Prop} {D : Option Addr} {m e : Nat} {v : Value} {wo : World} {kd : Int} {nm : ByteArray} {A B : Option Addr} {n1 c1 n2 c2 : Nat} (hN : ∀ a', Frm 56 [(1, .slice D m e), (2, v), (3, .pointer (some ⟨wo.heap.size, 0, none⟩))] a' → Q .normal a' (wo.alloc (.cells #[.int .i64 kd, .string nm, .slice A n1 c1, .slice B n2 c2] 25))) : ∀ ac, Frm 56 [(0, .agg #[.int .i64 kd, .string nm, .slice A n1 c1, .slice B n2 c2]), (1, .slice D m e), (2, v)] ac → Code.wp Tryd.prog c_cs_r0 Q ac wo := by
  refine frm_open ?_
  refine frame_cs ?_
  intros
  rename_i hq
  obtain ⟨-, -, e0q, e1q, e2q, -⟩ := hq
  obtain rfl := sI e0q
  obtain rfl := sI e1q
  obtain rfl := sI e2q
  conv => arg 2; whnf
  have HN := Lib.hid hN
  clear hN
  go_wp2_with fail
  exact HN.out _ (id ⟨rfl, rfl, rfl, rfl, rfl, trivial⟩)
noncomputable def c_cs_r1 : Code := sub [1, 0, 0] (Tryd.f41.body.getD .skip)
set_option maxRecDepth 1000000 in
set_option maxHeartbeats 16000000 in
theorem cs_r1_wp {Q : Exit → Act → World → Prop} {B0 : Nat} {l : List ByteArray} {D : Option Addr} {m e : Nat} {v : Value} {wo w : World} {kd : Int} {nm : ByteArray} {A B : Option Addr} {n1 c1 n2 c2 : Nat} (hs : CT B0 wo w v l kd nm A n1 c1 B n2 c2) (hN : ∀ a', Frm 56 [(1, .slice D m e), (2, v), (3, .pointer (some ⟨wo.heap.size, 0, none⟩)), (11, .slice A n1 c1), (12, .int .i64 (n1 : Nat)), (13, .int .i64 (0 : Nat))] a' → Q .normal a' w) : ∀ ac, Frm 56 [(1, .slice D m e), (2, v), (3, .pointer (some ⟨wo.heap.size, 0, none⟩))] ac → Code.wp Tryd.prog c_cs_r1 Q ac w := by
  refine frm_open ?_
  refine frame_cs ?_
  intros
  rename_i hq
  obtain ⟨-, -, e0q, e1q, e2q, -⟩ := hq
  obtain rfl := sI e0q
  obtain rfl := sI e1q
  obtain rfl := sI e2q
  conv => arg 2; whnf
  have a0 := cellv hs.a 0 rfl
  have a1 := cellv hs.a 1 rfl
  have a2 := cellv hs.a 2 rfl
  have a3 := cellv hs.a 3 rfl
  have al := lt_heap hs.a
  have HS := Lib.hid hs
  clear hs
  have HN := Lib.hid hN
  clear hN
  go_wp2_with fail
  exact HN.out _ (id ⟨rfl, rfl, rfl, rfl, rfl, rfl, rfl, rfl, trivial⟩)
noncomputable def c_cs_r2 : Code := sub [1, 0, 1, 0, 0, 0] (Tryd.f41.body.getD .skip)
set_option maxRecDepth 1000000 in
set_option maxHeartbeats 16000000 in
theorem cs_r2_wp {Q : Exit → Act → World → Prop} {A : Option Addr} {n1 c1 i : Nat} {D : Option Addr} {m e : Nat} {v : Value} {wo w : World} (hN : ∀ a', Frm 56 [(1, .slice D m e), (2, v), (3, .pointer (some ⟨wo.heap.size, 0, none⟩)), (11, .slice A n1 c1), (12, .int .i64 (n1 : Nat)), (13, .int .i64 (i : Nat)), (14, .bool (decide (i < n1)))] a' → Q .normal a' w) : ∀ ac, Frm 56 [(1, .slice D m e), (2, v), (3, .pointer (some ⟨wo.heap.size, 0, none⟩)), (11, .slice A n1 c1), (12, .int .i64 (n1 : Nat)), (13, .int .i64 (i : Nat))] ac → Code.wp Tryd.prog c_cs_r2 Q ac w := by
  refine frm_open ?_
  refine frame_cs ?_
  intros
  rename_i hq
  obtain ⟨-, -, e0q, e1q, e2q, e3q, e4q, e5q, -⟩ := hq
  obtain rfl := sI e0q
  obtain rfl := sI e1q
  obtain rfl := sI e2q
  obtain rfl := sI e3q
  obtain rfl := sI e4q
  obtain rfl := sI e5q
  conv => arg 2; whnf
  by_cases h : i < n1
  · have t1 : decide ((i : Int) < (n1 : Int)) = true := by first | exact decide_eq_true (by omega) | exact beq_iff_eq.2 (by omega) | exact bne_iff_ne.2 (by omega)
    have t2 : (decide (i < n1)) = true := decide_eq_true h
    rw [t2] at hN
    clear h
    have HN := Lib.hid hN
    clear hN
    go_wp2_with fail
    exact HN.out _ (id ⟨rfl, rfl, rfl, rfl, rfl, rfl, rfl, rfl, rfl, trivial⟩)
  · have t1 : decide ((i : Int) < (n1 : Int)) = false := by first | exact decide_eq_false (by omega) | exact beq_eq_false_iff_ne.2 (by omega) | exact bne_eq_false_iff_eq.2 (by omega)
    have t2 : (decide (i < n1)) = false := decide_eq_false h
    rw [t2] at hN
    clear h
    have HN := Lib.hid hN
    clear hN
    go_wp2_with fail
    exact HN.out _ (id ⟨rfl, rfl, rfl, rfl, rfl, rfl, rfl, rfl, rfl, trivial⟩)
noncomputable def c_cs_r3 : Code := sub [1, 0, 1, 0, 0, 1, 1, 0, 0, 0] (Tryd.f41.body.getD .skip)
set_option maxRecDepth 1000000 in
set_option maxHeartbeats 16000000 in
theorem cs_r3_wp {Q : Exit → Act → World → Prop} {b o n1 c1 i : Nat} {s : ByteArray} {D : Option Addr} {m e : Nat} {v : Value} {wo w : World} (hi : i < n1) (hc : w.cell? ⟨b, o + i, none⟩ = some (.string s)) (hbl : b < w.heap.size) (hN : ∀ a', Frm 56 [(1, .slice D m e), (2, v), (3, .pointer (some ⟨wo.heap.size, 0, none⟩)), (11, .slice (some ⟨b, o, none⟩) n1 c1), (12, .int .i64 (n1 : Nat)), (13, .int .i64 (i : Nat)), (8, .string s)] a' → Q .normal a' w) : ∀ ac, Frm 56 [(1, .slice D m e), (2, v), (3, .pointer (some ⟨wo.heap.size, 0, none⟩)), (11, .slice (some ⟨b, o, none⟩) n1 c1), (12, .int .i64 (n1 : Nat)), (13, .int .i64 (i : Nat))] ac → Code.wp Tryd.prog c_cs_r3 Q ac w := by
  refine frm_open ?_
  refine frame_cs ?_
  intros
  rename_i hq
  obtain ⟨-, -, e0q, e1q, e2q, e3q, e4q, e5q, -⟩ := hq
  obtain rfl := sI e0q
  obtain rfl := sI e1q
  obtain rfl := sI e2q
  obtain rfl := sI e3q
  obtain rfl := sI e4q
  obtain rfl := sI e5q
  conv => arg 2; whnf
  have q0 : (0 : Int) ≤ (i : Int) := by omega
  have q1 : (i : Int) < (n1 : Int) := by omega
  have HN := Lib.hid hN
  clear hN
  go_wp2_with fail
  exact HN.out _ (id ⟨rfl, rfl, rfl, rfl, rfl, rfl, rfl, rfl, rfl, trivial⟩)
noncomputable def c_cs_r4 : Code := sub [1, 0, 1, 0, 0, 1, 1, 0, 0, 1, 0] (Tryd.f41.body.getD .skip)
set_option maxRecDepth 1000000 in
set_option maxHeartbeats 16000000 in
theorem cs_r4_wp {Q : Exit → Act → World → Prop} {bb : Bool} {s : ByteArray} {A : Option Addr} {n1 c1 i : Nat} {D : Option Addr} {m e : Nat} {v : Value} {wo w : World} (hc : Calls Tryd.prog 29 #[.slice D m e, .string s] w fun e w' => e = .returned (.bool bb) ∧ w' = w) (hN : ∀ a', Frm 56 [(1, .slice D m e), (2, v), (3, .pointer (some ⟨wo.heap.size, 0, none⟩)), (11, .slice A n1 c1), (12, .int .i64 (n1 : Nat)), (13, .int .i64 (i : Nat)), (8, .string s), (20, .bool (!bb))] a' → Q .normal a' w) : ∀ ac, Frm 56 [(1, .slice D m e), (2, v), (3, .pointer (some ⟨wo.heap.size, 0, none⟩)), (11, .slice A n1 c1), (12, .int .i64 (n1 : Nat)), (13, .int .i64 (i : Nat)), (8, .string s)] ac → Code.wp Tryd.prog c_cs_r4 Q ac w := by
  refine frm_open ?_
  refine frame_cs ?_
  intros
  rename_i hq
  obtain ⟨-, -, e0q, e1q, e2q, e3q, e4q, e5q, e6q, -⟩ := hq
  obtain rfl := sI e0q
  obtain rfl := sI e1q
  obtain rfl := sI e2q
  obtain rfl := sI e3q
  obtain rfl := sI e4q
  obtain rfl := sI e5q
  obtain rfl := sI e6q
  conv => arg 2; whnf
  have HN := Lib.hid hN
  have HC := Lib.hid hc
  clear hN hc
  go_wp2_with fail
  (with_reducible refine HC.out.mono ?_)
  rintro e w1 ⟨rfl, rfl⟩
  go_wp2_with fail
  exact HN.out _ (id ⟨rfl, rfl, rfl, rfl, rfl, rfl, rfl, rfl, rfl, rfl, trivial⟩)
noncomputable def c_cs_r5 : Code := sub [1, 0, 1, 0, 0, 1, 1, 0, 0, 1, 1, 0] (Tryd.f41.body.getD .skip)
set_option maxRecDepth 1000000 in
set_option maxHeartbeats 16000000 in
theorem cs_r5_wp {Q : Exit → Act → World → Prop} {PP : Value → World → Prop} {s : ByteArray} {A : Option Addr} {n1 c1 i : Nat} {D : Option Addr} {m e : Nat} {v : Value} {wo w : World} (hc : Calls Tryd.prog 66 #[v, .string s] w fun e w' => ∃ v', e = .returned v' ∧ PP v' w') (hN : ∀ v' a' w', Frm 56 [(1, .slice D m e), (2, v'), (3, .pointer (some ⟨wo.heap.size, 0, none⟩)), (11, .slice A n1 c1), (12, .int .i64 (n1 : Nat)), (13, .int .i64 (i : Nat))] a' → PP v' w' → Q .normal a' w') : ∀ ac, Frm 56 [(1, .slice D m e), (2, v), (3, .pointer (some ⟨wo.heap.size, 0, none⟩)), (11, .slice A n1 c1), (12, .int .i64 (n1 : Nat)), (13, .int .i64 (i : Nat)), (8, .string s)] ac → Code.wp Tryd.prog c_cs_r5 Q ac w := by
  refine frm_open ?_
  refine frame_cs ?_
  intros
  rename_i hq
  obtain ⟨-, -, e0q, e1q, e2q, e3q, e4q, e5q, e6q, -⟩ := hq
  obtain rfl := sI e0q
  obtain rfl := sI e1q
  obtain rfl := sI e2q
  obtain rfl := sI e3q
  obtain rfl := sI e4q
  obtain rfl := sI e5q
  obtain rfl := sI e6q
  conv => arg 2; whnf
  have HN := Lib.hid hN
  have HC := Lib.hid hc
  clear hN hc
  go_wp2_with fail
  (with_reducible refine HC.out.mono ?_)
  rintro e w1 ⟨v1, rfl, hp⟩
  have HP := Lib.hid hp
  clear hp
  go_wp2_with fail
  exact HN.out _ _ _ (id ⟨rfl, rfl, rfl, rfl, rfl, rfl, rfl, rfl, trivial⟩) HP.out
noncomputable def c_cs_r6 : Code := sub [1, 0, 1, 0, 0, 1, 1, 1] (Tryd.f41.body.getD .skip)
set_option maxRecDepth 1000000 in
set_option maxHeartbeats 16000000 in
theorem cs_r6_wp {Q : Exit → Act → World → Prop} {A : Option Addr} {n1 c1 i : Nat} {D : Option Addr} {m e : Nat} {v : Value} {wo w : World} (hi : i < n1) (hlim : n1 ≤ maxLen) (hN : ∀ a', Frm 56 [(1, .slice D m e), (2, v), (3, .pointer (some ⟨wo.heap.size, 0, none⟩)), (11, .slice A n1 c1), (12, .int .i64 (n1 : Nat)), (13, .int .i64 (i + 1 : Nat))] a' → Q .normal a' w) : ∀ ac, Frm 56 [(1, .slice D m e), (2, v), (3, .pointer (some ⟨wo.heap.size, 0, none⟩)), (11, .slice A n1 c1), (12, .int .i64 (n1 : Nat)), (13, .int .i64 (i : Nat))] ac → Code.wp Tryd.prog c_cs_r6 Q ac w := by
  refine frm_open ?_
  refine frame_cs ?_
  intros
  rename_i hq
  obtain ⟨-, -, e0q, e1q, e2q, e3q, e4q, e5q, -⟩ := hq
  obtain rfl := sI e0q
  obtain rfl := sI e1q
  obtain rfl := sI e2q
  obtain rfl := sI e3q
  obtain rfl := sI e4q
  obtain rfl := sI e5q
  conv => arg 2; whnf
  have hi4 : (i : Int) ≤ 9223372036854775806 := by unfold maxLen at hlim; omega
  have HN := Lib.hid hN
  clear hN
  go_wp2_with fail
  exact HN.out _ (id ⟨rfl, rfl, rfl, rfl, rfl, rfl, rfl, rfl, trivial⟩)
noncomputable def c_cs_r7 : Code := sub [1, 1, 0, 0] (Tryd.f41.body.getD .skip)
set_option maxRecDepth 1000000 in
set_option maxHeartbeats 16000000 in
theorem cs_r7_wp {Q : Exit → Act → World → Prop} {B0 : Nat} {l : List ByteArray} {D : Option Addr} {m e : Nat} {v : Value} {wo w : World} {kd : Int} {nm : ByteArray} {A B : Option Addr} {n1 c1 n2 c2 : Nat} (hs : CT B0 wo w v l kd nm A n1 c1 B n2 c2) (hN : ∀ a', Frm 56 [(1, .slice D m e), (2, v), (3, .pointer (some ⟨wo.heap.size, 0, none⟩)), (32, .bool (isQu kd))] a' → Q .normal a' w) : ∀ ac, Frm 56 [(1, .slice D m e), (2, v), (3, .pointer (some ⟨wo.heap.size, 0, none⟩))] ac → Code.wp Tryd.prog c_cs_r7 Q ac w := by
  refine frm_open ?_
  refine frame_cs ?_
  intros
  rename_i hq
  obtain ⟨-, -, e0q, e1q, e2q, -⟩ := hq
  obtain rfl := sI e0q
  obtain rfl := sI e1q
  obtain rfl := sI e2q
  conv => arg 2; whnf
  have a0 := cellv hs.a 0 rfl
  have a1 := cellv hs.a 1 rfl
  have a2 := cellv hs.a 2 rfl
  have a3 := cellv hs.a 3 rfl
  have al := lt_heap hs.a
  have HS := Lib.hid hs
  clear hs
  by_cases h8 : kd = 8
  · subst h8
    rw [show isQu 8 = true from rfl] at hN
    have HN := Lib.hid hN
    clear hN
    go_wp2_with fail
    exact HN.out _ (id ⟨rfl, rfl, rfl, rfl, rfl, rfl, trivial⟩)
  have t8 : (kd == 8) = false := beq_eq_false_iff_ne.2 h8
  by_cases h9 : kd = 9
  · subst h9
    rw [show isQu 9 = true from rfl] at hN
    have HN := Lib.hid hN
    clear hN
    go_wp2_with fail
    exact HN.out _ (id ⟨rfl, rfl, rfl, rfl, rfl, rfl, trivial⟩)
  have t9 : (kd == 9) = false := beq_eq_false_iff_ne.2 h9
  rw [show isQu kd = false from by simp [isQu, h8, h9]] at hN
  clear h8 h9
  have HN := Lib.hid hN
  clear hN
  go_wp2_with fail
  exact HN.out _ (id ⟨rfl, rfl, rfl, rfl, rfl, rfl, trivial⟩)
noncomputable def c_cs_r9 : Code := sub [1, 1, 1, 0, 0] (Tryd.f41.body.getD .skip)
set_option maxRecDepth 1000000 in
set_option maxHeartbeats 16000000 in
theorem cs_r9_wp {Q : Exit → Act → World → Prop} {B0 : Nat} {l : List ByteArray} {D : Option Addr} {m e : Nat} {v : Value} {wo w : World} {kd : Int} {nm : ByteArray} {A B : Option Addr} {n1 c1 n2 c2 : Nat} (hs : CT B0 wo w v l kd nm A n1 c1 B n2 c2) (hN : ∀ a', Frm 56 [(1, .slice D m e), (2, v), (3, .pointer (some ⟨wo.heap.size, 0, none⟩)), (41, .slice B n2 c2), (42, .int .i64 (n2 : Nat)), (43, .int .i64 (0 : Nat))] a' → Q .normal a' w) : ∀ ac, Frm 56 [(1, .slice D m e), (2, v), (3, .pointer (some ⟨wo.heap.size, 0, none⟩))] ac → Code.wp Tryd.prog c_cs_r9 Q ac w := by
  refine frm_open ?_
  refine frame_cs ?_
  intros
  rename_i hq
  obtain ⟨-, -, e0q, e1q, e2q, -⟩ := hq
  obtain rfl := sI e0q
  obtain rfl := sI e1q
  obtain rfl := sI e2q
  conv => arg 2; whnf
  have a0 := cellv hs.a 0 rfl
  have a1 := cellv hs.a 1 rfl
  have a2 := cellv hs.a 2 rfl
  have a3 := cellv hs.a 3 rfl
  have al := lt_heap hs.a
  have HS := Lib.hid hs
  clear hs
  have HN := Lib.hid hN
  clear hN
  go_wp2_with fail
  exact HN.out _ (id ⟨rfl, rfl, rfl, rfl, rfl, rfl, rfl, rfl, trivial⟩)
noncomputable def c_cs_r10 : Code := sub [1, 1, 1, 0, 1, 0, 0, 0] (Tryd.f41.body.getD .skip)
set_option maxRecDepth 1000000 in
set_option maxHeartbeats 16000000 in
theorem cs_r10_wp {Q : Exit → Act → World → Prop} {B : Option Addr} {n2 c2 i : Nat} {D : Option Addr} {m e : Nat} {v : Value} {wo w : World} (hN : ∀ a', Frm 56 [(1, .slice D m e), (2, v), (3, .pointer (some ⟨wo.heap.size, 0, none⟩)), (41, .slice B n2 c2), (42, .int .i64 (n2 : Nat)), (43, .int .i64 (i : Nat)), (44, .bool (decide (i < n2)))] a' → Q .normal a' w) : ∀ ac, Frm 56 [(1, .slice D m e), (2, v), (3, .pointer (some ⟨wo.heap.size, 0, none⟩)), (41, .slice B n2 c2), (42, .int .i64 (n2 : Nat)), (43, .int .i64 (i : Nat))] ac → Code.wp Tryd.prog c_cs_r10 Q ac w := by
  refine frm_open ?_
  refine frame_cs ?_
  intros
  rename_i hq
  obtain ⟨-, -, e0q, e1q, e2q, e3q, e4q, e5q, -⟩ := hq
  obtain rfl := sI e0q
  obtain rfl := sI e1q
  obtain rfl := sI e2q
  obtain rfl := sI e3q
  obtain rfl := sI e4q
  obtain rfl := sI e5q
  conv => arg 2; whnf
  by_cases h : i < n2
  · have t1 : decide ((i : Int) < (n2 : Int)) = true := by first | exact decide_eq_true (by omega) | exact beq_iff_eq.2 (by omega) | exact bne_iff_ne.2 (by omega)
    have t2 : (decide (i < n2)) = true := decide_eq_true h
    rw [t2] at hN
    clear h
    have HN := Lib.hid hN
    clear hN
    go_wp2_with fail
    exact HN.out _ (id ⟨rfl, rfl, rfl, rfl, rfl, rfl, rfl, rfl, rfl, trivial⟩)
  · have t1 : decide ((i : Int) < (n2 : Int)) = false := by first | exact decide_eq_false (by omega) | exact beq_eq_false_iff_ne.2 (by omega) | exact bne_eq_false_iff_eq.2 (by omega)
    have t2 : (decide (i < n2)) = false := decide_eq_false h
    rw [t2] at hN
    clear h
    have HN := Lib.hid hN
    clear hN
    go_wp2_with fail
    exact HN.out _ (id ⟨rfl, rfl, rfl, rfl, rfl, rfl, rfl, rfl, rfl, trivial⟩)
noncomputable def c_cs_r11 : Code := sub [1, 1, 1, 0, 1, 0, 0, 1, 1, 0, 0, 0] (Tryd.f41.body.getD .skip)
set_option maxRecDepth 1000000 in
set_option maxHeartbeats 16000000 in
theorem cs_r11_wp {Q : Exit → Act → World → Prop} {B : Option Addr} {n2 c2 i : Nat} {D : Option Addr} {m e : Nat} {v : Value} {wo w : World} (hN : ∀ a', Frm 56 [(1, .slice D m e), (2, v), (3, .pointer (some ⟨wo.heap.size, 0, none⟩)), (41, .slice B n2 c2), (42, .int .i64 (n2 : Nat)), (43, .int .i64 (i : Nat)), (9, .int .i64 (i : Nat))] a' → Q .normal a' w) : ∀ ac, Frm 56 [(1, .slice D m e), (2, v), (3, .pointer (some ⟨wo.heap.size, 0, none⟩)), (41, .slice B n2 c2), (42, .int .i64 (n2 : Nat)), (43, .int .i64 (i : Nat))] ac → Code.wp Tryd.prog c_cs_r11 Q ac w := by
  refine frm_open ?_
  refine frame_cs ?_
  intros
  rename_i hq
  obtain ⟨-, -, e0q, e1q, e2q, e3q, e4q, e5q, -⟩ := hq
  obtain rfl := sI e0q
  obtain rfl := sI e1q
  obtain rfl := sI e2q
  obtain rfl := sI e3q
  obtain rfl := sI e4q
  obtain rfl := sI e5q
  conv => arg 2; whnf
  have HN := Lib.hid hN
  clear hN
  go_wp2_with fail
  exact HN.out _ (id ⟨rfl, rfl, rfl, rfl, rfl, rfl, rfl, rfl, rfl, trivial⟩)
noncomputable def c_cs_r12 : Code := sub [1, 1, 1, 0, 1, 0, 0, 1, 1, 0, 0, 1] (Tryd.f41.body.getD .skip)
set_option maxRecDepth 1000000 in
set_option maxHeartbeats 16000000 in
theorem cs_r12_wp {Q : Exit → Act → World → Prop} {PP : Value → World → Prop} {b o i : Nat} {ke : Int} {ne : ByteArray} {Ae Be : Option Addr} {n3 c3 n4 c4 : Nat} {D : Option Addr} {m e : Nat} {v : Value} {wo w : World} {kd : Int} {nm : ByteArray} {A : Option Addr} {n1 c1 n2 c2 : Nat} (hi : i < n2) (ha : w.heap[wo.heap.size]? = some (.cells #[.int .i64 kd, .string nm, .slice A n1 c1, .slice (some ⟨b, o, none⟩) n2 c2] 25 (0, 0))) (e0 : w.cell? ⟨b, o + i * 4, none⟩ = some (.int .i64 ke)) (e1 : w.cell? ⟨b, o + i * 4 + 1, none⟩ = some (.string ne)) (e2 : w.cell? ⟨b, o + i * 4 + 2, none⟩ = some (.slice Ae n3 c3)) (e3 : w.cell? ⟨b, o + i * 4 + 3, none⟩ = some (.slice Be n4 c4)) (hbl : b < w.heap.size) (hc : Calls Tryd.prog 41 #[.agg #[.int .i64 ke, .string ne, .slice Ae n3 c3, .slice Be n4 c4], .slice D m e, v] w fun e w' => ∃ v', e = .returned v' ∧ PP v' w') (hN : ∀ v' a' w', Frm 56 [(1, .slice D m e), (2, v'), (3, .pointer (some ⟨wo.heap.size, 0, none⟩)), (41, .slice (some ⟨b, o, none⟩) n2 c2), (42, .int .i64 (n2 : Nat)), (43, .int .i64 (i : Nat))] a' → PP v' w' → Q .normal a' w') : ∀ ac, Frm 56 [(1, .slice D m e), (2, v), (3, .pointer (some ⟨wo.heap.size, 0, none⟩)), (41, .slice (some ⟨b, o, none⟩) n2 c2), (42, .int .i64 (n2 : Nat)), (43, .int .i64 (i : Nat)), (9, .int .i64 (i : Nat))] ac → Code.wp Tryd.prog c_cs_r12 Q ac w := by
  refine frm_open ?_
  refine frame_cs ?_
  intros
  rename_i hq
  obtain ⟨-, -, e0q, e1q, e2q, e3q, e4q, e5q, e6q, -⟩ := hq
  obtain rfl := sI e0q
  obtain rfl := sI e1q
  obtain rfl := sI e2q
  obtain rfl := sI e3q
  obtain rfl := sI e4q
  obtain rfl := sI e5q
  obtain rfl := sI e6q
  conv => arg 2; whnf
  have q0 : (0 : Int) ≤ (i : Int) := by omega
  have q1 : (i : Int) < (n2 : Int) := by omega
  have a3 := cellv ha 3 rfl
  have al := lt_heap ha
  clear ha
  have HN := Lib.hid hN
  have HC := Lib.hid hc
  clear hN hc
  go_wp2_with fail
  (with_reducible refine HC.out.mono ?_)
  rintro e w1 ⟨v1, rfl, hp⟩
  have HP := Lib.hid hp
  clear hp
  go_wp2_with fail
  exact HN.out _ _ _ (id ⟨rfl, rfl, rfl, rfl, rfl, rfl, rfl, rfl, trivial⟩) HP.out
noncomputable def c_cs_r13 : Code := sub [1, 1, 1, 0, 1, 0, 0, 1, 1, 1] (Tryd.f41.body.getD .skip)
set_option maxRecDepth 1000000 in
set_option maxHeartbeats 16000000 in
theorem cs_r13_wp {Q : Exit → Act → World → Prop} {B : Option Addr} {n2 c2 i : Nat} {D : Option Addr} {m e : Nat} {v : Value} {wo w : World} (hi : i < n2) (hlim : n2 ≤ maxLen) (hN : ∀ a', Frm 56 [(1, .slice D m e), (2, v), (3, .pointer (some ⟨wo.heap.size, 0, none⟩)), (41, .slice B n2 c2), (42, .int .i64 (n2 : Nat)), (43, .int .i64 (i + 1 : Nat))] a' → Q .normal a' w) : ∀ ac, Frm 56 [(1, .slice D m e), (2, v), (3, .pointer (some ⟨wo.heap.size, 0, none⟩)), (41, .slice B n2 c2), (42, .int .i64 (n2 : Nat)), (43, .int .i64 (i : Nat))] ac → Code.wp Tryd.prog c_cs_r13 Q ac w := by
  refine frm_open ?_
  refine frame_cs ?_
  intros
  rename_i hq
  obtain ⟨-, -, e0q, e1q, e2q, e3q, e4q, e5q, -⟩ := hq
  obtain rfl := sI e0q
  obtain rfl := sI e1q
  obtain rfl := sI e2q
  obtain rfl := sI e3q
  obtain rfl := sI e4q
  obtain rfl := sI e5q
  conv => arg 2; whnf
  have hi4 : (i : Int) ≤ 9223372036854775806 := by unfold maxLen at hlim; omega
  have HN := Lib.hid hN
  clear hN
  go_wp2_with fail
  exact HN.out _ (id ⟨rfl, rfl, rfl, rfl, rfl, rfl, rfl, rfl, trivial⟩)
noncomputable def c_cs_r14 : Code := sub [1, 1, 1, 1, 0] (Tryd.f41.body.getD .skip)
set_option maxRecDepth 1000000 in
set_option maxHeartbeats 16000000 in
theorem cs_r14_wp {Q : Exit → Act → World → Prop} {D : Option Addr} {m e : Nat} {v : Value} {wo w : World} (hN : ∀ a', Frm 56 [(6, v)] a' → Q .normal a' w) : ∀ ac, Frm 56 [(1, .slice D m e), (2, v), (3, .pointer (some ⟨wo.heap.size, 0, none⟩))] ac → Code.wp Tryd.prog c_cs_r14 Q ac w := by
  refine frm_open ?_
  refine frame_cs ?_
  intros
  rename_i hq
  obtain ⟨-, -, e0q, e1q, e2q, -⟩ := hq
  obtain rfl := sI e0q
  obtain rfl := sI e1q
  obtain rfl := sI e2q
  conv => arg 2; whnf
  have HN := Lib.hid hN
  clear hN
  go_wp2_with fail
  exact HN.out _ (id ⟨rfl, rfl, rfl, trivial⟩)
set_option maxRecDepth 1000000 in
theorem cs_ret_wp {R : Ending → World → Prop} {w' : World} {vv : Value} (hR : R (.returned (vv)) w') : ∀ ac, Frm 56 [(6, vv)] ac → bodyPost Tryd.prog Tryd.f41 R .ret ac w' := by
  refine frm_open ?_
  refine frame_cs ?_
  intros
  rename_i hq
  obtain ⟨-, -, e0q, -⟩ := hq
  obtain rfl := sI e0q
  refine bodyPost_ret (v := vv) (by simp [results, Tryd.results41, go_sem]) rfl ?_
  exact hR
/-- A bound list, as append reads it, wherever memory has grown. -/
theorem news_below {w : World} {S : Nat → Prop} {D : Option Addr} {m e : Nat} {bd : List ByteArray} (h : strRep.Sl w S (.slice D m e) bd) (hS : ∀ k, S k → k < w.heap.size) :
    (bd.map Value.string).length = m * 1 ∧ (∀ W : World, Below w.heap.size w W → ((m = 0 ∧ ∃ c, Value.slice D m e = .slice none 0 c) ∨ ∃ ad c, Value.slice D m e = .slice (some ad) m c ∧ ∀ j u, (bd.map Value.string)[j]? = some u → W.cell? (ad.add j) = some u)) ∧ ∀ u ∈ bd.map Value.string, u.oneCell' = true := by
  obtain ⟨D', m', e', e9, hlen, _⟩ := id h
  injection e9 with e1 e2 e3
  subst e1 e2 e3
  refine ⟨by simp [hlen], fun W hb => ?_, fun u hu => ?_⟩
  · cases D with
    | none =>
      left
      cases bd with
      | nil => obtain rfl : m = 0 := hlen.symm; exact ⟨rfl, _, rfl⟩
      | cons y r => obtain ⟨_, _, _, e9, _⟩ := Rep.Sl.at_ h (k := 0) rfl; cases e9
    | some ad =>
      right
      refine ⟨ad, e, rfl, fun j u hu => ?_⟩
      have hj : j < bd.length := by
        have := (List.getElem?_eq_some_iff.1 hu).1
        simpa using this
      obtain ⟨b, o, cs, e', hSb, ⟨rfl, _⟩, hc⟩ := Rep.Sl.at_ h (List.getElem?_eq_getElem hj)
      injection e' with e'
      subst e'
      rw [addr_none]
      rw [List.getElem?_map, List.getElem?_eq_getElem hj] at hu
      injection hu with hu
      rw [← hu]
      refine (cell_keep (hb.block b (hS b hSb)) _).trans ?_
      have := hc 0 _ rfl
      simpa [strRep] using this
  · rw [List.mem_map] at hu
    obtain ⟨s, _, rfl⟩ := hu
    rfl
theorem grown_lo {w w' : World} {v : Value} {B : Nat} (h : w.grownBy w' v.ownBlock) (hv : ∀ k, v.ownBlock = some k → B ≤ k) (hB : B ≤ w.heap.size) : Below B w w' :=
  ⟨h.os, h.tape, h.output, h.size, fun k hk => h.block k (by omega) (fun e => by have := hv k e.symm; omega)⟩
noncomputable def c_cs_r8 : Code := sub [1, 1, 0, 1, 0] (Tryd.f41.body.getD .skip)
set_option maxRecDepth 1000000 in
set_option maxHeartbeats 16000000 in
theorem cs_r8_wp {K : Act → World → Prop} {S : Nat → Prop} {bd : List ByteArray} {B0 : Nat} {l : List ByteArray} {D : Option Addr} {m e : Nat} {v : Value} {wo w : World} {kd : Int} {nm : ByteArray} {A B : Option Addr} {n1 c1 n2 c2 : Nat} (hm : m ≤ 1000000) (hbd : strRep.Sl w S (.slice D m e) bd) (hS : ∀ k, S k → k < w.heap.size) (hs : CT B0 wo w v l kd nm A n1 c1 B n2 c2) (hN : ∀ u' a' w', Frm 56 [(1, u'), (2, v), (3, .pointer (some ⟨wo.heap.size, 0, none⟩))] a' → w'.ownsRow w.heap.size 9 1 u' (m + 1) (bd.map .string ++ [.string nm]) → Below w.heap.size w w' → K a' w') : ∀ ac, Frm 56 [(1, .slice D m e), (2, v), (3, .pointer (some ⟨wo.heap.size, 0, none⟩))] ac → Code.wp Tryd.prog c_cs_r8 (Exit.then K (fun _ _ _ => False)) ac w := by
  refine frm_open ?_
  refine frame_cs ?_
  intros
  rename_i hq
  obtain ⟨-, -, e0q, e1q, e2q, -⟩ := hq
  obtain rfl := sI e0q
  obtain rfl := sI e1q
  obtain rfl := sI e2q
  conv => arg 2; whnf
  obtain ⟨ts, hts, ht0, ht1, ht2⟩ := info_parts infoStr
  obtain ⟨hlen, hnews, hone⟩ := news_below hbd hS
  have a1 := cellv hs.a 1 rfl
  have al := lt_heap hs.a
  have HLEN := Lib.hid hlen
  have HNEWS := Lib.hid hnews
  have HONE := Lib.hid hone
  clear hlen hnews hone hbd hS hs
  go_region_law (first
    | (refine step_append_all _ (by rfl) (.tmp 33) (.tmp 34) 22 (by rfl) w.heap.size 9 ts (.string ⟨#[]⟩) 1 16 Tryd.underlying22 hts ht0 ht1 ht2 rfl (by decide) (.slice (some ⟨w.heap.size, 0, none⟩) 0 0) 0 [] (by rfl) (ownsRow_made (by first | exact heap_alloc_new _ _ | exact heap_drew (heap_alloc_new _ _) | exact heap_at (by simp) | exact heap_old (by simp) (heap_at (by simp)) | exact heap_drew (heap_at (by simp)) | exact heap_drew (heap_old (by simp) (heap_at (by simp))) | exact heap_drew (heap_old (by simp) (heap_drew (heap_at (by simp)))) | exact heap_old (by simp) (heap_drew (heap_at (by simp))) | (simp [World.alloc, World.drew]; done)) (by omega)) (.slice D m e) m (bd.map .string) (by rfl) HLEN.out (HNEWS.out _ (by go_grown)) HONE.out (by unfold maxLen; omega) (by omega) (by first | omega | (simp; done) | (simp; omega)) _ rfl m (by omega) ?_; intro A9 c9 w2 hown2 hgrow hat; have hb2 : Below w.heap.size w w2 := (show Below w.heap.size w _ by go_grown).trans (grown_lo hgrow (by simp [Value.ownBlock]) (by first | omega | (simp; done) | (simp; omega))); have zl2 := hb2.size; have b1 := (cell_keep (hb2.block _ al) 1).trans a1; have KB := Lib.hid hgrow; have HOWN2 := Lib.hid hown2; have HB2 := Lib.hid hb2; have HAT := Lib.hid hat; clear hown2 hb2 hgrow hat)
    | (refine step_append_all _ (by rfl) (.tmp 33) (.tmp 34) 22 (by rfl) w.heap.size 9 ts (.string ⟨#[]⟩) 1 16 Tryd.underlying22 hts ht0 ht1 ht2 rfl (by decide) (.slice (some ⟨w.heap.size + 1, 0, none⟩) 0 0) 0 [] (by rfl) (ownsRow_made (by first | exact heap_alloc_new _ _ | exact heap_drew (heap_alloc_new _ _) | exact heap_at (by simp) | exact heap_old (by simp) (heap_at (by simp)) | exact heap_drew (heap_at (by simp)) | exact heap_drew (heap_old (by simp) (heap_at (by simp))) | exact heap_drew (heap_old (by simp) (heap_drew (heap_at (by simp)))) | exact heap_old (by simp) (heap_drew (heap_at (by simp))) | (simp [World.alloc, World.drew]; done)) (by omega)) (.slice D m e) m (bd.map .string) (by rfl) HLEN.out (HNEWS.out _ (by go_grown)) HONE.out (by unfold maxLen; omega) (by omega) (by first | omega | (simp; done) | (simp; omega)) _ rfl m (by omega) ?_; intro A9 c9 w2 hown2 hgrow hat; have hb2 : Below w.heap.size w w2 := (show Below w.heap.size w _ by go_grown).trans (grown_lo hgrow (by simp [Value.ownBlock]) (by first | omega | (simp; done) | (simp; omega))); have zl2 := hb2.size; have b1 := (cell_keep (hb2.block _ al) 1).trans a1; have KB := Lib.hid hgrow; have HOWN2 := Lib.hid hown2; have HB2 := Lib.hid hb2; have HAT := Lib.hid hat; clear hown2 hb2 hgrow hat)
    | (refine step_append_all _ (by rfl) (.tmp 35) (.tmp 38) 22 (by rfl) w.heap.size 9 ts (.string ⟨#[]⟩) 1 16 Tryd.underlying22 hts ht0 ht1 ht2 rfl (by decide) (.slice A9 m c9) m ([] ++ bd.map .string) (by rfl) (HOWN2.out.alloc _).drew (.slice (some ⟨w2.heap.size, 0, none⟩) 1 1) 1 [.string nm] (by rfl) rfl (Or.inr ⟨_, _, rfl, World.news_of_block (cs := #[.string nm]) (t := 9) (fr := (0, 0)) (by first | exact heap_drew (heap_alloc_new w2 _) | exact heap_alloc_new w2 _)⟩) (by simp [Value.oneCell']) (by unfold maxLen; omega) (by omega) (by first | omega | (simp; done) | (simp; omega)) _ rfl (m + 1) (by omega) ?_; intro A8 c8 w3 hown3 hgrow3 hat3; have hb3 : Below w.heap.size w w3 := HB2.out.trans ((show Below w.heap.size w2 _ by go_grown).trans (grown_lo hgrow3 (fun k e => (HOWN2.out.lt k e).1) (by first | omega | (simp; done) | (simp; omega)))); have HOWN3 := Lib.hid hown3; have HB3 := Lib.hid hb3; clear hown3 hb3 hgrow3 hat3)
    | (refine step_append_all _ (by rfl) (.tmp 35) (.tmp 38) 22 (by rfl) w.heap.size 9 ts (.string ⟨#[]⟩) 1 16 Tryd.underlying22 hts ht0 ht1 ht2 rfl (by decide) (.slice A9 m c9) m ([] ++ bd.map .string) (by rfl) (HOWN2.out.alloc _) (.slice (some ⟨w2.heap.size, 0, none⟩) 1 1) 1 [.string nm] (by rfl) rfl (Or.inr ⟨_, _, rfl, World.news_of_block (cs := #[.string nm]) (t := 9) (fr := (0, 0)) (by first | exact heap_drew (heap_alloc_new w2 _) | exact heap_alloc_new w2 _)⟩) (by simp [Value.oneCell']) (by unfold maxLen; omega) (by omega) (by first | omega | (simp; done) | (simp; omega)) _ rfl (m + 1) (by omega) ?_; intro A8 c8 w3 hown3 hgrow3 hat3; have hb3 : Below w.heap.size w w3 := HB2.out.trans ((show Below w.heap.size w2 _ by go_grown).trans (grown_lo hgrow3 (fun k e => (HOWN2.out.lt k e).1) (by first | omega | (simp; done) | (simp; omega)))); have HOWN3 := Lib.hid hown3; have HB3 := Lib.hid hb3; clear hown3 hb3 hgrow3 hat3)
    | (refine step_append_all _ (by rfl) (.tmp 35) (.tmp 38) 22 (by rfl) w.heap.size 9 ts (.string ⟨#[]⟩) 1 16 Tryd.underlying22 hts ht0 ht1 ht2 rfl (by decide) (.slice A9 m c9) m ([] ++ bd.map .string) (by rfl) HOWN2.out (.slice (some ⟨w.heap.size, 0, none⟩) 1 1) 1 [.string nm] (by rfl) rfl (Or.inr ⟨_, _, rfl, World.news_of_block (cs := #[.string nm]) (t := 9) (fr := (0, 0)) ((KB.out.block w.heap.size (by first | omega | (simp; done) | (simp; omega)) (by simp [Value.ownBlock])).trans (by first | exact heap_alloc_new _ _ | exact heap_drew (heap_alloc_new _ _) | exact heap_at (by simp) | exact heap_old (by simp) (heap_at (by simp)) | exact heap_drew (heap_at (by simp)) | exact heap_drew (heap_old (by simp) (heap_at (by simp))) | exact heap_drew (heap_old (by simp) (heap_drew (heap_at (by simp)))) | exact heap_old (by simp) (heap_drew (heap_at (by simp))) | (simp [World.alloc, World.drew]; done)))⟩) (by simp [Value.oneCell']) (by unfold maxLen; omega) (by omega) (by first | omega | (simp; done) | (simp; omega)) _ rfl (m + 1) (by omega) ?_; intro A8 c8 w3 hown3 hgrow3 hat3; have hb3 : Below w.heap.size w w3 := HB2.out.trans (grown_lo hgrow3 (fun k e => (HOWN2.out.lt k e).1) (by first | omega | (simp; done) | (simp; omega))); have HOWN3 := Lib.hid hown3; have HB3 := Lib.hid hb3; clear hown3 hb3 hgrow3 hat3)
    | (refine step_append_all _ (by rfl) (.tmp 35) (.tmp 38) 22 (by rfl) w.heap.size 9 ts (.string ⟨#[]⟩) 1 16 Tryd.underlying22 hts ht0 ht1 ht2 rfl (by decide) (.slice A9 m c9) m ([] ++ bd.map .string) (by rfl) HOWN2.out (.slice (some ⟨w.heap.size + 1, 0, none⟩) 1 1) 1 [.string nm] (by rfl) rfl (Or.inr ⟨_, _, rfl, World.news_of_block (cs := #[.string nm]) (t := 9) (fr := (0, 0)) ((KB.out.block (w.heap.size + 1) (by first | omega | (simp; done) | (simp; omega)) (by simp [Value.ownBlock])).trans (by first | exact heap_alloc_new _ _ | exact heap_drew (heap_alloc_new _ _) | exact heap_at (by simp) | exact heap_old (by simp) (heap_at (by simp)) | exact heap_drew (heap_at (by simp)) | exact heap_drew (heap_old (by simp) (heap_at (by simp))) | exact heap_drew (heap_old (by simp) (heap_drew (heap_at (by simp)))) | exact heap_old (by simp) (heap_drew (heap_at (by simp))) | (simp [World.alloc, World.drew]; done)))⟩) (by simp [Value.oneCell']) (by unfold maxLen; omega) (by omega) (by first | omega | (simp; done) | (simp; omega)) _ rfl (m + 1) (by omega) ?_; intro A8 c8 w3 hown3 hgrow3 hat3; have hb3 : Below w.heap.size w w3 := HB2.out.trans (grown_lo hgrow3 (fun k e => (HOWN2.out.lt k e).1) (by first | omega | (simp; done) | (simp; omega))); have HOWN3 := Lib.hid hown3; have HB3 := Lib.hid hb3; clear hown3 hb3 hgrow3 hat3)
    | (refine step_append_all _ (by rfl) (.tmp 35) (.tmp 38) 22 (by rfl) w.heap.size 9 ts (.string ⟨#[]⟩) 1 16 Tryd.underlying22 hts ht0 ht1 ht2 rfl (by decide) (.slice A9 m c9) m ([] ++ bd.map .string) (by rfl) HOWN2.out.drew (.slice (some ⟨w.heap.size, 0, none⟩) 1 1) 1 [.string nm] (by rfl) rfl (Or.inr ⟨_, _, rfl, World.news_of_block (cs := #[.string nm]) (t := 9) (fr := (0, 0)) ((KB.out.block w.heap.size (by first | omega | (simp; done) | (simp; omega)) (by simp [Value.ownBlock])).trans (by first | exact heap_alloc_new _ _ | exact heap_drew (heap_alloc_new _ _) | exact heap_at (by simp) | exact heap_old (by simp) (heap_at (by simp)) | exact heap_drew (heap_at (by simp)) | exact heap_drew (heap_old (by simp) (heap_at (by simp))) | exact heap_drew (heap_old (by simp) (heap_drew (heap_at (by simp)))) | exact heap_old (by simp) (heap_drew (heap_at (by simp))) | (simp [World.alloc, World.drew]; done)))⟩) (by simp [Value.oneCell']) (by unfold maxLen; omega) (by omega) (by first | omega | (simp; done) | (simp; omega)) _ rfl (m + 1) (by omega) ?_; intro A8 c8 w3 hown3 hgrow3 hat3; have hb3 : Below w.heap.size w w3 := HB2.out.trans (grown_lo hgrow3 (fun k e => (HOWN2.out.lt k e).1) (by first | omega | (simp; done) | (simp; omega))); have HOWN3 := Lib.hid hown3; have HB3 := Lib.hid hb3; clear hown3 hb3 hgrow3 hat3)
    | (refine step_append_all _ (by rfl) (.tmp 35) (.tmp 38) 22 (by rfl) w.heap.size 9 ts (.string ⟨#[]⟩) 1 16 Tryd.underlying22 hts ht0 ht1 ht2 rfl (by decide) (.slice A9 m c9) m ([] ++ bd.map .string) (by rfl) HOWN2.out.drew (.slice (some ⟨w.heap.size + 1, 0, none⟩) 1 1) 1 [.string nm] (by rfl) rfl (Or.inr ⟨_, _, rfl, World.news_of_block (cs := #[.string nm]) (t := 9) (fr := (0, 0)) ((KB.out.block (w.heap.size + 1) (by first | omega | (simp; done) | (simp; omega)) (by simp [Value.ownBlock])).trans (by first | exact heap_alloc_new _ _ | exact heap_drew (heap_alloc_new _ _) | exact heap_at (by simp) | exact heap_old (by simp) (heap_at (by simp)) | exact heap_drew (heap_at (by simp)) | exact heap_drew (heap_old (by simp) (heap_at (by simp))) | exact heap_drew (heap_old (by simp) (heap_drew (heap_at (by simp)))) | exact heap_old (by simp) (heap_drew (heap_at (by simp))) | (simp [World.alloc, World.drew]; done)))⟩) (by simp [Value.oneCell']) (by unfold maxLen; omega) (by omega) (by first | omega | (simp; done) | (simp; omega)) _ rfl (m + 1) (by omega) ?_; intro A8 c8 w3 hown3 hgrow3 hat3; have hb3 : Below w.heap.size w w3 := HB2.out.trans (grown_lo hgrow3 (fun k e => (HOWN2.out.lt k e).1) (by first | omega | (simp; done) | (simp; omega))); have HOWN3 := Lib.hid hown3; have HB3 := Lib.hid hb3; clear hown3 hb3 hgrow3 hat3))
  all_goals go_wp2_with fail
  all_goals exact hN _ _ _ (id ⟨rfl, rfl, rfl, rfl, rfl, trivial⟩) (by simpa using HOWN3.out) HB3.out

end Go.Proofs.YtdofemkfmkopcaaDoor
