/-
  Canonical, Instance: their regions, by parts.
-/
import Derived.Test.YtdofemkfmkopcaaDoorPkA
import Derived.Test.YtdofemkfmkopcaaDoorCsB
import Derived.Test.YtdofemkfmkopcaaDoorCkC
import Derived.Test.YtdofemkfmkopcaaDoorName
namespace Go.Proofs.YtdofemkfmkopcaaDoor

section
open Go Go.RowKit
set_option linter.unusedSimpArgs false
set_option linter.unusedVariables false

set_option maxRecDepth 1000000 in
theorem frame_wi {P : Act → Prop} (h : ∀ x0 x1 x2 x3 x4 x5 x6 x7 x8 x9 x10 x11 x12 x13 x14 x15 x16 x17 x18 x19 x20 x21 x22 x23 x24 x25 x26 x27 x28 x29 x30 x31 x32 x33 x34 x35 x36 x37 x38 x39 x40 x41 x42 x43 x44 x45 x46 x47 x48 x49 x50 x51 x52 x53 x54 x55 x56 x57 x58 x59 x60 x61 : Value, P ⟨(x0 :: x1 :: x2 :: x3 :: x4 :: x5 :: x6 :: x7 :: x8 :: x9 :: x10 :: x11 :: x12 :: x13 :: x14 :: x15 :: x16 :: x17 :: x18 :: x19 :: x20 :: x21 :: x22 :: x23 :: x24 :: x25 :: x26 :: x27 :: x28 :: x29 :: x30 :: x31 :: x32 :: x33 :: x34 :: x35 :: x36 :: x37 :: x38 :: x39 :: x40 :: x41 :: x42 :: x43 :: x44 :: x45 :: x46 :: x47 :: x48 :: x49 :: x50 :: x51 :: x52 :: x53 :: x54 :: x55 :: x56 :: x57 :: x58 :: x59 :: x60 :: x61 :: []).toArray, []⟩) : ∀ a : Act, a.tmps.toList.length = 62 → a.defers = [] → P a := by
  rintro ⟨⟨l⟩, d⟩ hs hd
  simp only at hd
  subst hd
  revert l
  show ∀ l : List Value, l.length = 62 → P ⟨⟨l⟩, []⟩
  refine openS (n := 61) (fun x0 => ?_)
  refine openS (n := 60) (fun x1 => ?_)
  refine openS (n := 59) (fun x2 => ?_)
  refine openS (n := 58) (fun x3 => ?_)
  refine openS (n := 57) (fun x4 => ?_)
  refine openS (n := 56) (fun x5 => ?_)
  refine openS (n := 55) (fun x6 => ?_)
  refine openS (n := 54) (fun x7 => ?_)
  refine openS (n := 53) (fun x8 => ?_)
  refine openS (n := 52) (fun x9 => ?_)
  refine openS (n := 51) (fun x10 => ?_)
  refine openS (n := 50) (fun x11 => ?_)
  refine openS (n := 49) (fun x12 => ?_)
  refine openS (n := 48) (fun x13 => ?_)
  refine openS (n := 47) (fun x14 => ?_)
  refine openS (n := 46) (fun x15 => ?_)
  refine openS (n := 45) (fun x16 => ?_)
  refine openS (n := 44) (fun x17 => ?_)
  refine openS (n := 43) (fun x18 => ?_)
  refine openS (n := 42) (fun x19 => ?_)
  refine openS (n := 41) (fun x20 => ?_)
  refine openS (n := 40) (fun x21 => ?_)
  refine openS (n := 39) (fun x22 => ?_)
  refine openS (n := 38) (fun x23 => ?_)
  refine openS (n := 37) (fun x24 => ?_)
  refine openS (n := 36) (fun x25 => ?_)
  refine openS (n := 35) (fun x26 => ?_)
  refine openS (n := 34) (fun x27 => ?_)
  refine openS (n := 33) (fun x28 => ?_)
  refine openS (n := 32) (fun x29 => ?_)
  refine openS (n := 31) (fun x30 => ?_)
  refine openS (n := 30) (fun x31 => ?_)
  refine openS (n := 29) (fun x32 => ?_)
  refine openS (n := 28) (fun x33 => ?_)
  refine openS (n := 27) (fun x34 => ?_)
  refine openS (n := 26) (fun x35 => ?_)
  refine openS (n := 25) (fun x36 => ?_)
  refine openS (n := 24) (fun x37 => ?_)
  refine openS (n := 23) (fun x38 => ?_)
  refine openS (n := 22) (fun x39 => ?_)
  refine openS (n := 21) (fun x40 => ?_)
  refine openS (n := 20) (fun x41 => ?_)
  refine openS (n := 19) (fun x42 => ?_)
  refine openS (n := 18) (fun x43 => ?_)
  refine openS (n := 17) (fun x44 => ?_)
  refine openS (n := 16) (fun x45 => ?_)
  refine openS (n := 15) (fun x46 => ?_)
  refine openS (n := 14) (fun x47 => ?_)
  refine openS (n := 13) (fun x48 => ?_)
  refine openS (n := 12) (fun x49 => ?_)
  refine openS (n := 11) (fun x50 => ?_)
  refine openS (n := 10) (fun x51 => ?_)
  refine openS (n := 9) (fun x52 => ?_)
  refine openS (n := 8) (fun x53 => ?_)
  refine openS (n := 7) (fun x54 => ?_)
  refine openS (n := 6) (fun x55 => ?_)
  refine openS (n := 5) (fun x56 => ?_)
  refine openS (n := 4) (fun x57 => ?_)
  refine openS (n := 3) (fun x58 => ?_)
  refine openS (n := 2) (fun x59 => ?_)
  refine openS (n := 1) (fun x60 => ?_)
  refine openS (n := 0) (fun x61 => ?_)
  refine open0 ?_
  exact h x0 x1 x2 x3 x4 x5 x6 x7 x8 x9 x10 x11 x12 x13 x14 x15 x16 x17 x18 x19 x20 x21 x22 x23 x24 x25 x26 x27 x28 x29 x30 x31 x32 x33 x34 x35 x36 x37 x38 x39 x40 x41 x42 x43 x44 x45 x46 x47 x48 x49 x50 x51 x52 x53 x54 x55 x56 x57 x58 x59 x60 x61
/-- A row that grows: what stays of memory. -/
structure Gro (w w' : World) (v v' : Value) : Prop where
  os : w'.os = w.os
  tape : w'.tape = w.tape
  output : w'.output = w.output
  size : w.heap.size ≤ w'.heap.size
  block : ∀ k, k < w.heap.size → v.ownBlock ≠ some k → w'.heap[k]? = w.heap[k]?
  at_ : ∀ k, v'.ownBlock = some k → v.ownBlock = some k ∨ w.heap.size ≤ k
theorem Gro.of {w w2 w6 : World} {o : Obj} {v : Value} {gg n cap : Nat} (hb : Below w.heap.size w w2) (hg : (w2.alloc o).grownBy w6 v.ownBlock) (hat : v.ownBlock = some gg ∨ gg = w2.heap.size + 1) : Gro w w6 v (.slice (some ⟨gg, 0, none⟩) n cap) := by
  have h1 := hb.size
  have h2 := hg.size
  simp at h2
  refine ⟨hg.os.trans hb.os, hg.tape.trans hb.tape, hg.output.trans hb.output, by omega, fun k hk hv => (hg.block k (by simp; omega) (fun e => hv e.symm)).trans ((heap_old (by omega) rfl).trans (hb.block k hk)), fun k e => ?_⟩
  have e : gg = k := Option.some.inj e
  subst e
  rcases hat with e | e
  · exact Or.inl e
  · exact Or.inr (by omega)
noncomputable def c_wi_r0 : Code := sub [0] (Tryd.f50.body.getD .skip)
set_option maxRecDepth 1000000 in
set_option maxHeartbeats 16000000 in
theorem wi_r0_wp {Q : Exit → Act → World → Prop} {Df Dt : Option Addr} {mf ef mt et : Nat} {wo : World} {kd : Int} {nm : ByteArray} {A B : Option Addr} {n1 c1 n2 c2 : Nat} (hN : ∀ a', Frm 62 [(1, .slice Df mf ef), (2, .slice Dt mt et), (3, .pointer (some ⟨wo.heap.size, 0, none⟩)), (6, .pointer (some ⟨wo.heap.size + 1, 0, none⟩))] a' → Q .normal a' ((wo.alloc (.cells #[.int .i64 kd, .string nm, .slice A n1 c1, .slice B n2 c2] 25)).alloc (.cells #[.int .i64 0, .string ⟨#[]⟩, .slice none 0 0, .slice none 0 0] 25))) : ∀ ac, Frm 62 [(0, .agg #[.int .i64 kd, .string nm, .slice A n1 c1, .slice B n2 c2]), (1, .slice Df mf ef), (2, .slice Dt mt et)] ac → Code.wp Tryd.prog c_wi_r0 Q ac wo := by
  refine frm_open ?_
  refine frame_wi ?_
  intros
  rename_i hq
  obtain ⟨-, -, e0q, e1q, e2q, -⟩ := hq
  obtain rfl := sI e0q
  obtain rfl := sI e1q
  obtain rfl := sI e2q
  conv => arg 2; whnf
  have HN := Lib.hid hN
  clear hN
  go_wp2_with fail
  exact HN.out _ (id ⟨rfl, rfl, rfl, rfl, rfl, rfl, trivial⟩)
noncomputable def c_wi_r1 : Code := sub [1, 0] (Tryd.f50.body.getD .skip)
set_option maxRecDepth 1000000 in
set_option maxHeartbeats 16000000 in
theorem wi_r1_wp {Q : Exit → Act → World → Prop} {wo w : World} {Df Dt : Option Addr} {mf ef mt et : Nat} (hN : ∀ a', Frm 62 [(1, .slice Df mf ef), (2, .slice Dt mt et), (3, .pointer (some ⟨wo.heap.size, 0, none⟩)), (6, .pointer (some ⟨wo.heap.size + 1, 0, none⟩)), (7, .pointer (some ⟨w.heap.size, 0, none⟩))] a' → Q .normal a' (w.alloc (.cells #[.int .i64 0] 3))) : ∀ ac, Frm 62 [(1, .slice Df mf ef), (2, .slice Dt mt et), (3, .pointer (some ⟨wo.heap.size, 0, none⟩)), (6, .pointer (some ⟨wo.heap.size + 1, 0, none⟩))] ac → Code.wp Tryd.prog c_wi_r1 Q ac w := by
  refine frm_open ?_
  refine frame_wi ?_
  intros
  rename_i hq
  obtain ⟨-, -, e0q, e1q, e2q, e3q, -⟩ := hq
  obtain rfl := sI e0q
  obtain rfl := sI e1q
  obtain rfl := sI e2q
  obtain rfl := sI e3q
  conv => arg 2; whnf
  have HN := Lib.hid hN
  clear hN
  go_wp2_with fail
  exact HN.out _ (id ⟨rfl, rfl, rfl, rfl, rfl, rfl, rfl, trivial⟩)
noncomputable def c_wi_r2 : Code := sub [1, 1, 0] (Tryd.f50.body.getD .skip)
set_option maxRecDepth 1000000 in
set_option maxHeartbeats 16000000 in
theorem wi_r2_wp {Q : Exit → Act → World → Prop} {PV : Int → ByteArray → Option Addr → Nat → Nat → Option Addr → Nat → Nat → World → Prop} {bn : Nat} {wo w : World} {Df Dt : Option Addr} {mf ef mt et : Nat} {kd : Int} {nm : ByteArray} {A B : Option Addr} {n1 c1 n2 c2 : Nat} (ha : w.heap[wo.heap.size]? = some (.cells #[.int .i64 kd, .string nm, .slice A n1 c1, .slice B n2 c2] 25 (0, 0))) (hc : Calls Tryd.prog 80 #[.agg #[.int .i64 kd, .string nm, .slice A n1 c1, .slice B n2 c2], .slice Df mf ef, .slice Dt mt et, .pointer (some ⟨bn, 0, none⟩)] w fun e w' => ∃ ke ne Ae n3 c3 Be n4 c4, e = .returned (.agg #[.int .i64 ke, .string ne, .slice Ae n3 c3, .slice Be n4 c4]) ∧ PV ke ne Ae n3 c3 Be n4 c4 w') (hN : ∀ ke ne Ae n3 c3 Be n4 c4 w1 a', Frm 62 [(1, .slice Df mf ef), (2, .slice Dt mt et), (3, .pointer (some ⟨wo.heap.size, 0, none⟩)), (6, .pointer (some ⟨wo.heap.size + 1, 0, none⟩)), (7, .pointer (some ⟨bn, 0, none⟩)), (8, .pointer (some ⟨w1.heap.size, 0, none⟩))] a' → PV ke ne Ae n3 c3 Be n4 c4 w1 → Q .normal a' (w1.alloc (.cells #[.int .i64 ke, .string ne, .slice Ae n3 c3, .slice Be n4 c4] 25))) : ∀ ac, Frm 62 [(1, .slice Df mf ef), (2, .slice Dt mt et), (3, .pointer (some ⟨wo.heap.size, 0, none⟩)), (6, .pointer (some ⟨wo.heap.size + 1, 0, none⟩)), (7, .pointer (some ⟨bn, 0, none⟩))] ac → Code.wp Tryd.prog c_wi_r2 Q ac w := by
  refine frm_open ?_
  refine frame_wi ?_
  intros
  rename_i hq
  obtain ⟨-, -, e0q, e1q, e2q, e3q, e4q, -⟩ := hq
  obtain rfl := sI e0q
  obtain rfl := sI e1q
  obtain rfl := sI e2q
  obtain rfl := sI e3q
  obtain rfl := sI e4q
  conv => arg 2; whnf
  have a0 := cellv ha 0 rfl
  have a1 := cellv ha 1 rfl
  have a2 := cellv ha 2 rfl
  have a3 := cellv ha 3 rfl
  have al := lt_heap ha
  clear ha
  have HN := Lib.hid hN
  have HC := Lib.hid hc
  clear hN hc
  go_wp2_with fail
  (with_reducible refine HC.out.mono ?_)
  rintro e w1 ⟨ke, ne, Ae, n3, c3, Be, n4, c4, rfl, hp⟩
  have HP := Lib.hid hp
  clear hp
  go_wp2_with fail
  exact HN.out _ _ _ _ _ _ _ _ _ _ (id ⟨rfl, rfl, rfl, rfl, rfl, rfl, rfl, rfl, trivial⟩) HP.out
noncomputable def c_wi_r3 : Code := sub [1, 1, 1, 0] (Tryd.f50.body.getD .skip)
set_option maxRecDepth 1000000 in
set_option maxHeartbeats 16000000 in
theorem wi_r3_wp {Q : Exit → Act → World → Prop} {bn bg : Nat} {wo w : World} (hN : ∀ a', Frm 62 [(6, .pointer (some ⟨wo.heap.size + 1, 0, none⟩)), (7, .pointer (some ⟨bn, 0, none⟩)), (8, .pointer (some ⟨bg, 0, none⟩)), (9, .slice none 0 0)] a' → Q .normal a' w) : ∀ ac, Frm 62 [(6, .pointer (some ⟨wo.heap.size + 1, 0, none⟩)), (7, .pointer (some ⟨bn, 0, none⟩)), (8, .pointer (some ⟨bg, 0, none⟩))] ac → Code.wp Tryd.prog c_wi_r3 Q ac w := by
  refine frm_open ?_
  refine frame_wi ?_
  intros
  rename_i hq
  obtain ⟨-, -, e0q, e1q, e2q, -⟩ := hq
  obtain rfl := sI e0q
  obtain rfl := sI e1q
  obtain rfl := sI e2q
  conv => arg 2; whnf
  have HN := Lib.hid hN
  clear hN
  go_wp2_with fail
  exact HN.out _ (id ⟨rfl, rfl, rfl, rfl, rfl, rfl, trivial⟩)
noncomputable def c_wi_r4 : Code := sub [1, 1, 1, 1, 0, 0] (Tryd.f50.body.getD .skip)
set_option maxRecDepth 1000000 in
set_option maxHeartbeats 16000000 in
theorem wi_r4_wp {Q : Exit → Act → World → Prop} {PV : Option Addr → Nat → Nat → World → Prop} {v9 : Value} {bn bg : Nat} {wo w : World} {ke : Int} {ne : ByteArray} {Ae Be : Option Addr} {n3 c3 n4 c4 : Nat} (ha : w.heap[bg]? = some (.cells #[.int .i64 ke, .string ne, .slice Ae n3 c3, .slice Be n4 c4] 25 (0, 0))) (hc : Calls Tryd.prog 18 #[.agg #[.int .i64 ke, .string ne, .slice Ae n3 c3, .slice Be n4 c4]] w fun e w' => ∃ Dc mc ec, e = .returned (.slice Dc mc ec) ∧ PV Dc mc ec w') (hN : ∀ Dc mc ec w1 a', Frm 62 [(6, .pointer (some ⟨wo.heap.size + 1, 0, none⟩)), (7, .pointer (some ⟨bn, 0, none⟩)), (8, .pointer (some ⟨bg, 0, none⟩)), (9, v9), (21, .slice Dc mc ec), (22, .int .i64 (mc : Nat)), (23, .int .i64 (0 : Nat))] a' → PV Dc mc ec w1 → Q .normal a' w1) : ∀ ac, Frm 62 [(6, .pointer (some ⟨wo.heap.size + 1, 0, none⟩)), (7, .pointer (some ⟨bn, 0, none⟩)), (8, .pointer (some ⟨bg, 0, none⟩)), (9, v9)] ac → Code.wp Tryd.prog c_wi_r4 Q ac w := by
  refine frm_open ?_
  refine frame_wi ?_
  intros
  rename_i hq
  obtain ⟨-, -, e0q, e1q, e2q, e3q, -⟩ := hq
  obtain rfl := sI e0q
  obtain rfl := sI e1q
  obtain rfl := sI e2q
  obtain rfl := sI e3q
  conv => arg 2; whnf
  have a0 := cellv ha 0 rfl
  have a1 := cellv ha 1 rfl
  have a2 := cellv ha 2 rfl
  have a3 := cellv ha 3 rfl
  have al := lt_heap ha
  clear ha
  have HN := Lib.hid hN
  have HC := Lib.hid hc
  clear hN hc
  go_wp2_with fail
  (with_reducible refine HC.out.mono ?_)
  rintro e w1 ⟨Dc, mc, ec, rfl, hp⟩
  have HP := Lib.hid hp
  clear hp
  go_wp2_with fail
  exact HN.out _ _ _ _ _ (id ⟨rfl, rfl, rfl, rfl, rfl, rfl, rfl, rfl, rfl, trivial⟩) HP.out
noncomputable def c_wi_r5 : Code := sub [1, 1, 1, 1, 0, 1, 0, 0, 0] (Tryd.f50.body.getD .skip)
set_option maxRecDepth 1000000 in
set_option maxHeartbeats 16000000 in
theorem wi_r5_wp {Q : Exit → Act → World → Prop} {Dc : Option Addr} {mc ec i : Nat} {v9 : Value} {bn bg : Nat} {wo w : World} (hN : ∀ a', Frm 62 [(6, .pointer (some ⟨wo.heap.size + 1, 0, none⟩)), (7, .pointer (some ⟨bn, 0, none⟩)), (8, .pointer (some ⟨bg, 0, none⟩)), (9, v9), (21, .slice Dc mc ec), (22, .int .i64 (mc : Nat)), (23, .int .i64 (i : Nat)), (24, .bool (decide (i < mc)))] a' → Q .normal a' w) : ∀ ac, Frm 62 [(6, .pointer (some ⟨wo.heap.size + 1, 0, none⟩)), (7, .pointer (some ⟨bn, 0, none⟩)), (8, .pointer (some ⟨bg, 0, none⟩)), (9, v9), (21, .slice Dc mc ec), (22, .int .i64 (mc : Nat)), (23, .int .i64 (i : Nat))] ac → Code.wp Tryd.prog c_wi_r5 Q ac w := by
  refine frm_open ?_
  refine frame_wi ?_
  intros
  rename_i hq
  obtain ⟨-, -, e0q, e1q, e2q, e3q, e4q, e5q, e6q, -⟩ := hq
  obtain rfl := sI e0q
  obtain rfl := sI e1q
  obtain rfl := sI e2q
  obtain rfl := sI e3q
  obtain rfl := sI e4q
  obtain rfl := sI e5q
  obtain rfl := sI e6q
  conv => arg 2; whnf
  by_cases h : i < mc
  · have t1 : decide ((i : Int) < (mc : Int)) = true := by first | exact decide_eq_true (by omega) | exact beq_iff_eq.2 (by omega) | exact bne_iff_ne.2 (by omega)
    have t2 : (decide (i < mc)) = true := decide_eq_true h
    rw [t2] at hN
    clear h
    have HN := Lib.hid hN
    clear hN
    go_wp2_with fail
    exact HN.out _ (id ⟨rfl, rfl, rfl, rfl, rfl, rfl, rfl, rfl, rfl, rfl, trivial⟩)
  · have t1 : decide ((i : Int) < (mc : Int)) = false := by first | exact decide_eq_false (by omega) | exact beq_eq_false_iff_ne.2 (by omega) | exact bne_eq_false_iff_eq.2 (by omega)
    have t2 : (decide (i < mc)) = false := decide_eq_false h
    rw [t2] at hN
    clear h
    have HN := Lib.hid hN
    clear hN
    go_wp2_with fail
    exact HN.out _ (id ⟨rfl, rfl, rfl, rfl, rfl, rfl, rfl, rfl, rfl, rfl, trivial⟩)
noncomputable def c_wi_r6 : Code := sub [1, 1, 1, 1, 0, 1, 0, 0, 1, 1, 0, 0, 0] (Tryd.f50.body.getD .skip)
set_option maxRecDepth 1000000 in
set_option maxHeartbeats 16000000 in
theorem wi_r6_wp {Q : Exit → Act → World → Prop} {b o : Nat} {s : ByteArray} {mc ec i : Nat} {v9 : Value} {bn bg : Nat} {wo w : World} (hi : i < mc) (hc : w.cell? ⟨b, o + i, none⟩ = some (.string s)) (hbl : b < w.heap.size) (hN : ∀ a', Frm 62 [(6, .pointer (some ⟨wo.heap.size + 1, 0, none⟩)), (7, .pointer (some ⟨bn, 0, none⟩)), (8, .pointer (some ⟨bg, 0, none⟩)), (9, v9), (21, .slice (some ⟨b, o, none⟩) mc ec), (22, .int .i64 (mc : Nat)), (23, .int .i64 (i : Nat)), (11, .string s)] a' → Q .normal a' w) : ∀ ac, Frm 62 [(6, .pointer (some ⟨wo.heap.size + 1, 0, none⟩)), (7, .pointer (some ⟨bn, 0, none⟩)), (8, .pointer (some ⟨bg, 0, none⟩)), (9, v9), (21, .slice (some ⟨b, o, none⟩) mc ec), (22, .int .i64 (mc : Nat)), (23, .int .i64 (i : Nat))] ac → Code.wp Tryd.prog c_wi_r6 Q ac w := by
  refine frm_open ?_
  refine frame_wi ?_
  intros
  rename_i hq
  obtain ⟨-, -, e0q, e1q, e2q, e3q, e4q, e5q, e6q, -⟩ := hq
  obtain rfl := sI e0q
  obtain rfl := sI e1q
  obtain rfl := sI e2q
  obtain rfl := sI e3q
  obtain rfl := sI e4q
  obtain rfl := sI e5q
  obtain rfl := sI e6q
  conv => arg 2; whnf
  have q0 : (0 : Int) ≤ (i : Int) := by omega
  have q1 : (i : Int) < (mc : Int) := by omega
  have HN := Lib.hid hN
  clear hN
  go_wp2_with fail
  exact HN.out _ (id ⟨rfl, rfl, rfl, rfl, rfl, rfl, rfl, rfl, rfl, rfl, trivial⟩)
noncomputable def c_wi_r7 : Code := sub [1, 1, 1, 1, 0, 1, 0, 0, 1, 1, 0, 0, 1] (Tryd.f50.body.getD .skip)
set_option maxRecDepth 1000000 in
set_option maxHeartbeats 16000000 in
theorem wi_r7_wp {Q : Exit → Act → World → Prop} {base n9 c9 : Nat} {A9 : Option Addr} {xs : List Value} {s : ByteArray} {Dc : Option Addr} {mc ec i : Nat} {bn bg : Nat} {wo w : World} (hl : n9 ≤ 1000000) (hbs : base ≤ w.heap.size) (hrow : w.ownsRow base 9 1 (.slice A9 n9 c9) n9 xs) (hN : ∀ v' a' w', Frm 62 [(6, .pointer (some ⟨wo.heap.size + 1, 0, none⟩)), (7, .pointer (some ⟨bn, 0, none⟩)), (8, .pointer (some ⟨bg, 0, none⟩)), (9, v'), (21, .slice Dc mc ec), (22, .int .i64 (mc : Nat)), (23, .int .i64 (i : Nat))] a' → w'.ownsRow base 9 1 v' (n9 + 1) (xs ++ [.string s]) → Gro w w' (.slice A9 n9 c9) v' → Q .normal a' w') : ∀ ac, Frm 62 [(6, .pointer (some ⟨wo.heap.size + 1, 0, none⟩)), (7, .pointer (some ⟨bn, 0, none⟩)), (8, .pointer (some ⟨bg, 0, none⟩)), (9, (.slice A9 n9 c9)), (21, .slice Dc mc ec), (22, .int .i64 (mc : Nat)), (23, .int .i64 (i : Nat)), (11, .string s)] ac → Code.wp Tryd.prog c_wi_r7 Q ac w := by
  refine frm_open ?_
  refine frame_wi ?_
  intros
  rename_i hq
  obtain ⟨-, -, e0q, e1q, e2q, e3q, e4q, e5q, e6q, e7q, -⟩ := hq
  obtain rfl := sI e0q
  obtain rfl := sI e1q
  obtain rfl := sI e2q
  obtain rfl := sI e3q
  obtain rfl := sI e4q
  obtain rfl := sI e5q
  obtain rfl := sI e6q
  obtain rfl := sI e7q
  conv => arg 2; whnf
  obtain ⟨ti, hti, ht0, ht1, ht2⟩ := info_parts infoStr
  have HN := Lib.hid hN
  have HROW := Lib.hid hrow
  clear hN hrow
  go_wp2_with (at_builtin; refine wpList_append_lies (w.alloc (.cells #[.string (s)] 9)) ?h1 (.tmp 27) (.tmp 29) 22 ?h2 base 9 ti (.string ⟨#[]⟩) 1 16 ?h3 hti ht0 ht1 ht2 ?h4 ?h5 (.slice A9 n9 c9) n9 xs ?h6 ?h7 ⟨w.heap.size, 0, none⟩ 1 1 [.string (s)] ?h8 ?h9 ?h10 ?h11 ?h12 ?h13 ?h14 ?h15 (w.heap.size + 1) ?h16 ?_)
  try (case h1 => rfl)
  try (case h2 => rfl)
  try (case h3 => exact Tryd.underlying22)
  try (case h4 => rfl)
  try (case h5 => omega)
  try (case h6 => rfl)
  try (case h7 => exact HROW.out.alloc _)
  try (case h8 => rfl)
  try (case h9 => rfl)
  try (case h10 => exact World.news_of_block (cs := #[.string (s)]) (t := 9) (fr := (0, 0)) (heap_alloc_new w _))
  try (case h11 => simp [Value.oneCell'])
  try (case h12 => omega)
  try (case h13 => first | (simp [maxLen]; omega) | (unfold maxLen; omega))
  try (case h14 => omega)
  try (case h15 => first | omega | (simp; omega))
  try (case h16 => first | rfl | simp)
  intro gg cap w6 hown3 hgrow hat hlt
  have hap := Gro.of (w := w) (n := n9 + 1) (cap := cap) (Below.refl _ _) hgrow hat
  have HAP := Lib.hid hap
  have HOWN := Lib.hid hown3
  clear hown3 hgrow hat hap hlt
  go_wp2_with fail
  exact HN.out _ _ _ (id ⟨rfl, rfl, rfl, rfl, rfl, rfl, rfl, rfl, rfl, trivial⟩) HOWN.out HAP.out
noncomputable def c_wi_r8 : Code := sub [1, 1, 1, 1, 0, 1, 0, 0, 1, 1, 1] (Tryd.f50.body.getD .skip)
set_option maxRecDepth 1000000 in
set_option maxHeartbeats 16000000 in
theorem wi_r8_wp {Q : Exit → Act → World → Prop} {Dc : Option Addr} {mc ec i : Nat} {v9 : Value} {bn bg : Nat} {wo w : World} (hi : i < mc) (hlim : mc ≤ maxLen) (hN : ∀ a', Frm 62 [(6, .pointer (some ⟨wo.heap.size + 1, 0, none⟩)), (7, .pointer (some ⟨bn, 0, none⟩)), (8, .pointer (some ⟨bg, 0, none⟩)), (9, v9), (21, .slice Dc mc ec), (22, .int .i64 (mc : Nat)), (23, .int .i64 (i + 1 : Nat))] a' → Q .normal a' w) : ∀ ac, Frm 62 [(6, .pointer (some ⟨wo.heap.size + 1, 0, none⟩)), (7, .pointer (some ⟨bn, 0, none⟩)), (8, .pointer (some ⟨bg, 0, none⟩)), (9, v9), (21, .slice Dc mc ec), (22, .int .i64 (mc : Nat)), (23, .int .i64 (i : Nat))] ac → Code.wp Tryd.prog c_wi_r8 Q ac w := by
  refine frm_open ?_
  refine frame_wi ?_
  intros
  rename_i hq
  obtain ⟨-, -, e0q, e1q, e2q, e3q, e4q, e5q, e6q, -⟩ := hq
  obtain rfl := sI e0q
  obtain rfl := sI e1q
  obtain rfl := sI e2q
  obtain rfl := sI e3q
  obtain rfl := sI e4q
  obtain rfl := sI e5q
  obtain rfl := sI e6q
  conv => arg 2; whnf
  have hi4 : (i : Int) ≤ 9223372036854775806 := by unfold maxLen at hlim; omega
  have HN := Lib.hid hN
  clear hN
  go_wp2_with fail
  exact HN.out _ (id ⟨rfl, rfl, rfl, rfl, rfl, rfl, rfl, rfl, rfl, trivial⟩)
noncomputable def c_wi_r9 : Code := sub [1, 1, 1, 1, 1, 0] (Tryd.f50.body.getD .skip)
set_option maxRecDepth 1000000 in
set_option maxHeartbeats 16000000 in
theorem wi_r9_wp {Q : Exit → Act → World → Prop} {Du : Option Addr} {mu eu : Nat} {bn bg : Nat} {wo w : World} (hN : ∀ a', Frm 62 [(6, .pointer (some ⟨wo.heap.size + 1, 0, none⟩)), (7, .pointer (some ⟨bn, 0, none⟩)), (8, .pointer (some ⟨bg, 0, none⟩)), (9, .slice Du mu eu), (12, .slice none 0 0), (13, .slice none 0 0)] a' → Q .normal a' w) : ∀ ac, Frm 62 [(6, .pointer (some ⟨wo.heap.size + 1, 0, none⟩)), (7, .pointer (some ⟨bn, 0, none⟩)), (8, .pointer (some ⟨bg, 0, none⟩)), (9, .slice Du mu eu)] ac → Code.wp Tryd.prog c_wi_r9 Q ac w := by
  refine frm_open ?_
  refine frame_wi ?_
  intros
  rename_i hq
  obtain ⟨-, -, e0q, e1q, e2q, e3q, -⟩ := hq
  obtain rfl := sI e0q
  obtain rfl := sI e1q
  obtain rfl := sI e2q
  obtain rfl := sI e3q
  conv => arg 2; whnf
  have HN := Lib.hid hN
  clear hN
  go_wp2_with fail
  exact HN.out _ (id ⟨rfl, rfl, rfl, rfl, rfl, rfl, rfl, rfl, trivial⟩)
noncomputable def c_wi_r10 : Code := sub [1, 1, 1, 1, 1, 1, 0] (Tryd.f50.body.getD .skip)
set_option maxRecDepth 1000000 in
set_option maxHeartbeats 16000000 in
theorem wi_r10_wp {Q : Exit → Act → World → Prop} {vo vn : Value} {Du : Option Addr} {mu eu : Nat} {bn bg : Nat} {wo w : World} (hN : ∀ a', Frm 62 [(6, .pointer (some ⟨wo.heap.size + 1, 0, none⟩)), (7, .pointer (some ⟨bn, 0, none⟩)), (8, .pointer (some ⟨bg, 0, none⟩)), (9, .slice Du mu eu), (12, vo), (13, vn), (14, .int .i64 (0 : Nat))] a' → Q .normal a' w) : ∀ ac, Frm 62 [(6, .pointer (some ⟨wo.heap.size + 1, 0, none⟩)), (7, .pointer (some ⟨bn, 0, none⟩)), (8, .pointer (some ⟨bg, 0, none⟩)), (9, .slice Du mu eu), (12, vo), (13, vn)] ac → Code.wp Tryd.prog c_wi_r10 Q ac w := by
  refine frm_open ?_
  refine frame_wi ?_
  intros
  rename_i hq
  obtain ⟨-, -, e0q, e1q, e2q, e3q, e4q, e5q, -⟩ := hq
  obtain rfl := sI e0q
  obtain rfl := sI e1q
  obtain rfl := sI e2q
  obtain rfl := sI e3q
  obtain rfl := sI e4q
  obtain rfl := sI e5q
  conv => arg 2; whnf
  have HN := Lib.hid hN
  clear hN
  go_wp2_with fail
  exact HN.out _ (id ⟨rfl, rfl, rfl, rfl, rfl, rfl, rfl, rfl, rfl, trivial⟩)
noncomputable def c_wi_r11 : Code := sub [1, 1, 1, 1, 1, 1, 1, 0, 0] (Tryd.f50.body.getD .skip)
set_option maxRecDepth 1000000 in
set_option maxHeartbeats 16000000 in
theorem wi_r11_wp {Q : Exit → Act → World → Prop} {k : Nat} {vo vn : Value} {Du : Option Addr} {mu eu : Nat} {bn bg : Nat} {wo w : World} (hN : ∀ a', Frm 62 [(6, .pointer (some ⟨wo.heap.size + 1, 0, none⟩)), (7, .pointer (some ⟨bn, 0, none⟩)), (8, .pointer (some ⟨bg, 0, none⟩)), (9, .slice Du mu eu), (12, vo), (13, vn), (14, .int .i64 (k : Nat)), (15, .int .i64 (0 : Nat))] a' → Q .normal a' w) : ∀ ac, Frm 62 [(6, .pointer (some ⟨wo.heap.size + 1, 0, none⟩)), (7, .pointer (some ⟨bn, 0, none⟩)), (8, .pointer (some ⟨bg, 0, none⟩)), (9, .slice Du mu eu), (12, vo), (13, vn), (14, .int .i64 (k : Nat))] ac → Code.wp Tryd.prog c_wi_r11 Q ac w := by
  refine frm_open ?_
  refine frame_wi ?_
  intros
  rename_i hq
  obtain ⟨-, -, e0q, e1q, e2q, e3q, e4q, e5q, e6q, -⟩ := hq
  obtain rfl := sI e0q
  obtain rfl := sI e1q
  obtain rfl := sI e2q
  obtain rfl := sI e3q
  obtain rfl := sI e4q
  obtain rfl := sI e5q
  obtain rfl := sI e6q
  conv => arg 2; whnf
  have HN := Lib.hid hN
  clear hN
  go_wp2_with fail
  exact HN.out _ (id ⟨rfl, rfl, rfl, rfl, rfl, rfl, rfl, rfl, rfl, rfl, trivial⟩)
noncomputable def c_wi_r12 : Code := sub [1, 1, 1, 1, 1, 1, 1, 0, 1, 0, 0, 0, 0] (Tryd.f50.body.getD .skip)
set_option maxRecDepth 1000000 in
set_option maxHeartbeats 16000000 in
theorem wi_r12_wp {Q : Exit → Act → World → Prop} {n : Nat} {k i : Nat} {vo vn : Value} {Du : Option Addr} {mu eu : Nat} {bn bg : Nat} {wo w : World} (hk : w.heap[bn]? = some (.cells #[.int .i64 (n : Nat)] 3 (0, 0))) (hN : ∀ a', Frm 62 [(6, .pointer (some ⟨wo.heap.size + 1, 0, none⟩)), (7, .pointer (some ⟨bn, 0, none⟩)), (8, .pointer (some ⟨bg, 0, none⟩)), (9, .slice Du mu eu), (12, vo), (13, vn), (14, .int .i64 (k : Nat)), (15, .int .i64 (i : Nat)), (34, .bool (decide (i < n)))] a' → Q .normal a' w) : ∀ ac, Frm 62 [(6, .pointer (some ⟨wo.heap.size + 1, 0, none⟩)), (7, .pointer (some ⟨bn, 0, none⟩)), (8, .pointer (some ⟨bg, 0, none⟩)), (9, .slice Du mu eu), (12, vo), (13, vn), (14, .int .i64 (k : Nat)), (15, .int .i64 (i : Nat))] ac → Code.wp Tryd.prog c_wi_r12 Q ac w := by
  refine frm_open ?_
  refine frame_wi ?_
  intros
  rename_i hq
  obtain ⟨-, -, e0q, e1q, e2q, e3q, e4q, e5q, e6q, e7q, -⟩ := hq
  obtain rfl := sI e0q
  obtain rfl := sI e1q
  obtain rfl := sI e2q
  obtain rfl := sI e3q
  obtain rfl := sI e4q
  obtain rfl := sI e5q
  obtain rfl := sI e6q
  obtain rfl := sI e7q
  conv => arg 2; whnf
  have k0 := cellv hk 0 rfl
  have kl := lt_heap hk
  clear hk
  have HN := Lib.hid hN
  clear hN
  go_wp2_with fail
  exact HN.out _ (id ⟨rfl, rfl, rfl, rfl, rfl, rfl, rfl, rfl, rfl, rfl, rfl, trivial⟩)
noncomputable def c_wi_r14 : Code := sub [1, 1, 1, 1, 1, 1, 1, 0, 1, 0, 0, 1, 0, 0, 0, 0, 0, 0, 0] (Tryd.f50.body.getD .skip)
set_option maxRecDepth 1000000 in
set_option maxHeartbeats 16000000 in
theorem wi_r14_wp {Q : Exit → Act → World → Prop} {d : ByteArray} {bb : Bool} {k i : Nat} {vo vn : Value} {Du : Option Addr} {mu eu : Nat} {bn bg : Nat} {wo w : World} (hd : d.size ≤ 1000000) (hcd : Calls Tryd.prog 81 #[.int .i64 (k : Nat)] w fun e w' => e = .returned (.string d) ∧ Below w.heap.size w w') (hch : ∀ W, Below w.heap.size w W → Calls Tryd.prog 29 #[.slice Du mu eu, .string ((⟨#[118]⟩ : ByteArray) ++ d)] W fun e w' => e = .returned (.bool bb) ∧ w' = W) (hN : ∀ a' w', Frm 62 [(6, .pointer (some ⟨wo.heap.size + 1, 0, none⟩)), (7, .pointer (some ⟨bn, 0, none⟩)), (8, .pointer (some ⟨bg, 0, none⟩)), (9, .slice Du mu eu), (12, vo), (13, vn), (14, .int .i64 (k : Nat)), (15, .int .i64 (i : Nat)), (41, .bool bb)] a' → Below w.heap.size w w' → Q .normal a' w') : ∀ ac, Frm 62 [(6, .pointer (some ⟨wo.heap.size + 1, 0, none⟩)), (7, .pointer (some ⟨bn, 0, none⟩)), (8, .pointer (some ⟨bg, 0, none⟩)), (9, .slice Du mu eu), (12, vo), (13, vn), (14, .int .i64 (k : Nat)), (15, .int .i64 (i : Nat))] ac → Code.wp Tryd.prog c_wi_r14 Q ac w := by
  refine frm_open ?_
  refine frame_wi ?_
  intros
  rename_i hq
  obtain ⟨-, -, e0q, e1q, e2q, e3q, e4q, e5q, e6q, e7q, -⟩ := hq
  obtain rfl := sI e0q
  obtain rfl := sI e1q
  obtain rfl := sI e2q
  obtain rfl := sI e3q
  obtain rfl := sI e4q
  obtain rfl := sI e5q
  obtain rfl := sI e6q
  obtain rfl := sI e7q
  conv => arg 2; whnf
  have t1 : ¬ 9223372036854775807 < 1 + d.size := by omega
  have HN := Lib.hid hN
  have HCD := Lib.hid hcd
  have HCH := Lib.hid hch
  clear hN hcd hch
  go_wp2_with fail
  (with_reducible refine HCD.out.mono ?_)
  rintro e w1 ⟨rfl, hb1⟩
  have hch1 := HCH.out w1 hb1
  have HC1 := Lib.hid hch1
  have HB1 := Lib.hid hb1
  clear hch1 hb1
  go_wp2_with fail
  (with_reducible refine HC1.out.mono ?_)
  rintro e w2 ⟨rfl, rfl⟩
  go_wp2_with fail
  exact HN.out _ _ (id ⟨rfl, rfl, rfl, rfl, rfl, rfl, rfl, rfl, rfl, rfl, rfl, trivial⟩) HB1.out
noncomputable def c_wi_r15 : Code := sub [1, 1, 1, 1, 1, 1, 1, 0, 1, 0, 0, 1, 0, 0, 0, 0, 0, 1, 0] (Tryd.f50.body.getD .skip)
set_option maxRecDepth 1000000 in
set_option maxHeartbeats 16000000 in
theorem wi_r15_wp {Q : Exit → Act → World → Prop} {k i : Nat} {vo vn : Value} {Du : Option Addr} {mu eu : Nat} {bn bg : Nat} {wo w : World} (hk : k ≤ 1000000) (hN : ∀ a', Frm 62 [(6, .pointer (some ⟨wo.heap.size + 1, 0, none⟩)), (7, .pointer (some ⟨bn, 0, none⟩)), (8, .pointer (some ⟨bg, 0, none⟩)), (9, .slice Du mu eu), (12, vo), (13, vn), (14, .int .i64 (k + 1 : Nat)), (15, .int .i64 (i : Nat))] a' → Q .normal a' w) : ∀ ac, Frm 62 [(6, .pointer (some ⟨wo.heap.size + 1, 0, none⟩)), (7, .pointer (some ⟨bn, 0, none⟩)), (8, .pointer (some ⟨bg, 0, none⟩)), (9, .slice Du mu eu), (12, vo), (13, vn), (14, .int .i64 (k : Nat)), (15, .int .i64 (i : Nat))] ac → Code.wp Tryd.prog c_wi_r15 Q ac w := by
  refine frm_open ?_
  refine frame_wi ?_
  intros
  rename_i hq
  obtain ⟨-, -, e0q, e1q, e2q, e3q, e4q, e5q, e6q, e7q, -⟩ := hq
  obtain rfl := sI e0q
  obtain rfl := sI e1q
  obtain rfl := sI e2q
  obtain rfl := sI e3q
  obtain rfl := sI e4q
  obtain rfl := sI e5q
  obtain rfl := sI e6q
  obtain rfl := sI e7q
  conv => arg 2; whnf
  have q9 : (k : Int) ≤ 1000000 := by omega
  have HN := Lib.hid hN
  clear hN
  go_wp2_with fail
  exact HN.out _ (id ⟨rfl, rfl, rfl, rfl, rfl, rfl, rfl, rfl, rfl, rfl, trivial⟩)
noncomputable def c_wi_r17 : Code := sub [1, 1, 1, 1, 1, 1, 1, 0, 1, 0, 0, 1, 0, 0, 1, 1] (Tryd.f50.body.getD .skip)
set_option maxRecDepth 1000000 in
set_option maxHeartbeats 16000000 in
theorem wi_r17_wp {Q : Exit → Act → World → Prop} {k i : Nat} {vo vn : Value} {Du : Option Addr} {mu eu : Nat} {bn bg : Nat} {wo w : World} (hk : k ≤ 1000000) (hN : ∀ a', Frm 62 [(6, .pointer (some ⟨wo.heap.size + 1, 0, none⟩)), (7, .pointer (some ⟨bn, 0, none⟩)), (8, .pointer (some ⟨bg, 0, none⟩)), (9, .slice Du mu eu), (12, vo), (13, vn), (14, .int .i64 (k + 1 : Nat)), (15, .int .i64 (i : Nat))] a' → Q .normal a' w) : ∀ ac, Frm 62 [(6, .pointer (some ⟨wo.heap.size + 1, 0, none⟩)), (7, .pointer (some ⟨bn, 0, none⟩)), (8, .pointer (some ⟨bg, 0, none⟩)), (9, .slice Du mu eu), (12, vo), (13, vn), (14, .int .i64 (k : Nat)), (15, .int .i64 (i : Nat))] ac → Code.wp Tryd.prog c_wi_r17 Q ac w := by
  refine frm_open ?_
  refine frame_wi ?_
  intros
  rename_i hq
  obtain ⟨-, -, e0q, e1q, e2q, e3q, e4q, e5q, e6q, e7q, -⟩ := hq
  obtain rfl := sI e0q
  obtain rfl := sI e1q
  obtain rfl := sI e2q
  obtain rfl := sI e3q
  obtain rfl := sI e4q
  obtain rfl := sI e5q
  obtain rfl := sI e6q
  obtain rfl := sI e7q
  conv => arg 2; whnf
  have q9 : (k : Int) ≤ 1000000 := by omega
  have HN := Lib.hid hN
  clear hN
  go_wp2_with fail
  exact HN.out _ (id ⟨rfl, rfl, rfl, rfl, rfl, rfl, rfl, rfl, rfl, rfl, trivial⟩)
noncomputable def c_wi_r13 : Code := sub [1, 1, 1, 1, 1, 1, 1, 0, 1, 0, 0, 1, 1] (Tryd.f50.body.getD .skip)
set_option maxRecDepth 1000000 in
set_option maxHeartbeats 16000000 in
theorem wi_r13_wp {Q : Exit → Act → World → Prop} {k i : Nat} {vo vn : Value} {Du : Option Addr} {mu eu : Nat} {bn bg : Nat} {wo w : World} (hi : i ≤ 1000000) (hN : ∀ a', Frm 62 [(6, .pointer (some ⟨wo.heap.size + 1, 0, none⟩)), (7, .pointer (some ⟨bn, 0, none⟩)), (8, .pointer (some ⟨bg, 0, none⟩)), (9, .slice Du mu eu), (12, vo), (13, vn), (14, .int .i64 (k : Nat)), (15, .int .i64 (i + 1 : Nat))] a' → Q .normal a' w) : ∀ ac, Frm 62 [(6, .pointer (some ⟨wo.heap.size + 1, 0, none⟩)), (7, .pointer (some ⟨bn, 0, none⟩)), (8, .pointer (some ⟨bg, 0, none⟩)), (9, .slice Du mu eu), (12, vo), (13, vn), (14, .int .i64 (k : Nat)), (15, .int .i64 (i : Nat))] ac → Code.wp Tryd.prog c_wi_r13 Q ac w := by
  refine frm_open ?_
  refine frame_wi ?_
  intros
  rename_i hq
  obtain ⟨-, -, e0q, e1q, e2q, e3q, e4q, e5q, e6q, e7q, -⟩ := hq
  obtain rfl := sI e0q
  obtain rfl := sI e1q
  obtain rfl := sI e2q
  obtain rfl := sI e3q
  obtain rfl := sI e4q
  obtain rfl := sI e5q
  obtain rfl := sI e6q
  obtain rfl := sI e7q
  conv => arg 2; whnf
  have q9 : (i : Int) ≤ 1000000 := by omega
  have HN := Lib.hid hN
  clear hN
  go_wp2_with fail
  exact HN.out _ (id ⟨rfl, rfl, rfl, rfl, rfl, rfl, rfl, rfl, rfl, rfl, trivial⟩)
noncomputable def c_wi_r16 : Code := sub [1, 1, 1, 1, 1, 1, 1, 0, 1, 0, 0, 1, 0, 0, 1, 0] (Tryd.f50.body.getD .skip)
set_option maxRecDepth 1000000 in
set_option maxHeartbeats 16000000 in
theorem wi_r16_wp {Q : Exit → Act → World → Prop} {base no co nn cn : Nat} {Ao An : Option Addr} {xo xn : List Value} {d1 d2 : ByteArray} {k i : Nat} {Du : Option Addr} {mu eu : Nat} {bn bg : Nat} {wo w : World} (hl1 : no ≤ 1000000) (hl2 : nn ≤ 1000000) (hd1 : d1.size ≤ 1000000) (hd2 : d2.size ≤ 1000000) (hbs : base ≤ w.heap.size) (hr1 : w.ownsRow base 9 1 (.slice Ao no co) no xo) (hr2 : w.ownsRow base 9 1 (.slice An nn cn) nn xn) (hne : ∀ b, (Value.slice An nn cn).ownBlock = some b → (Value.slice Ao no co).ownBlock ≠ some b) (hc1 : Calls Tryd.prog 81 #[.int .i64 (i : Nat)] w fun e w' => e = .returned (.string d1) ∧ Below w.heap.size w w') (hc2 : ∀ W : World, Calls Tryd.prog 81 #[.int .i64 (k : Nat)] W fun e w' => e = .returned (.string d2) ∧ Below W.heap.size W w') (hN : ∀ vo' vn' a' wa w', Frm 62 [(6, .pointer (some ⟨wo.heap.size + 1, 0, none⟩)), (7, .pointer (some ⟨bn, 0, none⟩)), (8, .pointer (some ⟨bg, 0, none⟩)), (9, .slice Du mu eu), (12, vo'), (13, vn'), (14, .int .i64 (k : Nat)), (15, .int .i64 (i : Nat))] a' → wa.ownsRow base 9 1 vo' (no + 1) (xo ++ [.string ((⟨#[33]⟩ : ByteArray) ++ d1)]) → Gro w wa (.slice Ao no co) vo' → w'.ownsRow base 9 1 vn' (nn + 1) (xn ++ [.string ((⟨#[118]⟩ : ByteArray) ++ d2)]) → Gro wa w' (.slice An nn cn) vn' → Q .normal a' w') : ∀ ac, Frm 62 [(6, .pointer (some ⟨wo.heap.size + 1, 0, none⟩)), (7, .pointer (some ⟨bn, 0, none⟩)), (8, .pointer (some ⟨bg, 0, none⟩)), (9, .slice Du mu eu), (12, (.slice Ao no co)), (13, (.slice An nn cn)), (14, .int .i64 (k : Nat)), (15, .int .i64 (i : Nat))] ac → Code.wp Tryd.prog c_wi_r16 Q ac w := by
  refine frm_open ?_
  refine frame_wi ?_
  intros
  rename_i hq
  obtain ⟨-, -, e0q, e1q, e2q, e3q, e4q, e5q, e6q, e7q, -⟩ := hq
  obtain rfl := sI e0q
  obtain rfl := sI e1q
  obtain rfl := sI e2q
  obtain rfl := sI e3q
  obtain rfl := sI e4q
  obtain rfl := sI e5q
  obtain rfl := sI e6q
  obtain rfl := sI e7q
  conv => arg 2; whnf
  obtain ⟨ti, hti, ht0, ht1, ht2⟩ := info_parts infoStr
  have t1 : ¬ 9223372036854775807 < 1 + d1.size := by omega
  have t2 : ¬ 9223372036854775807 < 1 + d2.size := by omega
  have HN := Lib.hid hN
  have HR1 := Lib.hid hr1
  have HR2 := Lib.hid hr2
  have HC1 := Lib.hid hc1
  have HC2 := Lib.hid hc2
  clear hN hr1 hr2 hc1 hc2
  go_wp2_with fail
  (with_reducible refine HC1.out.mono ?_)
  rintro e w1 ⟨rfl, hb1⟩
  have HRA := Lib.hid (rowGrownF HR1.out (fun b hlt _ => hb1.block b hlt))
  have zb1 := hb1.size
  have HB1 := Lib.hid hb1
  clear hb1
  go_wp2_with (at_builtin; refine wpList_append_lies (w1.alloc (.cells #[.string (((⟨#[33]⟩ : ByteArray) ++ d1))] 9)) ?h1 (.tmp 44) (.tmp 48) 22 ?h2 base 9 ti (.string ⟨#[]⟩) 1 16 ?h3 hti ht0 ht1 ht2 ?h4 ?h5 (.slice Ao no co) no xo ?h6 ?h7 ⟨w1.heap.size, 0, none⟩ 1 1 [.string (((⟨#[33]⟩ : ByteArray) ++ d1))] ?h8 ?h9 ?h10 ?h11 ?h12 ?h13 ?h14 ?h15 (w1.heap.size + 1) ?h16 ?_)
  try (case h1 => rfl)
  try (case h2 => rfl)
  try (case h3 => exact Tryd.underlying22)
  try (case h4 => rfl)
  try (case h5 => omega)
  try (case h6 => rfl)
  try (case h7 => exact HRA.out.alloc _)
  try (case h8 => rfl)
  try (case h9 => rfl)
  try (case h10 => exact World.news_of_block (cs := #[.string (((⟨#[33]⟩ : ByteArray) ++ d1))]) (t := 9) (fr := (0, 0)) (heap_alloc_new w1 _))
  try (case h11 => simp [Value.oneCell'])
  try (case h12 => omega)
  try (case h13 => first | (simp [maxLen]; omega) | (unfold maxLen; omega))
  try (case h14 => omega)
  try (case h15 => first | omega | (simp; omega))
  try (case h16 => first | rfl | simp)
  intro gg cap w6 hown3 hgrow hat hlt
  have hga := Gro.of (w := w) (n := no + 1) (cap := cap) HB1.out hgrow hat
  have HGA := Lib.hid hga
  have HOA := Lib.hid hown3
  have hc6 := HC2.out w6
  have HC6 := Lib.hid hc6
  have HRB := Lib.hid (rowGrownF HR2.out (fun b hlt e => hga.block b hlt (hne b e)))
  have zb6 := hga.size
  clear hown3 hgrow hat hga hlt hc6
  go_wp2_with fail
  (with_reducible refine HC6.out.mono ?_)
  rintro e w7 ⟨rfl, hb7⟩
  have HRC := Lib.hid (rowGrownF HRB.out (fun b hlt _ => hb7.block b hlt))
  have zb7 := hb7.size
  have HB7 := Lib.hid hb7
  clear hb7
  go_wp2_with (at_builtin; refine wpList_append_lies (w7.alloc (.cells #[.string (((⟨#[118]⟩ : ByteArray) ++ d2))] 9)) ?h1 (.tmp 50) (.tmp 54) 22 ?h2 base 9 ti (.string ⟨#[]⟩) 1 16 ?h3 hti ht0 ht1 ht2 ?h4 ?h5 (.slice An nn cn) nn xn ?h6 ?h7 ⟨w7.heap.size, 0, none⟩ 1 1 [.string (((⟨#[118]⟩ : ByteArray) ++ d2))] ?h8 ?h9 ?h10 ?h11 ?h12 ?h13 ?h14 ?h15 (w7.heap.size + 1) ?h16 ?_)
  try (case h1 => rfl)
  try (case h2 => rfl)
  try (case h3 => exact Tryd.underlying22)
  try (case h4 => rfl)
  try (case h5 => omega)
  try (case h6 => rfl)
  try (case h7 => exact HRC.out.alloc _)
  try (case h8 => rfl)
  try (case h9 => rfl)
  try (case h10 => exact World.news_of_block (cs := #[.string (((⟨#[118]⟩ : ByteArray) ++ d2))]) (t := 9) (fr := (0, 0)) (heap_alloc_new w7 _))
  try (case h11 => simp [Value.oneCell'])
  try (case h12 => omega)
  try (case h13 => first | (simp [maxLen]; omega) | (unfold maxLen; omega))
  try (case h14 => omega)
  try (case h15 => first | omega | (simp; omega))
  try (case h16 => first | rfl | simp)
  intro gh cap2 w8 hown4 hgrow2 hat2 hlt2
  have hgb := Gro.of (w := w6) (n := nn + 1) (cap := cap2) HB7.out hgrow2 hat2
  have HGB := Lib.hid hgb
  have HOB := Lib.hid hown4
  clear hown4 hgrow2 hat2 hgb hlt2
  go_wp2_with fail
  exact HN.out _ _ _ _ _ (id ⟨rfl, rfl, rfl, rfl, rfl, rfl, rfl, rfl, rfl, rfl, trivial⟩) HOA.out HGA.out HOB.out HGB.out
noncomputable def c_wi_r18 : Code := sub [1, 1, 1, 1, 1, 1, 1, 1, 0] (Tryd.f50.body.getD .skip)
set_option maxRecDepth 1000000 in
set_option maxHeartbeats 16000000 in
theorem wi_r18_wp {Q : Exit → Act → World → Prop} {PV : Int → ByteArray → Option Addr → Nat → Nat → Option Addr → Nat → Nat → World → Prop} {gz : Nat} {bg no co nn cn : Nat} {Ao An : Option Addr} {w : World} {kd : Int} {nm : ByteArray} {A B : Option Addr} {n1 c1 n2 c2 : Nat} (ha : w.heap[bg]? = some (.cells #[.int .i64 kd, .string nm, .slice A n1 c1, .slice B n2 c2] 25 (0, 0))) (hc : Calls Tryd.prog 31 #[.agg #[.int .i64 kd, .string nm, .slice A n1 c1, .slice B n2 c2], .slice Ao no co, .slice An nn cn] w fun e w' => ∃ ke ne Ae n3 c3 Be n4 c4, e = .returned (.agg #[.int .i64 ke, .string ne, .slice Ae n3 c3, .slice Be n4 c4]) ∧ w'.heap[gz]? = some (.cells #[.int .i64 0, .string ⟨#[]⟩, .slice none 0 0, .slice none 0 0] 25 (0, 0)) ∧ PV ke ne Ae n3 c3 Be n4 c4 w') (hN : ∀ ke ne Ae n3 c3 Be n4 c4 w1 a' w', Frm 62 [(6, .pointer (some ⟨gz, 0, none⟩))] a' → PV ke ne Ae n3 c3 Be n4 c4 w1 → w'.heap[gz]? = some (.cells #[.int .i64 ke, .string ne, .slice Ae n3 c3, .slice Be n4 c4] 25 (0, 0)) → Keeps (· = gz) w1 w' → Q .normal a' w') : ∀ ac, Frm 62 [(6, .pointer (some ⟨gz, 0, none⟩)), (8, .pointer (some ⟨bg, 0, none⟩)), (12, .slice Ao no co), (13, .slice An nn cn)] ac → Code.wp Tryd.prog c_wi_r18 Q ac w := by
  refine frm_open ?_
  refine frame_wi ?_
  intros
  rename_i hq
  obtain ⟨-, -, e0q, e1q, e2q, e3q, -⟩ := hq
  obtain rfl := sI e0q
  obtain rfl := sI e1q
  obtain rfl := sI e2q
  obtain rfl := sI e3q
  conv => arg 2; whnf
  have a0 := cellv ha 0 rfl
  have a1 := cellv ha 1 rfl
  have a2 := cellv ha 2 rfl
  have a3 := cellv ha 3 rfl
  have al := lt_heap ha
  clear ha
  have z0 := fun (W : World) (h : W.heap[gz]? = some (.cells #[.int .i64 0, .string ⟨#[]⟩, .slice none 0 0, .slice none 0 0] 25 (0, 0))) => cellv h 0 rfl
  have z1 := fun (W : World) (h : W.heap[gz]? = some (.cells #[.int .i64 0, .string ⟨#[]⟩, .slice none 0 0, .slice none 0 0] 25 (0, 0))) => cellv h 1 rfl
  have z2 := fun (W : World) (h : W.heap[gz]? = some (.cells #[.int .i64 0, .string ⟨#[]⟩, .slice none 0 0, .slice none 0 0] 25 (0, 0))) => cellv h 2 rfl
  have z3 := fun (W : World) (h : W.heap[gz]? = some (.cells #[.int .i64 0, .string ⟨#[]⟩, .slice none 0 0, .slice none 0 0] 25 (0, 0))) => cellv h 3 rfl
  have zf := fun (W : World) (h : W.heap[gz]? = some (.cells #[.int .i64 0, .string ⟨#[]⟩, .slice none 0 0, .slice none 0 0] 25 (0, 0))) => And.intro (free_heap h 0) (And.intro (free_heap h 1) (And.intro (free_heap h 2) (free_heap h 3)))
  have Z0 := Lib.hid z0
  have Z1 := Lib.hid z1
  have Z2 := Lib.hid z2
  have Z3 := Lib.hid z3
  have ZF := Lib.hid zf
  clear z0 z1 z2 z3 zf
  have HN := Lib.hid hN
  have HC := Lib.hid hc
  clear hN hc
  go_wp2_with fail
  (with_reducible refine HC.out.mono ?_)
  rintro e w1 ⟨ke, ne, Ae, n3, c3, Be, n4, c4, rfl, hz, hp⟩
  have y0 := Z0.out w1 hz
  have y1 := Z1.out w1 hz
  have y2 := Z2.out w1 hz
  have y3 := Z3.out w1 hz
  obtain ⟨yf0, yf1, yf2, yf3⟩ := ZF.out w1 hz
  have yl := lt_heap hz
  have HP := Lib.hid hp
  have HZ := Lib.hid hz
  clear hp hz
  go_wp2_with fail
  exact HN.out _ _ _ _ _ _ _ _ _ _ _ (id ⟨rfl, rfl, rfl, trivial⟩) HP.out (at4F HZ.out) (keeps4F (Keeps.refl _ _) (Or.inl rfl))
set_option maxRecDepth 1000000 in
theorem wi_ret_wp {R : Ending → World → Prop} {w' : World} {g : Nat} {v0 v1 v2 v3 : Value} (hg : w'.heap[g]? = some (.cells #[v0, v1, v2, v3] 25 (0, 0))) (ho : v0.oneCell' = true ∧ v1.oneCell' = true ∧ v2.oneCell' = true ∧ v3.oneCell' = true) (hR : R (.returned (.agg #[v0, v1, v2, v3])) w') : ∀ ac, Frm 62 [(6, .pointer (some ⟨g, 0, none⟩))] ac → bodyPost Tryd.prog Tryd.f50 R .ret ac w' := by
  refine frm_open ?_
  refine frame_wi ?_
  intros
  rename_i hq
  obtain ⟨-, -, e0q, -⟩ := hq
  obtain rfl := sI e0q
  have z0 := cellv hg 0 rfl
  have z1 := cellv hg 1 rfl
  have z2 := cellv hg 2 rfl
  have z3 := cellv hg 3 rfl
  have zl := lt_heap hg
  obtain ⟨o0, o1, o2, o3⟩ := ho
  refine bodyPost_ret (v := .agg #[v0, v1, v2, v3]) (by simp [results, Tryd.results50, go_sem, z0, z1, z2, z3, zl, o0, o1, o2, o3]) rfl ?_
  exact hR
end

section
open Go Go.RowKit
set_option linter.unusedSimpArgs false
set_option linter.unusedVariables false

theorem subP_subB (l : List ByteArray) (w : ByteArray) : subP ((List.range l.length).map gB) l w = subB l w := by
  by_cases h : ∃ i, i < l.length ∧ w = gB i
  · obtain ⟨i, hi, rfl⟩ := h
    rw [subB_at hi]
    refine subP_at _ _ _ i (by simpa using hi) hi (fun j hj => ?_) (by simp)
    rw [List.getElem?_map, List.getElem?_range (by omega)]
    exact fun e => by have := gB_inj (Option.some.inj e); omega
  · have hn : ∀ i, i < l.length → w ≠ gB i := fun i hi e => h ⟨i, hi, e⟩
    rw [subP_none _ _ _ (fun i hi => by
      have hi : i < l.length := by simpa using hi
      rw [List.getElem?_map, List.getElem?_range hi]
      exact fun e => hn i hi (Option.some.inj e).symm)]
    unfold subB
    rw [List.find?_eq_none.2 (fun i hi => by
      have hi := List.mem_range.1 hi
      simp
      exact fun e => hn i hi e.symm)]
    rfl
theorem swF_congr {f g : ByteArray → ByteArray} (h : ∀ x, f x = g x) (t : Tree FmL) : swF f t = swF g t := by
  rw [show f = g from funext h]
theorem vB_cat (n : Nat) : (⟨#[118]⟩ : ByteArray) ++ ⟨(Lib.decDigits n).toArray⟩ = vB n := dat_inj (by simp [vB, dat, ByteArray.data_append])
theorem dig_size {n : Nat} (h : n ≤ 100000) : (⟨(Lib.decDigits n).toArray⟩ : ByteArray).size ≤ 1000000 := by
  have := dec_len n n (Nat.le_refl _)
  simp [ByteArray.size]; omega
theorem gB_size {n : Nat} (h : n ≤ 1000000) : (gB n).size ≤ maxLen := by
  have := dec_len n n (Nat.le_refl _)
  unfold gB maxLen
  simp [ByteArray.size]; omega
theorem range_snoc {α : Type} (f : Nat → α) (n : Nat) : (List.range (n + 1)).map f = (List.range n).map f ++ [f n] := by
  rw [List.range_succ, List.map_append]; rfl
noncomputable def c_wi_cp : Code := sub [1, 1, 1, 1, 0, 1, 0] (Tryd.f50.body.getD .skip)
set_option maxRecDepth 100000 in
set_option maxHeartbeats 4000000 in
theorem wi_cp_wp {Q : Exit → Act → World → Prop} {SS : Nat → Prop} {L : List ByteArray} {Dc : Option Addr} {mc ec : Nat} {bn bg : Nat} {wo w : World} (hS : ∀ k, SS k → k < w.heap.size) (hc : strRep.Sl w SS (.slice Dc mc ec) L) (hll : L.length ≤ 1000000)
    (hX : ∀ v' a' w', Frm 62 [(6, .pointer (some ⟨wo.heap.size + 1, 0, none⟩)), (7, .pointer (some ⟨bn, 0, none⟩)), (8, .pointer (some ⟨bg, 0, none⟩)), (9, v')] a' → w'.ownsRow w.heap.size 9 1 v' L.length (L.map .string) → Below w.heap.size w w' → Q (.exit 0) a' w') : ∀ ac, Frm 62 [(6, .pointer (some ⟨wo.heap.size + 1, 0, none⟩)), (7, .pointer (some ⟨bn, 0, none⟩)), (8, .pointer (some ⟨bg, 0, none⟩)), (9, .slice none 0 0), (21, .slice Dc mc ec), (22, .int .i64 (mc : Nat)), (23, .int .i64 (0 : Nat))] ac → Code.wp Tryd.prog c_wi_cp Q ac w := by
  intro a0 hf0
  conv => arg 2; whnf
  obtain ⟨D', m', e', e9, hfl, hfm, _⟩ := id hc
  injection e9 with e1 e2 e3
  subst e1 e2 e3
  refine wp_loopR (fun g a' w' => ∃ (i : Nat) (v' : Value), i + g = L.length ∧ w'.ownsRow w.heap.size 9 1 v' i ((L.take i).map .string) ∧ Below w.heap.size w w' ∧ Frm 62 [(6, .pointer (some ⟨wo.heap.size + 1, 0, none⟩)), (7, .pointer (some ⟨bn, 0, none⟩)), (8, .pointer (some ⟨bg, 0, none⟩)), (9, v'), (21, .slice Dc mc ec), (22, .int .i64 (mc : Nat)), (23, .int .i64 (i : Nat))] a') L.length ⟨0, _, by omega, World.ownsRow_nil _ _ _ _, Below.refl _ _, hf0⟩ ?_
  rintro g a1 w1 ⟨i, v1, hig, hr1, hb1, h1⟩
  refine wp_seq ?_
  refine wi_r5_wp (fun a2 h2 => ?_) a1 h1
  refine wp_seq ?_
  by_cases hi : i < mc
  case neg =>
    refine wp_cond_false ((h2.eval (k := 24) (v := .bool (decide (i < mc))) (by simp)).trans (by rw [decide_eq_false hi])) ?_
    obtain rfl : i = L.length := by omega
    rw [List.take_of_length_le (Nat.le_refl _)] at hr1
    exact wp_exit (hX v1 a2 w1 ⟨h2.1, h2.2.1, h2.2.2.1, h2.2.2.2.1, h2.2.2.2.2.1, h2.2.2.2.2.2.1, trivial⟩ hr1 hb1)
  refine wp_cond_true ((h2.eval (k := 24) (v := .bool (decide (i < mc))) (by simp)).trans (by rw [decide_eq_true hi])) ?_
  refine wp_skip ?_
  show Code.wp _ _ _ a2 w1
  have hil : i < L.length := by omega
  obtain ⟨b, o, cs, rfl, hSb, ⟨rfl, _⟩, hcc⟩ := Rep.Sl.at_ hc (List.getElem?_eq_getElem hil)
  have hc0 : w1.cell? ⟨b, o + i, none⟩ = some (.string L[i]) := (cell_keep (hb1.block b (hS b hSb)) _).trans (by simpa [strRep] using hcc 0 _ rfl)
  have hbs := hb1.size
  obtain ⟨A9, c9, rfl⟩ : ∃ A c, v1 = .slice A i c := by
    rcases hr1.2 with ⟨e, e0⟩ | ⟨g, cap, cur, e, _⟩
    · exact ⟨none, 0, by rw [e, e0]⟩
    · exact ⟨_, _, e⟩
  refine wp_seq ?_
  refine wp_block ?_
  refine wp_seq ?_
  refine wi_r6_wp hi hc0 (by have := hS b hSb; omega) (fun a3 h3 => ?_) a2 ⟨h2.1, h2.2.1, h2.2.2.1, h2.2.2.2.1, h2.2.2.2.2.1, h2.2.2.2.2.2.1, h2.2.2.2.2.2.2.1, h2.2.2.2.2.2.2.2.1, h2.2.2.2.2.2.2.2.2.1, trivial⟩
  refine wi_r7_wp (by omega) hbs hr1 (fun v4 a4 w4 h4 hr4 hg4 => ?_) a3 h3
  show Code.wp _ _ _ a4 w4
  refine wi_r8_wp hi (by omega) (fun a5 h5 => ?_) a4 h4
  refine ⟨g - 1, by omega, i + 1, v4, by omega, ?_, ⟨hg4.os.trans hb1.os, hg4.tape.trans hb1.tape, hg4.output.trans hb1.output, by have := hg4.size; omega, fun k hk => (hg4.block k (by omega) (fun e => by have := (hr1.lt k e).1; omega)).trans (hb1.block k hk)⟩, h5⟩
  rw [List.take_succ_eq_append_getElem hil, List.map_append]
  exact hr4
noncomputable def c_wi_fi : Code := sub [1, 1, 1, 1, 1, 1, 1, 0, 1, 0, 0, 1, 0, 0, 0, 0] (Tryd.f50.body.getD .skip)
set_option maxRecDepth 100000 in
set_option maxHeartbeats 4000000 in
theorem wi_fi_wp {Q : Exit → Act → World → Prop} {SS : Nat → Prop} {u : List ByteArray} {n0 : Nat} {k i : Nat} {vo vn : Value} {Du : Option Addr} {mu eu : Nat} {bn bg : Nat} {wo w : World} (hS : ∀ k, SS k → k < w.heap.size) (hu : strRep.Sl w SS (.slice Du mu eu) u) (hn : nextV u n0 ≤ 90000)
    (hX : ∀ a' w', Frm 62 [(6, .pointer (some ⟨wo.heap.size + 1, 0, none⟩)), (7, .pointer (some ⟨bn, 0, none⟩)), (8, .pointer (some ⟨bg, 0, none⟩)), (9, .slice Du mu eu), (12, vo), (13, vn), (14, .int .i64 ((nextV u n0) : Nat)), (15, .int .i64 (i : Nat))] a' → Below w.heap.size w w' → Q (.exit 4) a' w') : ∀ ac, Frm 62 [(6, .pointer (some ⟨wo.heap.size + 1, 0, none⟩)), (7, .pointer (some ⟨bn, 0, none⟩)), (8, .pointer (some ⟨bg, 0, none⟩)), (9, .slice Du mu eu), (12, vo), (13, vn), (14, .int .i64 (n0 : Nat)), (15, .int .i64 (i : Nat))] ac → Code.wp Tryd.prog c_wi_fi Q ac w := by
  intro a0 hf0
  conv => arg 2; whnf
  refine wp_loopR (fun g a' w' => ∃ j : Nat, j + g = nextV u n0 ∧ nextV u j = nextV u n0 ∧ Below w.heap.size w w' ∧ Frm 62 [(6, .pointer (some ⟨wo.heap.size + 1, 0, none⟩)), (7, .pointer (some ⟨bn, 0, none⟩)), (8, .pointer (some ⟨bg, 0, none⟩)), (9, .slice Du mu eu), (12, vo), (13, vn), (14, .int .i64 (j : Nat)), (15, .int .i64 (i : Nat))] a') (nextV u n0 - n0) ⟨n0, by have := nextV_ge u n0; omega, rfl, Below.refl _ _, hf0⟩ ?_
  rintro g a1 w1 ⟨j, hjg, hjn, hb1, h1⟩
  have hbs := hb1.size
  refine wp_seq ?_
  refine wp_seq ?_
  have hcd := digits_any j w1 (by omega)
  have hch : ∀ W, Below w1.heap.size w1 W → Calls Tryd.prog 29 #[.slice Du mu eu, .string ((⟨#[118]⟩ : ByteArray) ++ ⟨(Lib.decDigits j).toArray⟩)] W fun e w' => e = .returned (.bool (hasB u (vB j))) ∧ w' = W := by
    intro W hb
    have hb2 := hb.size
    rw [vB_cat]
    exact refHas_any (hu.keep (fun b h => (hb.block b (by have := hS b h; omega)).trans (hb1.block b (hS b h))) (fun _ h => h)) (fun b h => by have := hS b h; omega) (vB j)
  refine wi_r14_wp (dig_size (by omega)) hcd hch (fun a2 w2 h2 hb2 => ?_) a1 h1
  cases hb : hasB u (vB j)
  · rw [hb] at h2
    refine wp_cond_false ((h2.eval (k := 41) (v := .bool false) (by simp)).trans (by rw [show false = false from rfl])) ?_
    have hnx : nextV u n0 = j := by
      rw [← hjn]
      exact nextV_stop (fun hm => by rw [hasB_iff.2 hm] at hb; cases hb)
    refine wp_exit ?_
    repeat refine then_exit ?_
    refine hX a2 w2 ?_ (hb1.trans (hb2.mono hbs))
    rw [hnx]
    exact ⟨h2.1, h2.2.1, h2.2.2.1, h2.2.2.2.1, h2.2.2.2.2.1, h2.2.2.2.2.2.1, h2.2.2.2.2.2.2.1, h2.2.2.2.2.2.2.2.1, h2.2.2.2.2.2.2.2.2.1, h2.2.2.2.2.2.2.2.2.2.1, trivial⟩
  · rw [hb] at h2
    refine wp_cond_true ((h2.eval (k := 41) (v := .bool true) (by simp)).trans (by rw [show true = true from rfl])) ?_
    refine wp_skip ?_
    show Code.wp _ _ _ a2 w2
    have hst := nextV_step (hasB_iff.1 hb)
    refine wp_block ?_
    refine wi_r15_wp (by omega) (fun a3 h3 => ?_) a2 ⟨h2.1, h2.2.1, h2.2.2.1, h2.2.2.2.1, h2.2.2.2.2.1, h2.2.2.2.2.2.1, h2.2.2.2.2.2.2.1, h2.2.2.2.2.2.2.2.1, h2.2.2.2.2.2.2.2.2.1, h2.2.2.2.2.2.2.2.2.2.1, trivial⟩
    exact ⟨g - 1, by omega, j + 1, by rw [hjn] at hst; omega, by rw [← hst.1, hjn], hb1.trans (hb2.mono hbs), h3⟩
mutual
theorem allW_ren (nm : Nat → ByteArray) : ∀ (t : Tree FmL) (env : Env) (k : Nat), (allW (renF nm env t k).1).length = (allW t).length
  | .mk a l, env, k => by
    by_cases hq : isQ a.kind
    · rw [renF_q hq]
      simp only [allW, List.length_append, List.length_map]
      rw [allWs_ren nm l]
    · rw [renF_n hq]
      simp only [allW, List.length_append, List.length_map]
      rw [allWs_ren nm l]
theorem allWs_ren (nm : Nat → ByteArray) : ∀ (l : List (Tree FmL)) (env : Env) (k : Nat), (allWs (renFs nm env l k).1).length = (allWs l).length
  | [], _, _ => by simp [renFs]
  | t :: l, env, k => by
    rw [renFs_c]
    simp only [allWs, List.length_append]
    rw [allW_ren nm t, allWs_ren nm l]
end
mutual
theorem nodes_ren (nm : Nat → ByteArray) : ∀ (t : Tree FmL) (env : Env) (k : Nat), (renF nm env t k).1.nodes = t.nodes
  | .mk a l, env, k => by
    by_cases hq : isQ a.kind
    · rw [renF_q hq]
      simp only [Tree.nodes]
      rw [nodess_ren nm l]
    · rw [renF_n hq]
      simp only [Tree.nodes]
      rw [nodess_ren nm l]
theorem nodess_ren (nm : Nat → ByteArray) : ∀ (l : List (Tree FmL)) (env : Env) (k : Nat), Tree.nodess (renFs nm env l k).1 = Tree.nodess l
  | [], _, _ => by simp [renFs]
  | t :: l, env, k => by
    rw [renFs_c]
    simp only [Tree.nodess]
    rw [nodes_ren nm t, nodess_ren nm l]
end
noncomputable def c_wi_ou : Code := sub [1, 1, 1, 1, 1, 1, 1, 0, 1, 0] (Tryd.f50.body.getD .skip)
set_option maxRecDepth 100000 in
set_option maxHeartbeats 4000000 in
theorem wi_ou_wp {Q : Exit → Act → World → Prop} {SS : Nat → Prop} {u : List ByteArray} {n : Nat} {Du : Option Addr} {mu eu : Nat} {bn bg : Nat} {wo w : World} (hS : ∀ k, SS k → k < w.heap.size) (hu : strRep.Sl w SS (.slice Du mu eu) u) (hq : n ≤ 200) (huq : u.length + 3 * n ≤ 600) (hk : w.heap[bn]? = some (.cells #[.int .i64 (n : Nat)] 3 (0, 0)))
    (hX : ∀ vo vn a' w', Frm 62 [(6, .pointer (some ⟨wo.heap.size + 1, 0, none⟩)), (7, .pointer (some ⟨bn, 0, none⟩)), (8, .pointer (some ⟨bg, 0, none⟩)), (9, .slice Du mu eu), (12, vo), (13, vn)] a' → w'.ownsRow w.heap.size 9 1 vo n (((List.range n).map gB).map .string) → w'.ownsRow w.heap.size 9 1 vn n (((List.range n).map (namV u)).map .string) → Below w.heap.size w w' → Q (.exit 2) a' w') : ∀ ac, Frm 62 [(6, .pointer (some ⟨wo.heap.size + 1, 0, none⟩)), (7, .pointer (some ⟨bn, 0, none⟩)), (8, .pointer (some ⟨bg, 0, none⟩)), (9, .slice Du mu eu), (12, .slice none 0 0), (13, .slice none 0 0), (14, .int .i64 (0 : Nat)), (15, .int .i64 (0 : Nat))] ac → Code.wp Tryd.prog c_wi_ou Q ac w := by
  intro a0 hf0
  conv => arg 2; whnf
  refine wp_loopR (fun g a' w' => ∃ (i : Nat) (vo vn : Value), i + g = n ∧ w'.ownsRow w.heap.size 9 1 vo i (((List.range i).map gB).map .string) ∧ w'.ownsRow w.heap.size 9 1 vn i (((List.range i).map (namV u)).map .string) ∧ (∀ b, vn.ownBlock = some b → vo.ownBlock ≠ some b) ∧ Below w.heap.size w w' ∧ Frm 62 [(6, .pointer (some ⟨wo.heap.size + 1, 0, none⟩)), (7, .pointer (some ⟨bn, 0, none⟩)), (8, .pointer (some ⟨bg, 0, none⟩)), (9, .slice Du mu eu), (12, vo), (13, vn), (14, .int .i64 ((fromV u i) : Nat)), (15, .int .i64 (i : Nat))] a') n ⟨0, _, _, by omega, World.ownsRow_nil _ _ _ _, World.ownsRow_nil _ _ _ _, fun b e => by (cases e), Below.refl _ _, hf0⟩ ?_
  rintro g a1 w1 ⟨i, vo, vn, hig, ho1, hn1, hne, hb1, h1⟩
  have hbs := hb1.size
  have hkl := lt_heap hk
  refine wp_seq ?_
  refine wp_seq ?_
  refine wi_r12_wp ((hb1.block bn hkl).trans hk) (fun a2 h2 => ?_) a1 h1
  by_cases hi : i < n
  case neg =>
    refine wp_cond_false ((h2.eval (k := 34) (v := .bool (decide (i < n))) (by simp)).trans (by rw [decide_eq_false hi])) ?_
    obtain rfl : i = n := by omega
    exact wp_exit (hX vo vn a2 w1 ⟨h2.1, h2.2.1, h2.2.2.1, h2.2.2.2.1, h2.2.2.2.2.1, h2.2.2.2.2.2.1, h2.2.2.2.2.2.2.1, h2.2.2.2.2.2.2.2.1, trivial⟩ ho1 hn1 hb1)
  refine wp_cond_true ((h2.eval (k := 34) (v := .bool (decide (i < n))) (by simp)).trans (by rw [decide_eq_true hi])) ?_
  refine wp_skip ?_
  show Code.wp _ _ _ a2 w1
  have hfv := fromV_le u n (i + 1) hq huq (by omega)
  have hfe : fromV u (i + 1) = nextV u (fromV u i) + 1 := by rw [← numV_from]; rfl
  refine wp_seq ?_
  refine wp_block ?_
  refine wp_seq ?_
  refine wp_block ?_
  refine wi_fi_wp (SS := SS) (k := 0) (fun k hk => by have := hS k hk; omega) (hu.keep (fun b h => hb1.block b (hS b h)) (fun _ h => h)) (by omega) (fun a3 w3 h3 hb3 => ?_) a2 ⟨h2.1, h2.2.1, h2.2.2.1, h2.2.2.2.1, h2.2.2.2.2.1, h2.2.2.2.2.2.1, h2.2.2.2.2.2.2.1, h2.2.2.2.2.2.2.2.1, h2.2.2.2.2.2.2.2.2.1, h2.2.2.2.2.2.2.2.2.2.1, trivial⟩
  refine inBlock_exit ?_
  show Code.wp _ _ _ a3 w3
  have hb3s := hb3.size
  have ho3 := rowGrownF ho1 (fun b hlt _ => hb3.block b hlt)
  have hn3 := rowGrownF hn1 (fun b hlt _ => hb3.block b hlt)
  obtain ⟨Ao, co, rfl⟩ : ∃ A c, vo = .slice A i c := by
    rcases ho1.2 with ⟨e, e0⟩ | ⟨g, cap, cur, e, _⟩
    · exact ⟨none, 0, by rw [e, e0]⟩
    · exact ⟨_, _, e⟩
  obtain ⟨An, cn, rfl⟩ : ∃ A c, vn = .slice A i c := by
    rcases hn1.2 with ⟨e, e0⟩ | ⟨g, cap, cur, e, _⟩
    · exact ⟨none, 0, by rw [e, e0]⟩
    · exact ⟨_, _, e⟩
  refine wp_seq ?_
  refine wi_r16_wp (by omega) (by omega) (dig_size (n := i) (by omega)) (dig_size (n := nextV u (fromV u i)) (by omega)) (by omega) ho3 hn3 hne (digits_any i w3 (by omega)) (fun W => digits_any _ W (by omega)) (fun vo4 vn4 a4 wa w4 h4 ho4 hg4 hn4 hg5 => ?_) a3 h3
  rw [gB_cat] at ho4
  rw [vB_cat] at hn4
  have hg4s := hg4.size
  have hg5s := hg5.size
  have hne4 : ∀ b, vn4.ownBlock = some b → vo4.ownBlock ≠ some b := by
    intro b e1 e2
    have hlt := (ho4.lt b e2).2
    rcases hg5.at_ b e1 with e | e
    · rcases hg4.at_ b e2 with e' | e'
      · exact hne b e e'
      · have := (hn3.lt b e).2; omega
    · omega
  have hne5 : ∀ b, b < wa.heap.size → vo4.ownBlock = some b → w4.heap[b]? = wa.heap[b]? := by
    intro b hlt e2
    refine hg5.block b hlt (fun e => ?_)
    rcases hg4.at_ b e2 with e' | e'
    · exact hne b e e'
    · have := (hn3.lt b e).2; omega
  refine wi_r17_wp (by omega) (fun a5 h5 => ?_) a4 h4
  refine wi_r13_wp (by omega) (fun a6 h6 => ?_) a5 h5
  refine ⟨g - 1, by omega, i + 1, vo4, vn4, by omega, ?_, ?_, hne4, ?_, ?_⟩
  · rw [range_snoc, List.map_append]
    exact rowGrownF ho4 hne5
  · rw [range_snoc, List.map_append]
    have e : namV u i = vB (nextV u (fromV u i)) := by unfold namV; rw [numV_from]
    rw [e]
    exact hn4
  · refine ⟨hg5.os.trans (hg4.os.trans (hb3.os.trans hb1.os)), hg5.tape.trans (hg4.tape.trans (hb3.tape.trans hb1.tape)), hg5.output.trans (hg4.output.trans (hb3.output.trans hb1.output)), by omega, fun k hk => ?_⟩
    exact (hg5.block k (by omega) (fun e => by have := (hn1.lt k e).1; omega)).trans ((hg4.block k (by omega) (fun e => by have := (ho1.lt k e).1; omega)).trans ((hb3.block k (by omega)).trans (hb1.block k hk)))
  · rw [hfe]
    exact h6
set_option maxRecDepth 100000 in
set_option maxHeartbeats 4000000 in
/-- The reference's With. -/
theorem refWith_any (v : Fv) (hv : v.ok) (hn : v.nodes ≤ 200) (cs : List Value) (w : World) (S : Nat → Prop) (Df Dt : Option Addr) (mf ef mt et : Nat) (env : Env) (hen : env.length ≤ 100) (ht : fmRep.R w S v.fm cs) (hS : ∀ b, S b → b < w.heap.size) (hf : strRep.Sl w S (.slice Df mf ef) (env.map (·.1))) (hts : strRep.Sl w S (.slice Dt mt et) (env.map (·.2))) :
    Calls Tryd.prog 50 #[.agg cs.toArray, .slice Df mf ef, .slice Dt mt et] w fun e w' => ∃ es : List Value, e = .returned (.agg es.toArray) ∧ fmRep.R w' (fun b => w.heap.size ≤ b ∧ b < w'.heap.size) (canR env v.fm) es ∧ Below w.heap.size w w' := by
  have hwq := Fv.words_le v hv
  have hfn := v.fm_nodes
  have hqn : quN v.fm ≤ 200 := by omega
  unfold canR
  generalize v.fm = t at hwq hfn hqn ht ⊢
  clear hv
  have hgw := allW_ren gB t env 0
  have hgn := nodes_ren gB t env 0
  have hgc := renF_count gB t env 0
  obtain ⟨G, hG⟩ : ∃ G, (renF gB env t 0).1 = G := ⟨_, rfl⟩
  rw [hG] at hgw hgn ⊢
  have hul := fmConsts_len G
  have hfl := frees_le G []
  obtain ⟨u, hu⟩ : ∃ u, fmConsts G = u := ⟨_, rfl⟩
  rw [hu] at hul ⊢
  obtain ⟨A, n1, c1, B, n2, c2, rfl, _, _, _, _⟩ := Fm.shape ht
  obtain ⟨kd, hkd⟩ : ∃ k, t.lab.kind = k := ⟨_, rfl⟩
  obtain ⟨nm, hnm⟩ : ∃ k, t.lab.nm = k := ⟨_, rfl⟩
  rw [hkd, hnm] at ht ⊢
  go_enter Tryd.func50, Tryd.ntmps50
  refine wp_seq ?_
  refine wi_r0_wp (fun a0 h0 => ?_) _ (id ⟨rfl, rfl, rfl, rfl, rfl, trivial⟩)
  refine gen_last (fun wx => wx.heap[w.heap.size]? = some (.cells #[.int .i64 kd, .string nm, .slice A n1 c1, .slice B n2 c2] 25 (0, 0)) ∧ wx.heap[w.heap.size + 1]? = some (.cells #[.int .i64 0, .string ⟨#[]⟩, .slice none 0 0, .slice none 0 0] 25 (0, 0)) ∧ wx.heap.size = w.heap.size + 2 ∧ Below w.heap.size w wx) ⟨heap_old (by simp) (heap_at (by simp)), heap_at (by simp), by simp, ((Below.refl _ _).alloc (Nat.le_refl _) _).alloc (by simp) _⟩ ?_
  rintro wx ⟨ha, hz, hsz, hb⟩
  refine wp_seq ?_
  refine wi_r1_wp (fun a1 h1 => ?_) a0 h0
  obtain ⟨bn, hbn⟩ : ∃ b, wx.heap.size = b := ⟨_, rfl⟩
  rw [hbn] at h1
  refine gen_last (fun wy => wy.heap[w.heap.size]? = some (.cells #[.int .i64 kd, .string nm, .slice A n1 c1, .slice B n2 c2] 25 (0, 0)) ∧ wy.heap[w.heap.size + 1]? = some (.cells #[.int .i64 0, .string ⟨#[]⟩, .slice none 0 0, .slice none 0 0] 25 (0, 0)) ∧ wy.heap[bn]? = some (.cells #[.int .i64 ((0 : Nat) : Int)] 3 (0, 0)) ∧ wy.heap.size = bn + 1 ∧ Below w.heap.size w wy) ⟨heap_old (lt_heap ha) ha, heap_old (lt_heap hz) hz, by rw [← hbn]; exact heap_alloc_new _ _, by simp [hbn], hb.alloc (by omega) _⟩ ?_
  rintro w1 ⟨ha1, hz1, hk1, hs1, hb1⟩
  refine wp_seq ?_
  have hmk := (refMarked_any t.nodes t [.int .i64 kd, .string nm, .slice A n1 c1, .slice B n2 c2] w1 S Df Dt mf ef mt et env 0 bn (Nat.le_refl _) (by omega) (by omega) (by omega) (by omega) (fun p hp => sl_sizes hts p.2 (List.mem_map.2 ⟨p, hp, rfl⟩)) (fmRep.keep ht (fun b h => hb1.block b (hS b h)) (fun _ h => h)) (fun b h => by have := hS b h; exact ⟨by omega, by omega⟩) (hf.keep (fun b h => hb1.block b (hS b h)) (fun _ h => h)) (hts.keep (fun b h => hb1.block b (hS b h)) (fun _ h => h)) hk1).mono (R' := fun e w' => ∃ ke ne Ae n3 c3 Be n4 c4, e = .returned (.agg #[.int .i64 ke, .string ne, .slice Ae n3 c3, .slice Be n4 c4]) ∧ (fmRep.R w' (fun b => w1.heap.size ≤ b ∧ b < w'.heap.size) G [.int .i64 ke, .string ne, .slice Ae n3 c3, .slice Be n4 c4] ∧ Keeps (· = bn) w1 w' ∧ w'.heap[bn]? = some (.cells #[.int .i64 (quN t : Nat)] 3 (0, 0)))) (by
    rintro e w' ⟨es, rfl, hr, hk9, hc9⟩
    rw [hG] at hr
    rw [hgc, Nat.zero_add] at hc9
    obtain ⟨A5, n5, c5, B5, n6, c6, rfl, _, _, _, _⟩ := Fm.shape hr
    exact ⟨_, _, _, _, _, _, _, _, rfl, hr, hk9, hc9⟩)
  refine wi_r2_wp ha1 hmk (fun ke ne Ae n3 c3 Be n4 c4 w2 a2 h2 hp2 => ?_) a1 h1
  obtain ⟨hr2, hk2, hc2⟩ := hp2
  have hk2s := hk2.size
  obtain ⟨bg, hbg⟩ : ∃ b, w2.heap.size = b := ⟨_, rfl⟩
  rw [hbg] at h2
  refine gen_last (fun wy => wy.heap[w.heap.size + 1]? = some (.cells #[.int .i64 0, .string ⟨#[]⟩, .slice none 0 0, .slice none 0 0] 25 (0, 0)) ∧ wy.heap[bn]? = some (.cells #[.int .i64 (quN t : Nat)] 3 (0, 0)) ∧ wy.heap[bg]? = some (.cells #[.int .i64 ke, .string ne, .slice Ae n3 c3, .slice Be n4 c4] 25 (0, 0)) ∧ wy.heap.size = bg + 1 ∧ Below w.heap.size w wy ∧ fmRep.R wy (fun b => w1.heap.size ≤ b ∧ b < bg) G [.int .i64 ke, .string ne, .slice Ae n3 c3, .slice Be n4 c4]) ⟨heap_old (by have := lt_heap hz1; omega) ((hk2.block _ (lt_heap hz1) (by omega)).trans hz1), heap_old (lt_heap hc2) hc2, by rw [← hbg]; exact heap_alloc_new _ _, by simp [hbg], (hb1.trans (Keeps.below (B := w.heap.size) hk2 (fun k e => by have e : k = bn := e; omega) (by omega))).alloc (by omega) _, fmRep.keep hr2 (fun b hb => heap_old hb.2 rfl) (fun b hb => by rw [hbg] at hb; exact hb)⟩ ?_
  rintro w3 ⟨hz3, hc3, hg3, hs3, hb3, hr3⟩
  refine wp_seq ?_
  refine wi_r3_wp (fun a3 h3 => ?_) a2 ⟨h2.1, h2.2.1, h2.2.2.2.2.2.1, h2.2.2.2.2.2.2.1, h2.2.2.2.2.2.2.2.1, trivial⟩
  refine wp_seq ?_
  refine wp_seq ?_
  have hco := (refConstsOf_any G [.int .i64 ke, .string ne, .slice Ae n3 c3, .slice Be n4 c4] w3 (fun b => w1.heap.size ≤ b ∧ b < bg) hr3 (fun b hb => by omega) (by omega) (by omega)).mono (R' := fun e w' => ∃ Dc mc ec, e = .returned (.slice Dc mc ec) ∧ (w'.ownsRow w3.heap.size 9 1 (.slice Dc mc ec) u.length (u.map .string) ∧ (∀ s ∈ u, s.size ≤ maxLen) ∧ Below w3.heap.size w3 w')) (by
    rintro e w' ⟨v', rfl, hr, hz9, hb9⟩
    rw [hu] at hr hz9
    obtain ⟨A9, c9, rfl⟩ : ∃ A c, v' = .slice A u.length c := by
      rcases hr.2 with ⟨e, e0⟩ | ⟨g, cap, cur, e, _⟩
      · exact ⟨none, 0, by rw [e, e0]⟩
      · exact ⟨_, _, e⟩
    exact ⟨_, _, _, rfl, hr, hz9, hb9⟩)
  refine wi_r4_wp hg3 hco (fun Dc mc ec w4 a4 h4 hp4 => ?_) a3 h3
  obtain ⟨hr4, hz4, hb4⟩ := hp4
  have hb4s := hb4.size
  have hul2 : u.length ≤ 600 := by omega
  refine wp_block ?_
  refine wi_cp_wp (SS := fun b => b < w4.heap.size) (L := u) (fun _ h => h) (sl_of_row hr4 hz4 (by unfold maxLen; omega) (fun b e => (hr4.lt b e).2)) (by omega) (fun v5 a5 w5 h5 hr5 hb5 => ?_) a4 h4
  refine inBlock_exit ?_
  show Code.wp _ _ _ a5 w5
  have hb5s := hb5.size
  obtain ⟨Du, eu, rfl⟩ : ∃ A c, v5 = .slice A u.length c := by
    rcases hr5.2 with ⟨e, e0⟩ | ⟨g, cap, cur, e, _⟩
    · exact ⟨none, 0, by rw [e, e0]⟩
    · exact ⟨_, _, e⟩
  have hb35 : Below w3.heap.size w3 w5 := hb4.trans (hb5.mono hb4s)
  refine wp_seq ?_
  refine wi_r9_wp (fun a6 h6 => ?_) a5 h5
  refine wp_seq ?_
  refine wi_r10_wp (fun a7 h7 => ?_) a6 h6
  refine wp_seq ?_
  refine wp_seq ?_
  refine wi_r11_wp (fun a8 h8 => ?_) a7 h7
  refine wp_block ?_
  refine wi_ou_wp (SS := fun b => b < w5.heap.size) (u := u) (n := quN t) (fun _ h => h) (sl_of_row hr5 hz4 (by unfold maxLen; omega) (fun b e => (hr5.lt b e).2)) hqn (by omega) ((hb35.block bn (by have := lt_heap hc2; omega)).trans hc3) (fun vo vn a9 w9 h9 ho9 hn9 hb9 => ?_) a8 h8
  refine inBlock_exit ?_
  show Code.wp _ _ _ a9 w9
  have hb9s := hb9.size
  have hb39 : Below w3.heap.size w3 w9 := hb35.trans (hb9.mono hb35.size)
  obtain ⟨Ao, co, rfl⟩ : ∃ A c, vo = .slice A (quN t) c := by
    rcases ho9.2 with ⟨e, e0⟩ | ⟨g, cap, cur, e, _⟩
    · exact ⟨none, 0, by rw [e, e0]⟩
    · exact ⟨_, _, e⟩
  obtain ⟨An, cn, rfl⟩ : ∃ A c, vn = .slice A (quN t) c := by
    rcases hn9.2 with ⟨e, e0⟩ | ⟨g, cap, cur, e, _⟩
    · exact ⟨none, 0, by rw [e, e0]⟩
    · exact ⟨_, _, e⟩
  have hlo : ((List.range (quN t)).map gB).length = quN t := by simp
  have hln : ((List.range (quN t)).map (namV u)).length = quN t := by simp
  have hso := sl_of_row (S := fun b => b < w9.heap.size) (l := (List.range (quN t)).map gB) (by rw [hlo]; exact ho9) (fun s hs => by
    obtain ⟨i, hi, rfl⟩ := List.mem_map.1 hs
    exact gB_size (by have := List.mem_range.1 hi; omega)) (by rw [hlo]; unfold maxLen; omega) (fun b e => (ho9.lt b e).2)
  have hsn := sl_of_row (S := fun b => b < w9.heap.size) (l := (List.range (quN t)).map (namV u)) (by rw [hln]; exact hn9) (fun s hs => by
    obtain ⟨i, hi, rfl⟩ := List.mem_map.1 hs
    have hi := List.mem_range.1 hi
    refine vB_size ?_
    have := fromV_le u (quN t) (i + 1) hqn (by omega) (by omega)
    have e : fromV u (i + 1) = numV u i + 1 := rfl
    omega) (by rw [hln]; unfold maxLen; omega) (fun b e => (hn9.lt b e).2)
  have hsw := (refSwapped_any G.nodes G [.int .i64 ke, .string ne, .slice Ae n3 c3, .slice Be n4 c4] w9 (fun b => b < w9.heap.size) Ao An (quN t) co (quN t) cn _ _ (Nat.le_refl _) (by omega) (by omega) (fmRep.keep hr3 (fun b hb => hb39.block b (by omega)) (fun b hb => by omega)) (fun _ h => h) hso hsn (by rw [hlo, hln])).mono (R' := fun e w' => ∃ ke ne Ae n3 c3 Be n4 c4, e = .returned (.agg #[.int .i64 ke, .string ne, .slice Ae n3 c3, .slice Be n4 c4]) ∧ w'.heap[w.heap.size + 1]? = some (.cells #[.int .i64 0, .string ⟨#[]⟩, .slice none 0 0, .slice none 0 0] 25 (0, 0)) ∧ (fmRep.R w' (fun b => w9.heap.size ≤ b ∧ b < w'.heap.size) (swF (subP ((List.range (quN t)).map gB) ((List.range (quN t)).map (namV u))) G) [.int .i64 ke, .string ne, .slice Ae n3 c3, .slice Be n4 c4] ∧ Below w9.heap.size w9 w')) (by
    rintro e w' ⟨es, rfl, hr, hb⟩
    obtain ⟨A5, n5, c5, B5, n6, c6, rfl, _, _, _, _⟩ := Fm.shape hr
    exact ⟨_, _, _, _, _, _, _, _, rfl, (hb.block _ (by have := lt_heap hz3; omega)).trans ((hb39.block _ (lt_heap hz3)).trans hz3), hr, hb⟩)
  refine wp_seq ?_
  refine wi_r18_wp ((hb39.block bg (lt_heap hg3)).trans hg3) hsw (fun ke' ne' Ae' n3' c3' Be' n4' c4' w10 a10 w11 h10 hp10 hz10 hk10 => ?_) a9 ⟨h9.1, h9.2.1, h9.2.2.1, h9.2.2.2.2.1, h9.2.2.2.2.2.2.1, h9.2.2.2.2.2.2.2.1, trivial⟩
  obtain ⟨hr10, hb10⟩ := hp10
  have hb10s := hb10.size
  have hk10s := hk10.size
  have hz3l := lt_heap hz3
  refine wp_ret ?_
  refine wi_ret_wp hz10 ⟨rfl, rfl, rfl, rfl⟩ ⟨_, rfl, ?_, ?_⟩ a10 h10
  · have e : swF (subB ((List.range (quN t)).map (namV u))) G = swF (subP ((List.range (quN t)).map gB) ((List.range (quN t)).map (namV u))) G := by
      refine swF_congr (fun x => ?_) G
      have := subP_subB ((List.range (quN t)).map (namV u)) x
      rw [hln] at this
      exact this.symm
    rw [e]
    exact fmRep.keep hr10 (fun b hb => hk10.block b hb.2 (by omega)) (fun b hb => ⟨by omega, by omega⟩)
  · have h1 : Below w.heap.size w w10 := (hb3.trans (hb39.mono (by omega))).trans (hb10.mono (by omega))
    exact h1.trans (Keeps.below (B := w.heap.size) hk10 (fun k e => by have e : k = w.heap.size + 1 := e; omega) (by have := h1.size; omega))
end

section
open Go Go.RowKit
set_option linter.unusedSimpArgs false
set_option linter.unusedVariables false

set_option maxRecDepth 1000000 in
theorem frame_cq {P : Act → Prop} (h : ∀ x0 x1 x2 x3 x4 : Value, P ⟨(x0 :: x1 :: x2 :: x3 :: x4 :: []).toArray, []⟩) : ∀ a : Act, a.tmps.toList.length = 5 → a.defers = [] → P a := by
  rintro ⟨⟨l⟩, d⟩ hs hd
  simp only at hd
  subst hd
  revert l
  show ∀ l : List Value, l.length = 5 → P ⟨⟨l⟩, []⟩
  refine openS (n := 4) (fun x0 => ?_)
  refine openS (n := 3) (fun x1 => ?_)
  refine openS (n := 2) (fun x2 => ?_)
  refine openS (n := 1) (fun x3 => ?_)
  refine openS (n := 0) (fun x4 => ?_)
  refine open0 ?_
  exact h x0 x1 x2 x3 x4
noncomputable def c_cq_r0 : Code := sub [0] (Tryd.f49.body.getD .skip)
set_option maxRecDepth 1000000 in
set_option maxHeartbeats 16000000 in
theorem cq_r0_wp {Q : Exit → Act → World → Prop} {wo : World} {kd : Int} {nm : ByteArray} {A B : Option Addr} {n1 c1 n2 c2 : Nat} (hN : ∀ a', Frm 5 [(1, .pointer (some ⟨wo.heap.size, 0, none⟩)), (2, .pointer (some ⟨wo.heap.size + 1, 0, none⟩))] a' → Q .normal a' ((wo.alloc (.cells #[.int .i64 kd, .string nm, .slice A n1 c1, .slice B n2 c2] 25)).alloc (.cells #[.int .i64 0, .string ⟨#[]⟩, .slice none 0 0, .slice none 0 0] 25))) : ∀ ac, Frm 5 [(0, .agg #[.int .i64 kd, .string nm, .slice A n1 c1, .slice B n2 c2])] ac → Code.wp Tryd.prog c_cq_r0 Q ac wo := by
  refine frm_open ?_
  refine frame_cq ?_
  intros
  rename_i hq
  obtain ⟨-, -, e0q, -⟩ := hq
  obtain rfl := sI e0q
  conv => arg 2; whnf
  have HN := Lib.hid hN
  clear hN
  go_wp2_with fail
  exact HN.out _ (id ⟨rfl, rfl, rfl, rfl, trivial⟩)
noncomputable def c_cq_r1 : Code := sub [1, 0] (Tryd.f49.body.getD .skip)
set_option maxRecDepth 1000000 in
set_option maxHeartbeats 16000000 in
theorem cq_r1_wp {Q : Exit → Act → World → Prop} {PV : Int → ByteArray → Option Addr → Nat → Nat → Option Addr → Nat → Nat → World → Prop} {gz : Nat} {wo w : World} {kd : Int} {nm : ByteArray} {A B : Option Addr} {n1 c1 n2 c2 : Nat} (ha : w.heap[wo.heap.size]? = some (.cells #[.int .i64 kd, .string nm, .slice A n1 c1, .slice B n2 c2] 25 (0, 0))) (hc : Calls Tryd.prog 79 #[.agg #[.int .i64 kd, .string nm, .slice A n1 c1, .slice B n2 c2], .slice none 0 0] w fun e w' => ∃ ke ne Ae n3 c3 Be n4 c4, e = .returned (.agg #[.int .i64 ke, .string ne, .slice Ae n3 c3, .slice Be n4 c4]) ∧ w'.heap[gz]? = some (.cells #[.int .i64 0, .string ⟨#[]⟩, .slice none 0 0, .slice none 0 0] 25 (0, 0)) ∧ PV ke ne Ae n3 c3 Be n4 c4 w') (hN : ∀ ke ne Ae n3 c3 Be n4 c4 w1 a' w', Frm 5 [(2, .pointer (some ⟨gz, 0, none⟩))] a' → PV ke ne Ae n3 c3 Be n4 c4 w1 → w'.heap[gz]? = some (.cells #[.int .i64 ke, .string ne, .slice Ae n3 c3, .slice Be n4 c4] 25 (0, 0)) → Keeps (· = gz) w1 w' → Q .normal a' w') : ∀ ac, Frm 5 [(1, .pointer (some ⟨wo.heap.size, 0, none⟩)), (2, .pointer (some ⟨gz, 0, none⟩))] ac → Code.wp Tryd.prog c_cq_r1 Q ac w := by
  refine frm_open ?_
  refine frame_cq ?_
  intros
  rename_i hq
  obtain ⟨-, -, e0q, e1q, -⟩ := hq
  obtain rfl := sI e0q
  obtain rfl := sI e1q
  conv => arg 2; whnf
  have a0 := cellv ha 0 rfl
  have a1 := cellv ha 1 rfl
  have a2 := cellv ha 2 rfl
  have a3 := cellv ha 3 rfl
  have al := lt_heap ha
  clear ha
  have z0 := fun (W : World) (h : W.heap[gz]? = some (.cells #[.int .i64 0, .string ⟨#[]⟩, .slice none 0 0, .slice none 0 0] 25 (0, 0))) => cellv h 0 rfl
  have z1 := fun (W : World) (h : W.heap[gz]? = some (.cells #[.int .i64 0, .string ⟨#[]⟩, .slice none 0 0, .slice none 0 0] 25 (0, 0))) => cellv h 1 rfl
  have z2 := fun (W : World) (h : W.heap[gz]? = some (.cells #[.int .i64 0, .string ⟨#[]⟩, .slice none 0 0, .slice none 0 0] 25 (0, 0))) => cellv h 2 rfl
  have z3 := fun (W : World) (h : W.heap[gz]? = some (.cells #[.int .i64 0, .string ⟨#[]⟩, .slice none 0 0, .slice none 0 0] 25 (0, 0))) => cellv h 3 rfl
  have zf := fun (W : World) (h : W.heap[gz]? = some (.cells #[.int .i64 0, .string ⟨#[]⟩, .slice none 0 0, .slice none 0 0] 25 (0, 0))) => And.intro (free_heap h 0) (And.intro (free_heap h 1) (And.intro (free_heap h 2) (free_heap h 3)))
  have Z0 := Lib.hid z0
  have Z1 := Lib.hid z1
  have Z2 := Lib.hid z2
  have Z3 := Lib.hid z3
  have ZF := Lib.hid zf
  clear z0 z1 z2 z3 zf
  have HN := Lib.hid hN
  have HC := Lib.hid hc
  clear hN hc
  go_wp2_with fail
  (with_reducible refine HC.out.mono ?_)
  rintro e w1 ⟨ke, ne, Ae, n3, c3, Be, n4, c4, rfl, hz, hp⟩
  have y0 := Z0.out w1 hz
  have y1 := Z1.out w1 hz
  have y2 := Z2.out w1 hz
  have y3 := Z3.out w1 hz
  obtain ⟨yf0, yf1, yf2, yf3⟩ := ZF.out w1 hz
  have yl := lt_heap hz
  have HP := Lib.hid hp
  have HZ := Lib.hid hz
  clear hp hz
  go_wp2_with fail
  exact HN.out _ _ _ _ _ _ _ _ _ _ _ (id ⟨rfl, rfl, rfl, trivial⟩) HP.out (at4F HZ.out) (keeps4F (Keeps.refl _ _) (Or.inl rfl))
set_option maxRecDepth 1000000 in
theorem cq_ret_wp {R : Ending → World → Prop} {w' : World} {g : Nat} {v0 v1 v2 v3 : Value} (hg : w'.heap[g]? = some (.cells #[v0, v1, v2, v3] 25 (0, 0))) (ho : v0.oneCell' = true ∧ v1.oneCell' = true ∧ v2.oneCell' = true ∧ v3.oneCell' = true) (hR : R (.returned (.agg #[v0, v1, v2, v3])) w') : ∀ ac, Frm 5 [(2, .pointer (some ⟨g, 0, none⟩))] ac → bodyPost Tryd.prog Tryd.f49 R .ret ac w' := by
  refine frm_open ?_
  refine frame_cq ?_
  intros
  rename_i hq
  obtain ⟨-, -, e0q, -⟩ := hq
  obtain rfl := sI e0q
  have z0 := cellv hg 0 rfl
  have z1 := cellv hg 1 rfl
  have z2 := cellv hg 2 rfl
  have z3 := cellv hg 3 rfl
  have zl := lt_heap hg
  obtain ⟨o0, o1, o2, o3⟩ := ho
  refine bodyPost_ret (v := .agg #[v0, v1, v2, v3]) (by simp [results, Tryd.results49, go_sem, z0, z1, z2, z3, zl, o0, o1, o2, o3]) rfl ?_
  exact hR
set_option maxRecDepth 1000000 in
theorem frame_cf {P : Act → Prop} (h : ∀ x0 x1 x2 x3 x4 : Value, P ⟨(x0 :: x1 :: x2 :: x3 :: x4 :: []).toArray, []⟩) : ∀ a : Act, a.tmps.toList.length = 5 → a.defers = [] → P a := by
  rintro ⟨⟨l⟩, d⟩ hs hd
  simp only at hd
  subst hd
  revert l
  show ∀ l : List Value, l.length = 5 → P ⟨⟨l⟩, []⟩
  refine openS (n := 4) (fun x0 => ?_)
  refine openS (n := 3) (fun x1 => ?_)
  refine openS (n := 2) (fun x2 => ?_)
  refine openS (n := 1) (fun x3 => ?_)
  refine openS (n := 0) (fun x4 => ?_)
  refine open0 ?_
  exact h x0 x1 x2 x3 x4
noncomputable def c_cf_r0 : Code := sub [0] (Tryd.f27.body.getD .skip)
set_option maxRecDepth 1000000 in
set_option maxHeartbeats 16000000 in
theorem cf_r0_wp {Q : Exit → Act → World → Prop} {wo : World} {kd : Int} {nm : ByteArray} {A B : Option Addr} {n1 c1 n2 c2 : Nat} (hN : ∀ a', Frm 5 [(1, .pointer (some ⟨wo.heap.size, 0, none⟩)), (2, .pointer (some ⟨wo.heap.size + 1, 0, none⟩))] a' → Q .normal a' ((wo.alloc (.cells #[.int .i64 kd, .string nm, .slice A n1 c1, .slice B n2 c2] 25)).alloc (.cells #[.int .i64 0, .string ⟨#[]⟩, .slice none 0 0, .slice none 0 0] 25))) : ∀ ac, Frm 5 [(0, .agg #[.int .i64 kd, .string nm, .slice A n1 c1, .slice B n2 c2])] ac → Code.wp Tryd.prog c_cf_r0 Q ac wo := by
  refine frm_open ?_
  refine frame_cf ?_
  intros
  rename_i hq
  obtain ⟨-, -, e0q, -⟩ := hq
  obtain rfl := sI e0q
  conv => arg 2; whnf
  have HN := Lib.hid hN
  clear hN
  go_wp2_with fail
  exact HN.out _ (id ⟨rfl, rfl, rfl, rfl, trivial⟩)
noncomputable def c_cf_r1 : Code := sub [1, 0] (Tryd.f27.body.getD .skip)
set_option maxRecDepth 1000000 in
set_option maxHeartbeats 16000000 in
theorem cf_r1_wp {Q : Exit → Act → World → Prop} {PV : Int → ByteArray → Option Addr → Nat → Nat → Option Addr → Nat → Nat → World → Prop} {gz : Nat} {wo w : World} {kd : Int} {nm : ByteArray} {A B : Option Addr} {n1 c1 n2 c2 : Nat} (ha : w.heap[wo.heap.size]? = some (.cells #[.int .i64 kd, .string nm, .slice A n1 c1, .slice B n2 c2] 25 (0, 0))) (hc : Calls Tryd.prog 50 #[.agg #[.int .i64 kd, .string nm, .slice A n1 c1, .slice B n2 c2], .slice none 0 0, .slice none 0 0] w fun e w' => ∃ ke ne Ae n3 c3 Be n4 c4, e = .returned (.agg #[.int .i64 ke, .string ne, .slice Ae n3 c3, .slice Be n4 c4]) ∧ w'.heap[gz]? = some (.cells #[.int .i64 0, .string ⟨#[]⟩, .slice none 0 0, .slice none 0 0] 25 (0, 0)) ∧ PV ke ne Ae n3 c3 Be n4 c4 w') (hN : ∀ ke ne Ae n3 c3 Be n4 c4 w1 a' w', Frm 5 [(2, .pointer (some ⟨gz, 0, none⟩))] a' → PV ke ne Ae n3 c3 Be n4 c4 w1 → w'.heap[gz]? = some (.cells #[.int .i64 ke, .string ne, .slice Ae n3 c3, .slice Be n4 c4] 25 (0, 0)) → Keeps (· = gz) w1 w' → Q .normal a' w') : ∀ ac, Frm 5 [(1, .pointer (some ⟨wo.heap.size, 0, none⟩)), (2, .pointer (some ⟨gz, 0, none⟩))] ac → Code.wp Tryd.prog c_cf_r1 Q ac w := by
  refine frm_open ?_
  refine frame_cf ?_
  intros
  rename_i hq
  obtain ⟨-, -, e0q, e1q, -⟩ := hq
  obtain rfl := sI e0q
  obtain rfl := sI e1q
  conv => arg 2; whnf
  have a0 := cellv ha 0 rfl
  have a1 := cellv ha 1 rfl
  have a2 := cellv ha 2 rfl
  have a3 := cellv ha 3 rfl
  have al := lt_heap ha
  clear ha
  have z0 := fun (W : World) (h : W.heap[gz]? = some (.cells #[.int .i64 0, .string ⟨#[]⟩, .slice none 0 0, .slice none 0 0] 25 (0, 0))) => cellv h 0 rfl
  have z1 := fun (W : World) (h : W.heap[gz]? = some (.cells #[.int .i64 0, .string ⟨#[]⟩, .slice none 0 0, .slice none 0 0] 25 (0, 0))) => cellv h 1 rfl
  have z2 := fun (W : World) (h : W.heap[gz]? = some (.cells #[.int .i64 0, .string ⟨#[]⟩, .slice none 0 0, .slice none 0 0] 25 (0, 0))) => cellv h 2 rfl
  have z3 := fun (W : World) (h : W.heap[gz]? = some (.cells #[.int .i64 0, .string ⟨#[]⟩, .slice none 0 0, .slice none 0 0] 25 (0, 0))) => cellv h 3 rfl
  have zf := fun (W : World) (h : W.heap[gz]? = some (.cells #[.int .i64 0, .string ⟨#[]⟩, .slice none 0 0, .slice none 0 0] 25 (0, 0))) => And.intro (free_heap h 0) (And.intro (free_heap h 1) (And.intro (free_heap h 2) (free_heap h 3)))
  have Z0 := Lib.hid z0
  have Z1 := Lib.hid z1
  have Z2 := Lib.hid z2
  have Z3 := Lib.hid z3
  have ZF := Lib.hid zf
  clear z0 z1 z2 z3 zf
  have HN := Lib.hid hN
  have HC := Lib.hid hc
  clear hN hc
  go_wp2_with fail
  (with_reducible refine HC.out.mono ?_)
  rintro e w1 ⟨ke, ne, Ae, n3, c3, Be, n4, c4, rfl, hz, hp⟩
  have y0 := Z0.out w1 hz
  have y1 := Z1.out w1 hz
  have y2 := Z2.out w1 hz
  have y3 := Z3.out w1 hz
  obtain ⟨yf0, yf1, yf2, yf3⟩ := ZF.out w1 hz
  have yl := lt_heap hz
  have HP := Lib.hid hp
  have HZ := Lib.hid hz
  clear hp hz
  go_wp2_with fail
  exact HN.out _ _ _ _ _ _ _ _ _ _ _ (id ⟨rfl, rfl, rfl, trivial⟩) HP.out (at4F HZ.out) (keeps4F (Keeps.refl _ _) (Or.inl rfl))
set_option maxRecDepth 1000000 in
theorem cf_ret_wp {R : Ending → World → Prop} {w' : World} {g : Nat} {v0 v1 v2 v3 : Value} (hg : w'.heap[g]? = some (.cells #[v0, v1, v2, v3] 25 (0, 0))) (ho : v0.oneCell' = true ∧ v1.oneCell' = true ∧ v2.oneCell' = true ∧ v3.oneCell' = true) (hR : R (.returned (.agg #[v0, v1, v2, v3])) w') : ∀ ac, Frm 5 [(2, .pointer (some ⟨g, 0, none⟩))] ac → bodyPost Tryd.prog Tryd.f27 R .ret ac w' := by
  refine frm_open ?_
  refine frame_cf ?_
  intros
  rename_i hq
  obtain ⟨-, -, e0q, -⟩ := hq
  obtain rfl := sI e0q
  have z0 := cellv hg 0 rfl
  have z1 := cellv hg 1 rfl
  have z2 := cellv hg 2 rfl
  have z3 := cellv hg 3 rfl
  have zl := lt_heap hg
  obtain ⟨o0, o1, o2, o3⟩ := ho
  refine bodyPost_ret (v := .agg #[v0, v1, v2, v3]) (by simp [results, Tryd.results27, go_sem, z0, z1, z2, z3, zl, o0, o1, o2, o3]) rfl ?_
  exact hR
set_option maxRecDepth 100000 in
set_option maxHeartbeats 4000000 in
theorem canonQ_any (v : Fv) (hv : v.ok) (hn : v.nodes ≤ 200) (cs : List Value) (w : World) (S : Nat → Prop) (ht : fmRep.R w S v.fm cs) (hS : ∀ b, S b → b < w.heap.size) (htab : ∀ W, Below w.heap.size w W → Lib.TabIs Tryd.prog W "internal/strconv.uint64pow10" .u64 Lib.pow10Tab) :
    Calls Tryd.prog 49 #[.agg cs.toArray] w fun e w' => ∃ es : List Value, e = .returned (.agg es.toArray) ∧ fmRep.R w' (fun b => w.heap.size ≤ b ∧ b < w'.heap.size) (canF [] v.fm) es ∧ Below w.heap.size w w' := by
  obtain ⟨A, n1, c1, B, n2, c2, rfl, _, _, _, _⟩ := Fm.shape ht
  obtain ⟨kd, hkd⟩ : ∃ k, v.fm.lab.kind = k := ⟨_, rfl⟩
  obtain ⟨nm, hnm⟩ : ∃ k, v.fm.lab.nm = k := ⟨_, rfl⟩
  rw [hkd, hnm] at ht ⊢
  go_enter Tryd.func49, Tryd.ntmps49
  refine wp_seq ?_
  refine cq_r0_wp (fun a0 h0 => ?_) _ (id ⟨rfl, rfl, rfl, trivial⟩)
  refine gen_last (fun wx => wx.heap[w.heap.size]? = some (.cells #[.int .i64 kd, .string nm, .slice A n1 c1, .slice B n2 c2] 25 (0, 0)) ∧ wx.heap[w.heap.size + 1]? = some (.cells #[.int .i64 0, .string ⟨#[]⟩, .slice none 0 0, .slice none 0 0] 25 (0, 0)) ∧ wx.heap.size = w.heap.size + 2 ∧ Below w.heap.size w wx) ⟨heap_old (by simp) (heap_at (by simp)), heap_at (by simp), by simp, ((Below.refl _ _).alloc (Nat.le_refl _) _).alloc (by simp) _⟩ ?_
  rintro wx ⟨ha, hz, hsz, hb⟩
  have hc := (canon_any v hv hn [.int .i64 kd, .string nm, .slice A n1 c1, .slice B n2 c2] wx S none 0 0 [] (by simp) (fun _ => rfl) (Nat.le_refl _) (fmRep.keep ht (fun b h => hb.block b (hS b h)) (fun _ h => h)) (fun b h => by have := hS b h; omega) Rep.Sl.nil (fun W h => htab W (hb.trans (h.mono (by omega))))).mono (R' := fun e w' => ∃ ke ne Ae n3 c3 Be n4 c4, e = .returned (.agg #[.int .i64 ke, .string ne, .slice Ae n3 c3, .slice Be n4 c4]) ∧ w'.heap[w.heap.size + 1]? = some (.cells #[.int .i64 0, .string ⟨#[]⟩, .slice none 0 0, .slice none 0 0] 25 (0, 0)) ∧ (fmRep.R w' (fun b => wx.heap.size ≤ b ∧ b < w'.heap.size) (canF [] v.fm) [.int .i64 ke, .string ne, .slice Ae n3 c3, .slice Be n4 c4] ∧ Below wx.heap.size wx w')) (by
    rintro e w' ⟨es, rfl, hr, hb9⟩
    obtain ⟨A5, n5, c5, B5, n6, c6, rfl, _, _, _, _⟩ := Fm.shape hr
    exact ⟨_, _, _, _, _, _, _, _, rfl, (hb9.block _ (lt_heap hz)).trans hz, hr, hb9⟩)
  refine wp_seq ?_
  refine cq_r1_wp ha hc (fun ke ne Ae n3 c3 Be n4 c4 w5 a6 w6 h6 hp6 hz6 hk6 => ?_) a0 h0
  obtain ⟨hr5, hb5⟩ := hp6
  have hk6s := hk6.size
  have hb5s := hb5.size
  refine wp_ret ?_
  refine cq_ret_wp hz6 ⟨rfl, rfl, rfl, rfl⟩ ⟨_, rfl, ?_, ?_⟩ a6 h6
  · exact fmRep.keep hr5 (fun b hb => hk6.block b hb.2 (by omega)) (fun b hb => ⟨by omega, by omega⟩)
  · have h1 : Below w.heap.size w w5 := hb.trans (hb5.mono (by omega))
    exact h1.trans (Keeps.below (B := w.heap.size) hk6 (fun k e => by have e : k = w.heap.size + 1 := e; omega) (by have := h1.size; omega))
set_option maxRecDepth 100000 in
set_option maxHeartbeats 4000000 in
theorem refCanonForm_any (v : Fv) (hv : v.ok) (hn : v.nodes ≤ 200) (cs : List Value) (w : World) (S : Nat → Prop) (ht : fmRep.R w S v.fm cs) (hS : ∀ b, S b → b < w.heap.size) :
    Calls Tryd.prog 27 #[.agg cs.toArray] w fun e w' => ∃ es : List Value, e = .returned (.agg es.toArray) ∧ fmRep.R w' (fun b => w.heap.size ≤ b ∧ b < w'.heap.size) (canR [] v.fm) es ∧ Below w.heap.size w w' := by
  obtain ⟨A, n1, c1, B, n2, c2, rfl, _, _, _, _⟩ := Fm.shape ht
  obtain ⟨kd, hkd⟩ : ∃ k, v.fm.lab.kind = k := ⟨_, rfl⟩
  obtain ⟨nm, hnm⟩ : ∃ k, v.fm.lab.nm = k := ⟨_, rfl⟩
  rw [hkd, hnm] at ht ⊢
  go_enter Tryd.func27, Tryd.ntmps27
  refine wp_seq ?_
  refine cf_r0_wp (fun a0 h0 => ?_) _ (id ⟨rfl, rfl, rfl, trivial⟩)
  refine gen_last (fun wx => wx.heap[w.heap.size]? = some (.cells #[.int .i64 kd, .string nm, .slice A n1 c1, .slice B n2 c2] 25 (0, 0)) ∧ wx.heap[w.heap.size + 1]? = some (.cells #[.int .i64 0, .string ⟨#[]⟩, .slice none 0 0, .slice none 0 0] 25 (0, 0)) ∧ wx.heap.size = w.heap.size + 2 ∧ Below w.heap.size w wx) ⟨heap_old (by simp) (heap_at (by simp)), heap_at (by simp), by simp, ((Below.refl _ _).alloc (Nat.le_refl _) _).alloc (by simp) _⟩ ?_
  rintro wx ⟨ha, hz, hsz, hb⟩
  have hc := (refWith_any v hv hn [.int .i64 kd, .string nm, .slice A n1 c1, .slice B n2 c2] wx S none none 0 0 0 0 [] (by simp) (fmRep.keep ht (fun b h => hb.block b (hS b h)) (fun _ h => h)) (fun b h => by have := hS b h; omega) Rep.Sl.nil Rep.Sl.nil).mono (R' := fun e w' => ∃ ke ne Ae n3 c3 Be n4 c4, e = .returned (.agg #[.int .i64 ke, .string ne, .slice Ae n3 c3, .slice Be n4 c4]) ∧ w'.heap[w.heap.size + 1]? = some (.cells #[.int .i64 0, .string ⟨#[]⟩, .slice none 0 0, .slice none 0 0] 25 (0, 0)) ∧ (fmRep.R w' (fun b => wx.heap.size ≤ b ∧ b < w'.heap.size) (canR [] v.fm) [.int .i64 ke, .string ne, .slice Ae n3 c3, .slice Be n4 c4] ∧ Below wx.heap.size wx w')) (by
    rintro e w' ⟨es, rfl, hr, hb9⟩
    obtain ⟨A5, n5, c5, B5, n6, c6, rfl, _, _, _, _⟩ := Fm.shape hr
    exact ⟨_, _, _, _, _, _, _, _, rfl, (hb9.block _ (lt_heap hz)).trans hz, hr, hb9⟩)
  refine wp_seq ?_
  refine cf_r1_wp ha hc (fun ke ne Ae n3 c3 Be n4 c4 w5 a6 w6 h6 hp6 hz6 hk6 => ?_) a0 h0
  obtain ⟨hr5, hb5⟩ := hp6
  have hk6s := hk6.size
  have hb5s := hb5.size
  refine wp_ret ?_
  refine cf_ret_wp hz6 ⟨rfl, rfl, rfl, rfl⟩ ⟨_, rfl, ?_, ?_⟩ a6 h6
  · exact fmRep.keep hr5 (fun b hb => hk6.block b hb.2 (by omega)) (fun b hb => ⟨by omega, by omega⟩)
  · have h1 : Below w.heap.size w w5 := hb.trans (hb5.mono (by omega))
    exact h1.trans (Keeps.below (B := w.heap.size) hk6 (fun k e => by have e : k = w.heap.size + 1 := e; omega) (by have := h1.size; omega))
set_option maxRecDepth 1000000 in
theorem frame_bd {P : Act → Prop} (h : ∀ x0 x1 x2 x3 x4 x5 x6 x7 x8 x9 x10 x11 x12 x13 x14 : Value, P ⟨(x0 :: x1 :: x2 :: x3 :: x4 :: x5 :: x6 :: x7 :: x8 :: x9 :: x10 :: x11 :: x12 :: x13 :: x14 :: []).toArray, []⟩) : ∀ a : Act, a.tmps.toList.length = 15 → a.defers = [] → P a := by
  rintro ⟨⟨l⟩, d⟩ hs hd
  simp only at hd
  subst hd
  revert l
  show ∀ l : List Value, l.length = 15 → P ⟨⟨l⟩, []⟩
  refine openS (n := 14) (fun x0 => ?_)
  refine openS (n := 13) (fun x1 => ?_)
  refine openS (n := 12) (fun x2 => ?_)
  refine openS (n := 11) (fun x3 => ?_)
  refine openS (n := 10) (fun x4 => ?_)
  refine openS (n := 9) (fun x5 => ?_)
  refine openS (n := 8) (fun x6 => ?_)
  refine openS (n := 7) (fun x7 => ?_)
  refine openS (n := 6) (fun x8 => ?_)
  refine openS (n := 5) (fun x9 => ?_)
  refine openS (n := 4) (fun x10 => ?_)
  refine openS (n := 3) (fun x11 => ?_)
  refine openS (n := 2) (fun x12 => ?_)
  refine openS (n := 1) (fun x13 => ?_)
  refine openS (n := 0) (fun x14 => ?_)
  refine open0 ?_
  exact h x0 x1 x2 x3 x4 x5 x6 x7 x8 x9 x10 x11 x12 x13 x14
noncomputable def c_bd_r0 : Code := sub [0] (Tryd.f53.body.getD .skip)
set_option maxRecDepth 1000000 in
set_option maxHeartbeats 16000000 in
theorem bd_r0_wp {Q : Exit → Act → World → Prop} {y : ByteArray} {wo : World} {kd : Int} {nm : ByteArray} {A B : Option Addr} {n1 c1 n2 c2 : Nat} (hN : ∀ a', Frm 15 [(1, .string y), (2, .pointer (some ⟨wo.heap.size, 0, none⟩)), (4, .pointer (some ⟨wo.heap.size + 1, 0, none⟩))] a' → Q .normal a' ((wo.alloc (.cells #[.int .i64 kd, .string nm, .slice A n1 c1, .slice B n2 c2] 25)).alloc (.cells #[.int .i64 0, .string ⟨#[]⟩, .slice none 0 0, .slice none 0 0] 25))) : ∀ ac, Frm 15 [(0, .agg #[.int .i64 kd, .string nm, .slice A n1 c1, .slice B n2 c2]), (1, .string y)] ac → Code.wp Tryd.prog c_bd_r0 Q ac wo := by
  refine frm_open ?_
  refine frame_bd ?_
  intros
  rename_i hq
  obtain ⟨-, -, e0q, e1q, -⟩ := hq
  obtain rfl := sI e0q
  obtain rfl := sI e1q
  conv => arg 2; whnf
  have HN := Lib.hid hN
  clear hN
  go_wp2_with fail
  exact HN.out _ (id ⟨rfl, rfl, rfl, rfl, rfl, trivial⟩)
noncomputable def c_bd_r1 : Code := sub [1, 0] (Tryd.f53.body.getD .skip)
set_option maxRecDepth 1000000 in
set_option maxHeartbeats 16000000 in
theorem bd_r1_wp {K : Act → World → Prop} {PV : Int → ByteArray → Option Addr → Nat → Nat → Option Addr → Nat → Nat → World → Prop} {gz b o : Nat} {y : ByteArray} {ke : Int} {ne : ByteArray} {Ae Be : Option Addr} {n3 c3 n4 c4 : Nat} {wo w : World} {kd : Int} {nm : ByteArray} {A : Option Addr} {n1 c1 n2 c2 : Nat} (hn2 : 0 < n2) (ha : w.heap[wo.heap.size]? = some (.cells #[.int .i64 kd, .string nm, .slice A n1 c1, .slice (some ⟨b, o, none⟩) n2 c2] 25 (0, 0))) (e0 : w.cell? ⟨b, o, none⟩ = some (.int .i64 ke)) (e1 : w.cell? ⟨b, o + 1, none⟩ = some (.string ne)) (e2 : w.cell? ⟨b, o + 2, none⟩ = some (.slice Ae n3 c3)) (e3 : w.cell? ⟨b, o + 3, none⟩ = some (.slice Be n4 c4)) (hbl : b < w.heap.size) (hc : ∀ W : World, Below w.heap.size w W → W.heap[w.heap.size]? = some (.cells #[.string nm, .string y] 111 (0, 0)) → Calls Tryd.prog 79 #[.agg #[.int .i64 ke, .string ne, .slice Ae n3 c3, .slice Be n4 c4], .slice (some ⟨w.heap.size, 0, none⟩) 1 1] W fun e w' => ∃ ke ne Ae n3 c3 Be n4 c4, e = .returned (.agg #[.int .i64 ke, .string ne, .slice Ae n3 c3, .slice Be n4 c4]) ∧ w'.heap[gz]? = some (.cells #[.int .i64 0, .string ⟨#[]⟩, .slice none 0 0, .slice none 0 0] 25 (0, 0)) ∧ PV ke ne Ae n3 c3 Be n4 c4 w') (hN : ∀ ke ne Ae n3 c3 Be n4 c4 w1 a' w', Frm 15 [(4, .pointer (some ⟨gz, 0, none⟩))] a' → PV ke ne Ae n3 c3 Be n4 c4 w1 → w'.heap[gz]? = some (.cells #[.int .i64 ke, .string ne, .slice Ae n3 c3, .slice Be n4 c4] 25 (0, 0)) → Keeps (· = gz) w1 w' → K a' w') : ∀ ac, Frm 15 [(1, .string y), (2, .pointer (some ⟨wo.heap.size, 0, none⟩)), (4, .pointer (some ⟨gz, 0, none⟩))] ac → Code.wp Tryd.prog c_bd_r1 (Exit.then K (fun _ _ _ => False)) ac w := by
  refine frm_open ?_
  refine frame_bd ?_
  intros
  rename_i hq
  obtain ⟨-, -, e0q, e1q, e2q, -⟩ := hq
  obtain rfl := sI e0q
  obtain rfl := sI e1q
  obtain rfl := sI e2q
  conv => arg 2; whnf
  have q0 : (0 : Int) ≤ 0 := by omega
  have q1 : (0 : Int) < (n2 : Int) := by omega
  have a1 : w.cell? ⟨wo.heap.size, 1, none⟩ = some (.string nm) := cellv ha 1 rfl
  have a3 : w.cell? ⟨wo.heap.size, 3, none⟩ = some (.slice (some ⟨b, o, none⟩) n2 c2) := cellv ha 3 rfl
  have al := lt_heap ha
  have z0 := fun (W : World) (h : W.heap[gz]? = some (.cells #[.int .i64 0, .string ⟨#[]⟩, .slice none 0 0, .slice none 0 0] 25 (0, 0))) => cellv h 0 rfl
  have z1 := fun (W : World) (h : W.heap[gz]? = some (.cells #[.int .i64 0, .string ⟨#[]⟩, .slice none 0 0, .slice none 0 0] 25 (0, 0))) => cellv h 1 rfl
  have z2 := fun (W : World) (h : W.heap[gz]? = some (.cells #[.int .i64 0, .string ⟨#[]⟩, .slice none 0 0, .slice none 0 0] 25 (0, 0))) => cellv h 2 rfl
  have z3 := fun (W : World) (h : W.heap[gz]? = some (.cells #[.int .i64 0, .string ⟨#[]⟩, .slice none 0 0, .slice none 0 0] 25 (0, 0))) => cellv h 3 rfl
  have zf := fun (W : World) (h : W.heap[gz]? = some (.cells #[.int .i64 0, .string ⟨#[]⟩, .slice none 0 0, .slice none 0 0] 25 (0, 0))) => And.intro (free_heap h 0) (And.intro (free_heap h 1) (And.intro (free_heap h 2) (free_heap h 3)))
  have Z0 := Lib.hid z0
  have Z1 := Lib.hid z1
  have Z2 := Lib.hid z2
  have Z3 := Lib.hid z3
  have ZF := Lib.hid zf
  clear z0 z1 z2 z3 zf ha
  have HN := Lib.hid hN
  have HC := Lib.hid hc
  clear hN hc
  go_region_law (first
    | (refine step_call (by rfl) 79 _ ?hargs (HC.out _ ?hbel ?hcell) ?_; (case hargs => (go_simp; done)); (case hbel => (go_grown)); (case hcell => (first | exact heap_alloc_new _ _ | exact heap_drew (heap_alloc_new _ _) | exact heap_alloc_new w.drew _)); rintro e w1 ⟨ke', ne', Ae', n3', c3', Be', n4', c4', rfl, hz, hp⟩; refine ⟨_, rfl, ?_⟩; have y0 := Z0.out w1 hz; have y1 := Z1.out w1 hz; have y2 := Z2.out w1 hz; have y3 := Z3.out w1 hz; obtain ⟨yf0, yf1, yf2, yf3⟩ := ZF.out w1 hz; have yl := lt_heap hz; have HP := Lib.hid hp; have HZ := Lib.hid hz; clear hp hz))
  all_goals go_wp2_with fail
  all_goals exact HN.out _ _ _ _ _ _ _ _ _ _ _ (id ⟨rfl, rfl, rfl, trivial⟩) HP.out (at4F HZ.out) (keeps4F (Keeps.refl _ _) (Or.inl rfl))
set_option maxRecDepth 1000000 in
theorem bd_ret_wp {R : Ending → World → Prop} {w' : World} {g : Nat} {v0 v1 v2 v3 : Value} (hg : w'.heap[g]? = some (.cells #[v0, v1, v2, v3] 25 (0, 0))) (ho : v0.oneCell' = true ∧ v1.oneCell' = true ∧ v2.oneCell' = true ∧ v3.oneCell' = true) (hR : R (.returned (.agg #[v0, v1, v2, v3])) w') : ∀ ac, Frm 15 [(4, .pointer (some ⟨g, 0, none⟩))] ac → bodyPost Tryd.prog Tryd.f53 R .ret ac w' := by
  refine frm_open ?_
  refine frame_bd ?_
  intros
  rename_i hq
  obtain ⟨-, -, e0q, -⟩ := hq
  obtain rfl := sI e0q
  have z0 := cellv hg 0 rfl
  have z1 := cellv hg 1 rfl
  have z2 := cellv hg 2 rfl
  have z3 := cellv hg 3 rfl
  have zl := lt_heap hg
  obtain ⟨o0, o1, o2, o3⟩ := ho
  refine bodyPost_ret (v := .agg #[v0, v1, v2, v3]) (by simp [results, Tryd.results53, go_sem, z0, z1, z2, z3, zl, o0, o1, o2, o3]) rfl ?_
  exact hR
set_option maxRecDepth 1000000 in
theorem frame_io {P : Act → Prop} (h : ∀ x0 x1 x2 x3 x4 x5 x6 x7 x8 x9 x10 x11 x12 x13 x14 : Value, P ⟨(x0 :: x1 :: x2 :: x3 :: x4 :: x5 :: x6 :: x7 :: x8 :: x9 :: x10 :: x11 :: x12 :: x13 :: x14 :: []).toArray, []⟩) : ∀ a : Act, a.tmps.toList.length = 15 → a.defers = [] → P a := by
  rintro ⟨⟨l⟩, d⟩ hs hd
  simp only at hd
  subst hd
  revert l
  show ∀ l : List Value, l.length = 15 → P ⟨⟨l⟩, []⟩
  refine openS (n := 14) (fun x0 => ?_)
  refine openS (n := 13) (fun x1 => ?_)
  refine openS (n := 12) (fun x2 => ?_)
  refine openS (n := 11) (fun x3 => ?_)
  refine openS (n := 10) (fun x4 => ?_)
  refine openS (n := 9) (fun x5 => ?_)
  refine openS (n := 8) (fun x6 => ?_)
  refine openS (n := 7) (fun x7 => ?_)
  refine openS (n := 6) (fun x8 => ?_)
  refine openS (n := 5) (fun x9 => ?_)
  refine openS (n := 4) (fun x10 => ?_)
  refine openS (n := 3) (fun x11 => ?_)
  refine openS (n := 2) (fun x12 => ?_)
  refine openS (n := 1) (fun x13 => ?_)
  refine openS (n := 0) (fun x14 => ?_)
  refine open0 ?_
  exact h x0 x1 x2 x3 x4 x5 x6 x7 x8 x9 x10 x11 x12 x13 x14
noncomputable def c_io_r0 : Code := sub [0] (Tryd.f33.body.getD .skip)
set_option maxRecDepth 1000000 in
set_option maxHeartbeats 16000000 in
theorem io_r0_wp {Q : Exit → Act → World → Prop} {y : ByteArray} {wo : World} {kd : Int} {nm : ByteArray} {A B : Option Addr} {n1 c1 n2 c2 : Nat} (hN : ∀ a', Frm 15 [(1, .string y), (2, .pointer (some ⟨wo.heap.size, 0, none⟩)), (4, .pointer (some ⟨wo.heap.size + 1, 0, none⟩))] a' → Q .normal a' ((wo.alloc (.cells #[.int .i64 kd, .string nm, .slice A n1 c1, .slice B n2 c2] 25)).alloc (.cells #[.int .i64 0, .string ⟨#[]⟩, .slice none 0 0, .slice none 0 0] 25))) : ∀ ac, Frm 15 [(0, .agg #[.int .i64 kd, .string nm, .slice A n1 c1, .slice B n2 c2]), (1, .string y)] ac → Code.wp Tryd.prog c_io_r0 Q ac wo := by
  refine frm_open ?_
  refine frame_io ?_
  intros
  rename_i hq
  obtain ⟨-, -, e0q, e1q, -⟩ := hq
  obtain rfl := sI e0q
  obtain rfl := sI e1q
  conv => arg 2; whnf
  have HN := Lib.hid hN
  clear hN
  go_wp2_with fail
  exact HN.out _ (id ⟨rfl, rfl, rfl, rfl, rfl, trivial⟩)
noncomputable def c_io_r1 : Code := sub [1, 0] (Tryd.f33.body.getD .skip)
set_option maxRecDepth 1000000 in
set_option maxHeartbeats 16000000 in
theorem io_r1_wp {K : Act → World → Prop} {PV : Int → ByteArray → Option Addr → Nat → Nat → Option Addr → Nat → Nat → World → Prop} {gz b o : Nat} {y : ByteArray} {ke : Int} {ne : ByteArray} {Ae Be : Option Addr} {n3 c3 n4 c4 : Nat} {wo w : World} {kd : Int} {nm : ByteArray} {A : Option Addr} {n1 c1 n2 c2 : Nat} (hn2 : 0 < n2) (ha : w.heap[wo.heap.size]? = some (.cells #[.int .i64 kd, .string nm, .slice A n1 c1, .slice (some ⟨b, o, none⟩) n2 c2] 25 (0, 0))) (e0 : w.cell? ⟨b, o, none⟩ = some (.int .i64 ke)) (e1 : w.cell? ⟨b, o + 1, none⟩ = some (.string ne)) (e2 : w.cell? ⟨b, o + 2, none⟩ = some (.slice Ae n3 c3)) (e3 : w.cell? ⟨b, o + 3, none⟩ = some (.slice Be n4 c4)) (hbl : b < w.heap.size) (hc : ∀ (W : World) (g1 g2 : Nat), Below w.heap.size w W → W.heap[g1]? = some (.cells #[.string nm] 9 (0, 0)) → W.heap[g2]? = some (.cells #[.string y] 9 (0, 0)) → Calls Tryd.prog 50 #[.agg #[.int .i64 ke, .string ne, .slice Ae n3 c3, .slice Be n4 c4], .slice (some ⟨g1, 0, none⟩) 1 1, .slice (some ⟨g2, 0, none⟩) 1 1] W fun e w' => ∃ ke ne Ae n3 c3 Be n4 c4, e = .returned (.agg #[.int .i64 ke, .string ne, .slice Ae n3 c3, .slice Be n4 c4]) ∧ w'.heap[gz]? = some (.cells #[.int .i64 0, .string ⟨#[]⟩, .slice none 0 0, .slice none 0 0] 25 (0, 0)) ∧ PV ke ne Ae n3 c3 Be n4 c4 w') (hN : ∀ ke ne Ae n3 c3 Be n4 c4 w1 a' w', Frm 15 [(4, .pointer (some ⟨gz, 0, none⟩))] a' → PV ke ne Ae n3 c3 Be n4 c4 w1 → w'.heap[gz]? = some (.cells #[.int .i64 ke, .string ne, .slice Ae n3 c3, .slice Be n4 c4] 25 (0, 0)) → Keeps (· = gz) w1 w' → K a' w') : ∀ ac, Frm 15 [(1, .string y), (2, .pointer (some ⟨wo.heap.size, 0, none⟩)), (4, .pointer (some ⟨gz, 0, none⟩))] ac → Code.wp Tryd.prog c_io_r1 (Exit.then K (fun _ _ _ => False)) ac w := by
  refine frm_open ?_
  refine frame_io ?_
  intros
  rename_i hq
  obtain ⟨-, -, e0q, e1q, e2q, -⟩ := hq
  obtain rfl := sI e0q
  obtain rfl := sI e1q
  obtain rfl := sI e2q
  conv => arg 2; whnf
  have q0 : (0 : Int) ≤ 0 := by omega
  have q1 : (0 : Int) < (n2 : Int) := by omega
  have a1 : w.cell? ⟨wo.heap.size, 1, none⟩ = some (.string nm) := cellv ha 1 rfl
  have a3 : w.cell? ⟨wo.heap.size, 3, none⟩ = some (.slice (some ⟨b, o, none⟩) n2 c2) := cellv ha 3 rfl
  have al := lt_heap ha
  have z0 := fun (W : World) (h : W.heap[gz]? = some (.cells #[.int .i64 0, .string ⟨#[]⟩, .slice none 0 0, .slice none 0 0] 25 (0, 0))) => cellv h 0 rfl
  have z1 := fun (W : World) (h : W.heap[gz]? = some (.cells #[.int .i64 0, .string ⟨#[]⟩, .slice none 0 0, .slice none 0 0] 25 (0, 0))) => cellv h 1 rfl
  have z2 := fun (W : World) (h : W.heap[gz]? = some (.cells #[.int .i64 0, .string ⟨#[]⟩, .slice none 0 0, .slice none 0 0] 25 (0, 0))) => cellv h 2 rfl
  have z3 := fun (W : World) (h : W.heap[gz]? = some (.cells #[.int .i64 0, .string ⟨#[]⟩, .slice none 0 0, .slice none 0 0] 25 (0, 0))) => cellv h 3 rfl
  have zf := fun (W : World) (h : W.heap[gz]? = some (.cells #[.int .i64 0, .string ⟨#[]⟩, .slice none 0 0, .slice none 0 0] 25 (0, 0))) => And.intro (free_heap h 0) (And.intro (free_heap h 1) (And.intro (free_heap h 2) (free_heap h 3)))
  have Z0 := Lib.hid z0
  have Z1 := Lib.hid z1
  have Z2 := Lib.hid z2
  have Z3 := Lib.hid z3
  have ZF := Lib.hid zf
  clear z0 z1 z2 z3 zf ha
  have HN := Lib.hid hN
  have HC := Lib.hid hc
  clear hN hc
  go_region_law (first
    | (refine step_call (by rfl) 50 _ ?hargs (HC.out _ (w.heap.size) (w.heap.size + 1) ?hbel ?hcell ?hcell2) ?_; (case hargs => (go_simp; done)); (case hbel => (go_grown)); (case hcell => (first | exact heap_at (by simp) | exact heap_drew (heap_at (by simp)) | exact heap_old (by simp) (heap_at (by simp)) | exact heap_drew (heap_old (by simp) (heap_at (by simp))) | (simp [World.alloc, World.drew]; done))); (case hcell2 => (first | exact heap_at (by simp) | exact heap_drew (heap_at (by simp)) | exact heap_old (by simp) (heap_at (by simp)) | exact heap_drew (heap_old (by simp) (heap_at (by simp))) | (simp [World.alloc, World.drew]; done))); rintro e w1 ⟨ke', ne', Ae', n3', c3', Be', n4', c4', rfl, hz, hp⟩; refine ⟨_, rfl, ?_⟩; have y0 := Z0.out w1 hz; have y1 := Z1.out w1 hz; have y2 := Z2.out w1 hz; have y3 := Z3.out w1 hz; obtain ⟨yf0, yf1, yf2, yf3⟩ := ZF.out w1 hz; have yl := lt_heap hz; have HP := Lib.hid hp; have HZ := Lib.hid hz; clear hp hz)
    | (refine step_call (by rfl) 50 _ ?hargs (HC.out _ (w.heap.size + 1) (w.heap.size) ?hbel ?hcell ?hcell2) ?_; (case hargs => (go_simp; done)); (case hbel => (go_grown)); (case hcell => (first | exact heap_at (by simp) | exact heap_drew (heap_at (by simp)) | exact heap_old (by simp) (heap_at (by simp)) | exact heap_drew (heap_old (by simp) (heap_at (by simp))) | (simp [World.alloc, World.drew]; done))); (case hcell2 => (first | exact heap_at (by simp) | exact heap_drew (heap_at (by simp)) | exact heap_old (by simp) (heap_at (by simp)) | exact heap_drew (heap_old (by simp) (heap_at (by simp))) | (simp [World.alloc, World.drew]; done))); rintro e w1 ⟨ke', ne', Ae', n3', c3', Be', n4', c4', rfl, hz, hp⟩; refine ⟨_, rfl, ?_⟩; have y0 := Z0.out w1 hz; have y1 := Z1.out w1 hz; have y2 := Z2.out w1 hz; have y3 := Z3.out w1 hz; obtain ⟨yf0, yf1, yf2, yf3⟩ := ZF.out w1 hz; have yl := lt_heap hz; have HP := Lib.hid hp; have HZ := Lib.hid hz; clear hp hz))
  all_goals go_wp2_with fail
  all_goals exact HN.out _ _ _ _ _ _ _ _ _ _ _ (id ⟨rfl, rfl, rfl, trivial⟩) HP.out (at4F HZ.out) (keeps4F (Keeps.refl _ _) (Or.inl rfl))
set_option maxRecDepth 1000000 in
theorem io_ret_wp {R : Ending → World → Prop} {w' : World} {g : Nat} {v0 v1 v2 v3 : Value} (hg : w'.heap[g]? = some (.cells #[v0, v1, v2, v3] 25 (0, 0))) (ho : v0.oneCell' = true ∧ v1.oneCell' = true ∧ v2.oneCell' = true ∧ v3.oneCell' = true) (hR : R (.returned (.agg #[v0, v1, v2, v3])) w') : ∀ ac, Frm 15 [(4, .pointer (some ⟨g, 0, none⟩))] ac → bodyPost Tryd.prog Tryd.f33 R .ret ac w' := by
  refine frm_open ?_
  refine frame_io ?_
  intros
  rename_i hq
  obtain ⟨-, -, e0q, -⟩ := hq
  obtain rfl := sI e0q
  have z0 := cellv hg 0 rfl
  have z1 := cellv hg 1 rfl
  have z2 := cellv hg 2 rfl
  have z3 := cellv hg 3 rfl
  have zl := lt_heap hg
  obtain ⟨o0, o1, o2, o3⟩ := ho
  refine bodyPost_ret (v := .agg #[v0, v1, v2, v3]) (by simp [results, Tryd.results33, go_sem, z0, z1, z2, z3, zl, o0, o1, o2, o3]) rfl ?_
  exact hR
theorem slS1 {w : World} {S : Nat → Prop} {g : Nat} {a : ByteArray} {T : TypeId} (hb : w.heap[g]? = some (.cells #[.string a] T (0, 0))) (h1 : a.size ≤ maxLen) (hg : S g) : strRep.Sl w S (.slice (some ⟨g, 0, none⟩) 1 1) [a] := by
  refine ⟨_, _, _, rfl, rfl, by decide, fun _ => ⟨g, 0, [.string a], rfl, hg, Rep.All.single ⟨rfl, h1⟩, fun j u hj => ?_⟩⟩
  rw [Nat.zero_add]
  match j, hj with
  | 0, hj => exact (cellv hb 0 rfl).trans (by simpa using hj)
  | n + 1, hj => simp at hj
theorem bindS1 {w : World} {S : Nat → Prop} {g : Nat} {a b : ByteArray} {T : TypeId} (hb : w.heap[g]? = some (.cells #[.string a, .string b] T (0, 0))) (h1 : a.size ≤ maxLen) (h2 : b.size ≤ maxLen) (hg : S g) : bindRep.Sl w S (.slice (some ⟨g, 0, none⟩) 1 1) [(a, b)] := by
  refine ⟨_, _, _, rfl, rfl, by decide, fun _ => ⟨g, 0, [.string a, .string b], rfl, hg, Rep.All.single (a := (a, b)) ⟨rfl, h1, h2⟩, fun j u hj => ?_⟩⟩
  rw [Nat.zero_add]
  match j, hj with
  | 0, hj => exact (cellv hb 0 rfl).trans (by simpa using hj)
  | 1, hj => exact (cellv hb 1 rfl).trans (by simpa using hj)
  | n + 2, hj => simp at hj
set_option maxRecDepth 100000 in
set_option maxHeartbeats 4000000 in
theorem body_any (kn : Nat) (nm y : ByteArray) (v0 : Fv) (hv : (Fv.qu kn nm v0).ok) (hn : (Fv.qu kn nm v0).nodes ≤ 200) (hy : y.size ≤ maxLen) (cs : List Value) (w : World) (S : Nat → Prop) (ht : fmRep.R w S (Fv.qu kn nm v0).fm cs) (hS : ∀ b, S b → b < w.heap.size) (htab : ∀ W, Below w.heap.size w W → Lib.TabIs Tryd.prog W "internal/strconv.uint64pow10" .u64 Lib.pow10Tab) :
    Calls Tryd.prog 53 #[.agg cs.toArray, .string y] w fun e w' => ∃ es : List Value, e = .returned (.agg es.toArray) ∧ fmRep.R w' (fun b => w.heap.size ≤ b ∧ b < w'.heap.size) (canF [(nm, y)] v0.fm) es ∧ Below w.heap.size w w' := by
  obtain ⟨kd, hkd⟩ : ∃ k : Int, (kn : Int) = k := ⟨_, rfl⟩
  rw [show (Fv.qu kn nm v0).fm = .mk ⟨(kn : Int), nm, []⟩ [v0.fm] from rfl, hkd] at ht
  have hkid : v0.nodes ≤ 200 := by simp [Fv.nodes] at hn; omega
  obtain ⟨u9, v9, rfl, hnm, hw, hl⟩ := Fm.open_ (a := ⟨kd, nm, []⟩) (l := [v0.fm]) ht
  simp only at hw hnm
  obtain ⟨A, n1, c1, rfl, e1, hm1, _⟩ := id hw
  obtain ⟨B, n2, c2, rfl, e2, hm2, _⟩ := id hl
  obtain ⟨b, o, ks, rfl, hSb, hr, hc⟩ := Rep.Sl.at_ (k := 0) hl rfl
  obtain ⟨Ae, n3, c3, Be, n4, c4, rfl, _, _, _, _⟩ := Fm.shape hr
  go_enter Tryd.func53, Tryd.ntmps53
  refine wp_seq ?_
  refine bd_r0_wp (fun a0 h0 => ?_) _ (id ⟨rfl, rfl, rfl, rfl, trivial⟩)
  refine gen_last (fun wx => wx.heap[w.heap.size]? = some (.cells #[.int .i64 kd, .string nm, .slice A n1 c1, .slice (some ⟨b, o, none⟩) n2 c2] 25 (0, 0)) ∧ wx.heap[w.heap.size + 1]? = some (.cells #[.int .i64 0, .string ⟨#[]⟩, .slice none 0 0, .slice none 0 0] 25 (0, 0)) ∧ wx.heap.size = w.heap.size + 2 ∧ Below w.heap.size w wx) ⟨heap_old (by simp) (heap_at (by simp)), heap_at (by simp), by simp, ((Below.refl _ _).alloc (Nat.le_refl _) _).alloc (by simp) _⟩ ?_
  rintro wx ⟨ha, hz, hsz, hb⟩
  have hkb := hb.block b (hS b hSb)
  have hRx := fmRep.keep hr (fun b h => hb.block b (hS b h)) (fun _ h => h)
  have hcc : ∀ W : World, Below wx.heap.size wx W → W.heap[wx.heap.size]? = some (.cells #[.string nm, .string y] 111 (0, 0)) → Calls Tryd.prog 79 #[.agg #[.int .i64 v0.fm.lab.kind, .string v0.fm.lab.nm, .slice Ae n3 c3, .slice Be n4 c4], .slice (some ⟨wx.heap.size, 0, none⟩) 1 1] W (fun e w' => ∃ ke ne Ae n3 c3 Be n4 c4, e = .returned (.agg #[.int .i64 ke, .string ne, .slice Ae n3 c3, .slice Be n4 c4]) ∧ w'.heap[w.heap.size + 1]? = some (.cells #[.int .i64 0, .string ⟨#[]⟩, .slice none 0 0, .slice none 0 0] 25 (0, 0)) ∧ (fmRep.R w' (fun b => wx.heap.size ≤ b ∧ b < w'.heap.size) (canF [(nm, y)] v0.fm) [.int .i64 ke, .string ne, .slice Ae n3 c3, .slice Be n4 c4] ∧ Below wx.heap.size wx w')) := fun W hbW hcell => (canon_any v0 hv.2.2 hkid [.int .i64 v0.fm.lab.kind, .string v0.fm.lab.nm, .slice Ae n3 c3, .slice Be n4 c4] W (fun b => b < W.heap.size) _ 1 1 [(nm, y)] (by simp) (by omega) (Nat.le_refl _) (fmRep.keep hRx (fun b h => hbW.block b (by have := hS b h; omega)) (fun b h => by have := hS b h; have := hbW.size; omega)) (fun _ h => h) (bindS1 hcell hnm hy (lt_heap hcell)) (fun W' h => htab W' ((hb.trans (hbW.mono (by omega))).trans (h.mono (by have := hbW.size; omega))))).mono (R' := fun e w' => ∃ ke ne Ae n3 c3 Be n4 c4, e = .returned (.agg #[.int .i64 ke, .string ne, .slice Ae n3 c3, .slice Be n4 c4]) ∧ w'.heap[w.heap.size + 1]? = some (.cells #[.int .i64 0, .string ⟨#[]⟩, .slice none 0 0, .slice none 0 0] 25 (0, 0)) ∧ (fmRep.R w' (fun b => wx.heap.size ≤ b ∧ b < w'.heap.size) (canF [(nm, y)] v0.fm) [.int .i64 ke, .string ne, .slice Ae n3 c3, .slice Be n4 c4] ∧ Below wx.heap.size wx w')) (by
    rintro e w' ⟨es, rfl, hr, hb9⟩
    obtain ⟨A5, n5, c5, B5, n6, c6, rfl, _, _, _, _⟩ := Fm.shape hr
    have hbWs := hbW.size
    exact ⟨_, _, _, _, _, _, _, _, rfl, (hb9.block _ (by have := lt_heap hz; omega)).trans ((hbW.block _ (lt_heap hz)).trans hz), fmRep.keep hr (fun _ _ => rfl) (fun b hb => ⟨by omega, hb.2⟩), hbW.trans (hb9.mono hbWs)⟩)
  refine wp_seq ?_
  refine Code.wp_mono (Q := Exit.then (fun a' w' => ∃ ke ne Ae n3 c3 Be n4 c4 w1, Frm 15 [(4, .pointer (some ⟨w.heap.size + 1, 0, none⟩))] a' ∧ (fmRep.R w1 (fun b => wx.heap.size ≤ b ∧ b < w1.heap.size) (canF [(nm, y)] v0.fm) [.int .i64 ke, .string ne, .slice Ae n3 c3, .slice Be n4 c4] ∧ Below wx.heap.size wx w1) ∧ w'.heap[w.heap.size + 1]? = some (.cells #[.int .i64 ke, .string ne, .slice Ae n3 c3, .slice Be n4 c4] 25 (0, 0)) ∧ Keeps (· = w.heap.size + 1) w1 w') (fun _ _ _ => False)) ?_ (bd_r1_wp (by simp at e2; omega) ha ((cell_keep hkb _).trans (by simpa using hc 0 _ rfl)) ((cell_keep hkb _).trans (by simpa using hc 1 _ rfl)) ((cell_keep hkb _).trans (by simpa using hc 2 _ rfl)) ((cell_keep hkb _).trans (by simpa using hc 3 _ rfl)) (by have := hS b hSb; omega) hcc (fun ke ne Ae n3 c3 Be n4 c4 w1 a' w' h' hp hz hk => ⟨ke, ne, Ae, n3, c3, Be, n4, c4, w1, h', hp, hz, hk⟩) a0 h0)
  intro ex a6 w6 hx
  cases ex with
  | normal =>
    obtain ⟨ke', ne', Ae', n3', c3', Be', n4', c4', w5, h6, hp6, hz6, hk6⟩ := hx
    show Code.wp _ _ _ a6 w6
    obtain ⟨hr5, hb5⟩ := hp6
    have hk6s := hk6.size
    have hb5s := hb5.size
    refine wp_ret ?_
    refine bd_ret_wp hz6 ⟨rfl, rfl, rfl, rfl⟩ ⟨_, rfl, ?_, ?_⟩ a6 h6
    · exact fmRep.keep hr5 (fun b hb => hk6.block b hb.2 (by omega)) (fun b hb => ⟨by omega, by omega⟩)
    · have h1 : Below w.heap.size w w5 := hb.trans (hb5.mono (by omega))
      exact h1.trans (Keeps.below (B := w.heap.size) hk6 (fun k e => by have e : k = w.heap.size + 1 := e; omega) (by have := h1.size; omega))
  | _ => exact hx.elim
set_option maxRecDepth 100000 in
set_option maxHeartbeats 4000000 in
theorem refInstanceOf_any (kn : Nat) (nm y : ByteArray) (v0 : Fv) (hv : (Fv.qu kn nm v0).ok) (hn : (Fv.qu kn nm v0).nodes ≤ 200) (hy : y.size ≤ maxLen) (cs : List Value) (w : World) (S : Nat → Prop) (ht : fmRep.R w S (Fv.qu kn nm v0).fm cs) (hS : ∀ b, S b → b < w.heap.size) :
    Calls Tryd.prog 33 #[.agg cs.toArray, .string y] w fun e w' => ∃ es : List Value, e = .returned (.agg es.toArray) ∧ fmRep.R w' (fun b => w.heap.size ≤ b ∧ b < w'.heap.size) (canR [(nm, y)] v0.fm) es ∧ Below w.heap.size w w' := by
  obtain ⟨kd, hkd⟩ : ∃ k : Int, (kn : Int) = k := ⟨_, rfl⟩
  rw [show (Fv.qu kn nm v0).fm = .mk ⟨(kn : Int), nm, []⟩ [v0.fm] from rfl, hkd] at ht
  have hkid : v0.nodes ≤ 200 := by simp [Fv.nodes] at hn; omega
  obtain ⟨u9, v9, rfl, hnm, hw, hl⟩ := Fm.open_ (a := ⟨kd, nm, []⟩) (l := [v0.fm]) ht
  simp only at hw hnm
  obtain ⟨A, n1, c1, rfl, e1, hm1, _⟩ := id hw
  obtain ⟨B, n2, c2, rfl, e2, hm2, _⟩ := id hl
  obtain ⟨b, o, ks, rfl, hSb, hr, hc⟩ := Rep.Sl.at_ (k := 0) hl rfl
  obtain ⟨Ae, n3, c3, Be, n4, c4, rfl, _, _, _, _⟩ := Fm.shape hr
  go_enter Tryd.func33, Tryd.ntmps33
  refine wp_seq ?_
  refine io_r0_wp (fun a0 h0 => ?_) _ (id ⟨rfl, rfl, rfl, rfl, trivial⟩)
  refine gen_last (fun wx => wx.heap[w.heap.size]? = some (.cells #[.int .i64 kd, .string nm, .slice A n1 c1, .slice (some ⟨b, o, none⟩) n2 c2] 25 (0, 0)) ∧ wx.heap[w.heap.size + 1]? = some (.cells #[.int .i64 0, .string ⟨#[]⟩, .slice none 0 0, .slice none 0 0] 25 (0, 0)) ∧ wx.heap.size = w.heap.size + 2 ∧ Below w.heap.size w wx) ⟨heap_old (by simp) (heap_at (by simp)), heap_at (by simp), by simp, ((Below.refl _ _).alloc (Nat.le_refl _) _).alloc (by simp) _⟩ ?_
  rintro wx ⟨ha, hz, hsz, hb⟩
  have hkb := hb.block b (hS b hSb)
  have hRx := fmRep.keep hr (fun b h => hb.block b (hS b h)) (fun _ h => h)
  have hcc : ∀ (W : World) (g1 g2 : Nat), Below wx.heap.size wx W → W.heap[g1]? = some (.cells #[.string nm] 9 (0, 0)) → W.heap[g2]? = some (.cells #[.string y] 9 (0, 0)) → Calls Tryd.prog 50 #[.agg #[.int .i64 v0.fm.lab.kind, .string v0.fm.lab.nm, .slice Ae n3 c3, .slice Be n4 c4], .slice (some ⟨g1, 0, none⟩) 1 1, .slice (some ⟨g2, 0, none⟩) 1 1] W (fun e w' => ∃ ke ne Ae n3 c3 Be n4 c4, e = .returned (.agg #[.int .i64 ke, .string ne, .slice Ae n3 c3, .slice Be n4 c4]) ∧ w'.heap[w.heap.size + 1]? = some (.cells #[.int .i64 0, .string ⟨#[]⟩, .slice none 0 0, .slice none 0 0] 25 (0, 0)) ∧ (fmRep.R w' (fun b => wx.heap.size ≤ b ∧ b < w'.heap.size) (canR [(nm, y)] v0.fm) [.int .i64 ke, .string ne, .slice Ae n3 c3, .slice Be n4 c4] ∧ Below wx.heap.size wx w')) := fun W g1 g2 hbW hc1 hc2 => (refWith_any v0 hv.2.2 hkid [.int .i64 v0.fm.lab.kind, .string v0.fm.lab.nm, .slice Ae n3 c3, .slice Be n4 c4] W (fun b => b < W.heap.size) _ _ 1 1 1 1 [(nm, y)] (by simp) (fmRep.keep hRx (fun b h => hbW.block b (by have := hS b h; omega)) (fun b h => by have := hS b h; have := hbW.size; omega)) (fun _ h => h) (slS1 hc1 hnm (lt_heap hc1)) (slS1 hc2 hy (lt_heap hc2))).mono (R' := fun e w' => ∃ ke ne Ae n3 c3 Be n4 c4, e = .returned (.agg #[.int .i64 ke, .string ne, .slice Ae n3 c3, .slice Be n4 c4]) ∧ w'.heap[w.heap.size + 1]? = some (.cells #[.int .i64 0, .string ⟨#[]⟩, .slice none 0 0, .slice none 0 0] 25 (0, 0)) ∧ (fmRep.R w' (fun b => wx.heap.size ≤ b ∧ b < w'.heap.size) (canR [(nm, y)] v0.fm) [.int .i64 ke, .string ne, .slice Ae n3 c3, .slice Be n4 c4] ∧ Below wx.heap.size wx w')) (by
    rintro e w' ⟨es, rfl, hr, hb9⟩
    obtain ⟨A5, n5, c5, B5, n6, c6, rfl, _, _, _, _⟩ := Fm.shape hr
    have hbWs := hbW.size
    exact ⟨_, _, _, _, _, _, _, _, rfl, (hb9.block _ (by have := lt_heap hz; omega)).trans ((hbW.block _ (lt_heap hz)).trans hz), fmRep.keep hr (fun _ _ => rfl) (fun b hb => ⟨by omega, hb.2⟩), hbW.trans (hb9.mono hbWs)⟩)
  refine wp_seq ?_
  refine Code.wp_mono (Q := Exit.then (fun a' w' => ∃ ke ne Ae n3 c3 Be n4 c4 w1, Frm 15 [(4, .pointer (some ⟨w.heap.size + 1, 0, none⟩))] a' ∧ (fmRep.R w1 (fun b => wx.heap.size ≤ b ∧ b < w1.heap.size) (canR [(nm, y)] v0.fm) [.int .i64 ke, .string ne, .slice Ae n3 c3, .slice Be n4 c4] ∧ Below wx.heap.size wx w1) ∧ w'.heap[w.heap.size + 1]? = some (.cells #[.int .i64 ke, .string ne, .slice Ae n3 c3, .slice Be n4 c4] 25 (0, 0)) ∧ Keeps (· = w.heap.size + 1) w1 w') (fun _ _ _ => False)) ?_ (io_r1_wp (by simp at e2; omega) ha ((cell_keep hkb _).trans (by simpa using hc 0 _ rfl)) ((cell_keep hkb _).trans (by simpa using hc 1 _ rfl)) ((cell_keep hkb _).trans (by simpa using hc 2 _ rfl)) ((cell_keep hkb _).trans (by simpa using hc 3 _ rfl)) (by have := hS b hSb; omega) hcc (fun ke ne Ae n3 c3 Be n4 c4 w1 a' w' h' hp hz hk => ⟨ke, ne, Ae, n3, c3, Be, n4, c4, w1, h', hp, hz, hk⟩) a0 h0)
  intro ex a6 w6 hx
  cases ex with
  | normal =>
    obtain ⟨ke', ne', Ae', n3', c3', Be', n4', c4', w5, h6, hp6, hz6, hk6⟩ := hx
    show Code.wp _ _ _ a6 w6
    obtain ⟨hr5, hb5⟩ := hp6
    have hk6s := hk6.size
    have hb5s := hb5.size
    refine wp_ret ?_
    refine io_ret_wp hz6 ⟨rfl, rfl, rfl, rfl⟩ ⟨_, rfl, ?_, ?_⟩ a6 h6
    · exact fmRep.keep hr5 (fun b hb => hk6.block b hb.2 (by omega)) (fun b hb => ⟨by omega, by omega⟩)
    · have h1 : Below w.heap.size w w5 := hb.trans (hb5.mono (by omega))
      exact h1.trans (Keeps.below (B := w.heap.size) hk6 (fun k e => by have e : k = w.heap.size + 1 := e; omega) (by have := h1.size; omega))
  | _ => exact hx.elim
end

section
open Go Go.RowKit
set_option linter.unusedSimpArgs false
set_option linter.unusedVariables false

theorem far4F {w : World} {b k : Nat} {v0 v1 v2 v3 : Value} {x : Option Obj} (h : k ≠ b) (hx : w.heap[k]? = x) : ((((w.setCell ⟨b, 0, none⟩ v0).setCell ⟨b, 1, none⟩ v1).setCell ⟨b, 2, none⟩ v2).setCell ⟨b, 3, none⟩ v3).heap[k]? = x := heap_far _ h (heap_far _ h (heap_far _ h (heap_far _ h hx)))
theorem keeps2F {PP : Nat → Prop} {u w : World} {b : Nat} {v0 v1 : Value} (h : Keeps PP u w) (hb : PP b ∨ u.heap.size ≤ b) : Keeps PP u ((w.setCell ⟨b, 0, none⟩ v0).setCell ⟨b, 1, none⟩ v1) := (h.set hb 0 v0).set hb 1 v1
theorem drewF {PP : Nat → Prop} (w : World) : Keeps PP w w.drew := ⟨rfl, rfl, rfl, Nat.le_refl _, fun _ _ _ => rfl⟩
set_option maxRecDepth 1000000 in
theorem frame_ck2 {P : Act → Prop} (h : ∀ x0 x1 x2 x3 x4 x5 x6 x7 x8 x9 x10 x11 x12 x13 x14 : Value, P ⟨(x0 :: x1 :: x2 :: x3 :: x4 :: x5 :: x6 :: x7 :: x8 :: x9 :: x10 :: x11 :: x12 :: x13 :: x14 :: []).toArray, []⟩) : ∀ a : Act, a.tmps.toList.length = 15 → a.defers = [] → P a := by
  rintro ⟨⟨l⟩, d⟩ hs hd
  simp only at hd
  subst hd
  revert l
  show ∀ l : List Value, l.length = 15 → P ⟨⟨l⟩, []⟩
  refine openS (n := 14) (fun x0 => ?_)
  refine openS (n := 13) (fun x1 => ?_)
  refine openS (n := 12) (fun x2 => ?_)
  refine openS (n := 11) (fun x3 => ?_)
  refine openS (n := 10) (fun x4 => ?_)
  refine openS (n := 9) (fun x5 => ?_)
  refine openS (n := 8) (fun x6 => ?_)
  refine openS (n := 7) (fun x7 => ?_)
  refine openS (n := 6) (fun x8 => ?_)
  refine openS (n := 5) (fun x9 => ?_)
  refine openS (n := 4) (fun x10 => ?_)
  refine openS (n := 3) (fun x11 => ?_)
  refine openS (n := 2) (fun x12 => ?_)
  refine openS (n := 1) (fun x13 => ?_)
  refine openS (n := 0) (fun x14 => ?_)
  refine open0 ?_
  exact h x0 x1 x2 x3 x4 x5 x6 x7 x8 x9 x10 x11 x12 x13 x14
noncomputable def c_ck2_r0 : Code := sub [0] (Tryd.f24.body.getD .skip)
set_option maxRecDepth 1000000 in
set_option maxHeartbeats 16000000 in
theorem ck2_r0_wp {Q : Exit → Act → World → Prop} {wo : World} {kd : Int} {nm : ByteArray} {A B : Option Addr} {n1 c1 n2 c2 : Nat} (hN : ∀ a', Frm 15 [(1, .pointer (some ⟨wo.heap.size, 0, none⟩)), (2, .pointer (some ⟨wo.heap.size + 1, 0, none⟩)), (3, .pointer (some ⟨wo.heap.size + 1 + 1, 0, none⟩))] a' → Q .normal a' (((wo.alloc (.cells #[.int .i64 kd, .string nm, .slice A n1 c1, .slice B n2 c2] 25)).alloc (.cells #[.int .i64 0, .string ⟨#[]⟩, .slice none 0 0, .slice none 0 0] 25)).alloc (.cells #[.int .i64 0, .int .i64 0] 27))) : ∀ ac, Frm 15 [(0, .agg #[.int .i64 kd, .string nm, .slice A n1 c1, .slice B n2 c2])] ac → Code.wp Tryd.prog c_ck2_r0 Q ac wo := by
  refine frm_open ?_
  refine frame_ck2 ?_
  intros
  rename_i hq
  obtain ⟨-, -, e0q, -⟩ := hq
  obtain rfl := sI e0q
  conv => arg 2; whnf
  have HN := Lib.hid hN
  clear hN
  go_wp2_with fail
  exact HN.out _ (id ⟨rfl, rfl, rfl, rfl, rfl, trivial⟩)
noncomputable def c_ck2_r1 : Code := sub [1, 0, 0] (Tryd.f24.body.getD .skip)
set_option maxRecDepth 1000000 in
set_option maxHeartbeats 16000000 in
theorem ck2_r1_wp {Q : Exit → Act → World → Prop} {wo w : World} {c j : Nat} {y : ByteArray} {kd : Int} {nm : ByteArray} {A B : Option Addr} {n1 c1 n2 c2 : Nat} (ha : w.heap[wo.heap.size]? = some (.cells #[.int .i64 kd, .string nm, .slice A n1 c1, .slice B n2 c2] 25 (0, 0))) (hc : Calls Tryd.prog 15 #[.agg #[.int .i64 kd, .string nm, .slice A n1 c1, .slice B n2 c2]] w fun e w' => e = .returned (.agg #[.int .i64 (c : Nat), .int .i64 (j : Nat)]) ∧ Below w.heap.size w w') (hN : ∀ w1 a', Frm 15 [(1, .pointer (some ⟨wo.heap.size, 0, none⟩)), (2, .pointer (some ⟨wo.heap.size + 1, 0, none⟩)), (3, .pointer (some ⟨wo.heap.size + 2, 0, none⟩)), (4, .pointer (some ⟨w1.heap.size, 0, none⟩))] a' → Below w.heap.size w w1 → Q .normal a' (w1.alloc (.cells #[.int .i64 (c : Nat), .int .i64 (j : Nat)] 27))) : ∀ ac, Frm 15 [(1, .pointer (some ⟨wo.heap.size, 0, none⟩)), (2, .pointer (some ⟨wo.heap.size + 1, 0, none⟩)), (3, .pointer (some ⟨wo.heap.size + 2, 0, none⟩))] ac → Code.wp Tryd.prog c_ck2_r1 Q ac w := by
  refine frm_open ?_
  refine frame_ck2 ?_
  intros
  rename_i hq
  obtain ⟨-, -, e0q, e1q, e2q, -⟩ := hq
  obtain rfl := sI e0q
  obtain rfl := sI e1q
  obtain rfl := sI e2q
  conv => arg 2; whnf
  have a0 := cellv ha 0 rfl
  have a1 := cellv ha 1 rfl
  have a2 := cellv ha 2 rfl
  have a3 := cellv ha 3 rfl
  have al := lt_heap ha
  clear ha
  have HN := Lib.hid hN
  have HC := Lib.hid hc
  clear hN hc
  go_wp2_with fail
  (with_reducible refine HC.out.mono ?_)
  rintro e w1 ⟨rfl, hb1⟩
  have HB1 := Lib.hid hb1
  clear hb1
  go_wp2_with fail
  exact HN.out _ _ (id ⟨rfl, rfl, rfl, rfl, rfl, rfl, trivial⟩) HB1.out
noncomputable def c_ck2_r2 : Code := sub [1, 0, 1, 0] (Tryd.f24.body.getD .skip)
set_option maxRecDepth 1000000 in
set_option maxHeartbeats 16000000 in
theorem ck2_r2_wp {Q : Exit → Act → World → Prop} {gb c j : Nat} {y : ByteArray} {wo w : World} (hb : w.heap[gb]? = some (.cells #[.int .i64 (c : Nat), .int .i64 (j : Nat)] 27 (0, 0))) (hN : ∀ a', Frm 15 [(1, .pointer (some ⟨wo.heap.size, 0, none⟩)), (2, .pointer (some ⟨wo.heap.size + 1, 0, none⟩)), (3, .pointer (some ⟨wo.heap.size + 2, 0, none⟩)), (4, .pointer (some ⟨gb, 0, none⟩)), (9, .bool (decide (c ≠ 0)))] a' → Q .normal a' w) : ∀ ac, Frm 15 [(1, .pointer (some ⟨wo.heap.size, 0, none⟩)), (2, .pointer (some ⟨wo.heap.size + 1, 0, none⟩)), (3, .pointer (some ⟨wo.heap.size + 2, 0, none⟩)), (4, .pointer (some ⟨gb, 0, none⟩))] ac → Code.wp Tryd.prog c_ck2_r2 Q ac w := by
  refine frm_open ?_
  refine frame_ck2 ?_
  intros
  rename_i hq
  obtain ⟨-, -, e0q, e1q, e2q, e3q, -⟩ := hq
  obtain rfl := sI e0q
  obtain rfl := sI e1q
  obtain rfl := sI e2q
  obtain rfl := sI e3q
  conv => arg 2; whnf
  have b0 := cellv hb 0 rfl
  have bl := lt_heap hb
  clear hb
  by_cases h : c ≠ 0
  · have t0 := h
    have t1 : ((c : Int) != 0) = true := by first | exact bne_iff_ne.2 (by omega) | exact bne_eq_false_iff_eq.2 (by omega)
    rw [show decide (c ≠ 0) = true from by simpa using h] at hN
    clear h
    have HN := Lib.hid hN
    clear hN
    go_wp2_with fail
    exact HN.out _ (id ⟨rfl, rfl, rfl, rfl, rfl, rfl, rfl, trivial⟩)
  · have t0 := h
    have t1 : ((c : Int) != 0) = false := by first | exact bne_iff_ne.2 (by omega) | exact bne_eq_false_iff_eq.2 (by omega)
    rw [show decide (c ≠ 0) = false from by simpa using h] at hN
    clear h
    have HN := Lib.hid hN
    clear hN
    go_wp2_with fail
    exact HN.out _ (id ⟨rfl, rfl, rfl, rfl, rfl, rfl, rfl, trivial⟩)
noncomputable def c_ck2_r3 : Code := sub [1, 0, 1, 1, 0, 0] (Tryd.f24.body.getD .skip)
set_option maxRecDepth 1000000 in
set_option maxHeartbeats 16000000 in
theorem ck2_r3_wp {K : Act → World → Prop} {gz gx gb : Nat} {c j : Int} {w : World} (hne : gz ≠ gx) (hz : w.heap[gz]? = some (.cells #[.int .i64 0, .string ⟨#[]⟩, .slice none 0 0, .slice none 0 0] 25 (0, 0))) (hx : w.heap[gx]? = some (.cells #[.int .i64 0, .int .i64 0] 27 (0, 0))) (hbz : gb ≠ gz) (hbx2 : gb ≠ gx) (hbx : w.heap[gb]? = some (.cells #[.int .i64 c, .int .i64 j] 27 (0, 0))) (hN : ∀ a' w', Frm 15 [(2, .pointer (some ⟨gz, 0, none⟩)), (3, .pointer (some ⟨gx, 0, none⟩))] a' → w'.heap[gz]? = some (.cells #[.int .i64 0, .string ⟨#[]⟩, .slice none 0 0, .slice none 0 0] 25 (0, 0)) → w'.heap[gx]? = some (.cells #[.int .i64 c, .int .i64 j] 27 (0, 0)) → Keeps (fun k => k = gz ∨ k = gx) w w' → K a' w') : ∀ ac, Frm 15 [(2, .pointer (some ⟨gz, 0, none⟩)), (3, .pointer (some ⟨gx, 0, none⟩)), (4, .pointer (some ⟨gb, 0, none⟩))] ac → Code.wp Tryd.prog c_ck2_r3 (Exit.then K (fun _ _ _ => False)) ac w := by
  refine frm_open ?_
  refine frame_ck2 ?_
  intros
  rename_i hq
  obtain ⟨-, -, e0q, e1q, e2q, -⟩ := hq
  obtain rfl := sI e0q
  obtain rfl := sI e1q
  obtain rfl := sI e2q
  conv => arg 2; whnf
  have b0 := cellv hbx 0 rfl
  have b1 := cellv hbx 1 rfl
  have bl := lt_heap hbx
  have z0 := cellv hz 0 rfl
  have z1 := cellv hz 1 rfl
  have z2 := cellv hz 2 rfl
  have z3 := cellv hz 3 rfl
  have zf0 := free_heap hz 0
  have zf1 := free_heap hz 1
  have zf2 := free_heap hz 2
  have zf3 := free_heap hz 3
  have zl := lt_heap hz
  have x0 := cellv hx 0 rfl
  have x1 := cellv hx 1 rfl
  have xf0 := free_heap hx 0
  have xf1 := free_heap hx 1
  have xl := lt_heap hx
  have HZ := Lib.hid hz
  have HX := Lib.hid hx
  clear hz hx
  clear hbx
  have HN := Lib.hid hN
  clear hN
  go_region
  all_goals go_wp2_with fail
  all_goals refine HN.out _ _ (id ⟨rfl, rfl, rfl, rfl, trivial⟩) ?_ ?_ ?_
  · exact heap_drew (far2 hne (at4F HZ.out))
  · exact heap_drew (at2 (far4F (Ne.symm hne) HX.out))
  · exact Keeps.drew (keeps2F (keeps4F (Keeps.refl _ _) (Or.inl (Or.inl rfl))) (Or.inl (Or.inr rfl)))
noncomputable def c_ck2_r4 : Code := sub [1, 1, 0] (Tryd.f24.body.getD .skip)
set_option maxRecDepth 1000000 in
set_option maxHeartbeats 16000000 in
theorem ck2_r4_wp {Q : Exit → Act → World → Prop} {PV : Int → ByteArray → Option Addr → Nat → Nat → Option Addr → Nat → Nat → World → Prop} {gz gx : Nat} {wo w : World} {kd : Int} {nm : ByteArray} {A B : Option Addr} {n1 c1 n2 c2 : Nat} (ha : w.heap[wo.heap.size]? = some (.cells #[.int .i64 kd, .string nm, .slice A n1 c1, .slice B n2 c2] 25 (0, 0))) (hne : gz ≠ gx) (hc : Calls Tryd.prog 49 #[.agg #[.int .i64 kd, .string nm, .slice A n1 c1, .slice B n2 c2]] w fun e w' => ∃ ke ne Ae n3 c3 Be n4 c4, e = .returned (.agg #[.int .i64 ke, .string ne, .slice Ae n3 c3, .slice Be n4 c4]) ∧ w'.heap[gz]? = some (.cells #[.int .i64 0, .string ⟨#[]⟩, .slice none 0 0, .slice none 0 0] 25 (0, 0)) ∧ w'.heap[gx]? = some (.cells #[.int .i64 0, .int .i64 0] 27 (0, 0)) ∧ PV ke ne Ae n3 c3 Be n4 c4 w') (hN : ∀ ke ne Ae n3 c3 Be n4 c4 w1 a' w', Frm 15 [(2, .pointer (some ⟨gz, 0, none⟩)), (3, .pointer (some ⟨gx, 0, none⟩))] a' → PV ke ne Ae n3 c3 Be n4 c4 w1 → w'.heap[gz]? = some (.cells #[.int .i64 ke, .string ne, .slice Ae n3 c3, .slice Be n4 c4] 25 (0, 0)) → w'.heap[gx]? = some (.cells #[.int .i64 0, .int .i64 0] 27 (0, 0)) → Keeps (fun k => k = gz ∨ k = gx) w1 w' → Q .normal a' w') : ∀ ac, Frm 15 [(1, .pointer (some ⟨wo.heap.size, 0, none⟩)), (2, .pointer (some ⟨gz, 0, none⟩)), (3, .pointer (some ⟨gx, 0, none⟩))] ac → Code.wp Tryd.prog c_ck2_r4 Q ac w := by
  refine frm_open ?_
  refine frame_ck2 ?_
  intros
  rename_i hq
  obtain ⟨-, -, e0q, e1q, e2q, -⟩ := hq
  obtain rfl := sI e0q
  obtain rfl := sI e1q
  obtain rfl := sI e2q
  conv => arg 2; whnf
  have a0 := cellv ha 0 rfl
  have a1 := cellv ha 1 rfl
  have a2 := cellv ha 2 rfl
  have a3 := cellv ha 3 rfl
  have al := lt_heap ha
  clear ha
  have zc := fun (W : World) (h : W.heap[gz]? = some (.cells #[.int .i64 0, .string ⟨#[]⟩, .slice none 0 0, .slice none 0 0] 25 (0, 0))) => And.intro (cellv h 0 rfl) (And.intro (cellv h 1 rfl) (And.intro (cellv h 2 rfl) (And.intro (cellv h 3 rfl) (And.intro (free_heap h 0) (And.intro (free_heap h 1) (And.intro (free_heap h 2) (free_heap h 3)))))))
  have xc := fun (W : World) (h : W.heap[gx]? = some (.cells #[.int .i64 0, .int .i64 0] 27 (0, 0))) => And.intro (cellv h 0 rfl) (And.intro (cellv h 1 rfl) (And.intro (free_heap h 0) (free_heap h 1)))
  have ZC := Lib.hid zc
  have XC := Lib.hid xc
  clear zc xc
  have HN := Lib.hid hN
  have HC := Lib.hid hc
  clear hN hc
  go_wp2_with fail
  (with_reducible refine HC.out.mono ?_)
  rintro e w1 ⟨ke, ne, Ae, n3, c3, Be, n4, c4, rfl, hz, hx, hp⟩
  obtain ⟨y0, y1, y2, y3, yf0, yf1, yf2, yf3⟩ := ZC.out w1 hz
  obtain ⟨u0, u1, uf0, uf1⟩ := XC.out w1 hx
  have yl := lt_heap hz
  have ul := lt_heap hx
  have HP := Lib.hid hp
  have HZ := Lib.hid hz
  have HX := Lib.hid hx
  clear hp hz hx
  go_wp2_with fail
  refine HN.out _ _ _ _ _ _ _ _ _ _ _ (id ⟨rfl, rfl, rfl, rfl, trivial⟩) HP.out ?_ ?_ ?_
  · exact far2 hne (at4F HZ.out)
  · exact at2 (far4F (Ne.symm hne) HX.out)
  · exact keeps2F (keeps4F (Keeps.refl _ _) (Or.inl (Or.inl rfl))) (Or.inl (Or.inr rfl))
set_option maxRecDepth 1000000 in
theorem ck2_ret_wp {R : Ending → World → Prop} {w' : World} {gz gx : Nat} {v0 v1 v2 v3 : Value} {c j : Int} (hg : w'.heap[gz]? = some (.cells #[v0, v1, v2, v3] 25 (0, 0))) (hx : w'.heap[gx]? = some (.cells #[.int .i64 c, .int .i64 j] 27 (0, 0))) (ho : v0.oneCell' = true ∧ v1.oneCell' = true ∧ v2.oneCell' = true ∧ v3.oneCell' = true) (hR : R (.returned (.tuple #[.agg #[v0, v1, v2, v3], .agg #[.int .i64 c, .int .i64 j]])) w') : ∀ ac, Frm 15 [(2, .pointer (some ⟨gz, 0, none⟩)), (3, .pointer (some ⟨gx, 0, none⟩))] ac → bodyPost Tryd.prog Tryd.f24 R .ret ac w' := by
  refine frm_open ?_
  refine frame_ck2 ?_
  intros
  rename_i hq
  obtain ⟨-, -, e0q, e1q, -⟩ := hq
  obtain rfl := sI e0q
  obtain rfl := sI e1q
  have z0 := cellv hg 0 rfl
  have z1 := cellv hg 1 rfl
  have z2 := cellv hg 2 rfl
  have z3 := cellv hg 3 rfl
  have zl := lt_heap hg
  have x0 := cellv hx 0 rfl
  have x1 := cellv hx 1 rfl
  have xl := lt_heap hx
  obtain ⟨o0, o1, o2, o3⟩ := ho
  refine bodyPost_ret (v := .tuple #[.agg #[v0, v1, v2, v3], .agg #[.int .i64 c, .int .i64 j]]) (by simp [results, Tryd.results24, go_sem, z0, z1, z2, z3, zl, x0, x1, xl, o0, o1, o2, o3]) rfl ?_
  exact hR
set_option maxRecDepth 1000000 in
theorem frame_in2 {P : Act → Prop} (h : ∀ x0 x1 x2 x3 x4 x5 x6 x7 x8 x9 x10 x11 x12 x13 x14 x15 x16 x17 x18 x19 x20 x21 x22 x23 x24 x25 x26 x27 : Value, P ⟨(x0 :: x1 :: x2 :: x3 :: x4 :: x5 :: x6 :: x7 :: x8 :: x9 :: x10 :: x11 :: x12 :: x13 :: x14 :: x15 :: x16 :: x17 :: x18 :: x19 :: x20 :: x21 :: x22 :: x23 :: x24 :: x25 :: x26 :: x27 :: []).toArray, []⟩) : ∀ a : Act, a.tmps.toList.length = 28 → a.defers = [] → P a := by
  rintro ⟨⟨l⟩, d⟩ hs hd
  simp only at hd
  subst hd
  revert l
  show ∀ l : List Value, l.length = 28 → P ⟨⟨l⟩, []⟩
  refine openS (n := 27) (fun x0 => ?_)
  refine openS (n := 26) (fun x1 => ?_)
  refine openS (n := 25) (fun x2 => ?_)
  refine openS (n := 24) (fun x3 => ?_)
  refine openS (n := 23) (fun x4 => ?_)
  refine openS (n := 22) (fun x5 => ?_)
  refine openS (n := 21) (fun x6 => ?_)
  refine openS (n := 20) (fun x7 => ?_)
  refine openS (n := 19) (fun x8 => ?_)
  refine openS (n := 18) (fun x9 => ?_)
  refine openS (n := 17) (fun x10 => ?_)
  refine openS (n := 16) (fun x11 => ?_)
  refine openS (n := 15) (fun x12 => ?_)
  refine openS (n := 14) (fun x13 => ?_)
  refine openS (n := 13) (fun x14 => ?_)
  refine openS (n := 12) (fun x15 => ?_)
  refine openS (n := 11) (fun x16 => ?_)
  refine openS (n := 10) (fun x17 => ?_)
  refine openS (n := 9) (fun x18 => ?_)
  refine openS (n := 8) (fun x19 => ?_)
  refine openS (n := 7) (fun x20 => ?_)
  refine openS (n := 6) (fun x21 => ?_)
  refine openS (n := 5) (fun x22 => ?_)
  refine openS (n := 4) (fun x23 => ?_)
  refine openS (n := 3) (fun x24 => ?_)
  refine openS (n := 2) (fun x25 => ?_)
  refine openS (n := 1) (fun x26 => ?_)
  refine openS (n := 0) (fun x27 => ?_)
  refine open0 ?_
  exact h x0 x1 x2 x3 x4 x5 x6 x7 x8 x9 x10 x11 x12 x13 x14 x15 x16 x17 x18 x19 x20 x21 x22 x23 x24 x25 x26 x27
noncomputable def c_in2_r0 : Code := sub [0] (Tryd.f32.body.getD .skip)
set_option maxRecDepth 1000000 in
set_option maxHeartbeats 16000000 in
theorem in2_r0_wp {Q : Exit → Act → World → Prop} {y : ByteArray} {wo : World} {kd : Int} {nm : ByteArray} {A B : Option Addr} {n1 c1 n2 c2 : Nat} (hN : ∀ a', Frm 28 [(1, .string y), (2, .pointer (some ⟨wo.heap.size, 0, none⟩)), (4, .pointer (some ⟨wo.heap.size + 1, 0, none⟩)), (5, .pointer (some ⟨wo.heap.size + 1 + 1, 0, none⟩))] a' → Q .normal a' (((wo.alloc (.cells #[.int .i64 kd, .string nm, .slice A n1 c1, .slice B n2 c2] 25)).alloc (.cells #[.int .i64 0, .string ⟨#[]⟩, .slice none 0 0, .slice none 0 0] 25)).alloc (.cells #[.int .i64 0, .int .i64 0] 27))) : ∀ ac, Frm 28 [(0, .agg #[.int .i64 kd, .string nm, .slice A n1 c1, .slice B n2 c2]), (1, .string y)] ac → Code.wp Tryd.prog c_in2_r0 Q ac wo := by
  refine frm_open ?_
  refine frame_in2 ?_
  intros
  rename_i hq
  obtain ⟨-, -, e0q, e1q, -⟩ := hq
  obtain rfl := sI e0q
  obtain rfl := sI e1q
  conv => arg 2; whnf
  have HN := Lib.hid hN
  clear hN
  go_wp2_with fail
  exact HN.out _ (id ⟨rfl, rfl, rfl, rfl, rfl, rfl, trivial⟩)
noncomputable def c_in2_r1 : Code := sub [1, 0, 0] (Tryd.f32.body.getD .skip)
set_option maxRecDepth 1000000 in
set_option maxHeartbeats 16000000 in
theorem in2_r1_wp {Q : Exit → Act → World → Prop} {wo w : World} {c j : Nat} {y : ByteArray} {kd : Int} {nm : ByteArray} {A B : Option Addr} {n1 c1 n2 c2 : Nat} (ha : w.heap[wo.heap.size]? = some (.cells #[.int .i64 kd, .string nm, .slice A n1 c1, .slice B n2 c2] 25 (0, 0))) (hc : Calls Tryd.prog 15 #[.agg #[.int .i64 kd, .string nm, .slice A n1 c1, .slice B n2 c2]] w fun e w' => e = .returned (.agg #[.int .i64 (c : Nat), .int .i64 (j : Nat)]) ∧ Below w.heap.size w w') (hN : ∀ w1 a', Frm 28 [(1, .string y), (2, .pointer (some ⟨wo.heap.size, 0, none⟩)), (4, .pointer (some ⟨wo.heap.size + 1, 0, none⟩)), (5, .pointer (some ⟨wo.heap.size + 2, 0, none⟩)), (6, .pointer (some ⟨w1.heap.size, 0, none⟩))] a' → Below w.heap.size w w1 → Q .normal a' (w1.alloc (.cells #[.int .i64 (c : Nat), .int .i64 (j : Nat)] 27))) : ∀ ac, Frm 28 [(1, .string y), (2, .pointer (some ⟨wo.heap.size, 0, none⟩)), (4, .pointer (some ⟨wo.heap.size + 1, 0, none⟩)), (5, .pointer (some ⟨wo.heap.size + 2, 0, none⟩))] ac → Code.wp Tryd.prog c_in2_r1 Q ac w := by
  refine frm_open ?_
  refine frame_in2 ?_
  intros
  rename_i hq
  obtain ⟨-, -, e0q, e1q, e2q, e3q, -⟩ := hq
  obtain rfl := sI e0q
  obtain rfl := sI e1q
  obtain rfl := sI e2q
  obtain rfl := sI e3q
  conv => arg 2; whnf
  have a0 := cellv ha 0 rfl
  have a1 := cellv ha 1 rfl
  have a2 := cellv ha 2 rfl
  have a3 := cellv ha 3 rfl
  have al := lt_heap ha
  clear ha
  have HN := Lib.hid hN
  have HC := Lib.hid hc
  clear hN hc
  go_wp2_with fail
  (with_reducible refine HC.out.mono ?_)
  rintro e w1 ⟨rfl, hb1⟩
  have HB1 := Lib.hid hb1
  clear hb1
  go_wp2_with fail
  exact HN.out _ _ (id ⟨rfl, rfl, rfl, rfl, rfl, rfl, rfl, trivial⟩) HB1.out
noncomputable def c_in2_r2 : Code := sub [1, 0, 1, 0] (Tryd.f32.body.getD .skip)
set_option maxRecDepth 1000000 in
set_option maxHeartbeats 16000000 in
theorem in2_r2_wp {Q : Exit → Act → World → Prop} {gb c j : Nat} {y : ByteArray} {wo w : World} (hb : w.heap[gb]? = some (.cells #[.int .i64 (c : Nat), .int .i64 (j : Nat)] 27 (0, 0))) (hN : ∀ a', Frm 28 [(1, .string y), (2, .pointer (some ⟨wo.heap.size, 0, none⟩)), (4, .pointer (some ⟨wo.heap.size + 1, 0, none⟩)), (5, .pointer (some ⟨wo.heap.size + 2, 0, none⟩)), (6, .pointer (some ⟨gb, 0, none⟩)), (11, .bool (decide (c ≠ 0)))] a' → Q .normal a' w) : ∀ ac, Frm 28 [(1, .string y), (2, .pointer (some ⟨wo.heap.size, 0, none⟩)), (4, .pointer (some ⟨wo.heap.size + 1, 0, none⟩)), (5, .pointer (some ⟨wo.heap.size + 2, 0, none⟩)), (6, .pointer (some ⟨gb, 0, none⟩))] ac → Code.wp Tryd.prog c_in2_r2 Q ac w := by
  refine frm_open ?_
  refine frame_in2 ?_
  intros
  rename_i hq
  obtain ⟨-, -, e0q, e1q, e2q, e3q, e4q, -⟩ := hq
  obtain rfl := sI e0q
  obtain rfl := sI e1q
  obtain rfl := sI e2q
  obtain rfl := sI e3q
  obtain rfl := sI e4q
  conv => arg 2; whnf
  have b0 := cellv hb 0 rfl
  have bl := lt_heap hb
  clear hb
  by_cases h : c ≠ 0
  · have t0 := h
    have t1 : ((c : Int) != 0) = true := by first | exact bne_iff_ne.2 (by omega) | exact bne_eq_false_iff_eq.2 (by omega)
    rw [show decide (c ≠ 0) = true from by simpa using h] at hN
    clear h
    have HN := Lib.hid hN
    clear hN
    go_wp2_with fail
    exact HN.out _ (id ⟨rfl, rfl, rfl, rfl, rfl, rfl, rfl, rfl, trivial⟩)
  · have t0 := h
    have t1 : ((c : Int) != 0) = false := by first | exact bne_iff_ne.2 (by omega) | exact bne_eq_false_iff_eq.2 (by omega)
    rw [show decide (c ≠ 0) = false from by simpa using h] at hN
    clear h
    have HN := Lib.hid hN
    clear hN
    go_wp2_with fail
    exact HN.out _ (id ⟨rfl, rfl, rfl, rfl, rfl, rfl, rfl, rfl, trivial⟩)
noncomputable def c_in2_r3 : Code := sub [1, 0, 1, 1, 0, 0] (Tryd.f32.body.getD .skip)
set_option maxRecDepth 1000000 in
set_option maxHeartbeats 16000000 in
theorem in2_r3_wp {K : Act → World → Prop} {gz gx gb : Nat} {c j : Int} {w : World} (hne : gz ≠ gx) (hz : w.heap[gz]? = some (.cells #[.int .i64 0, .string ⟨#[]⟩, .slice none 0 0, .slice none 0 0] 25 (0, 0))) (hx : w.heap[gx]? = some (.cells #[.int .i64 0, .int .i64 0] 27 (0, 0))) (hbz : gb ≠ gz) (hbx2 : gb ≠ gx) (hbx : w.heap[gb]? = some (.cells #[.int .i64 c, .int .i64 j] 27 (0, 0))) (hN : ∀ a' w', Frm 28 [(4, .pointer (some ⟨gz, 0, none⟩)), (5, .pointer (some ⟨gx, 0, none⟩))] a' → w'.heap[gz]? = some (.cells #[.int .i64 0, .string ⟨#[]⟩, .slice none 0 0, .slice none 0 0] 25 (0, 0)) → w'.heap[gx]? = some (.cells #[.int .i64 c, .int .i64 j] 27 (0, 0)) → Keeps (fun k => k = gz ∨ k = gx) w w' → K a' w') : ∀ ac, Frm 28 [(4, .pointer (some ⟨gz, 0, none⟩)), (5, .pointer (some ⟨gx, 0, none⟩)), (6, .pointer (some ⟨gb, 0, none⟩))] ac → Code.wp Tryd.prog c_in2_r3 (Exit.then K (fun _ _ _ => False)) ac w := by
  refine frm_open ?_
  refine frame_in2 ?_
  intros
  rename_i hq
  obtain ⟨-, -, e0q, e1q, e2q, -⟩ := hq
  obtain rfl := sI e0q
  obtain rfl := sI e1q
  obtain rfl := sI e2q
  conv => arg 2; whnf
  have b0 := cellv hbx 0 rfl
  have b1 := cellv hbx 1 rfl
  have bl := lt_heap hbx
  have z0 := cellv hz 0 rfl
  have z1 := cellv hz 1 rfl
  have z2 := cellv hz 2 rfl
  have z3 := cellv hz 3 rfl
  have zf0 := free_heap hz 0
  have zf1 := free_heap hz 1
  have zf2 := free_heap hz 2
  have zf3 := free_heap hz 3
  have zl := lt_heap hz
  have x0 := cellv hx 0 rfl
  have x1 := cellv hx 1 rfl
  have xf0 := free_heap hx 0
  have xf1 := free_heap hx 1
  have xl := lt_heap hx
  have HZ := Lib.hid hz
  have HX := Lib.hid hx
  clear hz hx
  clear hbx
  have HN := Lib.hid hN
  clear hN
  go_region
  all_goals go_wp2_with fail
  all_goals refine HN.out _ _ (id ⟨rfl, rfl, rfl, rfl, trivial⟩) ?_ ?_ ?_
  · exact heap_drew (far2 hne (at4F HZ.out))
  · exact heap_drew (at2 (far4F (Ne.symm hne) HX.out))
  · exact Keeps.drew (keeps2F (keeps4F (Keeps.refl _ _) (Or.inl (Or.inl rfl))) (Or.inl (Or.inr rfl)))
noncomputable def c_in2_r4 : Code := sub [1, 1, 0, 0] (Tryd.f32.body.getD .skip)
set_option maxRecDepth 1000000 in
set_option maxHeartbeats 16000000 in
theorem in2_r4_wp {Q : Exit → Act → World → Prop} {wo w : World} {y : ByteArray} {kd : Int} {nm : ByteArray} {A B : Option Addr} {n1 c1 n2 c2 : Nat} (ha : w.heap[wo.heap.size]? = some (.cells #[.int .i64 kd, .string nm, .slice A n1 c1, .slice B n2 c2] 25 (0, 0))) (hN : ∀ a' w', Frm 28 [(1, .string y), (2, .pointer (some ⟨wo.heap.size, 0, none⟩)), (4, .pointer (some ⟨wo.heap.size + 1, 0, none⟩)), (5, .pointer (some ⟨wo.heap.size + 2, 0, none⟩)), (16, .bool (!isQu kd))] a' → Below w.heap.size w w' → Q .normal a' w') : ∀ ac, Frm 28 [(1, .string y), (2, .pointer (some ⟨wo.heap.size, 0, none⟩)), (4, .pointer (some ⟨wo.heap.size + 1, 0, none⟩)), (5, .pointer (some ⟨wo.heap.size + 2, 0, none⟩))] ac → Code.wp Tryd.prog c_in2_r4 Q ac w := by
  refine frm_open ?_
  refine frame_in2 ?_
  intros
  rename_i hq
  obtain ⟨-, -, e0q, e1q, e2q, e3q, -⟩ := hq
  obtain rfl := sI e0q
  obtain rfl := sI e1q
  obtain rfl := sI e2q
  obtain rfl := sI e3q
  conv => arg 2; whnf
  have hq := quant_any kd nm A B n1 c1 n2 c2 w
  have a0 := cellv ha 0 rfl
  have a1 := cellv ha 1 rfl
  have a2 := cellv ha 2 rfl
  have a3 := cellv ha 3 rfl
  have al := lt_heap ha
  clear ha
  have HN := Lib.hid hN
  have HQ := Lib.hid hq
  clear hN hq
  go_wp2_with fail
  (with_reducible refine HQ.out.mono ?_)
  rintro e w1 ⟨rfl, hb1⟩
  have HB1 := Lib.hid hb1
  clear hb1
  go_wp2_with fail
  exact HN.out _ _ (id ⟨rfl, rfl, rfl, rfl, rfl, rfl, rfl, trivial⟩) HB1.out
noncomputable def c_in2_r5 : Code := sub [1, 1, 0, 1, 0, 0] (Tryd.f32.body.getD .skip)
set_option maxRecDepth 1000000 in
set_option maxHeartbeats 16000000 in
theorem in2_r5_wp {Q : Exit → Act → World → Prop} {gz gx : Nat} {w : World} (hne : gz ≠ gx) (hz : w.heap[gz]? = some (.cells #[.int .i64 0, .string ⟨#[]⟩, .slice none 0 0, .slice none 0 0] 25 (0, 0))) (hx : w.heap[gx]? = some (.cells #[.int .i64 0, .int .i64 0] 27 (0, 0))) (hN : ∀ a' w', Frm 28 [(4, .pointer (some ⟨gz, 0, none⟩)), (5, .pointer (some ⟨gx, 0, none⟩))] a' → w'.heap[gz]? = some (.cells #[.int .i64 0, .string ⟨#[]⟩, .slice none 0 0, .slice none 0 0] 25 (0, 0)) → w'.heap[gx]? = some (.cells #[.int .i64 4, .int .i64 (-1)] 27 (0, 0)) → Keeps (fun k => k = gz ∨ k = gx) w w' → Q .normal a' w') : ∀ ac, Frm 28 [(4, .pointer (some ⟨gz, 0, none⟩)), (5, .pointer (some ⟨gx, 0, none⟩))] ac → Code.wp Tryd.prog c_in2_r5 Q ac w := by
  refine frm_open ?_
  refine frame_in2 ?_
  intros
  rename_i hq
  obtain ⟨-, -, e0q, e1q, -⟩ := hq
  obtain rfl := sI e0q
  obtain rfl := sI e1q
  conv => arg 2; whnf
  have z0 := cellv hz 0 rfl
  have z1 := cellv hz 1 rfl
  have z2 := cellv hz 2 rfl
  have z3 := cellv hz 3 rfl
  have zf0 := free_heap hz 0
  have zf1 := free_heap hz 1
  have zf2 := free_heap hz 2
  have zf3 := free_heap hz 3
  have zl := lt_heap hz
  have x0 := cellv hx 0 rfl
  have x1 := cellv hx 1 rfl
  have xf0 := free_heap hx 0
  have xf1 := free_heap hx 1
  have xl := lt_heap hx
  have HZ := Lib.hid hz
  have HX := Lib.hid hx
  clear hz hx
  have HN := Lib.hid hN
  clear hN
  go_wp2_with fail
  all_goals refine HN.out _ _ (id ⟨rfl, rfl, rfl, rfl, trivial⟩) ?_ ?_ ?_
  · exact far2 hne (at4F HZ.out)
  · exact at2 (far4F (Ne.symm hne) HX.out)
  · exact keeps2F (keeps4F (Keeps.refl _ _) (Or.inl (Or.inl rfl))) (Or.inl (Or.inr rfl))
noncomputable def c_in2_r6 : Code := sub [1, 1, 1, 0, 0] (Tryd.f32.body.getD .skip)
set_option maxRecDepth 1000000 in
set_option maxHeartbeats 16000000 in
theorem in2_r6_wp {Q : Exit → Act → World → Prop} {wo w : World} {y : ByteArray} (hy : y.size ≤ maxLen) (hN : ∀ a', Frm 28 [(1, .string y), (2, .pointer (some ⟨wo.heap.size, 0, none⟩)), (4, .pointer (some ⟨wo.heap.size + 1, 0, none⟩)), (5, .pointer (some ⟨wo.heap.size + 2, 0, none⟩)), (21, .bool (!okName y))] a' → Q .normal a' w) : ∀ ac, Frm 28 [(1, .string y), (2, .pointer (some ⟨wo.heap.size, 0, none⟩)), (4, .pointer (some ⟨wo.heap.size + 1, 0, none⟩)), (5, .pointer (some ⟨wo.heap.size + 2, 0, none⟩))] ac → Code.wp Tryd.prog c_in2_r6 Q ac w := by
  refine frm_open ?_
  refine frame_in2 ?_
  intros
  rename_i hq
  obtain ⟨-, -, e0q, e1q, e2q, e3q, -⟩ := hq
  obtain rfl := sI e0q
  obtain rfl := sI e1q
  obtain rfl := sI e2q
  obtain rfl := sI e3q
  conv => arg 2; whnf
  have hq := name_any y w hy
  have HN := Lib.hid hN
  have HQ := Lib.hid hq
  clear hN hq
  go_wp2_with fail
  (with_reducible refine HQ.out.mono ?_)
  rintro e w1 ⟨rfl, rfl⟩
  go_wp2_with fail
  exact HN.out _ (id ⟨rfl, rfl, rfl, rfl, rfl, rfl, rfl, trivial⟩)
noncomputable def c_in2_r7 : Code := sub [1, 1, 1, 0, 1, 0, 0] (Tryd.f32.body.getD .skip)
set_option maxRecDepth 1000000 in
set_option maxHeartbeats 16000000 in
theorem in2_r7_wp {Q : Exit → Act → World → Prop} {gz gx : Nat} {w : World} (hne : gz ≠ gx) (hz : w.heap[gz]? = some (.cells #[.int .i64 0, .string ⟨#[]⟩, .slice none 0 0, .slice none 0 0] 25 (0, 0))) (hx : w.heap[gx]? = some (.cells #[.int .i64 0, .int .i64 0] 27 (0, 0))) (hN : ∀ a' w', Frm 28 [(4, .pointer (some ⟨gz, 0, none⟩)), (5, .pointer (some ⟨gx, 0, none⟩))] a' → w'.heap[gz]? = some (.cells #[.int .i64 0, .string ⟨#[]⟩, .slice none 0 0, .slice none 0 0] 25 (0, 0)) → w'.heap[gx]? = some (.cells #[.int .i64 10, .int .i64 (-2)] 27 (0, 0)) → Keeps (fun k => k = gz ∨ k = gx) w w' → Q .normal a' w') : ∀ ac, Frm 28 [(4, .pointer (some ⟨gz, 0, none⟩)), (5, .pointer (some ⟨gx, 0, none⟩))] ac → Code.wp Tryd.prog c_in2_r7 Q ac w := by
  refine frm_open ?_
  refine frame_in2 ?_
  intros
  rename_i hq
  obtain ⟨-, -, e0q, e1q, -⟩ := hq
  obtain rfl := sI e0q
  obtain rfl := sI e1q
  conv => arg 2; whnf
  have z0 := cellv hz 0 rfl
  have z1 := cellv hz 1 rfl
  have z2 := cellv hz 2 rfl
  have z3 := cellv hz 3 rfl
  have zf0 := free_heap hz 0
  have zf1 := free_heap hz 1
  have zf2 := free_heap hz 2
  have zf3 := free_heap hz 3
  have zl := lt_heap hz
  have x0 := cellv hx 0 rfl
  have x1 := cellv hx 1 rfl
  have xf0 := free_heap hx 0
  have xf1 := free_heap hx 1
  have xl := lt_heap hx
  have HZ := Lib.hid hz
  have HX := Lib.hid hx
  clear hz hx
  have HN := Lib.hid hN
  clear hN
  go_wp2_with fail
  all_goals refine HN.out _ _ (id ⟨rfl, rfl, rfl, rfl, trivial⟩) ?_ ?_ ?_
  · exact far2 hne (at4F HZ.out)
  · exact at2 (far4F (Ne.symm hne) HX.out)
  · exact keeps2F (keeps4F (Keeps.refl _ _) (Or.inl (Or.inl rfl))) (Or.inl (Or.inr rfl))
noncomputable def c_in2_r8 : Code := sub [1, 1, 1, 1, 0] (Tryd.f32.body.getD .skip)
set_option maxRecDepth 1000000 in
set_option maxHeartbeats 16000000 in
theorem in2_r8_wp {Q : Exit → Act → World → Prop} {PV : Int → ByteArray → Option Addr → Nat → Nat → Option Addr → Nat → Nat → World → Prop} {gz gx : Nat} {y : ByteArray} {wo w : World} {kd : Int} {nm : ByteArray} {A B : Option Addr} {n1 c1 n2 c2 : Nat} (ha : w.heap[wo.heap.size]? = some (.cells #[.int .i64 kd, .string nm, .slice A n1 c1, .slice B n2 c2] 25 (0, 0))) (hne : gz ≠ gx) (hc : Calls Tryd.prog 53 #[.agg #[.int .i64 kd, .string nm, .slice A n1 c1, .slice B n2 c2], .string y] w fun e w' => ∃ ke ne Ae n3 c3 Be n4 c4, e = .returned (.agg #[.int .i64 ke, .string ne, .slice Ae n3 c3, .slice Be n4 c4]) ∧ w'.heap[gz]? = some (.cells #[.int .i64 0, .string ⟨#[]⟩, .slice none 0 0, .slice none 0 0] 25 (0, 0)) ∧ w'.heap[gx]? = some (.cells #[.int .i64 0, .int .i64 0] 27 (0, 0)) ∧ PV ke ne Ae n3 c3 Be n4 c4 w') (hN : ∀ ke ne Ae n3 c3 Be n4 c4 w1 a' w', Frm 28 [(4, .pointer (some ⟨gz, 0, none⟩)), (5, .pointer (some ⟨gx, 0, none⟩))] a' → PV ke ne Ae n3 c3 Be n4 c4 w1 → w'.heap[gz]? = some (.cells #[.int .i64 ke, .string ne, .slice Ae n3 c3, .slice Be n4 c4] 25 (0, 0)) → w'.heap[gx]? = some (.cells #[.int .i64 0, .int .i64 0] 27 (0, 0)) → Keeps (fun k => k = gz ∨ k = gx) w1 w' → Q .normal a' w') : ∀ ac, Frm 28 [(1, .string y), (2, .pointer (some ⟨wo.heap.size, 0, none⟩)), (4, .pointer (some ⟨gz, 0, none⟩)), (5, .pointer (some ⟨gx, 0, none⟩))] ac → Code.wp Tryd.prog c_in2_r8 Q ac w := by
  refine frm_open ?_
  refine frame_in2 ?_
  intros
  rename_i hq
  obtain ⟨-, -, e0q, e1q, e2q, e3q, -⟩ := hq
  obtain rfl := sI e0q
  obtain rfl := sI e1q
  obtain rfl := sI e2q
  obtain rfl := sI e3q
  conv => arg 2; whnf
  have a0 := cellv ha 0 rfl
  have a1 := cellv ha 1 rfl
  have a2 := cellv ha 2 rfl
  have a3 := cellv ha 3 rfl
  have al := lt_heap ha
  clear ha
  have zc := fun (W : World) (h : W.heap[gz]? = some (.cells #[.int .i64 0, .string ⟨#[]⟩, .slice none 0 0, .slice none 0 0] 25 (0, 0))) => And.intro (cellv h 0 rfl) (And.intro (cellv h 1 rfl) (And.intro (cellv h 2 rfl) (And.intro (cellv h 3 rfl) (And.intro (free_heap h 0) (And.intro (free_heap h 1) (And.intro (free_heap h 2) (free_heap h 3)))))))
  have xc := fun (W : World) (h : W.heap[gx]? = some (.cells #[.int .i64 0, .int .i64 0] 27 (0, 0))) => And.intro (cellv h 0 rfl) (And.intro (cellv h 1 rfl) (And.intro (free_heap h 0) (free_heap h 1)))
  have ZC := Lib.hid zc
  have XC := Lib.hid xc
  clear zc xc
  have HN := Lib.hid hN
  have HC := Lib.hid hc
  clear hN hc
  go_wp2_with fail
  (with_reducible refine HC.out.mono ?_)
  rintro e w1 ⟨ke, ne, Ae, n3, c3, Be, n4, c4, rfl, hz, hx, hp⟩
  obtain ⟨y0, y1, y2, y3, yf0, yf1, yf2, yf3⟩ := ZC.out w1 hz
  obtain ⟨u0, u1, uf0, uf1⟩ := XC.out w1 hx
  have yl := lt_heap hz
  have ul := lt_heap hx
  have HP := Lib.hid hp
  have HZ := Lib.hid hz
  have HX := Lib.hid hx
  clear hp hz hx
  go_wp2_with fail
  refine HN.out _ _ _ _ _ _ _ _ _ _ _ (id ⟨rfl, rfl, rfl, rfl, trivial⟩) HP.out ?_ ?_ ?_
  · exact far2 hne (at4F HZ.out)
  · exact at2 (far4F (Ne.symm hne) HX.out)
  · exact keeps2F (keeps4F (Keeps.refl _ _) (Or.inl (Or.inl rfl))) (Or.inl (Or.inr rfl))
set_option maxRecDepth 1000000 in
theorem in2_ret_wp {R : Ending → World → Prop} {w' : World} {gz gx : Nat} {v0 v1 v2 v3 : Value} {c j : Int} (hg : w'.heap[gz]? = some (.cells #[v0, v1, v2, v3] 25 (0, 0))) (hx : w'.heap[gx]? = some (.cells #[.int .i64 c, .int .i64 j] 27 (0, 0))) (ho : v0.oneCell' = true ∧ v1.oneCell' = true ∧ v2.oneCell' = true ∧ v3.oneCell' = true) (hR : R (.returned (.tuple #[.agg #[v0, v1, v2, v3], .agg #[.int .i64 c, .int .i64 j]])) w') : ∀ ac, Frm 28 [(4, .pointer (some ⟨gz, 0, none⟩)), (5, .pointer (some ⟨gx, 0, none⟩))] ac → bodyPost Tryd.prog Tryd.f32 R .ret ac w' := by
  refine frm_open ?_
  refine frame_in2 ?_
  intros
  rename_i hq
  obtain ⟨-, -, e0q, e1q, -⟩ := hq
  obtain rfl := sI e0q
  obtain rfl := sI e1q
  have z0 := cellv hg 0 rfl
  have z1 := cellv hg 1 rfl
  have z2 := cellv hg 2 rfl
  have z3 := cellv hg 3 rfl
  have zl := lt_heap hg
  have x0 := cellv hx 0 rfl
  have x1 := cellv hx 1 rfl
  have xl := lt_heap hx
  obtain ⟨o0, o1, o2, o3⟩ := ho
  refine bodyPost_ret (v := .tuple #[.agg #[v0, v1, v2, v3], .agg #[.int .i64 c, .int .i64 j]]) (by simp [results, Tryd.results32, go_sem, z0, z1, z2, z3, zl, x0, x1, xl, o0, o1, o2, o3]) rfl ?_
  exact hR
end

end Go.Proofs.YtdofemkfmkopcaaDoor
