/-
  A copy of a formula under way; the reference's Swapped: its regions up to the words' end.
-/
import Derived.Test.YtdofemkfmkopcaaDoorNext
namespace Go.Proofs.YtdofemkfmkopcaaDoor
open Go Go.RowKit
set_option linter.unusedSimpArgs false
set_option linter.unusedVariables false

/-- A copy of a formula under way: the formula (block wo.heap.size), the result (+ 1), the copy (+ 2) with its words so far. -/
structure CY (PP : Nat → Prop) (wo w : World) (vw : Value) (ws : List ByteArray) (x : ByteArray) (vs : Value) (kd : Int) (nm : ByteArray) (A : Option Addr) (n1 c1 : Nat) (B : Option Addr) (n2 c2 : Nat) : Prop where
  a : w.heap[wo.heap.size]? = some (.cells #[.int .i64 kd, .string nm, .slice A n1 c1, .slice B n2 c2] 25 (0, 0))
  z : w.heap[wo.heap.size + 1]? = some (.cells #[.int .i64 0, .string ⟨#[]⟩, .slice none 0 0, .slice none 0 0] 25 (0, 0))
  c : w.heap[wo.heap.size + 2]? = some (.cells #[.int .i64 kd, .string x, vw, vs] 25 (0, 0))
  rw : w.ownsRow (wo.heap.size + 3) 9 1 vw ws.length (ws.map .string)
  b : Keeps PP wo w
  p : ∀ k, PP k → k < wo.heap.size
theorem CY.keeps {PP : Nat → Prop} {vw vs : Value} {ws : List ByteArray} {x : ByteArray} {wo w : World} {kd : Int} {nm : ByteArray} {A B : Option Addr} {n1 c1 n2 c2 : Nat} {w' : World} (h : CY PP wo w vw ws x vs kd nm A n1 c1 B n2 c2) (hk : Keeps PP w w') : CY PP wo w' vw ws x vs kd nm A n1 c1 B n2 c2 := by
  have h0 := lt_heap h.a
  have h1 := lt_heap h.z
  have h2 := lt_heap h.c
  refine ⟨(hk.block _ h0 (fun e => by have := h.p _ e; omega)).trans h.a, (hk.block _ h1 (fun e => by have := h.p _ e; omega)).trans h.z, (hk.block _ h2 (fun e => by have := h.p _ e; omega)).trans h.c, rowGrownF h.rw (fun k hlt e => hk.block k hlt (fun e2 => by have := h.p _ e2; have := (h.rw.lt k e).1; omega)), h.b.trans hk, h.p⟩
theorem CY.word {PP : Nat → Prop} {vw vs : Value} {ws : List ByteArray} {x : ByteArray} {wo w : World} {kd : Int} {nm : ByteArray} {A B : Option Addr} {n1 c1 n2 c2 : Nat} {w2 : World} {g cap : Nat} {s : ByteArray} {o : Obj} (h : CY PP wo w vw ws x vs kd nm A n1 c1 B n2 c2) (hown : w2.ownsRow (wo.heap.size + 3) 9 1 (.slice (some ⟨g, 0, none⟩) (ws.length + 1) cap) (ws.length + 1) (ws.map .string ++ [.string s])) (hg : (w.alloc o).grownBy w2 vw.ownBlock) :
    w2.heap[wo.heap.size + 2]? = some (.cells #[.int .i64 kd, .string x, vw, vs] 25 (0, 0)) ∧ CY PP wo (w2.setCell ⟨wo.heap.size + 2, 2, none⟩ (.slice (some ⟨g, 0, none⟩) (ws.length + 1) cap)) (.slice (some ⟨g, 0, none⟩) (ws.length + 1) cap) (ws ++ [s]) x vs kd nm A n1 c1 B n2 c2 := by
  have h0 := lt_heap h.a
  have h1 := lt_heap h.z
  have h2 := lt_heap h.c
  have hge : ∀ k, vw.ownBlock = some k → wo.heap.size + 3 ≤ k := fun k e => (h.rw.lt k e).1
  have hk : ∀ k, k < w.heap.size → vw.ownBlock ≠ some k → w2.heap[k]? = w.heap[k]? := fun k h1 h2 => (hg.block k (by simp; omega) (fun e => h2 e.symm)).trans (heap_old h1 rfl)
  have hc2 := (hk _ h2 (fun e => by have := hge _ e; omega)).trans h.c
  have hsz : w.heap.size + 1 ≤ w2.heap.size := by have := hg.size; simpa using this
  have hgg := (hown.lt g rfl).1
  refine ⟨hc2, ?_, ?_, ?_, ?_, ?_, h.p⟩
  · exact heap_far _ (by omega) ((hk _ h0 (fun e => by have := hge _ e; omega)).trans h.a)
  · exact heap_far _ (by omega) ((hk _ h1 (fun e => by have := hge _ e; omega)).trans h.z)
  · have := heap_set hc2 2 (.slice (some ⟨g, 0, none⟩) (ws.length + 1) cap)
    simpa using this
  · have h3 : (w2.setCell ⟨wo.heap.size + 2, 2, none⟩ (.slice (some ⟨g, 0, none⟩) (ws.length + 1) cap)).ownsRow (wo.heap.size + 3) 9 1 (.slice (some ⟨g, 0, none⟩) (ws.length + 1) cap) (ws.length + 1) (ws.map .string ++ [.string s]) := rowGrownF hown (fun b _ e => heap_far _ (by have e2 : g = b := Option.some.inj e; omega) rfl)
    simpa using h3
  · refine ⟨hg.os.trans h.b.os, hg.tape.trans h.b.tape, hg.output.trans h.b.output, by rw [size_set]; have := h.b.size; omega, fun k hk1 hk2 => ?_⟩
    have := h.b.size
    exact (heap_far _ (by omega) (hk k (by omega) (fun e => by have := hge _ e; omega))).trans (h.b.block k hk1 hk2)
set_option maxRecDepth 1000000 in
theorem frame_sw {P : Act → Prop} (h : ∀ x0 x1 x2 x3 x4 x5 x6 x7 x8 x9 x10 x11 x12 x13 x14 x15 x16 x17 x18 x19 x20 x21 x22 x23 x24 x25 x26 x27 x28 x29 x30 x31 x32 x33 x34 x35 x36 x37 x38 x39 x40 x41 x42 x43 x44 x45 x46 x47 x48 x49 x50 x51 x52 x53 x54 x55 x56 x57 x58 x59 x60 x61 x62 x63 x64 x65 x66 x67 x68 x69 x70 x71 x72 x73 x74 x75 x76 x77 x78 x79 x80 x81 x82 x83 x84 x85 x86 x87 x88 x89 x90 x91 x92 x93 x94 : Value, P ⟨(x0 :: x1 :: x2 :: x3 :: x4 :: x5 :: x6 :: x7 :: x8 :: x9 :: x10 :: x11 :: x12 :: x13 :: x14 :: x15 :: x16 :: x17 :: x18 :: x19 :: x20 :: x21 :: x22 :: x23 :: x24 :: x25 :: x26 :: x27 :: x28 :: x29 :: x30 :: x31 :: x32 :: x33 :: x34 :: x35 :: x36 :: x37 :: x38 :: x39 :: x40 :: x41 :: x42 :: x43 :: x44 :: x45 :: x46 :: x47 :: x48 :: x49 :: x50 :: x51 :: x52 :: x53 :: x54 :: x55 :: x56 :: x57 :: x58 :: x59 :: x60 :: x61 :: x62 :: x63 :: x64 :: x65 :: x66 :: x67 :: x68 :: x69 :: x70 :: x71 :: x72 :: x73 :: x74 :: x75 :: x76 :: x77 :: x78 :: x79 :: x80 :: x81 :: x82 :: x83 :: x84 :: x85 :: x86 :: x87 :: x88 :: x89 :: x90 :: x91 :: x92 :: x93 :: x94 :: []).toArray, []⟩) : ∀ a : Act, a.tmps.toList.length = 95 → a.defers = [] → P a := by
  rintro ⟨⟨l⟩, d⟩ hs hd
  simp only at hd
  subst hd
  revert l
  show ∀ l : List Value, l.length = 95 → P ⟨⟨l⟩, []⟩
  refine openS (n := 94) (fun x0 => ?_)
  refine openS (n := 93) (fun x1 => ?_)
  refine openS (n := 92) (fun x2 => ?_)
  refine openS (n := 91) (fun x3 => ?_)
  refine openS (n := 90) (fun x4 => ?_)
  refine openS (n := 89) (fun x5 => ?_)
  refine openS (n := 88) (fun x6 => ?_)
  refine openS (n := 87) (fun x7 => ?_)
  refine openS (n := 86) (fun x8 => ?_)
  refine openS (n := 85) (fun x9 => ?_)
  refine openS (n := 84) (fun x10 => ?_)
  refine openS (n := 83) (fun x11 => ?_)
  refine openS (n := 82) (fun x12 => ?_)
  refine openS (n := 81) (fun x13 => ?_)
  refine openS (n := 80) (fun x14 => ?_)
  refine openS (n := 79) (fun x15 => ?_)
  refine openS (n := 78) (fun x16 => ?_)
  refine openS (n := 77) (fun x17 => ?_)
  refine openS (n := 76) (fun x18 => ?_)
  refine openS (n := 75) (fun x19 => ?_)
  refine openS (n := 74) (fun x20 => ?_)
  refine openS (n := 73) (fun x21 => ?_)
  refine openS (n := 72) (fun x22 => ?_)
  refine openS (n := 71) (fun x23 => ?_)
  refine openS (n := 70) (fun x24 => ?_)
  refine openS (n := 69) (fun x25 => ?_)
  refine openS (n := 68) (fun x26 => ?_)
  refine openS (n := 67) (fun x27 => ?_)
  refine openS (n := 66) (fun x28 => ?_)
  refine openS (n := 65) (fun x29 => ?_)
  refine openS (n := 64) (fun x30 => ?_)
  refine openS (n := 63) (fun x31 => ?_)
  refine openS (n := 62) (fun x32 => ?_)
  refine openS (n := 61) (fun x33 => ?_)
  refine openS (n := 60) (fun x34 => ?_)
  refine openS (n := 59) (fun x35 => ?_)
  refine openS (n := 58) (fun x36 => ?_)
  refine openS (n := 57) (fun x37 => ?_)
  refine openS (n := 56) (fun x38 => ?_)
  refine openS (n := 55) (fun x39 => ?_)
  refine openS (n := 54) (fun x40 => ?_)
  refine openS (n := 53) (fun x41 => ?_)
  refine openS (n := 52) (fun x42 => ?_)
  refine openS (n := 51) (fun x43 => ?_)
  refine openS (n := 50) (fun x44 => ?_)
  refine openS (n := 49) (fun x45 => ?_)
  refine openS (n := 48) (fun x46 => ?_)
  refine openS (n := 47) (fun x47 => ?_)
  refine openS (n := 46) (fun x48 => ?_)
  refine openS (n := 45) (fun x49 => ?_)
  refine openS (n := 44) (fun x50 => ?_)
  refine openS (n := 43) (fun x51 => ?_)
  refine openS (n := 42) (fun x52 => ?_)
  refine openS (n := 41) (fun x53 => ?_)
  refine openS (n := 40) (fun x54 => ?_)
  refine openS (n := 39) (fun x55 => ?_)
  refine openS (n := 38) (fun x56 => ?_)
  refine openS (n := 37) (fun x57 => ?_)
  refine openS (n := 36) (fun x58 => ?_)
  refine openS (n := 35) (fun x59 => ?_)
  refine openS (n := 34) (fun x60 => ?_)
  refine openS (n := 33) (fun x61 => ?_)
  refine openS (n := 32) (fun x62 => ?_)
  refine openS (n := 31) (fun x63 => ?_)
  refine openS (n := 30) (fun x64 => ?_)
  refine openS (n := 29) (fun x65 => ?_)
  refine openS (n := 28) (fun x66 => ?_)
  refine openS (n := 27) (fun x67 => ?_)
  refine openS (n := 26) (fun x68 => ?_)
  refine openS (n := 25) (fun x69 => ?_)
  refine openS (n := 24) (fun x70 => ?_)
  refine openS (n := 23) (fun x71 => ?_)
  refine openS (n := 22) (fun x72 => ?_)
  refine openS (n := 21) (fun x73 => ?_)
  refine openS (n := 20) (fun x74 => ?_)
  refine openS (n := 19) (fun x75 => ?_)
  refine openS (n := 18) (fun x76 => ?_)
  refine openS (n := 17) (fun x77 => ?_)
  refine openS (n := 16) (fun x78 => ?_)
  refine openS (n := 15) (fun x79 => ?_)
  refine openS (n := 14) (fun x80 => ?_)
  refine openS (n := 13) (fun x81 => ?_)
  refine openS (n := 12) (fun x82 => ?_)
  refine openS (n := 11) (fun x83 => ?_)
  refine openS (n := 10) (fun x84 => ?_)
  refine openS (n := 9) (fun x85 => ?_)
  refine openS (n := 8) (fun x86 => ?_)
  refine openS (n := 7) (fun x87 => ?_)
  refine openS (n := 6) (fun x88 => ?_)
  refine openS (n := 5) (fun x89 => ?_)
  refine openS (n := 4) (fun x90 => ?_)
  refine openS (n := 3) (fun x91 => ?_)
  refine openS (n := 2) (fun x92 => ?_)
  refine openS (n := 1) (fun x93 => ?_)
  refine openS (n := 0) (fun x94 => ?_)
  refine open0 ?_
  exact h x0 x1 x2 x3 x4 x5 x6 x7 x8 x9 x10 x11 x12 x13 x14 x15 x16 x17 x18 x19 x20 x21 x22 x23 x24 x25 x26 x27 x28 x29 x30 x31 x32 x33 x34 x35 x36 x37 x38 x39 x40 x41 x42 x43 x44 x45 x46 x47 x48 x49 x50 x51 x52 x53 x54 x55 x56 x57 x58 x59 x60 x61 x62 x63 x64 x65 x66 x67 x68 x69 x70 x71 x72 x73 x74 x75 x76 x77 x78 x79 x80 x81 x82 x83 x84 x85 x86 x87 x88 x89 x90 x91 x92 x93 x94
noncomputable def c_sw_r0 : Code := sub [0] (Tryd.f31.body.getD .skip)
set_option maxRecDepth 1000000 in
set_option maxHeartbeats 16000000 in
theorem sw_r0_wp {Q : Exit → Act → World → Prop} {Df Dt : Option Addr} {mf ef mt et : Nat} {wo : World} {kd : Int} {nm : ByteArray} {A B : Option Addr} {n1 c1 n2 c2 : Nat} (hN : ∀ a', Frm 95 [(1, .slice Df mf ef), (2, .slice Dt mt et), (3, .pointer (some ⟨wo.heap.size, 0, none⟩)), (6, .pointer (some ⟨wo.heap.size + 1, 0, none⟩))] a' → Q .normal a' ((wo.alloc (.cells #[.int .i64 kd, .string nm, .slice A n1 c1, .slice B n2 c2] 25)).alloc (.cells #[.int .i64 0, .string ⟨#[]⟩, .slice none 0 0, .slice none 0 0] 25))) : ∀ ac, Frm 95 [(0, .agg #[.int .i64 kd, .string nm, .slice A n1 c1, .slice B n2 c2]), (1, .slice Df mf ef), (2, .slice Dt mt et)] ac → Code.wp Tryd.prog c_sw_r0 Q ac wo := by
  refine frm_open ?_
  refine frame_sw ?_
  intros
  rename_i hq
  obtain ⟨-, -, e0q, e1q, e2q, -⟩ := hq
  obtain rfl := sI e0q
  obtain rfl := sI e1q
  obtain rfl := sI e2q
  conv => arg 2; whnf
  have HN := Lib.hid hN
  clear hN
  go_wp2_with fail
  exact HN.out _ (id ⟨rfl, rfl, rfl, rfl, rfl, rfl, trivial⟩)
noncomputable def c_sw_r1 : Code := sub [1, 0] (Tryd.f31.body.getD .skip)
set_option maxRecDepth 1000000 in
set_option maxHeartbeats 16000000 in
theorem sw_r1_wp {Q : Exit → Act → World → Prop} {Df Dt : Option Addr} {mf ef mt et : Nat} {wo w : World} {kd : Int} {nm : ByteArray} {A B : Option Addr} {n1 c1 n2 c2 : Nat} (ha : w.heap[wo.heap.size]? = some (.cells #[.int .i64 kd, .string nm, .slice A n1 c1, .slice B n2 c2] 25 (0, 0))) (hN : ∀ a', Frm 95 [(1, .slice Df mf ef), (2, .slice Dt mt et), (3, .pointer (some ⟨wo.heap.size, 0, none⟩)), (6, .pointer (some ⟨wo.heap.size + 1, 0, none⟩)), (7, .pointer (some ⟨w.heap.size, 0, none⟩))] a' → Q .normal a' (w.alloc (.cells #[.int .i64 kd, .string nm, .slice none 0 0, .slice none 0 0] 25))) : ∀ ac, Frm 95 [(1, .slice Df mf ef), (2, .slice Dt mt et), (3, .pointer (some ⟨wo.heap.size, 0, none⟩)), (6, .pointer (some ⟨wo.heap.size + 1, 0, none⟩))] ac → Code.wp Tryd.prog c_sw_r1 Q ac w := by
  refine frm_open ?_
  refine frame_sw ?_
  intros
  rename_i hq
  obtain ⟨-, -, e0q, e1q, e2q, e3q, -⟩ := hq
  obtain rfl := sI e0q
  obtain rfl := sI e1q
  obtain rfl := sI e2q
  obtain rfl := sI e3q
  conv => arg 2; whnf
  have a0 := cellv ha 0 rfl
  have a1 := cellv ha 1 rfl
  have a2 := cellv ha 2 rfl
  have a3 := cellv ha 3 rfl
  have al := lt_heap ha
  clear ha
  have HN := Lib.hid hN
  clear hN
  go_wp2_with fail
  exact HN.out _ (id ⟨rfl, rfl, rfl, rfl, rfl, rfl, rfl, trivial⟩)
noncomputable def c_sw_r2 : Code := sub [1, 1, 0, 0] (Tryd.f31.body.getD .skip)
set_option maxRecDepth 1000000 in
set_option maxHeartbeats 16000000 in
theorem sw_r2_wp {Q : Exit → Act → World → Prop} {Df Dt : Option Addr} {mf ef mt et : Nat} {PP : Nat → Prop} {vw vs : Value} {ws : List ByteArray} {x : ByteArray} {wo w : World} {kd : Int} {nm : ByteArray} {A B : Option Addr} {n1 c1 n2 c2 : Nat} (hs : CY PP wo w vw ws x vs kd nm A n1 c1 B n2 c2) (hN : ∀ a', Frm 95 [(1, .slice Df mf ef), (2, .slice Dt mt et), (3, .pointer (some ⟨wo.heap.size, 0, none⟩)), (6, .pointer (some ⟨wo.heap.size + 1, 0, none⟩)), (7, .pointer (some ⟨wo.heap.size + 2, 0, none⟩)), (19, .slice A n1 c1), (20, .int .i64 (n1 : Nat)), (21, .int .i64 (0 : Nat))] a' → Q .normal a' w) : ∀ ac, Frm 95 [(1, .slice Df mf ef), (2, .slice Dt mt et), (3, .pointer (some ⟨wo.heap.size, 0, none⟩)), (6, .pointer (some ⟨wo.heap.size + 1, 0, none⟩)), (7, .pointer (some ⟨wo.heap.size + 2, 0, none⟩))] ac → Code.wp Tryd.prog c_sw_r2 Q ac w := by
  refine frm_open ?_
  refine frame_sw ?_
  intros
  rename_i hq
  obtain ⟨-, -, e0q, e1q, e2q, e3q, e4q, -⟩ := hq
  obtain rfl := sI e0q
  obtain rfl := sI e1q
  obtain rfl := sI e2q
  obtain rfl := sI e3q
  obtain rfl := sI e4q
  conv => arg 2; whnf
  have a0 := cellv hs.a 0 rfl
  have a1 := cellv hs.a 1 rfl
  have a2 := cellv hs.a 2 rfl
  have a3 := cellv hs.a 3 rfl
  have al := lt_heap hs.a
  have HS := Lib.hid hs
  clear hs
  have HN := Lib.hid hN
  clear hN
  go_wp2_with fail
  exact HN.out _ (id ⟨rfl, rfl, rfl, rfl, rfl, rfl, rfl, rfl, rfl, rfl, trivial⟩)
noncomputable def c_sw_r3 : Code := sub [1, 1, 0, 1, 0, 0, 0] (Tryd.f31.body.getD .skip)
set_option maxRecDepth 1000000 in
set_option maxHeartbeats 16000000 in
theorem sw_r3_wp {Q : Exit → Act → World → Prop} {A : Option Addr} {n1 c1 i : Nat} {wo w : World} {Df Dt : Option Addr} {mf ef mt et : Nat} (hN : ∀ a', Frm 95 [(1, .slice Df mf ef), (2, .slice Dt mt et), (3, .pointer (some ⟨wo.heap.size, 0, none⟩)), (6, .pointer (some ⟨wo.heap.size + 1, 0, none⟩)), (7, .pointer (some ⟨wo.heap.size + 2, 0, none⟩)), (19, .slice A n1 c1), (20, .int .i64 (n1 : Nat)), (21, .int .i64 (i : Nat)), (22, .bool (decide (i < n1)))] a' → Q .normal a' w) : ∀ ac, Frm 95 [(1, .slice Df mf ef), (2, .slice Dt mt et), (3, .pointer (some ⟨wo.heap.size, 0, none⟩)), (6, .pointer (some ⟨wo.heap.size + 1, 0, none⟩)), (7, .pointer (some ⟨wo.heap.size + 2, 0, none⟩)), (19, .slice A n1 c1), (20, .int .i64 (n1 : Nat)), (21, .int .i64 (i : Nat))] ac → Code.wp Tryd.prog c_sw_r3 Q ac w := by
  refine frm_open ?_
  refine frame_sw ?_
  intros
  rename_i hq
  obtain ⟨-, -, e0q, e1q, e2q, e3q, e4q, e5q, e6q, e7q, -⟩ := hq
  obtain rfl := sI e0q
  obtain rfl := sI e1q
  obtain rfl := sI e2q
  obtain rfl := sI e3q
  obtain rfl := sI e4q
  obtain rfl := sI e5q
  obtain rfl := sI e6q
  obtain rfl := sI e7q
  conv => arg 2; whnf
  by_cases h : i < n1
  · have t1 : decide ((i : Int) < (n1 : Int)) = true := by first | exact decide_eq_true (by omega) | exact beq_iff_eq.2 (by omega) | exact bne_iff_ne.2 (by omega)
    have t2 : (decide (i < n1)) = true := decide_eq_true h
    rw [t2] at hN
    clear h
    have HN := Lib.hid hN
    clear hN
    go_wp2_with fail
    exact HN.out _ (id ⟨rfl, rfl, rfl, rfl, rfl, rfl, rfl, rfl, rfl, rfl, rfl, trivial⟩)
  · have t1 : decide ((i : Int) < (n1 : Int)) = false := by first | exact decide_eq_false (by omega) | exact beq_eq_false_iff_ne.2 (by omega) | exact bne_eq_false_iff_eq.2 (by omega)
    have t2 : (decide (i < n1)) = false := decide_eq_false h
    rw [t2] at hN
    clear h
    have HN := Lib.hid hN
    clear hN
    go_wp2_with fail
    exact HN.out _ (id ⟨rfl, rfl, rfl, rfl, rfl, rfl, rfl, rfl, rfl, rfl, rfl, trivial⟩)
noncomputable def c_sw_r4 : Code := sub [1, 1, 0, 1, 0, 0, 1, 1, 0, 0, 0] (Tryd.f31.body.getD .skip)
set_option maxRecDepth 1000000 in
set_option maxHeartbeats 16000000 in
theorem sw_r4_wp {Q : Exit → Act → World → Prop} {b o n1 c1 i : Nat} {s : ByteArray} {wo w : World} {Df Dt : Option Addr} {mf ef mt et : Nat} (hi : i < n1) (hc : w.cell? ⟨b, o + i, none⟩ = some (.string s)) (hbl : b < w.heap.size) (hN : ∀ a', Frm 95 [(1, .slice Df mf ef), (2, .slice Dt mt et), (3, .pointer (some ⟨wo.heap.size, 0, none⟩)), (6, .pointer (some ⟨wo.heap.size + 1, 0, none⟩)), (7, .pointer (some ⟨wo.heap.size + 2, 0, none⟩)), (19, .slice (some ⟨b, o, none⟩) n1 c1), (20, .int .i64 (n1 : Nat)), (21, .int .i64 (i : Nat)), (9, .string s)] a' → Q .normal a' w) : ∀ ac, Frm 95 [(1, .slice Df mf ef), (2, .slice Dt mt et), (3, .pointer (some ⟨wo.heap.size, 0, none⟩)), (6, .pointer (some ⟨wo.heap.size + 1, 0, none⟩)), (7, .pointer (some ⟨wo.heap.size + 2, 0, none⟩)), (19, .slice (some ⟨b, o, none⟩) n1 c1), (20, .int .i64 (n1 : Nat)), (21, .int .i64 (i : Nat))] ac → Code.wp Tryd.prog c_sw_r4 Q ac w := by
  refine frm_open ?_
  refine frame_sw ?_
  intros
  rename_i hq
  obtain ⟨-, -, e0q, e1q, e2q, e3q, e4q, e5q, e6q, e7q, -⟩ := hq
  obtain rfl := sI e0q
  obtain rfl := sI e1q
  obtain rfl := sI e2q
  obtain rfl := sI e3q
  obtain rfl := sI e4q
  obtain rfl := sI e5q
  obtain rfl := sI e6q
  obtain rfl := sI e7q
  conv => arg 2; whnf
  have q0 : (0 : Int) ≤ (i : Int) := by omega
  have q1 : (i : Int) < (n1 : Int) := by omega
  have HN := Lib.hid hN
  clear hN
  go_wp2_with fail
  exact HN.out _ (id ⟨rfl, rfl, rfl, rfl, rfl, rfl, rfl, rfl, rfl, rfl, rfl, trivial⟩)
noncomputable def c_sw_r5 : Code := sub [1, 1, 0, 1, 0, 0, 1, 1, 0, 0, 1, 0, 0] (Tryd.f31.body.getD .skip)
set_option maxRecDepth 1000000 in
set_option maxHeartbeats 16000000 in
theorem sw_r5_wp {Q : Exit → Act → World → Prop} {s : ByteArray} {A : Option Addr} {n1 c1 i : Nat} {wo w : World} {Df Dt : Option Addr} {mf ef mt et : Nat} (hN : ∀ a', Frm 95 [(1, .slice Df mf ef), (2, .slice Dt mt et), (3, .pointer (some ⟨wo.heap.size, 0, none⟩)), (6, .pointer (some ⟨wo.heap.size + 1, 0, none⟩)), (7, .pointer (some ⟨wo.heap.size + 2, 0, none⟩)), (19, .slice A n1 c1), (20, .int .i64 (n1 : Nat)), (21, .int .i64 (i : Nat)), (9, .string s), (26, .int .i64 (mf : Nat)), (27, .int .i64 (0 : Nat))] a' → Q .normal a' w) : ∀ ac, Frm 95 [(1, .slice Df mf ef), (2, .slice Dt mt et), (3, .pointer (some ⟨wo.heap.size, 0, none⟩)), (6, .pointer (some ⟨wo.heap.size + 1, 0, none⟩)), (7, .pointer (some ⟨wo.heap.size + 2, 0, none⟩)), (19, .slice A n1 c1), (20, .int .i64 (n1 : Nat)), (21, .int .i64 (i : Nat)), (9, .string s)] ac → Code.wp Tryd.prog c_sw_r5 Q ac w := by
  refine frm_open ?_
  refine frame_sw ?_
  intros
  rename_i hq
  obtain ⟨-, -, e0q, e1q, e2q, e3q, e4q, e5q, e6q, e7q, e8q, -⟩ := hq
  obtain rfl := sI e0q
  obtain rfl := sI e1q
  obtain rfl := sI e2q
  obtain rfl := sI e3q
  obtain rfl := sI e4q
  obtain rfl := sI e5q
  obtain rfl := sI e6q
  obtain rfl := sI e7q
  obtain rfl := sI e8q
  conv => arg 2; whnf
  have HN := Lib.hid hN
  clear hN
  go_wp2_with fail
  exact HN.out _ (id ⟨rfl, rfl, rfl, rfl, rfl, rfl, rfl, rfl, rfl, rfl, rfl, rfl, rfl, trivial⟩)
noncomputable def c_sw_r6 : Code := sub [1, 1, 0, 1, 0, 0, 1, 1, 0, 0, 1, 0, 1, 0, 0, 0] (Tryd.f31.body.getD .skip)
set_option maxRecDepth 1000000 in
set_option maxHeartbeats 16000000 in
theorem sw_r6_wp {Q : Exit → Act → World → Prop} {j : Nat} {s : ByteArray} {A : Option Addr} {n1 c1 i : Nat} {wo w : World} {Df Dt : Option Addr} {mf ef mt et : Nat} (hN : ∀ a', Frm 95 [(1, .slice Df mf ef), (2, .slice Dt mt et), (3, .pointer (some ⟨wo.heap.size, 0, none⟩)), (6, .pointer (some ⟨wo.heap.size + 1, 0, none⟩)), (7, .pointer (some ⟨wo.heap.size + 2, 0, none⟩)), (19, .slice A n1 c1), (20, .int .i64 (n1 : Nat)), (21, .int .i64 (i : Nat)), (9, .string s), (26, .int .i64 (mf : Nat)), (27, .int .i64 (j : Nat)), (28, .bool (decide (j < mf)))] a' → Q .normal a' w) : ∀ ac, Frm 95 [(1, .slice Df mf ef), (2, .slice Dt mt et), (3, .pointer (some ⟨wo.heap.size, 0, none⟩)), (6, .pointer (some ⟨wo.heap.size + 1, 0, none⟩)), (7, .pointer (some ⟨wo.heap.size + 2, 0, none⟩)), (19, .slice A n1 c1), (20, .int .i64 (n1 : Nat)), (21, .int .i64 (i : Nat)), (9, .string s), (26, .int .i64 (mf : Nat)), (27, .int .i64 (j : Nat))] ac → Code.wp Tryd.prog c_sw_r6 Q ac w := by
  refine frm_open ?_
  refine frame_sw ?_
  intros
  rename_i hq
  obtain ⟨-, -, e0q, e1q, e2q, e3q, e4q, e5q, e6q, e7q, e8q, e9q, e10q, -⟩ := hq
  obtain rfl := sI e0q
  obtain rfl := sI e1q
  obtain rfl := sI e2q
  obtain rfl := sI e3q
  obtain rfl := sI e4q
  obtain rfl := sI e5q
  obtain rfl := sI e6q
  obtain rfl := sI e7q
  obtain rfl := sI e8q
  obtain rfl := sI e9q
  obtain rfl := sI e10q
  conv => arg 2; whnf
  by_cases h : j < mf
  · have t1 : decide ((j : Int) < (mf : Int)) = true := by first | exact decide_eq_true (by omega) | exact beq_iff_eq.2 (by omega) | exact bne_iff_ne.2 (by omega)
    have t2 : (decide (j < mf)) = true := decide_eq_true h
    rw [t2] at hN
    clear h
    have HN := Lib.hid hN
    clear hN
    go_wp2_with fail
    exact HN.out _ (id ⟨rfl, rfl, rfl, rfl, rfl, rfl, rfl, rfl, rfl, rfl, rfl, rfl, rfl, rfl, trivial⟩)
  · have t1 : decide ((j : Int) < (mf : Int)) = false := by first | exact decide_eq_false (by omega) | exact beq_eq_false_iff_ne.2 (by omega) | exact bne_eq_false_iff_eq.2 (by omega)
    have t2 : (decide (j < mf)) = false := decide_eq_false h
    rw [t2] at hN
    clear h
    have HN := Lib.hid hN
    clear hN
    go_wp2_with fail
    exact HN.out _ (id ⟨rfl, rfl, rfl, rfl, rfl, rfl, rfl, rfl, rfl, rfl, rfl, rfl, rfl, rfl, trivial⟩)
noncomputable def c_sw_r7 : Code := sub [1, 1, 0, 1, 0, 0, 1, 1, 0, 0, 1, 0, 1, 0, 0, 1, 1, 0, 0, 0] (Tryd.f31.body.getD .skip)
set_option maxRecDepth 1000000 in
set_option maxHeartbeats 16000000 in
theorem sw_r7_wp {Q : Exit → Act → World → Prop} {j : Nat} {s : ByteArray} {A : Option Addr} {n1 c1 i : Nat} {wo w : World} {Df Dt : Option Addr} {mf ef mt et : Nat} (hN : ∀ a', Frm 95 [(1, .slice Df mf ef), (2, .slice Dt mt et), (3, .pointer (some ⟨wo.heap.size, 0, none⟩)), (6, .pointer (some ⟨wo.heap.size + 1, 0, none⟩)), (7, .pointer (some ⟨wo.heap.size + 2, 0, none⟩)), (19, .slice A n1 c1), (20, .int .i64 (n1 : Nat)), (21, .int .i64 (i : Nat)), (9, .string s), (26, .int .i64 (mf : Nat)), (27, .int .i64 (j : Nat)), (10, .int .i64 (j : Nat))] a' → Q .normal a' w) : ∀ ac, Frm 95 [(1, .slice Df mf ef), (2, .slice Dt mt et), (3, .pointer (some ⟨wo.heap.size, 0, none⟩)), (6, .pointer (some ⟨wo.heap.size + 1, 0, none⟩)), (7, .pointer (some ⟨wo.heap.size + 2, 0, none⟩)), (19, .slice A n1 c1), (20, .int .i64 (n1 : Nat)), (21, .int .i64 (i : Nat)), (9, .string s), (26, .int .i64 (mf : Nat)), (27, .int .i64 (j : Nat))] ac → Code.wp Tryd.prog c_sw_r7 Q ac w := by
  refine frm_open ?_
  refine frame_sw ?_
  intros
  rename_i hq
  obtain ⟨-, -, e0q, e1q, e2q, e3q, e4q, e5q, e6q, e7q, e8q, e9q, e10q, -⟩ := hq
  obtain rfl := sI e0q
  obtain rfl := sI e1q
  obtain rfl := sI e2q
  obtain rfl := sI e3q
  obtain rfl := sI e4q
  obtain rfl := sI e5q
  obtain rfl := sI e6q
  obtain rfl := sI e7q
  obtain rfl := sI e8q
  obtain rfl := sI e9q
  obtain rfl := sI e10q
  conv => arg 2; whnf
  have HN := Lib.hid hN
  clear hN
  go_wp2_with fail
  exact HN.out _ (id ⟨rfl, rfl, rfl, rfl, rfl, rfl, rfl, rfl, rfl, rfl, rfl, rfl, rfl, rfl, trivial⟩)
noncomputable def c_sw_r8 : Code := sub [1, 1, 0, 1, 0, 0, 1, 1, 0, 0, 1, 0, 1, 0, 0, 1, 1, 0, 0, 1, 0] (Tryd.f31.body.getD .skip)
set_option maxRecDepth 1000000 in
set_option maxHeartbeats 16000000 in
theorem sw_r8_wp {Q : Exit → Act → World → Prop} {b o : Nat} {y : ByteArray} {j : Nat} {s : ByteArray} {A : Option Addr} {n1 c1 i : Nat} {wo w : World} {Dt : Option Addr} {mf ef mt et : Nat} (hj : j < mf) (hc : w.cell? ⟨b, o + j, none⟩ = some (.string y)) (hbl : b < w.heap.size) (hN : ∀ a', Frm 95 [(1, .slice (some ⟨b, o, none⟩) mf ef), (2, .slice Dt mt et), (3, .pointer (some ⟨wo.heap.size, 0, none⟩)), (6, .pointer (some ⟨wo.heap.size + 1, 0, none⟩)), (7, .pointer (some ⟨wo.heap.size + 2, 0, none⟩)), (19, .slice A n1 c1), (20, .int .i64 (n1 : Nat)), (21, .int .i64 (i : Nat)), (9, .string s), (26, .int .i64 (mf : Nat)), (27, .int .i64 (j : Nat)), (10, .int .i64 (j : Nat)), (35, .bool (decide (y = s)))] a' → Q .normal a' w) : ∀ ac, Frm 95 [(1, .slice (some ⟨b, o, none⟩) mf ef), (2, .slice Dt mt et), (3, .pointer (some ⟨wo.heap.size, 0, none⟩)), (6, .pointer (some ⟨wo.heap.size + 1, 0, none⟩)), (7, .pointer (some ⟨wo.heap.size + 2, 0, none⟩)), (19, .slice A n1 c1), (20, .int .i64 (n1 : Nat)), (21, .int .i64 (i : Nat)), (9, .string s), (26, .int .i64 (mf : Nat)), (27, .int .i64 (j : Nat)), (10, .int .i64 (j : Nat))] ac → Code.wp Tryd.prog c_sw_r8 Q ac w := by
  refine frm_open ?_
  refine frame_sw ?_
  intros
  rename_i hq
  obtain ⟨-, -, e0q, e1q, e2q, e3q, e4q, e5q, e6q, e7q, e8q, e9q, e10q, e11q, -⟩ := hq
  obtain rfl := sI e0q
  obtain rfl := sI e1q
  obtain rfl := sI e2q
  obtain rfl := sI e3q
  obtain rfl := sI e4q
  obtain rfl := sI e5q
  obtain rfl := sI e6q
  obtain rfl := sI e7q
  obtain rfl := sI e8q
  obtain rfl := sI e9q
  obtain rfl := sI e10q
  obtain rfl := sI e11q
  conv => arg 2; whnf
  have q0 : (0 : Int) ≤ (j : Int) := by omega
  have q1 : (j : Int) < (mf : Int) := by omega
  by_cases h : y = s
  · subst h
    have t1 : (y.toList == y.toList) = true := beq_self_eq_true _
    rw [show decide (y = y) = true from decide_eq_true rfl] at hN
    have HN := Lib.hid hN
    clear hN
    go_wp2_with fail
    exact HN.out _ (id ⟨rfl, rfl, rfl, rfl, rfl, rfl, rfl, rfl, rfl, rfl, rfl, rfl, rfl, rfl, rfl, trivial⟩)
  · have t1 : (y.toList == s.toList) = false := beq_eq_false_iff_ne.2 (fun e => h (bytes_inj e))
    rw [show decide (y = s) = false from decide_eq_false h] at hN
    have HN := Lib.hid hN
    clear hN
    go_wp2_with fail
    exact HN.out _ (id ⟨rfl, rfl, rfl, rfl, rfl, rfl, rfl, rfl, rfl, rfl, rfl, rfl, rfl, rfl, rfl, trivial⟩)
noncomputable def c_sw_r9 : Code := sub [1, 1, 0, 1, 0, 0, 1, 1, 0, 0, 1, 0, 1, 0, 0, 1, 1, 0, 0, 1, 1, 0, 0] (Tryd.f31.body.getD .skip)
set_option maxRecDepth 1000000 in
set_option maxHeartbeats 16000000 in
theorem sw_r9_wp {Q : Exit → Act → World → Prop} {b o : Nat} {y : ByteArray} {j : Nat} {s : ByteArray} {A : Option Addr} {n1 c1 i : Nat} {wo w : World} {Df : Option Addr} {mf ef mt et : Nat} (hj : j < mt) (hc : w.cell? ⟨b, o + j, none⟩ = some (.string y)) (hbl : b < w.heap.size) (hN : ∀ a', Frm 95 [(1, .slice Df mf ef), (2, .slice (some ⟨b, o, none⟩) mt et), (3, .pointer (some ⟨wo.heap.size, 0, none⟩)), (6, .pointer (some ⟨wo.heap.size + 1, 0, none⟩)), (7, .pointer (some ⟨wo.heap.size + 2, 0, none⟩)), (19, .slice A n1 c1), (20, .int .i64 (n1 : Nat)), (21, .int .i64 (i : Nat)), (9, .string y)] a' → Q .normal a' w) : ∀ ac, Frm 95 [(1, .slice Df mf ef), (2, .slice (some ⟨b, o, none⟩) mt et), (3, .pointer (some ⟨wo.heap.size, 0, none⟩)), (6, .pointer (some ⟨wo.heap.size + 1, 0, none⟩)), (7, .pointer (some ⟨wo.heap.size + 2, 0, none⟩)), (19, .slice A n1 c1), (20, .int .i64 (n1 : Nat)), (21, .int .i64 (i : Nat)), (9, .string s), (26, .int .i64 (mf : Nat)), (27, .int .i64 (j : Nat)), (10, .int .i64 (j : Nat))] ac → Code.wp Tryd.prog c_sw_r9 Q ac w := by
  refine frm_open ?_
  refine frame_sw ?_
  intros
  rename_i hq
  obtain ⟨-, -, e0q, e1q, e2q, e3q, e4q, e5q, e6q, e7q, e8q, e9q, e10q, e11q, -⟩ := hq
  obtain rfl := sI e0q
  obtain rfl := sI e1q
  obtain rfl := sI e2q
  obtain rfl := sI e3q
  obtain rfl := sI e4q
  obtain rfl := sI e5q
  obtain rfl := sI e6q
  obtain rfl := sI e7q
  obtain rfl := sI e8q
  obtain rfl := sI e9q
  obtain rfl := sI e10q
  obtain rfl := sI e11q
  conv => arg 2; whnf
  have q0 : (0 : Int) ≤ (j : Int) := by omega
  have q1 : (j : Int) < (mt : Int) := by omega
  have HN := Lib.hid hN
  clear hN
  go_wp2_with fail
  exact HN.out _ (id ⟨rfl, rfl, rfl, rfl, rfl, rfl, rfl, rfl, rfl, rfl, rfl, trivial⟩)
noncomputable def c_sw_r10 : Code := sub [1, 1, 0, 1, 0, 0, 1, 1, 0, 0, 1, 0, 1, 0, 0, 1, 1, 1] (Tryd.f31.body.getD .skip)
set_option maxRecDepth 1000000 in
set_option maxHeartbeats 16000000 in
theorem sw_r10_wp {Q : Exit → Act → World → Prop} {j : Nat} {s : ByteArray} {A : Option Addr} {n1 c1 i : Nat} {wo w : World} {Df Dt : Option Addr} {mf ef mt et : Nat} (hj : j < mf) (hlim : mf ≤ maxLen) (hN : ∀ a', Frm 95 [(1, .slice Df mf ef), (2, .slice Dt mt et), (3, .pointer (some ⟨wo.heap.size, 0, none⟩)), (6, .pointer (some ⟨wo.heap.size + 1, 0, none⟩)), (7, .pointer (some ⟨wo.heap.size + 2, 0, none⟩)), (19, .slice A n1 c1), (20, .int .i64 (n1 : Nat)), (21, .int .i64 (i : Nat)), (9, .string s), (26, .int .i64 (mf : Nat)), (27, .int .i64 (j + 1 : Nat))] a' → Q .normal a' w) : ∀ ac, Frm 95 [(1, .slice Df mf ef), (2, .slice Dt mt et), (3, .pointer (some ⟨wo.heap.size, 0, none⟩)), (6, .pointer (some ⟨wo.heap.size + 1, 0, none⟩)), (7, .pointer (some ⟨wo.heap.size + 2, 0, none⟩)), (19, .slice A n1 c1), (20, .int .i64 (n1 : Nat)), (21, .int .i64 (i : Nat)), (9, .string s), (26, .int .i64 (mf : Nat)), (27, .int .i64 (j : Nat))] ac → Code.wp Tryd.prog c_sw_r10 Q ac w := by
  refine frm_open ?_
  refine frame_sw ?_
  intros
  rename_i hq
  obtain ⟨-, -, e0q, e1q, e2q, e3q, e4q, e5q, e6q, e7q, e8q, e9q, e10q, -⟩ := hq
  obtain rfl := sI e0q
  obtain rfl := sI e1q
  obtain rfl := sI e2q
  obtain rfl := sI e3q
  obtain rfl := sI e4q
  obtain rfl := sI e5q
  obtain rfl := sI e6q
  obtain rfl := sI e7q
  obtain rfl := sI e8q
  obtain rfl := sI e9q
  obtain rfl := sI e10q
  conv => arg 2; whnf
  have hi4 : (j : Int) ≤ 9223372036854775806 := by unfold maxLen at hlim; omega
  have HN := Lib.hid hN
  clear hN
  go_wp2_with fail
  exact HN.out _ (id ⟨rfl, rfl, rfl, rfl, rfl, rfl, rfl, rfl, rfl, rfl, rfl, rfl, rfl, trivial⟩)
noncomputable def c_sw_r12 : Code := sub [1, 1, 0, 1, 0, 0, 1, 1, 1] (Tryd.f31.body.getD .skip)
set_option maxRecDepth 1000000 in
set_option maxHeartbeats 16000000 in
theorem sw_r12_wp {Q : Exit → Act → World → Prop} {A : Option Addr} {n1 c1 i : Nat} {wo w : World} {Df Dt : Option Addr} {mf ef mt et : Nat} (hi : i < n1) (hlim : n1 ≤ maxLen) (hN : ∀ a', Frm 95 [(1, .slice Df mf ef), (2, .slice Dt mt et), (3, .pointer (some ⟨wo.heap.size, 0, none⟩)), (6, .pointer (some ⟨wo.heap.size + 1, 0, none⟩)), (7, .pointer (some ⟨wo.heap.size + 2, 0, none⟩)), (19, .slice A n1 c1), (20, .int .i64 (n1 : Nat)), (21, .int .i64 (i + 1 : Nat))] a' → Q .normal a' w) : ∀ ac, Frm 95 [(1, .slice Df mf ef), (2, .slice Dt mt et), (3, .pointer (some ⟨wo.heap.size, 0, none⟩)), (6, .pointer (some ⟨wo.heap.size + 1, 0, none⟩)), (7, .pointer (some ⟨wo.heap.size + 2, 0, none⟩)), (19, .slice A n1 c1), (20, .int .i64 (n1 : Nat)), (21, .int .i64 (i : Nat))] ac → Code.wp Tryd.prog c_sw_r12 Q ac w := by
  refine frm_open ?_
  refine frame_sw ?_
  intros
  rename_i hq
  obtain ⟨-, -, e0q, e1q, e2q, e3q, e4q, e5q, e6q, e7q, -⟩ := hq
  obtain rfl := sI e0q
  obtain rfl := sI e1q
  obtain rfl := sI e2q
  obtain rfl := sI e3q
  obtain rfl := sI e4q
  obtain rfl := sI e5q
  obtain rfl := sI e6q
  obtain rfl := sI e7q
  conv => arg 2; whnf
  have hi4 : (i : Int) ≤ 9223372036854775806 := by unfold maxLen at hlim; omega
  have HN := Lib.hid hN
  clear hN
  go_wp2_with fail
  exact HN.out _ (id ⟨rfl, rfl, rfl, rfl, rfl, rfl, rfl, rfl, rfl, rfl, trivial⟩)

end Go.Proofs.YtdofemkfmkopcaaDoor
