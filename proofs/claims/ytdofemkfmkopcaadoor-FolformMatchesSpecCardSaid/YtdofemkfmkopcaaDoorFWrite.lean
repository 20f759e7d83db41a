/-
  folform.write: its regions, by parts.
-/
import Derived.Test.YtdofemkfmkopcaaDoorJoin
import Derived.Test.YtdofemkfmkopcaaDoorFmCap
import Derived.Deep.RegionHeld3
namespace Go.Proofs.YtdofemkfmkopcaaDoor
open Go Go.RowKit
set_option linter.unusedSimpArgs false
set_option linter.unusedVariables false

set_option maxRecDepth 1000000 in
theorem frame_wr {P : Act → Prop} (h : ∀ x0 x1 x2 x3 x4 x5 x6 x7 x8 x9 x10 x11 x12 x13 x14 x15 x16 x17 x18 x19 x20 x21 x22 x23 x24 x25 x26 x27 x28 x29 x30 x31 x32 x33 x34 x35 x36 x37 x38 x39 x40 x41 x42 x43 x44 x45 x46 x47 x48 x49 x50 x51 x52 x53 x54 x55 x56 x57 x58 x59 x60 x61 x62 x63 x64 x65 x66 x67 x68 x69 x70 x71 x72 x73 x74 x75 x76 x77 x78 x79 x80 x81 x82 x83 x84 x85 x86 x87 x88 x89 x90 x91 : Value, P ⟨(x0 :: x1 :: x2 :: x3 :: x4 :: x5 :: x6 :: x7 :: x8 :: x9 :: x10 :: x11 :: x12 :: x13 :: x14 :: x15 :: x16 :: x17 :: x18 :: x19 :: x20 :: x21 :: x22 :: x23 :: x24 :: x25 :: x26 :: x27 :: x28 :: x29 :: x30 :: x31 :: x32 :: x33 :: x34 :: x35 :: x36 :: x37 :: x38 :: x39 :: x40 :: x41 :: x42 :: x43 :: x44 :: x45 :: x46 :: x47 :: x48 :: x49 :: x50 :: x51 :: x52 :: x53 :: x54 :: x55 :: x56 :: x57 :: x58 :: x59 :: x60 :: x61 :: x62 :: x63 :: x64 :: x65 :: x66 :: x67 :: x68 :: x69 :: x70 :: x71 :: x72 :: x73 :: x74 :: x75 :: x76 :: x77 :: x78 :: x79 :: x80 :: x81 :: x82 :: x83 :: x84 :: x85 :: x86 :: x87 :: x88 :: x89 :: x90 :: x91 :: []).toArray, []⟩) : ∀ a : Act, a.tmps.toList.length = 92 → a.defers = [] → P a := by
  rintro ⟨⟨l⟩, d⟩ hs hd
  simp only at hd
  subst hd
  revert l
  show ∀ l : List Value, l.length = 92 → P ⟨⟨l⟩, []⟩
  refine openS (n := 91) (fun x0 => ?_)
  refine openS (n := 90) (fun x1 => ?_)
  refine openS (n := 89) (fun x2 => ?_)
  refine openS (n := 88) (fun x3 => ?_)
  refine openS (n := 87) (fun x4 => ?_)
  refine openS (n := 86) (fun x5 => ?_)
  refine openS (n := 85) (fun x6 => ?_)
  refine openS (n := 84) (fun x7 => ?_)
  refine openS (n := 83) (fun x8 => ?_)
  refine openS (n := 82) (fun x9 => ?_)
  refine openS (n := 81) (fun x10 => ?_)
  refine openS (n := 80) (fun x11 => ?_)
  refine openS (n := 79) (fun x12 => ?_)
  refine openS (n := 78) (fun x13 => ?_)
  refine openS (n := 77) (fun x14 => ?_)
  refine openS (n := 76) (fun x15 => ?_)
  refine openS (n := 75) (fun x16 => ?_)
  refine openS (n := 74) (fun x17 => ?_)
  refine openS (n := 73) (fun x18 => ?_)
  refine openS (n := 72) (fun x19 => ?_)
  refine openS (n := 71) (fun x20 => ?_)
  refine openS (n := 70) (fun x21 => ?_)
  refine openS (n := 69) (fun x22 => ?_)
  refine openS (n := 68) (fun x23 => ?_)
  refine openS (n := 67) (fun x24 => ?_)
  refine openS (n := 66) (fun x25 => ?_)
  refine openS (n := 65) (fun x26 => ?_)
  refine openS (n := 64) (fun x27 => ?_)
  refine openS (n := 63) (fun x28 => ?_)
  refine openS (n := 62) (fun x29 => ?_)
  refine openS (n := 61) (fun x30 => ?_)
  refine openS (n := 60) (fun x31 => ?_)
  refine openS (n := 59) (fun x32 => ?_)
  refine openS (n := 58) (fun x33 => ?_)
  refine openS (n := 57) (fun x34 => ?_)
  refine openS (n := 56) (fun x35 => ?_)
  refine openS (n := 55) (fun x36 => ?_)
  refine openS (n := 54) (fun x37 => ?_)
  refine openS (n := 53) (fun x38 => ?_)
  refine openS (n := 52) (fun x39 => ?_)
  refine openS (n := 51) (fun x40 => ?_)
  refine openS (n := 50) (fun x41 => ?_)
  refine openS (n := 49) (fun x42 => ?_)
  refine openS (n := 48) (fun x43 => ?_)
  refine openS (n := 47) (fun x44 => ?_)
  refine openS (n := 46) (fun x45 => ?_)
  refine openS (n := 45) (fun x46 => ?_)
  refine openS (n := 44) (fun x47 => ?_)
  refine openS (n := 43) (fun x48 => ?_)
  refine openS (n := 42) (fun x49 => ?_)
  refine openS (n := 41) (fun x50 => ?_)
  refine openS (n := 40) (fun x51 => ?_)
  refine openS (n := 39) (fun x52 => ?_)
  refine openS (n := 38) (fun x53 => ?_)
  refine openS (n := 37) (fun x54 => ?_)
  refine openS (n := 36) (fun x55 => ?_)
  refine openS (n := 35) (fun x56 => ?_)
  refine openS (n := 34) (fun x57 => ?_)
  refine openS (n := 33) (fun x58 => ?_)
  refine openS (n := 32) (fun x59 => ?_)
  refine openS (n := 31) (fun x60 => ?_)
  refine openS (n := 30) (fun x61 => ?_)
  refine openS (n := 29) (fun x62 => ?_)
  refine openS (n := 28) (fun x63 => ?_)
  refine openS (n := 27) (fun x64 => ?_)
  refine openS (n := 26) (fun x65 => ?_)
  refine openS (n := 25) (fun x66 => ?_)
  refine openS (n := 24) (fun x67 => ?_)
  refine openS (n := 23) (fun x68 => ?_)
  refine openS (n := 22) (fun x69 => ?_)
  refine openS (n := 21) (fun x70 => ?_)
  refine openS (n := 20) (fun x71 => ?_)
  refine openS (n := 19) (fun x72 => ?_)
  refine openS (n := 18) (fun x73 => ?_)
  refine openS (n := 17) (fun x74 => ?_)
  refine openS (n := 16) (fun x75 => ?_)
  refine openS (n := 15) (fun x76 => ?_)
  refine openS (n := 14) (fun x77 => ?_)
  refine openS (n := 13) (fun x78 => ?_)
  refine openS (n := 12) (fun x79 => ?_)
  refine openS (n := 11) (fun x80 => ?_)
  refine openS (n := 10) (fun x81 => ?_)
  refine openS (n := 9) (fun x82 => ?_)
  refine openS (n := 8) (fun x83 => ?_)
  refine openS (n := 7) (fun x84 => ?_)
  refine openS (n := 6) (fun x85 => ?_)
  refine openS (n := 5) (fun x86 => ?_)
  refine openS (n := 4) (fun x87 => ?_)
  refine openS (n := 3) (fun x88 => ?_)
  refine openS (n := 2) (fun x89 => ?_)
  refine openS (n := 1) (fun x90 => ?_)
  refine openS (n := 0) (fun x91 => ?_)
  refine open0 ?_
  exact h x0 x1 x2 x3 x4 x5 x6 x7 x8 x9 x10 x11 x12 x13 x14 x15 x16 x17 x18 x19 x20 x21 x22 x23 x24 x25 x26 x27 x28 x29 x30 x31 x32 x33 x34 x35 x36 x37 x38 x39 x40 x41 x42 x43 x44 x45 x46 x47 x48 x49 x50 x51 x52 x53 x54 x55 x56 x57 x58 x59 x60 x61 x62 x63 x64 x65 x66 x67 x68 x69 x70 x71 x72 x73 x74 x75 x76 x77 x78 x79 x80 x81 x82 x83 x84 x85 x86 x87 x88 x89 x90 x91
theorem KeepB.ofB {base b : Nat} {u v : World} (h : Below u.heap.size u v) : KeepB base b u v := ⟨h.os, h.tape, h.output, h.size, fun k h1 _ _ => h.block k h1⟩
theorem Bld.ltB {base b : Nat} {l : List UInt8} {w : World} (h : Bld base b l w) : b < w.heap.size := by
  obtain ⟨hB, p, v, _, hh, _⟩ := h
  exact lt_heap hh
/-- In write: its own block, the builder, what it keeps. -/
structure WS (wo w : World) (base b : Nat) (kd : Int) (nm : ByteArray) (A : Option Addr) (n1 c1 : Nat) (B : Option Addr) (n2 c2 : Nat) (l : List UInt8) : Prop where
  a : w.heap[wo.heap.size]? = some (.cells #[.int .i64 kd, .string nm, .slice A n1 c1, .slice B n2 c2] 25 (0, 0))
  hb : Bld base b l w
  k : KeepB base b wo w
  bl : b < wo.heap.size
theorem WS.step {base b : Nat} {l l' : List UInt8} {wo w w' : World} {kd : Int} {nm : ByteArray} {A B : Option Addr} {n1 c1 n2 c2 : Nat} (h : WS wo w base b kd nm A n1 c1 B n2 c2 l) (hb : Bld base b l' w') (hk : KeepB base b w w') : WS wo w' base b kd nm A n1 c1 B n2 c2 l' :=
  ⟨hk.typed h.a (by decide) (by have := h.bl; omega), hb, h.k.trans hk, h.bl⟩
theorem WS.below {base b : Nat} {l : List UInt8} {wo w w' : World} {kd : Int} {nm : ByteArray} {A B : Option Addr} {n1 c1 n2 c2 : Nat} (h : WS wo w base b kd nm A n1 c1 B n2 c2 l) (hb : Below w.heap.size w w') : WS wo w' base b kd nm A n1 c1 B n2 c2 l := h.step (h.hb.below hb) (KeepB.ofB hb)
theorem WS.drew {base b : Nat} {l : List UInt8} {wo w : World} {kd : Int} {nm : ByteArray} {A B : Option Addr} {n1 c1 n2 c2 : Nat} (h : WS wo w base b kd nm A n1 c1 B n2 c2 l) : WS wo w.drew base b kd nm A n1 c1 B n2 c2 l := h.below ⟨rfl, rfl, rfl, Nat.le_refl _, fun _ _ => rfl⟩
theorem WS.old {base b : Nat} {l : List UInt8} {wo w : World} {kd : Int} {nm : ByteArray} {A B : Option Addr} {n1 c1 n2 c2 : Nat} (h : WS wo w base b kd nm A n1 c1 B n2 c2 l) {S : Nat → Prop} (hS : ∀ k, S k → k < base) : ∀ k, S k → w.heap[k]? = wo.heap[k]? := fun k hk => h.k.block k (by have := hS k hk; have := h.bl; have := h.hb.1; omega) (by have := hS k hk; have := h.hb.1; omega) (Or.inl (hS k hk))
theorem wr_end {R : Ending → World → Prop} {w' : World} {a : Act} (hd : a.defers = []) (hR : R (.returned (.tuple #[])) w') : bodyPost Tryd.prog Tryd.f56 R .normal a w' := bodyPost_end (results_none Tryd.results56 _ _ _) hd hR
noncomputable def c_wr_r0 : Code := sub [0] (Tryd.f56.body.getD .skip)
set_option maxRecDepth 1000000 in
set_option maxHeartbeats 16000000 in
theorem wr_r0_wp {Q : Exit → Act → World → Prop} {base b : Nat} {l : List UInt8} {wo : World} {kd : Int} {nm : ByteArray} {A B : Option Addr} {n1 c1 n2 c2 : Nat} (hb : Bld base b l wo) (hN : ∀ a' w', Frm 92 [(0, .pointer (some ⟨b, 0, none⟩)), (3, .pointer (some ⟨wo.heap.size, 0, none⟩))] a' → WS wo w' base b kd nm A n1 c1 B n2 c2 l → Q .normal a' w') : ∀ ac, Frm 92 [(0, .pointer (some ⟨b, 0, none⟩)), (1, .agg #[.int .i64 kd, .string nm, .slice A n1 c1, .slice B n2 c2])] ac → Code.wp Tryd.prog c_wr_r0 Q ac wo := by
  refine frm_open ?_
  refine frame_wr ?_
  intros
  rename_i hq
  obtain ⟨-, -, e0q, e1q, -⟩ := hq
  have e0q := (Option.some.inj e0q).symm; subst e0q
  have e1q := (Option.some.inj e1q).symm; subst e1q
  conv => arg 2; whnf
  have hbl := hb.ltB
  have HB := Lib.hid hb
  clear hb
  have HN := Lib.hid hN
  clear hN
  go_wp2_with fail
  exact HN.out _ _ (id ⟨rfl, rfl, rfl, rfl, trivial⟩) ⟨heap_at rfl, HB.out.alloc _, (KeepB.refl _ _ _).alloc _, hbl⟩
noncomputable def c_wr_r1 : Code := sub [1, 0] (Tryd.f56.body.getD .skip)
set_option maxRecDepth 1000000 in
set_option maxHeartbeats 16000000 in
theorem wr_r1_wp {Q : Exit → Act → World → Prop} {base b : Nat} {l : List UInt8} {wo w : World} {kd : Int} {nm : ByteArray} {A B : Option Addr} {n1 c1 n2 c2 : Nat} (hs : WS wo w base b kd nm A n1 c1 B n2 c2 l) (hN : ∀ a', Frm 92 [(0, .pointer (some ⟨b, 0, none⟩)), (3, .pointer (some ⟨wo.heap.size, 0, none⟩)), (6, .int .i64 kd)] a' → Q .normal a' w) : ∀ ac, Frm 92 [(0, .pointer (some ⟨b, 0, none⟩)), (3, .pointer (some ⟨wo.heap.size, 0, none⟩))] ac → Code.wp Tryd.prog c_wr_r1 Q ac w := by
  refine frm_open ?_
  refine frame_wr ?_
  intros
  rename_i hq
  obtain ⟨-, -, e0q, e1q, -⟩ := hq
  have e0q := (Option.some.inj e0q).symm; subst e0q
  have e1q := (Option.some.inj e1q).symm; subst e1q
  conv => arg 2; whnf
  have a0 := cellv hs.a 0 rfl
  have a1 := cellv hs.a 1 rfl
  have a2 := cellv hs.a 2 rfl
  have a3 := cellv hs.a 3 rfl
  have al := lt_heap hs.a
  have HS := Lib.hid hs
  clear hs
  have HN := Lib.hid hN
  clear hN
  go_wp2_with fail
  exact HN.out _ (id ⟨rfl, rfl, rfl, rfl, rfl, trivial⟩)
noncomputable def c_wr_r7 : Code := sub [1, 1, 0, 0] (Tryd.f56.body.getD .skip)
set_option maxRecDepth 1000000 in
set_option maxHeartbeats 16000000 in
theorem wr_r7_wp {Q : Exit → Act → World → Prop} {b : Nat} {wo w : World} {kd : Int} (hN : ∀ a', Frm 92 [(0, .pointer (some ⟨b, 0, none⟩)), (3, .pointer (some ⟨wo.heap.size, 0, none⟩)), (6, .int .i64 kd), (31, .bool (decide (kd = 1)))] a' → Q .normal a' w) : ∀ ac, Frm 92 [(0, .pointer (some ⟨b, 0, none⟩)), (3, .pointer (some ⟨wo.heap.size, 0, none⟩)), (6, .int .i64 kd)] ac → Code.wp Tryd.prog c_wr_r7 Q ac w := by
  refine frm_open ?_
  refine frame_wr ?_
  intros
  rename_i hq
  obtain ⟨-, -, e0q, e1q, e2q, -⟩ := hq
  have e0q := (Option.some.inj e0q).symm; subst e0q
  have e1q := (Option.some.inj e1q).symm; subst e1q
  have e2q := (Option.some.inj e2q).symm; subst e2q
  conv => arg 2; whnf
  by_cases h : kd = 1
  · subst h
    rw [show decide ((1 : Int) = 1) = true from rfl] at hN
    have HN := Lib.hid hN
    clear hN
    go_wp2_with fail
    exact HN.out _ (id ⟨rfl, rfl, rfl, rfl, rfl, rfl, trivial⟩)
  · have t1 : (kd == 1) = false := beq_eq_false_iff_ne.2 h
    rw [show decide (kd = 1) = false from decide_eq_false h] at hN
    clear h
    have HN := Lib.hid hN
    clear hN
    go_wp2_with fail
    exact HN.out _ (id ⟨rfl, rfl, rfl, rfl, rfl, rfl, trivial⟩)
noncomputable def c_wr_r9 : Code := sub [1, 1, 0, 1, 1, 0] (Tryd.f56.body.getD .skip)
set_option maxRecDepth 1000000 in
set_option maxHeartbeats 16000000 in
theorem wr_r9_wp {Q : Exit → Act → World → Prop} {b : Nat} {wo w : World} {kd : Int} (hN : ∀ a', Frm 92 [(0, .pointer (some ⟨b, 0, none⟩)), (3, .pointer (some ⟨wo.heap.size, 0, none⟩)), (6, .int .i64 kd), (35, .bool (decide (kd = 2)))] a' → Q .normal a' w) : ∀ ac, Frm 92 [(0, .pointer (some ⟨b, 0, none⟩)), (3, .pointer (some ⟨wo.heap.size, 0, none⟩)), (6, .int .i64 kd)] ac → Code.wp Tryd.prog c_wr_r9 Q ac w := by
  refine frm_open ?_
  refine frame_wr ?_
  intros
  rename_i hq
  obtain ⟨-, -, e0q, e1q, e2q, -⟩ := hq
  have e0q := (Option.some.inj e0q).symm; subst e0q
  have e1q := (Option.some.inj e1q).symm; subst e1q
  have e2q := (Option.some.inj e2q).symm; subst e2q
  conv => arg 2; whnf
  by_cases h : kd = 2
  · subst h
    rw [show decide ((2 : Int) = 2) = true from rfl] at hN
    have HN := Lib.hid hN
    clear hN
    go_wp2_with fail
    exact HN.out _ (id ⟨rfl, rfl, rfl, rfl, rfl, rfl, trivial⟩)
  · have t1 : (kd == 2) = false := beq_eq_false_iff_ne.2 h
    rw [show decide (kd = 2) = false from decide_eq_false h] at hN
    clear h
    have HN := Lib.hid hN
    clear hN
    go_wp2_with fail
    exact HN.out _ (id ⟨rfl, rfl, rfl, rfl, rfl, rfl, trivial⟩)
noncomputable def c_wr_r11 : Code := sub [1, 1, 0, 1, 1, 1, 1, 0] (Tryd.f56.body.getD .skip)
set_option maxRecDepth 1000000 in
set_option maxHeartbeats 16000000 in
theorem wr_r11_wp {Q : Exit → Act → World → Prop} {b : Nat} {wo w : World} {kd : Int} (hN : ∀ a', Frm 92 [(0, .pointer (some ⟨b, 0, none⟩)), (3, .pointer (some ⟨wo.heap.size, 0, none⟩)), (6, .int .i64 kd), (47, .bool (decide (kd = 3)))] a' → Q .normal a' w) : ∀ ac, Frm 92 [(0, .pointer (some ⟨b, 0, none⟩)), (3, .pointer (some ⟨wo.heap.size, 0, none⟩)), (6, .int .i64 kd)] ac → Code.wp Tryd.prog c_wr_r11 Q ac w := by
  refine frm_open ?_
  refine frame_wr ?_
  intros
  rename_i hq
  obtain ⟨-, -, e0q, e1q, e2q, -⟩ := hq
  have e0q := (Option.some.inj e0q).symm; subst e0q
  have e1q := (Option.some.inj e1q).symm; subst e1q
  have e2q := (Option.some.inj e2q).symm; subst e2q
  conv => arg 2; whnf
  by_cases h : kd = 3
  · subst h
    rw [show decide ((3 : Int) = 3) = true from rfl] at hN
    have HN := Lib.hid hN
    clear hN
    go_wp2_with fail
    exact HN.out _ (id ⟨rfl, rfl, rfl, rfl, rfl, rfl, trivial⟩)
  · have t1 : (kd == 3) = false := beq_eq_false_iff_ne.2 h
    rw [show decide (kd = 3) = false from decide_eq_false h] at hN
    clear h
    have HN := Lib.hid hN
    clear hN
    go_wp2_with fail
    exact HN.out _ (id ⟨rfl, rfl, rfl, rfl, rfl, rfl, trivial⟩)
noncomputable def c_wr_r13 : Code := sub [1, 1, 0, 1, 1, 1, 1, 1, 1, 0] (Tryd.f56.body.getD .skip)
set_option maxRecDepth 1000000 in
set_option maxHeartbeats 16000000 in
theorem wr_r13_wp {Q : Exit → Act → World → Prop} {b : Nat} {wo w : World} {kd : Int} (hN : ∀ a', Frm 92 [(0, .pointer (some ⟨b, 0, none⟩)), (3, .pointer (some ⟨wo.heap.size, 0, none⟩)), (6, .int .i64 kd), (63, .bool (decide (kd = 4)))] a' → Q .normal a' w) : ∀ ac, Frm 92 [(0, .pointer (some ⟨b, 0, none⟩)), (3, .pointer (some ⟨wo.heap.size, 0, none⟩)), (6, .int .i64 kd)] ac → Code.wp Tryd.prog c_wr_r13 Q ac w := by
  refine frm_open ?_
  refine frame_wr ?_
  intros
  rename_i hq
  obtain ⟨-, -, e0q, e1q, e2q, -⟩ := hq
  have e0q := (Option.some.inj e0q).symm; subst e0q
  have e1q := (Option.some.inj e1q).symm; subst e1q
  have e2q := (Option.some.inj e2q).symm; subst e2q
  conv => arg 2; whnf
  by_cases h : kd = 4
  · subst h
    rw [show decide ((4 : Int) = 4) = true from rfl] at hN
    have HN := Lib.hid hN
    clear hN
    go_wp2_with fail
    exact HN.out _ (id ⟨rfl, rfl, rfl, rfl, rfl, rfl, trivial⟩)
  · have t1 : (kd == 4) = false := beq_eq_false_iff_ne.2 h
    rw [show decide (kd = 4) = false from decide_eq_false h] at hN
    clear h
    have HN := Lib.hid hN
    clear hN
    go_wp2_with fail
    exact HN.out _ (id ⟨rfl, rfl, rfl, rfl, rfl, rfl, trivial⟩)
noncomputable def c_wr_r16 : Code := sub [1, 1, 0, 1, 1, 1, 1, 1, 1, 1, 1, 0, 0] (Tryd.f56.body.getD .skip)
set_option maxRecDepth 1000000 in
set_option maxHeartbeats 16000000 in
theorem wr_r16_wp {Q : Exit → Act → World → Prop} {b : Nat} {wo w : World} {kd : Int} (hN : ∀ a', Frm 92 [(0, .pointer (some ⟨b, 0, none⟩)), (3, .pointer (some ⟨wo.heap.size, 0, none⟩)), (6, .int .i64 kd), (73, .bool (decide (kd = 8)))] a' → Q .normal a' w) : ∀ ac, Frm 92 [(0, .pointer (some ⟨b, 0, none⟩)), (3, .pointer (some ⟨wo.heap.size, 0, none⟩)), (6, .int .i64 kd)] ac → Code.wp Tryd.prog c_wr_r16 Q ac w := by
  refine frm_open ?_
  refine frame_wr ?_
  intros
  rename_i hq
  obtain ⟨-, -, e0q, e1q, e2q, -⟩ := hq
  have e0q := (Option.some.inj e0q).symm; subst e0q
  have e1q := (Option.some.inj e1q).symm; subst e1q
  have e2q := (Option.some.inj e2q).symm; subst e2q
  conv => arg 2; whnf
  by_cases h : kd = 8
  · subst h
    rw [show decide ((8 : Int) = 8) = true from rfl] at hN
    have HN := Lib.hid hN
    clear hN
    go_wp2_with fail
    exact HN.out _ (id ⟨rfl, rfl, rfl, rfl, rfl, rfl, trivial⟩)
  · have t1 : (kd == 8) = false := beq_eq_false_iff_ne.2 h
    rw [show decide (kd = 8) = false from decide_eq_false h] at hN
    clear h
    have HN := Lib.hid hN
    clear hN
    go_wp2_with fail
    exact HN.out _ (id ⟨rfl, rfl, rfl, rfl, rfl, rfl, trivial⟩)
noncomputable def c_wr_r17 : Code := sub [1, 1, 0, 1, 1, 1, 1, 1, 1, 1, 1, 0, 1, 1] (Tryd.f56.body.getD .skip)
set_option maxRecDepth 1000000 in
set_option maxHeartbeats 16000000 in
theorem wr_r17_wp {Q : Exit → Act → World → Prop} {b : Nat} {wo w : World} {kd : Int} (hN : ∀ a', Frm 92 [(0, .pointer (some ⟨b, 0, none⟩)), (3, .pointer (some ⟨wo.heap.size, 0, none⟩)), (6, .int .i64 kd), (73, .bool (decide (kd = 9)))] a' → Q .normal a' w) : ∀ ac, Frm 92 [(0, .pointer (some ⟨b, 0, none⟩)), (3, .pointer (some ⟨wo.heap.size, 0, none⟩)), (6, .int .i64 kd)] ac → Code.wp Tryd.prog c_wr_r17 Q ac w := by
  refine frm_open ?_
  refine frame_wr ?_
  intros
  rename_i hq
  obtain ⟨-, -, e0q, e1q, e2q, -⟩ := hq
  have e0q := (Option.some.inj e0q).symm; subst e0q
  have e1q := (Option.some.inj e1q).symm; subst e1q
  have e2q := (Option.some.inj e2q).symm; subst e2q
  conv => arg 2; whnf
  by_cases h : kd = 9
  · subst h
    rw [show decide ((9 : Int) = 9) = true from rfl] at hN
    have HN := Lib.hid hN
    clear hN
    go_wp2_with fail
    exact HN.out _ (id ⟨rfl, rfl, rfl, rfl, rfl, rfl, trivial⟩)
  · have t1 : (kd == 9) = false := beq_eq_false_iff_ne.2 h
    rw [show decide (kd = 9) = false from decide_eq_false h] at hN
    clear h
    have HN := Lib.hid hN
    clear hN
    go_wp2_with fail
    exact HN.out _ (id ⟨rfl, rfl, rfl, rfl, rfl, rfl, trivial⟩)
noncomputable def c_wr_r8 : Code := sub [1, 1, 0, 1, 0] (Tryd.f56.body.getD .skip)
set_option maxRecDepth 1000000 in
set_option maxHeartbeats 16000000 in
theorem wr_r8_wp {Q : Exit → Act → World → Prop} {base b : Nat} {l : List UInt8} {wo w : World} {kd : Int} {nm : ByteArray} {A B : Option Addr} {n1 c1 n2 c2 : Nat} (hl : l.length ≤ 100000000) (hs : WS wo w base b kd nm A n1 c1 B n2 c2 l) (hN : ∀ a' w', Frm 92 [(0, .pointer (some ⟨b, 0, none⟩)), (3, .pointer (some ⟨wo.heap.size, 0, none⟩))] a' → WS wo w' base b kd nm A n1 c1 B n2 c2 (l ++ (⟨#[116, 114, 117, 101]⟩ : ByteArray).data.toList) → Q .normal a' w') : ∀ ac, Frm 92 [(0, .pointer (some ⟨b, 0, none⟩)), (3, .pointer (some ⟨wo.heap.size, 0, none⟩))] ac → Code.wp Tryd.prog c_wr_r8 Q ac w := by
  refine frm_open ?_
  refine frame_wr ?_
  intros
  rename_i hq
  obtain ⟨-, -, e0q, e1q, -⟩ := hq
  have e0q := (Option.some.inj e0q).symm; subst e0q
  have e1q := (Option.some.inj e1q).symm; subst e1q
  conv => arg 2; whnf
  have hwr := writeString_any base b l (⟨#[116, 114, 117, 101]⟩ : ByteArray) w hs.hb (by have : ((⟨#[116, 114, 117, 101]⟩ : ByteArray) : ByteArray).size = 4 := rfl; omega)
  have a0 := cellv hs.a 0 rfl
  have a1 := cellv hs.a 1 rfl
  have a2 := cellv hs.a 2 rfl
  have a3 := cellv hs.a 3 rfl
  have al := lt_heap hs.a
  have HS := Lib.hid hs
  clear hs
  have HN := Lib.hid hN
  have HWR := Lib.hid hwr
  clear hN hwr
  go_wp2_with fail
  (with_reducible refine HWR.out.mono ?_)
  rintro e w1 ⟨rfl, h1, hk1⟩
  have HK1 := Lib.hid hk1
  have H1 := Lib.hid h1
  clear hk1 h1
  go_wp2_with fail
  exact HN.out _ _ (id ⟨rfl, rfl, rfl, rfl, trivial⟩) (HS.out.step H1.out HK1.out)
noncomputable def c_wr_r14 : Code := sub [1, 1, 0, 1, 1, 1, 1, 1, 1, 1, 0, 0] (Tryd.f56.body.getD .skip)
set_option maxRecDepth 1000000 in
set_option maxHeartbeats 16000000 in
theorem wr_r14_wp {Q : Exit → Act → World → Prop} {base b : Nat} {l : List UInt8} {wo w : World} {kd : Int} {nm : ByteArray} {A B : Option Addr} {n1 c1 n2 c2 : Nat} (hl : l.length ≤ 100000000) (hs : WS wo w base b kd nm A n1 c1 B n2 c2 l) (hN : ∀ a' w', Frm 92 [(0, .pointer (some ⟨b, 0, none⟩)), (3, .pointer (some ⟨wo.heap.size, 0, none⟩))] a' → WS wo w' base b kd nm A n1 c1 B n2 c2 (l ++ [45]) → Q .normal a' w') : ∀ ac, Frm 92 [(0, .pointer (some ⟨b, 0, none⟩)), (3, .pointer (some ⟨wo.heap.size, 0, none⟩))] ac → Code.wp Tryd.prog c_wr_r14 Q ac w := by
  refine frm_open ?_
  refine frame_wr ?_
  intros
  rename_i hq
  obtain ⟨-, -, e0q, e1q, -⟩ := hq
  have e0q := (Option.some.inj e0q).symm; subst e0q
  have e1q := (Option.some.inj e1q).symm; subst e1q
  conv => arg 2; whnf
  have hwr : Calls Tryd.prog 84 #[.pointer (some ⟨b, 0, none⟩), .int .u8 45] w fun e w' => e = .returned .nilIface ∧ Bld base b (l ++ [45]) w' ∧ KeepB base b w w' := writeByte_any base b l 45 w hs.hb (by omega)
  have HS := Lib.hid hs
  clear hs
  have HN := Lib.hid hN
  have HWR := Lib.hid hwr
  clear hN hwr
  go_wp2_with fail
  (with_reducible refine HWR.out.mono ?_)
  rintro e w1 ⟨rfl, h1, hk1⟩
  have HK1 := Lib.hid hk1
  have H1 := Lib.hid h1
  clear hk1 h1
  go_wp2_with fail
  exact HN.out _ _ (id ⟨rfl, rfl, rfl, rfl, trivial⟩) (HS.out.step H1.out HK1.out)
noncomputable def c_wr_r2 : Code := sub [1, 1, 0, 1, 1, 1, 1, 1, 1, 1, 1, 1, 1, 0] (Tryd.f56.body.getD .skip)
set_option maxRecDepth 1000000 in
set_option maxHeartbeats 16000000 in
theorem wr_r2_wp {Q : Exit → Act → World → Prop} {base b : Nat} {l : List UInt8} {wo w : World} {kd : Int} {nm : ByteArray} {A B : Option Addr} {n1 c1 n2 c2 : Nat} (hl : l.length ≤ 100000000) (hs : WS wo w base b kd nm A n1 c1 B n2 c2 l) (hN : ∀ a' w', Frm 92 [(0, .pointer (some ⟨b, 0, none⟩)), (3, .pointer (some ⟨wo.heap.size, 0, none⟩))] a' → WS wo w' base b kd nm A n1 c1 B n2 c2 (l ++ [40]) → Q .normal a' w') : ∀ ac, Frm 92 [(0, .pointer (some ⟨b, 0, none⟩)), (3, .pointer (some ⟨wo.heap.size, 0, none⟩))] ac → Code.wp Tryd.prog c_wr_r2 Q ac w := by
  refine frm_open ?_
  refine frame_wr ?_
  intros
  rename_i hq
  obtain ⟨-, -, e0q, e1q, -⟩ := hq
  have e0q := (Option.some.inj e0q).symm; subst e0q
  have e1q := (Option.some.inj e1q).symm; subst e1q
  conv => arg 2; whnf
  have hwr : Calls Tryd.prog 84 #[.pointer (some ⟨b, 0, none⟩), .int .u8 40] w fun e w' => e = .returned .nilIface ∧ Bld base b (l ++ [40]) w' ∧ KeepB base b w w' := writeByte_any base b l 40 w hs.hb (by omega)
  have HS := Lib.hid hs
  clear hs
  have HN := Lib.hid hN
  have HWR := Lib.hid hwr
  clear hN hwr
  go_wp2_with fail
  (with_reducible refine HWR.out.mono ?_)
  rintro e w1 ⟨rfl, h1, hk1⟩
  have HK1 := Lib.hid hk1
  have H1 := Lib.hid h1
  clear hk1 h1
  go_wp2_with fail
  exact HN.out _ _ (id ⟨rfl, rfl, rfl, rfl, trivial⟩) (HS.out.step H1.out HK1.out)
noncomputable def c_wr_r6 : Code := sub [1, 1, 0, 1, 1, 1, 1, 1, 1, 1, 1, 1, 1, 1, 1, 1, 1] (Tryd.f56.body.getD .skip)
set_option maxRecDepth 1000000 in
set_option maxHeartbeats 16000000 in
theorem wr_r6_wp {Q : Exit → Act → World → Prop} {base b : Nat} {l : List UInt8} {wo w : World} {kd : Int} {nm : ByteArray} {A B : Option Addr} {n1 c1 n2 c2 : Nat} (hl : l.length ≤ 100000000) (hs : WS wo w base b kd nm A n1 c1 B n2 c2 l) (hN : ∀ a' w', Frm 92 [(0, .pointer (some ⟨b, 0, none⟩)), (3, .pointer (some ⟨wo.heap.size, 0, none⟩))] a' → WS wo w' base b kd nm A n1 c1 B n2 c2 (l ++ [41]) → Q .normal a' w') : ∀ ac, Frm 92 [(0, .pointer (some ⟨b, 0, none⟩)), (3, .pointer (some ⟨wo.heap.size, 0, none⟩))] ac → Code.wp Tryd.prog c_wr_r6 Q ac w := by
  refine frm_open ?_
  refine frame_wr ?_
  intros
  rename_i hq
  obtain ⟨-, -, e0q, e1q, -⟩ := hq
  have e0q := (Option.some.inj e0q).symm; subst e0q
  have e1q := (Option.some.inj e1q).symm; subst e1q
  conv => arg 2; whnf
  have hwr : Calls Tryd.prog 84 #[.pointer (some ⟨b, 0, none⟩), .int .u8 41] w fun e w' => e = .returned .nilIface ∧ Bld base b (l ++ [41]) w' ∧ KeepB base b w w' := writeByte_any base b l 41 w hs.hb (by omega)
  have HS := Lib.hid hs
  clear hs
  have HN := Lib.hid hN
  have HWR := Lib.hid hwr
  clear hN hwr
  go_wp2_with fail
  (with_reducible refine HWR.out.mono ?_)
  rintro e w1 ⟨rfl, h1, hk1⟩
  have HK1 := Lib.hid hk1
  have H1 := Lib.hid h1
  clear hk1 h1
  go_wp2_with fail
  exact HN.out _ _ (id ⟨rfl, rfl, rfl, rfl, trivial⟩) (HS.out.step H1.out HK1.out)
noncomputable def c_wr_r15 : Code := sub [1, 1, 0, 1, 1, 1, 1, 1, 1, 1, 0, 1] (Tryd.f56.body.getD .skip)
set_option maxRecDepth 1000000 in
set_option maxHeartbeats 16000000 in
theorem wr_r15_wp {Q : Exit → Act → World → Prop} {b2 o : Nat} {tx : List UInt8} {ke : Int} {ne : ByteArray} {Ae Be : Option Addr} {n3 c3 n4 c4 : Nat} {base b : Nat} {l : List UInt8} {wo w : World} {kd : Int} {nm : ByteArray} {A : Option Addr} {n1 c1 n2 c2 : Nat} (hs : WS wo w base b kd nm A n1 c1 (some ⟨b2, o, none⟩) n2 c2 l) (hn2 : 1 ≤ n2) (hbl : b2 < w.heap.size) (h0 : w.cell? ⟨b2, o, none⟩ = some (.int .i64 ke)) (h1 : w.cell? ⟨b2, o + 1, none⟩ = some (.string ne)) (h2 : w.cell? ⟨b2, o + 2, none⟩ = some (.slice Ae n3 c3)) (h3 : w.cell? ⟨b2, o + 3, none⟩ = some (.slice Be n4 c4)) (hcall : Calls Tryd.prog 56 #[.pointer (some ⟨b, 0, none⟩), .agg #[.int .i64 ke, .string ne, .slice Ae n3 c3, .slice Be n4 c4]] w fun e w' => e = .returned (.tuple #[]) ∧ Bld base b (l ++ tx) w' ∧ KeepB base b w w') (hN : ∀ a' w', Frm 92 [(0, .pointer (some ⟨b, 0, none⟩)), (3, .pointer (some ⟨wo.heap.size, 0, none⟩))] a' → WS wo w' base b kd nm A n1 c1 (some ⟨b2, o, none⟩) n2 c2 (l ++ tx) → Q .normal a' w') : ∀ ac, Frm 92 [(0, .pointer (some ⟨b, 0, none⟩)), (3, .pointer (some ⟨wo.heap.size, 0, none⟩))] ac → Code.wp Tryd.prog c_wr_r15 Q ac w := by
  refine frm_open ?_
  refine frame_wr ?_
  intros
  rename_i hq
  obtain ⟨-, -, e0q, e1q, -⟩ := hq
  have e0q := (Option.some.inj e0q).symm; subst e0q
  have e1q := (Option.some.inj e1q).symm; subst e1q
  conv => arg 2; whnf
  have q1 : (0 : Int) < (n2 : Int) := by omega
  have q2 : (0 : Int) ≤ (0 : Int) := by omega
  have a0 := cellv hs.a 0 rfl
  have a1 := cellv hs.a 1 rfl
  have a2 := cellv hs.a 2 rfl
  have a3 := cellv hs.a 3 rfl
  have al := lt_heap hs.a
  have HS := Lib.hid hs
  clear hs
  have HN := Lib.hid hN
  have HCALL := Lib.hid hcall
  clear hN hcall
  go_wp2_with fail
  (with_reducible refine HCALL.out.mono ?_)
  rintro e w1 ⟨rfl, h1, hk1⟩
  have HK1 := Lib.hid hk1
  have H1 := Lib.hid h1
  clear hk1 h1
  go_wp2_with fail
  exact HN.out _ _ (id ⟨rfl, rfl, rfl, rfl, trivial⟩) (HS.out.step H1.out HK1.out)
noncomputable def c_wr_r22 : Code := sub [1, 1, 0, 1, 1, 1, 1, 1, 1, 1, 1, 1, 0, 1, 1, 1] (Tryd.f56.body.getD .skip)
set_option maxRecDepth 1000000 in
set_option maxHeartbeats 16000000 in
theorem wr_r22_wp {Q : Exit → Act → World → Prop} {b2 o : Nat} {tx : List UInt8} {ke : Int} {ne : ByteArray} {Ae Be : Option Addr} {n3 c3 n4 c4 : Nat} {base b : Nat} {l : List UInt8} {wo w : World} {kd : Int} {nm : ByteArray} {A : Option Addr} {n1 c1 n2 c2 : Nat} (hs : WS wo w base b kd nm A n1 c1 (some ⟨b2, o, none⟩) n2 c2 l) (hn2 : 1 ≤ n2) (hbl : b2 < w.heap.size) (h0 : w.cell? ⟨b2, o, none⟩ = some (.int .i64 ke)) (h1 : w.cell? ⟨b2, o + 1, none⟩ = some (.string ne)) (h2 : w.cell? ⟨b2, o + 2, none⟩ = some (.slice Ae n3 c3)) (h3 : w.cell? ⟨b2, o + 3, none⟩ = some (.slice Be n4 c4)) (hcall : Calls Tryd.prog 56 #[.pointer (some ⟨b, 0, none⟩), .agg #[.int .i64 ke, .string ne, .slice Ae n3 c3, .slice Be n4 c4]] w fun e w' => e = .returned (.tuple #[]) ∧ Bld base b (l ++ tx) w' ∧ KeepB base b w w') (hN : ∀ a' w', Frm 92 [(0, .pointer (some ⟨b, 0, none⟩)), (3, .pointer (some ⟨wo.heap.size, 0, none⟩))] a' → WS wo w' base b kd nm A n1 c1 (some ⟨b2, o, none⟩) n2 c2 (l ++ tx) → Q .normal a' w') : ∀ ac, Frm 92 [(0, .pointer (some ⟨b, 0, none⟩)), (3, .pointer (some ⟨wo.heap.size, 0, none⟩))] ac → Code.wp Tryd.prog c_wr_r22 Q ac w := by
  refine frm_open ?_
  refine frame_wr ?_
  intros
  rename_i hq
  obtain ⟨-, -, e0q, e1q, -⟩ := hq
  have e0q := (Option.some.inj e0q).symm; subst e0q
  have e1q := (Option.some.inj e1q).symm; subst e1q
  conv => arg 2; whnf
  have q1 : (0 : Int) < (n2 : Int) := by omega
  have q2 : (0 : Int) ≤ (0 : Int) := by omega
  have a0 := cellv hs.a 0 rfl
  have a1 := cellv hs.a 1 rfl
  have a2 := cellv hs.a 2 rfl
  have a3 := cellv hs.a 3 rfl
  have al := lt_heap hs.a
  have HS := Lib.hid hs
  clear hs
  have HN := Lib.hid hN
  have HCALL := Lib.hid hcall
  clear hN hcall
  go_wp2_with fail
  (with_reducible refine HCALL.out.mono ?_)
  rintro e w1 ⟨rfl, h1, hk1⟩
  have HK1 := Lib.hid hk1
  have H1 := Lib.hid h1
  clear hk1 h1
  go_wp2_with fail
  exact HN.out _ _ (id ⟨rfl, rfl, rfl, rfl, trivial⟩) (HS.out.step H1.out HK1.out)
noncomputable def c_wr_r3 : Code := sub [1, 1, 0, 1, 1, 1, 1, 1, 1, 1, 1, 1, 1, 1, 0] (Tryd.f56.body.getD .skip)
set_option maxRecDepth 1000000 in
set_option maxHeartbeats 16000000 in
theorem wr_r3_wp {Q : Exit → Act → World → Prop} {b2 o : Nat} {tx : List UInt8} {ke : Int} {ne : ByteArray} {Ae Be : Option Addr} {n3 c3 n4 c4 : Nat} {base b : Nat} {l : List UInt8} {wo w : World} {kd : Int} {nm : ByteArray} {A : Option Addr} {n1 c1 n2 c2 : Nat} (hs : WS wo w base b kd nm A n1 c1 (some ⟨b2, o, none⟩) n2 c2 l) (hn2 : 1 ≤ n2) (hbl : b2 < w.heap.size) (h0 : w.cell? ⟨b2, o, none⟩ = some (.int .i64 ke)) (h1 : w.cell? ⟨b2, o + 1, none⟩ = some (.string ne)) (h2 : w.cell? ⟨b2, o + 2, none⟩ = some (.slice Ae n3 c3)) (h3 : w.cell? ⟨b2, o + 3, none⟩ = some (.slice Be n4 c4)) (hcall : Calls Tryd.prog 56 #[.pointer (some ⟨b, 0, none⟩), .agg #[.int .i64 ke, .string ne, .slice Ae n3 c3, .slice Be n4 c4]] w fun e w' => e = .returned (.tuple #[]) ∧ Bld base b (l ++ tx) w' ∧ KeepB base b w w') (hN : ∀ a' w', Frm 92 [(0, .pointer (some ⟨b, 0, none⟩)), (3, .pointer (some ⟨wo.heap.size, 0, none⟩))] a' → WS wo w' base b kd nm A n1 c1 (some ⟨b2, o, none⟩) n2 c2 (l ++ tx) → Q .normal a' w') : ∀ ac, Frm 92 [(0, .pointer (some ⟨b, 0, none⟩)), (3, .pointer (some ⟨wo.heap.size, 0, none⟩))] ac → Code.wp Tryd.prog c_wr_r3 Q ac w := by
  refine frm_open ?_
  refine frame_wr ?_
  intros
  rename_i hq
  obtain ⟨-, -, e0q, e1q, -⟩ := hq
  have e0q := (Option.some.inj e0q).symm; subst e0q
  have e1q := (Option.some.inj e1q).symm; subst e1q
  conv => arg 2; whnf
  have q1 : (0 : Int) < (n2 : Int) := by omega
  have q2 : (0 : Int) ≤ (0 : Int) := by omega
  have a0 := cellv hs.a 0 rfl
  have a1 := cellv hs.a 1 rfl
  have a2 := cellv hs.a 2 rfl
  have a3 := cellv hs.a 3 rfl
  have al := lt_heap hs.a
  have HS := Lib.hid hs
  clear hs
  have HN := Lib.hid hN
  have HCALL := Lib.hid hcall
  clear hN hcall
  go_wp2_with fail
  (with_reducible refine HCALL.out.mono ?_)
  rintro e w1 ⟨rfl, h1, hk1⟩
  have HK1 := Lib.hid hk1
  have H1 := Lib.hid h1
  clear hk1 h1
  go_wp2_with fail
  exact HN.out _ _ (id ⟨rfl, rfl, rfl, rfl, trivial⟩) (HS.out.step H1.out HK1.out)
noncomputable def c_wr_r5 : Code := sub [1, 1, 0, 1, 1, 1, 1, 1, 1, 1, 1, 1, 1, 1, 1, 1, 0] (Tryd.f56.body.getD .skip)
set_option maxRecDepth 1000000 in
set_option maxHeartbeats 16000000 in
theorem wr_r5_wp {Q : Exit → Act → World → Prop} {b2 o : Nat} {tx : List UInt8} {ke : Int} {ne : ByteArray} {Ae Be : Option Addr} {n3 c3 n4 c4 : Nat} {base b : Nat} {l : List UInt8} {wo w : World} {kd : Int} {nm : ByteArray} {A : Option Addr} {n1 c1 n2 c2 : Nat} (hs : WS wo w base b kd nm A n1 c1 (some ⟨b2, o, none⟩) n2 c2 l) (hn2 : 2 ≤ n2) (hbl : b2 < w.heap.size) (h0 : w.cell? ⟨b2, o + 4, none⟩ = some (.int .i64 ke)) (h1 : w.cell? ⟨b2, o + 5, none⟩ = some (.string ne)) (h2 : w.cell? ⟨b2, o + 6, none⟩ = some (.slice Ae n3 c3)) (h3 : w.cell? ⟨b2, o + 7, none⟩ = some (.slice Be n4 c4)) (hcall : Calls Tryd.prog 56 #[.pointer (some ⟨b, 0, none⟩), .agg #[.int .i64 ke, .string ne, .slice Ae n3 c3, .slice Be n4 c4]] w fun e w' => e = .returned (.tuple #[]) ∧ Bld base b (l ++ tx) w' ∧ KeepB base b w w') (hN : ∀ a' w', Frm 92 [(0, .pointer (some ⟨b, 0, none⟩)), (3, .pointer (some ⟨wo.heap.size, 0, none⟩))] a' → WS wo w' base b kd nm A n1 c1 (some ⟨b2, o, none⟩) n2 c2 (l ++ tx) → Q .normal a' w') : ∀ ac, Frm 92 [(0, .pointer (some ⟨b, 0, none⟩)), (3, .pointer (some ⟨wo.heap.size, 0, none⟩))] ac → Code.wp Tryd.prog c_wr_r5 Q ac w := by
  refine frm_open ?_
  refine frame_wr ?_
  intros
  rename_i hq
  obtain ⟨-, -, e0q, e1q, -⟩ := hq
  have e0q := (Option.some.inj e0q).symm; subst e0q
  have e1q := (Option.some.inj e1q).symm; subst e1q
  conv => arg 2; whnf
  have q1 : (1 : Int) < (n2 : Int) := by omega
  have q2 : (0 : Int) ≤ (1 : Int) := by omega
  have g1 : w.cell? ⟨b2, o + 4 + 1, none⟩ = _ := (show w.cell? ⟨b2, o + 5, none⟩ = _ from h1)
  have g2 : w.cell? ⟨b2, o + 4 + 2, none⟩ = _ := (show w.cell? ⟨b2, o + 6, none⟩ = _ from h2)
  have g3 : w.cell? ⟨b2, o + 4 + 3, none⟩ = _ := (show w.cell? ⟨b2, o + 7, none⟩ = _ from h3)
  have a0 := cellv hs.a 0 rfl
  have a1 := cellv hs.a 1 rfl
  have a2 := cellv hs.a 2 rfl
  have a3 := cellv hs.a 3 rfl
  have al := lt_heap hs.a
  have HS := Lib.hid hs
  clear hs
  have HN := Lib.hid hN
  have HCALL := Lib.hid hcall
  clear hN hcall
  go_wp2_with fail
  (with_reducible refine HCALL.out.mono ?_)
  rintro e w1 ⟨rfl, h1, hk1⟩
  have HK1 := Lib.hid hk1
  have H1 := Lib.hid h1
  clear hk1 h1
  go_wp2_with fail
  exact HN.out _ _ (id ⟨rfl, rfl, rfl, rfl, trivial⟩) (HS.out.step H1.out HK1.out)
noncomputable def c_wr_r18 : Code := sub [1, 1, 0, 1, 1, 1, 1, 1, 1, 1, 1, 1, 0, 0] (Tryd.f56.body.getD .skip)
set_option maxRecDepth 1000000 in
set_option maxHeartbeats 16000000 in
theorem wr_r18_wp {Q : Exit → Act → World → Prop} {b : Nat} {wo w : World} (hN : ∀ a', Frm 92 [(0, .pointer (some ⟨b, 0, none⟩)), (3, .pointer (some ⟨wo.heap.size, 0, none⟩)), (4, .string ⟨#[115, 111, 109, 101, 32]⟩)] a' → Q .normal a' w) : ∀ ac, Frm 92 [(0, .pointer (some ⟨b, 0, none⟩)), (3, .pointer (some ⟨wo.heap.size, 0, none⟩))] ac → Code.wp Tryd.prog c_wr_r18 Q ac w := by
  refine frm_open ?_
  refine frame_wr ?_
  intros
  rename_i hq
  obtain ⟨-, -, e0q, e1q, -⟩ := hq
  have e0q := (Option.some.inj e0q).symm; subst e0q
  have e1q := (Option.some.inj e1q).symm; subst e1q
  conv => arg 2; whnf
  have HN := Lib.hid hN
  clear hN
  go_wp2_with fail
  exact HN.out _ (id ⟨rfl, rfl, rfl, rfl, rfl, trivial⟩)
noncomputable def c_wr_r19 : Code := sub [1, 1, 0, 1, 1, 1, 1, 1, 1, 1, 1, 1, 0, 1, 0, 0] (Tryd.f56.body.getD .skip)
set_option maxRecDepth 1000000 in
set_option maxHeartbeats 16000000 in
theorem wr_r19_wp {Q : Exit → Act → World → Prop} {base b : Nat} {l : List UInt8} {wo w : World} {kd : Int} {nm : ByteArray} {A B : Option Addr} {n1 c1 n2 c2 : Nat} (hs : WS wo w base b kd nm A n1 c1 B n2 c2 l) (hN : ∀ a', Frm 92 [(0, .pointer (some ⟨b, 0, none⟩)), (3, .pointer (some ⟨wo.heap.size, 0, none⟩)), (4, .string ⟨#[115, 111, 109, 101, 32]⟩), (78, .bool (decide (kd = 8)))] a' → Q .normal a' w) : ∀ ac, Frm 92 [(0, .pointer (some ⟨b, 0, none⟩)), (3, .pointer (some ⟨wo.heap.size, 0, none⟩)), (4, .string ⟨#[115, 111, 109, 101, 32]⟩)] ac → Code.wp Tryd.prog c_wr_r19 Q ac w := by
  refine frm_open ?_
  refine frame_wr ?_
  intros
  rename_i hq
  obtain ⟨-, -, e0q, e1q, e2q, -⟩ := hq
  have e0q := (Option.some.inj e0q).symm; subst e0q
  have e1q := (Option.some.inj e1q).symm; subst e1q
  have e2q := (Option.some.inj e2q).symm; subst e2q
  conv => arg 2; whnf
  have a0 := cellv hs.a 0 rfl
  have a1 := cellv hs.a 1 rfl
  have a2 := cellv hs.a 2 rfl
  have a3 := cellv hs.a 3 rfl
  have al := lt_heap hs.a
  have HS := Lib.hid hs
  clear hs
  by_cases h : kd = 8
  · subst h
    rw [show decide ((8 : Int) = 8) = true from rfl] at hN
    have HN := Lib.hid hN
    clear hN
    go_wp2_with fail
    exact HN.out _ (id ⟨rfl, rfl, rfl, rfl, rfl, rfl, trivial⟩)
  · have t1 : (kd == 8) = false := beq_eq_false_iff_ne.2 h
    rw [show decide (kd = 8) = false from decide_eq_false h] at hN
    clear h
    have HN := Lib.hid hN
    clear hN
    go_wp2_with fail
    exact HN.out _ (id ⟨rfl, rfl, rfl, rfl, rfl, rfl, trivial⟩)
noncomputable def c_wr_r20 : Code := sub [1, 1, 0, 1, 1, 1, 1, 1, 1, 1, 1, 1, 0, 1, 0, 1, 0] (Tryd.f56.body.getD .skip)
set_option maxRecDepth 1000000 in
set_option maxHeartbeats 16000000 in
theorem wr_r20_wp {Q : Exit → Act → World → Prop} {b : Nat} {wo w : World} (hN : ∀ a', Frm 92 [(0, .pointer (some ⟨b, 0, none⟩)), (3, .pointer (some ⟨wo.heap.size, 0, none⟩)), (4, .string ⟨#[97, 108, 108, 32]⟩)] a' → Q .normal a' w) : ∀ ac, Frm 92 [(0, .pointer (some ⟨b, 0, none⟩)), (3, .pointer (some ⟨wo.heap.size, 0, none⟩))] ac → Code.wp Tryd.prog c_wr_r20 Q ac w := by
  refine frm_open ?_
  refine frame_wr ?_
  intros
  rename_i hq
  obtain ⟨-, -, e0q, e1q, -⟩ := hq
  have e0q := (Option.some.inj e0q).symm; subst e0q
  have e1q := (Option.some.inj e1q).symm; subst e1q
  conv => arg 2; whnf
  have HN := Lib.hid hN
  clear hN
  go_wp2_with fail
  exact HN.out _ (id ⟨rfl, rfl, rfl, rfl, rfl, trivial⟩)
noncomputable def c_wr_r21 : Code := sub [1, 1, 0, 1, 1, 1, 1, 1, 1, 1, 1, 1, 0, 1, 1, 0] (Tryd.f56.body.getD .skip)
set_option maxRecDepth 1000000 in
set_option maxHeartbeats 16000000 in
theorem wr_r21_wp {Q : Exit → Act → World → Prop} {wd : ByteArray} {base b : Nat} {l : List UInt8} {wo w : World} {kd : Int} {nm : ByteArray} {A B : Option Addr} {n1 c1 n2 c2 : Nat} (hl : l.length ≤ 100000000) (hwd : wd.size ≤ 10) (hnm : nm.size ≤ 1000) (hs : WS wo w base b kd nm A n1 c1 B n2 c2 l) (hN : ∀ a' w', Frm 92 [(0, .pointer (some ⟨b, 0, none⟩)), (3, .pointer (some ⟨wo.heap.size, 0, none⟩))] a' → WS wo w' base b kd nm A n1 c1 B n2 c2 (l ++ (wd ++ nm ++ (⟨#[32]⟩ : ByteArray)).data.toList) → Q .normal a' w') : ∀ ac, Frm 92 [(0, .pointer (some ⟨b, 0, none⟩)), (3, .pointer (some ⟨wo.heap.size, 0, none⟩)), (4, .string wd)] ac → Code.wp Tryd.prog c_wr_r21 Q ac w := by
  refine frm_open ?_
  refine frame_wr ?_
  intros
  rename_i hq
  obtain ⟨-, -, e0q, e1q, e2q, -⟩ := hq
  have e0q := (Option.some.inj e0q).symm; subst e0q
  have e1q := (Option.some.inj e1q).symm; subst e1q
  have e2q := (Option.some.inj e2q).symm; subst e2q
  conv => arg 2; whnf
  have hz : (wd ++ nm ++ (⟨#[32]⟩ : ByteArray)).size = wd.size + nm.size + 1 := by rw [ByteArray.size_append, ByteArray.size_append]; rfl
  have hwr := writeString_any base b l (wd ++ nm ++ (⟨#[32]⟩ : ByteArray)) w hs.hb (by omega)
  have s1 : ¬ 9223372036854775807 < wd.size + nm.size := by omega
  have s2 : ¬ 9223372036854775806 < wd.size + nm.size := by omega
  have s3 : ¬ 9223372036854775807 < wd.size + nm.size + 1 := by omega
  clear hz hwd hnm hl
  have a0 := cellv hs.a 0 rfl
  have a1 := cellv hs.a 1 rfl
  have a2 := cellv hs.a 2 rfl
  have a3 := cellv hs.a 3 rfl
  have al := lt_heap hs.a
  have HS := Lib.hid hs
  clear hs
  have HN := Lib.hid hN
  have HWR := Lib.hid hwr
  clear hN hwr
  go_wp2_with fail
  (with_reducible refine HWR.out.mono ?_)
  rintro e w1 ⟨rfl, h1, hk1⟩
  have HK1 := Lib.hid hk1
  have H1 := Lib.hid h1
  clear hk1 h1
  go_wp2_with fail
  exact HN.out _ _ (id ⟨rfl, rfl, rfl, rfl, trivial⟩) (HS.out.step H1.out HK1.out)
noncomputable def c_wr_r4 : Code := sub [1, 1, 0, 1, 1, 1, 1, 1, 1, 1, 1, 1, 1, 1, 1, 0] (Tryd.f56.body.getD .skip)
set_option maxRecDepth 1000000 in
set_option maxHeartbeats 16000000 in
theorem wr_r4_wp {Q : Exit → Act → World → Prop} {base b : Nat} {l : List UInt8} {wo w : World} {kd : Nat} {nm : ByteArray} {A B : Option Addr} {n1 c1 n2 c2 : Nat} (hl : l.length ≤ 100000000) (hk : kd = 5 ∨ kd = 6 ∨ kd = 7) (hs : WS wo w base b (kd : Nat) nm A n1 c1 B n2 c2 l) (hN : ∀ a' w', Frm 92 [(0, .pointer (some ⟨b, 0, none⟩)), (3, .pointer (some ⟨wo.heap.size, 0, none⟩))] a' → WS wo w' base b (kd : Nat) nm A n1 c1 B n2 c2 (l ++ [32, signB kd, 32]) → Q .normal a' w') : ∀ ac, Frm 92 [(0, .pointer (some ⟨b, 0, none⟩)), (3, .pointer (some ⟨wo.heap.size, 0, none⟩))] ac → Code.wp Tryd.prog c_wr_r4 Q ac w := by
  refine frm_open ?_
  refine frame_wr ?_
  intros
  rename_i hq
  obtain ⟨-, -, e0q, e1q, -⟩ := hq
  have e0q := (Option.some.inj e0q).symm; subst e0q
  have e1q := (Option.some.inj e1q).symm; subst e1q
  conv => arg 2; whnf
  rcases hk with rfl | rfl | rfl
  · have hwr := fun (W : World) (h : WS wo W base b 5 nm A n1 c1 B n2 c2 l) => writeString_any base b l ⟨#[32, 38, 32]⟩ W h.hb (by have : (⟨#[32, 38, 32]⟩ : ByteArray).size = 3 := rfl; omega)
    have a0 := cellv hs.a 0 rfl
    have a1 := cellv hs.a 1 rfl
    have a2 := cellv hs.a 2 rfl
    have a3 := cellv hs.a 3 rfl
    have al := lt_heap hs.a
    have HS := Lib.hid hs
    clear hs
    have HN := Lib.hid hN
    have HWR := Lib.hid hwr
    clear hN hwr
    go_wp2_with fail
    (with_reducible refine (HWR.out _ (HS.out.below ((Below.refl _ _).alloc (Nat.le_refl _) _))).mono ?_)
    rintro e w1 ⟨rfl, h1, hk1⟩
    have HK1 := Lib.hid hk1
    have H1 := Lib.hid h1
    clear hk1 h1
    go_wp2_with fail
    exact HN.out _ _ (id ⟨rfl, rfl, rfl, rfl, trivial⟩) ((HS.out.below ((Below.refl _ _).alloc (Nat.le_refl _) _)).step H1.out HK1.out)

  · have hwr := fun (W : World) (h : WS wo W base b 6 nm A n1 c1 B n2 c2 l) => writeString_any base b l ⟨#[32, 124, 32]⟩ W h.hb (by have : (⟨#[32, 124, 32]⟩ : ByteArray).size = 3 := rfl; omega)
    have a0 := cellv hs.a 0 rfl
    have a1 := cellv hs.a 1 rfl
    have a2 := cellv hs.a 2 rfl
    have a3 := cellv hs.a 3 rfl
    have al := lt_heap hs.a
    have HS := Lib.hid hs
    clear hs
    have HN := Lib.hid hN
    have HWR := Lib.hid hwr
    clear hN hwr
    go_wp2_with fail
    (with_reducible refine (HWR.out _ (HS.out.below ((Below.refl _ _).alloc (Nat.le_refl _) _))).mono ?_)
    rintro e w1 ⟨rfl, h1, hk1⟩
    have HK1 := Lib.hid hk1
    have H1 := Lib.hid h1
    clear hk1 h1
    go_wp2_with fail
    exact HN.out _ _ (id ⟨rfl, rfl, rfl, rfl, trivial⟩) ((HS.out.below ((Below.refl _ _).alloc (Nat.le_refl _) _)).step H1.out HK1.out)

  · have hwr := fun (W : World) (h : WS wo W base b 7 nm A n1 c1 B n2 c2 l) => writeString_any base b l ⟨#[32, 62, 32]⟩ W h.hb (by have : (⟨#[32, 62, 32]⟩ : ByteArray).size = 3 := rfl; omega)
    have a0 := cellv hs.a 0 rfl
    have a1 := cellv hs.a 1 rfl
    have a2 := cellv hs.a 2 rfl
    have a3 := cellv hs.a 3 rfl
    have al := lt_heap hs.a
    have HS := Lib.hid hs
    clear hs
    have HN := Lib.hid hN
    have HWR := Lib.hid hwr
    clear hN hwr
    go_wp2_with fail
    (with_reducible refine (HWR.out _ (HS.out.below ((Below.refl _ _).alloc (Nat.le_refl _) _))).mono ?_)
    rintro e w1 ⟨rfl, h1, hk1⟩
    have HK1 := Lib.hid hk1
    have H1 := Lib.hid h1
    clear hk1 h1
    go_wp2_with fail
    exact HN.out _ _ (id ⟨rfl, rfl, rfl, rfl, trivial⟩) ((HS.out.below ((Below.refl _ _).alloc (Nat.le_refl _) _)).step H1.out HK1.out)
noncomputable def c_wr_r12 : Code := sub [1, 1, 0, 1, 1, 1, 1, 1, 0] (Tryd.f56.body.getD .skip)
set_option maxRecDepth 1000000 in
set_option maxHeartbeats 16000000 in
theorem wr_r12_wp {K : Act → World → Prop} {b2 o : Nat} {x y : ByteArray} {base b : Nat} {l : List UInt8} {wo w : World} {kd : Int} {nm : ByteArray} {B : Option Addr} {n1 c1 n2 c2 : Nat} (hl : l.length ≤ 100000000) (hs : WS wo w base b kd nm (some ⟨b2, o, none⟩) n1 c1 B n2 c2 l) (hn1 : 2 ≤ n1) (hx : x.size ≤ 1000) (hy : y.size ≤ 1000) (hb2 : b2 < base) (h0 : w.cell? ⟨b2, o, none⟩ = some (.string x)) (h1 : w.cell? ⟨b2, o + 1, none⟩ = some (.string y)) (hN : ∀ a' w', Frm 92 [(0, .pointer (some ⟨b, 0, none⟩)), (3, .pointer (some ⟨wo.heap.size, 0, none⟩))] a' → WS wo w' base b kd nm (some ⟨b2, o, none⟩) n1 c1 B n2 c2 (l ++ ((⟨#[40]⟩ : ByteArray) ++ x ++ (⟨#[32, 61, 32]⟩ : ByteArray) ++ y ++ (⟨#[41]⟩ : ByteArray)).data.toList) → K a' w') : ∀ ac, Frm 92 [(0, .pointer (some ⟨b, 0, none⟩)), (3, .pointer (some ⟨wo.heap.size, 0, none⟩))] ac → Code.wp Tryd.prog c_wr_r12 (Exit.then K (fun _ _ _ => False)) ac w := by
  refine frm_open ?_
  refine frame_wr ?_
  intros
  rename_i hq
  obtain ⟨-, -, e0q, e1q, -⟩ := hq
  have e0q := (Option.some.inj e0q).symm; subst e0q
  have e1q := (Option.some.inj e1q).symm; subst e1q
  conv => arg 2; whnf
  have hz : ((⟨#[40]⟩ : ByteArray) ++ x ++ (⟨#[32, 61, 32]⟩ : ByteArray) ++ y ++ (⟨#[41]⟩ : ByteArray)).size = 1 + x.size + 3 + y.size + 1 := by rw [ByteArray.size_append, ByteArray.size_append, ByteArray.size_append, ByteArray.size_append]; rfl
  have hwr := fun (W : World) (h : Bld base b l W) => writeString_any base b l ((⟨#[40]⟩ : ByteArray) ++ x ++ (⟨#[32, 61, 32]⟩ : ByteArray) ++ y ++ (⟨#[41]⟩ : ByteArray)) W h (by omega)
  have s1 : ¬ 9223372036854775807 < 1 + x.size := by omega
  have s2 : ¬ 9223372036854775804 < 1 + x.size := by omega
  have s3 : ¬ 9223372036854775807 < 1 + x.size + 3 := by omega
  have s4 : ¬ 9223372036854775807 < 1 + x.size + 3 + y.size := by omega
  have s5 : ¬ 9223372036854775806 < 1 + x.size + 3 + y.size := by omega
  have s6 : ¬ 9223372036854775807 < 1 + x.size + 3 + y.size + 1 := by omega
  have q1 : (0 : Int) < (n1 : Int) := by omega
  have q2 : (1 : Int) < (n1 : Int) := by omega
  have q3 : 0 < n1 := by omega
  have q4 : 1 < n1 := by omega
  have hbl : b2 < w.heap.size := by have := hs.hb.1; have := hs.hb.ltB; omega
  have hb3 : b2 ≠ b := by have := hs.hb.1; omega
  have HH0 := Lib.hid h0
  have HH1 := Lib.hid h1
  clear hz hx hy hl hn1
  have a0 := cellv hs.a 0 rfl
  have a1 := cellv hs.a 1 rfl
  have a2 := cellv hs.a 2 rfl
  have a3 := cellv hs.a 3 rfl
  have al := lt_heap hs.a
  have HS := Lib.hid hs
  clear hs
  have HWR := Lib.hid hwr
  clear hwr
  have HSD := Lib.hid HS.out.drew
  go_region_held3 (fun w' => w'.cell? ⟨wo.heap.size, 2, none⟩ = some (.slice (some ⟨b2, o, none⟩) n1 c1) ∧ w'.cell? ⟨b2, o, none⟩ = some (.string x) ∧ w'.cell? ⟨b2, o + 1, none⟩ = some (.string y))
    ((first | (go_keep; done) | exact ⟨cellv HS2.out.a 2 rfl, (cell_keep (HK1.out.block b2 hbl hb3 (Or.inl hb2)) _).trans HH0.out, (cell_keep (HK1.out.block b2 hbl hb3 (Or.inl hb2)) _).trans HH1.out⟩))
    (first
      | ((with_reducible refine (HWR.out _ HS.out.hb).mono ?_); rintro e w1 ⟨rfl, h1, hk1⟩; have hs2 := HS.out.step h1 hk1; have HS2 := Lib.hid hs2; have HK1 := Lib.hid hk1; have H1 := Lib.hid h1; clear hk1 h1 hs2)
      | ((with_reducible refine (HWR.out _ HSD.out.hb).mono ?_); rintro e w1 ⟨rfl, h1, hk1⟩; have hs2 := HSD.out.step h1 hk1; have HS2 := Lib.hid hs2; have HK1 := Lib.hid hk1; have H1 := Lib.hid h1; clear hk1 h1 hs2)
      | fail)
  all_goals go_wp2_with fail
  all_goals exact hN _ _ (id ⟨rfl, rfl, rfl, rfl, trivial⟩) HS2.out
noncomputable def c_wr_r10 : Code := sub [1, 1, 0, 1, 1, 1, 0] (Tryd.f56.body.getD .skip)
set_option maxRecDepth 1000000 in
set_option maxHeartbeats 16000000 in
theorem wr_r10_wp {K : Act → World → Prop} {x : ByteArray} {ws : List ByteArray} {Sx : Nat → Prop} {base b : Nat} {l : List UInt8} {wo w : World} {kd : Int} {nm : ByteArray} {A B : Option Addr} {n1 c1 n2 c2 : Nat} (hl : l.length ≤ 100000000) (hs : WS wo w base b kd nm A n1 c1 B n2 c2 l) (hw : strRep.Sl w Sx (.slice A n1 c1) ws) (hnc : n1 ≤ c1) (hw3 : ws.length ≤ 3) (hwz : ∀ a ∈ ws, a.size ≤ 1000) (hwt : (wordsT ws).length ≤ 5000) (hSx : ∀ k, Sx k → k < w.heap.size) (hnm : nm.size ≤ 1000) (hx : (⟨(wordsT ws).toArray⟩ : ByteArray) = x) (hN : ∀ a' w', Frm 92 [(0, .pointer (some ⟨b, 0, none⟩)), (3, .pointer (some ⟨wo.heap.size, 0, none⟩))] a' → WS wo w' base b kd nm A n1 c1 B n2 c2 (l ++ (nm ++ (⟨#[40]⟩ : ByteArray) ++ x ++ (⟨#[41]⟩ : ByteArray)).data.toList) → K a' w') : ∀ ac, Frm 92 [(0, .pointer (some ⟨b, 0, none⟩)), (3, .pointer (some ⟨wo.heap.size, 0, none⟩))] ac → Code.wp Tryd.prog c_wr_r10 (Exit.then K (fun _ _ _ => False)) ac w := by
  refine frm_open ?_
  refine frame_wr ?_
  intros
  rename_i hq
  obtain ⟨-, -, e0q, e1q, -⟩ := hq
  have e0q := (Option.some.inj e0q).symm; subst e0q
  have e1q := (Option.some.inj e1q).symm; subst e1q
  conv => arg 2; whnf
  have hxz : x.size ≤ 5000 := by rw [← hx, ByteArray.size]; simp; omega
  have hz : (nm ++ (⟨#[40]⟩ : ByteArray) ++ x ++ (⟨#[41]⟩ : ByteArray)).size = nm.size + 1 + x.size + 1 := by rw [ByteArray.size_append, ByteArray.size_append, ByteArray.size_append]; rfl
  have hwr := fun (W : World) (h : Bld base b l W) => writeString_any base b l (nm ++ (⟨#[40]⟩ : ByteArray) ++ x ++ (⟨#[41]⟩ : ByteArray)) W h (by omega)
  have hjn := fun (W : World) (h : ∀ k, Sx k → W.heap[k]? = w.heap[k]?) (hz : w.heap.size ≤ W.heap.size) => join_any ws A n1 c1 W Sx (hw.keep h (fun _ h => h)) hnc hw3 hwz (fun k hk => Nat.lt_of_lt_of_le (hSx k hk) hz)
  have hj1 := hjn w (fun _ _ => rfl) (Nat.le_refl _)
  have hj2 := hjn w.drew (fun _ _ => rfl) (Nat.le_refl _)
  rw [hx] at hj1 hj2
  clear hjn
  have s0 : ¬ 9223372036854775806 < nm.size := by omega
  have s1 : ¬ 9223372036854775807 < nm.size + 1 := by omega
  have s2 : ¬ 9223372036854775807 < nm.size + 1 + x.size := by omega
  have s3 : ¬ 9223372036854775806 < nm.size + 1 + x.size := by omega
  have s4 : ¬ 9223372036854775807 < nm.size + 1 + x.size + 1 := by omega
  clear hz hxz hnm hl hw hnc hw3 hwz hSx hx
  have a0 := cellv hs.a 0 rfl
  have a1 := cellv hs.a 1 rfl
  have a2 := cellv hs.a 2 rfl
  have a3 := cellv hs.a 3 rfl
  have al := lt_heap hs.a
  have HS := Lib.hid hs
  clear hs
  have HWR := Lib.hid hwr
  have HJ1 := Lib.hid hj1
  have HJ2 := Lib.hid hj2
  clear hwr hj1 hj2
  have HSD := Lib.hid HS.out.drew
  go_region_held3 (fun w' => w'.cell? ⟨wo.heap.size, 1, none⟩ = some (.string nm) ∧ w'.cell? ⟨wo.heap.size, 2, none⟩ = some (.slice A n1 c1))
    ((first | (go_keep; done) | exact ⟨cellv HS2.out.a 1 rfl, cellv HS2.out.a 2 rfl⟩ | (go_split_ands; (repeat' apply And.intro) <;> (refine (kc _ _ (by omega)).trans ?_; assumption))))
    (first
      | ((with_reducible refine HJ1.out.mono ?_); rintro e w1 ⟨rfl, hb1⟩; have kc : ∀ k q, k < w.heap.size → w1.cell? ⟨k, q, none⟩ = w.cell? ⟨k, q, none⟩ := (fun k q h => hb1.cell (p := ⟨k, q, none⟩) h); have hs1 := HS.out.below hb1; have HS1 := Lib.hid hs1; clear hs1 hb1)
      | ((with_reducible refine HJ2.out.mono ?_); rintro e w1 ⟨rfl, hb1⟩; have kc : ∀ k q, k < w.heap.size → w1.cell? ⟨k, q, none⟩ = w.cell? ⟨k, q, none⟩ := (fun k q h => hb1.cell (p := ⟨k, q, none⟩) h); have hs1 := HSD.out.below hb1; have HS1 := Lib.hid hs1; clear hs1 hb1)
      | ((with_reducible refine (HWR.out _ HS1.out.hb).mono ?_); rintro e w2 ⟨rfl, h2, hk2⟩; have hs2 := HS1.out.step h2 hk2; have HS2 := Lib.hid hs2; clear hk2 h2 hs2)
      | fail)
  all_goals go_wp2_with fail
  all_goals exact hN _ _ (id ⟨rfl, rfl, rfl, rfl, trivial⟩) HS2.out

end Go.Proofs.YtdofemkfmkopcaaDoor
