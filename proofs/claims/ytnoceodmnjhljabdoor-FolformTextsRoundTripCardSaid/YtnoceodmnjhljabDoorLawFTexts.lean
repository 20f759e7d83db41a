/-
  The law FolformTextsRoundTrip: the walk, by parts.
-/
import Derived.Test.YtnoceodmnjhljabDoorFParse
import Derived.Test.YtnoceodmnjhljabDoorFPrint
import Derived.Test.YtnoceodmnjhljabDoorEqFm
import Derived.Test.YtnoceodmnjhljabDoorFmMake
namespace Go.Proofs.YtnoceodmnjhljabDoor
open Go Go.RowKit
set_option linter.unusedSimpArgs false
set_option linter.unusedVariables false

set_option maxRecDepth 1000000 in
theorem frame_lt {P : Act → Prop} (h : ∀ x0 x1 x2 x3 x4 x5 x6 x7 x8 x9 x10 x11 x12 x13 x14 x15 x16 x17 x18 x19 x20 x21 x22 x23 x24 x25 x26 x27 x28 x29 x30 x31 x32 x33 x34 x35 x36 x37 x38 x39 x40 x41 : Value, P ⟨(x0 :: x1 :: x2 :: x3 :: x4 :: x5 :: x6 :: x7 :: x8 :: x9 :: x10 :: x11 :: x12 :: x13 :: x14 :: x15 :: x16 :: x17 :: x18 :: x19 :: x20 :: x21 :: x22 :: x23 :: x24 :: x25 :: x26 :: x27 :: x28 :: x29 :: x30 :: x31 :: x32 :: x33 :: x34 :: x35 :: x36 :: x37 :: x38 :: x39 :: x40 :: x41 :: []).toArray, []⟩) : ∀ a : Act, a.tmps.toList.length = 42 → a.defers = [] → P a := by
  rintro ⟨⟨l⟩, d⟩ hs hd
  simp only at hd
  subst hd
  revert l
  show ∀ l : List Value, l.length = 42 → P ⟨⟨l⟩, []⟩
  refine openS (n := 41) (fun x0 => ?_)
  refine openS (n := 40) (fun x1 => ?_)
  refine openS (n := 39) (fun x2 => ?_)
  refine openS (n := 38) (fun x3 => ?_)
  refine openS (n := 37) (fun x4 => ?_)
  refine openS (n := 36) (fun x5 => ?_)
  refine openS (n := 35) (fun x6 => ?_)
  refine openS (n := 34) (fun x7 => ?_)
  refine openS (n := 33) (fun x8 => ?_)
  refine openS (n := 32) (fun x9 => ?_)
  refine openS (n := 31) (fun x10 => ?_)
  refine openS (n := 30) (fun x11 => ?_)
  refine openS (n := 29) (fun x12 => ?_)
  refine openS (n := 28) (fun x13 => ?_)
  refine openS (n := 27) (fun x14 => ?_)
  refine openS (n := 26) (fun x15 => ?_)
  refine openS (n := 25) (fun x16 => ?_)
  refine openS (n := 24) (fun x17 => ?_)
  refine openS (n := 23) (fun x18 => ?_)
  refine openS (n := 22) (fun x19 => ?_)
  refine openS (n := 21) (fun x20 => ?_)
  refine openS (n := 20) (fun x21 => ?_)
  refine openS (n := 19) (fun x22 => ?_)
  refine openS (n := 18) (fun x23 => ?_)
  refine openS (n := 17) (fun x24 => ?_)
  refine openS (n := 16) (fun x25 => ?_)
  refine openS (n := 15) (fun x26 => ?_)
  refine openS (n := 14) (fun x27 => ?_)
  refine openS (n := 13) (fun x28 => ?_)
  refine openS (n := 12) (fun x29 => ?_)
  refine openS (n := 11) (fun x30 => ?_)
  refine openS (n := 10) (fun x31 => ?_)
  refine openS (n := 9) (fun x32 => ?_)
  refine openS (n := 8) (fun x33 => ?_)
  refine openS (n := 7) (fun x34 => ?_)
  refine openS (n := 6) (fun x35 => ?_)
  refine openS (n := 5) (fun x36 => ?_)
  refine openS (n := 4) (fun x37 => ?_)
  refine openS (n := 3) (fun x38 => ?_)
  refine openS (n := 2) (fun x39 => ?_)
  refine openS (n := 1) (fun x40 => ?_)
  refine openS (n := 0) (fun x41 => ?_)
  refine open0 ?_
  exact h x0 x1 x2 x3 x4 x5 x6 x7 x8 x9 x10 x11 x12 x13 x14 x15 x16 x17 x18 x19 x20 x21 x22 x23 x24 x25 x26 x27 x28 x29 x30 x31 x32 x33 x34 x35 x36 x37 x38 x39 x40 x41
theorem notP_any (w : World) : Calls Tryd.prog 9 #[.string ⟨#[45, 116, 114, 117, 101]⟩] w fun e w' => ∃ es : List Value, e = .returned (.tuple #[.agg es.toArray, .agg #[.int .i64 0, .int .i64 0]]) ∧ fmRep.R w' (Fresh2 w w') fvNot.fm es ∧ Below w.heap.size w w' := by
  refine (fparse_any ⟨#[45, 116, 114, 117, 101]⟩ w (by decide +kernel)).mono ?_
  unfold FParseAt
  rw [fp_not.1, fp_not.2]
  rintro e w' ⟨es, rfl, h1, h2⟩
  exact ⟨es, rfl, h1, h2⟩
noncomputable def c_lt_r0 : Code := sub [0] (Tryd.f5.body.getD .skip)
set_option maxRecDepth 1000000 in
set_option maxHeartbeats 16000000 in
theorem lt_r0_wp {Q : Exit → Act → World → Prop} {t : Fm} {At Bt : Option Addr} {nt ct mt dt : Nat} {w : World} (hN : ∀ a' w', Frm 42 [(1, .pointer (some ⟨w.heap.size, 0, none⟩))] a' → w'.heap[w.heap.size]? = some (.cells #[.int .i64 t.lab.kind, .string t.lab.nm, .slice At nt ct, .slice Bt mt dt] 34 (0, 0)) → w.heap.size < w'.heap.size → Below w.heap.size w w' → Q .normal a' w') : ∀ ac, Frm 42 [(0, .agg #[.int .i64 t.lab.kind, .string t.lab.nm, .slice At nt ct, .slice Bt mt dt])] ac → Code.wp Tryd.prog c_lt_r0 Q ac w := by
  refine frm_open ?_
  refine frame_lt ?_
  intros
  rename_i hq
  obtain ⟨-, -, e0q, -⟩ := hq
  have e0q := (Option.some.inj e0q).symm; subst e0q
  conv => arg 2; whnf
  have HN := Lib.hid hN
  clear hN
  go_wp2_with fail
  exact HN.out _ _ (id ⟨rfl, rfl, rfl, trivial⟩) (heap_at rfl) (by simp) (by go_grown)
noncomputable def c_lt_r1 : Code := sub [1, 0, 0] (Tryd.f5.body.getD .skip)
set_option maxRecDepth 1000000 in
set_option maxHeartbeats 16000000 in
theorem lt_r1_wp {Q : Exit → Act → World → Prop} {gi : Nat} {w : World} (hN : ∀ A0 n0 c0 B0 m0 d0 gf ge a' w', Frm 42 [(1, .pointer (some ⟨gi, 0, none⟩)), (3, .pointer (some ⟨gf, 0, none⟩)), (4, .pointer (some ⟨ge, 0, none⟩))] a' → w'.heap[gf]? = some (.cells #[.int .i64 fvNot.fm.lab.kind, .string fvNot.fm.lab.nm, .slice A0 n0 c0, .slice B0 m0 d0] 34 (0, 0)) → w'.heap[ge]? = some (.cells #[.int .i64 0, .int .i64 0] 27 (0, 0)) → w.heap.size ≤ gf → w.heap.size ≤ ge → gf ≠ ge → fmRep.R w' (Lo w') fvNot.fm [.int .i64 fvNot.fm.lab.kind, .string fvNot.fm.lab.nm, .slice A0 n0 c0, .slice B0 m0 d0] → Below w.heap.size w w' → Q .normal a' w') : ∀ ac, Frm 42 [(1, .pointer (some ⟨gi, 0, none⟩))] ac → Code.wp Tryd.prog c_lt_r1 Q ac w := by
  refine frm_open ?_
  refine frame_lt ?_
  intros
  rename_i hq
  obtain ⟨-, -, e0q, -⟩ := hq
  have e0q := (Option.some.inj e0q).symm; subst e0q
  conv => arg 2; whnf
  have hc := notP_any w
  have HN := Lib.hid hN
  have HC := Lib.hid hc
  clear hN hc
  go_wp2_with fail
  (with_reducible refine HC.out.mono ?_)
  rintro e w1 ⟨es, rfl, h1, hb1⟩
  obtain ⟨A0, n0, c0, B0, m0, d0, rfl, _, _, _, _⟩ := Fm.shape h1
  have H1 := Lib.hid h1
  have HB1 := Lib.hid hb1
  clear h1 hb1
  go_wp2_with fail
  have hz := HB1.out.size
  have hba := (HB1.out.alloc (by omega) (.cells #[.int .i64 fvNot.fm.lab.kind, .string fvNot.fm.lab.nm, .slice A0 n0 c0, .slice B0 m0 d0] 34)).alloc (by simp; omega) (.cells #[.int .i64 0, .int .i64 0] 27)
  refine HN.out A0 n0 c0 B0 m0 d0 w1.heap.size (w1.heap.size + 1) _ _ (id ⟨rfl, rfl, rfl, rfl, rfl, trivial⟩) (heap_old (by simp) (heap_at rfl)) (heap_at (by simp)) (by omega) (by omega) (by omega) (fmRep.keep H1.out (fun b hb => heap_old (by have := hb.2; simp; omega) (heap_old hb.2 rfl)) (fun b hb => by have := hb.2; show b < _; simp; omega)) (by go_grown)
noncomputable def c_lt_r2 : Code := sub [1, 0, 1, 0] (Tryd.f5.body.getD .skip)
set_option maxRecDepth 1000000 in
set_option maxHeartbeats 16000000 in
theorem lt_r2_wp {Q : Exit → Act → World → Prop} {gi gf ge : Nat} {w : World} {A0 B0 : Option Addr} {n0 c0 m0 d0 : Nat} (g0 : w.cell? ⟨0, 0, none⟩ = some (.int .i64 0)) (g1 : w.cell? ⟨0, 1, none⟩ = some (.int .i64 0)) (hgf : w.heap[gf]? = some (.cells #[.int .i64 fvNot.fm.lab.kind, .string fvNot.fm.lab.nm, .slice A0 n0 c0, .slice B0 m0 d0] 34 (0, 0))) (hge : w.heap[ge]? = some (.cells #[.int .i64 0, .int .i64 0] 27 (0, 0))) (hN : ∀ a', Frm 42 [(1, .pointer (some ⟨gi, 0, none⟩)), (20, .bool false)] a' → Q .normal a' w) : ∀ ac, Frm 42 [(1, .pointer (some ⟨gi, 0, none⟩)), (3, .pointer (some ⟨gf, 0, none⟩)), (4, .pointer (some ⟨ge, 0, none⟩))] ac → Code.wp Tryd.prog c_lt_r2 Q ac w := by
  refine frm_open ?_
  refine frame_lt ?_
  intros
  rename_i hq
  obtain ⟨-, -, e0q, e1q, e2q, -⟩ := hq
  have e0q := (Option.some.inj e0q).symm; subst e0q
  have e1q := (Option.some.inj e1q).symm; subst e1q
  have e2q := (Option.some.inj e2q).symm; subst e2q
  conv => arg 2; whnf
  have e0 := cellv hge 0 rfl
  have e1 := cellv hge 1 rfl
  have f0 : w.cell? ⟨gf, 0, none⟩ = some (.int .i64 4) := cellv hgf 0 rfl
  have lf := lt_heap hgf
  have le := lt_heap hge
  have lg := World.block_lt_of_cell? w _ g0
  clear hge hgf
  have HN := Lib.hid hN
  clear hN
  go_wp2_with fail
  exact HN.out _ (id ⟨rfl, rfl, rfl, rfl, trivial⟩)
noncomputable def c_lt_r4 : Code := sub [1, 1, 0] (Tryd.f5.body.getD .skip)
set_option maxRecDepth 1000000 in
set_option maxHeartbeats 16000000 in
theorem lt_r4_wp {Q : Exit → Act → World → Prop} {gi : Nat} {w : World} {t : Fm} {At Bt : Option Addr} {nt ct mt dt : Nat} (hgi : w.heap[gi]? = some (.cells #[.int .i64 t.lab.kind, .string t.lab.nm, .slice At nt ct, .slice Bt mt dt] 34 (0, 0))) {PP : ByteArray → Nat → Nat → Prop} (hc : Calls Tryd.prog 13 #[.agg #[.int .i64 t.lab.kind, .string t.lab.nm, .slice At nt ct, .slice Bt mt dt]] w fun e w' => (∃ (x : ByteArray) (c j : Nat), e = .returned (.tuple #[.string x, .agg #[.int .i64 (c : Nat), .int .i64 (j : Nat)]]) ∧ PP x c j) ∧ Below w.heap.size w w') (hN : ∀ (x : ByteArray) (c j : Nat) g6 a' w', Frm 42 [(1, .pointer (some ⟨gi, 0, none⟩)), (5, .string x), (6, .pointer (some ⟨g6, 0, none⟩))] a' → PP x c j → w'.heap[g6]? = some (.cells #[.int .i64 (c : Nat), .int .i64 (j : Nat)] 27 (0, 0)) → w.heap.size ≤ g6 → Below w.heap.size w w' → Q .normal a' w') : ∀ ac, Frm 42 [(1, .pointer (some ⟨gi, 0, none⟩))] ac → Code.wp Tryd.prog c_lt_r4 Q ac w := by
  refine frm_open ?_
  refine frame_lt ?_
  intros
  rename_i hq
  obtain ⟨-, -, e0q, -⟩ := hq
  have e0q := (Option.some.inj e0q).symm; subst e0q
  conv => arg 2; whnf
  have i0 := cellv hgi 0 rfl
  have i1 := cellv hgi 1 rfl
  have i2 := cellv hgi 2 rfl
  have i3 := cellv hgi 3 rfl
  have il := lt_heap hgi
  clear hgi
  have HN := Lib.hid hN
  have HC := Lib.hid hc
  clear hN hc
  go_wp2_with fail
  (with_reducible refine HC.out.mono ?_)
  rintro e w1 ⟨⟨x, c, j, rfl, hp⟩, hb1⟩
  have HP := Lib.hid hp
  have HB1 := Lib.hid hb1
  clear hb1 hp
  go_wp2_with fail
  have hz := HB1.out.size
  exact HN.out x c j w1.heap.size _ _ (id ⟨rfl, rfl, rfl, rfl, rfl, trivial⟩) HP.out (heap_at rfl) (by omega) (HB1.out.alloc hz _)
noncomputable def c_lt_r5 : Code := sub [1, 1, 1, 0, 0] (Tryd.f5.body.getD .skip)
set_option maxRecDepth 1000000 in
set_option maxHeartbeats 16000000 in
theorem lt_r5_wp {Q : Exit → Act → World → Prop} {gi g6 : Nat} {x : ByteArray} {w : World} (g0 : w.cell? ⟨0, 0, none⟩ = some (.int .i64 0)) (g1 : w.cell? ⟨0, 1, none⟩ = some (.int .i64 0)) (hge : w.heap[g6]? = some (.cells #[.int .i64 0, .int .i64 0] 27 (0, 0))) (hN : ∀ a', Frm 42 [(1, .pointer (some ⟨gi, 0, none⟩)), (5, .string x), (6, .pointer (some ⟨g6, 0, none⟩)), (28, .bool false)] a' → Q .normal a' w) : ∀ ac, Frm 42 [(1, .pointer (some ⟨gi, 0, none⟩)), (5, .string x), (6, .pointer (some ⟨g6, 0, none⟩))] ac → Code.wp Tryd.prog c_lt_r5 Q ac w := by
  refine frm_open ?_
  refine frame_lt ?_
  intros
  rename_i hq
  obtain ⟨-, -, e0q, e1q, e2q, -⟩ := hq
  have e0q := (Option.some.inj e0q).symm; subst e0q
  have e1q := (Option.some.inj e1q).symm; subst e1q
  have e2q := (Option.some.inj e2q).symm; subst e2q
  conv => arg 2; whnf
  have e0 := cellv hge 0 rfl
  have e1 := cellv hge 1 rfl
  have le := lt_heap hge
  have lg := World.block_lt_of_cell? w _ g0
  clear hge
  have HN := Lib.hid hN
  clear hN
  go_wp2_with fail
  exact HN.out _ (id ⟨rfl, rfl, rfl, rfl, rfl, rfl, trivial⟩)
noncomputable def c_lt_r5c : Code := sub [1, 1, 1, 0, 0] (Tryd.f5.body.getD .skip)
set_option maxRecDepth 1000000 in
set_option maxHeartbeats 16000000 in
theorem lt_r5c_wp {Q : Exit → Act → World → Prop} {gi g6 c j : Nat} {x : ByteArray} {w : World} (g0 : w.cell? ⟨0, 0, none⟩ = some (.int .i64 0)) (g1 : w.cell? ⟨0, 1, none⟩ = some (.int .i64 0)) (hcz : c ≠ 0) (hge : w.heap[g6]? = some (.cells #[.int .i64 (c : Nat), .int .i64 (j : Nat)] 27 (0, 0))) (hN : ∀ a', Frm 42 [(1, .pointer (some ⟨gi, 0, none⟩)), (5, .string x), (6, .pointer (some ⟨g6, 0, none⟩)), (28, .bool true)] a' → Q .normal a' w) : ∀ ac, Frm 42 [(1, .pointer (some ⟨gi, 0, none⟩)), (5, .string x), (6, .pointer (some ⟨g6, 0, none⟩))] ac → Code.wp Tryd.prog c_lt_r5c Q ac w := by
  refine frm_open ?_
  refine frame_lt ?_
  intros
  rename_i hq
  obtain ⟨-, -, e0q, e1q, e2q, -⟩ := hq
  have e0q := (Option.some.inj e0q).symm; subst e0q
  have e1q := (Option.some.inj e1q).symm; subst e1q
  have e2q := (Option.some.inj e2q).symm; subst e2q
  conv => arg 2; whnf
  have e0 := cellv hge 0 rfl
  have e1 := cellv hge 1 rfl
  have le := lt_heap hge
  have lg := World.block_lt_of_cell? w _ g0
  clear hge
  have t1 : ((c : Int) == 0) = false := beq_eq_false_iff_ne.2 (by omega)
  have HN := Lib.hid hN
  clear hN
  go_wp2_with fail
  exact HN.out _ (id ⟨rfl, rfl, rfl, rfl, rfl, rfl, trivial⟩)
noncomputable def c_lt_r6 : Code := sub [1, 1, 1, 0, 1, 0, 0] (Tryd.f5.body.getD .skip)
set_option maxRecDepth 1000000 in
set_option maxHeartbeats 16000000 in
theorem lt_r6_wp {Q : Exit → Act → World → Prop} {gi : Nat} {w : World} (hN : ∀ a', Frm 42 [(2, .bool true)] a' → Q .normal a' w) : ∀ ac, Frm 42 [(1, .pointer (some ⟨gi, 0, none⟩))] ac → Code.wp Tryd.prog c_lt_r6 Q ac w := by
  refine frm_open ?_
  refine frame_lt ?_
  intros
  rename_i hq
  obtain ⟨-, -, e0q, -⟩ := hq
  have e0q := (Option.some.inj e0q).symm; subst e0q
  conv => arg 2; whnf
  have HN := Lib.hid hN
  clear hN
  go_wp2_with fail
  exact HN.out _ (id ⟨rfl, rfl, rfl, trivial⟩)
noncomputable def c_lt_r7 : Code := sub [1, 1, 1, 1, 0] (Tryd.f5.body.getD .skip)
set_option maxRecDepth 1000000 in
set_option maxHeartbeats 16000000 in
theorem lt_r7_wp {Q : Exit → Act → World → Prop} {t : Fm} {gi g6 : Nat} {x : ByteArray} {w : World} (hc : Calls Tryd.prog 9 #[.string x] w fun e w' => ∃ es : List Value, e = .returned (.tuple #[.agg es.toArray, .agg #[.int .i64 0, .int .i64 0]]) ∧ fmRep.R w' (Fresh2 w w') t es ∧ Below w.heap.size w w') (hN : ∀ A0 n0 c0 B0 m0 d0 gf ge a' w', Frm 42 [(1, .pointer (some ⟨gi, 0, none⟩)), (7, .pointer (some ⟨gf, 0, none⟩)), (8, .pointer (some ⟨ge, 0, none⟩))] a' → w'.heap[gf]? = some (.cells #[.int .i64 t.lab.kind, .string t.lab.nm, .slice A0 n0 c0, .slice B0 m0 d0] 34 (0, 0)) → w'.heap[ge]? = some (.cells #[.int .i64 0, .int .i64 0] 27 (0, 0)) → fmRep.R w' (Lo w') t [.int .i64 t.lab.kind, .string t.lab.nm, .slice A0 n0 c0, .slice B0 m0 d0] → Below w.heap.size w w' → Q .normal a' w') : ∀ ac, Frm 42 [(1, .pointer (some ⟨gi, 0, none⟩)), (5, .string x), (6, .pointer (some ⟨g6, 0, none⟩))] ac → Code.wp Tryd.prog c_lt_r7 Q ac w := by
  refine frm_open ?_
  refine frame_lt ?_
  intros
  rename_i hq
  obtain ⟨-, -, e0q, e1q, e2q, -⟩ := hq
  have e0q := (Option.some.inj e0q).symm; subst e0q
  have e1q := (Option.some.inj e1q).symm; subst e1q
  have e2q := (Option.some.inj e2q).symm; subst e2q
  conv => arg 2; whnf
  have HN := Lib.hid hN
  have HC := Lib.hid hc
  clear hN hc
  go_wp2_with fail
  (with_reducible refine HC.out.mono ?_)
  rintro e w1 ⟨es, rfl, h1, hb1⟩
  obtain ⟨A0, n0, c0, B0, m0, d0, rfl, _, _, _, _⟩ := Fm.shape h1
  have H1 := Lib.hid h1
  have HB1 := Lib.hid hb1
  clear h1 hb1
  go_wp2_with fail
  have hz := HB1.out.size
  have hba := (HB1.out.alloc (by omega) (.cells #[.int .i64 t.lab.kind, .string t.lab.nm, .slice A0 n0 c0, .slice B0 m0 d0] 34)).alloc (by simp; omega) (.cells #[.int .i64 0, .int .i64 0] 27)
  refine HN.out A0 n0 c0 B0 m0 d0 w1.heap.size (w1.heap.size + 1) _ _ (id ⟨rfl, rfl, rfl, rfl, rfl, trivial⟩) (heap_old (by simp) (heap_at rfl)) (heap_at (by simp)) (fmRep.keep H1.out (fun b hb => heap_old (by have := hb.2; simp; omega) (heap_old hb.2 rfl)) (fun b hb => by have := hb.2; show b < _; simp; omega)) (by go_grown)
noncomputable def c_lt_r8 : Code := sub [1, 1, 1, 1, 1, 0] (Tryd.f5.body.getD .skip)
set_option maxRecDepth 1000000 in
set_option maxHeartbeats 16000000 in
theorem lt_r8_wp {Q : Exit → Act → World → Prop} {gi gf ge : Nat} {w : World} {t : Fm} {At Bt : Option Addr} {nt ct mt dt : Nat} {A0 B0 : Option Addr} {n0 c0 m0 d0 : Nat} (g0 : w.cell? ⟨0, 0, none⟩ = some (.int .i64 0)) (g1 : w.cell? ⟨0, 1, none⟩ = some (.int .i64 0)) (hgi : w.heap[gi]? = some (.cells #[.int .i64 t.lab.kind, .string t.lab.nm, .slice At nt ct, .slice Bt mt dt] 34 (0, 0))) (hgf : w.heap[gf]? = some (.cells #[.int .i64 t.lab.kind, .string t.lab.nm, .slice A0 n0 c0, .slice B0 m0 d0] 34 (0, 0))) (hge : w.heap[ge]? = some (.cells #[.int .i64 0, .int .i64 0] 27 (0, 0))) (hrt : fmRep.R w (Lo w) t [.int .i64 t.lab.kind, .string t.lab.nm, .slice At nt ct, .slice Bt mt dt]) (hrf : fmRep.R w (Lo w) t [.int .i64 t.lab.kind, .string t.lab.nm, .slice A0 n0 c0, .slice B0 m0 d0]) (hN : ∀ a' w', Frm 42 [(2, .bool true)] a' → Below w.heap.size w w' → Q .normal a' w') : ∀ ac, Frm 42 [(1, .pointer (some ⟨gi, 0, none⟩)), (7, .pointer (some ⟨gf, 0, none⟩)), (8, .pointer (some ⟨ge, 0, none⟩))] ac → Code.wp Tryd.prog c_lt_r8 Q ac w := by
  refine frm_open ?_
  refine frame_lt ?_
  intros
  rename_i hq
  obtain ⟨-, -, e0q, e1q, e2q, -⟩ := hq
  have e0q := (Option.some.inj e0q).symm; subst e0q
  have e1q := (Option.some.inj e1q).symm; subst e1q
  have e2q := (Option.some.inj e2q).symm; subst e2q
  conv => arg 2; whnf
  have hq := eqFm_self t.nodes t [.int .i64 t.lab.kind, .string t.lab.nm, .slice At nt ct, .slice Bt mt dt] [.int .i64 t.lab.kind, .string t.lab.nm, .slice A0 n0 c0, .slice B0 m0 d0] w (Lo w) (Nat.le_refl _) hrt hrf (fun _ h => h)
  have e0 := cellv hge 0 rfl
  have e1 := cellv hge 1 rfl
  have b0 := cellv hgi 0 rfl
  have b1 := cellv hgi 1 rfl
  have b2 := cellv hgi 2 rfl
  have b3 := cellv hgi 3 rfl
  have c0' := cellv hgf 0 rfl
  have c1' := cellv hgf 1 rfl
  have c2' := cellv hgf 2 rfl
  have c3' := cellv hgf 3 rfl
  have l5 := lt_heap hgi
  have l6 := lt_heap hge
  have l7 := lt_heap hgf
  have lg := World.block_lt_of_cell? w _ g0
  clear hgi hge hgf hrt hrf
  have HN := Lib.hid hN
  have HQ := Lib.hid hq
  clear hN hq
  go_wp2_with fail
  (with_reducible refine HQ.out.mono ?_)
  rintro e w1 ⟨rfl, hb1⟩
  have HB1 := Lib.hid hb1
  clear hb1
  go_wp2_with fail
  exact HN.out _ _ (id ⟨rfl, rfl, rfl, trivial⟩) HB1.out
set_option maxRecDepth 1000000 in
theorem lt_ret_wp {R : Ending → World → Prop} {w' : World} (hR : R (.returned (.bool true)) w') : ∀ ac, Frm 42 [(2, .bool true)] ac → bodyPost Tryd.prog Tryd.f5 R .ret ac w' := by
  refine frm_open ?_
  refine frame_lt ?_
  intros
  rename_i hq
  obtain ⟨-, -, e0q, -⟩ := hq
  have e0q := (Option.some.inj e0q).symm; subst e0q
  refine bodyPost_ret (v := .bool true) (by simp [results, Tryd.results5, go_sem]) rfl ?_
  exact hR
set_option maxRecDepth 100000 in
set_option maxHeartbeats 4000000 in
theorem fTextsLaw_any (t : Fm) (cs : List Value) (w : World) (S : Nat → Prop) (ht : fmRepC.R w S t cs) (hS : ∀ b, S b → b < w.heap.size) (g0 : w.cell? ⟨0, 0, none⟩ = some (.int .i64 0)) (g1 : w.cell? ⟨0, 1, none⟩ = some (.int .i64 0)) : Calls Tryd.prog 5 #[.agg cs.toArray] w fun e w' => e = .returned (.bool true) ∧ Below w.heap.size w w' := by
  obtain ⟨At, nt, ct, Bt, mt, dt, rfl, _, _, _, _⟩ := Fm.shape (Fm.ofC ht)
  go_enter Tryd.func5, Tryd.ntmps5
  have lg := World.block_lt_of_cell? w _ g0
  have hret : ∀ a' w', Frm 42 [(2, .bool true)] a' → Below w.heap.size w w' → bodyPost Tryd.prog Tryd.f5 (fun e w' => e = .returned (.bool true) ∧ Below w.heap.size w w') .ret a' w' := fun a' w' h hb => lt_ret_wp ⟨rfl, hb⟩ a' h
  refine wp_seq ?_
  refine lt_r0_wp (fun a0 w0 h0 hgi hz0 hb0 => ?_) _ (id ⟨rfl, rfl, rfl, trivial⟩)
  refine wp_seq ?_
  refine wp_seq ?_
  refine lt_r1_wp (fun A0 n0 c0 B0 m0 d0 gf ge a1 w1 h1 hgf hge _ _ hne hrp hb1 => ?_) a0 h0
  have hb01 := hb0.trans (hb1.mono hb0.size)
  have gg := fun (W : World) (hb : Below w.heap.size w W) => And.intro ((hb.cell (p := ⟨0, 0, none⟩) lg).trans g0) ((hb.cell (p := ⟨0, 1, none⟩) lg).trans g1)
  refine wp_seq ?_
  refine lt_r2_wp (gg _ hb01).1 (gg _ hb01).2 hgf hge (fun a2 h2 => ?_) a1 h1
  refine wp_cond_false ((h2.eval (k := 20) (v := .bool false) (by simp)).trans rfl) ?_
  refine wp_skip ?_
  show Code.wp _ _ _ a2 w1
  have hold := fun (W : World) (hb : Below w.heap.size w W) => fmRepC.keep (w' := W) (S' := S) ht (fun b hbS => hb.block b (hS b hbS)) (fun _ h => h)
  have hgi1 := (hb1.block _ hz0).trans hgi
  have hpr : Calls Tryd.prog 13 #[.agg #[.int .i64 t.lab.kind, .string t.lab.nm, .slice At nt ct, .slice Bt mt dt]] w1 fun e w' => (∃ (x : ByteArray) (c j : Nat), e = .returned (.tuple #[.string x, .agg #[.int .i64 (c : Nat), .int .i64 (j : Nat)]]) ∧ (c ≠ 0 ∨ (c = 0 ∧ j = 0 ∧ x.size ≤ maxLen ∧ fpC x = (0, 0) ∧ fpF x = t))) ∧ Below w1.heap.size w1 w' := by
    refine (printFm_any t _ w1 S (hold w1 hb01) (fun b hb => Nat.lt_of_lt_of_le (hS b hb) hb01.size)).mono ?_
    rintro e w' ⟨hpa, hb⟩
    refine ⟨?_, hb⟩
    by_cases hf : (fmFault t).1 = 0
    · obtain ⟨v, rfl, ov, nv, dv, _⟩ := fmFault_zero hf
      obtain ⟨h1, h2⟩ := hpa.2 v rfl ov hf
      by_cases hl : 4000 < v.text.length
      · exact ⟨_, 1, 0, h1 hl, Or.inl (by decide)⟩
      · obtain ⟨e1, e2⟩ := fp_text ov nv dv (by omega)
        exact ⟨_, 0, 0, h2 (by omega), Or.inr ⟨rfl, rfl, by unfold maxLen; simp [ByteArray.size]; omega, e1, e2⟩⟩
    · exact ⟨_, _, _, hpa.1 hf, Or.inl hf⟩
  refine wp_seq ?_
  refine lt_r4_wp hgi1 hpr (fun x c j g6 a3 w3 h3 hpp hg6 _ hb3 => ?_) a2 ⟨h2.1, h2.2.1, h2.2.2.1, trivial⟩
  have hb03 := hb01.trans (hb3.mono hb01.size)
  have hgi3 := (hb3.block _ (lt_heap hgi1)).trans hgi1
  refine wp_seq ?_
  refine wp_seq ?_
  rcases hpp with hc | ⟨rfl, rfl, hxm, hpc, hpf⟩
  · refine lt_r5c_wp (gg _ hb03).1 (gg _ hb03).2 hc hg6 (fun a4 h4 => ?_) a3 h3
    refine wp_cond_true ((h4.eval (k := 28) (v := .bool true) (by simp)).trans rfl) ?_
    refine wp_seq ?_
    refine lt_r6_wp (fun a5 h5 => ?_) a4 ⟨h4.1, h4.2.1, h4.2.2.1, trivial⟩
    refine wp_ret ?_
    exact hret a5 _ h5 hb03
  · refine lt_r5_wp (gg _ hb03).1 (gg _ hb03).2 hg6 (fun a4 h4 => ?_) a3 h3
    refine wp_cond_false ((h4.eval (k := 28) (v := .bool false) (by simp)).trans rfl) ?_
    refine wp_skip ?_
    show Code.wp _ _ _ a4 w3
    have hpa := fparse_any x w3 hxm
    unfold FParseAt at hpa
    rw [hpc, hpf] at hpa
    refine wp_seq ?_
    refine lt_r7_wp hpa (fun A1 n1 c1 B1 m1 d1 gf2 ge2 a5 w5 h5 hgf2 hge2 hr2 hb5 => ?_) a4 ⟨h4.1, h4.2.1, h4.2.2.1, h4.2.2.2.1, h4.2.2.2.2.1, trivial⟩
    have hb05 := hb03.trans (hb5.mono hb03.size)
    refine wp_seq ?_
    refine lt_r8_wp (gg _ hb05).1 (gg _ hb05).2 ((hb5.block _ (lt_heap hgi3)).trans hgi3) hgf2 hge2 (fmRep.keep (Fm.ofC (hold w5 hb05)) (fun _ _ => rfl) (fun b hb => Nat.lt_of_lt_of_le (hS b hb) hb05.size)) hr2 (fun a6 w6 h6 hb6 => ?_) a5 h5
    refine wp_ret ?_
    exact hret a6 _ h6 (hb05.trans (hb6.mono hb05.size))

end Go.Proofs.YtnoceodmnjhljabDoor
