/-
  The law FolformReadMatchesSpec: the walk, by parts.
-/
import Derived.Test.YtnoceodmnjhljabDoorFParse
import Derived.Test.YtnoceodmnjhljabDoorFRead
import Derived.Test.YtnoceodmnjhljabDoorEqFm
import Derived.Test.YtnoceodmnjhljabDoorFmMake
namespace Go.Proofs.YtnoceodmnjhljabDoor
open Go Go.RowKit
set_option linter.unusedSimpArgs false
set_option linter.unusedVariables false

set_option maxRecDepth 1000000 in
theorem frame_lr {P : Act → Prop} (h : ∀ x0 x1 x2 x3 x4 x5 x6 x7 x8 x9 x10 x11 x12 x13 x14 x15 x16 x17 x18 x19 x20 x21 x22 x23 x24 x25 x26 x27 x28 x29 x30 x31 x32 x33 x34 x35 x36 x37 x38 x39 x40 : Value, P ⟨(x0 :: x1 :: x2 :: x3 :: x4 :: x5 :: x6 :: x7 :: x8 :: x9 :: x10 :: x11 :: x12 :: x13 :: x14 :: x15 :: x16 :: x17 :: x18 :: x19 :: x20 :: x21 :: x22 :: x23 :: x24 :: x25 :: x26 :: x27 :: x28 :: x29 :: x30 :: x31 :: x32 :: x33 :: x34 :: x35 :: x36 :: x37 :: x38 :: x39 :: x40 :: []).toArray, []⟩) : ∀ a : Act, a.tmps.toList.length = 41 → a.defers = [] → P a := by
  rintro ⟨⟨l⟩, d⟩ hs hd
  simp only at hd
  subst hd
  revert l
  show ∀ l : List Value, l.length = 41 → P ⟨⟨l⟩, []⟩
  refine openS (n := 40) (fun x0 => ?_)
  refine openS (n := 39) (fun x1 => ?_)
  refine openS (n := 38) (fun x2 => ?_)
  refine openS (n := 37) (fun x3 => ?_)
  refine openS (n := 36) (fun x4 => ?_)
  refine openS (n := 35) (fun x5 => ?_)
  refine openS (n := 34) (fun x6 => ?_)
  refine openS (n := 33) (fun x7 => ?_)
  refine openS (n := 32) (fun x8 => ?_)
  refine openS (n := 31) (fun x9 => ?_)
  refine openS (n := 30) (fun x10 => ?_)
  refine openS (n := 29) (fun x11 => ?_)
  refine openS (n := 28) (fun x12 => ?_)
  refine openS (n := 27) (fun x13 => ?_)
  refine openS (n := 26) (fun x14 => ?_)
  refine openS (n := 25) (fun x15 => ?_)
  refine openS (n := 24) (fun x16 => ?_)
  refine openS (n := 23) (fun x17 => ?_)
  refine openS (n := 22) (fun x18 => ?_)
  refine openS (n := 21) (fun x19 => ?_)
  refine openS (n := 20) (fun x20 => ?_)
  refine openS (n := 19) (fun x21 => ?_)
  refine openS (n := 18) (fun x22 => ?_)
  refine openS (n := 17) (fun x23 => ?_)
  refine openS (n := 16) (fun x24 => ?_)
  refine openS (n := 15) (fun x25 => ?_)
  refine openS (n := 14) (fun x26 => ?_)
  refine openS (n := 13) (fun x27 => ?_)
  refine openS (n := 12) (fun x28 => ?_)
  refine openS (n := 11) (fun x29 => ?_)
  refine openS (n := 10) (fun x30 => ?_)
  refine openS (n := 9) (fun x31 => ?_)
  refine openS (n := 8) (fun x32 => ?_)
  refine openS (n := 7) (fun x33 => ?_)
  refine openS (n := 6) (fun x34 => ?_)
  refine openS (n := 5) (fun x35 => ?_)
  refine openS (n := 4) (fun x36 => ?_)
  refine openS (n := 3) (fun x37 => ?_)
  refine openS (n := 2) (fun x38 => ?_)
  refine openS (n := 1) (fun x39 => ?_)
  refine openS (n := 0) (fun x40 => ?_)
  refine open0 ?_
  exact h x0 x1 x2 x3 x4 x5 x6 x7 x8 x9 x10 x11 x12 x13 x14 x15 x16 x17 x18 x19 x20 x21 x22 x23 x24 x25 x26 x27 x28 x29 x30 x31 x32 x33 x34 x35 x36 x37 x38 x39 x40
theorem kimP_any (w : World) : Calls Tryd.prog 9 #[.string ⟨#[100, 111, 103, 40, 107, 105, 109, 41]⟩] w fun e w' => ∃ es : List Value, e = .returned (.tuple #[.agg es.toArray, .agg #[.int .i64 0, .int .i64 0]]) ∧ fmRep.R w' (Fresh2 w w') fvKim.fm es ∧ Below w.heap.size w w' := by
  refine (fparse_any ⟨#[100, 111, 103, 40, 107, 105, 109, 41]⟩ w (by decide +kernel)).mono ?_
  unfold FParseAt
  rw [fp_kim.1, fp_kim.2]
  rintro e w' ⟨es, rfl, h1, h2⟩
  exact ⟨es, rfl, h1, h2⟩
theorem slS1 {w : World} {S : Nat → Prop} {g : Nat} {a : ByteArray} {T : TypeId} (hb : w.heap[g]? = some (.cells #[.string a] T (0, 0))) (h1 : a.size ≤ maxLen) (hg : S g) : strRep.Sl w S (.slice (some ⟨g, 0, none⟩) 1 1) [a] := by
  refine ⟨_, _, _, rfl, rfl, by decide, fun _ => ⟨g, 0, [.string a], rfl, hg, Rep.All.single ⟨rfl, h1⟩, fun j u hj => ?_⟩⟩
  rw [Nat.zero_add]
  match j, hj with
  | 0, hj => exact (cellv hb 0 rfl).trans (by simpa using hj)
  | n + 1, hj => simp at hj
noncomputable def c_lr_r0 : Code := sub [0] (Tryd.f4.body.getD .skip)
set_option maxRecDepth 1000000 in
set_option maxHeartbeats 16000000 in
theorem lr_r0_wp {Q : Exit → Act → World → Prop} {x : ByteArray} {w : World} (hN : ∀ a', Frm 41 [(0, .string x)] a' → Q .normal a' w) : ∀ ac, Frm 41 [(0, .string x)] ac → Code.wp Tryd.prog c_lr_r0 Q ac w := by
  refine frm_open ?_
  refine frame_lr ?_
  intros
  rename_i hq
  obtain ⟨-, -, e0q, -⟩ := hq
  have e0q := (Option.some.inj e0q).symm; subst e0q
  conv => arg 2; whnf
  have HN := Lib.hid hN
  clear hN
  go_wp2_with fail
  exact HN.out _ (id ⟨rfl, rfl, rfl, trivial⟩)
noncomputable def c_lr_r1 : Code := sub [1, 0, 0] (Tryd.f4.body.getD .skip)
set_option maxRecDepth 1000000 in
set_option maxHeartbeats 16000000 in
theorem lr_r1_wp {Q : Exit → Act → World → Prop} {x : ByteArray} {w : World} (hN : ∀ A0 n0 c0 B0 m0 d0 gf ge a' w', Frm 41 [(0, .string x), (3, .pointer (some ⟨gf, 0, none⟩)), (4, .pointer (some ⟨ge, 0, none⟩))] a' → w'.heap[gf]? = some (.cells #[.int .i64 fvKim.fm.lab.kind, .string fvKim.fm.lab.nm, .slice A0 n0 c0, .slice B0 m0 d0] 34 (0, 0)) → w'.heap[ge]? = some (.cells #[.int .i64 0, .int .i64 0] 27 (0, 0)) → w.heap.size ≤ gf → w.heap.size ≤ ge → gf ≠ ge → fmRep.R w' (Lo w') fvKim.fm [.int .i64 fvKim.fm.lab.kind, .string fvKim.fm.lab.nm, .slice A0 n0 c0, .slice B0 m0 d0] → Below w.heap.size w w' → Q .normal a' w') : ∀ ac, Frm 41 [(0, .string x)] ac → Code.wp Tryd.prog c_lr_r1 Q ac w := by
  refine frm_open ?_
  refine frame_lr ?_
  intros
  rename_i hq
  obtain ⟨-, -, e0q, -⟩ := hq
  have e0q := (Option.some.inj e0q).symm; subst e0q
  conv => arg 2; whnf
  have hc := kimP_any w
  have HN := Lib.hid hN
  have HC := Lib.hid hc
  clear hN hc
  go_wp2_with fail
  (with_reducible refine HC.out.mono ?_)
  rintro e w1 ⟨es, rfl, h1, hb1⟩
  obtain ⟨A0, n0, c0, B0, m0, d0, rfl, _, _, _, _⟩ := Fm.shape h1
  have H1 := Lib.hid h1
  have HB1 := Lib.hid hb1
  clear h1 hb1
  go_wp2_with fail
  have hz := HB1.out.size
  have hba := (HB1.out.alloc (by omega) (.cells #[.int .i64 fvKim.fm.lab.kind, .string fvKim.fm.lab.nm, .slice A0 n0 c0, .slice B0 m0 d0] 34)).alloc (by simp; omega) (.cells #[.int .i64 0, .int .i64 0] 27)
  refine HN.out A0 n0 c0 B0 m0 d0 w1.heap.size (w1.heap.size + 1) _ _ (id ⟨rfl, rfl, rfl, rfl, rfl, trivial⟩) (heap_old (by simp) (heap_at rfl)) (heap_at (by simp)) (by omega) (by omega) (by omega) (fmRep.keep H1.out (fun b hb => heap_old (by have := hb.2; simp; omega) (heap_old hb.2 rfl)) (fun b hb => by have := hb.2; show b < _; simp; omega)) (by go_grown)
noncomputable def c_lr_r2 : Code := sub [1, 0, 1, 0] (Tryd.f4.body.getD .skip)
set_option maxRecDepth 1000000 in
set_option maxHeartbeats 16000000 in
theorem lr_r2_wp {K : Act → World → Prop} {x : ByteArray} {gf ge : Nat} {w : World} {A0 B0 : Option Addr} {n0 c0 m0 d0 : Nat} (g0 : w.cell? ⟨0, 0, none⟩ = some (.int .i64 0)) (g1 : w.cell? ⟨0, 1, none⟩ = some (.int .i64 0)) (hgf : w.heap[gf]? = some (.cells #[.int .i64 fvKim.fm.lab.kind, .string fvKim.fm.lab.nm, .slice A0 n0 c0, .slice B0 m0 d0] 34 (0, 0))) (hge : w.heap[ge]? = some (.cells #[.int .i64 0, .int .i64 0] 27 (0, 0))) (hrp : fmRep.R w (Lo w) fvKim.fm [.int .i64 fvKim.fm.lab.kind, .string fvKim.fm.lab.nm, .slice A0 n0 c0, .slice B0 m0 d0]) (hN : ∀ a' w', Frm 41 [(0, .string x), (3, .pointer (some ⟨gf, 0, none⟩)), (4, .pointer (some ⟨ge, 0, none⟩)), (22, .bool false)] a' → Below w.heap.size w w' → K a' w') : ∀ ac, Frm 41 [(0, .string x), (3, .pointer (some ⟨gf, 0, none⟩)), (4, .pointer (some ⟨ge, 0, none⟩))] ac → Code.wp Tryd.prog c_lr_r2 (Exit.then K (fun _ _ _ => False)) ac w := by
  refine frm_open ?_
  refine frame_lr ?_
  intros
  rename_i hq
  obtain ⟨-, -, e0q, e1q, e2q, -⟩ := hq
  have e0q := (Option.some.inj e0q).symm; subst e0q
  have e1q := (Option.some.inj e1q).symm; subst e1q
  have e2q := (Option.some.inj e2q).symm; subst e2q
  conv => arg 2; whnf
  have e0 := cellv hge 0 rfl
  have e1 := cellv hge 1 rfl
  have f0 : w.cell? ⟨gf, 0, none⟩ = some (.int .i64 2) := cellv hgf 0 rfl
  have f1 : w.cell? ⟨gf, 1, none⟩ = some (.string bDog) := cellv hgf 1 rfl
  have f2 := cellv hgf 2 rfl
  have f3 := cellv hgf 3 rfl
  have lf := lt_heap hgf
  have le := lt_heap hge
  have lg := World.block_lt_of_cell? w _ g0
  have lf1 : gf < w.heap.size + 1 := by omega
  have HRP := Lib.hid hrp
  clear hrp hge hgf
  have HN := Lib.hid hN
  clear hN
  go_region_held3 (fun w' => w'.cell? ⟨ge, 0, none⟩ = some (.int .i64 0) ∧ w'.cell? ⟨ge, 1, none⟩ = some (.int .i64 0) ∧ w'.cell? ⟨0, 0, none⟩ = some (.int .i64 0) ∧ w'.cell? ⟨0, 1, none⟩ = some (.int .i64 0) ∧ w'.cell? ⟨gf, 0, none⟩ = some (.int .i64 2) ∧ w'.cell? ⟨gf, 1, none⟩ = some (.string bDog) ∧ w'.cell? ⟨gf, 2, none⟩ = some (.slice A0 n0 c0) ∧ w'.cell? ⟨gf, 3, none⟩ = some (.slice B0 m0 d0))
    ((first | (go_keep; done) | (go_split_ands; (repeat' apply And.intro) <;> (refine (kc5 _ _ (by omega)).trans ?_; assumption)) | (go_split_ands; (repeat' apply And.intro) <;> (refine (kc4 _ _ (by omega)).trans ?_; assumption))))
    (first
      | ((with_reducible refine (pred_any _ _ _ ⟨_, _, _, rfl⟩).mono ?_); rintro e w4 ⟨rfl, hw4⟩; have kc4 : ∀ k q, k < w.heap.size + 1 → w4.cell? ⟨k, q, none⟩ = _ := (fun k q h => hw4.cell (p := ⟨k, q, none⟩) (by simp; omega)); have z4 : w.heap.size + 1 ≤ w4.heap.size := (by have := hw4.size; simpa using this); have HW4 := Lib.hid hw4; have hsl : strRep.Sl w4 (Lo w4) (.slice (some ⟨w.heap.size, 0, none⟩) 1 1) [bKim] := slS1 ((hw4.block w.heap.size (by simp)).trans (by first | exact heap_drew (heap_at rfl) | exact heap_at rfl)) (by decide +kernel) (show _ < _ by omega); have HSL := Lib.hid hsl; clear hw4 hsl)
      | (have hq : Calls Tryd.prog 10 #[.agg #[.int .i64 2, .string bDog, .slice A0 n0 c0, .slice B0 m0 d0], .agg #[.int .i64 2, .string ⟨#[100, 111, 103]⟩, .slice (some ⟨w.heap.size, 0, none⟩) 1 1, .slice none 0 0]] w4 _ := eqFm_self _ fvKim.fm [.int .i64 fvKim.fm.lab.kind, .string fvKim.fm.lab.nm, .slice A0 n0 c0, .slice B0 m0 d0] [.int .i64 2, .string bDog, .slice (some ⟨w.heap.size, 0, none⟩) 1 1, .slice none 0 0] w4 (Lo w4) (Nat.le_refl _) (fmRep.keep HRP.out (fun k hk => by have h' : k < w.heap.size := hk; exact (HW4.out.block k (by first | (simp; done) | (simp; omega))).trans (by first | exact heap_drew (heap_old h' rfl) | exact heap_old h' rfl)) (fun k hk => by have h' : k < w.heap.size := hk; exact (show k < w4.heap.size by omega))) (Fm.shut (a := ⟨2, bDog, [bKim]⟩) (l := []) (by decide +kernel) HSL.out Rep.Sl.nil) (fun k hk => hk); (with_reducible refine hq.mono ?_); clear hq; rintro e w5 ⟨rfl, hw5⟩; have kc5 : ∀ k q, k < w4.heap.size → w5.cell? ⟨k, q, none⟩ = _ := (fun k q h => hw5.cell (p := ⟨k, q, none⟩) h); have HW5 := Lib.hid hw5; clear hw5)
      | fail)
  all_goals go_wp2_with fail
  all_goals exact HN.out _ _ (id ⟨rfl, rfl, rfl, rfl, rfl, rfl, trivial⟩) (Below.trans (show Below w.heap.size w _ by first | exact ((Below.refl _ _).alloc (Nat.le_refl _) _).drew | exact (Below.refl _ _).drew.alloc (Nat.le_refl _) _) ((HW4.out.mono (by first | (simp; done) | (simp; omega))).trans (HW5.out.mono (by omega))))
noncomputable def c_lr_r4 : Code := sub [1, 1, 0] (Tryd.f4.body.getD .skip)
set_option maxRecDepth 1000000 in
set_option maxHeartbeats 16000000 in
theorem lr_r4_wp {Q : Exit → Act → World → Prop} {x : ByteArray} {w : World} (hx : x.size ≤ maxLen) (hN : ∀ A0 n0 c0 B0 m0 d0 gf ge a' w', Frm 41 [(0, .string x), (5, .pointer (some ⟨gf, 0, none⟩)), (6, .pointer (some ⟨ge, 0, none⟩))] a' → w'.heap[gf]? = some (.cells #[.int .i64 (fpF x).lab.kind, .string (fpF x).lab.nm, .slice A0 n0 c0, .slice B0 m0 d0] 34 (0, 0)) → w'.heap[ge]? = some (.cells #[.int .i64 ((fpC x).1 : Nat), .int .i64 ((fpC x).2 : Nat)] 27 (0, 0)) → w.heap.size ≤ gf → w.heap.size ≤ ge → gf ≠ ge → fmRep.R w' (Lo w') (fpF x) [.int .i64 (fpF x).lab.kind, .string (fpF x).lab.nm, .slice A0 n0 c0, .slice B0 m0 d0] → Below w.heap.size w w' → Q .normal a' w') : ∀ ac, Frm 41 [(0, .string x)] ac → Code.wp Tryd.prog c_lr_r4 Q ac w := by
  refine frm_open ?_
  refine frame_lr ?_
  intros
  rename_i hq
  obtain ⟨-, -, e0q, -⟩ := hq
  have e0q := (Option.some.inj e0q).symm; subst e0q
  conv => arg 2; whnf
  have hc := fparse_any x w hx
  have HN := Lib.hid hN
  have HC := Lib.hid hc
  clear hN hc
  go_wp2_with fail
  (with_reducible refine HC.out.mono ?_)
  rintro e w1 ⟨es, rfl, h1, hb1⟩
  obtain ⟨A0, n0, c0, B0, m0, d0, rfl, _, _, _, _⟩ := Fm.shape h1
  have H1 := Lib.hid h1
  have HB1 := Lib.hid hb1
  clear h1 hb1
  go_wp2_with fail
  have hz := HB1.out.size
  have hba := (HB1.out.alloc (by omega) (.cells #[.int .i64 (fpF x).lab.kind, .string (fpF x).lab.nm, .slice A0 n0 c0, .slice B0 m0 d0] 34)).alloc (by simp; omega) (.cells #[.int .i64 ((fpC x).1 : Nat), .int .i64 ((fpC x).2 : Nat)] 27)
  refine HN.out A0 n0 c0 B0 m0 d0 w1.heap.size (w1.heap.size + 1) _ _ (id ⟨rfl, rfl, rfl, rfl, rfl, trivial⟩) (heap_old (by simp) (heap_at rfl)) (heap_at (by simp)) (by omega) (by omega) (by omega) (fmRep.keep H1.out (fun b hb => heap_old (by have := hb.2; simp; omega) (heap_old hb.2 rfl)) (fun b hb => by have := hb.2; show b < _; simp; omega)) (by go_grown)
noncomputable def c_lr_r5 : Code := sub [1, 1, 1, 0] (Tryd.f4.body.getD .skip)
set_option maxRecDepth 1000000 in
set_option maxHeartbeats 16000000 in
theorem lr_r5_wp {Q : Exit → Act → World → Prop} {x : ByteArray} {g5 g6 : Nat} {w : World} (hx : x.size ≤ maxLen) (hN : ∀ A0 n0 c0 B0 m0 d0 gf ge a' w', Frm 41 [(0, .string x), (5, .pointer (some ⟨g5, 0, none⟩)), (6, .pointer (some ⟨g6, 0, none⟩)), (7, .pointer (some ⟨gf, 0, none⟩)), (8, .pointer (some ⟨ge, 0, none⟩))] a' → w'.heap[gf]? = some (.cells #[.int .i64 (fpF x).lab.kind, .string (fpF x).lab.nm, .slice A0 n0 c0, .slice B0 m0 d0] 34 (0, 0)) → w'.heap[ge]? = some (.cells #[.int .i64 ((fpC x).1 : Nat), .int .i64 ((fpC x).2 : Nat)] 27 (0, 0)) → w.heap.size ≤ gf → w.heap.size ≤ ge → gf ≠ ge → fmRep.R w' (Lo w') (fpF x) [.int .i64 (fpF x).lab.kind, .string (fpF x).lab.nm, .slice A0 n0 c0, .slice B0 m0 d0] → Below w.heap.size w w' → Q .normal a' w') : ∀ ac, Frm 41 [(0, .string x), (5, .pointer (some ⟨g5, 0, none⟩)), (6, .pointer (some ⟨g6, 0, none⟩))] ac → Code.wp Tryd.prog c_lr_r5 Q ac w := by
  refine frm_open ?_
  refine frame_lr ?_
  intros
  rename_i hq
  obtain ⟨-, -, e0q, e1q, e2q, -⟩ := hq
  have e0q := (Option.some.inj e0q).symm; subst e0q
  have e1q := (Option.some.inj e1q).symm; subst e1q
  have e2q := (Option.some.inj e2q).symm; subst e2q
  conv => arg 2; whnf
  have hc := formRead_any x w hx
  have HN := Lib.hid hN
  have HC := Lib.hid hc
  clear hN hc
  go_wp2_with fail
  (with_reducible refine HC.out.mono ?_)
  rintro e w1 ⟨es, rfl, h1, hb1⟩
  obtain ⟨A0, n0, c0, B0, m0, d0, rfl, _, _, _, _⟩ := Fm.shape h1
  have H1 := Lib.hid h1
  have HB1 := Lib.hid hb1
  clear h1 hb1
  go_wp2_with fail
  have hz := HB1.out.size
  have hba := (HB1.out.alloc (by omega) (.cells #[.int .i64 (fpF x).lab.kind, .string (fpF x).lab.nm, .slice A0 n0 c0, .slice B0 m0 d0] 34)).alloc (by simp; omega) (.cells #[.int .i64 ((fpC x).1 : Nat), .int .i64 ((fpC x).2 : Nat)] 27)
  refine HN.out A0 n0 c0 B0 m0 d0 w1.heap.size (w1.heap.size + 1) _ _ (id ⟨rfl, rfl, rfl, rfl, rfl, rfl, rfl, trivial⟩) (heap_old (by simp) (heap_at rfl)) (heap_at (by simp)) (by omega) (by omega) (by omega) (fmRep.keep H1.out (fun b hb => heap_old (by have := hb.2; simp; omega) (heap_old hb.2 rfl)) (fun b hb => by have := hb.2; show b < _; simp; omega)) (by go_grown)
noncomputable def c_lr_r6 : Code := sub [1, 1, 1, 1, 0] (Tryd.f4.body.getD .skip)
set_option maxRecDepth 1000000 in
set_option maxHeartbeats 16000000 in
theorem lr_r6_wp {Q : Exit → Act → World → Prop} {x : ByteArray} {g5 g6 g7 g8 : Nat} {w : World} {A0 B0 : Option Addr} {n0 c0 m0 d0 : Nat} {A1 B1 : Option Addr} {n1 c1 m1 d1 : Nat}  (h5 : w.heap[g5]? = some (.cells #[.int .i64 (fpF x).lab.kind, .string (fpF x).lab.nm, .slice A0 n0 c0, .slice B0 m0 d0] 34 (0, 0))) (h6 : w.heap[g6]? = some (.cells #[.int .i64 ((fpC x).1 : Nat), .int .i64 ((fpC x).2 : Nat)] 27 (0, 0))) (h7 : w.heap[g7]? = some (.cells #[.int .i64 (fpF x).lab.kind, .string (fpF x).lab.nm, .slice A1 n1 c1, .slice B1 m1 d1] 34 (0, 0))) (h8 : w.heap[g8]? = some (.cells #[.int .i64 ((fpC x).1 : Nat), .int .i64 ((fpC x).2 : Nat)] 27 (0, 0))) (r5 : fmRep.R w (Lo w) (fpF x) [.int .i64 (fpF x).lab.kind, .string (fpF x).lab.nm, .slice A0 n0 c0, .slice B0 m0 d0]) (r7 : fmRep.R w (Lo w) (fpF x) [.int .i64 (fpF x).lab.kind, .string (fpF x).lab.nm, .slice A1 n1 c1, .slice B1 m1 d1]) (hN : ∀ a' w', Frm 41 [(2, .bool true)] a' → Below w.heap.size w w' → Q .normal a' w') : ∀ ac, Frm 41 [(0, .string x), (5, .pointer (some ⟨g5, 0, none⟩)), (6, .pointer (some ⟨g6, 0, none⟩)), (7, .pointer (some ⟨g7, 0, none⟩)), (8, .pointer (some ⟨g8, 0, none⟩))] ac → Code.wp Tryd.prog c_lr_r6 Q ac w := by
  refine frm_open ?_
  refine frame_lr ?_
  intros
  rename_i hq
  obtain ⟨-, -, e0q, e1q, e2q, e3q, e4q, -⟩ := hq
  have e0q := (Option.some.inj e0q).symm; subst e0q
  have e1q := (Option.some.inj e1q).symm; subst e1q
  have e2q := (Option.some.inj e2q).symm; subst e2q
  have e3q := (Option.some.inj e3q).symm; subst e3q
  have e4q := (Option.some.inj e4q).symm; subst e4q
  conv => arg 2; whnf
  obtain ⟨fc, hfc⟩ : ∃ q, ((fpC x).1 : Nat) = q := ⟨_, rfl⟩
  obtain ⟨fj, hfj⟩ : ∃ q, ((fpC x).2 : Nat) = q := ⟨_, rfl⟩
  obtain ⟨t, ht⟩ : ∃ q, fpF x = q := ⟨_, rfl⟩
  rw [hfc, hfj] at h6 h8
  rw [ht] at h5 h7 r5 r7
  clear hfc hfj ht
  have hq := fun (W : World) => eqFm_self t.nodes t [.int .i64 t.lab.kind, .string t.lab.nm, .slice A0 n0 c0, .slice B0 m0 d0] [.int .i64 t.lab.kind, .string t.lab.nm, .slice A1 n1 c1, .slice B1 m1 d1] w (Lo w) (Nat.le_refl _) r5 r7 (fun _ h => h)
  have a0 := cellv h6 0 rfl
  have a1 := cellv h6 1 rfl
  have a2 := cellv h8 0 rfl
  have a3 := cellv h8 1 rfl
  have b0 := cellv h5 0 rfl
  have b1 := cellv h5 1 rfl
  have b2 := cellv h5 2 rfl
  have b3 := cellv h5 3 rfl
  have c0' := cellv h7 0 rfl
  have c1' := cellv h7 1 rfl
  have c2' := cellv h7 2 rfl
  have c3' := cellv h7 3 rfl
  have l5 := lt_heap h5
  have l6 := lt_heap h6
  have l7 := lt_heap h7
  have l8 := lt_heap h8
  clear h5 h6 h7 h8 r5 r7
  have HN := Lib.hid hN
  have HQ := Lib.hid hq
  clear hN hq
  go_wp2_with fail
  (with_reducible refine (HQ.out w).mono ?_)
  rintro e w1 ⟨rfl, hb1⟩
  have HB1 := Lib.hid hb1
  clear hb1
  go_wp2_with fail
  exact HN.out _ _ (id ⟨rfl, rfl, rfl, trivial⟩) HB1.out
set_option maxRecDepth 1000000 in
theorem lr_ret_wp {R : Ending → World → Prop} {w' : World} (hR : R (.returned (.bool true)) w') : ∀ ac, Frm 41 [(2, .bool true)] ac → bodyPost Tryd.prog Tryd.f4 R .ret ac w' := by
  refine frm_open ?_
  refine frame_lr ?_
  intros
  rename_i hq
  obtain ⟨-, -, e0q, -⟩ := hq
  have e0q := (Option.some.inj e0q).symm; subst e0q
  refine bodyPost_ret (v := .bool true) (by simp [results, Tryd.results4, go_sem]) rfl ?_
  exact hR
set_option maxRecDepth 100000 in
set_option maxHeartbeats 4000000 in
theorem fReadLaw_any (x : ByteArray) (w : World) (hx : x.size ≤ maxLen) (g0 : w.cell? ⟨0, 0, none⟩ = some (.int .i64 0)) (g1 : w.cell? ⟨0, 1, none⟩ = some (.int .i64 0)) : Calls Tryd.prog 4 #[.string x] w fun e w' => e = .returned (.bool true) ∧ Below w.heap.size w w' := by
  go_enter Tryd.func4, Tryd.ntmps4
  have lg := World.block_lt_of_cell? w _ g0
  refine wp_seq ?_
  refine lr_r0_wp (fun a0 h0 => ?_) _ (id ⟨rfl, rfl, rfl, trivial⟩)
  refine wp_seq ?_
  refine wp_seq ?_
  refine lr_r1_wp (fun A0 n0 c0 B0 m0 d0 gf ge a1 w1 h1 hgf hge _ _ hne hrp hb1 => ?_) a0 h0
  have g0' := (hb1.cell (p := ⟨0, 0, none⟩) lg).trans g0
  have g1' := (hb1.cell (p := ⟨0, 1, none⟩) lg).trans g1
  refine wp_seq ?_
  refine Code.wp_mono (Q := Exit.then (fun a' w' => Frm 41 [(0, .string x), (3, .pointer (some ⟨gf, 0, none⟩)), (4, .pointer (some ⟨ge, 0, none⟩)), (22, .bool false)] a' ∧ Below w1.heap.size w1 w') (fun _ _ _ => False)) ?_ (lr_r2_wp g0' g1' hgf hge hrp (fun a5 w5 h5 hb5 => ⟨h5, hb5⟩) a1 h1)
  intro e a2 w2 h
  cases e with
  | normal =>
    obtain ⟨h2, hb2⟩ := h
    refine wp_cond_false ((h2.eval (k := 22) (v := .bool false) (by simp)).trans rfl) ?_
    refine wp_skip ?_
    show Code.wp _ _ _ a2 w2
    have hb02 := hb1.trans (hb2.mono hb1.size)
    refine wp_seq ?_
    refine lr_r4_wp hx (fun A0 n0 c0 B0 m0 d0 g5 g6 a3 w3 h3 h5 h6 l5 l6 hne2 r5 hb3 => ?_) a2 ⟨h2.1, h2.2.1, h2.2.2.1, trivial⟩
    have hb03 := hb02.trans (hb3.mono hb02.size)
    refine wp_seq ?_
    refine lr_r5_wp hx (fun A1 n1 c1 B1 m1 d1 g7 g8 a4 w4 h4 h7 h8 l7 l8 hne3 r7 hb4 => ?_) a3 h3
    have hb04 := hb03.trans (hb4.mono hb03.size)
    refine wp_seq ?_
    refine lr_r6_wp ((hb4.block _ (lt_heap h5)).trans h5) ((hb4.block _ (lt_heap h6)).trans h6) h7 h8 (fmRep.keep r5 (fun b hb => hb4.block b hb) (fun b hb => Nat.lt_of_lt_of_le hb hb4.size)) r7 (fun a5 w5 h5 hb5 => ?_) a4 h4
    refine wp_ret ?_
    exact lr_ret_wp ⟨rfl, hb04.trans (hb5.mono hb04.size)⟩ a5 h5
  | _ => exact h.elim

end Go.Proofs.YtnoceodmnjhljabDoor
