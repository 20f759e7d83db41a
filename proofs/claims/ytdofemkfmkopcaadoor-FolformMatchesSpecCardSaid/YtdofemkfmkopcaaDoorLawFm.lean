/-
  The law FolformMatchesSpec: the walk, by parts.
-/
import Derived.Test.YtdofemkfmkopcaaDoorOfB
import Derived.Test.YtdofemkfmkopcaaDoorFtB
import Derived.Test.YtdofemkfmkopcaaDoorCsB
import Derived.Test.YtdofemkfmkopcaaDoorFree
import Derived.Test.YtdofemkfmkopcaaDoorEqFm
import Derived.Test.YtdofemkfmkopcaaDoorFmMake
namespace Go.Proofs.YtdofemkfmkopcaaDoor
open Go Go.RowKit
set_option linter.unusedSimpArgs false
set_option linter.unusedVariables false

set_option maxRecDepth 1000000 in
theorem frame_lm {P : Act → Prop} (h : ∀ x0 x1 x2 x3 x4 x5 x6 x7 x8 x9 x10 x11 x12 x13 x14 x15 x16 x17 x18 x19 x20 x21 x22 x23 x24 x25 x26 x27 x28 x29 x30 x31 x32 x33 x34 x35 x36 x37 x38 x39 x40 x41 x42 x43 x44 x45 x46 x47 x48 x49 x50 x51 x52 x53 x54 x55 x56 x57 x58 x59 x60 x61 x62 x63 x64 x65 x66 x67 x68 x69 x70 x71 x72 x73 x74 x75 x76 x77 x78 x79 x80 x81 x82 x83 x84 x85 x86 x87 x88 : Value, P ⟨(x0 :: x1 :: x2 :: x3 :: x4 :: x5 :: x6 :: x7 :: x8 :: x9 :: x10 :: x11 :: x12 :: x13 :: x14 :: x15 :: x16 :: x17 :: x18 :: x19 :: x20 :: x21 :: x22 :: x23 :: x24 :: x25 :: x26 :: x27 :: x28 :: x29 :: x30 :: x31 :: x32 :: x33 :: x34 :: x35 :: x36 :: x37 :: x38 :: x39 :: x40 :: x41 :: x42 :: x43 :: x44 :: x45 :: x46 :: x47 :: x48 :: x49 :: x50 :: x51 :: x52 :: x53 :: x54 :: x55 :: x56 :: x57 :: x58 :: x59 :: x60 :: x61 :: x62 :: x63 :: x64 :: x65 :: x66 :: x67 :: x68 :: x69 :: x70 :: x71 :: x72 :: x73 :: x74 :: x75 :: x76 :: x77 :: x78 :: x79 :: x80 :: x81 :: x82 :: x83 :: x84 :: x85 :: x86 :: x87 :: x88 :: []).toArray, []⟩) : ∀ a : Act, a.tmps.toList.length = 89 → a.defers = [] → P a := by
  rintro ⟨⟨l⟩, d⟩ hs hd
  simp only at hd
  subst hd
  revert l
  show ∀ l : List Value, l.length = 89 → P ⟨⟨l⟩, []⟩
  refine openS (n := 88) (fun x0 => ?_)
  refine openS (n := 87) (fun x1 => ?_)
  refine openS (n := 86) (fun x2 => ?_)
  refine openS (n := 85) (fun x3 => ?_)
  refine openS (n := 84) (fun x4 => ?_)
  refine openS (n := 83) (fun x5 => ?_)
  refine openS (n := 82) (fun x6 => ?_)
  refine openS (n := 81) (fun x7 => ?_)
  refine openS (n := 80) (fun x8 => ?_)
  refine openS (n := 79) (fun x9 => ?_)
  refine openS (n := 78) (fun x10 => ?_)
  refine openS (n := 77) (fun x11 => ?_)
  refine openS (n := 76) (fun x12 => ?_)
  refine openS (n := 75) (fun x13 => ?_)
  refine openS (n := 74) (fun x14 => ?_)
  refine openS (n := 73) (fun x15 => ?_)
  refine openS (n := 72) (fun x16 => ?_)
  refine openS (n := 71) (fun x17 => ?_)
  refine openS (n := 70) (fun x18 => ?_)
  refine openS (n := 69) (fun x19 => ?_)
  refine openS (n := 68) (fun x20 => ?_)
  refine openS (n := 67) (fun x21 => ?_)
  refine openS (n := 66) (fun x22 => ?_)
  refine openS (n := 65) (fun x23 => ?_)
  refine openS (n := 64) (fun x24 => ?_)
  refine openS (n := 63) (fun x25 => ?_)
  refine openS (n := 62) (fun x26 => ?_)
  refine openS (n := 61) (fun x27 => ?_)
  refine openS (n := 60) (fun x28 => ?_)
  refine openS (n := 59) (fun x29 => ?_)
  refine openS (n := 58) (fun x30 => ?_)
  refine openS (n := 57) (fun x31 => ?_)
  refine openS (n := 56) (fun x32 => ?_)
  refine openS (n := 55) (fun x33 => ?_)
  refine openS (n := 54) (fun x34 => ?_)
  refine openS (n := 53) (fun x35 => ?_)
  refine openS (n := 52) (fun x36 => ?_)
  refine openS (n := 51) (fun x37 => ?_)
  refine openS (n := 50) (fun x38 => ?_)
  refine openS (n := 49) (fun x39 => ?_)
  refine openS (n := 48) (fun x40 => ?_)
  refine openS (n := 47) (fun x41 => ?_)
  refine openS (n := 46) (fun x42 => ?_)
  refine openS (n := 45) (fun x43 => ?_)
  refine openS (n := 44) (fun x44 => ?_)
  refine openS (n := 43) (fun x45 => ?_)
  refine openS (n := 42) (fun x46 => ?_)
  refine openS (n := 41) (fun x47 => ?_)
  refine openS (n := 40) (fun x48 => ?_)
  refine openS (n := 39) (fun x49 => ?_)
  refine openS (n := 38) (fun x50 => ?_)
  refine openS (n := 37) (fun x51 => ?_)
  refine openS (n := 36) (fun x52 => ?_)
  refine openS (n := 35) (fun x53 => ?_)
  refine openS (n := 34) (fun x54 => ?_)
  refine openS (n := 33) (fun x55 => ?_)
  refine openS (n := 32) (fun x56 => ?_)
  refine openS (n := 31) (fun x57 => ?_)
  refine openS (n := 30) (fun x58 => ?_)
  refine openS (n := 29) (fun x59 => ?_)
  refine openS (n := 28) (fun x60 => ?_)
  refine openS (n := 27) (fun x61 => ?_)
  refine openS (n := 26) (fun x62 => ?_)
  refine openS (n := 25) (fun x63 => ?_)
  refine openS (n := 24) (fun x64 => ?_)
  refine openS (n := 23) (fun x65 => ?_)
  refine openS (n := 22) (fun x66 => ?_)
  refine openS (n := 21) (fun x67 => ?_)
  refine openS (n := 20) (fun x68 => ?_)
  refine openS (n := 19) (fun x69 => ?_)
  refine openS (n := 18) (fun x70 => ?_)
  refine openS (n := 17) (fun x71 => ?_)
  refine openS (n := 16) (fun x72 => ?_)
  refine openS (n := 15) (fun x73 => ?_)
  refine openS (n := 14) (fun x74 => ?_)
  refine openS (n := 13) (fun x75 => ?_)
  refine openS (n := 12) (fun x76 => ?_)
  refine openS (n := 11) (fun x77 => ?_)
  refine openS (n := 10) (fun x78 => ?_)
  refine openS (n := 9) (fun x79 => ?_)
  refine openS (n := 8) (fun x80 => ?_)
  refine openS (n := 7) (fun x81 => ?_)
  refine openS (n := 6) (fun x82 => ?_)
  refine openS (n := 5) (fun x83 => ?_)
  refine openS (n := 4) (fun x84 => ?_)
  refine openS (n := 3) (fun x85 => ?_)
  refine openS (n := 2) (fun x86 => ?_)
  refine openS (n := 1) (fun x87 => ?_)
  refine openS (n := 0) (fun x88 => ?_)
  refine open0 ?_
  exact h x0 x1 x2 x3 x4 x5 x6 x7 x8 x9 x10 x11 x12 x13 x14 x15 x16 x17 x18 x19 x20 x21 x22 x23 x24 x25 x26 x27 x28 x29 x30 x31 x32 x33 x34 x35 x36 x37 x38 x39 x40 x41 x42 x43 x44 x45 x46 x47 x48 x49 x50 x51 x52 x53 x54 x55 x56 x57 x58 x59 x60 x61 x62 x63 x64 x65 x66 x67 x68 x69 x70 x71 x72 x73 x74 x75 x76 x77 x78 x79 x80 x81 x82 x83 x84 x85 x86 x87 x88
theorem kimC {W : World} {g : Nat} (h : W.heap[g]? = some (.cells #[.string bKim] 9 (0, 0))) : fmRepC.R W (fun b => b = g) fvKim.fm [.int .i64 2, .string bDog, .slice (some ⟨g, 0, none⟩) 1 1, .slice none 0 0] := by
  refine Tree.In_iff.2 ⟨[.int .i64 2, .string bDog, .slice (some ⟨g, 0, none⟩) 1 1], .slice none 0 0, rfl, ⟨⟨_, rfl, by decide, ?_⟩, _, _, _, rfl, by omega⟩, Rep.Sl.nil⟩
  refine ⟨_, 1, 1, rfl, rfl, by decide, fun _ => ⟨g, 0, [.string bKim], rfl, rfl, Rep.All.single (ρ := strRep) ⟨rfl, by decide⟩, fun j u hu => ?_⟩⟩
  cases j with
  | zero => injection hu with hu; subst hu; exact cellv h 0 rfl
  | succ j => simp at hu
theorem printKim_any (W : World) (g : Nat) (h : W.heap[g]? = some (.cells #[.string bKim] 9 (0, 0))) : Calls Tryd.prog 11 #[.agg #[.int .i64 2, .string bDog, .slice (some ⟨g, 0, none⟩) 1 1, .slice none 0 0]] W fun e w' => e = .returned (.tuple #[.string (⟨#[100, 111, 103, 40, 107, 105, 109, 41]⟩ : ByteArray), .agg #[.int .i64 0, .int .i64 0]]) ∧ Below W.heap.size W w' := by
  refine (printFm_any fvKim.fm _ W _ (kimC h) (fun b hb => by subst hb; exact lt_heap h)).mono ?_
  rintro e w' ⟨hp, hb⟩
  have h0 : (fmFault fvKim.fm).1 = 0 := by
    unfold fmFault
    rw [Fv.val_ok false fvKim 1 0 fvKim_ok (by decide) (by decide)]
  have h1 := (hp.2 fvKim rfl fvKim_ok h0).2 (by decide +kernel)
  have e9 : (⟨fvKim.text.toArray⟩ : ByteArray) = (⟨#[100, 111, 103, 40, 107, 105, 109, 41]⟩ : ByteArray) := by decide +kernel
  rw [e9] at h1
  exact ⟨h1, hb⟩
noncomputable def c_lm_r0 : Code := sub [0] (Tryd.f3.body.getD .skip)
set_option maxRecDepth 1000000 in
set_option maxHeartbeats 16000000 in
theorem lm_r0_wp {Q : Exit → Act → World → Prop} {t : Fm} {At Bt : Option Addr} {nt ct mt dt : Nat} {w : World} (hN : ∀ a' w', Frm 89 [(1, .pointer (some ⟨w.heap.size, 0, none⟩))] a' → w'.heap[w.heap.size]? = some (.cells #[.int .i64 t.lab.kind, .string t.lab.nm, .slice At nt ct, .slice Bt mt dt] 25 (0, 0)) → w.heap.size < w'.heap.size → Below w.heap.size w w' → Q .normal a' w') : ∀ ac, Frm 89 [(0, .agg #[.int .i64 t.lab.kind, .string t.lab.nm, .slice At nt ct, .slice Bt mt dt])] ac → Code.wp Tryd.prog c_lm_r0 Q ac w := by
  refine frm_open ?_
  refine frame_lm ?_
  intros
  rename_i hq
  obtain ⟨-, -, e0q, -⟩ := hq
  have e0q := (Option.some.inj e0q).symm; subst e0q
  conv => arg 2; whnf
  have HN := Lib.hid hN
  clear hN
  go_wp2_with fail
  exact HN.out _ _ (id ⟨rfl, rfl, rfl, trivial⟩) (heap_at rfl) (by simp) (by go_grown)
noncomputable def c_lm_r1 : Code := sub [1, 0, 0] (Tryd.f3.body.getD .skip)
set_option maxRecDepth 1000000 in
set_option maxHeartbeats 16000000 in
theorem lm_r1_wp {Q : Exit → Act → World → Prop} {gi : Nat} {w : World} (hN : ∀ ge a' w', Frm 89 [(1, .pointer (some ⟨gi, 0, none⟩)), (3, .string (⟨#[100, 111, 103, 40, 107, 105, 109, 41]⟩ : ByteArray)), (4, .pointer (some ⟨ge, 0, none⟩))] a' → w'.heap[ge]? = some (.cells #[.int .i64 0, .int .i64 0] 27 (0, 0)) → Below w.heap.size w w' → Q .normal a' w') : ∀ ac, Frm 89 [(1, .pointer (some ⟨gi, 0, none⟩))] ac → Code.wp Tryd.prog c_lm_r1 Q ac w := by
  refine frm_open ?_
  refine frame_lm ?_
  intros
  rename_i hq
  obtain ⟨-, -, e0q, -⟩ := hq
  have e0q := (Option.some.inj e0q).symm; subst e0q
  conv => arg 2; whnf
  have hk := printKim_any
  have hp := fun W => pred_any bDog (.slice (some ⟨w.heap.size, 0, none⟩) 1 1) W ⟨_, _, _, rfl⟩
  unfold bDog bKim at hk
  unfold bDog at hp
  have HN := Lib.hid hN
  have HK := Lib.hid hk
  have HP := Lib.hid hp
  clear hN hk hp
  go_wp2_with fail
  (with_reducible refine (HP.out _).mono ?_)
  rintro e w1 ⟨rfl, hb1⟩
  have hz := hb1.size
  have hg := (hb1.block w.heap.size (by simp)).trans (heap_at rfl)
  have hc := HK.out w1 w.heap.size hg
  have hB : Below w.heap.size w w1 := (show Below w.heap.size w _ by go_grown).trans (hb1.mono (by simp))
  clear hb1 hg
  have HC := Lib.hid hc
  have HB := Lib.hid hB
  clear hc hB
  go_wp2_with fail
  (with_reducible refine HC.out.mono ?_)
  rintro e w2 ⟨rfl, hb2⟩
  have hB2 := HB.out.trans (hb2.mono HB.out.size)
  clear hb2
  have HB2 := Lib.hid hB2
  clear hB2
  go_wp2_with fail
  have hz2 := HB2.out.size
  exact HN.out w2.heap.size _ _ (id ⟨rfl, rfl, rfl, rfl, rfl, trivial⟩) (heap_at rfl) (HB2.out.alloc (by omega) _)
noncomputable def c_lm_r2 : Code := sub [1, 0, 1, 0] (Tryd.f3.body.getD .skip)
set_option maxRecDepth 1000000 in
set_option maxHeartbeats 16000000 in
theorem lm_r2_wp {Q : Exit → Act → World → Prop} {gi ge : Nat} {w : World} (g0 : w.cell? ⟨0, 0, none⟩ = some (.int .i64 0)) (g1 : w.cell? ⟨0, 1, none⟩ = some (.int .i64 0)) (hge : w.heap[ge]? = some (.cells #[.int .i64 0, .int .i64 0] 27 (0, 0))) (hN : ∀ a', Frm 89 [(1, .pointer (some ⟨gi, 0, none⟩)), (23, .bool false)] a' → Q .normal a' w) : ∀ ac, Frm 89 [(1, .pointer (some ⟨gi, 0, none⟩)), (3, .string (⟨#[100, 111, 103, 40, 107, 105, 109, 41]⟩ : ByteArray)), (4, .pointer (some ⟨ge, 0, none⟩))] ac → Code.wp Tryd.prog c_lm_r2 Q ac w := by
  refine frm_open ?_
  refine frame_lm ?_
  intros
  rename_i hq
  obtain ⟨-, -, e0q, e1q, e2q, -⟩ := hq
  have e0q := (Option.some.inj e0q).symm; subst e0q
  have e1q := (Option.some.inj e1q).symm; subst e1q
  have e2q := (Option.some.inj e2q).symm; subst e2q
  conv => arg 2; whnf
  have e0 := cellv hge 0 rfl
  have e1 := cellv hge 1 rfl
  have le := lt_heap hge
  have lg := World.block_lt_of_cell? w _ g0
  have t1 : ((⟨#[100, 111, 103, 40, 107, 105, 109, 41]⟩ : ByteArray).toList == (⟨#[100, 111, 103, 40, 107, 105, 109, 41]⟩ : ByteArray).toList) = true := beq_self_eq_true _
  clear hge
  have HN := Lib.hid hN
  clear hN
  go_wp2_with fail
  exact HN.out _ (id ⟨rfl, rfl, rfl, rfl, trivial⟩)
noncomputable def c_lm_r4 : Code := sub [1, 1, 0] (Tryd.f3.body.getD .skip)
set_option maxRecDepth 1000000 in
set_option maxHeartbeats 16000000 in
theorem lm_r4_wp {Q : Exit → Act → World → Prop} {gi c j : Nat} {w : World} {t : Fm} {At Bt : Option Addr} {nt ct mt dt : Nat} (hgi : w.heap[gi]? = some (.cells #[.int .i64 t.lab.kind, .string t.lab.nm, .slice At nt ct, .slice Bt mt dt] 25 (0, 0))) (hc : Calls Tryd.prog 13 #[.agg #[.int .i64 t.lab.kind, .string t.lab.nm, .slice At nt ct, .slice Bt mt dt]] w fun e w' => e = .returned (.agg #[.int .i64 (c : Nat), .int .i64 (j : Nat)]) ∧ Below w.heap.size w w') (hN : ∀ g5 a' w', Frm 89 [(1, .pointer (some ⟨gi, 0, none⟩)), (5, .pointer (some ⟨g5, 0, none⟩))] a' → w'.heap[g5]? = some (.cells #[.int .i64 (c : Nat), .int .i64 (j : Nat)] 27 (0, 0)) → Below w.heap.size w w' → Q .normal a' w') : ∀ ac, Frm 89 [(1, .pointer (some ⟨gi, 0, none⟩))] ac → Code.wp Tryd.prog c_lm_r4 Q ac w := by
  refine frm_open ?_
  refine frame_lm ?_
  intros
  rename_i hq
  obtain ⟨-, -, e0q, -⟩ := hq
  have e0q := (Option.some.inj e0q).symm; subst e0q
  conv => arg 2; whnf
  have i0 := cellv hgi 0 rfl
  have i1 := cellv hgi 1 rfl
  have i2 := cellv hgi 2 rfl
  have i3 := cellv hgi 3 rfl
  have il := lt_heap hgi
  clear hgi
  have HN := Lib.hid hN
  have HC := Lib.hid hc
  clear hN hc
  go_wp2_with fail
  (with_reducible refine HC.out.mono ?_)
  rintro e w1 ⟨rfl, hb1⟩
  have HB1 := Lib.hid hb1
  clear hb1
  go_wp2_with fail
  have hz := HB1.out.size
  exact HN.out w1.heap.size _ _ (id ⟨rfl, rfl, rfl, rfl, trivial⟩) (heap_at rfl) (HB1.out.alloc hz _)
noncomputable def c_lm_r5 : Code := sub [1, 1, 1, 0] (Tryd.f3.body.getD .skip)
set_option maxRecDepth 1000000 in
set_option maxHeartbeats 16000000 in
theorem lm_r5_wp {Q : Exit → Act → World → Prop} {gi g5 : Nat} {w : World} {t : Fm} {At Bt : Option Addr} {nt ct mt dt : Nat} (hgi : w.heap[gi]? = some (.cells #[.int .i64 t.lab.kind, .string t.lab.nm, .slice At nt ct, .slice Bt mt dt] 25 (0, 0))) {PP : ByteArray → Nat → Nat → Prop} (hc : Calls Tryd.prog 11 #[.agg #[.int .i64 t.lab.kind, .string t.lab.nm, .slice At nt ct, .slice Bt mt dt]] w fun e w' => (∃ (x : ByteArray) (c j : Nat), e = .returned (.tuple #[.string x, .agg #[.int .i64 (c : Nat), .int .i64 (j : Nat)]]) ∧ PP x c j) ∧ Below w.heap.size w w') (hN : ∀ (x : ByteArray) (c j : Nat) g7 a' w', Frm 89 [(1, .pointer (some ⟨gi, 0, none⟩)), (5, .pointer (some ⟨g5, 0, none⟩)), (6, .string x), (7, .pointer (some ⟨g7, 0, none⟩))] a' → PP x c j → w'.heap[g7]? = some (.cells #[.int .i64 (c : Nat), .int .i64 (j : Nat)] 27 (0, 0)) → Below w.heap.size w w' → Q .normal a' w') : ∀ ac, Frm 89 [(1, .pointer (some ⟨gi, 0, none⟩)), (5, .pointer (some ⟨g5, 0, none⟩))] ac → Code.wp Tryd.prog c_lm_r5 Q ac w := by
  refine frm_open ?_
  refine frame_lm ?_
  intros
  rename_i hq
  obtain ⟨-, -, e0q, e1q, -⟩ := hq
  have e0q := (Option.some.inj e0q).symm; subst e0q
  have e1q := (Option.some.inj e1q).symm; subst e1q
  conv => arg 2; whnf
  have i0 := cellv hgi 0 rfl
  have i1 := cellv hgi 1 rfl
  have i2 := cellv hgi 2 rfl
  have i3 := cellv hgi 3 rfl
  have il := lt_heap hgi
  clear hgi
  have HN := Lib.hid hN
  have HC := Lib.hid hc
  clear hN hc
  go_wp2_with fail
  (with_reducible refine HC.out.mono ?_)
  rintro e w1 ⟨⟨x, c, j, rfl, hp⟩, hb1⟩
  have HP := Lib.hid hp
  have HB1 := Lib.hid hb1
  clear hb1 hp
  go_wp2_with fail
  have hz := HB1.out.size
  exact HN.out x c j w1.heap.size _ _ (id ⟨rfl, rfl, rfl, rfl, rfl, rfl, trivial⟩) HP.out (heap_at rfl) (HB1.out.alloc hz _)
noncomputable def c_lm_r6 : Code := sub [1, 1, 1, 1, 0] (Tryd.f3.body.getD .skip)
set_option maxRecDepth 1000000 in
set_option maxHeartbeats 16000000 in
theorem lm_r6_wp {Q : Exit → Act → World → Prop} {gi g5 g7 c j : Nat} {x : ByteArray} {w : World} {t : Fm} {At Bt : Option Addr} {nt ct mt dt : Nat} (hgi : w.heap[gi]? = some (.cells #[.int .i64 t.lab.kind, .string t.lab.nm, .slice At nt ct, .slice Bt mt dt] 25 (0, 0))) {PP : Value → World → Prop} (hc : Calls Tryd.prog 14 #[.agg #[.int .i64 t.lab.kind, .string t.lab.nm, .slice At nt ct, .slice Bt mt dt]] w fun e w' => (∃ u, e = .returned (.tuple #[u, .agg #[.int .i64 (c : Nat), .int .i64 (j : Nat)]]) ∧ PP u w') ∧ Below w.heap.size w w') (hN : ∀ (u : Value) (w1 : World) g9 a' w', Frm 89 [(1, .pointer (some ⟨gi, 0, none⟩)), (5, .pointer (some ⟨g5, 0, none⟩)), (6, .string x), (7, .pointer (some ⟨g7, 0, none⟩)), (8, u), (9, .pointer (some ⟨g9, 0, none⟩))] a' → PP u w1 → Below w.heap.size w w1 → Below w1.heap.size w1 w' → w'.heap[g9]? = some (.cells #[.int .i64 (c : Nat), .int .i64 (j : Nat)] 27 (0, 0)) → Below w.heap.size w w' → Q .normal a' w') : ∀ ac, Frm 89 [(1, .pointer (some ⟨gi, 0, none⟩)), (5, .pointer (some ⟨g5, 0, none⟩)), (6, .string x), (7, .pointer (some ⟨g7, 0, none⟩))] ac → Code.wp Tryd.prog c_lm_r6 Q ac w := by
  refine frm_open ?_
  refine frame_lm ?_
  intros
  rename_i hq
  obtain ⟨-, -, e0q, e1q, e2q, e3q, -⟩ := hq
  have e0q := (Option.some.inj e0q).symm; subst e0q
  have e1q := (Option.some.inj e1q).symm; subst e1q
  have e2q := (Option.some.inj e2q).symm; subst e2q
  have e3q := (Option.some.inj e3q).symm; subst e3q
  conv => arg 2; whnf
  have i0 := cellv hgi 0 rfl
  have i1 := cellv hgi 1 rfl
  have i2 := cellv hgi 2 rfl
  have i3 := cellv hgi 3 rfl
  have il := lt_heap hgi
  clear hgi
  have HN := Lib.hid hN
  have HC := Lib.hid hc
  clear hN hc
  go_wp2_with fail
  (with_reducible refine HC.out.mono ?_)
  rintro e w1 ⟨⟨u, rfl, hp⟩, hb1⟩
  have HP := Lib.hid hp
  have HB1 := Lib.hid hb1
  clear hb1 hp
  go_wp2_with fail
  have hz := HB1.out.size
  exact HN.out u w1 w1.heap.size _ _ (id ⟨rfl, rfl, rfl, rfl, rfl, rfl, rfl, rfl, trivial⟩) HP.out HB1.out ((Below.refl _ _).alloc (Nat.le_refl _) _) (heap_at rfl) (HB1.out.alloc hz _)
noncomputable def c_lm_r7 : Code := sub [1, 1, 1, 1, 1, 0, 0] (Tryd.f3.body.getD .skip)
set_option maxRecDepth 1000000 in
set_option maxHeartbeats 16000000 in
theorem lm_r7_wp {K : Act → World → Prop} {gi g5 g7 g9 c j : Nat} {x : ByteArray} {u : Value} {w : World} {t : Fm} {At Bt : Option Addr} {nt ct mt dt : Nat} (hgi : w.heap[gi]? = some (.cells #[.int .i64 t.lab.kind, .string t.lab.nm, .slice At nt ct, .slice Bt mt dt] 25 (0, 0))) (h5 : w.heap[g5]? = some (.cells #[.int .i64 (c : Nat), .int .i64 (j : Nat)] 27 (0, 0))) (h9 : w.heap[g9]? = some (.cells #[.int .i64 (c : Nat), .int .i64 (j : Nat)] 27 (0, 0))) (hc : ∀ W : World, Below w.heap.size w W → Calls Tryd.prog 15 #[.agg #[.int .i64 t.lab.kind, .string t.lab.nm, .slice At nt ct, .slice Bt mt dt]] W fun e w' => e = .returned (.agg #[.int .i64 (c : Nat), .int .i64 (j : Nat)]) ∧ Below w.heap.size w w') (hN : ∀ a' w', Frm 89 [(1, .pointer (some ⟨gi, 0, none⟩)), (5, .pointer (some ⟨g5, 0, none⟩)), (6, .string x), (7, .pointer (some ⟨g7, 0, none⟩)), (8, u), (9, .pointer (some ⟨g9, 0, none⟩)), (44, .bool false)] a' → Below w.heap.size w w' → K a' w') : ∀ ac, Frm 89 [(1, .pointer (some ⟨gi, 0, none⟩)), (5, .pointer (some ⟨g5, 0, none⟩)), (6, .string x), (7, .pointer (some ⟨g7, 0, none⟩)), (8, u), (9, .pointer (some ⟨g9, 0, none⟩))] ac → Code.wp Tryd.prog c_lm_r7 (Exit.then K (fun _ _ _ => False)) ac w := by
  refine frm_open ?_
  refine frame_lm ?_
  intros
  rename_i hq
  obtain ⟨-, -, e0q, e1q, e2q, e3q, e4q, e5q, -⟩ := hq
  have e0q := (Option.some.inj e0q).symm; subst e0q
  have e1q := (Option.some.inj e1q).symm; subst e1q
  have e2q := (Option.some.inj e2q).symm; subst e2q
  have e3q := (Option.some.inj e3q).symm; subst e3q
  have e4q := (Option.some.inj e4q).symm; subst e4q
  have e5q := (Option.some.inj e5q).symm; subst e5q
  conv => arg 2; whnf
  have i0 := cellv hgi 0 rfl
  have i1 := cellv hgi 1 rfl
  have i2 := cellv hgi 2 rfl
  have i3 := cellv hgi 3 rfl
  have il := lt_heap hgi
  clear hgi
  have e0 := cellv h5 0 rfl
  have e1 := cellv h5 1 rfl
  have le := lt_heap h5
  have f0 := cellv h9 0 rfl
  have f1 := cellv h9 1 rfl
  have lf := lt_heap h9
  clear h5 h9
  have HC := Lib.hid hc
  clear hc
  go_region_law (refine step_call (by rfl) 15 _ (by go_simp) (HC.out _ (by go_grown)) ?_; rintro e w2 ⟨rfl, hb2⟩; refine ⟨_, rfl, ?_⟩; have z2 := hb2.size; have b0 := (cell_keep (hb2.block _ le) 0).trans e0; have b1 := (cell_keep (hb2.block _ le) 1).trans e1; have d0 := (cell_keep (hb2.block _ lf) 0).trans f0; have d1 := (cell_keep (hb2.block _ lf) 1).trans f1; have HB2 := Lib.hid hb2; clear hb2)
  all_goals go_wp2_with fail
  all_goals exact hN _ _ (id ⟨rfl, rfl, rfl, rfl, rfl, rfl, rfl, rfl, rfl, trivial⟩) (by first | exact HB2.out | exact HB2.out.trans (show Below w.heap.size w2 _ by go_grown))
noncomputable def c_lm_r9 : Code := sub [1, 1, 1, 1, 1, 1, 0, 0] (Tryd.f3.body.getD .skip)
set_option maxRecDepth 1000000 in
set_option maxHeartbeats 16000000 in
theorem lm_r9_wp {Q : Exit → Act → World → Prop} {gi g5 g7 g9 : Nat} {x : ByteArray} {u : Value} {w : World} (g0 : w.cell? ⟨0, 0, none⟩ = some (.int .i64 0)) (g1 : w.cell? ⟨0, 1, none⟩ = some (.int .i64 0)) (h5 : w.heap[g5]? = some (.cells #[.int .i64 0, .int .i64 0] 27 (0, 0))) (hN : ∀ a', Frm 89 [(1, .pointer (some ⟨gi, 0, none⟩)), (5, .pointer (some ⟨g5, 0, none⟩)), (6, .string x), (7, .pointer (some ⟨g7, 0, none⟩)), (8, u), (9, .pointer (some ⟨g9, 0, none⟩)), (47, .bool false)] a' → Q .normal a' w) : ∀ ac, Frm 89 [(1, .pointer (some ⟨gi, 0, none⟩)), (5, .pointer (some ⟨g5, 0, none⟩)), (6, .string x), (7, .pointer (some ⟨g7, 0, none⟩)), (8, u), (9, .pointer (some ⟨g9, 0, none⟩))] ac → Code.wp Tryd.prog c_lm_r9 Q ac w := by
  refine frm_open ?_
  refine frame_lm ?_
  intros
  rename_i hq
  obtain ⟨-, -, e0q, e1q, e2q, e3q, e4q, e5q, -⟩ := hq
  have e0q := (Option.some.inj e0q).symm; subst e0q
  have e1q := (Option.some.inj e1q).symm; subst e1q
  have e2q := (Option.some.inj e2q).symm; subst e2q
  have e3q := (Option.some.inj e3q).symm; subst e3q
  have e4q := (Option.some.inj e4q).symm; subst e4q
  have e5q := (Option.some.inj e5q).symm; subst e5q
  conv => arg 2; whnf
  have e0 := cellv h5 0 rfl
  have e1 := cellv h5 1 rfl
  have le := lt_heap h5
  have lg := World.block_lt_of_cell? w _ g0
  clear h5
  have HN := Lib.hid hN
  clear hN
  go_wp2_with fail
  exact HN.out _ (id ⟨rfl, rfl, rfl, rfl, rfl, rfl, rfl, rfl, rfl, trivial⟩)
noncomputable def c_lm_r9c : Code := sub [1, 1, 1, 1, 1, 1, 0, 0] (Tryd.f3.body.getD .skip)
set_option maxRecDepth 1000000 in
set_option maxHeartbeats 16000000 in
theorem lm_r9c_wp {Q : Exit → Act → World → Prop} {c j : Nat} {gi g5 g7 g9 : Nat} {x : ByteArray} {u : Value} {w : World} (g0 : w.cell? ⟨0, 0, none⟩ = some (.int .i64 0)) (g1 : w.cell? ⟨0, 1, none⟩ = some (.int .i64 0)) (hcz : c ≠ 0) (h5 : w.heap[g5]? = some (.cells #[.int .i64 (c : Nat), .int .i64 (j : Nat)] 27 (0, 0))) (hN : ∀ a', Frm 89 [(1, .pointer (some ⟨gi, 0, none⟩)), (5, .pointer (some ⟨g5, 0, none⟩)), (6, .string x), (7, .pointer (some ⟨g7, 0, none⟩)), (8, u), (9, .pointer (some ⟨g9, 0, none⟩)), (47, .bool true)] a' → Q .normal a' w) : ∀ ac, Frm 89 [(1, .pointer (some ⟨gi, 0, none⟩)), (5, .pointer (some ⟨g5, 0, none⟩)), (6, .string x), (7, .pointer (some ⟨g7, 0, none⟩)), (8, u), (9, .pointer (some ⟨g9, 0, none⟩))] ac → Code.wp Tryd.prog c_lm_r9c Q ac w := by
  refine frm_open ?_
  refine frame_lm ?_
  intros
  rename_i hq
  obtain ⟨-, -, e0q, e1q, e2q, e3q, e4q, e5q, -⟩ := hq
  have e0q := (Option.some.inj e0q).symm; subst e0q
  have e1q := (Option.some.inj e1q).symm; subst e1q
  have e2q := (Option.some.inj e2q).symm; subst e2q
  have e3q := (Option.some.inj e3q).symm; subst e3q
  have e4q := (Option.some.inj e4q).symm; subst e4q
  have e5q := (Option.some.inj e5q).symm; subst e5q
  conv => arg 2; whnf
  have e0 := cellv h5 0 rfl
  have e1 := cellv h5 1 rfl
  have le := lt_heap h5
  have lg := World.block_lt_of_cell? w _ g0
  clear h5
  have t1 : ((c : Int) == 0) = false := beq_eq_false_iff_ne.2 (by omega)
  have HN := Lib.hid hN
  clear hN
  go_wp2_with fail
  exact HN.out _ (id ⟨rfl, rfl, rfl, rfl, rfl, rfl, rfl, rfl, rfl, trivial⟩)
noncomputable def c_lm_r10 : Code := sub [1, 1, 1, 1, 1, 1, 0, 1, 0, 0] (Tryd.f3.body.getD .skip)
set_option maxRecDepth 1000000 in
set_option maxHeartbeats 16000000 in
theorem lm_r10_wp {Q : Exit → Act → World → Prop} {c j : Nat} {gi g5 g7 g9 : Nat} {w : World} (h5 : w.heap[g5]? = some (.cells #[.int .i64 (c : Nat), .int .i64 (j : Nat)] 27 (0, 0))) (h7 : w.heap[g7]? = some (.cells #[.int .i64 (c : Nat), .int .i64 (j : Nat)] 27 (0, 0))) (hN : ∀ a', Frm 89 [(2, .bool true)] a' → Q .normal a' w) : ∀ ac, Frm 89 [(1, .pointer (some ⟨gi, 0, none⟩)), (5, .pointer (some ⟨g5, 0, none⟩)), (6, .string (⟨#[]⟩ : ByteArray)), (7, .pointer (some ⟨g7, 0, none⟩)), (8, .slice none 0 0), (9, .pointer (some ⟨g9, 0, none⟩))] ac → Code.wp Tryd.prog c_lm_r10 Q ac w := by
  refine frm_open ?_
  refine frame_lm ?_
  intros
  rename_i hq
  obtain ⟨-, -, e0q, e1q, e2q, e3q, e4q, e5q, -⟩ := hq
  have e0q := (Option.some.inj e0q).symm; subst e0q
  have e1q := (Option.some.inj e1q).symm; subst e1q
  have e2q := (Option.some.inj e2q).symm; subst e2q
  have e3q := (Option.some.inj e3q).symm; subst e3q
  have e4q := (Option.some.inj e4q).symm; subst e4q
  have e5q := (Option.some.inj e5q).symm; subst e5q
  conv => arg 2; whnf
  have e0 := cellv h5 0 rfl
  have e1 := cellv h5 1 rfl
  have le := lt_heap h5
  have f0 := cellv h7 0 rfl
  have f1 := cellv h7 1 rfl
  have lf := lt_heap h7
  clear h5 h7
  have t1 : (⟨#[]⟩ : ByteArray).toList.isEmpty = true := by simp [ByteArray.toList_eq]
  have HN := Lib.hid hN
  clear hN
  go_wp2_with fail
  exact HN.out _ (id ⟨rfl, rfl, rfl, trivial⟩)
noncomputable def c_lm_r11 : Code := sub [1, 1, 1, 1, 1, 1, 1, 0, 0] (Tryd.f3.body.getD .skip)
set_option maxRecDepth 1000000 in
set_option maxHeartbeats 16000000 in
theorem lm_r11_wp {Q : Exit → Act → World → Prop} {y : ByteArray} {gi g5 g7 g9 : Nat} {x : ByteArray} {u : Value} {w : World} {t : Fm} {At Bt : Option Addr} {nt ct mt dt : Nat} (hgi : w.heap[gi]? = some (.cells #[.int .i64 t.lab.kind, .string t.lab.nm, .slice At nt ct, .slice Bt mt dt] 25 (0, 0))) (hc : Calls Tryd.prog 16 #[.agg #[.int .i64 t.lab.kind, .string t.lab.nm, .slice At nt ct, .slice Bt mt dt]] w fun e w' => e = .returned (.string y) ∧ Below w.heap.size w w') (hN : ∀ a' w', Frm 89 [(1, .pointer (some ⟨gi, 0, none⟩)), (5, .pointer (some ⟨g5, 0, none⟩)), (6, .string x), (7, .pointer (some ⟨g7, 0, none⟩)), (8, u), (9, .pointer (some ⟨g9, 0, none⟩)), (10, .string y)] a' → Below w.heap.size w w' → Q .normal a' w') : ∀ ac, Frm 89 [(1, .pointer (some ⟨gi, 0, none⟩)), (5, .pointer (some ⟨g5, 0, none⟩)), (6, .string x), (7, .pointer (some ⟨g7, 0, none⟩)), (8, u), (9, .pointer (some ⟨g9, 0, none⟩))] ac → Code.wp Tryd.prog c_lm_r11 Q ac w := by
  refine frm_open ?_
  refine frame_lm ?_
  intros
  rename_i hq
  obtain ⟨-, -, e0q, e1q, e2q, e3q, e4q, e5q, -⟩ := hq
  have e0q := (Option.some.inj e0q).symm; subst e0q
  have e1q := (Option.some.inj e1q).symm; subst e1q
  have e2q := (Option.some.inj e2q).symm; subst e2q
  have e3q := (Option.some.inj e3q).symm; subst e3q
  have e4q := (Option.some.inj e4q).symm; subst e4q
  have e5q := (Option.some.inj e5q).symm; subst e5q
  conv => arg 2; whnf
  have i0 := cellv hgi 0 rfl
  have i1 := cellv hgi 1 rfl
  have i2 := cellv hgi 2 rfl
  have i3 := cellv hgi 3 rfl
  have il := lt_heap hgi
  clear hgi
  have HN := Lib.hid hN
  have HC := Lib.hid hc
  clear hN hc
  go_wp2_with fail
  (with_reducible refine HC.out.mono ?_)
  rintro e w1 ⟨rfl, hb1⟩
  have HB1 := Lib.hid hb1
  clear hb1
  go_wp2_with fail
  exact HN.out _ _ (id ⟨rfl, rfl, rfl, rfl, rfl, rfl, rfl, rfl, rfl, trivial⟩) HB1.out
noncomputable def c_lm_r12 : Code := sub [1, 1, 1, 1, 1, 1, 1, 0, 1, 0] (Tryd.f3.body.getD .skip)
set_option maxRecDepth 1000000 in
set_option maxHeartbeats 16000000 in
theorem lm_r12_wp {Q : Exit → Act → World → Prop} {y : ByteArray} {gi g5 g7 g9 : Nat} {x : ByteArray} {u : Value} {w : World} (hN : ∀ a', Frm 89 [(1, .pointer (some ⟨gi, 0, none⟩)), (5, .pointer (some ⟨g5, 0, none⟩)), (6, .string x), (7, .pointer (some ⟨g7, 0, none⟩)), (8, u), (9, .pointer (some ⟨g9, 0, none⟩)), (10, .string y), (64, .bool (decide (4000 < y.size)))] a' → Q .normal a' w) : ∀ ac, Frm 89 [(1, .pointer (some ⟨gi, 0, none⟩)), (5, .pointer (some ⟨g5, 0, none⟩)), (6, .string x), (7, .pointer (some ⟨g7, 0, none⟩)), (8, u), (9, .pointer (some ⟨g9, 0, none⟩)), (10, .string y)] ac → Code.wp Tryd.prog c_lm_r12 Q ac w := by
  refine frm_open ?_
  refine frame_lm ?_
  intros
  rename_i hq
  obtain ⟨-, -, e0q, e1q, e2q, e3q, e4q, e5q, e6q, -⟩ := hq
  have e0q := (Option.some.inj e0q).symm; subst e0q
  have e1q := (Option.some.inj e1q).symm; subst e1q
  have e2q := (Option.some.inj e2q).symm; subst e2q
  have e3q := (Option.some.inj e3q).symm; subst e3q
  have e4q := (Option.some.inj e4q).symm; subst e4q
  have e5q := (Option.some.inj e5q).symm; subst e5q
  have e6q := (Option.some.inj e6q).symm; subst e6q
  conv => arg 2; whnf
  by_cases h : 4000 < y.size
  · have t1 : decide ((4000 : Int) < (y.size : Int)) = true := decide_eq_true (by omega)
    have t2 : decide (4000 < y.size) = true := decide_eq_true h
    rw [t2] at hN
    clear h
    have HN := Lib.hid hN
    clear hN
    go_wp2_with fail
    exact HN.out _ (id ⟨rfl, rfl, rfl, rfl, rfl, rfl, rfl, rfl, rfl, rfl, trivial⟩)
  · have t1 : decide ((4000 : Int) < (y.size : Int)) = false := decide_eq_false (by omega)
    have t2 : decide (4000 < y.size) = false := decide_eq_false h
    rw [t2] at hN
    clear h
    have HN := Lib.hid hN
    clear hN
    go_wp2_with fail
    exact HN.out _ (id ⟨rfl, rfl, rfl, rfl, rfl, rfl, rfl, rfl, rfl, rfl, trivial⟩)
noncomputable def c_lm_r13 : Code := sub [1, 1, 1, 1, 1, 1, 1, 0, 1, 1, 0, 0] (Tryd.f3.body.getD .skip)
set_option maxRecDepth 1000000 in
set_option maxHeartbeats 16000000 in
theorem lm_r13_wp {Q : Exit → Act → World → Prop} {y : ByteArray} {gi g5 g7 g9 : Nat} {u : Value} {w : World} (h7 : w.heap[g7]? = some (.cells #[.int .i64 1, .int .i64 0] 27 (0, 0))) (hN : ∀ a', Frm 89 [(1, .pointer (some ⟨gi, 0, none⟩)), (8, u), (76, .bool false)] a' → Q .normal a' w) : ∀ ac, Frm 89 [(1, .pointer (some ⟨gi, 0, none⟩)), (5, .pointer (some ⟨g5, 0, none⟩)), (6, .string (⟨#[]⟩ : ByteArray)), (7, .pointer (some ⟨g7, 0, none⟩)), (8, u), (9, .pointer (some ⟨g9, 0, none⟩)), (10, .string y)] ac → Code.wp Tryd.prog c_lm_r13 Q ac w := by
  refine frm_open ?_
  refine frame_lm ?_
  intros
  rename_i hq
  obtain ⟨-, -, e0q, e1q, e2q, e3q, e4q, e5q, e6q, -⟩ := hq
  have e0q := (Option.some.inj e0q).symm; subst e0q
  have e1q := (Option.some.inj e1q).symm; subst e1q
  have e2q := (Option.some.inj e2q).symm; subst e2q
  have e3q := (Option.some.inj e3q).symm; subst e3q
  have e4q := (Option.some.inj e4q).symm; subst e4q
  have e5q := (Option.some.inj e5q).symm; subst e5q
  have e6q := (Option.some.inj e6q).symm; subst e6q
  conv => arg 2; whnf
  have f0 := cellv h7 0 rfl
  have f1 := cellv h7 1 rfl
  have lf := lt_heap h7
  clear h7
  have t1 : (⟨#[]⟩ : ByteArray).toList.isEmpty = true := by simp [ByteArray.toList_eq]
  have HN := Lib.hid hN
  clear hN
  go_wp2_with fail
  exact HN.out _ (id ⟨rfl, rfl, rfl, rfl, rfl, trivial⟩)
noncomputable def c_lm_r15 : Code := sub [1, 1, 1, 1, 1, 1, 1, 0, 1, 1, 1, 0] (Tryd.f3.body.getD .skip)
set_option maxRecDepth 1000000 in
set_option maxHeartbeats 16000000 in
theorem lm_r15_wp {Q : Exit → Act → World → Prop} {y : ByteArray} {gi g5 g7 g9 : Nat} {u : Value} {w : World} (g0 : w.cell? ⟨0, 0, none⟩ = some (.int .i64 0)) (g1 : w.cell? ⟨0, 1, none⟩ = some (.int .i64 0)) (h7 : w.heap[g7]? = some (.cells #[.int .i64 0, .int .i64 0] 27 (0, 0))) (hN : ∀ a', Frm 89 [(1, .pointer (some ⟨gi, 0, none⟩)), (8, u), (84, .bool false)] a' → Q .normal a' w) : ∀ ac, Frm 89 [(1, .pointer (some ⟨gi, 0, none⟩)), (5, .pointer (some ⟨g5, 0, none⟩)), (6, .string y), (7, .pointer (some ⟨g7, 0, none⟩)), (8, u), (9, .pointer (some ⟨g9, 0, none⟩)), (10, .string y)] ac → Code.wp Tryd.prog c_lm_r15 Q ac w := by
  refine frm_open ?_
  refine frame_lm ?_
  intros
  rename_i hq
  obtain ⟨-, -, e0q, e1q, e2q, e3q, e4q, e5q, e6q, -⟩ := hq
  have e0q := (Option.some.inj e0q).symm; subst e0q
  have e1q := (Option.some.inj e1q).symm; subst e1q
  have e2q := (Option.some.inj e2q).symm; subst e2q
  have e3q := (Option.some.inj e3q).symm; subst e3q
  have e4q := (Option.some.inj e4q).symm; subst e4q
  have e5q := (Option.some.inj e5q).symm; subst e5q
  have e6q := (Option.some.inj e6q).symm; subst e6q
  conv => arg 2; whnf
  have f0 := cellv h7 0 rfl
  have f1 := cellv h7 1 rfl
  have lf := lt_heap h7
  have lg := World.block_lt_of_cell? w _ g0
  clear h7
  have t1 : (y.toList == y.toList) = true := beq_self_eq_true _
  have HN := Lib.hid hN
  clear hN
  go_wp2_with fail
  exact HN.out _ (id ⟨rfl, rfl, rfl, rfl, rfl, trivial⟩)
noncomputable def c_lm_r17 : Code := sub [1, 1, 1, 1, 1, 1, 1, 1, 0] (Tryd.f3.body.getD .skip)
set_option maxRecDepth 1000000 in
set_option maxHeartbeats 16000000 in
theorem lm_r17_wp {Q : Exit → Act → World → Prop} {gi : Nat} {u : Value} {w : World} {t : Fm} {At Bt : Option Addr} {nt ct mt dt : Nat} (hgi : w.heap[gi]? = some (.cells #[.int .i64 t.lab.kind, .string t.lab.nm, .slice At nt ct, .slice Bt mt dt] 25 (0, 0))) {PP : Value → World → Prop} (hc : Calls Tryd.prog 18 #[.agg #[.int .i64 t.lab.kind, .string t.lab.nm, .slice At nt ct, .slice Bt mt dt]] w fun e w' => ∃ v, e = .returned v ∧ PP v w') (he : ∀ v W, PP v W → Calls Tryd.prog 17 #[u, v] W fun e w' => e = .returned (.bool true) ∧ Below w.heap.size w w') (hN : ∀ a' w', Frm 89 [(2, .bool true)] a' → Below w.heap.size w w' → Q .normal a' w') : ∀ ac, Frm 89 [(1, .pointer (some ⟨gi, 0, none⟩)), (8, u)] ac → Code.wp Tryd.prog c_lm_r17 Q ac w := by
  refine frm_open ?_
  refine frame_lm ?_
  intros
  rename_i hq
  obtain ⟨-, -, e0q, e1q, -⟩ := hq
  have e0q := (Option.some.inj e0q).symm; subst e0q
  have e1q := (Option.some.inj e1q).symm; subst e1q
  conv => arg 2; whnf
  have i0 := cellv hgi 0 rfl
  have i1 := cellv hgi 1 rfl
  have i2 := cellv hgi 2 rfl
  have i3 := cellv hgi 3 rfl
  have il := lt_heap hgi
  clear hgi
  have HN := Lib.hid hN
  have HC := Lib.hid hc
  have HE := Lib.hid he
  clear hN hc he
  go_wp2_with fail
  (with_reducible refine HC.out.mono ?_)
  rintro e w1 ⟨v, rfl, hp⟩
  have he1 := HE.out v w1 hp
  clear hp
  have HE1 := Lib.hid he1
  clear he1
  go_wp2_with fail
  (with_reducible refine HE1.out.mono ?_)
  rintro e w2 ⟨rfl, hb2⟩
  have HB2 := Lib.hid hb2
  clear hb2
  go_wp2_with fail
  exact HN.out _ _ (id ⟨rfl, rfl, rfl, trivial⟩) HB2.out
set_option maxRecDepth 1000000 in
theorem lm_ret_wp {R : Ending → World → Prop} {w' : World} (hR : R (.returned (.bool true)) w') : ∀ ac, Frm 89 [(2, .bool true)] ac → bodyPost Tryd.prog Tryd.f3 R .ret ac w' := by
  refine frm_open ?_
  refine frame_lm ?_
  intros
  rename_i hq
  obtain ⟨-, -, e0q, -⟩ := hq
  have e0q := (Option.some.inj e0q).symm; subst e0q
  refine bodyPost_ret (v := .bool true) (by simp [results, Tryd.results3, go_sem]) rfl ?_
  exact hR
set_option maxRecDepth 100000 in
set_option maxHeartbeats 4000000 in
theorem fMatchesLaw_any (t : Fm) (cs : List Value) (w : World) (S : Nat → Prop) (ht : fmRepC.R w S t cs) (hS : ∀ b, S b → b < w.heap.size) (g0 : w.cell? ⟨0, 0, none⟩ = some (.int .i64 0)) (g1 : w.cell? ⟨0, 1, none⟩ = some (.int .i64 0)) : Calls Tryd.prog 3 #[.agg cs.toArray] w fun e w' => e = .returned (.bool true) ∧ Below w.heap.size w w' := by
  obtain ⟨At, nt, ct, Bt, mt, dt, rfl, _, _, _, _⟩ := Fm.shape (Fm.ofC ht)
  go_enter Tryd.func3, Tryd.ntmps3
  have lg := World.block_lt_of_cell? w _ g0
  have hret : ∀ a' w', Frm 89 [(2, .bool true)] a' → Below w.heap.size w w' → bodyPost Tryd.prog Tryd.f3 (fun e w' => e = .returned (.bool true) ∧ Below w.heap.size w w') .ret a' w' := fun a' w' h hb => lm_ret_wp ⟨rfl, hb⟩ a' h
  have hsz := fun (W : World) (hb : Below w.heap.size w W) => fun b hb' => Nat.lt_of_lt_of_le (hS b hb') hb.size
  have gg := fun (W : World) (hb : Below w.heap.size w W) => And.intro ((hb.cell (p := ⟨0, 0, none⟩) lg).trans g0) ((hb.cell (p := ⟨0, 1, none⟩) lg).trans g1)
  have hold := fun (W : World) (hb : Below w.heap.size w W) => fmRepC.keep (w' := W) (S' := S) ht (fun b hbS => hb.block b (hS b hbS)) (fun _ h => h)
  refine wp_seq ?_
  refine lm_r0_wp (fun a0 w0 h0 hgi hz0 hb0 => ?_) _ (id ⟨rfl, rfl, rfl, trivial⟩)
  refine wp_seq ?_
  refine wp_seq ?_
  refine lm_r1_wp (fun ge a1 w1 h1 hge hb1' => ?_) a0 h0
  have hb1 := hb0.trans (hb1'.mono hb0.size)
  refine wp_seq ?_
  refine lm_r2_wp (gg _ hb1).1 (gg _ hb1).2 hge (fun a2 h2 => ?_) a1 h1
  refine wp_cond_false ((h2.eval (k := 23) (v := .bool false) (by simp)).trans rfl) ?_
  refine wp_skip ?_
  show Code.wp _ _ _ a2 w1
  have hgi1 := (hb1'.block _ hz0).trans hgi
  refine wp_seq ?_
  refine lm_r4_wp hgi1 (refFormFault_any t _ w1 S (Fm.ofC (hold w1 hb1)) (hsz w1 hb1)) (fun g5 a3 w3 h3 hg5 hb3' => ?_) a2 ⟨h2.1, h2.2.1, h2.2.2.1, trivial⟩
  have hb3 := hb1.trans (hb3'.mono hb1.size)
  have hgi3 := (hb3'.block _ (lt_heap hgi1)).trans hgi1
  have hpr : Calls Tryd.prog 11 #[.agg #[.int .i64 t.lab.kind, .string t.lab.nm, .slice At nt ct, .slice Bt mt dt]] w3 fun e w' => (∃ (x : ByteArray) (c j : Nat), e = .returned (.tuple #[.string x, .agg #[.int .i64 (c : Nat), .int .i64 (j : Nat)]]) ∧ (((fmFault t).1 ≠ 0 → x = ⟨#[]⟩ ∧ c = (fmFault t).1 ∧ j = (fmFault t).2) ∧ (∀ v : Fv, t = v.fm → v.ok → (fmFault t).1 = 0 → (4000 < v.text.length → x = ⟨#[]⟩ ∧ c = 1 ∧ j = 0) ∧ (v.text.length ≤ 4000 → x = ⟨v.text.toArray⟩ ∧ c = 0 ∧ j = 0)))) ∧ Below w3.heap.size w3 w' := by
    refine (printFm_any t _ w3 S (hold w3 hb3) (hsz w3 hb3)).mono ?_
    rintro e w' ⟨hpa, hb⟩
    refine ⟨?_, hb⟩
    by_cases hf : (fmFault t).1 = 0
    · obtain ⟨v, rfl, ov, nv, dv, _⟩ := fmFault_zero hf
      obtain ⟨h1, h2⟩ := hpa.2 v rfl ov hf
      by_cases hl : 4000 < v.text.length
      · exact ⟨_, 1, 0, h1 hl, fun h => absurd hf h, fun u hu ou _ => by obtain rfl := Fv.fm_inj _ _ ov ou hu; exact ⟨fun _ => ⟨rfl, rfl, rfl⟩, fun h => absurd hl (by omega)⟩⟩
      · exact ⟨_, 0, 0, h2 (by omega), fun h => absurd hf h, fun u hu ou _ => by obtain rfl := Fv.fm_inj _ _ ov ou hu; exact ⟨fun h => absurd h hl, fun _ => ⟨rfl, rfl, rfl⟩⟩⟩
    · exact ⟨_, _, _, hpa.1 hf, fun _ => ⟨rfl, rfl, rfl⟩, fun v _ _ h => absurd h hf⟩
  refine wp_seq ?_
  refine lm_r5_wp hgi3 hpr (fun x c1 j1 g7 a4 w4 h4 hpp hg7 hb4' => ?_) a3 h3
  have hb4 := hb3.trans (hb4'.mono hb3.size)
  have hgi4 := (hb4'.block _ (lt_heap hgi3)).trans hgi3
  have hg54 := (hb4'.block _ (lt_heap hg5)).trans hg5
  refine wp_seq ?_
  refine lm_r6_wp (PP := fun u w' => ((fmFault t).1 ≠ 0 → u = .slice none 0 0) ∧ ((fmFault t).1 = 0 → w'.ownsRow w4.heap.size 9 1 u (fmConsts t).length ((fmConsts t).map .string))) hgi4 (free_any t _ w4 S (Fm.ofC (hold w4 hb4)) (hsz w4 hb4)) (fun u wu g9 a5 w5 h5 hpu hbu hbu5 hg9 hb5' => ?_) a4 h4
  have hb5 := hb4.trans (hb5'.mono hb4.size)
  have hgi5 := (hb5'.block _ (lt_heap hgi4)).trans hgi4
  have hg55 := (hb5'.block _ (lt_heap hg54)).trans hg54
  have hg75 := (hb5'.block _ (lt_heap hg7)).trans hg7
  have hv5 : ∀ W : World, Below w5.heap.size w5 W → Calls Tryd.prog 15 #[.agg #[.int .i64 t.lab.kind, .string t.lab.nm, .slice At nt ct, .slice Bt mt dt]] W fun e w' => e = .returned (.agg #[.int .i64 ((fmFault t).1 : Nat), .int .i64 ((fmFault t).2 : Nat)]) ∧ Below w5.heap.size w5 w' := fun W hb => (validateFm_any t _ W S (Fm.ofC (hold W (hb5.trans (hb.mono hb5.size)))) (hsz W (hb5.trans (hb.mono hb5.size)))).mono (fun e w' h => ⟨h.1, hb.trans (h.2.mono hb.size)⟩)
  refine wp_seq ?_
  refine wp_seq ?_
  refine Code.wp_mono (Q := Exit.then (fun a' w' => Frm 89 [(1, .pointer (some ⟨w.heap.size, 0, none⟩)), (5, .pointer (some ⟨g5, 0, none⟩)), (6, .string x), (7, .pointer (some ⟨g7, 0, none⟩)), (8, u), (9, .pointer (some ⟨g9, 0, none⟩)), (44, .bool false)] a' ∧ Below w5.heap.size w5 w') (fun _ _ _ => False)) ?_ (lm_r7_wp hgi5 hg55 hg9 hv5 (fun a' w' h' hb' => ⟨h', hb'⟩) a5 h5)
  intro ex a6 w6 hx
  cases ex with
  | normal =>
    obtain ⟨h6, hb6'⟩ := hx
    have hb6 := hb5.trans (hb6'.mono hb5.size)
    have hgi6 := (hb6'.block _ (lt_heap hgi5)).trans hgi5
    have hg56 := (hb6'.block _ (lt_heap hg55)).trans hg55
    have hg76 := (hb6'.block _ (lt_heap hg75)).trans hg75
    show Code.wp _ _ _ a6 w6
    refine wp_cond_false ((h6.eval (k := 44) (v := .bool false) (by simp)).trans rfl) ?_
    refine wp_skip ?_
    show Code.wp _ _ _ a6 w6
    refine wp_seq ?_
    refine wp_seq ?_
    by_cases hf : (fmFault t).1 = 0
    case neg =>
      obtain ⟨rfl, rfl, rfl⟩ := hpp.1 hf
      obtain rfl := hpu.1 hf
      refine lm_r9c_wp (gg _ hb6).1 (gg _ hb6).2 hf hg56 (fun a7 h7 => ?_) a6 ⟨h6.1, h6.2.1, h6.2.2.1, h6.2.2.2.1, h6.2.2.2.2.1, h6.2.2.2.2.2.1, h6.2.2.2.2.2.2.1, h6.2.2.2.2.2.2.2.1, trivial⟩
      refine wp_cond_true ((h7.eval (k := 47) (v := .bool true) (by simp)).trans rfl) ?_
      refine wp_seq ?_
      refine lm_r10_wp hg56 hg76 (fun a8 h8 => ?_) a7 ⟨h7.1, h7.2.1, h7.2.2.1, h7.2.2.2.1, h7.2.2.2.2.1, h7.2.2.2.2.2.1, h7.2.2.2.2.2.2.1, h7.2.2.2.2.2.2.2.1, trivial⟩
      refine wp_ret ?_
      exact hret a8 _ h8 hb6
    obtain ⟨v, rfl, ov, nv, dv, ev⟩ := fmFault_zero hf
    change w6.heap[g5]? = some (.cells #[.int .i64 ((fmFault v.fm).1 : Nat), .int .i64 ((fmFault v.fm).2 : Nat)] 27 (0, 0)) at hg56
    rw [ev] at hg56
    refine lm_r9_wp (gg _ hb6).1 (gg _ hb6).2 hg56 (fun a7 h7 => ?_) a6 ⟨h6.1, h6.2.1, h6.2.2.1, h6.2.2.2.1, h6.2.2.2.2.1, h6.2.2.2.2.2.1, h6.2.2.2.2.2.2.1, h6.2.2.2.2.2.2.2.1, trivial⟩
    refine wp_cond_false ((h7.eval (k := 47) (v := .bool false) (by simp)).trans rfl) ?_
    refine wp_skip ?_
    show Code.wp _ _ _ a7 w6
    refine wp_seq ?_
    refine wp_seq ?_
    refine lm_r11_wp hgi6 (refText_any v ov _ w6 S (Fm.ofC (hold w6 hb6)) (hsz w6 hb6) (by omega)) (fun a8 w8 h8 hb8' => ?_) a7 ⟨h7.1, h7.2.1, h7.2.2.1, h7.2.2.2.1, h7.2.2.2.2.1, h7.2.2.2.2.2.1, h7.2.2.2.2.2.2.1, h7.2.2.2.2.2.2.2.1, trivial⟩
    have hb8 := hb6.trans (hb8'.mono hb6.size)
    have hgi8 := (hb8'.block _ (lt_heap hgi6)).trans hgi6
    have hg78 := (hb8'.block _ (lt_heap hg76)).trans hg76
    have hxs : (⟨v.text.toArray⟩ : ByteArray).size = v.text.length := by simp [ByteArray.size]
    obtain ⟨hp1, hp2⟩ := hpp.2 v rfl ov hf
    have fin : ∀ a9, Frm 89 [(1, .pointer (some ⟨w.heap.size, 0, none⟩)), (8, u)] a9 → Code.wp Tryd.prog (sub [1, 1, 1, 1, 1, 1, 1, 1] (Tryd.f3.body.getD .skip)) (bodyPost Tryd.prog Tryd.f3 (fun e w' => e = .returned (.bool true) ∧ Below w.heap.size w w')) a9 w8 := by
      intro a9 h9
      conv => arg 2; whnf
      have hfl := v.frees_len [] ov
      have hnd := v.fm_nodes
      have hcst := refConstsOf_any v.fm _ w8 S (Fm.ofC (hold w8 hb8)) (hsz w8 hb8) (by omega) (by omega)
      have hbu8 : Below wu.heap.size wu w8 := hbu5.trans ((hb6'.mono hbu5.size).trans (hb8'.mono (Nat.le_trans hbu5.size hb6'.size)))
      have hru := rowGrownF (hpu.2 hf) (fun k hk _ => hbu8.block k hk)
      refine wp_seq ?_
      refine lm_r17_wp hgi8 hcst (fun v9 W hp => ?_) (fun a10 w10 h10 hb10 => ?_) a9 h9
      · obtain ⟨hr, hz, hbW⟩ := hp
        have hruW := rowGrownF hru (fun k hk _ => hbW.block k hk)
        have hlen : (fmConsts v.fm).length ≤ maxLen := by
          have h9 : (fmConsts v.fm).length ≤ (fmFrees [] v.fm).length := by
            unfold fmConsts
            rw [← puts_consts]
            have := puts_len (fmFrees [] v.fm) []
            simpa using this
          unfold maxLen; omega
        refine (eqStrs_self (fmConsts v.fm) u v9 W (fun k => k < W.heap.size) (sl_of_row hruW hz hlen (fun k hk => (hruW.lt k hk).2)) (sl_of_row hr hz hlen (fun k hk => (hr.lt k hk).2)) (fun b hb => hb)).mono ?_
        rintro e w' ⟨rfl, hb⟩
        exact ⟨rfl, hbW.trans (hb.mono hbW.size)⟩
      · refine wp_ret ?_
        exact hret a10 _ h10 (hb8.trans (hb10.mono hb8.size))
    refine wp_seq ?_
    refine lm_r12_wp (fun a9 h9 => ?_) a8 h8
    by_cases hl : 4000 < (⟨v.text.toArray⟩ : ByteArray).size
    · refine wp_cond_true ((h9.eval (k := 64) (v := .bool (decide (4000 < (⟨v.text.toArray⟩ : ByteArray).size))) (by simp)).trans (by rw [decide_eq_true hl])) ?_
      obtain ⟨rfl, rfl, rfl⟩ := hp1 (by omega)
      refine wp_seq ?_
      refine lm_r13_wp hg78 (fun a10 h10 => ?_) a9 ⟨h9.1, h9.2.1, h9.2.2.1, h9.2.2.2.1, h9.2.2.2.2.1, h9.2.2.2.2.2.1, h9.2.2.2.2.2.2.1, h9.2.2.2.2.2.2.2.1, h9.2.2.2.2.2.2.2.2.1, trivial⟩
      refine wp_cond_false ((h10.eval (k := 76) (v := .bool false) (by simp)).trans rfl) ?_
      refine wp_skip ?_
      exact fin a10 ⟨h10.1, h10.2.1, h10.2.2.1, h10.2.2.2.1, trivial⟩
    · refine wp_cond_false ((h9.eval (k := 64) (v := .bool (decide (4000 < (⟨v.text.toArray⟩ : ByteArray).size))) (by simp)).trans (by rw [decide_eq_false hl])) ?_
      obtain ⟨rfl, rfl, rfl⟩ := hp2 (by omega)
      refine wp_seq ?_
      refine lm_r15_wp (gg _ hb8).1 (gg _ hb8).2 hg78 (fun a10 h10 => ?_) a9 ⟨h9.1, h9.2.1, h9.2.2.1, h9.2.2.2.1, h9.2.2.2.2.1, h9.2.2.2.2.2.1, h9.2.2.2.2.2.2.1, h9.2.2.2.2.2.2.2.1, h9.2.2.2.2.2.2.2.2.1, trivial⟩
      refine wp_cond_false ((h10.eval (k := 84) (v := .bool false) (by simp)).trans rfl) ?_
      refine wp_skip ?_
      exact fin a10 ⟨h10.1, h10.2.1, h10.2.2.1, h10.2.2.2.1, trivial⟩
  | _ => exact hx.elim

end Go.Proofs.YtdofemkfmkopcaaDoor
