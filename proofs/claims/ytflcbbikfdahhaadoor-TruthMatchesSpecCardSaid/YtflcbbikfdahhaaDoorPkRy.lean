/- Lemmas. -/
import Derived.Test.YtflcbbikfdahhaaDoorPkRx
namespace Go.Proofs.YtflcbbikfdahhaaDoor
open Go Go.RowKit
set_option linter.unusedSimpArgs false
set_option linter.unusedVariables false
noncomputable section
set_option maxRecDepth 1000000
set_option maxHeartbeats 16000000
variable {Q : Exit → Act → World → Prop} {z kd c j : Int} {Am Bm A B : Option Addr} {nm1 cm nm2 dm n1 c1 n2 c2 gm gf gy gx : Nat} {nm : ByteArray} {s_2 s_3 s_7 s_8 : Value} {bb : Bool} {w : World}

theorem frame_lm {P : Act → Prop} (h : ∀ x0 x1 x2 x3 x4 x5 x6 x7 x8 x9 x10 x11 x12 x13 x14 x15 x16 x17 x18 x19 x20 x21 x22 x23 x24 x25 x26 x27 x28 x29 x30 x31 x32 x33 x34 x35 x36 x37 x38 x39 x40 x41 x42 x43 x44 x45 x46 x47 x48 x49 x50 x51 x52 : Value, P ⟨(x0 :: x1 :: x2 :: x3 :: x4 :: x5 :: x6 :: x7 :: x8 :: x9 :: x10 :: x11 :: x12 :: x13 :: x14 :: x15 :: x16 :: x17 :: x18 :: x19 :: x20 :: x21 :: x22 :: x23 :: x24 :: x25 :: x26 :: x27 :: x28 :: x29 :: x30 :: x31 :: x32 :: x33 :: x34 :: x35 :: x36 :: x37 :: x38 :: x39 :: x40 :: x41 :: x42 :: x43 :: x44 :: x45 :: x46 :: x47 :: x48 :: x49 :: x50 :: x51 :: x52 :: []).toArray, []⟩) : ∀ a : Act, a.tmps.toList.length = 53 → a.defers = [] → P a := by
  rintro ⟨⟨l⟩, d⟩ hs hd
  simp only at hd
  subst hd
  revert l
  show ∀ l : List Value, l.length = 53 → P ⟨⟨l⟩, []⟩
  iterate 53 refine openS (fun _ => ?_)
  refine open0 ?_
  exact h ..
noncomputable def cF3 : Code := Tryd.f3.body.getD .skip
def c_lm_r0 := sp 99 2 cF3
theorem lm_r0_wp {wo : World} (hN : ∀ a', Frm 53 [(2, .pointer (some ⟨wo.heap.size, 0, none⟩)), (3, .pointer (some ⟨(wo.heap.size + 1), 0, none⟩))] a' → Q .normal a' ((wo.alloc (.cells #[.int .i64 z, .slice Am nm1 cm, .slice Bm nm2 dm] 25)).alloc (.cells #[.int .i64 kd, .string nm, .slice A n1 c1, .slice B n2 c2] 29))) : ∀ ac, Frm 53 [(0, .agg #[.int .i64 z, .slice Am nm1 cm, .slice Bm nm2 dm]), (1, .agg #[.int .i64 kd, .string nm, .slice A n1 c1, .slice B n2 c2])] ac → Code.wp Tryd.prog c_lm_r0 Q ac wo := by
  refine fO (frame_lm ?_)
  intros
  rename_i hq
  iterate 2 (obtain ⟨e,hq⟩ := hq; obtain rfl := sI e; clear e)
  clear hq
  conv => arg 2; whnf
  replace hN := Lib.hid hN
  go_wp2_with fail
  exact hN.out _ (id ⟨rfl, rfl, rfl, rfl, trivial⟩)
def c_lm_r1 := sp 99 9 cF3
theorem lm_r1_wp (hc : ∀ (W : World) (ms cs : List Value), mdSmall.In W (Lo W) ms → fmRep.R W (Lo W) exDog.fm cs → Below w.heap.size w W → Calls Tryd.prog 15 #[.agg ms.toArray, .agg cs.toArray] W fun e w' => e = .returned (.tuple #[.bool bb, .agg #[.int .i64 0, .int .i64 0]]) ∧ Below W.heap.size W w') (hN : ∀ ge a' w', Frm 53 [(2, s_2), (3, s_3), (5, .bool bb), (6, .pointer (some ⟨ge, 0, none⟩))] a' → w'.heap[ge]? = some (.cells #[.int .i64 0, .int .i64 0] 31 (0, 0)) → Below w.heap.size w w' → Q .normal a' w') : ∀ ac, Frm 53 [(2, s_2), (3, s_3)] ac → Code.wp Tryd.prog c_lm_r1 Q ac w := by
  refine fO (frame_lm ?_)
  intros
  rename_i hq
  iterate 2 (obtain ⟨e,hq⟩ := hq; obtain rfl := sI e; clear e)
  clear hq
  conv => arg 2; whnf
  have hp := fun (W : World) (g : Nat) => pred_any bDog (.slice (some ⟨g, 0, none⟩) 1 1) W ⟨_, _, _, rfl⟩
  unfold bDog at hp
  have hsm := fun W : World => small_any W
  have hk := fun (W W2 : World) (ms : List Value) (h : mdSmall.In W (Lo W) ms) (hb : Below W.heap.size W W2) => Md.In.keep (w' := W2) (S' := Lo W2) h (fun b h => hb.block b h) (fun b h => Nat.lt_of_lt_of_le h hb.size)
  have HN := Lib.hid hN
  have HP := Lib.hid hp
  have HSM := Lib.hid hsm
  have HC := Lib.hid hc
  have HK := Lib.hid hk
  clear hN hp hsm hc hk
  go_wp2_with fail
  (with_reducible refine (HSM.out _).mono ?_)
  rintro e w1 ⟨A1, c1, B1, d1, rfl, hin1, hb1⟩
  have hin1' := Md.In.keep (S' := Lo w1) hin1 (fun b hb => rfl) (fun b hb => hb.2)
  have HIN1 := Lib.hid hin1'
  have HB1 := Lib.hid hb1
  clear hin1 hin1' hb1
  go_wp2_with fail
  (with_reducible refine (HP.out _ _).mono ?_)
  rintro e w2 ⟨rfl, hb2⟩
  have hz1 := HB1.out.size
  have hz2 := hb2.size
  have hg2 := (hb2.block w1.heap.size (by simp)).trans (heap_alloc_new _ _)
  have hB12 : Below w1.heap.size w1 w2 := (show Below w1.heap.size w1 _ by go_grown).trans (hb2.mono (by simp))
  have hB2 : Below w.heap.size w w2 := HB1.out.trans (hB12.mono hz1)
  have HIN2 := Lib.hid (HK.out _ _ _ HIN1.out hB12)
  have hr2 : fmRep.R w2 (Lo w2) (Fv.pred bDog [⟨#[107, 105, 109]⟩]).fm [.int .i64 2, .string ⟨#[100, 111, 103]⟩, .slice (some ⟨w1.heap.size, 0, none⟩) 1 1, .slice none 0 0] := dog_rep (by decide +kernel) hg2 (by have := lt_heap hg2; exact this)
  have HR2 := Lib.hid hr2
  have HB2 := Lib.hid hB2
  clear hb2 hg2 hB12 hB2 hr2 hz2 hz1
  have HRX := Lib.hid (show fmRep.R w2 (Lo w2) exDog.fm _ from HR2.out)
  go_wp2_with fail
  (with_reducible refine (HC.out w2 _ _ HIN2.out HRX.out HB2.out).mono ?_)
  rintro e w9 ⟨rfl, hb9⟩
  have hz2 := HB2.out.size
  have HB9 := Lib.hid (HB2.out.trans (hb9.mono hz2))
  clear hb9 hz2
  go_wp2_with fail
  have hz9 := HB9.out.size
  exact HN.out w9.heap.size _ _ (by exact fR rfl rfl rfl) (heap_at rfl) (HB9.out.alloc hz9 _)
def c_lm_r2 := sp 99 21 cF3
theorem lm_r2_wp {ge : Nat} (g0 : w.cell? ⟨0, 0, none⟩ = some (.int .i64 0)) (g1 : w.cell? ⟨0, 1, none⟩ = some (.int .i64 0)) (he : w.heap[ge]? = some (.cells #[.int .i64 0, .int .i64 0] 31 (0, 0))) (hN : ∀ a', Frm 53 [(2, s_2), (3, s_3), (23, .bool false)] a' → Q .normal a' w) : ∀ ac, Frm 53 [(2, s_2), (3, s_3), (5, .bool true), (6, .pointer (some ⟨ge, 0, none⟩))] ac → Code.wp Tryd.prog c_lm_r2 Q ac w := by
  refine fO (frame_lm ?_)
  intros
  rename_i hq
  iterate 4 (obtain ⟨e,hq⟩ := hq; obtain rfl := sI e; clear e)
  clear hq
  conv => arg 2; whnf
  have e0 := cellv he 0 rfl
  have e1 := cellv he 1 rfl
  have el := lt_heap he
  have lg := World.block_lt_of_cell? w _ g0
  clear he
  replace hN := Lib.hid hN
  go_wp2_with fail
  exact hN.out _ (by exact fR rfl rfl rfl)
def c_lm_r4 := sp 99 11 cF3
theorem lm_r4_wp (hgm : w.heap[gm]? = some (.cells #[.int .i64 z, .slice Am nm1 cm, .slice Bm nm2 dm] 25 (0, 0))) (ha : w.heap[gf]? = some (.cells #[.int .i64 kd, .string nm, .slice A n1 c1, .slice B n2 c2] 29 (0, 0))) (hc : Calls Tryd.prog 15 #[.agg #[.int .i64 z, .slice Am nm1 cm, .slice Bm nm2 dm], .agg #[.int .i64 kd, .string nm, .slice A n1 c1, .slice B n2 c2]] w fun e w' => e = .returned (.tuple #[.bool bb, .agg #[.int .i64 c, .int .i64 j]]) ∧ Below w.heap.size w w') (hN : ∀ ge a' w', Frm 53 [(2, .pointer (some ⟨gm, 0, none⟩)), (3, .pointer (some ⟨gf, 0, none⟩)), (7, .bool bb), (8, .pointer (some ⟨ge, 0, none⟩))] a' → w'.heap[ge]? = some (.cells #[.int .i64 c, .int .i64 j] 31 (0, 0)) → Below w.heap.size w w' → Q .normal a' w') : ∀ ac, Frm 53 [(2, .pointer (some ⟨gm, 0, none⟩)), (3, .pointer (some ⟨gf, 0, none⟩))] ac → Code.wp Tryd.prog c_lm_r4 Q ac w := by
  refine fO (frame_lm ?_)
  intros
  rename_i hq
  iterate 2 (obtain ⟨e,hq⟩ := hq; obtain rfl := sI e; clear e)
  clear hq
  conv => arg 2; whnf
  have m0 := cellv hgm 0 rfl
  have m1 := cellv hgm 1 rfl
  have m2 := cellv hgm 2 rfl
  have ml := lt_heap hgm
  have a0 := cellv ha 0 rfl
  have a1 := cellv ha 1 rfl
  have a2 := cellv ha 2 rfl
  have a3 := cellv ha 3 rfl
  have al := lt_heap ha
  clear hgm ha
  have HN := Lib.hid hN
  have HC := Lib.hid hc
  clear hN hc
  go_wp2_with fail
  (with_reducible refine HC.out.mono ?_)
  rintro e w1 ⟨rfl, hb1⟩
  replace hb1 := Lib.hid hb1
  go_wp2_with fail
  have hz := hb1.out.size
  exact HN.out w1.heap.size _ _ (by exact fR rfl rfl rfl) (heap_at rfl) (hb1.out.alloc hz _)
def c_lm_r5 := sp 99 39 cF3
theorem lm_r5_wp (hgm : w.heap[gm]? = some (.cells #[.int .i64 z, .slice Am nm1 cm, .slice Bm nm2 dm] 25 (0, 0))) (ha : w.heap[gf]? = some (.cells #[.int .i64 kd, .string nm, .slice A n1 c1, .slice B n2 c2] 29 (0, 0))) (hc : Calls Tryd.prog 18 #[.agg #[.int .i64 z, .slice Am nm1 cm, .slice Bm nm2 dm], .agg #[.int .i64 kd, .string nm, .slice A n1 c1, .slice B n2 c2]] w fun e w' => e = .returned (.agg #[.int .i64 c, .int .i64 j]) ∧ Below w.heap.size w w') (hN : ∀ ge a' w', Frm 53 [(2, .pointer (some ⟨gm, 0, none⟩)), (3, .pointer (some ⟨gf, 0, none⟩)), (7, s_7), (8, s_8), (9, .pointer (some ⟨ge, 0, none⟩))] a' → w'.heap[ge]? = some (.cells #[.int .i64 c, .int .i64 j] 31 (0, 0)) → Below w.heap.size w w' → Q .normal a' w') : ∀ ac, Frm 53 [(2, .pointer (some ⟨gm, 0, none⟩)), (3, .pointer (some ⟨gf, 0, none⟩)), (7, s_7), (8, s_8)] ac → Code.wp Tryd.prog c_lm_r5 Q ac w := by
  refine fO (frame_lm ?_)
  intros
  rename_i hq
  iterate 4 (obtain ⟨e,hq⟩ := hq; obtain rfl := sI e; clear e)
  clear hq
  conv => arg 2; whnf
  have m0 := cellv hgm 0 rfl
  have m1 := cellv hgm 1 rfl
  have m2 := cellv hgm 2 rfl
  have ml := lt_heap hgm
  have a0 := cellv ha 0 rfl
  have a1 := cellv ha 1 rfl
  have a2 := cellv ha 2 rfl
  have a3 := cellv ha 3 rfl
  have al := lt_heap ha
  clear hgm ha
  have HN := Lib.hid hN
  have HC := Lib.hid hc
  clear hN hc
  go_wp2_with fail
  (with_reducible refine HC.out.mono ?_)
  rintro e w1 ⟨rfl, hb1⟩
  replace hb1 := Lib.hid hb1
  go_wp2_with fail
  have hz := hb1.out.size
  exact HN.out w1.heap.size _ _ (by exact fR rfl rfl rfl) (heap_at rfl) (hb1.out.alloc hz _)
def c_lm_r6z := sp 99 87 cF3
theorem lm_r6z_wp (g0 : w.cell? ⟨0, 0, none⟩ = some (.int .i64 0)) (g1 : w.cell? ⟨0, 1, none⟩ = some (.int .i64 0)) (he : w.heap[gy]? = some (.cells #[.int .i64 0, .int .i64 0] 31 (0, 0))) (hN : ∀ a', Frm 53 [(2, s_2), (3, s_3), (7, s_7), (8, s_8), (9, .pointer (some ⟨gy, 0, none⟩)), (35, .bool false)] a' → Q .normal a' w) : ∀ ac, Frm 53 [(2, s_2), (3, s_3), (7, s_7), (8, s_8), (9, .pointer (some ⟨gy, 0, none⟩))] ac → Code.wp Tryd.prog c_lm_r6z Q ac w := by
  refine fO (frame_lm ?_)
  intros
  rename_i hq
  iterate 5 (obtain ⟨e,hq⟩ := hq; obtain rfl := sI e; clear e)
  clear hq
  conv => arg 2; whnf
  have e0 := cellv he 0 rfl
  have e1 := cellv he 1 rfl
  have el := lt_heap he
  have lg := World.block_lt_of_cell? w _ g0
  clear he
  replace hN := Lib.hid hN
  go_wp2_with fail
  exact hN.out _ (by exact fR rfl rfl rfl)
def c_lm_r6c := sp 99 87 cF3
theorem lm_r6c_wp (g0 : w.cell? ⟨0, 0, none⟩ = some (.int .i64 0)) (g1 : w.cell? ⟨0, 1, none⟩ = some (.int .i64 0)) (hcz : c ≠ 0) (he : w.heap[gy]? = some (.cells #[.int .i64 c, .int .i64 j] 31 (0, 0))) (hN : ∀ a', Frm 53 [(2, s_2), (3, s_3), (7, s_7), (8, s_8), (9, .pointer (some ⟨gy, 0, none⟩)), (35, .bool true)] a' → Q .normal a' w) : ∀ ac, Frm 53 [(2, s_2), (3, s_3), (7, s_7), (8, s_8), (9, .pointer (some ⟨gy, 0, none⟩))] ac → Code.wp Tryd.prog c_lm_r6c Q ac w := by
  refine fO (frame_lm ?_)
  intros
  rename_i hq
  iterate 5 (obtain ⟨e,hq⟩ := hq; obtain rfl := sI e; clear e)
  clear hq
  conv => arg 2; whnf
  have e0 := cellv he 0 rfl
  have e1 := cellv he 1 rfl
  have el := lt_heap he
  have lg := World.block_lt_of_cell? w _ g0
  clear he
  have t1 : (c == 0) = false := beq_eq_false_iff_ne.2 hcz
  replace hN := Lib.hid hN
  go_wp2_with fail
  exact hN.out _ (by exact fR rfl rfl rfl)
def c_lm_r7 := sp 99 311 cF3
theorem lm_r7_wp (he : w.heap[gx]? = some (.cells #[.int .i64 c, .int .i64 j] 31 (0, 0))) (hf : w.heap[gy]? = some (.cells #[.int .i64 c, .int .i64 j] 31 (0, 0))) (hN : ∀ a', Frm 53 [(4, .bool true)] a' → Q .normal a' w) : ∀ ac, Frm 53 [(7, .bool false), (8, .pointer (some ⟨gx, 0, none⟩)), (9, .pointer (some ⟨gy, 0, none⟩))] ac → Code.wp Tryd.prog c_lm_r7 Q ac w := by
  refine fO (frame_lm ?_)
  intros
  rename_i hq
  iterate 3 (obtain ⟨e,hq⟩ := hq; obtain rfl := sI e; clear e)
  clear hq
  conv => arg 2; whnf
  have e0 := cellv he 0 rfl
  have e1 := cellv he 1 rfl
  have el := lt_heap he
  have f0 := cellv hf 0 rfl
  have f1 := cellv hf 1 rfl
  have fl := lt_heap hf
  clear he hf
  have t1 : (c == c) = true := beq_iff_eq.2 rfl
  have t2 : (j == j) = true := beq_iff_eq.2 rfl
  replace hN := Lib.hid hN
  go_wp2_with fail
  exact hN.out _ (id ⟨rfl, rfl, rfl, trivial⟩)
def c_lm_r8 := sp 99 47 cF3
theorem lm_r8_wp {b1 : Bool} (g0 : w.cell? ⟨0, 0, none⟩ = some (.int .i64 0)) (g1 : w.cell? ⟨0, 1, none⟩ = some (.int .i64 0)) (hgm : w.heap[gm]? = some (.cells #[.int .i64 z, .slice Am nm1 cm, .slice Bm nm2 dm] 25 (0, 0))) (ha : w.heap[gf]? = some (.cells #[.int .i64 kd, .string nm, .slice A n1 c1, .slice B n2 c2] 29 (0, 0))) (he : w.heap[gx]? = some (.cells #[.int .i64 0, .int .i64 0] 31 (0, 0))) (hc : Calls Tryd.prog 19 #[.agg #[.int .i64 z, .slice Am nm1 cm, .slice Bm nm2 dm], .agg #[.int .i64 kd, .string nm, .slice A n1 c1, .slice B n2 c2]] w fun e w' => e = .returned (.bool b1) ∧ Below w.heap.size w w') (hN : ∀ a' w', Frm 53 [(4, .bool true)] a' → Below w.heap.size w w' → Q .normal a' w') : ∀ ac, Frm 53 [(2, .pointer (some ⟨gm, 0, none⟩)), (3, .pointer (some ⟨gf, 0, none⟩)), (7, .bool b1), (8, .pointer (some ⟨gx, 0, none⟩))] ac → Code.wp Tryd.prog c_lm_r8 Q ac w := by
  refine fO (frame_lm ?_)
  intros
  rename_i hq
  iterate 4 (obtain ⟨e,hq⟩ := hq; obtain rfl := sI e; clear e)
  clear hq
  conv => arg 2; whnf
  have m0 := cellv hgm 0 rfl
  have m1 := cellv hgm 1 rfl
  have m2 := cellv hgm 2 rfl
  have ml := lt_heap hgm
  have a0 := cellv ha 0 rfl
  have a1 := cellv ha 1 rfl
  have a2 := cellv ha 2 rfl
  have a3 := cellv ha 3 rfl
  have al := lt_heap ha
  have e0 := cellv he 0 rfl
  have e1 := cellv he 1 rfl
  have el := lt_heap he
  have lg := World.block_lt_of_cell? w _ g0
  clear hgm ha he
  cases b1
  · have HN := Lib.hid hN
    have HC := Lib.hid hc
    clear hN hc
    go_wp2_with fail
    (with_reducible refine HC.out.mono ?_)
    rintro e w1 ⟨rfl, hb1⟩
    replace hb1 := Lib.hid hb1
    go_wp2_with fail
    exact HN.out _ _ (id ⟨rfl, rfl, rfl, trivial⟩) hb1.out
  · have HN := Lib.hid hN
    have HC := Lib.hid hc
    clear hN hc
    go_wp2_with fail
    (with_reducible refine HC.out.mono ?_)
    rintro e w1 ⟨rfl, hb1⟩
    replace hb1 := Lib.hid hb1
    go_wp2_with fail
    exact HN.out _ _ (id ⟨rfl, rfl, rfl, trivial⟩) hb1.out
theorem lm_ret_wp {R : Ending → World → Prop} {w' : World} (hR : R (.returned (.bool bb)) w') : ∀ ac, Frm 53 [(4, .bool bb)] ac → bodyPost Tryd.prog Tryd.f3 R .ret ac w' := by
  refine fO (frame_lm ?_)
  intros
  rename_i hq
  iterate 1 (obtain ⟨e,hq⟩ := hq; obtain rfl := sI e; clear e)
  clear hq
  refine bodyPost_ret (v := .bool bb) (by simp [results, Tryd.results3, go_sem]) rfl ?_
  exact hR
end

end Go.Proofs.YtflcbbikfdahhaaDoor
