/- Lemmas. -/
import Derived.Test.YthfokmjpbnfihaaDoorIu
namespace Go.Proofs.YthfokmjpbnfihaaDoor
open Go Go.RowKit
set_option linter.unusedSimpArgs false
set_option linter.unusedVariables false
noncomputable section
set_option maxRecDepth 1000000
set_option maxHeartbeats 16000000
variable {Q:Exit→Act→World→Prop} {z kd:Int} {Am Bm A B:Option Addr} {nm1 cm nm2 dm n1 c1 n2 c2 ge:Nat} {nm:ByteArray} {s_2 s_3:Value} {bb:Bool} {w:World}

def c_tn_r0 := sp 99 2 cF4
theorem tn_r0_wp {wo:World} (hN:∀a',Frm 179 [(2,.pointer (some ⟨wo.heap.size,0,none⟩)),(3,.pointer (some ⟨(wo.heap.size+1),0,none⟩))] a'→Q .normal a' ((wo.alloc (.cells #[.int .i64 z,.slice Am nm1 cm,.slice Bm nm2 dm] 25)).alloc (.cells #[.int .i64 kd,.string nm,.slice A n1 c1,.slice B n2 c2] 29))):∀ac,Frm 179 [(0,.agg #[.int .i64 z,.slice Am nm1 cm,.slice Bm nm2 dm]),(1,.agg #[.int .i64 kd,.string nm,.slice A n1 c1,.slice B n2 c2])] ac→Code.wp Tryd.prog c_tn_r0 Q ac wo := by
  refine fO (frame_tn ?_)
  intros
  rename_i hq
  iterate 2 (obtain ⟨e,hq⟩ := hq; obtain rfl := sI e; clear e)
  clear hq
  conv=>arg 2; whnf
  replace hN := Lib.hid hN
  go_wp2_with fail
  exact hN.out _ (id ⟨rfl,rfl,rfl,rfl,trivial⟩)
def c_tn_r1 := sp 99 9 cF4
theorem tn_r1_wp (hc:∀(W:World) (ms cs:List Value),mdSmall.In W (Lo W) ms→fmRep.R W (Lo W) exSomeNot.fm cs→Below w.heap.size w W→Calls Tryd.prog 13 #[.agg ms.toArray,.agg cs.toArray] W fun e w'=>e=.returned (.tuple #[.bool bb,.agg #[.int .i64 0,.int .i64 0]])∧Below W.heap.size W w') (hN:∀ge a' w',Frm 179 [(2,s_2),(3,s_3),(5,.bool bb),(6,.pointer (some ⟨ge,0,none⟩))] a'→w'.heap[ge]? = some (.cells #[.int .i64 0,.int .i64 0] 32 (0,0))→Below w.heap.size w w'→Q .normal a' w'):∀ac,Frm 179 [(2,s_2),(3,s_3)] ac→Code.wp Tryd.prog c_tn_r1 Q ac w := by
  refine fO (frame_tn ?_)
  intros
  rename_i hq
  iterate 2 (obtain ⟨e,hq⟩ := hq; obtain rfl := sI e; clear e)
  clear hq
  conv=>arg 2; whnf
  have hp := fun (W:World) (g:Nat)=>pred_any bDog (.slice (some ⟨g,0,none⟩) 1 1) W ⟨_,_,_,rfl⟩
  unfold bDog at hp
  have hsm := fun W:World=>small_any W
  have hk := fun (W W2:World) (ms:List Value) (h:mdSmall.In W (Lo W) ms) (hb:Below W.heap.size W W2)=>Md.In.keep (w' := W2) (S' := Lo W2) h (fun b h=>hb.block b h) (fun b h=>Nat.lt_of_lt_of_le h hb.size)
  have hno := fun (W:World) (g:Nat)=>notT_any 2 ⟨#[100,111,103]⟩ (some ⟨g,0,none⟩) 1 1 none 0 0 W
  have hbo := fun (W:World) (g:Nat)=>boundT_any 9 ⟨#[120]⟩ 4 ⟨#[]⟩ none 0 0 (some ⟨g,0,none⟩) 1 1 W
  have HN := Lib.hid hN
  have HP := Lib.hid hp
  have HSM := Lib.hid hsm
  have HC := Lib.hid hc
  have HK := Lib.hid hk
  have HNO := Lib.hid hno
  have HBO := Lib.hid hbo
  clear hN hp hsm hc hk hno hbo
  go_wp2_with fail
  (with_reducible refine (HSM.out _).mono ?_)
  rintro e w1 ⟨A1,c1,B1,d1,rfl,hin1,hb1⟩
  have hin1' := Md.In.keep (S' := Lo w1) hin1 (fun b hb=>rfl) (fun b hb=>hb.2)
  have HIN1 := Lib.hid hin1'
  have HB1 := Lib.hid hb1
  clear hin1 hin1' hb1
  go_wp2_with fail
  (with_reducible refine (HP.out _ _).mono ?_)
  rintro e w2 ⟨rfl,hb2⟩
  have hz1 := HB1.out.size
  have hz2 := hb2.size
  have hg2 := (hb2.block w1.heap.size (by simp)).trans (heap_alloc_new _ _)
  have hB12:Below w1.heap.size w1 w2 := (show Below w1.heap.size w1 _ by go_grown).trans (hb2.mono (by simp))
  have hB2:Below w.heap.size w w2 := HB1.out.trans (hB12.mono hz1)
  have HIN2 := Lib.hid (HK.out _ _ _ HIN1.out hB12)
  have hr2:fmRep.R w2 (Lo w2) (Fv.pred bDog [⟨#[120]⟩]).fm [.int .i64 2,.string ⟨#[100,111,103]⟩,.slice (some ⟨w1.heap.size,0,none⟩) 1 1,.slice none 0 0] := dog_rep (by decide +kernel) hg2 (by have := lt_heap hg2; exact this)
  have HR2 := Lib.hid hr2
  have HB2 := Lib.hid hB2
  clear hb2 hg2 hB12 hB2 hr2 hz2 hz1
  go_wp2_with fail
  (with_reducible refine (HNO.out _ _).mono ?_)
  rintro e w3 ⟨g3,rfl,hg3,hgl3,hb3⟩
  have hz2 := HB2.out.size
  have hB3:Below w.heap.size w w3 := HB2.out.trans (hb3.mono hz2)
  have HIN3 := Lib.hid (HK.out _ _ _ HIN2.out hb3)
  have hr3 := kid1_rep (S := Lo w3) (k := 4) (x := ⟨#[]⟩) (by decide +kernel) (fmRep.keep (w' := w3) (S' := Lo w3) HR2.out (fun b hb=>hb3.block b hb) (fun b hb=>Nat.lt_of_lt_of_le hb hb3.size)) hg3 (by have := lt_heap hg3; exact this)
  have HR3 := Lib.hid hr3
  have HB3 := Lib.hid hB3
  clear hg3 hgl3 hb3 hB3 hr3 hz2
  go_wp2_with fail
  (with_reducible refine (HBO.out _ _).mono ?_)
  rintro e w4 ⟨g4,rfl,hg4,hgl4,hb4⟩
  have hz3 := HB3.out.size
  have hB4:Below w.heap.size w w4 := HB3.out.trans (hb4.mono hz3)
  have HIN4 := Lib.hid (HK.out _ _ _ HIN3.out hb4)
  have hr4 := kid1_rep (S := Lo w4) (k := 9) (x := ⟨#[120]⟩) (by decide +kernel) (fmRep.keep (w' := w4) (S' := Lo w4) HR3.out (fun b hb=>hb4.block b hb) (fun b hb=>Nat.lt_of_lt_of_le hb hb4.size)) hg4 (by have := lt_heap hg4; exact this)
  have HR4 := Lib.hid hr4
  have HB4 := Lib.hid hB4
  clear hg4 hgl4 hb4 hB4 hr4 hz3
  have HRX := Lib.hid (show fmRep.R w4 (Lo w4) exSomeNot.fm _ from HR4.out)
  go_wp2_with fail
  (with_reducible refine (HC.out w4 _ _ HIN4.out HRX.out HB4.out).mono ?_)
  rintro e w9 ⟨rfl,hb9⟩
  have hz4 := HB4.out.size
  have HB9 := Lib.hid (HB4.out.trans (hb9.mono hz4))
  clear hb9 hz4
  go_wp2_with fail
  have hz9 := HB9.out.size
  exact HN.out w9.heap.size _ _ (by exact fR rfl rfl rfl) (heap_at rfl) (HB9.out.alloc hz9 _)
def c_tn_r2 := sp 99 21 cF4
theorem tn_r2_wp (g0:w.cell? ⟨0,0,none⟩=some (.int .i64 0)) (g1:w.cell? ⟨0,1,none⟩=some (.int .i64 0)) (he:w.heap[ge]? = some (.cells #[.int .i64 0,.int .i64 0] 32 (0,0))) (hN:∀a',Frm 179 [(2,s_2),(3,s_3),(39,.bool false)] a'→Q .normal a' w):∀ac,Frm 179 [(2,s_2),(3,s_3),(5,.bool false),(6,.pointer (some ⟨ge,0,none⟩))] ac→Code.wp Tryd.prog c_tn_r2 Q ac w := by
  refine fO (frame_tn ?_)
  intros
  rename_i hq
  iterate 4 (obtain ⟨e,hq⟩ := hq; obtain rfl := sI e; clear e)
  clear hq
  conv=>arg 2; whnf
  have e0 := cellv he 0 rfl
  have e1 := cellv he 1 rfl
  have el := lt_heap he
  have lg := World.block_lt_of_cell? w _ g0
  clear he
  replace hN := Lib.hid hN
  go_wp2_with fail
  exact hN.out _ (by exact fR rfl rfl rfl)
def c_tn_r4 := sp 99 19 cF4
theorem tn_r4_wp (hc:∀(W:World) (ms cs:List Value),mdSmall.In W (Lo W) ms→fmRep.R W (Lo W) exAll.fm cs→Below w.heap.size w W→Calls Tryd.prog 13 #[.agg ms.toArray,.agg cs.toArray] W fun e w'=>e=.returned (.tuple #[.bool bb,.agg #[.int .i64 0,.int .i64 0]])∧Below W.heap.size W w') (hN:∀ge a' w',Frm 179 [(2,s_2),(3,s_3),(7,.bool bb),(8,.pointer (some ⟨ge,0,none⟩))] a'→w'.heap[ge]? = some (.cells #[.int .i64 0,.int .i64 0] 32 (0,0))→Below w.heap.size w w'→Q .normal a' w'):∀ac,Frm 179 [(2,s_2),(3,s_3)] ac→Code.wp Tryd.prog c_tn_r4 Q ac w := by
  refine fO (frame_tn ?_)
  intros
  rename_i hq
  iterate 2 (obtain ⟨e,hq⟩ := hq; obtain rfl := sI e; clear e)
  clear hq
  conv=>arg 2; whnf
  have hp := fun (W:World) (g:Nat)=>pred_any bDog (.slice (some ⟨g,0,none⟩) 1 1) W ⟨_,_,_,rfl⟩
  unfold bDog at hp
  have hsm := fun W:World=>small_any W
  have hk := fun (W W2:World) (ms:List Value) (h:mdSmall.In W (Lo W) ms) (hb:Below W.heap.size W W2)=>Md.In.keep (w' := W2) (S' := Lo W2) h (fun b h=>hb.block b h) (fun b h=>Nat.lt_of_lt_of_le h hb.size)
  have hbo := fun (W:World) (g:Nat)=>boundT_any 8 ⟨#[120]⟩ 2 ⟨#[100,111,103]⟩ (some ⟨g,0,none⟩) 1 1 none 0 0 W
  have HN := Lib.hid hN
  have HP := Lib.hid hp
  have HSM := Lib.hid hsm
  have HC := Lib.hid hc
  have HK := Lib.hid hk
  have HBO := Lib.hid hbo
  clear hN hp hsm hc hk hbo
  go_wp2_with fail
  (with_reducible refine (HSM.out _).mono ?_)
  rintro e w1 ⟨A1,c1,B1,d1,rfl,hin1,hb1⟩
  have hin1' := Md.In.keep (S' := Lo w1) hin1 (fun b hb=>rfl) (fun b hb=>hb.2)
  have HIN1 := Lib.hid hin1'
  have HB1 := Lib.hid hb1
  clear hin1 hin1' hb1
  go_wp2_with fail
  (with_reducible refine (HP.out _ _).mono ?_)
  rintro e w2 ⟨rfl,hb2⟩
  have hz1 := HB1.out.size
  have hz2 := hb2.size
  have hg2 := (hb2.block w1.heap.size (by simp)).trans (heap_alloc_new _ _)
  have hB12:Below w1.heap.size w1 w2 := (show Below w1.heap.size w1 _ by go_grown).trans (hb2.mono (by simp))
  have hB2:Below w.heap.size w w2 := HB1.out.trans (hB12.mono hz1)
  have HIN2 := Lib.hid (HK.out _ _ _ HIN1.out hB12)
  have hr2:fmRep.R w2 (Lo w2) (Fv.pred bDog [⟨#[120]⟩]).fm [.int .i64 2,.string ⟨#[100,111,103]⟩,.slice (some ⟨w1.heap.size,0,none⟩) 1 1,.slice none 0 0] := dog_rep (by decide +kernel) hg2 (by have := lt_heap hg2; exact this)
  have HR2 := Lib.hid hr2
  have HB2 := Lib.hid hB2
  clear hb2 hg2 hB12 hB2 hr2 hz2 hz1
  go_wp2_with fail
  (with_reducible refine (HBO.out _ _).mono ?_)
  rintro e w3 ⟨g3,rfl,hg3,hgl3,hb3⟩
  have hz2 := HB2.out.size
  have hB3:Below w.heap.size w w3 := HB2.out.trans (hb3.mono hz2)
  have HIN3 := Lib.hid (HK.out _ _ _ HIN2.out hb3)
  have hr3 := kid1_rep (S := Lo w3) (k := 8) (x := ⟨#[120]⟩) (by decide +kernel) (fmRep.keep (w' := w3) (S' := Lo w3) HR2.out (fun b hb=>hb3.block b hb) (fun b hb=>Nat.lt_of_lt_of_le hb hb3.size)) hg3 (by have := lt_heap hg3; exact this)
  have HR3 := Lib.hid hr3
  have HB3 := Lib.hid hB3
  clear hg3 hgl3 hb3 hB3 hr3 hz2
  have HRX := Lib.hid (show fmRep.R w3 (Lo w3) exAll.fm _ from HR3.out)
  go_wp2_with fail
  (with_reducible refine (HC.out w3 _ _ HIN3.out HRX.out HB3.out).mono ?_)
  rintro e w9 ⟨rfl,hb9⟩
  have hz3 := HB3.out.size
  have HB9 := Lib.hid (HB3.out.trans (hb9.mono hz3))
  clear hb9 hz3
  go_wp2_with fail
  have hz9 := HB9.out.size
  exact HN.out w9.heap.size _ _ (by exact fR rfl rfl rfl) (heap_at rfl) (HB9.out.alloc hz9 _)
def c_tn_r5 := sp 99 43 cF4
theorem tn_r5_wp (g0:w.cell? ⟨0,0,none⟩=some (.int .i64 0)) (g1:w.cell? ⟨0,1,none⟩=some (.int .i64 0)) (he:w.heap[ge]? = some (.cells #[.int .i64 0,.int .i64 0] 32 (0,0))) (hN:∀a',Frm 179 [(2,s_2),(3,s_3),(54,.bool false)] a'→Q .normal a' w):∀ac,Frm 179 [(2,s_2),(3,s_3),(7,.bool true),(8,.pointer (some ⟨ge,0,none⟩))] ac→Code.wp Tryd.prog c_tn_r5 Q ac w := by
  refine fO (frame_tn ?_)
  intros
  rename_i hq
  iterate 4 (obtain ⟨e,hq⟩ := hq; obtain rfl := sI e; clear e)
  clear hq
  conv=>arg 2; whnf
  have e0 := cellv he 0 rfl
  have e1 := cellv he 1 rfl
  have el := lt_heap he
  have lg := World.block_lt_of_cell? w _ g0
  clear he
  replace hN := Lib.hid hN
  go_wp2_with fail
  exact hN.out _ (by exact fR rfl rfl rfl)
def c_tn_r7 := sp 99 23 cF4
theorem tn_r7_wp {c j:Int} {gm gf:Nat} (hgm:w.heap[gm]? = some (.cells #[.int .i64 z,.slice Am nm1 cm,.slice Bm nm2 dm] 25 (0,0))) (ha:w.heap[gf]? = some (.cells #[.int .i64 kd,.string nm,.slice A n1 c1,.slice B n2 c2] 29 (0,0))) (hc:Calls Tryd.prog 13 #[.agg #[.int .i64 z,.slice Am nm1 cm,.slice Bm nm2 dm],.agg #[.int .i64 kd,.string nm,.slice A n1 c1,.slice B n2 c2]] w fun e w'=>e=.returned (.tuple #[.bool bb,.agg #[.int .i64 c,.int .i64 j]])∧Below w.heap.size w w') (hN:∀ge a' w',Frm 179 [(2,.pointer (some ⟨gm,0,none⟩)),(3,.pointer (some ⟨gf,0,none⟩)),(9,.bool bb),(10,.pointer (some ⟨ge,0,none⟩))] a'→w'.heap[ge]? = some (.cells #[.int .i64 c,.int .i64 j] 32 (0,0))→Below w.heap.size w w'→Q .normal a' w'):∀ac,Frm 179 [(2,.pointer (some ⟨gm,0,none⟩)),(3,.pointer (some ⟨gf,0,none⟩))] ac→Code.wp Tryd.prog c_tn_r7 Q ac w := by
  refine fO (frame_tn ?_)
  intros
  rename_i hq
  iterate 2 (obtain ⟨e,hq⟩ := hq; obtain rfl := sI e; clear e)
  clear hq
  conv=>arg 2; whnf
  have m0 := cellv hgm 0 rfl
  have m1 := cellv hgm 1 rfl
  have m2 := cellv hgm 2 rfl
  have ml := lt_heap hgm
  have a0 := cellv ha 0 rfl
  have a1 := cellv ha 1 rfl
  have a2 := cellv ha 2 rfl
  have a3 := cellv ha 3 rfl
  have al := lt_heap ha
  clear hgm ha
  have HN := Lib.hid hN
  have HC := Lib.hid hc
  clear hN hc
  go_wp2_with fail
  (with_reducible refine HC.out.mono ?_)
  rintro e w1 ⟨rfl,hb1⟩
  replace hb1 := Lib.hid hb1
  go_wp2_with fail
  have hz := hb1.out.size
  exact HN.out w1.heap.size _ _ (by exact fR rfl rfl rfl) (heap_at rfl) (hb1.out.alloc hz _)
end

end Go.Proofs.YthfokmjpbnfihaaDoor
