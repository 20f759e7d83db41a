/-
  The statement TruthWitnessesMatchSpecCardSaid is proved: whatever its arguments, the law TruthWitnessesMatchSpec returns true, and they read afterwards as before.
  Conditions: those of the given row alone (the listed variables are laid as the program's text lays them; the card ties that).
-/
import Derived.Test.YthfokmjpbnfihaaDoorTie
import Derived.Test.YthfokmjpbnfihaaDoorCards
import Derived.Test.YthfokmjpbnfihaaDoorWv
import Derived.Test.YthfokmjpbnfihaaDoorWz
import Derived.Test.YthfokmjpbnfihaaDoorWzi
import Derived.Test.YthfokmjpbnfihaaDoorWzl
import Derived.Test.YthfokmjpbnfihaaDoorWzm
import Derived.SevenTiedAt
namespace Go.Proofs.YthfokmjpbnfihaaDoor
open Go Go.RowKit
set_option linter.unusedSimpArgs false
set_option linter.unusedVariables false
noncomputable section
set_option maxRecDepth 1000000
set_option maxHeartbeats 16000000
variable {Q:Exit→Act→World→Prop} {z kd c j:Int} {Am Bm A B:Option Addr} {nm1 cm nm2 dm n1 c1 n2 c2 gm gf gy gx mv NN gi i gv x k:Nat} {nm:ByteArray} {s_2 s_3 s_8 q s_10 s_11 v s_62 s_63 s_13 s_14 s_16:Value} {w:World} {bb:Bool}

theorem frame_lw {P:Act→Prop} (h:∀x0 x1 x2 x3 x4 x5 x6 x7 x8 x9 x10 x11 x12 x13 x14 x15 x16 x17 x18 x19 x20 x21 x22 x23 x24 x25 x26 x27 x28 x29 x30 x31 x32 x33 x34 x35 x36 x37 x38 x39 x40 x41 x42 x43 x44 x45 x46 x47 x48 x49 x50 x51 x52 x53 x54 x55 x56 x57 x58 x59 x60 x61 x62 x63 x64 x65 x66 x67 x68 x69 x70 x71 x72 x73 x74 x75 x76 x77 x78 x79 x80 x81 x82 x83 x84 x85 x86 x87 x88 x89 x90 x91 x92 x93 x94 x95 x96 x97 x98 x99 x100 x101 x102:Value,P ⟨(x0 :: x1 :: x2 :: x3 :: x4 :: x5 :: x6 :: x7 :: x8 :: x9 :: x10 :: x11 :: x12 :: x13 :: x14 :: x15 :: x16 :: x17 :: x18 :: x19 :: x20 :: x21 :: x22 :: x23 :: x24 :: x25 :: x26 :: x27 :: x28 :: x29 :: x30 :: x31 :: x32 :: x33 :: x34 :: x35 :: x36 :: x37 :: x38 :: x39 :: x40 :: x41 :: x42 :: x43 :: x44 :: x45 :: x46 :: x47 :: x48 :: x49 :: x50 :: x51 :: x52 :: x53 :: x54 :: x55 :: x56 :: x57 :: x58 :: x59 :: x60 :: x61 :: x62 :: x63 :: x64 :: x65 :: x66 :: x67 :: x68 :: x69 :: x70 :: x71 :: x72 :: x73 :: x74 :: x75 :: x76 :: x77 :: x78 :: x79 :: x80 :: x81 :: x82 :: x83 :: x84 :: x85 :: x86 :: x87 :: x88 :: x89 :: x90 :: x91 :: x92 :: x93 :: x94 :: x95 :: x96 :: x97 :: x98 :: x99 :: x100 :: x101 :: x102 :: []).toArray,[]⟩):∀a:Act,a.tmps.toList.length=103→a.defers=[]→P a := by
  rintro ⟨⟨l⟩,d⟩ hs hd
  simp only at hd
  subst hd
  revert l
  show ∀l:List Value,l.length=103→P ⟨⟨l⟩,[]⟩
  iterate 103 refine openS (fun _=>?_)
  refine open0 ?_
  exact h ..
noncomputable def cF3:Code := Tryd.f3.body.getD .skip
def c_lw_r0 := sp 99 2 cF3
theorem lw_r0_wp {wo:World} (hN:∀a',Frm 103 [(2,.pointer (some ⟨wo.heap.size,0,none⟩)),(3,.pointer (some ⟨(wo.heap.size+1),0,none⟩))] a'→Q .normal a' ((wo.alloc (.cells #[.int .i64 z,.slice Am nm1 cm,.slice Bm nm2 dm] 25)).alloc (.cells #[.int .i64 kd,.string nm,.slice A n1 c1,.slice B n2 c2] 29))):∀ac,Frm 103 [(0,.agg #[.int .i64 z,.slice Am nm1 cm,.slice Bm nm2 dm]),(1,.agg #[.int .i64 kd,.string nm,.slice A n1 c1,.slice B n2 c2])] ac→Code.wp Tryd.prog c_lw_r0 Q ac wo := by
  refine fO (frame_lw ?_)
  intros
  rename_i hq
  iterate 2 (obtain ⟨e,hq⟩ := hq; obtain rfl := sI e; clear e)
  clear hq
  conv=>arg 2; whnf
  replace hN := Lib.hid hN
  go_wp2_with fail
  exact hN.out _ (id ⟨rfl,rfl,rfl,rfl,trivial⟩)
def c_lw_r1 := sp 99 9 cF3
theorem lw_r1_wp {PX:Value→World→Prop} (hc:∀(W:World) (ms cs:List Value),mdSmall.In W (Lo W) ms→fmRep.R W (Lo W) exSome.fm cs→Below w.heap.size w W→Calls Tryd.prog 6 #[.agg ms.toArray,.agg cs.toArray] W fun e w'=>∃q,e=.returned (.tuple #[q,.agg #[.int .i64 0,.int .i64 0]])∧PX q w'∧Below W.heap.size W w') (hN:∀q w9 ge a' w',PX q w9→Below w9.heap.size w9 w'→Frm 103 [(2,s_2),(3,s_3),(5,q),(6,.pointer (some ⟨ge,0,none⟩))] a'→w'.heap[ge]?=some (.cells #[.int .i64 0,.int .i64 0] 32 (0,0))→Below w.heap.size w w'→Q .normal a' w'):∀ac,Frm 103 [(2,s_2),(3,s_3)] ac→Code.wp Tryd.prog c_lw_r1 Q ac w := by
  refine fO (frame_lw ?_)
  intros
  rename_i hq
  iterate 2 (obtain ⟨e,hq⟩ := hq; obtain rfl := sI e; clear e)
  clear hq
  conv=>arg 2; whnf
  have hp := fun (W:World) (g:Nat)=>pred_any bDog (.slice (some ⟨g,0,none⟩) 1 1) W ⟨_,_,_,rfl⟩
  unfold bDog at hp
  have hsm := fun W:World=>small_any W
  have hk := fun (W W2:World) (ms:List Value) (h:mdSmall.In W (Lo W) ms) (hb:Below W.heap.size W W2)=>Md.In.keep (w' := W2) (S' := Lo W2) h (fun b h=>hb.block b h) (fun b h=>Nat.lt_of_lt_of_le h hb.size)
  have hbo := fun (W:World) (g:Nat)=>boundT_any 9 ⟨#[120]⟩ 2 ⟨#[100,111,103]⟩ (some ⟨g,0,none⟩) 1 1 none 0 0 W
  have HN := Lib.hid hN
  have HP := Lib.hid hp
  have HSM := Lib.hid hsm
  have HC := Lib.hid hc
  have HK := Lib.hid hk
  have HBO := Lib.hid hbo
  clear hN hp hsm hc hk hbo
  go_wp2_with fail
  (with_reducible refine (HSM.out _).mono ?_)
  rintro e w1 ⟨A1,c1,B1,d1,rfl,hin1,hb1⟩
  have hin1' := Md.In.keep (S' := Lo w1) hin1 (fun b hb=>rfl) (fun b hb=>hb.2)
  have HIN1 := Lib.hid hin1'
  have HB1 := Lib.hid hb1
  clear hin1 hin1' hb1
  go_wp2_with fail
  (with_reducible refine (HP.out _ _).mono ?_)
  rintro e w2 ⟨rfl,hb2⟩
  have hz1 := HB1.out.size
  have hz2 := hb2.size
  have hg2 := (hb2.block w1.heap.size (by simp)).trans (heap_alloc_new _ _)
  have hB12:Below w1.heap.size w1 w2 := (show Below w1.heap.size w1 _ by go_grown).trans (hb2.mono (by simp))
  have hB2:Below w.heap.size w w2 := HB1.out.trans (hB12.mono hz1)
  have HIN2 := Lib.hid (HK.out _ _ _ HIN1.out hB12)
  have hr2:fmRep.R w2 (Lo w2) (Fv.pred bDog [⟨#[120]⟩]).fm [.int .i64 2,.string ⟨#[100,111,103]⟩,.slice (some ⟨w1.heap.size,0,none⟩) 1 1,.slice none 0 0] := dog_rep (by decide +kernel) hg2 (by have := lt_heap hg2; exact this)
  have HR2 := Lib.hid hr2
  have HB2 := Lib.hid hB2
  clear hb2 hg2 hB12 hB2 hr2 hz2 hz1
  go_wp2_with fail
  (with_reducible refine (HBO.out _ _).mono ?_)
  rintro e w3 ⟨g3,rfl,hg3,hgl3,hb3⟩
  have hz2 := HB2.out.size
  have hB3:Below w.heap.size w w3 := HB2.out.trans (hb3.mono hz2)
  have HIN3 := Lib.hid (HK.out _ _ _ HIN2.out hb3)
  have hr3 := kid1_rep (S := Lo w3) (k := 9) (x := ⟨#[120]⟩) (by decide +kernel) (fmRep.keep (w' := w3) (S' := Lo w3) HR2.out (fun b hb=>hb3.block b hb) (fun b hb=>Nat.lt_of_lt_of_le hb hb3.size)) hg3 (by have := lt_heap hg3; exact this)
  have HR3 := Lib.hid hr3
  have HB3 := Lib.hid hB3
  clear hg3 hgl3 hb3 hB3 hr3 hz2
  have HRX := Lib.hid (show fmRep.R w3 (Lo w3) exSome.fm _ from HR3.out)
  go_wp2_with fail
  (with_reducible refine (HC.out w3 _ _ HIN3.out HRX.out HB3.out).mono ?_)
  rintro e w9 ⟨q,rfl,hx9,hb9⟩
  replace hx9 := Lib.hid hx9
  have hz3 := HB3.out.size
  have HB9 := Lib.hid (HB3.out.trans (hb9.mono hz3))
  clear hb9 hz3
  go_wp2_with fail
  have hz9 := HB9.out.size
  exact HN.out q w9 w9.heap.size _ _ hx9.out (by go_grown) (by exact fR rfl rfl rfl) (heap_at rfl) (HB9.out.alloc hz9 _)
def c_lw_r4 := sp 99 11 cF3
theorem lw_r4_wp {PX:Value→World→Prop} (hgm:w.heap[gm]?=some (.cells #[.int .i64 z,.slice Am nm1 cm,.slice Bm nm2 dm] 25 (0,0))) (ha:w.heap[gf]?=some (.cells #[.int .i64 kd,.string nm,.slice A n1 c1,.slice B n2 c2] 29 (0,0))) (hc:Calls Tryd.prog 6 #[.agg #[.int .i64 z,.slice Am nm1 cm,.slice Bm nm2 dm],.agg #[.int .i64 kd,.string nm,.slice A n1 c1,.slice B n2 c2]] w fun e w'=>∃q,e=.returned (.tuple #[q,.agg #[.int .i64 c,.int .i64 j]])∧PX q w'∧Below w.heap.size w w') (hN:∀q w9 ge a' w',PX q w9→Below w9.heap.size w9 w'→Frm 103 [(2,.pointer (some ⟨gm,0,none⟩)),(3,.pointer (some ⟨gf,0,none⟩)),(7,q),(8,.pointer (some ⟨ge,0,none⟩))] a'→w'.heap[ge]?=some (.cells #[.int .i64 c,.int .i64 j] 32 (0,0))→Below w.heap.size w w'→Q .normal a' w'):∀ac,Frm 103 [(2,.pointer (some ⟨gm,0,none⟩)),(3,.pointer (some ⟨gf,0,none⟩))] ac→Code.wp Tryd.prog c_lw_r4 Q ac w := by
  refine fO (frame_lw ?_)
  intros
  rename_i hq
  iterate 2 (obtain ⟨e,hq⟩ := hq; obtain rfl := sI e; clear e)
  clear hq
  conv=>arg 2; whnf
  have m0 := cellv hgm 0 rfl
  have m1 := cellv hgm 1 rfl
  have m2 := cellv hgm 2 rfl
  have ml := lt_heap hgm
  have a0 := cellv ha 0 rfl
  have a1 := cellv ha 1 rfl
  have a2 := cellv ha 2 rfl
  have a3 := cellv ha 3 rfl
  have al := lt_heap ha
  clear hgm ha
  have HN := Lib.hid hN
  have HC := Lib.hid hc
  clear hN hc
  go_wp2_with fail
  (with_reducible refine HC.out.mono ?_)
  rintro e w1 ⟨q,rfl,hx,hb1⟩
  have HX := Lib.hid hx
  have HB1 := Lib.hid hb1
  clear hb1 hx
  go_wp2_with fail
  have hz := HB1.out.size
  exact HN.out q w1 w1.heap.size _ _ HX.out (by go_grown) (by exact fR rfl rfl rfl) (heap_at rfl) (HB1.out.alloc hz _)
def c_lw_r5 := sp 99 39 cF3
theorem lw_r5_wp (hgm:w.heap[gm]?=some (.cells #[.int .i64 z,.slice Am nm1 cm,.slice Bm nm2 dm] 25 (0,0))) (ha:w.heap[gf]?=some (.cells #[.int .i64 kd,.string nm,.slice A n1 c1,.slice B n2 c2] 29 (0,0))) (hc:Calls Tryd.prog 11 #[.agg #[.int .i64 z,.slice Am nm1 cm,.slice Bm nm2 dm],.agg #[.int .i64 kd,.string nm,.slice A n1 c1,.slice B n2 c2]] w fun e w'=>e=.returned (.agg #[.int .i64 c,.int .i64 j])∧Below w.heap.size w w') (hN:∀ge a' w',Frm 103 [(2,.pointer (some ⟨gm,0,none⟩)),(3,.pointer (some ⟨gf,0,none⟩)),(7,q),(8,s_8),(9,.pointer (some ⟨ge,0,none⟩))] a'→w'.heap[ge]?=some (.cells #[.int .i64 c,.int .i64 j] 32 (0,0))→Below w.heap.size w w'→Q .normal a' w'):∀ac,Frm 103 [(2,.pointer (some ⟨gm,0,none⟩)),(3,.pointer (some ⟨gf,0,none⟩)),(7,q),(8,s_8)] ac→Code.wp Tryd.prog c_lw_r5 Q ac w := by
  refine fO (frame_lw ?_)
  intros
  rename_i hq
  iterate 4 (obtain ⟨e,hq⟩ := hq; obtain rfl := sI e; clear e)
  clear hq
  conv=>arg 2; whnf
  have m0 := cellv hgm 0 rfl
  have m1 := cellv hgm 1 rfl
  have m2 := cellv hgm 2 rfl
  have ml := lt_heap hgm
  have a0 := cellv ha 0 rfl
  have a1 := cellv ha 1 rfl
  have a2 := cellv ha 2 rfl
  have a3 := cellv ha 3 rfl
  have al := lt_heap ha
  clear hgm ha
  have HN := Lib.hid hN
  have HC := Lib.hid hc
  clear hN hc
  go_wp2_with fail
  (with_reducible refine HC.out.mono ?_)
  rintro e w1 ⟨rfl,hb1⟩
  replace hb1 := Lib.hid hb1
  go_wp2_with fail
  have hz := hb1.out.size
  exact HN.out w1.heap.size _ _ (by exact fR rfl rfl rfl) (heap_at rfl) (hb1.out.alloc hz _)
def c_lw_r6z := sp 99 87 cF3
theorem lw_r6z_wp (g0:w.cell? ⟨0,0,none⟩=some (.int .i64 0)) (g1:w.cell? ⟨0,1,none⟩=some (.int .i64 0)) (he:w.heap[gy]?=some (.cells #[.int .i64 0,.int .i64 0] 32 (0,0))) (hN:∀a',Frm 103 [(2,s_2),(3,s_3),(7,q),(8,s_8),(9,.pointer (some ⟨gy,0,none⟩)),(46,.bool false)] a'→Q .normal a' w):∀ac,Frm 103 [(2,s_2),(3,s_3),(7,q),(8,s_8),(9,.pointer (some ⟨gy,0,none⟩))] ac→Code.wp Tryd.prog c_lw_r6z Q ac w := by
  refine fO (frame_lw ?_)
  intros
  rename_i hq
  iterate 5 (obtain ⟨e,hq⟩ := hq; obtain rfl := sI e; clear e)
  clear hq
  conv=>arg 2; whnf
  have e0 := cellv he 0 rfl
  have e1 := cellv he 1 rfl
  have el := lt_heap he
  have lg := World.block_lt_of_cell? w _ g0
  clear he
  replace hN := Lib.hid hN
  go_wp2_with fail
  exact hN.out _ (by exact fR rfl rfl rfl)
def c_lw_r6c := sp 99 87 cF3
theorem lw_r6c_wp (g0:w.cell? ⟨0,0,none⟩=some (.int .i64 0)) (g1:w.cell? ⟨0,1,none⟩=some (.int .i64 0)) (hcz:c≠0) (he:w.heap[gy]?=some (.cells #[.int .i64 c,.int .i64 j] 32 (0,0))) (hN:∀a',Frm 103 [(2,s_2),(3,s_3),(7,q),(8,s_8),(9,.pointer (some ⟨gy,0,none⟩)),(46,.bool true)] a'→Q .normal a' w):∀ac,Frm 103 [(2,s_2),(3,s_3),(7,q),(8,s_8),(9,.pointer (some ⟨gy,0,none⟩))] ac→Code.wp Tryd.prog c_lw_r6c Q ac w := by
  refine fO (frame_lw ?_)
  intros
  rename_i hq
  iterate 5 (obtain ⟨e,hq⟩ := hq; obtain rfl := sI e; clear e)
  clear hq
  conv=>arg 2; whnf
  have e0 := cellv he 0 rfl
  have e1 := cellv he 1 rfl
  have el := lt_heap he
  have lg := World.block_lt_of_cell? w _ g0
  clear he
  have t1:(c == 0)=false := beq_eq_false_iff_ne.2 hcz
  replace hN := Lib.hid hN
  go_wp2_with fail
  exact hN.out _ (by exact fR rfl rfl rfl)
def c_lw_r7 := sp 99 311 cF3
theorem lw_r7_wp (he:w.heap[gx]?=some (.cells #[.int .i64 c,.int .i64 j] 32 (0,0))) (hf:w.heap[gy]?=some (.cells #[.int .i64 c,.int .i64 j] 32 (0,0))) (hN:∀a',Frm 103 [(4,.bool true)] a'→Q .normal a' w):∀ac,Frm 103 [(7,.slice none 0 0),(8,.pointer (some ⟨gx,0,none⟩)),(9,.pointer (some ⟨gy,0,none⟩))] ac→Code.wp Tryd.prog c_lw_r7 Q ac w := by
  refine fO (frame_lw ?_)
  intros
  rename_i hq
  iterate 3 (obtain ⟨e,hq⟩ := hq; obtain rfl := sI e; clear e)
  clear hq
  conv=>arg 2; whnf
  have e0 := cellv he 0 rfl
  have e1 := cellv he 1 rfl
  have el := lt_heap he
  have f0 := cellv hf 0 rfl
  have f1 := cellv hf 1 rfl
  have fl := lt_heap hf
  clear he hf
  have t1:(c == c)=true := beq_iff_eq.2 rfl
  have t2:(j == j)=true := beq_iff_eq.2 rfl
  replace hN := Lib.hid hN
  go_wp2_with fail
  exact hN.out _ (id ⟨rfl,rfl,rfl,trivial⟩)
def c_lw_r8 := sp 99 47 cF3
theorem lw_r8_wp {PX:Nat→World→Prop} (hgm:w.heap[gm]?=some (.cells #[.int .i64 z,.slice Am nm1 cm,.slice Bm nm2 dm] 25 (0,0))) (ha:w.heap[gf]?=some (.cells #[.int .i64 kd,.string nm,.slice A n1 c1,.slice B n2 c2] 29 (0,0))) (hc:Calls Tryd.prog 12 #[.agg #[.int .i64 z,.slice Am nm1 cm,.slice Bm nm2 dm],.agg #[.int .i64 kd,.string nm,.slice A n1 c1,.slice B n2 c2]] w fun e w'=>∃gi,e=.returned (.tuple #[.slice (some ⟨gi,0,none⟩) NN NN,.int .i64 (mv:Nat)])∧PX gi w') (hN:∀gi a' w',Frm 103 [(2,.pointer (some ⟨gm,0,none⟩)),(7,q),(8,s_8),(10,.slice (some ⟨gi,0,none⟩) NN NN),(11,.int .i64 (mv:Nat))] a'→PX gi w'→Q .normal a' w'):∀ac,Frm 103 [(2,.pointer (some ⟨gm,0,none⟩)),(3,.pointer (some ⟨gf,0,none⟩)),(7,q),(8,s_8)] ac→Code.wp Tryd.prog c_lw_r8 Q ac w := by
  refine fO (frame_lw ?_)
  intros
  rename_i hq
  iterate 4 (obtain ⟨e,hq⟩ := hq; obtain rfl := sI e; clear e)
  clear hq
  conv=>arg 2; whnf
  have m0 := cellv hgm 0 rfl
  have m1 := cellv hgm 1 rfl
  have m2 := cellv hgm 2 rfl
  have ml := lt_heap hgm
  have a0 := cellv ha 0 rfl
  have a1 := cellv ha 1 rfl
  have a2 := cellv ha 2 rfl
  have a3 := cellv ha 3 rfl
  have al := lt_heap ha
  clear hgm ha
  have HN := Lib.hid hN
  have HC := Lib.hid hc
  clear hN hc
  go_wp2_with fail
  (with_reducible refine HC.out.mono ?_)
  rintro e w1 ⟨gi,rfl,hp⟩
  replace hp := Lib.hid hp
  go_wp2_with fail
  exact HN.out _ _ _ (by exact fR rfl rfl rfl) hp.out
def c_lw_r9 := sp 99 95 cF3
theorem lw_r9_wp (hN:∀a',Frm 103 [(2,s_2),(7,q),(8,s_8),(10,s_10),(11,s_11),(12,.slice none 0 0)] a'→Q .normal a' w):∀ac,Frm 103 [(2,s_2),(7,q),(8,s_8),(10,s_10),(11,s_11)] ac→Code.wp Tryd.prog c_lw_r9 Q ac w := by
  refine fO (frame_lw ?_)
  intros
  rename_i hq
  iterate 5 (obtain ⟨e,hq⟩ := hq; obtain rfl := sI e; clear e)
  clear hq
  conv=>arg 2; whnf
  replace hN := Lib.hid hN
  go_wp2_with fail
  exact hN.out _ (by exact fR rfl rfl rfl)
def c_lw_r10 := sp 99 319 cF3
theorem lw_r10_wp (hN:∀a',Frm 103 [(2,s_2),(7,q),(8,s_8),(10,.slice (some ⟨gi,0,none⟩) NN NN),(11,s_11),(12,v),(62,.int .i64 (NN:Nat)),(63,.int .i64 (0:Nat))] a'→Q .normal a' w):∀ac,Frm 103 [(2,s_2),(7,q),(8,s_8),(10,.slice (some ⟨gi,0,none⟩) NN NN),(11,s_11),(12,v)] ac→Code.wp Tryd.prog c_lw_r10 Q ac w := by
  refine fO (frame_lw ?_)
  intros
  rename_i hq
  iterate 6 (obtain ⟨e,hq⟩ := hq; obtain rfl := sI e; clear e)
  clear hq
  conv=>arg 2; whnf
  replace hN := Lib.hid hN
  go_wp2_with fail
  exact hN.out _ (by exact fR rfl rfl rfl)
def c_lw_r11 := sp 99 2239 cF3
theorem lw_r11_wp (hN:∀a',Frm 103 [(2,s_2),(7,q),(8,s_8),(10,s_10),(11,s_11),(12,v),(62,.int .i64 (NN:Nat)),(63,.int .i64 (i:Nat)),(64,.bool (decide (i<NN)))] a'→Q .normal a' w):∀ac,Frm 103 [(2,s_2),(7,q),(8,s_8),(10,s_10),(11,s_11),(12,v),(62,.int .i64 (NN:Nat)),(63,.int .i64 (i:Nat))] ac→Code.wp Tryd.prog c_lw_r11 Q ac w := by
  refine fO (frame_lw ?_)
  intros
  rename_i hq
  iterate 8 (obtain ⟨e,hq⟩ := hq; obtain rfl := sI e; clear e)
  clear hq
  conv=>arg 2; whnf
  by_cases h:i<NN
  · have t1:decide ((i:Int)<(NN:Int))=true := by first | exact decide_eq_true (by omega) | exact beq_iff_eq.2 (by omega) | exact bne_iff_ne.2 (by omega)
    have t2:(decide (i<NN))=true := decide_eq_true h
    rw [t2] at hN
    clear h
    replace hN := Lib.hid hN
    go_wp2_with fail
    exact hN.out _ (by exact fR rfl rfl rfl)
  · have t1:decide ((i:Int)<(NN:Int))=false := by first | exact decide_eq_false (by omega) | exact beq_eq_false_iff_ne.2 (by omega) | exact bne_eq_false_iff_eq.2 (by omega)
    have t2:(decide (i<NN))=false := decide_eq_false h
    rw [t2] at hN
    clear h
    replace hN := Lib.hid hN
    go_wp2_with fail
    exact hN.out _ (by exact fR rfl rfl rfl)
def c_lw_r12 := sp 99 36031 cF3
theorem lw_r12_wp (hN:∀a',Frm 103 [(2,s_2),(7,q),(8,s_8),(10,s_10),(11,s_11),(12,v),(62,s_62),(63,.int .i64 (i:Nat)),(13,.int .i64 (i:Nat))] a'→Q .normal a' w):∀ac,Frm 103 [(2,s_2),(7,q),(8,s_8),(10,s_10),(11,s_11),(12,v),(62,s_62),(63,.int .i64 (i:Nat))] ac→Code.wp Tryd.prog c_lw_r12 Q ac w := by
  refine fO (frame_lw ?_)
  intros
  rename_i hq
  iterate 8 (obtain ⟨e,hq⟩ := hq; obtain rfl := sI e; clear e)
  clear hq
  conv=>arg 2; whnf
  replace hN := Lib.hid hN
  go_wp2_with fail
  exact hN.out _ (by exact fR rfl rfl rfl)
def c_lw_r13 := sp 99 85183 cF3
theorem lw_r13_wp (hi:i<NN) (hc:w.cell? ⟨gi,i,none⟩=some (.bool bb)) (hgi:gi<w.heap.size) (hN:∀a',Frm 103 [(2,s_2),(7,q),(8,s_8),(10,.slice (some ⟨gi,0,none⟩) NN NN),(11,s_11),(12,v),(62,s_62),(63,s_63),(13,.int .i64 (i:Nat)),(69,.bool bb)] a'→Q .normal a' w):∀ac,Frm 103 [(2,s_2),(7,q),(8,s_8),(10,.slice (some ⟨gi,0,none⟩) NN NN),(11,s_11),(12,v),(62,s_62),(63,s_63),(13,.int .i64 (i:Nat))] ac→Code.wp Tryd.prog c_lw_r13 Q ac w := by
  refine fO (frame_lw ?_)
  intros
  rename_i hq
  iterate 9 (obtain ⟨e,hq⟩ := hq; obtain rfl := sI e; clear e)
  clear hq
  conv=>arg 2; whnf
  have q0:(0:Int)≤(i:Int) := by omega
  have q1:(i:Int)<(NN:Int) := by omega
  replace hN := Lib.hid hN
  go_wp2_with fail
  exact hN.out _ (by exact fR rfl rfl rfl)
def c_lw_r14 := sp 99 314559 cF3
theorem lw_r14_wp (hm9:mv≤1000) (hN:∀a',Frm 103 [(2,s_2),(7,q),(8,s_8),(10,s_10),(11,.int .i64 (mv:Nat)),(12,v),(62,s_62),(63,s_63),(13,s_13),(14,.slice (some ⟨w.heap.size,0,none⟩) mv mv)] a'→Q .normal a' (w.alloc (.cells (madeCells #[.int .i64 0] mv) 3))):∀ac,Frm 103 [(2,s_2),(7,q),(8,s_8),(10,s_10),(11,.int .i64 (mv:Nat)),(12,v),(62,s_62),(63,s_63),(13,s_13)] ac→Code.wp Tryd.prog c_lw_r14 Q ac w := by
  refine fO (frame_lw ?_)
  intros
  rename_i hq
  iterate 9 (obtain ⟨e,hq⟩ := hq; obtain rfl := sI e; clear e)
  clear hq
  conv=>arg 2; whnf
  have hmk := fun W:World=>run_make_row' (P := Tryd.prog) 39 3 (.int .i64 0) 8 Tryd.underlying39 infoInt rfl .i64 .i64 mv (by omega) (by omega) W
  replace hN := Lib.hid hN
  go_wp2_with fail
  exact hN.out _ (by exact fR rfl rfl rfl)
def c_lw_r15 := sp 99 1232063 cF3
theorem lw_r15_wp (hm9:mv≤1000) (hN:∀a',Frm 103 [(2,s_2),(7,q),(8,s_8),(10,s_10),(11,.int .i64 (mv:Nat)),(12,v),(62,s_62),(63,s_63),(13,.int .i64 (i:Nat)),(14,s_14),(15,.int .i64 ((mv:Int) - 1)),(16,.int .i64 (i:Nat))] a'→Q .normal a' w):∀ac,Frm 103 [(2,s_2),(7,q),(8,s_8),(10,s_10),(11,.int .i64 (mv:Nat)),(12,v),(62,s_62),(63,s_63),(13,.int .i64 (i:Nat)),(14,s_14)] ac→Code.wp Tryd.prog c_lw_r15 Q ac w := by
  refine fO (frame_lw ?_)
  intros
  rename_i hq
  iterate 10 (obtain ⟨e,hq⟩ := hq; obtain rfl := sI e; clear e)
  clear hq
  conv=>arg 2; whnf
  have h9:(mv:Int)≤1000 := by omega
  replace hN := Lib.hid hN
  go_wp2_with fail
  exact hN.out _ (by exact fR rfl rfl rfl)
def c_lw_r16 := sp 99 17484991 cF3
theorem lw_r16_wp {y:Int} (hN:∀a',Frm 103 [(2,s_2),(7,q),(8,s_8),(10,s_10),(11,s_11),(12,v),(62,s_62),(63,s_63),(13,s_13),(14,s_14),(15,.int .i64 y),(16,s_16),(76,.bool (decide ((0:Int)≤y)))] a'→Q .normal a' w):∀ac,Frm 103 [(2,s_2),(7,q),(8,s_8),(10,s_10),(11,s_11),(12,v),(62,s_62),(63,s_63),(13,s_13),(14,s_14),(15,.int .i64 y),(16,s_16)] ac→Code.wp Tryd.prog c_lw_r16 Q ac w := by
  refine fO (frame_lw ?_)
  intros
  rename_i hq
  iterate 12 (obtain ⟨e,hq⟩ := hq; obtain rfl := sI e; clear e)
  clear hq
  conv=>arg 2; whnf
  by_cases h:(0:Int)≤y
  · have t1:decide ((0:Int)≤y)=true := by first | exact decide_eq_true (by omega) | exact beq_iff_eq.2 (by omega) | exact bne_iff_ne.2 (by omega)
    have t2:(decide ((0:Int)≤y))=true := decide_eq_true h
    rw [t2] at hN
    clear h
    replace hN := Lib.hid hN
    go_wp2_with fail
    exact hN.out _ (by exact fR rfl rfl rfl)
  · have t1:decide ((0:Int)≤y)=false := by first | exact decide_eq_false (by omega) | exact beq_eq_false_iff_ne.2 (by omega) | exact bne_eq_false_iff_eq.2 (by omega)
    have t2:(decide ((0:Int)≤y))=false := decide_eq_false h
    rw [t2] at hN
    clear h
    replace hN := Lib.hid hN
    go_wp2_with fail
    exact hN.out _ (by exact fR rfl rfl rfl)
def c_lw_r18 := sp 99 72010943 cF3
theorem lw_r18_wp {v5:Int} (hgm:w.heap[gm]?=some (.cells #[.int .i64 z,.slice Am nm1 cm,.slice Bm nm2 dm] 25 (0,0))) (hz:1≤z) (hk:k<mv) (ho:w.cell? ⟨gv,k,none⟩=some (.int .i64 v5)) (hf:w.frozen? ⟨gv,k,none⟩=false) (hgl:gv<w.heap.size) (hN:∀a',Frm 103 [(2,.pointer (some ⟨gm,0,none⟩)),(7,q),(8,s_8),(10,s_10),(11,s_11),(12,v),(62,s_62),(63,s_63),(13,s_13),(14,.slice (some ⟨gv,0,none⟩) mv mv),(15,.int .i64 (k:Nat)),(16,.int .i64 (x:Nat))] a'→Q .normal a' (w.setCell ⟨gv,k,none⟩ (.int .i64 ((x:Int) % z)))):∀ac,Frm 103 [(2,.pointer (some ⟨gm,0,none⟩)),(7,q),(8,s_8),(10,s_10),(11,s_11),(12,v),(62,s_62),(63,s_63),(13,s_13),(14,.slice (some ⟨gv,0,none⟩) mv mv),(15,.int .i64 (k:Nat)),(16,.int .i64 (x:Nat))] ac→Code.wp Tryd.prog c_lw_r18 Q ac w := by
  refine fO (frame_lw ?_)
  intros
  rename_i hq
  iterate 12 (obtain ⟨e,hq⟩ := hq; obtain rfl := sI e; clear e)
  clear hq
  conv=>arg 2; whnf
  have m0 := cellv hgm 0 rfl
  have m1 := cellv hgm 1 rfl
  have m2 := cellv hgm 2 rfl
  have ml := lt_heap hgm
  clear hgm
  have q0:(0:Int)≤(k:Int) := by omega
  have q1:(k:Int)<(mv:Int) := by omega
  have zn:(z == 0)=false := beq_eq_false_iff_ne.2 (by omega)
  replace hN := Lib.hid hN
  go_wp2_with fail
  exact hN.out _ (by exact fR rfl rfl rfl)
def c_lw_r19 := sp 99 105565375 cF3
theorem lw_r19_wp {s_15:Value} (hgm:w.heap[gm]?=some (.cells #[.int .i64 z,.slice Am nm1 cm,.slice Bm nm2 dm] 25 (0,0))) (hz:1≤z) (hN:∀a',Frm 103 [(2,.pointer (some ⟨gm,0,none⟩)),(7,q),(8,s_8),(10,s_10),(11,s_11),(12,v),(62,s_62),(63,s_63),(13,s_13),(14,s_14),(15,s_15),(16,.int .i64 (RowKit.wrap64 ((x:Int) / z)))] a'→Q .normal a' w):∀ac,Frm 103 [(2,.pointer (some ⟨gm,0,none⟩)),(7,q),(8,s_8),(10,s_10),(11,s_11),(12,v),(62,s_62),(63,s_63),(13,s_13),(14,s_14),(15,s_15),(16,.int .i64 (x:Nat))] ac→Code.wp Tryd.prog c_lw_r19 Q ac w := by
  refine fO (frame_lw ?_)
  intros
  rename_i hq
  iterate 12 (obtain ⟨e,hq⟩ := hq; obtain rfl := sI e; clear e)
  clear hq
  conv=>arg 2; whnf
  have m0 := cellv hgm 0 rfl
  have m1 := cellv hgm 1 rfl
  have m2 := cellv hgm 2 rfl
  have ml := lt_heap hgm
  clear hgm
  have zn:(z == 0)=false := beq_eq_false_iff_ne.2 (by omega)
  replace hN := Lib.hid hN
  go_wp2_with fail
  exact hN.out _ (by exact fR rfl rfl rfl)
def c_lw_r17 := sp 99 30067903 cF3
theorem lw_r17_wp (hk:k≤1000) (hN:∀a',Frm 103 [(2,s_2),(7,q),(8,s_8),(10,s_10),(11,s_11),(12,v),(62,s_62),(63,s_63),(13,s_13),(14,s_14),(15,.int .i64 ((k:Int) - 1)),(16,s_16)] a'→Q .normal a' w):∀ac,Frm 103 [(2,s_2),(7,q),(8,s_8),(10,s_10),(11,s_11),(12,v),(62,s_62),(63,s_63),(13,s_13),(14,s_14),(15,.int .i64 (k:Nat)),(16,s_16)] ac→Code.wp Tryd.prog c_lw_r17 Q ac w := by
  refine fO (frame_lw ?_)
  intros
  rename_i hq
  iterate 12 (obtain ⟨e,hq⟩ := hq; obtain rfl := sI e; clear e)
  clear hq
  conv=>arg 2; whnf
  have h9:(k:Int)≤1000 := by omega
  replace hN := Lib.hid hN
  go_wp2_with fail
  exact hN.out _ (by exact fR rfl rfl rfl)
def c_lw_r21 := sp 99 15551 cF3
theorem lw_r21_wp (hi:(i:Int)<1000000) (hN:∀a',Frm 103 [(2,s_2),(7,q),(8,s_8),(10,s_10),(11,s_11),(12,v),(62,s_62),(63,.int .i64 (i+1:Nat))] a'→Q .normal a' w):∀ac,Frm 103 [(2,s_2),(7,q),(8,s_8),(10,s_10),(11,s_11),(12,v),(62,s_62),(63,.int .i64 (i:Nat))] ac→Code.wp Tryd.prog c_lw_r21 Q ac w := by
  refine fO (frame_lw ?_)
  intros
  rename_i hq
  iterate 8 (obtain ⟨e,hq⟩ := hq; obtain rfl := sI e; clear e)
  clear hq
  conv=>arg 2; whnf
  have hi4:(i:Int)≤9223372036854775806 := by omega
  replace hN := Lib.hid hN
  go_wp2_with fail
  exact hN.out _ (by exact fR rfl rfl rfl)
def c_lw_r2 := sp 99 21 cF3
theorem lw_r2_wp {ge:Nat} (g0:w.cell? ⟨0,0,none⟩=some (.int .i64 0)) (g1:w.cell? ⟨0,1,none⟩=some (.int .i64 0)) (he:w.heap[ge]?=some (.cells #[.int .i64 0,.int .i64 0] 32 (0,0))) (hc:Calls Tryd.prog 10 #[q,.slice (some ⟨w.heap.size+1,0,none⟩) 1 1] ((w.alloc (.cells #[.int .i64 0] 3)).alloc (.cells #[.slice (some ⟨w.heap.size,0,none⟩) 1 1] 39)) fun e w'=>e=.returned (.bool true)∧Below w.heap.size w w') (hN:∀a' w',Frm 103 [(2,s_2),(3,s_3),(34,.bool false)] a'→Below w.heap.size w w'→Q .normal a' w'):∀ac,Frm 103 [(2,s_2),(3,s_3),(5,q),(6,.pointer (some ⟨ge,0,none⟩))] ac→Code.wp Tryd.prog c_lw_r2 Q ac w := by
  refine fO (frame_lw ?_)
  intros
  rename_i hq
  iterate 4 (obtain ⟨e,hq⟩ := hq; obtain rfl := sI e; clear e)
  clear hq
  conv=>arg 2; whnf
  have e0 := cellv he 0 rfl
  have e1 := cellv he 1 rfl
  have el := lt_heap he
  have lg := World.block_lt_of_cell? w _ g0
  clear he
  have HN := Lib.hid hN
  have HC := Lib.hid hc
  clear hN hc
  go_wp2_with fail
  (with_reducible refine HC.out.mono ?_)
  rintro e w1 ⟨rfl,hb1⟩
  replace hb1 := Lib.hid hb1
  go_wp2_with fail
  exact HN.out _ _ (by exact fR rfl rfl rfl) hb1.out
theorem infoIntsL:(Tryd.prog.info? 39).map (fun i=>(i.zero,i.size,i.bytes))=some (some (.slice none 0 0),1,24) := by kernel_rfl
def c_lw_r20 := sp 99 969919 cF3
theorem lw_r20_wp {base n9 c9:Nat} {A9:Option Addr} {rows:List (List Int)} {t:List Int} (hn9:n9=rows.length) (hl:n9≤1000000) (hbw:base≤w.heap.size) (hb:intsRep.Own 39 base w (fun b=>base≤b∧b<w.heap.size) (.slice A9 n9 c9) rows) (ht:zRep.Sl w (fun b=>(base≤b∧b<w.heap.size)∧Value.ownBlock (.slice A9 n9 c9)≠some b) (.slice (some ⟨gv,0,none⟩) mv mv) t) (hN:∀v' a' w',Frm 103 [(2,s_2),(7,q),(8,s_8),(10,s_10),(11,s_11),(12,v'),(62,s_62),(63,s_63)] a'→intsRep.Own 39 base w' (fun b=>base≤b∧b<w'.heap.size) v' (rows++[t])→Below base w w'→Q .normal a' w'):∀ac,Frm 103 [(2,s_2),(7,q),(8,s_8),(10,s_10),(11,s_11),(12,(.slice A9 n9 c9)),(62,s_62),(63,s_63),(14,.slice (some ⟨gv,0,none⟩) mv mv)] ac→Code.wp Tryd.prog c_lw_r20 Q ac w := by
  refine fO (frame_lw ?_)
  intros
  rename_i hq
  iterate 9 (obtain ⟨e,hq⟩ := hq; obtain rfl := sI e; clear e)
  clear hq
  conv=>arg 2; whnf
  obtain ⟨ti,hti,ht0,ht1,ht2⟩ := info_parts infoIntsL
  obtain ⟨xs,hrow,hall⟩ := id hb
  rw [← hn9] at hrow
  have HN9 := Lib.hid hn9
  have HROW := Lib.hid hrow
  have HALL := Lib.hid hall
  have HT := Lib.hid ht
  clear hrow hall hb ht hn9
  replace hN := Lib.hid hN
  go_wp2_with (at_builtin; refine wpList_append_lies (w.alloc (.cells #[.slice (some ⟨gv,0,none⟩) mv mv] 39)) ?h1 (.tmp 90) (.tmp 92) 30 ?h2 base 39 ti (.slice none 0 0) 1 24 ?h3 hti ht0 ht1 ht2 ?h4 ?h5 (.slice A9 n9 c9) n9 xs ?h6 ?h7 ⟨w.heap.size,0,none⟩ 1 1 [.slice (some ⟨gv,0,none⟩) mv mv] ?h8 ?h9 ?h10 ?h11 ?h12 ?h13 ?h14 ?h15 (w.heap.size+1) ?h16 ?_)
  try (case h1=>rfl)
  try (case h2=>rfl)
  try (case h3=>exact Tryd.underlying30)
  try (case h4=>rfl)
  try (case h5=>omega)
  try (case h6=>rfl)
  try (case h7=>exact HROW.out.alloc _)
  try (case h8=>rfl)
  try (case h9=>rfl)
  try (case h10=>exact World.news_of_block (cs := #[.slice (some ⟨gv,0,none⟩) mv mv]) (t := 39) (fr := (0,0)) (heap_alloc_new w _))
  try (case h11=>simp [Value.oneCell'])
  try (case h12=>omega)
  try (case h13=>first | (simp [maxLen]; omega) | (unfold maxLen; omega))
  try (case h14=>omega)
  try (case h15=>first | omega | (simp; omega))
  try (case h16=>first | rfl | simp)
  intro gg cap w6 hown3 hgrow hat hlt
  have hap := Rep.step (ρ := intsRep) (a := t) HN9.out.symm HALL.out ⟨_,rfl,HT.out⟩ (fun b hb=>hb) hown3 hgrow hat
  have hbg:Below base w w6 := ((Below.refl base w).alloc hbw _).trans (below_of_grown9 hgrow (own_ge9 HROW.out) (by simp; omega))
  have HBG := Lib.hid hbg
  have HAP := Lib.hid hap
  clear hown3 hgrow hat hbg hlt hap
  go_wp2_with fail
  exact hN.out _ _ _ (by exact fR rfl rfl rfl) HAP.out HBG.out
def c_lw_r22 := sp 99 383 cF3
theorem lw_r22_wp (g0:w.cell? ⟨0,0,none⟩=some (.int .i64 0)) (g1:w.cell? ⟨0,1,none⟩=some (.int .i64 0)) (he:w.heap[gx]?=some (.cells #[.int .i64 0,.int .i64 0] 32 (0,0))) (hc:Calls Tryd.prog 10 #[q,v] w fun e w'=>e=.returned (.bool true)∧Below w.heap.size w w') (hN:∀a' w',Frm 103 [(4,.bool true)] a'→Below w.heap.size w w'→Q .normal a' w'):∀ac,Frm 103 [(7,q),(8,.pointer (some ⟨gx,0,none⟩)),(12,v)] ac→Code.wp Tryd.prog c_lw_r22 Q ac w := by
  refine fO (frame_lw ?_)
  intros
  rename_i hq
  iterate 3 (obtain ⟨e,hq⟩ := hq; obtain rfl := sI e; clear e)
  clear hq
  conv=>arg 2; whnf
  have e0 := cellv he 0 rfl
  have e1 := cellv he 1 rfl
  have el := lt_heap he
  have lg := World.block_lt_of_cell? w _ g0
  clear he
  have HN := Lib.hid hN
  have HC := Lib.hid hc
  clear hN hc
  go_wp2_with fail
  (with_reducible refine HC.out.mono ?_)
  rintro e w1 ⟨rfl,hb1⟩
  replace hb1 := Lib.hid hb1
  go_wp2_with fail
  exact HN.out _ _ (id ⟨rfl,rfl,rfl,trivial⟩) hb1.out
theorem lw_ret_wp {R:Ending→World→Prop} {w':World} (hR:R (.returned (.bool bb)) w'):∀ac,Frm 103 [(4,.bool bb)] ac→bodyPost Tryd.prog Tryd.f3 R .ret ac w' := by
  refine fO (frame_lw ?_)
  intros
  rename_i hq
  iterate 1 (obtain ⟨e,hq⟩ := hq; obtain rfl := sI e; clear e)
  clear hq
  refine bodyPost_ret (v := .bool bb) (by simp [results,Tryd.results3,go_sem]) rfl ?_
  exact hR
end
noncomputable section
set_option maxRecDepth 100000
set_option maxHeartbeats 4000000
variable {sz:Nat}

def c_lw_digs := sp 99 2804927 cF3
theorem lw_digs_wp {Q:Exit→Act→World→Prop} {q v:Value} {i gv:Nat} {nm1 cm nm2 dm:Nat} {Am Bm:Option Addr} {gm gx gi NN mv:Nat} {w:World} (hs:1≤sz∧sz≤6) (hm:mv≤5) (hi:i≤100000) (hne:gv≠gm) (hgm:w.heap[gm]?=some (.cells #[.int .i64 (sz:Nat),.slice Am nm1 cm,.slice Bm nm2 dm] 25 (0,0))) (hgv:w.heap[gv]?=some (.cells ((List.replicate mv 0).map (Value.int .i64 ·)).toArray 3 (0,0))) (hX:∀a' w',Frm 103 [(2,.pointer (some ⟨gm,0,none⟩)),(7,q),(8,.pointer (some ⟨gx,0,none⟩)),(10,.slice (some ⟨gi,0,none⟩) NN NN),(11,.int .i64 (mv:Nat)),(12,v),(62,.int .i64 (NN:Nat)),(63,.int .i64 (i:Nat)),(13,.int .i64 (i:Nat)),(14,.slice (some ⟨gv,0,none⟩) mv mv)] a'→w'.heap[gv]?=some (.cells ((digs sz mv i).map (Value.int .i64 ·)).toArray 3 (0,0))→Keeps (fun k=>k=gv) w w'→Q (.exit 2) a' w'):∀ac,Frm 103 [(2,.pointer (some ⟨gm,0,none⟩)),(7,q),(8,.pointer (some ⟨gx,0,none⟩)),(10,.slice (some ⟨gi,0,none⟩) NN NN),(11,.int .i64 (mv:Nat)),(12,v),(62,.int .i64 (NN:Nat)),(63,.int .i64 (i:Nat)),(13,.int .i64 (i:Nat)),(14,.slice (some ⟨gv,0,none⟩) mv mv),(15,.int .i64 ((mv:Int) - 1)),(16,.int .i64 (i:Nat))] ac→Code.wp Tryd.prog c_lw_digs Q ac w := by
  intro a0 hf0
  conv=>arg 2; whnf
  refine wp_loopR (fun g a' w'=>∃(x:Nat) (r:List Int),g≤mv∧x≤100000∧digs sz mv i=digs sz g x++r∧w'.heap[gv]?=some (.cells ((List.replicate g 0++r).map (Value.int .i64 ·)).toArray 3 (0,0))∧Keeps (fun k=>k=gv) w w'∧Frm 103 [(2,.pointer (some ⟨gm,0,none⟩)),(7,q),(8,.pointer (some ⟨gx,0,none⟩)),(10,.slice (some ⟨gi,0,none⟩) NN NN),(11,.int .i64 (mv:Nat)),(12,v),(62,.int .i64 (NN:Nat)),(63,.int .i64 (i:Nat)),(13,.int .i64 (i:Nat)),(14,.slice (some ⟨gv,0,none⟩) mv mv),(15,.int .i64 ((g:Int) - 1)),(16,.int .i64 (x:Nat))] a') mv ⟨i,[],Nat.le_refl _,hi,by simp,by simpa using hgv,Keeps.refl _ _,hf0⟩ ?_
  rintro g a1 w1 ⟨x,r,hg,hx,hd,hr,hk,h1⟩
  refine wp_seq ?_
  refine wp_seq ?_
  refine lw_r16_wp (fun a2 h2=>?_) a1 h1
  by_cases hc:(0:Int)≤(g:Int) - 1
  case neg =>
    refine wp_cond_false ((h2.eval (k := 76) (v := .bool (decide ((0:Int)≤(g:Int) - 1))) (by simp)).trans (by rw [decide_eq_false hc])) ?_
    refine wp_exit ?_
    repeat refine then_exit ?_
    obtain rfl:g=0 := by omega
    refine hX a2 w1 (h2.pick [0,1,2,3,4,5,6,7,8,9]) ?_ hk
    rw [hd]
    simpa [digs] using hr
  refine wp_cond_true ((h2.eval (k := 76) (v := .bool (decide ((0:Int)≤(g:Int) - 1))) (by simp)).trans (by rw [decide_eq_true hc])) ?_
  refine wp_skip ?_
  show Code.wp _ _ _ a2 w1
  obtain ⟨k,rfl⟩:∃k,g=k+1 := ⟨g - 1,by omega⟩
  have hz1:((k+1:Nat):Int) - 1=(k:Nat) := by omega
  rw [hz1] at h2
  have hgm1 := (hk.block gm (lt_heap hgm) (fun e=>hne e.symm)).trans hgm
  have hrl:((List.replicate (k+1) (0:Int)++r).map (Value.int .i64 ·))[k]?=some (.int .i64 0) := by
    rw [List.getElem?_map,List.getElem?_append_left (by simp),List.getElem?_replicate,if_pos (by omega)]; rfl
  refine wp_seq ?_
  refine wp_block ?_
  refine wp_seq ?_
  refine lw_r18_wp hgm1 (by omega) (by omega) (row_cell hr hrl) (row_free hr) (lt_heap hr) (fun a3 h3=>?_) a2 (h2.pick [0,1,2,3,4,5,6,7,8,9,10,11])
  have hr2 := set_at (i := k) (v := .int .i64 ((x:Int) % ((sz:Nat):Int))) hr
  have hgm2:(w1.setCell ⟨gv,k,none⟩ (.int .i64 ((x:Int) % ((sz:Nat):Int)))).heap[gm]?=_ := heap_far _ (fun e=>hne e.symm) hgm1
  have hk2:Keeps (fun k=>k=gv) w (w1.setCell ⟨gv,k,none⟩ (.int .i64 ((x:Int) % ((sz:Nat):Int)))) := hk.set (Or.inl rfl) k _
  refine gen_last (fun wx=>wx.heap[gv]?=some (.cells (((List.replicate (k+1) (0:Int)++r).map (Value.int .i64 ·)).set k (.int .i64 ((x:Int) % ((sz:Nat):Int)))).toArray 3 (0,0))∧wx.heap[gm]?=some (.cells #[.int .i64 (sz:Nat),.slice Am nm1 cm,.slice Bm nm2 dm] 25 (0,0))∧Keeps (fun k=>k=gv) w wx) ⟨hr2,hgm2,hk2⟩ ?_
  rintro w2 ⟨hr3,hgm3,hk3⟩
  have hdiv:RowKit.wrap64 ((x:Int) / ((sz:Nat):Int))=((x / sz:Nat):Int) := by
    have hle:x / sz≤x := Nat.div_le_self _ _
    rw [← Int.natCast_ediv]
    generalize x / sz=d at hle ⊢
    exact wrap64_ok (by omega) (by omega)
  refine lw_r19_wp hgm3 (by omega) (fun a4 h4=>?_) a3 h3
  rw [hdiv] at h4
  show Code.wp _ _ _ a4 w2
  refine lw_r17_wp (by omega) (fun a5 h5=>?_) a4 h4
  refine ⟨k,by omega,x / sz,((x % sz:Nat):Int) :: r,by omega,by have := Nat.div_le_self x sz; omega,?_,?_,hk3,h5⟩
  · rw [hd]
    simp [digs]
  · rw [hr3]
    congr 2
    rw [← Int.natCast_emod,List.map_append,List.map_append,List.set_append_left _ _ (by simp),List.map_replicate,List.replicate_succ',List.set_append_right _ _ (by simp)]
    simp
theorem exSome_wit:witF mdSmall exSome []=[[0]] := by decide +kernel
theorem lead_len:∀f:Fv,(leadV f).length≤nestF f
  | .tru | .pred _ _ | .same _ _=>by simp [leadV]
  | .neg _ | .bin _ _ _=>by simp [leadV]
  | .qu k x f=>by
    have h := lead_len f
    by_cases hk:k=9 <;> simp [leadV,nestF,hk] <;> omega
theorem rows_le (m:Md) (b:Fv) (vs:List ByteArray) (i:Nat):((List.range i).filterMap (rowT m b vs)).length≤i := by
  have h := List.length_filterMap_le (rowT m b vs) (List.range i)
  rwa [List.length_range] at h
theorem rows_next (m:Md) (b:Fv) (vs:List ByteArray) (i:Nat):(List.range (i+1)).filterMap (rowT m b vs)=(List.range i).filterMap (rowT m b vs)++(if evalF m b (vs.zip (digs m.sz.toNat vs.length i))=true then [digs m.sz.toNat vs.length i] else []) := by
  rw [List.range_succ,List.filterMap_append]
  congr 1
  by_cases h:evalF m b (vs.zip (digs m.sz.toNat vs.length i))=true <;> simp [rowT,h]
theorem pow_six {n:Nat} (hs:sz≤6) (hn:n≤5):sz ^ n≤7776 := Nat.le_trans (Nat.pow_le_pow_left hs n) (Nat.pow_le_pow_right (n := 6) (by omega) hn)
theorem witn_any (m:Md) (t:Fm) (ms cs:List Value) (w:World) (S:Nat→Prop) (hm:m.In w S ms) (ht:fmRep.R w S t cs) (hS:∀b,S b→b<w.heap.size) (g0:w.cell? ⟨0,0,none⟩=some (.int .i64 0)) (g1:w.cell? ⟨0,1,none⟩=some (.int .i64 0)):Calls Tryd.prog 3 #[.agg ms.toArray,.agg cs.toArray] w fun e w'=>e=.returned (.bool true)∧Below w.heap.size w w' := by
  obtain ⟨A,n1,c1,B,n2,c2,rfl,_,_,_,_⟩ := Fm.shape ht
  obtain ⟨Am,cm,Bm,dm,rfl,_,_,_,_⟩ := Md.shape hm
  obtain ⟨kd,hkd⟩:∃k,t.lab.kind=k := ⟨_,rfl⟩
  obtain ⟨nm,hnm⟩:∃k,t.lab.nm=k := ⟨_,rfl⟩
  rw [hkd,hnm] at ht ⊢
  go_enter Tryd.func3,Tryd.ntmps3
  have lg := World.block_lt_of_cell? w _ g0
  have hret:∀a' w',Frm 103 [(4,.bool true)] a'→Below w.heap.size w w'→bodyPost Tryd.prog Tryd.f3 (fun e w'=>e=.returned (.bool true)∧Below w.heap.size w w') .ret a' w' := fun a' w' h hb=>lw_ret_wp ⟨rfl,hb⟩ a' h
  have gg := fun (W:World) (hb:Below w.heap.size w W)=>And.intro ((hb.cell (p := ⟨0,0,none⟩) lg).trans g0) ((hb.cell (p := ⟨0,1,none⟩) lg).trans g1)
  have hmk := fun (W:World) (hb:Below w.heap.size w W)=>Md.In.keep (w' := W) (S' := Lo W) hm (fun b hbS=>hb.block b (hS b hbS)) (fun b hbS=>Nat.lt_of_lt_of_le (hS b hbS) hb.size)
  have hold := fun (W:World) (hb:Below w.heap.size w W)=>fmRep.keep (w' := W) (S' := Lo W) ht (fun b hbS=>hb.block b (hS b hbS)) (fun b hbS=>Nat.lt_of_lt_of_le (hS b hbS) hb.size)
  refine wp_seq ?_
  refine lw_r0_wp (fun a0 h0=>?_) _ (id ⟨rfl,rfl,rfl,rfl,trivial⟩)
  refine gen_last (fun wx=>wx.heap[w.heap.size]?=some (.cells #[.int .i64 m.sz,.slice Am m.cs.length cm,.slice Bm m.rs.length dm] 25 (0,0))∧wx.heap[w.heap.size+1]?=some (.cells #[.int .i64 kd,.string nm,.slice A n1 c1,.slice B n2 c2] 29 (0,0))∧Below w.heap.size w wx) ⟨heap_old (by simp) (heap_at rfl),heap_at (by simp),by go_grown⟩ ?_
  rintro wy ⟨hmy,hay,hby⟩
  refine wp_seq ?_
  refine wp_seq ?_
  refine lw_r1_wp (PX := (fun q W=>intsRep.Sl W (Lo W) q [[0]])) (fun W ms9 cs9 q1 q2 _=>(witnesses_any mdSmall exSome.fm ms9 cs9 W (Lo W) q2 q1 (fun _ h=>h)).mono ?_) (fun q8 w8 ge1 a1 w1 hq8 hw8 h1 he1 hb1'=>?_) a0 h0
  · rintro e W' ⟨q,rfl,_,hq,hbw⟩
    rw [exSome_zero] at hq ⊢
    obtain ⟨v,e1,ok',_,_,base,_,hown⟩ := hq rfl
    obtain rfl := Fv.fm_inj exSome v exSome_ok ok' e1
    rw [exSome_wit] at hown
    exact ⟨q,rfl,hown.sl (by simp [maxLen]) (fun b hb=>hb.2) (fun b _ hb=>hb),hbw⟩
  have hb1 := hby.trans (hb1'.mono hby.size)
  refine wp_seq ?_
  have hq1 := hq8.keep (w' := w1) (S' := Lo w1) (fun b hb=>hw8.block b hb) (fun b hb=>Nat.lt_of_lt_of_le hb hw8.size)
  have hG1 := eqGrid_self [[0]] q8 (.slice (some ⟨w1.heap.size+1,0,none⟩) 1 1) ((w1.alloc (.cells #[.int .i64 0] 3)).alloc (.cells #[.slice (some ⟨w1.heap.size,0,none⟩) 1 1] 39)) (Lo ((w1.alloc (.cells #[.int .i64 0] 3)).alloc (.cells #[.slice (some ⟨w1.heap.size,0,none⟩) 1 1] 39))) (hq1.keep (fun b hb=>heap_old (by have:b<_ := hb; simp; omega) (heap_old hb rfl)) (fun b hb=>by have:b<_ := hb; show b<_; simp; omega)) (sl_lit (ρ := intsRep) (x := [0]) (ds := [.slice (some ⟨w1.heap.size,0,none⟩) 1 1]) (T := 39) (fr := (0,0)) ⟨_,rfl,sl_lit (ρ := zRep) (x := 0) (ds := [.int .i64 0]) (T := 3) (fr := (0,0)) rfl (heap_old (by simp) (heap_at rfl)) (show _<_ by simp; omega)⟩ (heap_at (by simp)) (show _<_ by simp)) (fun _ h=>h)
  refine lw_r2_wp (gg w1 hb1).1 (gg w1 hb1).2 he1 (hG1.mono (fun e W' h=>⟨h.1,(show Below w1.heap.size w1 ((w1.alloc (.cells #[.int .i64 0] 3)).alloc (.cells #[.slice (some ⟨w1.heap.size,0,none⟩) 1 1] 39)) by go_grown).trans (h.2.mono (by simp; omega))⟩)) (fun a2 w2 h2 hb2'=>?_) a1 h1
  have hb2 := hb1.trans (hb2'.mono hb1.size)
  refine wp_cond_false ((h2.eval (k := 34) (v := .bool false) (by simp)).trans rfl) ?_
  refine wp_skip ?_
  show Code.wp _ _ _ a2 w2
  have hm1 := (hb2'.block _ (Nat.lt_of_lt_of_le (lt_heap hmy) hb1'.size)).trans ((hb1'.block _ (lt_heap hmy)).trans hmy)
  have ha1 := (hb2'.block _ (Nat.lt_of_lt_of_le (lt_heap hay) hb1'.size)).trans ((hb1'.block _ (lt_heap hay)).trans hay)
  refine wp_seq ?_
  refine lw_r4_wp (c := (holdsC m t).1) (j := (holdsC m t).2) (PX := (fun q W=>((holdsC m t).1≠0→q=.slice none 0 0)∧((holdsC m t).1=0→∀v:Fv,t=v.fm→v.ok→intsRep.Sl W (Lo W) q (witF m v [])))) hm1 ha1 ((witnesses_any m t _ _ w2 _ (hold w2 hb2) (hmk w2 hb2) (fun _ h=>h)).mono ?_) (fun q9 w9 gx a3 w3 hq9 hw9 h3 he3 hb3'=>?_) a2 (h2.pick [0,1])
  · rintro e W' ⟨q,rfl,hqa,hqb,hbw⟩
    refine ⟨q,rfl,⟨hqa,fun hz v hv ov=>?_⟩,hbw⟩
    obtain ⟨v',e1,ok',_,_,base,_,hown⟩ := hqb hz
    obtain rfl := Fv.fm_inj v v' ov ok' (hv.symm.trans e1)
    obtain ⟨hg,v2,e2,ok2,_,_,hn5,_⟩ := holds_zero hz
    obtain rfl := Fv.fm_inj v v2 ov ok2 (hv.symm.trans e2)
    have hwl := wit_len (m := m) (by have := hg.sz; omega) v []
    have h65:6 ^ nestF v≤6 ^ 5 := Nat.pow_le_pow_right (by omega) hn5
    exact hown.sl (by unfold maxLen; omega) (fun b hb=>hb.2) (fun b _ hb=>hb)
  have hb3 := hb2.trans (hb3'.mono hb2.size)
  have hm3 := (hb3'.block _ (lt_heap hm1)).trans hm1
  have ha3 := (hb3'.block _ (lt_heap ha1)).trans ha1
  refine wp_seq ?_
  refine wp_seq ?_
  refine lw_r5_wp hm3 ha3 (truthFault_any m t _ _ w3 _ (hold w3 hb3) (hmk w3 hb3) (fun _ h=>h)) (fun gy a4 w4 h4 he4 hb4'=>?_) a3 h3
  have hb4 := hb3.trans (hb4'.mono hb3.size)
  have hm4 := (hb4'.block _ (lt_heap hm3)).trans hm3
  have ha4 := (hb4'.block _ (lt_heap ha3)).trans ha3
  have he34 := (hb4'.block _ (lt_heap he3)).trans he3
  refine wp_seq ?_
  by_cases hc1:(holdsC m t).1=0
  case neg =>
    refine lw_r6c_wp (gg w4 hb4).1 (gg w4 hb4).2 hc1 he4 (fun a5 h5=>?_) a4 h4
    refine wp_cond_true ((h5.eval (k := 46) (v := .bool true) (by simp)).trans rfl) ?_
    obtain rfl := hq9.1 hc1
    refine wp_seq ?_
    refine lw_r7_wp he34 he4 (fun a6 h6=>?_) a5 (h5.pick [2,3,4])
    refine wp_ret ?_
    repeat (first | refine thenR ?_ | refine inBlockR ?_)
    exact hret a6 _ h6 hb4
  obtain ⟨hg,v,hvt,ov,nv,dv,hn5,hrel⟩ := holds_zero hc1
  have hp := (holdsC_ok hc1).2.2
  obtain ⟨_,_,hall,_⟩ := pairT_zero hp
  obtain ⟨sz,hsz⟩:∃n:Nat,m.sz=(n:Nat) := ⟨m.sz.toNat,by have := hg.sz; omega⟩
  have hsz2:m.sz.toNat=sz := by omega
  have hsl := (hq9.2 hc1 v hvt ov).keep (w' := w4) (S' := Lo w4) (fun b hb=>(hb4'.block b (Nat.lt_of_lt_of_le hb hw9.size)).trans (hw9.block b hb)) (fun b hb=>Nat.lt_of_lt_of_le (Nat.lt_of_lt_of_le hb hw9.size) hb4'.size)
  have hz16:1≤sz∧sz≤6 := by have := hg.sz; omega
  have hl5:(leadV v).length≤5 := Nat.le_trans (lead_len v) hn5
  have hNN := pow_six hz16.2 hl5
  have hvals := values_any m hg hsz v ov hn5 (have_all ov (by rw [← hvt]; exact hall)) [.int .i64 m.sz,.slice Am m.cs.length cm,.slice Bm m.rs.length dm] [.int .i64 kd,.string nm,.slice A n1 c1,.slice B n2 c2] w4 _ (by rw [← hvt]; exact hold w4 hb4) (hmk w4 hb4) (fun _ h=>h)
  rw [holdsC_snd hc1] at he4 he34
  refine lw_r6z_wp (gg w4 hb4).1 (gg w4 hb4).2 he4 (fun a5 h5=>?_) a4 h4
  refine wp_cond_false ((h5.eval (k := 46) (v := .bool false) (by simp)).trans rfl) ?_
  refine wp_skip ?_
  show Code.wp _ _ _ a5 w4
  refine wp_seq ?_
  refine lw_r8_wp (PX := fun gi W=>W.heap[gi]?=some (.cells ((tab m (leadB v) (leadV v)).map Value.bool).toArray 4 (0,0))∧w4.heap.size≤gi∧Below w4.heap.size w4 W) hm4 ha4 hvals (fun gi a6 w6 h6 hP=>?_) a5 (h5.pick [0,1,2,3])
  obtain ⟨htab,hgi4,hb6'⟩ := hP
  have hb6 := hb4.trans (hb6'.mono hb4.size)
  refine wp_seq ?_
  refine lw_r9_wp (fun a7 h7=>?_) a6 h6
  refine wp_seq ?_
  refine wp_seq ?_
  refine lw_r10_wp (fun a8 h8=>?_) a7 h7
  have hm6 := (hb6'.block _ (lt_heap hm4)).trans hm4
  have he6 := (hb6'.block _ (lt_heap he34)).trans he34
  have hsl6 := hsl.keep (w' := w6) (S' := Lo w6) (fun b hb=>hb6'.block b hb) (fun b hb=>Nat.lt_of_lt_of_le hb hb6'.size)
  have hgil := lt_heap htab
  refine wp_block ?_
  refine wp_loopR (fun g a' w'=>∃(i:Nat) (v':Value),i+g=sz ^ (leadV v).length∧Frm 103 [(2,.pointer (some ⟨w.heap.size,0,none⟩)),(7,q9),(8,.pointer (some ⟨gx,0,none⟩)),(10,(.slice (some ⟨gi,0,none⟩) (sz ^ (leadV v).length) (sz ^ (leadV v).length))),(11,.int .i64 ((leadV v).length:Nat)),(12,v'),(62,.int .i64 (sz ^ (leadV v).length:Nat)),(63,.int .i64 (i:Nat))] a'∧intsRep.Own 39 w6.heap.size w' (fun b=>w6.heap.size≤b∧b<w'.heap.size) v' ((List.range i).filterMap (rowT m (leadB v) (leadV v)))∧Below w6.heap.size w6 w') (sz ^ (leadV v).length) ⟨0,.slice none 0 0,by omega,h8,Rep.Own.nil,Below.refl _ _⟩ ?_
  rintro g a9 w9' ⟨i,v',hig,h9,hown,hb9⟩
  rename World=>W9
  refine wp_seq ?_
  refine lw_r11_wp (fun a10 h10=>?_) a9 h9
  refine wp_seq ?_
  by_cases hi:i<sz ^ (leadV v).length
  case neg =>
    refine wp_cond_false ((h10.eval (k := 64) (v := .bool (decide (i<sz ^ (leadV v).length))) (by simp)).trans (by rw [decide_eq_false hi])) ?_
    refine wp_exit ?_
    repeat refine then_exit ?_
    refine inBlock_exit ?_
    obtain rfl:i=sz ^ (leadV v).length := by omega
    have hs9 := hb9.size
    have he9 := (hb9.block _ (lt_heap he6)).trans he6
    have hb09 := hb6.trans (hb9.mono hb6.size)
    have hsl9 := hsl6.keep (w' := W9) (S' := Lo W9) (fun b hb=>hb9.block b hb) (fun b hb=>Nat.lt_of_lt_of_le hb hs9)
    have hwe := wit_eq (m := m) (by omega) v
    unfold rowsT at hwe
    rw [hsz2] at hwe
    rw [← hwe] at hown
    have hrl := rows_le m (leadB v) (leadV v) (sz ^ (leadV v).length)
    rw [← hwe] at hrl
    have hg9 := eqGrid_self (witF m v []) q9 v' W9 (Lo W9) hsl9 (hown.sl (by unfold maxLen; omega) (fun b hb=>hb.2) (fun b _ hb=>hb)) (fun _ h=>h)
    refine wp_seq ?_
    refine lw_r22_wp (gg W9 hb09).1 (gg W9 hb09).2 he9 hg9 (fun a11 w11 h11 hb11=>?_) a10 (h10.pick [1,2,5])
    refine wp_ret ?_
    exact hret a11 _ h11 (hb09.trans (hb11.mono hb09.size))
  refine wp_cond_true ((h10.eval (k := 64) (v := .bool (decide (i<sz ^ (leadV v).length))) (by simp)).trans (by rw [decide_eq_true hi])) ?_
  refine wp_skip ?_
  show Code.wp _ _ _ a10 W9
  have hb09 := hb6.trans (hb9.mono hb6.size)
  have hs9 := hb9.size
  have htab9 := (hb9.block _ hgil).trans htab
  have hm9 := (hb9.block _ (lt_heap hm6)).trans hm6
  rw [hsz] at hm9
  have hgml := lt_heap hm6
  have hrl := rows_le m (leadB v) (leadV v) i
  have hnx := rows_next m (leadB v) (leadV v) i
  rw [hsz2] at hnx
  refine wp_seq ?_
  refine wp_block ?_
  refine wp_seq ?_
  refine lw_r12_wp (fun a11 h11=>?_) a10 (h10.pick [0,1,2,3,4,5,6,7])
  refine wp_seq ?_
  have htc:((tab m (leadB v) (leadV v)).map Value.bool)[i]?=some (.bool (evalF m (leadB v) ((leadV v).zip (digs sz (leadV v).length i)))) := by
    rw [List.getElem?_map,tab_at m (leadB v) (leadV v) (by rw [hsz2]; exact hi),hsz2]; rfl
  refine lw_r13_wp hi (row_cell htab9 htc) (lt_heap htab9) (fun a12 h12=>?_) a11 h11
  obtain ⟨bb,hbb⟩:∃bb,evalF m (leadB v) ((leadV v).zip (digs sz (leadV v).length i))=bb := ⟨_,rfl⟩
  rw [hbb] at h12 hnx
  cases bb
  · refine wp_cond_false ((h12.eval (k := 69) (v := .bool false) (by simp)).trans rfl) ?_
    refine wp_skip ?_
    show Code.wp _ _ _ a12 W9
    refine lw_r21_wp (by omega) (fun a13 h13=>?_) a12 (h12.pick [0,1,2,3,4,5,6,7])
    refine ⟨sz ^ (leadV v).length - (i+1),by omega,i+1,v',by omega,h13,?_,hb9⟩
    rw [hnx,if_neg (by decide),List.append_nil]
    exact hown
  · refine wp_cond_true ((h12.eval (k := 69) (v := .bool true) (by simp)).trans rfl) ?_
    refine wp_seq ?_
    refine lw_r14_wp (by omega) (fun a13 h13=>?_) a12 (h12.pick [0,1,2,3,4,5,6,7,8])
    obtain ⟨gv,hgv⟩:∃k,W9.heap.size=k := ⟨_,rfl⟩
    refine gen_last (fun wx=>wx.heap[gv]?=some (.cells ((List.replicate (leadV v).length (0:Int)).map (Value.int .i64 ·)).toArray 3 (0,0))∧wx.heap[w.heap.size]?=some (.cells #[.int .i64 (sz:Nat),.slice Am m.cs.length cm,.slice Bm m.rs.length dm] 25 (0,0))∧wx.heap.size=gv+1∧Below gv W9 wx) ⟨?_,heap_old (by omega) hm9,by simp; omega,by rw [← hgv]; go_grown⟩ ?_
    · rw [made_list,List.map_replicate]
      exact heap_at hgv.symm
    rintro WA ⟨hva,hma,hsa,hba⟩
    rw [hgv] at h13
    refine wp_seq ?_
    refine wp_seq ?_
    refine lw_r15_wp (by omega) (fun a14 h14=>?_) a13 h13
    refine wp_block ?_
    refine lw_digs_wp (sz := sz) (i := i) (gv := gv) (mv := (leadV v).length) hz16 hl5 (by omega) (by omega) hma hva (fun a15 WB h15 hvb hkb=>?_) a14 h14
    repeat refine then_exit ?_
    refine inBlock_exit ?_
    show Code.wp _ _ _ a15 WB
    have hkc:Below gv W9 WB := hba.trans (Keeps.below (B := gv) hkb (fun k e=>by have e:k=gv := e; omega) (by omega))
    have hsb := hkb.size
    obtain ⟨A9,c9,rfl⟩ := hown.len
    have hbk := hown.block
    have hownB := hown.grow (w' := WB) (fun b _ hb=>hkc.block b (by omega)) (by omega)
    refine lw_r20_wp (base := w6.heap.size) (rows := (List.range i).filterMap (rowT m (leadB v) (leadV v))) (t := digs sz (leadV v).length i) rfl (by omega) (by omega) hownB ⟨_,_,_,rfl,digs_length _ _ _,by unfold maxLen; omega,fun _=>⟨gv,0,_,rfl,⟨⟨by omega,lt_heap hvb⟩,fun e=>by have := (hbk gv e).2; omega⟩,zAll _,fun j u hj=>by rw [Nat.zero_add]; exact row_cell hvb hj⟩⟩ (fun v9 a16 WC h16 hownC hbC=>?_) a15 (h15.pick [0,1,2,3,4,5,6,7,9])
    show Code.wp _ _ _ a16 WC
    refine lw_r21_wp (by omega) (fun a17 h17=>?_) a16 h16
    refine ⟨sz ^ (leadV v).length - (i+1),by omega,i+1,v9,by omega,h17,?_,hb9.trans ((hkc.mono (by omega)).trans hbC)⟩
    rw [hnx,if_pos rfl]
    exact hownC
theorem witn_door (m:Md) (ms:List Value) (t:Fm) (cs:List Value) (w:World) (S:Nat→Prop) (hm:m.In w S ms) (ht:fmRepC.R w S t cs) (hS:∀b,S b→b<w.heap.size) (g0:w.cell? ⟨0,0,none⟩=some (.int .i64 0)) (g1:w.cell? ⟨0,1,none⟩=some (.int .i64 0)):Calls Tryd.prog 3 #[.agg ms.toArray,.agg cs.toArray] w fun e w'=>e=.returned (.bool true)∧Below w.heap.size w w' := witn_any m t ms cs w S hm (Fm.ofC ht) hS g0 g1
end
noncomputable section
open Go.ChangeShapes Go.WideShapes Go.ChangeAt Go.WideMaps Go.WideElems Go.RowKit
set_option maxRecDepth 100000

theorem truthWitnessesMatchSpec_lifted (os:Os) (started:os.Started) (H:Type) (enc:TypeId × Value→H) :
    ReturnsInHanded {} Tryd.checked os 3 .any
      (fun w args=>(Rows.truthWitnessesMatchSpecSpec.pre enc Tryd.prog Tryd.f3 [] false w args∧laidMetH Tryd.prog laidNone w)∧sizedMet enc Tryd.prog Tryd.f3 (OpenSpec.ofChange Rows.truthWitnessesMatchSpecSpec) false w args)
      (Rows.truthWitnessesMatchSpecSpec.post enc Tryd.prog Tryd.f3 false true false false) := by
  refine returnsInHanded_of_change_and (C := Tryd.checked) (X := fun w _=>laidMetH Tryd.prog laidNone w) (fun _ _ _ hh h=>h.of_heap hh) ownKnobNone started (by kernel_rfl) Tryd.func3
    (ChangeSpec.witness_shaped (enc := enc) (C := Tryd.checked) (os := os) (X := fun w _=>laidMetH Tryd.prog laidNone w) false (World.doorLaid Tryd.prog 400 os) #[.agg #[.int .i64 0,.slice none 0 0,.slice none 0 0],.agg #[.int .i64 0,.string ⟨#[]⟩,.slice none 0 0,.slice none 0 0]] 8 rfl (World.shaped_of_RefB (by kernel_rfl) (by kernel_rfl)) (by kernel_rfl) (by kernel_rfl) (by kernel_rfl) (door_met os _)) ?_
  intro W base args ds gs before hval0 hW _ _ hL _
  have hval:∀(j:Nat) t v,Tryd.f3.params[j]?=some t→args[j]?=some v→Value.okWide Tryd.prog W .any base t v := hval0
  have hW' := hW
  obtain ⟨p,q,hA0,hV,rfl,hfz,hnd⟩ := hW
  have hA:DataW.TrodAll enc Tryd.prog W 0 (fun _=>true) true Tryd.f3.params.toList args.toList ds p := hA0
  rw [Tryd.params3] at hA hval
  obtain ⟨v0,v1,d0,d1,p0,p1,rfl,rfl,rfl,h0,h1⟩ := trodAll_two hA
  obtain ⟨rfl,rfl⟩ := trodVars_none hV
  obtain ⟨c0,rfl,hc0⟩ := okWide_struct Tryd.underlying25 (hval 0 25 v0 rfl rfl)
  have h0k := h0
  obtain ⟨fuel0,hf0⟩ := h0
  obtain ⟨t0,ht00⟩ := md_of_trod fuel0 _ _ hf0
  have ht0:t0.In W (Lo W) c0.toList := by simpa [Value.cells] using ht00
  obtain ⟨c1,rfl,hc1⟩ := okWide_struct Tryd.underlying29 (hval 1 29 v1 rfl rfl)
  have h1k := h1
  obtain ⟨fuel1,hf1⟩ := h1
  obtain ⟨t1,ht10⟩ := fm_of_trod fuel1 _ _ hf1
  have ht1:fmRepC.R W (Lo W) t1 c1.toList := by simpa [Value.cells] using ht10
  obtain ⟨g0,g1⟩ := of_laid hL
  clear hA0 hval0
  simp only [List.append_nil] at hW'
  have hlt:∀x∈p0++p1,x.block<W.heap.size := fun x hx=>by simpa using hW'.lt x (by simpa using hx)
  refine (witn_door t0 c0.toList t1 c1.toList W (Lo W) ht0 ht1 (fun _ h=>h) g0 g1).mono fun e W' ⟨he,hnx⟩=>?_
  subst he
  refine ⟨_,rfl,_,_,_,[],p0++p1,[],hW',trodAll_mk1 (shut_bool Tryd.underlying4 _),?_,rfl,hnx.frame _,fun h=>by cases h⟩
  exact trodAll_mk2 (Below.trod laidOutAll (by kernel_rfl) (of_decide_eq_true (by kernel_rfl)) h0k hnx (fun x hx=>hlt x (by simp [hx]))) (Below.trod laidOutAll (by kernel_rfl) (of_decide_eq_true (by kernel_rfl)) h1k hnx (fun x hx=>hlt x (by simp [hx])))
theorem truthWitnessesMatchSpec_row:Rows.TruthWitnessesMatchSpecSaid :=
  OpenClaim.holds_of_wide 3 Tryd.f3 rfl rfl rfl rfl rfl rfl rfl ⟨rfl,rfl,rfl,rfl,rfl⟩ rfl rfl rfl rfl rfl (by kernel_rfl) Tryd.func3 (by kernel_rfl)
    (of_decide_eq_true (by kernel_rfl)) (by unfold Func.isWrapper; first | (rw [if_pos (by decide +kernel)]; kernel_rfl) | (rw [if_neg (by decide +kernel)]; exact ⟨rfl,rfl⟩))
    (fun os started H enc _=>truthWitnessesMatchSpec_lifted os started H enc)
theorem truthWitnessesMatchSpec_holds:Rows.TruthWitnessesMatchSpecCardSaid :=
  Claim7.holds_tied_plain_at .later [] [.data] true (true, "ee9943ada7a923f91986c1006dd1081775599b3acc1cca8661e4f9a9915fdbdf") false
    truthWitnessesMatchSpec_row (fun _ h=>by cases h) (by kernel_rfl) (fun _ h=>by cases h) truthWitnessesMatchSpec_row_tie rfl ⟨rfl,rfl⟩ (by kernel_rfl) rfl
    (fun f fn hf hfn=>by
      obtain rfl:f=3 := Option.some.inj ((show Tryd.prog.funcNamed "glosswright/glosswrightlaw1.TruthWitnessesMatchSpec" = some 3 by kernel_rfl).symm.trans hf) |>.symm
      obtain rfl:fn=Tryd.f3 := (Option.some.inj (Tryd.func3.symm.trans hfn)).symm
      exact ⟨by kernel_rfl,fun j t ht=>by
        rw [Tryd.params3] at ht
        have hm:t∈[25,29] := by simpa using Array.mem_of_getElem? ht
        have hall:([25,29].all fun u=>!Tryd.prog.wantsStandIn u)=true := by kernel_rfl
        exact (show Tryd.prog.wantsStandIn t=false by simpa using List.all_eq_true.1 hall t hm)⟩)
    (by kernel_rfl)
#print axioms truthWitnessesMatchSpec_holds
end

end Go.Proofs.YthfokmjpbnfihaaDoor
