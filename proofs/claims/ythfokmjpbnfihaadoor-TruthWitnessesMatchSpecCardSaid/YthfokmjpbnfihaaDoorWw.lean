/- Lemmas. -/
import Derived.Test.YthfokmjpbnfihaaDoorWu
namespace Go.Proofs.YthfokmjpbnfihaaDoor
open Go Go.RowKit
set_option linter.unusedSimpArgs false
set_option linter.unusedVariables false
noncomputable section
set_option maxRecDepth 1000000
set_option maxHeartbeats 16000000
variable {K:Act→World→Prop} {PX:Nat→World→Prop} {z kd k0:Int} {k NN mv ev gm gf nm1 cm nm2 dm n1 c1 n2 c2 b o p0 q0 r0 u0 gi go i gx p nr:Nat} {Dv Am Bm A A0 B0 B:Option Addr} {nm s0:ByteArray} {w:World} {s_8 s_2 s_3 s_4 s_30 s_31 s_66 s_32 s_67 s_71 s_25 s_292 s_26 s_293 s_27 s_28:Value} {Q:Exit→Act→World→Prop} {b1 ob b2 b3:Bool}

def c_tb_r8 := sp 99 24495 cF28
theorem tb_r8_wp (hgm:w.heap[gm]?=some (.cells #[.int .i64 z,.slice Am nm1 cm,.slice Bm nm2 dm] 25 (0,0))) (ha:w.heap[gf]?=some (.cells #[.int .i64 kd,.string nm,.slice A n1 c1,.slice (some ⟨b,o,none⟩) n2 c2] 29 (0,0))) (hn2:0<n2) (e0_0:w.cell? ⟨b,o,none⟩=some (.int .i64 k0)) (e0_1:w.cell? ⟨b,o+1,none⟩=some (.string s0)) (e0_2:w.cell? ⟨b,o+2,none⟩=some (.slice A0 p0 q0)) (e0_3:w.cell? ⟨b,o+3,none⟩=some (.slice B0 r0 u0)) (hbl:b<w.heap.size) (hc:∀W:World,(∀k,k<w.heap.size→W.heap[k]?=w.heap[k]?)→w.heap.size≤W.heap.size→Below w.heap.size w W→Calls Tryd.prog 28 #[.agg #[.int .i64 z,.slice Am nm1 cm,.slice Bm nm2 dm],.agg #[.int .i64 k0,.string s0,.slice A0 p0 q0,.slice B0 r0 u0],.slice Dv mv ev] W fun e w'=>∃gi,e=.returned (.slice (some ⟨gi,0,none⟩) NN NN)∧PX gi w')(hN:∀gi a' w',Frm 345 [(2,.slice Dv mv ev),(3,.pointer (some ⟨gm,0,none⟩)),(4,.pointer (some ⟨gf,0,none⟩)),(8,s_8),(30,.slice (some ⟨gi,0,none⟩) NN NN)] a'→PX gi w'→K a' w'):∀ac,Frm 345 [(2,.slice Dv mv ev),(3,.pointer (some ⟨gm,0,none⟩)),(4,.pointer (some ⟨gf,0,none⟩)),(8,s_8)] ac→Code.wp Tryd.prog c_tb_r8 (Exit.then K (fun _ _ _=>False)) ac w := by
  refine fO (frame_tb ?_)
  intros
  rename_i hq
  iterate 4 (obtain ⟨e,hq⟩ := hq; obtain rfl := sI e; clear e)
  clear hq
  conv=>arg 2; whnf
  have m0 := cellv hgm 0 rfl
  have m1 := cellv hgm 1 rfl
  have m2 := cellv hgm 2 rfl
  have ml := lt_heap hgm
  clear hgm
  have a0 := cellv ha 0 rfl
  have a1 := cellv ha 1 rfl
  have a2 := cellv ha 2 rfl
  have a3 := cellv ha 3 rfl
  have al := lt_heap ha
  clear ha
  have HC := Lib.hid hc
  have HN := Lib.hid hN
  clear hc hN
  go_region_law (first
    | (refine step_call (by rfl) 28 _ ?hargs (HC.out _ ?hk ?hs ?hb) ?_; (case hargs=>(go_simp; done)); (case hk=>(intro k hk; first | rfl | exact heap_drew rfl)); (case hs=>first | exact Nat.le_refl _ | (simp; done)); (case hb=>first | exact Below.refl _ _ | exact (Below.refl _ _).drew); rintro e w4 ⟨gi,rfl,hp⟩; refine ⟨_,rfl,?_⟩; have HP := Lib.hid hp; clear hp))
  all_goals go_wp2_with fail
  all_goals exact HN.out _ _ _ (by exact fR rfl rfl rfl) HP.out
def c_tb_r9 := sp 99 49071 cF28
theorem tb_r9_wp  (hN:∀a',Frm 345 [(2,s_2),(3,s_3),(4,s_4),(8,s_8),(30,.slice (some ⟨gi,0,none⟩) NN NN),(31,.slice (some ⟨gi,0,none⟩) NN NN)] a'→Q .normal a' w):∀ac,Frm 345 [(2,s_2),(3,s_3),(4,s_4),(8,s_8),(30,.slice (some ⟨gi,0,none⟩) NN NN)] ac→Code.wp Tryd.prog c_tb_r9 Q ac w := by
  refine fO (frame_tb ?_)
  intros
  rename_i hq
  iterate 5 (obtain ⟨e,hq⟩ := hq; obtain rfl := sI e; clear e)
  clear hq
  conv=>arg 2; whnf
  replace hN := Lib.hid hN
  go_wp2_with fail
  exact hN.out _ (by exact fR rfl rfl rfl)
def c_tb_r10 := sp 99 163759 cF28
theorem tb_r10_wp (ha:w.heap[gf]?=some (.cells #[.int .i64 kd,.string nm,.slice A n1 c1,.slice B n2 c2] 29 (0,0))) (hN:∀a',Frm 345 [(2,s_2),(3,s_3),(4,.pointer (some ⟨gf,0,none⟩)),(8,s_8),(30,s_30),(31,s_31),(57,.bool (decide (n2=2)))] a'→Q .normal a' w):∀ac,Frm 345 [(2,s_2),(3,s_3),(4,.pointer (some ⟨gf,0,none⟩)),(8,s_8),(30,s_30),(31,s_31)] ac→Code.wp Tryd.prog c_tb_r10 Q ac w := by
  refine fO (frame_tb ?_)
  intros
  rename_i hq
  iterate 6 (obtain ⟨e,hq⟩ := hq; obtain rfl := sI e; clear e)
  clear hq
  conv=>arg 2; whnf
  have a0 := cellv ha 0 rfl
  have a1 := cellv ha 1 rfl
  have a2 := cellv ha 2 rfl
  have a3 := cellv ha 3 rfl
  have al := lt_heap ha
  clear ha
  by_cases h:n2=2
  · have t1:((n2:Int) == 2)=true := by first | exact decide_eq_true (by omega) | exact beq_iff_eq.2 (by omega) | exact bne_iff_ne.2 (by omega)
    have t2:(decide (n2=2))=true := decide_eq_true h
    rw [t2] at hN
    clear h
    replace hN := Lib.hid hN
    go_wp2_with fail
    exact hN.out _ (by exact fR rfl rfl rfl)
  · have t1:((n2:Int) == 2)=false := by first | exact decide_eq_false (by omega) | exact beq_eq_false_iff_ne.2 (by omega) | exact bne_eq_false_iff_eq.2 (by omega)
    have t2:(decide (n2=2))=false := decide_eq_false h
    rw [t2] at hN
    clear h
    replace hN := Lib.hid hN
    go_wp2_with fail
    exact hN.out _ (by exact fR rfl rfl rfl)
def c_tb_r11 := sp 99 360367 cF28
theorem tb_r11_wp (hgm:w.heap[gm]?=some (.cells #[.int .i64 z,.slice Am nm1 cm,.slice Bm nm2 dm] 25 (0,0))) (ha:w.heap[gf]?=some (.cells #[.int .i64 kd,.string nm,.slice A n1 c1,.slice (some ⟨b,o,none⟩) 2 c2] 29 (0,0))) (e0_0:w.cell? ⟨b,o+4,none⟩=some (.int .i64 k0)) (e0_1:w.cell? ⟨b,o+5,none⟩=some (.string s0)) (e0_2:w.cell? ⟨b,o+6,none⟩=some (.slice A0 p0 q0)) (e0_3:w.cell? ⟨b,o+7,none⟩=some (.slice B0 r0 u0)) (hbl:b<w.heap.size) (hc:∀W:World,(∀k,k<w.heap.size→W.heap[k]?=w.heap[k]?)→w.heap.size≤W.heap.size→Below w.heap.size w W→Calls Tryd.prog 28 #[.agg #[.int .i64 z,.slice Am nm1 cm,.slice Bm nm2 dm],.agg #[.int .i64 k0,.string s0,.slice A0 p0 q0,.slice B0 r0 u0],.slice Dv mv ev] W fun e w'=>∃gi,e=.returned (.slice (some ⟨gi,0,none⟩) NN NN)∧PX gi w')(hN:∀gi a' w',Frm 345 [(2,.slice Dv mv ev),(3,.pointer (some ⟨gm,0,none⟩)),(4,.pointer (some ⟨gf,0,none⟩)),(8,s_8),(30,s_30),(31,.slice (some ⟨gi,0,none⟩) NN NN)] a'→PX gi w'→K a' w'):∀ac,Frm 345 [(2,.slice Dv mv ev),(3,.pointer (some ⟨gm,0,none⟩)),(4,.pointer (some ⟨gf,0,none⟩)),(8,s_8),(30,s_30)] ac→Code.wp Tryd.prog c_tb_r11 (Exit.then K (fun _ _ _=>False)) ac w := by
  refine fO (frame_tb ?_)
  intros
  rename_i hq
  iterate 5 (obtain ⟨e,hq⟩ := hq; obtain rfl := sI e; clear e)
  clear hq
  conv=>arg 2; whnf
  have m0 := cellv hgm 0 rfl
  have m1 := cellv hgm 1 rfl
  have m2 := cellv hgm 2 rfl
  have ml := lt_heap hgm
  clear hgm
  have a0 := cellv ha 0 rfl
  have a1 := cellv ha 1 rfl
  have a2 := cellv ha 2 rfl
  have a3 := cellv ha 3 rfl
  have al := lt_heap ha
  clear ha
  have HC := Lib.hid hc
  have HN := Lib.hid hN
  clear hc hN
  go_region_law (first
    | (refine step_call (by rfl) 28 _ ?hargs (HC.out _ ?hk ?hs ?hb) ?_; (case hargs=>(go_simp; done)); (case hk=>(intro k hk; first | rfl | exact heap_drew rfl)); (case hs=>first | exact Nat.le_refl _ | (simp; done)); (case hb=>first | exact Below.refl _ _ | exact (Below.refl _ _).drew); rintro e w4 ⟨gi,rfl,hp⟩; refine ⟨_,rfl,?_⟩; have HP := Lib.hid hp; clear hp))
  all_goals go_wp2_with fail
  all_goals exact HN.out _ _ _ (by exact fR rfl rfl rfl) HP.out
def c_tb_r12 := sp 99 196527 cF28
theorem tb_r12_wp  (hN:∀a',Frm 345 [(2,s_2),(3,s_3),(4,s_4),(8,.slice (some ⟨go,0,none⟩) NN NN),(30,s_30),(31,s_31),(66,.int .i64 (NN:Nat)),(67,.int .i64 (0:Nat))] a'→Q .normal a' w):∀ac,Frm 345 [(2,s_2),(3,s_3),(4,s_4),(8,.slice (some ⟨go,0,none⟩) NN NN),(30,s_30),(31,s_31)] ac→Code.wp Tryd.prog c_tb_r12 Q ac w := by
  refine fO (frame_tb ?_)
  intros
  rename_i hq
  iterate 6 (obtain ⟨e,hq⟩ := hq; obtain rfl := sI e; clear e)
  clear hq
  conv=>arg 2; whnf
  replace hN := Lib.hid hN
  go_wp2_with fail
  exact hN.out _ (by exact fR rfl rfl rfl)
def c_tb_r13 := sp 99 1179567 cF28
theorem tb_r13_wp (hN:∀a',Frm 345 [(2,s_2),(3,s_3),(4,s_4),(8,s_8),(30,s_30),(31,s_31),(66,.int .i64 (NN:Nat)),(67,.int .i64 (i:Nat)),(68,.bool (decide (i<NN)))] a'→Q .normal a' w):∀ac,Frm 345 [(2,s_2),(3,s_3),(4,s_4),(8,s_8),(30,s_30),(31,s_31),(66,.int .i64 (NN:Nat)),(67,.int .i64 (i:Nat))] ac→Code.wp Tryd.prog c_tb_r13 Q ac w := by
  refine fO (frame_tb ?_)
  intros
  rename_i hq
  iterate 8 (obtain ⟨e,hq⟩ := hq; obtain rfl := sI e; clear e)
  clear hq
  conv=>arg 2; whnf
  by_cases h:i<NN
  · have t1:decide ((i:Int)<(NN:Int))=true := by first | exact decide_eq_true (by omega) | exact beq_iff_eq.2 (by omega) | exact bne_iff_ne.2 (by omega)
    have t2:(decide (i<NN))=true := decide_eq_true h
    rw [t2] at hN
    clear h
    replace hN := Lib.hid hN
    go_wp2_with fail
    exact hN.out _ (by exact fR rfl rfl rfl)
  · have t1:decide ((i:Int)<(NN:Int))=false := by first | exact decide_eq_false (by omega) | exact beq_eq_false_iff_ne.2 (by omega) | exact bne_eq_false_iff_eq.2 (by omega)
    have t2:(decide (i<NN))=false := decide_eq_false h
    rw [t2] at hN
    clear h
    replace hN := Lib.hid hN
    go_wp2_with fail
    exact hN.out _ (by exact fR rfl rfl rfl)
def c_tb_r14 := sp 99 18481071 cF28
theorem tb_r14_wp  (hN:∀a',Frm 345 [(2,s_2),(3,s_3),(4,s_4),(8,s_8),(30,s_30),(31,s_31),(66,s_66),(67,.int .i64 (i:Nat)),(32,.int .i64 (i:Nat))] a'→Q .normal a' w):∀ac,Frm 345 [(2,s_2),(3,s_3),(4,s_4),(8,s_8),(30,s_30),(31,s_31),(66,s_66),(67,.int .i64 (i:Nat))] ac→Code.wp Tryd.prog c_tb_r14 Q ac w := by
  refine fO (frame_tb ?_)
  intros
  rename_i hq
  iterate 8 (obtain ⟨e,hq⟩ := hq; obtain rfl := sI e; clear e)
  clear hq
  conv=>arg 2; whnf
  replace hN := Lib.hid hN
  go_wp2_with fail
  exact hN.out _ (by exact fR rfl rfl rfl)
def c_tb_r15 := sp 99 43646895 cF28
theorem tb_r15_wp (ha:w.heap[gf]?=some (.cells #[.int .i64 kd,.string nm,.slice A n1 c1,.slice B n2 c2] 29 (0,0)))  (hN:∀a',Frm 345 [(2,s_2),(3,s_3),(4,.pointer (some ⟨gf,0,none⟩)),(8,s_8),(30,s_30),(31,s_31),(66,s_66),(67,s_67),(32,s_32),(71,.int .i64 kd)] a'→Q .normal a' w):∀ac,Frm 345 [(2,s_2),(3,s_3),(4,.pointer (some ⟨gf,0,none⟩)),(8,s_8),(30,s_30),(31,s_31),(66,s_66),(67,s_67),(32,s_32)] ac→Code.wp Tryd.prog c_tb_r15 Q ac w := by
  refine fO (frame_tb ?_)
  intros
  rename_i hq
  iterate 9 (obtain ⟨e,hq⟩ := hq; obtain rfl := sI e; clear e)
  clear hq
  conv=>arg 2; whnf
  have a0 := cellv ha 0 rfl
  have a1 := cellv ha 1 rfl
  have a2 := cellv ha 2 rfl
  have a3 := cellv ha 3 rfl
  have al := lt_heap ha
  clear ha
  replace hN := Lib.hid hN
  go_wp2_with fail
  exact hN.out _ (by exact fR rfl rfl rfl)
def c_tb_r16 := sp 99 161087407 cF28
theorem tb_r16_wp (hN:∀a',Frm 345 [(2,s_2),(3,s_3),(4,s_4),(8,s_8),(30,s_30),(31,s_31),(66,s_66),(67,s_67),(32,s_32),(71,.int .i64 kd),(72,.bool (decide (kd=4)))] a'→Q .normal a' w):∀ac,Frm 345 [(2,s_2),(3,s_3),(4,s_4),(8,s_8),(30,s_30),(31,s_31),(66,s_66),(67,s_67),(32,s_32),(71,.int .i64 kd)] ac→Code.wp Tryd.prog c_tb_r16 Q ac w := by
  refine fO (frame_tb ?_)
  intros
  rename_i hq
  iterate 10 (obtain ⟨e,hq⟩ := hq; obtain rfl := sI e; clear e)
  clear hq
  conv=>arg 2; whnf
  by_cases h:kd=4
  · have t1:(kd == 4)=true := by first | exact decide_eq_true (by omega) | exact beq_iff_eq.2 (by omega) | exact bne_iff_ne.2 (by omega)
    have t2:(decide (kd=4))=true := decide_eq_true h
    rw [t2] at hN
    clear h
    replace hN := Lib.hid hN
    go_wp2_with fail
    exact hN.out _ (by exact fR rfl rfl rfl)
  · have t1:(kd == 4)=false := by first | exact decide_eq_false (by omega) | exact beq_eq_false_iff_ne.2 (by omega) | exact bne_eq_false_iff_eq.2 (by omega)
    have t2:(decide (kd=4))=false := decide_eq_false h
    rw [t2] at hN
    clear h
    replace hN := Lib.hid hN
    go_wp2_with fail
    exact hN.out _ (by exact fR rfl rfl rfl)
def c_tb_r18 := sp 99 765067183 cF28
theorem tb_r18_wp (hN:∀a',Frm 345 [(2,s_2),(3,s_3),(4,s_4),(8,s_8),(30,s_30),(31,s_31),(66,s_66),(67,s_67),(32,s_32),(71,.int .i64 kd),(82,.bool (decide (kd=5)))] a'→Q .normal a' w):∀ac,Frm 345 [(2,s_2),(3,s_3),(4,s_4),(8,s_8),(30,s_30),(31,s_31),(66,s_66),(67,s_67),(32,s_32),(71,.int .i64 kd)] ac→Code.wp Tryd.prog c_tb_r18 Q ac w := by
  refine fO (frame_tb ?_)
  intros
  rename_i hq
  iterate 10 (obtain ⟨e,hq⟩ := hq; obtain rfl := sI e; clear e)
  clear hq
  conv=>arg 2; whnf
  by_cases h:kd=5
  · have t1:(kd == 5)=true := by first | exact decide_eq_true (by omega) | exact beq_iff_eq.2 (by omega) | exact bne_iff_ne.2 (by omega)
    have t2:(decide (kd=5))=true := decide_eq_true h
    rw [t2] at hN
    clear h
    replace hN := Lib.hid hN
    go_wp2_with fail
    exact hN.out _ (by exact fR rfl rfl rfl)
  · have t1:(kd == 5)=false := by first | exact decide_eq_false (by omega) | exact beq_eq_false_iff_ne.2 (by omega) | exact bne_eq_false_iff_eq.2 (by omega)
    have t2:(decide (kd=5))=false := decide_eq_false h
    rw [t2] at hN
    clear h
    replace hN := Lib.hid hN
    go_wp2_with fail
    exact hN.out _ (by exact fR rfl rfl rfl)
def c_tb_r20 := sp 99 3180986287 cF28
theorem tb_r20_wp (hN:∀a',Frm 345 [(2,s_2),(3,s_3),(4,s_4),(8,s_8),(30,s_30),(31,s_31),(66,s_66),(67,s_67),(32,s_32),(71,.int .i64 kd),(97,.bool (decide (kd=6)))] a'→Q .normal a' w):∀ac,Frm 345 [(2,s_2),(3,s_3),(4,s_4),(8,s_8),(30,s_30),(31,s_31),(66,s_66),(67,s_67),(32,s_32),(71,.int .i64 kd)] ac→Code.wp Tryd.prog c_tb_r20 Q ac w := by
  refine fO (frame_tb ?_)
  intros
  rename_i hq
  iterate 10 (obtain ⟨e,hq⟩ := hq; obtain rfl := sI e; clear e)
  clear hq
  conv=>arg 2; whnf
  by_cases h:kd=6
  · have t1:(kd == 6)=true := by first | exact decide_eq_true (by omega) | exact beq_iff_eq.2 (by omega) | exact bne_iff_ne.2 (by omega)
    have t2:(decide (kd=6))=true := decide_eq_true h
    rw [t2] at hN
    clear h
    replace hN := Lib.hid hN
    go_wp2_with fail
    exact hN.out _ (by exact fR rfl rfl rfl)
  · have t1:(kd == 6)=false := by first | exact decide_eq_false (by omega) | exact beq_eq_false_iff_ne.2 (by omega) | exact bne_eq_false_iff_eq.2 (by omega)
    have t2:(decide (kd=6))=false := decide_eq_false h
    rw [t2] at hN
    clear h
    replace hN := Lib.hid hN
    go_wp2_with fail
    exact hN.out _ (by exact fR rfl rfl rfl)
def c_tb_r22 := sp 99 12844662703 cF28
theorem tb_r22_wp (hN:∀a',Frm 345 [(2,s_2),(3,s_3),(4,s_4),(8,s_8),(30,s_30),(31,s_31),(66,s_66),(67,s_67),(32,s_32),(71,.int .i64 kd),(112,.bool (decide (kd=7)))] a'→Q .normal a' w):∀ac,Frm 345 [(2,s_2),(3,s_3),(4,s_4),(8,s_8),(30,s_30),(31,s_31),(66,s_66),(67,s_67),(32,s_32),(71,.int .i64 kd)] ac→Code.wp Tryd.prog c_tb_r22 Q ac w := by
  refine fO (frame_tb ?_)
  intros
  rename_i hq
  iterate 10 (obtain ⟨e,hq⟩ := hq; obtain rfl := sI e; clear e)
  clear hq
  conv=>arg 2; whnf
  by_cases h:kd=7
  · have t1:(kd == 7)=true := by first | exact decide_eq_true (by omega) | exact beq_iff_eq.2 (by omega) | exact bne_iff_ne.2 (by omega)
    have t2:(decide (kd=7))=true := decide_eq_true h
    rw [t2] at hN
    clear h
    replace hN := Lib.hid hN
    go_wp2_with fail
    exact hN.out _ (by exact fR rfl rfl rfl)
  · have t1:(kd == 7)=false := by first | exact decide_eq_false (by omega) | exact beq_eq_false_iff_ne.2 (by omega) | exact bne_eq_false_iff_eq.2 (by omega)
    have t2:(decide (kd=7))=false := decide_eq_false h
    rw [t2] at hN
    clear h
    replace hN := Lib.hid hN
    go_wp2_with fail
    exact hN.out _ (by exact fR rfl rfl rfl)
def c_tb_r17 := sp 99 362413999 cF28
theorem tb_r17_wp (hi:i<NN) (ho:w.cell? ⟨go,i,none⟩=some (.bool ob)) (hf:w.frozen? ⟨go,i,none⟩=false) (hgl:go<w.heap.size) (ha1:w.cell? ⟨gi,i,none⟩=some (.bool b1)) (hg1:gi<w.heap.size) (hN:∀a' w',Frm 345 [(2,s_2),(3,s_3),(4,s_4),(8,.slice (some ⟨go,0,none⟩) NN NN),(30,.slice (some ⟨gi,0,none⟩) NN NN),(31,s_31),(66,s_66),(67,s_67)] a'→w'=w.setCell ⟨go,i,none⟩ (.bool (!b1))→Q .normal a' w'):∀ac,Frm 345 [(2,s_2),(3,s_3),(4,s_4),(8,.slice (some ⟨go,0,none⟩) NN NN),(30,.slice (some ⟨gi,0,none⟩) NN NN),(31,s_31),(66,s_66),(67,s_67),(32,.int .i64 (i:Nat)),(71,s_71)] ac→Code.wp Tryd.prog c_tb_r17 Q ac w := by
  refine fO (frame_tb ?_)
  intros
  rename_i hq
  iterate 10 (obtain ⟨e,hq⟩ := hq; obtain rfl := sI e; clear e)
  clear hq
  conv=>arg 2; whnf
  have q0:(0:Int)≤(i:Int) := by omega
  have q1:(i:Int)<(NN:Int) := by omega
  cases b1
  all_goals
    replace hN := Lib.hid hN
    go_wp2_with fail
    exact hN.out _ _ (by exact fR rfl rfl rfl) rfl
def c_tb_r19 := sp 99 1570373551 cF28
theorem tb_r19_wp (hi:i<NN) (ho:w.cell? ⟨go,i,none⟩=some (.bool ob)) (hf:w.frozen? ⟨go,i,none⟩=false) (hgl:go<w.heap.size) (ha1:w.cell? ⟨gi,i,none⟩=some (.bool b1)) (hg1:gi<w.heap.size) (ha2:w.cell? ⟨gx,i,none⟩=some (.bool b2)) (hg2:gx<w.heap.size) (hN:∀a' w',Frm 345 [(2,s_2),(3,s_3),(4,s_4),(8,.slice (some ⟨go,0,none⟩) NN NN),(30,.slice (some ⟨gi,0,none⟩) NN NN),(31,.slice (some ⟨gx,0,none⟩) NN NN),(66,s_66),(67,s_67)] a'→w'=w.setCell ⟨go,i,none⟩ (.bool (b1 && b2))→Q .normal a' w'):∀ac,Frm 345 [(2,s_2),(3,s_3),(4,s_4),(8,.slice (some ⟨go,0,none⟩) NN NN),(30,.slice (some ⟨gi,0,none⟩) NN NN),(31,.slice (some ⟨gx,0,none⟩) NN NN),(66,s_66),(67,s_67),(32,.int .i64 (i:Nat)),(71,s_71)] ac→Code.wp Tryd.prog c_tb_r19 Q ac w := by
  refine fO (frame_tb ?_)
  intros
  rename_i hq
  iterate 10 (obtain ⟨e,hq⟩ := hq; obtain rfl := sI e; clear e)
  clear hq
  conv=>arg 2; whnf
  have q0:(0:Int)≤(i:Int) := by omega
  have q1:(i:Int)<(NN:Int) := by omega
  cases b1 <;> cases b2
  all_goals
    replace hN := Lib.hid hN
    go_wp2_with fail
    exact hN.out _ _ (by exact fR rfl rfl rfl) rfl
def c_tb_r21 := sp 99 6402211759 cF28
theorem tb_r21_wp (hi:i<NN) (ho:w.cell? ⟨go,i,none⟩=some (.bool ob)) (hf:w.frozen? ⟨go,i,none⟩=false) (hgl:go<w.heap.size) (ha1:w.cell? ⟨gi,i,none⟩=some (.bool b1)) (hg1:gi<w.heap.size) (ha2:w.cell? ⟨gx,i,none⟩=some (.bool b2)) (hg2:gx<w.heap.size) (hN:∀a' w',Frm 345 [(2,s_2),(3,s_3),(4,s_4),(8,.slice (some ⟨go,0,none⟩) NN NN),(30,.slice (some ⟨gi,0,none⟩) NN NN),(31,.slice (some ⟨gx,0,none⟩) NN NN),(66,s_66),(67,s_67)] a'→w'=w.setCell ⟨go,i,none⟩ (.bool (b1 || b2))→Q .normal a' w'):∀ac,Frm 345 [(2,s_2),(3,s_3),(4,s_4),(8,.slice (some ⟨go,0,none⟩) NN NN),(30,.slice (some ⟨gi,0,none⟩) NN NN),(31,.slice (some ⟨gx,0,none⟩) NN NN),(66,s_66),(67,s_67),(32,.int .i64 (i:Nat)),(71,s_71)] ac→Code.wp Tryd.prog c_tb_r21 Q ac w := by
  refine fO (frame_tb ?_)
  intros
  rename_i hq
  iterate 10 (obtain ⟨e,hq⟩ := hq; obtain rfl := sI e; clear e)
  clear hq
  conv=>arg 2; whnf
  have q0:(0:Int)≤(i:Int) := by omega
  have q1:(i:Int)<(NN:Int) := by omega
  cases b1 <;> cases b2
  all_goals
    replace hN := Lib.hid hN
    go_wp2_with fail
    exact hN.out _ _ (by exact fR rfl rfl rfl) rfl
def c_tb_r23 := sp 99 25729564591 cF28
theorem tb_r23_wp (hi:i<NN) (ho:w.cell? ⟨go,i,none⟩=some (.bool ob)) (hf:w.frozen? ⟨go,i,none⟩=false) (hgl:go<w.heap.size) (ha1:w.cell? ⟨gi,i,none⟩=some (.bool b1)) (hg1:gi<w.heap.size) (ha2:w.cell? ⟨gx,i,none⟩=some (.bool b2)) (hg2:gx<w.heap.size) (hN:∀a' w',Frm 345 [(2,s_2),(3,s_3),(4,s_4),(8,.slice (some ⟨go,0,none⟩) NN NN),(30,.slice (some ⟨gi,0,none⟩) NN NN),(31,.slice (some ⟨gx,0,none⟩) NN NN),(66,s_66),(67,s_67)] a'→w'=w.setCell ⟨go,i,none⟩ (.bool (!b1 || b2))→Q .normal a' w'):∀ac,Frm 345 [(2,s_2),(3,s_3),(4,s_4),(8,.slice (some ⟨go,0,none⟩) NN NN),(30,.slice (some ⟨gi,0,none⟩) NN NN),(31,.slice (some ⟨gx,0,none⟩) NN NN),(66,s_66),(67,s_67),(32,.int .i64 (i:Nat)),(71,s_71)] ac→Code.wp Tryd.prog c_tb_r23 Q ac w := by
  refine fO (frame_tb ?_)
  intros
  rename_i hq
  iterate 10 (obtain ⟨e,hq⟩ := hq; obtain rfl := sI e; clear e)
  clear hq
  conv=>arg 2; whnf
  have q0:(0:Int)≤(i:Int) := by omega
  have q1:(i:Int)<(NN:Int) := by omega
  cases b1 <;> cases b2
  all_goals
    replace hN := Lib.hid hN
    go_wp2_with fail
    exact hN.out _ _ (by exact fR rfl rfl rfl) rfl
def c_tb_r24 := sp 99 7995311 cF28
theorem tb_r24_wp (hi:i≤100000)  (hN:∀a',Frm 345 [(2,s_2),(3,s_3),(4,s_4),(8,s_8),(30,s_30),(31,s_31),(66,s_66),(67,.int .i64 (i+1:Nat))] a'→Q .normal a' w):∀ac,Frm 345 [(2,s_2),(3,s_3),(4,s_4),(8,s_8),(30,s_30),(31,s_31),(66,s_66),(67,.int .i64 (i:Nat))] ac→Code.wp Tryd.prog c_tb_r24 Q ac w := by
  refine fO (frame_tb ?_)
  intros
  rename_i hq
  iterate 8 (obtain ⟨e,hq⟩ := hq; obtain rfl := sI e; clear e)
  clear hq
  conv=>arg 2; whnf
  have h9:(i:Int)≤100000 := by omega
  replace hN := Lib.hid hN
  go_wp2_with fail
  exact hN.out _ (by exact fR rfl rfl rfl)
def c_tb_r77 := sp 99 44975 cF28
theorem tb_r77_wp  (hN:∀a',Frm 345 [(2,s_2),(3,s_3),(4,s_4),(8,.slice (some ⟨go,0,none⟩) NN NN),(25,s_25),(292,.int .i64 (NN:Nat)),(293,.int .i64 (0:Nat))] a'→Q .normal a' w):∀ac,Frm 345 [(2,s_2),(3,s_3),(4,s_4),(8,.slice (some ⟨go,0,none⟩) NN NN),(25,s_25)] ac→Code.wp Tryd.prog c_tb_r77 Q ac w := by
  refine fO (frame_tb ?_)
  intros
  rename_i hq
  iterate 5 (obtain ⟨e,hq⟩ := hq; obtain rfl := sI e; clear e)
  clear hq
  conv=>arg 2; whnf
  replace hN := Lib.hid hN
  go_wp2_with fail
  exact hN.out _ (by exact fR rfl rfl rfl)
def c_tb_r78 := sp 99 290735 cF28
theorem tb_r78_wp (hN:∀a',Frm 345 [(2,s_2),(3,s_3),(4,s_4),(8,s_8),(25,s_25),(292,.int .i64 (NN:Nat)),(293,.int .i64 (i:Nat)),(294,.bool (decide (i<NN)))] a'→Q .normal a' w):∀ac,Frm 345 [(2,s_2),(3,s_3),(4,s_4),(8,s_8),(25,s_25),(292,.int .i64 (NN:Nat)),(293,.int .i64 (i:Nat))] ac→Code.wp Tryd.prog c_tb_r78 Q ac w := by
  refine fO (frame_tb ?_)
  intros
  rename_i hq
  iterate 7 (obtain ⟨e,hq⟩ := hq; obtain rfl := sI e; clear e)
  clear hq
  conv=>arg 2; whnf
  by_cases h:i<NN
  · have t1:decide ((i:Int)<(NN:Int))=true := by first | exact decide_eq_true (by omega) | exact beq_iff_eq.2 (by omega) | exact bne_iff_ne.2 (by omega)
    have t2:(decide (i<NN))=true := decide_eq_true h
    rw [t2] at hN
    clear h
    replace hN := Lib.hid hN
    go_wp2_with fail
    exact hN.out _ (by exact fR rfl rfl rfl)
  · have t1:decide ((i:Int)<(NN:Int))=false := by first | exact decide_eq_false (by omega) | exact beq_eq_false_iff_ne.2 (by omega) | exact bne_eq_false_iff_eq.2 (by omega)
    have t2:(decide (i<NN))=false := decide_eq_false h
    rw [t2] at hN
    clear h
    replace hN := Lib.hid hN
    go_wp2_with fail
    exact hN.out _ (by exact fR rfl rfl rfl)
def c_tb_r79 := sp 99 4616111 cF28
theorem tb_r79_wp  (hN:∀a',Frm 345 [(2,s_2),(3,s_3),(4,s_4),(8,s_8),(25,s_25),(292,s_292),(293,.int .i64 (i:Nat)),(26,.int .i64 (i:Nat))] a'→Q .normal a' w):∀ac,Frm 345 [(2,s_2),(3,s_3),(4,s_4),(8,s_8),(25,s_25),(292,s_292),(293,.int .i64 (i:Nat))] ac→Code.wp Tryd.prog c_tb_r79 Q ac w := by
  refine fO (frame_tb ?_)
  intros
  rename_i hq
  iterate 7 (obtain ⟨e,hq⟩ := hq; obtain rfl := sI e; clear e)
  clear hq
  conv=>arg 2; whnf
  replace hN := Lib.hid hN
  go_wp2_with fail
  exact hN.out _ (by exact fR rfl rfl rfl)
def c_tb_r80 := sp 99 10907567 cF28
theorem tb_r80_wp  (hN:∀a',Frm 345 [(2,s_2),(3,s_3),(4,s_4),(8,s_8),(25,s_25),(292,s_292),(293,s_293),(26,s_26),(27,.bool true),(28,.bool false)] a'→Q .normal a' w):∀ac,Frm 345 [(2,s_2),(3,s_3),(4,s_4),(8,s_8),(25,s_25),(292,s_292),(293,s_293),(26,s_26)] ac→Code.wp Tryd.prog c_tb_r80 Q ac w := by
  refine fO (frame_tb ?_)
  intros
  rename_i hq
  iterate 8 (obtain ⟨e,hq⟩ := hq; obtain rfl := sI e; clear e)
  clear hq
  conv=>arg 2; whnf
  replace hN := Lib.hid hN
  go_wp2_with fail
  exact hN.out _ (by exact fR rfl rfl rfl)
def c_tb_r81 := sp 99 40267695 cF28
theorem tb_r81_wp  (hN:∀a',Frm 345 [(2,s_2),(3,s_3),(4,s_4),(8,s_8),(25,s_25),(292,s_292),(293,s_293),(26,s_26),(27,s_27),(28,s_28),(29,.int .i64 (0:Nat))] a'→Q .normal a' w):∀ac,Frm 345 [(2,s_2),(3,s_3),(4,s_4),(8,s_8),(25,s_25),(292,s_292),(293,s_293),(26,s_26),(27,s_27),(28,s_28)] ac→Code.wp Tryd.prog c_tb_r81 Q ac w := by
  refine fO (frame_tb ?_)
  intros
  rename_i hq
  iterate 10 (obtain ⟨e,hq⟩ := hq; obtain rfl := sI e; clear e)
  clear hq
  conv=>arg 2; whnf
  replace hN := Lib.hid hN
  go_wp2_with fail
  exact hN.out _ (by exact fR rfl rfl rfl)
def c_tb_r82 := sp 99 560361391 cF28
theorem tb_r82_wp (hgm:w.heap[gm]?=some (.cells #[.int .i64 z,.slice Am nm1 cm,.slice Bm nm2 dm] 25 (0,0))) (hN:∀a',Frm 345 [(2,s_2),(3,.pointer (some ⟨gm,0,none⟩)),(4,s_4),(8,s_8),(25,s_25),(292,s_292),(293,s_293),(26,s_26),(27,s_27),(28,s_28),(29,.int .i64 (k:Nat)),(299,.bool (decide ((k:Int)<z)))] a'→Q .normal a' w):∀ac,Frm 345 [(2,s_2),(3,.pointer (some ⟨gm,0,none⟩)),(4,s_4),(8,s_8),(25,s_25),(292,s_292),(293,s_293),(26,s_26),(27,s_27),(28,s_28),(29,.int .i64 (k:Nat))] ac→Code.wp Tryd.prog c_tb_r82 Q ac w := by
  refine fO (frame_tb ?_)
  intros
  rename_i hq
  iterate 11 (obtain ⟨e,hq⟩ := hq; obtain rfl := sI e; clear e)
  clear hq
  conv=>arg 2; whnf
  have m0 := cellv hgm 0 rfl
  have m1 := cellv hgm 1 rfl
  have m2 := cellv hgm 2 rfl
  have ml := lt_heap hgm
  clear hgm
  by_cases h:(k:Int)<z
  · have t1:decide ((k:Int)<z)=true := by first | exact decide_eq_true (by omega) | exact beq_iff_eq.2 (by omega) | exact bne_iff_ne.2 (by omega)
    have t2:(decide ((k:Int)<z))=true := decide_eq_true h
    rw [t2] at hN
    clear h
    replace hN := Lib.hid hN
    go_wp2_with fail
    exact hN.out _ (by exact fR rfl rfl rfl)
  · have t1:decide ((k:Int)<z)=false := by first | exact decide_eq_false (by omega) | exact beq_eq_false_iff_ne.2 (by omega) | exact bne_eq_false_iff_eq.2 (by omega)
    have t2:(decide ((k:Int)<z))=false := decide_eq_false h
    rw [t2] at hN
    clear h
    replace hN := Lib.hid hN
    go_wp2_with fail
    exact hN.out _ (by exact fR rfl rfl rfl)
def c_tb_r84 := sp 99 2305191855 cF28
theorem tb_r84_wp (hgm:w.heap[gm]?=some (.cells #[.int .i64 z,.slice Am nm1 cm,.slice Bm nm2 dm] 25 (0,0))) (hq:((i:Int) * z)=(p:Nat)) (hp:p≤1000000) (hk:k≤100) (hr:p+k<nr) (ha1:w.cell? ⟨gi,p+k,none⟩=some (.bool b3)) (hg1:gi<w.heap.size) (hN:∀a',Frm 345 [(2,s_2),(3,.pointer (some ⟨gm,0,none⟩)),(4,s_4),(8,s_8),(25,.slice (some ⟨gi,0,none⟩) nr nr),(292,s_292),(293,s_293),(26,.int .i64 (i:Nat)),(27,.bool (b1 && b3)),(28,s_28),(29,.int .i64 (k:Nat))] a'→Q .normal a' w):∀ac,Frm 345 [(2,s_2),(3,.pointer (some ⟨gm,0,none⟩)),(4,s_4),(8,s_8),(25,.slice (some ⟨gi,0,none⟩) nr nr),(292,s_292),(293,s_293),(26,.int .i64 (i:Nat)),(27,.bool b1),(28,s_28),(29,.int .i64 (k:Nat))] ac→Code.wp Tryd.prog c_tb_r84 Q ac w := by
  refine fO (frame_tb ?_)
  intros
  rename_i hq
  iterate 11 (obtain ⟨e,hq⟩ := hq; obtain rfl := sI e; clear e)
  clear hq
  conv=>arg 2; whnf
  have m0 := cellv hgm 0 rfl
  have m1 := cellv hgm 1 rfl
  have m2 := cellv hgm 2 rfl
  have ml := lt_heap hgm
  clear hgm
  have w1:RowKit.wrap64 ((i:Int) * z)=(p:Nat) := by rw [hq]; unfold RowKit.wrap64; omega
  have w2:IntKind.i64.wrap ((i:Int) * z)=(p:Nat) := by rw [hq]; exact wrap_ok ((p:Nat):Int) (by omega) (by omega)
  have q0:(0:Int)≤(p:Int)+(k:Int) := by omega
  have q1:(p:Int)+(k:Int)<(nr:Int) := by omega
  have q2:((p:Int)+(k:Int)).toNat=p+k := by omega
  clear hq
  cases b1 <;> cases b3
  all_goals
    replace hN := Lib.hid hN
    go_wp2_with fail
    exact hN.out _ (by exact fR rfl rfl rfl)
def c_tb_r85 := sp 99 3378933679 cF28
theorem tb_r85_wp (hgm:w.heap[gm]?=some (.cells #[.int .i64 z,.slice Am nm1 cm,.slice Bm nm2 dm] 25 (0,0))) (hq:((i:Int) * z)=(p:Nat)) (hp:p≤1000000) (hk:k≤100) (hr:p+k<nr) (ha1:w.cell? ⟨gi,p+k,none⟩=some (.bool b3)) (hg1:gi<w.heap.size) (hN:∀a',Frm 345 [(2,s_2),(3,.pointer (some ⟨gm,0,none⟩)),(4,s_4),(8,s_8),(25,.slice (some ⟨gi,0,none⟩) nr nr),(292,s_292),(293,s_293),(26,.int .i64 (i:Nat)),(27,s_27),(28,.bool (b2 || b3)),(29,.int .i64 (k:Nat))] a'→Q .normal a' w):∀ac,Frm 345 [(2,s_2),(3,.pointer (some ⟨gm,0,none⟩)),(4,s_4),(8,s_8),(25,.slice (some ⟨gi,0,none⟩) nr nr),(292,s_292),(293,s_293),(26,.int .i64 (i:Nat)),(27,s_27),(28,.bool b2),(29,.int .i64 (k:Nat))] ac→Code.wp Tryd.prog c_tb_r85 Q ac w := by
  refine fO (frame_tb ?_)
  intros
  rename_i hq
  iterate 11 (obtain ⟨e,hq⟩ := hq; obtain rfl := sI e; clear e)
  clear hq
  conv=>arg 2; whnf
  have m0 := cellv hgm 0 rfl
  have m1 := cellv hgm 1 rfl
  have m2 := cellv hgm 2 rfl
  have ml := lt_heap hgm
  clear hgm
  have w1:RowKit.wrap64 ((i:Int) * z)=(p:Nat) := by rw [hq]; unfold RowKit.wrap64; omega
  have w2:IntKind.i64.wrap ((i:Int) * z)=(p:Nat) := by rw [hq]; exact wrap_ok ((p:Nat):Int) (by omega) (by omega)
  have q0:(0:Int)≤(p:Int)+(k:Int) := by omega
  have q1:(p:Int)+(k:Int)<(nr:Int) := by omega
  have q2:((p:Int)+(k:Int)).toNat=p+k := by omega
  clear hq
  cases b2 <;> cases b3
  all_goals
    replace hN := Lib.hid hN
    go_wp2_with fail
    exact hN.out _ (by exact fR rfl rfl rfl)
def c_tb_r83 := sp 99 963014575 cF28
theorem tb_r83_wp (hk:k≤1000)  (hN:∀a',Frm 345 [(2,s_2),(3,s_3),(4,s_4),(8,s_8),(25,s_25),(292,s_292),(293,s_293),(26,s_26),(27,s_27),(28,s_28),(29,.int .i64 (k+1:Nat))] a'→Q .normal a' w):∀ac,Frm 345 [(2,s_2),(3,s_3),(4,s_4),(8,s_8),(25,s_25),(292,s_292),(293,s_293),(26,s_26),(27,s_27),(28,s_28),(29,.int .i64 (k:Nat))] ac→Code.wp Tryd.prog c_tb_r83 Q ac w := by
  refine fO (frame_tb ?_)
  intros
  rename_i hq
  iterate 11 (obtain ⟨e,hq⟩ := hq; obtain rfl := sI e; clear e)
  clear hq
  conv=>arg 2; whnf
  have h9:(k:Int)≤1000 := by omega
  replace hN := Lib.hid hN
  go_wp2_with fail
  exact hN.out _ (by exact fR rfl rfl rfl)
def c_tb_r86 := sp 99 31879087 cF28
theorem tb_r86_wp (hi:i<NN) (ho:w.cell? ⟨go,i,none⟩=some (.bool ob)) (hf:w.frozen? ⟨go,i,none⟩=false) (hgl:go<w.heap.size) (ha:w.heap[gf]?=some (.cells #[.int .i64 kd,.string nm,.slice A n1 c1,.slice B n2 c2] 29 (0,0))) (h89:kd=8∨kd=9) (hN:∀a' w',Frm 345 [(2,s_2),(3,s_3),(4,.pointer (some ⟨gf,0,none⟩)),(8,.slice (some ⟨go,0,none⟩) NN NN),(25,s_25),(292,s_292),(293,s_293)] a'→w'=w.setCell ⟨go,i,none⟩ (.bool (if kd=8 then b1 else b2))→Q .normal a' w'):∀ac,Frm 345 [(2,s_2),(3,s_3),(4,.pointer (some ⟨gf,0,none⟩)),(8,.slice (some ⟨go,0,none⟩) NN NN),(25,s_25),(292,s_292),(293,s_293),(26,.int .i64 (i:Nat)),(27,.bool b1),(28,.bool b2)] ac→Code.wp Tryd.prog c_tb_r86 Q ac w := by
  refine fO (frame_tb ?_)
  intros
  rename_i hq
  iterate 10 (obtain ⟨e,hq⟩ := hq; obtain rfl := sI e; clear e)
  clear hq
  conv=>arg 2; whnf
  have q0:(0:Int)≤(i:Int) := by omega
  have q1:(i:Int)<(NN:Int) := by omega
  have a0 := cellv ha 0 rfl
  have a1 := cellv ha 1 rfl
  have a2 := cellv ha 2 rfl
  have a3 := cellv ha 3 rfl
  have al := lt_heap ha
  clear ha
  rcases h89 with h | h
  · have t1:(kd == 8)=true := beq_iff_eq.2 h
    have t2:(kd == 9)=false := beq_eq_false_iff_ne.2 (by omega)
    rw [if_pos h] at hN
    clear h
    cases b1
    all_goals
      replace hN := Lib.hid hN
      go_wp2_with fail
      exact hN.out _ _ (by exact fR rfl rfl rfl) rfl
  · have t1:(kd == 8)=false := beq_eq_false_iff_ne.2 (by omega)
    have t2:(kd == 9)=true := beq_iff_eq.2 h
    rw [if_neg (by omega)] at hN
    clear h
    cases b2
    all_goals
      replace hN := Lib.hid hN
      go_wp2_with fail
      exact hN.out _ _ (by exact fR rfl rfl rfl) rfl
def c_tb_r87 := sp 99 1994671 cF28
theorem tb_r87_wp (hi:i≤100000)  (hN:∀a',Frm 345 [(2,s_2),(3,s_3),(4,s_4),(8,s_8),(25,s_25),(292,s_292),(293,.int .i64 (i+1:Nat))] a'→Q .normal a' w):∀ac,Frm 345 [(2,s_2),(3,s_3),(4,s_4),(8,s_8),(25,s_25),(292,s_292),(293,.int .i64 (i:Nat))] ac→Code.wp Tryd.prog c_tb_r87 Q ac w := by
  refine fO (frame_tb ?_)
  intros
  rename_i hq
  iterate 7 (obtain ⟨e,hq⟩ := hq; obtain rfl := sI e; clear e)
  clear hq
  conv=>arg 2; whnf
  have h9:(i:Int)≤100000 := by omega
  replace hN := Lib.hid hN
  go_wp2_with fail
  exact hN.out _ (by exact fR rfl rfl rfl)
def c_tb_r88 := sp 99 95 cF28
theorem tb_r88_wp  (hN:∀a',Frm 345 [(6,.slice (some ⟨go,0,none⟩) NN NN)] a'→Q .normal a' w):∀ac,Frm 345 [(8,.slice (some ⟨go,0,none⟩) NN NN)] ac→Code.wp Tryd.prog c_tb_r88 Q ac w := by
  refine fO (frame_tb ?_)
  intros
  rename_i hq
  iterate 1 (obtain ⟨e,hq⟩ := hq; obtain rfl := sI e; clear e)
  clear hq
  conv=>arg 2; whnf
  replace hN := Lib.hid hN
  go_wp2_with fail
  exact hN.out _ (id ⟨rfl,rfl,rfl,trivial⟩)
theorem tb_ret_wp {R:Ending→World→Prop} {w':World} (hR:R (.returned (.slice (some ⟨go,0,none⟩) NN NN)) w'):∀ac,Frm 345 [(6,.slice (some ⟨go,0,none⟩) NN NN)] ac→bodyPost Tryd.prog Tryd.f28 R .ret ac w' := by
  refine fO (frame_tb ?_)
  intros
  rename_i hq
  iterate 1 (obtain ⟨e,hq⟩ := hq; obtain rfl := sI e; clear e)
  clear hq
  refine bodyPost_ret (v := .slice (some ⟨go,0,none⟩) NN NN) (by simp [results,Tryd.results28,go_sem]) rfl ?_
  exact hR
end
noncomputable section
set_option maxRecDepth 100000
set_option maxHeartbeats 4000000
variable {sz nm1 cm nm2 dm gm gf go NN mv ev i gv n1 c1 j:Nat} {Q:Exit→Act→World→Prop} {Am Bm Dv A:Option Addr} {w wy:World} {s:ByteArray} {v14:Value} {S:Nat→Prop}

theorem pow_small (h:1≤sz∧sz≤6) {k:Nat} (hk:k≤5):sz ^ k≤7776 := by
  have h1:sz ^ k≤6 ^ k := Nat.pow_le_pow_left h.2 k
  have h2:6 ^ k≤6 ^ 5 := Nat.pow_le_pow_right (by omega) hk
  have h3:6 ^ 5=7776 := by decide
  omega
def c_tb_pow := sp 99 43 cF28
theorem tb_pow_wp (hs:1≤sz∧sz≤6) (hm:mv≤5) (hgm:w.heap[gm]?=some (.cells #[.int .i64 (sz:Nat),.slice Am nm1 cm,.slice Bm nm2 dm] 25 (0,0))) (hX:∀a',Frm 345 [(2,.slice Dv mv ev),(3,.pointer (some ⟨gm,0,none⟩)),(4,.pointer (some ⟨gf,0,none⟩)),(7,.int .i64 ((sz ^ mv):Nat))] a'→Q (.exit 0) a' w):∀ac,Frm 345 [(2,.slice Dv mv ev),(3,.pointer (some ⟨gm,0,none⟩)),(4,.pointer (some ⟨gf,0,none⟩)),(7,.int .i64 (1:Nat)),(34,.int .i64 (mv:Nat)),(35,.int .i64 (0:Nat))] ac→Code.wp Tryd.prog c_tb_pow Q ac w := by
  intro a0 hf0
  conv=>arg 2; whnf
  refine wp_loopR (fun g a' w'=>∃j:Nat,j+g=mv∧w'=w∧Frm 345 [(2,.slice Dv mv ev),(3,.pointer (some ⟨gm,0,none⟩)),(4,.pointer (some ⟨gf,0,none⟩)),(7,.int .i64 ((sz ^ j):Nat)),(34,.int .i64 (mv:Nat)),(35,.int .i64 (j:Nat))] a') mv ⟨0,by omega,rfl,hf0⟩ ?_
  rintro g a1 w1 ⟨j,hjg,rfl,h1⟩
  refine wp_seq ?_
  refine tb_r3_wp (fun a2 h2=>?_) a1 h1
  refine wp_seq ?_
  by_cases hj:j<mv
  case neg =>
    refine wp_cond_false ((h2.eval (k := 36) (v := .bool (decide (j<mv))) (by simp)).trans (by rw [decide_eq_false hj])) ?_
    refine wp_exit ?_
    repeat refine then_exit ?_
    obtain rfl:j=mv := by omega
    exact hX a2 (h2.pick [0,1,2,3])
  refine wp_cond_true ((h2.eval (k := 36) (v := .bool (decide (j<mv))) (by simp)).trans (by rw [decide_eq_true hj])) ?_
  refine wp_skip ?_
  show Code.wp _ _ _ a2 w1
  have hp := pow_small hs (k := j+1) (by omega)
  have hmul:RowKit.wrap64 (((sz ^ j:Nat):Int) * ((sz:Nat):Int))=((sz ^ (j+1):Nat):Int) := by
    have e:(((sz ^ j:Nat):Int) * ((sz:Nat):Int))=((sz ^ (j+1):Nat):Int) := by rw [Nat.pow_succ,Int.natCast_mul]
    rw [e]; exact wrap64_ok (by omega) (by omega)
  refine wp_seq ?_
  refine wp_block ?_
  refine tb_r4_wp hgm (fun a3 h3=>?_) a2 (h2.pick [0,1,2,3,4,5])
  rw [hmul] at h3
  show Code.wp _ _ _ a3 w1
  refine tb_r5_wp (by omega) (fun a4 h4=>?_) a3 h3
  exact ⟨g - 1,by omega,j+1,by omega,rfl,h4⟩
def c_tb_vals := sp 99 11324335 cF28
theorem tb_vals_wp (hs:1≤sz∧sz≤6) (hm:mv≤5) (hi:i≤100000) (hne:gv≠gm) (hgm:w.heap[gm]?=some (.cells #[.int .i64 (sz:Nat),.slice Am nm1 cm,.slice Bm nm2 dm] 25 (0,0))) (hgv:w.heap[gv]?=some (.cells ((List.replicate mv 0).map (Value.int .i64 ·)).toArray 3 (0,0))) (hX:∀a' w',Frm 345 [(2,.slice Dv mv ev),(3,.pointer (some ⟨gm,0,none⟩)),(4,.pointer (some ⟨gf,0,none⟩)),(8,.slice (some ⟨go,0,none⟩) NN NN),(144,.int .i64 (NN:Nat)),(145,.int .i64 (i:Nat)),(10,.int .i64 (i:Nat)),(11,.slice (some ⟨gv,0,none⟩) mv mv)] a'→w'.heap[gv]?=some (.cells ((digs sz mv i).map (Value.int .i64 ·)).toArray 3 (0,0))→Keeps (fun k=>k=gv) w w'→Q (.exit 10) a' w'):∀ac,Frm 345 [(2,.slice Dv mv ev),(3,.pointer (some ⟨gm,0,none⟩)),(4,.pointer (some ⟨gf,0,none⟩)),(8,.slice (some ⟨go,0,none⟩) NN NN),(144,.int .i64 (NN:Nat)),(145,.int .i64 (i:Nat)),(10,.int .i64 (i:Nat)),(11,.slice (some ⟨gv,0,none⟩) mv mv),(12,.int .i64 ((mv:Int) - 1)),(13,.int .i64 (i:Nat))] ac→Code.wp Tryd.prog c_tb_vals Q ac w := by
  intro a0 hf0
  conv=>arg 2; whnf
  refine wp_loopR (fun g a' w'=>∃(x:Nat) (r:List Int),g≤mv∧x≤100000∧digs sz mv i=digs sz g x++r∧w'.heap[gv]?=some (.cells ((List.replicate g 0++r).map (Value.int .i64 ·)).toArray 3 (0,0))∧Keeps (fun k=>k=gv) w w'∧Frm 345 [(2,.slice Dv mv ev),(3,.pointer (some ⟨gm,0,none⟩)),(4,.pointer (some ⟨gf,0,none⟩)),(8,.slice (some ⟨go,0,none⟩) NN NN),(144,.int .i64 (NN:Nat)),(145,.int .i64 (i:Nat)),(10,.int .i64 (i:Nat)),(11,.slice (some ⟨gv,0,none⟩) mv mv),(12,.int .i64 ((g:Int) - 1)),(13,.int .i64 (x:Nat))] a') mv ⟨i,[],Nat.le_refl _,hi,by simp,by simpa using hgv,Keeps.refl _ _,hf0⟩ ?_
  rintro g a1 w1 ⟨x,r,hg,hx,hd,hr,hk,h1⟩
  refine wp_seq ?_
  refine wp_seq ?_
  refine tb_r38_wp (fun a2 h2=>?_) a1 h1
  by_cases hc:(0:Int)≤(g:Int) - 1
  case neg =>
    refine wp_cond_false ((h2.eval (k := 156) (v := .bool (decide ((0:Int)≤(g:Int) - 1))) (by simp)).trans (by rw [decide_eq_false hc])) ?_
    refine wp_exit ?_
    repeat refine then_exit ?_
    obtain rfl:g=0 := by omega
    refine hX a2 w1 (h2.pick [0,1,2,3,4,5,6,7]) ?_ hk
    rw [hd]
    simpa [digs] using hr
  refine wp_cond_true ((h2.eval (k := 156) (v := .bool (decide ((0:Int)≤(g:Int) - 1))) (by simp)).trans (by rw [decide_eq_true hc])) ?_
  refine wp_skip ?_
  show Code.wp _ _ _ a2 w1
  obtain ⟨k,rfl⟩:∃k,g=k+1 := ⟨g - 1,by omega⟩
  have hz1:((k+1:Nat):Int) - 1=(k:Nat) := by omega
  rw [hz1] at h2
  have hgm1 := (hk.block gm (lt_heap hgm) (fun e=>hne e.symm)).trans hgm
  have hrl:((List.replicate (k+1) (0:Int)++r).map (Value.int .i64 ·))[k]?=some (.int .i64 0) := by
    rw [List.getElem?_map,List.getElem?_append_left (by simp),List.getElem?_replicate,if_pos (by omega)]; rfl
  refine wp_seq ?_
  refine wp_block ?_
  refine wp_seq ?_
  refine tb_r40_wp hgm1 (by omega) (by omega) (row_cell hr hrl) (row_free hr) (lt_heap hr) (fun a3 h3=>?_) a2 (h2.pick [0,1,2,3,4,5,6,7,8,9])
  have hr2 := set_at (i := k) (v := .int .i64 ((x:Int) % ((sz:Nat):Int))) hr
  have hgm2:(w1.setCell ⟨gv,k,none⟩ (.int .i64 ((x:Int) % ((sz:Nat):Int)))).heap[gm]?=_ := heap_far _ (fun e=>hne e.symm) hgm1
  have hk2:Keeps (fun k=>k=gv) w (w1.setCell ⟨gv,k,none⟩ (.int .i64 ((x:Int) % ((sz:Nat):Int)))) := hk.set (Or.inl rfl) k _
  refine gen_last (fun wx=>wx.heap[gv]?=some (.cells (((List.replicate (k+1) (0:Int)++r).map (Value.int .i64 ·)).set k (.int .i64 ((x:Int) % ((sz:Nat):Int)))).toArray 3 (0,0))∧wx.heap[gm]?=some (.cells #[.int .i64 (sz:Nat),.slice Am nm1 cm,.slice Bm nm2 dm] 25 (0,0))∧Keeps (fun k=>k=gv) w wx) ⟨hr2,hgm2,hk2⟩ ?_
  rintro w2 ⟨hr3,hgm3,hk3⟩
  have hdiv:RowKit.wrap64 ((x:Int) / ((sz:Nat):Int))=((x / sz:Nat):Int) := by
    have hle:x / sz≤x := Nat.div_le_self _ _
    rw [← Int.natCast_ediv]
    generalize x / sz=d at hle ⊢
    exact wrap64_ok (by omega) (by omega)
  refine tb_r41_wp hgm3 (by omega) (fun a4 h4=>?_) a3 h3
  rw [hdiv] at h4
  show Code.wp _ _ _ a4 w2
  refine tb_r39_wp (by omega) (fun a5 h5=>?_) a4 h4
  refine ⟨k,by omega,x / sz,((x % sz:Nat):Int) :: r,by omega,by have := Nat.div_le_self x sz; omega,?_,?_,hk3,h5⟩
  · rw [hd]
    simp [digs]
  · rw [hr3]
    congr 2
    rw [← Int.natCast_emod,List.map_append,List.map_append,List.set_append_left _ _ (by simp),List.map_replicate,List.replicate_succ',List.set_append_right _ _ (by simp)]
    simp
def c_tb_env := sp 99 46384597935 cF28
theorem tb_env_wp {vars:List ByteArray} {vals:List Int} (hm:mv≤5) (hvs:strRep.Sl wy S (.slice Dv mv ev) vars) (hS:∀b,S b→b<wy.heap.size) (hb:Below wy.heap.size wy w) (hvl:vals.length=mv) (hvv:∀v∈vals,(0:Int)≤v) (hgv:w.heap[gv]?=some (.cells ((vals).map (Value.int .i64 ·)).toArray 3 (0,0))) (hX:∀a',Frm 345 [(2,.slice Dv mv ev),(3,.pointer (some ⟨gm,0,none⟩)),(4,.pointer (some ⟨gf,0,none⟩)),(8,.slice (some ⟨go,0,none⟩) NN NN),(144,.int .i64 (NN:Nat)),(145,.int .i64 (i:Nat)),(10,.int .i64 (i:Nat)),(11,.slice (some ⟨gv,0,none⟩) mv mv),(14,v14),(171,.slice A n1 c1),(172,.int .i64 (n1:Nat)),(173,.int .i64 (j:Nat)),(16,.string s),(17,.int .i64 ((envV (vars.zip vals) s).getD (-1)))] a'→Q (.exit 14) a' w):∀ac,Frm 345 [(2,.slice Dv mv ev),(3,.pointer (some ⟨gm,0,none⟩)),(4,.pointer (some ⟨gf,0,none⟩)),(8,.slice (some ⟨go,0,none⟩) NN NN),(144,.int .i64 (NN:Nat)),(145,.int .i64 (i:Nat)),(10,.int .i64 (i:Nat)),(11,.slice (some ⟨gv,0,none⟩) mv mv),(14,v14),(171,.slice A n1 c1),(172,.int .i64 (n1:Nat)),(173,.int .i64 (j:Nat)),(16,.string s),(17,.int .i64 (-1)),(18,.int .i64 ((mv:Int) - 1))] ac→Code.wp Tryd.prog c_tb_env Q ac w := by
  intro a0 hf0
  conv=>arg 2; whnf
  obtain ⟨_,_,_,eqv,hvn,_,_⟩ := id hvs
  injection eqv with e1 e2 e3
  subst e1 e2 e3
  have hEl:((vars.zip vals)).length=mv := by rw [List.length_zip]; omega
  refine wp_loopR (fun g a' w'=>g≤mv∧w'=w∧Frm 345 [(2,.slice Dv mv ev),(3,.pointer (some ⟨gm,0,none⟩)),(4,.pointer (some ⟨gf,0,none⟩)),(8,.slice (some ⟨go,0,none⟩) NN NN),(144,.int .i64 (NN:Nat)),(145,.int .i64 (i:Nat)),(10,.int .i64 (i:Nat)),(11,.slice (some ⟨gv,0,none⟩) mv mv),(14,v14),(171,.slice A n1 c1),(172,.int .i64 (n1:Nat)),(173,.int .i64 (j:Nat)),(16,.string s),(17,.int .i64 ((envV ((vars.zip vals).drop g) s).getD (-1))),(18,.int .i64 ((g:Int) - 1))] a') mv ⟨Nat.le_refl _,rfl,by rw [List.drop_eq_nil_of_le (by omega)]; exact hf0⟩ ?_
  rintro g a1 w1 ⟨hg,rfl,h1⟩
  refine wp_seq ?_
  refine wp_seq ?_
  refine tb_r48_wp (fun a2 h2=>?_) a1 h1
  have hpos:∀v,envV ((vars.zip vals).drop g) s=some v→0≤v := fun v hv=>by
    have h9 := List.mem_of_mem_drop (envV_mem hv)
    exact hvv v (List.of_mem_zip h9).2
  by_cases hc:(0:Int)≤(g:Int) - 1∧(envV ((vars.zip vals).drop g) s).getD (-1)<0
  case neg =>
    refine wp_cond_false ((h2.eval (k := 185) (v := .bool (decide ((0:Int)≤(g:Int) - 1∧(envV ((vars.zip vals).drop g) s).getD (-1)<0))) (by simp)).trans (by rw [decide_eq_false hc])) ?_
    refine wp_exit ?_
    repeat refine then_exit ?_
    have he:(envV ((vars.zip vals).drop g) s).getD (-1)=(envV (vars.zip vals) s).getD (-1) := by
      by_cases hg0:g=0
      · subst hg0; rfl
      · cases hv:envV ((vars.zip vals).drop g) s with
        | none=>exfalso; apply hc; rw [hv]; simp; omega
        | some v=>rw [envV_some _ _ _ _ hv]
    rw [he] at h2
    exact hX a2 (h2.pick [0,1,2,3,4,5,6,7,8,9,10,11,12,13])
  refine wp_cond_true ((h2.eval (k := 185) (v := .bool (decide ((0:Int)≤(g:Int) - 1∧(envV ((vars.zip vals).drop g) s).getD (-1)<0))) (by simp)).trans (by rw [decide_eq_true hc])) ?_
  refine wp_skip ?_
  show Code.wp _ _ _ a2 w1
  obtain ⟨k,rfl⟩:∃k,g=k+1 := ⟨g - 1,by omega⟩
  have hz1:((k+1:Nat):Int) - 1=(k:Nat) := by omega
  rw [hz1] at h2
  have hnone:envV ((vars.zip vals).drop (k+1)) s=none := by
    cases hv:envV ((vars.zip vals).drop (k+1)) s with
    | none=>rfl
    | some v=>have := hpos v hv; rw [hv] at hc; simp at hc; omega
  have hst := envV_step (vars.zip vals) s k (by omega)
  rw [hnone,Option.none_or,List.getElem_zip] at hst
  rw [hnone] at h2
  obtain ⟨b,o,cs,rfl,hSb,⟨rfl,_⟩,hcc⟩ := Rep.Sl.at_ hvs (List.getElem?_eq_getElem (show k<vars.length by omega))
  have hc0:w1.cell? ⟨b,o+k,none⟩=some (.string (vars[k]'(by omega))) := (cell_keep (hb.block b (hS b hSb)) _).trans (by simpa [strRep] using hcc 0 _ rfl)
  have hcv:w1.cell? ⟨gv,k,none⟩=some (.int .i64 (vals[k]'(by omega))) := row_cell hgv (by rw [List.getElem?_map,List.getElem?_eq_getElem (by omega)]; rfl)
  refine wp_seq ?_
  refine wp_block ?_
  refine wp_seq ?_
  refine tb_r50_wp (by omega) hc0 (by have := hS b hSb; have := hb.size; omega) (fun a3 h3=>?_) a2 (h2.pick [0,1,2,3,4,5,6,7,8,9,10,11,12,13,14])
  by_cases hy:vars[k]'(by omega)=s
  · rw [if_pos hy] at hst
    refine wp_cond_true ((h3.eval (k := 193) (v := .bool (decide (vars[k]'(by omega)=s))) (by simp)).trans (by rw [decide_eq_true hy])) ?_
    refine tb_r51_wp (by omega) hcv (lt_heap hgv) (fun a4 h4=>?_) a3 (h3.pick [0,1,2,3,4,5,6,7,8,9,10,11,12,13,14])
    show Code.wp _ _ _ a4 w1
    refine tb_r49_wp (by omega) (fun a5 h5=>?_) a4 h4
    exact ⟨k,by omega,by omega,rfl,by rw [hst]; exact h5⟩
  · rw [if_neg hy] at hst
    refine wp_cond_false ((h3.eval (k := 193) (v := .bool (decide (vars[k]'(by omega)=s))) (by simp)).trans (by rw [decide_eq_false hy])) ?_
    refine wp_skip ?_
    show Code.wp _ _ _ a3 w1
    refine tb_r49_wp (by omega) (fun a5 h5=>?_) a3 (h3.pick [0,1,2,3,4,5,6,7,8,9,10,11,12,13,14])
    exact ⟨k,by omega,by omega,rfl,by rw [hst]; exact h5⟩
def c_tb_con := sp 99 93629238191 cF28
theorem tb_con_wp {m:Md} {x0:Int} (hneg:¬ 0≤x0→x0 = -1) (hg:m.good) (hcs:conRep.Sl wy S (.slice Am m.cs.length cm) m.cs) (hS:∀b,S b→b<wy.heap.size) (hb:Below wy.heap.size wy w) (hX:∀a' w',Frm 345 [(2,.slice Dv mv ev),(3,.pointer (some ⟨gm,0,none⟩)),(4,.pointer (some ⟨gf,0,none⟩)),(8,.slice (some ⟨go,0,none⟩) NN NN),(144,.int .i64 (NN:Nat)),(145,.int .i64 (i:Nat)),(10,.int .i64 (i:Nat)),(11,.slice (some ⟨gv,0,none⟩) mv mv),(14,v14),(171,.slice A n1 c1),(172,.int .i64 (n1:Nat)),(173,.int .i64 (j:Nat)),(16,.string s),(17,.int .i64 (if 0≤x0 then x0 else (conV m s).getD (-1)))] a'→Keeps (fun _=>False) w w'→Q (.exit 16) a' w'):∀ac,Frm 345 [(2,.slice Dv mv ev),(3,.pointer (some ⟨gm,0,none⟩)),(4,.pointer (some ⟨gf,0,none⟩)),(8,.slice (some ⟨go,0,none⟩) NN NN),(144,.int .i64 (NN:Nat)),(145,.int .i64 (i:Nat)),(10,.int .i64 (i:Nat)),(11,.slice (some ⟨gv,0,none⟩) mv mv),(14,v14),(171,.slice A n1 c1),(172,.int .i64 (n1:Nat)),(173,.int .i64 (j:Nat)),(16,.string s),(17,.int .i64 x0),(199,.slice Am m.cs.length cm),(200,.int .i64 (m.cs.length:Nat)),(201,.int .i64 (0:Nat))] ac→Code.wp Tryd.prog c_tb_con Q ac w := by
  intro a0 hf0
  conv=>arg 2; whnf
  have hnc := hg.nc
  refine wp_loopR (fun g a' w'=>∃p:Nat,p+g=m.cs.length∧Keeps (fun _=>False) w w'∧Frm 345 [(2,.slice Dv mv ev),(3,.pointer (some ⟨gm,0,none⟩)),(4,.pointer (some ⟨gf,0,none⟩)),(8,.slice (some ⟨go,0,none⟩) NN NN),(144,.int .i64 (NN:Nat)),(145,.int .i64 (i:Nat)),(10,.int .i64 (i:Nat)),(11,.slice (some ⟨gv,0,none⟩) mv mv),(14,v14),(171,.slice A n1 c1),(172,.int .i64 (n1:Nat)),(173,.int .i64 (j:Nat)),(16,.string s),(17,.int .i64 (if 0≤x0 then x0 else (conL (m.cs.take p) s).getD (-1))),(199,.slice Am m.cs.length cm),(200,.int .i64 (m.cs.length:Nat)),(201,.int .i64 (p:Nat))] a') m.cs.length ⟨0,by omega,Keeps.refl _ _,by
    have e:(if 0≤x0 then x0 else (conL (m.cs.take 0) s).getD (-1))=if 0≤x0 then x0 else -1 := rfl
    by_cases h0:0≤x0
    · rw [e,if_pos h0]; exact hf0
    · rw [e,if_neg h0]
      have := hneg h0; rw [this] at hf0; exact hf0⟩ ?_
  rintro g a1 w1 ⟨p,hpg,hk,h1⟩
  refine wp_seq ?_
  refine tb_r53_wp (fun a2 h2=>?_) a1 h1
  refine wp_seq ?_
  by_cases hp:p<m.cs.length
  case neg =>
    refine wp_cond_false ((h2.eval (k := 202) (v := .bool (decide (p<m.cs.length))) (by simp)).trans (by rw [decide_eq_false hp])) ?_
    refine wp_exit ?_
    repeat refine then_exit ?_
    rw [List.take_of_length_le (by omega),show conL m.cs s=conV m s from rfl] at h2
    exact hX a2 w1 (h2.pick [0,1,2,3,4,5,6,7,8,9,10,11,12,13]) hk
  refine wp_cond_true ((h2.eval (k := 202) (v := .bool (decide (p<m.cs.length))) (by simp)).trans (by rw [decide_eq_true hp])) ?_
  refine wp_skip ?_
  show Code.wp _ _ _ a2 w1
  obtain ⟨b,o,rfl,hSb,e0,e1,_⟩ := con_at hcs hp
  have hbk:w1.heap[b]?=wy.heap[b]? := (hk.block b (by have := hS b hSb; have := hb.size; omega) (fun h=>h)).trans (hb.block b (hS b hSb))
  have hks := hk.size
  refine wp_seq ?_
  refine wp_block ?_
  refine wp_seq ?_
  refine tb_r54_wp hp ((cell_keep hbk _).trans e0) ((cell_keep hbk _).trans e1) (by have := hS b hSb; have := hb.size; omega) (fun a3 h3=>?_) a2 (h2.pick [0,1,2,3,4,5,6,7,8,9,10,11,12,13,14,15,16])
  refine gen_last (fun wx=>wx.heap[w1.heap.size]?=some (.cells #[.string m.cs[p].nm,.int .i64 m.cs[p].v] 49 (0,0))∧Keeps (fun _=>False) w wx) ⟨heap_alloc_new _ _,hk.alloc _⟩ ?_
  rintro w2 ⟨hbx,hk2⟩
  have htk := conL_take m.cs s p hp
  have hv0:0≤m.cs[p].v := by
    have := (hg.ck m.cs[p] (List.getElem_mem hp)).2
    simp only [badV,decide_eq_false_iff_not] at this
    omega
  have hpos:∀v,conL (m.cs.take p) s=some v→0≤v := fun v hv=>by
    obtain ⟨c,hc,rfl⟩ := conL_mem hv
    have := (hg.ck c (List.mem_of_mem_take hc)).2
    simp only [badV,decide_eq_false_iff_not] at this
    omega
  refine wp_seq ?_
  refine tb_r55_wp hbx (fun a4 h4=>?_) a3 h3
  by_cases hy:(if 0≤x0 then x0 else (conL (m.cs.take p) s).getD (-1))<0∧m.cs[p].nm=s
  · refine wp_cond_true ((h4.eval (k := 212) (v := .bool (decide ((if 0≤x0 then x0 else (conL (m.cs.take p) s).getD (-1))<0∧m.cs[p].nm=s))) (by simp)).trans (by rw [decide_eq_true hy])) ?_
    refine tb_r56_wp hbx (fun a5 h5=>?_) a4 (h4.pick [0,1,2,3,4,5,6,7,8,9,10,11,12,13,14,15,16,17])
    show Code.wp _ _ _ a5 w2
    have hn0:¬ 0≤x0 := fun h=>by have := hy.1; rw [if_pos h] at this; omega
    have hnone:conL (m.cs.take p) s=none := by
      cases hv:conL (m.cs.take p) s with
      | none=>rfl
      | some v=>have h8 := hpos v hv; have := hy.1; rw [if_neg hn0,hv] at this; simp at this; omega
    have he:(if 0≤x0 then x0 else (conL (m.cs.take (p+1)) s).getD (-1))=m.cs[p].v := by
      rw [if_neg hn0,htk,hnone,if_pos hy.2]; rfl
    refine tb_r57_wp (by omega) (fun a6 h6=>?_) a5 (h5.pick [0,1,2,3,4,5,6,7,8,9,10,11,12,13,14,15,16])
    exact ⟨g - 1,by omega,p+1,by omega,hk2,by rw [he]; exact h6⟩
  · refine wp_cond_false ((h4.eval (k := 212) (v := .bool (decide ((if 0≤x0 then x0 else (conL (m.cs.take p) s).getD (-1))<0∧m.cs[p].nm=s))) (by simp)).trans (by rw [decide_eq_false hy])) ?_
    refine wp_skip ?_
    show Code.wp _ _ _ a4 w2
    have he:(if 0≤x0 then x0 else (conL (m.cs.take (p+1)) s).getD (-1))=(if 0≤x0 then x0 else (conL (m.cs.take p) s).getD (-1)) := by
      by_cases h0:0≤x0
      · rw [if_pos h0,if_pos h0]
      · rw [if_neg h0,if_neg h0,htk]
        cases hv:conL (m.cs.take p) s with
        | some v=>rfl
        | none =>
          have hne:¬ m.cs[p].nm=s := fun e=>hy ⟨by rw [if_neg h0,hv]; decide,e⟩
          rw [if_neg hne]; rfl
    refine tb_r57_wp (by omega) (fun a6 h6=>?_) a4 (h4.pick [0,1,2,3,4,5,6,7,8,9,10,11,12,13,14,15,16])
    exact ⟨g - 1,by omega,p+1,by omega,hk2,by rw [he]; exact h6⟩
end
noncomputable section
set_option maxRecDepth 100000
set_option maxHeartbeats 4000000
variable {m:Md} {wy w w':World} {go i sz c1 cm dm gm gf NN mv ev et nm1 nm2:Nat} {Q:Exit→Act→World→Prop} {A Am Bm Dv Dt:Option Addr} {S:Nat→Prop} {t:List Int} {L:List Bool}

theorem word_two {E:List (ByteArray × Int)} {s:ByteArray} (h:∀v,envV E s=some v→0≤v):(if 0≤(envV E s).getD (-1) then (envV E s).getD (-1) else (conV m s).getD (-1))=wordT m E s := by
  unfold wordT
  cases he:envV E s with
  | some v=>have h9 := h v he; simp [h9]
  | none=>simp
theorem keeps_below {B:Nat} (hb:Below B wy w) (hB:B=wy.heap.size) (hk:Keeps (fun _=>False) w w'):Below B wy w' := hb.trans (hk.below (fun _ h=>h.elim) (by rw [hB]; have := hb.size; omega))
theorem keeps_belowG {B:Nat} (hb:Below B wy w) (hB:B=wy.heap.size) (hgo:B≤go) (hk:Keeps (fun k=>k=go) w w'):Below B wy w' := hb.trans (hk.below (fun k h=>by have h:k=go := h; omega) (by rw [hB]; have := hb.size; omega))
theorem keeps_weak (h:Keeps (fun _=>False) w w'):Keeps (fun k=>k=go) w w' := h.mono (fun _ _ h=>h.elim)
theorem keeps_set {v:Value} (h:Keeps (fun k=>k=go) w w'):Keeps (fun k=>k=go) w (w'.setCell ⟨go,i,none⟩ v) := h.set (Or.inl rfl) i v
def c_tb_words := sp 99 45927343 cF28
theorem tb_words_wp {vars ws:List ByteArray} {vals:List Int} {gv:Nat} (hg:m.good) (hm:mv≤5) (hvs:strRep.Sl wy S (.slice Dv mv ev) vars) (hws:strRep.Sl wy S (.slice A ws.length c1) ws) (hwl:ws.length≤3) (hcs:conRep.Sl wy S (.slice Am m.cs.length cm) m.cs) (hmd:wy.heap[gm]?=some (.cells #[.int .i64 (sz:Nat),.slice Am m.cs.length cm,.slice Bm m.rs.length dm] 25 (0,0))) (hS:∀b,S b→b<wy.heap.size) (hb:Below wy.heap.size wy w) (hvl:vals.length=mv) (hvv:∀v∈vals,(0:Int)≤v) (hgv:w.heap[gv]?=some (.cells ((vals).map (Value.int .i64 ·)).toArray 3 (0,0))) (hX:∀v' a' w',Frm 345 [(2,.slice Dv mv ev),(3,.pointer (some ⟨gm,0,none⟩)),(4,.pointer (some ⟨gf,0,none⟩)),(8,.slice (some ⟨go,0,none⟩) NN NN),(144,.int .i64 (NN:Nat)),(145,.int .i64 (i:Nat)),(10,.int .i64 (i:Nat)),(14,v')] a'→w'.ownsRow w.heap.size 3 1 v' ws.length ((ws.map (wordT m (vars.zip vals))).map (Value.int .i64 ·))→Keeps (fun _=>False) w w'→Q (.exit 12) a' w'):∀ac,Frm 345 [(2,.slice Dv mv ev),(3,.pointer (some ⟨gm,0,none⟩)),(4,.pointer (some ⟨gf,0,none⟩)),(8,.slice (some ⟨go,0,none⟩) NN NN),(144,.int .i64 (NN:Nat)),(145,.int .i64 (i:Nat)),(10,.int .i64 (i:Nat)),(11,.slice (some ⟨gv,0,none⟩) mv mv),(14,.slice none 0 0),(171,.slice A ws.length c1),(172,.int .i64 (ws.length:Nat)),(173,.int .i64 (0:Nat))] ac→Code.wp Tryd.prog c_tb_words Q ac w := by
  intro a0 hf0
  conv=>arg 2; whnf
  refine wp_loopR (fun g a' w'=>∃(j:Nat) (v':Value),j+g=ws.length∧w'.ownsRow w.heap.size 3 1 v' j (((ws.take j).map (wordT m (vars.zip vals))).map (Value.int .i64 ·))∧Keeps (fun _=>False) w w'∧Frm 345 [(2,.slice Dv mv ev),(3,.pointer (some ⟨gm,0,none⟩)),(4,.pointer (some ⟨gf,0,none⟩)),(8,.slice (some ⟨go,0,none⟩) NN NN),(144,.int .i64 (NN:Nat)),(145,.int .i64 (i:Nat)),(10,.int .i64 (i:Nat)),(11,.slice (some ⟨gv,0,none⟩) mv mv),(14,v'),(171,.slice A ws.length c1),(172,.int .i64 (ws.length:Nat)),(173,.int .i64 (j:Nat))] a') ws.length ⟨0,_,by omega,World.ownsRow_nil _ _ _ _,Keeps.refl _ _,hf0⟩ ?_
  rintro g a1 w1 ⟨j,v',hjg,hr1,hk1,h1⟩
  refine wp_seq ?_
  refine tb_r44_wp (fun a2 h2=>?_) a1 h1
  refine wp_seq ?_
  by_cases hj:j<ws.length
  case neg =>
    refine wp_cond_false ((h2.eval (k := 174) (v := .bool (decide (j<ws.length))) (by simp)).trans (by rw [decide_eq_false hj])) ?_
    refine wp_exit ?_
    repeat refine then_exit ?_
    obtain rfl:j=ws.length := by omega
    rw [List.take_of_length_le (Nat.le_refl _)] at hr1
    exact hX v' a2 w1 (h2.pick [0,1,2,3,4,5,6,8]) hr1 hk1
  refine wp_cond_true ((h2.eval (k := 174) (v := .bool (decide (j<ws.length))) (by simp)).trans (by rw [decide_eq_true hj])) ?_
  refine wp_skip ?_
  show Code.wp _ _ _ a2 w1
  have hb1 := keeps_below hb rfl hk1
  obtain ⟨b,o,cs,rfl,hSb,⟨rfl,_⟩,hcc⟩ := Rep.Sl.at_ hws (List.getElem?_eq_getElem hj)
  have hc0:w1.cell? ⟨b,o+j,none⟩=some (.string ws[j]) := (cell_keep (hb1.block b (hS b hSb)) _).trans (by simpa [strRep] using hcc 0 _ rfl)
  refine wp_seq ?_
  refine wp_block ?_
  refine wp_seq ?_
  refine tb_r45_wp hj hc0 (by have := hS b hSb; have := hb1.size; omega) (fun a3 h3=>?_) a2 (h2.pick [0,1,2,3,4,5,6,7,8,9,10,11])
  refine wp_seq ?_
  refine tb_r46_wp (fun a4 h4=>?_) a3 h3
  refine wp_seq ?_
  refine wp_seq ?_
  refine tb_r47_wp (by omega) (fun a5 h5=>?_) a4 h4
  refine wp_block ?_
  have hgv1 := (hk1.block gv (lt_heap hgv) (fun h=>h)).trans hgv
  refine tb_env_wp (vals := vals) (s := ws[j]) hm hvs hS hb1 hvl hvv hgv1 (fun a6 h6=>?_) a5 h5
  refine inBlock_exit ?_
  show Code.wp _ _ _ a6 w1
  have hmd1 := (hb1.block gm (lt_heap hmd)).trans hmd
  refine wp_seq ?_
  refine wp_seq ?_
  refine tb_r52_wp hmd1 (fun a7 h7=>?_) a6 h6
  refine wp_block ?_
  have hvlen:vars.length=mv := by obtain ⟨_,_,_,eqv,hvn,_,_⟩ := id hvs; injection eqv with e1 e2 e3; omega
  have hpos:∀v,envV (vars.zip vals) ws[j]=some v→0≤v := fun v hv=>hvv v (List.of_mem_zip (envV_mem hv)).2
  have hneg:¬ 0≤(envV (vars.zip vals) ws[j]).getD (-1)→(envV (vars.zip vals) ws[j]).getD (-1) = -1 := fun h=>by
    cases hv:envV (vars.zip vals) ws[j] with
    | none=>rfl
    | some v=>have := hpos v hv; rw [hv] at h; exact absurd this h
  refine tb_con_wp (m := m) (s := ws[j]) hneg hg hcs hS hb1 (fun a8 w3 h8 hk3=>?_) a7 h7
  refine inBlock_exit ?_
  show Code.wp _ _ _ a8 w3
  rw [word_two hpos] at h8
  have hr3 := own_keep hr1 (fun k hk=>hk3.block k hk (fun h=>h))
  obtain ⟨A9,c9,rfl,_⟩ := own_cap hr3
  have hk13:Keeps (fun _=>False) w w3 := hk1.trans hk3
  refine tb_r58_wp (by omega) hr3 hk13.size (fun v4 a9 w4 h9 hr4 hb4 hs4 hkp=>?_) a8 h8
  show Code.wp _ _ _ a9 w4
  refine tb_r59_wp (by omega) (fun a10 h10=>?_) a9 h9
  refine ⟨g - 1,by omega,j+1,v4,by omega,?_,⟨hb4.os.trans hk13.os,hb4.tape.trans hk13.tape,hb4.output.trans hk13.output,by have := hk13.size; omega,fun k hk _=>(hkp k (by have := hk13.size; omega) (fun e=>by have := own_ge9 hr3 k e; omega)).trans (hk13.block k hk (fun h=>h))⟩,h10⟩
  rw [List.take_succ_eq_append_getElem hj,List.map_append,List.map_append]
  exact hr4
def c_tb_tups := sp 99 49828121519 cF28
theorem tb_tups_wp {p gx:Nat} {tp:List (List Int)} {b0:Bool} {D9:Option Addr} {b9:Nat} (hs:1≤sz∧sz≤6) (htp:intsRep.Sl wy S (.slice D9 tp.length b9) tp) (htpl:tp.length≤500000) (hgood:∀u∈tp,u.length≤3∧u.any (badV (sz:Nat))=false) (hmd:wy.heap[gm]?=some (.cells #[.int .i64 (sz:Nat),.slice Am nm1 cm,.slice Bm nm2 dm] 25 (0,0))) (hS:∀b,S b→b<wy.heap.size) (hb:Below wy.heap.size wy w) (hts:zRep.Sl w (fun k=>k<w.heap.size∧k≠go) (.slice Dt t.length et) t) (htl:t.length≤3) (htb:t.any (badV (sz:Nat))=false) (hL:w.heap[go]?=some (.cells ((L).map Value.bool).toArray 4 (0,0))) (hLn:L.length=NN) (hi:i<NN) (hgo:wy.heap.size≤go) (hLi:L[i]?=some b0) (hX:∀a' w',Frm 345 [(2,.slice Dv mv ev),(3,.pointer (some ⟨gm,0,none⟩)),(4,.pointer (some ⟨gf,0,none⟩)),(8,.slice (some ⟨go,0,none⟩) NN NN),(144,.int .i64 (NN:Nat)),(145,.int .i64 (i:Nat)),(10,.int .i64 (i:Nat)),(14,.slice Dt t.length et),(235,.slice Bm nm2 dm),(236,.int .i64 (nm2:Nat)),(237,.int .i64 (p:Nat))] a'→w'.heap[go]?=some (.cells ((L.set i (b0 || tupsHit (sz:Nat) t tp)).map Value.bool).toArray 4 (0,0))→Keeps (fun k=>k=go) w w'→Q (.exit 20) a' w'):∀ac,Frm 345 [(2,.slice Dv mv ev),(3,.pointer (some ⟨gm,0,none⟩)),(4,.pointer (some ⟨gf,0,none⟩)),(8,.slice (some ⟨go,0,none⟩) NN NN),(144,.int .i64 (NN:Nat)),(145,.int .i64 (i:Nat)),(10,.int .i64 (i:Nat)),(14,.slice Dt t.length et),(235,.slice Bm nm2 dm),(236,.int .i64 (nm2:Nat)),(237,.int .i64 (p:Nat)),(22,.pointer (some ⟨gx,0,none⟩)),(254,.slice D9 tp.length b9),(255,.int .i64 (tp.length:Nat)),(256,.int .i64 (0:Nat))] ac→Code.wp Tryd.prog c_tb_tups Q ac w := by
  intro a0 hf0
  conv=>arg 2; whnf
  refine wp_loopR (fun g a' w'=>∃k:Nat,k+g=tp.length∧w'.heap[go]?=some (.cells ((L.set i (b0 || tupsHit (sz:Nat) t (tp.take k))).map Value.bool).toArray 4 (0,0))∧Keeps (fun k=>k=go) w w'∧Frm 345 [(2,.slice Dv mv ev),(3,.pointer (some ⟨gm,0,none⟩)),(4,.pointer (some ⟨gf,0,none⟩)),(8,.slice (some ⟨go,0,none⟩) NN NN),(144,.int .i64 (NN:Nat)),(145,.int .i64 (i:Nat)),(10,.int .i64 (i:Nat)),(14,.slice Dt t.length et),(235,.slice Bm nm2 dm),(236,.int .i64 (nm2:Nat)),(237,.int .i64 (p:Nat)),(22,.pointer (some ⟨gx,0,none⟩)),(254,.slice D9 tp.length b9),(255,.int .i64 (tp.length:Nat)),(256,.int .i64 (k:Nat))] a') tp.length ⟨0,by omega,by
    have e:L.set i (b0 || tupsHit (sz:Nat) t (tp.take 0))=L := by
      rw [show tupsHit ((sz:Nat):Int) t (tp.take 0)=false from rfl,Bool.or_false]
      exact set_self9 hLi
    rw [e]; exact hL,Keeps.refl _ _,hf0⟩ ?_
  rintro g a1 w1 ⟨k,hkg,hL1,hk1,h1⟩
  refine wp_seq ?_
  refine tb_r67_wp (fun a2 h2=>?_) a1 h1
  refine wp_seq ?_
  by_cases hk:k<tp.length
  case neg =>
    refine wp_cond_false ((h2.eval (k := 257) (v := .bool (decide (k<tp.length))) (by simp)).trans (by rw [decide_eq_false hk])) ?_
    refine wp_exit ?_
    repeat refine then_exit ?_
    rw [List.take_of_length_le (by omega)] at hL1
    exact hX a2 w1 (h2.pick [0,1,2,3,4,5,6,7,8,9,10]) hL1 hk1
  refine wp_cond_true ((h2.eval (k := 257) (v := .bool (decide (k<tp.length))) (by simp)).trans (by rw [decide_eq_true hk])) ?_
  refine wp_skip ?_
  show Code.wp _ _ _ a2 w1
  have hb1 := keeps_belowG hb rfl hgo hk1
  obtain ⟨b,o,Du,cu,rfl,hSb,e0,_,hu⟩ := tup_at htp hk
  have hbk := hb1.block b (hS b hSb)
  obtain ⟨u,hue⟩:∃u,tp[k]=u := ⟨_,rfl⟩
  have hum:u∈tp := by rw [← hue]; exact List.getElem_mem hk
  have htk := tupsHit_take (sz:Nat) t tp k hk
  rw [hue] at e0 hu htk
  have hmd1 := (hb1.block gm (lt_heap hmd)).trans hmd
  refine wp_seq ?_
  refine wp_block ?_
  refine wp_seq ?_
  refine tb_r68_wp hk ((cell_keep hbk _).trans e0) (by have := hS b hSb; have := hb1.size; omega) (fun a3 h3=>?_) a2 (h2.pick [0,1,2,3,4,5,6,7,8,9,10,11,12,13,14])
  have hsz':(1:Int)≤(sz:Nat)∧((sz:Nat):Int)≤6 := by omega
  refine wp_seq ?_
  refine wp_thenQ (tb_r69_wp (k0 := codeN (sz:Nat) 0 u) (k1 := codeN (sz:Nat) 0 t) hmd1 (fun W hW=>code_any u Du cu (sz:Nat) W (fun _=>True) (hu.keep (fun k hk=>(hW k (by have := hS k hk; have := hb1.size; omega)).trans (hb1.block k (hS k hk))) (fun _ _=>trivial)) (hgood u hum).1 hsz' (hgood u hum).2) (fun W hW=>code_any t Dt et (sz:Nat) W (fun _=>True) (hts.keep (fun k hk=>(hW k (by have := hk1.size; omega)).trans (hk1.block k hk.1 hk.2)) (fun _ _=>trivial)) htl hsz' htb) (fun a4 w4 h4 hb4=>?_) a3 h3)
  have hL4 := (hb4.block go (lt_heap hL1)).trans hL1
  have hk4:Keeps (fun k=>k=go) w w4 := hk1.trans (⟨hb4.os,hb4.tape,hb4.output,hb4.size,fun k hk _=>hb4.block k hk⟩)
  by_cases hc:codeN (sz:Nat) 0 u=codeN (sz:Nat) 0 t
  · refine wp_cond_true ((h4.eval (k := 268) (v := .bool (decide (codeN (sz:Nat) 0 u=codeN (sz:Nat) 0 t))) (by simp)).trans (by rw [decide_eq_true hc])) ?_
    have hLx:((L.set i (b0 || tupsHit (sz:Nat) t (tp.take k))).map Value.bool)[i]?=some (.bool (b0 || tupsHit (sz:Nat) t (tp.take k))) := by
      rw [List.getElem?_map,List.getElem?_set_self (by omega)]; rfl
    refine tb_r70_wp hi (row_cell hL4 hLx) (row_free hL4) (lt_heap hL4) (fun a5 h5=>?_) a4 (h4.pick [0,1,2,3,4,5,6,7,8,9,10,11,12,13,14,15])
    have hL5 := set_at (i := i) (v := .bool true) hL4
    rw [← List.map_set,List.set_set] at hL5
    refine gen_last (fun wx=>wx.heap[go]?=some (.cells ((L.set i true).map Value.bool).toArray 4 (0,0))∧Keeps (fun k=>k=go) w wx) ⟨hL5,keeps_set hk4⟩ ?_
    rintro w5 ⟨hL6,hk6⟩
    show Code.wp _ _ _ a5 w5
    refine tb_r71_wp (by omega) (fun a6 h6=>?_) a5 h5
    refine ⟨g - 1,by omega,k+1,by omega,?_,hk6,h6⟩
    rw [htk,decide_eq_true hc,Bool.or_true,Bool.or_true]
    exact hL6
  · refine wp_cond_false ((h4.eval (k := 268) (v := .bool (decide (codeN (sz:Nat) 0 u=codeN (sz:Nat) 0 t))) (by simp)).trans (by rw [decide_eq_false hc])) ?_
    refine wp_skip ?_
    show Code.wp _ _ _ a4 w4
    refine tb_r71_wp (by omega) (fun a6 h6=>?_) a4 (h4.pick [0,1,2,3,4,5,6,7,8,9,10,11,12,13,14])
    refine ⟨g - 1,by omega,k+1,by omega,?_,hk4,h6⟩
    rw [htk,decide_eq_false hc,Bool.or_false]
    exact hL4
def c_tb_rels := sp 99 100453295 cF28
theorem tb_rels_wp {rs:List Rel} {nm:ByteArray} {kd:Int} {B:Option Addr} {n1 n2 c2:Nat} (hs:1≤sz∧sz≤6) (hrs:relRep.Sl wy S (.slice Bm rs.length dm) rs) (hrl:rs.length≤300) (hgood:∀x∈rs,x.good (sz:Nat)) (hmd:wy.heap[gm]?=some (.cells #[.int .i64 (sz:Nat),.slice Am nm1 cm,.slice Bm rs.length dm] 25 (0,0))) (hay:wy.heap[gf]?=some (.cells #[.int .i64 kd,.string nm,.slice A n1 c1,.slice B n2 c2] 29 (0,0))) (hS:∀b,S b→b<wy.heap.size) (hb:Below wy.heap.size wy w) (hts:zRep.Sl w (fun k=>k<w.heap.size∧k≠go) (.slice Dt t.length et) t) (htl:t.length≤3) (htb:t.any (badV (sz:Nat))=false) (hL:w.heap[go]?=some (.cells ((L).map Value.bool).toArray 4 (0,0))) (hLn:L.length=NN) (hi:i<NN) (hgo:wy.heap.size≤go) (hLi:L[i]?=some false) (hX:∀a' w',Frm 345 [(2,.slice Dv mv ev),(3,.pointer (some ⟨gm,0,none⟩)),(4,.pointer (some ⟨gf,0,none⟩)),(8,.slice (some ⟨go,0,none⟩) NN NN),(144,.int .i64 (NN:Nat)),(145,.int .i64 (i:Nat))] a'→w'.heap[go]?=some (.cells ((L.set i (relsHit (sz:Nat) nm t rs)).map Value.bool).toArray 4 (0,0))→Keeps (fun k=>k=go) w w'→Q (.exit 18) a' w'):∀ac,Frm 345 [(2,.slice Dv mv ev),(3,.pointer (some ⟨gm,0,none⟩)),(4,.pointer (some ⟨gf,0,none⟩)),(8,.slice (some ⟨go,0,none⟩) NN NN),(144,.int .i64 (NN:Nat)),(145,.int .i64 (i:Nat)),(10,.int .i64 (i:Nat)),(14,.slice Dt t.length et),(235,.slice Bm rs.length dm),(236,.int .i64 (rs.length:Nat)),(237,.int .i64 (0:Nat))] ac→Code.wp Tryd.prog c_tb_rels Q ac w := by
  intro a0 hf0
  conv=>arg 2; whnf
  refine wp_loopR (fun g a' w'=>∃p:Nat,p+g=rs.length∧w'.heap[go]?=some (.cells ((L.set i (relsHit (sz:Nat) nm t (rs.take p))).map Value.bool).toArray 4 (0,0))∧Keeps (fun k=>k=go) w w'∧Frm 345 [(2,.slice Dv mv ev),(3,.pointer (some ⟨gm,0,none⟩)),(4,.pointer (some ⟨gf,0,none⟩)),(8,.slice (some ⟨go,0,none⟩) NN NN),(144,.int .i64 (NN:Nat)),(145,.int .i64 (i:Nat)),(10,.int .i64 (i:Nat)),(14,.slice Dt t.length et),(235,.slice Bm rs.length dm),(236,.int .i64 (rs.length:Nat)),(237,.int .i64 (p:Nat))] a') rs.length ⟨0,by omega,by
    have e:L.set i (relsHit (sz:Nat) nm t (rs.take 0))=L := set_self9 hLi
    rw [e]; exact hL,Keeps.refl _ _,hf0⟩ ?_
  rintro g a1 w1 ⟨p,hpg,hL1,hk1,h1⟩
  refine wp_seq ?_
  refine tb_r63_wp (fun a2 h2=>?_) a1 h1
  refine wp_seq ?_
  by_cases hp:p<rs.length
  case neg =>
    refine wp_cond_false ((h2.eval (k := 238) (v := .bool (decide (p<rs.length))) (by simp)).trans (by rw [decide_eq_false hp])) ?_
    refine wp_exit ?_
    repeat refine then_exit ?_
    rw [List.take_of_length_le (by omega)] at hL1
    exact hX a2 w1 (h2.pick [0,1,2,3,4,5]) hL1 hk1
  refine wp_cond_true ((h2.eval (k := 238) (v := .bool (decide (p<rs.length))) (by simp)).trans (by rw [decide_eq_true hp])) ?_
  refine wp_skip ?_
  show Code.wp _ _ _ a2 w1
  have hb1 := keeps_belowG hb rfl hgo hk1
  obtain ⟨b,o,Tq,tq,rfl,hSb,e0,e1,e2,_,_,htp⟩ := rel_at hrs hp
  have hbk := hb1.block b (hS b hSb)
  have htk := relsHit_take (sz:Nat) nm t rs p hp
  have hxg := hgood rs[p] (List.getElem_mem hp)
  obtain ⟨x,hxe⟩:∃x,rs[p]=x := ⟨_,rfl⟩
  rw [hxe] at e0 e1 e2 htp htk hxg
  refine wp_seq ?_
  refine wp_block ?_
  refine wp_seq ?_
  refine tb_r64_wp hp ((cell_keep hbk _).trans e0) ((cell_keep hbk _).trans e1) ((cell_keep hbk _).trans e2) (by have := hS b hSb; have := hb1.size; omega) (fun a3 h3=>?_) a2 (h2.pick [0,1,2,3,4,5,6,7,8,9,10])
  have hgol := lt_heap hL1
  refine gen_last (fun wx=>wx.heap[w1.heap.size]?=some (.cells #[.string x.nm,.int .i64 x.ar,.slice Tq x.tp.length tq] 59 (0,0))∧wx.heap[go]?=some (.cells ((L.set i (relsHit (sz:Nat) nm t (rs.take p))).map Value.bool).toArray 4 (0,0))∧Keeps (fun k=>k=go) w wx∧w1.heap.size<wx.heap.size) ⟨heap_alloc_new _ _,heap_old (by omega) hL1,hk1.alloc _,by simp⟩ ?_
  rintro w2 ⟨hbx,hL2,hk2,hs2⟩
  have hb2 := keeps_belowG hb rfl hgo hk2
  have hay2 := (hb2.block gf (lt_heap hay)).trans hay
  refine wp_seq ?_
  refine wp_seq ?_
  refine tb_r65_wp hbx hay2 (fun a4 h4=>?_) a3 h3
  cases hmt:(decide (x.nm=nm) && decide (x.ar=(t.length:Nat)))
  · rw [hmt] at h4
    refine wp_cond_true ((h4.eval (k := 252) (v := .bool (!false)) (by simp)).trans (by rw [show (!false)=true from rfl])) ?_
    refine wp_exit ?_
    repeat refine then_exit ?_
    refine inBlock_exit ?_
    show Code.wp _ _ _ a4 w2
    refine tb_r72_wp (by omega) (fun a5 h5=>?_) a4 (h4.pick [0,1,2,3,4,5,6,7,8,9,10])
    refine ⟨g - 1,by omega,p+1,by omega,?_,hk2,h5⟩
    rw [htk,show relHit (sz:Nat) nm t x=false from by unfold relHit; rw [hmt]; rfl,Bool.or_false]
    exact hL2
  · rw [hmt] at h4
    refine wp_cond_false ((h4.eval (k := 252) (v := .bool (!true)) (by simp)).trans (by rw [show (!true)=false from rfl])) ?_
    refine wp_skip ?_
    show Code.wp _ _ _ a4 w2
    refine wp_seq ?_
    refine tb_r66_wp hbx (fun a5 h5=>?_) a4 (h4.pick [0,1,2,3,4,5,6,7,8,9,10,11])
    refine wp_block ?_
    have hLn2:(L.set i (relsHit (sz:Nat) nm t (rs.take p))).length=NN := by rw [List.length_set]; exact hLn
    have har := hxg.2.2.1
    refine tb_tups_wp (w := w2) (b0 := relsHit (sz:Nat) nm t (rs.take p)) (tp := x.tp) hs htp (Rel.few (by omega) hxg) (fun u hu=>⟨by have := (hxg.2.2.2.2 u hu).1; omega,(hxg.2.2.2.2 u hu).2⟩) hmd hS hb2 (hts.keep (fun k hk=>hk2.block k hk.1 hk.2) (fun k hk=>⟨by have := hk2.size; omega,hk.2⟩)) htl htb hL2 hLn2 hi hgo (List.getElem?_set_self (by omega)) (fun a6 w6 h6 hL6 hk6=>?_) a5 h5
    refine inBlock_exit ?_
    show Code.wp _ _ _ a6 w6
    rw [List.set_set] at hL6
    refine tb_r72_wp (by omega) (fun a7 h7=>?_) a6 h6
    refine ⟨g - 1,by omega,p+1,by omega,?_,hk2.trans hk6,h7⟩
    rw [htk,show relHit (sz:Nat) nm t x=tupsHit (sz:Nat) t x.tp from by unfold relHit; rw [hmt]; rfl]
    exact hL6
end
noncomputable section
set_option maxRecDepth 100000
set_option maxHeartbeats 4000000
variable {go gm gf NN mv ev sz c1 n2 c2 cm dm gi nm1 nm2 n1:Nat} {w wy:World} {Q:Exit→Act→World→Prop} {T tr:List Bool} {Dv A B Am Bm:Option Addr} {kd:Int} {nm:ByteArray}

theorem keepsV {gv:Nat} {w2 w3:World} (h:Keeps (fun k=>k=go) w w2) (k:Keeps (fun k=>k=gv) w2 w3) (hv:w.heap.size≤gv):Keeps (fun k=>k=go) w w3 := h.step k (fun i hi=>Or.inr (by have hi:i=gv := hi; omega))
def c_tb_tru := sp 99 2735 cF28
theorem tb_tru_wp (hT:T.length=NN) (hN9:NN≤100000) (hTi:∀i,i<NN→T[i]?=some true) (hL:w.heap[go]?=some (.cells ((List.replicate NN false).map Value.bool).toArray 4 (0,0))) (hX:∀a' w',Frm 345 [(2,.slice Dv mv ev),(3,.pointer (some ⟨gm,0,none⟩)),(4,.pointer (some ⟨gf,0,none⟩)),(8,.slice (some ⟨go,0,none⟩) NN NN)] a'→w'.heap[go]?=some (.cells ((T).map Value.bool).toArray 4 (0,0))→Keeps (fun k=>k=go) w w'→Q (.exit 6) a' w'):∀ac,Frm 345 [(2,.slice Dv mv ev),(3,.pointer (some ⟨gm,0,none⟩)),(4,.pointer (some ⟨gf,0,none⟩)),(8,.slice (some ⟨go,0,none⟩) NN NN),(132,.int .i64 (NN:Nat)),(133,.int .i64 (0:Nat))] ac→Code.wp Tryd.prog c_tb_tru Q ac w := by
  intro a0 hf0
  conv=>arg 2; whnf
  refine wp_loopR (fun g a' w'=>∃i:Nat,i+g=NN∧w'.heap[go]?=some (.cells ((partL T NN i).map Value.bool).toArray 4 (0,0))∧Keeps (fun k=>k=go) w w'∧Frm 345 [(2,.slice Dv mv ev),(3,.pointer (some ⟨gm,0,none⟩)),(4,.pointer (some ⟨gf,0,none⟩)),(8,.slice (some ⟨go,0,none⟩) NN NN),(132,.int .i64 (NN:Nat)),(133,.int .i64 (i:Nat))] a') NN ⟨0,by omega,by rw [partL_zero]; exact hL,Keeps.refl _ _,hf0⟩ ?_
  rintro g a1 w1 ⟨i,hig,hL1,hk1,h1⟩
  refine wp_seq ?_
  refine tb_r27_wp (fun a2 h2=>?_) a1 h1
  refine wp_seq ?_
  by_cases hi:i<NN
  case neg =>
    refine wp_cond_false ((h2.eval (k := 134) (v := .bool (decide (i<NN))) (by simp)).trans (by rw [decide_eq_false hi])) ?_
    refine wp_exit ?_
    repeat refine then_exit ?_
    obtain rfl:i=NN := by omega
    rw [partL_full hT] at hL1
    exact hX a2 w1 (h2.pick [0,1,2,3]) hL1 hk1
  refine wp_cond_true ((h2.eval (k := 134) (v := .bool (decide (i<NN))) (by simp)).trans (by rw [decide_eq_true hi])) ?_
  refine wp_skip ?_
  show Code.wp _ _ _ a2 w1
  refine wp_seq ?_
  refine wp_block ?_
  refine wp_seq ?_
  refine tb_r28_wp (fun a3 h3=>?_) a2 (h2.pick [0,1,2,3,4,5])
  have hc:((partL T NN i).map Value.bool)[i]?=some (.bool false) := by rw [List.getElem?_map,partL_at hT hi]; rfl
  refine tb_r29_wp hi (row_cell hL1 hc) (row_free hL1) (lt_heap hL1) (fun a4 h4=>?_) a3 h3
  have hL2 := set_at (i := i) (v := .bool true) hL1
  rw [← List.map_set,partL_set hT hi (hTi i hi)] at hL2
  refine gen_last (fun wx=>wx.heap[go]?=some (.cells ((partL T NN (i+1)).map Value.bool).toArray 4 (0,0))∧Keeps (fun k=>k=go) w wx) ⟨hL2,keeps_set hk1⟩ ?_
  rintro w2 ⟨hL3,hk3⟩
  show Code.wp _ _ _ a4 w2
  refine tb_r30_wp (by omega) (fun a5 h5=>?_) a4 h4
  exact ⟨g - 1,by omega,i+1,by omega,hL3,hk3,h5⟩
def c_tb_atoms := sp 99 11183 cF28
theorem tb_atoms_wp {m:Md} {vars ws:List ByteArray} {S:Nat→Prop} (hg:m.good) (hsz:m.sz=(sz:Nat)) (hs:1≤sz∧sz≤6) (hm:mv≤5) (hvs:strRep.Sl wy S (.slice Dv mv ev) vars) (hws:strRep.Sl wy S (.slice A ws.length c1) ws) (hwl:ws.length≤3) (hcs:conRep.Sl wy S (.slice Am m.cs.length cm) m.cs) (hrs:relRep.Sl wy S (.slice Bm m.rs.length dm) m.rs) (hmd:wy.heap[gm]?=some (.cells #[.int .i64 (sz:Nat),.slice Am m.cs.length cm,.slice Bm m.rs.length dm] 25 (0,0))) (hay:wy.heap[gf]?=some (.cells #[.int .i64 kd,.string nm,.slice A ws.length c1,.slice B n2 c2] 29 (0,0))) (hS:∀b,S b→b<wy.heap.size) (hb:Below wy.heap.size wy w) (hgo:wy.heap.size≤go) (hT:T.length=NN) (hN9:NN≤100000) (hgd:kd≠3→∀i,i<NN→(ws.map (wordT m (vars.zip (digs sz mv i)))).any (badV (sz:Nat))=false) (hw3:kd=3→ws.length=2) (hTi:∀i,i<NN→T[i]?=some (if kd=3 then decide ((ws.map (wordT m (vars.zip (digs sz mv i))))[0]?=(ws.map (wordT m (vars.zip (digs sz mv i))))[1]?) else relsHit (sz:Nat) nm (ws.map (wordT m (vars.zip (digs sz mv i)))) m.rs)) (hL:w.heap[go]?=some (.cells ((List.replicate NN false).map Value.bool).toArray 4 (0,0))) (hX:∀a' w',Frm 345 [(2,.slice Dv mv ev),(3,.pointer (some ⟨gm,0,none⟩)),(4,.pointer (some ⟨gf,0,none⟩)),(8,.slice (some ⟨go,0,none⟩) NN NN)] a'→w'.heap[go]?=some (.cells ((T).map Value.bool).toArray 4 (0,0))→Keeps (fun k=>k=go) w w'→Q (.exit 8) a' w'):∀ac,Frm 345 [(2,.slice Dv mv ev),(3,.pointer (some ⟨gm,0,none⟩)),(4,.pointer (some ⟨gf,0,none⟩)),(8,.slice (some ⟨go,0,none⟩) NN NN),(144,.int .i64 (NN:Nat)),(145,.int .i64 (0:Nat))] ac→Code.wp Tryd.prog c_tb_atoms Q ac w := by
  intro a0 hf0
  conv=>arg 2; whnf
  refine wp_loopR (fun g a' w'=>∃i:Nat,i+g=NN∧w'.heap[go]?=some (.cells ((partL T NN i).map Value.bool).toArray 4 (0,0))∧Keeps (fun k=>k=go) w w'∧Frm 345 [(2,.slice Dv mv ev),(3,.pointer (some ⟨gm,0,none⟩)),(4,.pointer (some ⟨gf,0,none⟩)),(8,.slice (some ⟨go,0,none⟩) NN NN),(144,.int .i64 (NN:Nat)),(145,.int .i64 (i:Nat))] a') NN ⟨0,by omega,by rw [partL_zero]; exact hL,Keeps.refl _ _,hf0⟩ ?_
  rintro g a1 w1 ⟨i,hig,hL1,hk1,h1⟩
  refine wp_seq ?_
  refine tb_r34_wp (fun a2 h2=>?_) a1 h1
  refine wp_seq ?_
  by_cases hi:i<NN
  case neg =>
    refine wp_cond_false ((h2.eval (k := 146) (v := .bool (decide (i<NN))) (by simp)).trans (by rw [decide_eq_false hi])) ?_
    refine wp_exit ?_
    repeat refine then_exit ?_
    obtain rfl:i=NN := by omega
    rw [partL_full hT] at hL1
    exact hX a2 w1 (h2.pick [0,1,2,3]) hL1 hk1
  refine wp_cond_true ((h2.eval (k := 146) (v := .bool (decide (i<NN))) (by simp)).trans (by rw [decide_eq_true hi])) ?_
  refine wp_skip ?_
  show Code.wp _ _ _ a2 w1
  have hgol := lt_heap hL1
  have hks1 := hk1.size
  refine wp_seq ?_
  refine wp_block ?_
  refine wp_seq ?_
  refine tb_r35_wp (fun a3 h3=>?_) a2 (h2.pick [0,1,2,3,4,5])
  refine wp_seq ?_
  refine tb_r36_wp (by omega) (fun a4 h4=>?_) a3 h3
  refine gen_last (fun wx=>wx.heap[w1.heap.size]?=some (.cells ((List.replicate mv 0).map (Value.int .i64 ·)).toArray 3 (0,0))∧wx.heap[go]?=some (.cells ((partL T NN i).map Value.bool).toArray 4 (0,0))∧Keeps (fun k=>k=go) w wx) ⟨by rw [List.map_replicate,← made_list]; exact heap_alloc_new _ _,heap_old hgol hL1,hk1.alloc _⟩ ?_
  rintro w2 ⟨hgv2,hL2,hk2⟩
  have hb2 := keeps_belowG hb rfl hgo hk2
  have hmd2 := (hb2.block gm (lt_heap hmd)).trans hmd
  refine wp_seq ?_
  refine wp_seq ?_
  refine tb_r37_wp (by omega) (fun a5 h5=>?_) a4 h4
  refine wp_block ?_
  refine tb_vals_wp hs hm (by omega) (by have := lt_heap hmd; have := hb.size; omega) hmd2 hgv2 (fun a6 w3 h6 hgv3 hkv=>?_) a5 h5
  refine inBlock_exit ?_
  show Code.wp _ _ _ a6 w3
  have hk3:Keeps (fun k=>k=go) w w3 := keepsV hk2 hkv hks1
  have hb3 := keeps_belowG hb rfl hgo hk3
  have hL3 := (hkv.block go (lt_heap hL2) (by have h := lt_heap hL1; intro e; have e:go=w1.heap.size := e; omega)).trans hL2
  have hay3 := (hb3.block gf (lt_heap hay)).trans hay
  refine wp_seq ?_
  refine tb_r42_wp (fun a7 h7=>?_) a6 h6
  refine wp_seq ?_
  refine wp_seq ?_
  refine tb_r43_wp hay3 (fun a8 h8=>?_) a7 h7
  refine wp_block ?_
  refine tb_words_wp (m := m) (vals := digs sz mv i) hg hm hvs hws hwl hcs hmd hS hb3 (digs_length _ _ _) (fun v hv=>(digs_good (by omega) _ _ v hv).1) hgv3 (fun v' a9 w4 h9 hr4 hk4=>?_) a8 h8
  refine inBlock_exit ?_
  show Code.wp _ _ _ a9 w4
  have hTii := hTi i hi
  have hgdi := fun h=>hgd h i hi
  obtain ⟨t,htt⟩:∃t,ws.map (wordT m (vars.zip (digs sz mv i)))=t := ⟨_,rfl⟩
  rw [htt] at hTii hgdi hr4
  have htl:ws.length=t.length := by rw [← htt,List.length_map]
  obtain ⟨Dt,et,hv',_⟩ := own_cap hr4
  rw [htl] at hv'
  subst hv'
  have hk04:Keeps (fun k=>k=go) w w4 := hk3.trans (keeps_weak hk4)
  have hb4 := keeps_belowG hb rfl hgo hk04
  have hL4 := (hk4.block go (lt_heap hL3) (fun h=>h)).trans hL3
  have hgo3 := lt_heap hL3
  have hts:zRep.Sl w4 (fun k=>k<w4.heap.size∧k≠go) (.slice Dt t.length et) t := sl_of_own (ρ := zRep) (l := t) (xs := t.map (Value.int .i64 ·)) (by have h9 := hr4; rw [htl] at h9; exact h9) (zAll t) (by unfold maxLen; omega) (fun k hk=>⟨(hr4.lt k hk).2,by have := (hr4.lt k hk).1; omega⟩)
  have hay4 := (hb4.block gf (lt_heap hay)).trans hay
  have hmd4 := (hb4.block gm (lt_heap hmd)).trans hmd
  have hcell:((partL T NN i).map Value.bool)[i]?=some (.bool false) := by rw [List.getElem?_map,partL_at hT hi]; rfl
  refine wp_seq ?_
  refine wp_seq ?_
  refine tb_r60_wp hay4 (fun a10 h10=>?_) a9 h9
  by_cases h33:kd=3
  · refine wp_cond_true ((h10.eval (k := 223) (v := .bool (decide (kd=3))) (by simp)).trans (by rw [decide_eq_true h33])) ?_
    have ht2:t.length=2 := by rw [← htl]; exact hw3 h33
    obtain ⟨x,y,rfl⟩:∃x y,t=[x,y] := by
      match t,ht2 with
      | [x,y],_=>exact ⟨x,y,rfl⟩
    obtain ⟨b,o,hA,hSb,e0⟩ := int_at hts (j := 0) (by simp)
    obtain ⟨b',o',hA',_,e1⟩ := int_at hts (j := 1) (by simp)
    subst hA
    simp only [Option.some.injEq,Addr.mk.injEq] at hA'
    obtain ⟨rfl,rfl,_⟩ := hA'
    rw [if_pos h33] at hTii
    simp only [List.getElem?_cons_zero,List.getElem?_cons_succ,Option.some.injEq] at hTii
    refine wp_seq ?_
    refine wp_thenQ (tb_r61_wp (v5 := x) (q := y) hi (row_cell hL4 hcell) (row_free hL4) (lt_heap hL4) e0 e1 hSb.1 (fun a11 w5 h11 hw5=>?_) a10 (h10.pick [0,1,2,3,4,5,6,7]))
    have hL5 := set_at (i := i) (v := .bool (decide (x=y))) hL4
    rw [← List.map_set,partL_set hT hi hTii] at hL5
    have hL6:w5.heap[go]?=some (.cells ((partL T NN (i+1)).map Value.bool).toArray 4 (0,0)) := by
      rcases hw5 with rfl | rfl
      · exact heap_drew hL5
      · have h9 := set_at (i := i) (v := .bool (decide (x=y))) (heap_drew hL4)
        rw [← List.map_set,partL_set hT hi hTii] at h9
        exact h9
    have hk5:Keeps (fun k=>k=go) w w5 := by
      rcases hw5 with rfl | rfl
      · exact (keeps_set hk04).drew
      · exact keeps_set hk04.drew
    refine wp_exit ?_
    repeat refine then_exit ?_
    refine inBlock_exit ?_
    show Code.wp _ _ _ a11 w5
    refine tb_r73_wp (by omega) (fun a12 h12=>?_) a11 h11
    exact ⟨g - 1,by omega,i+1,by omega,hL6,hk5,h12⟩
  · refine wp_cond_false ((h10.eval (k := 223) (v := .bool (decide (kd=3))) (by simp)).trans (by rw [decide_eq_false h33])) ?_
    refine wp_skip ?_
    show Code.wp _ _ _ a10 w4
    rw [if_neg h33] at hTii
    refine wp_seq ?_
    refine tb_r62_wp hmd4 (fun a11 h11=>?_) a10 (h10.pick [0,1,2,3,4,5,6,7])
    refine wp_block ?_
    refine tb_rels_wp (rs := m.rs) hs hrs hg.nr (fun x hx=>by have := hg.rk x hx; rwa [hsz] at this) hmd hay hS hb4 hts (by omega) (hgdi h33) hL4 (partL_length hT (by omega)) hi hgo (partL_at hT hi) (fun a12 w5 h12 hL5 hk5=>?_) a11 h11
    refine inBlock_exit ?_
    show Code.wp _ _ _ a12 w5
    rw [partL_set hT hi hTii] at hL5
    refine tb_r73_wp (by omega) (fun a13 h13=>?_) a12 h12
    exact ⟨g - 1,by omega,i+1,by omega,hL5,hk04.trans hk5,h13⟩
def c_tb_vq := sp 99 90599343 cF28
theorem tb_vq_wp {i p:Nat} (hs:1≤sz∧sz≤6) (hq:((i:Int) * ((sz:Nat):Int))=(p:Nat)) (hp:p≤1000000) (htr:p+sz≤tr.length) (hgm:w.heap[gm]?=some (.cells #[.int .i64 (sz:Nat),.slice Am nm1 cm,.slice Bm nm2 dm] 25 (0,0))) (hgi:w.heap[gi]?=some (.cells ((tr).map Value.bool).toArray 4 (0,0))) (hX:∀a',Frm 345 [(2,.slice Dv mv ev),(3,.pointer (some ⟨gm,0,none⟩)),(4,.pointer (some ⟨gf,0,none⟩)),(8,.slice (some ⟨go,0,none⟩) NN NN),(25,.slice (some ⟨gi,0,none⟩) tr.length tr.length),(292,.int .i64 (NN:Nat)),(293,.int .i64 (i:Nat)),(26,.int .i64 (i:Nat)),(27,.bool ((List.range sz).all (fun j=>(tr[p+j]?).getD false))),(28,.bool ((List.range sz).any (fun j=>(tr[p+j]?).getD false)))] a'→Q (.exit 24) a' w):∀ac,Frm 345 [(2,.slice Dv mv ev),(3,.pointer (some ⟨gm,0,none⟩)),(4,.pointer (some ⟨gf,0,none⟩)),(8,.slice (some ⟨go,0,none⟩) NN NN),(25,.slice (some ⟨gi,0,none⟩) tr.length tr.length),(292,.int .i64 (NN:Nat)),(293,.int .i64 (i:Nat)),(26,.int .i64 (i:Nat)),(27,.bool true),(28,.bool false),(29,.int .i64 (0:Nat))] ac→Code.wp Tryd.prog c_tb_vq Q ac w := by
  intro a0 hf0
  conv=>arg 2; whnf
  refine wp_loopR (fun g a' w'=>∃k:Nat,k+g=sz∧w'=w∧Frm 345 [(2,.slice Dv mv ev),(3,.pointer (some ⟨gm,0,none⟩)),(4,.pointer (some ⟨gf,0,none⟩)),(8,.slice (some ⟨go,0,none⟩) NN NN),(25,.slice (some ⟨gi,0,none⟩) tr.length tr.length),(292,.int .i64 (NN:Nat)),(293,.int .i64 (i:Nat)),(26,.int .i64 (i:Nat)),(27,.bool ((List.range k).all (fun j=>(tr[p+j]?).getD false))),(28,.bool ((List.range k).any (fun j=>(tr[p+j]?).getD false))),(29,.int .i64 (k:Nat))] a') sz ⟨0,by omega,rfl,hf0⟩ ?_
  rintro g a1 w1 ⟨k,hkg,rfl,h1⟩
  refine wp_seq ?_
  refine wp_seq ?_
  refine tb_r82_wp hgm (fun a2 h2=>?_) a1 h1
  by_cases hk:(k:Int)<((sz:Nat):Int)
  case neg =>
    refine wp_cond_false ((h2.eval (k := 299) (v := .bool (decide ((k:Int)<((sz:Nat):Int)))) (by simp)).trans (by rw [decide_eq_false hk])) ?_
    refine wp_exit ?_
    repeat refine then_exit ?_
    obtain rfl:k=sz := by omega
    exact hX a2 (h2.pick [0,1,2,3,4,5,6,7,8,9])
  refine wp_cond_true ((h2.eval (k := 299) (v := .bool (decide ((k:Int)<((sz:Nat):Int)))) (by simp)).trans (by rw [decide_eq_true hk])) ?_
  refine wp_skip ?_
  show Code.wp _ _ _ a2 w1
  have hc:w1.cell? ⟨gi,p+k,none⟩=some (.bool ((tr[p+k]?).getD false)) := row_cell hgi (by rw [List.getElem?_map,List.getElem?_eq_getElem (by omega)]; rfl)
  have e1:((List.range (k+1)).all (fun j=>(tr[p+j]?).getD false))=(((List.range k).all (fun j=>(tr[p+j]?).getD false)) && (tr[p+k]?).getD false) := by rw [List.range_succ,List.all_append]; simp
  have e2:((List.range (k+1)).any (fun j=>(tr[p+j]?).getD false))=(((List.range k).any (fun j=>(tr[p+j]?).getD false)) || (tr[p+k]?).getD false) := by rw [List.range_succ,List.any_append]; simp
  refine wp_seq ?_
  refine wp_block ?_
  refine wp_seq ?_
  refine tb_r84_wp hgm hq hp (by omega) (by omega) hc (lt_heap hgi) (fun a3 h3=>?_) a2 (h2.pick [0,1,2,3,4,5,6,7,8,9,10])
  refine tb_r85_wp hgm hq hp (by omega) (by omega) hc (lt_heap hgi) (fun a4 h4=>?_) a3 h3
  show Code.wp _ _ _ a4 w1
  refine tb_r83_wp (by omega) (fun a5 h5=>?_) a4 h4
  exact ⟨g - 1,by omega,k+1,by omega,rfl,by rw [e1,e2]; exact h5⟩
def c_tb_quant := sp 99 94127 cF28
theorem tb_quant_wp (hs:1≤sz∧sz≤6) (h89:kd=8∨kd=9) (hmd:wy.heap[gm]?=some (.cells #[.int .i64 (sz:Nat),.slice Am nm1 cm,.slice Bm nm2 dm] 25 (0,0))) (hay:wy.heap[gf]?=some (.cells #[.int .i64 kd,.string nm,.slice A n1 c1,.slice B n2 c2] 29 (0,0))) (hb:Below wy.heap.size wy w) (hgo:wy.heap.size≤go) (hT:T.length=NN) (hN9:NN≤100000) (htr:tr.length=NN * sz) (hne:gi≠go) (hgi:w.heap[gi]?=some (.cells ((tr).map Value.bool).toArray 4 (0,0))) (hTi:∀i,i<NN→T[i]?=some (if kd=8 then ((List.range sz).all (fun j=>(tr[i * sz+j]?).getD false)) else ((List.range sz).any (fun j=>(tr[i * sz+j]?).getD false)))) (hL:w.heap[go]?=some (.cells ((List.replicate NN false).map Value.bool).toArray 4 (0,0))) (hX:∀a' w',Frm 345 [(2,.slice Dv mv ev),(3,.pointer (some ⟨gm,0,none⟩)),(4,.pointer (some ⟨gf,0,none⟩)),(8,.slice (some ⟨go,0,none⟩) NN NN)] a'→w'.heap[go]?=some (.cells ((T).map Value.bool).toArray 4 (0,0))→Keeps (fun k=>k=go) w w'→Q (.exit 22) a' w'):∀ac,Frm 345 [(2,.slice Dv mv ev),(3,.pointer (some ⟨gm,0,none⟩)),(4,.pointer (some ⟨gf,0,none⟩)),(8,.slice (some ⟨go,0,none⟩) NN NN),(25,.slice (some ⟨gi,0,none⟩) tr.length tr.length),(292,.int .i64 (NN:Nat)),(293,.int .i64 (0:Nat))] ac→Code.wp Tryd.prog c_tb_quant Q ac w := by
  intro a0 hf0
  conv=>arg 2; whnf
  refine wp_loopR (fun g a' w'=>∃i:Nat,i+g=NN∧w'.heap[go]?=some (.cells ((partL T NN i).map Value.bool).toArray 4 (0,0))∧Keeps (fun k=>k=go) w w'∧Frm 345 [(2,.slice Dv mv ev),(3,.pointer (some ⟨gm,0,none⟩)),(4,.pointer (some ⟨gf,0,none⟩)),(8,.slice (some ⟨go,0,none⟩) NN NN),(25,.slice (some ⟨gi,0,none⟩) tr.length tr.length),(292,.int .i64 (NN:Nat)),(293,.int .i64 (i:Nat))] a') NN ⟨0,by omega,by rw [partL_zero]; exact hL,Keeps.refl _ _,hf0⟩ ?_
  rintro g a1 w1 ⟨i,hig,hL1,hk1,h1⟩
  refine wp_seq ?_
  refine tb_r78_wp (fun a2 h2=>?_) a1 h1
  refine wp_seq ?_
  by_cases hi:i<NN
  case neg =>
    refine wp_cond_false ((h2.eval (k := 294) (v := .bool (decide (i<NN))) (by simp)).trans (by rw [decide_eq_false hi])) ?_
    refine wp_exit ?_
    repeat refine then_exit ?_
    obtain rfl:i=NN := by omega
    rw [partL_full hT] at hL1
    exact hX a2 w1 (h2.pick [0,1,2,3]) hL1 hk1
  refine wp_cond_true ((h2.eval (k := 294) (v := .bool (decide (i<NN))) (by simp)).trans (by rw [decide_eq_true hi])) ?_
  refine wp_skip ?_
  show Code.wp _ _ _ a2 w1
  have hb1 := keeps_belowG hb rfl hgo hk1
  have hmd1 := (hb1.block gm (lt_heap hmd)).trans hmd
  have hay1 := (hb1.block gf (lt_heap hay)).trans hay
  have hgi1 := (hk1.block gi (lt_heap hgi) hne).trans hgi
  have hps:i * sz+sz≤NN * sz := by
    have := Nat.mul_le_mul_right sz (show i+1≤NN by omega)
    rwa [Nat.add_mul,Nat.one_mul] at this
  have hp6:i * sz≤i * 6 := Nat.mul_le_mul_left i hs.2
  refine wp_seq ?_
  refine wp_block ?_
  refine wp_seq ?_
  refine tb_r79_wp (fun a3 h3=>?_) a2 (h2.pick [0,1,2,3,4,5,6])
  refine wp_seq ?_
  refine tb_r80_wp (fun a4 h4=>?_) a3 h3
  refine wp_seq ?_
  refine wp_seq ?_
  refine tb_r81_wp (fun a5 h5=>?_) a4 h4
  refine wp_block ?_
  refine tb_vq_wp (p := i * sz) hs (by rw [Int.natCast_mul]) (by omega) (by omega) hmd1 hgi1 (fun a6 h6=>?_) a5 h5
  refine inBlock_exit ?_
  show Code.wp _ _ _ a6 w1
  have hc:((partL T NN i).map Value.bool)[i]?=some (.bool false) := by rw [List.getElem?_map,partL_at hT hi]; rfl
  refine tb_r86_wp hi (row_cell hL1 hc) (row_free hL1) (lt_heap hL1) hay1 h89 (fun a7 w2 h7 hw2=>?_) a6 h6
  have hL2 := set_at (i := i) (v := .bool (if kd=8 then ((List.range sz).all (fun j=>(tr[i * sz+j]?).getD false)) else ((List.range sz).any (fun j=>(tr[i * sz+j]?).getD false)))) hL1
  rw [← List.map_set,partL_set hT hi (hTi i hi),← hw2] at hL2
  have hk2:Keeps (fun k=>k=go) w w2 := by rw [hw2]; exact keeps_set hk1
  show Code.wp _ _ _ a7 w2
  refine tb_r87_wp (by omega) (fun a8 h8=>?_) a7 h7
  exact ⟨g - 1,by omega,i+1,by omega,hL2,hk2,h8⟩
def c_tb_conn := sp 99 393135 cF28
theorem tb_conn_wp {gx:Nat} {ta tb:List Bool} (hk47:kd=4∨kd=5∨kd=6∨kd=7) (hay:wy.heap[gf]?=some (.cells #[.int .i64 kd,.string nm,.slice A n1 c1,.slice B n2 c2] 29 (0,0))) (hb:Below wy.heap.size wy w) (hgo:wy.heap.size≤go) (hT:T.length=NN) (hN9:NN≤100000) (hta:ta.length=NN) (htb:tb.length=NN) (hn1:gi≠go) (hn2:gx≠go) (hgi:w.heap[gi]?=some (.cells ((ta).map Value.bool).toArray 4 (0,0))) (hgx:w.heap[gx]?=some (.cells ((tb).map Value.bool).toArray 4 (0,0))) (hTi:∀i b1 b2,i<NN→ta[i]?=some b1→tb[i]?=some b2→T[i]?=some (if kd=4 then !b1 else if kd=5 then b1 && b2 else if kd=6 then b1 || b2 else !b1 || b2)) (hL:w.heap[go]?=some (.cells ((List.replicate NN false).map Value.bool).toArray 4 (0,0))) (hX:∀a' w',Frm 345 [(2,.slice Dv mv ev),(3,.pointer (some ⟨gm,0,none⟩)),(4,.pointer (some ⟨gf,0,none⟩)),(8,.slice (some ⟨go,0,none⟩) NN NN)] a'→w'.heap[go]?=some (.cells ((T).map Value.bool).toArray 4 (0,0))→Keeps (fun k=>k=go) w w'→Q (.exit 3) a' w'):∀ac,Frm 345 [(2,.slice Dv mv ev),(3,.pointer (some ⟨gm,0,none⟩)),(4,.pointer (some ⟨gf,0,none⟩)),(8,.slice (some ⟨go,0,none⟩) NN NN),(30,.slice (some ⟨gi,0,none⟩) NN NN),(31,.slice (some ⟨gx,0,none⟩) NN NN),(66,.int .i64 (NN:Nat)),(67,.int .i64 (0:Nat))] ac→Code.wp Tryd.prog c_tb_conn Q ac w := by
  intro a0 hf0
  conv=>arg 2; whnf
  refine wp_loopR (fun g a' w'=>∃i:Nat,i+g=NN∧w'.heap[go]?=some (.cells ((partL T NN i).map Value.bool).toArray 4 (0,0))∧Keeps (fun k=>k=go) w w'∧Frm 345 [(2,.slice Dv mv ev),(3,.pointer (some ⟨gm,0,none⟩)),(4,.pointer (some ⟨gf,0,none⟩)),(8,.slice (some ⟨go,0,none⟩) NN NN),(30,.slice (some ⟨gi,0,none⟩) NN NN),(31,.slice (some ⟨gx,0,none⟩) NN NN),(66,.int .i64 (NN:Nat)),(67,.int .i64 (i:Nat))] a') NN ⟨0,by omega,by rw [partL_zero]; exact hL,Keeps.refl _ _,hf0⟩ ?_
  rintro g a1 w1 ⟨i,hig,hL1,hk1,h1⟩
  refine wp_seq ?_
  refine tb_r13_wp (fun a2 h2=>?_) a1 h1
  refine wp_seq ?_
  by_cases hi:i<NN
  case neg =>
    refine wp_cond_false ((h2.eval (k := 68) (v := .bool (decide (i<NN))) (by simp)).trans (by rw [decide_eq_false hi])) ?_
    refine wp_exit ?_
    repeat refine then_exit ?_
    obtain rfl:i=NN := by omega
    rw [partL_full hT] at hL1
    exact hX a2 w1 (h2.pick [0,1,2,3]) hL1 hk1
  refine wp_cond_true ((h2.eval (k := 68) (v := .bool (decide (i<NN))) (by simp)).trans (by rw [decide_eq_true hi])) ?_
  refine wp_skip ?_
  show Code.wp _ _ _ a2 w1
  have hb1 := keeps_belowG hb rfl hgo hk1
  have hay1 := (hb1.block gf (lt_heap hay)).trans hay
  have hgi1 := (hk1.block gi (lt_heap hgi) hn1).trans hgi
  have hgx1 := (hk1.block gx (lt_heap hgx) hn2).trans hgx
  obtain ⟨b1,hb1e⟩:∃b,ta[i]?=some b := ⟨_,List.getElem?_eq_getElem (by omega)⟩
  obtain ⟨b2,hb2e⟩:∃b,tb[i]?=some b := ⟨_,List.getElem?_eq_getElem (by omega)⟩
  have hc:((partL T NN i).map Value.bool)[i]?=some (.bool false) := by rw [List.getElem?_map,partL_at hT hi]; rfl
  have hc1:(ta.map Value.bool)[i]?=some (.bool b1) := by rw [List.getElem?_map,hb1e]; rfl
  have hc2:(tb.map Value.bool)[i]?=some (.bool b2) := by rw [List.getElem?_map,hb2e]; rfl
  have hTii := hTi i b1 b2 hi hb1e hb2e
  refine wp_seq ?_
  refine wp_block ?_
  refine wp_seq ?_
  refine tb_r14_wp (fun a3 h3=>?_) a2 (h2.pick [0,1,2,3,4,5,6,7])
  refine wp_seq ?_
  refine tb_r15_wp hay1 (fun a4 h4=>?_) a3 h3
  refine wp_block ?_
  rcases hk47 with hk | hk | hk | hk
  · refine wp_seq ?_
    refine tb_r16_wp (fun a5 h5=>?_) a4 (h4.pick [0,1,2,3,4,5,6,7,8,9])
    refine wp_cond_true ((h5.eval (k := 72) (v := .bool (decide (kd=4))) (by simp)).trans (by rw [decide_eq_true hk])) ?_
    refine tb_r17_wp hi (row_cell hL1 hc) (row_free hL1) (lt_heap hL1) (row_cell hgi1 hc1) (lt_heap hgi1) (fun a9 w2 h9 hw2=>?_) a5 (h5.pick [0,1,2,3,4,5,6,7,8,9])
    have hv9:(!b1)=(if kd=4 then !b1 else if kd=5 then b1 && b2 else if kd=6 then b1 || b2 else !b1 || b2) := by subst hk; rfl
    have hL2 := set_at (i := i) (v := .bool (!b1)) hL1
    rw [← List.map_set,partL_set hT hi (by rw [hv9]; exact hTii),← hw2] at hL2
    have hk2:Keeps (fun k=>k=go) w w2 := by rw [hw2]; exact keeps_set hk1
    show Code.wp _ _ _ a9 w2
    refine tb_r24_wp (by omega) (fun a10 h10=>?_) a9 h9
    exact ⟨g - 1,by omega,i+1,by omega,hL2,hk2,h10⟩
  · refine wp_seq ?_
    refine tb_r16_wp (fun a5 h5=>?_) a4 (h4.pick [0,1,2,3,4,5,6,7,8,9])
    have q4:¬ kd=4 := by omega
    refine wp_cond_false ((h5.eval (k := 72) (v := .bool (decide (kd=4))) (by simp)).trans (by rw [decide_eq_false q4])) ?_
    refine wp_seq ?_
    refine tb_r18_wp (fun a6 h6=>?_) a5 (h5.pick [0,1,2,3,4,5,6,7,8,9])
    refine wp_cond_true ((h6.eval (k := 82) (v := .bool (decide (kd=5))) (by simp)).trans (by rw [decide_eq_true hk])) ?_
    refine tb_r19_wp hi (row_cell hL1 hc) (row_free hL1) (lt_heap hL1) (row_cell hgi1 hc1) (lt_heap hgi1) (row_cell hgx1 hc2) (lt_heap hgx1) (fun a9 w2 h9 hw2=>?_) a6 (h6.pick [0,1,2,3,4,5,6,7,8,9])
    have hv9:(b1 && b2)=(if kd=4 then !b1 else if kd=5 then b1 && b2 else if kd=6 then b1 || b2 else !b1 || b2) := by subst hk; rfl
    have hL2 := set_at (i := i) (v := .bool (b1 && b2)) hL1
    rw [← List.map_set,partL_set hT hi (by rw [hv9]; exact hTii),← hw2] at hL2
    have hk2:Keeps (fun k=>k=go) w w2 := by rw [hw2]; exact keeps_set hk1
    show Code.wp _ _ _ a9 w2
    refine tb_r24_wp (by omega) (fun a10 h10=>?_) a9 h9
    exact ⟨g - 1,by omega,i+1,by omega,hL2,hk2,h10⟩
  · refine wp_seq ?_
    refine tb_r16_wp (fun a5 h5=>?_) a4 (h4.pick [0,1,2,3,4,5,6,7,8,9])
    have q4:¬ kd=4 := by omega
    refine wp_cond_false ((h5.eval (k := 72) (v := .bool (decide (kd=4))) (by simp)).trans (by rw [decide_eq_false q4])) ?_
    refine wp_seq ?_
    refine tb_r18_wp (fun a6 h6=>?_) a5 (h5.pick [0,1,2,3,4,5,6,7,8,9])
    have q5:¬ kd=5 := by omega
    refine wp_cond_false ((h6.eval (k := 82) (v := .bool (decide (kd=5))) (by simp)).trans (by rw [decide_eq_false q5])) ?_
    refine wp_seq ?_
    refine tb_r20_wp (fun a7 h7=>?_) a6 (h6.pick [0,1,2,3,4,5,6,7,8,9])
    refine wp_cond_true ((h7.eval (k := 97) (v := .bool (decide (kd=6))) (by simp)).trans (by rw [decide_eq_true hk])) ?_
    refine tb_r21_wp hi (row_cell hL1 hc) (row_free hL1) (lt_heap hL1) (row_cell hgi1 hc1) (lt_heap hgi1) (row_cell hgx1 hc2) (lt_heap hgx1) (fun a9 w2 h9 hw2=>?_) a7 (h7.pick [0,1,2,3,4,5,6,7,8,9])
    have hv9:(b1 || b2)=(if kd=4 then !b1 else if kd=5 then b1 && b2 else if kd=6 then b1 || b2 else !b1 || b2) := by subst hk; rfl
    have hL2 := set_at (i := i) (v := .bool (b1 || b2)) hL1
    rw [← List.map_set,partL_set hT hi (by rw [hv9]; exact hTii),← hw2] at hL2
    have hk2:Keeps (fun k=>k=go) w w2 := by rw [hw2]; exact keeps_set hk1
    show Code.wp _ _ _ a9 w2
    refine tb_r24_wp (by omega) (fun a10 h10=>?_) a9 h9
    exact ⟨g - 1,by omega,i+1,by omega,hL2,hk2,h10⟩
  · refine wp_seq ?_
    refine tb_r16_wp (fun a5 h5=>?_) a4 (h4.pick [0,1,2,3,4,5,6,7,8,9])
    have q4:¬ kd=4 := by omega
    refine wp_cond_false ((h5.eval (k := 72) (v := .bool (decide (kd=4))) (by simp)).trans (by rw [decide_eq_false q4])) ?_
    refine wp_seq ?_
    refine tb_r18_wp (fun a6 h6=>?_) a5 (h5.pick [0,1,2,3,4,5,6,7,8,9])
    have q5:¬ kd=5 := by omega
    refine wp_cond_false ((h6.eval (k := 82) (v := .bool (decide (kd=5))) (by simp)).trans (by rw [decide_eq_false q5])) ?_
    refine wp_seq ?_
    refine tb_r20_wp (fun a7 h7=>?_) a6 (h6.pick [0,1,2,3,4,5,6,7,8,9])
    have q6:¬ kd=6 := by omega
    refine wp_cond_false ((h7.eval (k := 97) (v := .bool (decide (kd=6))) (by simp)).trans (by rw [decide_eq_false q6])) ?_
    refine wp_seq ?_
    refine tb_r22_wp (fun a8 h8=>?_) a7 (h7.pick [0,1,2,3,4,5,6,7,8,9])
    refine wp_cond_true ((h8.eval (k := 112) (v := .bool (decide (kd=7))) (by simp)).trans (by rw [decide_eq_true hk])) ?_
    refine tb_r23_wp hi (row_cell hL1 hc) (row_free hL1) (lt_heap hL1) (row_cell hgi1 hc1) (lt_heap hgi1) (row_cell hgx1 hc2) (lt_heap hgx1) (fun a9 w2 h9 hw2=>?_) a8 (h8.pick [0,1,2,3,4,5,6,7,8,9])
    have hv9:(!b1 || b2)=(if kd=4 then !b1 else if kd=5 then b1 && b2 else if kd=6 then b1 || b2 else !b1 || b2) := by subst hk; rfl
    have hL2 := set_at (i := i) (v := .bool (!b1 || b2)) hL1
    rw [← List.map_set,partL_set hT hi (by rw [hv9]; exact hTii),← hw2] at hL2
    have hk2:Keeps (fun k=>k=go) w w2 := by rw [hw2]; exact keeps_set hk1
    show Code.wp _ _ _ a9 w2
    refine tb_r24_wp (by omega) (fun a10 h10=>?_) a9 h9
    exact ⟨g - 1,by omega,i+1,by omega,hL2,hk2,h10⟩
end

end Go.Proofs.YthfokmjpbnfihaaDoor
