/- Lemmas. -/
import Derived.Test.YthfokmjpbnfihaaDoorWf
namespace Go.Proofs.YthfokmjpbnfihaaDoor
open Go Go.RowKit
set_option linter.unusedSimpArgs false
set_option linter.unusedVariables false
noncomputable section
set_option maxRecDepth 1000000
set_option maxHeartbeats 16000000
variable {s_1 s_2 s_3 s_4 s_7 s_9 s_5 s_103 s_104 s_116 s_117 s_118:Value} {Q:Exit→Act→World→Prop} {bn n m n1 c1 n2 c2 i b o n3 c3 n4 c4 fc fi gf:Nat} {wo w:World} {kd ke:Int} {nm s ne:ByteArray} {A B Ae Be:Option Addr} {nb:Bool}

def c_ck_r18 := sp 99 10239 cF63
theorem ck_r18_wp (hs:CS wo w bn kd nm A n1 c1 B n2 c2 n m) (hN:∀a' w',Frm 133 [(1,s_1),(2,s_2),(3,s_3),(4,s_4),(5,.pointer (some ⟨wo.heap.size,0,none⟩)),(7,s_7),(9,s_9),(12,.bool (namedF kd))] a'→CS wo w' bn kd nm A n1 c1 B n2 c2 n m→Q .normal a' w'):∀ac,Frm 133 [(1,s_1),(2,s_2),(3,s_3),(4,s_4),(5,.pointer (some ⟨wo.heap.size,0,none⟩)),(7,s_7),(9,s_9)] ac→Code.wp Tryd.prog c_ck_r18 Q ac w := by
  refine fO (frame_ck ?_)
  intros
  rename_i hq
  iterate 7 (obtain ⟨e,hq⟩ := hq; obtain rfl := sI e; clear e)
  clear hq
  conv=>arg 2; whnf
  have a0 := cellv hs.a 0 rfl
  have a1 := cellv hs.a 1 rfl
  have a2 := cellv hs.a 2 rfl
  have a3 := cellv hs.a 3 rfl
  have al := lt_heap hs.a
  have hq := quant_any kd nm A B n1 c1 n2 c2 w
  replace hs := Lib.hid hs
  replace hq := Lib.hid hq
  by_cases h2:kd=2
  · subst h2
    rw [show namedF 2=true from rfl] at hN
    replace hN := Lib.hid hN
    go_wp2_with fail
    exact hN.out _ _ (by exact fR rfl rfl rfl) hs.out
  have t2:(kd == 2)=false := beq_eq_false_iff_ne.2 h2
  by_cases hqu:isQu kd=true
  · rw [show namedF kd=true from by simp only [isQu,Bool.or_eq_true,decide_eq_true_eq] at hqu; simp only [namedF,Bool.or_eq_true,decide_eq_true_eq]; omega] at hN
    rw [hqu] at hq
    clear hqu h2
    replace hN := Lib.hid hN
    go_wp2_with fail
    (with_reducible refine hq.out.mono ?_)
    rintro e w1 ⟨rfl,hb1⟩
    have hs := hs.out.below hb1
    clear hb1 a0 a1 a2 a3 al
    have a0 := cellv hs.a 0 rfl
    have a1 := cellv hs.a 1 rfl
    have a2 := cellv hs.a 2 rfl
    have a3 := cellv hs.a 3 rfl
    have al := lt_heap hs.a
    replace hs := Lib.hid hs
    go_wp2_with fail
    exact hN.out _ _ (by exact fR rfl rfl rfl) hs.out
  replace hqu:isQu kd=false := by simpa using hqu
  rw [hqu] at hq
  by_cases h10:kd=10
  · subst h10
    rw [show namedF 10=true from rfl] at hN
    clear hqu h2
    replace hN := Lib.hid hN
    go_wp2_with fail
    (with_reducible refine hq.out.mono ?_)
    rintro e w1 ⟨rfl,hb1⟩
    have hs := hs.out.below hb1
    clear hb1 a0 a1 a2 a3 al
    have a0 := cellv hs.a 0 rfl
    have a1 := cellv hs.a 1 rfl
    have a2 := cellv hs.a 2 rfl
    have a3 := cellv hs.a 3 rfl
    have al := lt_heap hs.a
    replace hs := Lib.hid hs
    go_wp2_with fail
    exact hN.out _ _ (by exact fR rfl rfl rfl) hs.out
  have t10:(kd == 10)=false := beq_eq_false_iff_ne.2 h10
  rw [show namedF kd=false from by simp only [isQu,Bool.or_eq_false_iff,decide_eq_false_iff_not] at hqu; simp only [namedF,Bool.or_eq_false_iff,decide_eq_false_iff_not]; omega] at hN
  clear hqu h2 h10
  replace hN := Lib.hid hN
  go_wp2_with fail
  (with_reducible refine hq.out.mono ?_)
  rintro e w1 ⟨rfl,hb1⟩
  have hs := hs.out.below hb1
  clear hb1 a0 a1 a2 a3 al
  have a0 := cellv hs.a 0 rfl
  have a1 := cellv hs.a 1 rfl
  have a2 := cellv hs.a 2 rfl
  have a3 := cellv hs.a 3 rfl
  have al := lt_heap hs.a
  replace hs := Lib.hid hs
  go_wp2_with fail
  exact hN.out _ _ (by exact fR rfl rfl rfl) hs.out
def c_ck_r19 := sp 99 22527 cF63
theorem ck_r19_wp (hn:nm.size≤maxLen) (hs:CS wo w bn kd nm A n1 c1 B n2 c2 n m) (hN:∀a',Frm 133 [(1,s_1),(2,s_2),(3,s_3),(4,s_4),(5,.pointer (some ⟨wo.heap.size,0,none⟩)),(7,s_7),(9,s_9),(12,.bool nb),(90,.bool (nb && !okName nm))] a'→Q .normal a' w):∀ac,Frm 133 [(1,s_1),(2,s_2),(3,s_3),(4,s_4),(5,.pointer (some ⟨wo.heap.size,0,none⟩)),(7,s_7),(9,s_9),(12,.bool nb)] ac→Code.wp Tryd.prog c_ck_r19 Q ac w := by
  refine fO (frame_ck ?_)
  intros
  rename_i hq
  iterate 8 (obtain ⟨e,hq⟩ := hq; obtain rfl := sI e; clear e)
  clear hq
  conv=>arg 2; whnf
  have a0 := cellv hs.a 0 rfl
  have a1 := cellv hs.a 1 rfl
  have a2 := cellv hs.a 2 rfl
  have a3 := cellv hs.a 3 rfl
  have al := lt_heap hs.a
  have hnm := name_any nm w hn
  replace hs := Lib.hid hs
  replace hnm := Lib.hid hnm
  cases nb
  · rw [show (false && !okName nm)=false from rfl] at hN
    replace hN := Lib.hid hN
    go_wp2_with fail
    exact hN.out _ (by exact fR rfl rfl rfl)
  · rw [show (true && !okName nm)=!okName nm from by simp] at hN
    replace hN := Lib.hid hN
    go_wp2_with fail
    (with_reducible refine hnm.out.mono ?_)
    rintro e w1 ⟨rfl,rfl⟩
    go_wp2_with fail
    exact hN.out _ (by exact fR rfl rfl rfl)
def c_ck_r20 := sp 99 79871 cF63
theorem ck_r20_wp (hs:CS wo w bn kd nm A n1 c1 B n2 c2 n m) (hN:∀a' w',Frm 133 [(7,.pointer (some ⟨wo.heap.size+1,0,none⟩))] a'→CD wo w' bn m (.int .i64 10) (.int .i64 (n:Nat))→Q .normal a' w'):∀ac,Frm 133 [(1,s_1),(2,s_2),(3,s_3),(4,s_4),(5,s_5),(7,.pointer (some ⟨wo.heap.size+1,0,none⟩)),(9,(.func (Fn.func 64) #[] #[.pointer (some ⟨wo.heap.size+1+1,0,none⟩)]))] ac→Code.wp Tryd.prog c_ck_r20 Q ac w := by
  refine fO (frame_ck ?_)
  intros
  rename_i hq
  iterate 7 (obtain ⟨e,hq⟩ := hq; obtain rfl := sI e; clear e)
  clear hq
  conv=>arg 2; whnf
  have hb := badF_any (wo.heap.size+1+1) n 10 w hs.p
  have HN := Lib.hid hN
  have HB := Lib.hid hb
  clear hN hb
  replace hs := Lib.hid hs
  go_wp2_with fail
  (with_reducible refine HB.out.mono ?_)
  rintro e w1 ⟨rfl,hb1⟩
  have hs := hs.out.below hb1
  have rc0 := cellv hs.r 0 rfl
  have rc1 := cellv hs.r 1 rfl
  have rf0 := free_heap hs.r 0
  have rf1 := free_heap hs.r 1
  have rl := lt_heap hs.r
  replace hs := Lib.hid hs
  clear hb1
  go_wp2_with fail
  exact HN.out _ _ (id ⟨rfl,rfl,rfl,trivial⟩) (hs.out.put _ _)
def c_ck_r21 := sp 99 96255 cF63
theorem ck_r21_wp (hs:CS wo w bn kd nm A n1 c1 B n2 c2 n m) (hN:∀a',Frm 133 [(1,s_1),(2,s_2),(3,s_3),(4,s_4),(5,.pointer (some ⟨wo.heap.size,0,none⟩)),(7,s_7),(9,s_9),(99,.bool (!nb && decide (nm≠bNilF)))] a'→Q .normal a' w):∀ac,Frm 133 [(1,s_1),(2,s_2),(3,s_3),(4,s_4),(5,.pointer (some ⟨wo.heap.size,0,none⟩)),(7,s_7),(9,s_9),(12,.bool nb)] ac→Code.wp Tryd.prog c_ck_r21 Q ac w := by
  refine fO (frame_ck ?_)
  intros
  rename_i hq
  iterate 8 (obtain ⟨e,hq⟩ := hq; obtain rfl := sI e; clear e)
  clear hq
  conv=>arg 2; whnf
  have a0 := cellv hs.a 0 rfl
  have a1 := cellv hs.a 1 rfl
  have a2 := cellv hs.a 2 rfl
  have a3 := cellv hs.a 3 rfl
  have al := lt_heap hs.a
  replace hs := Lib.hid hs
  cases nb
  case true =>
    rw [show (!true && decide (nm≠bNilF))=false from rfl] at hN
    replace hN := Lib.hid hN
    go_wp2_with fail
    exact hN.out _ (by exact fR rfl rfl rfl)
  rw [show (!false && decide (nm≠bNilF))=decide (nm≠bNilF) from by simp] at hN
  by_cases hz:nm=bNilF
  · subst hz
    have t1:bNilF.toList.isEmpty=true := by simp [ByteArray.toList_eq,bNilF]
    rw [show decide (bNilF≠bNilF)=false from decide_eq_false (fun h=>h rfl)] at hN
    replace hN := Lib.hid hN
    go_wp2_with fail
    exact hN.out _ (by exact fR rfl rfl rfl)
  · have t1:nm.toList.isEmpty=false := by
      cases e:nm.toList.isEmpty
      · rfl
      · exact absurd (bytes_inj (by rw [List.isEmpty_iff.1 e]; simp [bNilF])) hz
    rw [show decide (nm≠bNilF)=true from decide_eq_true hz] at hN
    clear hz
    replace hN := Lib.hid hN
    go_wp2_with fail
    exact hN.out _ (by exact fR rfl rfl rfl)
def c_ck_r22 := sp 99 325631 cF63
theorem ck_r22_wp (hs:CS wo w bn kd nm A n1 c1 B n2 c2 n m) (hN:∀a' w',Frm 133 [(7,.pointer (some ⟨wo.heap.size+1,0,none⟩))] a'→CD wo w' bn m (.int .i64 5) (.int .i64 (n:Nat))→Q .normal a' w'):∀ac,Frm 133 [(1,s_1),(2,s_2),(3,s_3),(4,s_4),(5,s_5),(7,.pointer (some ⟨wo.heap.size+1,0,none⟩)),(9,(.func (Fn.func 64) #[] #[.pointer (some ⟨wo.heap.size+1+1,0,none⟩)]))] ac→Code.wp Tryd.prog c_ck_r22 Q ac w := by
  refine fO (frame_ck ?_)
  intros
  rename_i hq
  iterate 7 (obtain ⟨e,hq⟩ := hq; obtain rfl := sI e; clear e)
  clear hq
  conv=>arg 2; whnf
  have hb := badF_any (wo.heap.size+1+1) n 5 w hs.p
  have HN := Lib.hid hN
  have HB := Lib.hid hb
  clear hN hb
  replace hs := Lib.hid hs
  go_wp2_with fail
  (with_reducible refine HB.out.mono ?_)
  rintro e w1 ⟨rfl,hb1⟩
  have hs := hs.out.below hb1
  have rc0 := cellv hs.r 0 rfl
  have rc1 := cellv hs.r 1 rfl
  have rf0 := free_heap hs.r 0
  have rf1 := free_heap hs.r 1
  have rl := lt_heap hs.r
  replace hs := Lib.hid hs
  clear hb1
  go_wp2_with fail
  exact HN.out _ _ (id ⟨rfl,rfl,rfl,trivial⟩) (hs.out.put _ _)
def c_ck_r23 := sp 99 20479 cF63
theorem ck_r23_wp (hs:CS wo w bn kd nm A n1 c1 B n2 c2 n m) (hN:∀a',Frm 133 [(1,s_1),(2,s_2),(3,s_3),(4,s_4),(5,.pointer (some ⟨wo.heap.size,0,none⟩)),(7,s_7),(9,s_9),(103,.slice A n1 c1),(104,.int .i64 (n1:Nat)),(105,.int .i64 (0:Nat))] a'→Q .normal a' w):∀ac,Frm 133 [(1,s_1),(2,s_2),(3,s_3),(4,s_4),(5,.pointer (some ⟨wo.heap.size,0,none⟩)),(7,s_7),(9,s_9)] ac→Code.wp Tryd.prog c_ck_r23 Q ac w := by
  refine fO (frame_ck ?_)
  intros
  rename_i hq
  iterate 7 (obtain ⟨e,hq⟩ := hq; obtain rfl := sI e; clear e)
  clear hq
  conv=>arg 2; whnf
  have a0 := cellv hs.a 0 rfl
  have a1 := cellv hs.a 1 rfl
  have a2 := cellv hs.a 2 rfl
  have a3 := cellv hs.a 3 rfl
  have al := lt_heap hs.a
  replace hs := Lib.hid hs
  replace hN := Lib.hid hN
  go_wp2_with fail
  exact hN.out _ (by exact fR rfl rfl rfl)
def c_ck_r24 := sp 99 143359 cF63
theorem ck_r24_wp (hN:∀a',Frm 133 [(1,s_1),(2,s_2),(3,s_3),(4,s_4),(5,s_5),(7,s_7),(9,s_9),(103,s_103),(104,.int .i64 (n1:Nat)),(105,.int .i64 (i:Nat)),(106,.bool (decide (i<n1)))] a'→Q .normal a' w):∀ac,Frm 133 [(1,s_1),(2,s_2),(3,s_3),(4,s_4),(5,s_5),(7,s_7),(9,s_9),(103,s_103),(104,.int .i64 (n1:Nat)),(105,.int .i64 (i:Nat))] ac→Code.wp Tryd.prog c_ck_r24 Q ac w := by
  refine fO (frame_ck ?_)
  intros
  rename_i hq
  iterate 10 (obtain ⟨e,hq⟩ := hq; obtain rfl := sI e; clear e)
  clear hq
  conv=>arg 2; whnf
  by_cases h:i<n1
  · have t1:decide ((i:Int)<(n1:Int))=true := decide_eq_true (by omega)
    have t2:decide (i<n1)=true := decide_eq_true h
    rw [t2] at hN
    clear h
    replace hN := Lib.hid hN
    go_wp2_with fail
    exact hN.out _ (by exact fR rfl rfl rfl)
  · have t1:decide ((i:Int)<(n1:Int))=false := decide_eq_false (by omega)
    have t2:decide (i<n1)=false := decide_eq_false h
    rw [t2] at hN
    clear h
    replace hN := Lib.hid hN
    go_wp2_with fail
    exact hN.out _ (by exact fR rfl rfl rfl)
def c_ck_r25 := sp 99 2306047 cF63
theorem ck_r25_wp (hi:i<n1) (hc:w.cell? ⟨b,o+i,none⟩=some (.string s)) (hbl:b<w.heap.size) (hN:∀a',Frm 133 [(1,s_1),(2,s_2),(3,s_3),(4,s_4),(5,s_5),(7,s_7),(9,s_9),(103,.slice (some ⟨b,o,none⟩) n1 c1),(104,s_104),(105,.int .i64 (i:Nat)),(14,.string s)] a'→Q .normal a' w):∀ac,Frm 133 [(1,s_1),(2,s_2),(3,s_3),(4,s_4),(5,s_5),(7,s_7),(9,s_9),(103,.slice (some ⟨b,o,none⟩) n1 c1),(104,s_104),(105,.int .i64 (i:Nat))] ac→Code.wp Tryd.prog c_ck_r25 Q ac w := by
  refine fO (frame_ck ?_)
  intros
  rename_i hq
  iterate 10 (obtain ⟨e,hq⟩ := hq; obtain rfl := sI e; clear e)
  clear hq
  conv=>arg 2; whnf
  have q0:(0:Int)≤(i:Int) := by omega
  have q1:(i:Int)<(n1:Int) := by omega
  replace hN := Lib.hid hN
  go_wp2_with fail
  exact hN.out _ (by exact fR rfl rfl rfl)
def c_ck_r26 := sp 99 5451775 cF63
theorem ck_r26_wp {s_105:Value} (hsz:s.size≤maxLen) (hN:∀a',Frm 133 [(1,s_1),(2,s_2),(3,s_3),(4,s_4),(5,s_5),(7,s_7),(9,s_9),(103,s_103),(104,s_104),(105,s_105),(111,.bool (!okName s))] a'→Q .normal a' w):∀ac,Frm 133 [(1,s_1),(2,s_2),(3,s_3),(4,s_4),(5,s_5),(7,s_7),(9,s_9),(103,s_103),(104,s_104),(105,s_105),(14,.string s)] ac→Code.wp Tryd.prog c_ck_r26 Q ac w := by
  refine fO (frame_ck ?_)
  intros
  rename_i hq
  iterate 11 (obtain ⟨e,hq⟩ := hq; obtain rfl := sI e; clear e)
  clear hq
  conv=>arg 2; whnf
  have hnm := name_any s w hsz
  have HN := Lib.hid hN
  have HNM := Lib.hid hnm
  clear hN hnm
  go_wp2_with fail
  (with_reducible refine HNM.out.mono ?_)
  rintro e w1 ⟨rfl,rfl⟩
  go_wp2_with fail
  exact HN.out _ (by exact fR rfl rfl rfl)
def c_ck_r27 := sp 99 20131839 cF63
theorem ck_r27_wp (hs:CS wo w bn kd nm A n1 c1 B n2 c2 n m) (hN:∀a' w',Frm 133 [(7,.pointer (some ⟨wo.heap.size+1,0,none⟩))] a'→CD wo w' bn m (.int .i64 10) (.int .i64 (n:Nat))→Q .normal a' w'):∀ac,Frm 133 [(1,s_1),(2,s_2),(3,s_3),(4,s_4),(5,s_5),(7,.pointer (some ⟨wo.heap.size+1,0,none⟩)),(9,(.func (Fn.func 64) #[] #[.pointer (some ⟨wo.heap.size+1+1,0,none⟩)]))] ac→Code.wp Tryd.prog c_ck_r27 Q ac w := by
  refine fO (frame_ck ?_)
  intros
  rename_i hq
  iterate 7 (obtain ⟨e,hq⟩ := hq; obtain rfl := sI e; clear e)
  clear hq
  conv=>arg 2; whnf
  have hb := badF_any (wo.heap.size+1+1) n 10 w hs.p
  have HN := Lib.hid hN
  have HB := Lib.hid hb
  clear hN hb
  replace hs := Lib.hid hs
  go_wp2_with fail
  (with_reducible refine HB.out.mono ?_)
  rintro e w1 ⟨rfl,hb1⟩
  have hs := hs.out.below hb1
  have rc0 := cellv hs.r 0 rfl
  have rc1 := cellv hs.r 1 rfl
  have rf0 := free_heap hs.r 0
  have rf1 := free_heap hs.r 1
  have rl := lt_heap hs.r
  replace hs := Lib.hid hs
  clear hb1
  go_wp2_with fail
  exact HN.out _ _ (id ⟨rfl,rfl,rfl,trivial⟩) (hs.out.put _ _)
def c_ck_r28 := sp 99 995327 cF63
theorem ck_r28_wp (hi:i<n1) (hlim:n1≤maxLen) (hN:∀a',Frm 133 [(1,s_1),(2,s_2),(3,s_3),(4,s_4),(5,s_5),(7,s_7),(9,s_9),(103,s_103),(104,s_104),(105,.int .i64 (i+1:Nat))] a'→Q .normal a' w):∀ac,Frm 133 [(1,s_1),(2,s_2),(3,s_3),(4,s_4),(5,s_5),(7,s_7),(9,s_9),(103,s_103),(104,s_104),(105,.int .i64 (i:Nat))] ac→Code.wp Tryd.prog c_ck_r28 Q ac w := by
  refine fO (frame_ck ?_)
  intros
  rename_i hq
  iterate 10 (obtain ⟨e,hq⟩ := hq; obtain rfl := sI e; clear e)
  clear hq
  conv=>arg 2; whnf
  have hi4:(i:Int)≤9223372036854775806 := by unfold maxLen at hlim; omega
  replace hN := Lib.hid hN
  go_wp2_with fail
  exact hN.out _ (by exact fR rfl rfl rfl)
def c_ck_r29 := sp 99 40959 cF63
theorem ck_r29_wp (hs:CS wo w bn kd nm A n1 c1 B n2 c2 n m) (hN:∀a',Frm 133 [(1,s_1),(2,s_2),(3,s_3),(4,s_4),(5,.pointer (some ⟨wo.heap.size,0,none⟩)),(7,s_7),(9,s_9),(116,.slice B n2 c2),(117,.int .i64 (n2:Nat)),(118,.int .i64 (0:Nat))] a'→Q .normal a' w):∀ac,Frm 133 [(1,s_1),(2,s_2),(3,s_3),(4,s_4),(5,.pointer (some ⟨wo.heap.size,0,none⟩)),(7,s_7),(9,s_9)] ac→Code.wp Tryd.prog c_ck_r29 Q ac w := by
  refine fO (frame_ck ?_)
  intros
  rename_i hq
  iterate 7 (obtain ⟨e,hq⟩ := hq; obtain rfl := sI e; clear e)
  clear hq
  conv=>arg 2; whnf
  have a0 := cellv hs.a 0 rfl
  have a1 := cellv hs.a 1 rfl
  have a2 := cellv hs.a 2 rfl
  have a3 := cellv hs.a 3 rfl
  have al := lt_heap hs.a
  replace hs := Lib.hid hs
  replace hN := Lib.hid hN
  go_wp2_with fail
  exact hN.out _ (by exact fR rfl rfl rfl)
def c_ck_r30 := sp 99 286719 cF63
theorem ck_r30_wp (hN:∀a',Frm 133 [(1,s_1),(2,s_2),(3,s_3),(4,s_4),(5,s_5),(7,s_7),(9,s_9),(116,s_116),(117,.int .i64 (n2:Nat)),(118,.int .i64 (i:Nat)),(119,.bool (decide (i<n2)))] a'→Q .normal a' w):∀ac,Frm 133 [(1,s_1),(2,s_2),(3,s_3),(4,s_4),(5,s_5),(7,s_7),(9,s_9),(116,s_116),(117,.int .i64 (n2:Nat)),(118,.int .i64 (i:Nat))] ac→Code.wp Tryd.prog c_ck_r30 Q ac w := by
  refine fO (frame_ck ?_)
  intros
  rename_i hq
  iterate 10 (obtain ⟨e,hq⟩ := hq; obtain rfl := sI e; clear e)
  clear hq
  conv=>arg 2; whnf
  by_cases h:i<n2
  · have t1:decide ((i:Int)<(n2:Int))=true := decide_eq_true (by omega)
    have t2:decide (i<n2)=true := decide_eq_true h
    rw [t2] at hN
    clear h
    replace hN := Lib.hid hN
    go_wp2_with fail
    exact hN.out _ (by exact fR rfl rfl rfl)
  · have t1:decide ((i:Int)<(n2:Int))=false := decide_eq_false (by omega)
    have t2:decide (i<n2)=false := decide_eq_false h
    rw [t2] at hN
    clear h
    replace hN := Lib.hid hN
    go_wp2_with fail
    exact hN.out _ (by exact fR rfl rfl rfl)
def c_ck_r31 := sp 99 4612095 cF63
theorem ck_r31_wp (hi:i<n2) (h0:w.cell? ⟨b,o+i * 4,none⟩=some (.int .i64 ke)) (h1:w.cell? ⟨b,o+i * 4+1,none⟩=some (.string ne)) (h2:w.cell? ⟨b,o+i * 4+2,none⟩=some (.slice Ae n3 c3)) (h3:w.cell? ⟨b,o+i * 4+3,none⟩=some (.slice Be n4 c4)) (hbl:b<w.heap.size) (hN:∀a',Frm 133 [(1,s_1),(2,s_2),(3,s_3),(4,s_4),(5,s_5),(7,s_7),(9,s_9),(116,.slice (some ⟨b,o,none⟩) n2 c2),(117,s_117),(118,.int .i64 (i:Nat)),(16,.pointer (some ⟨w.heap.size,0,none⟩))] a'→Q .normal a' (w.alloc (.cells #[.int .i64 ke,.string ne,.slice Ae n3 c3,.slice Be n4 c4] 29))):∀ac,Frm 133 [(1,s_1),(2,s_2),(3,s_3),(4,s_4),(5,s_5),(7,s_7),(9,s_9),(116,.slice (some ⟨b,o,none⟩) n2 c2),(117,s_117),(118,.int .i64 (i:Nat))] ac→Code.wp Tryd.prog c_ck_r31 Q ac w := by
  refine fO (frame_ck ?_)
  intros
  rename_i hq
  iterate 10 (obtain ⟨e,hq⟩ := hq; obtain rfl := sI e; clear e)
  clear hq
  conv=>arg 2; whnf
  have q0:(0:Int)≤(i:Int) := by omega
  have q1:(i:Int)<(n2:Int) := by omega
  replace hN := Lib.hid hN
  go_wp2_with fail
  exact hN.out _ (by exact fR rfl rfl rfl)
def c_ck_r32 := sp 99 10903551 cF63
theorem ck_r32_wp {ge m2:Nat} {bo bw d:Nat} (hs:CS wo w bn kd nm A n1 c1 B n2 c2 n m) (hd:d≤50) (hf:w.heap[bw]?=some (.cells #[.func (Fn.func 63) #[] #[.pointer (some ⟨bn,0,none⟩),.pointer (some ⟨bo,0,none⟩),.pointer (some ⟨bw,0,none⟩)]] 104 (0,0))) (hge:w.heap[ge]?=some (.cells #[.int .i64 ke,.string ne,.slice Ae n3 c3,.slice Be n4 c4] 29 (0,0))) (hcall:Calls Tryd.prog 63 #[.agg #[.int .i64 ke,.string ne,.slice Ae n3 c3,.slice Be n4 c4],.int .i64 ((d:Int)+1),.pointer (some ⟨bn,0,none⟩),.pointer (some ⟨bo,0,none⟩),.pointer (some ⟨bw,0,none⟩)] w fun e w'=>e=.returned (.agg #[.int .i64 (fc:Nat),.int .i64 (fi:Nat)])∧w'.heap[bn]?=some (.cells #[.int .i64 (m2:Nat)] 3 (0,0))∧Keeps (·=bn) w w') (hN:∀gf a' w',Frm 133 [(1,.int .i64 (d:Nat)),(2,s_2),(3,s_3),(4,.pointer (some ⟨bw,0,none⟩)),(5,s_5),(7,s_7),(9,s_9),(116,s_116),(117,s_117),(118,s_118),(17,.pointer (some ⟨gf,0,none⟩))] a'→CS wo w' bn kd nm A n1 c1 B n2 c2 n m2→w'.heap[gf]?=some (.cells #[.int .i64 (fc:Nat),.int .i64 (fi:Nat)] 32 (0,0))→Q .normal a' w'):∀ac,Frm 133 [(1,.int .i64 (d:Nat)),(2,s_2),(3,s_3),(4,.pointer (some ⟨bw,0,none⟩)),(5,s_5),(7,s_7),(9,s_9),(116,s_116),(117,s_117),(118,s_118),(16,.pointer (some ⟨ge,0,none⟩))] ac→Code.wp Tryd.prog c_ck_r32 Q ac w := by
  refine fO (frame_ck ?_)
  intros
  rename_i hq
  iterate 11 (obtain ⟨e,hq⟩ := hq; obtain rfl := sI e; clear e)
  clear hq
  conv=>arg 2; whnf
  have f0 := cellv hf 0 rfl
  have fl := lt_heap hf
  have e0 := cellv hge 0 rfl
  have e1 := cellv hge 1 rfl
  have e2 := cellv hge 2 rfl
  have e3 := cellv hge 3 rfl
  have el := lt_heap hge
  have hd4:(d:Int)≤5000 := by omega
  clear hf hge
  have HN := Lib.hid hN
  have HCALL := Lib.hid hcall
  clear hN hcall
  replace hs := Lib.hid hs
  go_wp2_with fail
  (with_reducible refine HCALL.out.mono ?_)
  rintro e w1 ⟨rfl,hc1,hk1⟩
  have HC1 := Lib.hid hc1
  have HK1 := Lib.hid hk1
  clear hc1 hk1
  go_wp2_with fail
  exact HN.out w1.heap.size _ _ (by exact fR rfl rfl rfl) ((hs.out.keeps HK1.out HC1.out).below ((Below.refl _ _).alloc (Nat.le_refl _) _)) (heap_at rfl)
def c_ck_r33 := sp 99 23486463 cF63
theorem ck_r33_wp (hgf:w.heap[gf]?=some (.cells #[.int .i64 (fc:Nat),.int .i64 (fi:Nat)] 32 (0,0))) (hN:∀a',Frm 133 [(1,s_1),(2,s_2),(3,s_3),(4,s_4),(5,s_5),(7,s_7),(9,s_9),(116,s_116),(117,s_117),(118,s_118),(17,.pointer (some ⟨gf,0,none⟩)),(129,.bool (decide (fc≠0)))] a'→Q .normal a' w):∀ac,Frm 133 [(1,s_1),(2,s_2),(3,s_3),(4,s_4),(5,s_5),(7,s_7),(9,s_9),(116,s_116),(117,s_117),(118,s_118),(17,.pointer (some ⟨gf,0,none⟩))] ac→Code.wp Tryd.prog c_ck_r33 Q ac w := by
  refine fO (frame_ck ?_)
  intros
  rename_i hq
  iterate 11 (obtain ⟨e,hq⟩ := hq; obtain rfl := sI e; clear e)
  clear hq
  conv=>arg 2; whnf
  have g0 := cellv hgf 0 rfl
  have g1 := cellv hgf 1 rfl
  have gl := lt_heap hgf
  clear hgf
  by_cases h:fc=0
  · have t1:((fc:Int) != 0)=false := by rw [bne_eq_false_iff_eq]; omega
    rw [show decide (fc≠0)=false from decide_eq_false (fun h2=>h2 h)] at hN
    clear h
    replace hN := Lib.hid hN
    go_wp2_with fail
    exact hN.out _ (by exact fR rfl rfl rfl)
  · have t1:((fc:Int) != 0)=true := by rw [bne_iff_ne]; omega
    rw [show decide (fc≠0)=true from decide_eq_true h] at hN
    clear h
    replace hN := Lib.hid hN
    go_wp2_with fail
    exact hN.out _ (by exact fR rfl rfl rfl)
def c_ck_r34 := sp 99 82206719 cF63
theorem ck_r34_wp (hs:CS wo w bn kd nm A n1 c1 B n2 c2 n m) (hgf:w.heap[gf]?=some (.cells #[.int .i64 (fc:Nat),.int .i64 (fi:Nat)] 32 (0,0))) (hN:∀a' w',Frm 133 [(7,.pointer (some ⟨wo.heap.size+1,0,none⟩))] a'→CD wo w' bn m (.int .i64 (fc:Nat)) (.int .i64 (fi:Nat))→Q .normal a' w'):∀ac,Frm 133 [(7,.pointer (some ⟨wo.heap.size+1,0,none⟩)),(17,.pointer (some ⟨gf,0,none⟩))] ac→Code.wp Tryd.prog c_ck_r34 Q ac w := by
  refine fO (frame_ck ?_)
  intros
  rename_i hq
  iterate 2 (obtain ⟨e,hq⟩ := hq; obtain rfl := sI e; clear e)
  clear hq
  conv=>arg 2; whnf
  have g0 := cellv hgf 0 rfl
  have g1 := cellv hgf 1 rfl
  have gl := lt_heap hgf
  clear hgf
  have rc0 := cellv hs.r 0 rfl
  have rc1 := cellv hs.r 1 rfl
  have rf0 := free_heap hs.r 0
  have rf1 := free_heap hs.r 1
  have rl := lt_heap hs.r
  replace hs := Lib.hid hs
  replace hN := Lib.hid hN
  go_wp2_with fail
  exact hN.out _ _ (id ⟨rfl,rfl,rfl,trivial⟩) (hs.out.put _ _)
def c_ck_r35 := sp 99 1990655 cF63
theorem ck_r35_wp (hi:i<n2) (hlim:n2≤maxLen) (hN:∀a',Frm 133 [(1,s_1),(2,s_2),(3,s_3),(4,s_4),(5,s_5),(7,s_7),(9,s_9),(116,s_116),(117,s_117),(118,.int .i64 (i+1:Nat))] a'→Q .normal a' w):∀ac,Frm 133 [(1,s_1),(2,s_2),(3,s_3),(4,s_4),(5,s_5),(7,s_7),(9,s_9),(116,s_116),(117,s_117),(118,.int .i64 (i:Nat))] ac→Code.wp Tryd.prog c_ck_r35 Q ac w := by
  refine fO (frame_ck ?_)
  intros
  rename_i hq
  iterate 10 (obtain ⟨e,hq⟩ := hq; obtain rfl := sI e; clear e)
  clear hq
  conv=>arg 2; whnf
  have hi4:(i:Int)≤9223372036854775806 := by unfold maxLen at hlim; omega
  replace hN := Lib.hid hN
  go_wp2_with fail
  exact hN.out _ (by exact fR rfl rfl rfl)
def c_ck_r36 := sp 99 49151 cF63
theorem ck_r36_wp (hs:CS wo w bn kd nm A n1 c1 B n2 c2 n m) (hN:∀a' w',Frm 133 [(7,.pointer (some ⟨wo.heap.size+1,0,none⟩))] a'→CD wo w' bn m (.int .i64 0) (.int .i64 0)→Q .normal a' w'):∀ac,Frm 133 [(1,s_1),(2,s_2),(3,s_3),(4,s_4),(5,s_5),(7,.pointer (some ⟨wo.heap.size+1,0,none⟩)),(9,s_9)] ac→Code.wp Tryd.prog c_ck_r36 Q ac w := by
  refine fO (frame_ck ?_)
  intros
  rename_i hq
  iterate 7 (obtain ⟨e,hq⟩ := hq; obtain rfl := sI e; clear e)
  clear hq
  conv=>arg 2; whnf
  have rc0 := cellv hs.r 0 rfl
  have rc1 := cellv hs.r 1 rfl
  have rf0 := free_heap hs.r 0
  have rf1 := free_heap hs.r 1
  have rl := lt_heap hs.r
  replace hs := Lib.hid hs
  replace hN := Lib.hid hN
  go_wp2_with fail
  exact hN.out _ _ (id ⟨rfl,rfl,rfl,trivial⟩) (hs.out.put _ _)
theorem ck_ret_wp {R:Ending→World→Prop} {w':World} {g:Nat} {f0 f1:Int} (hg:w'.heap[g]?=some (.cells #[.int .i64 f0,.int .i64 f1] 32 (0,0))) (hR:R (.returned (.agg #[.int .i64 f0,.int .i64 f1])) w'):∀ac,Frm 133 [(7,.pointer (some ⟨g,0,none⟩))] ac→bodyPost Tryd.prog Tryd.f63 R .ret ac w' := by
  refine fO (frame_ck ?_)
  intros
  rename_i hq
  iterate 1 (obtain ⟨e,hq⟩ := hq; obtain rfl := sI e; clear e)
  clear hq
  have z0 := cellv hg 0 rfl
  have z1 := cellv hg 1 rfl
  have zl := lt_heap hg
  refine bodyPost_ret (v := .agg #[.int .i64 f0,.int .i64 f1]) (by simp [results,Tryd.results63,go_sem,z0,z1,zl]) rfl ?_
  exact hR
end
noncomputable section
set_option maxRecDepth 100000
set_option maxHeartbeats 4000000
variable {Q:Exit→Act→World→Prop} {S:Nat→Prop} {bn bo bw d n m n1 c1 n2 c2:Nat} {wo w:World} {kd:Int} {nm:ByteArray} {A B:Option Addr}

def c_ck_wl := sp 99 45055 cF63
theorem ck_wl_wp {ws:List ByteArray} (hs:CS wo w bn kd nm A n1 c1 B n2 c2 n m) (hS:∀b,S b→b<w.heap.size) (hw:strRep.Sl w S (.slice A n1 c1) ws)
    (hX:ws.all okName=true→∀a',Frm 133 [(1,.int .i64 (d:Nat)),(2,.pointer (some ⟨bn,0,none⟩)),(3,.pointer (some ⟨bo,0,none⟩)),(4,.pointer (some ⟨bw,0,none⟩)),(5,.pointer (some ⟨wo.heap.size,0,none⟩)),(7,.pointer (some ⟨wo.heap.size+1,0,none⟩)),(9,(.func (Fn.func 64) #[] #[.pointer (some ⟨wo.heap.size+1+1,0,none⟩)]))] a'→Q (.exit 0) a' w) (hR:ws.all okName=false→∀a' w',Frm 133 [(7,.pointer (some ⟨wo.heap.size+1,0,none⟩))] a'→CD wo w' bn m (.int .i64 10) (.int .i64 (n:Nat))→Q .ret a' w'):∀ac,Frm 133 [(1,.int .i64 (d:Nat)),(2,.pointer (some ⟨bn,0,none⟩)),(3,.pointer (some ⟨bo,0,none⟩)),(4,.pointer (some ⟨bw,0,none⟩)),(5,.pointer (some ⟨wo.heap.size,0,none⟩)),(7,.pointer (some ⟨wo.heap.size+1,0,none⟩)),(9,(.func (Fn.func 64) #[] #[.pointer (some ⟨wo.heap.size+1+1,0,none⟩)])),(103,.slice A n1 c1),(104,.int .i64 (n1:Nat)),(105,.int .i64 (0:Nat))] ac→Code.wp Tryd.prog c_ck_wl Q ac w := by
  intro a0 hf0
  conv=>arg 2; whnf
  obtain ⟨A',n',c',e,hlen,hmax,_⟩ := id hw
  injection e with e1 e2 e3
  subst e1 e2 e3
  refine wp_loopR (fun g a' w'=>∃j:Nat,j+g=ws.length∧(ws.take j).all okName=true∧w'=w∧Frm 133 [(1,.int .i64 (d:Nat)),(2,.pointer (some ⟨bn,0,none⟩)),(3,.pointer (some ⟨bo,0,none⟩)),(4,.pointer (some ⟨bw,0,none⟩)),(5,.pointer (some ⟨wo.heap.size,0,none⟩)),(7,.pointer (some ⟨wo.heap.size+1,0,none⟩)),(9,(.func (Fn.func 64) #[] #[.pointer (some ⟨wo.heap.size+1+1,0,none⟩)])),(103,.slice A n1 c1),(104,.int .i64 (n1:Nat)),(105,.int .i64 (j:Nat))] a') ws.length ⟨0,by omega,rfl,rfl,hf0⟩ ?_
  rintro g a1 w1 ⟨j,hjg,hall,rfl,h1⟩
  refine wp_seq ?_
  refine ck_r24_wp (fun a2 h2=>?_) a1 h1
  refine wp_seq ?_
  by_cases hj:j<n1
  case neg =>
    refine wp_cond_false ((h2.eval (k := 106) (v := .bool (decide (j<n1))) (by simp)).trans (by rw [decide_eq_false hj])) ?_
    refine wp_exit (hX ?_ a2 (h2.pick [0,1,2,3,4,5,6]))
    rwa [List.take_of_length_le (by omega)] at hall
  refine wp_cond_true ((h2.eval (k := 106) (v := .bool (decide (j<n1))) (by simp)).trans (by rw [decide_eq_true hj])) ?_
  refine wp_skip ?_
  show Code.wp _ _ _ a2 w1
  obtain ⟨b,o,cs,rfl,hSb,⟨rfl,hsz⟩,hc⟩ := Rep.Sl.at_ hw (List.getElem?_eq_getElem (by omega:j<ws.length))
  have hc0:w1.cell? ⟨b,o+j,none⟩=some (.string ws[j]) := by simpa [strRep] using hc 0 _ rfl
  refine wp_seq ?_
  refine wp_block ?_
  refine wp_seq ?_
  refine ck_r25_wp hj hc0 (hS b hSb) (fun a3 h3=>?_) a2 (h2.pick [0,1,2,3,4,5,6,7,8,9])
  refine wp_seq ?_
  refine ck_r26_wp hsz (fun a4 h4=>?_) a3 h3
  have htk:(ws.take (j+1)).all okName=okName ws[j] := by
    rw [List.take_succ_eq_append_getElem (by omega),List.all_append,hall]
    simp
  cases hok:okName ws[j]
  · rw [hok] at h4
    refine wp_cond_true ((h4.eval (k := 111) (v := .bool (!false)) (by simp)).trans (by rw [show (!false)=true from rfl])) ?_
    refine wp_seq ?_
    refine ck_r27_wp hs (fun a5 w5 h5 hd5=>?_) a4 (h4.pick [0,1,2,3,4,5,6])
    refine wp_ret ?_
    refine hR ?_ a5 w5 h5 hd5
    rw [hok] at htk
    rw [Bool.eq_false_iff]
    intro hx
    rw [List.all_eq_true] at hx
    have:(ws.take (j+1)).all okName=true := List.all_eq_true.2 (fun y hy=>hx y (List.mem_of_mem_take hy))
    rw [this] at htk
    cases htk
  · rw [hok] at h4
    refine wp_cond_false ((h4.eval (k := 111) (v := .bool (!true)) (by simp)).trans (by rw [show (!true)=false from rfl])) ?_
    refine wp_skip ?_
    show Code.wp _ _ _ a4 w1
    refine ck_r28_wp hj (by omega) (fun a5 h5=>?_) a4 (h4.pick [0,1,2,3,4,5,6,7,8,9])
    exact ⟨g - 1,by omega,j+1,by omega,by rw [htk,hok],rfl,h5⟩
def c_ck_sl := sp 99 90111 cF63
theorem ck_sl_wp {hole:Bool} {l:List Fm} (hd:d≤50) (hm:m≤200) (hs:CS wo w bn kd nm A n1 c1 B n2 c2 n m) (hS:∀b,S b→b<wo.heap.size∧b≠bn) (hl:fmRep.Sl wo S (.slice B n2 c2) l) (ho:wo.heap[bo]?=some (.cells #[.bool hole] 4 (0,0))) (hf:wo.heap[bw]?=some (.cells #[.func (Fn.func 63) #[] #[.pointer (some ⟨bn,0,none⟩),.pointer (some ⟨bo,0,none⟩),.pointer (some ⟨bw,0,none⟩)]] 104 (0,0))) (hne:bn≠bw) (hno:bn≠bo) (ih:∀(t:Fm) (cs:List Value) (W:World) (n:Nat),t∈l→fmRep.R W S t cs→(∀b,S b→b<W.heap.size∧b≠bn)→W.heap[bn]?=some (.cells #[.int .i64 n] 3 (0,0))→W.heap[bo]?=some (.cells #[.bool hole] 4 (0,0))→W.heap[bw]?=some (.cells #[.func (Fn.func 63) #[] #[.pointer (some ⟨bn,0,none⟩),.pointer (some ⟨bo,0,none⟩),.pointer (some ⟨bw,0,none⟩)]] 104 (0,0))→n≤200→Calls Tryd.prog 63 #[.agg cs.toArray,.int .i64 ((d:Int)+1),.pointer (some ⟨bn,0,none⟩),.pointer (some ⟨bo,0,none⟩),.pointer (some ⟨bw,0,none⟩)] W fun e w'=>e=.returned (.agg #[.int .i64 ((fmVal hole t (d+1) n).1:Nat),.int .i64 ((fmVal hole t (d+1) n).2.1:Nat)])∧w'.heap[bn]?=some (.cells #[.int .i64 ((fmVal hole t (d+1) n).2.2:Nat)] 3 (0,0))∧Keeps (·=bn) W w') 
    (hX:∀m' a' w',fmVals hole l (d+1) m=(0,0,m')→Frm 133 [(1,.int .i64 (d:Nat)),(2,.pointer (some ⟨bn,0,none⟩)),(3,.pointer (some ⟨bo,0,none⟩)),(4,.pointer (some ⟨bw,0,none⟩)),(5,.pointer (some ⟨wo.heap.size,0,none⟩)),(7,.pointer (some ⟨wo.heap.size+1,0,none⟩)),(9,(.func (Fn.func 64) #[] #[.pointer (some ⟨wo.heap.size+1+1,0,none⟩)]))] a'→CS wo w' bn kd nm A n1 c1 B n2 c2 n m'→Q (.exit 2) a' w') (hR:∀c at_ m',c≠0→fmVals hole l (d+1) m=(c,at_,m')→∀a' w',Frm 133 [(7,.pointer (some ⟨wo.heap.size+1,0,none⟩))] a'→CD wo w' bn m' (.int .i64 (c:Nat)) (.int .i64 (at_:Nat))→Q .ret a' w'):∀ac,Frm 133 [(1,.int .i64 (d:Nat)),(2,.pointer (some ⟨bn,0,none⟩)),(3,.pointer (some ⟨bo,0,none⟩)),(4,.pointer (some ⟨bw,0,none⟩)),(5,.pointer (some ⟨wo.heap.size,0,none⟩)),(7,.pointer (some ⟨wo.heap.size+1,0,none⟩)),(9,(.func (Fn.func 64) #[] #[.pointer (some ⟨wo.heap.size+1+1,0,none⟩)])),(116,.slice B n2 c2),(117,.int .i64 (n2:Nat)),(118,.int .i64 (0:Nat))] ac→Code.wp Tryd.prog c_ck_sl Q ac w := by
  intro a0 hf0
  conv=>arg 2; whnf
  obtain ⟨B',n',c',e,hlen,hmax,_⟩ := id hl
  injection e with e1 e2 e3
  subst e1 e2 e3
  refine wp_loopR (fun g a' w'=>∃j m':Nat,j+g=l.length∧fmVals hole (l.take j) (d+1) m=(0,0,m')∧CS wo w' bn kd nm A n1 c1 B n2 c2 n m'∧Frm 133 [(1,.int .i64 (d:Nat)),(2,.pointer (some ⟨bn,0,none⟩)),(3,.pointer (some ⟨bo,0,none⟩)),(4,.pointer (some ⟨bw,0,none⟩)),(5,.pointer (some ⟨wo.heap.size,0,none⟩)),(7,.pointer (some ⟨wo.heap.size+1,0,none⟩)),(9,(.func (Fn.func 64) #[] #[.pointer (some ⟨wo.heap.size+1+1,0,none⟩)])),(116,.slice B n2 c2),(117,.int .i64 (n2:Nat)),(118,.int .i64 (j:Nat))] a') l.length ⟨0,m,by omega,by simp [fmVals],hs,hf0⟩ ?_
  rintro g a1 w1 ⟨j,m1,hjg,hv,hs1,h1⟩
  have hm1:m1≤200 := by have := ((fmVals_le hole (l.take j) (d+1) m hm).2 (by rw [hv])).1; rw [hv] at this; exact this
  refine wp_seq ?_
  refine ck_r30_wp (fun a2 h2=>?_) a1 h1
  refine wp_seq ?_
  by_cases hj:j<n2
  case neg =>
    refine wp_cond_false ((h2.eval (k := 119) (v := .bool (decide (j<n2))) (by simp)).trans (by rw [decide_eq_false hj])) ?_
    refine wp_exit (hX m1 a2 w1 ?_ (h2.pick [0,1,2,3,4,5,6]) hs1)
    rwa [List.take_of_length_le (by omega)] at hv
  refine wp_cond_true ((h2.eval (k := 119) (v := .bool (decide (j<n2))) (by simp)).trans (by rw [decide_eq_true hj])) ?_
  refine wp_skip ?_
  show Code.wp _ _ _ a2 w1
  have hjl:j<l.length := by omega
  obtain ⟨b,o,cs,rfl,hSb,hr,hc⟩ := Rep.Sl.at_ hl (List.getElem?_eq_getElem hjl)
  obtain ⟨Ae,n3,c3,Be,n4,c4,rfl,_,_,_,_⟩ := Fm.shape hr
  have hold := hs1.old hS
  have hlo:∀b,S b→b<w1.heap.size := fun b hb=>by have := (hS b hb).1; have := hs1.k.size; omega
  have hk1 := hold b hSb
  have e0:w1.cell? ⟨b,o+j * 4,none⟩=_ := (cell_keep hk1 _).trans (hc 0 _ rfl)
  have e1:w1.cell? ⟨b,o+j * 4+1,none⟩=_ := (cell_keep hk1 _).trans (hc 1 _ rfl)
  have e2:w1.cell? ⟨b,o+j * 4+2,none⟩=_ := (cell_keep hk1 _).trans (hc 2 _ rfl)
  have e3:w1.cell? ⟨b,o+j * 4+3,none⟩=_ := (cell_keep hk1 _).trans (hc 3 _ rfl)
  refine wp_seq ?_
  refine wp_block ?_
  refine wp_seq ?_
  refine ck_r31_wp hj e0 e1 e2 e3 (hlo b hSb) (fun a3 h3=>?_) a2 (h2.pick [0,1,2,3,4,5,6,7,8,9])
  have hs3 := hs1.below ((Below.refl _ w1).alloc (Nat.le_refl _) (.cells #[.int .i64 l[j].lab.kind,.string l[j].lab.nm,.slice Ae n3 c3,.slice Be n4 c4] 29))
  have hge := heap_alloc_new w1 (.cells #[.int .i64 l[j].lab.kind,.string l[j].lab.nm,.slice Ae n3 c3,.slice Be n4 c4] 29)
  have hlw := lt_heap hf
  have hlo2 := lt_heap ho
  have hf3 := (hs3.k.block bw hlw (fun e=>hne e.symm)).trans hf
  have ho3 := (hs3.k.block bo hlo2 (fun e=>hno e.symm)).trans ho
  have hcall := ih l[j] _ _ m1 (List.getElem_mem hjl) (fmRep.keep hr (fun b hb=>hs3.old hS b hb) (fun _ h=>h)) (fun b hb=>⟨by have := hlo b hb; simp; omega,(hS b hb).2⟩) hs3.c ho3 hf3 hm1
  refine wp_seq ?_
  refine ck_r32_wp hs3 hd hf3 hge hcall (fun gf a4 w4 h4 hs4 hgf=>?_) a3 h3
  have htk := fmVals_take hole l j hjl (d+1) m (by rw [hv])
  rw [hv] at htk
  simp only at htk
  rw [fmVals_one _ _ _ _ hm1] at htk
  refine wp_seq ?_
  refine ck_r33_wp hgf (fun a5 h5=>?_) a4 h4
  by_cases hcz:(fmVal hole l[j] (d+1) m1).1≠0
  · refine wp_cond_true ((h5.eval (k := 129) (v := .bool (decide ((fmVal hole l[j] (d+1) m1).1≠0))) (by simp)).trans (by rw [decide_eq_true hcz])) ?_
    refine wp_seq ?_
    refine ck_r34_wp hs4 hgf (fun a6 w6 h6 hd6=>?_) a5 (h5.pick [5,10])
    refine wp_ret ?_
    refine hR _ _ _ hcz ?_ a6 w6 h6 hd6
    rw [fmVals_bad hole l (j+1) (d+1) m (by rw [htk]; exact hcz),htk]
  · refine wp_cond_false ((h5.eval (k := 129) (v := .bool (decide ((fmVal hole l[j] (d+1) m1).1≠0))) (by simp)).trans (by rw [decide_eq_false hcz])) ?_
    refine wp_skip ?_
    show Code.wp _ _ _ a5 w4
    refine ck_r35_wp hj (by omega) (fun a6 h6=>?_) a5 (h5.pick [0,1,2,3,4,5,6,7,8,9])
    have hz:(fmVal hole l[j] (d+1) m1).1=0 := Decidable.not_not.1 hcz
    refine ⟨g - 1,by omega,j+1,_,by omega,?_,hs4,h6⟩
    rw [htk]
    have := ((fmVal_le hole l[j] (d+1) m1 hm1).2 hz).2
    exact Prod.ext hz (Prod.ext this rfl)
def c_ck_p9 := sp 99 255 cF63
def c_ck_p16 := sp 99 2047 cF63
def c_ck_p23 := sp 99 8191 cF63
theorem fmVal_any (hole:Bool):∀(N:Nat) (t:Fm) (cs:List Value) (w:World) (S:Nat→Prop) (bn bo bw d n:Nat),t.nodes≤N→fmRep.R w S t cs→(∀b,S b→b<w.heap.size∧b≠bn) →
    w.heap[bn]?=some (.cells #[.int .i64 n] 3 (0,0))→w.heap[bo]?=some (.cells #[.bool hole] 4 (0,0))→w.heap[bw]?=some (.cells #[.func (Fn.func 63) #[] #[.pointer (some ⟨bn,0,none⟩),.pointer (some ⟨bo,0,none⟩),.pointer (some ⟨bw,0,none⟩)]] 104 (0,0))→bn≠bw→bn≠bo→d≤41→n≤200 →
    Calls Tryd.prog 63 #[.agg cs.toArray,.int .i64 (d:Nat),.pointer (some ⟨bn,0,none⟩),.pointer (some ⟨bo,0,none⟩),.pointer (some ⟨bw,0,none⟩)] w (fun e w'=>e=.returned (.agg #[.int .i64 ((fmVal hole t d n).1:Nat),.int .i64 ((fmVal hole t d n).2.1:Nat)])∧w'.heap[bn]?=some (.cells #[.int .i64 ((fmVal hole t d n).2.2:Nat)] 3 (0,0))∧Keeps (·=bn) w w') := by
  intro N
  induction N with
  | zero=>intro t; have := t.nodes_pos; intros; omega
  | succ N ih =>
  intro t cs w S bn bo bw d n hN ht hS hb ho hf hne hno hd hn
  obtain ⟨⟨kd,nm,ws⟩,l⟩ := t
  obtain ⟨u,v,rfl,hnm,hw,hl⟩ := Fm.open_ ht
  simp only at hw hnm
  obtain ⟨A,n1,c1,rfl,e1,hm1,_⟩ := id hw
  obtain ⟨B,n2,c2,rfl,e2,hm2,_⟩ := id hl
  have hfin:∀(c at_ m':Nat) (a':Act) (w':World),fmVal hole (.mk ⟨kd,nm,ws⟩ l) d n=(c,at_,m')→Frm 133 [(7,.pointer (some ⟨w.heap.size+1,0,none⟩))] a'→CD w w' bn m' (.int .i64 (c:Nat)) (.int .i64 (at_:Nat))→bodyPost Tryd.prog Tryd.f63 (fun e w'=>e=.returned (.agg #[.int .i64 ((fmVal hole (.mk ⟨kd,nm,ws⟩ l) d n).1:Nat),.int .i64 ((fmVal hole (.mk ⟨kd,nm,ws⟩ l) d n).2.1:Nat)])∧w'.heap[bn]?=some (.cells #[.int .i64 ((fmVal hole (.mk ⟨kd,nm,ws⟩ l) d n).2.2:Nat)] 3 (0,0))∧Keeps (·=bn) w w') .ret a' w' := by
    intro c at_ m' a' w' e h hd'
    rw [e]
    exact ck_ret_wp hd'.r ⟨rfl,hd'.c,hd'.k⟩ a' h
  clear ht
  go_enter Tryd.func63,Tryd.ntmps63
  have hbl := lt_heap hb
  refine wp_seq ?_
  refine ck_r0_wp (fun a0 h0=>?_) _ (by exact fR rfl rfl rfl)
  refine wp_seq ?_
  have hb1:((w.alloc (.cells #[.int .i64 kd,.string nm,.slice A n1 c1,.slice B n2 c2] 29)).alloc (.cells #[.int .i64 0,.int .i64 0] 32)).heap[bn]?=some (.cells #[.int .i64 n] 3 (0,0)) := heap_old (by simp; omega) (heap_old hbl hb)
  refine ck_r1_wp hb1 (fun a1 h1=>?_) a0 h0
  rw [show ((w.alloc (.cells #[.int .i64 kd,.string nm,.slice A n1 c1,.slice B n2 c2] 29)).alloc (.cells #[.int .i64 0,.int .i64 0] 32)).heap.size=w.heap.size+1+1 from by simp] at h1
  refine wp_seq ?_
  refine ck_r2_wp hn (heap_old (by simp; omega) hb1) (fun a2 h2=>?_) a1 h1
  refine gen_last (fun wx=>CS w wx bn kd nm A n1 c1 B n2 c2 n (n+1)) (CS.start hb) ?_
  intro w3 hs
  refine wp_seq ?_
  refine ck_r3_wp (fun a3 h3=>?_) a2 h2
  refine wp_seq ?_
  refine wp_seq ?_
  refine ck_r4_wp hs (fun a4 h4=>?_) a3 h3
  by_cases hlim:200<n+1∨40<d
  · refine wp_cond_true ((h4.eval (k := 27) (v := .bool (decide (200<n+1∨40<d))) (by simp)).trans (by rw [decide_eq_true hlim])) ?_
    refine wp_seq ?_
    refine ck_r5_wp hs (fun a' w' h' hd'=>?_) a4 (h4.pick [0,1,2,3,4,5,6])
    refine wp_ret ?_
    exact hfin 1 n (n+1) a' w' (by unfold fmVal; rw [if_pos hlim]) h' hd'
  refine wp_cond_false ((h4.eval (k := 27) (v := .bool (decide (200<n+1∨40<d))) (by simp)).trans (by rw [decide_eq_false hlim])) ?_
  refine wp_skip ?_
  show Code.wp _ _ _ a4 w3
  have hcode:∀c:Nat,c≠0→FmL.code hole ⟨kd,nm,ws⟩ l.length=c→fmVal hole (.mk ⟨kd,nm,ws⟩ l) d n=(c,n,n+1) := by
    intro c h0 hc
    unfold fmVal
    rw [if_neg hlim,hc,if_neg h0]
  have hrest:FmL.code hole ⟨kd,nm,ws⟩ l.length=0→fmVal hole (.mk ⟨kd,nm,ws⟩ l) d n=fmVals hole l (d+1) (n+1) := by
    intro hc
    conv=>lhs; unfold fmVal
    rw [if_neg hlim,if_pos hc]
  have p23:∀(a5:Act) (w5:World),CS w w5 bn kd nm A n1 c1 B n2 c2 n (n+1)→(ws.all okName=false→FmL.code hole ⟨kd,nm,ws⟩ l.length=10)→(ws.all okName=true→FmL.code hole ⟨kd,nm,ws⟩ l.length=0)→Frm 133 [(1,.int .i64 (d:Nat)),(2,.pointer (some ⟨bn,0,none⟩)),(3,.pointer (some ⟨bo,0,none⟩)),(4,.pointer (some ⟨bw,0,none⟩)),(5,.pointer (some ⟨w.heap.size,0,none⟩)),(7,.pointer (some ⟨w.heap.size+1,0,none⟩)),(9,(.func (Fn.func 64) #[] #[.pointer (some ⟨w.heap.size+1+1,0,none⟩)]))] a5→Code.wp Tryd.prog c_ck_p23 (bodyPost Tryd.prog Tryd.f63 (fun e w'=>e=.returned (.agg #[.int .i64 ((fmVal hole (.mk ⟨kd,nm,ws⟩ l) d n).1:Nat),.int .i64 ((fmVal hole (.mk ⟨kd,nm,ws⟩ l) d n).2.1:Nat)])∧w'.heap[bn]?=some (.cells #[.int .i64 ((fmVal hole (.mk ⟨kd,nm,ws⟩ l) d n).2.2:Nat)] 3 (0,0))∧Keeps (·=bn) w w')) a5 w5 := by
    intro a5 w5 hs hc1 hc0 h5
    conv=>arg 2; whnf
    refine wp_seq ?_
    refine wp_seq ?_
    refine ck_r23_wp hs (fun a6 h6=>?_) a5 h5
    refine wp_block ?_
    refine ck_wl_wp hs (S := S) (fun b hb=>by have := (hS b hb).1; have := hs.k.size; omega) (hw.keep (hs.old hS) (fun _ h=>h)) (fun hall a7 h7=>?_) (fun hall a7 w7 h7 hd7=>?_) a6 h6
    case refine_2=>exact hfin 10 n (n+1) a7 w7 (hcode 10 (by decide) (hc1 hall)) h7 hd7
    refine inBlock_exit ?_
    show Code.wp _ _ _ a7 w5
    refine wp_seq ?_
    refine wp_seq ?_
    refine ck_r29_wp hs (fun a8 h8=>?_) a7 h7
    refine wp_block ?_
    refine ck_sl_wp (by omega) (by omega) hs hS hl ho hf hne hno (fun t cs W n' htl hr hS' hb' ho' hf' hn'=>?_) (fun m' a9 w9 e h9 hs9=>?_) (fun c at_ m' hc e a9 w9 h9 hd9=>?_) a8 h8
    · have hnd:t.nodes≤N := by
        obtain ⟨j,hj,rfl⟩ := List.getElem_of_mem htl
        have := Tree.nodes_at l j hj
        simp [Tree.nodes] at hN
        omega
      exact ih t cs W S bn bo bw (d+1) n' hnd hr hS' hb' ho' hf' hne hno (by omega) hn'
    · refine inBlock_exit ?_
      show Code.wp _ _ _ a9 w9
      refine wp_seq ?_
      refine ck_r36_wp hs9 (fun a10 w10 h10 hd10=>?_) a9 h9
      refine wp_ret ?_
      exact hfin 0 0 m' a10 w10 (by rw [hrest (hc0 hall),e]) h10 hd10
    · exact hfin c at_ m' a9 w9 (by rw [hrest (hc0 hall),e]) h9 hd9
  refine wp_seq ?_
  refine ck_r6_wp hs (fun a5 h5=>?_) a4 (h4.pick [0,1,2,3,4,5,6])
  have p16:∀(a5:Act) (k:Nat),subsF hole kd=some k→Frm 133 [(1,.int .i64 (d:Nat)),(2,.pointer (some ⟨bn,0,none⟩)),(3,.pointer (some ⟨bo,0,none⟩)),(4,.pointer (some ⟨bw,0,none⟩)),(5,.pointer (some ⟨w.heap.size,0,none⟩)),(7,.pointer (some ⟨w.heap.size+1,0,none⟩)),(9,(.func (Fn.func 64) #[] #[.pointer (some ⟨w.heap.size+1+1,0,none⟩)])),(10,.int .i64 (k:Nat)),(11,.bool (wordsOk kd n1))] a5→Code.wp Tryd.prog c_ck_p16 (bodyPost Tryd.prog Tryd.f63 (fun e w'=>e=.returned (.agg #[.int .i64 ((fmVal hole (.mk ⟨kd,nm,ws⟩ l) d n).1:Nat),.int .i64 ((fmVal hole (.mk ⟨kd,nm,ws⟩ l) d n).2.1:Nat)])∧w'.heap[bn]?=some (.cells #[.int .i64 ((fmVal hole (.mk ⟨kd,nm,ws⟩ l) d n).2.2:Nat)] 3 (0,0))∧Keeps (·=bn) w w')) a5 w3 := by
    intro a5 k hk h5
    conv=>arg 2; whnf
    refine wp_seq ?_
    refine wp_seq ?_
    refine ck_r16_wp hs (fun a6 h6=>?_) a5 h5
    cases hc9:(decide ((n2:Int)≠(k:Int)) || !wordsOk kd n1)
    case true =>
      refine wp_cond_true ((h6.eval (k := 69) (v := .bool (decide ((n2:Int)≠(k:Int)) || !wordsOk kd n1)) (by simp)).trans (by rw [hc9])) ?_
      refine wp_seq ?_
      refine ck_r17_wp hs (fun a' w' h' hd'=>?_) a6 (h6.pick [0,1,2,3,4,5,6])
      refine wp_ret ?_
      exact hfin 9 n (n+1) a' w' (hcode 9 (by decide) (by unfold FmL.code; simp only; rw [hk]; simp only; rw [if_pos]; simp only [Bool.or_eq_true,decide_eq_true_eq,Bool.not_eq_true'] at hc9; rcases hc9 with h | h; exact Or.inl (by omega); exact Or.inr (by rw [e1]; exact h))) h' hd'
    refine wp_cond_false ((h6.eval (k := 69) (v := .bool (decide ((n2:Int)≠(k:Int)) || !wordsOk kd n1)) (by simp)).trans (by rw [hc9])) ?_
    refine wp_skip ?_
    show Code.wp _ _ _ a6 w3
    simp only [Bool.or_eq_false_iff,decide_eq_false_iff_not,Decidable.not_not,Bool.not_eq_false'] at hc9
    obtain ⟨hn2,hwk⟩ := hc9
    have hcd:FmL.code hole ⟨kd,nm,ws⟩ l.length=if namedF kd=true∧okName nm=false then 10 else if namedF kd=false∧nm≠bNilF then 5 else if ws.all okName=true then 0 else 10 := by
      unfold FmL.code
      simp only
      rw [hk]
      simp only
      rw [if_neg]
      rintro (h | h)
      · omega
      · rw [e1,hwk] at h; cases h
    refine wp_seq ?_
    refine wp_seq ?_
    refine ck_r18_wp hs (fun a7 w7 h7 hs7=>?_) a6 (h6.pick [0,1,2,3,4,5,6])
    refine wp_seq ?_
    refine ck_r19_wp hnm hs7 (fun a8 h8=>?_) a7 h7
    cases h10:(namedF kd && !okName nm)
    case true =>
      refine wp_cond_true ((h8.eval (k := 90) (v := .bool (namedF kd && !okName nm)) (by simp)).trans (by rw [h10])) ?_
      have hs := hs7
      refine wp_seq ?_
      refine ck_r20_wp hs (fun a' w' h' hd'=>?_) a8 (h8.pick [0,1,2,3,4,5,6])
      refine wp_ret ?_
      exact hfin 10 n (n+1) a' w' (hcode 10 (by decide) (by rw [hcd,if_pos]; simpa using h10)) h' hd'
    refine wp_cond_false ((h8.eval (k := 90) (v := .bool (namedF kd && !okName nm)) (by simp)).trans (by rw [h10])) ?_
    refine wp_seq ?_
    refine ck_r21_wp hs7 (fun a9 h9=>?_) a8 (h8.pick [0,1,2,3,4,5,6,7])
    have hno10:¬ (namedF kd=true∧okName nm=false) := by
      rintro ⟨h1,h2⟩
      rw [h1,h2] at h10
      cases h10
    rw [if_neg hno10] at hcd
    cases h5':(!namedF kd && decide (nm≠bNilF))
    case true =>
      refine wp_cond_true ((h9.eval (k := 99) (v := .bool (!namedF kd && decide (nm≠bNilF))) (by simp)).trans (by rw [h5'])) ?_
      have hs := hs7
      refine wp_seq ?_
      refine ck_r22_wp hs (fun a' w' h' hd'=>?_) a9 (h9.pick [0,1,2,3,4,5,6])
      refine wp_ret ?_
      exact hfin 5 n (n+1) a' w' (hcode 5 (by decide) (by rw [hcd,if_pos]; simpa using h5')) h' hd'
    refine wp_cond_false ((h9.eval (k := 99) (v := .bool (!namedF kd && decide (nm≠bNilF))) (by simp)).trans (by rw [h5'])) ?_
    refine wp_skip ?_
    have hno5:¬ (namedF kd=false∧nm≠bNilF) := by
      rintro ⟨h1,h2⟩
      rw [h1,decide_eq_true h2] at h5'
      cases h5'
    rw [if_neg hno5] at hcd
    exact p23 a9 w7 hs7 (fun h=>by rw [hcd,if_neg (by rw [h]; decide)]) (fun h=>by rw [hcd,if_pos h]) (h9.pick [0,1,2,3,4,5,6])
  have p9:∀(a5:Act),Frm 133 [(1,.int .i64 (d:Nat)),(2,.pointer (some ⟨bn,0,none⟩)),(3,.pointer (some ⟨bo,0,none⟩)),(4,.pointer (some ⟨bw,0,none⟩)),(5,.pointer (some ⟨w.heap.size,0,none⟩)),(7,.pointer (some ⟨w.heap.size+1,0,none⟩)),(9,(.func (Fn.func 64) #[] #[.pointer (some ⟨w.heap.size+1+1,0,none⟩)])),(10,.int .i64 (subsI hole kd))] a5→Code.wp Tryd.prog c_ck_p9 (bodyPost Tryd.prog Tryd.f63 (fun e w'=>e=.returned (.agg #[.int .i64 ((fmVal hole (.mk ⟨kd,nm,ws⟩ l) d n).1:Nat),.int .i64 ((fmVal hole (.mk ⟨kd,nm,ws⟩ l) d n).2.1:Nat)])∧w'.heap[bn]?=some (.cells #[.int .i64 ((fmVal hole (.mk ⟨kd,nm,ws⟩ l) d n).2.2:Nat)] 3 (0,0))∧Keeps (·=bn) w w')) a5 w3 := by
    intro a5 h5
    conv=>arg 2; whnf
    refine wp_seq ?_
    refine wp_seq ?_
    refine ck_r9_wp (fun a6 h6=>?_) a5 h5
    cases hk:subsF hole kd with
    | none =>
      have hq:subsI hole kd = -1 := by unfold subsI; rw [hk]
      rw [hq] at h6
      refine wp_cond_true ((h6.eval (k := 40) (v := .bool (decide ((-1:Int)<0))) (by simp)).trans (by rw [decide_eq_true (by decide)])) ?_
      refine wp_seq ?_
      refine ck_r10_wp hs (fun a' w' h' hd'=>?_) a6 (h6.pick [0,1,2,3,4,5,6])
      refine wp_ret ?_
      exact hfin 4 n (n+1) a' w' (hcode 4 (by decide) (by unfold FmL.code; simp only; rw [hk])) h' hd'
    | some k =>
      have hq:subsI hole kd=(k:Int) := by unfold subsI; rw [hk]
      rw [hq] at h6
      refine wp_cond_false ((h6.eval (k := 40) (v := .bool (decide ((k:Int)<0))) (by simp)).trans (by rw [decide_eq_false (by omega)])) ?_
      refine wp_skip ?_
      show Code.wp _ _ _ a6 w3
      refine wp_seq ?_
      refine ck_r11_wp hs (fun a7 h7=>?_) a6 (h6.pick [0,1,2,3,4,5,6,7])
      refine wp_seq ?_
      refine wp_seq ?_
      refine ck_r12_wp hs (fun a8 h8=>?_) a7 h7
      by_cases hk2:kd=2
      · refine wp_cond_true ((h8.eval (k := 49) (v := .bool (decide (kd=2))) (by simp)).trans (by rw [decide_eq_true hk2])) ?_
        refine ck_r13_wp hs (fun a9 h9=>?_) a8 (h8.pick [0,1,2,3,4,5,6,7,8])
        refine p16 a9 k hk ?_
        rw [show wordsOk kd n1=decide (n1≤3) from by unfold wordsOk; rw [if_pos hk2]]
        exact h9
      refine wp_cond_false ((h8.eval (k := 49) (v := .bool (decide (kd=2))) (by simp)).trans (by rw [decide_eq_false hk2])) ?_
      refine wp_seq ?_
      refine ck_r14_wp hs (fun a9 h9=>?_) a8 (h8.pick [0,1,2,3,4,5,6,7,8])
      by_cases hk3:kd=3
      · refine wp_cond_true ((h9.eval (k := 56) (v := .bool (decide (kd=3))) (by simp)).trans (by rw [decide_eq_true hk3])) ?_
        refine ck_r15_wp hs (fun a10 h10=>?_) a9 (h9.pick [0,1,2,3,4,5,6,7,8])
        refine p16 a10 k hk ?_
        rw [show wordsOk kd n1=decide (n1=2) from by unfold wordsOk; rw [if_neg hk2,if_pos hk3]]
        exact h10
      refine wp_cond_false ((h9.eval (k := 56) (v := .bool (decide (kd=3))) (by simp)).trans (by rw [decide_eq_false hk3])) ?_
      refine wp_skip ?_
      refine p16 a9 k hk ?_
      rw [show wordsOk kd n1=decide (n1=0) from by unfold wordsOk; rw [if_neg hk2,if_neg hk3]]
      exact (h9.pick [0,1,2,3,4,5,6,7,8])
  refine wp_seq ?_
  refine wp_seq ?_
  refine ck_r7_wp hs ((hs.k.block bo (lt_heap ho) (fun e=>hno e.symm)).trans ho) (fun a6 h6=>?_) a5 h5
  cases hh:(decide (kd=10) && hole)
  case true =>
    refine wp_cond_true ((h6.eval (k := 38) (v := .bool (decide (kd=10) && hole)) (by simp)).trans (by rw [hh])) ?_
    refine ck_r8_wp (fun a7 h7=>?_) a6 (h6.pick [0,1,2,3,4,5,6,7])
    refine p9 a7 ?_
    simp only [Bool.and_eq_true,decide_eq_true_eq] at hh
    obtain ⟨rfl,rfl⟩ := hh
    exact h7
  refine wp_cond_false ((h6.eval (k := 38) (v := .bool (decide (kd=10) && hole)) (by simp)).trans (by rw [hh])) ?_
  refine wp_skip ?_
  refine p9 a6 ?_
  have hq:subsI hole kd=subsI false kd := by
    unfold subsI subsF
    cases hole
    · rfl
    · have hk:kd≠10 := by rintro rfl; cases hh
      simp [hk]
  rw [hq]
  exact (h6.pick [0,1,2,3,4,5,6,7])
theorem check_any (hole:Bool) (t:Fm) (cs:List Value) (w:World) (S:Nat→Prop) (ht:fmRep.R w S t cs) (hS:∀b,S b→b<w.heap.size) :
    Calls Tryd.prog 48 #[.agg cs.toArray,.bool hole] w fun e w'=>e=.returned (.agg #[.int .i64 ((fmVal hole t 1 0).1:Nat),.int .i64 ((fmVal hole t 1 0).2.1:Nat)])∧Below w.heap.size w w' := by
  obtain ⟨A,n1,c1,B,n2,c2,rfl,_,_,_,_⟩ := Fm.shape ht
  obtain ⟨kd,hkd⟩:∃k,t.lab.kind=k := ⟨_,rfl⟩
  obtain ⟨nm,hnm⟩:∃k,t.lab.nm=k := ⟨_,rfl⟩
  rw [hkd,hnm] at ht ⊢
  have hv:∀W:World,W.heap.size=w.heap.size+1+1+1+1+1→(∀b,b<w.heap.size→W.heap[b]?=w.heap[b]?)→W.heap[w.heap.size+1]?=some (.cells #[.bool hole] 4 (0,0))→W.heap[w.heap.size+1+1+1]?=some (.cells #[.int .i64 0] 3 (0,0))→W.heap[w.heap.size+1+1+1+1]?=some (.cells #[.func (Fn.func 63) #[] #[.pointer (some ⟨w.heap.size+1+1+1,0,none⟩),.pointer (some ⟨w.heap.size+1,0,none⟩),.pointer (some ⟨w.heap.size+1+1+1+1,0,none⟩)]] 104 (0,0)) →
      Calls Tryd.prog 63 #[.agg #[.int .i64 kd,.string nm,.slice A n1 c1,.slice B n2 c2],.int .i64 1,.pointer (some ⟨w.heap.size+1+1+1,0,none⟩),.pointer (some ⟨w.heap.size+1,0,none⟩),.pointer (some ⟨w.heap.size+1+1+1+1,0,none⟩)] W fun e w'=>e=.returned (.agg #[.int .i64 ((fmVal hole t 1 0).1:Nat),.int .i64 ((fmVal hole t 1 0).2.1:Nat)])∧w'.heap[w.heap.size+1+1+1]?=some (.cells #[.int .i64 ((fmVal hole t 1 0).2.2:Nat)] 3 (0,0))∧Keeps (·=w.heap.size+1+1+1) W w' :=
    fun W hz hk h1 h3 h4=>fmVal_any hole t.nodes t [.int .i64 kd,.string nm,.slice A n1 c1,.slice B n2 c2] W S (w.heap.size+1+1+1) (w.heap.size+1) (w.heap.size+1+1+1+1) 1 0 (Nat.le_refl _) (fmRep.keep ht (fun b hb=>hk b (hS b hb)) (fun _ h=>h)) (fun b hb=>⟨by have := hS b hb; omega,by have := hS b hb; omega⟩) h3 h1 h4 (by omega) (by omega) (by omega) (by omega)
  clear ht hkd hnm
  have HV := Lib.hid hv
  have HS := Lib.hid hS
  clear hv hS
  go_enter Tryd.func48,Tryd.ntmps48
  go_wp2_with fail
  (with_reducible refine (HV.out _ ?hz ?hk ?h1 ?h3 ?h4).mono ?_)
  case hz=>simp
  case hk=>exact fun b hb=>heap_old (by first | (simp; done) | (simp; omega)) (heap_old (by first | (simp; done) | (simp; omega)) (heap_old (by first | (simp; done) | (simp; omega)) (heap_old (by first | (simp; done) | (simp; omega)) (heap_old hb rfl))))
  case h1=>exact heap_old (by first | (simp; done) | (simp; omega)) (heap_old (by first | (simp; done) | (simp; omega)) (heap_old (by first | (simp; done) | (simp; omega)) (heap_at (by simp))))
  case h3=>exact heap_old (by first | (simp; done) | (simp; omega)) (heap_at (by simp))
  case h4=>exact heap_at (by simp)
  rintro e w1 ⟨rfl,_,hk1⟩
  have h2 := (hk1.block (w.heap.size+1+1) (by first | (simp; done) | (simp; omega)) (by omega)).trans (heap_old (by first | (simp; done) | (simp; omega)) (heap_old (by first | (simp; done) | (simp; omega)) (heap_at (by simp))))
  have hb:Below w.heap.size w w1 := (show Below w.heap.size w _ by go_grown).trans (hk1.below (B := w.heap.size) (by rintro k rfl; omega) (by first | (simp; done) | (simp; omega)))
  clear hk1
  have HB := Lib.hid hb
  clear hb
  have h2_0 := cv0 h2
  have h2_1 := cv1 h2
  have h2_f0 := free_heap h2 0
  have h2_f1 := free_heap h2 1
  have h2_l := lt_heap h2
  have H2 := Lib.hid h2
  clear h2
  go_wp2_with fail
  refine bodyPost_ret (v := .agg #[.int .i64 ((fmVal hole t 1 0).1:Nat),.int .i64 ((fmVal hole t 1 0).2.1:Nat)]) (by simp [results,Tryd.results48,go_sem,h2_0,h2_1,h2_l]) rfl ?_
  exact ⟨rfl,below2 HB.out (by omega)⟩
def fmFault (t:Fm):Nat × Nat := ((fmVal false t 1 0).1,(fmVal false t 1 0).2.1)
theorem validateFm_any (t:Fm) (cs:List Value) (w:World) (S:Nat→Prop) (ht:fmRep.R w S t cs) (hS:∀b,S b→b<w.heap.size) :
    Calls Tryd.prog 29 #[.agg cs.toArray] w fun e w'=>e=.returned (.agg #[.int .i64 ((fmFault t).1:Nat),.int .i64 ((fmFault t).2:Nat)])∧Below w.heap.size w w' := by
  obtain ⟨A,n1,c1,B,n2,c2,rfl,_,_,_,_⟩ := Fm.shape ht
  have hv := fun (o p:Obj)=>Lib.hid (check_any false t _ ((w.alloc o).alloc p) S (fmRep.keep ht (fun b hb=>heap_old (by have := hS b hb; simp; omega) (heap_old (hS b hb) rfl)) (fun _ h=>h)) (fun b hb=>by have := hS b hb; simp; omega))
  clear ht
  have HV := Lib.hid hv
  have HS := Lib.hid hS
  clear hv hS
  unfold fmFault
  go_enter Tryd.func29,Tryd.ntmps29
  go_wp2_with fail
  (with_reducible refine (HV.out _ _).out.mono ?_)
  rintro e w1 ⟨rfl,hb1⟩
  have h2 := (hb1.block (w.heap.size+1) (by simp)).trans (heap_at (by simp))
  have hb:Below w.heap.size w w1 := (show Below w.heap.size w _ by go_grown).trans (hb1.mono (by first | (simp; done) | (simp; omega)))
  clear hb1
  have HB := Lib.hid hb
  clear hb
  have h2_0 := cv0 h2
  have h2_1 := cv1 h2
  have h2_f0 := free_heap h2 0
  have h2_f1 := free_heap h2 1
  have h2_l := lt_heap h2
  have H2 := Lib.hid h2
  clear h2
  go_wp2_with fail
  refine bodyPost_ret (v := .agg #[.int .i64 ((fmVal false t 1 0).1:Nat),.int .i64 ((fmVal false t 1 0).2.1:Nat)]) (by simp [results,Tryd.results29,go_sem,h2_0,h2_1,h2_l]) rfl ?_
  exact ⟨rfl,below2 HB.out (by omega)⟩
end

end Go.Proofs.YthfokmjpbnfihaaDoor
