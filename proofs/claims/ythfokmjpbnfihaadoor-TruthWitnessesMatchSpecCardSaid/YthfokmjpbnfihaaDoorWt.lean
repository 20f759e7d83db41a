/- Lemmas. -/
import Derived.Test.YthfokmjpbnfihaaDoorWs
namespace Go.Proofs.YthfokmjpbnfihaaDoor
open Go Go.RowKit
set_option linter.unusedSimpArgs false
set_option linter.unusedVariables false
noncomputable section
set_option maxRecDepth 1000000
set_option maxHeartbeats 16000000
variable {Q:Exit→Act→World→Prop} {z kd cv:Int} {Am Bm A B:Option Addr} {nm1 cm nm2 dm n1 c1 n2 c2 mc i b o j:Nat} {wo w:World} {nm s cn:ByteArray} {s_2 s_3 s_11 s_12 s_6 s_13 s_7 s_18 s_19:Value} {bb:Bool}

theorem frame_lk {P:Act→Prop} (h:∀x0 x1 x2 x3 x4 x5 x6 x7 x8 x9 x10 x11 x12 x13 x14 x15 x16 x17 x18 x19 x20 x21 x22 x23 x24 x25 x26 x27 x28 x29 x30 x31 x32 x33 x34 x35 x36 x37:Value,P ⟨(x0 :: x1 :: x2 :: x3 :: x4 :: x5 :: x6 :: x7 :: x8 :: x9 :: x10 :: x11 :: x12 :: x13 :: x14 :: x15 :: x16 :: x17 :: x18 :: x19 :: x20 :: x21 :: x22 :: x23 :: x24 :: x25 :: x26 :: x27 :: x28 :: x29 :: x30 :: x31 :: x32 :: x33 :: x34 :: x35 :: x36 :: x37 :: []).toArray,[]⟩):∀a:Act,a.tmps.toList.length=38→a.defers=[]→P a := by
  rintro ⟨⟨l⟩,d⟩ hs hd
  simp only at hd
  subst hd
  revert l
  show ∀l:List Value,l.length=38→P ⟨⟨l⟩,[]⟩
  iterate 38 refine openS (fun _=>?_)
  refine open0 ?_
  exact h ..
noncomputable def cF27:Code := Tryd.f27.body.getD .skip
def c_lk_r0 := sp 99 2 cF27
theorem lk_r0_wp (hN:∀a',Frm 38 [(2,.pointer (some ⟨wo.heap.size,0,none⟩)),(3,.pointer (some ⟨(wo.heap.size+1),0,none⟩))] a'→Q .normal a' ((wo.alloc (.cells #[.int .i64 z,.slice Am nm1 cm,.slice Bm nm2 dm] 25)).alloc (.cells #[.int .i64 kd,.string nm,.slice A n1 c1,.slice B n2 c2] 29))):∀ac,Frm 38 [(0,.agg #[.int .i64 z,.slice Am nm1 cm,.slice Bm nm2 dm]),(1,.agg #[.int .i64 kd,.string nm,.slice A n1 c1,.slice B n2 c2])] ac→Code.wp Tryd.prog c_lk_r0 Q ac wo := by
  refine fO (frame_lk ?_)
  intros
  rename_i hq
  iterate 2 (obtain ⟨e,hq⟩ := hq; obtain rfl := sI e; clear e)
  clear hq
  conv=>arg 2; whnf
  replace hN := Lib.hid hN
  go_wp2_with fail
  exact hN.out _ (id ⟨rfl,rfl,rfl,rfl,trivial⟩)
def c_lk_r1 := sp 99 9 cF27
theorem lk_r1_wp {PP:Option Addr→Nat→Nat→World→Prop} (ha:w.heap[wo.heap.size+1]?=some (.cells #[.int .i64 kd,.string nm,.slice A n1 c1,.slice B n2 c2] 29 (0,0))) (hc:Calls Tryd.prog 46 #[.agg #[.int .i64 kd,.string nm,.slice A n1 c1,.slice B n2 c2]] w fun e w'=>∃Dc mc ec,e=.returned (.slice Dc mc ec)∧PP Dc mc ec w') (hN:∀Dc mc ec a' w',Frm 38 [(2,s_2),(3,.pointer (some ⟨(wo.heap.size+1),0,none⟩)),(11,.slice Dc mc ec),(12,.int .i64 (mc:Nat)),(13,.int .i64 (0:Nat))] a'→PP Dc mc ec w'→Q .normal a' w'):∀ac,Frm 38 [(2,s_2),(3,.pointer (some ⟨(wo.heap.size+1),0,none⟩))] ac→Code.wp Tryd.prog c_lk_r1 Q ac w := by
  refine fO (frame_lk ?_)
  intros
  rename_i hq
  iterate 2 (obtain ⟨e,hq⟩ := hq; obtain rfl := sI e; clear e)
  clear hq
  conv=>arg 2; whnf
  have a0 := cellv ha 0 rfl
  have a1 := cellv ha 1 rfl
  have a2 := cellv ha 2 rfl
  have a3 := cellv ha 3 rfl
  have al := lt_heap ha
  clear ha
  have HN := Lib.hid hN
  have HC := Lib.hid hc
  clear hN hc
  go_wp2_with fail
  (with_reducible refine HC.out.mono ?_)
  rintro e w1 ⟨Dc,mc,ec,rfl,hb1⟩
  replace hb1 := Lib.hid hb1
  go_wp2_with fail
  exact HN.out _ _ _ _ _ (by exact fR rfl rfl rfl) hb1.out
def c_lk_r2 := sp 99 69 cF27
theorem lk_r2_wp (hN:∀a',Frm 38 [(2,s_2),(3,s_3),(11,s_11),(12,.int .i64 (mc:Nat)),(13,.int .i64 (i:Nat)),(14,.bool (decide (i<mc)))] a'→Q .normal a' w):∀ac,Frm 38 [(2,s_2),(3,s_3),(11,s_11),(12,.int .i64 (mc:Nat)),(13,.int .i64 (i:Nat))] ac→Code.wp Tryd.prog c_lk_r2 Q ac w := by
  refine fO (frame_lk ?_)
  intros
  rename_i hq
  iterate 5 (obtain ⟨e,hq⟩ := hq; obtain rfl := sI e; clear e)
  clear hq
  conv=>arg 2; whnf
  by_cases h:i<mc
  · have t1:decide ((i:Int)<(mc:Int))=true := by first | exact decide_eq_true (by omega) | exact beq_iff_eq.2 (by omega) | exact bne_iff_ne.2 (by omega)
    have t2:(decide (i<mc))=true := decide_eq_true h
    rw [t2] at hN
    clear h
    replace hN := Lib.hid hN
    go_wp2_with fail
    exact hN.out _ (by exact fR rfl rfl rfl)
  · have t1:decide ((i:Int)<(mc:Int))=false := by first | exact decide_eq_false (by omega) | exact beq_eq_false_iff_ne.2 (by omega) | exact bne_eq_false_iff_eq.2 (by omega)
    have t2:(decide (i<mc))=false := decide_eq_false h
    rw [t2] at hN
    clear h
    replace hN := Lib.hid hN
    go_wp2_with fail
    exact hN.out _ (by exact fR rfl rfl rfl)
def c_lk_r3 := sp 99 1125 cF27
theorem lk_r3_wp {ec:Nat} (hi:i<mc) (hc:w.cell? ⟨b,o+i,none⟩=some (.string s)) (hbl:b<w.heap.size) (hN:∀a',Frm 38 [(2,s_2),(3,s_3),(11,.slice (some ⟨b,o,none⟩) mc ec),(12,s_12),(13,.int .i64 (i:Nat)),(6,.string s)] a'→Q .normal a' w):∀ac,Frm 38 [(2,s_2),(3,s_3),(11,.slice (some ⟨b,o,none⟩) mc ec),(12,s_12),(13,.int .i64 (i:Nat))] ac→Code.wp Tryd.prog c_lk_r3 Q ac w := by
  refine fO (frame_lk ?_)
  intros
  rename_i hq
  iterate 5 (obtain ⟨e,hq⟩ := hq; obtain rfl := sI e; clear e)
  clear hq
  conv=>arg 2; whnf
  have q0:(0:Int)≤(i:Int) := by omega
  have q1:(i:Int)<(mc:Int) := by omega
  replace hN := Lib.hid hN
  go_wp2_with fail
  exact hN.out _ (by exact fR rfl rfl rfl)
def c_lk_r4 := sp 99 2661 cF27
theorem lk_r4_wp (hN:∀a',Frm 38 [(2,s_2),(3,s_3),(11,s_11),(12,s_12),(13,s_13),(6,s_6),(7,.bool false)] a'→Q .normal a' w):∀ac,Frm 38 [(2,s_2),(3,s_3),(11,s_11),(12,s_12),(13,s_13),(6,s_6)] ac→Code.wp Tryd.prog c_lk_r4 Q ac w := by
  refine fO (frame_lk ?_)
  intros
  rename_i hq
  iterate 6 (obtain ⟨e,hq⟩ := hq; obtain rfl := sI e; clear e)
  clear hq
  conv=>arg 2; whnf
  replace hN := Lib.hid hN
  go_wp2_with fail
  exact hN.out _ (by exact fR rfl rfl rfl)
def c_lk_r5 := sp 99 9829 cF27
theorem lk_r5_wp (hgm:w.heap[wo.heap.size]?=some (.cells #[.int .i64 z,.slice Am nm1 cm,.slice Bm nm2 dm] 25 (0,0))) (hN:∀a',Frm 38 [(2,.pointer (some ⟨wo.heap.size,0,none⟩)),(3,s_3),(11,s_11),(12,s_12),(13,s_13),(6,s_6),(7,s_7),(18,.slice Am nm1 cm),(19,.int .i64 (nm1:Nat)),(20,.int .i64 (0:Nat))] a'→Q .normal a' w):∀ac,Frm 38 [(2,.pointer (some ⟨wo.heap.size,0,none⟩)),(3,s_3),(11,s_11),(12,s_12),(13,s_13),(6,s_6),(7,s_7)] ac→Code.wp Tryd.prog c_lk_r5 Q ac w := by
  refine fO (frame_lk ?_)
  intros
  rename_i hq
  iterate 7 (obtain ⟨e,hq⟩ := hq; obtain rfl := sI e; clear e)
  clear hq
  conv=>arg 2; whnf
  have m0 := cellv hgm 0 rfl
  have m1 := cellv hgm 1 rfl
  have m2 := cellv hgm 2 rfl
  have ml := lt_heap hgm
  clear hgm
  replace hN := Lib.hid hN
  go_wp2_with fail
  exact hN.out _ (by exact fR rfl rfl rfl)
def c_lk_r6 := sp 99 71269 cF27
theorem lk_r6_wp (hN:∀a',Frm 38 [(2,s_2),(3,s_3),(11,s_11),(12,s_12),(13,s_13),(6,s_6),(7,s_7),(18,s_18),(19,.int .i64 (nm1:Nat)),(20,.int .i64 (j:Nat)),(21,.bool (decide (j<nm1)))] a'→Q .normal a' w):∀ac,Frm 38 [(2,s_2),(3,s_3),(11,s_11),(12,s_12),(13,s_13),(6,s_6),(7,s_7),(18,s_18),(19,.int .i64 (nm1:Nat)),(20,.int .i64 (j:Nat))] ac→Code.wp Tryd.prog c_lk_r6 Q ac w := by
  refine fO (frame_lk ?_)
  intros
  rename_i hq
  iterate 10 (obtain ⟨e,hq⟩ := hq; obtain rfl := sI e; clear e)
  clear hq
  conv=>arg 2; whnf
  by_cases h:j<nm1
  · have t1:decide ((j:Int)<(nm1:Int))=true := by first | exact decide_eq_true (by omega) | exact beq_iff_eq.2 (by omega) | exact bne_iff_ne.2 (by omega)
    have t2:(decide (j<nm1))=true := decide_eq_true h
    rw [t2] at hN
    clear h
    replace hN := Lib.hid hN
    go_wp2_with fail
    exact hN.out _ (by exact fR rfl rfl rfl)
  · have t1:decide ((j:Int)<(nm1:Int))=false := by first | exact decide_eq_false (by omega) | exact beq_eq_false_iff_ne.2 (by omega) | exact bne_eq_false_iff_eq.2 (by omega)
    have t2:(decide (j<nm1))=false := decide_eq_false h
    rw [t2] at hN
    clear h
    replace hN := Lib.hid hN
    go_wp2_with fail
    exact hN.out _ (by exact fR rfl rfl rfl)
def c_lk_r7 := sp 99 1152613 cF27
theorem lk_r7_wp (hi:j<nm1) (e0:w.cell? ⟨b,o+j * 2,none⟩=some (.string cn)) (e1:w.cell? ⟨b,o+j * 2+1,none⟩=some (.int .i64 cv)) (hbl:b<w.heap.size) (hN:∀a' w',Frm 38 [(2,s_2),(3,s_3),(11,s_11),(12,s_12),(13,s_13),(6,s_6),(7,s_7),(18,.slice (some ⟨b,o,none⟩) nm1 cm),(19,s_19),(20,.int .i64 (j:Nat)),(9,.pointer (some ⟨w.heap.size,0,none⟩))] a'→w'.heap[w.heap.size]?=some (.cells #[.string cn,.int .i64 cv] 49 (0,0))→Below w.heap.size w w'→Q .normal a' w'):∀ac,Frm 38 [(2,s_2),(3,s_3),(11,s_11),(12,s_12),(13,s_13),(6,s_6),(7,s_7),(18,.slice (some ⟨b,o,none⟩) nm1 cm),(19,s_19),(20,.int .i64 (j:Nat))] ac→Code.wp Tryd.prog c_lk_r7 Q ac w := by
  refine fO (frame_lk ?_)
  intros
  rename_i hq
  iterate 10 (obtain ⟨e,hq⟩ := hq; obtain rfl := sI e; clear e)
  clear hq
  conv=>arg 2; whnf
  have q0:(0:Int)≤(j:Int) := by omega
  have q1:(j:Int)<(nm1:Int) := by omega
  replace hN := Lib.hid hN
  go_wp2_with fail
  exact hN.out _ _ (by exact fR rfl rfl rfl) (heap_alloc_new _ _) ((Below.refl _ w).alloc (Nat.le_refl _) _)
def c_lk_r8 := sp 99 1676901 cF27
theorem lk_r8_wp {s_20:Value} {E:Nat} (he:w.heap[E]?=some (.cells #[.string cn,.int .i64 cv] 49 (0,0))) (hN:∀a',Frm 38 [(2,s_2),(3,s_3),(11,s_11),(12,s_12),(13,s_13),(6,.string s),(7,.bool (bb || decide (cn=s))),(18,s_18),(19,s_19),(20,s_20)] a'→Q .normal a' w):∀ac,Frm 38 [(2,s_2),(3,s_3),(11,s_11),(12,s_12),(13,s_13),(6,.string s),(7,.bool bb),(18,s_18),(19,s_19),(20,s_20),(9,.pointer (some ⟨E,0,none⟩))] ac→Code.wp Tryd.prog c_lk_r8 Q ac w := by
  refine fO (frame_lk ?_)
  intros
  rename_i hq
  iterate 11 (obtain ⟨e,hq⟩ := hq; obtain rfl := sI e; clear e)
  clear hq
  conv=>arg 2; whnf
  have x0 := cellv he 0 rfl
  have x1 := cellv he 1 rfl
  have xl := lt_heap he
  clear he
  cases bb
  · by_cases hy:cn=s
    · have t1:(cn.toList == s.toList)=true := by rw [hy]; exact beq_self_eq_true _
      rw [show (false || decide (cn=s))=true from by rw [decide_eq_true hy]; rfl] at hN
      clear hy
      replace hN := Lib.hid hN
      go_wp2_with fail
      exact hN.out _ (by exact fR rfl rfl rfl)
    · have t1:(cn.toList == s.toList)=false := beq_eq_false_iff_ne.2 (fun e=>hy (bytes_inj e))
      rw [show (false || decide (cn=s))=false from by rw [decide_eq_false hy]; rfl] at hN
      clear hy
      replace hN := Lib.hid hN
      go_wp2_with fail
      exact hN.out _ (by exact fR rfl rfl rfl)
  · rw [show (true || decide (cn=s))=true from rfl] at hN
    replace hN := Lib.hid hN
    go_wp2_with fail
    exact hN.out _ (by exact fR rfl rfl rfl)
def c_lk_r9 := sp 99 497253 cF27
theorem lk_r9_wp (hi:j<nm1) (hlim:nm1≤maxLen) (hN:∀a',Frm 38 [(2,s_2),(3,s_3),(11,s_11),(12,s_12),(13,s_13),(6,s_6),(7,s_7),(18,s_18),(19,s_19),(20,.int .i64 (j+1:Nat))] a'→Q .normal a' w):∀ac,Frm 38 [(2,s_2),(3,s_3),(11,s_11),(12,s_12),(13,s_13),(6,s_6),(7,s_7),(18,s_18),(19,s_19),(20,.int .i64 (j:Nat))] ac→Code.wp Tryd.prog c_lk_r9 Q ac w := by
  refine fO (frame_lk ?_)
  intros
  rename_i hq
  iterate 10 (obtain ⟨e,hq⟩ := hq; obtain rfl := sI e; clear e)
  clear hq
  conv=>arg 2; whnf
  have hi4:(j:Int)≤9223372036854775806 := by unfold maxLen at hlim; omega
  replace hN := Lib.hid hN
  go_wp2_with fail
  exact hN.out _ (by exact fR rfl rfl rfl)
def c_lk_r10 := sp 99 11877 cF27
theorem lk_r10_wp (hN:∀a',Frm 38 [(2,s_2),(3,s_3),(11,s_11),(12,s_12),(13,s_13),(33,.bool (!bb))] a'→Q .normal a' w):∀ac,Frm 38 [(2,s_2),(3,s_3),(11,s_11),(12,s_12),(13,s_13),(7,.bool bb)] ac→Code.wp Tryd.prog c_lk_r10 Q ac w := by
  refine fO (frame_lk ?_)
  intros
  rename_i hq
  iterate 6 (obtain ⟨e,hq⟩ := hq; obtain rfl := sI e; clear e)
  clear hq
  conv=>arg 2; whnf
  replace hN := Lib.hid hN
  go_wp2_with fail
  exact hN.out _ (by exact fR rfl rfl rfl)
def c_lk_r11 := sp 99 40549 cF27
theorem lk_r11_wp (hN:∀a',Frm 38 [(4,.bool true)] a'→Q .normal a' w):∀ac,Frm 38 [(2,s_2),(3,s_3)] ac→Code.wp Tryd.prog c_lk_r11 Q ac w := by
  refine fO (frame_lk ?_)
  intros
  rename_i hq
  iterate 2 (obtain ⟨e,hq⟩ := hq; obtain rfl := sI e; clear e)
  clear hq
  conv=>arg 2; whnf
  replace hN := Lib.hid hN
  go_wp2_with fail
  exact hN.out _ (id ⟨rfl,rfl,rfl,trivial⟩)
def c_lk_r12 := sp 99 485 cF27
theorem lk_r12_wp (hi:i<mc) (hlim:mc≤maxLen) (hN:∀a',Frm 38 [(2,s_2),(3,s_3),(11,s_11),(12,s_12),(13,.int .i64 (i+1:Nat))] a'→Q .normal a' w):∀ac,Frm 38 [(2,s_2),(3,s_3),(11,s_11),(12,s_12),(13,.int .i64 (i:Nat))] ac→Code.wp Tryd.prog c_lk_r12 Q ac w := by
  refine fO (frame_lk ?_)
  intros
  rename_i hq
  iterate 5 (obtain ⟨e,hq⟩ := hq; obtain rfl := sI e; clear e)
  clear hq
  conv=>arg 2; whnf
  have hi4:(i:Int)≤9223372036854775806 := by unfold maxLen at hlim; omega
  replace hN := Lib.hid hN
  go_wp2_with fail
  exact hN.out _ (by exact fR rfl rfl rfl)
def c_lk_r13 := sp 99 11 cF27
theorem lk_r13_wp (hgm:w.heap[wo.heap.size]?=some (.cells #[.int .i64 z,.slice Am nm1 cm,.slice Bm nm2 dm] 25 (0,0))) (ha:w.heap[wo.heap.size+1]?=some (.cells #[.int .i64 kd,.string nm,.slice A n1 c1,.slice B n2 c2] 29 (0,0))) (hc:Calls Tryd.prog 47 #[.agg #[.int .i64 z,.slice Am nm1 cm,.slice Bm nm2 dm],.agg #[.int .i64 kd,.string nm,.slice A n1 c1,.slice B n2 c2]] w fun e w'=>e=.returned (.bool bb)∧Below w.heap.size w w') (hN:∀a' w',Frm 38 [(4,.bool bb)] a'→Below w.heap.size w w'→Q .normal a' w'):∀ac,Frm 38 [(2,.pointer (some ⟨wo.heap.size,0,none⟩)),(3,.pointer (some ⟨(wo.heap.size+1),0,none⟩))] ac→Code.wp Tryd.prog c_lk_r13 Q ac w := by
  refine fO (frame_lk ?_)
  intros
  rename_i hq
  iterate 2 (obtain ⟨e,hq⟩ := hq; obtain rfl := sI e; clear e)
  clear hq
  conv=>arg 2; whnf
  have a0 := cellv ha 0 rfl
  have a1 := cellv ha 1 rfl
  have a2 := cellv ha 2 rfl
  have a3 := cellv ha 3 rfl
  have al := lt_heap ha
  clear ha
  have m0 := cellv hgm 0 rfl
  have m1 := cellv hgm 1 rfl
  have m2 := cellv hgm 2 rfl
  have ml := lt_heap hgm
  clear hgm
  have HN := Lib.hid hN
  have HC := Lib.hid hc
  clear hN hc
  go_wp2_with fail
  (with_reducible refine HC.out.mono ?_)
  rintro e w1 ⟨rfl,hb1⟩
  replace hb1 := Lib.hid hb1
  go_wp2_with fail
  exact HN.out _ _ (id ⟨rfl,rfl,rfl,trivial⟩) hb1.out
theorem lk_ret_wp {R:Ending→World→Prop} {w':World} (hR:R (.returned (.bool bb)) w'):∀ac,Frm 38 [(4,.bool bb)] ac→bodyPost Tryd.prog Tryd.f27 R .ret ac w' := by
  refine fO (frame_lk ?_)
  intros
  rename_i hq
  iterate 1 (obtain ⟨e,hq⟩ := hq; obtain rfl := sI e; clear e)
  clear hq
  refine bodyPost_ret (v := .bool bb) (by simp [results,Tryd.results27,go_sem]) rfl ?_
  exact hR
theorem consts_len9 (t:Fm):(fmConsts t).length≤(fmFrees [] t).length := by
  unfold fmConsts constsB
  rw [List.length_map]
  refine Nat.le_trans (compact_len _) ?_
  unfold sortS
  rw [List.length_mergeSort,List.length_map]
  exact Nat.le_refl _
def anyC (s:ByteArray) (l:List Con):Bool := l.any (fun x=>decide (x.nm=s))
theorem anyC_take (s:ByteArray) (l:List Con) (j:Nat) (h:j<l.length):anyC s (l.take (j+1))=(anyC s (l.take j) || decide (l[j].nm=s)) := by
  unfold anyC
  rw [List.take_succ_eq_append_getElem h,List.any_append]; simp
theorem anyC_eq (m:Md) (s:ByteArray):anyC s m.cs=(conV m s).isSome := by
  unfold anyC conV
  rw [Bool.eq_iff_iff,Option.isSome_map,List.find?_isSome]
  simp [cmpS_eq]
def allC (m:Md) (l:List ByteArray):Bool := l.all (fun c=>(conV m c).isSome)
theorem allC_take (m:Md) (l:List ByteArray) (j:Nat) (h:j<l.length):allC m (l.take (j+1))=(allC m (l.take j) && (conV m l[j]).isSome) := by
  unfold allC
  rw [List.take_succ_eq_append_getElem h,List.all_append]; simp
theorem allC_false (m:Md) (l:List ByteArray) (j:Nat) (h:allC m (l.take j)=false):allC m l=false := by
  unfold allC at h ⊢
  rw [← List.take_append_drop j l,List.all_append,h]; rfl
theorem lacks_any (m:Md) (hg:m.good) (t:Fm) (ms cs:List Value) (w:World) (S:Nat→Prop) (ht:fmRep.R w S t cs) (hS:∀b,S b→b<w.heap.size) (hm:m.In w S ms) (hn:t.nodes≤1000000) (hln:(fmFrees [] t).length≤1000000) :
    Calls Tryd.prog 27 #[.agg ms.toArray,.agg cs.toArray] w fun e w'=>e=.returned (.bool (!(allC m (fmConsts t) && hasT m t)))∧Below w.heap.size w w' := by
  obtain ⟨A,n1,c1,B,n2,c2,rfl,_,_,_,_⟩ := Fm.shape ht
  obtain ⟨Am,cm,Bm,dm,rfl,_,_,hcs,_⟩ := Md.shape hm
  have hnc := hg.nc
  obtain ⟨kd,hkd⟩:∃k,t.lab.kind=k := ⟨_,rfl⟩
  obtain ⟨nm,hnm⟩:∃k,t.lab.nm=k := ⟨_,rfl⟩
  rw [hkd,hnm] at ht ⊢
  go_enter Tryd.func27,Tryd.ntmps27
  refine wp_seq ?_
  refine lk_r0_wp (fun a0 h0=>?_) _ (id ⟨rfl,rfl,rfl,rfl,trivial⟩)
  refine gen_last (fun wx=>wx.heap[w.heap.size]?=some (.cells #[.int .i64 m.sz,.slice Am m.cs.length cm,.slice Bm m.rs.length dm] 25 (0,0))∧wx.heap[w.heap.size+1]?=some (.cells #[.int .i64 kd,.string nm,.slice A n1 c1,.slice B n2 c2] 29 (0,0))∧Below w.heap.size w wx) ⟨heap_old (by simp) (heap_alloc_new _ _),by simpa using heap_alloc_new (w.alloc (.cells #[.int .i64 m.sz,.slice Am m.cs.length cm,.slice Bm m.rs.length dm] 25)) _,((Below.refl _ _).alloc (Nat.le_refl _) _).alloc (by simp) _⟩ ?_
  rintro wy ⟨hmy,hay,hby⟩
  have hbys := hby.size
  have hayl := lt_heap hay
  have holdy := fun k hk=>hby.block k (hS k hk)
  have hco := (refConstsOf_any t [.int .i64 kd,.string nm,.slice A n1 c1,.slice B n2 c2] wy S (fmRep.keep ht holdy (fun _ h=>h)) (fun k hk=>by have := hS k hk; omega) hn hln).mono (R' := fun e w'=>∃Dc mc ec,e=.returned (.slice Dc mc ec)∧(mc=(fmConsts t).length∧strRep.Sl w' (fun k=>wy.heap.size≤k∧k<w'.heap.size) (.slice Dc mc ec) (fmConsts t)∧Below wy.heap.size wy w')) (by
    rintro e w' ⟨v,rfl,ho,hz,hb⟩
    have hsl := sl_of_row (S := fun k=>wy.heap.size≤k∧k<w'.heap.size) ho hz (by have := consts_len9 t; unfold maxLen; omega) (fun k hk=>⟨own_ge ho k hk,(ho.lt k hk).2⟩)
    obtain ⟨Dc,ec,rfl,_⟩ := hsl.shape
    exact ⟨Dc,_,ec,rfl,rfl,hsl,hb⟩)
  refine wp_seq ?_
  refine wp_seq ?_
  refine lk_r1_wp (PP := fun Dc mc ec w'=>mc=(fmConsts t).length∧strRep.Sl w' (fun k=>wy.heap.size≤k∧k<w'.heap.size) (.slice Dc mc ec) (fmConsts t)∧Below wy.heap.size wy w') hay hco (fun Dc mc ec a1 w1 h1 hp1=>?_) a0 h0
  obtain ⟨rfl,hrow,hb1⟩ := hp1
  obtain ⟨L,hL⟩:∃L,fmConsts t=L := ⟨_,rfl⟩
  have hLl:L.length≤1000000 := by have := consts_len9 t; rw [hL] at this; omega
  rw [hL] at h1 hrow ⊢
  have hb1s := hb1.size
  refine wp_block ?_
  refine wp_loopR (fun g a' w'=>∃i:Nat,i+g=L.length∧allC m (L.take i)=true∧Below w1.heap.size w1 w'∧Frm 38 [(2,.pointer (some ⟨w.heap.size,0,none⟩)),(3,.pointer (some ⟨(w.heap.size+1),0,none⟩)),(11,.slice Dc L.length ec),(12,.int .i64 (L.length:Nat)),(13,.int .i64 (i:Nat))] a') L.length ⟨0,by omega,rfl,Below.refl _ _,h1⟩ ?_
  rintro g a2 w2 ⟨i,hig,hno,hb2,h2⟩
  have hb2s := hb2.size
  have hbw2 := hb1.trans (hb2.mono hb1s)
  refine wp_seq ?_
  refine lk_r2_wp (fun a3 h3=>?_) a2 h2
  refine wp_seq ?_
  by_cases hi:i<L.length
  case neg =>
    refine wp_cond_false ((h3.eval (k := 14) (v := .bool (decide (i<L.length))) (by simp)).trans (by rw [decide_eq_false hi])) ?_
    refine wp_exit ?_
    repeat refine then_exit ?_
    refine inBlock_exit ?_
    show Code.wp _ _ _ a3 w2
    have hold2:∀k,S k→w2.heap[k]?=w.heap[k]? := fun k hk=>(hbw2.block k (by have := hS k hk; omega)).trans (holdy k hk)
    have hlr := lacksR_any m hg t.nodes t [.int .i64 kd,.string nm,.slice A n1 c1,.slice B n2 c2] w2 S (Nat.le_refl _) (fmRep.keep ht hold2 (fun _ h=>h)) (fun k hk=>by have := hS k hk; omega) (hm.keep hold2 (fun _ h=>h))
    refine wp_seq ?_
    refine lk_r13_wp ((hbw2.block _ (by omega)).trans hmy) ((hbw2.block _ hayl).trans hay) hlr (fun a4 w4 h4 hb4=>?_) a3 (h3.pick [0,1])
    refine wp_ret ?_
    refine lk_ret_wp ⟨?_,hby.trans ((hbw2.trans (hb4.mono (by omega))).mono hbys)⟩ a4 h4
    rw [List.take_of_length_le (by omega)] at hno
    rw [hno,Bool.true_and]
  refine wp_cond_true ((h3.eval (k := 14) (v := .bool (decide (i<L.length))) (by simp)).trans (by rw [decide_eq_true hi])) ?_
  refine wp_skip ?_
  show Code.wp _ _ _ a3 w2
  obtain ⟨b,o,cs9,rfl,hSb,hr9,hc9⟩ := Rep.Sl.at_ hrow (List.getElem?_eq_getElem hi)
  have e9:w2.cell? ⟨b,o+i,none⟩=some (.string L[i]) := (cell_keep (hb2.block b hSb.2) _).trans (by have := hc9 0 _ (by rw [show cs9=[.string L[i]] from hr9.1]; rfl); simpa [strRep] using this)
  refine wp_seq ?_
  refine wp_block ?_
  refine wp_seq ?_
  refine lk_r3_wp hi e9 (by omega) (fun a4 h4=>?_) a3 (h3.pick [0,1,2,3,4])
  refine wp_seq ?_
  refine lk_r4_wp (fun a5 h5=>?_) a4 h4
  refine wp_seq ?_
  refine wp_seq ?_
  refine lk_r5_wp ((hbw2.block _ (by omega)).trans hmy) (fun a6 h6=>?_) a5 h5
  refine wp_block ?_
  refine wp_loopR (fun g a' w'=>∃j:Nat,j+g=m.cs.length∧Below w2.heap.size w2 w'∧Frm 38 [(2,.pointer (some ⟨w.heap.size,0,none⟩)),(3,.pointer (some ⟨(w.heap.size+1),0,none⟩)),(11,.slice (some ⟨b,o,none⟩) L.length ec),(12,.int .i64 (L.length:Nat)),(13,.int .i64 (i:Nat)),(6,.string L[i]),(7,.bool (anyC L[i] (m.cs.take j))),(18,.slice Am m.cs.length cm),(19,.int .i64 (m.cs.length:Nat)),(20,.int .i64 (j:Nat))] a') m.cs.length ⟨0,by omega,Below.refl _ _,h6⟩ ?_
  rintro g2 a7 w7 ⟨j,hjg,hb7,h7⟩
  have hb7s := hb7.size
  have hbw7 := hbw2.trans (hb7.mono (by omega))
  refine wp_seq ?_
  refine lk_r6_wp (fun a8 h8=>?_) a7 h7
  refine wp_seq ?_
  by_cases hj:j<m.cs.length
  case neg =>
    refine wp_cond_false ((h8.eval (k := 21) (v := .bool (decide (j<m.cs.length))) (by simp)).trans (by rw [decide_eq_false hj])) ?_
    refine wp_exit ?_
    repeat refine then_exit ?_
    refine inBlock_exit ?_
    show Code.wp _ _ _ a8 w7
    rw [List.take_of_length_le (by omega),anyC_eq] at h8
    refine wp_seq ?_
    refine lk_r10_wp (fun a9 h9=>?_) a8 (h8.pick [0,1,2,3,4,6])
    have htk := allC_take m L i hi
    rw [hno,Bool.true_and] at htk
    cases hf:(conV m L[i]).isSome
    · rw [hf] at h9 htk
      refine wp_cond_true ((h9.eval (k := 33) (v := .bool (!false)) (by simp)).trans (by rw [show (!false)=true from rfl])) ?_
      refine wp_seq ?_
      refine lk_r11_wp (fun a10 h10=>?_) a9 (h9.pick [0,1])
      refine wp_ret ?_
      repeat (first | refine thenR ?_ | refine inBlockR ?_)
      refine lk_ret_wp (bb := true) ⟨?_,hby.trans (hbw7.mono hbys)⟩ a10 h10
      rw [allC_false m L _ htk]; rfl
    · rw [hf] at h9 htk
      refine wp_cond_false ((h9.eval (k := 33) (v := .bool (!true)) (by simp)).trans (by rw [show (!true)=false from rfl])) ?_
      refine wp_skip ?_
      show Code.wp _ _ _ a9 w7
      refine lk_r12_wp hi (by unfold maxLen; omega) (fun a10 h10=>?_) a9 (h9.pick [0,1,2,3,4])
      exact ⟨g - 1,by omega,i+1,by omega,htk,hb2.trans (hb7.mono hb2s),h10⟩
  refine wp_cond_true ((h8.eval (k := 21) (v := .bool (decide (j<m.cs.length))) (by simp)).trans (by rw [decide_eq_true hj])) ?_
  refine wp_skip ?_
  show Code.wp _ _ _ a8 w7
  obtain ⟨b2,o2,rfl,hSb2,x0,x1,_⟩ := con_at hcs hj
  have hkb:w7.heap[b2]?=w.heap[b2]? := (hbw7.block b2 (by have := hS b2 hSb2; omega)).trans (holdy b2 hSb2)
  refine wp_seq ?_
  refine wp_block ?_
  refine wp_seq ?_
  refine lk_r7_wp hj ((cell_keep hkb _).trans x0) ((cell_keep hkb _).trans x1) (by have := hS b2 hSb2; omega) (fun a9 w9 h9 he9 hb9=>?_) a8 (h8.pick [0,1,2,3,4,5,6,7,8,9])
  have hb79 := hb7.trans (hb9.mono hb7s)
  refine lk_r8_wp he9 (fun a10 h10=>?_) a9 h9
  show Code.wp _ _ _ a10 w9
  refine lk_r9_wp hj (by unfold maxLen; omega) (fun a11 h11=>?_) a10 h10
  refine ⟨g2 - 1,by omega,j+1,by omega,hb79,?_⟩
  rw [anyC_take L[i] m.cs j hj]
  exact h11
end
noncomputable section
set_option maxRecDepth 1000000
set_option maxHeartbeats 16000000
variable {Q:Exit→Act→World→Prop} {Am Bm A B:Option Addr} {nm1 cm nm2 dm n1 c1 n2 c2 mc i gw:Nat} {wo w:World} {kd:Int} {nm s:ByteArray} {s_2 s_4 s_3 s_15 s_16 s_17:Value} {bb:Bool}

theorem frame_ft {P:Act→Prop} (h:∀x0 x1 x2 x3 x4 x5 x6 x7 x8 x9 x10 x11 x12 x13 x14 x15 x16 x17 x18 x19 x20 x21 x22 x23 x24 x25 x26 x27 x28 x29 x30 x31 x32 x33 x34 x35 x36 x37:Value,P ⟨(x0 :: x1 :: x2 :: x3 :: x4 :: x5 :: x6 :: x7 :: x8 :: x9 :: x10 :: x11 :: x12 :: x13 :: x14 :: x15 :: x16 :: x17 :: x18 :: x19 :: x20 :: x21 :: x22 :: x23 :: x24 :: x25 :: x26 :: x27 :: x28 :: x29 :: x30 :: x31 :: x32 :: x33 :: x34 :: x35 :: x36 :: x37 :: []).toArray,[]⟩):∀a:Act,a.tmps.toList.length=38→a.defers=[]→P a := by
  rintro ⟨⟨l⟩,d⟩ hs hd
  simp only at hd
  subst hd
  revert l
  show ∀l:List Value,l.length=38→P ⟨⟨l⟩,[]⟩
  iterate 38 refine openS (fun _=>?_)
  refine open0 ?_
  exact h ..
noncomputable def cF30:Code := Tryd.f30.body.getD .skip
def c_ft_r0 := sp 99 2 cF30
theorem ft_r0_wp {z:Int} (hN:∀a',Frm 38 [(2,.pointer (some ⟨wo.heap.size,0,none⟩)),(3,.pointer (some ⟨(wo.heap.size+1),0,none⟩)),(4,.pointer (some ⟨(wo.heap.size+1+1),0,none⟩))] a'→Q .normal a' (((wo.alloc (.cells #[.int .i64 z,.slice Am nm1 cm,.slice Bm nm2 dm] 25)).alloc (.cells #[.int .i64 kd,.string nm,.slice A n1 c1,.slice B n2 c2] 29)).alloc (.cells #[.int .i64 0,.int .i64 0] 32))):∀ac,Frm 38 [(0,.agg #[.int .i64 z,.slice Am nm1 cm,.slice Bm nm2 dm]),(1,.agg #[.int .i64 kd,.string nm,.slice A n1 c1,.slice B n2 c2])] ac→Code.wp Tryd.prog c_ft_r0 Q ac wo := by
  refine fO (frame_ft ?_)
  intros
  rename_i hq
  iterate 2 (obtain ⟨e,hq⟩ := hq; obtain rfl := sI e; clear e)
  clear hq
  conv=>arg 2; whnf
  replace hN := Lib.hid hN
  go_wp2_with fail
  exact hN.out _ (by exact fR rfl rfl rfl)
def c_ft_r1 := sp 99 9 cF30
theorem ft_r1_wp {k:Nat} (ha:w.heap[wo.heap.size+1]?=some (.cells #[.int .i64 kd,.string nm,.slice A n1 c1,.slice B n2 c2] 29 (0,0))) (hc:Calls Tryd.prog 49 #[.agg #[.int .i64 kd,.string nm,.slice A n1 c1,.slice B n2 c2]] w fun e w'=>e=.returned (.int .i64 (k:Nat))∧Below w.heap.size w w') (hN:∀a' w',Frm 38 [(2,s_2),(3,.pointer (some ⟨(wo.heap.size+1),0,none⟩)),(4,s_4),(12,.bool (decide (5<k)))] a'→Below w.heap.size w w'→Q .normal a' w'):∀ac,Frm 38 [(2,s_2),(3,.pointer (some ⟨(wo.heap.size+1),0,none⟩)),(4,s_4)] ac→Code.wp Tryd.prog c_ft_r1 Q ac w := by
  refine fO (frame_ft ?_)
  intros
  rename_i hq
  iterate 3 (obtain ⟨e,hq⟩ := hq; obtain rfl := sI e; clear e)
  clear hq
  conv=>arg 2; whnf
  have a0 := cellv ha 0 rfl
  have a1 := cellv ha 1 rfl
  have a2 := cellv ha 2 rfl
  have a3 := cellv ha 3 rfl
  have al := lt_heap ha
  clear ha
  by_cases h:5<k
  · have t1:decide ((5:Int)<(k:Int))=true := decide_eq_true (by omega)
    rw [show decide (5<k)=true from decide_eq_true h] at hN
    clear h
    have HN := Lib.hid hN
    have HC := Lib.hid hc
    clear hN hc
    go_wp2_with fail
    (with_reducible refine HC.out.mono ?_)
    rintro e w1 ⟨rfl,hb1⟩
    replace hb1 := Lib.hid hb1
    go_wp2_with fail
    exact HN.out _ _ (by exact fR rfl rfl rfl) hb1.out
  · have t1:decide ((5:Int)<(k:Int))=false := decide_eq_false (by omega)
    rw [show decide (5<k)=false from decide_eq_false h] at hN
    clear h
    have HN := Lib.hid hN
    have HC := Lib.hid hc
    clear hN hc
    go_wp2_with fail
    (with_reducible refine HC.out.mono ?_)
    rintro e w1 ⟨rfl,hb1⟩
    replace hb1 := Lib.hid hb1
    go_wp2_with fail
    exact HN.out _ _ (by exact fR rfl rfl rfl) hb1.out
def c_ft_r2 := sp 99 37 cF30
theorem ft_r2_wp (hz:w.heap[wo.heap.size+1+1]?=some (.cells #[.int .i64 0,.int .i64 0] 32 (0,0))) (hN:∀a' w',Frm 38 [(4,.pointer (some ⟨(wo.heap.size+1+1),0,none⟩))] a'→w'.heap[wo.heap.size+1+1]?=some (.cells #[.int .i64 17,.int .i64 (-2)] 32 (0,0))→Below wo.heap.size w w'→Q .normal a' w'):∀ac,Frm 38 [(2,s_2),(3,s_3),(4,.pointer (some ⟨(wo.heap.size+1+1),0,none⟩))] ac→Code.wp Tryd.prog c_ft_r2 Q ac w := by
  refine fO (frame_ft ?_)
  intros
  rename_i hq
  iterate 3 (obtain ⟨e,hq⟩ := hq; obtain rfl := sI e; clear e)
  clear hq
  conv=>arg 2; whnf
  have z0 := cellv hz 0 rfl
  have z1 := cellv hz 1 rfl
  have zf0 := free_heap hz 0
  have zf1 := free_heap hz 1
  have zl := lt_heap hz
  replace hz := Lib.hid hz
  replace hN := Lib.hid hN
  go_wp2_with fail
  exact hN.out _ _ (id ⟨rfl,rfl,rfl,trivial⟩) (at2 hz.out) (((Below.refl _ w).setCell (show wo.heap.size≤wo.heap.size+1+1 by omega) _).setCell (show wo.heap.size≤wo.heap.size+1+1 by omega) _)
def c_ft_r3 := sp 99 19 cF30
theorem ft_r3_wp {PP:Option Addr→Nat→Nat→World→Prop} (ha:w.heap[wo.heap.size+1]?=some (.cells #[.int .i64 kd,.string nm,.slice A n1 c1,.slice B n2 c2] 29 (0,0))) (hc:Calls Tryd.prog 50 #[.agg #[.int .i64 kd,.string nm,.slice A n1 c1,.slice B n2 c2]] w fun e w'=>∃Dc mc ec,e=.returned (.slice Dc mc ec)∧PP Dc mc ec w') (hN:∀Dc mc ec a' w',Frm 38 [(2,s_2),(3,.pointer (some ⟨(wo.heap.size+1),0,none⟩)),(4,s_4),(15,.slice Dc mc ec),(16,.int .i64 (mc:Nat)),(17,.int .i64 (0:Nat))] a'→PP Dc mc ec w'→Q .normal a' w'):∀ac,Frm 38 [(2,s_2),(3,.pointer (some ⟨(wo.heap.size+1),0,none⟩)),(4,s_4)] ac→Code.wp Tryd.prog c_ft_r3 Q ac w := by
  refine fO (frame_ft ?_)
  intros
  rename_i hq
  iterate 3 (obtain ⟨e,hq⟩ := hq; obtain rfl := sI e; clear e)
  clear hq
  conv=>arg 2; whnf
  have a0 := cellv ha 0 rfl
  have a1 := cellv ha 1 rfl
  have a2 := cellv ha 2 rfl
  have a3 := cellv ha 3 rfl
  have al := lt_heap ha
  clear ha
  have HN := Lib.hid hN
  have HC := Lib.hid hc
  clear hN hc
  go_wp2_with fail
  (with_reducible refine HC.out.mono ?_)
  rintro e w1 ⟨Dc,mc,ec,rfl,hb1⟩
  replace hb1 := Lib.hid hb1
  go_wp2_with fail
  exact HN.out _ _ _ _ _ (by exact fR rfl rfl rfl) hb1.out
def c_ft_r4 := sp 99 139 cF30
theorem ft_r4_wp (hN:∀a',Frm 38 [(2,s_2),(3,s_3),(4,s_4),(15,s_15),(16,.int .i64 (mc:Nat)),(17,.int .i64 (i:Nat)),(18,.bool (decide (i<mc)))] a'→Q .normal a' w):∀ac,Frm 38 [(2,s_2),(3,s_3),(4,s_4),(15,s_15),(16,.int .i64 (mc:Nat)),(17,.int .i64 (i:Nat))] ac→Code.wp Tryd.prog c_ft_r4 Q ac w := by
  refine fO (frame_ft ?_)
  intros
  rename_i hq
  iterate 6 (obtain ⟨e,hq⟩ := hq; obtain rfl := sI e; clear e)
  clear hq
  conv=>arg 2; whnf
  by_cases h:i<mc
  · have t1:decide ((i:Int)<(mc:Int))=true := by first | exact decide_eq_true (by omega) | exact beq_iff_eq.2 (by omega) | exact bne_iff_ne.2 (by omega)
    have t2:(decide (i<mc))=true := decide_eq_true h
    rw [t2] at hN
    clear h
    replace hN := Lib.hid hN
    go_wp2_with fail
    exact hN.out _ (by exact fR rfl rfl rfl)
  · have t1:decide ((i:Int)<(mc:Int))=false := by first | exact decide_eq_false (by omega) | exact beq_eq_false_iff_ne.2 (by omega) | exact bne_eq_false_iff_eq.2 (by omega)
    have t2:(decide (i<mc))=false := decide_eq_false h
    rw [t2] at hN
    clear h
    replace hN := Lib.hid hN
    go_wp2_with fail
    exact hN.out _ (by exact fR rfl rfl rfl)
def c_ft_r5 := sp 99 2251 cF30
theorem ft_r5_wp {b o:Nat} {ec:Nat} (hi:i<mc) (hc:w.cell? ⟨b,o+i,none⟩=some (.string s)) (hbl:b<w.heap.size) (hN:∀a',Frm 38 [(2,s_2),(3,s_3),(4,s_4),(15,.slice (some ⟨b,o,none⟩) mc ec),(16,s_16),(17,.int .i64 (i:Nat)),(6,.string s)] a'→Q .normal a' w):∀ac,Frm 38 [(2,s_2),(3,s_3),(4,s_4),(15,.slice (some ⟨b,o,none⟩) mc ec),(16,s_16),(17,.int .i64 (i:Nat))] ac→Code.wp Tryd.prog c_ft_r5 Q ac w := by
  refine fO (frame_ft ?_)
  intros
  rename_i hq
  iterate 6 (obtain ⟨e,hq⟩ := hq; obtain rfl := sI e; clear e)
  clear hq
  conv=>arg 2; whnf
  have q0:(0:Int)≤(i:Int) := by omega
  have q1:(i:Int)<(mc:Int) := by omega
  replace hN := Lib.hid hN
  go_wp2_with fail
  exact hN.out _ (by exact fR rfl rfl rfl)
def c_ft_r6 := sp 99 5323 cF30
theorem ft_r6_wp {v:Int} {z:Int} (hgm:w.heap[wo.heap.size]?=some (.cells #[.int .i64 z,.slice Am nm1 cm,.slice Bm nm2 dm] 25 (0,0))) (hc:Calls Tryd.prog 42 #[.agg #[.int .i64 z,.slice Am nm1 cm,.slice Bm nm2 dm],.string s] w fun e w'=>e=.returned (.tuple #[.int .i64 v,.bool bb])∧Below w.heap.size w w') (hN:∀a' w',Frm 38 [(2,.pointer (some ⟨wo.heap.size,0,none⟩)),(3,s_3),(4,s_4),(15,s_15),(16,s_16),(17,s_17),(8,.bool bb)] a'→Below w.heap.size w w'→Q .normal a' w'):∀ac,Frm 38 [(2,.pointer (some ⟨wo.heap.size,0,none⟩)),(3,s_3),(4,s_4),(15,s_15),(16,s_16),(17,s_17),(6,.string s)] ac→Code.wp Tryd.prog c_ft_r6 Q ac w := by
  refine fO (frame_ft ?_)
  intros
  rename_i hq
  iterate 7 (obtain ⟨e,hq⟩ := hq; obtain rfl := sI e; clear e)
  clear hq
  conv=>arg 2; whnf
  have m0 := cellv hgm 0 rfl
  have m1 := cellv hgm 1 rfl
  have m2 := cellv hgm 2 rfl
  have ml := lt_heap hgm
  clear hgm
  have HN := Lib.hid hN
  have HC := Lib.hid hc
  clear hN hc
  go_wp2_with fail
  (with_reducible refine HC.out.mono ?_)
  rintro e w1 ⟨rfl,hb1⟩
  replace hb1 := Lib.hid hb1
  go_wp2_with fail
  exact HN.out _ _ (by exact fR rfl rfl rfl) hb1.out
def c_ft_r7 := sp 99 11467 cF30
theorem ft_r7_wp (hN:∀a',Frm 38 [(2,s_2),(3,s_3),(4,s_4),(15,s_15),(16,s_16),(17,s_17),(28,.bool (!bb))] a'→Q .normal a' w):∀ac,Frm 38 [(2,s_2),(3,s_3),(4,s_4),(15,s_15),(16,s_16),(17,s_17),(8,.bool bb)] ac→Code.wp Tryd.prog c_ft_r7 Q ac w := by
  refine fO (frame_ft ?_)
  intros
  rename_i hq
  iterate 7 (obtain ⟨e,hq⟩ := hq; obtain rfl := sI e; clear e)
  clear hq
  conv=>arg 2; whnf
  replace hN := Lib.hid hN
  go_wp2_with fail
  exact hN.out _ (by exact fR rfl rfl rfl)
def c_ft_r8 := sp 99 40139 cF30
theorem ft_r8_wp (hz:w.heap[wo.heap.size+1+1]?=some (.cells #[.int .i64 0,.int .i64 0] 32 (0,0))) (hN:∀a' w',Frm 38 [(4,.pointer (some ⟨(wo.heap.size+1+1),0,none⟩))] a'→w'.heap[wo.heap.size+1+1]?=some (.cells #[.int .i64 6,.int .i64 (-2)] 32 (0,0))→Below wo.heap.size w w'→Q .normal a' w'):∀ac,Frm 38 [(2,s_2),(3,s_3),(4,.pointer (some ⟨(wo.heap.size+1+1),0,none⟩))] ac→Code.wp Tryd.prog c_ft_r8 Q ac w := by
  refine fO (frame_ft ?_)
  intros
  rename_i hq
  iterate 3 (obtain ⟨e,hq⟩ := hq; obtain rfl := sI e; clear e)
  clear hq
  conv=>arg 2; whnf
  have z0 := cellv hz 0 rfl
  have z1 := cellv hz 1 rfl
  have zf0 := free_heap hz 0
  have zf1 := free_heap hz 1
  have zl := lt_heap hz
  replace hz := Lib.hid hz
  replace hN := Lib.hid hN
  go_wp2_with fail
  exact hN.out _ _ (id ⟨rfl,rfl,rfl,trivial⟩) (at2 hz.out) (((Below.refl _ w).setCell (show wo.heap.size≤wo.heap.size+1+1 by omega) _).setCell (show wo.heap.size≤wo.heap.size+1+1 by omega) _)
def c_ft_r9 := sp 99 971 cF30
theorem ft_r9_wp (hi:i<mc) (hlim:mc≤maxLen) (hN:∀a',Frm 38 [(2,s_2),(3,s_3),(4,s_4),(15,s_15),(16,s_16),(17,.int .i64 (i+1:Nat))] a'→Q .normal a' w):∀ac,Frm 38 [(2,s_2),(3,s_3),(4,s_4),(15,s_15),(16,s_16),(17,.int .i64 (i:Nat))] ac→Code.wp Tryd.prog c_ft_r9 Q ac w := by
  refine fO (frame_ft ?_)
  intros
  rename_i hq
  iterate 6 (obtain ⟨e,hq⟩ := hq; obtain rfl := sI e; clear e)
  clear hq
  conv=>arg 2; whnf
  have hi4:(i:Int)≤9223372036854775806 := by unfold maxLen at hlim; omega
  replace hN := Lib.hid hN
  go_wp2_with fail
  exact hN.out _ (by exact fR rfl rfl rfl)
def c_ft_r10 := sp 99 23 cF30
theorem ft_r10_wp (hN:∀z a' w',Frm 38 [(2,s_2),(3,s_3),(4,s_4),(9,.pointer (some ⟨w.heap.size,0,none⟩))] a'→w'.heap[w.heap.size]?=some (.cells #[z] 70 (0,0))→Below w.heap.size w w'→Q .normal a' w'):∀ac,Frm 38 [(2,s_2),(3,s_3),(4,s_4)] ac→Code.wp Tryd.prog c_ft_r10 Q ac w := by
  refine fO (frame_ft ?_)
  intros
  rename_i hq
  iterate 3 (obtain ⟨e,hq⟩ := hq; obtain rfl := sI e; clear e)
  clear hq
  conv=>arg 2; whnf
  replace hN := Lib.hid hN
  go_wp2_with fail
  exact hN.out _ _ _ (by exact fR rfl rfl rfl) (heap_alloc_new _ _) ((Below.refl _ w).alloc (Nat.le_refl _) _)
def c_ft_r11 := sp 99 47 cF30
theorem ft_r11_wp {z:Value} (hw:w.heap[gw]?=some (.cells #[z] 70 (0,0))) (hN:∀a' w',Frm 38 [(2,.pointer (some ⟨wo.heap.size,0,none⟩)),(3,s_3),(4,s_4),(9,.pointer (some ⟨gw,0,none⟩))] a'→w'.heap[gw]?=some (.cells #[.func (Fn.func 51) #[] #[.pointer (some ⟨wo.heap.size,0,none⟩),.pointer (some ⟨gw,0,none⟩)]] 70 (0,0))→Keeps (·=gw) w w'→Q .normal a' w'):∀ac,Frm 38 [(2,.pointer (some ⟨wo.heap.size,0,none⟩)),(3,s_3),(4,s_4),(9,.pointer (some ⟨gw,0,none⟩))] ac→Code.wp Tryd.prog c_ft_r11 Q ac w := by
  refine fO (frame_ft ?_)
  intros
  rename_i hq
  iterate 4 (obtain ⟨e,hq⟩ := hq; obtain rfl := sI e; clear e)
  clear hq
  conv=>arg 2; whnf
  have z0 := cellv hw 0 rfl
  have zf0 := free_heap hw 0
  have zl := lt_heap hw
  replace hw := Lib.hid hw
  replace hN := Lib.hid hN
  go_wp2_with fail
  exact hN.out _ _ (by exact fR rfl rfl rfl) (heap_set hw.out 0 _) (Keeps.set (P := (·=gw)) (Keeps.refl _ w) (Or.inl rfl) 0 _)
def c_ft_r12 := sp 99 159 cF30
theorem ft_r12_wp (ha:w.heap[wo.heap.size+1]?=some (.cells #[.int .i64 kd,.string nm,.slice A n1 c1,.slice B n2 c2] 29 (0,0))) (hgw:w.heap[gw]?=some (.cells #[.func (Fn.func 51) #[] #[.pointer (some ⟨wo.heap.size,0,none⟩),.pointer (some ⟨gw,0,none⟩)]] 70 (0,0))) (hc:Calls Tryd.prog 51 #[.agg #[.int .i64 kd,.string nm,.slice A n1 c1,.slice B n2 c2],.pointer (some ⟨wo.heap.size,0,none⟩),.pointer (some ⟨gw,0,none⟩)] w fun e w'=>e=.returned (.bool bb)∧Below w.heap.size w w') (hN:∀a' w',Frm 38 [(2,s_2),(3,.pointer (some ⟨(wo.heap.size+1),0,none⟩)),(4,s_4),(35,.bool (!bb))] a'→Below w.heap.size w w'→Q .normal a' w'):∀ac,Frm 38 [(2,s_2),(3,.pointer (some ⟨(wo.heap.size+1),0,none⟩)),(4,s_4),(9,.pointer (some ⟨gw,0,none⟩))] ac→Code.wp Tryd.prog c_ft_r12 Q ac w := by
  refine fO (frame_ft ?_)
  intros
  rename_i hq
  iterate 4 (obtain ⟨e,hq⟩ := hq; obtain rfl := sI e; clear e)
  clear hq
  conv=>arg 2; whnf
  have a0 := cellv ha 0 rfl
  have a1 := cellv ha 1 rfl
  have a2 := cellv ha 2 rfl
  have a3 := cellv ha 3 rfl
  have al := lt_heap ha
  clear ha
  have f0 := cellv hgw 0 rfl
  have fl := lt_heap hgw
  clear hgw
  have HN := Lib.hid hN
  have HC := Lib.hid hc
  clear hN hc
  go_wp2_with fail
  (with_reducible refine HC.out.mono ?_)
  rintro e w1 ⟨rfl,hb1⟩
  replace hb1 := Lib.hid hb1
  go_wp2_with fail
  exact HN.out _ _ (by exact fR rfl rfl rfl) hb1.out
def c_ft_r13 := sp 99 607 cF30
theorem ft_r13_wp (hz:w.heap[wo.heap.size+1+1]?=some (.cells #[.int .i64 0,.int .i64 0] 32 (0,0))) (hN:∀a' w',Frm 38 [(4,.pointer (some ⟨(wo.heap.size+1+1),0,none⟩))] a'→w'.heap[wo.heap.size+1+1]?=some (.cells #[.int .i64 6,.int .i64 (-2)] 32 (0,0))→Below wo.heap.size w w'→Q .normal a' w'):∀ac,Frm 38 [(2,s_2),(3,s_3),(4,.pointer (some ⟨(wo.heap.size+1+1),0,none⟩))] ac→Code.wp Tryd.prog c_ft_r13 Q ac w := by
  refine fO (frame_ft ?_)
  intros
  rename_i hq
  iterate 3 (obtain ⟨e,hq⟩ := hq; obtain rfl := sI e; clear e)
  clear hq
  conv=>arg 2; whnf
  have z0 := cellv hz 0 rfl
  have z1 := cellv hz 1 rfl
  have zf0 := free_heap hz 0
  have zf1 := free_heap hz 1
  have zl := lt_heap hz
  replace hz := Lib.hid hz
  replace hN := Lib.hid hN
  go_wp2_with fail
  exact hN.out _ _ (id ⟨rfl,rfl,rfl,trivial⟩) (at2 hz.out) (((Below.refl _ w).setCell (show wo.heap.size≤wo.heap.size+1+1 by omega) _).setCell (show wo.heap.size≤wo.heap.size+1+1 by omega) _)
def c_ft_r14 := sp 99 191 cF30
theorem ft_r14_wp (hz:w.heap[wo.heap.size+1+1]?=some (.cells #[.int .i64 0,.int .i64 0] 32 (0,0))) (hN:∀a' w',Frm 38 [(4,.pointer (some ⟨(wo.heap.size+1+1),0,none⟩))] a'→w'.heap[wo.heap.size+1+1]?=some (.cells #[.int .i64 0,.int .i64 0] 32 (0,0))→Below wo.heap.size w w'→Q .normal a' w'):∀ac,Frm 38 [(2,s_2),(3,s_3),(4,.pointer (some ⟨(wo.heap.size+1+1),0,none⟩))] ac→Code.wp Tryd.prog c_ft_r14 Q ac w := by
  refine fO (frame_ft ?_)
  intros
  rename_i hq
  iterate 3 (obtain ⟨e,hq⟩ := hq; obtain rfl := sI e; clear e)
  clear hq
  conv=>arg 2; whnf
  have z0 := cellv hz 0 rfl
  have z1 := cellv hz 1 rfl
  have zf0 := free_heap hz 0
  have zf1 := free_heap hz 1
  have zl := lt_heap hz
  replace hz := Lib.hid hz
  replace hN := Lib.hid hN
  go_wp2_with fail
  exact hN.out _ _ (id ⟨rfl,rfl,rfl,trivial⟩) (at2 hz.out) (((Below.refl _ w).setCell (show wo.heap.size≤wo.heap.size+1+1 by omega) _).setCell (show wo.heap.size≤wo.heap.size+1+1 by omega) _)
theorem ft_ret_wp {R:Ending→World→Prop} {w':World} {gz:Nat} {x y:Int} (hz:w'.heap[gz]?=some (.cells #[.int .i64 x,.int .i64 y] 32 (0,0))) (hR:R (.returned (.agg #[.int .i64 x,.int .i64 y])) w'):∀ac,Frm 38 [(4,.pointer (some ⟨gz,0,none⟩))] ac→bodyPost Tryd.prog Tryd.f30 R .ret ac w' := by
  have z0 := cellv hz 0 rfl
  have z1 := cellv hz 1 rfl
  have zl := lt_heap hz
  refine fO (frame_ft ?_)
  intros
  rename_i hq
  iterate 1 (obtain ⟨e,hq⟩ := hq; obtain rfl := sI e; clear e)
  clear hq
  refine bodyPost_ret (v := .agg #[.int .i64 x,.int .i64 y]) (by simp [results,Tryd.results30,go_sem,z0,z1,zl]) rfl ?_
  exact hR
theorem sl_sizes9 {S:Nat→Prop} {v:Value} {l:List ByteArray} (h:strRep.Sl w S v l):∀s∈l,s.size≤maxLen := by
  intro s hs
  obtain ⟨k,hk,rfl⟩ := List.getElem_of_mem hs
  obtain ⟨A,n,c,rfl,_⟩ := id h
  obtain ⟨b,o,cs,_,_,hr,_⟩ := Rep.Sl.at_ h (List.getElem?_eq_getElem hk)
  exact hr.2
mutual
theorem frees_size9 (S:Nat→Prop) (w:World):∀(t:Tree FmL) (cs:List Value) (bd:List ByteArray),fmRep.R w S t cs→∀s∈fmFrees bd t,s.size≤maxLen
  | .mk a l,cs,bd,h,s,hs=>by
    obtain ⟨u,v,rfl,_,h1,h2⟩ := Fm.open_ h
    unfold fmFrees at hs
    rcases List.mem_append.1 hs with hs | hs
    · exact sl_sizes9 h1 s (List.mem_filter.1 hs).1
    · obtain ⟨A,n,c,rfl,hl,_,h3⟩ := h2
      cases l with
      | nil=>simp [fmFreess] at hs
      | cons t l =>
        obtain ⟨b,o,xs,_,_,hx,_⟩ := h3 (by rw [← hl]; simp)
        exact freess_size9 S w (t :: l) xs _ hx s hs
theorem freess_size9 (S:Nat→Prop) (w:World):∀(l:List (Tree FmL)) (xs:List Value) (bd:List ByteArray),fmRep.All w S l xs→∀s∈fmFreess bd l,s.size≤maxLen
  | [],_,_,_,s,hs=>by simp [fmFreess] at hs
  | t :: l,xs,bd,h,s,hs=>by
    obtain ⟨cs,rest,rfl,h1,h2⟩ := h
    unfold fmFreess at hs
    rcases List.mem_append.1 hs with hs | hs
    · exact frees_size9 S w t cs bd h1 s hs
    · exact freess_size9 S w l rest bd h2 s hs
end
def pairT (m:Md) (t:Fm):Int × Int := if 5<nestT t then (17,-2) else if allC m (fmConsts t)=false then (6,-2) else if hasT m t=false then (6,-2) else (0,0)
theorem fault_any (m:Md) (hg:m.good) (t:Fm) (ms cs:List Value) (w:World) (S:Nat→Prop) (ht:fmRep.R w S t cs) (hS:∀b,S b→b<w.heap.size) (hm:m.In w S ms) (hn:t.nodes≤1000000) (hln:(fmFrees [] t).length≤1000000) :
    Calls Tryd.prog 30 #[.agg ms.toArray,.agg cs.toArray] w fun e w'=>e=.returned (.agg #[.int .i64 (pairT m t).1,.int .i64 (pairT m t).2])∧Below w.heap.size w w' := by
  obtain ⟨A,n1,c1,B,n2,c2,rfl,_,_,_,_⟩ := Fm.shape ht
  obtain ⟨Am,cm,Bm,dm,rfl,_,_,hcs,_⟩ := Md.shape hm
  obtain ⟨kd,hkd⟩:∃k,t.lab.kind=k := ⟨_,rfl⟩
  obtain ⟨nm,hnm⟩:∃k,t.lab.nm=k := ⟨_,rfl⟩
  rw [hkd,hnm] at ht ⊢
  go_enter Tryd.func30,Tryd.ntmps30
  refine wp_seq ?_
  refine ft_r0_wp (fun a0 h0=>?_) _ (id ⟨rfl,rfl,rfl,rfl,trivial⟩)
  refine gen_last (fun wx=>wx.heap[w.heap.size]?=some (.cells #[.int .i64 m.sz,.slice Am m.cs.length cm,.slice Bm m.rs.length dm] 25 (0,0))∧wx.heap[w.heap.size+1]?=some (.cells #[.int .i64 kd,.string nm,.slice A n1 c1,.slice B n2 c2] 29 (0,0))∧wx.heap[w.heap.size+1+1]?=some (.cells #[.int .i64 0,.int .i64 0] 32 (0,0))∧Below w.heap.size w wx) ⟨heap_old (by simp; omega) (heap_old (by simp) (heap_alloc_new _ _)),heap_old (by simp) (by simpa using heap_alloc_new (w.alloc (.cells #[.int .i64 m.sz,.slice Am m.cs.length cm,.slice Bm m.rs.length dm] 25)) _),by simpa using heap_alloc_new ((w.alloc (.cells #[.int .i64 m.sz,.slice Am m.cs.length cm,.slice Bm m.rs.length dm] 25)).alloc (.cells #[.int .i64 kd,.string nm,.slice A n1 c1,.slice B n2 c2] 29)) _,(((Below.refl _ _).alloc (Nat.le_refl _) _).alloc (by simp) _).alloc (by simp; omega) _⟩ ?_
  rintro wy ⟨hmy,hay,hzy,hby⟩
  have hbys := hby.size
  have hzl := lt_heap hzy
  have holdy := fun k hk=>hby.block k (hS k hk)
  refine wp_seq ?_
  refine wp_seq ?_
  refine ft_r1_wp hay (nest_any 1000000 t [.int .i64 kd,.string nm,.slice A n1 c1,.slice B n2 c2] wy S hn (Nat.le_refl _) (fmRep.keep ht holdy (fun _ h=>h)) (fun k hk=>by have := hS k hk; omega)) (fun a1 w1 h1 hb1=>?_) a0 h0
  have hb1s := hb1.size
  by_cases hne:5<nestT t
  · refine wp_cond_true ((h1.eval (k := 12) (v := .bool (decide (5<nestT t))) (by simp)).trans (by rw [decide_eq_true hne])) ?_
    refine wp_seq ?_
    refine ft_r2_wp ((hb1.block _ hzl).trans hzy) (fun a2 w2 h2 hz2 hb2=>?_) a1 (h1.pick [0,1,2])
    refine wp_ret ?_
    repeat (first | refine thenR ?_ | refine inBlockR ?_)
    refine ft_ret_wp hz2 ⟨?_,((hby.trans (hb1.mono hbys)).trans hb2)⟩ a2 h2
    rw [show pairT m t=(17,-2) from if_pos hne]
  refine wp_cond_false ((h1.eval (k := 12) (v := .bool (decide (5<nestT t))) (by simp)).trans (by rw [decide_eq_false hne])) ?_
  refine wp_skip ?_
  show Code.wp _ _ _ a1 w1
  have hold1:∀k,S k→w1.heap[k]?=w.heap[k]? := fun k hk=>(hb1.block k (by have := hS k hk; omega)).trans (holdy k hk)
  have hco := (constants_any t [.int .i64 kd,.string nm,.slice A n1 c1,.slice B n2 c2] w1 S (fmRep.keep ht hold1 (fun _ h=>h)) (fun k hk=>by have := hS k hk; omega) hn hln).mono (R' := fun e w'=>∃Dc mc ec,e=.returned (.slice Dc mc ec)∧(mc=(fmConsts t).length∧strRep.Sl w' (fun k=>w1.heap.size≤k∧k<w'.heap.size) (.slice Dc mc ec) (fmConsts t)∧Below w1.heap.size w1 w')) (by
    rintro e w' ⟨v,rfl,ho,hb⟩
    have hsl := sl_of_row (S := fun k=>w1.heap.size≤k∧k<w'.heap.size) ho (fun s hs=>frees_size9 S w t _ [] ht s (mem_constsB.1 hs)) (by have := consts_len9 t; unfold maxLen; omega) (fun k hk=>⟨own_ge ho k hk,(ho.lt k hk).2⟩)
    obtain ⟨Dc,ec,rfl,_⟩ := hsl.shape
    exact ⟨Dc,_,ec,rfl,rfl,hsl,hb⟩)
  refine wp_seq ?_
  refine wp_seq ?_
  refine ft_r3_wp (PP := fun Dc mc ec w'=>mc=(fmConsts t).length∧strRep.Sl w' (fun k=>w1.heap.size≤k∧k<w'.heap.size) (.slice Dc mc ec) (fmConsts t)∧Below w1.heap.size w1 w') ((hb1.block _ (by omega)).trans hay) hco (fun Dc mc ec a2 w2 h2 hp2=>?_) a1 (h1.pick [0,1,2])
  obtain ⟨rfl,hrow,hb2⟩ := hp2
  have hpair:pairT m t=if allC m (fmConsts t)=false then (6,-2) else if hasT m t=false then (6,-2) else (0,0) := if_neg hne
  rw [hpair]
  obtain ⟨L,hL⟩:∃L,fmConsts t=L := ⟨_,rfl⟩
  have hLl:L.length≤1000000 := by have := consts_len9 t; rw [hL] at this; omega
  rw [hL] at h2 hrow ⊢
  have hb2s := hb2.size
  have hbw2 := hb1.trans (hb2.mono hb1s)
  refine wp_block ?_
  refine wp_loopR (fun g a' w'=>∃i:Nat,i+g=L.length∧allC m (L.take i)=true∧Below w2.heap.size w2 w'∧Frm 38 [(2,.pointer (some ⟨w.heap.size,0,none⟩)),(3,.pointer (some ⟨(w.heap.size+1),0,none⟩)),(4,.pointer (some ⟨(w.heap.size+1+1),0,none⟩)),(15,.slice Dc L.length ec),(16,.int .i64 (L.length:Nat)),(17,.int .i64 (i:Nat))] a') L.length ⟨0,by omega,rfl,Below.refl _ _,h2⟩ ?_
  rintro g a3 w3 ⟨i,hig,hno,hb3,h3⟩
  have hb3s := hb3.size
  have hbw3 := hbw2.trans (hb3.mono (by omega))
  have hold3:∀k,S k→w3.heap[k]?=w.heap[k]? := fun k hk=>(hbw3.block k (by have := hS k hk; omega)).trans (holdy k hk)
  have hS3:∀k,S k→k<w3.heap.size := fun k hk=>by have := hS k hk; omega
  refine wp_seq ?_
  refine ft_r4_wp (fun a4 h4=>?_) a3 h3
  refine wp_seq ?_
  by_cases hi:i<L.length
  case neg =>
    refine wp_cond_false ((h4.eval (k := 18) (v := .bool (decide (i<L.length))) (by simp)).trans (by rw [decide_eq_false hi])) ?_
    refine wp_exit ?_
    repeat refine then_exit ?_
    refine inBlock_exit ?_
    show Code.wp _ _ _ a4 w3
    rw [List.take_of_length_le (by omega)] at hno
    rw [if_neg (by rw [hno]; exact Bool.noConfusion)]
    refine wp_seq ?_
    refine ft_r10_wp (fun z a5 w5 h5 hz5 hb5=>?_) a4 (h4.pick [0,1,2])
    have hb5s := hb5.size
    refine wp_seq ?_
    refine ft_r11_wp hz5 (fun a6 w6 h6 hw6 hk6=>?_) a5 h5
    have hk6s := hk6.size
    have hb36:Below w3.heap.size w3 w6 := hb5.trans (hk6.below (fun k hk=>Nat.le_of_eq hk.symm) hb5s)
    have hbw6 := hbw3.trans (hb36.mono (by omega))
    have hold6:∀k,S k→w6.heap[k]?=w.heap[k]? := fun k hk=>(hbw6.block k (by have := hS k hk; omega)).trans (holdy k hk)
    have hf1 := fault1_any m hg 1000000 t [.int .i64 kd,.string nm,.slice A n1 c1,.slice B n2 c2] w6 S hn (fmRep.keep ht hold6 (fun _ h=>h)) (fun k hk=>by have := hS k hk; omega) (hm.keep hold6 (fun _ h=>h)) ((hbw6.block _ (by omega)).trans hmy) hw6
    refine wp_seq ?_
    refine wp_seq ?_
    refine ft_r12_wp ((hbw6.block _ (by omega)).trans hay) hw6 hf1 (fun a7 w7 h7 hb7=>?_) a6 h6
    have hbw7 := hbw6.trans (hb7.mono (by omega))
    cases hf:hasT m t
    · rw [hf] at h7
      refine wp_cond_true ((h7.eval (k := 35) (v := .bool (!false)) (by simp)).trans (by rw [show (!false)=true from rfl])) ?_
      refine wp_seq ?_
      refine ft_r13_wp ((hbw7.block _ hzl).trans hzy) (fun a8 w8 h8 hz8 hb8=>?_) a7 (h7.pick [0,1,2])
      refine wp_ret ?_
      repeat (first | refine thenR ?_ | refine inBlockR ?_)
      refine ft_ret_wp hz8 ⟨?_,((hby.trans (hbw7.mono hbys)).trans hb8)⟩ a8 h8
      rw [if_pos rfl]
    · rw [hf] at h7
      refine wp_cond_false ((h7.eval (k := 35) (v := .bool (!true)) (by simp)).trans (by rw [show (!true)=false from rfl])) ?_
      refine wp_skip ?_
      show Code.wp _ _ _ a7 w7
      refine wp_seq ?_
      refine ft_r14_wp ((hbw7.block _ hzl).trans hzy) (fun a8 w8 h8 hz8 hb8=>?_) a7 (h7.pick [0,1,2])
      refine wp_ret ?_
      repeat (first | refine thenR ?_ | refine inBlockR ?_)
      refine ft_ret_wp hz8 ⟨?_,((hby.trans (hbw7.mono hbys)).trans hb8)⟩ a8 h8
      rw [if_neg Bool.noConfusion]
  refine wp_cond_true ((h4.eval (k := 18) (v := .bool (decide (i<L.length))) (by simp)).trans (by rw [decide_eq_true hi])) ?_
  refine wp_skip ?_
  show Code.wp _ _ _ a4 w3
  obtain ⟨b,o,cs9,rfl,hSb,hr9,hc9⟩ := Rep.Sl.at_ hrow (List.getElem?_eq_getElem hi)
  have e9:w3.cell? ⟨b,o+i,none⟩=some (.string L[i]) := (cell_keep (hb3.block b hSb.2) _).trans (by have := hc9 0 _ (by rw [show cs9=[.string L[i]] from hr9.1]; rfl); simpa [strRep] using this)
  refine wp_seq ?_
  refine wp_block ?_
  refine wp_seq ?_
  refine ft_r5_wp hi e9 (by omega) (fun a5 h5=>?_) a4 (h4.pick [0,1,2,3,4,5])
  refine wp_seq ?_
  refine ft_r6_wp ((hbw3.block _ (by omega)).trans hmy) (constant_any m L[i] _ w3 S (hm.keep hold3 (fun _ h=>h)) hS3 hg) (fun a6 w6 h6 hb6=>?_) a5 h5
  have hb36 := hb3.trans (hb6.mono hb3s)
  refine wp_seq ?_
  refine ft_r7_wp (fun a7 h7=>?_) a6 (h6.pick [0,1,2,3,4,5,6])
  have htk := allC_take m L i hi
  rw [hno,Bool.true_and] at htk
  cases hf:(conV m L[i]).isSome
  · rw [hf] at h7 htk
    refine wp_cond_true ((h7.eval (k := 28) (v := .bool (!false)) (by simp)).trans (by rw [show (!false)=true from rfl])) ?_
    refine wp_seq ?_
    refine ft_r8_wp (((hbw3.trans (hb6.mono (by omega))).block _ hzl).trans hzy) (fun a8 w8 h8 hz8 hb8=>?_) a7 (h7.pick [0,1,2])
    refine wp_ret ?_
    repeat (first | refine thenR ?_ | refine inBlockR ?_)
    refine ft_ret_wp hz8 ⟨?_,((hby.trans ((hbw3.trans (hb6.mono (by omega))).mono hbys)).trans hb8)⟩ a8 h8
    rw [if_pos (allC_false m L _ htk)]
  · rw [hf] at h7 htk
    refine wp_cond_false ((h7.eval (k := 28) (v := .bool (!true)) (by simp)).trans (by rw [show (!true)=false from rfl])) ?_
    refine wp_skip ?_
    show Code.wp _ _ _ a7 w6
    refine ft_r9_wp hi (by unfold maxLen; omega) (fun a9 h9=>?_) a7 (h7.pick [0,1,2,3,4,5])
    exact ⟨g - 1,by omega,i+1,by omega,htk,hb36,h9⟩
end
noncomputable section
set_option maxRecDepth 1000000
set_option maxHeartbeats 16000000
variable {s_0 s_1 s_2:Value} {Q:Exit→Act→World→Prop} {w:World} {me ee ge k b o:Nat} {z v:Int} {x:ByteArray}

theorem frame_wv {P:Act→Prop} (h:∀x0 x1 x2 x3 x4 x5 x6 x7 x8 x9 x10 x11 x12 x13 x14 x15 x16 x17 x18 x19 x20 x21 x22 x23 x24 x25 x26 x27 x28 x29 x30 x31 x32 x33:Value,P ⟨(x0 :: x1 :: x2 :: x3 :: x4 :: x5 :: x6 :: x7 :: x8 :: x9 :: x10 :: x11 :: x12 :: x13 :: x14 :: x15 :: x16 :: x17 :: x18 :: x19 :: x20 :: x21 :: x22 :: x23 :: x24 :: x25 :: x26 :: x27 :: x28 :: x29 :: x30 :: x31 :: x32 :: x33 :: []).toArray,[]⟩):∀a:Act,a.tmps.toList.length=34→a.defers=[]→P a := by
  rintro ⟨⟨l⟩,d⟩ hs hd
  simp only at hd
  subst hd
  revert l
  show ∀l:List Value,l.length=34→P ⟨⟨l⟩,[]⟩
  iterate 34 refine openS (fun _=>?_)
  refine open0 ?_
  exact h ..
noncomputable def cF41:Code := Tryd.f41.body.getD .skip
def c_wv_r0 := sp 99 2 cF41
theorem wv_r0_wp (hN:∀a',Frm 34 [(0,s_0),(1,s_1),(2,s_2)] a'→Q .normal a' w):∀ac,Frm 34 [(0,s_0),(1,s_1),(2,s_2)] ac→Code.wp Tryd.prog c_wv_r0 Q ac w := by
  refine fO (frame_wv ?_)
  intros
  rename_i hq
  iterate 3 (obtain ⟨e,hq⟩ := hq; obtain rfl := sI e; clear e)
  clear hq
  conv=>arg 2; whnf
  replace hN := Lib.hid hN
  go_wp2_with fail
  exact hN.out _ (by exact fR rfl rfl rfl)
def c_wv_r1 := sp 99 9 cF41
theorem wv_r1_wp {De:Option Addr} (hme:me≤1000000) (hge:w.heap[ge]?=some (.cells #[.slice De me ee] 62 (0,0))) (hN:∀a',Frm 34 [(0,s_0),(1,.pointer (some ⟨ge,0,none⟩)),(2,s_2),(5,.int .i64 ((me:Int) - 1))] a'→Q .normal a' w):∀ac,Frm 34 [(0,s_0),(1,.pointer (some ⟨ge,0,none⟩)),(2,s_2)] ac→Code.wp Tryd.prog c_wv_r1 Q ac w := by
  refine fO (frame_wv ?_)
  intros
  rename_i hq
  iterate 3 (obtain ⟨e,hq⟩ := hq; obtain rfl := sI e; clear e)
  clear hq
  conv=>arg 2; whnf
  have q1:(me:Int)≤1000000 := by omega
  have g0 := cellv hge 0 rfl
  have gl := lt_heap hge
  clear hge
  replace hN := Lib.hid hN
  go_wp2_with fail
  exact hN.out _ (by exact fR rfl rfl rfl)
def c_wv_r2 := sp 99 133 cF41
theorem wv_r2_wp (hN:∀a',Frm 34 [(0,s_0),(1,s_1),(2,s_2),(5,.int .i64 (z)),(12,.bool (decide (0≤z)))] a'→Q .normal a' w):∀ac,Frm 34 [(0,s_0),(1,s_1),(2,s_2),(5,.int .i64 (z))] ac→Code.wp Tryd.prog c_wv_r2 Q ac w := by
  refine fO (frame_wv ?_)
  intros
  rename_i hq
  iterate 4 (obtain ⟨e,hq⟩ := hq; obtain rfl := sI e; clear e)
  clear hq
  conv=>arg 2; whnf
  by_cases h:0≤z
  · have t1:decide (0≤z)=true := by first | exact decide_eq_true (by omega) | exact beq_iff_eq.2 (by omega) | exact bne_iff_ne.2 (by omega)
    have t2:(decide (0≤z))=true := decide_eq_true h
    rw [t2] at hN
    clear h
    replace hN := Lib.hid hN
    go_wp2_with fail
    exact hN.out _ (by exact fR rfl rfl rfl)
  · have t1:decide (0≤z)=false := by first | exact decide_eq_false (by omega) | exact beq_eq_false_iff_ne.2 (by omega) | exact bne_eq_false_iff_eq.2 (by omega)
    have t2:(decide (0≤z))=false := decide_eq_false h
    rw [t2] at hN
    clear h
    replace hN := Lib.hid hN
    go_wp2_with fail
    exact hN.out _ (by exact fR rfl rfl rfl)
def c_wv_r4 := sp 99 549 cF41
theorem wv_r4_wp {y:ByteArray} (hk:k<me) (hge:w.heap[ge]?=some (.cells #[.slice (some ⟨b,o,none⟩) me ee] 62 (0,0))) (e0:w.cell? ⟨b,o+k * 2,none⟩=some (.string y)) (hbl:b<w.heap.size) (hN:∀a',Frm 34 [(0,.string x),(1,.pointer (some ⟨ge,0,none⟩)),(2,s_2),(5,.int .i64 ((k:Nat))),(21,.bool (decide (y=x)))] a'→Q .normal a' w):∀ac,Frm 34 [(0,.string x),(1,.pointer (some ⟨ge,0,none⟩)),(2,s_2),(5,.int .i64 ((k:Nat)))] ac→Code.wp Tryd.prog c_wv_r4 Q ac w := by
  refine fO (frame_wv ?_)
  intros
  rename_i hq
  iterate 4 (obtain ⟨e,hq⟩ := hq; obtain rfl := sI e; clear e)
  clear hq
  conv=>arg 2; whnf
  have q0:(0:Int)≤(k:Int) := by omega
  have q1:(k:Int)<(me:Int) := by omega
  have g0 := cellv hge 0 rfl
  have gl := lt_heap hge
  clear hge
  by_cases hy:y=x
  · have t1:(y.toList == x.toList)=true := by rw [hy]; exact beq_self_eq_true _
    rw [decide_eq_true hy] at hN
    clear hy
    replace hN := Lib.hid hN
    go_wp2_with fail
    exact hN.out _ (by exact fR rfl rfl rfl)
  · have t1:(y.toList == x.toList)=false := beq_eq_false_iff_ne.2 (fun e=>hy (bytes_inj e))
    rw [decide_eq_false hy] at hN
    clear hy
    replace hN := Lib.hid hN
    go_wp2_with fail
    exact hN.out _ (by exact fR rfl rfl rfl)
def c_wv_r5 := sp 99 2341 cF41
theorem wv_r5_wp (hk:k<me) (hge:w.heap[ge]?=some (.cells #[.slice (some ⟨b,o,none⟩) me ee] 62 (0,0))) (e1:w.cell? ⟨b,o+k * 2+1,none⟩=some (.int .i64 v)) (hbl:b<w.heap.size) (hN:∀a',Frm 34 [(4,.int .i64 v)] a'→Q .normal a' w):∀ac,Frm 34 [(0,s_0),(1,.pointer (some ⟨ge,0,none⟩)),(2,s_2),(5,.int .i64 ((k:Nat)))] ac→Code.wp Tryd.prog c_wv_r5 Q ac w := by
  refine fO (frame_wv ?_)
  intros
  rename_i hq
  iterate 4 (obtain ⟨e,hq⟩ := hq; obtain rfl := sI e; clear e)
  clear hq
  conv=>arg 2; whnf
  have q0:(0:Int)≤(k:Int) := by omega
  have q1:(k:Int)<(me:Int) := by omega
  have g0 := cellv hge 0 rfl
  have gl := lt_heap hge
  clear hge
  replace hN := Lib.hid hN
  go_wp2_with fail
  exact hN.out _ (id ⟨rfl,rfl,rfl,trivial⟩)
def c_wv_r3 := sp 99 229 cF41
theorem wv_r3_wp (hz0:0≤z) (hz1:z≤1000000) (hN:∀a',Frm 34 [(0,s_0),(1,s_1),(2,s_2),(5,.int .i64 (z - 1))] a'→Q .normal a' w):∀ac,Frm 34 [(0,s_0),(1,s_1),(2,s_2),(5,.int .i64 (z))] ac→Code.wp Tryd.prog c_wv_r3 Q ac w := by
  refine fO (frame_wv ?_)
  intros
  rename_i hq
  iterate 4 (obtain ⟨e,hq⟩ := hq; obtain rfl := sI e; clear e)
  clear hq
  conv=>arg 2; whnf
  have q1:z≤1000000 := by omega
  have q2:0≤z := by omega
  replace hN := Lib.hid hN
  go_wp2_with fail
  exact hN.out _ (by exact fR rfl rfl rfl)
def c_wv_r6 := sp 99 11 cF41
theorem wv_r6_wp {bb:Bool} {Am Bm:Option Addr} {nm1 cm nm2 dm:Nat} {gm:Nat} (hgm:w.heap[gm]?=some (.cells #[.int .i64 z,.slice Am nm1 cm,.slice Bm nm2 dm] 25 (0,0))) (hc:Calls Tryd.prog 42 #[.agg #[.int .i64 z,.slice Am nm1 cm,.slice Bm nm2 dm],.string x] w fun e w'=>e=.returned (.tuple #[.int .i64 v,.bool bb])∧Below w.heap.size w w') (hN:∀a' w',Frm 34 [(6,.int .i64 v)] a'→Below w.heap.size w w'→Q .normal a' w'):∀ac,Frm 34 [(0,.string x),(1,s_1),(2,.pointer (some ⟨gm,0,none⟩))] ac→Code.wp Tryd.prog c_wv_r6 Q ac w := by
  refine fO (frame_wv ?_)
  intros
  rename_i hq
  iterate 3 (obtain ⟨e,hq⟩ := hq; obtain rfl := sI e; clear e)
  clear hq
  conv=>arg 2; whnf
  have m0 := cellv hgm 0 rfl
  have m1 := cellv hgm 1 rfl
  have m2 := cellv hgm 2 rfl
  have ml := lt_heap hgm
  clear hgm
  have HN := Lib.hid hN
  have HC := Lib.hid hc
  clear hN hc
  go_wp2_with fail
  (with_reducible refine HC.out.mono ?_)
  rintro e w1 ⟨rfl,hb1⟩
  replace hb1 := Lib.hid hb1
  go_wp2_with fail
  exact HN.out _ _ (id ⟨rfl,rfl,rfl,trivial⟩) hb1.out
def c_wv_r7 := sp 99 23 cF41
theorem wv_r7_wp (hN:∀a',Frm 34 [(4,.int .i64 v)] a'→Q .normal a' w):∀ac,Frm 34 [(6,.int .i64 v)] ac→Code.wp Tryd.prog c_wv_r7 Q ac w := by
  refine fO (frame_wv ?_)
  intros
  rename_i hq
  iterate 1 (obtain ⟨e,hq⟩ := hq; obtain rfl := sI e; clear e)
  clear hq
  conv=>arg 2; whnf
  replace hN := Lib.hid hN
  go_wp2_with fail
  exact hN.out _ (id ⟨rfl,rfl,rfl,trivial⟩)
theorem wv_ret_wp {R:Ending→World→Prop} {w':World} (hR:R (.returned (.int .i64 v)) w'):∀ac,Frm 34 [(4,.int .i64 v)] ac→bodyPost Tryd.prog Tryd.f41 R .ret ac w' := by
  refine fO (frame_wv ?_)
  intros
  rename_i hq
  iterate 1 (obtain ⟨e,hq⟩ := hq; obtain rfl := sI e; clear e)
  clear hq
  refine bodyPost_ret (v := .int .i64 v) (by simp [results,Tryd.results41,go_sem]) rfl ?_
  exact hR
def envRep:Rep (ByteArray × Int) where
  size := 2
  R _ _ a cs := cs=[.string a.1,.int .i64 a.2]
  pos := by omega
  len := by rintro w S a cs rfl; rfl
  one := by
    rintro w S a cs rfl u hu
    simp at hu; rcases hu with rfl | rfl <;> rfl
  keep := by rintro w w' S S' a cs h _ _; exact h
theorem env_at {S:Nat→Prop} {A:Option Addr} {n c j:Nat} {l:List (ByteArray × Int)} (h:envRep.Sl w S (.slice A n c) l) (hj:j<l.length):∃b o,A=some ⟨b,o,none⟩∧S b∧w.cell? ⟨b,o+j * 2,none⟩=some (.string l[j].1)∧w.cell? ⟨b,o+j * 2+1,none⟩=some (.int .i64 l[j].2) := by
  obtain ⟨b,o,cs,hA,hSb,hx,hcell⟩ := Rep.Sl.at_ h (k := j) (a := l[j]) (by simp [hj])
  subst hx
  exact ⟨b,o,hA,hSb,hcell 0 _ rfl,hcell 1 _ rfl⟩
theorem envV_take (l:List (ByteArray × Int)) (x:ByteArray) (k:Nat) (h:k<l.length):envV (l.take (k+1)) x=if l[k].1=x then some l[k].2 else envV (l.take k) x := by
  rw [List.take_succ_eq_append_getElem h]
  exact envV_snoc _ _ _ _
theorem word_any (m:Md) (hg:m.good) (env:List (ByteArray × Int)) (x:ByteArray) (w:World) (S:Nat→Prop) {ge gm:Nat} {De:Option Addr} {me ee:Nat} {Am Bm:Option Addr} {cm dm:Nat} (he:envRep.Sl w S (.slice De me ee) env) (hel:env.length≤1000) (hS:∀b,S b→b<w.heap.size) (hm:m.In w S [.int .i64 m.sz,.slice Am m.cs.length cm,.slice Bm m.rs.length dm]) (hge:w.heap[ge]?=some (.cells #[.slice De me ee] 62 (0,0))) (hgm:w.heap[gm]?=some (.cells #[.int .i64 m.sz,.slice Am m.cs.length cm,.slice Bm m.rs.length dm] 25 (0,0))) :
    Calls Tryd.prog 41 #[.string x,.pointer (some ⟨ge,0,none⟩),.pointer (some ⟨gm,0,none⟩)] w fun e w'=>e=.returned (.int .i64 (wordV m env x))∧Below w.heap.size w w' := by
  obtain ⟨_,_,_,eq,hme,_⟩ := id he
  simp only [Value.slice.injEq] at eq
  obtain ⟨rfl,rfl,rfl⟩ := eq
  have hme2:me=env.length := by omega
  go_enter Tryd.func41,Tryd.ntmps41
  refine wp_seq ?_
  refine wv_r0_wp (fun a0 h0=>?_) _ (by exact fR rfl rfl rfl)
  refine wp_seq ?_
  refine wp_seq ?_
  refine wv_r1_wp (by omega) hge (fun a1 h1=>?_) a0 h0
  refine wp_block ?_
  refine wp_loopR (fun g a' w'=>∃i:Nat,g=i∧i≤env.length∧w'=w∧envV env x=envV (env.take i) x∧Frm 34 [(0,.string x),(1,.pointer (some ⟨ge,0,none⟩)),(2,.pointer (some ⟨gm,0,none⟩)),(5,.int .i64 ((i:Int) - 1))] a') env.length ⟨env.length,rfl,Nat.le_refl _,rfl,by rw [List.take_of_length_le (Nat.le_refl _)],by rw [← hme2]; exact h1⟩ ?_
  rintro g a2 w2 ⟨i,rfl,hil,rfl,hv,h2⟩
  refine wp_seq ?_
  refine wp_seq ?_
  refine wv_r2_wp (fun a3 h3=>?_) a2 h2
  by_cases hz:(0:Int)≤(g:Int) - 1
  case neg =>
    refine wp_cond_false ((h3.eval (k := 12) (v := .bool (decide ((0:Int)≤(g:Int) - 1))) (by simp)).trans (by rw [decide_eq_false hz])) ?_
    refine wp_exit ?_
    repeat refine then_exit ?_
    refine inBlock_exit ?_
    show Code.wp _ _ _ a3 w2
    have hg0:g=0 := by omega
    subst hg0
    refine wp_seq ?_
    refine wv_r6_wp hgm (constant_any m x _ w2 S hm hS hg) (fun a4 w4 h4 hb4=>?_) a3 (h3.pick [0,1,2])
    refine wp_seq ?_
    refine wv_r7_wp (fun a5 h5=>?_) a4 h4
    refine wp_ret ?_
    refine wv_ret_wp ⟨?_,hb4⟩ a5 h5
    unfold wordV
    rw [hv]; rfl
  refine wp_cond_true ((h3.eval (k := 12) (v := .bool (decide ((0:Int)≤(g:Int) - 1))) (by simp)).trans (by rw [decide_eq_true hz])) ?_
  refine wp_skip ?_
  show Code.wp _ _ _ a3 w2
  obtain ⟨k,rfl⟩:∃k,g=k+1 := ⟨g - 1,by omega⟩
  have hkl:k<env.length := by omega
  obtain ⟨b,o,rfl,hSb,e0,e1⟩ := env_at he hkl
  have hzk:((k+1:Nat):Int) - 1=(k:Nat) := by omega
  rw [hzk] at h3
  refine wp_seq ?_
  refine wp_block ?_
  refine wp_seq ?_
  refine wv_r4_wp (by omega) hge e0 (hS b hSb) (fun a4 h4=>?_) a3 (h3.pick [0,1,2,3])
  have htk := envV_take env x k hkl
  by_cases hy:env[k].1=x
  · refine wp_cond_true ((h4.eval (k := 21) (v := .bool (decide (env[k].1=x))) (by simp)).trans (by rw [decide_eq_true hy])) ?_
    refine wp_seq ?_
    refine wv_r5_wp (by omega) hge e1 (hS b hSb) (fun a5 h5=>?_) a4 (h4.pick [0,1,2,3])
    refine wp_ret ?_
    repeat (first | refine thenR ?_ | refine inBlockR ?_)
    refine wv_ret_wp ⟨?_,Below.refl _ _⟩ a5 h5
    unfold wordV
    rw [hv,htk,if_pos hy]; rfl
  · refine wp_cond_false ((h4.eval (k := 21) (v := .bool (decide (env[k].1=x))) (by simp)).trans (by rw [decide_eq_false hy])) ?_
    refine wp_skip ?_
    show Code.wp _ _ _ a4 w2
    refine wv_r3_wp (by omega) (by omega) (fun a5 h5=>?_) a4 (h4.pick [0,1,2,3])
    exact ⟨k,by omega,k,rfl,by omega,rfl,by rw [hv,htk,if_neg hy],h5⟩
end
noncomputable section
set_option maxRecDepth 100000
set_option maxHeartbeats 4000000

theorem eqInts_self (l:List Int) (u v:Value) (w:World) (S:Nat→Prop) (hu:zRep.Sl w S u l) (hv:zRep.Sl w S v l) (hS:∀b,S b→b<w.heap.size) :
    Calls Tryd.prog 24 #[u,v] w fun e w'=>e=.returned (.bool true)∧Below w.heap.size w w' := by
  have HU := Lib.hid hu
  have HV := Lib.hid hv
  obtain ⟨A1,m1,c1,rfl,rfl,hm1,_⟩ := hu
  obtain ⟨A2,m2,c2,rfl,e2,hm2,_⟩ := hv
  subst e2
  unfold maxLen at hm1
  clear hm2
  have HS := Lib.hid hS
  clear hS
  have t0:((l.length:Int) != (l.length:Int))=false := by simp
  go_enter Tryd.func24,Tryd.ntmps24
  go_wp2_with fail
  clear t0
  go_loopg [13] l.length (fun k v wr=>∃j:Nat,j+k=l.length∧v=.int .i64 j∧Below w.heap.size w wr)
  case atStart=>exact ⟨0,by omega,rfl,Below.refl _ _⟩
  case round =>
    obtain ⟨j,hj,rfl,hwr⟩ := hrel
    have hsz := hwr.size
    by_cases hjl:j<l.length
    · obtain ⟨b,o,kc1,rfl,hSb,rfl,hc1⟩ := Rep.Sl.at_ HU.out (List.getElem?_eq_getElem hjl)
      obtain ⟨b',o',kc2,rfl,hSb',rfl,hc2⟩ := Rep.Sl.at_ HV.out (List.getElem?_eq_getElem hjl)
      have hbs := HS.out _ hSb
      have hbs' := HS.out _ hSb'
      have e1:wr.cell? ⟨b,o+j,none⟩=some (.int .i64 l[j]) := (cell_keep (hwr.block b hbs) _).trans (by simpa [zRep] using hc1 0 _ rfl)
      have e2:wr.cell? ⟨b',o'+j,none⟩=some (.int .i64 l[j]) := (cell_keep (hwr.block b' hbs') _).trans (by simpa [zRep] using hc2 0 _ rfl)
      have q0:(0:Int)≤(j:Int) := by omega
      have q1:(j:Int)<(l.length:Int) := by omega
      have hbw:b<wr.heap.size∧b'<wr.heap.size := ⟨by omega,by omega⟩
      have t1:(l[j] != l[j])=false := by simp
      clear hc1 hc2
      have HWR := Lib.hid hwr
      clear hwr
      go_wp2_with fail
      go_big_quiet (fail)
      go_wp2_with fail
      go_roundg (l.length - (j+1))
      case measure=>omega
      case rel=>exact ⟨j+1,by omega,by go_num,HWR.out.trans ⟨rfl,rfl,rfl,Nat.le_refl _,fun _ _=>rfl⟩⟩
    · have HWR := Lib.hid hwr
      clear hwr
      go_wp2_with fail
      go_returns
      exact ⟨rfl,HWR.out⟩
theorem eqGrid_self (l:List (List Int)) (u v:Value) (w:World) (S:Nat→Prop) (hu:intsRep.Sl w S u l) (hv:intsRep.Sl w S v l) (hS:∀b,S b→b<w.heap.size) :
    Calls Tryd.prog 10 #[u,v] w fun e w'=>e=.returned (.bool true)∧Below w.heap.size w w' := by
  have HU := Lib.hid hu
  have HV := Lib.hid hv
  obtain ⟨A1,m1,c1,rfl,rfl,hm1,_⟩ := hu
  obtain ⟨A2,m2,c2,rfl,e2,hm2,_⟩ := hv
  subst e2
  unfold maxLen at hm1
  clear hm2
  have HS := Lib.hid hS
  clear hS
  have t0:((l.length:Int) != (l.length:Int))=false := by simp
  go_enter Tryd.func10,Tryd.ntmps10
  go_wp2_with fail
  clear t0
  go_loopg [13] l.length (fun k v wr=>∃j:Nat,j+k=l.length∧v=.int .i64 j∧Below w.heap.size w wr)
  case atStart=>exact ⟨0,by omega,rfl,Below.refl _ _⟩
  case round =>
    obtain ⟨j,hj,rfl,hwr⟩ := hrel
    have hsz := hwr.size
    by_cases hjl:j<l.length
    · obtain ⟨b,o,T1,t1,rfl,hSb,e1,_,hv1⟩ := tup_at HU.out hjl
      obtain ⟨b',o',T2,t2,rfl,hSb',e2,_,hv2⟩ := tup_at HV.out hjl
      have hbs := HS.out _ hSb
      have hbs' := HS.out _ hSb'
      have e1:wr.cell? ⟨b,o+j,none⟩=_ := (cell_keep (hwr.block b hbs) _).trans e1
      have e2:wr.cell? ⟨b',o'+j,none⟩=_ := (cell_keep (hwr.block b' hbs') _).trans e2
      have q0:(0:Int)≤(j:Int) := by omega
      have q1:(j:Int)<(l.length:Int) := by omega
      have hbw:b<wr.heap.size∧b'<wr.heap.size := ⟨by omega,by omega⟩
      have hq := fun (W:World) (hb:Below wr.heap.size wr W)=>eqInts_self l[j] _ _ W S (hv1.keep (fun k hk=>(hb.block k (by have := HS.out k hk; omega)).trans (hwr.block k (HS.out k hk))) (fun _ h=>h)) (hv2.keep (fun k hk=>(hb.block k (by have := HS.out k hk; omega)).trans (hwr.block k (HS.out k hk))) (fun _ h=>h)) (fun k hk=>by have := HS.out k hk; have := hb.size; omega)
      clear hv1 hv2
      have HWR := Lib.hid hwr
      have HQ := Lib.hid hq
      clear hwr hq
      go_wp2_with fail
      go_region_held3 (fun w'=>w'.cell? ⟨b,o+j,none⟩=some (.slice T1 l[j].length t1)∧w'.cell? ⟨b',o'+j,none⟩=some (.slice T2 l[j].length t2))
        ((first | (go_keep; done) | (go_split_ands; (repeat' apply And.intro) <;> (refine (kc5 _ _ (by omega)).trans ?_; assumption))))
        (first
          | ((with_reducible refine (HQ.out _ ?hbel).mono ?_); (case hbel=>first | exact Below.refl _ _ | exact (Below.refl _ _).drew); rintro e w4 ⟨rfl,hw4⟩; have hb4:Below wr.heap.size wr w4 := (by first | exact hw4 | exact (Below.refl wr.heap.size wr).drew.trans hw4); have kc5:∀k q,k<wr.heap.size→w4.cell? ⟨k,q,none⟩=wr.cell? ⟨k,q,none⟩ := (fun k q h=>hb4.cell (p := ⟨k,q,none⟩) h); have HB4 := Lib.hid hb4; clear hw4 hb4)
          | fail)
      all_goals go_wp2_with fail
      all_goals go_roundg (l.length - (j+1))
      case measure=>omega
      case rel=>exact ⟨j+1,by omega,by go_num,HWR.out.trans (HB4.out.mono hsz)⟩
    · have HWR := Lib.hid hwr
      clear hwr
      go_wp2_with fail
      go_returns
      exact ⟨rfl,HWR.out⟩
end
noncomputable section
set_option maxRecDepth 100000
set_option maxHeartbeats 4000000

def mdSmall:Md := ⟨1,[⟨⟨#[107,105,109]⟩,0⟩],[⟨⟨#[100,111,103]⟩,1,[[0]]⟩]⟩
theorem mdSmall_ok:mdFault mdSmall=(0,0) := by decide +kernel
theorem sl_lit {α:Type} {ρ:Rep α} {W:World} {S:Nat→Prop} {x:α} {ds:List Value} {blk:Nat} {T:TypeId} {fr:Nat × Nat} (hx:ρ.R W S x ds) (hb:W.heap[blk]?=some (.cells ds.toArray T fr)) (hS:S blk) :
    ρ.Sl W S (.slice (some ⟨blk,0,none⟩) 1 1) [x] :=
  ⟨_,1,1,rfl,rfl,by simp [maxLen],fun _=>⟨blk,0,ds,rfl,hS,Rep.All.single hx,fun j u hj=>by rw [Nat.zero_add]; exact cell_heap hb (by simpa using hj)⟩⟩
def FrS (w w':World):Nat→Prop := fun b=>w.heap.size≤b∧b<w'.heap.size
def SmallAt (w:World) (e:Ending) (w':World):Prop := ∃A c B d,e=.returned (.agg #[.int .i64 1,.slice A 1 c,.slice B 1 d])∧mdSmall.In w' (FrS w w') [.int .i64 1,.slice A 1 c,.slice B 1 d]∧Below w.heap.size w w'
theorem small_any (w:World):Calls Tryd.prog 7 #[] w (SmallAt w) := by
  go_enter Tryd.func7,Tryd.ntmps7
  go_upto_region 1 with (fail)
  go_cut [] (fun wx=>mdSmall.In wx (FrS w wx) [.int .i64 1,.slice (some ⟨w.heap.size+1,0,none⟩) 1 1,.slice (some ⟨w.heap.size+4,0,none⟩) 1 1]∧wx.heap[w.heap.size]?=some (.cells #[.int .i64 1,.slice (some ⟨w.heap.size+1,0,none⟩) 1 1,.slice (some ⟨w.heap.size+4,0,none⟩) 1 1] 25 (0,0))∧Below w.heap.size w wx)
  case first =>
    go_wp2_with fail
    go_meet
    have hz:∀(o1 o2 o3 o4 o5:Obj),(((((w.alloc o1).alloc o2).alloc o3).alloc o4).alloc o5).heap.size=w.heap.size+5 := fun _ _ _ _ _=>by simp
    refine ⟨⟨_,_,rfl,sl_lit (ρ := conRep) (x := ⟨⟨#[107,105,109]⟩,0⟩) (ds := [.string ⟨#[107,105,109]⟩,.int .i64 0]) (T := 49) (fr := (0,0)) ⟨rfl,by decide +kernel⟩ ?k1 ⟨by omega,by rw [hz]; omega⟩,
      sl_lit (ρ := relRep) (x := ⟨⟨#[100,111,103]⟩,1,[[0]]⟩) (ds := [.string ⟨#[100,111,103]⟩,.int .i64 1,.slice (some ⟨w.heap.size+3,0,none⟩) 1 1]) (T := 59) (fr := (0,0)) ⟨_,rfl,by decide +kernel,
        sl_lit (ρ := intsRep) (x := [0]) (ds := [.slice (some ⟨w.heap.size+2,0,none⟩) 1 1]) (T := 39) (fr := (0,0)) ⟨_,rfl,sl_lit (ρ := zRep) (x := 0) (ds := [.int .i64 0]) (T := 3) (fr := (0,0)) rfl ?k2 ⟨by omega,by rw [hz]; omega⟩⟩ ?k3 ⟨by omega,by rw [hz]; omega⟩⟩ ?k4 ⟨by omega,by rw [hz]; omega⟩⟩,?k0,by go_grown⟩
    case k1=>exact heap_old (by first | (simp; done) | (simp; omega)) (heap_old (by first | (simp; done) | (simp; omega)) (heap_old (by first | (simp; done) | (simp; omega)) (heap_at (by first | (simp; done) | (simp; omega)))))
    case k2=>exact heap_old (by first | (simp; done) | (simp; omega)) (heap_old (by first | (simp; done) | (simp; omega)) (heap_at (by first | (simp; done) | (simp; omega))))
    case k3=>exact heap_old (by first | (simp; done) | (simp; omega)) (heap_at (by first | (simp; done) | (simp; omega)))
    case k4=>exact heap_at (by first | (simp; done) | (simp; omega))
    case k0=>exact heap_old (by first | (simp; done) | (simp; omega)) (heap_old (by first | (simp; done) | (simp; omega)) (heap_old (by first | (simp; done) | (simp; omega)) (heap_old (by first | (simp; done) | (simp; omega)) (heap_at rfl))))
  case rest =>
    obtain ⟨hin,k0,hb⟩ := hcut
    rename World=>wx
    have hfin:SmallAt w (.returned (.agg #[.int .i64 1,.slice (some ⟨w.heap.size+1,0,none⟩) 1 1,.slice (some ⟨w.heap.size+4,0,none⟩) 1 1])) wx := ⟨_,_,_,_,rfl,hin,hb⟩
    have HIN := Lib.hid hin
    have HB := Lib.hid hb
    have HFIN := Lib.hid hfin
    clear hin hb hfin
    have k0_0 := cv0 k0
    have k0_1 := cv1 k0
    have k0_2 := cv2 k0
    have k0_l := lt_heap k0
    have K0 := Lib.hid k0
    clear k0
    go_wp2_with fail
    refine bodyPost_ret (v := .agg #[.int .i64 1,.slice (some ⟨w.heap.size+1,0,none⟩) 1 1,.slice (some ⟨w.heap.size+4,0,none⟩) 1 1]) (by simp [results,Tryd.results7,go_sem,k0_0,k0_1,k0_2,k0_l]) rfl ?_
    exact HFIN.out
end
noncomputable section
theorem pred_any (nm:ByteArray) (v:Value) (w:World) (hv:∃A n c,v=.slice A n c):Calls Tryd.prog 9 #[.string nm,v] w fun e w'=>e=.returned (.agg #[.int .i64 2,.string nm,v,.slice none 0 0])∧Below w.heap.size w w' := by
  obtain ⟨A,n,c,rfl⟩ := hv
  go_enter Tryd.func9,Tryd.ntmps9
  go_wp2_with fail
  refine bodyPost_ret (v := .agg #[.int .i64 2,.string nm,.slice A n c,.slice none 0 0]) (by simp [results,Tryd.results9,go_sem]) rfl ?_
  exact ⟨rfl,by go_grown⟩
def bDog:ByteArray := ⟨#[100,111,103]⟩
end

end Go.Proofs.YthfokmjpbnfihaaDoor
