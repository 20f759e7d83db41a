/- Lemmas. -/
import Derived.Test.YthfokmjpbnfihaaDoorWza
import Derived.Test.YthfokmjpbnfihaaDoorWy
import Derived.Test.YthfokmjpbnfihaaDoorWzf
import Derived.Test.YthfokmjpbnfihaaDoorWzh
namespace Go.Proofs.YthfokmjpbnfihaaDoor
open Go Go.RowKit
set_option linter.unusedSimpArgs false
set_option linter.unusedVariables false
noncomputable section
set_option maxRecDepth 1000000
set_option maxHeartbeats 16000000
variable {Q:Exit→Act→World→Prop} {z kd c j:Int} {Am Bm A B:Option Addr} {nm1 cm nm2 dm n1 c1 n2 c2 gb gx:Nat} {wo w:World} {nm:ByteArray} {s_3 s_4 s_2:Value}

theorem frame_tf {P:Act→Prop} (h:∀x0 x1 x2 x3 x4 x5 x6 x7 x8 x9 x10 x11 x12 x13 x14 x15 x16 x17 x18 x19 x20 x21 x22 x23 x24 x25 x26 x27:Value,P ⟨(x0 :: x1 :: x2 :: x3 :: x4 :: x5 :: x6 :: x7 :: x8 :: x9 :: x10 :: x11 :: x12 :: x13 :: x14 :: x15 :: x16 :: x17 :: x18 :: x19 :: x20 :: x21 :: x22 :: x23 :: x24 :: x25 :: x26 :: x27 :: []).toArray,[]⟩):∀a:Act,a.tmps.toList.length=28→a.defers=[]→P a := by
  rintro ⟨⟨l⟩,d⟩ hs hd
  simp only at hd
  subst hd
  revert l
  show ∀l:List Value,l.length=28→P ⟨⟨l⟩,[]⟩
  iterate 28 refine openS (fun _=>?_)
  refine open0 ?_
  exact h ..
noncomputable def cF11:Code := Tryd.f11.body.getD .skip
def c_tf_r0 := sp 99 2 cF11
theorem tf_r0_wp (hN:∀a',Frm 28 [(2,.pointer (some ⟨wo.heap.size,0,none⟩)),(3,.pointer (some ⟨(wo.heap.size+1),0,none⟩)),(4,.pointer (some ⟨(wo.heap.size+1+1),0,none⟩))] a'→Q .normal a' (((wo.alloc (.cells #[.int .i64 z,.slice Am nm1 cm,.slice Bm nm2 dm] 25)).alloc (.cells #[.int .i64 kd,.string nm,.slice A n1 c1,.slice B n2 c2] 29)).alloc (.cells #[.int .i64 0,.int .i64 0] 32))):∀ac,Frm 28 [(0,.agg #[.int .i64 z,.slice Am nm1 cm,.slice Bm nm2 dm]),(1,.agg #[.int .i64 kd,.string nm,.slice A n1 c1,.slice B n2 c2])] ac→Code.wp Tryd.prog c_tf_r0 Q ac wo := by
  refine fO (frame_tf ?_)
  intros
  rename_i hq
  iterate 2 (obtain ⟨e,hq⟩ := hq; obtain rfl := sI e; clear e)
  clear hq
  conv=>arg 2; whnf
  replace hN := Lib.hid hN
  go_wp2_with fail
  exact hN.out _ (by exact fR rfl rfl rfl)
def c_tf_r1 := sp 99 9 cF11
theorem tf_r1_wp (hgm:w.heap[wo.heap.size]?=some (.cells #[.int .i64 z,.slice Am nm1 cm,.slice Bm nm2 dm] 25 (0,0))) (hc:Calls Tryd.prog 20 #[.agg #[.int .i64 z,.slice Am nm1 cm,.slice Bm nm2 dm]] w fun e w'=>e=.returned (.agg #[.int .i64 c,.int .i64 j])∧Below w.heap.size w w') (hN:∀ge a' w',Frm 28 [(2,.pointer (some ⟨wo.heap.size,0,none⟩)),(3,s_3),(4,s_4),(5,.pointer (some ⟨ge,0,none⟩))] a'→w.heap.size≤ge→w'.heap[ge]?=some (.cells #[.int .i64 c,.int .i64 j] 32 (0,0))→Below w.heap.size w w'→Q .normal a' w'):∀ac,Frm 28 [(2,.pointer (some ⟨wo.heap.size,0,none⟩)),(3,s_3),(4,s_4)] ac→Code.wp Tryd.prog c_tf_r1 Q ac w := by
  refine fO (frame_tf ?_)
  intros
  rename_i hq
  iterate 3 (obtain ⟨e,hq⟩ := hq; obtain rfl := sI e; clear e)
  clear hq
  conv=>arg 2; whnf
  have m0 := cellv hgm 0 rfl
  have m1 := cellv hgm 1 rfl
  have m2 := cellv hgm 2 rfl
  have ml := lt_heap hgm
  clear hgm
  have HN := Lib.hid hN
  have HC := Lib.hid hc
  clear hN hc
  go_wp2_with fail
  (with_reducible refine HC.out.mono ?_)
  rintro e w1 ⟨rfl,hb1⟩
  replace hb1 := Lib.hid hb1
  go_wp2_with fail
  have hz := hb1.out.size
  exact HN.out w1.heap.size _ _ (by exact fR rfl rfl rfl) hz (heap_at rfl) (hb1.out.alloc hz _)
def c_tf_r4 := sp 99 19 cF11
theorem tf_r4_wp (ha:w.heap[wo.heap.size+1]?=some (.cells #[.int .i64 kd,.string nm,.slice A n1 c1,.slice B n2 c2] 29 (0,0))) (hc:Calls Tryd.prog 25 #[.agg #[.int .i64 kd,.string nm,.slice A n1 c1,.slice B n2 c2]] w fun e w'=>e=.returned (.agg #[.int .i64 c,.int .i64 j])∧Below w.heap.size w w') (hN:∀ge a' w',Frm 28 [(2,s_2),(3,.pointer (some ⟨(wo.heap.size+1),0,none⟩)),(4,s_4),(6,.pointer (some ⟨ge,0,none⟩))] a'→w.heap.size≤ge→w'.heap[ge]?=some (.cells #[.int .i64 c,.int .i64 j] 32 (0,0))→Below w.heap.size w w'→Q .normal a' w'):∀ac,Frm 28 [(2,s_2),(3,.pointer (some ⟨(wo.heap.size+1),0,none⟩)),(4,s_4)] ac→Code.wp Tryd.prog c_tf_r4 Q ac w := by
  refine fO (frame_tf ?_)
  intros
  rename_i hq
  iterate 3 (obtain ⟨e,hq⟩ := hq; obtain rfl := sI e; clear e)
  clear hq
  conv=>arg 2; whnf
  have a0 := cellv ha 0 rfl
  have a1 := cellv ha 1 rfl
  have a2 := cellv ha 2 rfl
  have a3 := cellv ha 3 rfl
  have al := lt_heap ha
  clear ha
  have HN := Lib.hid hN
  have HC := Lib.hid hc
  clear hN hc
  go_wp2_with fail
  (with_reducible refine HC.out.mono ?_)
  rintro e w1 ⟨rfl,hb1⟩
  replace hb1 := Lib.hid hb1
  go_wp2_with fail
  have hz := hb1.out.size
  exact HN.out w1.heap.size _ _ (by exact fR rfl rfl rfl) hz (heap_at rfl) (hb1.out.alloc hz _)
def c_tf_r2 := sp 99 21 cF11
theorem tf_r2_wp (hb:w.heap[gb]?=some (.cells #[.int .i64 c,.int .i64 j] 32 (0,0))) (hN:∀a',Frm 28 [(2,s_2),(3,s_3),(4,s_4),(5,.pointer (some ⟨gb,0,none⟩)),(11,.bool (decide (c≠0)))] a'→Q .normal a' w):∀ac,Frm 28 [(2,s_2),(3,s_3),(4,s_4),(5,.pointer (some ⟨gb,0,none⟩))] ac→Code.wp Tryd.prog c_tf_r2 Q ac w := by
  refine fO (frame_tf ?_)
  intros
  rename_i hq
  iterate 4 (obtain ⟨e,hq⟩ := hq; obtain rfl := sI e; clear e)
  clear hq
  conv=>arg 2; whnf
  have b0 := cellv hb 0 rfl
  have bl := lt_heap hb
  clear hb
  by_cases h:c≠0
  · have t0 := h
    have t1:(c != 0)=true := by first | exact bne_iff_ne.2 (by omega) | exact bne_eq_false_iff_eq.2 (by omega)
    rw [show decide (c≠0)=true from by simpa using h] at hN
    clear h
    replace hN := Lib.hid hN
    go_wp2_with fail
    exact hN.out _ (by exact fR rfl rfl rfl)
  · have t0 := h
    have t1:(c != 0)=false := by first | exact bne_iff_ne.2 (by omega) | exact bne_eq_false_iff_eq.2 (by omega)
    rw [show decide (c≠0)=false from by simpa using h] at hN
    clear h
    replace hN := Lib.hid hN
    go_wp2_with fail
    exact hN.out _ (by exact fR rfl rfl rfl)
def c_tf_r5 := sp 99 43 cF11
theorem tf_r5_wp (hb:w.heap[gb]?=some (.cells #[.int .i64 c,.int .i64 j] 32 (0,0))) (hN:∀a',Frm 28 [(2,s_2),(3,s_3),(4,s_4),(6,.pointer (some ⟨gb,0,none⟩)),(17,.bool (decide (c≠0)))] a'→Q .normal a' w):∀ac,Frm 28 [(2,s_2),(3,s_3),(4,s_4),(6,.pointer (some ⟨gb,0,none⟩))] ac→Code.wp Tryd.prog c_tf_r5 Q ac w := by
  refine fO (frame_tf ?_)
  intros
  rename_i hq
  iterate 4 (obtain ⟨e,hq⟩ := hq; obtain rfl := sI e; clear e)
  clear hq
  conv=>arg 2; whnf
  have b0 := cellv hb 0 rfl
  have bl := lt_heap hb
  clear hb
  by_cases h:c≠0
  · have t0 := h
    have t1:(c != 0)=true := by first | exact bne_iff_ne.2 (by omega) | exact bne_eq_false_iff_eq.2 (by omega)
    rw [show decide (c≠0)=true from by simpa using h] at hN
    clear h
    replace hN := Lib.hid hN
    go_wp2_with fail
    exact hN.out _ (by exact fR rfl rfl rfl)
  · have t0 := h
    have t1:(c != 0)=false := by first | exact bne_iff_ne.2 (by omega) | exact bne_eq_false_iff_eq.2 (by omega)
    rw [show decide (c≠0)=false from by simpa using h] at hN
    clear h
    replace hN := Lib.hid hN
    go_wp2_with fail
    exact hN.out _ (by exact fR rfl rfl rfl)
def c_tf_r3 := sp 99 77 cF11
theorem tf_r3_wp (hbx2:gb≠gx) (hbx:w.heap[gb]?=some (.cells #[.int .i64 c,.int .i64 j] 32 (0,0))) (hx:w.heap[gx]?=some (.cells #[.int .i64 0,.int .i64 0] 32 (0,0))) (hN:∀a' w',Frm 28 [(4,.pointer (some ⟨gx,0,none⟩))] a'→w'.heap[gx]?=some (.cells #[.int .i64 c,.int .i64 j] 32 (0,0))→Keeps (fun k=>k=gx) w w'→Q .normal a' w'):∀ac,Frm 28 [(4,.pointer (some ⟨gx,0,none⟩)),(5,.pointer (some ⟨gb,0,none⟩))] ac→Code.wp Tryd.prog c_tf_r3 Q ac w := by
  refine fO (frame_tf ?_)
  intros
  rename_i hq
  iterate 2 (obtain ⟨e,hq⟩ := hq; obtain rfl := sI e; clear e)
  clear hq
  conv=>arg 2; whnf
  have b0 := cellv hbx 0 rfl
  have b1 := cellv hbx 1 rfl
  have bl := lt_heap hbx
  have x0 := cellv hx 0 rfl
  have x1 := cellv hx 1 rfl
  have xf0 := free_heap hx 0
  have xf1 := free_heap hx 1
  have xl := lt_heap hx
  have HX := Lib.hid hx
  clear hbx hx
  replace hN := Lib.hid hN
  go_wp2_with fail
  exact hN.out _ _ (id ⟨rfl,rfl,rfl,trivial⟩) (at2 HX.out) keeps2G
def c_tf_r6 := sp 99 155 cF11
theorem tf_r6_wp (hbx2:gb≠gx) (hbx:w.heap[gb]?=some (.cells #[.int .i64 c,.int .i64 j] 32 (0,0))) (hx:w.heap[gx]?=some (.cells #[.int .i64 0,.int .i64 0] 32 (0,0))) (hN:∀a' w',Frm 28 [(4,.pointer (some ⟨gx,0,none⟩))] a'→w'.heap[gx]?=some (.cells #[.int .i64 c,.int .i64 j] 32 (0,0))→Keeps (fun k=>k=gx) w w'→Q .normal a' w'):∀ac,Frm 28 [(4,.pointer (some ⟨gx,0,none⟩)),(6,.pointer (some ⟨gb,0,none⟩))] ac→Code.wp Tryd.prog c_tf_r6 Q ac w := by
  refine fO (frame_tf ?_)
  intros
  rename_i hq
  iterate 2 (obtain ⟨e,hq⟩ := hq; obtain rfl := sI e; clear e)
  clear hq
  conv=>arg 2; whnf
  have b0 := cellv hbx 0 rfl
  have b1 := cellv hbx 1 rfl
  have bl := lt_heap hbx
  have x0 := cellv hx 0 rfl
  have x1 := cellv hx 1 rfl
  have xf0 := free_heap hx 0
  have xf1 := free_heap hx 1
  have xl := lt_heap hx
  have HX := Lib.hid hx
  clear hbx hx
  replace hN := Lib.hid hN
  go_wp2_with fail
  exact hN.out _ _ (id ⟨rfl,rfl,rfl,trivial⟩) (at2 HX.out) keeps2G
def c_tf_r8 := sp 99 151 cF11
theorem tf_r8_wp (hx:w.heap[gx]?=some (.cells #[.int .i64 0,.int .i64 0] 32 (0,0))) (hN:∀a' w',Frm 28 [(4,.pointer (some ⟨gx,0,none⟩))] a'→w'.heap[gx]?=some (.cells #[.int .i64 17,.int .i64 (-2)] 32 (0,0))→Keeps (fun k=>k=gx) w w'→Q .normal a' w'):∀ac,Frm 28 [(4,.pointer (some ⟨gx,0,none⟩))] ac→Code.wp Tryd.prog c_tf_r8 Q ac w := by
  refine fO (frame_tf ?_)
  intros
  rename_i hq
  iterate 1 (obtain ⟨e,hq⟩ := hq; obtain rfl := sI e; clear e)
  clear hq
  conv=>arg 2; whnf
  have x0 := cellv hx 0 rfl
  have x1 := cellv hx 1 rfl
  have xf0 := free_heap hx 0
  have xf1 := free_heap hx 1
  have xl := lt_heap hx
  replace hx := Lib.hid hx
  replace hN := Lib.hid hN
  go_wp2_with fail
  exact hN.out _ _ (id ⟨rfl,rfl,rfl,trivial⟩) (at2 hx.out) keeps2G
def c_tf_r10 := sp 99 303 cF11
theorem tf_r10_wp (hx:w.heap[gx]?=some (.cells #[.int .i64 0,.int .i64 0] 32 (0,0))) (hN:∀a' w',Frm 28 [(4,.pointer (some ⟨gx,0,none⟩))] a'→w'.heap[gx]?=some (.cells #[.int .i64 6,.int .i64 (-2)] 32 (0,0))→Keeps (fun k=>k=gx) w w'→Q .normal a' w'):∀ac,Frm 28 [(4,.pointer (some ⟨gx,0,none⟩))] ac→Code.wp Tryd.prog c_tf_r10 Q ac w := by
  refine fO (frame_tf ?_)
  intros
  rename_i hq
  iterate 1 (obtain ⟨e,hq⟩ := hq; obtain rfl := sI e; clear e)
  clear hq
  conv=>arg 2; whnf
  have x0 := cellv hx 0 rfl
  have x1 := cellv hx 1 rfl
  have xf0 := free_heap hx 0
  have xf1 := free_heap hx 1
  have xl := lt_heap hx
  replace hx := Lib.hid hx
  replace hN := Lib.hid hN
  go_wp2_with fail
  exact hN.out _ _ (id ⟨rfl,rfl,rfl,trivial⟩) (at2 hx.out) keeps2G
def c_tf_r11 := sp 99 95 cF11
theorem tf_r11_wp (hx:w.heap[gx]?=some (.cells #[.int .i64 0,.int .i64 0] 32 (0,0))) (hN:∀a' w',Frm 28 [(4,.pointer (some ⟨gx,0,none⟩))] a'→w'.heap[gx]?=some (.cells #[.int .i64 0,.int .i64 0] 32 (0,0))→Keeps (fun k=>k=gx) w w'→Q .normal a' w'):∀ac,Frm 28 [(4,.pointer (some ⟨gx,0,none⟩))] ac→Code.wp Tryd.prog c_tf_r11 Q ac w := by
  refine fO (frame_tf ?_)
  intros
  rename_i hq
  iterate 1 (obtain ⟨e,hq⟩ := hq; obtain rfl := sI e; clear e)
  clear hq
  conv=>arg 2; whnf
  have x0 := cellv hx 0 rfl
  have x1 := cellv hx 1 rfl
  have xf0 := free_heap hx 0
  have xf1 := free_heap hx 1
  have xl := lt_heap hx
  replace hx := Lib.hid hx
  replace hN := Lib.hid hN
  go_wp2_with fail
  exact hN.out _ _ (id ⟨rfl,rfl,rfl,trivial⟩) (at2 hx.out) keeps2G
def c_tf_r7 := sp 99 39 cF11
theorem tf_r7_wp {q:Nat} (ha:w.heap[wo.heap.size+1]?=some (.cells #[.int .i64 kd,.string nm,.slice A n1 c1,.slice B n2 c2] 29 (0,0))) (hc:Calls Tryd.prog 26 #[.agg #[.int .i64 kd,.string nm,.slice A n1 c1,.slice B n2 c2]] w fun e w'=>e=.returned (.int .i64 (q:Nat))∧Below w.heap.size w w') (hN:∀a' w',Frm 28 [(2,s_2),(3,.pointer (some ⟨(wo.heap.size+1),0,none⟩)),(4,s_4),(21,.bool (decide (5<q)))] a'→Below w.heap.size w w'→Q .normal a' w'):∀ac,Frm 28 [(2,s_2),(3,.pointer (some ⟨(wo.heap.size+1),0,none⟩)),(4,s_4)] ac→Code.wp Tryd.prog c_tf_r7 Q ac w := by
  refine fO (frame_tf ?_)
  intros
  rename_i hq
  iterate 3 (obtain ⟨e,hq⟩ := hq; obtain rfl := sI e; clear e)
  clear hq
  conv=>arg 2; whnf
  have a0 := cellv ha 0 rfl
  have a1 := cellv ha 1 rfl
  have a2 := cellv ha 2 rfl
  have a3 := cellv ha 3 rfl
  have al := lt_heap ha
  clear ha
  by_cases h:5<q
  · have t1:decide ((5:Int)<(q:Int))=true := decide_eq_true (by omega)
    rw [show decide (5<q)=true from decide_eq_true h] at hN
    clear h
    have HN := Lib.hid hN
    have HC := Lib.hid hc
    clear hN hc
    go_wp2_with fail
    (with_reducible refine HC.out.mono ?_)
    rintro e w1 ⟨rfl,hb1⟩
    replace hb1 := Lib.hid hb1
    go_wp2_with fail
    exact HN.out _ _ (by exact fR rfl rfl rfl) hb1.out
  · have t1:decide ((5:Int)<(q:Int))=false := decide_eq_false (by omega)
    rw [show decide (5<q)=false from decide_eq_false h] at hN
    clear h
    have HN := Lib.hid hN
    have HC := Lib.hid hc
    clear hN hc
    go_wp2_with fail
    (with_reducible refine HC.out.mono ?_)
    rintro e w1 ⟨rfl,hb1⟩
    replace hb1 := Lib.hid hb1
    go_wp2_with fail
    exact HN.out _ _ (by exact fR rfl rfl rfl) hb1.out
def c_tf_r9 := sp 99 79 cF11
theorem tf_r9_wp {bb:Bool} (hgm:w.heap[wo.heap.size]?=some (.cells #[.int .i64 z,.slice Am nm1 cm,.slice Bm nm2 dm] 25 (0,0))) (ha:w.heap[wo.heap.size+1]?=some (.cells #[.int .i64 kd,.string nm,.slice A n1 c1,.slice B n2 c2] 29 (0,0))) (hc:Calls Tryd.prog 27 #[.agg #[.int .i64 z,.slice Am nm1 cm,.slice Bm nm2 dm],.agg #[.int .i64 kd,.string nm,.slice A n1 c1,.slice B n2 c2]] w fun e w'=>e=.returned (.bool bb)∧Below w.heap.size w w') (hN:∀a' w',Frm 28 [(2,.pointer (some ⟨wo.heap.size,0,none⟩)),(3,.pointer (some ⟨(wo.heap.size+1),0,none⟩)),(4,s_4),(25,.bool bb)] a'→Below w.heap.size w w'→Q .normal a' w'):∀ac,Frm 28 [(2,.pointer (some ⟨wo.heap.size,0,none⟩)),(3,.pointer (some ⟨(wo.heap.size+1),0,none⟩)),(4,s_4)] ac→Code.wp Tryd.prog c_tf_r9 Q ac w := by
  refine fO (frame_tf ?_)
  intros
  rename_i hq
  iterate 3 (obtain ⟨e,hq⟩ := hq; obtain rfl := sI e; clear e)
  clear hq
  conv=>arg 2; whnf
  have m0 := cellv hgm 0 rfl
  have m1 := cellv hgm 1 rfl
  have m2 := cellv hgm 2 rfl
  have ml := lt_heap hgm
  clear hgm
  have a0 := cellv ha 0 rfl
  have a1 := cellv ha 1 rfl
  have a2 := cellv ha 2 rfl
  have a3 := cellv ha 3 rfl
  have al := lt_heap ha
  clear ha
  have HN := Lib.hid hN
  have HC := Lib.hid hc
  clear hN hc
  go_wp2_with fail
  (with_reducible refine HC.out.mono ?_)
  rintro e w1 ⟨rfl,hb1⟩
  replace hb1 := Lib.hid hb1
  go_wp2_with fail
  exact HN.out _ _ (by exact fR rfl rfl rfl) hb1.out
theorem tf_ret_wp {R:Ending→World→Prop} {w':World} (hx:w'.heap[gx]?=some (.cells #[.int .i64 c,.int .i64 j] 32 (0,0))) (hR:R (.returned (.agg #[.int .i64 c,.int .i64 j])) w'):∀ac,Frm 28 [(4,.pointer (some ⟨gx,0,none⟩))] ac→bodyPost Tryd.prog Tryd.f11 R .ret ac w' := by
  refine fO (frame_tf ?_)
  intros
  rename_i hq
  iterate 1 (obtain ⟨e,hq⟩ := hq; obtain rfl := sI e; clear e)
  clear hq
  have x0 := cellv hx 0 rfl
  have x1 := cellv hx 1 rfl
  have xl := lt_heap hx
  refine bodyPost_ret (v := .agg #[.int .i64 c,.int .i64 j]) (by simp [results,Tryd.results11,go_sem,x0,x1,xl]) rfl ?_
  exact hR
theorem truthFault_any (m:Md) (t:Fm) (ms cs:List Value) (w:World) (S:Nat→Prop) (ht:fmRep.R w S t cs) (hm:m.In w S ms) (hS:∀b,S b→b<w.heap.size) :
    Calls Tryd.prog 11 #[.agg ms.toArray,.agg cs.toArray] w fun e w'=>e=.returned (.agg #[.int .i64 (holdsC m t).1,.int .i64 (holdsC m t).2])∧Below w.heap.size w w' := by
  obtain ⟨A,n1,c1,B,n2,c2,rfl,_,_,_,_⟩ := Fm.shape ht
  obtain ⟨Am,cm,Bm,dm,rfl,_,_,_,_⟩ := Md.shape hm
  obtain ⟨kd,hkd⟩:∃k,t.lab.kind=k := ⟨_,rfl⟩
  obtain ⟨nm,hnm⟩:∃k,t.lab.nm=k := ⟨_,rfl⟩
  rw [hkd,hnm] at ht ⊢
  go_enter Tryd.func11,Tryd.ntmps11
  refine wp_seq ?_
  refine tf_r0_wp (fun a0 h0=>?_) _ (id ⟨rfl,rfl,rfl,rfl,trivial⟩)
  refine gen_last (fun wx=>wx.heap[w.heap.size]?=some (.cells #[.int .i64 m.sz,.slice Am m.cs.length cm,.slice Bm m.rs.length dm] 25 (0,0))∧wx.heap[w.heap.size+1]?=some (.cells #[.int .i64 kd,.string nm,.slice A n1 c1,.slice B n2 c2] 29 (0,0))∧wx.heap[w.heap.size+1+1]?=some (.cells #[.int .i64 0,.int .i64 0] 32 (0,0))∧Below w.heap.size w wx) ⟨heap_old (by simp; omega) (heap_old (by simp) (heap_at rfl)),heap_old (by simp) (heap_at (by simp)),heap_at (by simp),by go_grown⟩ ?_
  rintro wy ⟨hmy,hay,hey,hby⟩
  have hbys := hby.size
  have hgyl := lt_heap hey
  have hkeep:∀W:World,Below w.heap.size w W→∀k,S k→W.heap[k]?=w.heap[k]? := fun W hb k hk=>hb.block k (hS k hk)
  have hlt:∀W:World,Below w.heap.size w W→∀k,S k→k<W.heap.size := fun W hb k hk=>by have := hS k hk; have := hb.size; omega
  refine wp_seq ?_
  refine wp_seq ?_
  have hv1 := refModel_any m _ wy S (hm.keep (hkeep wy hby) (fun _ h=>h)) (hlt wy hby)
  unfold MdAt at hv1
  refine tf_r1_wp hmy hv1 (fun g1 a1 w1 h1 hg1 hge1 hb1=>?_) a0 h0
  have hb1s := hb1.size
  have hx1 := (hb1.block _ (lt_heap hey)).trans hey
  refine wp_seq ?_
  refine tf_r2_wp hge1 (fun a2 h2=>?_) a1 h1
  by_cases hf1:((mdFault m).1:Int)≠0
  · refine wp_cond_true ((h2.eval (k := 11) (v := .bool (decide (((mdFault m).1:Int)≠0))) (by simp)).trans (by rw [decide_eq_true hf1])) ?_
    have hcc:holdsC m t=((((mdFault m).1:Nat):Int),(((mdFault m).2:Nat):Int)) := if_pos (by omega)
    rw [hcc]
    refine wp_seq ?_
    refine tf_r3_wp (by omega) hge1 hx1 (fun a20 w20 h20 hx20 hk20=>?_) a2 (h2.pick [2,3])
    refine wp_ret ?_
    repeat (first | refine thenR ?_ | refine inBlockR ?_)
    refine tf_ret_wp hx20 ⟨rfl,(hby.trans (hb1.mono hbys)).trans (Keeps.below (B := w.heap.size) hk20 (fun k e=>by have e:k=w.heap.size+1+1 := e; omega) (by have := (hby.trans (hb1.mono hbys)).size; omega))⟩ a20 h20
  refine wp_cond_false ((h2.eval (k := 11) (v := .bool (decide (((mdFault m).1:Int)≠0))) (by simp)).trans (by rw [decide_eq_false hf1])) ?_
  refine wp_skip ?_
  show Code.wp _ _ _ a2 w1
  have hg := Md.good_of (show (mdFault m).1=0 by omega)
  have hb01 := hby.trans (hb1.mono hbys)
  refine wp_seq ?_
  refine wp_seq ?_
  have hv2 := refFormFault_any t [.int .i64 kd,.string nm,.slice A n1 c1,.slice B n2 c2] w1 S (fmRep.keep ht (hkeep w1 hb01) (fun _ h=>h)) (hlt w1 hb01)
  have hay1 := (hb1.block _ (lt_heap hay)).trans hay
  have hmy1 := (hb1.block _ (lt_heap hmy)).trans hmy
  refine tf_r4_wp (c := ((fmFault t).1:Nat)) (j := ((fmFault t).2:Nat)) hay1 hv2 (fun g2 a3 w2 h3 hg2 hge2 hb2=>?_) a2 (h2.pick [0,1,2])
  have hb2s := hb2.size
  have hx2 := (hb2.block _ (lt_heap hx1)).trans hx1
  refine wp_seq ?_
  refine tf_r5_wp hge2 (fun a4 h4=>?_) a3 h3
  have hb02 := hb01.trans (hb2.mono (by omega))
  by_cases hf2:((fmFault t).1:Int)≠0
  · refine wp_cond_true ((h4.eval (k := 17) (v := .bool (decide (((fmFault t).1:Int)≠0))) (by simp)).trans (by rw [decide_eq_true hf2])) ?_
    have hcc:holdsC m t=((((fmFault t).1:Nat):Int),(((fmFault t).2:Nat):Int)) := by
      unfold holdsC
      rw [if_neg (by omega),if_pos (by omega)]
    rw [hcc]
    refine wp_seq ?_
    refine tf_r6_wp (by omega) hge2 hx2 (fun a20 w20 h20 hx20 hk20=>?_) a4 (h4.pick [2,3])
    refine wp_ret ?_
    repeat (first | refine thenR ?_ | refine inBlockR ?_)
    refine tf_ret_wp hx20 ⟨rfl,hb02.trans (Keeps.below (B := w.heap.size) hk20 (fun k e=>by have e:k=w.heap.size+1+1 := e; omega) (by have := hb02.size; omega))⟩ a20 h20
  refine wp_cond_false ((h4.eval (k := 17) (v := .bool (decide (((fmFault t).1:Int)≠0))) (by simp)).trans (by rw [decide_eq_false hf2])) ?_
  refine wp_skip ?_
  show Code.wp _ _ _ a4 w2
  obtain ⟨v,hvt,ov,nv,dv,ev⟩ := fault_ok9 (show (fmFault t).1=0 by omega)
  have hsm := fm_small ov nv
  rw [← hvt] at hsm
  have hcc:holdsC m t=pairT m t := by
    unfold holdsC
    rw [if_neg (by omega),if_neg (by omega)]
  rw [hcc]
  have hay2 := (hb2.block _ (lt_heap hay1)).trans hay1
  have hmy2 := (hb2.block _ (lt_heap hmy1)).trans hmy1
  have hv3 := nestOf_any t.nodes t [.int .i64 kd,.string nm,.slice A n1 c1,.slice B n2 c2] w2 S (Nat.le_refl _) hsm.1 (fmRep.keep ht (hkeep w2 hb02) (fun _ h=>h)) (hlt w2 hb02)
  refine wp_seq ?_
  refine wp_seq ?_
  refine tf_r7_wp hay2 hv3 (fun a5 w3 h5 hb3=>?_) a4 (h4.pick [0,1,2])
  have hx3 := (hb3.block _ (lt_heap hx2)).trans hx2
  have hb03 := hb02.trans (hb3.mono (by omega))
  by_cases hf3:5<nestT t
  · refine wp_cond_true ((h5.eval (k := 21) (v := .bool (decide (5<nestT t))) (by simp)).trans (by rw [decide_eq_true hf3])) ?_
    rw [show pairT m t=(17,-2) from if_pos hf3]
    refine wp_seq ?_
    refine tf_r8_wp hx3 (fun a20 w20 h20 hx20 hk20=>?_) a5 (h5.pick [2])
    refine wp_ret ?_
    repeat (first | refine thenR ?_ | refine inBlockR ?_)
    refine tf_ret_wp hx20 ⟨rfl,hb03.trans (Keeps.below (B := w.heap.size) hk20 (fun k e=>by have e:k=w.heap.size+1+1 := e; omega) (by have := hb03.size; omega))⟩ a20 h20
  refine wp_cond_false ((h5.eval (k := 21) (v := .bool (decide (5<nestT t))) (by simp)).trans (by rw [decide_eq_false hf3])) ?_
  refine wp_skip ?_
  show Code.wp _ _ _ a5 w3
  have hb3s := hb3.size
  have hay3 := (hb3.block _ (lt_heap hay2)).trans hay2
  have hmy3 := (hb3.block _ (lt_heap hmy2)).trans hmy2
  have hv4 := lacks_any m hg t [.int .i64 m.sz,.slice Am m.cs.length cm,.slice Bm m.rs.length dm] [.int .i64 kd,.string nm,.slice A n1 c1,.slice B n2 c2] w3 S (fmRep.keep ht (hkeep w3 hb03) (fun _ h=>h)) (hlt w3 hb03) (hm.keep (hkeep w3 hb03) (fun _ h=>h)) hsm.1 hsm.2
  refine wp_seq ?_
  refine wp_seq ?_
  refine tf_r9_wp hmy3 hay3 hv4 (fun a6 w4 h6 hb4=>?_) a5 (h5.pick [0,1,2])
  have hx4 := (hb4.block _ (lt_heap hx3)).trans hx3
  have hb04 := hb03.trans (hb4.mono (by omega))
  cases hlk:(allC m (fmConsts t) && hasT m t)
  · rw [hlk] at h6
    refine wp_cond_true ((h6.eval (k := 25) (v := .bool (!false)) (by simp)).trans (by rw [show (!false)=true from rfl])) ?_
    have hp:pairT m t=(6,-2) := by
      unfold pairT
      rw [if_neg hf3]
      cases hal:allC m (fmConsts t)
      · rw [if_pos rfl]
      · rw [hal,Bool.true_and] at hlk
        rw [if_neg (by decide),if_pos hlk]
    rw [hp]
    refine wp_seq ?_
    refine tf_r10_wp hx4 (fun a20 w20 h20 hx20 hk20=>?_) a6 (h6.pick [2])
    refine wp_ret ?_
    repeat (first | refine thenR ?_ | refine inBlockR ?_)
    refine tf_ret_wp hx20 ⟨rfl,hb04.trans (Keeps.below (B := w.heap.size) hk20 (fun k e=>by have e:k=w.heap.size+1+1 := e; omega) (by have := hb04.size; omega))⟩ a20 h20
  · rw [hlk] at h6
    refine wp_cond_false ((h6.eval (k := 25) (v := .bool (!true)) (by simp)).trans (by rw [show (!true)=false from rfl])) ?_
    refine wp_skip ?_
    show Code.wp _ _ _ a6 w4
    have hp:pairT m t=(0,0) := by
      rw [Bool.and_eq_true] at hlk
      unfold pairT
      rw [if_neg hf3,if_neg (by rw [hlk.1]; decide),if_neg (by rw [hlk.2]; decide)]
    rw [hp]
    refine wp_seq ?_
    refine tf_r11_wp hx4 (fun a20 w20 h20 hx20 hk20=>?_) a6 (h6.pick [2])
    refine wp_ret ?_
    repeat (first | refine thenR ?_ | refine inBlockR ?_)
    refine tf_ret_wp hx20 ⟨rfl,hb04.trans (Keeps.below (B := w.heap.size) hk20 (fun k e=>by have e:k=w.heap.size+1+1 := e; omega) (by have := hb04.size; omega))⟩ a20 h20
theorem have_all {m:Md} {v:Fv} (hv:v.ok) (h:allC m (fmConsts v.fm)=true):haveF m [] v := by
  refine have_of v [] hv (fun c hc=>?_)
  unfold allC at h
  exact List.all_eq_true.1 h c (mem_constsB.2 hc)
end

end Go.Proofs.YthfokmjpbnfihaaDoor
