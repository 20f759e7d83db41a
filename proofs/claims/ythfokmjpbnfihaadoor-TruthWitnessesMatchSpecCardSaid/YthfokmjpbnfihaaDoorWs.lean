/- Lemmas. -/
import Derived.Test.YthfokmjpbnfihaaDoorShelf
import Derived.Test.YthfokmjpbnfihaaDoorWq
import Derived.Test.YthfokmjpbnfihaaDoorWg
import Derived.Sort.OwnSorted
import Derived.Laws.MakeOwn
import Derived.Laws.Rows
namespace Go.Proofs.YthfokmjpbnfihaaDoor
open Go Go.RowKit
set_option linter.unusedSimpArgs false
set_option linter.unusedVariables false
noncomputable section
set_option maxRecDepth 1000000
set_option maxHeartbeats 16000000
variable {Q:Exit→Act→World→Prop} {z kd ra:Int} {Am Bm A B D9:Option Addr} {nm1 cm nm2 dm n1 c1 n2 c2 i b o a9 b9:Nat} {wo w:World} {nm rn:ByteArray} {s_2 s_3 s_5 s_13 s_14 s_39 s_40:Value} {bb:Bool}

theorem frame_lr {P:Act→Prop} (h:∀x0 x1 x2 x3 x4 x5 x6 x7 x8 x9 x10 x11 x12 x13 x14 x15 x16 x17 x18 x19 x20 x21 x22 x23 x24 x25 x26 x27 x28 x29 x30 x31 x32 x33 x34 x35 x36 x37 x38 x39 x40 x41 x42 x43 x44 x45 x46 x47 x48 x49 x50 x51:Value,P ⟨(x0 :: x1 :: x2 :: x3 :: x4 :: x5 :: x6 :: x7 :: x8 :: x9 :: x10 :: x11 :: x12 :: x13 :: x14 :: x15 :: x16 :: x17 :: x18 :: x19 :: x20 :: x21 :: x22 :: x23 :: x24 :: x25 :: x26 :: x27 :: x28 :: x29 :: x30 :: x31 :: x32 :: x33 :: x34 :: x35 :: x36 :: x37 :: x38 :: x39 :: x40 :: x41 :: x42 :: x43 :: x44 :: x45 :: x46 :: x47 :: x48 :: x49 :: x50 :: x51 :: []).toArray,[]⟩):∀a:Act,a.tmps.toList.length=52→a.defers=[]→P a := by
  rintro ⟨⟨l⟩,d⟩ hs hd
  simp only at hd
  subst hd
  revert l
  show ∀l:List Value,l.length=52→P ⟨⟨l⟩,[]⟩
  iterate 52 refine openS (fun _=>?_)
  refine open0 ?_
  exact h ..
noncomputable def cF47:Code := Tryd.f47.body.getD .skip
def c_lr_r0 := sp 99 2 cF47
theorem lr_r0_wp (hN:∀a',Frm 52 [(2,.pointer (some ⟨wo.heap.size,0,none⟩)),(3,.pointer (some ⟨(wo.heap.size+1),0,none⟩))] a'→Q .normal a' ((wo.alloc (.cells #[.int .i64 z,.slice Am nm1 cm,.slice Bm nm2 dm] 25)).alloc (.cells #[.int .i64 kd,.string nm,.slice A n1 c1,.slice B n2 c2] 29))):∀ac,Frm 52 [(0,.agg #[.int .i64 z,.slice Am nm1 cm,.slice Bm nm2 dm]),(1,.agg #[.int .i64 kd,.string nm,.slice A n1 c1,.slice B n2 c2])] ac→Code.wp Tryd.prog c_lr_r0 Q ac wo := by
  refine fO (frame_lr ?_)
  intros
  rename_i hq
  iterate 2 (obtain ⟨e,hq⟩ := hq; obtain rfl := sI e; clear e)
  clear hq
  conv=>arg 2; whnf
  replace hN := Lib.hid hN
  go_wp2_with fail
  exact hN.out _ (id ⟨rfl,rfl,rfl,rfl,trivial⟩)
def c_lr_r1 := sp 99 9 cF47
theorem lr_r1_wp (ha:w.heap[wo.heap.size+1]?=some (.cells #[.int .i64 kd,.string nm,.slice A n1 c1,.slice B n2 c2] 29 (0,0))) (hN:∀a',Frm 52 [(2,s_2),(3,.pointer (some ⟨(wo.heap.size+1),0,none⟩)),(11,.bool (decide (kd=2)))] a'→Q .normal a' w):∀ac,Frm 52 [(2,s_2),(3,.pointer (some ⟨(wo.heap.size+1),0,none⟩))] ac→Code.wp Tryd.prog c_lr_r1 Q ac w := by
  refine fO (frame_lr ?_)
  intros
  rename_i hq
  iterate 2 (obtain ⟨e,hq⟩ := hq; obtain rfl := sI e; clear e)
  clear hq
  conv=>arg 2; whnf
  have a0 := cellv ha 0 rfl
  have a1 := cellv ha 1 rfl
  have a2 := cellv ha 2 rfl
  have a3 := cellv ha 3 rfl
  have al := lt_heap ha
  clear ha
  by_cases h:kd=2
  · have t1:(kd == 2)=true := beq_iff_eq.2 h
    have t2:decide (kd=2)=true := decide_eq_true h
    rw [t2] at hN
    clear h
    replace hN := Lib.hid hN
    go_wp2_with fail
    exact hN.out _ (by exact fR rfl rfl rfl)
  · have t1:(kd == 2)=false := beq_eq_false_iff_ne.2 h
    have t2:decide (kd=2)=false := decide_eq_false h
    rw [t2] at hN
    clear h
    replace hN := Lib.hid hN
    go_wp2_with fail
    exact hN.out _ (by exact fR rfl rfl rfl)
def c_lr_r2 := sp 99 37 cF47
theorem lr_r2_wp (hN:∀a',Frm 52 [(2,s_2),(3,s_3),(5,.bool false)] a'→Q .normal a' w):∀ac,Frm 52 [(2,s_2),(3,s_3)] ac→Code.wp Tryd.prog c_lr_r2 Q ac w := by
  refine fO (frame_lr ?_)
  intros
  rename_i hq
  iterate 2 (obtain ⟨e,hq⟩ := hq; obtain rfl := sI e; clear e)
  clear hq
  conv=>arg 2; whnf
  replace hN := Lib.hid hN
  go_wp2_with fail
  exact hN.out _ (by exact fR rfl rfl rfl)
def c_lr_r3 := sp 99 149 cF47
theorem lr_r3_wp (hgm:w.heap[wo.heap.size]?=some (.cells #[.int .i64 z,.slice Am nm1 cm,.slice Bm nm2 dm] 25 (0,0))) (hN:∀a',Frm 52 [(2,.pointer (some ⟨wo.heap.size,0,none⟩)),(3,s_3),(5,s_5),(13,.slice Bm nm2 dm),(14,.int .i64 (nm2:Nat)),(15,.int .i64 (0:Nat))] a'→Q .normal a' w):∀ac,Frm 52 [(2,.pointer (some ⟨wo.heap.size,0,none⟩)),(3,s_3),(5,s_5)] ac→Code.wp Tryd.prog c_lr_r3 Q ac w := by
  refine fO (frame_lr ?_)
  intros
  rename_i hq
  iterate 3 (obtain ⟨e,hq⟩ := hq; obtain rfl := sI e; clear e)
  clear hq
  conv=>arg 2; whnf
  have m0 := cellv hgm 0 rfl
  have m1 := cellv hgm 1 rfl
  have m2 := cellv hgm 2 rfl
  have ml := lt_heap hgm
  clear hgm
  replace hN := Lib.hid hN
  go_wp2_with fail
  exact hN.out _ (by exact fR rfl rfl rfl)
def c_lr_r4 := sp 99 1109 cF47
theorem lr_r4_wp (hN:∀a',Frm 52 [(2,s_2),(3,s_3),(5,s_5),(13,s_13),(14,.int .i64 (nm2:Nat)),(15,.int .i64 (i:Nat)),(16,.bool (decide (i<nm2)))] a'→Q .normal a' w):∀ac,Frm 52 [(2,s_2),(3,s_3),(5,s_5),(13,s_13),(14,.int .i64 (nm2:Nat)),(15,.int .i64 (i:Nat))] ac→Code.wp Tryd.prog c_lr_r4 Q ac w := by
  refine fO (frame_lr ?_)
  intros
  rename_i hq
  iterate 6 (obtain ⟨e,hq⟩ := hq; obtain rfl := sI e; clear e)
  clear hq
  conv=>arg 2; whnf
  by_cases h:i<nm2
  · have t1:decide ((i:Int)<(nm2:Int))=true := by first | exact decide_eq_true (by omega) | exact beq_iff_eq.2 (by omega) | exact bne_iff_ne.2 (by omega)
    have t2:(decide (i<nm2))=true := decide_eq_true h
    rw [t2] at hN
    clear h
    replace hN := Lib.hid hN
    go_wp2_with fail
    exact hN.out _ (by exact fR rfl rfl rfl)
  · have t1:decide ((i:Int)<(nm2:Int))=false := by first | exact decide_eq_false (by omega) | exact beq_eq_false_iff_ne.2 (by omega) | exact bne_eq_false_iff_eq.2 (by omega)
    have t2:(decide (i<nm2))=false := decide_eq_false h
    rw [t2] at hN
    clear h
    replace hN := Lib.hid hN
    go_wp2_with fail
    exact hN.out _ (by exact fR rfl rfl rfl)
def c_lr_r5 := sp 99 18005 cF47
theorem lr_r5_wp (hi:i<nm2) (e0:w.cell? ⟨b,o+i * 3,none⟩=some (.string rn)) (e1:w.cell? ⟨b,o+i * 3+1,none⟩=some (.int .i64 ra)) (e2:w.cell? ⟨b,o+i * 3+2,none⟩=some (.slice D9 a9 b9)) (hbl:b<w.heap.size) (hN:∀a' w',Frm 52 [(2,s_2),(3,s_3),(5,s_5),(13,.slice (some ⟨b,o,none⟩) nm2 dm),(14,s_14),(15,.int .i64 (i:Nat)),(7,.pointer (some ⟨w.heap.size,0,none⟩))] a'→w'.heap[w.heap.size]?=some (.cells #[.string rn,.int .i64 ra,.slice D9 a9 b9] 59 (0,0))→Below w.heap.size w w'→Q .normal a' w'):∀ac,Frm 52 [(2,s_2),(3,s_3),(5,s_5),(13,.slice (some ⟨b,o,none⟩) nm2 dm),(14,s_14),(15,.int .i64 (i:Nat))] ac→Code.wp Tryd.prog c_lr_r5 Q ac w := by
  refine fO (frame_lr ?_)
  intros
  rename_i hq
  iterate 6 (obtain ⟨e,hq⟩ := hq; obtain rfl := sI e; clear e)
  clear hq
  conv=>arg 2; whnf
  have q0:(0:Int)≤(i:Int) := by omega
  have q1:(i:Int)<(nm2:Int) := by omega
  replace hN := Lib.hid hN
  go_wp2_with fail
  exact hN.out _ _ (by exact fR rfl rfl rfl) (heap_alloc_new _ _) ((Below.refl _ w).alloc (Nat.le_refl _) _)
def c_lr_r6 := sp 99 26197 cF47
theorem lr_r6_wp {s_15:Value} {E:Nat} (ha:w.heap[wo.heap.size+1]?=some (.cells #[.int .i64 kd,.string nm,.slice A n1 c1,.slice B n2 c2] 29 (0,0))) (he:w.heap[E]?=some (.cells #[.string rn,.int .i64 ra,.slice D9 a9 b9] 59 (0,0))) (hN:∀a',Frm 52 [(2,s_2),(3,.pointer (some ⟨(wo.heap.size+1),0,none⟩)),(5,.bool (bb || (decide (rn=nm) && decide (ra=n1)))),(13,s_13),(14,s_14),(15,s_15)] a'→Q .normal a' w):∀ac,Frm 52 [(2,s_2),(3,.pointer (some ⟨(wo.heap.size+1),0,none⟩)),(5,.bool bb),(13,s_13),(14,s_14),(15,s_15),(7,.pointer (some ⟨E,0,none⟩))] ac→Code.wp Tryd.prog c_lr_r6 Q ac w := by
  refine fO (frame_lr ?_)
  intros
  rename_i hq
  iterate 7 (obtain ⟨e,hq⟩ := hq; obtain rfl := sI e; clear e)
  clear hq
  conv=>arg 2; whnf
  have a0 := cellv ha 0 rfl
  have a1 := cellv ha 1 rfl
  have a2 := cellv ha 2 rfl
  have a3 := cellv ha 3 rfl
  have al := lt_heap ha
  clear ha
  have x0 := cellv he 0 rfl
  have x1 := cellv he 1 rfl
  have x2 := cellv he 2 rfl
  have xl := lt_heap he
  clear he
  cases bb
  · by_cases hy:rn=nm
    · have t1:(rn.toList == nm.toList)=true := by rw [hy]; exact beq_self_eq_true _
      have u1:decide (rn=nm)=true := decide_eq_true hy
      by_cases hz:ra=n1
      · have t2:(ra == (n1:Int))=true := beq_iff_eq.2 hz
        rw [show (false || (decide (rn=nm) && decide (ra=n1)))=true from by rw [u1,decide_eq_true hz]; rfl] at hN
        clear hy hz u1
        replace hN := Lib.hid hN
        go_wp2_with fail
        exact hN.out _ (by exact fR rfl rfl rfl)
      · have t2:(ra == (n1:Int))=false := beq_eq_false_iff_ne.2 hz
        rw [show (false || (decide (rn=nm) && decide (ra=n1)))=false from by rw [u1,decide_eq_false hz]; rfl] at hN
        clear hy hz u1
        replace hN := Lib.hid hN
        go_wp2_with fail
        exact hN.out _ (by exact fR rfl rfl rfl)
    · have t1:(rn.toList == nm.toList)=false := beq_eq_false_iff_ne.2 (fun e=>hy (bytes_inj e))
      rw [show (false || (decide (rn=nm) && decide (ra=n1)))=false from by rw [decide_eq_false hy]; rfl] at hN
      clear hy
      replace hN := Lib.hid hN
      go_wp2_with fail
      exact hN.out _ (by exact fR rfl rfl rfl)
  · rw [show (true || (decide (rn=nm) && decide (ra=n1)))=true from rfl] at hN
    replace hN := Lib.hid hN
    go_wp2_with fail
    exact hN.out _ (by exact fR rfl rfl rfl)
def c_lr_r7 := sp 99 7765 cF47
theorem lr_r7_wp (hi:i<nm2) (hlim:nm2≤maxLen) (hN:∀a',Frm 52 [(2,s_2),(3,s_3),(5,s_5),(13,s_13),(14,s_14),(15,.int .i64 (i+1:Nat))] a'→Q .normal a' w):∀ac,Frm 52 [(2,s_2),(3,s_3),(5,s_5),(13,s_13),(14,s_14),(15,.int .i64 (i:Nat))] ac→Code.wp Tryd.prog c_lr_r7 Q ac w := by
  refine fO (frame_lr ?_)
  intros
  rename_i hq
  iterate 6 (obtain ⟨e,hq⟩ := hq; obtain rfl := sI e; clear e)
  clear hq
  conv=>arg 2; whnf
  have hi4:(i:Int)≤9223372036854775806 := by unfold maxLen at hlim; omega
  replace hN := Lib.hid hN
  go_wp2_with fail
  exact hN.out _ (by exact fR rfl rfl rfl)
def c_lr_r8 := sp 99 181 cF47
theorem lr_r8_wp (hN:∀a',Frm 52 [(2,s_2),(3,s_3),(37,.bool (!bb))] a'→Q .normal a' w):∀ac,Frm 52 [(2,s_2),(3,s_3),(5,.bool bb)] ac→Code.wp Tryd.prog c_lr_r8 Q ac w := by
  refine fO (frame_lr ?_)
  intros
  rename_i hq
  iterate 3 (obtain ⟨e,hq⟩ := hq; obtain rfl := sI e; clear e)
  clear hq
  conv=>arg 2; whnf
  replace hN := Lib.hid hN
  go_wp2_with fail
  exact hN.out _ (by exact fR rfl rfl rfl)
def c_lr_r9 := sp 99 629 cF47
theorem lr_r9_wp (hN:∀a',Frm 52 [(4,.bool true)] a'→Q .normal a' w):∀ac,Frm 52 [(2,s_2),(3,s_3)] ac→Code.wp Tryd.prog c_lr_r9 Q ac w := by
  refine fO (frame_lr ?_)
  intros
  rename_i hq
  iterate 2 (obtain ⟨e,hq⟩ := hq; obtain rfl := sI e; clear e)
  clear hq
  conv=>arg 2; whnf
  replace hN := Lib.hid hN
  go_wp2_with fail
  exact hN.out _ (id ⟨rfl,rfl,rfl,trivial⟩)
def c_lr_r10 := sp 99 19 cF47
theorem lr_r10_wp (ha:w.heap[wo.heap.size+1]?=some (.cells #[.int .i64 kd,.string nm,.slice A n1 c1,.slice B n2 c2] 29 (0,0))) (hN:∀a',Frm 52 [(2,s_2),(3,.pointer (some ⟨(wo.heap.size+1),0,none⟩)),(39,.slice B n2 c2),(40,.int .i64 (n2:Nat)),(41,.int .i64 (0:Nat))] a'→Q .normal a' w):∀ac,Frm 52 [(2,s_2),(3,.pointer (some ⟨(wo.heap.size+1),0,none⟩))] ac→Code.wp Tryd.prog c_lr_r10 Q ac w := by
  refine fO (frame_lr ?_)
  intros
  rename_i hq
  iterate 2 (obtain ⟨e,hq⟩ := hq; obtain rfl := sI e; clear e)
  clear hq
  conv=>arg 2; whnf
  have a0 := cellv ha 0 rfl
  have a1 := cellv ha 1 rfl
  have a2 := cellv ha 2 rfl
  have a3 := cellv ha 3 rfl
  have al := lt_heap ha
  clear ha
  replace hN := Lib.hid hN
  go_wp2_with fail
  exact hN.out _ (by exact fR rfl rfl rfl)
def c_lr_r11 := sp 99 139 cF47
theorem lr_r11_wp (hN:∀a',Frm 52 [(2,s_2),(3,s_3),(39,s_39),(40,.int .i64 (n2:Nat)),(41,.int .i64 (i:Nat)),(42,.bool (decide (i<n2)))] a'→Q .normal a' w):∀ac,Frm 52 [(2,s_2),(3,s_3),(39,s_39),(40,.int .i64 (n2:Nat)),(41,.int .i64 (i:Nat))] ac→Code.wp Tryd.prog c_lr_r11 Q ac w := by
  refine fO (frame_lr ?_)
  intros
  rename_i hq
  iterate 5 (obtain ⟨e,hq⟩ := hq; obtain rfl := sI e; clear e)
  clear hq
  conv=>arg 2; whnf
  by_cases h:i<n2
  · have t1:decide ((i:Int)<(n2:Int))=true := by first | exact decide_eq_true (by omega) | exact beq_iff_eq.2 (by omega) | exact bne_iff_ne.2 (by omega)
    have t2:(decide (i<n2))=true := decide_eq_true h
    rw [t2] at hN
    clear h
    replace hN := Lib.hid hN
    go_wp2_with fail
    exact hN.out _ (by exact fR rfl rfl rfl)
  · have t1:decide ((i:Int)<(n2:Int))=false := by first | exact decide_eq_false (by omega) | exact beq_eq_false_iff_ne.2 (by omega) | exact bne_eq_false_iff_eq.2 (by omega)
    have t2:(decide (i<n2))=false := decide_eq_false h
    rw [t2] at hN
    clear h
    replace hN := Lib.hid hN
    go_wp2_with fail
    exact hN.out _ (by exact fR rfl rfl rfl)
def c_lr_r12 := sp 99 2251 cF47
theorem lr_r12_wp (hN:∀a',Frm 52 [(2,s_2),(3,s_3),(39,s_39),(40,s_40),(41,.int .i64 (i:Nat)),(8,.int .i64 (i:Nat))] a'→Q .normal a' w):∀ac,Frm 52 [(2,s_2),(3,s_3),(39,s_39),(40,s_40),(41,.int .i64 (i:Nat))] ac→Code.wp Tryd.prog c_lr_r12 Q ac w := by
  refine fO (frame_lr ?_)
  intros
  rename_i hq
  iterate 5 (obtain ⟨e,hq⟩ := hq; obtain rfl := sI e; clear e)
  clear hq
  conv=>arg 2; whnf
  replace hN := Lib.hid hN
  go_wp2_with fail
  exact hN.out _ (by exact fR rfl rfl rfl)
def c_lr_r13 := sp 99 5323 cF47
theorem lr_r13_wp {s_41:Value} {K:Act→World→Prop} {ke:Int} {ne:ByteArray} {Ae Be:Option Addr} {n3 c3 n4 c4:Nat} (hi:i<n2) (hgm:w.heap[wo.heap.size]?=some (.cells #[.int .i64 z,.slice Am nm1 cm,.slice Bm nm2 dm] 25 (0,0))) (ha:w.heap[wo.heap.size+1]?=some (.cells #[.int .i64 kd,.string nm,.slice A n1 c1,.slice (some ⟨b,o,none⟩) n2 c2] 29 (0,0))) (e0:w.cell? ⟨b,o+i * 4,none⟩=some (.int .i64 ke)) (e1:w.cell? ⟨b,o+i * 4+1,none⟩=some (.string ne)) (e2:w.cell? ⟨b,o+i * 4+2,none⟩=some (.slice Ae n3 c3)) (e3:w.cell? ⟨b,o+i * 4+3,none⟩=some (.slice Be n4 c4)) (hbl:b<w.heap.size) (hc:∀W:World,Below w.heap.size w W→Calls Tryd.prog 47 #[.agg #[.int .i64 z,.slice Am nm1 cm,.slice Bm nm2 dm],.agg #[.int .i64 ke,.string ne,.slice Ae n3 c3,.slice Be n4 c4]] W fun e w'=>e=.returned (.bool bb)∧Below w.heap.size w w') (hN:∀a' w',Frm 52 [(2,.pointer (some ⟨wo.heap.size,0,none⟩)),(3,.pointer (some ⟨(wo.heap.size+1),0,none⟩)),(39,s_39),(40,s_40),(41,s_41),(50,.bool bb)] a'→Below w.heap.size w w'→K a' w'):∀ac,Frm 52 [(2,.pointer (some ⟨wo.heap.size,0,none⟩)),(3,.pointer (some ⟨(wo.heap.size+1),0,none⟩)),(39,s_39),(40,s_40),(41,s_41),(8,.int .i64 (i:Nat))] ac→Code.wp Tryd.prog c_lr_r13 (Exit.then K (fun _ _ _=>False)) ac w := by
  refine fO (frame_lr ?_)
  intros
  rename_i hq
  iterate 6 (obtain ⟨e,hq⟩ := hq; obtain rfl := sI e; clear e)
  clear hq
  conv=>arg 2; whnf
  have q0:(0:Int)≤(i:Int) := by omega
  have q1:(i:Int)<(n2:Int) := by omega
  have a0 := cellv ha 0 rfl
  have a1 := cellv ha 1 rfl
  have a2 := cellv ha 2 rfl
  have a3 := cellv ha 3 rfl
  have al := lt_heap ha
  clear ha
  have m0 := cellv hgm 0 rfl
  have m1 := cellv hgm 1 rfl
  have m2 := cellv hgm 2 rfl
  have ml := lt_heap hgm
  clear hgm
  have HC := Lib.hid hc
  have HN := Lib.hid hN
  clear hc hN
  go_region_law (first
    | (refine step_call (by rfl) 47 _ ?hargs (HC.out _ ?hbel) ?_; (case hargs=>(go_simp; done)); (case hbel=>first | exact Below.refl _ _ | exact (Below.refl _ _).drew); rintro e w1 ⟨rfl,hb1⟩; refine ⟨_,rfl,?_⟩; have HB1 := Lib.hid hb1; clear hb1))
  all_goals go_wp2_with fail
  all_goals exact HN.out _ _ (by exact fR rfl rfl rfl) HB1.out
def c_lr_r14 := sp 99 19659 cF47
theorem lr_r14_wp (hN:∀a',Frm 52 [(4,.bool true)] a'→Q .normal a' w):∀ac,Frm 52 [(2,s_2),(3,s_3)] ac→Code.wp Tryd.prog c_lr_r14 Q ac w := by
  refine fO (frame_lr ?_)
  intros
  rename_i hq
  iterate 2 (obtain ⟨e,hq⟩ := hq; obtain rfl := sI e; clear e)
  clear hq
  conv=>arg 2; whnf
  replace hN := Lib.hid hN
  go_wp2_with fail
  exact hN.out _ (id ⟨rfl,rfl,rfl,trivial⟩)
def c_lr_r15 := sp 99 971 cF47
theorem lr_r15_wp (hi:i<n2) (hlim:n2≤maxLen) (hN:∀a',Frm 52 [(2,s_2),(3,s_3),(39,s_39),(40,s_40),(41,.int .i64 (i+1:Nat))] a'→Q .normal a' w):∀ac,Frm 52 [(2,s_2),(3,s_3),(39,s_39),(40,s_40),(41,.int .i64 (i:Nat))] ac→Code.wp Tryd.prog c_lr_r15 Q ac w := by
  refine fO (frame_lr ?_)
  intros
  rename_i hq
  iterate 5 (obtain ⟨e,hq⟩ := hq; obtain rfl := sI e; clear e)
  clear hq
  conv=>arg 2; whnf
  have hi4:(i:Int)≤9223372036854775806 := by unfold maxLen at hlim; omega
  replace hN := Lib.hid hN
  go_wp2_with fail
  exact hN.out _ (by exact fR rfl rfl rfl)
def c_lr_r16 := sp 99 23 cF47
theorem lr_r16_wp (hN:∀a',Frm 52 [(4,.bool false)] a'→Q .normal a' w):∀ac,Frm 52 [(2,s_2),(3,s_3)] ac→Code.wp Tryd.prog c_lr_r16 Q ac w := by
  refine fO (frame_lr ?_)
  intros
  rename_i hq
  iterate 2 (obtain ⟨e,hq⟩ := hq; obtain rfl := sI e; clear e)
  clear hq
  conv=>arg 2; whnf
  replace hN := Lib.hid hN
  go_wp2_with fail
  exact hN.out _ (id ⟨rfl,rfl,rfl,trivial⟩)
theorem lr_ret_wp {R:Ending→World→Prop} {w':World} (hR:R (.returned (.bool bb)) w'):∀ac,Frm 52 [(4,.bool bb)] ac→bodyPost Tryd.prog Tryd.f47 R .ret ac w' := by
  refine fO (frame_lr ?_)
  intros
  rename_i hq
  iterate 1 (obtain ⟨e,hq⟩ := hq; obtain rfl := sI e; clear e)
  clear hq
  refine bodyPost_ret (v := .bool bb) (by simp [results,Tryd.results47,go_sem]) rfl ?_
  exact hR
def anyR (nm:ByteArray) (k:Nat) (l:List Rel):Bool := l.any (fun x=>decide (x.nm=nm) && decide (x.ar=k))
theorem anyR_take (nm:ByteArray) (k:Nat) (l:List Rel) (j:Nat) (h:j<l.length):anyR nm k (l.take (j+1))=(anyR nm k (l.take j) || (decide (l[j].nm=nm) && decide (l[j].ar=k))) := by
  unfold anyR
  rw [List.take_succ_eq_append_getElem h,List.any_append]; simp
theorem anyR_eq (m:Md) (nm:ByteArray) (k:Nat):anyR nm k m.rs=(relV m nm k).isSome := by
  unfold anyR relV
  rw [Bool.eq_iff_iff,List.find?_isSome]
  simp [cmpR_eq]
theorem lacksR_any (m:Md) (hg:m.good) {Am Bm:Option Addr} {cm dm:Nat}:∀(N:Nat) (t:Fm) (cs:List Value) (w:World) (S:Nat→Prop),t.nodes≤N→fmRep.R w S t cs→(∀b,S b→b<w.heap.size)→m.In w S [.int .i64 m.sz,.slice Am m.cs.length cm,.slice Bm m.rs.length dm]→Calls Tryd.prog 47 #[.agg #[.int .i64 m.sz,.slice Am m.cs.length cm,.slice Bm m.rs.length dm],.agg cs.toArray] w fun e w'=>e=.returned (.bool (!hasT m t))∧Below w.heap.size w w' := by
  intro N
  induction N with
  | zero=>intro t; have := t.nodes_pos; intros; omega
  | succ N ih =>
  intro t cs w S hN ht hS hm
  have hnr := hg.nr
  obtain ⟨⟨kd,nm,us⟩,ks⟩ := t
  obtain ⟨u,v9,rfl,hnm,hw,hl⟩ := Fm.open_ ht
  simp only at hw hnm
  obtain ⟨A,n1,c1,rfl,e1,hm1,_⟩ := id hw
  obtain ⟨B,n2,c2,rfl,e2,hm2,_⟩ := id hl
  obtain ⟨Aq,cq,Bq,dq,eq,_,_,_,hrel⟩ := Md.shape hm
  simp only [List.cons.injEq,Value.slice.injEq,true_and,and_true] at eq
  obtain ⟨⟨rfl,rfl⟩,rfl,rfl⟩ := eq
  clear ht
  simp only [Tree.nodes] at hN
  have hnl:n1=us.length := by omega
  go_enter Tryd.func47,Tryd.ntmps47
  refine wp_seq ?_
  refine lr_r0_wp (fun a0 h0=>?_) _ (id ⟨rfl,rfl,rfl,rfl,trivial⟩)
  refine gen_last (fun wx=>wx.heap[w.heap.size]?=some (.cells #[.int .i64 m.sz,.slice Am m.cs.length cm,.slice Bm m.rs.length dm] 25 (0,0))∧wx.heap[w.heap.size+1]?=some (.cells #[.int .i64 kd,.string nm,.slice A n1 c1,.slice B n2 c2] 29 (0,0))∧Below w.heap.size w wx) ⟨heap_old (by simp) (heap_alloc_new _ _),by simpa using heap_alloc_new (w.alloc (.cells #[.int .i64 m.sz,.slice Am m.cs.length cm,.slice Bm m.rs.length dm] 25)) _,((Below.refl _ _).alloc (Nat.le_refl _) _).alloc (by simp) _⟩ ?_
  rintro wy ⟨hmy,hay,hby⟩
  have hbys := hby.size
  have hayl := lt_heap hay
  refine wp_seq ?_
  refine wp_via (fun ax wx=>(if kd=2 then (relV m nm us.length).isSome else true)=true∧wx.heap[w.heap.size]?=some (.cells #[.int .i64 m.sz,.slice Am m.cs.length cm,.slice Bm m.rs.length dm] 25 (0,0))∧wx.heap[w.heap.size+1]?=some (.cells #[.int .i64 kd,.string nm,.slice A n1 c1,.slice B n2 c2] 29 (0,0))∧Below w.heap.size w wx∧Frm 52 [(2,.pointer (some ⟨w.heap.size,0,none⟩)),(3,.pointer (some ⟨(w.heap.size+1),0,none⟩))] ax) ?_ (fun hK=>?_)
  · rintro ax wx ⟨hkq,hma,ha,hb,hx⟩
    have hbs := hb.size
    have hold := fun k hk=>hb.block k (hS k hk)
    have hal := lt_heap ha
    have hhas:hasT m (.mk ⟨kd,nm,us⟩ ks)=hasTs m ks := by
      show ((if kd=2 then (relV m nm us.length).isSome else true) && hasTs m ks)=_
      rw [hkq,Bool.true_and]
    rw [hhas]
    show Code.wp _ _ _ ax wx
    refine wp_seq ?_
    refine wp_seq ?_
    refine lr_r10_wp ha (fun a2 h2=>?_) ax hx
    refine wp_block ?_
    refine wp_loopR (fun g a' w'=>∃j:Nat,j+g=ks.length∧hasTs m (ks.take j)=true∧Below wx.heap.size wx w'∧Frm 52 [(2,.pointer (some ⟨w.heap.size,0,none⟩)),(3,.pointer (some ⟨(w.heap.size+1),0,none⟩)),(39,.slice B n2 c2),(40,.int .i64 (n2:Nat)),(41,.int .i64 (j:Nat))] a') ks.length ⟨0,by omega,by simp [hasTs],Below.refl _ _,h2⟩ ?_
    rintro g a3 w3 ⟨j,hjg,hno,hb3,h3⟩
    have hb3s := hb3.size
    refine wp_seq ?_
    refine lr_r11_wp (fun a4 h4=>?_) a3 h3
    refine wp_seq ?_
    by_cases hj:j<n2
    case neg =>
      refine wp_cond_false ((h4.eval (k := 42) (v := .bool (decide (j<n2))) (by simp)).trans (by rw [decide_eq_false hj])) ?_
      refine wp_exit ?_
      repeat refine then_exit ?_
      refine inBlock_exit ?_
      show Code.wp _ _ _ a4 w3
      refine wp_seq ?_
      refine lr_r16_wp (fun a5 h5=>?_) a4 (h4.pick [0,1])
      refine wp_ret ?_
      refine lr_ret_wp (bb := false) ⟨?_,hb.trans (hb3.mono hbs)⟩ a5 h5
      rw [List.take_of_length_le (by omega)] at hno
      rw [hno]; rfl
    refine wp_cond_true ((h4.eval (k := 42) (v := .bool (decide (j<n2))) (by simp)).trans (by rw [decide_eq_true hj])) ?_
    refine wp_skip ?_
    show Code.wp _ _ _ a4 w3
    have hjl:j<ks.length := by omega
    obtain ⟨b,o,cs,rfl,hSb,hr,hc⟩ := Rep.Sl.at_ hl (List.getElem?_eq_getElem hjl)
    obtain ⟨Ae,n3,c3,Be,n4,c4,rfl,_,_,_,_⟩ := Fm.shape hr
    have hold3:∀k,S k→w3.heap[k]?=w.heap[k]? := fun k hk=>(hb3.block k (by have := hS k hk; omega)).trans (hold k hk)
    have hkb := hold3 b hSb
    have e0:w3.cell? ⟨b,o+j * 4,none⟩=_ := (cell_keep hkb _).trans (hc 0 _ rfl)
    have e1:w3.cell? ⟨b,o+j * 4+1,none⟩=_ := (cell_keep hkb _).trans (hc 1 _ rfl)
    have e2:w3.cell? ⟨b,o+j * 4+2,none⟩=_ := (cell_keep hkb _).trans (hc 2 _ rfl)
    have e3:w3.cell? ⟨b,o+j * 4+3,none⟩=_ := (cell_keep hkb _).trans (hc 3 _ rfl)
    have hnj := Tree.nodes_at ks j hjl
    have htk := hasTs_take m ks j hjl
    rw [hno,Bool.true_and] at htk
    have hih := fun (W:World) (hW:Below w3.heap.size w3 W)=>(ih ks[j] _ W S (by omega) (fmRep.keep hr (fun k hk=>(hW.block k (by have := hS k hk; omega)).trans (hold3 k hk)) (fun _ h=>h)) (fun b hb=>by have := hS b hb; have := hW.size; omega) (hm.keep (fun k hk=>(hW.block k (by have := hS k hk; omega)).trans (hold3 k hk)) (fun _ h=>h))).mono (R' := fun e w'=>e=.returned (.bool (!hasT m ks[j]))∧Below w3.heap.size w3 w') (fun e w' h=>⟨h.1,hW.trans (h.2.mono hW.size)⟩)
    refine wp_seq ?_
    refine wp_block ?_
    refine wp_seq ?_
    refine lr_r12_wp (fun a5 h5=>?_) a4 (h4.pick [0,1,2,3,4])
    refine wp_seq ?_
    refine wp_thenQ (lr_r13_wp hj ((hb3.block _ (by omega)).trans hma) ((hb3.block _ hal).trans ha) e0 e1 e2 e3 (by have := hS b hSb; omega) hih (fun a6 w6 h6 hb6=>?_) a5 h5)
    have hb36 := hb3.trans (hb6.mono hb3s)
    cases hx2:hasT m ks[j]
    · rw [hx2] at h6 htk
      refine wp_cond_true ((h6.eval (k := 50) (v := .bool (!false)) (by simp)).trans (by rw [show (!false)=true from rfl])) ?_
      refine wp_seq ?_
      refine lr_r14_wp (fun a7 h7=>?_) a6 (h6.pick [0,1])
      refine wp_ret ?_
      repeat (first | refine thenR ?_ | refine inBlockR ?_)
      refine lr_ret_wp (bb := true) ⟨?_,hb.trans (hb36.mono hbs)⟩ a7 h7
      rw [hasTs_false m ks _ htk]; rfl
    · rw [hx2] at h6 htk
      refine wp_cond_false ((h6.eval (k := 50) (v := .bool (!true)) (by simp)).trans (by rw [show (!true)=false from rfl])) ?_
      refine wp_skip ?_
      show Code.wp _ _ _ a6 w6
      refine lr_r15_wp hj (by omega) (fun a7 h7=>?_) a6 (h6.pick [0,1,2,3,4])
      exact ⟨g - 1,by omega,j+1,by omega,htk,hb36,h7⟩
  · refine wp_seq ?_
    refine lr_r1_wp hay (fun a1 h1=>?_) a0 h0
    by_cases hk2:kd=2
    · refine wp_cond_true ((h1.eval (k := 11) (v := .bool (decide (kd=2))) (by simp)).trans (by rw [decide_eq_true hk2])) ?_
      refine wp_seq ?_
      refine lr_r2_wp (fun a2 h2=>?_) a1 (h1.pick [0,1])
      refine wp_seq ?_
      refine wp_seq ?_
      refine lr_r3_wp hmy (fun a3 h3=>?_) a2 h2
      refine wp_block ?_
      refine wp_loopR (fun g a' w'=>∃j:Nat,j+g=m.rs.length∧Below wy.heap.size wy w'∧Frm 52 [(2,.pointer (some ⟨w.heap.size,0,none⟩)),(3,.pointer (some ⟨(w.heap.size+1),0,none⟩)),(5,.bool (anyR nm us.length (m.rs.take j))),(13,.slice Bm m.rs.length dm),(14,.int .i64 (m.rs.length:Nat)),(15,.int .i64 (j:Nat))] a') m.rs.length ⟨0,by omega,Below.refl _ _,h3⟩ ?_
      rintro g a4 w4 ⟨j,hjg,hb4,h4⟩
      have hb4s := hb4.size
      refine wp_seq ?_
      refine lr_r4_wp (fun a5 h5=>?_) a4 h4
      refine wp_seq ?_
      by_cases hj:j<m.rs.length
      case neg =>
        refine wp_cond_false ((h5.eval (k := 16) (v := .bool (decide (j<m.rs.length))) (by simp)).trans (by rw [decide_eq_false hj])) ?_
        refine wp_exit ?_
        repeat refine then_exit ?_
        refine inBlock_exit ?_
        show Code.wp _ _ _ a5 w4
        rw [List.take_of_length_le (by omega),anyR_eq] at h5
        refine wp_seq ?_
        refine lr_r8_wp (fun a6 h6=>?_) a5 (h5.pick [0,1,2])
        cases hf:(relV m nm us.length).isSome
        · rw [hf] at h6
          refine wp_cond_true ((h6.eval (k := 37) (v := .bool (!false)) (by simp)).trans (by rw [show (!false)=true from rfl])) ?_
          refine wp_seq ?_
          refine lr_r9_wp (fun a7 h7=>?_) a6 (h6.pick [0,1])
          refine wp_ret ?_
          repeat (first | refine thenR ?_ | refine inBlockR ?_)
          refine lr_ret_wp (bb := true) ⟨?_,hby.trans (hb4.mono hbys)⟩ a7 h7
          simp [hasT,hk2,hf]
        · rw [hf] at h6
          refine wp_cond_false ((h6.eval (k := 37) (v := .bool (!true)) (by simp)).trans (by rw [show (!true)=false from rfl])) ?_
          refine wp_skip ?_
          exact hK _ _ ⟨by rw [if_pos hk2,hf],(hb4.block _ (by omega)).trans hmy,(hb4.block _ hayl).trans hay,hby.trans (hb4.mono hbys),(h6.pick [0,1])⟩
      refine wp_cond_true ((h5.eval (k := 16) (v := .bool (decide (j<m.rs.length))) (by simp)).trans (by rw [decide_eq_true hj])) ?_
      refine wp_skip ?_
      show Code.wp _ _ _ a5 w4
      obtain ⟨b,o,T9,t9,rfl,hSb,x0,x1,x2,_,_,_⟩ := rel_at hrel hj
      have hkb:w4.heap[b]?=w.heap[b]? := (hb4.block b (by have := hS b hSb; omega)).trans (hby.block b (hS b hSb))
      refine wp_seq ?_
      refine wp_block ?_
      refine wp_seq ?_
      refine lr_r5_wp hj ((cell_keep hkb _).trans x0) ((cell_keep hkb _).trans x1) ((cell_keep hkb _).trans x2) (by have := hS b hSb; omega) (fun a6 w6 h6 he6 hb6=>?_) a5 (h5.pick [0,1,2,3,4,5])
      have hb46 := hb4.trans (hb6.mono hb4s)
      refine lr_r6_wp ((hb46.block _ hayl).trans hay) he6 (fun a7 h7=>?_) a6 h6
      show Code.wp _ _ _ a7 w6
      refine lr_r7_wp hj (by unfold maxLen; omega) (fun a8 h8=>?_) a7 h7
      refine ⟨g - 1,by omega,j+1,by omega,hb46,?_⟩
      rw [anyR_take nm us.length m.rs j hj,← hnl]
      rw [← hnl] at h8
      exact h8
    · refine wp_cond_false ((h1.eval (k := 11) (v := .bool (decide (kd=2))) (by simp)).trans (by rw [decide_eq_false hk2])) ?_
      refine wp_skip ?_
      exact hK _ _ ⟨by rw [if_neg hk2],hmy,hay,hby,(h1.pick [0,1])⟩
end
noncomputable section
set_option maxRecDepth 1000000
set_option maxHeartbeats 16000000
variable {w w' wo:World} {bl n1 c1 n2 c2 m e i n3 c3 n4 c4:Nat} {l bd:List ByteArray} {v0 s_2 s_3 s_4 s_11 s_12 s_13 s_39 s_40:Value} {kd ke:Int} {nm s ne:ByteArray} {A B D Ae Be:Option Addr} {Q:Exit→Act→World→Prop} {K:Act→World→Prop}

theorem frame_cn {P:Act→Prop} (h:∀x0 x1 x2 x3 x4 x5 x6 x7 x8 x9 x10 x11 x12 x13 x14 x15 x16 x17 x18 x19 x20 x21 x22 x23 x24 x25 x26 x27 x28 x29 x30 x31 x32 x33 x34 x35 x36 x37 x38 x39 x40 x41 x42 x43 x44 x45 x46 x47 x48 x49:Value,P ⟨(x0 :: x1 :: x2 :: x3 :: x4 :: x5 :: x6 :: x7 :: x8 :: x9 :: x10 :: x11 :: x12 :: x13 :: x14 :: x15 :: x16 :: x17 :: x18 :: x19 :: x20 :: x21 :: x22 :: x23 :: x24 :: x25 :: x26 :: x27 :: x28 :: x29 :: x30 :: x31 :: x32 :: x33 :: x34 :: x35 :: x36 :: x37 :: x38 :: x39 :: x40 :: x41 :: x42 :: x43 :: x44 :: x45 :: x46 :: x47 :: x48 :: x49 :: []).toArray,[]⟩):∀a:Act,a.tmps.toList.length=50→a.defers=[]→P a := by
  rintro ⟨⟨l⟩,d⟩ hs hd
  simp only at hd
  subst hd
  revert l
  show ∀l:List Value,l.length=50→P ⟨⟨l⟩,[]⟩
  iterate 50 refine openS (fun _=>?_)
  refine open0 ?_
  exact h ..
theorem rowGrownF {base:Nat} {E:TypeId} {size n:Nat} {v:Value} {xs:List Value} (h:w.ownsRow base E size v n xs) (hk:∀b,b<w.heap.size→v.ownBlock=some b→w'.heap[b]?=w.heap[b]?):w'.ownsRow base E size v n xs := by
  obtain ⟨h1,h2⟩ := h
  refine ⟨h1,?_⟩
  rcases h2 with h2 | ⟨g,cap,cur,e,hg,hh,r⟩
  · exact Or.inl h2
  · exact Or.inr ⟨g,cap,cur,e,hg,(hk g (lt_heap hh) (by rw [e]; rfl)).trans hh,r⟩
structure LB (w:World) (bl:Nat) (v:Value) (l:List ByteArray):Prop where
  box:w.heap[bl]?=some (.cells #[v] 26 (0,0))
  row:w.ownsRow 0 9 1 v l.length (l.map .string)
  ne:v.ownBlock≠some bl
theorem LB.lt {v:Value} (h:LB w bl v l):∀b,v.ownBlock=some b→b<w.heap.size := fun b e=>(h.row.lt b e).2
theorem LB.keep {v:Value} (h:LB w bl v l) (h1:w'.heap[bl]?=w.heap[bl]?) (h2:∀b,b<w.heap.size→v.ownBlock=some b→w'.heap[b]?=w.heap[b]?):LB w' bl v l := ⟨h1.trans h.box,rowGrownF h.row h2,h.ne⟩
theorem LB.below {v:Value} (h:LB w bl v l) (hb:Below w.heap.size w w'):LB w' bl v l := h.keep (hb.block _ (lt_heap h.box)) (fun b hb' _=>hb.block b hb')
structure LK (w w':World) (bl:Nat) (v v':Value):Prop where
  os:w'.os=w.os
  tape:w'.tape=w.tape
  output:w'.output=w.output
  size:w.heap.size≤w'.heap.size
  block:∀k,k<w.heap.size→k≠bl→v.ownBlock≠some k→w'.heap[k]?=w.heap[k]?
  at_:∀k,v'.ownBlock=some k→v.ownBlock=some k∨w.heap.size≤k
theorem LK.refl (w:World) (bl:Nat) (v:Value):LK w w bl v v := ⟨rfl,rfl,rfl,Nat.le_refl _,fun _ _ _ _=>rfl,fun _ h=>Or.inl h⟩
theorem LK.trans {u v:World} {a b c:Value} (h:LK u v bl a b) (k:LK v w bl b c):LK u w bl a c :=
  ⟨k.os.trans h.os,k.tape.trans h.tape,k.output.trans h.output,Nat.le_trans h.size k.size,fun i h1 h2 h3=>(k.block i (Nat.lt_of_lt_of_le h1 h.size) h2 (fun e=>by rcases h.at_ i e with e | e; exact h3 e; omega)).trans (h.block i h1 h2 h3),
    fun i e=>by
      rcases k.at_ i e with e | e
      · exact h.at_ i e
      · exact Or.inr (Nat.le_trans h.size e)⟩
theorem LK.below (bl:Nat) (v:Value) (h:Below w.heap.size w w'):LK w w' bl v v := ⟨h.os,h.tape,h.output,h.size,fun k h1 _ _=>h.block k h1,fun _ h=>Or.inl h⟩
structure KS (wo w:World) (bl:Nat) (v0:Value) (kd:Int) (nm:ByteArray) (A:Option Addr) (n1 c1:Nat) (B:Option Addr) (n2 c2:Nat) (v:Value) (l:List ByteArray):Prop where
  a:w.heap[wo.heap.size]?=some (.cells #[.int .i64 kd,.string nm,.slice A n1 c1,.slice B n2 c2] 29 (0,0))
  b:LB w bl v l
  k:LK wo w bl v0 v
  l0:bl<wo.heap.size
  lv:∀k,v0.ownBlock=some k→k<wo.heap.size
theorem KS.av {v:Value} (h:KS wo w bl v0 kd nm A n1 c1 B n2 c2 v l):v.ownBlock≠some wo.heap.size := fun e=>by
  rcases h.k.at_ _ e with e1 | _
  · have := h.lv _ e1; omega
  · have hh := h.a
    rcases h.b.row.2 with ⟨e',_⟩ | ⟨g,cap,cur,e',_,hc,_⟩
    · rw [e'] at e; cases e
    · rw [e'] at e; injection e with e; subst e; rw [hc] at hh; injection hh with hh; injection hh with _ hh _; revert hh; decide
theorem KS.step {l':List ByteArray} {v v':Value} (h:KS wo w bl v0 kd nm A n1 c1 B n2 c2 v l) (hb:LB w' bl v' l') (hk:LK w w' bl v v'):KS wo w' bl v0 kd nm A n1 c1 B n2 c2 v' l' :=
  ⟨(hk.block _ (lt_heap h.a) (by have := h.l0; omega) h.av).trans h.a,hb,h.k.trans hk,h.l0,h.lv⟩
theorem KS.below {v:Value} (h:KS wo w bl v0 kd nm A n1 c1 B n2 c2 v l) (hb:Below w.heap.size w w'):KS wo w' bl v0 kd nm A n1 c1 B n2 c2 v l := h.step (h.b.below hb) (LK.below _ _ hb)
theorem KS.old {v:Value} (h:KS wo w bl v0 kd nm A n1 c1 B n2 c2 v l) {S:Nat→Prop} (hS:∀k,S k→k<wo.heap.size∧k≠bl∧v0.ownBlock≠some k):∀k,S k→w.heap[k]?=wo.heap[k]? := fun k hk=>h.k.block k (hS k hk).1 (hS k hk).2.1 (hS k hk).2.2
theorem infoStr:(Tryd.prog.info? 9).map (fun i=>(i.zero,i.size,i.bytes))=some (some (.string ⟨#[]⟩),1,16) := by kernel_rfl
noncomputable def cF66:Code := Tryd.f66.body.getD .skip
def c_cn_r0 := sp 99 2 cF66
theorem cn_r0_wp {v:Value} (hb:LB wo bl v l) (hN:∀a' w',Frm 50 [(1,(.slice D m e)),(2,s_2),(3,s_3),(4,.pointer (some ⟨wo.heap.size,0,none⟩))] a'→KS wo w' bl v kd nm A n1 c1 B n2 c2 v l→Q .normal a' w'):∀ac,Frm 50 [(0,.agg #[.int .i64 kd,.string nm,.slice A n1 c1,.slice B n2 c2]),(1,(.slice D m e)),(2,s_2),(3,s_3)] ac→Code.wp Tryd.prog c_cn_r0 Q ac wo := by
  refine fO (frame_cn ?_)
  intros
  rename_i hq
  iterate 4 (obtain ⟨e,hq⟩ := hq; obtain rfl := sI e; clear e)
  clear hq
  conv=>arg 2; whnf
  have hlb := lt_heap hb.box
  have hlv := hb.lt
  replace hb := Lib.hid hb
  have HN := Lib.hid hN
  have HLV := Lib.hid hlv
  clear hN hlv
  go_wp2_with fail
  exact HN.out _ _ (by exact fR rfl rfl rfl) ⟨heap_at rfl,hb.out.below ((Below.refl _ _).alloc (Nat.le_refl _) _),LK.below _ _ ((Below.refl _ _).alloc (Nat.le_refl _) _),hlb,HLV.out⟩
def c_cn_r1 := sp 99 9 cF66
theorem cn_r1_wp {v:Value} (hs:KS wo w bl v0 kd nm A n1 c1 B n2 c2 v l) (hN:∀a',Frm 50 [(1,(.slice D m e)),(2,s_2),(3,s_3),(4,.pointer (some ⟨wo.heap.size,0,none⟩)),(11,.slice A n1 c1),(12,.int .i64 (n1:Nat)),(13,.int .i64 (0:Nat))] a'→Q .normal a' w):∀ac,Frm 50 [(1,(.slice D m e)),(2,s_2),(3,s_3),(4,.pointer (some ⟨wo.heap.size,0,none⟩))] ac→Code.wp Tryd.prog c_cn_r1 Q ac w := by
  refine fO (frame_cn ?_)
  intros
  rename_i hq
  iterate 4 (obtain ⟨e,hq⟩ := hq; obtain rfl := sI e; clear e)
  clear hq
  conv=>arg 2; whnf
  have a0 := cellv hs.a 0 rfl
  have a1 := cellv hs.a 1 rfl
  have a2 := cellv hs.a 2 rfl
  have a3 := cellv hs.a 3 rfl
  have al := lt_heap hs.a
  replace hs := Lib.hid hs
  replace hN := Lib.hid hN
  go_wp2_with fail
  exact hN.out _ (by exact fR rfl rfl rfl)
def c_cn_r2 := sp 99 69 cF66
theorem cn_r2_wp (hN:∀a',Frm 50 [(1,(.slice D m e)),(2,s_2),(3,s_3),(4,s_4),(11,s_11),(12,.int .i64 (n1:Nat)),(13,.int .i64 (i:Nat)),(14,.bool (decide (i<n1)))] a'→Q .normal a' w):∀ac,Frm 50 [(1,(.slice D m e)),(2,s_2),(3,s_3),(4,s_4),(11,s_11),(12,.int .i64 (n1:Nat)),(13,.int .i64 (i:Nat))] ac→Code.wp Tryd.prog c_cn_r2 Q ac w := by
  refine fO (frame_cn ?_)
  intros
  rename_i hq
  iterate 7 (obtain ⟨e,hq⟩ := hq; obtain rfl := sI e; clear e)
  clear hq
  conv=>arg 2; whnf
  by_cases h:i<n1
  · have t1:decide ((i:Int)<(n1:Int))=true := decide_eq_true (by omega)
    have t2:decide (i<n1)=true := decide_eq_true h
    rw [t2] at hN
    clear h
    replace hN := Lib.hid hN
    go_wp2_with fail
    exact hN.out _ (by exact fR rfl rfl rfl)
  · have t1:decide ((i:Int)<(n1:Int))=false := decide_eq_false (by omega)
    have t2:decide (i<n1)=false := decide_eq_false h
    rw [t2] at hN
    clear h
    replace hN := Lib.hid hN
    go_wp2_with fail
    exact hN.out _ (by exact fR rfl rfl rfl)
def c_cn_r3 := sp 99 1125 cF66
theorem cn_r3_wp {b o:Nat} (hi:i<n1) (hc:w.cell? ⟨b,o+i,none⟩=some (.string s)) (hbl:b<w.heap.size) (hN:∀a',Frm 50 [(1,(.slice D m e)),(2,s_2),(3,s_3),(4,s_4),(11,.slice (some ⟨b,o,none⟩) n1 c1),(12,s_12),(13,.int .i64 (i:Nat)),(7,.string s)] a'→Q .normal a' w):∀ac,Frm 50 [(1,(.slice D m e)),(2,s_2),(3,s_3),(4,s_4),(11,.slice (some ⟨b,o,none⟩) n1 c1),(12,s_12),(13,.int .i64 (i:Nat))] ac→Code.wp Tryd.prog c_cn_r3 Q ac w := by
  refine fO (frame_cn ?_)
  intros
  rename_i hq
  iterate 7 (obtain ⟨e,hq⟩ := hq; obtain rfl := sI e; clear e)
  clear hq
  conv=>arg 2; whnf
  have q0:(0:Int)≤(i:Int) := by omega
  have q1:(i:Int)<(n1:Int) := by omega
  replace hN := Lib.hid hN
  go_wp2_with fail
  exact hN.out _ (by exact fR rfl rfl rfl)
def c_cn_r4 := sp 99 2661 cF66
theorem cn_r4_wp {bb:Bool} (hc:Calls Tryd.prog 67 #[(.slice D m e),.string s] w fun e w'=>e=.returned (.bool bb)∧w'=w) (hN:∀a',Frm 50 [(1,(.slice D m e)),(2,s_2),(3,s_3),(4,s_4),(11,s_11),(12,s_12),(13,s_13),(7,.string s),(20,.bool (!bb))] a'→Q .normal a' w):∀ac,Frm 50 [(1,(.slice D m e)),(2,s_2),(3,s_3),(4,s_4),(11,s_11),(12,s_12),(13,s_13),(7,.string s)] ac→Code.wp Tryd.prog c_cn_r4 Q ac w := by
  refine fO (frame_cn ?_)
  intros
  rename_i hq
  iterate 8 (obtain ⟨e,hq⟩ := hq; obtain rfl := sI e; clear e)
  clear hq
  conv=>arg 2; whnf
  have HN := Lib.hid hN
  have HC := Lib.hid hc
  clear hN hc
  go_wp2_with fail
  (with_reducible refine HC.out.mono ?_)
  rintro e w1 ⟨rfl,rfl⟩
  go_wp2_with fail
  exact HN.out _ (by exact fR rfl rfl rfl)
theorem KS.appended {w2:World} {gg cap:Nat} {v:Value} {o:Obj} (h:KS wo w bl v0 kd nm A n1 c1 B n2 c2 v l) (hown:w2.ownsRow 0 9 1 (.slice (some ⟨gg,0,none⟩) (l.length+1) cap) (l.length+1) (l.map .string++[.string s])) (hg:(w.alloc o).grownBy w2 v.ownBlock) (hat:v.ownBlock=some gg∨gg=w.heap.size+1) :
    w2.heap[bl]?=some (.cells #[v] 26 (0,0))∧KS wo (w2.setCell ⟨bl,0,none⟩ (.slice (some ⟨gg,0,none⟩) (l.length+1) cap)) bl v0 kd nm A n1 c1 B n2 c2 (.slice (some ⟨gg,0,none⟩) (l.length+1) cap) (l++[s]) := by
  have hbl := lt_heap h.b.box
  have hk:∀k,k<w.heap.size→v.ownBlock≠some k→w2.heap[k]?=w.heap[k]? := fun k h1 h2=>(hg.block k (by simp; omega) (fun e=>h2 e.symm)).trans (heap_old h1 rfl)
  have hb2 := (hk bl hbl h.b.ne).trans h.b.box
  have hgb:gg≠bl := by
    rintro rfl
    rcases hat with e | e
    · exact h.b.ne e
    · omega
  have hsz:w.heap.size+1≤w2.heap.size := by have := hg.size; simpa using this
  refine ⟨hb2,h.step ⟨by simpa using heap_set hb2 0 (.slice (some ⟨gg,0,none⟩) (l.length+1) cap),?_,fun e=>hgb (by injection e with e)⟩ ⟨hg.os,hg.tape,hg.output,by rw [size_set]; omega,fun k h1 h2 h3=>heap_far _ h2 (hk k h1 h3),fun k e=>?_⟩⟩
  · have h1:(w2.setCell ⟨bl,0,none⟩ (.slice (some ⟨gg,0,none⟩) (l.length+1) cap)).ownsRow 0 9 1 (.slice (some ⟨gg,0,none⟩) (l.length+1) cap) (l.length+1) (l.map .string++[.string s]) := rowGrownF hown (fun b _ e=>heap_far _ (by rintro rfl; injection e with e; exact hgb e) rfl)
    simpa using h1
  · have e2:gg=k := Option.some.inj e
    subst e2
    rcases hat with e | e
    · exact Or.inl e
    · exact Or.inr (by omega)
def c_cn_r5 := sp 99 5733 cF66
theorem cn_r5_wp {v:Value} (hl:l.length≤1000000) (hs:KS wo w bl v0 kd nm A n1 c1 B n2 c2 v l) (hN:∀v' a' w',Frm 50 [(1,(.slice D m e)),(2,.pointer (some ⟨bl,0,none⟩)),(3,s_3),(4,s_4),(11,s_11),(12,s_12),(13,s_13)] a'→KS wo w' bl v0 kd nm A n1 c1 B n2 c2 v' (l++[s])→Q .normal a' w'):∀ac,Frm 50 [(1,(.slice D m e)),(2,.pointer (some ⟨bl,0,none⟩)),(3,s_3),(4,s_4),(11,s_11),(12,s_12),(13,s_13),(7,.string s)] ac→Code.wp Tryd.prog c_cn_r5 Q ac w := by
  refine fO (frame_cn ?_)
  intros
  rename_i hq
  iterate 8 (obtain ⟨e,hq⟩ := hq; obtain rfl := sI e; clear e)
  clear hq
  conv=>arg 2; whnf
  obtain ⟨ts,hts,ht0,ht1,ht2⟩ := info_parts infoStr
  have b0 := cellv hs.b.box 0 rfl
  have bf := free_heap hs.b.box 0
  have blt := lt_heap hs.b.box
  obtain ⟨A9,c9,rfl⟩:∃A c,v=.slice A l.length c := by
    rcases hs.b.row.2 with ⟨e,e0⟩ | ⟨g,cap,cur,e,_⟩
    · exact ⟨none,0,by rw [e,e0]⟩
    · exact ⟨_,_,e⟩
  have hrow := hs.b.row
  replace hs := Lib.hid hs
  have HN := Lib.hid hN
  have HROW := Lib.hid hrow
  clear hN hrow
  go_wp2_with (at_builtin; refine wpList_append_lies (w.alloc (.cells #[.string s] 9)) ?h1 (.tmp 21) (.tmp 23) 26 ?h2 0 9 ts (.string ⟨#[]⟩) 1 16 ?h3 hts ht0 ht1 ht2 ?h4 ?h5 (.slice A9 l.length c9) l.length (l.map .string) ?h6 ?h7 ⟨w.heap.size,0,none⟩ 1 1 [.string s] ?h8 ?h9 ?h10 ?h11 ?h12 ?h13 ?h14 ?h15 (w.heap.size+1) ?h16 ?_)
  try (case h1=>rfl)
  try (case h2=>rfl)
  try (case h3=>exact Tryd.underlying26)
  try (case h4=>rfl)
  try (case h5=>omega)
  try (case h6=>rfl)
  try (case h7=>exact HROW.out.alloc _)
  try (case h8=>rfl)
  try (case h9=>rfl)
  try (case h10=>exact World.news_of_block (cs := #[.string s]) (t := 9) (fr := (0,0)) (heap_alloc_new w _))
  try (case h11=>simp [Value.oneCell'])
  try (case h12=>omega)
  try (case h13=>first | (simp [maxLen]; omega) | (unfold maxLen; omega))
  try (case h14=>omega)
  try (case h15=>first | omega | (simp; omega))
  try (case h16=>first | rfl | simp)
  intro gg cap w6 hown3 hgrow hat hlt
  have hap := hs.out.appended hown3 hgrow hat
  have HAP := Lib.hid hap
  have d0 := cellv hap.1 0 rfl
  have df := free_heap hap.1 0
  have dl := lt_heap hap.1
  clear hown3 hgrow hat hap b0 bf blt hlt
  go_wp2_with fail
  exact HN.out _ _ _ (by exact fR rfl rfl rfl) HAP.out.2
def c_cn_r6 := sp 99 485 cF66
theorem cn_r6_wp (hi:i<n1) (hlim:n1≤maxLen) (hN:∀a',Frm 50 [(1,(.slice D m e)),(2,s_2),(3,s_3),(4,s_4),(11,s_11),(12,s_12),(13,.int .i64 (i+1:Nat))] a'→Q .normal a' w):∀ac,Frm 50 [(1,(.slice D m e)),(2,s_2),(3,s_3),(4,s_4),(11,s_11),(12,s_12),(13,.int .i64 (i:Nat))] ac→Code.wp Tryd.prog c_cn_r6 Q ac w := by
  refine fO (frame_cn ?_)
  intros
  rename_i hq
  iterate 7 (obtain ⟨e,hq⟩ := hq; obtain rfl := sI e; clear e)
  clear hq
  conv=>arg 2; whnf
  have hi4:(i:Int)≤9223372036854775806 := by unfold maxLen at hlim; omega
  replace hN := Lib.hid hN
  go_wp2_with fail
  exact hN.out _ (by exact fR rfl rfl rfl)
def c_cn_r7 := sp 99 19 cF66
theorem cn_r7_wp {v:Value} (hs:KS wo w bl v0 kd nm A n1 c1 B n2 c2 v l) (hN:∀a' w',Frm 50 [(1,(.slice D m e)),(2,s_2),(3,s_3),(4,.pointer (some ⟨wo.heap.size,0,none⟩)),(27,.bool (isQu kd))] a'→KS wo w' bl v0 kd nm A n1 c1 B n2 c2 v l→Below w.heap.size w w'→Q .normal a' w'):∀ac,Frm 50 [(1,(.slice D m e)),(2,s_2),(3,s_3),(4,.pointer (some ⟨wo.heap.size,0,none⟩))] ac→Code.wp Tryd.prog c_cn_r7 Q ac w := by
  refine fO (frame_cn ?_)
  intros
  rename_i hq
  iterate 4 (obtain ⟨e,hq⟩ := hq; obtain rfl := sI e; clear e)
  clear hq
  conv=>arg 2; whnf
  have hq := quant_any kd nm A B n1 c1 n2 c2 w
  have a0 := cellv hs.a 0 rfl
  have a1 := cellv hs.a 1 rfl
  have a2 := cellv hs.a 2 rfl
  have a3 := cellv hs.a 3 rfl
  have al := lt_heap hs.a
  replace hs := Lib.hid hs
  have HN := Lib.hid hN
  have HQ := Lib.hid hq
  clear hN hq
  go_wp2_with fail
  (with_reducible refine HQ.out.mono ?_)
  rintro e w1 ⟨rfl,hb1⟩
  have hs := hs.out.below hb1
  have HS1 := Lib.hid hs
  have HB1 := Lib.hid hb1
  clear hb1 hs
  go_wp2_with fail
  exact HN.out _ _ (by exact fR rfl rfl rfl) HS1.out HB1.out
def c_cn_r8 := sp 99 43 cF66
theorem cn_r8_wp {b o:Nat} {v:Value} (hbl:bd.length=m) (hm:m≤1000000) (hme:m≤e) (hbw:b<w.heap.size) (hcell:∀j u,(bd.map Value.string)[j]?=some u→w.cell? ⟨b,o+j,none⟩=some u) (hs:KS wo w bl v0 kd nm A n1 c1 B n2 c2 v l) (hN:∀v' a' w',Frm 50 [(1,v'),(2,s_2),(3,s_3),(4,.pointer (some ⟨wo.heap.size,0,none⟩))] a'→w'.ownsRow (w.heap.size+1) 9 1 v' (m+1) (bd.map .string++[.string nm])→Below w.heap.size w w'→K a' w'):∀ac,Frm 50 [(1,(.slice (some ⟨b,o,none⟩) m e)),(2,s_2),(3,s_3),(4,.pointer (some ⟨wo.heap.size,0,none⟩))] ac→Code.wp Tryd.prog c_cn_r8 (Exit.then K (fun _ _ _=>False)) ac w := by
  refine fO (frame_cn ?_)
  intros
  rename_i hq
  iterate 4 (obtain ⟨e,hq⟩ := hq; obtain rfl := sI e; clear e)
  clear hq
  conv=>arg 2; whnf
  obtain ⟨ts,hts,ht0,ht1,ht2⟩ := info_parts infoStr
  have q1:(m:Int)≤(e:Int) := by omega
  have hcA:∀j u,(bd.map Value.string)[j]?=some u→(w.alloc (.cells #[.string nm] 9)).cell? ⟨b,o+j,none⟩=some u := fun j u hu=>(cell_keep (heap_old hbw rfl) _).trans (hcell j u hu)
  have HCELLA := Lib.hid hcA
  clear hcA hcell
  have hm4:m≤1000000 := hm
  have a0 := cellv hs.a 0 rfl
  have a1 := cellv hs.a 1 rfl
  have a2 := cellv hs.a 2 rfl
  have a3 := cellv hs.a 3 rfl
  have al := lt_heap hs.a
  replace hs := Lib.hid hs
  go_region_law ((refine step_append_grows (by rfl) (.tmp 33) (.tmp 36) 26 (by rfl) 9 ts (.string ⟨#[]⟩) 1 16 Tryd.underlying26 hts ht0 ht1 ht2 rfl (by decide) (some ⟨b,o,none⟩) m m (bd.map .string) (by rfl) ?c0 ?c1 ?c2 ⟨w.heap.size,0,none⟩ 1 1 [.string nm] (by rfl) rfl ?c3 ?c4 ?c5 ?c6 ?c7 ?_; (case c0=>(first | (intro h; cases h; done) | exact fun _=>⟨rfl,rfl⟩)); (case c1=>(simp [hbl])); (case c2=>(intro b9 hb9 j u hu; cases hb9; rw [Addr.add_lit]; exact HCELLA.out j u hu)); (case c3=>(exact World.news_of_block (cs := #[.string nm]) (t := 9) (fr := (0,0)) (by first | exact heap_drew (heap_alloc_new w _) | exact heap_alloc_new w _ | exact heap_alloc_new w.drew _))); (case c4=>(intro u hu; simp at hu; subst hu; rfl)); (case c5=>omega); (case c6=>(unfold maxLen; omega)); (case c7=>omega); intro v' w2 hown hgrow; have HOWN := Lib.hid hown; have HGROW := Lib.hid hgrow; clear hown hgrow))
  all_goals go_wp2_with fail
  all_goals exact hN _ _ _ (by exact fR rfl rfl rfl) (by simpa using HOWN.out) (by first | exact ⟨HGROW.out.os,HGROW.out.tape,HGROW.out.output,by have := HGROW.out.size; simp at this; omega,fun k hk=>(HGROW.out.block k (by simp; omega) (by simp)).trans (by first | exact heap_drew (heap_old hk rfl) | exact heap_old hk rfl)⟩)
def c_cn_r8n := sp 99 43 cF66
theorem cn_r8n_wp {v:Value} (hbl:bd=[]) (hs:KS wo w bl v0 kd nm A n1 c1 B n2 c2 v l) (hN:∀v' a' w',Frm 50 [(1,v'),(2,s_2),(3,s_3),(4,.pointer (some ⟨wo.heap.size,0,none⟩))] a'→w'.ownsRow (w.heap.size+1) 9 1 v' (0+1) (bd.map .string++[.string nm])→Below w.heap.size w w'→K a' w'):∀ac,Frm 50 [(1,(.slice none 0 e)),(2,s_2),(3,s_3),(4,.pointer (some ⟨wo.heap.size,0,none⟩))] ac→Code.wp Tryd.prog c_cn_r8n (Exit.then K (fun _ _ _=>False)) ac w := by
  refine fO (frame_cn ?_)
  intros
  rename_i hq
  iterate 4 (obtain ⟨e,hq⟩ := hq; obtain rfl := sI e; clear e)
  clear hq
  conv=>arg 2; whnf
  obtain ⟨ts,hts,ht0,ht1,ht2⟩ := info_parts infoStr
  subst hbl
  have a0 := cellv hs.a 0 rfl
  have a1 := cellv hs.a 1 rfl
  have a2 := cellv hs.a 2 rfl
  have a3 := cellv hs.a 3 rfl
  have al := lt_heap hs.a
  replace hs := Lib.hid hs
  go_region_law ((refine step_append_grows (by rfl) (.tmp 33) (.tmp 36) 26 (by rfl) 9 ts (.string ⟨#[]⟩) 1 16 Tryd.underlying26 hts ht0 ht1 ht2 rfl (by decide) none 0 0 [] (by rfl) ?c0 ?c1 ?c2 ⟨w.heap.size,0,none⟩ 1 1 [.string nm] (by rfl) rfl ?c3 ?c4 ?c5 ?c6 ?c7 ?_; (case c0=>(first | (intro h; cases h; done) | exact fun _=>⟨rfl,rfl⟩)); (case c1=>(simp)); (case c2=>(intro b9 hb9; cases hb9)); (case c3=>(exact World.news_of_block (cs := #[.string nm]) (t := 9) (fr := (0,0)) (by first | exact heap_drew (heap_alloc_new w _) | exact heap_alloc_new w _ | exact heap_alloc_new w.drew _))); (case c4=>(intro u hu; simp at hu; subst hu; rfl)); (case c5=>omega); (case c6=>(unfold maxLen; omega)); (case c7=>omega); intro v' w2 hown hgrow; have HOWN := Lib.hid hown; have HGROW := Lib.hid hgrow; clear hown hgrow))
  all_goals go_wp2_with fail
  all_goals exact hN _ _ _ (by exact fR rfl rfl rfl) (by simpa using HOWN.out) (by first | exact ⟨HGROW.out.os,HGROW.out.tape,HGROW.out.output,by have := HGROW.out.size; simp at this; omega,fun k hk=>(HGROW.out.block k (by simp; omega) (by simp)).trans (by first | exact heap_drew (heap_old hk rfl) | exact heap_old hk rfl)⟩)
def c_cn_r9 := sp 99 23 cF66
theorem cn_r9_wp {v:Value} (hs:KS wo w bl v0 kd nm A n1 c1 B n2 c2 v l) (hN:∀a',Frm 50 [(1,(.slice D m e)),(2,s_2),(3,s_3),(4,.pointer (some ⟨wo.heap.size,0,none⟩)),(39,.slice B n2 c2),(40,.int .i64 (n2:Nat)),(41,.int .i64 (0:Nat))] a'→Q .normal a' w):∀ac,Frm 50 [(1,(.slice D m e)),(2,s_2),(3,s_3),(4,.pointer (some ⟨wo.heap.size,0,none⟩))] ac→Code.wp Tryd.prog c_cn_r9 Q ac w := by
  refine fO (frame_cn ?_)
  intros
  rename_i hq
  iterate 4 (obtain ⟨e,hq⟩ := hq; obtain rfl := sI e; clear e)
  clear hq
  conv=>arg 2; whnf
  have a0 := cellv hs.a 0 rfl
  have a1 := cellv hs.a 1 rfl
  have a2 := cellv hs.a 2 rfl
  have a3 := cellv hs.a 3 rfl
  have al := lt_heap hs.a
  replace hs := Lib.hid hs
  replace hN := Lib.hid hN
  go_wp2_with fail
  exact hN.out _ (by exact fR rfl rfl rfl)
def c_cn_r10 := sp 99 143 cF66
theorem cn_r10_wp (hN:∀a',Frm 50 [(1,(.slice D m e)),(2,s_2),(3,s_3),(4,s_4),(39,s_39),(40,.int .i64 (n2:Nat)),(41,.int .i64 (i:Nat)),(42,.bool (decide (i<n2)))] a'→Q .normal a' w):∀ac,Frm 50 [(1,(.slice D m e)),(2,s_2),(3,s_3),(4,s_4),(39,s_39),(40,.int .i64 (n2:Nat)),(41,.int .i64 (i:Nat))] ac→Code.wp Tryd.prog c_cn_r10 Q ac w := by
  refine fO (frame_cn ?_)
  intros
  rename_i hq
  iterate 7 (obtain ⟨e,hq⟩ := hq; obtain rfl := sI e; clear e)
  clear hq
  conv=>arg 2; whnf
  by_cases h:i<n2
  · have t1:decide ((i:Int)<(n2:Int))=true := decide_eq_true (by omega)
    have t2:decide (i<n2)=true := decide_eq_true h
    rw [t2] at hN
    clear h
    replace hN := Lib.hid hN
    go_wp2_with fail
    exact hN.out _ (by exact fR rfl rfl rfl)
  · have t1:decide ((i:Int)<(n2:Int))=false := decide_eq_false (by omega)
    have t2:decide (i<n2)=false := decide_eq_false h
    rw [t2] at hN
    clear h
    replace hN := Lib.hid hN
    go_wp2_with fail
    exact hN.out _ (by exact fR rfl rfl rfl)
def c_cn_r11 := sp 99 2255 cF66
theorem cn_r11_wp {b o:Nat} (hi:i<n2) (h0:w.cell? ⟨b,o+i * 4,none⟩=some (.int .i64 ke)) (h1:w.cell? ⟨b,o+i * 4+1,none⟩=some (.string ne)) (h2:w.cell? ⟨b,o+i * 4+2,none⟩=some (.slice Ae n3 c3)) (h3:w.cell? ⟨b,o+i * 4+3,none⟩=some (.slice Be n4 c4)) (hbl:b<w.heap.size) (hN:∀a',Frm 50 [(1,(.slice D m e)),(2,s_2),(3,s_3),(4,s_4),(39,.slice (some ⟨b,o,none⟩) n2 c2),(40,s_40),(41,.int .i64 (i:Nat)),(9,.pointer (some ⟨w.heap.size,0,none⟩))] a'→Q .normal a' (w.alloc (.cells #[.int .i64 ke,.string ne,.slice Ae n3 c3,.slice Be n4 c4] 29))):∀ac,Frm 50 [(1,(.slice D m e)),(2,s_2),(3,s_3),(4,s_4),(39,.slice (some ⟨b,o,none⟩) n2 c2),(40,s_40),(41,.int .i64 (i:Nat))] ac→Code.wp Tryd.prog c_cn_r11 Q ac w := by
  refine fO (frame_cn ?_)
  intros
  rename_i hq
  iterate 7 (obtain ⟨e,hq⟩ := hq; obtain rfl := sI e; clear e)
  clear hq
  conv=>arg 2; whnf
  have q0:(0:Int)≤(i:Int) := by omega
  have q1:(i:Int)<(n2:Int) := by omega
  replace hN := Lib.hid hN
  go_wp2_with fail
  exact hN.out _ (by exact fR rfl rfl rfl)
def c_cn_r12 := sp 99 3279 cF66
theorem cn_r12_wp {s_41:Value} {ge bw:Nat} {PP:World→Prop} (hf:w.heap[bw]?=some (.cells #[.func (Fn.func 66) #[] #[.pointer (some ⟨bl,0,none⟩),.pointer (some ⟨bw,0,none⟩)]] 105 (0,0))) (hge:w.heap[ge]?=some (.cells #[.int .i64 ke,.string ne,.slice Ae n3 c3,.slice Be n4 c4] 29 (0,0))) (hcall:Calls Tryd.prog 66 #[.agg #[.int .i64 ke,.string ne,.slice Ae n3 c3,.slice Be n4 c4],(.slice D m e),.pointer (some ⟨bl,0,none⟩),.pointer (some ⟨bw,0,none⟩)] w fun e w'=>e=.returned (.tuple #[])∧PP w') (hN:∀a' w',Frm 50 [(1,(.slice D m e)),(2,s_2),(3,.pointer (some ⟨bw,0,none⟩)),(4,s_4),(39,s_39),(40,s_40),(41,s_41)] a'→PP w'→Q .normal a' w'):∀ac,Frm 50 [(1,(.slice D m e)),(2,s_2),(3,.pointer (some ⟨bw,0,none⟩)),(4,s_4),(39,s_39),(40,s_40),(41,s_41),(9,.pointer (some ⟨ge,0,none⟩))] ac→Code.wp Tryd.prog c_cn_r12 Q ac w := by
  refine fO (frame_cn ?_)
  intros
  rename_i hq
  iterate 8 (obtain ⟨e,hq⟩ := hq; obtain rfl := sI e; clear e)
  clear hq
  conv=>arg 2; whnf
  have f0 := cellv hf 0 rfl
  have fl := lt_heap hf
  have e0 := cellv hge 0 rfl
  have e1 := cellv hge 1 rfl
  have e2 := cellv hge 2 rfl
  have e3 := cellv hge 3 rfl
  have el := lt_heap hge
  clear hf hge
  have HN := Lib.hid hN
  have HCALL := Lib.hid hcall
  clear hN hcall
  go_wp2_with fail
  (with_reducible refine HCALL.out.mono ?_)
  rintro e w1 ⟨rfl,hc1⟩
  replace hc1 := Lib.hid hc1
  go_wp2_with fail
  exact HN.out _ _ (by exact fR rfl rfl rfl) hc1.out
def c_cn_r13 := sp 99 975 cF66
theorem cn_r13_wp (hi:i<n2) (hlim:n2≤maxLen) (hN:∀a',Frm 50 [(1,(.slice D m e)),(2,s_2),(3,s_3),(4,s_4),(39,s_39),(40,s_40),(41,.int .i64 (i+1:Nat))] a'→Q .normal a' w):∀ac,Frm 50 [(1,(.slice D m e)),(2,s_2),(3,s_3),(4,s_4),(39,s_39),(40,s_40),(41,.int .i64 (i:Nat))] ac→Code.wp Tryd.prog c_cn_r13 Q ac w := by
  refine fO (frame_cn ?_)
  intros
  rename_i hq
  iterate 7 (obtain ⟨e,hq⟩ := hq; obtain rfl := sI e; clear e)
  clear hq
  conv=>arg 2; whnf
  have hi4:(i:Int)≤9223372036854775806 := by unfold maxLen at hlim; omega
  replace hN := Lib.hid hN
  go_wp2_with fail
  exact hN.out _ (by exact fR rfl rfl rfl)
end
noncomputable section
set_option maxRecDepth 100000
set_option maxHeartbeats 4000000
variable {w wo:World} {S:Nat→Prop} {D B:Option Addr} {m e bl bw n2 c2:Nat} {bd l:List ByteArray} {v:Value} {Q:Exit→Act→World→Prop}

theorem contains_any (h:strRep.Sl w S (.slice D m e) bd) (x:ByteArray):Calls Tryd.prog 67 #[.slice D m e,.string x] w fun e w'=>e=.returned (.bool (hasB bd x))∧w'=w := by
  obtain ⟨D',m',c',e1,hlen,hmax,_⟩ := id h
  injection e1 with e1 e2 e3
  subst e1 e2 e3
  have hb:hasB bd x=Lib.containsS bd x := Bool.eq_iff_iff.2 (hasB_iff.trans (Lib.containsS_iff bd x).symm)
  cases bd with
  | nil =>
    obtain rfl:m=0 := hlen.symm
    exact Tryd.slices_Contains_string_empty D e x w
  | cons a l =>
    obtain ⟨b,o,cs,rfl,_⟩ := Rep.Sl.at_ h (k := 0) rfl
    have hc:∀j,j<(a :: l).length→w.cell? ⟨b,o+j,none⟩=some (.string ((a :: l).getD j ByteArray.empty)) := fun j hj=>by
      obtain ⟨b',o',cs',e',_,⟨rfl,_⟩,hc'⟩ := Rep.Sl.at_ h (List.getElem?_eq_getElem hj)
      injection e' with e'
      injection e' with e1 e2
      subst e1 e2
      have := hc' 0 _ rfl
      rw [List.getD_eq_getElem?_getD,List.getElem?_eq_getElem hj]
      simpa [strRep] using this
    have := Tryd.slices_Contains_string b o m e (a :: l) x w (by omega) (by unfold maxLen at hmax; omega) hc
    rw [List.take_of_length_le (by omega)] at this
    rw [hb]
    exact this
theorem strAll:∀l:List ByteArray,(∀s∈l,s.size≤maxLen)→strRep.All w S l (l.map .string)
  | [],_=>rfl
  | a :: l,h=>⟨[.string a],l.map .string,rfl,⟨rfl,h a (by simp)⟩,strAll l (fun s hs=>h s (by simp [hs]))⟩
theorem sl_of_row {base:Nat} {E:TypeId} (h:w.ownsRow base E 1 v l.length (l.map .string)) (hz:∀s∈l,s.size≤maxLen) (hm:l.length≤maxLen) (hS:∀k,v.ownBlock=some k→S k):strRep.Sl w S v l := by
  obtain ⟨_,⟨e,e0⟩ | ⟨g,cap,cur,e,hg,hh,h1,h2,h3,h4⟩⟩ := h
  · rw [e]
    exact ⟨none,0,0,rfl,e0,by omega,by omega⟩
  · refine ⟨some ⟨g,0,none⟩,l.length,cap,e,rfl,hm,fun _=>⟨g,0,l.map .string,rfl,hS g (by rw [e]; rfl),strAll l hz,fun j u hu=>?_⟩⟩
    have hj:j<l.length := by
      have := (List.getElem?_eq_some_iff.1 hu).1
      simpa using this
    have h5:cur[j]?=some u := by
      rw [← Array.getElem?_toList,← List.getElem?_take_of_lt hj]
      rw [Nat.mul_one] at h4
      rw [h4]; exact hu
    simp only [World.cell?,hh,Nat.zero_add]
    simpa using h5
theorem fmFreess_take_le (bd:List ByteArray) (l:List Fm) (j:Nat):(fmFreess bd (l.take j)).length≤(fmFreess bd l).length := by
  conv=>rhs; rw [← List.take_append_drop j l,fmFreess_append]
  rw [List.length_append]
  omega
theorem fmFreess_at_le (bd:List ByteArray) (l:List Fm) (j:Nat) (h:j<l.length):(fmFreess bd (l.take j)).length+(fmFrees bd l[j]).length≤(fmFreess bd l).length := by
  have := fmFreess_take_le bd l (j+1)
  rw [fmFreess_take bd l j h,List.length_append] at this
  exact this
theorem cn_end {R:Ending→World→Prop} {w':World} {a:Act} (hd:a.defers=[]) (hR:R (.returned (.tuple #[])) w'):bodyPost Tryd.prog Tryd.f66 R .normal a w' := bodyPost_end (results_none Tryd.results66 _ _ _) hd hR
def c_cn_wl := sp 99 21 cF66
theorem cn_wl_wp {ws:List ByteArray} {v0:Value} {kd:Int} {nm:ByteArray} {A:Option Addr} {n1 c1:Nat} (hs:KS wo w bl v0 kd nm A n1 c1 B n2 c2 v l) (hS:∀k,S k→k<wo.heap.size∧k≠bl∧v0.ownBlock≠some k) (hbd:strRep.Sl wo S (.slice D m e) bd) (hw:strRep.Sl wo S (.slice A n1 c1) ws) (hln:l.length+(ws.filter (fun x=>!hasB bd x)).length≤1000000)
    (hX:∀v' a' w',Frm 50 [(1,(.slice D m e)),(2,.pointer (some ⟨bl,0,none⟩)),(3,.pointer (some ⟨bw,0,none⟩)),(4,.pointer (some ⟨wo.heap.size,0,none⟩))] a'→KS wo w' bl v0 kd nm A n1 c1 B n2 c2 v' (l++ws.filter (fun x=>!hasB bd x))→Q (.exit 0) a' w'):∀ac,Frm 50 [(1,(.slice D m e)),(2,.pointer (some ⟨bl,0,none⟩)),(3,.pointer (some ⟨bw,0,none⟩)),(4,.pointer (some ⟨wo.heap.size,0,none⟩)),(11,.slice A n1 c1),(12,.int .i64 (n1:Nat)),(13,.int .i64 (0:Nat))] ac→Code.wp Tryd.prog c_cn_wl Q ac w := by
  intro a0 hf0
  conv=>arg 2; whnf
  obtain ⟨A',n',c',e9,hlen,hmax,_⟩ := id hw
  injection e9 with e1 e2 e3
  subst e1 e2 e3
  refine wp_loopR (fun g a' w'=>∃(j:Nat) (v':Value),j+g=ws.length∧KS wo w' bl v0 kd nm A n1 c1 B n2 c2 v' (l++(ws.take j).filter (fun x=>!hasB bd x))∧Frm 50 [(1,(.slice D m e)),(2,.pointer (some ⟨bl,0,none⟩)),(3,.pointer (some ⟨bw,0,none⟩)),(4,.pointer (some ⟨wo.heap.size,0,none⟩)),(11,.slice A n1 c1),(12,.int .i64 (n1:Nat)),(13,.int .i64 (j:Nat))] a') ws.length ⟨0,v,by omega,by simpa using hs,hf0⟩ ?_
  rintro g a1 w1 ⟨j,v1,hjg,hs1,h1⟩
  refine wp_seq ?_
  refine cn_r2_wp (fun a2 h2=>?_) a1 h1
  refine wp_seq ?_
  by_cases hj:j<n1
  case neg =>
    refine wp_cond_false ((h2.eval (k := 14) (v := .bool (decide (j<n1))) (by simp)).trans (by rw [decide_eq_false hj])) ?_
    refine wp_exit (hX v1 a2 w1 (h2.pick [0,1,2,3]) ?_)
    rwa [List.take_of_length_le (by omega)] at hs1
  refine wp_cond_true ((h2.eval (k := 14) (v := .bool (decide (j<n1))) (by simp)).trans (by rw [decide_eq_true hj])) ?_
  refine wp_skip ?_
  show Code.wp _ _ _ a2 w1
  have hold := hs1.old hS
  have hjl:j<ws.length := by omega
  obtain ⟨b,o,cs,rfl,hSb,⟨rfl,hsz⟩,hc⟩ := Rep.Sl.at_ hw (List.getElem?_eq_getElem hjl)
  have hc0:w1.cell? ⟨b,o+j,none⟩=some (.string ws[j]) := (cell_keep (hold b hSb) _).trans (by simpa [strRep] using hc 0 _ rfl)
  have hbl := lt_heap hs1.a
  have hlb:b<w1.heap.size := by have := (hS b hSb).1; omega
  have hcont := contains_any (hbd.keep hold (fun _ h=>h)) ws[j]
  have htk:ws.take (j+1)=ws.take j++[ws[j]] := List.take_succ_eq_append_getElem hjl
  have hll:(l++(ws.take j).filter (fun x=>!hasB bd x)).length≤1000000 := by
    have h9:((ws.take j).filter (fun x=>!hasB bd x)).length≤(ws.filter (fun x=>!hasB bd x)).length := by
      conv=>rhs; rw [← List.take_append_drop j ws,List.filter_append]
      rw [List.length_append]; omega
    rw [List.length_append]
    omega
  refine wp_seq ?_
  refine wp_block ?_
  refine wp_seq ?_
  refine cn_r3_wp hj hc0 hlb (fun a3 h3=>?_) a2 (h2.pick [0,1,2,3,4,5,6])
  refine wp_seq ?_
  refine cn_r4_wp hcont (fun a4 h4=>?_) a3 h3
  cases hok:hasB bd ws[j]
  · rw [hok] at h4
    refine wp_cond_true ((h4.eval (k := 20) (v := .bool (!false)) (by simp)).trans (by rw [show (!false)=true from rfl])) ?_
    refine cn_r5_wp hll hs1 (fun v5 a5 w5 h5 hs5=>?_) a4 (h4.pick [0,1,2,3,4,5,6,7])
    show Code.wp _ _ _ a5 w5
    refine cn_r6_wp hj (by omega) (fun a6 h6=>?_) a5 h5
    refine ⟨g - 1,by omega,j+1,v5,by omega,?_,h6⟩
    rw [htk,List.filter_append,List.filter_cons_of_pos (by simp [hok]),List.filter_nil,← List.append_assoc]
    exact hs5
  · rw [hok] at h4
    refine wp_cond_false ((h4.eval (k := 20) (v := .bool (!true)) (by simp)).trans (by rw [show (!true)=false from rfl])) ?_
    refine wp_skip ?_
    show Code.wp _ _ _ a4 w1
    refine cn_r6_wp hj (by omega) (fun a6 h6=>?_) a4 (h4.pick [0,1,2,3,4,5,6])
    refine ⟨g - 1,by omega,j+1,v1,by omega,?_,h6⟩
    rw [htk,List.filter_append,List.filter_cons_of_neg (by simp [hok]),List.filter_nil,List.append_nil]
    exact hs1
def c_cn_sl := sp 99 47 cF66
theorem cn_sl_wp {ts:List Fm} (hb:LB w bl v l) (hS:∀k,S k→k<w.heap.size∧k≠bl∧v.ownBlock≠some k) (hbd:strRep.Sl w S (.slice D m e) bd) (hl:fmRep.Sl w S (.slice B n2 c2) ts) (hSw:S bw) (hf:w.heap[bw]?=some (.cells #[.func (Fn.func 66) #[] #[.pointer (some ⟨bl,0,none⟩),.pointer (some ⟨bw,0,none⟩)]] 105 (0,0))) (hln:l.length+(fmFreess bd ts).length≤1000000) (ih:∀(t:Fm) (cs:List Value) (W:World) (v1:Value) (l1:List ByteArray),t∈ts→fmRep.R W S t cs→(∀k,S k→k<W.heap.size∧k≠bl∧v1.ownBlock≠some k)→strRep.Sl W S (.slice D m e) bd→W.heap[bw]?=some (.cells #[.func (Fn.func 66) #[] #[.pointer (some ⟨bl,0,none⟩),.pointer (some ⟨bw,0,none⟩)]] 105 (0,0))→LB W bl v1 l1→l1.length+(fmFrees bd t).length≤1000000→Calls Tryd.prog 66 #[.agg cs.toArray,(.slice D m e),.pointer (some ⟨bl,0,none⟩),.pointer (some ⟨bw,0,none⟩)] W fun e w'=>e=.returned (.tuple #[])∧∃v',LB w' bl v' (l1++fmFrees bd t)∧LK W w' bl v1 v') 
    (hX:∀v' a' w',Frm 50 [(1,(.slice D m e)),(2,.pointer (some ⟨bl,0,none⟩)),(3,.pointer (some ⟨bw,0,none⟩)),(4,.pointer (some ⟨wo.heap.size,0,none⟩))] a'→LB w' bl v' (l++fmFreess bd ts)→LK w w' bl v v'→Q (.exit 2) a' w'):∀ac,Frm 50 [(1,(.slice D m e)),(2,.pointer (some ⟨bl,0,none⟩)),(3,.pointer (some ⟨bw,0,none⟩)),(4,.pointer (some ⟨wo.heap.size,0,none⟩)),(39,.slice B n2 c2),(40,.int .i64 (n2:Nat)),(41,.int .i64 (0:Nat))] ac→Code.wp Tryd.prog c_cn_sl Q ac w := by
  intro a0 hf0
  conv=>arg 2; whnf
  obtain ⟨B',n',c',e9,hlen,hmax,_⟩ := id hl
  injection e9 with e1 e2 e3
  subst e1 e2 e3
  refine wp_loopR (fun g a' w'=>∃(j:Nat) (v':Value),j+g=ts.length∧LB w' bl v' (l++fmFreess bd (ts.take j))∧LK w w' bl v v'∧Frm 50 [(1,(.slice D m e)),(2,.pointer (some ⟨bl,0,none⟩)),(3,.pointer (some ⟨bw,0,none⟩)),(4,.pointer (some ⟨wo.heap.size,0,none⟩)),(39,.slice B n2 c2),(40,.int .i64 (n2:Nat)),(41,.int .i64 (j:Nat))] a') ts.length ⟨0,v,by omega,by simpa [fmFreess] using hb,LK.refl _ _ _,hf0⟩ ?_
  rintro g a1 w1 ⟨j,v1,hjg,hb1,hk1,h1⟩
  refine wp_seq ?_
  refine cn_r10_wp (fun a2 h2=>?_) a1 h1
  refine wp_seq ?_
  by_cases hj:j<n2
  case neg =>
    refine wp_cond_false ((h2.eval (k := 42) (v := .bool (decide (j<n2))) (by simp)).trans (by rw [decide_eq_false hj])) ?_
    refine wp_exit (hX v1 a2 w1 (h2.pick [0,1,2,3]) ?_ hk1)
    rwa [List.take_of_length_le (by omega)] at hb1
  refine wp_cond_true ((h2.eval (k := 42) (v := .bool (decide (j<n2))) (by simp)).trans (by rw [decide_eq_true hj])) ?_
  refine wp_skip ?_
  show Code.wp _ _ _ a2 w1
  have hjl:j<ts.length := by omega
  obtain ⟨b,o,cs,rfl,hSb,hr,hc⟩ := Rep.Sl.at_ hl (List.getElem?_eq_getElem hjl)
  obtain ⟨Ae,n3,c3,Be,n4,c4,rfl,_,_,_,_⟩ := Fm.shape hr
  have hold:∀k,S k→w1.heap[k]?=w.heap[k]? := fun k hk=>hk1.block k (hS k hk).1 (hS k hk).2.1 (hS k hk).2.2
  have hS1:∀k,S k→k<w1.heap.size∧k≠bl∧v1.ownBlock≠some k := fun k hk=>⟨Nat.lt_of_lt_of_le (hS k hk).1 hk1.size,(hS k hk).2.1,fun e=>by
    rcases hk1.at_ k e with e | e
    · exact (hS k hk).2.2 e
    · have := (hS k hk).1; omega⟩
  have hkb := hold b hSb
  have e0:w1.cell? ⟨b,o+j * 4,none⟩=_ := (cell_keep hkb _).trans (hc 0 _ rfl)
  have e1:w1.cell? ⟨b,o+j * 4+1,none⟩=_ := (cell_keep hkb _).trans (hc 1 _ rfl)
  have e2:w1.cell? ⟨b,o+j * 4+2,none⟩=_ := (cell_keep hkb _).trans (hc 2 _ rfl)
  have e3:w1.cell? ⟨b,o+j * 4+3,none⟩=_ := (cell_keep hkb _).trans (hc 3 _ rfl)
  refine wp_seq ?_
  refine wp_block ?_
  refine wp_seq ?_
  refine cn_r11_wp hj e0 e1 e2 e3 (hS1 b hSb).1 (fun a3 h3=>?_) a2 (h2.pick [0,1,2,3,4,5,6])
  have hbw := (Below.refl w1.heap.size w1).alloc (Nat.le_refl _) (.cells #[.int .i64 ts[j].lab.kind,.string ts[j].lab.nm,.slice Ae n3 c3,.slice Be n4 c4] 29)
  have hge := heap_alloc_new w1 (.cells #[.int .i64 ts[j].lab.kind,.string ts[j].lab.nm,.slice Ae n3 c3,.slice Be n4 c4] 29)
  have hb3 := hb1.below hbw
  have hk3 := LK.below bl v1 hbw
  have hold3:∀k,S k→(w1.alloc (.cells #[.int .i64 ts[j].lab.kind,.string ts[j].lab.nm,.slice Ae n3 c3,.slice Be n4 c4] 29)).heap[k]?=w.heap[k]? := fun k hk=>(hbw.block k (hS1 k hk).1).trans (hold k hk)
  have hf3 := (hold3 bw hSw).trans hf
  have hln1:(l++fmFreess bd (ts.take j)).length+(fmFrees bd ts[j]).length≤1000000 := by
    have := fmFreess_at_le bd ts j hjl
    rw [List.length_append]; omega
  have hcall := ih ts[j] _ _ v1 _ (List.getElem_mem hjl) (fmRep.keep hr hold3 (fun _ h=>h)) (fun k hk=>⟨by have := (hS1 k hk).1; simp; omega,(hS1 k hk).2⟩) (hbd.keep hold3 (fun _ h=>h)) hf3 hb3 hln1
  refine cn_r12_wp hf3 hge hcall (fun a4 w4 h4 hp=>?_) a3 h3
  obtain ⟨v4,hb4,hk4⟩ := hp
  show Code.wp _ _ _ a4 w4
  refine cn_r13_wp hj (by omega) (fun a5 h5=>?_) a4 (h4.pick [0,1,2,3,4,5,6])
  refine ⟨g - 1,by omega,j+1,v4,by omega,?_,(hk1.trans hk3).trans hk4,h5⟩
  rw [fmFreess_take bd ts j hjl,← List.append_assoc]
  exact hb4
def c_cn_p9 := sp 99 15 cF66
theorem frees_any:∀(N:Nat) (t:Fm) (cs:List Value) (w:World) (S:Nat→Prop) (D:Option Addr) (m e:Nat) (bd:List ByteArray) (bl bw:Nat) (v:Value) (l:List ByteArray),t.nodes≤N→fmRep.R w S t cs→(∀k,S k→k<w.heap.size∧k≠bl∧v.ownBlock≠some k)→strRep.Sl w S (.slice D m e) bd→m≤e→(bd=[]→D=none)→bd.length+N≤1000000→S bw→w.heap[bw]?=some (.cells #[.func (Fn.func 66) #[] #[.pointer (some ⟨bl,0,none⟩),.pointer (some ⟨bw,0,none⟩)]] 105 (0,0))→LB w bl v l→l.length+(fmFrees bd t).length≤1000000 →
    Calls Tryd.prog 66 #[.agg cs.toArray,(.slice D m e),.pointer (some ⟨bl,0,none⟩),.pointer (some ⟨bw,0,none⟩)] w (fun e w'=>e=.returned (.tuple #[])∧∃v',LB w' bl v' (l++fmFrees bd t)∧LK w w' bl v v') := by
  intro N
  induction N with
  | zero=>intro t; have := t.nodes_pos; intros; omega
  | succ N ih =>
  intro t cs w S D m e bd bl bw v l hN ht hS hbd hme hD hdn hSw hf hb hln
  obtain ⟨⟨kd,nm,ws⟩,ts⟩ := t
  obtain ⟨u,v9,rfl,hnm,hw,hl⟩ := Fm.open_ ht
  simp only at hw hnm
  obtain ⟨A,n1,c1,rfl,e1,hm1,_⟩ := id hw
  obtain ⟨B,n2,c2,rfl,e2,hm2,_⟩ := id hl
  have hbm:bd.length=m := by
    obtain ⟨_,_,_,e9,h9,_⟩ := id hbd
    injection e9 with _ e9 _
    rw [e9,h9]
  clear ht
  have hbl := lt_heap hb.box
  simp only [fmFrees] at hln
  rw [List.length_append] at hln
  go_enter Tryd.func66,Tryd.ntmps66
  refine wp_seq ?_
  refine cn_r0_wp hb (fun a0 w0 h0 hs=>?_) _ (by exact fR rfl rfl rfl)
  refine wp_seq ?_
  refine wp_seq ?_
  refine cn_r1_wp hs (fun a1 h1=>?_) a0 h0
  refine wp_block ?_
  refine cn_wl_wp hs hS hbd hw (by omega) (fun v2 a2 w2 h2 hs2=>?_) a1 h1
  refine inBlock_exit ?_
  show Code.wp _ _ _ a2 w2
  have p9:∀(a5:Act) (w5:World) (S':Nat→Prop) (D:Option Addr) (m e:Nat) (bd':List ByteArray) (v5:Value),bd'=(if kd=8∨kd=9 then bd++[nm] else bd)→KS w w5 bl v kd nm A n1 c1 B n2 c2 v5 (l++ws.filter (fun x=>!hasB bd x))→(∀k,S k→S' k)→(∀k,S' k→k<w5.heap.size∧k≠bl∧v5.ownBlock≠some k)→strRep.Sl w5 S' (.slice D m e) bd'→m≤e→(bd'=[]→D=none)→bd'.length+N≤1000000→Frm 50 [(1,(.slice D m e)),(2,.pointer (some ⟨bl,0,none⟩)),(3,.pointer (some ⟨bw,0,none⟩)),(4,.pointer (some ⟨w.heap.size,0,none⟩))] a5→Code.wp Tryd.prog c_cn_p9 (bodyPost Tryd.prog Tryd.f66 (fun e w'=>e=.returned (.tuple #[])∧∃v',LB w' bl v' (l++fmFrees bd (.mk ⟨kd,nm,ws⟩ ts))∧LK w w' bl v v')) a5 w5 := by
    intro a5 w5 S' D m e bd' v5 ebd hs5 hsub hS5 hbd5 hme5 hD5 hn5 h5
    conv=>arg 2; whnf
    refine wp_seq ?_
    refine cn_r9_wp hs5 (fun a6 h6=>?_) a5 h5
    refine wp_block ?_
    have hold := hs5.old hS
    rw [← ebd] at hln
    refine cn_sl_wp (S := S') hs5.b hS5 hbd5 (hl.keep hold hsub) (hsub _ hSw) ((hold bw hSw).trans hf) (by rw [List.length_append]; omega) (fun t cs W v1 l1 htl hr hS9 hbd9 hf9 hb9 hln9=>?_) (fun v7 a7 w7 h7 hb7 hk7=>?_) a6 h6
    · have hnd:t.nodes≤N := by
        obtain ⟨j,hj,rfl⟩ := List.getElem_of_mem htl
        have := Tree.nodes_at ts j hj
        simp [Tree.nodes] at hN
        omega
      exact ih t cs W S' D m e bd' bl bw v1 l1 hnd hr hS9 hbd9 hme5 hD5 hn5 (hsub _ hSw) hf9 hb9 hln9
    · refine inBlock_exit ?_
      refine cn_end h7.2.1 ⟨rfl,v7,?_,hs5.k.trans hk7⟩
      have e9:l++fmFrees bd (.mk ⟨kd,nm,ws⟩ ts)=l++ws.filter (fun x=>!hasB bd x)++fmFreess bd' ts := by
        simp only [fmFrees]
        rw [← ebd,List.append_assoc]
      rw [e9]
      exact hb7
  refine wp_seq ?_
  refine wp_seq ?_
  refine cn_r7_wp hs2 (fun a3 w3 h3 hs3 hb3=>?_) a2 h2
  have hS3:∀k,S k→k<w3.heap.size∧k≠bl∧v2.ownBlock≠some k := fun k hk=>⟨by have := (hS k hk).1; have := hs3.k.size; omega,(hS k hk).2.1,fun e=>by
    rcases hs3.k.at_ k e with e | e
    · exact (hS k hk).2.2 e
    · have := (hS k hk).1; omega⟩
  have hbd3 := hbd.keep (hs3.old hS) (fun _ h=>h)
  have hq:isQu kd=true ↔ kd=8∨kd=9 := by unfold isQu; simp
  cases hk:isQu kd
  · rw [hk] at h3
    refine wp_cond_false ((h3.eval (k := 27) (v := .bool false) (by simp)).trans (by rw [show false=false from rfl])) ?_
    refine wp_skip ?_
    exact p9 a3 w3 S D m e bd v2 (by rw [if_neg (fun h=>by rw [hq.2 h] at hk; cases hk)]) hs3 (fun _ h=>h) hS3 hbd3 hme hD (by omega) (h3.pick [0,1,2,3])
  · rw [hk] at h3
    refine wp_cond_true ((h3.eval (k := 27) (v := .bool true) (by simp)).trans (by rw [show true=true from rfl])) ?_
    have k89:kd=8∨kd=9 := hq.1 hk
    have fin:∀(a5:Act) (w5:World) (v6:Value),Frm 50 [(1,v6),(2,.pointer (some ⟨bl,0,none⟩)),(3,.pointer (some ⟨bw,0,none⟩)),(4,.pointer (some ⟨w.heap.size,0,none⟩))] a5→w5.ownsRow (w3.heap.size+1) 9 1 v6 (m+1) (bd.map .string++[.string nm])→Below w3.heap.size w3 w5→Code.wp Tryd.prog c_cn_p9 (bodyPost Tryd.prog Tryd.f66 (fun e w'=>e=.returned (.tuple #[])∧∃v',LB w' bl v' (l++fmFrees bd (.mk ⟨kd,nm,ws⟩ ts))∧LK w w' bl v v')) a5 w5 := by
      intro a5 w5 v6 h5 hrow hb5
      have hlen:(bd++[nm]).length=m+1 := by simp [hbm]
      have hrow':w5.ownsRow (w3.heap.size+1) 9 1 v6 (bd++[nm]).length ((bd++[nm]).map .string) := by rw [hlen]; simpa using hrow
      have hbz:∀s∈bd++[nm],s.size≤maxLen := by
        intro s hs
        rcases List.mem_append.1 hs with hs | hs
        · obtain ⟨j,hj,rfl⟩ := List.getElem_of_mem hs
          obtain ⟨_,_,_,_,_,⟨_,hz⟩,_⟩ := Rep.Sl.at_ (A := D) (n := m) (c := e) hbd (List.getElem?_eq_getElem hj)
          exact hz
        · simp at hs; subst hs; exact hnm
      have hbd6 := sl_of_row (S := fun k=>S k∨v6.ownBlock=some k) hrow' hbz (by rw [hlen]; unfold maxLen; omega) (fun k hk=>Or.inr hk)
      have hlt := hrow.lt
      obtain ⟨D6,m6,e6,rfl,h6,_⟩ := id hbd6
      have hm6:m6=m+1 := by rw [← h6,hlen]
      subst hm6
      have hle:m+1≤e6 := by
        obtain ⟨_,⟨e9,e0⟩ | ⟨g,cap,cur,e9,_,_,h1,_⟩⟩ := hrow
        · omega
        · injection e9 with _ _ e9; omega
      have hbl3 := lt_heap hs3.b.box
      refine p9 a5 w5 (fun k=>S k∨(Value.slice D6 (m+1) e6).ownBlock=some k) D6 (m+1) e6 (bd++[nm]) v2 (by rw [if_pos k89]) (hs3.below hb5) (fun k h=>Or.inl h) (fun k hk=>?_) hbd6 hle (fun h=>by simp at h) (by simp; omega) h5
      rcases hk with hk | hk
      · exact ⟨Nat.lt_of_lt_of_le (hS3 k hk).1 hb5.size,(hS3 k hk).2⟩
      · have h9 := hlt k hk
        refine ⟨h9.2,by omega,fun e=>?_⟩
        have := hs3.b.lt k e
        omega
    cases bd with
    | nil =>
      obtain rfl:D=none := hD rfl
      obtain rfl:m=0 := hbm.symm
      refine Code.wp_mono (Q := Exit.then (fun a' w'=>∃v6:Value,Frm 50 [(1,v6),(2,.pointer (some ⟨bl,0,none⟩)),(3,.pointer (some ⟨bw,0,none⟩)),(4,.pointer (some ⟨w.heap.size,0,none⟩))] a'∧w'.ownsRow (w3.heap.size+1) 9 1 v6 (0+1) (([]:List ByteArray).map .string++[.string nm])∧Below w3.heap.size w3 w') (fun _ _ _=>False)) ?_ (cn_r8n_wp rfl hs3 (fun v6 a5 w5 h5 hrow hb5=>⟨v6,h5,hrow,hb5⟩) a3 (h3.pick [0,1,2,3]))
      intro ex a4 w4 hx
      cases ex with
      | normal =>
        obtain ⟨v6,h6,hr6,hb6⟩ := hx
        exact fin a4 w4 v6 h6 hr6 hb6
      | _=>exact hx.elim
    | cons y r =>
      obtain ⟨b,o,cs9,rfl,hSb,_,_⟩ := Rep.Sl.at_ hbd3 (k := 0) rfl
      have hcell:∀j u,((y :: r).map Value.string)[j]?=some u→w3.cell? ⟨b,o+j,none⟩=some u := by
        intro j u hu
        have hj:j<(y :: r).length := by
          have := (List.getElem?_eq_some_iff.1 hu).1
          simpa using this
        obtain ⟨b',o',cs',e',_,⟨rfl,_⟩,hc'⟩ := Rep.Sl.at_ hbd3 (List.getElem?_eq_getElem hj)
        injection e' with e'
        injection e' with e1 e2
        subst e1 e2
        have h9 := hc' 0 _ rfl
        rw [List.getElem?_map,List.getElem?_eq_getElem hj] at hu
        injection hu with hu
        rw [← hu]
        simpa [strRep] using h9
      refine Code.wp_mono (Q := Exit.then (fun a' w'=>∃v6:Value,Frm 50 [(1,v6),(2,.pointer (some ⟨bl,0,none⟩)),(3,.pointer (some ⟨bw,0,none⟩)),(4,.pointer (some ⟨w.heap.size,0,none⟩))] a'∧w'.ownsRow (w3.heap.size+1) 9 1 v6 (m+1) ((y :: r).map .string++[.string nm])∧Below w3.heap.size w3 w') (fun _ _ _=>False)) ?_ (cn_r8_wp hbm (by omega) hme (hS3 b hSb).1 hcell hs3 (fun v6 a5 w5 h5 hrow hb5=>⟨v6,h5,hrow,hb5⟩) a3 (h3.pick [0,1,2,3]))
      intro ex a4 w4 hx
      cases ex with
      | normal =>
        obtain ⟨v6,h6,hr6,hb6⟩ := hx
        exact fin a4 w4 v6 h6 hr6 hb6
      | _=>exact hx.elim
end
noncomputable section
set_option maxRecDepth 1000000
set_option maxHeartbeats 16000000
variable {P:Act→Prop} {s_1 s_8 s_9 s_6 v s_5:Value} {Q:Exit→Act→World→Prop} {D A8:Option Addr} {m e i g n c B k8 c8:Nat} {w w':World} {y x:ByteArray} {R:Ending→World→Prop} {bb:Bool} {a:Act} {l:List ByteArray} {xs:List Value}

theorem frame_hs (h:∀x0 x1 x2 x3 x4 x5 x6 x7 x8 x9 x10 x11 x12 x13 x14 x15 x16:Value,P ⟨(x0 :: x1 :: x2 :: x3 :: x4 :: x5 :: x6 :: x7 :: x8 :: x9 :: x10 :: x11 :: x12 :: x13 :: x14 :: x15 :: x16 :: []).toArray,[]⟩):∀a:Act,a.tmps.toList.length=17→a.defers=[]→P a := by
  rintro ⟨⟨l⟩,d⟩ hs hd
  simp only at hd
  subst hd
  revert l
  show ∀l:List Value,l.length=17→P ⟨⟨l⟩,[]⟩
  iterate 17 refine openS (fun _=>?_)
  refine open0 ?_
  exact h ..
theorem frame_pt (h:∀x0 x1 x2 x3 x4 x5 x6 x7 x8 x9 x10 x11 x12 x13 x14 x15 x16 x17 x18 x19 x20 x21 x22 x23 x24 x25 x26 x27 x28 x29 x30 x31 x32 x33 x34 x35 x36 x37 x38:Value,P ⟨(x0 :: x1 :: x2 :: x3 :: x4 :: x5 :: x6 :: x7 :: x8 :: x9 :: x10 :: x11 :: x12 :: x13 :: x14 :: x15 :: x16 :: x17 :: x18 :: x19 :: x20 :: x21 :: x22 :: x23 :: x24 :: x25 :: x26 :: x27 :: x28 :: x29 :: x30 :: x31 :: x32 :: x33 :: x34 :: x35 :: x36 :: x37 :: x38 :: []).toArray,[]⟩):∀a:Act,a.tmps.toList.length=39→a.defers=[]→P a := by
  rintro ⟨⟨l⟩,d⟩ hs hd
  simp only at hd
  subst hd
  revert l
  show ∀l:List Value,l.length=39→P ⟨⟨l⟩,[]⟩
  iterate 39 refine openS (fun _=>?_)
  refine open0 ?_
  exact h ..
noncomputable def cF85:Code := Tryd.f85.body.getD .skip
noncomputable def cF86:Code := Tryd.f86.body.getD .skip
def c_hs_r0 := sp 99 2 cF85
theorem hs_r0_wp (hN:∀a',Frm 17 [(0,.slice D m e),(1,s_1)] a'→Q .normal a' w):∀ac,Frm 17 [(0,.slice D m e),(1,s_1)] ac→Code.wp Tryd.prog c_hs_r0 Q ac w := by
  refine fO (frame_hs ?_)
  intros
  rename_i hq
  iterate 2 (obtain ⟨e,hq⟩ := hq; obtain rfl := sI e; clear e)
  clear hq
  conv=>arg 2; whnf
  replace hN := Lib.hid hN
  go_wp2_with fail
  exact hN.out _ (id ⟨rfl,rfl,rfl,rfl,trivial⟩)
def c_hs_r1 := sp 99 9 cF85
theorem hs_r1_wp (hN:∀a',Frm 17 [(0,.slice D m e),(1,s_1),(7,.slice D m e),(8,.int .i64 (m:Nat)),(9,.int .i64 (0:Nat))] a'→Q .normal a' w):∀ac,Frm 17 [(0,.slice D m e),(1,s_1)] ac→Code.wp Tryd.prog c_hs_r1 Q ac w := by
  refine fO (frame_hs ?_)
  intros
  rename_i hq
  iterate 2 (obtain ⟨e,hq⟩ := hq; obtain rfl := sI e; clear e)
  clear hq
  conv=>arg 2; whnf
  replace hN := Lib.hid hN
  go_wp2_with fail
  exact hN.out _ (by exact fR rfl rfl rfl)
def c_hs_r2 := sp 99 69 cF85
theorem hs_r2_wp (hN:∀a',Frm 17 [(0,.slice D m e),(1,s_1),(7,.slice D m e),(8,.int .i64 (m:Nat)),(9,.int .i64 (i:Nat)),(10,.bool (decide (i<m)))] a'→Q .normal a' w):∀ac,Frm 17 [(0,.slice D m e),(1,s_1),(7,.slice D m e),(8,.int .i64 (m:Nat)),(9,.int .i64 (i:Nat))] ac→Code.wp Tryd.prog c_hs_r2 Q ac w := by
  refine fO (frame_hs ?_)
  intros
  rename_i hq
  iterate 5 (obtain ⟨e,hq⟩ := hq; obtain rfl := sI e; clear e)
  clear hq
  conv=>arg 2; whnf
  by_cases h:i<m
  · have t1:decide ((i:Int)<(m:Int))=true := by first | exact decide_eq_true (by omega) | exact beq_iff_eq.2 (by omega) | exact bne_iff_ne.2 (by omega)
    have t2:(decide (i<m))=true := decide_eq_true h
    rw [t2] at hN
    clear h
    replace hN := Lib.hid hN
    go_wp2_with fail
    exact hN.out _ (by exact fR rfl rfl rfl)
  · have t1:decide ((i:Int)<(m:Int))=false := by first | exact decide_eq_false (by omega) | exact beq_eq_false_iff_ne.2 (by omega) | exact bne_eq_false_iff_eq.2 (by omega)
    have t2:(decide (i<m))=false := decide_eq_false h
    rw [t2] at hN
    clear h
    replace hN := Lib.hid hN
    go_wp2_with fail
    exact hN.out _ (by exact fR rfl rfl rfl)
def c_hs_r3 := sp 99 1125 cF85
theorem hs_r3_wp {s_0:Value} {b o:Nat} (hi:i<m) (hc:w.cell? ⟨b,o+i,none⟩=some (.string y)) (hbl:b<w.heap.size) (hN:∀a',Frm 17 [(0,s_0),(1,s_1),(7,.slice (some ⟨b,o,none⟩) m e),(8,s_8),(9,.int .i64 (i:Nat)),(6,.string y)] a'→Q .normal a' w):∀ac,Frm 17 [(0,s_0),(1,s_1),(7,.slice (some ⟨b,o,none⟩) m e),(8,s_8),(9,.int .i64 (i:Nat))] ac→Code.wp Tryd.prog c_hs_r3 Q ac w := by
  refine fO (frame_hs ?_)
  intros
  rename_i hq
  iterate 5 (obtain ⟨e,hq⟩ := hq; obtain rfl := sI e; clear e)
  clear hq
  conv=>arg 2; whnf
  have q0:(0:Int)≤(i:Int) := by omega
  have q1:(i:Int)<(m:Int) := by omega
  replace hN := Lib.hid hN
  go_wp2_with fail
  exact hN.out _ (by exact fR rfl rfl rfl)
def c_hs_r4 := sp 99 2661 cF85
theorem hs_r4_wp (hN:∀a',Frm 17 [(0,.slice D m e),(1,.string x),(7,.slice D m e),(8,s_8),(9,s_9),(6,.string y),(15,.bool (decide (y=x)))] a'→Q .normal a' w):∀ac,Frm 17 [(0,.slice D m e),(1,.string x),(7,.slice D m e),(8,s_8),(9,s_9),(6,.string y)] ac→Code.wp Tryd.prog c_hs_r4 Q ac w := by
  refine fO (frame_hs ?_)
  intros
  rename_i hq
  iterate 6 (obtain ⟨e,hq⟩ := hq; obtain rfl := sI e; clear e)
  clear hq
  conv=>arg 2; whnf
  by_cases h:y=x
  · subst h
    have t1:(y.toList == y.toList)=true := beq_self_eq_true _
    rw [show decide (y=y)=true from decide_eq_true rfl] at hN
    replace hN := Lib.hid hN
    go_wp2_with fail
    exact hN.out _ (by exact fR rfl rfl rfl)
  · have t1:(y.toList == x.toList)=false := beq_eq_false_iff_ne.2 (fun e=>h (bytes_inj e))
    rw [show decide (y=x)=false from decide_eq_false h] at hN
    replace hN := Lib.hid hN
    go_wp2_with fail
    exact hN.out _ (by exact fR rfl rfl rfl)
def c_hs_r5 := sp 99 9829 cF85
theorem hs_r5_wp (hN:∀a',Frm 17 [(4,.bool true)] a'→Q .normal a' w):∀ac,Frm 17 [(0,.slice D m e),(1,s_1),(7,.slice D m e),(8,s_8),(9,s_9),(6,s_6)] ac→Code.wp Tryd.prog c_hs_r5 Q ac w := by
  refine fO (frame_hs ?_)
  intros
  rename_i hq
  iterate 6 (obtain ⟨e,hq⟩ := hq; obtain rfl := sI e; clear e)
  clear hq
  conv=>arg 2; whnf
  replace hN := Lib.hid hN
  go_wp2_with fail
  exact hN.out _ (id ⟨rfl,rfl,rfl,trivial⟩)
def c_hs_r6 := sp 99 485 cF85
theorem hs_r6_wp (hi:i<m) (hlim:m≤maxLen) (hN:∀a',Frm 17 [(0,.slice D m e),(1,s_1),(7,.slice D m e),(8,s_8),(9,.int .i64 (i+1:Nat))] a'→Q .normal a' w):∀ac,Frm 17 [(0,.slice D m e),(1,s_1),(7,.slice D m e),(8,s_8),(9,.int .i64 (i:Nat))] ac→Code.wp Tryd.prog c_hs_r6 Q ac w := by
  refine fO (frame_hs ?_)
  intros
  rename_i hq
  iterate 5 (obtain ⟨e,hq⟩ := hq; obtain rfl := sI e; clear e)
  clear hq
  conv=>arg 2; whnf
  have hi4:(i:Int)≤9223372036854775806 := by unfold maxLen at hlim; omega
  replace hN := Lib.hid hN
  go_wp2_with fail
  exact hN.out _ (by exact fR rfl rfl rfl)
def c_hs_r7 := sp 99 11 cF85
theorem hs_r7_wp (hN:∀a',Frm 17 [(4,.bool false)] a'→Q .normal a' w):∀ac,Frm 17 [(0,.slice D m e),(1,s_1)] ac→Code.wp Tryd.prog c_hs_r7 Q ac w := by
  refine fO (frame_hs ?_)
  intros
  rename_i hq
  iterate 2 (obtain ⟨e,hq⟩ := hq; obtain rfl := sI e; clear e)
  clear hq
  conv=>arg 2; whnf
  replace hN := Lib.hid hN
  go_wp2_with fail
  exact hN.out _ (id ⟨rfl,rfl,rfl,trivial⟩)
theorem hs_ret_wp (hR:R (.returned (.bool bb)) w'):∀ac,Frm 17 [(4,.bool bb)] ac→bodyPost Tryd.prog Tryd.f85 R .ret ac w' := by
  refine fO (frame_hs ?_)
  intros
  rename_i hq
  iterate 1 (obtain ⟨e,hq⟩ := hq; obtain rfl := sI e; clear e)
  clear hq
  refine bodyPost_ret (v := .bool bb) (by simp [results,Tryd.results85,go_sem]) rfl ?_
  exact hR
theorem then_ret {K:Act→World→Prop} (h:Q .ret a w):Exit.then K Q .ret a w := h
theorem inBlock_ret {k:Nat} (h:Q .ret a w):Exit.inBlock k Q .ret a w := h
theorem refHas_any {S:Nat→Prop} {bd:List ByteArray} (h:strRep.Sl w S (.slice D m e) bd) (hS:∀k,S k→k<w.heap.size) (x:ByteArray):Calls Tryd.prog 85 #[.slice D m e,.string x] w fun e w'=>e=.returned (.bool (hasB bd x))∧w'=w := by
  obtain ⟨D',m',c',e9,hlen,hmax,_⟩ := id h
  injection e9 with e1 e2 e3
  subst e1 e2 e3
  go_enter Tryd.func85,Tryd.ntmps85
  refine wp_seq ?_
  refine hs_r0_wp (fun a0 h0=>?_) _ (id ⟨rfl,rfl,rfl,rfl,trivial⟩)
  refine wp_seq ?_
  refine wp_seq ?_
  refine hs_r1_wp (fun a1 h1=>?_) a0 h0
  refine wp_block ?_
  refine wp_loopR (fun g a' w'=>∃j:Nat,j+g=bd.length∧hasB (bd.take j) x=false∧w'=w∧Frm 17 [(0,.slice D m e),(1,.string x),(7,.slice D m e),(8,.int .i64 (m:Nat)),(9,.int .i64 (j:Nat))] a') bd.length ⟨0,by omega,rfl,rfl,h1⟩ ?_
  rintro g a2 w2 ⟨j,hjg,hno,rfl,h2⟩
  refine wp_seq ?_
  refine hs_r2_wp (fun a3 h3=>?_) a2 h2
  refine wp_seq ?_
  by_cases hj:j<m
  case neg =>
    refine wp_cond_false ((h3.eval (k := 10) (v := .bool (decide (j<m))) (by simp)).trans (by rw [decide_eq_false hj])) ?_
    refine wp_exit ?_
    repeat refine then_exit ?_
    refine inBlock_exit ?_
    show Code.wp _ _ _ a3 w2
    refine wp_seq ?_
    refine hs_r7_wp (fun a4 h4=>?_) a3 (h3.pick [0,1])
    refine wp_ret ?_
    refine hs_ret_wp (bb := false) ?_ a4 h4
    rw [List.take_of_length_le (by omega)] at hno
    exact ⟨by rw [hno],rfl⟩
  refine wp_cond_true ((h3.eval (k := 10) (v := .bool (decide (j<m))) (by simp)).trans (by rw [decide_eq_true hj])) ?_
  refine wp_skip ?_
  show Code.wp _ _ _ a3 w2
  have hjl:j<bd.length := by omega
  obtain ⟨b,o,cs,rfl,hSb,⟨rfl,hsz⟩,hc⟩ := Rep.Sl.at_ h (List.getElem?_eq_getElem hjl)
  have hc0:w2.cell? ⟨b,o+j,none⟩=some (.string bd[j]) := by simpa [strRep] using hc 0 _ rfl
  have htk:hasB (bd.take (j+1)) x=decide (bd[j]=x) := by
    unfold hasB at hno ⊢
    rw [List.take_succ_eq_append_getElem hjl,List.any_append,hno]
    simp
  refine wp_seq ?_
  refine wp_block ?_
  refine wp_seq ?_
  refine hs_r3_wp hj hc0 (hS b hSb) (fun a4 h4=>?_) a3 (h3.pick [0,1,2,3,4])
  refine wp_seq ?_
  refine hs_r4_wp (fun a5 h5=>?_) a4 h4
  by_cases hx:bd[j]=x
  · refine wp_cond_true ((h5.eval (k := 15) (v := .bool (decide (bd[j]=x))) (by simp)).trans (by rw [decide_eq_true hx])) ?_
    refine wp_seq ?_
    refine hs_r5_wp (fun a6 h6=>?_) a5 (h5.pick [0,1,2,3,4,5])
    refine wp_ret ?_
    repeat (first | refine then_ret ?_ | refine inBlock_ret ?_)
    refine hs_ret_wp (bb := true) ?_ a6 h6
    have hm:hasB bd x=true := hasB_iff.2 (by rw [← hx]; exact List.getElem_mem hjl)
    exact ⟨by rw [hm],rfl⟩
  · refine wp_cond_false ((h5.eval (k := 15) (v := .bool (decide (bd[j]=x))) (by simp)).trans (by rw [decide_eq_false hx])) ?_
    refine wp_skip ?_
    show Code.wp _ _ _ a5 w2
    refine hs_r6_wp hj (by omega) (fun a6 h6=>?_) a5 (h5.pick [0,1,2,3,4])
    exact ⟨g - 1,by omega,j+1,by omega,by rw [htk]; exact decide_eq_false hx,rfl,h6⟩
def c_pt_r0 := sp 99 2 cF86
theorem pt_r0_wp (hN:∀a',Frm 39 [(0,v),(1,s_1)] a'→Q .normal a' w):∀ac,Frm 39 [(0,v),(1,s_1)] ac→Code.wp Tryd.prog c_pt_r0 Q ac w := by
  refine fO (frame_pt ?_)
  intros
  rename_i hq
  iterate 2 (obtain ⟨e,hq⟩ := hq; obtain rfl := sI e; clear e)
  clear hq
  conv=>arg 2; whnf
  replace hN := Lib.hid hN
  go_wp2_with fail
  exact hN.out _ (id ⟨rfl,rfl,rfl,rfl,trivial⟩)
def c_pt_r1 := sp 99 9 cF86
theorem pt_r1_wp (hc:Calls Tryd.prog 85 #[v,.string x] w fun e w'=>e=.returned (.bool bb)∧w'=w) (hN:∀a',Frm 39 [(0,v),(1,.string x),(9,.bool bb)] a'→Q .normal a' w):∀ac,Frm 39 [(0,v),(1,.string x)] ac→Code.wp Tryd.prog c_pt_r1 Q ac w := by
  refine fO (frame_pt ?_)
  intros
  rename_i hq
  iterate 2 (obtain ⟨e,hq⟩ := hq; obtain rfl := sI e; clear e)
  clear hq
  conv=>arg 2; whnf
  have HN := Lib.hid hN
  have HC := Lib.hid hc
  clear hN hc
  go_wp2_with fail
  (with_reducible refine HC.out.mono ?_)
  rintro e w1 ⟨rfl,rfl⟩
  go_wp2_with fail
  exact HN.out _ (by exact fR rfl rfl rfl)
def c_pt_r2 := sp 99 37 cF86
theorem pt_r2_wp (hN:∀a',Frm 39 [(4,v)] a'→Q .normal a' w):∀ac,Frm 39 [(0,v),(1,s_1)] ac→Code.wp Tryd.prog c_pt_r2 Q ac w := by
  refine fO (frame_pt ?_)
  intros
  rename_i hq
  iterate 2 (obtain ⟨e,hq⟩ := hq; obtain rfl := sI e; clear e)
  clear hq
  conv=>arg 2; whnf
  replace hN := Lib.hid hN
  go_wp2_with fail
  exact hN.out _ (id ⟨rfl,rfl,rfl,trivial⟩)
def c_pt_r3 := sp 99 11 cF86
theorem pt_r3_wp (hN:∀a',Frm 39 [(0,v),(1,s_1),(5,.slice none 0 0)] a'→Q .normal a' w):∀ac,Frm 39 [(0,v),(1,s_1)] ac→Code.wp Tryd.prog c_pt_r3 Q ac w := by
  refine fO (frame_pt ?_)
  intros
  rename_i hq
  iterate 2 (obtain ⟨e,hq⟩ := hq; obtain rfl := sI e; clear e)
  clear hq
  conv=>arg 2; whnf
  replace hN := Lib.hid hN
  go_wp2_with fail
  exact hN.out _ (by exact fR rfl rfl rfl)
def c_pt_r4 := sp 99 23 cF86
theorem pt_r4_wp (hN:∀a',Frm 39 [(0,v),(1,s_1),(5,s_5),(6,.int .i64 (0:Nat))] a'→Q .normal a' w):∀ac,Frm 39 [(0,v),(1,s_1),(5,s_5)] ac→Code.wp Tryd.prog c_pt_r4 Q ac w := by
  refine fO (frame_pt ?_)
  intros
  rename_i hq
  iterate 3 (obtain ⟨e,hq⟩ := hq; obtain rfl := sI e; clear e)
  clear hq
  conv=>arg 2; whnf
  replace hN := Lib.hid hN
  go_wp2_with fail
  exact hN.out _ (by exact fR rfl rfl rfl)
def c_pt_r5n := sp 99 527 cF86
theorem pt_r5n_wp (hN:∀a',Frm 39 [(0,Value.slice none 0 0),(1,.string x),(5,s_5),(6,.int .i64 (0:Nat)),(22,.bool false)] a'→Q .normal a' w):∀ac,Frm 39 [(0,Value.slice none 0 0),(1,.string x),(5,s_5),(6,.int .i64 (0:Nat))] ac→Code.wp Tryd.prog c_pt_r5n Q ac w := by
  refine fO (frame_pt ?_)
  intros
  rename_i hq
  iterate 4 (obtain ⟨e,hq⟩ := hq; obtain rfl := sI e; clear e)
  clear hq
  conv=>arg 2; whnf
  replace hN := Lib.hid hN
  go_wp2_with fail
  exact hN.out _ (by exact fR rfl rfl rfl)
def c_pt_r5x := sp 99 527 cF86
theorem pt_r5x_wp (hN:∀a',Frm 39 [(0,.slice (some ⟨g,0,none⟩) n c),(1,.string x),(5,s_5),(6,.int .i64 (n:Nat)),(22,.bool false)] a'→Q .normal a' w):∀ac,Frm 39 [(0,.slice (some ⟨g,0,none⟩) n c),(1,.string x),(5,s_5),(6,.int .i64 (n:Nat))] ac→Code.wp Tryd.prog c_pt_r5x Q ac w := by
  refine fO (frame_pt ?_)
  intros
  rename_i hq
  iterate 4 (obtain ⟨e,hq⟩ := hq; obtain rfl := sI e; clear e)
  clear hq
  conv=>arg 2; whnf
  have t1:decide ((n:Int)<(n:Int))=false := decide_eq_false (by omega)
  have t2:decide (n<n)=false := decide_eq_false (by omega)
  replace hN := Lib.hid hN
  go_wp2_with fail
  exact hN.out _ (by exact fR rfl rfl rfl)
def c_pt_r5 := sp 99 527 cF86
theorem pt_r5_wp (hi:i<n) (hc:w.cell? ⟨g,i,none⟩=some (.string y)) (hbl:g<w.heap.size) (hN:∀a',Frm 39 [(0,.slice (some ⟨g,0,none⟩) n c),(1,.string x),(5,s_5),(6,.int .i64 (i:Nat)),(22,.bool (lessB y x))] a'→Q .normal a' w):∀ac,Frm 39 [(0,.slice (some ⟨g,0,none⟩) n c),(1,.string x),(5,s_5),(6,.int .i64 (i:Nat))] ac→Code.wp Tryd.prog c_pt_r5 Q ac w := by
  refine fO (frame_pt ?_)
  intros
  rename_i hq
  iterate 4 (obtain ⟨e,hq⟩ := hq; obtain rfl := sI e; clear e)
  clear hq
  conv=>arg 2; whnf
  have q0:(0:Int)≤(i:Int) := by omega
  have q1:(i:Int)<(n:Int) := by omega
  have t1:decide ((i:Int)<(n:Int))=true := decide_eq_true (by omega)
  have t2:decide (i<n)=true := decide_eq_true (by omega)
  replace hN := Lib.hid hN
  go_wp2_with fail
  exact hN.out _ (by exact fR rfl rfl rfl)
def c_pt_r6 := sp 99 655 cF86
theorem pt_r6_wp (hi:i≤1000000) (hN:∀a',Frm 39 [(0,v),(1,s_1),(5,s_5),(6,.int .i64 (i+1:Nat))] a'→Q .normal a' w):∀ac,Frm 39 [(0,v),(1,s_1),(5,s_5),(6,.int .i64 (i:Nat))] ac→Code.wp Tryd.prog c_pt_r6 Q ac w := by
  refine fO (frame_pt ?_)
  intros
  rename_i hq
  iterate 4 (obtain ⟨e,hq⟩ := hq; obtain rfl := sI e; clear e)
  clear hq
  conv=>arg 2; whnf
  have hi4:(i:Int)≤9223372036854775806 := by omega
  replace hN := Lib.hid hN
  go_wp2_with fail
  exact hN.out _ (by exact fR rfl rfl rfl)
def c_pt_r7 := sp 99 95 cF86
theorem pt_r7_wp (hB:B≤w.heap.size) (hcell:∀j u,(l.map Value.string)[j]?=some u→w.cell? ⟨g,j,none⟩=some u) (hll:l.length=n) (hnc:n≤c) (hn5:n≤1000000) (hbl:g<w.heap.size) (hi:i≤n) (hN:∀A9 c9 a' w',Frm 39 [(0,.slice (some ⟨g,0,none⟩) n c),(1,s_1),(5,.slice A9 i c9),(6,.int .i64 (i:Nat))] a'→w'.ownsRow B 9 1 (.slice A9 (i) c9) (i) ((l.take i).map .string)→w.grownBy w' (Value.slice none 0 0).ownBlock→((Value.slice A9 (i) c9).ownBlock=(Value.slice none 0 0).ownBlock∨∃k,(Value.slice A9 (i) c9).ownBlock=some k∧w.heap.size≤k)→Q .normal a' w'):∀ac,Frm 39 [(0,.slice (some ⟨g,0,none⟩) n c),(1,s_1),(5,.slice none 0 0),(6,.int .i64 (i:Nat))] ac→Code.wp Tryd.prog c_pt_r7 Q ac w := by
  refine fO (frame_pt ?_)
  intros
  rename_i hq
  iterate 4 (obtain ⟨e,hq⟩ := hq; obtain rfl := sI e; clear e)
  clear hq
  conv=>arg 2; whnf
  obtain ⟨ts,hts,ht0,ht1,ht2⟩ := info_parts infoStr
  have q0:(0:Int)≤(i:Int) := by omega
  have q1:(i:Int)≤(n:Int) := by omega
  have q2:(n:Int)≤(c:Int) := by omega
  have q3:(i:Int)≤(c:Int) := by omega
  have hcx:∀j u,((l.take i).map Value.string)[j]?=some u→w.cell? (Addr.add ⟨g,0,none⟩ j)=some u := by
    intro j u hu
    rw [addr_none,Nat.zero_add]
    refine hcell j u ?_
    rw [List.map_take] at hu
    have hj := (List.getElem?_eq_some_iff.1 hu).1
    rw [List.length_take] at hj
    rwa [List.getElem?_take_of_lt (by omega)] at hu
  have hlt:((l.take i).map Value.string).length=i * 1 := by simp; omega
  have HCX := Lib.hid hcx
  have HLT := Lib.hid hlt
  clear hcx hlt hcell
  replace hN := Lib.hid hN
  go_wp2_with (at_builtin; refine wpList_append_all (w) ?h1 (.tmp 25) (.tmp 28) 26 ?h2 B 9 ts (.string ⟨#[]⟩) 1 16 ?h3 hts ht0 ht1 ht2 ?h4 ?h5 (Value.slice none 0 0) (0) ([]) ?h6 ?h7 (.slice (some ⟨g,0,none⟩) i c) (i) ((l.take i).map .string) ?h8 (HLT.out) (Or.inr ⟨_,_,rfl,HCX.out⟩) (by (intro u hu; rw [List.mem_map] at hu; obtain ⟨s,_,rfl⟩ := hu; rfl)) ?h12 ?h13 ?h14 (w.heap.size) ?h15 (i) ?h16 ?_)
  try (case h1=>rfl)
  try (case h2=>rfl)
  try (case h3=>exact Tryd.underlying26)
  try (case h4=>rfl)
  try (case h5=>omega)
  try (case h6=>rfl)
  try (case h7=>exact World.ownsRow_nil _ _ _ _)
  try (case h8=>first | rfl | (intro h; omega) | (simp; done) | (simp; omega))
  try (case h12=>first | (simp [maxLen]; omega) | (unfold maxLen; omega))
  try (case h13=>omega)
  try (case h14=>first | omega | (simp; omega))
  try (case h15=>first | rfl | simp)
  try (case h16=>omega)
  intro A9 c9 w6 hown3 hgrow hat
  have hgr:w.grownBy w6 (Value.slice none 0 0).ownBlock := hgrow
  have hax:(Value.slice A9 (i) c9).ownBlock=(Value.slice none 0 0).ownBlock∨∃k,(Value.slice A9 (i) c9).ownBlock=some k∧w.heap.size≤k := (by rcases hat with h | h; exact Or.inl h; exact Or.inr ⟨_,h,by first | exact Nat.le_refl _ | (simp; done)⟩)
  clear hgrow hat
  have HOWN3 := Lib.hid hown3
  have HGR := Lib.hid hgr
  have HAX := Lib.hid hax
  clear hown3 hgr hax
  go_wp2_with fail
  exact hN.out _ _ _ _ (by exact fR rfl rfl rfl) (by simpa using HOWN3.out) HGR.out HAX.out
def c_pt_r7n := sp 99 95 cF86
theorem pt_r7n_wp (hB:B≤w.heap.size) (hN:∀A9 c9 a' w',Frm 39 [(0,Value.slice none 0 0),(1,s_1),(5,.slice A9 0 c9),(6,.int .i64 (0:Nat))] a'→w'.ownsRow B 9 1 (.slice A9 (0) c9) (0) ([])→w.grownBy w' (Value.slice none 0 0).ownBlock→((Value.slice A9 (0) c9).ownBlock=(Value.slice none 0 0).ownBlock∨∃k,(Value.slice A9 (0) c9).ownBlock=some k∧w.heap.size≤k)→Q .normal a' w'):∀ac,Frm 39 [(0,Value.slice none 0 0),(1,s_1),(5,.slice none 0 0),(6,.int .i64 (0:Nat))] ac→Code.wp Tryd.prog c_pt_r7n Q ac w := by
  refine fO (frame_pt ?_)
  intros
  rename_i hq
  iterate 4 (obtain ⟨e,hq⟩ := hq; obtain rfl := sI e; clear e)
  clear hq
  conv=>arg 2; whnf
  obtain ⟨ts,hts,ht0,ht1,ht2⟩ := info_parts infoStr
  replace hN := Lib.hid hN
  go_wp2_with (at_builtin; refine wpList_append_all (w) ?h1 (.tmp 25) (.tmp 28) 26 ?h2 B 9 ts (.string ⟨#[]⟩) 1 16 ?h3 hts ht0 ht1 ht2 ?h4 ?h5 (Value.slice none 0 0) (0) ([]) ?h6 ?h7 (.slice none 0 0) (0) ([]) ?h8 (rfl) (Or.inl ⟨rfl,_,rfl⟩) (by (intro u hu; cases hu)) ?h12 ?h13 ?h14 (w.heap.size) ?h15 (0) ?h16 ?_)
  try (case h1=>rfl)
  try (case h2=>rfl)
  try (case h3=>exact Tryd.underlying26)
  try (case h4=>rfl)
  try (case h5=>omega)
  try (case h6=>rfl)
  try (case h7=>exact World.ownsRow_nil _ _ _ _)
  try (case h8=>first | rfl | (intro h; omega) | (simp; done) | (simp; omega))
  try (case h12=>first | (simp [maxLen]; omega) | (unfold maxLen; omega))
  try (case h13=>omega)
  try (case h14=>first | omega | (simp; omega))
  try (case h15=>first | rfl | simp)
  try (case h16=>omega)
  intro A9 c9 w6 hown3 hgrow hat
  have hgr:w.grownBy w6 (Value.slice none 0 0).ownBlock := hgrow
  have hax:(Value.slice A9 (0) c9).ownBlock=(Value.slice none 0 0).ownBlock∨∃k,(Value.slice A9 (0) c9).ownBlock=some k∧w.heap.size≤k := (by rcases hat with h | h; exact Or.inl h; exact Or.inr ⟨_,h,by first | exact Nat.le_refl _ | (simp; done)⟩)
  clear hgrow hat
  have HOWN3 := Lib.hid hown3
  have HGR := Lib.hid hgr
  have HAX := Lib.hid hax
  clear hown3 hgr hax
  go_wp2_with fail
  exact hN.out _ _ _ _ (by exact fR rfl rfl rfl) (by simpa using HOWN3.out) HGR.out HAX.out
def c_pt_r8 := sp 99 191 cF86
theorem pt_r8_wp (hB:B≤w.heap.size) (hk8:k8≤1000000) (hown:w.ownsRow B 9 1 (.slice A8 k8 c8) k8 xs) (hN:∀A9 c9 a' w',Frm 39 [(0,v),(1,.string x),(5,.slice A9 (k8+1) c9),(6,s_6)] a'→w'.ownsRow B 9 1 (.slice A9 (k8+1) c9) (k8+1) (xs++[.string x])→w.grownBy w' (Value.slice A8 k8 c8).ownBlock→((Value.slice A9 (k8+1) c9).ownBlock=(Value.slice A8 k8 c8).ownBlock∨∃k,(Value.slice A9 (k8+1) c9).ownBlock=some k∧w.heap.size≤k)→Q .normal a' w'):∀ac,Frm 39 [(0,v),(1,.string x),(5,.slice A8 k8 c8),(6,s_6)] ac→Code.wp Tryd.prog c_pt_r8 Q ac w := by
  refine fO (frame_pt ?_)
  intros
  rename_i hq
  iterate 4 (obtain ⟨e,hq⟩ := hq; obtain rfl := sI e; clear e)
  clear hq
  conv=>arg 2; whnf
  obtain ⟨ts,hts,ht0,ht1,ht2⟩ := info_parts infoStr
  replace hown := Lib.hid hown
  replace hN := Lib.hid hN
  go_wp2_with (at_builtin; refine wpList_append_all (w.alloc (.cells #[.string x] 9)) ?h1 (.tmp 30) (.tmp 32) 26 ?h2 B 9 ts (.string ⟨#[]⟩) 1 16 ?h3 hts ht0 ht1 ht2 ?h4 ?h5 (.slice A8 k8 c8) (k8) (xs) ?h6 ?h7 (.slice (some ⟨w.heap.size,0,none⟩) 1 1) (1) ([.string x]) ?h8 (rfl) (Or.inr ⟨_,_,rfl,World.news_of_block (cs := #[.string x]) (t := 9) (fr := (0,0)) (heap_alloc_new w _)⟩) (by simp [Value.oneCell']) ?h12 ?h13 ?h14 (w.heap.size+1) ?h15 (k8+1) ?h16 ?_)
  try (case h1=>rfl)
  try (case h2=>rfl)
  try (case h3=>exact Tryd.underlying26)
  try (case h4=>rfl)
  try (case h5=>omega)
  try (case h6=>rfl)
  try (case h7=>exact hown.out.alloc _)
  try (case h8=>first | rfl | (intro h; omega) | (simp; done) | (simp; omega))
  try (case h12=>first | (simp [maxLen]; omega) | (unfold maxLen; omega))
  try (case h13=>omega)
  try (case h14=>first | omega | (simp; omega))
  try (case h15=>first | rfl | simp)
  try (case h16=>omega)
  intro A9 c9 w6 hown3 hgrow hat
  have hgr:w.grownBy w6 (Value.slice A8 k8 c8).ownBlock := ⟨hgrow.os,hgrow.tape,hgrow.output,by have := hgrow.size; simp at this; omega,fun k hk hne=>(hgrow.block k (by simp; omega) hne).trans (heap_old hk rfl)⟩
  have hax:(Value.slice A9 (k8+1) c9).ownBlock=(Value.slice A8 k8 c8).ownBlock∨∃k,(Value.slice A9 (k8+1) c9).ownBlock=some k∧w.heap.size≤k := (by rcases hat with h | h; exact Or.inl h; exact Or.inr ⟨_,h,by first | exact Nat.le_refl _ | (simp; done) | omega⟩)
  clear hgrow hat
  have HOWN3 := Lib.hid hown3
  have HGR := Lib.hid hgr
  have HAX := Lib.hid hax
  clear hown3 hgr hax
  go_wp2_with fail
  exact hN.out _ _ _ _ (by exact fR rfl rfl rfl) (by simpa using HOWN3.out) HGR.out HAX.out
def c_pt_r9 := sp 99 383 cF86
theorem pt_r9_wp (hB:B≤w.heap.size) (hcell:∀j u,(l.map Value.string)[j]?=some u→w.cell? ⟨g,j,none⟩=some u) (hll:l.length=n) (hnc:n≤c) (hn5:n≤1000000) (hbl:g<w.heap.size) (hi:i≤n) (hic:i<c) (hk8:k8≤1000001) (hown:w.ownsRow B 9 1 (.slice A8 k8 c8) k8 xs) (hN:∀A9 c9 a' w',Frm 39 [(4,.slice A9 (k8+(n - i)) c9)] a'→w'.ownsRow B 9 1 (.slice A9 (k8+(n - i)) c9) (k8+(n - i)) (xs++(l.drop i).map .string)→w.grownBy w' (Value.slice A8 k8 c8).ownBlock→((Value.slice A9 (k8+(n - i)) c9).ownBlock=(Value.slice A8 k8 c8).ownBlock∨∃k,(Value.slice A9 (k8+(n - i)) c9).ownBlock=some k∧w.heap.size≤k)→Q .normal a' w'):∀ac,Frm 39 [(0,.slice (some ⟨g,0,none⟩) n c),(1,s_1),(5,.slice A8 k8 c8),(6,.int .i64 (i:Nat))] ac→Code.wp Tryd.prog c_pt_r9 Q ac w := by
  refine fO (frame_pt ?_)
  intros
  rename_i hq
  iterate 4 (obtain ⟨e,hq⟩ := hq; obtain rfl := sI e; clear e)
  clear hq
  conv=>arg 2; whnf
  obtain ⟨ts,hts,ht0,ht1,ht2⟩ := info_parts infoStr
  have q0:(0:Int)≤(i:Int) := by omega
  have q1:(i:Int)≤(n:Int) := by omega
  have q2:(n:Int)≤(c:Int) := by omega
  have q3:(i:Int)≤(c:Int) := by omega
  have hcx:∀j u,((l.drop i).map Value.string)[j]?=some u→w.cell? (Addr.add ⟨g,i,none⟩ j)=some u := by
    intro j u hu
    rw [addr_none]
    refine hcell (i+j) u ?_
    rwa [List.map_drop,List.getElem?_drop] at hu
  have hlt:((l.drop i).map Value.string).length=(n - i) * 1 := by simp; omega
  have HCX := Lib.hid hcx
  have HLT := Lib.hid hlt
  clear hcx hlt hcell
  replace hown := Lib.hid hown
  replace hN := Lib.hid hN
  go_wp2_with (at_builtin; refine wpList_append_all (w) ?h1 (.tmp 34) (.tmp 37) 26 ?h2 B 9 ts (.string ⟨#[]⟩) 1 16 ?h3 hts ht0 ht1 ht2 ?h4 ?h5 (.slice A8 k8 c8) (k8) (xs) ?h6 ?h7 (.slice (some ⟨g,i,none⟩) (n - i) (c - i)) (n - i) ((l.drop i).map .string) ?h8 (HLT.out) (Or.inr ⟨_,_,rfl,HCX.out⟩) (by (intro u hu; rw [List.mem_map] at hu; obtain ⟨s,_,rfl⟩ := hu; rfl)) ?h12 ?h13 ?h14 (w.heap.size) ?h15 (k8+(n - i)) ?h16 ?_)
  try (case h1=>rfl)
  try (case h2=>rfl)
  try (case h3=>exact Tryd.underlying26)
  try (case h4=>rfl)
  try (case h5=>omega)
  try (case h6=>rfl)
  try (case h7=>exact hown.out)
  try (case h8=>first | rfl | (intro h; omega) | (simp; done) | (simp; omega))
  try (case h12=>first | (simp [maxLen]; omega) | (unfold maxLen; omega))
  try (case h13=>omega)
  try (case h14=>first | omega | (simp; omega))
  try (case h15=>first | rfl | simp)
  try (case h16=>omega)
  intro A9 c9 w6 hown3 hgrow hat
  have hgr:w.grownBy w6 (Value.slice A8 k8 c8).ownBlock := hgrow
  have hax:(Value.slice A9 (k8+(n - i)) c9).ownBlock=(Value.slice A8 k8 c8).ownBlock∨∃k,(Value.slice A9 (k8+(n - i)) c9).ownBlock=some k∧w.heap.size≤k := (by rcases hat with h | h; exact Or.inl h; exact Or.inr ⟨_,h,by first | exact Nat.le_refl _ | (simp; done)⟩)
  clear hgrow hat
  have HOWN3 := Lib.hid hown3
  have HGR := Lib.hid hgr
  have HAX := Lib.hid hax
  clear hown3 hgr hax
  go_wp2_with fail
  exact hN.out _ _ _ _ (id ⟨rfl,rfl,rfl,trivial⟩) (by simpa using HOWN3.out) HGR.out HAX.out
def c_pt_r9e := sp 99 383 cF86
theorem pt_r9e_wp (hB:B≤w.heap.size) (hi5:i≤1000000) (hk8:k8≤1000001) (hown:w.ownsRow B 9 1 (.slice A8 k8 c8) k8 xs) (hN:∀A9 c9 a' w',Frm 39 [(4,.slice A9 k8 c9)] a'→w'.ownsRow B 9 1 (.slice A9 (k8) c9) (k8) (xs)→w.grownBy w' (Value.slice A8 k8 c8).ownBlock→((Value.slice A9 (k8) c9).ownBlock=(Value.slice A8 k8 c8).ownBlock∨∃k,(Value.slice A9 (k8) c9).ownBlock=some k∧w.heap.size≤k)→Q .normal a' w'):∀ac,Frm 39 [(0,.slice (some ⟨g,0,none⟩) i i),(1,s_1),(5,.slice A8 k8 c8),(6,.int .i64 (i:Nat))] ac→Code.wp Tryd.prog c_pt_r9e Q ac w := by
  refine fO (frame_pt ?_)
  intros
  rename_i hq
  iterate 4 (obtain ⟨e,hq⟩ := hq; obtain rfl := sI e; clear e)
  clear hq
  conv=>arg 2; whnf
  obtain ⟨ts,hts,ht0,ht1,ht2⟩ := info_parts infoStr
  have q0:(0:Int)≤(i:Int) := by omega
  replace hown := Lib.hid hown
  replace hN := Lib.hid hN
  go_wp2_with (at_builtin; refine wpList_append_all (w) ?h1 (.tmp 34) (.tmp 37) 26 ?h2 B 9 ts (.string ⟨#[]⟩) 1 16 ?h3 hts ht0 ht1 ht2 ?h4 ?h5 (.slice A8 k8 c8) (k8) (xs) ?h6 ?h7 (.slice (some ⟨g,0,none⟩) 0 0) (0) ([]) ?h8 (rfl) (Or.inr ⟨_,_,rfl,by simp⟩) (by (intro u hu; cases hu)) ?h12 ?h13 ?h14 (w.heap.size) ?h15 (k8) ?h16 ?_)
  try (case h1=>rfl)
  try (case h2=>rfl)
  try (case h3=>exact Tryd.underlying26)
  try (case h4=>rfl)
  try (case h5=>omega)
  try (case h6=>rfl)
  try (case h7=>exact hown.out)
  try (case h8=>first | rfl | (intro h; omega) | (simp; done) | (simp; omega))
  try (case h12=>first | (simp [maxLen]; omega) | (unfold maxLen; omega))
  try (case h13=>omega)
  try (case h14=>first | omega | (simp; omega))
  try (case h15=>first | rfl | simp)
  try (case h16=>omega)
  intro A9 c9 w6 hown3 hgrow hat
  have hgr:w.grownBy w6 (Value.slice A8 k8 c8).ownBlock := hgrow
  have hax:(Value.slice A9 (k8) c9).ownBlock=(Value.slice A8 k8 c8).ownBlock∨∃k,(Value.slice A9 (k8) c9).ownBlock=some k∧w.heap.size≤k := (by rcases hat with h | h; exact Or.inl h; exact Or.inr ⟨_,h,by first | exact Nat.le_refl _ | (simp; done)⟩)
  clear hgrow hat
  have HOWN3 := Lib.hid hown3
  have HGR := Lib.hid hgr
  have HAX := Lib.hid hax
  clear hown3 hgr hax
  go_wp2_with fail
  exact hN.out _ _ _ _ (id ⟨rfl,rfl,rfl,trivial⟩) (by simpa using HOWN3.out) HGR.out HAX.out
def c_pt_r9n := sp 99 383 cF86
theorem pt_r9n_wp (hB:B≤w.heap.size) (hk8:k8≤1000001) (hown:w.ownsRow B 9 1 (.slice A8 k8 c8) k8 xs) (hN:∀A9 c9 a' w',Frm 39 [(4,.slice A9 k8 c9)] a'→w'.ownsRow B 9 1 (.slice A9 (k8) c9) (k8) (xs)→w.grownBy w' (Value.slice A8 k8 c8).ownBlock→((Value.slice A9 (k8) c9).ownBlock=(Value.slice A8 k8 c8).ownBlock∨∃k,(Value.slice A9 (k8) c9).ownBlock=some k∧w.heap.size≤k)→Q .normal a' w'):∀ac,Frm 39 [(0,Value.slice none 0 0),(1,s_1),(5,.slice A8 k8 c8),(6,.int .i64 (0:Nat))] ac→Code.wp Tryd.prog c_pt_r9n Q ac w := by
  refine fO (frame_pt ?_)
  intros
  rename_i hq
  iterate 4 (obtain ⟨e,hq⟩ := hq; obtain rfl := sI e; clear e)
  clear hq
  conv=>arg 2; whnf
  obtain ⟨ts,hts,ht0,ht1,ht2⟩ := info_parts infoStr
  replace hown := Lib.hid hown
  replace hN := Lib.hid hN
  go_wp2_with (at_builtin; refine wpList_append_all (w) ?h1 (.tmp 34) (.tmp 37) 26 ?h2 B 9 ts (.string ⟨#[]⟩) 1 16 ?h3 hts ht0 ht1 ht2 ?h4 ?h5 (.slice A8 k8 c8) (k8) (xs) ?h6 ?h7 (.slice none 0 0) (0) ([]) ?h8 (rfl) (Or.inl ⟨rfl,_,rfl⟩) (by (intro u hu; cases hu)) ?h12 ?h13 ?h14 (w.heap.size) ?h15 (k8) ?h16 ?_)
  try (case h1=>rfl)
  try (case h2=>rfl)
  try (case h3=>exact Tryd.underlying26)
  try (case h4=>rfl)
  try (case h5=>omega)
  try (case h6=>rfl)
  try (case h7=>exact hown.out)
  try (case h8=>first | rfl | (intro h; omega) | (simp; done) | (simp; omega))
  try (case h12=>first | (simp [maxLen]; omega) | (unfold maxLen; omega))
  try (case h13=>omega)
  try (case h14=>first | omega | (simp; omega))
  try (case h15=>first | rfl | simp)
  try (case h16=>omega)
  intro A9 c9 w6 hown3 hgrow hat
  have hgr:w.grownBy w6 (Value.slice A8 k8 c8).ownBlock := hgrow
  have hax:(Value.slice A9 (k8) c9).ownBlock=(Value.slice A8 k8 c8).ownBlock∨∃k,(Value.slice A9 (k8) c9).ownBlock=some k∧w.heap.size≤k := (by rcases hat with h | h; exact Or.inl h; exact Or.inr ⟨_,h,by first | exact Nat.le_refl _ | (simp; done)⟩)
  clear hgrow hat
  have HOWN3 := Lib.hid hown3
  have HGR := Lib.hid hgr
  have HAX := Lib.hid hax
  clear hown3 hgr hax
  go_wp2_with fail
  exact hN.out _ _ _ _ (id ⟨rfl,rfl,rfl,trivial⟩) (by simpa using HOWN3.out) HGR.out HAX.out
theorem pt_ret_wp {vv:Value} (hR:R (.returned (vv)) w'):∀ac,Frm 39 [(4,vv)] ac→bodyPost Tryd.prog Tryd.f86 R .ret ac w' := by
  refine fO (frame_pt ?_)
  intros
  rename_i hq
  iterate 1 (obtain ⟨e,hq⟩ := hq; obtain rfl := sI e; clear e)
  clear hq
  refine bodyPost_ret (v := vv) (by simp [results,Tryd.results86,go_sem]) rfl ?_
  exact hR
end
noncomputable section
set_option maxRecDepth 100000
set_option maxHeartbeats 4000000
variable {w:World} {B g n c:Nat} {l:List ByteArray}

theorem tw_take {α:Type} (p:α→Bool) (l:List α) (i:Nat) (h1:∀y∈l.take i,p y=true) (h2:∀y,(l.drop i).head?=some y→p y=false):l.takeWhile p=l.take i∧l.dropWhile p=l.drop i := by
  have e:l=l.take i++l.drop i := (List.take_append_drop i l).symm
  constructor
  · conv=>lhs; rw [e]
    rw [List.takeWhile_append_of_pos h1]
    cases hd:l.drop i with
    | nil=>simp
    | cons y r=>rw [List.takeWhile_cons_of_neg (by rw [h2 y (by rw [hd]; rfl)]; decide),List.append_nil]
  · conv=>lhs; rw [e]
    rw [List.dropWhile_append_of_pos h1]
    cases hd:l.drop i with
    | nil=>simp
    | cons y r=>rw [List.dropWhile_cons_of_neg (by rw [h2 y (by rw [hd]; rfl)]; decide)]
theorem row_cells (h:w.ownsRow B 9 1 (.slice (some ⟨g,0,none⟩) n c) n (l.map .string)) (hn:l.length=n):(∀j u,(l.map Value.string)[j]?=some u→w.cell? ⟨g,j,none⟩=some u)∧n≤c∧g<w.heap.size := by
  obtain ⟨_,⟨e,e0⟩ | ⟨g',cap,cur,e,hg,hh,h1,h2,h3,h4⟩⟩ := h
  · cases e
  · injection e with e1 e2 e3
    injection e1 with e1
    injection e1 with e1 _ _
    subst e1 e3
    refine ⟨fun j u hu=>?_,h1,lt_heap hh⟩
    have hj:j<n := by
      have := (List.getElem?_eq_some_iff.1 hu).1
      simpa [hn] using this
    have h5:cur[j]?=some u := by
      rw [← Array.getElem?_toList,← List.getElem?_take_of_lt hj]
      rw [Nat.mul_one] at h4
      rw [h4]; exact hu
    simp only [World.cell?,hh]
    simpa using h5
def c_pt_loop := sp 99 79 cF86
theorem pt_loop_wp {Q:Exit→Act→World→Prop} {x:ByteArray} (hcell:∀j u,(l.map Value.string)[j]?=some u→w.cell? ⟨g,j,none⟩=some u) (hn:l.length=n) (hn5:n≤1000000) (hbl:g<w.heap.size)
    (hX:∀i a',i≤n→l.takeWhile (fun y=>lessB y x)=l.take i→l.dropWhile (fun y=>lessB y x)=l.drop i→Frm 39 [(0,.slice (some ⟨g,0,none⟩) n c),(1,.string x),(5,.slice none 0 0),(6,.int .i64 (i:Nat))] a'→Q (.exit 0) a' w):∀ac,Frm 39 [(0,.slice (some ⟨g,0,none⟩) n c),(1,.string x),(5,.slice none 0 0),(6,.int .i64 (0:Nat))] ac→Code.wp Tryd.prog c_pt_loop Q ac w := by
  intro a0 hf0
  conv=>arg 2; whnf
  refine wp_loopR (fun gg a' w'=>∃i:Nat,i+gg=n∧(∀y∈l.take i,lessB y x=true)∧w'=w∧Frm 39 [(0,.slice (some ⟨g,0,none⟩) n c),(1,.string x),(5,.slice none 0 0),(6,.int .i64 (i:Nat))] a') n ⟨0,by omega,by simp,rfl,hf0⟩ ?_
  rintro gg a1 w1 ⟨i,hig,hall,rfl,h1⟩
  refine wp_seq ?_
  refine wp_seq ?_
  by_cases hi:i<n
  case neg =>
    obtain rfl:i=n := by omega
    refine pt_r5x_wp (fun a2 h2=>?_) a1 h1
    refine wp_cond_false ((h2.eval (k := 22) (v := .bool false) (by simp)).trans (by rw [show false=false from rfl])) ?_
    obtain ⟨e1,e2⟩ := tw_take (fun y=>lessB y x) l i hall (fun y hy=>by rw [List.drop_of_length_le (by omega)] at hy; cases hy)
    exact wp_exit (hX i a2 (Nat.le_refl _) e1 e2 (h2.pick [0,1,2,3]))
  have hil:i<l.length := by omega
  have hcx:w1.cell? ⟨g,i,none⟩=some (.string l[i]) := hcell i _ (by rw [List.getElem?_map,List.getElem?_eq_getElem hil]; rfl)
  refine pt_r5_wp hi hcx hbl (fun a2 h2=>?_) a1 h1
  cases hp:lessB l[i] x
  · refine wp_cond_false ((h2.eval (k := 22) (v := .bool (lessB l[i] x)) (by simp)).trans (by rw [hp])) ?_
    obtain ⟨e1,e2⟩ := tw_take (fun y=>lessB y x) l i hall (fun y hy=>by rw [List.drop_eq_getElem_cons hil] at hy; injection hy with hy; rw [← hy]; exact hp)
    exact wp_exit (hX i a2 (by omega) e1 e2 (h2.pick [0,1,2,3]))
  · refine wp_cond_true ((h2.eval (k := 22) (v := .bool (lessB l[i] x)) (by simp)).trans (by rw [hp])) ?_
    refine wp_skip ?_
    show Code.wp _ _ _ a2 w1
    refine wp_block ?_
    refine pt_r6_wp (by omega) (fun a3 h3=>?_) a2 (h2.pick [0,1,2,3])
    refine ⟨gg - 1,by omega,i+1,by omega,?_,rfl,h3⟩
    intro y hy
    rw [List.take_succ_eq_append_getElem hil] at hy
    rcases List.mem_append.1 hy with hy | hy
    · exact hall y hy
    · simp at hy; rw [hy]; exact hp
theorem refPut_any {v:Value} (x:ByteArray) (hB:B≤w.heap.size) (h:w.ownsRow B 9 1 v l.length (l.map .string)) (hz:∀s∈l,s.size≤maxLen) (hl:l.length≤1000000) :
    Calls Tryd.prog 86 #[v,.string x] w fun e w'=>∃v',e=.returned v'∧w'.ownsRow B 9 1 v' (putB l x).length ((putB l x).map .string)∧Below w.heap.size w w' := by
  have hsl := sl_of_row (S := fun k=>k<w.heap.size) h hz (by unfold maxLen; omega) (fun k hk=>(h.lt k hk).2)
  obtain ⟨D,m,e,rfl,hlen,_⟩ := id hsl
  have hhas := refHas_any hsl (fun _ hk=>hk) x
  have fin:∀(a':Act) (w':World) (v':Value),Frm 39 [(4,v')] a'→w'.ownsRow B 9 1 v' (putB l x).length ((putB l x).map .string)→Below w.heap.size w w'→bodyPost Tryd.prog Tryd.f86 (fun e w'=>∃v',e=.returned v'∧w'.ownsRow B 9 1 v' (putB l x).length ((putB l x).map .string)∧Below w.heap.size w w') .ret a' w' := fun a' w' v' hf hr hb=>pt_ret_wp ⟨v',rfl,hr,hb⟩ a' hf
  go_enter Tryd.func86,Tryd.ntmps86
  refine wp_seq ?_
  refine pt_r0_wp (fun a0 h0=>?_) _ (id ⟨rfl,rfl,rfl,rfl,trivial⟩)
  refine wp_seq ?_
  refine wp_seq ?_
  refine pt_r1_wp hhas (fun a1 h1=>?_) a0 h0
  cases hb:hasB l x
  case true =>
    rw [hb] at h1
    refine wp_cond_true ((h1.eval (k := 9) (v := .bool true) (by simp)).trans (by rw [show true=true from rfl])) ?_
    refine wp_seq ?_
    refine pt_r2_wp (fun a2 h2=>?_) a1 (h1.pick [0,1])
    refine wp_ret ?_
    refine fin a2 w _ h2 ?_ (Below.refl _ _)
    have e1:putB l x=l := by unfold putB; rw [if_pos hb]
    rw [e1]
    exact h
  rw [hb] at h1
  refine wp_cond_false ((h1.eval (k := 9) (v := .bool false) (by simp)).trans (by rw [show false=false from rfl])) ?_
  refine wp_skip ?_
  show Code.wp _ _ _ a1 w
  have eput:∀i,l.takeWhile (fun y=>lessB y x)=l.take i→l.dropWhile (fun y=>lessB y x)=l.drop i→putB l x=l.take i++x :: l.drop i := fun i e1 e2=>by
    unfold putB; rw [if_neg (by rw [hb]; decide),e1,e2]
  refine wp_seq ?_
  refine pt_r3_wp (fun a2 h2=>?_) a1 (h1.pick [0,1])
  refine wp_seq ?_
  refine pt_r4_wp (fun a3 h3=>?_) a2 h2
  refine wp_seq ?_
  refine wp_block ?_
  have hbz:∀{w1 w2:World} {u:Value},w.heap.size≤w1.heap.size→w1.grownBy w2 u.ownBlock→(∀k,u.ownBlock=some k→w.heap.size≤k)→Below w.heap.size w1 w2 := fun hs hg hk=>⟨hg.os,hg.tape,hg.output,hg.size,fun k hlt=>hg.block k (by omega) (fun e=>by have := hk k e.symm; omega)⟩
  obtain ⟨_,⟨ev,e0⟩ | ⟨g,cap,cur,ev,hg,hh,_⟩⟩ := id h
  · injection ev with ev1 ev2 ev3
    obtain rfl:l=[] := List.length_eq_zero_iff.1 e0
    subst ev1 ev3
    obtain rfl:m=0 := hlen.symm
    clear ev2
    refine wp_loopR (fun _ a' w'=>w'=w∧Frm 39 [(0,Value.slice none 0 0),(1,.string x),(5,.slice none 0 0),(6,.int .i64 (0:Nat))] a') 0 ⟨rfl,h3⟩ ?_
    rintro _ a4 w4 ⟨rfl,h4⟩
    refine wp_seq ?_
    refine wp_seq ?_
    refine pt_r5n_wp (fun a5 h5=>?_) a4 h4
    refine wp_cond_false ((h5.eval (k := 22) (v := .bool false) (by simp)).trans (by rw [show false=false from rfl])) ?_
    refine wp_exit ?_
    repeat refine then_exit ?_
    refine inBlock_exit ?_
    show Code.wp _ _ _ a5 w4
    refine wp_seq ?_
    refine pt_r7n_wp (B := B) hB (fun A7 c7 a6 w6 h6 hr6 hg6 hx6=>?_) a5 (h5.pick [0,1,2,3])
    have hk6:∀k,(Value.slice A7 0 c7).ownBlock=some k→w4.heap.size≤k := fun k e=>by
      rcases hx6 with hx | ⟨k',e',hle⟩
      · rw [hx] at e; cases e
      · rw [e'] at e; injection e with e; omega
    have hb6 := hbz (u := Value.slice none 0 0) (Nat.le_refl _) hg6 (fun k e=>by cases e)
    have hs6 := hb6.size
    refine wp_seq ?_
    refine pt_r8_wp (B := B) (by omega) (by omega) hr6 (fun A8 c8 a7 w7 h7 hr7 hg7 hx7=>?_) a6 h6
    have hb7 := hb6.trans (hbz hs6 hg7 hk6)
    have hs7 := hb7.size
    have hk7:∀k,(Value.slice A8 (0+1) c8).ownBlock=some k→w4.heap.size≤k := fun k e=>by
      rcases hx7 with hx | ⟨k',e',hle⟩
      · rw [hx] at e; exact hk6 k e
      · rw [e'] at e; injection e with e; omega
    refine wp_seq ?_
    refine pt_r9n_wp (B := B) (by omega) (by omega) hr7 (fun A9 c9 a8 w8 h8 hr8 hg8 hx8=>?_) a7 h7
    refine wp_ret ?_
    refine fin a8 w8 _ h8 ?_ (hb7.trans (hbz hs7 hg8 hk7))
    rw [eput 0 rfl rfl]
    exact hr8
  · injection ev with ev1 ev2 ev3
    subst ev1
    obtain ⟨hcell,hnc,hbl⟩ := row_cells (by rw [← hlen]; rw [hlen] at h ⊢; exact h) hlen
    refine pt_loop_wp hcell hlen (by omega) hbl (fun i a4 hi e1 e2 h4=>?_) a3 h3
    refine inBlock_exit ?_
    show Code.wp _ _ _ a4 w
    refine wp_seq ?_
    refine pt_r7_wp (B := B) hB hcell hlen hnc (by omega) hbl hi (fun A7 c7 a6 w6 h6 hr6 hg6 hx6=>?_) a4 h4
    have hk6:∀k,(Value.slice A7 i c7).ownBlock=some k→w.heap.size≤k := fun k e=>by
      rcases hx6 with hx | ⟨k',e',hle⟩
      · rw [hx] at e; cases e
      · rw [e'] at e; injection e with e; omega
    have hb6 := hbz (u := Value.slice none 0 0) (Nat.le_refl _) hg6 (fun k e=>by cases e)
    have hs6 := hb6.size
    refine wp_seq ?_
    refine pt_r8_wp (B := B) (by omega) (by omega) hr6 (fun A8 c8 a7 w7 h7 hr7 hg7 hx7=>?_) a6 h6
    have hb7 := hb6.trans (hbz hs6 hg7 hk6)
    have hs7 := hb7.size
    have hk7:∀k,(Value.slice A8 (i+1) c8).ownBlock=some k→w.heap.size≤k := fun k e=>by
      rcases hx7 with hx | ⟨k',e',hle⟩
      · rw [hx] at e; exact hk6 k e
      · rw [e'] at e; injection e with e; omega
    have hcell7:∀j u,(l.map Value.string)[j]?=some u→w7.cell? ⟨g,j,none⟩=some u := fun j u hu=>(cell_keep (hb7.block g hbl) _).trans (hcell j u hu)
    refine wp_seq ?_
    have hlist:(putB l x).map Value.string=(l.take i).map .string++[.string x]++(l.drop i).map .string := by rw [eput i e1 e2]; simp
    have hll:(putB l x).length=i+1+(m - i) := by rw [eput i e1 e2]; simp; omega
    by_cases hic:i<e
    · refine pt_r9_wp (B := B) (by omega) hcell7 hlen hnc (by omega) (by omega) hi hic (by omega) hr7 (fun A9 c9 a8 w8 h8 hr8 hg8 hx8=>?_) a7 h7
      refine wp_ret ?_
      refine fin a8 w8 _ h8 ?_ (hb7.trans (hbz hs7 hg8 hk7))
      rw [hll,hlist]
      exact hr8
    · obtain rfl:i=m := by omega
      obtain rfl:i=e := by omega
      refine pt_r9e_wp (B := B) (by omega) (by omega) (by omega) hr7 (fun A9 c9 a8 w8 h8 hr8 hg8 hx8=>?_) a7 h7
      refine wp_ret ?_
      refine fin a8 w8 _ h8 ?_ (hb7.trans (hbz hs7 hg8 hk7))
      rw [hll,hlist,List.drop_of_length_le (by omega)]
      simpa using hr8
end
noncomputable section
set_option maxRecDepth 1000000
set_option maxHeartbeats 16000000
variable {B0 n1 c1 n2 c2 m e i b o:Nat} {l bd:List ByteArray} {v s_3 s_11 s_12 s_13 s_41 s_42:Value} {wo w w':World} {kd:Int} {nm s:ByteArray} {A D:Option Addr} {Q:Exit→Act→World→Prop} {PP:Value→World→Prop} {S:Nat→Prop}

theorem frame_cs {P:Act→Prop} (h:∀x0 x1 x2 x3 x4 x5 x6 x7 x8 x9 x10 x11 x12 x13 x14 x15 x16 x17 x18 x19 x20 x21 x22 x23 x24 x25 x26 x27 x28 x29 x30 x31 x32 x33 x34 x35 x36 x37 x38 x39 x40 x41 x42 x43 x44 x45 x46 x47 x48 x49 x50 x51 x52 x53 x54 x55:Value,P ⟨(x0 :: x1 :: x2 :: x3 :: x4 :: x5 :: x6 :: x7 :: x8 :: x9 :: x10 :: x11 :: x12 :: x13 :: x14 :: x15 :: x16 :: x17 :: x18 :: x19 :: x20 :: x21 :: x22 :: x23 :: x24 :: x25 :: x26 :: x27 :: x28 :: x29 :: x30 :: x31 :: x32 :: x33 :: x34 :: x35 :: x36 :: x37 :: x38 :: x39 :: x40 :: x41 :: x42 :: x43 :: x44 :: x45 :: x46 :: x47 :: x48 :: x49 :: x50 :: x51 :: x52 :: x53 :: x54 :: x55 :: []).toArray,[]⟩):∀a:Act,a.tmps.toList.length=56→a.defers=[]→P a := by
  rintro ⟨⟨l⟩,d⟩ hs hd
  simp only at hd
  subst hd
  revert l
  show ∀l:List Value,l.length=56→P ⟨⟨l⟩,[]⟩
  iterate 56 refine openS (fun _=>?_)
  refine open0 ?_
  exact h ..
structure CT (B0:Nat) (wo w:World) (v:Value) (l:List ByteArray) (kd:Int) (nm:ByteArray) (A:Option Addr) (n1 c1:Nat) (B:Option Addr) (n2 c2:Nat):Prop where
  a:w.heap[wo.heap.size]?=some (.cells #[.int .i64 kd,.string nm,.slice A n1 c1,.slice B n2 c2] 29 (0,0))
  r:w.ownsRow B0 9 1 v l.length (l.map .string)
  z:∀s∈l,s.size≤maxLen
  b:Below wo.heap.size wo w
theorem CT.step {l':List ByteArray} {v':Value} {B:Option Addr} (h:CT B0 wo w v l kd nm A n1 c1 B n2 c2) (hb:Below w.heap.size w w') (hr:w'.ownsRow B0 9 1 v' l'.length (l'.map .string)) (hz:∀s∈l',s.size≤maxLen):CT B0 wo w' v' l' kd nm A n1 c1 B n2 c2 :=
  ⟨(hb.block _ (lt_heap h.a)).trans h.a,hr,hz,h.b.trans (hb.mono h.b.size)⟩
theorem CT.below {B:Option Addr} (h:CT B0 wo w v l kd nm A n1 c1 B n2 c2) (hb:Below w.heap.size w w'):CT B0 wo w' v l kd nm A n1 c1 B n2 c2 := h.step hb (rowGrownF h.r (fun k hk _=>hb.block k hk)) h.z
theorem putB_len (l:List ByteArray) (s:ByteArray):(putB l s).length≤l.length+1 := by
  unfold putB
  split
  · omega
  · have:l.length=(l.takeWhile (fun x=>lessB x s)).length+(l.dropWhile (fun x=>lessB x s)).length := by rw [← List.length_append,List.takeWhile_append_dropWhile]
    simp only [List.length_append,List.length_cons]
    omega
theorem puts_len (xs:List ByteArray):∀l:List ByteArray,(xs.foldl putB l).length≤l.length+xs.length := by
  induction xs with
  | nil=>intro l; simp
  | cons a r ih=>intro l; have := ih (putB l a); have := putB_len l a; simp only [List.foldl_cons,List.length_cons]; omega
noncomputable def cF62:Code := Tryd.f62.body.getD .skip
def c_cs_r0 := sp 99 2 cF62
theorem cs_r0_wp {B:Option Addr} (hN:∀a',Frm 56 [(1,.slice D m e),(2,v),(3,.pointer (some ⟨wo.heap.size,0,none⟩))] a'→Q .normal a' (wo.alloc (.cells #[.int .i64 kd,.string nm,.slice A n1 c1,.slice B n2 c2] 29))):∀ac,Frm 56 [(0,.agg #[.int .i64 kd,.string nm,.slice A n1 c1,.slice B n2 c2]),(1,.slice D m e),(2,v)] ac→Code.wp Tryd.prog c_cs_r0 Q ac wo := by
  refine fO (frame_cs ?_)
  intros
  rename_i hq
  iterate 3 (obtain ⟨e,hq⟩ := hq; obtain rfl := sI e; clear e)
  clear hq
  conv=>arg 2; whnf
  replace hN := Lib.hid hN
  go_wp2_with fail
  exact hN.out _ (by exact fR rfl rfl rfl)
def c_cs_r1 := sp 99 9 cF62
theorem cs_r1_wp {B:Option Addr} (hs:CT B0 wo w v l kd nm A n1 c1 B n2 c2) (hN:∀a',Frm 56 [(1,.slice D m e),(2,v),(3,.pointer (some ⟨wo.heap.size,0,none⟩)),(11,.slice A n1 c1),(12,.int .i64 (n1:Nat)),(13,.int .i64 (0:Nat))] a'→Q .normal a' w):∀ac,Frm 56 [(1,.slice D m e),(2,v),(3,.pointer (some ⟨wo.heap.size,0,none⟩))] ac→Code.wp Tryd.prog c_cs_r1 Q ac w := by
  refine fO (frame_cs ?_)
  intros
  rename_i hq
  iterate 3 (obtain ⟨e,hq⟩ := hq; obtain rfl := sI e; clear e)
  clear hq
  conv=>arg 2; whnf
  have a0 := cellv hs.a 0 rfl
  have a1 := cellv hs.a 1 rfl
  have a2 := cellv hs.a 2 rfl
  have a3 := cellv hs.a 3 rfl
  have al := lt_heap hs.a
  replace hs := Lib.hid hs
  replace hN := Lib.hid hN
  go_wp2_with fail
  exact hN.out _ (by exact fR rfl rfl rfl)
def c_cs_r2 := sp 99 69 cF62
theorem cs_r2_wp (hN:∀a',Frm 56 [(1,.slice D m e),(2,v),(3,s_3),(11,s_11),(12,.int .i64 (n1:Nat)),(13,.int .i64 (i:Nat)),(14,.bool (decide (i<n1)))] a'→Q .normal a' w):∀ac,Frm 56 [(1,.slice D m e),(2,v),(3,s_3),(11,s_11),(12,.int .i64 (n1:Nat)),(13,.int .i64 (i:Nat))] ac→Code.wp Tryd.prog c_cs_r2 Q ac w := by
  refine fO (frame_cs ?_)
  intros
  rename_i hq
  iterate 6 (obtain ⟨e,hq⟩ := hq; obtain rfl := sI e; clear e)
  clear hq
  conv=>arg 2; whnf
  by_cases h:i<n1
  · have t1:decide ((i:Int)<(n1:Int))=true := by first | exact decide_eq_true (by omega) | exact beq_iff_eq.2 (by omega) | exact bne_iff_ne.2 (by omega)
    have t2:(decide (i<n1))=true := decide_eq_true h
    rw [t2] at hN
    clear h
    replace hN := Lib.hid hN
    go_wp2_with fail
    exact hN.out _ (by exact fR rfl rfl rfl)
  · have t1:decide ((i:Int)<(n1:Int))=false := by first | exact decide_eq_false (by omega) | exact beq_eq_false_iff_ne.2 (by omega) | exact bne_eq_false_iff_eq.2 (by omega)
    have t2:(decide (i<n1))=false := decide_eq_false h
    rw [t2] at hN
    clear h
    replace hN := Lib.hid hN
    go_wp2_with fail
    exact hN.out _ (by exact fR rfl rfl rfl)
def c_cs_r3 := sp 99 1125 cF62
theorem cs_r3_wp (hi:i<n1) (hc:w.cell? ⟨b,o+i,none⟩=some (.string s)) (hbl:b<w.heap.size) (hN:∀a',Frm 56 [(1,.slice D m e),(2,v),(3,s_3),(11,.slice (some ⟨b,o,none⟩) n1 c1),(12,s_12),(13,.int .i64 (i:Nat)),(8,.string s)] a'→Q .normal a' w):∀ac,Frm 56 [(1,.slice D m e),(2,v),(3,s_3),(11,.slice (some ⟨b,o,none⟩) n1 c1),(12,s_12),(13,.int .i64 (i:Nat))] ac→Code.wp Tryd.prog c_cs_r3 Q ac w := by
  refine fO (frame_cs ?_)
  intros
  rename_i hq
  iterate 6 (obtain ⟨e,hq⟩ := hq; obtain rfl := sI e; clear e)
  clear hq
  conv=>arg 2; whnf
  have q0:(0:Int)≤(i:Int) := by omega
  have q1:(i:Int)<(n1:Int) := by omega
  replace hN := Lib.hid hN
  go_wp2_with fail
  exact hN.out _ (by exact fR rfl rfl rfl)
def c_cs_r4 := sp 99 2661 cF62
theorem cs_r4_wp {bb:Bool} (hc:Calls Tryd.prog 85 #[.slice D m e,.string s] w fun e w'=>e=.returned (.bool bb)∧w'=w) (hN:∀a',Frm 56 [(1,.slice D m e),(2,v),(3,s_3),(11,s_11),(12,s_12),(13,s_13),(8,.string s),(20,.bool (!bb))] a'→Q .normal a' w):∀ac,Frm 56 [(1,.slice D m e),(2,v),(3,s_3),(11,s_11),(12,s_12),(13,s_13),(8,.string s)] ac→Code.wp Tryd.prog c_cs_r4 Q ac w := by
  refine fO (frame_cs ?_)
  intros
  rename_i hq
  iterate 7 (obtain ⟨e,hq⟩ := hq; obtain rfl := sI e; clear e)
  clear hq
  conv=>arg 2; whnf
  have HN := Lib.hid hN
  have HC := Lib.hid hc
  clear hN hc
  go_wp2_with fail
  (with_reducible refine HC.out.mono ?_)
  rintro e w1 ⟨rfl,rfl⟩
  go_wp2_with fail
  exact HN.out _ (by exact fR rfl rfl rfl)
def c_cs_r5 := sp 99 5733 cF62
theorem cs_r5_wp {s_1:Value} (hc:Calls Tryd.prog 86 #[v,.string s] w fun e w'=>∃v',e=.returned v'∧PP v' w') (hN:∀v' a' w',Frm 56 [(1,s_1),(2,v'),(3,s_3),(11,s_11),(12,s_12),(13,s_13)] a'→PP v' w'→Q .normal a' w'):∀ac,Frm 56 [(1,s_1),(2,v),(3,s_3),(11,s_11),(12,s_12),(13,s_13),(8,.string s)] ac→Code.wp Tryd.prog c_cs_r5 Q ac w := by
  refine fO (frame_cs ?_)
  intros
  rename_i hq
  iterate 7 (obtain ⟨e,hq⟩ := hq; obtain rfl := sI e; clear e)
  clear hq
  conv=>arg 2; whnf
  have HN := Lib.hid hN
  have HC := Lib.hid hc
  clear hN hc
  go_wp2_with fail
  (with_reducible refine HC.out.mono ?_)
  rintro e w1 ⟨v1,rfl,hp⟩
  replace hp := Lib.hid hp
  go_wp2_with fail
  exact HN.out _ _ _ (by exact fR rfl rfl rfl) hp.out
def c_cs_r6 := sp 99 485 cF62
theorem cs_r6_wp (hi:i<n1) (hlim:n1≤maxLen) (hN:∀a',Frm 56 [(1,.slice D m e),(2,v),(3,s_3),(11,s_11),(12,s_12),(13,.int .i64 (i+1:Nat))] a'→Q .normal a' w):∀ac,Frm 56 [(1,.slice D m e),(2,v),(3,s_3),(11,s_11),(12,s_12),(13,.int .i64 (i:Nat))] ac→Code.wp Tryd.prog c_cs_r6 Q ac w := by
  refine fO (frame_cs ?_)
  intros
  rename_i hq
  iterate 6 (obtain ⟨e,hq⟩ := hq; obtain rfl := sI e; clear e)
  clear hq
  conv=>arg 2; whnf
  have hi4:(i:Int)≤9223372036854775806 := by unfold maxLen at hlim; omega
  replace hN := Lib.hid hN
  go_wp2_with fail
  exact hN.out _ (by exact fR rfl rfl rfl)
def c_cs_r7 := sp 99 19 cF62
theorem cs_r7_wp {B:Option Addr} (hs:CT B0 wo w v l kd nm A n1 c1 B n2 c2) (hN:∀a',Frm 56 [(1,.slice D m e),(2,v),(3,.pointer (some ⟨wo.heap.size,0,none⟩)),(32,.bool (isQu kd))] a'→Q .normal a' w):∀ac,Frm 56 [(1,.slice D m e),(2,v),(3,.pointer (some ⟨wo.heap.size,0,none⟩))] ac→Code.wp Tryd.prog c_cs_r7 Q ac w := by
  refine fO (frame_cs ?_)
  intros
  rename_i hq
  iterate 3 (obtain ⟨e,hq⟩ := hq; obtain rfl := sI e; clear e)
  clear hq
  conv=>arg 2; whnf
  have a0 := cellv hs.a 0 rfl
  have a1 := cellv hs.a 1 rfl
  have a2 := cellv hs.a 2 rfl
  have a3 := cellv hs.a 3 rfl
  have al := lt_heap hs.a
  replace hs := Lib.hid hs
  by_cases h8:kd=8
  · subst h8
    rw [show isQu 8=true from rfl] at hN
    replace hN := Lib.hid hN
    go_wp2_with fail
    exact hN.out _ (by exact fR rfl rfl rfl)
  have t8:(kd == 8)=false := beq_eq_false_iff_ne.2 h8
  by_cases h9:kd=9
  · subst h9
    rw [show isQu 9=true from rfl] at hN
    replace hN := Lib.hid hN
    go_wp2_with fail
    exact hN.out _ (by exact fR rfl rfl rfl)
  have t9:(kd == 9)=false := beq_eq_false_iff_ne.2 h9
  rw [show isQu kd=false from by simp [isQu,h8,h9]] at hN
  clear h8 h9
  replace hN := Lib.hid hN
  go_wp2_with fail
  exact hN.out _ (by exact fR rfl rfl rfl)
def c_cs_r9 := sp 99 39 cF62
theorem cs_r9_wp {B:Option Addr} (hs:CT B0 wo w v l kd nm A n1 c1 B n2 c2) (hN:∀a',Frm 56 [(1,.slice D m e),(2,v),(3,.pointer (some ⟨wo.heap.size,0,none⟩)),(41,.slice B n2 c2),(42,.int .i64 (n2:Nat)),(43,.int .i64 (0:Nat))] a'→Q .normal a' w):∀ac,Frm 56 [(1,.slice D m e),(2,v),(3,.pointer (some ⟨wo.heap.size,0,none⟩))] ac→Code.wp Tryd.prog c_cs_r9 Q ac w := by
  refine fO (frame_cs ?_)
  intros
  rename_i hq
  iterate 3 (obtain ⟨e,hq⟩ := hq; obtain rfl := sI e; clear e)
  clear hq
  conv=>arg 2; whnf
  have a0 := cellv hs.a 0 rfl
  have a1 := cellv hs.a 1 rfl
  have a2 := cellv hs.a 2 rfl
  have a3 := cellv hs.a 3 rfl
  have al := lt_heap hs.a
  replace hs := Lib.hid hs
  replace hN := Lib.hid hN
  go_wp2_with fail
  exact hN.out _ (by exact fR rfl rfl rfl)
def c_cs_r10 := sp 99 279 cF62
theorem cs_r10_wp (hN:∀a',Frm 56 [(1,.slice D m e),(2,v),(3,s_3),(41,s_41),(42,.int .i64 (n2:Nat)),(43,.int .i64 (i:Nat)),(44,.bool (decide (i<n2)))] a'→Q .normal a' w):∀ac,Frm 56 [(1,.slice D m e),(2,v),(3,s_3),(41,s_41),(42,.int .i64 (n2:Nat)),(43,.int .i64 (i:Nat))] ac→Code.wp Tryd.prog c_cs_r10 Q ac w := by
  refine fO (frame_cs ?_)
  intros
  rename_i hq
  iterate 6 (obtain ⟨e,hq⟩ := hq; obtain rfl := sI e; clear e)
  clear hq
  conv=>arg 2; whnf
  by_cases h:i<n2
  · have t1:decide ((i:Int)<(n2:Int))=true := by first | exact decide_eq_true (by omega) | exact beq_iff_eq.2 (by omega) | exact bne_iff_ne.2 (by omega)
    have t2:(decide (i<n2))=true := decide_eq_true h
    rw [t2] at hN
    clear h
    replace hN := Lib.hid hN
    go_wp2_with fail
    exact hN.out _ (by exact fR rfl rfl rfl)
  · have t1:decide ((i:Int)<(n2:Int))=false := by first | exact decide_eq_false (by omega) | exact beq_eq_false_iff_ne.2 (by omega) | exact bne_eq_false_iff_eq.2 (by omega)
    have t2:(decide (i<n2))=false := decide_eq_false h
    rw [t2] at hN
    clear h
    replace hN := Lib.hid hN
    go_wp2_with fail
    exact hN.out _ (by exact fR rfl rfl rfl)
def c_cs_r11 := sp 99 4503 cF62
theorem cs_r11_wp (hN:∀a',Frm 56 [(1,.slice D m e),(2,v),(3,s_3),(41,s_41),(42,s_42),(43,.int .i64 (i:Nat)),(9,.int .i64 (i:Nat))] a'→Q .normal a' w):∀ac,Frm 56 [(1,.slice D m e),(2,v),(3,s_3),(41,s_41),(42,s_42),(43,.int .i64 (i:Nat))] ac→Code.wp Tryd.prog c_cs_r11 Q ac w := by
  refine fO (frame_cs ?_)
  intros
  rename_i hq
  iterate 6 (obtain ⟨e,hq⟩ := hq; obtain rfl := sI e; clear e)
  clear hq
  conv=>arg 2; whnf
  replace hN := Lib.hid hN
  go_wp2_with fail
  exact hN.out _ (by exact fR rfl rfl rfl)
def c_cs_r12 := sp 99 6551 cF62
theorem cs_r12_wp {s_43:Value} {ke:Int} {ne:ByteArray} {Ae Be:Option Addr} {n3 c3 n4 c4:Nat} (hi:i<n2) (ha:w.heap[wo.heap.size]?=some (.cells #[.int .i64 kd,.string nm,.slice A n1 c1,.slice (some ⟨b,o,none⟩) n2 c2] 29 (0,0))) (e0:w.cell? ⟨b,o+i * 4,none⟩=some (.int .i64 ke)) (e1:w.cell? ⟨b,o+i * 4+1,none⟩=some (.string ne)) (e2:w.cell? ⟨b,o+i * 4+2,none⟩=some (.slice Ae n3 c3)) (e3:w.cell? ⟨b,o+i * 4+3,none⟩=some (.slice Be n4 c4)) (hbl:b<w.heap.size) (hc:Calls Tryd.prog 62 #[.agg #[.int .i64 ke,.string ne,.slice Ae n3 c3,.slice Be n4 c4],.slice D m e,v] w fun e w'=>∃v',e=.returned v'∧PP v' w') (hN:∀v' a' w',Frm 56 [(1,.slice D m e),(2,v'),(3,.pointer (some ⟨wo.heap.size,0,none⟩)),(41,s_41),(42,s_42),(43,s_43)] a'→PP v' w'→Q .normal a' w'):∀ac,Frm 56 [(1,.slice D m e),(2,v),(3,.pointer (some ⟨wo.heap.size,0,none⟩)),(41,s_41),(42,s_42),(43,s_43),(9,.int .i64 (i:Nat))] ac→Code.wp Tryd.prog c_cs_r12 Q ac w := by
  refine fO (frame_cs ?_)
  intros
  rename_i hq
  iterate 7 (obtain ⟨e,hq⟩ := hq; obtain rfl := sI e; clear e)
  clear hq
  conv=>arg 2; whnf
  have q0:(0:Int)≤(i:Int) := by omega
  have q1:(i:Int)<(n2:Int) := by omega
  have a3 := cellv ha 3 rfl
  have al := lt_heap ha
  clear ha
  have HN := Lib.hid hN
  have HC := Lib.hid hc
  clear hN hc
  go_wp2_with fail
  (with_reducible refine HC.out.mono ?_)
  rintro e w1 ⟨v1,rfl,hp⟩
  replace hp := Lib.hid hp
  go_wp2_with fail
  exact HN.out _ _ _ (by exact fR rfl rfl rfl) hp.out
def c_cs_r13 := sp 99 1943 cF62
theorem cs_r13_wp (hi:i<n2) (hlim:n2≤maxLen) (hN:∀a',Frm 56 [(1,.slice D m e),(2,v),(3,s_3),(41,s_41),(42,s_42),(43,.int .i64 (i+1:Nat))] a'→Q .normal a' w):∀ac,Frm 56 [(1,.slice D m e),(2,v),(3,s_3),(41,s_41),(42,s_42),(43,.int .i64 (i:Nat))] ac→Code.wp Tryd.prog c_cs_r13 Q ac w := by
  refine fO (frame_cs ?_)
  intros
  rename_i hq
  iterate 6 (obtain ⟨e,hq⟩ := hq; obtain rfl := sI e; clear e)
  clear hq
  conv=>arg 2; whnf
  have hi4:(i:Int)≤9223372036854775806 := by unfold maxLen at hlim; omega
  replace hN := Lib.hid hN
  go_wp2_with fail
  exact hN.out _ (by exact fR rfl rfl rfl)
def c_cs_r14 := sp 99 47 cF62
theorem cs_r14_wp (hN:∀a',Frm 56 [(6,v)] a'→Q .normal a' w):∀ac,Frm 56 [(1,.slice D m e),(2,v),(3,s_3)] ac→Code.wp Tryd.prog c_cs_r14 Q ac w := by
  refine fO (frame_cs ?_)
  intros
  rename_i hq
  iterate 3 (obtain ⟨e,hq⟩ := hq; obtain rfl := sI e; clear e)
  clear hq
  conv=>arg 2; whnf
  replace hN := Lib.hid hN
  go_wp2_with fail
  exact hN.out _ (id ⟨rfl,rfl,rfl,trivial⟩)
theorem cs_ret_wp {R:Ending→World→Prop} {vv:Value} (hR:R (.returned (vv)) w'):∀ac,Frm 56 [(6,vv)] ac→bodyPost Tryd.prog Tryd.f62 R .ret ac w' := by
  refine fO (frame_cs ?_)
  intros
  rename_i hq
  iterate 1 (obtain ⟨e,hq⟩ := hq; obtain rfl := sI e; clear e)
  clear hq
  refine bodyPost_ret (v := vv) (by simp [results,Tryd.results62,go_sem]) rfl ?_
  exact hR
theorem news_below (h:strRep.Sl w S (.slice D m e) bd) (hS:∀k,S k→k<w.heap.size) :
    (bd.map Value.string).length=m * 1∧(∀W:World,Below w.heap.size w W→((m=0∧∃c,Value.slice D m e=.slice none 0 c)∨∃ad c,Value.slice D m e=.slice (some ad) m c∧∀j u,(bd.map Value.string)[j]?=some u→W.cell? (ad.add j)=some u))∧∀u∈bd.map Value.string,u.oneCell'=true := by
  obtain ⟨D',m',e',e9,hlen,_⟩ := id h
  injection e9 with e1 e2 e3
  subst e1 e2 e3
  refine ⟨by simp [hlen],fun W hb=>?_,fun u hu=>?_⟩
  · cases D with
    | none =>
      left
      cases bd with
      | nil=>obtain rfl:m=0 := hlen.symm; exact ⟨rfl,_,rfl⟩
      | cons y r=>obtain ⟨_,_,_,e9,_⟩ := Rep.Sl.at_ h (k := 0) rfl; cases e9
    | some ad =>
      right
      refine ⟨ad,e,rfl,fun j u hu=>?_⟩
      have hj:j<bd.length := by
        have := (List.getElem?_eq_some_iff.1 hu).1
        simpa using this
      obtain ⟨b,o,cs,e',hSb,⟨rfl,_⟩,hc⟩ := Rep.Sl.at_ h (List.getElem?_eq_getElem hj)
      injection e' with e'
      subst e'
      rw [addr_none]
      rw [List.getElem?_map,List.getElem?_eq_getElem hj] at hu
      injection hu with hu
      rw [← hu]
      refine (cell_keep (hb.block b (hS b hSb)) _).trans ?_
      have := hc 0 _ rfl
      simpa [strRep] using this
  · rw [List.mem_map] at hu
    obtain ⟨s,_,rfl⟩ := hu
    rfl
theorem grown_lo {B:Nat} (h:w.grownBy w' v.ownBlock) (hv:∀k,v.ownBlock=some k→B≤k) (hB:B≤w.heap.size):Below B w w' :=
  ⟨h.os,h.tape,h.output,h.size,fun k hk=>h.block k (by omega) (fun e=>by have := hv k e.symm; omega)⟩
def c_cs_r8 := sp 99 43 cF62
theorem cs_r8_wp {K:Act→World→Prop} {B:Option Addr} (hm:m≤1000000) (hbd:strRep.Sl w S (.slice D m e) bd) (hS:∀k,S k→k<w.heap.size) (hs:CT B0 wo w v l kd nm A n1 c1 B n2 c2) (hN:∀u' a' w',Frm 56 [(1,u'),(2,v),(3,.pointer (some ⟨wo.heap.size,0,none⟩))] a'→w'.ownsRow w.heap.size 9 1 u' (m+1) (bd.map .string++[.string nm])→Below w.heap.size w w'→K a' w'):∀ac,Frm 56 [(1,.slice D m e),(2,v),(3,.pointer (some ⟨wo.heap.size,0,none⟩))] ac→Code.wp Tryd.prog c_cs_r8 (Exit.then K (fun _ _ _=>False)) ac w := by
  refine fO (frame_cs ?_)
  intros
  rename_i hq
  iterate 3 (obtain ⟨e,hq⟩ := hq; obtain rfl := sI e; clear e)
  clear hq
  conv=>arg 2; whnf
  obtain ⟨ts,hts,ht0,ht1,ht2⟩ := info_parts infoStr
  obtain ⟨hlen,hnews,hone⟩ := news_below hbd hS
  have a1 := cellv hs.a 1 rfl
  have al := lt_heap hs.a
  have HLEN := Lib.hid hlen
  have HNEWS := Lib.hid hnews
  have HONE := Lib.hid hone
  clear hlen hnews hone hbd hS hs
  go_region_law (first
    | (refine step_append_all _ (by rfl) (.tmp 33) (.tmp 34) 26 (by rfl) w.heap.size 9 ts (.string ⟨#[]⟩) 1 16 Tryd.underlying26 hts ht0 ht1 ht2 rfl (by decide) (.slice (some ⟨w.heap.size,0,none⟩) 0 0) 0 [] (by rfl) (ownsRow_made (by first | exact heap_alloc_new _ _ | exact heap_drew (heap_alloc_new _ _) | exact heap_at (by simp) | exact heap_old (by simp) (heap_at (by simp)) | exact heap_drew (heap_at (by simp)) | exact heap_drew (heap_old (by simp) (heap_at (by simp))) | exact heap_drew (heap_old (by simp) (heap_drew (heap_at (by simp)))) | exact heap_old (by simp) (heap_drew (heap_at (by simp))) | (simp [World.alloc,World.drew]; done)) (by omega)) (.slice D m e) m (bd.map .string) (by rfl) HLEN.out (HNEWS.out _ (by go_grown)) HONE.out (by unfold maxLen; omega) (by omega) (by first | omega | (simp; done) | (simp; omega)) _ rfl m (by omega) ?_; intro A9 c9 w2 hown2 hgrow hat; have hb2:Below w.heap.size w w2 := (show Below w.heap.size w _ by go_grown).trans (grown_lo hgrow (by simp [Value.ownBlock]) (by first | omega | (simp; done) | (simp; omega))); have zl2 := hb2.size; have b1 := (cell_keep (hb2.block _ al) 1).trans a1; have KB := Lib.hid hgrow; have HOWN2 := Lib.hid hown2; have HB2 := Lib.hid hb2; have HAT := Lib.hid hat; clear hown2 hb2 hgrow hat)
    | (refine step_append_all _ (by rfl) (.tmp 33) (.tmp 34) 26 (by rfl) w.heap.size 9 ts (.string ⟨#[]⟩) 1 16 Tryd.underlying26 hts ht0 ht1 ht2 rfl (by decide) (.slice (some ⟨w.heap.size+1,0,none⟩) 0 0) 0 [] (by rfl) (ownsRow_made (by first | exact heap_alloc_new _ _ | exact heap_drew (heap_alloc_new _ _) | exact heap_at (by simp) | exact heap_old (by simp) (heap_at (by simp)) | exact heap_drew (heap_at (by simp)) | exact heap_drew (heap_old (by simp) (heap_at (by simp))) | exact heap_drew (heap_old (by simp) (heap_drew (heap_at (by simp)))) | exact heap_old (by simp) (heap_drew (heap_at (by simp))) | (simp [World.alloc,World.drew]; done)) (by omega)) (.slice D m e) m (bd.map .string) (by rfl) HLEN.out (HNEWS.out _ (by go_grown)) HONE.out (by unfold maxLen; omega) (by omega) (by first | omega | (simp; done) | (simp; omega)) _ rfl m (by omega) ?_; intro A9 c9 w2 hown2 hgrow hat; have hb2:Below w.heap.size w w2 := (show Below w.heap.size w _ by go_grown).trans (grown_lo hgrow (by simp [Value.ownBlock]) (by first | omega | (simp; done) | (simp; omega))); have zl2 := hb2.size; have b1 := (cell_keep (hb2.block _ al) 1).trans a1; have KB := Lib.hid hgrow; have HOWN2 := Lib.hid hown2; have HB2 := Lib.hid hb2; have HAT := Lib.hid hat; clear hown2 hb2 hgrow hat)
    | (refine step_append_all _ (by rfl) (.tmp 35) (.tmp 38) 26 (by rfl) w.heap.size 9 ts (.string ⟨#[]⟩) 1 16 Tryd.underlying26 hts ht0 ht1 ht2 rfl (by decide) (.slice A9 m c9) m ([]++bd.map .string) (by rfl) (HOWN2.out.alloc _).drew (.slice (some ⟨w2.heap.size,0,none⟩) 1 1) 1 [.string nm] (by rfl) rfl (Or.inr ⟨_,_,rfl,World.news_of_block (cs := #[.string nm]) (t := 9) (fr := (0,0)) (by first | exact heap_drew (heap_alloc_new w2 _) | exact heap_alloc_new w2 _)⟩) (by simp [Value.oneCell']) (by unfold maxLen; omega) (by omega) (by first | omega | (simp; done) | (simp; omega)) _ rfl (m+1) (by omega) ?_; intro A8 c8 w3 hown3 hgrow3 hat3; have hb3:Below w.heap.size w w3 := HB2.out.trans ((show Below w.heap.size w2 _ by go_grown).trans (grown_lo hgrow3 (fun k e=>(HOWN2.out.lt k e).1) (by first | omega | (simp; done) | (simp; omega)))); have HOWN3 := Lib.hid hown3; have HB3 := Lib.hid hb3; clear hown3 hb3 hgrow3 hat3)
    | (refine step_append_all _ (by rfl) (.tmp 35) (.tmp 38) 26 (by rfl) w.heap.size 9 ts (.string ⟨#[]⟩) 1 16 Tryd.underlying26 hts ht0 ht1 ht2 rfl (by decide) (.slice A9 m c9) m ([]++bd.map .string) (by rfl) (HOWN2.out.alloc _) (.slice (some ⟨w2.heap.size,0,none⟩) 1 1) 1 [.string nm] (by rfl) rfl (Or.inr ⟨_,_,rfl,World.news_of_block (cs := #[.string nm]) (t := 9) (fr := (0,0)) (by first | exact heap_drew (heap_alloc_new w2 _) | exact heap_alloc_new w2 _)⟩) (by simp [Value.oneCell']) (by unfold maxLen; omega) (by omega) (by first | omega | (simp; done) | (simp; omega)) _ rfl (m+1) (by omega) ?_; intro A8 c8 w3 hown3 hgrow3 hat3; have hb3:Below w.heap.size w w3 := HB2.out.trans ((show Below w.heap.size w2 _ by go_grown).trans (grown_lo hgrow3 (fun k e=>(HOWN2.out.lt k e).1) (by first | omega | (simp; done) | (simp; omega)))); have HOWN3 := Lib.hid hown3; have HB3 := Lib.hid hb3; clear hown3 hb3 hgrow3 hat3)
    | (refine step_append_all _ (by rfl) (.tmp 35) (.tmp 38) 26 (by rfl) w.heap.size 9 ts (.string ⟨#[]⟩) 1 16 Tryd.underlying26 hts ht0 ht1 ht2 rfl (by decide) (.slice A9 m c9) m ([]++bd.map .string) (by rfl) HOWN2.out (.slice (some ⟨w.heap.size,0,none⟩) 1 1) 1 [.string nm] (by rfl) rfl (Or.inr ⟨_,_,rfl,World.news_of_block (cs := #[.string nm]) (t := 9) (fr := (0,0)) ((KB.out.block w.heap.size (by first | omega | (simp; done) | (simp; omega)) (by simp [Value.ownBlock])).trans (by first | exact heap_alloc_new _ _ | exact heap_drew (heap_alloc_new _ _) | exact heap_at (by simp) | exact heap_old (by simp) (heap_at (by simp)) | exact heap_drew (heap_at (by simp)) | exact heap_drew (heap_old (by simp) (heap_at (by simp))) | exact heap_drew (heap_old (by simp) (heap_drew (heap_at (by simp)))) | exact heap_old (by simp) (heap_drew (heap_at (by simp))) | (simp [World.alloc,World.drew]; done)))⟩) (by simp [Value.oneCell']) (by unfold maxLen; omega) (by omega) (by first | omega | (simp; done) | (simp; omega)) _ rfl (m+1) (by omega) ?_; intro A8 c8 w3 hown3 hgrow3 hat3; have hb3:Below w.heap.size w w3 := HB2.out.trans (grown_lo hgrow3 (fun k e=>(HOWN2.out.lt k e).1) (by first | omega | (simp; done) | (simp; omega))); have HOWN3 := Lib.hid hown3; have HB3 := Lib.hid hb3; clear hown3 hb3 hgrow3 hat3)
    | (refine step_append_all _ (by rfl) (.tmp 35) (.tmp 38) 26 (by rfl) w.heap.size 9 ts (.string ⟨#[]⟩) 1 16 Tryd.underlying26 hts ht0 ht1 ht2 rfl (by decide) (.slice A9 m c9) m ([]++bd.map .string) (by rfl) HOWN2.out (.slice (some ⟨w.heap.size+1,0,none⟩) 1 1) 1 [.string nm] (by rfl) rfl (Or.inr ⟨_,_,rfl,World.news_of_block (cs := #[.string nm]) (t := 9) (fr := (0,0)) ((KB.out.block (w.heap.size+1) (by first | omega | (simp; done) | (simp; omega)) (by simp [Value.ownBlock])).trans (by first | exact heap_alloc_new _ _ | exact heap_drew (heap_alloc_new _ _) | exact heap_at (by simp) | exact heap_old (by simp) (heap_at (by simp)) | exact heap_drew (heap_at (by simp)) | exact heap_drew (heap_old (by simp) (heap_at (by simp))) | exact heap_drew (heap_old (by simp) (heap_drew (heap_at (by simp)))) | exact heap_old (by simp) (heap_drew (heap_at (by simp))) | (simp [World.alloc,World.drew]; done)))⟩) (by simp [Value.oneCell']) (by unfold maxLen; omega) (by omega) (by first | omega | (simp; done) | (simp; omega)) _ rfl (m+1) (by omega) ?_; intro A8 c8 w3 hown3 hgrow3 hat3; have hb3:Below w.heap.size w w3 := HB2.out.trans (grown_lo hgrow3 (fun k e=>(HOWN2.out.lt k e).1) (by first | omega | (simp; done) | (simp; omega))); have HOWN3 := Lib.hid hown3; have HB3 := Lib.hid hb3; clear hown3 hb3 hgrow3 hat3)
    | (refine step_append_all _ (by rfl) (.tmp 35) (.tmp 38) 26 (by rfl) w.heap.size 9 ts (.string ⟨#[]⟩) 1 16 Tryd.underlying26 hts ht0 ht1 ht2 rfl (by decide) (.slice A9 m c9) m ([]++bd.map .string) (by rfl) HOWN2.out.drew (.slice (some ⟨w.heap.size,0,none⟩) 1 1) 1 [.string nm] (by rfl) rfl (Or.inr ⟨_,_,rfl,World.news_of_block (cs := #[.string nm]) (t := 9) (fr := (0,0)) ((KB.out.block w.heap.size (by first | omega | (simp; done) | (simp; omega)) (by simp [Value.ownBlock])).trans (by first | exact heap_alloc_new _ _ | exact heap_drew (heap_alloc_new _ _) | exact heap_at (by simp) | exact heap_old (by simp) (heap_at (by simp)) | exact heap_drew (heap_at (by simp)) | exact heap_drew (heap_old (by simp) (heap_at (by simp))) | exact heap_drew (heap_old (by simp) (heap_drew (heap_at (by simp)))) | exact heap_old (by simp) (heap_drew (heap_at (by simp))) | (simp [World.alloc,World.drew]; done)))⟩) (by simp [Value.oneCell']) (by unfold maxLen; omega) (by omega) (by first | omega | (simp; done) | (simp; omega)) _ rfl (m+1) (by omega) ?_; intro A8 c8 w3 hown3 hgrow3 hat3; have hb3:Below w.heap.size w w3 := HB2.out.trans (grown_lo hgrow3 (fun k e=>(HOWN2.out.lt k e).1) (by first | omega | (simp; done) | (simp; omega))); have HOWN3 := Lib.hid hown3; have HB3 := Lib.hid hb3; clear hown3 hb3 hgrow3 hat3)
    | (refine step_append_all _ (by rfl) (.tmp 35) (.tmp 38) 26 (by rfl) w.heap.size 9 ts (.string ⟨#[]⟩) 1 16 Tryd.underlying26 hts ht0 ht1 ht2 rfl (by decide) (.slice A9 m c9) m ([]++bd.map .string) (by rfl) HOWN2.out.drew (.slice (some ⟨w.heap.size+1,0,none⟩) 1 1) 1 [.string nm] (by rfl) rfl (Or.inr ⟨_,_,rfl,World.news_of_block (cs := #[.string nm]) (t := 9) (fr := (0,0)) ((KB.out.block (w.heap.size+1) (by first | omega | (simp; done) | (simp; omega)) (by simp [Value.ownBlock])).trans (by first | exact heap_alloc_new _ _ | exact heap_drew (heap_alloc_new _ _) | exact heap_at (by simp) | exact heap_old (by simp) (heap_at (by simp)) | exact heap_drew (heap_at (by simp)) | exact heap_drew (heap_old (by simp) (heap_at (by simp))) | exact heap_drew (heap_old (by simp) (heap_drew (heap_at (by simp)))) | exact heap_old (by simp) (heap_drew (heap_at (by simp))) | (simp [World.alloc,World.drew]; done)))⟩) (by simp [Value.oneCell']) (by unfold maxLen; omega) (by omega) (by first | omega | (simp; done) | (simp; omega)) _ rfl (m+1) (by omega) ?_; intro A8 c8 w3 hown3 hgrow3 hat3; have hb3:Below w.heap.size w w3 := HB2.out.trans (grown_lo hgrow3 (fun k e=>(HOWN2.out.lt k e).1) (by first | omega | (simp; done) | (simp; omega))); have HOWN3 := Lib.hid hown3; have HB3 := Lib.hid hb3; clear hown3 hb3 hgrow3 hat3))
  all_goals go_wp2_with fail
  all_goals exact hN _ _ _ (by exact fR rfl rfl rfl) (by simpa using HOWN3.out) HB3.out
end
noncomputable section
set_option maxRecDepth 100000
set_option maxHeartbeats 4000000
variable {Q:Exit→Act→World→Prop} {S:Nat→Prop} {bd l:List ByteArray} {B0 m e n1 c1 n2 c2:Nat} {D A B:Option Addr} {v:Value} {wo w:World} {kd:Int} {nm:ByteArray}

def c_cs_wl := sp 99 21 cF62
theorem cs_wl_wp {ws:List ByteArray} (hS:∀k,S k→k<wo.heap.size) (hbd:strRep.Sl wo S (.slice D m e) bd) (hw:strRep.Sl wo S (.slice A n1 c1) ws) (hB0:B0≤wo.heap.size) (hln:l.length+(ws.filter (fun x=>!hasB bd x)).length≤1000000) (hs:CT B0 wo w v l kd nm A n1 c1 B n2 c2) 
    (hX:∀v' a' w',Frm 56 [(1,.slice D m e),(2,v'),(3,.pointer (some ⟨wo.heap.size,0,none⟩))] a'→CT B0 wo w' v' ((ws.filter (fun x=>!hasB bd x)).foldl putB l) kd nm A n1 c1 B n2 c2→Q (.exit 0) a' w'):∀ac,Frm 56 [(1,.slice D m e),(2,v),(3,.pointer (some ⟨wo.heap.size,0,none⟩)),(11,.slice A n1 c1),(12,.int .i64 (n1:Nat)),(13,.int .i64 (0:Nat))] ac→Code.wp Tryd.prog c_cs_wl Q ac w := by
  intro a0 hf0
  conv=>arg 2; whnf
  obtain ⟨A',n',c',e9,hlen,hmax,_⟩ := id hw
  injection e9 with e1 e2 e3
  subst e1 e2 e3
  refine wp_loopR (fun g a' w'=>∃(j:Nat) (v':Value),j+g=ws.length∧CT B0 wo w' v' (((ws.take j).filter (fun x=>!hasB bd x)).foldl putB l) kd nm A n1 c1 B n2 c2∧Frm 56 [(1,.slice D m e),(2,v'),(3,.pointer (some ⟨wo.heap.size,0,none⟩)),(11,.slice A n1 c1),(12,.int .i64 (n1:Nat)),(13,.int .i64 (j:Nat))] a') ws.length ⟨0,v,by omega,by simpa using hs,hf0⟩ ?_
  rintro g a1 w1 ⟨j,v1,hjg,hs1,h1⟩
  refine wp_seq ?_
  refine cs_r2_wp (fun a2 h2=>?_) a1 h1
  refine wp_seq ?_
  by_cases hj:j<n1
  case neg =>
    refine wp_cond_false ((h2.eval (k := 14) (v := .bool (decide (j<n1))) (by simp)).trans (by rw [decide_eq_false hj])) ?_
    refine wp_exit (hX v1 a2 w1 (h2.pick [0,1,2]) ?_)
    rwa [List.take_of_length_le (by omega)] at hs1
  refine wp_cond_true ((h2.eval (k := 14) (v := .bool (decide (j<n1))) (by simp)).trans (by rw [decide_eq_true hj])) ?_
  refine wp_skip ?_
  show Code.wp _ _ _ a2 w1
  have hold := fun k hk=>hs1.b.block k (hS k hk)
  have hbs := hs1.b.size
  have hjl:j<ws.length := by omega
  obtain ⟨b,o,cs,rfl,hSb,⟨rfl,hsz⟩,hc⟩ := Rep.Sl.at_ hw (List.getElem?_eq_getElem hjl)
  have hc0:w1.cell? ⟨b,o+j,none⟩=some (.string ws[j]) := (cell_keep (hold b hSb) _).trans (by simpa [strRep] using hc 0 _ rfl)
  have hlb:b<w1.heap.size := by have := hS b hSb; omega
  have hcont := refHas_any (hbd.keep hold (fun _ h=>h)) (fun k hk=>by have := hS k hk; omega) ws[j]
  have htk:ws.take (j+1)=ws.take j++[ws[j]] := List.take_succ_eq_append_getElem hjl
  have hll:(((ws.take j).filter (fun x=>!hasB bd x)).foldl putB l).length≤1000000 := by
    have h9:((ws.take j).filter (fun x=>!hasB bd x)).length≤(ws.filter (fun x=>!hasB bd x)).length := by
      conv=>rhs; rw [← List.take_append_drop j ws,List.filter_append]
      rw [List.length_append]; omega
    have := puts_len ((ws.take j).filter (fun x=>!hasB bd x)) l
    omega
  refine wp_seq ?_
  refine wp_block ?_
  refine wp_seq ?_
  refine cs_r3_wp hj hc0 hlb (fun a3 h3=>?_) a2 (h2.pick [0,1,2,3,4,5])
  refine wp_seq ?_
  refine cs_r4_wp hcont (fun a4 h4=>?_) a3 h3
  cases hok:hasB bd ws[j]
  · rw [hok] at h4
    refine wp_cond_true ((h4.eval (k := 20) (v := .bool (!false)) (by simp)).trans (by rw [show (!false)=true from rfl])) ?_
    have hput := refPut_any ws[j] (by omega) hs1.r hs1.z hll
    refine cs_r5_wp hput (fun v5 a5 w5 h5 hp=>?_) a4 (h4.pick [0,1,2,3,4,5,6])
    show Code.wp _ _ _ a5 w5
    refine cs_r6_wp hj (by omega) (fun a6 h6=>?_) a5 h5
    have hz5:∀s∈putB (((ws.take j).filter (fun x=>!hasB bd x)).foldl putB l) ws[j],s.size≤maxLen := fun s hs=>by
      rcases putB_mem.1 hs with rfl | h9
      · exact hsz
      · exact hs1.z s h9
    refine ⟨g - 1,by omega,j+1,v5,by omega,?_,h6⟩
    rw [htk,List.filter_append,List.filter_cons_of_pos (by simp [hok]),List.filter_nil,List.foldl_append]
    exact hs1.step hp.2 hp.1 hz5
  · rw [hok] at h4
    refine wp_cond_false ((h4.eval (k := 20) (v := .bool (!true)) (by simp)).trans (by rw [show (!true)=false from rfl])) ?_
    refine wp_skip ?_
    show Code.wp _ _ _ a4 w1
    refine cs_r6_wp hj (by omega) (fun a6 h6=>?_) a4 (h4.pick [0,1,2,3,4,5])
    refine ⟨g - 1,by omega,j+1,v1,by omega,?_,h6⟩
    rw [htk,List.filter_append,List.filter_cons_of_neg (by simp [hok]),List.filter_nil,List.append_nil]
    exact hs1
def c_cs_sl := sp 99 87 cF62
theorem cs_sl_wp {ts:List Fm} (hS:∀k,S k→k<w.heap.size) (hbd:strRep.Sl w S (.slice D m e) bd) (hl:fmRep.Sl w S (.slice B n2 c2) ts) (hB0:B0≤wo.heap.size) (hln:l.length+(fmFreess bd ts).length≤1000000) (hs:CT B0 wo w v l kd nm A n1 c1 B n2 c2) (ih:∀(t:Fm) (cs:List Value) (W:World) (v1:Value) (l1:List ByteArray),t∈ts→fmRep.R W S t cs→(∀k,S k→k<W.heap.size)→strRep.Sl W S (.slice D m e) bd→B0≤W.heap.size→W.ownsRow B0 9 1 v1 l1.length (l1.map .string)→(∀s∈l1,s.size≤maxLen)→l1.length+(fmFrees bd t).length≤1000000→Calls Tryd.prog 62 #[.agg cs.toArray,.slice D m e,v1] W fun e w'=>∃v',e=.returned v'∧(w'.ownsRow B0 9 1 v' ((fmFrees bd t).foldl putB l1).length (((fmFrees bd t).foldl putB l1).map .string)∧(∀s∈(fmFrees bd t).foldl putB l1,s.size≤maxLen)∧Below W.heap.size W w')) 
    (hX:∀v' a' w',Frm 56 [(1,.slice D m e),(2,v'),(3,.pointer (some ⟨wo.heap.size,0,none⟩))] a'→CT B0 wo w' v' ((fmFreess bd ts).foldl putB l) kd nm A n1 c1 B n2 c2→Q (.exit 2) a' w'):∀ac,Frm 56 [(1,.slice D m e),(2,v),(3,.pointer (some ⟨wo.heap.size,0,none⟩)),(41,.slice B n2 c2),(42,.int .i64 (n2:Nat)),(43,.int .i64 (0:Nat))] ac→Code.wp Tryd.prog c_cs_sl Q ac w := by
  intro a0 hf0
  conv=>arg 2; whnf
  obtain ⟨B',n',c',e9,hlen,hmax,_⟩ := id hl
  injection e9 with e1 e2 e3
  subst e1 e2 e3
  refine wp_loopR (fun g a' w'=>∃(j:Nat) (v':Value),j+g=ts.length∧CT B0 wo w' v' ((fmFreess bd (ts.take j)).foldl putB l) kd nm A n1 c1 B n2 c2∧Below w.heap.size w w'∧Frm 56 [(1,.slice D m e),(2,v'),(3,.pointer (some ⟨wo.heap.size,0,none⟩)),(41,.slice B n2 c2),(42,.int .i64 (n2:Nat)),(43,.int .i64 (j:Nat))] a') ts.length ⟨0,v,by omega,by simpa [fmFreess] using hs,Below.refl _ _,hf0⟩ ?_
  rintro g a1 w1 ⟨j,v1,hjg,hs1,hb1,h1⟩
  refine wp_seq ?_
  refine cs_r10_wp (fun a2 h2=>?_) a1 h1
  refine wp_seq ?_
  by_cases hj:j<n2
  case neg =>
    refine wp_cond_false ((h2.eval (k := 44) (v := .bool (decide (j<n2))) (by simp)).trans (by rw [decide_eq_false hj])) ?_
    refine wp_exit (hX v1 a2 w1 (h2.pick [0,1,2]) ?_)
    rwa [List.take_of_length_le (by omega)] at hs1
  refine wp_cond_true ((h2.eval (k := 44) (v := .bool (decide (j<n2))) (by simp)).trans (by rw [decide_eq_true hj])) ?_
  refine wp_skip ?_
  show Code.wp _ _ _ a2 w1
  have hjl:j<ts.length := by omega
  obtain ⟨b,o,cs,rfl,hSb,hr,hc⟩ := Rep.Sl.at_ hl (List.getElem?_eq_getElem hjl)
  obtain ⟨Ae,n3,c3,Be,n4,c4,rfl,_,_,_,_⟩ := Fm.shape hr
  have hold:∀k,S k→w1.heap[k]?=w.heap[k]? := fun k hk=>hb1.block k (hS k hk)
  have hbs := hb1.size
  have hbo := hs1.b.size
  have hkb := hold b hSb
  have e0:w1.cell? ⟨b,o+j * 4,none⟩=_ := (cell_keep hkb _).trans (hc 0 _ rfl)
  have e1:w1.cell? ⟨b,o+j * 4+1,none⟩=_ := (cell_keep hkb _).trans (hc 1 _ rfl)
  have e2:w1.cell? ⟨b,o+j * 4+2,none⟩=_ := (cell_keep hkb _).trans (hc 2 _ rfl)
  have e3:w1.cell? ⟨b,o+j * 4+3,none⟩=_ := (cell_keep hkb _).trans (hc 3 _ rfl)
  have hln1:((fmFreess bd (ts.take j)).foldl putB l).length+(fmFrees bd ts[j]).length≤1000000 := by
    have := fmFreess_at_le bd ts j hjl
    have := puts_len (fmFreess bd (ts.take j)) l
    omega
  refine wp_seq ?_
  refine wp_block ?_
  refine wp_seq ?_
  refine cs_r11_wp (fun a3 h3=>?_) a2 (h2.pick [0,1,2,3,4,5])
  have hcall := ih ts[j] _ w1 v1 _ (List.getElem_mem hjl) (fmRep.keep hr hold (fun _ h=>h)) (fun k hk=>by have := hS k hk; omega) (hbd.keep hold (fun _ h=>h)) (by omega) hs1.r hs1.z hln1
  refine cs_r12_wp hj hs1.a e0 e1 e2 e3 (by have := hS b hSb; omega) hcall (fun v4 a4 w4 h4 hp=>?_) a3 h3
  show Code.wp _ _ _ a4 w4
  refine cs_r13_wp hj (by omega) (fun a5 h5=>?_) a4 h4
  refine ⟨g - 1,by omega,j+1,v4,by omega,?_,hb1.trans (hp.2.2.mono hbs),h5⟩
  rw [fmFreess_take bd ts j hjl,List.foldl_append]
  exact hs1.step hp.2.2 hp.1 hp.2.1
def c_cs_p9 := sp 99 15 cF62
theorem refConsts_any:∀(N:Nat) (t:Fm) (cs:List Value) (w:World) (S:Nat→Prop) (D:Option Addr) (m e:Nat) (bd:List ByteArray) (B0:Nat) (v:Value) (l:List ByteArray),t.nodes≤N→fmRep.R w S t cs→(∀k,S k→k<w.heap.size)→strRep.Sl w S (.slice D m e) bd→bd.length+N≤1000000→B0≤w.heap.size→w.ownsRow B0 9 1 v l.length (l.map .string)→(∀s∈l,s.size≤maxLen)→l.length+(fmFrees bd t).length≤1000000 →
    Calls Tryd.prog 62 #[.agg cs.toArray,.slice D m e,v] w (fun e w'=>∃v',e=.returned v'∧(w'.ownsRow B0 9 1 v' ((fmFrees bd t).foldl putB l).length (((fmFrees bd t).foldl putB l).map .string)∧(∀s∈(fmFrees bd t).foldl putB l,s.size≤maxLen)∧Below w.heap.size w w')) := by
  intro N
  induction N with
  | zero=>intro t; have := t.nodes_pos; intros; omega
  | succ N ih =>
  intro t cs w S D m e bd B0 v l hN ht hS hbd hdn hB0 hrow hz hln
  obtain ⟨⟨kd,nm,ws⟩,ts⟩ := t
  obtain ⟨u,v9,rfl,hnm,hw,hl⟩ := Fm.open_ ht
  simp only at hw hnm
  obtain ⟨A,n1,c1,rfl,e1,hm1,_⟩ := id hw
  obtain ⟨B,n2,c2,rfl,e2,hm2,_⟩ := id hl
  have hbm:bd.length=m := by
    obtain ⟨_,_,_,e9,h9,_⟩ := id hbd
    injection e9 with _ e9 _
    rw [e9,h9]
  clear ht
  simp only [fmFrees] at hln
  rw [List.length_append] at hln
  go_enter Tryd.func62,Tryd.ntmps62
  refine wp_seq ?_
  refine cs_r0_wp (fun a0 h0=>?_) _ (by exact fR rfl rfl rfl)
  refine gen_last (fun wx=>CT B0 w wx v l kd nm A n1 c1 B n2 c2) (⟨heap_at (by simp),hrow.alloc _,hz,(Below.refl _ _).alloc (Nat.le_refl _) _⟩) ?_
  intro w0 hs
  refine wp_seq ?_
  refine wp_seq ?_
  refine cs_r1_wp hs (fun a1 h1=>?_) a0 h0
  refine wp_block ?_
  refine cs_wl_wp hS hbd hw hB0 (by omega) hs (fun v2 a2 w2 h2 hs2=>?_) a1 h1
  refine inBlock_exit ?_
  show Code.wp _ _ _ a2 w2
  have hl2:(((ws.filter (fun x=>!hasB bd x)).foldl putB l)).length≤l.length+(ws.filter (fun x=>!hasB bd x)).length := puts_len _ _
  have p9:∀(a5:Act) (w5:World) (S':Nat→Prop) (D:Option Addr) (m e:Nat) (bd':List ByteArray),bd'=(if kd=8∨kd=9 then bd++[nm] else bd)→CT B0 w w5 v2 ((ws.filter (fun x=>!hasB bd x)).foldl putB l) kd nm A n1 c1 B n2 c2→(∀k,S k→S' k)→(∀k,S' k→k<w5.heap.size)→strRep.Sl w5 S' (.slice D m e) bd'→bd'.length+N≤1000000→Frm 56 [(1,.slice D m e),(2,v2),(3,.pointer (some ⟨w.heap.size,0,none⟩))] a5→Code.wp Tryd.prog c_cs_p9 (bodyPost Tryd.prog Tryd.f62 (fun e w'=>∃v',e=.returned v'∧(w'.ownsRow B0 9 1 v' ((fmFrees bd (.mk ⟨kd,nm,ws⟩ ts)).foldl putB l).length (((fmFrees bd (.mk ⟨kd,nm,ws⟩ ts)).foldl putB l).map .string)∧(∀s∈(fmFrees bd (.mk ⟨kd,nm,ws⟩ ts)).foldl putB l,s.size≤maxLen)∧Below w.heap.size w w'))) a5 w5 := by
    intro a5 w5 S' D m e bd' ebd hs5 hsub hS5 hbd5 hn5 h5
    conv=>arg 2; whnf
    refine wp_seq ?_
    refine wp_seq ?_
    refine cs_r9_wp hs5 (fun a6 h6=>?_) a5 h5
    refine wp_block ?_
    have hold := fun k hk=>hs5.b.block k (hS k hk)
    have hbs := hs5.b.size
    rw [← ebd] at hln
    refine cs_sl_wp (S := S') hS5 hbd5 (hl.keep hold hsub) hB0 (by omega) hs5 (fun t cs W v1 l1 htl hr hS9 hbd9 hB9 hr9 hz9 hln9=>?_) (fun v7 a7 w7 h7 hs7=>?_) a6 h6
    · have hnd:t.nodes≤N := by
        obtain ⟨j,hj,rfl⟩ := List.getElem_of_mem htl
        have := Tree.nodes_at ts j hj
        simp [Tree.nodes] at hN
        omega
      exact ih t cs W S' D m e bd' B0 v1 l1 hnd hr hS9 hbd9 hn5 hB9 hr9 hz9 hln9
    · refine inBlock_exit ?_
      show Code.wp _ _ _ a7 w7
      refine wp_seq ?_
      refine cs_r14_wp (fun a8 h8=>?_) a7 h7
      refine wp_ret ?_
      refine cs_ret_wp ⟨v7,rfl,?_⟩ a8 h8
      have e9:(fmFrees bd (.mk ⟨kd,nm,ws⟩ ts)).foldl putB l=(fmFreess bd' ts).foldl putB ((ws.filter (fun x=>!hasB bd x)).foldl putB l) := by
        simp only [fmFrees]
        rw [← ebd,List.foldl_append]
      rw [e9]
      exact ⟨hs7.r,hs7.z,hs7.b⟩
  refine wp_seq ?_
  refine wp_seq ?_
  refine cs_r7_wp hs2 (fun a3 h3=>?_) a2 h2
  have hbs2 := hs2.b.size
  have hold2 := fun k hk=>hs2.b.block k (hS k hk)
  have hS3:∀k,S k→k<w2.heap.size := fun k hk=>by have := hS k hk; omega
  have hbd3 := hbd.keep hold2 (fun _ h=>h)
  have hq:isQu kd=true ↔ kd=8∨kd=9 := by unfold isQu; simp
  cases hk:isQu kd
  · rw [hk] at h3
    refine wp_cond_false ((h3.eval (k := 32) (v := .bool false) (by simp)).trans (by rw [show false=false from rfl])) ?_
    refine wp_skip ?_
    exact p9 a3 w2 S D m e bd (by rw [if_neg (fun h=>by rw [hq.2 h] at hk; cases hk)]) hs2 (fun _ h=>h) hS3 hbd3 (by omega) (h3.pick [0,1,2])
  · rw [hk] at h3
    refine wp_cond_true ((h3.eval (k := 32) (v := .bool true) (by simp)).trans (by rw [show true=true from rfl])) ?_
    have k89:kd=8∨kd=9 := hq.1 hk
    refine Code.wp_mono (Q := Exit.then (fun a' w'=>∃u6:Value,Frm 56 [(1,u6),(2,v2),(3,.pointer (some ⟨w.heap.size,0,none⟩))] a'∧w'.ownsRow w2.heap.size 9 1 u6 (m+1) (bd.map .string++[.string nm])∧Below w2.heap.size w2 w') (fun _ _ _=>False)) ?_ (cs_r8_wp (by omega) hbd3 hS3 hs2 (fun u6 a5 w5 h5 hrow hb5=>⟨u6,h5,hrow,hb5⟩) a3 (h3.pick [0,1,2]))
    intro ex a4 w4 hx
    cases ex with
    | normal =>
      obtain ⟨u6,h6,hr6,hb6⟩ := hx
      have hlen:(bd++[nm]).length=m+1 := by simp [hbm]
      have hrow':w4.ownsRow w2.heap.size 9 1 u6 (bd++[nm]).length ((bd++[nm]).map .string) := by rw [hlen]; simpa using hr6
      have hbz:∀s∈bd++[nm],s.size≤maxLen := by
        intro s hs
        rcases List.mem_append.1 hs with hs | hs
        · obtain ⟨j,hj,rfl⟩ := List.getElem_of_mem hs
          obtain ⟨_,_,_,_,_,⟨_,hz⟩,_⟩ := Rep.Sl.at_ (A := D) (n := m) (c := e) hbd (List.getElem?_eq_getElem hj)
          exact hz
        · simp at hs; subst hs; exact hnm
      have hbd6 := sl_of_row (S := fun k=>S k∨u6.ownBlock=some k) hrow' hbz (by rw [hlen]; unfold maxLen; omega) (fun k hk=>Or.inr hk)
      have hlt := hr6.lt
      obtain ⟨D6,m6,e6,rfl,h66,_⟩ := id hbd6
      have hm6:m6=m+1 := by rw [← h66,hlen]
      subst hm6
      have hbs6 := hb6.size
      refine p9 a4 w4 (fun k=>S k∨(Value.slice D6 (m+1) e6).ownBlock=some k) D6 (m+1) e6 (bd++[nm]) (by rw [if_pos k89]) (hs2.below hb6) (fun k h=>Or.inl h) (fun k hk=>?_) hbd6 (by simp; omega) h6
      rcases hk with hk | hk
      · have := hS3 k hk; omega
      · exact (hlt k hk).2
    | _=>exact hx.elim
theorem refConstsOf_any (t:Fm) (cs:List Value) (w:World) (S:Nat→Prop) (ht:fmRep.R w S t cs) (hS:∀b,S b→b<w.heap.size) (hn:t.nodes≤1000000) (hln:(fmFrees [] t).length≤1000000) :
    Calls Tryd.prog 46 #[.agg cs.toArray] w fun e w'=>∃v,e=.returned v∧w'.ownsRow w.heap.size 9 1 v (fmConsts t).length ((fmConsts t).map .string)∧(∀s∈fmConsts t,s.size≤maxLen)∧Below w.heap.size w w' := by
  obtain ⟨A,n1,c1,B,n2,c2,rfl,_,_,_,_⟩ := Fm.shape ht
  obtain ⟨kd,hkd⟩:∃k,t.lab.kind=k := ⟨_,rfl⟩
  obtain ⟨nm,hnm⟩:∃k,t.lab.nm=k := ⟨_,rfl⟩
  rw [hkd,hnm] at ht ⊢
  have hv := fun (o:Obj)=>Lib.hid (refConsts_any t.nodes t [.int .i64 kd,.string nm,.slice A n1 c1,.slice B n2 c2] (w.alloc o) S none 0 0 [] w.heap.size (.slice none 0 0) [] (Nat.le_refl _) (fmRep.keep ht (fun b hb=>heap_old (hS b hb) rfl) (fun _ h=>h)) (fun b hb=>by have := hS b hb; simp; omega) Rep.Sl.nil (by simpa using hn) (by simp) (World.ownsRow_nil _ _ _ _) (by simp) (by simpa using hln))
  have he:(fmFrees [] t).foldl putB []=fmConsts t := puts_consts _
  rw [he] at hv
  clear ht hkd hnm
  have HV := Lib.hid hv
  clear hv
  go_enter Tryd.func46,Tryd.ntmps46
  go_wp2_with fail
  (with_reducible refine (HV.out _).out.mono ?_)
  rintro e w1 ⟨v1,rfl,hr,hz,hb1⟩
  have hb:Below w.heap.size w w1 := (show Below w.heap.size w _ by go_grown).trans (hb1.mono (by simp))
  clear hb1
  have HB := Lib.hid hb
  have HR := Lib.hid hr
  have HZ := Lib.hid hz
  clear hb hr hz
  go_wp2_with fail
  refine bodyPost_ret (v := v1) (by simp [results,Tryd.results46,go_sem]) rfl ?_
  exact ⟨v1,rfl,HR.out,HZ.out,HB.out⟩
end
noncomputable section
open Go Go.RowKit Go.Sort
set_option maxRecDepth 100000
set_option maxHeartbeats 4000000
variable {w:World} {base size n:Nat} {E:TypeId} {v:Value} {xs:List Value}

theorem ownsRow_rebase {base':Nat} (h:w.ownsRow base E size v n xs) (hb:∀k,v.ownBlock=some k→base'≤k):w.ownsRow base' E size v n xs := by
  obtain ⟨h1,h2 | ⟨g,cap,cur,e,hg,r⟩⟩ := h
  · exact ⟨h1,Or.inl h2⟩
  · exact ⟨h1,Or.inr ⟨g,cap,cur,e,hb g (by rw [e]; rfl),r⟩⟩
theorem ownsRow_cut {k cap g:Nat} (h:w.ownsRow base E 1 (.slice (some ⟨g,0,none⟩) n cap) n xs) (hk:k≤n):w.ownsRow base E 1 (.slice (some ⟨g,0,none⟩) k cap) k (xs.take k) := by
  obtain ⟨h1,⟨e,_⟩ | ⟨g',cap',cur,e,hg,hh,h2,h3,h4,h5⟩⟩ := h
  · cases e
  · injection e with e1 e2 e3
    injection e1 with e1
    injection e1 with e1 _ _
    subst e1 e3
    refine ⟨?_,Or.inr ⟨g,cap,cur,rfl,hg,hh,by omega,h3,h4,?_⟩⟩
    · rw [List.length_take]; omega
    · rw [← h5,List.take_take]
      congr 1
      omega
def ofB (l:List Bs):List ByteArray := l.map (fun x=>⟨x.toArray⟩)
theorem ofB_enc (l:List Bs):(ofB l).map Value.string=l.map encStr := by simp [ofB,encStr,Function.comp_def]
theorem map_enc (l:List ByteArray):l.map Value.string=(l.map dat).map encStr := by
  rw [List.map_map]
  exact List.map_congr_left (fun a _=>by simp only [Function.comp,encStr]; rw [mk_dat])
theorem compact_len (zs:List Bs):(Lib.compact zs).length≤zs.length := by
  unfold Lib.compact Lib.compactUpTo
  rw [List.length_map]
  exact Nat.le_trans (List.length_filter_le _ _) (by simp)
theorem sort_row {l:List ByteArray} (h:w.ownsRow base 9 1 v l.length (l.map .string)) (hle:l.length≤1000000) :
    Calls Tryd.prog 68 #[v] w fun e w'=>e=.returned (.tuple #[])∧w'.ownsRow base 9 1 v l.length ((ofB (sortS (l.map dat))).map .string)∧w.grownBy w' v.ownBlock := by
  obtain ⟨h1,⟨e,h0⟩ | ⟨g,cap,cur,e,hg,hh,h2,h3,h4,h5⟩⟩ := id h
  · subst e
    obtain rfl:l=[] := List.length_eq_zero_iff.1 h0
    refine (Tryd.slices_Sort_string_none none 0 w).mono ?_
    rintro e w1 ⟨rfl,rfl⟩
    exact ⟨rfl,by simpa [ofB,sortS] using h,⟨rfl,rfl,rfl,Nat.le_refl _,fun _ _ _=>rfl⟩⟩
  · subst e
    have hlen:l.length=(l.map dat).length := by simp
    have hH:Holds encStr w g 0 (l.map dat).toArray := holds_of_block hh (by rw [← hlen,← map_enc]; rw [Nat.mul_one] at h5; exact h5)
    rw [hlen]
    refine (Tryd.slices_Sort_string g 0 cap (l.map dat) w hH (lt_heap hh) (by rw [← hlen]; omega)).mono ?_
    rintro e w1 ⟨rfl,n,os,rfl⟩
    refine ⟨rfl,?_,grownBy_sorted _⟩
    rw [ofB_enc]
    exact ownsRow_sorted (ss := l.map dat) (by simp) hg hh (by rw [← hlen]; exact h2) h3 h4
theorem compact_row {d:List Bs} (h:w.ownsRow base 9 1 v d.length ((ofB d).map .string)) :
    Calls Tryd.prog 69 #[v] w fun e w'=>∃v',e=.returned v'∧w'.ownsRow base 9 1 v' (ofB (Lib.compact d)).length ((ofB (Lib.compact d)).map .string)∧w.grownBy w' v.ownBlock := by
  have hl2:(ofB (Lib.compact d)).length=(Lib.compact d).length := by simp [ofB]
  rw [hl2]
  obtain ⟨h1,⟨e,h0⟩ | ⟨g,cap,cur,e,hg,hh,h2,h3,h4,h5⟩⟩ := id h
  · subst e
    obtain rfl:d=[] := List.length_eq_zero_iff.1 h0
    refine (Tryd.slices_Compact_string_empty none 0 w).mono ?_
    rintro e w1 ⟨rfl,rfl⟩
    exact ⟨_,rfl,h,⟨rfl,rfl,rfl,Nat.le_refl _,fun _ _ _=>rfl⟩⟩
  · subst e
    have hcl := compact_len d
    have hH:Holds encStr w g 0 d.toArray := holds_of_block hh (by rw [← ofB_enc]; rw [Nat.mul_one] at h5; exact h5)
    refine (Tryd.slices_Compact_string g 0 cap d w hH (by unfold maxLen at h3; omega) h2).mono ?_
    rintro e w1 ⟨rfl,q,rfl⟩
    have hr := ownsRow_sorted (w := w) (base := base) (n := q) (os := #[]) (ss := d) (ts := Lib.compact d++List.replicate (d.length - (Lib.compact d).length) []) (by simp; omega) hg hh h2 h3 h4
    rw [grow_empty] at hr
    refine ⟨_,rfl,?_,?_⟩
    · have hc := ownsRow_cut hr hcl
      rw [← List.map_take,List.take_left] at hc
      rw [ofB_enc]
      exact hc
    · have := grownBy_sorted (w := w) (g := g) (n := q) (os := #[]) (Lib.compact d++List.replicate (d.length - (Lib.compact d).length) []).toArray
      rw [grow_empty] at this
      exact this
theorem below_of_grownBy {w':World} {B:Nat} (h:w.grownBy w' v.ownBlock) (hv:∀k,v.ownBlock=some k→B≤k) (hB:B≤w.heap.size):Below B w w' :=
  ⟨h.os,h.tape,h.output,h.size,fun k hk=>h.block k (by omega) (fun e=>by have := hv k e.symm; omega)⟩
theorem own_ge (h:w.ownsRow base E size v n xs):∀k,v.ownBlock=some k→base≤k := fun k e=>(h.lt k e).1
theorem constants_any (t:Fm) (cs:List Value) (w:World) (S:Nat→Prop) (ht:fmRep.R w S t cs) (hS:∀b,S b→b<w.heap.size) (hn:t.nodes≤1000000) (hln:(fmFrees [] t).length≤1000000) :
    Calls Tryd.prog 50 #[.agg cs.toArray] w fun e w'=>∃v,e=.returned v∧w'.ownsRow w.heap.size 9 1 v (fmConsts t).length ((fmConsts t).map .string)∧Below w.heap.size w w' := by
  obtain ⟨A,n1,c1,B,n2,c2,rfl,_,_,_,_⟩ := Fm.shape ht
  obtain ⟨kd,hkd⟩:∃k,t.lab.kind=k := ⟨_,rfl⟩
  obtain ⟨nm,hnm⟩:∃k,t.lab.nm=k := ⟨_,rfl⟩
  rw [hkd,hnm] at ht ⊢
  have hv:∀W:World,W.heap.size=w.heap.size+1+1+1→(∀b,b<w.heap.size→W.heap[b]?=w.heap[b]?)→W.heap[w.heap.size+1]?=some (.cells #[.slice none 0 0] 26 (0,0))→W.heap[w.heap.size+1+1]?=some (.cells #[.func (Fn.func 66) #[] #[.pointer (some ⟨w.heap.size+1,0,none⟩),.pointer (some ⟨w.heap.size+1+1,0,none⟩)]] 105 (0,0)) →
      Calls Tryd.prog 66 #[.agg #[.int .i64 kd,.string nm,.slice A n1 c1,.slice B n2 c2],.slice none 0 0,.pointer (some ⟨w.heap.size+1,0,none⟩),.pointer (some ⟨w.heap.size+1+1,0,none⟩)] W fun e w'=>e=.returned (.tuple #[])∧∃v',w'.heap[w.heap.size+1]?=some (.cells #[v'] 26 (0,0))∧w'.ownsRow w.heap.size 9 1 v' (fmFrees [] t).length ((fmFrees [] t).map .string)∧v'.ownBlock≠some (w.heap.size+1)∧Below w.heap.size W w' := by
    intro W hz hk h1 h2
    refine (frees_any t.nodes t [.int .i64 kd,.string nm,.slice A n1 c1,.slice B n2 c2] W (fun k=>S k∨k=w.heap.size+1+1) none 0 0 [] (w.heap.size+1) (w.heap.size+1+1) (.slice none 0 0) [] (Nat.le_refl _) (fmRep.keep ht (fun b hb=>hk b (hS b hb)) (fun _ h=>Or.inl h)) (fun k hk=>⟨?_,?_,by simp [Value.ownBlock]⟩) Rep.Sl.nil (Nat.le_refl _) (fun _=>rfl) (by simpa using hn) (Or.inr rfl) h2 ⟨h1,World.ownsRow_nil _ _ _ _,by simp [Value.ownBlock]⟩ (by simpa using hln)).mono ?_
    · rcases hk with hk | rfl
      · have := hS k hk; omega
      · omega
    · rcases hk with hk | rfl
      · have := hS k hk; omega
      · omega
    · rintro e w1 ⟨rfl,v',hb,hl⟩
      have hge:∀k,v'.ownBlock=some k→w.heap.size≤k := fun k e=>by
        rcases hl.at_ k e with e | e
        · simp [Value.ownBlock] at e
        · omega
      refine ⟨rfl,v',hb.box,?_,hb.ne,⟨hl.os,hl.tape,hl.output,hl.size,fun k hk=>hl.block k (by omega) (by omega) (by simp [Value.ownBlock])⟩⟩
      have := ownsRow_rebase hb.row hge
      simpa using this
  have efin:ofB (Lib.compact (sortS ((fmFrees [] t).map dat)))=fmConsts t := rfl
  have hlenS:(fmFrees [] t).length=(sortS ((fmFrees [] t).map dat)).length := by simp [sortS]
  clear ht hkd hnm
  have HV := Lib.hid hv
  have HS := Lib.hid hS
  clear hv hS
  go_enter Tryd.func50,Tryd.ntmps50
  go_wp2_with fail
  (with_reducible refine (HV.out _ ?hz ?hk ?h1 ?h3).mono ?_)
  case hz=>simp
  case hk=>exact fun b hb=>heap_old (by first | (simp; done) | (simp; omega)) (heap_old (by first | (simp; done) | (simp; omega)) (heap_old hb rfl))
  case h1=>exact heap_old (by first | (simp; done) | (simp; omega)) (heap_at (by simp))
  case h3=>exact heap_at (by simp)
  rintro e w1 ⟨rfl,v1,hbox,hrow,hne,hk1⟩
  have hb:Below w.heap.size w w1 := (show Below w.heap.size w _ by go_grown).trans hk1
  have h0 := cellv hbox 0 rfl
  have hl := lt_heap hbox
  have hs := sort_row hrow hln
  clear hk1
  have HB := Lib.hid hb
  have HS := Lib.hid hs
  have HBOX := Lib.hid hbox
  have HROW := Lib.hid hrow
  have HNE := Lib.hid hne
  have EFIN := Lib.hid efin
  have HLENS := Lib.hid hlenS
  clear hb hs hbox hrow hne efin hlenS
  go_wp2_with fail
  (with_reducible refine HS.out.mono ?_)
  rintro e w2 ⟨rfl,hrow2,hg2⟩
  have hbox2 := (hg2.block (w.heap.size+1) (lt_heap HBOX.out) (fun e=>HNE.out e.symm)).trans HBOX.out
  have hb2 := HB.out.trans (below_of_grownBy hg2 (own_ge HROW.out) HB.out.size)
  have h20 := cellv hbox2 0 rfl
  have hl2 := lt_heap hbox2
  rw [HLENS.out] at hrow2
  have hc := compact_row hrow2
  have HROW2 := Lib.hid hrow2
  clear hg2 h0 hl hbox2 hrow2
  have HB2 := Lib.hid hb2
  have HC := Lib.hid hc
  clear hb2 hc
  go_wp2_with fail
  (with_reducible refine HC.out.mono ?_)
  rintro e w3 ⟨v3,rfl,hrow3,hg3⟩
  have hb3 := HB2.out.trans (below_of_grownBy hg3 (own_ge HROW2.out) HB2.out.size)
  rw [EFIN.out] at hrow3
  clear h20 hl2 hg3
  have HB3 := Lib.hid hb3
  have HROW3 := Lib.hid hrow3
  clear hb3 hrow3
  go_wp2_with fail
  refine bodyPost_ret (v := v3) (by simp [results,Tryd.results50,go_sem]) rfl ?_
  exact ⟨v3,rfl,HROW3.out,HB3.out⟩
end
noncomputable section
variable {w:ByteArray} {m:Md}

def digs (sz:Nat):Nat→Nat→List Int
  | 0,_=>[]
  | n+1,i=>digs sz n (i / sz)++[((i % sz:Nat):Int)]
theorem digs_length (sz:Nat):∀n i,(digs sz n i).length=n
  | 0,_=>rfl
  | n+1,i=>by simp [digs,digs_length sz n]
theorem digs_snoc {sz v:Nat} (h:v<sz) (n i:Nat):digs sz (n+1) (i * sz+v)=digs sz n i++[(v:Int)] := by
  show digs sz n ((i * sz+v) / sz)++[(((i * sz+v) % sz:Nat):Int)]=_
  rw [show (i * sz+v) / sz=i from by rw [Nat.mul_comm,Nat.mul_add_div (by omega),Nat.div_eq_of_lt h]; omega,show (i * sz+v) % sz=v from by rw [Nat.mul_comm,Nat.mul_add_mod,Nat.mod_eq_of_lt h]]
theorem digs_good {sz:Nat} (h:0<sz):∀(n i:Nat),∀v∈digs sz n i,0≤v∧v<(sz:Int)
  | 0,_,v,hv=>by simp [digs] at hv
  | n+1,i,v,hv=>by
    unfold digs at hv
    rcases List.mem_append.1 hv with hv | hv
    · exact digs_good h n _ v hv
    · have := List.mem_singleton.1 hv
      have := Nat.mod_lt i h
      omega
def tab (m:Md) (f:Fv) (vars:List ByteArray):List Bool := (List.range (m.sz.toNat ^ vars.length)).map (fun i=>evalF m f (vars.zip (digs m.sz.toNat vars.length i)))
theorem tab_length (m:Md) (f:Fv) (vars:List ByteArray):(tab m f vars).length=m.sz.toNat ^ vars.length := by simp [tab]
theorem tab_at (m:Md) (f:Fv) (vars:List ByteArray) {i:Nat} (h:i<m.sz.toNat ^ vars.length):(tab m f vars)[i]?=some (evalF m f (vars.zip (digs m.sz.toNat vars.length i))) := by
  unfold tab
  rw [List.getElem?_map,List.getElem?_range h]; rfl
theorem tab_kid (m:Md) (f:Fv) (x:ByteArray) (vars:List ByteArray) {i v:Nat} (h:i<m.sz.toNat ^ vars.length) (hv:v<m.sz.toNat):i * m.sz.toNat+v<m.sz.toNat ^ (vars++[x]).length∧(tab m f (vars++[x]))[i * m.sz.toNat+v]?=some (evalF m f (vars.zip (digs m.sz.toNat vars.length i)++[(x,(v:Int))])) := by
  have h1:i * m.sz.toNat+v<m.sz.toNat ^ (vars++[x]).length := by
    rw [List.length_append,List.length_singleton,Nat.pow_succ]
    have := Nat.mul_le_mul_right m.sz.toNat (show i+1≤m.sz.toNat ^ vars.length by omega)
    rw [Nat.add_mul,Nat.one_mul] at this
    omega
  refine ⟨h1,?_⟩
  rw [tab_at m f _ h1,List.length_append,List.length_singleton,digs_snoc hv,List.zip_append (by rw [digs_length])]
  rfl
theorem envV_step (l:List (ByteArray × Int)) (x:ByteArray) (k:Nat) (h:k<l.length):envV (l.drop k) x=(envV (l.drop (k+1)) x).or (if l[k].1=x then some l[k].2 else none) := by
  rw [List.drop_eq_getElem_cons h]
  rfl
theorem envV_some (l:List (ByteArray × Int)) (x:ByteArray) (v:Int):∀(k:Nat),envV (l.drop k) x=some v→envV l x=some v
  | 0,h=>by simpa using h
  | k+1,h=>by
    by_cases hk:k<l.length
    · refine envV_some l x v k ?_
      rw [envV_step l x k hk,h]; rfl
    · rw [List.drop_eq_nil_of_le (by omega)] at h
      cases h
theorem envV_mem {x:ByteArray} {v:Int}:∀{l:List (ByteArray × Int)},envV l x=some v→(x,v)∈l
  | [],h=>by cases h
  | (y,u) :: l,h=>by
    unfold envV at h
    cases he:envV l x with
    | some z=>rw [he] at h; cases h; exact List.mem_cons_of_mem _ (envV_mem he)
    | none =>
      rw [he] at h
      by_cases hy:y=x
      · rw [if_pos hy] at h; cases h; rw [hy]; exact List.mem_cons_self
      · rw [if_neg hy] at h; cases h
def conL (l:List Con) (w:ByteArray):Option Int := (l.find? (fun c=>decide (cmpS c.nm w=0))).map Con.v
theorem conL_take (l:List Con) (w:ByteArray) (j:Nat) (h:j<l.length):conL (l.take (j+1)) w=(conL (l.take j) w).or (if l[j].nm=w then some l[j].v else none) := by
  unfold conL
  rw [List.take_succ_eq_append_getElem h,List.find?_append]
  cases (l.take j).find? (fun c=>decide (cmpS c.nm w=0)) with
  | some z=>rfl
  | none =>
    by_cases hy:l[j].nm=w
    · rw [if_pos hy,List.find?_cons_of_pos (by simpa [cmpS_eq] using hy)]; rfl
    · rw [if_neg hy,List.find?_cons_of_neg (by simpa [cmpS_eq] using hy)]; rfl
theorem conL_mem {l:List Con} {v:Int} (h:conL l w=some v):∃c∈l,c.v=v := by
  unfold conL at h
  cases hf:l.find? (fun c=>decide (cmpS c.nm w=0)) with
  | none=>rw [hf] at h; cases h
  | some c=>rw [hf] at h; cases h; exact ⟨c,List.mem_of_find?_eq_some hf,rfl⟩
def wordT (m:Md) (e:List (ByteArray × Int)) (w:ByteArray):Int := ((envV e w).or (conV m w)).getD (-1)
theorem wordT_eq {e:List (ByteArray × Int)} (h:(envV e w).isSome∨(conV m w).isSome):wordT m e w=wordV m e w := by
  unfold wordT wordV
  cases he:envV e w with
  | some v=>rfl
  | none =>
    rw [he] at h
    rcases h with h | h
    · cases h
    · cases hc:conV m w with
      | some v=>rfl
      | none=>rw [hc] at h; cases h
theorem wordT_good (hg:m.good) {e:List (ByteArray × Int)} (hev:∀p∈e,badV m.sz p.2=false) {w:ByteArray} (h:(envV e w).isSome∨(conV m w).isSome):badV m.sz (wordT m e w)=false := by
  unfold wordT
  cases he:envV e w with
  | some v=>exact hev _ (envV_mem he)
  | none =>
    rw [he] at h
    rcases h with h | h
    · cases h
    · cases hc:conV m w with
      | some v =>
        obtain ⟨c,hcm,rfl⟩ := conL_mem (l := m.cs) hc
        exact (hg.ck c hcm).2
      | none=>rw [hc] at h; cases h
theorem code_inj {sz:Int} (hs:1≤sz):∀(a b:List Int),a.length=b.length→a.any (badV sz)=false→b.any (badV sz)=false→codeN sz 0 a=codeN sz 0 b→a=b
  | [],[],_,_,_,_=>rfl
  | [],_ :: _,h,_,_,_=>by simp at h
  | _ :: _,[],h,_,_,_=>by simp at h
  | u :: l,v :: r,h,h1,h2,he=>by
    simp only [List.length_cons,Nat.add_right_cancel_iff] at h
    simp only [List.any_cons,Bool.or_eq_false_iff] at h1 h2
    have ih := code_inj hs l r h h1.2 h2.2
    obtain ⟨b1,b2⟩ := codeN_bound hs l h1.2
    obtain ⟨b3,b4⟩ := codeN_bound hs r h2.2
    have hp:0<sz ^ l.length := Int.pow_pos (by omega)
    simp only [codeN,Int.zero_mul,Int.zero_add] at he
    rw [codeN_lin sz l,codeN_lin sz r,← h] at he
    rw [← h] at b4
    rcases Int.lt_trichotomy u v with e1 | e1 | e1
    · have := Int.mul_le_mul_of_nonneg_right (show u+1≤v by omega) (show (0:Int)≤sz ^ l.length by omega)
      rw [Int.add_mul,Int.one_mul] at this; omega
    · subst e1
      rw [ih (by omega)]
    · have := Int.mul_le_mul_of_nonneg_right (show v+1≤u by omega) (show (0:Int)≤sz ^ l.length by omega)
      rw [Int.add_mul,Int.one_mul] at this; omega
def tupsHit (sz:Int) (t:List Int) (l:List (List Int)):Bool := l.any (fun u=>decide (codeN sz 0 u=codeN sz 0 t))
def relHit (sz:Int) (n:ByteArray) (t:List Int) (x:Rel):Bool := decide (x.nm=n) && decide (x.ar=(t.length:Nat)) && tupsHit sz t x.tp
def relsHit (sz:Int) (n:ByteArray) (t:List Int) (l:List Rel):Bool := l.any (relHit sz n t)
theorem tupsHit_take (sz:Int) (t:List Int) (l:List (List Int)) (j:Nat) (h:j<l.length):tupsHit sz t (l.take (j+1))=(tupsHit sz t (l.take j) || decide (codeN sz 0 l[j]=codeN sz 0 t)) := by
  unfold tupsHit
  rw [List.take_succ_eq_append_getElem h,List.any_append]; simp
theorem relsHit_take (sz:Int) (n:ByteArray) (t:List Int) (l:List Rel) (j:Nat) (h:j<l.length):relsHit sz n t (l.take (j+1))=(relsHit sz n t (l.take j) || relHit sz n t l[j]) := by
  unfold relsHit
  rw [List.take_succ_eq_append_getElem h,List.any_append]; simp
theorem any_find {α:Type} {p q:α→Bool}:∀{l:List α},l.Pairwise (fun a b=>¬ (p a=true∧p b=true))→l.any (fun x=>p x && q x)=(l.find? p).any q
  | [],_=>rfl
  | a :: l,h=>by
    obtain ⟨h1,h2⟩ := List.pairwise_cons.1 h
    cases ha:p a
    · rw [List.any_cons,ha,List.find?_cons_of_neg (by simp [ha]),any_find h2]; rfl
    · rw [List.any_cons,ha,List.find?_cons_of_pos ha]
      have:l.any (fun x=>p x && q x)=false := by
        rw [List.any_eq_false]
        intro x hx
        have := h1 x hx
        simp only [ha,true_and,Bool.not_eq_true] at this
        simp [this]
      rw [this]; simp
theorem tupsHit_eq {sz:Int} (hs:1≤sz) {x:Rel} (hx:x.good sz) {t:List Int} (hl:x.ar=(t.length:Nat)) (ht:t.any (badV sz)=false):tupsHit sz t x.tp=(x.tp.find? (fun u=>decide (cmpL u t=0))).isSome := by
  rw [Bool.eq_iff_iff,List.find?_isSome]
  unfold tupsHit
  rw [List.any_eq_true]
  constructor
  · rintro ⟨u,hu,he⟩
    obtain ⟨g1,g2⟩ := hx.2.2.2.2 u hu
    refine ⟨u,hu,?_⟩
    rw [decide_eq_true_eq,cmpL_eq]
    exact code_inj hs u t (by omega) g2 ht (by simpa using he)
  · rintro ⟨u,hu,he⟩
    rw [decide_eq_true_eq,cmpL_eq] at he
    exact ⟨u,hu,by rw [he]; simp⟩
theorem relsHit_eq (hg:m.good) (n:ByteArray) {t:List Int} (ht:t.any (badV m.sz)=false):relsHit m.sz n t m.rs=predV m n t := by
  have hp:m.rs.Pairwise (fun a b=>¬ ((decide (cmpR a ⟨n,t.length,[]⟩=0))=true∧(decide (cmpR b ⟨n,t.length,[]⟩=0))=true)) := by
    refine hg.rs.imp ?_
    rintro a b hab ⟨h1,h2⟩
    rw [decide_eq_true_eq,cmpR_eq] at h1 h2
    have:cmpR a b=0 := cmpR_eq.2 ⟨h1.1.trans h2.1.symm,h1.2.trans h2.2.symm⟩
    omega
  unfold predV relV
  rw [← any_find hp]
  unfold relsHit
  rw [Bool.eq_iff_iff,List.any_eq_true,List.any_eq_true]
  constructor
  · rintro ⟨x,hx,he⟩
    refine ⟨x,hx,?_⟩
    unfold relHit at he
    simp only [Bool.and_eq_true,decide_eq_true_eq] at he
    rw [tupsHit_eq hg.sz.1 (hg.rk x hx) he.1.2 ht] at he
    simp only [Bool.and_eq_true,decide_eq_true_eq,cmpR_eq]
    exact he
  · rintro ⟨x,hx,he⟩
    refine ⟨x,hx,?_⟩
    simp only [Bool.and_eq_true,decide_eq_true_eq,cmpR_eq] at he
    unfold relHit
    rw [tupsHit_eq hg.sz.1 (hg.rk x hx) he.1.2 ht]
    simp only [Bool.and_eq_true,decide_eq_true_eq]
    exact he
def wordsHave (m:Md) (bd:List ByteArray) (ws:List ByteArray):Prop := ∀w∈ws,w∈bd∨(conV m w).isSome
def haveF (m:Md):List ByteArray→Fv→Prop
  | _,.tru=>True
  | bd,.pred _ ws=>wordsHave m bd ws
  | bd,.same a b=>wordsHave m bd [a,b]
  | bd,.neg f=>haveF m bd f
  | bd,.bin _ f g=>haveF m bd f∧haveF m bd g
  | bd,.qu _ x f=>haveF m (bd++[x]) f
theorem envV_isSome:∀{l:List (ByteArray × Int)},w∈l.map Prod.fst→(envV l w).isSome
  | [],h=>by simp at h
  | (y,u) :: l,h=>by
    unfold envV
    by_cases hy:w∈l.map Prod.fst
    · have := envV_isSome hy
      cases he:envV l w with
      | some z=>rfl
      | none=>rw [he] at this; cases this
    · simp only [List.map_cons,List.mem_cons] at h
      rcases h with h | h
      · rw [if_pos h.symm]
        cases envV l w <;> rfl
      · exact absurd h hy
theorem zip_fst (vars:List ByteArray) (l:List Int) (h:l.length=vars.length):(vars.zip l).map Prod.fst=vars := by
  rw [List.map_fst_zip (by omega)]
theorem words_have {vars ws:List ByteArray} (h:wordsHave m vars ws) (l:List Int) (hl:l.length=vars.length):∀w∈ws,(envV (vars.zip l) w).isSome∨(conV m w).isSome := by
  intro w hw
  rcases h w hw with h1 | h1
  · exact Or.inl (envV_isSome (by rw [zip_fst _ _ hl]; exact h1))
  · exact Or.inr h1
theorem have_of:∀(v:Fv) (bd:List ByteArray),v.ok→(∀c∈fmFrees bd v.fm,(conV m c).isSome)→haveF m bd v
  | .tru,_,_,_=>trivial
  | .pred n ws,bd,_,h=>fun w hw=>by
    by_cases hb:hasB bd w=true
    · exact Or.inl (hasB_iff.1 hb)
    · exact Or.inr (h w (by simp only [Fv.fm,fmFrees,fmFreess,List.append_nil,List.mem_filter]; exact ⟨hw,by simpa using hb⟩))
  | .same a b,bd,_,h=>fun w hw=>by
    by_cases hb:hasB bd w=true
    · exact Or.inl (hasB_iff.1 hb)
    · exact Or.inr (h w (by simp only [Fv.fm,fmFrees,fmFreess,List.append_nil,List.mem_filter]; exact ⟨hw,by simpa using hb⟩))
  | .neg f,bd,hv,h=>have_of f bd hv (fun c hc=>h c (by simpa [Fv.fm,fmFrees,fmFreess] using hc))
  | .bin k f g,bd,hv,h=>by
    have hk := hv.1
    have hn:¬ ((k:Int)=8∨(k:Int)=9) := by omega
    have he:fmFrees bd (Fv.bin k f g).fm=fmFrees bd f.fm++fmFrees bd g.fm := by
      simp only [Fv.fm,fmFrees,fmFreess,List.filter_nil,List.nil_append,List.append_nil]
      rw [if_neg hn]
    rw [he] at h
    exact ⟨have_of f bd hv.2.1 (fun c hc=>h c (List.mem_append_left _ hc)),have_of g bd hv.2.2 (fun c hc=>h c (List.mem_append_right _ hc))⟩
  | .qu k x f,bd,hv,h=>by
    have hk := hv.1
    have hn:(k:Int)=8∨(k:Int)=9 := by omega
    have he:fmFrees bd (Fv.qu k x f).fm=fmFrees (bd++[x]) f.fm := by
      simp only [Fv.fm,fmFrees,fmFreess,List.filter_nil,List.nil_append,List.append_nil]
      rw [if_pos hn]
    rw [he] at h
    exact have_of f (bd++[x]) hv.2.2 h
end
noncomputable section
variable {β:Type} {m:Md}

def witF (m:Md):Fv→List (ByteArray × Int)→List (List Int)
  | .qu k x f,e=>if k=9 then (rangeV m).flatMap (fun z=>witF m f (e++[(x,z)])) else if evalF m (.qu k x f) e=true then [e.map Prod.snd] else []
  | .tru,e=>if evalF m .tru e=true then [e.map Prod.snd] else []
  | .pred n ws,e=>if evalF m (.pred n ws) e=true then [e.map Prod.snd] else []
  | .same a b,e=>if evalF m (.same a b) e=true then [e.map Prod.snd] else []
  | .neg f,e=>if evalF m (.neg f) e=true then [e.map Prod.snd] else []
  | .bin k f g,e=>if evalF m (.bin k f g) e=true then [e.map Prod.snd] else []
def leadV:Fv→List ByteArray
  | .qu k x f=>if k=9 then x :: leadV f else []
  | _=>[]
def leadB:Fv→Fv
  | .qu k x f=>if k=9 then leadB f else .qu k x f
  | f=>f
def rowT (m:Md) (b:Fv) (vs:List ByteArray) (i:Nat):Option (List Int) := if evalF m b (vs.zip (digs m.sz.toNat vs.length i))=true then some (digs m.sz.toNat vs.length i) else none
theorem flat_range (P:Nat) (G:Nat→Option β):∀n:Nat,(List.range n).flatMap (fun v=>(List.range P).filterMap (fun j=>G (v * P+j)))=(List.range (n * P)).filterMap G
  | 0=>by simp
  | n+1=>by
    rw [List.range_succ,List.flatMap_append,flat_range P G n,Nat.add_mul,Nat.one_mul,List.range_add,List.filterMap_append,List.filterMap_map]
    simp [Function.comp_def]
theorem zip_snd (vs:List ByteArray) (l:List Int) (h:l.length=vs.length):(vs.zip l).map Prod.snd=l := by
  rw [List.map_snd_zip (by omega)]
theorem flatMap_congr9 {α:Type} {l:List α} {f g:α→List β} (h:∀x∈l,f x=g x):l.flatMap f=l.flatMap g := by
  rw [List.flatMap_def,List.flatMap_def,List.map_congr_left h]
theorem wit_end {f:Fv} {vs:List ByteArray} {i:Nat} (h:witF m f (vs.zip (digs m.sz.toNat vs.length i))=if evalF m f (vs.zip (digs m.sz.toNat vs.length i))=true then [(vs.zip (digs m.sz.toNat vs.length i)).map Prod.snd] else []) (h1:leadV f=[]) (h2:leadB f=f):witF m f (vs.zip (digs m.sz.toNat vs.length i))=(List.range (m.sz.toNat ^ (leadV f).length)).filterMap (fun j=>rowT m (leadB f) (vs++leadV f) (i * m.sz.toNat ^ (leadV f).length+j)) := by
  rw [h,h1,h2,List.append_nil,zip_snd _ _ (digs_length _ _ _)]
  simp only [List.length_nil,Nat.pow_zero,Nat.mul_one]
  rw [show List.range 1=[0] from rfl]
  unfold rowT
  by_cases hb:evalF m f (vs.zip (digs m.sz.toNat vs.length i))=true
  · rw [if_pos hb,List.filterMap_cons,Nat.add_zero,if_pos hb]; rfl
  · rw [if_neg hb,List.filterMap_cons,Nat.add_zero,if_neg hb]; rfl
theorem wit_rows (hs:0<m.sz.toNat):∀(f:Fv) (vs:List ByteArray) (i:Nat),witF m f (vs.zip (digs m.sz.toNat vs.length i))=(List.range (m.sz.toNat ^ (leadV f).length)).filterMap (fun j=>rowT m (leadB f) (vs++leadV f) (i * m.sz.toNat ^ (leadV f).length+j))
  | .tru,_,_=>wit_end rfl rfl rfl
  | .pred _ _,_,_=>wit_end rfl rfl rfl
  | .same _ _,_,_=>wit_end rfl rfl rfl
  | .neg _,_,_=>wit_end rfl rfl rfl
  | .bin _ _ _,_,_=>wit_end rfl rfl rfl
  | .qu k x f,vs,i=>by
    by_cases hk:k=9
    · have e1:leadV (.qu k x f)=x :: leadV f := by simp [leadV,hk]
      have e2:leadB (.qu k x f)=leadB f := by simp [leadB,hk]
      have e3:witF m (.qu k x f) (vs.zip (digs m.sz.toNat vs.length i))=(rangeV m).flatMap (fun z=>witF m f (vs.zip (digs m.sz.toNat vs.length i)++[(x,z)])) := by
        conv=>lhs; unfold witF
        rw [if_pos hk]
      rw [e1,e2,e3,rangeV,List.flatMap_map]
      have ih:∀v,v<m.sz.toNat→witF m f (vs.zip (digs m.sz.toNat vs.length i)++[(x,(v:Int))])=(List.range (m.sz.toNat ^ (leadV f).length)).filterMap (fun j=>rowT m (leadB f) (vs++x :: leadV f) (i * m.sz.toNat ^ (x :: leadV f).length+(v * m.sz.toNat ^ (leadV f).length+j))) := by
        intro v hv
        have h := wit_rows hs f (vs++[x]) (i * m.sz.toNat+v)
        rw [List.length_append,List.length_singleton,digs_snoc hv,List.zip_append (by rw [digs_length])] at h
        rw [show [x].zip [(v:Int)]=[(x,(v:Int))] from rfl,List.append_assoc,List.singleton_append] at h
        rw [h]
        refine congrArg (fun F=>List.filterMap F _) (funext (fun j=>?_))
        rw [List.length_cons,Nat.pow_succ,Nat.add_mul,Nat.mul_assoc,Nat.mul_comm m.sz.toNat,Nat.add_assoc]
      rw [List.length_cons,Nat.pow_succ,Nat.mul_comm _ m.sz.toNat,← flat_range]
      refine flatMap_congr9 (fun v hv=>?_)
      rw [ih v (List.mem_range.1 hv),List.length_cons,Nat.pow_succ,Nat.mul_comm _ m.sz.toNat]
    · refine wit_end ?_ (by simp [leadV,hk]) (by simp [leadB,hk])
      conv=>lhs; unfold witF
      rw [if_neg hk]
def rowsT (m:Md) (b:Fv) (vs:List ByteArray):List (List Int) := (List.range (m.sz.toNat ^ vs.length)).filterMap (rowT m b vs)
theorem wit_eq (hs:0<m.sz.toNat) (f:Fv):witF m f []=rowsT m (leadB f) (leadV f) := by
  have h := wit_rows hs f [] 0
  simpa [digs,rowsT] using h
end
noncomputable section
variable {i g:Nat} {w:World} {L:List Value} {v:Value}

theorem made_list (v:Value) (n:Nat):madeCells #[v] n=(List.replicate n v).toArray := by
  apply Array.ext
  · simp [madeCells]
  · intro i h1 h2
    simp [madeCells,Nat.mod_one]
def partL (T:List Bool) (n i:Nat):List Bool := T.take i++List.replicate (n - i) false
theorem partL_zero (T:List Bool) (n:Nat):partL T n 0=List.replicate n false := by simp [partL]
theorem partL_full {T:List Bool} {n:Nat} (h:T.length=n):partL T n n=T := by
  unfold partL
  rw [List.take_of_length_le (by omega),Nat.sub_self]; simp
theorem partL_length {T:List Bool} {n:Nat} (h:T.length=n) (hi:i≤n):(partL T n i).length=n := by
  unfold partL
  rw [List.length_append,List.length_take,List.length_replicate]; omega
theorem partL_at {T:List Bool} {n:Nat} (h:T.length=n) (hi:i<n):(partL T n i)[i]?=some false := by
  unfold partL
  rw [List.getElem?_append_right (by rw [List.length_take]; omega),List.length_take,List.getElem?_replicate]
  rw [if_pos (by omega)]
theorem partL_set {T:List Bool} {n:Nat} (h:T.length=n) (hi:i<n) {b:Bool} (hb:T[i]?=some b):(partL T n i).set i b=partL T n (i+1) := by
  unfold partL
  rw [List.set_append_right _ _ (by rw [List.length_take]; omega),List.length_take,show i - min i T.length=0 from by omega,show n - i=(n - (i+1))+1 from by omega,List.replicate_succ,List.set_cons_zero]
  rw [List.take_add_one,hb]
  simp
theorem set_self9 {l:List Bool} {a:Bool} (h:l[i]?=some a):l.set i a=l := by
  apply List.ext_getElem?
  intro j
  by_cases hj:i=j
  · subst hj
    rw [List.getElem?_set_self',h]; rfl
  · rw [List.getElem?_set_ne hj]
theorem set_at {T:TypeId} (h:w.heap[g]?=some (.cells L.toArray T (0,0))):(w.setCell ⟨g,i,none⟩ v).heap[g]?=some (.cells (L.set i v).toArray T (0,0)) := by
  have h2 := heap_setCell_same w g i L.toArray T v h
  rw [h2,List.setIfInBounds_toArray]
theorem row_cell {T:TypeId} (h:w.heap[g]?=some (.cells L.toArray T (0,0))) (hi:L[i]?=some v):w.cell? ⟨g,i,none⟩=some v := by
  refine cell_heap h ?_
  simpa using hi
theorem row_free {T:TypeId} (h:w.heap[g]?=some (.cells L.toArray T (0,0))):w.frozen? ⟨g,i,none⟩=false := free_heap h i
theorem wrap64_ok {n:Int} (h0:-9223372036854775808≤n) (h1:n<9223372036854775808):RowKit.wrap64 n=n := by
  unfold RowKit.wrap64; omega
end

end Go.Proofs.YthfokmjpbnfihaaDoor
