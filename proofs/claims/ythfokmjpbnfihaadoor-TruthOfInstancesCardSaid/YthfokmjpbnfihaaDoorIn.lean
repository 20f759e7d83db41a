/- Lemmas. -/
import Derived.Test.YthfokmjpbnfihaaDoorProg
import Derived.Test.YthfokmjpbnfihaaDoorIe
import Derived.Deep.DeepCutAuto
import Derived.Deep.RegionLaw
import Derived.Deep.QuietTactic
import Derived.BigQuiet
namespace Go.Proofs.YthfokmjpbnfihaaDoor
open Go Go.RowKit
set_option linter.unusedSimpArgs false
set_option linter.unusedVariables false
noncomputable section
set_option maxRecDepth 1000000
set_option maxHeartbeats 16000000
variable {s_0 s_2 s_4 s_8 s_9 s_10:Value} {Q:Exit→Act→World→Prop} {tp p:ByteArray} {tq z q:Int} {TB A B:Option Addr} {tm td n c i j h b o m d:Nat} {wo w:World} {K:Act→World→Prop}

theorem frame_bl {P:Act→Prop} (h:∀x0 x1 x2 x3 x4 x5 x6 x7 x8 x9 x10 x11 x12 x13 x14 x15 x16 x17 x18 x19 x20 x21 x22 x23 x24 x25 x26 x27 x28 x29 x30 x31 x32 x33 x34 x35 x36 x37 x38 x39 x40 x41 x42 x43 x44 x45 x46 x47 x48:Value,P ⟨(x0 :: x1 :: x2 :: x3 :: x4 :: x5 :: x6 :: x7 :: x8 :: x9 :: x10 :: x11 :: x12 :: x13 :: x14 :: x15 :: x16 :: x17 :: x18 :: x19 :: x20 :: x21 :: x22 :: x23 :: x24 :: x25 :: x26 :: x27 :: x28 :: x29 :: x30 :: x31 :: x32 :: x33 :: x34 :: x35 :: x36 :: x37 :: x38 :: x39 :: x40 :: x41 :: x42 :: x43 :: x44 :: x45 :: x46 :: x47 :: x48 :: []).toArray,[]⟩):∀a:Act,a.tmps.toList.length=49→a.defers=[]→P a := by
  rintro ⟨⟨l⟩,d⟩ hs hd
  simp only at hd
  subst hd
  revert l
  show ∀l:List Value,l.length=49→P ⟨⟨l⟩,[]⟩
  iterate 49 refine openS (fun _=>?_)
  refine open0 ?_
  exact h ..
noncomputable def cF60:Code := Tryd.f60.body.getD .skip
def c_bl_r0 := sp 99 2 cF60
theorem bl_r0_wp (hN:∀a',Frm 49 [(0,s_0),(2,s_2),(4,.pointer (some ⟨wo.heap.size,0,none⟩))] a'→Q .normal a' (wo.alloc (.cells #[.string tp,.int .i64 tq,.slice TB tm td] 59))):∀ac,Frm 49 [(0,s_0),(1,.agg #[.string tp,.int .i64 tq,.slice TB tm td]),(2,s_2)] ac→Code.wp Tryd.prog c_bl_r0 Q ac wo := by
  refine fO (frame_bl ?_)
  intros
  rename_i hq
  iterate 3 (obtain ⟨e,hq⟩ := hq; obtain rfl := sI e; clear e)
  clear hq
  conv=>arg 2; whnf
  replace hN := Lib.hid hN
  go_wp2_with fail
  exact hN.out _ (by exact fR rfl rfl rfl)
def c_bl_r1 := sp 99 5 cF60
theorem bl_r1_wp (hN:∀a',Frm 49 [(0,.slice A n c),(2,s_2),(4,s_4),(8,.int .i64 (n:Nat))] a'→Q .normal a' w):∀ac,Frm 49 [(0,.slice A n c),(2,s_2),(4,s_4)] ac→Code.wp Tryd.prog c_bl_r1 Q ac w := by
  refine fO (frame_bl ?_)
  intros
  rename_i hq
  iterate 3 (obtain ⟨e,hq⟩ := hq; obtain rfl := sI e; clear e)
  clear hq
  conv=>arg 2; whnf
  replace hN := Lib.hid hN
  go_wp2_with fail
  exact hN.out _ (by exact fR rfl rfl rfl)
def c_bl_r2 := sp 99 11 cF60
theorem bl_r2_wp (hN:∀a',Frm 49 [(0,s_0),(2,s_2),(4,s_4),(8,.int .i64 (n:Nat)),(9,.int .i64 (0:Nat)),(10,.int .i64 (n:Nat))] a'→Q .normal a' w):∀ac,Frm 49 [(0,s_0),(2,s_2),(4,s_4),(8,.int .i64 (n:Nat))] ac→Code.wp Tryd.prog c_bl_r2 Q ac w := by
  refine fO (frame_bl ?_)
  intros
  rename_i hq
  iterate 4 (obtain ⟨e,hq⟩ := hq; obtain rfl := sI e; clear e)
  clear hq
  conv=>arg 2; whnf
  replace hN := Lib.hid hN
  go_wp2_with fail
  exact hN.out _ (by exact fR rfl rfl rfl)
def c_bl_r3 := sp 99 263 cF60
theorem bl_r3_wp (hN:∀a',Frm 49 [(0,s_0),(2,s_2),(4,s_4),(8,s_8),(9,.int .i64 (i:Nat)),(10,.int .i64 (j:Nat)),(17,.bool (decide (i<j)))] a'→Q .normal a' w):∀ac,Frm 49 [(0,s_0),(2,s_2),(4,s_4),(8,s_8),(9,.int .i64 (i:Nat)),(10,.int .i64 (j:Nat))] ac→Code.wp Tryd.prog c_bl_r3 Q ac w := by
  refine fO (frame_bl ?_)
  intros
  rename_i hq
  iterate 6 (obtain ⟨e,hq⟩ := hq; obtain rfl := sI e; clear e)
  clear hq
  conv=>arg 2; whnf
  by_cases h:i<j
  · have t1:decide ((i:Int)<(j:Int))=true := by first | exact decide_eq_true (by omega) | exact beq_iff_eq.2 (by omega) | exact bne_iff_ne.2 (by omega)
    have t2:(decide (i<j))=true := decide_eq_true h
    rw [t2] at hN
    clear h
    replace hN := Lib.hid hN
    go_wp2_with fail
    exact hN.out _ (by exact fR rfl rfl rfl)
  · have t1:decide ((i:Int)<(j:Int))=false := by first | exact decide_eq_false (by omega) | exact beq_eq_false_iff_ne.2 (by omega) | exact bne_eq_false_iff_eq.2 (by omega)
    have t2:(decide (i<j))=false := decide_eq_false h
    rw [t2] at hN
    clear h
    replace hN := Lib.hid hN
    go_wp2_with fail
    exact hN.out _ (by exact fR rfl rfl rfl)
def c_bl_r4 := sp 99 583 cF60
theorem bl_r4_wp (hi:i≤1000000) (hj:j≤1000000) (hN:∀a',Frm 49 [(0,s_0),(2,s_2),(4,s_4),(8,s_8),(9,.int .i64 (i:Nat)),(10,.int .i64 (j:Nat)),(11,.int .i64 (((i+j) / 2):Nat))] a'→Q .normal a' w):∀ac,Frm 49 [(0,s_0),(2,s_2),(4,s_4),(8,s_8),(9,.int .i64 (i:Nat)),(10,.int .i64 (j:Nat))] ac→Code.wp Tryd.prog c_bl_r4 Q ac w := by
  refine fO (frame_bl ?_)
  intros
  rename_i hq
  iterate 6 (obtain ⟨e,hq⟩ := hq; obtain rfl := sI e; clear e)
  clear hq
  conv=>arg 2; whnf
  have q1:(i:Int)≤1000000 := by omega
  have q2:(j:Int)≤1000000 := by omega
  replace hN := Lib.hid hN
  go_wp2_with fail
  exact hN.out _ (by exact fR rfl rfl rfl)
def c_bl_r5 := sp 99 1351 cF60
theorem bl_r5_wp (hh:h<n) (hbx:w.heap[wo.heap.size]? = some (.cells #[.string tp,.int .i64 tq,.slice TB tm td] 59 (0,0))) (e0:w.cell? ⟨b,o+h * 3,none⟩=some (.string p)) (e1:w.cell? ⟨b,o+h * 3+1,none⟩=some (.int .i64 q)) (e2:w.cell? ⟨b,o+h * 3+2,none⟩=some (.slice B m d)) (hbl:b<w.heap.size) (hc:∀W:World,Below w.heap.size w W→Calls Tryd.prog 40 #[.agg #[.string p,.int .i64 q,.slice B m d],.agg #[.string tp,.int .i64 tq,.slice TB tm td]] W fun e w'=>e=.returned (.int .i64 z)∧Below w.heap.size w w') (hN:∀a' w',Frm 49 [(0,.slice (some ⟨b,o,none⟩) n c),(2,.func (Fn.func 40) #[] #[]),(4,.pointer (some ⟨wo.heap.size,0,none⟩)),(8,s_8),(9,s_9),(10,s_10),(11,.int .i64 (h:Nat)),(31,.bool (decide (z<0)))] a'→Below w.heap.size w w'→K a' w'):∀ac,Frm 49 [(0,.slice (some ⟨b,o,none⟩) n c),(2,.func (Fn.func 40) #[] #[]),(4,.pointer (some ⟨wo.heap.size,0,none⟩)),(8,s_8),(9,s_9),(10,s_10),(11,.int .i64 (h:Nat))] ac→Code.wp Tryd.prog c_bl_r5 (Exit.then K (fun _ _ _=>False)) ac w := by
  refine fO (frame_bl ?_)
  intros
  rename_i hq
  iterate 7 (obtain ⟨e,hq⟩ := hq; obtain rfl := sI e; clear e)
  clear hq
  conv=>arg 2; whnf
  have q0:(0:Int)≤(h:Int) := by omega
  have q1:(h:Int)<(n:Int) := by omega
  have x0 := cellv hbx 0 rfl
  have x1 := cellv hbx 1 rfl
  have x2 := cellv hbx 2 rfl
  have xl := lt_heap hbx
  clear hbx
  by_cases hz:z<0
  · have t1:decide (z<0)=true := decide_eq_true hz
    rw [t1] at hN
    clear hz
    have HC := Lib.hid hc
    have HN := Lib.hid hN
    clear hc hN
    go_region_law (first
      | (refine step_call (by rfl) 40 _ ?hargs (HC.out _ ?hbel) ?_; (case hargs=>(go_simp; done)); (case hbel=>first | exact Below.refl _ _ | exact (Below.refl _ _).drew); rintro e w1 ⟨rfl,hb1⟩; refine ⟨_,rfl,?_⟩; have HB1 := Lib.hid hb1; clear hb1))
    all_goals go_wp2_with fail
    all_goals exact HN.out _ _ (by exact fR rfl rfl rfl) HB1.out
  · have t1:decide (z<0)=false := decide_eq_false hz
    rw [t1] at hN
    clear hz
    have HC := Lib.hid hc
    have HN := Lib.hid hN
    clear hc hN
    go_region_law (first
      | (refine step_call (by rfl) 40 _ ?hargs (HC.out _ ?hbel) ?_; (case hargs=>(go_simp; done)); (case hbel=>first | exact Below.refl _ _ | exact (Below.refl _ _).drew); rintro e w1 ⟨rfl,hb1⟩; refine ⟨_,rfl,?_⟩; have HB1 := Lib.hid hb1; clear hb1))
    all_goals go_wp2_with fail
    all_goals exact HN.out _ _ (by exact fR rfl rfl rfl) HB1.out
def c_bl_r6 := sp 99 2887 cF60
theorem bl_r6_wp (hh:h≤1000000) (hN:∀a',Frm 49 [(0,s_0),(2,s_2),(4,s_4),(8,s_8),(9,.int .i64 ((h+1):Nat)),(10,s_10)] a'→Q .normal a' w):∀ac,Frm 49 [(0,s_0),(2,s_2),(4,s_4),(8,s_8),(9,.int .i64 (i:Nat)),(10,s_10),(11,.int .i64 (h:Nat))] ac→Code.wp Tryd.prog c_bl_r6 Q ac w := by
  refine fO (frame_bl ?_)
  intros
  rename_i hq
  iterate 7 (obtain ⟨e,hq⟩ := hq; obtain rfl := sI e; clear e)
  clear hq
  conv=>arg 2; whnf
  have q1:(h:Int)≤1000000 := by omega
  replace hN := Lib.hid hN
  go_wp2_with fail
  exact hN.out _ (by exact fR rfl rfl rfl)
def c_bl_r7 := sp 99 3911 cF60
theorem bl_r7_wp (hN:∀a',Frm 49 [(0,s_0),(2,s_2),(4,s_4),(8,s_8),(9,s_9),(10,.int .i64 (h:Nat))] a'→Q .normal a' w):∀ac,Frm 49 [(0,s_0),(2,s_2),(4,s_4),(8,s_8),(9,s_9),(10,.int .i64 (j:Nat)),(11,.int .i64 (h:Nat))] ac→Code.wp Tryd.prog c_bl_r7 Q ac w := by
  refine fO (frame_bl ?_)
  intros
  rename_i hq
  iterate 7 (obtain ⟨e,hq⟩ := hq; obtain rfl := sI e; clear e)
  clear hq
  conv=>arg 2; whnf
  replace hN := Lib.hid hN
  go_wp2_with fail
  exact hN.out _ (by exact fR rfl rfl rfl)
def c_bl_r8n := sp 99 47 cF60
theorem bl_r8n_wp (hi:n≤i) (hbx:w.heap[wo.heap.size]? = some (.cells #[.string tp,.int .i64 tq,.slice TB tm td] 59 (0,0))) (hN:∀a' w',Frm 49 [(6,.int .i64 (i:Nat)),(7,.bool false)] a'→Below w.heap.size w w'→K a' w'):∀ac,Frm 49 [(0,.slice A n c),(2,.func (Fn.func 40) #[] #[]),(4,.pointer (some ⟨wo.heap.size,0,none⟩)),(8,.int .i64 (n:Nat)),(9,.int .i64 (i:Nat)),(10,s_10)] ac→Code.wp Tryd.prog c_bl_r8n (Exit.then K (fun _ _ _=>False)) ac w := by
  refine fO (frame_bl ?_)
  intros
  rename_i hq
  iterate 6 (obtain ⟨e,hq⟩ := hq; obtain rfl := sI e; clear e)
  clear hq
  conv=>arg 2; whnf
  have t1:decide ((i:Int)<(n:Int))=false := decide_eq_false (by omega)
  have t2:decide (i<n)=false := decide_eq_false (by omega)
  have x0 := cellv hbx 0 rfl
  have x1 := cellv hbx 1 rfl
  have x2 := cellv hbx 2 rfl
  have xl := lt_heap hbx
  clear hbx
  replace hN := Lib.hid hN
  go_quiet (fail)
  all_goals go_wp2_with fail
  all_goals exact hN.out _ _ (id ⟨rfl,rfl,rfl,rfl,trivial⟩) (by first | exact Below.refl _ _ | exact below_drewN (Below.refl _ _) _)
def c_bl_r8 := sp 99 47 cF60
theorem bl_r8_wp (hi:i<n) (hbx:w.heap[wo.heap.size]? = some (.cells #[.string tp,.int .i64 tq,.slice TB tm td] 59 (0,0))) (e0:w.cell? ⟨b,o+i * 3,none⟩=some (.string p)) (e1:w.cell? ⟨b,o+i * 3+1,none⟩=some (.int .i64 q)) (e2:w.cell? ⟨b,o+i * 3+2,none⟩=some (.slice B m d)) (hbl:b<w.heap.size) (hc:∀W:World,Below w.heap.size w W→Calls Tryd.prog 40 #[.agg #[.string p,.int .i64 q,.slice B m d],.agg #[.string tp,.int .i64 tq,.slice TB tm td]] W fun e w'=>e=.returned (.int .i64 z)∧Below w.heap.size w w') (hN:∀a' w',Frm 49 [(6,.int .i64 (i:Nat)),(7,.bool (decide (z=0)))] a'→Below w.heap.size w w'→K a' w'):∀ac,Frm 49 [(0,.slice (some ⟨b,o,none⟩) n c),(2,.func (Fn.func 40) #[] #[]),(4,.pointer (some ⟨wo.heap.size,0,none⟩)),(8,.int .i64 (n:Nat)),(9,.int .i64 (i:Nat)),(10,s_10)] ac→Code.wp Tryd.prog c_bl_r8 (Exit.then K (fun _ _ _=>False)) ac w := by
  refine fO (frame_bl ?_)
  intros
  rename_i hq
  iterate 6 (obtain ⟨e,hq⟩ := hq; obtain rfl := sI e; clear e)
  clear hq
  conv=>arg 2; whnf
  have q0:(0:Int)≤(i:Int) := by omega
  have q1:(i:Int)<(n:Int) := by omega
  have t1:decide ((i:Int)<(n:Int))=true := decide_eq_true (by omega)
  have t2:decide (i<n)=true := decide_eq_true (by omega)
  have x0 := cellv hbx 0 rfl
  have x1 := cellv hbx 1 rfl
  have x2 := cellv hbx 2 rfl
  have xl := lt_heap hbx
  clear hbx
  by_cases hz:z=0
  · subst hz
    rw [show decide ((0:Int)=0)=true from rfl] at hN
    have HC := Lib.hid hc
    have HN := Lib.hid hN
    clear hc hN
    go_region_held3 (fun w'=>w'.cell? ⟨b,o+i * 3,none⟩=some (.string p)∧w'.cell? ⟨b,o+i * 3+1,none⟩=some (.int .i64 q)∧w'.cell? ⟨b,o+i * 3+2,none⟩=some (.slice B m d)∧w'.cell? ⟨wo.heap.size,0,none⟩=some (.string tp)∧w'.cell? ⟨wo.heap.size,1,none⟩=some (.int .i64 tq)∧w'.cell? ⟨wo.heap.size,2,none⟩=some (.slice TB tm td))
      ((first | (go_keep; done) | (go_split_ands; (repeat' apply And.intro) <;> (refine (kc5 _ _ (by omega)).trans ?_; assumption))))
      (first
        | ((with_reducible refine (HC.out _ ?hbel).mono ?_); (case hbel=>first | exact Below.refl _ _ | exact (Below.refl _ _).drew); rintro e w4 ⟨rfl,hw4⟩; have kc5:∀k q,k<w.heap.size→w4.cell? ⟨k,q,none⟩=_ := (fun k q h=>hw4.cell (p := ⟨k,q,none⟩) h); have HB1 := Lib.hid hw4; clear hw4)
        | fail)
    all_goals go_wp2_with fail
    all_goals exact HN.out _ _ (id ⟨rfl,rfl,rfl,rfl,trivial⟩) HB1.out
  · have t3:(z == 0)=false := beq_eq_false_iff_ne.2 hz
    rw [show decide (z=0)=false from decide_eq_false hz] at hN
    clear hz
    have HC := Lib.hid hc
    have HN := Lib.hid hN
    clear hc hN
    go_region_held3 (fun w'=>w'.cell? ⟨b,o+i * 3,none⟩=some (.string p)∧w'.cell? ⟨b,o+i * 3+1,none⟩=some (.int .i64 q)∧w'.cell? ⟨b,o+i * 3+2,none⟩=some (.slice B m d)∧w'.cell? ⟨wo.heap.size,0,none⟩=some (.string tp)∧w'.cell? ⟨wo.heap.size,1,none⟩=some (.int .i64 tq)∧w'.cell? ⟨wo.heap.size,2,none⟩=some (.slice TB tm td))
      ((first | (go_keep; done) | (go_split_ands; (repeat' apply And.intro) <;> (refine (kc5 _ _ (by omega)).trans ?_; assumption))))
      (first
        | ((with_reducible refine (HC.out _ ?hbel).mono ?_); (case hbel=>first | exact Below.refl _ _ | exact (Below.refl _ _).drew); rintro e w4 ⟨rfl,hw4⟩; have kc5:∀k q,k<w.heap.size→w4.cell? ⟨k,q,none⟩=_ := (fun k q h=>hw4.cell (p := ⟨k,q,none⟩) h); have HB1 := Lib.hid hw4; clear hw4)
        | fail)
    all_goals go_wp2_with fail
    all_goals exact HN.out _ _ (id ⟨rfl,rfl,rfl,rfl,trivial⟩) HB1.out
theorem bl_ret_wp {R:Ending→World→Prop} {w':World} {bb:Bool} (hR:R (.returned (.tuple #[.int .i64 (i:Nat),.bool bb])) w'):∀ac,Frm 49 [(6,.int .i64 (i:Nat)),(7,.bool bb)] ac→bodyPost Tryd.prog Tryd.f60 R .ret ac w' := by
  refine fO (frame_bl ?_)
  intros
  rename_i hq
  iterate 2 (obtain ⟨e,hq⟩ := hq; obtain rfl := sI e; clear e)
  clear hq
  refine bodyPost_ret (v := .tuple #[.int .i64 (i:Nat),.bool bb]) (by simp [results,Tryd.results60,go_sem]) rfl ?_
  exact hR
end

end Go.Proofs.YthfokmjpbnfihaaDoor
