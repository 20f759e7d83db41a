/- Lemmas. -/
import Derived.Test.YthfokmjpbnfihaaDoorProg
import Derived.Test.YthfokmjpbnfihaaDoorWa
import Derived.Deep.DeepCutAuto
import Derived.Deep.RegionLaw
namespace Go.Proofs.YthfokmjpbnfihaaDoor
open Go Go.RowKit
set_option linter.unusedSimpArgs false
set_option linter.unusedVariables false
noncomputable section
set_option maxRecDepth 1000000
set_option maxHeartbeats 16000000
variable {s_0 s_2 tv s_8 s_9 s_10:Value} {Q:Exit→Act→World→Prop} {w:World} {A:Option Addr} {n c i j h b o:Nat} {z q:Int} {p:ByteArray}

theorem frame_bc {P:Act→Prop} (h:∀x0 x1 x2 x3 x4 x5 x6 x7 x8 x9 x10 x11 x12 x13 x14 x15 x16 x17 x18 x19 x20 x21 x22 x23 x24 x25 x26 x27 x28 x29 x30 x31 x32 x33 x34 x35 x36 x37 x38 x39 x40 x41 x42 x43 x44 x45 x46 x47 x48:Value,P ⟨(x0 :: x1 :: x2 :: x3 :: x4 :: x5 :: x6 :: x7 :: x8 :: x9 :: x10 :: x11 :: x12 :: x13 :: x14 :: x15 :: x16 :: x17 :: x18 :: x19 :: x20 :: x21 :: x22 :: x23 :: x24 :: x25 :: x26 :: x27 :: x28 :: x29 :: x30 :: x31 :: x32 :: x33 :: x34 :: x35 :: x36 :: x37 :: x38 :: x39 :: x40 :: x41 :: x42 :: x43 :: x44 :: x45 :: x46 :: x47 :: x48 :: []).toArray,[]⟩):∀a:Act,a.tmps.toList.length=49→a.defers=[]→P a := by
  rintro ⟨⟨l⟩,d⟩ hs hd
  simp only at hd
  subst hd
  revert l
  show ∀l:List Value,l.length=49→P ⟨⟨l⟩,[]⟩
  iterate 49 refine openS (fun _=>?_)
  refine open0 ?_
  exact h ..
noncomputable def cF58:Code := Tryd.f58.body.getD .skip
def c_bc_r0 := sp 99 2 cF58
theorem bc_r0_wp (hN:∀a',Frm 49 [(0,s_0),(1,tv),(2,s_2)] a'→Q .normal a' w):∀ac,Frm 49 [(0,s_0),(1,tv),(2,s_2)] ac→Code.wp Tryd.prog c_bc_r0 Q ac w := by
  refine fO (frame_bc ?_)
  intros
  rename_i hq
  iterate 3 (obtain ⟨e,hq⟩ := hq; obtain rfl := sI e; clear e)
  clear hq
  conv=>arg 2; whnf
  replace hN := Lib.hid hN
  go_wp2_with fail
  exact hN.out _ (by exact fR rfl rfl rfl)
def c_bc_r1 := sp 99 5 cF58
theorem bc_r1_wp (hN:∀a',Frm 49 [(0,.slice A n c),(1,tv),(2,s_2),(8,.int .i64 (n:Nat))] a'→Q .normal a' w):∀ac,Frm 49 [(0,.slice A n c),(1,tv),(2,s_2)] ac→Code.wp Tryd.prog c_bc_r1 Q ac w := by
  refine fO (frame_bc ?_)
  intros
  rename_i hq
  iterate 3 (obtain ⟨e,hq⟩ := hq; obtain rfl := sI e; clear e)
  clear hq
  conv=>arg 2; whnf
  replace hN := Lib.hid hN
  go_wp2_with fail
  exact hN.out _ (by exact fR rfl rfl rfl)
def c_bc_r2 := sp 99 11 cF58
theorem bc_r2_wp (hN:∀a',Frm 49 [(0,s_0),(1,tv),(2,s_2),(8,.int .i64 (n:Nat)),(9,.int .i64 (0:Nat)),(10,.int .i64 (n:Nat))] a'→Q .normal a' w):∀ac,Frm 49 [(0,s_0),(1,tv),(2,s_2),(8,.int .i64 (n:Nat))] ac→Code.wp Tryd.prog c_bc_r2 Q ac w := by
  refine fO (frame_bc ?_)
  intros
  rename_i hq
  iterate 4 (obtain ⟨e,hq⟩ := hq; obtain rfl := sI e; clear e)
  clear hq
  conv=>arg 2; whnf
  replace hN := Lib.hid hN
  go_wp2_with fail
  exact hN.out _ (by exact fR rfl rfl rfl)
def c_bc_r3 := sp 99 263 cF58
theorem bc_r3_wp (hN:∀a',Frm 49 [(0,s_0),(1,tv),(2,s_2),(8,s_8),(9,.int .i64 (i:Nat)),(10,.int .i64 (j:Nat)),(17,.bool (decide (i<j)))] a'→Q .normal a' w):∀ac,Frm 49 [(0,s_0),(1,tv),(2,s_2),(8,s_8),(9,.int .i64 (i:Nat)),(10,.int .i64 (j:Nat))] ac→Code.wp Tryd.prog c_bc_r3 Q ac w := by
  refine fO (frame_bc ?_)
  intros
  rename_i hq
  iterate 6 (obtain ⟨e,hq⟩ := hq; obtain rfl := sI e; clear e)
  clear hq
  conv=>arg 2; whnf
  by_cases h:i<j
  · have t1:decide ((i:Int)<(j:Int))=true := by first | exact decide_eq_true (by omega) | exact beq_iff_eq.2 (by omega) | exact bne_iff_ne.2 (by omega)
    have t2:(decide (i<j))=true := decide_eq_true h
    rw [t2] at hN
    clear h
    replace hN := Lib.hid hN
    go_wp2_with fail
    exact hN.out _ (by exact fR rfl rfl rfl)
  · have t1:decide ((i:Int)<(j:Int))=false := by first | exact decide_eq_false (by omega) | exact beq_eq_false_iff_ne.2 (by omega) | exact bne_eq_false_iff_eq.2 (by omega)
    have t2:(decide (i<j))=false := decide_eq_false h
    rw [t2] at hN
    clear h
    replace hN := Lib.hid hN
    go_wp2_with fail
    exact hN.out _ (by exact fR rfl rfl rfl)
def c_bc_r4 := sp 99 583 cF58
theorem bc_r4_wp (hi:i≤1000000) (hj:j≤1000000) (hN:∀a',Frm 49 [(0,s_0),(1,tv),(2,s_2),(8,s_8),(9,.int .i64 (i:Nat)),(10,.int .i64 (j:Nat)),(11,.int .i64 (((i+j) / 2):Nat))] a'→Q .normal a' w):∀ac,Frm 49 [(0,s_0),(1,tv),(2,s_2),(8,s_8),(9,.int .i64 (i:Nat)),(10,.int .i64 (j:Nat))] ac→Code.wp Tryd.prog c_bc_r4 Q ac w := by
  refine fO (frame_bc ?_)
  intros
  rename_i hq
  iterate 6 (obtain ⟨e,hq⟩ := hq; obtain rfl := sI e; clear e)
  clear hq
  conv=>arg 2; whnf
  have q1:(i:Int)≤1000000 := by omega
  have q2:(j:Int)≤1000000 := by omega
  replace hN := Lib.hid hN
  go_wp2_with fail
  exact hN.out _ (by exact fR rfl rfl rfl)
def c_bc_r5 := sp 99 1351 cF58
theorem bc_r5_wp (hh:h<n) (e0:w.cell? ⟨b,o+h * 2,none⟩=some (.string p)) (e1:w.cell? ⟨b,o+h * 2+1,none⟩=some (.int .i64 q)) (hbl:b<w.heap.size) (hc:∀W:World,Below w.heap.size w W→Calls Tryd.prog 59 #[.agg #[.string p,.int .i64 q],tv] W fun e w'=>e=.returned (.int .i64 z)∧Below w.heap.size w w') (hN:∀a' w',Frm 49 [(0,.slice (some ⟨b,o,none⟩) n c),(1,tv),(2,.func (Fn.func 59) #[] #[]),(8,s_8),(9,s_9),(10,s_10),(11,.int .i64 (h:Nat)),(31,.bool (decide (z<0)))] a'→Below w.heap.size w w'→Q .normal a' w'):∀ac,Frm 49 [(0,.slice (some ⟨b,o,none⟩) n c),(1,tv),(2,.func (Fn.func 59) #[] #[]),(8,s_8),(9,s_9),(10,s_10),(11,.int .i64 (h:Nat))] ac→Code.wp Tryd.prog c_bc_r5 Q ac w := by
  refine fO (frame_bc ?_)
  intros
  rename_i hq
  iterate 7 (obtain ⟨e,hq⟩ := hq; obtain rfl := sI e; clear e)
  clear hq
  conv=>arg 2; whnf
  have q0:(0:Int)≤(h:Int) := by omega
  have q1:(h:Int)<(n:Int) := by omega
  by_cases hz:z<0
  · have t1:decide (z<0)=true := decide_eq_true hz
    rw [t1] at hN
    clear hz
    have HN := Lib.hid hN
    have HC := Lib.hid hc
    clear hN hc
    go_wp2_with fail
    (with_reducible refine (HC.out _ (Below.refl _ _)).mono ?_)
    rintro e w1 ⟨rfl,hb1⟩
    replace hb1 := Lib.hid hb1
    go_wp2_with fail
    exact HN.out _ _ (by exact fR rfl rfl rfl) hb1.out
  · have t1:decide (z<0)=false := decide_eq_false hz
    rw [t1] at hN
    clear hz
    have HN := Lib.hid hN
    have HC := Lib.hid hc
    clear hN hc
    go_wp2_with fail
    (with_reducible refine (HC.out _ (Below.refl _ _)).mono ?_)
    rintro e w1 ⟨rfl,hb1⟩
    replace hb1 := Lib.hid hb1
    go_wp2_with fail
    exact HN.out _ _ (by exact fR rfl rfl rfl) hb1.out
def c_bc_r6 := sp 99 2887 cF58
theorem bc_r6_wp (hh:h≤1000000) (hN:∀a',Frm 49 [(0,s_0),(1,tv),(2,s_2),(8,s_8),(9,.int .i64 ((h+1):Nat)),(10,s_10)] a'→Q .normal a' w):∀ac,Frm 49 [(0,s_0),(1,tv),(2,s_2),(8,s_8),(9,.int .i64 (i:Nat)),(10,s_10),(11,.int .i64 (h:Nat))] ac→Code.wp Tryd.prog c_bc_r6 Q ac w := by
  refine fO (frame_bc ?_)
  intros
  rename_i hq
  iterate 7 (obtain ⟨e,hq⟩ := hq; obtain rfl := sI e; clear e)
  clear hq
  conv=>arg 2; whnf
  have q1:(h:Int)≤1000000 := by omega
  replace hN := Lib.hid hN
  go_wp2_with fail
  exact hN.out _ (by exact fR rfl rfl rfl)
def c_bc_r7 := sp 99 3911 cF58
theorem bc_r7_wp (hN:∀a',Frm 49 [(0,s_0),(1,tv),(2,s_2),(8,s_8),(9,s_9),(10,.int .i64 (h:Nat))] a'→Q .normal a' w):∀ac,Frm 49 [(0,s_0),(1,tv),(2,s_2),(8,s_8),(9,s_9),(10,.int .i64 (j:Nat)),(11,.int .i64 (h:Nat))] ac→Code.wp Tryd.prog c_bc_r7 Q ac w := by
  refine fO (frame_bc ?_)
  intros
  rename_i hq
  iterate 7 (obtain ⟨e,hq⟩ := hq; obtain rfl := sI e; clear e)
  clear hq
  conv=>arg 2; whnf
  replace hN := Lib.hid hN
  go_wp2_with fail
  exact hN.out _ (by exact fR rfl rfl rfl)
def c_bc_r8n := sp 99 47 cF58
theorem bc_r8n_wp (hi:n≤i) (hN:∀a',Frm 49 [(6,.int .i64 (i:Nat)),(7,.bool false)] a'→Q .normal a' w):∀ac,Frm 49 [(0,.slice A n c),(1,tv),(2,.func (Fn.func 59) #[] #[]),(8,.int .i64 (n:Nat)),(9,.int .i64 (i:Nat)),(10,s_10)] ac→Code.wp Tryd.prog c_bc_r8n Q ac w := by
  refine fO (frame_bc ?_)
  intros
  rename_i hq
  iterate 6 (obtain ⟨e,hq⟩ := hq; obtain rfl := sI e; clear e)
  clear hq
  conv=>arg 2; whnf
  have t1:decide ((i:Int)<(n:Int))=false := decide_eq_false (by omega)
  have t2:decide (i<n)=false := decide_eq_false (by omega)
  replace hN := Lib.hid hN
  go_wp2_with fail
  exact hN.out _ (id ⟨rfl,rfl,rfl,rfl,trivial⟩)
def c_bc_r8 := sp 99 47 cF58
theorem bc_r8_wp (hi:i<n) (e0:w.cell? ⟨b,o+i * 2,none⟩=some (.string p)) (e1:w.cell? ⟨b,o+i * 2+1,none⟩=some (.int .i64 q)) (hbl:b<w.heap.size) (hc:∀W:World,Below w.heap.size w W→Calls Tryd.prog 59 #[.agg #[.string p,.int .i64 q],tv] W fun e w'=>e=.returned (.int .i64 z)∧Below w.heap.size w w') (hN:∀a' w',Frm 49 [(6,.int .i64 (i:Nat)),(7,.bool (decide (z=0)))] a'→Below w.heap.size w w'→Q .normal a' w'):∀ac,Frm 49 [(0,.slice (some ⟨b,o,none⟩) n c),(1,tv),(2,.func (Fn.func 59) #[] #[]),(8,.int .i64 (n:Nat)),(9,.int .i64 (i:Nat)),(10,s_10)] ac→Code.wp Tryd.prog c_bc_r8 Q ac w := by
  refine fO (frame_bc ?_)
  intros
  rename_i hq
  iterate 6 (obtain ⟨e,hq⟩ := hq; obtain rfl := sI e; clear e)
  clear hq
  conv=>arg 2; whnf
  have q0:(0:Int)≤(i:Int) := by omega
  have q1:(i:Int)<(n:Int) := by omega
  have t1:decide ((i:Int)<(n:Int))=true := decide_eq_true (by omega)
  have t2:decide (i<n)=true := decide_eq_true (by omega)
  by_cases hz:z=0
  · subst hz
    rw [show decide ((0:Int)=0)=true from rfl] at hN
    have HN := Lib.hid hN
    have HC := Lib.hid hc
    clear hN hc
    go_wp2_with fail
    (with_reducible refine (HC.out _ (Below.refl _ _)).mono ?_)
    rintro e w1 ⟨rfl,hb1⟩
    replace hb1 := Lib.hid hb1
    go_wp2_with fail
    exact HN.out _ _ (id ⟨rfl,rfl,rfl,rfl,trivial⟩) hb1.out
  · have t3:(z == 0)=false := beq_eq_false_iff_ne.2 hz
    rw [show decide (z=0)=false from decide_eq_false hz] at hN
    clear hz
    have HN := Lib.hid hN
    have HC := Lib.hid hc
    clear hN hc
    go_wp2_with fail
    (with_reducible refine (HC.out _ (Below.refl _ _)).mono ?_)
    rintro e w1 ⟨rfl,hb1⟩
    replace hb1 := Lib.hid hb1
    go_wp2_with fail
    exact HN.out _ _ (id ⟨rfl,rfl,rfl,rfl,trivial⟩) hb1.out
theorem bc_ret_wp {R:Ending→World→Prop} {w':World} {bb:Bool} (hR:R (.returned (.tuple #[.int .i64 (i:Nat),.bool bb])) w'):∀ac,Frm 49 [(6,.int .i64 (i:Nat)),(7,.bool bb)] ac→bodyPost Tryd.prog Tryd.f58 R .ret ac w' := by
  refine fO (frame_bc ?_)
  intros
  rename_i hq
  iterate 2 (obtain ⟨e,hq⟩ := hq; obtain rfl := sI e; clear e)
  clear hq
  refine bodyPost_ret (v := .tuple #[.int .i64 (i:Nat),.bool bb]) (by simp [results,Tryd.results58,go_sem]) rfl ?_
  exact hR
end

end Go.Proofs.YthfokmjpbnfihaaDoor
