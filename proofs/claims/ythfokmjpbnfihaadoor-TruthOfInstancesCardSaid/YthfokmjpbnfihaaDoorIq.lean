/- Lemmas. -/
import Derived.Test.YthfokmjpbnfihaaDoorIc
import Derived.Test.YthfokmjpbnfihaaDoorIg
import Derived.Deep.DeepCutAuto
import Derived.Deep.RegionLaw
namespace Go.Proofs.YthfokmjpbnfihaaDoor
open Go Go.RowKit
set_option linter.unusedSimpArgs false
set_option linter.unusedVariables false
noncomputable section
set_option maxRecDepth 1000000
set_option maxHeartbeats 16000000
variable {s_0 s_2 tv s_8 s_9 s_10:Value} {Q:Exit→Act→World→Prop} {w:World} {A B:Option Addr} {n c i j h b o m d:Nat} {z:Int}

theorem frame_br {P:Act→Prop} (h:∀x0 x1 x2 x3 x4 x5 x6 x7 x8 x9 x10 x11 x12 x13 x14 x15 x16 x17 x18 x19 x20 x21 x22 x23 x24 x25 x26 x27 x28 x29 x30 x31 x32 x33 x34 x35 x36 x37 x38 x39 x40 x41 x42 x43 x44 x45 x46 x47 x48:Value,P ⟨(x0 :: x1 :: x2 :: x3 :: x4 :: x5 :: x6 :: x7 :: x8 :: x9 :: x10 :: x11 :: x12 :: x13 :: x14 :: x15 :: x16 :: x17 :: x18 :: x19 :: x20 :: x21 :: x22 :: x23 :: x24 :: x25 :: x26 :: x27 :: x28 :: x29 :: x30 :: x31 :: x32 :: x33 :: x34 :: x35 :: x36 :: x37 :: x38 :: x39 :: x40 :: x41 :: x42 :: x43 :: x44 :: x45 :: x46 :: x47 :: x48 :: []).toArray,[]⟩):∀a:Act,a.tmps.toList.length=49→a.defers=[]→P a := by
  rintro ⟨⟨l⟩,d⟩ hs hd
  simp only at hd
  subst hd
  revert l
  show ∀l:List Value,l.length=49→P ⟨⟨l⟩,[]⟩
  iterate 49 refine openS (fun _=>?_)
  refine open0 ?_
  exact h ..
noncomputable def cF44:Code := Tryd.f44.body.getD .skip
def c_br_r0 := sp 99 2 cF44
theorem br_r0_wp (hN:∀a',Frm 49 [(0,s_0),(1,tv),(2,s_2)] a'→Q .normal a' w):∀ac,Frm 49 [(0,s_0),(1,tv),(2,s_2)] ac→Code.wp Tryd.prog c_br_r0 Q ac w := by
  refine fO (frame_br ?_)
  intros
  rename_i hq
  iterate 3 (obtain ⟨e,hq⟩ := hq; obtain rfl := sI e; clear e)
  clear hq
  conv=>arg 2; whnf
  replace hN := Lib.hid hN
  go_wp2_with fail
  exact hN.out _ (by exact fR rfl rfl rfl)
def c_br_r1 := sp 99 5 cF44
theorem br_r1_wp (hN:∀a',Frm 49 [(0,.slice A n c),(1,tv),(2,s_2),(8,.int .i64 (n:Nat))] a'→Q .normal a' w):∀ac,Frm 49 [(0,.slice A n c),(1,tv),(2,s_2)] ac→Code.wp Tryd.prog c_br_r1 Q ac w := by
  refine fO (frame_br ?_)
  intros
  rename_i hq
  iterate 3 (obtain ⟨e,hq⟩ := hq; obtain rfl := sI e; clear e)
  clear hq
  conv=>arg 2; whnf
  replace hN := Lib.hid hN
  go_wp2_with fail
  exact hN.out _ (by exact fR rfl rfl rfl)
def c_br_r2 := sp 99 11 cF44
theorem br_r2_wp (hN:∀a',Frm 49 [(0,s_0),(1,tv),(2,s_2),(8,.int .i64 (n:Nat)),(9,.int .i64 (0:Nat)),(10,.int .i64 (n:Nat))] a'→Q .normal a' w):∀ac,Frm 49 [(0,s_0),(1,tv),(2,s_2),(8,.int .i64 (n:Nat))] ac→Code.wp Tryd.prog c_br_r2 Q ac w := by
  refine fO (frame_br ?_)
  intros
  rename_i hq
  iterate 4 (obtain ⟨e,hq⟩ := hq; obtain rfl := sI e; clear e)
  clear hq
  conv=>arg 2; whnf
  replace hN := Lib.hid hN
  go_wp2_with fail
  exact hN.out _ (by exact fR rfl rfl rfl)
def c_br_r3 := sp 99 263 cF44
theorem br_r3_wp (hN:∀a',Frm 49 [(0,s_0),(1,tv),(2,s_2),(8,s_8),(9,.int .i64 (i:Nat)),(10,.int .i64 (j:Nat)),(17,.bool (decide (i<j)))] a'→Q .normal a' w):∀ac,Frm 49 [(0,s_0),(1,tv),(2,s_2),(8,s_8),(9,.int .i64 (i:Nat)),(10,.int .i64 (j:Nat))] ac→Code.wp Tryd.prog c_br_r3 Q ac w := by
  refine fO (frame_br ?_)
  intros
  rename_i hq
  iterate 6 (obtain ⟨e,hq⟩ := hq; obtain rfl := sI e; clear e)
  clear hq
  conv=>arg 2; whnf
  by_cases h:i<j
  · have t1:decide ((i:Int)<(j:Int))=true := by first | exact decide_eq_true (by omega) | exact beq_iff_eq.2 (by omega) | exact bne_iff_ne.2 (by omega)
    have t2:(decide (i<j))=true := decide_eq_true h
    rw [t2] at hN
    clear h
    replace hN := Lib.hid hN
    go_wp2_with fail
    exact hN.out _ (by exact fR rfl rfl rfl)
  · have t1:decide ((i:Int)<(j:Int))=false := by first | exact decide_eq_false (by omega) | exact beq_eq_false_iff_ne.2 (by omega) | exact bne_eq_false_iff_eq.2 (by omega)
    have t2:(decide (i<j))=false := decide_eq_false h
    rw [t2] at hN
    clear h
    replace hN := Lib.hid hN
    go_wp2_with fail
    exact hN.out _ (by exact fR rfl rfl rfl)
def c_br_r4 := sp 99 583 cF44
theorem br_r4_wp (hi:i≤1000000) (hj:j≤1000000) (hN:∀a',Frm 49 [(0,s_0),(1,tv),(2,s_2),(8,s_8),(9,.int .i64 (i:Nat)),(10,.int .i64 (j:Nat)),(11,.int .i64 (((i+j) / 2):Nat))] a'→Q .normal a' w):∀ac,Frm 49 [(0,s_0),(1,tv),(2,s_2),(8,s_8),(9,.int .i64 (i:Nat)),(10,.int .i64 (j:Nat))] ac→Code.wp Tryd.prog c_br_r4 Q ac w := by
  refine fO (frame_br ?_)
  intros
  rename_i hq
  iterate 6 (obtain ⟨e,hq⟩ := hq; obtain rfl := sI e; clear e)
  clear hq
  conv=>arg 2; whnf
  have q1:(i:Int)≤1000000 := by omega
  have q2:(j:Int)≤1000000 := by omega
  replace hN := Lib.hid hN
  go_wp2_with fail
  exact hN.out _ (by exact fR rfl rfl rfl)
def c_br_r5 := sp 99 1351 cF44
theorem br_r5_wp (hh:h<n) (e0:w.cell? ⟨b,o+h,none⟩=some (.slice B m d)) (hbl:b<w.heap.size) (hc:∀W:World,Below w.heap.size w W→Calls Tryd.prog 35 #[.slice B m d,tv] W fun e w'=>e=.returned (.int .i64 z)∧Below w.heap.size w w') (hN:∀a' w',Frm 49 [(0,.slice (some ⟨b,o,none⟩) n c),(1,tv),(2,.func (Fn.func 35) #[] #[]),(8,s_8),(9,s_9),(10,s_10),(11,.int .i64 (h:Nat)),(31,.bool (decide (z<0)))] a'→Below w.heap.size w w'→Q .normal a' w'):∀ac,Frm 49 [(0,.slice (some ⟨b,o,none⟩) n c),(1,tv),(2,.func (Fn.func 35) #[] #[]),(8,s_8),(9,s_9),(10,s_10),(11,.int .i64 (h:Nat))] ac→Code.wp Tryd.prog c_br_r5 Q ac w := by
  refine fO (frame_br ?_)
  intros
  rename_i hq
  iterate 7 (obtain ⟨e,hq⟩ := hq; obtain rfl := sI e; clear e)
  clear hq
  conv=>arg 2; whnf
  have q0:(0:Int)≤(h:Int) := by omega
  have q1:(h:Int)<(n:Int) := by omega
  by_cases hz:z<0
  · have t1:decide (z<0)=true := decide_eq_true hz
    rw [t1] at hN
    clear hz
    have HN := Lib.hid hN
    have HC := Lib.hid hc
    clear hN hc
    go_wp2_with fail
    (with_reducible refine (HC.out _ (Below.refl _ _)).mono ?_)
    rintro e w1 ⟨rfl,hb1⟩
    replace hb1 := Lib.hid hb1
    go_wp2_with fail
    exact HN.out _ _ (by exact fR rfl rfl rfl) hb1.out
  · have t1:decide (z<0)=false := decide_eq_false hz
    rw [t1] at hN
    clear hz
    have HN := Lib.hid hN
    have HC := Lib.hid hc
    clear hN hc
    go_wp2_with fail
    (with_reducible refine (HC.out _ (Below.refl _ _)).mono ?_)
    rintro e w1 ⟨rfl,hb1⟩
    replace hb1 := Lib.hid hb1
    go_wp2_with fail
    exact HN.out _ _ (by exact fR rfl rfl rfl) hb1.out
def c_br_r6 := sp 99 2887 cF44
theorem br_r6_wp (hh:h≤1000000) (hN:∀a',Frm 49 [(0,s_0),(1,tv),(2,s_2),(8,s_8),(9,.int .i64 ((h+1):Nat)),(10,s_10)] a'→Q .normal a' w):∀ac,Frm 49 [(0,s_0),(1,tv),(2,s_2),(8,s_8),(9,.int .i64 (i:Nat)),(10,s_10),(11,.int .i64 (h:Nat))] ac→Code.wp Tryd.prog c_br_r6 Q ac w := by
  refine fO (frame_br ?_)
  intros
  rename_i hq
  iterate 7 (obtain ⟨e,hq⟩ := hq; obtain rfl := sI e; clear e)
  clear hq
  conv=>arg 2; whnf
  have q1:(h:Int)≤1000000 := by omega
  replace hN := Lib.hid hN
  go_wp2_with fail
  exact hN.out _ (by exact fR rfl rfl rfl)
def c_br_r7 := sp 99 3911 cF44
theorem br_r7_wp (hN:∀a',Frm 49 [(0,s_0),(1,tv),(2,s_2),(8,s_8),(9,s_9),(10,.int .i64 (h:Nat))] a'→Q .normal a' w):∀ac,Frm 49 [(0,s_0),(1,tv),(2,s_2),(8,s_8),(9,s_9),(10,.int .i64 (j:Nat)),(11,.int .i64 (h:Nat))] ac→Code.wp Tryd.prog c_br_r7 Q ac w := by
  refine fO (frame_br ?_)
  intros
  rename_i hq
  iterate 7 (obtain ⟨e,hq⟩ := hq; obtain rfl := sI e; clear e)
  clear hq
  conv=>arg 2; whnf
  replace hN := Lib.hid hN
  go_wp2_with fail
  exact hN.out _ (by exact fR rfl rfl rfl)
def c_br_r8n := sp 99 47 cF44
theorem br_r8n_wp (hi:n≤i) (hN:∀a',Frm 49 [(6,.int .i64 (i:Nat)),(7,.bool false)] a'→Q .normal a' w):∀ac,Frm 49 [(0,.slice A n c),(1,tv),(2,.func (Fn.func 35) #[] #[]),(8,.int .i64 (n:Nat)),(9,.int .i64 (i:Nat)),(10,s_10)] ac→Code.wp Tryd.prog c_br_r8n Q ac w := by
  refine fO (frame_br ?_)
  intros
  rename_i hq
  iterate 6 (obtain ⟨e,hq⟩ := hq; obtain rfl := sI e; clear e)
  clear hq
  conv=>arg 2; whnf
  have t1:decide ((i:Int)<(n:Int))=false := decide_eq_false (by omega)
  have t2:decide (i<n)=false := decide_eq_false (by omega)
  replace hN := Lib.hid hN
  go_wp2_with fail
  exact hN.out _ (id ⟨rfl,rfl,rfl,rfl,trivial⟩)
def c_br_r8 := sp 99 47 cF44
theorem br_r8_wp (hi:i<n) (e0:w.cell? ⟨b,o+i,none⟩=some (.slice B m d)) (hbl:b<w.heap.size) (hc:∀W:World,Below w.heap.size w W→Calls Tryd.prog 35 #[.slice B m d,tv] W fun e w'=>e=.returned (.int .i64 z)∧Below w.heap.size w w') (hN:∀a' w',Frm 49 [(6,.int .i64 (i:Nat)),(7,.bool (decide (z=0)))] a'→Below w.heap.size w w'→Q .normal a' w'):∀ac,Frm 49 [(0,.slice (some ⟨b,o,none⟩) n c),(1,tv),(2,.func (Fn.func 35) #[] #[]),(8,.int .i64 (n:Nat)),(9,.int .i64 (i:Nat)),(10,s_10)] ac→Code.wp Tryd.prog c_br_r8 Q ac w := by
  refine fO (frame_br ?_)
  intros
  rename_i hq
  iterate 6 (obtain ⟨e,hq⟩ := hq; obtain rfl := sI e; clear e)
  clear hq
  conv=>arg 2; whnf
  have q0:(0:Int)≤(i:Int) := by omega
  have q1:(i:Int)<(n:Int) := by omega
  have t1:decide ((i:Int)<(n:Int))=true := decide_eq_true (by omega)
  have t2:decide (i<n)=true := decide_eq_true (by omega)
  by_cases hz:z=0
  · subst hz
    rw [show decide ((0:Int)=0)=true from rfl] at hN
    have HN := Lib.hid hN
    have HC := Lib.hid hc
    clear hN hc
    go_wp2_with fail
    (with_reducible refine (HC.out _ (Below.refl _ _)).mono ?_)
    rintro e w1 ⟨rfl,hb1⟩
    replace hb1 := Lib.hid hb1
    go_wp2_with fail
    exact HN.out _ _ (id ⟨rfl,rfl,rfl,rfl,trivial⟩) hb1.out
  · have t3:(z == 0)=false := beq_eq_false_iff_ne.2 hz
    rw [show decide (z=0)=false from decide_eq_false hz] at hN
    clear hz
    have HN := Lib.hid hN
    have HC := Lib.hid hc
    clear hN hc
    go_wp2_with fail
    (with_reducible refine (HC.out _ (Below.refl _ _)).mono ?_)
    rintro e w1 ⟨rfl,hb1⟩
    replace hb1 := Lib.hid hb1
    go_wp2_with fail
    exact HN.out _ _ (id ⟨rfl,rfl,rfl,rfl,trivial⟩) hb1.out
theorem br_ret_wp {R:Ending→World→Prop} {w':World} {bb:Bool} (hR:R (.returned (.tuple #[.int .i64 (i:Nat),.bool bb])) w'):∀ac,Frm 49 [(6,.int .i64 (i:Nat)),(7,.bool bb)] ac→bodyPost Tryd.prog Tryd.f44 R .ret ac w' := by
  refine fO (frame_br ?_)
  intros
  rename_i hq
  iterate 2 (obtain ⟨e,hq⟩ := hq; obtain rfl := sI e; clear e)
  clear hq
  refine bodyPost_ret (v := .tuple #[.int .i64 (i:Nat),.bool bb]) (by simp [results,Tryd.results44,go_sem]) rfl ?_
  exact hR
end
noncomputable section
set_option maxRecDepth 100000
set_option maxHeartbeats 4000000

theorem br_any (l:List (List Int)) (f:List Int→Int) (A:Option Addr) (n c:Nat) (tv:Value) (w:World) (S:Nat→Prop) (hl:intsRep.Sl w S (.slice A n c) l) (hS:∀b,S b→b<w.heap.size) (hn:l.length≤500000) (hmono:∀(i j:Nat) (hij:i≤j) (hj:j<l.length),f l[j]<0→f (l[i]'(by omega))<0) (hc:∀(W:World) (j:Nat) (h:j<l.length) (es:List Value),intsRep.R W S l[j] es→(∀b,S b→b<W.heap.size)→Below w.heap.size w W→Calls Tryd.prog 35 #[es.headD undef,tv] W fun e w'=>e=.returned (.int .i64 (f l[j]))∧Below W.heap.size W w') :
    Calls Tryd.prog 44 #[.slice A n c,tv,.func (Fn.func 35) #[] #[]] w fun e w'=>e=.returned (.tuple #[.int .i64 (cutN f l:Nat),.bool (hitN f l)])∧Below w.heap.size w w' := by
  obtain ⟨A',n',c',e9,hln,hmx,_⟩ := id hl
  injection e9 with e1 e2 e3
  subst e1 e2 e3
  go_enter Tryd.func44,Tryd.ntmps44
  refine wp_seq ?_
  refine br_r0_wp (fun a0 h0=>?_) _ (by exact fR rfl rfl rfl)
  refine gen_last (fun wx=>Below w.heap.size w wx) (Below.refl _ _) ?_
  intro wx hb0
  refine wp_seq ?_
  refine br_r1_wp (fun a1 h1=>?_) a0 h0
  refine wp_seq ?_
  refine br_r2_wp (fun a2 h2=>?_) a1 h1
  refine wp_seq ?_
  refine wp_block ?_
  refine wp_loopR (fun g a' w'=>∃i j:Nat,g=j - i∧i≤j∧j≤l.length∧(∀k (h:k<l.length),k<i→f l[k]<0)∧(∀k (h:k<l.length),j≤k→¬ f l[k]<0)∧Below w.heap.size w w'∧Frm 49 [(0,.slice A n c),(1,tv),(2,.func (Fn.func 35) #[] #[]),(8,.int .i64 (n:Nat)),(9,.int .i64 (i:Nat)),(10,.int .i64 (j:Nat))] a') l.length ⟨0,l.length,rfl,Nat.zero_le _,Nat.le_refl _,fun _ _ h=>absurd h (Nat.not_lt_zero _),fun k hk h=>absurd hk (by omega),hb0,by rw [hln]; exact h2⟩ ?_
  rintro g a1 w1 ⟨i,j,rfl,hijle,hjn,hlo,hhi,hb01,h1⟩
  have hold := fun k hk=>hb01.block k (hS k hk)
  have hbs := hb01.size
  refine wp_seq ?_
  refine wp_seq ?_
  refine br_r3_wp (fun a2 h2=>?_) a1 h1
  by_cases hij:i<j
  case neg =>
    refine wp_cond_false ((h2.eval (k := 17) (v := .bool (decide (i<j))) (by simp)).trans (by rw [decide_eq_false hij])) ?_
    refine wp_exit ?_
    repeat refine then_exit ?_
    refine inBlock_exit ?_
    show Code.wp _ _ _ a2 w1
    have hji:j=i := by omega
    subst hji
    have hcut:cutN f l=j := cutN_eq f l j (by omega) (fun k hk hkj=>hlo k hk hkj) (fun h=>hhi j h (Nat.le_refl _))
    refine wp_seq ?_
    by_cases hin:j<l.length
    · obtain ⟨b,o,cs,rfl,hSb,hr,hcc⟩ := Rep.Sl.at_ hl (List.getElem?_eq_getElem hin)
      obtain ⟨v9,rfl,hv9⟩ := id hr; obtain ⟨B,d,rfl,hm9⟩ := hv9.shape
      have e0:w1.cell? ⟨b,o+j,none⟩=_ := (cell_keep (hold b hSb) _).trans (by simpa [intsRep] using hcc 0 _ rfl)
      have hcj := fun (W:World) (hb:Below w1.heap.size w1 W)=>(hc W j hin _ (intsRep.keep hr (fun k hk=>(hb.block k (by have := hS k hk; omega)).trans (hold k hk)) (fun _ h=>h)) (fun k hk=>by have := hS k hk; have := hb.size; omega) (hb01.trans (hb.mono (by omega)))).mono (R' := fun e w'=>e=.returned (.int .i64 (f (l[j]'hin)))∧Below w1.heap.size w1 w') (fun e w' h=>⟨h.1,hb.trans (h.2.mono hb.size)⟩)
      refine br_r8_wp (by omega) e0 (by have := hS b hSb; omega) hcj (fun a3 w3 h3 hb3=>?_) a2 (h2.pick [0,1,2,3,4,5])
      refine wp_ret ?_
      refine br_ret_wp ⟨?_,hb01.trans (hb3.mono hbs)⟩ a3 h3
      rw [hitN_at f l (by omega)]
      simp only [hcut]
    · refine br_r8n_wp (by omega) (fun a3 h3=>?_) a2 (h2.pick [0,1,2,3,4,5])
      refine wp_ret ?_
      refine br_ret_wp ⟨?_,hb01⟩ a3 h3
      rw [hitN_end f l (by omega),hcut]
  refine wp_cond_true ((h2.eval (k := 17) (v := .bool (decide (i<j))) (by simp)).trans (by rw [decide_eq_true hij])) ?_
  refine wp_skip ?_
  show Code.wp _ _ _ a2 w1
  have hm:(i+j) / 2<l.length := by omega
  obtain ⟨b,o,cs,rfl,hSb,hr,hcc⟩ := Rep.Sl.at_ hl (List.getElem?_eq_getElem hm)
  obtain ⟨v9,rfl,hv9⟩ := id hr; obtain ⟨B,d,rfl,hm9⟩ := hv9.shape
  have e0:w1.cell? ⟨b,o+((i+j) / 2),none⟩=_ := (cell_keep (hold b hSb) _).trans (by simpa [intsRep] using hcc 0 _ rfl)
  have hcj := fun (W:World) (hb:Below w1.heap.size w1 W)=>(hc W ((i+j) / 2) hm _ (intsRep.keep hr (fun k hk=>(hb.block k (by have := hS k hk; omega)).trans (hold k hk)) (fun _ h=>h)) (fun k hk=>by have := hS k hk; have := hb.size; omega) (hb01.trans (hb.mono (by omega)))).mono (R' := fun e w'=>e=.returned (.int .i64 (f (l[((i+j) / 2)]'hm)))∧Below w1.heap.size w1 w') (fun e w' h=>⟨h.1,hb.trans (h.2.mono hb.size)⟩)
  refine wp_block ?_
  refine wp_seq ?_
  refine br_r4_wp (by omega) (by omega) (fun a3 h3=>?_) a2 (h2.pick [0,1,2,3,4,5])
  refine wp_seq ?_
  refine br_r5_wp (h := (i+j) / 2) (by omega) e0 (by have := hS b hSb; omega) hcj (fun a4 w4 h4 hb4=>?_) a3 h3
  have hb14 := hb01.trans (hb4.mono hbs)
  by_cases hz:f l[(i+j) / 2]<0
  · refine wp_cond_true ((h4.eval (k := 31) (v := .bool (decide (f l[(i+j) / 2]<0))) (by simp)).trans (by rw [decide_eq_true hz])) ?_
    refine br_r6_wp (h := (i+j) / 2) (by omega) (fun a5 h5=>?_) a4 (h4.pick [0,1,2,3,4,5,6])
    refine ⟨j - ((i+j) / 2+1),by omega,(i+j) / 2+1,j,rfl,by omega,by omega,fun k hk hki=>?_,hhi,hb14,h5⟩
    exact hmono k ((i+j) / 2) (by omega) (by omega) hz
  · refine wp_cond_false ((h4.eval (k := 31) (v := .bool (decide (f l[(i+j) / 2]<0))) (by simp)).trans (by rw [decide_eq_false hz])) ?_
    refine br_r7_wp (h := (i+j) / 2) (fun a5 h5=>?_) a4 (h4.pick [0,1,2,3,4,5,6])
    refine ⟨(i+j) / 2 - i,by omega,i,(i+j) / 2,rfl,by omega,by omega,hlo,fun k hk hki=>?_,hb14,h5⟩
    exact fun hz2=>hz (hmono _ _ hki hk hz2)
end

end Go.Proofs.YthfokmjpbnfihaaDoor
