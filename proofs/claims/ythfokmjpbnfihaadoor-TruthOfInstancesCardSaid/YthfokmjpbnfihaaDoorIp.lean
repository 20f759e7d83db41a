/- Lemmas. -/
import Derived.Test.YthfokmjpbnfihaaDoorIi
import Derived.Test.YthfokmjpbnfihaaDoorIf
namespace Go.Proofs.YthfokmjpbnfihaaDoor
open Go Go.RowKit
set_option linter.unusedSimpArgs false
set_option linter.unusedVariables false
noncomputable section
set_option maxRecDepth 1000000
set_option maxHeartbeats 16000000
variable {Q:Exit→Act→World→Prop} {wo w:World} {kd ke:Int} {nm ne:ByteArray} {A B Ae Be:Option Addr} {n1 c1 n2 c2 i n3 c3 n4 c4 m:Nat} {s_1 s_3 s_7 s_8:Value}

mutual
def nestT:Tree FmL→Nat
  | .mk a l=>if isQu a.kind=true then nestTs l+1 else nestTs l
def nestTs:List (Tree FmL)→Nat
  | []=>0
  | t :: l=>max (nestT t) (nestTs l)
end
theorem nestTs_app:∀a b:List (Tree FmL),nestTs (a++b)=max (nestTs a) (nestTs b)
  | [],b=>by simp [nestTs]
  | x :: a,b=>by simp [nestTs,nestTs_app a b,Nat.max_assoc]
theorem nestTs_take (l:List (Tree FmL)) (j:Nat) (h:j<l.length):nestTs (l.take (j+1))=max (nestTs (l.take j)) (nestT l[j]) := by
  rw [List.take_succ_eq_append_getElem h,nestTs_app]; simp [nestTs]
mutual
theorem nestT_le:∀t:Tree FmL,nestT t≤t.nodes
  | .mk a l=>by
    have := nestTs_le l
    unfold nestT; simp only [Tree.nodes]; split <;> omega
theorem nestTs_le:∀l:List (Tree FmL),nestTs l≤Tree.nodess l
  | []=>by simp [nestTs]
  | t :: l=>by
    have h1 := nestT_le t
    have h2 := nestTs_le l
    simp only [nestTs,Tree.nodess]; omega
end
theorem nestT_fm:∀v:Fv,v.ok→nestT v.fm=nestF v
  | .tru,_=>by simp [Fv.fm,nestT,nestTs,nestF,isQu]
  | .pred n ws,_=>by simp [Fv.fm,nestT,nestTs,nestF,isQu]
  | .same a b,_=>by simp [Fv.fm,nestT,nestTs,nestF,isQu]
  | .neg f,h=>by have := nestT_fm f h; simp [Fv.fm,nestT,nestTs,nestF,isQu,this]
  | .bin k f g,h=>by
    have h1 := nestT_fm f h.2.1
    have h2 := nestT_fm g h.2.2
    have hk := h.1
    have:isQu (k:Int)=false := by unfold isQu; simp; omega
    simp [Fv.fm,nestT,nestTs,nestF,this,h1,h2]
  | .qu k x f,h=>by
    have h1 := nestT_fm f h.2.2
    have hk := h.1
    have:isQu (k:Int)=true := by unfold isQu; simp; omega
    simp [Fv.fm,nestT,nestTs,nestF,this,h1]
theorem frame_ne {P:Act→Prop} (h:∀x0 x1 x2 x3 x4 x5 x6 x7 x8 x9 x10 x11 x12 x13 x14 x15 x16 x17 x18 x19 x20 x21 x22:Value,P ⟨(x0 :: x1 :: x2 :: x3 :: x4 :: x5 :: x6 :: x7 :: x8 :: x9 :: x10 :: x11 :: x12 :: x13 :: x14 :: x15 :: x16 :: x17 :: x18 :: x19 :: x20 :: x21 :: x22 :: []).toArray,[]⟩):∀a:Act,a.tmps.toList.length=23→a.defers=[]→P a := by
  rintro ⟨⟨l⟩,d⟩ hs hd
  simp only at hd
  subst hd
  revert l
  show ∀l:List Value,l.length=23→P ⟨⟨l⟩,[]⟩
  iterate 23 refine openS (fun _=>?_)
  refine open0 ?_
  exact h ..
noncomputable def cF49:Code := Tryd.f49.body.getD .skip
def c_ne_r0 := sp 99 2 cF49
theorem ne_r0_wp (hN:∀a',Frm 23 [(1,.pointer (some ⟨wo.heap.size,0,none⟩))] a'→Q .normal a' (wo.alloc (.cells #[.int .i64 kd,.string nm,.slice A n1 c1,.slice B n2 c2] 29))):∀ac,Frm 23 [(0,.agg #[.int .i64 kd,.string nm,.slice A n1 c1,.slice B n2 c2])] ac→Code.wp Tryd.prog c_ne_r0 Q ac wo := by
  refine fO (frame_ne ?_)
  intros
  rename_i hq
  iterate 1 (obtain ⟨e,hq⟩ := hq; obtain rfl := sI e; clear e)
  clear hq
  conv=>arg 2; whnf
  replace hN := Lib.hid hN
  go_wp2_with fail
  exact hN.out _ (id ⟨rfl,rfl,rfl,trivial⟩)
def c_ne_r1 := sp 99 5 cF49
theorem ne_r1_wp (hN:∀a',Frm 23 [(1,s_1),(3,.int .i64 (0:Nat))] a'→Q .normal a' w):∀ac,Frm 23 [(1,s_1)] ac→Code.wp Tryd.prog c_ne_r1 Q ac w := by
  refine fO (frame_ne ?_)
  intros
  rename_i hq
  iterate 1 (obtain ⟨e,hq⟩ := hq; obtain rfl := sI e; clear e)
  clear hq
  conv=>arg 2; whnf
  replace hN := Lib.hid hN
  go_wp2_with fail
  exact hN.out _ (id ⟨rfl,rfl,rfl,rfl,trivial⟩)
def c_ne_r2 := sp 99 19 cF49
theorem ne_r2_wp (ha:w.heap[wo.heap.size]? = some (.cells #[.int .i64 kd,.string nm,.slice A n1 c1,.slice B n2 c2] 29 (0,0))) (hN:∀a',Frm 23 [(1,.pointer (some ⟨wo.heap.size,0,none⟩)),(3,s_3),(7,.slice B n2 c2),(8,.int .i64 (n2:Nat)),(9,.int .i64 (0:Nat))] a'→Q .normal a' w):∀ac,Frm 23 [(1,.pointer (some ⟨wo.heap.size,0,none⟩)),(3,s_3)] ac→Code.wp Tryd.prog c_ne_r2 Q ac w := by
  refine fO (frame_ne ?_)
  intros
  rename_i hq
  iterate 2 (obtain ⟨e,hq⟩ := hq; obtain rfl := sI e; clear e)
  clear hq
  conv=>arg 2; whnf
  have a0 := cellv ha 0 rfl
  have a1 := cellv ha 1 rfl
  have a2 := cellv ha 2 rfl
  have a3 := cellv ha 3 rfl
  have al := lt_heap ha
  clear ha
  replace hN := Lib.hid hN
  go_wp2_with fail
  exact hN.out _ (by exact fR rfl rfl rfl)
def c_ne_r3 := sp 99 139 cF49
theorem ne_r3_wp (hN:∀a',Frm 23 [(1,s_1),(3,s_3),(7,s_7),(8,.int .i64 (n2:Nat)),(9,.int .i64 (i:Nat)),(10,.bool (decide (i<n2)))] a'→Q .normal a' w):∀ac,Frm 23 [(1,s_1),(3,s_3),(7,s_7),(8,.int .i64 (n2:Nat)),(9,.int .i64 (i:Nat))] ac→Code.wp Tryd.prog c_ne_r3 Q ac w := by
  refine fO (frame_ne ?_)
  intros
  rename_i hq
  iterate 5 (obtain ⟨e,hq⟩ := hq; obtain rfl := sI e; clear e)
  clear hq
  conv=>arg 2; whnf
  by_cases h:i<n2
  · have t1:decide ((i:Int)<(n2:Int))=true := by first | exact decide_eq_true (by omega) | exact beq_iff_eq.2 (by omega) | exact bne_iff_ne.2 (by omega)
    have t2:(decide (i<n2))=true := decide_eq_true h
    rw [t2] at hN
    clear h
    replace hN := Lib.hid hN
    go_wp2_with fail
    exact hN.out _ (by exact fR rfl rfl rfl)
  · have t1:decide ((i:Int)<(n2:Int))=false := by first | exact decide_eq_false (by omega) | exact beq_eq_false_iff_ne.2 (by omega) | exact bne_eq_false_iff_eq.2 (by omega)
    have t2:(decide (i<n2))=false := decide_eq_false h
    rw [t2] at hN
    clear h
    replace hN := Lib.hid hN
    go_wp2_with fail
    exact hN.out _ (by exact fR rfl rfl rfl)
def c_ne_r4 := sp 99 2251 cF49
theorem ne_r4_wp {b o:Nat} (hi:i<n2) (e0:w.cell? ⟨b,o+i * 4,none⟩=some (.int .i64 ke)) (e1:w.cell? ⟨b,o+i * 4+1,none⟩=some (.string ne)) (e2:w.cell? ⟨b,o+i * 4+2,none⟩=some (.slice Ae n3 c3)) (e3:w.cell? ⟨b,o+i * 4+3,none⟩=some (.slice Be n4 c4)) (hbl:b<w.heap.size) (hN:∀a' w',Frm 23 [(1,s_1),(3,s_3),(7,.slice (some ⟨b,o,none⟩) n2 c2),(8,s_8),(9,.int .i64 (i:Nat)),(5,.pointer (some ⟨w.heap.size,0,none⟩))] a'→w'.heap[w.heap.size]? = some (.cells #[.int .i64 ke,.string ne,.slice Ae n3 c3,.slice Be n4 c4] 29 (0,0))→Below w.heap.size w w'→Q .normal a' w'):∀ac,Frm 23 [(1,s_1),(3,s_3),(7,.slice (some ⟨b,o,none⟩) n2 c2),(8,s_8),(9,.int .i64 (i:Nat))] ac→Code.wp Tryd.prog c_ne_r4 Q ac w := by
  refine fO (frame_ne ?_)
  intros
  rename_i hq
  iterate 5 (obtain ⟨e,hq⟩ := hq; obtain rfl := sI e; clear e)
  clear hq
  conv=>arg 2; whnf
  have q0:(0:Int)≤(i:Int) := by omega
  have q1:(i:Int)<(n2:Int) := by omega
  replace hN := Lib.hid hN
  go_wp2_with fail
  exact hN.out _ _ (by exact fR rfl rfl rfl) (heap_alloc_new _ _) ((Below.refl _ w).alloc (Nat.le_refl _) _)
def c_ne_r5 := sp 99 3275 cF49
theorem ne_r5_wp {s_9:Value} {k E:Nat} (he:w.heap[E]? = some (.cells #[.int .i64 ke,.string ne,.slice Ae n3 c3,.slice Be n4 c4] 29 (0,0))) (hc:Calls Tryd.prog 49 #[.agg #[.int .i64 ke,.string ne,.slice Ae n3 c3,.slice Be n4 c4]] w fun e w'=>e=.returned (.int .i64 (k:Nat))∧Below w.heap.size w w') (hN:∀a' w',Frm 23 [(1,s_1),(3,.int .i64 ((max m k):Nat)),(7,s_7),(8,s_8),(9,s_9)] a'→Below w.heap.size w w'→Q .normal a' w'):∀ac,Frm 23 [(1,s_1),(3,.int .i64 (m:Nat)),(7,s_7),(8,s_8),(9,s_9),(5,.pointer (some ⟨E,0,none⟩))] ac→Code.wp Tryd.prog c_ne_r5 Q ac w := by
  refine fO (frame_ne ?_)
  intros
  rename_i hq
  iterate 6 (obtain ⟨e,hq⟩ := hq; obtain rfl := sI e; clear e)
  clear hq
  conv=>arg 2; whnf
  have a0 := cellv he 0 rfl
  have a1 := cellv he 1 rfl
  have a2 := cellv he 2 rfl
  have a3 := cellv he 3 rfl
  have al := lt_heap he
  clear he
  rcases Nat.lt_or_ge m k with hmk | hmk
  · rw [show max m k=k by omega] at hN
    have HN := Lib.hid hN
    have HC := Lib.hid hc
    clear hN hc
    go_wp2_with fail
    (with_reducible refine HC.out.mono ?_)
    rintro e w1 ⟨rfl,hb1⟩
    replace hb1 := Lib.hid hb1
    go_wp2_with fail
    all_goals first | (exfalso; omega) | exact HN.out _ _ (by exact fR rfl rfl rfl) hb1.out
  · rw [show max m k=m by omega] at hN
    have HN := Lib.hid hN
    have HC := Lib.hid hc
    clear hN hc
    go_wp2_with fail
    (with_reducible refine HC.out.mono ?_)
    rintro e w1 ⟨rfl,hb1⟩
    replace hb1 := Lib.hid hb1
    go_wp2_with fail
    all_goals first | (exfalso; omega) | exact HN.out _ _ (by exact fR rfl rfl rfl) hb1.out
def c_ne_r6 := sp 99 971 cF49
theorem ne_r6_wp (hi:i<n2) (hlim:n2≤maxLen) (hN:∀a',Frm 23 [(1,s_1),(3,s_3),(7,s_7),(8,s_8),(9,.int .i64 (i+1:Nat))] a'→Q .normal a' w):∀ac,Frm 23 [(1,s_1),(3,s_3),(7,s_7),(8,s_8),(9,.int .i64 (i:Nat))] ac→Code.wp Tryd.prog c_ne_r6 Q ac w := by
  refine fO (frame_ne ?_)
  intros
  rename_i hq
  iterate 5 (obtain ⟨e,hq⟩ := hq; obtain rfl := sI e; clear e)
  clear hq
  conv=>arg 2; whnf
  have hi4:(i:Int)≤9223372036854775806 := by unfold maxLen at hlim; omega
  replace hN := Lib.hid hN
  go_wp2_with fail
  exact hN.out _ (by exact fR rfl rfl rfl)
def c_ne_r7 := sp 99 39 cF49
theorem ne_r7_wp (ha:w.heap[wo.heap.size]? = some (.cells #[.int .i64 kd,.string nm,.slice A n1 c1,.slice B n2 c2] 29 (0,0))) (hN:∀a' w',Frm 23 [(1,.pointer (some ⟨wo.heap.size,0,none⟩)),(3,s_3),(19,.bool (isQu kd))] a'→Below w.heap.size w w'→Q .normal a' w'):∀ac,Frm 23 [(1,.pointer (some ⟨wo.heap.size,0,none⟩)),(3,s_3)] ac→Code.wp Tryd.prog c_ne_r7 Q ac w := by
  refine fO (frame_ne ?_)
  intros
  rename_i hq
  iterate 2 (obtain ⟨e,hq⟩ := hq; obtain rfl := sI e; clear e)
  clear hq
  conv=>arg 2; whnf
  have a0 := cellv ha 0 rfl
  have a1 := cellv ha 1 rfl
  have a2 := cellv ha 2 rfl
  have a3 := cellv ha 3 rfl
  have al := lt_heap ha
  clear ha
  have hq := quant_any kd nm A B n1 c1 n2 c2 w
  have HN := Lib.hid hN
  have HQ := Lib.hid hq
  clear hN hq
  go_wp2_with fail
  (with_reducible refine HQ.out.mono ?_)
  rintro e w1 ⟨rfl,hb1⟩
  replace hb1 := Lib.hid hb1
  go_wp2_with fail
  exact HN.out _ _ (by exact fR rfl rfl rfl) hb1.out
def c_ne_r8 := sp 99 87 cF49
theorem ne_r8_wp (hm:m≤1000000) (hN:∀a',Frm 23 [(1,s_1),(3,.int .i64 ((m+1):Nat))] a'→Q .normal a' w):∀ac,Frm 23 [(1,s_1),(3,.int .i64 (m:Nat))] ac→Code.wp Tryd.prog c_ne_r8 Q ac w := by
  refine fO (frame_ne ?_)
  intros
  rename_i hq
  iterate 2 (obtain ⟨e,hq⟩ := hq; obtain rfl := sI e; clear e)
  clear hq
  conv=>arg 2; whnf
  have hm4:(m:Int)≤1000000 := by omega
  replace hN := Lib.hid hN
  go_wp2_with fail
  exact hN.out _ (id ⟨rfl,rfl,rfl,rfl,trivial⟩)
def c_ne_r9 := sp 99 47 cF49
theorem ne_r9_wp (hN:∀a',Frm 23 [(2,.int .i64 (m:Nat))] a'→Q .normal a' w):∀ac,Frm 23 [(1,s_1),(3,.int .i64 (m:Nat))] ac→Code.wp Tryd.prog c_ne_r9 Q ac w := by
  refine fO (frame_ne ?_)
  intros
  rename_i hq
  iterate 2 (obtain ⟨e,hq⟩ := hq; obtain rfl := sI e; clear e)
  clear hq
  conv=>arg 2; whnf
  replace hN := Lib.hid hN
  go_wp2_with fail
  exact hN.out _ (id ⟨rfl,rfl,rfl,trivial⟩)
theorem ne_ret_wp {R:Ending→World→Prop} {w':World} (hR:R (.returned (.int .i64 (m:Nat))) w'):∀ac,Frm 23 [(2,.int .i64 (m:Nat))] ac→bodyPost Tryd.prog Tryd.f49 R .ret ac w' := by
  refine fO (frame_ne ?_)
  intros
  rename_i hq
  iterate 1 (obtain ⟨e,hq⟩ := hq; obtain rfl := sI e; clear e)
  clear hq
  refine bodyPost_ret (v := .int .i64 (m:Nat)) (by simp [results,Tryd.results49,go_sem]) rfl ?_
  exact hR
theorem nest_any:∀(N:Nat) (t:Fm) (cs:List Value) (w:World) (S:Nat→Prop),t.nodes≤N→N≤1000000→fmRep.R w S t cs→(∀b,S b→b<w.heap.size)→Calls Tryd.prog 49 #[.agg cs.toArray] w fun e w'=>e=.returned (.int .i64 (nestT t:Nat))∧Below w.heap.size w w' := by
  intro N
  induction N with
  | zero=>intro t; have := t.nodes_pos; intros; omega
  | succ N ih =>
  intro t cs w S hN hM ht hS
  obtain ⟨⟨kd,nm,us⟩,ks⟩ := t
  obtain ⟨u,v9,rfl,hnm,hw,hl⟩ := Fm.open_ ht
  simp only at hw hnm
  obtain ⟨A,n1,c1,rfl,e1,hm1,_⟩ := id hw
  obtain ⟨B,n2,c2,rfl,e2,hm2,_⟩ := id hl
  clear ht
  simp only [Tree.nodes] at hN
  have hle := nestTs_le ks
  go_enter Tryd.func49,Tryd.ntmps49
  refine wp_seq ?_
  refine ne_r0_wp (fun a0 h0=>?_) _ (id ⟨rfl,rfl,rfl,trivial⟩)
  refine gen_last (fun wx=>wx.heap[w.heap.size]? = some (.cells #[.int .i64 kd,.string nm,.slice A n1 c1,.slice B n2 c2] 29 (0,0))∧Below w.heap.size w wx) ⟨heap_alloc_new _ _,(Below.refl _ _).alloc (Nat.le_refl _) _⟩ ?_
  rintro wx ⟨ha,hb⟩
  have hbs := hb.size
  have hold := fun k hk=>hb.block k (hS k hk)
  have hal := lt_heap ha
  refine wp_seq ?_
  refine ne_r1_wp (fun a1 h1=>?_) a0 h0
  refine wp_seq ?_
  refine wp_seq ?_
  refine ne_r2_wp ha (fun a2 h2=>?_) a1 h1
  refine wp_block ?_
  refine wp_loopR (fun g a' w'=>∃j:Nat,j+g=ks.length∧Below wx.heap.size wx w'∧Frm 23 [(1,.pointer (some ⟨w.heap.size,0,none⟩)),(3,.int .i64 ((nestTs (ks.take j)):Nat)),(7,.slice B n2 c2),(8,.int .i64 (n2:Nat)),(9,.int .i64 (j:Nat))] a') ks.length ⟨0,by omega,Below.refl _ _,by simpa [nestTs] using h2⟩ ?_
  rintro g a3 w3 ⟨j,hjg,hb3,h3⟩
  have hb3s := hb3.size
  refine wp_seq ?_
  refine ne_r3_wp (fun a4 h4=>?_) a3 h3
  refine wp_seq ?_
  by_cases hj:j<n2
  case neg =>
    refine wp_cond_false ((h4.eval (k := 10) (v := .bool (decide (j<n2))) (by simp)).trans (by rw [decide_eq_false hj])) ?_
    refine wp_exit ?_
    repeat refine then_exit ?_
    refine inBlock_exit ?_
    show Code.wp _ _ _ a4 w3
    rw [List.take_of_length_le (by omega)] at h4
    refine wp_seq ?_
    refine wp_seq ?_
    refine ne_r7_wp ((hb3.block _ hal).trans ha) (fun a5 w5 h5 hb5=>?_) a4 (h4.pick [0,1])
    have hfin := hb.trans ((hb3.trans (hb5.mono hb3s)).mono hbs)
    cases hq:isQu kd
    · rw [hq] at h5
      refine wp_cond_false ((h5.eval (k := 19) (v := .bool false) (by simp)).trans (by rw [show false=false from rfl])) ?_
      refine wp_skip ?_
      show Code.wp _ _ _ a5 w5
      refine wp_seq ?_
      refine ne_r9_wp (fun a6 h6=>?_) a5 (h5.pick [0,1])
      refine wp_ret ?_
      refine ne_ret_wp ⟨?_,hfin⟩ a6 h6
      simp [nestT,hq]
    · rw [hq] at h5
      refine wp_cond_true ((h5.eval (k := 19) (v := .bool true) (by simp)).trans (by rw [show true=true from rfl])) ?_
      refine ne_r8_wp (by omega) (fun a6 h6=>?_) a5 (h5.pick [0,1])
      show Code.wp _ _ _ a6 w5
      refine wp_seq ?_
      refine ne_r9_wp (fun a7 h7=>?_) a6 h6
      refine wp_ret ?_
      refine ne_ret_wp ⟨?_,hfin⟩ a7 h7
      simp [nestT,hq]
  refine wp_cond_true ((h4.eval (k := 10) (v := .bool (decide (j<n2))) (by simp)).trans (by rw [decide_eq_true hj])) ?_
  refine wp_skip ?_
  show Code.wp _ _ _ a4 w3
  have hjl:j<ks.length := by omega
  obtain ⟨b,o,cs,rfl,hSb,hr,hc⟩ := Rep.Sl.at_ hl (List.getElem?_eq_getElem hjl)
  obtain ⟨Ae,n3,c3,Be,n4,c4,rfl,_,_,_,_⟩ := Fm.shape hr
  have hold3:∀k,S k→w3.heap[k]? = w.heap[k]? := fun k hk=>(hb3.block k (by have := hS k hk; omega)).trans (hold k hk)
  have hkb := hold3 b hSb
  have e0:w3.cell? ⟨b,o+j * 4,none⟩=_ := (cell_keep hkb _).trans (hc 0 _ rfl)
  have e1:w3.cell? ⟨b,o+j * 4+1,none⟩=_ := (cell_keep hkb _).trans (hc 1 _ rfl)
  have e2:w3.cell? ⟨b,o+j * 4+2,none⟩=_ := (cell_keep hkb _).trans (hc 2 _ rfl)
  have e3:w3.cell? ⟨b,o+j * 4+3,none⟩=_ := (cell_keep hkb _).trans (hc 3 _ rfl)
  have hnj := Tree.nodes_at ks j hjl
  have htk := nestTs_take ks j hjl
  refine wp_seq ?_
  refine wp_block ?_
  refine wp_seq ?_
  refine ne_r4_wp hj e0 e1 e2 e3 (by have := hS b hSb; omega) (fun a5 w5 h5 he5 hb5=>?_) a4 (h4.pick [0,1,2,3,4])
  have hb35 := hb3.trans (hb5.mono hb3s)
  have hb5s := hb5.size
  have hold5:∀k,S k→w5.heap[k]? = w.heap[k]? := fun k hk=>(hb35.block k (by have := hS k hk; omega)).trans (hold k hk)
  have hih := ih ks[j] _ w5 S (by omega) (by omega) (fmRep.keep hr hold5 (fun _ h=>h)) (fun b hb=>by have := hS b hb; omega)
  refine ne_r5_wp he5 hih (fun a6 w6 h6 hb6=>?_) a5 h5
  have hb36 := hb35.trans (hb6.mono (by omega))
  show Code.wp _ _ _ a6 w6
  refine ne_r6_wp hj (by omega) (fun a9 h9=>?_) a6 h6
  refine ⟨g - 1,by omega,j+1,by omega,hb36,?_⟩
  rw [htk]; exact h9
end

end Go.Proofs.YthfokmjpbnfihaaDoor
