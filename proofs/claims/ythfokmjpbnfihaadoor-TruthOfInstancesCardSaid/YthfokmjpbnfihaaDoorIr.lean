/- Lemmas. -/
import Derived.Test.YthfokmjpbnfihaaDoorIo
import Derived.Test.YthfokmjpbnfihaaDoorIp
import Derived.Test.YthfokmjpbnfihaaDoorIq
import Derived.Test.YthfokmjpbnfihaaDoorIh
import Derived.Deep.RegionLawGrows
import Derived.ArgAppend
namespace Go.Proofs.YthfokmjpbnfihaaDoor
open Go Go.RowKit
set_option linter.unusedSimpArgs false
set_option linter.unusedVariables false
noncomputable section
set_option maxRecDepth 1000000
set_option maxHeartbeats 16000000
variable {s_1 s_2 s_3 s_25 s_26:Value} {Q:Exit→Act→World→Prop} {wo w:World} {kd ke:Int} {nm ne:ByteArray} {A B Ae Be:Option Addr} {n1 c1 n2 c2 gm i n3 c3 n4 c4:Nat} {bb:Bool}

theorem frame_fl {P:Act→Prop} (h:∀x0 x1 x2 x3 x4 x5 x6 x7 x8 x9 x10 x11 x12 x13 x14 x15 x16 x17 x18 x19 x20 x21 x22 x23 x24 x25 x26 x27 x28 x29 x30 x31 x32 x33 x34 x35:Value,P ⟨(x0 :: x1 :: x2 :: x3 :: x4 :: x5 :: x6 :: x7 :: x8 :: x9 :: x10 :: x11 :: x12 :: x13 :: x14 :: x15 :: x16 :: x17 :: x18 :: x19 :: x20 :: x21 :: x22 :: x23 :: x24 :: x25 :: x26 :: x27 :: x28 :: x29 :: x30 :: x31 :: x32 :: x33 :: x34 :: x35 :: []).toArray,[]⟩):∀a:Act,a.tmps.toList.length=36→a.defers=[]→P a := by
  rintro ⟨⟨l⟩,d⟩ hs hd
  simp only at hd
  subst hd
  revert l
  show ∀l:List Value,l.length=36→P ⟨⟨l⟩,[]⟩
  iterate 36 refine openS (fun _=>?_)
  refine open0 ?_
  exact h ..
noncomputable def cF51:Code := Tryd.f51.body.getD .skip
def c_fl_r0 := sp 99 2 cF51
theorem fl_r0_wp (hN:∀a',Frm 36 [(1,s_1),(2,s_2),(3,.pointer (some ⟨wo.heap.size,0,none⟩))] a'→Q .normal a' (wo.alloc (.cells #[.int .i64 kd,.string nm,.slice A n1 c1,.slice B n2 c2] 29))):∀ac,Frm 36 [(0,.agg #[.int .i64 kd,.string nm,.slice A n1 c1,.slice B n2 c2]),(1,s_1),(2,s_2)] ac→Code.wp Tryd.prog c_fl_r0 Q ac wo := by
  refine fO (frame_fl ?_)
  intros
  rename_i hq
  iterate 3 (obtain ⟨e,hq⟩ := hq; obtain rfl := sI e; clear e)
  clear hq
  conv=>arg 2; whnf
  replace hN := Lib.hid hN
  go_wp2_with fail
  exact hN.out _ (by exact fR rfl rfl rfl)
def c_fl_r1 := sp 99 9 cF51
theorem fl_r1_wp (ha:w.heap[wo.heap.size]? = some (.cells #[.int .i64 kd,.string nm,.slice A n1 c1,.slice B n2 c2] 29 (0,0))) (hN:∀a',Frm 36 [(1,s_1),(2,s_2),(3,.pointer (some ⟨wo.heap.size,0,none⟩)),(11,.bool (decide (kd=2)))] a'→Q .normal a' w):∀ac,Frm 36 [(1,s_1),(2,s_2),(3,.pointer (some ⟨wo.heap.size,0,none⟩))] ac→Code.wp Tryd.prog c_fl_r1 Q ac w := by
  refine fO (frame_fl ?_)
  intros
  rename_i hq
  iterate 3 (obtain ⟨e,hq⟩ := hq; obtain rfl := sI e; clear e)
  clear hq
  conv=>arg 2; whnf
  have a0 := cellv ha 0 rfl
  have a1 := cellv ha 1 rfl
  have a2 := cellv ha 2 rfl
  have a3 := cellv ha 3 rfl
  have al := lt_heap ha
  clear ha
  by_cases h:kd=2
  · have t1:(kd == 2)=true := beq_iff_eq.2 h
    have t2:decide (kd=2)=true := decide_eq_true h
    rw [t2] at hN
    clear h
    replace hN := Lib.hid hN
    go_wp2_with fail
    exact hN.out _ (by exact fR rfl rfl rfl)
  · have t1:(kd == 2)=false := beq_eq_false_iff_ne.2 h
    have t2:decide (kd=2)=false := decide_eq_false h
    rw [t2] at hN
    clear h
    replace hN := Lib.hid hN
    go_wp2_with fail
    exact hN.out _ (by exact fR rfl rfl rfl)
def c_fl_r2 := sp 99 37 cF51
theorem fl_r2_wp {z:Int} {Am Bm:Option Addr} {nm1 cm nm2 dm:Nat} (ha:w.heap[wo.heap.size]? = some (.cells #[.int .i64 kd,.string nm,.slice A n1 c1,.slice B n2 c2] 29 (0,0))) (hgm:w.heap[gm]? = some (.cells #[.int .i64 z,.slice Am nm1 cm,.slice Bm nm2 dm] 25 (0,0))) (hc:Calls Tryd.prog 43 #[.agg #[.int .i64 z,.slice Am nm1 cm,.slice Bm nm2 dm],.string nm,.int .i64 (n1:Nat)] w fun e w'=>(∃p y D9 a9 b9,e=.returned (.tuple #[.agg #[.string p,.int .i64 y,.slice D9 a9 b9],.bool bb]))∧Below w.heap.size w w') (hN:∀a' w',Frm 36 [(1,.pointer (some ⟨gm,0,none⟩)),(2,s_2),(3,.pointer (some ⟨wo.heap.size,0,none⟩)),(6,.bool bb)] a'→Below w.heap.size w w'→Q .normal a' w'):∀ac,Frm 36 [(1,.pointer (some ⟨gm,0,none⟩)),(2,s_2),(3,.pointer (some ⟨wo.heap.size,0,none⟩))] ac→Code.wp Tryd.prog c_fl_r2 Q ac w := by
  refine fO (frame_fl ?_)
  intros
  rename_i hq
  iterate 3 (obtain ⟨e,hq⟩ := hq; obtain rfl := sI e; clear e)
  clear hq
  conv=>arg 2; whnf
  have a0 := cellv ha 0 rfl
  have a1 := cellv ha 1 rfl
  have a2 := cellv ha 2 rfl
  have a3 := cellv ha 3 rfl
  have al := lt_heap ha
  clear ha
  have m0 := cellv hgm 0 rfl
  have m1 := cellv hgm 1 rfl
  have m2 := cellv hgm 2 rfl
  have ml := lt_heap hgm
  clear hgm
  have HN := Lib.hid hN
  have HC := Lib.hid hc
  clear hN hc
  go_wp2_with fail
  (with_reducible refine HC.out.mono ?_)
  rintro e w1 ⟨⟨pr,yr,D9,a9,b9,rfl⟩,hb1⟩
  replace hb1 := Lib.hid hb1
  go_wp2_with fail
  exact HN.out _ _ (by exact fR rfl rfl rfl) (hb1.out.alloc hb1.out.size _)
def c_fl_r3 := sp 99 85 cF51
theorem fl_r3_wp (hN:∀a',Frm 36 [(1,s_1),(2,s_2),(3,s_3),(23,.bool (!bb))] a'→Q .normal a' w):∀ac,Frm 36 [(1,s_1),(2,s_2),(3,s_3),(6,.bool bb)] ac→Code.wp Tryd.prog c_fl_r3 Q ac w := by
  refine fO (frame_fl ?_)
  intros
  rename_i hq
  iterate 4 (obtain ⟨e,hq⟩ := hq; obtain rfl := sI e; clear e)
  clear hq
  conv=>arg 2; whnf
  replace hN := Lib.hid hN
  go_wp2_with fail
  exact hN.out _ (by exact fR rfl rfl rfl)
def c_fl_r4 := sp 99 309 cF51
theorem fl_r4_wp (hN:∀a',Frm 36 [(4,.bool false)] a'→Q .normal a' w):∀ac,Frm 36 [(1,s_1),(2,s_2),(3,s_3)] ac→Code.wp Tryd.prog c_fl_r4 Q ac w := by
  refine fO (frame_fl ?_)
  intros
  rename_i hq
  iterate 3 (obtain ⟨e,hq⟩ := hq; obtain rfl := sI e; clear e)
  clear hq
  conv=>arg 2; whnf
  replace hN := Lib.hid hN
  go_wp2_with fail
  exact hN.out _ (id ⟨rfl,rfl,rfl,trivial⟩)
def c_fl_r5 := sp 99 19 cF51
theorem fl_r5_wp (ha:w.heap[wo.heap.size]? = some (.cells #[.int .i64 kd,.string nm,.slice A n1 c1,.slice B n2 c2] 29 (0,0))) (hN:∀a',Frm 36 [(1,s_1),(2,s_2),(3,.pointer (some ⟨wo.heap.size,0,none⟩)),(25,.slice B n2 c2),(26,.int .i64 (n2:Nat)),(27,.int .i64 (0:Nat))] a'→Q .normal a' w):∀ac,Frm 36 [(1,s_1),(2,s_2),(3,.pointer (some ⟨wo.heap.size,0,none⟩))] ac→Code.wp Tryd.prog c_fl_r5 Q ac w := by
  refine fO (frame_fl ?_)
  intros
  rename_i hq
  iterate 3 (obtain ⟨e,hq⟩ := hq; obtain rfl := sI e; clear e)
  clear hq
  conv=>arg 2; whnf
  have a0 := cellv ha 0 rfl
  have a1 := cellv ha 1 rfl
  have a2 := cellv ha 2 rfl
  have a3 := cellv ha 3 rfl
  have al := lt_heap ha
  clear ha
  replace hN := Lib.hid hN
  go_wp2_with fail
  exact hN.out _ (by exact fR rfl rfl rfl)
def c_fl_r6 := sp 99 139 cF51
theorem fl_r6_wp (hN:∀a',Frm 36 [(1,s_1),(2,s_2),(3,s_3),(25,s_25),(26,.int .i64 (n2:Nat)),(27,.int .i64 (i:Nat)),(28,.bool (decide (i<n2)))] a'→Q .normal a' w):∀ac,Frm 36 [(1,s_1),(2,s_2),(3,s_3),(25,s_25),(26,.int .i64 (n2:Nat)),(27,.int .i64 (i:Nat))] ac→Code.wp Tryd.prog c_fl_r6 Q ac w := by
  refine fO (frame_fl ?_)
  intros
  rename_i hq
  iterate 6 (obtain ⟨e,hq⟩ := hq; obtain rfl := sI e; clear e)
  clear hq
  conv=>arg 2; whnf
  by_cases h:i<n2
  · have t1:decide ((i:Int)<(n2:Int))=true := by first | exact decide_eq_true (by omega) | exact beq_iff_eq.2 (by omega) | exact bne_iff_ne.2 (by omega)
    have t2:(decide (i<n2))=true := decide_eq_true h
    rw [t2] at hN
    clear h
    replace hN := Lib.hid hN
    go_wp2_with fail
    exact hN.out _ (by exact fR rfl rfl rfl)
  · have t1:decide ((i:Int)<(n2:Int))=false := by first | exact decide_eq_false (by omega) | exact beq_eq_false_iff_ne.2 (by omega) | exact bne_eq_false_iff_eq.2 (by omega)
    have t2:(decide (i<n2))=false := decide_eq_false h
    rw [t2] at hN
    clear h
    replace hN := Lib.hid hN
    go_wp2_with fail
    exact hN.out _ (by exact fR rfl rfl rfl)
def c_fl_r7 := sp 99 2251 cF51
theorem fl_r7_wp {b o:Nat} (hi:i<n2) (e0:w.cell? ⟨b,o+i * 4,none⟩=some (.int .i64 ke)) (e1:w.cell? ⟨b,o+i * 4+1,none⟩=some (.string ne)) (e2:w.cell? ⟨b,o+i * 4+2,none⟩=some (.slice Ae n3 c3)) (e3:w.cell? ⟨b,o+i * 4+3,none⟩=some (.slice Be n4 c4)) (hbl:b<w.heap.size) (hN:∀a' w',Frm 36 [(1,s_1),(2,s_2),(3,s_3),(25,.slice (some ⟨b,o,none⟩) n2 c2),(26,s_26),(27,.int .i64 (i:Nat)),(8,.pointer (some ⟨w.heap.size,0,none⟩))] a'→w'.heap[w.heap.size]? = some (.cells #[.int .i64 ke,.string ne,.slice Ae n3 c3,.slice Be n4 c4] 29 (0,0))→Below w.heap.size w w'→Q .normal a' w'):∀ac,Frm 36 [(1,s_1),(2,s_2),(3,s_3),(25,.slice (some ⟨b,o,none⟩) n2 c2),(26,s_26),(27,.int .i64 (i:Nat))] ac→Code.wp Tryd.prog c_fl_r7 Q ac w := by
  refine fO (frame_fl ?_)
  intros
  rename_i hq
  iterate 6 (obtain ⟨e,hq⟩ := hq; obtain rfl := sI e; clear e)
  clear hq
  conv=>arg 2; whnf
  have q0:(0:Int)≤(i:Int) := by omega
  have q1:(i:Int)<(n2:Int) := by omega
  replace hN := Lib.hid hN
  go_wp2_with fail
  exact hN.out _ _ (by exact fR rfl rfl rfl) (heap_alloc_new _ _) ((Below.refl _ w).alloc (Nat.le_refl _) _)
def c_fl_r8 := sp 99 5323 cF51
theorem fl_r8_wp {s_27:Value} {E:Nat} {gw:Nat} (hgw:w.heap[gw]? = some (.cells #[.func (Fn.func 51) #[] #[.pointer (some ⟨gm,0,none⟩),.pointer (some ⟨gw,0,none⟩)]] 70 (0,0))) (he:w.heap[E]? = some (.cells #[.int .i64 ke,.string ne,.slice Ae n3 c3,.slice Be n4 c4] 29 (0,0))) (hc:Calls Tryd.prog 51 #[.agg #[.int .i64 ke,.string ne,.slice Ae n3 c3,.slice Be n4 c4],.pointer (some ⟨gm,0,none⟩),.pointer (some ⟨gw,0,none⟩)] w fun e w'=>e=.returned (.bool bb)∧Below w.heap.size w w') (hN:∀a' w',Frm 36 [(1,s_1),(2,.pointer (some ⟨gw,0,none⟩)),(3,s_3),(25,s_25),(26,s_26),(27,s_27),(34,.bool (!bb))] a'→Below w.heap.size w w'→Q .normal a' w'):∀ac,Frm 36 [(1,s_1),(2,.pointer (some ⟨gw,0,none⟩)),(3,s_3),(25,s_25),(26,s_26),(27,s_27),(8,.pointer (some ⟨E,0,none⟩))] ac→Code.wp Tryd.prog c_fl_r8 Q ac w := by
  refine fO (frame_fl ?_)
  intros
  rename_i hq
  iterate 7 (obtain ⟨e,hq⟩ := hq; obtain rfl := sI e; clear e)
  clear hq
  conv=>arg 2; whnf
  have f0 := cellv hgw 0 rfl
  have fl := lt_heap hgw
  have a0 := cellv he 0 rfl
  have a1 := cellv he 1 rfl
  have a2 := cellv he 2 rfl
  have a3 := cellv he 3 rfl
  have al := lt_heap he
  clear he hgw
  have HN := Lib.hid hN
  have HC := Lib.hid hc
  clear hN hc
  go_wp2_with fail
  (with_reducible refine HC.out.mono ?_)
  rintro e w1 ⟨rfl,hb1⟩
  replace hb1 := Lib.hid hb1
  go_wp2_with fail
  exact HN.out _ _ (by exact fR rfl rfl rfl) hb1.out
def c_fl_r9 := sp 99 19659 cF51
theorem fl_r9_wp (hN:∀a',Frm 36 [(4,.bool false)] a'→Q .normal a' w):∀ac,Frm 36 [(1,s_1),(2,s_2),(3,s_3)] ac→Code.wp Tryd.prog c_fl_r9 Q ac w := by
  refine fO (frame_fl ?_)
  intros
  rename_i hq
  iterate 3 (obtain ⟨e,hq⟩ := hq; obtain rfl := sI e; clear e)
  clear hq
  conv=>arg 2; whnf
  replace hN := Lib.hid hN
  go_wp2_with fail
  exact hN.out _ (id ⟨rfl,rfl,rfl,trivial⟩)
def c_fl_r10 := sp 99 971 cF51
theorem fl_r10_wp (hi:i<n2) (hlim:n2≤maxLen) (hN:∀a',Frm 36 [(1,s_1),(2,s_2),(3,s_3),(25,s_25),(26,s_26),(27,.int .i64 (i+1:Nat))] a'→Q .normal a' w):∀ac,Frm 36 [(1,s_1),(2,s_2),(3,s_3),(25,s_25),(26,s_26),(27,.int .i64 (i:Nat))] ac→Code.wp Tryd.prog c_fl_r10 Q ac w := by
  refine fO (frame_fl ?_)
  intros
  rename_i hq
  iterate 6 (obtain ⟨e,hq⟩ := hq; obtain rfl := sI e; clear e)
  clear hq
  conv=>arg 2; whnf
  have hi4:(i:Int)≤9223372036854775806 := by unfold maxLen at hlim; omega
  replace hN := Lib.hid hN
  go_wp2_with fail
  exact hN.out _ (by exact fR rfl rfl rfl)
def c_fl_r11 := sp 99 23 cF51
theorem fl_r11_wp (hN:∀a',Frm 36 [(4,.bool true)] a'→Q .normal a' w):∀ac,Frm 36 [(1,s_1),(2,s_2),(3,s_3)] ac→Code.wp Tryd.prog c_fl_r11 Q ac w := by
  refine fO (frame_fl ?_)
  intros
  rename_i hq
  iterate 3 (obtain ⟨e,hq⟩ := hq; obtain rfl := sI e; clear e)
  clear hq
  conv=>arg 2; whnf
  replace hN := Lib.hid hN
  go_wp2_with fail
  exact hN.out _ (id ⟨rfl,rfl,rfl,trivial⟩)
theorem fl_ret_wp {R:Ending→World→Prop} {w':World} (hR:R (.returned (.bool bb)) w'):∀ac,Frm 36 [(4,.bool bb)] ac→bodyPost Tryd.prog Tryd.f51 R .ret ac w' := by
  refine fO (frame_fl ?_)
  intros
  rename_i hq
  iterate 1 (obtain ⟨e,hq⟩ := hq; obtain rfl := sI e; clear e)
  clear hq
  refine bodyPost_ret (v := .bool bb) (by simp [results,Tryd.results51,go_sem]) rfl ?_
  exact hR
mutual
def hasT (m:Md):Tree FmL→Bool
  | .mk a l=>(if a.kind=2 then (relV m a.nm a.ws.length).isSome else true) && hasTs m l
def hasTs (m:Md):List (Tree FmL)→Bool
  | []=>true
  | t :: l=>hasT m t && hasTs m l
end
theorem hasTs_app (m:Md):∀a b:List (Tree FmL),hasTs m (a++b)=(hasTs m a && hasTs m b)
  | [],b=>by simp [hasTs]
  | x :: a,b=>by simp [hasTs,hasTs_app m a b,Bool.and_assoc]
theorem hasTs_take (m:Md) (l:List (Tree FmL)) (j:Nat) (h:j<l.length):hasTs m (l.take (j+1))=(hasTs m (l.take j) && hasT m l[j]) := by
  rw [List.take_succ_eq_append_getElem h,hasTs_app]; simp [hasTs]
theorem hasTs_false (m:Md) (l:List (Tree FmL)) (j:Nat) (h:hasTs m (l.take j)=false):hasTs m l=false := by
  rw [← List.take_append_drop j l,hasTs_app,h]; rfl
theorem hasT_fm (m:Md):∀v:Fv,v.ok→hasT m v.fm=hasRels m v
  | .tru,_=>by simp [Fv.fm,hasT,hasTs,hasRels]
  | .pred n ws,_=>by simp [Fv.fm,hasT,hasTs,hasRels]
  | .same a b,_=>by simp [Fv.fm,hasT,hasTs,hasRels]
  | .neg f,h=>by have := hasT_fm m f h; simp [Fv.fm,hasT,hasTs,hasRels,this]
  | .bin k f g,h=>by
    have h1 := hasT_fm m f h.2.1
    have h2 := hasT_fm m g h.2.2
    have hk := h.1
    have:¬ (k:Int)=2 := by omega
    simp [Fv.fm,hasT,hasTs,hasRels,this,h1,h2]
  | .qu k x f,h=>by
    have h1 := hasT_fm m f h.2.2
    have hk := h.1
    have:¬ (k:Int)=2 := by omega
    simp [Fv.fm,hasT,hasTs,hasRels,this,h1]
theorem fault1_any (m:Md) (hg:m.good) {gm gw:Nat} {Am Bm:Option Addr} {cm dm:Nat}:∀(N:Nat) (t:Fm) (cs:List Value) (w:World) (S:Nat→Prop),t.nodes≤N→fmRep.R w S t cs→(∀b,S b→b<w.heap.size)→m.In w S [.int .i64 m.sz,.slice Am m.cs.length cm,.slice Bm m.rs.length dm]→w.heap[gm]? = some (.cells #[.int .i64 m.sz,.slice Am m.cs.length cm,.slice Bm m.rs.length dm] 25 (0,0))→w.heap[gw]? = some (.cells #[.func (Fn.func 51) #[] #[.pointer (some ⟨gm,0,none⟩),.pointer (some ⟨gw,0,none⟩)]] 70 (0,0))→Calls Tryd.prog 51 #[.agg cs.toArray,.pointer (some ⟨gm,0,none⟩),.pointer (some ⟨gw,0,none⟩)] w fun e w'=>e=.returned (.bool (hasT m t))∧Below w.heap.size w w' := by
  intro N
  induction N with
  | zero=>intro t; have := t.nodes_pos; intros; omega
  | succ N ih =>
  intro t cs w S hN ht hS hm hgm hgw
  obtain ⟨⟨kd,nm,us⟩,ks⟩ := t
  obtain ⟨u,v9,rfl,hnm,hw,hl⟩ := Fm.open_ ht
  simp only at hw hnm
  obtain ⟨A,n1,c1,rfl,e1,hm1,_⟩ := id hw
  obtain ⟨B,n2,c2,rfl,e2,hm2,_⟩ := id hl
  clear ht
  simp only [Tree.nodes] at hN
  have hgml := lt_heap hgm
  have hgwl := lt_heap hgw
  go_enter Tryd.func51,Tryd.ntmps51
  refine wp_seq ?_
  refine fl_r0_wp (fun a0 h0=>?_) _ (by exact fR rfl rfl rfl)
  refine gen_last (fun wx=>wx.heap[w.heap.size]? = some (.cells #[.int .i64 kd,.string nm,.slice A n1 c1,.slice B n2 c2] 29 (0,0))∧Below w.heap.size w wx) ⟨heap_alloc_new _ _,(Below.refl _ _).alloc (Nat.le_refl _) _⟩ ?_
  rintro wy ⟨hay,hby⟩
  have hbys := hby.size
  have hgm1 := (hby.block _ hgml).trans hgm
  have hgw1 := (hby.block _ hgwl).trans hgw
  refine wp_seq ?_
  refine wp_via (fun ax wx=>(if kd=2 then (relV m nm us.length).isSome else true)=true∧wx.heap[w.heap.size]? = some (.cells #[.int .i64 kd,.string nm,.slice A n1 c1,.slice B n2 c2] 29 (0,0))∧Below w.heap.size w wx∧Frm 36 [(1,.pointer (some ⟨gm,0,none⟩)),(2,.pointer (some ⟨gw,0,none⟩)),(3,.pointer (some ⟨w.heap.size,0,none⟩))] ax) ?_ (fun hK=>?_)
  · rintro ax wx ⟨hkq,ha,hb,hx⟩
    have hbs := hb.size
    have hold := fun k hk=>hb.block k (hS k hk)
    have hal := lt_heap ha
    have hgm' := (hb.block _ hgml).trans hgm
    have hgw' := (hb.block _ hgwl).trans hgw
    have hhas:hasT m (.mk ⟨kd,nm,us⟩ ks)=hasTs m ks := by
      show ((if kd=2 then (relV m nm us.length).isSome else true) && hasTs m ks)=_
      rw [hkq,Bool.true_and]
    rw [hhas]
    show Code.wp _ _ _ ax wx
    refine wp_seq ?_
    refine wp_seq ?_
    refine fl_r5_wp ha (fun a2 h2=>?_) ax hx
    refine wp_block ?_
    refine wp_loopR (fun g a' w'=>∃j:Nat,j+g=ks.length∧hasTs m (ks.take j)=true∧Below wx.heap.size wx w'∧Frm 36 [(1,.pointer (some ⟨gm,0,none⟩)),(2,.pointer (some ⟨gw,0,none⟩)),(3,.pointer (some ⟨w.heap.size,0,none⟩)),(25,.slice B n2 c2),(26,.int .i64 (n2:Nat)),(27,.int .i64 (j:Nat))] a') ks.length ⟨0,by omega,by simp [hasTs],Below.refl _ _,h2⟩ ?_
    rintro g a3 w3 ⟨j,hjg,hno,hb3,h3⟩
    have hb3s := hb3.size
    refine wp_seq ?_
    refine fl_r6_wp (fun a4 h4=>?_) a3 h3
    refine wp_seq ?_
    by_cases hj:j<n2
    case neg =>
      refine wp_cond_false ((h4.eval (k := 28) (v := .bool (decide (j<n2))) (by simp)).trans (by rw [decide_eq_false hj])) ?_
      refine wp_exit ?_
      repeat refine then_exit ?_
      refine inBlock_exit ?_
      show Code.wp _ _ _ a4 w3
      refine wp_seq ?_
      refine fl_r11_wp (fun a5 h5=>?_) a4 (h4.pick [0,1,2])
      refine wp_ret ?_
      refine fl_ret_wp (bb := true) ⟨?_,hb.trans (hb3.mono hbs)⟩ a5 h5
      rw [List.take_of_length_le (by omega)] at hno
      rw [hno]
    refine wp_cond_true ((h4.eval (k := 28) (v := .bool (decide (j<n2))) (by simp)).trans (by rw [decide_eq_true hj])) ?_
    refine wp_skip ?_
    show Code.wp _ _ _ a4 w3
    have hjl:j<ks.length := by omega
    obtain ⟨b,o,cs,rfl,hSb,hr,hc⟩ := Rep.Sl.at_ hl (List.getElem?_eq_getElem hjl)
    obtain ⟨Ae,n3,c3,Be,n4,c4,rfl,_,_,_,_⟩ := Fm.shape hr
    have hold3:∀k,S k→w3.heap[k]? = w.heap[k]? := fun k hk=>(hb3.block k (by have := hS k hk; omega)).trans (hold k hk)
    have hkb := hold3 b hSb
    have e0:w3.cell? ⟨b,o+j * 4,none⟩=_ := (cell_keep hkb _).trans (hc 0 _ rfl)
    have e1:w3.cell? ⟨b,o+j * 4+1,none⟩=_ := (cell_keep hkb _).trans (hc 1 _ rfl)
    have e2:w3.cell? ⟨b,o+j * 4+2,none⟩=_ := (cell_keep hkb _).trans (hc 2 _ rfl)
    have e3:w3.cell? ⟨b,o+j * 4+3,none⟩=_ := (cell_keep hkb _).trans (hc 3 _ rfl)
    have hnj := Tree.nodes_at ks j hjl
    have htk := hasTs_take m ks j hjl
    rw [hno,Bool.true_and] at htk
    refine wp_seq ?_
    refine wp_block ?_
    refine wp_seq ?_
    refine fl_r7_wp hj e0 e1 e2 e3 (by have := hS b hSb; omega) (fun a5 w5 h5 he5 hb5=>?_) a4 (h4.pick [0,1,2,3,4,5])
    have hb35 := hb3.trans (hb5.mono hb3s)
    have hb5s := hb5.size
    have hold5:∀k,S k→w5.heap[k]? = w.heap[k]? := fun k hk=>(hb35.block k (by have := hS k hk; omega)).trans (hold k hk)
    have hih := ih ks[j] _ w5 S (by omega) (fmRep.keep hr hold5 (fun _ h=>h)) (fun b hb=>by have := hS b hb; omega) (hm.keep hold5 (fun _ h=>h)) ((hb35.block _ (by omega)).trans hgm') ((hb35.block _ (by omega)).trans hgw')
    refine wp_seq ?_
    refine fl_r8_wp ((hb35.block _ (by omega)).trans hgw') he5 hih (fun a6 w6 h6 hb6=>?_) a5 h5
    have hb36 := hb35.trans (hb6.mono (by omega))
    cases hx2:hasT m ks[j]
    · rw [hx2] at h6 htk
      refine wp_cond_true ((h6.eval (k := 34) (v := .bool (!false)) (by simp)).trans (by rw [show (!false)=true from rfl])) ?_
      refine wp_seq ?_
      refine fl_r9_wp (fun a7 h7=>?_) a6 (h6.pick [0,1,2])
      refine wp_ret ?_
      repeat (first | refine thenR ?_ | refine inBlockR ?_)
      refine fl_ret_wp (bb := false) ⟨?_,hb.trans (hb36.mono hbs)⟩ a7 h7
      rw [hasTs_false m ks _ htk]
    · rw [hx2] at h6 htk
      refine wp_cond_false ((h6.eval (k := 34) (v := .bool (!true)) (by simp)).trans (by rw [show (!true)=false from rfl])) ?_
      refine wp_skip ?_
      show Code.wp _ _ _ a6 w6
      refine fl_r10_wp hj (by omega) (fun a7 h7=>?_) a6 (h6.pick [0,1,2,3,4,5])
      exact ⟨g - 1,by omega,j+1,by omega,htk,hb36,h7⟩
  · refine wp_seq ?_
    refine fl_r1_wp hay (fun a1 h1=>?_) a0 h0
    by_cases hk2:kd=2
    · refine wp_cond_true ((h1.eval (k := 11) (v := .bool (decide (kd=2))) (by simp)).trans (by rw [decide_eq_true hk2])) ?_
      refine wp_seq ?_
      refine fl_r2_wp hay hgm1 ((find_any m nm hnm n1 _ wy S (hm.keep (fun k hk=>hby.block k (hS k hk)) (fun _ h=>h)) (fun k hk=>by have := hS k hk; omega) hg).mono (fun e w' h=>⟨by obtain ⟨⟨p,y,D9,a9,b9,he,_⟩,_⟩ := h; exact ⟨p,y,D9,a9,b9,he⟩,h.2⟩)) (fun a2 w2 h2 hb2=>?_) a1 (h1.pick [0,1,2])
      refine wp_seq ?_
      refine fl_r3_wp (fun a3 h3=>?_) a2 h2
      have hnl:n1=us.length := by omega
      cases hf:(relV m nm n1).isSome
      · rw [hf] at h3
        refine wp_cond_true ((h3.eval (k := 23) (v := .bool (!false)) (by simp)).trans (by rw [show (!false)=true from rfl])) ?_
        refine wp_seq ?_
        refine fl_r4_wp (fun a7 h7=>?_) a3 (h3.pick [0,1,2])
        refine wp_ret ?_
        repeat (first | refine thenR ?_ | refine inBlockR ?_)
        refine fl_ret_wp (bb := false) ⟨?_,hby.trans (hb2.mono hbys)⟩ a7 h7
        rw [hnl] at hf
        simp [hasT,hk2,hf]
      · rw [hf] at h3
        refine wp_cond_false ((h3.eval (k := 23) (v := .bool (!true)) (by simp)).trans (by rw [show (!true)=false from rfl])) ?_
        refine wp_skip ?_
        rw [hnl] at hf
        exact hK _ _ ⟨by rw [if_pos hk2,hf],(hb2.block _ (lt_heap hay)).trans hay,hby.trans (hb2.mono hbys),(h3.pick [0,1,2])⟩
    · refine wp_cond_false ((h1.eval (k := 11) (v := .bool (decide (kd=2))) (by simp)).trans (by rw [decide_eq_false hk2])) ?_
      refine wp_skip ?_
      exact hK _ _ ⟨by rw [if_neg hk2],hay,hby,(h1.pick [0,1,2])⟩
end
noncomputable section
set_option maxRecDepth 1000000
set_option maxHeartbeats 16000000
variable {Q:Exit→Act→World→Prop} {z kd:Int} {Am Bm A B Dt:Option Addr} {nm1 cm nm2 dm n1 c1 n2 c2 i b o mt et:Nat} {wo w:World} {nm s:ByteArray} {s_4 s_3 s_5 s_7 v s_24 s_25:Value} {bb:Bool}

theorem frame_vl {P:Act→Prop} (h:∀x0 x1 x2 x3 x4 x5 x6 x7 x8 x9 x10 x11 x12 x13 x14 x15 x16 x17 x18 x19 x20 x21 x22 x23 x24 x25 x26 x27 x28 x29 x30 x31 x32 x33 x34 x35 x36 x37 x38 x39 x40 x41 x42 x43 x44 x45 x46 x47 x48 x49 x50 x51 x52 x53 x54 x55 x56 x57 x58 x59 x60 x61 x62 x63 x64 x65 x66 x67 x68 x69 x70 x71 x72 x73 x74 x75 x76 x77 x78 x79 x80 x81 x82 x83 x84 x85 x86 x87 x88 x89 x90 x91 x92 x93 x94 x95 x96 x97 x98 x99 x100 x101 x102 x103 x104 x105 x106 x107 x108 x109 x110 x111 x112 x113 x114 x115 x116 x117 x118 x119 x120 x121 x122 x123 x124 x125 x126 x127 x128 x129 x130 x131 x132 x133 x134 x135 x136 x137 x138 x139 x140 x141 x142 x143 x144 x145 x146 x147 x148 x149 x150 x151 x152 x153 x154 x155 x156 x157 x158 x159 x160 x161 x162 x163 x164 x165 x166 x167:Value,P ⟨(x0 :: x1 :: x2 :: x3 :: x4 :: x5 :: x6 :: x7 :: x8 :: x9 :: x10 :: x11 :: x12 :: x13 :: x14 :: x15 :: x16 :: x17 :: x18 :: x19 :: x20 :: x21 :: x22 :: x23 :: x24 :: x25 :: x26 :: x27 :: x28 :: x29 :: x30 :: x31 :: x32 :: x33 :: x34 :: x35 :: x36 :: x37 :: x38 :: x39 :: x40 :: x41 :: x42 :: x43 :: x44 :: x45 :: x46 :: x47 :: x48 :: x49 :: x50 :: x51 :: x52 :: x53 :: x54 :: x55 :: x56 :: x57 :: x58 :: x59 :: x60 :: x61 :: x62 :: x63 :: x64 :: x65 :: x66 :: x67 :: x68 :: x69 :: x70 :: x71 :: x72 :: x73 :: x74 :: x75 :: x76 :: x77 :: x78 :: x79 :: x80 :: x81 :: x82 :: x83 :: x84 :: x85 :: x86 :: x87 :: x88 :: x89 :: x90 :: x91 :: x92 :: x93 :: x94 :: x95 :: x96 :: x97 :: x98 :: x99 :: x100 :: x101 :: x102 :: x103 :: x104 :: x105 :: x106 :: x107 :: x108 :: x109 :: x110 :: x111 :: x112 :: x113 :: x114 :: x115 :: x116 :: x117 :: x118 :: x119 :: x120 :: x121 :: x122 :: x123 :: x124 :: x125 :: x126 :: x127 :: x128 :: x129 :: x130 :: x131 :: x132 :: x133 :: x134 :: x135 :: x136 :: x137 :: x138 :: x139 :: x140 :: x141 :: x142 :: x143 :: x144 :: x145 :: x146 :: x147 :: x148 :: x149 :: x150 :: x151 :: x152 :: x153 :: x154 :: x155 :: x156 :: x157 :: x158 :: x159 :: x160 :: x161 :: x162 :: x163 :: x164 :: x165 :: x166 :: x167 :: []).toArray,[]⟩):∀a:Act,a.tmps.toList.length=168→a.defers=[]→P a := by
  rintro ⟨⟨l⟩,d⟩ hs hd
  simp only at hd
  subst hd
  revert l
  show ∀l:List Value,l.length=168→P ⟨⟨l⟩,[]⟩
  iterate 168 refine openS (fun _=>?_)
  refine open0 ?_
  exact h ..
noncomputable def cF23:Code := Tryd.f23.body.getD .skip
def c_vl_r0 := sp 99 2 cF23
theorem vl_r0_wp {De:Option Addr} {me ee:Nat} (hN:∀a',Frm 168 [(3,.pointer (some ⟨wo.heap.size,0,none⟩)),(4,.pointer (some ⟨(wo.heap.size+1),0,none⟩)),(5,.pointer (some ⟨(wo.heap.size+1+1),0,none⟩))] a'→Q .normal a' (((wo.alloc (.cells #[.int .i64 z,.slice Am nm1 cm,.slice Bm nm2 dm] 25)).alloc (.cells #[.int .i64 kd,.string nm,.slice A n1 c1,.slice B n2 c2] 29)).alloc (.cells #[.slice De me ee] 62))):∀ac,Frm 168 [(0,.agg #[.int .i64 z,.slice Am nm1 cm,.slice Bm nm2 dm]),(1,.agg #[.int .i64 kd,.string nm,.slice A n1 c1,.slice B n2 c2]),(2,.slice De me ee)] ac→Code.wp Tryd.prog c_vl_r0 Q ac wo := by
  refine fO (frame_vl ?_)
  intros
  rename_i hq
  iterate 3 (obtain ⟨e,hq⟩ := hq; obtain rfl := sI e; clear e)
  clear hq
  conv=>arg 2; whnf
  replace hN := Lib.hid hN
  go_wp2_with fail
  exact hN.out _ (by exact fR rfl rfl rfl)
def c_vl_r1 := sp 99 5 cF23
theorem vl_r1_wp (hN:∀a',Frm 168 [(3,.pointer (some ⟨wo.heap.size,0,none⟩)),(4,s_4),(5,.pointer (some ⟨(wo.heap.size+1+1),0,none⟩)),(7,.func (Fn.func 41) #[] #[.pointer (some ⟨(wo.heap.size+1+1),0,none⟩),.pointer (some ⟨wo.heap.size,0,none⟩)])] a'→Q .normal a' w):∀ac,Frm 168 [(3,.pointer (some ⟨wo.heap.size,0,none⟩)),(4,s_4),(5,.pointer (some ⟨(wo.heap.size+1+1),0,none⟩))] ac→Code.wp Tryd.prog c_vl_r1 Q ac w := by
  refine fO (frame_vl ?_)
  intros
  rename_i hq
  iterate 3 (obtain ⟨e,hq⟩ := hq; obtain rfl := sI e; clear e)
  clear hq
  conv=>arg 2; whnf
  replace hN := Lib.hid hN
  go_wp2_with fail
  exact hN.out _ (by exact fR rfl rfl rfl)
def c_vl_r2 := sp 99 19 cF23
theorem vl_r2_wp (ha:w.heap[wo.heap.size+1]? = some (.cells #[.int .i64 kd,.string nm,.slice A n1 c1,.slice B n2 c2] 29 (0,0))) (hN:∀a',Frm 168 [(3,s_3),(4,.pointer (some ⟨(wo.heap.size+1),0,none⟩)),(5,s_5),(7,s_7),(18,.int .i64 kd)] a'→Q .normal a' w):∀ac,Frm 168 [(3,s_3),(4,.pointer (some ⟨(wo.heap.size+1),0,none⟩)),(5,s_5),(7,s_7)] ac→Code.wp Tryd.prog c_vl_r2 Q ac w := by
  refine fO (frame_vl ?_)
  intros
  rename_i hq
  iterate 4 (obtain ⟨e,hq⟩ := hq; obtain rfl := sI e; clear e)
  clear hq
  conv=>arg 2; whnf
  have a0 := cellv ha 0 rfl
  have a1 := cellv ha 1 rfl
  have a2 := cellv ha 2 rfl
  have a3 := cellv ha 3 rfl
  have al := lt_heap ha
  clear ha
  replace hN := Lib.hid hN
  go_wp2_with fail
  exact hN.out _ (by exact fR rfl rfl rfl)
def c_vl_r3 := sp 99 75 cF23
theorem vl_r3_wp (hN:∀a',Frm 168 [(3,s_3),(4,s_4),(5,s_5),(7,s_7),(18,.int .i64 kd),(19,.bool (decide (kd=1)))] a'→Q .normal a' w):∀ac,Frm 168 [(3,s_3),(4,s_4),(5,s_5),(7,s_7),(18,.int .i64 kd)] ac→Code.wp Tryd.prog c_vl_r3 Q ac w := by
  refine fO (frame_vl ?_)
  intros
  rename_i hq
  iterate 5 (obtain ⟨e,hq⟩ := hq; obtain rfl := sI e; clear e)
  clear hq
  conv=>arg 2; whnf
  by_cases h:kd=1
  · have t1:(kd == 1)=true := beq_iff_eq.2 h
    rw [decide_eq_true h] at hN
    clear h
    replace hN := Lib.hid hN
    go_wp2_with fail
    exact hN.out _ (by exact fR rfl rfl rfl)
  · have t1:(kd == 1)=false := beq_eq_false_iff_ne.2 h
    rw [decide_eq_false h] at hN
    clear h
    replace hN := Lib.hid hN
    go_wp2_with fail
    exact hN.out _ (by exact fR rfl rfl rfl)
def c_vl_r5 := sp 99 363 cF23
theorem vl_r5_wp (hN:∀a',Frm 168 [(3,s_3),(4,s_4),(5,s_5),(7,s_7),(18,.int .i64 kd),(21,.bool (decide (kd=2)))] a'→Q .normal a' w):∀ac,Frm 168 [(3,s_3),(4,s_4),(5,s_5),(7,s_7),(18,.int .i64 kd)] ac→Code.wp Tryd.prog c_vl_r5 Q ac w := by
  refine fO (frame_vl ?_)
  intros
  rename_i hq
  iterate 5 (obtain ⟨e,hq⟩ := hq; obtain rfl := sI e; clear e)
  clear hq
  conv=>arg 2; whnf
  by_cases h:kd=2
  · have t1:(kd == 2)=true := beq_iff_eq.2 h
    rw [decide_eq_true h] at hN
    clear h
    replace hN := Lib.hid hN
    go_wp2_with fail
    exact hN.out _ (by exact fR rfl rfl rfl)
  · have t1:(kd == 2)=false := beq_eq_false_iff_ne.2 h
    rw [decide_eq_false h] at hN
    clear h
    replace hN := Lib.hid hN
    go_wp2_with fail
    exact hN.out _ (by exact fR rfl rfl rfl)
def c_vl_r15 := sp 99 1515 cF23
theorem vl_r15_wp (hN:∀a',Frm 168 [(3,s_3),(4,s_4),(5,s_5),(7,s_7),(18,.int .i64 kd),(54,.bool (decide (kd=3)))] a'→Q .normal a' w):∀ac,Frm 168 [(3,s_3),(4,s_4),(5,s_5),(7,s_7),(18,.int .i64 kd)] ac→Code.wp Tryd.prog c_vl_r15 Q ac w := by
  refine fO (frame_vl ?_)
  intros
  rename_i hq
  iterate 5 (obtain ⟨e,hq⟩ := hq; obtain rfl := sI e; clear e)
  clear hq
  conv=>arg 2; whnf
  by_cases h:kd=3
  · have t1:(kd == 3)=true := beq_iff_eq.2 h
    rw [decide_eq_true h] at hN
    clear h
    replace hN := Lib.hid hN
    go_wp2_with fail
    exact hN.out _ (by exact fR rfl rfl rfl)
  · have t1:(kd == 3)=false := beq_eq_false_iff_ne.2 h
    rw [decide_eq_false h] at hN
    clear h
    replace hN := Lib.hid hN
    go_wp2_with fail
    exact hN.out _ (by exact fR rfl rfl rfl)
def c_vl_r4 := sp 99 299 cF23
theorem vl_r4_wp (hN:∀a',Frm 168 [(6,.bool true)] a'→Q .normal a' w):∀ac,Frm 168 [(3,s_3),(4,s_4),(5,s_5),(7,s_7)] ac→Code.wp Tryd.prog c_vl_r4 Q ac w := by
  refine fO (frame_vl ?_)
  intros
  rename_i hq
  iterate 4 (obtain ⟨e,hq⟩ := hq; obtain rfl := sI e; clear e)
  clear hq
  conv=>arg 2; whnf
  replace hN := Lib.hid hN
  go_wp2_with fail
  exact hN.out _ (id ⟨rfl,rfl,rfl,trivial⟩)
def c_vl_r6 := sp 99 1259 cF23
theorem vl_r6_wp (hN:∀a',Frm 168 [(3,s_3),(4,s_4),(5,s_5),(7,s_7),(8,.slice none 0 0)] a'→Q .normal a' w):∀ac,Frm 168 [(3,s_3),(4,s_4),(5,s_5),(7,s_7)] ac→Code.wp Tryd.prog c_vl_r6 Q ac w := by
  refine fO (frame_vl ?_)
  intros
  rename_i hq
  iterate 4 (obtain ⟨e,hq⟩ := hq; obtain rfl := sI e; clear e)
  clear hq
  conv=>arg 2; whnf
  replace hN := Lib.hid hN
  go_wp2_with fail
  exact hN.out _ (by exact fR rfl rfl rfl)
def c_vl_r7 := sp 99 4843 cF23
theorem vl_r7_wp (ha:w.heap[wo.heap.size+1]? = some (.cells #[.int .i64 kd,.string nm,.slice A n1 c1,.slice B n2 c2] 29 (0,0))) (hN:∀a',Frm 168 [(3,s_3),(4,.pointer (some ⟨(wo.heap.size+1),0,none⟩)),(5,s_5),(7,s_7),(8,v),(24,.slice A n1 c1),(25,.int .i64 (n1:Nat)),(26,.int .i64 (0:Nat))] a'→Q .normal a' w):∀ac,Frm 168 [(3,s_3),(4,.pointer (some ⟨(wo.heap.size+1),0,none⟩)),(5,s_5),(7,s_7),(8,v)] ac→Code.wp Tryd.prog c_vl_r7 Q ac w := by
  refine fO (frame_vl ?_)
  intros
  rename_i hq
  iterate 5 (obtain ⟨e,hq⟩ := hq; obtain rfl := sI e; clear e)
  clear hq
  conv=>arg 2; whnf
  have a0 := cellv ha 0 rfl
  have a1 := cellv ha 1 rfl
  have a2 := cellv ha 2 rfl
  have a3 := cellv ha 3 rfl
  have al := lt_heap ha
  clear ha
  replace hN := Lib.hid hN
  go_wp2_with fail
  exact hN.out _ (by exact fR rfl rfl rfl)
def c_vl_r8 := sp 99 35563 cF23
theorem vl_r8_wp (hN:∀a',Frm 168 [(3,s_3),(4,s_4),(5,s_5),(7,s_7),(8,v),(24,s_24),(25,.int .i64 (n1:Nat)),(26,.int .i64 (i:Nat)),(27,.bool (decide (i<n1)))] a'→Q .normal a' w):∀ac,Frm 168 [(3,s_3),(4,s_4),(5,s_5),(7,s_7),(8,v),(24,s_24),(25,.int .i64 (n1:Nat)),(26,.int .i64 (i:Nat))] ac→Code.wp Tryd.prog c_vl_r8 Q ac w := by
  refine fO (frame_vl ?_)
  intros
  rename_i hq
  iterate 8 (obtain ⟨e,hq⟩ := hq; obtain rfl := sI e; clear e)
  clear hq
  conv=>arg 2; whnf
  by_cases h:i<n1
  · have t1:decide ((i:Int)<(n1:Int))=true := by first | exact decide_eq_true (by omega) | exact beq_iff_eq.2 (by omega) | exact bne_iff_ne.2 (by omega)
    have t2:(decide (i<n1))=true := decide_eq_true h
    rw [t2] at hN
    clear h
    replace hN := Lib.hid hN
    go_wp2_with fail
    exact hN.out _ (by exact fR rfl rfl rfl)
  · have t1:decide ((i:Int)<(n1:Int))=false := by first | exact decide_eq_false (by omega) | exact beq_eq_false_iff_ne.2 (by omega) | exact bne_eq_false_iff_eq.2 (by omega)
    have t2:(decide (i<n1))=false := decide_eq_false h
    rw [t2] at hN
    clear h
    replace hN := Lib.hid hN
    go_wp2_with fail
    exact hN.out _ (by exact fR rfl rfl rfl)
def c_vl_r9 := sp 99 576235 cF23
theorem vl_r9_wp (hi:i<n1) (hc:w.cell? ⟨b,o+i,none⟩=some (.string s)) (hbl:b<w.heap.size) (hN:∀a',Frm 168 [(3,s_3),(4,s_4),(5,s_5),(7,s_7),(8,v),(24,.slice (some ⟨b,o,none⟩) n1 c1),(25,s_25),(26,.int .i64 (i:Nat)),(10,.string s)] a'→Q .normal a' w):∀ac,Frm 168 [(3,s_3),(4,s_4),(5,s_5),(7,s_7),(8,v),(24,.slice (some ⟨b,o,none⟩) n1 c1),(25,s_25),(26,.int .i64 (i:Nat))] ac→Code.wp Tryd.prog c_vl_r9 Q ac w := by
  refine fO (frame_vl ?_)
  intros
  rename_i hq
  iterate 8 (obtain ⟨e,hq⟩ := hq; obtain rfl := sI e; clear e)
  clear hq
  conv=>arg 2; whnf
  have q0:(0:Int)≤(i:Int) := by omega
  have q1:(i:Int)<(n1:Int) := by omega
  replace hN := Lib.hid hN
  go_wp2_with fail
  exact hN.out _ (by exact fR rfl rfl rfl)
theorem infoInt:(Tryd.prog.info? 3).map (fun i=>(i.zero,i.size,i.bytes))=some (some (.int .i64 0),1,8) := by kernel_rfl
def c_vl_r10 := sp 99 838379 cF23
theorem vl_r10_wp {s_26:Value} {base n9 c9:Nat} {A9:Option Addr} {xs:List Value} (hl:n9≤1000000) (hc:Calls Tryd.prog 41 #[.string s,.pointer (some ⟨(wo.heap.size+1+1),0,none⟩),.pointer (some ⟨wo.heap.size,0,none⟩)] w fun e w'=>e=.returned (.int .i64 z)∧Below base w w'∧w'.ownsRow base 3 1 (.slice A9 n9 c9) n9 xs∧base≤w'.heap.size) (hN:∀v' a' w',Frm 168 [(3,s_3),(4,s_4),(5,s_5),(7,.func (Fn.func 41) #[] #[.pointer (some ⟨(wo.heap.size+1+1),0,none⟩),.pointer (some ⟨wo.heap.size,0,none⟩)]),(8,v'),(24,s_24),(25,s_25),(26,s_26)] a'→w'.ownsRow base 3 1 v' (n9+1) (xs++[.int .i64 z])→Below base w w'→Q .normal a' w'):∀ac,Frm 168 [(3,s_3),(4,s_4),(5,s_5),(7,.func (Fn.func 41) #[] #[.pointer (some ⟨(wo.heap.size+1+1),0,none⟩),.pointer (some ⟨wo.heap.size,0,none⟩)]),(8,(.slice A9 n9 c9)),(24,s_24),(25,s_25),(26,s_26),(10,.string s)] ac→Code.wp Tryd.prog c_vl_r10 Q ac w := by
  refine fO (frame_vl ?_)
  intros
  rename_i hq
  iterate 9 (obtain ⟨e,hq⟩ := hq; obtain rfl := sI e; clear e)
  clear hq
  conv=>arg 2; whnf
  obtain ⟨ti,hti,ht0,ht1,ht2⟩ := info_parts infoInt
  have HN := Lib.hid hN
  have HC := Lib.hid hc
  clear hN hc
  go_wp2_with fail
  (with_reducible refine HC.out.mono ?_)
  rintro e w1 ⟨rfl,hb1,hrow,hbw⟩
  have HB1 := Lib.hid hb1
  have HROW := Lib.hid hrow
  clear hb1 hrow
  go_wp2_with (at_builtin; refine wpList_append_lies (w1.alloc (.cells #[.int .i64 z] 3)) ?h1 (.tmp 30) (.tmp 34) 39 ?h2 base 3 ti (.int .i64 0) 1 8 ?h3 hti ht0 ht1 ht2 ?h4 ?h5 (.slice A9 n9 c9) n9 xs ?h6 ?h7 ⟨w1.heap.size,0,none⟩ 1 1 [.int .i64 z] ?h8 ?h9 ?h10 ?h11 ?h12 ?h13 ?h14 ?h15 (w1.heap.size+1) ?h16 ?_)
  try (case h1=>rfl)
  try (case h2=>rfl)
  try (case h3=>exact Tryd.underlying39)
  try (case h4=>rfl)
  try (case h5=>omega)
  try (case h6=>rfl)
  try (case h7=>exact HROW.out.alloc _)
  try (case h8=>rfl)
  try (case h9=>rfl)
  try (case h10=>exact World.news_of_block (cs := #[.int .i64 z]) (t := 3) (fr := (0,0)) (heap_alloc_new w1 _))
  try (case h11=>simp [Value.oneCell'])
  try (case h12=>omega)
  try (case h13=>first | (simp [maxLen]; omega) | (unfold maxLen; omega))
  try (case h14=>omega)
  try (case h15=>first | omega | (simp; omega))
  try (case h16=>first | rfl | simp)
  intro gg cap w6 hown3 hgrow hat hlt
  have hbg:Below base w1 w6 := ((Below.refl base w1).alloc hbw _).trans (below_of_grown9 hgrow (own_ge9 HROW.out) (by simp; omega))
  have HBG := Lib.hid hbg
  have HOWN := Lib.hid hown3
  clear hown3 hgrow hat hbg hlt
  go_wp2_with fail
  exact HN.out _ _ _ (by exact fR rfl rfl rfl) HOWN.out (HB1.out.trans HBG.out)
def c_vl_r11 := sp 99 248555 cF23
theorem vl_r11_wp (hi:i<n1) (hlim:n1≤maxLen) (hN:∀a',Frm 168 [(3,s_3),(4,s_4),(5,s_5),(7,s_7),(8,v),(24,s_24),(25,s_25),(26,.int .i64 (i+1:Nat))] a'→Q .normal a' w):∀ac,Frm 168 [(3,s_3),(4,s_4),(5,s_5),(7,s_7),(8,v),(24,s_24),(25,s_25),(26,.int .i64 (i:Nat))] ac→Code.wp Tryd.prog c_vl_r11 Q ac w := by
  refine fO (frame_vl ?_)
  intros
  rename_i hq
  iterate 8 (obtain ⟨e,hq⟩ := hq; obtain rfl := sI e; clear e)
  clear hq
  conv=>arg 2; whnf
  have hi4:(i:Int)≤9223372036854775806 := by unfold maxLen at hlim; omega
  replace hN := Lib.hid hN
  go_wp2_with fail
  exact hN.out _ (by exact fR rfl rfl rfl)
def c_vl_r12 := sp 99 5867 cF23
theorem vl_r12_wp {X:ByteArray→Int→Option Addr→Nat→Nat→Prop} (ha:w.heap[wo.heap.size+1]? = some (.cells #[.int .i64 kd,.string nm,.slice A n1 c1,.slice B n2 c2] 29 (0,0))) (hgm:w.heap[wo.heap.size]? = some (.cells #[.int .i64 z,.slice Am nm1 cm,.slice Bm nm2 dm] 25 (0,0))) (hc:Calls Tryd.prog 43 #[.agg #[.int .i64 z,.slice Am nm1 cm,.slice Bm nm2 dm],.string nm,.int .i64 (mt:Nat)] w fun e w'=>(∃p y D9 a9 b9,e=.returned (.tuple #[.agg #[.string p,.int .i64 y,.slice D9 a9 b9],.bool bb])∧X p y D9 a9 b9)∧Below w.heap.size w w') (hN:∀rn ra D9 a9 b9 gx a' w',Frm 168 [(3,.pointer (some ⟨wo.heap.size,0,none⟩)),(4,.pointer (some ⟨(wo.heap.size+1),0,none⟩)),(5,s_5),(7,s_7),(8,(.slice Dt mt et)),(11,.pointer (some ⟨gx,0,none⟩))] a'→w'.heap[gx]? = some (.cells #[.string rn,.int .i64 ra,.slice D9 a9 b9] 59 (0,0))→Below w.heap.size w w'→X rn ra D9 a9 b9→Q .normal a' w'):∀ac,Frm 168 [(3,.pointer (some ⟨wo.heap.size,0,none⟩)),(4,.pointer (some ⟨(wo.heap.size+1),0,none⟩)),(5,s_5),(7,s_7),(8,(.slice Dt mt et))] ac→Code.wp Tryd.prog c_vl_r12 Q ac w := by
  refine fO (frame_vl ?_)
  intros
  rename_i hq
  iterate 5 (obtain ⟨e,hq⟩ := hq; obtain rfl := sI e; clear e)
  clear hq
  conv=>arg 2; whnf
  have a0 := cellv ha 0 rfl
  have a1 := cellv ha 1 rfl
  have a2 := cellv ha 2 rfl
  have a3 := cellv ha 3 rfl
  have al := lt_heap ha
  clear ha
  have m0 := cellv hgm 0 rfl
  have m1 := cellv hgm 1 rfl
  have m2 := cellv hgm 2 rfl
  have ml := lt_heap hgm
  clear hgm
  have HN := Lib.hid hN
  have HC := Lib.hid hc
  clear hN hc
  go_wp2_with fail
  (with_reducible refine HC.out.mono ?_)
  rintro e w1 ⟨⟨pr,yr,D9,a9,b9,rfl,hx⟩,hb1⟩
  have HB1 := Lib.hid hb1
  have HX := Lib.hid hx
  clear hb1 hx
  go_wp2_with fail
  exact HN.out _ _ _ _ _ _ _ _ (by exact fR rfl rfl rfl) (heap_alloc_new _ _) (HB1.out.alloc HB1.out.size _) (HX.out)
def c_vl_r13 := sp 99 12011 cF23
theorem vl_r13_wp {k gx:Nat} {rn:ByteArray} {ra:Int} {D9:Option Addr} {a9 b9:Nat} (hx:w.heap[gx]? = some (.cells #[.string rn,.int .i64 ra,.slice D9 a9 b9] 59 (0,0))) (hc:Calls Tryd.prog 44 #[.slice D9 a9 b9,.slice Dt mt et,.func (Fn.func 35) #[] #[]] w fun e w'=>e=.returned (.tuple #[.int .i64 (k:Nat),.bool bb])∧Below w.heap.size w w') (hN:∀a' w',Frm 168 [(14,.bool bb)] a'→Below w.heap.size w w'→Q .normal a' w'):∀ac,Frm 168 [(3,s_3),(4,s_4),(5,s_5),(7,s_7),(8,(.slice Dt mt et)),(11,.pointer (some ⟨gx,0,none⟩))] ac→Code.wp Tryd.prog c_vl_r13 Q ac w := by
  refine fO (frame_vl ?_)
  intros
  rename_i hq
  iterate 6 (obtain ⟨e,hq⟩ := hq; obtain rfl := sI e; clear e)
  clear hq
  conv=>arg 2; whnf
  have x0 := cellv hx 0 rfl
  have x1 := cellv hx 1 rfl
  have x2 := cellv hx 2 rfl
  have xl := lt_heap hx
  clear hx
  have HN := Lib.hid hN
  have HC := Lib.hid hc
  clear hN hc
  go_wp2_with fail
  (with_reducible refine HC.out.mono ?_)
  rintro e w1 ⟨rfl,hb1⟩
  replace hb1 := Lib.hid hb1
  go_wp2_with fail
  exact HN.out _ _ (id ⟨rfl,rfl,rfl,trivial⟩) hb1.out
def c_vl_r14 := sp 99 24299 cF23
theorem vl_r14_wp (hN:∀a',Frm 168 [(6,.bool bb)] a'→Q .normal a' w):∀ac,Frm 168 [(14,.bool bb)] ac→Code.wp Tryd.prog c_vl_r14 Q ac w := by
  refine fO (frame_vl ?_)
  intros
  rename_i hq
  iterate 1 (obtain ⟨e,hq⟩ := hq; obtain rfl := sI e; clear e)
  clear hq
  conv=>arg 2; whnf
  replace hN := Lib.hid hN
  go_wp2_with fail
  exact hN.out _ (id ⟨rfl,rfl,rfl,trivial⟩)
def c_vl_r16 := sp 99 5099 cF23
theorem vl_r16_wp {K:Act→World→Prop} {z1 z2:Int} {s1 s2:ByteArray} (ha:w.heap[wo.heap.size+1]? = some (.cells #[.int .i64 kd,.string nm,.slice (some ⟨b,o,none⟩) 2 c1,.slice B n2 c2] 29 (0,0))) (e0:w.cell? ⟨b,o,none⟩=some (.string s1)) (e1:w.cell? ⟨b,o+1,none⟩=some (.string s2)) (hbl:b<w.heap.size) (hc1:∀W:World,Below w.heap.size w W→Calls Tryd.prog 41 #[.string s1,.pointer (some ⟨(wo.heap.size+1+1),0,none⟩),.pointer (some ⟨wo.heap.size,0,none⟩)] W fun e w'=>e=.returned (.int .i64 z1)∧Below w.heap.size w w') (hc2:∀W:World,Below w.heap.size w W→Calls Tryd.prog 41 #[.string s2,.pointer (some ⟨(wo.heap.size+1+1),0,none⟩),.pointer (some ⟨wo.heap.size,0,none⟩)] W fun e w'=>e=.returned (.int .i64 z2)∧Below w.heap.size w w') (hN:∀a' w',Frm 168 [(6,.bool (decide (z1=z2)))] a'→Below w.heap.size w w'→K a' w'):∀ac,Frm 168 [(3,s_3),(4,.pointer (some ⟨(wo.heap.size+1),0,none⟩)),(5,s_5),(7,.func (Fn.func 41) #[] #[.pointer (some ⟨(wo.heap.size+1+1),0,none⟩),.pointer (some ⟨wo.heap.size,0,none⟩)])] ac→Code.wp Tryd.prog c_vl_r16 (Exit.then K (fun _ _ _=>False)) ac w := by
  refine fO (frame_vl ?_)
  intros
  rename_i hq
  iterate 4 (obtain ⟨e,hq⟩ := hq; obtain rfl := sI e; clear e)
  clear hq
  conv=>arg 2; whnf
  have a0 := cellv ha 0 rfl
  have a1 := cellv ha 1 rfl
  have a2 := cellv ha 2 rfl
  have a3 := cellv ha 3 rfl
  have al := lt_heap ha
  clear ha
  by_cases hy:z1=z2
  · have t1:(z1 == z2)=true := beq_iff_eq.2 hy
    rw [decide_eq_true hy] at hN
    clear hy
    have HC1 := Lib.hid hc1
    have HC2 := Lib.hid hc2
    have HN := Lib.hid hN
    clear hc1 hc2 hN
    go_region_held3 (fun w'=>w'.cell? ⟨wo.heap.size+1,2,none⟩=some (.slice (some ⟨b,o,none⟩) 2 c1)∧w'.cell? ⟨b,o,none⟩=some (.string s1)∧w'.cell? ⟨b,o+1,none⟩=some (.string s2))
      ((first | (go_keep; done) | (go_split_ands; (repeat' apply And.intro) <;> (refine (kc5 _ _ (by omega)).trans ?_; assumption))))
      (first
        | ((with_reducible refine (HC1.out _ ?hbel).mono ?_); (case hbel=>first | exact Below.refl _ _ | exact (Below.refl _ _).drew | exact HB1.out | exact HB1.out.drew); rintro e w4 ⟨rfl,hw4⟩; have kc5:∀k q,k<w.heap.size→w4.cell? ⟨k,q,none⟩=_ := (fun k q h=>hw4.cell (p := ⟨k,q,none⟩) h); have HB1 := Lib.hid hw4; clear hw4)
        | ((with_reducible refine (HC2.out _ ?hbel).mono ?_); (case hbel=>first | exact Below.refl _ _ | exact (Below.refl _ _).drew | exact HB1.out | exact HB1.out.drew); rintro e w4 ⟨rfl,hw4⟩; have kc5:∀k q,k<w.heap.size→w4.cell? ⟨k,q,none⟩=_ := (fun k q h=>hw4.cell (p := ⟨k,q,none⟩) h); have HB1 := Lib.hid hw4; clear hw4)
        | fail)
    all_goals go_wp2_with fail
    all_goals exact HN.out _ _ (id ⟨rfl,rfl,rfl,trivial⟩) HB1.out
  · have t1:(z1 == z2)=false := beq_eq_false_iff_ne.2 hy
    rw [decide_eq_false hy] at hN
    clear hy
    have HC1 := Lib.hid hc1
    have HC2 := Lib.hid hc2
    have HN := Lib.hid hN
    clear hc1 hc2 hN
    go_region_held3 (fun w'=>w'.cell? ⟨wo.heap.size+1,2,none⟩=some (.slice (some ⟨b,o,none⟩) 2 c1)∧w'.cell? ⟨b,o,none⟩=some (.string s1)∧w'.cell? ⟨b,o+1,none⟩=some (.string s2))
      ((first | (go_keep; done) | (go_split_ands; (repeat' apply And.intro) <;> (refine (kc5 _ _ (by omega)).trans ?_; assumption))))
      (first
        | ((with_reducible refine (HC1.out _ ?hbel).mono ?_); (case hbel=>first | exact Below.refl _ _ | exact (Below.refl _ _).drew | exact HB1.out | exact HB1.out.drew); rintro e w4 ⟨rfl,hw4⟩; have kc5:∀k q,k<w.heap.size→w4.cell? ⟨k,q,none⟩=_ := (fun k q h=>hw4.cell (p := ⟨k,q,none⟩) h); have HB1 := Lib.hid hw4; clear hw4)
        | ((with_reducible refine (HC2.out _ ?hbel).mono ?_); (case hbel=>first | exact Below.refl _ _ | exact (Below.refl _ _).drew | exact HB1.out | exact HB1.out.drew); rintro e w4 ⟨rfl,hw4⟩; have kc5:∀k q,k<w.heap.size→w4.cell? ⟨k,q,none⟩=_ := (fun k q h=>hw4.cell (p := ⟨k,q,none⟩) h); have HB1 := Lib.hid hw4; clear hw4)
        | fail)
    all_goals go_wp2_with fail
    all_goals exact HN.out _ _ (id ⟨rfl,rfl,rfl,trivial⟩) HB1.out
end

end Go.Proofs.YthfokmjpbnfihaaDoor
