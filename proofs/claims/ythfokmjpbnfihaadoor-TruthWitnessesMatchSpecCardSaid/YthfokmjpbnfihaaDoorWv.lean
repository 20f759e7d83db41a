/- Lemmas. -/
import Derived.Test.YthfokmjpbnfihaaDoorWu
namespace Go.Proofs.YthfokmjpbnfihaaDoor
open Go Go.RowKit
set_option linter.unusedSimpArgs false
set_option linter.unusedVariables false
noncomputable section
set_option maxRecDepth 1000000
set_option maxHeartbeats 16000000
variable {s_1 s_2 s_3 s_4 s_5 s_15 s_16 v s_43 s_44 q:Value} {Q:Exit→Act→World→Prop} {wo w:World} {kd z k0 x:Int} {nm s0 s:ByteArray} {A B Am Bm A0 B0 De A9:Option Addr} {n1 c1 n2 c2 gm nm1 cm nm2 dm i gw go b ee p0 q0 r0 u0 me j base n9 c9:Nat} {K:Act→World→Prop} {PX:World→Prop} {xs:List Value} {rows:List (List Int)} {t:List Int}

theorem frame_wn {P:Act→Prop} (h:∀x0 x1 x2 x3 x4 x5 x6 x7 x8 x9 x10 x11 x12 x13 x14 x15 x16 x17 x18 x19 x20 x21 x22 x23 x24 x25 x26 x27 x28 x29 x30 x31 x32 x33 x34 x35 x36 x37 x38 x39 x40 x41 x42 x43 x44 x45 x46 x47 x48 x49 x50 x51 x52 x53 x54 x55 x56 x57 x58:Value,P ⟨(x0 :: x1 :: x2 :: x3 :: x4 :: x5 :: x6 :: x7 :: x8 :: x9 :: x10 :: x11 :: x12 :: x13 :: x14 :: x15 :: x16 :: x17 :: x18 :: x19 :: x20 :: x21 :: x22 :: x23 :: x24 :: x25 :: x26 :: x27 :: x28 :: x29 :: x30 :: x31 :: x32 :: x33 :: x34 :: x35 :: x36 :: x37 :: x38 :: x39 :: x40 :: x41 :: x42 :: x43 :: x44 :: x45 :: x46 :: x47 :: x48 :: x49 :: x50 :: x51 :: x52 :: x53 :: x54 :: x55 :: x56 :: x57 :: x58 :: []).toArray,[]⟩):∀a:Act,a.tmps.toList.length=59→a.defers=[]→P a := by
  rintro ⟨⟨l⟩,d⟩ hs hd
  simp only at hd
  subst hd
  revert l
  show ∀l:List Value,l.length=59→P ⟨⟨l⟩,[]⟩
  iterate 59 refine openS (fun _=>?_)
  refine open0 ?_
  exact h ..
noncomputable def cF22:Code := Tryd.f22.body.getD .skip
def c_wn_r0 := sp 99 2 cF22
theorem wn_r0_wp (hN:∀a',Frm 59 [(1,s_1),(2,s_2),(3,s_3),(4,s_4),(5,.pointer (some ⟨wo.heap.size,0,none⟩))] a'→Q .normal a' (wo.alloc (.cells #[.int .i64 kd,.string nm,.slice A n1 c1,.slice B n2 c2] 29))):∀ac,Frm 59 [(0,.agg #[.int .i64 kd,.string nm,.slice A n1 c1,.slice B n2 c2]),(1,s_1),(2,s_2),(3,s_3),(4,s_4)] ac→Code.wp Tryd.prog c_wn_r0 Q ac wo := by
  refine fO (frame_wn ?_)
  intros
  rename_i hq
  iterate 5 (obtain ⟨e,hq⟩ := hq; obtain rfl := sI e; clear e)
  clear hq
  conv=>arg 2; whnf
  replace hN := Lib.hid hN
  go_wp2_with fail
  exact hN.out _ (by exact fR rfl rfl rfl)
def c_wn_r1 := sp 99 9 cF22
theorem wn_r1_wp (ha:w.heap[wo.heap.size]?=some (.cells #[.int .i64 kd,.string nm,.slice A n1 c1,.slice B n2 c2] 29 (0,0))) (hN:∀a',Frm 59 [(1,s_1),(2,s_2),(3,s_3),(4,s_4),(5,.pointer (some ⟨wo.heap.size,0,none⟩)),(13,.bool (decide (kd=9)))] a'→Q .normal a' w):∀ac,Frm 59 [(1,s_1),(2,s_2),(3,s_3),(4,s_4),(5,.pointer (some ⟨wo.heap.size,0,none⟩))] ac→Code.wp Tryd.prog c_wn_r1 Q ac w := by
  refine fO (frame_wn ?_)
  intros
  rename_i hq
  iterate 5 (obtain ⟨e,hq⟩ := hq; obtain rfl := sI e; clear e)
  clear hq
  conv=>arg 2; whnf
  have a0 := cellv ha 0 rfl
  have a1 := cellv ha 1 rfl
  have a2 := cellv ha 2 rfl
  have a3 := cellv ha 3 rfl
  have al := lt_heap ha
  clear ha
  by_cases h:kd=9
  · have t1:(kd == 9)=true := beq_iff_eq.2 h
    rw [decide_eq_true h] at hN
    clear h
    replace hN := Lib.hid hN
    go_wp2_with fail
    exact hN.out _ (by exact fR rfl rfl rfl)
  · have t1:(kd == 9)=false := beq_eq_false_iff_ne.2 h
    rw [decide_eq_false h] at hN
    clear h
    replace hN := Lib.hid hN
    go_wp2_with fail
    exact hN.out _ (by exact fR rfl rfl rfl)
def c_wn_r2 := sp 99 69 cF22
theorem wn_r2_wp (hgm:w.heap[gm]?=some (.cells #[.int .i64 z,.slice Am nm1 cm,.slice Bm nm2 dm] 25 (0,0))) (hN:∀a',Frm 59 [(1,s_1),(2,.pointer (some ⟨gm,0,none⟩)),(3,s_3),(4,s_4),(5,s_5),(15,.int .i64 z),(16,.int .i64 (0:Nat))] a'→Q .normal a' w):∀ac,Frm 59 [(1,s_1),(2,.pointer (some ⟨gm,0,none⟩)),(3,s_3),(4,s_4),(5,s_5)] ac→Code.wp Tryd.prog c_wn_r2 Q ac w := by
  refine fO (frame_wn ?_)
  intros
  rename_i hq
  iterate 5 (obtain ⟨e,hq⟩ := hq; obtain rfl := sI e; clear e)
  clear hq
  conv=>arg 2; whnf
  have m0 := cellv hgm 0 rfl
  have m1 := cellv hgm 1 rfl
  have m2 := cellv hgm 2 rfl
  have ml := lt_heap hgm
  clear hgm
  replace hN := Lib.hid hN
  go_wp2_with fail
  exact hN.out _ (by exact fR rfl rfl rfl)
def c_wn_r3 := sp 99 549 cF22
theorem wn_r3_wp (hN:∀a',Frm 59 [(1,s_1),(2,s_2),(3,s_3),(4,s_4),(5,s_5),(15,.int .i64 z),(16,.int .i64 (i:Nat)),(17,.bool (decide ((i:Int)<z)))] a'→Q .normal a' w):∀ac,Frm 59 [(1,s_1),(2,s_2),(3,s_3),(4,s_4),(5,s_5),(15,.int .i64 z),(16,.int .i64 (i:Nat))] ac→Code.wp Tryd.prog c_wn_r3 Q ac w := by
  refine fO (frame_wn ?_)
  intros
  rename_i hq
  iterate 7 (obtain ⟨e,hq⟩ := hq; obtain rfl := sI e; clear e)
  clear hq
  conv=>arg 2; whnf
  by_cases h:(i:Int)<z
  · have t1:decide ((i:Int)<z)=true := by first | exact decide_eq_true (by omega) | exact beq_iff_eq.2 (by omega) | exact bne_iff_ne.2 (by omega)
    have t2:(decide ((i:Int)<z))=true := decide_eq_true h
    rw [t2] at hN
    clear h
    replace hN := Lib.hid hN
    go_wp2_with fail
    exact hN.out _ (by exact fR rfl rfl rfl)
  · have t1:decide ((i:Int)<z)=false := by first | exact decide_eq_false (by omega) | exact beq_eq_false_iff_ne.2 (by omega) | exact bne_eq_false_iff_eq.2 (by omega)
    have t2:(decide ((i:Int)<z))=false := decide_eq_false h
    rw [t2] at hN
    clear h
    replace hN := Lib.hid hN
    go_wp2_with fail
    exact hN.out _ (by exact fR rfl rfl rfl)
def c_wn_r4 := sp 99 8997 cF22
theorem wn_r4_wp (hN:∀a',Frm 59 [(1,s_1),(2,s_2),(3,s_3),(4,s_4),(5,s_5),(15,s_15),(16,.int .i64 (i:Nat)),(7,.int .i64 (i:Nat))] a'→Q .normal a' w):∀ac,Frm 59 [(1,s_1),(2,s_2),(3,s_3),(4,s_4),(5,s_5),(15,s_15),(16,.int .i64 (i:Nat))] ac→Code.wp Tryd.prog c_wn_r4 Q ac w := by
  refine fO (frame_wn ?_)
  intros
  rename_i hq
  iterate 7 (obtain ⟨e,hq⟩ := hq; obtain rfl := sI e; clear e)
  clear hq
  conv=>arg 2; whnf
  replace hN := Lib.hid hN
  go_wp2_with fail
  exact hN.out _ (by exact fR rfl rfl rfl)
def c_wn_r6 := sp 99 3877 cF22
theorem wn_r6_wp (hi:(i:Int)<1000) (hN:∀a',Frm 59 [(1,s_1),(2,s_2),(3,s_3),(4,s_4),(5,s_5),(15,s_15),(16,.int .i64 (i+1:Nat))] a'→Q .normal a' w):∀ac,Frm 59 [(1,s_1),(2,s_2),(3,s_3),(4,s_4),(5,s_5),(15,s_15),(16,.int .i64 (i:Nat))] ac→Code.wp Tryd.prog c_wn_r6 Q ac w := by
  refine fO (frame_wn ?_)
  intros
  rename_i hq
  iterate 7 (obtain ⟨e,hq⟩ := hq; obtain rfl := sI e; clear e)
  clear hq
  conv=>arg 2; whnf
  have hi4:(i:Int)≤9223372036854775806 := by omega
  replace hN := Lib.hid hN
  go_wp2_with fail
  exact hN.out _ (by exact fR rfl rfl rfl)
def c_wn_r5n := sp 99 13093 cF22
theorem wn_r5n_wp {o:Nat} (ha:w.heap[wo.heap.size]?=some (.cells #[.int .i64 kd,.string nm,.slice A n1 c1,.slice (some ⟨b,o,none⟩) 1 c2] 29 (0,0))) (e0_0:w.cell? ⟨b,o,none⟩=some (.int .i64 k0)) (e0_1:w.cell? ⟨b,o+1,none⟩=some (.string s0)) (e0_2:w.cell? ⟨b,o+2,none⟩=some (.slice A0 p0 q0)) (e0_3:w.cell? ⟨b,o+3,none⟩=some (.slice B0 r0 u0)) (hbl:b<w.heap.size) (hf:w.heap[gw]?=some (.cells #[.func (Fn.func 22) #[] #[.pointer (some ⟨gm,0,none⟩),.pointer (some ⟨gw,0,none⟩),.pointer (some ⟨go,0,none⟩)]] 61 (0,0))) (hc:∀(W:World) (v':Value),W.ownsRow (w.heap.size+1) 63 2 v' (0+1) ([]++[.string nm,.int .i64 (i:Nat)])→Below w.heap.size w W→Calls Tryd.prog 22 #[.agg #[.int .i64 k0,.string s0,.slice A0 p0 q0,.slice B0 r0 u0],v',.pointer (some ⟨gm,0,none⟩),.pointer (some ⟨gw,0,none⟩),.pointer (some ⟨go,0,none⟩)] W fun e w'=>e=.returned (.tuple #[])∧PX w'∧(∀k o',(k=gw∨k=wo.heap.size∨k=b)→w'.cell? ⟨k,o',none⟩=w.cell? ⟨k,o',none⟩)) (hN:∀a' w',Frm 59 [(1,.slice none 0 ee),(2,s_2),(3,.pointer (some ⟨gw,0,none⟩)),(4,s_4),(5,.pointer (some ⟨wo.heap.size,0,none⟩)),(15,s_15),(16,s_16)] a'→PX w'→K a' w'):∀ac,Frm 59 [(1,.slice none 0 ee),(2,s_2),(3,.pointer (some ⟨gw,0,none⟩)),(4,s_4),(5,.pointer (some ⟨wo.heap.size,0,none⟩)),(15,s_15),(16,s_16),(7,.int .i64 (i:Nat))] ac→Code.wp Tryd.prog c_wn_r5n (Exit.then K (fun _ _ _=>False)) ac w := by
  refine fO (frame_wn ?_)
  intros
  rename_i hq
  iterate 8 (obtain ⟨e,hq⟩ := hq; obtain rfl := sI e; clear e)
  clear hq
  conv=>arg 2; whnf
  obtain ⟨ti,hti,ht0,ht1,ht2⟩ := info_parts infoEnv
  have a0 := cellv ha 0 rfl
  have a1 := cellv ha 1 rfl
  have a2 := cellv ha 2 rfl
  have a3 := cellv ha 3 rfl
  have al := lt_heap ha
  clear ha
  have f0 := cellv hf 0 rfl
  have fl := lt_heap hf
  clear hf
  have HC := Lib.hid hc
  have HN := Lib.hid hN
  clear hc hN
  go_region_held3 (fun w'=>w'.cell? ⟨gw,0,none⟩=some (.func (Fn.func 22) #[] #[.pointer (some ⟨gm,0,none⟩),.pointer (some ⟨gw,0,none⟩),.pointer (some ⟨go,0,none⟩)])∧w'.cell? ⟨wo.heap.size,0,none⟩=some (.int .i64 kd)∧w'.cell? ⟨wo.heap.size,1,none⟩=some (.string nm)∧w'.cell? ⟨wo.heap.size,3,none⟩=some (.slice (some ⟨b,o,none⟩) 1 c2)∧w'.cell? ⟨b,o,none⟩=some (.int .i64 k0)∧w'.cell? ⟨b,o+1,none⟩=some (.string s0)∧w'.cell? ⟨b,o+2,none⟩=some (.slice A0 p0 q0)∧w'.cell? ⟨b,o+3,none⟩=some (.slice B0 r0 u0))
    ((first | (go_keep; done) | (go_split_ands; (repeat' apply And.intro) <;> (first | (refine (kc5 _ _ (by omega)).trans ?_; assumption; done) | (refine (kc6 _ _ (by simp)).trans ?_; assumption; done)))))
    (first
      | ((refine step_append_grows (by rfl) (.tmp 29) (.tmp 34) 62 (by rfl) 63 ti (.agg #[.string ⟨#[]⟩,.int .i64 0]) 2 24 Tryd.underlying62 hti ht0 ht1 ht2 rfl (by decide) none 0 0 [] (by rfl) ?c0 ?c1 ?c2 ⟨w.heap.size,0,none⟩ 1 1 [.string nm,.int .i64 (i:Nat)] (by rfl) rfl ?c3 ?c4 ?c5 ?c6 ?c7 ?_; (case c0=>(first | (intro h; cases h; done) | exact fun _=>⟨rfl,rfl⟩)); (case c1=>(rfl)); (case c2=>(intro b9 hb9; cases hb9)); (case c3=>(exact World.news_of_block (cs := #[.string nm,.int .i64 (i:Nat)]) (t := 63) (fr := (0,0)) (by first | exact heap_drew (heap_alloc_new w _) | exact heap_alloc_new w _ | exact heap_alloc_new w.drew _))); (case c4=>(intro u hu; simp at hu; rcases hu with rfl | rfl <;> rfl)); (case c5=>omega); (case c6=>(unfold maxLen; omega)); (case c7=>omega); intro v' w2 hown hgrow; have hbw:Below w.heap.size w w2 := ⟨hgrow.os,hgrow.tape,hgrow.output,by have := hgrow.size; simp at this; omega,fun k hk=>(hgrow.block k (by simp; omega) (by simp)).trans (by first | exact heap_drew (heap_old hk rfl) | exact heap_old hk rfl)⟩; have kc5:∀k q,k<w.heap.size→w2.cell? ⟨k,q,none⟩=_ := (fun k q h=>hbw.cell (p := ⟨k,q,none⟩) h); have HOWN := Lib.hid hown; have HB0 := Lib.hid hbw; clear hown hgrow hbw))
      | ((with_reducible refine (HC.out _ _ ?hown ?hbel).mono ?_); (case hown=>simpa using HOWN.out); (case hbel=>exact HB0.out); rintro e w4 ⟨rfl,hw4,kc6⟩; have HB1 := Lib.hid hw4; clear hw4)
      | fail)
  all_goals go_wp2_with fail
  all_goals exact HN.out _ _ (by exact fR rfl rfl rfl) HB1.out
def c_wn_r5 := sp 99 13093 cF22
theorem wn_r5_wp {o b2 o2:Nat} {env:List (ByteArray × Int)} (ha:w.heap[wo.heap.size]?=some (.cells #[.int .i64 kd,.string nm,.slice A n1 c1,.slice (some ⟨b,o,none⟩) 1 c2] 29 (0,0))) (hlen:env.length=me) (hm:me≤1000000) (hme:me≤ee) (hbw:b2<w.heap.size) (hcell:∀j u,(envVals env)[j]?=some u→w.cell? ⟨b2,o2+j,none⟩=some u) (e0_0:w.cell? ⟨b,o,none⟩=some (.int .i64 k0)) (e0_1:w.cell? ⟨b,o+1,none⟩=some (.string s0)) (e0_2:w.cell? ⟨b,o+2,none⟩=some (.slice A0 p0 q0)) (e0_3:w.cell? ⟨b,o+3,none⟩=some (.slice B0 r0 u0)) (hbl:b<w.heap.size) (hf:w.heap[gw]?=some (.cells #[.func (Fn.func 22) #[] #[.pointer (some ⟨gm,0,none⟩),.pointer (some ⟨gw,0,none⟩),.pointer (some ⟨go,0,none⟩)]] 61 (0,0))) (hc:∀(W:World) (v':Value),W.ownsRow (w.heap.size+1) 63 2 v' (me+1) (envVals env++[.string nm,.int .i64 (i:Nat)])→Below w.heap.size w W→Calls Tryd.prog 22 #[.agg #[.int .i64 k0,.string s0,.slice A0 p0 q0,.slice B0 r0 u0],v',.pointer (some ⟨gm,0,none⟩),.pointer (some ⟨gw,0,none⟩),.pointer (some ⟨go,0,none⟩)] W fun e w'=>e=.returned (.tuple #[])∧PX w'∧(∀k o',(k=gw∨k=wo.heap.size∨k=b)→w'.cell? ⟨k,o',none⟩=w.cell? ⟨k,o',none⟩)) (hN:∀a' w',Frm 59 [(1,.slice (some ⟨b2,o2,none⟩) me ee),(2,s_2),(3,.pointer (some ⟨gw,0,none⟩)),(4,s_4),(5,.pointer (some ⟨wo.heap.size,0,none⟩)),(15,s_15),(16,s_16)] a'→PX w'→K a' w'):∀ac,Frm 59 [(1,.slice (some ⟨b2,o2,none⟩) me ee),(2,s_2),(3,.pointer (some ⟨gw,0,none⟩)),(4,s_4),(5,.pointer (some ⟨wo.heap.size,0,none⟩)),(15,s_15),(16,s_16),(7,.int .i64 (i:Nat))] ac→Code.wp Tryd.prog c_wn_r5 (Exit.then K (fun _ _ _=>False)) ac w := by
  refine fO (frame_wn ?_)
  intros
  rename_i hq
  iterate 8 (obtain ⟨e,hq⟩ := hq; obtain rfl := sI e; clear e)
  clear hq
  conv=>arg 2; whnf
  obtain ⟨ti,hti,ht0,ht1,ht2⟩ := info_parts infoEnv
  have q1:(me:Int)≤(ee:Int) := by omega
  have hcA:∀j u,(envVals env)[j]?=some u→(w.alloc (.cells #[.string nm,.int .i64 (i:Nat)] 63)).cell? ⟨b2,o2+j,none⟩=some u := fun j u hu=>(cell_keep (heap_old hbw rfl) _).trans (hcell j u hu)
  have HCELLA := Lib.hid hcA
  have hbl2:(envVals env).length=me * 2 := by rw [envVals_len,hlen]
  have HBL := Lib.hid hbl2
  clear hcA hcell hbl2
  have a0 := cellv ha 0 rfl
  have a1 := cellv ha 1 rfl
  have a2 := cellv ha 2 rfl
  have a3 := cellv ha 3 rfl
  have al := lt_heap ha
  clear ha
  have f0 := cellv hf 0 rfl
  have fl := lt_heap hf
  clear hf
  have HC := Lib.hid hc
  have HN := Lib.hid hN
  clear hc hN
  go_region_held3 (fun w'=>w'.cell? ⟨gw,0,none⟩=some (.func (Fn.func 22) #[] #[.pointer (some ⟨gm,0,none⟩),.pointer (some ⟨gw,0,none⟩),.pointer (some ⟨go,0,none⟩)])∧w'.cell? ⟨wo.heap.size,0,none⟩=some (.int .i64 kd)∧w'.cell? ⟨wo.heap.size,1,none⟩=some (.string nm)∧w'.cell? ⟨wo.heap.size,3,none⟩=some (.slice (some ⟨b,o,none⟩) 1 c2)∧w'.cell? ⟨b,o,none⟩=some (.int .i64 k0)∧w'.cell? ⟨b,o+1,none⟩=some (.string s0)∧w'.cell? ⟨b,o+2,none⟩=some (.slice A0 p0 q0)∧w'.cell? ⟨b,o+3,none⟩=some (.slice B0 r0 u0))
    ((first | (go_keep; done) | (go_split_ands; (repeat' apply And.intro) <;> (first | (refine (kc5 _ _ (by omega)).trans ?_; assumption; done) | (refine (kc6 _ _ (by simp)).trans ?_; assumption; done)))))
    (first
      | ((refine step_append_grows (by rfl) (.tmp 29) (.tmp 34) 62 (by rfl) 63 ti (.agg #[.string ⟨#[]⟩,.int .i64 0]) 2 24 Tryd.underlying62 hti ht0 ht1 ht2 rfl (by decide) (some ⟨b2,o2,none⟩) me me (envVals env) (by rfl) ?c0 ?c1 ?c2 ⟨w.heap.size,0,none⟩ 1 1 [.string nm,.int .i64 (i:Nat)] (by rfl) rfl ?c3 ?c4 ?c5 ?c6 ?c7 ?_; (case c0=>(first | (intro h; cases h; done) | exact fun _=>⟨rfl,rfl⟩)); (case c1=>(exact HBL.out)); (case c2=>(intro b9 hb9 j u hu; cases hb9; rw [Addr.add_lit]; exact HCELLA.out j u hu)); (case c3=>(exact World.news_of_block (cs := #[.string nm,.int .i64 (i:Nat)]) (t := 63) (fr := (0,0)) (by first | exact heap_drew (heap_alloc_new w _) | exact heap_alloc_new w _ | exact heap_alloc_new w.drew _))); (case c4=>(intro u hu; simp at hu; rcases hu with rfl | rfl <;> rfl)); (case c5=>omega); (case c6=>(unfold maxLen; omega)); (case c7=>omega); intro v' w2 hown hgrow; have hbw:Below w.heap.size w w2 := ⟨hgrow.os,hgrow.tape,hgrow.output,by have := hgrow.size; simp at this; omega,fun k hk=>(hgrow.block k (by simp; omega) (by simp)).trans (by first | exact heap_drew (heap_old hk rfl) | exact heap_old hk rfl)⟩; have kc5:∀k q,k<w.heap.size→w2.cell? ⟨k,q,none⟩=_ := (fun k q h=>hbw.cell (p := ⟨k,q,none⟩) h); have HOWN := Lib.hid hown; have HB0 := Lib.hid hbw; clear hown hgrow hbw))
      | ((with_reducible refine (HC.out _ _ ?hown ?hbel).mono ?_); (case hown=>simpa using HOWN.out); (case hbel=>exact HB0.out); rintro e w4 ⟨rfl,hw4,kc6⟩; have HB1 := Lib.hid hw4; clear hw4)
      | fail)
  all_goals go_wp2_with fail
  all_goals exact HN.out _ _ (by exact fR rfl rfl rfl) HB1.out
def c_wn_r7 := sp 99 11 cF22
theorem wn_r7_wp {bb:Bool} (ha:w.heap[wo.heap.size]?=some (.cells #[.int .i64 kd,.string nm,.slice A n1 c1,.slice B n2 c2] 29 (0,0))) (hgm:w.heap[gm]?=some (.cells #[.int .i64 z,.slice Am nm1 cm,.slice Bm nm2 dm] 25 (0,0))) (hc:Calls Tryd.prog 23 #[.agg #[.int .i64 z,.slice Am nm1 cm,.slice Bm nm2 dm],.agg #[.int .i64 kd,.string nm,.slice A n1 c1,.slice B n2 c2],.slice De me ee] w fun e w'=>e=.returned (.bool bb)∧Below w.heap.size w w') (hN:∀a' w',Frm 59 [(1,.slice De me ee),(2,.pointer (some ⟨gm,0,none⟩)),(3,s_3),(4,s_4),(5,.pointer (some ⟨wo.heap.size,0,none⟩)),(41,.bool bb)] a'→Below w.heap.size w w'→Q .normal a' w'):∀ac,Frm 59 [(1,.slice De me ee),(2,.pointer (some ⟨gm,0,none⟩)),(3,s_3),(4,s_4),(5,.pointer (some ⟨wo.heap.size,0,none⟩))] ac→Code.wp Tryd.prog c_wn_r7 Q ac w := by
  refine fO (frame_wn ?_)
  intros
  rename_i hq
  iterate 5 (obtain ⟨e,hq⟩ := hq; obtain rfl := sI e; clear e)
  clear hq
  conv=>arg 2; whnf
  have a0 := cellv ha 0 rfl
  have a1 := cellv ha 1 rfl
  have a2 := cellv ha 2 rfl
  have a3 := cellv ha 3 rfl
  have al := lt_heap ha
  clear ha
  have m0 := cellv hgm 0 rfl
  have m1 := cellv hgm 1 rfl
  have m2 := cellv hgm 2 rfl
  have ml := lt_heap hgm
  clear hgm
  have HN := Lib.hid hN
  have HC := Lib.hid hc
  clear hN hc
  go_wp2_with fail
  (with_reducible refine HC.out.mono ?_)
  rintro e w1 ⟨rfl,hb1⟩
  replace hb1 := Lib.hid hb1
  go_wp2_with fail
  exact HN.out _ _ (by exact fR rfl rfl rfl) hb1.out
def c_wn_r8 := sp 99 39 cF22
theorem wn_r8_wp (hN:∀a',Frm 59 [(1,s_1),(2,s_2),(3,s_3),(4,s_4),(5,s_5),(8,.slice (some ⟨w.heap.size,0,none⟩) 0 0)] a'→Q .normal a' (w.alloc (.cells #[] 3))):∀ac,Frm 59 [(1,s_1),(2,s_2),(3,s_3),(4,s_4),(5,s_5)] ac→Code.wp Tryd.prog c_wn_r8 Q ac w := by
  refine fO (frame_wn ?_)
  intros
  rename_i hq
  iterate 5 (obtain ⟨e,hq⟩ := hq; obtain rfl := sI e; clear e)
  clear hq
  conv=>arg 2; whnf
  replace hN := Lib.hid hN
  go_wp2_with fail
  exact hN.out _ (by exact fR rfl rfl rfl)
def c_wn_r9 := sp 99 151 cF22
theorem wn_r9_wp (hN:∀a',Frm 59 [(1,.slice De me ee),(2,s_2),(3,s_3),(4,s_4),(5,s_5),(8,v),(43,.slice De me ee),(44,.int .i64 (me:Nat)),(45,.int .i64 (0:Nat))] a'→Q .normal a' w):∀ac,Frm 59 [(1,.slice De me ee),(2,s_2),(3,s_3),(4,s_4),(5,s_5),(8,v)] ac→Code.wp Tryd.prog c_wn_r9 Q ac w := by
  refine fO (frame_wn ?_)
  intros
  rename_i hq
  iterate 6 (obtain ⟨e,hq⟩ := hq; obtain rfl := sI e; clear e)
  clear hq
  conv=>arg 2; whnf
  replace hN := Lib.hid hN
  go_wp2_with fail
  exact hN.out _ (by exact fR rfl rfl rfl)
def c_wn_r10 := sp 99 1111 cF22
theorem wn_r10_wp (hN:∀a',Frm 59 [(1,s_1),(2,s_2),(3,s_3),(4,s_4),(5,s_5),(8,v),(43,s_43),(44,.int .i64 (me:Nat)),(45,.int .i64 (j:Nat)),(46,.bool (decide (j<me)))] a'→Q .normal a' w):∀ac,Frm 59 [(1,s_1),(2,s_2),(3,s_3),(4,s_4),(5,s_5),(8,v),(43,s_43),(44,.int .i64 (me:Nat)),(45,.int .i64 (j:Nat))] ac→Code.wp Tryd.prog c_wn_r10 Q ac w := by
  refine fO (frame_wn ?_)
  intros
  rename_i hq
  iterate 9 (obtain ⟨e,hq⟩ := hq; obtain rfl := sI e; clear e)
  clear hq
  conv=>arg 2; whnf
  by_cases h:j<me
  · have t1:decide ((j:Int)<(me:Int))=true := by first | exact decide_eq_true (by omega) | exact beq_iff_eq.2 (by omega) | exact bne_iff_ne.2 (by omega)
    have t2:(decide (j<me))=true := decide_eq_true h
    rw [t2] at hN
    clear h
    replace hN := Lib.hid hN
    go_wp2_with fail
    exact hN.out _ (by exact fR rfl rfl rfl)
  · have t1:decide ((j:Int)<(me:Int))=false := by first | exact decide_eq_false (by omega) | exact beq_eq_false_iff_ne.2 (by omega) | exact bne_eq_false_iff_eq.2 (by omega)
    have t2:(decide (j<me))=false := decide_eq_false h
    rw [t2] at hN
    clear h
    replace hN := Lib.hid hN
    go_wp2_with fail
    exact hN.out _ (by exact fR rfl rfl rfl)
def c_wn_r11 := sp 99 18007 cF22
theorem wn_r11_wp {o:Nat} (hj:j<me) (e0:w.cell? ⟨b,o+j * 2,none⟩=some (.string s)) (e1:w.cell? ⟨b,o+j * 2+1,none⟩=some (.int .i64 x)) (hbl:b<w.heap.size) (hN:∀a',Frm 59 [(1,s_1),(2,s_2),(3,s_3),(4,s_4),(5,s_5),(8,v),(43,.slice (some ⟨b,o,none⟩) me ee),(44,s_44),(45,.int .i64 (j:Nat)),(10,.pointer (some ⟨w.heap.size,0,none⟩))] a'→Q .normal a' (w.alloc (.cells #[.string s,.int .i64 x] 63))):∀ac,Frm 59 [(1,s_1),(2,s_2),(3,s_3),(4,s_4),(5,s_5),(8,v),(43,.slice (some ⟨b,o,none⟩) me ee),(44,s_44),(45,.int .i64 (j:Nat))] ac→Code.wp Tryd.prog c_wn_r11 Q ac w := by
  refine fO (frame_wn ?_)
  intros
  rename_i hq
  iterate 9 (obtain ⟨e,hq⟩ := hq; obtain rfl := sI e; clear e)
  clear hq
  conv=>arg 2; whnf
  have q0:(0:Int)≤(j:Int) := by omega
  have q1:(j:Int)<(me:Int) := by omega
  replace hN := Lib.hid hN
  go_wp2_with fail
  exact hN.out _ (by exact fR rfl rfl rfl)
def c_wn_r12 := sp 99 26199 cF22
theorem wn_r12_wp {s_45:Value} {gx:Nat} (hl:n9≤1000000) (hx:w.heap[gx]?=some (.cells #[.string s,.int .i64 x] 63 (0,0))) (hrow:w.ownsRow base 3 1 (.slice A9 n9 c9) n9 xs) (hbw:base≤w.heap.size) (hN:∀v' a' w',Frm 59 [(1,s_1),(2,s_2),(3,s_3),(4,s_4),(5,s_5),(8,v'),(43,s_43),(44,s_44),(45,s_45)] a'→w'.ownsRow base 3 1 v' (n9+1) (xs++[.int .i64 x])→Below base w w'→Q .normal a' w'):∀ac,Frm 59 [(1,s_1),(2,s_2),(3,s_3),(4,s_4),(5,s_5),(8,(.slice A9 n9 c9)),(43,s_43),(44,s_44),(45,s_45),(10,.pointer (some ⟨gx,0,none⟩))] ac→Code.wp Tryd.prog c_wn_r12 Q ac w := by
  refine fO (frame_wn ?_)
  intros
  rename_i hq
  iterate 10 (obtain ⟨e,hq⟩ := hq; obtain rfl := sI e; clear e)
  clear hq
  conv=>arg 2; whnf
  obtain ⟨ti,hti,ht0,ht1,ht2⟩ := info_parts infoInt
  have x1 := cellv hx 1 rfl
  have xl := lt_heap hx
  clear hx
  replace hrow := Lib.hid hrow
  replace hN := Lib.hid hN
  go_wp2_with (at_builtin; refine wpList_append_lies (w.alloc (.cells #[.int .i64 x] 3)) ?h1 (.tmp 49) (.tmp 52) 39 ?h2 base 3 ti (.int .i64 0) 1 8 ?h3 hti ht0 ht1 ht2 ?h4 ?h5 (.slice A9 n9 c9) n9 xs ?h6 ?h7 ⟨w.heap.size,0,none⟩ 1 1 [.int .i64 x] ?h8 ?h9 ?h10 ?h11 ?h12 ?h13 ?h14 ?h15 (w.heap.size+1) ?h16 ?_)
  try (case h1=>rfl)
  try (case h2=>rfl)
  try (case h3=>exact Tryd.underlying39)
  try (case h4=>rfl)
  try (case h5=>omega)
  try (case h6=>rfl)
  try (case h7=>exact hrow.out.alloc _)
  try (case h8=>rfl)
  try (case h9=>rfl)
  try (case h10=>exact World.news_of_block (cs := #[.int .i64 x]) (t := 3) (fr := (0,0)) (heap_alloc_new w _))
  try (case h11=>simp [Value.oneCell'])
  try (case h12=>omega)
  try (case h13=>first | (simp [maxLen]; omega) | (unfold maxLen; omega))
  try (case h14=>omega)
  try (case h15=>first | omega | (simp; omega))
  try (case h16=>first | rfl | simp)
  intro gg cap w6 hown3 hgrow hat hlt
  have hbg:Below base w w6 := ((Below.refl base w).alloc hbw _).trans (below_of_grown9 hgrow (own_ge9 hrow.out) (by simp; omega))
  have HBG := Lib.hid hbg
  have HOWN := Lib.hid hown3
  clear hown3 hgrow hat hbg hlt
  go_wp2_with fail
  exact hN.out _ _ _ (by exact fR rfl rfl rfl) HOWN.out HBG.out
def c_wn_r13 := sp 99 7767 cF22
theorem wn_r13_wp (hj:(j:Int)<1000000) (hN:∀a',Frm 59 [(1,s_1),(2,s_2),(3,s_3),(4,s_4),(5,s_5),(8,v),(43,s_43),(44,s_44),(45,.int .i64 (j+1:Nat))] a'→Q .normal a' w):∀ac,Frm 59 [(1,s_1),(2,s_2),(3,s_3),(4,s_4),(5,s_5),(8,v),(43,s_43),(44,s_44),(45,.int .i64 (j:Nat))] ac→Code.wp Tryd.prog c_wn_r13 Q ac w := by
  refine fO (frame_wn ?_)
  intros
  rename_i hq
  iterate 9 (obtain ⟨e,hq⟩ := hq; obtain rfl := sI e; clear e)
  clear hq
  conv=>arg 2; whnf
  have hi4:(j:Int)≤9223372036854775806 := by omega
  replace hN := Lib.hid hN
  go_wp2_with fail
  exact hN.out _ (by exact fR rfl rfl rfl)
structure WB (w:World) (base go:Nat) (q:Value) (rows:List (List Int)):Prop where
  box:w.heap[go]?=some (.cells #[q] 30 (0,0))
  row:intsRep.Own 39 base w (fun b=>base≤b∧b<w.heap.size) q rows
  lo:go<base
  hi:base≤w.heap.size
theorem WB.ne (h:WB w base go q rows):q.ownBlock≠some go := fun e=>by have := (h.row.block go e).1; have := h.lo; omega
theorem WB.below {w':World} (h:WB w base go q rows) (hb:Below w.heap.size w w'):WB w' base go q rows :=
  ⟨(hb.block _ (by have := h.lo; have := h.hi; omega)).trans h.box,h.row.grow (fun b _ h2=>hb.block b h2) hb.size,h.lo,Nat.le_trans h.hi hb.size⟩
theorem WB.appended {w2:World} {gg cap n:Nat} {o:Obj} (h:WB w base go q rows) (hall:intsRep.All w (fun b=>(base≤b∧b<w.heap.size)∧q.ownBlock≠some b) rows xs) (ht:zRep.Sl w (fun b=>(base≤b∧b<w.heap.size)∧q.ownBlock≠some b) v t) (hown:w2.ownsRow base 39 1 (.slice (some ⟨gg,0,none⟩) (n+1) cap) (n+1) (xs++[v])) (hg:(w.alloc o).grownBy w2 q.ownBlock) (hat:q.ownBlock=some gg∨gg=w.heap.size+1) (hn:rows.length=n) :
    w2.heap[go]?=some (.cells #[q] 30 (0,0))∧WB (w2.setCell ⟨go,0,none⟩ (.slice (some ⟨gg,0,none⟩) (n+1) cap)) base go (.slice (some ⟨gg,0,none⟩) (n+1) cap) (rows++[t])∧LK w (w2.setCell ⟨go,0,none⟩ (.slice (some ⟨gg,0,none⟩) (n+1) cap)) go q (.slice (some ⟨gg,0,none⟩) (n+1) cap) := by
  have hlo := h.lo
  have hhi := h.hi
  have hk:∀k,k<w.heap.size→q.ownBlock≠some k→w2.heap[k]?=w.heap[k]? := fun k h1 h2=>(hg.block k (by simp; omega) (fun e=>h2 e.symm)).trans (heap_old h1 rfl)
  have hb2 := (hk go (by omega) h.ne).trans h.box
  have hsz:w.heap.size+1≤w2.heap.size := by have := hg.size; simpa using this
  have hrow := Rep.step (ρ := intsRep) (a := t) hn hall ⟨v,rfl,ht⟩ (fun b hb=>hb) hown hg hat
  refine ⟨hb2,⟨by simpa using heap_set hb2 0 (.slice (some ⟨gg,0,none⟩) (n+1) cap),?_,hlo,by rw [size_set]; omega⟩,⟨hg.os,hg.tape,hg.output,by rw [size_set]; omega,fun k h1 h2 h3=>heap_far _ h2 (hk k h1 h3),fun k e=>?_⟩⟩
  · exact hrow.grow (fun b hb _=>heap_far _ (by omega) rfl) (by rw [size_set]; exact Nat.le_refl _)
  · have e2:gg=k := Option.some.inj e
    subst e2
    rcases hat with e | e
    · exact Or.inl e
    · exact Or.inr (by omega)
theorem infoInts:(Tryd.prog.info? 39).map (fun i=>(i.zero,i.size,i.bytes))=some (some (.slice none 0 0),1,24) := by kernel_rfl
def c_wn_r14 := sp 99 119 cF22
theorem wn_r14_wp {n8 c8:Nat} {A8:Option Addr} (hn9:n9=rows.length) (hl:n9≤1000000) (hb:WB w base go (.slice A9 n9 c9) rows) (ht:zRep.Sl w (fun b=>(base≤b∧b<w.heap.size)∧Value.ownBlock (.slice A9 n9 c9)≠some b) (.slice A8 n8 c8) t) (hN:∀q' a' w',Frm 59 [(1,s_1),(2,s_2),(3,s_3),(4,.pointer (some ⟨go,0,none⟩)),(5,s_5)] a'→WB w' base go q' (rows++[t])→LK w w' go (.slice A9 n9 c9) q'→Q .normal a' w'):∀ac,Frm 59 [(1,s_1),(2,s_2),(3,s_3),(4,.pointer (some ⟨go,0,none⟩)),(5,s_5),(8,(.slice A8 n8 c8))] ac→Code.wp Tryd.prog c_wn_r14 Q ac w := by
  refine fO (frame_wn ?_)
  intros
  rename_i hq
  iterate 6 (obtain ⟨e,hq⟩ := hq; obtain rfl := sI e; clear e)
  clear hq
  conv=>arg 2; whnf
  obtain ⟨ti,hti,ht0,ht1,ht2⟩ := info_parts infoInts
  have x0 := cellv hb.box 0 rfl
  have xl := lt_heap hb.box
  have xf := free_heap hb.box 0
  obtain ⟨xs,hrow,hall⟩ := id hb.row
  rw [← hn9] at hrow
  replace hn9 := Lib.hid hn9
  have hbase := hb.hi
  have HROW := Lib.hid hrow
  have HALL := Lib.hid hall
  have HBX := Lib.hid hb
  clear hrow hall hb
  replace ht := Lib.hid ht
  replace hN := Lib.hid hN
  go_wp2_with (at_builtin; refine wpList_append_lies (w.alloc (.cells #[(.slice A8 n8 c8)] 39)) ?h1 (.tmp 55) (.tmp 57) 30 ?h2 base 39 ti (.slice none 0 0) 1 24 ?h3 hti ht0 ht1 ht2 ?h4 ?h5 (.slice A9 n9 c9) n9 xs ?h6 ?h7 ⟨w.heap.size,0,none⟩ 1 1 [(.slice A8 n8 c8)] ?h8 ?h9 ?h10 ?h11 ?h12 ?h13 ?h14 ?h15 (w.heap.size+1) ?h16 ?_)
  try (case h1=>rfl)
  try (case h2=>rfl)
  try (case h3=>exact Tryd.underlying30)
  try (case h4=>rfl)
  try (case h5=>omega)
  try (case h6=>rfl)
  try (case h7=>exact HROW.out.alloc _)
  try (case h8=>rfl)
  try (case h9=>rfl)
  try (case h10=>exact World.news_of_block (cs := #[(.slice A8 n8 c8)]) (t := 39) (fr := (0,0)) (heap_alloc_new w _))
  try (case h11=>simp [Value.oneCell'])
  try (case h12=>omega)
  try (case h13=>first | (simp [maxLen]; omega) | (unfold maxLen; omega))
  try (case h14=>omega)
  try (case h15=>first | omega | (simp; omega))
  try (case h16=>first | rfl | simp)
  intro gg cap w6 hown3 hgrow hat hlt
  have hap := HBX.out.appended HALL.out ht.out hown3 hgrow hat hn9.out.symm
  have HAP := Lib.hid hap
  have d0 := cellv hap.1 0 rfl
  have df := free_heap hap.1 0
  have dl := lt_heap hap.1
  clear hown3 hgrow hat hap x0 xf xl hlt
  go_wp2_with fail
  exact hN.out _ _ _ (by exact fR rfl rfl rfl) HAP.out.2.1 HAP.out.2.2
end
noncomputable section
set_option maxRecDepth 100000
set_option maxHeartbeats 4000000
variable {R:Ending→World→Prop} {w' w:World} {a:Act} {go:Nat} {q:Value}

theorem wn_end (hd:a.defers=[]) (hR:R (.returned (.tuple #[])) w'):bodyPost Tryd.prog Tryd.f22 R .normal a w' := bodyPost_end (results_none Tryd.results22 _ _ _) hd hR
theorem wn_ret (hd:a.defers=[]) (hR:R (.returned (.tuple #[])) w'):bodyPost Tryd.prog Tryd.f22 R .ret a w' := bodyPost_ret (results_none Tryd.results22 _ _ _) hd hR
theorem zAllW {S:Nat→Prop}:∀l:List Int,zRep.All w S l (l.map (.int .i64))
  | []=>rfl
  | z :: l=>⟨[.int .i64 z],l.map (.int .i64),rfl,rfl,zAllW l⟩
theorem LK.hit {q':Value} (h:LK w w' go q q') {S:Nat→Prop} (hS:∀b,S b→b<w.heap.size∧b≠go∧q.ownBlock≠some b):(∀b,S b→w'.heap[b]?=w.heap[b]?)∧∀b,S b→b<w'.heap.size∧b≠go∧q'.ownBlock≠some b :=
  ⟨fun b hb=>h.block b (hS b hb).1 (hS b hb).2.1 (hS b hb).2.2,fun b hb=>⟨Nat.lt_of_lt_of_le (hS b hb).1 h.size,(hS b hb).2.1,fun e=>by
    rcases h.at_ b e with e | e
    · exact (hS b hb).2.2 e
    · have := (hS b hb).1; omega⟩⟩
theorem WB.qq {base:Nat} {rows:List (List Int)} (h:WB w base go q rows) {k:Nat} (hk:k<base):q.ownBlock≠some k := fun e=>by have := (h.row.block k e).1; omega
theorem walk_leaf (m:Md) (hg:m.good) {Am Bm:Option Addr} {cm dm gm gw go base:Nat} (v:Fv) (hok:v.ok) (hrel:hasRels m v=true) (hk9:(v.fm.lab.kind:Int)≠9) (hwt:∀env,witF m v env=if evalF m v env=true then [env.map Prod.snd] else []):∀(env:List (ByteArray × Int)) (cs:List Value) (w:World) (S:Nat→Prop) (De:Option Addr) (me ee:Nat) (q:Value) (rows:List (List Int)),env.length+Fv.nodes (v)≤1000→fmRep.R w S (Fv.fm (v)) cs→envRep.Sl w S (.slice De me ee) env→(env=[]→De=none)→me≤ee→m.In w S [.int .i64 m.sz,.slice Am m.cs.length cm,.slice Bm m.rs.length dm]→(∀b,S b→b<w.heap.size∧b≠go∧q.ownBlock≠some b)→gm<base→gm≠go→gw<base→gw≠go→w.heap[gm]?=some (.cells #[.int .i64 m.sz,.slice Am m.cs.length cm,.slice Bm m.rs.length dm] 25 (0,0))→w.heap[gw]?=some (.cells #[.func (Fn.func 22) #[] #[.pointer (some ⟨gm,0,none⟩),.pointer (some ⟨gw,0,none⟩),.pointer (some ⟨go,0,none⟩)]] 61 (0,0))→WB w base go q rows→rows.length+(witF m (v) env).length≤1000000→Calls Tryd.prog 22 #[.agg cs.toArray,.slice De me ee,.pointer (some ⟨gm,0,none⟩),.pointer (some ⟨gw,0,none⟩),.pointer (some ⟨go,0,none⟩)] w fun e w'=>e=.returned (.tuple #[])∧∃q',WB w' base go q' (rows++witF m (v) env)∧LK w w' go q q' := by
  intro env cs w S De me ee q rows hlen ht he he0 hme hm hS hgb hgo hwb hwo hgm hgw hb hrl
  obtain ⟨A,n1,c1,B,n2,c2,rfl,_,_,_,_⟩ := Fm.shape ht
  obtain ⟨kd,hkd⟩:∃k,v.fm.lab.kind=k := ⟨_,rfl⟩
  obtain ⟨nm,hnm⟩:∃k,v.fm.lab.nm=k := ⟨_,rfl⟩
  rw [hkd,hnm] at ht
  rw [hkd] at hk9
  rw [hkd,hnm]
  go_enter Tryd.func22,Tryd.ntmps22
  refine wp_seq ?_
  refine wn_r0_wp (fun a0 h0=>?_) _ (by exact fR rfl rfl rfl)
  refine gen_last (fun wx=>wx.heap[w.heap.size]?=some (.cells #[.int .i64 kd,.string nm,.slice A n1 c1,.slice B n2 c2] 29 (0,0))∧Below w.heap.size w wx) ⟨heap_at (by simp),by go_grown⟩ ?_
  rintro wy ⟨hay,hby⟩
  have hbys := hby.size
  have hal := lt_heap hay
  have hhi := hb.hi
  have hlo := hb.lo
  have hky:∀k,S k→wy.heap[k]?=w.heap[k]? := fun k hk=>hby.block k (hS k hk).1
  have hSy:∀k,S k→k<wy.heap.size∧k≠go∧q.ownBlock≠some k := fun k hk=>⟨by have := (hS k hk).1; omega,(hS k hk).2⟩
  have hmy := (hby.block gm (by omega)).trans hgm
  have hwy := (hby.block gw (by omega)).trans hgw
  have hb0 := hb.below hby
  refine wp_seq ?_
  refine wp_seq ?_
  refine wn_r1_wp hay (fun a1 h1=>?_) a0 h0
  refine wp_cond_false ((h1.eval (k := 13) (v := .bool (decide (kd=9))) (by simp)).trans (by rw [decide_eq_false hk9])) ?_
  refine wp_skip ?_
  show Code.wp _ _ _ a1 wy
  refine wp_seq ?_
  have hv := value_any m hg v hok hrel env _ wy S De me ee hlen (fmRep.keep ht hky (fun _ h=>h)) (he.keep hky (fun _ h=>h)) he0 hme (hm.keep hky (fun _ h=>h)) (fun k hk=>(hSy k hk).1)
  refine wn_r7_wp hay hmy hv (fun a2 w2 h2 hb2=>?_) a1 (h1.pick [0,1,2,3,4])
  have hb2s := hb2.size
  have hb02 := hb0.below hb2
  have hlk2:LK w w2 go q q := (LK.below go q hby).trans (LK.below go q hb2)
  rw [hwt]
  rw [hwt] at hrl
  cases hev:evalF m v env
  · rw [hev] at h2
    refine wp_cond_false ((h2.eval (k := 41) (v := .bool false) (by simp)).trans (by rw [show false=false from rfl])) ?_
    refine wp_skip ?_
    refine wn_end h2.2.1 ⟨rfl,q,?_,hlk2⟩
    rw [if_neg (by simp),List.append_nil]
    exact hb02
  · rw [hev] at h2 hrl
    rw [if_pos rfl] at hrl ⊢
    refine wp_cond_true ((h2.eval (k := 41) (v := .bool true) (by simp)).trans (by rw [show true=true from rfl])) ?_
    refine wp_seq ?_
    refine wn_r8_wp (fun a3 h3=>?_) a2 (h2.pick [0,1,2,3,4])
    refine gen_last (fun wx=>wx.ownsRow w2.heap.size 3 1 (.slice (some ⟨w2.heap.size,0,none⟩) 0 0) 0 []∧Below w2.heap.size w2 wx∧w2.heap.size<wx.heap.size) ⟨ownsRow_made (heap_at rfl) (Nat.le_refl _),by go_grown,by simp⟩ ?_
    rintro w3 ⟨hr3,hb3,hz3⟩
    obtain ⟨_,_,_,eqd,hel,hem,hpos⟩ := id he
    simp only [Value.slice.injEq] at eqd
    obtain ⟨rfl,rfl,rfl⟩ := eqd
    refine wp_seq ?_
    refine wp_seq ?_
    refine wn_r9_wp (fun a4 h4=>?_) a3 h3
    refine wp_block ?_
    refine wp_loopR (fun g a' w'=>∃(j:Nat) (v':Value),j+g=env.length∧w'.ownsRow w2.heap.size 3 1 v' j (((env.take j).map Prod.snd).map (.int .i64))∧Below w2.heap.size w2 w'∧Frm 59 [(1,.slice De me ee),(2,.pointer (some ⟨gm,0,none⟩)),(3,.pointer (some ⟨gw,0,none⟩)),(4,.pointer (some ⟨go,0,none⟩)),(5,.pointer (some ⟨w.heap.size,0,none⟩)),(8,v'),(43,.slice De me ee),(44,.int .i64 (me:Nat)),(45,.int .i64 (j:Nat))] a') env.length ⟨0,_,by omega,hr3,hb3,h4⟩ ?_
    rintro g a5 w5 ⟨j,v5,hjg,hr5,hb5,h5⟩
    have hb5s := hb5.size
    refine wp_seq ?_
    refine wn_r10_wp (fun a6 h6=>?_) a5 h5
    refine wp_seq ?_
    by_cases hj:j<me
    case neg =>
      refine wp_cond_false ((h6.eval (k := 46) (v := .bool (decide (j<me))) (by simp)).trans (by rw [decide_eq_false hj])) ?_
      refine wp_exit ?_
      repeat refine then_exit ?_
      refine inBlock_exit ?_
      show Code.wp _ _ _ a6 w5
      obtain rfl:j=env.length := by omega
      obtain ⟨A8,c8,rfl,_⟩ := own_cap hr5
      rw [List.take_length] at hr5
      have hb05 := hb02.below hb5
      obtain ⟨A9,c9,rfl⟩ := hb05.row.len
      have hsl := sl_of_own (ρ := zRep) (l := env.map Prod.snd) (S := fun b=>(base≤b∧b<w5.heap.size)∧(Value.slice A9 rows.length c9).ownBlock≠some b) (xs := (env.map Prod.snd).map (.int .i64)) (v := .slice A8 env.length c8) (E := 3) (base := w2.heap.size) (w := w5) (by rw [List.length_map]; exact hr5) (zAllW _) (by rw [List.length_map]; unfold maxLen; omega) (fun k hk=>⟨⟨by have := (hr5.lt k hk).1; omega,(hr5.lt k hk).2⟩,fun e=>by have := (hb02.row.block k e).2; have := (hr5.lt k hk).1; omega⟩)
      refine wn_r14_wp rfl (by simp only [List.length_singleton] at hrl; omega) hb05 hsl (fun q' a7 w7 h7 hb7 hk7=>?_) a6 (h6.pick [0,1,2,3,4,5])
      exact wn_end h7.2.1 ⟨rfl,q',hb7,(hlk2.trans (LK.below _ _ hb5)).trans hk7⟩
    refine wp_cond_true ((h6.eval (k := 46) (v := .bool (decide (j<me))) (by simp)).trans (by rw [decide_eq_true hj])) ?_
    refine wp_skip ?_
    show Code.wp _ _ _ a6 w5
    have hjl:j<env.length := by omega
    have hk5:∀k,S k→w5.heap[k]?=w.heap[k]? := fun k hk=>(hb5.block k (by have := (hSy k hk).1; omega)).trans ((hb2.block k (hSy k hk).1).trans (hky k hk))
    obtain ⟨b,o,rfl,hSb,e0,e1⟩ := env_at (he.keep hk5 (fun _ h=>h)) hjl
    obtain ⟨A9,c9,rfl,_⟩ := own_cap hr5
    refine wp_seq ?_
    refine wp_block ?_
    refine wp_seq ?_
    have hbl5:b<w5.heap.size := by have := (hSy b hSb).1; omega
    refine wn_r11_wp hj e0 e1 hbl5 (fun a7 h7=>?_) a6 (h6.pick [0,1,2,3,4,5,6,7,8])
    refine gen_last (fun wx=>wx.heap[w5.heap.size]?=some (.cells #[.string env[j].1,.int .i64 env[j].2] 63 (0,0))∧Below w5.heap.size w5 wx) ⟨heap_at rfl,by go_grown⟩ ?_
    rintro w6 ⟨hx6,hb6⟩
    have hb6s := hb6.size
    have hr6:w6.ownsRow w2.heap.size 3 1 (.slice A9 j c9) j (((env.take j).map Prod.snd).map (.int .i64)) := rowGrownF hr5 (fun b h1 _=>hb6.block b h1)
    refine wn_r12_wp (by omega) hx6 hr6 (by omega) (fun v8 a8 w8 h8 hr8 hb8=>?_) a7 h7
    show Code.wp _ _ _ a8 w8
    refine wn_r13_wp (by omega) (fun a9 h9=>?_) a8 h8
    refine ⟨g - 1,by omega,j+1,v8,by omega,?_,(hb5.trans (hb6.mono hb5s)).trans hb8,h9⟩
    rw [List.take_succ_eq_append_getElem hjl,List.map_append,List.map_append]
    exact hr8
theorem wit_range {m:Md} {x:ByteArray} {f:Fv} {env:List (ByteArray × Int)}:witF m (.qu 9 x f) env=(List.range m.sz.toNat).flatMap (fun (z:Nat)=>witF m f (env++[(x,(z:Int))])) := by
  conv=>lhs; unfold witF
  rw [if_pos rfl,rangeV,List.flatMap_map]
theorem range_part {β:Type} (G:Nat→List β):∀{n i:Nat},i<n→((List.range i).flatMap G).length+(G i).length≤((List.range n).flatMap G).length
  | 0,i,h=>by omega
  | n+1,i,h=>by
    rw [List.range_succ,List.flatMap_append,List.length_append]
    have e:([n].flatMap G).length=(G n).length := by simp
    by_cases hi:i=n
    · subst hi; omega
    · have := range_part G (n := n) (i := i) (by omega); omega
theorem walk_qu (m:Md) (hg:m.good) {Am Bm:Option Addr} {cm dm gm gw go base:Nat} {x:ByteArray} {f:Fv} (hok:(Fv.qu 9 x f).ok) (hrel:hasRels m f=true) (ihf:Fv.ok f→hasRels m f=true→∀(env:List (ByteArray × Int)) (cs:List Value) (w:World) (S:Nat→Prop) (De:Option Addr) (me ee:Nat) (q:Value) (rows:List (List Int)),env.length+Fv.nodes (f)≤1000→fmRep.R w S (Fv.fm (f)) cs→envRep.Sl w S (.slice De me ee) env→(env=[]→De=none)→me≤ee→m.In w S [.int .i64 m.sz,.slice Am m.cs.length cm,.slice Bm m.rs.length dm]→(∀b,S b→b<w.heap.size∧b≠go∧q.ownBlock≠some b)→gm<base→gm≠go→gw<base→gw≠go→w.heap[gm]?=some (.cells #[.int .i64 m.sz,.slice Am m.cs.length cm,.slice Bm m.rs.length dm] 25 (0,0))→w.heap[gw]?=some (.cells #[.func (Fn.func 22) #[] #[.pointer (some ⟨gm,0,none⟩),.pointer (some ⟨gw,0,none⟩),.pointer (some ⟨go,0,none⟩)]] 61 (0,0))→WB w base go q rows→rows.length+(witF m (f) env).length≤1000000→Calls Tryd.prog 22 #[.agg cs.toArray,.slice De me ee,.pointer (some ⟨gm,0,none⟩),.pointer (some ⟨gw,0,none⟩),.pointer (some ⟨go,0,none⟩)] w fun e w'=>e=.returned (.tuple #[])∧∃q',WB w' base go q' (rows++witF m (f) env)∧LK w w' go q q'):∀(env:List (ByteArray × Int)) (cs:List Value) (w:World) (S:Nat→Prop) (De:Option Addr) (me ee:Nat) (q:Value) (rows:List (List Int)),env.length+Fv.nodes (.qu 9 x f)≤1000→fmRep.R w S (Fv.fm (.qu 9 x f)) cs→envRep.Sl w S (.slice De me ee) env→(env=[]→De=none)→me≤ee→m.In w S [.int .i64 m.sz,.slice Am m.cs.length cm,.slice Bm m.rs.length dm]→(∀b,S b→b<w.heap.size∧b≠go∧q.ownBlock≠some b)→gm<base→gm≠go→gw<base→gw≠go→w.heap[gm]?=some (.cells #[.int .i64 m.sz,.slice Am m.cs.length cm,.slice Bm m.rs.length dm] 25 (0,0))→w.heap[gw]?=some (.cells #[.func (Fn.func 22) #[] #[.pointer (some ⟨gm,0,none⟩),.pointer (some ⟨gw,0,none⟩),.pointer (some ⟨go,0,none⟩)]] 61 (0,0))→WB w base go q rows→rows.length+(witF m (.qu 9 x f) env).length≤1000000→Calls Tryd.prog 22 #[.agg cs.toArray,.slice De me ee,.pointer (some ⟨gm,0,none⟩),.pointer (some ⟨gw,0,none⟩),.pointer (some ⟨go,0,none⟩)] w fun e w'=>e=.returned (.tuple #[])∧∃q',WB w' base go q' (rows++witF m (.qu 9 x f) env)∧LK w w' go q q' := by
  intro env cs w S De me ee q rows hlen ht he he0 hme hm hS hgb hgo hwb hwo hgm hgw hb hrl
  rw [wit_range] at hrl ⊢
  change fmRep.R w S (.mk ⟨((9:Nat):Int),x,[]⟩ [f.fm]) cs at ht
  generalize hkd:(((9:Nat):Int):Int)=kd at ht
  obtain ⟨u,v9,rfl,hnm,hw,hl⟩ := Fm.open_ ht
  simp only at hw hnm
  obtain ⟨A,n1,c1,rfl,e1,hm1,_⟩ := id hw
  obtain ⟨B,n2,c2,rfl,e2,hm2,_⟩ := id hl
  have hlen':env.length+1+f.nodes≤1000 := by simp only [Fv.nodes] at hlen; omega
  go_enter Tryd.func22,Tryd.ntmps22
  refine wp_seq ?_
  refine wn_r0_wp (fun a0 h0=>?_) _ (by exact fR rfl rfl rfl)
  refine gen_last (fun wx=>wx.heap[w.heap.size]?=some (.cells #[.int .i64 kd,.string x,.slice A n1 c1,.slice B n2 c2] 29 (0,0))∧Below w.heap.size w wx) ⟨heap_at (by simp),by go_grown⟩ ?_
  rintro wy ⟨hay,hby⟩
  have hbys := hby.size
  have hal := lt_heap hay
  have hhi := hb.hi
  have hlo := hb.lo
  have hky:∀k,S k→wy.heap[k]?=w.heap[k]? := fun k hk=>hby.block k (hS k hk).1
  have hSy:∀k,S k→k<wy.heap.size∧k≠go∧q.ownBlock≠some k := fun k hk=>⟨by have := (hS k hk).1; omega,(hS k hk).2⟩
  have hmy := (hby.block gm (by omega)).trans hgm
  have hwy := (hby.block gw (by omega)).trans hgw
  have hb0 := hb.below hby
  refine wp_seq ?_
  refine wp_seq ?_
  refine wn_r1_wp hay (fun a1 h1=>?_) a0 h0
  have hk9:kd=9 := hkd.symm
  refine wp_cond_true ((h1.eval (k := 13) (v := .bool (decide (kd=9))) (by simp)).trans (by rw [decide_eq_true hk9])) ?_
  obtain rfl:n2=1 := by simpa using e2.symm
  obtain ⟨b,o,cs1,rfl,hSb,hr1,hcc1⟩ := Rep.Sl.at_ hl (k := 0) (a := f.fm) rfl
  obtain ⟨Ae,n3,c3,Be,n4,c4,rfl,_,_,_,_⟩ := Fm.shape hr1
  refine wp_seq ?_
  refine wp_seq ?_
  refine wn_r2_wp hmy (fun a2 h2=>?_) a1 (h1.pick [0,1,2,3,4])
  refine wp_block ?_
  have hsz := hg.sz
  refine wp_loopR (fun g a' w'=>∃(i:Nat) (q':Value),i+g=m.sz.toNat∧WB w' base go q' (rows++(List.range i).flatMap (fun (z:Nat)=>witF m f (env++[(x,(z:Int))])))∧LK wy w' go q q'∧Frm 59 [(1,.slice De me ee),(2,.pointer (some ⟨gm,0,none⟩)),(3,.pointer (some ⟨gw,0,none⟩)),(4,.pointer (some ⟨go,0,none⟩)),(5,.pointer (some ⟨w.heap.size,0,none⟩)),(15,.int .i64 m.sz),(16,.int .i64 (i:Nat))] a') m.sz.toNat ⟨0,q,by omega,by simpa using hb0,LK.refl _ _ _,h2⟩ ?_
  rintro g a3 w3 ⟨i,q3,hig,hb3,hk3,h3⟩
  have hk3s := hk3.size
  have hay3:w3.heap[w.heap.size]?=_ := (hk3.block _ hal (by omega) (fun e=>by have := (hb.row.block _ e).2; omega)).trans hay
  have hmy3:w3.heap[gm]?=_ := (hk3.block gm (by omega) hgo (hb.qq hgb)).trans hmy
  have hwy3:w3.heap[gw]?=_ := (hk3.block gw (by omega) hwo (hb.qq hwb)).trans hwy
  obtain ⟨hS3k,hS3⟩ := hk3.hit hSy
  have hkw3:∀k,S k→w3.heap[k]?=w.heap[k]? := fun k hk=>(hS3k k hk).trans (hky k hk)
  refine wp_seq ?_
  refine wn_r3_wp (fun a4 h4=>?_) a3 h3
  refine wp_seq ?_
  by_cases hi:(i:Int)<m.sz
  case neg =>
    refine wp_cond_false ((h4.eval (k := 17) (v := .bool (decide ((i:Int)<m.sz))) (by simp)).trans (by rw [decide_eq_false hi])) ?_
    refine wp_exit ?_
    repeat refine then_exit ?_
    refine inBlock_exit ?_
    refine wp_ret ?_
    repeat (first | refine thenR ?_ | refine inBlockR ?_)
    obtain rfl:i=m.sz.toNat := by omega
    exact wn_ret h4.2.1 ⟨rfl,q3,hb3,(LK.below go q hby).trans hk3⟩
  refine wp_cond_true ((h4.eval (k := 17) (v := .bool (decide ((i:Int)<m.sz))) (by simp)).trans (by rw [decide_eq_true hi])) ?_
  refine wp_skip ?_
  show Code.wp _ _ _ a4 w3
  have hpart := range_part (fun (z:Nat)=>witF m f (env++[(x,(z:Int))])) (n := m.sz.toNat) (i := i) (by omega)
  refine wp_seq ?_
  refine wp_block ?_
  refine wp_seq ?_
  refine wn_r4_wp (fun a5 h5=>?_) a4 (h4.pick [0,1,2,3,4,5,6])
  have e0_0:w3.cell? ⟨b,o,none⟩=_ := (cell_keep (hkw3 b hSb) _).trans (hcc1 0 _ rfl)
  have e0_1:w3.cell? ⟨b,o+1,none⟩=_ := (cell_keep (hkw3 b hSb) _).trans (hcc1 1 _ rfl)
  have e0_2:w3.cell? ⟨b,o+2,none⟩=_ := (cell_keep (hkw3 b hSb) _).trans (hcc1 2 _ rfl)
  have e0_3:w3.cell? ⟨b,o+3,none⟩=_ := (cell_keep (hkw3 b hSb) _).trans (hcc1 3 _ rfl)
  have hbl3:b<w3.heap.size := (hS3 b hSb).1
  have hih:∀(W:World) (v':Value),W.ownsRow (w3.heap.size+1) 63 2 v' (env.length+1) (envVals env++[.string x,.int .i64 (i:Nat)])→Below w3.heap.size w3 W→Calls Tryd.prog 22 #[.agg #[.int .i64 f.fm.lab.kind,.string f.fm.lab.nm,.slice Ae n3 c3,.slice Be n4 c4],v',.pointer (some ⟨gm,0,none⟩),.pointer (some ⟨gw,0,none⟩),.pointer (some ⟨go,0,none⟩)] W fun e w'=>e=.returned (.tuple #[])∧(∃q',WB w' base go q' (rows++(List.range i).flatMap (fun (z:Nat)=>witF m f (env++[(x,(z:Int))]))++witF m f (env++[(x,(i:Int))]))∧LK w3 w' go q3 q')∧(∀k o',(k=gw∨k=w.heap.size∨k=b)→w'.cell? ⟨k,o',none⟩=w3.cell? ⟨k,o',none⟩) := by
    intro W v' hown hbW
    have hbWs := hbW.size
    obtain ⟨A9,c9,rfl,hcap⟩ := own_cap hown
    have hbW3 := hb3.below hbW
    have hq3:∀k,w3.heap.size≤k→q3.ownBlock≠some k := fun k hk e=>by have := (hb3.row.block k e).2; omega
    have hS':∀k,(S k∨(w3.heap.size≤k∧k<W.heap.size))→k<W.heap.size∧k≠go∧q3.ownBlock≠some k := fun k hk=>hk.elim (fun h=>⟨by have := (hS3 k h).1; omega,(hS3 k h).2⟩) (fun h=>⟨h.2,by have := hb3.lo; have := hb3.hi; omega,hq3 k h.1⟩)
    have hkW:∀k,S k→W.heap[k]?=w.heap[k]? := fun k hk=>(hbW.block k (hS3 k hk).1).trans (hkw3 k hk)
    have hsl:envRep.Sl W (fun k=>S k∨(w3.heap.size≤k∧k<W.heap.size)) (.slice A9 (env.length+1) c9) (env++[(x,(i:Int))]) := by
      have h9 := sl_of_own (ρ := envRep) (l := env++[(x,(i:Int))]) (S := fun k=>S k∨(w3.heap.size≤k∧k<W.heap.size)) (xs := envVals (env++[(x,(i:Int))])) (v := .slice A9 (env.length+1) c9) (E := 63) (base := w3.heap.size+1) (w := W) (by rw [envVals_snoc,List.length_append]; exact hown) (envAll _) (by rw [List.length_append]; unfold maxLen; simp only [List.length_singleton]; omega) (fun k hk=>Or.inr ⟨by have := (hown.lt k hk).1; omega,(hown.lt k hk).2⟩)
      exact h9
    refine (ihf hok.2.2 hrel (env++[(x,(i:Int))]) _ W (fun k=>S k∨(w3.heap.size≤k∧k<W.heap.size)) _ _ _ q3 _ (by rw [List.length_append,List.length_singleton]; omega) (fmRep.keep hr1 hkW (fun _ h=>Or.inl h)) hsl (fun h=>by simp at h) hcap (hm.keep hkW (fun _ h=>Or.inl h)) hS' hgb hgo hwb hwo ((hbW.block gm (by omega)).trans hmy3) ((hbW.block gw (by omega)).trans hwy3) hbW3 (by rw [List.length_append]; omega)).mono (fun e w' h=>⟨h.1,?_,?_⟩)
    · obtain ⟨q',h1,h2⟩ := h.2
      exact ⟨q',h1,(LK.below go q3 hbW).trans h2⟩
    · obtain ⟨q',h1,h2⟩ := h.2
      intro k o' hk
      have hkl:k<w3.heap.size∧k≠go∧q3.ownBlock≠some k := by
        rcases hk with rfl | rfl | rfl
        · exact ⟨by omega,hwo,hb3.qq hwb⟩
        · exact ⟨by omega,by omega,fun e=>by
            rcases hk3.at_ _ e with e | e
            · have := (hb.row.block _ e).2; omega
            · omega⟩
        · exact hS3 _ hSb
      exact cell_keep ((h2.block k (by omega) hkl.2.1 hkl.2.2).trans (hbW.block k hkl.1)) _
  show Code.wp _ _ _ a5 w3
  refine wp_thenQ ?_
  refine wp_via (fun a9 w9=>Frm 59 [(1,.slice De me ee),(2,.pointer (some ⟨gm,0,none⟩)),(3,.pointer (some ⟨gw,0,none⟩)),(4,.pointer (some ⟨go,0,none⟩)),(5,.pointer (some ⟨w.heap.size,0,none⟩)),(15,.int .i64 m.sz),(16,.int .i64 (i:Nat))] a9∧∃q',WB w9 base go q' (rows++(List.range i).flatMap (fun (z:Nat)=>witF m f (env++[(x,(z:Int))]))++witF m f (env++[(x,(i:Int))]))∧LK w3 w9 go q3 q') ?_ (fun hK=>?_)
  · rintro a14 w4 ⟨h14,q4,hb4,hk4⟩
    show Code.wp _ _ _ a14 w4
    refine wn_r6_wp (by omega) (fun a15 h15=>?_) a14 h14
    refine ⟨g - 1,by omega,i+1,q4,by omega,?_,hk3.trans hk4,h15⟩
    rw [List.range_succ,List.flatMap_append,← List.append_assoc]
    simpa using hb4
  · obtain ⟨De',me',ee',eqd,hel,_,hpos⟩ := id he
    simp only [Value.slice.injEq] at eqd
    obtain ⟨rfl,rfl,rfl⟩ := eqd
    by_cases hz:env=[]
    · have hD := he0 hz
      subst hz
      subst hD
      obtain rfl:me=0 := by simpa using hel.symm
      exact wn_r5n_wp hay3 e0_0 e0_1 e0_2 e0_3 hbl3 hwy3 hih (fun a14 w4 h14 hb4=>hK _ _ ⟨h14,hb4⟩) a5 h5
    · have hp:0<me := by
        rcases Nat.eq_zero_or_pos me with h | h
        · exact absurd (List.length_eq_zero_iff.1 (by omega)) hz
        · exact h
      obtain ⟨b2,o2,xs,rfl,hSb2,hxs,hcell⟩ := hpos hp
      obtain rfl := envAll_eq hxs
      rw [hel] at hih
      exact wn_r5_wp hay3 hel (by omega) hme (hS3 b2 hSb2).1 (fun j u hu=>(cell_keep (hkw3 b2 hSb2) _).trans (hcell j u hu)) e0_0 e0_1 e0_2 e0_3 hbl3 hwy3 hih (fun a14 w4 h14 hb4=>hK _ _ ⟨h14,hb4⟩) a5 h5
theorem walk_any (m:Md) (hg:m.good) {Am Bm:Option Addr} {cm dm gm gw go base:Nat}:∀v:Fv,v.ok→hasRels m v=true→∀(env:List (ByteArray × Int)) (cs:List Value) (w:World) (S:Nat→Prop) (De:Option Addr) (me ee:Nat) (q:Value) (rows:List (List Int)),env.length+Fv.nodes (v)≤1000→fmRep.R w S (Fv.fm (v)) cs→envRep.Sl w S (.slice De me ee) env→(env=[]→De=none)→me≤ee→m.In w S [.int .i64 m.sz,.slice Am m.cs.length cm,.slice Bm m.rs.length dm]→(∀b,S b→b<w.heap.size∧b≠go∧q.ownBlock≠some b)→gm<base→gm≠go→gw<base→gw≠go→w.heap[gm]?=some (.cells #[.int .i64 m.sz,.slice Am m.cs.length cm,.slice Bm m.rs.length dm] 25 (0,0))→w.heap[gw]?=some (.cells #[.func (Fn.func 22) #[] #[.pointer (some ⟨gm,0,none⟩),.pointer (some ⟨gw,0,none⟩),.pointer (some ⟨go,0,none⟩)]] 61 (0,0))→WB w base go q rows→rows.length+(witF m (v) env).length≤1000000→Calls Tryd.prog 22 #[.agg cs.toArray,.slice De me ee,.pointer (some ⟨gm,0,none⟩),.pointer (some ⟨gw,0,none⟩),.pointer (some ⟨go,0,none⟩)] w fun e w'=>e=.returned (.tuple #[])∧∃q',WB w' base go q' (rows++witF m (v) env)∧LK w w' go q q'
  | .tru,h,hr=>walk_leaf m hg _ h hr (show (1:Int)≠9 by decide) (fun _=>by unfold witF; rfl)
  | .pred _ _,h,hr=>walk_leaf m hg _ h hr (show (2:Int)≠9 by decide) (fun _=>by unfold witF; rfl)
  | .same _ _,h,hr=>walk_leaf m hg _ h hr (show (3:Int)≠9 by decide) (fun _=>by unfold witF; rfl)
  | .neg f,h,hr=>walk_leaf m hg _ h hr (show (4:Int)≠9 by decide) (fun _=>by unfold witF; rfl)
  | .bin k f g,h,hr=>walk_leaf m hg _ h hr (by have := h.1; simp only [Fv.fm]; show (k:Int)≠9; omega) (fun _=>by unfold witF; rfl)
  | .qu k x f,h,hr=>by
    by_cases hk:k=9
    · subst hk
      exact walk_qu m hg h hr (walk_any m hg f)
    · exact walk_leaf m hg _ h hr (by simp only [Fv.fm]; show (k:Int)≠9; omega) (fun _=>by conv=>lhs; unfold witF
                                                                                                 rw [if_neg hk])
end
noncomputable section
set_option maxRecDepth 1000000
set_option maxHeartbeats 16000000
variable {Q:Exit→Act→World→Prop} {Am Bm A B:Option Addr} {nm1 cm nm2 dm n1 c1 n2 c2 gb gx go gw:Nat} {wo w:World} {kd j:Int} {nm:ByteArray} {s_5 s_2 s_3 s_8:Value} {m:Md} {t:Fm}

theorem frame_wt {P:Act→Prop} (h:∀x0 x1 x2 x3 x4 x5 x6 x7 x8 x9 x10 x11 x12 x13 x14 x15 x16 x17 x18 x19 x20 x21 x22 x23 x24 x25:Value,P ⟨(x0 :: x1 :: x2 :: x3 :: x4 :: x5 :: x6 :: x7 :: x8 :: x9 :: x10 :: x11 :: x12 :: x13 :: x14 :: x15 :: x16 :: x17 :: x18 :: x19 :: x20 :: x21 :: x22 :: x23 :: x24 :: x25 :: []).toArray,[]⟩):∀a:Act,a.tmps.toList.length=26→a.defers=[]→P a := by
  rintro ⟨⟨l⟩,d⟩ hs hd
  simp only at hd
  subst hd
  revert l
  show ∀l:List Value,l.length=26→P ⟨⟨l⟩,[]⟩
  iterate 26 refine openS (fun _=>?_)
  refine open0 ?_
  exact h ..
noncomputable def cF6:Code := Tryd.f6.body.getD .skip
def c_wt_r0 := sp 99 2 cF6
theorem wt_r0_wp {z:Int} (hN:∀a',Frm 26 [(2,.pointer (some ⟨wo.heap.size,0,none⟩)),(3,.pointer (some ⟨(wo.heap.size+1),0,none⟩)),(5,.pointer (some ⟨(wo.heap.size+1+1),0,none⟩))] a'→Q .normal a' (((wo.alloc (.cells #[.int .i64 z,.slice Am nm1 cm,.slice Bm nm2 dm] 25)).alloc (.cells #[.int .i64 kd,.string nm,.slice A n1 c1,.slice B n2 c2] 29)).alloc (.cells #[.int .i64 0,.int .i64 0] 32))):∀ac,Frm 26 [(0,.agg #[.int .i64 z,.slice Am nm1 cm,.slice Bm nm2 dm]),(1,.agg #[.int .i64 kd,.string nm,.slice A n1 c1,.slice B n2 c2])] ac→Code.wp Tryd.prog c_wt_r0 Q ac wo := by
  refine fO (frame_wt ?_)
  intros
  rename_i hq
  iterate 2 (obtain ⟨e,hq⟩ := hq; obtain rfl := sI e; clear e)
  clear hq
  conv=>arg 2; whnf
  replace hN := Lib.hid hN
  go_wp2_with fail
  exact hN.out _ (by exact fR rfl rfl rfl)
def c_wt_r1 := sp 99 9 cF6
theorem wt_r1_wp {c:Int} {z:Int} (hgm:w.heap[wo.heap.size]?=some (.cells #[.int .i64 z,.slice Am nm1 cm,.slice Bm nm2 dm] 25 (0,0))) (ha:w.heap[wo.heap.size+1]?=some (.cells #[.int .i64 kd,.string nm,.slice A n1 c1,.slice B n2 c2] 29 (0,0))) (hc:Calls Tryd.prog 13 #[.agg #[.int .i64 z,.slice Am nm1 cm,.slice Bm nm2 dm],.agg #[.int .i64 kd,.string nm,.slice A n1 c1,.slice B n2 c2]] w fun e w'=>∃b,e=.returned (.tuple #[.bool b,.agg #[.int .i64 c,.int .i64 j]])∧Below w.heap.size w w') (hN:∀ge a' w',Frm 26 [(2,.pointer (some ⟨wo.heap.size,0,none⟩)),(3,.pointer (some ⟨(wo.heap.size+1),0,none⟩)),(5,s_5),(7,.pointer (some ⟨ge,0,none⟩))] a'→w.heap.size≤ge→w'.heap[ge]?=some (.cells #[.int .i64 c,.int .i64 j] 32 (0,0))→Below w.heap.size w w'→Q .normal a' w'):∀ac,Frm 26 [(2,.pointer (some ⟨wo.heap.size,0,none⟩)),(3,.pointer (some ⟨(wo.heap.size+1),0,none⟩)),(5,s_5)] ac→Code.wp Tryd.prog c_wt_r1 Q ac w := by
  refine fO (frame_wt ?_)
  intros
  rename_i hq
  iterate 3 (obtain ⟨e,hq⟩ := hq; obtain rfl := sI e; clear e)
  clear hq
  conv=>arg 2; whnf
  have m0 := cellv hgm 0 rfl
  have m1 := cellv hgm 1 rfl
  have m2 := cellv hgm 2 rfl
  have ml := lt_heap hgm
  clear hgm
  have a0 := cellv ha 0 rfl
  have a1 := cellv ha 1 rfl
  have a2 := cellv ha 2 rfl
  have a3 := cellv ha 3 rfl
  have al := lt_heap ha
  clear ha
  have HN := Lib.hid hN
  have HC := Lib.hid hc
  clear hN hc
  go_wp2_with fail
  (with_reducible refine HC.out.mono ?_)
  rintro e w1 ⟨bb,rfl,hb1⟩
  replace hb1 := Lib.hid hb1
  go_wp2_with fail
  have hz := hb1.out.size
  exact HN.out w1.heap.size _ _ (by exact fR rfl rfl rfl) hz (heap_at rfl) (hb1.out.alloc hz _)
def c_wt_r2 := sp 99 21 cF6
theorem wt_r2_wp {c:Int} (hb:w.heap[gb]?=some (.cells #[.int .i64 c,.int .i64 j] 32 (0,0))) (hN:∀a',Frm 26 [(2,s_2),(3,s_3),(5,s_5),(7,.pointer (some ⟨gb,0,none⟩)),(18,.bool (decide (c≠0)))] a'→Q .normal a' w):∀ac,Frm 26 [(2,s_2),(3,s_3),(5,s_5),(7,.pointer (some ⟨gb,0,none⟩))] ac→Code.wp Tryd.prog c_wt_r2 Q ac w := by
  refine fO (frame_wt ?_)
  intros
  rename_i hq
  iterate 4 (obtain ⟨e,hq⟩ := hq; obtain rfl := sI e; clear e)
  clear hq
  conv=>arg 2; whnf
  have b0 := cellv hb 0 rfl
  have bl := lt_heap hb
  clear hb
  by_cases h:c≠0
  · have t0 := h
    have t1:(c != 0)=true := by first | exact bne_iff_ne.2 (by omega) | exact bne_eq_false_iff_eq.2 (by omega)
    rw [show decide (c≠0)=true from by simpa using h] at hN
    clear h
    replace hN := Lib.hid hN
    go_wp2_with fail
    exact hN.out _ (by exact fR rfl rfl rfl)
  · have t0 := h
    have t1:(c != 0)=false := by first | exact bne_iff_ne.2 (by omega) | exact bne_eq_false_iff_eq.2 (by omega)
    rw [show decide (c≠0)=false from by simpa using h] at hN
    clear h
    replace hN := Lib.hid hN
    go_wp2_with fail
    exact hN.out _ (by exact fR rfl rfl rfl)
def c_wt_r3 := sp 99 77 cF6
theorem wt_r3_wp {K:Act→World→Prop} {c:Int} (hbx2:gb≠gx) (hbx:w.heap[gb]?=some (.cells #[.int .i64 c,.int .i64 j] 32 (0,0))) (hx:w.heap[gx]?=some (.cells #[.int .i64 0,.int .i64 0] 32 (0,0))) (hN:∀a' w',Frm 26 [(4,.slice none 0 0),(5,.pointer (some ⟨gx,0,none⟩))] a'→w'.heap[gx]?=some (.cells #[.int .i64 c,.int .i64 j] 32 (0,0))→Keeps (fun k=>k=gx) w w'→K a' w'):∀ac,Frm 26 [(5,.pointer (some ⟨gx,0,none⟩)),(7,.pointer (some ⟨gb,0,none⟩))] ac→Code.wp Tryd.prog c_wt_r3 (Exit.then K (fun _ _ _=>False)) ac w := by
  refine fO (frame_wt ?_)
  intros
  rename_i hq
  iterate 2 (obtain ⟨e,hq⟩ := hq; obtain rfl := sI e; clear e)
  clear hq
  conv=>arg 2; whnf
  have b0 := cellv hbx 0 rfl
  have b1 := cellv hbx 1 rfl
  have bl := lt_heap hbx
  have x0 := cellv hx 0 rfl
  have x1 := cellv hx 1 rfl
  have xf0 := free_heap hx 0
  have xf1 := free_heap hx 1
  have xl := lt_heap hx
  have HX := Lib.hid hx
  clear hbx hx
  replace hN := Lib.hid hN
  go_region
  all_goals go_wp2_with fail
  all_goals exact hN.out _ _ (id ⟨rfl,rfl,rfl,rfl,trivial⟩) (heap_drew (at2 HX.out)) (Keeps.drew keeps2G)
def c_wt_r4 := sp 99 11 cF6
theorem wt_r4_wp (hN:∀a',Frm 26 [(2,s_2),(3,s_3),(5,s_5),(8,.pointer (some ⟨w.heap.size,0,none⟩))] a'→Q .normal a' (w.alloc (.cells #[.slice none 0 0] 30))):∀ac,Frm 26 [(2,s_2),(3,s_3),(5,s_5)] ac→Code.wp Tryd.prog c_wt_r4 Q ac w := by
  refine fO (frame_wt ?_)
  intros
  rename_i hq
  iterate 3 (obtain ⟨e,hq⟩ := hq; obtain rfl := sI e; clear e)
  clear hq
  conv=>arg 2; whnf
  replace hN := Lib.hid hN
  go_wp2_with fail
  exact hN.out _ (by exact fR rfl rfl rfl)
def c_wt_r5 := sp 99 23 cF6
theorem wt_r5_wp (hN:∀z a',Frm 26 [(2,s_2),(3,s_3),(5,s_5),(8,s_8),(9,.pointer (some ⟨w.heap.size,0,none⟩))] a'→Q .normal a' (w.alloc (.cells #[z] 61))):∀ac,Frm 26 [(2,s_2),(3,s_3),(5,s_5),(8,s_8)] ac→Code.wp Tryd.prog c_wt_r5 Q ac w := by
  refine fO (frame_wt ?_)
  intros
  rename_i hq
  iterate 4 (obtain ⟨e,hq⟩ := hq; obtain rfl := sI e; clear e)
  clear hq
  conv=>arg 2; whnf
  replace hN := Lib.hid hN
  go_wp2_with fail
  exact hN.out _ _ (by exact fR rfl rfl rfl)
def c_wt_r6 := sp 99 47 cF6
theorem wt_r6_wp {z:Value} (hx:w.heap[gw]?=some (.cells #[z] 61 (0,0))) (hN:∀a' w',Frm 26 [(2,.pointer (some ⟨wo.heap.size,0,none⟩)),(3,s_3),(5,s_5),(8,.pointer (some ⟨go,0,none⟩)),(9,.pointer (some ⟨gw,0,none⟩))] a'→w'.heap[gw]?=some (.cells #[.func (Fn.func 22) #[] #[.pointer (some ⟨wo.heap.size,0,none⟩),.pointer (some ⟨gw,0,none⟩),.pointer (some ⟨go,0,none⟩)]] 61 (0,0))→Keeps (fun k=>k=gw) w w'→Q .normal a' w'):∀ac,Frm 26 [(2,.pointer (some ⟨wo.heap.size,0,none⟩)),(3,s_3),(5,s_5),(8,.pointer (some ⟨go,0,none⟩)),(9,.pointer (some ⟨gw,0,none⟩))] ac→Code.wp Tryd.prog c_wt_r6 Q ac w := by
  refine fO (frame_wt ?_)
  intros
  rename_i hq
  iterate 5 (obtain ⟨e,hq⟩ := hq; obtain rfl := sI e; clear e)
  clear hq
  conv=>arg 2; whnf
  have x0 := cellv hx 0 rfl
  have xf0 := free_heap hx 0
  have xl := lt_heap hx
  replace hx := Lib.hid hx
  replace hN := Lib.hid hN
  go_wp2_with fail
  exact hN.out _ _ (by exact fR rfl rfl rfl) (by simpa using heap_set hx.out 0 _) (Keeps.set (P := fun k=>k=gw) (Keeps.refl (fun k=>k=gw) w) (Or.inl rfl) 0 _)
def c_wt_r7 := sp 99 95 cF6
theorem wt_r7_wp {PX:World→Prop} (ha:w.heap[wo.heap.size+1]?=some (.cells #[.int .i64 kd,.string nm,.slice A n1 c1,.slice B n2 c2] 29 (0,0))) (hf:w.heap[gw]?=some (.cells #[.func (Fn.func 22) #[] #[.pointer (some ⟨wo.heap.size,0,none⟩),.pointer (some ⟨gw,0,none⟩),.pointer (some ⟨go,0,none⟩)]] 61 (0,0))) (hc:Calls Tryd.prog 22 #[.agg #[.int .i64 kd,.string nm,.slice A n1 c1,.slice B n2 c2],.slice none 0 0,.pointer (some ⟨wo.heap.size,0,none⟩),.pointer (some ⟨gw,0,none⟩),.pointer (some ⟨go,0,none⟩)] w fun e w'=>e=.returned (.tuple #[])∧PX w') (hN:∀a' w',Frm 26 [(2,s_2),(3,.pointer (some ⟨(wo.heap.size+1),0,none⟩)),(5,s_5),(8,s_8)] a'→PX w'→Q .normal a' w'):∀ac,Frm 26 [(2,s_2),(3,.pointer (some ⟨(wo.heap.size+1),0,none⟩)),(5,s_5),(8,s_8),(9,.pointer (some ⟨gw,0,none⟩))] ac→Code.wp Tryd.prog c_wt_r7 Q ac w := by
  refine fO (frame_wt ?_)
  intros
  rename_i hq
  iterate 5 (obtain ⟨e,hq⟩ := hq; obtain rfl := sI e; clear e)
  clear hq
  conv=>arg 2; whnf
  have a0 := cellv ha 0 rfl
  have a1 := cellv ha 1 rfl
  have a2 := cellv ha 2 rfl
  have a3 := cellv ha 3 rfl
  have al := lt_heap ha
  clear ha
  have f0 := cellv hf 0 rfl
  have fl := lt_heap hf
  clear hf
  have HN := Lib.hid hN
  have HC := Lib.hid hc
  clear hN hc
  go_wp2_with fail
  (with_reducible refine HC.out.mono ?_)
  rintro e w1 ⟨rfl,hb1⟩
  replace hb1 := Lib.hid hb1
  go_wp2_with fail
  exact HN.out _ _ (by exact fR rfl rfl rfl) hb1.out
def c_wt_r8 := sp 99 191 cF6
theorem wt_r8_wp {q:Value} (hgo:w.heap[go]?=some (.cells #[q] 30 (0,0))) (hx:w.heap[wo.heap.size+1+1]?=some (.cells #[.int .i64 0,.int .i64 0] 32 (0,0))) (hN:∀a' w',Frm 26 [(4,q),(5,.pointer (some ⟨(wo.heap.size+1+1),0,none⟩))] a'→w'.heap[wo.heap.size+1+1]?=some (.cells #[.int .i64 0,.int .i64 0] 32 (0,0))→Keeps (fun k=>k=wo.heap.size+1+1) w w'→Q .normal a' w'):∀ac,Frm 26 [(2,s_2),(3,s_3),(5,.pointer (some ⟨(wo.heap.size+1+1),0,none⟩)),(8,.pointer (some ⟨go,0,none⟩))] ac→Code.wp Tryd.prog c_wt_r8 Q ac w := by
  refine fO (frame_wt ?_)
  intros
  rename_i hq
  iterate 4 (obtain ⟨e,hq⟩ := hq; obtain rfl := sI e; clear e)
  clear hq
  conv=>arg 2; whnf
  have g0 := cellv hgo 0 rfl
  have gl := lt_heap hgo
  clear hgo
  have x0 := cellv hx 0 rfl
  have x1 := cellv hx 1 rfl
  have xf0 := free_heap hx 0
  have xf1 := free_heap hx 1
  have xl := lt_heap hx
  replace hx := Lib.hid hx
  replace hN := Lib.hid hN
  go_wp2_with fail
  exact hN.out _ _ (id ⟨rfl,rfl,rfl,rfl,trivial⟩) (at2 hx.out) keeps2G
theorem wt_ret_wp {R:Ending→World→Prop} {w':World} {c:Int} {vv:Value} (hx:w'.heap[gx]?=some (.cells #[.int .i64 c,.int .i64 j] 32 (0,0))) (hR:R (.returned (.tuple #[vv,.agg #[.int .i64 c,.int .i64 j]])) w'):∀ac,Frm 26 [(4,vv),(5,.pointer (some ⟨gx,0,none⟩))] ac→bodyPost Tryd.prog Tryd.f6 R .ret ac w' := by
  refine fO (frame_wt ?_)
  intros
  rename_i hq
  iterate 2 (obtain ⟨e,hq⟩ := hq; obtain rfl := sI e; clear e)
  clear hq
  have x0 := cellv hx 0 rfl
  have x1 := cellv hx 1 rfl
  have xl := lt_heap hx
  refine bodyPost_ret (v := .tuple #[vv,.agg #[.int .i64 c,.int .i64 j]]) (by simp [results,Tryd.results6,go_sem,x0,x1,xl]) rfl ?_
  exact hR
theorem holds_zero (h:(holdsC m t).1=0):m.good∧∃v:Fv,t=v.fm∧v.ok∧v.nodes≤200∧v.depth≤40∧nestF v≤5∧hasRels m v=true := by
  unfold holdsC at h
  split at h
  · exfalso; simp only at h; omega
  rename_i h1
  split at h
  · exfalso; simp only at h; omega
  rename_i h2
  obtain ⟨v,rfl,ov,nv,dv,_⟩ := fault_ok9 (by omega:(fmFault t).1=0)
  obtain ⟨_,hn,_,hr⟩ := pairT_zero h
  exact ⟨Md.good_of (by omega),v,rfl,ov,nv,dv,by rw [← nestT_fm v ov]; exact hn,by rw [← hasT_fm m v ov]; exact hr⟩
theorem holds_zero2 (h:(holdsC m t).1=0):holdsC m t=(0,0) := by
  unfold holdsC at h ⊢
  split at h
  · exfalso; simp only at h; omega
  rename_i h1
  split at h
  · exfalso; simp only at h; omega
  rename_i h2
  rw [if_neg h1,if_neg h2]
  exact (pairT_zero h).1
theorem flat_le {β:Type} {G:Int→List β} {c:Nat}:∀{l:List Int},(∀z,(G z).length≤c)→(l.flatMap G).length≤l.length * c
  | [],_=>by simp
  | z :: l,h=>by
    have := flat_le (l := l) h
    have := h z
    simp only [List.flatMap_cons,List.length_append,List.length_cons,Nat.add_mul,Nat.one_mul]; omega
theorem wit_len (hz:m.sz.toNat≤6):∀(v:Fv) (e:List (ByteArray × Int)),(witF m v e).length≤6 ^ nestF v
  | .tru,e=>by unfold witF; split <;> simp [nestF]
  | .pred _ _,e=>by unfold witF; split <;> simp [nestF]
  | .same _ _,e=>by unfold witF; split <;> simp [nestF]
  | .neg f,e=>by
    have := Nat.one_le_pow (nestF f) 6 (by omega)
    unfold witF; split <;> simp [nestF]; omega
  | .bin _ f g,e=>by
    have := Nat.one_le_pow (max (nestF f) (nestF g)) 6 (by omega)
    unfold witF; split <;> simp [nestF]; omega
  | .qu k x f,e=>by
    have h1 := Nat.one_le_pow (nestF f+1) 6 (by omega)
    unfold witF
    split
    · have h := flat_le (G := fun z=>witF m f (e++[(x,z)])) (c := 6 ^ nestF f) (l := rangeV m) (fun z=>wit_len hz f _)
      have hl:(rangeV m).length=m.sz.toNat := by simp [rangeV]
      rw [hl] at h
      have h2:m.sz.toNat * 6 ^ nestF f≤6 * 6 ^ nestF f := Nat.mul_le_mul_right _ hz
      have h3:6 ^ (nestF f+1)=6 * 6 ^ nestF f := by rw [Nat.pow_succ,Nat.mul_comm]
      have e9:nestF (.qu k x f)=nestF f+1 := by simp [nestF]
      rw [e9]; omega
    · have e9:nestF (.qu k x f)=nestF f+1 := by simp [nestF]
      rw [e9]
      split
      · simpa using h1
      · simp
theorem witnesses_any (m:Md) (t:Fm) (ms cs:List Value) (w:World) (S:Nat→Prop) (ht:fmRep.R w S t cs) (hm:m.In w S ms) (hS:∀b,S b→b<w.heap.size) :
    Calls Tryd.prog 6 #[.agg ms.toArray,.agg cs.toArray] w fun e w'=>∃q,e=.returned (.tuple #[q,.agg #[.int .i64 (holdsC m t).1,.int .i64 (holdsC m t).2]])∧((holdsC m t).1≠0→q=.slice none 0 0)∧((holdsC m t).1=0→∃v:Fv,t=v.fm∧v.ok∧v.nodes≤200∧v.depth≤40∧∃base,w.heap.size≤base∧intsRep.Own 39 base w' (fun b=>base≤b∧b<w'.heap.size) q (witF m v []))∧Below w.heap.size w w' := by
  obtain ⟨A,n1,c1,B,n2,c2,rfl,_,_,_,_⟩ := Fm.shape ht
  obtain ⟨Am,cm,Bm,dm,rfl,_,_,_,_⟩ := Md.shape hm
  obtain ⟨kd,hkd⟩:∃k,t.lab.kind=k := ⟨_,rfl⟩
  obtain ⟨nm,hnm⟩:∃k,t.lab.nm=k := ⟨_,rfl⟩
  rw [hkd,hnm] at ht ⊢
  go_enter Tryd.func6,Tryd.ntmps6
  refine wp_seq ?_
  refine wt_r0_wp (fun a0 h0=>?_) _ (id ⟨rfl,rfl,rfl,rfl,trivial⟩)
  refine gen_last (fun wx=>wx.heap[w.heap.size]?=some (.cells #[.int .i64 m.sz,.slice Am m.cs.length cm,.slice Bm m.rs.length dm] 25 (0,0))∧wx.heap[w.heap.size+1]?=some (.cells #[.int .i64 kd,.string nm,.slice A n1 c1,.slice B n2 c2] 29 (0,0))∧wx.heap[w.heap.size+1+1]?=some (.cells #[.int .i64 0,.int .i64 0] 32 (0,0))∧Below w.heap.size w wx) ⟨heap_old (by simp; omega) (heap_old (by simp) (heap_at rfl)),heap_old (by simp) (heap_at (by simp)),heap_at (by simp),by go_grown⟩ ?_
  rintro wy ⟨hmy,hay,hey,hby⟩
  have hbys := hby.size
  have hgyl := lt_heap hey
  have hkeep:∀W:World,Below w.heap.size w W→∀k,S k→W.heap[k]?=w.heap[k]? := fun W hb k hk=>hb.block k (hS k hk)
  have hlt:∀W:World,Below w.heap.size w W→∀k,S k→k<W.heap.size := fun W hb k hk=>by have := hS k hk; have := hb.size; omega
  refine wp_seq ?_
  refine wp_seq ?_
  have hv1 := holds_any m t _ [.int .i64 kd,.string nm,.slice A n1 c1,.slice B n2 c2] wy S (fmRep.keep ht (hkeep wy hby) (fun _ h=>h)) (hm.keep (hkeep wy hby) (fun _ h=>h)) (hlt wy hby)
  refine wt_r1_wp hmy hay (hv1.mono (fun e w' h=>by obtain ⟨b,h1,_,_,h4⟩ := h; exact ⟨b,h1,h4⟩)) (fun g1 a1 w1 h1 hg1 hge1 hb1=>?_) a0 h0
  have hb1s := hb1.size
  have hx1 := (hb1.block _ (lt_heap hey)).trans hey
  have hb01 := hby.trans (hb1.mono hbys)
  refine wp_seq ?_
  refine wt_r2_wp hge1 (fun a2 h2=>?_) a1 h1
  by_cases hf1:(holdsC m t).1≠0
  · refine wp_cond_true ((h2.eval (k := 18) (v := .bool (decide ((holdsC m t).1≠0))) (by simp)).trans (by rw [decide_eq_true hf1])) ?_
    refine wp_seq ?_
    refine wp_thenQ (wt_r3_wp (by omega) hge1 hx1 (fun a20 w20 h20 hx20 hk20=>?_) a2 (h2.pick [2,3]))
    refine wp_ret ?_
    repeat (first | refine thenR ?_ | refine inBlockR ?_)
    exact wt_ret_wp hx20 ⟨_,rfl,fun _=>rfl,fun h0=>absurd h0 hf1,hb01.trans (Keeps.below (B := w.heap.size) hk20 (fun k e=>by have e:k=w.heap.size+1+1 := e; omega) (by have := hb01.size; omega))⟩ a20 h20
  refine wp_cond_false ((h2.eval (k := 18) (v := .bool (decide ((holdsC m t).1≠0))) (by simp)).trans (by rw [decide_eq_false hf1])) ?_
  refine wp_skip ?_
  show Code.wp _ _ _ a2 w1
  have hh0:(holdsC m t).1=0 := by omega
  obtain ⟨hg,v,rfl,ov,nv,dv,hn5,hrel⟩ := holds_zero hh0
  have hay1 := (hb1.block _ (lt_heap hay)).trans hay
  have hmy1 := (hb1.block _ (lt_heap hmy)).trans hmy
  refine wp_seq ?_
  refine wt_r4_wp (fun a3 h3=>?_) a2 (h2.pick [0,1,2])
  refine wp_seq ?_
  refine wt_r5_wp (fun z a4 h4=>?_) a3 h3
  refine gen_last (fun wx=>wx.heap[w1.heap.size]?=some (.cells #[.slice none 0 0] 30 (0,0))∧wx.heap[w1.heap.size+1]?=some (.cells #[z] 61 (0,0))∧Below w1.heap.size w1 wx∧w1.heap.size+2≤wx.heap.size) ⟨heap_old (by simp) (heap_at rfl),heap_at (by simp),by go_grown,by simp⟩ ?_
  rintro w2 ⟨ho2,hz2,hb2,hs2⟩
  rw [show (w1.alloc (.cells #[.slice none 0 0] 30)).heap.size=w1.heap.size+1 from by simp] at h4
  refine wp_seq ?_
  refine wt_r6_wp hz2 (fun a5 w3 h5 hf3 hk3=>?_) a4 h4
  have hb23 := hb2.trans (Keeps.below (B := w1.heap.size) hk3 (fun k e=>by have e:k=w1.heap.size+1 := e; omega) (by omega))
  have hs3:w2.heap.size≤w3.heap.size := hk3.size
  have ho3:w3.heap[w1.heap.size]?=_ := (hk3.block _ (by omega) (by omega)).trans ho2
  have hb03 := hb01.trans (hb23.mono hb01.size)
  have hay3 := (hb23.block _ (lt_heap hay1)).trans hay1
  have hmy3 := (hb23.block _ (lt_heap hmy1)).trans hmy1
  have hx3 := (hb23.block _ (lt_heap hx1)).trans hx1
  have hxl := lt_heap hx1
  have hwl := wit_len (m := m) (by have := hg.sz; omega) v []
  have h65:6 ^ nestF v≤6 ^ 5 := Nat.pow_le_pow_right (by omega) hn5
  have hwk := walk_any m hg (gm := w.heap.size) (gw := w1.heap.size+1) (go := w1.heap.size) (base := w3.heap.size) v ov hrel [] [.int .i64 kd,.string nm,.slice A n1 c1,.slice B n2 c2] w3 S none 0 0 (.slice none 0 0) [] (by simp; omega) (fmRep.keep ht (hkeep w3 hb03) (fun _ h=>h)) Rep.Sl.nil (fun _=>rfl) (Nat.le_refl _) (hm.keep (hkeep w3 hb03) (fun _ h=>h)) (fun b hb=>⟨hlt w3 hb03 b hb,by have := hS b hb; omega,by simp [Value.ownBlock]⟩) (by omega) (by omega) (by omega) (by omega) hmy3 hf3 ⟨ho3,Rep.Own.nil,by omega,Nat.le_refl _⟩ (by simp only [List.length_nil]; omega)
  refine wp_seq ?_
  refine wt_r7_wp (wo := w) hay3 hf3 hwk (fun a6 w4 h6 hP=>?_) a5 h5
  obtain ⟨q',hwb,hlk⟩ := hP
  have hx4 := (hlk.block _ (lt_heap hx3) (by omega) (by simp [Value.ownBlock])).trans hx3
  have hs4 := hlk.size
  have hb04:Below w.heap.size w w4 := hb03.trans ⟨hlk.os,hlk.tape,hlk.output,hlk.size,fun k hk=>hlk.block k (by omega) (by omega) (by simp [Value.ownBlock])⟩
  refine wp_seq ?_
  refine wt_r8_wp (wo := w) hwb.box hx4 (fun a7 w5 h7 hx5 hk5=>?_) a6 h6
  refine wp_ret ?_
  have hrow:intsRep.Own 39 w3.heap.size w5 (fun b=>w3.heap.size≤b∧b<w5.heap.size) q' (witF m v []) := by
    have h9 := hwb.row
    rw [List.nil_append] at h9
    exact h9.grow (fun b hb1 hb2=>hk5.block b hb2 (by omega)) hk5.size
  exact wt_ret_wp hx5 ⟨q',by rw [holds_zero2 hh0],fun h=>absurd hh0 h,fun _=>⟨v,rfl,ov,nv,dv,_,by omega,hrow⟩,hb04.trans (Keeps.below (B := w.heap.size) hk5 (fun k e=>by have e:k=w.heap.size+1+1 := e; omega) (by omega))⟩ a7 h7
end

end Go.Proofs.YthfokmjpbnfihaaDoor
