/- Lemmas. -/
import Derived.Test.YthfokmjpbnfihaaDoorWf
import Derived.Deep.RegionLaw
namespace Go.Proofs.YthfokmjpbnfihaaDoor
open Go Go.RowKit
set_option linter.unusedSimpArgs false
set_option linter.unusedVariables false
noncomputable section
set_option maxRecDepth 1000000
set_option maxHeartbeats 16000000
variable {S:Nat→Prop} {gx gg d n1 c1 n2 c2 k cq gb n cd i b o:Nat} {v s_1 s_4 s_2 s_6 s_7 s_9 s_8 s_10 s_11 s_12 s_13 s_114 s_115 s_116:Value} {wo w w':World} {kd q mo le:Int} {nm s:ByteArray} {A B Aq:Option Addr} {Q:Exit→Act→World→Prop} {nb:Bool}

theorem frame_of {P:Act→Prop} (h:∀x0 x1 x2 x3 x4 x5 x6 x7 x8 x9 x10 x11 x12 x13 x14 x15 x16 x17 x18 x19 x20 x21 x22 x23 x24 x25 x26 x27 x28 x29 x30 x31 x32 x33 x34 x35 x36 x37 x38 x39 x40 x41 x42 x43 x44 x45 x46 x47 x48 x49 x50 x51 x52 x53 x54 x55 x56 x57 x58 x59 x60 x61 x62 x63 x64 x65 x66 x67 x68 x69 x70 x71 x72 x73 x74 x75 x76 x77 x78 x79 x80 x81 x82 x83 x84 x85 x86 x87 x88 x89 x90 x91 x92 x93 x94 x95 x96 x97 x98 x99 x100 x101 x102 x103 x104 x105 x106 x107 x108 x109 x110 x111 x112 x113 x114 x115 x116 x117 x118 x119 x120 x121 x122 x123 x124 x125 x126 x127 x128 x129 x130 x131 x132 x133 x134 x135 x136 x137 x138 x139 x140 x141 x142 x143 x144 x145 x146 x147 x148 x149:Value,P ⟨(x0 :: x1 :: x2 :: x3 :: x4 :: x5 :: x6 :: x7 :: x8 :: x9 :: x10 :: x11 :: x12 :: x13 :: x14 :: x15 :: x16 :: x17 :: x18 :: x19 :: x20 :: x21 :: x22 :: x23 :: x24 :: x25 :: x26 :: x27 :: x28 :: x29 :: x30 :: x31 :: x32 :: x33 :: x34 :: x35 :: x36 :: x37 :: x38 :: x39 :: x40 :: x41 :: x42 :: x43 :: x44 :: x45 :: x46 :: x47 :: x48 :: x49 :: x50 :: x51 :: x52 :: x53 :: x54 :: x55 :: x56 :: x57 :: x58 :: x59 :: x60 :: x61 :: x62 :: x63 :: x64 :: x65 :: x66 :: x67 :: x68 :: x69 :: x70 :: x71 :: x72 :: x73 :: x74 :: x75 :: x76 :: x77 :: x78 :: x79 :: x80 :: x81 :: x82 :: x83 :: x84 :: x85 :: x86 :: x87 :: x88 :: x89 :: x90 :: x91 :: x92 :: x93 :: x94 :: x95 :: x96 :: x97 :: x98 :: x99 :: x100 :: x101 :: x102 :: x103 :: x104 :: x105 :: x106 :: x107 :: x108 :: x109 :: x110 :: x111 :: x112 :: x113 :: x114 :: x115 :: x116 :: x117 :: x118 :: x119 :: x120 :: x121 :: x122 :: x123 :: x124 :: x125 :: x126 :: x127 :: x128 :: x129 :: x130 :: x131 :: x132 :: x133 :: x134 :: x135 :: x136 :: x137 :: x138 :: x139 :: x140 :: x141 :: x142 :: x143 :: x144 :: x145 :: x146 :: x147 :: x148 :: x149 :: []).toArray,[]⟩):∀a:Act,a.tmps.toList.length=150→a.defers=[]→P a := by
  rintro ⟨⟨l⟩,d⟩ hs hd
  simp only at hd
  subst hd
  revert l
  show ∀l:List Value,l.length=150→P ⟨⟨l⟩,[]⟩
  iterate 150 refine openS (fun _=>?_)
  refine open0 ?_
  exact h ..
structure FmAt where
  t:Fm
  d:Nat
def fmStack (hole:Bool):List FmAt→Nat→Nat × Nat
  | [],_=>(0,0)
  | x :: r,n=>if (fmVal hole x.t x.d n).1=0 then fmStack hole r (fmVal hole x.t x.d n).2.2 else ((fmVal hole x.t x.d n).1,(fmVal hole x.t x.d n).2.1)
theorem fmStack_vals (hole:Bool):∀(l:List Fm) (d n:Nat) (r:List FmAt),fmStack hole (l.map (fun t=>⟨t,d⟩)++r) n=if (fmVals hole l d n).1=0 then fmStack hole r (fmVals hole l d n).2.2 else ((fmVals hole l d n).1,(fmVals hole l d n).2.1)
  | [],d,n,r=>by unfold fmVals; simp
  | t :: l,d,n,r=>by
    unfold fmVals
    simp only [List.map_cons,List.cons_append,fmStack]
    by_cases h:(fmVal hole t d n).1=0
    · rw [if_pos h,if_pos h,fmStack_vals hole l d _ r]
    · rw [if_neg h,if_neg h,if_neg h]
theorem fmStack_step (hole:Bool) (a:FmL) (l:List Fm) (d n:Nat) (r:List FmAt) :
    fmStack hole (⟨.mk a l,d⟩ :: r) n=if 200<n+1∨40<d then (1,n) else if a.code hole l.length=0 then fmStack hole (l.map (fun t=>⟨t,d+1⟩)++r) (n+1) else (a.code hole l.length,n) := by
  rw [fmStack]
  simp only
  unfold fmVal
  by_cases h:200<n+1∨40<d
  · rw [if_pos h,if_pos h]; simp
  · rw [if_neg h,if_neg h]
    by_cases h2:a.code hole l.length=0
    · rw [if_pos h2,if_pos h2,fmStack_vals]
    · rw [if_neg h2,if_neg h2]; simp [h2]
theorem fmStack_one (hole:Bool) (t:Fm):fmStack hole [⟨t,1⟩] 0=((fmVal hole t 1 0).1,(fmVal hole t 1 0).2.1) := by
  simp only [fmStack]
  by_cases h:(fmVal hole t 1 0).1=0
  · rw [if_pos h,h,((fmVal_le hole t 1 0 (by omega)).2 h).2]
  · rw [if_neg h]
def fmAtRep:Rep FmAt where
  size := 5
  R w S x cs := ∃ks,cs=ks++[.int .i64 (x.d:Nat)]∧fmRep.R w S x.t ks
  pos := by omega
  len := by rintro w S a cs ⟨ks,rfl,h⟩; simp [fmRep.len h]; rfl
  one := by
    rintro w S a cs ⟨ks,rfl,h⟩ u hu
    rcases List.mem_append.1 hu with hu | hu
    · exact fmRep.one h u hu
    · simp at hu; subst hu; rfl
  keep := by
    rintro w w' S S' a cs ⟨ks,rfl,h⟩ hk hS
    exact ⟨ks,rfl,fmRep.keep h hk hS⟩
theorem infoFormAt:(Tryd.prog.info? 100).map (fun i=>(i.zero,i.size,i.bytes))=some (some (.agg #[.int .i64 0,.string ⟨#[]⟩,.slice none 0 0,.slice none 0 0,.int .i64 0]),5,80) := by kernel_rfl
structure RD (S:Nat→Prop) (wo w:World) (v:Value) (L:List FmAt) (gx gg:Nat) (kd:Int) (nm:ByteArray) (A:Option Addr) (n1 c1:Nat) (B:Option Addr) (n2 c2:Nat) (d:Nat):Prop where
  x:w.heap[gx]?=some (.cells #[.int .i64 kd,.string nm,.slice A n1 c1,.slice B n2 c2,.int .i64 (d:Nat)] 100 (0,0))
  g:w.heap[gg]?=some (.cells #[.int .i64 kd,.string nm,.slice A n1 c1,.slice B n2 c2] 29 (0,0))
  r:w.heap[wo.heap.size+1]?=some (.cells #[.int .i64 0,.int .i64 0] 32 (0,0))
  own:fmAtRep.Own 100 (wo.heap.size+2) w S v L
  b:Below wo.heap.size wo w
  lx:wo.heap.size+2≤gx
  lg:wo.heap.size+2≤gg
  nx:v.ownBlock≠some gx
  ng:v.ownBlock≠some gg
theorem RD.below {L:List FmAt} (h:RD S wo w v L gx gg kd nm A n1 c1 B n2 c2 d) (hS:∀b,S b→b<wo.heap.size) (hb:Below w.heap.size w w'):RD S wo w' v L gx gg kd nm A n1 c1 B n2 c2 d :=
  ⟨(hb.block _ (lt_heap h.x)).trans h.x,(hb.block _ (lt_heap h.g)).trans h.g,(hb.block _ (lt_heap h.r)).trans h.r,h.own.below hb (fun b hh=>by have := hS b hh; have := h.b.size; omega),h.b.trans (hb.mono h.b.size),h.lx,h.lg,h.nx,h.ng⟩
theorem RD.step {L:List FmAt} {v':Value} {L':List FmAt} (h:RD S wo w v L gx gg kd nm A n1 c1 B n2 c2 d) (ho:fmAtRep.Own 100 (wo.heap.size+2) w' S v' L') (hg:w.grownBy w' v.ownBlock) (hat:∀k,v'.ownBlock=some k→v.ownBlock=some k∨w.heap.size≤k):RD S wo w' v' L' gx gg kd nm A n1 c1 B n2 c2 d := by
  have hbk := h.own.block
  have hx := lt_heap h.x
  have hg1 := lt_heap h.g
  have hr := lt_heap h.r
  have keep:∀k,k<w.heap.size→v.ownBlock≠some k→w'.heap[k]?=w.heap[k]? := fun k h1 h2=>hg.block k h1 (fun e=>h2 e.symm)
  refine ⟨(keep _ hx h.nx).trans h.x,(keep _ hg1 h.ng).trans h.g,(keep _ hr (fun e=>by have := hbk _ e; omega)).trans h.r,ho,h.b.trans ⟨hg.os,hg.tape,hg.output,hg.size,fun k hk=>keep k (by have := h.b.size; omega) (fun e=>by have := hbk _ e; omega)⟩,h.lx,h.lg,fun e=>?_,fun e=>?_⟩
  · rcases hat _ e with e | e
    · exact h.nx e
    · omega
  · rcases hat _ e with e | e
    · exact h.ng e
    · omega
theorem refSubs_any (k:Int) (w:World):Calls Tryd.prog 61 #[.int .i64 k] w fun e w'=>e=.returned (.int .i64 (subsI false k))∧Below w.heap.size w w' := by
  have key:∀r:Int,subsI false k=r→Hid (∀w:World,Calls Tryd.prog 61 #[.int .i64 k] w fun e w'=>e=.returned (.int .i64 r)∧Below w.heap.size w w')→Calls Tryd.prog 61 #[.int .i64 k] w fun e w'=>e=.returned (.int .i64 (subsI false k))∧Below w.heap.size w w' := fun r e h=>by rw [e]; exact h.out w
  by_cases k1:k=1
  · subst k1
    refine key 0 rfl (Lib.hid (fun w=>?_))
    go_enter Tryd.func61,Tryd.ntmps61
    go_wp2_with fail
    go_returns
    exact ⟨rfl,by go_grown⟩
  by_cases k2:k=2
  · subst k2
    refine key 0 rfl (Lib.hid (fun w=>?_))
    go_enter Tryd.func61,Tryd.ntmps61
    go_wp2_with fail
    go_returns
    exact ⟨rfl,by go_grown⟩
  by_cases k3:k=3
  · subst k3
    refine key 0 rfl (Lib.hid (fun w=>?_))
    go_enter Tryd.func61,Tryd.ntmps61
    go_wp2_with fail
    go_returns
    exact ⟨rfl,by go_grown⟩
  by_cases k4:k=4
  · subst k4
    refine key 1 rfl (Lib.hid (fun w=>?_))
    go_enter Tryd.func61,Tryd.ntmps61
    go_wp2_with fail
    go_returns
    exact ⟨rfl,by go_grown⟩
  by_cases k5:k=5
  · subst k5
    refine key 2 rfl (Lib.hid (fun w=>?_))
    go_enter Tryd.func61,Tryd.ntmps61
    go_wp2_with fail
    go_returns
    exact ⟨rfl,by go_grown⟩
  by_cases k6:k=6
  · subst k6
    refine key 2 rfl (Lib.hid (fun w=>?_))
    go_enter Tryd.func61,Tryd.ntmps61
    go_wp2_with fail
    go_returns
    exact ⟨rfl,by go_grown⟩
  by_cases k7:k=7
  · subst k7
    refine key 2 rfl (Lib.hid (fun w=>?_))
    go_enter Tryd.func61,Tryd.ntmps61
    go_wp2_with fail
    go_returns
    exact ⟨rfl,by go_grown⟩
  by_cases k8:k=8
  · subst k8
    refine key 1 rfl (Lib.hid (fun w=>?_))
    go_enter Tryd.func61,Tryd.ntmps61
    go_wp2_with fail
    go_returns
    exact ⟨rfl,by go_grown⟩
  by_cases k9:k=9
  · subst k9
    refine key 1 rfl (Lib.hid (fun w=>?_))
    go_enter Tryd.func61,Tryd.ntmps61
    go_wp2_with fail
    go_returns
    exact ⟨rfl,by go_grown⟩
  have hr:subsI false k = -1 := by unfold subsI subsF; rw [if_neg (by omega),if_neg (by omega),if_neg (by omega),if_neg (by rintro ⟨_,h⟩; cases h)]
  by_cases hl:k<1
  · refine key (-1) hr (Lib.hid (fun w=>?_))
    have t1:decide (k<1)=true := decide_eq_true hl
    clear key k1 k2 k3 k4 k5 k6 k7 k8 k9 hr
    go_enter Tryd.func61,Tryd.ntmps61
    go_wp2_with fail
    go_returns
    exact ⟨rfl,by go_grown⟩
  · refine key (-1) hr (Lib.hid (fun w=>?_))
    have t1:decide (k<1)=false := decide_eq_false hl
    have t2:decide ((9:Int)<k)=true := decide_eq_true (by omega)
    clear key k1 k2 k3 k4 k5 k6 k7 k8 k9 hr
    go_enter Tryd.func61,Tryd.ntmps61
    go_wp2_with fail
    go_returns
    exact ⟨rfl,by go_grown⟩
noncomputable def cF45:Code := Tryd.f45.body.getD .skip
def c_of_r0 := sp 99 2 cF45
theorem of_r0_wp (hN:∀a',Frm 150 [(1,s_1),(2,.pointer (some ⟨wo.heap.size,0,none⟩)),(4,.pointer (some ⟨wo.heap.size+1,0,none⟩))] a'→Q .normal a' ((wo.alloc (.cells #[.int .i64 kd,.string nm,.slice A n1 c1,.slice B n2 c2] 29)).alloc (.cells #[.int .i64 0,.int .i64 0] 32))):∀ac,Frm 150 [(0,.agg #[.int .i64 kd,.string nm,.slice A n1 c1,.slice B n2 c2]),(1,s_1)] ac→Code.wp Tryd.prog c_of_r0 Q ac wo := by
  refine fO (frame_of ?_)
  intros
  rename_i hq
  iterate 2 (obtain ⟨e,hq⟩ := hq; obtain rfl := sI e; clear e)
  clear hq
  conv=>arg 2; whnf
  replace hN := Lib.hid hN
  go_wp2_with fail
  exact hN.out _ (by exact fR rfl rfl rfl)
def c_of_r1 := sp 99 5 cF45
theorem of_r1_wp (ha:w.heap[wo.heap.size]?=some (.cells #[.int .i64 kd,.string nm,.slice A n1 c1,.slice B n2 c2] 29 (0,0))) (hN:∀a',Frm 150 [(1,s_1),(2,.pointer (some ⟨wo.heap.size,0,none⟩)),(4,s_4),(5,.slice (some ⟨w.heap.size,0,none⟩) 1 1)] a'→Q .normal a' (w.alloc (.cells #[.int .i64 kd,.string nm,.slice A n1 c1,.slice B n2 c2,.int .i64 1] 100))):∀ac,Frm 150 [(1,s_1),(2,.pointer (some ⟨wo.heap.size,0,none⟩)),(4,s_4)] ac→Code.wp Tryd.prog c_of_r1 Q ac w := by
  refine fO (frame_of ?_)
  intros
  rename_i hq
  iterate 3 (obtain ⟨e,hq⟩ := hq; obtain rfl := sI e; clear e)
  clear hq
  conv=>arg 2; whnf
  have g0 := cellv ha 0 rfl
  have g1 := cellv ha 1 rfl
  have g2 := cellv ha 2 rfl
  have g3 := cellv ha 3 rfl
  have gl := lt_heap ha
  clear ha
  replace hN := Lib.hid hN
  go_wp2_with fail
  exact hN.out _ (by exact fR rfl rfl rfl)
def c_of_r2 := sp 99 19 cF45
theorem of_r2_wp (hN:∀a',Frm 150 [(1,s_1),(2,s_2),(4,s_4),(5,v),(6,.int .i64 0)] a'→Q .normal a' w):∀ac,Frm 150 [(1,s_1),(2,s_2),(4,s_4),(5,v)] ac→Code.wp Tryd.prog c_of_r2 Q ac w := by
  refine fO (frame_of ?_)
  intros
  rename_i hq
  iterate 4 (obtain ⟨e,hq⟩ := hq; obtain rfl := sI e; clear e)
  clear hq
  conv=>arg 2; whnf
  replace hN := Lib.hid hN
  go_wp2_with fail
  exact hN.out _ (by exact fR rfl rfl rfl)
def c_of_r3 := sp 99 267 cF45
theorem of_r3_wp (hN:∀a',Frm 150 [(1,s_1),(2,s_2),(4,s_4),(5,.slice Aq k cq),(6,s_6),(22,.bool (decide (0<k)))] a'→Q .normal a' w):∀ac,Frm 150 [(1,s_1),(2,s_2),(4,s_4),(5,.slice Aq k cq),(6,s_6)] ac→Code.wp Tryd.prog c_of_r3 Q ac w := by
  refine fO (frame_of ?_)
  intros
  rename_i hq
  iterate 5 (obtain ⟨e,hq⟩ := hq; obtain rfl := sI e; clear e)
  clear hq
  conv=>arg 2; whnf
  by_cases h:0<k
  · have t1:decide ((0:Int)<(k:Int))=true := by first | exact decide_eq_true (by omega) | exact beq_iff_eq.2 (by omega) | exact bne_iff_ne.2 (by omega)
    have t2:(decide (0<k))=true := decide_eq_true h
    rw [t2] at hN
    clear h
    replace hN := Lib.hid hN
    go_wp2_with fail
    exact hN.out _ (by exact fR rfl rfl rfl)
  · have t1:decide ((0:Int)<(k:Int))=false := by first | exact decide_eq_false (by omega) | exact beq_eq_false_iff_ne.2 (by omega) | exact bne_eq_false_iff_eq.2 (by omega)
    have t2:(decide (0<k))=false := decide_eq_false h
    rw [t2] at hN
    clear h
    replace hN := Lib.hid hN
    go_wp2_with fail
    exact hN.out _ (by exact fR rfl rfl rfl)
def c_of_r5 := sp 99 1099 cF45
theorem of_r5_wp (hk:k≤300) (hcap:k+1≤cq) (h0:w.cell? ⟨gb,k * 5,none⟩=some (.int .i64 kd)) (h1:w.cell? ⟨gb,k * 5+1,none⟩=some (.string nm)) (h2:w.cell? ⟨gb,k * 5+2,none⟩=some (.slice A n1 c1)) (h3:w.cell? ⟨gb,k * 5+3,none⟩=some (.slice B n2 c2)) (h4:w.cell? ⟨gb,k * 5+4,none⟩=some (.int .i64 (d:Nat))) (hbl:gb<w.heap.size) (hN:∀a',Frm 150 [(1,s_1),(2,s_2),(4,s_4),(5,.slice (some ⟨gb,0,none⟩) (k+1) cq),(6,s_6),(7,.pointer (some ⟨w.heap.size,0,none⟩))] a'→Q .normal a' (w.alloc (.cells #[.int .i64 kd,.string nm,.slice A n1 c1,.slice B n2 c2,.int .i64 (d:Nat)] 100))):∀ac,Frm 150 [(1,s_1),(2,s_2),(4,s_4),(5,.slice (some ⟨gb,0,none⟩) (k+1) cq),(6,s_6)] ac→Code.wp Tryd.prog c_of_r5 Q ac w := by
  refine fO (frame_of ?_)
  intros
  rename_i hq
  iterate 5 (obtain ⟨e,hq⟩ := hq; obtain rfl := sI e; clear e)
  clear hq
  conv=>arg 2; whnf
  have q0:(0:Int)≤(k:Int) := by omega
  have q1:(k:Int)≤(cq:Int) := by omega
  have q2:((k+1:Nat):Int) - 1=(k:Int) := by omega
  have q3:(k:Int)+1 - 1=(k:Int) := by omega
  replace hN := Lib.hid hN
  go_wp2_with fail
  exact hN.out _ (by exact fR rfl rfl rfl)
def c_of_r6 := sp 99 2635 cF45
theorem of_r6_wp (hk:k≤300) (hcap:k+1≤cq) (hN:∀a',Frm 150 [(1,s_1),(2,s_2),(4,s_4),(5,.slice (some ⟨gb,0,none⟩) k cq),(6,s_6),(7,s_7)] a'→Q .normal a' w):∀ac,Frm 150 [(1,s_1),(2,s_2),(4,s_4),(5,.slice (some ⟨gb,0,none⟩) (k+1) cq),(6,s_6),(7,s_7)] ac→Code.wp Tryd.prog c_of_r6 Q ac w := by
  refine fO (frame_of ?_)
  intros
  rename_i hq
  iterate 6 (obtain ⟨e,hq⟩ := hq; obtain rfl := sI e; clear e)
  clear hq
  conv=>arg 2; whnf
  have q0:(0:Int)≤(k:Int) := by omega
  have q1:(k:Int)≤(cq:Int) := by omega
  have q2:((k+1:Nat):Int) - 1=(k:Int) := by omega
  have q3:(k:Int)+1 - 1=(k:Int) := by omega
  replace hN := Lib.hid hN
  go_wp2_with fail
  exact hN.out _ (by exact fR rfl rfl rfl)
def c_of_r7 := sp 99 5707 cF45
theorem of_r7_wp (hx:w.heap[gx]?=some (.cells #[.int .i64 kd,.string nm,.slice A n1 c1,.slice B n2 c2,.int .i64 (d:Nat)] 100 (0,0))) (hN:∀a',Frm 150 [(1,s_1),(2,s_2),(4,s_4),(5,v),(6,s_6),(7,.pointer (some ⟨gx,0,none⟩)),(8,.pointer (some ⟨w.heap.size,0,none⟩))] a'→Q .normal a' (w.alloc (.cells #[.int .i64 kd,.string nm,.slice A n1 c1,.slice B n2 c2] 29))):∀ac,Frm 150 [(1,s_1),(2,s_2),(4,s_4),(5,v),(6,s_6),(7,.pointer (some ⟨gx,0,none⟩))] ac→Code.wp Tryd.prog c_of_r7 Q ac w := by
  refine fO (frame_of ?_)
  intros
  rename_i hq
  iterate 6 (obtain ⟨e,hq⟩ := hq; obtain rfl := sI e; clear e)
  clear hq
  conv=>arg 2; whnf
  have x0 := cellv hx 0 rfl
  have x1 := cellv hx 1 rfl
  have x2 := cellv hx 2 rfl
  have x3 := cellv hx 3 rfl
  have x4 := cellv hx 4 rfl
  have xl := lt_heap hx
  clear hx
  replace hN := Lib.hid hN
  go_wp2_with fail
  exact hN.out _ (by exact fR rfl rfl rfl)
def c_of_r8 := sp 99 11851 cF45
theorem of_r8_wp {L:List FmAt} (hS:∀b,S b→b<wo.heap.size) (hs:RD S wo w v L gx gg kd nm A n1 c1 B n2 c2 d) (hN:∀a' w',Frm 150 [(1,s_1),(2,s_2),(4,s_4),(5,v),(6,s_6),(7,s_7),(8,.pointer (some ⟨gg,0,none⟩)),(9,.int .i64 (subsI false kd))] a'→RD S wo w' v L gx gg kd nm A n1 c1 B n2 c2 d→Q .normal a' w'):∀ac,Frm 150 [(1,s_1),(2,s_2),(4,s_4),(5,v),(6,s_6),(7,s_7),(8,.pointer (some ⟨gg,0,none⟩))] ac→Code.wp Tryd.prog c_of_r8 Q ac w := by
  refine fO (frame_of ?_)
  intros
  rename_i hq
  iterate 7 (obtain ⟨e,hq⟩ := hq; obtain rfl := sI e; clear e)
  clear hq
  conv=>arg 2; whnf
  have hq := refSubs_any kd w
  have g0 := cellv hs.g 0 rfl
  have g1 := cellv hs.g 1 rfl
  have g2 := cellv hs.g 2 rfl
  have g3 := cellv hs.g 3 rfl
  have gl := lt_heap hs.g
  replace hs := Lib.hid hs
  replace hS := Lib.hid hS
  have HN := Lib.hid hN
  have HQ := Lib.hid hq
  clear hN hq
  go_wp2_with fail
  (with_reducible refine HQ.out.mono ?_)
  rintro e w1 ⟨rfl,hb1⟩
  have hs := hs.out.below hS.out hb1
  have HS1 := Lib.hid hs
  clear hb1 hs
  go_wp2_with fail
  exact HN.out _ _ (by exact fR rfl rfl rfl) HS1.out
def c_of_r9 := sp 99 40523 cF45
theorem of_r9_wp {hole:Bool} {L:List FmAt} (hs:RD S wo w v L gx gg kd nm A n1 c1 B n2 c2 d) (hN:∀a',Frm 150 [(1,.bool hole),(2,s_2),(4,s_4),(5,v),(6,s_6),(7,s_7),(8,.pointer (some ⟨gg,0,none⟩)),(9,s_9),(46,.bool (hole && decide (kd=10)))] a'→Q .normal a' w):∀ac,Frm 150 [(1,.bool hole),(2,s_2),(4,s_4),(5,v),(6,s_6),(7,s_7),(8,.pointer (some ⟨gg,0,none⟩)),(9,s_9)] ac→Code.wp Tryd.prog c_of_r9 Q ac w := by
  refine fO (frame_of ?_)
  intros
  rename_i hq
  iterate 8 (obtain ⟨e,hq⟩ := hq; obtain rfl := sI e; clear e)
  clear hq
  conv=>arg 2; whnf
  have g0 := cellv hs.g 0 rfl
  have g1 := cellv hs.g 1 rfl
  have g2 := cellv hs.g 2 rfl
  have g3 := cellv hs.g 3 rfl
  have gl := lt_heap hs.g
  replace hs := Lib.hid hs
  cases hole
  case false =>
    rw [show (false && decide (kd=10))=false from rfl] at hN
    replace hN := Lib.hid hN
    go_wp2_with fail
    exact hN.out _ (by exact fR rfl rfl rfl)
  by_cases hk:kd=10
  · subst hk
    rw [show (true && decide ((10:Int)=10))=true from rfl] at hN
    replace hN := Lib.hid hN
    go_wp2_with fail
    exact hN.out _ (by exact fR rfl rfl rfl)
  · have t1:(kd == 10)=false := beq_eq_false_iff_ne.2 hk
    rw [show (true && decide (kd=10))=false from by simp [hk]] at hN
    clear hk
    replace hN := Lib.hid hN
    go_wp2_with fail
    exact hN.out _ (by exact fR rfl rfl rfl)
def c_of_r10 := sp 99 89675 cF45
theorem of_r10_wp (hN:∀a',Frm 150 [(1,s_1),(2,s_2),(4,s_4),(5,v),(6,s_6),(7,s_7),(8,s_8),(9,.int .i64 0)] a'→Q .normal a' w):∀ac,Frm 150 [(1,s_1),(2,s_2),(4,s_4),(5,v),(6,s_6),(7,s_7),(8,s_8),(9,.int .i64 q)] ac→Code.wp Tryd.prog c_of_r10 Q ac w := by
  refine fO (frame_of ?_)
  intros
  rename_i hq
  iterate 8 (obtain ⟨e,hq⟩ := hq; obtain rfl := sI e; clear e)
  clear hq
  conv=>arg 2; whnf
  replace hN := Lib.hid hN
  go_wp2_with fail
  exact hN.out _ (by exact fR rfl rfl rfl)
def c_of_r11 := sp 99 48715 cF45
theorem of_r11_wp (hN:∀a',Frm 150 [(1,s_1),(2,s_2),(4,s_4),(5,v),(6,s_6),(7,s_7),(8,s_8),(9,s_9),(10,.int .i64 0),(11,.int .i64 0)] a'→Q .normal a' w):∀ac,Frm 150 [(1,s_1),(2,s_2),(4,s_4),(5,v),(6,s_6),(7,s_7),(8,s_8),(9,s_9)] ac→Code.wp Tryd.prog c_of_r11 Q ac w := by
  refine fO (frame_of ?_)
  intros
  rename_i hq
  iterate 8 (obtain ⟨e,hq⟩ := hq; obtain rfl := sI e; clear e)
  clear hq
  conv=>arg 2; whnf
  replace hN := Lib.hid hN
  go_wp2_with fail
  exact hN.out _ (by exact fR rfl rfl rfl)
def c_of_r12 := sp 99 163403 cF45
theorem of_r12_wp {L:List FmAt} (hs:RD S wo w v L gx gg kd nm A n1 c1 B n2 c2 d) (hN:∀a',Frm 150 [(1,s_1),(2,s_2),(4,s_4),(5,v),(6,s_6),(7,s_7),(8,.pointer (some ⟨gg,0,none⟩)),(9,s_9),(10,s_10),(11,s_11),(49,.bool (decide (kd=2)))] a'→Q .normal a' w):∀ac,Frm 150 [(1,s_1),(2,s_2),(4,s_4),(5,v),(6,s_6),(7,s_7),(8,.pointer (some ⟨gg,0,none⟩)),(9,s_9),(10,s_10),(11,s_11)] ac→Code.wp Tryd.prog c_of_r12 Q ac w := by
  refine fO (frame_of ?_)
  intros
  rename_i hq
  iterate 10 (obtain ⟨e,hq⟩ := hq; obtain rfl := sI e; clear e)
  clear hq
  conv=>arg 2; whnf
  have g0 := cellv hs.g 0 rfl
  have g1 := cellv hs.g 1 rfl
  have g2 := cellv hs.g 2 rfl
  have g3 := cellv hs.g 3 rfl
  have gl := lt_heap hs.g
  replace hs := Lib.hid hs
  by_cases h:kd=2
  · subst h
    rw [show decide ((2:Int)=2)=true from rfl] at hN
    replace hN := Lib.hid hN
    go_wp2_with fail
    exact hN.out _ (by exact fR rfl rfl rfl)
  · have t1:(kd == 2)=false := beq_eq_false_iff_ne.2 h
    rw [show decide (kd=2)=false from decide_eq_false h] at hN
    clear h
    replace hN := Lib.hid hN
    go_wp2_with fail
    exact hN.out _ (by exact fR rfl rfl rfl)
def c_of_r13 := sp 99 360011 cF45
theorem of_r13_wp (hN:∀a',Frm 150 [(1,s_1),(2,s_2),(4,s_4),(5,v),(6,s_6),(7,s_7),(8,s_8),(9,s_9),(10,.int .i64 3),(11,s_11)] a'→Q .normal a' w):∀ac,Frm 150 [(1,s_1),(2,s_2),(4,s_4),(5,v),(6,s_6),(7,s_7),(8,s_8),(9,s_9),(10,.int .i64 mo),(11,s_11)] ac→Code.wp Tryd.prog c_of_r13 Q ac w := by
  refine fO (frame_of ?_)
  intros
  rename_i hq
  iterate 10 (obtain ⟨e,hq⟩ := hq; obtain rfl := sI e; clear e)
  clear hq
  conv=>arg 2; whnf
  replace hN := Lib.hid hN
  go_wp2_with fail
  exact hN.out _ (by exact fR rfl rfl rfl)
def c_of_r14 := sp 99 327243 cF45
theorem of_r14_wp {L:List FmAt} (hs:RD S wo w v L gx gg kd nm A n1 c1 B n2 c2 d) (hN:∀a',Frm 150 [(1,s_1),(2,s_2),(4,s_4),(5,v),(6,s_6),(7,s_7),(8,.pointer (some ⟨gg,0,none⟩)),(9,s_9),(10,s_10),(11,s_11),(52,.bool (decide (kd=3)))] a'→Q .normal a' w):∀ac,Frm 150 [(1,s_1),(2,s_2),(4,s_4),(5,v),(6,s_6),(7,s_7),(8,.pointer (some ⟨gg,0,none⟩)),(9,s_9),(10,s_10),(11,s_11)] ac→Code.wp Tryd.prog c_of_r14 Q ac w := by
  refine fO (frame_of ?_)
  intros
  rename_i hq
  iterate 10 (obtain ⟨e,hq⟩ := hq; obtain rfl := sI e; clear e)
  clear hq
  conv=>arg 2; whnf
  have g0 := cellv hs.g 0 rfl
  have g1 := cellv hs.g 1 rfl
  have g2 := cellv hs.g 2 rfl
  have g3 := cellv hs.g 3 rfl
  have gl := lt_heap hs.g
  replace hs := Lib.hid hs
  by_cases h:kd=3
  · subst h
    rw [show decide ((3:Int)=3)=true from rfl] at hN
    replace hN := Lib.hid hN
    go_wp2_with fail
    exact hN.out _ (by exact fR rfl rfl rfl)
  · have t1:(kd == 3)=false := beq_eq_false_iff_ne.2 h
    rw [show decide (kd=3)=false from decide_eq_false h] at hN
    clear h
    replace hN := Lib.hid hN
    go_wp2_with fail
    exact hN.out _ (by exact fR rfl rfl rfl)
def c_of_r15 := sp 99 720459 cF45
theorem of_r15_wp (hN:∀a',Frm 150 [(1,s_1),(2,s_2),(4,s_4),(5,v),(6,s_6),(7,s_7),(8,s_8),(9,s_9),(10,.int .i64 2),(11,.int .i64 2)] a'→Q .normal a' w):∀ac,Frm 150 [(1,s_1),(2,s_2),(4,s_4),(5,v),(6,s_6),(7,s_7),(8,s_8),(9,s_9),(10,.int .i64 mo),(11,.int .i64 le)] ac→Code.wp Tryd.prog c_of_r15 Q ac w := by
  refine fO (frame_of ?_)
  intros
  rename_i hq
  iterate 10 (obtain ⟨e,hq⟩ := hq; obtain rfl := sI e; clear e)
  clear hq
  conv=>arg 2; whnf
  replace hN := Lib.hid hN
  go_wp2_with fail
  exact hN.out _ (by exact fR rfl rfl rfl)
def c_of_r16 := sp 99 392779 cF45
theorem of_r16_wp {L:List FmAt} (hs:RD S wo w v L gx gg kd nm A n1 c1 B n2 c2 d) (hN:∀a',Frm 150 [(1,s_1),(2,s_2),(4,s_4),(5,v),(6,s_6),(7,s_7),(8,.pointer (some ⟨gg,0,none⟩)),(9,s_9),(10,s_10),(11,s_11),(12,.bool (namedF kd))] a'→Q .normal a' w):∀ac,Frm 150 [(1,s_1),(2,s_2),(4,s_4),(5,v),(6,s_6),(7,s_7),(8,.pointer (some ⟨gg,0,none⟩)),(9,s_9),(10,s_10),(11,s_11)] ac→Code.wp Tryd.prog c_of_r16 Q ac w := by
  refine fO (frame_of ?_)
  intros
  rename_i hq
  iterate 10 (obtain ⟨e,hq⟩ := hq; obtain rfl := sI e; clear e)
  clear hq
  conv=>arg 2; whnf
  have g0 := cellv hs.g 0 rfl
  have g1 := cellv hs.g 1 rfl
  have g2 := cellv hs.g 2 rfl
  have g3 := cellv hs.g 3 rfl
  have gl := lt_heap hs.g
  replace hs := Lib.hid hs
  by_cases h2:kd=2
  · subst h2
    rw [show namedF (2:Int)=true from rfl] at hN
    replace hN := Lib.hid hN
    go_wp2_with fail
    exact hN.out _ (by exact fR rfl rfl rfl)
  have t2:(kd == 2)=false := beq_eq_false_iff_ne.2 h2
  by_cases h8:kd=8
  · subst h8
    rw [show namedF (8:Int)=true from rfl] at hN
    replace hN := Lib.hid hN
    go_wp2_with fail
    exact hN.out _ (by exact fR rfl rfl rfl)
  have t8:(kd == 8)=false := beq_eq_false_iff_ne.2 h8
  by_cases h9:kd=9
  · subst h9
    rw [show namedF (9:Int)=true from rfl] at hN
    replace hN := Lib.hid hN
    go_wp2_with fail
    exact hN.out _ (by exact fR rfl rfl rfl)
  have t9:(kd == 9)=false := beq_eq_false_iff_ne.2 h9
  by_cases h10:kd=10
  · subst h10
    rw [show namedF (10:Int)=true from rfl] at hN
    replace hN := Lib.hid hN
    go_wp2_with fail
    exact hN.out _ (by exact fR rfl rfl rfl)
  have t10:(kd == 10)=false := beq_eq_false_iff_ne.2 h10
  rw [show namedF kd=false from by simp [namedF,h2,h8,h9,h10]] at hN
  clear h2 h8 h9 h10
  replace hN := Lib.hid hN
  go_wp2_with fail
  exact hN.out _ (by exact fR rfl rfl rfl)
def c_of_r17 := sp 99 785995 cF45
theorem of_r17_wp (hN:∀a',Frm 150 [(1,s_1),(2,s_2),(4,s_4),(5,v),(6,s_6),(7,s_7),(8,s_8),(9,s_9),(10,s_10),(11,s_11),(12,s_12),(13,.int .i64 0)] a'→Q .normal a' w):∀ac,Frm 150 [(1,s_1),(2,s_2),(4,s_4),(5,v),(6,s_6),(7,s_7),(8,s_8),(9,s_9),(10,s_10),(11,s_11),(12,s_12)] ac→Code.wp Tryd.prog c_of_r17 Q ac w := by
  refine fO (frame_of ?_)
  intros
  rename_i hq
  iterate 11 (obtain ⟨e,hq⟩ := hq; obtain rfl := sI e; clear e)
  clear hq
  conv=>arg 2; whnf
  replace hN := Lib.hid hN
  go_wp2_with fail
  exact hN.out _ (by exact fR rfl rfl rfl)
def c_of_r18 := sp 99 2621003 cF45
theorem of_r18_wp {L:List FmAt} (hs:RD S wo w v L gx gg kd nm A n1 c1 B n2 c2 d) (hN:∀a',Frm 150 [(1,s_1),(2,s_2),(4,s_4),(5,v),(6,.int .i64 (n:Nat)),(7,.pointer (some ⟨gx,0,none⟩)),(8,s_8),(9,s_9),(10,s_10),(11,s_11),(12,s_12),(13,s_13),(77,.bool (decide (200<n+1∨40<d)))] a'→Q .normal a' w):∀ac,Frm 150 [(1,s_1),(2,s_2),(4,s_4),(5,v),(6,.int .i64 (n:Nat)),(7,.pointer (some ⟨gx,0,none⟩)),(8,s_8),(9,s_9),(10,s_10),(11,s_11),(12,s_12),(13,s_13)] ac→Code.wp Tryd.prog c_of_r18 Q ac w := by
  refine fO (frame_of ?_)
  intros
  rename_i hq
  iterate 12 (obtain ⟨e,hq⟩ := hq; obtain rfl := sI e; clear e)
  clear hq
  conv=>arg 2; whnf
  have x4 := cellv hs.x 4 rfl
  have xl := lt_heap hs.x
  replace hs := Lib.hid hs
  by_cases h1:200<n+1
  · have t1:decide ((200:Int)≤(n:Int))=true := decide_eq_true (by omega)
    rw [show decide (200<n+1∨40<d)=true from decide_eq_true (Or.inl h1)] at hN
    clear h1
    replace hN := Lib.hid hN
    go_wp2_with fail
    exact hN.out _ (by exact fR rfl rfl rfl)
  have t1:decide ((200:Int)≤(n:Int))=false := decide_eq_false (by omega)
  by_cases h2:40<d
  · have t2:decide ((40:Int)<(d:Int))=true := decide_eq_true (by omega)
    rw [show decide (200<n+1∨40<d)=true from decide_eq_true (Or.inr h2)] at hN
    clear h1 h2
    replace hN := Lib.hid hN
    go_wp2_with fail
    exact hN.out _ (by exact fR rfl rfl rfl)
  · have t2:decide ((40:Int)<(d:Int))=false := decide_eq_false (by omega)
    rw [show decide (200<n+1∨40<d)=false from decide_eq_false (fun h=>by omega)] at hN
    clear h1 h2
    replace hN := Lib.hid hN
    go_wp2_with fail
    exact hN.out _ (by exact fR rfl rfl rfl)
def c_of_r19 := sp 99 5766731 cF45
theorem of_r19_wp (hN:∀a',Frm 150 [(1,s_1),(2,s_2),(4,s_4),(5,v),(6,s_6),(7,s_7),(8,s_8),(9,s_9),(10,s_10),(11,s_11),(12,s_12),(13,.int .i64 (1:Nat))] a'→Q .normal a' w):∀ac,Frm 150 [(1,s_1),(2,s_2),(4,s_4),(5,v),(6,s_6),(7,s_7),(8,s_8),(9,s_9),(10,s_10),(11,s_11),(12,s_12),(13,.int .i64 (cd:Nat))] ac→Code.wp Tryd.prog c_of_r19 Q ac w := by
  refine fO (frame_of ?_)
  intros
  rename_i hq
  iterate 12 (obtain ⟨e,hq⟩ := hq; obtain rfl := sI e; clear e)
  clear hq
  conv=>arg 2; whnf
  replace hN := Lib.hid hN
  go_wp2_with fail
  exact hN.out _ (by exact fR rfl rfl rfl)
def c_of_r21 := sp 99 24641099 cF45
theorem of_r21_wp (hN:∀a',Frm 150 [(1,s_1),(2,s_2),(4,s_4),(5,v),(6,s_6),(7,s_7),(8,s_8),(9,s_9),(10,s_10),(11,s_11),(12,s_12),(13,.int .i64 (4:Nat))] a'→Q .normal a' w):∀ac,Frm 150 [(1,s_1),(2,s_2),(4,s_4),(5,v),(6,s_6),(7,s_7),(8,s_8),(9,s_9),(10,s_10),(11,s_11),(12,s_12),(13,.int .i64 (cd:Nat))] ac→Code.wp Tryd.prog c_of_r21 Q ac w := by
  refine fO (frame_of ?_)
  intros
  rename_i hq
  iterate 12 (obtain ⟨e,hq⟩ := hq; obtain rfl := sI e; clear e)
  clear hq
  conv=>arg 2; whnf
  replace hN := Lib.hid hN
  go_wp2_with fail
  exact hN.out _ (by exact fR rfl rfl rfl)
def c_of_r23 := sp 99 100138571 cF45
theorem of_r23_wp (hN:∀a',Frm 150 [(1,s_1),(2,s_2),(4,s_4),(5,v),(6,s_6),(7,s_7),(8,s_8),(9,s_9),(10,s_10),(11,s_11),(12,s_12),(13,.int .i64 (9:Nat))] a'→Q .normal a' w):∀ac,Frm 150 [(1,s_1),(2,s_2),(4,s_4),(5,v),(6,s_6),(7,s_7),(8,s_8),(9,s_9),(10,s_10),(11,s_11),(12,s_12),(13,.int .i64 (cd:Nat))] ac→Code.wp Tryd.prog c_of_r23 Q ac w := by
  refine fO (frame_of ?_)
  intros
  rename_i hq
  iterate 12 (obtain ⟨e,hq⟩ := hq; obtain rfl := sI e; clear e)
  clear hq
  conv=>arg 2; whnf
  replace hN := Lib.hid hN
  go_wp2_with fail
  exact hN.out _ (by exact fR rfl rfl rfl)
def c_of_r25 := sp 99 402128459 cF45
theorem of_r25_wp (hN:∀a',Frm 150 [(1,s_1),(2,s_2),(4,s_4),(5,v),(6,s_6),(7,s_7),(8,s_8),(9,s_9),(10,s_10),(11,s_11),(12,s_12),(13,.int .i64 (10:Nat))] a'→Q .normal a' w):∀ac,Frm 150 [(1,s_1),(2,s_2),(4,s_4),(5,v),(6,s_6),(7,s_7),(8,s_8),(9,s_9),(10,s_10),(11,s_11),(12,s_12),(13,.int .i64 (cd:Nat))] ac→Code.wp Tryd.prog c_of_r25 Q ac w := by
  refine fO (frame_of ?_)
  intros
  rename_i hq
  iterate 12 (obtain ⟨e,hq⟩ := hq; obtain rfl := sI e; clear e)
  clear hq
  conv=>arg 2; whnf
  replace hN := Lib.hid hN
  go_wp2_with fail
  exact hN.out _ (by exact fR rfl rfl rfl)
def c_of_r27 := sp 99 1610088011 cF45
theorem of_r27_wp (hN:∀a',Frm 150 [(1,s_1),(2,s_2),(4,s_4),(5,v),(6,s_6),(7,s_7),(8,s_8),(9,s_9),(10,s_10),(11,s_11),(12,s_12),(13,.int .i64 (5:Nat))] a'→Q .normal a' w):∀ac,Frm 150 [(1,s_1),(2,s_2),(4,s_4),(5,v),(6,s_6),(7,s_7),(8,s_8),(9,s_9),(10,s_10),(11,s_11),(12,s_12),(13,.int .i64 (cd:Nat))] ac→Code.wp Tryd.prog c_of_r27 Q ac w := by
  refine fO (frame_of ?_)
  intros
  rename_i hq
  iterate 12 (obtain ⟨e,hq⟩ := hq; obtain rfl := sI e; clear e)
  clear hq
  conv=>arg 2; whnf
  replace hN := Lib.hid hN
  go_wp2_with fail
  exact hN.out _ (by exact fR rfl rfl rfl)
def c_of_r20 := sp 99 12058187 cF45
theorem of_r20_wp (hN:∀a',Frm 150 [(1,s_1),(2,s_2),(4,s_4),(5,v),(6,s_6),(7,s_7),(8,s_8),(9,.int .i64 q),(10,s_10),(11,s_11),(12,s_12),(13,s_13),(79,.bool (decide (q<0)))] a'→Q .normal a' w):∀ac,Frm 150 [(1,s_1),(2,s_2),(4,s_4),(5,v),(6,s_6),(7,s_7),(8,s_8),(9,.int .i64 q),(10,s_10),(11,s_11),(12,s_12),(13,s_13)] ac→Code.wp Tryd.prog c_of_r20 Q ac w := by
  refine fO (frame_of ?_)
  intros
  rename_i hq
  iterate 12 (obtain ⟨e,hq⟩ := hq; obtain rfl := sI e; clear e)
  clear hq
  conv=>arg 2; whnf
  by_cases h:q<0
  · have t1:decide (q<0)=true := by first | exact decide_eq_true (by omega) | exact beq_iff_eq.2 (by omega) | exact bne_iff_ne.2 (by omega)
    have t2:(decide (q<0))=true := decide_eq_true h
    rw [t2] at hN
    clear h
    replace hN := Lib.hid hN
    go_wp2_with fail
    exact hN.out _ (by exact fR rfl rfl rfl)
  · have t1:decide (q<0)=false := by first | exact decide_eq_false (by omega) | exact beq_eq_false_iff_ne.2 (by omega) | exact bne_eq_false_iff_eq.2 (by omega)
    have t2:(decide (q<0))=false := decide_eq_false h
    rw [t2] at hN
    clear h
    replace hN := Lib.hid hN
    go_wp2_with fail
    exact hN.out _ (by exact fR rfl rfl rfl)
def c_of_r22 := sp 99 49806923 cF45
theorem of_r22_wp {L:List FmAt} (hs:RD S wo w v L gx gg kd nm A n1 c1 B n2 c2 d) (hN:∀a',Frm 150 [(1,s_1),(2,s_2),(4,s_4),(5,v),(6,s_6),(7,s_7),(8,.pointer (some ⟨gg,0,none⟩)),(9,.int .i64 q),(10,.int .i64 mo),(11,.int .i64 le),(12,s_12),(13,s_13),(98,.bool (decide ((n2:Int)≠q) || decide ((n1:Int)<le) || decide (mo<(n1:Int))))] a'→Q .normal a' w):∀ac,Frm 150 [(1,s_1),(2,s_2),(4,s_4),(5,v),(6,s_6),(7,s_7),(8,.pointer (some ⟨gg,0,none⟩)),(9,.int .i64 q),(10,.int .i64 mo),(11,.int .i64 le),(12,s_12),(13,s_13)] ac→Code.wp Tryd.prog c_of_r22 Q ac w := by
  refine fO (frame_of ?_)
  intros
  rename_i hq
  iterate 12 (obtain ⟨e,hq⟩ := hq; obtain rfl := sI e; clear e)
  clear hq
  conv=>arg 2; whnf
  have g0 := cellv hs.g 0 rfl
  have g1 := cellv hs.g 1 rfl
  have g2 := cellv hs.g 2 rfl
  have g3 := cellv hs.g 3 rfl
  have gl := lt_heap hs.g
  replace hs := Lib.hid hs
  by_cases h1:(n2:Int)=q
  case neg =>
    have t1:((n2:Int) != q)=true := bne_iff_ne.2 h1
    rw [show (decide ((n2:Int)≠q) || decide ((n1:Int)<le) || decide (mo<(n1:Int)))=true from by simp [h1]] at hN
    clear h1
    replace hN := Lib.hid hN
    go_wp2_with fail
    exact hN.out _ (by exact fR rfl rfl rfl)
  have t1:((n2:Int) != q)=false := by rw [bne_eq_false_iff_eq]; exact h1
  by_cases h2:(n1:Int)<le
  · have t2:decide ((n1:Int)<le)=true := decide_eq_true h2
    rw [show (decide ((n2:Int)≠q) || decide ((n1:Int)<le) || decide (mo<(n1:Int)))=true from by simp [h2]] at hN
    clear h1 h2
    replace hN := Lib.hid hN
    go_wp2_with fail
    exact hN.out _ (by exact fR rfl rfl rfl)
  have t2:decide ((n1:Int)<le)=false := decide_eq_false h2
  by_cases h3:mo<(n1:Int)
  · have t3:decide (mo<(n1:Int))=true := decide_eq_true h3
    rw [show (decide ((n2:Int)≠q) || decide ((n1:Int)<le) || decide (mo<(n1:Int)))=true from by simp [h3]] at hN
    clear h1 h2 h3
    replace hN := Lib.hid hN
    go_wp2_with fail
    exact hN.out _ (by exact fR rfl rfl rfl)
  have t3:decide (mo<(n1:Int))=false := decide_eq_false h3
  rw [show (decide ((n2:Int)≠q) || decide ((n1:Int)<le) || decide (mo<(n1:Int)))=false from by simp only [t2,t3,Bool.or_false]; exact decide_eq_false (fun h=>h h1)] at hN
  clear h1 h2 h3
  replace hN := Lib.hid hN
  go_wp2_with fail
  exact hN.out _ (by exact fR rfl rfl rfl)
def c_of_r24 := sp 99 200801867 cF45
theorem of_r24_wp {L:List FmAt} (hn:nm.size≤maxLen) (hs:RD S wo w v L gx gg kd nm A n1 c1 B n2 c2 d) (hN:∀a',Frm 150 [(1,s_1),(2,s_2),(4,s_4),(5,v),(6,s_6),(7,s_7),(8,.pointer (some ⟨gg,0,none⟩)),(9,s_9),(10,s_10),(11,s_11),(12,.bool nb),(13,s_13),(105,.bool (nb && !okName nm))] a'→Q .normal a' w):∀ac,Frm 150 [(1,s_1),(2,s_2),(4,s_4),(5,v),(6,s_6),(7,s_7),(8,.pointer (some ⟨gg,0,none⟩)),(9,s_9),(10,s_10),(11,s_11),(12,.bool nb),(13,s_13)] ac→Code.wp Tryd.prog c_of_r24 Q ac w := by
  refine fO (frame_of ?_)
  intros
  rename_i hq
  iterate 12 (obtain ⟨e,hq⟩ := hq; obtain rfl := sI e; clear e)
  clear hq
  conv=>arg 2; whnf
  have g0 := cellv hs.g 0 rfl
  have g1 := cellv hs.g 1 rfl
  have g2 := cellv hs.g 2 rfl
  have g3 := cellv hs.g 3 rfl
  have gl := lt_heap hs.g
  have hnm := refName_any nm w hn
  replace hs := Lib.hid hs
  replace hnm := Lib.hid hnm
  cases nb
  · rw [show (false && !okName nm)=false from rfl] at hN
    replace hN := Lib.hid hN
    go_wp2_with fail
    exact hN.out _ (by exact fR rfl rfl rfl)
  · rw [show (true && !okName nm)=!okName nm from by simp] at hN
    replace hN := Lib.hid hN
    go_wp2_with fail
    (with_reducible refine hnm.out.mono ?_)
    rintro e w1 ⟨rfl,rfl⟩
    go_wp2_with fail
    exact hN.out _ (by exact fR rfl rfl rfl)
def c_of_r26 := sp 99 804781643 cF45
theorem of_r26_wp {L:List FmAt} (hs:RD S wo w v L gx gg kd nm A n1 c1 B n2 c2 d) (hN:∀a',Frm 150 [(1,s_1),(2,s_2),(4,s_4),(5,v),(6,s_6),(7,s_7),(8,.pointer (some ⟨gg,0,none⟩)),(9,s_9),(10,s_10),(11,s_11),(12,.bool nb),(13,s_13),(112,.bool (!nb && decide (nm≠bNilF)))] a'→Q .normal a' w):∀ac,Frm 150 [(1,s_1),(2,s_2),(4,s_4),(5,v),(6,s_6),(7,s_7),(8,.pointer (some ⟨gg,0,none⟩)),(9,s_9),(10,s_10),(11,s_11),(12,.bool nb),(13,s_13)] ac→Code.wp Tryd.prog c_of_r26 Q ac w := by
  refine fO (frame_of ?_)
  intros
  rename_i hq
  iterate 12 (obtain ⟨e,hq⟩ := hq; obtain rfl := sI e; clear e)
  clear hq
  conv=>arg 2; whnf
  have g0 := cellv hs.g 0 rfl
  have g1 := cellv hs.g 1 rfl
  have g2 := cellv hs.g 2 rfl
  have g3 := cellv hs.g 3 rfl
  have gl := lt_heap hs.g
  replace hs := Lib.hid hs
  cases nb
  case true =>
    rw [show (!true && decide (nm≠bNilF))=false from rfl] at hN
    replace hN := Lib.hid hN
    go_wp2_with fail
    exact hN.out _ (by exact fR rfl rfl rfl)
  rw [show (!false && decide (nm≠bNilF))=decide (nm≠bNilF) from by simp] at hN
  by_cases hz:nm=bNilF
  · subst hz
    have t1:bNilF.toList.isEmpty=true := by simp [ByteArray.toList_eq,bNilF]
    rw [show decide (bNilF≠bNilF)=false from decide_eq_false (fun h=>h rfl)] at hN
    replace hN := Lib.hid hN
    go_wp2_with fail
    exact hN.out _ (by exact fR rfl rfl rfl)
  · have t1:nm.toList.isEmpty=false := by
      cases e:nm.toList.isEmpty
      · rfl
      · exact absurd (bytes_inj (by rw [List.isEmpty_iff.1 e]; simp [bNilF])) hz
    rw [show decide (nm≠bNilF)=true from decide_eq_true hz] at hN
    clear hz
    replace hN := Lib.hid hN
    go_wp2_with fail
    exact hN.out _ (by exact fR rfl rfl rfl)
def c_of_r28 := sp 99 3220700747 cF45
theorem of_r28_wp {L:List FmAt} (hs:RD S wo w v L gx gg kd nm A n1 c1 B n2 c2 d) (hN:∀a',Frm 150 [(1,s_1),(2,s_2),(4,s_4),(5,v),(6,s_6),(7,s_7),(8,.pointer (some ⟨gg,0,none⟩)),(9,s_9),(10,s_10),(11,s_11),(12,s_12),(13,s_13),(114,.slice A n1 c1),(115,.int .i64 (n1:Nat)),(116,.int .i64 (0:Nat))] a'→Q .normal a' w):∀ac,Frm 150 [(1,s_1),(2,s_2),(4,s_4),(5,v),(6,s_6),(7,s_7),(8,.pointer (some ⟨gg,0,none⟩)),(9,s_9),(10,s_10),(11,s_11),(12,s_12),(13,s_13)] ac→Code.wp Tryd.prog c_of_r28 Q ac w := by
  refine fO (frame_of ?_)
  intros
  rename_i hq
  iterate 12 (obtain ⟨e,hq⟩ := hq; obtain rfl := sI e; clear e)
  clear hq
  conv=>arg 2; whnf
  have g0 := cellv hs.g 0 rfl
  have g1 := cellv hs.g 1 rfl
  have g2 := cellv hs.g 2 rfl
  have g3 := cellv hs.g 3 rfl
  have gl := lt_heap hs.g
  replace hs := Lib.hid hs
  replace hN := Lib.hid hN
  go_wp2_with fail
  exact hN.out _ (by exact fR rfl rfl rfl)
def c_of_r29 := sp 99 19326828107 cF45
theorem of_r29_wp (hN:∀a',Frm 150 [(1,s_1),(2,s_2),(4,s_4),(5,v),(6,s_6),(7,s_7),(8,s_8),(9,s_9),(10,s_10),(11,s_11),(12,s_12),(13,s_13),(114,s_114),(115,.int .i64 (n1:Nat)),(116,.int .i64 (i:Nat)),(117,.bool (decide (i<n1)))] a'→Q .normal a' w):∀ac,Frm 150 [(1,s_1),(2,s_2),(4,s_4),(5,v),(6,s_6),(7,s_7),(8,s_8),(9,s_9),(10,s_10),(11,s_11),(12,s_12),(13,s_13),(114,s_114),(115,.int .i64 (n1:Nat)),(116,.int .i64 (i:Nat))] ac→Code.wp Tryd.prog c_of_r29 Q ac w := by
  refine fO (frame_of ?_)
  intros
  rename_i hq
  iterate 15 (obtain ⟨e,hq⟩ := hq; obtain rfl := sI e; clear e)
  clear hq
  conv=>arg 2; whnf
  by_cases h:i<n1
  · have t1:decide ((i:Int)<(n1:Int))=true := by first | exact decide_eq_true (by omega) | exact beq_iff_eq.2 (by omega) | exact bne_iff_ne.2 (by omega)
    have t2:(decide (i<n1))=true := decide_eq_true h
    rw [t2] at hN
    clear h
    replace hN := Lib.hid hN
    go_wp2_with fail
    exact hN.out _ (by exact fR rfl rfl rfl)
  · have t1:decide ((i:Int)<(n1:Int))=false := by first | exact decide_eq_false (by omega) | exact beq_eq_false_iff_ne.2 (by omega) | exact bne_eq_false_iff_eq.2 (by omega)
    have t2:(decide (i<n1))=false := decide_eq_false h
    rw [t2] at hN
    clear h
    replace hN := Lib.hid hN
    go_wp2_with fail
    exact hN.out _ (by exact fR rfl rfl rfl)
def c_of_r30 := sp 99 302794669643 cF45
theorem of_r30_wp (hi:i<n1) (hc:w.cell? ⟨b,o+i,none⟩=some (.string s)) (hbl:b<w.heap.size) (hN:∀a',Frm 150 [(1,s_1),(2,s_2),(4,s_4),(5,v),(6,s_6),(7,s_7),(8,s_8),(9,s_9),(10,s_10),(11,s_11),(12,s_12),(13,s_13),(114,.slice (some ⟨b,o,none⟩) n1 c1),(115,s_115),(116,.int .i64 (i:Nat)),(15,.string s)] a'→Q .normal a' w):∀ac,Frm 150 [(1,s_1),(2,s_2),(4,s_4),(5,v),(6,s_6),(7,s_7),(8,s_8),(9,s_9),(10,s_10),(11,s_11),(12,s_12),(13,s_13),(114,.slice (some ⟨b,o,none⟩) n1 c1),(115,s_115),(116,.int .i64 (i:Nat))] ac→Code.wp Tryd.prog c_of_r30 Q ac w := by
  refine fO (frame_of ?_)
  intros
  rename_i hq
  iterate 15 (obtain ⟨e,hq⟩ := hq; obtain rfl := sI e; clear e)
  clear hq
  conv=>arg 2; whnf
  have q0:(0:Int)≤(i:Int) := by omega
  have q1:(i:Int)<(n1:Int) := by omega
  replace hN := Lib.hid hN
  go_wp2_with fail
  exact hN.out _ (by exact fR rfl rfl rfl)
def c_of_r31 := sp 99 715111530059 cF45
theorem of_r31_wp (hsz:s.size≤maxLen) (hN:∀a',Frm 150 [(1,s_1),(2,s_2),(4,s_4),(5,v),(6,s_6),(7,s_7),(8,s_8),(9,s_9),(10,s_10),(11,s_11),(12,s_12),(13,s_13),(114,s_114),(115,s_115),(116,s_116),(15,.string s),(122,.bool (!okName s))] a'→Q .normal a' w):∀ac,Frm 150 [(1,s_1),(2,s_2),(4,s_4),(5,v),(6,s_6),(7,s_7),(8,s_8),(9,s_9),(10,s_10),(11,s_11),(12,s_12),(13,s_13),(114,s_114),(115,s_115),(116,s_116),(15,.string s)] ac→Code.wp Tryd.prog c_of_r31 Q ac w := by
  refine fO (frame_of ?_)
  intros
  rename_i hq
  iterate 16 (obtain ⟨e,hq⟩ := hq; obtain rfl := sI e; clear e)
  clear hq
  conv=>arg 2; whnf
  have hnm := refName_any s w hsz
  have HN := Lib.hid hN
  have HNM := Lib.hid hnm
  clear hN hnm
  go_wp2_with fail
  (with_reducible refine HNM.out.mono ?_)
  rintro e w1 ⟨rfl,rfl⟩
  go_wp2_with fail
  exact HN.out _ (by exact fR rfl rfl rfl)
def c_of_r32 := sp 99 1539745250891 cF45
theorem of_r32_wp {s_15:Value} (hN:∀a',Frm 150 [(1,s_1),(2,s_2),(4,s_4),(5,v),(6,s_6),(7,s_7),(8,s_8),(9,s_9),(10,s_10),(11,s_11),(12,s_12),(13,.int .i64 (10:Nat)),(114,s_114),(115,s_115),(116,s_116),(15,s_15)] a'→Q .normal a' w):∀ac,Frm 150 [(1,s_1),(2,s_2),(4,s_4),(5,v),(6,s_6),(7,s_7),(8,s_8),(9,s_9),(10,s_10),(11,s_11),(12,s_12),(13,.int .i64 (cd:Nat)),(114,s_114),(115,s_115),(116,s_116),(15,s_15)] ac→Code.wp Tryd.prog c_of_r32 Q ac w := by
  refine fO (frame_of ?_)
  intros
  rename_i hq
  iterate 16 (obtain ⟨e,hq⟩ := hq; obtain rfl := sI e; clear e)
  clear hq
  conv=>arg 2; whnf
  replace hN := Lib.hid hN
  go_wp2_with fail
  exact hN.out _ (by exact fR rfl rfl rfl)
def c_of_r33 := sp 99 130995977803 cF45
theorem of_r33_wp (hi:i<n1) (hlim:n1≤maxLen) (hN:∀a',Frm 150 [(1,s_1),(2,s_2),(4,s_4),(5,v),(6,s_6),(7,s_7),(8,s_8),(9,s_9),(10,s_10),(11,s_11),(12,s_12),(13,s_13),(114,s_114),(115,s_115),(116,.int .i64 (i+1:Nat))] a'→Q .normal a' w):∀ac,Frm 150 [(1,s_1),(2,s_2),(4,s_4),(5,v),(6,s_6),(7,s_7),(8,s_8),(9,s_9),(10,s_10),(11,s_11),(12,s_12),(13,s_13),(114,s_114),(115,s_115),(116,.int .i64 (i:Nat))] ac→Code.wp Tryd.prog c_of_r33 Q ac w := by
  refine fO (frame_of ?_)
  intros
  rename_i hq
  iterate 15 (obtain ⟨e,hq⟩ := hq; obtain rfl := sI e; clear e)
  clear hq
  conv=>arg 2; whnf
  have hi4:(i:Int)≤9223372036854775806 := by unfold maxLen at hlim; omega
  replace hN := Lib.hid hN
  go_wp2_with fail
  exact hN.out _ (by exact fR rfl rfl rfl)
def c_of_r34 := sp 99 5242443 cF45
theorem of_r34_wp (hN:∀a',Frm 150 [(1,s_1),(2,s_2),(4,s_4),(5,v),(6,s_6),(7,s_7),(8,s_8),(13,.int .i64 (cd:Nat)),(125,.bool (decide (cd≠0)))] a'→Q .normal a' w):∀ac,Frm 150 [(1,s_1),(2,s_2),(4,s_4),(5,v),(6,s_6),(7,s_7),(8,s_8),(13,.int .i64 (cd:Nat))] ac→Code.wp Tryd.prog c_of_r34 Q ac w := by
  refine fO (frame_of ?_)
  intros
  rename_i hq
  iterate 8 (obtain ⟨e,hq⟩ := hq; obtain rfl := sI e; clear e)
  clear hq
  conv=>arg 2; whnf
  by_cases h:cd≠0
  · have t1:((cd:Int) != 0)=true := by first | exact decide_eq_true (by omega) | exact beq_iff_eq.2 (by omega) | exact bne_iff_ne.2 (by omega)
    have t2:(decide (cd≠0))=true := decide_eq_true h
    rw [t2] at hN
    clear h
    replace hN := Lib.hid hN
    go_wp2_with fail
    exact hN.out _ (by exact fR rfl rfl rfl)
  · have t1:((cd:Int) != 0)=false := by first | exact decide_eq_false (by omega) | exact beq_eq_false_iff_ne.2 (by omega) | exact bne_eq_false_iff_eq.2 (by omega)
    have t2:(decide (cd≠0))=false := decide_eq_false h
    rw [t2] at hN
    clear h
    replace hN := Lib.hid hN
    go_wp2_with fail
    exact hN.out _ (by exact fR rfl rfl rfl)
def c_of_r35 := sp 99 19922507 cF45
theorem of_r35_wp (hr:w.heap[wo.heap.size+1]?=some (.cells #[.int .i64 0,.int .i64 0] 32 (0,0))) (hb:Below wo.heap.size wo w) (hN:∀a' w',Frm 150 [(4,.pointer (some ⟨wo.heap.size+1,0,none⟩))] a'→w'.heap[wo.heap.size+1]?=some (.cells #[.int .i64 (cd:Nat),.int .i64 (n:Nat)] 32 (0,0))→Below wo.heap.size wo w'→Q .normal a' w'):∀ac,Frm 150 [(1,s_1),(2,s_2),(4,.pointer (some ⟨wo.heap.size+1,0,none⟩)),(5,v),(6,.int .i64 (n:Nat)),(7,s_7),(8,s_8),(13,.int .i64 (cd:Nat))] ac→Code.wp Tryd.prog c_of_r35 Q ac w := by
  refine fO (frame_of ?_)
  intros
  rename_i hq
  iterate 8 (obtain ⟨e,hq⟩ := hq; obtain rfl := sI e; clear e)
  clear hq
  conv=>arg 2; whnf
  have rc0 := cellv hr 0 rfl
  have rc1 := cellv hr 1 rfl
  have rf0 := free_heap hr 0
  have rf1 := free_heap hr 1
  have rl := lt_heap hr
  have HR := Lib.hid hr
  have HBB := Lib.hid hb
  clear hr hb
  replace hN := Lib.hid hN
  go_wp2_with fail
  exact hN.out _ _ (id ⟨rfl,rfl,rfl,trivial⟩) (at2 HR.out) (below2 HBB.out (by omega))
def c_of_r36 := sp 99 6291019 cF45
theorem of_r36_wp {L:List FmAt} (h2:n2≤1000) (hs:RD S wo w v L gx gg kd nm A n1 c1 B n2 c2 d) (hN:∀a',Frm 150 [(1,s_1),(2,s_2),(4,s_4),(5,v),(6,s_6),(7,s_7),(8,.pointer (some ⟨gg,0,none⟩)),(16,.int .i64 ((n2:Int) - 1))] a'→Q .normal a' w):∀ac,Frm 150 [(1,s_1),(2,s_2),(4,s_4),(5,v),(6,s_6),(7,s_7),(8,.pointer (some ⟨gg,0,none⟩))] ac→Code.wp Tryd.prog c_of_r36 Q ac w := by
  refine fO (frame_of ?_)
  intros
  rename_i hq
  iterate 7 (obtain ⟨e,hq⟩ := hq; obtain rfl := sI e; clear e)
  clear hq
  conv=>arg 2; whnf
  have q9:(n2:Int)≤1000 := by omega
  have g0 := cellv hs.g 0 rfl
  have g1 := cellv hs.g 1 rfl
  have g2 := cellv hs.g 2 rfl
  have g3 := cellv hs.g 3 rfl
  have gl := lt_heap hs.g
  replace hs := Lib.hid hs
  replace hN := Lib.hid hN
  go_wp2_with fail
  exact hN.out _ (by exact fR rfl rfl rfl)
def c_of_r37 := sp 99 71302731 cF45
theorem of_r37_wp {j:Int} (hN:∀a',Frm 150 [(1,s_1),(2,s_2),(4,s_4),(5,v),(6,s_6),(7,s_7),(8,s_8),(16,.int .i64 j),(134,.bool (decide (0≤j)))] a'→Q .normal a' w):∀ac,Frm 150 [(1,s_1),(2,s_2),(4,s_4),(5,v),(6,s_6),(7,s_7),(8,s_8),(16,.int .i64 j)] ac→Code.wp Tryd.prog c_of_r37 Q ac w := by
  refine fO (frame_of ?_)
  intros
  rename_i hq
  iterate 8 (obtain ⟨e,hq⟩ := hq; obtain rfl := sI e; clear e)
  clear hq
  conv=>arg 2; whnf
  by_cases h:0≤j
  · have t1:decide (0≤j)=true := by first | exact decide_eq_true (by omega) | exact beq_iff_eq.2 (by omega) | exact bne_iff_ne.2 (by omega)
    have t2:(decide (0≤j))=true := decide_eq_true h
    rw [t2] at hN
    clear h
    replace hN := Lib.hid hN
    go_wp2_with fail
    exact hN.out _ (by exact fR rfl rfl rfl)
  · have t1:decide (0≤j)=false := by first | exact decide_eq_false (by omega) | exact beq_eq_false_iff_ne.2 (by omega) | exact bne_eq_false_iff_eq.2 (by omega)
    have t2:(decide (0≤j))=false := decide_eq_false h
    rw [t2] at hN
    clear h
    replace hN := Lib.hid hN
    go_wp2_with fail
    exact hN.out _ (by exact fR rfl rfl rfl)
def c_of_r38 := sp 99 121634379 cF45
theorem of_r38_wp (hi:i≤1000) (hN:∀a',Frm 150 [(1,s_1),(2,s_2),(4,s_4),(5,v),(6,s_6),(7,s_7),(8,s_8),(16,.int .i64 ((i:Int) - 1))] a'→Q .normal a' w):∀ac,Frm 150 [(1,s_1),(2,s_2),(4,s_4),(5,v),(6,s_6),(7,s_7),(8,s_8),(16,.int .i64 (i:Nat))] ac→Code.wp Tryd.prog c_of_r38 Q ac w := by
  refine fO (frame_of ?_)
  intros
  rename_i hq
  iterate 8 (obtain ⟨e,hq⟩ := hq; obtain rfl := sI e; clear e)
  clear hq
  conv=>arg 2; whnf
  have q9:(i:Int)≤1000 := by omega
  replace hN := Lib.hid hN
  go_wp2_with fail
  exact hN.out _ (by exact fR rfl rfl rfl)
def c_of_r4 := sp 99 459 cF45
theorem of_r4_wp (hn:n≤1000) (hN:∀a',Frm 150 [(1,s_1),(2,s_2),(4,s_4),(5,v),(6,.int .i64 (n+1:Nat))] a'→Q .normal a' w):∀ac,Frm 150 [(1,s_1),(2,s_2),(4,s_4),(5,v),(6,.int .i64 (n:Nat))] ac→Code.wp Tryd.prog c_of_r4 Q ac w := by
  refine fO (frame_of ?_)
  intros
  rename_i hq
  iterate 5 (obtain ⟨e,hq⟩ := hq; obtain rfl := sI e; clear e)
  clear hq
  conv=>arg 2; whnf
  have q9:(n:Int)≤1000 := by omega
  replace hN := Lib.hid hN
  go_wp2_with fail
  exact hN.out _ (by exact fR rfl rfl rfl)
def c_of_r40 := sp 99 23 cF45
theorem of_r40_wp (hr:w.heap[wo.heap.size+1]?=some (.cells #[.int .i64 0,.int .i64 0] 32 (0,0))) (hb:Below wo.heap.size wo w) (hN:∀a' w',Frm 150 [(4,.pointer (some ⟨wo.heap.size+1,0,none⟩))] a'→w'.heap[wo.heap.size+1]?=some (.cells #[.int .i64 0,.int .i64 0] 32 (0,0))→Below wo.heap.size wo w'→Q .normal a' w'):∀ac,Frm 150 [(4,.pointer (some ⟨wo.heap.size+1,0,none⟩))] ac→Code.wp Tryd.prog c_of_r40 Q ac w := by
  refine fO (frame_of ?_)
  intros
  rename_i hq
  iterate 1 (obtain ⟨e,hq⟩ := hq; obtain rfl := sI e; clear e)
  clear hq
  conv=>arg 2; whnf
  have rc0 := cellv hr 0 rfl
  have rc1 := cellv hr 1 rfl
  have rf0 := free_heap hr 0
  have rf1 := free_heap hr 1
  have rl := lt_heap hr
  have HR := Lib.hid hr
  have HBB := Lib.hid hb
  clear hr hb
  replace hN := Lib.hid hN
  go_wp2_with fail
  exact hN.out _ _ (id ⟨rfl,rfl,rfl,trivial⟩) (at2 HR.out) (below2 HBB.out (by omega))
theorem of_ret_wp {R:Ending→World→Prop} {g:Nat} {f0 f1:Int} (hg:w'.heap[g]?=some (.cells #[.int .i64 f0,.int .i64 f1] 32 (0,0))) (hR:R (.returned (.agg #[.int .i64 f0,.int .i64 f1])) w'):∀ac,Frm 150 [(4,.pointer (some ⟨g,0,none⟩))] ac→bodyPost Tryd.prog Tryd.f45 R .ret ac w' := by
  refine fO (frame_of ?_)
  intros
  rename_i hq
  iterate 1 (obtain ⟨e,hq⟩ := hq; obtain rfl := sI e; clear e)
  clear hq
  have z0 := cellv hg 0 rfl
  have z1 := cellv hg 1 rfl
  have zl := lt_heap hg
  refine bodyPost_ret (v := .agg #[.int .i64 f0,.int .i64 f1]) (by simp [results,Tryd.results45,go_sem,z0,z1,zl]) rfl ?_
  exact hR
def c_of_r39 := sp 99 155188811 cF45
theorem of_r39_wp {K:Act→World→Prop} {te:Fm} {ke:Int} {ne:ByteArray} {Ae Be:Option Addr} {n3 c3 n4 c4:Nat} {L:List FmAt} (hi:i<n2) (h2:n2≤1000) (hd:d≤100) (hLl:L.length≤1000) (hb0:b<wo.heap.size) (hSo:∀k,S k→k<wo.heap.size) (hte:fmRep.R w S te [.int .i64 ke,.string ne,.slice Ae n3 c3,.slice Be n4 c4]) (e0:w.cell? ⟨b,o+i * 4,none⟩=some (.int .i64 ke)) (e1:w.cell? ⟨b,o+i * 4+1,none⟩=some (.string ne)) (e2:w.cell? ⟨b,o+i * 4+2,none⟩=some (.slice Ae n3 c3)) (e3:w.cell? ⟨b,o+i * 4+3,none⟩=some (.slice Be n4 c4)) (hs:RD S wo w (.slice Aq L.length cq) L gx gg kd nm A n1 c1 (some ⟨b,o,none⟩) n2 c2 d) (hN:∀v' a' w',Frm 150 [(1,s_1),(2,s_2),(4,s_4),(5,v'),(6,s_6),(7,.pointer (some ⟨gx,0,none⟩)),(8,.pointer (some ⟨gg,0,none⟩)),(16,.int .i64 (i:Nat))] a'→RD S wo w' v' (L++[⟨te,d+1⟩]) gx gg kd nm A n1 c1 (some ⟨b,o,none⟩) n2 c2 d→K a' w'):∀ac,Frm 150 [(1,s_1),(2,s_2),(4,s_4),(5,.slice Aq L.length cq),(6,s_6),(7,.pointer (some ⟨gx,0,none⟩)),(8,.pointer (some ⟨gg,0,none⟩)),(16,.int .i64 (i:Nat))] ac→Code.wp Tryd.prog c_of_r39 (Exit.then K (fun _ _ _=>False)) ac w := by
  refine fO (frame_of ?_)
  intros
  rename_i hq
  iterate 8 (obtain ⟨e,hq⟩ := hq; obtain rfl := sI e; clear e)
  clear hq
  conv=>arg 2; whnf
  obtain ⟨ti,hti,hti0,hti1,hti2⟩ := info_parts infoFormAt
  have q0:(0:Int)≤(i:Int) := by omega
  have q1:(i:Int)<(n2:Int) := by omega
  have q9:(d:Int)≤1000 := by omega
  have hwd:IntKind.i64.wrap ((d:Int)+1)=(d:Int)+1 := wrap_small _ (by omega) (by omega)
  obtain ⟨xs,hrow,hall⟩ := id hs.own
  have g0 := cellv hs.g 0 rfl
  have g1 := cellv hs.g 1 rfl
  have g2 := cellv hs.g 2 rfl
  have g3 := cellv hs.g 3 rfl
  have gl := lt_heap hs.g
  have x4 := cellv hs.x 4 rfl
  have xl := lt_heap hs.x
  have hbk := hs.own.block
  have hkb:(Value.slice Aq L.length cq).ownBlock≠some b := fun e=>by have := hbk _ e; omega
  have hwo := hs.b.size
  have hlg := hs.lg
  have lb:b<w.heap.size := by omega
  have hfin:∀(gq cap:Nat) (w3:World),w3.ownsRow (wo.heap.size+2) 100 5 (.slice (some ⟨gq,0,none⟩) (L.length+1) cap) (L.length+1) (xs++[.int .i64 ke,.string ne,.slice Ae n3 c3,.slice Be n4 c4,.int .i64 ((d:Int)+1)])→((w.alloc (.cells #[.int .i64 ke,.string ne,.slice Ae n3 c3,.slice Be n4 c4,.int .i64 ((d:Int)+1)] 100)).drew).grownBy w3 (Value.slice Aq L.length cq).ownBlock→((Value.slice Aq L.length cq).ownBlock=some gq∨gq=w.heap.size+1)→RD S wo w3 (.slice (some ⟨gq,0,none⟩) (L.length+1) cap) (L++[⟨te,d+1⟩]) gx gg kd nm A n1 c1 (some ⟨b,o,none⟩) n2 c2 d := by
    intro gq cap w3 hown hgrow hat
    have hkk:∀k,k<w.heap.size→((w.alloc (.cells #[.int .i64 ke,.string ne,.slice Ae n3 c3,.slice Be n4 c4,.int .i64 ((d:Int)+1)] 100)).drew).heap[k]?=w.heap[k]? := fun k hk=>heap_drew (heap_old hk rfl)
    have hap := Rep.appended1 (ρ := fmAtRep) (H := w.heap.size+1) (S := S) (T := S) (a := ⟨te,d+1⟩) (hall.keep (fun k hk=>hkk k (by have := hSo k hk.1; omega)) (fun _ h=>h)) (news := [.int .i64 ke,.string ne,.slice Ae n3 c3,.slice Be n4 c4,.int .i64 ((d:Int)+1)])
      ⟨_,by simp,fmRep.keep hte (fun k hk=>hkk k (by have := hSo k hk; omega)) (fun _ h=>h)⟩ (fun k hk=>⟨hk,fun e=>by have := hbk _ e; have := hSo k hk; omega⟩) (fun k hk=>by have := hSo k hk; simp; omega) hown hgrow hat (by simp)
    refine hs.step hap ⟨hgrow.os,hgrow.tape,hgrow.output,by have := hgrow.size; simp at this; omega,fun k hk hne=>(hgrow.block k (by simp; omega) hne).trans (hkk k hk)⟩ (fun k e=>?_)
    simp only [Value.ownBlock,Option.some.injEq] at e
    rcases hat with h | h
    · exact Or.inl (by rw [h,e])
    · exact Or.inr (by omega)
  have HFIN := Lib.hid hfin
  have HROW := Lib.hid hrow
  have HNX := Lib.hid hs.nx
  have HNG := Lib.hid hs.ng
  have HNB := Lib.hid hkb
  clear hfin hrow hall hbk hte hkb hSo
  replace hs := Lib.hid hs
  go_region_law ((refine step_append_lies _ (by rfl) (.tmp 137) (.tmp 147) _ (by rfl) (wo.heap.size+2) 100 ti _ 5 80 Tryd.underlying101 hti hti0 hti1 hti2 rfl (by omega) (.slice Aq L.length cq) L.length xs (by rfl) (HROW.out.alloc _).drew ⟨w.heap.size,0,none⟩ 1 1 [.int .i64 ke,.string ne,.slice Ae n3 c3,.slice Be n4 c4,.int .i64 ((d:Int)+1)] (by rfl) (by rfl) (World.news_of_block (cs := #[.int .i64 ke,.string ne,.slice Ae n3 c3,.slice Be n4 c4,.int .i64 ((d:Int)+1)]) (t := 100) (fr := (0,0)) (heap_alloc_new w _)) (by simp [Value.oneCell']) (by omega) (by unfold maxLen; omega) (by omega) (by simp; omega) (w.heap.size+1) (by simp) ?_; intro gq cap w3 hown3 hgrow hat hlt; have hx := HFIN.out gq cap w3 hown3 hgrow hat; have HX := Lib.hid hx; clear hown3 hgrow hat hlt hx))
  all_goals go_wp2_with fail
  all_goals exact hN _ _ _ (by exact fR rfl rfl rfl) HX.out
end

end Go.Proofs.YthfokmjpbnfihaaDoor
