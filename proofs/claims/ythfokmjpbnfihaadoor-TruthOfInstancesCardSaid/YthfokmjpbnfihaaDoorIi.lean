/- Lemmas. -/
import Derived.Test.YthfokmjpbnfihaaDoorIg
import Derived.Test.YthfokmjpbnfihaaDoorId
import Derived.Deep.DeepCutAuto
import Derived.BigQuiet
namespace Go.Proofs.YthfokmjpbnfihaaDoor
open Go Go.RowKit
set_option linter.unusedSimpArgs false
set_option linter.unusedVariables false
noncomputable section
set_option maxRecDepth 1000000
set_option maxHeartbeats 16000000
variable {wo w w':World} {bn n m n1 c1 n2 c2:Nat} {kd q:Int} {nm:ByteArray} {A B:Option Addr} {s_1 s_2 s_3 s_4 s_5 s_7 s_9 s_10 s_11:Value} {Q:Exit→Act→World→Prop} {bb:Bool}

def subsI (hole:Bool) (k:Int):Int := match subsF hole k with | none=>-1 | some n=>n
theorem subs_any (k:Int) (w:World):Calls Tryd.prog 65 #[.int .i64 k] w fun e w'=>e=.returned (.int .i64 (subsI false k))∧w=w' := by
  have key:∀r:Int,subsI false k=r→Hid (∀w:World,Calls Tryd.prog 65 #[.int .i64 k] w fun e w'=>e=.returned (.int .i64 r)∧w=w')→Calls Tryd.prog 65 #[.int .i64 k] w fun e w'=>e=.returned (.int .i64 (subsI false k))∧w=w' := fun r e h=>by rw [e]; exact h.out w
  by_cases k1:k=1
  · subst k1
    refine key 0 rfl (Lib.hid (fun w=>?_))
    go_enter Tryd.func65,Tryd.ntmps65
    go_wp2_with fail
    go_returns
    exact ⟨rfl,rfl⟩
  have g1:(k == 1)=false := beq_eq_false_iff_ne.2 k1
  by_cases k2:k=2
  · subst k2
    refine key 0 rfl (Lib.hid (fun w=>?_))
    go_enter Tryd.func65,Tryd.ntmps65
    go_wp2_with fail
    go_returns
    exact ⟨rfl,rfl⟩
  have g2:(k == 2)=false := beq_eq_false_iff_ne.2 k2
  by_cases k3:k=3
  · subst k3
    refine key 0 rfl (Lib.hid (fun w=>?_))
    go_enter Tryd.func65,Tryd.ntmps65
    go_wp2_with fail
    go_returns
    exact ⟨rfl,rfl⟩
  have g3:(k == 3)=false := beq_eq_false_iff_ne.2 k3
  by_cases k4:k=4
  · subst k4
    refine key 1 rfl (Lib.hid (fun w=>?_))
    go_enter Tryd.func65,Tryd.ntmps65
    go_wp2_with fail
    go_returns
    exact ⟨rfl,rfl⟩
  have g4:(k == 4)=false := beq_eq_false_iff_ne.2 k4
  by_cases k8:k=8
  · subst k8
    refine key 1 rfl (Lib.hid (fun w=>?_))
    go_enter Tryd.func65,Tryd.ntmps65
    go_wp2_with fail
    go_returns
    exact ⟨rfl,rfl⟩
  have g8:(k == 8)=false := beq_eq_false_iff_ne.2 k8
  by_cases k9:k=9
  · subst k9
    refine key 1 rfl (Lib.hid (fun w=>?_))
    go_enter Tryd.func65,Tryd.ntmps65
    go_wp2_with fail
    go_returns
    exact ⟨rfl,rfl⟩
  have g9:(k == 9)=false := beq_eq_false_iff_ne.2 k9
  by_cases k5:k=5
  · subst k5
    refine key 2 rfl (Lib.hid (fun w=>?_))
    go_enter Tryd.func65,Tryd.ntmps65
    go_wp2_with fail
    go_returns
    exact ⟨rfl,rfl⟩
  have g5:(k == 5)=false := beq_eq_false_iff_ne.2 k5
  by_cases k6:k=6
  · subst k6
    refine key 2 rfl (Lib.hid (fun w=>?_))
    go_enter Tryd.func65,Tryd.ntmps65
    go_wp2_with fail
    go_returns
    exact ⟨rfl,rfl⟩
  have g6:(k == 6)=false := beq_eq_false_iff_ne.2 k6
  by_cases k7:k=7
  · subst k7
    refine key 2 rfl (Lib.hid (fun w=>?_))
    go_enter Tryd.func65,Tryd.ntmps65
    go_wp2_with fail
    go_returns
    exact ⟨rfl,rfl⟩
  have g7:(k == 7)=false := beq_eq_false_iff_ne.2 k7
  refine key (-1) (by unfold subsI subsF; rw [if_neg (by omega),if_neg (by omega),if_neg (by omega),if_neg (by rintro ⟨_,h⟩; cases h)]) (Lib.hid (fun w=>?_))
  clear key k1 k2 k3 k4 k5 k6 k7 k8 k9
  go_enter Tryd.func65,Tryd.ntmps65
  go_wp2_with fail
  go_returns
  exact ⟨rfl,rfl⟩
def isQu (k:Int):Bool := decide (k=8) || decide (k=9)
theorem quant_any (kd:Int) (nm:ByteArray) (A B:Option Addr) (n1 c1 n2 c2:Nat) (w:World):Calls Tryd.prog 31 #[.agg #[.int .i64 kd,.string nm,.slice A n1 c1,.slice B n2 c2]] w fun e w'=>e=.returned (.bool (isQu kd))∧Below w.heap.size w w' := by
  by_cases k8:kd=8
  · subst k8
    go_enter Tryd.func31,Tryd.ntmps31
    go_wp2_with fail
    go_returns
    exact ⟨rfl,by go_grown⟩
  have g8:(kd == 8)=false := beq_eq_false_iff_ne.2 k8
  by_cases k9:kd=9
  · subst k9
    go_enter Tryd.func31,Tryd.ntmps31
    go_wp2_with fail
    go_returns
    exact ⟨rfl,by go_grown⟩
  have g9:(kd == 9)=false := beq_eq_false_iff_ne.2 k9
  have hq:isQu kd=false := by simp [isQu,k8,k9]
  rw [hq]
  clear hq k8 k9
  go_enter Tryd.func31,Tryd.ntmps31
  go_wp2_with fail
  go_returns
  exact ⟨rfl,by go_grown⟩
theorem badF_any (b n:Nat) (code:Int) (w:World) (h:w.heap[b]? = some (.cells #[.int .i64 n] 3 (0,0))) :
    Calls Tryd.prog 64 #[.int .i64 code,.pointer (some ⟨b,0,none⟩)] w fun e w'=>e=.returned (.agg #[.int .i64 code,.int .i64 n])∧Below w.heap.size w w' := by
  have h_0 := cv0 h
  have h_l := lt_heap h
  replace h := Lib.hid h
  go_enter Tryd.func64,Tryd.ntmps64
  go_wp2_with fail
  refine bodyPost_ret (v := .agg #[.int .i64 code,.int .i64 n]) (by simp [results,Tryd.results64,go_sem]) rfl ?_
  exact ⟨rfl,by go_grown⟩
theorem frame_ck {P:Act→Prop} (h:∀x0 x1 x2 x3 x4 x5 x6 x7 x8 x9 x10 x11 x12 x13 x14 x15 x16 x17 x18 x19 x20 x21 x22 x23 x24 x25 x26 x27 x28 x29 x30 x31 x32 x33 x34 x35 x36 x37 x38 x39 x40 x41 x42 x43 x44 x45 x46 x47 x48 x49 x50 x51 x52 x53 x54 x55 x56 x57 x58 x59 x60 x61 x62 x63 x64 x65 x66 x67 x68 x69 x70 x71 x72 x73 x74 x75 x76 x77 x78 x79 x80 x81 x82 x83 x84 x85 x86 x87 x88 x89 x90 x91 x92 x93 x94 x95 x96 x97 x98 x99 x100 x101 x102 x103 x104 x105 x106 x107 x108 x109 x110 x111 x112 x113 x114 x115 x116 x117 x118 x119 x120 x121 x122 x123 x124 x125 x126 x127 x128 x129 x130 x131 x132:Value,P ⟨(x0 :: x1 :: x2 :: x3 :: x4 :: x5 :: x6 :: x7 :: x8 :: x9 :: x10 :: x11 :: x12 :: x13 :: x14 :: x15 :: x16 :: x17 :: x18 :: x19 :: x20 :: x21 :: x22 :: x23 :: x24 :: x25 :: x26 :: x27 :: x28 :: x29 :: x30 :: x31 :: x32 :: x33 :: x34 :: x35 :: x36 :: x37 :: x38 :: x39 :: x40 :: x41 :: x42 :: x43 :: x44 :: x45 :: x46 :: x47 :: x48 :: x49 :: x50 :: x51 :: x52 :: x53 :: x54 :: x55 :: x56 :: x57 :: x58 :: x59 :: x60 :: x61 :: x62 :: x63 :: x64 :: x65 :: x66 :: x67 :: x68 :: x69 :: x70 :: x71 :: x72 :: x73 :: x74 :: x75 :: x76 :: x77 :: x78 :: x79 :: x80 :: x81 :: x82 :: x83 :: x84 :: x85 :: x86 :: x87 :: x88 :: x89 :: x90 :: x91 :: x92 :: x93 :: x94 :: x95 :: x96 :: x97 :: x98 :: x99 :: x100 :: x101 :: x102 :: x103 :: x104 :: x105 :: x106 :: x107 :: x108 :: x109 :: x110 :: x111 :: x112 :: x113 :: x114 :: x115 :: x116 :: x117 :: x118 :: x119 :: x120 :: x121 :: x122 :: x123 :: x124 :: x125 :: x126 :: x127 :: x128 :: x129 :: x130 :: x131 :: x132 :: []).toArray,[]⟩):∀a:Act,a.tmps.toList.length=133→a.defers=[]→P a := by
  rintro ⟨⟨l⟩,d⟩ hs hd
  simp only at hd
  subst hd
  revert l
  show ∀l:List Value,l.length=133→P ⟨⟨l⟩,[]⟩
  iterate 133 refine openS (fun _=>?_)
  refine open0 ?_
  exact h ..
structure CS (wo w:World) (bn:Nat) (kd:Int) (nm:ByteArray) (A:Option Addr) (n1 c1:Nat) (B:Option Addr) (n2 c2:Nat) (n m:Nat):Prop where
  a:w.heap[wo.heap.size]? = some (.cells #[.int .i64 kd,.string nm,.slice A n1 c1,.slice B n2 c2] 29 (0,0))
  r:w.heap[wo.heap.size+1]? = some (.cells #[.int .i64 0,.int .i64 0] 32 (0,0))
  p:w.heap[wo.heap.size+1+1]? = some (.cells #[.int .i64 n] 3 (0,0))
  c:w.heap[bn]? = some (.cells #[.int .i64 m] 3 (0,0))
  k:Keeps (·=bn) wo w
  l:bn<wo.heap.size
structure CD (wo w:World) (bn m:Nat) (f0 f1:Value):Prop where
  r:w.heap[wo.heap.size+1]? = some (.cells #[f0,f1] 32 (0,0))
  c:w.heap[bn]? = some (.cells #[.int .i64 m] 3 (0,0))
  k:Keeps (·=bn) wo w
theorem CS.keeps {m':Nat} (h:CS wo w bn kd nm A n1 c1 B n2 c2 n m) (hk:Keeps (·=bn) w w') (hc:w'.heap[bn]? = some (.cells #[.int .i64 m'] 3 (0,0))):CS wo w' bn kd nm A n1 c1 B n2 c2 n m' :=
  have l1 := h.l
  have l2 := lt_heap h.a
  have l3 := lt_heap h.r
  have l4 := lt_heap h.p
  ⟨(hk.block _ l2 (by omega)).trans h.a,(hk.block _ l3 (by omega)).trans h.r,(hk.block _ l4 (by omega)).trans h.p,hc,h.k.trans hk,l1⟩
theorem CS.below (h:CS wo w bn kd nm A n1 c1 B n2 c2 n m) (hb:Below w.heap.size w w'):CS wo w' bn kd nm A n1 c1 B n2 c2 n m := h.keeps (Below.keeps hb _) ((hb.block _ (lt_heap h.c)).trans h.c)
theorem CS.put (h:CS wo w bn kd nm A n1 c1 B n2 c2 n m) (f0 f1:Value):CD wo ((w.setCell ⟨wo.heap.size+1,0,none⟩ f0).setCell ⟨wo.heap.size+1,1,none⟩ f1) bn m f0 f1 :=
  have l1 := h.l
  ⟨at2 h.r,far2 (by omega) h.c,(h.k.set (b := wo.heap.size+1) (Or.inr (by omega)) 0 _).set (b := wo.heap.size+1) (Or.inr (by omega)) 1 _⟩
theorem CS.old (h:CS wo w bn kd nm A n1 c1 B n2 c2 n m) {S:Nat→Prop} (hS:∀b,S b→b<wo.heap.size∧b≠bn):∀b,S b→w.heap[b]? = wo.heap[b]? := fun b hb=>h.k.block b (hS b hb).1 (hS b hb).2
theorem CS.start (hb:wo.heap[bn]? = some (.cells #[.int .i64 n] 3 (0,0))) :
    CS wo ((((wo.alloc (.cells #[.int .i64 kd,.string nm,.slice A n1 c1,.slice B n2 c2] 29)).alloc (.cells #[.int .i64 0,.int .i64 0] 32)).alloc (.cells #[.int .i64 n] 3)).setCell ⟨bn,0,none⟩ (.int .i64 (n+1:Nat))) bn kd nm A n1 c1 B n2 c2 n (n+1) := by
  have hl := lt_heap hb
  refine ⟨heap_far _ (by omega) (heap_old (by simp; omega) (heap_old (by simp) (heap_at rfl))),heap_far _ (by omega) (heap_old (by simp) (heap_at (by simp))),heap_far _ (by omega) (heap_at (by simp)),?_,?_,hl⟩
  · have := heap_set (heap_old (o := .cells #[.int .i64 n] 3) (by simp; omega) (heap_old (o := .cells #[.int .i64 0,.int .i64 0] 32) (by simp; omega) (heap_old (o := .cells #[.int .i64 kd,.string nm,.slice A n1 c1,.slice B n2 c2] 29) hl hb))) 0 (.int .i64 (n+1:Nat))
    simpa using this
  · exact ((((Keeps.refl (·=bn) wo).alloc _).alloc _).alloc _).set (b := bn) (Or.inl rfl) 0 _
noncomputable def cF63:Code := Tryd.f63.body.getD .skip
def c_ck_r0 := sp 99 2 cF63
theorem ck_r0_wp (hN:∀a',Frm 133 [(1,s_1),(2,s_2),(3,s_3),(4,s_4),(5,.pointer (some ⟨wo.heap.size,0,none⟩)),(7,.pointer (some ⟨wo.heap.size+1,0,none⟩))] a'→Q .normal a' ((wo.alloc (.cells #[.int .i64 kd,.string nm,.slice A n1 c1,.slice B n2 c2] 29)).alloc (.cells #[.int .i64 0,.int .i64 0] 32))):∀ac,Frm 133 [(0,.agg #[.int .i64 kd,.string nm,.slice A n1 c1,.slice B n2 c2]),(1,s_1),(2,s_2),(3,s_3),(4,s_4)] ac→Code.wp Tryd.prog c_ck_r0 Q ac wo := by
  refine fO (frame_ck ?_)
  intros
  rename_i hq
  iterate 5 (obtain ⟨e,hq⟩ := hq; obtain rfl := sI e; clear e)
  clear hq
  conv=>arg 2; whnf
  replace hN := Lib.hid hN
  go_wp2_with fail
  exact hN.out _ (by exact fR rfl rfl rfl)
def c_ck_r1 := sp 99 5 cF63
theorem ck_r1_wp (hc:w.heap[bn]? = some (.cells #[.int .i64 n] 3 (0,0))) (hN:∀a',Frm 133 [(1,s_1),(2,.pointer (some ⟨bn,0,none⟩)),(3,s_3),(4,s_4),(5,s_5),(7,s_7),(8,.pointer (some ⟨w.heap.size,0,none⟩))] a'→Q .normal a' (w.alloc (.cells #[.int .i64 n] 3))):∀ac,Frm 133 [(1,s_1),(2,.pointer (some ⟨bn,0,none⟩)),(3,s_3),(4,s_4),(5,s_5),(7,s_7)] ac→Code.wp Tryd.prog c_ck_r1 Q ac w := by
  refine fO (frame_ck ?_)
  intros
  rename_i hq
  iterate 6 (obtain ⟨e,hq⟩ := hq; obtain rfl := sI e; clear e)
  clear hq
  conv=>arg 2; whnf
  have c0 := cellv hc 0 rfl
  have cl := lt_heap hc
  clear hc
  replace hN := Lib.hid hN
  go_wp2_with fail
  exact hN.out _ (by exact fR rfl rfl rfl)
def c_ck_r2 := sp 99 11 cF63
theorem ck_r2_wp {v8:Value} (hn:n≤200) (hc:w.heap[bn]? = some (.cells #[.int .i64 n] 3 (0,0))) (hN:∀a',Frm 133 [(1,s_1),(2,.pointer (some ⟨bn,0,none⟩)),(3,s_3),(4,s_4),(5,s_5),(7,s_7),(8,v8)] a'→Q .normal a' (w.setCell ⟨bn,0,none⟩ (.int .i64 ((n:Int)+1)))):∀ac,Frm 133 [(1,s_1),(2,.pointer (some ⟨bn,0,none⟩)),(3,s_3),(4,s_4),(5,s_5),(7,s_7),(8,v8)] ac→Code.wp Tryd.prog c_ck_r2 Q ac w := by
  refine fO (frame_ck ?_)
  intros
  rename_i hq
  iterate 7 (obtain ⟨e,hq⟩ := hq; obtain rfl := sI e; clear e)
  clear hq
  conv=>arg 2; whnf
  have c0 := cellv hc 0 rfl
  have cf := free_heap hc 0
  have cl := lt_heap hc
  have hn4:(n:Int)≤5000 := by omega
  clear hc
  replace hN := Lib.hid hN
  go_wp2_with fail
  exact hN.out _ (by exact fR rfl rfl rfl)
def c_ck_r3 := sp 99 23 cF63
theorem ck_r3_wp (hN:∀a',Frm 133 [(1,s_1),(2,s_2),(3,s_3),(4,s_4),(5,s_5),(7,s_7),(9,(.func (Fn.func 64) #[] #[.pointer (some ⟨wo.heap.size+1+1,0,none⟩)]))] a'→Q .normal a' w):∀ac,Frm 133 [(1,s_1),(2,s_2),(3,s_3),(4,s_4),(5,s_5),(7,s_7),(8,.pointer (some ⟨wo.heap.size+1+1,0,none⟩))] ac→Code.wp Tryd.prog c_ck_r3 Q ac w := by
  refine fO (frame_ck ?_)
  intros
  rename_i hq
  iterate 7 (obtain ⟨e,hq⟩ := hq; obtain rfl := sI e; clear e)
  clear hq
  conv=>arg 2; whnf
  replace hN := Lib.hid hN
  go_wp2_with fail
  exact hN.out _ (by exact fR rfl rfl rfl)
def c_ck_r4 := sp 99 79 cF63
theorem ck_r4_wp {d:Nat} (hs:CS wo w bn kd nm A n1 c1 B n2 c2 n m) (hN:∀a',Frm 133 [(1,.int .i64 (d:Nat)),(2,.pointer (some ⟨bn,0,none⟩)),(3,s_3),(4,s_4),(5,s_5),(7,s_7),(9,s_9),(27,.bool (decide (200<m∨40<d)))] a'→Q .normal a' w):∀ac,Frm 133 [(1,.int .i64 (d:Nat)),(2,.pointer (some ⟨bn,0,none⟩)),(3,s_3),(4,s_4),(5,s_5),(7,s_7),(9,s_9)] ac→Code.wp Tryd.prog c_ck_r4 Q ac w := by
  refine fO (frame_ck ?_)
  intros
  rename_i hq
  iterate 7 (obtain ⟨e,hq⟩ := hq; obtain rfl := sI e; clear e)
  clear hq
  conv=>arg 2; whnf
  have cc := cellv hs.c 0 rfl
  have cf := free_heap hs.c 0
  have cl := lt_heap hs.c
  replace hs := Lib.hid hs
  by_cases h1:200<m
  · have t1:decide ((200:Int)<(m:Int))=true := decide_eq_true (by omega)
    rw [show decide (200<m∨40<d)=true from decide_eq_true (Or.inl h1)] at hN
    clear h1
    replace hN := Lib.hid hN
    go_wp2_with fail
    exact hN.out _ (by exact fR rfl rfl rfl)
  have t1:decide ((200:Int)<(m:Int))=false := decide_eq_false (by omega)
  by_cases h2:40<d
  · have t2:decide ((40:Int)<(d:Int))=true := decide_eq_true (by omega)
    rw [show decide (200<m∨40<d)=true from decide_eq_true (Or.inr h2)] at hN
    clear h1 h2
    replace hN := Lib.hid hN
    go_wp2_with fail
    exact hN.out _ (by exact fR rfl rfl rfl)
  · have t2:decide ((40:Int)<(d:Int))=false := decide_eq_false (by omega)
    rw [show decide (200<m∨40<d)=false from decide_eq_false (fun h=>by omega)] at hN
    clear h1 h2
    replace hN := Lib.hid hN
    go_wp2_with fail
    exact hN.out _ (by exact fR rfl rfl rfl)
def c_ck_r5 := sp 99 303 cF63
theorem ck_r5_wp (hs:CS wo w bn kd nm A n1 c1 B n2 c2 n m) (hN:∀a' w',Frm 133 [(7,.pointer (some ⟨wo.heap.size+1,0,none⟩))] a'→CD wo w' bn m (.int .i64 1) (.int .i64 (n:Nat))→Q .normal a' w'):∀ac,Frm 133 [(1,s_1),(2,s_2),(3,s_3),(4,s_4),(5,s_5),(7,.pointer (some ⟨wo.heap.size+1,0,none⟩)),(9,(.func (Fn.func 64) #[] #[.pointer (some ⟨wo.heap.size+1+1,0,none⟩)]))] ac→Code.wp Tryd.prog c_ck_r5 Q ac w := by
  refine fO (frame_ck ?_)
  intros
  rename_i hq
  iterate 7 (obtain ⟨e,hq⟩ := hq; obtain rfl := sI e; clear e)
  clear hq
  conv=>arg 2; whnf
  have hb := badF_any (wo.heap.size+1+1) n 1 w hs.p
  have HN := Lib.hid hN
  have HB := Lib.hid hb
  clear hN hb
  replace hs := Lib.hid hs
  go_wp2_with fail
  (with_reducible refine HB.out.mono ?_)
  rintro e w1 ⟨rfl,hb1⟩
  have hs := hs.out.below hb1
  have rc0 := cellv hs.r 0 rfl
  have rc1 := cellv hs.r 1 rfl
  have rf0 := free_heap hs.r 0
  have rf1 := free_heap hs.r 1
  have rl := lt_heap hs.r
  replace hs := Lib.hid hs
  clear hb1
  go_wp2_with fail
  exact HN.out _ _ (id ⟨rfl,rfl,rfl,trivial⟩) (hs.out.put _ _)
def c_ck_r6 := sp 99 95 cF63
theorem ck_r6_wp (hs:CS wo w bn kd nm A n1 c1 B n2 c2 n m) (hN:∀a',Frm 133 [(1,s_1),(2,s_2),(3,s_3),(4,s_4),(5,.pointer (some ⟨wo.heap.size,0,none⟩)),(7,s_7),(9,s_9),(10,.int .i64 (subsI false kd))] a'→Q .normal a' w):∀ac,Frm 133 [(1,s_1),(2,s_2),(3,s_3),(4,s_4),(5,.pointer (some ⟨wo.heap.size,0,none⟩)),(7,s_7),(9,s_9)] ac→Code.wp Tryd.prog c_ck_r6 Q ac w := by
  refine fO (frame_ck ?_)
  intros
  rename_i hq
  iterate 7 (obtain ⟨e,hq⟩ := hq; obtain rfl := sI e; clear e)
  clear hq
  conv=>arg 2; whnf
  have hsb := subs_any kd w
  have a0 := cellv hs.a 0 rfl
  have a1 := cellv hs.a 1 rfl
  have a2 := cellv hs.a 2 rfl
  have a3 := cellv hs.a 3 rfl
  have al := lt_heap hs.a
  have HN := Lib.hid hN
  have HSB := Lib.hid hsb
  clear hN hsb
  replace hs := Lib.hid hs
  go_wp2_with fail
  (with_reducible refine HSB.out.mono ?_)
  rintro e w1 ⟨rfl,rfl⟩
  go_wp2_with fail
  exact HN.out _ (by exact fR rfl rfl rfl)
def c_ck_r7 := sp 99 319 cF63
theorem ck_r7_wp {hole:Bool} {bo:Nat} (hs:CS wo w bn kd nm A n1 c1 B n2 c2 n m) (ho:w.heap[bo]? = some (.cells #[.bool hole] 4 (0,0))) (hN:∀a',Frm 133 [(1,s_1),(2,s_2),(3,.pointer (some ⟨bo,0,none⟩)),(4,s_4),(5,.pointer (some ⟨wo.heap.size,0,none⟩)),(7,s_7),(9,s_9),(10,s_10),(38,.bool (decide (kd=10) && hole))] a'→Q .normal a' w):∀ac,Frm 133 [(1,s_1),(2,s_2),(3,.pointer (some ⟨bo,0,none⟩)),(4,s_4),(5,.pointer (some ⟨wo.heap.size,0,none⟩)),(7,s_7),(9,s_9),(10,s_10)] ac→Code.wp Tryd.prog c_ck_r7 Q ac w := by
  refine fO (frame_ck ?_)
  intros
  rename_i hq
  iterate 8 (obtain ⟨e,hq⟩ := hq; obtain rfl := sI e; clear e)
  clear hq
  conv=>arg 2; whnf
  have o0 := cellv ho 0 rfl
  have ol := lt_heap ho
  have a0 := cellv hs.a 0 rfl
  have a1 := cellv hs.a 1 rfl
  have a2 := cellv hs.a 2 rfl
  have a3 := cellv hs.a 3 rfl
  have al := lt_heap hs.a
  replace hs := Lib.hid hs
  clear ho
  by_cases hk:kd=10
  · subst hk
    rw [show (decide ((10:Int)=10) && hole)=hole from by simp] at hN
    replace hN := Lib.hid hN
    go_wp2_with fail
    exact hN.out _ (by exact fR rfl rfl rfl)
  · have t1:(kd == 10)=false := beq_eq_false_iff_ne.2 hk
    rw [show (decide (kd=10) && hole)=false from by simp [hk]] at hN
    clear hk
    replace hN := Lib.hid hN
    go_wp2_with fail
    exact hN.out _ (by exact fR rfl rfl rfl)
def c_ck_r8 := sp 99 703 cF63
theorem ck_r8_wp (hN:∀a',Frm 133 [(1,s_1),(2,s_2),(3,s_3),(4,s_4),(5,s_5),(7,s_7),(9,s_9),(10,.int .i64 0)] a'→Q .normal a' w):∀ac,Frm 133 [(1,s_1),(2,s_2),(3,s_3),(4,s_4),(5,s_5),(7,s_7),(9,s_9),(10,.int .i64 q)] ac→Code.wp Tryd.prog c_ck_r8 Q ac w := by
  refine fO (frame_ck ?_)
  intros
  rename_i hq
  iterate 8 (obtain ⟨e,hq⟩ := hq; obtain rfl := sI e; clear e)
  clear hq
  conv=>arg 2; whnf
  replace hN := Lib.hid hN
  go_wp2_with fail
  exact hN.out _ (by exact fR rfl rfl rfl)
def c_ck_r9 := sp 99 639 cF63
theorem ck_r9_wp (hN:∀a',Frm 133 [(1,s_1),(2,s_2),(3,s_3),(4,s_4),(5,s_5),(7,s_7),(9,s_9),(10,.int .i64 q),(40,.bool (decide (q<0)))] a'→Q .normal a' w):∀ac,Frm 133 [(1,s_1),(2,s_2),(3,s_3),(4,s_4),(5,s_5),(7,s_7),(9,s_9),(10,.int .i64 q)] ac→Code.wp Tryd.prog c_ck_r9 Q ac w := by
  refine fO (frame_ck ?_)
  intros
  rename_i hq
  iterate 8 (obtain ⟨e,hq⟩ := hq; obtain rfl := sI e; clear e)
  clear hq
  conv=>arg 2; whnf
  by_cases h:q<0
  · have t1:decide (q<0)=true := decide_eq_true h
    rw [t1] at hN
    replace hN := Lib.hid hN
    go_wp2_with fail
    exact hN.out _ (by exact fR rfl rfl rfl)
  · have t1:decide (q<0)=false := decide_eq_false h
    rw [t1] at hN
    replace hN := Lib.hid hN
    go_wp2_with fail
    exact hN.out _ (by exact fR rfl rfl rfl)
def c_ck_r10 := sp 99 2431 cF63
theorem ck_r10_wp (hs:CS wo w bn kd nm A n1 c1 B n2 c2 n m) (hN:∀a' w',Frm 133 [(7,.pointer (some ⟨wo.heap.size+1,0,none⟩))] a'→CD wo w' bn m (.int .i64 4) (.int .i64 (n:Nat))→Q .normal a' w'):∀ac,Frm 133 [(1,s_1),(2,s_2),(3,s_3),(4,s_4),(5,s_5),(7,.pointer (some ⟨wo.heap.size+1,0,none⟩)),(9,(.func (Fn.func 64) #[] #[.pointer (some ⟨wo.heap.size+1+1,0,none⟩)]))] ac→Code.wp Tryd.prog c_ck_r10 Q ac w := by
  refine fO (frame_ck ?_)
  intros
  rename_i hq
  iterate 7 (obtain ⟨e,hq⟩ := hq; obtain rfl := sI e; clear e)
  clear hq
  conv=>arg 2; whnf
  have hb := badF_any (wo.heap.size+1+1) n 4 w hs.p
  have HN := Lib.hid hN
  have HB := Lib.hid hb
  clear hN hb
  replace hs := Lib.hid hs
  go_wp2_with fail
  (with_reducible refine HB.out.mono ?_)
  rintro e w1 ⟨rfl,hb1⟩
  have hs := hs.out.below hb1
  have rc0 := cellv hs.r 0 rfl
  have rc1 := cellv hs.r 1 rfl
  have rf0 := free_heap hs.r 0
  have rf1 := free_heap hs.r 1
  have rl := lt_heap hs.r
  replace hs := Lib.hid hs
  clear hb1
  go_wp2_with fail
  exact HN.out _ _ (id ⟨rfl,rfl,rfl,trivial⟩) (hs.out.put _ _)
def c_ck_r11 := sp 99 767 cF63
theorem ck_r11_wp (hs:CS wo w bn kd nm A n1 c1 B n2 c2 n m) (hN:∀a',Frm 133 [(1,s_1),(2,s_2),(3,s_3),(4,s_4),(5,.pointer (some ⟨wo.heap.size,0,none⟩)),(7,s_7),(9,s_9),(10,s_10),(11,.bool (decide (n1=0)))] a'→Q .normal a' w):∀ac,Frm 133 [(1,s_1),(2,s_2),(3,s_3),(4,s_4),(5,.pointer (some ⟨wo.heap.size,0,none⟩)),(7,s_7),(9,s_9),(10,s_10)] ac→Code.wp Tryd.prog c_ck_r11 Q ac w := by
  refine fO (frame_ck ?_)
  intros
  rename_i hq
  iterate 8 (obtain ⟨e,hq⟩ := hq; obtain rfl := sI e; clear e)
  clear hq
  conv=>arg 2; whnf
  have a0 := cellv hs.a 0 rfl
  have a1 := cellv hs.a 1 rfl
  have a2 := cellv hs.a 2 rfl
  have a3 := cellv hs.a 3 rfl
  have al := lt_heap hs.a
  replace hs := Lib.hid hs
  by_cases h:n1=0
  · have t1:((n1:Int) == 0)=true := beq_iff_eq.2 (by omega)
    rw [show decide (n1=0)=true from decide_eq_true h] at hN
    clear h
    replace hN := Lib.hid hN
    go_wp2_with fail
    exact hN.out _ (by exact fR rfl rfl rfl)
  · have t1:((n1:Int) == 0)=false := beq_eq_false_iff_ne.2 (by omega)
    rw [show decide (n1=0)=false from decide_eq_false h] at hN
    clear h
    replace hN := Lib.hid hN
    go_wp2_with fail
    exact hN.out _ (by exact fR rfl rfl rfl)
def c_ck_r12 := sp 99 2559 cF63
theorem ck_r12_wp (hs:CS wo w bn kd nm A n1 c1 B n2 c2 n m) (hN:∀a',Frm 133 [(1,s_1),(2,s_2),(3,s_3),(4,s_4),(5,.pointer (some ⟨wo.heap.size,0,none⟩)),(7,s_7),(9,s_9),(10,s_10),(11,s_11),(49,.bool (decide (kd=2)))] a'→Q .normal a' w):∀ac,Frm 133 [(1,s_1),(2,s_2),(3,s_3),(4,s_4),(5,.pointer (some ⟨wo.heap.size,0,none⟩)),(7,s_7),(9,s_9),(10,s_10),(11,s_11)] ac→Code.wp Tryd.prog c_ck_r12 Q ac w := by
  refine fO (frame_ck ?_)
  intros
  rename_i hq
  iterate 9 (obtain ⟨e,hq⟩ := hq; obtain rfl := sI e; clear e)
  clear hq
  conv=>arg 2; whnf
  have a0 := cellv hs.a 0 rfl
  have a1 := cellv hs.a 1 rfl
  have a2 := cellv hs.a 2 rfl
  have a3 := cellv hs.a 3 rfl
  have al := lt_heap hs.a
  replace hs := Lib.hid hs
  by_cases h:kd=2
  · subst h
    rw [show decide ((2:Int)=2)=true from rfl] at hN
    replace hN := Lib.hid hN
    go_wp2_with fail
    exact hN.out _ (by exact fR rfl rfl rfl)
  · have t1:(kd == 2)=false := beq_eq_false_iff_ne.2 h
    rw [show decide (kd=2)=false from decide_eq_false h] at hN
    clear h
    replace hN := Lib.hid hN
    go_wp2_with fail
    exact hN.out _ (by exact fR rfl rfl rfl)
def c_ck_r13 := sp 99 5631 cF63
theorem ck_r13_wp (hs:CS wo w bn kd nm A n1 c1 B n2 c2 n m) (hN:∀a',Frm 133 [(1,s_1),(2,s_2),(3,s_3),(4,s_4),(5,.pointer (some ⟨wo.heap.size,0,none⟩)),(7,s_7),(9,s_9),(10,s_10),(11,.bool (decide (n1≤3)))] a'→Q .normal a' w):∀ac,Frm 133 [(1,s_1),(2,s_2),(3,s_3),(4,s_4),(5,.pointer (some ⟨wo.heap.size,0,none⟩)),(7,s_7),(9,s_9),(10,s_10),(11,.bool bb)] ac→Code.wp Tryd.prog c_ck_r13 Q ac w := by
  refine fO (frame_ck ?_)
  intros
  rename_i hq
  iterate 9 (obtain ⟨e,hq⟩ := hq; obtain rfl := sI e; clear e)
  clear hq
  conv=>arg 2; whnf
  have a0 := cellv hs.a 0 rfl
  have a1 := cellv hs.a 1 rfl
  have a2 := cellv hs.a 2 rfl
  have a3 := cellv hs.a 3 rfl
  have al := lt_heap hs.a
  replace hs := Lib.hid hs
  by_cases h:n1≤3
  · have t1:decide ((n1:Int)≤3)=true := decide_eq_true (by omega)
    rw [show decide (n1≤3)=true from decide_eq_true h] at hN
    clear h
    replace hN := Lib.hid hN
    go_wp2_with fail
    exact hN.out _ (by exact fR rfl rfl rfl)
  · have t1:decide ((n1:Int)≤3)=false := decide_eq_false (by omega)
    rw [show decide (n1≤3)=false from decide_eq_false h] at hN
    clear h
    replace hN := Lib.hid hN
    go_wp2_with fail
    exact hN.out _ (by exact fR rfl rfl rfl)
def c_ck_r14 := sp 99 11775 cF63
theorem ck_r14_wp (hs:CS wo w bn kd nm A n1 c1 B n2 c2 n m) (hN:∀a',Frm 133 [(1,s_1),(2,s_2),(3,s_3),(4,s_4),(5,.pointer (some ⟨wo.heap.size,0,none⟩)),(7,s_7),(9,s_9),(10,s_10),(11,s_11),(56,.bool (decide (kd=3)))] a'→Q .normal a' w):∀ac,Frm 133 [(1,s_1),(2,s_2),(3,s_3),(4,s_4),(5,.pointer (some ⟨wo.heap.size,0,none⟩)),(7,s_7),(9,s_9),(10,s_10),(11,s_11)] ac→Code.wp Tryd.prog c_ck_r14 Q ac w := by
  refine fO (frame_ck ?_)
  intros
  rename_i hq
  iterate 9 (obtain ⟨e,hq⟩ := hq; obtain rfl := sI e; clear e)
  clear hq
  conv=>arg 2; whnf
  have a0 := cellv hs.a 0 rfl
  have a1 := cellv hs.a 1 rfl
  have a2 := cellv hs.a 2 rfl
  have a3 := cellv hs.a 3 rfl
  have al := lt_heap hs.a
  replace hs := Lib.hid hs
  by_cases h:kd=3
  · subst h
    rw [show decide ((3:Int)=3)=true from rfl] at hN
    replace hN := Lib.hid hN
    go_wp2_with fail
    exact hN.out _ (by exact fR rfl rfl rfl)
  · have t1:(kd == 3)=false := beq_eq_false_iff_ne.2 h
    rw [show decide (kd=3)=false from decide_eq_false h] at hN
    clear h
    replace hN := Lib.hid hN
    go_wp2_with fail
    exact hN.out _ (by exact fR rfl rfl rfl)
def c_ck_r15 := sp 99 24063 cF63
theorem ck_r15_wp (hs:CS wo w bn kd nm A n1 c1 B n2 c2 n m) (hN:∀a',Frm 133 [(1,s_1),(2,s_2),(3,s_3),(4,s_4),(5,.pointer (some ⟨wo.heap.size,0,none⟩)),(7,s_7),(9,s_9),(10,s_10),(11,.bool (decide (n1=2)))] a'→Q .normal a' w):∀ac,Frm 133 [(1,s_1),(2,s_2),(3,s_3),(4,s_4),(5,.pointer (some ⟨wo.heap.size,0,none⟩)),(7,s_7),(9,s_9),(10,s_10),(11,.bool bb)] ac→Code.wp Tryd.prog c_ck_r15 Q ac w := by
  refine fO (frame_ck ?_)
  intros
  rename_i hq
  iterate 9 (obtain ⟨e,hq⟩ := hq; obtain rfl := sI e; clear e)
  clear hq
  conv=>arg 2; whnf
  have a0 := cellv hs.a 0 rfl
  have a1 := cellv hs.a 1 rfl
  have a2 := cellv hs.a 2 rfl
  have a3 := cellv hs.a 3 rfl
  have al := lt_heap hs.a
  replace hs := Lib.hid hs
  by_cases h:n1=2
  · have t1:((n1:Int) == 2)=true := beq_iff_eq.2 (by omega)
    rw [show decide (n1=2)=true from decide_eq_true h] at hN
    clear h
    replace hN := Lib.hid hN
    go_wp2_with fail
    exact hN.out _ (by exact fR rfl rfl rfl)
  · have t1:((n1:Int) == 2)=false := beq_eq_false_iff_ne.2 (by omega)
    rw [show decide (n1=2)=false from decide_eq_false h] at hN
    clear h
    replace hN := Lib.hid hN
    go_wp2_with fail
    exact hN.out _ (by exact fR rfl rfl rfl)
def c_ck_r16 := sp 99 5119 cF63
theorem ck_r16_wp (hs:CS wo w bn kd nm A n1 c1 B n2 c2 n m) (hN:∀a',Frm 133 [(1,s_1),(2,s_2),(3,s_3),(4,s_4),(5,.pointer (some ⟨wo.heap.size,0,none⟩)),(7,s_7),(9,s_9),(69,.bool (decide ((n2:Int)≠q) || !bb))] a'→Q .normal a' w):∀ac,Frm 133 [(1,s_1),(2,s_2),(3,s_3),(4,s_4),(5,.pointer (some ⟨wo.heap.size,0,none⟩)),(7,s_7),(9,s_9),(10,.int .i64 q),(11,.bool bb)] ac→Code.wp Tryd.prog c_ck_r16 Q ac w := by
  refine fO (frame_ck ?_)
  intros
  rename_i hq
  iterate 9 (obtain ⟨e,hq⟩ := hq; obtain rfl := sI e; clear e)
  clear hq
  conv=>arg 2; whnf
  have a0 := cellv hs.a 0 rfl
  have a1 := cellv hs.a 1 rfl
  have a2 := cellv hs.a 2 rfl
  have a3 := cellv hs.a 3 rfl
  have al := lt_heap hs.a
  replace hs := Lib.hid hs
  by_cases h:(n2:Int)=q
  · have t1:((n2:Int) != q)=false := by rw [bne_eq_false_iff_eq]; exact h
    rw [show (decide ((n2:Int)≠q) || !bb)=!bb from by simp [h]] at hN
    clear h
    replace hN := Lib.hid hN
    cases bb
    · go_wp2_with fail
      exact hN.out _ (by exact fR rfl rfl rfl)
    · go_wp2_with fail
      exact hN.out _ (by exact fR rfl rfl rfl)
  · have t1:((n2:Int) != q)=true := bne_iff_ne.2 h
    rw [show (decide ((n2:Int)≠q) || !bb)=true from by simp [h]] at hN
    clear h
    replace hN := Lib.hid hN
    go_wp2_with fail
    exact hN.out _ (by exact fR rfl rfl rfl)
def c_ck_r17 := sp 99 19455 cF63
theorem ck_r17_wp (hs:CS wo w bn kd nm A n1 c1 B n2 c2 n m) (hN:∀a' w',Frm 133 [(7,.pointer (some ⟨wo.heap.size+1,0,none⟩))] a'→CD wo w' bn m (.int .i64 9) (.int .i64 (n:Nat))→Q .normal a' w'):∀ac,Frm 133 [(1,s_1),(2,s_2),(3,s_3),(4,s_4),(5,s_5),(7,.pointer (some ⟨wo.heap.size+1,0,none⟩)),(9,(.func (Fn.func 64) #[] #[.pointer (some ⟨wo.heap.size+1+1,0,none⟩)]))] ac→Code.wp Tryd.prog c_ck_r17 Q ac w := by
  refine fO (frame_ck ?_)
  intros
  rename_i hq
  iterate 7 (obtain ⟨e,hq⟩ := hq; obtain rfl := sI e; clear e)
  clear hq
  conv=>arg 2; whnf
  have hb := badF_any (wo.heap.size+1+1) n 9 w hs.p
  have HN := Lib.hid hN
  have HB := Lib.hid hb
  clear hN hb
  replace hs := Lib.hid hs
  go_wp2_with fail
  (with_reducible refine HB.out.mono ?_)
  rintro e w1 ⟨rfl,hb1⟩
  have hs := hs.out.below hb1
  have rc0 := cellv hs.r 0 rfl
  have rc1 := cellv hs.r 1 rfl
  have rf0 := free_heap hs.r 0
  have rf1 := free_heap hs.r 1
  have rl := lt_heap hs.r
  replace hs := Lib.hid hs
  clear hb1
  go_wp2_with fail
  exact HN.out _ _ (id ⟨rfl,rfl,rfl,trivial⟩) (hs.out.put _ _)
end

end Go.Proofs.YthfokmjpbnfihaaDoor
