/- Lemmas. -/
import Derived.Test.YthfokmjpbnfihaaDoorIi
import Derived.Test.YthfokmjpbnfihaaDoorIh
import Derived.Deep.RegionLawGrows
import Derived.ArgAppend
import Derived.Deep.RegionLaw
namespace Go.Proofs.YthfokmjpbnfihaaDoor
open Go Go.RowKit
set_option linter.unusedSimpArgs false
set_option linter.unusedVariables false
noncomputable section
set_option maxRecDepth 1000000
set_option maxHeartbeats 16000000
variable {w w' wo:World} {bl n1 c1 n2 c2 m e i n3 c3 n4 c4:Nat} {l bd:List ByteArray} {v0 s_2 s_3 s_4 s_11 s_12 s_13 s_39 s_40:Value} {kd ke:Int} {nm s ne:ByteArray} {A B D Ae Be:Option Addr} {Q:Exit→Act→World→Prop} {K:Act→World→Prop}

theorem frame_cn {P:Act→Prop} (h:∀x0 x1 x2 x3 x4 x5 x6 x7 x8 x9 x10 x11 x12 x13 x14 x15 x16 x17 x18 x19 x20 x21 x22 x23 x24 x25 x26 x27 x28 x29 x30 x31 x32 x33 x34 x35 x36 x37 x38 x39 x40 x41 x42 x43 x44 x45 x46 x47 x48 x49:Value,P ⟨(x0 :: x1 :: x2 :: x3 :: x4 :: x5 :: x6 :: x7 :: x8 :: x9 :: x10 :: x11 :: x12 :: x13 :: x14 :: x15 :: x16 :: x17 :: x18 :: x19 :: x20 :: x21 :: x22 :: x23 :: x24 :: x25 :: x26 :: x27 :: x28 :: x29 :: x30 :: x31 :: x32 :: x33 :: x34 :: x35 :: x36 :: x37 :: x38 :: x39 :: x40 :: x41 :: x42 :: x43 :: x44 :: x45 :: x46 :: x47 :: x48 :: x49 :: []).toArray,[]⟩):∀a:Act,a.tmps.toList.length=50→a.defers=[]→P a := by
  rintro ⟨⟨l⟩,d⟩ hs hd
  simp only at hd
  subst hd
  revert l
  show ∀l:List Value,l.length=50→P ⟨⟨l⟩,[]⟩
  iterate 50 refine openS (fun _=>?_)
  refine open0 ?_
  exact h ..
theorem rowGrownF {base:Nat} {E:TypeId} {size n:Nat} {v:Value} {xs:List Value} (h:w.ownsRow base E size v n xs) (hk:∀b,b<w.heap.size→v.ownBlock=some b→w'.heap[b]? = w.heap[b]?):w'.ownsRow base E size v n xs := by
  obtain ⟨h1,h2⟩ := h
  refine ⟨h1,?_⟩
  rcases h2 with h2 | ⟨g,cap,cur,e,hg,hh,r⟩
  · exact Or.inl h2
  · exact Or.inr ⟨g,cap,cur,e,hg,(hk g (lt_heap hh) (by rw [e]; rfl)).trans hh,r⟩
structure LB (w:World) (bl:Nat) (v:Value) (l:List ByteArray):Prop where
  box:w.heap[bl]? = some (.cells #[v] 26 (0,0))
  row:w.ownsRow 0 9 1 v l.length (l.map .string)
  ne:v.ownBlock≠some bl
theorem LB.lt {v:Value} (h:LB w bl v l):∀b,v.ownBlock=some b→b<w.heap.size := fun b e=>(h.row.lt b e).2
theorem LB.keep {v:Value} (h:LB w bl v l) (h1:w'.heap[bl]? = w.heap[bl]?) (h2:∀b,b<w.heap.size→v.ownBlock=some b→w'.heap[b]? = w.heap[b]?):LB w' bl v l := ⟨h1.trans h.box,rowGrownF h.row h2,h.ne⟩
theorem LB.below {v:Value} (h:LB w bl v l) (hb:Below w.heap.size w w'):LB w' bl v l := h.keep (hb.block _ (lt_heap h.box)) (fun b hb' _=>hb.block b hb')
structure LK (w w':World) (bl:Nat) (v v':Value):Prop where
  os:w'.os=w.os
  tape:w'.tape=w.tape
  output:w'.output=w.output
  size:w.heap.size≤w'.heap.size
  block:∀k,k<w.heap.size→k≠bl→v.ownBlock≠some k→w'.heap[k]? = w.heap[k]?
  at_:∀k,v'.ownBlock=some k→v.ownBlock=some k∨w.heap.size≤k
theorem LK.refl (w:World) (bl:Nat) (v:Value):LK w w bl v v := ⟨rfl,rfl,rfl,Nat.le_refl _,fun _ _ _ _=>rfl,fun _ h=>Or.inl h⟩
theorem LK.trans {u v:World} {a b c:Value} (h:LK u v bl a b) (k:LK v w bl b c):LK u w bl a c :=
  ⟨k.os.trans h.os,k.tape.trans h.tape,k.output.trans h.output,Nat.le_trans h.size k.size,fun i h1 h2 h3=>(k.block i (Nat.lt_of_lt_of_le h1 h.size) h2 (fun e=>by rcases h.at_ i e with e | e; exact h3 e; omega)).trans (h.block i h1 h2 h3),
    fun i e=>by
      rcases k.at_ i e with e | e
      · exact h.at_ i e
      · exact Or.inr (Nat.le_trans h.size e)⟩
theorem LK.below (bl:Nat) (v:Value) (h:Below w.heap.size w w'):LK w w' bl v v := ⟨h.os,h.tape,h.output,h.size,fun k h1 _ _=>h.block k h1,fun _ h=>Or.inl h⟩
structure KS (wo w:World) (bl:Nat) (v0:Value) (kd:Int) (nm:ByteArray) (A:Option Addr) (n1 c1:Nat) (B:Option Addr) (n2 c2:Nat) (v:Value) (l:List ByteArray):Prop where
  a:w.heap[wo.heap.size]? = some (.cells #[.int .i64 kd,.string nm,.slice A n1 c1,.slice B n2 c2] 29 (0,0))
  b:LB w bl v l
  k:LK wo w bl v0 v
  l0:bl<wo.heap.size
  lv:∀k,v0.ownBlock=some k→k<wo.heap.size
theorem KS.av {v:Value} (h:KS wo w bl v0 kd nm A n1 c1 B n2 c2 v l):v.ownBlock≠some wo.heap.size := fun e=>by
  rcases h.k.at_ _ e with e1 | _
  · have := h.lv _ e1; omega
  · have hh := h.a
    rcases h.b.row.2 with ⟨e',_⟩ | ⟨g,cap,cur,e',_,hc,_⟩
    · rw [e'] at e; cases e
    · rw [e'] at e; injection e with e; subst e; rw [hc] at hh; injection hh with hh; injection hh with _ hh _; revert hh; decide
theorem KS.step {l':List ByteArray} {v v':Value} (h:KS wo w bl v0 kd nm A n1 c1 B n2 c2 v l) (hb:LB w' bl v' l') (hk:LK w w' bl v v'):KS wo w' bl v0 kd nm A n1 c1 B n2 c2 v' l' :=
  ⟨(hk.block _ (lt_heap h.a) (by have := h.l0; omega) h.av).trans h.a,hb,h.k.trans hk,h.l0,h.lv⟩
theorem KS.below {v:Value} (h:KS wo w bl v0 kd nm A n1 c1 B n2 c2 v l) (hb:Below w.heap.size w w'):KS wo w' bl v0 kd nm A n1 c1 B n2 c2 v l := h.step (h.b.below hb) (LK.below _ _ hb)
theorem KS.old {v:Value} (h:KS wo w bl v0 kd nm A n1 c1 B n2 c2 v l) {S:Nat→Prop} (hS:∀k,S k→k<wo.heap.size∧k≠bl∧v0.ownBlock≠some k):∀k,S k→w.heap[k]? = wo.heap[k]? := fun k hk=>h.k.block k (hS k hk).1 (hS k hk).2.1 (hS k hk).2.2
theorem infoStr:(Tryd.prog.info? 9).map (fun i=>(i.zero,i.size,i.bytes))=some (some (.string ⟨#[]⟩),1,16) := by kernel_rfl
noncomputable def cF66:Code := Tryd.f66.body.getD .skip
def c_cn_r0 := sp 99 2 cF66
theorem cn_r0_wp {v:Value} (hb:LB wo bl v l) (hN:∀a' w',Frm 50 [(1,(.slice D m e)),(2,s_2),(3,s_3),(4,.pointer (some ⟨wo.heap.size,0,none⟩))] a'→KS wo w' bl v kd nm A n1 c1 B n2 c2 v l→Q .normal a' w'):∀ac,Frm 50 [(0,.agg #[.int .i64 kd,.string nm,.slice A n1 c1,.slice B n2 c2]),(1,(.slice D m e)),(2,s_2),(3,s_3)] ac→Code.wp Tryd.prog c_cn_r0 Q ac wo := by
  refine fO (frame_cn ?_)
  intros
  rename_i hq
  iterate 4 (obtain ⟨e,hq⟩ := hq; obtain rfl := sI e; clear e)
  clear hq
  conv=>arg 2; whnf
  have hlb := lt_heap hb.box
  have hlv := hb.lt
  replace hb := Lib.hid hb
  have HN := Lib.hid hN
  have HLV := Lib.hid hlv
  clear hN hlv
  go_wp2_with fail
  exact HN.out _ _ (by exact fR rfl rfl rfl) ⟨heap_at rfl,hb.out.below ((Below.refl _ _).alloc (Nat.le_refl _) _),LK.below _ _ ((Below.refl _ _).alloc (Nat.le_refl _) _),hlb,HLV.out⟩
def c_cn_r1 := sp 99 9 cF66
theorem cn_r1_wp {v:Value} (hs:KS wo w bl v0 kd nm A n1 c1 B n2 c2 v l) (hN:∀a',Frm 50 [(1,(.slice D m e)),(2,s_2),(3,s_3),(4,.pointer (some ⟨wo.heap.size,0,none⟩)),(11,.slice A n1 c1),(12,.int .i64 (n1:Nat)),(13,.int .i64 (0:Nat))] a'→Q .normal a' w):∀ac,Frm 50 [(1,(.slice D m e)),(2,s_2),(3,s_3),(4,.pointer (some ⟨wo.heap.size,0,none⟩))] ac→Code.wp Tryd.prog c_cn_r1 Q ac w := by
  refine fO (frame_cn ?_)
  intros
  rename_i hq
  iterate 4 (obtain ⟨e,hq⟩ := hq; obtain rfl := sI e; clear e)
  clear hq
  conv=>arg 2; whnf
  have a0 := cellv hs.a 0 rfl
  have a1 := cellv hs.a 1 rfl
  have a2 := cellv hs.a 2 rfl
  have a3 := cellv hs.a 3 rfl
  have al := lt_heap hs.a
  replace hs := Lib.hid hs
  replace hN := Lib.hid hN
  go_wp2_with fail
  exact hN.out _ (by exact fR rfl rfl rfl)
def c_cn_r2 := sp 99 69 cF66
theorem cn_r2_wp (hN:∀a',Frm 50 [(1,(.slice D m e)),(2,s_2),(3,s_3),(4,s_4),(11,s_11),(12,.int .i64 (n1:Nat)),(13,.int .i64 (i:Nat)),(14,.bool (decide (i<n1)))] a'→Q .normal a' w):∀ac,Frm 50 [(1,(.slice D m e)),(2,s_2),(3,s_3),(4,s_4),(11,s_11),(12,.int .i64 (n1:Nat)),(13,.int .i64 (i:Nat))] ac→Code.wp Tryd.prog c_cn_r2 Q ac w := by
  refine fO (frame_cn ?_)
  intros
  rename_i hq
  iterate 7 (obtain ⟨e,hq⟩ := hq; obtain rfl := sI e; clear e)
  clear hq
  conv=>arg 2; whnf
  by_cases h:i<n1
  · have t1:decide ((i:Int)<(n1:Int))=true := decide_eq_true (by omega)
    have t2:decide (i<n1)=true := decide_eq_true h
    rw [t2] at hN
    clear h
    replace hN := Lib.hid hN
    go_wp2_with fail
    exact hN.out _ (by exact fR rfl rfl rfl)
  · have t1:decide ((i:Int)<(n1:Int))=false := decide_eq_false (by omega)
    have t2:decide (i<n1)=false := decide_eq_false h
    rw [t2] at hN
    clear h
    replace hN := Lib.hid hN
    go_wp2_with fail
    exact hN.out _ (by exact fR rfl rfl rfl)
def c_cn_r3 := sp 99 1125 cF66
theorem cn_r3_wp {b o:Nat} (hi:i<n1) (hc:w.cell? ⟨b,o+i,none⟩=some (.string s)) (hbl:b<w.heap.size) (hN:∀a',Frm 50 [(1,(.slice D m e)),(2,s_2),(3,s_3),(4,s_4),(11,.slice (some ⟨b,o,none⟩) n1 c1),(12,s_12),(13,.int .i64 (i:Nat)),(7,.string s)] a'→Q .normal a' w):∀ac,Frm 50 [(1,(.slice D m e)),(2,s_2),(3,s_3),(4,s_4),(11,.slice (some ⟨b,o,none⟩) n1 c1),(12,s_12),(13,.int .i64 (i:Nat))] ac→Code.wp Tryd.prog c_cn_r3 Q ac w := by
  refine fO (frame_cn ?_)
  intros
  rename_i hq
  iterate 7 (obtain ⟨e,hq⟩ := hq; obtain rfl := sI e; clear e)
  clear hq
  conv=>arg 2; whnf
  have q0:(0:Int)≤(i:Int) := by omega
  have q1:(i:Int)<(n1:Int) := by omega
  replace hN := Lib.hid hN
  go_wp2_with fail
  exact hN.out _ (by exact fR rfl rfl rfl)
def c_cn_r4 := sp 99 2661 cF66
theorem cn_r4_wp {bb:Bool} (hc:Calls Tryd.prog 67 #[(.slice D m e),.string s] w fun e w'=>e=.returned (.bool bb)∧w'=w) (hN:∀a',Frm 50 [(1,(.slice D m e)),(2,s_2),(3,s_3),(4,s_4),(11,s_11),(12,s_12),(13,s_13),(7,.string s),(20,.bool (!bb))] a'→Q .normal a' w):∀ac,Frm 50 [(1,(.slice D m e)),(2,s_2),(3,s_3),(4,s_4),(11,s_11),(12,s_12),(13,s_13),(7,.string s)] ac→Code.wp Tryd.prog c_cn_r4 Q ac w := by
  refine fO (frame_cn ?_)
  intros
  rename_i hq
  iterate 8 (obtain ⟨e,hq⟩ := hq; obtain rfl := sI e; clear e)
  clear hq
  conv=>arg 2; whnf
  have HN := Lib.hid hN
  have HC := Lib.hid hc
  clear hN hc
  go_wp2_with fail
  (with_reducible refine HC.out.mono ?_)
  rintro e w1 ⟨rfl,rfl⟩
  go_wp2_with fail
  exact HN.out _ (by exact fR rfl rfl rfl)
theorem KS.appended {w2:World} {gg cap:Nat} {v:Value} {o:Obj} (h:KS wo w bl v0 kd nm A n1 c1 B n2 c2 v l) (hown:w2.ownsRow 0 9 1 (.slice (some ⟨gg,0,none⟩) (l.length+1) cap) (l.length+1) (l.map .string++[.string s])) (hg:(w.alloc o).grownBy w2 v.ownBlock) (hat:v.ownBlock=some gg∨gg=w.heap.size+1) :
    w2.heap[bl]? = some (.cells #[v] 26 (0,0))∧KS wo (w2.setCell ⟨bl,0,none⟩ (.slice (some ⟨gg,0,none⟩) (l.length+1) cap)) bl v0 kd nm A n1 c1 B n2 c2 (.slice (some ⟨gg,0,none⟩) (l.length+1) cap) (l++[s]) := by
  have hbl := lt_heap h.b.box
  have hk:∀k,k<w.heap.size→v.ownBlock≠some k→w2.heap[k]? = w.heap[k]? := fun k h1 h2=>(hg.block k (by simp; omega) (fun e=>h2 e.symm)).trans (heap_old h1 rfl)
  have hb2 := (hk bl hbl h.b.ne).trans h.b.box
  have hgb:gg≠bl := by
    rintro rfl
    rcases hat with e | e
    · exact h.b.ne e
    · omega
  have hsz:w.heap.size+1≤w2.heap.size := by have := hg.size; simpa using this
  refine ⟨hb2,h.step ⟨by simpa using heap_set hb2 0 (.slice (some ⟨gg,0,none⟩) (l.length+1) cap),?_,fun e=>hgb (by injection e with e)⟩ ⟨hg.os,hg.tape,hg.output,by rw [size_set]; omega,fun k h1 h2 h3=>heap_far _ h2 (hk k h1 h3),fun k e=>?_⟩⟩
  · have h1:(w2.setCell ⟨bl,0,none⟩ (.slice (some ⟨gg,0,none⟩) (l.length+1) cap)).ownsRow 0 9 1 (.slice (some ⟨gg,0,none⟩) (l.length+1) cap) (l.length+1) (l.map .string++[.string s]) := rowGrownF hown (fun b _ e=>heap_far _ (by rintro rfl; injection e with e; exact hgb e) rfl)
    simpa using h1
  · have e2:gg=k := Option.some.inj e
    subst e2
    rcases hat with e | e
    · exact Or.inl e
    · exact Or.inr (by omega)
def c_cn_r5 := sp 99 5733 cF66
theorem cn_r5_wp {v:Value} (hl:l.length≤1000000) (hs:KS wo w bl v0 kd nm A n1 c1 B n2 c2 v l) (hN:∀v' a' w',Frm 50 [(1,(.slice D m e)),(2,.pointer (some ⟨bl,0,none⟩)),(3,s_3),(4,s_4),(11,s_11),(12,s_12),(13,s_13)] a'→KS wo w' bl v0 kd nm A n1 c1 B n2 c2 v' (l++[s])→Q .normal a' w'):∀ac,Frm 50 [(1,(.slice D m e)),(2,.pointer (some ⟨bl,0,none⟩)),(3,s_3),(4,s_4),(11,s_11),(12,s_12),(13,s_13),(7,.string s)] ac→Code.wp Tryd.prog c_cn_r5 Q ac w := by
  refine fO (frame_cn ?_)
  intros
  rename_i hq
  iterate 8 (obtain ⟨e,hq⟩ := hq; obtain rfl := sI e; clear e)
  clear hq
  conv=>arg 2; whnf
  obtain ⟨ts,hts,ht0,ht1,ht2⟩ := info_parts infoStr
  have b0 := cellv hs.b.box 0 rfl
  have bf := free_heap hs.b.box 0
  have blt := lt_heap hs.b.box
  obtain ⟨A9,c9,rfl⟩:∃A c,v=.slice A l.length c := by
    rcases hs.b.row.2 with ⟨e,e0⟩ | ⟨g,cap,cur,e,_⟩
    · exact ⟨none,0,by rw [e,e0]⟩
    · exact ⟨_,_,e⟩
  have hrow := hs.b.row
  replace hs := Lib.hid hs
  have HN := Lib.hid hN
  have HROW := Lib.hid hrow
  clear hN hrow
  go_wp2_with (at_builtin; refine wpList_append_lies (w.alloc (.cells #[.string s] 9)) ?h1 (.tmp 21) (.tmp 23) 26 ?h2 0 9 ts (.string ⟨#[]⟩) 1 16 ?h3 hts ht0 ht1 ht2 ?h4 ?h5 (.slice A9 l.length c9) l.length (l.map .string) ?h6 ?h7 ⟨w.heap.size,0,none⟩ 1 1 [.string s] ?h8 ?h9 ?h10 ?h11 ?h12 ?h13 ?h14 ?h15 (w.heap.size+1) ?h16 ?_)
  try (case h1=>rfl)
  try (case h2=>rfl)
  try (case h3=>exact Tryd.underlying26)
  try (case h4=>rfl)
  try (case h5=>omega)
  try (case h6=>rfl)
  try (case h7=>exact HROW.out.alloc _)
  try (case h8=>rfl)
  try (case h9=>rfl)
  try (case h10=>exact World.news_of_block (cs := #[.string s]) (t := 9) (fr := (0,0)) (heap_alloc_new w _))
  try (case h11=>simp [Value.oneCell'])
  try (case h12=>omega)
  try (case h13=>first | (simp [maxLen]; omega) | (unfold maxLen; omega))
  try (case h14=>omega)
  try (case h15=>first | omega | (simp; omega))
  try (case h16=>first | rfl | simp)
  intro gg cap w6 hown3 hgrow hat hlt
  have hap := hs.out.appended hown3 hgrow hat
  have HAP := Lib.hid hap
  have d0 := cellv hap.1 0 rfl
  have df := free_heap hap.1 0
  have dl := lt_heap hap.1
  clear hown3 hgrow hat hap b0 bf blt hlt
  go_wp2_with fail
  exact HN.out _ _ _ (by exact fR rfl rfl rfl) HAP.out.2
def c_cn_r6 := sp 99 485 cF66
theorem cn_r6_wp (hi:i<n1) (hlim:n1≤maxLen) (hN:∀a',Frm 50 [(1,(.slice D m e)),(2,s_2),(3,s_3),(4,s_4),(11,s_11),(12,s_12),(13,.int .i64 (i+1:Nat))] a'→Q .normal a' w):∀ac,Frm 50 [(1,(.slice D m e)),(2,s_2),(3,s_3),(4,s_4),(11,s_11),(12,s_12),(13,.int .i64 (i:Nat))] ac→Code.wp Tryd.prog c_cn_r6 Q ac w := by
  refine fO (frame_cn ?_)
  intros
  rename_i hq
  iterate 7 (obtain ⟨e,hq⟩ := hq; obtain rfl := sI e; clear e)
  clear hq
  conv=>arg 2; whnf
  have hi4:(i:Int)≤9223372036854775806 := by unfold maxLen at hlim; omega
  replace hN := Lib.hid hN
  go_wp2_with fail
  exact hN.out _ (by exact fR rfl rfl rfl)
def c_cn_r7 := sp 99 19 cF66
theorem cn_r7_wp {v:Value} (hs:KS wo w bl v0 kd nm A n1 c1 B n2 c2 v l) (hN:∀a' w',Frm 50 [(1,(.slice D m e)),(2,s_2),(3,s_3),(4,.pointer (some ⟨wo.heap.size,0,none⟩)),(27,.bool (isQu kd))] a'→KS wo w' bl v0 kd nm A n1 c1 B n2 c2 v l→Below w.heap.size w w'→Q .normal a' w'):∀ac,Frm 50 [(1,(.slice D m e)),(2,s_2),(3,s_3),(4,.pointer (some ⟨wo.heap.size,0,none⟩))] ac→Code.wp Tryd.prog c_cn_r7 Q ac w := by
  refine fO (frame_cn ?_)
  intros
  rename_i hq
  iterate 4 (obtain ⟨e,hq⟩ := hq; obtain rfl := sI e; clear e)
  clear hq
  conv=>arg 2; whnf
  have hq := quant_any kd nm A B n1 c1 n2 c2 w
  have a0 := cellv hs.a 0 rfl
  have a1 := cellv hs.a 1 rfl
  have a2 := cellv hs.a 2 rfl
  have a3 := cellv hs.a 3 rfl
  have al := lt_heap hs.a
  replace hs := Lib.hid hs
  have HN := Lib.hid hN
  have HQ := Lib.hid hq
  clear hN hq
  go_wp2_with fail
  (with_reducible refine HQ.out.mono ?_)
  rintro e w1 ⟨rfl,hb1⟩
  have hs := hs.out.below hb1
  have HS1 := Lib.hid hs
  have HB1 := Lib.hid hb1
  clear hb1 hs
  go_wp2_with fail
  exact HN.out _ _ (by exact fR rfl rfl rfl) HS1.out HB1.out
def c_cn_r8 := sp 99 43 cF66
theorem cn_r8_wp {b o:Nat} {v:Value} (hbl:bd.length=m) (hm:m≤1000000) (hme:m≤e) (hbw:b<w.heap.size) (hcell:∀j u,(bd.map Value.string)[j]? = some u→w.cell? ⟨b,o+j,none⟩=some u) (hs:KS wo w bl v0 kd nm A n1 c1 B n2 c2 v l) (hN:∀v' a' w',Frm 50 [(1,v'),(2,s_2),(3,s_3),(4,.pointer (some ⟨wo.heap.size,0,none⟩))] a'→w'.ownsRow (w.heap.size+1) 9 1 v' (m+1) (bd.map .string++[.string nm])→Below w.heap.size w w'→K a' w'):∀ac,Frm 50 [(1,(.slice (some ⟨b,o,none⟩) m e)),(2,s_2),(3,s_3),(4,.pointer (some ⟨wo.heap.size,0,none⟩))] ac→Code.wp Tryd.prog c_cn_r8 (Exit.then K (fun _ _ _=>False)) ac w := by
  refine fO (frame_cn ?_)
  intros
  rename_i hq
  iterate 4 (obtain ⟨e,hq⟩ := hq; obtain rfl := sI e; clear e)
  clear hq
  conv=>arg 2; whnf
  obtain ⟨ts,hts,ht0,ht1,ht2⟩ := info_parts infoStr
  have q1:(m:Int)≤(e:Int) := by omega
  have hcA:∀j u,(bd.map Value.string)[j]? = some u→(w.alloc (.cells #[.string nm] 9)).cell? ⟨b,o+j,none⟩=some u := fun j u hu=>(cell_keep (heap_old hbw rfl) _).trans (hcell j u hu)
  have HCELLA := Lib.hid hcA
  clear hcA hcell
  have hm4:m≤1000000 := hm
  have a0 := cellv hs.a 0 rfl
  have a1 := cellv hs.a 1 rfl
  have a2 := cellv hs.a 2 rfl
  have a3 := cellv hs.a 3 rfl
  have al := lt_heap hs.a
  replace hs := Lib.hid hs
  go_region_law ((refine step_append_grows (by rfl) (.tmp 33) (.tmp 36) 26 (by rfl) 9 ts (.string ⟨#[]⟩) 1 16 Tryd.underlying26 hts ht0 ht1 ht2 rfl (by decide) (some ⟨b,o,none⟩) m m (bd.map .string) (by rfl) ?c0 ?c1 ?c2 ⟨w.heap.size,0,none⟩ 1 1 [.string nm] (by rfl) rfl ?c3 ?c4 ?c5 ?c6 ?c7 ?_; (case c0=>(first | (intro h; cases h; done) | exact fun _=>⟨rfl,rfl⟩)); (case c1=>(simp [hbl])); (case c2=>(intro b9 hb9 j u hu; cases hb9; rw [Addr.add_lit]; exact HCELLA.out j u hu)); (case c3=>(exact World.news_of_block (cs := #[.string nm]) (t := 9) (fr := (0,0)) (by first | exact heap_drew (heap_alloc_new w _) | exact heap_alloc_new w _ | exact heap_alloc_new w.drew _))); (case c4=>(intro u hu; simp at hu; subst hu; rfl)); (case c5=>omega); (case c6=>(unfold maxLen; omega)); (case c7=>omega); intro v' w2 hown hgrow; have HOWN := Lib.hid hown; have HGROW := Lib.hid hgrow; clear hown hgrow))
  all_goals go_wp2_with fail
  all_goals exact hN _ _ _ (by exact fR rfl rfl rfl) (by simpa using HOWN.out) (by first | exact ⟨HGROW.out.os,HGROW.out.tape,HGROW.out.output,by have := HGROW.out.size; simp at this; omega,fun k hk=>(HGROW.out.block k (by simp; omega) (by simp)).trans (by first | exact heap_drew (heap_old hk rfl) | exact heap_old hk rfl)⟩)
def c_cn_r8n := sp 99 43 cF66
theorem cn_r8n_wp {v:Value} (hbl:bd=[]) (hs:KS wo w bl v0 kd nm A n1 c1 B n2 c2 v l) (hN:∀v' a' w',Frm 50 [(1,v'),(2,s_2),(3,s_3),(4,.pointer (some ⟨wo.heap.size,0,none⟩))] a'→w'.ownsRow (w.heap.size+1) 9 1 v' (0+1) (bd.map .string++[.string nm])→Below w.heap.size w w'→K a' w'):∀ac,Frm 50 [(1,(.slice none 0 e)),(2,s_2),(3,s_3),(4,.pointer (some ⟨wo.heap.size,0,none⟩))] ac→Code.wp Tryd.prog c_cn_r8n (Exit.then K (fun _ _ _=>False)) ac w := by
  refine fO (frame_cn ?_)
  intros
  rename_i hq
  iterate 4 (obtain ⟨e,hq⟩ := hq; obtain rfl := sI e; clear e)
  clear hq
  conv=>arg 2; whnf
  obtain ⟨ts,hts,ht0,ht1,ht2⟩ := info_parts infoStr
  subst hbl
  have a0 := cellv hs.a 0 rfl
  have a1 := cellv hs.a 1 rfl
  have a2 := cellv hs.a 2 rfl
  have a3 := cellv hs.a 3 rfl
  have al := lt_heap hs.a
  replace hs := Lib.hid hs
  go_region_law ((refine step_append_grows (by rfl) (.tmp 33) (.tmp 36) 26 (by rfl) 9 ts (.string ⟨#[]⟩) 1 16 Tryd.underlying26 hts ht0 ht1 ht2 rfl (by decide) none 0 0 [] (by rfl) ?c0 ?c1 ?c2 ⟨w.heap.size,0,none⟩ 1 1 [.string nm] (by rfl) rfl ?c3 ?c4 ?c5 ?c6 ?c7 ?_; (case c0=>(first | (intro h; cases h; done) | exact fun _=>⟨rfl,rfl⟩)); (case c1=>(simp)); (case c2=>(intro b9 hb9; cases hb9)); (case c3=>(exact World.news_of_block (cs := #[.string nm]) (t := 9) (fr := (0,0)) (by first | exact heap_drew (heap_alloc_new w _) | exact heap_alloc_new w _ | exact heap_alloc_new w.drew _))); (case c4=>(intro u hu; simp at hu; subst hu; rfl)); (case c5=>omega); (case c6=>(unfold maxLen; omega)); (case c7=>omega); intro v' w2 hown hgrow; have HOWN := Lib.hid hown; have HGROW := Lib.hid hgrow; clear hown hgrow))
  all_goals go_wp2_with fail
  all_goals exact hN _ _ _ (by exact fR rfl rfl rfl) (by simpa using HOWN.out) (by first | exact ⟨HGROW.out.os,HGROW.out.tape,HGROW.out.output,by have := HGROW.out.size; simp at this; omega,fun k hk=>(HGROW.out.block k (by simp; omega) (by simp)).trans (by first | exact heap_drew (heap_old hk rfl) | exact heap_old hk rfl)⟩)
def c_cn_r9 := sp 99 23 cF66
theorem cn_r9_wp {v:Value} (hs:KS wo w bl v0 kd nm A n1 c1 B n2 c2 v l) (hN:∀a',Frm 50 [(1,(.slice D m e)),(2,s_2),(3,s_3),(4,.pointer (some ⟨wo.heap.size,0,none⟩)),(39,.slice B n2 c2),(40,.int .i64 (n2:Nat)),(41,.int .i64 (0:Nat))] a'→Q .normal a' w):∀ac,Frm 50 [(1,(.slice D m e)),(2,s_2),(3,s_3),(4,.pointer (some ⟨wo.heap.size,0,none⟩))] ac→Code.wp Tryd.prog c_cn_r9 Q ac w := by
  refine fO (frame_cn ?_)
  intros
  rename_i hq
  iterate 4 (obtain ⟨e,hq⟩ := hq; obtain rfl := sI e; clear e)
  clear hq
  conv=>arg 2; whnf
  have a0 := cellv hs.a 0 rfl
  have a1 := cellv hs.a 1 rfl
  have a2 := cellv hs.a 2 rfl
  have a3 := cellv hs.a 3 rfl
  have al := lt_heap hs.a
  replace hs := Lib.hid hs
  replace hN := Lib.hid hN
  go_wp2_with fail
  exact hN.out _ (by exact fR rfl rfl rfl)
def c_cn_r10 := sp 99 143 cF66
theorem cn_r10_wp (hN:∀a',Frm 50 [(1,(.slice D m e)),(2,s_2),(3,s_3),(4,s_4),(39,s_39),(40,.int .i64 (n2:Nat)),(41,.int .i64 (i:Nat)),(42,.bool (decide (i<n2)))] a'→Q .normal a' w):∀ac,Frm 50 [(1,(.slice D m e)),(2,s_2),(3,s_3),(4,s_4),(39,s_39),(40,.int .i64 (n2:Nat)),(41,.int .i64 (i:Nat))] ac→Code.wp Tryd.prog c_cn_r10 Q ac w := by
  refine fO (frame_cn ?_)
  intros
  rename_i hq
  iterate 7 (obtain ⟨e,hq⟩ := hq; obtain rfl := sI e; clear e)
  clear hq
  conv=>arg 2; whnf
  by_cases h:i<n2
  · have t1:decide ((i:Int)<(n2:Int))=true := decide_eq_true (by omega)
    have t2:decide (i<n2)=true := decide_eq_true h
    rw [t2] at hN
    clear h
    replace hN := Lib.hid hN
    go_wp2_with fail
    exact hN.out _ (by exact fR rfl rfl rfl)
  · have t1:decide ((i:Int)<(n2:Int))=false := decide_eq_false (by omega)
    have t2:decide (i<n2)=false := decide_eq_false h
    rw [t2] at hN
    clear h
    replace hN := Lib.hid hN
    go_wp2_with fail
    exact hN.out _ (by exact fR rfl rfl rfl)
def c_cn_r11 := sp 99 2255 cF66
theorem cn_r11_wp {b o:Nat} (hi:i<n2) (h0:w.cell? ⟨b,o+i * 4,none⟩=some (.int .i64 ke)) (h1:w.cell? ⟨b,o+i * 4+1,none⟩=some (.string ne)) (h2:w.cell? ⟨b,o+i * 4+2,none⟩=some (.slice Ae n3 c3)) (h3:w.cell? ⟨b,o+i * 4+3,none⟩=some (.slice Be n4 c4)) (hbl:b<w.heap.size) (hN:∀a',Frm 50 [(1,(.slice D m e)),(2,s_2),(3,s_3),(4,s_4),(39,.slice (some ⟨b,o,none⟩) n2 c2),(40,s_40),(41,.int .i64 (i:Nat)),(9,.pointer (some ⟨w.heap.size,0,none⟩))] a'→Q .normal a' (w.alloc (.cells #[.int .i64 ke,.string ne,.slice Ae n3 c3,.slice Be n4 c4] 29))):∀ac,Frm 50 [(1,(.slice D m e)),(2,s_2),(3,s_3),(4,s_4),(39,.slice (some ⟨b,o,none⟩) n2 c2),(40,s_40),(41,.int .i64 (i:Nat))] ac→Code.wp Tryd.prog c_cn_r11 Q ac w := by
  refine fO (frame_cn ?_)
  intros
  rename_i hq
  iterate 7 (obtain ⟨e,hq⟩ := hq; obtain rfl := sI e; clear e)
  clear hq
  conv=>arg 2; whnf
  have q0:(0:Int)≤(i:Int) := by omega
  have q1:(i:Int)<(n2:Int) := by omega
  replace hN := Lib.hid hN
  go_wp2_with fail
  exact hN.out _ (by exact fR rfl rfl rfl)
def c_cn_r12 := sp 99 3279 cF66
theorem cn_r12_wp {s_41:Value} {ge bw:Nat} {PP:World→Prop} (hf:w.heap[bw]? = some (.cells #[.func (Fn.func 66) #[] #[.pointer (some ⟨bl,0,none⟩),.pointer (some ⟨bw,0,none⟩)]] 105 (0,0))) (hge:w.heap[ge]? = some (.cells #[.int .i64 ke,.string ne,.slice Ae n3 c3,.slice Be n4 c4] 29 (0,0))) (hcall:Calls Tryd.prog 66 #[.agg #[.int .i64 ke,.string ne,.slice Ae n3 c3,.slice Be n4 c4],(.slice D m e),.pointer (some ⟨bl,0,none⟩),.pointer (some ⟨bw,0,none⟩)] w fun e w'=>e=.returned (.tuple #[])∧PP w') (hN:∀a' w',Frm 50 [(1,(.slice D m e)),(2,s_2),(3,.pointer (some ⟨bw,0,none⟩)),(4,s_4),(39,s_39),(40,s_40),(41,s_41)] a'→PP w'→Q .normal a' w'):∀ac,Frm 50 [(1,(.slice D m e)),(2,s_2),(3,.pointer (some ⟨bw,0,none⟩)),(4,s_4),(39,s_39),(40,s_40),(41,s_41),(9,.pointer (some ⟨ge,0,none⟩))] ac→Code.wp Tryd.prog c_cn_r12 Q ac w := by
  refine fO (frame_cn ?_)
  intros
  rename_i hq
  iterate 8 (obtain ⟨e,hq⟩ := hq; obtain rfl := sI e; clear e)
  clear hq
  conv=>arg 2; whnf
  have f0 := cellv hf 0 rfl
  have fl := lt_heap hf
  have e0 := cellv hge 0 rfl
  have e1 := cellv hge 1 rfl
  have e2 := cellv hge 2 rfl
  have e3 := cellv hge 3 rfl
  have el := lt_heap hge
  clear hf hge
  have HN := Lib.hid hN
  have HCALL := Lib.hid hcall
  clear hN hcall
  go_wp2_with fail
  (with_reducible refine HCALL.out.mono ?_)
  rintro e w1 ⟨rfl,hc1⟩
  replace hc1 := Lib.hid hc1
  go_wp2_with fail
  exact HN.out _ _ (by exact fR rfl rfl rfl) hc1.out
def c_cn_r13 := sp 99 975 cF66
theorem cn_r13_wp (hi:i<n2) (hlim:n2≤maxLen) (hN:∀a',Frm 50 [(1,(.slice D m e)),(2,s_2),(3,s_3),(4,s_4),(39,s_39),(40,s_40),(41,.int .i64 (i+1:Nat))] a'→Q .normal a' w):∀ac,Frm 50 [(1,(.slice D m e)),(2,s_2),(3,s_3),(4,s_4),(39,s_39),(40,s_40),(41,.int .i64 (i:Nat))] ac→Code.wp Tryd.prog c_cn_r13 Q ac w := by
  refine fO (frame_cn ?_)
  intros
  rename_i hq
  iterate 7 (obtain ⟨e,hq⟩ := hq; obtain rfl := sI e; clear e)
  clear hq
  conv=>arg 2; whnf
  have hi4:(i:Int)≤9223372036854775806 := by unfold maxLen at hlim; omega
  replace hN := Lib.hid hN
  go_wp2_with fail
  exact hN.out _ (by exact fR rfl rfl rfl)
end
noncomputable section
set_option maxRecDepth 1000000
set_option maxHeartbeats 16000000
variable {s_0 s_3 v s_9 s_10 s_11 s_8:Value} {Q:Exit→Act→World→Prop} {cn xn:ByteArray} {cv xv:Int} {w:World} {n9 c9 i gc gx base n8 c8 size n:Nat} {d:Bool} {a:List UInt8} {A8:Option Addr} {xs:List Value} {E:TypeId}

theorem frame_pq {P:Act→Prop} (h:∀x0 x1 x2 x3 x4 x5 x6 x7 x8 x9 x10 x11 x12 x13 x14 x15 x16 x17 x18 x19 x20 x21 x22 x23 x24 x25 x26 x27 x28 x29 x30 x31 x32 x33 x34 x35 x36 x37 x38 x39 x40 x41 x42 x43 x44:Value,P ⟨(x0 :: x1 :: x2 :: x3 :: x4 :: x5 :: x6 :: x7 :: x8 :: x9 :: x10 :: x11 :: x12 :: x13 :: x14 :: x15 :: x16 :: x17 :: x18 :: x19 :: x20 :: x21 :: x22 :: x23 :: x24 :: x25 :: x26 :: x27 :: x28 :: x29 :: x30 :: x31 :: x32 :: x33 :: x34 :: x35 :: x36 :: x37 :: x38 :: x39 :: x40 :: x41 :: x42 :: x43 :: x44 :: []).toArray,[]⟩):∀a:Act,a.tmps.toList.length=45→a.defers=[]→P a := by
  rintro ⟨⟨l⟩,d⟩ hs hd
  simp only at hd
  subst hd
  revert l
  show ∀l:List Value,l.length=45→P ⟨⟨l⟩,[]⟩
  iterate 45 refine openS (fun _=>?_)
  refine open0 ?_
  exact h ..
noncomputable def cF16:Code := Tryd.f16.body.getD .skip
def c_pq_r0 := sp 99 2 cF16
theorem pq_r0_wp (hN:∀a',Frm 45 [(0,s_0),(3,.pointer (some ⟨w.heap.size,0,none⟩))] a'→Q .normal a' (w.alloc (.cells #[.string cn,.int .i64 cv] 49))):∀ac,Frm 45 [(0,s_0),(1,.agg #[.string cn,.int .i64 cv])] ac→Code.wp Tryd.prog c_pq_r0 Q ac w := by
  refine fO (frame_pq ?_)
  intros
  rename_i hq
  iterate 2 (obtain ⟨e,hq⟩ := hq; obtain rfl := sI e; clear e)
  clear hq
  conv=>arg 2; whnf
  replace hN := Lib.hid hN
  go_wp2_with fail
  exact hN.out _ (id ⟨rfl,rfl,rfl,rfl,trivial⟩)
def c_pq_r1 := sp 99 5 cF16
theorem pq_r1_wp (hN:∀a',Frm 45 [(0,s_0),(3,s_3),(5,.slice none 0 0)] a'→Q .normal a' w):∀ac,Frm 45 [(0,s_0),(3,s_3)] ac→Code.wp Tryd.prog c_pq_r1 Q ac w := by
  refine fO (frame_pq ?_)
  intros
  rename_i hq
  iterate 2 (obtain ⟨e,hq⟩ := hq; obtain rfl := sI e; clear e)
  clear hq
  conv=>arg 2; whnf
  replace hN := Lib.hid hN
  go_wp2_with fail
  exact hN.out _ (by exact fR rfl rfl rfl)
def c_pq_r2 := sp 99 11 cF16
theorem pq_r2_wp (hN:∀a',Frm 45 [(0,s_0),(3,s_3),(5,v),(6,.bool false)] a'→Q .normal a' w):∀ac,Frm 45 [(0,s_0),(3,s_3),(5,v)] ac→Code.wp Tryd.prog c_pq_r2 Q ac w := by
  refine fO (frame_pq ?_)
  intros
  rename_i hq
  iterate 3 (obtain ⟨e,hq⟩ := hq; obtain rfl := sI e; clear e)
  clear hq
  conv=>arg 2; whnf
  replace hN := Lib.hid hN
  go_wp2_with fail
  exact hN.out _ (by exact fR rfl rfl rfl)
def c_pq_r3 := sp 99 39 cF16
theorem pq_r3_wp {A:Option Addr} (hN:∀a',Frm 45 [(3,s_3),(5,v),(6,.bool d),(9,.slice A n9 c9),(10,.int .i64 (n9:Nat)),(11,.int .i64 (0:Nat))] a'→Q .normal a' w):∀ac,Frm 45 [(0,.slice A n9 c9),(3,s_3),(5,v),(6,.bool d)] ac→Code.wp Tryd.prog c_pq_r3 Q ac w := by
  refine fO (frame_pq ?_)
  intros
  rename_i hq
  iterate 4 (obtain ⟨e,hq⟩ := hq; obtain rfl := sI e; clear e)
  clear hq
  conv=>arg 2; whnf
  replace hN := Lib.hid hN
  go_wp2_with fail
  exact hN.out _ (by exact fR rfl rfl rfl)
def c_pq_r4 := sp 99 279 cF16
theorem pq_r4_wp (hN:∀a',Frm 45 [(3,s_3),(5,v),(6,.bool d),(9,s_9),(10,.int .i64 (n9:Nat)),(11,.int .i64 (i:Nat)),(12,.bool (decide (i<n9)))] a'→Q .normal a' w):∀ac,Frm 45 [(3,s_3),(5,v),(6,.bool d),(9,s_9),(10,.int .i64 (n9:Nat)),(11,.int .i64 (i:Nat))] ac→Code.wp Tryd.prog c_pq_r4 Q ac w := by
  refine fO (frame_pq ?_)
  intros
  rename_i hq
  iterate 6 (obtain ⟨e,hq⟩ := hq; obtain rfl := sI e; clear e)
  clear hq
  conv=>arg 2; whnf
  by_cases h:i<n9
  · have t1:decide ((i:Int)<(n9:Int))=true := by first | exact decide_eq_true (by omega) | exact beq_iff_eq.2 (by omega) | exact bne_iff_ne.2 (by omega)
    have t2:(decide (i<n9))=true := decide_eq_true h
    rw [t2] at hN
    clear h
    replace hN := Lib.hid hN
    go_wp2_with fail
    exact hN.out _ (by exact fR rfl rfl rfl)
  · have t1:decide ((i:Int)<(n9:Int))=false := by first | exact decide_eq_false (by omega) | exact beq_eq_false_iff_ne.2 (by omega) | exact bne_eq_false_iff_eq.2 (by omega)
    have t2:(decide (i<n9))=false := decide_eq_false h
    rw [t2] at hN
    clear h
    replace hN := Lib.hid hN
    go_wp2_with fail
    exact hN.out _ (by exact fR rfl rfl rfl)
def c_pq_r5 := sp 99 4503 cF16
theorem pq_r5_wp {b o:Nat} (hi:i<n9) (e0:w.cell? ⟨b,o+i * 2,none⟩=some (.string xn)) (e1:w.cell? ⟨b,o+i * 2+1,none⟩=some (.int .i64 xv)) (hbl:b<w.heap.size) (hN:∀a',Frm 45 [(3,s_3),(5,v),(6,.bool d),(9,.slice (some ⟨b,o,none⟩) n9 c9),(10,s_10),(11,.int .i64 (i:Nat)),(8,.pointer (some ⟨w.heap.size,0,none⟩))] a'→Q .normal a' (w.alloc (.cells #[.string xn,.int .i64 xv] 49))):∀ac,Frm 45 [(3,s_3),(5,v),(6,.bool d),(9,.slice (some ⟨b,o,none⟩) n9 c9),(10,s_10),(11,.int .i64 (i:Nat))] ac→Code.wp Tryd.prog c_pq_r5 Q ac w := by
  refine fO (frame_pq ?_)
  intros
  rename_i hq
  iterate 6 (obtain ⟨e,hq⟩ := hq; obtain rfl := sI e; clear e)
  clear hq
  conv=>arg 2; whnf
  have q0:(0:Int)≤(i:Int) := by omega
  have q1:(i:Int)<(n9:Int) := by omega
  replace hN := Lib.hid hN
  go_wp2_with fail
  exact hN.out _ (by exact fR rfl rfl rfl)
def c_pq_r6 := sp 99 18839 cF16
theorem pq_r6_wp (hgc:w.heap[gc]? = some (.cells #[.string cn,.int .i64 cv] 49 (0,0))) (hgx:w.heap[gx]? = some (.cells #[.string xn,.int .i64 xv] 49 (0,0))) (hN:∀a',Frm 45 [(3,.pointer (some ⟨gc,0,none⟩)),(5,v),(6,.bool d),(9,s_9),(10,s_10),(11,s_11),(8,.pointer (some ⟨gx,0,none⟩)),(19,.bool (decide (xn=cn)))] a'→Q .normal a' w):∀ac,Frm 45 [(3,.pointer (some ⟨gc,0,none⟩)),(5,v),(6,.bool d),(9,s_9),(10,s_10),(11,s_11),(8,.pointer (some ⟨gx,0,none⟩))] ac→Code.wp Tryd.prog c_pq_r6 Q ac w := by
  refine fO (frame_pq ?_)
  intros
  rename_i hq
  iterate 7 (obtain ⟨e,hq⟩ := hq; obtain rfl := sI e; clear e)
  clear hq
  conv=>arg 2; whnf
  have c0 := cellv hgc 0 rfl
  have c1 := cellv hgc 1 rfl
  have cl := lt_heap hgc
  clear hgc
  have x0 := cellv hgx 0 rfl
  have x1 := cellv hgx 1 rfl
  have xl := lt_heap hgx
  clear hgx
  by_cases h:xn=cn
  · have t1:(xn.toList == cn.toList)=true := by rw [h]; exact beq_self_eq_true _
    rw [decide_eq_true h] at hN
    clear h
    replace hN := Lib.hid hN
    go_wp2_with fail
    exact hN.out _ (by exact fR rfl rfl rfl)
  · have t1:(xn.toList == cn.toList)=false := beq_eq_false_iff_ne.2 (fun e=>h (bytes_inj e))
    rw [decide_eq_false h] at hN
    clear h
    replace hN := Lib.hid hN
    go_wp2_with fail
    exact hN.out _ (by exact fR rfl rfl rfl)
def c_pq_r7 := sp 99 43415 cF16
theorem pq_r7_wp (hN:∀a',Frm 45 [(3,s_3),(5,v),(6,.bool true),(9,s_9),(10,s_10),(11,s_11),(8,s_8)] a'→Q .normal a' w):∀ac,Frm 45 [(3,s_3),(5,v),(6,.bool d),(9,s_9),(10,s_10),(11,s_11),(8,s_8)] ac→Code.wp Tryd.prog c_pq_r7 Q ac w := by
  refine fO (frame_pq ?_)
  intros
  rename_i hq
  iterate 7 (obtain ⟨e,hq⟩ := hq; obtain rfl := sI e; clear e)
  clear hq
  conv=>arg 2; whnf
  replace hN := Lib.hid hN
  go_wp2_with fail
  exact hN.out _ (by exact fR rfl rfl rfl)
theorem gtr_yes {b:List UInt8} (h1:Op.bytesLess a b=false) (h2:(a == b)=false):Op.bytesLess b a=true := by
  cases h:Op.bytesLess b a with
  | true=>rfl
  | false=>rw [lessTri _ _ h1 h,beq_self_eq_true] at h2; cases h2
theorem gtr_no1 {b:List UInt8} (h2:(a == b)=true):Op.bytesLess b a=false := by
  rw [beq_iff_eq.1 h2]; simp [lessI]
theorem gtr_no2 {b:List UInt8} (h1:Op.bytesLess a b=true):Op.bytesLess b a=false := lessAsym h1
def c_pq_r8 := sp 99 39319 cF16
theorem pq_r8_wp (hgc:w.heap[gc]? = some (.cells #[.string cn,.int .i64 cv] 49 (0,0))) (hgx:w.heap[gx]? = some (.cells #[.string xn,.int .i64 xv] 49 (0,0))) (hN:∀a',Frm 45 [(3,.pointer (some ⟨gc,0,none⟩)),(5,v),(6,.bool d),(9,s_9),(10,s_10),(11,s_11),(8,.pointer (some ⟨gx,0,none⟩)),(28,.bool (!d && Op.bytesLess cn.toList xn.toList))] a'→Q .normal a' w):∀ac,Frm 45 [(3,.pointer (some ⟨gc,0,none⟩)),(5,v),(6,.bool d),(9,s_9),(10,s_10),(11,s_11),(8,.pointer (some ⟨gx,0,none⟩))] ac→Code.wp Tryd.prog c_pq_r8 Q ac w := by
  refine fO (frame_pq ?_)
  intros
  rename_i hq
  iterate 7 (obtain ⟨e,hq⟩ := hq; obtain rfl := sI e; clear e)
  clear hq
  conv=>arg 2; whnf
  have c0 := cellv hgc 0 rfl
  have c1 := cellv hgc 1 rfl
  have cl := lt_heap hgc
  clear hgc
  have x0 := cellv hgx 0 rfl
  have x1 := cellv hgx 1 rfl
  have xl := lt_heap hgx
  clear hgx
  cases d
  · cases h1:Op.bytesLess xn.toList cn.toList
    · cases h2:(xn.toList == cn.toList)
      · rw [gtr_yes h1 h2] at hN
        replace hN := Lib.hid hN
        go_wp2_with fail
        exact hN.out _ (by exact fR rfl rfl rfl)
      · rw [gtr_no1 h2] at hN
        replace hN := Lib.hid hN
        go_wp2_with fail
        exact hN.out _ (by exact fR rfl rfl rfl)
    · rw [gtr_no2 h1] at hN
      replace hN := Lib.hid hN
      go_wp2_with fail
      exact hN.out _ (by exact fR rfl rfl rfl)
  · replace hN := Lib.hid hN
    go_wp2_with fail
    exact hN.out _ (by exact fR rfl rfl rfl)
theorem infoConL:(Tryd.prog.info? 49).map (fun i=>(i.zero,i.size,i.bytes))=some (some (.agg #[.string ⟨#[]⟩,.int .i64 0]),2,24) := by kernel_rfl
def c_pq_r9 := sp 99 154007 cF16
theorem pq_r9_wp (hgc:w.heap[gc]? = some (.cells #[.string cn,.int .i64 cv] 49 (0,0))) (hl:n8≤1000000) (hrow:w.ownsRow base 49 2 (.slice A8 n8 c8) n8 xs) (hbw:base≤w.heap.size) (hN:∀v' a' w',Frm 45 [(3,.pointer (some ⟨gc,0,none⟩)),(5,v'),(6,.bool d),(9,s_9),(10,s_10),(11,s_11),(8,s_8)] a'→w'.ownsRow base 49 2 v' (n8+1) (xs++[.string cn,.int .i64 cv])→Below base w w'→(∀k,k<w.heap.size→Value.ownBlock (.slice A8 n8 c8)≠some k→w'.heap[k]? = w.heap[k]?)→Q .normal a' w'):∀ac,Frm 45 [(3,.pointer (some ⟨gc,0,none⟩)),(5,(.slice A8 n8 c8)),(6,.bool d),(9,s_9),(10,s_10),(11,s_11),(8,s_8)] ac→Code.wp Tryd.prog c_pq_r9 Q ac w := by
  refine fO (frame_pq ?_)
  intros
  rename_i hq
  iterate 7 (obtain ⟨e,hq⟩ := hq; obtain rfl := sI e; clear e)
  clear hq
  conv=>arg 2; whnf
  obtain ⟨ti,hti,ht0,ht1,ht2⟩ := info_parts infoConL
  have c0 := cellv hgc 0 rfl
  have c1 := cellv hgc 1 rfl
  have cl := lt_heap hgc
  clear hgc
  have HN := Lib.hid hN
  have HROW := Lib.hid hrow
  clear hN hrow
  go_wp2_with (at_builtin; refine wpList_append_lies (w.alloc (.cells #[.string cn,.int .i64 cv] 49)) ?h1 (.tmp 29) (.tmp 31) 22 ?h2 base 49 ti (.agg #[.string ⟨#[]⟩,.int .i64 0]) 2 24 ?h3 hti ht0 ht1 ht2 ?h4 ?h5 (.slice A8 n8 c8) n8 xs ?h6 ?h7 ⟨w.heap.size,0,none⟩ 1 1 [.string cn,.int .i64 cv] ?h8 ?h9 ?h10 ?h11 ?h12 ?h13 ?h14 ?h15 (w.heap.size+1) ?h16 ?_)
  try (case h1=>rfl)
  try (case h2=>rfl)
  try (case h3=>exact Tryd.underlying22)
  try (case h4=>rfl)
  try (case h5=>omega)
  try (case h6=>rfl)
  try (case h7=>exact HROW.out.alloc _)
  try (case h8=>rfl)
  try (case h9=>rfl)
  try (case h10=>exact World.news_of_block (cs := #[.string cn,.int .i64 cv]) (t := 49) (fr := (0,0)) (heap_alloc_new w _))
  try (case h11=>simp [Value.oneCell'])
  try (case h12=>omega)
  try (case h13=>first | (simp [maxLen]; omega) | (unfold maxLen; omega))
  try (case h14=>omega)
  try (case h15=>first | omega | (simp; omega))
  try (case h16=>first | rfl | simp)
  intro gg cap w6 hown3 hgrow hat hlt
  have hbg:Below base w w6 := ((Below.refl base w).alloc hbw _).trans (below_of_grown9 hgrow (own_ge9 HROW.out) (by simp; omega))
  have hkx:∀k,k<w.heap.size→Value.ownBlock (.slice A8 n8 c8)≠some k→w6.heap[k]? = w.heap[k]? := fun k hk hne=>(hgrow.block k (by simp; omega) (fun e=>hne e.symm)).trans (heap_old hk rfl)
  have HKX := Lib.hid hkx
  have HBG := Lib.hid hbg
  have HOWN := Lib.hid hown3
  clear hown3 hgrow hat hbg hlt hkx
  go_wp2_with fail
  exact HN.out _ _ _ (by exact fR rfl rfl rfl) HOWN.out HBG.out HKX.out
def c_pq_r10 := sp 99 219543 cF16
theorem pq_r10_wp (hN:∀a',Frm 45 [(3,s_3),(5,v),(6,.bool true),(9,s_9),(10,s_10),(11,s_11),(8,s_8)] a'→Q .normal a' w):∀ac,Frm 45 [(3,s_3),(5,v),(6,.bool d),(9,s_9),(10,s_10),(11,s_11),(8,s_8)] ac→Code.wp Tryd.prog c_pq_r10 Q ac w := by
  refine fO (frame_pq ?_)
  intros
  rename_i hq
  iterate 7 (obtain ⟨e,hq⟩ := hq; obtain rfl := sI e; clear e)
  clear hq
  conv=>arg 2; whnf
  replace hN := Lib.hid hN
  go_wp2_with fail
  exact hN.out _ (by exact fR rfl rfl rfl)
def c_pq_r11 := sp 99 31127 cF16
theorem pq_r11_wp (hgx:w.heap[gx]? = some (.cells #[.string xn,.int .i64 xv] 49 (0,0))) (hl:n8≤1000000) (hrow:w.ownsRow base 49 2 (.slice A8 n8 c8) n8 xs) (hbw:base≤w.heap.size) (hN:∀v' a' w',Frm 45 [(3,s_3),(5,v'),(6,.bool d),(9,s_9),(10,s_10),(11,s_11)] a'→w'.ownsRow base 49 2 v' (n8+1) (xs++[.string xn,.int .i64 xv])→Below base w w'→(∀k,k<w.heap.size→Value.ownBlock (.slice A8 n8 c8)≠some k→w'.heap[k]? = w.heap[k]?)→Q .normal a' w'):∀ac,Frm 45 [(3,s_3),(5,(.slice A8 n8 c8)),(6,.bool d),(9,s_9),(10,s_10),(11,s_11),(8,.pointer (some ⟨gx,0,none⟩))] ac→Code.wp Tryd.prog c_pq_r11 Q ac w := by
  refine fO (frame_pq ?_)
  intros
  rename_i hq
  iterate 7 (obtain ⟨e,hq⟩ := hq; obtain rfl := sI e; clear e)
  clear hq
  conv=>arg 2; whnf
  obtain ⟨ti,hti,ht0,ht1,ht2⟩ := info_parts infoConL
  have x0 := cellv hgx 0 rfl
  have x1 := cellv hgx 1 rfl
  have xl := lt_heap hgx
  clear hgx
  have HN := Lib.hid hN
  have HROW := Lib.hid hrow
  clear hN hrow
  go_wp2_with (at_builtin; refine wpList_append_lies (w.alloc (.cells #[.string xn,.int .i64 xv] 49)) ?h1 (.tmp 33) (.tmp 35) 22 ?h2 base 49 ti (.agg #[.string ⟨#[]⟩,.int .i64 0]) 2 24 ?h3 hti ht0 ht1 ht2 ?h4 ?h5 (.slice A8 n8 c8) n8 xs ?h6 ?h7 ⟨w.heap.size,0,none⟩ 1 1 [.string xn,.int .i64 xv] ?h8 ?h9 ?h10 ?h11 ?h12 ?h13 ?h14 ?h15 (w.heap.size+1) ?h16 ?_)
  try (case h1=>rfl)
  try (case h2=>rfl)
  try (case h3=>exact Tryd.underlying22)
  try (case h4=>rfl)
  try (case h5=>omega)
  try (case h6=>rfl)
  try (case h7=>exact HROW.out.alloc _)
  try (case h8=>rfl)
  try (case h9=>rfl)
  try (case h10=>exact World.news_of_block (cs := #[.string xn,.int .i64 xv]) (t := 49) (fr := (0,0)) (heap_alloc_new w _))
  try (case h11=>simp [Value.oneCell'])
  try (case h12=>omega)
  try (case h13=>first | (simp [maxLen]; omega) | (unfold maxLen; omega))
  try (case h14=>omega)
  try (case h15=>first | omega | (simp; omega))
  try (case h16=>first | rfl | simp)
  intro gg cap w6 hown3 hgrow hat hlt
  have hbg:Below base w w6 := ((Below.refl base w).alloc hbw _).trans (below_of_grown9 hgrow (own_ge9 HROW.out) (by simp; omega))
  have hkx:∀k,k<w.heap.size→Value.ownBlock (.slice A8 n8 c8)≠some k→w6.heap[k]? = w.heap[k]? := fun k hk hne=>(hgrow.block k (by simp; omega) (fun e=>hne e.symm)).trans (heap_old hk rfl)
  have HKX := Lib.hid hkx
  have HBG := Lib.hid hbg
  have HOWN := Lib.hid hown3
  clear hown3 hgrow hat hbg hlt hkx
  go_wp2_with fail
  exact HN.out _ _ _ (by exact fR rfl rfl rfl) HOWN.out HBG.out HKX.out
def c_pq_r12 := sp 99 1943 cF16
theorem pq_r12_wp (hi:(i:Int)<1000000) (hN:∀a',Frm 45 [(3,s_3),(5,v),(6,.bool d),(9,s_9),(10,s_10),(11,.int .i64 (i+1:Nat))] a'→Q .normal a' w):∀ac,Frm 45 [(3,s_3),(5,v),(6,.bool d),(9,s_9),(10,s_10),(11,.int .i64 (i:Nat))] ac→Code.wp Tryd.prog c_pq_r12 Q ac w := by
  refine fO (frame_pq ?_)
  intros
  rename_i hq
  iterate 6 (obtain ⟨e,hq⟩ := hq; obtain rfl := sI e; clear e)
  clear hq
  conv=>arg 2; whnf
  have hi4:(i:Int)≤9223372036854775806 := by omega
  replace hN := Lib.hid hN
  go_wp2_with fail
  exact hN.out _ (by exact fR rfl rfl rfl)
def c_pq_r13 := sp 99 79 cF16
theorem pq_r13_wp (hN:∀a',Frm 45 [(3,s_3),(5,v),(6,.bool d),(39,.bool (!d))] a'→Q .normal a' w):∀ac,Frm 45 [(3,s_3),(5,v),(6,.bool d)] ac→Code.wp Tryd.prog c_pq_r13 Q ac w := by
  refine fO (frame_pq ?_)
  intros
  rename_i hq
  iterate 3 (obtain ⟨e,hq⟩ := hq; obtain rfl := sI e; clear e)
  clear hq
  conv=>arg 2; whnf
  cases d
  · replace hN := Lib.hid hN
    go_wp2_with fail
    exact hN.out _ (by exact fR rfl rfl rfl)
  · replace hN := Lib.hid hN
    go_wp2_with fail
    exact hN.out _ (by exact fR rfl rfl rfl)
def c_pq_r14 := sp 99 175 cF16
theorem pq_r14_wp (hgc:w.heap[gc]? = some (.cells #[.string cn,.int .i64 cv] 49 (0,0))) (hl:n8≤1000000) (hrow:w.ownsRow base 49 2 (.slice A8 n8 c8) n8 xs) (hbw:base≤w.heap.size) (hN:∀v' a' w',Frm 45 [(5,v')] a'→w'.ownsRow base 49 2 v' (n8+1) (xs++[.string cn,.int .i64 cv])→Below base w w'→(∀k,k<w.heap.size→Value.ownBlock (.slice A8 n8 c8)≠some k→w'.heap[k]? = w.heap[k]?)→Q .normal a' w'):∀ac,Frm 45 [(3,.pointer (some ⟨gc,0,none⟩)),(5,(.slice A8 n8 c8))] ac→Code.wp Tryd.prog c_pq_r14 Q ac w := by
  refine fO (frame_pq ?_)
  intros
  rename_i hq
  iterate 2 (obtain ⟨e,hq⟩ := hq; obtain rfl := sI e; clear e)
  clear hq
  conv=>arg 2; whnf
  obtain ⟨ti,hti,ht0,ht1,ht2⟩ := info_parts infoConL
  have c0 := cellv hgc 0 rfl
  have c1 := cellv hgc 1 rfl
  have cl := lt_heap hgc
  clear hgc
  have HN := Lib.hid hN
  have HROW := Lib.hid hrow
  clear hN hrow
  go_wp2_with (at_builtin; refine wpList_append_lies (w.alloc (.cells #[.string cn,.int .i64 cv] 49)) ?h1 (.tmp 40) (.tmp 42) 22 ?h2 base 49 ti (.agg #[.string ⟨#[]⟩,.int .i64 0]) 2 24 ?h3 hti ht0 ht1 ht2 ?h4 ?h5 (.slice A8 n8 c8) n8 xs ?h6 ?h7 ⟨w.heap.size,0,none⟩ 1 1 [.string cn,.int .i64 cv] ?h8 ?h9 ?h10 ?h11 ?h12 ?h13 ?h14 ?h15 (w.heap.size+1) ?h16 ?_)
  try (case h1=>rfl)
  try (case h2=>rfl)
  try (case h3=>exact Tryd.underlying22)
  try (case h4=>rfl)
  try (case h5=>omega)
  try (case h6=>rfl)
  try (case h7=>exact HROW.out.alloc _)
  try (case h8=>rfl)
  try (case h9=>rfl)
  try (case h10=>exact World.news_of_block (cs := #[.string cn,.int .i64 cv]) (t := 49) (fr := (0,0)) (heap_alloc_new w _))
  try (case h11=>simp [Value.oneCell'])
  try (case h12=>omega)
  try (case h13=>first | (simp [maxLen]; omega) | (unfold maxLen; omega))
  try (case h14=>omega)
  try (case h15=>first | omega | (simp; omega))
  try (case h16=>first | rfl | simp)
  intro gg cap w6 hown3 hgrow hat hlt
  have hbg:Below base w w6 := ((Below.refl base w).alloc hbw _).trans (below_of_grown9 hgrow (own_ge9 HROW.out) (by simp; omega))
  have hkx:∀k,k<w.heap.size→Value.ownBlock (.slice A8 n8 c8)≠some k→w6.heap[k]? = w.heap[k]? := fun k hk hne=>(hgrow.block k (by simp; omega) (fun e=>hne e.symm)).trans (heap_old hk rfl)
  have HKX := Lib.hid hkx
  have HBG := Lib.hid hbg
  have HOWN := Lib.hid hown3
  clear hown3 hgrow hat hbg hlt hkx
  go_wp2_with fail
  exact HN.out _ _ _ (id ⟨rfl,rfl,rfl,trivial⟩) HOWN.out HBG.out HKX.out
def c_pq_r15 := sp 99 95 cF16
theorem pq_r15_wp (hN:∀a',Frm 45 [(4,v)] a'→Q .normal a' w):∀ac,Frm 45 [(5,v)] ac→Code.wp Tryd.prog c_pq_r15 Q ac w := by
  refine fO (frame_pq ?_)
  intros
  rename_i hq
  iterate 1 (obtain ⟨e,hq⟩ := hq; obtain rfl := sI e; clear e)
  clear hq
  conv=>arg 2; whnf
  replace hN := Lib.hid hN
  go_wp2_with fail
  exact hN.out _ (id ⟨rfl,rfl,rfl,trivial⟩)
theorem pq_ret_wp {R:Ending→World→Prop} {w':World} {vr:Value} (hR:R (.returned (vr)) w'):∀ac,Frm 45 [(4,vr)] ac→bodyPost Tryd.prog Tryd.f16 R .ret ac w' := by
  refine fO (frame_pq ?_)
  intros
  rename_i hq
  iterate 1 (obtain ⟨e,hq⟩ := hq; obtain rfl := sI e; clear e)
  clear hq
  refine bodyPost_ret (v := vr) (by simp [results,Tryd.results16,go_sem]) rfl ?_
  exact hR
theorem own_slice9 (h:w.ownsRow base E size v n xs):∃A c,v=.slice A n c := by
  obtain ⟨_,h2⟩ := h
  rcases h2 with ⟨e,e0⟩ | ⟨g,cap,cur,e,_⟩
  · exact ⟨none,0,by rw [e,e0]⟩
  · exact ⟨_,cap,e⟩
theorem row_mono9 {base':Nat} (h:w.ownsRow base E size v n xs) (hb:base'≤base):w.ownsRow base' E size v n xs :=
  ⟨h.1,h.2.imp id fun ⟨g,cap,cur,h1,h2,h3⟩=>⟨g,cap,cur,h1,Nat.le_trans hb h2,h3⟩⟩
def conL (l:List Con):List Value := l.flatMap (fun c=>[.string c.nm,.int .i64 c.v])
theorem conL_app (l:List Con) (c:Con):conL l++[.string c.nm,.int .i64 c.v]=conL (l++[c]) := by simp [conL]
theorem putG_le (c:Con):∀(l:List Con) (d:Bool),(putG d l c).length≤l.length+1
  | [],d=>by unfold putG; split <;> simp
  | x :: l,d=>by
    unfold putG
    have h1 := putG_le c l true
    have h2 := putG_le c l (d || decide (x.nm=c.nm))
    rw [putG_true] at h1
    split
    · rw [putG_true]; simp
    · simp only [List.length_cons]; omega
theorem putG_any (l:List Con) (c:Con) (v:Value) (w:World) (S:Nat→Prop) (hl:l.length≤1000) (ht:conRep.Sl w S v l) (hS:∀b,S b→b<w.heap.size) :
    Calls Tryd.prog 16 #[v,.agg #[.string c.nm,.int .i64 c.v]] w fun e w'=>∃v',e=.returned v'∧w'.ownsRow w.heap.size 49 2 v' (putG false l c).length (conL (putG false l c))∧Below w.heap.size w w' := by
  obtain ⟨A,n9,c9,rfl,hn9,_,_⟩ := id ht
  subst hn9
  go_enter Tryd.func16,Tryd.ntmps16
  refine wp_seq ?_
  refine pq_r0_wp (fun a0 h0=>?_) _ (id ⟨rfl,rfl,rfl,rfl,trivial⟩)
  refine gen_last (fun wx=>wx.heap[w.heap.size]? = some (.cells #[.string c.nm,.int .i64 c.v] 49 (0,0))∧Below w.heap.size w wx∧wx.heap.size=w.heap.size+1) ⟨heap_at rfl,by go_grown,by simp⟩ ?_
  rintro wy ⟨hcy,hby,hys⟩
  refine wp_seq ?_
  refine pq_r1_wp (fun a1 h1=>?_) a0 h0
  refine wp_seq ?_
  refine pq_r2_wp (fun a2 h2=>?_) a1 h1
  refine wp_seq ?_
  refine wp_seq ?_
  refine pq_r3_wp (fun a3 h3=>?_) a2 h2
  refine wp_block ?_
  refine wp_loopR (fun g a' w'=>∃(i:Nat) (v5:Value) (d:Bool) (out:List Con),i+g=l.length∧Frm 45 [(3,.pointer (some ⟨w.heap.size,0,none⟩)),(5,v5),(6,.bool d),(9,.slice A l.length c9),(10,.int .i64 (l.length:Nat)),(11,.int .i64 (i:Nat))] a'∧putG false l c=out++putG d (l.drop i) c∧w'.ownsRow wy.heap.size 49 2 v5 out.length (conL out)∧Below wy.heap.size wy w') l.length ⟨0,_,false,[],by omega,h3,by simp,World.ownsRow_nil _ _ _ _,Below.refl _ _⟩ ?_
  rintro g a4 w4 ⟨i,v5,d,out,hig,h4,hp,hrow,hb4⟩
  have hout:out.length≤l.length+1 := by
    have := putG_le c l false
    rw [hp,List.length_append] at this
    omega
  have hs4 := hb4.size
  have hc4 := (hb4.block _ (lt_heap hcy)).trans hcy
  obtain ⟨A8,c8,rfl⟩:∃A8 c8,v5=.slice A8 out.length c8 := own_slice9 hrow
  refine wp_seq ?_
  refine pq_r4_wp (fun a5 h5=>?_) a4 h4
  refine wp_seq ?_
  by_cases hi:i<l.length
  case neg =>
    refine wp_cond_false ((h5.eval (k := 12) (v := .bool (decide (i<l.length))) (by simp)).trans (by rw [decide_eq_false hi])) ?_
    refine wp_exit ?_
    repeat refine then_exit ?_
    refine inBlock_exit ?_
    have hdr:l.drop i=[] := List.drop_eq_nil_of_le (by omega)
    rw [hdr] at hp
    refine wp_seq ?_
    refine wp_seq ?_
    refine pq_r13_wp (fun a6 h6=>?_) a5 (h5.pick [0,1,2])
    cases d
    · refine wp_cond_true ((h6.eval (k := 39) (v := .bool true) (by simp)).trans rfl) ?_
      refine pq_r14_wp (base := wy.heap.size) hc4 (by omega) hrow hs4 (fun v' a7 w7 h7 hrow7 hb7 _=>?_) a6 (h6.pick [0,1])
      rw [conL_app] at hrow7
      have hpe:putG false l c=out++[c] := by rw [hp]; simp [putG]
      refine wp_seq ?_
      refine pq_r15_wp (fun a8 h8=>?_) a7 h7
      refine wp_ret ?_
      refine pq_ret_wp ⟨v',rfl,?_,hby.trans ((hb4.trans hb7).mono hby.size)⟩ a8 h8
      rw [hpe,List.length_append,List.length_singleton]
      exact row_mono9 hrow7 hby.size
    · refine wp_cond_false ((h6.eval (k := 39) (v := .bool false) (by simp)).trans rfl) ?_
      refine wp_skip ?_
      show Code.wp _ _ _ a6 w4
      have hpe:putG false l c=out := by rw [hp]; simp [putG]
      refine wp_seq ?_
      refine pq_r15_wp (fun a8 h8=>?_) a6 (h6.pick [1])
      refine wp_ret ?_
      refine pq_ret_wp ⟨_,rfl,?_,hby.trans (hb4.mono hby.size)⟩ a8 h8
      rw [hpe]
      exact row_mono9 hrow hby.size
  refine wp_cond_true ((h5.eval (k := 12) (v := .bool (decide (i<l.length))) (by simp)).trans (by rw [decide_eq_true hi])) ?_
  refine wp_skip ?_
  show Code.wp _ _ _ a5 w4
  obtain ⟨b,o,xc,rfl,hSb,⟨rfl,_⟩,hc1⟩ := Rep.Sl.at_ ht (List.getElem?_eq_getElem hi)
  have hbs := hS _ hSb
  have kk:∀j,w4.cell? ⟨b,o+i * 2+j,none⟩=w.cell? ⟨b,o+i * 2+j,none⟩ := fun j=>(cell_keep (hb4.block b (by omega)) _).trans (cell_keep (hby.block b hbs) _)
  have e0:w4.cell? ⟨b,o+i * 2,none⟩=_ := (kk 0).trans (hc1 0 _ rfl)
  have e1:w4.cell? ⟨b,o+i * 2+1,none⟩=_ := (kk 1).trans (hc1 1 _ rfl)
  have hdr:l.drop i=l[i] :: l.drop (i+1) := List.drop_eq_getElem_cons hi
  rw [hdr] at hp
  obtain ⟨x,hx⟩:∃x,l[i]=x := ⟨_,rfl⟩
  rw [hx] at hp e0 e1
  refine wp_seq ?_
  refine wp_block ?_
  refine wp_seq ?_
  refine pq_r5_wp hi e0 e1 (by omega) (fun a6 h6=>?_) a5 (h5.pick [0,1,2,3,4,5])
  obtain ⟨gx,hgx⟩:∃k,w4.heap.size=k := ⟨_,rfl⟩
  refine gen_last (fun wx=>wx.heap[gx]? = some (.cells #[.string x.nm,.int .i64 x.v] 49 (0,0))∧Below wy.heap.size w4 wx∧wx.ownsRow wy.heap.size 49 2 (.slice A8 out.length c8) out.length (conL out)) ⟨heap_at hgx.symm,(Below.refl _ _).alloc hs4 _,hrow.alloc _⟩ ?_
  rintro w5 ⟨hx5,hb5,hrow5⟩
  rw [hgx] at h6
  have hc5 := (hb5.block _ (lt_heap hcy)).trans hc4
  have hs5 := hb5.size
  have hs45:wy.heap.size≤w5.heap.size := by omega
  obtain ⟨d1,hd1⟩:∃d1,(d || decide (x.nm=c.nm))=d1 := ⟨_,rfl⟩
  have hpl:out.length+(putG d (x :: l.drop (i+1)) c).length≤l.length+1 := by
    have := putG_le c l false
    rw [hp,List.length_append] at this
    omega
  refine wp_seq ?_
  refine wp_via (fun ax wx=>wx=w5∧Frm 45 [(3,.pointer (some ⟨w.heap.size,0,none⟩)),(5,.slice A8 out.length c8),(6,.bool d1),(9,.slice (some ⟨b,o,none⟩) l.length c9),(10,.int .i64 (l.length:Nat)),(11,.int .i64 (i:Nat)),(8,.pointer (some ⟨gx,0,none⟩))] ax) ?_ (fun hK=>?_)
  · rintro a9 w9 ⟨rfl,h9⟩
    show Code.wp _ _ _ a9 w9
    refine wp_seq ?_
    refine wp_via (fun ax wx=>∃(v6:Value) (d6:Bool) (pre:List Con),Frm 45 [(3,.pointer (some ⟨w.heap.size,0,none⟩)),(5,v6),(6,.bool d6),(9,.slice (some ⟨b,o,none⟩) l.length c9),(10,.int .i64 (l.length:Nat)),(11,.int .i64 (i:Nat)),(8,.pointer (some ⟨gx,0,none⟩))] ax∧wx.heap[gx]? = some (.cells #[.string x.nm,.int .i64 x.v] 49 (0,0))∧wx.ownsRow wy.heap.size 49 2 v6 (out++pre).length (conL (out++pre))∧Below wy.heap.size w9 wx∧putG d (x :: l.drop (i+1)) c=pre++x :: putG d6 (l.drop (i+1)) c) ?_ (fun hK2=>?_)
    · rintro a10 w10 ⟨v6,d6,pre,h10,hx10,hrow10,hb10,hpe⟩
      show Code.wp _ _ _ a10 w10
      have hb10s := hb10.size
      obtain ⟨A6,c6,rfl⟩:∃A6 c6,v6=.slice A6 (out++pre).length c6 := own_slice9 hrow10
      have hlp:(out++pre).length≤2000 := by
        rw [hpe,List.length_append] at hpl
        rw [List.length_append]
        omega
      refine pq_r11_wp (base := wy.heap.size) hx10 (by omega) hrow10 (by omega) (fun v' a11 w11 h11 hrow11 hb11 _=>?_) a10 h10
      rw [conL_app] at hrow11
      show Code.wp _ _ _ a11 w11
      refine pq_r12_wp (by omega) (fun a12 h12=>?_) a11 h11
      refine ⟨l.length - (i+1),by omega,i+1,v',d6,out++pre++[x],by omega,h12,?_,?_,((hb4.trans hb5).trans hb10).trans hb11⟩
      · rw [hp,hpe]; simp
      · rw [List.length_append,List.length_singleton]
        exact hrow11
    · refine wp_seq ?_
      refine pq_r8_wp hc5 hx5 (fun a10 h10=>?_) a9 h9
      obtain ⟨b8,hb8⟩:∃b8,(!d1 && Op.bytesLess c.nm.toList x.nm.toList)=b8 := ⟨_,rfl⟩
      rw [hb8] at h10
      cases b8
      · refine wp_cond_false ((h10.eval (k := 28) (v := .bool false) (by simp)).trans rfl) ?_
        refine wp_skip ?_
        refine hK2 _ _ ⟨_,d1,[],(h10.pick [0,1,2,3,4,5,6]),hx5,by rw [List.append_nil]; exact hrow5,Below.refl _ _,?_⟩
        rw [putG,hd1,if_neg]
        · rfl
        · rintro ⟨e1,e2⟩
          rw [e1,e2] at hb8
          cases hb8
      · refine wp_cond_true ((h10.eval (k := 28) (v := .bool true) (by simp)).trans rfl) ?_
        refine wp_seq ?_
        refine pq_r9_wp (base := wy.heap.size) hc5 (by omega) hrow5 hs45 (fun v' a11 w11 h11 hrow11 hb11 hkx=>?_) a10 (h10.pick [0,1,2,3,4,5,6])
        rw [conL_app] at hrow11
        refine pq_r10_wp (fun a12 h12=>?_) a11 h11
        refine hK2 _ _ ⟨_,true,[c],h12,(hkx _ (lt_heap hx5) (fun e=>by have := (hrow.lt _ e).2; omega)).trans hx5,by rw [List.length_append,List.length_singleton]; exact hrow11,hb11,?_⟩
        rw [putG,hd1,if_pos]
        · rfl
        · simpa using hb8
  · refine wp_seq ?_
    refine pq_r6_wp hc5 hx5 (fun a7 h7=>?_) a6 h6
    by_cases hxc:x.nm=c.nm
    · refine wp_cond_true ((h7.eval (k := 19) (v := .bool (decide (x.nm=c.nm))) (by simp)).trans (by rw [decide_eq_true hxc])) ?_
      refine pq_r7_wp (fun a8 h8=>?_) a7 (h7.pick [0,1,2,3,4,5,6])
      refine hK _ _ ⟨rfl,?_⟩
      rw [← hd1,decide_eq_true hxc,Bool.or_true]
      exact h8
    · refine wp_cond_false ((h7.eval (k := 19) (v := .bool (decide (x.nm=c.nm))) (by simp)).trans (by rw [decide_eq_false hxc])) ?_
      refine wp_skip ?_
      refine hK _ _ ⟨rfl,?_⟩
      rw [← hd1,decide_eq_false hxc,Bool.or_false]
      exact (h7.pick [0,1,2,3,4,5,6])
end
noncomputable section
set_option maxRecDepth 1000000
set_option maxHeartbeats 16000000
variable {w w':World} {base gn n8 gx gm gf sz nm1 cm nm2 dm n1 c1 n2 c2 i b nm19 cm9 gc c8:Nat} {E:TypeId} {xs:List Value} {s_9 s_2 s_3 s_81 s_82 s_12 s_83 s_14 s_121 s_122 s_18 s_19 s_20:Value} {Q:Exit→Act→World→Prop} {c j kd xv:Int} {bb al b1:Bool} {Am Bm A B Am9 A8:Option Addr} {nm xn s:ByteArray} {K:Act→World→Prop}

theorem row_keepB9 {size n:Nat} {v:Value} (h:w.ownsRow base E size v n xs) (hb:Below w.heap.size w w'):w'.ownsRow base E size v n xs := by
  obtain ⟨q1,q2⟩ := h
  refine ⟨q1,?_⟩
  rcases q2 with q2 | ⟨g',cap',cur,e,q3,hh,r⟩
  · exact Or.inl q2
  · exact Or.inr ⟨g',cap',cur,e,q3,(hb.block g' (lt_heap hh)).trans hh,r⟩
theorem app_field9 {w2 w3:World} {cap g:Nat} {V8 a0 a2:Value} {T:TypeId} {es:List Value} {o:Obj} (hb2:Below w.heap.size w w2) (hgn:w.heap[gn]? = some (.cells #[a0,V8,a2] T (0,0))) (hrow:w.ownsRow base E 2 V8 n8 xs) (hbw:base≤w.heap.size) (hgb:gn<base) (hown:w3.ownsRow base E 2 (.slice (some ⟨g,0,none⟩) (n8+1) cap) (n8+1) (xs++es)) (hg:(w2.alloc o).grownBy w3 V8.ownBlock) (_hat:V8.ownBlock=some g∨g=w2.heap.size+1) :
    w3.heap[gn]? = some (.cells #[a0,V8,a2] T (0,0))∧(w3.setCell ⟨gn,1,none⟩ (.slice (some ⟨g,0,none⟩) (n8+1) cap)).heap[gn]? = some (.cells #[a0,.slice (some ⟨g,0,none⟩) (n8+1) cap,a2] T (0,0))∧(w3.setCell ⟨gn,1,none⟩ (.slice (some ⟨g,0,none⟩) (n8+1) cap)).ownsRow base E 2 (.slice (some ⟨g,0,none⟩) (n8+1) cap) (n8+1) (xs++es)∧Keeps (fun k=>k=gn∨base≤k) w (w3.setCell ⟨gn,1,none⟩ (.slice (some ⟨g,0,none⟩) (n8+1) cap)) := by
  have hz2 := hb2.size
  have hge:∀k,V8.ownBlock=some k→base≤k := fun k e=>(hrow.lt k e).1
  have hsz:w2.heap.size+1≤w3.heap.size := by have := hg.size; simpa using this
  have hk:∀k,k<w.heap.size→V8.ownBlock≠some k→w3.heap[k]? = w.heap[k]? := fun k h1 h2=>(hg.block k (by simp; omega) (fun e=>h2 e.symm)).trans ((heap_old (by omega) rfl).trans (hb2.block k h1))
  have h3:w3.heap[gn]? = _ := (hk gn (by omega) (fun e=>by have := hge _ e; omega)).trans hgn
  refine ⟨h3,?_,?_,?_⟩
  · have := heap_set h3 1 (.slice (some ⟨g,0,none⟩) (n8+1) cap)
    simpa using this
  · obtain ⟨q1,q2⟩ := hown
    refine ⟨q1,?_⟩
    rcases q2 with q2 | ⟨g',cap',cur,e,q3,hh,r⟩
    · exact Or.inl q2
    · exact Or.inr ⟨g',cap',cur,e,q3,heap_far _ (by omega) hh,r⟩
  · exact ⟨hg.os.trans hb2.os,hg.tape.trans hb2.tape,hg.output.trans hb2.output,by rw [size_set]; omega,fun k h1 h2=>heap_far _ (fun e=>h2 (Or.inl e)) (hk k h1 (fun e=>h2 (Or.inr (hge k e))))⟩
theorem frame_tn {P:Act→Prop} (h:∀x0 x1 x2 x3 x4 x5 x6 x7 x8 x9 x10 x11 x12 x13 x14 x15 x16 x17 x18 x19 x20 x21 x22 x23 x24 x25 x26 x27 x28 x29 x30 x31 x32 x33 x34 x35 x36 x37 x38 x39 x40 x41 x42 x43 x44 x45 x46 x47 x48 x49 x50 x51 x52 x53 x54 x55 x56 x57 x58 x59 x60 x61 x62 x63 x64 x65 x66 x67 x68 x69 x70 x71 x72 x73 x74 x75 x76 x77 x78 x79 x80 x81 x82 x83 x84 x85 x86 x87 x88 x89 x90 x91 x92 x93 x94 x95 x96 x97 x98 x99 x100 x101 x102 x103 x104 x105 x106 x107 x108 x109 x110 x111 x112 x113 x114 x115 x116 x117 x118 x119 x120 x121 x122 x123 x124 x125 x126 x127 x128 x129 x130 x131 x132 x133 x134 x135 x136 x137 x138 x139 x140 x141 x142 x143 x144 x145 x146 x147 x148 x149 x150 x151 x152 x153 x154 x155 x156 x157 x158 x159 x160 x161 x162 x163 x164 x165 x166 x167 x168 x169 x170 x171 x172 x173 x174 x175 x176 x177 x178:Value,P ⟨(x0 :: x1 :: x2 :: x3 :: x4 :: x5 :: x6 :: x7 :: x8 :: x9 :: x10 :: x11 :: x12 :: x13 :: x14 :: x15 :: x16 :: x17 :: x18 :: x19 :: x20 :: x21 :: x22 :: x23 :: x24 :: x25 :: x26 :: x27 :: x28 :: x29 :: x30 :: x31 :: x32 :: x33 :: x34 :: x35 :: x36 :: x37 :: x38 :: x39 :: x40 :: x41 :: x42 :: x43 :: x44 :: x45 :: x46 :: x47 :: x48 :: x49 :: x50 :: x51 :: x52 :: x53 :: x54 :: x55 :: x56 :: x57 :: x58 :: x59 :: x60 :: x61 :: x62 :: x63 :: x64 :: x65 :: x66 :: x67 :: x68 :: x69 :: x70 :: x71 :: x72 :: x73 :: x74 :: x75 :: x76 :: x77 :: x78 :: x79 :: x80 :: x81 :: x82 :: x83 :: x84 :: x85 :: x86 :: x87 :: x88 :: x89 :: x90 :: x91 :: x92 :: x93 :: x94 :: x95 :: x96 :: x97 :: x98 :: x99 :: x100 :: x101 :: x102 :: x103 :: x104 :: x105 :: x106 :: x107 :: x108 :: x109 :: x110 :: x111 :: x112 :: x113 :: x114 :: x115 :: x116 :: x117 :: x118 :: x119 :: x120 :: x121 :: x122 :: x123 :: x124 :: x125 :: x126 :: x127 :: x128 :: x129 :: x130 :: x131 :: x132 :: x133 :: x134 :: x135 :: x136 :: x137 :: x138 :: x139 :: x140 :: x141 :: x142 :: x143 :: x144 :: x145 :: x146 :: x147 :: x148 :: x149 :: x150 :: x151 :: x152 :: x153 :: x154 :: x155 :: x156 :: x157 :: x158 :: x159 :: x160 :: x161 :: x162 :: x163 :: x164 :: x165 :: x166 :: x167 :: x168 :: x169 :: x170 :: x171 :: x172 :: x173 :: x174 :: x175 :: x176 :: x177 :: x178 :: []).toArray,[]⟩):∀a:Act,a.tmps.toList.length=179→a.defers=[]→P a := by
  rintro ⟨⟨l⟩,d⟩ hs hd
  simp only at hd
  subst hd
  revert l
  show ∀l:List Value,l.length=179→P ⟨⟨l⟩,[]⟩
  iterate 179 refine openS (fun _=>?_)
  refine open0 ?_
  exact h ..
noncomputable def cF4:Code := Tryd.f4.body.getD .skip
def c_tn_r8c := sp 99 79 cF4
theorem tn_r8c_wp (g0:w.cell? ⟨0,0,none⟩=some (.int .i64 0)) (g1:w.cell? ⟨0,1,none⟩=some (.int .i64 0)) (hcz:c≠0) (he:w.heap[gx]? = some (.cells #[.int .i64 c,.int .i64 j] 32 (0,0))) (hN:∀a',Frm 179 [(2,.pointer (some ⟨gm,0,none⟩)),(3,.pointer (some ⟨gf,0,none⟩)),(9,s_9),(79,.bool true)] a'→Q .normal a' w):∀ac,Frm 179 [(2,.pointer (some ⟨gm,0,none⟩)),(3,.pointer (some ⟨gf,0,none⟩)),(9,s_9),(10,.pointer (some ⟨gx,0,none⟩))] ac→Code.wp Tryd.prog c_tn_r8c Q ac w := by
  refine fO (frame_tn ?_)
  intros
  rename_i hq
  iterate 4 (obtain ⟨e,hq⟩ := hq; obtain rfl := sI e; clear e)
  clear hq
  conv=>arg 2; whnf
  have e0 := cellv he 0 rfl
  have e1 := cellv he 1 rfl
  have el := lt_heap he
  have lg := World.block_lt_of_cell? w _ g0
  clear he
  have t1:(c == 0)=false := beq_eq_false_iff_ne.2 hcz
  replace hN := Lib.hid hN
  go_wp2_with fail
  exact hN.out _ (by exact fR rfl rfl rfl)
def c_tn_r8z := sp 99 79 cF4
theorem tn_r8z_wp (g0:w.cell? ⟨0,0,none⟩=some (.int .i64 0)) (g1:w.cell? ⟨0,1,none⟩=some (.int .i64 0)) (hbb:(!(decide (kd=8) || decide (kd=9)) || decide (250<nm1))=bb) (he:w.heap[gx]? = some (.cells #[.int .i64 0,.int .i64 0] 32 (0,0))) (hgm:w.heap[gm]? = some (.cells #[.int .i64 (sz:Nat),.slice Am nm1 cm,.slice Bm nm2 dm] 25 (0,0))) (ha:w.heap[gf]? = some (.cells #[.int .i64 kd,.string nm,.slice A n1 c1,.slice B n2 c2] 29 (0,0))) (hN:∀a',Frm 179 [(2,.pointer (some ⟨gm,0,none⟩)),(3,.pointer (some ⟨gf,0,none⟩)),(9,s_9),(79,.bool bb)] a'→Q .normal a' w):∀ac,Frm 179 [(2,.pointer (some ⟨gm,0,none⟩)),(3,.pointer (some ⟨gf,0,none⟩)),(9,s_9),(10,.pointer (some ⟨gx,0,none⟩))] ac→Code.wp Tryd.prog c_tn_r8z Q ac w := by
  refine fO (frame_tn ?_)
  intros
  rename_i hq
  iterate 4 (obtain ⟨e,hq⟩ := hq; obtain rfl := sI e; clear e)
  clear hq
  conv=>arg 2; whnf
  have e0 := cellv he 0 rfl
  have e1 := cellv he 1 rfl
  have el := lt_heap he
  have m0 := cellv hgm 0 rfl
  have m1 := cellv hgm 1 rfl
  have m2 := cellv hgm 2 rfl
  have ml := lt_heap hgm
  have a0 := cellv ha 0 rfl
  have a1 := cellv ha 1 rfl
  have a2 := cellv ha 2 rfl
  have a3 := cellv ha 3 rfl
  have al := lt_heap ha
  have lg := World.block_lt_of_cell? w _ g0
  clear he hgm ha
  subst hbb
  by_cases h8:kd=8
  · have t8:(kd == 8)=true := beq_iff_eq.2 h8
    by_cases hl:250<nm1
    · have q1:decide ((250:Int)<(nm1:Int))=true := decide_eq_true (by omega)
      rw [show (!(decide (kd=8) || decide (kd=9)) || decide (250<nm1))=true from by simp [hl]] at hN
      replace hN := Lib.hid hN
      go_wp2_with fail
      exact hN.out _ (by exact fR rfl rfl rfl)
    · have q1:decide ((250:Int)<(nm1:Int))=false := decide_eq_false (by omega)
      rw [show (!(decide (kd=8) || decide (kd=9)) || decide (250<nm1))=false from by simp [hl,h8]] at hN
      replace hN := Lib.hid hN
      go_wp2_with fail
      exact hN.out _ (by exact fR rfl rfl rfl)
  · have t8:(kd == 8)=false := beq_eq_false_iff_ne.2 h8
    by_cases h9:kd=9
    · have t9:(kd == 9)=true := beq_iff_eq.2 h9
      by_cases hl:250<nm1
      · have q1:decide ((250:Int)<(nm1:Int))=true := decide_eq_true (by omega)
        rw [show (!(decide (kd=8) || decide (kd=9)) || decide (250<nm1))=true from by simp [hl]] at hN
        replace hN := Lib.hid hN
        go_wp2_with fail
        exact hN.out _ (by exact fR rfl rfl rfl)
      · have q1:decide ((250:Int)<(nm1:Int))=false := decide_eq_false (by omega)
        rw [show (!(decide (kd=8) || decide (kd=9)) || decide (250<nm1))=false from by simp [hl,h9]] at hN
        replace hN := Lib.hid hN
        go_wp2_with fail
        exact hN.out _ (by exact fR rfl rfl rfl)
    · have t9:(kd == 9)=false := beq_eq_false_iff_ne.2 h9
      rw [show (!(decide (kd=8) || decide (kd=9)) || decide (250<nm1))=true from by simp [h8,h9]] at hN
      replace hN := Lib.hid hN
      go_wp2_with fail
      exact hN.out _ (by exact fR rfl rfl rfl)
def c_tn_r9 := sp 99 303 cF4
theorem tn_r9_wp (hN:∀a',Frm 179 [(4,.bool true)] a'→Q .normal a' w):∀ac,Frm 179 [(2,s_2)] ac→Code.wp Tryd.prog c_tn_r9 Q ac w := by
  refine fO (frame_tn ?_)
  intros
  rename_i hq
  iterate 1 (obtain ⟨e,hq⟩ := hq; obtain rfl := sI e; clear e)
  clear hq
  conv=>arg 2; whnf
  replace hN := Lib.hid hN
  go_wp2_with fail
  exact hN.out _ (id ⟨rfl,rfl,rfl,trivial⟩)
def c_tn_r10 := sp 99 159 cF4
theorem tn_r10_wp (hgm:w.heap[gm]? = some (.cells #[.int .i64 (sz:Nat),.slice Am nm1 cm,.slice Bm nm2 dm] 25 (0,0))) (hN:∀a',Frm 179 [(2,.pointer (some ⟨gm,0,none⟩)),(3,s_3),(9,s_9),(81,.slice Am nm1 cm),(82,.int .i64 (nm1:Nat)),(83,.int .i64 (0:Nat))] a'→Q .normal a' w):∀ac,Frm 179 [(2,.pointer (some ⟨gm,0,none⟩)),(3,s_3),(9,s_9)] ac→Code.wp Tryd.prog c_tn_r10 Q ac w := by
  refine fO (frame_tn ?_)
  intros
  rename_i hq
  iterate 3 (obtain ⟨e,hq⟩ := hq; obtain rfl := sI e; clear e)
  clear hq
  conv=>arg 2; whnf
  have m0 := cellv hgm 0 rfl
  have m1 := cellv hgm 1 rfl
  have m2 := cellv hgm 2 rfl
  have ml := lt_heap hgm
  clear hgm
  replace hN := Lib.hid hN
  go_wp2_with fail
  exact hN.out _ (by exact fR rfl rfl rfl)
def c_tn_r11 := sp 99 1119 cF4
theorem tn_r11_wp (hN:∀a',Frm 179 [(2,s_2),(3,s_3),(9,s_9),(81,s_81),(82,.int .i64 (nm1:Nat)),(83,.int .i64 (i:Nat)),(84,.bool (decide (i<nm1)))] a'→Q .normal a' w):∀ac,Frm 179 [(2,s_2),(3,s_3),(9,s_9),(81,s_81),(82,.int .i64 (nm1:Nat)),(83,.int .i64 (i:Nat))] ac→Code.wp Tryd.prog c_tn_r11 Q ac w := by
  refine fO (frame_tn ?_)
  intros
  rename_i hq
  iterate 6 (obtain ⟨e,hq⟩ := hq; obtain rfl := sI e; clear e)
  clear hq
  conv=>arg 2; whnf
  by_cases h:i<nm1
  · have t1:decide ((i:Int)<(nm1:Int))=true := by first | exact decide_eq_true (by omega) | exact beq_iff_eq.2 (by omega) | exact bne_iff_ne.2 (by omega)
    have t2:(decide (i<nm1))=true := decide_eq_true h
    rw [t2] at hN
    clear h
    replace hN := Lib.hid hN
    go_wp2_with fail
    exact hN.out _ (by exact fR rfl rfl rfl)
  · have t1:decide ((i:Int)<(nm1:Int))=false := by first | exact decide_eq_false (by omega) | exact beq_eq_false_iff_ne.2 (by omega) | exact bne_eq_false_iff_eq.2 (by omega)
    have t2:(decide (i<nm1))=false := decide_eq_false h
    rw [t2] at hN
    clear h
    replace hN := Lib.hid hN
    go_wp2_with fail
    exact hN.out _ (by exact fR rfl rfl rfl)
def c_tn_r12 := sp 99 18015 cF4
theorem tn_r12_wp {o:Nat} (hi:i<nm1) (e0:w.cell? ⟨b,o+i * 2,none⟩=some (.string xn)) (e1:w.cell? ⟨b,o+i * 2+1,none⟩=some (.int .i64 xv)) (hbl:b<w.heap.size) (hN:∀a',Frm 179 [(2,s_2),(3,s_3),(9,s_9),(81,.slice (some ⟨b,o,none⟩) nm1 cm),(82,s_82),(83,.int .i64 (i:Nat)),(12,.pointer (some ⟨w.heap.size,0,none⟩))] a'→Q .normal a' (w.alloc (.cells #[.string xn,.int .i64 xv] 49))):∀ac,Frm 179 [(2,s_2),(3,s_3),(9,s_9),(81,.slice (some ⟨b,o,none⟩) nm1 cm),(82,s_82),(83,.int .i64 (i:Nat))] ac→Code.wp Tryd.prog c_tn_r12 Q ac w := by
  refine fO (frame_tn ?_)
  intros
  rename_i hq
  iterate 6 (obtain ⟨e,hq⟩ := hq; obtain rfl := sI e; clear e)
  clear hq
  conv=>arg 2; whnf
  have q0:(0:Int)≤(i:Int) := by omega
  have q1:(i:Int)<(nm1:Int) := by omega
  replace hN := Lib.hid hN
  go_wp2_with fail
  exact hN.out _ (by exact fR rfl rfl rfl)
def c_tn_r13 := sp 99 42591 cF4
theorem tn_r13_wp (hN:∀a',Frm 179 [(2,s_2),(3,s_3),(9,s_9),(81,s_81),(82,s_82),(83,s_83),(12,s_12),(13,.int .i64 (0:Nat))] a'→Q .normal a' w):∀ac,Frm 179 [(2,s_2),(3,s_3),(9,s_9),(81,s_81),(82,s_82),(83,s_83),(12,s_12)] ac→Code.wp Tryd.prog c_tn_r13 Q ac w := by
  refine fO (frame_tn ?_)
  intros
  rename_i hq
  iterate 7 (obtain ⟨e,hq⟩ := hq; obtain rfl := sI e; clear e)
  clear hq
  conv=>arg 2; whnf
  replace hN := Lib.hid hN
  go_wp2_with fail
  exact hN.out _ (by exact fR rfl rfl rfl)
def c_tn_r14 := sp 99 550495 cF4
theorem tn_r14_wp {v:Nat} (hgm:w.heap[gm]? = some (.cells #[.int .i64 (sz:Nat),.slice Am9 nm19 cm9,.slice Bm nm2 dm] 25 (0,0))) (hN:∀a',Frm 179 [(2,.pointer (some ⟨gm,0,none⟩)),(3,s_3),(9,s_9),(81,s_81),(82,s_82),(83,s_83),(12,s_12),(13,.int .i64 (v:Nat)),(90,.bool (decide (v<sz)))] a'→Q .normal a' w):∀ac,Frm 179 [(2,.pointer (some ⟨gm,0,none⟩)),(3,s_3),(9,s_9),(81,s_81),(82,s_82),(83,s_83),(12,s_12),(13,.int .i64 (v:Nat))] ac→Code.wp Tryd.prog c_tn_r14 Q ac w := by
  refine fO (frame_tn ?_)
  intros
  rename_i hq
  iterate 8 (obtain ⟨e,hq⟩ := hq; obtain rfl := sI e; clear e)
  clear hq
  conv=>arg 2; whnf
  have m0 := cellv hgm 0 rfl
  have m1 := cellv hgm 1 rfl
  have m2 := cellv hgm 2 rfl
  have ml := lt_heap hgm
  clear hgm
  by_cases h:v<sz
  · have t1:decide ((v:Int)<(sz:Int))=true := by first | exact decide_eq_true (by omega) | exact beq_iff_eq.2 (by omega) | exact bne_iff_ne.2 (by omega)
    have t2:(decide (v<sz))=true := decide_eq_true h
    rw [t2] at hN
    clear h
    replace hN := Lib.hid hN
    go_wp2_with fail
    exact hN.out _ (by exact fR rfl rfl rfl)
  · have t1:decide ((v:Int)<(sz:Int))=false := by first | exact decide_eq_false (by omega) | exact beq_eq_false_iff_ne.2 (by omega) | exact bne_eq_false_iff_eq.2 (by omega)
    have t2:(decide (v<sz))=false := decide_eq_false h
    rw [t2] at hN
    clear h
    replace hN := Lib.hid hN
    go_wp2_with fail
    exact hN.out _ (by exact fR rfl rfl rfl)
def c_tn_r16 := sp 99 2254431 cF4
theorem tn_r16_wp {v:Nat} (hs:s.size≤100) (hc:∀W:World,Below w.heap.size w W→Calls Tryd.prog 15 #[.int .i64 (v:Nat)] W fun e w'=>e=.returned (.string s)∧Below W.heap.size W w') (hgc:w.heap[gc]? = some (.cells #[.string xn,.int .i64 xv] 49 (0,0))) (hN:∀a' w',Frm 179 [(2,s_2),(3,s_3),(9,s_9),(81,s_81),(82,s_82),(83,s_83),(12,.pointer (some ⟨gc,0,none⟩)),(13,.int .i64 (v:Nat)),(99,.bool (decide (xn=(hereS s))))] a'→Below w.heap.size w w'→K a' w'):∀ac,Frm 179 [(2,s_2),(3,s_3),(9,s_9),(81,s_81),(82,s_82),(83,s_83),(12,.pointer (some ⟨gc,0,none⟩)),(13,.int .i64 (v:Nat))] ac→Code.wp Tryd.prog c_tn_r16 (Exit.then K (fun _ _ _=>False)) ac w := by
  refine fO (frame_tn ?_)
  intros
  rename_i hq
  iterate 8 (obtain ⟨e,hq⟩ := hq; obtain rfl := sI e; clear e)
  clear hq
  conv=>arg 2; whnf
  have x0 := cellv hgc 0 rfl
  have l1:¬ 9223372036854775807<1+s.size := by omega
  have l2:¬ 9223372036854775807<1+s.size+5 := by omega
  by_cases h:xn=hereS s
  · have t1:(xn.toList == (((⟨#[97]⟩:ByteArray)++s)++⟨#[45,104,101,114,101]⟩).toList)=true := by rw [h]; exact beq_self_eq_true _
    rw [decide_eq_true h] at hN
    clear h
    have gcl := lt_heap hgc
    clear hgc
    have HN := Lib.hid hN
    have HC := Lib.hid hc
    clear hN hc
    go_region_held3 (fun w'=>w'.cell? ⟨gc,0,none⟩=some (.string xn))
      ((first | (go_keep; done) | (go_split_ands; (repeat' apply And.intro) <;> (refine (kc4 _ _ (by omega)).trans ?_; assumption)) | ((refine (kc4 _ _ (by omega)).trans ?_; assumption))))
      (first
        | ((with_reducible refine (HC.out _ ?hbel).mono ?_); (case hbel=>first | exact Below.refl _ _ | exact (Below.refl _ _).drew); rintro e w4 ⟨rfl,hw4⟩; have hB4:Below w.heap.size w w4 := (by first | exact hw4 | exact (Below.refl w.heap.size w).drew.trans hw4); have kc4:∀k q,k<w.heap.size→w4.cell? ⟨k,q,none⟩=w.cell? ⟨k,q,none⟩ := (fun k q h=>hB4.cell (p := ⟨k,q,none⟩) h); have hz4:w.heap.size≤w4.heap.size := hB4.size; have HB4 := Lib.hid hB4; clear hw4 hB4)
        | fail)
    all_goals go_wp2_with fail
    all_goals exact HN.out _ _ (by exact fR rfl rfl rfl) HB4.out
  · have t1:(xn.toList == (((⟨#[97]⟩:ByteArray)++s)++⟨#[45,104,101,114,101]⟩).toList)=false := beq_eq_false_iff_ne.2 (fun e=>h (bytes_inj e))
    rw [decide_eq_false h] at hN
    clear h
    have gcl := lt_heap hgc
    clear hgc
    have HN := Lib.hid hN
    have HC := Lib.hid hc
    clear hN hc
    go_region_held3 (fun w'=>w'.cell? ⟨gc,0,none⟩=some (.string xn))
      ((first | (go_keep; done) | (go_split_ands; (repeat' apply And.intro) <;> (refine (kc4 _ _ (by omega)).trans ?_; assumption)) | ((refine (kc4 _ _ (by omega)).trans ?_; assumption))))
      (first
        | ((with_reducible refine (HC.out _ ?hbel).mono ?_); (case hbel=>first | exact Below.refl _ _ | exact (Below.refl _ _).drew); rintro e w4 ⟨rfl,hw4⟩; have hB4:Below w.heap.size w w4 := (by first | exact hw4 | exact (Below.refl w.heap.size w).drew.trans hw4); have kc4:∀k q,k<w.heap.size→w4.cell? ⟨k,q,none⟩=w.cell? ⟨k,q,none⟩ := (fun k q h=>hB4.cell (p := ⟨k,q,none⟩) h); have hz4:w.heap.size≤w4.heap.size := hB4.size; have HB4 := Lib.hid hB4; clear hw4 hB4)
        | fail)
    all_goals go_wp2_with fail
    all_goals exact HN.out _ _ (by exact fR rfl rfl rfl) HB4.out
def c_tn_r17 := sp 99 9594463 cF4
theorem tn_r17_wp (hN:∀a',Frm 179 [(4,.bool true)] a'→Q .normal a' w):∀ac,Frm 179 [(2,s_2)] ac→Code.wp Tryd.prog c_tn_r17 Q ac w := by
  refine fO (frame_tn ?_)
  intros
  rename_i hq
  iterate 1 (obtain ⟨e,hq⟩ := hq; obtain rfl := sI e; clear e)
  clear hq
  conv=>arg 2; whnf
  replace hN := Lib.hid hN
  go_wp2_with fail
  exact hN.out _ (id ⟨rfl,rfl,rfl,trivial⟩)
def c_tn_r15 := sp 99 943711 cF4
theorem tn_r15_wp {v:Nat} (hv:(v:Int)≤1000) (hN:∀a',Frm 179 [(2,s_2),(3,s_3),(9,s_9),(81,s_81),(82,s_82),(83,s_83),(12,s_12),(13,.int .i64 (v+1:Nat))] a'→Q .normal a' w):∀ac,Frm 179 [(2,s_2),(3,s_3),(9,s_9),(81,s_81),(82,s_82),(83,s_83),(12,s_12),(13,.int .i64 (v:Nat))] ac→Code.wp Tryd.prog c_tn_r15 Q ac w := by
  refine fO (frame_tn ?_)
  intros
  rename_i hq
  iterate 8 (obtain ⟨e,hq⟩ := hq; obtain rfl := sI e; clear e)
  clear hq
  conv=>arg 2; whnf
  have hv4:(v:Int)≤1000 := by omega
  replace hN := Lib.hid hN
  go_wp2_with fail
  exact hN.out _ (by exact fR rfl rfl rfl)
def c_tn_r18 := sp 99 7775 cF4
theorem tn_r18_wp (hi:(i:Int)≤1000) (hN:∀a',Frm 179 [(2,s_2),(3,s_3),(9,s_9),(81,s_81),(82,s_82),(83,.int .i64 (i+1:Nat))] a'→Q .normal a' w):∀ac,Frm 179 [(2,s_2),(3,s_3),(9,s_9),(81,s_81),(82,s_82),(83,.int .i64 (i:Nat))] ac→Code.wp Tryd.prog c_tn_r18 Q ac w := by
  refine fO (frame_tn ?_)
  intros
  rename_i hq
  iterate 6 (obtain ⟨e,hq⟩ := hq; obtain rfl := sI e; clear e)
  clear hq
  conv=>arg 2; whnf
  have hi4:(i:Int)≤1000 := by omega
  replace hN := Lib.hid hN
  go_wp2_with fail
  exact hN.out _ (by exact fR rfl rfl rfl)
def c_tn_r19 := sp 99 191 cF4
theorem tn_r19_wp (hgm:w.heap[gm]? = some (.cells #[.int .i64 (sz:Nat),.slice Am nm1 cm,.slice Bm nm2 dm] 25 (0,0))) (hN:∀a',Frm 179 [(2,.pointer (some ⟨gm,0,none⟩)),(3,s_3),(9,s_9),(14,.pointer (some ⟨w.heap.size,0,none⟩))] a'→Q .normal a' (w.alloc (.cells #[.int .i64 (sz:Nat),.slice Am nm1 cm,.slice Bm nm2 dm] 25))):∀ac,Frm 179 [(2,.pointer (some ⟨gm,0,none⟩)),(3,s_3),(9,s_9)] ac→Code.wp Tryd.prog c_tn_r19 Q ac w := by
  refine fO (frame_tn ?_)
  intros
  rename_i hq
  iterate 3 (obtain ⟨e,hq⟩ := hq; obtain rfl := sI e; clear e)
  clear hq
  conv=>arg 2; whnf
  have m0 := cellv hgm 0 rfl
  have m1 := cellv hgm 1 rfl
  have m2 := cellv hgm 2 rfl
  have ml := lt_heap hgm
  clear hgm
  replace hN := Lib.hid hN
  go_wp2_with fail
  exact hN.out _ (by exact fR rfl rfl rfl)
def c_tn_r20 := sp 99 383 cF4
theorem tn_r20_wp (hgn:w.heap[gn]? = some (.cells #[.int .i64 (sz:Nat),.slice Am nm1 cm,.slice Bm nm2 dm] 25 (0,0))) (hN:∀a',Frm 179 [(2,s_2),(3,s_3),(9,s_9),(14,.pointer (some ⟨gn,0,none⟩))] a'→Q .normal a' (w.setCell ⟨gn,1,none⟩ (.slice none 0 0))):∀ac,Frm 179 [(2,s_2),(3,s_3),(9,s_9),(14,.pointer (some ⟨gn,0,none⟩))] ac→Code.wp Tryd.prog c_tn_r20 Q ac w := by
  refine fO (frame_tn ?_)
  intros
  rename_i hq
  iterate 4 (obtain ⟨e,hq⟩ := hq; obtain rfl := sI e; clear e)
  clear hq
  conv=>arg 2; whnf
  have n1 := cellv hgn 1 rfl
  have nf := free_heap hgn 1
  have nl := lt_heap hgn
  replace hgn := Lib.hid hgn
  replace hN := Lib.hid hN
  go_wp2_with fail
  exact hN.out _ (by exact fR rfl rfl rfl)
def c_tn_r21 := sp 99 1279 cF4
theorem tn_r21_wp (hN:∀a',Frm 179 [(2,s_2),(3,s_3),(9,s_9),(14,s_14),(15,.int .i64 (0:Nat))] a'→Q .normal a' w):∀ac,Frm 179 [(2,s_2),(3,s_3),(9,s_9),(14,s_14)] ac→Code.wp Tryd.prog c_tn_r21 Q ac w := by
  refine fO (frame_tn ?_)
  intros
  rename_i hq
  iterate 4 (obtain ⟨e,hq⟩ := hq; obtain rfl := sI e; clear e)
  clear hq
  conv=>arg 2; whnf
  replace hN := Lib.hid hN
  go_wp2_with fail
  exact hN.out _ (by exact fR rfl rfl rfl)
def c_tn_r22 := sp 99 17151 cF4
theorem tn_r22_wp {v:Nat} (hgm:w.heap[gm]? = some (.cells #[.int .i64 (sz:Nat),.slice Am9 nm19 cm9,.slice Bm nm2 dm] 25 (0,0))) (hN:∀a',Frm 179 [(2,.pointer (some ⟨gm,0,none⟩)),(3,s_3),(9,s_9),(14,s_14),(15,.int .i64 (v:Nat)),(106,.bool (decide (v<sz)))] a'→Q .normal a' w):∀ac,Frm 179 [(2,.pointer (some ⟨gm,0,none⟩)),(3,s_3),(9,s_9),(14,s_14),(15,.int .i64 (v:Nat))] ac→Code.wp Tryd.prog c_tn_r22 Q ac w := by
  refine fO (frame_tn ?_)
  intros
  rename_i hq
  iterate 5 (obtain ⟨e,hq⟩ := hq; obtain rfl := sI e; clear e)
  clear hq
  conv=>arg 2; whnf
  have m0 := cellv hgm 0 rfl
  have m1 := cellv hgm 1 rfl
  have m2 := cellv hgm 2 rfl
  have ml := lt_heap hgm
  clear hgm
  by_cases h:v<sz
  · have t1:decide ((v:Int)<(sz:Int))=true := by first | exact decide_eq_true (by omega) | exact beq_iff_eq.2 (by omega) | exact bne_iff_ne.2 (by omega)
    have t2:(decide (v<sz))=true := decide_eq_true h
    rw [t2] at hN
    clear h
    replace hN := Lib.hid hN
    go_wp2_with fail
    exact hN.out _ (by exact fR rfl rfl rfl)
  · have t1:decide ((v:Int)<(sz:Int))=false := by first | exact decide_eq_false (by omega) | exact beq_eq_false_iff_ne.2 (by omega) | exact bne_eq_false_iff_eq.2 (by omega)
    have t2:(decide (v<sz))=false := decide_eq_false h
    rw [t2] at hN
    clear h
    replace hN := Lib.hid hN
    go_wp2_with fail
    exact hN.out _ (by exact fR rfl rfl rfl)
def c_tn_r23 := sp 99 29439 cF4
theorem tn_r23_wp {v:Nat} (hv:(v:Int)≤1000) (hN:∀a',Frm 179 [(2,s_2),(3,s_3),(9,s_9),(14,s_14),(15,.int .i64 (v+1:Nat))] a'→Q .normal a' w):∀ac,Frm 179 [(2,s_2),(3,s_3),(9,s_9),(14,s_14),(15,.int .i64 (v:Nat))] ac→Code.wp Tryd.prog c_tn_r23 Q ac w := by
  refine fO (frame_tn ?_)
  intros
  rename_i hq
  iterate 5 (obtain ⟨e,hq⟩ := hq; obtain rfl := sI e; clear e)
  clear hq
  conv=>arg 2; whnf
  have hv4:(v:Int)≤1000 := by omega
  replace hN := Lib.hid hN
  go_wp2_with fail
  exact hN.out _ (by exact fR rfl rfl rfl)
def c_tn_r24 := sp 99 37631 cF4
theorem tn_r24_wp {v:Nat} (hs:s.size≤100) (hc:∀W:World,Below w.heap.size w W→Calls Tryd.prog 15 #[.int .i64 (v:Nat)] W fun e w'=>e=.returned (.string s)∧Below W.heap.size W w') (hn8:n8≤1000) (hbw:base≤w.heap.size) (hgb:gn<base) (hgn:w.heap[gn]? = some (.cells #[.int .i64 (sz:Nat),.slice A8 n8 c8,.slice Bm nm2 dm] 25 (0,0))) (hrow:w.ownsRow base 49 2 (.slice A8 n8 c8) n8 xs) (hN:∀v' a' w',Frm 179 [(2,s_2),(3,s_3),(9,s_9),(14,.pointer (some ⟨gn,0,none⟩)),(15,.int .i64 (v:Nat))] a'→w'.heap[gn]? = some (.cells #[.int .i64 (sz:Nat),v',.slice Bm nm2 dm] 25 (0,0))→w'.ownsRow base 49 2 v' (n8+1) (xs++[.string (hereS s),.int .i64 (v:Nat)])→Keeps (fun k=>k=gn∨base≤k) w w'→K a' w'):∀ac,Frm 179 [(2,s_2),(3,s_3),(9,s_9),(14,.pointer (some ⟨gn,0,none⟩)),(15,.int .i64 (v:Nat))] ac→Code.wp Tryd.prog c_tn_r24 (Exit.then K (fun _ _ _=>False)) ac w := by
  refine fO (frame_tn ?_)
  intros
  rename_i hq
  iterate 5 (obtain ⟨e,hq⟩ := hq; obtain rfl := sI e; clear e)
  clear hq
  conv=>arg 2; whnf
  obtain ⟨ti,hti,ht0,ht1,ht2⟩ := info_parts infoConL
  have m1:w.cell? ⟨gn,1,none⟩=some (.slice A8 n8 c8) := cellv hgn 1 rfl
  have mf := free_heap hgn 1
  have ml := lt_heap hgn
  have l1:¬ 9223372036854775807<1+s.size := by omega
  have l2:¬ 9223372036854775807<1+s.size+5 := by omega
  replace hgn := Lib.hid hgn
  have HN := Lib.hid hN
  have HC := Lib.hid hc
  have HROW := Lib.hid hrow
  clear hN hc hrow
  go_region_law (first
    | (refine step_append_lies _ (by rfl) (.tmp 110) (.tmp 117) _ (by rfl) base 49 ti _ 2 24 Tryd.underlying22 hti ht0 ht1 ht2 rfl (by omega) (.slice A8 n8 c8) n8 xs (by rfl) (by first | exact HROW2.out.alloc _ | exact (HROW2.out.alloc _).drew) ⟨w2.heap.size,0,none⟩ 1 1 [.string (hereS s),.int .i64 (v:Nat)] (by rfl) (by rfl) (World.news_of_block (cs := #[.string (hereS s),.int .i64 (v:Nat)]) (t := 49) (fr := (0,0)) (by first | exact heap_alloc_new w2 _ | exact heap_drew (heap_alloc_new w2 _))) (by simp [Value.oneCell']) (by omega) (by unfold maxLen; omega) (by omega) (by first | omega | (simp; done) | (simp; omega)) (w2.heap.size+1) (by simp) ?_; intro gq cap w3 hown3 hgrow hat hlt; have hsb := app_field9 HB2.out hgn.out HROW.out hbw hgb hown3 ⟨hgrow.os,hgrow.tape,hgrow.output,hgrow.size,hgrow.block⟩ hat; have d1 := cellv hsb.1 1 rfl; have df := free_heap hsb.1 1; have dl := lt_heap hsb.1; have HSB := Lib.hid hsb; clear hown3 hgrow hat hlt hsb)
    | (refine step_call (by rfl) 15 _ ?hargs (HC.out _ ?hbel) ?_; (case hargs=>(go_simp; done)); (case hbel=>(go_grown)); rintro e w2 ⟨rfl,hb2⟩; refine ⟨_,rfl,?_⟩; have hB2:Below w.heap.size w w2 := (by first | exact hb2 | exact (Below.refl w.heap.size w).drew.trans hb2); have z2 := hB2.size; have ml2:gn<w2.heap.size := (by omega); have m12 := (hB2.cell (p := ⟨gn,1,none⟩) ml).trans m1; have mf2 := (World.frozen?_of_block (a := ⟨gn,1,none⟩) (hB2.block _ ml)).trans mf; have HB2 := Lib.hid hB2; have HROW2 := Lib.hid (row_keepB9 HROW.out hB2); clear hb2 hB2))
  all_goals go_wp2_with fail
  all_goals exact HN.out _ _ _ (by exact fR rfl rfl rfl) HSB.out.2.1 HSB.out.2.2.1 HSB.out.2.2.2
def c_tn_r25 := sp 99 2559 cF4
theorem tn_r25_wp (hgm:w.heap[gm]? = some (.cells #[.int .i64 (sz:Nat),.slice Am nm1 cm,.slice Bm nm2 dm] 25 (0,0))) (hN:∀a',Frm 179 [(2,.pointer (some ⟨gm,0,none⟩)),(3,s_3),(9,s_9),(14,s_14),(121,.slice Am nm1 cm),(122,.int .i64 (nm1:Nat)),(123,.int .i64 (0:Nat))] a'→Q .normal a' w):∀ac,Frm 179 [(2,.pointer (some ⟨gm,0,none⟩)),(3,s_3),(9,s_9),(14,s_14)] ac→Code.wp Tryd.prog c_tn_r25 Q ac w := by
  refine fO (frame_tn ?_)
  intros
  rename_i hq
  iterate 4 (obtain ⟨e,hq⟩ := hq; obtain rfl := sI e; clear e)
  clear hq
  conv=>arg 2; whnf
  have m0 := cellv hgm 0 rfl
  have m1 := cellv hgm 1 rfl
  have m2 := cellv hgm 2 rfl
  have ml := lt_heap hgm
  clear hgm
  replace hN := Lib.hid hN
  go_wp2_with fail
  exact hN.out _ (by exact fR rfl rfl rfl)
def c_tn_r26 := sp 99 17919 cF4
theorem tn_r26_wp (hN:∀a',Frm 179 [(2,s_2),(3,s_3),(9,s_9),(14,s_14),(121,s_121),(122,.int .i64 (nm1:Nat)),(123,.int .i64 (i:Nat)),(124,.bool (decide (i<nm1)))] a'→Q .normal a' w):∀ac,Frm 179 [(2,s_2),(3,s_3),(9,s_9),(14,s_14),(121,s_121),(122,.int .i64 (nm1:Nat)),(123,.int .i64 (i:Nat))] ac→Code.wp Tryd.prog c_tn_r26 Q ac w := by
  refine fO (frame_tn ?_)
  intros
  rename_i hq
  iterate 7 (obtain ⟨e,hq⟩ := hq; obtain rfl := sI e; clear e)
  clear hq
  conv=>arg 2; whnf
  by_cases h:i<nm1
  · have t1:decide ((i:Int)<(nm1:Int))=true := by first | exact decide_eq_true (by omega) | exact beq_iff_eq.2 (by omega) | exact bne_iff_ne.2 (by omega)
    have t2:(decide (i<nm1))=true := decide_eq_true h
    rw [t2] at hN
    clear h
    replace hN := Lib.hid hN
    go_wp2_with fail
    exact hN.out _ (by exact fR rfl rfl rfl)
  · have t1:decide ((i:Int)<(nm1:Int))=false := by first | exact decide_eq_false (by omega) | exact beq_eq_false_iff_ne.2 (by omega) | exact bne_eq_false_iff_eq.2 (by omega)
    have t2:(decide (i<nm1))=false := decide_eq_false h
    rw [t2] at hN
    clear h
    replace hN := Lib.hid hN
    go_wp2_with fail
    exact hN.out _ (by exact fR rfl rfl rfl)
def c_tn_r27 := sp 99 288255 cF4
theorem tn_r27_wp {o:Nat} (hi:i<nm1) (e0:w.cell? ⟨b,o+i * 2,none⟩=some (.string xn)) (e1:w.cell? ⟨b,o+i * 2+1,none⟩=some (.int .i64 xv)) (hbl:b<w.heap.size) (hN:∀a',Frm 179 [(2,s_2),(3,s_3),(9,s_9),(14,s_14),(121,.slice (some ⟨b,o,none⟩) nm1 cm),(122,s_122),(123,.int .i64 (i:Nat)),(17,.pointer (some ⟨w.heap.size,0,none⟩))] a'→Q .normal a' (w.alloc (.cells #[.string xn,.int .i64 xv] 49))):∀ac,Frm 179 [(2,s_2),(3,s_3),(9,s_9),(14,s_14),(121,.slice (some ⟨b,o,none⟩) nm1 cm),(122,s_122),(123,.int .i64 (i:Nat))] ac→Code.wp Tryd.prog c_tn_r27 Q ac w := by
  refine fO (frame_tn ?_)
  intros
  rename_i hq
  iterate 7 (obtain ⟨e,hq⟩ := hq; obtain rfl := sI e; clear e)
  clear hq
  conv=>arg 2; whnf
  have q0:(0:Int)≤(i:Int) := by omega
  have q1:(i:Int)<(nm1:Int) := by omega
  replace hN := Lib.hid hN
  go_wp2_with fail
  exact hN.out _ (by exact fR rfl rfl rfl)
def c_tn_r28 := sp 99 419327 cF4
theorem tn_r28_wp {s_123:Value} {PX:Value→World→Prop} (hgn:w.heap[gn]? = some (.cells #[.int .i64 (sz:Nat),.slice A8 n8 c8,.slice Bm nm2 dm] 25 (0,0))) (hgc:w.heap[gc]? = some (.cells #[.string xn,.int .i64 xv] 49 (0,0))) (hc:Calls Tryd.prog 16 #[(.slice A8 n8 c8),.agg #[.string xn,.int .i64 xv]] w fun e w'=>∃A1 k1 c1,e=.returned (.slice A1 k1 c1)∧PX (.slice A1 k1 c1) w'∧Below w.heap.size w w') (hN:∀A1 k1 c1 a' w',Frm 179 [(2,s_2),(3,s_3),(9,s_9),(14,.pointer (some ⟨gn,0,none⟩)),(121,s_121),(122,s_122),(123,s_123)] a'→PX (.slice A1 k1 c1) w'→Below w.heap.size w w'→Q .normal a' (w'.setCell ⟨gn,1,none⟩ (.slice A1 k1 c1))):∀ac,Frm 179 [(2,s_2),(3,s_3),(9,s_9),(14,.pointer (some ⟨gn,0,none⟩)),(121,s_121),(122,s_122),(123,s_123),(17,.pointer (some ⟨gc,0,none⟩))] ac→Code.wp Tryd.prog c_tn_r28 Q ac w := by
  refine fO (frame_tn ?_)
  intros
  rename_i hq
  iterate 8 (obtain ⟨e,hq⟩ := hq; obtain rfl := sI e; clear e)
  clear hq
  conv=>arg 2; whnf
  have m1:w.cell? ⟨gn,1,none⟩=some (.slice A8 n8 c8) := cellv hgn 1 rfl
  have mf := free_heap hgn 1
  have ml := lt_heap hgn
  have x0 := cellv hgc 0 rfl
  have x1 := cellv hgc 1 rfl
  have xl := lt_heap hgc
  clear hgn hgc
  have HN := Lib.hid hN
  have HC := Lib.hid hc
  clear hN hc
  go_wp2_with fail
  (with_reducible refine HC.out.mono ?_)
  rintro e w1 ⟨A1,k1,c1,rfl,hp,hb1⟩
  have m11 := (hb1.cell (p := ⟨gn,1,none⟩) ml).trans m1
  have mf1 := (World.frozen?_of_block (a := ⟨gn,1,none⟩) (hb1.block _ ml)).trans mf
  have hz1 := hb1.size
  have ml1:gn<w1.heap.size := by omega
  have HP := Lib.hid hp
  have HB1 := Lib.hid hb1
  clear hp hb1
  go_wp2_with fail
  exact HN.out _ _ _ _ _ (by exact fR rfl rfl rfl) HP.out HB1.out
def c_tn_r29 := sp 99 124415 cF4
theorem tn_r29_wp (hi:(i:Int)≤1000) (hN:∀a',Frm 179 [(2,s_2),(3,s_3),(9,s_9),(14,s_14),(121,s_121),(122,s_122),(123,.int .i64 (i+1:Nat))] a'→Q .normal a' w):∀ac,Frm 179 [(2,s_2),(3,s_3),(9,s_9),(14,s_14),(121,s_121),(122,s_122),(123,.int .i64 (i:Nat))] ac→Code.wp Tryd.prog c_tn_r29 Q ac w := by
  refine fO (frame_tn ?_)
  intros
  rename_i hq
  iterate 7 (obtain ⟨e,hq⟩ := hq; obtain rfl := sI e; clear e)
  clear hq
  conv=>arg 2; whnf
  have hi4:(i:Int)≤1000 := by omega
  replace hN := Lib.hid hN
  go_wp2_with fail
  exact hN.out _ (by exact fR rfl rfl rfl)
def c_tn_r30 := sp 99 3071 cF4
theorem tn_r30_wp (hN:∀a',Frm 179 [(2,s_2),(3,s_3),(9,s_9),(14,s_14),(18,.bool true),(19,.bool false)] a'→Q .normal a' w):∀ac,Frm 179 [(2,s_2),(3,s_3),(9,s_9),(14,s_14)] ac→Code.wp Tryd.prog c_tn_r30 Q ac w := by
  refine fO (frame_tn ?_)
  intros
  rename_i hq
  iterate 4 (obtain ⟨e,hq⟩ := hq; obtain rfl := sI e; clear e)
  clear hq
  conv=>arg 2; whnf
  replace hN := Lib.hid hN
  go_wp2_with fail
  exact hN.out _ (by exact fR rfl rfl rfl)
def c_tn_r31 := sp 99 10239 cF4
theorem tn_r31_wp (hN:∀a',Frm 179 [(2,s_2),(3,s_3),(9,s_9),(14,s_14),(18,s_18),(19,s_19),(20,.int .i64 (0:Nat))] a'→Q .normal a' w):∀ac,Frm 179 [(2,s_2),(3,s_3),(9,s_9),(14,s_14),(18,s_18),(19,s_19)] ac→Code.wp Tryd.prog c_tn_r31 Q ac w := by
  refine fO (frame_tn ?_)
  intros
  rename_i hq
  iterate 6 (obtain ⟨e,hq⟩ := hq; obtain rfl := sI e; clear e)
  clear hq
  conv=>arg 2; whnf
  replace hN := Lib.hid hN
  go_wp2_with fail
  exact hN.out _ (by exact fR rfl rfl rfl)
def c_tn_r32 := sp 99 137215 cF4
theorem tn_r32_wp {v:Nat} (hgm:w.heap[gm]? = some (.cells #[.int .i64 (sz:Nat),.slice Am9 nm19 cm9,.slice Bm nm2 dm] 25 (0,0))) (hN:∀a',Frm 179 [(2,.pointer (some ⟨gm,0,none⟩)),(3,s_3),(9,s_9),(14,s_14),(18,s_18),(19,s_19),(20,.int .i64 (v:Nat)),(136,.bool (decide (v<sz)))] a'→Q .normal a' w):∀ac,Frm 179 [(2,.pointer (some ⟨gm,0,none⟩)),(3,s_3),(9,s_9),(14,s_14),(18,s_18),(19,s_19),(20,.int .i64 (v:Nat))] ac→Code.wp Tryd.prog c_tn_r32 Q ac w := by
  refine fO (frame_tn ?_)
  intros
  rename_i hq
  iterate 7 (obtain ⟨e,hq⟩ := hq; obtain rfl := sI e; clear e)
  clear hq
  conv=>arg 2; whnf
  have m0 := cellv hgm 0 rfl
  have m1 := cellv hgm 1 rfl
  have m2 := cellv hgm 2 rfl
  have ml := lt_heap hgm
  clear hgm
  by_cases h:v<sz
  · have t1:decide ((v:Int)<(sz:Int))=true := by first | exact decide_eq_true (by omega) | exact beq_iff_eq.2 (by omega) | exact bne_iff_ne.2 (by omega)
    have t2:(decide (v<sz))=true := decide_eq_true h
    rw [t2] at hN
    clear h
    replace hN := Lib.hid hN
    go_wp2_with fail
    exact hN.out _ (by exact fR rfl rfl rfl)
  · have t1:decide ((v:Int)<(sz:Int))=false := by first | exact decide_eq_false (by omega) | exact beq_eq_false_iff_ne.2 (by omega) | exact bne_eq_false_iff_eq.2 (by omega)
    have t2:(decide (v<sz))=false := decide_eq_false h
    rw [t2] at hN
    clear h
    replace hN := Lib.hid hN
    go_wp2_with fail
    exact hN.out _ (by exact fR rfl rfl rfl)
def c_tn_r33 := sp 99 235519 cF4
theorem tn_r33_wp {v:Nat} (hv:(v:Int)≤1000) (hN:∀a',Frm 179 [(2,s_2),(3,s_3),(9,s_9),(14,s_14),(18,s_18),(19,s_19),(20,.int .i64 (v+1:Nat))] a'→Q .normal a' w):∀ac,Frm 179 [(2,s_2),(3,s_3),(9,s_9),(14,s_14),(18,s_18),(19,s_19),(20,.int .i64 (v:Nat))] ac→Code.wp Tryd.prog c_tn_r33 Q ac w := by
  refine fO (frame_tn ?_)
  intros
  rename_i hq
  iterate 7 (obtain ⟨e,hq⟩ := hq; obtain rfl := sI e; clear e)
  clear hq
  conv=>arg 2; whnf
  have hv4:(v:Int)≤1000 := by omega
  replace hN := Lib.hid hN
  go_wp2_with fail
  exact hN.out _ (by exact fR rfl rfl rfl)
def c_tn_r35 := sp 99 1349631 cF4
theorem tn_r35_wp {s_22:Value} {k5:Int} {s5:ByteArray} {A5 B5:Option Addr} {n5 c5 m5 d5:Nat} {gg:Nat} (hgn:w.heap[gn]? = some (.cells #[.int .i64 (sz:Nat),.slice Am nm1 cm,.slice Bm nm2 dm] 25 (0,0))) (ha:w.heap[gg]? = some (.cells #[.int .i64 k5,.string s5,.slice A5 n5 c5,.slice B5 m5 d5] 29 (0,0))) (hc:Calls Tryd.prog 13 #[.agg #[.int .i64 (sz:Nat),.slice Am nm1 cm,.slice Bm nm2 dm],.agg #[.int .i64 k5,.string s5,.slice A5 n5 c5,.slice B5 m5 d5]] w fun e w'=>e=.returned (.tuple #[.bool bb,.agg #[.int .i64 c,.int .i64 j]])∧Below w.heap.size w w') (hN:∀ge a' w',Frm 179 [(2,s_2),(3,s_3),(9,s_9),(14,.pointer (some ⟨gn,0,none⟩)),(18,.bool al),(19,s_19),(20,s_20),(21,.pointer (some ⟨gg,0,none⟩)),(22,s_22),(23,.bool bb),(24,.pointer (some ⟨ge,0,none⟩))] a'→w'.heap[ge]? = some (.cells #[.int .i64 c,.int .i64 j] 32 (0,0))→Below w.heap.size w w'→Q .normal a' w'):∀ac,Frm 179 [(2,s_2),(3,s_3),(9,s_9),(14,.pointer (some ⟨gn,0,none⟩)),(18,.bool al),(19,s_19),(20,s_20),(21,.pointer (some ⟨gg,0,none⟩)),(22,s_22)] ac→Code.wp Tryd.prog c_tn_r35 Q ac w := by
  refine fO (frame_tn ?_)
  intros
  rename_i hq
  iterate 9 (obtain ⟨e,hq⟩ := hq; obtain rfl := sI e; clear e)
  clear hq
  conv=>arg 2; whnf
  have n0 := cellv hgn 0 rfl
  have n1 := cellv hgn 1 rfl
  have n2 := cellv hgn 2 rfl
  have nl := lt_heap hgn
  have a0 := cellv ha 0 rfl
  have a1 := cellv ha 1 rfl
  have a2 := cellv ha 2 rfl
  have a3 := cellv ha 3 rfl
  have al := lt_heap ha
  clear hgn ha
  have HN := Lib.hid hN
  have HC := Lib.hid hc
  clear hN hc
  go_wp2_with fail
  (with_reducible refine HC.out.mono ?_)
  rintro e w1 ⟨rfl,hb1⟩
  replace hb1 := Lib.hid hb1
  go_wp2_with fail
  have hz := hb1.out.size
  exact HN.out w1.heap.size _ _ (by exact fR rfl rfl rfl) (heap_at rfl) (hb1.out.alloc hz _)
def c_tn_r36 := sp 99 5019647 cF4
theorem tn_r36_wp {s_21 s_23:Value} {ge:Nat} {gy:Nat} (g0:w.cell? ⟨0,0,none⟩=some (.int .i64 0)) (g1:w.cell? ⟨0,1,none⟩=some (.int .i64 0)) (he:w.heap[gy]? = some (.cells #[.int .i64 0,.int .i64 0] 32 (0,0))) (hf:w.heap[ge]? = some (.cells #[.int .i64 0,.int .i64 0] 32 (0,0))) (hN:∀a',Frm 179 [(2,s_2),(3,s_3),(9,s_9),(14,s_14),(18,s_18),(19,s_19),(20,s_20),(23,s_23),(161,.bool false)] a'→Q .normal a' w):∀ac,Frm 179 [(2,s_2),(3,s_3),(9,s_9),(14,s_14),(18,s_18),(19,s_19),(20,s_20),(21,s_21),(22,.pointer (some ⟨gy,0,none⟩)),(23,s_23),(24,.pointer (some ⟨ge,0,none⟩))] ac→Code.wp Tryd.prog c_tn_r36 Q ac w := by
  refine fO (frame_tn ?_)
  intros
  rename_i hq
  iterate 11 (obtain ⟨e,hq⟩ := hq; obtain rfl := sI e; clear e)
  clear hq
  conv=>arg 2; whnf
  have e0 := cellv he 0 rfl
  have e1 := cellv he 1 rfl
  have el := lt_heap he
  have f0 := cellv hf 0 rfl
  have f1 := cellv hf 1 rfl
  have fl := lt_heap hf
  have lg := World.block_lt_of_cell? w _ g0
  clear he hf
  replace hN := Lib.hid hN
  go_wp2_with fail
  exact hN.out _ (by exact fR rfl rfl rfl)
def c_tn_r38 := sp 99 3971071 cF4
theorem tn_r38_wp {so:Bool} (hN:∀a',Frm 179 [(2,s_2),(3,s_3),(9,s_9),(14,s_14),(18,.bool (al && bb)),(19,.bool (so || bb)),(20,s_20)] a'→Q .normal a' w):∀ac,Frm 179 [(2,s_2),(3,s_3),(9,s_9),(14,s_14),(18,.bool al),(19,.bool so),(20,s_20),(23,.bool bb)] ac→Code.wp Tryd.prog c_tn_r38 Q ac w := by
  refine fO (frame_tn ?_)
  intros
  rename_i hq
  iterate 8 (obtain ⟨e,hq⟩ := hq; obtain rfl := sI e; clear e)
  clear hq
  conv=>arg 2; whnf
  cases al <;> cases so <;> cases bb
  · replace hN := Lib.hid hN
    go_wp2_with fail
    exact hN.out _ (by exact fR rfl rfl rfl)
  · replace hN := Lib.hid hN
    go_wp2_with fail
    exact hN.out _ (by exact fR rfl rfl rfl)
  · replace hN := Lib.hid hN
    go_wp2_with fail
    exact hN.out _ (by exact fR rfl rfl rfl)
  · replace hN := Lib.hid hN
    go_wp2_with fail
    exact hN.out _ (by exact fR rfl rfl rfl)
  · replace hN := Lib.hid hN
    go_wp2_with fail
    exact hN.out _ (by exact fR rfl rfl rfl)
  · replace hN := Lib.hid hN
    go_wp2_with fail
    exact hN.out _ (by exact fR rfl rfl rfl)
  · replace hN := Lib.hid hN
    go_wp2_with fail
    exact hN.out _ (by exact fR rfl rfl rfl)
  · replace hN := Lib.hid hN
    go_wp2_with fail
    exact hN.out _ (by exact fR rfl rfl rfl)
def c_tn_r39 := sp 99 20479 cF4
theorem tn_r39_wp (ha:w.heap[gf]? = some (.cells #[.int .i64 kd,.string nm,.slice A n1 c1,.slice B n2 c2] 29 (0,0))) (hN:∀a',Frm 179 [(9,s_9),(18,.bool al),(19,s_19),(172,.bool (decide (kd=8)))] a'→Q .normal a' w):∀ac,Frm 179 [(3,.pointer (some ⟨gf,0,none⟩)),(9,s_9),(18,.bool al),(19,s_19)] ac→Code.wp Tryd.prog c_tn_r39 Q ac w := by
  refine fO (frame_tn ?_)
  intros
  rename_i hq
  iterate 4 (obtain ⟨e,hq⟩ := hq; obtain rfl := sI e; clear e)
  clear hq
  conv=>arg 2; whnf
  have a0 := cellv ha 0 rfl
  have a1 := cellv ha 1 rfl
  have a2 := cellv ha 2 rfl
  have a3 := cellv ha 3 rfl
  have al := lt_heap ha
  clear ha
  by_cases h:kd=8
  · have t1:(kd == 8)=true := beq_iff_eq.2 h
    rw [decide_eq_true h] at hN
    clear h
    replace hN := Lib.hid hN
    go_wp2_with fail
    exact hN.out _ (by exact fR rfl rfl rfl)
  · have t1:(kd == 8)=false := beq_eq_false_iff_ne.2 h
    rw [decide_eq_false h] at hN
    clear h
    replace hN := Lib.hid hN
    go_wp2_with fail
    exact hN.out _ (by exact fR rfl rfl rfl)
def c_tn_r40 := sp 99 77823 cF4
theorem tn_r40_wp (hN:∀a',Frm 179 [(4,.bool true)] a'→Q .normal a' w):∀ac,Frm 179 [(9,.bool b1),(18,.bool b1)] ac→Code.wp Tryd.prog c_tn_r40 Q ac w := by
  refine fO (frame_tn ?_)
  intros
  rename_i hq
  iterate 2 (obtain ⟨e,hq⟩ := hq; obtain rfl := sI e; clear e)
  clear hq
  conv=>arg 2; whnf
  cases b1
  · replace hN := Lib.hid hN
    go_wp2_with fail
    exact hN.out _ (id ⟨rfl,rfl,rfl,trivial⟩)
  · replace hN := Lib.hid hN
    go_wp2_with fail
    exact hN.out _ (id ⟨rfl,rfl,rfl,trivial⟩)
def c_tn_r41 := sp 99 24575 cF4
theorem tn_r41_wp (hN:∀a',Frm 179 [(4,.bool true)] a'→Q .normal a' w):∀ac,Frm 179 [(9,.bool b1),(19,.bool b1)] ac→Code.wp Tryd.prog c_tn_r41 Q ac w := by
  refine fO (frame_tn ?_)
  intros
  rename_i hq
  iterate 2 (obtain ⟨e,hq⟩ := hq; obtain rfl := sI e; clear e)
  clear hq
  conv=>arg 2; whnf
  cases b1
  · replace hN := Lib.hid hN
    go_wp2_with fail
    exact hN.out _ (id ⟨rfl,rfl,rfl,trivial⟩)
  · replace hN := Lib.hid hN
    go_wp2_with fail
    exact hN.out _ (id ⟨rfl,rfl,rfl,trivial⟩)
theorem tn_ret_wp {R:Ending→World→Prop} (hR:R (.returned (.bool bb)) w'):∀ac,Frm 179 [(4,.bool bb)] ac→bodyPost Tryd.prog Tryd.f4 R .ret ac w' := by
  refine fO (frame_tn ?_)
  intros
  rename_i hq
  iterate 1 (obtain ⟨e,hq⟩ := hq; obtain rfl := sI e; clear e)
  clear hq
  refine bodyPost_ret (v := .bool bb) (by simp [results,Tryd.results4,go_sem]) rfl ?_
  exact hR
end
noncomputable section
set_option maxRecDepth 1000000
set_option maxHeartbeats 16000000

def c_tn_r34 := sp 99 563199 cF4
theorem tn_r34_wp {s_2 s_9 s_14 s_18 s_19:Value} {K:Act→World→Prop} {s:ByteArray} {T:Fm} {c j:Int} {kd:Int} {nm:ByteArray} {A B:Option Addr} {n1 c1 n2 c2:Nat} {v:Nat} {gf:Nat} {w:World} (hs:s.size≤100) (hc:∀W:World,Below w.heap.size w W→Calls Tryd.prog 15 #[.int .i64 (v:Nat)] W fun e w'=>e=.returned (.string s)∧Below W.heap.size W w') (hi9:∀W:World,Below w.heap.size w W→Calls Tryd.prog 17 #[.agg #[.int .i64 kd,.string nm,.slice A n1 c1,.slice B n2 c2],.string (hereS s)] W fun e w'=>∃es:List Value,e=.returned (.tuple #[.agg es.toArray,.agg #[.int .i64 c,.int .i64 j]])∧Below W.heap.size W w'∧fmRep.R w' (fun b=>W.heap.size≤b∧b<w'.heap.size) T es) (ha:w.heap[gf]? = some (.cells #[.int .i64 kd,.string nm,.slice A n1 c1,.slice B n2 c2] 29 (0,0))) (hN:∀(es:List Value) gg gy a' w',Frm 179 [(2,s_2),(3,.pointer (some ⟨gf,0,none⟩)),(9,s_9),(14,s_14),(18,s_18),(19,s_19),(20,.int .i64 (v:Nat)),(21,.pointer (some ⟨gg,0,none⟩)),(22,.pointer (some ⟨gy,0,none⟩))] a'→w'.heap[gg]? = some (.cells es.toArray 29 (0,0))→w'.heap[gy]? = some (.cells #[.int .i64 c,.int .i64 j] 32 (0,0))→fmRep.R w' (fun b=>b<w'.heap.size) T es→Below w.heap.size w w'→K a' w'):∀ac,Frm 179 [(2,s_2),(3,.pointer (some ⟨gf,0,none⟩)),(9,s_9),(14,s_14),(18,s_18),(19,s_19),(20,.int .i64 (v:Nat))] ac→Code.wp Tryd.prog c_tn_r34 (Exit.then K (fun _ _ _=>False)) ac w := by
  refine fO (frame_tn ?_)
  intros
  rename_i hq
  iterate 7 (obtain ⟨e,hq⟩ := hq; obtain rfl := sI e; clear e)
  clear hq
  conv=>arg 2; whnf
  have l1:¬ 9223372036854775807<1+s.size := by omega
  have l2:¬ 9223372036854775807<1+s.size+5 := by omega
  have HA := Lib.hid ha
  have HD := Lib.hid hc
  have HI := Lib.hid hi9
  have HX := Lib.hid hN
  clear ha hc hi9 hN
  refine wp_region_frame [140,141,142,143,144,145,139,146,147,21,22] (RJx w [.int .i64 kd,.string nm,.slice A n1 c1,.slice B n2 c2] v s T c j) (by kernel_rfl) (by kernel_rfl) ?h0 ?hend ?hstep
  case h0 =>
    intro f xs hf hx he
    obtain ⟨x140,x141,x142,x143,x144,x145,x139,x146,x147,x21,x22,rfl⟩ := len11 hx
    exact (RJ.start hf (Below.refl _ w).drew).mk_
  case hend =>
    rintro f xs W hf ⟨x140,x141,x142,x143,x144,x145,x139,x146,x147,x21,x22,rfl,hJ⟩
    obtain ⟨es,gg,gy,rfl,rfl,k1,k2,k3,hb⟩ := hJ.fin hf
    simp only [withs,Act.put,List.setIfInBounds_toArray,List.set_cons_succ,List.set_cons_zero]
    exact HX.out es gg gy _ _ (by exact fR rfl rfl rfl) k1 k2 k3 hb
  case hstep =>
    rintro io hio f xs W hn hp ⟨x140,x141,x142,x143,x144,x145,x139,x146,x147,x21,x22,rfl,hJ⟩
    have hi:io<13 := hio
    rcases (by omega:io=0∨io=1∨io=2∨io=3∨io=4∨io=5∨io=6∨io=7∨io=8∨io=9∨io=10∨io=11∨io=12) with rfl | rfl | rfl | rfl | rfl | rfl | rfl | rfl | rfl | rfl | rfl | rfl | rfl
    · have q0 := (cell_keep (hJ.b.block _ (lt_heap HA.out)) 0).trans (cellv HA.out 0 rfl)
      have q1 := (cell_keep (hJ.b.block _ (lt_heap HA.out)) 1).trans (cellv HA.out 1 rfl)
      have q2 := (cell_keep (hJ.b.block _ (lt_heap HA.out)) 2).trans (cellv HA.out 2 rfl)
      have q3 := (cell_keep (hJ.b.block _ (lt_heap HA.out)) 3).trans (cellv HA.out 3 rfl)
      have ql:gf<W.heap.size := by have := hJ.b.size; have := lt_heap HA.out; omega
      refine wpOp_run rfl (by rfl) (fun K9 hK=>?_)
      simp only [withs,Act.put,List.setIfInBounds_toArray,List.set_cons_succ,List.set_cons_zero]
      go_simp
      exact hK _ _ ⟨[.agg #[.int .i64 kd,.string nm,.slice A n1 c1,.slice B n2 c2],x141,x142,x143,x144,x145,x139,x146,x147,x21,x22],(by simp only [withs,Act.put,List.setIfInBounds_toArray,List.set_cons_succ,List.set_cons_zero]),(hJ.st0).mk_⟩
    · refine wpOp_run rfl (by rfl) (fun K9 hK=>?_)
      simp only [withs,Act.put,List.setIfInBounds_toArray,List.set_cons_succ,List.set_cons_zero]
      go_simp
      exact hK _ _ ⟨[x140,.int .i64 (v:Nat),x142,x143,x144,x145,x139,x146,x147,x21,x22],(by simp only [withs,Act.put,List.setIfInBounds_toArray,List.set_cons_succ,List.set_cons_zero]),(hJ.st1).mk_⟩
    · obtain rfl := hJ.h1 (hp 1 (of_decide_eq_true (by kernel_rfl)))
      refine wpOp_run rfl (by rfl) (fun K9 hK=>?_)
      simp only [withs,Act.put,List.setIfInBounds_toArray,List.set_cons_succ,List.set_cons_zero]
      refine step_wp (by rfl) ?_
      refine step_call (by rfl) 15 _ ?hargs (HD.out W hJ.b) ?_
      case hargs=>go_simp
      rintro e W' ⟨rfl,hb⟩
      refine ⟨_,rfl,?_⟩
      exact hK _ _ ⟨[x140,.int .i64 (v:Nat),.string s,x143,x144,x145,x139,x146,x147,x21,x22],(by show Act.put _ (some 142) _=_; simp only [withs,Act.put,List.setIfInBounds_toArray,List.set_cons_succ,List.set_cons_zero]),((hJ.grow hb).st2).mk_⟩
    · obtain rfl := hJ.h2 (hp 2 (of_decide_eq_true (by kernel_rfl)))
      refine wpOp_run rfl (by rfl) (fun K9 hK=>?_)
      simp only [withs,Act.put,List.setIfInBounds_toArray,List.set_cons_succ,List.set_cons_zero]
      go_simp
      exact hK _ _ ⟨[x140,x141,.string s,.string (⟨#[97]⟩++s),x144,x145,x139,x146,x147,x21,x22],(by simp only [withs,Act.put,List.setIfInBounds_toArray,List.set_cons_succ,List.set_cons_zero]),(hJ.st3).mk_⟩
    · obtain rfl := hJ.h3 (hp 3 (of_decide_eq_true (by kernel_rfl)))
      refine wpOp_run rfl (by rfl) (fun K9 hK=>?_)
      simp only [withs,Act.put,List.setIfInBounds_toArray,List.set_cons_succ,List.set_cons_zero]
      go_simp
      exact hK _ _ ⟨[x140,x141,x142,.string (⟨#[97]⟩++s),.string ((⟨#[97]⟩++s)++⟨#[45,104,101,114,101]⟩),x145,x139,x146,x147,x21,x22],(by simp only [withs,Act.put,List.setIfInBounds_toArray,List.set_cons_succ,List.set_cons_zero]),(hJ.st4).mk_⟩
    · obtain rfl := hJ.h0 (hp 0 (of_decide_eq_true (by kernel_rfl)))
      obtain rfl := hJ.h4 (hp 4 (of_decide_eq_true (by kernel_rfl)))
      refine wpOp_run rfl (by rfl) (fun K9 hK=>?_)
      simp only [withs,Act.put,List.setIfInBounds_toArray,List.set_cons_succ,List.set_cons_zero]
      refine step_wp (by rfl) ?_
      refine step_call (by rfl) 17 _ ?hargs (HI.out W hJ.b) ?_
      case hargs=>go_simp
      rintro e W' ⟨es,rfl,hb,hes⟩
      refine ⟨_,rfl,?_⟩
      exact hK _ _ ⟨[.agg #[.int .i64 kd,.string nm,.slice A n1 c1,.slice B n2 c2],x141,x142,x143,.string (hereS s),.tuple #[.agg es.toArray,.agg #[.int .i64 c,.int .i64 j]],x139,x146,x147,x21,x22],(by show Act.put _ (some 145) _=_; simp only [withs,Act.put,List.setIfInBounds_toArray,List.set_cons_succ,List.set_cons_zero]),(hJ.st5 hn hb hes).mk_⟩
    · refine wpOp_run rfl (by rfl) (fun K9 hK=>?_)
      simp only [withs,Act.put,List.setIfInBounds_toArray,List.set_cons_succ,List.set_cons_zero]
      go_simp
      exact hK _ _ ⟨[x140,x141,x142,x143,x144,x145,x145,x146,x147,x21,x22],(by simp only [withs,Act.put,List.setIfInBounds_toArray,List.set_cons_succ,List.set_cons_zero]),(hJ.st6 (hp 5 (of_decide_eq_true (by kernel_rfl)))).mk_⟩
    · obtain ⟨es,rfl,hJ⟩ := hJ.st7 (hp 6 (of_decide_eq_true (by kernel_rfl)))
      refine wpOp_run rfl (by rfl) (fun K9 hK=>?_)
      simp only [withs,Act.put,List.setIfInBounds_toArray,List.set_cons_succ,List.set_cons_zero]
      go_simp
      exact hK _ _ ⟨[x140,x141,x142,x143,x144,x145,.tuple #[.agg es.toArray,.agg #[.int .i64 c,.int .i64 j]],.agg es.toArray,x147,x21,x22],(by simp only [withs,Act.put,List.setIfInBounds_toArray,List.set_cons_succ,List.set_cons_zero]),(hJ).mk_⟩
    · obtain ⟨es,rfl,hJ⟩ := hJ.st8 (hp 6 (of_decide_eq_true (by kernel_rfl)))
      refine wpOp_run rfl (by rfl) (fun K9 hK=>?_)
      simp only [withs,Act.put,List.setIfInBounds_toArray,List.set_cons_succ,List.set_cons_zero]
      go_simp
      exact hK _ _ ⟨[x140,x141,x142,x143,x144,x145,.tuple #[.agg es.toArray,.agg #[.int .i64 c,.int .i64 j]],x146,.agg #[.int .i64 c,.int .i64 j],x21,x22],(by simp only [withs,Act.put,List.setIfInBounds_toArray,List.set_cons_succ,List.set_cons_zero]),(hJ).mk_⟩
    · refine wpOp_run rfl (by rfl) (fun K9 hK=>?_)
      simp only [withs,Act.put,List.setIfInBounds_toArray,List.set_cons_succ,List.set_cons_zero]
      go_simp
      exact hK _ _ ⟨[x140,x141,x142,x143,x144,x145,x139,x146,x147,.pointer (some ⟨W.heap.size,0,none⟩),x22],(by simp only [withs,Act.put,List.setIfInBounds_toArray,List.set_cons_succ,List.set_cons_zero]),(hJ.st9 hn).mk_⟩
    · refine wpOp_run rfl (by rfl) (fun K9 hK=>?_)
      simp only [withs,Act.put,List.setIfInBounds_toArray,List.set_cons_succ,List.set_cons_zero]
      go_simp
      exact hK _ _ ⟨[x140,x141,x142,x143,x144,x145,x139,x146,x147,x21,.pointer (some ⟨W.heap.size,0,none⟩)],(by simp only [withs,Act.put,List.setIfInBounds_toArray,List.set_cons_succ,List.set_cons_zero]),(hJ.st10 hn).mk_⟩
    · obtain ⟨g,k0,s0,A0,p0,q0,B0,r0,u0,rfl,rfl,hg,hJ⟩ := hJ.st11 (hp 5 (of_decide_eq_true (by kernel_rfl))) (hp 7 (of_decide_eq_true (by kernel_rfl))) (hp 9 (of_decide_eq_true (by kernel_rfl))) hn
      have c0 := cellv hg 0 rfl
      have c1 := cellv hg 1 rfl
      have c2 := cellv hg 2 rfl
      have c3 := cellv hg 3 rfl
      have d0 := free_heap hg 0
      have d1 := free_heap hg 1
      have d2 := free_heap hg 2
      have d3 := free_heap hg 3
      have gl := lt_heap hg
      refine wpOp_run rfl (by rfl) (fun K9 hK=>?_)
      simp only [withs,Act.put,List.setIfInBounds_toArray,List.set_cons_succ,List.set_cons_zero]
      go_simp
      exact hK _ _ ⟨[x140,x141,x142,x143,x144,x145,x139,.agg #[.int .i64 k0,.string s0,.slice A0 p0 q0,.slice B0 r0 u0],x147,.pointer (some ⟨g,0,none⟩),x22],(by simp only [withs,Act.put,List.setIfInBounds_toArray,List.set_cons_succ,List.set_cons_zero]),(hJ).mk_⟩
    · obtain ⟨g,rfl,rfl,hg,hJ⟩ := hJ.st12 (hp 8 (of_decide_eq_true (by kernel_rfl))) (hp 9 (of_decide_eq_true (by kernel_rfl))) (hp 10 (of_decide_eq_true (by kernel_rfl))) hn
      have c0 := cellv hg 0 rfl
      have c1 := cellv hg 1 rfl
      have d0 := free_heap hg 0
      have d1 := free_heap hg 1
      have gl := lt_heap hg
      refine wpOp_run rfl (by rfl) (fun K9 hK=>?_)
      simp only [withs,Act.put,List.setIfInBounds_toArray,List.set_cons_succ,List.set_cons_zero]
      go_simp
      exact hK _ _ ⟨[x140,x141,x142,x143,x144,x145,x139,x146,.agg #[.int .i64 c,.int .i64 j],x21,.pointer (some ⟨g,0,none⟩)],(by simp only [withs,Act.put,List.setIfInBounds_toArray,List.set_cons_succ,List.set_cons_zero]),(hJ).mk_⟩
end
noncomputable section
set_option maxRecDepth 100000
set_option maxHeartbeats 4000000

def mdSmall:Md := ⟨1,[⟨⟨#[107,105,109]⟩,0⟩],[⟨⟨#[100,111,103]⟩,1,[[0]]⟩]⟩
theorem mdSmall_ok:mdFault mdSmall=(0,0) := by decide +kernel
theorem sl_lit {α:Type} {ρ:Rep α} {W:World} {S:Nat→Prop} {x:α} {ds:List Value} {blk:Nat} {T:TypeId} {fr:Nat × Nat} (hx:ρ.R W S x ds) (hb:W.heap[blk]? = some (.cells ds.toArray T fr)) (hS:S blk) :
    ρ.Sl W S (.slice (some ⟨blk,0,none⟩) 1 1) [x] :=
  ⟨_,1,1,rfl,rfl,by simp [maxLen],fun _=>⟨blk,0,ds,rfl,hS,Rep.All.single hx,fun j u hj=>by rw [Nat.zero_add]; exact cell_heap hb (by simpa using hj)⟩⟩
def FrS (w w':World):Nat→Prop := fun b=>w.heap.size≤b∧b<w'.heap.size
def SmallAt (w:World) (e:Ending) (w':World):Prop := ∃A c B d,e=.returned (.agg #[.int .i64 1,.slice A 1 c,.slice B 1 d])∧mdSmall.In w' (FrS w w') [.int .i64 1,.slice A 1 c,.slice B 1 d]∧Below w.heap.size w w'
theorem small_any (w:World):Calls Tryd.prog 7 #[] w (SmallAt w) := by
  go_enter Tryd.func7,Tryd.ntmps7
  go_upto_region 1 with (fail)
  go_cut [] (fun wx=>mdSmall.In wx (FrS w wx) [.int .i64 1,.slice (some ⟨w.heap.size+1,0,none⟩) 1 1,.slice (some ⟨w.heap.size+4,0,none⟩) 1 1]∧wx.heap[w.heap.size]? = some (.cells #[.int .i64 1,.slice (some ⟨w.heap.size+1,0,none⟩) 1 1,.slice (some ⟨w.heap.size+4,0,none⟩) 1 1] 25 (0,0))∧Below w.heap.size w wx)
  case first =>
    go_wp2_with fail
    go_meet
    have hz:∀(o1 o2 o3 o4 o5:Obj),(((((w.alloc o1).alloc o2).alloc o3).alloc o4).alloc o5).heap.size=w.heap.size+5 := fun _ _ _ _ _=>by simp
    refine ⟨⟨_,_,rfl,sl_lit (ρ := conRep) (x := ⟨⟨#[107,105,109]⟩,0⟩) (ds := [.string ⟨#[107,105,109]⟩,.int .i64 0]) (T := 49) (fr := (0,0)) ⟨rfl,by decide +kernel⟩ ?k1 ⟨by omega,by rw [hz]; omega⟩,
      sl_lit (ρ := relRep) (x := ⟨⟨#[100,111,103]⟩,1,[[0]]⟩) (ds := [.string ⟨#[100,111,103]⟩,.int .i64 1,.slice (some ⟨w.heap.size+3,0,none⟩) 1 1]) (T := 59) (fr := (0,0)) ⟨_,rfl,by decide +kernel,
        sl_lit (ρ := intsRep) (x := [0]) (ds := [.slice (some ⟨w.heap.size+2,0,none⟩) 1 1]) (T := 39) (fr := (0,0)) ⟨_,rfl,sl_lit (ρ := zRep) (x := 0) (ds := [.int .i64 0]) (T := 3) (fr := (0,0)) rfl ?k2 ⟨by omega,by rw [hz]; omega⟩⟩ ?k3 ⟨by omega,by rw [hz]; omega⟩⟩ ?k4 ⟨by omega,by rw [hz]; omega⟩⟩,?k0,by go_grown⟩
    case k1=>exact heap_old (by first | (simp; done) | (simp; omega)) (heap_old (by first | (simp; done) | (simp; omega)) (heap_old (by first | (simp; done) | (simp; omega)) (heap_at (by first | (simp; done) | (simp; omega)))))
    case k2=>exact heap_old (by first | (simp; done) | (simp; omega)) (heap_old (by first | (simp; done) | (simp; omega)) (heap_at (by first | (simp; done) | (simp; omega))))
    case k3=>exact heap_old (by first | (simp; done) | (simp; omega)) (heap_at (by first | (simp; done) | (simp; omega)))
    case k4=>exact heap_at (by first | (simp; done) | (simp; omega))
    case k0=>exact heap_old (by first | (simp; done) | (simp; omega)) (heap_old (by first | (simp; done) | (simp; omega)) (heap_old (by first | (simp; done) | (simp; omega)) (heap_old (by first | (simp; done) | (simp; omega)) (heap_at rfl))))
  case rest =>
    obtain ⟨hin,k0,hb⟩ := hcut
    rename World=>wx
    have hfin:SmallAt w (.returned (.agg #[.int .i64 1,.slice (some ⟨w.heap.size+1,0,none⟩) 1 1,.slice (some ⟨w.heap.size+4,0,none⟩) 1 1])) wx := ⟨_,_,_,_,rfl,hin,hb⟩
    have HIN := Lib.hid hin
    have HB := Lib.hid hb
    have HFIN := Lib.hid hfin
    clear hin hb hfin
    have k0_0 := cv0 k0
    have k0_1 := cv1 k0
    have k0_2 := cv2 k0
    have k0_l := lt_heap k0
    have K0 := Lib.hid k0
    clear k0
    go_wp2_with fail
    refine bodyPost_ret (v := .agg #[.int .i64 1,.slice (some ⟨w.heap.size+1,0,none⟩) 1 1,.slice (some ⟨w.heap.size+4,0,none⟩) 1 1]) (by simp [results,Tryd.results7,go_sem,k0_0,k0_1,k0_2,k0_l]) rfl ?_
    exact HFIN.out
end
noncomputable section
set_option maxRecDepth 1000000
set_option maxHeartbeats 16000000
variable {s_1 s_2 s_3 s_4 s_7 s_9 s_5 s_103 s_104 s_116 s_117 s_118:Value} {Q:Exit→Act→World→Prop} {bn n m n1 c1 n2 c2 i b o n3 c3 n4 c4 fc fi gf:Nat} {wo w:World} {kd ke:Int} {nm s ne:ByteArray} {A B Ae Be:Option Addr} {nb:Bool}

def c_ck_r18 := sp 99 10239 cF63
theorem ck_r18_wp (hs:CS wo w bn kd nm A n1 c1 B n2 c2 n m) (hN:∀a' w',Frm 133 [(1,s_1),(2,s_2),(3,s_3),(4,s_4),(5,.pointer (some ⟨wo.heap.size,0,none⟩)),(7,s_7),(9,s_9),(12,.bool (namedF kd))] a'→CS wo w' bn kd nm A n1 c1 B n2 c2 n m→Q .normal a' w'):∀ac,Frm 133 [(1,s_1),(2,s_2),(3,s_3),(4,s_4),(5,.pointer (some ⟨wo.heap.size,0,none⟩)),(7,s_7),(9,s_9)] ac→Code.wp Tryd.prog c_ck_r18 Q ac w := by
  refine fO (frame_ck ?_)
  intros
  rename_i hq
  iterate 7 (obtain ⟨e,hq⟩ := hq; obtain rfl := sI e; clear e)
  clear hq
  conv=>arg 2; whnf
  have a0 := cellv hs.a 0 rfl
  have a1 := cellv hs.a 1 rfl
  have a2 := cellv hs.a 2 rfl
  have a3 := cellv hs.a 3 rfl
  have al := lt_heap hs.a
  have hq := quant_any kd nm A B n1 c1 n2 c2 w
  replace hs := Lib.hid hs
  replace hq := Lib.hid hq
  by_cases h2:kd=2
  · subst h2
    rw [show namedF 2=true from rfl] at hN
    replace hN := Lib.hid hN
    go_wp2_with fail
    exact hN.out _ _ (by exact fR rfl rfl rfl) hs.out
  have t2:(kd == 2)=false := beq_eq_false_iff_ne.2 h2
  by_cases hqu:isQu kd=true
  · rw [show namedF kd=true from by simp only [isQu,Bool.or_eq_true,decide_eq_true_eq] at hqu; simp only [namedF,Bool.or_eq_true,decide_eq_true_eq]; omega] at hN
    rw [hqu] at hq
    clear hqu h2
    replace hN := Lib.hid hN
    go_wp2_with fail
    (with_reducible refine hq.out.mono ?_)
    rintro e w1 ⟨rfl,hb1⟩
    have hs := hs.out.below hb1
    clear hb1 a0 a1 a2 a3 al
    have a0 := cellv hs.a 0 rfl
    have a1 := cellv hs.a 1 rfl
    have a2 := cellv hs.a 2 rfl
    have a3 := cellv hs.a 3 rfl
    have al := lt_heap hs.a
    replace hs := Lib.hid hs
    go_wp2_with fail
    exact hN.out _ _ (by exact fR rfl rfl rfl) hs.out
  replace hqu:isQu kd=false := by simpa using hqu
  rw [hqu] at hq
  by_cases h10:kd=10
  · subst h10
    rw [show namedF 10=true from rfl] at hN
    clear hqu h2
    replace hN := Lib.hid hN
    go_wp2_with fail
    (with_reducible refine hq.out.mono ?_)
    rintro e w1 ⟨rfl,hb1⟩
    have hs := hs.out.below hb1
    clear hb1 a0 a1 a2 a3 al
    have a0 := cellv hs.a 0 rfl
    have a1 := cellv hs.a 1 rfl
    have a2 := cellv hs.a 2 rfl
    have a3 := cellv hs.a 3 rfl
    have al := lt_heap hs.a
    replace hs := Lib.hid hs
    go_wp2_with fail
    exact hN.out _ _ (by exact fR rfl rfl rfl) hs.out
  have t10:(kd == 10)=false := beq_eq_false_iff_ne.2 h10
  rw [show namedF kd=false from by simp only [isQu,Bool.or_eq_false_iff,decide_eq_false_iff_not] at hqu; simp only [namedF,Bool.or_eq_false_iff,decide_eq_false_iff_not]; omega] at hN
  clear hqu h2 h10
  replace hN := Lib.hid hN
  go_wp2_with fail
  (with_reducible refine hq.out.mono ?_)
  rintro e w1 ⟨rfl,hb1⟩
  have hs := hs.out.below hb1
  clear hb1 a0 a1 a2 a3 al
  have a0 := cellv hs.a 0 rfl
  have a1 := cellv hs.a 1 rfl
  have a2 := cellv hs.a 2 rfl
  have a3 := cellv hs.a 3 rfl
  have al := lt_heap hs.a
  replace hs := Lib.hid hs
  go_wp2_with fail
  exact hN.out _ _ (by exact fR rfl rfl rfl) hs.out
def c_ck_r19 := sp 99 22527 cF63
theorem ck_r19_wp (hn:nm.size≤maxLen) (hs:CS wo w bn kd nm A n1 c1 B n2 c2 n m) (hN:∀a',Frm 133 [(1,s_1),(2,s_2),(3,s_3),(4,s_4),(5,.pointer (some ⟨wo.heap.size,0,none⟩)),(7,s_7),(9,s_9),(12,.bool nb),(90,.bool (nb && !okName nm))] a'→Q .normal a' w):∀ac,Frm 133 [(1,s_1),(2,s_2),(3,s_3),(4,s_4),(5,.pointer (some ⟨wo.heap.size,0,none⟩)),(7,s_7),(9,s_9),(12,.bool nb)] ac→Code.wp Tryd.prog c_ck_r19 Q ac w := by
  refine fO (frame_ck ?_)
  intros
  rename_i hq
  iterate 8 (obtain ⟨e,hq⟩ := hq; obtain rfl := sI e; clear e)
  clear hq
  conv=>arg 2; whnf
  have a0 := cellv hs.a 0 rfl
  have a1 := cellv hs.a 1 rfl
  have a2 := cellv hs.a 2 rfl
  have a3 := cellv hs.a 3 rfl
  have al := lt_heap hs.a
  have hnm := name_any nm w hn
  replace hs := Lib.hid hs
  replace hnm := Lib.hid hnm
  cases nb
  · rw [show (false && !okName nm)=false from rfl] at hN
    replace hN := Lib.hid hN
    go_wp2_with fail
    exact hN.out _ (by exact fR rfl rfl rfl)
  · rw [show (true && !okName nm)=!okName nm from by simp] at hN
    replace hN := Lib.hid hN
    go_wp2_with fail
    (with_reducible refine hnm.out.mono ?_)
    rintro e w1 ⟨rfl,rfl⟩
    go_wp2_with fail
    exact hN.out _ (by exact fR rfl rfl rfl)
def c_ck_r20 := sp 99 79871 cF63
theorem ck_r20_wp (hs:CS wo w bn kd nm A n1 c1 B n2 c2 n m) (hN:∀a' w',Frm 133 [(7,.pointer (some ⟨wo.heap.size+1,0,none⟩))] a'→CD wo w' bn m (.int .i64 10) (.int .i64 (n:Nat))→Q .normal a' w'):∀ac,Frm 133 [(1,s_1),(2,s_2),(3,s_3),(4,s_4),(5,s_5),(7,.pointer (some ⟨wo.heap.size+1,0,none⟩)),(9,(.func (Fn.func 64) #[] #[.pointer (some ⟨wo.heap.size+1+1,0,none⟩)]))] ac→Code.wp Tryd.prog c_ck_r20 Q ac w := by
  refine fO (frame_ck ?_)
  intros
  rename_i hq
  iterate 7 (obtain ⟨e,hq⟩ := hq; obtain rfl := sI e; clear e)
  clear hq
  conv=>arg 2; whnf
  have hb := badF_any (wo.heap.size+1+1) n 10 w hs.p
  have HN := Lib.hid hN
  have HB := Lib.hid hb
  clear hN hb
  replace hs := Lib.hid hs
  go_wp2_with fail
  (with_reducible refine HB.out.mono ?_)
  rintro e w1 ⟨rfl,hb1⟩
  have hs := hs.out.below hb1
  have rc0 := cellv hs.r 0 rfl
  have rc1 := cellv hs.r 1 rfl
  have rf0 := free_heap hs.r 0
  have rf1 := free_heap hs.r 1
  have rl := lt_heap hs.r
  replace hs := Lib.hid hs
  clear hb1
  go_wp2_with fail
  exact HN.out _ _ (id ⟨rfl,rfl,rfl,trivial⟩) (hs.out.put _ _)
def c_ck_r21 := sp 99 96255 cF63
theorem ck_r21_wp (hs:CS wo w bn kd nm A n1 c1 B n2 c2 n m) (hN:∀a',Frm 133 [(1,s_1),(2,s_2),(3,s_3),(4,s_4),(5,.pointer (some ⟨wo.heap.size,0,none⟩)),(7,s_7),(9,s_9),(99,.bool (!nb && decide (nm≠bNilF)))] a'→Q .normal a' w):∀ac,Frm 133 [(1,s_1),(2,s_2),(3,s_3),(4,s_4),(5,.pointer (some ⟨wo.heap.size,0,none⟩)),(7,s_7),(9,s_9),(12,.bool nb)] ac→Code.wp Tryd.prog c_ck_r21 Q ac w := by
  refine fO (frame_ck ?_)
  intros
  rename_i hq
  iterate 8 (obtain ⟨e,hq⟩ := hq; obtain rfl := sI e; clear e)
  clear hq
  conv=>arg 2; whnf
  have a0 := cellv hs.a 0 rfl
  have a1 := cellv hs.a 1 rfl
  have a2 := cellv hs.a 2 rfl
  have a3 := cellv hs.a 3 rfl
  have al := lt_heap hs.a
  replace hs := Lib.hid hs
  cases nb
  case true =>
    rw [show (!true && decide (nm≠bNilF))=false from rfl] at hN
    replace hN := Lib.hid hN
    go_wp2_with fail
    exact hN.out _ (by exact fR rfl rfl rfl)
  rw [show (!false && decide (nm≠bNilF))=decide (nm≠bNilF) from by simp] at hN
  by_cases hz:nm=bNilF
  · subst hz
    have t1:bNilF.toList.isEmpty=true := by simp [ByteArray.toList_eq,bNilF]
    rw [show decide (bNilF≠bNilF)=false from decide_eq_false (fun h=>h rfl)] at hN
    replace hN := Lib.hid hN
    go_wp2_with fail
    exact hN.out _ (by exact fR rfl rfl rfl)
  · have t1:nm.toList.isEmpty=false := by
      cases e:nm.toList.isEmpty
      · rfl
      · exact absurd (bytes_inj (by rw [List.isEmpty_iff.1 e]; simp [bNilF])) hz
    rw [show decide (nm≠bNilF)=true from decide_eq_true hz] at hN
    clear hz
    replace hN := Lib.hid hN
    go_wp2_with fail
    exact hN.out _ (by exact fR rfl rfl rfl)
def c_ck_r22 := sp 99 325631 cF63
theorem ck_r22_wp (hs:CS wo w bn kd nm A n1 c1 B n2 c2 n m) (hN:∀a' w',Frm 133 [(7,.pointer (some ⟨wo.heap.size+1,0,none⟩))] a'→CD wo w' bn m (.int .i64 5) (.int .i64 (n:Nat))→Q .normal a' w'):∀ac,Frm 133 [(1,s_1),(2,s_2),(3,s_3),(4,s_4),(5,s_5),(7,.pointer (some ⟨wo.heap.size+1,0,none⟩)),(9,(.func (Fn.func 64) #[] #[.pointer (some ⟨wo.heap.size+1+1,0,none⟩)]))] ac→Code.wp Tryd.prog c_ck_r22 Q ac w := by
  refine fO (frame_ck ?_)
  intros
  rename_i hq
  iterate 7 (obtain ⟨e,hq⟩ := hq; obtain rfl := sI e; clear e)
  clear hq
  conv=>arg 2; whnf
  have hb := badF_any (wo.heap.size+1+1) n 5 w hs.p
  have HN := Lib.hid hN
  have HB := Lib.hid hb
  clear hN hb
  replace hs := Lib.hid hs
  go_wp2_with fail
  (with_reducible refine HB.out.mono ?_)
  rintro e w1 ⟨rfl,hb1⟩
  have hs := hs.out.below hb1
  have rc0 := cellv hs.r 0 rfl
  have rc1 := cellv hs.r 1 rfl
  have rf0 := free_heap hs.r 0
  have rf1 := free_heap hs.r 1
  have rl := lt_heap hs.r
  replace hs := Lib.hid hs
  clear hb1
  go_wp2_with fail
  exact HN.out _ _ (id ⟨rfl,rfl,rfl,trivial⟩) (hs.out.put _ _)
def c_ck_r23 := sp 99 20479 cF63
theorem ck_r23_wp (hs:CS wo w bn kd nm A n1 c1 B n2 c2 n m) (hN:∀a',Frm 133 [(1,s_1),(2,s_2),(3,s_3),(4,s_4),(5,.pointer (some ⟨wo.heap.size,0,none⟩)),(7,s_7),(9,s_9),(103,.slice A n1 c1),(104,.int .i64 (n1:Nat)),(105,.int .i64 (0:Nat))] a'→Q .normal a' w):∀ac,Frm 133 [(1,s_1),(2,s_2),(3,s_3),(4,s_4),(5,.pointer (some ⟨wo.heap.size,0,none⟩)),(7,s_7),(9,s_9)] ac→Code.wp Tryd.prog c_ck_r23 Q ac w := by
  refine fO (frame_ck ?_)
  intros
  rename_i hq
  iterate 7 (obtain ⟨e,hq⟩ := hq; obtain rfl := sI e; clear e)
  clear hq
  conv=>arg 2; whnf
  have a0 := cellv hs.a 0 rfl
  have a1 := cellv hs.a 1 rfl
  have a2 := cellv hs.a 2 rfl
  have a3 := cellv hs.a 3 rfl
  have al := lt_heap hs.a
  replace hs := Lib.hid hs
  replace hN := Lib.hid hN
  go_wp2_with fail
  exact hN.out _ (by exact fR rfl rfl rfl)
def c_ck_r24 := sp 99 143359 cF63
theorem ck_r24_wp (hN:∀a',Frm 133 [(1,s_1),(2,s_2),(3,s_3),(4,s_4),(5,s_5),(7,s_7),(9,s_9),(103,s_103),(104,.int .i64 (n1:Nat)),(105,.int .i64 (i:Nat)),(106,.bool (decide (i<n1)))] a'→Q .normal a' w):∀ac,Frm 133 [(1,s_1),(2,s_2),(3,s_3),(4,s_4),(5,s_5),(7,s_7),(9,s_9),(103,s_103),(104,.int .i64 (n1:Nat)),(105,.int .i64 (i:Nat))] ac→Code.wp Tryd.prog c_ck_r24 Q ac w := by
  refine fO (frame_ck ?_)
  intros
  rename_i hq
  iterate 10 (obtain ⟨e,hq⟩ := hq; obtain rfl := sI e; clear e)
  clear hq
  conv=>arg 2; whnf
  by_cases h:i<n1
  · have t1:decide ((i:Int)<(n1:Int))=true := decide_eq_true (by omega)
    have t2:decide (i<n1)=true := decide_eq_true h
    rw [t2] at hN
    clear h
    replace hN := Lib.hid hN
    go_wp2_with fail
    exact hN.out _ (by exact fR rfl rfl rfl)
  · have t1:decide ((i:Int)<(n1:Int))=false := decide_eq_false (by omega)
    have t2:decide (i<n1)=false := decide_eq_false h
    rw [t2] at hN
    clear h
    replace hN := Lib.hid hN
    go_wp2_with fail
    exact hN.out _ (by exact fR rfl rfl rfl)
def c_ck_r25 := sp 99 2306047 cF63
theorem ck_r25_wp (hi:i<n1) (hc:w.cell? ⟨b,o+i,none⟩=some (.string s)) (hbl:b<w.heap.size) (hN:∀a',Frm 133 [(1,s_1),(2,s_2),(3,s_3),(4,s_4),(5,s_5),(7,s_7),(9,s_9),(103,.slice (some ⟨b,o,none⟩) n1 c1),(104,s_104),(105,.int .i64 (i:Nat)),(14,.string s)] a'→Q .normal a' w):∀ac,Frm 133 [(1,s_1),(2,s_2),(3,s_3),(4,s_4),(5,s_5),(7,s_7),(9,s_9),(103,.slice (some ⟨b,o,none⟩) n1 c1),(104,s_104),(105,.int .i64 (i:Nat))] ac→Code.wp Tryd.prog c_ck_r25 Q ac w := by
  refine fO (frame_ck ?_)
  intros
  rename_i hq
  iterate 10 (obtain ⟨e,hq⟩ := hq; obtain rfl := sI e; clear e)
  clear hq
  conv=>arg 2; whnf
  have q0:(0:Int)≤(i:Int) := by omega
  have q1:(i:Int)<(n1:Int) := by omega
  replace hN := Lib.hid hN
  go_wp2_with fail
  exact hN.out _ (by exact fR rfl rfl rfl)
def c_ck_r26 := sp 99 5451775 cF63
theorem ck_r26_wp {s_105:Value} (hsz:s.size≤maxLen) (hN:∀a',Frm 133 [(1,s_1),(2,s_2),(3,s_3),(4,s_4),(5,s_5),(7,s_7),(9,s_9),(103,s_103),(104,s_104),(105,s_105),(111,.bool (!okName s))] a'→Q .normal a' w):∀ac,Frm 133 [(1,s_1),(2,s_2),(3,s_3),(4,s_4),(5,s_5),(7,s_7),(9,s_9),(103,s_103),(104,s_104),(105,s_105),(14,.string s)] ac→Code.wp Tryd.prog c_ck_r26 Q ac w := by
  refine fO (frame_ck ?_)
  intros
  rename_i hq
  iterate 11 (obtain ⟨e,hq⟩ := hq; obtain rfl := sI e; clear e)
  clear hq
  conv=>arg 2; whnf
  have hnm := name_any s w hsz
  have HN := Lib.hid hN
  have HNM := Lib.hid hnm
  clear hN hnm
  go_wp2_with fail
  (with_reducible refine HNM.out.mono ?_)
  rintro e w1 ⟨rfl,rfl⟩
  go_wp2_with fail
  exact HN.out _ (by exact fR rfl rfl rfl)
def c_ck_r27 := sp 99 20131839 cF63
theorem ck_r27_wp (hs:CS wo w bn kd nm A n1 c1 B n2 c2 n m) (hN:∀a' w',Frm 133 [(7,.pointer (some ⟨wo.heap.size+1,0,none⟩))] a'→CD wo w' bn m (.int .i64 10) (.int .i64 (n:Nat))→Q .normal a' w'):∀ac,Frm 133 [(1,s_1),(2,s_2),(3,s_3),(4,s_4),(5,s_5),(7,.pointer (some ⟨wo.heap.size+1,0,none⟩)),(9,(.func (Fn.func 64) #[] #[.pointer (some ⟨wo.heap.size+1+1,0,none⟩)]))] ac→Code.wp Tryd.prog c_ck_r27 Q ac w := by
  refine fO (frame_ck ?_)
  intros
  rename_i hq
  iterate 7 (obtain ⟨e,hq⟩ := hq; obtain rfl := sI e; clear e)
  clear hq
  conv=>arg 2; whnf
  have hb := badF_any (wo.heap.size+1+1) n 10 w hs.p
  have HN := Lib.hid hN
  have HB := Lib.hid hb
  clear hN hb
  replace hs := Lib.hid hs
  go_wp2_with fail
  (with_reducible refine HB.out.mono ?_)
  rintro e w1 ⟨rfl,hb1⟩
  have hs := hs.out.below hb1
  have rc0 := cellv hs.r 0 rfl
  have rc1 := cellv hs.r 1 rfl
  have rf0 := free_heap hs.r 0
  have rf1 := free_heap hs.r 1
  have rl := lt_heap hs.r
  replace hs := Lib.hid hs
  clear hb1
  go_wp2_with fail
  exact HN.out _ _ (id ⟨rfl,rfl,rfl,trivial⟩) (hs.out.put _ _)
def c_ck_r28 := sp 99 995327 cF63
theorem ck_r28_wp (hi:i<n1) (hlim:n1≤maxLen) (hN:∀a',Frm 133 [(1,s_1),(2,s_2),(3,s_3),(4,s_4),(5,s_5),(7,s_7),(9,s_9),(103,s_103),(104,s_104),(105,.int .i64 (i+1:Nat))] a'→Q .normal a' w):∀ac,Frm 133 [(1,s_1),(2,s_2),(3,s_3),(4,s_4),(5,s_5),(7,s_7),(9,s_9),(103,s_103),(104,s_104),(105,.int .i64 (i:Nat))] ac→Code.wp Tryd.prog c_ck_r28 Q ac w := by
  refine fO (frame_ck ?_)
  intros
  rename_i hq
  iterate 10 (obtain ⟨e,hq⟩ := hq; obtain rfl := sI e; clear e)
  clear hq
  conv=>arg 2; whnf
  have hi4:(i:Int)≤9223372036854775806 := by unfold maxLen at hlim; omega
  replace hN := Lib.hid hN
  go_wp2_with fail
  exact hN.out _ (by exact fR rfl rfl rfl)
def c_ck_r29 := sp 99 40959 cF63
theorem ck_r29_wp (hs:CS wo w bn kd nm A n1 c1 B n2 c2 n m) (hN:∀a',Frm 133 [(1,s_1),(2,s_2),(3,s_3),(4,s_4),(5,.pointer (some ⟨wo.heap.size,0,none⟩)),(7,s_7),(9,s_9),(116,.slice B n2 c2),(117,.int .i64 (n2:Nat)),(118,.int .i64 (0:Nat))] a'→Q .normal a' w):∀ac,Frm 133 [(1,s_1),(2,s_2),(3,s_3),(4,s_4),(5,.pointer (some ⟨wo.heap.size,0,none⟩)),(7,s_7),(9,s_9)] ac→Code.wp Tryd.prog c_ck_r29 Q ac w := by
  refine fO (frame_ck ?_)
  intros
  rename_i hq
  iterate 7 (obtain ⟨e,hq⟩ := hq; obtain rfl := sI e; clear e)
  clear hq
  conv=>arg 2; whnf
  have a0 := cellv hs.a 0 rfl
  have a1 := cellv hs.a 1 rfl
  have a2 := cellv hs.a 2 rfl
  have a3 := cellv hs.a 3 rfl
  have al := lt_heap hs.a
  replace hs := Lib.hid hs
  replace hN := Lib.hid hN
  go_wp2_with fail
  exact hN.out _ (by exact fR rfl rfl rfl)
def c_ck_r30 := sp 99 286719 cF63
theorem ck_r30_wp (hN:∀a',Frm 133 [(1,s_1),(2,s_2),(3,s_3),(4,s_4),(5,s_5),(7,s_7),(9,s_9),(116,s_116),(117,.int .i64 (n2:Nat)),(118,.int .i64 (i:Nat)),(119,.bool (decide (i<n2)))] a'→Q .normal a' w):∀ac,Frm 133 [(1,s_1),(2,s_2),(3,s_3),(4,s_4),(5,s_5),(7,s_7),(9,s_9),(116,s_116),(117,.int .i64 (n2:Nat)),(118,.int .i64 (i:Nat))] ac→Code.wp Tryd.prog c_ck_r30 Q ac w := by
  refine fO (frame_ck ?_)
  intros
  rename_i hq
  iterate 10 (obtain ⟨e,hq⟩ := hq; obtain rfl := sI e; clear e)
  clear hq
  conv=>arg 2; whnf
  by_cases h:i<n2
  · have t1:decide ((i:Int)<(n2:Int))=true := decide_eq_true (by omega)
    have t2:decide (i<n2)=true := decide_eq_true h
    rw [t2] at hN
    clear h
    replace hN := Lib.hid hN
    go_wp2_with fail
    exact hN.out _ (by exact fR rfl rfl rfl)
  · have t1:decide ((i:Int)<(n2:Int))=false := decide_eq_false (by omega)
    have t2:decide (i<n2)=false := decide_eq_false h
    rw [t2] at hN
    clear h
    replace hN := Lib.hid hN
    go_wp2_with fail
    exact hN.out _ (by exact fR rfl rfl rfl)
def c_ck_r31 := sp 99 4612095 cF63
theorem ck_r31_wp (hi:i<n2) (h0:w.cell? ⟨b,o+i * 4,none⟩=some (.int .i64 ke)) (h1:w.cell? ⟨b,o+i * 4+1,none⟩=some (.string ne)) (h2:w.cell? ⟨b,o+i * 4+2,none⟩=some (.slice Ae n3 c3)) (h3:w.cell? ⟨b,o+i * 4+3,none⟩=some (.slice Be n4 c4)) (hbl:b<w.heap.size) (hN:∀a',Frm 133 [(1,s_1),(2,s_2),(3,s_3),(4,s_4),(5,s_5),(7,s_7),(9,s_9),(116,.slice (some ⟨b,o,none⟩) n2 c2),(117,s_117),(118,.int .i64 (i:Nat)),(16,.pointer (some ⟨w.heap.size,0,none⟩))] a'→Q .normal a' (w.alloc (.cells #[.int .i64 ke,.string ne,.slice Ae n3 c3,.slice Be n4 c4] 29))):∀ac,Frm 133 [(1,s_1),(2,s_2),(3,s_3),(4,s_4),(5,s_5),(7,s_7),(9,s_9),(116,.slice (some ⟨b,o,none⟩) n2 c2),(117,s_117),(118,.int .i64 (i:Nat))] ac→Code.wp Tryd.prog c_ck_r31 Q ac w := by
  refine fO (frame_ck ?_)
  intros
  rename_i hq
  iterate 10 (obtain ⟨e,hq⟩ := hq; obtain rfl := sI e; clear e)
  clear hq
  conv=>arg 2; whnf
  have q0:(0:Int)≤(i:Int) := by omega
  have q1:(i:Int)<(n2:Int) := by omega
  replace hN := Lib.hid hN
  go_wp2_with fail
  exact hN.out _ (by exact fR rfl rfl rfl)
def c_ck_r32 := sp 99 10903551 cF63
theorem ck_r32_wp {ge m2:Nat} {bo bw d:Nat} (hs:CS wo w bn kd nm A n1 c1 B n2 c2 n m) (hd:d≤50) (hf:w.heap[bw]? = some (.cells #[.func (Fn.func 63) #[] #[.pointer (some ⟨bn,0,none⟩),.pointer (some ⟨bo,0,none⟩),.pointer (some ⟨bw,0,none⟩)]] 104 (0,0))) (hge:w.heap[ge]? = some (.cells #[.int .i64 ke,.string ne,.slice Ae n3 c3,.slice Be n4 c4] 29 (0,0))) (hcall:Calls Tryd.prog 63 #[.agg #[.int .i64 ke,.string ne,.slice Ae n3 c3,.slice Be n4 c4],.int .i64 ((d:Int)+1),.pointer (some ⟨bn,0,none⟩),.pointer (some ⟨bo,0,none⟩),.pointer (some ⟨bw,0,none⟩)] w fun e w'=>e=.returned (.agg #[.int .i64 (fc:Nat),.int .i64 (fi:Nat)])∧w'.heap[bn]? = some (.cells #[.int .i64 (m2:Nat)] 3 (0,0))∧Keeps (·=bn) w w') (hN:∀gf a' w',Frm 133 [(1,.int .i64 (d:Nat)),(2,s_2),(3,s_3),(4,.pointer (some ⟨bw,0,none⟩)),(5,s_5),(7,s_7),(9,s_9),(116,s_116),(117,s_117),(118,s_118),(17,.pointer (some ⟨gf,0,none⟩))] a'→CS wo w' bn kd nm A n1 c1 B n2 c2 n m2→w'.heap[gf]? = some (.cells #[.int .i64 (fc:Nat),.int .i64 (fi:Nat)] 32 (0,0))→Q .normal a' w'):∀ac,Frm 133 [(1,.int .i64 (d:Nat)),(2,s_2),(3,s_3),(4,.pointer (some ⟨bw,0,none⟩)),(5,s_5),(7,s_7),(9,s_9),(116,s_116),(117,s_117),(118,s_118),(16,.pointer (some ⟨ge,0,none⟩))] ac→Code.wp Tryd.prog c_ck_r32 Q ac w := by
  refine fO (frame_ck ?_)
  intros
  rename_i hq
  iterate 11 (obtain ⟨e,hq⟩ := hq; obtain rfl := sI e; clear e)
  clear hq
  conv=>arg 2; whnf
  have f0 := cellv hf 0 rfl
  have fl := lt_heap hf
  have e0 := cellv hge 0 rfl
  have e1 := cellv hge 1 rfl
  have e2 := cellv hge 2 rfl
  have e3 := cellv hge 3 rfl
  have el := lt_heap hge
  have hd4:(d:Int)≤5000 := by omega
  clear hf hge
  have HN := Lib.hid hN
  have HCALL := Lib.hid hcall
  clear hN hcall
  replace hs := Lib.hid hs
  go_wp2_with fail
  (with_reducible refine HCALL.out.mono ?_)
  rintro e w1 ⟨rfl,hc1,hk1⟩
  have HC1 := Lib.hid hc1
  have HK1 := Lib.hid hk1
  clear hc1 hk1
  go_wp2_with fail
  exact HN.out w1.heap.size _ _ (by exact fR rfl rfl rfl) ((hs.out.keeps HK1.out HC1.out).below ((Below.refl _ _).alloc (Nat.le_refl _) _)) (heap_at rfl)
def c_ck_r33 := sp 99 23486463 cF63
theorem ck_r33_wp (hgf:w.heap[gf]? = some (.cells #[.int .i64 (fc:Nat),.int .i64 (fi:Nat)] 32 (0,0))) (hN:∀a',Frm 133 [(1,s_1),(2,s_2),(3,s_3),(4,s_4),(5,s_5),(7,s_7),(9,s_9),(116,s_116),(117,s_117),(118,s_118),(17,.pointer (some ⟨gf,0,none⟩)),(129,.bool (decide (fc≠0)))] a'→Q .normal a' w):∀ac,Frm 133 [(1,s_1),(2,s_2),(3,s_3),(4,s_4),(5,s_5),(7,s_7),(9,s_9),(116,s_116),(117,s_117),(118,s_118),(17,.pointer (some ⟨gf,0,none⟩))] ac→Code.wp Tryd.prog c_ck_r33 Q ac w := by
  refine fO (frame_ck ?_)
  intros
  rename_i hq
  iterate 11 (obtain ⟨e,hq⟩ := hq; obtain rfl := sI e; clear e)
  clear hq
  conv=>arg 2; whnf
  have g0 := cellv hgf 0 rfl
  have g1 := cellv hgf 1 rfl
  have gl := lt_heap hgf
  clear hgf
  by_cases h:fc=0
  · have t1:((fc:Int) != 0)=false := by rw [bne_eq_false_iff_eq]; omega
    rw [show decide (fc≠0)=false from decide_eq_false (fun h2=>h2 h)] at hN
    clear h
    replace hN := Lib.hid hN
    go_wp2_with fail
    exact hN.out _ (by exact fR rfl rfl rfl)
  · have t1:((fc:Int) != 0)=true := by rw [bne_iff_ne]; omega
    rw [show decide (fc≠0)=true from decide_eq_true h] at hN
    clear h
    replace hN := Lib.hid hN
    go_wp2_with fail
    exact hN.out _ (by exact fR rfl rfl rfl)
def c_ck_r34 := sp 99 82206719 cF63
theorem ck_r34_wp (hs:CS wo w bn kd nm A n1 c1 B n2 c2 n m) (hgf:w.heap[gf]? = some (.cells #[.int .i64 (fc:Nat),.int .i64 (fi:Nat)] 32 (0,0))) (hN:∀a' w',Frm 133 [(7,.pointer (some ⟨wo.heap.size+1,0,none⟩))] a'→CD wo w' bn m (.int .i64 (fc:Nat)) (.int .i64 (fi:Nat))→Q .normal a' w'):∀ac,Frm 133 [(7,.pointer (some ⟨wo.heap.size+1,0,none⟩)),(17,.pointer (some ⟨gf,0,none⟩))] ac→Code.wp Tryd.prog c_ck_r34 Q ac w := by
  refine fO (frame_ck ?_)
  intros
  rename_i hq
  iterate 2 (obtain ⟨e,hq⟩ := hq; obtain rfl := sI e; clear e)
  clear hq
  conv=>arg 2; whnf
  have g0 := cellv hgf 0 rfl
  have g1 := cellv hgf 1 rfl
  have gl := lt_heap hgf
  clear hgf
  have rc0 := cellv hs.r 0 rfl
  have rc1 := cellv hs.r 1 rfl
  have rf0 := free_heap hs.r 0
  have rf1 := free_heap hs.r 1
  have rl := lt_heap hs.r
  replace hs := Lib.hid hs
  replace hN := Lib.hid hN
  go_wp2_with fail
  exact hN.out _ _ (id ⟨rfl,rfl,rfl,trivial⟩) (hs.out.put _ _)
def c_ck_r35 := sp 99 1990655 cF63
theorem ck_r35_wp (hi:i<n2) (hlim:n2≤maxLen) (hN:∀a',Frm 133 [(1,s_1),(2,s_2),(3,s_3),(4,s_4),(5,s_5),(7,s_7),(9,s_9),(116,s_116),(117,s_117),(118,.int .i64 (i+1:Nat))] a'→Q .normal a' w):∀ac,Frm 133 [(1,s_1),(2,s_2),(3,s_3),(4,s_4),(5,s_5),(7,s_7),(9,s_9),(116,s_116),(117,s_117),(118,.int .i64 (i:Nat))] ac→Code.wp Tryd.prog c_ck_r35 Q ac w := by
  refine fO (frame_ck ?_)
  intros
  rename_i hq
  iterate 10 (obtain ⟨e,hq⟩ := hq; obtain rfl := sI e; clear e)
  clear hq
  conv=>arg 2; whnf
  have hi4:(i:Int)≤9223372036854775806 := by unfold maxLen at hlim; omega
  replace hN := Lib.hid hN
  go_wp2_with fail
  exact hN.out _ (by exact fR rfl rfl rfl)
def c_ck_r36 := sp 99 49151 cF63
theorem ck_r36_wp (hs:CS wo w bn kd nm A n1 c1 B n2 c2 n m) (hN:∀a' w',Frm 133 [(7,.pointer (some ⟨wo.heap.size+1,0,none⟩))] a'→CD wo w' bn m (.int .i64 0) (.int .i64 0)→Q .normal a' w'):∀ac,Frm 133 [(1,s_1),(2,s_2),(3,s_3),(4,s_4),(5,s_5),(7,.pointer (some ⟨wo.heap.size+1,0,none⟩)),(9,s_9)] ac→Code.wp Tryd.prog c_ck_r36 Q ac w := by
  refine fO (frame_ck ?_)
  intros
  rename_i hq
  iterate 7 (obtain ⟨e,hq⟩ := hq; obtain rfl := sI e; clear e)
  clear hq
  conv=>arg 2; whnf
  have rc0 := cellv hs.r 0 rfl
  have rc1 := cellv hs.r 1 rfl
  have rf0 := free_heap hs.r 0
  have rf1 := free_heap hs.r 1
  have rl := lt_heap hs.r
  replace hs := Lib.hid hs
  replace hN := Lib.hid hN
  go_wp2_with fail
  exact hN.out _ _ (id ⟨rfl,rfl,rfl,trivial⟩) (hs.out.put _ _)
theorem ck_ret_wp {R:Ending→World→Prop} {w':World} {g:Nat} {f0 f1:Int} (hg:w'.heap[g]? = some (.cells #[.int .i64 f0,.int .i64 f1] 32 (0,0))) (hR:R (.returned (.agg #[.int .i64 f0,.int .i64 f1])) w'):∀ac,Frm 133 [(7,.pointer (some ⟨g,0,none⟩))] ac→bodyPost Tryd.prog Tryd.f63 R .ret ac w' := by
  refine fO (frame_ck ?_)
  intros
  rename_i hq
  iterate 1 (obtain ⟨e,hq⟩ := hq; obtain rfl := sI e; clear e)
  clear hq
  have z0 := cellv hg 0 rfl
  have z1 := cellv hg 1 rfl
  have zl := lt_heap hg
  refine bodyPost_ret (v := .agg #[.int .i64 f0,.int .i64 f1]) (by simp [results,Tryd.results63,go_sem,z0,z1,zl]) rfl ?_
  exact hR
end
noncomputable section
set_option maxRecDepth 100000
set_option maxHeartbeats 4000000
variable {Q:Exit→Act→World→Prop} {S:Nat→Prop} {bn bo bw d n m n1 c1 n2 c2:Nat} {wo w:World} {kd:Int} {nm:ByteArray} {A B:Option Addr}

def c_ck_wl := sp 99 45055 cF63
theorem ck_wl_wp {ws:List ByteArray} (hs:CS wo w bn kd nm A n1 c1 B n2 c2 n m) (hS:∀b,S b→b<w.heap.size) (hw:strRep.Sl w S (.slice A n1 c1) ws)
    (hX:ws.all okName=true→∀a',Frm 133 [(1,.int .i64 (d:Nat)),(2,.pointer (some ⟨bn,0,none⟩)),(3,.pointer (some ⟨bo,0,none⟩)),(4,.pointer (some ⟨bw,0,none⟩)),(5,.pointer (some ⟨wo.heap.size,0,none⟩)),(7,.pointer (some ⟨wo.heap.size+1,0,none⟩)),(9,(.func (Fn.func 64) #[] #[.pointer (some ⟨wo.heap.size+1+1,0,none⟩)]))] a'→Q (.exit 0) a' w) (hR:ws.all okName=false→∀a' w',Frm 133 [(7,.pointer (some ⟨wo.heap.size+1,0,none⟩))] a'→CD wo w' bn m (.int .i64 10) (.int .i64 (n:Nat))→Q .ret a' w'):∀ac,Frm 133 [(1,.int .i64 (d:Nat)),(2,.pointer (some ⟨bn,0,none⟩)),(3,.pointer (some ⟨bo,0,none⟩)),(4,.pointer (some ⟨bw,0,none⟩)),(5,.pointer (some ⟨wo.heap.size,0,none⟩)),(7,.pointer (some ⟨wo.heap.size+1,0,none⟩)),(9,(.func (Fn.func 64) #[] #[.pointer (some ⟨wo.heap.size+1+1,0,none⟩)])),(103,.slice A n1 c1),(104,.int .i64 (n1:Nat)),(105,.int .i64 (0:Nat))] ac→Code.wp Tryd.prog c_ck_wl Q ac w := by
  intro a0 hf0
  conv=>arg 2; whnf
  obtain ⟨A',n',c',e,hlen,hmax,_⟩ := id hw
  injection e with e1 e2 e3
  subst e1 e2 e3
  refine wp_loopR (fun g a' w'=>∃j:Nat,j+g=ws.length∧(ws.take j).all okName=true∧w'=w∧Frm 133 [(1,.int .i64 (d:Nat)),(2,.pointer (some ⟨bn,0,none⟩)),(3,.pointer (some ⟨bo,0,none⟩)),(4,.pointer (some ⟨bw,0,none⟩)),(5,.pointer (some ⟨wo.heap.size,0,none⟩)),(7,.pointer (some ⟨wo.heap.size+1,0,none⟩)),(9,(.func (Fn.func 64) #[] #[.pointer (some ⟨wo.heap.size+1+1,0,none⟩)])),(103,.slice A n1 c1),(104,.int .i64 (n1:Nat)),(105,.int .i64 (j:Nat))] a') ws.length ⟨0,by omega,rfl,rfl,hf0⟩ ?_
  rintro g a1 w1 ⟨j,hjg,hall,rfl,h1⟩
  refine wp_seq ?_
  refine ck_r24_wp (fun a2 h2=>?_) a1 h1
  refine wp_seq ?_
  by_cases hj:j<n1
  case neg =>
    refine wp_cond_false ((h2.eval (k := 106) (v := .bool (decide (j<n1))) (by simp)).trans (by rw [decide_eq_false hj])) ?_
    refine wp_exit (hX ?_ a2 (h2.pick [0,1,2,3,4,5,6]))
    rwa [List.take_of_length_le (by omega)] at hall
  refine wp_cond_true ((h2.eval (k := 106) (v := .bool (decide (j<n1))) (by simp)).trans (by rw [decide_eq_true hj])) ?_
  refine wp_skip ?_
  show Code.wp _ _ _ a2 w1
  obtain ⟨b,o,cs,rfl,hSb,⟨rfl,hsz⟩,hc⟩ := Rep.Sl.at_ hw (List.getElem?_eq_getElem (by omega:j<ws.length))
  have hc0:w1.cell? ⟨b,o+j,none⟩=some (.string ws[j]) := by simpa [strRep] using hc 0 _ rfl
  refine wp_seq ?_
  refine wp_block ?_
  refine wp_seq ?_
  refine ck_r25_wp hj hc0 (hS b hSb) (fun a3 h3=>?_) a2 (h2.pick [0,1,2,3,4,5,6,7,8,9])
  refine wp_seq ?_
  refine ck_r26_wp hsz (fun a4 h4=>?_) a3 h3
  have htk:(ws.take (j+1)).all okName=okName ws[j] := by
    rw [List.take_succ_eq_append_getElem (by omega),List.all_append,hall]
    simp
  cases hok:okName ws[j]
  · rw [hok] at h4
    refine wp_cond_true ((h4.eval (k := 111) (v := .bool (!false)) (by simp)).trans (by rw [show (!false)=true from rfl])) ?_
    refine wp_seq ?_
    refine ck_r27_wp hs (fun a5 w5 h5 hd5=>?_) a4 (h4.pick [0,1,2,3,4,5,6])
    refine wp_ret ?_
    refine hR ?_ a5 w5 h5 hd5
    rw [hok] at htk
    rw [Bool.eq_false_iff]
    intro hx
    rw [List.all_eq_true] at hx
    have:(ws.take (j+1)).all okName=true := List.all_eq_true.2 (fun y hy=>hx y (List.mem_of_mem_take hy))
    rw [this] at htk
    cases htk
  · rw [hok] at h4
    refine wp_cond_false ((h4.eval (k := 111) (v := .bool (!true)) (by simp)).trans (by rw [show (!true)=false from rfl])) ?_
    refine wp_skip ?_
    show Code.wp _ _ _ a4 w1
    refine ck_r28_wp hj (by omega) (fun a5 h5=>?_) a4 (h4.pick [0,1,2,3,4,5,6,7,8,9])
    exact ⟨g - 1,by omega,j+1,by omega,by rw [htk,hok],rfl,h5⟩
def c_ck_sl := sp 99 90111 cF63
theorem ck_sl_wp {hole:Bool} {l:List Fm} (hd:d≤50) (hm:m≤200) (hs:CS wo w bn kd nm A n1 c1 B n2 c2 n m) (hS:∀b,S b→b<wo.heap.size∧b≠bn) (hl:fmRep.Sl wo S (.slice B n2 c2) l) (ho:wo.heap[bo]? = some (.cells #[.bool hole] 4 (0,0))) (hf:wo.heap[bw]? = some (.cells #[.func (Fn.func 63) #[] #[.pointer (some ⟨bn,0,none⟩),.pointer (some ⟨bo,0,none⟩),.pointer (some ⟨bw,0,none⟩)]] 104 (0,0))) (hne:bn≠bw) (hno:bn≠bo) (ih:∀(t:Fm) (cs:List Value) (W:World) (n:Nat),t∈l→fmRep.R W S t cs→(∀b,S b→b<W.heap.size∧b≠bn)→W.heap[bn]? = some (.cells #[.int .i64 n] 3 (0,0))→W.heap[bo]? = some (.cells #[.bool hole] 4 (0,0))→W.heap[bw]? = some (.cells #[.func (Fn.func 63) #[] #[.pointer (some ⟨bn,0,none⟩),.pointer (some ⟨bo,0,none⟩),.pointer (some ⟨bw,0,none⟩)]] 104 (0,0))→n≤200→Calls Tryd.prog 63 #[.agg cs.toArray,.int .i64 ((d:Int)+1),.pointer (some ⟨bn,0,none⟩),.pointer (some ⟨bo,0,none⟩),.pointer (some ⟨bw,0,none⟩)] W fun e w'=>e=.returned (.agg #[.int .i64 ((fmVal hole t (d+1) n).1:Nat),.int .i64 ((fmVal hole t (d+1) n).2.1:Nat)])∧w'.heap[bn]? = some (.cells #[.int .i64 ((fmVal hole t (d+1) n).2.2:Nat)] 3 (0,0))∧Keeps (·=bn) W w') 
    (hX:∀m' a' w',fmVals hole l (d+1) m=(0,0,m')→Frm 133 [(1,.int .i64 (d:Nat)),(2,.pointer (some ⟨bn,0,none⟩)),(3,.pointer (some ⟨bo,0,none⟩)),(4,.pointer (some ⟨bw,0,none⟩)),(5,.pointer (some ⟨wo.heap.size,0,none⟩)),(7,.pointer (some ⟨wo.heap.size+1,0,none⟩)),(9,(.func (Fn.func 64) #[] #[.pointer (some ⟨wo.heap.size+1+1,0,none⟩)]))] a'→CS wo w' bn kd nm A n1 c1 B n2 c2 n m'→Q (.exit 2) a' w') (hR:∀c at_ m',c≠0→fmVals hole l (d+1) m=(c,at_,m')→∀a' w',Frm 133 [(7,.pointer (some ⟨wo.heap.size+1,0,none⟩))] a'→CD wo w' bn m' (.int .i64 (c:Nat)) (.int .i64 (at_:Nat))→Q .ret a' w'):∀ac,Frm 133 [(1,.int .i64 (d:Nat)),(2,.pointer (some ⟨bn,0,none⟩)),(3,.pointer (some ⟨bo,0,none⟩)),(4,.pointer (some ⟨bw,0,none⟩)),(5,.pointer (some ⟨wo.heap.size,0,none⟩)),(7,.pointer (some ⟨wo.heap.size+1,0,none⟩)),(9,(.func (Fn.func 64) #[] #[.pointer (some ⟨wo.heap.size+1+1,0,none⟩)])),(116,.slice B n2 c2),(117,.int .i64 (n2:Nat)),(118,.int .i64 (0:Nat))] ac→Code.wp Tryd.prog c_ck_sl Q ac w := by
  intro a0 hf0
  conv=>arg 2; whnf
  obtain ⟨B',n',c',e,hlen,hmax,_⟩ := id hl
  injection e with e1 e2 e3
  subst e1 e2 e3
  refine wp_loopR (fun g a' w'=>∃j m':Nat,j+g=l.length∧fmVals hole (l.take j) (d+1) m=(0,0,m')∧CS wo w' bn kd nm A n1 c1 B n2 c2 n m'∧Frm 133 [(1,.int .i64 (d:Nat)),(2,.pointer (some ⟨bn,0,none⟩)),(3,.pointer (some ⟨bo,0,none⟩)),(4,.pointer (some ⟨bw,0,none⟩)),(5,.pointer (some ⟨wo.heap.size,0,none⟩)),(7,.pointer (some ⟨wo.heap.size+1,0,none⟩)),(9,(.func (Fn.func 64) #[] #[.pointer (some ⟨wo.heap.size+1+1,0,none⟩)])),(116,.slice B n2 c2),(117,.int .i64 (n2:Nat)),(118,.int .i64 (j:Nat))] a') l.length ⟨0,m,by omega,by simp [fmVals],hs,hf0⟩ ?_
  rintro g a1 w1 ⟨j,m1,hjg,hv,hs1,h1⟩
  have hm1:m1≤200 := by have := ((fmVals_le hole (l.take j) (d+1) m hm).2 (by rw [hv])).1; rw [hv] at this; exact this
  refine wp_seq ?_
  refine ck_r30_wp (fun a2 h2=>?_) a1 h1
  refine wp_seq ?_
  by_cases hj:j<n2
  case neg =>
    refine wp_cond_false ((h2.eval (k := 119) (v := .bool (decide (j<n2))) (by simp)).trans (by rw [decide_eq_false hj])) ?_
    refine wp_exit (hX m1 a2 w1 ?_ (h2.pick [0,1,2,3,4,5,6]) hs1)
    rwa [List.take_of_length_le (by omega)] at hv
  refine wp_cond_true ((h2.eval (k := 119) (v := .bool (decide (j<n2))) (by simp)).trans (by rw [decide_eq_true hj])) ?_
  refine wp_skip ?_
  show Code.wp _ _ _ a2 w1
  have hjl:j<l.length := by omega
  obtain ⟨b,o,cs,rfl,hSb,hr,hc⟩ := Rep.Sl.at_ hl (List.getElem?_eq_getElem hjl)
  obtain ⟨Ae,n3,c3,Be,n4,c4,rfl,_,_,_,_⟩ := Fm.shape hr
  have hold := hs1.old hS
  have hlo:∀b,S b→b<w1.heap.size := fun b hb=>by have := (hS b hb).1; have := hs1.k.size; omega
  have hk1 := hold b hSb
  have e0:w1.cell? ⟨b,o+j * 4,none⟩=_ := (cell_keep hk1 _).trans (hc 0 _ rfl)
  have e1:w1.cell? ⟨b,o+j * 4+1,none⟩=_ := (cell_keep hk1 _).trans (hc 1 _ rfl)
  have e2:w1.cell? ⟨b,o+j * 4+2,none⟩=_ := (cell_keep hk1 _).trans (hc 2 _ rfl)
  have e3:w1.cell? ⟨b,o+j * 4+3,none⟩=_ := (cell_keep hk1 _).trans (hc 3 _ rfl)
  refine wp_seq ?_
  refine wp_block ?_
  refine wp_seq ?_
  refine ck_r31_wp hj e0 e1 e2 e3 (hlo b hSb) (fun a3 h3=>?_) a2 (h2.pick [0,1,2,3,4,5,6,7,8,9])
  have hs3 := hs1.below ((Below.refl _ w1).alloc (Nat.le_refl _) (.cells #[.int .i64 l[j].lab.kind,.string l[j].lab.nm,.slice Ae n3 c3,.slice Be n4 c4] 29))
  have hge := heap_alloc_new w1 (.cells #[.int .i64 l[j].lab.kind,.string l[j].lab.nm,.slice Ae n3 c3,.slice Be n4 c4] 29)
  have hlw := lt_heap hf
  have hlo2 := lt_heap ho
  have hf3 := (hs3.k.block bw hlw (fun e=>hne e.symm)).trans hf
  have ho3 := (hs3.k.block bo hlo2 (fun e=>hno e.symm)).trans ho
  have hcall := ih l[j] _ _ m1 (List.getElem_mem hjl) (fmRep.keep hr (fun b hb=>hs3.old hS b hb) (fun _ h=>h)) (fun b hb=>⟨by have := hlo b hb; simp; omega,(hS b hb).2⟩) hs3.c ho3 hf3 hm1
  refine wp_seq ?_
  refine ck_r32_wp hs3 hd hf3 hge hcall (fun gf a4 w4 h4 hs4 hgf=>?_) a3 h3
  have htk := fmVals_take hole l j hjl (d+1) m (by rw [hv])
  rw [hv] at htk
  simp only at htk
  rw [fmVals_one _ _ _ _ hm1] at htk
  refine wp_seq ?_
  refine ck_r33_wp hgf (fun a5 h5=>?_) a4 h4
  by_cases hcz:(fmVal hole l[j] (d+1) m1).1≠0
  · refine wp_cond_true ((h5.eval (k := 129) (v := .bool (decide ((fmVal hole l[j] (d+1) m1).1≠0))) (by simp)).trans (by rw [decide_eq_true hcz])) ?_
    refine wp_seq ?_
    refine ck_r34_wp hs4 hgf (fun a6 w6 h6 hd6=>?_) a5 (h5.pick [5,10])
    refine wp_ret ?_
    refine hR _ _ _ hcz ?_ a6 w6 h6 hd6
    rw [fmVals_bad hole l (j+1) (d+1) m (by rw [htk]; exact hcz),htk]
  · refine wp_cond_false ((h5.eval (k := 129) (v := .bool (decide ((fmVal hole l[j] (d+1) m1).1≠0))) (by simp)).trans (by rw [decide_eq_false hcz])) ?_
    refine wp_skip ?_
    show Code.wp _ _ _ a5 w4
    refine ck_r35_wp hj (by omega) (fun a6 h6=>?_) a5 (h5.pick [0,1,2,3,4,5,6,7,8,9])
    have hz:(fmVal hole l[j] (d+1) m1).1=0 := Decidable.not_not.1 hcz
    refine ⟨g - 1,by omega,j+1,_,by omega,?_,hs4,h6⟩
    rw [htk]
    have := ((fmVal_le hole l[j] (d+1) m1 hm1).2 hz).2
    exact Prod.ext hz (Prod.ext this rfl)
def c_ck_p9 := sp 99 255 cF63
def c_ck_p16 := sp 99 2047 cF63
def c_ck_p23 := sp 99 8191 cF63
theorem fmVal_any (hole:Bool):∀(N:Nat) (t:Fm) (cs:List Value) (w:World) (S:Nat→Prop) (bn bo bw d n:Nat),t.nodes≤N→fmRep.R w S t cs→(∀b,S b→b<w.heap.size∧b≠bn) →
    w.heap[bn]? = some (.cells #[.int .i64 n] 3 (0,0))→w.heap[bo]? = some (.cells #[.bool hole] 4 (0,0))→w.heap[bw]? = some (.cells #[.func (Fn.func 63) #[] #[.pointer (some ⟨bn,0,none⟩),.pointer (some ⟨bo,0,none⟩),.pointer (some ⟨bw,0,none⟩)]] 104 (0,0))→bn≠bw→bn≠bo→d≤41→n≤200 →
    Calls Tryd.prog 63 #[.agg cs.toArray,.int .i64 (d:Nat),.pointer (some ⟨bn,0,none⟩),.pointer (some ⟨bo,0,none⟩),.pointer (some ⟨bw,0,none⟩)] w (fun e w'=>e=.returned (.agg #[.int .i64 ((fmVal hole t d n).1:Nat),.int .i64 ((fmVal hole t d n).2.1:Nat)])∧w'.heap[bn]? = some (.cells #[.int .i64 ((fmVal hole t d n).2.2:Nat)] 3 (0,0))∧Keeps (·=bn) w w') := by
  intro N
  induction N with
  | zero=>intro t; have := t.nodes_pos; intros; omega
  | succ N ih =>
  intro t cs w S bn bo bw d n hN ht hS hb ho hf hne hno hd hn
  obtain ⟨⟨kd,nm,ws⟩,l⟩ := t
  obtain ⟨u,v,rfl,hnm,hw,hl⟩ := Fm.open_ ht
  simp only at hw hnm
  obtain ⟨A,n1,c1,rfl,e1,hm1,_⟩ := id hw
  obtain ⟨B,n2,c2,rfl,e2,hm2,_⟩ := id hl
  have hfin:∀(c at_ m':Nat) (a':Act) (w':World),fmVal hole (.mk ⟨kd,nm,ws⟩ l) d n=(c,at_,m')→Frm 133 [(7,.pointer (some ⟨w.heap.size+1,0,none⟩))] a'→CD w w' bn m' (.int .i64 (c:Nat)) (.int .i64 (at_:Nat))→bodyPost Tryd.prog Tryd.f63 (fun e w'=>e=.returned (.agg #[.int .i64 ((fmVal hole (.mk ⟨kd,nm,ws⟩ l) d n).1:Nat),.int .i64 ((fmVal hole (.mk ⟨kd,nm,ws⟩ l) d n).2.1:Nat)])∧w'.heap[bn]? = some (.cells #[.int .i64 ((fmVal hole (.mk ⟨kd,nm,ws⟩ l) d n).2.2:Nat)] 3 (0,0))∧Keeps (·=bn) w w') .ret a' w' := by
    intro c at_ m' a' w' e h hd'
    rw [e]
    exact ck_ret_wp hd'.r ⟨rfl,hd'.c,hd'.k⟩ a' h
  clear ht
  go_enter Tryd.func63,Tryd.ntmps63
  have hbl := lt_heap hb
  refine wp_seq ?_
  refine ck_r0_wp (fun a0 h0=>?_) _ (by exact fR rfl rfl rfl)
  refine wp_seq ?_
  have hb1:((w.alloc (.cells #[.int .i64 kd,.string nm,.slice A n1 c1,.slice B n2 c2] 29)).alloc (.cells #[.int .i64 0,.int .i64 0] 32)).heap[bn]? = some (.cells #[.int .i64 n] 3 (0,0)) := heap_old (by simp; omega) (heap_old hbl hb)
  refine ck_r1_wp hb1 (fun a1 h1=>?_) a0 h0
  rw [show ((w.alloc (.cells #[.int .i64 kd,.string nm,.slice A n1 c1,.slice B n2 c2] 29)).alloc (.cells #[.int .i64 0,.int .i64 0] 32)).heap.size=w.heap.size+1+1 from by simp] at h1
  refine wp_seq ?_
  refine ck_r2_wp hn (heap_old (by simp; omega) hb1) (fun a2 h2=>?_) a1 h1
  refine gen_last (fun wx=>CS w wx bn kd nm A n1 c1 B n2 c2 n (n+1)) (CS.start hb) ?_
  intro w3 hs
  refine wp_seq ?_
  refine ck_r3_wp (fun a3 h3=>?_) a2 h2
  refine wp_seq ?_
  refine wp_seq ?_
  refine ck_r4_wp hs (fun a4 h4=>?_) a3 h3
  by_cases hlim:200<n+1∨40<d
  · refine wp_cond_true ((h4.eval (k := 27) (v := .bool (decide (200<n+1∨40<d))) (by simp)).trans (by rw [decide_eq_true hlim])) ?_
    refine wp_seq ?_
    refine ck_r5_wp hs (fun a' w' h' hd'=>?_) a4 (h4.pick [0,1,2,3,4,5,6])
    refine wp_ret ?_
    exact hfin 1 n (n+1) a' w' (by unfold fmVal; rw [if_pos hlim]) h' hd'
  refine wp_cond_false ((h4.eval (k := 27) (v := .bool (decide (200<n+1∨40<d))) (by simp)).trans (by rw [decide_eq_false hlim])) ?_
  refine wp_skip ?_
  show Code.wp _ _ _ a4 w3
  have hcode:∀c:Nat,c≠0→FmL.code hole ⟨kd,nm,ws⟩ l.length=c→fmVal hole (.mk ⟨kd,nm,ws⟩ l) d n=(c,n,n+1) := by
    intro c h0 hc
    unfold fmVal
    rw [if_neg hlim,hc,if_neg h0]
  have hrest:FmL.code hole ⟨kd,nm,ws⟩ l.length=0→fmVal hole (.mk ⟨kd,nm,ws⟩ l) d n=fmVals hole l (d+1) (n+1) := by
    intro hc
    conv=>lhs; unfold fmVal
    rw [if_neg hlim,if_pos hc]
  have p23:∀(a5:Act) (w5:World),CS w w5 bn kd nm A n1 c1 B n2 c2 n (n+1)→(ws.all okName=false→FmL.code hole ⟨kd,nm,ws⟩ l.length=10)→(ws.all okName=true→FmL.code hole ⟨kd,nm,ws⟩ l.length=0)→Frm 133 [(1,.int .i64 (d:Nat)),(2,.pointer (some ⟨bn,0,none⟩)),(3,.pointer (some ⟨bo,0,none⟩)),(4,.pointer (some ⟨bw,0,none⟩)),(5,.pointer (some ⟨w.heap.size,0,none⟩)),(7,.pointer (some ⟨w.heap.size+1,0,none⟩)),(9,(.func (Fn.func 64) #[] #[.pointer (some ⟨w.heap.size+1+1,0,none⟩)]))] a5→Code.wp Tryd.prog c_ck_p23 (bodyPost Tryd.prog Tryd.f63 (fun e w'=>e=.returned (.agg #[.int .i64 ((fmVal hole (.mk ⟨kd,nm,ws⟩ l) d n).1:Nat),.int .i64 ((fmVal hole (.mk ⟨kd,nm,ws⟩ l) d n).2.1:Nat)])∧w'.heap[bn]? = some (.cells #[.int .i64 ((fmVal hole (.mk ⟨kd,nm,ws⟩ l) d n).2.2:Nat)] 3 (0,0))∧Keeps (·=bn) w w')) a5 w5 := by
    intro a5 w5 hs hc1 hc0 h5
    conv=>arg 2; whnf
    refine wp_seq ?_
    refine wp_seq ?_
    refine ck_r23_wp hs (fun a6 h6=>?_) a5 h5
    refine wp_block ?_
    refine ck_wl_wp hs (S := S) (fun b hb=>by have := (hS b hb).1; have := hs.k.size; omega) (hw.keep (hs.old hS) (fun _ h=>h)) (fun hall a7 h7=>?_) (fun hall a7 w7 h7 hd7=>?_) a6 h6
    case refine_2=>exact hfin 10 n (n+1) a7 w7 (hcode 10 (by decide) (hc1 hall)) h7 hd7
    refine inBlock_exit ?_
    show Code.wp _ _ _ a7 w5
    refine wp_seq ?_
    refine wp_seq ?_
    refine ck_r29_wp hs (fun a8 h8=>?_) a7 h7
    refine wp_block ?_
    refine ck_sl_wp (by omega) (by omega) hs hS hl ho hf hne hno (fun t cs W n' htl hr hS' hb' ho' hf' hn'=>?_) (fun m' a9 w9 e h9 hs9=>?_) (fun c at_ m' hc e a9 w9 h9 hd9=>?_) a8 h8
    · have hnd:t.nodes≤N := by
        obtain ⟨j,hj,rfl⟩ := List.getElem_of_mem htl
        have := Tree.nodes_at l j hj
        simp [Tree.nodes] at hN
        omega
      exact ih t cs W S bn bo bw (d+1) n' hnd hr hS' hb' ho' hf' hne hno (by omega) hn'
    · refine inBlock_exit ?_
      show Code.wp _ _ _ a9 w9
      refine wp_seq ?_
      refine ck_r36_wp hs9 (fun a10 w10 h10 hd10=>?_) a9 h9
      refine wp_ret ?_
      exact hfin 0 0 m' a10 w10 (by rw [hrest (hc0 hall),e]) h10 hd10
    · exact hfin c at_ m' a9 w9 (by rw [hrest (hc0 hall),e]) h9 hd9
  refine wp_seq ?_
  refine ck_r6_wp hs (fun a5 h5=>?_) a4 (h4.pick [0,1,2,3,4,5,6])
  have p16:∀(a5:Act) (k:Nat),subsF hole kd=some k→Frm 133 [(1,.int .i64 (d:Nat)),(2,.pointer (some ⟨bn,0,none⟩)),(3,.pointer (some ⟨bo,0,none⟩)),(4,.pointer (some ⟨bw,0,none⟩)),(5,.pointer (some ⟨w.heap.size,0,none⟩)),(7,.pointer (some ⟨w.heap.size+1,0,none⟩)),(9,(.func (Fn.func 64) #[] #[.pointer (some ⟨w.heap.size+1+1,0,none⟩)])),(10,.int .i64 (k:Nat)),(11,.bool (wordsOk kd n1))] a5→Code.wp Tryd.prog c_ck_p16 (bodyPost Tryd.prog Tryd.f63 (fun e w'=>e=.returned (.agg #[.int .i64 ((fmVal hole (.mk ⟨kd,nm,ws⟩ l) d n).1:Nat),.int .i64 ((fmVal hole (.mk ⟨kd,nm,ws⟩ l) d n).2.1:Nat)])∧w'.heap[bn]? = some (.cells #[.int .i64 ((fmVal hole (.mk ⟨kd,nm,ws⟩ l) d n).2.2:Nat)] 3 (0,0))∧Keeps (·=bn) w w')) a5 w3 := by
    intro a5 k hk h5
    conv=>arg 2; whnf
    refine wp_seq ?_
    refine wp_seq ?_
    refine ck_r16_wp hs (fun a6 h6=>?_) a5 h5
    cases hc9:(decide ((n2:Int)≠(k:Int)) || !wordsOk kd n1)
    case true =>
      refine wp_cond_true ((h6.eval (k := 69) (v := .bool (decide ((n2:Int)≠(k:Int)) || !wordsOk kd n1)) (by simp)).trans (by rw [hc9])) ?_
      refine wp_seq ?_
      refine ck_r17_wp hs (fun a' w' h' hd'=>?_) a6 (h6.pick [0,1,2,3,4,5,6])
      refine wp_ret ?_
      exact hfin 9 n (n+1) a' w' (hcode 9 (by decide) (by unfold FmL.code; simp only; rw [hk]; simp only; rw [if_pos]; simp only [Bool.or_eq_true,decide_eq_true_eq,Bool.not_eq_true'] at hc9; rcases hc9 with h | h; exact Or.inl (by omega); exact Or.inr (by rw [e1]; exact h))) h' hd'
    refine wp_cond_false ((h6.eval (k := 69) (v := .bool (decide ((n2:Int)≠(k:Int)) || !wordsOk kd n1)) (by simp)).trans (by rw [hc9])) ?_
    refine wp_skip ?_
    show Code.wp _ _ _ a6 w3
    simp only [Bool.or_eq_false_iff,decide_eq_false_iff_not,Decidable.not_not,Bool.not_eq_false'] at hc9
    obtain ⟨hn2,hwk⟩ := hc9
    have hcd:FmL.code hole ⟨kd,nm,ws⟩ l.length=if namedF kd=true∧okName nm=false then 10 else if namedF kd=false∧nm≠bNilF then 5 else if ws.all okName=true then 0 else 10 := by
      unfold FmL.code
      simp only
      rw [hk]
      simp only
      rw [if_neg]
      rintro (h | h)
      · omega
      · rw [e1,hwk] at h; cases h
    refine wp_seq ?_
    refine wp_seq ?_
    refine ck_r18_wp hs (fun a7 w7 h7 hs7=>?_) a6 (h6.pick [0,1,2,3,4,5,6])
    refine wp_seq ?_
    refine ck_r19_wp hnm hs7 (fun a8 h8=>?_) a7 h7
    cases h10:(namedF kd && !okName nm)
    case true =>
      refine wp_cond_true ((h8.eval (k := 90) (v := .bool (namedF kd && !okName nm)) (by simp)).trans (by rw [h10])) ?_
      have hs := hs7
      refine wp_seq ?_
      refine ck_r20_wp hs (fun a' w' h' hd'=>?_) a8 (h8.pick [0,1,2,3,4,5,6])
      refine wp_ret ?_
      exact hfin 10 n (n+1) a' w' (hcode 10 (by decide) (by rw [hcd,if_pos]; simpa using h10)) h' hd'
    refine wp_cond_false ((h8.eval (k := 90) (v := .bool (namedF kd && !okName nm)) (by simp)).trans (by rw [h10])) ?_
    refine wp_seq ?_
    refine ck_r21_wp hs7 (fun a9 h9=>?_) a8 (h8.pick [0,1,2,3,4,5,6,7])
    have hno10:¬ (namedF kd=true∧okName nm=false) := by
      rintro ⟨h1,h2⟩
      rw [h1,h2] at h10
      cases h10
    rw [if_neg hno10] at hcd
    cases h5':(!namedF kd && decide (nm≠bNilF))
    case true =>
      refine wp_cond_true ((h9.eval (k := 99) (v := .bool (!namedF kd && decide (nm≠bNilF))) (by simp)).trans (by rw [h5'])) ?_
      have hs := hs7
      refine wp_seq ?_
      refine ck_r22_wp hs (fun a' w' h' hd'=>?_) a9 (h9.pick [0,1,2,3,4,5,6])
      refine wp_ret ?_
      exact hfin 5 n (n+1) a' w' (hcode 5 (by decide) (by rw [hcd,if_pos]; simpa using h5')) h' hd'
    refine wp_cond_false ((h9.eval (k := 99) (v := .bool (!namedF kd && decide (nm≠bNilF))) (by simp)).trans (by rw [h5'])) ?_
    refine wp_skip ?_
    have hno5:¬ (namedF kd=false∧nm≠bNilF) := by
      rintro ⟨h1,h2⟩
      rw [h1,decide_eq_true h2] at h5'
      cases h5'
    rw [if_neg hno5] at hcd
    exact p23 a9 w7 hs7 (fun h=>by rw [hcd,if_neg (by rw [h]; decide)]) (fun h=>by rw [hcd,if_pos h]) (h9.pick [0,1,2,3,4,5,6])
  have p9:∀(a5:Act),Frm 133 [(1,.int .i64 (d:Nat)),(2,.pointer (some ⟨bn,0,none⟩)),(3,.pointer (some ⟨bo,0,none⟩)),(4,.pointer (some ⟨bw,0,none⟩)),(5,.pointer (some ⟨w.heap.size,0,none⟩)),(7,.pointer (some ⟨w.heap.size+1,0,none⟩)),(9,(.func (Fn.func 64) #[] #[.pointer (some ⟨w.heap.size+1+1,0,none⟩)])),(10,.int .i64 (subsI hole kd))] a5→Code.wp Tryd.prog c_ck_p9 (bodyPost Tryd.prog Tryd.f63 (fun e w'=>e=.returned (.agg #[.int .i64 ((fmVal hole (.mk ⟨kd,nm,ws⟩ l) d n).1:Nat),.int .i64 ((fmVal hole (.mk ⟨kd,nm,ws⟩ l) d n).2.1:Nat)])∧w'.heap[bn]? = some (.cells #[.int .i64 ((fmVal hole (.mk ⟨kd,nm,ws⟩ l) d n).2.2:Nat)] 3 (0,0))∧Keeps (·=bn) w w')) a5 w3 := by
    intro a5 h5
    conv=>arg 2; whnf
    refine wp_seq ?_
    refine wp_seq ?_
    refine ck_r9_wp (fun a6 h6=>?_) a5 h5
    cases hk:subsF hole kd with
    | none =>
      have hq:subsI hole kd = -1 := by unfold subsI; rw [hk]
      rw [hq] at h6
      refine wp_cond_true ((h6.eval (k := 40) (v := .bool (decide ((-1:Int)<0))) (by simp)).trans (by rw [decide_eq_true (by decide)])) ?_
      refine wp_seq ?_
      refine ck_r10_wp hs (fun a' w' h' hd'=>?_) a6 (h6.pick [0,1,2,3,4,5,6])
      refine wp_ret ?_
      exact hfin 4 n (n+1) a' w' (hcode 4 (by decide) (by unfold FmL.code; simp only; rw [hk])) h' hd'
    | some k =>
      have hq:subsI hole kd=(k:Int) := by unfold subsI; rw [hk]
      rw [hq] at h6
      refine wp_cond_false ((h6.eval (k := 40) (v := .bool (decide ((k:Int)<0))) (by simp)).trans (by rw [decide_eq_false (by omega)])) ?_
      refine wp_skip ?_
      show Code.wp _ _ _ a6 w3
      refine wp_seq ?_
      refine ck_r11_wp hs (fun a7 h7=>?_) a6 (h6.pick [0,1,2,3,4,5,6,7])
      refine wp_seq ?_
      refine wp_seq ?_
      refine ck_r12_wp hs (fun a8 h8=>?_) a7 h7
      by_cases hk2:kd=2
      · refine wp_cond_true ((h8.eval (k := 49) (v := .bool (decide (kd=2))) (by simp)).trans (by rw [decide_eq_true hk2])) ?_
        refine ck_r13_wp hs (fun a9 h9=>?_) a8 (h8.pick [0,1,2,3,4,5,6,7,8])
        refine p16 a9 k hk ?_
        rw [show wordsOk kd n1=decide (n1≤3) from by unfold wordsOk; rw [if_pos hk2]]
        exact h9
      refine wp_cond_false ((h8.eval (k := 49) (v := .bool (decide (kd=2))) (by simp)).trans (by rw [decide_eq_false hk2])) ?_
      refine wp_seq ?_
      refine ck_r14_wp hs (fun a9 h9=>?_) a8 (h8.pick [0,1,2,3,4,5,6,7,8])
      by_cases hk3:kd=3
      · refine wp_cond_true ((h9.eval (k := 56) (v := .bool (decide (kd=3))) (by simp)).trans (by rw [decide_eq_true hk3])) ?_
        refine ck_r15_wp hs (fun a10 h10=>?_) a9 (h9.pick [0,1,2,3,4,5,6,7,8])
        refine p16 a10 k hk ?_
        rw [show wordsOk kd n1=decide (n1=2) from by unfold wordsOk; rw [if_neg hk2,if_pos hk3]]
        exact h10
      refine wp_cond_false ((h9.eval (k := 56) (v := .bool (decide (kd=3))) (by simp)).trans (by rw [decide_eq_false hk3])) ?_
      refine wp_skip ?_
      refine p16 a9 k hk ?_
      rw [show wordsOk kd n1=decide (n1=0) from by unfold wordsOk; rw [if_neg hk2,if_neg hk3]]
      exact (h9.pick [0,1,2,3,4,5,6,7,8])
  refine wp_seq ?_
  refine wp_seq ?_
  refine ck_r7_wp hs ((hs.k.block bo (lt_heap ho) (fun e=>hno e.symm)).trans ho) (fun a6 h6=>?_) a5 h5
  cases hh:(decide (kd=10) && hole)
  case true =>
    refine wp_cond_true ((h6.eval (k := 38) (v := .bool (decide (kd=10) && hole)) (by simp)).trans (by rw [hh])) ?_
    refine ck_r8_wp (fun a7 h7=>?_) a6 (h6.pick [0,1,2,3,4,5,6,7])
    refine p9 a7 ?_
    simp only [Bool.and_eq_true,decide_eq_true_eq] at hh
    obtain ⟨rfl,rfl⟩ := hh
    exact h7
  refine wp_cond_false ((h6.eval (k := 38) (v := .bool (decide (kd=10) && hole)) (by simp)).trans (by rw [hh])) ?_
  refine wp_skip ?_
  refine p9 a6 ?_
  have hq:subsI hole kd=subsI false kd := by
    unfold subsI subsF
    cases hole
    · rfl
    · have hk:kd≠10 := by rintro rfl; cases hh
      simp [hk]
  rw [hq]
  exact (h6.pick [0,1,2,3,4,5,6,7])
theorem check_any (hole:Bool) (t:Fm) (cs:List Value) (w:World) (S:Nat→Prop) (ht:fmRep.R w S t cs) (hS:∀b,S b→b<w.heap.size) :
    Calls Tryd.prog 48 #[.agg cs.toArray,.bool hole] w fun e w'=>e=.returned (.agg #[.int .i64 ((fmVal hole t 1 0).1:Nat),.int .i64 ((fmVal hole t 1 0).2.1:Nat)])∧Below w.heap.size w w' := by
  obtain ⟨A,n1,c1,B,n2,c2,rfl,_,_,_,_⟩ := Fm.shape ht
  obtain ⟨kd,hkd⟩:∃k,t.lab.kind=k := ⟨_,rfl⟩
  obtain ⟨nm,hnm⟩:∃k,t.lab.nm=k := ⟨_,rfl⟩
  rw [hkd,hnm] at ht ⊢
  have hv:∀W:World,W.heap.size=w.heap.size+1+1+1+1+1→(∀b,b<w.heap.size→W.heap[b]? = w.heap[b]?)→W.heap[w.heap.size+1]? = some (.cells #[.bool hole] 4 (0,0))→W.heap[w.heap.size+1+1+1]? = some (.cells #[.int .i64 0] 3 (0,0))→W.heap[w.heap.size+1+1+1+1]? = some (.cells #[.func (Fn.func 63) #[] #[.pointer (some ⟨w.heap.size+1+1+1,0,none⟩),.pointer (some ⟨w.heap.size+1,0,none⟩),.pointer (some ⟨w.heap.size+1+1+1+1,0,none⟩)]] 104 (0,0)) →
      Calls Tryd.prog 63 #[.agg #[.int .i64 kd,.string nm,.slice A n1 c1,.slice B n2 c2],.int .i64 1,.pointer (some ⟨w.heap.size+1+1+1,0,none⟩),.pointer (some ⟨w.heap.size+1,0,none⟩),.pointer (some ⟨w.heap.size+1+1+1+1,0,none⟩)] W fun e w'=>e=.returned (.agg #[.int .i64 ((fmVal hole t 1 0).1:Nat),.int .i64 ((fmVal hole t 1 0).2.1:Nat)])∧w'.heap[w.heap.size+1+1+1]? = some (.cells #[.int .i64 ((fmVal hole t 1 0).2.2:Nat)] 3 (0,0))∧Keeps (·=w.heap.size+1+1+1) W w' :=
    fun W hz hk h1 h3 h4=>fmVal_any hole t.nodes t [.int .i64 kd,.string nm,.slice A n1 c1,.slice B n2 c2] W S (w.heap.size+1+1+1) (w.heap.size+1) (w.heap.size+1+1+1+1) 1 0 (Nat.le_refl _) (fmRep.keep ht (fun b hb=>hk b (hS b hb)) (fun _ h=>h)) (fun b hb=>⟨by have := hS b hb; omega,by have := hS b hb; omega⟩) h3 h1 h4 (by omega) (by omega) (by omega) (by omega)
  clear ht hkd hnm
  have HV := Lib.hid hv
  have HS := Lib.hid hS
  clear hv hS
  go_enter Tryd.func48,Tryd.ntmps48
  go_wp2_with fail
  (with_reducible refine (HV.out _ ?hz ?hk ?h1 ?h3 ?h4).mono ?_)
  case hz=>simp
  case hk=>exact fun b hb=>heap_old (by first | (simp; done) | (simp; omega)) (heap_old (by first | (simp; done) | (simp; omega)) (heap_old (by first | (simp; done) | (simp; omega)) (heap_old (by first | (simp; done) | (simp; omega)) (heap_old hb rfl))))
  case h1=>exact heap_old (by first | (simp; done) | (simp; omega)) (heap_old (by first | (simp; done) | (simp; omega)) (heap_old (by first | (simp; done) | (simp; omega)) (heap_at (by simp))))
  case h3=>exact heap_old (by first | (simp; done) | (simp; omega)) (heap_at (by simp))
  case h4=>exact heap_at (by simp)
  rintro e w1 ⟨rfl,_,hk1⟩
  have h2 := (hk1.block (w.heap.size+1+1) (by first | (simp; done) | (simp; omega)) (by omega)).trans (heap_old (by first | (simp; done) | (simp; omega)) (heap_old (by first | (simp; done) | (simp; omega)) (heap_at (by simp))))
  have hb:Below w.heap.size w w1 := (show Below w.heap.size w _ by go_grown).trans (hk1.below (B := w.heap.size) (by rintro k rfl; omega) (by first | (simp; done) | (simp; omega)))
  clear hk1
  have HB := Lib.hid hb
  clear hb
  have h2_0 := cv0 h2
  have h2_1 := cv1 h2
  have h2_f0 := free_heap h2 0
  have h2_f1 := free_heap h2 1
  have h2_l := lt_heap h2
  have H2 := Lib.hid h2
  clear h2
  go_wp2_with fail
  refine bodyPost_ret (v := .agg #[.int .i64 ((fmVal hole t 1 0).1:Nat),.int .i64 ((fmVal hole t 1 0).2.1:Nat)]) (by simp [results,Tryd.results48,go_sem,h2_0,h2_1,h2_l]) rfl ?_
  exact ⟨rfl,below2 HB.out (by omega)⟩
def fmFault (t:Fm):Nat × Nat := ((fmVal false t 1 0).1,(fmVal false t 1 0).2.1)
theorem validateFm_any (t:Fm) (cs:List Value) (w:World) (S:Nat→Prop) (ht:fmRep.R w S t cs) (hS:∀b,S b→b<w.heap.size) :
    Calls Tryd.prog 29 #[.agg cs.toArray] w fun e w'=>e=.returned (.agg #[.int .i64 ((fmFault t).1:Nat),.int .i64 ((fmFault t).2:Nat)])∧Below w.heap.size w w' := by
  obtain ⟨A,n1,c1,B,n2,c2,rfl,_,_,_,_⟩ := Fm.shape ht
  have hv := fun (o p:Obj)=>Lib.hid (check_any false t _ ((w.alloc o).alloc p) S (fmRep.keep ht (fun b hb=>heap_old (by have := hS b hb; simp; omega) (heap_old (hS b hb) rfl)) (fun _ h=>h)) (fun b hb=>by have := hS b hb; simp; omega))
  clear ht
  have HV := Lib.hid hv
  have HS := Lib.hid hS
  clear hv hS
  unfold fmFault
  go_enter Tryd.func29,Tryd.ntmps29
  go_wp2_with fail
  (with_reducible refine (HV.out _ _).out.mono ?_)
  rintro e w1 ⟨rfl,hb1⟩
  have h2 := (hb1.block (w.heap.size+1) (by simp)).trans (heap_at (by simp))
  have hb:Below w.heap.size w w1 := (show Below w.heap.size w _ by go_grown).trans (hb1.mono (by first | (simp; done) | (simp; omega)))
  clear hb1
  have HB := Lib.hid hb
  clear hb
  have h2_0 := cv0 h2
  have h2_1 := cv1 h2
  have h2_f0 := free_heap h2 0
  have h2_f1 := free_heap h2 1
  have h2_l := lt_heap h2
  have H2 := Lib.hid h2
  clear h2
  go_wp2_with fail
  refine bodyPost_ret (v := .agg #[.int .i64 ((fmVal false t 1 0).1:Nat),.int .i64 ((fmVal false t 1 0).2.1:Nat)]) (by simp [results,Tryd.results29,go_sem,h2_0,h2_1,h2_l]) rfl ?_
  exact ⟨rfl,below2 HB.out (by omega)⟩
end

end Go.Proofs.YthfokmjpbnfihaaDoor
