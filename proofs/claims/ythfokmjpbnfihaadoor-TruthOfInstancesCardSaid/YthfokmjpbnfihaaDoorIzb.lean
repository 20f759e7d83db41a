/- Lemmas. -/
import Derived.Test.YthfokmjpbnfihaaDoorIza
namespace Go.Proofs.YthfokmjpbnfihaaDoor
open Go Go.RowKit
set_option linter.unusedSimpArgs false
set_option linter.unusedVariables false
noncomputable section
set_option maxRecDepth 1000000
set_option maxHeartbeats 16000000
variable {bu n1 c1 n2 c2 g i mu eu me ee j bp bk:Nat} {l:List ByteArray} {wo w w':World} {kd:Int} {nm p q s:ByteArray} {A B De:Option Addr} {s_1 s_4 s_2 s_5 s_14 s_15 s_7 s_16 s_20 s_21 s_22:Value} {Q:Exit→Act→World→Prop}

theorem frame_ca {P:Act→Prop} (h:∀x0 x1 x2 x3 x4 x5 x6 x7 x8 x9 x10 x11 x12 x13 x14 x15 x16 x17 x18 x19 x20 x21 x22 x23 x24 x25 x26 x27 x28 x29 x30 x31 x32 x33 x34 x35 x36 x37 x38 x39 x40 x41 x42:Value,P ⟨(x0 :: x1 :: x2 :: x3 :: x4 :: x5 :: x6 :: x7 :: x8 :: x9 :: x10 :: x11 :: x12 :: x13 :: x14 :: x15 :: x16 :: x17 :: x18 :: x19 :: x20 :: x21 :: x22 :: x23 :: x24 :: x25 :: x26 :: x27 :: x28 :: x29 :: x30 :: x31 :: x32 :: x33 :: x34 :: x35 :: x36 :: x37 :: x38 :: x39 :: x40 :: x41 :: x42 :: []).toArray,[]⟩):∀a:Act,a.tmps.toList.length=43→a.defers=[]→P a := by
  rintro ⟨⟨l⟩,d⟩ hs hd
  simp only at hd
  subst hd
  revert l
  show ∀l:List Value,l.length=43→P ⟨⟨l⟩,[]⟩
  iterate 43 refine openS (fun _=>?_)
  refine open0 ?_
  exact h ..
structure US (wo w:World) (bu:Nat) (v:Value) (l:List ByteArray) (kd:Int) (nm:ByteArray) (A:Option Addr) (n1 c1:Nat) (B:Option Addr) (n2 c2:Nat):Prop where
  a:w.heap[wo.heap.size]? = some (.cells #[.int .i64 kd,.string nm,.slice A n1 c1,.slice B n2 c2] 29 (0,0))
  z:w.heap[wo.heap.size+1]? = some (.cells #[.int .i64 0,.string ⟨#[]⟩,.slice none 0 0,.slice none 0 0] 29 (0,0))
  u:w.heap[bu]? = some (.cells #[v] 26 (0,0))
  r:w.ownsRow (wo.heap.size+2) 9 1 v l.length (l.map .string)
  ne:v.ownBlock≠some bu
  b:Below wo.heap.size wo w
  lo:wo.heap.size+2≤bu
theorem US.below {v:Value} (h:US wo w bu v l kd nm A n1 c1 B n2 c2) (hb:Below w.heap.size w w'):US wo w' bu v l kd nm A n1 c1 B n2 c2 := by
  have h0 := lt_heap h.a
  have h1 := lt_heap h.z
  have h2 := lt_heap h.u
  exact ⟨(hb.block _ h0).trans h.a,(hb.block _ h1).trans h.z,(hb.block _ h2).trans h.u,rowGrownF h.r (fun b hlt _=>hb.block b hlt),h.ne,h.b.trans (hb.mono (by have := h.b.size; omega)),h.lo⟩
theorem row_set {base n cap:Nat} {E:TypeId} {xs:List Value} {x:Value} (h:w.ownsRow base E 1 (.slice (some ⟨g,0,none⟩) n cap) n xs):(w.setCell ⟨g,i,none⟩ x).ownsRow base E 1 (.slice (some ⟨g,0,none⟩) n cap) n (xs.set i x) := by
  obtain ⟨h3,h4⟩ := h
  refine ⟨by rw [List.length_set]; exact h3,?_⟩
  rcases h4 with ⟨h4,_⟩ | ⟨g',cap',cur,e,hb,hh,h5,h6,h7,h8⟩
  · cases h4
  · cases e
    exact Or.inr ⟨g,cap,cur.setIfInBounds i x,rfl,hb,heap_set hh _ _,h5,h6,by rw [Array.size_setIfInBounds]; exact h7,by rw [Array.toList_setIfInBounds,List.take_set,h8]⟩
theorem US.put (h:US wo w bu (.slice (some ⟨g,0,none⟩) mu eu) l kd nm A n1 c1 B n2 c2) (hm:l.length=mu) (y:ByteArray):US wo (w.setCell ⟨g,i,none⟩ (.string y)) bu (.slice (some ⟨g,0,none⟩) mu eu) (l.set i y) kd nm A n1 c1 B n2 c2 := by
  subst hm
  have hg := (h.r.lt g rfl).1
  have hgu:bu≠g := fun e=>h.ne (by rw [e]; rfl)
  refine ⟨heap_far _ (by omega) h.a,heap_far _ (by omega) h.z,heap_far _ hgu h.u,?_,h.ne,⟨h.b.os,h.b.tape,h.b.output,by rw [size_set]; exact h.b.size,fun k hk=>(heap_far _ (by omega) rfl).trans (h.b.block k hk)⟩,h.lo⟩
  rw [List.length_set,List.map_set]
  exact row_set h.r
noncomputable def cF52:Code := Tryd.f52.body.getD .skip
def c_ca_r0 := sp 99 2 cF52
theorem ca_r0_wp (hN:∀a',Frm 43 [(1,s_1),(2,.pointer (some ⟨wo.heap.size,0,none⟩)),(4,.pointer (some ⟨wo.heap.size+1,0,none⟩))] a'→Q .normal a' ((wo.alloc (.cells #[.int .i64 kd,.string nm,.slice A n1 c1,.slice B n2 c2] 29)).alloc (.cells #[.int .i64 0,.string ⟨#[]⟩,.slice none 0 0,.slice none 0 0] 29))):∀ac,Frm 43 [(0,.agg #[.int .i64 kd,.string nm,.slice A n1 c1,.slice B n2 c2]),(1,s_1)] ac→Code.wp Tryd.prog c_ca_r0 Q ac wo := by
  refine fO (frame_ca ?_)
  intros
  rename_i hq
  iterate 2 (obtain ⟨e,hq⟩ := hq; obtain rfl := sI e; clear e)
  clear hq
  conv=>arg 2; whnf
  replace hN := Lib.hid hN
  go_wp2_with fail
  exact hN.out _ (by exact fR rfl rfl rfl)
def c_ca_r1 := sp 99 5 cF52
theorem ca_r1_wp {PV:Option Addr→Nat→Nat→World→Prop} (ha:w.heap[wo.heap.size]? = some (.cells #[.int .i64 kd,.string nm,.slice A n1 c1,.slice B n2 c2] 29 (0,0))) (hc:Calls Tryd.prog 50 #[.agg #[.int .i64 kd,.string nm,.slice A n1 c1,.slice B n2 c2]] w fun e w'=>∃Du mu eu,e=.returned (.slice Du mu eu)∧PV Du mu eu w') (hN:∀Du mu eu w1 a',Frm 43 [(1,s_1),(2,.pointer (some ⟨wo.heap.size,0,none⟩)),(4,s_4),(5,.pointer (some ⟨w1.heap.size,0,none⟩))] a'→PV Du mu eu w1→Q .normal a' (w1.alloc (.cells #[.slice Du mu eu] 26))):∀ac,Frm 43 [(1,s_1),(2,.pointer (some ⟨wo.heap.size,0,none⟩)),(4,s_4)] ac→Code.wp Tryd.prog c_ca_r1 Q ac w := by
  refine fO (frame_ca ?_)
  intros
  rename_i hq
  iterate 3 (obtain ⟨e,hq⟩ := hq; obtain rfl := sI e; clear e)
  clear hq
  conv=>arg 2; whnf
  have a0 := cellv ha 0 rfl
  have a1 := cellv ha 1 rfl
  have a2 := cellv ha 2 rfl
  have a3 := cellv ha 3 rfl
  have al := lt_heap ha
  clear ha
  have HN := Lib.hid hN
  have HC := Lib.hid hc
  clear hN hc
  go_wp2_with fail
  (with_reducible refine HC.out.mono ?_)
  rintro e w1 ⟨Du,mu,eu,rfl,hp⟩
  replace hp := Lib.hid hp
  go_wp2_with fail
  exact HN.out _ _ _ _ _ (by exact fR rfl rfl rfl) hp.out
def c_ca_r2 := sp 99 19 cF52
theorem ca_r2_wp (hN:∀a',Frm 43 [(1,.slice De me ee),(2,s_2),(4,s_4),(5,s_5),(14,.slice De me ee),(15,.int .i64 (me:Nat)),(16,.int .i64 (0:Nat))] a'→Q .normal a' w):∀ac,Frm 43 [(1,.slice De me ee),(2,s_2),(4,s_4),(5,s_5)] ac→Code.wp Tryd.prog c_ca_r2 Q ac w := by
  refine fO (frame_ca ?_)
  intros
  rename_i hq
  iterate 4 (obtain ⟨e,hq⟩ := hq; obtain rfl := sI e; clear e)
  clear hq
  conv=>arg 2; whnf
  replace hN := Lib.hid hN
  go_wp2_with fail
  exact hN.out _ (by exact fR rfl rfl rfl)
def c_ca_r3 := sp 99 139 cF52
theorem ca_r3_wp (hN:∀a',Frm 43 [(1,s_1),(2,s_2),(4,s_4),(5,s_5),(14,s_14),(15,.int .i64 (me:Nat)),(16,.int .i64 (i:Nat)),(17,.bool (decide (i<me)))] a'→Q .normal a' w):∀ac,Frm 43 [(1,s_1),(2,s_2),(4,s_4),(5,s_5),(14,s_14),(15,.int .i64 (me:Nat)),(16,.int .i64 (i:Nat))] ac→Code.wp Tryd.prog c_ca_r3 Q ac w := by
  refine fO (frame_ca ?_)
  intros
  rename_i hq
  iterate 7 (obtain ⟨e,hq⟩ := hq; obtain rfl := sI e; clear e)
  clear hq
  conv=>arg 2; whnf
  by_cases h:i<me
  · have t1:decide ((i:Int)<(me:Int))=true := by first | exact decide_eq_true (by omega) | exact beq_iff_eq.2 (by omega) | exact bne_iff_ne.2 (by omega)
    have t2:(decide (i<me))=true := decide_eq_true h
    rw [t2] at hN
    clear h
    replace hN := Lib.hid hN
    go_wp2_with fail
    exact hN.out _ (by exact fR rfl rfl rfl)
  · have t1:decide ((i:Int)<(me:Int))=false := by first | exact decide_eq_false (by omega) | exact beq_eq_false_iff_ne.2 (by omega) | exact bne_eq_false_iff_eq.2 (by omega)
    have t2:(decide (i<me))=false := decide_eq_false h
    rw [t2] at hN
    clear h
    replace hN := Lib.hid hN
    go_wp2_with fail
    exact hN.out _ (by exact fR rfl rfl rfl)
def c_ca_r4 := sp 99 2251 cF52
theorem ca_r4_wp {b o:Nat} (hi:i<me) (h0:w.cell? ⟨b,o+i * 2,none⟩=some (.string p)) (h1:w.cell? ⟨b,o+i * 2+1,none⟩=some (.string q)) (hbl:b<w.heap.size) (hN:∀a',Frm 43 [(1,s_1),(2,s_2),(4,s_4),(5,s_5),(14,.slice (some ⟨b,o,none⟩) me ee),(15,s_15),(16,.int .i64 (i:Nat)),(7,.pointer (some ⟨w.heap.size,0,none⟩))] a'→Q .normal a' (w.alloc (.cells #[.string p,.string q] 88))):∀ac,Frm 43 [(1,s_1),(2,s_2),(4,s_4),(5,s_5),(14,.slice (some ⟨b,o,none⟩) me ee),(15,s_15),(16,.int .i64 (i:Nat))] ac→Code.wp Tryd.prog c_ca_r4 Q ac w := by
  refine fO (frame_ca ?_)
  intros
  rename_i hq
  iterate 7 (obtain ⟨e,hq⟩ := hq; obtain rfl := sI e; clear e)
  clear hq
  conv=>arg 2; whnf
  have q0:(0:Int)≤(i:Int) := by omega
  have q1:(i:Int)<(me:Int) := by omega
  replace hN := Lib.hid hN
  go_wp2_with fail
  exact hN.out _ (by exact fR rfl rfl rfl)
def c_ca_r5 := sp 99 5323 cF52
theorem ca_r5_wp {Du:Option Addr} (hu:w.heap[bu]? = some (.cells #[.slice Du mu eu] 26 (0,0))) (hN:∀a',Frm 43 [(1,s_1),(2,s_2),(4,s_4),(5,.pointer (some ⟨bu,0,none⟩)),(14,s_14),(15,s_15),(16,s_16),(7,s_7),(20,.slice Du mu eu),(21,.int .i64 (mu:Nat)),(22,.int .i64 (0:Nat))] a'→Q .normal a' w):∀ac,Frm 43 [(1,s_1),(2,s_2),(4,s_4),(5,.pointer (some ⟨bu,0,none⟩)),(14,s_14),(15,s_15),(16,s_16),(7,s_7)] ac→Code.wp Tryd.prog c_ca_r5 Q ac w := by
  refine fO (frame_ca ?_)
  intros
  rename_i hq
  iterate 8 (obtain ⟨e,hq⟩ := hq; obtain rfl := sI e; clear e)
  clear hq
  conv=>arg 2; whnf
  have u0 := cellv hu 0 rfl
  have ul := lt_heap hu
  clear hu
  replace hN := Lib.hid hN
  go_wp2_with fail
  exact hN.out _ (by exact fR rfl rfl rfl)
def c_ca_r6 := sp 99 36043 cF52
theorem ca_r6_wp (hN:∀a',Frm 43 [(1,s_1),(2,s_2),(4,s_4),(5,s_5),(14,s_14),(15,s_15),(16,s_16),(7,s_7),(20,s_20),(21,.int .i64 (mu:Nat)),(22,.int .i64 (j:Nat)),(23,.bool (decide (j<mu)))] a'→Q .normal a' w):∀ac,Frm 43 [(1,s_1),(2,s_2),(4,s_4),(5,s_5),(14,s_14),(15,s_15),(16,s_16),(7,s_7),(20,s_20),(21,.int .i64 (mu:Nat)),(22,.int .i64 (j:Nat))] ac→Code.wp Tryd.prog c_ca_r6 Q ac w := by
  refine fO (frame_ca ?_)
  intros
  rename_i hq
  iterate 11 (obtain ⟨e,hq⟩ := hq; obtain rfl := sI e; clear e)
  clear hq
  conv=>arg 2; whnf
  by_cases h:j<mu
  · have t1:decide ((j:Int)<(mu:Int))=true := by first | exact decide_eq_true (by omega) | exact beq_iff_eq.2 (by omega) | exact bne_iff_ne.2 (by omega)
    have t2:(decide (j<mu))=true := decide_eq_true h
    rw [t2] at hN
    clear h
    replace hN := Lib.hid hN
    go_wp2_with fail
    exact hN.out _ (by exact fR rfl rfl rfl)
  · have t1:decide ((j:Int)<(mu:Int))=false := by first | exact decide_eq_false (by omega) | exact beq_eq_false_iff_ne.2 (by omega) | exact bne_eq_false_iff_eq.2 (by omega)
    have t2:(decide (j<mu))=false := decide_eq_false h
    rw [t2] at hN
    clear h
    replace hN := Lib.hid hN
    go_wp2_with fail
    exact hN.out _ (by exact fR rfl rfl rfl)
def c_ca_r7 := sp 99 576715 cF52
theorem ca_r7_wp (hj:j<mu) (hc:w.cell? ⟨g,j,none⟩=some (.string s)) (hbl:g<w.heap.size) (hN:∀a',Frm 43 [(1,s_1),(2,s_2),(4,s_4),(5,s_5),(14,s_14),(15,s_15),(16,s_16),(7,s_7),(20,.slice (some ⟨g,0,none⟩) mu eu),(21,s_21),(22,.int .i64 (j:Nat)),(8,.int .i64 (j:Nat)),(9,.string s)] a'→Q .normal a' w):∀ac,Frm 43 [(1,s_1),(2,s_2),(4,s_4),(5,s_5),(14,s_14),(15,s_15),(16,s_16),(7,s_7),(20,.slice (some ⟨g,0,none⟩) mu eu),(21,s_21),(22,.int .i64 (j:Nat))] ac→Code.wp Tryd.prog c_ca_r7 Q ac w := by
  refine fO (frame_ca ?_)
  intros
  rename_i hq
  iterate 11 (obtain ⟨e,hq⟩ := hq; obtain rfl := sI e; clear e)
  clear hq
  conv=>arg 2; whnf
  have q0:(0:Int)≤(j:Int) := by omega
  have q1:(j:Int)<(mu:Int) := by omega
  replace hN := Lib.hid hN
  go_wp2_with fail
  exact hN.out _ (by exact fR rfl rfl rfl)
def c_ca_r8 := sp 99 1363147 cF52
theorem ca_r8_wp {s_8:Value} (hp:w.heap[bp]? = some (.cells #[.string p,.string q] 88 (0,0))) (hN:∀a',Frm 43 [(1,s_1),(2,s_2),(4,s_4),(5,s_5),(14,s_14),(15,s_15),(16,s_16),(7,.pointer (some ⟨bp,0,none⟩)),(20,s_20),(21,s_21),(22,s_22),(8,s_8),(9,.string s),(30,.bool (decide (s=p)))] a'→Q .normal a' w):∀ac,Frm 43 [(1,s_1),(2,s_2),(4,s_4),(5,s_5),(14,s_14),(15,s_15),(16,s_16),(7,.pointer (some ⟨bp,0,none⟩)),(20,s_20),(21,s_21),(22,s_22),(8,s_8),(9,.string s)] ac→Code.wp Tryd.prog c_ca_r8 Q ac w := by
  refine fO (frame_ca ?_)
  intros
  rename_i hq
  iterate 13 (obtain ⟨e,hq⟩ := hq; obtain rfl := sI e; clear e)
  clear hq
  conv=>arg 2; whnf
  have p0 := cellv hp 0 rfl
  have pl := lt_heap hp
  clear hp
  by_cases h:s=p
  · subst h
    have t1:(s.toList == s.toList)=true := beq_self_eq_true _
    rw [show decide (s=s)=true from decide_eq_true rfl] at hN
    replace hN := Lib.hid hN
    go_wp2_with fail
    exact hN.out _ (by exact fR rfl rfl rfl)
  · have t1:(s.toList == p.toList)=false := beq_eq_false_iff_ne.2 (fun e=>h (bytes_inj e))
    rw [show decide (s=p)=false from decide_eq_false h] at hN
    replace hN := Lib.hid hN
    go_wp2_with fail
    exact hN.out _ (by exact fR rfl rfl rfl)
def c_ca_r9 := sp 99 2936011 cF52
theorem ca_r9_wp {s_9:Value} {y:ByteArray} (hj:j<mu) (hu:w.heap[bu]? = some (.cells #[.slice (some ⟨g,0,none⟩) mu eu] 26 (0,0))) (hp:w.heap[bp]? = some (.cells #[.string p,.string q] 88 (0,0))) (hc:w.cell? ⟨g,j,none⟩=some (.string y)) (hfz:w.frozen? ⟨g,j,none⟩=false) (hbl:g<w.heap.size) (hN:∀a',Frm 43 [(1,s_1),(2,s_2),(4,s_4),(5,.pointer (some ⟨bu,0,none⟩)),(14,s_14),(15,s_15),(16,s_16),(7,.pointer (some ⟨bp,0,none⟩)),(20,s_20),(21,s_21),(22,s_22)] a'→Q .normal a' (w.setCell ⟨g,j,none⟩ (.string q))):∀ac,Frm 43 [(1,s_1),(2,s_2),(4,s_4),(5,.pointer (some ⟨bu,0,none⟩)),(14,s_14),(15,s_15),(16,s_16),(7,.pointer (some ⟨bp,0,none⟩)),(20,s_20),(21,s_21),(22,s_22),(8,.int .i64 (j:Nat)),(9,s_9)] ac→Code.wp Tryd.prog c_ca_r9 Q ac w := by
  refine fO (frame_ca ?_)
  intros
  rename_i hq
  iterate 13 (obtain ⟨e,hq⟩ := hq; obtain rfl := sI e; clear e)
  clear hq
  conv=>arg 2; whnf
  have p1 := cellv hp 1 rfl
  have pl := lt_heap hp
  have u0 := cellv hu 0 rfl
  have ul := lt_heap hu
  have q0:(0:Int)≤(j:Int) := by omega
  have q1:(j:Int)<(mu:Int) := by omega
  clear hp hu
  replace hN := Lib.hid hN
  go_wp2_with fail
  exact hN.out _ (by exact fR rfl rfl rfl)
def c_ca_r10 := sp 99 249035 cF52
theorem ca_r10_wp (hj:j<mu) (hlim:mu≤maxLen) (hN:∀a',Frm 43 [(1,s_1),(2,s_2),(4,s_4),(5,s_5),(14,s_14),(15,s_15),(16,s_16),(7,s_7),(20,s_20),(21,s_21),(22,.int .i64 (j+1:Nat))] a'→Q .normal a' w):∀ac,Frm 43 [(1,s_1),(2,s_2),(4,s_4),(5,s_5),(14,s_14),(15,s_15),(16,s_16),(7,s_7),(20,s_20),(21,s_21),(22,.int .i64 (j:Nat))] ac→Code.wp Tryd.prog c_ca_r10 Q ac w := by
  refine fO (frame_ca ?_)
  intros
  rename_i hq
  iterate 11 (obtain ⟨e,hq⟩ := hq; obtain rfl := sI e; clear e)
  clear hq
  conv=>arg 2; whnf
  have hi4:(j:Int)≤9223372036854775806 := by unfold maxLen at hlim; omega
  replace hN := Lib.hid hN
  go_wp2_with fail
  exact hN.out _ (by exact fR rfl rfl rfl)
def c_ca_r11 := sp 99 971 cF52
theorem ca_r11_wp (hi:i<me) (hlim:me≤maxLen) (hN:∀a',Frm 43 [(1,s_1),(2,s_2),(4,s_4),(5,s_5),(14,s_14),(15,s_15),(16,.int .i64 (i+1:Nat))] a'→Q .normal a' w):∀ac,Frm 43 [(1,s_1),(2,s_2),(4,s_4),(5,s_5),(14,s_14),(15,s_15),(16,.int .i64 (i:Nat))] ac→Code.wp Tryd.prog c_ca_r11 Q ac w := by
  refine fO (frame_ca ?_)
  intros
  rename_i hq
  iterate 7 (obtain ⟨e,hq⟩ := hq; obtain rfl := sI e; clear e)
  clear hq
  conv=>arg 2; whnf
  have hi4:(i:Int)≤9223372036854775806 := by unfold maxLen at hlim; omega
  replace hN := Lib.hid hN
  go_wp2_with fail
  exact hN.out _ (by exact fR rfl rfl rfl)
def c_ca_r12 := sp 99 23 cF52
theorem ca_r12_wp (hN:∀a',Frm 43 [(1,s_1),(2,s_2),(4,s_4),(5,s_5),(10,.pointer (some ⟨w.heap.size,0,none⟩))] a'→Q .normal a' (w.alloc (.cells #[.int .i64 0] 3))):∀ac,Frm 43 [(1,s_1),(2,s_2),(4,s_4),(5,s_5)] ac→Code.wp Tryd.prog c_ca_r12 Q ac w := by
  refine fO (frame_ca ?_)
  intros
  rename_i hq
  iterate 4 (obtain ⟨e,hq⟩ := hq; obtain rfl := sI e; clear e)
  clear hq
  conv=>arg 2; whnf
  replace hN := Lib.hid hN
  go_wp2_with fail
  exact hN.out _ (by exact fR rfl rfl rfl)
def c_ca_r13 := sp 99 47 cF52
theorem ca_r13_wp (hN:∀a',Frm 43 [(1,s_1),(2,s_2),(4,s_4),(5,.pointer (some ⟨bu,0,none⟩)),(11,.func (Fn.func 70) #[] #[.pointer (some ⟨bk,0,none⟩),.pointer (some ⟨bu,0,none⟩)])] a'→Q .normal a' w):∀ac,Frm 43 [(1,s_1),(2,s_2),(4,s_4),(5,.pointer (some ⟨bu,0,none⟩)),(10,.pointer (some ⟨bk,0,none⟩))] ac→Code.wp Tryd.prog c_ca_r13 Q ac w := by
  refine fO (frame_ca ?_)
  intros
  rename_i hq
  iterate 5 (obtain ⟨e,hq⟩ := hq; obtain rfl := sI e; clear e)
  clear hq
  conv=>arg 2; whnf
  replace hN := Lib.hid hN
  go_wp2_with fail
  exact hN.out _ (by exact fR rfl rfl rfl)
def c_ca_r14 := sp 99 95 cF52
theorem ca_r14_wp {PV:Int→ByteArray→Option Addr→Nat→Nat→Option Addr→Nat→Nat→World→Prop} {gz:Nat} (ha:w.heap[wo.heap.size]? = some (.cells #[.int .i64 kd,.string nm,.slice A n1 c1,.slice B n2 c2] 29 (0,0))) (hc:Calls Tryd.prog 72 #[.agg #[.int .i64 kd,.string nm,.slice A n1 c1,.slice B n2 c2],.slice De me ee,.func (Fn.func 70) #[] #[.pointer (some ⟨bk,0,none⟩),.pointer (some ⟨bu,0,none⟩)]] w fun e w'=>∃ke ne Ae n3 c3 Be n4 c4,e=.returned (.agg #[.int .i64 ke,.string ne,.slice Ae n3 c3,.slice Be n4 c4])∧w'.heap[gz]? = some (.cells #[.int .i64 0,.string ⟨#[]⟩,.slice none 0 0,.slice none 0 0] 29 (0,0))∧PV ke ne Ae n3 c3 Be n4 c4 w') (hN:∀ke ne Ae n3 c3 Be n4 c4 w1 a' w',Frm 43 [(4,.pointer (some ⟨gz,0,none⟩))] a'→PV ke ne Ae n3 c3 Be n4 c4 w1→w'.heap[gz]? = some (.cells #[.int .i64 ke,.string ne,.slice Ae n3 c3,.slice Be n4 c4] 29 (0,0))→Keeps (·=gz) w1 w'→Q .normal a' w'):∀ac,Frm 43 [(1,.slice De me ee),(2,.pointer (some ⟨wo.heap.size,0,none⟩)),(4,.pointer (some ⟨gz,0,none⟩)),(5,s_5),(11,.func (Fn.func 70) #[] #[.pointer (some ⟨bk,0,none⟩),.pointer (some ⟨bu,0,none⟩)])] ac→Code.wp Tryd.prog c_ca_r14 Q ac w := by
  refine fO (frame_ca ?_)
  intros
  rename_i hq
  iterate 5 (obtain ⟨e,hq⟩ := hq; obtain rfl := sI e; clear e)
  clear hq
  conv=>arg 2; whnf
  have a0 := cellv ha 0 rfl
  have a1 := cellv ha 1 rfl
  have a2 := cellv ha 2 rfl
  have a3 := cellv ha 3 rfl
  have al := lt_heap ha
  clear ha
  have z0 := fun (W:World) (h:W.heap[gz]? = some (.cells #[.int .i64 0,.string ⟨#[]⟩,.slice none 0 0,.slice none 0 0] 29 (0,0)))=>cellv h 0 rfl
  have z1 := fun (W:World) (h:W.heap[gz]? = some (.cells #[.int .i64 0,.string ⟨#[]⟩,.slice none 0 0,.slice none 0 0] 29 (0,0)))=>cellv h 1 rfl
  have z2 := fun (W:World) (h:W.heap[gz]? = some (.cells #[.int .i64 0,.string ⟨#[]⟩,.slice none 0 0,.slice none 0 0] 29 (0,0)))=>cellv h 2 rfl
  have z3 := fun (W:World) (h:W.heap[gz]? = some (.cells #[.int .i64 0,.string ⟨#[]⟩,.slice none 0 0,.slice none 0 0] 29 (0,0)))=>cellv h 3 rfl
  have zf := fun (W:World) (h:W.heap[gz]? = some (.cells #[.int .i64 0,.string ⟨#[]⟩,.slice none 0 0,.slice none 0 0] 29 (0,0)))=>And.intro (free_heap h 0) (And.intro (free_heap h 1) (And.intro (free_heap h 2) (free_heap h 3)))
  have Z0 := Lib.hid z0
  have Z1 := Lib.hid z1
  have Z2 := Lib.hid z2
  have Z3 := Lib.hid z3
  have ZF := Lib.hid zf
  clear z0 z1 z2 z3 zf
  have HN := Lib.hid hN
  have HC := Lib.hid hc
  clear hN hc
  go_wp2_with fail
  (with_reducible refine HC.out.mono ?_)
  rintro e w1 ⟨ke,ne,Ae,n3,c3,Be,n4,c4,rfl,hz,hp⟩
  have y0 := Z0.out w1 hz
  have y1 := Z1.out w1 hz
  have y2 := Z2.out w1 hz
  have y3 := Z3.out w1 hz
  obtain ⟨yf0,yf1,yf2,yf3⟩ := ZF.out w1 hz
  have yl := lt_heap hz
  have HP := Lib.hid hp
  have HZ := Lib.hid hz
  clear hp hz
  go_wp2_with fail
  exact HN.out _ _ _ _ _ _ _ _ _ _ _ (id ⟨rfl,rfl,rfl,trivial⟩) HP.out (at4F HZ.out) (keeps4F (Keeps.refl _ _) (Or.inl rfl))
theorem ca_ret_wp {R:Ending→World→Prop} {v0 v1 v2 v3:Value} (hg:w'.heap[g]? = some (.cells #[v0,v1,v2,v3] 29 (0,0))) (ho:v0.oneCell'=true∧v1.oneCell'=true∧v2.oneCell'=true∧v3.oneCell'=true) (hR:R (.returned (.agg #[v0,v1,v2,v3])) w'):∀ac,Frm 43 [(4,.pointer (some ⟨g,0,none⟩))] ac→bodyPost Tryd.prog Tryd.f52 R .ret ac w' := by
  refine fO (frame_ca ?_)
  intros
  rename_i hq
  iterate 1 (obtain ⟨e,hq⟩ := hq; obtain rfl := sI e; clear e)
  clear hq
  have z0 := cellv hg 0 rfl
  have z1 := cellv hg 1 rfl
  have z2 := cellv hg 2 rfl
  have z3 := cellv hg 3 rfl
  have zl := lt_heap hg
  obtain ⟨o0,o1,o2,o3⟩ := ho
  refine bodyPost_ret (v := .agg #[v0,v1,v2,v3]) (by simp [results,Tryd.results52,go_sem,z0,z1,z2,z3,zl,o0,o1,o2,o3]) rfl ?_
  exact hR
end

end Go.Proofs.YthfokmjpbnfihaaDoor
