/- Lemmas. -/
import Derived.Test.YthfokmjpbnfihaaDoorIy
namespace Go.Proofs.YthfokmjpbnfihaaDoor
open Go Go.RowKit
set_option linter.unusedSimpArgs false
set_option linter.unusedVariables false
noncomputable section
set_option maxRecDepth 1000000
set_option maxHeartbeats 16000000
variable {s_1 s_2 s_6 s_7 vw vs s_3 s_19 s_20 s_9 s_21 v s_70 s_71:Value} {Q:Exit→Act→World→Prop} {wo w:World} {kd ke:Int} {nm x s y ne:ByteArray} {A B De Ae Be:Option Addr} {n1 c1 n2 c2 i b o me ee j bn k bu n3 c3 n4 c4:Nat} {PP S:Nat→Prop} {ws:List ByteArray} {env:Env} {K:Act→World→Prop}

theorem frame_rn {P:Act→Prop} (h:∀x0 x1 x2 x3 x4 x5 x6 x7 x8 x9 x10 x11 x12 x13 x14 x15 x16 x17 x18 x19 x20 x21 x22 x23 x24 x25 x26 x27 x28 x29 x30 x31 x32 x33 x34 x35 x36 x37 x38 x39 x40 x41 x42 x43 x44 x45 x46 x47 x48 x49 x50 x51 x52 x53 x54 x55 x56 x57 x58 x59 x60 x61 x62 x63 x64 x65 x66 x67 x68 x69 x70 x71 x72 x73 x74 x75 x76 x77 x78 x79 x80 x81 x82 x83 x84 x85 x86:Value,P ⟨(x0 :: x1 :: x2 :: x3 :: x4 :: x5 :: x6 :: x7 :: x8 :: x9 :: x10 :: x11 :: x12 :: x13 :: x14 :: x15 :: x16 :: x17 :: x18 :: x19 :: x20 :: x21 :: x22 :: x23 :: x24 :: x25 :: x26 :: x27 :: x28 :: x29 :: x30 :: x31 :: x32 :: x33 :: x34 :: x35 :: x36 :: x37 :: x38 :: x39 :: x40 :: x41 :: x42 :: x43 :: x44 :: x45 :: x46 :: x47 :: x48 :: x49 :: x50 :: x51 :: x52 :: x53 :: x54 :: x55 :: x56 :: x57 :: x58 :: x59 :: x60 :: x61 :: x62 :: x63 :: x64 :: x65 :: x66 :: x67 :: x68 :: x69 :: x70 :: x71 :: x72 :: x73 :: x74 :: x75 :: x76 :: x77 :: x78 :: x79 :: x80 :: x81 :: x82 :: x83 :: x84 :: x85 :: x86 :: []).toArray,[]⟩):∀a:Act,a.tmps.toList.length=87→a.defers=[]→P a := by
  rintro ⟨⟨l⟩,d⟩ hs hd
  simp only at hd
  subst hd
  revert l
  show ∀l:List Value,l.length=87→P ⟨⟨l⟩,[]⟩
  iterate 87 refine openS (fun _=>?_)
  refine open0 ?_
  exact h ..
noncomputable def cF72:Code := Tryd.f72.body.getD .skip
def c_rn_r0 := sp 99 2 cF72
theorem rn_r0_wp (hN:∀a',Frm 87 [(1,s_1),(2,s_2),(3,.pointer (some ⟨wo.heap.size,0,none⟩)),(6,.pointer (some ⟨wo.heap.size+1,0,none⟩))] a'→Q .normal a' ((wo.alloc (.cells #[.int .i64 kd,.string nm,.slice A n1 c1,.slice B n2 c2] 29)).alloc (.cells #[.int .i64 0,.string ⟨#[]⟩,.slice none 0 0,.slice none 0 0] 29))):∀ac,Frm 87 [(0,.agg #[.int .i64 kd,.string nm,.slice A n1 c1,.slice B n2 c2]),(1,s_1),(2,s_2)] ac→Code.wp Tryd.prog c_rn_r0 Q ac wo := by
  refine fO (frame_rn ?_)
  intros
  rename_i hq
  iterate 3 (obtain ⟨e,hq⟩ := hq; obtain rfl := sI e; clear e)
  clear hq
  conv=>arg 2; whnf
  replace hN := Lib.hid hN
  go_wp2_with fail
  exact hN.out _ (by exact fR rfl rfl rfl)
def c_rn_r1 := sp 99 5 cF72
theorem rn_r1_wp (ha:w.heap[wo.heap.size]? = some (.cells #[.int .i64 kd,.string nm,.slice A n1 c1,.slice B n2 c2] 29 (0,0))) (hN:∀a',Frm 87 [(1,s_1),(2,s_2),(3,.pointer (some ⟨wo.heap.size,0,none⟩)),(6,s_6),(7,.pointer (some ⟨w.heap.size,0,none⟩))] a'→Q .normal a' (w.alloc (.cells #[.int .i64 kd,.string nm,.slice none 0 0,.slice none 0 0] 29))):∀ac,Frm 87 [(1,s_1),(2,s_2),(3,.pointer (some ⟨wo.heap.size,0,none⟩)),(6,s_6)] ac→Code.wp Tryd.prog c_rn_r1 Q ac w := by
  refine fO (frame_rn ?_)
  intros
  rename_i hq
  iterate 4 (obtain ⟨e,hq⟩ := hq; obtain rfl := sI e; clear e)
  clear hq
  conv=>arg 2; whnf
  have a0 := cellv ha 0 rfl
  have a1 := cellv ha 1 rfl
  have a2 := cellv ha 2 rfl
  have a3 := cellv ha 3 rfl
  have al := lt_heap ha
  clear ha
  replace hN := Lib.hid hN
  go_wp2_with fail
  exact hN.out _ (by exact fR rfl rfl rfl)
def c_rn_r2 := sp 99 19 cF72
theorem rn_r2_wp (hs:CY PP wo w vw ws x vs kd nm A n1 c1 B n2 c2) (hN:∀a',Frm 87 [(1,s_1),(2,s_2),(3,.pointer (some ⟨wo.heap.size,0,none⟩)),(6,s_6),(7,s_7),(19,.slice A n1 c1),(20,.int .i64 (n1:Nat)),(21,.int .i64 (0:Nat))] a'→Q .normal a' w):∀ac,Frm 87 [(1,s_1),(2,s_2),(3,.pointer (some ⟨wo.heap.size,0,none⟩)),(6,s_6),(7,s_7)] ac→Code.wp Tryd.prog c_rn_r2 Q ac w := by
  refine fO (frame_rn ?_)
  intros
  rename_i hq
  iterate 5 (obtain ⟨e,hq⟩ := hq; obtain rfl := sI e; clear e)
  clear hq
  conv=>arg 2; whnf
  have a0 := cellv hs.a 0 rfl
  have a1 := cellv hs.a 1 rfl
  have a2 := cellv hs.a 2 rfl
  have a3 := cellv hs.a 3 rfl
  have al := lt_heap hs.a
  replace hs := Lib.hid hs
  replace hN := Lib.hid hN
  go_wp2_with fail
  exact hN.out _ (by exact fR rfl rfl rfl)
def c_rn_r3 := sp 99 139 cF72
theorem rn_r3_wp (hN:∀a',Frm 87 [(1,s_1),(2,s_2),(3,s_3),(6,s_6),(7,s_7),(19,s_19),(20,.int .i64 (n1:Nat)),(21,.int .i64 (i:Nat)),(22,.bool (decide (i<n1)))] a'→Q .normal a' w):∀ac,Frm 87 [(1,s_1),(2,s_2),(3,s_3),(6,s_6),(7,s_7),(19,s_19),(20,.int .i64 (n1:Nat)),(21,.int .i64 (i:Nat))] ac→Code.wp Tryd.prog c_rn_r3 Q ac w := by
  refine fO (frame_rn ?_)
  intros
  rename_i hq
  iterate 8 (obtain ⟨e,hq⟩ := hq; obtain rfl := sI e; clear e)
  clear hq
  conv=>arg 2; whnf
  by_cases h:i<n1
  · have t1:decide ((i:Int)<(n1:Int))=true := by first | exact decide_eq_true (by omega) | exact beq_iff_eq.2 (by omega) | exact bne_iff_ne.2 (by omega)
    have t2:(decide (i<n1))=true := decide_eq_true h
    rw [t2] at hN
    clear h
    replace hN := Lib.hid hN
    go_wp2_with fail
    exact hN.out _ (by exact fR rfl rfl rfl)
  · have t1:decide ((i:Int)<(n1:Int))=false := by first | exact decide_eq_false (by omega) | exact beq_eq_false_iff_ne.2 (by omega) | exact bne_eq_false_iff_eq.2 (by omega)
    have t2:(decide (i<n1))=false := decide_eq_false h
    rw [t2] at hN
    clear h
    replace hN := Lib.hid hN
    go_wp2_with fail
    exact hN.out _ (by exact fR rfl rfl rfl)
def c_rn_r4 := sp 99 2251 cF72
theorem rn_r4_wp (hi:i<n1) (hc:w.cell? ⟨b,o+i,none⟩=some (.string s)) (hbl:b<w.heap.size) (hN:∀a',Frm 87 [(1,s_1),(2,s_2),(3,s_3),(6,s_6),(7,s_7),(19,.slice (some ⟨b,o,none⟩) n1 c1),(20,s_20),(21,.int .i64 (i:Nat)),(9,.string s)] a'→Q .normal a' w):∀ac,Frm 87 [(1,s_1),(2,s_2),(3,s_3),(6,s_6),(7,s_7),(19,.slice (some ⟨b,o,none⟩) n1 c1),(20,s_20),(21,.int .i64 (i:Nat))] ac→Code.wp Tryd.prog c_rn_r4 Q ac w := by
  refine fO (frame_rn ?_)
  intros
  rename_i hq
  iterate 8 (obtain ⟨e,hq⟩ := hq; obtain rfl := sI e; clear e)
  clear hq
  conv=>arg 2; whnf
  have q0:(0:Int)≤(i:Int) := by omega
  have q1:(i:Int)<(n1:Int) := by omega
  replace hN := Lib.hid hN
  go_wp2_with fail
  exact hN.out _ (by exact fR rfl rfl rfl)
def c_rn_r5 := sp 99 9419 cF72
theorem rn_r5_wp (hlim:me≤maxLen) (hN:∀a',Frm 87 [(1,.slice De me ee),(2,s_2),(3,s_3),(6,s_6),(7,s_7),(19,s_19),(20,s_20),(21,s_21),(9,s_9),(10,.int .i64 ((me:Int) - 1))] a'→Q .normal a' w):∀ac,Frm 87 [(1,.slice De me ee),(2,s_2),(3,s_3),(6,s_6),(7,s_7),(19,s_19),(20,s_20),(21,s_21),(9,s_9)] ac→Code.wp Tryd.prog c_rn_r5 Q ac w := by
  refine fO (frame_rn ?_)
  intros
  rename_i hq
  iterate 9 (obtain ⟨e,hq⟩ := hq; obtain rfl := sI e; clear e)
  clear hq
  conv=>arg 2; whnf
  have q9:(me:Int)≤9223372036854775807 := by unfold maxLen at hlim; omega
  replace hN := Lib.hid hN
  go_wp2_with fail
  exact hN.out _ (by exact fR rfl rfl rfl)
def c_rn_r6 := sp 99 136395 cF72
theorem rn_r6_wp {z:Int} (hN:∀a',Frm 87 [(1,s_1),(2,s_2),(3,s_3),(6,s_6),(7,s_7),(19,s_19),(20,s_20),(21,s_21),(9,s_9),(10,.int .i64 z),(29,.bool (decide (0≤z)))] a'→Q .normal a' w):∀ac,Frm 87 [(1,s_1),(2,s_2),(3,s_3),(6,s_6),(7,s_7),(19,s_19),(20,s_20),(21,s_21),(9,s_9),(10,.int .i64 z)] ac→Code.wp Tryd.prog c_rn_r6 Q ac w := by
  refine fO (frame_rn ?_)
  intros
  rename_i hq
  iterate 10 (obtain ⟨e,hq⟩ := hq; obtain rfl := sI e; clear e)
  clear hq
  conv=>arg 2; whnf
  by_cases h:0≤z
  · have t1:decide (0≤z)=true := by first | exact decide_eq_true (by omega) | exact beq_iff_eq.2 (by omega) | exact bne_iff_ne.2 (by omega)
    have t2:(decide (0≤z))=true := decide_eq_true h
    rw [t2] at hN
    clear h
    replace hN := Lib.hid hN
    go_wp2_with fail
    exact hN.out _ (by exact fR rfl rfl rfl)
  · have t1:decide (0≤z)=false := by first | exact decide_eq_false (by omega) | exact beq_eq_false_iff_ne.2 (by omega) | exact bne_eq_false_iff_eq.2 (by omega)
    have t2:(decide (0≤z))=false := decide_eq_false h
    rw [t2] at hN
    clear h
    replace hN := Lib.hid hN
    go_wp2_with fail
    exact hN.out _ (by exact fR rfl rfl rfl)
def c_rn_r8 := sp 99 562379 cF72
theorem rn_r8_wp (hj:j<me) (hc:w.cell? ⟨b,o+j * 2,none⟩=some (.string y)) (hbl:b<w.heap.size) (hN:∀a',Frm 87 [(1,.slice (some ⟨b,o,none⟩) me ee),(2,s_2),(3,s_3),(6,s_6),(7,s_7),(19,s_19),(20,s_20),(21,s_21),(9,.string s),(10,.int .i64 (j:Nat)),(38,.bool (decide (y=s)))] a'→Q .normal a' w):∀ac,Frm 87 [(1,.slice (some ⟨b,o,none⟩) me ee),(2,s_2),(3,s_3),(6,s_6),(7,s_7),(19,s_19),(20,s_20),(21,s_21),(9,.string s),(10,.int .i64 (j:Nat))] ac→Code.wp Tryd.prog c_rn_r8 Q ac w := by
  refine fO (frame_rn ?_)
  intros
  rename_i hq
  iterate 10 (obtain ⟨e,hq⟩ := hq; obtain rfl := sI e; clear e)
  clear hq
  conv=>arg 2; whnf
  have q0:(0:Int)≤(j:Int) := by omega
  have q1:(j:Int)<(me:Int) := by omega
  by_cases h:y=s
  · subst h
    have t1:(y.toList == y.toList)=true := beq_self_eq_true _
    rw [show decide (y=y)=true from decide_eq_true rfl] at hN
    replace hN := Lib.hid hN
    go_wp2_with fail
    exact hN.out _ (by exact fR rfl rfl rfl)
  · have t1:(y.toList == s.toList)=false := beq_eq_false_iff_ne.2 (fun e=>h (bytes_inj e))
    rw [show decide (y=s)=false from decide_eq_false h] at hN
    replace hN := Lib.hid hN
    go_wp2_with fail
    exact hN.out _ (by exact fR rfl rfl rfl)
def c_rn_r9 := sp 99 2397387 cF72
theorem rn_r9_wp (hj:j<me) (hc:w.cell? ⟨b,o+j * 2+1,none⟩=some (.string y)) (hbl:b<w.heap.size) (hN:∀a',Frm 87 [(1,.slice (some ⟨b,o,none⟩) me ee),(2,s_2),(3,s_3),(6,s_6),(7,s_7),(19,s_19),(20,s_20),(21,s_21),(9,.string y)] a'→Q .normal a' w):∀ac,Frm 87 [(1,.slice (some ⟨b,o,none⟩) me ee),(2,s_2),(3,s_3),(6,s_6),(7,s_7),(19,s_19),(20,s_20),(21,s_21),(9,.string s),(10,.int .i64 (j:Nat))] ac→Code.wp Tryd.prog c_rn_r9 Q ac w := by
  refine fO (frame_rn ?_)
  intros
  rename_i hq
  iterate 10 (obtain ⟨e,hq⟩ := hq; obtain rfl := sI e; clear e)
  clear hq
  conv=>arg 2; whnf
  have q0:(0:Int)≤(j:Int) := by omega
  have q1:(j:Int)<(me:Int) := by omega
  replace hN := Lib.hid hN
  go_wp2_with fail
  exact hN.out _ (by exact fR rfl rfl rfl)
def c_rn_r7 := sp 99 234699 cF72
theorem rn_r7_wp (hlim:j≤maxLen) (hN:∀a',Frm 87 [(1,s_1),(2,s_2),(3,s_3),(6,s_6),(7,s_7),(19,s_19),(20,s_20),(21,s_21),(9,s_9),(10,.int .i64 ((j:Int) - 1))] a'→Q .normal a' w):∀ac,Frm 87 [(1,s_1),(2,s_2),(3,s_3),(6,s_6),(7,s_7),(19,s_19),(20,s_20),(21,s_21),(9,s_9),(10,.int .i64 (j:Nat))] ac→Code.wp Tryd.prog c_rn_r7 Q ac w := by
  refine fO (frame_rn ?_)
  intros
  rename_i hq
  iterate 10 (obtain ⟨e,hq⟩ := hq; obtain rfl := sI e; clear e)
  clear hq
  conv=>arg 2; whnf
  have q9:(j:Int)≤9223372036854775807 := by unfold maxLen at hlim; omega
  replace hN := Lib.hid hN
  go_wp2_with fail
  exact hN.out _ (by exact fR rfl rfl rfl)
def c_rn_r11 := sp 99 971 cF72
theorem rn_r11_wp (hi:i<n1) (hlim:n1≤maxLen) (hN:∀a',Frm 87 [(1,s_1),(2,s_2),(3,s_3),(6,s_6),(7,s_7),(19,s_19),(20,s_20),(21,.int .i64 (i+1:Nat))] a'→Q .normal a' w):∀ac,Frm 87 [(1,s_1),(2,s_2),(3,s_3),(6,s_6),(7,s_7),(19,s_19),(20,s_20),(21,.int .i64 (i:Nat))] ac→Code.wp Tryd.prog c_rn_r11 Q ac w := by
  refine fO (frame_rn ?_)
  intros
  rename_i hq
  iterate 8 (obtain ⟨e,hq⟩ := hq; obtain rfl := sI e; clear e)
  clear hq
  conv=>arg 2; whnf
  have hi4:(i:Int)≤9223372036854775806 := by unfold maxLen at hlim; omega
  replace hN := Lib.hid hN
  go_wp2_with fail
  exact hN.out _ (by exact fR rfl rfl rfl)
def c_rn_r10 := sp 99 7371 cF72
theorem rn_r10_wp (hl:ws.length≤1000000) (hs:CY PP wo w vw ws x vs kd nm A n1 c1 B n2 c2) (hbw:bn<wo.heap.size) (hk:w.heap[bn]? = some (.cells #[.int .i64 (k:Nat)] 3 (0,0))) (hN:∀v' a' w',Frm 87 [(1,s_1),(2,s_2),(3,s_3),(6,s_6),(7,.pointer (some ⟨wo.heap.size+2,0,none⟩)),(19,s_19),(20,s_20),(21,s_21)] a'→CY PP wo w' v' (ws++[s]) x vs kd nm A n1 c1 B n2 c2→w'.heap[bn]? = some (.cells #[.int .i64 (k:Nat)] 3 (0,0))→Q .normal a' w'):∀ac,Frm 87 [(1,s_1),(2,s_2),(3,s_3),(6,s_6),(7,.pointer (some ⟨wo.heap.size+2,0,none⟩)),(19,s_19),(20,s_20),(21,s_21),(9,.string s)] ac→Code.wp Tryd.prog c_rn_r10 Q ac w := by
  refine fO (frame_rn ?_)
  intros
  rename_i hq
  iterate 9 (obtain ⟨e,hq⟩ := hq; obtain rfl := sI e; clear e)
  clear hq
  conv=>arg 2; whnf
  obtain ⟨tsi,hts,ht0,ht1,ht2⟩ := info_parts infoStr
  have b2 := cellv hs.c 2 rfl
  have bf := free_heap hs.c 2
  have blt := lt_heap hs.c
  obtain ⟨A9,c9,rfl⟩:∃A c,vw=.slice A ws.length c := by
    rcases hs.rw.2 with ⟨e,e0⟩ | ⟨g,cap,cur,e,_⟩
    · exact ⟨none,0,by rw [e,e0]⟩
    · exact ⟨_,_,e⟩
  have hrow := hs.rw
  replace hs := Lib.hid hs
  have HN := Lib.hid hN
  have HROW := Lib.hid hrow
  clear hN hrow
  go_wp2_with (at_builtin; refine wpList_append_lies (w.alloc (.cells #[.string s] 9)) ?h1 (.tmp 45) (.tmp 47) 26 ?h2 (wo.heap.size+3) 9 tsi (.string ⟨#[]⟩) 1 16 ?h3 hts ht0 ht1 ht2 ?h4 ?h5 (.slice A9 ws.length c9) ws.length (ws.map .string) ?h6 ?h7 ⟨w.heap.size,0,none⟩ 1 1 [.string s] ?h8 ?h9 ?h10 ?h11 ?h12 ?h13 ?h14 ?h15 (w.heap.size+1) ?h16 ?_)
  try (case h1=>rfl)
  try (case h2=>rfl)
  try (case h3=>exact Tryd.underlying26)
  try (case h4=>rfl)
  try (case h5=>omega)
  try (case h6=>rfl)
  try (case h7=>exact HROW.out.alloc _)
  try (case h8=>rfl)
  try (case h9=>rfl)
  try (case h10=>exact World.news_of_block (cs := #[.string s]) (t := 9) (fr := (0,0)) (heap_alloc_new w _))
  try (case h11=>simp [Value.oneCell'])
  try (case h12=>omega)
  try (case h13=>first | (simp [maxLen]; omega) | (unfold maxLen; omega))
  try (case h14=>omega)
  try (case h15=>first | omega | (simp; omega))
  try (case h16=>first | rfl | simp)
  intro gg cap w6 hown3 hgrow hat hlt
  have hap := hs.out.word hown3 hgrow
  have HAP := Lib.hid hap
  have HGR := Lib.hid (hgrow.block bn (by have := lt_heap hk; simp; omega) (fun e=>by have := (HROW.out.lt bn e.symm).1; omega))
  have d2 := cellv hap.1 2 rfl
  have df := free_heap hap.1 2
  have dl := lt_heap hap.1
  clear hown3 hgrow hat hap b2 bf blt hlt
  go_wp2_with fail
  exact HN.out _ _ _ (by exact fR rfl rfl rfl) HAP.out.2 ((heap_far _ (by omega) (HGR.out.trans (heap_old (lt_heap hk) rfl))).trans hk)
def c_rn_r12 := sp 99 39 cF72
theorem rn_r12_wp (hs:CY PP wo w vw ws x vs kd nm A n1 c1 B n2 c2) (hN:∀a' w',Frm 87 [(1,s_1),(2,s_2),(3,.pointer (some ⟨wo.heap.size,0,none⟩)),(6,s_6),(7,s_7),(52,.bool (isQu kd))] a'→CY PP wo w' vw ws x vs kd nm A n1 c1 B n2 c2→Below w.heap.size w w'→Q .normal a' w'):∀ac,Frm 87 [(1,s_1),(2,s_2),(3,.pointer (some ⟨wo.heap.size,0,none⟩)),(6,s_6),(7,s_7)] ac→Code.wp Tryd.prog c_rn_r12 Q ac w := by
  refine fO (frame_rn ?_)
  intros
  rename_i hq
  iterate 5 (obtain ⟨e,hq⟩ := hq; obtain rfl := sI e; clear e)
  clear hq
  conv=>arg 2; whnf
  have hq := quant_any kd nm A B n1 c1 n2 c2 w
  have a0 := cellv hs.a 0 rfl
  have a1 := cellv hs.a 1 rfl
  have a2 := cellv hs.a 2 rfl
  have a3 := cellv hs.a 3 rfl
  have al := lt_heap hs.a
  replace hs := Lib.hid hs
  have HN := Lib.hid hN
  have HQ := Lib.hid hq
  clear hN hq
  go_wp2_with fail
  (with_reducible refine HQ.out.mono ?_)
  rintro e w1 ⟨rfl,hb1⟩
  have hs := hs.out.below hb1
  have HS1 := Lib.hid hs
  have HB1 := Lib.hid hb1
  clear hb1 hs
  go_wp2_with fail
  exact HN.out _ _ (by exact fR rfl rfl rfl) HS1.out HB1.out
def c_rn_r13 := sp 99 151 cF72
theorem rn_r13_wp (hbw:bn<wo.heap.size) (hc:Calls Tryd.prog 70 #[.pointer (some ⟨bn,0,none⟩),.pointer (some ⟨bu,0,none⟩)] w fun e w'=>e=.returned (.string y)∧w'.heap[bn]? = some (.cells #[.int .i64 (k:Nat)] 3 (0,0))∧Keeps (·=bn) w w') (hs:CY (·=bn) wo w vw ws x vs kd nm A n1 c1 B n2 c2) (hN:∀a' w',Frm 87 [(1,s_1),(2,.func (Fn.func 70) #[] #[.pointer (some ⟨bn,0,none⟩),.pointer (some ⟨bu,0,none⟩)]),(3,s_3),(6,s_6),(7,.pointer (some ⟨wo.heap.size+2,0,none⟩))] a'→CY (·=bn) wo w' vw ws y vs kd nm A n1 c1 B n2 c2→w'.heap[bn]? = some (.cells #[.int .i64 (k:Nat)] 3 (0,0))→Q .normal a' w'):∀ac,Frm 87 [(1,s_1),(2,.func (Fn.func 70) #[] #[.pointer (some ⟨bn,0,none⟩),.pointer (some ⟨bu,0,none⟩)]),(3,s_3),(6,s_6),(7,.pointer (some ⟨wo.heap.size+2,0,none⟩))] ac→Code.wp Tryd.prog c_rn_r13 Q ac w := by
  refine fO (frame_rn ?_)
  intros
  rename_i hq
  iterate 5 (obtain ⟨e,hq⟩ := hq; obtain rfl := sI e; clear e)
  clear hq
  conv=>arg 2; whnf
  have hy := fun (W:World) (hb:Keeps (·=bn) w W)=>(hs.keeps hb).name y
  have d1 := fun (W:World) (hb:Keeps (·=bn) w W)=>cellv (hs.keeps hb).c 1 rfl
  have df := fun (W:World) (hb:Keeps (·=bn) w W)=>free_heap (hs.keeps hb).c 1
  have dl := fun (W:World) (hb:Keeps (·=bn) w W)=>lt_heap (hs.keeps hb).c
  have hcl := lt_heap hs.c
  have HY := Lib.hid hy
  have D1 := Lib.hid d1
  have DF := Lib.hid df
  have DL := Lib.hid dl
  clear hy d1 df dl
  replace hs := Lib.hid hs
  have HN := Lib.hid hN
  have HC := Lib.hid hc
  clear hN hc
  go_wp2_with fail
  (with_reducible refine HC.out.mono ?_)
  rintro e w1 ⟨rfl,hkk,hb1⟩
  have e1 := D1.out w1 hb1
  have e2 := DF.out w1 hb1
  have e3 := DL.out w1 hb1
  have HY1 := Lib.hid (HY.out w1 hb1)
  have HB1 := Lib.hid hb1
  have HKK := Lib.hid hkk
  clear hb1 hkk
  go_wp2_with fail
  refine HN.out _ _ (by exact fR rfl rfl rfl) HY1.out ?_
  exact (heap_far _ (by omega) HKK.out)
def bindRep:Rep (ByteArray × ByteArray) where
  size := 2
  R _ _ p cs := cs=[.string p.1,.string p.2]∧p.1.size≤maxLen∧p.2.size≤maxLen
  pos := by omega
  len := by rintro w S a cs ⟨rfl,_⟩; rfl
  one := by rintro w S a cs ⟨rfl,_⟩ u hu; simp at hu; rcases hu with rfl | rfl <;> rfl
  keep := by rintro w w' S S' a cs h _ _; exact h
def bindVals (env:Env):List Value := env.flatMap (fun p=>[.string p.1,.string p.2])
theorem bindVals_len (env:Env):(bindVals env).length=env.length * 2 := by
  unfold bindVals
  induction env with
  | nil=>rfl
  | cons p e ih=>rw [List.flatMap_cons,List.length_append,ih]; simp; omega
theorem bindAll:∀{env:Env} {xs:List Value},bindRep.All w S env xs→xs=bindVals env∧∀p∈env,p.1.size≤maxLen∧p.2.size≤maxLen
  | [],xs,h=>by simp [Rep.All] at h; subst h; exact ⟨rfl,by simp⟩
  | p :: env,xs,h=>by
    obtain ⟨cs,rest,rfl,⟨rfl,h1,h2⟩,h3⟩ := h
    obtain ⟨rfl,h4⟩ := bindAll h3
    refine ⟨rfl,fun q hq=>?_⟩
    rcases List.mem_cons.1 hq with rfl | hq
    · exact ⟨h1,h2⟩
    · exact h4 q hq
theorem bindAll_of:∀{env:Env},(∀p∈env,p.1.size≤maxLen∧p.2.size≤maxLen)→bindRep.All w S env (bindVals env)
  | [],_=>rfl
  | p :: env,h=>⟨_,_,rfl,⟨rfl,h p (List.mem_cons_self ..)⟩,bindAll_of (fun q hq=>h q (List.mem_cons_of_mem _ hq))⟩
theorem bind_of_row {base:Nat} {E:TypeId} (h:w.ownsRow base E 2 v env.length (bindVals env)) (hz:∀p∈env,p.1.size≤maxLen∧p.2.size≤maxLen) (hm:env.length≤maxLen) (hS:∀b,base≤b→b<w.heap.size→S b):bindRep.Sl w S v env :=
  Rep.Own.sl (E := E) (base := base) (S := fun _=>False) ⟨bindVals env,h,bindAll_of hz⟩ hm (fun _ h=>h.elim) hS
theorem bind_sizes (h:bindRep.Sl w S v env):∀p∈env,p.1.size≤maxLen∧p.2.size≤maxLen := by
  obtain ⟨A,n,c,rfl,h1,_,h3⟩ := h
  cases env with
  | nil=>simp
  | cons p env =>
    obtain ⟨_,_,_,_,_,h4,_⟩ := h3 (by rw [← h1]; simp)
    exact (bindAll h4).2
theorem bind_cells {m e:Nat} (h:bindRep.Sl w S (.slice A m e) env) (hA:m=0→A=none):(A=none∧m=0∧env=[])∨∃b o,A=some ⟨b,o,none⟩∧S b∧0<m∧∀j u,(bindVals env)[j]? = some u→w.cell? ⟨b,o+j,none⟩=some u := by
  obtain ⟨A',n,c,e9,h1,_,h3⟩ := h
  injection e9 with e1 e2 e3
  subst e1 e2 e3
  by_cases h0:m=0
  · left
    refine ⟨hA h0,h0,?_⟩
    rw [h0] at h1
    exact List.length_eq_zero_iff.1 h1
  · obtain ⟨b,o,xs,e,hS,hx,hc⟩ := h3 (by omega)
    obtain ⟨rfl,_⟩ := bindAll hx
    exact Or.inr ⟨b,o,e,hS,by omega,hc⟩
theorem infoBind:(Tryd.prog.info? 88).map (fun i=>(i.zero,i.size,i.bytes))=some (some (.agg #[.string ⟨#[]⟩,.string ⟨#[]⟩]),2,32) := by kernel_rfl
def c_rn_r14 := sp 99 215 cF72
theorem rn_r14_wp (hbl:env.length=me) (hm:me≤1000000) (hme:me≤ee) (hbw:b<w.heap.size) (hcell:∀j u,(bindVals env)[j]? = some u→w.cell? ⟨b,o+j,none⟩=some u) (hs:CY PP wo w vw ws x vs kd nm A n1 c1 B n2 c2) (hN:∀v' a' w',Frm 87 [(1,v'),(2,s_2),(3,.pointer (some ⟨wo.heap.size,0,none⟩)),(6,s_6),(7,.pointer (some ⟨wo.heap.size+2,0,none⟩))] a'→w'.ownsRow (w.heap.size+1) 88 2 v' (me+1) (bindVals env++[.string nm,.string x])→Below w.heap.size w w'→K a' w'):∀ac,Frm 87 [(1,.slice (some ⟨b,o,none⟩) me ee),(2,s_2),(3,.pointer (some ⟨wo.heap.size,0,none⟩)),(6,s_6),(7,.pointer (some ⟨wo.heap.size+2,0,none⟩))] ac→Code.wp Tryd.prog c_rn_r14 (Exit.then K (fun _ _ _=>False)) ac w := by
  refine fO (frame_rn ?_)
  intros
  rename_i hq
  iterate 5 (obtain ⟨e,hq⟩ := hq; obtain rfl := sI e; clear e)
  clear hq
  conv=>arg 2; whnf
  obtain ⟨ti,hti,ht0,ht1,ht2⟩ := info_parts infoBind
  have q1:(me:Int)≤(ee:Int) := by omega
  have hcA:∀j u,(bindVals env)[j]? = some u→(w.alloc (.cells #[.string nm,.string x] 88)).cell? ⟨b,o+j,none⟩=some u := fun j u hu=>(cell_keep (heap_old hbw rfl) _).trans (hcell j u hu)
  have HCELLA := Lib.hid hcA
  have hbl2:(bindVals env).length=me * 2 := by rw [bindVals_len,hbl]
  have HBL := Lib.hid hbl2
  clear hcA hcell hbl2
  have a0 := cellv hs.a 0 rfl
  have a1 := cellv hs.a 1 rfl
  have a2 := cellv hs.a 2 rfl
  have a3 := cellv hs.a 3 rfl
  have al := lt_heap hs.a
  have z1 := cellv hs.c 1 rfl
  have zl := lt_heap hs.c
  replace hs := Lib.hid hs
  go_region_law ((refine step_append_grows (by rfl) (.tmp 61) (.tmp 67) 89 (by rfl) 88 ti (.agg #[.string ⟨#[]⟩,.string ⟨#[]⟩]) 2 32 Tryd.underlying89 hti ht0 ht1 ht2 rfl (by decide) (some ⟨b,o,none⟩) me me (bindVals env) (by rfl) ?c0 ?c1 ?c2 ⟨w.heap.size,0,none⟩ 1 1 [.string nm,.string x] (by rfl) rfl ?c3 ?c4 ?c5 ?c6 ?c7 ?_; (case c0=>(first | (intro h; cases h; done) | exact fun _=>⟨rfl,rfl⟩)); (case c1=>exact HBL.out); (case c2=>(intro b9 hb9 j u hu; cases hb9; rw [Addr.add_lit]; exact HCELLA.out j u hu)); (case c3=>(exact World.news_of_block (cs := #[.string nm,.string x]) (t := 88) (fr := (0,0)) (by first | exact heap_drew (heap_alloc_new w _) | exact heap_alloc_new w _ | exact heap_alloc_new w.drew _))); (case c4=>(intro u hu; simp at hu; rcases hu with rfl | rfl <;> rfl)); (case c5=>omega); (case c6=>(unfold maxLen; omega)); (case c7=>omega); intro v' w2 hown hgrow; have HOWN := Lib.hid hown; have HGROW := Lib.hid hgrow; clear hown hgrow))
  all_goals go_wp2_with fail
  all_goals exact hN _ _ _ (by exact fR rfl rfl rfl) (by simpa using HOWN.out) (by first | exact ⟨HGROW.out.os,HGROW.out.tape,HGROW.out.output,by have := HGROW.out.size; simp at this; omega,fun k hk=>(HGROW.out.block k (by simp; omega) (by simp)).trans (by first | exact heap_drew (heap_old hk rfl) | exact heap_old hk rfl)⟩)
def c_rn_r14n := sp 99 215 cF72
theorem rn_r14n_wp (hs:CY PP wo w vw ws x vs kd nm A n1 c1 B n2 c2) (hN:∀v' a' w',Frm 87 [(1,v'),(2,s_2),(3,.pointer (some ⟨wo.heap.size,0,none⟩)),(6,s_6),(7,.pointer (some ⟨wo.heap.size+2,0,none⟩))] a'→w'.ownsRow (w.heap.size+1) 88 2 v' (0+1) ([]++[.string nm,.string x])→Below w.heap.size w w'→K a' w'):∀ac,Frm 87 [(1,.slice none 0 ee),(2,s_2),(3,.pointer (some ⟨wo.heap.size,0,none⟩)),(6,s_6),(7,.pointer (some ⟨wo.heap.size+2,0,none⟩))] ac→Code.wp Tryd.prog c_rn_r14n (Exit.then K (fun _ _ _=>False)) ac w := by
  refine fO (frame_rn ?_)
  intros
  rename_i hq
  iterate 5 (obtain ⟨e,hq⟩ := hq; obtain rfl := sI e; clear e)
  clear hq
  conv=>arg 2; whnf
  obtain ⟨ti,hti,ht0,ht1,ht2⟩ := info_parts infoBind
  have a0 := cellv hs.a 0 rfl
  have a1 := cellv hs.a 1 rfl
  have a2 := cellv hs.a 2 rfl
  have a3 := cellv hs.a 3 rfl
  have al := lt_heap hs.a
  have z1 := cellv hs.c 1 rfl
  have zl := lt_heap hs.c
  replace hs := Lib.hid hs
  go_region_law ((refine step_append_grows (by rfl) (.tmp 61) (.tmp 67) 89 (by rfl) 88 ti (.agg #[.string ⟨#[]⟩,.string ⟨#[]⟩]) 2 32 Tryd.underlying89 hti ht0 ht1 ht2 rfl (by decide) none 0 0 [] (by rfl) ?c0 ?c1 ?c2 ⟨w.heap.size,0,none⟩ 1 1 [.string nm,.string x] (by rfl) rfl ?c3 ?c4 ?c5 ?c6 ?c7 ?_; (case c0=>(first | (intro h; cases h; done) | exact fun _=>⟨rfl,rfl⟩)); (case c1=>rfl); (case c2=>(intro b9 hb9; cases hb9)); (case c3=>(exact World.news_of_block (cs := #[.string nm,.string x]) (t := 88) (fr := (0,0)) (by first | exact heap_drew (heap_alloc_new w _) | exact heap_alloc_new w _ | exact heap_alloc_new w.drew _))); (case c4=>(intro u hu; simp at hu; rcases hu with rfl | rfl <;> rfl)); (case c5=>omega); (case c6=>(unfold maxLen; omega)); (case c7=>omega); intro v' w2 hown hgrow; have HOWN := Lib.hid hown; have HGROW := Lib.hid hgrow; clear hown hgrow))
  all_goals go_wp2_with fail
  all_goals exact hN _ _ _ (by exact fR rfl rfl rfl) (by simpa using HOWN.out) (by first | exact ⟨HGROW.out.os,HGROW.out.tape,HGROW.out.output,by have := HGROW.out.size; simp at this; omega,fun k hk=>(HGROW.out.block k (by simp; omega) (by simp)).trans (by first | exact heap_drew (heap_old hk rfl) | exact heap_old hk rfl)⟩)
def c_rn_r15 := sp 99 79 cF72
theorem rn_r15_wp (hs:CY PP wo w vw ws x vs kd nm A n1 c1 B n2 c2) (hN:∀a',Frm 87 [(1,s_1),(2,s_2),(3,.pointer (some ⟨wo.heap.size,0,none⟩)),(6,s_6),(7,s_7),(70,.slice B n2 c2),(71,.int .i64 (n2:Nat)),(72,.int .i64 (0:Nat))] a'→Q .normal a' w):∀ac,Frm 87 [(1,s_1),(2,s_2),(3,.pointer (some ⟨wo.heap.size,0,none⟩)),(6,s_6),(7,s_7)] ac→Code.wp Tryd.prog c_rn_r15 Q ac w := by
  refine fO (frame_rn ?_)
  intros
  rename_i hq
  iterate 5 (obtain ⟨e,hq⟩ := hq; obtain rfl := sI e; clear e)
  clear hq
  conv=>arg 2; whnf
  have a0 := cellv hs.a 0 rfl
  have a1 := cellv hs.a 1 rfl
  have a2 := cellv hs.a 2 rfl
  have a3 := cellv hs.a 3 rfl
  have al := lt_heap hs.a
  replace hs := Lib.hid hs
  replace hN := Lib.hid hN
  go_wp2_with fail
  exact hN.out _ (by exact fR rfl rfl rfl)
def c_rn_r16 := sp 99 559 cF72
theorem rn_r16_wp (hN:∀a',Frm 87 [(1,s_1),(2,s_2),(3,s_3),(6,s_6),(7,s_7),(70,s_70),(71,.int .i64 (n2:Nat)),(72,.int .i64 (i:Nat)),(73,.bool (decide (i<n2)))] a'→Q .normal a' w):∀ac,Frm 87 [(1,s_1),(2,s_2),(3,s_3),(6,s_6),(7,s_7),(70,s_70),(71,.int .i64 (n2:Nat)),(72,.int .i64 (i:Nat))] ac→Code.wp Tryd.prog c_rn_r16 Q ac w := by
  refine fO (frame_rn ?_)
  intros
  rename_i hq
  iterate 8 (obtain ⟨e,hq⟩ := hq; obtain rfl := sI e; clear e)
  clear hq
  conv=>arg 2; whnf
  by_cases h:i<n2
  · have t1:decide ((i:Int)<(n2:Int))=true := by first | exact decide_eq_true (by omega) | exact beq_iff_eq.2 (by omega) | exact bne_iff_ne.2 (by omega)
    have t2:(decide (i<n2))=true := decide_eq_true h
    rw [t2] at hN
    clear h
    replace hN := Lib.hid hN
    go_wp2_with fail
    exact hN.out _ (by exact fR rfl rfl rfl)
  · have t1:decide ((i:Int)<(n2:Int))=false := by first | exact decide_eq_false (by omega) | exact beq_eq_false_iff_ne.2 (by omega) | exact bne_eq_false_iff_eq.2 (by omega)
    have t2:(decide (i<n2))=false := decide_eq_false h
    rw [t2] at hN
    clear h
    replace hN := Lib.hid hN
    go_wp2_with fail
    exact hN.out _ (by exact fR rfl rfl rfl)
def c_rn_r17 := sp 99 9007 cF72
theorem rn_r17_wp (hi:i<n2) (e0:w.cell? ⟨b,o+i * 4,none⟩=some (.int .i64 ke)) (e1:w.cell? ⟨b,o+i * 4+1,none⟩=some (.string ne)) (e2:w.cell? ⟨b,o+i * 4+2,none⟩=some (.slice Ae n3 c3)) (e3:w.cell? ⟨b,o+i * 4+3,none⟩=some (.slice Be n4 c4)) (hbl:b<w.heap.size) (hN:∀a',Frm 87 [(1,s_1),(2,s_2),(3,s_3),(6,s_6),(7,s_7),(70,.slice (some ⟨b,o,none⟩) n2 c2),(71,s_71),(72,.int .i64 (i:Nat)),(12,.pointer (some ⟨w.heap.size,0,none⟩))] a'→Q .normal a' (w.alloc (.cells #[.int .i64 ke,.string ne,.slice Ae n3 c3,.slice Be n4 c4] 29))):∀ac,Frm 87 [(1,s_1),(2,s_2),(3,s_3),(6,s_6),(7,s_7),(70,.slice (some ⟨b,o,none⟩) n2 c2),(71,s_71),(72,.int .i64 (i:Nat))] ac→Code.wp Tryd.prog c_rn_r17 Q ac w := by
  refine fO (frame_rn ?_)
  intros
  rename_i hq
  iterate 8 (obtain ⟨e,hq⟩ := hq; obtain rfl := sI e; clear e)
  clear hq
  conv=>arg 2; whnf
  have q0:(0:Int)≤(i:Int) := by omega
  have q1:(i:Int)<(n2:Int) := by omega
  replace hN := Lib.hid hN
  go_wp2_with fail
  exact hN.out _ (by exact fR rfl rfl rfl)
def c_rn_r18 := sp 99 13103 cF72
theorem rn_r18_wp {s_72:Value} {kk:Nat} {t:Fm} {ge:Nat} {tt:List Fm} (hge:w.heap[ge]? = some (.cells #[.int .i64 ke,.string ne,.slice Ae n3 c3,.slice Be n4 c4] 29 (0,0))) (hbw:bn<wo.heap.size) (htt:tt.length≤1000) (hc:∀W:World,Below w.heap.size w W→Calls Tryd.prog 72 #[.agg #[.int .i64 ke,.string ne,.slice Ae n3 c3,.slice Be n4 c4],.slice De me ee,.func (Fn.func 70) #[] #[.pointer (some ⟨bn,0,none⟩),.pointer (some ⟨bu,0,none⟩)]] W fun e w'=>∃es:List Value,e=.returned (.agg es.toArray)∧fmRep.R w' (fun b=>w.heap.size≤b∧b<w'.heap.size) t es∧Keeps (·=bn) w w'∧w'.heap[bn]? = some (.cells #[.int .i64 (kk:Nat)] 3 (0,0))) (hs:CY (·=bn) wo w vw ws x vs kd nm A n1 c1 B n2 c2) (ho:fmRep.Own 29 (wo.heap.size+3) w (fun b=>wo.heap.size+3≤b∧b<w.heap.size) vs tt) (hN:∀v' a' w',Frm 87 [(1,.slice De me ee),(2,.func (Fn.func 70) #[] #[.pointer (some ⟨bn,0,none⟩),.pointer (some ⟨bu,0,none⟩)]),(3,s_3),(6,s_6),(7,.pointer (some ⟨wo.heap.size+2,0,none⟩)),(70,s_70),(71,s_71),(72,s_72)] a'→CY (·=bn) wo w' vw ws x v' kd nm A n1 c1 B n2 c2→fmRep.Own 29 (wo.heap.size+3) w' (fun b=>wo.heap.size+3≤b∧b<w'.heap.size) v' (tt++[t])→w'.heap[bn]? = some (.cells #[.int .i64 (kk:Nat)] 3 (0,0))→Fra (·=bn) (wo.heap.size+2) w w' vs v'→K a' w'):∀ac,Frm 87 [(1,.slice De me ee),(2,.func (Fn.func 70) #[] #[.pointer (some ⟨bn,0,none⟩),.pointer (some ⟨bu,0,none⟩)]),(3,s_3),(6,s_6),(7,.pointer (some ⟨wo.heap.size+2,0,none⟩)),(70,s_70),(71,s_71),(72,s_72),(12,.pointer (some ⟨ge,0,none⟩))] ac→Code.wp Tryd.prog c_rn_r18 (Exit.then K (fun _ _ _=>False)) ac w := by
  refine fO (frame_rn ?_)
  intros
  rename_i hq
  iterate 9 (obtain ⟨e,hq⟩ := hq; obtain rfl := sI e; clear e)
  clear hq
  conv=>arg 2; whnf
  obtain ⟨ti,hti,hti0,hti1,hti2⟩ := info_parts infoForm
  have g0 := cellv hge 0 rfl
  have g1 := cellv hge 1 rfl
  have g2 := cellv hge 2 rfl
  have g3 := cellv hge 3 rfl
  have gl := lt_heap hge
  clear hge
  obtain ⟨Av,cv,rfl⟩ := ho.len
  obtain ⟨xs,hrow,hall⟩ := id ho
  have a3:w.cell? ⟨wo.heap.size,3,none⟩=some (.slice B n2 c2) := cellv hs.a 3 rfl
  have al := lt_heap hs.a
  have k3:w.cell? ⟨wo.heap.size+2,3,none⟩=some (.slice Av tt.length cv) := cellv hs.c 3 rfl
  have kf := free_heap hs.c 3
  have kl := lt_heap hs.c
  have hwo := hs.b.size
  have HALL := Lib.hid hall
  have HROW := Lib.hid hrow
  have HC := Lib.hid hc
  clear hall hrow hc ho
  replace hs := Lib.hid hs
  generalize hgc:wo.heap.size+2=gc at k3 kf kl hN ⊢
  replace hN := Lib.hid hN
  go_region_law (first
    | (refine step_call (by rfl) 72 _ ?hargs (HC.out _ ?hbel) ?_; (case hargs=>(go_simp; done)); (case hbel=>(go_grown)); rintro e w2 ⟨es,rfl,hes,hb2,hkc⟩; refine ⟨_,rfl,?_⟩; obtain ⟨A5,n5,c5,B5,n6,c6,rfl,_,_,_,_⟩ := Fm.shape hes; have z2 := hb2.size; have kl2:gc<w2.heap.size := (by omega); have m3 := (cell_keep (hb2.block _ kl (fun e=>(by have e:gc=bn := e; omega))) 3).trans k3; have mfz := (World.frozen?_of_block (a := ⟨gc,3,none⟩) (hb2.block _ kl (fun e=>(by have e:gc=bn := e; omega)))).trans kf; have HES := Lib.hid hes; have HB2 := Lib.hid hb2; have HKC := Lib.hid hkc; have HROW2 := Lib.hid (show w2.ownsRow (wo.heap.size+3) 29 4 (.slice Av tt.length cv) tt.length xs from ⟨HROW.out.1,HROW.out.2.imp (fun h=>h) (fun h=>by obtain ⟨g',cap',cur,e,q3,hh,r⟩ := h; exact ⟨g',cap',cur,e,q3,(hb2.block g' (lt_heap hh) (fun e=>(by have e:g'=bn := e; omega))).trans hh,r⟩)⟩); clear hes hb2 hkc)
    | (refine step_append_lies _ (by rfl) (.tmp 77) (.tmp 82) _ (by rfl) (wo.heap.size+3) 29 ti _ 4 72 Tryd.underlying27 hti hti0 hti1 hti2 rfl (by omega) (.slice Av tt.length cv) tt.length xs (by rfl) (by first | exact HROW2.out.alloc _ | exact (HROW2.out.alloc _).drew) ⟨w2.heap.size,0,none⟩ 1 1 [.int .i64 t.lab.kind,.string t.lab.nm,.slice A5 n5 c5,.slice B5 n6 c6] (by rfl) (by rfl) (World.news_of_block (cs := #[.int .i64 t.lab.kind,.string t.lab.nm,.slice A5 n5 c5,.slice B5 n6 c6]) (t := 29) (fr := (0,0)) (by first | exact heap_alloc_new w2 _ | exact heap_drew (heap_alloc_new w2 _))) (by simp [Value.oneCell']) (by omega) (by unfold maxLen; omega) (by omega) (by first | omega | (simp; done) | (simp; omega)) (w2.heap.size+1) (by simp) ?_; intro gq cap w3 hown3 hgrow hat hlt; have hsb := hs.out.subK HROW.out HALL.out HB2.out HES.out (o := .cells #[.int .i64 t.lab.kind,.string t.lab.nm,.slice A5 n5 c5,.slice B5 n6 c6] 29) hown3 ⟨hgrow.os,hgrow.tape,hgrow.output,hgrow.size,hgrow.block⟩ hat; have d3 := cellv hsb.1 3 rfl; have df := free_heap hsb.1 3; have dl := lt_heap hsb.1; rw [hgc] at d3 df dl; have HSB := Lib.hid hsb; clear hown3 hgrow hat hlt hsb))
  all_goals go_wp2_with fail
  all_goals subst hgc
  all_goals exact hN.out _ _ _ (by exact fR rfl rfl rfl) HSB.out.2.1 HSB.out.2.2.1 ((HSB.out.2.2.2.1 bn hbw).trans HKC.out) HSB.out.2.2.2.2
def c_rn_r19 := sp 99 3887 cF72
theorem rn_r19_wp (hi:i<n2) (hlim:n2≤maxLen) (hN:∀a',Frm 87 [(1,s_1),(2,s_2),(3,s_3),(6,s_6),(7,s_7),(70,s_70),(71,s_71),(72,.int .i64 (i+1:Nat))] a'→Q .normal a' w):∀ac,Frm 87 [(1,s_1),(2,s_2),(3,s_3),(6,s_6),(7,s_7),(70,s_70),(71,s_71),(72,.int .i64 (i:Nat))] ac→Code.wp Tryd.prog c_rn_r19 Q ac w := by
  refine fO (frame_rn ?_)
  intros
  rename_i hq
  iterate 8 (obtain ⟨e,hq⟩ := hq; obtain rfl := sI e; clear e)
  clear hq
  conv=>arg 2; whnf
  have hi4:(i:Int)≤9223372036854775806 := by unfold maxLen at hlim; omega
  replace hN := Lib.hid hN
  go_wp2_with fail
  exact hN.out _ (by exact fR rfl rfl rfl)
def c_rn_r20 := sp 99 95 cF72
theorem rn_r20_wp {gc gz:Nat} {Aw Av:Option Addr} {nw cw nv cv:Nat} (hc:w.heap[gc]? = some (.cells #[.int .i64 kd,.string x,.slice Aw nw cw,.slice Av nv cv] 29 (0,0))) (hz:w.heap[gz]? = some (.cells #[.int .i64 0,.string ⟨#[]⟩,.slice none 0 0,.slice none 0 0] 29 (0,0))) (hN:∀a' w',Frm 87 [(6,.pointer (some ⟨gz,0,none⟩))] a'→w'.heap[gz]? = some (.cells #[.int .i64 kd,.string x,.slice Aw nw cw,.slice Av nv cv] 29 (0,0))→Keeps (·=gz) w w'→Q .normal a' w'):∀ac,Frm 87 [(6,.pointer (some ⟨gz,0,none⟩)),(7,.pointer (some ⟨gc,0,none⟩))] ac→Code.wp Tryd.prog c_rn_r20 Q ac w := by
  refine fO (frame_rn ?_)
  intros
  rename_i hq
  iterate 2 (obtain ⟨e,hq⟩ := hq; obtain rfl := sI e; clear e)
  clear hq
  conv=>arg 2; whnf
  have c0 := cellv hc 0 rfl
  have c1 := cellv hc 1 rfl
  have c2 := cellv hc 2 rfl
  have c3 := cellv hc 3 rfl
  have cl := lt_heap hc
  have z0 := cellv hz 0 rfl
  have z1 := cellv hz 1 rfl
  have z2 := cellv hz 2 rfl
  have z3 := cellv hz 3 rfl
  have zf0 := free_heap hz 0
  have zf1 := free_heap hz 1
  have zf2 := free_heap hz 2
  have zf3 := free_heap hz 3
  have zl := lt_heap hz
  have HZ := Lib.hid hz
  clear hc hz
  replace hN := Lib.hid hN
  go_wp2_with fail
  exact hN.out _ _ (id ⟨rfl,rfl,rfl,trivial⟩) (at4F HZ.out) (keeps4F (Keeps.refl _ _) (Or.inl rfl))
theorem rn_ret_wp {R:Ending→World→Prop} {w':World} {g:Nat} {v0 v1 v2 v3:Value} (hg:w'.heap[g]? = some (.cells #[v0,v1,v2,v3] 29 (0,0))) (ho:v0.oneCell'=true∧v1.oneCell'=true∧v2.oneCell'=true∧v3.oneCell'=true) (hR:R (.returned (.agg #[v0,v1,v2,v3])) w'):∀ac,Frm 87 [(6,.pointer (some ⟨g,0,none⟩))] ac→bodyPost Tryd.prog Tryd.f72 R .ret ac w' := by
  refine fO (frame_rn ?_)
  intros
  rename_i hq
  iterate 1 (obtain ⟨e,hq⟩ := hq; obtain rfl := sI e; clear e)
  clear hq
  have z0 := cellv hg 0 rfl
  have z1 := cellv hg 1 rfl
  have z2 := cellv hg 2 rfl
  have z3 := cellv hg 3 rfl
  have zl := lt_heap hg
  obtain ⟨o0,o1,o2,o3⟩ := ho
  refine bodyPost_ret (v := .agg #[v0,v1,v2,v3]) (by simp [results,Tryd.results72,go_sem,z0,z1,z2,z3,zl,o0,o1,o2,o3]) rfl ?_
  exact hR
end

end Go.Proofs.YthfokmjpbnfihaaDoor
