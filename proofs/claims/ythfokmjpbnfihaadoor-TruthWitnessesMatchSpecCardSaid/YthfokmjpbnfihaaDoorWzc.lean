/- Lemmas. -/
import Derived.Test.YthfokmjpbnfihaaDoorWzb
namespace Go.Proofs.YthfokmjpbnfihaaDoor
open Go Go.RowKit
set_option linter.unusedSimpArgs false
set_option linter.unusedVariables false
noncomputable section
set_option maxRecDepth 1000000
set_option maxHeartbeats 16000000
variable {s_1 s_2 s_77 s_78 s_6 s_7 s_79 s_8:Value} {Q:Exit→Act→World→Prop} {wr wo w:World} {rl:List Rel} {j d b o t E c t':Nat} {nm pn:ByteArray} {ar sz pa:Int} {T A T':Option Addr} {tp:List (List Int)} {cl:List Con}

open Classical in
def headCode (sz:Int) (pv:Option Rel) (x:Rel):Nat :=
  if okName x.nm=false then 10 else if x.ar<0∨3<x.ar then 3 else if (pv.any fun p=>decide (0≤cmpR p x))=true then 13 else 0
theorem rel_head (sz:Int) (pv:Option Rel) (x:Rel):relCode sz pv x=if headCode sz pv x=0 then tupsF sz x.ar none x.tp else headCode sz pv x := by
  unfold relCode headCode
  split
  · rfl
  · split
    · rfl
    · split <;> rfl
theorem cmpR_ref (p x:Rel):(0≤cmpR p x) ↔ (Op.bytesLess x.nm.toList p.nm.toList=true∨(p.nm.toList=x.nm.toList∧x.ar≤p.ar)) := by
  unfold cmpR
  cases h1:Op.bytesLess p.nm.toList x.nm.toList with
  | true =>
    have e:cmpS p.nm x.nm = -1 := by unfold cmpS; rw [if_pos h1]
    have h2 := less_asym _ _ h1
    simp only [e,h2]
    constructor
    · intro h; simp at h
    · rintro (h | ⟨h,_⟩)
      · cases h
      · rw [h,less_irr] at h1; cases h1
  | false =>
    cases h2:Op.bytesLess x.nm.toList p.nm.toList with
    | true =>
      have e:cmpS p.nm x.nm=1 := by unfold cmpS; rw [if_neg (by rw [h1]; decide),if_pos h2]
      simp [e]
    | false =>
      have e:cmpS p.nm x.nm=0 := by unfold cmpS; rw [if_neg (by rw [h1]; decide),if_neg (by rw [h2]; decide)]
      have e2 := less_tri _ _ h1 h2
      simp only [e,ne_eq,not_true_eq_false,if_false,cmpI_ge,e2,true_and,Bool.false_eq_true,false_or]
def c_mr_rhead := sp 99 559 cF20
theorem mr_rhead_wp (hN:∀a',Frm 188 [(1,s_1),(2,s_2),(77,s_77),(78,.int .i64 (rl.length:Nat)),(79,.int .i64 (j:Nat)),(80,.bool (decide (j<rl.length)))] a'→Q .normal a' wr):∀ac,Frm 188 [(1,s_1),(2,s_2),(77,s_77),(78,.int .i64 (rl.length:Nat)),(79,.int .i64 (j:Nat))] ac→Code.wp Tryd.prog c_mr_rhead Q ac wr := by
  refine fO (frame_mr ?_)
  intros
  rename_i hq
  iterate 5 (obtain ⟨e,hq⟩ := hq; obtain rfl := sI e; clear e)
  clear hq
  conv=>arg 2; whnf
  replace hN := Lib.hid hN
  by_cases hjl:j<rl.length
  · have q1:(j:Int)<(rl.length:Int) := by omega
    rw [show decide (j<rl.length)=true from decide_eq_true hjl] at hN
    clear hjl
    go_wp2_with fail
    exact hN.out _ (by exact fR rfl rfl rfl)
  · have q1:¬ (j:Int)<(rl.length:Int) := by omega
    rw [show decide (j<rl.length)=false from decide_eq_false hjl] at hN
    clear hjl
    go_wp2_with fail
    exact hN.out _ (by exact fR rfl rfl rfl)
def c_mr_rbox := sp 99 9007 cF20
theorem mr_rbox_wp (hj:j<rl.length) (hb:b<wr.heap.size) (e0:wr.cell? ⟨b,o+j * 3,none⟩=some (.string nm)) (e1:wr.cell? ⟨b,o+j * 3+1,none⟩=some (.int .i64 ar)) (e2:wr.cell? ⟨b,o+j * 3+2,none⟩=some (.slice T tp.length t)) (hN:∀a',Frm 188 [(1,s_1),(2,s_2),(77,.slice (some ⟨b,o,none⟩) rl.length d),(78,s_78),(79,.int .i64 (j:Nat)),(6,.int .i64 (j:Nat)),(7,.pointer (some ⟨wr.heap.size,0,none⟩))] a'→Q .normal a' (wr.alloc (.cells #[.string nm,.int .i64 ar,.slice T tp.length t] 59 (0,0)))):∀ac,Frm 188 [(1,s_1),(2,s_2),(77,.slice (some ⟨b,o,none⟩) rl.length d),(78,s_78),(79,.int .i64 (j:Nat))] ac→Code.wp Tryd.prog c_mr_rbox Q ac wr := by
  refine fO (frame_mr ?_)
  intros
  rename_i hq
  iterate 5 (obtain ⟨e,hq⟩ := hq; obtain rfl := sI e; clear e)
  clear hq
  conv=>arg 2; whnf
  replace hN := Lib.hid hN
  have q0:(0:Int)≤(j:Int) := by omega
  have q1:(j:Int)<(rl.length:Int) := by omega
  have hbl2:b<wr.heap.size+1 := by omega
  go_wp2_with fail
  exact hN.out _ (by exact fR rfl rfl rfl)
def c_mr_r21 := sp 99 21295 cF20
theorem mr_r21_wp (hN:∀a',Frm 188 [(1,s_1),(2,s_2),(77,s_77),(78,s_78),(79,s_79),(6,s_6),(7,s_7),(8,.int .i64 0)] a'→Q .normal a' wo):∀ac,Frm 188 [(1,s_1),(2,s_2),(77,s_77),(78,s_78),(79,s_79),(6,s_6),(7,s_7)] ac→Code.wp Tryd.prog c_mr_r21 Q ac wo := by
  refine fO (frame_mr ?_)
  intros
  rename_i hq
  iterate 7 (obtain ⟨e,hq⟩ := hq; obtain rfl := sI e; clear e)
  clear hq
  conv=>arg 2; whnf
  replace hN := Lib.hid hN
  go_wp2_with fail
  exact hN.out _ (by exact fR rfl rfl rfl)
def c_mr_r23 := sp 99 176943 cF20
theorem mr_r23_wp (hN:∀a',Frm 188 [(1,s_1),(2,s_2),(77,s_77),(78,s_78),(79,s_79),(6,s_6),(7,s_7),(8,.int .i64 10)] a'→Q .normal a' wo):∀ac,Frm 188 [(1,s_1),(2,s_2),(77,s_77),(78,s_78),(79,s_79),(6,s_6),(7,s_7),(8,.int .i64 0)] ac→Code.wp Tryd.prog c_mr_r23 Q ac wo := by
  refine fO (frame_mr ?_)
  intros
  rename_i hq
  iterate 8 (obtain ⟨e,hq⟩ := hq; obtain rfl := sI e; clear e)
  clear hq
  conv=>arg 2; whnf
  replace hN := Lib.hid hN
  go_wp2_with fail
  exact hN.out _ (by exact fR rfl rfl rfl)
def c_mr_r25 := sp 99 766767 cF20
theorem mr_r25_wp (hN:∀a',Frm 188 [(1,s_1),(2,s_2),(77,s_77),(78,s_78),(79,s_79),(6,s_6),(7,s_7),(8,.int .i64 3)] a'→Q .normal a' wo):∀ac,Frm 188 [(1,s_1),(2,s_2),(77,s_77),(78,s_78),(79,s_79),(6,s_6),(7,s_7),(8,.int .i64 0)] ac→Code.wp Tryd.prog c_mr_r25 Q ac wo := by
  refine fO (frame_mr ?_)
  intros
  rename_i hq
  iterate 8 (obtain ⟨e,hq⟩ := hq; obtain rfl := sI e; clear e)
  clear hq
  conv=>arg 2; whnf
  replace hN := Lib.hid hN
  go_wp2_with fail
  exact hN.out _ (by exact fR rfl rfl rfl)
def c_mr_r30 := sp 99 160559 cF20
theorem mr_r30_wp (hN:∀a',Frm 188 [(1,s_1),(2,s_2),(77,s_77),(78,s_78),(79,s_79),(6,s_6),(7,s_7),(8,s_8),(10,.int .i64 0)] a'→Q .normal a' wo):∀ac,Frm 188 [(1,s_1),(2,s_2),(77,s_77),(78,s_78),(79,s_79),(6,s_6),(7,s_7),(8,s_8)] ac→Code.wp Tryd.prog c_mr_r30 Q ac wo := by
  refine fO (frame_mr ?_)
  intros
  rename_i hq
  iterate 8 (obtain ⟨e,hq⟩ := hq; obtain rfl := sI e; clear e)
  clear hq
  conv=>arg 2; whnf
  replace hN := Lib.hid hN
  go_wp2_with fail
  exact hN.out _ (by exact fR rfl rfl rfl)
def c_mr_r22 := sp 99 78639 cF20
theorem mr_r22_wp (hn:nm.size≤maxLen) (hpx:wo.heap[E]?=some (.cells #[.string nm,.int .i64 ar,.slice T tp.length t] 59 (0,0))) (hN:∀a',Frm 188 [(1,s_1),(2,s_2),(77,s_77),(78,s_78),(79,s_79),(6,s_6),(7,.pointer (some ⟨E,0,none⟩)),(8,s_8),(87,.bool (!okName nm))] a'→Q .normal a' wo):∀ac,Frm 188 [(1,s_1),(2,s_2),(77,s_77),(78,s_78),(79,s_79),(6,s_6),(7,.pointer (some ⟨E,0,none⟩)),(8,s_8)] ac→Code.wp Tryd.prog c_mr_r22 Q ac wo := by
  refine fO (frame_mr ?_)
  intros
  rename_i hq
  iterate 8 (obtain ⟨e,hq⟩ := hq; obtain rfl := sI e; clear e)
  clear hq
  conv=>arg 2; whnf
  have hnm := fun W:World=>refName_any nm W hn
  obtain ⟨ok,hok⟩:∃ok,okName nm=ok := ⟨_,rfl⟩
  rw [hok] at hnm
  have HN := Lib.hid hN
  have HNM := Lib.hid hnm
  have HOK := Lib.hid hok
  clear hN hnm hok
  have px := hpx
  clear hpx
  have px_0 := cv0 px
  have px_1 := cv1 px
  have px_2 := cv2 px
  have px_l := lt_heap px
  replace px := Lib.hid px
  go_wp2_with fail
  (with_reducible refine (HNM.out _).mono ?_)
  rintro e wz ⟨rfl,rfl⟩
  go_wp2_with fail
  rw [← HOK.out]
  exact HN.out _ (by exact fR rfl rfl rfl)
def c_mr_r24 := sp 99 373551 cF20
theorem mr_r24_wp (hpx:wo.heap[E]?=some (.cells #[.string nm,.int .i64 ar,.slice T tp.length t] 59 (0,0))) (hN:∀a',Frm 188 [(1,s_1),(2,s_2),(77,s_77),(78,s_78),(79,s_79),(6,s_6),(7,.pointer (some ⟨E,0,none⟩)),(8,s_8),(95,.bool (decide (ar<0∨3<ar)))] a'→Q .normal a' wo):∀ac,Frm 188 [(1,s_1),(2,s_2),(77,s_77),(78,s_78),(79,s_79),(6,s_6),(7,.pointer (some ⟨E,0,none⟩)),(8,s_8)] ac→Code.wp Tryd.prog c_mr_r24 Q ac wo := by
  refine fO (frame_mr ?_)
  intros
  rename_i hq
  iterate 8 (obtain ⟨e,hq⟩ := hq; obtain rfl := sI e; clear e)
  clear hq
  conv=>arg 2; whnf
  replace hN := Lib.hid hN
  have px := hpx
  clear hpx
  have px_0 := cv0 px
  have px_1 := cv1 px
  have px_2 := cv2 px
  have px_l := lt_heap px
  replace px := Lib.hid px
  by_cases hv:ar<0∨3<ar
  · have hv2:ar<0∨(¬ ar<0∧3<ar) := by omega
    rw [show decide (ar<0∨3<ar)=true from decide_eq_true hv] at hN
    clear hv
    rcases hv2 with q5 | ⟨q5,q6⟩
    all_goals
      go_wp2_with fail
      exact hN.out _ (by exact fR rfl rfl rfl)
  · have q5:¬ ar<0 := by omega
    have q6:¬ 3<ar := by omega
    rw [show decide (ar<0∨3<ar)=false from decide_eq_false hv] at hN
    clear hv
    go_wp2_with fail
    exact hN.out _ (by exact fR rfl rfl rfl)
def c_mr_r26 := sp 99 1553199 cF20
theorem mr_r26_wp (hN:∀a',Frm 188 [(1,s_1),(2,s_2),(77,s_77),(78,s_78),(79,s_79),(6,.int .i64 (j:Nat)),(7,s_7),(8,s_8),(97,.bool (decide (0<j)))] a'→Q .normal a' wo):∀ac,Frm 188 [(1,s_1),(2,s_2),(77,s_77),(78,s_78),(79,s_79),(6,.int .i64 (j:Nat)),(7,s_7),(8,s_8)] ac→Code.wp Tryd.prog c_mr_r26 Q ac wo := by
  refine fO (frame_mr ?_)
  intros
  rename_i hq
  iterate 8 (obtain ⟨e,hq⟩ := hq; obtain rfl := sI e; clear e)
  clear hq
  conv=>arg 2; whnf
  replace hN := Lib.hid hN
  by_cases hv:0<j
  · have q1:(0:Int)<(j:Int) := by omega
    rw [show decide (0<j)=true from decide_eq_true hv] at hN
    go_wp2_with fail
    exact hN.out _ (by exact fR rfl rfl rfl)
  · have q1:¬ (0:Int)<(j:Int) := by omega
    rw [show decide (0<j)=false from decide_eq_false hv] at hN
    go_wp2_with fail
    exact hN.out _ (by exact fR rfl rfl rfl)
def c_mr_r27 := sp 99 5223215 cF20
theorem mr_r27_wp {i:Nat} {pl:Nat} (hi:i+1<rl.length) (hb:b<wo.heap.size) (hr:rl.length≤300) (hp0:wo.heap[w.heap.size]?=some (.cells #[.int .i64 sz,.slice A cl.length c,.slice (some ⟨b,o,none⟩) rl.length d] 25 (0,0))) (e0:wo.cell? ⟨b,o+i * 3,none⟩=some (.string pn)) (e1:wo.cell? ⟨b,o+i * 3+1,none⟩=some (.int .i64 pa)) (e2:wo.cell? ⟨b,o+i * 3+2,none⟩=some (.slice T' pl t')) (hN:∀a',Frm 188 [(1,.pointer (some ⟨w.heap.size,0,none⟩)),(2,s_2),(77,s_77),(78,s_78),(79,s_79),(6,.int .i64 (i+1:Nat)),(7,s_7),(8,s_8),(9,.pointer (some ⟨wo.heap.size,0,none⟩))] a'→Q .normal a' (wo.alloc (.cells #[.string pn,.int .i64 pa,.slice T' pl t'] 59 (0,0)))):∀ac,Frm 188 [(1,.pointer (some ⟨w.heap.size,0,none⟩)),(2,s_2),(77,s_77),(78,s_78),(79,s_79),(6,.int .i64 (i+1:Nat)),(7,s_7),(8,s_8)] ac→Code.wp Tryd.prog c_mr_r27 Q ac wo := by
  refine fO (frame_mr ?_)
  intros
  rename_i hq
  iterate 8 (obtain ⟨e,hq⟩ := hq; obtain rfl := sI e; clear e)
  clear hq
  conv=>arg 2; whnf
  replace hN := Lib.hid hN
  have p0 := hp0
  clear hp0
  have p0_0 := cv0 p0
  have p0_1 := cv1 p0
  have p0_2 := cv2 p0
  have p0_l := lt_heap p0
  replace p0 := Lib.hid p0
  have q0:(0:Int)≤(i:Int) := by omega
  have q1:(i:Int)<(rl.length:Int) := by omega
  have hj1:((i+1:Nat):Int) - 1=(i:Int) := by omega
  have hj2:(i:Int)+1 - 1=(i:Int) := by omega
  have hbl2:b<wo.heap.size+1 := by omega
  go_wp2_with fail
  exact hN.out _ (by exact fR rfl rfl rfl)
def c_mr_r28 := sp 99 11514671 cF20
theorem mr_r28_wp {G:Nat} {pt:List (List Int)} (hpx:wo.heap[E]?=some (.cells #[.string nm,.int .i64 ar,.slice T tp.length t] 59 (0,0))) (hpg:wo.heap[G]?=some (.cells #[.string pn,.int .i64 pa,.slice T' pt.length t'] 59 (0,0))) (hN:∀a',Frm 188 [(1,s_1),(2,s_2),(77,s_77),(78,s_78),(79,s_79),(6,s_6),(7,.pointer (some ⟨E,0,none⟩)),(8,s_8),(122,.bool (decide (0≤cmpR ⟨pn,pa,pt⟩ ⟨nm,ar,tp⟩)))] a'→Q .normal a' wo):∀ac,Frm 188 [(1,s_1),(2,s_2),(77,s_77),(78,s_78),(79,s_79),(6,s_6),(7,.pointer (some ⟨E,0,none⟩)),(8,s_8),(9,.pointer (some ⟨G,0,none⟩))] ac→Code.wp Tryd.prog c_mr_r28 Q ac wo := by
  refine fO (frame_mr ?_)
  intros
  rename_i hq
  iterate 9 (obtain ⟨e,hq⟩ := hq; obtain rfl := sI e; clear e)
  clear hq
  conv=>arg 2; whnf
  replace hN := Lib.hid hN
  have px := hpx
  have pg := hpg
  clear hpx hpg
  have px_0 := cv0 px
  have px_1 := cv1 px
  have px_2 := cv2 px
  have px_l := lt_heap px
  replace px := Lib.hid px
  have pg_0 := cv0 pg
  have pg_1 := cv1 pg
  have pg_2 := cv2 pg
  have pg_l := lt_heap pg
  replace pg := Lib.hid pg
  have hcr := cmpR_ref ⟨pn,pa,pt⟩ ⟨nm,ar,tp⟩
  simp only at hcr
  cases l1:Op.bytesLess pn.toList nm.toList with
  | true =>
    have l2 := less_asym _ _ l1
    have l3:(pn.toList == nm.toList)=false := by rw [beq_eq_false_iff_ne]; intro e; rw [e,less_irr] at l1; cases l1
    rw [show decide (0≤cmpR ⟨pn,pa,pt⟩ ⟨nm,ar,tp⟩)=false from decide_eq_false (fun h=>by rcases hcr.1 h with h | ⟨h,_⟩; rw [l2] at h; cases h; rw [h,less_irr] at l1; cases l1)] at hN
    clear hcr
    go_wp2_with fail
    exact hN.out _ (by exact fR rfl rfl rfl)
  | false =>
    cases l2:Op.bytesLess nm.toList pn.toList with
    | true =>
      have l3:(pn.toList == nm.toList)=false := by rw [beq_eq_false_iff_ne]; intro e; rw [e,less_irr] at l2; cases l2
      rw [show decide (0≤cmpR ⟨pn,pa,pt⟩ ⟨nm,ar,tp⟩)=true from decide_eq_true (hcr.2 (Or.inl l2))] at hN
      clear hcr
      go_wp2_with fail
      exact hN.out _ (by exact fR rfl rfl rfl)
    | false =>
      have l4 := less_tri _ _ l1 l2
      have l3:(pn.toList == nm.toList)=true := by rw [l4]; exact beq_self_eq_true _
      by_cases l5:ar≤pa
      · rw [show decide (0≤cmpR ⟨pn,pa,pt⟩ ⟨nm,ar,tp⟩)=true from decide_eq_true (hcr.2 (Or.inr ⟨l4,l5⟩))] at hN
        clear hcr l4
        go_wp2_with fail
        exact hN.out _ (by exact fR rfl rfl rfl)
      · rw [show decide (0≤cmpR ⟨pn,pa,pt⟩ ⟨nm,ar,tp⟩)=false from decide_eq_false (fun h=>by rcases hcr.1 h with h | ⟨_,h⟩; rw [l2] at h; cases h; exact l5 h)] at hN
        clear hcr l4
        go_wp2_with fail
        exact hN.out _ (by exact fR rfl rfl rfl)
def c_mr_r29 := sp 99 24097583 cF20
theorem mr_r29_wp (hN:∀a',Frm 188 [(1,s_1),(2,s_2),(77,s_77),(78,s_78),(79,s_79),(6,s_6),(7,s_7),(8,.int .i64 13)] a'→Q .normal a' wo):∀ac,Frm 188 [(1,s_1),(2,s_2),(77,s_77),(78,s_78),(79,s_79),(6,s_6),(7,s_7),(8,.int .i64 0)] ac→Code.wp Tryd.prog c_mr_r29 Q ac wo := by
  refine fO (frame_mr ?_)
  intros
  rename_i hq
  iterate 8 (obtain ⟨e,hq⟩ := hq; obtain rfl := sI e; clear e)
  clear hq
  conv=>arg 2; whnf
  replace hN := Lib.hid hN
  go_wp2_with fail
  exact hN.out _ (by exact fR rfl rfl rfl)
def c_mr_rcode := sp 99 45871 cF20
theorem mr_rcode_wp {pv:Option Rel} (hj:j<rl.length) (hr:rl.length≤300) (hn:nm.size≤maxLen) (hb:b<wo.heap.size) (hp0:wo.heap[w.heap.size]?=some (.cells #[.int .i64 sz,.slice A cl.length c,.slice (some ⟨b,o,none⟩) rl.length d] 25 (0,0))) (hpx:wo.heap[E]?=some (.cells #[.string nm,.int .i64 ar,.slice T tp.length t] 59 (0,0))) (hpv:∀p,pv=some p→∃i T' t',j=i+1∧wo.cell? ⟨b,o+i * 3,none⟩=some (.string p.nm)∧wo.cell? ⟨b,o+i * 3+1,none⟩=some (.int .i64 p.ar)∧wo.cell? ⟨b,o+i * 3+2,none⟩=some (.slice T' p.tp.length t')) (hpv0:pv=none→j=0)
    (hN:∀a' wx,Frm 188 [(1,.pointer (some ⟨w.heap.size,0,none⟩)),(2,.pointer (some ⟨w.heap.size+1,0,none⟩)),(77,.slice (some ⟨b,o,none⟩) rl.length d),(78,.int .i64 (rl.length:Nat)),(79,.int .i64 (j:Nat)),(6,.int .i64 (j:Nat)),(7,.pointer (some ⟨E,0,none⟩)),(8,.int .i64 (headCode sz pv ⟨nm,ar,tp⟩:Nat))] a'→(∀k,k<wo.heap.size→wx.heap[k]?=wo.heap[k]?)→Below wo.heap.size wo wx→Q .normal a' wx):∀ac,Frm 188 [(1,.pointer (some ⟨w.heap.size,0,none⟩)),(2,.pointer (some ⟨w.heap.size+1,0,none⟩)),(77,.slice (some ⟨b,o,none⟩) rl.length d),(78,.int .i64 (rl.length:Nat)),(79,.int .i64 (j:Nat)),(6,.int .i64 (j:Nat)),(7,.pointer (some ⟨E,0,none⟩)),(8,.int .i64 0)] ac→Code.wp Tryd.prog c_mr_rcode Q ac wo := by
  intro a0 hf0
  conv=>arg 2; whnf
  refine wp_seq ?_
  refine mr_r22_wp hn hpx (fun a1 h1=>?_) a0 hf0
  have h1d:Frm 188 [(1,.pointer (some ⟨w.heap.size,0,none⟩)),(2,.pointer (some ⟨w.heap.size+1,0,none⟩)),(77,.slice (some ⟨b,o,none⟩) rl.length d),(78,.int .i64 (rl.length:Nat)),(79,.int .i64 (j:Nat)),(6,.int .i64 (j:Nat)),(7,.pointer (some ⟨E,0,none⟩)),(8,.int .i64 0)] a1 := have h := h1; (h.pick [0,1,2,3,4,5,6,7])
  cases hok:okName nm with
  | false =>
    refine wp_cond_true ((h1.eval (k := 87) (v := .bool (!okName nm)) (by simp)).trans (by rw [hok]; rfl)) ?_
    refine mr_r23_wp (fun a2 h2=>hN a2 wo ?_ (fun _ _=>rfl) (Below.refl _ _)) a1 h1d
    rw [show headCode sz pv ⟨nm,ar,tp⟩=10 by unfold headCode; rw [if_pos hok]]
    exact h2
  | true =>
    refine wp_cond_false ((h1.eval (k := 87) (v := .bool (!okName nm)) (by simp)).trans (by rw [hok]; rfl)) ?_
    refine wp_seq ?_
    refine mr_r24_wp hpx (fun a2 h2=>?_) a1 h1d
    have h2d:Frm 188 [(1,.pointer (some ⟨w.heap.size,0,none⟩)),(2,.pointer (some ⟨w.heap.size+1,0,none⟩)),(77,.slice (some ⟨b,o,none⟩) rl.length d),(78,.int .i64 (rl.length:Nat)),(79,.int .i64 (j:Nat)),(6,.int .i64 (j:Nat)),(7,.pointer (some ⟨E,0,none⟩)),(8,.int .i64 0)] a2 := have h := h2; (h.pick [0,1,2,3,4,5,6,7])
    by_cases har:ar<0∨3<ar
    · refine wp_cond_true ((h2.eval (k := 95) (v := .bool (decide (ar<0∨3<ar))) (by simp)).trans (by rw [decide_eq_true har])) ?_
      refine mr_r25_wp (fun a3 h3=>hN a3 wo ?_ (fun _ _=>rfl) (Below.refl _ _)) a2 h2d
      rw [show headCode sz pv ⟨nm,ar,tp⟩=3 by unfold headCode; rw [if_neg (by rw [hok]; decide),if_pos har]]
      exact h3
    · have hh:headCode sz pv ⟨nm,ar,tp⟩=if (pv.any fun p=>decide (0≤cmpR p ⟨nm,ar,tp⟩))=true then 13 else 0 := by unfold headCode; rw [if_neg (by rw [hok]; decide),if_neg har]
      rw [hh] at hN
      refine wp_cond_false ((h2.eval (k := 95) (v := .bool (decide (ar<0∨3<ar))) (by simp)).trans (by rw [decide_eq_false har])) ?_
      refine wp_seq ?_
      refine mr_r26_wp (fun a3 h3=>?_) a2 h2d
      have h3d:Frm 188 [(1,.pointer (some ⟨w.heap.size,0,none⟩)),(2,.pointer (some ⟨w.heap.size+1,0,none⟩)),(77,.slice (some ⟨b,o,none⟩) rl.length d),(78,.int .i64 (rl.length:Nat)),(79,.int .i64 (j:Nat)),(6,.int .i64 (j:Nat)),(7,.pointer (some ⟨E,0,none⟩)),(8,.int .i64 0)] a3 := have h := h3; (h.pick [0,1,2,3,4,5,6,7])
      cases pv with
      | none =>
        have hj0 := hpv0 rfl
        refine wp_cond_false ((h3.eval (k := 97) (v := .bool (decide (0<j))) (by simp)).trans (by rw [decide_eq_false (by omega)])) ?_
        exact wp_skip (hN a3 wo h3d (fun _ _=>rfl) (Below.refl _ _))
      | some p =>
        obtain ⟨i,T',t',rfl,f0,f1,f2⟩ := hpv p rfl
        obtain ⟨pn,pa,pt⟩ := p
        simp only at f0 f1 f2
        refine wp_cond_true ((h3.eval (k := 97) (v := .bool (decide (0<i+1))) (by simp)).trans (by rw [decide_eq_true (by omega)])) ?_
        refine wp_seq ?_
        refine mr_r27_wp hj hb hr hp0 f0 f1 f2 (fun a4 h4=>?_) a3 h3d
        refine wp_seq ?_
        have lx := lt_heap hpx
        refine mr_r28_wp (pt := pt) (heap_old lx hpx) (heap_at rfl) (fun a5 h5=>?_) a4 h4
        have h5d:Frm 188 [(1,.pointer (some ⟨w.heap.size,0,none⟩)),(2,.pointer (some ⟨w.heap.size+1,0,none⟩)),(77,.slice (some ⟨b,o,none⟩) rl.length d),(78,.int .i64 (rl.length:Nat)),(79,.int .i64 ((i+1):Nat)),(6,.int .i64 (i+1:Nat)),(7,.pointer (some ⟨E,0,none⟩)),(8,.int .i64 0)] a5 := have h := h5; (h.pick [0,1,2,3,4,5,6,7])
        have hB5:Below wo.heap.size wo (wo.alloc (.cells #[.string pn,.int .i64 pa,.slice T' pt.length t'] 59 (0,0))) := (Below.refl _ _).alloc (Nat.le_refl _) _
        simp only [Option.any_some] at hN
        cases hge:decide (0≤cmpR ⟨pn,pa,pt⟩ ⟨nm,ar,tp⟩) with
        | true =>
          rw [if_pos hge] at hN
          refine wp_cond_true ((h5.eval (k := 122) (v := .bool (decide (0≤cmpR ⟨pn,pa,pt⟩ ⟨nm,ar,tp⟩))) (by simp)).trans (by rw [hge])) ?_
          exact mr_r29_wp (fun a6 h6=>hN a6 _ h6 (fun k hk=>heap_old hk rfl) hB5) a5 h5d
        | false =>
          rw [if_neg (by rw [hge]; decide)] at hN
          refine wp_cond_false ((h5.eval (k := 122) (v := .bool (decide (0≤cmpR ⟨pn,pa,pt⟩ ⟨nm,ar,tp⟩))) (by simp)).trans (by rw [hge])) ?_
          exact wp_skip (hN a5 _ h5d (fun k hk=>heap_old hk rfl) hB5)
end

end Go.Proofs.YthfokmjpbnfihaaDoor
