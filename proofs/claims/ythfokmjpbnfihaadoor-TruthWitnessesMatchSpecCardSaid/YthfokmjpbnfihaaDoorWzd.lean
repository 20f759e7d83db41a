/- Lemmas. -/
import Derived.Test.YthfokmjpbnfihaaDoorWzc
namespace Go.Proofs.YthfokmjpbnfihaaDoor
open Go Go.RowKit
set_option linter.unusedSimpArgs false
set_option linter.unusedVariables false
noncomputable section
set_option maxRecDepth 1000000
set_option maxHeartbeats 16000000
variable {s_1 s_2 s_6 s_77 s_78 s_79 s_8 s_10 s_7 s_11 s_144 s_145 s_146:Value} {Q:Exit→Act→World→Prop} {E t k q t2 r d b o c:Nat} {nm:ByteArray} {ar v sz:Int} {T T2 A:Option Addr} {tp:List (List Int)} {wo w:World} {tu:List Int} {rl:List Rel} {cl:List Con}

def c_mr_r31 := sp 99 2192175 cF20
theorem mr_r31_wp (hpx:wo.heap[E]?=some (.cells #[.string nm,.int .i64 ar,.slice T tp.length t] 59 (0,0))) (hN:∀a',Frm 188 [(1,s_1),(2,s_2),(77,s_77),(78,s_78),(79,s_79),(6,s_6),(7,.pointer (some ⟨E,0,none⟩)),(8,.int .i64 (k:Nat)),(10,.int .i64 (q:Nat)),(131,.bool (decide (q<tp.length∧k=0)))] a'→Q .normal a' wo):∀ac,Frm 188 [(1,s_1),(2,s_2),(77,s_77),(78,s_78),(79,s_79),(6,s_6),(7,.pointer (some ⟨E,0,none⟩)),(8,.int .i64 (k:Nat)),(10,.int .i64 (q:Nat))] ac→Code.wp Tryd.prog c_mr_r31 Q ac wo := by
  refine fO (frame_mr ?_)
  intros
  rename_i hq
  iterate 9 (obtain ⟨e,hq⟩ := hq; obtain rfl := sI e; clear e)
  clear hq
  conv=>arg 2; whnf
  replace hN := Lib.hid hN
  have px := hpx
  clear hpx
  have px_0 := cv0 px
  have px_1 := cv1 px
  have px_2 := cv2 px
  have px_l := lt_heap px
  replace px := Lib.hid px
  by_cases hq:q<tp.length
  case neg =>
    have q1:¬ (q:Int)<(tp.length:Int) := by omega
    rw [show decide (q<tp.length∧k=0)=false from decide_eq_false (fun h=>hq h.1)] at hN
    go_wp2_with fail
    exact hN.out _ (by exact fR rfl rfl rfl)
  have q1:(q:Int)<(tp.length:Int) := by omega
  by_cases hk:k=0
  · subst hk
    rw [show decide (q<tp.length∧(0:Nat)=0)=true from decide_eq_true ⟨hq,rfl⟩] at hN
    go_wp2_with fail
    exact hN.out _ (by exact fR rfl rfl rfl)
  · have q2:((k:Int) == 0)=false := beq_eq_false_iff_ne.2 (by omega)
    rw [show decide (q<tp.length∧k=0)=false from decide_eq_false (fun h=>hk h.2)] at hN
    go_wp2_with fail
    exact hN.out _ (by exact fR rfl rfl rfl)
def c_mr_r33 := sp 99 9007919 cF20
theorem mr_r33_wp {b2 o2:Nat} (hq:q<tp.length) (hb2:b2<wo.heap.size) (hpx:wo.heap[E]?=some (.cells #[.string nm,.int .i64 ar,.slice (some ⟨b2,o2,none⟩) tp.length t] 59 (0,0))) (e0:wo.cell? ⟨b2,o2+q,none⟩=some (.slice T2 tu.length t2)) (hN:∀a',Frm 188 [(1,s_1),(2,s_2),(77,s_77),(78,s_78),(79,s_79),(6,s_6),(7,.pointer (some ⟨E,0,none⟩)),(8,s_8),(10,.int .i64 (q:Nat)),(11,.slice T2 tu.length t2)] a'→Q .normal a' wo):∀ac,Frm 188 [(1,s_1),(2,s_2),(77,s_77),(78,s_78),(79,s_79),(6,s_6),(7,.pointer (some ⟨E,0,none⟩)),(8,s_8),(10,.int .i64 (q:Nat))] ac→Code.wp Tryd.prog c_mr_r33 Q ac wo := by
  refine fO (frame_mr ?_)
  intros
  rename_i hq
  iterate 9 (obtain ⟨e,hq⟩ := hq; obtain rfl := sI e; clear e)
  clear hq
  conv=>arg 2; whnf
  replace hN := Lib.hid hN
  have px := hpx
  clear hpx
  have px_0 := cv0 px
  have px_1 := cv1 px
  have px_2 := cv2 px
  have px_l := lt_heap px
  replace px := Lib.hid px
  have q0:(0:Int)≤(q:Int) := by omega
  have q1:(q:Int)<(tp.length:Int) := by omega
  go_wp2_with fail
  exact hN.out _ (by exact fR rfl rfl rfl)
def c_mr_r34 := sp 99 38368047 cF20
theorem mr_r34_wp (hpx:wo.heap[E]?=some (.cells #[.string nm,.int .i64 ar,.slice T tp.length t] 59 (0,0))) (hN:∀a',Frm 188 [(1,s_1),(2,s_2),(77,s_77),(78,s_78),(79,s_79),(6,s_6),(7,.pointer (some ⟨E,0,none⟩)),(8,s_8),(10,s_10),(11,.slice T2 tu.length t2),(143,.bool (decide ((tu.length:Int)≠ar)))] a'→Q .normal a' wo):∀ac,Frm 188 [(1,s_1),(2,s_2),(77,s_77),(78,s_78),(79,s_79),(6,s_6),(7,.pointer (some ⟨E,0,none⟩)),(8,s_8),(10,s_10),(11,.slice T2 tu.length t2)] ac→Code.wp Tryd.prog c_mr_r34 Q ac wo := by
  refine fO (frame_mr ?_)
  intros
  rename_i hq
  iterate 10 (obtain ⟨e,hq⟩ := hq; obtain rfl := sI e; clear e)
  clear hq
  conv=>arg 2; whnf
  replace hN := Lib.hid hN
  have px := hpx
  clear hpx
  have px_0 := cv0 px
  have px_1 := cv1 px
  have px_2 := cv2 px
  have px_l := lt_heap px
  replace px := Lib.hid px
  by_cases hl:(tu.length:Int)=ar
  · have q1:((tu.length:Int) != ar)=false := by rw [hl]; simp
    rw [show decide ((tu.length:Int)≠ar)=false from decide_eq_false (fun h=>h hl)] at hN
    clear hl
    go_wp2_with fail
    exact hN.out _ (by exact fR rfl rfl rfl)
  · have q1:((tu.length:Int) != ar)=true := bne_iff_ne.2 hl
    rw [show decide ((tu.length:Int)≠ar)=true from decide_eq_true hl] at hN
    clear hl
    go_wp2_with fail
    exact hN.out _ (by exact fR rfl rfl rfl)
def c_mr_r35 := sp 99 155808559 cF20
theorem mr_r35_wp (hN:∀a',Frm 188 [(1,s_1),(2,s_2),(77,s_77),(78,s_78),(79,s_79),(6,s_6),(7,s_7),(8,.int .i64 9),(10,s_10),(11,s_11)] a'→Q .normal a' wo):∀ac,Frm 188 [(1,s_1),(2,s_2),(77,s_77),(78,s_78),(79,s_79),(6,s_6),(7,s_7),(8,.int .i64 0),(10,s_10),(11,s_11)] ac→Code.wp Tryd.prog c_mr_r35 Q ac wo := by
  refine fO (frame_mr ?_)
  intros
  rename_i hq
  iterate 10 (obtain ⟨e,hq⟩ := hq; obtain rfl := sI e; clear e)
  clear hq
  conv=>arg 2; whnf
  replace hN := Lib.hid hN
  go_wp2_with fail
  exact hN.out _ (by exact fR rfl rfl rfl)
def c_mr_r36 := sp 99 80311087 cF20
theorem mr_r36_wp (hN:∀a',Frm 188 [(1,s_1),(2,s_2),(77,s_77),(78,s_78),(79,s_79),(6,s_6),(7,s_7),(8,s_8),(10,s_10),(11,.slice T2 tu.length t2),(144,.slice T2 tu.length t2),(145,.int .i64 (tu.length:Nat)),(146,.int .i64 0)] a'→Q .normal a' wo):∀ac,Frm 188 [(1,s_1),(2,s_2),(77,s_77),(78,s_78),(79,s_79),(6,s_6),(7,s_7),(8,s_8),(10,s_10),(11,.slice T2 tu.length t2)] ac→Code.wp Tryd.prog c_mr_r36 Q ac wo := by
  refine fO (frame_mr ?_)
  intros
  rename_i hq
  iterate 10 (obtain ⟨e,hq⟩ := hq; obtain rfl := sI e; clear e)
  clear hq
  conv=>arg 2; whnf
  replace hN := Lib.hid hN
  go_wp2_with fail
  exact hN.out _ (by exact fR rfl rfl rfl)
def c_mr_r37 := sp 99 583627567 cF20
theorem mr_r37_wp (hN:∀a',Frm 188 [(1,s_1),(2,s_2),(77,s_77),(78,s_78),(79,s_79),(6,s_6),(7,s_7),(8,s_8),(10,s_10),(11,s_11),(144,s_144),(145,.int .i64 (tu.length:Nat)),(146,.int .i64 (r:Nat)),(147,.bool (decide (r<tu.length)))] a'→Q .normal a' wo):∀ac,Frm 188 [(1,s_1),(2,s_2),(77,s_77),(78,s_78),(79,s_79),(6,s_6),(7,s_7),(8,s_8),(10,s_10),(11,s_11),(144,s_144),(145,.int .i64 (tu.length:Nat)),(146,.int .i64 (r:Nat))] ac→Code.wp Tryd.prog c_mr_r37 Q ac wo := by
  refine fO (frame_mr ?_)
  intros
  rename_i hq
  iterate 13 (obtain ⟨e,hq⟩ := hq; obtain rfl := sI e; clear e)
  clear hq
  conv=>arg 2; whnf
  replace hN := Lib.hid hN
  by_cases hq:r<tu.length
  · have q1:(r:Int)<(tu.length:Int) := by omega
    rw [show decide (r<tu.length)=true from decide_eq_true hq] at hN
    go_wp2_with fail
    exact hN.out _ (by exact fR rfl rfl rfl)
  · have q1:¬ (r:Int)<(tu.length:Int) := by omega
    rw [show decide (r<tu.length)=false from decide_eq_false hq] at hN
    go_wp2_with fail
    exact hN.out _ (by exact fR rfl rfl rfl)
def c_mr_r38 := sp 99 9441997615 cF20
theorem mr_r38_wp {b3 o3:Nat} (hr:r<tu.length) (hb3:b3<wo.heap.size) (e0:wo.cell? ⟨b3,o3+r,none⟩=some (.int .i64 v)) (hN:∀a',Frm 188 [(1,s_1),(2,s_2),(77,s_77),(78,s_78),(79,s_79),(6,s_6),(7,s_7),(8,s_8),(10,s_10),(11,s_11),(144,.slice (some ⟨b3,o3,none⟩) tu.length t2),(145,s_145),(146,.int .i64 (r:Nat)),(13,.int .i64 v)] a'→Q .normal a' wo):∀ac,Frm 188 [(1,s_1),(2,s_2),(77,s_77),(78,s_78),(79,s_79),(6,s_6),(7,s_7),(8,s_8),(10,s_10),(11,s_11),(144,.slice (some ⟨b3,o3,none⟩) tu.length t2),(145,s_145),(146,.int .i64 (r:Nat))] ac→Code.wp Tryd.prog c_mr_r38 Q ac wo := by
  refine fO (frame_mr ?_)
  intros
  rename_i hq
  iterate 13 (obtain ⟨e,hq⟩ := hq; obtain rfl := sI e; clear e)
  clear hq
  conv=>arg 2; whnf
  replace hN := Lib.hid hN
  have q0:(0:Int)≤(r:Int) := by omega
  have q1:(r:Int)<(tu.length:Int) := by omega
  go_wp2_with fail
  exact hN.out _ (by exact fR rfl rfl rfl)
def c_mr_r39 := sp 99 22326899503 cF20
theorem mr_r39_wp (hp0:wo.heap[w.heap.size]?=some (.cells #[.int .i64 sz,.slice A cl.length c,.slice (some ⟨b,o,none⟩) rl.length d] 25 (0,0))) (hN:∀a',Frm 188 [(1,.pointer (some ⟨w.heap.size,0,none⟩)),(2,s_2),(77,s_77),(78,s_78),(79,s_79),(6,s_6),(7,s_7),(8,s_8),(10,s_10),(11,s_11),(144,s_144),(145,s_145),(146,s_146),(157,.bool (badV sz v))] a'→Q .normal a' wo):∀ac,Frm 188 [(1,.pointer (some ⟨w.heap.size,0,none⟩)),(2,s_2),(77,s_77),(78,s_78),(79,s_79),(6,s_6),(7,s_7),(8,s_8),(10,s_10),(11,s_11),(144,s_144),(145,s_145),(146,s_146),(13,.int .i64 v)] ac→Code.wp Tryd.prog c_mr_r39 Q ac wo := by
  refine fO (frame_mr ?_)
  intros
  rename_i hq
  iterate 14 (obtain ⟨e,hq⟩ := hq; obtain rfl := sI e; clear e)
  clear hq
  conv=>arg 2; whnf
  replace hN := Lib.hid hN
  have p0 := hp0
  clear hp0
  have p0_0 := cv0 p0
  have p0_1 := cv1 p0
  have p0_2 := cv2 p0
  have p0_l := lt_heap p0
  replace p0 := Lib.hid p0
  by_cases hv:v<0∨sz≤v
  · have hbv:badV sz v=true := by simp only [badV,decide_eq_true_eq]; exact hv
    have hv2:v<0∨(¬ v<0∧sz≤v) := by omega
    rw [hbv] at hN
    clear hv hbv
    rcases hv2 with q5 | ⟨q5,q6⟩
    all_goals
      go_wp2_with fail
      exact hN.out _ (by exact fR rfl rfl rfl)
  · have hbv:badV sz v=false := by simp only [badV,decide_eq_false_iff_not]; exact hv
    have q5:¬ v<0 := by omega
    have q6:¬ sz≤v := by omega
    rw [hbv] at hN
    clear hv hbv
    go_wp2_with fail
    exact hN.out _ (by exact fR rfl rfl rfl)
def c_mr_r40 := sp 99 48096703279 cF20
theorem mr_r40_wp (hN:∀a',Frm 188 [(1,s_1),(2,s_2),(77,s_77),(78,s_78),(79,s_79),(6,s_6),(7,s_7),(8,.int .i64 3),(10,s_10),(11,s_11),(144,s_144),(145,s_145),(146,s_146)] a'→Q .normal a' wo):∀ac,Frm 188 [(1,s_1),(2,s_2),(77,s_77),(78,s_78),(79,s_79),(6,s_6),(7,s_7),(8,.int .i64 (k:Nat)),(10,s_10),(11,s_11),(144,s_144),(145,s_145),(146,s_146)] ac→Code.wp Tryd.prog c_mr_r40 Q ac wo := by
  refine fO (frame_mr ?_)
  intros
  rename_i hq
  iterate 13 (obtain ⟨e,hq⟩ := hq; obtain rfl := sI e; clear e)
  clear hq
  conv=>arg 2; whnf
  replace hN := Lib.hid hN
  go_wp2_with fail
  exact hN.out _ (by exact fR rfl rfl rfl)
def c_mr_r41 := sp 99 4073288495 cF20
theorem mr_r41_wp (hr:r<tu.length) (hl:tu.length≤9223372036854775807) (hN:∀a',Frm 188 [(1,s_1),(2,s_2),(77,s_77),(78,s_78),(79,s_79),(6,s_6),(7,s_7),(8,s_8),(10,s_10),(11,s_11),(144,s_144),(145,s_145),(146,.int .i64 (r+1:Nat))] a'→Q .normal a' wo):∀ac,Frm 188 [(1,s_1),(2,s_2),(77,s_77),(78,s_78),(79,s_79),(6,s_6),(7,s_7),(8,s_8),(10,s_10),(11,s_11),(144,s_144),(145,s_145),(146,.int .i64 (r:Nat))] ac→Code.wp Tryd.prog c_mr_r41 Q ac wo := by
  refine fO (frame_mr ?_)
  intros
  rename_i hq
  iterate 13 (obtain ⟨e,hq⟩ := hq; obtain rfl := sI e; clear e)
  clear hq
  conv=>arg 2; whnf
  replace hN := Lib.hid hN
  have hw:((r:Int)+1)=((r+1:Nat):Int) := by omega
  replace hw := Lib.hid hw
  go_wp2_with fail
  rw [hw.out]
  exact hN.out _ (by exact fR rfl rfl rfl)
def c_mr_row := sp 99 180974383 cF20
theorem mr_row_wp {j:Nat} {S:Nat→Prop} (hl:tu.length≤9223372036854775807) (hp0:wo.heap[w.heap.size]?=some (.cells #[.int .i64 sz,.slice A cl.length c,.slice (some ⟨b,o,none⟩) rl.length d] 25 (0,0))) (hz:zRep.Sl wo S (.slice T2 tu.length t2) tu) (hS:∀b,S b→b<wo.heap.size)
    (hX:∀a',Frm 188 [(1,.pointer (some ⟨w.heap.size,0,none⟩)),(2,.pointer (some ⟨w.heap.size+1,0,none⟩)),(77,.slice (some ⟨b,o,none⟩) rl.length d),(78,.int .i64 (rl.length:Nat)),(79,.int .i64 (j:Nat)),(6,.int .i64 (j:Nat)),(7,.pointer (some ⟨E,0,none⟩)),(8,.int .i64 (if tu.any (badV sz)=true then 3 else 0:Nat)),(10,.int .i64 (q:Nat)),(11,.slice T2 tu.length t2)] a'→Q (.exit 6) a' wo):∀ac,Frm 188 [(1,.pointer (some ⟨w.heap.size,0,none⟩)),(2,.pointer (some ⟨w.heap.size+1,0,none⟩)),(77,.slice (some ⟨b,o,none⟩) rl.length d),(78,.int .i64 (rl.length:Nat)),(79,.int .i64 (j:Nat)),(6,.int .i64 (j:Nat)),(7,.pointer (some ⟨E,0,none⟩)),(8,.int .i64 0),(10,.int .i64 (q:Nat)),(11,.slice T2 tu.length t2),(144,.slice T2 tu.length t2),(145,.int .i64 (tu.length:Nat)),(146,.int .i64 0)] ac→Code.wp Tryd.prog c_mr_row Q ac wo := by
  intro a0 hf0
  conv=>arg 2; whnf
  refine wp_loopR (fun g a' w'=>∃r k:Nat,w'=wo∧r+g=tu.length∧k=(if (tu.take r).any (badV sz)=true then 3 else 0)∧Frm 188 [(1,.pointer (some ⟨w.heap.size,0,none⟩)),(2,.pointer (some ⟨w.heap.size+1,0,none⟩)),(77,.slice (some ⟨b,o,none⟩) rl.length d),(78,.int .i64 (rl.length:Nat)),(79,.int .i64 (j:Nat)),(6,.int .i64 (j:Nat)),(7,.pointer (some ⟨E,0,none⟩)),(8,.int .i64 (k:Nat)),(10,.int .i64 (q:Nat)),(11,.slice T2 tu.length t2),(144,.slice T2 tu.length t2),(145,.int .i64 (tu.length:Nat)),(146,.int .i64 (r:Nat))] a') tu.length ⟨0,0,rfl,by omega,by simp,hf0⟩ ?_
  rintro g a1 w1 ⟨r,k,rfl,hg,hk,hfr⟩
  refine wp_seq ?_
  refine mr_r37_wp (fun a2 h2=>?_) a1 hfr
  have h2d:Frm 188 [(1,.pointer (some ⟨w.heap.size,0,none⟩)),(2,.pointer (some ⟨w.heap.size+1,0,none⟩)),(77,.slice (some ⟨b,o,none⟩) rl.length d),(78,.int .i64 (rl.length:Nat)),(79,.int .i64 (j:Nat)),(6,.int .i64 (j:Nat)),(7,.pointer (some ⟨E,0,none⟩)),(8,.int .i64 (k:Nat)),(10,.int .i64 (q:Nat)),(11,.slice T2 tu.length t2),(144,.slice T2 tu.length t2),(145,.int .i64 (tu.length:Nat)),(146,.int .i64 (r:Nat))] a2 := have h := h2; (h.pick [0,1,2,3,4,5,6,7,8,9,10,11,12])
  refine wp_seq ?_
  by_cases hr:r<tu.length
  case neg =>
    refine wp_cond_false ((h2.eval (k := 147) (v := .bool (decide (r<tu.length))) (by simp)).trans (by rw [decide_eq_false hr])) ?_
    rw [List.take_of_length_le (by omega)] at hk
    have h := h2
    rw [hk] at h
    exact wp_exit (hX a2 (h.pick [0,1,2,3,4,5,6,7,8,9]))
  refine wp_cond_true ((h2.eval (k := 147) (v := .bool (decide (r<tu.length))) (by simp)).trans (by rw [decide_eq_true hr])) ?_
  refine wp_skip ?_
  refine wp_seq ?_
  refine wp_block ?_
  obtain ⟨b3,o3,hA3,hSb3,k0⟩ := int_at hz hr
  subst hA3
  refine wp_seq ?_
  refine mr_r38_wp hr (hS b3 hSb3) k0 (fun a3 h3=>?_) a2 h2d
  refine wp_seq ?_
  refine mr_r39_wp (sz := sz) (by assumption) (fun a4 h4=>?_) a3 h3
  have h4d:Frm 188 [(1,.pointer (some ⟨w.heap.size,0,none⟩)),(2,.pointer (some ⟨w.heap.size+1,0,none⟩)),(77,.slice (some ⟨b,o,none⟩) rl.length d),(78,.int .i64 (rl.length:Nat)),(79,.int .i64 (j:Nat)),(6,.int .i64 (j:Nat)),(7,.pointer (some ⟨E,0,none⟩)),(8,.int .i64 (k:Nat)),(10,.int .i64 (q:Nat)),(11,.slice (some ⟨b3,o3,none⟩) tu.length t2),(144,.slice (some ⟨b3,o3,none⟩) tu.length t2),(145,.int .i64 (tu.length:Nat)),(146,.int .i64 (r:Nat))] a4 := have h := h4; (h.pick [0,1,2,3,4,5,6,7,8,9,10,11,12])
  have htk:(tu.take (r+1)).any (badV sz)=((tu.take r).any (badV sz) || badV sz tu[r]) := by
    rw [List.take_succ_eq_append_getElem hr,List.any_append]; simp
  have hnext:∀(k2:Nat) a5,k2=(if (tu.take (r+1)).any (badV sz)=true then 3 else 0)→Frm 188 [(1,.pointer (some ⟨w.heap.size,0,none⟩)),(2,.pointer (some ⟨w.heap.size+1,0,none⟩)),(77,.slice (some ⟨b,o,none⟩) rl.length d),(78,.int .i64 (rl.length:Nat)),(79,.int .i64 (j:Nat)),(6,.int .i64 (j:Nat)),(7,.pointer (some ⟨E,0,none⟩)),(8,.int .i64 (k2:Nat)),(10,.int .i64 (q:Nat)),(11,.slice (some ⟨b3,o3,none⟩) tu.length t2),(144,.slice (some ⟨b3,o3,none⟩) tu.length t2),(145,.int .i64 (tu.length:Nat)),(146,.int .i64 (r:Nat))] a5→Code.wp Tryd.prog c_mr_r41 (Exit.then (fun a' w'=>∃m,m<g∧(fun g a' w'=>∃r k:Nat,w'=w1∧r+g=tu.length∧k=(if (tu.take r).any (badV sz)=true then 3 else 0)∧Frm 188 [(1,.pointer (some ⟨w.heap.size,0,none⟩)),(2,.pointer (some ⟨w.heap.size+1,0,none⟩)),(77,.slice (some ⟨b,o,none⟩) rl.length d),(78,.int .i64 (rl.length:Nat)),(79,.int .i64 (j:Nat)),(6,.int .i64 (j:Nat)),(7,.pointer (some ⟨E,0,none⟩)),(8,.int .i64 (k:Nat)),(10,.int .i64 (q:Nat)),(11,.slice (some ⟨b3,o3,none⟩) tu.length t2),(144,.slice (some ⟨b3,o3,none⟩) tu.length t2),(145,.int .i64 (tu.length:Nat)),(146,.int .i64 (r:Nat))] a') m a' w') Q) a5 w1 := by
    intro k2 a5 hk2 h5
    refine mr_r41_wp hr hl (fun a6 h6=>?_) a5 h5
    exact ⟨g - 1,by omega,r+1,k2,rfl,by omega,hk2,h6⟩
  cases hbv:badV sz tu[r] with
  | true =>
    refine wp_cond_true ((h4.eval (k := 157) (v := .bool (badV sz tu[r])) (by simp)).trans (by rw [hbv])) ?_
    refine mr_r40_wp (fun a5 h5=>?_) a4 h4d
    exact hnext 3 a5 (by rw [htk,hbv,Bool.or_true,if_pos rfl]) h5
  | false =>
    refine wp_cond_false ((h4.eval (k := 157) (v := .bool (badV sz tu[r])) (by simp)).trans (by rw [hbv])) ?_
    refine wp_skip ?_
    exact hnext k a4 (by rw [htk,hbv,Bool.or_false]; exact hk) h4d
end

end Go.Proofs.YthfokmjpbnfihaaDoor
