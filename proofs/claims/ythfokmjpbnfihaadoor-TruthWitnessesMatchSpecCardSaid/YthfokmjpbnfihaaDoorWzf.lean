/- Lemmas. -/
import Derived.Test.YthfokmjpbnfihaaDoorWze
namespace Go.Proofs.YthfokmjpbnfihaaDoor
open Go Go.RowKit
set_option linter.unusedSimpArgs false
set_option linter.unusedVariables false
noncomputable section
set_option maxRecDepth 1000000
set_option maxHeartbeats 16000000
variable {s_1 s_77 s_78 s_2:Value} {Q:Exit→Act→World→Prop} {w wo wr:World} {sz:Int} {cl:List Con} {rl:List Rel} {A B:Option Addr} {d:Nat}

def c_mr_rret := sp 99 127791 cF20
theorem mr_rret_wp {s_7 s_79:Value} {j:Nat} {k:Nat} (hpf:wo.heap[w.heap.size+1]?=some (.cells #[.int .i64 0,.int .i64 0] 32 (0,0))) (hB:Below w.heap.size w wo) (hR:k≠0→∀a' w',Frm 188 [(2,.pointer (some ⟨w.heap.size+1,0,none⟩))] a'→w'.heap[w.heap.size+1]?=some (.cells #[.int .i64 (k:Nat),.int .i64 (j:Nat)] 32 (0,0))→Below w.heap.size w w'→Q .ret a' w') (hN:k=0→∀a',Frm 188 [(1,s_1),(2,.pointer (some ⟨w.heap.size+1,0,none⟩)),(77,s_77),(78,s_78),(79,s_79)] a'→Q .normal a' wo):∀ac,Frm 188 [(1,s_1),(2,.pointer (some ⟨w.heap.size+1,0,none⟩)),(77,s_77),(78,s_78),(79,s_79),(6,.int .i64 (j:Nat)),(7,s_7),(8,.int .i64 (k:Nat))] ac→Code.wp Tryd.prog c_mr_rret Q ac wo := by
  refine fO (frame_mr ?_)
  intros
  rename_i hq
  iterate 8 (obtain ⟨e,hq⟩ := hq; obtain rfl := sI e; clear e)
  clear hq
  conv=>arg 2; whnf
  have HR := Lib.hid hR
  have HN := Lib.hid hN
  have HB := Lib.hid hB
  clear hR hN hB
  have pf := hpf
  clear hpf
  have pf_0 := cv0 pf
  have pf_1 := cv1 pf
  have pf_f0 := free_heap pf 0
  have pf_f1 := free_heap pf 1
  have pf_l := lt_heap pf
  replace pf := Lib.hid pf
  by_cases hk:k=0
  · have q1:((k:Int) != 0)=false := by rw [hk]; rfl
    replace HN := Lib.hid (HN.out hk)
    clear hk
    go_wp2_with fail
    exact HN.out _ (by exact fR rfl rfl rfl)
  · have q1:((k:Int) != 0)=true := bne_iff_ne.2 (by omega)
    replace HR := Lib.hid (HR.out hk)
    clear hk
    go_wp2_with fail
    exact HR.out _ _ (id ⟨rfl,rfl,rfl,trivial⟩) (at2 pf.out) (below2 HB.out (by omega))
def c_mr_rinc := sp 99 3887 cF20
theorem mr_rinc_wp {j:Nat} (hj:j≤300) (hN:∀a',Frm 188 [(1,s_1),(2,s_2),(77,s_77),(78,s_78),(79,.int .i64 (j+1:Nat))] a'→Q .normal a' wo):∀ac,Frm 188 [(1,s_1),(2,s_2),(77,s_77),(78,s_78),(79,.int .i64 (j:Nat))] ac→Code.wp Tryd.prog c_mr_rinc Q ac wo := by
  refine fO (frame_mr ?_)
  intros
  rename_i hq
  iterate 5 (obtain ⟨e,hq⟩ := hq; obtain rfl := sI e; clear e)
  clear hq
  conv=>arg 2; whnf
  replace hN := Lib.hid hN
  have hw:((j:Int)+1)=((j+1:Nat):Int) := by omega
  replace hw := Lib.hid hw
  go_wp2_with fail
  rw [hw.out]
  exact hN.out _ (by exact fR rfl rfl rfl)
def c_mr_r18 := sp 99 79 cF20
theorem mr_r18_wp {c:Nat} (hp0:wr.heap[w.heap.size]?=some (.cells #[.int .i64 sz,.slice A cl.length c,.slice B rl.length d] 25 (0,0))) (hN:∀a',Frm 188 [(1,.pointer (some ⟨w.heap.size,0,none⟩)),(2,s_2),(77,.slice B rl.length d),(78,.int .i64 (rl.length:Nat)),(79,.int .i64 0)] a'→Q .normal a' wr):∀ac,Frm 188 [(1,.pointer (some ⟨w.heap.size,0,none⟩)),(2,s_2)] ac→Code.wp Tryd.prog c_mr_r18 Q ac wr := by
  refine fO (frame_mr ?_)
  intros
  rename_i hq
  iterate 2 (obtain ⟨e,hq⟩ := hq; obtain rfl := sI e; clear e)
  clear hq
  conv=>arg 2; whnf
  replace hN := Lib.hid hN
  have p0 := hp0
  clear hp0
  have p0_0 := cv0 p0
  have p0_1 := cv1 p0
  have p0_2 := cv2 p0
  have p0_l := lt_heap p0
  replace p0 := Lib.hid p0
  go_wp2_with fail
  exact hN.out _ (by exact fR rfl rfl rfl)
def c_mr_r47 := sp 99 63 cF20
theorem mr_r47_wp (hpf:wr.heap[w.heap.size+1]?=some (.cells #[.int .i64 0,.int .i64 0] 32 (0,0))) (hB:Below w.heap.size w wr) (hR:∀a' w',Frm 188 [(2,.pointer (some ⟨w.heap.size+1,0,none⟩))] a'→w'.heap[w.heap.size+1]?=some (.cells #[.int .i64 0,.int .i64 0] 32 (0,0))→Below w.heap.size w w'→Q .ret a' w'):∀ac,Frm 188 [(1,s_1),(2,.pointer (some ⟨w.heap.size+1,0,none⟩))] ac→Code.wp Tryd.prog c_mr_r47 Q ac wr := by
  refine fO (frame_mr ?_)
  intros
  rename_i hq
  iterate 2 (obtain ⟨e,hq⟩ := hq; obtain rfl := sI e; clear e)
  clear hq
  conv=>arg 2; whnf
  have HR := Lib.hid hR
  have HB := Lib.hid hB
  clear hR hB
  have pf := hpf
  clear hpf
  have pf_0 := cv0 pf
  have pf_1 := cv1 pf
  have pf_f0 := free_heap pf 0
  have pf_f1 := free_heap pf 1
  have pf_l := lt_heap pf
  replace pf := Lib.hid pf
  go_wp2_with fail
  exact HR.out _ _ (id ⟨rfl,rfl,rfl,trivial⟩) (at2 pf.out) (below2 HB.out (by omega))
def c_mr_rloop := sp 99 175 cF20
theorem mr_rloop_wp {wi:World} {S:Nat→Prop} {c:Nat} (hs:1≤sz∧sz≤6) (hrl:rl.length≤300) (hR':relRep.Sl w S (.slice B rl.length d) rl) (hS:∀b,S b→b<w.heap.size) (h0:wi.heap[w.heap.size]?=some (.cells #[.int .i64 sz,.slice A cl.length c,.slice B rl.length d] 25 (0,0))∧wi.heap[w.heap.size+1]?=some (.cells #[.int .i64 0,.int .i64 0] 32 (0,0))∧Below w.heap.size w wi)
    (hR:∀(k j:Nat),k≠0→relsF sz none 0 rl=(k,j)→∀a' w',Frm 188 [(2,.pointer (some ⟨w.heap.size+1,0,none⟩))] a'→w'.heap[w.heap.size+1]?=some (.cells #[.int .i64 (k:Nat),.int .i64 (j:Nat)] 32 (0,0))→Below w.heap.size w w'→Q .ret a' w')
    (hX:relsF sz none 0 rl=(0,0)→∀a' wx,Frm 188 [(1,.pointer (some ⟨w.heap.size,0,none⟩)),(2,.pointer (some ⟨w.heap.size+1,0,none⟩))] a'→wx.heap[w.heap.size]?=some (.cells #[.int .i64 sz,.slice A cl.length c,.slice B rl.length d] 25 (0,0))∧wx.heap[w.heap.size+1]?=some (.cells #[.int .i64 0,.int .i64 0] 32 (0,0))∧Below w.heap.size w wx→Q (.exit 2) a' wx):∀ac,Frm 188 [(1,.pointer (some ⟨w.heap.size,0,none⟩)),(2,.pointer (some ⟨w.heap.size+1,0,none⟩)),(77,.slice B rl.length d),(78,.int .i64 (rl.length:Nat)),(79,.int .i64 0)] ac→Code.wp Tryd.prog c_mr_rloop Q ac wi := by
  intro a0 hf0
  conv=>arg 2; whnf
  refine wp_loopR (fun k a' w'=>∃j:Nat,j+k=rl.length∧relsF sz (prevOf rl j) j (rl.drop j)=relsF sz none 0 rl∧w'.heap[w.heap.size]?=some (.cells #[.int .i64 sz,.slice A cl.length c,.slice B rl.length d] 25 (0,0))∧w'.heap[w.heap.size+1]?=some (.cells #[.int .i64 0,.int .i64 0] 32 (0,0))∧Below w.heap.size w w'∧Frm 188 [(1,.pointer (some ⟨w.heap.size,0,none⟩)),(2,.pointer (some ⟨w.heap.size+1,0,none⟩)),(77,.slice B rl.length d),(78,.int .i64 (rl.length:Nat)),(79,.int .i64 (j:Nat))] a') rl.length ⟨0,by omega,rfl,h0.1,h0.2.1,h0.2.2,hf0⟩ ?_
  rintro k a1 wr ⟨j,hk,hc,hp0,hpf,hB,hfr⟩
  refine wp_seq ?_
  refine mr_rhead_wp (fun a2 h2=>?_) a1 hfr
  have h2d:Frm 188 [(1,.pointer (some ⟨w.heap.size,0,none⟩)),(2,.pointer (some ⟨w.heap.size+1,0,none⟩)),(77,.slice B rl.length d),(78,.int .i64 (rl.length:Nat)),(79,.int .i64 (j:Nat))] a2 := have h := h2; (h.pick [0,1,2,3,4])
  refine wp_seq ?_
  by_cases hjl:j<rl.length
  case neg =>
    refine wp_cond_false ((h2.eval (k := 80) (v := .bool (decide (j<rl.length))) (by simp)).trans (by rw [decide_eq_false hjl])) ?_
    have hz:relsF sz none 0 rl=(0,0) := by rw [← hc,List.drop_eq_nil_of_le (by omega)]; rfl
    have h := h2
    exact wp_exit (hX hz a2 wr (h.pick [0,1]) ⟨hp0,hpf,hB⟩)
  refine wp_cond_true ((h2.eval (k := 80) (v := .bool (decide (j<rl.length))) (by simp)).trans (by rw [decide_eq_true hjl])) ?_
  refine wp_skip ?_
  have hR2 := hR'.keep (w' := wr) (S' := S) (fun b hb=>hB.block b (hS b hb)) (fun _ h=>h)
  rw [relsF_step hjl] at hc
  obtain ⟨b,o,T,t,hA,hSb,e0,e1,e2,hn,htl,htp⟩ := rel_at hR2 hjl
  subst hA
  have hbl := hS b hSb
  have hbz := hB.size
  obtain ⟨⟨nm,ar,tp⟩,hv⟩:∃x,rl[j]=x := ⟨_,rfl⟩
  rw [hv] at e0 e1 e2 hn hc htl htp
  simp only at e0 e1 e2 hn htl htp
  have hpv:∀p,prevOf rl j=some p→∃i T' t',j=i+1∧wr.cell? ⟨b,o+i * 3,none⟩=some (.string p.nm)∧wr.cell? ⟨b,o+i * 3+1,none⟩=some (.int .i64 p.ar)∧wr.cell? ⟨b,o+i * 3+2,none⟩=some (.slice T' p.tp.length t') := by
    intro p hp
    cases j with
    | zero=>cases hp
    | succ i =>
      obtain ⟨b2,o2,T',t',hA2,_,f0,f1,f2,_⟩ := rel_at hR2 (j := i) (by omega)
      simp only [Option.some.injEq,Addr.mk.injEq] at hA2
      obtain ⟨rfl,rfl,_⟩ := hA2
      refine ⟨i,T',t',rfl,?_⟩
      have:rl[i]?=some p := hp
      rw [List.getElem?_eq_getElem (by omega)] at this
      rw [← Option.some.inj this]
      exact ⟨f0,f1,f2⟩
  have hpv0:prevOf rl j=none→j=0 := by
    intro e
    cases j with
    | zero=>rfl
    | succ i =>
      have h3:rl[i]?=none := e
      rw [List.getElem?_eq_getElem (by omega)] at h3
      cases h3
  have lw:w.heap.size<wr.heap.size := lt_heap hp0
  have lf:w.heap.size+1<wr.heap.size := lt_heap hpf
  refine wp_seq ?_
  refine wp_block ?_
  refine wp_seq ?_
  refine mr_rbox_wp hjl (by omega) e0 e1 e2 (fun a3 h3=>?_) a2 h2d
  refine wp_seq ?_
  refine mr_r21_wp (fun a4 h4=>?_) a3 h3
  refine wp_seq ?_
  refine mr_rcode_wp (sz := sz) (pv := prevOf rl j) hjl hrl hn (by simp; omega) (heap_old lw hp0) (heap_at rfl) (fun p hp=>?_) hpv0 (fun a5 w5 h5 k5 b5=>?_) a4 h4
  · obtain ⟨i,T',t',h1,h2,h3,h4⟩ := hpv p hp
    exact ⟨i,T',t',h1,(cell_keep (heap_old (by omega) rfl) _).trans h2,(cell_keep (heap_old (by omega) rfl) _).trans h3,(cell_keep (heap_old (by omega) rfl) _).trans h4⟩
  obtain ⟨wo,hwo⟩:∃wo,wr.alloc (.cells #[.string nm,.int .i64 ar,.slice T tp.length t] 59 (0,0))=wo := ⟨_,rfl⟩
  have hzo:wo.heap.size=wr.heap.size+1 := by rw [← hwo]; simp
  rw [hwo] at k5 b5
  have kold:∀k,k<wr.heap.size→w5.heap[k]?=wr.heap[k]? := fun k hk=>(k5 k (by omega)).trans (by rw [← hwo]; exact heap_old hk rfl)
  have p5 := (kold _ lw).trans hp0
  have f5 := (kold _ lf).trans hpf
  have x5:w5.heap[wr.heap.size]?=some (.cells #[.string nm,.int .i64 ar,.slice T tp.length t] 59 (0,0)) := (k5 _ (by omega)).trans (by rw [← hwo]; exact heap_at rfl)
  have hB5:Below w.heap.size w w5 := (show Below w.heap.size w wo by rw [← hwo]; exact hB.alloc (by omega) _).trans (b5.mono (by omega))
  have z5:wo.heap.size≤w5.heap.size := b5.size
  have ht5 := htp.keep (w' := w5) (S' := S) (fun b hb=>kold b (by have := hS b hb; omega)) (fun _ h=>h)
  obtain ⟨k0,hk0⟩:∃k0,headCode sz (prevOf rl j) ⟨nm,ar,tp⟩=k0 := ⟨_,rfl⟩
  have hrh := rel_head sz (prevOf rl j) ⟨nm,ar,tp⟩
  rw [hk0] at hrh h5
  simp only at hrh
  have har:k0=0→0≤ar∧ar≤3 := by
    rintro rfl
    unfold headCode at hk0
    split at hk0
    · cases hk0
    · split at hk0
      · cases hk0
      · rename_i h9
        simp only at h9
        omega
  refine wp_seq ?_
  refine wp_seq ?_
  refine mr_r30_wp (fun a6 h6=>?_) a5 h5
  refine wp_block ?_
  refine mr_rows_wp (sz := sz) (S := S) hs (by unfold maxLen at htl; omega) har p5 x5 ht5 (fun b hb=>by have := hS b hb; omega) (fun a7 w7 h7 e7 b7=>?_) a6 h6
  refine inBlock_exit ?_
  show Code.wp _ _ _ a7 w7
  rw [← hrh] at h7
  have p7:w7.heap[w.heap.size]?=some (.cells #[.int .i64 sz,.slice A cl.length c,.slice (some ⟨b,o,none⟩) rl.length d] 25 (0,0)) := by rw [e7]; exact p5
  have f7:w7.heap[w.heap.size+1]?=some (.cells #[.int .i64 0,.int .i64 0] 32 (0,0)) := by rw [e7]; exact f5
  have hB7:Below w.heap.size w w7 := hB5.trans (b7.mono (by omega))
  refine mr_rret_wp f7 hB7 (fun hk0 a8 w8 h8 e8 b8=>?_) (fun hk0 a8 h8=>?_) a7 h7
  · refine hR _ j hk0 ?_ a8 w8 h8 e8 b8
    rw [← hc,if_neg hk0]
  · refine mr_rinc_wp (by omega) (fun a9 h9=>?_) a8 h8
    rw [if_pos hk0] at hc
    exact ⟨rl.length - (j+1),by omega,j+1,by omega,hc,p7,f7,hB7,h9⟩
theorem mr_ret_wp {R:Ending→World→Prop} {w':World} {c j:Int} (h1:w'.heap[w.heap.size+1]?=some (.cells #[.int .i64 c,.int .i64 j] 32 (0,0))) (hR:R (.returned (.agg #[.int .i64 c,.int .i64 j])) w') :
    ∀ac,Frm 188 [(2,.pointer (some ⟨w.heap.size+1,0,none⟩))] ac→bodyPost Tryd.prog Tryd.f20 R .ret ac w' := by
  refine fO (frame_mr ?_)
  intros
  rename_i hq
  iterate 1 (obtain ⟨e,hq⟩ := hq; obtain rfl := sI e; clear e)
  clear hq
  have h1_0 := cv0 h1
  have h1_1 := cv1 h1
  have h1_l := lt_heap h1
  replace h1 := Lib.hid h1
  refine bodyPost_ret (v := .agg #[.int .i64 c,.int .i64 j]) (by simp [results,Tryd.results20,go_sem,h1_0,h1_1,h1_l]) rfl ?_
  exact hR
theorem refModel_any (m:Md) (cells:List Value) (w:World) (S:Nat→Prop) (h:m.In w S cells) (hS:∀b,S b→b<w.heap.size) :
    Calls Tryd.prog 20 #[.agg cells.toArray] w (MdAt m w) := by
  obtain ⟨A,c,B,d,rfl,hcl,hrl,hC,hR⟩ := Md.shape h
  obtain ⟨sz,cl,rl⟩ := m
  simp only at hcl hrl hC hR
  have HE:Hid (∀c i:Nat,mdFault ⟨sz,cl,rl⟩=(c,i)→∀W:World,Below w.heap.size w W→MdAt ⟨sz,cl,rl⟩ w (.returned (.agg #[.int .i64 (c:Nat),.int .i64 (i:Nat)])) W) := Lib.hid (fun c i e W hb=>by unfold MdAt; rw [e]; exact ⟨rfl,hb⟩)
  unfold maxLen at hcl hrl
  clear h
  have HC := Lib.hid hC
  have HR := Lib.hid hR
  have HS := Lib.hid hS
  clear hC hR hS
  by_cases h1:sz<1∨6<sz
  · have hr:mdFault ⟨sz,cl,rl⟩=(3,0) := by rw [mdFault_mk,if_pos h1]
    have h2:sz<1∨(¬ sz<1∧6<sz) := by omega
    clear h1
    have HR := Lib.hid hr
    clear hr
    rcases h2 with q1 | ⟨q1,q2⟩
    all_goals
      go_enter Tryd.func20,Tryd.ntmps20
      go_wp2_with fail
      refine bodyPost_ret (v := .agg #[.int .i64 3,.int .i64 0]) (by simp [results,Tryd.results20,go_sem]) rfl ?_
      exact HE.out 3 0 HR.out _ (by go_grown)
  have hs1:¬ sz<1 := by omega
  have hs6:¬ 6<sz := by omega
  by_cases h2:300<cl.length∨300<rl.length
  · have hr:mdFault ⟨sz,cl,rl⟩=(2,0) := by rw [mdFault_mk,if_neg h1,if_pos h2]
    have h3:(300:Int)<(cl.length:Int)∨(¬ (300:Int)<(cl.length:Int)∧(300:Int)<(rl.length:Int)) := by omega
    clear h1 h2
    have HR := Lib.hid hr
    clear hr
    rcases h3 with q1 | ⟨q1,q2⟩
    all_goals
      go_enter Tryd.func20,Tryd.ntmps20
      go_wp2_with fail
      refine bodyPost_ret (v := .agg #[.int .i64 2,.int .i64 0]) (by simp [results,Tryd.results20,go_sem]) rfl ?_
      exact HE.out 2 0 HR.out _ (by go_grown)
  have q3:¬ (300:Int)<(cl.length:Int) := by omega
  have q4:¬ (300:Int)<(rl.length:Int) := by omega
  have hbad:(consF sz none 0 cl).1≠0→mdFault ⟨sz,cl,rl⟩=consF sz none 0 cl := fun h=>by rw [mdFault_mk,if_neg h1,if_neg h2,if_neg h]
  have hgo:(consF sz none 0 cl).1=0→mdFault ⟨sz,cl,rl⟩=relsF sz none 0 rl := fun h=>by rw [mdFault_mk,if_neg h1,if_neg h2,if_pos h]
  clear h1 h2
  have HBAD := Lib.hid hbad
  have HGO := Lib.hid hgo
  clear hbad hgo
  go_enter Tryd.func20,Tryd.ntmps20
  go_upto_region 5 with (fail)
  refine gen_last (fun W=>W.heap[w.heap.size]?=some (.cells #[.int .i64 sz,.slice A cl.length c,.slice B rl.length d] 25 (0,0))∧W.heap[w.heap.size+1]?=some (.cells #[.int .i64 0,.int .i64 0] 32 (0,0))∧Below w.heap.size w W∧w.heap.size+2≤W.heap.size) ?_ ?_
  · exact ⟨heap_old (by simp) (heap_at rfl),heap_at (by simp),by go_grown,by simp⟩
  rintro w1 ⟨p0,pf,hB,z1⟩
  replace hB := Lib.hid hB
  have p0_0 := cv0 p0
  have p0_1 := cv1 p0
  have p0_2 := cv2 p0
  have p0_l := lt_heap p0
  replace p0 := Lib.hid p0
  have pf_0 := cv0 pf
  have pf_1 := cv1 pf
  have pf_f0 := free_heap pf 0
  have pf_f1 := free_heap pf 1
  have pf_l := lt_heap pf
  replace pf := Lib.hid pf
  go_wp2_with fail
  refine mr_cloop_wp (w := w) (S := S) (sz := sz) (rl := rl) (B := B) (d := d) (by omega) HC.out HS.out ⟨p0.out,pf.out,hB.out⟩ ?_ ?_ _ (by exact fR rfl rfl rfl)
  · intro k j hk e a' w' hf h1 hw
    exact mr_ret_wp h1 (HE.out k j ((HBAD.out (by rw [e]; exact hk)).trans e) w' hw) a' hf
  · intro hz a' wx hf hm
    have hr := HGO.out hz
    refine inBlock_exit ?_
    rename ∀(a:Act) (w:World),Code.wp _ _ _ a w→_=>hK
    refine hK _ _ ?_
    refine wp_seq ?_
    refine wp_seq ?_
    refine mr_r18_wp hm.1 (fun a2 h2=>?_) a' hf
    refine wp_block ?_
    refine mr_rloop_wp (w := w) (S := S) (sz := sz) (by omega) (by omega) HR.out HS.out hm ?_ ?_ a2 h2
    · intro k j hk e a3 w3 h3 e3 b3
      exact mr_ret_wp e3 (HE.out k j (hr.trans e) w3 b3) a3 h3
    · intro hz2 a3 w3 h3 hm3
      refine inBlock_exit ?_
      show Code.wp _ _ _ a3 w3
      refine mr_r47_wp hm3.2.1 hm3.2.2 (fun a4 w4 h4 e4 b4=>?_) a3 h3
      exact mr_ret_wp e4 (HE.out 0 0 (hr.trans hz2) w4 b4) a4 h4
end

end Go.Proofs.YthfokmjpbnfihaaDoor
