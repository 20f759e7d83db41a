/- Lemmas. -/
import Derived.Test.YthfokmjpbnfihaaDoorWzd
namespace Go.Proofs.YthfokmjpbnfihaaDoor
open Go Go.RowKit
set_option linter.unusedSimpArgs false
set_option linter.unusedVariables false
noncomputable section
set_option maxRecDepth 1000000
set_option maxHeartbeats 16000000
variable {s_2 s_6 s_77 s_78 s_79 s_1 s_7 s_11:Value} {Q:Exit→Act→World→Prop} {w wo:World} {E t2 q d b o t c:Nat} {T2 A:Option Addr} {tu:List Int} {rl:List Rel} {nm:ByteArray} {ar sz:Int} {tp:List (List Int)} {cl:List Con} {S:Nat→Prop}

def c_mr_r42a := sp 99 97088303 cF20
theorem mr_r42a_wp {k:Nat} (hk:¬ k=0) (hN:∀a' wx,Frm 188 [(1,.pointer (some ⟨w.heap.size,0,none⟩)),(2,s_2),(77,s_77),(78,s_78),(79,s_79),(6,s_6),(7,.pointer (some ⟨E,0,none⟩)),(8,.int .i64 (k:Nat)),(10,.int .i64 (q:Nat)),(11,.slice T2 tu.length t2),(180,.bool false)] a'→(wx.heap=wo.heap∧Below wo.heap.size wo wx)→Q .normal a' wx):∀ac,Frm 188 [(1,.pointer (some ⟨w.heap.size,0,none⟩)),(2,s_2),(77,s_77),(78,s_78),(79,s_79),(6,s_6),(7,.pointer (some ⟨E,0,none⟩)),(8,.int .i64 (k:Nat)),(10,.int .i64 (q:Nat)),(11,.slice T2 tu.length t2)] ac→Code.wp Tryd.prog c_mr_r42a Q ac wo := by
  refine fO (frame_mr ?_)
  intros
  rename_i hq
  iterate 10 (obtain ⟨e,hq⟩ := hq; obtain rfl := sI e; clear e)
  clear hq
  conv=>arg 2; whnf
  replace hN := Lib.hid hN
  have t0:((k:Int) == 0)=false := beq_eq_false_iff_ne.2 (by omega)
  go_big_quiet (fail)
  go_wp2_with fail
  exact hN.out _ _ (by exact fR rfl rfl rfl) ⟨rfl,below_nq (Below.refl _ _) _⟩
def c_mr_r42b := sp 99 97088303 cF20
theorem mr_r42b_wp {b2 o2:Nat} {pt:Option (List Int)} (hs:1≤sz∧sz≤6) (hq:q<tp.length) (hq4:tp.length≤9223372036854775807) (hb2:b2<wo.heap.size) (hS:∀b,S b→b<wo.heap.size) (hp0:wo.heap[w.heap.size]?=some (.cells #[.int .i64 sz,.slice A cl.length c,.slice (some ⟨b,o,none⟩) rl.length d] 25 (0,0))) (hpx:wo.heap[E]?=some (.cells #[.string nm,.int .i64 ar,.slice (some ⟨b2,o2,none⟩) tp.length t] 59 (0,0))) (hz:zRep.Sl wo S (.slice T2 tu.length t2) tu) (hbad:tu.length≤3∧tu.any (badV sz)=false) (hpv:∀p,pt=some p→∃i T' t',q=i+1∧wo.cell? ⟨b2,o2+i,none⟩=some (.slice T' p.length t')∧zRep.Sl wo S (.slice T' p.length t') p∧p.length≤3∧p.any (badV sz)=false) (hpv0:pt=none→q=0) (hN:∀a' wx,Frm 188 [(1,.pointer (some ⟨w.heap.size,0,none⟩)),(2,s_2),(77,s_77),(78,s_78),(79,s_79),(6,s_6),(7,.pointer (some ⟨E,0,none⟩)),(8,.int .i64 0),(10,.int .i64 (q:Nat)),(11,.slice T2 tu.length t2),(180,.bool (pt.any fun p=>decide (codeN sz 0 tu≤codeN sz 0 p)))] a'→(wx.heap=wo.heap∧Below wo.heap.size wo wx)→Q .normal a' wx):∀ac,Frm 188 [(1,.pointer (some ⟨w.heap.size,0,none⟩)),(2,s_2),(77,s_77),(78,s_78),(79,s_79),(6,s_6),(7,.pointer (some ⟨E,0,none⟩)),(8,.int .i64 0),(10,.int .i64 (q:Nat)),(11,.slice T2 tu.length t2)] ac→Code.wp Tryd.prog c_mr_r42b Q ac wo := by
  refine fO (frame_mr ?_)
  intros
  rename_i hq
  iterate 10 (obtain ⟨e,hq⟩ := hq; obtain rfl := sI e; clear e)
  clear hq
  conv=>arg 2; whnf
  have p0 := hp0
  have px := hpx
  clear hp0 hpx
  have HN := Lib.hid hN
  have HPV := Lib.hid hpv
  have HPV0 := Lib.hid hpv0
  have HBAD := Lib.hid hbad
  have HS := Lib.hid hS
  have HZ := Lib.hid hz
  clear hN hpv hpv0 hbad hS hz
  have p0_0 := cv0 p0
  have p0_1 := cv1 p0
  have p0_2 := cv2 p0
  have p0_l := lt_heap p0
  replace p0 := Lib.hid p0
  have px_0 := cv0 px
  have px_1 := cv1 px
  have px_2 := cv2 px
  have px_l := lt_heap px
  replace px := Lib.hid px
  have hsz := hs
  cases pt with
  | none =>
    have t1:decide ((0:Int)<(q:Int))=false := decide_eq_false (by have := HPV0.out rfl; omega)
    have t1n:decide (0<q)=false := decide_eq_false (by have := HPV0.out rfl; omega)
    go_big_quiet (fail)
    go_wp2_with fail
    exact HN.out _ _ (by exact fR rfl rfl rfl) ⟨rfl,below_nq (Below.refl _ _) _⟩
  | some p =>
    obtain ⟨i,T',t',hji,f0,f1,f2,f3⟩ := HPV.out p rfl
    have t1:decide ((0:Int)<(q:Int))=true := decide_eq_true (by omega)
    have t1n:decide (0<q)=true := decide_eq_true (by omega)
    have hj1:(q:Int) - 1=(i:Int) := by omega
    have u0:(0:Int)≤(i:Int) := by omega
    have u1:(i:Int)<(tp.length:Int) := by omega
    have hk1 := fun (nq:Nat)=>code_any p T' t' sz (wo.drewN nq) S (f1.keep (fun _ _=>rfl) (fun _ h=>h)) (by omega) hsz f3
    have hk2 := fun (nq:Nat)=>code_any tu T2 t2 sz (wo.drewN nq) S (HZ.out.keep (fun _ _=>rfl) (fun _ h=>h)) (by have := HBAD.out.1; omega) hsz HBAD.out.2
    obtain ⟨z1,hz1⟩:∃z,codeN sz 0 p=z := ⟨_,rfl⟩
    obtain ⟨z2,hz2⟩:∃z,codeN sz 0 tu=z := ⟨_,rfl⟩
    rw [hz1] at hk1
    rw [hz2] at hk2
    have hres:((some p).any fun p=>decide (codeN sz 0 tu≤codeN sz 0 p))=decide (z2≤z1) := by simp only [Option.any_some,hz1,hz2]
    rw [hres] at HN
    clear hz1 hz2 f1 f2 f3 hji hres
    have HK1 := Lib.hid hk1
    have HK2 := Lib.hid hk2
    clear hk1 hk2
    clear HPV HPV0 HBAD HS HZ
    by_cases hge:z2≤z1
    · have t2':decide (z2≤z1)=true := decide_eq_true hge
      rw [t2'] at HN
      clear hge
      go_big_quiet (first | with_reducible exact Calls.quiet_of_same (HK1.out _) | with_reducible exact Calls.quiet_of_same (HK2.out _))
      go_wp2_with fail
      exact HN.out _ _ (by exact fR rfl rfl rfl) ⟨rfl,below_nq (Below.refl _ _) _⟩
    · have t2':decide (z2≤z1)=false := decide_eq_false hge
      rw [t2'] at HN
      clear hge
      go_big_quiet (first | with_reducible exact Calls.quiet_of_same (HK1.out _) | with_reducible exact Calls.quiet_of_same (HK2.out _))
      go_wp2_with fail
      exact HN.out _ _ (by exact fR rfl rfl rfl) ⟨rfl,below_nq (Below.refl _ _) _⟩
def c_mr_r43 := sp 99 197751599 cF20
theorem mr_r43_wp {s_10:Value} (hN:∀a',Frm 188 [(1,s_1),(2,s_2),(77,s_77),(78,s_78),(79,s_79),(6,s_6),(7,s_7),(8,.int .i64 13),(10,s_10),(11,s_11)] a'→Q .normal a' wo):∀ac,Frm 188 [(1,s_1),(2,s_2),(77,s_77),(78,s_78),(79,s_79),(6,s_6),(7,s_7),(8,.int .i64 0),(10,s_10),(11,s_11)] ac→Code.wp Tryd.prog c_mr_r43 Q ac wo := by
  refine fO (frame_mr ?_)
  intros
  rename_i hq
  iterate 10 (obtain ⟨e,hq⟩ := hq; obtain rfl := sI e; clear e)
  clear hq
  conv=>arg 2; whnf
  replace hN := Lib.hid hN
  go_wp2_with fail
  exact hN.out _ (by exact fR rfl rfl rfl)
def c_mr_r32 := sp 99 3765039 cF20
theorem mr_r32_wp {s_8:Value} (hq:q<9223372036854775807) (hN:∀a',Frm 188 [(1,s_1),(2,s_2),(77,s_77),(78,s_78),(79,s_79),(6,s_6),(7,s_7),(8,s_8),(10,.int .i64 (q+1:Nat))] a'→Q .normal a' wo):∀ac,Frm 188 [(1,s_1),(2,s_2),(77,s_77),(78,s_78),(79,s_79),(6,s_6),(7,s_7),(8,s_8),(10,.int .i64 (q:Nat)),(11,s_11)] ac→Code.wp Tryd.prog c_mr_r32 Q ac wo := by
  refine fO (frame_mr ?_)
  intros
  rename_i hq
  iterate 10 (obtain ⟨e,hq⟩ := hq; obtain rfl := sI e; clear e)
  clear hq
  conv=>arg 2; whnf
  replace hN := Lib.hid hN
  have hw:((q:Int)+1)=((q+1:Nat):Int) := by omega
  replace hw := Lib.hid hw
  go_wp2_with fail
  rw [hw.out]
  exact hN.out _ (by exact fR rfl rfl rfl)
def c_mr_rows := sp 99 357167 cF20
theorem cmpL_le (hs:1≤sz) {p t:List Int} (h:p.length=t.length) (h1:p.any (badV sz)=false) (h2:t.any (badV sz)=false):decide (0≤cmpL p t)=decide (codeN sz 0 t≤codeN sz 0 p) := by
  rw [decide_eq_decide]; exact cmpL_code hs p t h h1 h2
theorem mr_rows_wp {j:Nat} {T:Option Addr} {k0:Nat} (hs:1≤sz∧sz≤6) (htl:tp.length≤9223372036854775807) (hk0:k0=0→0≤ar∧ar≤3) (hp0:wo.heap[w.heap.size]?=some (.cells #[.int .i64 sz,.slice A cl.length c,.slice (some ⟨b,o,none⟩) rl.length d] 25 (0,0))) (hpx:wo.heap[E]?=some (.cells #[.string nm,.int .i64 ar,.slice T tp.length t] 59 (0,0))) (ht:intsRep.Sl wo S (.slice T tp.length t) tp) (hS:∀b,S b→b<wo.heap.size)
    (hX:∀a' wx,Frm 188 [(1,.pointer (some ⟨w.heap.size,0,none⟩)),(2,.pointer (some ⟨w.heap.size+1,0,none⟩)),(77,.slice (some ⟨b,o,none⟩) rl.length d),(78,.int .i64 (rl.length:Nat)),(79,.int .i64 (j:Nat)),(6,.int .i64 (j:Nat)),(7,.pointer (some ⟨E,0,none⟩)),(8,.int .i64 ((if k0=0 then tupsF sz ar none tp else k0):Nat))] a'→wx.heap=wo.heap→Below wo.heap.size wo wx→Q (.exit 4) a' wx):∀ac,Frm 188 [(1,.pointer (some ⟨w.heap.size,0,none⟩)),(2,.pointer (some ⟨w.heap.size+1,0,none⟩)),(77,.slice (some ⟨b,o,none⟩) rl.length d),(78,.int .i64 (rl.length:Nat)),(79,.int .i64 (j:Nat)),(6,.int .i64 (j:Nat)),(7,.pointer (some ⟨E,0,none⟩)),(8,.int .i64 (k0:Nat)),(10,.int .i64 0)] ac→Code.wp Tryd.prog c_mr_rows Q ac wo := by
  intro a0 hf0
  conv=>arg 2; whnf
  refine wp_loopR (fun g a' w'=>∃q k:Nat,w'.heap=wo.heap∧Below wo.heap.size wo w'∧q+g=tp.length∧((k≠0∧(if k0=0 then tupsF sz ar none tp else k0)=k)∨(k=0∧k0=0∧(if k0=0 then tupsF sz ar none tp else k0)=tupsF sz ar (prevOf tp q) (tp.drop q)∧∀p,prevOf tp q=some p→(p.length:Int)=ar∧p.any (badV sz)=false))∧Frm 188 [(1,.pointer (some ⟨w.heap.size,0,none⟩)),(2,.pointer (some ⟨w.heap.size+1,0,none⟩)),(77,.slice (some ⟨b,o,none⟩) rl.length d),(78,.int .i64 (rl.length:Nat)),(79,.int .i64 (j:Nat)),(6,.int .i64 (j:Nat)),(7,.pointer (some ⟨E,0,none⟩)),(8,.int .i64 (k:Nat)),(10,.int .i64 (q:Nat))] a') tp.length ⟨0,k0,rfl,Below.refl _ _,by omega,?_,hf0⟩ ?_
  · by_cases e:k0=0
    · subst e; exact Or.inr ⟨rfl,rfl,by rw [if_pos rfl]; rfl,fun p hp=>by cases hp⟩
    · exact Or.inl ⟨e,by rw [if_neg e]⟩
  rintro g a1 w1 ⟨q,k,hhp,hB1,hg,hst,hfr⟩
  have hp0':w1.heap[w.heap.size]?=some (.cells #[.int .i64 sz,.slice A cl.length c,.slice (some ⟨b,o,none⟩) rl.length d] 25 (0,0)) := by rw [hhp]; exact hp0
  have hpx':w1.heap[E]?=some (.cells #[.string nm,.int .i64 ar,.slice T tp.length t] 59 (0,0)) := by rw [hhp]; exact hpx
  refine wp_seq ?_
  refine wp_seq ?_
  refine mr_r31_wp hpx' (fun a2 h2=>?_) a1 hfr
  have h2d:Frm 188 [(1,.pointer (some ⟨w.heap.size,0,none⟩)),(2,.pointer (some ⟨w.heap.size+1,0,none⟩)),(77,.slice (some ⟨b,o,none⟩) rl.length d),(78,.int .i64 (rl.length:Nat)),(79,.int .i64 (j:Nat)),(6,.int .i64 (j:Nat)),(7,.pointer (some ⟨E,0,none⟩)),(8,.int .i64 (k:Nat)),(10,.int .i64 (q:Nat))] a2 := have h := h2; (h.pick [0,1,2,3,4,5,6,7,8])
  by_cases hgo:q<tp.length∧k=0
  case neg =>
    refine wp_cond_false ((h2.eval (k := 131) (v := .bool (decide (q<tp.length∧k=0))) (by simp)).trans (by rw [decide_eq_false hgo])) ?_
    refine wp_exit (hX a2 w1 ?_ hhp hB1)
    have hrc:(if k0=0 then tupsF sz ar none tp else k0)=k := by
      rcases hst with ⟨_,h⟩ | ⟨h1,_,h3,_⟩
      · exact h
      · have hq:¬ q<tp.length := fun h=>hgo ⟨h,h1⟩
        rw [h3,List.drop_eq_nil_of_le (by omega),h1]; rfl
    rw [hrc]
    have h := h2
    exact (h.pick [0,1,2,3,4,5,6,7])
  refine wp_cond_true ((h2.eval (k := 131) (v := .bool (decide (q<tp.length∧k=0))) (by simp)).trans (by rw [decide_eq_true hgo])) ?_
  obtain ⟨hq,rfl⟩ := hgo
  refine wp_skip ?_
  rcases hst with ⟨h,_⟩ | ⟨_,rfl,hrc,hprev⟩
  · exact absurd rfl h
  obtain ⟨ha0,ha3⟩ := hk0 rfl
  rw [if_pos rfl] at hrc hX
  have ht1 := ht.keep (w' := w1) (S' := S) (fun b _=>by rw [hhp]) (fun _ h=>h)
  have hS1:∀b,S b→b<w1.heap.size := fun b hb=>by rw [hhp]; exact hS b hb
  rw [tupsF_step hq] at hrc
  obtain ⟨b2,o2,T2,t2,hA2,hSb2,g0,htl2,hts⟩ := tup_at ht1 hq
  subst hA2
  obtain ⟨tu,htu⟩:∃x,tp[q]=x := ⟨_,rfl⟩
  rw [htu] at g0 htl2 hts hrc
  have hps:prevOf tp (q+1)=some tu := by rw [← htu]; exact List.getElem?_eq_getElem hq
  refine wp_seq ?_
  refine wp_block ?_
  refine wp_seq ?_
  refine mr_r33_wp hq (hS1 b2 hSb2) hpx' g0 (fun a3 h3=>?_) a2 h2d
  refine wp_seq ?_
  refine wp_seq ?_
  refine mr_r34_wp hpx' (fun a4 h4=>?_) a3 h3
  have h4d:Frm 188 [(1,.pointer (some ⟨w.heap.size,0,none⟩)),(2,.pointer (some ⟨w.heap.size+1,0,none⟩)),(77,.slice (some ⟨b,o,none⟩) rl.length d),(78,.int .i64 (rl.length:Nat)),(79,.int .i64 (j:Nat)),(6,.int .i64 (j:Nat)),(7,.pointer (some ⟨E,0,none⟩)),(8,.int .i64 0),(10,.int .i64 (q:Nat)),(11,.slice T2 tu.length t2)] a4 := have h := h4; (h.pick [0,1,2,3,4,5,6,7,8,9])
  by_cases hlen:(tu.length:Int)=ar
  case neg =>
    refine wp_cond_true ((h4.eval (k := 143) (v := .bool (decide ((tu.length:Int)≠ar))) (by simp)).trans (by rw [decide_eq_true hlen])) ?_
    refine wp_seq ?_
    refine mr_r35_wp (fun a5 h5=>?_) a4 h4d
    refine wp_exit ?_
    refine (show Exit.inBlock 5 _ (.exit 4) a5 w1 from inBlock_far (by decide) (hX a5 w1 ?_ hhp hB1))
    have hc9:tupCode sz ar (prevOf tp q) tu=9 := by unfold tupCode; rw [if_pos hlen]
    rw [hrc,hc9,if_neg (by decide)]
    have h := h5
    exact (h.pick [0,1,2,3,4,5,6,7])
  refine wp_cond_false ((h4.eval (k := 143) (v := .bool (decide ((tu.length:Int)≠ar))) (by simp)).trans (by rw [decide_eq_false (fun h=>h hlen)])) ?_
  refine wp_skip ?_
  refine wp_seq ?_
  refine wp_seq ?_
  refine mr_r36_wp (fun a5 h5=>?_) a4 h4d
  refine wp_block ?_
  refine mr_row_wp (sz := sz) (S := S) htl2 (by assumption) hts hS1 (fun a6 h6=>?_) a5 h5
  refine inBlock_exit ?_
  obtain ⟨k2,hk2⟩:∃k2:Nat,(if tu.any (badV sz)=true then 3 else 0)=k2 := ⟨_,rfl⟩
  rw [hk2] at h6
  have hpv:∀p,prevOf tp q=some p→∃i T' t',q=i+1∧w1.cell? ⟨b2,o2+i,none⟩=some (.slice T' p.length t')∧zRep.Sl w1 S (.slice T' p.length t') p∧p.length≤3∧p.any (badV sz)=false := by
    intro p hp
    obtain ⟨hp1,hp2⟩ := hprev p hp
    cases q with
    | zero=>cases hp
    | succ i =>
      obtain ⟨b3,o3,T',t',hA3,_,f0,_,f1⟩ := tup_at ht1 (j := i) (by omega)
      simp only [Option.some.injEq,Addr.mk.injEq] at hA3
      obtain ⟨rfl,rfl,_⟩ := hA3
      refine ⟨i,T',t',rfl,?_⟩
      have:tp[i]?=some p := hp
      rw [List.getElem?_eq_getElem (by omega)] at this
      rw [← Option.some.inj this]
      rw [← Option.some.inj this] at hp1 hp2
      exact ⟨f0,f1,by omega,hp2⟩
  have hpv0:prevOf tp q=none→q=0 := by
    intro e
    cases q with
    | zero=>rfl
    | succ i =>
      have h3:tp[i]?=none := e
      rw [List.getElem?_eq_getElem (by omega)] at h3
      cases h3
  have hbad:k2=0→tu.length≤3∧tu.any (badV sz)=false := by
    intro e
    refine ⟨by omega,?_⟩
    cases h:tu.any (badV sz) with
    | false=>rfl
    | true=>rw [h,if_pos rfl] at hk2; omega
  show Code.wp _ _ _ a6 w1
  refine wp_seq ?_
  have hfin:∀(k3:Nat) a8 (w7:World),w7.heap=w1.heap→Below w1.heap.size w1 w7→Frm 188 [(1,.pointer (some ⟨w.heap.size,0,none⟩)),(2,.pointer (some ⟨w.heap.size+1,0,none⟩)),(77,.slice (some ⟨b,o,none⟩) rl.length d),(78,.int .i64 (rl.length:Nat)),(79,.int .i64 (j:Nat)),(6,.int .i64 (j:Nat)),(7,.pointer (some ⟨E,0,none⟩)),(8,.int .i64 (k3:Nat)),(10,.int .i64 (q:Nat)),(11,.slice T2 tu.length t2)] a8→((k3≠0∧(tupsF sz ar none tp)=k3)∨(k3=0∧(0:Nat)=0∧(tupsF sz ar none tp)=tupsF sz ar (prevOf tp (q+1)) (tp.drop (q+1))∧∀p,prevOf tp (q+1)=some p→(p.length:Int)=ar∧p.any (badV sz)=false)) →
      Code.wp Tryd.prog c_mr_r32 (Exit.then (fun a' w'=>∃m,m<g∧(fun g a' w'=>∃q k:Nat,w'.heap=wo.heap∧Below wo.heap.size wo w'∧q+g=tp.length∧((k≠0∧(if (0:Nat)=0 then tupsF sz ar none tp else 0)=k)∨(k=0∧(0:Nat)=0∧(if (0:Nat)=0 then tupsF sz ar none tp else 0)=tupsF sz ar (prevOf tp q) (tp.drop q)∧∀p,prevOf tp q=some p→(p.length:Int)=ar∧p.any (badV sz)=false))∧Frm 188 [(1,.pointer (some ⟨w.heap.size,0,none⟩)),(2,.pointer (some ⟨w.heap.size+1,0,none⟩)),(77,.slice (some ⟨b,o,none⟩) rl.length d),(78,.int .i64 (rl.length:Nat)),(79,.int .i64 (j:Nat)),(6,.int .i64 (j:Nat)),(7,.pointer (some ⟨E,0,none⟩)),(8,.int .i64 (k:Nat)),(10,.int .i64 (q:Nat))] a') m a' w') Q) a8 w7 := by
    intro k3 a8 w7 e71 e72 h8 h
    have hh7:w7.heap=wo.heap := e71.trans hhp
    have hB7:Below wo.heap.size wo w7 := hB1.trans (e72.mono (by rw [hhp]; exact Nat.le_refl _))
    refine mr_r32_wp (by omega) (fun a9 h9=>?_) a8 h8
    exact ⟨g - 1,by omega,q+1,k3,hh7,hB7,by omega,by rw [if_pos rfl]; exact h,h9⟩
  by_cases hk20:k2=0
  case neg =>
    have hc3:tupCode sz ar (prevOf tp q) tu=k2 := by
      have hb:tu.any (badV sz)=true := by
        cases h:tu.any (badV sz) with
        | true=>rfl
        | false=>rw [h,if_neg (by decide)] at hk2; omega
      unfold tupCode
      rw [if_neg (fun h=>h hlen),if_pos hb,← hk2,if_pos hb]
    refine mr_r42a_wp hk20 (fun a7 w7 h7 e7=>?_) a6 h6
    have h7d:Frm 188 [(1,.pointer (some ⟨w.heap.size,0,none⟩)),(2,.pointer (some ⟨w.heap.size+1,0,none⟩)),(77,.slice (some ⟨b,o,none⟩) rl.length d),(78,.int .i64 (rl.length:Nat)),(79,.int .i64 (j:Nat)),(6,.int .i64 (j:Nat)),(7,.pointer (some ⟨E,0,none⟩)),(8,.int .i64 (k2:Nat)),(10,.int .i64 (q:Nat)),(11,.slice T2 tu.length t2)] a7 := have h := h7; (h.pick [0,1,2,3,4,5,6,7,8,9])
    refine wp_cond_false (h7.eval (k := 180) (v := .bool false) (by simp)) ?_
    refine wp_skip ?_
    exact hfin k2 a7 w7 e7.1 e7.2 h7d (Or.inl ⟨hk20,by rw [hrc,hc3,if_neg hk20]⟩)
  subst hk20
  have hbad0 := hbad rfl
  have hnb := hbad0.2
  refine mr_r42b_wp (pt := prevOf tp q) hs hq htl (hS1 b2 hSb2) hS1 (by assumption) hpx' hts hbad0 hpv hpv0 (fun a7 w7 h7 e7=>?_) a6 h6
  have h7d:Frm 188 [(1,.pointer (some ⟨w.heap.size,0,none⟩)),(2,.pointer (some ⟨w.heap.size+1,0,none⟩)),(77,.slice (some ⟨b,o,none⟩) rl.length d),(78,.int .i64 (rl.length:Nat)),(79,.int .i64 (j:Nat)),(6,.int .i64 (j:Nat)),(7,.pointer (some ⟨E,0,none⟩)),(8,.int .i64 0),(10,.int .i64 (q:Nat)),(11,.slice T2 tu.length t2)] a7 := have h := h7; (h.pick [0,1,2,3,4,5,6,7,8,9])
  have hcmp:((prevOf tp q).any fun p=>decide (0≤cmpL p tu))=((prevOf tp q).any fun p=>decide (codeN sz 0 tu≤codeN sz 0 p)) := by
    cases hp:prevOf tp q with
    | none=>rfl
    | some p =>
      obtain ⟨hp1,hp2⟩ := hprev p hp
      simp only [Option.any_some]
      exact cmpL_le hs.1 (by omega) hp2 hnb
  cases hany:((prevOf tp q).any fun p=>decide (codeN sz 0 tu≤codeN sz 0 p)) with
  | true =>
    have hc13:tupCode sz ar (prevOf tp q) tu=13 := by
      unfold tupCode
      rw [if_neg (fun h=>h hlen),if_neg (by rw [hnb]; decide),if_pos (by rw [hcmp]; exact hany)]
    refine wp_cond_true ((h7.eval (k := 180) (v := .bool ((prevOf tp q).any fun p=>decide (codeN sz 0 tu≤codeN sz 0 p))) (by simp)).trans (by rw [hany])) ?_
    refine mr_r43_wp (fun a8 h8=>?_) a7 h7d
    exact hfin 13 a8 w7 e7.1 e7.2 h8 (Or.inl ⟨by decide,by rw [hrc,hc13,if_neg (by decide)]⟩)
  | false =>
    have hc0:tupCode sz ar (prevOf tp q) tu=0 := by
      unfold tupCode
      rw [if_neg (fun h=>h hlen),if_neg (by rw [hnb]; decide),if_neg (by rw [hcmp,hany]; decide)]
    refine wp_cond_false ((h7.eval (k := 180) (v := .bool ((prevOf tp q).any fun p=>decide (codeN sz 0 tu≤codeN sz 0 p))) (by simp)).trans (by rw [hany])) ?_
    refine wp_skip ?_
    exact hfin 0 a7 w7 e7.1 e7.2 h7d (Or.inr ⟨rfl,rfl,by rw [hrc,hc0,if_pos rfl],fun p hp=>by rw [hps] at hp; obtain rfl := Option.some.inj hp; exact ⟨hlen,hnb⟩⟩)
end

end Go.Proofs.YthfokmjpbnfihaaDoor
