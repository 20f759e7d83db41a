/- Lemmas. -/
import Derived.Test.YthfokmjpbnfihaaDoorWzg
import Derived.Test.YthfokmjpbnfihaaDoorWg
namespace Go.Proofs.YthfokmjpbnfihaaDoor
open Go Go.RowKit
set_option linter.unusedSimpArgs false
set_option linter.unusedVariables false
noncomputable section
set_option maxRecDepth 100000
set_option maxHeartbeats 4000000
variable {hole:Bool} {Q:Exit→Act→World→Prop} {S:Nat→Prop} {n gx gg d n1 c1 n2 c2:Nat} {v:Value} {L:List FmAt} {wo w:World} {kd mo le:Int} {nm:ByteArray} {A B:Option Addr} {l:List Fm} {ws:List ByteArray}

theorem FmL.code_len {a:FmL} {m:Nat} (h:a.code hole m=0):m≤2 := by
  unfold FmL.code at h
  cases hk:subsF hole a.kind with
  | none=>rw [hk] at h; simp at h
  | some k =>
    rw [hk] at h
    simp only at h
    split at h
    · cases h
    rename_i hne
    have hm:m=k := by
      by_cases e:m=k
      · exact e
      · exact absurd (Or.inl e) hne
    have hk2:k≤2 := by
      unfold subsF at hk
      repeat' split at hk
      all_goals first | (injection hk with hk; omega) | (simp at hk; done)
    omega
def c_of_push := sp 99 12582475 cF45
theorem of_push_wp (hl:fmRep.Sl wo S (.slice B n2 c2) l) (hSo:∀k,S k→k<wo.heap.size) (hd:d≤100) (h2:n2≤500) (hLl:L.length≤500) (hs:RD S wo w v L gx gg kd nm A n1 c1 B n2 c2 d) 
    (hX:∀v' a' w',Frm 150 [(1,.bool hole),(2,.pointer (some ⟨wo.heap.size,0,none⟩)),(4,.pointer (some ⟨wo.heap.size+1,0,none⟩)),(5,v'),(6,.int .i64 (n:Nat)),(7,.pointer (some ⟨gx,0,none⟩)),(8,.pointer (some ⟨gg,0,none⟩))] a'→RD S wo w' v' (L++l.reverse.map (fun u=>(⟨u,d+1⟩:FmAt))) gx gg kd nm A n1 c1 B n2 c2 d→Q (.exit 4) a' w'):∀ac,Frm 150 [(1,.bool hole),(2,.pointer (some ⟨wo.heap.size,0,none⟩)),(4,.pointer (some ⟨wo.heap.size+1,0,none⟩)),(5,v),(6,.int .i64 (n:Nat)),(7,.pointer (some ⟨gx,0,none⟩)),(8,.pointer (some ⟨gg,0,none⟩)),(16,.int .i64 ((n2:Int) - 1))] ac→Code.wp Tryd.prog c_of_push Q ac w := by
  intro a0 hf0
  conv=>arg 2; whnf
  obtain ⟨B',n',c',e9,hlen,hmax,_⟩ := id hl
  injection e9 with e1 e2 e3
  subst e1 e2 e3
  refine wp_loopR (fun g a' w'=>∃(v':Value),g≤n2∧RD S wo w' v' (L++(l.drop g).reverse.map (fun u=>(⟨u,d+1⟩:FmAt))) gx gg kd nm A n1 c1 B n2 c2 d∧Frm 150 [(1,.bool hole),(2,.pointer (some ⟨wo.heap.size,0,none⟩)),(4,.pointer (some ⟨wo.heap.size+1,0,none⟩)),(5,v'),(6,.int .i64 (n:Nat)),(7,.pointer (some ⟨gx,0,none⟩)),(8,.pointer (some ⟨gg,0,none⟩)),(16,.int .i64 ((g:Int) - 1))] a') n2 ⟨v,Nat.le_refl _,by rw [List.drop_of_length_le (by omega)]; simpa using hs,hf0⟩ ?_
  rintro g a1 w1 ⟨v1,hgn,hs1,h1⟩
  refine wp_seq ?_
  refine wp_seq ?_
  refine of_r37_wp (fun a2 h2=>?_) a1 h1
  cases g with
  | zero =>
    refine wp_cond_false ((h2.eval (k := 134) (v := .bool (decide (0≤((0:Nat):Int) - 1))) (by simp)).trans (by rw [decide_eq_false (by omega)])) ?_
    refine wp_exit (hX v1 a2 w1 (h2.pick [0,1,2,3,4,5,6]) ?_)
    simpa using hs1
  | succ i =>
    refine wp_cond_true ((h2.eval (k := 134) (v := .bool (decide (0≤((i+1:Nat):Int) - 1))) (by simp)).trans (by rw [decide_eq_true (by omega)])) ?_
    refine wp_skip ?_
    show Code.wp _ _ _ a2 w1
    have hil:i<l.length := by omega
    obtain ⟨b,o,kc,rfl,hSb,hr,hc⟩ := Rep.Sl.at_ hl (List.getElem?_eq_getElem hil)
    obtain ⟨Ae,n3,c3,Be,n4,c4,rfl,_,_,_,_⟩ := Fm.shape hr
    have hkb := hs1.b.block b (hSo b hSb)
    have e0:w1.cell? ⟨b,o+i * 4,none⟩=_ := (cell_keep hkb _).trans (hc 0 _ rfl)
    have e1:w1.cell? ⟨b,o+i * 4+1,none⟩=_ := (cell_keep hkb _).trans (hc 1 _ rfl)
    have e2:w1.cell? ⟨b,o+i * 4+2,none⟩=_ := (cell_keep hkb _).trans (hc 2 _ rfl)
    have e3:w1.cell? ⟨b,o+i * 4+3,none⟩=_ := (cell_keep hkb _).trans (hc 3 _ rfl)
    have hi1:(((i+1:Nat):Int) - 1)=((i:Nat):Int) := by omega
    have hLd:(L++(l.drop (i+1)).reverse.map (fun u=>(⟨u,d+1⟩:FmAt))).length≤1000 := by simp; omega
    obtain ⟨Aq,cq,rfl⟩ := hs1.own.len
    rw [hi1] at h2
    refine wp_seq ?_
    refine wp_block ?_
    refine Code.wp_mono (Q := Exit.then (fun a' w'=>∃v':Value,Frm 150 [(1,.bool hole),(2,.pointer (some ⟨wo.heap.size,0,none⟩)),(4,.pointer (some ⟨wo.heap.size+1,0,none⟩)),(5,v'),(6,.int .i64 (n:Nat)),(7,.pointer (some ⟨gx,0,none⟩)),(8,.pointer (some ⟨gg,0,none⟩)),(16,.int .i64 (i:Nat))] a'∧RD S wo w' v' ((L++(l.drop (i+1)).reverse.map (fun u=>(⟨u,d+1⟩:FmAt)))++[⟨l[i],d+1⟩]) gx gg kd nm A n1 c1 (some ⟨b,o,none⟩) n2 c2 d) (fun _ _ _=>False)) ?_ (of_r39_wp (by omega) (by omega) hd hLd (hSo b hSb) hSo (fmRep.keep hr (fun k hk=>hs1.b.block k (hSo k hk)) (fun _ h=>h)) e0 e1 e2 e3 hs1 (fun v' a' w' h' hs'=>⟨v',h',hs'⟩) a2 (h2.pick [0,1,2,3,4,5,6,7]))
    intro ex a3 w3 hx
    cases ex with
    | normal =>
      obtain ⟨v3,h3,hs3⟩ := hx
      show Code.wp _ _ _ a3 w3
      refine of_r38_wp (by omega) (fun a4 h4=>?_) a3 h3
      refine ⟨i,by omega,v3,by omega,?_,h4⟩
      have e7:(l.drop i).reverse.map (fun u=>(⟨u,d+1⟩:FmAt))=(l.drop (i+1)).reverse.map (fun u=>(⟨u,d+1⟩:FmAt))++[⟨l[i],d+1⟩] := by
        rw [List.drop_eq_getElem_cons hil,List.reverse_cons,List.map_append]; rfl
      rw [e7,← List.append_assoc]
      exact hs3
    | _=>exact hx.elim
def c_of_p34 := sp 99 2096715 cF45
theorem of_p34_wp {cd:Nat} (hl:fmRep.Sl wo S (.slice B n2 c2) l) (hSo:∀k,S k→k<wo.heap.size) (hd:d≤100) (h2:cd=0→n2≤500) (hLl:L.length≤500) (hs:RD S wo w v L gx gg kd nm A n1 c1 B n2 c2 d) 
    (hX:cd=0→∀v' a' w',Frm 150 [(1,.bool hole),(2,.pointer (some ⟨wo.heap.size,0,none⟩)),(4,.pointer (some ⟨wo.heap.size+1,0,none⟩)),(5,v'),(6,.int .i64 (n:Nat))] a'→RD S wo w' v' (L++l.reverse.map (fun u=>(⟨u,d+1⟩:FmAt))) gx gg kd nm A n1 c1 B n2 c2 d→Q .normal a' w') (hR:cd≠0→∀a' w',Frm 150 [(4,.pointer (some ⟨wo.heap.size+1,0,none⟩))] a'→w'.heap[wo.heap.size+1]?=some (.cells #[.int .i64 (cd:Nat),.int .i64 (n:Nat)] 32 (0,0))→Below wo.heap.size wo w'→Q .ret a' w'):∀ac,Frm 150 [(1,.bool hole),(2,.pointer (some ⟨wo.heap.size,0,none⟩)),(4,.pointer (some ⟨wo.heap.size+1,0,none⟩)),(5,v),(6,.int .i64 (n:Nat)),(7,.pointer (some ⟨gx,0,none⟩)),(8,.pointer (some ⟨gg,0,none⟩)),(13,.int .i64 (cd:Nat))] ac→Code.wp Tryd.prog c_of_p34 Q ac w := by
  intro a0 hf0
  conv=>arg 2; whnf
  refine wp_seq ?_
  refine wp_seq ?_
  refine of_r34_wp (fun a1 h1=>?_) a0 hf0
  by_cases hc:cd≠0
  · refine wp_cond_true ((h1.eval (k := 125) (v := .bool (decide (cd≠0))) (by simp)).trans (by rw [decide_eq_true hc])) ?_
    refine wp_seq ?_
    refine of_r35_wp hs.r hs.b (fun a2 w2 h2 hr2 hb2=>?_) a1 (h1.pick [0,1,2,3,4,5,6,7])
    refine wp_ret ?_
    exact hR hc a2 w2 h2 hr2 hb2
  · refine wp_cond_false ((h1.eval (k := 125) (v := .bool (decide (cd≠0))) (by simp)).trans (by rw [decide_eq_false hc])) ?_
    refine wp_skip ?_
    show Code.wp _ _ _ a1 w
    have hc0:cd=0 := Decidable.not_not.1 hc
    refine wp_seq ?_
    refine of_r36_wp (by have := h2 hc0; omega) hs (fun a2 h2'=>?_) a1 (h1.pick [0,1,2,3,4,5,6])
    refine wp_block ?_
    refine of_push_wp hl hSo hd (h2 hc0) hLl hs (fun v3 a3 w3 h3 hs3=>?_) a2 h2'
    refine inBlock_exit ?_
    exact hX hc0 v3 a3 w3 (h3.pick [0,1,2,3,4]) hs3
def c_of_words := sp 99 6441926219 cF45
theorem of_words_wp {q:Int} {nb:Bool} (hS:∀k,S k→k<w.heap.size) (hw:strRep.Sl w S (.slice A n1 c1) ws)
    (hX:∀a',Frm 150 [(1,.bool hole),(2,.pointer (some ⟨wo.heap.size,0,none⟩)),(4,.pointer (some ⟨wo.heap.size+1,0,none⟩)),(5,v),(6,.int .i64 (n:Nat)),(7,.pointer (some ⟨gx,0,none⟩)),(8,.pointer (some ⟨gg,0,none⟩)),(9,.int .i64 q),(10,.int .i64 mo),(11,.int .i64 le),(12,.bool nb),(13,.int .i64 ((if ws.all okName=true then 0 else 10):Nat))] a'→Q (.exit 2) a' w):∀ac,Frm 150 [(1,.bool hole),(2,.pointer (some ⟨wo.heap.size,0,none⟩)),(4,.pointer (some ⟨wo.heap.size+1,0,none⟩)),(5,v),(6,.int .i64 (n:Nat)),(7,.pointer (some ⟨gx,0,none⟩)),(8,.pointer (some ⟨gg,0,none⟩)),(9,.int .i64 q),(10,.int .i64 mo),(11,.int .i64 le),(12,.bool nb),(13,.int .i64 (0:Nat)),(114,.slice A n1 c1),(115,.int .i64 (n1:Nat)),(116,.int .i64 (0:Nat))] ac→Code.wp Tryd.prog c_of_words Q ac w := by
  intro a0 hf0
  conv=>arg 2; whnf
  obtain ⟨A',n',c',e9,hlen,hmax,_⟩ := id hw
  injection e9 with e1 e2 e3
  subst e1 e2 e3
  refine wp_loopR (fun g a' w'=>∃j:Nat,j+g=ws.length∧w'=w∧Frm 150 [(1,.bool hole),(2,.pointer (some ⟨wo.heap.size,0,none⟩)),(4,.pointer (some ⟨wo.heap.size+1,0,none⟩)),(5,v),(6,.int .i64 (n:Nat)),(7,.pointer (some ⟨gx,0,none⟩)),(8,.pointer (some ⟨gg,0,none⟩)),(9,.int .i64 q),(10,.int .i64 mo),(11,.int .i64 le),(12,.bool nb),(13,.int .i64 ((if (ws.take j).all okName=true then 0 else 10):Nat)),(114,.slice A n1 c1),(115,.int .i64 (n1:Nat)),(116,.int .i64 (j:Nat))] a') ws.length ⟨0,by omega,rfl,hf0⟩ ?_
  rintro g a1 w1 ⟨j,hjg,rfl,h1⟩
  refine wp_seq ?_
  refine of_r29_wp (fun a2 h2=>?_) a1 h1
  refine wp_seq ?_
  by_cases hj:j<n1
  case neg =>
    refine wp_cond_false ((h2.eval (k := 117) (v := .bool (decide (j<n1))) (by simp)).trans (by rw [decide_eq_false hj])) ?_
    refine wp_exit (hX a2 ?_)
    rw [List.take_of_length_le (by omega)] at h2
    exact (h2.pick [0,1,2,3,4,5,6,7,8,9,10,11])
  refine wp_cond_true ((h2.eval (k := 117) (v := .bool (decide (j<n1))) (by simp)).trans (by rw [decide_eq_true hj])) ?_
  refine wp_skip ?_
  show Code.wp _ _ _ a2 w1
  have hjl:j<ws.length := by omega
  obtain ⟨b,o,cs,rfl,hSb,⟨rfl,hsz⟩,hc⟩ := Rep.Sl.at_ hw (List.getElem?_eq_getElem hjl)
  have hc0:w1.cell? ⟨b,o+j,none⟩=some (.string ws[j]) := by simpa [strRep] using hc 0 _ rfl
  have htk:(ws.take (j+1)).all okName=((ws.take j).all okName && okName ws[j]) := by
    rw [List.take_succ_eq_append_getElem hjl,List.all_append]; simp
  refine wp_seq ?_
  refine wp_block ?_
  refine wp_seq ?_
  refine of_r30_wp hj hc0 (hS b hSb) (fun a3 h3=>?_) a2 (h2.pick [0,1,2,3,4,5,6,7,8,9,10,11,12,13,14])
  refine wp_seq ?_
  refine of_r31_wp hsz (fun a4 h4=>?_) a3 h3
  cases hok:okName ws[j]
  · rw [hok] at h4 htk
    refine wp_cond_true ((h4.eval (k := 122) (v := .bool (!false)) (by simp)).trans (by rw [show (!false)=true from rfl])) ?_
    refine of_r32_wp (fun a5 h5=>?_) a4 (h4.pick [0,1,2,3,4,5,6,7,8,9,10,11,12,13,14,15])
    show Code.wp _ _ _ a5 w1
    refine of_r33_wp hj (by omega) (fun a6 h6=>?_) a5 (h5.pick [0,1,2,3,4,5,6,7,8,9,10,11,12,13,14])
    refine ⟨g - 1,by omega,j+1,by omega,rfl,?_⟩
    rw [htk,Bool.and_false,if_neg (by decide)]
    exact h6
  · rw [hok] at h4 htk
    refine wp_cond_false ((h4.eval (k := 122) (v := .bool (!true)) (by simp)).trans (by rw [show (!true)=false from rfl])) ?_
    refine wp_skip ?_
    show Code.wp _ _ _ a4 w1
    refine of_r33_wp hj (by omega) (fun a6 h6=>?_) a4 (h4.pick [0,1,2,3,4,5,6,7,8,9,10,11,12,13,14])
    refine ⟨g - 1,by omega,j+1,by omega,rfl,?_⟩
    rw [htk,Bool.and_true]
    exact h6
def c_of_chain := sp 99 1572427 cF45
theorem of_chain_wp (hnm:nm.size≤maxLen) (hw:strRep.Sl wo S (.slice A n1 c1) ws) (hSo:∀k,S k→k<wo.heap.size) (hwo:(decide ((n1:Int)<le) || decide (mo<(n1:Int)))=!wordsOk kd n1) (hs:RD S wo w v L gx gg kd nm A n1 c1 B n2 c2 d) 
    (hN:∀a',Frm 150 [(1,.bool hole),(2,.pointer (some ⟨wo.heap.size,0,none⟩)),(4,.pointer (some ⟨wo.heap.size+1,0,none⟩)),(5,v),(6,.int .i64 (n:Nat)),(7,.pointer (some ⟨gx,0,none⟩)),(8,.pointer (some ⟨gg,0,none⟩)),(13,.int .i64 ((if (200<n+1∨40<d) then 1 else (FmL.code hole ⟨kd,nm,ws⟩ n2)):Nat))] a'→Q .normal a' w):∀ac,Frm 150 [(1,.bool hole),(2,.pointer (some ⟨wo.heap.size,0,none⟩)),(4,.pointer (some ⟨wo.heap.size+1,0,none⟩)),(5,v),(6,.int .i64 (n:Nat)),(7,.pointer (some ⟨gx,0,none⟩)),(8,.pointer (some ⟨gg,0,none⟩)),(9,.int .i64 (subsI hole kd)),(10,.int .i64 mo),(11,.int .i64 le),(12,.bool (namedF kd)),(13,.int .i64 0)] ac→Code.wp Tryd.prog c_of_chain Q ac w := by
  intro a0 hf0
  conv=>arg 2; whnf
  have hwlen:ws.length=n1 := by
    obtain ⟨_,_,_,e9,h9,_⟩ := id hw
    injection e9 with _ e9 _
    rw [e9,h9]
  refine wp_seq ?_
  refine of_r18_wp hs (fun a1 h1=>?_) a0 hf0
  by_cases hlim:(200<n+1∨40<d)
  · refine wp_cond_true ((h1.eval (k := 77) (v := .bool (decide (200<n+1∨40<d))) (by simp)).trans (by rw [decide_eq_true hlim])) ?_
    refine of_r19_wp (fun a' h'=>?_) a1 (h1.pick [0,1,2,3,4,5,6,7,8,9,10,11])
    refine hN a' ?_
    rw [if_pos hlim]
    exact (h'.pick [0,1,2,3,4,5,6,11])
  refine wp_cond_false ((h1.eval (k := 77) (v := .bool (decide (200<n+1∨40<d))) (by simp)).trans (by rw [decide_eq_false hlim])) ?_
  have hN':∀c a',(FmL.code hole ⟨kd,nm,ws⟩ n2)=c→Frm 150 [(1,.bool hole),(2,.pointer (some ⟨wo.heap.size,0,none⟩)),(4,.pointer (some ⟨wo.heap.size+1,0,none⟩)),(5,v),(6,.int .i64 (n:Nat)),(7,.pointer (some ⟨gx,0,none⟩)),(8,.pointer (some ⟨gg,0,none⟩)),(13,.int .i64 (c:Nat))] a'→Q .normal a' w := fun c a' e h=>hN a' (by rw [if_neg hlim,e]; exact h)
  refine wp_seq ?_
  refine of_r20_wp (fun a2 h2=>?_) a1 (h1.pick [0,1,2,3,4,5,6,7,8,9,10,11])
  cases hk:subsF hole kd with
  | none =>
    have hq:subsI hole kd = -1 := by unfold subsI; rw [hk]
    rw [hq] at h2
    refine wp_cond_true ((h2.eval (k := 79) (v := .bool (decide ((-1:Int)<0))) (by simp)).trans (by rw [decide_eq_true (by decide)])) ?_
    refine of_r21_wp (fun a' h'=>?_) a2 (h2.pick [0,1,2,3,4,5,6,7,8,9,10,11])
    exact hN' 4 a' (by unfold FmL.code; simp only; rw [hk]) (h'.pick [0,1,2,3,4,5,6,11])
  | some k =>
    have hq:subsI hole kd=(k:Int) := by unfold subsI; rw [hk]
    rw [hq] at h2
    refine wp_cond_false ((h2.eval (k := 79) (v := .bool (decide ((k:Int)<0))) (by simp)).trans (by rw [decide_eq_false (by omega)])) ?_
    refine wp_seq ?_
    refine of_r22_wp hs (fun a3 h3=>?_) a2 (h2.pick [0,1,2,3,4,5,6,7,8,9,10,11])
    cases hc9:(decide ((n2:Int)≠(k:Int)) || decide ((n1:Int)<le) || decide (mo<(n1:Int)))
    case true =>
      refine wp_cond_true ((h3.eval (k := 98) (v := .bool (decide ((n2:Int)≠(k:Int)) || decide ((n1:Int)<le) || decide (mo<(n1:Int)))) (by simp)).trans (by rw [hc9])) ?_
      refine of_r23_wp (fun a' h'=>?_) a3 (h3.pick [0,1,2,3,4,5,6,7,8,9,10,11])
      refine hN' 9 a' ?_ (h'.pick [0,1,2,3,4,5,6,11])
      unfold FmL.code
      simp only
      rw [hk]
      simp only
      rw [if_pos]
      rw [Bool.or_assoc,hwo] at hc9
      simp only [Bool.or_eq_true,decide_eq_true_eq,Bool.not_eq_true'] at hc9
      rcases hc9 with h | h
      · exact Or.inl (by omega)
      · exact Or.inr (by rw [hwlen]; exact h)
    refine wp_cond_false ((h3.eval (k := 98) (v := .bool (decide ((n2:Int)≠(k:Int)) || decide ((n1:Int)<le) || decide (mo<(n1:Int)))) (by simp)).trans (by rw [hc9])) ?_
    rw [Bool.or_assoc,hwo] at hc9
    simp only [Bool.or_eq_false_iff,decide_eq_false_iff_not,Decidable.not_not,Bool.not_eq_false'] at hc9
    obtain ⟨hn2,hwk⟩ := hc9
    have hcd:(FmL.code hole ⟨kd,nm,ws⟩ n2)=if namedF kd=true∧okName nm=false then 10 else if namedF kd=false∧nm≠bNilF then 5 else if ws.all okName=true then 0 else 10 := by
      unfold FmL.code
      simp only
      rw [hk]
      simp only
      rw [if_neg]
      rintro (h | h)
      · omega
      · rw [hwlen,hwk] at h; cases h
    refine wp_seq ?_
    refine of_r24_wp hnm hs (fun a4 h4=>?_) a3 (h3.pick [0,1,2,3,4,5,6,7,8,9,10,11])
    cases h10:(namedF kd && !okName nm)
    case true =>
      refine wp_cond_true ((h4.eval (k := 105) (v := .bool (namedF kd && !okName nm)) (by simp)).trans (by rw [h10])) ?_
      refine of_r25_wp (fun a' h'=>?_) a4 (h4.pick [0,1,2,3,4,5,6,7,8,9,10,11])
      exact hN' 10 a' (by rw [hcd,if_pos]; simpa using h10) (h'.pick [0,1,2,3,4,5,6,11])
    refine wp_cond_false ((h4.eval (k := 105) (v := .bool (namedF kd && !okName nm)) (by simp)).trans (by rw [h10])) ?_
    have hno10:¬ (namedF kd=true∧okName nm=false) := by
      rintro ⟨h1,h2⟩
      rw [h1,h2] at h10
      cases h10
    rw [if_neg hno10] at hcd
    refine wp_seq ?_
    refine of_r26_wp hs (fun a5 h5=>?_) a4 (h4.pick [0,1,2,3,4,5,6,7,8,9,10,11])
    cases h55:(!namedF kd && decide (nm≠bNilF))
    case true =>
      refine wp_cond_true ((h5.eval (k := 112) (v := .bool (!namedF kd && decide (nm≠bNilF))) (by simp)).trans (by rw [h55])) ?_
      refine of_r27_wp (fun a' h'=>?_) a5 (h5.pick [0,1,2,3,4,5,6,7,8,9,10,11])
      exact hN' 5 a' (by rw [hcd,if_pos]; simpa using h55) (h'.pick [0,1,2,3,4,5,6,11])
    refine wp_cond_false ((h5.eval (k := 112) (v := .bool (!namedF kd && decide (nm≠bNilF))) (by simp)).trans (by rw [h55])) ?_
    have hno5:¬ (namedF kd=false∧nm≠bNilF) := by
      rintro ⟨h1,h2⟩
      rw [h1,decide_eq_true h2] at h55
      cases h55
    rw [if_neg hno5] at hcd
    refine wp_seq ?_
    refine of_r28_wp hs (fun a6 h6=>?_) a5 (h5.pick [0,1,2,3,4,5,6,7,8,9,10,11])
    refine wp_block ?_
    have hbs := hs.b.size
    refine of_words_wp (S := S) (fun k hk=>by have := hSo k hk; omega) (hw.keep (fun k hk=>hs.b.block k (hSo k hk)) (fun _ h=>h)) (fun a7 h7=>?_) a6 h6
    refine inBlock_exit ?_
    exact hN' _ a7 hcd (h7.pick [0,1,2,3,4,5,6,11])
def c_of_p16 := sp 99 261707 cF45
theorem of_p16_wp (hnm:nm.size≤maxLen) (hw:strRep.Sl wo S (.slice A n1 c1) ws) (hSo:∀k,S k→k<wo.heap.size) (hl:fmRep.Sl wo S (.slice B n2 c2) l) (hd:d≤100) (hLl:L.length≤500) (hwo:(decide ((n1:Int)<le) || decide (mo<(n1:Int)))=!wordsOk kd n1) (hs:RD S wo w v L gx gg kd nm A n1 c1 B n2 c2 d) 
    (hX:(if (200<n+1∨40<d) then 1 else (FmL.code hole ⟨kd,nm,ws⟩ n2))=0→∀v' a' w',Frm 150 [(1,.bool hole),(2,.pointer (some ⟨wo.heap.size,0,none⟩)),(4,.pointer (some ⟨wo.heap.size+1,0,none⟩)),(5,v'),(6,.int .i64 (n:Nat))] a'→RD S wo w' v' (L++l.reverse.map (fun u=>(⟨u,d+1⟩:FmAt))) gx gg kd nm A n1 c1 B n2 c2 d→Q .normal a' w') (hR:(if (200<n+1∨40<d) then 1 else (FmL.code hole ⟨kd,nm,ws⟩ n2))≠0→∀a' w',Frm 150 [(4,.pointer (some ⟨wo.heap.size+1,0,none⟩))] a'→w'.heap[wo.heap.size+1]?=some (.cells #[.int .i64 ((if (200<n+1∨40<d) then 1 else (FmL.code hole ⟨kd,nm,ws⟩ n2)):Nat),.int .i64 (n:Nat)] 32 (0,0))→Below wo.heap.size wo w'→Q .ret a' w'):∀ac,Frm 150 [(1,.bool hole),(2,.pointer (some ⟨wo.heap.size,0,none⟩)),(4,.pointer (some ⟨wo.heap.size+1,0,none⟩)),(5,v),(6,.int .i64 (n:Nat)),(7,.pointer (some ⟨gx,0,none⟩)),(8,.pointer (some ⟨gg,0,none⟩)),(9,.int .i64 (subsI hole kd)),(10,.int .i64 mo),(11,.int .i64 le)] ac→Code.wp Tryd.prog c_of_p16 Q ac w := by
  intro a0 hf0
  conv=>arg 2; whnf
  refine wp_seq ?_
  refine of_r16_wp hs (fun a1 h1=>?_) a0 hf0
  refine wp_seq ?_
  refine of_r17_wp (fun a2 h2=>?_) a1 h1
  refine wp_seq ?_
  refine of_chain_wp hnm hw hSo hwo hs (fun a3 h3=>?_) a2 h2
  refine of_p34_wp hl hSo hd (fun h=>?_) hLl hs hX hR a3 h3
  have:(FmL.code hole ⟨kd,nm,ws⟩ n2)=0 := by
    split at h
    · cases h
    · exact h
  have := FmL.code_len this
  omega
def c_of_p11 := sp 99 32331 cF45
theorem of_p11_wp (hnm:nm.size≤maxLen) (hw:strRep.Sl wo S (.slice A n1 c1) ws) (hSo:∀k,S k→k<wo.heap.size) (hl:fmRep.Sl wo S (.slice B n2 c2) l) (hd:d≤100) (hLl:L.length≤500) (hs:RD S wo w v L gx gg kd nm A n1 c1 B n2 c2 d) 
    (hX:(if (200<n+1∨40<d) then 1 else (FmL.code hole ⟨kd,nm,ws⟩ n2))=0→∀v' a' w',Frm 150 [(1,.bool hole),(2,.pointer (some ⟨wo.heap.size,0,none⟩)),(4,.pointer (some ⟨wo.heap.size+1,0,none⟩)),(5,v'),(6,.int .i64 (n:Nat))] a'→RD S wo w' v' (L++l.reverse.map (fun u=>(⟨u,d+1⟩:FmAt))) gx gg kd nm A n1 c1 B n2 c2 d→Q .normal a' w') (hR:(if (200<n+1∨40<d) then 1 else (FmL.code hole ⟨kd,nm,ws⟩ n2))≠0→∀a' w',Frm 150 [(4,.pointer (some ⟨wo.heap.size+1,0,none⟩))] a'→w'.heap[wo.heap.size+1]?=some (.cells #[.int .i64 ((if (200<n+1∨40<d) then 1 else (FmL.code hole ⟨kd,nm,ws⟩ n2)):Nat),.int .i64 (n:Nat)] 32 (0,0))→Below wo.heap.size wo w'→Q .ret a' w'):∀ac,Frm 150 [(1,.bool hole),(2,.pointer (some ⟨wo.heap.size,0,none⟩)),(4,.pointer (some ⟨wo.heap.size+1,0,none⟩)),(5,v),(6,.int .i64 (n:Nat)),(7,.pointer (some ⟨gx,0,none⟩)),(8,.pointer (some ⟨gg,0,none⟩)),(9,.int .i64 (subsI hole kd))] ac→Code.wp Tryd.prog c_of_p11 Q ac w := by
  intro a0 hf0
  conv=>arg 2; whnf
  refine wp_seq ?_
  refine of_r11_wp (fun a1 h1=>?_) a0 hf0
  refine wp_seq ?_
  refine wp_seq ?_
  refine of_r12_wp hs (fun a2 h2=>?_) a1 h1
  have p14:∀(mo le:Int) (a3:Act),(kd=2→mo=3∧le=0)→(kd≠2→mo=0∧le=0)→Frm 150 [(1,.bool hole),(2,.pointer (some ⟨wo.heap.size,0,none⟩)),(4,.pointer (some ⟨wo.heap.size+1,0,none⟩)),(5,v),(6,.int .i64 (n:Nat)),(7,.pointer (some ⟨gx,0,none⟩)),(8,.pointer (some ⟨gg,0,none⟩)),(9,.int .i64 (subsI hole kd)),(10,.int .i64 mo),(11,.int .i64 le)] a3→Code.wp Tryd.prog (sub [1,1,0,1,0,0,1,0,0,1,1,1,1,1,1,1] (Tryd.f45.body.getD .skip)) Q a3 w := by
    intro mo le a3 hy hn h3
    conv=>arg 2; whnf
    refine wp_seq ?_
    refine wp_seq ?_
    refine of_r14_wp hs (fun a4 h4=>?_) a3 h3
    by_cases hk3:kd=3
    · refine wp_cond_true ((h4.eval (k := 52) (v := .bool (decide (kd=3))) (by simp)).trans (by rw [decide_eq_true hk3])) ?_
      refine of_r15_wp (fun a5 h5=>?_) a4 (h4.pick [0,1,2,3,4,5,6,7,8,9])
      refine of_p16_wp hnm hw hSo hl hd hLl ?_ hs hX hR a5 h5
      unfold wordsOk
      rw [if_neg (by omega),if_pos hk3]
      by_cases h:n1=2
      · subst h; rfl
      · rw [decide_eq_false h]
        simp only [Bool.not_false,Bool.or_eq_true,decide_eq_true_eq]
        omega
    refine wp_cond_false ((h4.eval (k := 52) (v := .bool (decide (kd=3))) (by simp)).trans (by rw [decide_eq_false hk3])) ?_
    refine wp_skip ?_
    refine of_p16_wp hnm hw hSo hl hd hLl ?_ hs hX hR a4 (h4.pick [0,1,2,3,4,5,6,7,8,9])
    unfold wordsOk
    by_cases hk2:kd=2
    · obtain ⟨rfl,rfl⟩ := hy hk2
      rw [if_pos hk2]
      by_cases h:n1≤3
      · rw [decide_eq_true h]
        simp only [Bool.not_true,Bool.or_eq_false_iff,decide_eq_false_iff_not]
        omega
      · rw [decide_eq_false h]
        simp only [Bool.not_false,Bool.or_eq_true,decide_eq_true_eq]
        omega
    · obtain ⟨rfl,rfl⟩ := hn hk2
      rw [if_neg hk2,if_neg hk3]
      by_cases h:n1=0
      · subst h; rfl
      · rw [decide_eq_false h]
        simp only [Bool.not_false,Bool.or_eq_true,decide_eq_true_eq]
        omega
  by_cases hk2:kd=2
  · refine wp_cond_true ((h2.eval (k := 49) (v := .bool (decide (kd=2))) (by simp)).trans (by rw [decide_eq_true hk2])) ?_
    refine of_r13_wp (fun a3 h3=>?_) a2 (h2.pick [0,1,2,3,4,5,6,7,8,9])
    exact p14 3 0 a3 (fun _=>⟨rfl,rfl⟩) (fun h=>absurd hk2 h) h3
  refine wp_cond_false ((h2.eval (k := 49) (v := .bool (decide (kd=2))) (by simp)).trans (by rw [decide_eq_false hk2])) ?_
  refine wp_skip ?_
  exact p14 0 0 a2 (fun h=>absurd h hk2) (fun _=>⟨rfl,rfl⟩) (h2.pick [0,1,2,3,4,5,6,7,8,9])
def c_of_p8 := sp 99 7755 cF45
theorem of_p8_wp (hnm:nm.size≤maxLen) (hw:strRep.Sl wo S (.slice A n1 c1) ws) (hSo:∀k,S k→k<wo.heap.size) (hl:fmRep.Sl wo S (.slice B n2 c2) l) (hd:d≤100) (hLl:L.length≤500) (hs:RD S wo w v L gx gg kd nm A n1 c1 B n2 c2 d) 
    (hX:(if (200<n+1∨40<d) then 1 else (FmL.code hole ⟨kd,nm,ws⟩ n2))=0→∀v' a' w',Frm 150 [(1,.bool hole),(2,.pointer (some ⟨wo.heap.size,0,none⟩)),(4,.pointer (some ⟨wo.heap.size+1,0,none⟩)),(5,v'),(6,.int .i64 (n:Nat))] a'→RD S wo w' v' (L++l.reverse.map (fun u=>(⟨u,d+1⟩:FmAt))) gx gg kd nm A n1 c1 B n2 c2 d→Q .normal a' w') (hR:(if (200<n+1∨40<d) then 1 else (FmL.code hole ⟨kd,nm,ws⟩ n2))≠0→∀a' w',Frm 150 [(4,.pointer (some ⟨wo.heap.size+1,0,none⟩))] a'→w'.heap[wo.heap.size+1]?=some (.cells #[.int .i64 ((if (200<n+1∨40<d) then 1 else (FmL.code hole ⟨kd,nm,ws⟩ n2)):Nat),.int .i64 (n:Nat)] 32 (0,0))→Below wo.heap.size wo w'→Q .ret a' w'):∀ac,Frm 150 [(1,.bool hole),(2,.pointer (some ⟨wo.heap.size,0,none⟩)),(4,.pointer (some ⟨wo.heap.size+1,0,none⟩)),(5,v),(6,.int .i64 (n:Nat)),(7,.pointer (some ⟨gx,0,none⟩)),(8,.pointer (some ⟨gg,0,none⟩))] ac→Code.wp Tryd.prog c_of_p8 Q ac w := by
  intro a0 hf0
  conv=>arg 2; whnf
  refine wp_seq ?_
  refine of_r8_wp hSo hs (fun a1 w1 h1 hs1=>?_) a0 hf0
  refine wp_seq ?_
  refine wp_seq ?_
  refine of_r9_wp hs1 (fun a2 h2=>?_) a1 h1
  cases hh:(hole && decide (kd=10))
  case true =>
    refine wp_cond_true ((h2.eval (k := 46) (v := .bool (hole && decide (kd=10))) (by simp)).trans (by rw [hh])) ?_
    refine of_r10_wp (fun a3 h3=>?_) a2 (h2.pick [0,1,2,3,4,5,6,7])
    refine of_p11_wp hnm hw hSo hl hd hLl hs1 hX hR a3 ?_
    simp only [Bool.and_eq_true,decide_eq_true_eq] at hh
    obtain ⟨rfl,rfl⟩ := hh
    exact h3
  refine wp_cond_false ((h2.eval (k := 46) (v := .bool (hole && decide (kd=10))) (by simp)).trans (by rw [hh])) ?_
  refine wp_skip ?_
  refine of_p11_wp hnm hw hSo hl hd hLl hs1 hX hR a2 ?_
  have hq:subsI hole kd=subsI false kd := by
    unfold subsI subsF
    cases hole
    · rfl
    · have hk:kd≠10 := by rintro rfl; cases hh
      simp [hk]
  rw [hq]
  exact (h2.pick [0,1,2,3,4,5,6,7])
def c_of_body := sp 99 587 cF45
theorem of_body_wp {k cq gb:Nat} {ks:List Value} (hSo:∀k,S k→k<wo.heap.size) (hks:fmRep.R wo S (.mk ⟨kd,nm,ws⟩ l) ks) (hkL:L.length=k) (hkl:k≤300) (hcap:k+1≤cq) (hd:d≤100) (hgb:gb<w.heap.size) (hcell:∀j u,(ks++[.int .i64 (d:Nat)])[j]?=some u→w.cell? ⟨gb,k * 5+j,none⟩=some u) (hown:fmAtRep.Own 100 (wo.heap.size+2) w S (.slice (some ⟨gb,0,none⟩) k cq) L) (hr:w.heap[wo.heap.size+1]?=some (.cells #[.int .i64 0,.int .i64 0] 32 (0,0))) (hb:Below wo.heap.size wo w)
    (hX:(if (200<n+1∨40<d) then 1 else (FmL.code hole ⟨kd,nm,ws⟩ l.length))=0→∀v' a' w',Frm 150 [(1,.bool hole),(2,.pointer (some ⟨wo.heap.size,0,none⟩)),(4,.pointer (some ⟨wo.heap.size+1,0,none⟩)),(5,v'),(6,.int .i64 (n:Nat))] a'→fmAtRep.Own 100 (wo.heap.size+2) w' S v' (L++l.reverse.map (fun u=>(⟨u,d+1⟩:FmAt)))→w'.heap[wo.heap.size+1]?=some (.cells #[.int .i64 0,.int .i64 0] 32 (0,0))→Below wo.heap.size wo w'→Q .normal a' w') (hR:(if (200<n+1∨40<d) then 1 else (FmL.code hole ⟨kd,nm,ws⟩ l.length))≠0→∀a' w',Frm 150 [(4,.pointer (some ⟨wo.heap.size+1,0,none⟩))] a'→w'.heap[wo.heap.size+1]?=some (.cells #[.int .i64 ((if (200<n+1∨40<d) then 1 else (FmL.code hole ⟨kd,nm,ws⟩ l.length)):Nat),.int .i64 (n:Nat)] 32 (0,0))→Below wo.heap.size wo w'→Q .ret a' w'):∀ac,Frm 150 [(1,.bool hole),(2,.pointer (some ⟨wo.heap.size,0,none⟩)),(4,.pointer (some ⟨wo.heap.size+1,0,none⟩)),(5,.slice (some ⟨gb,0,none⟩) (k+1) cq),(6,.int .i64 (n:Nat))] ac→Code.wp Tryd.prog c_of_body Q ac w := by
  intro a0 hf0
  conv=>arg 2; whnf
  obtain ⟨u,v9,rfl,hnm,hw,hl⟩ := Fm.open_ hks
  simp only at hw hnm
  obtain ⟨A,n1,c1,rfl,e1,hm1,_⟩ := id hw
  obtain ⟨B,n2,c2,rfl,e2,hm2,_⟩ := id hl
  rw [e2] at hX hR
  have z0:w.cell? ⟨gb,k * 5,none⟩=some (.int .i64 kd) := hcell 0 _ rfl
  have z1 := hcell 1 _ rfl
  have z2 := hcell 2 _ rfl
  have z3 := hcell 3 _ rfl
  have z4 := hcell 4 _ rfl
  have hgbl := (hown.block gb rfl).1
  refine wp_seq ?_
  refine of_r5_wp hkl hcap z0 z1 z2 z3 z4 hgb (fun a1 h1=>?_) a0 hf0
  refine wp_seq ?_
  refine of_r6_wp hkl hcap (fun a2 h2=>?_) a1 h1
  refine wp_seq ?_
  refine of_r7_wp (heap_alloc_new w _) (fun a3 h3=>?_) a2 h2
  have hbsz := hb.size
  have hrl := lt_heap hr
  have hs:RD S wo ((w.alloc (.cells #[.int .i64 kd,.string nm,.slice A n1 c1,.slice B n2 c2,.int .i64 (d:Nat)] 100)).alloc (.cells #[.int .i64 kd,.string nm,.slice A n1 c1,.slice B n2 c2] 29)) (.slice (some ⟨gb,0,none⟩) k cq) L w.heap.size (w.alloc (.cells #[.int .i64 kd,.string nm,.slice A n1 c1,.slice B n2 c2,.int .i64 (d:Nat)] 100)).heap.size kd nm A n1 c1 B n2 c2 d := by
    have b1 := (Below.refl w.heap.size w).alloc (Nat.le_refl _) (.cells #[.int .i64 kd,.string nm,.slice A n1 c1,.slice B n2 c2,.int .i64 (d:Nat)] 100)
    have b2 := b1.alloc (by simp) (.cells #[.int .i64 kd,.string nm,.slice A n1 c1,.slice B n2 c2] 29)
    refine ⟨heap_old (by simp) (heap_alloc_new w _),heap_alloc_new _ _,(b2.block _ hrl).trans hr,hown.below b2 (fun b hh=>by have := hSo b hh; omega),hb.trans (b2.mono hbsz),by omega,by simp; omega,by simp [Value.ownBlock]; omega,by simp [Value.ownBlock]; omega⟩
  exact of_p8_wp hnm hw hSo hl hd (by omega) hs (fun h v' a' w' h' hs'=>hX h v' a' w' h' hs'.own hs'.r hs'.b) hR a3 h3
theorem refOpen_any (hole:Bool) (t:Fm) (cs:List Value) (w:World) (S:Nat→Prop) (ht:fmRep.R w S t cs) (hSo:∀b,S b→b<w.heap.size) :
    Calls Tryd.prog 45 #[.agg cs.toArray,.bool hole] w (fun e w'=>e=.returned (.agg #[.int .i64 ((fmVal hole t 1 0).1:Nat),.int .i64 ((fmVal hole t 1 0).2.1:Nat)])∧Below w.heap.size w w') := by
  obtain ⟨A,n1,c1,B,n2,c2,rfl,_,_,_,_⟩ := Fm.shape ht
  obtain ⟨kd,hkd⟩:∃k,t.lab.kind=k := ⟨_,rfl⟩
  obtain ⟨nm,hnm⟩:∃k,t.lab.nm=k := ⟨_,rfl⟩
  rw [hkd,hnm] at ht ⊢
  have hfin:∀(c i:Nat) (a':Act) (w':World),fmStack hole [⟨t,1⟩] 0=(c,i)→Frm 150 [(4,.pointer (some ⟨w.heap.size+1,0,none⟩))] a'→w'.heap[w.heap.size+1]?=some (.cells #[.int .i64 (c:Nat),.int .i64 (i:Nat)] 32 (0,0))→Below w.heap.size w w'→bodyPost Tryd.prog Tryd.f45 (fun e w'=>e=.returned (.agg #[.int .i64 ((fmVal hole t 1 0).1:Nat),.int .i64 ((fmVal hole t 1 0).2.1:Nat)])∧Below w.heap.size w w') .ret a' w' := by
    intro c i a' w' e h hr hb
    rw [fmStack_one] at e
    injection e with e1 e2
    rw [e1,e2]
    exact of_ret_wp hr ⟨rfl,hb⟩ a' h
  go_enter Tryd.func45,Tryd.ntmps45
  refine wp_seq ?_
  refine of_r0_wp (fun a0 h0=>?_) _ (id ⟨rfl,rfl,rfl,rfl,trivial⟩)
  refine wp_seq ?_
  refine of_r1_wp (heap_old (by simp) (heap_at (by simp))) (fun a1 h1=>?_) a0 h0
  refine wp_seq ?_
  refine wp_seq ?_
  refine of_r2_wp (fun a2 h2=>?_) a1 h1
  have hown0:fmAtRep.Own 100 (w.heap.size+2) (((w.alloc (.cells #[.int .i64 kd,.string nm,.slice A n1 c1,.slice B n2 c2] 29)).alloc (.cells #[.int .i64 0,.int .i64 0] 32)).alloc (.cells #[.int .i64 kd,.string nm,.slice A n1 c1,.slice B n2 c2,.int .i64 1] 100)) S (.slice (some ⟨((w.alloc (.cells #[.int .i64 kd,.string nm,.slice A n1 c1,.slice B n2 c2] 29)).alloc (.cells #[.int .i64 0,.int .i64 0] 32)).heap.size,0,none⟩) 1 1) [⟨t,1⟩] := by
    refine Rep.Own.lit (ρ := fmAtRep) (n := 1) (w := (w.alloc (.cells #[.int .i64 kd,.string nm,.slice A n1 c1,.slice B n2 c2] 29)).alloc (.cells #[.int .i64 0,.int .i64 0] 32)) (cs := #[.int .i64 kd,.string nm,.slice A n1 c1,.slice B n2 c2,.int .i64 1]) rfl (by simp [maxLen]) (Rep.All.single (ρ := fmAtRep) (a := ⟨t,1⟩) ⟨_,rfl,fmRep.keep ht (fun k hk=>heap_old (by have := hSo k hk; simp; omega) (heap_old (hSo k hk) rfl)) (fun _ h=>h)⟩) (by simp) (fun b hb=>by have := hSo b hb; simp; omega) rfl rfl
  have hr0:(((w.alloc (.cells #[.int .i64 kd,.string nm,.slice A n1 c1,.slice B n2 c2] 29)).alloc (.cells #[.int .i64 0,.int .i64 0] 32)).alloc (.cells #[.int .i64 kd,.string nm,.slice A n1 c1,.slice B n2 c2,.int .i64 1] 100)).heap[w.heap.size+1]?=some (.cells #[.int .i64 0,.int .i64 0] 32 (0,0)) := heap_old (by simp) (heap_at (by simp))
  have hb0:Below w.heap.size w (((w.alloc (.cells #[.int .i64 kd,.string nm,.slice A n1 c1,.slice B n2 c2] 29)).alloc (.cells #[.int .i64 0,.int .i64 0] 32)).alloc (.cells #[.int .i64 kd,.string nm,.slice A n1 c1,.slice B n2 c2,.int .i64 1] 100)) := by go_grown
  refine wp_block ?_
  refine wp_loopR (fun g a' w'=>∃(L:List FmAt) (n:Nat) (v:Value),g+n=200∧fmAtRep.Own 100 (w.heap.size+2) w' S v L∧w'.heap[w.heap.size+1]?=some (.cells #[.int .i64 0,.int .i64 0] 32 (0,0))∧Below w.heap.size w w'∧fmStack hole L.reverse n=fmStack hole [⟨t,1⟩] 0∧L.length≤n+1∧(∀y∈L,y.d≤41)∧Frm 150 [(1,.bool hole),(2,.pointer (some ⟨w.heap.size,0,none⟩)),(4,.pointer (some ⟨w.heap.size+1,0,none⟩)),(5,v),(6,.int .i64 (n:Nat))] a') 200 ⟨[⟨t,1⟩],0,_,by omega,hown0,hr0,hb0,rfl,by simp,by simp,h2⟩ ?_
  rintro g a3 w3 ⟨L,n,v,hgn,hown,hr,hb,hst,hLn,hd41,h3⟩
  obtain ⟨Aq,cq,rfl⟩ := hown.len
  refine wp_seq ?_
  refine wp_seq ?_
  refine of_r3_wp (fun a4 h4=>?_) a3 h3
  rcases List.eq_nil_or_concat L with rfl | ⟨L',⟨⟨⟨kk,nn,ws⟩,l⟩,d⟩,hLL⟩
  · refine wp_cond_false ((h4.eval (k := 22) (v := .bool (decide (0<([]:List FmAt).length))) (by simp)).trans (by rw [decide_eq_false (by simp)])) ?_
    refine wp_exit ?_
    repeat refine then_exit ?_
    refine inBlock_exit ?_
    show Code.wp _ _ _ a4 w3
    refine wp_seq ?_
    refine of_r40_wp hr hb (fun a5 w5 h5 hr5 hb5=>?_) a4 (h4.pick [2])
    refine wp_ret ?_
    exact hfin 0 0 a5 w5 (by rw [← hst]; rfl) h5 hr5 hb5
  rw [List.concat_eq_append] at hLL
  subst hLL
  refine wp_cond_true ((h4.eval (k := 22) (v := .bool (decide (0<(L'++[(⟨⟨⟨kk,nn,ws⟩,l⟩,d⟩:FmAt)]).length))) (by simp)).trans (by rw [decide_eq_true (by simp)])) ?_
  refine wp_skip ?_
  show Code.wp _ _ _ a4 w3
  have hln:(L'++[(⟨⟨⟨kk,nn,ws⟩,l⟩,d⟩:FmAt)]).length=L'.length+1 := by simp
  obtain ⟨gb,cap,cs,hv,hcap,hg,hgl,⟨ks,rfl,hks⟩,hcell,hfr,hown'⟩ := hown.pop rfl
  rw [hln] at hv h4
  injection hv with hv1 hv2 hv3
  subst hv1 hv3
  have hdd:d≤41 := hd41 ⟨⟨⟨kk,nn,ws⟩,l⟩,d⟩ (by simp)
  have hks0 := fmRep.keep hks (w' := w) (fun b hb'=>(hb.block b (hSo b hb')).symm) (fun _ h=>h)
  rw [List.reverse_append,List.reverse_singleton,List.singleton_append,fmStack_step] at hst
  have hL1:L'.length+1≤n+1 := by rw [hln] at hLn; exact hLn
  refine wp_seq ?_
  refine wp_block ?_
  refine of_body_wp (k := L'.length) (d := d) hSo hks0 rfl (by omega) hcap (by omega) hgl hcell hown' hr hb (fun hc v5 a5 w5 h5 ho5 hr5 hb5=>?_) (fun hc a5 w5 h5 hr5 hb5=>?_) a4 (h4.pick [0,1,2,3,4])
  · show Code.wp _ _ _ a5 w5
    by_cases hlim:200<n+1∨40<d
    · rw [if_pos hlim] at hc; cases hc
    rw [if_neg hlim] at hc hst
    rw [if_pos hc] at hst
    have hl2 := FmL.code_len hc
    refine of_r4_wp (by omega) (fun a6 h6=>?_) a5 h5
    refine ⟨g - 1,by omega,_,n+1,v5,by omega,ho5,hr5,hb5,?_,?_,?_,h6⟩
    · rw [← hst,List.reverse_append,← List.map_reverse,List.reverse_reverse]
    · simp; omega
    · intro y hy
      rcases List.mem_append.1 hy with hy | hy
      · exact hd41 y (by simp [hy])
      · simp only [List.mem_map,List.mem_reverse] at hy
        obtain ⟨u,_,rfl⟩ := hy
        show d+1≤41
        omega
  · refine hfin _ _ a5 w5 ?_ h5 hr5 hb5
    rw [← hst]
    by_cases hlim:200<n+1∨40<d
    · rw [if_pos hlim,if_pos hlim]
    · rw [if_neg hlim] at hc ⊢
      rw [if_neg hlim,if_neg hc]
theorem refFormFault_any (t:Fm) (cs:List Value) (w:World) (S:Nat→Prop) (ht:fmRep.R w S t cs) (hS:∀b,S b→b<w.heap.size) :
    Calls Tryd.prog 25 #[.agg cs.toArray] w fun e w'=>e=.returned (.agg #[.int .i64 ((fmVal false t 1 0).1:Nat),.int .i64 ((fmVal false t 1 0).2.1:Nat)])∧Below w.heap.size w w' := by
  obtain ⟨A,n1,c1,B,n2,c2,rfl,_,_,_,_⟩ := Fm.shape ht
  have hv := fun (o p:Obj)=>Lib.hid (refOpen_any false t _ ((w.alloc o).alloc p) S (fmRep.keep ht (fun b hb=>heap_old (by have := hS b hb; simp; omega) (heap_old (hS b hb) rfl)) (fun _ h=>h)) (fun b hb=>by have := hS b hb; simp; omega))
  clear ht
  have HV := Lib.hid hv
  have HS := Lib.hid hS
  clear hv hS
  go_enter Tryd.func25,Tryd.ntmps25
  go_wp2_with fail
  (with_reducible refine (HV.out _ _).out.mono ?_)
  rintro e w1 ⟨rfl,hb1⟩
  have h2 := (hb1.block (w.heap.size+1) (by simp)).trans (heap_at (by simp))
  have hb:Below w.heap.size w w1 := (show Below w.heap.size w _ by go_grown).trans (hb1.mono (by first | (simp; done) | (simp; omega)))
  clear hb1
  have HB := Lib.hid hb
  clear hb
  have h2_0 := cv0 h2
  have h2_1 := cv1 h2
  have h2_f0 := free_heap h2 0
  have h2_f1 := free_heap h2 1
  have h2_l := lt_heap h2
  have H2 := Lib.hid h2
  clear h2
  go_wp2_with fail
  refine bodyPost_ret (v := .agg #[.int .i64 ((fmVal false t 1 0).1:Nat),.int .i64 ((fmVal false t 1 0).2.1:Nat)]) (by simp [results,Tryd.results25,go_sem,h2_0,h2_1,h2_l]) rfl ?_
  exact ⟨rfl,below2 HB.out (by omega)⟩
end

end Go.Proofs.YthfokmjpbnfihaaDoor
