/- Lemmas. -/
import Derived.Test.YthfokmjpbnfihaaDoorShelf
import Derived.Test.YthfokmjpbnfihaaDoorIj
import Derived.Test.YthfokmjpbnfihaaDoorIr
import Derived.Sort.OwnSorted
import Derived.Sort.Grow
import Derived.Lib.ItoaMem
namespace Go.Proofs.YthfokmjpbnfihaaDoor
open Go Go.RowKit
set_option linter.unusedSimpArgs false
set_option linter.unusedVariables false
noncomputable section
set_option maxRecDepth 100000
set_option maxHeartbeats 4000000
variable {w wo:World} {S:Nat→Prop} {D B:Option Addr} {m e bl bw n2 c2:Nat} {bd l:List ByteArray} {v:Value} {Q:Exit→Act→World→Prop}

theorem contains_any (h:strRep.Sl w S (.slice D m e) bd) (x:ByteArray):Calls Tryd.prog 67 #[.slice D m e,.string x] w fun e w'=>e=.returned (.bool (hasB bd x))∧w'=w := by
  obtain ⟨D',m',c',e1,hlen,hmax,_⟩ := id h
  injection e1 with e1 e2 e3
  subst e1 e2 e3
  have hb:hasB bd x=Lib.containsS bd x := Bool.eq_iff_iff.2 (hasB_iff.trans (Lib.containsS_iff bd x).symm)
  cases bd with
  | nil =>
    obtain rfl:m=0 := hlen.symm
    exact Tryd.slices_Contains_string_empty D e x w
  | cons a l =>
    obtain ⟨b,o,cs,rfl,_⟩ := Rep.Sl.at_ h (k := 0) rfl
    have hc:∀j,j<(a :: l).length→w.cell? ⟨b,o+j,none⟩=some (.string ((a :: l).getD j ByteArray.empty)) := fun j hj=>by
      obtain ⟨b',o',cs',e',_,⟨rfl,_⟩,hc'⟩ := Rep.Sl.at_ h (List.getElem?_eq_getElem hj)
      injection e' with e'
      injection e' with e1 e2
      subst e1 e2
      have := hc' 0 _ rfl
      rw [List.getD_eq_getElem?_getD,List.getElem?_eq_getElem hj]
      simpa [strRep] using this
    have := Tryd.slices_Contains_string b o m e (a :: l) x w (by omega) (by unfold maxLen at hmax; omega) hc
    rw [List.take_of_length_le (by omega)] at this
    rw [hb]
    exact this
theorem strAll:∀l:List ByteArray,(∀s∈l,s.size≤maxLen)→strRep.All w S l (l.map .string)
  | [],_=>rfl
  | a :: l,h=>⟨[.string a],l.map .string,rfl,⟨rfl,h a (by simp)⟩,strAll l (fun s hs=>h s (by simp [hs]))⟩
theorem sl_of_row {base:Nat} {E:TypeId} (h:w.ownsRow base E 1 v l.length (l.map .string)) (hz:∀s∈l,s.size≤maxLen) (hm:l.length≤maxLen) (hS:∀k,v.ownBlock=some k→S k):strRep.Sl w S v l := by
  obtain ⟨_,⟨e,e0⟩ | ⟨g,cap,cur,e,hg,hh,h1,h2,h3,h4⟩⟩ := h
  · rw [e]
    exact ⟨none,0,0,rfl,e0,by omega,by omega⟩
  · refine ⟨some ⟨g,0,none⟩,l.length,cap,e,rfl,hm,fun _=>⟨g,0,l.map .string,rfl,hS g (by rw [e]; rfl),strAll l hz,fun j u hu=>?_⟩⟩
    have hj:j<l.length := by
      have := (List.getElem?_eq_some_iff.1 hu).1
      simpa using this
    have h5:cur[j]? = some u := by
      rw [← Array.getElem?_toList,← List.getElem?_take_of_lt hj]
      rw [Nat.mul_one] at h4
      rw [h4]; exact hu
    simp only [World.cell?,hh,Nat.zero_add]
    simpa using h5
theorem fmFreess_take_le (bd:List ByteArray) (l:List Fm) (j:Nat):(fmFreess bd (l.take j)).length≤(fmFreess bd l).length := by
  conv=>rhs; rw [← List.take_append_drop j l,fmFreess_append]
  rw [List.length_append]
  omega
theorem fmFreess_at_le (bd:List ByteArray) (l:List Fm) (j:Nat) (h:j<l.length):(fmFreess bd (l.take j)).length+(fmFrees bd l[j]).length≤(fmFreess bd l).length := by
  have := fmFreess_take_le bd l (j+1)
  rw [fmFreess_take bd l j h,List.length_append] at this
  exact this
theorem cn_end {R:Ending→World→Prop} {w':World} {a:Act} (hd:a.defers=[]) (hR:R (.returned (.tuple #[])) w'):bodyPost Tryd.prog Tryd.f66 R .normal a w' := bodyPost_end (results_none Tryd.results66 _ _ _) hd hR
def c_cn_wl := sp 99 21 cF66
theorem cn_wl_wp {ws:List ByteArray} {v0:Value} {kd:Int} {nm:ByteArray} {A:Option Addr} {n1 c1:Nat} (hs:KS wo w bl v0 kd nm A n1 c1 B n2 c2 v l) (hS:∀k,S k→k<wo.heap.size∧k≠bl∧v0.ownBlock≠some k) (hbd:strRep.Sl wo S (.slice D m e) bd) (hw:strRep.Sl wo S (.slice A n1 c1) ws) (hln:l.length+(ws.filter (fun x=>!hasB bd x)).length≤1000000)
    (hX:∀v' a' w',Frm 50 [(1,(.slice D m e)),(2,.pointer (some ⟨bl,0,none⟩)),(3,.pointer (some ⟨bw,0,none⟩)),(4,.pointer (some ⟨wo.heap.size,0,none⟩))] a'→KS wo w' bl v0 kd nm A n1 c1 B n2 c2 v' (l++ws.filter (fun x=>!hasB bd x))→Q (.exit 0) a' w'):∀ac,Frm 50 [(1,(.slice D m e)),(2,.pointer (some ⟨bl,0,none⟩)),(3,.pointer (some ⟨bw,0,none⟩)),(4,.pointer (some ⟨wo.heap.size,0,none⟩)),(11,.slice A n1 c1),(12,.int .i64 (n1:Nat)),(13,.int .i64 (0:Nat))] ac→Code.wp Tryd.prog c_cn_wl Q ac w := by
  intro a0 hf0
  conv=>arg 2; whnf
  obtain ⟨A',n',c',e9,hlen,hmax,_⟩ := id hw
  injection e9 with e1 e2 e3
  subst e1 e2 e3
  refine wp_loopR (fun g a' w'=>∃(j:Nat) (v':Value),j+g=ws.length∧KS wo w' bl v0 kd nm A n1 c1 B n2 c2 v' (l++(ws.take j).filter (fun x=>!hasB bd x))∧Frm 50 [(1,(.slice D m e)),(2,.pointer (some ⟨bl,0,none⟩)),(3,.pointer (some ⟨bw,0,none⟩)),(4,.pointer (some ⟨wo.heap.size,0,none⟩)),(11,.slice A n1 c1),(12,.int .i64 (n1:Nat)),(13,.int .i64 (j:Nat))] a') ws.length ⟨0,v,by omega,by simpa using hs,hf0⟩ ?_
  rintro g a1 w1 ⟨j,v1,hjg,hs1,h1⟩
  refine wp_seq ?_
  refine cn_r2_wp (fun a2 h2=>?_) a1 h1
  refine wp_seq ?_
  by_cases hj:j<n1
  case neg =>
    refine wp_cond_false ((h2.eval (k := 14) (v := .bool (decide (j<n1))) (by simp)).trans (by rw [decide_eq_false hj])) ?_
    refine wp_exit (hX v1 a2 w1 (h2.pick [0,1,2,3]) ?_)
    rwa [List.take_of_length_le (by omega)] at hs1
  refine wp_cond_true ((h2.eval (k := 14) (v := .bool (decide (j<n1))) (by simp)).trans (by rw [decide_eq_true hj])) ?_
  refine wp_skip ?_
  show Code.wp _ _ _ a2 w1
  have hold := hs1.old hS
  have hjl:j<ws.length := by omega
  obtain ⟨b,o,cs,rfl,hSb,⟨rfl,hsz⟩,hc⟩ := Rep.Sl.at_ hw (List.getElem?_eq_getElem hjl)
  have hc0:w1.cell? ⟨b,o+j,none⟩=some (.string ws[j]) := (cell_keep (hold b hSb) _).trans (by simpa [strRep] using hc 0 _ rfl)
  have hbl := lt_heap hs1.a
  have hlb:b<w1.heap.size := by have := (hS b hSb).1; omega
  have hcont := contains_any (hbd.keep hold (fun _ h=>h)) ws[j]
  have htk:ws.take (j+1)=ws.take j++[ws[j]] := List.take_succ_eq_append_getElem hjl
  have hll:(l++(ws.take j).filter (fun x=>!hasB bd x)).length≤1000000 := by
    have h9:((ws.take j).filter (fun x=>!hasB bd x)).length≤(ws.filter (fun x=>!hasB bd x)).length := by
      conv=>rhs; rw [← List.take_append_drop j ws,List.filter_append]
      rw [List.length_append]; omega
    rw [List.length_append]
    omega
  refine wp_seq ?_
  refine wp_block ?_
  refine wp_seq ?_
  refine cn_r3_wp hj hc0 hlb (fun a3 h3=>?_) a2 (h2.pick [0,1,2,3,4,5,6])
  refine wp_seq ?_
  refine cn_r4_wp hcont (fun a4 h4=>?_) a3 h3
  cases hok:hasB bd ws[j]
  · rw [hok] at h4
    refine wp_cond_true ((h4.eval (k := 20) (v := .bool (!false)) (by simp)).trans (by rw [show (!false)=true from rfl])) ?_
    refine cn_r5_wp hll hs1 (fun v5 a5 w5 h5 hs5=>?_) a4 (h4.pick [0,1,2,3,4,5,6,7])
    show Code.wp _ _ _ a5 w5
    refine cn_r6_wp hj (by omega) (fun a6 h6=>?_) a5 h5
    refine ⟨g - 1,by omega,j+1,v5,by omega,?_,h6⟩
    rw [htk,List.filter_append,List.filter_cons_of_pos (by simp [hok]),List.filter_nil,← List.append_assoc]
    exact hs5
  · rw [hok] at h4
    refine wp_cond_false ((h4.eval (k := 20) (v := .bool (!true)) (by simp)).trans (by rw [show (!true)=false from rfl])) ?_
    refine wp_skip ?_
    show Code.wp _ _ _ a4 w1
    refine cn_r6_wp hj (by omega) (fun a6 h6=>?_) a4 (h4.pick [0,1,2,3,4,5,6])
    refine ⟨g - 1,by omega,j+1,v1,by omega,?_,h6⟩
    rw [htk,List.filter_append,List.filter_cons_of_neg (by simp [hok]),List.filter_nil,List.append_nil]
    exact hs1
def c_cn_sl := sp 99 47 cF66
theorem cn_sl_wp {ts:List Fm} (hb:LB w bl v l) (hS:∀k,S k→k<w.heap.size∧k≠bl∧v.ownBlock≠some k) (hbd:strRep.Sl w S (.slice D m e) bd) (hl:fmRep.Sl w S (.slice B n2 c2) ts) (hSw:S bw) (hf:w.heap[bw]? = some (.cells #[.func (Fn.func 66) #[] #[.pointer (some ⟨bl,0,none⟩),.pointer (some ⟨bw,0,none⟩)]] 105 (0,0))) (hln:l.length+(fmFreess bd ts).length≤1000000) (ih:∀(t:Fm) (cs:List Value) (W:World) (v1:Value) (l1:List ByteArray),t∈ts→fmRep.R W S t cs→(∀k,S k→k<W.heap.size∧k≠bl∧v1.ownBlock≠some k)→strRep.Sl W S (.slice D m e) bd→W.heap[bw]? = some (.cells #[.func (Fn.func 66) #[] #[.pointer (some ⟨bl,0,none⟩),.pointer (some ⟨bw,0,none⟩)]] 105 (0,0))→LB W bl v1 l1→l1.length+(fmFrees bd t).length≤1000000→Calls Tryd.prog 66 #[.agg cs.toArray,(.slice D m e),.pointer (some ⟨bl,0,none⟩),.pointer (some ⟨bw,0,none⟩)] W fun e w'=>e=.returned (.tuple #[])∧∃v',LB w' bl v' (l1++fmFrees bd t)∧LK W w' bl v1 v') 
    (hX:∀v' a' w',Frm 50 [(1,(.slice D m e)),(2,.pointer (some ⟨bl,0,none⟩)),(3,.pointer (some ⟨bw,0,none⟩)),(4,.pointer (some ⟨wo.heap.size,0,none⟩))] a'→LB w' bl v' (l++fmFreess bd ts)→LK w w' bl v v'→Q (.exit 2) a' w'):∀ac,Frm 50 [(1,(.slice D m e)),(2,.pointer (some ⟨bl,0,none⟩)),(3,.pointer (some ⟨bw,0,none⟩)),(4,.pointer (some ⟨wo.heap.size,0,none⟩)),(39,.slice B n2 c2),(40,.int .i64 (n2:Nat)),(41,.int .i64 (0:Nat))] ac→Code.wp Tryd.prog c_cn_sl Q ac w := by
  intro a0 hf0
  conv=>arg 2; whnf
  obtain ⟨B',n',c',e9,hlen,hmax,_⟩ := id hl
  injection e9 with e1 e2 e3
  subst e1 e2 e3
  refine wp_loopR (fun g a' w'=>∃(j:Nat) (v':Value),j+g=ts.length∧LB w' bl v' (l++fmFreess bd (ts.take j))∧LK w w' bl v v'∧Frm 50 [(1,(.slice D m e)),(2,.pointer (some ⟨bl,0,none⟩)),(3,.pointer (some ⟨bw,0,none⟩)),(4,.pointer (some ⟨wo.heap.size,0,none⟩)),(39,.slice B n2 c2),(40,.int .i64 (n2:Nat)),(41,.int .i64 (j:Nat))] a') ts.length ⟨0,v,by omega,by simpa [fmFreess] using hb,LK.refl _ _ _,hf0⟩ ?_
  rintro g a1 w1 ⟨j,v1,hjg,hb1,hk1,h1⟩
  refine wp_seq ?_
  refine cn_r10_wp (fun a2 h2=>?_) a1 h1
  refine wp_seq ?_
  by_cases hj:j<n2
  case neg =>
    refine wp_cond_false ((h2.eval (k := 42) (v := .bool (decide (j<n2))) (by simp)).trans (by rw [decide_eq_false hj])) ?_
    refine wp_exit (hX v1 a2 w1 (h2.pick [0,1,2,3]) ?_ hk1)
    rwa [List.take_of_length_le (by omega)] at hb1
  refine wp_cond_true ((h2.eval (k := 42) (v := .bool (decide (j<n2))) (by simp)).trans (by rw [decide_eq_true hj])) ?_
  refine wp_skip ?_
  show Code.wp _ _ _ a2 w1
  have hjl:j<ts.length := by omega
  obtain ⟨b,o,cs,rfl,hSb,hr,hc⟩ := Rep.Sl.at_ hl (List.getElem?_eq_getElem hjl)
  obtain ⟨Ae,n3,c3,Be,n4,c4,rfl,_,_,_,_⟩ := Fm.shape hr
  have hold:∀k,S k→w1.heap[k]? = w.heap[k]? := fun k hk=>hk1.block k (hS k hk).1 (hS k hk).2.1 (hS k hk).2.2
  have hS1:∀k,S k→k<w1.heap.size∧k≠bl∧v1.ownBlock≠some k := fun k hk=>⟨Nat.lt_of_lt_of_le (hS k hk).1 hk1.size,(hS k hk).2.1,fun e=>by
    rcases hk1.at_ k e with e | e
    · exact (hS k hk).2.2 e
    · have := (hS k hk).1; omega⟩
  have hkb := hold b hSb
  have e0:w1.cell? ⟨b,o+j * 4,none⟩=_ := (cell_keep hkb _).trans (hc 0 _ rfl)
  have e1:w1.cell? ⟨b,o+j * 4+1,none⟩=_ := (cell_keep hkb _).trans (hc 1 _ rfl)
  have e2:w1.cell? ⟨b,o+j * 4+2,none⟩=_ := (cell_keep hkb _).trans (hc 2 _ rfl)
  have e3:w1.cell? ⟨b,o+j * 4+3,none⟩=_ := (cell_keep hkb _).trans (hc 3 _ rfl)
  refine wp_seq ?_
  refine wp_block ?_
  refine wp_seq ?_
  refine cn_r11_wp hj e0 e1 e2 e3 (hS1 b hSb).1 (fun a3 h3=>?_) a2 (h2.pick [0,1,2,3,4,5,6])
  have hbw := (Below.refl w1.heap.size w1).alloc (Nat.le_refl _) (.cells #[.int .i64 ts[j].lab.kind,.string ts[j].lab.nm,.slice Ae n3 c3,.slice Be n4 c4] 29)
  have hge := heap_alloc_new w1 (.cells #[.int .i64 ts[j].lab.kind,.string ts[j].lab.nm,.slice Ae n3 c3,.slice Be n4 c4] 29)
  have hb3 := hb1.below hbw
  have hk3 := LK.below bl v1 hbw
  have hold3:∀k,S k→(w1.alloc (.cells #[.int .i64 ts[j].lab.kind,.string ts[j].lab.nm,.slice Ae n3 c3,.slice Be n4 c4] 29)).heap[k]? = w.heap[k]? := fun k hk=>(hbw.block k (hS1 k hk).1).trans (hold k hk)
  have hf3 := (hold3 bw hSw).trans hf
  have hln1:(l++fmFreess bd (ts.take j)).length+(fmFrees bd ts[j]).length≤1000000 := by
    have := fmFreess_at_le bd ts j hjl
    rw [List.length_append]; omega
  have hcall := ih ts[j] _ _ v1 _ (List.getElem_mem hjl) (fmRep.keep hr hold3 (fun _ h=>h)) (fun k hk=>⟨by have := (hS1 k hk).1; simp; omega,(hS1 k hk).2⟩) (hbd.keep hold3 (fun _ h=>h)) hf3 hb3 hln1
  refine cn_r12_wp hf3 hge hcall (fun a4 w4 h4 hp=>?_) a3 h3
  obtain ⟨v4,hb4,hk4⟩ := hp
  show Code.wp _ _ _ a4 w4
  refine cn_r13_wp hj (by omega) (fun a5 h5=>?_) a4 (h4.pick [0,1,2,3,4,5,6])
  refine ⟨g - 1,by omega,j+1,v4,by omega,?_,(hk1.trans hk3).trans hk4,h5⟩
  rw [fmFreess_take bd ts j hjl,← List.append_assoc]
  exact hb4
def c_cn_p9 := sp 99 15 cF66
theorem frees_any:∀(N:Nat) (t:Fm) (cs:List Value) (w:World) (S:Nat→Prop) (D:Option Addr) (m e:Nat) (bd:List ByteArray) (bl bw:Nat) (v:Value) (l:List ByteArray),t.nodes≤N→fmRep.R w S t cs→(∀k,S k→k<w.heap.size∧k≠bl∧v.ownBlock≠some k)→strRep.Sl w S (.slice D m e) bd→m≤e→(bd=[]→D=none)→bd.length+N≤1000000→S bw→w.heap[bw]? = some (.cells #[.func (Fn.func 66) #[] #[.pointer (some ⟨bl,0,none⟩),.pointer (some ⟨bw,0,none⟩)]] 105 (0,0))→LB w bl v l→l.length+(fmFrees bd t).length≤1000000 →
    Calls Tryd.prog 66 #[.agg cs.toArray,(.slice D m e),.pointer (some ⟨bl,0,none⟩),.pointer (some ⟨bw,0,none⟩)] w (fun e w'=>e=.returned (.tuple #[])∧∃v',LB w' bl v' (l++fmFrees bd t)∧LK w w' bl v v') := by
  intro N
  induction N with
  | zero=>intro t; have := t.nodes_pos; intros; omega
  | succ N ih =>
  intro t cs w S D m e bd bl bw v l hN ht hS hbd hme hD hdn hSw hf hb hln
  obtain ⟨⟨kd,nm,ws⟩,ts⟩ := t
  obtain ⟨u,v9,rfl,hnm,hw,hl⟩ := Fm.open_ ht
  simp only at hw hnm
  obtain ⟨A,n1,c1,rfl,e1,hm1,_⟩ := id hw
  obtain ⟨B,n2,c2,rfl,e2,hm2,_⟩ := id hl
  have hbm:bd.length=m := by
    obtain ⟨_,_,_,e9,h9,_⟩ := id hbd
    injection e9 with _ e9 _
    rw [e9,h9]
  clear ht
  have hbl := lt_heap hb.box
  simp only [fmFrees] at hln
  rw [List.length_append] at hln
  go_enter Tryd.func66,Tryd.ntmps66
  refine wp_seq ?_
  refine cn_r0_wp hb (fun a0 w0 h0 hs=>?_) _ (by exact fR rfl rfl rfl)
  refine wp_seq ?_
  refine wp_seq ?_
  refine cn_r1_wp hs (fun a1 h1=>?_) a0 h0
  refine wp_block ?_
  refine cn_wl_wp hs hS hbd hw (by omega) (fun v2 a2 w2 h2 hs2=>?_) a1 h1
  refine inBlock_exit ?_
  show Code.wp _ _ _ a2 w2
  have p9:∀(a5:Act) (w5:World) (S':Nat→Prop) (D:Option Addr) (m e:Nat) (bd':List ByteArray) (v5:Value),bd'=(if kd=8∨kd=9 then bd++[nm] else bd)→KS w w5 bl v kd nm A n1 c1 B n2 c2 v5 (l++ws.filter (fun x=>!hasB bd x))→(∀k,S k→S' k)→(∀k,S' k→k<w5.heap.size∧k≠bl∧v5.ownBlock≠some k)→strRep.Sl w5 S' (.slice D m e) bd'→m≤e→(bd'=[]→D=none)→bd'.length+N≤1000000→Frm 50 [(1,(.slice D m e)),(2,.pointer (some ⟨bl,0,none⟩)),(3,.pointer (some ⟨bw,0,none⟩)),(4,.pointer (some ⟨w.heap.size,0,none⟩))] a5→Code.wp Tryd.prog c_cn_p9 (bodyPost Tryd.prog Tryd.f66 (fun e w'=>e=.returned (.tuple #[])∧∃v',LB w' bl v' (l++fmFrees bd (.mk ⟨kd,nm,ws⟩ ts))∧LK w w' bl v v')) a5 w5 := by
    intro a5 w5 S' D m e bd' v5 ebd hs5 hsub hS5 hbd5 hme5 hD5 hn5 h5
    conv=>arg 2; whnf
    refine wp_seq ?_
    refine cn_r9_wp hs5 (fun a6 h6=>?_) a5 h5
    refine wp_block ?_
    have hold := hs5.old hS
    rw [← ebd] at hln
    refine cn_sl_wp (S := S') hs5.b hS5 hbd5 (hl.keep hold hsub) (hsub _ hSw) ((hold bw hSw).trans hf) (by rw [List.length_append]; omega) (fun t cs W v1 l1 htl hr hS9 hbd9 hf9 hb9 hln9=>?_) (fun v7 a7 w7 h7 hb7 hk7=>?_) a6 h6
    · have hnd:t.nodes≤N := by
        obtain ⟨j,hj,rfl⟩ := List.getElem_of_mem htl
        have := Tree.nodes_at ts j hj
        simp [Tree.nodes] at hN
        omega
      exact ih t cs W S' D m e bd' bl bw v1 l1 hnd hr hS9 hbd9 hme5 hD5 hn5 (hsub _ hSw) hf9 hb9 hln9
    · refine inBlock_exit ?_
      refine cn_end h7.2.1 ⟨rfl,v7,?_,hs5.k.trans hk7⟩
      have e9:l++fmFrees bd (.mk ⟨kd,nm,ws⟩ ts)=l++ws.filter (fun x=>!hasB bd x)++fmFreess bd' ts := by
        simp only [fmFrees]
        rw [← ebd,List.append_assoc]
      rw [e9]
      exact hb7
  refine wp_seq ?_
  refine wp_seq ?_
  refine cn_r7_wp hs2 (fun a3 w3 h3 hs3 hb3=>?_) a2 h2
  have hS3:∀k,S k→k<w3.heap.size∧k≠bl∧v2.ownBlock≠some k := fun k hk=>⟨by have := (hS k hk).1; have := hs3.k.size; omega,(hS k hk).2.1,fun e=>by
    rcases hs3.k.at_ k e with e | e
    · exact (hS k hk).2.2 e
    · have := (hS k hk).1; omega⟩
  have hbd3 := hbd.keep (hs3.old hS) (fun _ h=>h)
  have hq:isQu kd=true ↔ kd=8∨kd=9 := by unfold isQu; simp
  cases hk:isQu kd
  · rw [hk] at h3
    refine wp_cond_false ((h3.eval (k := 27) (v := .bool false) (by simp)).trans (by rw [show false=false from rfl])) ?_
    refine wp_skip ?_
    exact p9 a3 w3 S D m e bd v2 (by rw [if_neg (fun h=>by rw [hq.2 h] at hk; cases hk)]) hs3 (fun _ h=>h) hS3 hbd3 hme hD (by omega) (h3.pick [0,1,2,3])
  · rw [hk] at h3
    refine wp_cond_true ((h3.eval (k := 27) (v := .bool true) (by simp)).trans (by rw [show true=true from rfl])) ?_
    have k89:kd=8∨kd=9 := hq.1 hk
    have fin:∀(a5:Act) (w5:World) (v6:Value),Frm 50 [(1,v6),(2,.pointer (some ⟨bl,0,none⟩)),(3,.pointer (some ⟨bw,0,none⟩)),(4,.pointer (some ⟨w.heap.size,0,none⟩))] a5→w5.ownsRow (w3.heap.size+1) 9 1 v6 (m+1) (bd.map .string++[.string nm])→Below w3.heap.size w3 w5→Code.wp Tryd.prog c_cn_p9 (bodyPost Tryd.prog Tryd.f66 (fun e w'=>e=.returned (.tuple #[])∧∃v',LB w' bl v' (l++fmFrees bd (.mk ⟨kd,nm,ws⟩ ts))∧LK w w' bl v v')) a5 w5 := by
      intro a5 w5 v6 h5 hrow hb5
      have hlen:(bd++[nm]).length=m+1 := by simp [hbm]
      have hrow':w5.ownsRow (w3.heap.size+1) 9 1 v6 (bd++[nm]).length ((bd++[nm]).map .string) := by rw [hlen]; simpa using hrow
      have hbz:∀s∈bd++[nm],s.size≤maxLen := by
        intro s hs
        rcases List.mem_append.1 hs with hs | hs
        · obtain ⟨j,hj,rfl⟩ := List.getElem_of_mem hs
          obtain ⟨_,_,_,_,_,⟨_,hz⟩,_⟩ := Rep.Sl.at_ (A := D) (n := m) (c := e) hbd (List.getElem?_eq_getElem hj)
          exact hz
        · simp at hs; subst hs; exact hnm
      have hbd6 := sl_of_row (S := fun k=>S k∨v6.ownBlock=some k) hrow' hbz (by rw [hlen]; unfold maxLen; omega) (fun k hk=>Or.inr hk)
      have hlt := hrow.lt
      obtain ⟨D6,m6,e6,rfl,h6,_⟩ := id hbd6
      have hm6:m6=m+1 := by rw [← h6,hlen]
      subst hm6
      have hle:m+1≤e6 := by
        obtain ⟨_,⟨e9,e0⟩ | ⟨g,cap,cur,e9,_,_,h1,_⟩⟩ := hrow
        · omega
        · injection e9 with _ _ e9; omega
      have hbl3 := lt_heap hs3.b.box
      refine p9 a5 w5 (fun k=>S k∨(Value.slice D6 (m+1) e6).ownBlock=some k) D6 (m+1) e6 (bd++[nm]) v2 (by rw [if_pos k89]) (hs3.below hb5) (fun k h=>Or.inl h) (fun k hk=>?_) hbd6 hle (fun h=>by simp at h) (by simp; omega) h5
      rcases hk with hk | hk
      · exact ⟨Nat.lt_of_lt_of_le (hS3 k hk).1 hb5.size,(hS3 k hk).2⟩
      · have h9 := hlt k hk
        refine ⟨h9.2,by omega,fun e=>?_⟩
        have := hs3.b.lt k e
        omega
    cases bd with
    | nil =>
      obtain rfl:D=none := hD rfl
      obtain rfl:m=0 := hbm.symm
      refine Code.wp_mono (Q := Exit.then (fun a' w'=>∃v6:Value,Frm 50 [(1,v6),(2,.pointer (some ⟨bl,0,none⟩)),(3,.pointer (some ⟨bw,0,none⟩)),(4,.pointer (some ⟨w.heap.size,0,none⟩))] a'∧w'.ownsRow (w3.heap.size+1) 9 1 v6 (0+1) (([]:List ByteArray).map .string++[.string nm])∧Below w3.heap.size w3 w') (fun _ _ _=>False)) ?_ (cn_r8n_wp rfl hs3 (fun v6 a5 w5 h5 hrow hb5=>⟨v6,h5,hrow,hb5⟩) a3 (h3.pick [0,1,2,3]))
      intro ex a4 w4 hx
      cases ex with
      | normal =>
        obtain ⟨v6,h6,hr6,hb6⟩ := hx
        exact fin a4 w4 v6 h6 hr6 hb6
      | _=>exact hx.elim
    | cons y r =>
      obtain ⟨b,o,cs9,rfl,hSb,_,_⟩ := Rep.Sl.at_ hbd3 (k := 0) rfl
      have hcell:∀j u,((y :: r).map Value.string)[j]? = some u→w3.cell? ⟨b,o+j,none⟩=some u := by
        intro j u hu
        have hj:j<(y :: r).length := by
          have := (List.getElem?_eq_some_iff.1 hu).1
          simpa using this
        obtain ⟨b',o',cs',e',_,⟨rfl,_⟩,hc'⟩ := Rep.Sl.at_ hbd3 (List.getElem?_eq_getElem hj)
        injection e' with e'
        injection e' with e1 e2
        subst e1 e2
        have h9 := hc' 0 _ rfl
        rw [List.getElem?_map,List.getElem?_eq_getElem hj] at hu
        injection hu with hu
        rw [← hu]
        simpa [strRep] using h9
      refine Code.wp_mono (Q := Exit.then (fun a' w'=>∃v6:Value,Frm 50 [(1,v6),(2,.pointer (some ⟨bl,0,none⟩)),(3,.pointer (some ⟨bw,0,none⟩)),(4,.pointer (some ⟨w.heap.size,0,none⟩))] a'∧w'.ownsRow (w3.heap.size+1) 9 1 v6 (m+1) ((y :: r).map .string++[.string nm])∧Below w3.heap.size w3 w') (fun _ _ _=>False)) ?_ (cn_r8_wp hbm (by omega) hme (hS3 b hSb).1 hcell hs3 (fun v6 a5 w5 h5 hrow hb5=>⟨v6,h5,hrow,hb5⟩) a3 (h3.pick [0,1,2,3]))
      intro ex a4 w4 hx
      cases ex with
      | normal =>
        obtain ⟨v6,h6,hr6,hb6⟩ := hx
        exact fin a4 w4 v6 h6 hr6 hb6
      | _=>exact hx.elim
end
noncomputable section
variable {Q:Exit→Act→World→Prop} {a:Act} {w:World}

theorem then_ret {K:Act→World→Prop} (h:Q .ret a w):Exit.then K Q .ret a w := h
theorem inBlock_ret {k:Nat} (h:Q .ret a w):Exit.inBlock k Q .ret a w := h
end
noncomputable section
open Go Go.RowKit Go.Sort
set_option maxRecDepth 100000
set_option maxHeartbeats 4000000
variable {w:World} {base size n:Nat} {E:TypeId} {v:Value} {xs:List Value}

theorem ownsRow_rebase {base':Nat} (h:w.ownsRow base E size v n xs) (hb:∀k,v.ownBlock=some k→base'≤k):w.ownsRow base' E size v n xs := by
  obtain ⟨h1,h2 | ⟨g,cap,cur,e,hg,r⟩⟩ := h
  · exact ⟨h1,Or.inl h2⟩
  · exact ⟨h1,Or.inr ⟨g,cap,cur,e,hb g (by rw [e]; rfl),r⟩⟩
theorem ownsRow_cut {k cap g:Nat} (h:w.ownsRow base E 1 (.slice (some ⟨g,0,none⟩) n cap) n xs) (hk:k≤n):w.ownsRow base E 1 (.slice (some ⟨g,0,none⟩) k cap) k (xs.take k) := by
  obtain ⟨h1,⟨e,_⟩ | ⟨g',cap',cur,e,hg,hh,h2,h3,h4,h5⟩⟩ := h
  · cases e
  · injection e with e1 e2 e3
    injection e1 with e1
    injection e1 with e1 _ _
    subst e1 e3
    refine ⟨?_,Or.inr ⟨g,cap,cur,rfl,hg,hh,by omega,h3,h4,?_⟩⟩
    · rw [List.length_take]; omega
    · rw [← h5,List.take_take]
      congr 1
      omega
def ofB (l:List Bs):List ByteArray := l.map (fun x=>⟨x.toArray⟩)
theorem ofB_enc (l:List Bs):(ofB l).map Value.string=l.map encStr := by simp [ofB,encStr,Function.comp_def]
theorem map_enc (l:List ByteArray):l.map Value.string=(l.map dat).map encStr := by
  rw [List.map_map]
  exact List.map_congr_left (fun a _=>by simp only [Function.comp,encStr]; rw [mk_dat])
theorem compact_len (zs:List Bs):(Lib.compact zs).length≤zs.length := by
  unfold Lib.compact Lib.compactUpTo
  rw [List.length_map]
  exact Nat.le_trans (List.length_filter_le _ _) (by simp)
theorem sort_row {l:List ByteArray} (h:w.ownsRow base 9 1 v l.length (l.map .string)) (hle:l.length≤1000000) :
    Calls Tryd.prog 68 #[v] w fun e w'=>e=.returned (.tuple #[])∧w'.ownsRow base 9 1 v l.length ((ofB (sortS (l.map dat))).map .string)∧w.grownBy w' v.ownBlock := by
  obtain ⟨h1,⟨e,h0⟩ | ⟨g,cap,cur,e,hg,hh,h2,h3,h4,h5⟩⟩ := id h
  · subst e
    obtain rfl:l=[] := List.length_eq_zero_iff.1 h0
    refine (Tryd.slices_Sort_string_none none 0 w).mono ?_
    rintro e w1 ⟨rfl,rfl⟩
    exact ⟨rfl,by simpa [ofB,sortS] using h,⟨rfl,rfl,rfl,Nat.le_refl _,fun _ _ _=>rfl⟩⟩
  · subst e
    have hlen:l.length=(l.map dat).length := by simp
    have hH:Holds encStr w g 0 (l.map dat).toArray := holds_of_block hh (by rw [← hlen,← map_enc]; rw [Nat.mul_one] at h5; exact h5)
    rw [hlen]
    refine (Tryd.slices_Sort_string g 0 cap (l.map dat) w hH (lt_heap hh) (by rw [← hlen]; omega)).mono ?_
    rintro e w1 ⟨rfl,n,os,rfl⟩
    refine ⟨rfl,?_,grownBy_sorted _⟩
    rw [ofB_enc]
    exact ownsRow_sorted (ss := l.map dat) (by simp) hg hh (by rw [← hlen]; exact h2) h3 h4
theorem compact_row {d:List Bs} (h:w.ownsRow base 9 1 v d.length ((ofB d).map .string)) :
    Calls Tryd.prog 69 #[v] w fun e w'=>∃v',e=.returned v'∧w'.ownsRow base 9 1 v' (ofB (Lib.compact d)).length ((ofB (Lib.compact d)).map .string)∧w.grownBy w' v.ownBlock := by
  have hl2:(ofB (Lib.compact d)).length=(Lib.compact d).length := by simp [ofB]
  rw [hl2]
  obtain ⟨h1,⟨e,h0⟩ | ⟨g,cap,cur,e,hg,hh,h2,h3,h4,h5⟩⟩ := id h
  · subst e
    obtain rfl:d=[] := List.length_eq_zero_iff.1 h0
    refine (Tryd.slices_Compact_string_empty none 0 w).mono ?_
    rintro e w1 ⟨rfl,rfl⟩
    exact ⟨_,rfl,h,⟨rfl,rfl,rfl,Nat.le_refl _,fun _ _ _=>rfl⟩⟩
  · subst e
    have hcl := compact_len d
    have hH:Holds encStr w g 0 d.toArray := holds_of_block hh (by rw [← ofB_enc]; rw [Nat.mul_one] at h5; exact h5)
    refine (Tryd.slices_Compact_string g 0 cap d w hH (by unfold maxLen at h3; omega) h2).mono ?_
    rintro e w1 ⟨rfl,q,rfl⟩
    have hr := ownsRow_sorted (w := w) (base := base) (n := q) (os := #[]) (ss := d) (ts := Lib.compact d++List.replicate (d.length - (Lib.compact d).length) []) (by simp; omega) hg hh h2 h3 h4
    rw [grow_empty] at hr
    refine ⟨_,rfl,?_,?_⟩
    · have hc := ownsRow_cut hr hcl
      rw [← List.map_take,List.take_left] at hc
      rw [ofB_enc]
      exact hc
    · have := grownBy_sorted (w := w) (g := g) (n := q) (os := #[]) (Lib.compact d++List.replicate (d.length - (Lib.compact d).length) []).toArray
      rw [grow_empty] at this
      exact this
theorem below_of_grownBy {w':World} {B:Nat} (h:w.grownBy w' v.ownBlock) (hv:∀k,v.ownBlock=some k→B≤k) (hB:B≤w.heap.size):Below B w w' :=
  ⟨h.os,h.tape,h.output,h.size,fun k hk=>h.block k (by omega) (fun e=>by have := hv k e.symm; omega)⟩
theorem own_ge (h:w.ownsRow base E size v n xs):∀k,v.ownBlock=some k→base≤k := fun k e=>(h.lt k e).1
theorem constants_any (t:Fm) (cs:List Value) (w:World) (S:Nat→Prop) (ht:fmRep.R w S t cs) (hS:∀b,S b→b<w.heap.size) (hn:t.nodes≤1000000) (hln:(fmFrees [] t).length≤1000000) :
    Calls Tryd.prog 50 #[.agg cs.toArray] w fun e w'=>∃v,e=.returned v∧w'.ownsRow w.heap.size 9 1 v (fmConsts t).length ((fmConsts t).map .string)∧Below w.heap.size w w' := by
  obtain ⟨A,n1,c1,B,n2,c2,rfl,_,_,_,_⟩ := Fm.shape ht
  obtain ⟨kd,hkd⟩:∃k,t.lab.kind=k := ⟨_,rfl⟩
  obtain ⟨nm,hnm⟩:∃k,t.lab.nm=k := ⟨_,rfl⟩
  rw [hkd,hnm] at ht ⊢
  have hv:∀W:World,W.heap.size=w.heap.size+1+1+1→(∀b,b<w.heap.size→W.heap[b]? = w.heap[b]?)→W.heap[w.heap.size+1]? = some (.cells #[.slice none 0 0] 26 (0,0))→W.heap[w.heap.size+1+1]? = some (.cells #[.func (Fn.func 66) #[] #[.pointer (some ⟨w.heap.size+1,0,none⟩),.pointer (some ⟨w.heap.size+1+1,0,none⟩)]] 105 (0,0)) →
      Calls Tryd.prog 66 #[.agg #[.int .i64 kd,.string nm,.slice A n1 c1,.slice B n2 c2],.slice none 0 0,.pointer (some ⟨w.heap.size+1,0,none⟩),.pointer (some ⟨w.heap.size+1+1,0,none⟩)] W fun e w'=>e=.returned (.tuple #[])∧∃v',w'.heap[w.heap.size+1]? = some (.cells #[v'] 26 (0,0))∧w'.ownsRow w.heap.size 9 1 v' (fmFrees [] t).length ((fmFrees [] t).map .string)∧v'.ownBlock≠some (w.heap.size+1)∧Below w.heap.size W w' := by
    intro W hz hk h1 h2
    refine (frees_any t.nodes t [.int .i64 kd,.string nm,.slice A n1 c1,.slice B n2 c2] W (fun k=>S k∨k=w.heap.size+1+1) none 0 0 [] (w.heap.size+1) (w.heap.size+1+1) (.slice none 0 0) [] (Nat.le_refl _) (fmRep.keep ht (fun b hb=>hk b (hS b hb)) (fun _ h=>Or.inl h)) (fun k hk=>⟨?_,?_,by simp [Value.ownBlock]⟩) Rep.Sl.nil (Nat.le_refl _) (fun _=>rfl) (by simpa using hn) (Or.inr rfl) h2 ⟨h1,World.ownsRow_nil _ _ _ _,by simp [Value.ownBlock]⟩ (by simpa using hln)).mono ?_
    · rcases hk with hk | rfl
      · have := hS k hk; omega
      · omega
    · rcases hk with hk | rfl
      · have := hS k hk; omega
      · omega
    · rintro e w1 ⟨rfl,v',hb,hl⟩
      have hge:∀k,v'.ownBlock=some k→w.heap.size≤k := fun k e=>by
        rcases hl.at_ k e with e | e
        · simp [Value.ownBlock] at e
        · omega
      refine ⟨rfl,v',hb.box,?_,hb.ne,⟨hl.os,hl.tape,hl.output,hl.size,fun k hk=>hl.block k (by omega) (by omega) (by simp [Value.ownBlock])⟩⟩
      have := ownsRow_rebase hb.row hge
      simpa using this
  have efin:ofB (Lib.compact (sortS ((fmFrees [] t).map dat)))=fmConsts t := rfl
  have hlenS:(fmFrees [] t).length=(sortS ((fmFrees [] t).map dat)).length := by simp [sortS]
  clear ht hkd hnm
  have HV := Lib.hid hv
  have HS := Lib.hid hS
  clear hv hS
  go_enter Tryd.func50,Tryd.ntmps50
  go_wp2_with fail
  (with_reducible refine (HV.out _ ?hz ?hk ?h1 ?h3).mono ?_)
  case hz=>simp
  case hk=>exact fun b hb=>heap_old (by first | (simp; done) | (simp; omega)) (heap_old (by first | (simp; done) | (simp; omega)) (heap_old hb rfl))
  case h1=>exact heap_old (by first | (simp; done) | (simp; omega)) (heap_at (by simp))
  case h3=>exact heap_at (by simp)
  rintro e w1 ⟨rfl,v1,hbox,hrow,hne,hk1⟩
  have hb:Below w.heap.size w w1 := (show Below w.heap.size w _ by go_grown).trans hk1
  have h0 := cellv hbox 0 rfl
  have hl := lt_heap hbox
  have hs := sort_row hrow hln
  clear hk1
  have HB := Lib.hid hb
  have HS := Lib.hid hs
  have HBOX := Lib.hid hbox
  have HROW := Lib.hid hrow
  have HNE := Lib.hid hne
  have EFIN := Lib.hid efin
  have HLENS := Lib.hid hlenS
  clear hb hs hbox hrow hne efin hlenS
  go_wp2_with fail
  (with_reducible refine HS.out.mono ?_)
  rintro e w2 ⟨rfl,hrow2,hg2⟩
  have hbox2 := (hg2.block (w.heap.size+1) (lt_heap HBOX.out) (fun e=>HNE.out e.symm)).trans HBOX.out
  have hb2 := HB.out.trans (below_of_grownBy hg2 (own_ge HROW.out) HB.out.size)
  have h20 := cellv hbox2 0 rfl
  have hl2 := lt_heap hbox2
  rw [HLENS.out] at hrow2
  have hc := compact_row hrow2
  have HROW2 := Lib.hid hrow2
  clear hg2 h0 hl hbox2 hrow2
  have HB2 := Lib.hid hb2
  have HC := Lib.hid hc
  clear hb2 hc
  go_wp2_with fail
  (with_reducible refine HC.out.mono ?_)
  rintro e w3 ⟨v3,rfl,hrow3,hg3⟩
  have hb3 := HB2.out.trans (below_of_grownBy hg3 (own_ge HROW2.out) HB2.out.size)
  rw [EFIN.out] at hrow3
  clear h20 hl2 hg3
  have HB3 := Lib.hid hb3
  have HROW3 := Lib.hid hrow3
  clear hb3 hrow3
  go_wp2_with fail
  refine bodyPost_ret (v := v3) (by simp [results,Tryd.results50,go_sem]) rfl ?_
  exact ⟨v3,rfl,HROW3.out,HB3.out⟩
end
noncomputable section
theorem consts_len9 (t:Fm):(fmConsts t).length≤(fmFrees [] t).length := by
  unfold fmConsts constsB
  rw [List.length_map]
  refine Nat.le_trans (compact_len _) ?_
  unfold sortS
  rw [List.length_mergeSort,List.length_map]
  exact Nat.le_refl _
def allC (m:Md) (l:List ByteArray):Bool := l.all (fun c=>(conV m c).isSome)
theorem allC_take (m:Md) (l:List ByteArray) (j:Nat) (h:j<l.length):allC m (l.take (j+1))=(allC m (l.take j) && (conV m l[j]).isSome) := by
  unfold allC
  rw [List.take_succ_eq_append_getElem h,List.all_append]; simp
theorem allC_false (m:Md) (l:List ByteArray) (j:Nat) (h:allC m (l.take j)=false):allC m l=false := by
  unfold allC at h ⊢
  rw [← List.take_append_drop j l,List.all_append,h]; rfl
end
noncomputable section
set_option maxRecDepth 1000000
set_option maxHeartbeats 16000000
variable {Q:Exit→Act→World→Prop} {Am Bm A B:Option Addr} {nm1 cm nm2 dm n1 c1 n2 c2 mc i gw:Nat} {wo w:World} {kd:Int} {nm s:ByteArray} {s_2 s_4 s_3 s_15 s_16 s_17:Value} {bb:Bool}

theorem frame_ft {P:Act→Prop} (h:∀x0 x1 x2 x3 x4 x5 x6 x7 x8 x9 x10 x11 x12 x13 x14 x15 x16 x17 x18 x19 x20 x21 x22 x23 x24 x25 x26 x27 x28 x29 x30 x31 x32 x33 x34 x35 x36 x37:Value,P ⟨(x0 :: x1 :: x2 :: x3 :: x4 :: x5 :: x6 :: x7 :: x8 :: x9 :: x10 :: x11 :: x12 :: x13 :: x14 :: x15 :: x16 :: x17 :: x18 :: x19 :: x20 :: x21 :: x22 :: x23 :: x24 :: x25 :: x26 :: x27 :: x28 :: x29 :: x30 :: x31 :: x32 :: x33 :: x34 :: x35 :: x36 :: x37 :: []).toArray,[]⟩):∀a:Act,a.tmps.toList.length=38→a.defers=[]→P a := by
  rintro ⟨⟨l⟩,d⟩ hs hd
  simp only at hd
  subst hd
  revert l
  show ∀l:List Value,l.length=38→P ⟨⟨l⟩,[]⟩
  iterate 38 refine openS (fun _=>?_)
  refine open0 ?_
  exact h ..
noncomputable def cF30:Code := Tryd.f30.body.getD .skip
def c_ft_r0 := sp 99 2 cF30
theorem ft_r0_wp {z:Int} (hN:∀a',Frm 38 [(2,.pointer (some ⟨wo.heap.size,0,none⟩)),(3,.pointer (some ⟨(wo.heap.size+1),0,none⟩)),(4,.pointer (some ⟨(wo.heap.size+1+1),0,none⟩))] a'→Q .normal a' (((wo.alloc (.cells #[.int .i64 z,.slice Am nm1 cm,.slice Bm nm2 dm] 25)).alloc (.cells #[.int .i64 kd,.string nm,.slice A n1 c1,.slice B n2 c2] 29)).alloc (.cells #[.int .i64 0,.int .i64 0] 32))):∀ac,Frm 38 [(0,.agg #[.int .i64 z,.slice Am nm1 cm,.slice Bm nm2 dm]),(1,.agg #[.int .i64 kd,.string nm,.slice A n1 c1,.slice B n2 c2])] ac→Code.wp Tryd.prog c_ft_r0 Q ac wo := by
  refine fO (frame_ft ?_)
  intros
  rename_i hq
  iterate 2 (obtain ⟨e,hq⟩ := hq; obtain rfl := sI e; clear e)
  clear hq
  conv=>arg 2; whnf
  replace hN := Lib.hid hN
  go_wp2_with fail
  exact hN.out _ (by exact fR rfl rfl rfl)
def c_ft_r1 := sp 99 9 cF30
theorem ft_r1_wp {k:Nat} (ha:w.heap[wo.heap.size+1]? = some (.cells #[.int .i64 kd,.string nm,.slice A n1 c1,.slice B n2 c2] 29 (0,0))) (hc:Calls Tryd.prog 49 #[.agg #[.int .i64 kd,.string nm,.slice A n1 c1,.slice B n2 c2]] w fun e w'=>e=.returned (.int .i64 (k:Nat))∧Below w.heap.size w w') (hN:∀a' w',Frm 38 [(2,s_2),(3,.pointer (some ⟨(wo.heap.size+1),0,none⟩)),(4,s_4),(12,.bool (decide (5<k)))] a'→Below w.heap.size w w'→Q .normal a' w'):∀ac,Frm 38 [(2,s_2),(3,.pointer (some ⟨(wo.heap.size+1),0,none⟩)),(4,s_4)] ac→Code.wp Tryd.prog c_ft_r1 Q ac w := by
  refine fO (frame_ft ?_)
  intros
  rename_i hq
  iterate 3 (obtain ⟨e,hq⟩ := hq; obtain rfl := sI e; clear e)
  clear hq
  conv=>arg 2; whnf
  have a0 := cellv ha 0 rfl
  have a1 := cellv ha 1 rfl
  have a2 := cellv ha 2 rfl
  have a3 := cellv ha 3 rfl
  have al := lt_heap ha
  clear ha
  by_cases h:5<k
  · have t1:decide ((5:Int)<(k:Int))=true := decide_eq_true (by omega)
    rw [show decide (5<k)=true from decide_eq_true h] at hN
    clear h
    have HN := Lib.hid hN
    have HC := Lib.hid hc
    clear hN hc
    go_wp2_with fail
    (with_reducible refine HC.out.mono ?_)
    rintro e w1 ⟨rfl,hb1⟩
    replace hb1 := Lib.hid hb1
    go_wp2_with fail
    exact HN.out _ _ (by exact fR rfl rfl rfl) hb1.out
  · have t1:decide ((5:Int)<(k:Int))=false := decide_eq_false (by omega)
    rw [show decide (5<k)=false from decide_eq_false h] at hN
    clear h
    have HN := Lib.hid hN
    have HC := Lib.hid hc
    clear hN hc
    go_wp2_with fail
    (with_reducible refine HC.out.mono ?_)
    rintro e w1 ⟨rfl,hb1⟩
    replace hb1 := Lib.hid hb1
    go_wp2_with fail
    exact HN.out _ _ (by exact fR rfl rfl rfl) hb1.out
def c_ft_r2 := sp 99 37 cF30
theorem ft_r2_wp (hz:w.heap[wo.heap.size+1+1]? = some (.cells #[.int .i64 0,.int .i64 0] 32 (0,0))) (hN:∀a' w',Frm 38 [(4,.pointer (some ⟨(wo.heap.size+1+1),0,none⟩))] a'→w'.heap[wo.heap.size+1+1]? = some (.cells #[.int .i64 17,.int .i64 (-2)] 32 (0,0))→Below wo.heap.size w w'→Q .normal a' w'):∀ac,Frm 38 [(2,s_2),(3,s_3),(4,.pointer (some ⟨(wo.heap.size+1+1),0,none⟩))] ac→Code.wp Tryd.prog c_ft_r2 Q ac w := by
  refine fO (frame_ft ?_)
  intros
  rename_i hq
  iterate 3 (obtain ⟨e,hq⟩ := hq; obtain rfl := sI e; clear e)
  clear hq
  conv=>arg 2; whnf
  have z0 := cellv hz 0 rfl
  have z1 := cellv hz 1 rfl
  have zf0 := free_heap hz 0
  have zf1 := free_heap hz 1
  have zl := lt_heap hz
  replace hz := Lib.hid hz
  replace hN := Lib.hid hN
  go_wp2_with fail
  exact hN.out _ _ (id ⟨rfl,rfl,rfl,trivial⟩) (at2 hz.out) (((Below.refl _ w).setCell (show wo.heap.size≤wo.heap.size+1+1 by omega) _).setCell (show wo.heap.size≤wo.heap.size+1+1 by omega) _)
def c_ft_r3 := sp 99 19 cF30
theorem ft_r3_wp {PP:Option Addr→Nat→Nat→World→Prop} (ha:w.heap[wo.heap.size+1]? = some (.cells #[.int .i64 kd,.string nm,.slice A n1 c1,.slice B n2 c2] 29 (0,0))) (hc:Calls Tryd.prog 50 #[.agg #[.int .i64 kd,.string nm,.slice A n1 c1,.slice B n2 c2]] w fun e w'=>∃Dc mc ec,e=.returned (.slice Dc mc ec)∧PP Dc mc ec w') (hN:∀Dc mc ec a' w',Frm 38 [(2,s_2),(3,.pointer (some ⟨(wo.heap.size+1),0,none⟩)),(4,s_4),(15,.slice Dc mc ec),(16,.int .i64 (mc:Nat)),(17,.int .i64 (0:Nat))] a'→PP Dc mc ec w'→Q .normal a' w'):∀ac,Frm 38 [(2,s_2),(3,.pointer (some ⟨(wo.heap.size+1),0,none⟩)),(4,s_4)] ac→Code.wp Tryd.prog c_ft_r3 Q ac w := by
  refine fO (frame_ft ?_)
  intros
  rename_i hq
  iterate 3 (obtain ⟨e,hq⟩ := hq; obtain rfl := sI e; clear e)
  clear hq
  conv=>arg 2; whnf
  have a0 := cellv ha 0 rfl
  have a1 := cellv ha 1 rfl
  have a2 := cellv ha 2 rfl
  have a3 := cellv ha 3 rfl
  have al := lt_heap ha
  clear ha
  have HN := Lib.hid hN
  have HC := Lib.hid hc
  clear hN hc
  go_wp2_with fail
  (with_reducible refine HC.out.mono ?_)
  rintro e w1 ⟨Dc,mc,ec,rfl,hb1⟩
  replace hb1 := Lib.hid hb1
  go_wp2_with fail
  exact HN.out _ _ _ _ _ (by exact fR rfl rfl rfl) hb1.out
def c_ft_r4 := sp 99 139 cF30
theorem ft_r4_wp (hN:∀a',Frm 38 [(2,s_2),(3,s_3),(4,s_4),(15,s_15),(16,.int .i64 (mc:Nat)),(17,.int .i64 (i:Nat)),(18,.bool (decide (i<mc)))] a'→Q .normal a' w):∀ac,Frm 38 [(2,s_2),(3,s_3),(4,s_4),(15,s_15),(16,.int .i64 (mc:Nat)),(17,.int .i64 (i:Nat))] ac→Code.wp Tryd.prog c_ft_r4 Q ac w := by
  refine fO (frame_ft ?_)
  intros
  rename_i hq
  iterate 6 (obtain ⟨e,hq⟩ := hq; obtain rfl := sI e; clear e)
  clear hq
  conv=>arg 2; whnf
  by_cases h:i<mc
  · have t1:decide ((i:Int)<(mc:Int))=true := by first | exact decide_eq_true (by omega) | exact beq_iff_eq.2 (by omega) | exact bne_iff_ne.2 (by omega)
    have t2:(decide (i<mc))=true := decide_eq_true h
    rw [t2] at hN
    clear h
    replace hN := Lib.hid hN
    go_wp2_with fail
    exact hN.out _ (by exact fR rfl rfl rfl)
  · have t1:decide ((i:Int)<(mc:Int))=false := by first | exact decide_eq_false (by omega) | exact beq_eq_false_iff_ne.2 (by omega) | exact bne_eq_false_iff_eq.2 (by omega)
    have t2:(decide (i<mc))=false := decide_eq_false h
    rw [t2] at hN
    clear h
    replace hN := Lib.hid hN
    go_wp2_with fail
    exact hN.out _ (by exact fR rfl rfl rfl)
def c_ft_r5 := sp 99 2251 cF30
theorem ft_r5_wp {b o:Nat} {ec:Nat} (hi:i<mc) (hc:w.cell? ⟨b,o+i,none⟩=some (.string s)) (hbl:b<w.heap.size) (hN:∀a',Frm 38 [(2,s_2),(3,s_3),(4,s_4),(15,.slice (some ⟨b,o,none⟩) mc ec),(16,s_16),(17,.int .i64 (i:Nat)),(6,.string s)] a'→Q .normal a' w):∀ac,Frm 38 [(2,s_2),(3,s_3),(4,s_4),(15,.slice (some ⟨b,o,none⟩) mc ec),(16,s_16),(17,.int .i64 (i:Nat))] ac→Code.wp Tryd.prog c_ft_r5 Q ac w := by
  refine fO (frame_ft ?_)
  intros
  rename_i hq
  iterate 6 (obtain ⟨e,hq⟩ := hq; obtain rfl := sI e; clear e)
  clear hq
  conv=>arg 2; whnf
  have q0:(0:Int)≤(i:Int) := by omega
  have q1:(i:Int)<(mc:Int) := by omega
  replace hN := Lib.hid hN
  go_wp2_with fail
  exact hN.out _ (by exact fR rfl rfl rfl)
def c_ft_r6 := sp 99 5323 cF30
theorem ft_r6_wp {v:Int} {z:Int} (hgm:w.heap[wo.heap.size]? = some (.cells #[.int .i64 z,.slice Am nm1 cm,.slice Bm nm2 dm] 25 (0,0))) (hc:Calls Tryd.prog 42 #[.agg #[.int .i64 z,.slice Am nm1 cm,.slice Bm nm2 dm],.string s] w fun e w'=>e=.returned (.tuple #[.int .i64 v,.bool bb])∧Below w.heap.size w w') (hN:∀a' w',Frm 38 [(2,.pointer (some ⟨wo.heap.size,0,none⟩)),(3,s_3),(4,s_4),(15,s_15),(16,s_16),(17,s_17),(8,.bool bb)] a'→Below w.heap.size w w'→Q .normal a' w'):∀ac,Frm 38 [(2,.pointer (some ⟨wo.heap.size,0,none⟩)),(3,s_3),(4,s_4),(15,s_15),(16,s_16),(17,s_17),(6,.string s)] ac→Code.wp Tryd.prog c_ft_r6 Q ac w := by
  refine fO (frame_ft ?_)
  intros
  rename_i hq
  iterate 7 (obtain ⟨e,hq⟩ := hq; obtain rfl := sI e; clear e)
  clear hq
  conv=>arg 2; whnf
  have m0 := cellv hgm 0 rfl
  have m1 := cellv hgm 1 rfl
  have m2 := cellv hgm 2 rfl
  have ml := lt_heap hgm
  clear hgm
  have HN := Lib.hid hN
  have HC := Lib.hid hc
  clear hN hc
  go_wp2_with fail
  (with_reducible refine HC.out.mono ?_)
  rintro e w1 ⟨rfl,hb1⟩
  replace hb1 := Lib.hid hb1
  go_wp2_with fail
  exact HN.out _ _ (by exact fR rfl rfl rfl) hb1.out
def c_ft_r7 := sp 99 11467 cF30
theorem ft_r7_wp (hN:∀a',Frm 38 [(2,s_2),(3,s_3),(4,s_4),(15,s_15),(16,s_16),(17,s_17),(28,.bool (!bb))] a'→Q .normal a' w):∀ac,Frm 38 [(2,s_2),(3,s_3),(4,s_4),(15,s_15),(16,s_16),(17,s_17),(8,.bool bb)] ac→Code.wp Tryd.prog c_ft_r7 Q ac w := by
  refine fO (frame_ft ?_)
  intros
  rename_i hq
  iterate 7 (obtain ⟨e,hq⟩ := hq; obtain rfl := sI e; clear e)
  clear hq
  conv=>arg 2; whnf
  replace hN := Lib.hid hN
  go_wp2_with fail
  exact hN.out _ (by exact fR rfl rfl rfl)
def c_ft_r8 := sp 99 40139 cF30
theorem ft_r8_wp (hz:w.heap[wo.heap.size+1+1]? = some (.cells #[.int .i64 0,.int .i64 0] 32 (0,0))) (hN:∀a' w',Frm 38 [(4,.pointer (some ⟨(wo.heap.size+1+1),0,none⟩))] a'→w'.heap[wo.heap.size+1+1]? = some (.cells #[.int .i64 6,.int .i64 (-2)] 32 (0,0))→Below wo.heap.size w w'→Q .normal a' w'):∀ac,Frm 38 [(2,s_2),(3,s_3),(4,.pointer (some ⟨(wo.heap.size+1+1),0,none⟩))] ac→Code.wp Tryd.prog c_ft_r8 Q ac w := by
  refine fO (frame_ft ?_)
  intros
  rename_i hq
  iterate 3 (obtain ⟨e,hq⟩ := hq; obtain rfl := sI e; clear e)
  clear hq
  conv=>arg 2; whnf
  have z0 := cellv hz 0 rfl
  have z1 := cellv hz 1 rfl
  have zf0 := free_heap hz 0
  have zf1 := free_heap hz 1
  have zl := lt_heap hz
  replace hz := Lib.hid hz
  replace hN := Lib.hid hN
  go_wp2_with fail
  exact hN.out _ _ (id ⟨rfl,rfl,rfl,trivial⟩) (at2 hz.out) (((Below.refl _ w).setCell (show wo.heap.size≤wo.heap.size+1+1 by omega) _).setCell (show wo.heap.size≤wo.heap.size+1+1 by omega) _)
def c_ft_r9 := sp 99 971 cF30
theorem ft_r9_wp (hi:i<mc) (hlim:mc≤maxLen) (hN:∀a',Frm 38 [(2,s_2),(3,s_3),(4,s_4),(15,s_15),(16,s_16),(17,.int .i64 (i+1:Nat))] a'→Q .normal a' w):∀ac,Frm 38 [(2,s_2),(3,s_3),(4,s_4),(15,s_15),(16,s_16),(17,.int .i64 (i:Nat))] ac→Code.wp Tryd.prog c_ft_r9 Q ac w := by
  refine fO (frame_ft ?_)
  intros
  rename_i hq
  iterate 6 (obtain ⟨e,hq⟩ := hq; obtain rfl := sI e; clear e)
  clear hq
  conv=>arg 2; whnf
  have hi4:(i:Int)≤9223372036854775806 := by unfold maxLen at hlim; omega
  replace hN := Lib.hid hN
  go_wp2_with fail
  exact hN.out _ (by exact fR rfl rfl rfl)
def c_ft_r10 := sp 99 23 cF30
theorem ft_r10_wp (hN:∀z a' w',Frm 38 [(2,s_2),(3,s_3),(4,s_4),(9,.pointer (some ⟨w.heap.size,0,none⟩))] a'→w'.heap[w.heap.size]? = some (.cells #[z] 70 (0,0))→Below w.heap.size w w'→Q .normal a' w'):∀ac,Frm 38 [(2,s_2),(3,s_3),(4,s_4)] ac→Code.wp Tryd.prog c_ft_r10 Q ac w := by
  refine fO (frame_ft ?_)
  intros
  rename_i hq
  iterate 3 (obtain ⟨e,hq⟩ := hq; obtain rfl := sI e; clear e)
  clear hq
  conv=>arg 2; whnf
  replace hN := Lib.hid hN
  go_wp2_with fail
  exact hN.out _ _ _ (by exact fR rfl rfl rfl) (heap_alloc_new _ _) ((Below.refl _ w).alloc (Nat.le_refl _) _)
def c_ft_r11 := sp 99 47 cF30
theorem ft_r11_wp {z:Value} (hw:w.heap[gw]? = some (.cells #[z] 70 (0,0))) (hN:∀a' w',Frm 38 [(2,.pointer (some ⟨wo.heap.size,0,none⟩)),(3,s_3),(4,s_4),(9,.pointer (some ⟨gw,0,none⟩))] a'→w'.heap[gw]? = some (.cells #[.func (Fn.func 51) #[] #[.pointer (some ⟨wo.heap.size,0,none⟩),.pointer (some ⟨gw,0,none⟩)]] 70 (0,0))→Keeps (·=gw) w w'→Q .normal a' w'):∀ac,Frm 38 [(2,.pointer (some ⟨wo.heap.size,0,none⟩)),(3,s_3),(4,s_4),(9,.pointer (some ⟨gw,0,none⟩))] ac→Code.wp Tryd.prog c_ft_r11 Q ac w := by
  refine fO (frame_ft ?_)
  intros
  rename_i hq
  iterate 4 (obtain ⟨e,hq⟩ := hq; obtain rfl := sI e; clear e)
  clear hq
  conv=>arg 2; whnf
  have z0 := cellv hw 0 rfl
  have zf0 := free_heap hw 0
  have zl := lt_heap hw
  replace hw := Lib.hid hw
  replace hN := Lib.hid hN
  go_wp2_with fail
  exact hN.out _ _ (by exact fR rfl rfl rfl) (heap_set hw.out 0 _) (Keeps.set (P := (·=gw)) (Keeps.refl _ w) (Or.inl rfl) 0 _)
def c_ft_r12 := sp 99 159 cF30
theorem ft_r12_wp (ha:w.heap[wo.heap.size+1]? = some (.cells #[.int .i64 kd,.string nm,.slice A n1 c1,.slice B n2 c2] 29 (0,0))) (hgw:w.heap[gw]? = some (.cells #[.func (Fn.func 51) #[] #[.pointer (some ⟨wo.heap.size,0,none⟩),.pointer (some ⟨gw,0,none⟩)]] 70 (0,0))) (hc:Calls Tryd.prog 51 #[.agg #[.int .i64 kd,.string nm,.slice A n1 c1,.slice B n2 c2],.pointer (some ⟨wo.heap.size,0,none⟩),.pointer (some ⟨gw,0,none⟩)] w fun e w'=>e=.returned (.bool bb)∧Below w.heap.size w w') (hN:∀a' w',Frm 38 [(2,s_2),(3,.pointer (some ⟨(wo.heap.size+1),0,none⟩)),(4,s_4),(35,.bool (!bb))] a'→Below w.heap.size w w'→Q .normal a' w'):∀ac,Frm 38 [(2,s_2),(3,.pointer (some ⟨(wo.heap.size+1),0,none⟩)),(4,s_4),(9,.pointer (some ⟨gw,0,none⟩))] ac→Code.wp Tryd.prog c_ft_r12 Q ac w := by
  refine fO (frame_ft ?_)
  intros
  rename_i hq
  iterate 4 (obtain ⟨e,hq⟩ := hq; obtain rfl := sI e; clear e)
  clear hq
  conv=>arg 2; whnf
  have a0 := cellv ha 0 rfl
  have a1 := cellv ha 1 rfl
  have a2 := cellv ha 2 rfl
  have a3 := cellv ha 3 rfl
  have al := lt_heap ha
  clear ha
  have f0 := cellv hgw 0 rfl
  have fl := lt_heap hgw
  clear hgw
  have HN := Lib.hid hN
  have HC := Lib.hid hc
  clear hN hc
  go_wp2_with fail
  (with_reducible refine HC.out.mono ?_)
  rintro e w1 ⟨rfl,hb1⟩
  replace hb1 := Lib.hid hb1
  go_wp2_with fail
  exact HN.out _ _ (by exact fR rfl rfl rfl) hb1.out
def c_ft_r13 := sp 99 607 cF30
theorem ft_r13_wp (hz:w.heap[wo.heap.size+1+1]? = some (.cells #[.int .i64 0,.int .i64 0] 32 (0,0))) (hN:∀a' w',Frm 38 [(4,.pointer (some ⟨(wo.heap.size+1+1),0,none⟩))] a'→w'.heap[wo.heap.size+1+1]? = some (.cells #[.int .i64 6,.int .i64 (-2)] 32 (0,0))→Below wo.heap.size w w'→Q .normal a' w'):∀ac,Frm 38 [(2,s_2),(3,s_3),(4,.pointer (some ⟨(wo.heap.size+1+1),0,none⟩))] ac→Code.wp Tryd.prog c_ft_r13 Q ac w := by
  refine fO (frame_ft ?_)
  intros
  rename_i hq
  iterate 3 (obtain ⟨e,hq⟩ := hq; obtain rfl := sI e; clear e)
  clear hq
  conv=>arg 2; whnf
  have z0 := cellv hz 0 rfl
  have z1 := cellv hz 1 rfl
  have zf0 := free_heap hz 0
  have zf1 := free_heap hz 1
  have zl := lt_heap hz
  replace hz := Lib.hid hz
  replace hN := Lib.hid hN
  go_wp2_with fail
  exact hN.out _ _ (id ⟨rfl,rfl,rfl,trivial⟩) (at2 hz.out) (((Below.refl _ w).setCell (show wo.heap.size≤wo.heap.size+1+1 by omega) _).setCell (show wo.heap.size≤wo.heap.size+1+1 by omega) _)
def c_ft_r14 := sp 99 191 cF30
theorem ft_r14_wp (hz:w.heap[wo.heap.size+1+1]? = some (.cells #[.int .i64 0,.int .i64 0] 32 (0,0))) (hN:∀a' w',Frm 38 [(4,.pointer (some ⟨(wo.heap.size+1+1),0,none⟩))] a'→w'.heap[wo.heap.size+1+1]? = some (.cells #[.int .i64 0,.int .i64 0] 32 (0,0))→Below wo.heap.size w w'→Q .normal a' w'):∀ac,Frm 38 [(2,s_2),(3,s_3),(4,.pointer (some ⟨(wo.heap.size+1+1),0,none⟩))] ac→Code.wp Tryd.prog c_ft_r14 Q ac w := by
  refine fO (frame_ft ?_)
  intros
  rename_i hq
  iterate 3 (obtain ⟨e,hq⟩ := hq; obtain rfl := sI e; clear e)
  clear hq
  conv=>arg 2; whnf
  have z0 := cellv hz 0 rfl
  have z1 := cellv hz 1 rfl
  have zf0 := free_heap hz 0
  have zf1 := free_heap hz 1
  have zl := lt_heap hz
  replace hz := Lib.hid hz
  replace hN := Lib.hid hN
  go_wp2_with fail
  exact hN.out _ _ (id ⟨rfl,rfl,rfl,trivial⟩) (at2 hz.out) (((Below.refl _ w).setCell (show wo.heap.size≤wo.heap.size+1+1 by omega) _).setCell (show wo.heap.size≤wo.heap.size+1+1 by omega) _)
theorem ft_ret_wp {R:Ending→World→Prop} {w':World} {gz:Nat} {x y:Int} (hz:w'.heap[gz]? = some (.cells #[.int .i64 x,.int .i64 y] 32 (0,0))) (hR:R (.returned (.agg #[.int .i64 x,.int .i64 y])) w'):∀ac,Frm 38 [(4,.pointer (some ⟨gz,0,none⟩))] ac→bodyPost Tryd.prog Tryd.f30 R .ret ac w' := by
  have z0 := cellv hz 0 rfl
  have z1 := cellv hz 1 rfl
  have zl := lt_heap hz
  refine fO (frame_ft ?_)
  intros
  rename_i hq
  iterate 1 (obtain ⟨e,hq⟩ := hq; obtain rfl := sI e; clear e)
  clear hq
  refine bodyPost_ret (v := .agg #[.int .i64 x,.int .i64 y]) (by simp [results,Tryd.results30,go_sem,z0,z1,zl]) rfl ?_
  exact hR
theorem sl_sizes9 {S:Nat→Prop} {v:Value} {l:List ByteArray} (h:strRep.Sl w S v l):∀s∈l,s.size≤maxLen := by
  intro s hs
  obtain ⟨k,hk,rfl⟩ := List.getElem_of_mem hs
  obtain ⟨A,n,c,rfl,_⟩ := id h
  obtain ⟨b,o,cs,_,_,hr,_⟩ := Rep.Sl.at_ h (List.getElem?_eq_getElem hk)
  exact hr.2
mutual
theorem frees_size9 (S:Nat→Prop) (w:World):∀(t:Tree FmL) (cs:List Value) (bd:List ByteArray),fmRep.R w S t cs→∀s∈fmFrees bd t,s.size≤maxLen
  | .mk a l,cs,bd,h,s,hs=>by
    obtain ⟨u,v,rfl,_,h1,h2⟩ := Fm.open_ h
    unfold fmFrees at hs
    rcases List.mem_append.1 hs with hs | hs
    · exact sl_sizes9 h1 s (List.mem_filter.1 hs).1
    · obtain ⟨A,n,c,rfl,hl,_,h3⟩ := h2
      cases l with
      | nil=>simp [fmFreess] at hs
      | cons t l =>
        obtain ⟨b,o,xs,_,_,hx,_⟩ := h3 (by rw [← hl]; simp)
        exact freess_size9 S w (t :: l) xs _ hx s hs
theorem freess_size9 (S:Nat→Prop) (w:World):∀(l:List (Tree FmL)) (xs:List Value) (bd:List ByteArray),fmRep.All w S l xs→∀s∈fmFreess bd l,s.size≤maxLen
  | [],_,_,_,s,hs=>by simp [fmFreess] at hs
  | t :: l,xs,bd,h,s,hs=>by
    obtain ⟨cs,rest,rfl,h1,h2⟩ := h
    unfold fmFreess at hs
    rcases List.mem_append.1 hs with hs | hs
    · exact frees_size9 S w t cs bd h1 s hs
    · exact freess_size9 S w l rest bd h2 s hs
end
def pairT (m:Md) (t:Fm):Int × Int := if 5<nestT t then (17,-2) else if allC m (fmConsts t)=false then (6,-2) else if hasT m t=false then (6,-2) else (0,0)
theorem fault_any (m:Md) (hg:m.good) (t:Fm) (ms cs:List Value) (w:World) (S:Nat→Prop) (ht:fmRep.R w S t cs) (hS:∀b,S b→b<w.heap.size) (hm:m.In w S ms) (hn:t.nodes≤1000000) (hln:(fmFrees [] t).length≤1000000) :
    Calls Tryd.prog 30 #[.agg ms.toArray,.agg cs.toArray] w fun e w'=>e=.returned (.agg #[.int .i64 (pairT m t).1,.int .i64 (pairT m t).2])∧Below w.heap.size w w' := by
  obtain ⟨A,n1,c1,B,n2,c2,rfl,_,_,_,_⟩ := Fm.shape ht
  obtain ⟨Am,cm,Bm,dm,rfl,_,_,hcs,_⟩ := Md.shape hm
  obtain ⟨kd,hkd⟩:∃k,t.lab.kind=k := ⟨_,rfl⟩
  obtain ⟨nm,hnm⟩:∃k,t.lab.nm=k := ⟨_,rfl⟩
  rw [hkd,hnm] at ht ⊢
  go_enter Tryd.func30,Tryd.ntmps30
  refine wp_seq ?_
  refine ft_r0_wp (fun a0 h0=>?_) _ (id ⟨rfl,rfl,rfl,rfl,trivial⟩)
  refine gen_last (fun wx=>wx.heap[w.heap.size]? = some (.cells #[.int .i64 m.sz,.slice Am m.cs.length cm,.slice Bm m.rs.length dm] 25 (0,0))∧wx.heap[w.heap.size+1]? = some (.cells #[.int .i64 kd,.string nm,.slice A n1 c1,.slice B n2 c2] 29 (0,0))∧wx.heap[w.heap.size+1+1]? = some (.cells #[.int .i64 0,.int .i64 0] 32 (0,0))∧Below w.heap.size w wx) ⟨heap_old (by simp; omega) (heap_old (by simp) (heap_alloc_new _ _)),heap_old (by simp) (by simpa using heap_alloc_new (w.alloc (.cells #[.int .i64 m.sz,.slice Am m.cs.length cm,.slice Bm m.rs.length dm] 25)) _),by simpa using heap_alloc_new ((w.alloc (.cells #[.int .i64 m.sz,.slice Am m.cs.length cm,.slice Bm m.rs.length dm] 25)).alloc (.cells #[.int .i64 kd,.string nm,.slice A n1 c1,.slice B n2 c2] 29)) _,(((Below.refl _ _).alloc (Nat.le_refl _) _).alloc (by simp) _).alloc (by simp; omega) _⟩ ?_
  rintro wy ⟨hmy,hay,hzy,hby⟩
  have hbys := hby.size
  have hzl := lt_heap hzy
  have holdy := fun k hk=>hby.block k (hS k hk)
  refine wp_seq ?_
  refine wp_seq ?_
  refine ft_r1_wp hay (nest_any 1000000 t [.int .i64 kd,.string nm,.slice A n1 c1,.slice B n2 c2] wy S hn (Nat.le_refl _) (fmRep.keep ht holdy (fun _ h=>h)) (fun k hk=>by have := hS k hk; omega)) (fun a1 w1 h1 hb1=>?_) a0 h0
  have hb1s := hb1.size
  by_cases hne:5<nestT t
  · refine wp_cond_true ((h1.eval (k := 12) (v := .bool (decide (5<nestT t))) (by simp)).trans (by rw [decide_eq_true hne])) ?_
    refine wp_seq ?_
    refine ft_r2_wp ((hb1.block _ hzl).trans hzy) (fun a2 w2 h2 hz2 hb2=>?_) a1 (h1.pick [0,1,2])
    refine wp_ret ?_
    repeat (first | refine thenR ?_ | refine inBlockR ?_)
    refine ft_ret_wp hz2 ⟨?_,((hby.trans (hb1.mono hbys)).trans hb2)⟩ a2 h2
    rw [show pairT m t=(17,-2) from if_pos hne]
  refine wp_cond_false ((h1.eval (k := 12) (v := .bool (decide (5<nestT t))) (by simp)).trans (by rw [decide_eq_false hne])) ?_
  refine wp_skip ?_
  show Code.wp _ _ _ a1 w1
  have hold1:∀k,S k→w1.heap[k]? = w.heap[k]? := fun k hk=>(hb1.block k (by have := hS k hk; omega)).trans (holdy k hk)
  have hco := (constants_any t [.int .i64 kd,.string nm,.slice A n1 c1,.slice B n2 c2] w1 S (fmRep.keep ht hold1 (fun _ h=>h)) (fun k hk=>by have := hS k hk; omega) hn hln).mono (R' := fun e w'=>∃Dc mc ec,e=.returned (.slice Dc mc ec)∧(mc=(fmConsts t).length∧strRep.Sl w' (fun k=>w1.heap.size≤k∧k<w'.heap.size) (.slice Dc mc ec) (fmConsts t)∧Below w1.heap.size w1 w')) (by
    rintro e w' ⟨v,rfl,ho,hb⟩
    have hsl := sl_of_row (S := fun k=>w1.heap.size≤k∧k<w'.heap.size) ho (fun s hs=>frees_size9 S w t _ [] ht s (mem_constsB.1 hs)) (by have := consts_len9 t; unfold maxLen; omega) (fun k hk=>⟨own_ge ho k hk,(ho.lt k hk).2⟩)
    obtain ⟨Dc,ec,rfl,_⟩ := hsl.shape
    exact ⟨Dc,_,ec,rfl,rfl,hsl,hb⟩)
  refine wp_seq ?_
  refine wp_seq ?_
  refine ft_r3_wp (PP := fun Dc mc ec w'=>mc=(fmConsts t).length∧strRep.Sl w' (fun k=>w1.heap.size≤k∧k<w'.heap.size) (.slice Dc mc ec) (fmConsts t)∧Below w1.heap.size w1 w') ((hb1.block _ (by omega)).trans hay) hco (fun Dc mc ec a2 w2 h2 hp2=>?_) a1 (h1.pick [0,1,2])
  obtain ⟨rfl,hrow,hb2⟩ := hp2
  have hpair:pairT m t=if allC m (fmConsts t)=false then (6,-2) else if hasT m t=false then (6,-2) else (0,0) := if_neg hne
  rw [hpair]
  obtain ⟨L,hL⟩:∃L,fmConsts t=L := ⟨_,rfl⟩
  have hLl:L.length≤1000000 := by have := consts_len9 t; rw [hL] at this; omega
  rw [hL] at h2 hrow ⊢
  have hb2s := hb2.size
  have hbw2 := hb1.trans (hb2.mono hb1s)
  refine wp_block ?_
  refine wp_loopR (fun g a' w'=>∃i:Nat,i+g=L.length∧allC m (L.take i)=true∧Below w2.heap.size w2 w'∧Frm 38 [(2,.pointer (some ⟨w.heap.size,0,none⟩)),(3,.pointer (some ⟨(w.heap.size+1),0,none⟩)),(4,.pointer (some ⟨(w.heap.size+1+1),0,none⟩)),(15,.slice Dc L.length ec),(16,.int .i64 (L.length:Nat)),(17,.int .i64 (i:Nat))] a') L.length ⟨0,by omega,rfl,Below.refl _ _,h2⟩ ?_
  rintro g a3 w3 ⟨i,hig,hno,hb3,h3⟩
  have hb3s := hb3.size
  have hbw3 := hbw2.trans (hb3.mono (by omega))
  have hold3:∀k,S k→w3.heap[k]? = w.heap[k]? := fun k hk=>(hbw3.block k (by have := hS k hk; omega)).trans (holdy k hk)
  have hS3:∀k,S k→k<w3.heap.size := fun k hk=>by have := hS k hk; omega
  refine wp_seq ?_
  refine ft_r4_wp (fun a4 h4=>?_) a3 h3
  refine wp_seq ?_
  by_cases hi:i<L.length
  case neg =>
    refine wp_cond_false ((h4.eval (k := 18) (v := .bool (decide (i<L.length))) (by simp)).trans (by rw [decide_eq_false hi])) ?_
    refine wp_exit ?_
    repeat refine then_exit ?_
    refine inBlock_exit ?_
    show Code.wp _ _ _ a4 w3
    rw [List.take_of_length_le (by omega)] at hno
    rw [if_neg (by rw [hno]; exact Bool.noConfusion)]
    refine wp_seq ?_
    refine ft_r10_wp (fun z a5 w5 h5 hz5 hb5=>?_) a4 (h4.pick [0,1,2])
    have hb5s := hb5.size
    refine wp_seq ?_
    refine ft_r11_wp hz5 (fun a6 w6 h6 hw6 hk6=>?_) a5 h5
    have hk6s := hk6.size
    have hb36:Below w3.heap.size w3 w6 := hb5.trans (hk6.below (fun k hk=>Nat.le_of_eq hk.symm) hb5s)
    have hbw6 := hbw3.trans (hb36.mono (by omega))
    have hold6:∀k,S k→w6.heap[k]? = w.heap[k]? := fun k hk=>(hbw6.block k (by have := hS k hk; omega)).trans (holdy k hk)
    have hf1 := fault1_any m hg 1000000 t [.int .i64 kd,.string nm,.slice A n1 c1,.slice B n2 c2] w6 S hn (fmRep.keep ht hold6 (fun _ h=>h)) (fun k hk=>by have := hS k hk; omega) (hm.keep hold6 (fun _ h=>h)) ((hbw6.block _ (by omega)).trans hmy) hw6
    refine wp_seq ?_
    refine wp_seq ?_
    refine ft_r12_wp ((hbw6.block _ (by omega)).trans hay) hw6 hf1 (fun a7 w7 h7 hb7=>?_) a6 h6
    have hbw7 := hbw6.trans (hb7.mono (by omega))
    cases hf:hasT m t
    · rw [hf] at h7
      refine wp_cond_true ((h7.eval (k := 35) (v := .bool (!false)) (by simp)).trans (by rw [show (!false)=true from rfl])) ?_
      refine wp_seq ?_
      refine ft_r13_wp ((hbw7.block _ hzl).trans hzy) (fun a8 w8 h8 hz8 hb8=>?_) a7 (h7.pick [0,1,2])
      refine wp_ret ?_
      repeat (first | refine thenR ?_ | refine inBlockR ?_)
      refine ft_ret_wp hz8 ⟨?_,((hby.trans (hbw7.mono hbys)).trans hb8)⟩ a8 h8
      rw [if_pos rfl]
    · rw [hf] at h7
      refine wp_cond_false ((h7.eval (k := 35) (v := .bool (!true)) (by simp)).trans (by rw [show (!true)=false from rfl])) ?_
      refine wp_skip ?_
      show Code.wp _ _ _ a7 w7
      refine wp_seq ?_
      refine ft_r14_wp ((hbw7.block _ hzl).trans hzy) (fun a8 w8 h8 hz8 hb8=>?_) a7 (h7.pick [0,1,2])
      refine wp_ret ?_
      repeat (first | refine thenR ?_ | refine inBlockR ?_)
      refine ft_ret_wp hz8 ⟨?_,((hby.trans (hbw7.mono hbys)).trans hb8)⟩ a8 h8
      rw [if_neg Bool.noConfusion]
  refine wp_cond_true ((h4.eval (k := 18) (v := .bool (decide (i<L.length))) (by simp)).trans (by rw [decide_eq_true hi])) ?_
  refine wp_skip ?_
  show Code.wp _ _ _ a4 w3
  obtain ⟨b,o,cs9,rfl,hSb,hr9,hc9⟩ := Rep.Sl.at_ hrow (List.getElem?_eq_getElem hi)
  have e9:w3.cell? ⟨b,o+i,none⟩=some (.string L[i]) := (cell_keep (hb3.block b hSb.2) _).trans (by have := hc9 0 _ (by rw [show cs9=[.string L[i]] from hr9.1]; rfl); simpa [strRep] using this)
  refine wp_seq ?_
  refine wp_block ?_
  refine wp_seq ?_
  refine ft_r5_wp hi e9 (by omega) (fun a5 h5=>?_) a4 (h4.pick [0,1,2,3,4,5])
  refine wp_seq ?_
  refine ft_r6_wp ((hbw3.block _ (by omega)).trans hmy) (constant_any m L[i] _ w3 S (hm.keep hold3 (fun _ h=>h)) hS3 hg) (fun a6 w6 h6 hb6=>?_) a5 h5
  have hb36 := hb3.trans (hb6.mono hb3s)
  refine wp_seq ?_
  refine ft_r7_wp (fun a7 h7=>?_) a6 (h6.pick [0,1,2,3,4,5,6])
  have htk := allC_take m L i hi
  rw [hno,Bool.true_and] at htk
  cases hf:(conV m L[i]).isSome
  · rw [hf] at h7 htk
    refine wp_cond_true ((h7.eval (k := 28) (v := .bool (!false)) (by simp)).trans (by rw [show (!false)=true from rfl])) ?_
    refine wp_seq ?_
    refine ft_r8_wp (((hbw3.trans (hb6.mono (by omega))).block _ hzl).trans hzy) (fun a8 w8 h8 hz8 hb8=>?_) a7 (h7.pick [0,1,2])
    refine wp_ret ?_
    repeat (first | refine thenR ?_ | refine inBlockR ?_)
    refine ft_ret_wp hz8 ⟨?_,((hby.trans ((hbw3.trans (hb6.mono (by omega))).mono hbys)).trans hb8)⟩ a8 h8
    rw [if_pos (allC_false m L _ htk)]
  · rw [hf] at h7 htk
    refine wp_cond_false ((h7.eval (k := 28) (v := .bool (!true)) (by simp)).trans (by rw [show (!true)=false from rfl])) ?_
    refine wp_skip ?_
    show Code.wp _ _ _ a7 w6
    refine ft_r9_wp hi (by unfold maxLen; omega) (fun a9 h9=>?_) a7 (h7.pick [0,1,2,3,4,5])
    exact ⟨g - 1,by omega,i+1,by omega,htk,hb36,h9⟩
end
noncomputable section
set_option maxRecDepth 1000000
set_option maxHeartbeats 16000000
variable {s_0 s_1 s_2:Value} {Q:Exit→Act→World→Prop} {w:World} {me ee ge k b o:Nat} {z v:Int} {x:ByteArray}

theorem frame_wv {P:Act→Prop} (h:∀x0 x1 x2 x3 x4 x5 x6 x7 x8 x9 x10 x11 x12 x13 x14 x15 x16 x17 x18 x19 x20 x21 x22 x23 x24 x25 x26 x27 x28 x29 x30 x31 x32 x33:Value,P ⟨(x0 :: x1 :: x2 :: x3 :: x4 :: x5 :: x6 :: x7 :: x8 :: x9 :: x10 :: x11 :: x12 :: x13 :: x14 :: x15 :: x16 :: x17 :: x18 :: x19 :: x20 :: x21 :: x22 :: x23 :: x24 :: x25 :: x26 :: x27 :: x28 :: x29 :: x30 :: x31 :: x32 :: x33 :: []).toArray,[]⟩):∀a:Act,a.tmps.toList.length=34→a.defers=[]→P a := by
  rintro ⟨⟨l⟩,d⟩ hs hd
  simp only at hd
  subst hd
  revert l
  show ∀l:List Value,l.length=34→P ⟨⟨l⟩,[]⟩
  iterate 34 refine openS (fun _=>?_)
  refine open0 ?_
  exact h ..
noncomputable def cF41:Code := Tryd.f41.body.getD .skip
def c_wv_r0 := sp 99 2 cF41
theorem wv_r0_wp (hN:∀a',Frm 34 [(0,s_0),(1,s_1),(2,s_2)] a'→Q .normal a' w):∀ac,Frm 34 [(0,s_0),(1,s_1),(2,s_2)] ac→Code.wp Tryd.prog c_wv_r0 Q ac w := by
  refine fO (frame_wv ?_)
  intros
  rename_i hq
  iterate 3 (obtain ⟨e,hq⟩ := hq; obtain rfl := sI e; clear e)
  clear hq
  conv=>arg 2; whnf
  replace hN := Lib.hid hN
  go_wp2_with fail
  exact hN.out _ (by exact fR rfl rfl rfl)
def c_wv_r1 := sp 99 9 cF41
theorem wv_r1_wp {De:Option Addr} (hme:me≤1000000) (hge:w.heap[ge]? = some (.cells #[.slice De me ee] 62 (0,0))) (hN:∀a',Frm 34 [(0,s_0),(1,.pointer (some ⟨ge,0,none⟩)),(2,s_2),(5,.int .i64 ((me:Int) - 1))] a'→Q .normal a' w):∀ac,Frm 34 [(0,s_0),(1,.pointer (some ⟨ge,0,none⟩)),(2,s_2)] ac→Code.wp Tryd.prog c_wv_r1 Q ac w := by
  refine fO (frame_wv ?_)
  intros
  rename_i hq
  iterate 3 (obtain ⟨e,hq⟩ := hq; obtain rfl := sI e; clear e)
  clear hq
  conv=>arg 2; whnf
  have q1:(me:Int)≤1000000 := by omega
  have g0 := cellv hge 0 rfl
  have gl := lt_heap hge
  clear hge
  replace hN := Lib.hid hN
  go_wp2_with fail
  exact hN.out _ (by exact fR rfl rfl rfl)
def c_wv_r2 := sp 99 133 cF41
theorem wv_r2_wp (hN:∀a',Frm 34 [(0,s_0),(1,s_1),(2,s_2),(5,.int .i64 (z)),(12,.bool (decide (0≤z)))] a'→Q .normal a' w):∀ac,Frm 34 [(0,s_0),(1,s_1),(2,s_2),(5,.int .i64 (z))] ac→Code.wp Tryd.prog c_wv_r2 Q ac w := by
  refine fO (frame_wv ?_)
  intros
  rename_i hq
  iterate 4 (obtain ⟨e,hq⟩ := hq; obtain rfl := sI e; clear e)
  clear hq
  conv=>arg 2; whnf
  by_cases h:0≤z
  · have t1:decide (0≤z)=true := by first | exact decide_eq_true (by omega) | exact beq_iff_eq.2 (by omega) | exact bne_iff_ne.2 (by omega)
    have t2:(decide (0≤z))=true := decide_eq_true h
    rw [t2] at hN
    clear h
    replace hN := Lib.hid hN
    go_wp2_with fail
    exact hN.out _ (by exact fR rfl rfl rfl)
  · have t1:decide (0≤z)=false := by first | exact decide_eq_false (by omega) | exact beq_eq_false_iff_ne.2 (by omega) | exact bne_eq_false_iff_eq.2 (by omega)
    have t2:(decide (0≤z))=false := decide_eq_false h
    rw [t2] at hN
    clear h
    replace hN := Lib.hid hN
    go_wp2_with fail
    exact hN.out _ (by exact fR rfl rfl rfl)
def c_wv_r4 := sp 99 549 cF41
theorem wv_r4_wp {y:ByteArray} (hk:k<me) (hge:w.heap[ge]? = some (.cells #[.slice (some ⟨b,o,none⟩) me ee] 62 (0,0))) (e0:w.cell? ⟨b,o+k * 2,none⟩=some (.string y)) (hbl:b<w.heap.size) (hN:∀a',Frm 34 [(0,.string x),(1,.pointer (some ⟨ge,0,none⟩)),(2,s_2),(5,.int .i64 ((k:Nat))),(21,.bool (decide (y=x)))] a'→Q .normal a' w):∀ac,Frm 34 [(0,.string x),(1,.pointer (some ⟨ge,0,none⟩)),(2,s_2),(5,.int .i64 ((k:Nat)))] ac→Code.wp Tryd.prog c_wv_r4 Q ac w := by
  refine fO (frame_wv ?_)
  intros
  rename_i hq
  iterate 4 (obtain ⟨e,hq⟩ := hq; obtain rfl := sI e; clear e)
  clear hq
  conv=>arg 2; whnf
  have q0:(0:Int)≤(k:Int) := by omega
  have q1:(k:Int)<(me:Int) := by omega
  have g0 := cellv hge 0 rfl
  have gl := lt_heap hge
  clear hge
  by_cases hy:y=x
  · have t1:(y.toList == x.toList)=true := by rw [hy]; exact beq_self_eq_true _
    rw [decide_eq_true hy] at hN
    clear hy
    replace hN := Lib.hid hN
    go_wp2_with fail
    exact hN.out _ (by exact fR rfl rfl rfl)
  · have t1:(y.toList == x.toList)=false := beq_eq_false_iff_ne.2 (fun e=>hy (bytes_inj e))
    rw [decide_eq_false hy] at hN
    clear hy
    replace hN := Lib.hid hN
    go_wp2_with fail
    exact hN.out _ (by exact fR rfl rfl rfl)
def c_wv_r5 := sp 99 2341 cF41
theorem wv_r5_wp (hk:k<me) (hge:w.heap[ge]? = some (.cells #[.slice (some ⟨b,o,none⟩) me ee] 62 (0,0))) (e1:w.cell? ⟨b,o+k * 2+1,none⟩=some (.int .i64 v)) (hbl:b<w.heap.size) (hN:∀a',Frm 34 [(4,.int .i64 v)] a'→Q .normal a' w):∀ac,Frm 34 [(0,s_0),(1,.pointer (some ⟨ge,0,none⟩)),(2,s_2),(5,.int .i64 ((k:Nat)))] ac→Code.wp Tryd.prog c_wv_r5 Q ac w := by
  refine fO (frame_wv ?_)
  intros
  rename_i hq
  iterate 4 (obtain ⟨e,hq⟩ := hq; obtain rfl := sI e; clear e)
  clear hq
  conv=>arg 2; whnf
  have q0:(0:Int)≤(k:Int) := by omega
  have q1:(k:Int)<(me:Int) := by omega
  have g0 := cellv hge 0 rfl
  have gl := lt_heap hge
  clear hge
  replace hN := Lib.hid hN
  go_wp2_with fail
  exact hN.out _ (id ⟨rfl,rfl,rfl,trivial⟩)
def c_wv_r3 := sp 99 229 cF41
theorem wv_r3_wp (hz0:0≤z) (hz1:z≤1000000) (hN:∀a',Frm 34 [(0,s_0),(1,s_1),(2,s_2),(5,.int .i64 (z - 1))] a'→Q .normal a' w):∀ac,Frm 34 [(0,s_0),(1,s_1),(2,s_2),(5,.int .i64 (z))] ac→Code.wp Tryd.prog c_wv_r3 Q ac w := by
  refine fO (frame_wv ?_)
  intros
  rename_i hq
  iterate 4 (obtain ⟨e,hq⟩ := hq; obtain rfl := sI e; clear e)
  clear hq
  conv=>arg 2; whnf
  have q1:z≤1000000 := by omega
  have q2:0≤z := by omega
  replace hN := Lib.hid hN
  go_wp2_with fail
  exact hN.out _ (by exact fR rfl rfl rfl)
def c_wv_r6 := sp 99 11 cF41
theorem wv_r6_wp {bb:Bool} {Am Bm:Option Addr} {nm1 cm nm2 dm:Nat} {gm:Nat} (hgm:w.heap[gm]? = some (.cells #[.int .i64 z,.slice Am nm1 cm,.slice Bm nm2 dm] 25 (0,0))) (hc:Calls Tryd.prog 42 #[.agg #[.int .i64 z,.slice Am nm1 cm,.slice Bm nm2 dm],.string x] w fun e w'=>e=.returned (.tuple #[.int .i64 v,.bool bb])∧Below w.heap.size w w') (hN:∀a' w',Frm 34 [(6,.int .i64 v)] a'→Below w.heap.size w w'→Q .normal a' w'):∀ac,Frm 34 [(0,.string x),(1,s_1),(2,.pointer (some ⟨gm,0,none⟩))] ac→Code.wp Tryd.prog c_wv_r6 Q ac w := by
  refine fO (frame_wv ?_)
  intros
  rename_i hq
  iterate 3 (obtain ⟨e,hq⟩ := hq; obtain rfl := sI e; clear e)
  clear hq
  conv=>arg 2; whnf
  have m0 := cellv hgm 0 rfl
  have m1 := cellv hgm 1 rfl
  have m2 := cellv hgm 2 rfl
  have ml := lt_heap hgm
  clear hgm
  have HN := Lib.hid hN
  have HC := Lib.hid hc
  clear hN hc
  go_wp2_with fail
  (with_reducible refine HC.out.mono ?_)
  rintro e w1 ⟨rfl,hb1⟩
  replace hb1 := Lib.hid hb1
  go_wp2_with fail
  exact HN.out _ _ (id ⟨rfl,rfl,rfl,trivial⟩) hb1.out
def c_wv_r7 := sp 99 23 cF41
theorem wv_r7_wp (hN:∀a',Frm 34 [(4,.int .i64 v)] a'→Q .normal a' w):∀ac,Frm 34 [(6,.int .i64 v)] ac→Code.wp Tryd.prog c_wv_r7 Q ac w := by
  refine fO (frame_wv ?_)
  intros
  rename_i hq
  iterate 1 (obtain ⟨e,hq⟩ := hq; obtain rfl := sI e; clear e)
  clear hq
  conv=>arg 2; whnf
  replace hN := Lib.hid hN
  go_wp2_with fail
  exact hN.out _ (id ⟨rfl,rfl,rfl,trivial⟩)
theorem wv_ret_wp {R:Ending→World→Prop} {w':World} (hR:R (.returned (.int .i64 v)) w'):∀ac,Frm 34 [(4,.int .i64 v)] ac→bodyPost Tryd.prog Tryd.f41 R .ret ac w' := by
  refine fO (frame_wv ?_)
  intros
  rename_i hq
  iterate 1 (obtain ⟨e,hq⟩ := hq; obtain rfl := sI e; clear e)
  clear hq
  refine bodyPost_ret (v := .int .i64 v) (by simp [results,Tryd.results41,go_sem]) rfl ?_
  exact hR
def envRep:Rep (ByteArray × Int) where
  size := 2
  R _ _ a cs := cs=[.string a.1,.int .i64 a.2]
  pos := by omega
  len := by rintro w S a cs rfl; rfl
  one := by
    rintro w S a cs rfl u hu
    simp at hu; rcases hu with rfl | rfl <;> rfl
  keep := by rintro w w' S S' a cs h _ _; exact h
theorem env_at {S:Nat→Prop} {A:Option Addr} {n c j:Nat} {l:List (ByteArray × Int)} (h:envRep.Sl w S (.slice A n c) l) (hj:j<l.length):∃b o,A=some ⟨b,o,none⟩∧S b∧w.cell? ⟨b,o+j * 2,none⟩=some (.string l[j].1)∧w.cell? ⟨b,o+j * 2+1,none⟩=some (.int .i64 l[j].2) := by
  obtain ⟨b,o,cs,hA,hSb,hx,hcell⟩ := Rep.Sl.at_ h (k := j) (a := l[j]) (by simp [hj])
  subst hx
  exact ⟨b,o,hA,hSb,hcell 0 _ rfl,hcell 1 _ rfl⟩
theorem envV_take (l:List (ByteArray × Int)) (x:ByteArray) (k:Nat) (h:k<l.length):envV (l.take (k+1)) x=if l[k].1=x then some l[k].2 else envV (l.take k) x := by
  rw [List.take_succ_eq_append_getElem h]
  exact envV_snoc _ _ _ _
theorem word_any (m:Md) (hg:m.good) (env:List (ByteArray × Int)) (x:ByteArray) (w:World) (S:Nat→Prop) {ge gm:Nat} {De:Option Addr} {me ee:Nat} {Am Bm:Option Addr} {cm dm:Nat} (he:envRep.Sl w S (.slice De me ee) env) (hel:env.length≤1000) (hS:∀b,S b→b<w.heap.size) (hm:m.In w S [.int .i64 m.sz,.slice Am m.cs.length cm,.slice Bm m.rs.length dm]) (hge:w.heap[ge]? = some (.cells #[.slice De me ee] 62 (0,0))) (hgm:w.heap[gm]? = some (.cells #[.int .i64 m.sz,.slice Am m.cs.length cm,.slice Bm m.rs.length dm] 25 (0,0))) :
    Calls Tryd.prog 41 #[.string x,.pointer (some ⟨ge,0,none⟩),.pointer (some ⟨gm,0,none⟩)] w fun e w'=>e=.returned (.int .i64 (wordV m env x))∧Below w.heap.size w w' := by
  obtain ⟨_,_,_,eq,hme,_⟩ := id he
  simp only [Value.slice.injEq] at eq
  obtain ⟨rfl,rfl,rfl⟩ := eq
  have hme2:me=env.length := by omega
  go_enter Tryd.func41,Tryd.ntmps41
  refine wp_seq ?_
  refine wv_r0_wp (fun a0 h0=>?_) _ (by exact fR rfl rfl rfl)
  refine wp_seq ?_
  refine wp_seq ?_
  refine wv_r1_wp (by omega) hge (fun a1 h1=>?_) a0 h0
  refine wp_block ?_
  refine wp_loopR (fun g a' w'=>∃i:Nat,g=i∧i≤env.length∧w'=w∧envV env x=envV (env.take i) x∧Frm 34 [(0,.string x),(1,.pointer (some ⟨ge,0,none⟩)),(2,.pointer (some ⟨gm,0,none⟩)),(5,.int .i64 ((i:Int) - 1))] a') env.length ⟨env.length,rfl,Nat.le_refl _,rfl,by rw [List.take_of_length_le (Nat.le_refl _)],by rw [← hme2]; exact h1⟩ ?_
  rintro g a2 w2 ⟨i,rfl,hil,rfl,hv,h2⟩
  refine wp_seq ?_
  refine wp_seq ?_
  refine wv_r2_wp (fun a3 h3=>?_) a2 h2
  by_cases hz:(0:Int)≤(g:Int) - 1
  case neg =>
    refine wp_cond_false ((h3.eval (k := 12) (v := .bool (decide ((0:Int)≤(g:Int) - 1))) (by simp)).trans (by rw [decide_eq_false hz])) ?_
    refine wp_exit ?_
    repeat refine then_exit ?_
    refine inBlock_exit ?_
    show Code.wp _ _ _ a3 w2
    have hg0:g=0 := by omega
    subst hg0
    refine wp_seq ?_
    refine wv_r6_wp hgm (constant_any m x _ w2 S hm hS hg) (fun a4 w4 h4 hb4=>?_) a3 (h3.pick [0,1,2])
    refine wp_seq ?_
    refine wv_r7_wp (fun a5 h5=>?_) a4 h4
    refine wp_ret ?_
    refine wv_ret_wp ⟨?_,hb4⟩ a5 h5
    unfold wordV
    rw [hv]; rfl
  refine wp_cond_true ((h3.eval (k := 12) (v := .bool (decide ((0:Int)≤(g:Int) - 1))) (by simp)).trans (by rw [decide_eq_true hz])) ?_
  refine wp_skip ?_
  show Code.wp _ _ _ a3 w2
  obtain ⟨k,rfl⟩:∃k,g=k+1 := ⟨g - 1,by omega⟩
  have hkl:k<env.length := by omega
  obtain ⟨b,o,rfl,hSb,e0,e1⟩ := env_at he hkl
  have hzk:((k+1:Nat):Int) - 1=(k:Nat) := by omega
  rw [hzk] at h3
  refine wp_seq ?_
  refine wp_block ?_
  refine wp_seq ?_
  refine wv_r4_wp (by omega) hge e0 (hS b hSb) (fun a4 h4=>?_) a3 (h3.pick [0,1,2,3])
  have htk := envV_take env x k hkl
  by_cases hy:env[k].1=x
  · refine wp_cond_true ((h4.eval (k := 21) (v := .bool (decide (env[k].1=x))) (by simp)).trans (by rw [decide_eq_true hy])) ?_
    refine wp_seq ?_
    refine wv_r5_wp (by omega) hge e1 (hS b hSb) (fun a5 h5=>?_) a4 (h4.pick [0,1,2,3])
    refine wp_ret ?_
    repeat (first | refine thenR ?_ | refine inBlockR ?_)
    refine wv_ret_wp ⟨?_,Below.refl _ _⟩ a5 h5
    unfold wordV
    rw [hv,htk,if_pos hy]; rfl
  · refine wp_cond_false ((h4.eval (k := 21) (v := .bool (decide (env[k].1=x))) (by simp)).trans (by rw [decide_eq_false hy])) ?_
    refine wp_skip ?_
    show Code.wp _ _ _ a4 w2
    refine wv_r3_wp (by omega) (by omega) (fun a5 h5=>?_) a4 (h4.pick [0,1,2,3])
    exact ⟨k,by omega,k,rfl,by omega,rfl,by rw [hv,htk,if_neg hy],h5⟩
end
noncomputable section
theorem pred_any (nm:ByteArray) (v:Value) (w:World) (hv:∃A n c,v=.slice A n c):Calls Tryd.prog 9 #[.string nm,v] w fun e w'=>e=.returned (.agg #[.int .i64 2,.string nm,v,.slice none 0 0])∧Below w.heap.size w w' := by
  obtain ⟨A,n,c,rfl⟩ := hv
  go_enter Tryd.func9,Tryd.ntmps9
  go_wp2_with fail
  refine bodyPost_ret (v := .agg #[.int .i64 2,.string nm,.slice A n c,.slice none 0 0]) (by simp [results,Tryd.results9,go_sem]) rfl ?_
  exact ⟨rfl,by go_grown⟩
def bDog:ByteArray := ⟨#[100,111,103]⟩
end
noncomputable section
set_option maxRecDepth 1000000
set_option maxHeartbeats 16000000
variable {s_0 s_1 v:Value} {Q:Exit→Act→World→Prop} {w:World} {n bk bu:Nat} {s:ByteArray}

theorem frame_nx {P:Act→Prop} (h:∀x0 x1 x2 x3 x4 x5 x6 x7 x8 x9 x10 x11 x12 x13:Value,P ⟨(x0 :: x1 :: x2 :: x3 :: x4 :: x5 :: x6 :: x7 :: x8 :: x9 :: x10 :: x11 :: x12 :: x13 :: []).toArray,[]⟩):∀a:Act,a.tmps.toList.length=14→a.defers=[]→P a := by
  rintro ⟨⟨l⟩,d⟩ hs hd
  simp only at hd
  subst hd
  revert l
  show ∀l:List Value,l.length=14→P ⟨⟨l⟩,[]⟩
  iterate 14 refine openS (fun _=>?_)
  refine open0 ?_
  exact h ..
noncomputable def cF70:Code := Tryd.f70.body.getD .skip
def c_nx_r0 := sp 99 2 cF70
theorem nx_r0_wp (hN:∀a',Frm 14 [(0,s_0),(1,s_1)] a'→Q .normal a' w):∀ac,Frm 14 [(0,s_0),(1,s_1)] ac→Code.wp Tryd.prog c_nx_r0 Q ac w := by
  refine fO (frame_nx ?_)
  intros
  rename_i hq
  iterate 2 (obtain ⟨e,hq⟩ := hq; obtain rfl := sI e; clear e)
  clear hq
  conv=>arg 2; whnf
  replace hN := Lib.hid hN
  go_wp2_with fail
  exact hN.out _ (id ⟨rfl,rfl,rfl,rfl,trivial⟩)
def c_nx_r1 := sp 99 33 cF70
theorem nx_r1_wp {d:ByteArray} (hk:w.heap[bk]? = some (.cells #[.int .i64 (n:Nat)] 3 (0,0))) (hd:d.size≤100000) (hc:Calls Tryd.prog 71 #[.int .i64 (n:Nat)] w fun e w'=>e=.returned (.string d)∧Below w.heap.size w w') (hN:∀a' w',Frm 14 [(0,.pointer (some ⟨bk,0,none⟩)),(1,s_1),(3,.string ((⟨#[118]⟩:ByteArray)++d))] a'→Below w.heap.size w w'→Q .normal a' w'):∀ac,Frm 14 [(0,.pointer (some ⟨bk,0,none⟩)),(1,s_1)] ac→Code.wp Tryd.prog c_nx_r1 Q ac w := by
  refine fO (frame_nx ?_)
  intros
  rename_i hq
  iterate 2 (obtain ⟨e,hq⟩ := hq; obtain rfl := sI e; clear e)
  clear hq
  conv=>arg 2; whnf
  have k0 := cellv hk 0 rfl
  have kl := lt_heap hk
  have t1:¬ 9223372036854775807<1+d.size := by omega
  clear hk
  have HN := Lib.hid hN
  have HC := Lib.hid hc
  clear hN hc
  go_wp2_with fail
  (with_reducible refine HC.out.mono ?_)
  rintro e w1 ⟨rfl,hb1⟩
  replace hb1 := Lib.hid hb1
  go_wp2_with fail
  exact HN.out _ _ (by exact fR rfl rfl rfl) hb1.out
def c_nx_r2 := sp 99 81 cF70
theorem nx_r2_wp {s_3:Value} (hk:w.heap[bk]? = some (.cells #[.int .i64 (n:Nat)] 3 (0,0))) (hn:n≤50000000) (hN:∀a',Frm 14 [(0,.pointer (some ⟨bk,0,none⟩)),(1,s_1),(3,s_3)] a'→Q .normal a' (w.setCell ⟨bk,0,none⟩ (.int .i64 ((n:Int)+1)))):∀ac,Frm 14 [(0,.pointer (some ⟨bk,0,none⟩)),(1,s_1),(3,s_3)] ac→Code.wp Tryd.prog c_nx_r2 Q ac w := by
  refine fO (frame_nx ?_)
  intros
  rename_i hq
  iterate 3 (obtain ⟨e,hq⟩ := hq; obtain rfl := sI e; clear e)
  clear hq
  conv=>arg 2; whnf
  have k0 := cellv hk 0 rfl
  have kf := free_heap hk 0
  have kl := lt_heap hk
  have hn4:(n:Int)≤50000000 := by omega
  clear hk
  replace hN := Lib.hid hN
  go_wp2_with fail
  exact hN.out _ (by exact fR rfl rfl rfl)
def c_nx_r3 := sp 99 177 cF70
theorem nx_r3_wp {bb:Bool} (hu:w.heap[bu]? = some (.cells #[v] 26 (0,0))) (hc:Calls Tryd.prog 67 #[v,.string s] w fun e w'=>e=.returned (.bool bb)∧w'=w) (hN:∀a',Frm 14 [(0,s_0),(1,.pointer (some ⟨bu,0,none⟩)),(3,.string s),(12,.bool (!bb))] a'→Q .normal a' w):∀ac,Frm 14 [(0,s_0),(1,.pointer (some ⟨bu,0,none⟩)),(3,.string s)] ac→Code.wp Tryd.prog c_nx_r3 Q ac w := by
  refine fO (frame_nx ?_)
  intros
  rename_i hq
  iterate 3 (obtain ⟨e,hq⟩ := hq; obtain rfl := sI e; clear e)
  clear hq
  conv=>arg 2; whnf
  have u0 := cellv hu 0 rfl
  have ul := lt_heap hu
  clear hu
  have HN := Lib.hid hN
  have HC := Lib.hid hc
  clear hN hc
  go_wp2_with fail
  (with_reducible refine HC.out.mono ?_)
  rintro e w1 ⟨rfl,rfl⟩
  go_wp2_with fail
  exact HN.out _ (by exact fR rfl rfl rfl)
def c_nx_r4 := sp 99 625 cF70
theorem nx_r4_wp (hN:∀a',Frm 14 [(2,.string s)] a'→Q .normal a' w):∀ac,Frm 14 [(0,s_0),(1,s_1),(3,.string s)] ac→Code.wp Tryd.prog c_nx_r4 Q ac w := by
  refine fO (frame_nx ?_)
  intros
  rename_i hq
  iterate 3 (obtain ⟨e,hq⟩ := hq; obtain rfl := sI e; clear e)
  clear hq
  conv=>arg 2; whnf
  replace hN := Lib.hid hN
  go_wp2_with fail
  exact hN.out _ (id ⟨rfl,rfl,rfl,trivial⟩)
theorem nx_ret_wp {R:Ending→World→Prop} {w':World} (hR:R (.returned (.string s)) w'):∀ac,Frm 14 [(2,.string s)] ac→bodyPost Tryd.prog Tryd.f70 R .ret ac w' := by
  refine fO (frame_nx ?_)
  intros
  rename_i hq
  iterate 1 (obtain ⟨e,hq⟩ := hq; obtain rfl := sI e; clear e)
  clear hq
  refine bodyPost_ret (v := .string s) (by simp [results,Tryd.results70,go_sem]) rfl ?_
  exact hR
theorem below_grow (w:World) (k:Nat) (os:Array Obj):Below w.heap.size w (Sort.grow (w.drewN k) os) :=
  ⟨rfl,rfl,rfl,by simp [Sort.grow,World.drewN],fun i hi=>Sort.heap_grow_old (w.drewN k) os hi⟩
theorem itoa_any (n:Nat) (hn:n≤1000000000) (w:World) (ht:Lib.TabIs Tryd.prog w "internal/strconv.uint64pow10" .u64 Lib.pow10Tab):Calls Tryd.prog 71 #[.int .i64 (n:Nat)] w fun e w'=>e=.returned (.string ⟨(Lib.decDigits n).toArray⟩)∧Below w.heap.size w w' := by
  refine (Tryd.strconv_Itoa (n:Int) (by omega) (by omega) w ht).mono ?_
  rintro e w' ⟨rfl,k,os,rfl⟩
  rw [Lib.itoa_nonneg]
  exact ⟨rfl,below_grow w k os⟩
theorem dec_len:∀(N n:Nat),n≤N→(Lib.decDigits n).length≤n+1 := by
  intro N
  induction N with
  | zero=>intro n h; rw [Lib.decDigits,dif_pos (by omega)]; simp
  | succ N ih =>
    intro n h
    by_cases h10:n<10
    · rw [Lib.decDigits,dif_pos h10]; simp
    · rw [Lib.decDigits,dif_neg h10,List.length_append]
      have := ih (n / 10) (by omega)
      simp only [List.length_singleton]
      omega
theorem vB_eq (n:Nat):(⟨#[118]⟩:ByteArray)++⟨(Lib.decDigits n).toArray⟩=vB n := by
  refine dat_inj ?_
  unfold vB
  rw [dat_mk]
  simp [dat,ByteArray.data_append]
theorem next_any {u:List ByteArray} {S:Nat→Prop} (hk:w.heap[bk]? = some (.cells #[.int .i64 (n:Nat)] 3 (0,0))) (hu:w.heap[bu]? = some (.cells #[v] 26 (0,0))) (hne:bu≠bk) (hv:strRep.Sl w S v u) (hS:∀k,S k→k<w.heap.size∧k≠bk) (hn:n+u.length≤90000) (ht:∀W,Keeps (·=bk) w W→Lib.TabIs Tryd.prog W "internal/strconv.uint64pow10" .u64 Lib.pow10Tab) :
    Calls Tryd.prog 70 #[.pointer (some ⟨bk,0,none⟩),.pointer (some ⟨bu,0,none⟩)] w fun e w'=>e=.returned (.string (vB (nextV u n)))∧w'.heap[bk]? = some (.cells #[.int .i64 ((nextV u n+1:Nat):Int)] 3 (0,0))∧Keeps (·=bk) w w' := by
  obtain ⟨D,m,c,rfl,_,_,_⟩ := id hv
  have hle := nextV_le u n
  go_enter Tryd.func70,Tryd.ntmps70
  refine wp_seq ?_
  refine nx_r0_wp (fun a0 h0=>?_) _ (id ⟨rfl,rfl,rfl,rfl,trivial⟩)
  refine wp_block ?_
  refine wp_loopR (fun g a' w'=>∃j:Nat,j+g=nextV u n∧nextV u j=nextV u n∧w'.heap[bk]? = some (.cells #[.int .i64 (j:Nat)] 3 (0,0))∧Keeps (·=bk) w w'∧Frm 14 [(0,.pointer (some ⟨bk,0,none⟩)),(1,.pointer (some ⟨bu,0,none⟩))] a') (nextV u n - n) ⟨n,by have := nextV_ge u n; omega,rfl,hk,Keeps.refl _ _,h0⟩ ?_
  rintro g a1 w1 ⟨j,hjg,hjn,hk1,hw1,h1⟩
  have hlen:((⟨(Lib.decDigits j).toArray⟩:ByteArray)).size≤100000 := by
    have := dec_len j j (Nat.le_refl _)
    simp [ByteArray.size]; omega
  refine wp_block ?_
  refine wp_seq ?_
  refine nx_r1_wp hk1 hlen (itoa_any j (by omega) w1 (ht w1 hw1)) (fun a2 w2 h2 hb2=>?_) a1 h1
  rw [vB_eq] at h2
  have hk2 := (hb2.block _ (lt_heap hk1)).trans hk1
  refine wp_seq ?_
  refine nx_r2_wp hk2 (by omega) (fun a3 h3=>?_) a2 h2
  have hk3:(w2.setCell ⟨bk,0,none⟩ (.int .i64 ((j:Int)+1))).heap[bk]? = some (.cells #[.int .i64 ((j+1:Nat):Int)] 3 (0,0)) := by
    have := heap_set hk2 0 (.int .i64 ((j:Int)+1))
    simpa using this
  have hw3:Keeps (·=bk) w (w2.setCell ⟨bk,0,none⟩ (.int .i64 ((j:Int)+1))) := (hw1.trans (Below.keeps hb2 _)).set (b := bk) (Or.inl rfl) 0 _
  have hu3 := (hw3.block bu (lt_heap hu) hne).trans hu
  have hcon := contains_any (hv.keep (fun k hk=>hw3.block k (hS k hk).1 (hS k hk).2) (fun _ h=>h)) (vB j)
  refine wp_seq ?_
  refine nx_r3_wp hu3 hcon (fun a4 h4=>?_) a3 h3
  cases hb:hasB u (vB j)
  · rw [hb] at h4
    refine wp_cond_true ((h4.eval (k := 12) (v := .bool (!false)) (by simp)).trans (by rw [show (!false)=true from rfl])) ?_
    refine wp_seq ?_
    refine nx_r4_wp (fun a5 h5=>?_) a4 (h4.pick [0,1,2])
    refine wp_ret ?_
    repeat (first | refine then_ret ?_ | refine inBlock_ret ?_)
    have hnx:nextV u n=j := by
      rw [← hjn]
      exact nextV_stop (fun hm=>by rw [hasB_iff.2 hm] at hb; cases hb)
    refine nx_ret_wp ?_ a5 h5
    rw [hnx]
    exact ⟨rfl,hk3,hw3⟩
  · rw [hb] at h4
    refine wp_cond_false ((h4.eval (k := 12) (v := .bool (!true)) (by simp)).trans (by rw [show (!true)=false from rfl])) ?_
    refine wp_skip ?_
    have hst := nextV_step (hasB_iff.1 hb)
    exact ⟨g - 1,by rw [hjn] at hst; omega,j+1,by rw [hjn] at hst; omega,by rw [← hst.1,hjn],hk3,hw3,(h4.pick [0,1])⟩
end
noncomputable section
variable {PP:Nat→Prop} {vw vs:Value} {ws:List ByteArray} {x nm:ByteArray} {wo w:World} {kd:Int} {A B:Option Addr} {n1 c1 n2 c2:Nat}

structure CY (PP:Nat→Prop) (wo w:World) (vw:Value) (ws:List ByteArray) (x:ByteArray) (vs:Value) (kd:Int) (nm:ByteArray) (A:Option Addr) (n1 c1:Nat) (B:Option Addr) (n2 c2:Nat):Prop where
  a:w.heap[wo.heap.size]? = some (.cells #[.int .i64 kd,.string nm,.slice A n1 c1,.slice B n2 c2] 29 (0,0))
  z:w.heap[wo.heap.size+1]? = some (.cells #[.int .i64 0,.string ⟨#[]⟩,.slice none 0 0,.slice none 0 0] 29 (0,0))
  c:w.heap[wo.heap.size+2]? = some (.cells #[.int .i64 kd,.string x,vw,vs] 29 (0,0))
  rw:w.ownsRow (wo.heap.size+3) 9 1 vw ws.length (ws.map .string)
  b:Keeps PP wo w
  p:∀k,PP k→k<wo.heap.size
theorem CY.keeps {w':World} (h:CY PP wo w vw ws x vs kd nm A n1 c1 B n2 c2) (hk:Keeps PP w w'):CY PP wo w' vw ws x vs kd nm A n1 c1 B n2 c2 := by
  have h0 := lt_heap h.a
  have h1 := lt_heap h.z
  have h2 := lt_heap h.c
  refine ⟨(hk.block _ h0 (fun e=>by have := h.p _ e; omega)).trans h.a,(hk.block _ h1 (fun e=>by have := h.p _ e; omega)).trans h.z,(hk.block _ h2 (fun e=>by have := h.p _ e; omega)).trans h.c,rowGrownF h.rw (fun k hlt e=>hk.block k hlt (fun e2=>by have := h.p _ e2; have := (h.rw.lt k e).1; omega)),h.b.trans hk,h.p⟩
theorem CY.word {w2:World} {g cap:Nat} {s:ByteArray} {o:Obj} (h:CY PP wo w vw ws x vs kd nm A n1 c1 B n2 c2) (hown:w2.ownsRow (wo.heap.size+3) 9 1 (.slice (some ⟨g,0,none⟩) (ws.length+1) cap) (ws.length+1) (ws.map .string++[.string s])) (hg:(w.alloc o).grownBy w2 vw.ownBlock) :
    w2.heap[wo.heap.size+2]? = some (.cells #[.int .i64 kd,.string x,vw,vs] 29 (0,0))∧CY PP wo (w2.setCell ⟨wo.heap.size+2,2,none⟩ (.slice (some ⟨g,0,none⟩) (ws.length+1) cap)) (.slice (some ⟨g,0,none⟩) (ws.length+1) cap) (ws++[s]) x vs kd nm A n1 c1 B n2 c2 := by
  have h0 := lt_heap h.a
  have h1 := lt_heap h.z
  have h2 := lt_heap h.c
  have hge:∀k,vw.ownBlock=some k→wo.heap.size+3≤k := fun k e=>(h.rw.lt k e).1
  have hk:∀k,k<w.heap.size→vw.ownBlock≠some k→w2.heap[k]? = w.heap[k]? := fun k h1 h2=>(hg.block k (by simp; omega) (fun e=>h2 e.symm)).trans (heap_old h1 rfl)
  have hc2 := (hk _ h2 (fun e=>by have := hge _ e; omega)).trans h.c
  have hsz:w.heap.size+1≤w2.heap.size := by have := hg.size; simpa using this
  have hgg := (hown.lt g rfl).1
  refine ⟨hc2,?_,?_,?_,?_,?_,h.p⟩
  · exact heap_far _ (by omega) ((hk _ h0 (fun e=>by have := hge _ e; omega)).trans h.a)
  · exact heap_far _ (by omega) ((hk _ h1 (fun e=>by have := hge _ e; omega)).trans h.z)
  · have := heap_set hc2 2 (.slice (some ⟨g,0,none⟩) (ws.length+1) cap)
    simpa using this
  · have h3:(w2.setCell ⟨wo.heap.size+2,2,none⟩ (.slice (some ⟨g,0,none⟩) (ws.length+1) cap)).ownsRow (wo.heap.size+3) 9 1 (.slice (some ⟨g,0,none⟩) (ws.length+1) cap) (ws.length+1) (ws.map .string++[.string s]) := rowGrownF hown (fun b _ e=>heap_far _ (by have e2:g=b := Option.some.inj e; omega) rfl)
    simpa using h3
  · refine ⟨hg.os.trans h.b.os,hg.tape.trans h.b.tape,hg.output.trans h.b.output,by rw [size_set]; have := h.b.size; omega,fun k hk1 hk2=>?_⟩
    have := h.b.size
    exact (heap_far _ (by omega) (hk k (by omega) (fun e=>by have := hge _ e; omega))).trans (h.b.block k hk1 hk2)
end
noncomputable section
variable {PP:Nat→Prop} {vw vs:Value} {ws:List ByteArray} {x nm:ByteArray} {wo w:World} {kd:Int} {A B:Option Addr} {n1 c1 n2 c2:Nat}

theorem CY.name (h:CY PP wo w vw ws x vs kd nm A n1 c1 B n2 c2) (y:ByteArray):CY PP wo (w.setCell ⟨wo.heap.size+2,1,none⟩ (.string y)) vw ws y vs kd nm A n1 c1 B n2 c2 := by
  have h2 := lt_heap h.c
  refine ⟨heap_far _ (by omega) h.a,heap_far _ (by omega) h.z,?_,rowGrownF h.rw (fun b _ e=>heap_far _ (by have := (h.rw.lt b e).1; omega) rfl),?_,h.p⟩
  · have := heap_set h.c 1 (.string y)
    simpa using this
  · refine ⟨h.b.os,h.b.tape,h.b.output,by rw [size_set]; exact h.b.size,fun k hk1 hk2=>(heap_far _ (by omega) rfl).trans (h.b.block k hk1 hk2)⟩
theorem CY.below {w':World} (h:CY PP wo w vw ws x vs kd nm A n1 c1 B n2 c2) (hb:Below w.heap.size w w'):CY PP wo w' vw ws x vs kd nm A n1 c1 B n2 c2 := h.keeps (Below.keeps hb _)
end
noncomputable section
theorem infoForm:(Tryd.prog.info? 29).map (fun i=>(i.zero,i.size,i.bytes))=some (some (.agg #[.int .i64 0,.string ⟨#[]⟩,.slice none 0 0,.slice none 0 0]),4,72) := by kernel_rfl
theorem rows_ne {w:World} {B1 B2 s1 s2 n1 n2:Nat} {E1 E2:TypeId} {v1 v2:Value} {x1 x2:List Value} (h1:w.ownsRow B1 E1 s1 v1 n1 x1) (h2:w.ownsRow B2 E2 s2 v2 n2 x2) (hE:E1≠E2):∀k,v1.ownBlock=some k→v2.ownBlock≠some k := by
  intro k e1 e2
  rcases h1.2 with ⟨e,_⟩ | ⟨g,_,_,e,_,hh,_⟩
  · rw [e] at e1; cases e1
  rcases h2.2 with ⟨f,_⟩ | ⟨g',_,_,f,_,hh',_⟩
  · rw [f] at e2; cases e2
  rw [e] at e1; rw [f] at e2
  have q1:g=k := Option.some.inj e1
  have q2:g'=k := Option.some.inj e2
  subst q1 q2
  rw [hh] at hh'
  injection hh' with hh'
  injection hh' with _ q _
  exact hE q
end
noncomputable section
variable {w wo:World} {b n1 c1 n2 c2:Nat} {v0 v1 v2 v3:Value} {PP:Nat→Prop} {kd:Int} {nm:ByteArray} {A B:Option Addr}

theorem at4F {a0 a1 a2 a3:Value} {T:TypeId} (h:w.heap[b]? = some (.cells #[a0,a1,a2,a3] T (0,0))):((((w.setCell ⟨b,0,none⟩ v0).setCell ⟨b,1,none⟩ v1).setCell ⟨b,2,none⟩ v2).setCell ⟨b,3,none⟩ v3).heap[b]? = some (.cells #[v0,v1,v2,v3] T (0,0)) := heap_set (heap_set (heap_set (heap_set h 0 v0) 1 v1) 2 v2) 3 v3
theorem keeps4F {u:World} (h:Keeps PP u w) (hb:PP b∨u.heap.size≤b):Keeps PP u ((((w.setCell ⟨b,0,none⟩ v0).setCell ⟨b,1,none⟩ v1).setCell ⟨b,2,none⟩ v2).setCell ⟨b,3,none⟩ v3) := (((h.set hb 0 v0).set hb 1 v1).set hb 2 v2).set hb 3 v3
theorem sl_sizes {S:Nat→Prop} {v:Value} {l:List ByteArray} (h:strRep.Sl w S v l):∀s∈l,s.size≤maxLen := by
  intro s hs
  obtain ⟨A,n,c,rfl,_⟩ := id h
  obtain ⟨j,hj,rfl⟩ := List.getElem_of_mem hs
  obtain ⟨_,_,_,_,_,⟨_,hz⟩,_⟩ := Rep.Sl.at_ h (List.getElem?_eq_getElem hj)
  exact hz
theorem CY.fin {tt:List Fm} {vw vs:Value} {ws:List ByteArray} {x:ByteArray} {w':World} (h:CY PP wo w vw ws x vs kd nm A n1 c1 B n2 c2) (ho:fmRep.Own 29 (wo.heap.size+3) w (fun b=>wo.heap.size+3≤b∧b<w.heap.size) vs tt) (hx:x.size≤maxLen) (hz:∀s∈ws,s.size≤maxLen) (hwl:ws.length≤maxLen) (htl:tt.length≤maxLen) (hk:Keeps (·=wo.heap.size+1) w w'):fmRep.R w' (fun b=>wo.heap.size≤b∧b<w'.heap.size) (.mk ⟨kd,x,ws⟩ tt) [.int .i64 kd,.string x,vw,vs] := by
  have hks := hk.size
  have h1 := sl_of_row (S := fun b=>wo.heap.size+3≤b∧b<w.heap.size) h.rw hz hwl (fun k e=>h.rw.lt k e)
  have h2 := ho.sl (S' := fun b=>wo.heap.size+3≤b∧b<w.heap.size) htl (fun b hb=>hb) (fun b h1 h2=>⟨h1,h2⟩)
  exact Fm.shut (a := ⟨kd,x,ws⟩) hx (h1.keep (fun b hb=>hk.block b hb.2 (by omega)) (fun b hb=>⟨by omega,by omega⟩)) (h2.keep (fun b hb=>hk.block b hb.2 (by omega)) (fun b hb=>⟨by omega,by omega⟩))
theorem CY.start {wx:World} (ha:wx.heap[wo.heap.size]? = some (.cells #[.int .i64 kd,.string nm,.slice A n1 c1,.slice B n2 c2] 29 (0,0))) (hz:wx.heap[wo.heap.size+1]? = some (.cells #[.int .i64 0,.string ⟨#[]⟩,.slice none 0 0,.slice none 0 0] 29 (0,0))) (hsz:wx.heap.size=wo.heap.size+2) (hb:Below wo.heap.size wo wx) (hp:∀k,PP k→k<wo.heap.size):CY PP wo (wx.alloc (.cells #[.int .i64 kd,.string nm,.slice none 0 0,.slice none 0 0] 29)) (.slice none 0 0) [] nm (.slice none 0 0) kd nm A n1 c1 B n2 c2 := by
  refine ⟨heap_old (lt_heap ha) ha,heap_old (lt_heap hz) hz,?_,World.ownsRow_nil _ _ _ _,Keeps.alloc (Below.keeps hb _) _,hp⟩
  rw [← hsz]
  exact heap_alloc_new _ _
theorem allWs_at_le:∀(l:List (Tree FmL)) (j:Nat) (h:j<l.length),(allW l[j]).length≤(allWs l).length
  | t :: l,0,_=>by simp [allWs]
  | t :: l,j+1,h=>by
    have := allWs_at_le l j (by simpa using h)
    simp only [allWs,List.length_append,List.getElem_cons_succ]; omega
end

end Go.Proofs.YthfokmjpbnfihaaDoor
