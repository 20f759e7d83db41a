/- Lemmas. -/
import Derived.Test.YthfokmjpbnfihaaDoorIz
namespace Go.Proofs.YthfokmjpbnfihaaDoor
open Go Go.RowKit
set_option linter.unusedSimpArgs false
set_option linter.unusedVariables false
noncomputable section
set_option maxRecDepth 100000
set_option maxHeartbeats 4000000
variable {Q:Exit→Act→World→Prop} {SS:Nat→Prop} {env:Env} {A De B:Option Addr} {n1 c1 bn bu me ee k n2 c2:Nat} {wo w:World} {vw vs:Value} {ws:List ByteArray} {x nm:ByteArray} {kd:Int}

def c_rn_look := sp 99 21707 cF72
theorem rn_look_wp {s:ByteArray} {i:Nat} (hS:∀k,SS k→k<w.heap.size) (hf:bindRep.Sl w SS (.slice De me ee) env) 
    (hX:∀a',Frm 87 [(1,.slice De me ee),(2,.func (Fn.func 70) #[] #[.pointer (some ⟨bn,0,none⟩),.pointer (some ⟨bu,0,none⟩)]),(3,.pointer (some ⟨wo.heap.size,0,none⟩)),(6,.pointer (some ⟨wo.heap.size+1,0,none⟩)),(7,.pointer (some ⟨wo.heap.size+2,0,none⟩)),(19,.slice A n1 c1),(20,.int .i64 (n1:Nat)),(21,.int .i64 (i:Nat)),(9,.string (lookE env s))] a'→Q (.exit 2) a' w):∀ac,Frm 87 [(1,.slice De me ee),(2,.func (Fn.func 70) #[] #[.pointer (some ⟨bn,0,none⟩),.pointer (some ⟨bu,0,none⟩)]),(3,.pointer (some ⟨wo.heap.size,0,none⟩)),(6,.pointer (some ⟨wo.heap.size+1,0,none⟩)),(7,.pointer (some ⟨wo.heap.size+2,0,none⟩)),(19,.slice A n1 c1),(20,.int .i64 (n1:Nat)),(21,.int .i64 (i:Nat)),(9,.string s),(10,.int .i64 ((me:Int) - 1))] ac→Code.wp Tryd.prog c_rn_look Q ac w := by
  intro a0 hf0
  conv=>arg 2; whnf
  obtain ⟨D',m',e',e9,hfl,hfm,_⟩ := id hf
  injection e9 with e1 e2 e3
  subst e1 e2 e3
  refine wp_loopR (fun g a' w'=>g≤me∧(∀i,g≤i→∀p,env[i]? = some p→p.1≠s)∧w'=w∧Frm 87 [(1,.slice De me ee),(2,.func (Fn.func 70) #[] #[.pointer (some ⟨bn,0,none⟩),.pointer (some ⟨bu,0,none⟩)]),(3,.pointer (some ⟨wo.heap.size,0,none⟩)),(6,.pointer (some ⟨wo.heap.size+1,0,none⟩)),(7,.pointer (some ⟨wo.heap.size+2,0,none⟩)),(19,.slice A n1 c1),(20,.int .i64 (n1:Nat)),(21,.int .i64 (i:Nat)),(9,.string s),(10,.int .i64 ((g:Int) - 1))] a') me ⟨Nat.le_refl _,fun i hi p hp=>by have := (List.getElem?_eq_some_iff.1 hp).1; omega,rfl,hf0⟩ ?_
  rintro g a1 w1 ⟨hgm,hno,rfl,h1⟩
  refine wp_seq ?_
  refine wp_seq ?_
  refine rn_r6_wp (fun a2 h2=>?_) a1 h1
  cases g with
  | zero =>
    refine wp_cond_false ((h2.eval (k := 29) (v := .bool (decide (0≤((0:Nat):Int) - 1))) (by simp)).trans (by rw [decide_eq_false (by omega)])) ?_
    refine wp_exit (hX a2 ?_)
    rw [lookE_none env s (fun i p hp=>hno i (Nat.zero_le _) p hp)]
    exact (h2.pick [0,1,2,3,4,5,6,7,8])
  | succ j =>
    refine wp_cond_true ((h2.eval (k := 29) (v := .bool (decide (0≤((j+1:Nat):Int) - 1))) (by simp)).trans (by rw [decide_eq_true (by omega)])) ?_
    refine wp_skip ?_
    show Code.wp _ _ _ a2 w1
    have hje:j<env.length := by omega
    have hi1:(((j+1:Nat):Int) - 1)=((j:Nat):Int) := by omega
    rw [hi1] at h2
    obtain ⟨b,o,cs,rfl,hSb,⟨rfl,_⟩,hc⟩ := Rep.Sl.at_ hf (List.getElem?_eq_getElem hje)
    have hc0:w1.cell? ⟨b,o+j * 2,none⟩=some (.string env[j].1) := hc 0 _ rfl
    have hc1:w1.cell? ⟨b,o+j * 2+1,none⟩=some (.string env[j].2) := hc 1 _ rfl
    refine wp_seq ?_
    refine wp_block ?_
    refine wp_seq ?_
    refine rn_r8_wp (by omega) hc0 (hS b hSb) (fun a4 h4=>?_) a2 (h2.pick [0,1,2,3,4,5,6,7,8,9])
    by_cases hx:env[j].1=s
    · refine wp_cond_true ((h4.eval (k := 38) (v := .bool (decide (env[j].1=s))) (by simp)).trans (by rw [decide_eq_true hx])) ?_
      refine wp_seq ?_
      refine rn_r9_wp (by omega) hc1 (hS b hSb) (fun a5 h5=>?_) a4 (h4.pick [0,1,2,3,4,5,6,7,8,9])
      refine wp_exit ?_
      repeat refine then_exit ?_
      refine inBlock_far (by decide) ?_
      repeat refine then_exit ?_
      refine hX a5 ?_
      rw [lookE_at env s j hje (fun i hi p hp=>hno i (by omega) p hp) hx]
      exact h5
    · refine wp_cond_false ((h4.eval (k := 38) (v := .bool (decide (env[j].1=s))) (by simp)).trans (by rw [decide_eq_false hx])) ?_
      refine wp_skip ?_
      show Code.wp _ _ _ a4 w1
      refine rn_r7_wp (by omega) (fun a5 h5=>?_) a4 (h4.pick [0,1,2,3,4,5,6,7,8,9])
      refine ⟨j,by omega,by omega,fun i hi p hp=>?_,rfl,h5⟩
      by_cases hij:j=i
      · subst hij
        rw [List.getElem?_eq_getElem hje] at hp
        obtain rfl := Option.some.inj hp
        exact hx
      · exact hno i (by omega) p hp
def c_rn_wl := sp 99 43 cF72
theorem rn_wl_wp {us:List ByteArray} (hS:∀k,SS k→k<wo.heap.size∧k≠bn) (hf:bindRep.Sl wo SS (.slice De me ee) env) (hu:strRep.Sl wo SS (.slice A n1 c1) us) (hul:us.length≤1000000) (hw0:ws=[]) (hk:w.heap[bn]? = some (.cells #[.int .i64 (k:Nat)] 3 (0,0))) (hs:CY (·=bn) wo w vw ws x vs kd nm A n1 c1 B n2 c2) 
    (hX:∀v' a' w',Frm 87 [(1,.slice De me ee),(2,.func (Fn.func 70) #[] #[.pointer (some ⟨bn,0,none⟩),.pointer (some ⟨bu,0,none⟩)]),(3,.pointer (some ⟨wo.heap.size,0,none⟩)),(6,.pointer (some ⟨wo.heap.size+1,0,none⟩)),(7,.pointer (some ⟨wo.heap.size+2,0,none⟩))] a'→CY (·=bn) wo w' v' (us.map (lookE env)) x vs kd nm A n1 c1 B n2 c2→w'.heap[bn]? = some (.cells #[.int .i64 (k:Nat)] 3 (0,0))→Q (.exit 0) a' w'):∀ac,Frm 87 [(1,.slice De me ee),(2,.func (Fn.func 70) #[] #[.pointer (some ⟨bn,0,none⟩),.pointer (some ⟨bu,0,none⟩)]),(3,.pointer (some ⟨wo.heap.size,0,none⟩)),(6,.pointer (some ⟨wo.heap.size+1,0,none⟩)),(7,.pointer (some ⟨wo.heap.size+2,0,none⟩)),(19,.slice A n1 c1),(20,.int .i64 (n1:Nat)),(21,.int .i64 (0:Nat))] ac→Code.wp Tryd.prog c_rn_wl Q ac w := by
  subst hw0
  intro a0 hf0
  conv=>arg 2; whnf
  obtain ⟨A',n',c',e9,hlen2,hmax,_⟩ := id hu
  injection e9 with e1 e2 e3
  subst e1 e2 e3
  obtain ⟨D',m',e',e9,hfl,hfm,_⟩ := id hf
  injection e9 with e1 e2 e3
  subst e1 e2 e3
  have hbw := hs.p bn rfl
  refine wp_loopR (fun g a' w'=>∃(i:Nat) (v':Value),i+g=us.length∧CY (·=bn) wo w' v' ((us.take i).map (lookE env)) x vs kd nm A n1 c1 B n2 c2∧w'.heap[bn]? = some (.cells #[.int .i64 (k:Nat)] 3 (0,0))∧Frm 87 [(1,.slice De me ee),(2,.func (Fn.func 70) #[] #[.pointer (some ⟨bn,0,none⟩),.pointer (some ⟨bu,0,none⟩)]),(3,.pointer (some ⟨wo.heap.size,0,none⟩)),(6,.pointer (some ⟨wo.heap.size+1,0,none⟩)),(7,.pointer (some ⟨wo.heap.size+2,0,none⟩)),(19,.slice A n1 c1),(20,.int .i64 (n1:Nat)),(21,.int .i64 (i:Nat))] a') us.length ⟨0,vw,by omega,by simpa using hs,hk,hf0⟩ ?_
  rintro g a1 w1 ⟨i,v1,hig,hs1,hk1,h1⟩
  refine wp_seq ?_
  refine rn_r3_wp (fun a2 h2=>?_) a1 h1
  refine wp_seq ?_
  by_cases hi:i<n1
  case neg =>
    refine wp_cond_false ((h2.eval (k := 22) (v := .bool (decide (i<n1))) (by simp)).trans (by rw [decide_eq_false hi])) ?_
    refine wp_exit (hX v1 a2 w1 (h2.pick [0,1,2,3,4]) ?_ hk1)
    rwa [List.take_of_length_le (by omega)] at hs1
  refine wp_cond_true ((h2.eval (k := 22) (v := .bool (decide (i<n1))) (by simp)).trans (by rw [decide_eq_true hi])) ?_
  refine wp_skip ?_
  show Code.wp _ _ _ a2 w1
  have hold := fun k hk=>hs1.b.block k (hS k hk).1 (hS k hk).2
  have hbs := hs1.b.size
  have hil:i<us.length := by omega
  obtain ⟨b,o,cs,rfl,hSb,⟨rfl,hsz⟩,hc⟩ := Rep.Sl.at_ hu (List.getElem?_eq_getElem hil)
  have hc0:w1.cell? ⟨b,o+i,none⟩=some (.string us[i]) := (cell_keep (hold b hSb) _).trans (by simpa [strRep] using hc 0 _ rfl)
  have hll:((us.take i).map (lookE env)).length≤1000000 := by
    rw [List.length_map,List.length_take]; omega
  refine wp_seq ?_
  refine wp_block ?_
  refine wp_seq ?_
  refine rn_r4_wp hi hc0 (by have := (hS b hSb).1; omega) (fun a3 h3=>?_) a2 (h2.pick [0,1,2,3,4,5,6,7])
  refine wp_seq ?_
  refine wp_seq ?_
  refine rn_r5_wp hfm (fun a4 h4=>?_) a3 h3
  refine wp_block ?_
  refine rn_look_wp (SS := SS) (env := env) (fun k hk=>by have := (hS k hk).1; omega) (hf.keep hold (fun _ h=>h)) (fun a5 h5=>?_) a4 h4
  refine inBlock_exit ?_
  show Code.wp _ _ _ a5 w1
  refine rn_r10_wp hll hs1 hbw hk1 (fun v6 a6 w6 h6 hs6 hk6=>?_) a5 h5
  show Code.wp _ _ _ a6 w6
  refine rn_r11_wp hi (by omega) (fun a7 h7=>?_) a6 h6
  refine ⟨g - 1,by omega,i+1,v6,by omega,?_,hk6,h7⟩
  rw [List.take_succ_eq_append_getElem hil,List.map_append]
  exact hs6
def c_rn_sl := sp 99 175 cF72
theorem rn_sl_wp {nmf:Nat→ByteArray} {cf:Nat→Nat} {w0:World} {ks:List Fm} (hw0:w0.heap.size≤wo.heap.size) (hS:∀k,SS k→k<w.heap.size∧k≠bn∧k≠wo.heap.size+2) (hf:bindRep.Sl w SS (.slice De me ee) env) (hk:fmRep.Sl w SS (.slice B n2 c2) ks) (hkl:ks.length≤1000) (hcn:w.heap[bn]? = some (.cells #[.int .i64 ((cf k):Nat)] 3 (0,0))) (hk0:Keeps (·=bn) w0 w) (hs:CY (·=bn) wo w vw ws x vs kd nm A n1 c1 B n2 c2) (ho:fmRep.Own 29 (wo.heap.size+3) w (fun b=>wo.heap.size+3≤b∧b<w.heap.size) vs []) (hv0:vs.ownBlock=none) (ih:∀(t:Fm) (cs:List Value) (W:World) (kk:Nat),t∈ks→kk+quN t≤k+quNs ks→fmRep.R W SS t cs→(∀k,SS k→k<W.heap.size∧k≠bn)→bindRep.Sl W SS (.slice De me ee) env→Keeps (·=bn) w0 W→W.heap[bn]? = some (.cells #[.int .i64 ((cf kk):Nat)] 3 (0,0))→Calls Tryd.prog 72 #[.agg cs.toArray,.slice De me ee,.func (Fn.func 70) #[] #[.pointer (some ⟨bn,0,none⟩),.pointer (some ⟨bu,0,none⟩)]] W fun e w'=>∃es:List Value,e=.returned (.agg es.toArray)∧fmRep.R w' (fun b=>W.heap.size≤b∧b<w'.heap.size) (renF nmf env t kk).1 es∧Keeps (·=bn) W w'∧w'.heap[bn]? = some (.cells #[.int .i64 ((cf (renF nmf env t kk).2):Nat)] 3 (0,0))) 
    (hX:∀v' a' w',Frm 87 [(1,.slice De me ee),(2,.func (Fn.func 70) #[] #[.pointer (some ⟨bn,0,none⟩),.pointer (some ⟨bu,0,none⟩)]),(3,.pointer (some ⟨wo.heap.size,0,none⟩)),(6,.pointer (some ⟨wo.heap.size+1,0,none⟩)),(7,.pointer (some ⟨wo.heap.size+2,0,none⟩))] a'→CY (·=bn) wo w' vw ws x v' kd nm A n1 c1 B n2 c2→fmRep.Own 29 (wo.heap.size+3) w' (fun b=>wo.heap.size+3≤b∧b<w'.heap.size) v' (renFs nmf env ks k).1→w'.heap[bn]? = some (.cells #[.int .i64 ((cf (renFs nmf env ks k).2):Nat)] 3 (0,0))→Q (.exit 4) a' w'):∀ac,Frm 87 [(1,.slice De me ee),(2,.func (Fn.func 70) #[] #[.pointer (some ⟨bn,0,none⟩),.pointer (some ⟨bu,0,none⟩)]),(3,.pointer (some ⟨wo.heap.size,0,none⟩)),(6,.pointer (some ⟨wo.heap.size+1,0,none⟩)),(7,.pointer (some ⟨wo.heap.size+2,0,none⟩)),(70,.slice B n2 c2),(71,.int .i64 (n2:Nat)),(72,.int .i64 (0:Nat))] ac→Code.wp Tryd.prog c_rn_sl Q ac w := by
  intro a0 hf0
  conv=>arg 2; whnf
  obtain ⟨B',n',c',e9,hlen,hmax,_⟩ := id hk
  injection e9 with e1 e2 e3
  subst e1 e2 e3
  have hbw := hs.p bn rfl
  refine wp_loopR (fun g a' w'=>∃(j:Nat) (v':Value),j+g=ks.length∧CY (·=bn) wo w' vw ws x v' kd nm A n1 c1 B n2 c2∧fmRep.Own 29 (wo.heap.size+3) w' (fun b=>wo.heap.size+3≤b∧b<w'.heap.size) v' (renFs nmf env (ks.take j) k).1∧w'.heap[bn]? = some (.cells #[.int .i64 ((cf (renFs nmf env (ks.take j) k).2):Nat)] 3 (0,0))∧(∀b,b<w.heap.size→b≠bn→b≠wo.heap.size+2→w'.heap[b]? = w.heap[b]?)∧(∀b,v'.ownBlock=some b→w.heap.size≤b)∧w.heap.size≤w'.heap.size∧Frm 87 [(1,.slice De me ee),(2,.func (Fn.func 70) #[] #[.pointer (some ⟨bn,0,none⟩),.pointer (some ⟨bu,0,none⟩)]),(3,.pointer (some ⟨wo.heap.size,0,none⟩)),(6,.pointer (some ⟨wo.heap.size+1,0,none⟩)),(7,.pointer (some ⟨wo.heap.size+2,0,none⟩)),(70,.slice B n2 c2),(71,.int .i64 (n2:Nat)),(72,.int .i64 (j:Nat))] a') ks.length ⟨0,vs,by omega,hs,by simpa [renFs] using ho,by simpa [renFs] using hcn,fun _ _ _ _=>rfl,fun b e=>by rw [hv0] at e; (cases e),Nat.le_refl _,hf0⟩ ?_
  rintro g a1 w1 ⟨j,v1,hjg,hs1,ho1,hk1,hfr,hvb,hsz1,h1⟩
  refine wp_seq ?_
  refine rn_r16_wp (fun a2 h2=>?_) a1 h1
  refine wp_seq ?_
  by_cases hj:j<n2
  case neg =>
    refine wp_cond_false ((h2.eval (k := 73) (v := .bool (decide (j<n2))) (by simp)).trans (by rw [decide_eq_false hj])) ?_
    refine wp_exit (hX v1 a2 w1 (h2.pick [0,1,2,3,4]) hs1 ?_ ?_)
    · rwa [List.take_of_length_le (by omega)] at ho1
    · rwa [List.take_of_length_le (by omega)] at hk1
  refine wp_cond_true ((h2.eval (k := 73) (v := .bool (decide (j<n2))) (by simp)).trans (by rw [decide_eq_true hj])) ?_
  refine wp_skip ?_
  show Code.wp _ _ _ a2 w1
  have hjl:j<ks.length := by omega
  obtain ⟨b,o,cs,rfl,hSb,hr,hc⟩ := Rep.Sl.at_ hk (List.getElem?_eq_getElem hjl)
  obtain ⟨Ae,n3,c3,Be,n4,c4,rfl,_,_,_,_⟩ := Fm.shape hr
  have hold:∀k,SS k→w1.heap[k]? = w.heap[k]? := fun k hk=>hfr k (hS k hk).1 (hS k hk).2.1 (hS k hk).2.2
  have hkb := hold b hSb
  have e0:w1.cell? ⟨b,o+j * 4,none⟩=_ := (cell_keep hkb _).trans (hc 0 _ rfl)
  have e1:w1.cell? ⟨b,o+j * 4+1,none⟩=_ := (cell_keep hkb _).trans (hc 1 _ rfl)
  have e2:w1.cell? ⟨b,o+j * 4+2,none⟩=_ := (cell_keep hkb _).trans (hc 2 _ rfl)
  have e3:w1.cell? ⟨b,o+j * 4+3,none⟩=_ := (cell_keep hkb _).trans (hc 3 _ rfl)
  have hSw:∀k,SS k→k<w1.heap.size := fun k hk=>by have := (hS k hk).1; omega
  have hqu := quNs_take ks j hjl
  have hcnt:(renFs nmf env (ks.take j) k).2=k+quNs (ks.take j) := renFs_count _ _ _ _
  refine wp_seq ?_
  refine wp_block ?_
  refine wp_seq ?_
  refine rn_r17_wp hj e0 e1 e2 e3 (by have := hSw b hSb; omega) (fun a3 h3=>?_) a2 (h2.pick [0,1,2,3,4,5,6,7])
  refine gen_last (fun wx=>wx.heap[w1.heap.size]? = some (.cells #[.int .i64 ks[j].lab.kind,.string ks[j].lab.nm,.slice Ae n3 c3,.slice Be n4 c4] 29 (0,0))∧Below w1.heap.size w1 wx) ⟨heap_alloc_new _ _,(Below.refl _ _).alloc (Nat.le_refl _) _⟩ ?_
  rintro wx ⟨hge,hbx⟩
  have hbxs := hbx.size
  have hsx := hs1.below hbx
  have hox:fmRep.Own 29 (wo.heap.size+3) wx (fun b=>wo.heap.size+3≤b∧b<wx.heap.size) v1 (renFs nmf env (ks.take j) k).1 := ho1.keep (fun b hb=>hbx.block b hb) (fun b hb=>hb.2) (fun b hb=>⟨hb.1,by omega⟩)
  have hcall:∀W:World,Below wx.heap.size wx W→Calls Tryd.prog 72 #[.agg #[.int .i64 ks[j].lab.kind,.string ks[j].lab.nm,.slice Ae n3 c3,.slice Be n4 c4],.slice De me ee,.func (Fn.func 70) #[] #[.pointer (some ⟨bn,0,none⟩),.pointer (some ⟨bu,0,none⟩)]] W fun e w'=>∃es:List Value,e=.returned (.agg es.toArray)∧fmRep.R w' (fun b=>wx.heap.size≤b∧b<w'.heap.size) (renF nmf env ks[j] (renFs nmf env (ks.take j) k).2).1 es∧Keeps (·=bn) wx w'∧w'.heap[bn]? = some (.cells #[.int .i64 ((cf (renF nmf env ks[j] (renFs nmf env (ks.take j) k).2).2):Nat)] 3 (0,0)) := by
    intro W hb
    have hbz := hb.size
    have holdW:∀k,SS k→W.heap[k]? = w.heap[k]? := fun k hk=>(hb.block k (by have := hSw k hk; omega)).trans ((hbx.block k (hSw k hk)).trans (hold k hk))
    have hkW:Keeps (·=bn) w0 W := by
      have hwo:Keeps (·=bn) wo W := (hs1.b.trans (Below.keeps hbx _)).trans (Below.keeps hb _)
      have h00 := hk0.size
      exact ⟨hwo.os.trans (hs.b.os.symm.trans hk0.os),hwo.tape.trans (hs.b.tape.symm.trans hk0.tape),hwo.output.trans (hs.b.output.symm.trans hk0.output),by omega,fun i h1 h2=>(hwo.block i (by omega) h2).trans ((hs.b.block i (by omega) h2).symm.trans (hk0.block i h1 h2))⟩
    refine (ih ks[j] _ W (renFs nmf env (ks.take j) k).2 (List.getElem_mem hjl) (by omega) (fmRep.keep hr holdW (fun _ h=>h)) (fun k hk=>⟨by have := hSw k hk; omega,(hS k hk).2.1⟩) (hf.keep holdW (fun _ h=>h)) hkW ((hb.block bn (by have := lt_heap hk1; omega)).trans ((hbx.block bn (lt_heap hk1)).trans hk1))).mono ?_
    rintro e w' ⟨es,he,hr9,hb9,hk9⟩
    exact ⟨es,he,Rep.mono hr9 (fun b hb=>⟨by omega,hb.2⟩),(Below.keeps hb _).trans hb9,hk9⟩
  show Code.wp _ _ _ a3 wx
  refine Code.wp_mono (Q := Exit.then (fun a' w'=>∃v':Value,Frm 87 [(1,.slice De me ee),(2,.func (Fn.func 70) #[] #[.pointer (some ⟨bn,0,none⟩),.pointer (some ⟨bu,0,none⟩)]),(3,.pointer (some ⟨wo.heap.size,0,none⟩)),(6,.pointer (some ⟨wo.heap.size+1,0,none⟩)),(7,.pointer (some ⟨wo.heap.size+2,0,none⟩)),(70,.slice (some ⟨b,o,none⟩) n2 c2),(71,.int .i64 (n2:Nat)),(72,.int .i64 (j:Nat))] a'∧CY (·=bn) wo w' vw ws x v' kd nm A n1 c1 (some ⟨b,o,none⟩) n2 c2∧fmRep.Own 29 (wo.heap.size+3) w' (fun b=>wo.heap.size+3≤b∧b<w'.heap.size) v' ((renFs nmf env (ks.take j) k).1++[(renF nmf env ks[j] (renFs nmf env (ks.take j) k).2).1])∧w'.heap[bn]? = some (.cells #[.int .i64 ((cf (renF nmf env ks[j] (renFs nmf env (ks.take j) k).2).2):Nat)] 3 (0,0))∧Fra (·=bn) (wo.heap.size+2) wx w' v1 v') (fun _ _ _=>False)) ?_ (rn_r18_wp hge hbw (by rw [renFs_len,List.length_take]; omega) hcall hsx hox (fun v' a' w' h' hs' ho' hk' hf'=>⟨v',h',hs',ho',hk',hf'⟩) a3 h3)
  intro ex a4 w4 hx
  cases ex with
  | normal =>
    obtain ⟨v4,h4,hs4,ho4,hk4,hf4⟩ := hx
    have hf4s := hf4.size
    show Code.wp _ _ _ a4 w4
    refine rn_r19_wp hj (by omega) (fun a5 h5=>?_) a4 h4
    have htk := renFs_take nmf env ks k j hjl
    have hcl1 := lt_heap hs1.c
    refine ⟨g - 1,by omega,j+1,v4,by omega,hs4,by rw [htk]; exact ho4,by rw [htk]; exact hk4,fun b h1 h2 h3=>(hf4.keep b (by omega) h2 h3 (fun e=>by have := hvb b e; omega)).trans ((hbx.block b (by omega)).trans (hfr b h1 h2 h3)),fun b e=>?_,by omega,h5⟩
    rcases hf4.at_ b e with e | e
    · exact hvb b e
    · omega
  | _=>exact hx.elim
def c_rn_p15 := sp 99 31 cF72
theorem renamed_any:∀(N:Nat) (t:Fm) (cs:List Value) (w w0:World) (S:Nat→Prop) (De:Option Addr) (me ee:Nat) (env:Env) (k bn bu KM:Nat) (nmf:Nat→ByteArray) (cf:Nat→Nat),t.nodes≤N→N≤1000→(allW t).length≤1000000→env.length+N≤10000→k+quN t≤KM→(∀j,j<KM→(nmf j).size≤maxLen)→(me=0→De=none)→me≤ee→fmRep.R w S t cs→(∀b,S b→b<w.heap.size∧b≠bn)→bindRep.Sl w S (.slice De me ee) env→Keeps (·=bn) w0 w→(∀(W:World) (k:Nat),k<KM→Keeps (·=bn) w0 W→W.heap[bn]? = some (.cells #[.int .i64 ((cf k):Nat)] 3 (0,0))→Calls Tryd.prog 70 #[.pointer (some ⟨bn,0,none⟩),.pointer (some ⟨bu,0,none⟩)] W fun e w'=>e=.returned (.string (nmf k))∧w'.heap[bn]? = some (.cells #[.int .i64 ((cf (k+1)):Nat)] 3 (0,0))∧Keeps (·=bn) W w')→w.heap[bn]? = some (.cells #[.int .i64 ((cf k):Nat)] 3 (0,0)) →
    Calls Tryd.prog 72 #[.agg cs.toArray,.slice De me ee,.func (Fn.func 70) #[] #[.pointer (some ⟨bn,0,none⟩),.pointer (some ⟨bu,0,none⟩)]] w (fun e w'=>∃es:List Value,e=.returned (.agg es.toArray)∧fmRep.R w' (fun b=>w.heap.size≤b∧b<w'.heap.size) (renF nmf env t k).1 es∧Keeps (·=bn) w w'∧w'.heap[bn]? = some (.cells #[.int .i64 ((cf (renF nmf env t k).2):Nat)] 3 (0,0))) := by
  intro N
  induction N with
  | zero=>intro t; have := t.nodes_pos; intros; omega
  | succ N ih =>
  intro t cs w w0 S De me ee env k bn bu KM nmf cf hN hN1 hal hen hkq hnz hDe hmee ht hS hf hk0 hnx hcn
  obtain ⟨⟨kd,nm,us⟩,ks⟩ := t
  obtain ⟨u,v9,rfl,hnm,hw,hl⟩ := Fm.open_ ht
  simp only at hw hnm
  obtain ⟨A,n1,c1,rfl,e1,hm1,_⟩ := id hw
  obtain ⟨B,n2,c2,rfl,e2,hm2,_⟩ := id hl
  clear ht
  have hbn := lt_heap hcn
  have hk0s := hk0.size
  have hez := bind_sizes hf
  have hmf:env.length=me := by
    obtain ⟨_,_,_,e9,h9,_⟩ := id hf
    injection e9 with _ e9 _
    omega
  have hkn := Tree.nodess_len ks
  simp only [Tree.nodes] at hN
  simp only [allW,List.length_append] at hal
  go_enter Tryd.func72,Tryd.ntmps72
  refine wp_seq ?_
  refine rn_r0_wp (fun a0 h0=>?_) _ (by exact fR rfl rfl rfl)
  refine gen_last (fun wx=>wx.heap[w.heap.size]? = some (.cells #[.int .i64 kd,.string nm,.slice A n1 c1,.slice B n2 c2] 29 (0,0))∧wx.heap[w.heap.size+1]? = some (.cells #[.int .i64 0,.string ⟨#[]⟩,.slice none 0 0,.slice none 0 0] 29 (0,0))∧wx.heap.size=w.heap.size+2∧Below w.heap.size w wx) ⟨heap_old (by simp) (heap_at (by simp)),heap_at (by simp),by simp,((Below.refl _ _).alloc (Nat.le_refl _) _).alloc (by simp) _⟩ ?_
  rintro wx ⟨ha,hz,hsz,hb⟩
  refine wp_seq ?_
  refine rn_r1_wp ha (fun a1 h1=>?_) a0 h0
  rw [hsz] at h1
  refine gen_last (fun wy=>CY (·=bn) w wy (.slice none 0 0) [] nm (.slice none 0 0) kd nm A n1 c1 B n2 c2∧wy.heap[bn]? = some (.cells #[.int .i64 ((cf k):Nat)] 3 (0,0))) ⟨CY.start ha hz hsz hb (fun k e=>by have e:k=bn := e; omega),heap_old (by rw [hsz]; omega) ((hb.block bn hbn).trans hcn)⟩ ?_
  rintro wy ⟨hs,hcy⟩
  have p15:∀(a5:Act) (w5:World) (S':Nat→Prop) (De:Option Addr) (me ee:Nat) (env':Env) (k':Nat) (x:ByteArray) (vw:Value),x.size≤maxLen→(renF nmf env (.mk ⟨kd,nm,us⟩ ks) k=(.mk ⟨kd,x,us.map (lookE env)⟩ (renFs nmf env' ks k').1,(renFs nmf env' ks k').2))→env'.length+N≤10000→k'+quNs ks≤KM→(me=0→De=none)→me≤ee→(∀b,S b→S' b)→(∀b,S' b→b<w5.heap.size∧b≠bn∧b≠w.heap.size+2)→bindRep.Sl w5 S' (.slice De me ee) env'→w5.heap[bn]? = some (.cells #[.int .i64 ((cf k'):Nat)] 3 (0,0))→CY (·=bn) w w5 vw (us.map (lookE env)) x (.slice none 0 0) kd nm A n1 c1 B n2 c2→Frm 87 [(1,.slice De me ee),(2,.func (Fn.func 70) #[] #[.pointer (some ⟨bn,0,none⟩),.pointer (some ⟨bu,0,none⟩)]),(3,.pointer (some ⟨w.heap.size,0,none⟩)),(6,.pointer (some ⟨w.heap.size+1,0,none⟩)),(7,.pointer (some ⟨w.heap.size+2,0,none⟩))] a5→Code.wp Tryd.prog c_rn_p15 (bodyPost Tryd.prog Tryd.f72 (fun e w'=>∃es:List Value,e=.returned (.agg es.toArray)∧fmRep.R w' (fun b=>w.heap.size≤b∧b<w'.heap.size) (renF nmf env (.mk ⟨kd,nm,us⟩ ks) k).1 es∧Keeps (·=bn) w w'∧w'.heap[bn]? = some (.cells #[.int .i64 ((cf (renF nmf env (.mk ⟨kd,nm,us⟩ ks) k).2):Nat)] 3 (0,0)))) a5 w5 := by
    intro a5 w5 S' De me ee env' k' x vw hxs ex hen' hkq' hDe' hme' hsub hS5 hf5 hk5 hs5 h5
    conv=>arg 2; whnf
    refine wp_seq ?_
    refine wp_seq ?_
    refine rn_r15_wp hs5 (fun a6 h6=>?_) a5 h5
    refine wp_block ?_
    refine rn_sl_wp (SS := S') (env := env') (k := k') (w0 := w0) (nmf := nmf) (cf := cf) hk0s hS5 hf5 (hl.keep (fun b hb=>hs5.b.block b (hS b hb).1 (hS b hb).2) hsub) (by omega) hk5 (hk0.trans hs5.b) hs5 Rep.Own.nil rfl (fun t cs W kk htl hkk hr hS9 hf9 hk9 hc9=>?_) (fun v7 a7 w7 h7 hs7 ho7 hk7=>?_) a6 h6
    · obtain ⟨j,hj,rfl⟩ := List.getElem_of_mem htl
      have := Tree.nodes_at ks j hj
      have := allWs_at_le ks j hj
      exact ih ks[j] cs W w0 S' De me ee env' kk bn bu KM nmf cf (by omega) (by omega) (by omega) hen' (by omega) hnz hDe' hme' hr hS9 hf9 hk9 hnx hc9
    · refine inBlock_exit ?_
      show Code.wp _ _ _ a7 w7
      obtain ⟨Aw,cw,rfl⟩:∃A c,vw=.slice A (us.map (lookE env)).length c := by
        rcases hs7.rw.2 with ⟨e,e0⟩ | ⟨g,cap,cur,e,_⟩
        · exact ⟨none,0,by rw [e,e0]⟩
        · exact ⟨_,_,e⟩
      obtain ⟨Av,cv,rfl⟩ := ho7.len
      have hbs := hs7.b.size
      have hzl := lt_heap hs7.z
      refine wp_seq ?_
      refine rn_r20_wp hs7.c hs7.z (fun a8 w8 h8 hz8 hk8=>?_) a7 (h7.pick [3,4])
      refine wp_ret ?_
      refine rn_ret_wp hz8 ⟨rfl,rfl,rfl,rfl⟩ ⟨_,rfl,?_,?_,?_⟩ a8 h8
      · have h9 := hs7.fin ho7 hxs (fun s hs=>?_) (by rw [List.length_map]; omega) (by rw [renFs_len]; omega) hk8
        · rw [ex]
          exact h9
        · obtain ⟨y,hy,rfl⟩ := List.mem_map.1 hs
          exact lookE_size y env y (fun p hp=>(hez p hp).2) (sl_sizes hw y hy)
      · exact hs7.b.step hk8 (fun i e=>Or.inr (by have e:i=w.heap.size+1 := e; omega))
      · rw [ex]
        exact (hk8.block bn (by omega) (by omega)).trans hk7
  refine wp_seq ?_
  refine wp_seq ?_
  refine rn_r2_wp hs (fun a2 h2=>?_) a1 h1
  refine wp_block ?_
  refine rn_wl_wp (SS := S) (env := env) hS hf hw (by omega) rfl hcy hs (fun v3 a3 w3 h3 hs3 hk3=>?_) a2 h2
  refine inBlock_exit ?_
  show Code.wp _ _ _ a3 w3
  refine wp_seq ?_
  refine wp_seq ?_
  refine rn_r12_wp hs3 (fun a4 w4 h4 hs4 hb4=>?_) a3 h3
  have hk4 := (hb4.block bn (lt_heap hk3)).trans hk3
  have hq:isQu kd=true ↔ kd=8∨kd=9 := by unfold isQu; simp
  have hbs4 := hs4.b.size
  have hcl4 := lt_heap hs4.c
  have hold4 := fun b hb=>hs4.b.block b (hS b hb).1 (hS b hb).2
  have hf4 := hf.keep hold4 (fun _ h=>h)
  have hS4:∀b,S b→b<w4.heap.size∧b≠bn∧b≠w.heap.size+2 := fun b hb=>by have := hS b hb; exact ⟨by omega,this.2,by omega⟩
  cases hk:isQu kd
  · rw [hk] at h4
    refine wp_cond_false ((h4.eval (k := 52) (v := .bool false) (by simp)).trans (by rw [show false=false from rfl])) ?_
    refine wp_skip ?_
    have hnq:¬ isQ kd := fun h=>by rw [hq.2 h] at hk; cases hk
    refine p15 a4 w4 S De me ee env k nm v3 hnm (renF_n (a := ⟨kd,nm,us⟩) hnq) (by omega) ?_ hDe hmee (fun _ h=>h) hS4 hf4 hk4 hs4 (h4.pick [0,1,2,3,4])
    simp only [quN] at hkq
    omega
  · rw [hk] at h4
    refine wp_cond_true ((h4.eval (k := 52) (v := .bool true) (by simp)).trans (by rw [show true=true from rfl])) ?_
    have hyq:isQ kd := hq.1 hk
    have hkq1:k+1+quNs ks≤KM := by
      simp only [quN] at hkq
      rw [if_pos hyq] at hkq
      omega
    refine wp_seq ?_
    refine rn_r13_wp hbn (hnx w4 k (by omega) (hk0.trans hs4.b) hk4) hs4 (fun a6 w6 h6 hs6 hk6=>?_) a4 (h4.pick [0,1,2,3,4])
    have hbs6 := hs6.b.size
    have hcl6 := lt_heap hs6.c
    have hold6 := fun b hb=>hs6.b.block b (hS b hb).1 (hS b hb).2
    have hf6 := hf.keep hold6 (fun _ h=>h)
    have hgz:(nmf k).size≤maxLen := hnz k (by omega)
    have fin:∀(a7:Act) (w7:World) (u7:Value),w7.ownsRow (w6.heap.size+1) 88 2 u7 (me+1) (bindVals env++[.string nm,.string (nmf k)])→Below w6.heap.size w6 w7→Frm 87 [(1,u7),(2,.func (Fn.func 70) #[] #[.pointer (some ⟨bn,0,none⟩),.pointer (some ⟨bu,0,none⟩)]),(3,.pointer (some ⟨w.heap.size,0,none⟩)),(6,.pointer (some ⟨w.heap.size+1,0,none⟩)),(7,.pointer (some ⟨w.heap.size+2,0,none⟩))] a7→Code.wp Tryd.prog c_rn_p15 (bodyPost Tryd.prog Tryd.f72 (fun e w'=>∃es:List Value,e=.returned (.agg es.toArray)∧fmRep.R w' (fun b=>w.heap.size≤b∧b<w'.heap.size) (renF nmf env (.mk ⟨kd,nm,us⟩ ks) k).1 es∧Keeps (·=bn) w w'∧w'.heap[bn]? = some (.cells #[.int .i64 ((cf (renF nmf env (.mk ⟨kd,nm,us⟩ ks) k).2):Nat)] 3 (0,0)))) a7 w7 := by
      intro a7 w7 u7 g1 g3 h7
      have hs7 := hs6.below g3
      have g3s := g3.size
      have hl1:(env++[(nm,nmf k)]).length=me+1 := by simp [hmf]
      have hbv:bindVals (env++[(nm,nmf k)])=bindVals env++[.string nm,.string (nmf k)] := by simp [bindVals]
      have r1:w7.ownsRow (w6.heap.size+1) 88 2 u7 (env++[(nm,nmf k)]).length (bindVals (env++[(nm,nmf k)])) := by rw [hl1,hbv]; exact g1
      have hez2:∀p∈env++[(nm,nmf k)],p.1.size≤maxLen∧p.2.size≤maxLen := by
        intro p hp
        rcases List.mem_append.1 hp with hp | hp
        · exact hez p hp
        · simp at hp; subst hp; exact ⟨hnm,hgz⟩
      have q1 := bind_of_row (S := fun b=>S b∨(w6.heap.size≤b∧b<w7.heap.size)) r1 hez2 (by rw [hl1]; unfold maxLen; omega) (fun b h1 h2=>Or.inr ⟨by omega,h2⟩)
      obtain ⟨A1,d1,rfl,hd1⟩:∃A d,u7=.slice A (me+1) d∧me+1≤d := by
        rcases g1.2 with ⟨_,e0⟩ | ⟨g,cap,cur,e,_,_,h2,_⟩
        · omega
        · exact ⟨_,_,e,h2⟩
      refine p15 a7 w7 (fun b=>S b∨(w6.heap.size≤b∧b<w7.heap.size)) A1 (me+1) d1 (env++[(nm,nmf k)]) (k+1) (nmf k) v3 hgz (renF_q (a := ⟨kd,nm,us⟩) hyq) (by simp; omega) hkq1 (by omega) hd1 (fun b h=>Or.inl h) (fun b hb=>?_) q1 ((g3.block bn (by omega)).trans hk6) hs7 h7
      rcases hb with hb | hb
      · have := hS b hb; exact ⟨by omega,this.2,by omega⟩
      · exact ⟨by omega,by omega,by omega⟩
    rcases bind_cells hf6 hDe with ⟨rfl,rfl,rfl⟩ | ⟨b,o,rfl,hSb,hm0,hcell⟩
    · refine Code.wp_mono (Q := Exit.then (fun a' w'=>∃u7:Value,Frm 87 [(1,u7),(2,.func (Fn.func 70) #[] #[.pointer (some ⟨bn,0,none⟩),.pointer (some ⟨bu,0,none⟩)]),(3,.pointer (some ⟨w.heap.size,0,none⟩)),(6,.pointer (some ⟨w.heap.size+1,0,none⟩)),(7,.pointer (some ⟨w.heap.size+2,0,none⟩))] a'∧w'.ownsRow (w6.heap.size+1) 88 2 u7 (0+1) ([]++[.string nm,.string (nmf k)])∧Below w6.heap.size w6 w') (fun _ _ _=>False)) ?_ (rn_r14n_wp hs6 (fun v' a' w' h' g1 g3=>⟨v',h',g1,g3⟩) a6 h6)
      intro ex a7 w7 hx
      cases ex with
      | normal =>
        obtain ⟨u7,h7,g1,g3⟩ := hx
        exact fin a7 w7 u7 g1 g3 h7
      | _=>exact hx.elim
    · refine Code.wp_mono (Q := Exit.then (fun a' w'=>∃u7:Value,Frm 87 [(1,u7),(2,.func (Fn.func 70) #[] #[.pointer (some ⟨bn,0,none⟩),.pointer (some ⟨bu,0,none⟩)]),(3,.pointer (some ⟨w.heap.size,0,none⟩)),(6,.pointer (some ⟨w.heap.size+1,0,none⟩)),(7,.pointer (some ⟨w.heap.size+2,0,none⟩))] a'∧w'.ownsRow (w6.heap.size+1) 88 2 u7 (me+1) (bindVals env++[.string nm,.string (nmf k)])∧Below w6.heap.size w6 w') (fun _ _ _=>False)) ?_ (rn_r14_wp hmf (by omega) hmee (by have := hS b hSb; omega) hcell hs6 (fun v' a' w' h' g1 g3=>⟨v',h',g1,g3⟩) a6 h6)
      intro ex a7 w7 hx
      cases ex with
      | normal =>
        obtain ⟨u7,h7,g1,g3⟩ := hx
        exact fin a7 w7 u7 g1 g3 h7
      | _=>exact hx.elim
end

end Go.Proofs.YthfokmjpbnfihaaDoor
