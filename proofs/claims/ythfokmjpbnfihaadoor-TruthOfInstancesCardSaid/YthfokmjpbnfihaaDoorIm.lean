/- Lemmas. -/
import Derived.Test.YthfokmjpbnfihaaDoorIk
import Derived.Test.YthfokmjpbnfihaaDoorIc
import Derived.Test.YthfokmjpbnfihaaDoorIg
namespace Go.Proofs.YthfokmjpbnfihaaDoor
open Go Go.RowKit
set_option linter.unusedSimpArgs false
set_option linter.unusedVariables false
noncomputable section
set_option maxRecDepth 100000
set_option maxHeartbeats 4000000

theorem bc_any (l:List (Con)) (f:Con→Int) (A:Option Addr) (n c:Nat) (tv:Value) (w:World) (S:Nat→Prop) (hl:conRep.Sl w S (.slice A n c) l) (hS:∀b,S b→b<w.heap.size) (hn:l.length≤500000) (hmono:∀(i j:Nat) (hij:i≤j) (hj:j<l.length),f l[j]<0→f (l[i]'(by omega))<0) (hc:∀(W:World) (j:Nat) (h:j<l.length) (es:List Value),conRep.R W S l[j] es→(∀b,S b→b<W.heap.size)→Below w.heap.size w W→Calls Tryd.prog 59 #[.agg es.toArray,tv] W fun e w'=>e=.returned (.int .i64 (f l[j]))∧Below W.heap.size W w') :
    Calls Tryd.prog 58 #[.slice A n c,tv,.func (Fn.func 59) #[] #[]] w fun e w'=>e=.returned (.tuple #[.int .i64 (cutN f l:Nat),.bool (hitN f l)])∧Below w.heap.size w w' := by
  obtain ⟨A',n',c',e9,hln,hmx,_⟩ := id hl
  injection e9 with e1 e2 e3
  subst e1 e2 e3
  go_enter Tryd.func58,Tryd.ntmps58
  refine wp_seq ?_
  refine bc_r0_wp (fun a0 h0=>?_) _ (by exact fR rfl rfl rfl)
  refine gen_last (fun wx=>Below w.heap.size w wx) (Below.refl _ _) ?_
  intro wx hb0
  refine wp_seq ?_
  refine bc_r1_wp (fun a1 h1=>?_) a0 h0
  refine wp_seq ?_
  refine bc_r2_wp (fun a2 h2=>?_) a1 h1
  refine wp_seq ?_
  refine wp_block ?_
  refine wp_loopR (fun g a' w'=>∃i j:Nat,g=j - i∧i≤j∧j≤l.length∧(∀k (h:k<l.length),k<i→f l[k]<0)∧(∀k (h:k<l.length),j≤k→¬ f l[k]<0)∧Below w.heap.size w w'∧Frm 49 [(0,.slice A n c),(1,tv),(2,.func (Fn.func 59) #[] #[]),(8,.int .i64 (n:Nat)),(9,.int .i64 (i:Nat)),(10,.int .i64 (j:Nat))] a') l.length ⟨0,l.length,rfl,Nat.zero_le _,Nat.le_refl _,fun _ _ h=>absurd h (Nat.not_lt_zero _),fun k hk h=>absurd hk (by omega),hb0,by rw [hln]; exact h2⟩ ?_
  rintro g a1 w1 ⟨i,j,rfl,hijle,hjn,hlo,hhi,hb01,h1⟩
  have hold := fun k hk=>hb01.block k (hS k hk)
  have hbs := hb01.size
  refine wp_seq ?_
  refine wp_seq ?_
  refine bc_r3_wp (fun a2 h2=>?_) a1 h1
  by_cases hij:i<j
  case neg =>
    refine wp_cond_false ((h2.eval (k := 17) (v := .bool (decide (i<j))) (by simp)).trans (by rw [decide_eq_false hij])) ?_
    refine wp_exit ?_
    repeat refine then_exit ?_
    refine inBlock_exit ?_
    show Code.wp _ _ _ a2 w1
    have hji:j=i := by omega
    subst hji
    have hcut:cutN f l=j := cutN_eq f l j (by omega) (fun k hk hkj=>hlo k hk hkj) (fun h=>hhi j h (Nat.le_refl _))
    refine wp_seq ?_
    by_cases hin:j<l.length
    · obtain ⟨b,o,cs,rfl,hSb,hr,hcc⟩ := Rep.Sl.at_ hl (List.getElem?_eq_getElem hin)
      obtain ⟨rfl,hpz⟩ := id hr
      have e0:w1.cell? ⟨b,o+j * 2,none⟩=_ := (cell_keep (hold b hSb) _).trans (by simpa [conRep] using hcc 0 _ rfl)
      have e1:w1.cell? ⟨b,o+j * 2+1,none⟩=_ := (cell_keep (hold b hSb) _).trans (by simpa [conRep] using hcc 1 _ rfl)
      have hcj := fun (W:World) (hb:Below w1.heap.size w1 W)=>(hc W j hin _ (conRep.keep hr (fun k hk=>(hb.block k (by have := hS k hk; omega)).trans (hold k hk)) (fun _ h=>h)) (fun k hk=>by have := hS k hk; have := hb.size; omega) (hb01.trans (hb.mono (by omega)))).mono (R' := fun e w'=>e=.returned (.int .i64 (f (l[j]'hin)))∧Below w1.heap.size w1 w') (fun e w' h=>⟨h.1,hb.trans (h.2.mono hb.size)⟩)
      refine bc_r8_wp (by omega) e0 e1 (by have := hS b hSb; omega) hcj (fun a3 w3 h3 hb3=>?_) a2 (h2.pick [0,1,2,3,4,5])
      refine wp_ret ?_
      refine bc_ret_wp ⟨?_,hb01.trans (hb3.mono hbs)⟩ a3 h3
      rw [hitN_at f l (by omega)]
      simp only [hcut]
    · refine bc_r8n_wp (by omega) (fun a3 h3=>?_) a2 (h2.pick [0,1,2,3,4,5])
      refine wp_ret ?_
      refine bc_ret_wp ⟨?_,hb01⟩ a3 h3
      rw [hitN_end f l (by omega),hcut]
  refine wp_cond_true ((h2.eval (k := 17) (v := .bool (decide (i<j))) (by simp)).trans (by rw [decide_eq_true hij])) ?_
  refine wp_skip ?_
  show Code.wp _ _ _ a2 w1
  have hm:(i+j) / 2<l.length := by omega
  obtain ⟨b,o,cs,rfl,hSb,hr,hcc⟩ := Rep.Sl.at_ hl (List.getElem?_eq_getElem hm)
  obtain ⟨rfl,hpz⟩ := id hr
  have e0:w1.cell? ⟨b,o+((i+j) / 2) * 2,none⟩=_ := (cell_keep (hold b hSb) _).trans (by simpa [conRep] using hcc 0 _ rfl)
  have e1:w1.cell? ⟨b,o+((i+j) / 2) * 2+1,none⟩=_ := (cell_keep (hold b hSb) _).trans (by simpa [conRep] using hcc 1 _ rfl)
  have hcj := fun (W:World) (hb:Below w1.heap.size w1 W)=>(hc W ((i+j) / 2) hm _ (conRep.keep hr (fun k hk=>(hb.block k (by have := hS k hk; omega)).trans (hold k hk)) (fun _ h=>h)) (fun k hk=>by have := hS k hk; have := hb.size; omega) (hb01.trans (hb.mono (by omega)))).mono (R' := fun e w'=>e=.returned (.int .i64 (f (l[((i+j) / 2)]'hm)))∧Below w1.heap.size w1 w') (fun e w' h=>⟨h.1,hb.trans (h.2.mono hb.size)⟩)
  refine wp_block ?_
  refine wp_seq ?_
  refine bc_r4_wp (by omega) (by omega) (fun a3 h3=>?_) a2 (h2.pick [0,1,2,3,4,5])
  refine wp_seq ?_
  refine bc_r5_wp (h := (i+j) / 2) (by omega) e0 e1 (by have := hS b hSb; omega) hcj (fun a4 w4 h4 hb4=>?_) a3 h3
  have hb14 := hb01.trans (hb4.mono hbs)
  by_cases hz:f l[(i+j) / 2]<0
  · refine wp_cond_true ((h4.eval (k := 31) (v := .bool (decide (f l[(i+j) / 2]<0))) (by simp)).trans (by rw [decide_eq_true hz])) ?_
    refine bc_r6_wp (h := (i+j) / 2) (by omega) (fun a5 h5=>?_) a4 (h4.pick [0,1,2,3,4,5,6])
    refine ⟨j - ((i+j) / 2+1),by omega,(i+j) / 2+1,j,rfl,by omega,by omega,fun k hk hki=>?_,hhi,hb14,h5⟩
    exact hmono k ((i+j) / 2) (by omega) (by omega) hz
  · refine wp_cond_false ((h4.eval (k := 31) (v := .bool (decide (f l[(i+j) / 2]<0))) (by simp)).trans (by rw [decide_eq_false hz])) ?_
    refine bc_r7_wp (h := (i+j) / 2) (fun a5 h5=>?_) a4 (h4.pick [0,1,2,3,4,5,6])
    refine ⟨(i+j) / 2 - i,by omega,i,(i+j) / 2,rfl,by omega,by omega,hlo,fun k hk hki=>?_,hb14,h5⟩
    exact fun hz2=>hz (hmono _ _ hki hk hz2)
end

end Go.Proofs.YthfokmjpbnfihaaDoor
