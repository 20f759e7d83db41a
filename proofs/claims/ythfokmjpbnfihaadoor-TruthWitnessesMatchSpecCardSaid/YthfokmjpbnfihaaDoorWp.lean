/- Lemmas. -/
import Derived.Test.YthfokmjpbnfihaaDoorWo
import Derived.Test.YthfokmjpbnfihaaDoorWh
namespace Go.Proofs.YthfokmjpbnfihaaDoor
open Go Go.RowKit
set_option linter.unusedSimpArgs false
set_option linter.unusedVariables false
noncomputable section
set_option maxRecDepth 100000
set_option maxHeartbeats 4000000

theorem br_any (l:List (List Int)) (f:List Int→Int) (A:Option Addr) (n c:Nat) (tv:Value) (w:World) (S:Nat→Prop) (hl:intsRep.Sl w S (.slice A n c) l) (hS:∀b,S b→b<w.heap.size) (hn:l.length≤500000) (hmono:∀(i j:Nat) (hij:i≤j) (hj:j<l.length),f l[j]<0→f (l[i]'(by omega))<0) (hc:∀(W:World) (j:Nat) (h:j<l.length) (es:List Value),intsRep.R W S l[j] es→(∀b,S b→b<W.heap.size)→Below w.heap.size w W→Calls Tryd.prog 35 #[es.headD undef,tv] W fun e w'=>e=.returned (.int .i64 (f l[j]))∧Below W.heap.size W w') :
    Calls Tryd.prog 44 #[.slice A n c,tv,.func (Fn.func 35) #[] #[]] w fun e w'=>e=.returned (.tuple #[.int .i64 (cutN f l:Nat),.bool (hitN f l)])∧Below w.heap.size w w' := by
  obtain ⟨A',n',c',e9,hln,hmx,_⟩ := id hl
  injection e9 with e1 e2 e3
  subst e1 e2 e3
  go_enter Tryd.func44,Tryd.ntmps44
  refine wp_seq ?_
  refine br_r0_wp (fun a0 h0=>?_) _ (by exact fR rfl rfl rfl)
  refine gen_last (fun wx=>Below w.heap.size w wx) (Below.refl _ _) ?_
  intro wx hb0
  refine wp_seq ?_
  refine br_r1_wp (fun a1 h1=>?_) a0 h0
  refine wp_seq ?_
  refine br_r2_wp (fun a2 h2=>?_) a1 h1
  refine wp_seq ?_
  refine wp_block ?_
  refine wp_loopR (fun g a' w'=>∃i j:Nat,g=j - i∧i≤j∧j≤l.length∧(∀k (h:k<l.length),k<i→f l[k]<0)∧(∀k (h:k<l.length),j≤k→¬ f l[k]<0)∧Below w.heap.size w w'∧Frm 49 [(0,.slice A n c),(1,tv),(2,.func (Fn.func 35) #[] #[]),(8,.int .i64 (n:Nat)),(9,.int .i64 (i:Nat)),(10,.int .i64 (j:Nat))] a') l.length ⟨0,l.length,rfl,Nat.zero_le _,Nat.le_refl _,fun _ _ h=>absurd h (Nat.not_lt_zero _),fun k hk h=>absurd hk (by omega),hb0,by rw [hln]; exact h2⟩ ?_
  rintro g a1 w1 ⟨i,j,rfl,hijle,hjn,hlo,hhi,hb01,h1⟩
  have hold := fun k hk=>hb01.block k (hS k hk)
  have hbs := hb01.size
  refine wp_seq ?_
  refine wp_seq ?_
  refine br_r3_wp (fun a2 h2=>?_) a1 h1
  by_cases hij:i<j
  case neg =>
    refine wp_cond_false ((h2.eval (k := 17) (v := .bool (decide (i<j))) (by simp)).trans (by rw [decide_eq_false hij])) ?_
    refine wp_exit ?_
    repeat refine then_exit ?_
    refine inBlock_exit ?_
    show Code.wp _ _ _ a2 w1
    have hji:j=i := by omega
    subst hji
    have hcut:cutN f l=j := cutN_eq f l j (by omega) (fun k hk hkj=>hlo k hk hkj) (fun h=>hhi j h (Nat.le_refl _))
    refine wp_seq ?_
    by_cases hin:j<l.length
    · obtain ⟨b,o,cs,rfl,hSb,hr,hcc⟩ := Rep.Sl.at_ hl (List.getElem?_eq_getElem hin)
      obtain ⟨v9,rfl,hv9⟩ := id hr; obtain ⟨B,d,rfl,hm9⟩ := hv9.shape
      have e0:w1.cell? ⟨b,o+j,none⟩=_ := (cell_keep (hold b hSb) _).trans (by simpa [intsRep] using hcc 0 _ rfl)
      have hcj := fun (W:World) (hb:Below w1.heap.size w1 W)=>(hc W j hin _ (intsRep.keep hr (fun k hk=>(hb.block k (by have := hS k hk; omega)).trans (hold k hk)) (fun _ h=>h)) (fun k hk=>by have := hS k hk; have := hb.size; omega) (hb01.trans (hb.mono (by omega)))).mono (R' := fun e w'=>e=.returned (.int .i64 (f (l[j]'hin)))∧Below w1.heap.size w1 w') (fun e w' h=>⟨h.1,hb.trans (h.2.mono hb.size)⟩)
      refine br_r8_wp (by omega) e0 (by have := hS b hSb; omega) hcj (fun a3 w3 h3 hb3=>?_) a2 (h2.pick [0,1,2,3,4,5])
      refine wp_ret ?_
      refine br_ret_wp ⟨?_,hb01.trans (hb3.mono hbs)⟩ a3 h3
      rw [hitN_at f l (by omega)]
      simp only [hcut]
    · refine br_r8n_wp (by omega) (fun a3 h3=>?_) a2 (h2.pick [0,1,2,3,4,5])
      refine wp_ret ?_
      refine br_ret_wp ⟨?_,hb01⟩ a3 h3
      rw [hitN_end f l (by omega),hcut]
  refine wp_cond_true ((h2.eval (k := 17) (v := .bool (decide (i<j))) (by simp)).trans (by rw [decide_eq_true hij])) ?_
  refine wp_skip ?_
  show Code.wp _ _ _ a2 w1
  have hm:(i+j) / 2<l.length := by omega
  obtain ⟨b,o,cs,rfl,hSb,hr,hcc⟩ := Rep.Sl.at_ hl (List.getElem?_eq_getElem hm)
  obtain ⟨v9,rfl,hv9⟩ := id hr; obtain ⟨B,d,rfl,hm9⟩ := hv9.shape
  have e0:w1.cell? ⟨b,o+((i+j) / 2),none⟩=_ := (cell_keep (hold b hSb) _).trans (by simpa [intsRep] using hcc 0 _ rfl)
  have hcj := fun (W:World) (hb:Below w1.heap.size w1 W)=>(hc W ((i+j) / 2) hm _ (intsRep.keep hr (fun k hk=>(hb.block k (by have := hS k hk; omega)).trans (hold k hk)) (fun _ h=>h)) (fun k hk=>by have := hS k hk; have := hb.size; omega) (hb01.trans (hb.mono (by omega)))).mono (R' := fun e w'=>e=.returned (.int .i64 (f (l[((i+j) / 2)]'hm)))∧Below w1.heap.size w1 w') (fun e w' h=>⟨h.1,hb.trans (h.2.mono hb.size)⟩)
  refine wp_block ?_
  refine wp_seq ?_
  refine br_r4_wp (by omega) (by omega) (fun a3 h3=>?_) a2 (h2.pick [0,1,2,3,4,5])
  refine wp_seq ?_
  refine br_r5_wp (h := (i+j) / 2) (by omega) e0 (by have := hS b hSb; omega) hcj (fun a4 w4 h4 hb4=>?_) a3 h3
  have hb14 := hb01.trans (hb4.mono hbs)
  by_cases hz:f l[(i+j) / 2]<0
  · refine wp_cond_true ((h4.eval (k := 31) (v := .bool (decide (f l[(i+j) / 2]<0))) (by simp)).trans (by rw [decide_eq_true hz])) ?_
    refine br_r6_wp (h := (i+j) / 2) (by omega) (fun a5 h5=>?_) a4 (h4.pick [0,1,2,3,4,5,6])
    refine ⟨j - ((i+j) / 2+1),by omega,(i+j) / 2+1,j,rfl,by omega,by omega,fun k hk hki=>?_,hhi,hb14,h5⟩
    exact hmono k ((i+j) / 2) (by omega) (by omega) hz
  · refine wp_cond_false ((h4.eval (k := 31) (v := .bool (decide (f l[(i+j) / 2]<0))) (by simp)).trans (by rw [decide_eq_false hz])) ?_
    refine br_r7_wp (h := (i+j) / 2) (fun a5 h5=>?_) a4 (h4.pick [0,1,2,3,4,5,6])
    refine ⟨(i+j) / 2 - i,by omega,i,(i+j) / 2,rfl,by omega,by omega,hlo,fun k hk hki=>?_,hb14,h5⟩
    exact fun hz2=>hz (hmono _ _ hki hk hz2)
end
noncomputable section
variable {w w':World} {base size k:Nat} {v:Value} {E:TypeId} {S:Nat→Prop} {xs:List Value} {sz:Int} {m:Md} {x:ByteArray} {f:Fv} {env:List (ByteArray × Int)}

theorem sl_of_own {α:Type} {ρ:Rep α} {l:List α} (h:w.ownsRow base E ρ.size v l.length xs) (hx:ρ.All w S l xs) (hm:l.length≤maxLen) (hS:∀k,v.ownBlock=some k→S k):ρ.Sl w S v l := by
  obtain ⟨hlen,⟨e,e0⟩ | ⟨g,cap,cur,e,hg,hh,h1,h2,h3,h4⟩⟩ := h
  · rw [e]
    exact ⟨none,0,0,rfl,e0,by omega,by omega⟩
  · refine ⟨some ⟨g,0,none⟩,l.length,cap,e,rfl,hm,fun _=>⟨g,0,xs,rfl,hS g (by rw [e]; rfl),hx,fun j u hu=>?_⟩⟩
    have hj:j<l.length * ρ.size := by
      have := (List.getElem?_eq_some_iff.1 hu).1
      omega
    have h5:cur[j]?=some u := by
      rw [← Array.getElem?_toList,← List.getElem?_take_of_lt hj]
      rw [h4]; exact hu
    simp only [World.cell?,hh,Nat.zero_add]
    simpa using h5
theorem own_cap {n:Nat} (h:w.ownsRow base E size v n xs):∃A c,v=.slice A n c∧n≤c := by
  rcases h.2 with ⟨e,e0⟩ | ⟨g,cap,cur,e,hg,hh,h1,_⟩
  · exact ⟨none,0,by rw [e,e0],by omega⟩
  · exact ⟨_,cap,e,h1⟩
theorem own_keep {n:Nat} (h:w.ownsRow base E size v n xs) (hk:∀k,k<w.heap.size→w'.heap[k]?=w.heap[k]?):w'.ownsRow base E size v n xs := by
  refine ⟨h.1,?_⟩
  rcases h.2 with h2 | ⟨g,cap,cur,e,hg,hh,r⟩
  · exact Or.inl h2
  · exact Or.inr ⟨g,cap,cur,e,hg,(hk g (lt_heap hh)).trans hh,r⟩
theorem below_of_grown9 {B:Nat} (h:w.grownBy w' v.ownBlock) (hv:∀k,v.ownBlock=some k→B≤k) (hB:B≤w.heap.size):Below B w w' :=
  ⟨h.os,h.tape,h.output,h.size,fun k hk=>h.block k (by omega) (fun e=>by have := hv k e.symm; omega)⟩
theorem own_ge9 {n:Nat} (h:w.ownsRow base E size v n xs):∀k,v.ownBlock=some k→base≤k := fun k e=>(h.lt k e).1
theorem zAll:∀l:List Int,zRep.All w S l (l.map (.int .i64 ·))
  | []=>rfl
  | a :: l=>⟨[.int .i64 a],l.map (.int .i64 ·),rfl,rfl,zAll l⟩
theorem rising_len:∀(l:List Int) (lo hi:Int),l.Pairwise (·<·)→(∀x∈l,lo≤x∧x<hi)→lo≤hi→(l.length:Int)≤hi - lo
  | [],lo,hi,_,_,h=>by simp; omega
  | a :: l,lo,hi,hp,hx,h=>by
    obtain ⟨h1,h2⟩ := List.pairwise_cons.1 hp
    have ha := hx a (by simp)
    have := rising_len l (a+1) hi h2 (fun x hxl=>⟨by have := h1 x hxl; omega,(hx x (by simp [hxl])).2⟩) (by omega)
    simp only [List.length_cons]
    omega
theorem pow_le6 (h:1≤sz∧sz≤6):∀n:Nat,sz ^ n≤6 ^ n
  | 0=>by simp
  | n+1=>by
    rw [Int.pow_succ,Int.pow_succ]
    have := pow_le6 h n
    have h0:(0:Int)<sz ^ n := Int.pow_pos (by omega)
    have h1:sz ^ n * sz≤sz ^ n * 6 := Int.mul_le_mul_of_nonneg_left (by omega) (by omega)
    omega
theorem Rel.few (hs:1≤sz∧sz≤6) {x:Rel} (h:x.good sz):x.tp.length≤500000 := by
  obtain ⟨_,ha0,ha3,hp,ht⟩ := h
  have hp2:(x.tp.map (codeN sz 0)).Pairwise (·<·) := by
    rw [List.pairwise_map]
    refine List.Pairwise.imp_of_mem ?_ hp
    intro a b ha hb hab
    have h1 := ht a ha
    have h2 := ht b hb
    have := cmpL_code hs.1 a b (by omega) h1.2 h2.2
    by_cases hc:codeN sz 0 b≤codeN sz 0 a
    · have := this.2 hc; omega
    · omega
  have hb:∀y∈x.tp.map (codeN sz 0),(0:Int)≤y∧y<216 := by
    intro y hy
    obtain ⟨t,htm,rfl⟩ := List.mem_map.1 hy
    have h1 := ht t htm
    have h2 := codeN_bound hs.1 t h1.2
    have h3 := pow_le6 hs t.length
    have h4:(6:Int) ^ t.length≤216 := by
      have:t.length=0∨t.length=1∨t.length=2∨t.length=3 := by omega
      rcases this with h | h | h | h <;> rw [h] <;> decide
    omega
  have := rising_len _ 0 216 hp2 hb (by omega)
  rw [List.length_map] at this
  omega
theorem pred_hit {n:ByteArray} {t:List Int} {r:Rel} (hg:m.good) (h:relV m n t.length=some r) (hl:hitN (fun u=>cmpL u t) r.tp=true→cutN (fun u=>cmpL u t) r.tp<r.tp.length):predV m n t=hitN (fun u=>cmpL u t) r.tp := by
  have hr:r∈m.rs := List.mem_of_find?_eq_some h
  unfold predV
  rw [h,Option.any_some,find_cut (Rel.tup_cut (hg.rk r hr) t)]
  cases hh:hitN (fun u=>cmpL u t) r.tp
  · simp
  · rw [if_pos rfl,List.getElem?_eq_getElem (hl hh)]; rfl
theorem rangeV_all (P:Int→Bool):(rangeV m).all P=true ↔ ∀i:Nat,(i:Int)<m.sz→P i=true := by
  unfold rangeV
  rw [List.all_eq_true]
  constructor
  · intro h i hi
    exact h _ (List.mem_map.2 ⟨i,List.mem_range.2 (by omega),rfl⟩)
  · intro h x hx
    obtain ⟨i,hi,rfl⟩ := List.mem_map.1 hx
    exact h i (by have := List.mem_range.1 hi; omega)
theorem rangeV_any (P:Int→Bool):(rangeV m).any P=true ↔ ∃i:Nat,(i:Int)<m.sz∧P i=true := by
  unfold rangeV
  rw [List.any_eq_true]
  constructor
  · rintro ⟨x,hx,h⟩
    obtain ⟨i,hi,rfl⟩ := List.mem_map.1 hx
    exact ⟨i,by have := List.mem_range.1 hi; omega,h⟩
  · rintro ⟨i,hi,h⟩
    exact ⟨_,List.mem_map.2 ⟨i,List.mem_range.2 (by omega),rfl⟩,h⟩
theorem qu_stop (hk:k=8∨k=9) {i:Nat} (hi:(i:Int)<m.sz) (h:(evalF m f (env++[(x,(i:Int))]) != ((k:Int) == 8))=true):evalF m (.qu k x f) env=decide ((k:Int)=9) := by
  unfold evalF
  rcases hk with rfl | rfl
  · rw [if_pos rfl]
    have h2:evalF m f (env++[(x,(i:Int))])=false := by
      cases hb:evalF m f (env++[(x,(i:Int))])
      · rfl
      · rw [hb] at h; cases h
    rw [show decide (((8:Nat):Int)=9)=false from rfl,Bool.eq_false_iff]
    intro h3
    have := rangeV_all _ |>.1 h3 i hi
    rw [h2] at this; cases this
  · rw [if_neg (by decide)]
    have h2:evalF m f (env++[(x,(i:Int))])=true := by
      cases hb:evalF m f (env++[(x,(i:Int))])
      · rw [hb] at h; cases h
      · rfl
    rw [show decide (((9:Nat):Int)=9)=true from rfl]
    exact rangeV_any _ |>.2 ⟨i,hi,h2⟩
theorem qu_end (hk:k=8∨k=9) (h:∀i:Nat,(i:Int)<m.sz→(evalF m f (env++[(x,(i:Int))]) != ((k:Int) == 8))=false):evalF m (.qu k x f) env=decide ((k:Int)=8) := by
  unfold evalF
  rcases hk with rfl | rfl
  · rw [if_pos rfl,show decide (((8:Nat):Int)=8)=true from rfl]
    refine rangeV_all _ |>.2 (fun i hi=>?_)
    have := h i hi
    cases hb:evalF m f (env++[(x,(i:Int))])
    · rw [hb] at this; cases this
    · rfl
  · rw [if_neg (by decide),show decide (((9:Nat):Int)=8)=false from rfl,Bool.eq_false_iff]
    intro h3
    obtain ⟨i,hi,h4⟩ := rangeV_any _ |>.1 h3
    have := h i hi
    rw [h4] at this; cases this
end

end Go.Proofs.YthfokmjpbnfihaaDoor
