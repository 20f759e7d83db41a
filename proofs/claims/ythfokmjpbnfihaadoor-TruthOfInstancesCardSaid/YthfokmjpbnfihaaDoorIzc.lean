/- Lemmas. -/
import Derived.Test.YthfokmjpbnfihaaDoorIzb
namespace Go.Proofs.YthfokmjpbnfihaaDoor
open Go Go.RowKit
set_option linter.unusedSimpArgs false
set_option linter.unusedVariables false
noncomputable section
set_option maxRecDepth 100000
set_option maxHeartbeats 4000000
variable {Q:Exit→Act→World→Prop} {De Du A B:Option Addr} {me ee bu mu eu n1 c1 n2 c2:Nat} {l:List ByteArray} {wo w:World} {kd:Int} {nm:ByteArray}

theorem fmConsts_len (t:Fm):(fmConsts t).length≤(fmFrees [] t).length := by
  unfold fmConsts constsB
  rw [List.length_map]
  refine Nat.le_trans (compact_len _) ?_
  unfold sortS
  rw [List.length_mergeSort,List.length_map]
  exact Nat.le_refl _
mutual
theorem frees_le:∀(t:Tree FmL) (bd:List ByteArray),(fmFrees bd t).length≤(allW t).length
  | .mk a l,bd=>by
    have h1 := freess_le l (if a.kind=8∨a.kind=9 then bd++[a.nm] else bd)
    have h2 := List.length_filter_le (fun w=>!hasB bd w) a.ws
    unfold fmFrees allW
    rw [List.length_append,List.length_append]; omega
theorem freess_le:∀(l:List (Tree FmL)) (bd:List ByteArray),(fmFreess bd l).length≤(allWs l).length
  | [],_=>by simp [fmFreess]
  | t :: l,bd=>by
    have h1 := frees_le t bd
    have h2 := freess_le l bd
    unfold fmFreess allWs
    rw [List.length_append,List.length_append]; omega
end
theorem Fv.words_le:∀v:Fv,v.ok→(allW v.fm).length+3 * quN v.fm≤3 * v.nodes := by
  intro v
  induction v with
  | tru=>intro _; simp [Fv.fm,allW,allWs,quN,quNs,isQ,Fv.nodes]
  | pred n ws =>
    intro h
    have := h.2.1
    simp [Fv.fm,allW,allWs,quN,quNs,isQ,Fv.nodes]; omega
  | same a b=>intro _; simp [Fv.fm,allW,allWs,quN,quNs,isQ,Fv.nodes]
  | neg f ih =>
    intro h
    have := ih h
    simp [Fv.fm,allW,allWs,quN,quNs,isQ,Fv.nodes]; omega
  | bin k f g ihf ihg =>
    intro h
    have h1 := ihf h.2.1
    have h2 := ihg h.2.2
    have hk:¬ isQ k := by
      rintro (e | e) <;> (rcases h.1 with r | r | r <;> omega)
    simp only [Fv.fm,allW,allWs,quN,quNs,Fv.nodes,List.length_append,List.length_nil]
    rw [if_neg hk]; omega
  | qu k x f ih =>
    intro h
    have := ih h.2.2
    have hk:isQ k := by
      rcases h.1 with e | e
      · exact Or.inl (by omega)
      · exact Or.inr (by omega)
    simp only [Fv.fm,allW,allWs,quN,quNs,Fv.nodes,List.length_append,List.length_nil]
    rw [if_pos hk]; omega
theorem small_prod (q c:Nat) (hq:q≤200) (h:c+3 * q≤600):(q+1) * (c+1)≤80000 := by
  have key:∀q:Fin 201,(q.val+1) * (600 - 3 * q.val+1)≤80000 := by decide +kernel
  have h1 := key ⟨q,by omega⟩
  have h2:(q+1) * (c+1)≤(q+1) * (600 - 3 * q+1) := Nat.mul_le_mul_left _ (by omega)
  exact Nat.le_trans h2 h1
theorem fromV_le (u:List ByteArray) (q k:Nat) (hq:q≤200) (hu:u.length+3 * q≤600) (hk:k≤q):fromV u k+u.length≤80000 := by
  have h1 := small_prod q u.length hq hu
  have h3:fromV u k≤k * (u.length+1) := by
    cases k with
    | zero=>exact Nat.zero_le _
    | succ k=>exact numV_le u k
  have h2:k * (u.length+1)≤q * (u.length+1) := Nat.mul_le_mul_right _ hk
  rw [Nat.succ_mul] at h1
  omega
theorem vB_size {n:Nat} (h:n≤1000000):(vB n).size≤maxLen := by
  have := dec_len n n (Nat.le_refl _)
  unfold vB maxLen
  simp [ByteArray.size]; omega
def repU (p q:ByteArray) (l:List ByteArray) (j:Nat):List ByteArray := (l.take j).map (fun w=>if p=w then q else w)++l.drop j
theorem repU_len (p q:ByteArray) (l:List ByteArray) (j:Nat):(repU p q l j).length=l.length := by
  unfold repU
  rw [List.length_append,List.length_map,← List.length_append,List.take_append_drop]
theorem repU_at (p q:ByteArray) (l:List ByteArray) (j:Nat) (h:j<l.length):(repU p q l j)[j]? = some l[j] := by
  unfold repU
  rw [List.getElem?_append_right (by simp; omega),List.length_map,List.length_take,List.getElem?_drop]
  rw [show j+(j - min j l.length)=j by omega,List.getElem?_eq_getElem h]
theorem repU_hit (p q:ByteArray) (l:List ByteArray) (j:Nat) (h:j<l.length) (e:l[j]=p):(repU p q l j).set j q=repU p q l (j+1) := by
  unfold repU
  have h1:((l.take j).map (fun w=>if p=w then q else w)).length=j := by rw [List.length_map,List.length_take]; omega
  rw [List.set_append_right _ _ (by omega),h1,Nat.sub_self,List.drop_eq_getElem_cons h,List.set_cons_zero,List.take_succ_eq_append_getElem h,List.map_append,List.append_assoc]
  simp [e]
theorem repU_miss (p q:ByteArray) (l:List ByteArray) (j:Nat) (h:j<l.length) (e:l[j]≠p):repU p q l j=repU p q l (j+1) := by
  unfold repU
  rw [List.take_succ_eq_append_getElem h,List.map_append,List.append_assoc]
  simp only [List.map_cons,List.map_nil,List.cons_append,List.nil_append]
  rw [if_neg (fun e2:p=l[j]=>e e2.symm),← List.drop_eq_getElem_cons h]
mutual
theorem frees_size (S:Nat→Prop) (w:World):∀(t:Tree FmL) (cs:List Value) (bd:List ByteArray),fmRep.R w S t cs→∀s∈fmFrees bd t,s.size≤maxLen
  | .mk a l,cs,bd,h,s,hs=>by
    obtain ⟨u,v,rfl,_,h1,h2⟩ := Fm.open_ h
    unfold fmFrees at hs
    rcases List.mem_append.1 hs with hs | hs
    · exact sl_sizes h1 s (List.mem_filter.1 hs).1
    · obtain ⟨A,n,c,rfl,hl,_,h3⟩ := h2
      cases l with
      | nil=>simp [fmFreess] at hs
      | cons t l =>
        obtain ⟨b,o,xs,_,_,hx,_⟩ := h3 (by rw [← hl]; simp)
        exact freess_size S w (t :: l) xs _ hx s hs
theorem freess_size (S:Nat→Prop) (w:World):∀(l:List (Tree FmL)) (xs:List Value) (bd:List ByteArray),fmRep.All w S l xs→∀s∈fmFreess bd l,s.size≤maxLen
  | [],_,_,_,s,hs=>by simp [fmFreess] at hs
  | t :: l,xs,bd,h,s,hs=>by
    obtain ⟨cs,rest,rfl,h1,h2⟩ := h
    unfold fmFreess at hs
    rcases List.mem_append.1 hs with hs | hs
    · exact frees_size S w t cs bd h1 s hs
    · exact freess_size S w l rest bd h2 s hs
end
def c_ca_in := sp 99 11467 cF52
theorem ca_in_wp {bp i:Nat} {p q:ByteArray} (hp:w.heap[bp]? = some (.cells #[.string p,.string q] 88 (0,0))) (hbp:bp≠bu) (hrp:∀k,(.slice Du mu eu:Value).ownBlock=some k→k≠bp) (hlm:l.length=mu) (hll:l.length≤1000000) (hs:US wo w bu (.slice Du mu eu) l kd nm A n1 c1 B n2 c2) 
    (hX:∀a' w',Frm 43 [(1,.slice De me ee),(2,.pointer (some ⟨wo.heap.size,0,none⟩)),(4,.pointer (some ⟨wo.heap.size+1,0,none⟩)),(5,.pointer (some ⟨bu,0,none⟩)),(14,.slice De me ee),(15,.int .i64 (me:Nat)),(16,.int .i64 (i:Nat))] a'→US wo w' bu (.slice Du mu eu) (l.map (fun w=>if p=w then q else w)) kd nm A n1 c1 B n2 c2→Q (.exit 2) a' w'):∀ac,Frm 43 [(1,.slice De me ee),(2,.pointer (some ⟨wo.heap.size,0,none⟩)),(4,.pointer (some ⟨wo.heap.size+1,0,none⟩)),(5,.pointer (some ⟨bu,0,none⟩)),(14,.slice De me ee),(15,.int .i64 (me:Nat)),(16,.int .i64 (i:Nat)),(7,.pointer (some ⟨bp,0,none⟩)),(20,.slice Du mu eu),(21,.int .i64 (mu:Nat)),(22,.int .i64 (0:Nat))] ac→Code.wp Tryd.prog c_ca_in Q ac w := by
  intro a0 hf0
  conv=>arg 2; whnf
  refine wp_loopR (fun g a' w'=>∃j:Nat,j+g=mu∧US wo w' bu (.slice Du mu eu) (repU p q l j) kd nm A n1 c1 B n2 c2∧w'.heap[bp]? = some (.cells #[.string p,.string q] 88 (0,0))∧Frm 43 [(1,.slice De me ee),(2,.pointer (some ⟨wo.heap.size,0,none⟩)),(4,.pointer (some ⟨wo.heap.size+1,0,none⟩)),(5,.pointer (some ⟨bu,0,none⟩)),(14,.slice De me ee),(15,.int .i64 (me:Nat)),(16,.int .i64 (i:Nat)),(7,.pointer (some ⟨bp,0,none⟩)),(20,.slice Du mu eu),(21,.int .i64 (mu:Nat)),(22,.int .i64 (j:Nat))] a') mu ⟨0,by omega,by simpa [repU] using hs,hp,hf0⟩ ?_
  rintro g a1 w1 ⟨j,hjg,hs1,hp1,h1⟩
  refine wp_seq ?_
  refine ca_r6_wp (fun a2 h2=>?_) a1 h1
  refine wp_seq ?_
  by_cases hj:j<mu
  case neg =>
    refine wp_cond_false ((h2.eval (k := 23) (v := .bool (decide (j<mu))) (by simp)).trans (by rw [decide_eq_false hj])) ?_
    refine wp_exit (hX a2 w1 (h2.pick [0,1,2,3,4,5,6]) ?_)
    have e:repU p q l j=l.map (fun w=>if p=w then q else w) := by
      unfold repU
      rw [List.take_of_length_le (by omega),List.drop_of_length_le (by omega),List.append_nil]
    rwa [e] at hs1
  refine wp_cond_true ((h2.eval (k := 23) (v := .bool (decide (j<mu))) (by simp)).trans (by rw [decide_eq_true hj])) ?_
  refine wp_skip ?_
  show Code.wp _ _ _ a2 w1
  have hjl:j<l.length := by omega
  obtain ⟨g',rfl,hg',hcell,hfz⟩:∃g',Du=some ⟨g',0,none⟩∧g'<w1.heap.size∧w1.cell? ⟨g',j,none⟩=some (.string l[j])∧w1.frozen? ⟨g',j,none⟩=false := by
    have hr := hs1.r
    rw [repU_len,hlm] at hr
    obtain ⟨g',cap,e,_,hlt⟩ := hr.form (by omega)
    injection e with e1 _ e3
    subst e1 e3
    refine ⟨g',rfl,hlt,?_,hr.frozenAt j⟩
    rw [hr.cellAt j (by omega),List.getElem?_map,repU_at p q l j hjl]
    rfl
  refine wp_seq ?_
  refine wp_block ?_
  refine wp_seq ?_
  refine ca_r7_wp hj hcell hg' (fun a3 h3=>?_) a2 (h2.pick [0,1,2,3,4,5,6,7,8,9,10])
  refine wp_seq ?_
  refine ca_r8_wp hp1 (fun a4 h4=>?_) a3 h3
  by_cases hx:l[j]=p
  · refine wp_cond_true ((h4.eval (k := 30) (v := .bool (decide (l[j]=p))) (by simp)).trans (by rw [decide_eq_true hx])) ?_
    refine ca_r9_wp hj hs1.u hp1 hcell hfz hg' (fun a5 h5=>?_) a4 (h4.pick [0,1,2,3,4,5,6,7,8,9,10,11,12])
    have hs5 := hs1.put (i := j) (by rw [repU_len]; exact hlm) q
    rw [repU_hit p q l j hjl hx] at hs5
    refine gen_last (fun wx=>US wo wx bu (.slice (some ⟨g',0,none⟩) mu eu) (repU p q l (j+1)) kd nm A n1 c1 B n2 c2∧wx.heap[bp]? = some (.cells #[.string p,.string q] 88 (0,0))) ⟨hs5,heap_far _ (fun e=>hrp g' rfl e.symm) hp1⟩ ?_
    rintro wx ⟨hs6,hp6⟩
    show Code.wp _ _ _ a5 wx
    refine ca_r10_wp hj (by unfold maxLen; omega) (fun a6 h6=>?_) a5 h5
    exact ⟨g - 1,by omega,j+1,by omega,hs6,hp6,h6⟩
  · refine wp_cond_false ((h4.eval (k := 30) (v := .bool (decide (l[j]=p))) (by simp)).trans (by rw [decide_eq_false hx])) ?_
    refine wp_skip ?_
    show Code.wp _ _ _ a4 w1
    refine ca_r10_wp hj (by unfold maxLen; omega) (fun a6 h6=>?_) a4 (h4.pick [0,1,2,3,4,5,6,7,8,9,10])
    rw [repU_miss p q l j hjl hx] at hs1
    exact ⟨g - 1,by omega,j+1,by omega,hs1,hp1,h6⟩
def c_ca_ou := sp 99 43 cF52
theorem ca_ou_wp {SS:Nat→Prop} {env:Env} (hS:∀k,SS k→k<wo.heap.size) (hf:bindRep.Sl wo SS (.slice De me ee) env) (hen:env.length≤1) (hlm:l.length=mu) (hll:l.length≤1000000) (hs:US wo w bu (.slice Du mu eu) l kd nm A n1 c1 B n2 c2) 
    (hX:∀a' w',Frm 43 [(1,.slice De me ee),(2,.pointer (some ⟨wo.heap.size,0,none⟩)),(4,.pointer (some ⟨wo.heap.size+1,0,none⟩)),(5,.pointer (some ⟨bu,0,none⟩))] a'→US wo w' bu (.slice Du mu eu) (l.map (lookE env)) kd nm A n1 c1 B n2 c2→Q (.exit 0) a' w'):∀ac,Frm 43 [(1,.slice De me ee),(2,.pointer (some ⟨wo.heap.size,0,none⟩)),(4,.pointer (some ⟨wo.heap.size+1,0,none⟩)),(5,.pointer (some ⟨bu,0,none⟩)),(14,.slice De me ee),(15,.int .i64 (me:Nat)),(16,.int .i64 (0:Nat))] ac→Code.wp Tryd.prog c_ca_ou Q ac w := by
  intro a0 hf0
  conv=>arg 2; whnf
  obtain ⟨D',m',e',e9,hfl,hfm,_⟩ := id hf
  injection e9 with e1 e2 e3
  subst e1 e2 e3
  refine wp_loopR (fun g a' w'=>∃i:Nat,i+g=env.length∧US wo w' bu (.slice Du mu eu) (l.map (lookE (env.take i))) kd nm A n1 c1 B n2 c2∧Frm 43 [(1,.slice De me ee),(2,.pointer (some ⟨wo.heap.size,0,none⟩)),(4,.pointer (some ⟨wo.heap.size+1,0,none⟩)),(5,.pointer (some ⟨bu,0,none⟩)),(14,.slice De me ee),(15,.int .i64 (me:Nat)),(16,.int .i64 (i:Nat))] a') env.length ⟨0,by omega,by rw [List.take_zero,map_look_nil]; exact hs,hf0⟩ ?_
  rintro g a1 w1 ⟨i,hig,hs1,h1⟩
  refine wp_seq ?_
  refine ca_r3_wp (fun a2 h2=>?_) a1 h1
  refine wp_seq ?_
  by_cases hi:i<me
  case neg =>
    refine wp_cond_false ((h2.eval (k := 17) (v := .bool (decide (i<me))) (by simp)).trans (by rw [decide_eq_false hi])) ?_
    refine wp_exit (hX a2 w1 (h2.pick [0,1,2,3]) ?_)
    rwa [List.take_of_length_le (by omega)] at hs1
  refine wp_cond_true ((h2.eval (k := 17) (v := .bool (decide (i<me))) (by simp)).trans (by rw [decide_eq_true hi])) ?_
  refine wp_skip ?_
  show Code.wp _ _ _ a2 w1
  obtain rfl:i=0 := by omega
  have hie:0<env.length := by omega
  obtain ⟨b,o,cs,rfl,hSb,⟨rfl,_⟩,hc⟩ := Rep.Sl.at_ hf (List.getElem?_eq_getElem hie)
  have hkb := hs1.b.block b (hS b hSb)
  have hbs := hs1.b.size
  have hc0:w1.cell? ⟨b,o+0 * 2,none⟩=some (.string env[0].1) := (cell_keep hkb _).trans (hc 0 _ rfl)
  have hc1:w1.cell? ⟨b,o+0 * 2+1,none⟩=some (.string env[0].2) := (cell_keep hkb _).trans (hc 1 _ rfl)
  refine wp_seq ?_
  refine wp_block ?_
  refine wp_seq ?_
  refine ca_r4_wp hi hc0 hc1 (by have := hS b hSb; omega) (fun a3 h3=>?_) a2 (h2.pick [0,1,2,3,4,5,6])
  refine gen_last (fun wx=>wx.heap[w1.heap.size]? = some (.cells #[.string env[0].1,.string env[0].2] 88 (0,0))∧Below w1.heap.size w1 wx) ⟨heap_alloc_new _ _,(Below.refl _ _).alloc (Nat.le_refl _) _⟩ ?_
  rintro wx ⟨hp,hbx⟩
  have hsx := hs1.below hbx
  have hul := lt_heap hs1.u
  rw [List.take_zero,map_look_nil] at hsx
  refine wp_seq ?_
  refine ca_r5_wp hsx.u (fun a4 h4=>?_) a3 h3
  refine wp_block ?_
  refine ca_in_wp hp (by omega) (fun k e=>by have := (hs1.r.lt k e).2; omega) hlm hll hsx (fun a5 w5 h5 hs5=>?_) a4 h4
  refine inBlock_exit ?_
  show Code.wp _ _ _ a5 w5
  refine ca_r11_wp hi (by omega) (fun a6 h6=>?_) a5 h5
  refine ⟨g - 1,by omega,0+1,by omega,?_,h6⟩
  have e:env.take (0+1)=[env[0]] := by
    rw [List.take_succ_eq_append_getElem hie]; rfl
  rw [e]
  exact hs5
theorem canon_any (v:Fv) (hv:v.ok) (hn:v.nodes≤200) (cs:List Value) (w:World) (S:Nat→Prop) (De:Option Addr) (me ee:Nat) (env:Env) (hen:env.length≤1) (hDe:me=0→De=none) (hmee:me≤ee) (ht:fmRep.R w S v.fm cs) (hS:∀b,S b→b<w.heap.size) (hf:bindRep.Sl w S (.slice De me ee) env) (htab:∀W,Below w.heap.size w W→Lib.TabIs Tryd.prog W "internal/strconv.uint64pow10" .u64 Lib.pow10Tab) :
    Calls Tryd.prog 52 #[.agg cs.toArray,.slice De me ee] w fun e w'=>∃es:List Value,e=.returned (.agg es.toArray)∧fmRep.R w' (fun b=>w.heap.size≤b∧b<w'.heap.size) (canF env v.fm) es∧Below w.heap.size w w' := by
  have hwq := Fv.words_le v hv
  have hfn := v.fm_nodes
  have hcl := fmConsts_len v.fm
  have hfl := frees_le v.fm []
  have hqn:quN v.fm≤200 := by omega
  generalize v.fm=t at hwq hfn hcl hfl hqn ht ⊢
  clear hv
  obtain ⟨A,n1,c1,B,n2,c2,rfl,_,_,_,_⟩ := Fm.shape ht
  obtain ⟨kd,hkd⟩:∃k,t.lab.kind=k := ⟨_,rfl⟩
  obtain ⟨nm,hnm⟩:∃k,t.lab.nm=k := ⟨_,rfl⟩
  rw [hkd,hnm] at ht ⊢
  have hmf:env.length=me := by
    obtain ⟨_,_,_,e9,h9,_⟩ := id hf
    injection e9 with _ e9 _
    omega
  go_enter Tryd.func52,Tryd.ntmps52
  refine wp_seq ?_
  refine ca_r0_wp (fun a0 h0=>?_) _ (id ⟨rfl,rfl,rfl,rfl,trivial⟩)
  refine gen_last (fun wx=>wx.heap[w.heap.size]? = some (.cells #[.int .i64 kd,.string nm,.slice A n1 c1,.slice B n2 c2] 29 (0,0))∧wx.heap[w.heap.size+1]? = some (.cells #[.int .i64 0,.string ⟨#[]⟩,.slice none 0 0,.slice none 0 0] 29 (0,0))∧wx.heap.size=w.heap.size+2∧Below w.heap.size w wx) ⟨heap_old (by simp) (heap_at (by simp)),heap_at (by simp),by simp,((Below.refl _ _).alloc (Nat.le_refl _) _).alloc (by simp) _⟩ ?_
  rintro wx ⟨ha,hz,hsz,hb⟩
  refine wp_seq ?_
  have hcon := (constants_any t [.int .i64 kd,.string nm,.slice A n1 c1,.slice B n2 c2] wx S (fmRep.keep ht (fun b hb2=>hb.block b (hS b hb2)) (fun _ h=>h)) (fun b hb2=>by have := hS b hb2; omega) (by omega) (by omega)).mono (R' := fun e w'=>∃Du mu eu,e=.returned (.slice Du mu eu)∧((fmConsts t).length=mu∧w'.ownsRow wx.heap.size 9 1 (.slice Du mu eu) (fmConsts t).length ((fmConsts t).map .string)∧Below wx.heap.size wx w')) (by
    rintro e w' ⟨v',rfl,hr,hb9⟩
    obtain ⟨A9,c9,rfl⟩:∃A c,v'=.slice A (fmConsts t).length c := by
      rcases hr.2 with ⟨e,e0⟩ | ⟨g,cap,cur,e,_⟩
      · exact ⟨none,0,by rw [e,e0]⟩
      · exact ⟨_,_,e⟩
    exact ⟨_,_,_,rfl,rfl,hr,hb9⟩)
  refine ca_r1_wp ha hcon (fun Du mu eu w1 a1 h1 hp1=>?_) a0 h0
  obtain ⟨hlm,hr1,hb1⟩ := hp1
  have hb1s := hb1.size
  obtain ⟨bu,hbu⟩:∃b,w1.heap.size=b := ⟨_,rfl⟩
  rw [hbu] at h1
  refine gen_last (fun wy=>US w wy bu (.slice Du mu eu) (fmConsts t) kd nm A n1 c1 B n2 c2) ⟨heap_old (by have := lt_heap ha; omega) ((hb1.block _ (lt_heap ha)).trans ha),heap_old (by have := lt_heap hz; omega) ((hb1.block _ (lt_heap hz)).trans hz),by rw [← hbu]; exact heap_alloc_new _ _,⟨hr1.1,?_⟩,fun e=>by have := (hr1.lt _ e).2; omega,(hb.trans (hb1.mono (by omega))).alloc (by omega) _,by omega⟩ ?_
  · rcases hr1.2 with q | ⟨g,cap,cur,e,hg,hh,r⟩
    · exact Or.inl q
    · exact Or.inr ⟨g,cap,cur,e,by omega,heap_old (lt_heap hh) hh,r⟩
  intro wy hs
  refine wp_seq ?_
  refine wp_seq ?_
  refine ca_r2_wp (fun a2 h2=>?_) a1 h1
  refine wp_block ?_
  refine ca_ou_wp (SS := S) (env := env) hS hf hen hlm (by omega) hs (fun a3 w3 h3 hs3=>?_) a2 h2
  refine inBlock_exit ?_
  show Code.wp _ _ _ a3 w3
  obtain ⟨u,hu⟩:∃u,(fmConsts t).map (lookE env)=u := ⟨_,rfl⟩
  rw [hu] at hs3
  have hul:u.length=mu := by rw [← hu,List.length_map]; exact hlm
  refine wp_seq ?_
  refine ca_r12_wp (fun a4 h4=>?_) a3 h3
  obtain ⟨bk,hbk⟩:∃b,w3.heap.size=b := ⟨_,rfl⟩
  rw [hbk] at h4
  have hus := lt_heap hs3.u
  refine gen_last (fun wy=>US w wy bu (.slice Du mu eu) u kd nm A n1 c1 B n2 c2∧wy.heap[bk]? = some (.cells #[.int .i64 ((0:Nat):Int)] 3 (0,0))∧wy.heap.size=bk+1) ⟨hs3.below ((Below.refl _ _).alloc (Nat.le_refl _) _),by rw [← hbk]; exact heap_alloc_new _ _,by simp [hbk]⟩ ?_
  rintro w4 ⟨hs4,hk4,hz4⟩
  refine wp_seq ?_
  refine ca_r13_wp (fun a5 h5=>?_) a4 h4
  have hbs4 := hs4.b.size
  have hbk0:w.heap.size≤bk := by have := hs3.b.size; omega
  have hsz4:∀s∈u,s.size≤maxLen := by
    intro s hs
    rw [← hu] at hs
    obtain ⟨y,hy,rfl⟩ := List.mem_map.1 hs
    refine lookE_size y env y (fun p hp=>(bind_sizes hf p hp).2) ?_
    have hym:y∈fmFrees [] t := mem_constsB.1 hy
    have key := frees_size S w t [.int .i64 kd,.string nm,.slice A n1 c1,.slice B n2 c2] [] ht
    exact key y hym
  have hsl4 := sl_of_row (S := fun b=>b<w4.heap.size∧b≠bk∧w.heap.size+2≤b) hs4.r hsz4 (by unfold maxLen; omega) (fun b e=>⟨(hs4.r.lt b e).2,fun e2=>by
    subst e2
    have hr4 := hs4.r
    rcases hr4.2 with ⟨q,_⟩ | ⟨g,cap,cur,q,_,hh,_⟩
    · rw [q] at e; cases e
    · rw [q] at e
      have e:g=b := Option.some.inj e
      subst e
      rw [hk4] at hh
      injection hh with hh
      injection hh with _ hh _
      exact absurd hh (by decide),(hs4.r.lt b e).1⟩)
  have hnx:∀(W:World) (k:Nat),k<quN t→Keeps (·=bk) w4 W→W.heap[bk]? = some (.cells #[.int .i64 (fromV u k:Nat)] 3 (0,0))→Calls Tryd.prog 70 #[.pointer (some ⟨bk,0,none⟩),.pointer (some ⟨bu,0,none⟩)] W fun e w'=>e=.returned (.string (namV u k))∧w'.heap[bk]? = some (.cells #[.int .i64 (fromV u (k+1):Nat)] 3 (0,0))∧Keeps (·=bk) W w' := by
    intro W k hk hkp hcn
    have hfv := fromV_le u (quN t) k hqn (by omega) (by omega)
    have hW:Below w.heap.size w W := (hs4.b.trans (Keeps.below (B := w.heap.size) hkp (fun k e=>by have e:k=bk := e; omega) hbs4))
    have hWs := hkp.size
    have h9 := next_any (S := fun b=>b<w4.heap.size∧b≠bk∧w.heap.size+2≤b) hcn ((hkp.block bu (lt_heap hs4.u) (by omega)).trans hs4.u) (by omega) (hsl4.keep (fun b hb=>hkp.block b hb.1 hb.2.1) (fun _ h=>h)) (fun b hb=>⟨by omega,hb.2.1⟩) (by omega) (fun W' hk'=>htab W' (hW.trans (Keeps.below hk' (fun k e=>by have e:k=bk := e; omega) hW.size)))
    refine h9.mono ?_
    rintro e w' ⟨rfl,hc9,hk9⟩
    refine ⟨by rw [namV,numV_from],?_,hk9⟩
    rw [hc9]
    rw [show fromV u (k+1)=numV u k+1 from rfl,numV_from]
  have hren := (renamed_any t.nodes t [.int .i64 kd,.string nm,.slice A n1 c1,.slice B n2 c2] w4 w4 S De me ee env 0 bk bu (quN t) (namV u) (fromV u) (Nat.le_refl _) (by omega) (by omega) (by omega) (by omega) (fun j hj=>vB_size (by have := fromV_le u (quN t) (j+1) hqn (by omega) (by omega); have e:fromV u (j+1)=numV u j+1 := rfl; omega)) hDe hmee (fmRep.keep ht (fun b hb=>hs4.b.block b (hS b hb)) (fun _ h=>h)) (fun b hb=>by have := hS b hb; exact ⟨by omega,by omega⟩) (hf.keep (fun b hb=>hs4.b.block b (hS b hb)) (fun _ h=>h)) (Keeps.refl _ _) hnx hk4).mono (R' := fun e w'=>∃ke ne Ae n3 c3 Be n4 c4,e=.returned (.agg #[.int .i64 ke,.string ne,.slice Ae n3 c3,.slice Be n4 c4])∧w'.heap[w.heap.size+1]? = some (.cells #[.int .i64 0,.string ⟨#[]⟩,.slice none 0 0,.slice none 0 0] 29 (0,0))∧(fmRep.R w' (fun b=>w4.heap.size≤b∧b<w'.heap.size) (renF (namV u) env t 0).1 [.int .i64 ke,.string ne,.slice Ae n3 c3,.slice Be n4 c4]∧Keeps (·=bk) w4 w')) (by
    rintro e w' ⟨es,rfl,hr,hk9,_⟩
    obtain ⟨A5,n5,c5,B5,n6,c6,rfl,_,_,_,_⟩ := Fm.shape hr
    exact ⟨_,_,_,_,_,_,_,_,rfl,(hk9.block _ (lt_heap hs4.z) (by have := hs4.lo; have := lt_heap hs3.z; omega)).trans hs4.z,hr,hk9⟩)
  refine wp_seq ?_
  refine ca_r14_wp hs4.a hren (fun ke ne Ae n3 c3 Be n4 c4 w5 a6 w6 h6 hp6 hz6 hk6=>?_) a5 h5
  obtain ⟨hr5,hk5⟩ := hp6
  have hk6s := hk6.size
  have hk5s := hk5.size
  have hzl := lt_heap hs4.z
  refine wp_ret ?_
  refine ca_ret_wp hz6 ⟨rfl,rfl,rfl,rfl⟩ ⟨_,rfl,?_,?_⟩ a6 h6
  · have e:canF env t=(renF (namV u) env t 0).1 := by unfold canF; rw [hu]
    rw [e]
    exact fmRep.keep hr5 (fun b hb=>hk6.block b hb.2 (by omega)) (fun b hb=>⟨by omega,by omega⟩)
  · have h1:Below w.heap.size w w5 := hs4.b.trans (Keeps.below (B := w.heap.size) hk5 (fun k e=>by have e:k=bk := e; omega) hbs4)
    exact h1.trans (Keeps.below (B := w.heap.size) hk6 (fun k e=>by have e:k=w.heap.size+1 := e; omega) (by have := h1.size; omega))
end

end Go.Proofs.YthfokmjpbnfihaaDoor
