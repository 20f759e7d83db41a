/- Lemmas. -/
import Derived.Test.YthfokmjpbnfihaaDoorIf
import Derived.Test.YthfokmjpbnfihaaDoorIg
namespace Go.Proofs.YthfokmjpbnfihaaDoor
open Go Go.RowKit
set_option linter.unusedSimpArgs false
set_option linter.unusedVariables false
noncomputable section
variable {w w':World} {base size k:Nat} {v:Value} {E:TypeId} {S:Nat→Prop} {xs:List Value} {sz:Int} {m:Md} {x:ByteArray} {f:Fv} {env:List (ByteArray × Int)}

theorem sl_of_own {α:Type} {ρ:Rep α} {l:List α} (h:w.ownsRow base E ρ.size v l.length xs) (hx:ρ.All w S l xs) (hm:l.length≤maxLen) (hS:∀k,v.ownBlock=some k→S k):ρ.Sl w S v l := by
  obtain ⟨hlen,⟨e,e0⟩ | ⟨g,cap,cur,e,hg,hh,h1,h2,h3,h4⟩⟩ := h
  · rw [e]
    exact ⟨none,0,0,rfl,e0,by omega,by omega⟩
  · refine ⟨some ⟨g,0,none⟩,l.length,cap,e,rfl,hm,fun _=>⟨g,0,xs,rfl,hS g (by rw [e]; rfl),hx,fun j u hu=>?_⟩⟩
    have hj:j<l.length * ρ.size := by
      have := (List.getElem?_eq_some_iff.1 hu).1
      omega
    have h5:cur[j]? = some u := by
      rw [← Array.getElem?_toList,← List.getElem?_take_of_lt hj]
      rw [h4]; exact hu
    simp only [World.cell?,hh,Nat.zero_add]
    simpa using h5
theorem own_cap {n:Nat} (h:w.ownsRow base E size v n xs):∃A c,v=.slice A n c∧n≤c := by
  rcases h.2 with ⟨e,e0⟩ | ⟨g,cap,cur,e,hg,hh,h1,_⟩
  · exact ⟨none,0,by rw [e,e0],by omega⟩
  · exact ⟨_,cap,e,h1⟩
theorem own_keep {n:Nat} (h:w.ownsRow base E size v n xs) (hk:∀k,k<w.heap.size→w'.heap[k]? = w.heap[k]?):w'.ownsRow base E size v n xs := by
  refine ⟨h.1,?_⟩
  rcases h.2 with h2 | ⟨g,cap,cur,e,hg,hh,r⟩
  · exact Or.inl h2
  · exact Or.inr ⟨g,cap,cur,e,hg,(hk g (lt_heap hh)).trans hh,r⟩
theorem below_of_grown9 {B:Nat} (h:w.grownBy w' v.ownBlock) (hv:∀k,v.ownBlock=some k→B≤k) (hB:B≤w.heap.size):Below B w w' :=
  ⟨h.os,h.tape,h.output,h.size,fun k hk=>h.block k (by omega) (fun e=>by have := hv k e.symm; omega)⟩
theorem own_ge9 {n:Nat} (h:w.ownsRow base E size v n xs):∀k,v.ownBlock=some k→base≤k := fun k e=>(h.lt k e).1
theorem zAll:∀l:List Int,zRep.All w S l (l.map (.int .i64 ·))
  | []=>rfl
  | a :: l=>⟨[.int .i64 a],l.map (.int .i64 ·),rfl,rfl,zAll l⟩
theorem rising_len:∀(l:List Int) (lo hi:Int),l.Pairwise (·<·)→(∀x∈l,lo≤x∧x<hi)→lo≤hi→(l.length:Int)≤hi - lo
  | [],lo,hi,_,_,h=>by simp; omega
  | a :: l,lo,hi,hp,hx,h=>by
    obtain ⟨h1,h2⟩ := List.pairwise_cons.1 hp
    have ha := hx a (by simp)
    have := rising_len l (a+1) hi h2 (fun x hxl=>⟨by have := h1 x hxl; omega,(hx x (by simp [hxl])).2⟩) (by omega)
    simp only [List.length_cons]
    omega
theorem pow_le6 (h:1≤sz∧sz≤6):∀n:Nat,sz ^ n≤6 ^ n
  | 0=>by simp
  | n+1=>by
    rw [Int.pow_succ,Int.pow_succ]
    have := pow_le6 h n
    have h0:(0:Int)<sz ^ n := Int.pow_pos (by omega)
    have h1:sz ^ n * sz≤sz ^ n * 6 := Int.mul_le_mul_of_nonneg_left (by omega) (by omega)
    omega
theorem Rel.few (hs:1≤sz∧sz≤6) {x:Rel} (h:x.good sz):x.tp.length≤500000 := by
  obtain ⟨_,ha0,ha3,hp,ht⟩ := h
  have hp2:(x.tp.map (codeN sz 0)).Pairwise (·<·) := by
    rw [List.pairwise_map]
    refine List.Pairwise.imp_of_mem ?_ hp
    intro a b ha hb hab
    have h1 := ht a ha
    have h2 := ht b hb
    have := cmpL_code hs.1 a b (by omega) h1.2 h2.2
    by_cases hc:codeN sz 0 b≤codeN sz 0 a
    · have := this.2 hc; omega
    · omega
  have hb:∀y∈x.tp.map (codeN sz 0),(0:Int)≤y∧y<216 := by
    intro y hy
    obtain ⟨t,htm,rfl⟩ := List.mem_map.1 hy
    have h1 := ht t htm
    have h2 := codeN_bound hs.1 t h1.2
    have h3 := pow_le6 hs t.length
    have h4:(6:Int) ^ t.length≤216 := by
      have:t.length=0∨t.length=1∨t.length=2∨t.length=3 := by omega
      rcases this with h | h | h | h <;> rw [h] <;> decide
    omega
  have := rising_len _ 0 216 hp2 hb (by omega)
  rw [List.length_map] at this
  omega
theorem pred_hit {n:ByteArray} {t:List Int} {r:Rel} (hg:m.good) (h:relV m n t.length=some r) (hl:hitN (fun u=>cmpL u t) r.tp=true→cutN (fun u=>cmpL u t) r.tp<r.tp.length):predV m n t=hitN (fun u=>cmpL u t) r.tp := by
  have hr:r∈m.rs := List.mem_of_find?_eq_some h
  unfold predV
  rw [h,Option.any_some,find_cut (Rel.tup_cut (hg.rk r hr) t)]
  cases hh:hitN (fun u=>cmpL u t) r.tp
  · simp
  · rw [if_pos rfl,List.getElem?_eq_getElem (hl hh)]; rfl
theorem rangeV_all (P:Int→Bool):(rangeV m).all P=true ↔ ∀i:Nat,(i:Int)<m.sz→P i=true := by
  unfold rangeV
  rw [List.all_eq_true]
  constructor
  · intro h i hi
    exact h _ (List.mem_map.2 ⟨i,List.mem_range.2 (by omega),rfl⟩)
  · intro h x hx
    obtain ⟨i,hi,rfl⟩ := List.mem_map.1 hx
    exact h i (by have := List.mem_range.1 hi; omega)
theorem rangeV_any (P:Int→Bool):(rangeV m).any P=true ↔ ∃i:Nat,(i:Int)<m.sz∧P i=true := by
  unfold rangeV
  rw [List.any_eq_true]
  constructor
  · rintro ⟨x,hx,h⟩
    obtain ⟨i,hi,rfl⟩ := List.mem_map.1 hx
    exact ⟨i,by have := List.mem_range.1 hi; omega,h⟩
  · rintro ⟨i,hi,h⟩
    exact ⟨_,List.mem_map.2 ⟨i,List.mem_range.2 (by omega),rfl⟩,h⟩
theorem qu_stop (hk:k=8∨k=9) {i:Nat} (hi:(i:Int)<m.sz) (h:(evalF m f (env++[(x,(i:Int))]) != ((k:Int) == 8))=true):evalF m (.qu k x f) env=decide ((k:Int)=9) := by
  unfold evalF
  rcases hk with rfl | rfl
  · rw [if_pos rfl]
    have h2:evalF m f (env++[(x,(i:Int))])=false := by
      cases hb:evalF m f (env++[(x,(i:Int))])
      · rfl
      · rw [hb] at h; cases h
    rw [show decide (((8:Nat):Int)=9)=false from rfl,Bool.eq_false_iff]
    intro h3
    have := rangeV_all _ |>.1 h3 i hi
    rw [h2] at this; cases this
  · rw [if_neg (by decide)]
    have h2:evalF m f (env++[(x,(i:Int))])=true := by
      cases hb:evalF m f (env++[(x,(i:Int))])
      · rw [hb] at h; cases h
      · rfl
    rw [show decide (((9:Nat):Int)=9)=true from rfl]
    exact rangeV_any _ |>.2 ⟨i,hi,h2⟩
theorem qu_end (hk:k=8∨k=9) (h:∀i:Nat,(i:Int)<m.sz→(evalF m f (env++[(x,(i:Int))]) != ((k:Int) == 8))=false):evalF m (.qu k x f) env=decide ((k:Int)=8) := by
  unfold evalF
  rcases hk with rfl | rfl
  · rw [if_pos rfl,show decide (((8:Nat):Int)=8)=true from rfl]
    refine rangeV_all _ |>.2 (fun i hi=>?_)
    have := h i hi
    cases hb:evalF m f (env++[(x,(i:Int))])
    · rw [hb] at this; cases this
    · rfl
  · rw [if_neg (by decide),show decide (((9:Nat):Int)=8)=false from rfl,Bool.eq_false_iff]
    intro h3
    obtain ⟨i,hi,h4⟩ := rangeV_any _ |>.1 h3
    have := h i hi
    rw [h4] at this; cases this
end
noncomputable section
theorem addr_none (b o n:Nat):Addr.add ⟨b,o,none⟩ n=⟨b,o+n,none⟩ := by
  unfold Addr.add; split <;> simp [*]
end
noncomputable section
theorem countP_lt {α:Type} (p q:α→Bool) (h:∀x,q x=true→p x=true):∀(l:List α) (x:α),x∈l→p x=true→q x=false→l.countP q<l.countP p
  | [],_,hx,_,_=>by cases hx
  | y :: l,x,hx,hp,hq=>by
    have hle:l.countP q≤l.countP p := List.countP_mono_left (fun x _=>h x)
    rw [List.countP_cons,List.countP_cons]
    rcases List.mem_cons.1 hx with rfl | hx
    · rw [hp,hq]; simp; omega
    · have := countP_lt p q h l x hx hp hq
      have h2:(if q y=true then 1 else 0)≤(if p y=true then 1 else 0) := by
        by_cases hy:q y=true
        · rw [if_pos hy,if_pos (h y hy)]; exact Nat.le_refl 1
        · rw [if_neg hy]; exact Nat.zero_le _
      omega
def rest (n:Nat) (L:Array Bool):Nat := (List.range n).countP fun i=>!L.getD i true
theorem getD_set {L:Array Bool} {i j:Nat}:(L.setIfInBounds i true).getD j true=(if i=j then true else L.getD j true) := by
  simp only [Array.getD_eq_getD_getElem?,Array.getElem?_setIfInBounds]
  split
  · rename_i h; subst h
    by_cases h:i<L.size
    · simp [h]
    · simp [h]
  · rfl
theorem rest_set {n i:Nat} {L:Array Bool} (hi:i<n) (h:L.getD i true=false):rest n (L.setIfInBounds i true)<rest n L := by
  refine countP_lt _ _ (fun x hx=>?_) _ i (List.mem_range.2 hi) (by simp [h]) (by rw [getD_set]; simp)
  rw [getD_set] at hx
  split at hx
  · simp at hx
  · exact hx
theorem rest_all (n:Nat):rest n (Array.replicate n false)≤n := by
  have := List.countP_le_length (p := fun i=>!(Array.replicate n false).getD i true) (l := List.range n)
  simpa [rest] using this
section
variable {P:Program} {md:Region.Mode} {ops:Array Oper} {Q:Exit→Act→World→Prop}
theorem ready_mem {L:Array Bool} {i:Nat} (h:i∈Region.ready md ops L):i<ops.size∧L.getD i true=false∧((ops[i]?).map (·.after.all fun e=>!Region.binds md e || L.getD e.on false)).getD false=true := by
  unfold Region.ready at h
  rw [List.mem_filter] at h
  obtain ⟨h1,h2⟩ := h
  simp only [Bool.and_eq_true,Bool.not_eq_true'] at h2
  exact ⟨List.mem_range.1 h1,h2.1,h2.2⟩
theorem ready_nil {L:Array Bool} (h:Region.ready md ops L=[]) (i:Nat) (hi:i<ops.size) (hd:((ops[i]?).map (·.after.all fun e=>!Region.binds md e || L.getD e.on false)).getD false=true):L.getD i true=true := by
  cases hL:L.getD i true with
  | true=>rfl
  | false =>
    have:i∈Region.ready md ops L := by
      unfold Region.ready
      rw [List.mem_filter]
      exact ⟨List.mem_range.2 hi,by simp only [hL,Bool.not_false,Bool.true_and]; exact hd⟩
    rw [h] at this; cases this
theorem wpAny_inv (I:Array Bool→Act→World→Prop) (hend:∀L a w,I L a w→Region.ready md ops L=[]→Q .normal a w)
    (hstep:∀L a w i,I L a w→i∈Region.ready md ops L→wpOp P ops Q i (I (L.setIfInBounds i true)) a w) :
    ∀(fuel:Nat) (L:Array Bool) (a:Act) (w:World),rest ops.size L≤fuel→I L a w→wpAny P md ops Q fuel L a w
  | 0,L,a,w,hr,h=>by
    have:Region.ready md ops L=[] := by
      cases e:Region.ready md ops L with
      | nil=>rfl
      | cons i l =>
        have hm := ready_mem (md := md) (ops := ops) (L := L) (i := i) (by rw [e]; simp)
        have := rest_set hm.1 hm.2.1
        omega
    exact ⟨this,hend L a w h this⟩
  | fuel+1,L,a,w,hr,h=>⟨fun h0=>hend L a w h h0,fun i hi=>by
    have hm := ready_mem hi
    have := rest_set hm.1 hm.2.1
    exact wpOp_mono (fun a' w' h'=>wpAny_inv I hend hstep fuel _ a' w' (by omega) h') (hstep L a w i h hi)⟩
theorem wp_region_inv {id:Nat} {a:Act} {w:World} (hm:P.follows .mixedOrders=true) (I:Array Bool→Act→World→Prop) (h0:I (Array.replicate ops.size false) a w.drew)
    (hend:∀L a w,I L a w→Region.ready .any ops L=[]→Q .normal a w)
    (hstep:∀L a w i,I L a w→i∈Region.ready .any ops L→wpOp P ops Q i (I (L.setIfInBounds i true)) a w):(Code.region id ops true).wp P Q a w :=
  wp_region_any hm (wpAny_inv I hend hstep _ _ _ _ (rest_all _) h0)
end
theorem getD_tf {L:Array Bool} {k:Nat} (h:L.getD k false=true):L.getD k true=true := by
  simp only [Array.getD_eq_getD_getElem?] at h ⊢
  cases e:L[k]? with
  | none=>rfl
  | some b=>rw [e] at h; exact h
theorem getD_ft {L:Array Bool} {k:Nat} (hk:k<L.size) (h:L.getD k true=true):L.getD k false=true := by
  simp only [Array.getD_eq_getD_getElem?] at h ⊢
  rw [Array.getElem?_eq_getElem hk] at h ⊢
  exact h
def withs (a:Act):List Nat→List Value→Act
  | d :: ds,x :: xs=>withs (a.put (some d) x) ds xs
  | _,_=>a
theorem put_same (a:Act) (d:Nat):∃x,a.put (some d) x=a := by
  by_cases h:d<a.tmps.size
  · refine ⟨a.tmps[d],?_⟩
    unfold Act.put
    simp only
    have:a.tmps.setIfInBounds d a.tmps[d]=a.tmps := by
      apply Array.ext
      · simp
      · intro i h1 h2
        rw [Array.getElem_setIfInBounds]
        split
        · rename_i e; subst e; rfl
        · rfl
    rw [this]
  · refine ⟨undef,?_⟩
    unfold Act.put
    simp only
    have:a.tmps.setIfInBounds d undef=a.tmps := by
      apply Array.ext
      · simp
      · intro i h1 h2
        rw [Array.getElem_setIfInBounds,if_neg (by omega)]
    rw [this]
theorem withs_start (a:Act):∀ds:List Nat,∃xs:List Value,xs.length=ds.length∧withs a ds xs=a
  | []=>⟨[],rfl,rfl⟩
  | d :: ds=>by
    obtain ⟨x,hx⟩ := put_same a d
    obtain ⟨xs,h1,h2⟩ := withs_start a ds
    exact ⟨x :: xs,by simp [h1],by simp only [withs,hx,h2]⟩
def preds (ops:Array Oper) (i:Nat):List Nat := ((ops[i]?).map fun o=>(o.after.toList.filter (Region.binds .any)).map (·.on)).getD []
def inOrder (ops:Array Oper):Bool := (List.range ops.size).all fun i=>(preds ops i).all fun k=>decide (k<i)
theorem inOrder_spec {ops:Array Oper} (h:inOrder ops=true) {i k:Nat} (hi:i<ops.size) (hk:k∈preds ops i):k<i := by
  unfold inOrder at h
  rw [List.all_eq_true] at h
  have := h i (List.mem_range.2 hi)
  rw [List.all_eq_true] at this
  exact of_decide_eq_true (this k hk)
theorem ready_preds {ops:Array Oper} {L:Array Bool} {i k:Nat} (h:i∈Region.ready .any ops L) (hk:k∈preds ops i):L.getD k true=true := by
  obtain ⟨_,o,ho,hall⟩ := mem_ready.1 h
  unfold preds at hk
  rw [ho] at hk
  simp only [Option.map_some,Option.getD_some,List.mem_map,List.mem_filter] at hk
  obtain ⟨e,⟨h1,h2⟩,rfl⟩ := hk
  exact getD_tf (hall e (by simpa using h1) h2)
theorem ready_all {ops:Array Oper} {L:Array Bool} (hs:L.size=ops.size) (ho:inOrder ops=true) (h:Region.ready .any ops L=[]):∀i,i<ops.size→L.getD i true=true := by
  intro i
  induction i using Nat.strongRecOn with
  | ind i ih =>
    intro hi
    refine ready_nil (md := .any) (ops := ops) h i hi ?_
    rw [Array.getElem?_eq_getElem hi]
    simp only [Option.map_some,Option.getD_some,Array.all_eq_true_iff_forall_mem,Bool.or_eq_true]
    intro e he
    cases hb:Region.binds .any e with
    | false=>exact Or.inl rfl
    | true =>
      have hk:e.on∈preds ops i := by
        unfold preds
        rw [Array.getElem?_eq_getElem hi]
        simp only [Option.map_some,Option.getD_some,List.mem_map,List.mem_filter]
        exact ⟨e,⟨by simpa using he,hb⟩,rfl⟩
      have hlt := inOrder_spec ho hi hk
      exact Or.inr (getD_ft (by omega) (ih _ hlt (by omega)))
def upd (f:Nat→Bool) (i:Nat):Nat→Bool := fun k=>Nat.beq i k || f k
theorem upd_set {L:Array Bool} {i:Nat}:(fun k=>(L.setIfInBounds i true).getD k true)=upd (fun k=>L.getD k true) i := by
  funext k
  rw [getD_set]
  unfold upd
  by_cases h:i=k
  · subst h; simp
  · rw [if_neg h]
    have:Nat.beq i k=false := by
      cases hb:Nat.beq i k with
      | false=>rfl
      | true=>exact absurd (Nat.eq_of_beq_eq_true hb) h
    rw [this]; rfl
section
variable {P:Program} {ops:Array Oper} {Q:Exit→Act→World→Prop}
theorem wpOp_run {i:Nat} {o:Oper} {K:Act→World→Prop} {a:Act} {w:World} (ho:ops[i]? = some o) (hg:o.guard=none) (h:∀K':Act→World→Prop,(∀a w,K a w→K' a w)→Oper.wp P o a w K' Q):wpOp P ops Q i K a w :=
  wpOp_step ho (fun K' hK=>by rw [if_pos (by simp [Region.wanted,hg])]; exact h K' hK)
theorem step_wp {o:Oper} {K:Act→World→Prop} {a:Act} {w:World} (hg:o.guard=none) (h:if Region.wanted o (yielded #[] a.tmps)=true then Oper.wp P o a w K Q else True):Oper.wp P o a w K Q := by
  rw [if_pos (by simp [Region.wanted,hg])] at h; exact h
theorem wp_region_frame {id:Nat} {a:Act} {w:World} (ds:List Nat) (J:(Nat→Bool)→List Value→World→Prop) (hm:P.follows .mixedOrders=true) (ho:inOrder ops=true)
    (h0:∀f xs,(∀k,k<ops.size→f k=false)→xs.length=ds.length→withs a ds xs=a→J f xs w.drew)
    (hend:∀f xs w',(∀i,i<ops.size→f i=true)→J f xs w'→Q .normal (withs a ds xs) w')
    (hstep:∀i,i<ops.size→∀f xs w',f i=false→(∀k∈preds ops i,f k=true)→J f xs w'→wpOp P ops Q i (fun a' w''=>∃ys,a'=withs a ds ys∧J (upd f i) ys w'') (withs a ds xs) w') :
    (Code.region id ops true).wp P Q a w := by
  refine wp_region_inv hm (fun L a' w'=>L.size=ops.size∧∃xs,a'=withs a ds xs∧J (fun k=>L.getD k true) xs w') ?_ ?_ ?_
  · obtain ⟨xs,h1,h2⟩ := withs_start a ds
    refine ⟨by simp,xs,h2.symm,?_⟩
    exact h0 _ xs (fun k hk=>by simp [hk]) h1 h2
  · rintro L a' w' ⟨h1,xs,rfl,h2⟩ hr
    exact hend _ _ _ (ready_all h1 ho hr) h2
  · rintro L a' w' i ⟨h1,xs,rfl,h2⟩ hi
    have hm := mem_ready.1 hi
    have hlt:i<ops.size := by
      obtain ⟨_,o,ho,_⟩ := hm
      exact (Array.getElem?_eq_some_iff.1 ho).1
    refine wpOp_mono (fun a'' w'' h=>?_) (hstep i hlt _ xs w' hm.1 (fun k hk=>ready_preds hi hk) h2)
    obtain ⟨ys,e,hj⟩ := h
    exact ⟨by simpa using h1,ys,e,by rw [upd_set]; exact hj⟩
end
theorem fft {b:Bool} {p:Prop} (h:b=false) (h':b=true):p := by rw [h] at h'; cases h'
end
noncomputable section
theorem at4J {w:World} {b:Nat} {a0 a1 a2 a3 v0 v1 v2 v3:Value} {T:TypeId} (h:w.heap[b]? = some (.cells #[a0,a1,a2,a3] T (0,0))):((((w.setCell ⟨b,0,none⟩ v0).setCell ⟨b,1,none⟩ v1).setCell ⟨b,2,none⟩ v2).setCell ⟨b,3,none⟩ v3).heap[b]? = some (.cells #[v0,v1,v2,v3] T (0,0)) :=
  heap_set (heap_set (heap_set (heap_set h 0 v0) 1 v1) 2 v2) 3 v3
theorem keeps4J {w:World} {b:Nat} {v0 v1 v2 v3:Value}:Keeps (fun k=>k=b) w ((((w.setCell ⟨b,0,none⟩ v0).setCell ⟨b,1,none⟩ v1).setCell ⟨b,2,none⟩ v2).setCell ⟨b,3,none⟩ v3) :=
  Keeps.set (P := fun k=>k=b) (Keeps.set (P := fun k=>k=b) (Keeps.set (P := fun k=>k=b) (Keeps.set (P := fun k=>k=b) (Keeps.refl (fun k=>k=b) w) (Or.inl rfl) 0 v0) (Or.inl rfl) 1 v1) (Or.inl rfl) 2 v2) (Or.inl rfl) 3 v3
structure RJ (w:World) (FCv:List Value) (v:Nat) (s:ByteArray) (T:Fm) (c j:Int) (f:Nat→Bool) (x140 x141 x142 x143 x144 x145 x139 x146 x147 x21 x22:Value) (W:World):Prop where
  b:Below w.heap.size w W
  h0:f 0=true→x140=.agg FCv.toArray
  h1:f 1=true→x141=.int .i64 (v:Nat)
  h2:f 2=true→x142=.string s
  h3:f 3=true→x143=.string (⟨#[97]⟩++s)
  h4:f 4=true→x144=.string (hereS s)
  h5:f 5=true→∃(es:List Value) (lo hi:Nat),x145=.tuple #[.agg es.toArray,.agg #[.int .i64 c,.int .i64 j]]∧fmRep.R W (fun b=>lo≤b∧b<hi) T es∧w.heap.size≤lo∧hi≤W.heap.size∧(f 7=true→x146=.agg es.toArray)∧(∀g,f 9=true→x21=.pointer (some ⟨g,0,none⟩)→g<lo∨hi≤g)∧(∀g,f 10=true→x22=.pointer (some ⟨g,0,none⟩)→g<lo∨hi≤g)∧(f 11=true→∀g,x21=.pointer (some ⟨g,0,none⟩)→W.heap[g]? = some (.cells es.toArray 29 (0,0)))
  h6:f 6=true→x139=x145
  h8:f 8=true→x147=.agg #[.int .i64 c,.int .i64 j]
  h9:f 9=true→∃g,x21=.pointer (some ⟨g,0,none⟩)∧w.heap.size≤g∧g<W.heap.size∧(f 11=false→W.heap[g]? = some (.cells #[.int .i64 0,.string ⟨#[]⟩,.slice none 0 0,.slice none 0 0] 29 (0,0)))
  h10:f 10=true→∃g,x22=.pointer (some ⟨g,0,none⟩)∧w.heap.size≤g∧g<W.heap.size∧(f 12=false→W.heap[g]? = some (.cells #[.int .i64 0,.int .i64 0] 32 (0,0)))∧(f 12=true→W.heap[g]? = some (.cells #[.int .i64 c,.int .i64 j] 32 (0,0)))
  d:f 9=true→f 10=true→x21≠x22
  o7:f 7=true→f 5=true
  o6:f 6=true→f 5=true
  o11:f 11=true→f 9=true∧f 5=true
  o12:f 12=true→f 10=true
section
variable {w:World} {FCv:List Value} {v:Nat} {s:ByteArray} {T:Fm} {c j:Int} {f:Nat→Bool} {x140 x141 x142 x143 x144 x145 x139 x146 x147 x21 x22:Value} {W:World} 
theorem RJ.grow {W':World} (h:RJ w FCv v s T c j f x140 x141 x142 x143 x144 x145 x139 x146 x147 x21 x22 W) (hb:Below W.heap.size W W'):RJ w FCv v s T c j f x140 x141 x142 x143 x144 x145 x139 x146 x147 x21 x22 W' where
  b := h.b.trans (hb.mono h.b.size)
  h0 := h.h0
  h1 := h.h1
  h2 := h.h2
  h3 := h.h3
  h4 := h.h4
  h5 := fun e=>by
    obtain ⟨es,lo,hi,e1,e2,e3,e4,e5,e6,e7,e8⟩ := h.h5 e
    have hs := hb.size
    refine ⟨es,lo,hi,e1,fmRep.keep e2 (fun b hh=>hb.block b (by have := hh.2; omega)) (fun _ h=>h),e3,by omega,e5,e6,e7,fun e11 g eg=>?_⟩
    have hx := e8 e11 g eg
    exact (hb.block g (lt_heap hx)).trans hx
  h6 := h.h6
  h8 := h.h8
  h9 := fun e=>by
    obtain ⟨g,e1,e2,e3,e4⟩ := h.h9 e
    exact ⟨g,e1,e2,Nat.lt_of_lt_of_le e3 hb.size,fun e5=>(hb.block g e3).trans (e4 e5)⟩
  h10 := fun e=>by
    obtain ⟨g,e1,e2,e3,e4,e6⟩ := h.h10 e
    exact ⟨g,e1,e2,Nat.lt_of_lt_of_le e3 hb.size,fun e5=>(hb.block g e3).trans (e4 e5),fun e5=>(hb.block g e3).trans (e6 e5)⟩
  d := h.d
  o7 := h.o7
  o6 := h.o6
  o11 := h.o11
  o12 := h.o12
theorem RJ.start (hf:∀k,k<13→f k=false) (hb:Below w.heap.size w W):RJ w FCv v s T c j f x140 x141 x142 x143 x144 x145 x139 x146 x147 x21 x22 W where
  b := hb
  h0 := fft (hf 0 (by decide))
  h1 := fft (hf 1 (by decide))
  h2 := fft (hf 2 (by decide))
  h3 := fft (hf 3 (by decide))
  h4 := fft (hf 4 (by decide))
  h5 := fft (hf 5 (by decide))
  h6 := fft (hf 6 (by decide))
  h8 := fft (hf 8 (by decide))
  h9 := fft (hf 9 (by decide))
  h10 := fft (hf 10 (by decide))
  d := fft (hf 9 (by decide))
  o7 := fft (hf 7 (by decide))
  o6 := fft (hf 6 (by decide))
  o11 := fft (hf 11 (by decide))
  o12 := fft (hf 12 (by decide))
theorem RJ.st0 (h:RJ w FCv v s T c j f x140 x141 x142 x143 x144 x145 x139 x146 x147 x21 x22 W):RJ w FCv v s T c j (upd f 0) (.agg FCv.toArray) x141 x142 x143 x144 x145 x139 x146 x147 x21 x22 W := { h with h0 := fun _=>rfl }
theorem RJ.st1 (h:RJ w FCv v s T c j f x140 x141 x142 x143 x144 x145 x139 x146 x147 x21 x22 W):RJ w FCv v s T c j (upd f 1) x140 (.int .i64 (v:Nat)) x142 x143 x144 x145 x139 x146 x147 x21 x22 W := { h with h1 := fun _=>rfl }
theorem RJ.st2 (h:RJ w FCv v s T c j f x140 x141 x142 x143 x144 x145 x139 x146 x147 x21 x22 W):RJ w FCv v s T c j (upd f 2) x140 x141 (.string s) x143 x144 x145 x139 x146 x147 x21 x22 W := { h with h2 := fun _=>rfl }
theorem RJ.st3 (h:RJ w FCv v s T c j f x140 x141 x142 x143 x144 x145 x139 x146 x147 x21 x22 W):RJ w FCv v s T c j (upd f 3) x140 x141 x142 (.string (⟨#[97]⟩++s)) x144 x145 x139 x146 x147 x21 x22 W := { h with h3 := fun _=>rfl }
theorem RJ.st4 (h:RJ w FCv v s T c j f x140 x141 x142 x143 x144 x145 x139 x146 x147 x21 x22 W):RJ w FCv v s T c j (upd f 4) x140 x141 x142 x143 (.string ((⟨#[97]⟩++s)++⟨#[45,104,101,114,101]⟩)) x145 x139 x146 x147 x21 x22 W := { h with h4 := fun _=>rfl }
theorem RJ.st5 {es:List Value} {W':World} (h:RJ w FCv v s T c j f x140 x141 x142 x143 x144 x145 x139 x146 x147 x21 x22 W) (h5n:f 5=false) (hb:Below W.heap.size W W') (hes:fmRep.R W' (fun b=>W.heap.size≤b∧b<W'.heap.size) T es):RJ w FCv v s T c j (upd f 5) x140 x141 x142 x143 x144 (.tuple #[.agg es.toArray,.agg #[.int .i64 c,.int .i64 j]]) x139 x146 x147 x21 x22 W' := by
  have h7n:f 7=false := by
    cases e:f 7 with
    | false=>rfl
    | true=>have := h.o7 e; rw [h5n] at this; cases this
  have h11n:f 11=false := by
    cases e:f 11 with
    | false=>rfl
    | true=>have := (h.o11 e).2; rw [h5n] at this; cases this
  have h6n:f 6=true→False := fun e=>by have := h.o6 e; rw [h5n] at this; cases this
  have hz := h.b.size
  have h' := h.grow hb
  exact { h' with
    h5 := fun _=>⟨es,W.heap.size,W'.heap.size,rfl,hes,hz,Nat.le_refl _,fun e=>fft h7n e,fun g e eg=>by
      obtain ⟨g',e1,_,e3,_⟩ := h.h9 e
      obtain rfl:g'=g := by rw [e1] at eg; injection eg with eg; injection eg with eg; injection eg
      exact Or.inl e3,fun g e eg=>by
      obtain ⟨g',e1,_,e3,_⟩ := h.h10 e
      obtain rfl:g'=g := by rw [e1] at eg; injection eg with eg; injection eg with eg; injection eg
      exact Or.inl e3,fun e=>fft h11n e⟩
    h6 := fun e=>absurd e (fun e=>h6n e)
    o7 := fun _=>rfl
    o6 := fun _=>rfl
    o11 := fun e=>fft h11n e }
theorem RJ.st6 (h:RJ w FCv v s T c j f x140 x141 x142 x143 x144 x145 x139 x146 x147 x21 x22 W) (h5:f 5=true):RJ w FCv v s T c j (upd f 6) x140 x141 x142 x143 x144 x145 (x145) x146 x147 x21 x22 W := { h with h6 := fun _=>rfl,o6 := fun _=>h5 }
theorem RJ.st7 (h:RJ w FCv v s T c j f x140 x141 x142 x143 x144 x145 x139 x146 x147 x21 x22 W) (h6:f 6=true):∃es:List Value,x139=.tuple #[.agg es.toArray,.agg #[.int .i64 c,.int .i64 j]]∧RJ w FCv v s T c j (upd f 7) x140 x141 x142 x143 x144 x145 x139 (.agg es.toArray) x147 x21 x22 W := by
  have h5 := h.o6 h6
  obtain ⟨es,lo,hi,e1,e2,e3,e4,e5,e6,e7,e8⟩ := h.h5 h5
  exact ⟨es,(h.h6 h6).trans e1,{ h with h5 := fun _=>⟨es,lo,hi,e1,e2,e3,e4,fun _=>rfl,e6,e7,e8⟩,o7 := fun _=>h5 }⟩
theorem RJ.st8 (h:RJ w FCv v s T c j f x140 x141 x142 x143 x144 x145 x139 x146 x147 x21 x22 W) (h6:f 6=true):∃es:List Value,x139=.tuple #[.agg es.toArray,.agg #[.int .i64 c,.int .i64 j]]∧RJ w FCv v s T c j (upd f 8) x140 x141 x142 x143 x144 x145 x139 x146 (.agg #[.int .i64 c,.int .i64 j]) x21 x22 W := by
  obtain ⟨es,lo,hi,e1,_⟩ := h.h5 (h.o6 h6)
  exact ⟨es,(h.h6 h6).trans e1,{ h with h8 := fun _=>rfl }⟩
theorem RJ.st9 (h:RJ w FCv v s T c j f x140 x141 x142 x143 x144 x145 x139 x146 x147 x21 x22 W) (hn:f 9=false):RJ w FCv v s T c j (upd f 9) x140 x141 x142 x143 x144 x145 x139 x146 x147 (.pointer (some ⟨W.heap.size,0,none⟩)) x22 (W.alloc (.cells #[.int .i64 0,.string ⟨#[]⟩,.slice none 0 0,.slice none 0 0] 29)) := by
  have hz := h.b.size
  have hb:Below W.heap.size W (W.alloc (.cells #[.int .i64 0,.string ⟨#[]⟩,.slice none 0 0,.slice none 0 0] 29)) := (Below.refl _ W).alloc (Nat.le_refl _) _
  have h' := h.grow hb
  have h11n:f 11=false := by
    cases e:f 11 with
    | false=>rfl
    | true=>have := (h.o11 e).1; rw [hn] at this; cases this
  exact { h' with
    h5 := fun e=>by
      obtain ⟨es,lo,hi,e1,e2,e3,e4,e5,e6,e7,e8⟩ := h.h5 e
      obtain ⟨es',lo',hi',e1',e2',e3',e4',e5',e6',e7',e8'⟩ := h'.h5 e
      refine ⟨es,lo,hi,e1,fmRep.keep e2 (fun b hh=>hb.block b (by have := hh.2; omega)) (fun _ h=>h),e3,by simp; omega,e5,fun g _ eg=>?_,e7,fun e11=>fft h11n e11⟩
      obtain rfl:W.heap.size=g := by injection eg with eg; injection eg with eg; injection eg
      exact Or.inr e4
    h9 := fun _=>⟨_,rfl,hz,by simp,fun _=>heap_at rfl⟩
    d := fun _ e2 ee=>by
      obtain ⟨g,e1,_,e3,_⟩ := h.h10 e2
      rw [e1] at ee
      injection ee with ee; injection ee with ee; injection ee with ee
      omega
    o11 := fun e=>fft h11n e }
theorem RJ.st10 (h:RJ w FCv v s T c j f x140 x141 x142 x143 x144 x145 x139 x146 x147 x21 x22 W) (hn:f 10=false):RJ w FCv v s T c j (upd f 10) x140 x141 x142 x143 x144 x145 x139 x146 x147 x21 (.pointer (some ⟨W.heap.size,0,none⟩)) (W.alloc (.cells #[.int .i64 0,.int .i64 0] 32)) := by
  have hz := h.b.size
  have hb:Below W.heap.size W (W.alloc (.cells #[.int .i64 0,.int .i64 0] 32)) := (Below.refl _ W).alloc (Nat.le_refl _) _
  have h' := h.grow hb
  have h12n:f 12=false := by
    cases e:f 12 with
    | false=>rfl
    | true=>have := h.o12 e; rw [hn] at this; cases this
  exact { h' with
    h5 := fun e=>by
      obtain ⟨es,lo,hi,e1,e2,e3,e4,e5,e6,e7,e8⟩ := h.h5 e
      refine ⟨es,lo,hi,e1,fmRep.keep e2 (fun b hh=>hb.block b (by have := hh.2; omega)) (fun _ h=>h),e3,by simp; omega,e5,e6,fun g _ eg=>?_,fun e11 g eg=>heap_old (lt_heap (e8 e11 g eg)) (e8 e11 g eg)⟩
      obtain rfl:W.heap.size=g := by injection eg with eg; injection eg with eg; injection eg
      exact Or.inr e4
    h10 := fun _=>⟨_,rfl,hz,by simp,fun _=>heap_at rfl,fun e=>fft h12n e⟩
    d := fun e2 _ ee=>by
      obtain ⟨g,e1,_,e3,_⟩ := h.h9 e2
      rw [e1] at ee
      injection ee with ee; injection ee with ee; injection ee with ee
      omega
    o12 := fun e=>fft h12n e }
theorem RJ.st11 (h:RJ w FCv v s T c j f x140 x141 x142 x143 x144 x145 x139 x146 x147 x21 x22 W) (h5:f 5=true) (h7:f 7=true) (h9:f 9=true) (hn:f 11=false):∃(g:Nat) (k0:Int) (s0:ByteArray) (A0:Option Addr) (p0 q0:Nat) (B0:Option Addr) (r0 u0:Nat),x21=.pointer (some ⟨g,0,none⟩)∧x146=.agg #[.int .i64 k0,.string s0,.slice A0 p0 q0,.slice B0 r0 u0]∧W.heap[g]? = some (.cells #[.int .i64 0,.string ⟨#[]⟩,.slice none 0 0,.slice none 0 0] 29 (0,0))∧RJ w FCv v s T c j (upd f 11) x140 x141 x142 x143 x144 x145 x139 x146 x147 x21 x22 ((((W.setCell ⟨g,0,none⟩ (.int .i64 k0)).setCell ⟨g,1,none⟩ (.string s0)).setCell ⟨g,2,none⟩ (.slice A0 p0 q0)).setCell ⟨g,3,none⟩ (.slice B0 r0 u0)) := by
  obtain ⟨es,lo,hi,e1,e2,e3,e4,e5,e6,e7,e8⟩ := h.h5 h5
  obtain ⟨g,g1,g2,g3,g4⟩ := h.h9 h9
  have hg := g4 hn
  have hs := e6 g h9 g1
  obtain ⟨A0,p0,q0,B0,r0,u0,rfl,_,_,_,_⟩ := Fm.shape e2
  have hk:Keeps (fun k=>k=g) W ((((W.setCell ⟨g,0,none⟩ (.int .i64 T.lab.kind)).setCell ⟨g,1,none⟩ (.string T.lab.nm)).setCell ⟨g,2,none⟩ (.slice A0 p0 q0)).setCell ⟨g,3,none⟩ (.slice B0 r0 u0)) := keeps4J
  have hk1 := hk.size
  have hm := at4J (v0 := .int .i64 T.lab.kind) (v1 := .string T.lab.nm) (v2 := .slice A0 p0 q0) (v3 := .slice B0 r0 u0) hg
  have hb2:Below w.heap.size w ((((W.setCell ⟨g,0,none⟩ (.int .i64 T.lab.kind)).setCell ⟨g,1,none⟩ (.string T.lab.nm)).setCell ⟨g,2,none⟩ (.slice A0 p0 q0)).setCell ⟨g,3,none⟩ (.slice B0 r0 u0)) := h.b.trans (Keeps.below (B := w.heap.size) hk (fun k e=>by have e:k=g := e; omega) (by have := h.b.size; omega))
  refine ⟨g,_,_,A0,p0,q0,B0,r0,u0,g1,e5 h7,hg,{ h with b := hb2,h5 := fun _=>?_,h9 := fun _=>⟨g,g1,g2,by omega,fun e=>by cases e⟩,h10 := fun e=>?_,o11 := fun _=>⟨h9,h5⟩ }⟩
  · refine ⟨_,lo,hi,e1,fmRep.keep e2 (fun b hh=>hk.block b (by have := hh.2; omega) (fun e=>by have e:b=g := e; have := hh.1; have := hh.2; omega)) (fun _ h=>h),e3,by omega,e5,e6,e7,fun _ g' eg=>?_⟩
    obtain rfl:g=g' := by rw [g1] at eg; injection eg with eg; injection eg with eg; injection eg
    exact hm
  · obtain ⟨g',k1,k2,k3,k4,k5⟩ := h.h10 e
    have hne:g'≠g := fun ee=>h.d h9 e (by rw [g1,k1,ee])
    exact ⟨g',k1,k2,by omega,fun e=>(hk.block g' k3 hne).trans (k4 e),fun e=>(hk.block g' k3 hne).trans (k5 e)⟩
theorem RJ.st12 (h:RJ w FCv v s T c j f x140 x141 x142 x143 x144 x145 x139 x146 x147 x21 x22 W) (h8:f 8=true) (h9:f 9=true) (h10:f 10=true) (hn:f 12=false):∃g:Nat,x22=.pointer (some ⟨g,0,none⟩)∧x147=.agg #[.int .i64 c,.int .i64 j]∧W.heap[g]? = some (.cells #[.int .i64 0,.int .i64 0] 32 (0,0))∧RJ w FCv v s T c j (upd f 12) x140 x141 x142 x143 x144 x145 x139 x146 x147 x21 x22 ((W.setCell ⟨g,0,none⟩ (.int .i64 c)).setCell ⟨g,1,none⟩ (.int .i64 j)) := by
  obtain ⟨g,g1,g2,g3,g4,_⟩ := h.h10 h10
  have hg := g4 hn
  have hk:Keeps (fun k=>k=g) W ((W.setCell ⟨g,0,none⟩ (.int .i64 c)).setCell ⟨g,1,none⟩ (.int .i64 j)) := Keeps.set (P := fun k=>k=g) (Keeps.set (P := fun k=>k=g) (Keeps.refl (fun k=>k=g) W) (Or.inl rfl) 0 _) (Or.inl rfl) 1 _
  have hk1 := hk.size
  have hm:((W.setCell ⟨g,0,none⟩ (.int .i64 c)).setCell ⟨g,1,none⟩ (.int .i64 j)).heap[g]? = some (.cells #[.int .i64 c,.int .i64 j] 32 (0,0)) := heap_set (heap_set hg 0 (.int .i64 c)) 1 (.int .i64 j)
  have hb2:Below w.heap.size w ((W.setCell ⟨g,0,none⟩ (.int .i64 c)).setCell ⟨g,1,none⟩ (.int .i64 j)) := h.b.trans (Keeps.below (B := w.heap.size) hk (fun k e=>by have e:k=g := e; omega) (by have := h.b.size; omega))
  refine ⟨g,g1,h.h8 h8,hg,{ h with b := hb2,h5 := fun e=>?_,h9 := fun e=>?_,h10 := fun _=>⟨g,g1,g2,by omega,fun e=>(by cases e),fun _=>hm⟩,o12 := fun _=>h10 }⟩
  · obtain ⟨es,lo,hi,e1,e2,e3,e4,e5,e6,e7,e8⟩ := h.h5 e
    have hs := e7 g h10 g1
    refine ⟨es,lo,hi,e1,fmRep.keep e2 (fun b hh=>hk.block b (by have := hh.2; omega) (fun e=>by have e:b=g := e; have := hh.1; have := hh.2; omega)) (fun _ h=>h),e3,by omega,e5,e6,e7,fun e11 g' eg=>?_⟩
    have hx := e8 e11 g' eg
    exact (hk.block g' (lt_heap hx) (fun ee=>h.d h9 h10 (by have ee:g'=g := ee; rw [eg,g1,ee]))).trans hx
  · obtain ⟨g',k1,k2,k3,k4⟩ := h.h9 e
    have hne:g'≠g := fun ee=>h.d e h10 (by rw [g1,k1,ee])
    exact ⟨g',k1,k2,by omega,fun e=>(hk.block g' k3 hne).trans (k4 e)⟩
theorem RJ.fin (h:RJ w FCv v s T c j f x140 x141 x142 x143 x144 x145 x139 x146 x147 x21 x22 W) (hf:∀k,k<13→f k=true):∃(es:List Value) (gg gy:Nat),x21=.pointer (some ⟨gg,0,none⟩)∧x22=.pointer (some ⟨gy,0,none⟩)∧W.heap[gg]? = some (.cells es.toArray 29 (0,0))∧W.heap[gy]? = some (.cells #[.int .i64 c,.int .i64 j] 32 (0,0))∧fmRep.R W (fun b=>b<W.heap.size) T es∧Below w.heap.size w W := by
  obtain ⟨es,lo,hi,e1,e2,e3,e4,e5,e6,e7,e8⟩ := h.h5 (hf 5 (by decide))
  obtain ⟨g,g1,g2,g3,_⟩ := h.h9 (hf 9 (by decide))
  obtain ⟨g',k1,k2,k3,_,k5⟩ := h.h10 (hf 10 (by decide))
  exact ⟨es,g,g',g1,k1,e8 (hf 11 (by decide)) g g1,k5 (hf 12 (by decide)),fmRep.keep e2 (fun _ _=>rfl) (fun b hb=>by have := hb.2; omega),h.b⟩
end
def RJx (w:World) (FCv:List Value) (v:Nat) (s:ByteArray) (T:Fm) (c j:Int) (f:Nat→Bool) (ys:List Value) (W:World):Prop := ∃x140 x141 x142 x143 x144 x145 x139 x146 x147 x21 x22:Value,ys=[x140,x141,x142,x143,x144,x145,x139,x146,x147,x21,x22]∧RJ w FCv v s T c j f x140 x141 x142 x143 x144 x145 x139 x146 x147 x21 x22 W
theorem RJ.mk_ {w:World} {FCv:List Value} {v:Nat} {s:ByteArray} {T:Fm} {c j:Int} {f:Nat→Bool} {x140 x141 x142 x143 x144 x145 x139 x146 x147 x21 x22:Value} {W:World} (h:RJ w FCv v s T c j f x140 x141 x142 x143 x144 x145 x139 x146 x147 x21 x22 W):RJx w FCv v s T c j f [x140,x141,x142,x143,x144,x145,x139,x146,x147,x21,x22] W := ⟨_,_,_,_,_,_,_,_,_,_,_,rfl,h⟩
theorem len11 {xs:List Value} (h:xs.length=11):∃x140 x141 x142 x143 x144 x145 x139 x146 x147 x21 x22:Value,xs=[x140,x141,x142,x143,x144,x145,x139,x146,x147,x21,x22] := by
  match xs,h with
  | [x140,x141,x142,x143,x144,x145,x139,x146,x147,x21,x22],_=>exact ⟨x140,x141,x142,x143,x144,x145,x139,x146,x147,x21,x22,rfl⟩
end

end Go.Proofs.YthfokmjpbnfihaaDoor
