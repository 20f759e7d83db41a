/-
  The statement TruthOfInstancesCardSaid is proved: whatever its arguments, the law TruthOfInstances returns true, and they read afterwards as before.
  Conditions: those of the given row alone (the listed variables are laid as the program's text lays them; the card ties that).
-/
import Derived.Test.YthfokmjpbnfihaaDoorTie
import Derived.Test.YthfokmjpbnfihaaDoorCards
import Derived.Test.YthfokmjpbnfihaaDoorIv
import Derived.Test.YthfokmjpbnfihaaDoorIzh
import Derived.Test.YthfokmjpbnfihaaDoorIzk
import Derived.Test.YthfokmjpbnfihaaDoorIzl
import Derived.Test.YthfokmjpbnfihaaDoorIzm
import Derived.SevenTiedAt
namespace Go.Proofs.YthfokmjpbnfihaaDoor
open Go Go.RowKit
set_option linter.unusedSimpArgs false
set_option linter.unusedVariables false
noncomputable section
set_option maxRecDepth 100000
set_option maxHeartbeats 4000000
variable {w:World} {m:Md} {S:Nat→Prop}

theorem okName_le {s:ByteArray} (h:okName s=true):s.size≤30 := (okName_sizeF h).2
theorem below_keeps9 {w':World} (h:Below w.heap.size w w') (P:Nat→Prop):Keeps P w w' := ⟨h.os,h.tape,h.output,h.size,fun k hk _=>h.block k hk⟩
theorem Md.slices9 {z:Value} {Am Bm:Option Addr} {n1 cm n2 dm:Nat} (h:m.In w S [z,.slice Am n1 cm,.slice Bm n2 dm]):conRep.Sl w S (.slice Am n1 cm) m.cs∧relRep.Sl w S (.slice Bm n2 dm) m.rs := by
  obtain ⟨va,vb,e,h1,h2⟩ := h
  simp only [List.cons.injEq,and_true] at e
  obtain ⟨_,rfl,rfl⟩ := e
  exact ⟨h1,h2⟩
theorem hereS_eq:∀v:Nat,v<6→hereS ⟨(Lib.decDigits v).toArray⟩=hereB v := by
  intro v hv
  have h1:Lib.decDigits v=[UInt8.ofNat (48+v % 10)] := by
    rw [Lib.decDigits,dif_pos (by omega),Nat.mod_eq_of_lt (by omega)]
  rw [h1]
  rcases (by omega:v=0∨v=1∨v=2∨v=3∨v=4∨v=5) with rfl | rfl | rfl | rfl | rfl | rfl <;> decide +kernel
theorem hereB_size (v:Nat):(hereB v).size=7 := rfl
theorem conAll:∀l:List Con,(∀c∈l,c.nm.size≤maxLen)→conRep.All w S l (conL l)
  | [],_=>rfl
  | c :: l,h=>⟨[.string c.nm,.int .i64 c.v],conL l,rfl,⟨rfl,h c (by simp)⟩,conAll l (fun d hd=>h d (List.mem_cons_of_mem _ hd))⟩
theorem putL_le:∀(cs l:List Con),(putL l cs).length≤l.length+cs.length
  | [],l=>Nat.le_refl _
  | c :: cs,l=>by
    have h1 := putL_le cs (putG false l c)
    have h2 := putG_le c l false
    rw [show putL l (c :: cs)=putL (putG false l c) cs from rfl,List.length_cons]; omega
theorem putG_names (c:Con):∀(l:List Con) (d:Bool),∀y∈putG d l c,y=c∨y∈l
  | [],d,y,h=>by
    unfold putG at h
    split at h
    · cases h
    · exact Or.inl (List.mem_singleton.1 h)
  | x :: l,d,y,h=>by
    unfold putG at h
    split at h
    · rcases List.mem_cons.1 h with h | h
      · exact Or.inl h
      · rcases List.mem_cons.1 h with h | h
        · exact Or.inr (by rw [h]; simp)
        · rcases putG_names c l true y h with h | h
          · exact Or.inl h
          · exact Or.inr (List.mem_cons_of_mem _ h)
    · rcases List.mem_cons.1 h with h | h
      · exact Or.inr (by rw [h]; simp)
      · rcases putG_names c l _ y h with h | h
        · exact Or.inl h
        · exact Or.inr (List.mem_cons_of_mem _ h)
theorem putL_names:∀(cs l:List Con),∀y∈putL l cs,y∈l∨y∈cs
  | [],l,y,h=>Or.inl h
  | c :: cs,l,y,h=>by
    rcases putL_names cs (putG false l c) y h with h | h
    · rcases putG_names c l false y h with h | h
      · exact Or.inr (by rw [h]; simp)
      · exact Or.inl h
    · exact Or.inr (List.mem_cons_of_mem _ h)
theorem putL_take (l cs:List Con) {i:Nat} (hi:i<cs.length):putL l (cs.take (i+1))=putG false (putL l (cs.take i)) cs[i] := by
  rw [List.take_succ_eq_append_getElem hi]
  unfold putL
  rw [List.foldl_append]; rfl
theorem hereL_next (v:Nat):hereL (v+1)=hereL v++[⟨hereB v,(v:Int)⟩] := by
  unfold hereL
  rw [List.range_succ,List.map_append]; rfl
theorem hereL_len (v:Nat):(hereL v).length=v := by unfold hereL; rw [List.length_map,List.length_range]
theorem range_all_next (p:Nat→Bool) (v:Nat):(List.range (v+1)).all p=((List.range v).all p && p v) := by
  rw [List.range_succ,List.all_append]; simp
theorem range_any_next (p:Nat→Bool) (v:Nat):(List.range (v+1)).any p=((List.range v).any p || p v) := by
  rw [List.range_succ,List.any_append]; simp
theorem inst_law {k:Nat} {x:ByteArray} {b:Fv} (hz:(holdsC m (Fv.qu k x b).fm).1=0) (hok:(Fv.qu k x b).ok) :
    holdsB m (Fv.qu k x b).fm=if k=8 then (List.range m.sz.toNat).all (fun v=>evalF m b [(x,(v:Int))]) else (List.range m.sz.toNat).any (fun v=>evalF m b [(x,(v:Int))]) := by
  rw [holdsB_good hz hok]
  show (if k=8 then (rangeV m).all (fun v=>evalF m b ([]++[(x,v)])) else (rangeV m).any (fun v=>evalF m b ([]++[(x,v)])))=_
  unfold rangeV
  rw [List.all_map,List.any_map]
  simp only [Function.comp_def,List.nil_append]
theorem instTruth_any (m:Md) (t:Fm) (ms cs:List Value) (w:World) (S:Nat→Prop) (hm:m.In w S ms) (ht:fmRep.R w S t cs) (hS:∀b,S b→b<w.heap.size) (g0:w.cell? ⟨0,0,none⟩=some (.int .i64 0)) (g1:w.cell? ⟨0,1,none⟩=some (.int .i64 0)) (htab:∀W2,Below w.heap.size w W2→Lib.TabIs Tryd.prog W2 "internal/strconv.uint64pow10" .u64 Lib.pow10Tab):Calls Tryd.prog 4 #[.agg ms.toArray,.agg cs.toArray] w fun e w'=>e=.returned (.bool true)∧Below w.heap.size w w' := by
  obtain ⟨A,n1,c1,B,n2,c2,rfl,_,_,_,_⟩ := Fm.shape ht
  obtain ⟨Am,cm,Bm,dm,rfl,_,_,_,_⟩ := Md.shape hm
  obtain ⟨kd,hkd⟩:∃k,t.lab.kind=k := ⟨_,rfl⟩
  obtain ⟨nm,hnm⟩:∃k,t.lab.nm=k := ⟨_,rfl⟩
  have hcs0 := (Md.slices9 hm).1
  have hrs0 := (Md.slices9 hm).2
  rw [hkd,hnm] at ht ⊢
  go_enter Tryd.func4,Tryd.ntmps4
  have lg := World.block_lt_of_cell? w _ g0
  have hret:∀a' w',Frm 179 [(4,.bool true)] a'→Below w.heap.size w w'→bodyPost Tryd.prog Tryd.f4 (fun e w'=>e=.returned (.bool true)∧Below w.heap.size w w') .ret a' w' := fun a' w' h hb=>tn_ret_wp ⟨rfl,hb⟩ a' h
  have gg := fun (W:World) (hb:Below w.heap.size w W)=>And.intro ((hb.cell (p := ⟨0,0,none⟩) lg).trans g0) ((hb.cell (p := ⟨0,1,none⟩) lg).trans g1)
  have hmk := fun (W:World) (hb:Below w.heap.size w W)=>Md.In.keep (w' := W) (S' := Lo W) hm (fun b hbS=>hb.block b (hS b hbS)) (fun b hbS=>Nat.lt_of_lt_of_le (hS b hbS) hb.size)
  have hold := fun (W:World) (hb:Below w.heap.size w W)=>fmRep.keep (w' := W) (S' := Lo W) ht (fun b hbS=>hb.block b (hS b hbS)) (fun b hbS=>Nat.lt_of_lt_of_le (hS b hbS) hb.size)
  have htb := fun (W:World) (hb:Below w.heap.size w W)=>fun (W2:World) (h2:Below W.heap.size W W2)=>htab W2 (hb.trans (h2.mono hb.size))
  refine wp_seq ?_
  refine tn_r0_wp (fun a0 h0=>?_) _ (id ⟨rfl,rfl,rfl,rfl,trivial⟩)
  refine gen_last (fun wx=>wx.heap[w.heap.size]? = some (.cells #[.int .i64 m.sz,.slice Am m.cs.length cm,.slice Bm m.rs.length dm] 25 (0,0))∧wx.heap[w.heap.size+1]? = some (.cells #[.int .i64 kd,.string nm,.slice A n1 c1,.slice B n2 c2] 29 (0,0))∧Below w.heap.size w wx) ⟨heap_old (by simp) (heap_at rfl),heap_at (by simp),by go_grown⟩ ?_
  rintro wy ⟨hmy,hay,hby⟩
  refine wp_seq ?_
  refine wp_seq ?_
  refine tn_r1_wp (fun W ms9 cs9 q1 q2 _=>holds_good exSomeNot_zero exSomeNot_ok exSomeNot_eval ms9 cs9 W _ q1 q2 (fun _ h=>h)) (fun ge1 a1 w1 h1 he1 hb1'=>?_) a0 h0
  have hb1 := hby.trans (hb1'.mono hby.size)
  refine wp_seq ?_
  refine tn_r2_wp (gg w1 hb1).1 (gg w1 hb1).2 he1 (fun a2 h2=>?_) a1 h1
  refine wp_cond_false ((h2.eval (k := 39) (v := .bool false) (by simp)).trans rfl) ?_
  refine wp_skip ?_
  show Code.wp _ _ _ a2 w1
  have hm1 := (hb1'.block _ (lt_heap hmy)).trans hmy
  have ha1 := (hb1'.block _ (lt_heap hay)).trans hay
  refine wp_seq ?_
  refine wp_seq ?_
  refine tn_r4_wp (fun W ms9 cs9 q1 q2 _=>holds_good exAll_zero exAll_ok exAll_eval ms9 cs9 W _ q1 q2 (fun _ h=>h)) (fun ge2 a3 w3 h3 he3 hb3'=>?_) a2 (h2.pick [0,1])
  have hb3 := hb1.trans (hb3'.mono hb1.size)
  have hm3 := (hb3'.block _ (lt_heap hm1)).trans hm1
  have ha3 := (hb3'.block _ (lt_heap ha1)).trans ha1
  refine wp_seq ?_
  refine tn_r5_wp (gg w3 hb3).1 (gg w3 hb3).2 he3 (fun a4 h4=>?_) a3 h3
  refine wp_cond_false ((h4.eval (k := 54) (v := .bool false) (by simp)).trans rfl) ?_
  refine wp_skip ?_
  show Code.wp _ _ _ a4 w3
  refine wp_seq ?_
  refine tn_r7_wp hm3 ha3 (holdsB_any m t _ _ w3 _ (hold w3 hb3) (hmk w3 hb3) (fun _ h=>h)) (fun gx a5 w5 h5 he5 hb5'=>?_) a4 (h4.pick [0,1])
  have hb5 := hb3.trans (hb5'.mono hb3.size)
  have hm5 := (hb5'.block _ (lt_heap hm3)).trans hm3
  have ha5 := (hb5'.block _ (lt_heap ha3)).trans ha3
  refine wp_seq ?_
  refine wp_seq ?_
  by_cases hc1:(holdsC m t).1=0
  case neg =>
    refine tn_r8c_wp (gg w5 hb5).1 (gg w5 hb5).2 hc1 he5 (fun a6 h6=>?_) a5 h5
    refine wp_cond_true ((h6.eval (k := 79) (v := .bool true) (by simp)).trans rfl) ?_
    refine wp_seq ?_
    refine tn_r9_wp (fun a7 h7=>?_) a6 (h6.pick [0])
    refine wp_ret ?_
    repeat (first | refine thenR ?_ | refine inBlockR ?_)
    exact hret a7 _ h7 hb5
  obtain ⟨hmf9,hff9,_⟩ := holdsC_ok hc1
  have hg := Md.good_of hmf9
  obtain ⟨v0,hvt,ov,nv,dv,_⟩ := fault_ok9 hff9
  obtain ⟨sz,hsz⟩:∃n:Nat,m.sz=(n:Nat) := ⟨m.sz.toNat,by have := hg.sz; omega⟩
  have hsz2:m.sz.toNat=sz := by omega
  have hz16:1≤sz∧sz≤6 := by have := hg.sz; omega
  rw [holdsC_snd hc1] at he5
  rw [hsz] at hm5
  obtain ⟨b8,hb8⟩:∃b8,(!(decide (kd=8) || decide (kd=9)) || decide (250<m.cs.length))=b8 := ⟨_,rfl⟩
  refine tn_r8z_wp (gg w5 hb5).1 (gg w5 hb5).2 hb8 he5 hm5 ha5 (fun a6 h6=>?_) a5 h5
  cases b8
  case true =>
    refine wp_cond_true ((h6.eval (k := 79) (v := .bool true) (by simp)).trans rfl) ?_
    refine wp_seq ?_
    refine tn_r9_wp (fun a7 h7=>?_) a6 (h6.pick [0])
    refine wp_ret ?_
    repeat (first | refine thenR ?_ | refine inBlockR ?_)
    exact hret a7 _ h7 hb5
  refine wp_cond_false ((h6.eval (k := 79) (v := .bool false) (by simp)).trans rfl) ?_
  refine wp_skip ?_
  show Code.wp _ _ _ a6 w5
  have hk89:kd=8∨kd=9 := by
    rcases Decidable.em (kd=8) with e | e
    · exact Or.inl e
    · rcases Decidable.em (kd=9) with e2 | e2
      · exact Or.inr e2
      · simp [e,e2] at hb8
  have hfew:m.cs.length≤250 := by
    rcases Nat.lt_or_ge 250 m.cs.length with e | e
    · simp [e] at hb8
    · exact e
  obtain ⟨k,x,b,rfl⟩ := Fv.qu_of (v := v0) (by rw [← hvt,hkd]; rcases hk89 with e | e <;> (rw [e]; rfl)) ov
  subst hvt
  have hkk:kd=(k:Nat) := hkd.symm
  obtain ⟨b1,hb1q⟩:∃b1,holdsB m (Fv.qu k x b).fm=b1 := ⟨_,rfl⟩
  rw [hb1q] at h6
  have hbb := inst_law hc1 ov
  rw [hb1q,hsz2] at hbb
  have hcsw:∀(W:World),Below w.heap.size w W→conRep.Sl W S (.slice Am m.cs.length cm) m.cs := fun W hb=>hcs0.keep (fun b hbS=>hb.block b (hS b hbS)) (fun _ h=>h)
  have hrsw:∀(W:World),Below w.heap.size w W→relRep.Sl W S (.slice Bm m.rs.length dm) m.rs := fun W hb=>hrs0.keep (fun b hbS=>hb.block b (hS b hbS)) (fun _ h=>h)
  have hdig := fun (v:Nat) (hv:v≤6) (W:World)=>digits_any v W (by omega)
  have hdl:∀v:Nat,v≤6→(⟨(Lib.decDigits v).toArray⟩:ByteArray).size≤100 := fun v hv=>by
    have := dec_len v v (Nat.le_refl _)
    show (Lib.decDigits v).toArray.size≤100
    simp only [List.size_toArray]; omega
  -- no constant has one of the names
  refine wp_seq ?_
  refine wp_seq ?_
  refine tn_r10_wp hm5 (fun a7 h7=>?_) a6 (h6.pick [0,1,2])
  refine wp_block ?_
  refine wp_loopR (fun g a' w'=>∃i,i+g=m.cs.length∧Frm 179 [(2,.pointer (some ⟨w.heap.size,0,none⟩)),(3,.pointer (some ⟨w.heap.size+1,0,none⟩)),(9,.bool b1),(81,.slice Am m.cs.length cm),(82,.int .i64 (m.cs.length:Nat)),(83,.int .i64 (i:Nat))] a'∧Below w5.heap.size w5 w'∧∀c∈m.cs.take i,∀v,v<sz→c.nm≠hereB v) m.cs.length ⟨0,by omega,h7,Below.refl _ _,by simp⟩ ?_
  rintro g a8 W1 ⟨i,hig,h8,hbW,hno⟩
  rename World=>W1
  have hbw1 := hb5.trans (hbW.mono hb5.size)
  refine wp_seq ?_
  refine tn_r11_wp (fun a9 h9=>?_) a8 h8
  refine wp_seq ?_
  by_cases hi:i<m.cs.length
  case pos =>
    refine wp_cond_true ((h9.eval (k := 84) (v := .bool (decide (i<m.cs.length))) (by simp)).trans (by rw [decide_eq_true hi])) ?_
    refine wp_skip ?_
    show Code.wp _ _ _ a9 W1
    obtain ⟨bb,o,xc,rfl,hSb,⟨rfl,_⟩,hcl⟩ := Rep.Sl.at_ (hcsw W1 hbw1) (List.getElem?_eq_getElem hi)
    have hbs := hS _ hSb
    have hs1 := hbw1.size
    refine wp_seq ?_
    refine wp_block ?_
    refine wp_seq ?_
    refine tn_r12_wp hi (hcl 0 _ rfl) (hcl 1 _ rfl) (by omega) (fun a10 h10=>?_) a9 (h9.pick [0,1,2,3,4,5])
    obtain ⟨cx,hcx⟩:∃c,m.cs[i]=c := ⟨_,rfl⟩
    obtain ⟨gc,hgc⟩:∃k,W1.heap.size=k := ⟨_,rfl⟩
    refine gen_last (fun wx=>wx.heap[gc]? = some (.cells #[.string cx.nm,.int .i64 cx.v] 49 (0,0))∧Below W1.heap.size W1 wx) ⟨by rw [← hcx]; exact heap_at hgc.symm,(Below.refl _ _).alloc (Nat.le_refl _) _⟩ ?_
    rintro W2 ⟨hgc2,hb2⟩
    rw [hgc] at h10
    refine wp_seq ?_
    refine tn_r13_wp (fun a11 h11=>?_) a10 h10
    refine wp_block ?_
    refine wp_loopR (fun g a' w'=>∃v:Nat,v+g=sz∧Frm 179 [(2,.pointer (some ⟨w.heap.size,0,none⟩)),(3,.pointer (some ⟨w.heap.size+1,0,none⟩)),(9,.bool b1),(81,.slice (some ⟨bb,o,none⟩) m.cs.length cm),(82,.int .i64 (m.cs.length:Nat)),(83,.int .i64 (i:Nat)),(12,.pointer (some ⟨gc,0,none⟩)),(13,.int .i64 (v:Nat))] a'∧Below W2.heap.size W2 w'∧∀u,u<v→cx.nm≠hereB u) sz ⟨0,by omega,h11,Below.refl _ _,fun _ h=>absurd h (Nat.not_lt_zero _)⟩ ?_
    rintro g2 a12 W3 ⟨v,hvg,h12,hb3,hnv⟩
    rename World=>W3
    have hbw2:Below w.heap.size w W2 := hbw1.trans (hb2.mono hs1)
    have hbw3:Below w.heap.size w W3 := hbw2.trans (hb3.mono hbw2.size)
    have hb53:Below w5.heap.size w5 W3 := (hbW.trans (hb2.mono hbW.size)).trans (hb3.mono (by have := hbW.size; have := hb2.size; omega))
    have hm3' := (hb53.block _ (lt_heap hm5)).trans hm5
    refine wp_seq ?_
    refine wp_seq ?_
    refine tn_r14_wp hm3' (fun a13 h13=>?_) a12 h12
    by_cases hv:v<sz
    case neg =>
      refine wp_cond_false ((h13.eval (k := 90) (v := .bool (decide (v<sz))) (by simp)).trans (by rw [decide_eq_false hv])) ?_
      refine wp_exit ?_
      repeat refine then_exit ?_
      refine inBlock_exit ?_
      show Code.wp _ _ _ a13 W3
      refine tn_r18_wp (by omega) (fun a14 h14=>?_) a13 (h13.pick [0,1,2,3,4,5])
      refine ⟨m.cs.length - (i+1),by omega,i+1,by omega,h14,hb53,fun c hc=>?_⟩
      rw [List.take_succ_eq_append_getElem hi,List.mem_append] at hc
      rcases hc with hc | hc
      · exact hno c hc
      · rw [List.mem_singleton.1 hc,hcx]
        exact fun u hu=>hnv u (by omega)
    refine wp_cond_true ((h13.eval (k := 90) (v := .bool (decide (v<sz))) (by simp)).trans (by rw [decide_eq_true hv])) ?_
    refine wp_skip ?_
    show Code.wp _ _ _ a13 W3
    have hgc3 := (hb3.block _ (lt_heap hgc2)).trans hgc2
    refine wp_seq ?_
    refine wp_block ?_
    refine wp_seq ?_
    refine wp_thenQ (tn_r16_wp (hdl v (by omega)) (fun W _=>hdig v (by omega) W) hgc3 (fun a14 W4 h14 hb4=>?_) a13 (h13.pick [0,1,2,3,4,5,6,7]))
    rw [hereS_eq v (by omega)] at h14
    by_cases he:cx.nm=hereB v
    · refine wp_cond_true ((h14.eval (k := 99) (v := .bool (decide (cx.nm=hereB v))) (by simp)).trans (by rw [decide_eq_true he])) ?_
      refine wp_seq ?_
      refine tn_r17_wp (fun a15 h15=>?_) a14 (h14.pick [0])
      refine wp_ret ?_
      repeat (first | refine thenR ?_ | refine inBlockR ?_)
      exact hret a15 _ h15 (hbw3.trans (hb4.mono hbw3.size))
    refine wp_cond_false ((h14.eval (k := 99) (v := .bool (decide (cx.nm=hereB v))) (by simp)).trans (by rw [decide_eq_false he])) ?_
    refine wp_skip ?_
    show Code.wp _ _ _ a14 W4
    refine tn_r15_wp (by omega) (fun a15 h15=>?_) a14 (h14.pick [0,1,2,3,4,5,6,7])
    refine ⟨sz - (v+1),by omega,v+1,by omega,h15,hb3.trans (hb4.mono hb3.size),fun u hu=>?_⟩
    by_cases huv:u=v
    · rw [huv]; exact he
    · exact hnv u (by omega)
  refine wp_cond_false ((h9.eval (k := 84) (v := .bool (decide (i<m.cs.length))) (by simp)).trans (by rw [decide_eq_false hi])) ?_
  refine wp_exit ?_
  repeat refine then_exit ?_
  refine inBlock_exit ?_
  show Code.wp _ _ _ a9 W1
  obtain rfl:i=m.cs.length := by omega
  rw [List.take_length] at hno
  have hok9:HereOk m := ⟨hg,hfew,fun c hc v hv=>hno c hc v (by omega)⟩
  have hm1' := (hbW.block _ (lt_heap hm5)).trans hm5
  have ha1' := (hbW.block _ (lt_heap ha5)).trans ha5
  -- the model with the constants
  refine wp_seq ?_
  refine tn_r19_wp hm1' (fun a10 h10=>?_) a9 (h9.pick [0,1,2])
  obtain ⟨gn,hgn⟩:∃k,W1.heap.size=k := ⟨_,rfl⟩
  rw [hgn] at h10
  refine gen_last (fun wx=>wx.heap[gn]? = some (.cells #[.int .i64 (sz:Nat),.slice Am m.cs.length cm,.slice Bm m.rs.length dm] 25 (0,0))∧Below gn W1 wx∧wx.heap.size=gn+1) ⟨heap_at hgn.symm,by rw [← hgn]; exact (Below.refl _ _).alloc (Nat.le_refl _) _,by simp; omega⟩ ?_
  rintro W2 ⟨hn2,hb2,hs2⟩
  refine wp_seq ?_
  refine tn_r20_wp hn2 (fun a11 h11=>?_) a10 h10
  refine gen_last (fun wx=>wx.heap[gn]? = some (.cells #[.int .i64 (sz:Nat),.slice none 0 0,.slice Bm m.rs.length dm] 25 (0,0))∧Below gn W1 wx∧wx.heap.size=gn+1) ⟨by have := heap_set hn2 1 (.slice none 0 0); simpa using this,hb2.trans ((Below.refl gn _).setCell (show gn≤(⟨gn,1,none⟩:Addr).block from Nat.le_refl gn) _),by rw [size_set]; exact hs2⟩ ?_
  rintro W3 ⟨hn3,hb3,hs3⟩
  have hgl:w.heap.size+1<gn := by have := lt_heap ha1'; omega
  have hbw1s := hbw1.size
  refine wp_seq ?_
  refine wp_seq ?_
  refine tn_r21_wp (fun a12 h12=>?_) a11 h11
  refine wp_block ?_
  refine wp_loopR (fun g a' w'=>∃(v:Nat) (V8:Value),v+g=sz∧Frm 179 [(2,.pointer (some ⟨w.heap.size,0,none⟩)),(3,.pointer (some ⟨w.heap.size+1,0,none⟩)),(9,.bool b1),(14,.pointer (some ⟨gn,0,none⟩)),(15,.int .i64 (v:Nat))] a'∧w'.heap[gn]? = some (.cells #[.int .i64 (sz:Nat),V8,.slice Bm m.rs.length dm] 25 (0,0))∧w'.ownsRow (gn+1) 49 2 V8 v (conL (hereL v))∧Keeps (fun k=>k=gn∨gn+1≤k) W3 w') sz ⟨0,_,by omega,h12,hn3,World.ownsRow_nil _ _ _ _,Keeps.refl _ _⟩ ?_
  rintro g a13 W4 ⟨v,V8,hvg,h13,hn4,hrow4,hk4⟩
  rename World=>W4
  have hbn4:Below gn W3 W4 := Keeps.below (B := gn) hk4 (fun k e=>by omega) (by omega)
  have hb14:Below gn W1 W4 := hb3.trans hbn4
  have hm4' := (hb14.block _ (by omega)).trans hm1'
  have hs4 := hk4.size
  refine wp_seq ?_
  refine wp_seq ?_
  refine tn_r22_wp hm4' (fun a14 h14=>?_) a13 h13
  by_cases hv:v<sz
  case pos =>
    refine wp_cond_true ((h14.eval (k := 106) (v := .bool (decide (v<sz))) (by simp)).trans (by rw [decide_eq_true hv])) ?_
    refine wp_skip ?_
    show Code.wp _ _ _ a14 W4
    obtain ⟨A8,c8,rfl⟩ := own_slice9 hrow4
    refine wp_seq ?_
    refine wp_block ?_
    refine wp_thenQ (tn_r24_wp (base := gn+1) (hdl v (by omega)) (fun W _=>hdig v (by omega) W) (by omega) (by omega) (by omega) hn4 hrow4 (fun v' a15 W5 h15 hn5 hrow5 hk5=>?_) a14 (h14.pick [0,1,2,3,4]))
    rw [hereS_eq v (by omega)] at hrow5
    show Code.wp _ _ _ a15 W5
    refine tn_r23_wp (by omega) (fun a16 h16=>?_) a15 h15
    refine ⟨sz - (v+1),by omega,v+1,v',by omega,h16,hn5,?_,hk4.trans hk5⟩
    rw [hereL_next,← conL_app]
    exact hrow5
  refine wp_cond_false ((h14.eval (k := 106) (v := .bool (decide (v<sz))) (by simp)).trans (by rw [decide_eq_false hv])) ?_
  refine wp_exit ?_
  repeat refine then_exit ?_
  refine inBlock_exit ?_
  show Code.wp _ _ _ a14 W4
  obtain rfl:v=sz := by omega
  refine wp_seq ?_
  refine wp_seq ?_
  refine tn_r25_wp hm4' (fun a15 h15=>?_) a14 (h14.pick [0,1,2,3])
  have hsl4:conRep.Sl W4 (fun k=>gn+1≤k∧k<W4.heap.size) V8 (hereL v) := by
    refine sl_of_own (E := 49) (base := gn+1) (xs := conL (hereL v)) ?_ (conAll _ (fun c hc=>?_)) ?_ (fun k e=>hrow4.lt k e)
    · rw [hereL_len]; exact hrow4
    · obtain ⟨u,_,rfl⟩ := hereL_mem.1 hc
      show (hereB u).size≤maxLen
      rw [hereB_size]; decide
    · rw [hereL_len]; unfold maxLen; omega
  obtain ⟨A8,c8,rfl⟩ := own_slice9 hrow4
  refine wp_block ?_
  refine wp_loopR (fun g a' w'=>∃(i:Nat) (A1:Option Addr) (kq cq:Nat),i+g=m.cs.length∧Frm 179 [(2,.pointer (some ⟨w.heap.size,0,none⟩)),(3,.pointer (some ⟨w.heap.size+1,0,none⟩)),(9,.bool b1),(14,.pointer (some ⟨gn,0,none⟩)),(121,.slice Am m.cs.length cm),(122,.int .i64 (m.cs.length:Nat)),(123,.int .i64 (i:Nat))] a'∧w'.heap[gn]? = some (.cells #[.int .i64 (v:Nat),.slice A1 kq cq,.slice Bm m.rs.length dm] 25 (0,0))∧conRep.Sl w' (fun k=>gn+1≤k∧k<w'.heap.size) (.slice A1 kq cq) (putL (hereL v) (m.cs.take i))∧Keeps (fun k=>k=gn∨gn+1≤k) W3 w') m.cs.length ⟨0,_,_,_,by omega,h15,hn4,by simpa [putL] using hsl4,hk4⟩ ?_
  rintro g a16 W5 ⟨i,A1,kq,cq,hig,h16,hn5,hsl5,hk5⟩
  rename World=>W5
  have hbn5:Below gn W3 W5 := Keeps.below (B := gn) hk5 (fun k e=>by omega) (by omega)
  have hb15:Below gn W1 W5 := hb3.trans hbn5
  have hbw5:Below w.heap.size w W5 := hbw1.trans (hb15.mono (by omega))
  have hs5 := hk5.size
  refine wp_seq ?_
  refine tn_r26_wp (fun a17 h17=>?_) a16 h16
  refine wp_seq ?_
  by_cases hi:i<m.cs.length
  case pos =>
    refine wp_cond_true ((h17.eval (k := 124) (v := .bool (decide (i<m.cs.length))) (by simp)).trans (by rw [decide_eq_true hi])) ?_
    refine wp_skip ?_
    show Code.wp _ _ _ a17 W5
    obtain ⟨bb,o,xc,rfl,hSb,⟨rfl,_⟩,hcl⟩ := Rep.Sl.at_ (hcsw W5 hbw5) (List.getElem?_eq_getElem hi)
    have hbs := hS _ hSb
    refine wp_seq ?_
    refine wp_block ?_
    refine wp_seq ?_
    refine tn_r27_wp hi (hcl 0 _ rfl) (hcl 1 _ rfl) (by omega) (fun a18 h18=>?_) a17 (h17.pick [0,1,2,3,4,5,6])
    obtain ⟨cx,hcx⟩:∃c,m.cs[i]=c := ⟨_,rfl⟩
    obtain ⟨gc,hgc⟩:∃k,W5.heap.size=k := ⟨_,rfl⟩
    refine gen_last (fun wx=>wx.heap[gc]? = some (.cells #[.string cx.nm,.int .i64 cx.v] 49 (0,0))∧Below W5.heap.size W5 wx∧wx.heap.size=gc+1) ⟨by rw [← hcx]; exact heap_at hgc.symm,(Below.refl _ _).alloc (Nat.le_refl _) _,by simp; omega⟩ ?_
    rintro W6 ⟨hgc6,hb6,hs6⟩
    rw [hgc] at h18
    have hn6 := (hb6.block _ (lt_heap hn5)).trans hn5
    have hsl6 := hsl5.keep (w' := W6) (S' := fun k=>gn+1≤k∧k<W5.heap.size) (fun k hk=>hb6.block k hk.2) (fun _ h=>h)
    have hple := putL_le (m.cs.take i) (hereL v)
    rw [hereL_len,List.length_take] at hple
    have hput := putG_any (putL (hereL v) (m.cs.take i)) cx (.slice A1 kq cq) W6 _ (by omega) hsl6 (fun k hk=>by have := hk.2; omega)
    refine tn_r28_wp (PX := fun u W=>W.ownsRow W6.heap.size 49 2 u (putG false (putL (hereL v) (m.cs.take i)) cx).length (conL (putG false (putL (hereL v) (m.cs.take i)) cx))) hn6 hgc6 (hput.mono ?_) (fun A2 k2 c2 a19 W7 h19 hrow7 hb7=>?_) a18 h18
    · rintro e W' ⟨v',rfl,hr,hb⟩
      obtain ⟨A2,c2,rfl⟩ := own_slice9 hr
      exact ⟨_,_,_,rfl,hr,hb⟩
    have hs7 := hb7.size
    have hn7 := (hb7.block _ (lt_heap hn6)).trans hn6
    have hsl7:conRep.Sl W7 (fun k=>W6.heap.size≤k∧k<W7.heap.size) (.slice A2 k2 c2) (putG false (putL (hereL v) (m.cs.take i)) cx) := by
      refine sl_of_own (E := 49) (base := W6.heap.size) hrow7 (conAll _ (fun c hc=>?_)) ?_ (fun k e=>hrow7.lt k e)
      · rcases putG_names _ _ _ c hc with e | e
        · rw [e,← hcx]
          have := (hg.ck _ (List.getElem_mem hi)).1
          have := okName_le this
          unfold maxLen; omega
        · rcases putL_names _ _ c e with e | e
          · obtain ⟨u,_,rfl⟩ := hereL_mem.1 e
            show (hereB u).size≤maxLen
            rw [hereB_size]; decide
          · have := (hg.ck _ (List.mem_of_mem_take e)).1
            have := okName_le this
            unfold maxLen; omega
      · have := putG_le cx (putL (hereL v) (m.cs.take i)) false
        unfold maxLen; omega
    refine gen_last (fun wx=>wx.heap[gn]? = some (.cells #[.int .i64 (v:Nat),.slice A2 k2 c2,.slice Bm m.rs.length dm] 25 (0,0))∧conRep.Sl wx (fun k=>gn+1≤k∧k<wx.heap.size) (.slice A2 k2 c2) (putG false (putL (hereL v) (m.cs.take i)) cx)∧Keeps (fun k=>k=gn∨gn+1≤k) W3 wx) ⟨by have := heap_set hn7 1 (.slice A2 k2 c2); simpa using this,hsl7.keep (fun k hk=>heap_far _ (by have := hk.1; omega) rfl) (fun k hk=>⟨by have := hk.1; omega,by rw [size_set]; exact hk.2⟩),?_⟩ ?_
    · have hk7:Keeps (fun k=>k=gn∨gn+1≤k) W5 W7 := below_keeps9 (hb6.trans (hb7.mono hb6.size)) _
      exact (hk5.trans hk7).set (Or.inl (Or.inl rfl)) 1 _
    rintro W8 ⟨hn8,hsl8,hk8⟩
    show Code.wp _ _ _ a19 W8
    refine tn_r29_wp (by omega) (fun a20 h20=>?_) a19 h19
    refine ⟨m.cs.length - (i+1),by omega,i+1,A2,k2,c2,by omega,h20,hn8,?_,hk8⟩
    rw [putL_take _ _ hi,hcx]
    exact hsl8
  refine wp_cond_false ((h17.eval (k := 124) (v := .bool (decide (i<m.cs.length))) (by simp)).trans (by rw [decide_eq_false hi])) ?_
  refine wp_exit ?_
  repeat refine then_exit ?_
  refine inBlock_exit ?_
  show Code.wp _ _ _ a17 W5
  obtain rfl:i=m.cs.length := by omega
  rw [List.take_length] at hsl5
  have hmd:∀W:World,Below W5.heap.size W5 W→m.here.In W (Lo W) [.int .i64 (v:Nat),.slice A1 kq cq,.slice Bm m.rs.length dm] := fun W hb=>by
    refine ⟨_,_,by rw [show m.here.sz=((v:Nat):Int) from hsz],?_,?_⟩
    · rw [show m.here.cs=putL (hereL v) m.cs from by rw [← hsz2]; rfl]
      exact hsl5.keep (fun k hk=>hb.block k hk.2) (fun k hk=>Nat.lt_of_lt_of_le hk.2 hb.size)
    · exact (hrsw W (hbw5.trans (hb.mono hbw5.size))).keep (fun _ _=>rfl) (fun k hk=>by have := hS k hk; have := hbw5.size; have := hb.size; show k<_; omega)
  have hm5' := (hb15.block _ (by omega)).trans hm1'
  have ha5' := (hb15.block _ (by omega)).trans ha1'
  -- the instances
  refine wp_seq ?_
  refine tn_r30_wp (fun a18 h18=>?_) a17 (h17.pick [0,1,2,3])
  refine wp_seq ?_
  refine wp_seq ?_
  refine tn_r31_wp (fun a19 h19=>?_) a18 h18
  refine wp_block ?_
  refine wp_loopR (fun g a' w'=>∃u:Nat,u+g=v∧Frm 179 [(2,.pointer (some ⟨w.heap.size,0,none⟩)),(3,.pointer (some ⟨w.heap.size+1,0,none⟩)),(9,.bool b1),(14,.pointer (some ⟨gn,0,none⟩)),(18,.bool ((List.range u).all (fun z=>evalF m b [(x,(z:Int))]))),(19,.bool ((List.range u).any (fun z=>evalF m b [(x,(z:Int))]))),(20,.int .i64 (u:Nat))] a'∧Below W5.heap.size W5 w') v ⟨0,by omega,h19,Below.refl _ _⟩ ?_
  rintro g a20 W6 ⟨u,hug,h20,hb6⟩
  rename World=>W6
  have hbw6 := hbw5.trans (hb6.mono hbw5.size)
  have hs6 := hb6.size
  have hn6 := (hb6.block _ (lt_heap hn5)).trans hn5
  have hm6' := (hb6.block _ (lt_heap hm5')).trans hm5'
  have ha6' := (hb6.block _ (lt_heap ha5')).trans ha5'
  refine wp_seq ?_
  refine wp_seq ?_
  refine tn_r32_wp hm6' (fun a21 h21=>?_) a20 h20
  by_cases hu:u<v
  case pos =>
    refine wp_cond_true ((h21.eval (k := 136) (v := .bool (decide (u<v))) (by simp)).trans (by rw [decide_eq_true hu])) ?_
    refine wp_skip ?_
    show Code.wp _ _ _ a21 W6
    obtain ⟨hi1,hi2,hi3⟩ := inst_holds hok9 hc1 ov (v := u) (by omega)
    have hins:∀W:World,Below W6.heap.size W6 W→_ := fun W hb=>instance_any (Fv.qu k x b).fm (hereB u) (by rw [hereB_size]; decide) [.int .i64 kd,.string nm,.slice A n1 c1,.slice B n2 c2] W _ (hold W (hbw6.trans (hb.mono hbw6.size))) (fun _ h=>h) (htb W (hbw6.trans (hb.mono hbw6.size)))
    refine wp_seq ?_
    refine wp_block ?_
    refine wp_seq ?_
    refine wp_thenQ (tn_r34_wp (T := insT (Fv.qu k x b).fm (hereB u)) (c := 0) (j := 0) (hdl u (by omega)) (fun W _=>hdig u (by omega) W) (fun W hb=>?_) ha6' (fun es g1 gy a22 W7 h22 he7 hy7 ht7 hb7=>?_) a21 (h21.pick [0,1,2,3,4,5,6]))
    · rw [hereS_eq u (by omega)]
      refine (hins W hb).mono ?_
      rintro e W' ⟨es,rfl,hr,hbb2⟩
      rw [hi1]
      exact ⟨es,rfl,hbb2,hr⟩
    have hb67:Below W5.heap.size W5 W7 := hb6.trans (hb7.mono hs6)
    have hbw7 := hbw6.trans (hb7.mono hbw6.size)
    have hn7 := (hb7.block _ (lt_heap hn6)).trans hn6
    have hh7 := holdsB_any m.here (insT (Fv.qu k x b).fm (hereB u)) _ es W7 (Lo W7) ht7 (hmd W7 hb67) (fun _ h=>h)
    obtain ⟨A5,n5,c5,B5,m5,d5,rfl,_,_,_,_⟩ := Fm.shape ht7
    rw [hi2,hi3] at hh7
    refine wp_seq ?_
    refine tn_r35_wp hn7 he7 hh7 (fun g8 a23 W8 h23 he8 hb8'=>?_) a22 h22
    have hbw8 := hbw7.trans (hb8'.mono hbw7.size)
    have hy8 := (hb8'.block _ (lt_heap hy7)).trans hy7
    refine wp_seq ?_
    refine wp_seq ?_
    refine tn_r36_wp (gg W8 hbw8).1 (gg W8 hbw8).2 hy8 he8 (fun a24 h24=>?_) a23 h23
    refine wp_cond_false ((h24.eval (k := 161) (v := .bool false) (by simp)).trans rfl) ?_
    refine wp_skip ?_
    show Code.wp _ _ _ a24 W8
    refine tn_r38_wp (fun a25 h25=>?_) a24 (h24.pick [0,1,2,3,4,5,6,7])
    show Code.wp _ _ _ a25 W8
    refine tn_r33_wp (by omega) (fun a26 h26=>?_) a25 h25
    refine ⟨v - (u+1),by omega,u+1,by omega,?_,hb67.trans (hb8'.mono hb67.size)⟩
    rw [range_all_next,range_any_next]
    exact h26
  refine wp_cond_false ((h21.eval (k := 136) (v := .bool (decide (u<v))) (by simp)).trans (by rw [decide_eq_false hu])) ?_
  refine wp_exit ?_
  repeat refine then_exit ?_
  refine inBlock_exit ?_
  show Code.wp _ _ _ a21 W6
  obtain rfl:u=v := by omega
  refine wp_seq ?_
  refine wp_seq ?_
  refine tn_r39_wp ha6' (fun a22 h22=>?_) a21 (h21.pick [1,2,4,5])
  by_cases hk8:kd=8
  · rw [if_pos (by omega)] at hbb
    rw [← hbb] at h22
    refine wp_cond_true ((h22.eval (k := 172) (v := .bool (decide (kd=8))) (by simp)).trans (by rw [decide_eq_true hk8])) ?_
    refine wp_seq ?_
    refine tn_r40_wp (fun a23 h23=>?_) a22 (h22.pick [0,1])
    refine wp_ret ?_
    repeat (first | refine thenR ?_ | refine inBlockR ?_)
    exact hret a23 _ h23 hbw6
  · rw [if_neg (by omega)] at hbb
    rw [← hbb] at h22
    refine wp_cond_false ((h22.eval (k := 172) (v := .bool (decide (kd=8))) (by simp)).trans (by rw [decide_eq_false hk8])) ?_
    refine wp_skip ?_
    show Code.wp _ _ _ a22 W6
    refine wp_seq ?_
    refine tn_r41_wp (fun a23 h23=>?_) a22 (h22.pick [0,2])
    refine wp_ret ?_
    exact hret a23 _ h23 hbw6
theorem instTruth_door (m:Md) (ms:List Value) (t:Fm) (cs:List Value) (w:World) (S:Nat→Prop) (hm:m.In w S ms) (ht:fmRepC.R w S t cs) (hS:∀b,S b→b<w.heap.size) (g0:w.cell? ⟨0,0,none⟩=some (.int .i64 0)) (g1:w.cell? ⟨0,1,none⟩=some (.int .i64 0)) (htab:∀W2,Below w.heap.size w W2→Lib.TabIs Tryd.prog W2 "internal/strconv.uint64pow10" .u64 Lib.pow10Tab)  : Calls Tryd.prog 4 #[.agg ms.toArray,.agg cs.toArray] w fun e w'=>e=.returned (.bool true)∧Below w.heap.size w w' := instTruth_any m t ms cs w S hm (Fm.ofC ht) hS g0 g1 htab
end
noncomputable section
open Go.ChangeShapes Go.WideShapes Go.ChangeAt Go.WideMaps Go.WideElems Go.RowKit
set_option maxRecDepth 100000

theorem truthOfInstances_lifted (os:Os) (started:os.Started) (H:Type) (enc:TypeId × Value→H) :
    ReturnsInHanded {} Tryd.checked os 4 .any
      (fun w args=>(Rows.truthOfInstancesSpec.pre enc Tryd.prog Tryd.f4 [] false w args∧laidMetH Tryd.prog laidM w)∧sizedMet enc Tryd.prog Tryd.f4 (OpenSpec.ofChange Rows.truthOfInstancesSpec) false w args)
      (Rows.truthOfInstancesSpec.post enc Tryd.prog Tryd.f4 false true false false) := by
  refine returnsInHanded_of_change_and (C := Tryd.checked) (X := fun w _=>laidMetH Tryd.prog laidM w) (fun _ _ _ hh h=>h.of_heap hh) ownKnobNone started (by kernel_rfl) Tryd.func4
    (ChangeSpec.witness_shaped (enc := enc) (C := Tryd.checked) (os := os) (X := fun w _=>laidMetH Tryd.prog laidM w) false (World.doorLaid Tryd.prog 400 os) #[.agg #[.int .i64 0,.slice none 0 0,.slice none 0 0],.agg #[.int .i64 0,.string ⟨#[]⟩,.slice none 0 0,.slice none 0 0]] 8 rfl (World.shaped_of_RefB (by kernel_rfl) (by kernel_rfl)) (by kernel_rfl) (by kernel_rfl) (by kernel_rfl) (door_metM os _)) ?_
  intro W base args ds gs before hval0 hW _ _ hL _
  have hval:∀(j:Nat) t v,Tryd.f4.params[j]? = some t→args[j]? = some v→Value.okWide Tryd.prog W .any base t v := hval0
  have hW' := hW
  obtain ⟨p,q,hA0,hV,rfl,hfz,hnd⟩ := hW
  have hA:DataW.TrodAll enc Tryd.prog W 0 (fun _=>true) true Tryd.f4.params.toList args.toList ds p := hA0
  rw [Tryd.params4] at hA hval
  obtain ⟨v0,v1,d0,d1,p0,p1,rfl,rfl,rfl,h0,h1⟩ := trodAll_two hA
  obtain ⟨rfl,rfl⟩ := trodVars_none hV
  obtain ⟨c0,rfl,hc0⟩ := okWide_struct Tryd.underlying25 (hval 0 25 v0 rfl rfl)
  have h0k := h0
  obtain ⟨fuel0,hf0⟩ := h0
  obtain ⟨t0,ht00⟩ := md_of_trod fuel0 _ _ hf0
  have ht0:t0.In W (Lo W) c0.toList := by simpa [Value.cells] using ht00
  obtain ⟨c1,rfl,hc1⟩ := okWide_struct Tryd.underlying29 (hval 1 29 v1 rfl rfl)
  have h1k := h1
  obtain ⟨fuel1,hf1⟩ := h1
  obtain ⟨t1,ht10⟩ := fm_of_trod fuel1 _ _ hf1
  have ht1:fmRepC.R W (Lo W) t1 c1.toList := by simpa [Value.cells] using ht10
  obtain ⟨g0,g1⟩ := of_laidM hL
  have htab0 := tab_of_laidM hL
  have htab:∀W2,Below W.heap.size W W2→Lib.TabIs Tryd.prog W2 "internal/strconv.uint64pow10" .u64 Lib.pow10Tab := fun W2 hb=>tab_below htab0 hb
  clear hA0 hval0
  simp only [List.append_nil] at hW'
  have hlt:∀x∈p0++p1,x.block<W.heap.size := fun x hx=>by simpa using hW'.lt x (by simpa using hx)
  refine (instTruth_door t0 c0.toList t1 c1.toList W (Lo W) ht0 ht1 (fun _ h=>h) g0 g1 htab).mono fun e W' ⟨he,hnx⟩=>?_
  subst he
  refine ⟨_,rfl,_,_,_,[],p0++p1,[],hW',trodAll_mk1 (shut_bool Tryd.underlying4 _),?_,rfl,hnx.frame _,fun h=>by cases h⟩
  exact trodAll_mk2 (Below.trod laidOutAll (by kernel_rfl) (of_decide_eq_true (by kernel_rfl)) h0k hnx (fun x hx=>hlt x (by simp [hx]))) (Below.trod laidOutAll (by kernel_rfl) (of_decide_eq_true (by kernel_rfl)) h1k hnx (fun x hx=>hlt x (by simp [hx])))
theorem truthOfInstances_row:Rows.TruthOfInstancesSaid :=
  OpenClaim.holds_of_wide 4 Tryd.f4 rfl rfl rfl rfl rfl rfl rfl ⟨rfl,rfl,rfl,rfl,rfl⟩ rfl rfl rfl rfl rfl (by kernel_rfl) Tryd.func4 (by kernel_rfl)
    (of_decide_eq_true (by kernel_rfl)) (by unfold Func.isWrapper; first | (rw [if_pos (by decide +kernel)]; kernel_rfl) | (rw [if_neg (by decide +kernel)]; exact ⟨rfl,rfl⟩))
    (fun os started H enc _=>truthOfInstances_lifted os started H enc)
theorem truthOfInstances_holds:Rows.TruthOfInstancesCardSaid :=
  Claim7.holds_tied_plain_at .later [] [.data,.data,.data,.data] true (true, "ee9943ada7a923f91986c1006dd1081775599b3acc1cca8661e4f9a9915fdbdf") false
    truthOfInstances_row (fun _ h=>by cases h) (by kernel_rfl) (fun _ h=>by cases h) truthOfInstances_row_tie rfl ⟨rfl,rfl⟩ (by kernel_rfl) rfl
    (fun f fn hf hfn=>by
      obtain rfl:f=4 := Option.some.inj ((show Tryd.prog.funcNamed "glosswright/glosswrightlaw1.TruthOfInstances" = some 4 by kernel_rfl).symm.trans hf) |>.symm
      obtain rfl:fn=Tryd.f4 := (Option.some.inj (Tryd.func4.symm.trans hfn)).symm
      exact ⟨by kernel_rfl,fun j t ht=>by
        rw [Tryd.params4] at ht
        have hm:t∈[25,29] := by simpa using Array.mem_of_getElem? ht
        have hall:([25,29].all fun u=>!Tryd.prog.wantsStandIn u)=true := by kernel_rfl
        exact (show Tryd.prog.wantsStandIn t=false by simpa using List.all_eq_true.1 hall t hm)⟩)
    (by kernel_rfl)
#print axioms truthOfInstances_holds
end

end Go.Proofs.YthfokmjpbnfihaaDoor
