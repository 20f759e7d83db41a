/- Lemmas. -/
import Derived.Test.YthfokmjpbnfihaaDoorIn
import Derived.Test.YthfokmjpbnfihaaDoorIm
import Derived.Test.YthfokmjpbnfihaaDoorIf
namespace Go.Proofs.YthfokmjpbnfihaaDoor
open Go Go.RowKit
set_option linter.unusedSimpArgs false
set_option linter.unusedVariables false
noncomputable section
set_option maxRecDepth 100000
set_option maxHeartbeats 4000000

theorem bl_any (l:List (Rel)) (f:Rel→Int) (A:Option Addr) (n c:Nat) (tp:ByteArray) (tq:Int) (TB:Option Addr) (tm td:Nat) (w:World) (S:Nat→Prop) (hl:relRep.Sl w S (.slice A n c) l) (hS:∀b,S b→b<w.heap.size) (hn:l.length≤500000) (hmono:∀(i j:Nat) (hij:i≤j) (hj:j<l.length),f l[j]<0→f (l[i]'(by omega))<0) (hc:∀(W:World) (j:Nat) (h:j<l.length) (es:List Value),relRep.R W S l[j] es→(∀b,S b→b<W.heap.size)→Below w.heap.size w W→Calls Tryd.prog 40 #[.agg es.toArray,.agg #[.string tp,.int .i64 tq,.slice TB tm td]] W fun e w'=>e=.returned (.int .i64 (f l[j]))∧Below W.heap.size W w') :
    Calls Tryd.prog 60 #[.slice A n c,.agg #[.string tp,.int .i64 tq,.slice TB tm td],.func (Fn.func 40) #[] #[]] w fun e w'=>e=.returned (.tuple #[.int .i64 (cutN f l:Nat),.bool (hitN f l)])∧Below w.heap.size w w' := by
  obtain ⟨A',n',c',e9,hln,hmx,_⟩ := id hl
  injection e9 with e1 e2 e3
  subst e1 e2 e3
  go_enter Tryd.func60,Tryd.ntmps60
  refine wp_seq ?_
  refine bl_r0_wp (fun a0 h0=>?_) _ (by exact fR rfl rfl rfl)
  refine gen_last (fun wx=>Below w.heap.size w wx∧wx.heap[w.heap.size]? = some (.cells #[.string tp,.int .i64 tq,.slice TB tm td] 59 (0,0))) (⟨(Below.refl _ _).alloc (Nat.le_refl _) _,heap_alloc_new _ _⟩) ?_
  rintro wx ⟨hb0,hbx0⟩
  refine wp_seq ?_
  refine bl_r1_wp (fun a1 h1=>?_) a0 h0
  refine wp_seq ?_
  refine bl_r2_wp (fun a2 h2=>?_) a1 h1
  refine wp_seq ?_
  refine wp_block ?_
  refine wp_loopR (fun g a' w'=>∃i j:Nat,g=j - i∧i≤j∧j≤l.length∧(∀k (h:k<l.length),k<i→f l[k]<0)∧(∀k (h:k<l.length),j≤k→¬ f l[k]<0)∧Below w.heap.size w w'∧w'.heap[w.heap.size]? = some (.cells #[.string tp,.int .i64 tq,.slice TB tm td] 59 (0,0))∧Frm 49 [(0,.slice A n c),(2,.func (Fn.func 40) #[] #[]),(4,.pointer (some ⟨w.heap.size,0,none⟩)),(8,.int .i64 (n:Nat)),(9,.int .i64 (i:Nat)),(10,.int .i64 (j:Nat))] a') l.length ⟨0,l.length,rfl,Nat.zero_le _,Nat.le_refl _,fun _ _ h=>absurd h (Nat.not_lt_zero _),fun k hk h=>absurd hk (by omega),hb0,hbx0,by rw [hln]; exact h2⟩ ?_
  rintro g a1 w1 ⟨i,j,rfl,hijle,hjn,hlo,hhi,hb01,hbx1,h1⟩
  have hold := fun k hk=>hb01.block k (hS k hk)
  have hbs := hb01.size
  refine wp_seq ?_
  refine wp_seq ?_
  refine bl_r3_wp (fun a2 h2=>?_) a1 h1
  by_cases hij:i<j
  case neg =>
    refine wp_cond_false ((h2.eval (k := 17) (v := .bool (decide (i<j))) (by simp)).trans (by rw [decide_eq_false hij])) ?_
    refine wp_exit ?_
    repeat refine then_exit ?_
    refine inBlock_exit ?_
    show Code.wp _ _ _ a2 w1
    have hji:j=i := by omega
    subst hji
    have hcut:cutN f l=j := cutN_eq f l j (by omega) (fun k hk hkj=>hlo k hk hkj) (fun h=>hhi j h (Nat.le_refl _))
    refine wp_seq ?_
    by_cases hin:j<l.length
    · obtain ⟨b,o,cs,rfl,hSb,hr,hcc⟩ := Rep.Sl.at_ hl (List.getElem?_eq_getElem hin)
      obtain ⟨v9,rfl,hpz,hv9⟩ := id hr; obtain ⟨B,d,rfl,hm9⟩ := hv9.shape
      have e0:w1.cell? ⟨b,o+j * 3,none⟩=_ := (cell_keep (hold b hSb) _).trans (by simpa [relRep] using hcc 0 _ rfl)
      have e1:w1.cell? ⟨b,o+j * 3+1,none⟩=_ := (cell_keep (hold b hSb) _).trans (by simpa [relRep] using hcc 1 _ rfl)
      have e2:w1.cell? ⟨b,o+j * 3+2,none⟩=_ := (cell_keep (hold b hSb) _).trans (by simpa [relRep] using hcc 2 _ rfl)
      have hcj := fun (W:World) (hb:Below w1.heap.size w1 W)=>(hc W j hin _ (relRep.keep hr (fun k hk=>(hb.block k (by have := hS k hk; omega)).trans (hold k hk)) (fun _ h=>h)) (fun k hk=>by have := hS k hk; have := hb.size; omega) (hb01.trans (hb.mono (by omega)))).mono (R' := fun e w'=>e=.returned (.int .i64 (f (l[j]'hin)))∧Below w1.heap.size w1 w') (fun e w' h=>⟨h.1,hb.trans (h.2.mono hb.size)⟩)
      refine wp_thenQ (bl_r8_wp (by omega) hbx1 e0 e1 e2 (by have := hS b hSb; omega) hcj (fun a3 w3 h3 hb3=>?_) a2 (h2.pick [0,1,2,3,4,5]))
      refine wp_ret ?_
      refine bl_ret_wp ⟨?_,hb01.trans (hb3.mono hbs)⟩ a3 h3
      rw [hitN_at f l (by omega)]
      simp only [hcut]
    · refine wp_thenQ (bl_r8n_wp (by omega) hbx1 (fun a3 w3 h3 hb3=>?_) a2 (h2.pick [0,1,2,3,4,5]))
      refine wp_ret ?_
      refine bl_ret_wp ⟨?_,hb01.trans (hb3.mono hbs)⟩ a3 h3
      rw [hitN_end f l (by omega),hcut]
  refine wp_cond_true ((h2.eval (k := 17) (v := .bool (decide (i<j))) (by simp)).trans (by rw [decide_eq_true hij])) ?_
  refine wp_skip ?_
  show Code.wp _ _ _ a2 w1
  have hm:(i+j) / 2<l.length := by omega
  obtain ⟨b,o,cs,rfl,hSb,hr,hcc⟩ := Rep.Sl.at_ hl (List.getElem?_eq_getElem hm)
  obtain ⟨v9,rfl,hpz,hv9⟩ := id hr; obtain ⟨B,d,rfl,hm9⟩ := hv9.shape
  have e0:w1.cell? ⟨b,o+((i+j) / 2) * 3,none⟩=_ := (cell_keep (hold b hSb) _).trans (by simpa [relRep] using hcc 0 _ rfl)
  have e1:w1.cell? ⟨b,o+((i+j) / 2) * 3+1,none⟩=_ := (cell_keep (hold b hSb) _).trans (by simpa [relRep] using hcc 1 _ rfl)
  have e2:w1.cell? ⟨b,o+((i+j) / 2) * 3+2,none⟩=_ := (cell_keep (hold b hSb) _).trans (by simpa [relRep] using hcc 2 _ rfl)
  have hcj := fun (W:World) (hb:Below w1.heap.size w1 W)=>(hc W ((i+j) / 2) hm _ (relRep.keep hr (fun k hk=>(hb.block k (by have := hS k hk; omega)).trans (hold k hk)) (fun _ h=>h)) (fun k hk=>by have := hS k hk; have := hb.size; omega) (hb01.trans (hb.mono (by omega)))).mono (R' := fun e w'=>e=.returned (.int .i64 (f (l[((i+j) / 2)]'hm)))∧Below w1.heap.size w1 w') (fun e w' h=>⟨h.1,hb.trans (h.2.mono hb.size)⟩)
  refine wp_block ?_
  refine wp_seq ?_
  refine bl_r4_wp (by omega) (by omega) (fun a3 h3=>?_) a2 (h2.pick [0,1,2,3,4,5])
  refine wp_seq ?_
  refine wp_thenQ (bl_r5_wp (h := (i+j) / 2) (by omega) hbx1 e0 e1 e2 (by have := hS b hSb; omega) hcj (fun a4 w4 h4 hb4=>?_) a3 h3)
  have hb14 := hb01.trans (hb4.mono hbs)
  by_cases hz:f l[(i+j) / 2]<0
  · refine wp_cond_true ((h4.eval (k := 31) (v := .bool (decide (f l[(i+j) / 2]<0))) (by simp)).trans (by rw [decide_eq_true hz])) ?_
    refine bl_r6_wp (h := (i+j) / 2) (by omega) (fun a5 h5=>?_) a4 (h4.pick [0,1,2,3,4,5,6])
    refine ⟨j - ((i+j) / 2+1),by omega,(i+j) / 2+1,j,rfl,by omega,by omega,fun k hk hki=>?_,hhi,hb14,(hb4.block _ (lt_heap hbx1)).trans hbx1,h5⟩
    exact hmono k ((i+j) / 2) (by omega) (by omega) hz
  · refine wp_cond_false ((h4.eval (k := 31) (v := .bool (decide (f l[(i+j) / 2]<0))) (by simp)).trans (by rw [decide_eq_false hz])) ?_
    refine bl_r7_wp (h := (i+j) / 2) (fun a5 h5=>?_) a4 (h4.pick [0,1,2,3,4,5,6])
    refine ⟨(i+j) / 2 - i,by omega,i,(i+j) / 2,rfl,by omega,by omega,hlo,fun k hk hki=>?_,hb14,(hb4.block _ (lt_heap hbx1)).trans hbx1,h5⟩
    exact fun hz2=>hz (hmono _ _ hki hk hz2)
end
noncomputable section
set_option maxRecDepth 100000
set_option maxHeartbeats 16000000

theorem cst1_any (c:Con) (x:ByteArray) (w:World):Calls Tryd.prog 59 #[.agg #[.string c.nm,.int .i64 c.v],.string x] w fun e w'=>e=.returned (.int .i64 (cmpS c.nm x))∧Below w.heap.size w w' := by
  have hs := fun W:World=>cmpS_any c.nm x W
  obtain ⟨z1,hz1⟩:∃z,cmpS c.nm x=z := ⟨_,rfl⟩
  rw [hz1] at hs ⊢
  clear hz1
  have HS := Lib.hid hs
  clear hs
  go_enter Tryd.func59,Tryd.ntmps59
  go_wp2_with fail
  (with_reducible refine (HS.out _).mono ?_)
  rintro e w3 ⟨rfl,rfl⟩
  go_wp2_with fail
  go_returns
  exact ⟨rfl,by go_grown⟩
theorem hit_lt {α:Type} {f:α→Int} {l:List α} (h:hitN f l=true):cutN f l<l.length := by
  by_cases h2:cutN f l<l.length
  · exact h2
  · rw [hitN_end f l h2] at h; cases h
theorem constant_any (m:Md) (x:ByteArray) (cs:List Value) (w:World) (S:Nat→Prop) (hm:m.In w S cs) (hS:∀b,S b→b<w.heap.size) (hg:m.good) :
    Calls Tryd.prog 42 #[.agg cs.toArray,.string x] w fun e w'=>e=.returned (.tuple #[.int .i64 ((conV m x).getD 0),.bool (conV m x).isSome])∧Below w.heap.size w w' := by
  obtain ⟨A,c,B,d,rfl,h1,h2,hc,hr⟩ := Md.shape hm
  have hnc := hg.nc
  have hv:conV m x=(if hitN (fun c:Con=>cmpS c.nm x) m.cs=true then m.cs[cutN (fun c:Con=>cmpS c.nm x) m.cs]? else none).map Con.v := by
    unfold conV; rw [find_cut (Md.con_cut hg x)]
  have hx := fun (W:World) (hb:Below w.heap.size w W)=>bc_any m.cs (fun c=>cmpS c.nm x) A m.cs.length c (.string x) W S (hc.keep (fun b h=>hb.block b (hS b h)) (fun _ h=>h)) (fun b h=>by have := hS b h; have := hb.size; omega) (by omega) (mono_cut (Md.con_cut hg x)) (fun W2 j hj es hes _ _=>by obtain ⟨rfl,_⟩ := hes; exact cst1_any _ _ _)
  have hlt := @hit_lt _ (fun c:Con=>cmpS c.nm x) m.cs
  obtain ⟨k,hk⟩:∃k,cutN (fun c:Con=>cmpS c.nm x) m.cs=k := ⟨_,rfl⟩
  obtain ⟨z,hz⟩:∃z,m.sz=z := ⟨_,rfl⟩
  rw [hk] at hx hv hlt
  cases hh:hitN (fun c:Con=>cmpS c.nm x) m.cs
  · rw [hh] at hx hv
    rw [hv]
    simp only [Bool.false_eq_true,if_false,Option.map_none,Option.getD_none,Option.isSome_none]
    clear hv hk hlt hh hc hr hm h1 h2
    rw [hz]
    have HX := Lib.hid hx
    have HS := Lib.hid hS
    clear hx hS
    go_enter Tryd.func42,Tryd.ntmps42
    go_wp2_with fail
    (with_reducible refine (HX.out _ (by go_grown)).mono ?_)
    rintro e w1 ⟨rfl,hw1⟩
    go_wp2_with fail
    go_returns
    exact ⟨rfl,((Below.refl _ w).alloc (Nat.le_refl _) _).trans (hw1.mono (by simp))⟩
  · have hkl := hlt hh
    rw [hh] at hx hv
    rw [List.getElem?_eq_getElem hkl] at hv
    rw [hv]
    simp only [if_true,Option.map_some,Option.getD_some,Option.isSome_some]
    obtain ⟨b,o,rfl,hSb,_,e1,_⟩ := con_at hc hkl
    obtain ⟨v,hv2⟩:∃v,m.cs[k].v=v := ⟨_,rfl⟩
    rw [hv2] at e1 ⊢
    have hbl := hS b hSb
    have q0:(0:Int)≤(k:Int) := by omega
    have q1:(k:Int)<(m.cs.length:Int) := by omega
    clear hv hlt hh hc hr hm h1 h2 hv2
    rw [hz]
    have HX := Lib.hid hx
    have HS := Lib.hid hS
    clear hx hS
    go_enter Tryd.func42,Tryd.ntmps42
    go_wp2_with fail
    (with_reducible refine (HX.out _ (by go_grown)).mono ?_)
    rintro e w1 ⟨rfl,hw1⟩
    have p0 := (hw1.block w.heap.size (by simp)).trans (heap_at rfl)
    have x1 := cellv p0 1 rfl
    have c1 := (cell_keep ((hw1.block b (by simp; omega)).trans (heap_old (by omega) rfl)) _).trans e1
    have hs1 := hw1.size
    go_wp2_with fail
    go_returns
    exact ⟨rfl,((Below.refl _ w).alloc (Nat.le_refl _) _).trans (hw1.mono (by simp))⟩
theorem find_any (m:Md) (x:ByteArray) (hxs:x.size≤maxLen) (q:Nat) (cs:List Value) (w:World) (S:Nat→Prop) (hm:m.In w S cs) (hS:∀b,S b→b<w.heap.size) (hg:m.good) :
    Calls Tryd.prog 43 #[.agg cs.toArray,.string x,.int .i64 (q:Nat)] w fun e w'=>(∃p y D9 a9 b9,e=.returned (.tuple #[.agg #[.string p,.int .i64 y,.slice D9 a9 b9],.bool (relV m x q).isSome])∧∀r,relV m x q=some r→p=r.nm∧y=r.ar∧intsRep.Sl w S (.slice D9 a9 b9) r.tp)∧Below w.heap.size w w' := by
  obtain ⟨A,c,B,d,rfl,h1,h2,hc,hr⟩ := Md.shape hm
  have hnc := hg.nr
  have hv:relV m x q=if hitN (fun c:Rel=>cmpR c ⟨x,q,[]⟩) m.rs=true then m.rs[cutN (fun c:Rel=>cmpR c ⟨x,q,[]⟩) m.rs]? else none := by
    unfold relV; rw [find_cut (Md.rel_cut hg ⟨x,q,[]⟩)]
  have hx := fun (W:World) (hb:Below w.heap.size w W)=>bl_any m.rs (fun c=>cmpR c ⟨x,q,[]⟩) B m.rs.length d x q none 0 0 W S (hr.keep (fun b h=>hb.block b (hS b h)) (fun _ h=>h)) (fun b h=>by have := hS b h; have := hb.size; omega) (by omega) (mono_cut (Md.rel_cut hg ⟨x,q,[]⟩)) (fun W2 j hj es hes _ _=>by obtain ⟨v9,rfl,_,hv9⟩ := hes; obtain ⟨B9,d9,rfl,_⟩ := hv9.shape; exact cmpR_any m.rs[j] ⟨x,q,[]⟩ _ _ W2 rfl rfl)
  have hlt := @hit_lt _ (fun c:Rel=>cmpR c ⟨x,q,[]⟩) m.rs
  obtain ⟨k,hk⟩:∃k,cutN (fun c:Rel=>cmpR c ⟨x,q,[]⟩) m.rs=k := ⟨_,rfl⟩
  obtain ⟨z,hz⟩:∃z,m.sz=z := ⟨_,rfl⟩
  rw [hk] at hx hv hlt
  cases hh:hitN (fun c:Rel=>cmpR c ⟨x,q,[]⟩) m.rs
  · rw [hh] at hx hv
    rw [hv]
    simp only [Bool.false_eq_true,if_false,Option.isSome_none]
    clear hv hk hlt hh hc hr hm h1 h2
    rw [hz]
    have HX := Lib.hid hx
    have HS := Lib.hid hS
    clear hx hS
    go_enter Tryd.func43,Tryd.ntmps43
    go_wp2_with fail
    (with_reducible refine (HX.out _ (by go_grown)).mono ?_)
    rintro e w1 ⟨rfl,hw1⟩
    have p0 := (hw1.block (w.heap.size+1) (by simp)).trans (heap_at (by simp))
    have hs1 := hw1.size
    have hB:Below w.heap.size w w1 := (show Below w.heap.size w _ by go_grown).trans (hw1.mono (by simp; omega))
    have l1 := lt_heap p0
    have p0_0 := cv0 p0
    have p0_1 := cv1 p0
    have p0_2 := cv2 p0
    have p0_f0 := free_heap p0 0
    have p0_f1 := free_heap p0 1
    have p0_f2 := free_heap p0 2
    have p0_l := lt_heap p0
    have P0 := Lib.hid p0
    clear p0
    go_wp2_with fail
    refine bodyPost_ret (v := .tuple #[.agg #[.string ⟨#[]⟩,.int .i64 0,.slice none 0 0],.bool false]) (by simp [results,Tryd.results43,go_sem,p0_0,p0_1,p0_2,p0_l]) rfl ?_
    exact ⟨⟨_,_,_,_,_,rfl,fun _ h=>by cases h⟩,((hB.setCell (by simp) _).setCell (by simp) _).setCell (by simp) _⟩
  · have hkl := hlt hh
    rw [hh] at hx hv
    rw [List.getElem?_eq_getElem hkl] at hv
    rw [hv]
    simp only [if_true,Option.isSome_some]
    obtain ⟨b,o,Tq,tq,rfl,hSb,e0,e1,e2,_,hl9,hv9⟩ := rel_at hr hkl
    have hfin:∀r,some m.rs[k]=some r→m.rs[k].nm=r.nm∧m.rs[k].ar=r.ar∧intsRep.Sl w S (.slice Tq m.rs[k].tp.length tq) r.tp := by rintro r h; cases h; exact ⟨rfl,rfl,hv9⟩
    obtain ⟨pn,hpn⟩:∃v,m.rs[k].nm=v := ⟨_,rfl⟩
    obtain ⟨pa,hpa⟩:∃v,m.rs[k].ar=v := ⟨_,rfl⟩
    obtain ⟨pt,hpt⟩:∃v,m.rs[k].tp.length=v := ⟨_,rfl⟩
    rw [hpn] at e0 hfin
    rw [hpa] at e1 hfin
    rw [hpt] at e2 hfin
    have hbl := hS b hSb
    have q0:(0:Int)≤(k:Int) := by omega
    have q1:(k:Int)<(m.rs.length:Int) := by omega
    clear hv hlt hh hc hr hm h1 h2 hpn hpa hpt hv9 hl9
    rw [hz]
    have HX := Lib.hid hx
    have HS := Lib.hid hS
    have HFIN := Lib.hid hfin
    clear hx hS hfin
    go_enter Tryd.func43,Tryd.ntmps43
    go_wp2_with fail
    (with_reducible refine (HX.out _ (by go_grown)).mono ?_)
    rintro e w1 ⟨rfl,hw1⟩
    have p0 := (hw1.block w.heap.size (by simp; omega)).trans (heap_old (by simp) (heap_at rfl))
    have p1 := (hw1.block (w.heap.size+1) (by simp)).trans (heap_at (by simp))
    have x1 := cellv p0 2 rfl
    have l1 := lt_heap p1
    have p1_0 := cv0 p1
    have p1_1 := cv1 p1
    have p1_2 := cv2 p1
    have p1_f0 := free_heap p1 0
    have p1_f1 := free_heap p1 1
    have p1_f2 := free_heap p1 2
    have p1_l := lt_heap p1
    have P1 := Lib.hid p1
    clear p1
    have c0 := (cell_keep ((hw1.block b (by simp; omega)).trans (heap_old (by simp; omega) (heap_old (by omega) rfl))) _).trans e0
    have c1 := (cell_keep ((hw1.block b (by simp; omega)).trans (heap_old (by simp; omega) (heap_old (by omega) rfl))) _).trans e1
    have c2 := (cell_keep ((hw1.block b (by simp; omega)).trans (heap_old (by simp; omega) (heap_old (by omega) rfl))) _).trans e2
    have hs1 := hw1.size
    have hB:Below w.heap.size w w1 := (show Below w.heap.size w _ by go_grown).trans (hw1.mono (by simp; omega))
    go_wp2_with fail
    refine bodyPost_ret (v := .tuple #[.agg #[.string pn,.int .i64 pa,.slice Tq pt tq],.bool true]) (by simp [results,Tryd.results43,go_sem,p1_0,p1_1,p1_2,p1_l]) rfl ?_
    exact ⟨⟨_,_,_,_,_,rfl,HFIN.out⟩,((hB.setCell (by simp) _).setCell (by simp) _).setCell (by simp) _⟩
end

end Go.Proofs.YthfokmjpbnfihaaDoor
