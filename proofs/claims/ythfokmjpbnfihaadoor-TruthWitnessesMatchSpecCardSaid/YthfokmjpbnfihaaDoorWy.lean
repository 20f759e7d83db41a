/- Lemmas. -/
import Derived.Test.YthfokmjpbnfihaaDoorWw
import Derived.Test.YthfokmjpbnfihaaDoorWx
namespace Go.Proofs.YthfokmjpbnfihaaDoor
open Go Go.RowKit
set_option linter.unusedSimpArgs false
set_option linter.unusedVariables false
noncomputable section
set_option maxRecDepth 100000
set_option maxHeartbeats 4000000
variable {α:Type} {f g:α→Bool}

theorem all_congr9:∀{l:List α},(∀x∈l,f x=g x)→l.all f=l.all g
  | [],_=>rfl
  | a :: l,h=>by rw [List.all_cons,List.all_cons,h a (by simp),all_congr9 (fun x hx=>h x (by simp [hx]))]
theorem any_congr9:∀{l:List α},(∀x∈l,f x=g x)→l.any f=l.any g
  | [],_=>rfl
  | a :: l,h=>by rw [List.any_cons,List.any_cons,h a (by simp),any_congr9 (fun x hx=>h x (by simp [hx]))]
theorem str_small {w:World} {S:Nat→Prop} {D:Option Addr} {m e:Nat} {l:List ByteArray} (h:strRep.Sl w S (.slice D m e) l):∀s∈l,s.size≤maxLen := by
  intro s hs
  obtain ⟨i,hi,rfl⟩ := List.mem_iff_getElem.1 hs
  obtain ⟨_,_,_,_,_,⟨_,h9⟩,_⟩ := Rep.Sl.at_ h (List.getElem?_eq_getElem hi)
  exact h9
theorem table_tru (m:Md) (hg:m.good) {sz:Nat} (hsz:m.sz=(sz:Nat)) {Am Bm:Option Addr} {cm dm:Nat}:∀(vars:List ByteArray) (cs:List Value) (w:World) (S:Nat→Prop) (Dv:Option Addr) (ev:Nat),vars.length+nestF (.tru)≤5→haveF m vars (.tru)→fmRep.R w S (Fv.fm (.tru)) cs→strRep.Sl w S (.slice Dv vars.length ev) vars→conRep.Sl w S (.slice Am m.cs.length cm) m.cs→relRep.Sl w S (.slice Bm m.rs.length dm) m.rs→(∀b,S b→b<w.heap.size)→Calls Tryd.prog 28 #[.agg #[.int .i64 (sz:Nat),.slice Am m.cs.length cm,.slice Bm m.rs.length dm],.agg cs.toArray,.slice Dv vars.length ev] w fun e w'=>∃gi,e=.returned (.slice (some ⟨gi,0,none⟩) (sz ^ vars.length) (sz ^ vars.length))∧w'.heap[gi]?=some (.cells ((tab m (.tru) vars).map Value.bool).toArray 4 (0,0))∧w.heap.size≤gi∧Below w.heap.size w w' := by
  intro vars cs w S Dv ev hn hv ht hvs hcs hrs hS
  change fmRep.R w S (.mk ⟨1,⟨#[]⟩,[]⟩ []) cs at ht
  generalize hkd:(1:Int)=kd at ht
  generalize hnme:(⟨#[]⟩:ByteArray)=nm at ht
  obtain ⟨u,v9,rfl,hnm,hw,hl⟩ := Fm.open_ ht
  simp only at hw hnm
  obtain ⟨A,n1,c1,rfl,e1,hm1,_⟩ := id hw
  obtain ⟨B,n2,c2,rfl,e2,hm2,_⟩ := id hl
  have hmg := hg.sz
  have hs:1≤sz∧sz≤6 := by omega
  have hzn:m.sz.toNat=sz := by omega
  have hm5:vars.length≤5 := by omega
  have hpw := pow_small hs hm5
  have hTl:(tab m (.tru) vars).length=sz ^ vars.length := by rw [tab_length,hzn]
  have hTa:∀i,i<sz ^ vars.length→(tab m (.tru) vars)[i]?=some (evalF m (.tru) (vars.zip (digs sz vars.length i))) := fun i hi=>by
    have h9 := tab_at m (.tru) vars (i := i) (by rw [hzn]; exact hi)
    rw [hzn] at h9; exact h9
  go_enter Tryd.func28,Tryd.ntmps28
  refine wp_seq ?_
  refine tb_r0_wp (fun a0 h0=>?_) _ (id ⟨rfl,rfl,rfl,rfl,rfl,trivial⟩)
  refine gen_last (fun wx=>wx.heap[w.heap.size]?=some (.cells #[.int .i64 (sz:Nat),.slice Am m.cs.length cm,.slice Bm m.rs.length dm] 25 (0,0))∧wx.heap[w.heap.size+1]?=some (.cells #[.int .i64 kd,.string nm,.slice A n1 c1,.slice B n2 c2] 29 (0,0))∧Below w.heap.size w wx) ⟨heap_old (by simp) (heap_at rfl),heap_at (by simp),by go_grown⟩ ?_
  rintro wy ⟨hmy,hay,hby⟩
  have hbys := hby.size
  have hSy:∀b,S b→b<wy.heap.size := fun b hb=>by have := hS b hb; omega
  have hvy := hvs.keep (fun b hb=>hby.block b (hS b hb)) (fun _ h=>h)
  have hcy := hcs.keep (fun b hb=>hby.block b (hS b hb)) (fun _ h=>h)
  have hry := hrs.keep (fun b hb=>hby.block b (hS b hb)) (fun _ h=>h)
  refine wp_seq ?_
  refine tb_r1_wp (fun a1 h1=>?_) a0 h0
  refine wp_seq ?_
  refine wp_seq ?_
  refine tb_r2_wp (fun a2 h2=>?_) a1 h1
  refine wp_block ?_
  refine tb_pow_wp hs hm5 hmy (fun a3 h3=>?_) a2 h2
  refine inBlock_exit ?_
  show Code.wp _ _ _ a3 wy
  refine wp_seq ?_
  refine tb_r6_wp (by omega) (fun a4 h4=>?_) a3 h3
  refine gen_last (fun wx=>wx.heap[wy.heap.size]?=some (.cells ((List.replicate (sz ^ vars.length) false).map Value.bool).toArray 4 (0,0))∧Below wy.heap.size wy wx∧wy.heap.size<wx.heap.size) ⟨by rw [List.map_replicate,← made_list]; exact heap_alloc_new _ _,(Below.refl _ _).alloc (Nat.le_refl _) _,by simp⟩ ?_
  rintro w2 ⟨hL2,hb2,hs2⟩
  have hay2 := (hb2.block _ (lt_heap hay)).trans hay
  have hmy2 := (hb2.block _ (lt_heap hmy)).trans hmy
  refine wp_seq ?_
  refine wp_seq ?_
  refine tb_r7_wp hay2 (fun a5 h5=>?_) a4 h4
  refine wp_block ?_
  refine wp_seq ?_
  refine tb_r25_wp (fun a6 h6=>?_) a5 (h5.pick [0,1,2,3,4])
  have q25:kd=1 := by omega
  refine wp_cond_true ((h6.eval (k := 129) (v := .bool (decide (kd=1))) (by simp)).trans (by rw [decide_eq_true q25])) ?_
  refine wp_seq ?_
  refine tb_r26_wp (fun a7 h7=>?_) a6 (h6.pick [0,1,2,3])
  refine wp_block ?_
  refine tb_tru_wp hTl (by omega) (fun i hi=>by rw [hTa i hi]; rfl) hL2 (fun a8 w3 h8 hL3 hk3=>?_) a7 h7
  refine inBlock_exit ?_
  show Code.wp _ _ _ a8 w3
  refine wp_seq ?_
  refine tb_r88_wp (fun a99 h99=>?_) a8 (h8.pick [3])
  refine wp_ret ?_
  exact tb_ret_wp ⟨_,rfl,hL3,by omega,hby.trans ((keeps_belowG hb2 rfl (Nat.le_refl _) hk3).mono hbys)⟩ a99 h99
theorem table_pred (m:Md) (hg:m.good) {sz:Nat} (hsz:m.sz=(sz:Nat)) {Am Bm:Option Addr} {cm dm:Nat} {n:ByteArray} {ws:List ByteArray} (hok:(Fv.pred n ws).ok):∀(vars:List ByteArray) (cs:List Value) (w:World) (S:Nat→Prop) (Dv:Option Addr) (ev:Nat),vars.length+nestF (.pred n ws)≤5→haveF m vars (.pred n ws)→fmRep.R w S (Fv.fm (.pred n ws)) cs→strRep.Sl w S (.slice Dv vars.length ev) vars→conRep.Sl w S (.slice Am m.cs.length cm) m.cs→relRep.Sl w S (.slice Bm m.rs.length dm) m.rs→(∀b,S b→b<w.heap.size)→Calls Tryd.prog 28 #[.agg #[.int .i64 (sz:Nat),.slice Am m.cs.length cm,.slice Bm m.rs.length dm],.agg cs.toArray,.slice Dv vars.length ev] w fun e w'=>∃gi,e=.returned (.slice (some ⟨gi,0,none⟩) (sz ^ vars.length) (sz ^ vars.length))∧w'.heap[gi]?=some (.cells ((tab m (.pred n ws) vars).map Value.bool).toArray 4 (0,0))∧w.heap.size≤gi∧Below w.heap.size w w' := by
  intro vars cs w S Dv ev hn hv ht hvs hcs hrs hS
  change fmRep.R w S (.mk ⟨2,n,ws⟩ []) cs at ht
  generalize hkd:(2:Int)=kd at ht
  generalize hnme:(n:ByteArray)=nm at ht
  obtain ⟨u,v9,rfl,hnm,hw,hl⟩ := Fm.open_ ht
  simp only at hw hnm
  obtain ⟨A,n1,c1,rfl,e1,hm1,_⟩ := id hw
  obtain ⟨B,n2,c2,rfl,e2,hm2,_⟩ := id hl
  have hmg := hg.sz
  have hs:1≤sz∧sz≤6 := by omega
  have hzn:m.sz.toNat=sz := by omega
  have hm5:vars.length≤5 := by omega
  have hpw := pow_small hs hm5
  have hTl:(tab m (.pred n ws) vars).length=sz ^ vars.length := by rw [tab_length,hzn]
  have hTa:∀i,i<sz ^ vars.length→(tab m (.pred n ws) vars)[i]?=some (evalF m (.pred n ws) (vars.zip (digs sz vars.length i))) := fun i hi=>by
    have h9 := tab_at m (.pred n ws) vars (i := i) (by rw [hzn]; exact hi)
    rw [hzn] at h9; exact h9
  go_enter Tryd.func28,Tryd.ntmps28
  refine wp_seq ?_
  refine tb_r0_wp (fun a0 h0=>?_) _ (id ⟨rfl,rfl,rfl,rfl,rfl,trivial⟩)
  refine gen_last (fun wx=>wx.heap[w.heap.size]?=some (.cells #[.int .i64 (sz:Nat),.slice Am m.cs.length cm,.slice Bm m.rs.length dm] 25 (0,0))∧wx.heap[w.heap.size+1]?=some (.cells #[.int .i64 kd,.string nm,.slice A n1 c1,.slice B n2 c2] 29 (0,0))∧Below w.heap.size w wx) ⟨heap_old (by simp) (heap_at rfl),heap_at (by simp),by go_grown⟩ ?_
  rintro wy ⟨hmy,hay,hby⟩
  have hbys := hby.size
  have hSy:∀b,S b→b<wy.heap.size := fun b hb=>by have := hS b hb; omega
  have hvy := hvs.keep (fun b hb=>hby.block b (hS b hb)) (fun _ h=>h)
  have hcy := hcs.keep (fun b hb=>hby.block b (hS b hb)) (fun _ h=>h)
  have hry := hrs.keep (fun b hb=>hby.block b (hS b hb)) (fun _ h=>h)
  refine wp_seq ?_
  refine tb_r1_wp (fun a1 h1=>?_) a0 h0
  refine wp_seq ?_
  refine wp_seq ?_
  refine tb_r2_wp (fun a2 h2=>?_) a1 h1
  refine wp_block ?_
  refine tb_pow_wp hs hm5 hmy (fun a3 h3=>?_) a2 h2
  refine inBlock_exit ?_
  show Code.wp _ _ _ a3 wy
  refine wp_seq ?_
  refine tb_r6_wp (by omega) (fun a4 h4=>?_) a3 h3
  refine gen_last (fun wx=>wx.heap[wy.heap.size]?=some (.cells ((List.replicate (sz ^ vars.length) false).map Value.bool).toArray 4 (0,0))∧Below wy.heap.size wy wx∧wy.heap.size<wx.heap.size) ⟨by rw [List.map_replicate,← made_list]; exact heap_alloc_new _ _,(Below.refl _ _).alloc (Nat.le_refl _) _,by simp⟩ ?_
  rintro w2 ⟨hL2,hb2,hs2⟩
  have hay2 := (hb2.block _ (lt_heap hay)).trans hay
  have hmy2 := (hb2.block _ (lt_heap hmy)).trans hmy
  refine wp_seq ?_
  refine wp_seq ?_
  refine tb_r7_wp hay2 (fun a5 h5=>?_) a4 h4
  refine wp_block ?_
  have hev:∀i,∀p∈vars.zip (digs sz vars.length i),badV m.sz p.2=false := fun i p hp=>by
    have h9 := digs_good (sz := sz) (by omega) vars.length i p.2 (List.of_mem_zip hp).2
    simp only [badV,decide_eq_false_iff_not]
    omega
  subst hnme
  obtain rfl:n1=ws.length := by omega
  have hhv:∀i,∀x∈ws,(envV (vars.zip (digs sz vars.length i)) x).isSome∨(conV m x).isSome := fun i=>words_have hv _ (digs_length _ _ _)
  have hts:∀i,(ws.map (wordT m (vars.zip (digs sz vars.length i)))).any (badV m.sz)=false := fun i=>by
    rw [List.any_eq_false]
    intro z hz
    obtain ⟨x,hx,rfl⟩ := List.mem_map.1 hz
    simpa using wordT_good hg (hev i) (hhv i x hx)
  refine wp_seq ?_
  refine tb_r25_wp (fun a6 h6=>?_) a5 (h5.pick [0,1,2,3,4])
  have q25:¬ kd=1 := by omega
  refine wp_cond_false ((h6.eval (k := 129) (v := .bool (decide (kd=1))) (by simp)).trans (by rw [decide_eq_false q25])) ?_
  refine wp_seq ?_
  refine wp_seq ?_
  refine tb_r31_wp (fun a7 h7=>?_) a6 (h6.pick [0,1,2,3,4])
  have q31:kd=2 := by omega
  refine wp_cond_true ((h7.eval (k := 140) (v := .bool (decide (kd=2))) (by simp)).trans (by rw [decide_eq_true q31])) ?_
  refine wp_skip ?_
  show Code.wp _ _ _ a7 w2
  have q9:kd=2 := q31
  refine wp_cond_true ((h7.eval (k := 140) (v := .bool (decide (kd=2))) (by simp)).trans (by rw [decide_eq_true q9])) ?_
  refine wp_seq ?_
  refine tb_r33_wp (fun a9 h9=>?_) a7 (h7.pick [0,1,2,3])
  refine wp_block ?_
  refine tb_atoms_wp (T := tab m (.pred n ws) vars) (kd := kd) (m := m) (vars := vars) hg hsz hs hm5 hvy (hw.keep (fun b hb=>hby.block b (hS b hb)) (fun _ h=>h)) hok.2.1 hcy hry hmy hay hSy hb2 (Nat.le_refl _) hTl (by omega) (fun _ i hi=>by rw [← hsz]; exact hts i) (fun h=>by omega) (fun i hi=>?_) hL2 (fun a10 w3 h10 hL3 hk3=>?_) a9 h9
  · rw [hTa i hi,if_neg (by omega),← hsz,relsHit_eq hg n (hts i)]
    show some (predV m n (ws.map (wordV m _)))=_
    rw [List.map_congr_left (fun x hx=>(wordT_eq (hhv i x hx)).symm)]
  refine inBlock_exit ?_
  show Code.wp _ _ _ a10 w3
  refine wp_seq ?_
  refine tb_r88_wp (fun a99 h99=>?_) a10 (h10.pick [3])
  refine wp_ret ?_
  exact tb_ret_wp ⟨_,rfl,hL3,by omega,hby.trans ((keeps_belowG hb2 rfl (Nat.le_refl _) hk3).mono hbys)⟩ a99 h99
theorem table_same (m:Md) (hg:m.good) {sz:Nat} (hsz:m.sz=(sz:Nat)) {Am Bm:Option Addr} {cm dm:Nat} {x y:ByteArray}:∀(vars:List ByteArray) (cs:List Value) (w:World) (S:Nat→Prop) (Dv:Option Addr) (ev:Nat),vars.length+nestF (.same x y)≤5→haveF m vars (.same x y)→fmRep.R w S (Fv.fm (.same x y)) cs→strRep.Sl w S (.slice Dv vars.length ev) vars→conRep.Sl w S (.slice Am m.cs.length cm) m.cs→relRep.Sl w S (.slice Bm m.rs.length dm) m.rs→(∀b,S b→b<w.heap.size)→Calls Tryd.prog 28 #[.agg #[.int .i64 (sz:Nat),.slice Am m.cs.length cm,.slice Bm m.rs.length dm],.agg cs.toArray,.slice Dv vars.length ev] w fun e w'=>∃gi,e=.returned (.slice (some ⟨gi,0,none⟩) (sz ^ vars.length) (sz ^ vars.length))∧w'.heap[gi]?=some (.cells ((tab m (.same x y) vars).map Value.bool).toArray 4 (0,0))∧w.heap.size≤gi∧Below w.heap.size w w' := by
  intro vars cs w S Dv ev hn hv ht hvs hcs hrs hS
  change fmRep.R w S (.mk ⟨3,⟨#[]⟩,[x,y]⟩ []) cs at ht
  generalize hkd:(3:Int)=kd at ht
  generalize hnme:(⟨#[]⟩:ByteArray)=nm at ht
  obtain ⟨u,v9,rfl,hnm,hw,hl⟩ := Fm.open_ ht
  simp only at hw hnm
  obtain ⟨A,n1,c1,rfl,e1,hm1,_⟩ := id hw
  obtain ⟨B,n2,c2,rfl,e2,hm2,_⟩ := id hl
  have hmg := hg.sz
  have hs:1≤sz∧sz≤6 := by omega
  have hzn:m.sz.toNat=sz := by omega
  have hm5:vars.length≤5 := by omega
  have hpw := pow_small hs hm5
  have hTl:(tab m (.same x y) vars).length=sz ^ vars.length := by rw [tab_length,hzn]
  have hTa:∀i,i<sz ^ vars.length→(tab m (.same x y) vars)[i]?=some (evalF m (.same x y) (vars.zip (digs sz vars.length i))) := fun i hi=>by
    have h9 := tab_at m (.same x y) vars (i := i) (by rw [hzn]; exact hi)
    rw [hzn] at h9; exact h9
  go_enter Tryd.func28,Tryd.ntmps28
  refine wp_seq ?_
  refine tb_r0_wp (fun a0 h0=>?_) _ (id ⟨rfl,rfl,rfl,rfl,rfl,trivial⟩)
  refine gen_last (fun wx=>wx.heap[w.heap.size]?=some (.cells #[.int .i64 (sz:Nat),.slice Am m.cs.length cm,.slice Bm m.rs.length dm] 25 (0,0))∧wx.heap[w.heap.size+1]?=some (.cells #[.int .i64 kd,.string nm,.slice A n1 c1,.slice B n2 c2] 29 (0,0))∧Below w.heap.size w wx) ⟨heap_old (by simp) (heap_at rfl),heap_at (by simp),by go_grown⟩ ?_
  rintro wy ⟨hmy,hay,hby⟩
  have hbys := hby.size
  have hSy:∀b,S b→b<wy.heap.size := fun b hb=>by have := hS b hb; omega
  have hvy := hvs.keep (fun b hb=>hby.block b (hS b hb)) (fun _ h=>h)
  have hcy := hcs.keep (fun b hb=>hby.block b (hS b hb)) (fun _ h=>h)
  have hry := hrs.keep (fun b hb=>hby.block b (hS b hb)) (fun _ h=>h)
  refine wp_seq ?_
  refine tb_r1_wp (fun a1 h1=>?_) a0 h0
  refine wp_seq ?_
  refine wp_seq ?_
  refine tb_r2_wp (fun a2 h2=>?_) a1 h1
  refine wp_block ?_
  refine tb_pow_wp hs hm5 hmy (fun a3 h3=>?_) a2 h2
  refine inBlock_exit ?_
  show Code.wp _ _ _ a3 wy
  refine wp_seq ?_
  refine tb_r6_wp (by omega) (fun a4 h4=>?_) a3 h3
  refine gen_last (fun wx=>wx.heap[wy.heap.size]?=some (.cells ((List.replicate (sz ^ vars.length) false).map Value.bool).toArray 4 (0,0))∧Below wy.heap.size wy wx∧wy.heap.size<wx.heap.size) ⟨by rw [List.map_replicate,← made_list]; exact heap_alloc_new _ _,(Below.refl _ _).alloc (Nat.le_refl _) _,by simp⟩ ?_
  rintro w2 ⟨hL2,hb2,hs2⟩
  have hay2 := (hb2.block _ (lt_heap hay)).trans hay
  have hmy2 := (hb2.block _ (lt_heap hmy)).trans hmy
  refine wp_seq ?_
  refine wp_seq ?_
  refine tb_r7_wp hay2 (fun a5 h5=>?_) a4 h4
  refine wp_block ?_
  obtain rfl:n1=[x,y].length := by omega
  have hhv:∀i,∀z∈[x,y],(envV (vars.zip (digs sz vars.length i)) z).isSome∨(conV m z).isSome := fun i=>words_have hv _ (digs_length _ _ _)
  refine wp_seq ?_
  refine tb_r25_wp (fun a6 h6=>?_) a5 (h5.pick [0,1,2,3,4])
  have q25:¬ kd=1 := by omega
  refine wp_cond_false ((h6.eval (k := 129) (v := .bool (decide (kd=1))) (by simp)).trans (by rw [decide_eq_false q25])) ?_
  refine wp_seq ?_
  refine wp_seq ?_
  refine tb_r31_wp (fun a7 h7=>?_) a6 (h6.pick [0,1,2,3,4])
  have q31:¬ kd=2 := by omega
  refine wp_cond_false ((h7.eval (k := 140) (v := .bool (decide (kd=2))) (by simp)).trans (by rw [decide_eq_false q31])) ?_
  refine tb_r32_wp (b1 := decide (kd=2)) (fun a8 h8=>?_) a7 (h7.pick [0,1,2,3,4,5])
  show Code.wp _ _ _ a8 w2
  have q9:kd=3 := by omega
  refine wp_cond_true ((h8.eval (k := 140) (v := .bool (decide (kd=3))) (by simp)).trans (by rw [decide_eq_true q9])) ?_
  refine wp_seq ?_
  refine tb_r33_wp (fun a9 h9=>?_) a8 (h8.pick [0,1,2,3])
  refine wp_block ?_
  refine tb_atoms_wp (T := tab m (.same x y) vars) (kd := kd) (m := m) (vars := vars) hg hsz hs hm5 hvy (hw.keep (fun b hb=>hby.block b (hS b hb)) (fun _ h=>h)) (by simp) hcy hry hmy hay hSy hb2 (Nat.le_refl _) hTl (by omega) (fun h=>absurd hkd.symm h) (fun _=>rfl) (fun i hi=>?_) hL2 (fun a10 w3 h10 hL3 hk3=>?_) a9 h9
  · rw [hTa i hi,if_pos hkd.symm]
    show some (decide (wordV m _ x=wordV m _ y))=some (decide (some (wordT m _ x)=some (wordT m _ y)))
    rw [wordT_eq (hhv i x (by simp)),wordT_eq (hhv i y (by simp))]
    simp
  refine inBlock_exit ?_
  show Code.wp _ _ _ a10 w3
  refine wp_seq ?_
  refine tb_r88_wp (fun a99 h99=>?_) a10 (h10.pick [3])
  refine wp_ret ?_
  exact tb_ret_wp ⟨_,rfl,hL3,by omega,hby.trans ((keeps_belowG hb2 rfl (Nat.le_refl _) hk3).mono hbys)⟩ a99 h99
theorem table_neg (m:Md) (hg:m.good) {sz:Nat} (hsz:m.sz=(sz:Nat)) {Am Bm:Option Addr} {cm dm:Nat} {f:Fv} (hok:f.ok) (ihf:Fv.ok f→∀(vars:List ByteArray) (cs:List Value) (w:World) (S:Nat→Prop) (Dv:Option Addr) (ev:Nat),vars.length+nestF (f)≤5→haveF m vars (f)→fmRep.R w S (Fv.fm (f)) cs→strRep.Sl w S (.slice Dv vars.length ev) vars→conRep.Sl w S (.slice Am m.cs.length cm) m.cs→relRep.Sl w S (.slice Bm m.rs.length dm) m.rs→(∀b,S b→b<w.heap.size)→Calls Tryd.prog 28 #[.agg #[.int .i64 (sz:Nat),.slice Am m.cs.length cm,.slice Bm m.rs.length dm],.agg cs.toArray,.slice Dv vars.length ev] w fun e w'=>∃gi,e=.returned (.slice (some ⟨gi,0,none⟩) (sz ^ vars.length) (sz ^ vars.length))∧w'.heap[gi]?=some (.cells ((tab m (f) vars).map Value.bool).toArray 4 (0,0))∧w.heap.size≤gi∧Below w.heap.size w w'):∀(vars:List ByteArray) (cs:List Value) (w:World) (S:Nat→Prop) (Dv:Option Addr) (ev:Nat),vars.length+nestF (.neg f)≤5→haveF m vars (.neg f)→fmRep.R w S (Fv.fm (.neg f)) cs→strRep.Sl w S (.slice Dv vars.length ev) vars→conRep.Sl w S (.slice Am m.cs.length cm) m.cs→relRep.Sl w S (.slice Bm m.rs.length dm) m.rs→(∀b,S b→b<w.heap.size)→Calls Tryd.prog 28 #[.agg #[.int .i64 (sz:Nat),.slice Am m.cs.length cm,.slice Bm m.rs.length dm],.agg cs.toArray,.slice Dv vars.length ev] w fun e w'=>∃gi,e=.returned (.slice (some ⟨gi,0,none⟩) (sz ^ vars.length) (sz ^ vars.length))∧w'.heap[gi]?=some (.cells ((tab m (.neg f) vars).map Value.bool).toArray 4 (0,0))∧w.heap.size≤gi∧Below w.heap.size w w' := by
  intro vars cs w S Dv ev hn hv ht hvs hcs hrs hS
  change fmRep.R w S (.mk ⟨4,⟨#[]⟩,[]⟩ [f.fm]) cs at ht
  generalize hkd:(4:Int)=kd at ht
  generalize hnme:(⟨#[]⟩:ByteArray)=nm at ht
  obtain ⟨u,v9,rfl,hnm,hw,hl⟩ := Fm.open_ ht
  simp only at hw hnm
  obtain ⟨A,n1,c1,rfl,e1,hm1,_⟩ := id hw
  obtain ⟨B,n2,c2,rfl,e2,hm2,_⟩ := id hl
  have hmg := hg.sz
  have hs:1≤sz∧sz≤6 := by omega
  have hzn:m.sz.toNat=sz := by omega
  have hm5:vars.length≤5 := by omega
  have hpw := pow_small hs hm5
  have hTl:(tab m (.neg f) vars).length=sz ^ vars.length := by rw [tab_length,hzn]
  have hTa:∀i,i<sz ^ vars.length→(tab m (.neg f) vars)[i]?=some (evalF m (.neg f) (vars.zip (digs sz vars.length i))) := fun i hi=>by
    have h9 := tab_at m (.neg f) vars (i := i) (by rw [hzn]; exact hi)
    rw [hzn] at h9; exact h9
  go_enter Tryd.func28,Tryd.ntmps28
  refine wp_seq ?_
  refine tb_r0_wp (fun a0 h0=>?_) _ (id ⟨rfl,rfl,rfl,rfl,rfl,trivial⟩)
  refine gen_last (fun wx=>wx.heap[w.heap.size]?=some (.cells #[.int .i64 (sz:Nat),.slice Am m.cs.length cm,.slice Bm m.rs.length dm] 25 (0,0))∧wx.heap[w.heap.size+1]?=some (.cells #[.int .i64 kd,.string nm,.slice A n1 c1,.slice B n2 c2] 29 (0,0))∧Below w.heap.size w wx) ⟨heap_old (by simp) (heap_at rfl),heap_at (by simp),by go_grown⟩ ?_
  rintro wy ⟨hmy,hay,hby⟩
  have hbys := hby.size
  have hSy:∀b,S b→b<wy.heap.size := fun b hb=>by have := hS b hb; omega
  have hvy := hvs.keep (fun b hb=>hby.block b (hS b hb)) (fun _ h=>h)
  have hcy := hcs.keep (fun b hb=>hby.block b (hS b hb)) (fun _ h=>h)
  have hry := hrs.keep (fun b hb=>hby.block b (hS b hb)) (fun _ h=>h)
  refine wp_seq ?_
  refine tb_r1_wp (fun a1 h1=>?_) a0 h0
  refine wp_seq ?_
  refine wp_seq ?_
  refine tb_r2_wp (fun a2 h2=>?_) a1 h1
  refine wp_block ?_
  refine tb_pow_wp hs hm5 hmy (fun a3 h3=>?_) a2 h2
  refine inBlock_exit ?_
  show Code.wp _ _ _ a3 wy
  refine wp_seq ?_
  refine tb_r6_wp (by omega) (fun a4 h4=>?_) a3 h3
  refine gen_last (fun wx=>wx.heap[wy.heap.size]?=some (.cells ((List.replicate (sz ^ vars.length) false).map Value.bool).toArray 4 (0,0))∧Below wy.heap.size wy wx∧wy.heap.size<wx.heap.size) ⟨by rw [List.map_replicate,← made_list]; exact heap_alloc_new _ _,(Below.refl _ _).alloc (Nat.le_refl _) _,by simp⟩ ?_
  rintro w2 ⟨hL2,hb2,hs2⟩
  have hay2 := (hb2.block _ (lt_heap hay)).trans hay
  have hmy2 := (hb2.block _ (lt_heap hmy)).trans hmy
  refine wp_seq ?_
  refine wp_seq ?_
  refine tb_r7_wp hay2 (fun a5 h5=>?_) a4 h4
  refine wp_block ?_
  have hokf:f.ok := hok
  have hvf:haveF m vars f := hv
  simp only [nestF] at hn
  refine wp_seq ?_
  refine tb_r25_wp (fun a6 h6=>?_) a5 (h5.pick [0,1,2,3,4])
  have q25:¬ kd=1 := by omega
  refine wp_cond_false ((h6.eval (k := 129) (v := .bool (decide (kd=1))) (by simp)).trans (by rw [decide_eq_false q25])) ?_
  refine wp_seq ?_
  refine wp_seq ?_
  refine tb_r31_wp (fun a7 h7=>?_) a6 (h6.pick [0,1,2,3,4])
  have q31:¬ kd=2 := by omega
  refine wp_cond_false ((h7.eval (k := 140) (v := .bool (decide (kd=2))) (by simp)).trans (by rw [decide_eq_false q31])) ?_
  refine tb_r32_wp (b1 := decide (kd=2)) (fun a8 h8=>?_) a7 (h7.pick [0,1,2,3,4,5])
  show Code.wp _ _ _ a8 w2
  have q32:¬ kd=3 := by omega
  refine wp_cond_false ((h8.eval (k := 140) (v := .bool (decide (kd=3))) (by simp)).trans (by rw [decide_eq_false q32])) ?_
  refine wp_seq ?_
  refine wp_seq ?_
  refine tb_r74_wp (fun a9 h9=>?_) a8 (h8.pick [0,1,2,3,4])
  have q74:¬ kd=8 := by omega
  refine wp_cond_false ((h9.eval (k := 275) (v := .bool (decide (kd=8))) (by simp)).trans (by rw [decide_eq_false q74])) ?_
  refine tb_r75_wp (b1 := decide (kd=8)) (fun a10 h10=>?_) a9 (h9.pick [0,1,2,3,4,5])
  show Code.wp _ _ _ a10 w2
  have q75:¬ kd=9 := by omega
  refine wp_cond_false ((h10.eval (k := 275) (v := .bool (decide (kd=9))) (by simp)).trans (by rw [decide_eq_false q75])) ?_
  have hkeep2:∀k,S k→w2.heap[k]?=w.heap[k]? := fun k hk=>(hb2.block k (hSy k hk)).trans (hby.block k (hS k hk))
  obtain rfl:n2=1 := by simpa using e2.symm
  obtain ⟨b,o,cs1,rfl,hSb,hr1,hcc1⟩ := Rep.Sl.at_ hl (k := 0) (a := f.fm) rfl
  obtain ⟨Ae,n3,c3,Be,n4,c4,rfl,_,_,_,_⟩ := Fm.shape hr1
  have hbl:b<w2.heap.size := by have := hSy b hSb; omega
  have e0_0:w2.cell? ⟨b,o,none⟩=_ := (cell_keep (hkeep2 b hSb) _).trans (hcc1 0 _ rfl)
  have e0_1:w2.cell? ⟨b,o+1,none⟩=_ := (cell_keep (hkeep2 b hSb) _).trans (hcc1 1 _ rfl)
  have e0_2:w2.cell? ⟨b,o+2,none⟩=_ := (cell_keep (hkeep2 b hSb) _).trans (hcc1 2 _ rfl)
  have e0_3:w2.cell? ⟨b,o+3,none⟩=_ := (cell_keep (hkeep2 b hSb) _).trans (hcc1 3 _ rfl)
  have hw2s := hs2
  refine wp_seq ?_
  refine wp_thenQ (tb_r8_wp (PX := fun gi w'=>w'.heap[gi]?=some (.cells ((tab m f vars).map Value.bool).toArray 4 (0,0))∧w2.heap.size≤gi∧Below w2.heap.size w2 w') hmy2 hay2 (by omega) e0_0 e0_1 e0_2 e0_3 hbl (fun W hW1 hW2 hW=>(ihf hokf vars _ W S Dv ev (by omega) hvf (fmRep.keep hr1 (fun k hk=>(hW.block k (by have := hSy k hk; have := hw2s; omega)).trans (hkeep2 k hk)) (fun _ h=>h)) (hvs.keep (fun k hk=>(hW.block k (by have := hSy k hk; have := hw2s; omega)).trans (hkeep2 k hk)) (fun _ h=>h)) (hcs.keep (fun k hk=>(hW.block k (by have := hSy k hk; have := hw2s; omega)).trans (hkeep2 k hk)) (fun _ h=>h)) (hrs.keep (fun k hk=>(hW.block k (by have := hSy k hk; have := hw2s; omega)).trans (hkeep2 k hk)) (fun _ h=>h)) (fun k hk=>by have := hSy k hk; have := hw2s; omega)).mono (fun e w' h=>by obtain ⟨gi,he,hbo,hge,hbw⟩ := h; exact ⟨gi,he,hbo,by omega,hW.trans (hbw.mono hW2)⟩)) (fun gi a11 w4 h11 hp4=>?_) a10 (h10.pick [0,1,2,3]))
  obtain ⟨hgi4,hgi2,hb24⟩ := hp4
  have hL4 := (hb24.block _ (lt_heap hL2)).trans hL2
  have hb4 := hb2.trans (hb24.mono (by omega))
  have hb24s := hb24.size
  refine wp_seq ?_
  refine tb_r9_wp (fun a12 h12=>?_) a11 h11
  refine wp_seq ?_
  refine wp_seq ?_
  have hay4 := (hb4.block _ (lt_heap hay)).trans hay
  refine tb_r10_wp hay4 (fun a13 h13=>?_) a12 h12
  refine wp_cond_false ((h13.eval (k := 57) (v := .bool (decide ((1:Nat)=2))) (by simp)).trans (by rw [show decide ((1:Nat)=2)=false from rfl])) ?_
  refine wp_skip ?_
  show Code.wp _ _ _ a13 w4
  refine wp_seq ?_
  refine tb_r12_wp (fun a14 h14=>?_) a13 (h13.pick [0,1,2,3,4,5])
  refine wp_block ?_
  refine tb_conn_wp (T := tab m (.neg f) vars) (ta := tab m f vars) (tb := tab m f vars) (kd := kd) (Or.inl hkd.symm) hay hb4 (Nat.le_refl _) hTl (by omega) (by rw [tab_length,hzn]) (by rw [tab_length,hzn]) (by omega) (by omega) hgi4 hgi4 (fun i b1 b2 hi h1 h2=>?_) hL4 (fun a15 w5 h15 hL5 hk5=>?_) a14 h14
  · have h9 := tab_at m f vars (i := i) (by rw [hzn]; exact hi)
    rw [hzn,h1] at h9
    rw [hTa i hi,if_pos hkd.symm,Option.some.inj h9]
    rfl
  refine inBlock_exit ?_
  have hk25:Keeps (fun k=>k=wy.heap.size) w2 w5 := (show Keeps (fun k=>k=wy.heap.size) w2 w4 from ⟨hb24.os,hb24.tape,hb24.output,hb24.size,fun k hk _=>hb24.block k hk⟩).trans hk5
  show Code.wp _ _ _ a15 w5
  refine wp_seq ?_
  refine tb_r88_wp (fun a99 h99=>?_) a15 (h15.pick [3])
  refine wp_ret ?_
  exact tb_ret_wp ⟨_,rfl,hL5,by omega,hby.trans ((keeps_belowG hb2 rfl (Nat.le_refl _) hk25).mono hbys)⟩ a99 h99
theorem table_bin (m:Md) (hg:m.good) {sz:Nat} (hsz:m.sz=(sz:Nat)) {Am Bm:Option Addr} {cm dm:Nat} {k:Nat} {f g:Fv} (hok:(Fv.bin k f g).ok) (ihf:Fv.ok f→∀(vars:List ByteArray) (cs:List Value) (w:World) (S:Nat→Prop) (Dv:Option Addr) (ev:Nat),vars.length+nestF (f)≤5→haveF m vars (f)→fmRep.R w S (Fv.fm (f)) cs→strRep.Sl w S (.slice Dv vars.length ev) vars→conRep.Sl w S (.slice Am m.cs.length cm) m.cs→relRep.Sl w S (.slice Bm m.rs.length dm) m.rs→(∀b,S b→b<w.heap.size)→Calls Tryd.prog 28 #[.agg #[.int .i64 (sz:Nat),.slice Am m.cs.length cm,.slice Bm m.rs.length dm],.agg cs.toArray,.slice Dv vars.length ev] w fun e w'=>∃gi,e=.returned (.slice (some ⟨gi,0,none⟩) (sz ^ vars.length) (sz ^ vars.length))∧w'.heap[gi]?=some (.cells ((tab m (f) vars).map Value.bool).toArray 4 (0,0))∧w.heap.size≤gi∧Below w.heap.size w w') (ihg:Fv.ok g→∀(vars:List ByteArray) (cs:List Value) (w:World) (S:Nat→Prop) (Dv:Option Addr) (ev:Nat),vars.length+nestF (g)≤5→haveF m vars (g)→fmRep.R w S (Fv.fm (g)) cs→strRep.Sl w S (.slice Dv vars.length ev) vars→conRep.Sl w S (.slice Am m.cs.length cm) m.cs→relRep.Sl w S (.slice Bm m.rs.length dm) m.rs→(∀b,S b→b<w.heap.size)→Calls Tryd.prog 28 #[.agg #[.int .i64 (sz:Nat),.slice Am m.cs.length cm,.slice Bm m.rs.length dm],.agg cs.toArray,.slice Dv vars.length ev] w fun e w'=>∃gi,e=.returned (.slice (some ⟨gi,0,none⟩) (sz ^ vars.length) (sz ^ vars.length))∧w'.heap[gi]?=some (.cells ((tab m (g) vars).map Value.bool).toArray 4 (0,0))∧w.heap.size≤gi∧Below w.heap.size w w'):∀(vars:List ByteArray) (cs:List Value) (w:World) (S:Nat→Prop) (Dv:Option Addr) (ev:Nat),vars.length+nestF (.bin k f g)≤5→haveF m vars (.bin k f g)→fmRep.R w S (Fv.fm (.bin k f g)) cs→strRep.Sl w S (.slice Dv vars.length ev) vars→conRep.Sl w S (.slice Am m.cs.length cm) m.cs→relRep.Sl w S (.slice Bm m.rs.length dm) m.rs→(∀b,S b→b<w.heap.size)→Calls Tryd.prog 28 #[.agg #[.int .i64 (sz:Nat),.slice Am m.cs.length cm,.slice Bm m.rs.length dm],.agg cs.toArray,.slice Dv vars.length ev] w fun e w'=>∃gi,e=.returned (.slice (some ⟨gi,0,none⟩) (sz ^ vars.length) (sz ^ vars.length))∧w'.heap[gi]?=some (.cells ((tab m (.bin k f g) vars).map Value.bool).toArray 4 (0,0))∧w.heap.size≤gi∧Below w.heap.size w w' := by
  intro vars cs w S Dv ev hn hv ht hvs hcs hrs hS
  change fmRep.R w S (.mk ⟨(k:Int),⟨#[]⟩,[]⟩ [f.fm,g.fm]) cs at ht
  generalize hkd:((k:Int):Int)=kd at ht
  generalize hnme:(⟨#[]⟩:ByteArray)=nm at ht
  obtain ⟨u,v9,rfl,hnm,hw,hl⟩ := Fm.open_ ht
  simp only at hw hnm
  obtain ⟨A,n1,c1,rfl,e1,hm1,_⟩ := id hw
  obtain ⟨B,n2,c2,rfl,e2,hm2,_⟩ := id hl
  have hmg := hg.sz
  have hs:1≤sz∧sz≤6 := by omega
  have hzn:m.sz.toNat=sz := by omega
  have hm5:vars.length≤5 := by omega
  have hpw := pow_small hs hm5
  have hTl:(tab m (.bin k f g) vars).length=sz ^ vars.length := by rw [tab_length,hzn]
  have hTa:∀i,i<sz ^ vars.length→(tab m (.bin k f g) vars)[i]?=some (evalF m (.bin k f g) (vars.zip (digs sz vars.length i))) := fun i hi=>by
    have h9 := tab_at m (.bin k f g) vars (i := i) (by rw [hzn]; exact hi)
    rw [hzn] at h9; exact h9
  go_enter Tryd.func28,Tryd.ntmps28
  refine wp_seq ?_
  refine tb_r0_wp (fun a0 h0=>?_) _ (id ⟨rfl,rfl,rfl,rfl,rfl,trivial⟩)
  refine gen_last (fun wx=>wx.heap[w.heap.size]?=some (.cells #[.int .i64 (sz:Nat),.slice Am m.cs.length cm,.slice Bm m.rs.length dm] 25 (0,0))∧wx.heap[w.heap.size+1]?=some (.cells #[.int .i64 kd,.string nm,.slice A n1 c1,.slice B n2 c2] 29 (0,0))∧Below w.heap.size w wx) ⟨heap_old (by simp) (heap_at rfl),heap_at (by simp),by go_grown⟩ ?_
  rintro wy ⟨hmy,hay,hby⟩
  have hbys := hby.size
  have hSy:∀b,S b→b<wy.heap.size := fun b hb=>by have := hS b hb; omega
  have hvy := hvs.keep (fun b hb=>hby.block b (hS b hb)) (fun _ h=>h)
  have hcy := hcs.keep (fun b hb=>hby.block b (hS b hb)) (fun _ h=>h)
  have hry := hrs.keep (fun b hb=>hby.block b (hS b hb)) (fun _ h=>h)
  refine wp_seq ?_
  refine tb_r1_wp (fun a1 h1=>?_) a0 h0
  refine wp_seq ?_
  refine wp_seq ?_
  refine tb_r2_wp (fun a2 h2=>?_) a1 h1
  refine wp_block ?_
  refine tb_pow_wp hs hm5 hmy (fun a3 h3=>?_) a2 h2
  refine inBlock_exit ?_
  show Code.wp _ _ _ a3 wy
  refine wp_seq ?_
  refine tb_r6_wp (by omega) (fun a4 h4=>?_) a3 h3
  refine gen_last (fun wx=>wx.heap[wy.heap.size]?=some (.cells ((List.replicate (sz ^ vars.length) false).map Value.bool).toArray 4 (0,0))∧Below wy.heap.size wy wx∧wy.heap.size<wx.heap.size) ⟨by rw [List.map_replicate,← made_list]; exact heap_alloc_new _ _,(Below.refl _ _).alloc (Nat.le_refl _) _,by simp⟩ ?_
  rintro w2 ⟨hL2,hb2,hs2⟩
  have hay2 := (hb2.block _ (lt_heap hay)).trans hay
  have hmy2 := (hb2.block _ (lt_heap hmy)).trans hmy
  refine wp_seq ?_
  refine wp_seq ?_
  refine tb_r7_wp hay2 (fun a5 h5=>?_) a4 h4
  refine wp_block ?_
  have hk := hok.1
  have hokf:f.ok := hok.2.1
  have hokg:g.ok := hok.2.2
  have hvf:haveF m vars f := hv.1
  have hvg:haveF m vars g := hv.2
  simp only [nestF] at hn
  refine wp_seq ?_
  refine tb_r25_wp (fun a6 h6=>?_) a5 (h5.pick [0,1,2,3,4])
  have q25:¬ kd=1 := by omega
  refine wp_cond_false ((h6.eval (k := 129) (v := .bool (decide (kd=1))) (by simp)).trans (by rw [decide_eq_false q25])) ?_
  refine wp_seq ?_
  refine wp_seq ?_
  refine tb_r31_wp (fun a7 h7=>?_) a6 (h6.pick [0,1,2,3,4])
  have q31:¬ kd=2 := by omega
  refine wp_cond_false ((h7.eval (k := 140) (v := .bool (decide (kd=2))) (by simp)).trans (by rw [decide_eq_false q31])) ?_
  refine tb_r32_wp (b1 := decide (kd=2)) (fun a8 h8=>?_) a7 (h7.pick [0,1,2,3,4,5])
  show Code.wp _ _ _ a8 w2
  have q32:¬ kd=3 := by omega
  refine wp_cond_false ((h8.eval (k := 140) (v := .bool (decide (kd=3))) (by simp)).trans (by rw [decide_eq_false q32])) ?_
  refine wp_seq ?_
  refine wp_seq ?_
  refine tb_r74_wp (fun a9 h9=>?_) a8 (h8.pick [0,1,2,3,4])
  have q74:¬ kd=8 := by omega
  refine wp_cond_false ((h9.eval (k := 275) (v := .bool (decide (kd=8))) (by simp)).trans (by rw [decide_eq_false q74])) ?_
  refine tb_r75_wp (b1 := decide (kd=8)) (fun a10 h10=>?_) a9 (h9.pick [0,1,2,3,4,5])
  show Code.wp _ _ _ a10 w2
  have q75:¬ kd=9 := by omega
  refine wp_cond_false ((h10.eval (k := 275) (v := .bool (decide (kd=9))) (by simp)).trans (by rw [decide_eq_false q75])) ?_
  have hkeep2:∀k,S k→w2.heap[k]?=w.heap[k]? := fun k hk=>(hb2.block k (hSy k hk)).trans (hby.block k (hS k hk))
  obtain rfl:n2=2 := by simpa using e2.symm
  obtain ⟨b,o,cs1,rfl,hSb,hr1,hcc1⟩ := Rep.Sl.at_ hl (k := 0) (a := f.fm) rfl
  obtain ⟨b',o',cs2,e9,_,hr2,hcc2⟩ := Rep.Sl.at_ hl (k := 1) (a := g.fm) rfl
  simp only [Option.some.injEq,Addr.mk.injEq] at e9
  obtain ⟨rfl,rfl,_⟩ := e9
  obtain ⟨Ae,n3,c3,Be,n4,c4,rfl,_,_,_,_⟩ := Fm.shape hr1
  obtain ⟨Af,n5,c5,Bf,n6,c6,rfl,_,_,_,_⟩ := Fm.shape hr2
  have hbl:b<w2.heap.size := by have := hSy b hSb; omega
  have e0_0:w2.cell? ⟨b,o,none⟩=_ := (cell_keep (hkeep2 b hSb) _).trans (hcc1 0 _ rfl)
  have e0_1:w2.cell? ⟨b,o+1,none⟩=_ := (cell_keep (hkeep2 b hSb) _).trans (hcc1 1 _ rfl)
  have e0_2:w2.cell? ⟨b,o+2,none⟩=_ := (cell_keep (hkeep2 b hSb) _).trans (hcc1 2 _ rfl)
  have e0_3:w2.cell? ⟨b,o+3,none⟩=_ := (cell_keep (hkeep2 b hSb) _).trans (hcc1 3 _ rfl)
  have hw2s := hs2
  refine wp_seq ?_
  refine wp_thenQ (tb_r8_wp (PX := fun gi w'=>w'.heap[gi]?=some (.cells ((tab m f vars).map Value.bool).toArray 4 (0,0))∧w2.heap.size≤gi∧Below w2.heap.size w2 w') hmy2 hay2 (by omega) e0_0 e0_1 e0_2 e0_3 hbl (fun W hW1 hW2 hW=>(ihf hokf vars _ W S Dv ev (by omega) hvf (fmRep.keep hr1 (fun k hk=>(hW.block k (by have := hSy k hk; have := hw2s; omega)).trans (hkeep2 k hk)) (fun _ h=>h)) (hvs.keep (fun k hk=>(hW.block k (by have := hSy k hk; have := hw2s; omega)).trans (hkeep2 k hk)) (fun _ h=>h)) (hcs.keep (fun k hk=>(hW.block k (by have := hSy k hk; have := hw2s; omega)).trans (hkeep2 k hk)) (fun _ h=>h)) (hrs.keep (fun k hk=>(hW.block k (by have := hSy k hk; have := hw2s; omega)).trans (hkeep2 k hk)) (fun _ h=>h)) (fun k hk=>by have := hSy k hk; have := hw2s; omega)).mono (fun e w' h=>by obtain ⟨gi,he,hbo,hge,hbw⟩ := h; exact ⟨gi,he,hbo,by omega,hW.trans (hbw.mono hW2)⟩)) (fun gi a11 w4 h11 hp4=>?_) a10 (h10.pick [0,1,2,3]))
  obtain ⟨hgi4,hgi2,hb24⟩ := hp4
  have hL4 := (hb24.block _ (lt_heap hL2)).trans hL2
  have hb4 := hb2.trans (hb24.mono (by omega))
  have hb24s := hb24.size
  refine wp_seq ?_
  refine tb_r9_wp (fun a12 h12=>?_) a11 h11
  refine wp_seq ?_
  refine wp_seq ?_
  have hay4 := (hb4.block _ (lt_heap hay)).trans hay
  refine tb_r10_wp hay4 (fun a13 h13=>?_) a12 h12
  refine wp_cond_true ((h13.eval (k := 57) (v := .bool (decide ((2:Nat)=2))) (by simp)).trans (by rw [show decide ((2:Nat)=2)=true from rfl])) ?_
  have hkeep4:∀k,S k→w4.heap[k]?=w.heap[k]? := fun k hk=>(hb24.block k (by have := hSy k hk; omega)).trans (hkeep2 k hk)
  have e1_0:w4.cell? ⟨b,o+4,none⟩=_ := (cell_keep (hkeep4 b hSb) _).trans (hcc2 0 _ rfl)
  have e1_1:w4.cell? ⟨b,o+5,none⟩=_ := (cell_keep (hkeep4 b hSb) _).trans (hcc2 1 _ rfl)
  have e1_2:w4.cell? ⟨b,o+6,none⟩=_ := (cell_keep (hkeep4 b hSb) _).trans (hcc2 2 _ rfl)
  have e1_3:w4.cell? ⟨b,o+7,none⟩=_ := (cell_keep (hkeep4 b hSb) _).trans (hcc2 3 _ rfl)
  have hw4s:wy.heap.size<w4.heap.size := by omega
  have hmy4 := (hb4.block _ (lt_heap hmy)).trans hmy
  refine wp_thenQ (tb_r11_wp (PX := fun gi w'=>w'.heap[gi]?=some (.cells ((tab m g vars).map Value.bool).toArray 4 (0,0))∧w4.heap.size≤gi∧Below w4.heap.size w4 w') hmy4 hay4 e1_0 e1_1 e1_2 e1_3 (by omega) (fun W hW1 hW2 hW=>(ihg hokg vars _ W S Dv ev (by omega) hvg (fmRep.keep hr2 (fun k hk=>(hW.block k (by have := hSy k hk; have := hw4s; omega)).trans (hkeep4 k hk)) (fun _ h=>h)) (hvs.keep (fun k hk=>(hW.block k (by have := hSy k hk; have := hw4s; omega)).trans (hkeep4 k hk)) (fun _ h=>h)) (hcs.keep (fun k hk=>(hW.block k (by have := hSy k hk; have := hw4s; omega)).trans (hkeep4 k hk)) (fun _ h=>h)) (hrs.keep (fun k hk=>(hW.block k (by have := hSy k hk; have := hw4s; omega)).trans (hkeep4 k hk)) (fun _ h=>h)) (fun k hk=>by have := hSy k hk; have := hw4s; omega)).mono (fun e w' h=>by obtain ⟨gi,he,hbo,hge,hbw⟩ := h; exact ⟨gi,he,hbo,by omega,hW.trans (hbw.mono hW2)⟩)) (fun gx a14 w6 h14 hp6=>?_) a13 (h13.pick [0,1,2,3,4]))
  obtain ⟨hgx6,hgx4,hb46⟩ := hp6
  show Code.wp _ _ _ a14 w6
  have hL6 := (hb46.block _ (lt_heap hL4)).trans hL4
  have hgi6 := (hb46.block _ (lt_heap hgi4)).trans hgi4
  have hb6 := hb4.trans (hb46.mono (by omega))
  refine wp_seq ?_
  refine tb_r12_wp (fun a15 h15=>?_) a14 h14
  refine wp_block ?_
  refine tb_conn_wp (T := tab m (.bin k f g) vars) (ta := tab m f vars) (tb := tab m g vars) (kd := kd) (Or.inr (by omega)) hay hb6 (Nat.le_refl _) hTl (by omega) (by rw [tab_length,hzn]) (by rw [tab_length,hzn]) (by omega) (by omega) hgi6 hgx6 (fun i b1 b2 hi h1 h2=>?_) hL6 (fun a16 w5 h16 hL5 hk5=>?_) a15 h15
  · have h9 := tab_at m f vars (i := i) (by rw [hzn]; exact hi)
    rw [hzn,h1] at h9
    have h8 := tab_at m g vars (i := i) (by rw [hzn]; exact hi)
    rw [hzn,h2] at h8
    rw [hTa i hi,Option.some.inj h9,Option.some.inj h8]
    show some (if k=5 then _ else _)=_
    rcases hk with rfl | rfl | rfl <;> subst hkd <;> simp
  refine inBlock_exit ?_
  have hk25:Keeps (fun k=>k=wy.heap.size) w2 w5 := (show Keeps (fun k=>k=wy.heap.size) w2 w6 from ⟨hb46.os.trans hb24.os,hb46.tape.trans hb24.tape,hb46.output.trans hb24.output,by have := hb46.size; omega,fun k hk _=>(hb46.block k (by omega)).trans (hb24.block k hk)⟩).trans hk5
  show Code.wp _ _ _ a16 w5
  refine wp_seq ?_
  refine tb_r88_wp (fun a99 h99=>?_) a16 (h16.pick [3])
  refine wp_ret ?_
  exact tb_ret_wp ⟨_,rfl,hL5,by omega,hby.trans ((keeps_belowG hb2 rfl (Nat.le_refl _) hk25).mono hbys)⟩ a99 h99
theorem table_qu (m:Md) (hg:m.good) {sz:Nat} (hsz:m.sz=(sz:Nat)) {Am Bm:Option Addr} {cm dm:Nat} {k:Nat} {x:ByteArray} {f:Fv} (hok:(Fv.qu k x f).ok) (ihf:Fv.ok f→∀(vars:List ByteArray) (cs:List Value) (w:World) (S:Nat→Prop) (Dv:Option Addr) (ev:Nat),vars.length+nestF (f)≤5→haveF m vars (f)→fmRep.R w S (Fv.fm (f)) cs→strRep.Sl w S (.slice Dv vars.length ev) vars→conRep.Sl w S (.slice Am m.cs.length cm) m.cs→relRep.Sl w S (.slice Bm m.rs.length dm) m.rs→(∀b,S b→b<w.heap.size)→Calls Tryd.prog 28 #[.agg #[.int .i64 (sz:Nat),.slice Am m.cs.length cm,.slice Bm m.rs.length dm],.agg cs.toArray,.slice Dv vars.length ev] w fun e w'=>∃gi,e=.returned (.slice (some ⟨gi,0,none⟩) (sz ^ vars.length) (sz ^ vars.length))∧w'.heap[gi]?=some (.cells ((tab m (f) vars).map Value.bool).toArray 4 (0,0))∧w.heap.size≤gi∧Below w.heap.size w w'):∀(vars:List ByteArray) (cs:List Value) (w:World) (S:Nat→Prop) (Dv:Option Addr) (ev:Nat),vars.length+nestF (.qu k x f)≤5→haveF m vars (.qu k x f)→fmRep.R w S (Fv.fm (.qu k x f)) cs→strRep.Sl w S (.slice Dv vars.length ev) vars→conRep.Sl w S (.slice Am m.cs.length cm) m.cs→relRep.Sl w S (.slice Bm m.rs.length dm) m.rs→(∀b,S b→b<w.heap.size)→Calls Tryd.prog 28 #[.agg #[.int .i64 (sz:Nat),.slice Am m.cs.length cm,.slice Bm m.rs.length dm],.agg cs.toArray,.slice Dv vars.length ev] w fun e w'=>∃gi,e=.returned (.slice (some ⟨gi,0,none⟩) (sz ^ vars.length) (sz ^ vars.length))∧w'.heap[gi]?=some (.cells ((tab m (.qu k x f) vars).map Value.bool).toArray 4 (0,0))∧w.heap.size≤gi∧Below w.heap.size w w' := by
  intro vars cs w S Dv ev hn hv ht hvs hcs hrs hS
  change fmRep.R w S (.mk ⟨(k:Int),x,[]⟩ [f.fm]) cs at ht
  generalize hkd:((k:Int):Int)=kd at ht
  generalize hnme:(x:ByteArray)=nm at ht
  obtain ⟨u,v9,rfl,hnm,hw,hl⟩ := Fm.open_ ht
  simp only at hw hnm
  obtain ⟨A,n1,c1,rfl,e1,hm1,_⟩ := id hw
  obtain ⟨B,n2,c2,rfl,e2,hm2,_⟩ := id hl
  have hmg := hg.sz
  have hs:1≤sz∧sz≤6 := by omega
  have hzn:m.sz.toNat=sz := by omega
  have hm5:vars.length≤5 := by omega
  have hpw := pow_small hs hm5
  have hTl:(tab m (.qu k x f) vars).length=sz ^ vars.length := by rw [tab_length,hzn]
  have hTa:∀i,i<sz ^ vars.length→(tab m (.qu k x f) vars)[i]?=some (evalF m (.qu k x f) (vars.zip (digs sz vars.length i))) := fun i hi=>by
    have h9 := tab_at m (.qu k x f) vars (i := i) (by rw [hzn]; exact hi)
    rw [hzn] at h9; exact h9
  go_enter Tryd.func28,Tryd.ntmps28
  refine wp_seq ?_
  refine tb_r0_wp (fun a0 h0=>?_) _ (id ⟨rfl,rfl,rfl,rfl,rfl,trivial⟩)
  refine gen_last (fun wx=>wx.heap[w.heap.size]?=some (.cells #[.int .i64 (sz:Nat),.slice Am m.cs.length cm,.slice Bm m.rs.length dm] 25 (0,0))∧wx.heap[w.heap.size+1]?=some (.cells #[.int .i64 kd,.string nm,.slice A n1 c1,.slice B n2 c2] 29 (0,0))∧Below w.heap.size w wx) ⟨heap_old (by simp) (heap_at rfl),heap_at (by simp),by go_grown⟩ ?_
  rintro wy ⟨hmy,hay,hby⟩
  have hbys := hby.size
  have hSy:∀b,S b→b<wy.heap.size := fun b hb=>by have := hS b hb; omega
  have hvy := hvs.keep (fun b hb=>hby.block b (hS b hb)) (fun _ h=>h)
  have hcy := hcs.keep (fun b hb=>hby.block b (hS b hb)) (fun _ h=>h)
  have hry := hrs.keep (fun b hb=>hby.block b (hS b hb)) (fun _ h=>h)
  refine wp_seq ?_
  refine tb_r1_wp (fun a1 h1=>?_) a0 h0
  refine wp_seq ?_
  refine wp_seq ?_
  refine tb_r2_wp (fun a2 h2=>?_) a1 h1
  refine wp_block ?_
  refine tb_pow_wp hs hm5 hmy (fun a3 h3=>?_) a2 h2
  refine inBlock_exit ?_
  show Code.wp _ _ _ a3 wy
  refine wp_seq ?_
  refine tb_r6_wp (by omega) (fun a4 h4=>?_) a3 h3
  refine gen_last (fun wx=>wx.heap[wy.heap.size]?=some (.cells ((List.replicate (sz ^ vars.length) false).map Value.bool).toArray 4 (0,0))∧Below wy.heap.size wy wx∧wy.heap.size<wx.heap.size) ⟨by rw [List.map_replicate,← made_list]; exact heap_alloc_new _ _,(Below.refl _ _).alloc (Nat.le_refl _) _,by simp⟩ ?_
  rintro w2 ⟨hL2,hb2,hs2⟩
  have hay2 := (hb2.block _ (lt_heap hay)).trans hay
  have hmy2 := (hb2.block _ (lt_heap hmy)).trans hmy
  refine wp_seq ?_
  refine wp_seq ?_
  refine tb_r7_wp hay2 (fun a5 h5=>?_) a4 h4
  refine wp_block ?_
  subst hnme
  have hk := hok.1
  simp only [nestF] at hn
  refine wp_seq ?_
  refine tb_r25_wp (fun a6 h6=>?_) a5 (h5.pick [0,1,2,3,4])
  have q25:¬ kd=1 := by omega
  refine wp_cond_false ((h6.eval (k := 129) (v := .bool (decide (kd=1))) (by simp)).trans (by rw [decide_eq_false q25])) ?_
  refine wp_seq ?_
  refine wp_seq ?_
  refine tb_r31_wp (fun a7 h7=>?_) a6 (h6.pick [0,1,2,3,4])
  have q31:¬ kd=2 := by omega
  refine wp_cond_false ((h7.eval (k := 140) (v := .bool (decide (kd=2))) (by simp)).trans (by rw [decide_eq_false q31])) ?_
  refine tb_r32_wp (b1 := decide (kd=2)) (fun a8 h8=>?_) a7 (h7.pick [0,1,2,3,4,5])
  show Code.wp _ _ _ a8 w2
  have q32:¬ kd=3 := by omega
  refine wp_cond_false ((h8.eval (k := 140) (v := .bool (decide (kd=3))) (by simp)).trans (by rw [decide_eq_false q32])) ?_
  refine wp_seq ?_
  refine wp_seq ?_
  have hkeep2:∀k,S k→w2.heap[k]?=w.heap[k]? := fun k hk=>(hb2.block k (hSy k hk)).trans (hby.block k (hS k hk))
  obtain rfl:n2=1 := by simpa using e2.symm
  obtain ⟨b,o,cs1,rfl,hSb,hr1,hcc1⟩ := Rep.Sl.at_ hl (k := 0) (a := f.fm) rfl
  obtain ⟨Ae,n3,c3,Be,n4,c4,rfl,_,_,_,_⟩ := Fm.shape hr1
  have hbl:b<w2.heap.size := by have := hSy b hSb; omega
  have e0_0:w2.cell? ⟨b,o,none⟩=_ := (cell_keep (hkeep2 b hSb) _).trans (hcc1 0 _ rfl)
  have e0_1:w2.cell? ⟨b,o+1,none⟩=_ := (cell_keep (hkeep2 b hSb) _).trans (hcc1 1 _ rfl)
  have e0_2:w2.cell? ⟨b,o+2,none⟩=_ := (cell_keep (hkeep2 b hSb) _).trans (hcc1 2 _ rfl)
  have e0_3:w2.cell? ⟨b,o+3,none⟩=_ := (cell_keep (hkeep2 b hSb) _).trans (hcc1 3 _ rfl)
  refine tb_r74_wp (fun a9 h9=>?_) a8 (h8.pick [0,1,2,3,4])
  by_cases hk8:kd=8
  · refine wp_cond_true ((h9.eval (k := 275) (v := .bool (decide (kd=8))) (by simp)).trans (by rw [decide_eq_true hk8])) ?_
    refine wp_skip ?_
    show Code.wp _ _ _ a9 w2
    refine wp_cond_true ((h9.eval (k := 275) (v := .bool (decide (kd=8))) (by simp)).trans (by rw [decide_eq_true hk8])) ?_
    have hrow:∀(W:World) (v':Value),W.ownsRow w2.heap.size 9 1 v' (vars.length+1) (vars.map .string++[.string x])→Below w2.heap.size w2 W→Calls Tryd.prog 28 #[.agg #[.int .i64 (sz:Nat),.slice Am m.cs.length cm,.slice Bm m.rs.length dm],.agg #[.int .i64 f.fm.lab.kind,.string f.fm.lab.nm,.slice Ae n3 c3,.slice Be n4 c4],v'] W fun e w'=>∃gi,e=.returned (.slice (some ⟨gi,0,none⟩) (tab m f (vars++[x])).length (tab m f (vars++[x])).length)∧(w'.heap[gi]?=some (.cells ((tab m f (vars++[x])).map Value.bool).toArray 4 (0,0))∧w2.heap.size≤gi∧Below w2.heap.size w2 w')∧Below w2.heap.size w2 w' := by
      intro W v' hown hW
      have hWs := hW.size
      obtain ⟨A9,c9,rfl,_⟩ := own_cap hown
      have hkW:∀k,S k→W.heap[k]?=w.heap[k]? := fun k hk=>(hW.block k (by have := hSy k hk; omega)).trans (hkeep2 k hk)
      have hsl:strRep.Sl W (fun k=>S k∨(w2.heap.size≤k∧k<W.heap.size)) (.slice A9 (vars++[x]).length c9) (vars++[x]) := by
        refine sl_of_row (base := w2.heap.size) (E := 9) ?_ ?_ ?_ ?_
        · rw [List.length_append,List.length_singleton,List.map_append]; exact hown
        · intro s hs9
          rcases List.mem_append.1 hs9 with h | h
          · exact str_small hvs s h
          · rw [List.mem_singleton.1 h]; exact hnm
        · rw [List.length_append,List.length_singleton]; unfold maxLen; omega
        · intro k hk
          have h9 := hown.lt k (by simpa [Value.ownBlock] using hk)
          exact Or.inr h9
      have h8 := (ihf hok.2.2 (vars++[x]) _ W (fun k=>S k∨(w2.heap.size≤k∧k<W.heap.size)) A9 c9 (by rw [List.length_append,List.length_singleton]; omega) hv (fmRep.keep hr1 hkW (fun _ h=>Or.inl h)) hsl (hcs.keep hkW (fun _ h=>Or.inl h)) (hrs.keep hkW (fun _ h=>Or.inl h)) (fun k hk=>by
        rcases hk with hk | hk
        · have := hSy k hk; omega
        · exact hk.2))
      rw [List.length_append,List.length_singleton] at h8
      refine h8.mono ?_
      rintro e w' ⟨gi,rfl,hbo,hge,hbw⟩
      have hl9:(tab m f (vars++[x])).length=sz ^ (vars.length+1) := by rw [tab_length,hzn,List.length_append,List.length_singleton]
      rw [hl9]
      exact ⟨gi,rfl,⟨hbo,by omega,hW.trans (hbw.mono hWs)⟩,hW.trans (hbw.mono hWs)⟩
    refine wp_seq ?_
    refine wp_thenQ (tb_r76_wp (k := 0) (nr := (tab m f (vars++[x])).length) (PX := fun gi w'=>w'.heap[gi]?=some (.cells ((tab m f (vars++[x])).map Value.bool).toArray 4 (0,0))∧w2.heap.size≤gi∧Below w2.heap.size w2 w') (S := S) hmy2 hay2 e0_0 e0_1 e0_2 e0_3 hbl (by omega) (hvs.keep hkeep2 (fun _ h=>h)) (fun k hk=>by have := hSy k hk; omega) hrow (fun gi a11 w4 h11 hp4=>?_) a9 (h9.pick [0,1,2,3]))
    obtain ⟨hgi4,hgi2,hb24⟩ := hp4
    have hL4 := (hb24.block _ (lt_heap hL2)).trans hL2
    have hb4 := hb2.trans (hb24.mono (by omega))
    refine wp_seq ?_
    refine tb_r77_wp (fun a12 h12=>?_) a11 h11
    refine wp_block ?_
    refine tb_quant_wp (T := tab m (.qu k x f) vars) (tr := tab m f (vars++[x])) (kd := kd) hs (by omega) hmy hay hb4 (Nat.le_refl _) hTl (by omega) (by rw [tab_length,hzn,List.length_append,List.length_singleton,Nat.pow_succ]) (by omega) hgi4 (fun i hi=>?_) hL4 (fun a13 w5 h13 hL5 hk5=>?_) a12 h12
    · have hkid:∀j∈List.range sz,evalF m f (vars.zip (digs sz vars.length i)++[(x,(j:Int))])=((tab m f (vars++[x]))[i * sz+j]?).getD false := fun j hj=>by
        have h9 := (tab_kid m f x vars (i := i) (v := j) (by rw [hzn]; exact hi) (by rw [hzn]; exact List.mem_range.1 hj)).2
        rw [hzn] at h9
        rw [h9]; rfl
      rw [hTa i hi]
      show some (if k=8 then (rangeV m).all _ else (rangeV m).any _)=_
      unfold rangeV
      rw [hzn,List.all_map,List.any_map]
      have ea := all_congr9 (l := List.range sz) (f := (fun v=>evalF m f (vars.zip (digs sz vars.length i)++[(x,v)])) ∘ fun v:Nat=>(v:Int)) hkid
      have en := any_congr9 (l := List.range sz) (f := (fun v=>evalF m f (vars.zip (digs sz vars.length i)++[(x,v)])) ∘ fun v:Nat=>(v:Int)) hkid
      rw [ea,en]
      by_cases h8:k=8
      · rw [if_pos h8,if_pos (by omega)]
      · rw [if_neg h8,if_neg (by omega)]
    refine inBlock_exit ?_
    have hk25:Keeps (fun k=>k=wy.heap.size) w2 w5 := (show Keeps (fun k=>k=wy.heap.size) w2 w4 from ⟨hb24.os,hb24.tape,hb24.output,hb24.size,fun k hk _=>hb24.block k hk⟩).trans hk5
    show Code.wp _ _ _ a13 w5
    refine wp_seq ?_
    refine tb_r88_wp (fun a99 h99=>?_) a13 (h13.pick [3])
    refine wp_ret ?_
    exact tb_ret_wp ⟨_,rfl,hL5,by omega,hby.trans ((keeps_belowG hb2 rfl (Nat.le_refl _) hk25).mono hbys)⟩ a99 h99
  · refine wp_cond_false ((h9.eval (k := 275) (v := .bool (decide (kd=8))) (by simp)).trans (by rw [decide_eq_false hk8])) ?_
    refine tb_r75_wp (b1 := decide (kd=8)) (fun a10 h10=>?_) a9 (h9.pick [0,1,2,3,4,5])
    show Code.wp _ _ _ a10 w2
    have q75:kd=9 := by omega
    refine wp_cond_true ((h10.eval (k := 275) (v := .bool (decide (kd=9))) (by simp)).trans (by rw [decide_eq_true q75])) ?_
    have hrow:∀(W:World) (v':Value),W.ownsRow w2.heap.size 9 1 v' (vars.length+1) (vars.map .string++[.string x])→Below w2.heap.size w2 W→Calls Tryd.prog 28 #[.agg #[.int .i64 (sz:Nat),.slice Am m.cs.length cm,.slice Bm m.rs.length dm],.agg #[.int .i64 f.fm.lab.kind,.string f.fm.lab.nm,.slice Ae n3 c3,.slice Be n4 c4],v'] W fun e w'=>∃gi,e=.returned (.slice (some ⟨gi,0,none⟩) (tab m f (vars++[x])).length (tab m f (vars++[x])).length)∧(w'.heap[gi]?=some (.cells ((tab m f (vars++[x])).map Value.bool).toArray 4 (0,0))∧w2.heap.size≤gi∧Below w2.heap.size w2 w')∧Below w2.heap.size w2 w' := by
      intro W v' hown hW
      have hWs := hW.size
      obtain ⟨A9,c9,rfl,_⟩ := own_cap hown
      have hkW:∀k,S k→W.heap[k]?=w.heap[k]? := fun k hk=>(hW.block k (by have := hSy k hk; omega)).trans (hkeep2 k hk)
      have hsl:strRep.Sl W (fun k=>S k∨(w2.heap.size≤k∧k<W.heap.size)) (.slice A9 (vars++[x]).length c9) (vars++[x]) := by
        refine sl_of_row (base := w2.heap.size) (E := 9) ?_ ?_ ?_ ?_
        · rw [List.length_append,List.length_singleton,List.map_append]; exact hown
        · intro s hs9
          rcases List.mem_append.1 hs9 with h | h
          · exact str_small hvs s h
          · rw [List.mem_singleton.1 h]; exact hnm
        · rw [List.length_append,List.length_singleton]; unfold maxLen; omega
        · intro k hk
          have h9 := hown.lt k (by simpa [Value.ownBlock] using hk)
          exact Or.inr h9
      have h8 := (ihf hok.2.2 (vars++[x]) _ W (fun k=>S k∨(w2.heap.size≤k∧k<W.heap.size)) A9 c9 (by rw [List.length_append,List.length_singleton]; omega) hv (fmRep.keep hr1 hkW (fun _ h=>Or.inl h)) hsl (hcs.keep hkW (fun _ h=>Or.inl h)) (hrs.keep hkW (fun _ h=>Or.inl h)) (fun k hk=>by
        rcases hk with hk | hk
        · have := hSy k hk; omega
        · exact hk.2))
      rw [List.length_append,List.length_singleton] at h8
      refine h8.mono ?_
      rintro e w' ⟨gi,rfl,hbo,hge,hbw⟩
      have hl9:(tab m f (vars++[x])).length=sz ^ (vars.length+1) := by rw [tab_length,hzn,List.length_append,List.length_singleton]
      rw [hl9]
      exact ⟨gi,rfl,⟨hbo,by omega,hW.trans (hbw.mono hWs)⟩,hW.trans (hbw.mono hWs)⟩
    refine wp_seq ?_
    refine wp_thenQ (tb_r76_wp (k := 0) (nr := (tab m f (vars++[x])).length) (PX := fun gi w'=>w'.heap[gi]?=some (.cells ((tab m f (vars++[x])).map Value.bool).toArray 4 (0,0))∧w2.heap.size≤gi∧Below w2.heap.size w2 w') (S := S) hmy2 hay2 e0_0 e0_1 e0_2 e0_3 hbl (by omega) (hvs.keep hkeep2 (fun _ h=>h)) (fun k hk=>by have := hSy k hk; omega) hrow (fun gi a11 w4 h11 hp4=>?_) a10 (h10.pick [0,1,2,3]))
    obtain ⟨hgi4,hgi2,hb24⟩ := hp4
    have hL4 := (hb24.block _ (lt_heap hL2)).trans hL2
    have hb4 := hb2.trans (hb24.mono (by omega))
    refine wp_seq ?_
    refine tb_r77_wp (fun a12 h12=>?_) a11 h11
    refine wp_block ?_
    refine tb_quant_wp (T := tab m (.qu k x f) vars) (tr := tab m f (vars++[x])) (kd := kd) hs (by omega) hmy hay hb4 (Nat.le_refl _) hTl (by omega) (by rw [tab_length,hzn,List.length_append,List.length_singleton,Nat.pow_succ]) (by omega) hgi4 (fun i hi=>?_) hL4 (fun a13 w5 h13 hL5 hk5=>?_) a12 h12
    · have hkid:∀j∈List.range sz,evalF m f (vars.zip (digs sz vars.length i)++[(x,(j:Int))])=((tab m f (vars++[x]))[i * sz+j]?).getD false := fun j hj=>by
        have h9 := (tab_kid m f x vars (i := i) (v := j) (by rw [hzn]; exact hi) (by rw [hzn]; exact List.mem_range.1 hj)).2
        rw [hzn] at h9
        rw [h9]; rfl
      rw [hTa i hi]
      show some (if k=8 then (rangeV m).all _ else (rangeV m).any _)=_
      unfold rangeV
      rw [hzn,List.all_map,List.any_map]
      have ea := all_congr9 (l := List.range sz) (f := (fun v=>evalF m f (vars.zip (digs sz vars.length i)++[(x,v)])) ∘ fun v:Nat=>(v:Int)) hkid
      have en := any_congr9 (l := List.range sz) (f := (fun v=>evalF m f (vars.zip (digs sz vars.length i)++[(x,v)])) ∘ fun v:Nat=>(v:Int)) hkid
      rw [ea,en]
      by_cases h8:k=8
      · rw [if_pos h8,if_pos (by omega)]
      · rw [if_neg h8,if_neg (by omega)]
    refine inBlock_exit ?_
    have hk25:Keeps (fun k=>k=wy.heap.size) w2 w5 := (show Keeps (fun k=>k=wy.heap.size) w2 w4 from ⟨hb24.os,hb24.tape,hb24.output,hb24.size,fun k hk _=>hb24.block k hk⟩).trans hk5
    show Code.wp _ _ _ a13 w5
    refine wp_seq ?_
    refine tb_r88_wp (fun a99 h99=>?_) a13 (h13.pick [3])
    refine wp_ret ?_
    exact tb_ret_wp ⟨_,rfl,hL5,by omega,hby.trans ((keeps_belowG hb2 rfl (Nat.le_refl _) hk25).mono hbys)⟩ a99 h99
theorem table_any (m:Md) (hg:m.good) {sz:Nat} (hsz:m.sz=(sz:Nat)) {Am Bm:Option Addr} {cm dm:Nat}:∀v:Fv,v.ok→∀(vars:List ByteArray) (cs:List Value) (w:World) (S:Nat→Prop) (Dv:Option Addr) (ev:Nat),vars.length+nestF (v)≤5→haveF m vars (v)→fmRep.R w S (Fv.fm (v)) cs→strRep.Sl w S (.slice Dv vars.length ev) vars→conRep.Sl w S (.slice Am m.cs.length cm) m.cs→relRep.Sl w S (.slice Bm m.rs.length dm) m.rs→(∀b,S b→b<w.heap.size)→Calls Tryd.prog 28 #[.agg #[.int .i64 (sz:Nat),.slice Am m.cs.length cm,.slice Bm m.rs.length dm],.agg cs.toArray,.slice Dv vars.length ev] w fun e w'=>∃gi,e=.returned (.slice (some ⟨gi,0,none⟩) (sz ^ vars.length) (sz ^ vars.length))∧w'.heap[gi]?=some (.cells ((tab m (v) vars).map Value.bool).toArray 4 (0,0))∧w.heap.size≤gi∧Below w.heap.size w w'
  | .tru,_=>table_tru m hg hsz
  | .pred _ _,h=>table_pred m hg hsz h
  | .same _ _,_=>table_same m hg hsz
  | .neg f,h=>table_neg m hg hsz h (table_any m hg hsz f)
  | .bin _ f g,h=>table_bin m hg hsz h (table_any m hg hsz f) (table_any m hg hsz g)
  | .qu _ _ f,h=>table_qu m hg hsz h (table_any m hg hsz f)
end

end Go.Proofs.YthfokmjpbnfihaaDoor
