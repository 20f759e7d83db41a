/- Lemmas. -/
import Derived.Test.YthfokmjpbnfihaaDoorIs
import Derived.Test.YthfokmjpbnfihaaDoorIt
import Derived.Test.YthfokmjpbnfihaaDoorIl
namespace Go.Proofs.YthfokmjpbnfihaaDoor
open Go Go.RowKit
set_option linter.unusedSimpArgs false
set_option linter.unusedVariables false
noncomputable section
set_option maxRecDepth 100000
set_option maxHeartbeats 4000000
variable {w:World} {S:Nat→Prop}

theorem wp_thenF {P:Program} {c:Code} {K:Act→World→Prop} {Q:Exit→Act→World→Prop} {a:Act} (h:Code.wp P c (Exit.then K (fun _ _ _=>False)) a w):Code.wp P c (Exit.then K Q) a w :=
  Code.wp_mono (fun e a' w' hh=>by cases e with | normal=>exact hh | _=>exact hh.elim) h
theorem envVals_snoc (e:List (ByteArray × Int)) (x:ByteArray) (z:Int):envVals (e++[(x,z)])=envVals e++[.string x,.int .i64 z] := by
  unfold envVals
  rw [List.flatMap_append]; rfl
theorem envAll:∀e:List (ByteArray × Int),envRep.All w S e (envVals e)
  | []=>rfl
  | p :: e=>⟨[.string p.1,.int .i64 p.2],envVals e,rfl,rfl,envAll e⟩
theorem envAll_eq:∀{e:List (ByteArray × Int)} {xs:List Value},envRep.All w S e xs→xs=envVals e
  | [],xs,h=>h
  | p :: e,xs,h=>by
    obtain ⟨cs,rest,rfl,h1,h2⟩ := h
    rw [envAll_eq h2]
    obtain rfl:cs=[.string p.1,.int .i64 p.2] := h1
    rfl
theorem value_tru (m:Md) (hg:m.good) {Am Bm:Option Addr} {cm dm:Nat}:∀(env:List (ByteArray × Int)) (cs:List Value) (w:World) (S:Nat→Prop) (De:Option Addr) (me ee:Nat),env.length+Fv.nodes (.tru)≤1000→fmRep.R w S (Fv.fm (.tru)) cs→envRep.Sl w S (.slice De me ee) env→(env=[]→De=none)→me≤ee→m.In w S [.int .i64 m.sz,.slice Am m.cs.length cm,.slice Bm m.rs.length dm]→(∀b,S b→b<w.heap.size)→Calls Tryd.prog 23 #[.agg #[.int .i64 m.sz,.slice Am m.cs.length cm,.slice Bm m.rs.length dm],.agg cs.toArray,.slice De me ee] w fun e w'=>e=.returned (.bool (evalF m (.tru) env))∧Below w.heap.size w w' := by
  intro env cs w S De me ee hlen ht he he0 hme hm hS
  change fmRep.R w S (.mk ⟨1,⟨#[]⟩,[]⟩ []) cs at ht
  generalize hkd:(1:Int)=kd at ht
  generalize hnme:(⟨#[]⟩:ByteArray)=nm at ht
  obtain ⟨u,v9,rfl,hnm,hw,hl⟩ := Fm.open_ ht
  simp only at hw hnm
  obtain ⟨A,n1,c1,rfl,e1,hm1,_⟩ := id hw
  obtain ⟨B,n2,c2,rfl,e2,hm2,_⟩ := id hl
  go_enter Tryd.func23,Tryd.ntmps23
  refine wp_seq ?_
  refine vl_r0_wp (fun a0 h0=>?_) _ (by exact fR rfl rfl rfl)
  refine gen_last (fun wx=>wx.heap[w.heap.size]? = some (.cells #[.int .i64 m.sz,.slice Am m.cs.length cm,.slice Bm m.rs.length dm] 25 (0,0))∧wx.heap[w.heap.size+1]? = some (.cells #[.int .i64 kd,.string nm,.slice A n1 c1,.slice B n2 c2] 29 (0,0))∧wx.heap[w.heap.size+1+1]? = some (.cells #[.slice De me ee] 62 (0,0))∧Below w.heap.size w wx) ⟨heap_old (by simp; omega) (heap_old (by simp) (heap_at rfl)),heap_old (by simp) (heap_at (by simp)),heap_at (by simp),by go_grown⟩ ?_
  rintro wy ⟨hmy,hay,hey,hby⟩
  have hbys := hby.size
  have hgyl := lt_heap hey
  have hkeep:∀W:World,Below wy.heap.size wy W→∀k,S k→W.heap[k]? = w.heap[k]? := fun W hb k hk=>(hb.block k (by have := hS k hk; omega)).trans (hby.block k (hS k hk))
  have hlt:∀W:World,Below wy.heap.size wy W→∀k,S k→k<W.heap.size := fun W hb k hk=>by have := hS k hk; have := hb.size; omega
  refine wp_seq ?_
  refine vl_r1_wp (fun a1 h1=>?_) a0 h0
  refine wp_seq ?_
  refine wp_seq ?_
  refine vl_r2_wp hay (fun a2 h2=>?_) a1 h1
  refine wp_block ?_
  refine wp_seq ?_
  refine vl_r3_wp (fun a3 h3=>?_) a2 (h2.pick [0,1,2,3,4])
  have q1:kd=1 := by omega
  refine wp_cond_true ((h3.eval (k := 19) (v := .bool (decide (kd=1))) (by simp)).trans (by rw [decide_eq_true q1])) ?_
  refine wp_seq ?_
  refine vl_r4_wp (fun a9 h9=>?_) a3 (h3.pick [0,1,2,3])
  refine wp_ret ?_
  repeat (first | refine thenR ?_ | refine inBlockR ?_)
  refine vl_ret_wp (bb := true) ⟨rfl,hby⟩ a9 h9
theorem value_neg (m:Md) (hg:m.good) {Am Bm:Option Addr} {cm dm:Nat} {f:Fv} (hok:f.ok) (hrel:hasRels m f=true) (ihf:Fv.ok f→hasRels m f=true→∀(env:List (ByteArray × Int)) (cs:List Value) (w:World) (S:Nat→Prop) (De:Option Addr) (me ee:Nat),env.length+Fv.nodes (f)≤1000→fmRep.R w S (Fv.fm (f)) cs→envRep.Sl w S (.slice De me ee) env→(env=[]→De=none)→me≤ee→m.In w S [.int .i64 m.sz,.slice Am m.cs.length cm,.slice Bm m.rs.length dm]→(∀b,S b→b<w.heap.size)→Calls Tryd.prog 23 #[.agg #[.int .i64 m.sz,.slice Am m.cs.length cm,.slice Bm m.rs.length dm],.agg cs.toArray,.slice De me ee] w fun e w'=>e=.returned (.bool (evalF m (f) env))∧Below w.heap.size w w'):∀(env:List (ByteArray × Int)) (cs:List Value) (w:World) (S:Nat→Prop) (De:Option Addr) (me ee:Nat),env.length+Fv.nodes (.neg f)≤1000→fmRep.R w S (Fv.fm (.neg f)) cs→envRep.Sl w S (.slice De me ee) env→(env=[]→De=none)→me≤ee→m.In w S [.int .i64 m.sz,.slice Am m.cs.length cm,.slice Bm m.rs.length dm]→(∀b,S b→b<w.heap.size)→Calls Tryd.prog 23 #[.agg #[.int .i64 m.sz,.slice Am m.cs.length cm,.slice Bm m.rs.length dm],.agg cs.toArray,.slice De me ee] w fun e w'=>e=.returned (.bool (evalF m (.neg f) env))∧Below w.heap.size w w' := by
  intro env cs w S De me ee hlen ht he he0 hme hm hS
  change fmRep.R w S (.mk ⟨4,⟨#[]⟩,[]⟩ [f.fm]) cs at ht
  generalize hkd:(4:Int)=kd at ht
  generalize hnme:(⟨#[]⟩:ByteArray)=nm at ht
  obtain ⟨u,v9,rfl,hnm,hw,hl⟩ := Fm.open_ ht
  simp only at hw hnm
  obtain ⟨A,n1,c1,rfl,e1,hm1,_⟩ := id hw
  obtain ⟨B,n2,c2,rfl,e2,hm2,_⟩ := id hl
  go_enter Tryd.func23,Tryd.ntmps23
  refine wp_seq ?_
  refine vl_r0_wp (fun a0 h0=>?_) _ (by exact fR rfl rfl rfl)
  refine gen_last (fun wx=>wx.heap[w.heap.size]? = some (.cells #[.int .i64 m.sz,.slice Am m.cs.length cm,.slice Bm m.rs.length dm] 25 (0,0))∧wx.heap[w.heap.size+1]? = some (.cells #[.int .i64 kd,.string nm,.slice A n1 c1,.slice B n2 c2] 29 (0,0))∧wx.heap[w.heap.size+1+1]? = some (.cells #[.slice De me ee] 62 (0,0))∧Below w.heap.size w wx) ⟨heap_old (by simp; omega) (heap_old (by simp) (heap_at rfl)),heap_old (by simp) (heap_at (by simp)),heap_at (by simp),by go_grown⟩ ?_
  rintro wy ⟨hmy,hay,hey,hby⟩
  have hbys := hby.size
  have hgyl := lt_heap hey
  have hkeep:∀W:World,Below wy.heap.size wy W→∀k,S k→W.heap[k]? = w.heap[k]? := fun W hb k hk=>(hb.block k (by have := hS k hk; omega)).trans (hby.block k (hS k hk))
  have hlt:∀W:World,Below wy.heap.size wy W→∀k,S k→k<W.heap.size := fun W hb k hk=>by have := hS k hk; have := hb.size; omega
  refine wp_seq ?_
  refine vl_r1_wp (fun a1 h1=>?_) a0 h0
  refine wp_seq ?_
  refine wp_seq ?_
  refine vl_r2_wp hay (fun a2 h2=>?_) a1 h1
  refine wp_block ?_
  simp only [Fv.nodes] at hlen
  obtain rfl:n2=1 := by simpa using e2.symm
  obtain ⟨b,o,cs1,rfl,hSb,hr1,hcc1⟩ := Rep.Sl.at_ hl (k := 0) (a := f.fm) rfl
  obtain ⟨Ae,n3,c3,Be,n4,c4,rfl,_,_,_,_⟩ := Fm.shape hr1
  have hbl:b<wy.heap.size := hlt wy (Below.refl _ _) b hSb
  have e0_0:wy.cell? ⟨b,o,none⟩=_ := (cell_keep (hkeep wy (Below.refl _ _) b hSb) _).trans (hcc1 0 _ rfl)
  have e0_1:wy.cell? ⟨b,o+1,none⟩=_ := (cell_keep (hkeep wy (Below.refl _ _) b hSb) _).trans (hcc1 1 _ rfl)
  have e0_2:wy.cell? ⟨b,o+2,none⟩=_ := (cell_keep (hkeep wy (Below.refl _ _) b hSb) _).trans (hcc1 2 _ rfl)
  have e0_3:wy.cell? ⟨b,o+3,none⟩=_ := (cell_keep (hkeep wy (Below.refl _ _) b hSb) _).trans (hcc1 3 _ rfl)
  have hih1:∀W:World,Below wy.heap.size wy W→Calls Tryd.prog 23 #[.agg #[.int .i64 m.sz,.slice Am m.cs.length cm,.slice Bm m.rs.length dm],_,.slice De me ee] W fun e w'=>e=.returned (.bool (evalF m f env))∧Below wy.heap.size wy w' := fun W hb=>(ihf hok hrel env _ W S _ _ _ (by omega) (fmRep.keep hr1 (hkeep W hb) (fun _ h=>h)) (he.keep (hkeep W hb) (fun _ h=>h)) he0 hme (hm.keep (hkeep W hb) (fun _ h=>h)) (hlt W hb)).mono (fun e w' h=>⟨h.1,hb.trans (h.2.mono hb.size)⟩)
  refine wp_seq ?_
  refine vl_r3_wp (fun a3 h3=>?_) a2 (h2.pick [0,1,2,3,4])
  have q1:¬ kd=1 := by omega
  refine wp_cond_false ((h3.eval (k := 19) (v := .bool (decide (kd=1))) (by simp)).trans (by rw [decide_eq_false q1])) ?_
  refine wp_seq ?_
  refine vl_r5_wp (fun a4 h4=>?_) a3 (h3.pick [0,1,2,3,4])
  have q2:¬ kd=2 := by omega
  refine wp_cond_false ((h4.eval (k := 21) (v := .bool (decide (kd=2))) (by simp)).trans (by rw [decide_eq_false q2])) ?_
  refine wp_seq ?_
  refine vl_r15_wp (fun a5 h5=>?_) a4 (h4.pick [0,1,2,3,4])
  have q3:¬ kd=3 := by omega
  refine wp_cond_false ((h5.eval (k := 54) (v := .bool (decide (kd=3))) (by simp)).trans (by rw [decide_eq_false q3])) ?_
  refine wp_seq ?_
  refine vl_r17_wp (fun a6 h6=>?_) a5 (h5.pick [0,1,2,3,4])
  have q4:kd=4 := by omega
  refine wp_cond_true ((h6.eval (k := 69) (v := .bool (decide (kd=4))) (by simp)).trans (by rw [decide_eq_true q4])) ?_
  refine wp_seq ?_
  refine wp_thenQ (vl_r18_wp hmy hay hey e0_0 e0_1 e0_2 e0_3 hbl hih1 (fun a9 w9 h9 hb9=>?_) a6 (h6.pick [0,1,2,3]))
  refine wp_ret ?_
  repeat (first | refine thenR ?_ | refine inBlockR ?_)
  refine vl_ret_wp (bb := _) ⟨rfl,hby.trans (hb9.mono hbys)⟩ a9 h9
theorem value_bin (m:Md) (hg:m.good) {Am Bm:Option Addr} {cm dm:Nat} {k:Nat} {f g:Fv} (hok:(Fv.bin k f g).ok) (hrel:hasRels m f=true∧hasRels m g=true) (ihf:Fv.ok f→hasRels m f=true→∀(env:List (ByteArray × Int)) (cs:List Value) (w:World) (S:Nat→Prop) (De:Option Addr) (me ee:Nat),env.length+Fv.nodes (f)≤1000→fmRep.R w S (Fv.fm (f)) cs→envRep.Sl w S (.slice De me ee) env→(env=[]→De=none)→me≤ee→m.In w S [.int .i64 m.sz,.slice Am m.cs.length cm,.slice Bm m.rs.length dm]→(∀b,S b→b<w.heap.size)→Calls Tryd.prog 23 #[.agg #[.int .i64 m.sz,.slice Am m.cs.length cm,.slice Bm m.rs.length dm],.agg cs.toArray,.slice De me ee] w fun e w'=>e=.returned (.bool (evalF m (f) env))∧Below w.heap.size w w') (ihg:Fv.ok g→hasRels m g=true→∀(env:List (ByteArray × Int)) (cs:List Value) (w:World) (S:Nat→Prop) (De:Option Addr) (me ee:Nat),env.length+Fv.nodes (g)≤1000→fmRep.R w S (Fv.fm (g)) cs→envRep.Sl w S (.slice De me ee) env→(env=[]→De=none)→me≤ee→m.In w S [.int .i64 m.sz,.slice Am m.cs.length cm,.slice Bm m.rs.length dm]→(∀b,S b→b<w.heap.size)→Calls Tryd.prog 23 #[.agg #[.int .i64 m.sz,.slice Am m.cs.length cm,.slice Bm m.rs.length dm],.agg cs.toArray,.slice De me ee] w fun e w'=>e=.returned (.bool (evalF m (g) env))∧Below w.heap.size w w'):∀(env:List (ByteArray × Int)) (cs:List Value) (w:World) (S:Nat→Prop) (De:Option Addr) (me ee:Nat),env.length+Fv.nodes (.bin k f g)≤1000→fmRep.R w S (Fv.fm (.bin k f g)) cs→envRep.Sl w S (.slice De me ee) env→(env=[]→De=none)→me≤ee→m.In w S [.int .i64 m.sz,.slice Am m.cs.length cm,.slice Bm m.rs.length dm]→(∀b,S b→b<w.heap.size)→Calls Tryd.prog 23 #[.agg #[.int .i64 m.sz,.slice Am m.cs.length cm,.slice Bm m.rs.length dm],.agg cs.toArray,.slice De me ee] w fun e w'=>e=.returned (.bool (evalF m (.bin k f g) env))∧Below w.heap.size w w' := by
  intro env cs w S De me ee hlen ht he he0 hme hm hS
  change fmRep.R w S (.mk ⟨(k:Int),⟨#[]⟩,[]⟩ [f.fm,g.fm]) cs at ht
  generalize hkd:((k:Int):Int)=kd at ht
  generalize hnme:(⟨#[]⟩:ByteArray)=nm at ht
  obtain ⟨u,v9,rfl,hnm,hw,hl⟩ := Fm.open_ ht
  simp only at hw hnm
  obtain ⟨A,n1,c1,rfl,e1,hm1,_⟩ := id hw
  obtain ⟨B,n2,c2,rfl,e2,hm2,_⟩ := id hl
  go_enter Tryd.func23,Tryd.ntmps23
  refine wp_seq ?_
  refine vl_r0_wp (fun a0 h0=>?_) _ (by exact fR rfl rfl rfl)
  refine gen_last (fun wx=>wx.heap[w.heap.size]? = some (.cells #[.int .i64 m.sz,.slice Am m.cs.length cm,.slice Bm m.rs.length dm] 25 (0,0))∧wx.heap[w.heap.size+1]? = some (.cells #[.int .i64 kd,.string nm,.slice A n1 c1,.slice B n2 c2] 29 (0,0))∧wx.heap[w.heap.size+1+1]? = some (.cells #[.slice De me ee] 62 (0,0))∧Below w.heap.size w wx) ⟨heap_old (by simp; omega) (heap_old (by simp) (heap_at rfl)),heap_old (by simp) (heap_at (by simp)),heap_at (by simp),by go_grown⟩ ?_
  rintro wy ⟨hmy,hay,hey,hby⟩
  have hbys := hby.size
  have hgyl := lt_heap hey
  have hkeep:∀W:World,Below wy.heap.size wy W→∀k,S k→W.heap[k]? = w.heap[k]? := fun W hb k hk=>(hb.block k (by have := hS k hk; omega)).trans (hby.block k (hS k hk))
  have hlt:∀W:World,Below wy.heap.size wy W→∀k,S k→k<W.heap.size := fun W hb k hk=>by have := hS k hk; have := hb.size; omega
  refine wp_seq ?_
  refine vl_r1_wp (fun a1 h1=>?_) a0 h0
  refine wp_seq ?_
  refine wp_seq ?_
  refine vl_r2_wp hay (fun a2 h2=>?_) a1 h1
  refine wp_block ?_
  simp only [Fv.nodes] at hlen
  obtain rfl:n2=2 := by simpa using e2.symm
  obtain ⟨b,o,cs1,rfl,hSb,hr1,hcc1⟩ := Rep.Sl.at_ hl (k := 0) (a := f.fm) rfl
  obtain ⟨b',o',cs2,e9,_,hr2,hcc2⟩ := Rep.Sl.at_ hl (k := 1) (a := g.fm) rfl
  simp only [Option.some.injEq,Addr.mk.injEq] at e9
  obtain ⟨rfl,rfl,_⟩ := e9
  obtain ⟨Ae,n3,c3,Be,n4,c4,rfl,_,_,_,_⟩ := Fm.shape hr1
  obtain ⟨Af,n5,c5,Bf,n6,c6,rfl,_,_,_,_⟩ := Fm.shape hr2
  have hbl:b<wy.heap.size := hlt wy (Below.refl _ _) b hSb
  have e0_0:wy.cell? ⟨b,o,none⟩=_ := (cell_keep (hkeep wy (Below.refl _ _) b hSb) _).trans (hcc1 0 _ rfl)
  have e0_1:wy.cell? ⟨b,o+1,none⟩=_ := (cell_keep (hkeep wy (Below.refl _ _) b hSb) _).trans (hcc1 1 _ rfl)
  have e0_2:wy.cell? ⟨b,o+2,none⟩=_ := (cell_keep (hkeep wy (Below.refl _ _) b hSb) _).trans (hcc1 2 _ rfl)
  have e0_3:wy.cell? ⟨b,o+3,none⟩=_ := (cell_keep (hkeep wy (Below.refl _ _) b hSb) _).trans (hcc1 3 _ rfl)
  have e1_0:wy.cell? ⟨b,o+4,none⟩=_ := (cell_keep (hkeep wy (Below.refl _ _) b hSb) _).trans (hcc2 0 _ rfl)
  have e1_1:wy.cell? ⟨b,o+5,none⟩=_ := (cell_keep (hkeep wy (Below.refl _ _) b hSb) _).trans (hcc2 1 _ rfl)
  have e1_2:wy.cell? ⟨b,o+6,none⟩=_ := (cell_keep (hkeep wy (Below.refl _ _) b hSb) _).trans (hcc2 2 _ rfl)
  have e1_3:wy.cell? ⟨b,o+7,none⟩=_ := (cell_keep (hkeep wy (Below.refl _ _) b hSb) _).trans (hcc2 3 _ rfl)
  have hih1:∀W:World,Below wy.heap.size wy W→Calls Tryd.prog 23 #[.agg #[.int .i64 m.sz,.slice Am m.cs.length cm,.slice Bm m.rs.length dm],_,.slice De me ee] W fun e w'=>e=.returned (.bool (evalF m f env))∧Below wy.heap.size wy w' := fun W hb=>(ihf hok.2.1 hrel.1 env _ W S _ _ _ (by omega) (fmRep.keep hr1 (hkeep W hb) (fun _ h=>h)) (he.keep (hkeep W hb) (fun _ h=>h)) he0 hme (hm.keep (hkeep W hb) (fun _ h=>h)) (hlt W hb)).mono (fun e w' h=>⟨h.1,hb.trans (h.2.mono hb.size)⟩)
  have hih2:∀W:World,Below wy.heap.size wy W→Calls Tryd.prog 23 #[.agg #[.int .i64 m.sz,.slice Am m.cs.length cm,.slice Bm m.rs.length dm],_,.slice De me ee] W fun e w'=>e=.returned (.bool (evalF m g env))∧Below wy.heap.size wy w' := fun W hb=>(ihg hok.2.2 hrel.2 env _ W S _ _ _ (by omega) (fmRep.keep hr2 (hkeep W hb) (fun _ h=>h)) (he.keep (hkeep W hb) (fun _ h=>h)) he0 hme (hm.keep (hkeep W hb) (fun _ h=>h)) (hlt W hb)).mono (fun e w' h=>⟨h.1,hb.trans (h.2.mono hb.size)⟩)
  have hk := hok.1
  rcases hk with rfl | rfl | rfl
  · refine wp_seq ?_
    refine vl_r3_wp (fun a3 h3=>?_) a2 (h2.pick [0,1,2,3,4])
    have q1:¬ kd=1 := by omega
    refine wp_cond_false ((h3.eval (k := 19) (v := .bool (decide (kd=1))) (by simp)).trans (by rw [decide_eq_false q1])) ?_
    refine wp_seq ?_
    refine vl_r5_wp (fun a4 h4=>?_) a3 (h3.pick [0,1,2,3,4])
    have q2:¬ kd=2 := by omega
    refine wp_cond_false ((h4.eval (k := 21) (v := .bool (decide (kd=2))) (by simp)).trans (by rw [decide_eq_false q2])) ?_
    refine wp_seq ?_
    refine vl_r15_wp (fun a5 h5=>?_) a4 (h4.pick [0,1,2,3,4])
    have q3:¬ kd=3 := by omega
    refine wp_cond_false ((h5.eval (k := 54) (v := .bool (decide (kd=3))) (by simp)).trans (by rw [decide_eq_false q3])) ?_
    refine wp_seq ?_
    refine vl_r17_wp (fun a6 h6=>?_) a5 (h5.pick [0,1,2,3,4])
    have q4:¬ kd=4 := by omega
    refine wp_cond_false ((h6.eval (k := 69) (v := .bool (decide (kd=4))) (by simp)).trans (by rw [decide_eq_false q4])) ?_
    refine wp_seq ?_
    refine vl_r19_wp (fun a7 h7=>?_) a6 (h6.pick [0,1,2,3,4])
    have q5:kd=5 := by omega
    refine wp_cond_true ((h7.eval (k := 79) (v := .bool (decide (kd=5))) (by simp)).trans (by rw [decide_eq_true q5])) ?_
    refine wp_seq ?_
    refine wp_thenQ (vl_r20_wp hmy hay hey e0_0 e0_1 e0_2 e0_3 e1_0 e1_1 e1_2 e1_3 hbl hih1 hih2 (fun a9 w9 h9 hb9=>?_) a7 (h7.pick [0,1,2,3]))
    refine wp_ret ?_
    repeat (first | refine thenR ?_ | refine inBlockR ?_)
    refine vl_ret_wp (bb := _) ⟨by simp [evalF],hby.trans (hb9.mono hbys)⟩ a9 h9
  · refine wp_seq ?_
    refine vl_r3_wp (fun a3 h3=>?_) a2 (h2.pick [0,1,2,3,4])
    have q1:¬ kd=1 := by omega
    refine wp_cond_false ((h3.eval (k := 19) (v := .bool (decide (kd=1))) (by simp)).trans (by rw [decide_eq_false q1])) ?_
    refine wp_seq ?_
    refine vl_r5_wp (fun a4 h4=>?_) a3 (h3.pick [0,1,2,3,4])
    have q2:¬ kd=2 := by omega
    refine wp_cond_false ((h4.eval (k := 21) (v := .bool (decide (kd=2))) (by simp)).trans (by rw [decide_eq_false q2])) ?_
    refine wp_seq ?_
    refine vl_r15_wp (fun a5 h5=>?_) a4 (h4.pick [0,1,2,3,4])
    have q3:¬ kd=3 := by omega
    refine wp_cond_false ((h5.eval (k := 54) (v := .bool (decide (kd=3))) (by simp)).trans (by rw [decide_eq_false q3])) ?_
    refine wp_seq ?_
    refine vl_r17_wp (fun a6 h6=>?_) a5 (h5.pick [0,1,2,3,4])
    have q4:¬ kd=4 := by omega
    refine wp_cond_false ((h6.eval (k := 69) (v := .bool (decide (kd=4))) (by simp)).trans (by rw [decide_eq_false q4])) ?_
    refine wp_seq ?_
    refine vl_r19_wp (fun a7 h7=>?_) a6 (h6.pick [0,1,2,3,4])
    have q5:¬ kd=5 := by omega
    refine wp_cond_false ((h7.eval (k := 79) (v := .bool (decide (kd=5))) (by simp)).trans (by rw [decide_eq_false q5])) ?_
    refine wp_seq ?_
    refine vl_r21_wp (fun a8 h8=>?_) a7 (h7.pick [0,1,2,3,4])
    have q6:kd=6 := by omega
    refine wp_cond_true ((h8.eval (k := 97) (v := .bool (decide (kd=6))) (by simp)).trans (by rw [decide_eq_true q6])) ?_
    refine wp_seq ?_
    refine wp_thenQ (vl_r22_wp hmy hay hey e0_0 e0_1 e0_2 e0_3 e1_0 e1_1 e1_2 e1_3 hbl hih1 hih2 (fun a9 w9 h9 hb9=>?_) a8 (h8.pick [0,1,2,3]))
    refine wp_ret ?_
    repeat (first | refine thenR ?_ | refine inBlockR ?_)
    refine vl_ret_wp (bb := _) ⟨by simp [evalF],hby.trans (hb9.mono hbys)⟩ a9 h9
  · refine wp_seq ?_
    refine vl_r3_wp (fun a3 h3=>?_) a2 (h2.pick [0,1,2,3,4])
    have q1:¬ kd=1 := by omega
    refine wp_cond_false ((h3.eval (k := 19) (v := .bool (decide (kd=1))) (by simp)).trans (by rw [decide_eq_false q1])) ?_
    refine wp_seq ?_
    refine vl_r5_wp (fun a4 h4=>?_) a3 (h3.pick [0,1,2,3,4])
    have q2:¬ kd=2 := by omega
    refine wp_cond_false ((h4.eval (k := 21) (v := .bool (decide (kd=2))) (by simp)).trans (by rw [decide_eq_false q2])) ?_
    refine wp_seq ?_
    refine vl_r15_wp (fun a5 h5=>?_) a4 (h4.pick [0,1,2,3,4])
    have q3:¬ kd=3 := by omega
    refine wp_cond_false ((h5.eval (k := 54) (v := .bool (decide (kd=3))) (by simp)).trans (by rw [decide_eq_false q3])) ?_
    refine wp_seq ?_
    refine vl_r17_wp (fun a6 h6=>?_) a5 (h5.pick [0,1,2,3,4])
    have q4:¬ kd=4 := by omega
    refine wp_cond_false ((h6.eval (k := 69) (v := .bool (decide (kd=4))) (by simp)).trans (by rw [decide_eq_false q4])) ?_
    refine wp_seq ?_
    refine vl_r19_wp (fun a7 h7=>?_) a6 (h6.pick [0,1,2,3,4])
    have q5:¬ kd=5 := by omega
    refine wp_cond_false ((h7.eval (k := 79) (v := .bool (decide (kd=5))) (by simp)).trans (by rw [decide_eq_false q5])) ?_
    refine wp_seq ?_
    refine vl_r21_wp (fun a8 h8=>?_) a7 (h7.pick [0,1,2,3,4])
    have q6:¬ kd=6 := by omega
    refine wp_cond_false ((h8.eval (k := 97) (v := .bool (decide (kd=6))) (by simp)).trans (by rw [decide_eq_false q6])) ?_
    refine wp_seq ?_
    refine vl_r23_wp (fun a9 h9=>?_) a8 (h8.pick [0,1,2,3,4])
    have q7:kd=7 := by omega
    refine wp_cond_true ((h9.eval (k := 115) (v := .bool (decide (kd=7))) (by simp)).trans (by rw [decide_eq_true q7])) ?_
    refine wp_seq ?_
    refine wp_thenQ (vl_r24_wp hmy hay hey e0_0 e0_1 e0_2 e0_3 e1_0 e1_1 e1_2 e1_3 hbl hih1 hih2 (fun a9 w9 h9 hb9=>?_) a9 (h9.pick [0,1,2,3]))
    refine wp_ret ?_
    repeat (first | refine thenR ?_ | refine inBlockR ?_)
    refine vl_ret_wp (bb := _) ⟨by simp [evalF],hby.trans (hb9.mono hbys)⟩ a9 h9
theorem value_same (m:Md) (hg:m.good) {Am Bm:Option Addr} {cm dm:Nat} {x y:ByteArray}:∀(env:List (ByteArray × Int)) (cs:List Value) (w:World) (S:Nat→Prop) (De:Option Addr) (me ee:Nat),env.length+Fv.nodes (.same x y)≤1000→fmRep.R w S (Fv.fm (.same x y)) cs→envRep.Sl w S (.slice De me ee) env→(env=[]→De=none)→me≤ee→m.In w S [.int .i64 m.sz,.slice Am m.cs.length cm,.slice Bm m.rs.length dm]→(∀b,S b→b<w.heap.size)→Calls Tryd.prog 23 #[.agg #[.int .i64 m.sz,.slice Am m.cs.length cm,.slice Bm m.rs.length dm],.agg cs.toArray,.slice De me ee] w fun e w'=>e=.returned (.bool (evalF m (.same x y) env))∧Below w.heap.size w w' := by
  intro env cs w S De me ee hlen ht he he0 hme hm hS
  change fmRep.R w S (.mk ⟨3,⟨#[]⟩,[x,y]⟩ []) cs at ht
  generalize hkd:(3:Int)=kd at ht
  generalize hnme:(⟨#[]⟩:ByteArray)=nm at ht
  obtain ⟨u,v9,rfl,hnm,hw,hl⟩ := Fm.open_ ht
  simp only at hw hnm
  obtain ⟨A,n1,c1,rfl,e1,hm1,_⟩ := id hw
  obtain ⟨B,n2,c2,rfl,e2,hm2,_⟩ := id hl
  go_enter Tryd.func23,Tryd.ntmps23
  refine wp_seq ?_
  refine vl_r0_wp (fun a0 h0=>?_) _ (by exact fR rfl rfl rfl)
  refine gen_last (fun wx=>wx.heap[w.heap.size]? = some (.cells #[.int .i64 m.sz,.slice Am m.cs.length cm,.slice Bm m.rs.length dm] 25 (0,0))∧wx.heap[w.heap.size+1]? = some (.cells #[.int .i64 kd,.string nm,.slice A n1 c1,.slice B n2 c2] 29 (0,0))∧wx.heap[w.heap.size+1+1]? = some (.cells #[.slice De me ee] 62 (0,0))∧Below w.heap.size w wx) ⟨heap_old (by simp; omega) (heap_old (by simp) (heap_at rfl)),heap_old (by simp) (heap_at (by simp)),heap_at (by simp),by go_grown⟩ ?_
  rintro wy ⟨hmy,hay,hey,hby⟩
  have hbys := hby.size
  have hgyl := lt_heap hey
  have hkeep:∀W:World,Below wy.heap.size wy W→∀k,S k→W.heap[k]? = w.heap[k]? := fun W hb k hk=>(hb.block k (by have := hS k hk; omega)).trans (hby.block k (hS k hk))
  have hlt:∀W:World,Below wy.heap.size wy W→∀k,S k→k<W.heap.size := fun W hb k hk=>by have := hS k hk; have := hb.size; omega
  refine wp_seq ?_
  refine vl_r1_wp (fun a1 h1=>?_) a0 h0
  refine wp_seq ?_
  refine wp_seq ?_
  refine vl_r2_wp hay (fun a2 h2=>?_) a1 h1
  refine wp_block ?_
  obtain rfl:n1=2 := by simpa using e1.symm
  obtain ⟨b,o,cs1,rfl,hSb,⟨rfl,_⟩,hcc1⟩ := Rep.Sl.at_ hw (k := 0) (a := x) rfl
  obtain ⟨b',o',cs2,e9,_,⟨rfl,_⟩,hcc2⟩ := Rep.Sl.at_ hw (k := 1) (a := y) rfl
  simp only [Option.some.injEq,Addr.mk.injEq] at e9
  obtain ⟨rfl,rfl,_⟩ := e9
  have hbl:b<wy.heap.size := hlt wy (Below.refl _ _) b hSb
  have e0_0:wy.cell? ⟨b,o,none⟩=_ := (cell_keep (hkeep wy (Below.refl _ _) b hSb) _).trans (hcc1 0 _ rfl)
  have e0_1:wy.cell? ⟨b,o+1,none⟩=_ := (cell_keep (hkeep wy (Below.refl _ _) b hSb) _).trans (hcc2 0 _ rfl)
  have hwd:∀(s:ByteArray) (W:World),Below wy.heap.size wy W→Calls Tryd.prog 41 #[.string s,.pointer (some ⟨(w.heap.size+1+1),0,none⟩),.pointer (some ⟨w.heap.size,0,none⟩)] W fun e w'=>e=.returned (.int .i64 (wordV m env s))∧Below wy.heap.size wy w' := fun s W hb=>(word_any m hg env s W S (he.keep (hkeep W hb) (fun _ h=>h)) (by omega) (hlt W hb) (hm.keep (hkeep W hb) (fun _ h=>h)) ((hb.block _ (lt_heap hey)).trans hey) ((hb.block _ (lt_heap hmy)).trans hmy)).mono (fun e w' h=>⟨h.1,hb.trans (h.2.mono hb.size)⟩)
  refine wp_seq ?_
  refine vl_r3_wp (fun a3 h3=>?_) a2 (h2.pick [0,1,2,3,4])
  have q1:¬ kd=1 := by omega
  refine wp_cond_false ((h3.eval (k := 19) (v := .bool (decide (kd=1))) (by simp)).trans (by rw [decide_eq_false q1])) ?_
  refine wp_seq ?_
  refine vl_r5_wp (fun a4 h4=>?_) a3 (h3.pick [0,1,2,3,4])
  have q2:¬ kd=2 := by omega
  refine wp_cond_false ((h4.eval (k := 21) (v := .bool (decide (kd=2))) (by simp)).trans (by rw [decide_eq_false q2])) ?_
  refine wp_seq ?_
  refine vl_r15_wp (fun a5 h5=>?_) a4 (h4.pick [0,1,2,3,4])
  have q3:kd=3 := by omega
  refine wp_cond_true ((h5.eval (k := 54) (v := .bool (decide (kd=3))) (by simp)).trans (by rw [decide_eq_true q3])) ?_
  refine wp_seq ?_
  refine wp_thenQ (vl_r16_wp hay e0_0 e0_1 hbl (hwd x) (hwd y) (fun a9 w9 h9 hb9=>?_) a5 (h5.pick [0,1,2,3]))
  refine wp_ret ?_
  repeat (first | refine thenR ?_ | refine inBlockR ?_)
  refine vl_ret_wp (bb := _) ⟨rfl,hby.trans (hb9.mono hbys)⟩ a9 h9
theorem value_pred (m:Md) (hg:m.good) {Am Bm:Option Addr} {cm dm:Nat} {n:ByteArray} {ws:List ByteArray} (hok:(Fv.pred n ws).ok) (hrel:(relV m n ws.length).isSome=true):∀(env:List (ByteArray × Int)) (cs:List Value) (w:World) (S:Nat→Prop) (De:Option Addr) (me ee:Nat),env.length+Fv.nodes (.pred n ws)≤1000→fmRep.R w S (Fv.fm (.pred n ws)) cs→envRep.Sl w S (.slice De me ee) env→(env=[]→De=none)→me≤ee→m.In w S [.int .i64 m.sz,.slice Am m.cs.length cm,.slice Bm m.rs.length dm]→(∀b,S b→b<w.heap.size)→Calls Tryd.prog 23 #[.agg #[.int .i64 m.sz,.slice Am m.cs.length cm,.slice Bm m.rs.length dm],.agg cs.toArray,.slice De me ee] w fun e w'=>e=.returned (.bool (evalF m (.pred n ws) env))∧Below w.heap.size w w' := by
  intro env cs w S De me ee hlen ht he he0 hme hm hS
  change fmRep.R w S (.mk ⟨2,n,ws⟩ []) cs at ht
  generalize hkd:(2:Int)=kd at ht
  generalize hnme:(n:ByteArray)=nm at ht
  obtain ⟨u,v9,rfl,hnm,hw,hl⟩ := Fm.open_ ht
  simp only at hw hnm
  obtain ⟨A,n1,c1,rfl,e1,hm1,_⟩ := id hw
  obtain ⟨B,n2,c2,rfl,e2,hm2,_⟩ := id hl
  go_enter Tryd.func23,Tryd.ntmps23
  refine wp_seq ?_
  refine vl_r0_wp (fun a0 h0=>?_) _ (by exact fR rfl rfl rfl)
  refine gen_last (fun wx=>wx.heap[w.heap.size]? = some (.cells #[.int .i64 m.sz,.slice Am m.cs.length cm,.slice Bm m.rs.length dm] 25 (0,0))∧wx.heap[w.heap.size+1]? = some (.cells #[.int .i64 kd,.string nm,.slice A n1 c1,.slice B n2 c2] 29 (0,0))∧wx.heap[w.heap.size+1+1]? = some (.cells #[.slice De me ee] 62 (0,0))∧Below w.heap.size w wx) ⟨heap_old (by simp; omega) (heap_old (by simp) (heap_at rfl)),heap_old (by simp) (heap_at (by simp)),heap_at (by simp),by go_grown⟩ ?_
  rintro wy ⟨hmy,hay,hey,hby⟩
  have hbys := hby.size
  have hgyl := lt_heap hey
  have hkeep:∀W:World,Below wy.heap.size wy W→∀k,S k→W.heap[k]? = w.heap[k]? := fun W hb k hk=>(hb.block k (by have := hS k hk; omega)).trans (hby.block k (hS k hk))
  have hlt:∀W:World,Below wy.heap.size wy W→∀k,S k→k<W.heap.size := fun W hb k hk=>by have := hS k hk; have := hb.size; omega
  refine wp_seq ?_
  refine vl_r1_wp (fun a1 h1=>?_) a0 h0
  refine wp_seq ?_
  refine wp_seq ?_
  refine vl_r2_wp hay (fun a2 h2=>?_) a1 h1
  refine wp_block ?_
  subst hnme
  have hwl := hok.2.1
  have hn1:n1=ws.length := by omega
  have hrow:∀(s:ByteArray) (W:World) (v':Value) (k:Nat) (xs:List Value),Below wy.heap.size wy W→W.ownsRow wy.heap.size 3 1 v' k xs→Calls Tryd.prog 41 #[.string s,.pointer (some ⟨(w.heap.size+1+1),0,none⟩),.pointer (some ⟨w.heap.size,0,none⟩)] W fun e w'=>e=.returned (.int .i64 (wordV m env s))∧Below wy.heap.size W w'∧w'.ownsRow wy.heap.size 3 1 v' k xs∧wy.heap.size≤w'.heap.size := fun s W v' k xs hb hr=>(word_any m hg env s W S (he.keep (hkeep W hb) (fun _ h=>h)) (by omega) (hlt W hb) (hm.keep (hkeep W hb) (fun _ h=>h)) ((hb.block _ (lt_heap hey)).trans hey) ((hb.block _ (lt_heap hmy)).trans hmy)).mono (fun e w' h=>⟨h.1,h.2.mono hb.size,own_keep hr h.2.block,by have := h.2.size; have := hb.size; omega⟩)
  refine wp_seq ?_
  refine vl_r3_wp (fun a3 h3=>?_) a2 (h2.pick [0,1,2,3,4])
  have q1:¬ kd=1 := by omega
  refine wp_cond_false ((h3.eval (k := 19) (v := .bool (decide (kd=1))) (by simp)).trans (by rw [decide_eq_false q1])) ?_
  refine wp_seq ?_
  refine vl_r5_wp (fun a4 h4=>?_) a3 (h3.pick [0,1,2,3,4])
  have q2:kd=2 := by omega
  refine wp_cond_true ((h4.eval (k := 21) (v := .bool (decide (kd=2))) (by simp)).trans (by rw [decide_eq_true q2])) ?_
  refine wp_seq ?_
  refine vl_r6_wp (fun a9 h9=>?_) a4 (h4.pick [0,1,2,3])
  refine wp_seq ?_
  refine wp_seq ?_
  refine vl_r7_wp hay (fun a10 h10=>?_) a9 h9
  refine wp_block ?_
  refine wp_loopR (fun g a' w'=>∃(j:Nat) (v':Value),j+g=ws.length∧w'.ownsRow wy.heap.size 3 1 v' j ((ws.take j).map (fun x=>.int .i64 (wordV m env x)))∧Below wy.heap.size wy w'∧Frm 168 [(3,.pointer (some ⟨w.heap.size,0,none⟩)),(4,.pointer (some ⟨(w.heap.size+1),0,none⟩)),(5,.pointer (some ⟨(w.heap.size+1+1),0,none⟩)),(7,.func (Fn.func 41) #[] #[.pointer (some ⟨(w.heap.size+1+1),0,none⟩),.pointer (some ⟨w.heap.size,0,none⟩)]),(8,v'),(24,.slice A n1 c1),(25,.int .i64 (n1:Nat)),(26,.int .i64 (j:Nat))] a') ws.length ⟨0,_,by omega,World.ownsRow_nil _ _ _ _,Below.refl _ _,h10⟩ ?_
  rintro g a11 w3 ⟨j,v',hjg,hr3,hb3,h11⟩
  have hb3s := hb3.size
  refine wp_seq ?_
  refine vl_r8_wp (fun a12 h12=>?_) a11 h11
  refine wp_seq ?_
  by_cases hj:j<n1
  case neg =>
    refine wp_cond_false ((h12.eval (k := 27) (v := .bool (decide (j<n1))) (by simp)).trans (by rw [decide_eq_false hj])) ?_
    refine wp_exit ?_
    repeat refine then_exit ?_
    refine inBlock_exit ?_
    show Code.wp _ _ _ a12 w3
    have hjl:j=ws.length := by omega
    rw [List.take_of_length_le (by omega)] at hr3
    obtain ⟨ts,hts⟩:∃ts,ws.map (wordV m env)=ts := ⟨_,rfl⟩
    have hr3':w3.ownsRow wy.heap.size 3 1 v' j (ts.map (.int .i64 ·)) := by
      rw [← hts,List.map_map]; exact hr3
    have htl:ts.length=ws.length := by rw [← hts,List.length_map]
    have hjt:j=ts.length := by omega
    clear hr3 hjl
    subst hjt
    obtain ⟨Dt,et,rfl,_⟩ := own_cap hr3'
    have hsl:zRep.Sl w3 (fun k=>k<w3.heap.size) (.slice Dt ts.length et) ts := sl_of_own hr3' (zAll ts) (by unfold maxLen; omega) (fun k hk=>(hr3'.lt k hk).2)
    have hrel':(relV m n ts.length).isSome=true := by rw [htl]; exact hrel
    obtain ⟨r,hr⟩ := Option.isSome_iff_exists.1 hrel'
    have hrm:r∈m.rs := List.mem_of_find?_eq_some hr
    have hay3 := (hb3.block _ (lt_heap hay)).trans hay
    have hmy3 := (hb3.block _ (lt_heap hmy)).trans hmy
    refine wp_seq ?_
    refine vl_r12_wp (bb := (relV m n ts.length).isSome) (X := fun p y D9 a9 b9=>∀r,relV m n ts.length=some r→p=r.nm∧y=r.ar∧intsRep.Sl w3 S (.slice D9 a9 b9) r.tp) hay3 hmy3 (find_any m n hnm ts.length _ w3 S (hm.keep (hkeep w3 hb3) (fun _ h=>h)) (hlt w3 hb3) hg) (fun rn ra D9 a9 b9 gx a13 w13 h13 hx13 hb13 hX=>?_) a12 (h12.pick [0,1,2,3,4])
    obtain ⟨rfl,rfl,hsr⟩ := hX r hr
    have hb13s := hb13.size
    have hcut := @hit_lt _ (fun u=>cmpL u ts) r.tp
    have hbs := br_any r.tp (fun u=>cmpL u ts) D9 a9 b9 (.slice Dt ts.length et) w13 S (hsr.keep (fun k hk=>hb13.block k (hlt w3 hb3 k hk)) (fun _ h=>h)) (fun k hk=>by have := hlt w3 hb3 k hk; omega) (Rel.few hg.sz (hg.rk r hrm)) (mono_cut (Rel.tup_cut (hg.rk r hrm) ts)) (fun W q hq es hes hbS hbW=>by
      obtain ⟨v9,rfl,hv9⟩ := hes
      obtain ⟨B9,d9,rfl,_⟩ := hv9.shape
      exact (cmpL_any _ ts B9 Dt d9 et W (fun _=>True) (hv9.keep (fun _ _=>rfl) (fun _ _=>trivial)) (hsl.keep (fun k hk=>(hbW.block k (by omega)).trans (hb13.block k hk)) (fun _ _=>trivial))).mono (fun e w' h=>⟨h.1,by rw [h.2]; exact Below.refl _ _⟩))
    refine wp_seq ?_
    refine vl_r13_wp hx13 hbs (fun a14 w14 h14 hb14=>?_) a13 (h13.pick [0,1,2,3,4,5])
    refine wp_seq ?_
    refine vl_r14_wp (fun a15 h15=>?_) a14 h14
    refine wp_ret ?_
    repeat (first | refine thenR ?_ | refine inBlockR ?_)
    refine vl_ret_wp (bb := _) ⟨?_,hby.trans ((hb3.trans ((hb13.trans (hb14.mono hb13s)).mono hb3s)).mono hbys)⟩ a15 h15
    show Ending.returned (.bool _)=.returned (.bool (predV m n (ws.map (wordV m env))))
    rw [hts,pred_hit hg hr hcut]
  refine wp_cond_true ((h12.eval (k := 27) (v := .bool (decide (j<n1))) (by simp)).trans (by rw [decide_eq_true hj])) ?_
  refine wp_skip ?_
  show Code.wp _ _ _ a12 w3
  have hjl:j<ws.length := by omega
  obtain ⟨b,o,cs1,rfl,hSb,⟨rfl,_⟩,hcc⟩ := Rep.Sl.at_ hw (List.getElem?_eq_getElem hjl)
  have hc0:w3.cell? ⟨b,o+j,none⟩=some (.string ws[j]) := (cell_keep (hkeep w3 hb3 b hSb) _).trans (by simpa [strRep] using hcc 0 _ rfl)
  obtain ⟨A9,c9,rfl,_⟩ := own_cap hr3
  refine wp_seq ?_
  refine wp_block ?_
  refine wp_seq ?_
  refine vl_r9_wp hj hc0 (hlt w3 hb3 b hSb) (fun a13 h13=>?_) a12 (h12.pick [0,1,2,3,4,5,6,7])
  refine vl_r10_wp (by omega) (hrow ws[j] w3 _ _ _ hb3 hr3) (fun v4 a14 w4 h14 hr4 hb4=>?_) a13 h13
  show Code.wp _ _ _ a14 w4
  refine vl_r11_wp hj (by unfold maxLen; omega) (fun a15 h15=>?_) a14 h14
  refine ⟨g - 1,by omega,j+1,v4,by omega,?_,hb3.trans hb4,h15⟩
  rw [List.take_succ_eq_append_getElem hjl,List.map_append]
  exact hr4
theorem value_qu (m:Md) (hg:m.good) {Am Bm:Option Addr} {cm dm:Nat} {k:Nat} {x:ByteArray} {f:Fv} (hok:(Fv.qu k x f).ok) (hrel:hasRels m f=true) (ihf:Fv.ok f→hasRels m f=true→∀(env:List (ByteArray × Int)) (cs:List Value) (w:World) (S:Nat→Prop) (De:Option Addr) (me ee:Nat),env.length+Fv.nodes (f)≤1000→fmRep.R w S (Fv.fm (f)) cs→envRep.Sl w S (.slice De me ee) env→(env=[]→De=none)→me≤ee→m.In w S [.int .i64 m.sz,.slice Am m.cs.length cm,.slice Bm m.rs.length dm]→(∀b,S b→b<w.heap.size)→Calls Tryd.prog 23 #[.agg #[.int .i64 m.sz,.slice Am m.cs.length cm,.slice Bm m.rs.length dm],.agg cs.toArray,.slice De me ee] w fun e w'=>e=.returned (.bool (evalF m (f) env))∧Below w.heap.size w w'):∀(env:List (ByteArray × Int)) (cs:List Value) (w:World) (S:Nat→Prop) (De:Option Addr) (me ee:Nat),env.length+Fv.nodes (.qu k x f)≤1000→fmRep.R w S (Fv.fm (.qu k x f)) cs→envRep.Sl w S (.slice De me ee) env→(env=[]→De=none)→me≤ee→m.In w S [.int .i64 m.sz,.slice Am m.cs.length cm,.slice Bm m.rs.length dm]→(∀b,S b→b<w.heap.size)→Calls Tryd.prog 23 #[.agg #[.int .i64 m.sz,.slice Am m.cs.length cm,.slice Bm m.rs.length dm],.agg cs.toArray,.slice De me ee] w fun e w'=>e=.returned (.bool (evalF m (.qu k x f) env))∧Below w.heap.size w w' := by
  intro env cs w S De me ee hlen ht he he0 hme hm hS
  change fmRep.R w S (.mk ⟨(k:Int),x,[]⟩ [f.fm]) cs at ht
  generalize hkd:((k:Int):Int)=kd at ht
  generalize hnme:(x:ByteArray)=nm at ht
  obtain ⟨u,v9,rfl,hnm,hw,hl⟩ := Fm.open_ ht
  simp only at hw hnm
  obtain ⟨A,n1,c1,rfl,e1,hm1,_⟩ := id hw
  obtain ⟨B,n2,c2,rfl,e2,hm2,_⟩ := id hl
  go_enter Tryd.func23,Tryd.ntmps23
  refine wp_seq ?_
  refine vl_r0_wp (fun a0 h0=>?_) _ (by exact fR rfl rfl rfl)
  refine gen_last (fun wx=>wx.heap[w.heap.size]? = some (.cells #[.int .i64 m.sz,.slice Am m.cs.length cm,.slice Bm m.rs.length dm] 25 (0,0))∧wx.heap[w.heap.size+1]? = some (.cells #[.int .i64 kd,.string nm,.slice A n1 c1,.slice B n2 c2] 29 (0,0))∧wx.heap[w.heap.size+1+1]? = some (.cells #[.slice De me ee] 62 (0,0))∧Below w.heap.size w wx) ⟨heap_old (by simp; omega) (heap_old (by simp) (heap_at rfl)),heap_old (by simp) (heap_at (by simp)),heap_at (by simp),by go_grown⟩ ?_
  rintro wy ⟨hmy,hay,hey,hby⟩
  have hbys := hby.size
  have hgyl := lt_heap hey
  have hkeep:∀W:World,Below wy.heap.size wy W→∀k,S k→W.heap[k]? = w.heap[k]? := fun W hb k hk=>(hb.block k (by have := hS k hk; omega)).trans (hby.block k (hS k hk))
  have hlt:∀W:World,Below wy.heap.size wy W→∀k,S k→k<W.heap.size := fun W hb k hk=>by have := hS k hk; have := hb.size; omega
  refine wp_seq ?_
  refine vl_r1_wp (fun a1 h1=>?_) a0 h0
  refine wp_seq ?_
  refine wp_seq ?_
  refine vl_r2_wp hay (fun a2 h2=>?_) a1 h1
  refine wp_block ?_
  simp only [Fv.nodes] at hlen
  subst hnme
  have hk := hok.1
  obtain rfl:n2=1 := by simpa using e2.symm
  obtain ⟨b,o,cs1,rfl,hSb,hr1,hcc1⟩ := Rep.Sl.at_ hl (k := 0) (a := f.fm) rfl
  obtain ⟨Ae,n3,c3,Be,n4,c4,rfl,_,_,_,_⟩ := Fm.shape hr1
  have hbl:b<wy.heap.size := hlt wy (Below.refl _ _) b hSb
  refine wp_seq ?_
  refine vl_r3_wp (fun a3 h3=>?_) a2 (h2.pick [0,1,2,3,4])
  have q1:¬ kd=1 := by omega
  refine wp_cond_false ((h3.eval (k := 19) (v := .bool (decide (kd=1))) (by simp)).trans (by rw [decide_eq_false q1])) ?_
  refine wp_seq ?_
  refine vl_r5_wp (fun a4 h4=>?_) a3 (h3.pick [0,1,2,3,4])
  have q2:¬ kd=2 := by omega
  refine wp_cond_false ((h4.eval (k := 21) (v := .bool (decide (kd=2))) (by simp)).trans (by rw [decide_eq_false q2])) ?_
  refine wp_seq ?_
  refine vl_r15_wp (fun a5 h5=>?_) a4 (h4.pick [0,1,2,3,4])
  have q3:¬ kd=3 := by omega
  refine wp_cond_false ((h5.eval (k := 54) (v := .bool (decide (kd=3))) (by simp)).trans (by rw [decide_eq_false q3])) ?_
  refine wp_seq ?_
  refine vl_r17_wp (fun a6 h6=>?_) a5 (h5.pick [0,1,2,3,4])
  have q4:¬ kd=4 := by omega
  refine wp_cond_false ((h6.eval (k := 69) (v := .bool (decide (kd=4))) (by simp)).trans (by rw [decide_eq_false q4])) ?_
  refine wp_seq ?_
  refine vl_r19_wp (fun a7 h7=>?_) a6 (h6.pick [0,1,2,3,4])
  have q5:¬ kd=5 := by omega
  refine wp_cond_false ((h7.eval (k := 79) (v := .bool (decide (kd=5))) (by simp)).trans (by rw [decide_eq_false q5])) ?_
  refine wp_seq ?_
  refine vl_r21_wp (fun a8 h8=>?_) a7 (h7.pick [0,1,2,3,4])
  have q6:¬ kd=6 := by omega
  refine wp_cond_false ((h8.eval (k := 97) (v := .bool (decide (kd=6))) (by simp)).trans (by rw [decide_eq_false q6])) ?_
  refine wp_seq ?_
  refine vl_r23_wp (fun a9 h9=>?_) a8 (h8.pick [0,1,2,3,4])
  have q7:¬ kd=7 := by omega
  refine wp_cond_false ((h9.eval (k := 115) (v := .bool (decide (kd=7))) (by simp)).trans (by rw [decide_eq_false q7])) ?_
  refine wp_skip ?_
  show Code.wp _ _ _ a9 wy
  refine wp_seq ?_
  refine wp_seq ?_
  refine vl_r25_wp hmy (fun a10 h10=>?_) a9 (h9.pick [0,1,2,3])
  refine wp_block ?_
  refine wp_loopR (fun g a' w'=>∃i:Nat,i+g=m.sz.toNat∧(∀j:Nat,j<i→(evalF m f (env++[(x,(j:Int))]) != (kd == 8))=false)∧Below wy.heap.size wy w'∧Frm 168 [(3,.pointer (some ⟨w.heap.size,0,none⟩)),(4,.pointer (some ⟨(w.heap.size+1),0,none⟩)),(5,.pointer (some ⟨(w.heap.size+1+1),0,none⟩)),(7,.func (Fn.func 41) #[] #[.pointer (some ⟨(w.heap.size+1+1),0,none⟩),.pointer (some ⟨w.heap.size,0,none⟩)]),(135,.int .i64 m.sz),(136,.int .i64 (i:Nat))] a') m.sz.toNat ⟨0,by omega,fun j hj=>absurd hj (Nat.not_lt_zero _),Below.refl _ _,h10⟩ ?_
  rintro g a11 w3 ⟨i,hig,hno,hb3,h11⟩
  have hb3s := hb3.size
  have hay3 := (hb3.block _ (lt_heap hay)).trans hay
  have hmy3 := (hb3.block _ (lt_heap hmy)).trans hmy
  have hey3 := (hb3.block _ (lt_heap hey)).trans hey
  have hsz := hg.sz
  refine wp_seq ?_
  refine vl_r26_wp (fun a12 h12=>?_) a11 h11
  refine wp_seq ?_
  by_cases hi:(i:Int)<m.sz
  case neg =>
    refine wp_cond_false ((h12.eval (k := 137) (v := .bool (decide ((i:Int)<m.sz))) (by simp)).trans (by rw [decide_eq_false hi])) ?_
    refine wp_exit ?_
    repeat refine then_exit ?_
    refine inBlock_exit ?_
    show Code.wp _ _ _ a12 w3
    refine wp_seq ?_
    refine vl_r31_wp hay3 (fun a15 h15=>?_) a12 (h12.pick [0,1,2,3])
    refine wp_ret ?_
    repeat (first | refine thenR ?_ | refine inBlockR ?_)
    refine vl_ret_wp (bb := _) ⟨?_,hby.trans (hb3.mono hbys)⟩ a15 h15
    rw [← hkd,qu_end hk (fun j hj=>by rw [hkd]; exact hno j (by omega))]
  refine wp_cond_true ((h12.eval (k := 137) (v := .bool (decide ((i:Int)<m.sz))) (by simp)).trans (by rw [decide_eq_true hi])) ?_
  refine wp_skip ?_
  show Code.wp _ _ _ a12 w3
  refine wp_seq ?_
  refine wp_block ?_
  refine wp_seq ?_
  refine vl_r27_wp (fun a13 h13=>?_) a12 (h12.pick [0,1,2,3,4,5])
  have e0_0:w3.cell? ⟨b,o,none⟩=_ := (cell_keep (hkeep w3 hb3 b hSb) _).trans (hcc1 0 _ rfl)
  have e0_1:w3.cell? ⟨b,o+1,none⟩=_ := (cell_keep (hkeep w3 hb3 b hSb) _).trans (hcc1 1 _ rfl)
  have e0_2:w3.cell? ⟨b,o+2,none⟩=_ := (cell_keep (hkeep w3 hb3 b hSb) _).trans (hcc1 2 _ rfl)
  have e0_3:w3.cell? ⟨b,o+3,none⟩=_ := (cell_keep (hkeep w3 hb3 b hSb) _).trans (hcc1 3 _ rfl)
  have hih:∀(W:World) (v':Value),W.ownsRow (w3.heap.size+1) 63 2 v' (env.length+1) (envVals env++[.string x,.int .i64 (i:Nat)])→Below w3.heap.size w3 W→Calls Tryd.prog 23 #[.agg #[.int .i64 m.sz,.slice Am m.cs.length cm,.slice Bm m.rs.length dm],.agg #[.int .i64 f.fm.lab.kind,.string f.fm.lab.nm,.slice Ae n3 c3,.slice Be n4 c4],v'] W fun e w'=>e=.returned (.bool (evalF m f (env++[(x,(i:Int))])))∧Below w3.heap.size w3 w' := by
    intro W v' hown hbW
    have hbW2 := hb3.trans (hbW.mono hb3s)
    have hbWs := hbW.size
    obtain ⟨A9,c9,rfl,hcap⟩ := own_cap hown
    have hS':∀k,(S k∨(w3.heap.size≤k∧k<W.heap.size))→k<W.heap.size := fun k hk=>hk.elim (fun h=>hlt W hbW2 k h) (fun h=>h.2)
    have hsl:envRep.Sl W (fun k=>S k∨(w3.heap.size≤k∧k<W.heap.size)) (.slice A9 (env.length+1) c9) (env++[(x,(i:Int))]) := by
      have h9 := sl_of_own (ρ := envRep) (l := env++[(x,(i:Int))]) (S := fun k=>S k∨(w3.heap.size≤k∧k<W.heap.size)) (xs := envVals (env++[(x,(i:Int))])) (v := .slice A9 (env.length+1) c9) (E := 63) (base := w3.heap.size+1) (w := W) (by rw [envVals_snoc,List.length_append]; exact hown) (envAll _) (by rw [List.length_append]; unfold maxLen; simp only [List.length_singleton]; omega) (fun k hk=>Or.inr ⟨by have := (hown.lt k hk).1; omega,(hown.lt k hk).2⟩)
      exact h9
    exact (ihf hok.2.2 hrel (env++[(x,(i:Int))]) _ W (fun k=>S k∨(w3.heap.size≤k∧k<W.heap.size)) _ _ _ (by rw [List.length_append,List.length_singleton]; omega) (fmRep.keep hr1 (hkeep W hbW2) (fun _ h=>Or.inl h)) hsl (fun h=>by simp at h) hcap (hm.keep (hkeep W hbW2) (fun _ h=>Or.inl h)) hS').mono (fun e w' h=>⟨h.1,hbW.trans (h.2.mono hbWs)⟩)
  refine wp_seq ?_
  refine wp_via (fun a9 w9=>Frm 168 [(3,.pointer (some ⟨w.heap.size,0,none⟩)),(4,.pointer (some ⟨(w.heap.size+1),0,none⟩)),(5,.pointer (some ⟨(w.heap.size+1+1),0,none⟩)),(7,.func (Fn.func 41) #[] #[.pointer (some ⟨(w.heap.size+1+1),0,none⟩),.pointer (some ⟨w.heap.size,0,none⟩)]),(135,.int .i64 m.sz),(136,.int .i64 (i:Nat)),(160,.bool (evalF m f (env++[(x,(i:Int))]) != (kd == 8)))] a9∧Below w3.heap.size w3 w9) ?_ (fun hK=>?_)
  · rintro a14 w4 ⟨h14,hb4⟩
    have hb34 := hb3.trans (hb4.mono hb3s)
    have hay4 := (hb34.block _ (lt_heap hay)).trans hay
    cases hx2:(evalF m f (env++[(x,(i:Int))]) != (kd == 8))
    · rw [hx2] at h14
      refine wp_cond_false ((h14.eval (k := 160) (v := .bool false) (by simp)).trans (by rw [show false=false from rfl])) ?_
      refine wp_skip ?_
      show Code.wp _ _ _ a14 w4
      refine vl_r30_wp (by omega) (fun a15 h15=>?_) a14 (h14.pick [0,1,2,3,4,5])
      refine ⟨g - 1,by omega,i+1,by omega,fun j hj=>?_,hb34,h15⟩
      by_cases hji:j=i
      · rw [hji]; exact hx2
      · exact hno j (by omega)
    · rw [hx2] at h14
      refine wp_cond_true ((h14.eval (k := 160) (v := .bool true) (by simp)).trans (by rw [show true=true from rfl])) ?_
      refine wp_seq ?_
      refine vl_r29_wp hay4 (fun a15 h15=>?_) a14 (h14.pick [0,1,2,3])
      refine wp_ret ?_
      repeat (first | refine thenR ?_ | refine inBlockR ?_)
      refine vl_ret_wp (bb := _) ⟨?_,hby.trans (hb34.mono hbys)⟩ a15 h15
      rw [← hkd,qu_stop hk hi (by rw [hkd]; exact hx2)]
  · have hl3:b<w3.heap.size := hlt w3 hb3 b hSb
    obtain ⟨De',me',ee',eqd,hel,_,hpos⟩ := id he
    simp only [Value.slice.injEq] at eqd
    obtain ⟨rfl,rfl,rfl⟩ := eqd
    by_cases hz:env=[]
    · have hD := he0 hz
      subst hz
      subst hD
      obtain rfl:me=0 := by simpa using hel.symm
      refine wp_thenF ?_
      exact vl_r28n_wp hmy3 hay3 hey3 e0_0 e0_1 e0_2 e0_3 hl3 rfl rfl hih (fun a14 w4 h14 hb4=>hK _ _ ⟨h14,hb4⟩) a13 h13
    · have hp:0<me := by
        rcases Nat.eq_zero_or_pos me with h | h
        · exact absurd (List.length_eq_zero_iff.1 (by omega)) hz
        · exact h
      obtain ⟨b2,o2,xs,rfl,hSb2,hxs,hcell⟩ := hpos hp
      obtain rfl := envAll_eq hxs
      rw [hel] at hih
      refine wp_thenF ?_
      exact vl_r28_wp hmy3 hay3 hel (by omega) hme (hlt w3 hb3 b2 hSb2) (fun j u hu=>(cell_keep (hkeep w3 hb3 b2 hSb2) _).trans (hcell j u hu)) hey3 e0_0 e0_1 e0_2 e0_3 hl3 rfl rfl hih (fun a14 w4 h14 hb4=>hK _ _ ⟨h14,hb4⟩) a13 h13
theorem value_any (m:Md) (hg:m.good) {Am Bm:Option Addr} {cm dm:Nat}:∀v:Fv,v.ok→hasRels m v=true→∀(env:List (ByteArray × Int)) (cs:List Value) (w:World) (S:Nat→Prop) (De:Option Addr) (me ee:Nat),env.length+Fv.nodes (v)≤1000→fmRep.R w S (Fv.fm (v)) cs→envRep.Sl w S (.slice De me ee) env→(env=[]→De=none)→me≤ee→m.In w S [.int .i64 m.sz,.slice Am m.cs.length cm,.slice Bm m.rs.length dm]→(∀b,S b→b<w.heap.size)→Calls Tryd.prog 23 #[.agg #[.int .i64 m.sz,.slice Am m.cs.length cm,.slice Bm m.rs.length dm],.agg cs.toArray,.slice De me ee] w fun e w'=>e=.returned (.bool (evalF m (v) env))∧Below w.heap.size w w'
  | .tru,_,_=>value_tru m hg
  | .pred _ _,h,hr=>value_pred m hg h hr
  | .same _ _,_,_=>value_same m hg
  | .neg f,h,hr=>value_neg m hg h hr (value_any m hg f)
  | .bin _ f g,h,hr=>value_bin m hg h (by simpa [hasRels] using hr) (value_any m hg f) (value_any m hg g)
  | .qu _ _ f,h,hr=>value_qu m hg h hr (value_any m hg f)
end
noncomputable section
set_option maxRecDepth 1000000
set_option maxHeartbeats 16000000
variable {w wo:World} {Q:Exit→Act→World→Prop} {z kd c j:Int} {Am Bm A B:Option Addr} {nm1 cm nm2 dm n1 c1 n2 c2 gb gx:Nat} {nm:ByteArray} {s_3 s_5 s_2:Value} {K:Act→World→Prop} {bb:Bool} {t:Fm}

theorem keeps2G {b:Nat} {v0 v1:Value}:Keeps (fun k=>k=b) w ((w.setCell ⟨b,0,none⟩ v0).setCell ⟨b,1,none⟩ v1) := Keeps.set (P := fun k=>k=b) (Keeps.set (P := fun k=>k=b) (Keeps.refl (fun k=>k=b) w) (Or.inl rfl) 0 v0) (Or.inl rfl) 1 v1
theorem frame_ho {P:Act→Prop} (h:∀x0 x1 x2 x3 x4 x5 x6 x7 x8 x9 x10 x11 x12 x13 x14 x15 x16 x17 x18 x19 x20 x21 x22 x23 x24 x25 x26 x27 x28 x29 x30 x31:Value,P ⟨(x0 :: x1 :: x2 :: x3 :: x4 :: x5 :: x6 :: x7 :: x8 :: x9 :: x10 :: x11 :: x12 :: x13 :: x14 :: x15 :: x16 :: x17 :: x18 :: x19 :: x20 :: x21 :: x22 :: x23 :: x24 :: x25 :: x26 :: x27 :: x28 :: x29 :: x30 :: x31 :: []).toArray,[]⟩):∀a:Act,a.tmps.toList.length=32→a.defers=[]→P a := by
  rintro ⟨⟨l⟩,d⟩ hs hd
  simp only at hd
  subst hd
  revert l
  show ∀l:List Value,l.length=32→P ⟨⟨l⟩,[]⟩
  iterate 32 refine openS (fun _=>?_)
  refine open0 ?_
  exact h ..
noncomputable def cF13:Code := Tryd.f13.body.getD .skip
def c_ho_r0 := sp 99 2 cF13
theorem ho_r0_wp (hN:∀a',Frm 32 [(2,.pointer (some ⟨wo.heap.size,0,none⟩)),(3,.pointer (some ⟨(wo.heap.size+1),0,none⟩)),(5,.pointer (some ⟨(wo.heap.size+1+1),0,none⟩))] a'→Q .normal a' (((wo.alloc (.cells #[.int .i64 z,.slice Am nm1 cm,.slice Bm nm2 dm] 25)).alloc (.cells #[.int .i64 kd,.string nm,.slice A n1 c1,.slice B n2 c2] 29)).alloc (.cells #[.int .i64 0,.int .i64 0] 32))):∀ac,Frm 32 [(0,.agg #[.int .i64 z,.slice Am nm1 cm,.slice Bm nm2 dm]),(1,.agg #[.int .i64 kd,.string nm,.slice A n1 c1,.slice B n2 c2])] ac→Code.wp Tryd.prog c_ho_r0 Q ac wo := by
  refine fO (frame_ho ?_)
  intros
  rename_i hq
  iterate 2 (obtain ⟨e,hq⟩ := hq; obtain rfl := sI e; clear e)
  clear hq
  conv=>arg 2; whnf
  replace hN := Lib.hid hN
  go_wp2_with fail
  exact hN.out _ (by exact fR rfl rfl rfl)
def c_ho_r1 := sp 99 9 cF13
theorem ho_r1_wp (hgm:w.heap[wo.heap.size]? = some (.cells #[.int .i64 z,.slice Am nm1 cm,.slice Bm nm2 dm] 25 (0,0))) (hc:Calls Tryd.prog 21 #[.agg #[.int .i64 z,.slice Am nm1 cm,.slice Bm nm2 dm]] w fun e w'=>e=.returned (.agg #[.int .i64 c,.int .i64 j])∧Below w.heap.size w w') (hN:∀ge a' w',Frm 32 [(2,.pointer (some ⟨wo.heap.size,0,none⟩)),(3,s_3),(5,s_5),(6,.pointer (some ⟨ge,0,none⟩))] a'→w.heap.size≤ge→w'.heap[ge]? = some (.cells #[.int .i64 c,.int .i64 j] 32 (0,0))→Below w.heap.size w w'→Q .normal a' w'):∀ac,Frm 32 [(2,.pointer (some ⟨wo.heap.size,0,none⟩)),(3,s_3),(5,s_5)] ac→Code.wp Tryd.prog c_ho_r1 Q ac w := by
  refine fO (frame_ho ?_)
  intros
  rename_i hq
  iterate 3 (obtain ⟨e,hq⟩ := hq; obtain rfl := sI e; clear e)
  clear hq
  conv=>arg 2; whnf
  have m0 := cellv hgm 0 rfl
  have m1 := cellv hgm 1 rfl
  have m2 := cellv hgm 2 rfl
  have ml := lt_heap hgm
  clear hgm
  have HN := Lib.hid hN
  have HC := Lib.hid hc
  clear hN hc
  go_wp2_with fail
  (with_reducible refine HC.out.mono ?_)
  rintro e w1 ⟨rfl,hb1⟩
  replace hb1 := Lib.hid hb1
  go_wp2_with fail
  have hz := hb1.out.size
  exact HN.out w1.heap.size _ _ (by exact fR rfl rfl rfl) hz (heap_at rfl) (hb1.out.alloc hz _)
def c_ho_r4 := sp 99 19 cF13
theorem ho_r4_wp (ha:w.heap[wo.heap.size+1]? = some (.cells #[.int .i64 kd,.string nm,.slice A n1 c1,.slice B n2 c2] 29 (0,0))) (hc:Calls Tryd.prog 29 #[.agg #[.int .i64 kd,.string nm,.slice A n1 c1,.slice B n2 c2]] w fun e w'=>e=.returned (.agg #[.int .i64 c,.int .i64 j])∧Below w.heap.size w w') (hN:∀ge a' w',Frm 32 [(2,s_2),(3,.pointer (some ⟨(wo.heap.size+1),0,none⟩)),(5,s_5),(7,.pointer (some ⟨ge,0,none⟩))] a'→w.heap.size≤ge→w'.heap[ge]? = some (.cells #[.int .i64 c,.int .i64 j] 32 (0,0))→Below w.heap.size w w'→Q .normal a' w'):∀ac,Frm 32 [(2,s_2),(3,.pointer (some ⟨(wo.heap.size+1),0,none⟩)),(5,s_5)] ac→Code.wp Tryd.prog c_ho_r4 Q ac w := by
  refine fO (frame_ho ?_)
  intros
  rename_i hq
  iterate 3 (obtain ⟨e,hq⟩ := hq; obtain rfl := sI e; clear e)
  clear hq
  conv=>arg 2; whnf
  have a0 := cellv ha 0 rfl
  have a1 := cellv ha 1 rfl
  have a2 := cellv ha 2 rfl
  have a3 := cellv ha 3 rfl
  have al := lt_heap ha
  clear ha
  have HN := Lib.hid hN
  have HC := Lib.hid hc
  clear hN hc
  go_wp2_with fail
  (with_reducible refine HC.out.mono ?_)
  rintro e w1 ⟨rfl,hb1⟩
  replace hb1 := Lib.hid hb1
  go_wp2_with fail
  have hz := hb1.out.size
  exact HN.out w1.heap.size _ _ (by exact fR rfl rfl rfl) hz (heap_at rfl) (hb1.out.alloc hz _)
def c_ho_r7 := sp 99 39 cF13
theorem ho_r7_wp (hgm:w.heap[wo.heap.size]? = some (.cells #[.int .i64 z,.slice Am nm1 cm,.slice Bm nm2 dm] 25 (0,0))) (ha:w.heap[wo.heap.size+1]? = some (.cells #[.int .i64 kd,.string nm,.slice A n1 c1,.slice B n2 c2] 29 (0,0))) (hc:Calls Tryd.prog 30 #[.agg #[.int .i64 z,.slice Am nm1 cm,.slice Bm nm2 dm],.agg #[.int .i64 kd,.string nm,.slice A n1 c1,.slice B n2 c2]] w fun e w'=>e=.returned (.agg #[.int .i64 c,.int .i64 j])∧Below w.heap.size w w') (hN:∀ge a' w',Frm 32 [(2,.pointer (some ⟨wo.heap.size,0,none⟩)),(3,.pointer (some ⟨(wo.heap.size+1),0,none⟩)),(5,s_5),(8,.pointer (some ⟨ge,0,none⟩))] a'→w.heap.size≤ge→w'.heap[ge]? = some (.cells #[.int .i64 c,.int .i64 j] 32 (0,0))→Below w.heap.size w w'→Q .normal a' w'):∀ac,Frm 32 [(2,.pointer (some ⟨wo.heap.size,0,none⟩)),(3,.pointer (some ⟨(wo.heap.size+1),0,none⟩)),(5,s_5)] ac→Code.wp Tryd.prog c_ho_r7 Q ac w := by
  refine fO (frame_ho ?_)
  intros
  rename_i hq
  iterate 3 (obtain ⟨e,hq⟩ := hq; obtain rfl := sI e; clear e)
  clear hq
  conv=>arg 2; whnf
  have m0 := cellv hgm 0 rfl
  have m1 := cellv hgm 1 rfl
  have m2 := cellv hgm 2 rfl
  have ml := lt_heap hgm
  clear hgm
  have a0 := cellv ha 0 rfl
  have a1 := cellv ha 1 rfl
  have a2 := cellv ha 2 rfl
  have a3 := cellv ha 3 rfl
  have al := lt_heap ha
  clear ha
  have HN := Lib.hid hN
  have HC := Lib.hid hc
  clear hN hc
  go_wp2_with fail
  (with_reducible refine HC.out.mono ?_)
  rintro e w1 ⟨rfl,hb1⟩
  replace hb1 := Lib.hid hb1
  go_wp2_with fail
  have hz := hb1.out.size
  exact HN.out w1.heap.size _ _ (by exact fR rfl rfl rfl) hz (heap_at rfl) (hb1.out.alloc hz _)
def c_ho_r2 := sp 99 21 cF13
theorem ho_r2_wp (hb:w.heap[gb]? = some (.cells #[.int .i64 c,.int .i64 j] 32 (0,0))) (hN:∀a',Frm 32 [(2,s_2),(3,s_3),(5,s_5),(6,.pointer (some ⟨gb,0,none⟩)),(13,.bool (decide (c≠0)))] a'→Q .normal a' w):∀ac,Frm 32 [(2,s_2),(3,s_3),(5,s_5),(6,.pointer (some ⟨gb,0,none⟩))] ac→Code.wp Tryd.prog c_ho_r2 Q ac w := by
  refine fO (frame_ho ?_)
  intros
  rename_i hq
  iterate 4 (obtain ⟨e,hq⟩ := hq; obtain rfl := sI e; clear e)
  clear hq
  conv=>arg 2; whnf
  have b0 := cellv hb 0 rfl
  have bl := lt_heap hb
  clear hb
  by_cases h:c≠0
  · have t0 := h
    have t1:(c != 0)=true := by first | exact bne_iff_ne.2 (by omega) | exact bne_eq_false_iff_eq.2 (by omega)
    rw [show decide (c≠0)=true from by simpa using h] at hN
    clear h
    replace hN := Lib.hid hN
    go_wp2_with fail
    exact hN.out _ (by exact fR rfl rfl rfl)
  · have t0 := h
    have t1:(c != 0)=false := by first | exact bne_iff_ne.2 (by omega) | exact bne_eq_false_iff_eq.2 (by omega)
    rw [show decide (c≠0)=false from by simpa using h] at hN
    clear h
    replace hN := Lib.hid hN
    go_wp2_with fail
    exact hN.out _ (by exact fR rfl rfl rfl)
def c_ho_r5 := sp 99 43 cF13
theorem ho_r5_wp (hb:w.heap[gb]? = some (.cells #[.int .i64 c,.int .i64 j] 32 (0,0))) (hN:∀a',Frm 32 [(2,s_2),(3,s_3),(5,s_5),(7,.pointer (some ⟨gb,0,none⟩)),(19,.bool (decide (c≠0)))] a'→Q .normal a' w):∀ac,Frm 32 [(2,s_2),(3,s_3),(5,s_5),(7,.pointer (some ⟨gb,0,none⟩))] ac→Code.wp Tryd.prog c_ho_r5 Q ac w := by
  refine fO (frame_ho ?_)
  intros
  rename_i hq
  iterate 4 (obtain ⟨e,hq⟩ := hq; obtain rfl := sI e; clear e)
  clear hq
  conv=>arg 2; whnf
  have b0 := cellv hb 0 rfl
  have bl := lt_heap hb
  clear hb
  by_cases h:c≠0
  · have t0 := h
    have t1:(c != 0)=true := by first | exact bne_iff_ne.2 (by omega) | exact bne_eq_false_iff_eq.2 (by omega)
    rw [show decide (c≠0)=true from by simpa using h] at hN
    clear h
    replace hN := Lib.hid hN
    go_wp2_with fail
    exact hN.out _ (by exact fR rfl rfl rfl)
  · have t0 := h
    have t1:(c != 0)=false := by first | exact bne_iff_ne.2 (by omega) | exact bne_eq_false_iff_eq.2 (by omega)
    rw [show decide (c≠0)=false from by simpa using h] at hN
    clear h
    replace hN := Lib.hid hN
    go_wp2_with fail
    exact hN.out _ (by exact fR rfl rfl rfl)
def c_ho_r8 := sp 99 87 cF13
theorem ho_r8_wp (hb:w.heap[gb]? = some (.cells #[.int .i64 c,.int .i64 j] 32 (0,0))) (hN:∀a',Frm 32 [(2,s_2),(3,s_3),(5,s_5),(8,.pointer (some ⟨gb,0,none⟩)),(26,.bool (decide (c≠0)))] a'→Q .normal a' w):∀ac,Frm 32 [(2,s_2),(3,s_3),(5,s_5),(8,.pointer (some ⟨gb,0,none⟩))] ac→Code.wp Tryd.prog c_ho_r8 Q ac w := by
  refine fO (frame_ho ?_)
  intros
  rename_i hq
  iterate 4 (obtain ⟨e,hq⟩ := hq; obtain rfl := sI e; clear e)
  clear hq
  conv=>arg 2; whnf
  have b0 := cellv hb 0 rfl
  have bl := lt_heap hb
  clear hb
  by_cases h:c≠0
  · have t0 := h
    have t1:(c != 0)=true := by first | exact bne_iff_ne.2 (by omega) | exact bne_eq_false_iff_eq.2 (by omega)
    rw [show decide (c≠0)=true from by simpa using h] at hN
    clear h
    replace hN := Lib.hid hN
    go_wp2_with fail
    exact hN.out _ (by exact fR rfl rfl rfl)
  · have t0 := h
    have t1:(c != 0)=false := by first | exact bne_iff_ne.2 (by omega) | exact bne_eq_false_iff_eq.2 (by omega)
    rw [show decide (c≠0)=false from by simpa using h] at hN
    clear h
    replace hN := Lib.hid hN
    go_wp2_with fail
    exact hN.out _ (by exact fR rfl rfl rfl)
def c_ho_r3 := sp 99 77 cF13
theorem ho_r3_wp (hbx2:gb≠gx) (hbx:w.heap[gb]? = some (.cells #[.int .i64 c,.int .i64 j] 32 (0,0))) (hx:w.heap[gx]? = some (.cells #[.int .i64 0,.int .i64 0] 32 (0,0))) (hN:∀a' w',Frm 32 [(4,.bool false),(5,.pointer (some ⟨gx,0,none⟩))] a'→w'.heap[gx]? = some (.cells #[.int .i64 c,.int .i64 j] 32 (0,0))→Keeps (fun k=>k=gx) w w'→K a' w'):∀ac,Frm 32 [(5,.pointer (some ⟨gx,0,none⟩)),(6,.pointer (some ⟨gb,0,none⟩))] ac→Code.wp Tryd.prog c_ho_r3 (Exit.then K (fun _ _ _=>False)) ac w := by
  refine fO (frame_ho ?_)
  intros
  rename_i hq
  iterate 2 (obtain ⟨e,hq⟩ := hq; obtain rfl := sI e; clear e)
  clear hq
  conv=>arg 2; whnf
  have b0 := cellv hbx 0 rfl
  have b1 := cellv hbx 1 rfl
  have bl := lt_heap hbx
  have x0 := cellv hx 0 rfl
  have x1 := cellv hx 1 rfl
  have xf0 := free_heap hx 0
  have xf1 := free_heap hx 1
  have xl := lt_heap hx
  have HX := Lib.hid hx
  clear hbx hx
  replace hN := Lib.hid hN
  go_region
  all_goals go_wp2_with fail
  all_goals exact hN.out _ _ (id ⟨rfl,rfl,rfl,rfl,trivial⟩) (heap_drew (at2 HX.out)) (Keeps.drew keeps2G)
def c_ho_r6 := sp 99 155 cF13
theorem ho_r6_wp (hbx2:gb≠gx) (hbx:w.heap[gb]? = some (.cells #[.int .i64 c,.int .i64 j] 32 (0,0))) (hx:w.heap[gx]? = some (.cells #[.int .i64 0,.int .i64 0] 32 (0,0))) (hN:∀a' w',Frm 32 [(4,.bool false),(5,.pointer (some ⟨gx,0,none⟩))] a'→w'.heap[gx]? = some (.cells #[.int .i64 c,.int .i64 j] 32 (0,0))→Keeps (fun k=>k=gx) w w'→K a' w'):∀ac,Frm 32 [(5,.pointer (some ⟨gx,0,none⟩)),(7,.pointer (some ⟨gb,0,none⟩))] ac→Code.wp Tryd.prog c_ho_r6 (Exit.then K (fun _ _ _=>False)) ac w := by
  refine fO (frame_ho ?_)
  intros
  rename_i hq
  iterate 2 (obtain ⟨e,hq⟩ := hq; obtain rfl := sI e; clear e)
  clear hq
  conv=>arg 2; whnf
  have b0 := cellv hbx 0 rfl
  have b1 := cellv hbx 1 rfl
  have bl := lt_heap hbx
  have x0 := cellv hx 0 rfl
  have x1 := cellv hx 1 rfl
  have xf0 := free_heap hx 0
  have xf1 := free_heap hx 1
  have xl := lt_heap hx
  have HX := Lib.hid hx
  clear hbx hx
  replace hN := Lib.hid hN
  go_region
  all_goals go_wp2_with fail
  all_goals exact hN.out _ _ (id ⟨rfl,rfl,rfl,rfl,trivial⟩) (heap_drew (at2 HX.out)) (Keeps.drew keeps2G)
def c_ho_r9 := sp 99 311 cF13
theorem ho_r9_wp (hbx2:gb≠gx) (hbx:w.heap[gb]? = some (.cells #[.int .i64 c,.int .i64 j] 32 (0,0))) (hx:w.heap[gx]? = some (.cells #[.int .i64 0,.int .i64 0] 32 (0,0))) (hN:∀a' w',Frm 32 [(4,.bool false),(5,.pointer (some ⟨gx,0,none⟩))] a'→w'.heap[gx]? = some (.cells #[.int .i64 c,.int .i64 j] 32 (0,0))→Keeps (fun k=>k=gx) w w'→K a' w'):∀ac,Frm 32 [(5,.pointer (some ⟨gx,0,none⟩)),(8,.pointer (some ⟨gb,0,none⟩))] ac→Code.wp Tryd.prog c_ho_r9 (Exit.then K (fun _ _ _=>False)) ac w := by
  refine fO (frame_ho ?_)
  intros
  rename_i hq
  iterate 2 (obtain ⟨e,hq⟩ := hq; obtain rfl := sI e; clear e)
  clear hq
  conv=>arg 2; whnf
  have b0 := cellv hbx 0 rfl
  have b1 := cellv hbx 1 rfl
  have bl := lt_heap hbx
  have x0 := cellv hx 0 rfl
  have x1 := cellv hx 1 rfl
  have xf0 := free_heap hx 0
  have xf1 := free_heap hx 1
  have xl := lt_heap hx
  have HX := Lib.hid hx
  clear hbx hx
  replace hN := Lib.hid hN
  go_region
  all_goals go_wp2_with fail
  all_goals exact hN.out _ _ (id ⟨rfl,rfl,rfl,rfl,trivial⟩) (heap_drew (at2 HX.out)) (Keeps.drew keeps2G)
def c_ho_r10 := sp 99 47 cF13
theorem ho_r10_wp (hgm:w.heap[wo.heap.size]? = some (.cells #[.int .i64 z,.slice Am nm1 cm,.slice Bm nm2 dm] 25 (0,0))) (ha:w.heap[wo.heap.size+1]? = some (.cells #[.int .i64 kd,.string nm,.slice A n1 c1,.slice B n2 c2] 29 (0,0))) (hx:w.heap[wo.heap.size+1+1]? = some (.cells #[.int .i64 0,.int .i64 0] 32 (0,0))) (hc:Calls Tryd.prog 23 #[.agg #[.int .i64 z,.slice Am nm1 cm,.slice Bm nm2 dm],.agg #[.int .i64 kd,.string nm,.slice A n1 c1,.slice B n2 c2],.slice none 0 0] w fun e w'=>e=.returned (.bool bb)∧Below w.heap.size w w') (hN:∀w1 a' w',Frm 32 [(4,.bool bb),(5,.pointer (some ⟨(wo.heap.size+1+1),0,none⟩))] a'→w'.heap[wo.heap.size+1+1]? = some (.cells #[.int .i64 0,.int .i64 0] 32 (0,0))→Below w.heap.size w w1→Keeps (fun k=>k=wo.heap.size+1+1) w1 w'→Q .normal a' w'):∀ac,Frm 32 [(2,.pointer (some ⟨wo.heap.size,0,none⟩)),(3,.pointer (some ⟨(wo.heap.size+1),0,none⟩)),(5,.pointer (some ⟨(wo.heap.size+1+1),0,none⟩))] ac→Code.wp Tryd.prog c_ho_r10 Q ac w := by
  refine fO (frame_ho ?_)
  intros
  rename_i hq
  iterate 3 (obtain ⟨e,hq⟩ := hq; obtain rfl := sI e; clear e)
  clear hq
  conv=>arg 2; whnf
  have XC := Lib.hid (fun (W:World) (h:W.heap[wo.heap.size+1+1]? = some (.cells #[.int .i64 0,.int .i64 0] 32 (0,0)))=>And.intro (cellv h 0 rfl) (And.intro (cellv h 1 rfl) (And.intro (free_heap h 0) (free_heap h 1))))
  have m0 := cellv hgm 0 rfl
  have m1 := cellv hgm 1 rfl
  have m2 := cellv hgm 2 rfl
  have ml := lt_heap hgm
  clear hgm
  have a0 := cellv ha 0 rfl
  have a1 := cellv ha 1 rfl
  have a2 := cellv ha 2 rfl
  have a3 := cellv ha 3 rfl
  have al := lt_heap ha
  clear ha
  have HN := Lib.hid hN
  have HC := Lib.hid hc
  have HX := Lib.hid hx
  clear hN hc hx
  go_wp2_with fail
  (with_reducible refine HC.out.mono ?_)
  rintro e w1 ⟨rfl,hb1⟩
  have hx1 := (hb1.block _ (lt_heap HX.out)).trans HX.out
  obtain ⟨u0,u1,uf0,uf1⟩ := XC.out w1 hx1
  have ul := lt_heap hx1
  have HX1 := Lib.hid hx1
  have HB1 := Lib.hid hb1
  clear hb1 hx1
  go_wp2_with fail
  exact HN.out _ _ _ (id ⟨rfl,rfl,rfl,rfl,trivial⟩) (at2 HX1.out) HB1.out keeps2G
theorem ho_ret_wp {R:Ending→World→Prop} {w':World} (hx:w'.heap[gx]? = some (.cells #[.int .i64 c,.int .i64 j] 32 (0,0))) (hR:R (.returned (.tuple #[.bool bb,.agg #[.int .i64 c,.int .i64 j]])) w'):∀ac,Frm 32 [(4,.bool bb),(5,.pointer (some ⟨gx,0,none⟩))] ac→bodyPost Tryd.prog Tryd.f13 R .ret ac w' := by
  refine fO (frame_ho ?_)
  intros
  rename_i hq
  iterate 2 (obtain ⟨e,hq⟩ := hq; obtain rfl := sI e; clear e)
  clear hq
  have x0 := cellv hx 0 rfl
  have x1 := cellv hx 1 rfl
  have xl := lt_heap hx
  refine bodyPost_ret (v := .tuple #[.bool bb,.agg #[.int .i64 c,.int .i64 j]]) (by simp [results,Tryd.results13,go_sem,x0,x1,xl]) rfl ?_
  exact hR
def holdsC (m:Md) (t:Fm):Int × Int := if (mdFault m).1≠0 then (((mdFault m).1:Nat),((mdFault m).2:Nat)) else if (fmFault t).1≠0 then (((fmFault t).1:Nat),((fmFault t).2:Nat)) else pairT m t
theorem pairT_zero {m:Md} (h:(pairT m t).1=0):pairT m t=(0,0)∧nestT t≤5∧allC m (fmConsts t)=true∧hasT m t=true := by
  unfold pairT at h ⊢
  split at h
  · exact absurd h (by simp)
  rename_i h1
  split at h
  · exact absurd h (by simp)
  rename_i h2
  split at h
  · exact absurd h (by simp)
  rename_i h3
  rw [if_neg h1,if_neg h2,if_neg h3]
  exact ⟨rfl,by omega,by simpa using h2,by simpa using h3⟩
theorem fault_ok9 (h:(fmFault t).1=0):∃v:Fv,t=v.fm∧v.ok∧v.nodes≤200∧v.depth≤40∧fmFault t=(0,0) := by
  obtain ⟨v,e,h1,h2,h3,h4⟩ := Fv.of_val t 1 0 h
  exact ⟨v,e,h1,by omega,by omega,Prod.ext h ((fmVal_le false t 1 0 (by omega)).2 h).2⟩
theorem frees_few:∀(v:Fv),v.ok→∀bd:List ByteArray,(fmFrees bd v.fm).length≤3 * v.nodes
  | .tru,_,_=>by simp [Fv.fm,fmFrees,fmFreess]
  | .pred n ws,h,bd=>by
    have h1 := h.2.1
    have h2 := List.length_filter_le (fun w=>!hasB bd w) ws
    simp only [Fv.fm,fmFrees,fmFreess,List.append_nil,Fv.nodes]; omega
  | .same a b,_,bd=>by
    have h2 := List.length_filter_le (fun w=>!hasB bd w) [a,b]
    simp only [Fv.fm,fmFrees,fmFreess,List.append_nil,Fv.nodes,List.length_cons,List.length_nil] at h2 ⊢; omega
  | .neg f,h,bd=>by
    have := fun b=>frees_few f h b
    simp only [Fv.fm,fmFrees,fmFreess,List.append_nil,List.filter_nil,List.nil_append,Fv.nodes]
    refine Nat.le_trans (this _) ?_
    omega
  | .bin _ f g,h,bd=>by
    have h1 := fun b=>frees_few f h.2.1 b
    have h2 := fun b=>frees_few g h.2.2 b
    simp only [Fv.fm,fmFrees,fmFreess,List.append_nil,List.filter_nil,List.nil_append,Fv.nodes,List.length_append]
    refine Nat.le_trans (Nat.add_le_add (h1 _) (h2 _)) ?_
    omega
  | .qu _ _ f,h,bd=>by
    have := fun b=>frees_few f h.2.2 b
    simp only [Fv.fm,fmFrees,fmFreess,List.append_nil,List.filter_nil,List.nil_append,Fv.nodes]
    refine Nat.le_trans (this _) ?_
    omega
theorem fm_small {v:Fv} (hv:v.ok) (hn:v.nodes≤200):v.fm.nodes≤1000000∧(fmFrees [] v.fm).length≤1000000 := by
  have h2 := frees_few v hv []
  rw [Fv.fm_nodes]
  omega
theorem holds_any (m:Md) (t:Fm) (ms cs:List Value) (w:World) (S:Nat→Prop) (ht:fmRep.R w S t cs) (hm:m.In w S ms) (hS:∀b,S b→b<w.heap.size) :
    Calls Tryd.prog 13 #[.agg ms.toArray,.agg cs.toArray] w fun e w'=>∃b,e=.returned (.tuple #[.bool b,.agg #[.int .i64 (holdsC m t).1,.int .i64 (holdsC m t).2]])∧((holdsC m t).1≠0→b=false)∧((holdsC m t).1=0→∃v:Fv,t=v.fm∧v.ok∧v.nodes≤200∧v.depth≤40∧b=evalF m v [])∧Below w.heap.size w w' := by
  obtain ⟨A,n1,c1,B,n2,c2,rfl,_,_,_,_⟩ := Fm.shape ht
  obtain ⟨Am,cm,Bm,dm,rfl,_,_,_,_⟩ := Md.shape hm
  obtain ⟨kd,hkd⟩:∃k,t.lab.kind=k := ⟨_,rfl⟩
  obtain ⟨nm,hnm⟩:∃k,t.lab.nm=k := ⟨_,rfl⟩
  rw [hkd,hnm] at ht ⊢
  go_enter Tryd.func13,Tryd.ntmps13
  refine wp_seq ?_
  refine ho_r0_wp (fun a0 h0=>?_) _ (id ⟨rfl,rfl,rfl,rfl,trivial⟩)
  refine gen_last (fun wx=>wx.heap[w.heap.size]? = some (.cells #[.int .i64 m.sz,.slice Am m.cs.length cm,.slice Bm m.rs.length dm] 25 (0,0))∧wx.heap[w.heap.size+1]? = some (.cells #[.int .i64 kd,.string nm,.slice A n1 c1,.slice B n2 c2] 29 (0,0))∧wx.heap[w.heap.size+1+1]? = some (.cells #[.int .i64 0,.int .i64 0] 32 (0,0))∧Below w.heap.size w wx) ⟨heap_old (by simp; omega) (heap_old (by simp) (heap_at rfl)),heap_old (by simp) (heap_at (by simp)),heap_at (by simp),by go_grown⟩ ?_
  rintro wy ⟨hmy,hay,hey,hby⟩
  have hbys := hby.size
  have hgyl := lt_heap hey
  have hkeep:∀W:World,Below w.heap.size w W→∀k,S k→W.heap[k]? = w.heap[k]? := fun W hb k hk=>hb.block k (hS k hk)
  have hlt:∀W:World,Below w.heap.size w W→∀k,S k→k<W.heap.size := fun W hb k hk=>by have := hS k hk; have := hb.size; omega
  refine wp_seq ?_
  refine wp_seq ?_
  have hv1 := validateMd_any m _ wy S (hm.keep (hkeep wy hby) (fun _ h=>h)) (hlt wy hby)
  unfold MdAt at hv1
  refine ho_r1_wp hmy hv1 (fun g1 a1 w1 h1 hg1 hge1 hb1=>?_) a0 h0
  have hb1s := hb1.size
  have hx1 := (hb1.block _ (lt_heap hey)).trans hey
  refine wp_seq ?_
  refine ho_r2_wp hge1 (fun a2 h2=>?_) a1 h1
  by_cases hf1:((mdFault m).1:Int)≠0
  · refine wp_cond_true ((h2.eval (k := 13) (v := .bool (decide (((mdFault m).1:Int)≠0))) (by simp)).trans (by rw [decide_eq_true hf1])) ?_
    have hcc:holdsC m t=((((mdFault m).1:Nat):Int),(((mdFault m).2:Nat):Int)) := if_pos (by omega)
    rw [hcc]
    refine wp_seq ?_
    refine wp_thenQ (ho_r3_wp (by omega) hge1 hx1 (fun a20 w20 h20 hx20 hk20=>?_) a2 (h2.pick [2,3]))
    refine wp_ret ?_
    repeat (first | refine thenR ?_ | refine inBlockR ?_)
    refine ho_ret_wp hx20 ⟨false,rfl,fun _=>rfl,fun h0=>absurd h0 hf1,(hby.trans (hb1.mono hbys)).trans (Keeps.below (B := w.heap.size) hk20 (fun k e=>by have e:k=w.heap.size+1+1 := e; omega) (by have := (hby.trans (hb1.mono hbys)).size; omega))⟩ a20 h20
  refine wp_cond_false ((h2.eval (k := 13) (v := .bool (decide (((mdFault m).1:Int)≠0))) (by simp)).trans (by rw [decide_eq_false hf1])) ?_
  refine wp_skip ?_
  show Code.wp _ _ _ a2 w1
  have hm0:(mdFault m).1=0 := by omega
  have hg := Md.good_of hm0
  have hb01 := hby.trans (hb1.mono hbys)
  refine wp_seq ?_
  refine wp_seq ?_
  have hv2 := validateFm_any t [.int .i64 kd,.string nm,.slice A n1 c1,.slice B n2 c2] w1 S (fmRep.keep ht (hkeep w1 hb01) (fun _ h=>h)) (hlt w1 hb01)
  have hay1 := (hb1.block _ (lt_heap hay)).trans hay
  have hmy1 := (hb1.block _ (lt_heap hmy)).trans hmy
  refine ho_r4_wp hay1 hv2 (fun g2 a3 w2 h3 hg2 hge2 hb2=>?_) a2 (h2.pick [0,1,2])
  have hb2s := hb2.size
  have hx2 := (hb2.block _ (lt_heap hx1)).trans hx1
  refine wp_seq ?_
  refine ho_r5_wp hge2 (fun a4 h4=>?_) a3 h3
  have hb02 := hb01.trans (hb2.mono (by omega))
  by_cases hf2:((fmFault t).1:Int)≠0
  · refine wp_cond_true ((h4.eval (k := 19) (v := .bool (decide (((fmFault t).1:Int)≠0))) (by simp)).trans (by rw [decide_eq_true hf2])) ?_
    have hcc:holdsC m t=((((fmFault t).1:Nat):Int),(((fmFault t).2:Nat):Int)) := by
      unfold holdsC
      rw [if_neg (by omega),if_pos (by omega)]
    rw [hcc]
    refine wp_seq ?_
    refine wp_thenQ (ho_r6_wp (by omega) hge2 hx2 (fun a20 w20 h20 hx20 hk20=>?_) a4 (h4.pick [2,3]))
    refine wp_ret ?_
    repeat (first | refine thenR ?_ | refine inBlockR ?_)
    refine ho_ret_wp hx20 ⟨false,rfl,fun _=>rfl,fun h0=>absurd h0 hf2,hb02.trans (Keeps.below (B := w.heap.size) hk20 (fun k e=>by have e:k=w.heap.size+1+1 := e; omega) (by have := hb02.size; omega))⟩ a20 h20
  refine wp_cond_false ((h4.eval (k := 19) (v := .bool (decide (((fmFault t).1:Int)≠0))) (by simp)).trans (by rw [decide_eq_false hf2])) ?_
  refine wp_skip ?_
  show Code.wp _ _ _ a4 w2
  have ht0:(fmFault t).1=0 := by omega
  obtain ⟨v,hvt,ov,nv,dv,ev⟩ := fault_ok9 ht0
  have hsm := fm_small ov nv
  have hcc:holdsC m t=pairT m t := by
    unfold holdsC
    rw [if_neg (by omega),if_neg (by omega)]
  rw [hcc]
  refine wp_seq ?_
  refine wp_seq ?_
  have hay2 := (hb2.block _ (lt_heap hay1)).trans hay1
  have hmy2 := (hb2.block _ (lt_heap hmy1)).trans hmy1
  have hv3 := fault_any m hg t [.int .i64 m.sz,.slice Am m.cs.length cm,.slice Bm m.rs.length dm] [.int .i64 kd,.string nm,.slice A n1 c1,.slice B n2 c2] w2 S (fmRep.keep ht (hkeep w2 hb02) (fun _ h=>h)) (hlt w2 hb02) (hm.keep (hkeep w2 hb02) (fun _ h=>h)) (by rw [hvt]; exact hsm.1) (by rw [hvt]; exact hsm.2)
  refine ho_r7_wp hmy2 hay2 hv3 (fun g3 a5 w3 h5 hg3 hge3 hb3=>?_) a4 (h4.pick [0,1,2])
  have hb3s := hb3.size
  have hx3 := (hb3.block _ (lt_heap hx2)).trans hx2
  refine wp_seq ?_
  refine ho_r8_wp hge3 (fun a6 h6=>?_) a5 h5
  have hb03 := hb02.trans (hb3.mono (by omega))
  by_cases hf3:(pairT m t).1≠0
  · refine wp_cond_true ((h6.eval (k := 26) (v := .bool (decide ((pairT m t).1≠0))) (by simp)).trans (by rw [decide_eq_true hf3])) ?_
    refine wp_seq ?_
    refine wp_thenQ (ho_r9_wp (by omega) hge3 hx3 (fun a20 w20 h20 hx20 hk20=>?_) a6 (h6.pick [2,3]))
    refine wp_ret ?_
    repeat (first | refine thenR ?_ | refine inBlockR ?_)
    refine ho_ret_wp hx20 ⟨false,rfl,fun _=>rfl,fun h0=>absurd h0 hf3,hb03.trans (Keeps.below (B := w.heap.size) hk20 (fun k e=>by have e:k=w.heap.size+1+1 := e; omega) (by have := hb03.size; omega))⟩ a20 h20
  refine wp_cond_false ((h6.eval (k := 26) (v := .bool (decide ((pairT m t).1≠0))) (by simp)).trans (by rw [decide_eq_false hf3])) ?_
  refine wp_skip ?_
  show Code.wp _ _ _ a6 w3
  obtain ⟨hp0,_,_,hrel⟩ := pairT_zero (Decidable.not_not.1 hf3)
  rw [hp0]
  have hay3 := (hb3.block _ (lt_heap hay2)).trans hay2
  have hmy3 := (hb3.block _ (lt_heap hmy2)).trans hmy2
  subst hvt
  rw [hasT_fm m v ov] at hrel
  have hv4 := value_any m hg v ov hrel [] [.int .i64 kd,.string nm,.slice A n1 c1,.slice B n2 c2] w3 S none 0 0 (by simp; omega) (fmRep.keep ht (hkeep w3 hb03) (fun _ h=>h)) Rep.Sl.nil (fun _=>rfl) (Nat.le_refl _) (hm.keep (hkeep w3 hb03) (fun _ h=>h)) (hlt w3 hb03)
  refine wp_seq ?_
  refine ho_r10_wp hmy3 hay3 hx3 hv4 (fun w4 a7 w5 h7 hx7 hb4 hk5=>?_) a6 (h6.pick [0,1,2])
  have hb04 := hb03.trans (hb4.mono (by omega))
  refine wp_ret ?_
  exact ho_ret_wp hx7 ⟨_,rfl,fun h=>absurd rfl h,fun _=>⟨v,rfl,ov,nv,dv,rfl⟩,hb04.trans (Keeps.below (B := w.heap.size) hk5 (fun k e=>by have e:k=w.heap.size+1+1 := e; omega) (by have := hb04.size; omega))⟩ a7 h7
end
noncomputable section
set_option maxRecDepth 100000
set_option maxHeartbeats 4000000
variable {W:World} {S:Nat→Prop} {t:Fm} {g:Nat} {a:ByteArray} {T:TypeId} {m:Md} {v:Fv}

theorem Fv.fm_inj:∀(v v':Fv),v.ok→v'.ok→v.fm=v'.fm→v=v' := by
  intro v
  induction v with
  | tru =>
    intro v' h1 h2 h
    cases v' <;> simp only [Fv.fm,Fv.ok,Tree.mk.injEq,FmL.mk.injEq] at h h2 <;> first | rfl | (exfalso; omega)
  | pred n ws =>
    intro v' h1 h2 h
    cases v' <;> simp only [Fv.fm,Fv.ok,Tree.mk.injEq,FmL.mk.injEq] at h h2 <;> first | (obtain ⟨⟨_,rfl,rfl⟩,_⟩ := h; rfl) | (exfalso; omega)
  | same a b =>
    intro v' h1 h2 h
    cases v' <;> simp only [Fv.fm,Fv.ok,Tree.mk.injEq,FmL.mk.injEq] at h h2 <;> first | (exfalso; omega) | (obtain ⟨⟨_,_,h3⟩,_⟩ := h; simp at h3; obtain ⟨rfl,rfl⟩ := h3; rfl)
  | neg f ih =>
    intro v' h1 h2 h
    cases v' <;> simp only [Fv.fm,Fv.ok,Tree.mk.injEq,FmL.mk.injEq] at h h2 <;> first | (exfalso; omega) | (obtain ⟨_,h3⟩ := h; rw [ih _ h1 h2 (List.cons.inj h3).1])
  | bin k f g ihf ihg =>
    intro v' h1 h2 h
    have hk := h1.1
    cases v' <;> simp only [Fv.fm,Fv.ok,Tree.mk.injEq,FmL.mk.injEq] at h h2 <;> first | (exfalso; omega) | (obtain ⟨⟨h0,_,_⟩,h3⟩ := h; obtain ⟨h4,h5⟩ := List.cons.inj h3; rw [ihf _ h1.2.1 h2.2.1 h4,ihg _ h1.2.2 h2.2.2 (List.cons.inj h5).1,Int.ofNat_inj.1 h0])
  | qu k x f ih =>
    intro v' h1 h2 h
    have hk := h1.1
    cases v' <;> simp only [Fv.fm,Fv.ok,Tree.mk.injEq,FmL.mk.injEq] at h h2 <;> first | (exfalso; omega) | (obtain ⟨⟨h0,h6,_⟩,h3⟩ := h; rw [ih _ h1.2.2 h2.2.2 (List.cons.inj h3).1,h6,Int.ofNat_inj.1 h0])
theorem notT_any (kd:Int) (nm:ByteArray) (A:Option Addr) (n1 c1:Nat) (B:Option Addr) (n2 c2:Nat) (w:World):Calls Tryd.prog 14 #[.agg #[.int .i64 kd,.string nm,.slice A n1 c1,.slice B n2 c2]] w fun e w'=>∃g,e=.returned (.agg #[.int .i64 4,.string ⟨#[]⟩,.slice none 0 0,.slice (some ⟨g,0,none⟩) 1 1])∧w'.heap[g]? = some (.cells #[.int .i64 kd,.string nm,.slice A n1 c1,.slice B n2 c2] 29 (0,0))∧w.heap.size≤g∧Below w.heap.size w w' := by
  go_enter Tryd.func14,Tryd.ntmps14
  go_wp2_with fail
  refine bodyPost_ret (v := .agg #[.int .i64 4,.string ⟨#[]⟩,.slice none 0 0,.slice (some ⟨w.heap.size+1+1,0,none⟩) 1 1]) (by simp [results,Tryd.results14,go_sem]) rfl ?_
  exact ⟨_,rfl,heap_at (by simp),by omega,by go_grown⟩
theorem boundT_any (k:Int) (y:ByteArray) (kd:Int) (nm:ByteArray) (A:Option Addr) (n1 c1:Nat) (B:Option Addr) (n2 c2:Nat) (w:World):Calls Tryd.prog 8 #[.int .i64 k,.string y,.agg #[.int .i64 kd,.string nm,.slice A n1 c1,.slice B n2 c2]] w fun e w'=>∃g,e=.returned (.agg #[.int .i64 k,.string y,.slice none 0 0,.slice (some ⟨g,0,none⟩) 1 1])∧w'.heap[g]? = some (.cells #[.int .i64 kd,.string nm,.slice A n1 c1,.slice B n2 c2] 29 (0,0))∧w.heap.size≤g∧Below w.heap.size w w' := by
  go_enter Tryd.func8,Tryd.ntmps8
  go_wp2_with fail
  refine bodyPost_ret (v := .agg #[.int .i64 k,.string y,.slice none 0 0,.slice (some ⟨w.heap.size+1+1,0,none⟩) 1 1]) (by simp [results,Tryd.results8,go_sem]) rfl ?_
  exact ⟨_,rfl,heap_at (by simp),by omega,by go_grown⟩
theorem kid1_rep {k:Int} {x:ByteArray} {kd:Int} {nm:ByteArray} {A B:Option Addr} {n1 c1 n2 c2:Nat} (hx:x.size≤maxLen) (hr:fmRep.R W S t [.int .i64 kd,.string nm,.slice A n1 c1,.slice B n2 c2]) (hg:W.heap[g]? = some (.cells #[.int .i64 kd,.string nm,.slice A n1 c1,.slice B n2 c2] 29 (0,0))) (sg:S g):fmRep.R W S (.mk ⟨k,x,[]⟩ [t]) [.int .i64 k,.string x,.slice none 0 0,.slice (some ⟨g,0,none⟩) 1 1] := by
  refine Fm.shut (a := ⟨k,x,[]⟩) (l := [t]) hx Rep.Sl.nil ?_
  refine ⟨_,_,_,rfl,rfl,by decide,fun _=>⟨g,0,_,rfl,sg,Rep.All.single hr,fun j u hj=>?_⟩⟩
  rw [Nat.zero_add]
  match j,hj with
  | 0,hj=>exact (cellv hg 0 rfl).trans (by simpa using hj)
  | 1,hj=>exact (cellv hg 1 rfl).trans (by simpa using hj)
  | 2,hj=>exact (cellv hg 2 rfl).trans (by simpa using hj)
  | 3,hj=>exact (cellv hg 3 rfl).trans (by simpa using hj)
  | n+4,hj=>simp at hj
theorem slS1t {w:World} (hb:w.heap[g]? = some (.cells #[.string a] T (0,0))) (h1:a.size≤maxLen) (hg:S g):strRep.Sl w S (.slice (some ⟨g,0,none⟩) 1 1) [a] := by
  refine ⟨_,1,1,rfl,rfl,by simp [maxLen],fun _=>⟨g,0,[.string a],rfl,hg,⟨[.string a],[],rfl,⟨rfl,h1⟩,rfl⟩,fun j u hj=>?_⟩⟩
  rw [Nat.zero_add]
  match j,hj with
  | 0,hj=>exact (cellv hb 0 rfl).trans (by simpa using hj)
  | n+1,hj=>simp at hj
theorem dog_rep (ha:a.size≤maxLen) (hg:W.heap[g]? = some (.cells #[.string a] T (0,0))) (sg:S g):fmRep.R W S (Fv.pred bDog [a]).fm [.int .i64 2,.string bDog,.slice (some ⟨g,0,none⟩) 1 1,.slice none 0 0] :=
  Fm.shut (a := ⟨2,bDog,[a]⟩) (l := []) (show bDog.size≤maxLen from by decide +kernel) (slS1t hg ha sg) Rep.Sl.nil
theorem allC_of (h:∀c∈fmFrees [] t,(conV m c).isSome=true):allC m (fmConsts t)=true := by
  unfold allC
  rw [List.all_eq_true]
  intro c hc
  exact h c (mem_constsB.1 hc)
theorem fault_ok0 (hv:v.ok) (hn:v.nodes≤200) (hd:v.depth≤40):fmFault v.fm=(0,0) := by
  unfold fmFault
  rw [Fv.val_ok false v 1 0 hv (by omega) (by omega)]
theorem holdsC_zero (hm:(mdFault m).1=0) (hv:v.ok) (hn:v.nodes≤200) (hd:v.depth≤40) (h1:nestT v.fm≤5) (h2:∀c∈fmFrees [] v.fm,(conV m c).isSome=true) (h3:hasT m v.fm=true):holdsC m v.fm=(0,0) := by
  unfold holdsC
  rw [if_neg (by omega),if_neg (by rw [fault_ok0 hv hn hd]; simp)]
  unfold pairT
  rw [if_neg (by omega),if_neg (by rw [allC_of h2]; decide),if_neg (by rw [h3]; decide)]
theorem mdSmall_zero:(mdFault mdSmall).1=0 := by rw [mdSmall_ok]
def exAll:Fv := .qu 8 ⟨#[120]⟩ (.pred bDog [⟨#[120]⟩])
def exSomeNot:Fv := .qu 9 ⟨#[120]⟩ (.neg (.pred bDog [⟨#[120]⟩]))
theorem exAll_ok:exAll.ok := ⟨Or.inl rfl,by decide +kernel,by decide +kernel,by decide,by decide +kernel⟩
theorem exSomeNot_ok:exSomeNot.ok := ⟨Or.inr rfl,by decide +kernel,by decide +kernel,by decide,by decide +kernel⟩
theorem exAll_zero:holdsC mdSmall exAll.fm=(0,0) := holdsC_zero mdSmall_zero exAll_ok (by decide) (by decide) (by decide +kernel) (by decide +kernel) (by decide +kernel)
theorem exSomeNot_zero:holdsC mdSmall exSomeNot.fm=(0,0) := holdsC_zero mdSmall_zero exSomeNot_ok (by decide) (by decide) (by decide +kernel) (by decide +kernel) (by decide +kernel)
theorem exAll_eval:evalF mdSmall exAll []=true := by decide +kernel
theorem exSomeNot_eval:evalF mdSmall exSomeNot []=false := by decide +kernel
theorem holds_good {bb:Bool} (hz:holdsC m v.fm=(0,0)) (hok:v.ok) (he:evalF m v []=bb) (ms cs:List Value) (W:World) (S:Nat→Prop) (hm:m.In W S ms) (ht:fmRep.R W S v.fm cs) (hS:∀b,S b→b<W.heap.size):Calls Tryd.prog 13 #[.agg ms.toArray,.agg cs.toArray] W fun e w'=>e=.returned (.tuple #[.bool bb,.agg #[.int .i64 0,.int .i64 0]])∧Below W.heap.size W w' := by
  refine (holds_any m v.fm ms cs W S ht hm hS).mono ?_
  rintro e w' ⟨b,rfl,_,h2,hb⟩
  obtain ⟨v',e1,ok',_,_,rfl⟩ := h2 (by rw [hz])
  obtain rfl := Fv.fm_inj v v' hok ok' e1
  rw [hz,he]
  exact ⟨rfl,hb⟩
theorem holdsC_snd (h:(holdsC m t).1=0):holdsC m t=(0,0) := by
  unfold holdsC at h ⊢
  split at h
  · rename_i h1; exact absurd h (by simp; omega)
  rename_i h1
  rw [if_neg h1]
  split at h
  · rename_i h2; exact absurd h (by simp; omega)
  rename_i h2
  rw [if_neg h2]
  exact (pairT_zero h).1
theorem holdsC_ok (h:(holdsC m t).1=0):(mdFault m).1=0∧(fmFault t).1=0∧(pairT m t).1=0 := by
  unfold holdsC at h
  split at h
  · rename_i h1; exact absurd h (by simp; omega)
  rename_i h1
  split at h
  · rename_i h2; exact absurd h (by simp; omega)
  rename_i h2
  exact ⟨by omega,by omega,h⟩
open Classical in
def holdsB (m:Md) (t:Fm):Bool := if (holdsC m t).1=0 then (if h:∃v:Fv,t=v.fm∧v.ok then evalF m h.choose [] else false) else false
theorem holdsB_bad (h:(holdsC m t).1≠0):holdsB m t=false := if_neg h
theorem holdsB_good (h:(holdsC m v.fm).1=0) (hv:v.ok):holdsB m v.fm=evalF m v [] := by
  unfold holdsB
  have hx:∃v':Fv,v.fm=v'.fm∧v'.ok := ⟨v,rfl,hv⟩
  rw [if_pos h,dif_pos hx]
  have h2 := hx.choose_spec
  rw [← Fv.fm_inj v hx.choose hv h2.2 h2.1]
theorem holdsB_any (m:Md) (t:Fm) (ms cs:List Value) (w:World) (S:Nat→Prop) (ht:fmRep.R w S t cs) (hm:m.In w S ms) (hS:∀b,S b→b<w.heap.size) :
    Calls Tryd.prog 13 #[.agg ms.toArray,.agg cs.toArray] w fun e w'=>e=.returned (.tuple #[.bool (holdsB m t),.agg #[.int .i64 (holdsC m t).1,.int .i64 (holdsC m t).2]])∧Below w.heap.size w w' := by
  refine (holds_any m t ms cs w S ht hm hS).mono ?_
  rintro e w' ⟨b,rfl,h1,h2,hb⟩
  refine ⟨?_,hb⟩
  by_cases h:(holdsC m t).1=0
  · obtain ⟨v,rfl,ov,_,_,rfl⟩ := h2 h
    rw [holdsB_good h ov]
  · rw [holdsB_bad h,h1 h]
end

end Go.Proofs.YthfokmjpbnfihaaDoor
