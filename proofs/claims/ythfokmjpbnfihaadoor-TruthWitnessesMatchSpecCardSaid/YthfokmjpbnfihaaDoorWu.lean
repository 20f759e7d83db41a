/- Lemmas. -/
import Derived.Test.YthfokmjpbnfihaaDoorWr
import Derived.Test.YthfokmjpbnfihaaDoorWt
import Derived.Test.YthfokmjpbnfihaaDoorWi
import Derived.Deep.OwnRows
namespace Go.Proofs.YthfokmjpbnfihaaDoor
open Go Go.RowKit
set_option linter.unusedSimpArgs false
set_option linter.unusedVariables false
noncomputable section
set_option maxRecDepth 100000
set_option maxHeartbeats 4000000
variable {w:World} {S:Nat→Prop}

theorem wp_thenF {P:Program} {c:Code} {K:Act→World→Prop} {Q:Exit→Act→World→Prop} {a:Act} (h:Code.wp P c (Exit.then K (fun _ _ _=>False)) a w):Code.wp P c (Exit.then K Q) a w :=
  Code.wp_mono (fun e a' w' hh=>by cases e with | normal=>exact hh | _=>exact hh.elim) h
theorem envVals_snoc (e:List (ByteArray × Int)) (x:ByteArray) (z:Int):envVals (e++[(x,z)])=envVals e++[.string x,.int .i64 z] := by
  unfold envVals
  rw [List.flatMap_append]; rfl
theorem envAll:∀e:List (ByteArray × Int),envRep.All w S e (envVals e)
  | []=>rfl
  | p :: e=>⟨[.string p.1,.int .i64 p.2],envVals e,rfl,rfl,envAll e⟩
theorem envAll_eq:∀{e:List (ByteArray × Int)} {xs:List Value},envRep.All w S e xs→xs=envVals e
  | [],xs,h=>h
  | p :: e,xs,h=>by
    obtain ⟨cs,rest,rfl,h1,h2⟩ := h
    rw [envAll_eq h2]
    obtain rfl:cs=[.string p.1,.int .i64 p.2] := h1
    rfl
theorem value_tru (m:Md) (hg:m.good) {Am Bm:Option Addr} {cm dm:Nat}:∀(env:List (ByteArray × Int)) (cs:List Value) (w:World) (S:Nat→Prop) (De:Option Addr) (me ee:Nat),env.length+Fv.nodes (.tru)≤1000→fmRep.R w S (Fv.fm (.tru)) cs→envRep.Sl w S (.slice De me ee) env→(env=[]→De=none)→me≤ee→m.In w S [.int .i64 m.sz,.slice Am m.cs.length cm,.slice Bm m.rs.length dm]→(∀b,S b→b<w.heap.size)→Calls Tryd.prog 23 #[.agg #[.int .i64 m.sz,.slice Am m.cs.length cm,.slice Bm m.rs.length dm],.agg cs.toArray,.slice De me ee] w fun e w'=>e=.returned (.bool (evalF m (.tru) env))∧Below w.heap.size w w' := by
  intro env cs w S De me ee hlen ht he he0 hme hm hS
  change fmRep.R w S (.mk ⟨1,⟨#[]⟩,[]⟩ []) cs at ht
  generalize hkd:(1:Int)=kd at ht
  generalize hnme:(⟨#[]⟩:ByteArray)=nm at ht
  obtain ⟨u,v9,rfl,hnm,hw,hl⟩ := Fm.open_ ht
  simp only at hw hnm
  obtain ⟨A,n1,c1,rfl,e1,hm1,_⟩ := id hw
  obtain ⟨B,n2,c2,rfl,e2,hm2,_⟩ := id hl
  go_enter Tryd.func23,Tryd.ntmps23
  refine wp_seq ?_
  refine vl_r0_wp (fun a0 h0=>?_) _ (by exact fR rfl rfl rfl)
  refine gen_last (fun wx=>wx.heap[w.heap.size]?=some (.cells #[.int .i64 m.sz,.slice Am m.cs.length cm,.slice Bm m.rs.length dm] 25 (0,0))∧wx.heap[w.heap.size+1]?=some (.cells #[.int .i64 kd,.string nm,.slice A n1 c1,.slice B n2 c2] 29 (0,0))∧wx.heap[w.heap.size+1+1]?=some (.cells #[.slice De me ee] 62 (0,0))∧Below w.heap.size w wx) ⟨heap_old (by simp; omega) (heap_old (by simp) (heap_at rfl)),heap_old (by simp) (heap_at (by simp)),heap_at (by simp),by go_grown⟩ ?_
  rintro wy ⟨hmy,hay,hey,hby⟩
  have hbys := hby.size
  have hgyl := lt_heap hey
  have hkeep:∀W:World,Below wy.heap.size wy W→∀k,S k→W.heap[k]?=w.heap[k]? := fun W hb k hk=>(hb.block k (by have := hS k hk; omega)).trans (hby.block k (hS k hk))
  have hlt:∀W:World,Below wy.heap.size wy W→∀k,S k→k<W.heap.size := fun W hb k hk=>by have := hS k hk; have := hb.size; omega
  refine wp_seq ?_
  refine vl_r1_wp (fun a1 h1=>?_) a0 h0
  refine wp_seq ?_
  refine wp_seq ?_
  refine vl_r2_wp hay (fun a2 h2=>?_) a1 h1
  refine wp_block ?_
  refine wp_seq ?_
  refine vl_r3_wp (fun a3 h3=>?_) a2 (h2.pick [0,1,2,3,4])
  have q1:kd=1 := by omega
  refine wp_cond_true ((h3.eval (k := 19) (v := .bool (decide (kd=1))) (by simp)).trans (by rw [decide_eq_true q1])) ?_
  refine wp_seq ?_
  refine vl_r4_wp (fun a9 h9=>?_) a3 (h3.pick [0,1,2,3])
  refine wp_ret ?_
  repeat (first | refine thenR ?_ | refine inBlockR ?_)
  refine vl_ret_wp (bb := true) ⟨rfl,hby⟩ a9 h9
theorem value_neg (m:Md) (hg:m.good) {Am Bm:Option Addr} {cm dm:Nat} {f:Fv} (hok:f.ok) (hrel:hasRels m f=true) (ihf:Fv.ok f→hasRels m f=true→∀(env:List (ByteArray × Int)) (cs:List Value) (w:World) (S:Nat→Prop) (De:Option Addr) (me ee:Nat),env.length+Fv.nodes (f)≤1000→fmRep.R w S (Fv.fm (f)) cs→envRep.Sl w S (.slice De me ee) env→(env=[]→De=none)→me≤ee→m.In w S [.int .i64 m.sz,.slice Am m.cs.length cm,.slice Bm m.rs.length dm]→(∀b,S b→b<w.heap.size)→Calls Tryd.prog 23 #[.agg #[.int .i64 m.sz,.slice Am m.cs.length cm,.slice Bm m.rs.length dm],.agg cs.toArray,.slice De me ee] w fun e w'=>e=.returned (.bool (evalF m (f) env))∧Below w.heap.size w w'):∀(env:List (ByteArray × Int)) (cs:List Value) (w:World) (S:Nat→Prop) (De:Option Addr) (me ee:Nat),env.length+Fv.nodes (.neg f)≤1000→fmRep.R w S (Fv.fm (.neg f)) cs→envRep.Sl w S (.slice De me ee) env→(env=[]→De=none)→me≤ee→m.In w S [.int .i64 m.sz,.slice Am m.cs.length cm,.slice Bm m.rs.length dm]→(∀b,S b→b<w.heap.size)→Calls Tryd.prog 23 #[.agg #[.int .i64 m.sz,.slice Am m.cs.length cm,.slice Bm m.rs.length dm],.agg cs.toArray,.slice De me ee] w fun e w'=>e=.returned (.bool (evalF m (.neg f) env))∧Below w.heap.size w w' := by
  intro env cs w S De me ee hlen ht he he0 hme hm hS
  change fmRep.R w S (.mk ⟨4,⟨#[]⟩,[]⟩ [f.fm]) cs at ht
  generalize hkd:(4:Int)=kd at ht
  generalize hnme:(⟨#[]⟩:ByteArray)=nm at ht
  obtain ⟨u,v9,rfl,hnm,hw,hl⟩ := Fm.open_ ht
  simp only at hw hnm
  obtain ⟨A,n1,c1,rfl,e1,hm1,_⟩ := id hw
  obtain ⟨B,n2,c2,rfl,e2,hm2,_⟩ := id hl
  go_enter Tryd.func23,Tryd.ntmps23
  refine wp_seq ?_
  refine vl_r0_wp (fun a0 h0=>?_) _ (by exact fR rfl rfl rfl)
  refine gen_last (fun wx=>wx.heap[w.heap.size]?=some (.cells #[.int .i64 m.sz,.slice Am m.cs.length cm,.slice Bm m.rs.length dm] 25 (0,0))∧wx.heap[w.heap.size+1]?=some (.cells #[.int .i64 kd,.string nm,.slice A n1 c1,.slice B n2 c2] 29 (0,0))∧wx.heap[w.heap.size+1+1]?=some (.cells #[.slice De me ee] 62 (0,0))∧Below w.heap.size w wx) ⟨heap_old (by simp; omega) (heap_old (by simp) (heap_at rfl)),heap_old (by simp) (heap_at (by simp)),heap_at (by simp),by go_grown⟩ ?_
  rintro wy ⟨hmy,hay,hey,hby⟩
  have hbys := hby.size
  have hgyl := lt_heap hey
  have hkeep:∀W:World,Below wy.heap.size wy W→∀k,S k→W.heap[k]?=w.heap[k]? := fun W hb k hk=>(hb.block k (by have := hS k hk; omega)).trans (hby.block k (hS k hk))
  have hlt:∀W:World,Below wy.heap.size wy W→∀k,S k→k<W.heap.size := fun W hb k hk=>by have := hS k hk; have := hb.size; omega
  refine wp_seq ?_
  refine vl_r1_wp (fun a1 h1=>?_) a0 h0
  refine wp_seq ?_
  refine wp_seq ?_
  refine vl_r2_wp hay (fun a2 h2=>?_) a1 h1
  refine wp_block ?_
  simp only [Fv.nodes] at hlen
  obtain rfl:n2=1 := by simpa using e2.symm
  obtain ⟨b,o,cs1,rfl,hSb,hr1,hcc1⟩ := Rep.Sl.at_ hl (k := 0) (a := f.fm) rfl
  obtain ⟨Ae,n3,c3,Be,n4,c4,rfl,_,_,_,_⟩ := Fm.shape hr1
  have hbl:b<wy.heap.size := hlt wy (Below.refl _ _) b hSb
  have e0_0:wy.cell? ⟨b,o,none⟩=_ := (cell_keep (hkeep wy (Below.refl _ _) b hSb) _).trans (hcc1 0 _ rfl)
  have e0_1:wy.cell? ⟨b,o+1,none⟩=_ := (cell_keep (hkeep wy (Below.refl _ _) b hSb) _).trans (hcc1 1 _ rfl)
  have e0_2:wy.cell? ⟨b,o+2,none⟩=_ := (cell_keep (hkeep wy (Below.refl _ _) b hSb) _).trans (hcc1 2 _ rfl)
  have e0_3:wy.cell? ⟨b,o+3,none⟩=_ := (cell_keep (hkeep wy (Below.refl _ _) b hSb) _).trans (hcc1 3 _ rfl)
  have hih1:∀W:World,Below wy.heap.size wy W→Calls Tryd.prog 23 #[.agg #[.int .i64 m.sz,.slice Am m.cs.length cm,.slice Bm m.rs.length dm],_,.slice De me ee] W fun e w'=>e=.returned (.bool (evalF m f env))∧Below wy.heap.size wy w' := fun W hb=>(ihf hok hrel env _ W S _ _ _ (by omega) (fmRep.keep hr1 (hkeep W hb) (fun _ h=>h)) (he.keep (hkeep W hb) (fun _ h=>h)) he0 hme (hm.keep (hkeep W hb) (fun _ h=>h)) (hlt W hb)).mono (fun e w' h=>⟨h.1,hb.trans (h.2.mono hb.size)⟩)
  refine wp_seq ?_
  refine vl_r3_wp (fun a3 h3=>?_) a2 (h2.pick [0,1,2,3,4])
  have q1:¬ kd=1 := by omega
  refine wp_cond_false ((h3.eval (k := 19) (v := .bool (decide (kd=1))) (by simp)).trans (by rw [decide_eq_false q1])) ?_
  refine wp_seq ?_
  refine vl_r5_wp (fun a4 h4=>?_) a3 (h3.pick [0,1,2,3,4])
  have q2:¬ kd=2 := by omega
  refine wp_cond_false ((h4.eval (k := 21) (v := .bool (decide (kd=2))) (by simp)).trans (by rw [decide_eq_false q2])) ?_
  refine wp_seq ?_
  refine vl_r15_wp (fun a5 h5=>?_) a4 (h4.pick [0,1,2,3,4])
  have q3:¬ kd=3 := by omega
  refine wp_cond_false ((h5.eval (k := 54) (v := .bool (decide (kd=3))) (by simp)).trans (by rw [decide_eq_false q3])) ?_
  refine wp_seq ?_
  refine vl_r17_wp (fun a6 h6=>?_) a5 (h5.pick [0,1,2,3,4])
  have q4:kd=4 := by omega
  refine wp_cond_true ((h6.eval (k := 69) (v := .bool (decide (kd=4))) (by simp)).trans (by rw [decide_eq_true q4])) ?_
  refine wp_seq ?_
  refine wp_thenQ (vl_r18_wp hmy hay hey e0_0 e0_1 e0_2 e0_3 hbl hih1 (fun a9 w9 h9 hb9=>?_) a6 (h6.pick [0,1,2,3]))
  refine wp_ret ?_
  repeat (first | refine thenR ?_ | refine inBlockR ?_)
  refine vl_ret_wp (bb := _) ⟨rfl,hby.trans (hb9.mono hbys)⟩ a9 h9
theorem value_bin (m:Md) (hg:m.good) {Am Bm:Option Addr} {cm dm:Nat} {k:Nat} {f g:Fv} (hok:(Fv.bin k f g).ok) (hrel:hasRels m f=true∧hasRels m g=true) (ihf:Fv.ok f→hasRels m f=true→∀(env:List (ByteArray × Int)) (cs:List Value) (w:World) (S:Nat→Prop) (De:Option Addr) (me ee:Nat),env.length+Fv.nodes (f)≤1000→fmRep.R w S (Fv.fm (f)) cs→envRep.Sl w S (.slice De me ee) env→(env=[]→De=none)→me≤ee→m.In w S [.int .i64 m.sz,.slice Am m.cs.length cm,.slice Bm m.rs.length dm]→(∀b,S b→b<w.heap.size)→Calls Tryd.prog 23 #[.agg #[.int .i64 m.sz,.slice Am m.cs.length cm,.slice Bm m.rs.length dm],.agg cs.toArray,.slice De me ee] w fun e w'=>e=.returned (.bool (evalF m (f) env))∧Below w.heap.size w w') (ihg:Fv.ok g→hasRels m g=true→∀(env:List (ByteArray × Int)) (cs:List Value) (w:World) (S:Nat→Prop) (De:Option Addr) (me ee:Nat),env.length+Fv.nodes (g)≤1000→fmRep.R w S (Fv.fm (g)) cs→envRep.Sl w S (.slice De me ee) env→(env=[]→De=none)→me≤ee→m.In w S [.int .i64 m.sz,.slice Am m.cs.length cm,.slice Bm m.rs.length dm]→(∀b,S b→b<w.heap.size)→Calls Tryd.prog 23 #[.agg #[.int .i64 m.sz,.slice Am m.cs.length cm,.slice Bm m.rs.length dm],.agg cs.toArray,.slice De me ee] w fun e w'=>e=.returned (.bool (evalF m (g) env))∧Below w.heap.size w w'):∀(env:List (ByteArray × Int)) (cs:List Value) (w:World) (S:Nat→Prop) (De:Option Addr) (me ee:Nat),env.length+Fv.nodes (.bin k f g)≤1000→fmRep.R w S (Fv.fm (.bin k f g)) cs→envRep.Sl w S (.slice De me ee) env→(env=[]→De=none)→me≤ee→m.In w S [.int .i64 m.sz,.slice Am m.cs.length cm,.slice Bm m.rs.length dm]→(∀b,S b→b<w.heap.size)→Calls Tryd.prog 23 #[.agg #[.int .i64 m.sz,.slice Am m.cs.length cm,.slice Bm m.rs.length dm],.agg cs.toArray,.slice De me ee] w fun e w'=>e=.returned (.bool (evalF m (.bin k f g) env))∧Below w.heap.size w w' := by
  intro env cs w S De me ee hlen ht he he0 hme hm hS
  change fmRep.R w S (.mk ⟨(k:Int),⟨#[]⟩,[]⟩ [f.fm,g.fm]) cs at ht
  generalize hkd:((k:Int):Int)=kd at ht
  generalize hnme:(⟨#[]⟩:ByteArray)=nm at ht
  obtain ⟨u,v9,rfl,hnm,hw,hl⟩ := Fm.open_ ht
  simp only at hw hnm
  obtain ⟨A,n1,c1,rfl,e1,hm1,_⟩ := id hw
  obtain ⟨B,n2,c2,rfl,e2,hm2,_⟩ := id hl
  go_enter Tryd.func23,Tryd.ntmps23
  refine wp_seq ?_
  refine vl_r0_wp (fun a0 h0=>?_) _ (by exact fR rfl rfl rfl)
  refine gen_last (fun wx=>wx.heap[w.heap.size]?=some (.cells #[.int .i64 m.sz,.slice Am m.cs.length cm,.slice Bm m.rs.length dm] 25 (0,0))∧wx.heap[w.heap.size+1]?=some (.cells #[.int .i64 kd,.string nm,.slice A n1 c1,.slice B n2 c2] 29 (0,0))∧wx.heap[w.heap.size+1+1]?=some (.cells #[.slice De me ee] 62 (0,0))∧Below w.heap.size w wx) ⟨heap_old (by simp; omega) (heap_old (by simp) (heap_at rfl)),heap_old (by simp) (heap_at (by simp)),heap_at (by simp),by go_grown⟩ ?_
  rintro wy ⟨hmy,hay,hey,hby⟩
  have hbys := hby.size
  have hgyl := lt_heap hey
  have hkeep:∀W:World,Below wy.heap.size wy W→∀k,S k→W.heap[k]?=w.heap[k]? := fun W hb k hk=>(hb.block k (by have := hS k hk; omega)).trans (hby.block k (hS k hk))
  have hlt:∀W:World,Below wy.heap.size wy W→∀k,S k→k<W.heap.size := fun W hb k hk=>by have := hS k hk; have := hb.size; omega
  refine wp_seq ?_
  refine vl_r1_wp (fun a1 h1=>?_) a0 h0
  refine wp_seq ?_
  refine wp_seq ?_
  refine vl_r2_wp hay (fun a2 h2=>?_) a1 h1
  refine wp_block ?_
  simp only [Fv.nodes] at hlen
  obtain rfl:n2=2 := by simpa using e2.symm
  obtain ⟨b,o,cs1,rfl,hSb,hr1,hcc1⟩ := Rep.Sl.at_ hl (k := 0) (a := f.fm) rfl
  obtain ⟨b',o',cs2,e9,_,hr2,hcc2⟩ := Rep.Sl.at_ hl (k := 1) (a := g.fm) rfl
  simp only [Option.some.injEq,Addr.mk.injEq] at e9
  obtain ⟨rfl,rfl,_⟩ := e9
  obtain ⟨Ae,n3,c3,Be,n4,c4,rfl,_,_,_,_⟩ := Fm.shape hr1
  obtain ⟨Af,n5,c5,Bf,n6,c6,rfl,_,_,_,_⟩ := Fm.shape hr2
  have hbl:b<wy.heap.size := hlt wy (Below.refl _ _) b hSb
  have e0_0:wy.cell? ⟨b,o,none⟩=_ := (cell_keep (hkeep wy (Below.refl _ _) b hSb) _).trans (hcc1 0 _ rfl)
  have e0_1:wy.cell? ⟨b,o+1,none⟩=_ := (cell_keep (hkeep wy (Below.refl _ _) b hSb) _).trans (hcc1 1 _ rfl)
  have e0_2:wy.cell? ⟨b,o+2,none⟩=_ := (cell_keep (hkeep wy (Below.refl _ _) b hSb) _).trans (hcc1 2 _ rfl)
  have e0_3:wy.cell? ⟨b,o+3,none⟩=_ := (cell_keep (hkeep wy (Below.refl _ _) b hSb) _).trans (hcc1 3 _ rfl)
  have e1_0:wy.cell? ⟨b,o+4,none⟩=_ := (cell_keep (hkeep wy (Below.refl _ _) b hSb) _).trans (hcc2 0 _ rfl)
  have e1_1:wy.cell? ⟨b,o+5,none⟩=_ := (cell_keep (hkeep wy (Below.refl _ _) b hSb) _).trans (hcc2 1 _ rfl)
  have e1_2:wy.cell? ⟨b,o+6,none⟩=_ := (cell_keep (hkeep wy (Below.refl _ _) b hSb) _).trans (hcc2 2 _ rfl)
  have e1_3:wy.cell? ⟨b,o+7,none⟩=_ := (cell_keep (hkeep wy (Below.refl _ _) b hSb) _).trans (hcc2 3 _ rfl)
  have hih1:∀W:World,Below wy.heap.size wy W→Calls Tryd.prog 23 #[.agg #[.int .i64 m.sz,.slice Am m.cs.length cm,.slice Bm m.rs.length dm],_,.slice De me ee] W fun e w'=>e=.returned (.bool (evalF m f env))∧Below wy.heap.size wy w' := fun W hb=>(ihf hok.2.1 hrel.1 env _ W S _ _ _ (by omega) (fmRep.keep hr1 (hkeep W hb) (fun _ h=>h)) (he.keep (hkeep W hb) (fun _ h=>h)) he0 hme (hm.keep (hkeep W hb) (fun _ h=>h)) (hlt W hb)).mono (fun e w' h=>⟨h.1,hb.trans (h.2.mono hb.size)⟩)
  have hih2:∀W:World,Below wy.heap.size wy W→Calls Tryd.prog 23 #[.agg #[.int .i64 m.sz,.slice Am m.cs.length cm,.slice Bm m.rs.length dm],_,.slice De me ee] W fun e w'=>e=.returned (.bool (evalF m g env))∧Below wy.heap.size wy w' := fun W hb=>(ihg hok.2.2 hrel.2 env _ W S _ _ _ (by omega) (fmRep.keep hr2 (hkeep W hb) (fun _ h=>h)) (he.keep (hkeep W hb) (fun _ h=>h)) he0 hme (hm.keep (hkeep W hb) (fun _ h=>h)) (hlt W hb)).mono (fun e w' h=>⟨h.1,hb.trans (h.2.mono hb.size)⟩)
  have hk := hok.1
  rcases hk with rfl | rfl | rfl
  · refine wp_seq ?_
    refine vl_r3_wp (fun a3 h3=>?_) a2 (h2.pick [0,1,2,3,4])
    have q1:¬ kd=1 := by omega
    refine wp_cond_false ((h3.eval (k := 19) (v := .bool (decide (kd=1))) (by simp)).trans (by rw [decide_eq_false q1])) ?_
    refine wp_seq ?_
    refine vl_r5_wp (fun a4 h4=>?_) a3 (h3.pick [0,1,2,3,4])
    have q2:¬ kd=2 := by omega
    refine wp_cond_false ((h4.eval (k := 21) (v := .bool (decide (kd=2))) (by simp)).trans (by rw [decide_eq_false q2])) ?_
    refine wp_seq ?_
    refine vl_r15_wp (fun a5 h5=>?_) a4 (h4.pick [0,1,2,3,4])
    have q3:¬ kd=3 := by omega
    refine wp_cond_false ((h5.eval (k := 54) (v := .bool (decide (kd=3))) (by simp)).trans (by rw [decide_eq_false q3])) ?_
    refine wp_seq ?_
    refine vl_r17_wp (fun a6 h6=>?_) a5 (h5.pick [0,1,2,3,4])
    have q4:¬ kd=4 := by omega
    refine wp_cond_false ((h6.eval (k := 69) (v := .bool (decide (kd=4))) (by simp)).trans (by rw [decide_eq_false q4])) ?_
    refine wp_seq ?_
    refine vl_r19_wp (fun a7 h7=>?_) a6 (h6.pick [0,1,2,3,4])
    have q5:kd=5 := by omega
    refine wp_cond_true ((h7.eval (k := 79) (v := .bool (decide (kd=5))) (by simp)).trans (by rw [decide_eq_true q5])) ?_
    refine wp_seq ?_
    refine wp_thenQ (vl_r20_wp hmy hay hey e0_0 e0_1 e0_2 e0_3 e1_0 e1_1 e1_2 e1_3 hbl hih1 hih2 (fun a9 w9 h9 hb9=>?_) a7 (h7.pick [0,1,2,3]))
    refine wp_ret ?_
    repeat (first | refine thenR ?_ | refine inBlockR ?_)
    refine vl_ret_wp (bb := _) ⟨by simp [evalF],hby.trans (hb9.mono hbys)⟩ a9 h9
  · refine wp_seq ?_
    refine vl_r3_wp (fun a3 h3=>?_) a2 (h2.pick [0,1,2,3,4])
    have q1:¬ kd=1 := by omega
    refine wp_cond_false ((h3.eval (k := 19) (v := .bool (decide (kd=1))) (by simp)).trans (by rw [decide_eq_false q1])) ?_
    refine wp_seq ?_
    refine vl_r5_wp (fun a4 h4=>?_) a3 (h3.pick [0,1,2,3,4])
    have q2:¬ kd=2 := by omega
    refine wp_cond_false ((h4.eval (k := 21) (v := .bool (decide (kd=2))) (by simp)).trans (by rw [decide_eq_false q2])) ?_
    refine wp_seq ?_
    refine vl_r15_wp (fun a5 h5=>?_) a4 (h4.pick [0,1,2,3,4])
    have q3:¬ kd=3 := by omega
    refine wp_cond_false ((h5.eval (k := 54) (v := .bool (decide (kd=3))) (by simp)).trans (by rw [decide_eq_false q3])) ?_
    refine wp_seq ?_
    refine vl_r17_wp (fun a6 h6=>?_) a5 (h5.pick [0,1,2,3,4])
    have q4:¬ kd=4 := by omega
    refine wp_cond_false ((h6.eval (k := 69) (v := .bool (decide (kd=4))) (by simp)).trans (by rw [decide_eq_false q4])) ?_
    refine wp_seq ?_
    refine vl_r19_wp (fun a7 h7=>?_) a6 (h6.pick [0,1,2,3,4])
    have q5:¬ kd=5 := by omega
    refine wp_cond_false ((h7.eval (k := 79) (v := .bool (decide (kd=5))) (by simp)).trans (by rw [decide_eq_false q5])) ?_
    refine wp_seq ?_
    refine vl_r21_wp (fun a8 h8=>?_) a7 (h7.pick [0,1,2,3,4])
    have q6:kd=6 := by omega
    refine wp_cond_true ((h8.eval (k := 97) (v := .bool (decide (kd=6))) (by simp)).trans (by rw [decide_eq_true q6])) ?_
    refine wp_seq ?_
    refine wp_thenQ (vl_r22_wp hmy hay hey e0_0 e0_1 e0_2 e0_3 e1_0 e1_1 e1_2 e1_3 hbl hih1 hih2 (fun a9 w9 h9 hb9=>?_) a8 (h8.pick [0,1,2,3]))
    refine wp_ret ?_
    repeat (first | refine thenR ?_ | refine inBlockR ?_)
    refine vl_ret_wp (bb := _) ⟨by simp [evalF],hby.trans (hb9.mono hbys)⟩ a9 h9
  · refine wp_seq ?_
    refine vl_r3_wp (fun a3 h3=>?_) a2 (h2.pick [0,1,2,3,4])
    have q1:¬ kd=1 := by omega
    refine wp_cond_false ((h3.eval (k := 19) (v := .bool (decide (kd=1))) (by simp)).trans (by rw [decide_eq_false q1])) ?_
    refine wp_seq ?_
    refine vl_r5_wp (fun a4 h4=>?_) a3 (h3.pick [0,1,2,3,4])
    have q2:¬ kd=2 := by omega
    refine wp_cond_false ((h4.eval (k := 21) (v := .bool (decide (kd=2))) (by simp)).trans (by rw [decide_eq_false q2])) ?_
    refine wp_seq ?_
    refine vl_r15_wp (fun a5 h5=>?_) a4 (h4.pick [0,1,2,3,4])
    have q3:¬ kd=3 := by omega
    refine wp_cond_false ((h5.eval (k := 54) (v := .bool (decide (kd=3))) (by simp)).trans (by rw [decide_eq_false q3])) ?_
    refine wp_seq ?_
    refine vl_r17_wp (fun a6 h6=>?_) a5 (h5.pick [0,1,2,3,4])
    have q4:¬ kd=4 := by omega
    refine wp_cond_false ((h6.eval (k := 69) (v := .bool (decide (kd=4))) (by simp)).trans (by rw [decide_eq_false q4])) ?_
    refine wp_seq ?_
    refine vl_r19_wp (fun a7 h7=>?_) a6 (h6.pick [0,1,2,3,4])
    have q5:¬ kd=5 := by omega
    refine wp_cond_false ((h7.eval (k := 79) (v := .bool (decide (kd=5))) (by simp)).trans (by rw [decide_eq_false q5])) ?_
    refine wp_seq ?_
    refine vl_r21_wp (fun a8 h8=>?_) a7 (h7.pick [0,1,2,3,4])
    have q6:¬ kd=6 := by omega
    refine wp_cond_false ((h8.eval (k := 97) (v := .bool (decide (kd=6))) (by simp)).trans (by rw [decide_eq_false q6])) ?_
    refine wp_seq ?_
    refine vl_r23_wp (fun a9 h9=>?_) a8 (h8.pick [0,1,2,3,4])
    have q7:kd=7 := by omega
    refine wp_cond_true ((h9.eval (k := 115) (v := .bool (decide (kd=7))) (by simp)).trans (by rw [decide_eq_true q7])) ?_
    refine wp_seq ?_
    refine wp_thenQ (vl_r24_wp hmy hay hey e0_0 e0_1 e0_2 e0_3 e1_0 e1_1 e1_2 e1_3 hbl hih1 hih2 (fun a9 w9 h9 hb9=>?_) a9 (h9.pick [0,1,2,3]))
    refine wp_ret ?_
    repeat (first | refine thenR ?_ | refine inBlockR ?_)
    refine vl_ret_wp (bb := _) ⟨by simp [evalF],hby.trans (hb9.mono hbys)⟩ a9 h9
theorem value_same (m:Md) (hg:m.good) {Am Bm:Option Addr} {cm dm:Nat} {x y:ByteArray}:∀(env:List (ByteArray × Int)) (cs:List Value) (w:World) (S:Nat→Prop) (De:Option Addr) (me ee:Nat),env.length+Fv.nodes (.same x y)≤1000→fmRep.R w S (Fv.fm (.same x y)) cs→envRep.Sl w S (.slice De me ee) env→(env=[]→De=none)→me≤ee→m.In w S [.int .i64 m.sz,.slice Am m.cs.length cm,.slice Bm m.rs.length dm]→(∀b,S b→b<w.heap.size)→Calls Tryd.prog 23 #[.agg #[.int .i64 m.sz,.slice Am m.cs.length cm,.slice Bm m.rs.length dm],.agg cs.toArray,.slice De me ee] w fun e w'=>e=.returned (.bool (evalF m (.same x y) env))∧Below w.heap.size w w' := by
  intro env cs w S De me ee hlen ht he he0 hme hm hS
  change fmRep.R w S (.mk ⟨3,⟨#[]⟩,[x,y]⟩ []) cs at ht
  generalize hkd:(3:Int)=kd at ht
  generalize hnme:(⟨#[]⟩:ByteArray)=nm at ht
  obtain ⟨u,v9,rfl,hnm,hw,hl⟩ := Fm.open_ ht
  simp only at hw hnm
  obtain ⟨A,n1,c1,rfl,e1,hm1,_⟩ := id hw
  obtain ⟨B,n2,c2,rfl,e2,hm2,_⟩ := id hl
  go_enter Tryd.func23,Tryd.ntmps23
  refine wp_seq ?_
  refine vl_r0_wp (fun a0 h0=>?_) _ (by exact fR rfl rfl rfl)
  refine gen_last (fun wx=>wx.heap[w.heap.size]?=some (.cells #[.int .i64 m.sz,.slice Am m.cs.length cm,.slice Bm m.rs.length dm] 25 (0,0))∧wx.heap[w.heap.size+1]?=some (.cells #[.int .i64 kd,.string nm,.slice A n1 c1,.slice B n2 c2] 29 (0,0))∧wx.heap[w.heap.size+1+1]?=some (.cells #[.slice De me ee] 62 (0,0))∧Below w.heap.size w wx) ⟨heap_old (by simp; omega) (heap_old (by simp) (heap_at rfl)),heap_old (by simp) (heap_at (by simp)),heap_at (by simp),by go_grown⟩ ?_
  rintro wy ⟨hmy,hay,hey,hby⟩
  have hbys := hby.size
  have hgyl := lt_heap hey
  have hkeep:∀W:World,Below wy.heap.size wy W→∀k,S k→W.heap[k]?=w.heap[k]? := fun W hb k hk=>(hb.block k (by have := hS k hk; omega)).trans (hby.block k (hS k hk))
  have hlt:∀W:World,Below wy.heap.size wy W→∀k,S k→k<W.heap.size := fun W hb k hk=>by have := hS k hk; have := hb.size; omega
  refine wp_seq ?_
  refine vl_r1_wp (fun a1 h1=>?_) a0 h0
  refine wp_seq ?_
  refine wp_seq ?_
  refine vl_r2_wp hay (fun a2 h2=>?_) a1 h1
  refine wp_block ?_
  obtain rfl:n1=2 := by simpa using e1.symm
  obtain ⟨b,o,cs1,rfl,hSb,⟨rfl,_⟩,hcc1⟩ := Rep.Sl.at_ hw (k := 0) (a := x) rfl
  obtain ⟨b',o',cs2,e9,_,⟨rfl,_⟩,hcc2⟩ := Rep.Sl.at_ hw (k := 1) (a := y) rfl
  simp only [Option.some.injEq,Addr.mk.injEq] at e9
  obtain ⟨rfl,rfl,_⟩ := e9
  have hbl:b<wy.heap.size := hlt wy (Below.refl _ _) b hSb
  have e0_0:wy.cell? ⟨b,o,none⟩=_ := (cell_keep (hkeep wy (Below.refl _ _) b hSb) _).trans (hcc1 0 _ rfl)
  have e0_1:wy.cell? ⟨b,o+1,none⟩=_ := (cell_keep (hkeep wy (Below.refl _ _) b hSb) _).trans (hcc2 0 _ rfl)
  have hwd:∀(s:ByteArray) (W:World),Below wy.heap.size wy W→Calls Tryd.prog 41 #[.string s,.pointer (some ⟨(w.heap.size+1+1),0,none⟩),.pointer (some ⟨w.heap.size,0,none⟩)] W fun e w'=>e=.returned (.int .i64 (wordV m env s))∧Below wy.heap.size wy w' := fun s W hb=>(word_any m hg env s W S (he.keep (hkeep W hb) (fun _ h=>h)) (by omega) (hlt W hb) (hm.keep (hkeep W hb) (fun _ h=>h)) ((hb.block _ (lt_heap hey)).trans hey) ((hb.block _ (lt_heap hmy)).trans hmy)).mono (fun e w' h=>⟨h.1,hb.trans (h.2.mono hb.size)⟩)
  refine wp_seq ?_
  refine vl_r3_wp (fun a3 h3=>?_) a2 (h2.pick [0,1,2,3,4])
  have q1:¬ kd=1 := by omega
  refine wp_cond_false ((h3.eval (k := 19) (v := .bool (decide (kd=1))) (by simp)).trans (by rw [decide_eq_false q1])) ?_
  refine wp_seq ?_
  refine vl_r5_wp (fun a4 h4=>?_) a3 (h3.pick [0,1,2,3,4])
  have q2:¬ kd=2 := by omega
  refine wp_cond_false ((h4.eval (k := 21) (v := .bool (decide (kd=2))) (by simp)).trans (by rw [decide_eq_false q2])) ?_
  refine wp_seq ?_
  refine vl_r15_wp (fun a5 h5=>?_) a4 (h4.pick [0,1,2,3,4])
  have q3:kd=3 := by omega
  refine wp_cond_true ((h5.eval (k := 54) (v := .bool (decide (kd=3))) (by simp)).trans (by rw [decide_eq_true q3])) ?_
  refine wp_seq ?_
  refine wp_thenQ (vl_r16_wp hay e0_0 e0_1 hbl (hwd x) (hwd y) (fun a9 w9 h9 hb9=>?_) a5 (h5.pick [0,1,2,3]))
  refine wp_ret ?_
  repeat (first | refine thenR ?_ | refine inBlockR ?_)
  refine vl_ret_wp (bb := _) ⟨rfl,hby.trans (hb9.mono hbys)⟩ a9 h9
theorem value_pred (m:Md) (hg:m.good) {Am Bm:Option Addr} {cm dm:Nat} {n:ByteArray} {ws:List ByteArray} (hok:(Fv.pred n ws).ok) (hrel:(relV m n ws.length).isSome=true):∀(env:List (ByteArray × Int)) (cs:List Value) (w:World) (S:Nat→Prop) (De:Option Addr) (me ee:Nat),env.length+Fv.nodes (.pred n ws)≤1000→fmRep.R w S (Fv.fm (.pred n ws)) cs→envRep.Sl w S (.slice De me ee) env→(env=[]→De=none)→me≤ee→m.In w S [.int .i64 m.sz,.slice Am m.cs.length cm,.slice Bm m.rs.length dm]→(∀b,S b→b<w.heap.size)→Calls Tryd.prog 23 #[.agg #[.int .i64 m.sz,.slice Am m.cs.length cm,.slice Bm m.rs.length dm],.agg cs.toArray,.slice De me ee] w fun e w'=>e=.returned (.bool (evalF m (.pred n ws) env))∧Below w.heap.size w w' := by
  intro env cs w S De me ee hlen ht he he0 hme hm hS
  change fmRep.R w S (.mk ⟨2,n,ws⟩ []) cs at ht
  generalize hkd:(2:Int)=kd at ht
  generalize hnme:(n:ByteArray)=nm at ht
  obtain ⟨u,v9,rfl,hnm,hw,hl⟩ := Fm.open_ ht
  simp only at hw hnm
  obtain ⟨A,n1,c1,rfl,e1,hm1,_⟩ := id hw
  obtain ⟨B,n2,c2,rfl,e2,hm2,_⟩ := id hl
  go_enter Tryd.func23,Tryd.ntmps23
  refine wp_seq ?_
  refine vl_r0_wp (fun a0 h0=>?_) _ (by exact fR rfl rfl rfl)
  refine gen_last (fun wx=>wx.heap[w.heap.size]?=some (.cells #[.int .i64 m.sz,.slice Am m.cs.length cm,.slice Bm m.rs.length dm] 25 (0,0))∧wx.heap[w.heap.size+1]?=some (.cells #[.int .i64 kd,.string nm,.slice A n1 c1,.slice B n2 c2] 29 (0,0))∧wx.heap[w.heap.size+1+1]?=some (.cells #[.slice De me ee] 62 (0,0))∧Below w.heap.size w wx) ⟨heap_old (by simp; omega) (heap_old (by simp) (heap_at rfl)),heap_old (by simp) (heap_at (by simp)),heap_at (by simp),by go_grown⟩ ?_
  rintro wy ⟨hmy,hay,hey,hby⟩
  have hbys := hby.size
  have hgyl := lt_heap hey
  have hkeep:∀W:World,Below wy.heap.size wy W→∀k,S k→W.heap[k]?=w.heap[k]? := fun W hb k hk=>(hb.block k (by have := hS k hk; omega)).trans (hby.block k (hS k hk))
  have hlt:∀W:World,Below wy.heap.size wy W→∀k,S k→k<W.heap.size := fun W hb k hk=>by have := hS k hk; have := hb.size; omega
  refine wp_seq ?_
  refine vl_r1_wp (fun a1 h1=>?_) a0 h0
  refine wp_seq ?_
  refine wp_seq ?_
  refine vl_r2_wp hay (fun a2 h2=>?_) a1 h1
  refine wp_block ?_
  subst hnme
  have hwl := hok.2.1
  have hn1:n1=ws.length := by omega
  have hrow:∀(s:ByteArray) (W:World) (v':Value) (k:Nat) (xs:List Value),Below wy.heap.size wy W→W.ownsRow wy.heap.size 3 1 v' k xs→Calls Tryd.prog 41 #[.string s,.pointer (some ⟨(w.heap.size+1+1),0,none⟩),.pointer (some ⟨w.heap.size,0,none⟩)] W fun e w'=>e=.returned (.int .i64 (wordV m env s))∧Below wy.heap.size W w'∧w'.ownsRow wy.heap.size 3 1 v' k xs∧wy.heap.size≤w'.heap.size := fun s W v' k xs hb hr=>(word_any m hg env s W S (he.keep (hkeep W hb) (fun _ h=>h)) (by omega) (hlt W hb) (hm.keep (hkeep W hb) (fun _ h=>h)) ((hb.block _ (lt_heap hey)).trans hey) ((hb.block _ (lt_heap hmy)).trans hmy)).mono (fun e w' h=>⟨h.1,h.2.mono hb.size,own_keep hr h.2.block,by have := h.2.size; have := hb.size; omega⟩)
  refine wp_seq ?_
  refine vl_r3_wp (fun a3 h3=>?_) a2 (h2.pick [0,1,2,3,4])
  have q1:¬ kd=1 := by omega
  refine wp_cond_false ((h3.eval (k := 19) (v := .bool (decide (kd=1))) (by simp)).trans (by rw [decide_eq_false q1])) ?_
  refine wp_seq ?_
  refine vl_r5_wp (fun a4 h4=>?_) a3 (h3.pick [0,1,2,3,4])
  have q2:kd=2 := by omega
  refine wp_cond_true ((h4.eval (k := 21) (v := .bool (decide (kd=2))) (by simp)).trans (by rw [decide_eq_true q2])) ?_
  refine wp_seq ?_
  refine vl_r6_wp (fun a9 h9=>?_) a4 (h4.pick [0,1,2,3])
  refine wp_seq ?_
  refine wp_seq ?_
  refine vl_r7_wp hay (fun a10 h10=>?_) a9 h9
  refine wp_block ?_
  refine wp_loopR (fun g a' w'=>∃(j:Nat) (v':Value),j+g=ws.length∧w'.ownsRow wy.heap.size 3 1 v' j ((ws.take j).map (fun x=>.int .i64 (wordV m env x)))∧Below wy.heap.size wy w'∧Frm 168 [(3,.pointer (some ⟨w.heap.size,0,none⟩)),(4,.pointer (some ⟨(w.heap.size+1),0,none⟩)),(5,.pointer (some ⟨(w.heap.size+1+1),0,none⟩)),(7,.func (Fn.func 41) #[] #[.pointer (some ⟨(w.heap.size+1+1),0,none⟩),.pointer (some ⟨w.heap.size,0,none⟩)]),(8,v'),(24,.slice A n1 c1),(25,.int .i64 (n1:Nat)),(26,.int .i64 (j:Nat))] a') ws.length ⟨0,_,by omega,World.ownsRow_nil _ _ _ _,Below.refl _ _,h10⟩ ?_
  rintro g a11 w3 ⟨j,v',hjg,hr3,hb3,h11⟩
  have hb3s := hb3.size
  refine wp_seq ?_
  refine vl_r8_wp (fun a12 h12=>?_) a11 h11
  refine wp_seq ?_
  by_cases hj:j<n1
  case neg =>
    refine wp_cond_false ((h12.eval (k := 27) (v := .bool (decide (j<n1))) (by simp)).trans (by rw [decide_eq_false hj])) ?_
    refine wp_exit ?_
    repeat refine then_exit ?_
    refine inBlock_exit ?_
    show Code.wp _ _ _ a12 w3
    have hjl:j=ws.length := by omega
    rw [List.take_of_length_le (by omega)] at hr3
    obtain ⟨ts,hts⟩:∃ts,ws.map (wordV m env)=ts := ⟨_,rfl⟩
    have hr3':w3.ownsRow wy.heap.size 3 1 v' j (ts.map (.int .i64 ·)) := by
      rw [← hts,List.map_map]; exact hr3
    have htl:ts.length=ws.length := by rw [← hts,List.length_map]
    have hjt:j=ts.length := by omega
    clear hr3 hjl
    subst hjt
    obtain ⟨Dt,et,rfl,_⟩ := own_cap hr3'
    have hsl:zRep.Sl w3 (fun k=>k<w3.heap.size) (.slice Dt ts.length et) ts := sl_of_own hr3' (zAll ts) (by unfold maxLen; omega) (fun k hk=>(hr3'.lt k hk).2)
    have hrel':(relV m n ts.length).isSome=true := by rw [htl]; exact hrel
    obtain ⟨r,hr⟩ := Option.isSome_iff_exists.1 hrel'
    have hrm:r∈m.rs := List.mem_of_find?_eq_some hr
    have hay3 := (hb3.block _ (lt_heap hay)).trans hay
    have hmy3 := (hb3.block _ (lt_heap hmy)).trans hmy
    refine wp_seq ?_
    refine vl_r12_wp (bb := (relV m n ts.length).isSome) (X := fun p y D9 a9 b9=>∀r,relV m n ts.length=some r→p=r.nm∧y=r.ar∧intsRep.Sl w3 S (.slice D9 a9 b9) r.tp) hay3 hmy3 (find_any m n hnm ts.length _ w3 S (hm.keep (hkeep w3 hb3) (fun _ h=>h)) (hlt w3 hb3) hg) (fun rn ra D9 a9 b9 gx a13 w13 h13 hx13 hb13 hX=>?_) a12 (h12.pick [0,1,2,3,4])
    obtain ⟨rfl,rfl,hsr⟩ := hX r hr
    have hb13s := hb13.size
    have hcut := @hit_lt _ (fun u=>cmpL u ts) r.tp
    have hbs := br_any r.tp (fun u=>cmpL u ts) D9 a9 b9 (.slice Dt ts.length et) w13 S (hsr.keep (fun k hk=>hb13.block k (hlt w3 hb3 k hk)) (fun _ h=>h)) (fun k hk=>by have := hlt w3 hb3 k hk; omega) (Rel.few hg.sz (hg.rk r hrm)) (mono_cut (Rel.tup_cut (hg.rk r hrm) ts)) (fun W q hq es hes hbS hbW=>by
      obtain ⟨v9,rfl,hv9⟩ := hes
      obtain ⟨B9,d9,rfl,_⟩ := hv9.shape
      exact (cmpL_any _ ts B9 Dt d9 et W (fun _=>True) (hv9.keep (fun _ _=>rfl) (fun _ _=>trivial)) (hsl.keep (fun k hk=>(hbW.block k (by omega)).trans (hb13.block k hk)) (fun _ _=>trivial))).mono (fun e w' h=>⟨h.1,by rw [h.2]; exact Below.refl _ _⟩))
    refine wp_seq ?_
    refine vl_r13_wp hx13 hbs (fun a14 w14 h14 hb14=>?_) a13 (h13.pick [0,1,2,3,4,5])
    refine wp_seq ?_
    refine vl_r14_wp (fun a15 h15=>?_) a14 h14
    refine wp_ret ?_
    repeat (first | refine thenR ?_ | refine inBlockR ?_)
    refine vl_ret_wp (bb := _) ⟨?_,hby.trans ((hb3.trans ((hb13.trans (hb14.mono hb13s)).mono hb3s)).mono hbys)⟩ a15 h15
    show Ending.returned (.bool _)=.returned (.bool (predV m n (ws.map (wordV m env))))
    rw [hts,pred_hit hg hr hcut]
  refine wp_cond_true ((h12.eval (k := 27) (v := .bool (decide (j<n1))) (by simp)).trans (by rw [decide_eq_true hj])) ?_
  refine wp_skip ?_
  show Code.wp _ _ _ a12 w3
  have hjl:j<ws.length := by omega
  obtain ⟨b,o,cs1,rfl,hSb,⟨rfl,_⟩,hcc⟩ := Rep.Sl.at_ hw (List.getElem?_eq_getElem hjl)
  have hc0:w3.cell? ⟨b,o+j,none⟩=some (.string ws[j]) := (cell_keep (hkeep w3 hb3 b hSb) _).trans (by simpa [strRep] using hcc 0 _ rfl)
  obtain ⟨A9,c9,rfl,_⟩ := own_cap hr3
  refine wp_seq ?_
  refine wp_block ?_
  refine wp_seq ?_
  refine vl_r9_wp hj hc0 (hlt w3 hb3 b hSb) (fun a13 h13=>?_) a12 (h12.pick [0,1,2,3,4,5,6,7])
  refine vl_r10_wp (by omega) (hrow ws[j] w3 _ _ _ hb3 hr3) (fun v4 a14 w4 h14 hr4 hb4=>?_) a13 h13
  show Code.wp _ _ _ a14 w4
  refine vl_r11_wp hj (by unfold maxLen; omega) (fun a15 h15=>?_) a14 h14
  refine ⟨g - 1,by omega,j+1,v4,by omega,?_,hb3.trans hb4,h15⟩
  rw [List.take_succ_eq_append_getElem hjl,List.map_append]
  exact hr4
theorem value_qu (m:Md) (hg:m.good) {Am Bm:Option Addr} {cm dm:Nat} {k:Nat} {x:ByteArray} {f:Fv} (hok:(Fv.qu k x f).ok) (hrel:hasRels m f=true) (ihf:Fv.ok f→hasRels m f=true→∀(env:List (ByteArray × Int)) (cs:List Value) (w:World) (S:Nat→Prop) (De:Option Addr) (me ee:Nat),env.length+Fv.nodes (f)≤1000→fmRep.R w S (Fv.fm (f)) cs→envRep.Sl w S (.slice De me ee) env→(env=[]→De=none)→me≤ee→m.In w S [.int .i64 m.sz,.slice Am m.cs.length cm,.slice Bm m.rs.length dm]→(∀b,S b→b<w.heap.size)→Calls Tryd.prog 23 #[.agg #[.int .i64 m.sz,.slice Am m.cs.length cm,.slice Bm m.rs.length dm],.agg cs.toArray,.slice De me ee] w fun e w'=>e=.returned (.bool (evalF m (f) env))∧Below w.heap.size w w'):∀(env:List (ByteArray × Int)) (cs:List Value) (w:World) (S:Nat→Prop) (De:Option Addr) (me ee:Nat),env.length+Fv.nodes (.qu k x f)≤1000→fmRep.R w S (Fv.fm (.qu k x f)) cs→envRep.Sl w S (.slice De me ee) env→(env=[]→De=none)→me≤ee→m.In w S [.int .i64 m.sz,.slice Am m.cs.length cm,.slice Bm m.rs.length dm]→(∀b,S b→b<w.heap.size)→Calls Tryd.prog 23 #[.agg #[.int .i64 m.sz,.slice Am m.cs.length cm,.slice Bm m.rs.length dm],.agg cs.toArray,.slice De me ee] w fun e w'=>e=.returned (.bool (evalF m (.qu k x f) env))∧Below w.heap.size w w' := by
  intro env cs w S De me ee hlen ht he he0 hme hm hS
  change fmRep.R w S (.mk ⟨(k:Int),x,[]⟩ [f.fm]) cs at ht
  generalize hkd:((k:Int):Int)=kd at ht
  generalize hnme:(x:ByteArray)=nm at ht
  obtain ⟨u,v9,rfl,hnm,hw,hl⟩ := Fm.open_ ht
  simp only at hw hnm
  obtain ⟨A,n1,c1,rfl,e1,hm1,_⟩ := id hw
  obtain ⟨B,n2,c2,rfl,e2,hm2,_⟩ := id hl
  go_enter Tryd.func23,Tryd.ntmps23
  refine wp_seq ?_
  refine vl_r0_wp (fun a0 h0=>?_) _ (by exact fR rfl rfl rfl)
  refine gen_last (fun wx=>wx.heap[w.heap.size]?=some (.cells #[.int .i64 m.sz,.slice Am m.cs.length cm,.slice Bm m.rs.length dm] 25 (0,0))∧wx.heap[w.heap.size+1]?=some (.cells #[.int .i64 kd,.string nm,.slice A n1 c1,.slice B n2 c2] 29 (0,0))∧wx.heap[w.heap.size+1+1]?=some (.cells #[.slice De me ee] 62 (0,0))∧Below w.heap.size w wx) ⟨heap_old (by simp; omega) (heap_old (by simp) (heap_at rfl)),heap_old (by simp) (heap_at (by simp)),heap_at (by simp),by go_grown⟩ ?_
  rintro wy ⟨hmy,hay,hey,hby⟩
  have hbys := hby.size
  have hgyl := lt_heap hey
  have hkeep:∀W:World,Below wy.heap.size wy W→∀k,S k→W.heap[k]?=w.heap[k]? := fun W hb k hk=>(hb.block k (by have := hS k hk; omega)).trans (hby.block k (hS k hk))
  have hlt:∀W:World,Below wy.heap.size wy W→∀k,S k→k<W.heap.size := fun W hb k hk=>by have := hS k hk; have := hb.size; omega
  refine wp_seq ?_
  refine vl_r1_wp (fun a1 h1=>?_) a0 h0
  refine wp_seq ?_
  refine wp_seq ?_
  refine vl_r2_wp hay (fun a2 h2=>?_) a1 h1
  refine wp_block ?_
  simp only [Fv.nodes] at hlen
  subst hnme
  have hk := hok.1
  obtain rfl:n2=1 := by simpa using e2.symm
  obtain ⟨b,o,cs1,rfl,hSb,hr1,hcc1⟩ := Rep.Sl.at_ hl (k := 0) (a := f.fm) rfl
  obtain ⟨Ae,n3,c3,Be,n4,c4,rfl,_,_,_,_⟩ := Fm.shape hr1
  have hbl:b<wy.heap.size := hlt wy (Below.refl _ _) b hSb
  refine wp_seq ?_
  refine vl_r3_wp (fun a3 h3=>?_) a2 (h2.pick [0,1,2,3,4])
  have q1:¬ kd=1 := by omega
  refine wp_cond_false ((h3.eval (k := 19) (v := .bool (decide (kd=1))) (by simp)).trans (by rw [decide_eq_false q1])) ?_
  refine wp_seq ?_
  refine vl_r5_wp (fun a4 h4=>?_) a3 (h3.pick [0,1,2,3,4])
  have q2:¬ kd=2 := by omega
  refine wp_cond_false ((h4.eval (k := 21) (v := .bool (decide (kd=2))) (by simp)).trans (by rw [decide_eq_false q2])) ?_
  refine wp_seq ?_
  refine vl_r15_wp (fun a5 h5=>?_) a4 (h4.pick [0,1,2,3,4])
  have q3:¬ kd=3 := by omega
  refine wp_cond_false ((h5.eval (k := 54) (v := .bool (decide (kd=3))) (by simp)).trans (by rw [decide_eq_false q3])) ?_
  refine wp_seq ?_
  refine vl_r17_wp (fun a6 h6=>?_) a5 (h5.pick [0,1,2,3,4])
  have q4:¬ kd=4 := by omega
  refine wp_cond_false ((h6.eval (k := 69) (v := .bool (decide (kd=4))) (by simp)).trans (by rw [decide_eq_false q4])) ?_
  refine wp_seq ?_
  refine vl_r19_wp (fun a7 h7=>?_) a6 (h6.pick [0,1,2,3,4])
  have q5:¬ kd=5 := by omega
  refine wp_cond_false ((h7.eval (k := 79) (v := .bool (decide (kd=5))) (by simp)).trans (by rw [decide_eq_false q5])) ?_
  refine wp_seq ?_
  refine vl_r21_wp (fun a8 h8=>?_) a7 (h7.pick [0,1,2,3,4])
  have q6:¬ kd=6 := by omega
  refine wp_cond_false ((h8.eval (k := 97) (v := .bool (decide (kd=6))) (by simp)).trans (by rw [decide_eq_false q6])) ?_
  refine wp_seq ?_
  refine vl_r23_wp (fun a9 h9=>?_) a8 (h8.pick [0,1,2,3,4])
  have q7:¬ kd=7 := by omega
  refine wp_cond_false ((h9.eval (k := 115) (v := .bool (decide (kd=7))) (by simp)).trans (by rw [decide_eq_false q7])) ?_
  refine wp_skip ?_
  show Code.wp _ _ _ a9 wy
  refine wp_seq ?_
  refine wp_seq ?_
  refine vl_r25_wp hmy (fun a10 h10=>?_) a9 (h9.pick [0,1,2,3])
  refine wp_block ?_
  refine wp_loopR (fun g a' w'=>∃i:Nat,i+g=m.sz.toNat∧(∀j:Nat,j<i→(evalF m f (env++[(x,(j:Int))]) != (kd == 8))=false)∧Below wy.heap.size wy w'∧Frm 168 [(3,.pointer (some ⟨w.heap.size,0,none⟩)),(4,.pointer (some ⟨(w.heap.size+1),0,none⟩)),(5,.pointer (some ⟨(w.heap.size+1+1),0,none⟩)),(7,.func (Fn.func 41) #[] #[.pointer (some ⟨(w.heap.size+1+1),0,none⟩),.pointer (some ⟨w.heap.size,0,none⟩)]),(135,.int .i64 m.sz),(136,.int .i64 (i:Nat))] a') m.sz.toNat ⟨0,by omega,fun j hj=>absurd hj (Nat.not_lt_zero _),Below.refl _ _,h10⟩ ?_
  rintro g a11 w3 ⟨i,hig,hno,hb3,h11⟩
  have hb3s := hb3.size
  have hay3 := (hb3.block _ (lt_heap hay)).trans hay
  have hmy3 := (hb3.block _ (lt_heap hmy)).trans hmy
  have hey3 := (hb3.block _ (lt_heap hey)).trans hey
  have hsz := hg.sz
  refine wp_seq ?_
  refine vl_r26_wp (fun a12 h12=>?_) a11 h11
  refine wp_seq ?_
  by_cases hi:(i:Int)<m.sz
  case neg =>
    refine wp_cond_false ((h12.eval (k := 137) (v := .bool (decide ((i:Int)<m.sz))) (by simp)).trans (by rw [decide_eq_false hi])) ?_
    refine wp_exit ?_
    repeat refine then_exit ?_
    refine inBlock_exit ?_
    show Code.wp _ _ _ a12 w3
    refine wp_seq ?_
    refine vl_r31_wp hay3 (fun a15 h15=>?_) a12 (h12.pick [0,1,2,3])
    refine wp_ret ?_
    repeat (first | refine thenR ?_ | refine inBlockR ?_)
    refine vl_ret_wp (bb := _) ⟨?_,hby.trans (hb3.mono hbys)⟩ a15 h15
    rw [← hkd,qu_end hk (fun j hj=>by rw [hkd]; exact hno j (by omega))]
  refine wp_cond_true ((h12.eval (k := 137) (v := .bool (decide ((i:Int)<m.sz))) (by simp)).trans (by rw [decide_eq_true hi])) ?_
  refine wp_skip ?_
  show Code.wp _ _ _ a12 w3
  refine wp_seq ?_
  refine wp_block ?_
  refine wp_seq ?_
  refine vl_r27_wp (fun a13 h13=>?_) a12 (h12.pick [0,1,2,3,4,5])
  have e0_0:w3.cell? ⟨b,o,none⟩=_ := (cell_keep (hkeep w3 hb3 b hSb) _).trans (hcc1 0 _ rfl)
  have e0_1:w3.cell? ⟨b,o+1,none⟩=_ := (cell_keep (hkeep w3 hb3 b hSb) _).trans (hcc1 1 _ rfl)
  have e0_2:w3.cell? ⟨b,o+2,none⟩=_ := (cell_keep (hkeep w3 hb3 b hSb) _).trans (hcc1 2 _ rfl)
  have e0_3:w3.cell? ⟨b,o+3,none⟩=_ := (cell_keep (hkeep w3 hb3 b hSb) _).trans (hcc1 3 _ rfl)
  have hih:∀(W:World) (v':Value),W.ownsRow (w3.heap.size+1) 63 2 v' (env.length+1) (envVals env++[.string x,.int .i64 (i:Nat)])→Below w3.heap.size w3 W→Calls Tryd.prog 23 #[.agg #[.int .i64 m.sz,.slice Am m.cs.length cm,.slice Bm m.rs.length dm],.agg #[.int .i64 f.fm.lab.kind,.string f.fm.lab.nm,.slice Ae n3 c3,.slice Be n4 c4],v'] W fun e w'=>e=.returned (.bool (evalF m f (env++[(x,(i:Int))])))∧Below w3.heap.size w3 w' := by
    intro W v' hown hbW
    have hbW2 := hb3.trans (hbW.mono hb3s)
    have hbWs := hbW.size
    obtain ⟨A9,c9,rfl,hcap⟩ := own_cap hown
    have hS':∀k,(S k∨(w3.heap.size≤k∧k<W.heap.size))→k<W.heap.size := fun k hk=>hk.elim (fun h=>hlt W hbW2 k h) (fun h=>h.2)
    have hsl:envRep.Sl W (fun k=>S k∨(w3.heap.size≤k∧k<W.heap.size)) (.slice A9 (env.length+1) c9) (env++[(x,(i:Int))]) := by
      have h9 := sl_of_own (ρ := envRep) (l := env++[(x,(i:Int))]) (S := fun k=>S k∨(w3.heap.size≤k∧k<W.heap.size)) (xs := envVals (env++[(x,(i:Int))])) (v := .slice A9 (env.length+1) c9) (E := 63) (base := w3.heap.size+1) (w := W) (by rw [envVals_snoc,List.length_append]; exact hown) (envAll _) (by rw [List.length_append]; unfold maxLen; simp only [List.length_singleton]; omega) (fun k hk=>Or.inr ⟨by have := (hown.lt k hk).1; omega,(hown.lt k hk).2⟩)
      exact h9
    exact (ihf hok.2.2 hrel (env++[(x,(i:Int))]) _ W (fun k=>S k∨(w3.heap.size≤k∧k<W.heap.size)) _ _ _ (by rw [List.length_append,List.length_singleton]; omega) (fmRep.keep hr1 (hkeep W hbW2) (fun _ h=>Or.inl h)) hsl (fun h=>by simp at h) hcap (hm.keep (hkeep W hbW2) (fun _ h=>Or.inl h)) hS').mono (fun e w' h=>⟨h.1,hbW.trans (h.2.mono hbWs)⟩)
  refine wp_seq ?_
  refine wp_via (fun a9 w9=>Frm 168 [(3,.pointer (some ⟨w.heap.size,0,none⟩)),(4,.pointer (some ⟨(w.heap.size+1),0,none⟩)),(5,.pointer (some ⟨(w.heap.size+1+1),0,none⟩)),(7,.func (Fn.func 41) #[] #[.pointer (some ⟨(w.heap.size+1+1),0,none⟩),.pointer (some ⟨w.heap.size,0,none⟩)]),(135,.int .i64 m.sz),(136,.int .i64 (i:Nat)),(160,.bool (evalF m f (env++[(x,(i:Int))]) != (kd == 8)))] a9∧Below w3.heap.size w3 w9) ?_ (fun hK=>?_)
  · rintro a14 w4 ⟨h14,hb4⟩
    have hb34 := hb3.trans (hb4.mono hb3s)
    have hay4 := (hb34.block _ (lt_heap hay)).trans hay
    cases hx2:(evalF m f (env++[(x,(i:Int))]) != (kd == 8))
    · rw [hx2] at h14
      refine wp_cond_false ((h14.eval (k := 160) (v := .bool false) (by simp)).trans (by rw [show false=false from rfl])) ?_
      refine wp_skip ?_
      show Code.wp _ _ _ a14 w4
      refine vl_r30_wp (by omega) (fun a15 h15=>?_) a14 (h14.pick [0,1,2,3,4,5])
      refine ⟨g - 1,by omega,i+1,by omega,fun j hj=>?_,hb34,h15⟩
      by_cases hji:j=i
      · rw [hji]; exact hx2
      · exact hno j (by omega)
    · rw [hx2] at h14
      refine wp_cond_true ((h14.eval (k := 160) (v := .bool true) (by simp)).trans (by rw [show true=true from rfl])) ?_
      refine wp_seq ?_
      refine vl_r29_wp hay4 (fun a15 h15=>?_) a14 (h14.pick [0,1,2,3])
      refine wp_ret ?_
      repeat (first | refine thenR ?_ | refine inBlockR ?_)
      refine vl_ret_wp (bb := _) ⟨?_,hby.trans (hb34.mono hbys)⟩ a15 h15
      rw [← hkd,qu_stop hk hi (by rw [hkd]; exact hx2)]
  · have hl3:b<w3.heap.size := hlt w3 hb3 b hSb
    obtain ⟨De',me',ee',eqd,hel,_,hpos⟩ := id he
    simp only [Value.slice.injEq] at eqd
    obtain ⟨rfl,rfl,rfl⟩ := eqd
    by_cases hz:env=[]
    · have hD := he0 hz
      subst hz
      subst hD
      obtain rfl:me=0 := by simpa using hel.symm
      refine wp_thenF ?_
      exact vl_r28n_wp hmy3 hay3 hey3 e0_0 e0_1 e0_2 e0_3 hl3 rfl rfl hih (fun a14 w4 h14 hb4=>hK _ _ ⟨h14,hb4⟩) a13 h13
    · have hp:0<me := by
        rcases Nat.eq_zero_or_pos me with h | h
        · exact absurd (List.length_eq_zero_iff.1 (by omega)) hz
        · exact h
      obtain ⟨b2,o2,xs,rfl,hSb2,hxs,hcell⟩ := hpos hp
      obtain rfl := envAll_eq hxs
      rw [hel] at hih
      refine wp_thenF ?_
      exact vl_r28_wp hmy3 hay3 hel (by omega) hme (hlt w3 hb3 b2 hSb2) (fun j u hu=>(cell_keep (hkeep w3 hb3 b2 hSb2) _).trans (hcell j u hu)) hey3 e0_0 e0_1 e0_2 e0_3 hl3 rfl rfl hih (fun a14 w4 h14 hb4=>hK _ _ ⟨h14,hb4⟩) a13 h13
theorem value_any (m:Md) (hg:m.good) {Am Bm:Option Addr} {cm dm:Nat}:∀v:Fv,v.ok→hasRels m v=true→∀(env:List (ByteArray × Int)) (cs:List Value) (w:World) (S:Nat→Prop) (De:Option Addr) (me ee:Nat),env.length+Fv.nodes (v)≤1000→fmRep.R w S (Fv.fm (v)) cs→envRep.Sl w S (.slice De me ee) env→(env=[]→De=none)→me≤ee→m.In w S [.int .i64 m.sz,.slice Am m.cs.length cm,.slice Bm m.rs.length dm]→(∀b,S b→b<w.heap.size)→Calls Tryd.prog 23 #[.agg #[.int .i64 m.sz,.slice Am m.cs.length cm,.slice Bm m.rs.length dm],.agg cs.toArray,.slice De me ee] w fun e w'=>e=.returned (.bool (evalF m (v) env))∧Below w.heap.size w w'
  | .tru,_,_=>value_tru m hg
  | .pred _ _,h,hr=>value_pred m hg h hr
  | .same _ _,_,_=>value_same m hg
  | .neg f,h,hr=>value_neg m hg h hr (value_any m hg f)
  | .bin _ f g,h,hr=>value_bin m hg h (by simpa [hasRels] using hr) (value_any m hg f) (value_any m hg g)
  | .qu _ _ f,h,hr=>value_qu m hg h hr (value_any m hg f)
end
noncomputable section
set_option maxRecDepth 1000000
set_option maxHeartbeats 16000000
variable {w wo:World} {Q:Exit→Act→World→Prop} {z kd c j:Int} {Am Bm A B:Option Addr} {nm1 cm nm2 dm n1 c1 n2 c2 gb gx:Nat} {nm:ByteArray} {s_3 s_5 s_2:Value} {K:Act→World→Prop} {bb:Bool} {t:Fm}

theorem keeps2G {b:Nat} {v0 v1:Value}:Keeps (fun k=>k=b) w ((w.setCell ⟨b,0,none⟩ v0).setCell ⟨b,1,none⟩ v1) := Keeps.set (P := fun k=>k=b) (Keeps.set (P := fun k=>k=b) (Keeps.refl (fun k=>k=b) w) (Or.inl rfl) 0 v0) (Or.inl rfl) 1 v1
theorem frame_ho {P:Act→Prop} (h:∀x0 x1 x2 x3 x4 x5 x6 x7 x8 x9 x10 x11 x12 x13 x14 x15 x16 x17 x18 x19 x20 x21 x22 x23 x24 x25 x26 x27 x28 x29 x30 x31:Value,P ⟨(x0 :: x1 :: x2 :: x3 :: x4 :: x5 :: x6 :: x7 :: x8 :: x9 :: x10 :: x11 :: x12 :: x13 :: x14 :: x15 :: x16 :: x17 :: x18 :: x19 :: x20 :: x21 :: x22 :: x23 :: x24 :: x25 :: x26 :: x27 :: x28 :: x29 :: x30 :: x31 :: []).toArray,[]⟩):∀a:Act,a.tmps.toList.length=32→a.defers=[]→P a := by
  rintro ⟨⟨l⟩,d⟩ hs hd
  simp only at hd
  subst hd
  revert l
  show ∀l:List Value,l.length=32→P ⟨⟨l⟩,[]⟩
  iterate 32 refine openS (fun _=>?_)
  refine open0 ?_
  exact h ..
noncomputable def cF13:Code := Tryd.f13.body.getD .skip
def c_ho_r0 := sp 99 2 cF13
theorem ho_r0_wp (hN:∀a',Frm 32 [(2,.pointer (some ⟨wo.heap.size,0,none⟩)),(3,.pointer (some ⟨(wo.heap.size+1),0,none⟩)),(5,.pointer (some ⟨(wo.heap.size+1+1),0,none⟩))] a'→Q .normal a' (((wo.alloc (.cells #[.int .i64 z,.slice Am nm1 cm,.slice Bm nm2 dm] 25)).alloc (.cells #[.int .i64 kd,.string nm,.slice A n1 c1,.slice B n2 c2] 29)).alloc (.cells #[.int .i64 0,.int .i64 0] 32))):∀ac,Frm 32 [(0,.agg #[.int .i64 z,.slice Am nm1 cm,.slice Bm nm2 dm]),(1,.agg #[.int .i64 kd,.string nm,.slice A n1 c1,.slice B n2 c2])] ac→Code.wp Tryd.prog c_ho_r0 Q ac wo := by
  refine fO (frame_ho ?_)
  intros
  rename_i hq
  iterate 2 (obtain ⟨e,hq⟩ := hq; obtain rfl := sI e; clear e)
  clear hq
  conv=>arg 2; whnf
  replace hN := Lib.hid hN
  go_wp2_with fail
  exact hN.out _ (by exact fR rfl rfl rfl)
def c_ho_r1 := sp 99 9 cF13
theorem ho_r1_wp (hgm:w.heap[wo.heap.size]?=some (.cells #[.int .i64 z,.slice Am nm1 cm,.slice Bm nm2 dm] 25 (0,0))) (hc:Calls Tryd.prog 21 #[.agg #[.int .i64 z,.slice Am nm1 cm,.slice Bm nm2 dm]] w fun e w'=>e=.returned (.agg #[.int .i64 c,.int .i64 j])∧Below w.heap.size w w') (hN:∀ge a' w',Frm 32 [(2,.pointer (some ⟨wo.heap.size,0,none⟩)),(3,s_3),(5,s_5),(6,.pointer (some ⟨ge,0,none⟩))] a'→w.heap.size≤ge→w'.heap[ge]?=some (.cells #[.int .i64 c,.int .i64 j] 32 (0,0))→Below w.heap.size w w'→Q .normal a' w'):∀ac,Frm 32 [(2,.pointer (some ⟨wo.heap.size,0,none⟩)),(3,s_3),(5,s_5)] ac→Code.wp Tryd.prog c_ho_r1 Q ac w := by
  refine fO (frame_ho ?_)
  intros
  rename_i hq
  iterate 3 (obtain ⟨e,hq⟩ := hq; obtain rfl := sI e; clear e)
  clear hq
  conv=>arg 2; whnf
  have m0 := cellv hgm 0 rfl
  have m1 := cellv hgm 1 rfl
  have m2 := cellv hgm 2 rfl
  have ml := lt_heap hgm
  clear hgm
  have HN := Lib.hid hN
  have HC := Lib.hid hc
  clear hN hc
  go_wp2_with fail
  (with_reducible refine HC.out.mono ?_)
  rintro e w1 ⟨rfl,hb1⟩
  replace hb1 := Lib.hid hb1
  go_wp2_with fail
  have hz := hb1.out.size
  exact HN.out w1.heap.size _ _ (by exact fR rfl rfl rfl) hz (heap_at rfl) (hb1.out.alloc hz _)
def c_ho_r4 := sp 99 19 cF13
theorem ho_r4_wp (ha:w.heap[wo.heap.size+1]?=some (.cells #[.int .i64 kd,.string nm,.slice A n1 c1,.slice B n2 c2] 29 (0,0))) (hc:Calls Tryd.prog 29 #[.agg #[.int .i64 kd,.string nm,.slice A n1 c1,.slice B n2 c2]] w fun e w'=>e=.returned (.agg #[.int .i64 c,.int .i64 j])∧Below w.heap.size w w') (hN:∀ge a' w',Frm 32 [(2,s_2),(3,.pointer (some ⟨(wo.heap.size+1),0,none⟩)),(5,s_5),(7,.pointer (some ⟨ge,0,none⟩))] a'→w.heap.size≤ge→w'.heap[ge]?=some (.cells #[.int .i64 c,.int .i64 j] 32 (0,0))→Below w.heap.size w w'→Q .normal a' w'):∀ac,Frm 32 [(2,s_2),(3,.pointer (some ⟨(wo.heap.size+1),0,none⟩)),(5,s_5)] ac→Code.wp Tryd.prog c_ho_r4 Q ac w := by
  refine fO (frame_ho ?_)
  intros
  rename_i hq
  iterate 3 (obtain ⟨e,hq⟩ := hq; obtain rfl := sI e; clear e)
  clear hq
  conv=>arg 2; whnf
  have a0 := cellv ha 0 rfl
  have a1 := cellv ha 1 rfl
  have a2 := cellv ha 2 rfl
  have a3 := cellv ha 3 rfl
  have al := lt_heap ha
  clear ha
  have HN := Lib.hid hN
  have HC := Lib.hid hc
  clear hN hc
  go_wp2_with fail
  (with_reducible refine HC.out.mono ?_)
  rintro e w1 ⟨rfl,hb1⟩
  replace hb1 := Lib.hid hb1
  go_wp2_with fail
  have hz := hb1.out.size
  exact HN.out w1.heap.size _ _ (by exact fR rfl rfl rfl) hz (heap_at rfl) (hb1.out.alloc hz _)
def c_ho_r7 := sp 99 39 cF13
theorem ho_r7_wp (hgm:w.heap[wo.heap.size]?=some (.cells #[.int .i64 z,.slice Am nm1 cm,.slice Bm nm2 dm] 25 (0,0))) (ha:w.heap[wo.heap.size+1]?=some (.cells #[.int .i64 kd,.string nm,.slice A n1 c1,.slice B n2 c2] 29 (0,0))) (hc:Calls Tryd.prog 30 #[.agg #[.int .i64 z,.slice Am nm1 cm,.slice Bm nm2 dm],.agg #[.int .i64 kd,.string nm,.slice A n1 c1,.slice B n2 c2]] w fun e w'=>e=.returned (.agg #[.int .i64 c,.int .i64 j])∧Below w.heap.size w w') (hN:∀ge a' w',Frm 32 [(2,.pointer (some ⟨wo.heap.size,0,none⟩)),(3,.pointer (some ⟨(wo.heap.size+1),0,none⟩)),(5,s_5),(8,.pointer (some ⟨ge,0,none⟩))] a'→w.heap.size≤ge→w'.heap[ge]?=some (.cells #[.int .i64 c,.int .i64 j] 32 (0,0))→Below w.heap.size w w'→Q .normal a' w'):∀ac,Frm 32 [(2,.pointer (some ⟨wo.heap.size,0,none⟩)),(3,.pointer (some ⟨(wo.heap.size+1),0,none⟩)),(5,s_5)] ac→Code.wp Tryd.prog c_ho_r7 Q ac w := by
  refine fO (frame_ho ?_)
  intros
  rename_i hq
  iterate 3 (obtain ⟨e,hq⟩ := hq; obtain rfl := sI e; clear e)
  clear hq
  conv=>arg 2; whnf
  have m0 := cellv hgm 0 rfl
  have m1 := cellv hgm 1 rfl
  have m2 := cellv hgm 2 rfl
  have ml := lt_heap hgm
  clear hgm
  have a0 := cellv ha 0 rfl
  have a1 := cellv ha 1 rfl
  have a2 := cellv ha 2 rfl
  have a3 := cellv ha 3 rfl
  have al := lt_heap ha
  clear ha
  have HN := Lib.hid hN
  have HC := Lib.hid hc
  clear hN hc
  go_wp2_with fail
  (with_reducible refine HC.out.mono ?_)
  rintro e w1 ⟨rfl,hb1⟩
  replace hb1 := Lib.hid hb1
  go_wp2_with fail
  have hz := hb1.out.size
  exact HN.out w1.heap.size _ _ (by exact fR rfl rfl rfl) hz (heap_at rfl) (hb1.out.alloc hz _)
def c_ho_r2 := sp 99 21 cF13
theorem ho_r2_wp (hb:w.heap[gb]?=some (.cells #[.int .i64 c,.int .i64 j] 32 (0,0))) (hN:∀a',Frm 32 [(2,s_2),(3,s_3),(5,s_5),(6,.pointer (some ⟨gb,0,none⟩)),(13,.bool (decide (c≠0)))] a'→Q .normal a' w):∀ac,Frm 32 [(2,s_2),(3,s_3),(5,s_5),(6,.pointer (some ⟨gb,0,none⟩))] ac→Code.wp Tryd.prog c_ho_r2 Q ac w := by
  refine fO (frame_ho ?_)
  intros
  rename_i hq
  iterate 4 (obtain ⟨e,hq⟩ := hq; obtain rfl := sI e; clear e)
  clear hq
  conv=>arg 2; whnf
  have b0 := cellv hb 0 rfl
  have bl := lt_heap hb
  clear hb
  by_cases h:c≠0
  · have t0 := h
    have t1:(c != 0)=true := by first | exact bne_iff_ne.2 (by omega) | exact bne_eq_false_iff_eq.2 (by omega)
    rw [show decide (c≠0)=true from by simpa using h] at hN
    clear h
    replace hN := Lib.hid hN
    go_wp2_with fail
    exact hN.out _ (by exact fR rfl rfl rfl)
  · have t0 := h
    have t1:(c != 0)=false := by first | exact bne_iff_ne.2 (by omega) | exact bne_eq_false_iff_eq.2 (by omega)
    rw [show decide (c≠0)=false from by simpa using h] at hN
    clear h
    replace hN := Lib.hid hN
    go_wp2_with fail
    exact hN.out _ (by exact fR rfl rfl rfl)
def c_ho_r5 := sp 99 43 cF13
theorem ho_r5_wp (hb:w.heap[gb]?=some (.cells #[.int .i64 c,.int .i64 j] 32 (0,0))) (hN:∀a',Frm 32 [(2,s_2),(3,s_3),(5,s_5),(7,.pointer (some ⟨gb,0,none⟩)),(19,.bool (decide (c≠0)))] a'→Q .normal a' w):∀ac,Frm 32 [(2,s_2),(3,s_3),(5,s_5),(7,.pointer (some ⟨gb,0,none⟩))] ac→Code.wp Tryd.prog c_ho_r5 Q ac w := by
  refine fO (frame_ho ?_)
  intros
  rename_i hq
  iterate 4 (obtain ⟨e,hq⟩ := hq; obtain rfl := sI e; clear e)
  clear hq
  conv=>arg 2; whnf
  have b0 := cellv hb 0 rfl
  have bl := lt_heap hb
  clear hb
  by_cases h:c≠0
  · have t0 := h
    have t1:(c != 0)=true := by first | exact bne_iff_ne.2 (by omega) | exact bne_eq_false_iff_eq.2 (by omega)
    rw [show decide (c≠0)=true from by simpa using h] at hN
    clear h
    replace hN := Lib.hid hN
    go_wp2_with fail
    exact hN.out _ (by exact fR rfl rfl rfl)
  · have t0 := h
    have t1:(c != 0)=false := by first | exact bne_iff_ne.2 (by omega) | exact bne_eq_false_iff_eq.2 (by omega)
    rw [show decide (c≠0)=false from by simpa using h] at hN
    clear h
    replace hN := Lib.hid hN
    go_wp2_with fail
    exact hN.out _ (by exact fR rfl rfl rfl)
def c_ho_r8 := sp 99 87 cF13
theorem ho_r8_wp (hb:w.heap[gb]?=some (.cells #[.int .i64 c,.int .i64 j] 32 (0,0))) (hN:∀a',Frm 32 [(2,s_2),(3,s_3),(5,s_5),(8,.pointer (some ⟨gb,0,none⟩)),(26,.bool (decide (c≠0)))] a'→Q .normal a' w):∀ac,Frm 32 [(2,s_2),(3,s_3),(5,s_5),(8,.pointer (some ⟨gb,0,none⟩))] ac→Code.wp Tryd.prog c_ho_r8 Q ac w := by
  refine fO (frame_ho ?_)
  intros
  rename_i hq
  iterate 4 (obtain ⟨e,hq⟩ := hq; obtain rfl := sI e; clear e)
  clear hq
  conv=>arg 2; whnf
  have b0 := cellv hb 0 rfl
  have bl := lt_heap hb
  clear hb
  by_cases h:c≠0
  · have t0 := h
    have t1:(c != 0)=true := by first | exact bne_iff_ne.2 (by omega) | exact bne_eq_false_iff_eq.2 (by omega)
    rw [show decide (c≠0)=true from by simpa using h] at hN
    clear h
    replace hN := Lib.hid hN
    go_wp2_with fail
    exact hN.out _ (by exact fR rfl rfl rfl)
  · have t0 := h
    have t1:(c != 0)=false := by first | exact bne_iff_ne.2 (by omega) | exact bne_eq_false_iff_eq.2 (by omega)
    rw [show decide (c≠0)=false from by simpa using h] at hN
    clear h
    replace hN := Lib.hid hN
    go_wp2_with fail
    exact hN.out _ (by exact fR rfl rfl rfl)
def c_ho_r3 := sp 99 77 cF13
theorem ho_r3_wp (hbx2:gb≠gx) (hbx:w.heap[gb]?=some (.cells #[.int .i64 c,.int .i64 j] 32 (0,0))) (hx:w.heap[gx]?=some (.cells #[.int .i64 0,.int .i64 0] 32 (0,0))) (hN:∀a' w',Frm 32 [(4,.bool false),(5,.pointer (some ⟨gx,0,none⟩))] a'→w'.heap[gx]?=some (.cells #[.int .i64 c,.int .i64 j] 32 (0,0))→Keeps (fun k=>k=gx) w w'→K a' w'):∀ac,Frm 32 [(5,.pointer (some ⟨gx,0,none⟩)),(6,.pointer (some ⟨gb,0,none⟩))] ac→Code.wp Tryd.prog c_ho_r3 (Exit.then K (fun _ _ _=>False)) ac w := by
  refine fO (frame_ho ?_)
  intros
  rename_i hq
  iterate 2 (obtain ⟨e,hq⟩ := hq; obtain rfl := sI e; clear e)
  clear hq
  conv=>arg 2; whnf
  have b0 := cellv hbx 0 rfl
  have b1 := cellv hbx 1 rfl
  have bl := lt_heap hbx
  have x0 := cellv hx 0 rfl
  have x1 := cellv hx 1 rfl
  have xf0 := free_heap hx 0
  have xf1 := free_heap hx 1
  have xl := lt_heap hx
  have HX := Lib.hid hx
  clear hbx hx
  replace hN := Lib.hid hN
  go_region
  all_goals go_wp2_with fail
  all_goals exact hN.out _ _ (id ⟨rfl,rfl,rfl,rfl,trivial⟩) (heap_drew (at2 HX.out)) (Keeps.drew keeps2G)
def c_ho_r6 := sp 99 155 cF13
theorem ho_r6_wp (hbx2:gb≠gx) (hbx:w.heap[gb]?=some (.cells #[.int .i64 c,.int .i64 j] 32 (0,0))) (hx:w.heap[gx]?=some (.cells #[.int .i64 0,.int .i64 0] 32 (0,0))) (hN:∀a' w',Frm 32 [(4,.bool false),(5,.pointer (some ⟨gx,0,none⟩))] a'→w'.heap[gx]?=some (.cells #[.int .i64 c,.int .i64 j] 32 (0,0))→Keeps (fun k=>k=gx) w w'→K a' w'):∀ac,Frm 32 [(5,.pointer (some ⟨gx,0,none⟩)),(7,.pointer (some ⟨gb,0,none⟩))] ac→Code.wp Tryd.prog c_ho_r6 (Exit.then K (fun _ _ _=>False)) ac w := by
  refine fO (frame_ho ?_)
  intros
  rename_i hq
  iterate 2 (obtain ⟨e,hq⟩ := hq; obtain rfl := sI e; clear e)
  clear hq
  conv=>arg 2; whnf
  have b0 := cellv hbx 0 rfl
  have b1 := cellv hbx 1 rfl
  have bl := lt_heap hbx
  have x0 := cellv hx 0 rfl
  have x1 := cellv hx 1 rfl
  have xf0 := free_heap hx 0
  have xf1 := free_heap hx 1
  have xl := lt_heap hx
  have HX := Lib.hid hx
  clear hbx hx
  replace hN := Lib.hid hN
  go_region
  all_goals go_wp2_with fail
  all_goals exact hN.out _ _ (id ⟨rfl,rfl,rfl,rfl,trivial⟩) (heap_drew (at2 HX.out)) (Keeps.drew keeps2G)
def c_ho_r9 := sp 99 311 cF13
theorem ho_r9_wp (hbx2:gb≠gx) (hbx:w.heap[gb]?=some (.cells #[.int .i64 c,.int .i64 j] 32 (0,0))) (hx:w.heap[gx]?=some (.cells #[.int .i64 0,.int .i64 0] 32 (0,0))) (hN:∀a' w',Frm 32 [(4,.bool false),(5,.pointer (some ⟨gx,0,none⟩))] a'→w'.heap[gx]?=some (.cells #[.int .i64 c,.int .i64 j] 32 (0,0))→Keeps (fun k=>k=gx) w w'→K a' w'):∀ac,Frm 32 [(5,.pointer (some ⟨gx,0,none⟩)),(8,.pointer (some ⟨gb,0,none⟩))] ac→Code.wp Tryd.prog c_ho_r9 (Exit.then K (fun _ _ _=>False)) ac w := by
  refine fO (frame_ho ?_)
  intros
  rename_i hq
  iterate 2 (obtain ⟨e,hq⟩ := hq; obtain rfl := sI e; clear e)
  clear hq
  conv=>arg 2; whnf
  have b0 := cellv hbx 0 rfl
  have b1 := cellv hbx 1 rfl
  have bl := lt_heap hbx
  have x0 := cellv hx 0 rfl
  have x1 := cellv hx 1 rfl
  have xf0 := free_heap hx 0
  have xf1 := free_heap hx 1
  have xl := lt_heap hx
  have HX := Lib.hid hx
  clear hbx hx
  replace hN := Lib.hid hN
  go_region
  all_goals go_wp2_with fail
  all_goals exact hN.out _ _ (id ⟨rfl,rfl,rfl,rfl,trivial⟩) (heap_drew (at2 HX.out)) (Keeps.drew keeps2G)
def c_ho_r10 := sp 99 47 cF13
theorem ho_r10_wp (hgm:w.heap[wo.heap.size]?=some (.cells #[.int .i64 z,.slice Am nm1 cm,.slice Bm nm2 dm] 25 (0,0))) (ha:w.heap[wo.heap.size+1]?=some (.cells #[.int .i64 kd,.string nm,.slice A n1 c1,.slice B n2 c2] 29 (0,0))) (hx:w.heap[wo.heap.size+1+1]?=some (.cells #[.int .i64 0,.int .i64 0] 32 (0,0))) (hc:Calls Tryd.prog 23 #[.agg #[.int .i64 z,.slice Am nm1 cm,.slice Bm nm2 dm],.agg #[.int .i64 kd,.string nm,.slice A n1 c1,.slice B n2 c2],.slice none 0 0] w fun e w'=>e=.returned (.bool bb)∧Below w.heap.size w w') (hN:∀w1 a' w',Frm 32 [(4,.bool bb),(5,.pointer (some ⟨(wo.heap.size+1+1),0,none⟩))] a'→w'.heap[wo.heap.size+1+1]?=some (.cells #[.int .i64 0,.int .i64 0] 32 (0,0))→Below w.heap.size w w1→Keeps (fun k=>k=wo.heap.size+1+1) w1 w'→Q .normal a' w'):∀ac,Frm 32 [(2,.pointer (some ⟨wo.heap.size,0,none⟩)),(3,.pointer (some ⟨(wo.heap.size+1),0,none⟩)),(5,.pointer (some ⟨(wo.heap.size+1+1),0,none⟩))] ac→Code.wp Tryd.prog c_ho_r10 Q ac w := by
  refine fO (frame_ho ?_)
  intros
  rename_i hq
  iterate 3 (obtain ⟨e,hq⟩ := hq; obtain rfl := sI e; clear e)
  clear hq
  conv=>arg 2; whnf
  have XC := Lib.hid (fun (W:World) (h:W.heap[wo.heap.size+1+1]?=some (.cells #[.int .i64 0,.int .i64 0] 32 (0,0)))=>And.intro (cellv h 0 rfl) (And.intro (cellv h 1 rfl) (And.intro (free_heap h 0) (free_heap h 1))))
  have m0 := cellv hgm 0 rfl
  have m1 := cellv hgm 1 rfl
  have m2 := cellv hgm 2 rfl
  have ml := lt_heap hgm
  clear hgm
  have a0 := cellv ha 0 rfl
  have a1 := cellv ha 1 rfl
  have a2 := cellv ha 2 rfl
  have a3 := cellv ha 3 rfl
  have al := lt_heap ha
  clear ha
  have HN := Lib.hid hN
  have HC := Lib.hid hc
  have HX := Lib.hid hx
  clear hN hc hx
  go_wp2_with fail
  (with_reducible refine HC.out.mono ?_)
  rintro e w1 ⟨rfl,hb1⟩
  have hx1 := (hb1.block _ (lt_heap HX.out)).trans HX.out
  obtain ⟨u0,u1,uf0,uf1⟩ := XC.out w1 hx1
  have ul := lt_heap hx1
  have HX1 := Lib.hid hx1
  have HB1 := Lib.hid hb1
  clear hb1 hx1
  go_wp2_with fail
  exact HN.out _ _ _ (id ⟨rfl,rfl,rfl,rfl,trivial⟩) (at2 HX1.out) HB1.out keeps2G
theorem ho_ret_wp {R:Ending→World→Prop} {w':World} (hx:w'.heap[gx]?=some (.cells #[.int .i64 c,.int .i64 j] 32 (0,0))) (hR:R (.returned (.tuple #[.bool bb,.agg #[.int .i64 c,.int .i64 j]])) w'):∀ac,Frm 32 [(4,.bool bb),(5,.pointer (some ⟨gx,0,none⟩))] ac→bodyPost Tryd.prog Tryd.f13 R .ret ac w' := by
  refine fO (frame_ho ?_)
  intros
  rename_i hq
  iterate 2 (obtain ⟨e,hq⟩ := hq; obtain rfl := sI e; clear e)
  clear hq
  have x0 := cellv hx 0 rfl
  have x1 := cellv hx 1 rfl
  have xl := lt_heap hx
  refine bodyPost_ret (v := .tuple #[.bool bb,.agg #[.int .i64 c,.int .i64 j]]) (by simp [results,Tryd.results13,go_sem,x0,x1,xl]) rfl ?_
  exact hR
def holdsC (m:Md) (t:Fm):Int × Int := if (mdFault m).1≠0 then (((mdFault m).1:Nat),((mdFault m).2:Nat)) else if (fmFault t).1≠0 then (((fmFault t).1:Nat),((fmFault t).2:Nat)) else pairT m t
theorem pairT_zero {m:Md} (h:(pairT m t).1=0):pairT m t=(0,0)∧nestT t≤5∧allC m (fmConsts t)=true∧hasT m t=true := by
  unfold pairT at h ⊢
  split at h
  · exact absurd h (by simp)
  rename_i h1
  split at h
  · exact absurd h (by simp)
  rename_i h2
  split at h
  · exact absurd h (by simp)
  rename_i h3
  rw [if_neg h1,if_neg h2,if_neg h3]
  exact ⟨rfl,by omega,by simpa using h2,by simpa using h3⟩
theorem fault_ok9 (h:(fmFault t).1=0):∃v:Fv,t=v.fm∧v.ok∧v.nodes≤200∧v.depth≤40∧fmFault t=(0,0) := by
  obtain ⟨v,e,h1,h2,h3,h4⟩ := Fv.of_val t 1 0 h
  exact ⟨v,e,h1,by omega,by omega,Prod.ext h ((fmVal_le false t 1 0 (by omega)).2 h).2⟩
theorem frees_few:∀(v:Fv),v.ok→∀bd:List ByteArray,(fmFrees bd v.fm).length≤3 * v.nodes
  | .tru,_,_=>by simp [Fv.fm,fmFrees,fmFreess]
  | .pred n ws,h,bd=>by
    have h1 := h.2.1
    have h2 := List.length_filter_le (fun w=>!hasB bd w) ws
    simp only [Fv.fm,fmFrees,fmFreess,List.append_nil,Fv.nodes]; omega
  | .same a b,_,bd=>by
    have h2 := List.length_filter_le (fun w=>!hasB bd w) [a,b]
    simp only [Fv.fm,fmFrees,fmFreess,List.append_nil,Fv.nodes,List.length_cons,List.length_nil] at h2 ⊢; omega
  | .neg f,h,bd=>by
    have := fun b=>frees_few f h b
    simp only [Fv.fm,fmFrees,fmFreess,List.append_nil,List.filter_nil,List.nil_append,Fv.nodes]
    refine Nat.le_trans (this _) ?_
    omega
  | .bin _ f g,h,bd=>by
    have h1 := fun b=>frees_few f h.2.1 b
    have h2 := fun b=>frees_few g h.2.2 b
    simp only [Fv.fm,fmFrees,fmFreess,List.append_nil,List.filter_nil,List.nil_append,Fv.nodes,List.length_append]
    refine Nat.le_trans (Nat.add_le_add (h1 _) (h2 _)) ?_
    omega
  | .qu _ _ f,h,bd=>by
    have := fun b=>frees_few f h.2.2 b
    simp only [Fv.fm,fmFrees,fmFreess,List.append_nil,List.filter_nil,List.nil_append,Fv.nodes]
    refine Nat.le_trans (this _) ?_
    omega
theorem fm_small {v:Fv} (hv:v.ok) (hn:v.nodes≤200):v.fm.nodes≤1000000∧(fmFrees [] v.fm).length≤1000000 := by
  have h2 := frees_few v hv []
  rw [Fv.fm_nodes]
  omega
theorem holds_any (m:Md) (t:Fm) (ms cs:List Value) (w:World) (S:Nat→Prop) (ht:fmRep.R w S t cs) (hm:m.In w S ms) (hS:∀b,S b→b<w.heap.size) :
    Calls Tryd.prog 13 #[.agg ms.toArray,.agg cs.toArray] w fun e w'=>∃b,e=.returned (.tuple #[.bool b,.agg #[.int .i64 (holdsC m t).1,.int .i64 (holdsC m t).2]])∧((holdsC m t).1≠0→b=false)∧((holdsC m t).1=0→∃v:Fv,t=v.fm∧v.ok∧v.nodes≤200∧v.depth≤40∧b=evalF m v [])∧Below w.heap.size w w' := by
  obtain ⟨A,n1,c1,B,n2,c2,rfl,_,_,_,_⟩ := Fm.shape ht
  obtain ⟨Am,cm,Bm,dm,rfl,_,_,_,_⟩ := Md.shape hm
  obtain ⟨kd,hkd⟩:∃k,t.lab.kind=k := ⟨_,rfl⟩
  obtain ⟨nm,hnm⟩:∃k,t.lab.nm=k := ⟨_,rfl⟩
  rw [hkd,hnm] at ht ⊢
  go_enter Tryd.func13,Tryd.ntmps13
  refine wp_seq ?_
  refine ho_r0_wp (fun a0 h0=>?_) _ (id ⟨rfl,rfl,rfl,rfl,trivial⟩)
  refine gen_last (fun wx=>wx.heap[w.heap.size]?=some (.cells #[.int .i64 m.sz,.slice Am m.cs.length cm,.slice Bm m.rs.length dm] 25 (0,0))∧wx.heap[w.heap.size+1]?=some (.cells #[.int .i64 kd,.string nm,.slice A n1 c1,.slice B n2 c2] 29 (0,0))∧wx.heap[w.heap.size+1+1]?=some (.cells #[.int .i64 0,.int .i64 0] 32 (0,0))∧Below w.heap.size w wx) ⟨heap_old (by simp; omega) (heap_old (by simp) (heap_at rfl)),heap_old (by simp) (heap_at (by simp)),heap_at (by simp),by go_grown⟩ ?_
  rintro wy ⟨hmy,hay,hey,hby⟩
  have hbys := hby.size
  have hgyl := lt_heap hey
  have hkeep:∀W:World,Below w.heap.size w W→∀k,S k→W.heap[k]?=w.heap[k]? := fun W hb k hk=>hb.block k (hS k hk)
  have hlt:∀W:World,Below w.heap.size w W→∀k,S k→k<W.heap.size := fun W hb k hk=>by have := hS k hk; have := hb.size; omega
  refine wp_seq ?_
  refine wp_seq ?_
  have hv1 := validateMd_any m _ wy S (hm.keep (hkeep wy hby) (fun _ h=>h)) (hlt wy hby)
  unfold MdAt at hv1
  refine ho_r1_wp hmy hv1 (fun g1 a1 w1 h1 hg1 hge1 hb1=>?_) a0 h0
  have hb1s := hb1.size
  have hx1 := (hb1.block _ (lt_heap hey)).trans hey
  refine wp_seq ?_
  refine ho_r2_wp hge1 (fun a2 h2=>?_) a1 h1
  by_cases hf1:((mdFault m).1:Int)≠0
  · refine wp_cond_true ((h2.eval (k := 13) (v := .bool (decide (((mdFault m).1:Int)≠0))) (by simp)).trans (by rw [decide_eq_true hf1])) ?_
    have hcc:holdsC m t=((((mdFault m).1:Nat):Int),(((mdFault m).2:Nat):Int)) := if_pos (by omega)
    rw [hcc]
    refine wp_seq ?_
    refine wp_thenQ (ho_r3_wp (by omega) hge1 hx1 (fun a20 w20 h20 hx20 hk20=>?_) a2 (h2.pick [2,3]))
    refine wp_ret ?_
    repeat (first | refine thenR ?_ | refine inBlockR ?_)
    refine ho_ret_wp hx20 ⟨false,rfl,fun _=>rfl,fun h0=>absurd h0 hf1,(hby.trans (hb1.mono hbys)).trans (Keeps.below (B := w.heap.size) hk20 (fun k e=>by have e:k=w.heap.size+1+1 := e; omega) (by have := (hby.trans (hb1.mono hbys)).size; omega))⟩ a20 h20
  refine wp_cond_false ((h2.eval (k := 13) (v := .bool (decide (((mdFault m).1:Int)≠0))) (by simp)).trans (by rw [decide_eq_false hf1])) ?_
  refine wp_skip ?_
  show Code.wp _ _ _ a2 w1
  have hm0:(mdFault m).1=0 := by omega
  have hg := Md.good_of hm0
  have hb01 := hby.trans (hb1.mono hbys)
  refine wp_seq ?_
  refine wp_seq ?_
  have hv2 := validateFm_any t [.int .i64 kd,.string nm,.slice A n1 c1,.slice B n2 c2] w1 S (fmRep.keep ht (hkeep w1 hb01) (fun _ h=>h)) (hlt w1 hb01)
  have hay1 := (hb1.block _ (lt_heap hay)).trans hay
  have hmy1 := (hb1.block _ (lt_heap hmy)).trans hmy
  refine ho_r4_wp hay1 hv2 (fun g2 a3 w2 h3 hg2 hge2 hb2=>?_) a2 (h2.pick [0,1,2])
  have hb2s := hb2.size
  have hx2 := (hb2.block _ (lt_heap hx1)).trans hx1
  refine wp_seq ?_
  refine ho_r5_wp hge2 (fun a4 h4=>?_) a3 h3
  have hb02 := hb01.trans (hb2.mono (by omega))
  by_cases hf2:((fmFault t).1:Int)≠0
  · refine wp_cond_true ((h4.eval (k := 19) (v := .bool (decide (((fmFault t).1:Int)≠0))) (by simp)).trans (by rw [decide_eq_true hf2])) ?_
    have hcc:holdsC m t=((((fmFault t).1:Nat):Int),(((fmFault t).2:Nat):Int)) := by
      unfold holdsC
      rw [if_neg (by omega),if_pos (by omega)]
    rw [hcc]
    refine wp_seq ?_
    refine wp_thenQ (ho_r6_wp (by omega) hge2 hx2 (fun a20 w20 h20 hx20 hk20=>?_) a4 (h4.pick [2,3]))
    refine wp_ret ?_
    repeat (first | refine thenR ?_ | refine inBlockR ?_)
    refine ho_ret_wp hx20 ⟨false,rfl,fun _=>rfl,fun h0=>absurd h0 hf2,hb02.trans (Keeps.below (B := w.heap.size) hk20 (fun k e=>by have e:k=w.heap.size+1+1 := e; omega) (by have := hb02.size; omega))⟩ a20 h20
  refine wp_cond_false ((h4.eval (k := 19) (v := .bool (decide (((fmFault t).1:Int)≠0))) (by simp)).trans (by rw [decide_eq_false hf2])) ?_
  refine wp_skip ?_
  show Code.wp _ _ _ a4 w2
  have ht0:(fmFault t).1=0 := by omega
  obtain ⟨v,hvt,ov,nv,dv,ev⟩ := fault_ok9 ht0
  have hsm := fm_small ov nv
  have hcc:holdsC m t=pairT m t := by
    unfold holdsC
    rw [if_neg (by omega),if_neg (by omega)]
  rw [hcc]
  refine wp_seq ?_
  refine wp_seq ?_
  have hay2 := (hb2.block _ (lt_heap hay1)).trans hay1
  have hmy2 := (hb2.block _ (lt_heap hmy1)).trans hmy1
  have hv3 := fault_any m hg t [.int .i64 m.sz,.slice Am m.cs.length cm,.slice Bm m.rs.length dm] [.int .i64 kd,.string nm,.slice A n1 c1,.slice B n2 c2] w2 S (fmRep.keep ht (hkeep w2 hb02) (fun _ h=>h)) (hlt w2 hb02) (hm.keep (hkeep w2 hb02) (fun _ h=>h)) (by rw [hvt]; exact hsm.1) (by rw [hvt]; exact hsm.2)
  refine ho_r7_wp hmy2 hay2 hv3 (fun g3 a5 w3 h5 hg3 hge3 hb3=>?_) a4 (h4.pick [0,1,2])
  have hb3s := hb3.size
  have hx3 := (hb3.block _ (lt_heap hx2)).trans hx2
  refine wp_seq ?_
  refine ho_r8_wp hge3 (fun a6 h6=>?_) a5 h5
  have hb03 := hb02.trans (hb3.mono (by omega))
  by_cases hf3:(pairT m t).1≠0
  · refine wp_cond_true ((h6.eval (k := 26) (v := .bool (decide ((pairT m t).1≠0))) (by simp)).trans (by rw [decide_eq_true hf3])) ?_
    refine wp_seq ?_
    refine wp_thenQ (ho_r9_wp (by omega) hge3 hx3 (fun a20 w20 h20 hx20 hk20=>?_) a6 (h6.pick [2,3]))
    refine wp_ret ?_
    repeat (first | refine thenR ?_ | refine inBlockR ?_)
    refine ho_ret_wp hx20 ⟨false,rfl,fun _=>rfl,fun h0=>absurd h0 hf3,hb03.trans (Keeps.below (B := w.heap.size) hk20 (fun k e=>by have e:k=w.heap.size+1+1 := e; omega) (by have := hb03.size; omega))⟩ a20 h20
  refine wp_cond_false ((h6.eval (k := 26) (v := .bool (decide ((pairT m t).1≠0))) (by simp)).trans (by rw [decide_eq_false hf3])) ?_
  refine wp_skip ?_
  show Code.wp _ _ _ a6 w3
  obtain ⟨hp0,_,_,hrel⟩ := pairT_zero (Decidable.not_not.1 hf3)
  rw [hp0]
  have hay3 := (hb3.block _ (lt_heap hay2)).trans hay2
  have hmy3 := (hb3.block _ (lt_heap hmy2)).trans hmy2
  subst hvt
  rw [hasT_fm m v ov] at hrel
  have hv4 := value_any m hg v ov hrel [] [.int .i64 kd,.string nm,.slice A n1 c1,.slice B n2 c2] w3 S none 0 0 (by simp; omega) (fmRep.keep ht (hkeep w3 hb03) (fun _ h=>h)) Rep.Sl.nil (fun _=>rfl) (Nat.le_refl _) (hm.keep (hkeep w3 hb03) (fun _ h=>h)) (hlt w3 hb03)
  refine wp_seq ?_
  refine ho_r10_wp hmy3 hay3 hx3 hv4 (fun w4 a7 w5 h7 hx7 hb4 hk5=>?_) a6 (h6.pick [0,1,2])
  have hb04 := hb03.trans (hb4.mono (by omega))
  refine wp_ret ?_
  exact ho_ret_wp hx7 ⟨_,rfl,fun h=>absurd rfl h,fun _=>⟨v,rfl,ov,nv,dv,rfl⟩,hb04.trans (Keeps.below (B := w.heap.size) hk5 (fun k e=>by have e:k=w.heap.size+1+1 := e; omega) (by have := hb04.size; omega))⟩ a7 h7
end
noncomputable section
set_option maxRecDepth 1000000
set_option maxHeartbeats 16000000
variable {s_2 s_3 s_4 s_7 s_34 s_8 s_132 s_144 s_10 s_145 s_11 s_13:Value} {Q:Exit→Act→World→Prop} {z kd:Int} {Am Bm A B Dv:Option Addr} {nm1 cm nm2 dm n1 c1 n2 c2 mv ev j gm NN go i k x:Nat} {nm:ByteArray} {w:World} {b1:Bool}

theorem frame_tb {P:Act→Prop} (h:∀x0 x1 x2 x3 x4 x5 x6 x7 x8 x9 x10 x11 x12 x13 x14 x15 x16 x17 x18 x19 x20 x21 x22 x23 x24 x25 x26 x27 x28 x29 x30 x31 x32 x33 x34 x35 x36 x37 x38 x39 x40 x41 x42 x43 x44 x45 x46 x47 x48 x49 x50 x51 x52 x53 x54 x55 x56 x57 x58 x59 x60 x61 x62 x63 x64 x65 x66 x67 x68 x69 x70 x71 x72 x73 x74 x75 x76 x77 x78 x79 x80 x81 x82 x83 x84 x85 x86 x87 x88 x89 x90 x91 x92 x93 x94 x95 x96 x97 x98 x99 x100 x101 x102 x103 x104 x105 x106 x107 x108 x109 x110 x111 x112 x113 x114 x115 x116 x117 x118 x119 x120 x121 x122 x123 x124 x125 x126 x127 x128 x129 x130 x131 x132 x133 x134 x135 x136 x137 x138 x139 x140 x141 x142 x143 x144 x145 x146 x147 x148 x149 x150 x151 x152 x153 x154 x155 x156 x157 x158 x159 x160 x161 x162 x163 x164 x165 x166 x167 x168 x169 x170 x171 x172 x173 x174 x175 x176 x177 x178 x179 x180 x181 x182 x183 x184 x185 x186 x187 x188 x189 x190 x191 x192 x193 x194 x195 x196 x197 x198 x199 x200 x201 x202 x203 x204 x205 x206 x207 x208 x209 x210 x211 x212 x213 x214 x215 x216 x217 x218 x219 x220 x221 x222 x223 x224 x225 x226 x227 x228 x229 x230 x231 x232 x233 x234 x235 x236 x237 x238 x239 x240 x241 x242 x243 x244 x245 x246 x247 x248 x249 x250 x251 x252 x253 x254 x255 x256 x257 x258 x259 x260 x261 x262 x263 x264 x265 x266 x267 x268 x269 x270 x271 x272 x273 x274 x275 x276 x277 x278 x279 x280 x281 x282 x283 x284 x285 x286 x287 x288 x289 x290 x291 x292 x293 x294 x295 x296 x297 x298 x299 x300 x301 x302 x303 x304 x305 x306 x307 x308 x309 x310 x311 x312 x313 x314 x315 x316 x317 x318 x319 x320 x321 x322 x323 x324 x325 x326 x327 x328 x329 x330 x331 x332 x333 x334 x335 x336 x337 x338 x339 x340 x341 x342 x343 x344:Value,P ⟨(x0 :: x1 :: x2 :: x3 :: x4 :: x5 :: x6 :: x7 :: x8 :: x9 :: x10 :: x11 :: x12 :: x13 :: x14 :: x15 :: x16 :: x17 :: x18 :: x19 :: x20 :: x21 :: x22 :: x23 :: x24 :: x25 :: x26 :: x27 :: x28 :: x29 :: x30 :: x31 :: x32 :: x33 :: x34 :: x35 :: x36 :: x37 :: x38 :: x39 :: x40 :: x41 :: x42 :: x43 :: x44 :: x45 :: x46 :: x47 :: x48 :: x49 :: x50 :: x51 :: x52 :: x53 :: x54 :: x55 :: x56 :: x57 :: x58 :: x59 :: x60 :: x61 :: x62 :: x63 :: x64 :: x65 :: x66 :: x67 :: x68 :: x69 :: x70 :: x71 :: x72 :: x73 :: x74 :: x75 :: x76 :: x77 :: x78 :: x79 :: x80 :: x81 :: x82 :: x83 :: x84 :: x85 :: x86 :: x87 :: x88 :: x89 :: x90 :: x91 :: x92 :: x93 :: x94 :: x95 :: x96 :: x97 :: x98 :: x99 :: x100 :: x101 :: x102 :: x103 :: x104 :: x105 :: x106 :: x107 :: x108 :: x109 :: x110 :: x111 :: x112 :: x113 :: x114 :: x115 :: x116 :: x117 :: x118 :: x119 :: x120 :: x121 :: x122 :: x123 :: x124 :: x125 :: x126 :: x127 :: x128 :: x129 :: x130 :: x131 :: x132 :: x133 :: x134 :: x135 :: x136 :: x137 :: x138 :: x139 :: x140 :: x141 :: x142 :: x143 :: x144 :: x145 :: x146 :: x147 :: x148 :: x149 :: x150 :: x151 :: x152 :: x153 :: x154 :: x155 :: x156 :: x157 :: x158 :: x159 :: x160 :: x161 :: x162 :: x163 :: x164 :: x165 :: x166 :: x167 :: x168 :: x169 :: x170 :: x171 :: x172 :: x173 :: x174 :: x175 :: x176 :: x177 :: x178 :: x179 :: x180 :: x181 :: x182 :: x183 :: x184 :: x185 :: x186 :: x187 :: x188 :: x189 :: x190 :: x191 :: x192 :: x193 :: x194 :: x195 :: x196 :: x197 :: x198 :: x199 :: x200 :: x201 :: x202 :: x203 :: x204 :: x205 :: x206 :: x207 :: x208 :: x209 :: x210 :: x211 :: x212 :: x213 :: x214 :: x215 :: x216 :: x217 :: x218 :: x219 :: x220 :: x221 :: x222 :: x223 :: x224 :: x225 :: x226 :: x227 :: x228 :: x229 :: x230 :: x231 :: x232 :: x233 :: x234 :: x235 :: x236 :: x237 :: x238 :: x239 :: x240 :: x241 :: x242 :: x243 :: x244 :: x245 :: x246 :: x247 :: x248 :: x249 :: x250 :: x251 :: x252 :: x253 :: x254 :: x255 :: x256 :: x257 :: x258 :: x259 :: x260 :: x261 :: x262 :: x263 :: x264 :: x265 :: x266 :: x267 :: x268 :: x269 :: x270 :: x271 :: x272 :: x273 :: x274 :: x275 :: x276 :: x277 :: x278 :: x279 :: x280 :: x281 :: x282 :: x283 :: x284 :: x285 :: x286 :: x287 :: x288 :: x289 :: x290 :: x291 :: x292 :: x293 :: x294 :: x295 :: x296 :: x297 :: x298 :: x299 :: x300 :: x301 :: x302 :: x303 :: x304 :: x305 :: x306 :: x307 :: x308 :: x309 :: x310 :: x311 :: x312 :: x313 :: x314 :: x315 :: x316 :: x317 :: x318 :: x319 :: x320 :: x321 :: x322 :: x323 :: x324 :: x325 :: x326 :: x327 :: x328 :: x329 :: x330 :: x331 :: x332 :: x333 :: x334 :: x335 :: x336 :: x337 :: x338 :: x339 :: x340 :: x341 :: x342 :: x343 :: x344 :: []).toArray,[]⟩):∀a:Act,a.tmps.toList.length=345→a.defers=[]→P a := by
  rintro ⟨⟨l⟩,d⟩ hs hd
  simp only at hd
  subst hd
  revert l
  show ∀l:List Value,l.length=345→P ⟨⟨l⟩,[]⟩
  iterate 345 refine openS (fun _=>?_)
  refine open0 ?_
  exact h ..
theorem infoBo:(Tryd.prog.info? 4).map (fun i=>(i.zero,i.size,i.bytes))=some (some (.bool false),1,1) := by kernel_rfl
noncomputable def cF28:Code := Tryd.f28.body.getD .skip
def c_tb_r0 := sp 99 2 cF28
theorem tb_r0_wp {wo:World} (hN:∀a',Frm 345 [(2,s_2),(3,.pointer (some ⟨wo.heap.size,0,none⟩)),(4,.pointer (some ⟨(wo.heap.size+1),0,none⟩))] a'→Q .normal a' ((wo.alloc (.cells #[.int .i64 z,.slice Am nm1 cm,.slice Bm nm2 dm] 25)).alloc (.cells #[.int .i64 kd,.string nm,.slice A n1 c1,.slice B n2 c2] 29))):∀ac,Frm 345 [(0,.agg #[.int .i64 z,.slice Am nm1 cm,.slice Bm nm2 dm]),(1,.agg #[.int .i64 kd,.string nm,.slice A n1 c1,.slice B n2 c2]),(2,s_2)] ac→Code.wp Tryd.prog c_tb_r0 Q ac wo := by
  refine fO (frame_tb ?_)
  intros
  rename_i hq
  iterate 3 (obtain ⟨e,hq⟩ := hq; obtain rfl := sI e; clear e)
  clear hq
  conv=>arg 2; whnf
  replace hN := Lib.hid hN
  go_wp2_with fail
  exact hN.out _ (by exact fR rfl rfl rfl)
def c_tb_r1 := sp 99 5 cF28
theorem tb_r1_wp  (hN:∀a',Frm 345 [(2,s_2),(3,s_3),(4,s_4),(7,.int .i64 (1:Nat))] a'→Q .normal a' w):∀ac,Frm 345 [(2,s_2),(3,s_3),(4,s_4)] ac→Code.wp Tryd.prog c_tb_r1 Q ac w := by
  refine fO (frame_tb ?_)
  intros
  rename_i hq
  iterate 3 (obtain ⟨e,hq⟩ := hq; obtain rfl := sI e; clear e)
  clear hq
  conv=>arg 2; whnf
  replace hN := Lib.hid hN
  go_wp2_with fail
  exact hN.out _ (by exact fR rfl rfl rfl)
def c_tb_r2 := sp 99 19 cF28
theorem tb_r2_wp  (hN:∀a',Frm 345 [(2,.slice Dv mv ev),(3,s_3),(4,s_4),(7,s_7),(34,.int .i64 (mv:Nat)),(35,.int .i64 (0:Nat))] a'→Q .normal a' w):∀ac,Frm 345 [(2,.slice Dv mv ev),(3,s_3),(4,s_4),(7,s_7)] ac→Code.wp Tryd.prog c_tb_r2 Q ac w := by
  refine fO (frame_tb ?_)
  intros
  rename_i hq
  iterate 4 (obtain ⟨e,hq⟩ := hq; obtain rfl := sI e; clear e)
  clear hq
  conv=>arg 2; whnf
  replace hN := Lib.hid hN
  go_wp2_with fail
  exact hN.out _ (by exact fR rfl rfl rfl)
def c_tb_r3 := sp 99 139 cF28
theorem tb_r3_wp (hN:∀a',Frm 345 [(2,s_2),(3,s_3),(4,s_4),(7,s_7),(34,.int .i64 (mv:Nat)),(35,.int .i64 (j:Nat)),(36,.bool (decide (j<mv)))] a'→Q .normal a' w):∀ac,Frm 345 [(2,s_2),(3,s_3),(4,s_4),(7,s_7),(34,.int .i64 (mv:Nat)),(35,.int .i64 (j:Nat))] ac→Code.wp Tryd.prog c_tb_r3 Q ac w := by
  refine fO (frame_tb ?_)
  intros
  rename_i hq
  iterate 6 (obtain ⟨e,hq⟩ := hq; obtain rfl := sI e; clear e)
  clear hq
  conv=>arg 2; whnf
  by_cases h:j<mv
  · have t1:decide ((j:Int)<(mv:Int))=true := by first | exact decide_eq_true (by omega) | exact beq_iff_eq.2 (by omega) | exact bne_iff_ne.2 (by omega)
    have t2:(decide (j<mv))=true := decide_eq_true h
    rw [t2] at hN
    clear h
    replace hN := Lib.hid hN
    go_wp2_with fail
    exact hN.out _ (by exact fR rfl rfl rfl)
  · have t1:decide ((j:Int)<(mv:Int))=false := by first | exact decide_eq_false (by omega) | exact beq_eq_false_iff_ne.2 (by omega) | exact bne_eq_false_iff_eq.2 (by omega)
    have t2:(decide (j<mv))=false := decide_eq_false h
    rw [t2] at hN
    clear h
    replace hN := Lib.hid hN
    go_wp2_with fail
    exact hN.out _ (by exact fR rfl rfl rfl)
def c_tb_r4 := sp 99 1227 cF28
theorem tb_r4_wp {p:Nat} {s_35:Value} (hgm:w.heap[gm]?=some (.cells #[.int .i64 z,.slice Am nm1 cm,.slice Bm nm2 dm] 25 (0,0)))  (hN:∀a',Frm 345 [(2,s_2),(3,.pointer (some ⟨gm,0,none⟩)),(4,s_4),(7,.int .i64 (RowKit.wrap64 ((p:Nat) * z))),(34,s_34),(35,s_35)] a'→Q .normal a' w):∀ac,Frm 345 [(2,s_2),(3,.pointer (some ⟨gm,0,none⟩)),(4,s_4),(7,.int .i64 (p:Nat)),(34,s_34),(35,s_35)] ac→Code.wp Tryd.prog c_tb_r4 Q ac w := by
  refine fO (frame_tb ?_)
  intros
  rename_i hq
  iterate 6 (obtain ⟨e,hq⟩ := hq; obtain rfl := sI e; clear e)
  clear hq
  conv=>arg 2; whnf
  have m0 := cellv hgm 0 rfl
  have m1 := cellv hgm 1 rfl
  have m2 := cellv hgm 2 rfl
  have ml := lt_heap hgm
  clear hgm
  replace hN := Lib.hid hN
  go_wp2_with fail
  exact hN.out _ (by exact fR rfl rfl rfl)
def c_tb_r5 := sp 99 971 cF28
theorem tb_r5_wp (hj:j≤1000)  (hN:∀a',Frm 345 [(2,s_2),(3,s_3),(4,s_4),(7,s_7),(34,s_34),(35,.int .i64 (j+1:Nat))] a'→Q .normal a' w):∀ac,Frm 345 [(2,s_2),(3,s_3),(4,s_4),(7,s_7),(34,s_34),(35,.int .i64 (j:Nat))] ac→Code.wp Tryd.prog c_tb_r5 Q ac w := by
  refine fO (frame_tb ?_)
  intros
  rename_i hq
  iterate 6 (obtain ⟨e,hq⟩ := hq; obtain rfl := sI e; clear e)
  clear hq
  conv=>arg 2; whnf
  have h9:(j:Int)≤1000 := by omega
  replace hN := Lib.hid hN
  go_wp2_with fail
  exact hN.out _ (by exact fR rfl rfl rfl)
def c_tb_r6 := sp 99 23 cF28
theorem tb_r6_wp (hn9:NN≤100000)  (hN:∀a',Frm 345 [(2,s_2),(3,s_3),(4,s_4),(8,.slice (some ⟨w.heap.size,0,none⟩) NN NN)] a'→Q .normal a' (w.alloc (.cells (madeCells #[.bool false] NN) 4))):∀ac,Frm 345 [(2,s_2),(3,s_3),(4,s_4),(7,.int .i64 (NN:Nat))] ac→Code.wp Tryd.prog c_tb_r6 Q ac w := by
  refine fO (frame_tb ?_)
  intros
  rename_i hq
  iterate 4 (obtain ⟨e,hq⟩ := hq; obtain rfl := sI e; clear e)
  clear hq
  conv=>arg 2; whnf
  have hmk := fun W:World=>run_make_row' (P := Tryd.prog) 41 4 (.bool false) 1 Tryd.underlying41 infoBo rfl .i64 .i64 NN (by omega) (by omega) W
  replace hN := Lib.hid hN
  go_wp2_with fail
  exact hN.out _ (by exact fR rfl rfl rfl)
def c_tb_r7 := sp 99 79 cF28
theorem tb_r7_wp {gf:Nat} (ha:w.heap[gf]?=some (.cells #[.int .i64 kd,.string nm,.slice A n1 c1,.slice B n2 c2] 29 (0,0)))  (hN:∀a',Frm 345 [(2,s_2),(3,s_3),(4,.pointer (some ⟨gf,0,none⟩)),(8,s_8),(45,.int .i64 kd)] a'→Q .normal a' w):∀ac,Frm 345 [(2,s_2),(3,s_3),(4,.pointer (some ⟨gf,0,none⟩)),(8,s_8)] ac→Code.wp Tryd.prog c_tb_r7 Q ac w := by
  refine fO (frame_tb ?_)
  intros
  rename_i hq
  iterate 4 (obtain ⟨e,hq⟩ := hq; obtain rfl := sI e; clear e)
  clear hq
  conv=>arg 2; whnf
  have a0 := cellv ha 0 rfl
  have a1 := cellv ha 1 rfl
  have a2 := cellv ha 2 rfl
  have a3 := cellv ha 3 rfl
  have al := lt_heap ha
  clear ha
  replace hN := Lib.hid hN
  go_wp2_with fail
  exact hN.out _ (by exact fR rfl rfl rfl)
def c_tb_r25 := sp 99 303 cF28
theorem tb_r25_wp (hN:∀a',Frm 345 [(2,s_2),(3,s_3),(4,s_4),(8,s_8),(45,.int .i64 kd),(129,.bool (decide (kd=1)))] a'→Q .normal a' w):∀ac,Frm 345 [(2,s_2),(3,s_3),(4,s_4),(8,s_8),(45,.int .i64 kd)] ac→Code.wp Tryd.prog c_tb_r25 Q ac w := by
  refine fO (frame_tb ?_)
  intros
  rename_i hq
  iterate 5 (obtain ⟨e,hq⟩ := hq; obtain rfl := sI e; clear e)
  clear hq
  conv=>arg 2; whnf
  by_cases h:kd=1
  · have t1:(kd == 1)=true := by first | exact decide_eq_true (by omega) | exact beq_iff_eq.2 (by omega) | exact bne_iff_ne.2 (by omega)
    have t2:(decide (kd=1))=true := decide_eq_true h
    rw [t2] at hN
    clear h
    replace hN := Lib.hid hN
    go_wp2_with fail
    exact hN.out _ (by exact fR rfl rfl rfl)
  · have t1:(kd == 1)=false := by first | exact decide_eq_false (by omega) | exact beq_eq_false_iff_ne.2 (by omega) | exact bne_eq_false_iff_eq.2 (by omega)
    have t2:(decide (kd=1))=false := decide_eq_false h
    rw [t2] at hN
    clear h
    replace hN := Lib.hid hN
    go_wp2_with fail
    exact hN.out _ (by exact fR rfl rfl rfl)
def c_tb_r31 := sp 99 2479 cF28
theorem tb_r31_wp (hN:∀a',Frm 345 [(2,s_2),(3,s_3),(4,s_4),(8,s_8),(45,.int .i64 kd),(140,.bool (decide (kd=2)))] a'→Q .normal a' w):∀ac,Frm 345 [(2,s_2),(3,s_3),(4,s_4),(8,s_8),(45,.int .i64 kd)] ac→Code.wp Tryd.prog c_tb_r31 Q ac w := by
  refine fO (frame_tb ?_)
  intros
  rename_i hq
  iterate 5 (obtain ⟨e,hq⟩ := hq; obtain rfl := sI e; clear e)
  clear hq
  conv=>arg 2; whnf
  by_cases h:kd=2
  · have t1:(kd == 2)=true := by first | exact decide_eq_true (by omega) | exact beq_iff_eq.2 (by omega) | exact bne_iff_ne.2 (by omega)
    have t2:(decide (kd=2))=true := decide_eq_true h
    rw [t2] at hN
    clear h
    replace hN := Lib.hid hN
    go_wp2_with fail
    exact hN.out _ (by exact fR rfl rfl rfl)
  · have t1:(kd == 2)=false := by first | exact decide_eq_false (by omega) | exact beq_eq_false_iff_ne.2 (by omega) | exact bne_eq_false_iff_eq.2 (by omega)
    have t2:(decide (kd=2))=false := decide_eq_false h
    rw [t2] at hN
    clear h
    replace hN := Lib.hid hN
    go_wp2_with fail
    exact hN.out _ (by exact fR rfl rfl rfl)
def c_tb_r32 := sp 99 7599 cF28
theorem tb_r32_wp (hN:∀a',Frm 345 [(2,s_2),(3,s_3),(4,s_4),(8,s_8),(45,.int .i64 kd),(140,.bool (decide (kd=3)))] a'→Q .normal a' w):∀ac,Frm 345 [(2,s_2),(3,s_3),(4,s_4),(8,s_8),(45,.int .i64 kd),(140,.bool b1)] ac→Code.wp Tryd.prog c_tb_r32 Q ac w := by
  refine fO (frame_tb ?_)
  intros
  rename_i hq
  iterate 6 (obtain ⟨e,hq⟩ := hq; obtain rfl := sI e; clear e)
  clear hq
  conv=>arg 2; whnf
  by_cases h:kd=3
  · have t1:(kd == 3)=true := by first | exact decide_eq_true (by omega) | exact beq_iff_eq.2 (by omega) | exact bne_iff_ne.2 (by omega)
    have t2:(decide (kd=3))=true := decide_eq_true h
    rw [t2] at hN
    clear h
    replace hN := Lib.hid hN
    go_wp2_with fail
    exact hN.out _ (by exact fR rfl rfl rfl)
  · have t1:(kd == 3)=false := by first | exact decide_eq_false (by omega) | exact beq_eq_false_iff_ne.2 (by omega) | exact bne_eq_false_iff_eq.2 (by omega)
    have t2:(decide (kd=3))=false := decide_eq_false h
    rw [t2] at hN
    clear h
    replace hN := Lib.hid hN
    go_wp2_with fail
    exact hN.out _ (by exact fR rfl rfl rfl)
def c_tb_r74 := sp 99 10159 cF28
theorem tb_r74_wp (hN:∀a',Frm 345 [(2,s_2),(3,s_3),(4,s_4),(8,s_8),(45,.int .i64 kd),(275,.bool (decide (kd=8)))] a'→Q .normal a' w):∀ac,Frm 345 [(2,s_2),(3,s_3),(4,s_4),(8,s_8),(45,.int .i64 kd)] ac→Code.wp Tryd.prog c_tb_r74 Q ac w := by
  refine fO (frame_tb ?_)
  intros
  rename_i hq
  iterate 5 (obtain ⟨e,hq⟩ := hq; obtain rfl := sI e; clear e)
  clear hq
  conv=>arg 2; whnf
  by_cases h:kd=8
  · have t1:(kd == 8)=true := by first | exact decide_eq_true (by omega) | exact beq_iff_eq.2 (by omega) | exact bne_iff_ne.2 (by omega)
    have t2:(decide (kd=8))=true := decide_eq_true h
    rw [t2] at hN
    clear h
    replace hN := Lib.hid hN
    go_wp2_with fail
    exact hN.out _ (by exact fR rfl rfl rfl)
  · have t1:(kd == 8)=false := by first | exact decide_eq_false (by omega) | exact beq_eq_false_iff_ne.2 (by omega) | exact bne_eq_false_iff_eq.2 (by omega)
    have t2:(decide (kd=8))=false := decide_eq_false h
    rw [t2] at hN
    clear h
    replace hN := Lib.hid hN
    go_wp2_with fail
    exact hN.out _ (by exact fR rfl rfl rfl)
def c_tb_r75 := sp 99 30639 cF28
theorem tb_r75_wp (hN:∀a',Frm 345 [(2,s_2),(3,s_3),(4,s_4),(8,s_8),(45,.int .i64 kd),(275,.bool (decide (kd=9)))] a'→Q .normal a' w):∀ac,Frm 345 [(2,s_2),(3,s_3),(4,s_4),(8,s_8),(45,.int .i64 kd),(275,.bool b1)] ac→Code.wp Tryd.prog c_tb_r75 Q ac w := by
  refine fO (frame_tb ?_)
  intros
  rename_i hq
  iterate 6 (obtain ⟨e,hq⟩ := hq; obtain rfl := sI e; clear e)
  clear hq
  conv=>arg 2; whnf
  by_cases h:kd=9
  · have t1:(kd == 9)=true := by first | exact decide_eq_true (by omega) | exact beq_iff_eq.2 (by omega) | exact bne_iff_ne.2 (by omega)
    have t2:(decide (kd=9))=true := decide_eq_true h
    rw [t2] at hN
    clear h
    replace hN := Lib.hid hN
    go_wp2_with fail
    exact hN.out _ (by exact fR rfl rfl rfl)
  · have t1:(kd == 9)=false := by first | exact decide_eq_false (by omega) | exact beq_eq_false_iff_ne.2 (by omega) | exact bne_eq_false_iff_eq.2 (by omega)
    have t2:(decide (kd=9))=false := decide_eq_false h
    rw [t2] at hN
    clear h
    replace hN := Lib.hid hN
    go_wp2_with fail
    exact hN.out _ (by exact fR rfl rfl rfl)
def c_tb_r26 := sp 99 1199 cF28
theorem tb_r26_wp  (hN:∀a',Frm 345 [(2,s_2),(3,s_3),(4,s_4),(8,.slice (some ⟨go,0,none⟩) NN NN),(132,.int .i64 (NN:Nat)),(133,.int .i64 (0:Nat))] a'→Q .normal a' w):∀ac,Frm 345 [(2,s_2),(3,s_3),(4,s_4),(8,.slice (some ⟨go,0,none⟩) NN NN)] ac→Code.wp Tryd.prog c_tb_r26 Q ac w := by
  refine fO (frame_tb ?_)
  intros
  rename_i hq
  iterate 4 (obtain ⟨e,hq⟩ := hq; obtain rfl := sI e; clear e)
  clear hq
  conv=>arg 2; whnf
  replace hN := Lib.hid hN
  go_wp2_with fail
  exact hN.out _ (by exact fR rfl rfl rfl)
def c_tb_r27 := sp 99 8879 cF28
theorem tb_r27_wp (hN:∀a',Frm 345 [(2,s_2),(3,s_3),(4,s_4),(8,s_8),(132,.int .i64 (NN:Nat)),(133,.int .i64 (i:Nat)),(134,.bool (decide (i<NN)))] a'→Q .normal a' w):∀ac,Frm 345 [(2,s_2),(3,s_3),(4,s_4),(8,s_8),(132,.int .i64 (NN:Nat)),(133,.int .i64 (i:Nat))] ac→Code.wp Tryd.prog c_tb_r27 Q ac w := by
  refine fO (frame_tb ?_)
  intros
  rename_i hq
  iterate 6 (obtain ⟨e,hq⟩ := hq; obtain rfl := sI e; clear e)
  clear hq
  conv=>arg 2; whnf
  by_cases h:i<NN
  · have t1:decide ((i:Int)<(NN:Int))=true := by first | exact decide_eq_true (by omega) | exact beq_iff_eq.2 (by omega) | exact bne_iff_ne.2 (by omega)
    have t2:(decide (i<NN))=true := decide_eq_true h
    rw [t2] at hN
    clear h
    replace hN := Lib.hid hN
    go_wp2_with fail
    exact hN.out _ (by exact fR rfl rfl rfl)
  · have t1:decide ((i:Int)<(NN:Int))=false := by first | exact decide_eq_false (by omega) | exact beq_eq_false_iff_ne.2 (by omega) | exact bne_eq_false_iff_eq.2 (by omega)
    have t2:(decide (i<NN))=false := decide_eq_false h
    rw [t2] at hN
    clear h
    replace hN := Lib.hid hN
    go_wp2_with fail
    exact hN.out _ (by exact fR rfl rfl rfl)
def c_tb_r28 := sp 99 144047 cF28
theorem tb_r28_wp  (hN:∀a',Frm 345 [(2,s_2),(3,s_3),(4,s_4),(8,s_8),(132,s_132),(133,.int .i64 (i:Nat)),(9,.int .i64 (i:Nat))] a'→Q .normal a' w):∀ac,Frm 345 [(2,s_2),(3,s_3),(4,s_4),(8,s_8),(132,s_132),(133,.int .i64 (i:Nat))] ac→Code.wp Tryd.prog c_tb_r28 Q ac w := by
  refine fO (frame_tb ?_)
  intros
  rename_i hq
  iterate 6 (obtain ⟨e,hq⟩ := hq; obtain rfl := sI e; clear e)
  clear hq
  conv=>arg 2; whnf
  replace hN := Lib.hid hN
  go_wp2_with fail
  exact hN.out _ (by exact fR rfl rfl rfl)
def c_tb_r29 := sp 99 209583 cF28
theorem tb_r29_wp {ob:Bool} {s_133:Value} (hi:i<NN) (ho:w.cell? ⟨go,i,none⟩=some (.bool ob)) (hf:w.frozen? ⟨go,i,none⟩=false) (hgl:go<w.heap.size)  (hN:∀a',Frm 345 [(2,s_2),(3,s_3),(4,s_4),(8,.slice (some ⟨go,0,none⟩) NN NN),(132,s_132),(133,s_133)] a'→Q .normal a' (w.setCell ⟨go,i,none⟩ (.bool true))):∀ac,Frm 345 [(2,s_2),(3,s_3),(4,s_4),(8,.slice (some ⟨go,0,none⟩) NN NN),(132,s_132),(133,s_133),(9,.int .i64 (i:Nat))] ac→Code.wp Tryd.prog c_tb_r29 Q ac w := by
  refine fO (frame_tb ?_)
  intros
  rename_i hq
  iterate 7 (obtain ⟨e,hq⟩ := hq; obtain rfl := sI e; clear e)
  clear hq
  conv=>arg 2; whnf
  have q0:(0:Int)≤(i:Int) := by omega
  have q1:(i:Int)<(NN:Int) := by omega
  replace hN := Lib.hid hN
  go_wp2_with fail
  exact hN.out _ (by exact fR rfl rfl rfl)
def c_tb_r30 := sp 99 62127 cF28
theorem tb_r30_wp (hi:i≤100000)  (hN:∀a',Frm 345 [(2,s_2),(3,s_3),(4,s_4),(8,s_8),(132,s_132),(133,.int .i64 (i+1:Nat))] a'→Q .normal a' w):∀ac,Frm 345 [(2,s_2),(3,s_3),(4,s_4),(8,s_8),(132,s_132),(133,.int .i64 (i:Nat))] ac→Code.wp Tryd.prog c_tb_r30 Q ac w := by
  refine fO (frame_tb ?_)
  intros
  rename_i hq
  iterate 6 (obtain ⟨e,hq⟩ := hq; obtain rfl := sI e; clear e)
  clear hq
  conv=>arg 2; whnf
  have h9:(i:Int)≤100000 := by omega
  replace hN := Lib.hid hN
  go_wp2_with fail
  exact hN.out _ (by exact fR rfl rfl rfl)
def c_tb_r33 := sp 99 5039 cF28
theorem tb_r33_wp  (hN:∀a',Frm 345 [(2,s_2),(3,s_3),(4,s_4),(8,.slice (some ⟨go,0,none⟩) NN NN),(144,.int .i64 (NN:Nat)),(145,.int .i64 (0:Nat))] a'→Q .normal a' w):∀ac,Frm 345 [(2,s_2),(3,s_3),(4,s_4),(8,.slice (some ⟨go,0,none⟩) NN NN)] ac→Code.wp Tryd.prog c_tb_r33 Q ac w := by
  refine fO (frame_tb ?_)
  intros
  rename_i hq
  iterate 4 (obtain ⟨e,hq⟩ := hq; obtain rfl := sI e; clear e)
  clear hq
  conv=>arg 2; whnf
  replace hN := Lib.hid hN
  go_wp2_with fail
  exact hN.out _ (by exact fR rfl rfl rfl)
def c_tb_r34 := sp 99 35759 cF28
theorem tb_r34_wp (hN:∀a',Frm 345 [(2,s_2),(3,s_3),(4,s_4),(8,s_8),(144,.int .i64 (NN:Nat)),(145,.int .i64 (i:Nat)),(146,.bool (decide (i<NN)))] a'→Q .normal a' w):∀ac,Frm 345 [(2,s_2),(3,s_3),(4,s_4),(8,s_8),(144,.int .i64 (NN:Nat)),(145,.int .i64 (i:Nat))] ac→Code.wp Tryd.prog c_tb_r34 Q ac w := by
  refine fO (frame_tb ?_)
  intros
  rename_i hq
  iterate 6 (obtain ⟨e,hq⟩ := hq; obtain rfl := sI e; clear e)
  clear hq
  conv=>arg 2; whnf
  by_cases h:i<NN
  · have t1:decide ((i:Int)<(NN:Int))=true := by first | exact decide_eq_true (by omega) | exact beq_iff_eq.2 (by omega) | exact bne_iff_ne.2 (by omega)
    have t2:(decide (i<NN))=true := decide_eq_true h
    rw [t2] at hN
    clear h
    replace hN := Lib.hid hN
    go_wp2_with fail
    exact hN.out _ (by exact fR rfl rfl rfl)
  · have t1:decide ((i:Int)<(NN:Int))=false := by first | exact decide_eq_false (by omega) | exact beq_eq_false_iff_ne.2 (by omega) | exact bne_eq_false_iff_eq.2 (by omega)
    have t2:(decide (i<NN))=false := decide_eq_false h
    rw [t2] at hN
    clear h
    replace hN := Lib.hid hN
    go_wp2_with fail
    exact hN.out _ (by exact fR rfl rfl rfl)
def c_tb_r35 := sp 99 576431 cF28
theorem tb_r35_wp  (hN:∀a',Frm 345 [(2,s_2),(3,s_3),(4,s_4),(8,s_8),(144,s_144),(145,.int .i64 (i:Nat)),(10,.int .i64 (i:Nat))] a'→Q .normal a' w):∀ac,Frm 345 [(2,s_2),(3,s_3),(4,s_4),(8,s_8),(144,s_144),(145,.int .i64 (i:Nat))] ac→Code.wp Tryd.prog c_tb_r35 Q ac w := by
  refine fO (frame_tb ?_)
  intros
  rename_i hq
  iterate 6 (obtain ⟨e,hq⟩ := hq; obtain rfl := sI e; clear e)
  clear hq
  conv=>arg 2; whnf
  replace hN := Lib.hid hN
  go_wp2_with fail
  exact hN.out _ (by exact fR rfl rfl rfl)
def c_tb_r36 := sp 99 1362863 cF28
theorem tb_r36_wp (hm9:mv≤1000)  (hN:∀a',Frm 345 [(2,.slice Dv mv ev),(3,s_3),(4,s_4),(8,s_8),(144,s_144),(145,s_145),(10,s_10),(11,.slice (some ⟨w.heap.size,0,none⟩) mv mv)] a'→Q .normal a' (w.alloc (.cells (madeCells #[.int .i64 0] mv) 3))):∀ac,Frm 345 [(2,.slice Dv mv ev),(3,s_3),(4,s_4),(8,s_8),(144,s_144),(145,s_145),(10,s_10)] ac→Code.wp Tryd.prog c_tb_r36 Q ac w := by
  refine fO (frame_tb ?_)
  intros
  rename_i hq
  iterate 7 (obtain ⟨e,hq⟩ := hq; obtain rfl := sI e; clear e)
  clear hq
  conv=>arg 2; whnf
  have hmk := fun W:World=>run_make_row' (P := Tryd.prog) 39 3 (.int .i64 0) 8 Tryd.underlying39 infoInt rfl .i64 .i64 mv (by omega) (by omega) W
  replace hN := Lib.hid hN
  go_wp2_with fail
  exact hN.out _ (by exact fR rfl rfl rfl)
def c_tb_r37 := sp 99 5032879 cF28
theorem tb_r37_wp (hm9:mv≤1000)  (hN:∀a',Frm 345 [(2,.slice Dv mv ev),(3,s_3),(4,s_4),(8,s_8),(144,s_144),(145,s_145),(10,.int .i64 (i:Nat)),(11,s_11),(12,.int .i64 ((mv:Int) - 1)),(13,.int .i64 (i:Nat))] a'→Q .normal a' w):∀ac,Frm 345 [(2,.slice Dv mv ev),(3,s_3),(4,s_4),(8,s_8),(144,s_144),(145,s_145),(10,.int .i64 (i:Nat)),(11,s_11)] ac→Code.wp Tryd.prog c_tb_r37 Q ac w := by
  refine fO (frame_tb ?_)
  intros
  rename_i hq
  iterate 8 (obtain ⟨e,hq⟩ := hq; obtain rfl := sI e; clear e)
  clear hq
  conv=>arg 2; whnf
  have h9:(mv:Int)≤1000 := by omega
  replace hN := Lib.hid hN
  go_wp2_with fail
  exact hN.out _ (by exact fR rfl rfl rfl)
def c_tb_r38 := sp 99 70044591 cF28
theorem tb_r38_wp {q:Int} (hN:∀a',Frm 345 [(2,s_2),(3,s_3),(4,s_4),(8,s_8),(144,s_144),(145,s_145),(10,s_10),(11,s_11),(12,.int .i64 q),(13,s_13),(156,.bool (decide ((0:Int)≤q)))] a'→Q .normal a' w):∀ac,Frm 345 [(2,s_2),(3,s_3),(4,s_4),(8,s_8),(144,s_144),(145,s_145),(10,s_10),(11,s_11),(12,.int .i64 q),(13,s_13)] ac→Code.wp Tryd.prog c_tb_r38 Q ac w := by
  refine fO (frame_tb ?_)
  intros
  rename_i hq
  iterate 10 (obtain ⟨e,hq⟩ := hq; obtain rfl := sI e; clear e)
  clear hq
  conv=>arg 2; whnf
  by_cases h:(0:Int)≤q
  · have t1:decide ((0:Int)≤q)=true := by first | exact decide_eq_true (by omega) | exact beq_iff_eq.2 (by omega) | exact bne_iff_ne.2 (by omega)
    have t2:(decide ((0:Int)≤q))=true := decide_eq_true h
    rw [t2] at hN
    clear h
    replace hN := Lib.hid hN
    go_wp2_with fail
    exact hN.out _ (by exact fR rfl rfl rfl)
  · have t1:decide ((0:Int)≤q)=false := by first | exact decide_eq_false (by omega) | exact beq_eq_false_iff_ne.2 (by omega) | exact bne_eq_false_iff_eq.2 (by omega)
    have t2:(decide ((0:Int)≤q))=false := decide_eq_false h
    rw [t2] at hN
    clear h
    replace hN := Lib.hid hN
    go_wp2_with fail
    exact hN.out _ (by exact fR rfl rfl rfl)
def c_tb_r40 := sp 99 288148399 cF28
theorem tb_r40_wp {v5:Int} {gv:Nat} (hgm:w.heap[gm]?=some (.cells #[.int .i64 z,.slice Am nm1 cm,.slice Bm nm2 dm] 25 (0,0))) (hz:1≤z) (hk:k<mv) (ho:w.cell? ⟨gv,k,none⟩=some (.int .i64 v5)) (hf:w.frozen? ⟨gv,k,none⟩=false) (hgl:gv<w.heap.size)  (hN:∀a',Frm 345 [(2,s_2),(3,.pointer (some ⟨gm,0,none⟩)),(4,s_4),(8,s_8),(144,s_144),(145,s_145),(10,s_10),(11,.slice (some ⟨gv,0,none⟩) mv mv),(12,.int .i64 (k:Nat)),(13,.int .i64 (x:Nat))] a'→Q .normal a' (w.setCell ⟨gv,k,none⟩ (.int .i64 ((x:Int) % z)))):∀ac,Frm 345 [(2,s_2),(3,.pointer (some ⟨gm,0,none⟩)),(4,s_4),(8,s_8),(144,s_144),(145,s_145),(10,s_10),(11,.slice (some ⟨gv,0,none⟩) mv mv),(12,.int .i64 (k:Nat)),(13,.int .i64 (x:Nat))] ac→Code.wp Tryd.prog c_tb_r40 Q ac w := by
  refine fO (frame_tb ?_)
  intros
  rename_i hq
  iterate 10 (obtain ⟨e,hq⟩ := hq; obtain rfl := sI e; clear e)
  clear hq
  conv=>arg 2; whnf
  have m0 := cellv hgm 0 rfl
  have m1 := cellv hgm 1 rfl
  have m2 := cellv hgm 2 rfl
  have ml := lt_heap hgm
  clear hgm
  have q0:(0:Int)≤(k:Int) := by omega
  have q1:(k:Int)<(mv:Int) := by omega
  have zn:(z == 0)=false := beq_eq_false_iff_ne.2 (by omega)
  replace hN := Lib.hid hN
  go_wp2_with fail
  exact hN.out _ (by exact fR rfl rfl rfl)
def c_tb_r41 := sp 99 422366127 cF28
theorem tb_r41_wp {s_12:Value} (hgm:w.heap[gm]?=some (.cells #[.int .i64 z,.slice Am nm1 cm,.slice Bm nm2 dm] 25 (0,0))) (hz:1≤z)  (hN:∀a',Frm 345 [(2,s_2),(3,.pointer (some ⟨gm,0,none⟩)),(4,s_4),(8,s_8),(144,s_144),(145,s_145),(10,s_10),(11,s_11),(12,s_12),(13,.int .i64 (RowKit.wrap64 ((x:Int) / z)))] a'→Q .normal a' w):∀ac,Frm 345 [(2,s_2),(3,.pointer (some ⟨gm,0,none⟩)),(4,s_4),(8,s_8),(144,s_144),(145,s_145),(10,s_10),(11,s_11),(12,s_12),(13,.int .i64 (x:Nat))] ac→Code.wp Tryd.prog c_tb_r41 Q ac w := by
  refine fO (frame_tb ?_)
  intros
  rename_i hq
  iterate 10 (obtain ⟨e,hq⟩ := hq; obtain rfl := sI e; clear e)
  clear hq
  conv=>arg 2; whnf
  have m0 := cellv hgm 0 rfl
  have m1 := cellv hgm 1 rfl
  have m2 := cellv hgm 2 rfl
  have ml := lt_heap hgm
  clear hgm
  have zn:(z == 0)=false := beq_eq_false_iff_ne.2 (by omega)
  replace hN := Lib.hid hN
  go_wp2_with fail
  exact hN.out _ (by exact fR rfl rfl rfl)
def c_tb_r39 := sp 99 120376239 cF28
theorem tb_r39_wp (hk:k≤1000)  (hN:∀a',Frm 345 [(2,s_2),(3,s_3),(4,s_4),(8,s_8),(144,s_144),(145,s_145),(10,s_10),(11,s_11),(12,.int .i64 ((k:Int) - 1)),(13,s_13)] a'→Q .normal a' w):∀ac,Frm 345 [(2,s_2),(3,s_3),(4,s_4),(8,s_8),(144,s_144),(145,s_145),(10,s_10),(11,s_11),(12,.int .i64 (k:Nat)),(13,s_13)] ac→Code.wp Tryd.prog c_tb_r39 Q ac w := by
  refine fO (frame_tb ?_)
  intros
  rename_i hq
  iterate 10 (obtain ⟨e,hq⟩ := hq; obtain rfl := sI e; clear e)
  clear hq
  conv=>arg 2; whnf
  have h9:(k:Int)≤1000 := by omega
  replace hN := Lib.hid hN
  go_wp2_with fail
  exact hN.out _ (by exact fR rfl rfl rfl)
end
noncomputable section
set_option maxRecDepth 1000000
set_option maxHeartbeats 16000000
variable {Q:Exit→Act→World→Prop} {w:World} {s_2 s_3 s_4 s_8 s_10 s_11 s_144 s_145 v14 s_171 s_172 s_16 s_173 s_17 s_199 s_200 s_201 s_14 s_235 s_236 s_237 s_22 s_254 s_255 s_256:Value} {gf n1 c1 n2 c2 j b o mv ev k gm nm1 cm nm2 dm p gc i NN go et a9 b9 gx nt nu cu:Nat} {A B Am Bm D9 Dt Du:Option Addr} {kd x9 q v5 z ra:Int} {nm s s2:ByteArray} {K:Act→World→Prop} {ob:Bool}

def c_tb_r42 := sp 99 6081455 cF28
theorem tb_r42_wp  (hN:∀a',Frm 345 [(2,s_2),(3,s_3),(4,s_4),(8,s_8),(144,s_144),(145,s_145),(10,s_10),(11,s_11),(14,.slice none 0 0)] a'→Q .normal a' w):∀ac,Frm 345 [(2,s_2),(3,s_3),(4,s_4),(8,s_8),(144,s_144),(145,s_145),(10,s_10),(11,s_11)] ac→Code.wp Tryd.prog c_tb_r42 Q ac w := by
  refine fO (frame_tb ?_)
  intros
  rename_i hq
  iterate 8 (obtain ⟨e,hq⟩ := hq; obtain rfl := sI e; clear e)
  clear hq
  conv=>arg 2; whnf
  replace hN := Lib.hid hN
  go_wp2_with fail
  exact hN.out _ (by exact fR rfl rfl rfl)
def c_tb_r43 := sp 99 20761519 cF28
theorem tb_r43_wp (ha:w.heap[gf]?=some (.cells #[.int .i64 kd,.string nm,.slice A n1 c1,.slice B n2 c2] 29 (0,0)))  (hN:∀a',Frm 345 [(2,s_2),(3,s_3),(4,.pointer (some ⟨gf,0,none⟩)),(8,s_8),(144,s_144),(145,s_145),(10,s_10),(11,s_11),(14,v14),(171,.slice A n1 c1),(172,.int .i64 (n1:Nat)),(173,.int .i64 (0:Nat))] a'→Q .normal a' w):∀ac,Frm 345 [(2,s_2),(3,s_3),(4,.pointer (some ⟨gf,0,none⟩)),(8,s_8),(144,s_144),(145,s_145),(10,s_10),(11,s_11),(14,v14)] ac→Code.wp Tryd.prog c_tb_r43 Q ac w := by
  refine fO (frame_tb ?_)
  intros
  rename_i hq
  iterate 9 (obtain ⟨e,hq⟩ := hq; obtain rfl := sI e; clear e)
  clear hq
  conv=>arg 2; whnf
  have a0 := cellv ha 0 rfl
  have a1 := cellv ha 1 rfl
  have a2 := cellv ha 2 rfl
  have a3 := cellv ha 3 rfl
  have al := lt_heap ha
  clear ha
  replace hN := Lib.hid hN
  go_wp2_with fail
  exact hN.out _ (by exact fR rfl rfl rfl)
def c_tb_r44 := sp 99 146590639 cF28
theorem tb_r44_wp (hN:∀a',Frm 345 [(2,s_2),(3,s_3),(4,s_4),(8,s_8),(144,s_144),(145,s_145),(10,s_10),(11,s_11),(14,v14),(171,s_171),(172,.int .i64 (n1:Nat)),(173,.int .i64 (j:Nat)),(174,.bool (decide (j<n1)))] a'→Q .normal a' w):∀ac,Frm 345 [(2,s_2),(3,s_3),(4,s_4),(8,s_8),(144,s_144),(145,s_145),(10,s_10),(11,s_11),(14,v14),(171,s_171),(172,.int .i64 (n1:Nat)),(173,.int .i64 (j:Nat))] ac→Code.wp Tryd.prog c_tb_r44 Q ac w := by
  refine fO (frame_tb ?_)
  intros
  rename_i hq
  iterate 12 (obtain ⟨e,hq⟩ := hq; obtain rfl := sI e; clear e)
  clear hq
  conv=>arg 2; whnf
  by_cases h:j<n1
  · have t1:decide ((j:Int)<(n1:Int))=true := by first | exact decide_eq_true (by omega) | exact beq_iff_eq.2 (by omega) | exact bne_iff_ne.2 (by omega)
    have t2:(decide (j<n1))=true := decide_eq_true h
    rw [t2] at hN
    clear h
    replace hN := Lib.hid hN
    go_wp2_with fail
    exact hN.out _ (by exact fR rfl rfl rfl)
  · have t1:decide ((j:Int)<(n1:Int))=false := by first | exact decide_eq_false (by omega) | exact beq_eq_false_iff_ne.2 (by omega) | exact bne_eq_false_iff_eq.2 (by omega)
    have t2:(decide (j<n1))=false := decide_eq_false h
    rw [t2] at hN
    clear h
    replace hN := Lib.hid hN
    go_wp2_with fail
    exact hN.out _ (by exact fR rfl rfl rfl)
def c_tb_r45 := sp 99 2361183151 cF28
theorem tb_r45_wp (hj:j<n1) (hc0:w.cell? ⟨b,o+j,none⟩=some (.string s)) (hbl:b<w.heap.size)  (hN:∀a',Frm 345 [(2,s_2),(3,s_3),(4,s_4),(8,s_8),(144,s_144),(145,s_145),(10,s_10),(11,s_11),(14,v14),(171,.slice (some ⟨b,o,none⟩) n1 c1),(172,s_172),(173,.int .i64 (j:Nat)),(16,.string s)] a'→Q .normal a' w):∀ac,Frm 345 [(2,s_2),(3,s_3),(4,s_4),(8,s_8),(144,s_144),(145,s_145),(10,s_10),(11,s_11),(14,v14),(171,.slice (some ⟨b,o,none⟩) n1 c1),(172,s_172),(173,.int .i64 (j:Nat))] ac→Code.wp Tryd.prog c_tb_r45 Q ac w := by
  refine fO (frame_tb ?_)
  intros
  rename_i hq
  iterate 12 (obtain ⟨e,hq⟩ := hq; obtain rfl := sI e; clear e)
  clear hq
  conv=>arg 2; whnf
  have q0:(0:Int)≤(j:Int) := by omega
  have q1:(j:Int)<(n1:Int) := by omega
  replace hN := Lib.hid hN
  go_wp2_with fail
  exact hN.out _ (by exact fR rfl rfl rfl)
def c_tb_r46 := sp 99 5582408623 cF28
theorem tb_r46_wp  (hN:∀a',Frm 345 [(2,s_2),(3,s_3),(4,s_4),(8,s_8),(144,s_144),(145,s_145),(10,s_10),(11,s_11),(14,v14),(171,s_171),(172,s_172),(173,s_173),(16,s_16),(17,.int .i64 (-1))] a'→Q .normal a' w):∀ac,Frm 345 [(2,s_2),(3,s_3),(4,s_4),(8,s_8),(144,s_144),(145,s_145),(10,s_10),(11,s_11),(14,v14),(171,s_171),(172,s_172),(173,s_173),(16,s_16)] ac→Code.wp Tryd.prog c_tb_r46 Q ac w := by
  refine fO (frame_tb ?_)
  intros
  rename_i hq
  iterate 13 (obtain ⟨e,hq⟩ := hq; obtain rfl := sI e; clear e)
  clear hq
  conv=>arg 2; whnf
  replace hN := Lib.hid hN
  go_wp2_with fail
  exact hN.out _ (by exact fR rfl rfl rfl)
def c_tb_r47 := sp 99 20614794159 cF28
theorem tb_r47_wp {Dv:Option Addr} (hm9:mv≤1000)  (hN:∀a',Frm 345 [(2,.slice Dv mv ev),(3,s_3),(4,s_4),(8,s_8),(144,s_144),(145,s_145),(10,s_10),(11,s_11),(14,v14),(171,s_171),(172,s_172),(173,s_173),(16,s_16),(17,s_17),(18,.int .i64 ((mv:Int) - 1))] a'→Q .normal a' w):∀ac,Frm 345 [(2,.slice Dv mv ev),(3,s_3),(4,s_4),(8,s_8),(144,s_144),(145,s_145),(10,s_10),(11,s_11),(14,v14),(171,s_171),(172,s_172),(173,s_173),(16,s_16),(17,s_17)] ac→Code.wp Tryd.prog c_tb_r47 Q ac w := by
  refine fO (frame_tb ?_)
  intros
  rename_i hq
  iterate 14 (obtain ⟨e,hq⟩ := hq; obtain rfl := sI e; clear e)
  clear hq
  conv=>arg 2; whnf
  have h9:(mv:Int)≤1000 := by omega
  replace hN := Lib.hid hN
  go_wp2_with fail
  exact hN.out _ (by exact fR rfl rfl rfl)
def c_tb_r48 := sp 99 286902766511 cF28
theorem tb_r48_wp (hN:∀a',Frm 345 [(2,s_2),(3,s_3),(4,s_4),(8,s_8),(144,s_144),(145,s_145),(10,s_10),(11,s_11),(14,v14),(171,s_171),(172,s_172),(173,s_173),(16,s_16),(17,.int .i64 x9),(18,.int .i64 q),(185,.bool (decide ((0:Int)≤q∧x9<0)))] a'→Q .normal a' w):∀ac,Frm 345 [(2,s_2),(3,s_3),(4,s_4),(8,s_8),(144,s_144),(145,s_145),(10,s_10),(11,s_11),(14,v14),(171,s_171),(172,s_172),(173,s_173),(16,s_16),(17,.int .i64 x9),(18,.int .i64 q)] ac→Code.wp Tryd.prog c_tb_r48 Q ac w := by
  refine fO (frame_tb ?_)
  intros
  rename_i hq
  iterate 15 (obtain ⟨e,hq⟩ := hq; obtain rfl := sI e; clear e)
  clear hq
  conv=>arg 2; whnf
  by_cases h:(0:Int)≤q
  · have t1:decide ((0:Int)≤q)=true := decide_eq_true h
    by_cases h2:x9<0
    · have t2:decide (x9<0)=true := decide_eq_true h2
      rw [show decide ((0:Int)≤q∧x9<0)=true from decide_eq_true ⟨h,h2⟩] at hN
      clear h h2
      replace hN := Lib.hid hN
      go_wp2_with fail
      exact hN.out _ (by exact fR rfl rfl rfl)
    · have t2:decide (x9<0)=false := decide_eq_false h2
      rw [show decide ((0:Int)≤q∧x9<0)=false from decide_eq_false (fun hh=>h2 hh.2)] at hN
      clear h h2
      replace hN := Lib.hid hN
      go_wp2_with fail
      exact hN.out _ (by exact fR rfl rfl rfl)
  · have t1:decide ((0:Int)≤q)=false := decide_eq_false h
    rw [show decide ((0:Int)≤q∧x9<0)=false from decide_eq_false (fun hh=>h hh.1)] at hN
    clear h
    replace hN := Lib.hid hN
    go_wp2_with fail
    exact hN.out _ (by exact fR rfl rfl rfl)
def c_tb_r50 := sp 99 1180255964079 cF28
theorem tb_r50_wp (hk:k<mv) (hc0:w.cell? ⟨b,o+k,none⟩=some (.string s2)) (hbl:b<w.heap.size) (hN:∀a',Frm 345 [(2,.slice (some ⟨b,o,none⟩) mv ev),(3,s_3),(4,s_4),(8,s_8),(144,s_144),(145,s_145),(10,s_10),(11,s_11),(14,v14),(171,s_171),(172,s_172),(173,s_173),(16,.string s),(17,s_17),(18,.int .i64 (k:Nat)),(193,.bool (decide (s2=s)))] a'→Q .normal a' w):∀ac,Frm 345 [(2,.slice (some ⟨b,o,none⟩) mv ev),(3,s_3),(4,s_4),(8,s_8),(144,s_144),(145,s_145),(10,s_10),(11,s_11),(14,v14),(171,s_171),(172,s_172),(173,s_173),(16,.string s),(17,s_17),(18,.int .i64 (k:Nat))] ac→Code.wp Tryd.prog c_tb_r50 Q ac w := by
  refine fO (frame_tb ?_)
  intros
  rename_i hq
  iterate 15 (obtain ⟨e,hq⟩ := hq; obtain rfl := sI e; clear e)
  clear hq
  conv=>arg 2; whnf
  have q0:(0:Int)≤(k:Int) := by omega
  have q1:(k:Int)<(mv:Int) := by omega
  by_cases h:s2=s
  · have t1:(s2.toList == s.toList)=true := by rw [h]; simp
    rw [show decide (s2=s)=true from decide_eq_true h] at hN
    clear h
    replace hN := Lib.hid hN
    go_wp2_with fail
    exact hN.out _ (by exact fR rfl rfl rfl)
  · have t1:(s2.toList == s.toList)=false := by
      refine beq_eq_false_iff_ne.2 (fun e=>h (bytes_inj e))
    rw [show decide (s2=s)=false from decide_eq_false h] at hN
    clear h
    replace hN := Lib.hid hN
    go_wp2_with fail
    exact hN.out _ (by exact fR rfl rfl rfl)
def c_tb_r51 := sp 99 2829523405743 cF28
theorem tb_r51_wp {gv:Nat} (hk:k<mv) (hc0:w.cell? ⟨gv,k,none⟩=some (.int .i64 v5)) (hgl:gv<w.heap.size)  (hN:∀a',Frm 345 [(2,s_2),(3,s_3),(4,s_4),(8,s_8),(144,s_144),(145,s_145),(10,s_10),(11,.slice (some ⟨gv,0,none⟩) mv mv),(14,v14),(171,s_171),(172,s_172),(173,s_173),(16,s_16),(17,.int .i64 v5),(18,.int .i64 (k:Nat))] a'→Q .normal a' w):∀ac,Frm 345 [(2,s_2),(3,s_3),(4,s_4),(8,s_8),(144,s_144),(145,s_145),(10,s_10),(11,.slice (some ⟨gv,0,none⟩) mv mv),(14,v14),(171,s_171),(172,s_172),(173,s_173),(16,s_16),(17,.int .i64 x9),(18,.int .i64 (k:Nat))] ac→Code.wp Tryd.prog c_tb_r51 Q ac w := by
  refine fO (frame_tb ?_)
  intros
  rename_i hq
  iterate 15 (obtain ⟨e,hq⟩ := hq; obtain rfl := sI e; clear e)
  clear hq
  conv=>arg 2; whnf
  have q0:(0:Int)≤(k:Int) := by omega
  have q1:(k:Int)<(mv:Int) := by omega
  replace hN := Lib.hid hN
  go_wp2_with fail
  exact hN.out _ (by exact fR rfl rfl rfl)
def c_tb_r49 := sp 99 493061196719 cF28
theorem tb_r49_wp (hk:k≤1000)  (hN:∀a',Frm 345 [(2,s_2),(3,s_3),(4,s_4),(8,s_8),(144,s_144),(145,s_145),(10,s_10),(11,s_11),(14,v14),(171,s_171),(172,s_172),(173,s_173),(16,s_16),(17,s_17),(18,.int .i64 ((k:Int) - 1))] a'→Q .normal a' w):∀ac,Frm 345 [(2,s_2),(3,s_3),(4,s_4),(8,s_8),(144,s_144),(145,s_145),(10,s_10),(11,s_11),(14,v14),(171,s_171),(172,s_172),(173,s_173),(16,s_16),(17,s_17),(18,.int .i64 (k:Nat))] ac→Code.wp Tryd.prog c_tb_r49 Q ac w := by
  refine fO (frame_tb ?_)
  intros
  rename_i hq
  iterate 15 (obtain ⟨e,hq⟩ := hq; obtain rfl := sI e; clear e)
  clear hq
  conv=>arg 2; whnf
  have h9:(k:Int)≤1000 := by omega
  replace hN := Lib.hid hN
  go_wp2_with fail
  exact hN.out _ (by exact fR rfl rfl rfl)
def c_tb_r52 := sp 99 42089630639 cF28
theorem tb_r52_wp (hgm:w.heap[gm]?=some (.cells #[.int .i64 z,.slice Am nm1 cm,.slice Bm nm2 dm] 25 (0,0)))  (hN:∀a',Frm 345 [(2,s_2),(3,.pointer (some ⟨gm,0,none⟩)),(4,s_4),(8,s_8),(144,s_144),(145,s_145),(10,s_10),(11,s_11),(14,v14),(171,s_171),(172,s_172),(173,s_173),(16,s_16),(17,s_17),(199,.slice Am nm1 cm),(200,.int .i64 (nm1:Nat)),(201,.int .i64 (0:Nat))] a'→Q .normal a' w):∀ac,Frm 345 [(2,s_2),(3,.pointer (some ⟨gm,0,none⟩)),(4,s_4),(8,s_8),(144,s_144),(145,s_145),(10,s_10),(11,s_11),(14,v14),(171,s_171),(172,s_172),(173,s_173),(16,s_16),(17,s_17)] ac→Code.wp Tryd.prog c_tb_r52 Q ac w := by
  refine fO (frame_tb ?_)
  intros
  rename_i hq
  iterate 14 (obtain ⟨e,hq⟩ := hq; obtain rfl := sI e; clear e)
  clear hq
  conv=>arg 2; whnf
  have m0 := cellv hgm 0 rfl
  have m1 := cellv hgm 1 rfl
  have m2 := cellv hgm 2 rfl
  have ml := lt_heap hgm
  clear hgm
  replace hN := Lib.hid hN
  go_wp2_with fail
  exact hN.out _ (by exact fR rfl rfl rfl)
def c_tb_r53 := sp 99 299787668399 cF28
theorem tb_r53_wp (hN:∀a',Frm 345 [(2,s_2),(3,s_3),(4,s_4),(8,s_8),(144,s_144),(145,s_145),(10,s_10),(11,s_11),(14,v14),(171,s_171),(172,s_172),(173,s_173),(16,s_16),(17,s_17),(199,s_199),(200,.int .i64 (nm1:Nat)),(201,.int .i64 (p:Nat)),(202,.bool (decide (p<nm1)))] a'→Q .normal a' w):∀ac,Frm 345 [(2,s_2),(3,s_3),(4,s_4),(8,s_8),(144,s_144),(145,s_145),(10,s_10),(11,s_11),(14,v14),(171,s_171),(172,s_172),(173,s_173),(16,s_16),(17,s_17),(199,s_199),(200,.int .i64 (nm1:Nat)),(201,.int .i64 (p:Nat))] ac→Code.wp Tryd.prog c_tb_r53 Q ac w := by
  refine fO (frame_tb ?_)
  intros
  rename_i hq
  iterate 17 (obtain ⟨e,hq⟩ := hq; obtain rfl := sI e; clear e)
  clear hq
  conv=>arg 2; whnf
  by_cases h:p<nm1
  · have t1:decide ((p:Int)<(nm1:Int))=true := by first | exact decide_eq_true (by omega) | exact beq_iff_eq.2 (by omega) | exact bne_iff_ne.2 (by omega)
    have t2:(decide (p<nm1))=true := decide_eq_true h
    rw [t2] at hN
    clear h
    replace hN := Lib.hid hN
    go_wp2_with fail
    exact hN.out _ (by exact fR rfl rfl rfl)
  · have t1:decide ((p:Int)<(nm1:Int))=false := by first | exact decide_eq_false (by omega) | exact beq_eq_false_iff_ne.2 (by omega) | exact bne_eq_false_iff_eq.2 (by omega)
    have t2:(decide (p<nm1))=false := decide_eq_false h
    rw [t2] at hN
    clear h
    replace hN := Lib.hid hN
    go_wp2_with fail
    exact hN.out _ (by exact fR rfl rfl rfl)
def c_tb_r54 := sp 99 4835273132975 cF28
theorem tb_r54_wp (hp:p<nm1) (e0:w.cell? ⟨b,o+p * 2,none⟩=some (.string s2)) (e1:w.cell? ⟨b,o+p * 2+1,none⟩=some (.int .i64 v5)) (hbl:b<w.heap.size)  (hN:∀a',Frm 345 [(2,s_2),(3,s_3),(4,s_4),(8,s_8),(144,s_144),(145,s_145),(10,s_10),(11,s_11),(14,v14),(171,s_171),(172,s_172),(173,s_173),(16,s_16),(17,s_17),(199,.slice (some ⟨b,o,none⟩) nm1 cm),(200,s_200),(201,.int .i64 (p:Nat)),(20,.pointer (some ⟨w.heap.size,0,none⟩))] a'→Q .normal a' (w.alloc (.cells #[.string s2,.int .i64 v5] 49))):∀ac,Frm 345 [(2,s_2),(3,s_3),(4,s_4),(8,s_8),(144,s_144),(145,s_145),(10,s_10),(11,s_11),(14,v14),(171,s_171),(172,s_172),(173,s_173),(16,s_16),(17,s_17),(199,.slice (some ⟨b,o,none⟩) nm1 cm),(200,s_200),(201,.int .i64 (p:Nat))] ac→Code.wp Tryd.prog c_tb_r54 Q ac w := by
  refine fO (frame_tb ?_)
  intros
  rename_i hq
  iterate 17 (obtain ⟨e,hq⟩ := hq; obtain rfl := sI e; clear e)
  clear hq
  conv=>arg 2; whnf
  have q0:(0:Int)≤(p:Int) := by omega
  have q1:(p:Int)<(nm1:Int) := by omega
  replace hN := Lib.hid hN
  go_wp2_with fail
  exact hN.out _ (by exact fR rfl rfl rfl)
def c_tb_r55 := sp 99 11432342899631 cF28
theorem tb_r55_wp (he:w.heap[gc]?=some (.cells #[.string s2,.int .i64 v5] 49 (0,0))) (hN:∀a',Frm 345 [(2,s_2),(3,s_3),(4,s_4),(8,s_8),(144,s_144),(145,s_145),(10,s_10),(11,s_11),(14,v14),(171,s_171),(172,s_172),(173,s_173),(16,.string s),(17,.int .i64 x9),(199,s_199),(200,s_200),(201,s_201),(20,.pointer (some ⟨gc,0,none⟩)),(212,.bool (decide (x9<0∧s2=s)))] a'→Q .normal a' w):∀ac,Frm 345 [(2,s_2),(3,s_3),(4,s_4),(8,s_8),(144,s_144),(145,s_145),(10,s_10),(11,s_11),(14,v14),(171,s_171),(172,s_172),(173,s_173),(16,.string s),(17,.int .i64 x9),(199,s_199),(200,s_200),(201,s_201),(20,.pointer (some ⟨gc,0,none⟩))] ac→Code.wp Tryd.prog c_tb_r55 Q ac w := by
  refine fO (frame_tb ?_)
  intros
  rename_i hq
  iterate 18 (obtain ⟨e,hq⟩ := hq; obtain rfl := sI e; clear e)
  clear hq
  conv=>arg 2; whnf
  have e0 := cellv he 0 rfl
  have e1 := cellv he 1 rfl
  have el := lt_heap he
  clear he
  by_cases h:x9<0
  · have t0:decide (x9<0)=true := decide_eq_true h
    by_cases h2:s2=s
    · have t1:(s2.toList == s.toList)=true := by rw [h2]; simp
      rw [show decide (x9<0∧s2=s)=true from decide_eq_true ⟨h,h2⟩] at hN
      clear h h2
      replace hN := Lib.hid hN
      go_wp2_with fail
      exact hN.out _ (by exact fR rfl rfl rfl)
    · have t1:(s2.toList == s.toList)=false := beq_eq_false_iff_ne.2 (fun e=>h2 (bytes_inj e))
      rw [show decide (x9<0∧s2=s)=false from decide_eq_false (fun hh=>h2 hh.2)] at hN
      clear h h2
      replace hN := Lib.hid hN
      go_wp2_with fail
      exact hN.out _ (by exact fR rfl rfl rfl)
  · have t0:decide (x9<0)=false := decide_eq_false h
    rw [show decide (x9<0∧s2=s)=false from decide_eq_false (fun hh=>h hh.1)] at hN
    clear h
    replace hN := Lib.hid hN
    go_wp2_with fail
    exact hN.out _ (by exact fR rfl rfl rfl)
def c_tb_r56 := sp 99 24626482432943 cF28
theorem tb_r56_wp (he:w.heap[gc]?=some (.cells #[.string s2,.int .i64 v5] 49 (0,0)))  (hN:∀a',Frm 345 [(2,s_2),(3,s_3),(4,s_4),(8,s_8),(144,s_144),(145,s_145),(10,s_10),(11,s_11),(14,v14),(171,s_171),(172,s_172),(173,s_173),(16,s_16),(17,.int .i64 v5),(199,s_199),(200,s_200),(201,s_201),(20,.pointer (some ⟨gc,0,none⟩))] a'→Q .normal a' w):∀ac,Frm 345 [(2,s_2),(3,s_3),(4,s_4),(8,s_8),(144,s_144),(145,s_145),(10,s_10),(11,s_11),(14,v14),(171,s_171),(172,s_172),(173,s_173),(16,s_16),(17,.int .i64 x9),(199,s_199),(200,s_200),(201,s_201),(20,.pointer (some ⟨gc,0,none⟩))] ac→Code.wp Tryd.prog c_tb_r56 Q ac w := by
  refine fO (frame_tb ?_)
  intros
  rename_i hq
  iterate 18 (obtain ⟨e,hq⟩ := hq; obtain rfl := sI e; clear e)
  clear hq
  conv=>arg 2; whnf
  have e0 := cellv he 0 rfl
  have e1 := cellv he 1 rfl
  have el := lt_heap he
  clear he
  replace hN := Lib.hid hN
  go_wp2_with fail
  exact hN.out _ (by exact fR rfl rfl rfl)
def c_tb_r57 := sp 99 2086494063535 cF28
theorem tb_r57_wp (hp:p≤1000)  (hN:∀a',Frm 345 [(2,s_2),(3,s_3),(4,s_4),(8,s_8),(144,s_144),(145,s_145),(10,s_10),(11,s_11),(14,v14),(171,s_171),(172,s_172),(173,s_173),(16,s_16),(17,s_17),(199,s_199),(200,s_200),(201,.int .i64 (p+1:Nat))] a'→Q .normal a' w):∀ac,Frm 345 [(2,s_2),(3,s_3),(4,s_4),(8,s_8),(144,s_144),(145,s_145),(10,s_10),(11,s_11),(14,v14),(171,s_171),(172,s_172),(173,s_173),(16,s_16),(17,s_17),(199,s_199),(200,s_200),(201,.int .i64 (p:Nat))] ac→Code.wp Tryd.prog c_tb_r57 Q ac w := by
  refine fO (frame_tb ?_)
  intros
  rename_i hq
  iterate 17 (obtain ⟨e,hq⟩ := hq; obtain rfl := sI e; clear e)
  clear hq
  conv=>arg 2; whnf
  have h9:(p:Int)≤1000 := by omega
  replace hN := Lib.hid hN
  go_wp2_with fail
  exact hN.out _ (by exact fR rfl rfl rfl)
def c_tb_r58 := sp 99 33499696047 cF28
theorem tb_r58_wp {n9:Nat} {A9:Option Addr} {c9:Nat} {xs:List Value} {base:Nat} (hl:n9≤1000000) (hrow:w.ownsRow base 3 1 (.slice A9 n9 c9) n9 xs) (hbw:base≤w.heap.size) (hN:∀v' a' w',Frm 345 [(2,s_2),(3,s_3),(4,s_4),(8,s_8),(144,s_144),(145,s_145),(10,s_10),(11,s_11),(14,v'),(171,s_171),(172,s_172),(173,s_173)] a'→w'.ownsRow base 3 1 v' (n9+1) (xs++[.int .i64 x9])→Below base w w'→w.heap.size≤w'.heap.size→(∀k,k<w.heap.size→Value.ownBlock (.slice A9 n9 c9)≠some k→w'.heap[k]?=w.heap[k]?)→Q .normal a' w'):∀ac,Frm 345 [(2,s_2),(3,s_3),(4,s_4),(8,s_8),(144,s_144),(145,s_145),(10,s_10),(11,s_11),(14,(.slice A9 n9 c9)),(171,s_171),(172,s_172),(173,s_173),(16,s_16),(17,.int .i64 x9)] ac→Code.wp Tryd.prog c_tb_r58 Q ac w := by
  refine fO (frame_tb ?_)
  intros
  rename_i hq
  iterate 14 (obtain ⟨e,hq⟩ := hq; obtain rfl := sI e; clear e)
  clear hq
  conv=>arg 2; whnf
  obtain ⟨ti,hti,ht0,ht1,ht2⟩ := info_parts infoInt
  have HN := Lib.hid hN
  have HROW := Lib.hid hrow
  clear hN hrow
  go_wp2_with (at_builtin; refine wpList_append_lies (w.alloc (.cells #[.int .i64 x9] 3)) ?h1 (.tmp 216) (.tmp 218) 39 ?h2 base 3 ti (.int .i64 0) 1 8 ?h3 hti ht0 ht1 ht2 ?h4 ?h5 (.slice A9 n9 c9) n9 xs ?h6 ?h7 ⟨w.heap.size,0,none⟩ 1 1 [.int .i64 x9] ?h8 ?h9 ?h10 ?h11 ?h12 ?h13 ?h14 ?h15 (w.heap.size+1) ?h16 ?_)
  try (case h1=>rfl)
  try (case h2=>rfl)
  try (case h3=>exact Tryd.underlying39)
  try (case h4=>rfl)
  try (case h5=>omega)
  try (case h6=>rfl)
  try (case h7=>exact HROW.out.alloc _)
  try (case h8=>rfl)
  try (case h9=>rfl)
  try (case h10=>exact World.news_of_block (cs := #[.int .i64 x9]) (t := 3) (fr := (0,0)) (heap_alloc_new w _))
  try (case h11=>simp [Value.oneCell'])
  try (case h12=>omega)
  try (case h13=>first | (simp [maxLen]; omega) | (unfold maxLen; omega))
  try (case h14=>omega)
  try (case h15=>first | omega | (simp; omega))
  try (case h16=>first | rfl | simp)
  intro gg cap w6 hown3 hgrow hat hlt
  have hkp:∀k,k<w.heap.size→Value.ownBlock (.slice A9 n9 c9)≠some k→w6.heap[k]?=w.heap[k]? := fun k hk hne=>(hgrow.block k (by simp; omega) (fun e=>hne e.symm)).trans (heap_old hk rfl)
  have hsz6:w.heap.size≤w6.heap.size := by have := hgrow.size; simp at this; omega
  have hbg:Below base w w6 := ((Below.refl base w).alloc hbw _).trans (below_of_grown9 hgrow (own_ge9 HROW.out) (by simp; omega))
  have HKP := Lib.hid hkp
  have HBG := Lib.hid hbg
  have HOWN := Lib.hid hown3
  clear hown3 hgrow hat hbg hlt hkp
  go_wp2_with fail
  exact HN.out _ _ _ (by exact fR rfl rfl rfl) HOWN.out HBG.out hsz6 HKP.out
def c_tb_r59 := sp 99 1019005871 cF28
theorem tb_r59_wp (hj:j≤1000)  (hN:∀a',Frm 345 [(2,s_2),(3,s_3),(4,s_4),(8,s_8),(144,s_144),(145,s_145),(10,s_10),(11,s_11),(14,v14),(171,s_171),(172,s_172),(173,.int .i64 (j+1:Nat))] a'→Q .normal a' w):∀ac,Frm 345 [(2,s_2),(3,s_3),(4,s_4),(8,s_8),(144,s_144),(145,s_145),(10,s_10),(11,s_11),(14,v14),(171,s_171),(172,s_172),(173,.int .i64 (j:Nat))] ac→Code.wp Tryd.prog c_tb_r59 Q ac w := by
  refine fO (frame_tb ?_)
  intros
  rename_i hq
  iterate 12 (obtain ⟨e,hq⟩ := hq; obtain rfl := sI e; clear e)
  clear hq
  conv=>arg 2; whnf
  have h9:(j:Int)≤1000 := by omega
  replace hN := Lib.hid hN
  go_wp2_with fail
  exact hN.out _ (by exact fR rfl rfl rfl)
def c_tb_r60 := sp 99 41733039 cF28
theorem tb_r60_wp (ha:w.heap[gf]?=some (.cells #[.int .i64 kd,.string nm,.slice A n1 c1,.slice B n2 c2] 29 (0,0))) (hN:∀a',Frm 345 [(2,s_2),(3,s_3),(4,.pointer (some ⟨gf,0,none⟩)),(8,s_8),(144,s_144),(145,s_145),(10,s_10),(14,s_14),(223,.bool (decide (kd=3)))] a'→Q .normal a' w):∀ac,Frm 345 [(2,s_2),(3,s_3),(4,.pointer (some ⟨gf,0,none⟩)),(8,s_8),(144,s_144),(145,s_145),(10,s_10),(14,s_14)] ac→Code.wp Tryd.prog c_tb_r60 Q ac w := by
  refine fO (frame_tb ?_)
  intros
  rename_i hq
  iterate 8 (obtain ⟨e,hq⟩ := hq; obtain rfl := sI e; clear e)
  clear hq
  conv=>arg 2; whnf
  have a0 := cellv ha 0 rfl
  have a1 := cellv ha 1 rfl
  have a2 := cellv ha 2 rfl
  have a3 := cellv ha 3 rfl
  have al := lt_heap ha
  clear ha
  by_cases h:kd=3
  · have t1:(kd == 3)=true := by first | exact decide_eq_true (by omega) | exact beq_iff_eq.2 (by omega) | exact bne_iff_ne.2 (by omega)
    have t2:(decide (kd=3))=true := decide_eq_true h
    rw [t2] at hN
    clear h
    replace hN := Lib.hid hN
    go_wp2_with fail
    exact hN.out _ (by exact fR rfl rfl rfl)
  · have t1:(kd == 3)=false := by first | exact decide_eq_false (by omega) | exact beq_eq_false_iff_ne.2 (by omega) | exact bne_eq_false_iff_eq.2 (by omega)
    have t2:(decide (kd=3))=false := decide_eq_false h
    rw [t2] at hN
    clear h
    replace hN := Lib.hid hN
    go_wp2_with fail
    exact hN.out _ (by exact fR rfl rfl rfl)
def c_tb_r61 := sp 99 159173551 cF28
theorem tb_r61_wp (hi:i<NN) (ho:w.cell? ⟨go,i,none⟩=some (.bool ob)) (hf:w.frozen? ⟨go,i,none⟩=false) (hgl:go<w.heap.size) (e0:w.cell? ⟨b,o,none⟩=some (.int .i64 v5)) (e1:w.cell? ⟨b,o+1,none⟩=some (.int .i64 q)) (hbl:b<w.heap.size) (hN:∀a' w',Frm 345 [(2,s_2),(3,s_3),(4,s_4),(8,.slice (some ⟨go,0,none⟩) NN NN),(144,s_144),(145,s_145)] a'→(w'=(w.setCell ⟨go,i,none⟩ (.bool (decide (v5=q)))).drew∨w'=(w.drew).setCell ⟨go,i,none⟩ (.bool (decide (v5=q))))→K a' w'):∀ac,Frm 345 [(2,s_2),(3,s_3),(4,s_4),(8,.slice (some ⟨go,0,none⟩) NN NN),(144,s_144),(145,s_145),(10,.int .i64 (i:Nat)),(14,.slice (some ⟨b,o,none⟩) 2 et)] ac→Code.wp Tryd.prog c_tb_r61 (Exit.then K (fun _ _ _=>False)) ac w := by
  refine fO (frame_tb ?_)
  intros
  rename_i hq
  iterate 8 (obtain ⟨e,hq⟩ := hq; obtain rfl := sI e; clear e)
  clear hq
  conv=>arg 2; whnf
  have q0:(0:Int)≤(i:Int) := by omega
  have q1:(i:Int)<(NN:Int) := by omega
  by_cases h:v5=q
  · have t1:(v5 == q)=true := beq_iff_eq.2 h
    rw [decide_eq_true h] at hN
    clear h
    replace hN := Lib.hid hN
    go_region
    all_goals go_wp2_with fail
    all_goals exact hN.out _ _ (by exact fR rfl rfl rfl) (by first | exact Or.inl rfl | exact Or.inr rfl)
  · have t1:(v5 == q)=false := beq_eq_false_iff_ne.2 h
    rw [decide_eq_false h] at hN
    clear h
    replace hN := Lib.hid hN
    go_region
    all_goals go_wp2_with fail
    all_goals exact hN.out _ _ (by exact fR rfl rfl rfl) (by first | exact Or.inl rfl | exact Or.inr rfl)
def c_tb_r62 := sp 99 50121647 cF28
theorem tb_r62_wp (hgm:w.heap[gm]?=some (.cells #[.int .i64 z,.slice Am nm1 cm,.slice Bm nm2 dm] 25 (0,0)))  (hN:∀a',Frm 345 [(2,s_2),(3,.pointer (some ⟨gm,0,none⟩)),(4,s_4),(8,s_8),(144,s_144),(145,s_145),(10,s_10),(14,s_14),(235,.slice Bm nm2 dm),(236,.int .i64 (nm2:Nat)),(237,.int .i64 (0:Nat))] a'→Q .normal a' w):∀ac,Frm 345 [(2,s_2),(3,.pointer (some ⟨gm,0,none⟩)),(4,s_4),(8,s_8),(144,s_144),(145,s_145),(10,s_10),(14,s_14)] ac→Code.wp Tryd.prog c_tb_r62 Q ac w := by
  refine fO (frame_tb ?_)
  intros
  rename_i hq
  iterate 8 (obtain ⟨e,hq⟩ := hq; obtain rfl := sI e; clear e)
  clear hq
  conv=>arg 2; whnf
  have m0 := cellv hgm 0 rfl
  have m1 := cellv hgm 1 rfl
  have m2 := cellv hgm 2 rfl
  have ml := lt_heap hgm
  clear hgm
  replace hN := Lib.hid hN
  go_wp2_with fail
  exact hN.out _ (by exact fR rfl rfl rfl)
def c_tb_r63 := sp 99 301779887 cF28
theorem tb_r63_wp (hN:∀a',Frm 345 [(2,s_2),(3,s_3),(4,s_4),(8,s_8),(144,s_144),(145,s_145),(10,s_10),(14,s_14),(235,s_235),(236,.int .i64 (nm2:Nat)),(237,.int .i64 (p:Nat)),(238,.bool (decide (p<nm2)))] a'→Q .normal a' w):∀ac,Frm 345 [(2,s_2),(3,s_3),(4,s_4),(8,s_8),(144,s_144),(145,s_145),(10,s_10),(14,s_14),(235,s_235),(236,.int .i64 (nm2:Nat)),(237,.int .i64 (p:Nat))] ac→Code.wp Tryd.prog c_tb_r63 Q ac w := by
  refine fO (frame_tb ?_)
  intros
  rename_i hq
  iterate 11 (obtain ⟨e,hq⟩ := hq; obtain rfl := sI e; clear e)
  clear hq
  conv=>arg 2; whnf
  by_cases h:p<nm2
  · have t1:decide ((p:Int)<(nm2:Int))=true := by first | exact decide_eq_true (by omega) | exact beq_iff_eq.2 (by omega) | exact bne_iff_ne.2 (by omega)
    have t2:(decide (p<nm2))=true := decide_eq_true h
    rw [t2] at hN
    clear h
    replace hN := Lib.hid hN
    go_wp2_with fail
    exact hN.out _ (by exact fR rfl rfl rfl)
  · have t1:decide ((p:Int)<(nm2:Int))=false := by first | exact decide_eq_false (by omega) | exact beq_eq_false_iff_ne.2 (by omega) | exact bne_eq_false_iff_eq.2 (by omega)
    have t2:(decide (p<nm2))=false := decide_eq_false h
    rw [t2] at hN
    clear h
    replace hN := Lib.hid hN
    go_wp2_with fail
    exact hN.out _ (by exact fR rfl rfl rfl)
def c_tb_r64 := sp 99 4730964911 cF28
theorem tb_r64_wp (hp:p<nm2) (e0:w.cell? ⟨b,o+p * 3,none⟩=some (.string s2)) (e1:w.cell? ⟨b,o+p * 3+1,none⟩=some (.int .i64 ra)) (e2:w.cell? ⟨b,o+p * 3+2,none⟩=some (.slice D9 a9 b9)) (hbl:b<w.heap.size)  (hN:∀a',Frm 345 [(2,s_2),(3,s_3),(4,s_4),(8,s_8),(144,s_144),(145,s_145),(10,s_10),(14,s_14),(235,.slice (some ⟨b,o,none⟩) nm2 dm),(236,s_236),(237,.int .i64 (p:Nat)),(22,.pointer (some ⟨w.heap.size,0,none⟩))] a'→Q .normal a' (w.alloc (.cells #[.string s2,.int .i64 ra,.slice D9 a9 b9] 59))):∀ac,Frm 345 [(2,s_2),(3,s_3),(4,s_4),(8,s_8),(144,s_144),(145,s_145),(10,s_10),(14,s_14),(235,.slice (some ⟨b,o,none⟩) nm2 dm),(236,s_236),(237,.int .i64 (p:Nat))] ac→Code.wp Tryd.prog c_tb_r64 Q ac w := by
  refine fO (frame_tb ?_)
  intros
  rename_i hq
  iterate 11 (obtain ⟨e,hq⟩ := hq; obtain rfl := sI e; clear e)
  clear hq
  conv=>arg 2; whnf
  have q0:(0:Int)≤(p:Int) := by omega
  have q1:(p:Int)<(nm2:Int) := by omega
  replace hN := Lib.hid hN
  go_wp2_with fail
  exact hN.out _ (by exact fR rfl rfl rfl)
def c_tb_r65 := sp 99 19763350447 cF28
theorem tb_r65_wp (he:w.heap[gx]?=some (.cells #[.string s2,.int .i64 ra,.slice D9 a9 b9] 59 (0,0))) (ha:w.heap[gf]?=some (.cells #[.int .i64 kd,.string nm,.slice A n1 c1,.slice B n2 c2] 29 (0,0))) (hN:∀a',Frm 345 [(2,s_2),(3,s_3),(4,.pointer (some ⟨gf,0,none⟩)),(8,s_8),(144,s_144),(145,s_145),(10,s_10),(14,.slice Dt nt et),(235,s_235),(236,s_236),(237,s_237),(22,.pointer (some ⟨gx,0,none⟩)),(252,.bool (!(decide (s2=nm) && decide (ra=(nt:Nat)))))] a'→Q .normal a' w):∀ac,Frm 345 [(2,s_2),(3,s_3),(4,.pointer (some ⟨gf,0,none⟩)),(8,s_8),(144,s_144),(145,s_145),(10,s_10),(14,.slice Dt nt et),(235,s_235),(236,s_236),(237,s_237),(22,.pointer (some ⟨gx,0,none⟩))] ac→Code.wp Tryd.prog c_tb_r65 Q ac w := by
  refine fO (frame_tb ?_)
  intros
  rename_i hq
  iterate 12 (obtain ⟨e,hq⟩ := hq; obtain rfl := sI e; clear e)
  clear hq
  conv=>arg 2; whnf
  have e0 := cellv he 0 rfl
  have e1 := cellv he 1 rfl
  have e2 := cellv he 2 rfl
  have el := lt_heap he
  have a0 := cellv ha 0 rfl
  have a1 := cellv ha 1 rfl
  have a2 := cellv ha 2 rfl
  have a3 := cellv ha 3 rfl
  have al := lt_heap ha
  clear ha
  clear he
  by_cases h:s2=nm
  · have t1:(s2.toList == nm.toList)=true := by rw [h]; simp
    by_cases h2:ra=(nt:Nat)
    · have t2:(ra != (nt:Int))=false := bne_eq_false_iff_eq.2 h2
      rw [decide_eq_true h,decide_eq_true h2] at hN
      simp only [Bool.and_self,Bool.not_true] at hN
      clear h h2
      replace hN := Lib.hid hN
      go_wp2_with fail
      exact hN.out _ (by exact fR rfl rfl rfl)
    · have t2:(ra != (nt:Int))=true := bne_iff_ne.2 h2
      rw [decide_eq_true h,decide_eq_false h2] at hN
      simp only [Bool.and_false,Bool.not_false] at hN
      clear h h2
      replace hN := Lib.hid hN
      go_wp2_with fail
      exact hN.out _ (by exact fR rfl rfl rfl)
  · have t1:(s2.toList == nm.toList)=false := beq_eq_false_iff_ne.2 (fun e=>h (bytes_inj e))
    rw [decide_eq_false h] at hN
    simp only [Bool.false_and,Bool.not_false] at hN
    clear h
    replace hN := Lib.hid hN
    go_wp2_with fail
    exact hN.out _ (by exact fR rfl rfl rfl)
def c_tb_r66 := sp 99 24058317743 cF28
theorem tb_r66_wp (he:w.heap[gx]?=some (.cells #[.string s2,.int .i64 ra,.slice D9 a9 b9] 59 (0,0)))  (hN:∀a',Frm 345 [(2,s_2),(3,s_3),(4,s_4),(8,s_8),(144,s_144),(145,s_145),(10,s_10),(14,s_14),(235,s_235),(236,s_236),(237,s_237),(22,.pointer (some ⟨gx,0,none⟩)),(254,.slice D9 a9 b9),(255,.int .i64 (a9:Nat)),(256,.int .i64 (0:Nat))] a'→Q .normal a' w):∀ac,Frm 345 [(2,s_2),(3,s_3),(4,s_4),(8,s_8),(144,s_144),(145,s_145),(10,s_10),(14,s_14),(235,s_235),(236,s_236),(237,s_237),(22,.pointer (some ⟨gx,0,none⟩))] ac→Code.wp Tryd.prog c_tb_r66 Q ac w := by
  refine fO (frame_tb ?_)
  intros
  rename_i hq
  iterate 12 (obtain ⟨e,hq⟩ := hq; obtain rfl := sI e; clear e)
  clear hq
  conv=>arg 2; whnf
  have e0 := cellv he 0 rfl
  have e1 := cellv he 1 rfl
  have e2 := cellv he 2 rfl
  have el := lt_heap he
  clear he
  replace hN := Lib.hid hN
  go_wp2_with fail
  exact hN.out _ (by exact fR rfl rfl rfl)
def c_tb_r67 := sp 99 152907336623 cF28
theorem tb_r67_wp (hN:∀a',Frm 345 [(2,s_2),(3,s_3),(4,s_4),(8,s_8),(144,s_144),(145,s_145),(10,s_10),(14,s_14),(235,s_235),(236,s_236),(237,s_237),(22,s_22),(254,s_254),(255,.int .i64 (a9:Nat)),(256,.int .i64 (k:Nat)),(257,.bool (decide (k<a9)))] a'→Q .normal a' w):∀ac,Frm 345 [(2,s_2),(3,s_3),(4,s_4),(8,s_8),(144,s_144),(145,s_145),(10,s_10),(14,s_14),(235,s_235),(236,s_236),(237,s_237),(22,s_22),(254,s_254),(255,.int .i64 (a9:Nat)),(256,.int .i64 (k:Nat))] ac→Code.wp Tryd.prog c_tb_r67 Q ac w := by
  refine fO (frame_tb ?_)
  intros
  rename_i hq
  iterate 15 (obtain ⟨e,hq⟩ := hq; obtain rfl := sI e; clear e)
  clear hq
  conv=>arg 2; whnf
  by_cases h:k<a9
  · have t1:decide ((k:Int)<(a9:Int))=true := by first | exact decide_eq_true (by omega) | exact beq_iff_eq.2 (by omega) | exact bne_iff_ne.2 (by omega)
    have t2:(decide (k<a9))=true := decide_eq_true h
    rw [t2] at hN
    clear h
    replace hN := Lib.hid hN
    go_wp2_with fail
    exact hN.out _ (by exact fR rfl rfl rfl)
  · have t1:decide ((k:Int)<(a9:Int))=false := by first | exact decide_eq_false (by omega) | exact beq_eq_false_iff_ne.2 (by omega) | exact bne_eq_false_iff_eq.2 (by omega)
    have t2:(decide (k<a9))=false := decide_eq_false h
    rw [t2] at hN
    clear h
    replace hN := Lib.hid hN
    go_wp2_with fail
    exact hN.out _ (by exact fR rfl rfl rfl)
def c_tb_r68 := sp 99 2420650068911 cF28
theorem tb_r68_wp (hk:k<a9) (e0:w.cell? ⟨b,o+k,none⟩=some (.slice Du nu cu)) (hbl:b<w.heap.size)  (hN:∀a',Frm 345 [(2,s_2),(3,s_3),(4,s_4),(8,s_8),(144,s_144),(145,s_145),(10,s_10),(14,s_14),(235,s_235),(236,s_236),(237,s_237),(22,s_22),(254,.slice (some ⟨b,o,none⟩) a9 b9),(255,s_255),(256,.int .i64 (k:Nat)),(24,.slice Du nu cu)] a'→Q .normal a' w):∀ac,Frm 345 [(2,s_2),(3,s_3),(4,s_4),(8,s_8),(144,s_144),(145,s_145),(10,s_10),(14,s_14),(235,s_235),(236,s_236),(237,s_237),(22,s_22),(254,.slice (some ⟨b,o,none⟩) a9 b9),(255,s_255),(256,.int .i64 (k:Nat))] ac→Code.wp Tryd.prog c_tb_r68 Q ac w := by
  refine fO (frame_tb ?_)
  intros
  rename_i hq
  iterate 15 (obtain ⟨e,hq⟩ := hq; obtain rfl := sI e; clear e)
  clear hq
  conv=>arg 2; whnf
  have q0:(0:Int)≤(k:Int) := by omega
  have q1:(k:Int)<(a9:Int) := by omega
  replace hN := Lib.hid hN
  go_wp2_with fail
  exact hN.out _ (by exact fR rfl rfl rfl)
def c_tb_r69 := sp 99 5719184952239 cF28
theorem tb_r69_wp {k0:Int} {k1:Int} (hgm:w.heap[gm]?=some (.cells #[.int .i64 z,.slice Am nm1 cm,.slice Bm nm2 dm] 25 (0,0))) (hc1:∀W:World,(∀k,k<w.heap.size→W.heap[k]?=w.heap[k]?)→Calls Tryd.prog 37 #[.slice Du nu cu,.int .i64 z] W fun e w'=>e=.returned (.int .i64 k0)∧w'=W) (hc2:∀W:World,(∀k,k<w.heap.size→W.heap[k]?=w.heap[k]?)→Calls Tryd.prog 37 #[.slice Dt nt et,.int .i64 z] W fun e w'=>e=.returned (.int .i64 k1)∧w'=W) (hN:∀a' w',Frm 345 [(2,s_2),(3,.pointer (some ⟨gm,0,none⟩)),(4,s_4),(8,s_8),(144,s_144),(145,s_145),(10,s_10),(14,.slice Dt nt et),(235,s_235),(236,s_236),(237,s_237),(22,s_22),(254,s_254),(255,s_255),(256,s_256),(24,.slice Du nu cu),(268,.bool (decide (k0=k1)))] a'→Below w.heap.size w w'→K a' w'):∀ac,Frm 345 [(2,s_2),(3,.pointer (some ⟨gm,0,none⟩)),(4,s_4),(8,s_8),(144,s_144),(145,s_145),(10,s_10),(14,.slice Dt nt et),(235,s_235),(236,s_236),(237,s_237),(22,s_22),(254,s_254),(255,s_255),(256,s_256),(24,.slice Du nu cu)] ac→Code.wp Tryd.prog c_tb_r69 (Exit.then K (fun _ _ _=>False)) ac w := by
  refine fO (frame_tb ?_)
  intros
  rename_i hq
  iterate 16 (obtain ⟨e,hq⟩ := hq; obtain rfl := sI e; clear e)
  clear hq
  conv=>arg 2; whnf
  have m0 := cellv hgm 0 rfl
  have m1 := cellv hgm 1 rfl
  have m2 := cellv hgm 2 rfl
  have ml := lt_heap hgm
  clear hgm
  by_cases h:k0=k1
  · have t1:(k0 == k1)=true := beq_iff_eq.2 h
    rw [decide_eq_true h] at hN
    clear h
    have HC1 := Lib.hid hc1
    have HC2 := Lib.hid hc2
    have HN := Lib.hid hN
    clear hc1 hc2 hN
    go_region_held3 (fun w'=>w'.cell? ⟨gm,0,none⟩=some (.int .i64 z))
      ((go_keep; done))
      (first
        | ((with_reducible refine (HC1.out _ ?hk).mono ?_); (case hk=>(intro k hk; first | rfl | exact heap_drew rfl)); rintro e w4 ⟨rfl,rfl⟩)
        | ((with_reducible refine (HC2.out _ ?hk).mono ?_); (case hk=>(intro k hk; first | rfl | exact heap_drew rfl)); rintro e w4 ⟨rfl,rfl⟩)
        | fail)
    all_goals go_wp2_with fail
    all_goals exact HN.out _ _ (by exact fR rfl rfl rfl) (by first | exact Below.refl _ _ | exact (Below.refl _ _).drew | go_grown)
  · have t1:(k0 == k1)=false := beq_eq_false_iff_ne.2 h
    rw [decide_eq_false h] at hN
    clear h
    have HC1 := Lib.hid hc1
    have HC2 := Lib.hid hc2
    have HN := Lib.hid hN
    clear hc1 hc2 hN
    go_region_held3 (fun w'=>w'.cell? ⟨gm,0,none⟩=some (.int .i64 z))
      ((go_keep; done))
      (first
        | ((with_reducible refine (HC1.out _ ?hk).mono ?_); (case hk=>(intro k hk; first | rfl | exact heap_drew rfl)); rintro e w4 ⟨rfl,rfl⟩)
        | ((with_reducible refine (HC2.out _ ?hk).mono ?_); (case hk=>(intro k hk; first | rfl | exact heap_drew rfl)); rintro e w4 ⟨rfl,rfl⟩)
        | fail)
    all_goals go_wp2_with fail
    all_goals exact HN.out _ _ (by exact fR rfl rfl rfl) (by first | exact Below.refl _ _ | exact (Below.refl _ _).drew | go_grown)
def c_tb_r70 := sp 99 12316254718895 cF28
theorem tb_r70_wp {s_24:Value} (hi:i<NN) (ho:w.cell? ⟨go,i,none⟩=some (.bool ob)) (hf:w.frozen? ⟨go,i,none⟩=false) (hgl:go<w.heap.size)  (hN:∀a',Frm 345 [(2,s_2),(3,s_3),(4,s_4),(8,.slice (some ⟨go,0,none⟩) NN NN),(144,s_144),(145,s_145),(10,.int .i64 (i:Nat)),(14,s_14),(235,s_235),(236,s_236),(237,s_237),(22,s_22),(254,s_254),(255,s_255),(256,s_256)] a'→Q .normal a' (w.setCell ⟨go,i,none⟩ (.bool true))):∀ac,Frm 345 [(2,s_2),(3,s_3),(4,s_4),(8,.slice (some ⟨go,0,none⟩) NN NN),(144,s_144),(145,s_145),(10,.int .i64 (i:Nat)),(14,s_14),(235,s_235),(236,s_236),(237,s_237),(22,s_22),(254,s_254),(255,s_255),(256,s_256),(24,s_24)] ac→Code.wp Tryd.prog c_tb_r70 Q ac w := by
  refine fO (frame_tb ?_)
  intros
  rename_i hq
  iterate 16 (obtain ⟨e,hq⟩ := hq; obtain rfl := sI e; clear e)
  clear hq
  conv=>arg 2; whnf
  have q0:(0:Int)≤(i:Int) := by omega
  have q1:(i:Int)<(NN:Int) := by omega
  replace hN := Lib.hid hN
  go_wp2_with fail
  exact hN.out _ (by exact fR rfl rfl rfl)
def c_tb_r71 := sp 99 1046260534191 cF28
theorem tb_r71_wp (hk:k≤1000000)  (hN:∀a',Frm 345 [(2,s_2),(3,s_3),(4,s_4),(8,s_8),(144,s_144),(145,s_145),(10,s_10),(14,s_14),(235,s_235),(236,s_236),(237,s_237),(22,s_22),(254,s_254),(255,s_255),(256,.int .i64 (k+1:Nat))] a'→Q .normal a' w):∀ac,Frm 345 [(2,s_2),(3,s_3),(4,s_4),(8,s_8),(144,s_144),(145,s_145),(10,s_10),(14,s_14),(235,s_235),(236,s_236),(237,s_237),(22,s_22),(254,s_254),(255,s_255),(256,.int .i64 (k:Nat))] ac→Code.wp Tryd.prog c_tb_r71 Q ac w := by
  refine fO (frame_tb ?_)
  intros
  rename_i hq
  iterate 15 (obtain ⟨e,hq⟩ := hq; obtain rfl := sI e; clear e)
  clear hq
  conv=>arg 2; whnf
  have h9:(k:Int)≤1000000 := by omega
  replace hN := Lib.hid hN
  go_wp2_with fail
  exact hN.out _ (by exact fR rfl rfl rfl)
def c_tb_r72 := sp 99 2046610351 cF28
theorem tb_r72_wp (hp:p≤1000)  (hN:∀a',Frm 345 [(2,s_2),(3,s_3),(4,s_4),(8,s_8),(144,s_144),(145,s_145),(10,s_10),(14,s_14),(235,s_235),(236,s_236),(237,.int .i64 (p+1:Nat))] a'→Q .normal a' w):∀ac,Frm 345 [(2,s_2),(3,s_3),(4,s_4),(8,s_8),(144,s_144),(145,s_145),(10,s_10),(14,s_14),(235,s_235),(236,s_236),(237,.int .i64 (p:Nat))] ac→Code.wp Tryd.prog c_tb_r72 Q ac w := by
  refine fO (frame_tb ?_)
  intros
  rename_i hq
  iterate 11 (obtain ⟨e,hq⟩ := hq; obtain rfl := sI e; clear e)
  clear hq
  conv=>arg 2; whnf
  have h9:(p:Int)≤1000 := by omega
  replace hN := Lib.hid hN
  go_wp2_with fail
  exact hN.out _ (by exact fR rfl rfl rfl)
def c_tb_r73 := sp 99 248751 cF28
theorem tb_r73_wp (hi:i≤100000)  (hN:∀a',Frm 345 [(2,s_2),(3,s_3),(4,s_4),(8,s_8),(144,s_144),(145,.int .i64 (i+1:Nat))] a'→Q .normal a' w):∀ac,Frm 345 [(2,s_2),(3,s_3),(4,s_4),(8,s_8),(144,s_144),(145,.int .i64 (i:Nat))] ac→Code.wp Tryd.prog c_tb_r73 Q ac w := by
  refine fO (frame_tb ?_)
  intros
  rename_i hq
  iterate 6 (obtain ⟨e,hq⟩ := hq; obtain rfl := sI e; clear e)
  clear hq
  conv=>arg 2; whnf
  have h9:(i:Int)≤100000 := by omega
  replace hN := Lib.hid hN
  go_wp2_with fail
  exact hN.out _ (by exact fR rfl rfl rfl)
end

end Go.Proofs.YthfokmjpbnfihaaDoor
