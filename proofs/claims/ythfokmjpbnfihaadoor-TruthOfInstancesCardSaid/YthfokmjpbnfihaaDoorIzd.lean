/- Lemmas. -/
import Derived.Test.YthfokmjpbnfihaaDoorIzc
namespace Go.Proofs.YthfokmjpbnfihaaDoor
open Go Go.RowKit
set_option linter.unusedSimpArgs false
set_option linter.unusedVariables false
noncomputable section
set_option maxRecDepth 1000000
set_option maxHeartbeats 16000000
variable {wo w:World} {kd:Int} {nm:ByteArray} {A:Option Addr} {n1 c1 n2 c2 g:Nat}

theorem frame_bd {P:Act→Prop} (h:∀x0 x1 x2 x3 x4 x5 x6 x7 x8 x9 x10 x11 x12 x13 x14:Value,P ⟨(x0 :: x1 :: x2 :: x3 :: x4 :: x5 :: x6 :: x7 :: x8 :: x9 :: x10 :: x11 :: x12 :: x13 :: x14 :: []).toArray,[]⟩):∀a:Act,a.tmps.toList.length=15→a.defers=[]→P a := by
  rintro ⟨⟨l⟩,d⟩ hs hd
  simp only at hd
  subst hd
  revert l
  show ∀l:List Value,l.length=15→P ⟨⟨l⟩,[]⟩
  iterate 15 refine openS (fun _=>?_)
  refine open0 ?_
  exact h ..
noncomputable def cF33:Code := Tryd.f33.body.getD .skip
def c_bd_r0 := sp 99 2 cF33
theorem bd_r0_wp {s_1:Value} {Q:Exit→Act→World→Prop} {B:Option Addr} (hN:∀a',Frm 15 [(1,s_1),(2,.pointer (some ⟨wo.heap.size,0,none⟩)),(4,.pointer (some ⟨wo.heap.size+1,0,none⟩))] a'→Q .normal a' ((wo.alloc (.cells #[.int .i64 kd,.string nm,.slice A n1 c1,.slice B n2 c2] 29)).alloc (.cells #[.int .i64 0,.string ⟨#[]⟩,.slice none 0 0,.slice none 0 0] 29))):∀ac,Frm 15 [(0,.agg #[.int .i64 kd,.string nm,.slice A n1 c1,.slice B n2 c2]),(1,s_1)] ac→Code.wp Tryd.prog c_bd_r0 Q ac wo := by
  refine fO (frame_bd ?_)
  intros
  rename_i hq
  iterate 2 (obtain ⟨e,hq⟩ := hq; obtain rfl := sI e; clear e)
  clear hq
  conv=>arg 2; whnf
  replace hN := Lib.hid hN
  go_wp2_with fail
  exact hN.out _ (by exact fR rfl rfl rfl)
def c_bd_r1 := sp 99 5 cF33
theorem bd_r1_wp {K:Act→World→Prop} {PV:Int→ByteArray→Option Addr→Nat→Nat→Option Addr→Nat→Nat→World→Prop} {gz b o:Nat} {y:ByteArray} {ke:Int} {ne:ByteArray} {Ae Be:Option Addr} {n3 c3 n4 c4:Nat} (hn2:0<n2) (ha:w.heap[wo.heap.size]? = some (.cells #[.int .i64 kd,.string nm,.slice A n1 c1,.slice (some ⟨b,o,none⟩) n2 c2] 29 (0,0))) (e0:w.cell? ⟨b,o,none⟩=some (.int .i64 ke)) (e1:w.cell? ⟨b,o+1,none⟩=some (.string ne)) (e2:w.cell? ⟨b,o+2,none⟩=some (.slice Ae n3 c3)) (e3:w.cell? ⟨b,o+3,none⟩=some (.slice Be n4 c4)) (hbl:b<w.heap.size) (hc:∀W:World,Below w.heap.size w W→W.heap[w.heap.size]? = some (.cells #[.string nm,.string y] 88 (0,0))→Calls Tryd.prog 52 #[.agg #[.int .i64 ke,.string ne,.slice Ae n3 c3,.slice Be n4 c4],.slice (some ⟨w.heap.size,0,none⟩) 1 1] W fun e w'=>∃ke ne Ae n3 c3 Be n4 c4,e=.returned (.agg #[.int .i64 ke,.string ne,.slice Ae n3 c3,.slice Be n4 c4])∧w'.heap[gz]? = some (.cells #[.int .i64 0,.string ⟨#[]⟩,.slice none 0 0,.slice none 0 0] 29 (0,0))∧PV ke ne Ae n3 c3 Be n4 c4 w') (hN:∀ke ne Ae n3 c3 Be n4 c4 w1 a' w',Frm 15 [(4,.pointer (some ⟨gz,0,none⟩))] a'→PV ke ne Ae n3 c3 Be n4 c4 w1→w'.heap[gz]? = some (.cells #[.int .i64 ke,.string ne,.slice Ae n3 c3,.slice Be n4 c4] 29 (0,0))→Keeps (·=gz) w1 w'→K a' w'):∀ac,Frm 15 [(1,.string y),(2,.pointer (some ⟨wo.heap.size,0,none⟩)),(4,.pointer (some ⟨gz,0,none⟩))] ac→Code.wp Tryd.prog c_bd_r1 (Exit.then K (fun _ _ _=>False)) ac w := by
  refine fO (frame_bd ?_)
  intros
  rename_i hq
  iterate 3 (obtain ⟨e,hq⟩ := hq; obtain rfl := sI e; clear e)
  clear hq
  conv=>arg 2; whnf
  have q0:(0:Int)≤0 := by omega
  have q1:(0:Int)<(n2:Int) := by omega
  have a1:w.cell? ⟨wo.heap.size,1,none⟩=some (.string nm) := cellv ha 1 rfl
  have a3:w.cell? ⟨wo.heap.size,3,none⟩=some (.slice (some ⟨b,o,none⟩) n2 c2) := cellv ha 3 rfl
  have al := lt_heap ha
  have z0 := fun (W:World) (h:W.heap[gz]? = some (.cells #[.int .i64 0,.string ⟨#[]⟩,.slice none 0 0,.slice none 0 0] 29 (0,0)))=>cellv h 0 rfl
  have z1 := fun (W:World) (h:W.heap[gz]? = some (.cells #[.int .i64 0,.string ⟨#[]⟩,.slice none 0 0,.slice none 0 0] 29 (0,0)))=>cellv h 1 rfl
  have z2 := fun (W:World) (h:W.heap[gz]? = some (.cells #[.int .i64 0,.string ⟨#[]⟩,.slice none 0 0,.slice none 0 0] 29 (0,0)))=>cellv h 2 rfl
  have z3 := fun (W:World) (h:W.heap[gz]? = some (.cells #[.int .i64 0,.string ⟨#[]⟩,.slice none 0 0,.slice none 0 0] 29 (0,0)))=>cellv h 3 rfl
  have zf := fun (W:World) (h:W.heap[gz]? = some (.cells #[.int .i64 0,.string ⟨#[]⟩,.slice none 0 0,.slice none 0 0] 29 (0,0)))=>And.intro (free_heap h 0) (And.intro (free_heap h 1) (And.intro (free_heap h 2) (free_heap h 3)))
  have Z0 := Lib.hid z0
  have Z1 := Lib.hid z1
  have Z2 := Lib.hid z2
  have Z3 := Lib.hid z3
  have ZF := Lib.hid zf
  clear z0 z1 z2 z3 zf ha
  have HN := Lib.hid hN
  have HC := Lib.hid hc
  clear hN hc
  go_region_law (first
    | (refine step_call (by rfl) 52 _ ?hargs (HC.out _ ?hbel ?hcell) ?_; (case hargs=>(go_simp; done)); (case hbel=>(go_grown)); (case hcell=>(first | exact heap_alloc_new _ _ | exact heap_drew (heap_alloc_new _ _) | exact heap_alloc_new w.drew _)); rintro e w1 ⟨ke',ne',Ae',n3',c3',Be',n4',c4',rfl,hz,hp⟩; refine ⟨_,rfl,?_⟩; have y0 := Z0.out w1 hz; have y1 := Z1.out w1 hz; have y2 := Z2.out w1 hz; have y3 := Z3.out w1 hz; obtain ⟨yf0,yf1,yf2,yf3⟩ := ZF.out w1 hz; have yl := lt_heap hz; have HP := Lib.hid hp; have HZ := Lib.hid hz; clear hp hz))
  all_goals go_wp2_with fail
  all_goals exact HN.out _ _ _ _ _ _ _ _ _ _ _ (id ⟨rfl,rfl,rfl,trivial⟩) HP.out (at4F HZ.out) (keeps4F (Keeps.refl _ _) (Or.inl rfl))
theorem bd_ret_wp {R:Ending→World→Prop} {w':World} {v0 v1 v2 v3:Value} (hg:w'.heap[g]? = some (.cells #[v0,v1,v2,v3] 29 (0,0))) (ho:v0.oneCell'=true∧v1.oneCell'=true∧v2.oneCell'=true∧v3.oneCell'=true) (hR:R (.returned (.agg #[v0,v1,v2,v3])) w'):∀ac,Frm 15 [(4,.pointer (some ⟨g,0,none⟩))] ac→bodyPost Tryd.prog Tryd.f33 R .ret ac w' := by
  refine fO (frame_bd ?_)
  intros
  rename_i hq
  iterate 1 (obtain ⟨e,hq⟩ := hq; obtain rfl := sI e; clear e)
  clear hq
  have z0 := cellv hg 0 rfl
  have z1 := cellv hg 1 rfl
  have z2 := cellv hg 2 rfl
  have z3 := cellv hg 3 rfl
  have zl := lt_heap hg
  obtain ⟨o0,o1,o2,o3⟩ := ho
  refine bodyPost_ret (v := .agg #[v0,v1,v2,v3]) (by simp [results,Tryd.results33,go_sem,z0,z1,z2,z3,zl,o0,o1,o2,o3]) rfl ?_
  exact hR
theorem bindS1 {S:Nat→Prop} {a b:ByteArray} {T:TypeId} (hb:w.heap[g]? = some (.cells #[.string a,.string b] T (0,0))) (h1:a.size≤maxLen) (h2:b.size≤maxLen) (hg:S g):bindRep.Sl w S (.slice (some ⟨g,0,none⟩) 1 1) [(a,b)] := by
  refine ⟨_,_,_,rfl,rfl,by decide,fun _=>⟨g,0,[.string a,.string b],rfl,hg,Rep.All.single (a := (a,b)) ⟨rfl,h1,h2⟩,fun j u hj=>?_⟩⟩
  rw [Nat.zero_add]
  match j,hj with
  | 0,hj=>exact (cellv hb 0 rfl).trans (by simpa using hj)
  | 1,hj=>exact (cellv hb 1 rfl).trans (by simpa using hj)
  | n+2,hj=>simp at hj
theorem body_any (kn:Nat) (nm y:ByteArray) (v0:Fv) (hv:(Fv.qu kn nm v0).ok) (hn:(Fv.qu kn nm v0).nodes≤200) (hy:y.size≤maxLen) (cs:List Value) (w:World) (S:Nat→Prop) (ht:fmRep.R w S (Fv.qu kn nm v0).fm cs) (hS:∀b,S b→b<w.heap.size) (htab:∀W,Below w.heap.size w W→Lib.TabIs Tryd.prog W "internal/strconv.uint64pow10" .u64 Lib.pow10Tab) :
    Calls Tryd.prog 33 #[.agg cs.toArray,.string y] w fun e w'=>∃es:List Value,e=.returned (.agg es.toArray)∧fmRep.R w' (fun b=>w.heap.size≤b∧b<w'.heap.size) (canF [(nm,y)] v0.fm) es∧Below w.heap.size w w' := by
  obtain ⟨kd,hkd⟩:∃k:Int,(kn:Int)=k := ⟨_,rfl⟩
  rw [show (Fv.qu kn nm v0).fm=.mk ⟨(kn:Int),nm,[]⟩ [v0.fm] from rfl,hkd] at ht
  have hkid:v0.nodes≤200 := by simp [Fv.nodes] at hn; omega
  obtain ⟨u9,v9,rfl,hnm,hw,hl⟩ := Fm.open_ (a := ⟨kd,nm,[]⟩) (l := [v0.fm]) ht
  simp only at hw hnm
  obtain ⟨A,n1,c1,rfl,e1,hm1,_⟩ := id hw
  obtain ⟨B,n2,c2,rfl,e2,hm2,_⟩ := id hl
  obtain ⟨b,o,ks,rfl,hSb,hr,hc⟩ := Rep.Sl.at_ (k := 0) hl rfl
  obtain ⟨Ae,n3,c3,Be,n4,c4,rfl,_,_,_,_⟩ := Fm.shape hr
  go_enter Tryd.func33,Tryd.ntmps33
  refine wp_seq ?_
  refine bd_r0_wp (fun a0 h0=>?_) _ (id ⟨rfl,rfl,rfl,rfl,trivial⟩)
  refine gen_last (fun wx=>wx.heap[w.heap.size]? = some (.cells #[.int .i64 kd,.string nm,.slice A n1 c1,.slice (some ⟨b,o,none⟩) n2 c2] 29 (0,0))∧wx.heap[w.heap.size+1]? = some (.cells #[.int .i64 0,.string ⟨#[]⟩,.slice none 0 0,.slice none 0 0] 29 (0,0))∧wx.heap.size=w.heap.size+2∧Below w.heap.size w wx) ⟨heap_old (by simp) (heap_at (by simp)),heap_at (by simp),by simp,((Below.refl _ _).alloc (Nat.le_refl _) _).alloc (by simp) _⟩ ?_
  rintro wx ⟨ha,hz,hsz,hb⟩
  have hkb := hb.block b (hS b hSb)
  have hRx := fmRep.keep hr (fun b h=>hb.block b (hS b h)) (fun _ h=>h)
  have hcc:∀W:World,Below wx.heap.size wx W→W.heap[wx.heap.size]? = some (.cells #[.string nm,.string y] 88 (0,0))→Calls Tryd.prog 52 #[.agg #[.int .i64 v0.fm.lab.kind,.string v0.fm.lab.nm,.slice Ae n3 c3,.slice Be n4 c4],.slice (some ⟨wx.heap.size,0,none⟩) 1 1] W (fun e w'=>∃ke ne Ae n3 c3 Be n4 c4,e=.returned (.agg #[.int .i64 ke,.string ne,.slice Ae n3 c3,.slice Be n4 c4])∧w'.heap[w.heap.size+1]? = some (.cells #[.int .i64 0,.string ⟨#[]⟩,.slice none 0 0,.slice none 0 0] 29 (0,0))∧(fmRep.R w' (fun b=>wx.heap.size≤b∧b<w'.heap.size) (canF [(nm,y)] v0.fm) [.int .i64 ke,.string ne,.slice Ae n3 c3,.slice Be n4 c4]∧Below wx.heap.size wx w')) := fun W hbW hcell=>(canon_any v0 hv.2.2 hkid [.int .i64 v0.fm.lab.kind,.string v0.fm.lab.nm,.slice Ae n3 c3,.slice Be n4 c4] W (fun b=>b<W.heap.size) _ 1 1 [(nm,y)] (by simp) (by omega) (Nat.le_refl _) (fmRep.keep hRx (fun b h=>hbW.block b (by have := hS b h; omega)) (fun b h=>by have := hS b h; have := hbW.size; omega)) (fun _ h=>h) (bindS1 hcell hnm hy (lt_heap hcell)) (fun W' h=>htab W' ((hb.trans (hbW.mono (by omega))).trans (h.mono (by have := hbW.size; omega))))).mono (R' := fun e w'=>∃ke ne Ae n3 c3 Be n4 c4,e=.returned (.agg #[.int .i64 ke,.string ne,.slice Ae n3 c3,.slice Be n4 c4])∧w'.heap[w.heap.size+1]? = some (.cells #[.int .i64 0,.string ⟨#[]⟩,.slice none 0 0,.slice none 0 0] 29 (0,0))∧(fmRep.R w' (fun b=>wx.heap.size≤b∧b<w'.heap.size) (canF [(nm,y)] v0.fm) [.int .i64 ke,.string ne,.slice Ae n3 c3,.slice Be n4 c4]∧Below wx.heap.size wx w')) (by
    rintro e w' ⟨es,rfl,hr,hb9⟩
    obtain ⟨A5,n5,c5,B5,n6,c6,rfl,_,_,_,_⟩ := Fm.shape hr
    have hbWs := hbW.size
    exact ⟨_,_,_,_,_,_,_,_,rfl,(hb9.block _ (by have := lt_heap hz; omega)).trans ((hbW.block _ (lt_heap hz)).trans hz),fmRep.keep hr (fun _ _=>rfl) (fun b hb=>⟨by omega,hb.2⟩),hbW.trans (hb9.mono hbWs)⟩)
  refine wp_seq ?_
  refine Code.wp_mono (Q := Exit.then (fun a' w'=>∃ke ne Ae n3 c3 Be n4 c4 w1,Frm 15 [(4,.pointer (some ⟨w.heap.size+1,0,none⟩))] a'∧(fmRep.R w1 (fun b=>wx.heap.size≤b∧b<w1.heap.size) (canF [(nm,y)] v0.fm) [.int .i64 ke,.string ne,.slice Ae n3 c3,.slice Be n4 c4]∧Below wx.heap.size wx w1)∧w'.heap[w.heap.size+1]? = some (.cells #[.int .i64 ke,.string ne,.slice Ae n3 c3,.slice Be n4 c4] 29 (0,0))∧Keeps (·=w.heap.size+1) w1 w') (fun _ _ _=>False)) ?_ (bd_r1_wp (by simp at e2; omega) ha ((cell_keep hkb _).trans (by simpa using hc 0 _ rfl)) ((cell_keep hkb _).trans (by simpa using hc 1 _ rfl)) ((cell_keep hkb _).trans (by simpa using hc 2 _ rfl)) ((cell_keep hkb _).trans (by simpa using hc 3 _ rfl)) (by have := hS b hSb; omega) hcc (fun ke ne Ae n3 c3 Be n4 c4 w1 a' w' h' hp hz hk=>⟨ke,ne,Ae,n3,c3,Be,n4,c4,w1,h',hp,hz,hk⟩) a0 h0)
  intro ex a6 w6 hx
  cases ex with
  | normal =>
    obtain ⟨ke',ne',Ae',n3',c3',Be',n4',c4',w5,h6,hp6,hz6,hk6⟩ := hx
    show Code.wp _ _ _ a6 w6
    obtain ⟨hr5,hb5⟩ := hp6
    have hk6s := hk6.size
    have hb5s := hb5.size
    refine wp_ret ?_
    refine bd_ret_wp hz6 ⟨rfl,rfl,rfl,rfl⟩ ⟨_,rfl,?_,?_⟩ a6 h6
    · exact fmRep.keep hr5 (fun b hb=>hk6.block b hb.2 (by omega)) (fun b hb=>⟨by omega,by omega⟩)
    · have h1:Below w.heap.size w w5 := hb.trans (hb5.mono (by omega))
      exact h1.trans (Keeps.below (B := w.heap.size) hk6 (fun k e=>by have e:k=w.heap.size+1 := e; omega) (by have := h1.size; omega))
  | _=>exact hx.elim
end

end Go.Proofs.YthfokmjpbnfihaaDoor
