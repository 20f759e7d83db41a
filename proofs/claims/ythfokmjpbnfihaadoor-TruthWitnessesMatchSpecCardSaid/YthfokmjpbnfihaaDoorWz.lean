/- Lemmas. -/
import Derived.Test.YthfokmjpbnfihaaDoorWy
namespace Go.Proofs.YthfokmjpbnfihaaDoor
open Go Go.RowKit
set_option linter.unusedSimpArgs false
set_option linter.unusedVariables false
noncomputable section
set_option maxRecDepth 1000000
set_option maxHeartbeats 16000000
variable {w wo:World} {b nm1 cm nm2 dm n1 c1 n2 c2 mv NN:Nat} {v0 v1 v2 v3 s_2 v:Value} {f:Fv} {Q:Exit→Act→World→Prop} {z kd:Int} {Am Bm A B:Option Addr} {nm:ByteArray}

theorem at4S {a0 a1 a2 a3:Value} {T:TypeId} (h:w.heap[b]?=some (.cells #[a0,a1,a2,a3] T (0,0))):((((w.setCell ⟨b,0,none⟩ v0).setCell ⟨b,1,none⟩ v1).setCell ⟨b,2,none⟩ v2).setCell ⟨b,3,none⟩ v3).heap[b]?=some (.cells #[v0,v1,v2,v3] T (0,0)) :=
  heap_set (heap_set (heap_set (heap_set h 0 v0) 1 v1) 2 v2) 3 v3
theorem keeps4S:Keeps (fun k=>k=b) w ((((w.setCell ⟨b,0,none⟩ v0).setCell ⟨b,1,none⟩ v1).setCell ⟨b,2,none⟩ v2).setCell ⟨b,3,none⟩ v3) :=
  Keeps.set (P := fun k=>k=b) (Keeps.set (P := fun k=>k=b) (Keeps.set (P := fun k=>k=b) (Keeps.set (P := fun k=>k=b) (Keeps.refl (fun k=>k=b) w) (Or.inl rfl) 0 v0) (Or.inl rfl) 1 v1) (Or.inl rfl) 2 v2) (Or.inl rfl) 3 v3
theorem lead_end (h:f.fm.lab.kind≠9):leadV f=[]∧leadB f=f := by
  cases f with
  | qu k x g =>
    have hk:¬ k=9 := fun e=>h (by subst e; rfl)
    simp [leadV,leadB,hk]
  | _=>simp [leadV,leadB]
theorem lead_go (hok:f.ok) (h:f.fm.lab.kind=9):∃x g,f=.qu 9 x g := by
  cases f with
  | qu k x g =>
    have hk:k=9 := by
      have h9:((k:Nat):Int)=9 := h
      omega
    exact ⟨x,g,by rw [hk]⟩
  | bin k f g =>
    have h9:((k:Nat):Int)=9 := h
    have := hok.1
    omega
  | tru=>exact absurd h (by decide)
  | pred n ws=>exact absurd (show (2:Int)=9 from h) (by decide)
  | same a b=>exact absurd (show (3:Int)=9 from h) (by decide)
  | neg f=>exact absurd (show (4:Int)=9 from h) (by decide)
theorem frame_vs {P:Act→Prop} (h:∀x0 x1 x2 x3 x4 x5 x6 x7 x8 x9 x10 x11 x12 x13 x14 x15 x16 x17 x18 x19 x20 x21 x22 x23 x24:Value,P ⟨(x0 :: x1 :: x2 :: x3 :: x4 :: x5 :: x6 :: x7 :: x8 :: x9 :: x10 :: x11 :: x12 :: x13 :: x14 :: x15 :: x16 :: x17 :: x18 :: x19 :: x20 :: x21 :: x22 :: x23 :: x24 :: []).toArray,[]⟩):∀a:Act,a.tmps.toList.length=25→a.defers=[]→P a := by
  rintro ⟨⟨l⟩,d⟩ hs hd
  simp only at hd
  subst hd
  revert l
  show ∀l:List Value,l.length=25→P ⟨⟨l⟩,[]⟩
  iterate 25 refine openS (fun _=>?_)
  refine open0 ?_
  exact h ..
noncomputable def cF12:Code := Tryd.f12.body.getD .skip
def c_vs_r0 := sp 99 2 cF12
theorem vs_r0_wp (hN:∀a',Frm 25 [(2,.pointer (some ⟨wo.heap.size,0,none⟩)),(3,.pointer (some ⟨(wo.heap.size+1),0,none⟩))] a'→Q .normal a' ((wo.alloc (.cells #[.int .i64 z,.slice Am nm1 cm,.slice Bm nm2 dm] 25)).alloc (.cells #[.int .i64 kd,.string nm,.slice A n1 c1,.slice B n2 c2] 29))):∀ac,Frm 25 [(0,.agg #[.int .i64 z,.slice Am nm1 cm,.slice Bm nm2 dm]),(1,.agg #[.int .i64 kd,.string nm,.slice A n1 c1,.slice B n2 c2])] ac→Code.wp Tryd.prog c_vs_r0 Q ac wo := by
  refine fO (frame_vs ?_)
  intros
  rename_i hq
  iterate 2 (obtain ⟨e,hq⟩ := hq; obtain rfl := sI e; clear e)
  clear hq
  conv=>arg 2; whnf
  replace hN := Lib.hid hN
  go_wp2_with fail
  exact hN.out _ (id ⟨rfl,rfl,rfl,rfl,trivial⟩)
def c_vs_r1 := sp 99 5 cF12
theorem vs_r1_wp {s_3:Value} (hN:∀a',Frm 25 [(2,s_2),(3,s_3),(6,.slice none 0 0)] a'→Q .normal a' w):∀ac,Frm 25 [(2,s_2),(3,s_3)] ac→Code.wp Tryd.prog c_vs_r1 Q ac w := by
  refine fO (frame_vs ?_)
  intros
  rename_i hq
  iterate 2 (obtain ⟨e,hq⟩ := hq; obtain rfl := sI e; clear e)
  clear hq
  conv=>arg 2; whnf
  replace hN := Lib.hid hN
  go_wp2_with fail
  exact hN.out _ (by exact fR rfl rfl rfl)
def c_vs_r2 := sp 99 131 cF12
theorem vs_r2_wp (ha:w.heap[wo.heap.size+1]?=some (.cells #[.int .i64 kd,.string nm,.slice A n1 c1,.slice B n2 c2] 29 (0,0))) (hN:∀a',Frm 25 [(2,s_2),(3,.pointer (some ⟨(wo.heap.size+1),0,none⟩)),(6,v),(9,.bool (decide (kd=9)))] a'→Q .normal a' w):∀ac,Frm 25 [(2,s_2),(3,.pointer (some ⟨(wo.heap.size+1),0,none⟩)),(6,v)] ac→Code.wp Tryd.prog c_vs_r2 Q ac w := by
  refine fO (frame_vs ?_)
  intros
  rename_i hq
  iterate 3 (obtain ⟨e,hq⟩ := hq; obtain rfl := sI e; clear e)
  clear hq
  conv=>arg 2; whnf
  have a0 := cellv ha 0 rfl
  have a1 := cellv ha 1 rfl
  have a2 := cellv ha 2 rfl
  have a3 := cellv ha 3 rfl
  have al := lt_heap ha
  clear ha
  by_cases h:kd=9
  · have t1:(kd == 9)=true := beq_iff_eq.2 h
    rw [decide_eq_true h] at hN
    clear h
    replace hN := Lib.hid hN
    go_wp2_with fail
    exact hN.out _ (by exact fR rfl rfl rfl)
  · have t1:(kd == 9)=false := beq_eq_false_iff_ne.2 h
    rw [decide_eq_false h] at hN
    clear h
    replace hN := Lib.hid hN
    go_wp2_with fail
    exact hN.out _ (by exact fR rfl rfl rfl)
def c_vs_r3 := sp 99 291 cF12
theorem vs_r3_wp {base n9 c9:Nat} {A9:Option Addr} {xs:List Value} (ha:w.heap[wo.heap.size+1]?=some (.cells #[.int .i64 kd,.string nm,.slice A n1 c1,.slice B n2 c2] 29 (0,0))) (hl:n9≤1000000) (hrow:w.ownsRow base 9 1 (.slice A9 n9 c9) n9 xs) (hbw:base≤w.heap.size) (hN:∀v' a' w',Frm 25 [(2,s_2),(3,.pointer (some ⟨(wo.heap.size+1),0,none⟩)),(6,v')] a'→w'.ownsRow base 9 1 v' (n9+1) (xs++[.string nm])→Below base w w'→Q .normal a' w'):∀ac,Frm 25 [(2,s_2),(3,.pointer (some ⟨(wo.heap.size+1),0,none⟩)),(6,(.slice A9 n9 c9))] ac→Code.wp Tryd.prog c_vs_r3 Q ac w := by
  refine fO (frame_vs ?_)
  intros
  rename_i hq
  iterate 3 (obtain ⟨e,hq⟩ := hq; obtain rfl := sI e; clear e)
  clear hq
  conv=>arg 2; whnf
  obtain ⟨ti,hti,ht0,ht1,ht2⟩ := info_parts infoStr
  have a0 := cellv ha 0 rfl
  have a1 := cellv ha 1 rfl
  have a2 := cellv ha 2 rfl
  have a3 := cellv ha 3 rfl
  have al := lt_heap ha
  clear ha
  have HN := Lib.hid hN
  have HROW := Lib.hid hrow
  clear hN hrow
  go_wp2_with (at_builtin; refine wpList_append_lies (w.alloc (.cells #[.string nm] 9)) ?h1 (.tmp 10) (.tmp 13) 26 ?h2 base 9 ti (.string ⟨#[]⟩) 1 16 ?h3 hti ht0 ht1 ht2 ?h4 ?h5 (.slice A9 n9 c9) n9 xs ?h6 ?h7 ⟨w.heap.size,0,none⟩ 1 1 [.string nm] ?h8 ?h9 ?h10 ?h11 ?h12 ?h13 ?h14 ?h15 (w.heap.size+1) ?h16 ?_)
  try (case h1=>rfl)
  try (case h2=>rfl)
  try (case h3=>exact Tryd.underlying26)
  try (case h4=>rfl)
  try (case h5=>omega)
  try (case h6=>rfl)
  try (case h7=>exact HROW.out.alloc _)
  try (case h8=>rfl)
  try (case h9=>rfl)
  try (case h10=>exact World.news_of_block (cs := #[.string nm]) (t := 9) (fr := (0,0)) (heap_alloc_new w _))
  try (case h11=>simp [Value.oneCell'])
  try (case h12=>omega)
  try (case h13=>first | (simp [maxLen]; omega) | (unfold maxLen; omega))
  try (case h14=>omega)
  try (case h15=>first | omega | (simp; omega))
  try (case h16=>first | rfl | simp)
  intro gg cap w6 hown3 hgrow hat hlt
  have hbg:Below base w w6 := ((Below.refl base w).alloc hbw _).trans (below_of_grown9 hgrow (own_ge9 HROW.out) (by simp; omega))
  have HBG := Lib.hid hbg
  have HOWN := Lib.hid hown3
  clear hown3 hgrow hat hbg hlt
  go_wp2_with fail
  exact HN.out _ _ _ (by exact fR rfl rfl rfl) HOWN.out HBG.out
def c_vs_r4 := sp 99 419 cF12
theorem vs_r4_wp {k0:Int} {s0:ByteArray} {A0 B0:Option Addr} {p0 q0 r0 u0 o:Nat} (ha:w.heap[wo.heap.size+1]?=some (.cells #[.int .i64 kd,.string nm,.slice A n1 c1,.slice (some ⟨b,o,none⟩) 1 c2] 29 (0,0))) (e0:w.cell? ⟨b,o,none⟩=some (.int .i64 k0)) (e1:w.cell? ⟨b,o+1,none⟩=some (.string s0)) (e2:w.cell? ⟨b,o+2,none⟩=some (.slice A0 p0 q0)) (e3:w.cell? ⟨b,o+3,none⟩=some (.slice B0 r0 u0)) (hbl:b<w.heap.size) (hbn:b≠wo.heap.size+1) (hN:∀a' w',Frm 25 [(2,s_2),(3,.pointer (some ⟨(wo.heap.size+1),0,none⟩)),(6,v)] a'→w'.heap[wo.heap.size+1]?=some (.cells #[.int .i64 k0,.string s0,.slice A0 p0 q0,.slice B0 r0 u0] 29 (0,0))→Keeps (fun k=>k=wo.heap.size+1) w w'→Q .normal a' w'):∀ac,Frm 25 [(2,s_2),(3,.pointer (some ⟨(wo.heap.size+1),0,none⟩)),(6,v)] ac→Code.wp Tryd.prog c_vs_r4 Q ac w := by
  refine fO (frame_vs ?_)
  intros
  rename_i hq
  iterate 3 (obtain ⟨e,hq⟩ := hq; obtain rfl := sI e; clear e)
  clear hq
  conv=>arg 2; whnf
  have af0 := free_heap ha 0
  have af1 := free_heap ha 1
  have af2 := free_heap ha 2
  have af3 := free_heap ha 3
  have HA4 := Lib.hid ha
  have a0 := cellv ha 0 rfl
  have a1 := cellv ha 1 rfl
  have a2 := cellv ha 2 rfl
  have a3 := cellv ha 3 rfl
  have al := lt_heap ha
  clear ha
  replace hN := Lib.hid hN
  go_wp2_with fail
  exact hN.out _ _ (by exact fR rfl rfl rfl) (at4S HA4.out) keeps4S
def c_vs_r5 := sp 99 23 cF12
theorem vs_r5_wp {PX:Nat→World→Prop} {Dv:Option Addr} {ev:Nat} (hgm:w.heap[wo.heap.size]?=some (.cells #[.int .i64 z,.slice Am nm1 cm,.slice Bm nm2 dm] 25 (0,0))) (ha:w.heap[wo.heap.size+1]?=some (.cells #[.int .i64 kd,.string nm,.slice A n1 c1,.slice B n2 c2] 29 (0,0))) (hc:Calls Tryd.prog 28 #[.agg #[.int .i64 z,.slice Am nm1 cm,.slice Bm nm2 dm],.agg #[.int .i64 kd,.string nm,.slice A n1 c1,.slice B n2 c2],.slice Dv mv ev] w fun e w'=>∃gi,e=.returned (.slice (some ⟨gi,0,none⟩) NN NN)∧PX gi w') (hN:∀gi a' w',Frm 25 [(4,.slice (some ⟨gi,0,none⟩) NN NN),(5,.int .i64 (mv:Nat))] a'→PX gi w'→Q .normal a' w'):∀ac,Frm 25 [(2,.pointer (some ⟨wo.heap.size,0,none⟩)),(3,.pointer (some ⟨(wo.heap.size+1),0,none⟩)),(6,.slice Dv mv ev)] ac→Code.wp Tryd.prog c_vs_r5 Q ac w := by
  refine fO (frame_vs ?_)
  intros
  rename_i hq
  iterate 3 (obtain ⟨e,hq⟩ := hq; obtain rfl := sI e; clear e)
  clear hq
  conv=>arg 2; whnf
  have m0 := cellv hgm 0 rfl
  have m1 := cellv hgm 1 rfl
  have m2 := cellv hgm 2 rfl
  have ml := lt_heap hgm
  clear hgm
  have a0 := cellv ha 0 rfl
  have a1 := cellv ha 1 rfl
  have a2 := cellv ha 2 rfl
  have a3 := cellv ha 3 rfl
  have al := lt_heap ha
  clear ha
  have HN := Lib.hid hN
  have HC := Lib.hid hc
  clear hN hc
  go_wp2_with fail
  (with_reducible refine HC.out.mono ?_)
  rintro e w1 ⟨gi,rfl,hp⟩
  replace hp := Lib.hid hp
  go_wp2_with fail
  exact HN.out _ _ _ (id ⟨rfl,rfl,rfl,rfl,trivial⟩) hp.out
theorem vs_ret_wp {R:Ending→World→Prop} {w':World} {gi:Nat} (hR:R (.returned (.tuple #[.slice (some ⟨gi,0,none⟩) NN NN,.int .i64 (mv:Nat)])) w'):∀ac,Frm 25 [(4,.slice (some ⟨gi,0,none⟩) NN NN),(5,.int .i64 (mv:Nat))] ac→bodyPost Tryd.prog Tryd.f12 R .ret ac w' := by
  refine fO (frame_vs ?_)
  intros
  rename_i hq
  iterate 2 (obtain ⟨e,hq⟩ := hq; obtain rfl := sI e; clear e)
  clear hq
  refine bodyPost_ret (v := .tuple #[.slice (some ⟨gi,0,none⟩) NN NN,.int .i64 (mv:Nat)]) (by simp [results,Tryd.results12,go_sem]) rfl ?_
  exact hR
theorem values_any (m:Md) (hg:m.good) {sz:Nat} (hsz:m.sz=(sz:Nat)) (v:Fv) (hok:v.ok) (hnest:nestF v≤5) (hhave:haveF m [] v) (ms cs:List Value) (w:World) (S:Nat→Prop) (ht:fmRep.R w S v.fm cs) (hm:m.In w S ms) (hS:∀b,S b→b<w.heap.size) :
    Calls Tryd.prog 12 #[.agg ms.toArray,.agg cs.toArray] w fun e w'=>∃gi,e=.returned (.tuple #[.slice (some ⟨gi,0,none⟩) (sz ^ (leadV v).length) (sz ^ (leadV v).length),.int .i64 ((leadV v).length:Nat)])∧w'.heap[gi]?=some (.cells ((tab m (leadB v) (leadV v)).map Value.bool).toArray 4 (0,0))∧w.heap.size≤gi∧Below w.heap.size w w' := by
  obtain ⟨A,n1,c1,B,n2,c2,rfl,_,_,_,_⟩ := Fm.shape ht
  obtain ⟨Am,cm,Bm,dm,rfl,_,_,hcs,hrs⟩ := Md.shape hm
  go_enter Tryd.func12,Tryd.ntmps12
  refine wp_seq ?_
  refine vs_r0_wp (fun a0 h0=>?_) _ (id ⟨rfl,rfl,rfl,rfl,trivial⟩)
  refine gen_last (fun wx=>wx.heap[w.heap.size]?=some (.cells #[.int .i64 m.sz,.slice Am m.cs.length cm,.slice Bm m.rs.length dm] 25 (0,0))∧wx.heap[w.heap.size+1]?=some (.cells #[.int .i64 v.fm.lab.kind,.string v.fm.lab.nm,.slice A n1 c1,.slice B n2 c2] 29 (0,0))∧Below w.heap.size w wx) ⟨heap_old (by simp) (heap_at rfl),heap_at (by simp),by go_grown⟩ ?_
  rintro wy ⟨hmy,hay,hby⟩
  have hbys := hby.size
  have hayl := lt_heap hay
  refine wp_seq ?_
  refine vs_r1_wp (fun a1 h1=>?_) a0 h0
  refine wp_seq ?_
  refine wp_block ?_
  refine wp_loopR (fun g a' w'=>∃(f':Fv) (vs:List ByteArray) (A:Option Addr) (n1 c1:Nat) (B:Option Addr) (n2 c2:Nat) (v6:Value),g=f'.nodes∧f'.ok∧leadV v=vs++leadV f'∧leadB v=leadB f'∧vs.length+nestF f'≤5∧haveF m vs f'∧(∀s∈vs,s.size≤maxLen)∧fmRep.R w S f'.fm [.int .i64 f'.fm.lab.kind,.string f'.fm.lab.nm,.slice A n1 c1,.slice B n2 c2]∧w'.heap[w.heap.size+1]?=some (.cells #[.int .i64 f'.fm.lab.kind,.string f'.fm.lab.nm,.slice A n1 c1,.slice B n2 c2] 29 (0,0))∧w'.ownsRow wy.heap.size 9 1 v6 vs.length (vs.map .string)∧Keeps (fun k=>k=w.heap.size+1) wy w'∧Frm 25 [(2,.pointer (some ⟨w.heap.size,0,none⟩)),(3,.pointer (some ⟨(w.heap.size+1),0,none⟩)),(6,v6)] a') v.nodes ⟨v,[],_,_,_,_,_,_,_,rfl,hok,rfl,rfl,by simpa using hnest,hhave,by simp,ht,hay,World.ownsRow_nil _ _ _ _,Keeps.refl _ _,h1⟩ ?_
  rintro g a2 w2 ⟨f',vs,A',n1',c1',B',n2',c2',v6,rfl,ok',hlv,hlb,hn',hh',hvs',hr',ha2,hrow,hk2,h2⟩
  have hks := hk2.size
  have hb2:Below w.heap.size w w2 := hby.trans (hk2.below (fun k h=>by have h:k=w.heap.size+1 := h; omega) (by omega))
  have hkS:∀k,S k→w2.heap[k]?=w.heap[k]? := fun k hk=>hb2.block k (hS k hk)
  have hm2 := (hk2.block _ (lt_heap hmy) (by omega)).trans hmy
  refine wp_seq ?_
  refine wp_seq ?_
  refine vs_r2_wp ha2 (fun a3 h3=>?_) a2 h2
  by_cases hk9:f'.fm.lab.kind=9
  case neg =>
    refine wp_cond_false ((h3.eval (k := 9) (v := .bool (decide (f'.fm.lab.kind=9))) (by simp)).trans (by rw [decide_eq_false hk9])) ?_
    refine wp_exit ?_
    repeat refine then_exit ?_
    refine inBlock_exit ?_
    show Code.wp _ _ _ a3 w2
    obtain ⟨e1,e2⟩ := lead_end hk9
    rw [e1,List.append_nil] at hlv
    rw [e2] at hlb
    rw [hlv,hlb]
    obtain ⟨Dv,ev,rfl,_⟩ := own_cap hrow
    have hsl:strRep.Sl w2 (fun k=>S k∨(wy.heap.size≤k∧k<w2.heap.size)) (.slice Dv vs.length ev) vs := sl_of_row hrow hvs' (by unfold maxLen; omega) (fun k hk=>Or.inr ⟨(hrow.lt k hk).1,(hrow.lt k hk).2⟩)
    have htb := table_any m hg hsz (Am := Am) (Bm := Bm) (cm := cm) (dm := dm) f' ok' vs _ w2 (fun k=>S k∨(wy.heap.size≤k∧k<w2.heap.size)) Dv ev hn' hh' (fmRep.keep hr' hkS (fun _ h=>Or.inl h)) hsl (hcs.keep hkS (fun _ h=>Or.inl h)) (hrs.keep hkS (fun _ h=>Or.inl h)) (fun k hk=>by
      rcases hk with hk | hk
      · have := hS k hk; omega
      · exact hk.2)
    rw [← hsz] at htb
    refine wp_seq ?_
    refine vs_r5_wp (PX := fun gi w'=>w'.heap[gi]?=some (.cells ((tab m f' vs).map Value.bool).toArray 4 (0,0))∧w2.heap.size≤gi∧Below w2.heap.size w2 w') hm2 ha2 htb (fun gi a4 w4 h4 hp4=>?_) a3 (h3.pick [0,1,2])
    obtain ⟨hgi,hge,hb4⟩ := hp4
    refine wp_ret ?_
    exact vs_ret_wp ⟨gi,rfl,hgi,by omega,hb2.trans (hb4.mono (by omega))⟩ a4 h4
  refine wp_cond_true ((h3.eval (k := 9) (v := .bool (decide (f'.fm.lab.kind=9))) (by simp)).trans (by rw [decide_eq_true hk9])) ?_
  refine wp_skip ?_
  show Code.wp _ _ _ a3 w2
  obtain ⟨x,f1,rfl⟩ := lead_go ok' hk9
  have hr9 := hr'
  change fmRep.R w S (.mk ⟨((9:Nat):Int),x,[]⟩ [f1.fm]) _ at hr9
  obtain ⟨u9,v9,e9,hnm,_,hl9⟩ := Fm.open_ hr9
  obtain ⟨B9,n9,c9,e8,hn9,_,_⟩ := id hl9
  rw [e8] at e9
  simp only [List.cons.injEq,Value.slice.injEq,and_true] at e9
  obtain ⟨_,_,_,rfl,rfl,rfl⟩ := e9
  obtain rfl:n2'=1 := by simpa using hn9.symm
  rw [e8] at hl9
  obtain ⟨b,o,cs1,rfl,hSb,hr1,hcc⟩ := Rep.Sl.at_ hl9 (k := 0) (a := f1.fm) rfl
  obtain ⟨Ae,n3,c3,Be,n4,c4,rfl,_,_,_,_⟩ := Fm.shape hr1
  obtain ⟨A6,c6,rfl,_⟩ := own_cap hrow
  have hvl:vs.length≤5 := by omega
  refine wp_block ?_
  refine wp_seq ?_
  refine vs_r3_wp ha2 (by omega) hrow hks (fun v' a4 w4 h4 hr4 hb4=>?_) a3 (h3.pick [0,1,2])
  have ha4 := (hb4.block _ hayl).trans ha2
  have hkS4:∀k,S k→w4.heap[k]?=w.heap[k]? := fun k hk=>(hb4.block k (by have := hS k hk; omega)).trans (hkS k hk)
  have hbw4 := hb4.size
  have e0':w4.cell? ⟨b,o,none⟩=_ := (cell_keep (hkS4 b hSb) _).trans (hcc 0 _ rfl)
  have e1':w4.cell? ⟨b,o+1,none⟩=_ := (cell_keep (hkS4 b hSb) _).trans (hcc 1 _ rfl)
  have e2':w4.cell? ⟨b,o+2,none⟩=_ := (cell_keep (hkS4 b hSb) _).trans (hcc 2 _ rfl)
  have e3':w4.cell? ⟨b,o+3,none⟩=_ := (cell_keep (hkS4 b hSb) _).trans (hcc 3 _ rfl)
  refine vs_r4_wp ha4 e0' e1' e2' e3' (by have := hS b hSb; omega) (by have := hS b hSb; omega) (fun a5 w5 h5 ha5 hk5=>?_) a4 h4
  have hk05:Keeps (fun k=>k=w.heap.size+1) wy w5 := ⟨hk5.os.trans (hb4.os.trans hk2.os),hk5.tape.trans (hb4.tape.trans hk2.tape),hk5.output.trans (hb4.output.trans hk2.output),by have := hk5.size; omega,fun k hk hne=>(hk5.block k (by omega) hne).trans ((hb4.block k hk).trans (hk2.block k hk hne))⟩
  have hrow5:w5.ownsRow wy.heap.size 9 1 v' (vs++[x]).length ((vs++[x]).map .string) := by
    rw [List.length_append,List.length_singleton,List.map_append]
    refine ⟨hr4.1,?_⟩
    rcases hr4.2 with h | ⟨gg,cap,cur,e,hgg,hh,r⟩
    · exact Or.inl h
    · exact Or.inr ⟨gg,cap,cur,e,hgg,(hk5.block gg (lt_heap hh) (by have hgg':wy.heap.size≤gg := hgg; omega)).trans hh,r⟩
  refine ⟨f1.nodes,by simp only [Fv.nodes]; omega,f1,vs++[x],_,_,_,_,_,_,v',rfl,ok'.2.2,?_,?_,?_,hh',?_,hr1,ha5,hrow5,hk05,h5⟩
  · rw [hlv]; simp [leadV]
  · rw [hlb]; simp [leadB]
  · simp only [nestF] at hn'; rw [List.length_append,List.length_singleton]; omega
  · intro s hs9
    rcases List.mem_append.1 hs9 with h | h
    · exact hvs' s h
    · rw [List.mem_singleton.1 h]; exact hnm
end

end Go.Proofs.YthfokmjpbnfihaaDoor
