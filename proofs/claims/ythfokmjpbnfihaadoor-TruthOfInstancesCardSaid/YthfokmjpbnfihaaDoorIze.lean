/- Lemmas. -/
import Derived.Test.YthfokmjpbnfihaaDoorIzd
namespace Go.Proofs.YthfokmjpbnfihaaDoor
open Go Go.RowKit
set_option linter.unusedSimpArgs false
set_option linter.unusedVariables false
noncomputable section
set_option maxRecDepth 1000000
set_option maxHeartbeats 16000000
variable {w wo:World} {b n1 c1 n2 c2 gb gz gx:Nat} {v0 v1 v2 v3 s_1 s_4 s_5 s_2:Value} {Q:Exit→Act→World→Prop} {kd:Int} {nm y:ByteArray} {A B:Option Addr}

theorem far4F {k:Nat} {x:Option Obj} (h:k≠b) (hx:w.heap[k]? = x):((((w.setCell ⟨b,0,none⟩ v0).setCell ⟨b,1,none⟩ v1).setCell ⟨b,2,none⟩ v2).setCell ⟨b,3,none⟩ v3).heap[k]? = x := heap_far _ h (heap_far _ h (heap_far _ h (heap_far _ h hx)))
theorem keeps2F {PP:Nat→Prop} {u:World} (h:Keeps PP u w) (hb:PP b∨u.heap.size≤b):Keeps PP u ((w.setCell ⟨b,0,none⟩ v0).setCell ⟨b,1,none⟩ v1) := (h.set hb 0 v0).set hb 1 v1
theorem frame_in2 {P:Act→Prop} (h:∀x0 x1 x2 x3 x4 x5 x6 x7 x8 x9 x10 x11 x12 x13 x14 x15 x16 x17 x18 x19 x20 x21 x22 x23 x24 x25 x26 x27:Value,P ⟨(x0 :: x1 :: x2 :: x3 :: x4 :: x5 :: x6 :: x7 :: x8 :: x9 :: x10 :: x11 :: x12 :: x13 :: x14 :: x15 :: x16 :: x17 :: x18 :: x19 :: x20 :: x21 :: x22 :: x23 :: x24 :: x25 :: x26 :: x27 :: []).toArray,[]⟩):∀a:Act,a.tmps.toList.length=28→a.defers=[]→P a := by
  rintro ⟨⟨l⟩,d⟩ hs hd
  simp only at hd
  subst hd
  revert l
  show ∀l:List Value,l.length=28→P ⟨⟨l⟩,[]⟩
  iterate 28 refine openS (fun _=>?_)
  refine open0 ?_
  exact h ..
noncomputable def cF17:Code := Tryd.f17.body.getD .skip
def c_in2_r0 := sp 99 2 cF17
theorem in2_r0_wp (hN:∀a',Frm 28 [(1,s_1),(2,.pointer (some ⟨wo.heap.size,0,none⟩)),(4,.pointer (some ⟨wo.heap.size+1,0,none⟩)),(5,.pointer (some ⟨wo.heap.size+1+1,0,none⟩))] a'→Q .normal a' (((wo.alloc (.cells #[.int .i64 kd,.string nm,.slice A n1 c1,.slice B n2 c2] 29)).alloc (.cells #[.int .i64 0,.string ⟨#[]⟩,.slice none 0 0,.slice none 0 0] 29)).alloc (.cells #[.int .i64 0,.int .i64 0] 32))):∀ac,Frm 28 [(0,.agg #[.int .i64 kd,.string nm,.slice A n1 c1,.slice B n2 c2]),(1,s_1)] ac→Code.wp Tryd.prog c_in2_r0 Q ac wo := by
  refine fO (frame_in2 ?_)
  intros
  rename_i hq
  iterate 2 (obtain ⟨e,hq⟩ := hq; obtain rfl := sI e; clear e)
  clear hq
  conv=>arg 2; whnf
  replace hN := Lib.hid hN
  go_wp2_with fail
  exact hN.out _ (by exact fR rfl rfl rfl)
def c_in2_r1 := sp 99 9 cF17
theorem in2_r1_wp {c j:Nat} (ha:w.heap[wo.heap.size]? = some (.cells #[.int .i64 kd,.string nm,.slice A n1 c1,.slice B n2 c2] 29 (0,0))) (hc:Calls Tryd.prog 29 #[.agg #[.int .i64 kd,.string nm,.slice A n1 c1,.slice B n2 c2]] w fun e w'=>e=.returned (.agg #[.int .i64 (c:Nat),.int .i64 (j:Nat)])∧Below w.heap.size w w') (hN:∀w1 a',Frm 28 [(1,s_1),(2,.pointer (some ⟨wo.heap.size,0,none⟩)),(4,s_4),(5,s_5),(6,.pointer (some ⟨w1.heap.size,0,none⟩))] a'→Below w.heap.size w w1→Q .normal a' (w1.alloc (.cells #[.int .i64 (c:Nat),.int .i64 (j:Nat)] 32))):∀ac,Frm 28 [(1,s_1),(2,.pointer (some ⟨wo.heap.size,0,none⟩)),(4,s_4),(5,s_5)] ac→Code.wp Tryd.prog c_in2_r1 Q ac w := by
  refine fO (frame_in2 ?_)
  intros
  rename_i hq
  iterate 4 (obtain ⟨e,hq⟩ := hq; obtain rfl := sI e; clear e)
  clear hq
  conv=>arg 2; whnf
  have a0 := cellv ha 0 rfl
  have a1 := cellv ha 1 rfl
  have a2 := cellv ha 2 rfl
  have a3 := cellv ha 3 rfl
  have al := lt_heap ha
  clear ha
  have HN := Lib.hid hN
  have HC := Lib.hid hc
  clear hN hc
  go_wp2_with fail
  (with_reducible refine HC.out.mono ?_)
  rintro e w1 ⟨rfl,hb1⟩
  replace hb1 := Lib.hid hb1
  go_wp2_with fail
  exact HN.out _ _ (by exact fR rfl rfl rfl) hb1.out
def c_in2_r2 := sp 99 21 cF17
theorem in2_r2_wp {c j:Nat} (hb:w.heap[gb]? = some (.cells #[.int .i64 (c:Nat),.int .i64 (j:Nat)] 32 (0,0))) (hN:∀a',Frm 28 [(1,s_1),(2,s_2),(4,s_4),(5,s_5),(6,.pointer (some ⟨gb,0,none⟩)),(11,.bool (decide (c≠0)))] a'→Q .normal a' w):∀ac,Frm 28 [(1,s_1),(2,s_2),(4,s_4),(5,s_5),(6,.pointer (some ⟨gb,0,none⟩))] ac→Code.wp Tryd.prog c_in2_r2 Q ac w := by
  refine fO (frame_in2 ?_)
  intros
  rename_i hq
  iterate 5 (obtain ⟨e,hq⟩ := hq; obtain rfl := sI e; clear e)
  clear hq
  conv=>arg 2; whnf
  have b0 := cellv hb 0 rfl
  have bl := lt_heap hb
  clear hb
  by_cases h:c≠0
  · have t0 := h
    have t1:((c:Int) != 0)=true := by first | exact bne_iff_ne.2 (by omega) | exact bne_eq_false_iff_eq.2 (by omega)
    rw [show decide (c≠0)=true from by simpa using h] at hN
    clear h
    replace hN := Lib.hid hN
    go_wp2_with fail
    exact hN.out _ (by exact fR rfl rfl rfl)
  · have t0 := h
    have t1:((c:Int) != 0)=false := by first | exact bne_iff_ne.2 (by omega) | exact bne_eq_false_iff_eq.2 (by omega)
    rw [show decide (c≠0)=false from by simpa using h] at hN
    clear h
    replace hN := Lib.hid hN
    go_wp2_with fail
    exact hN.out _ (by exact fR rfl rfl rfl)
def c_in2_r3 := sp 99 77 cF17
theorem in2_r3_wp {K:Act→World→Prop} {c j:Int} (hne:gz≠gx) (hz:w.heap[gz]? = some (.cells #[.int .i64 0,.string ⟨#[]⟩,.slice none 0 0,.slice none 0 0] 29 (0,0))) (hx:w.heap[gx]? = some (.cells #[.int .i64 0,.int .i64 0] 32 (0,0))) (hbz:gb≠gz) (hbx2:gb≠gx) (hbx:w.heap[gb]? = some (.cells #[.int .i64 c,.int .i64 j] 32 (0,0))) (hN:∀a' w',Frm 28 [(4,.pointer (some ⟨gz,0,none⟩)),(5,.pointer (some ⟨gx,0,none⟩))] a'→w'.heap[gz]? = some (.cells #[.int .i64 0,.string ⟨#[]⟩,.slice none 0 0,.slice none 0 0] 29 (0,0))→w'.heap[gx]? = some (.cells #[.int .i64 c,.int .i64 j] 32 (0,0))→Keeps (fun k=>k=gz∨k=gx) w w'→K a' w'):∀ac,Frm 28 [(4,.pointer (some ⟨gz,0,none⟩)),(5,.pointer (some ⟨gx,0,none⟩)),(6,.pointer (some ⟨gb,0,none⟩))] ac→Code.wp Tryd.prog c_in2_r3 (Exit.then K (fun _ _ _=>False)) ac w := by
  refine fO (frame_in2 ?_)
  intros
  rename_i hq
  iterate 3 (obtain ⟨e,hq⟩ := hq; obtain rfl := sI e; clear e)
  clear hq
  conv=>arg 2; whnf
  have b0 := cellv hbx 0 rfl
  have b1 := cellv hbx 1 rfl
  have bl := lt_heap hbx
  have z0 := cellv hz 0 rfl
  have z1 := cellv hz 1 rfl
  have z2 := cellv hz 2 rfl
  have z3 := cellv hz 3 rfl
  have zf0 := free_heap hz 0
  have zf1 := free_heap hz 1
  have zf2 := free_heap hz 2
  have zf3 := free_heap hz 3
  have zl := lt_heap hz
  have x0 := cellv hx 0 rfl
  have x1 := cellv hx 1 rfl
  have xf0 := free_heap hx 0
  have xf1 := free_heap hx 1
  have xl := lt_heap hx
  have HZ := Lib.hid hz
  have HX := Lib.hid hx
  clear hz hx
  clear hbx
  replace hN := Lib.hid hN
  go_region
  all_goals go_wp2_with fail
  all_goals refine hN.out _ _ (id ⟨rfl,rfl,rfl,rfl,trivial⟩) ?_ ?_ ?_
  · exact heap_drew (far2 hne (at4F HZ.out))
  · exact heap_drew (at2 (far4F (Ne.symm hne) HX.out))
  · exact Keeps.drew (keeps2F (keeps4F (Keeps.refl _ _) (Or.inl (Or.inl rfl))) (Or.inl (Or.inr rfl)))
def c_in2_r4 := sp 99 19 cF17
theorem in2_r4_wp (ha:w.heap[wo.heap.size]? = some (.cells #[.int .i64 kd,.string nm,.slice A n1 c1,.slice B n2 c2] 29 (0,0))) (hN:∀a' w',Frm 28 [(1,s_1),(2,.pointer (some ⟨wo.heap.size,0,none⟩)),(4,s_4),(5,s_5),(16,.bool (!isQu kd))] a'→Below w.heap.size w w'→Q .normal a' w'):∀ac,Frm 28 [(1,s_1),(2,.pointer (some ⟨wo.heap.size,0,none⟩)),(4,s_4),(5,s_5)] ac→Code.wp Tryd.prog c_in2_r4 Q ac w := by
  refine fO (frame_in2 ?_)
  intros
  rename_i hq
  iterate 4 (obtain ⟨e,hq⟩ := hq; obtain rfl := sI e; clear e)
  clear hq
  conv=>arg 2; whnf
  have hq := quant_any kd nm A B n1 c1 n2 c2 w
  have a0 := cellv ha 0 rfl
  have a1 := cellv ha 1 rfl
  have a2 := cellv ha 2 rfl
  have a3 := cellv ha 3 rfl
  have al := lt_heap ha
  clear ha
  have HN := Lib.hid hN
  have HQ := Lib.hid hq
  clear hN hq
  go_wp2_with fail
  (with_reducible refine HQ.out.mono ?_)
  rintro e w1 ⟨rfl,hb1⟩
  replace hb1 := Lib.hid hb1
  go_wp2_with fail
  exact HN.out _ _ (by exact fR rfl rfl rfl) hb1.out
def c_in2_r5 := sp 99 75 cF17
theorem in2_r5_wp (hne:gz≠gx) (hz:w.heap[gz]? = some (.cells #[.int .i64 0,.string ⟨#[]⟩,.slice none 0 0,.slice none 0 0] 29 (0,0))) (hx:w.heap[gx]? = some (.cells #[.int .i64 0,.int .i64 0] 32 (0,0))) (hN:∀a' w',Frm 28 [(4,.pointer (some ⟨gz,0,none⟩)),(5,.pointer (some ⟨gx,0,none⟩))] a'→w'.heap[gz]? = some (.cells #[.int .i64 0,.string ⟨#[]⟩,.slice none 0 0,.slice none 0 0] 29 (0,0))→w'.heap[gx]? = some (.cells #[.int .i64 4,.int .i64 (-1)] 32 (0,0))→Keeps (fun k=>k=gz∨k=gx) w w'→Q .normal a' w'):∀ac,Frm 28 [(4,.pointer (some ⟨gz,0,none⟩)),(5,.pointer (some ⟨gx,0,none⟩))] ac→Code.wp Tryd.prog c_in2_r5 Q ac w := by
  refine fO (frame_in2 ?_)
  intros
  rename_i hq
  iterate 2 (obtain ⟨e,hq⟩ := hq; obtain rfl := sI e; clear e)
  clear hq
  conv=>arg 2; whnf
  have z0 := cellv hz 0 rfl
  have z1 := cellv hz 1 rfl
  have z2 := cellv hz 2 rfl
  have z3 := cellv hz 3 rfl
  have zf0 := free_heap hz 0
  have zf1 := free_heap hz 1
  have zf2 := free_heap hz 2
  have zf3 := free_heap hz 3
  have zl := lt_heap hz
  have x0 := cellv hx 0 rfl
  have x1 := cellv hx 1 rfl
  have xf0 := free_heap hx 0
  have xf1 := free_heap hx 1
  have xl := lt_heap hx
  have HZ := Lib.hid hz
  have HX := Lib.hid hx
  clear hz hx
  replace hN := Lib.hid hN
  go_wp2_with fail
  all_goals refine hN.out _ _ (id ⟨rfl,rfl,rfl,rfl,trivial⟩) ?_ ?_ ?_
  · exact far2 hne (at4F HZ.out)
  · exact at2 (far4F (Ne.symm hne) HX.out)
  · exact keeps2F (keeps4F (Keeps.refl _ _) (Or.inl (Or.inl rfl))) (Or.inl (Or.inr rfl))
def c_in2_r6 := sp 99 39 cF17
theorem in2_r6_wp (hy:y.size≤maxLen) (hN:∀a',Frm 28 [(1,.string y),(2,s_2),(4,s_4),(5,s_5),(21,.bool (!okName y))] a'→Q .normal a' w):∀ac,Frm 28 [(1,.string y),(2,s_2),(4,s_4),(5,s_5)] ac→Code.wp Tryd.prog c_in2_r6 Q ac w := by
  refine fO (frame_in2 ?_)
  intros
  rename_i hq
  iterate 4 (obtain ⟨e,hq⟩ := hq; obtain rfl := sI e; clear e)
  clear hq
  conv=>arg 2; whnf
  have hq := name_any y w hy
  have HN := Lib.hid hN
  have HQ := Lib.hid hq
  clear hN hq
  go_wp2_with fail
  (with_reducible refine HQ.out.mono ?_)
  rintro e w1 ⟨rfl,rfl⟩
  go_wp2_with fail
  exact HN.out _ (by exact fR rfl rfl rfl)
def c_in2_r7 := sp 99 151 cF17
theorem in2_r7_wp (hne:gz≠gx) (hz:w.heap[gz]? = some (.cells #[.int .i64 0,.string ⟨#[]⟩,.slice none 0 0,.slice none 0 0] 29 (0,0))) (hx:w.heap[gx]? = some (.cells #[.int .i64 0,.int .i64 0] 32 (0,0))) (hN:∀a' w',Frm 28 [(4,.pointer (some ⟨gz,0,none⟩)),(5,.pointer (some ⟨gx,0,none⟩))] a'→w'.heap[gz]? = some (.cells #[.int .i64 0,.string ⟨#[]⟩,.slice none 0 0,.slice none 0 0] 29 (0,0))→w'.heap[gx]? = some (.cells #[.int .i64 10,.int .i64 (-2)] 32 (0,0))→Keeps (fun k=>k=gz∨k=gx) w w'→Q .normal a' w'):∀ac,Frm 28 [(4,.pointer (some ⟨gz,0,none⟩)),(5,.pointer (some ⟨gx,0,none⟩))] ac→Code.wp Tryd.prog c_in2_r7 Q ac w := by
  refine fO (frame_in2 ?_)
  intros
  rename_i hq
  iterate 2 (obtain ⟨e,hq⟩ := hq; obtain rfl := sI e; clear e)
  clear hq
  conv=>arg 2; whnf
  have z0 := cellv hz 0 rfl
  have z1 := cellv hz 1 rfl
  have z2 := cellv hz 2 rfl
  have z3 := cellv hz 3 rfl
  have zf0 := free_heap hz 0
  have zf1 := free_heap hz 1
  have zf2 := free_heap hz 2
  have zf3 := free_heap hz 3
  have zl := lt_heap hz
  have x0 := cellv hx 0 rfl
  have x1 := cellv hx 1 rfl
  have xf0 := free_heap hx 0
  have xf1 := free_heap hx 1
  have xl := lt_heap hx
  have HZ := Lib.hid hz
  have HX := Lib.hid hx
  clear hz hx
  replace hN := Lib.hid hN
  go_wp2_with fail
  all_goals refine hN.out _ _ (id ⟨rfl,rfl,rfl,rfl,trivial⟩) ?_ ?_ ?_
  · exact far2 hne (at4F HZ.out)
  · exact at2 (far4F (Ne.symm hne) HX.out)
  · exact keeps2F (keeps4F (Keeps.refl _ _) (Or.inl (Or.inl rfl))) (Or.inl (Or.inr rfl))
def c_in2_r8 := sp 99 47 cF17
theorem in2_r8_wp {PV:Int→ByteArray→Option Addr→Nat→Nat→Option Addr→Nat→Nat→World→Prop} (ha:w.heap[wo.heap.size]? = some (.cells #[.int .i64 kd,.string nm,.slice A n1 c1,.slice B n2 c2] 29 (0,0))) (hne:gz≠gx) (hc:Calls Tryd.prog 33 #[.agg #[.int .i64 kd,.string nm,.slice A n1 c1,.slice B n2 c2],.string y] w fun e w'=>∃ke ne Ae n3 c3 Be n4 c4,e=.returned (.agg #[.int .i64 ke,.string ne,.slice Ae n3 c3,.slice Be n4 c4])∧w'.heap[gz]? = some (.cells #[.int .i64 0,.string ⟨#[]⟩,.slice none 0 0,.slice none 0 0] 29 (0,0))∧w'.heap[gx]? = some (.cells #[.int .i64 0,.int .i64 0] 32 (0,0))∧PV ke ne Ae n3 c3 Be n4 c4 w') (hN:∀ke ne Ae n3 c3 Be n4 c4 w1 a' w',Frm 28 [(4,.pointer (some ⟨gz,0,none⟩)),(5,.pointer (some ⟨gx,0,none⟩))] a'→PV ke ne Ae n3 c3 Be n4 c4 w1→w'.heap[gz]? = some (.cells #[.int .i64 ke,.string ne,.slice Ae n3 c3,.slice Be n4 c4] 29 (0,0))→w'.heap[gx]? = some (.cells #[.int .i64 0,.int .i64 0] 32 (0,0))→Keeps (fun k=>k=gz∨k=gx) w1 w'→Q .normal a' w'):∀ac,Frm 28 [(1,.string y),(2,.pointer (some ⟨wo.heap.size,0,none⟩)),(4,.pointer (some ⟨gz,0,none⟩)),(5,.pointer (some ⟨gx,0,none⟩))] ac→Code.wp Tryd.prog c_in2_r8 Q ac w := by
  refine fO (frame_in2 ?_)
  intros
  rename_i hq
  iterate 4 (obtain ⟨e,hq⟩ := hq; obtain rfl := sI e; clear e)
  clear hq
  conv=>arg 2; whnf
  have a0 := cellv ha 0 rfl
  have a1 := cellv ha 1 rfl
  have a2 := cellv ha 2 rfl
  have a3 := cellv ha 3 rfl
  have al := lt_heap ha
  clear ha
  have zc := fun (W:World) (h:W.heap[gz]? = some (.cells #[.int .i64 0,.string ⟨#[]⟩,.slice none 0 0,.slice none 0 0] 29 (0,0)))=>And.intro (cellv h 0 rfl) (And.intro (cellv h 1 rfl) (And.intro (cellv h 2 rfl) (And.intro (cellv h 3 rfl) (And.intro (free_heap h 0) (And.intro (free_heap h 1) (And.intro (free_heap h 2) (free_heap h 3)))))))
  have xc := fun (W:World) (h:W.heap[gx]? = some (.cells #[.int .i64 0,.int .i64 0] 32 (0,0)))=>And.intro (cellv h 0 rfl) (And.intro (cellv h 1 rfl) (And.intro (free_heap h 0) (free_heap h 1)))
  have ZC := Lib.hid zc
  have XC := Lib.hid xc
  clear zc xc
  have HN := Lib.hid hN
  have HC := Lib.hid hc
  clear hN hc
  go_wp2_with fail
  (with_reducible refine HC.out.mono ?_)
  rintro e w1 ⟨ke,ne,Ae,n3,c3,Be,n4,c4,rfl,hz,hx,hp⟩
  obtain ⟨y0,y1,y2,y3,yf0,yf1,yf2,yf3⟩ := ZC.out w1 hz
  obtain ⟨u0,u1,uf0,uf1⟩ := XC.out w1 hx
  have yl := lt_heap hz
  have ul := lt_heap hx
  have HP := Lib.hid hp
  have HZ := Lib.hid hz
  have HX := Lib.hid hx
  clear hp hz hx
  go_wp2_with fail
  refine HN.out _ _ _ _ _ _ _ _ _ _ _ (id ⟨rfl,rfl,rfl,rfl,trivial⟩) HP.out ?_ ?_ ?_
  · exact far2 hne (at4F HZ.out)
  · exact at2 (far4F (Ne.symm hne) HX.out)
  · exact keeps2F (keeps4F (Keeps.refl _ _) (Or.inl (Or.inl rfl))) (Or.inl (Or.inr rfl))
theorem in2_ret_wp {R:Ending→World→Prop} {w':World} {c j:Int} (hg:w'.heap[gz]? = some (.cells #[v0,v1,v2,v3] 29 (0,0))) (hx:w'.heap[gx]? = some (.cells #[.int .i64 c,.int .i64 j] 32 (0,0))) (ho:v0.oneCell'=true∧v1.oneCell'=true∧v2.oneCell'=true∧v3.oneCell'=true) (hR:R (.returned (.tuple #[.agg #[v0,v1,v2,v3],.agg #[.int .i64 c,.int .i64 j]])) w'):∀ac,Frm 28 [(4,.pointer (some ⟨gz,0,none⟩)),(5,.pointer (some ⟨gx,0,none⟩))] ac→bodyPost Tryd.prog Tryd.f17 R .ret ac w' := by
  refine fO (frame_in2 ?_)
  intros
  rename_i hq
  iterate 2 (obtain ⟨e,hq⟩ := hq; obtain rfl := sI e; clear e)
  clear hq
  have z0 := cellv hg 0 rfl
  have z1 := cellv hg 1 rfl
  have z2 := cellv hg 2 rfl
  have z3 := cellv hg 3 rfl
  have zl := lt_heap hg
  have x0 := cellv hx 0 rfl
  have x1 := cellv hx 1 rfl
  have xl := lt_heap hx
  obtain ⟨o0,o1,o2,o3⟩ := ho
  refine bodyPost_ret (v := .tuple #[.agg #[v0,v1,v2,v3],.agg #[.int .i64 c,.int .i64 j]]) (by simp [results,Tryd.results17,go_sem,z0,z1,z2,z3,zl,x0,x1,xl,o0,o1,o2,o3]) rfl ?_
  exact hR
end

end Go.Proofs.YthfokmjpbnfihaaDoor
