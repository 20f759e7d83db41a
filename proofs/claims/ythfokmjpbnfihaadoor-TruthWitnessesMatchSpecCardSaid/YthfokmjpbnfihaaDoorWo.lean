/- Lemmas. -/
import Derived.Test.YthfokmjpbnfihaaDoorProg
import Derived.Test.YthfokmjpbnfihaaDoorWd
import Derived.Deep.DeepCutAuto
import Derived.Deep.RegionLaw
namespace Go.Proofs.YthfokmjpbnfihaaDoor
open Go Go.RowKit
set_option linter.unusedSimpArgs false
set_option linter.unusedVariables false
noncomputable section
set_option maxRecDepth 1000000
set_option maxHeartbeats 16000000
variable {s_0 s_2 tv s_8 s_9 s_10:Value} {Q:Exit→Act→World→Prop} {w:World} {A B:Option Addr} {n c i j h b o m d:Nat} {z:Int}

theorem frame_br {P:Act→Prop} (h:∀x0 x1 x2 x3 x4 x5 x6 x7 x8 x9 x10 x11 x12 x13 x14 x15 x16 x17 x18 x19 x20 x21 x22 x23 x24 x25 x26 x27 x28 x29 x30 x31 x32 x33 x34 x35 x36 x37 x38 x39 x40 x41 x42 x43 x44 x45 x46 x47 x48:Value,P ⟨(x0 :: x1 :: x2 :: x3 :: x4 :: x5 :: x6 :: x7 :: x8 :: x9 :: x10 :: x11 :: x12 :: x13 :: x14 :: x15 :: x16 :: x17 :: x18 :: x19 :: x20 :: x21 :: x22 :: x23 :: x24 :: x25 :: x26 :: x27 :: x28 :: x29 :: x30 :: x31 :: x32 :: x33 :: x34 :: x35 :: x36 :: x37 :: x38 :: x39 :: x40 :: x41 :: x42 :: x43 :: x44 :: x45 :: x46 :: x47 :: x48 :: []).toArray,[]⟩):∀a:Act,a.tmps.toList.length=49→a.defers=[]→P a := by
  rintro ⟨⟨l⟩,d⟩ hs hd
  simp only at hd
  subst hd
  revert l
  show ∀l:List Value,l.length=49→P ⟨⟨l⟩,[]⟩
  iterate 49 refine openS (fun _=>?_)
  refine open0 ?_
  exact h ..
noncomputable def cF44:Code := Tryd.f44.body.getD .skip
def c_br_r0 := sp 99 2 cF44
theorem br_r0_wp (hN:∀a',Frm 49 [(0,s_0),(1,tv),(2,s_2)] a'→Q .normal a' w):∀ac,Frm 49 [(0,s_0),(1,tv),(2,s_2)] ac→Code.wp Tryd.prog c_br_r0 Q ac w := by
  refine fO (frame_br ?_)
  intros
  rename_i hq
  iterate 3 (obtain ⟨e,hq⟩ := hq; obtain rfl := sI e; clear e)
  clear hq
  conv=>arg 2; whnf
  replace hN := Lib.hid hN
  go_wp2_with fail
  exact hN.out _ (by exact fR rfl rfl rfl)
def c_br_r1 := sp 99 5 cF44
theorem br_r1_wp (hN:∀a',Frm 49 [(0,.slice A n c),(1,tv),(2,s_2),(8,.int .i64 (n:Nat))] a'→Q .normal a' w):∀ac,Frm 49 [(0,.slice A n c),(1,tv),(2,s_2)] ac→Code.wp Tryd.prog c_br_r1 Q ac w := by
  refine fO (frame_br ?_)
  intros
  rename_i hq
  iterate 3 (obtain ⟨e,hq⟩ := hq; obtain rfl := sI e; clear e)
  clear hq
  conv=>arg 2; whnf
  replace hN := Lib.hid hN
  go_wp2_with fail
  exact hN.out _ (by exact fR rfl rfl rfl)
def c_br_r2 := sp 99 11 cF44
theorem br_r2_wp (hN:∀a',Frm 49 [(0,s_0),(1,tv),(2,s_2),(8,.int .i64 (n:Nat)),(9,.int .i64 (0:Nat)),(10,.int .i64 (n:Nat))] a'→Q .normal a' w):∀ac,Frm 49 [(0,s_0),(1,tv),(2,s_2),(8,.int .i64 (n:Nat))] ac→Code.wp Tryd.prog c_br_r2 Q ac w := by
  refine fO (frame_br ?_)
  intros
  rename_i hq
  iterate 4 (obtain ⟨e,hq⟩ := hq; obtain rfl := sI e; clear e)
  clear hq
  conv=>arg 2; whnf
  replace hN := Lib.hid hN
  go_wp2_with fail
  exact hN.out _ (by exact fR rfl rfl rfl)
def c_br_r3 := sp 99 263 cF44
theorem br_r3_wp (hN:∀a',Frm 49 [(0,s_0),(1,tv),(2,s_2),(8,s_8),(9,.int .i64 (i:Nat)),(10,.int .i64 (j:Nat)),(17,.bool (decide (i<j)))] a'→Q .normal a' w):∀ac,Frm 49 [(0,s_0),(1,tv),(2,s_2),(8,s_8),(9,.int .i64 (i:Nat)),(10,.int .i64 (j:Nat))] ac→Code.wp Tryd.prog c_br_r3 Q ac w := by
  refine fO (frame_br ?_)
  intros
  rename_i hq
  iterate 6 (obtain ⟨e,hq⟩ := hq; obtain rfl := sI e; clear e)
  clear hq
  conv=>arg 2; whnf
  by_cases h:i<j
  · have t1:decide ((i:Int)<(j:Int))=true := by first | exact decide_eq_true (by omega) | exact beq_iff_eq.2 (by omega) | exact bne_iff_ne.2 (by omega)
    have t2:(decide (i<j))=true := decide_eq_true h
    rw [t2] at hN
    clear h
    replace hN := Lib.hid hN
    go_wp2_with fail
    exact hN.out _ (by exact fR rfl rfl rfl)
  · have t1:decide ((i:Int)<(j:Int))=false := by first | exact decide_eq_false (by omega) | exact beq_eq_false_iff_ne.2 (by omega) | exact bne_eq_false_iff_eq.2 (by omega)
    have t2:(decide (i<j))=false := decide_eq_false h
    rw [t2] at hN
    clear h
    replace hN := Lib.hid hN
    go_wp2_with fail
    exact hN.out _ (by exact fR rfl rfl rfl)
def c_br_r4 := sp 99 583 cF44
theorem br_r4_wp (hi:i≤1000000) (hj:j≤1000000) (hN:∀a',Frm 49 [(0,s_0),(1,tv),(2,s_2),(8,s_8),(9,.int .i64 (i:Nat)),(10,.int .i64 (j:Nat)),(11,.int .i64 (((i+j) / 2):Nat))] a'→Q .normal a' w):∀ac,Frm 49 [(0,s_0),(1,tv),(2,s_2),(8,s_8),(9,.int .i64 (i:Nat)),(10,.int .i64 (j:Nat))] ac→Code.wp Tryd.prog c_br_r4 Q ac w := by
  refine fO (frame_br ?_)
  intros
  rename_i hq
  iterate 6 (obtain ⟨e,hq⟩ := hq; obtain rfl := sI e; clear e)
  clear hq
  conv=>arg 2; whnf
  have q1:(i:Int)≤1000000 := by omega
  have q2:(j:Int)≤1000000 := by omega
  replace hN := Lib.hid hN
  go_wp2_with fail
  exact hN.out _ (by exact fR rfl rfl rfl)
def c_br_r5 := sp 99 1351 cF44
theorem br_r5_wp (hh:h<n) (e0:w.cell? ⟨b,o+h,none⟩=some (.slice B m d)) (hbl:b<w.heap.size) (hc:∀W:World,Below w.heap.size w W→Calls Tryd.prog 35 #[.slice B m d,tv] W fun e w'=>e=.returned (.int .i64 z)∧Below w.heap.size w w') (hN:∀a' w',Frm 49 [(0,.slice (some ⟨b,o,none⟩) n c),(1,tv),(2,.func (Fn.func 35) #[] #[]),(8,s_8),(9,s_9),(10,s_10),(11,.int .i64 (h:Nat)),(31,.bool (decide (z<0)))] a'→Below w.heap.size w w'→Q .normal a' w'):∀ac,Frm 49 [(0,.slice (some ⟨b,o,none⟩) n c),(1,tv),(2,.func (Fn.func 35) #[] #[]),(8,s_8),(9,s_9),(10,s_10),(11,.int .i64 (h:Nat))] ac→Code.wp Tryd.prog c_br_r5 Q ac w := by
  refine fO (frame_br ?_)
  intros
  rename_i hq
  iterate 7 (obtain ⟨e,hq⟩ := hq; obtain rfl := sI e; clear e)
  clear hq
  conv=>arg 2; whnf
  have q0:(0:Int)≤(h:Int) := by omega
  have q1:(h:Int)<(n:Int) := by omega
  by_cases hz:z<0
  · have t1:decide (z<0)=true := decide_eq_true hz
    rw [t1] at hN
    clear hz
    have HN := Lib.hid hN
    have HC := Lib.hid hc
    clear hN hc
    go_wp2_with fail
    (with_reducible refine (HC.out _ (Below.refl _ _)).mono ?_)
    rintro e w1 ⟨rfl,hb1⟩
    replace hb1 := Lib.hid hb1
    go_wp2_with fail
    exact HN.out _ _ (by exact fR rfl rfl rfl) hb1.out
  · have t1:decide (z<0)=false := decide_eq_false hz
    rw [t1] at hN
    clear hz
    have HN := Lib.hid hN
    have HC := Lib.hid hc
    clear hN hc
    go_wp2_with fail
    (with_reducible refine (HC.out _ (Below.refl _ _)).mono ?_)
    rintro e w1 ⟨rfl,hb1⟩
    replace hb1 := Lib.hid hb1
    go_wp2_with fail
    exact HN.out _ _ (by exact fR rfl rfl rfl) hb1.out
def c_br_r6 := sp 99 2887 cF44
theorem br_r6_wp (hh:h≤1000000) (hN:∀a',Frm 49 [(0,s_0),(1,tv),(2,s_2),(8,s_8),(9,.int .i64 ((h+1):Nat)),(10,s_10)] a'→Q .normal a' w):∀ac,Frm 49 [(0,s_0),(1,tv),(2,s_2),(8,s_8),(9,.int .i64 (i:Nat)),(10,s_10),(11,.int .i64 (h:Nat))] ac→Code.wp Tryd.prog c_br_r6 Q ac w := by
  refine fO (frame_br ?_)
  intros
  rename_i hq
  iterate 7 (obtain ⟨e,hq⟩ := hq; obtain rfl := sI e; clear e)
  clear hq
  conv=>arg 2; whnf
  have q1:(h:Int)≤1000000 := by omega
  replace hN := Lib.hid hN
  go_wp2_with fail
  exact hN.out _ (by exact fR rfl rfl rfl)
def c_br_r7 := sp 99 3911 cF44
theorem br_r7_wp (hN:∀a',Frm 49 [(0,s_0),(1,tv),(2,s_2),(8,s_8),(9,s_9),(10,.int .i64 (h:Nat))] a'→Q .normal a' w):∀ac,Frm 49 [(0,s_0),(1,tv),(2,s_2),(8,s_8),(9,s_9),(10,.int .i64 (j:Nat)),(11,.int .i64 (h:Nat))] ac→Code.wp Tryd.prog c_br_r7 Q ac w := by
  refine fO (frame_br ?_)
  intros
  rename_i hq
  iterate 7 (obtain ⟨e,hq⟩ := hq; obtain rfl := sI e; clear e)
  clear hq
  conv=>arg 2; whnf
  replace hN := Lib.hid hN
  go_wp2_with fail
  exact hN.out _ (by exact fR rfl rfl rfl)
def c_br_r8n := sp 99 47 cF44
theorem br_r8n_wp (hi:n≤i) (hN:∀a',Frm 49 [(6,.int .i64 (i:Nat)),(7,.bool false)] a'→Q .normal a' w):∀ac,Frm 49 [(0,.slice A n c),(1,tv),(2,.func (Fn.func 35) #[] #[]),(8,.int .i64 (n:Nat)),(9,.int .i64 (i:Nat)),(10,s_10)] ac→Code.wp Tryd.prog c_br_r8n Q ac w := by
  refine fO (frame_br ?_)
  intros
  rename_i hq
  iterate 6 (obtain ⟨e,hq⟩ := hq; obtain rfl := sI e; clear e)
  clear hq
  conv=>arg 2; whnf
  have t1:decide ((i:Int)<(n:Int))=false := decide_eq_false (by omega)
  have t2:decide (i<n)=false := decide_eq_false (by omega)
  replace hN := Lib.hid hN
  go_wp2_with fail
  exact hN.out _ (id ⟨rfl,rfl,rfl,rfl,trivial⟩)
def c_br_r8 := sp 99 47 cF44
theorem br_r8_wp (hi:i<n) (e0:w.cell? ⟨b,o+i,none⟩=some (.slice B m d)) (hbl:b<w.heap.size) (hc:∀W:World,Below w.heap.size w W→Calls Tryd.prog 35 #[.slice B m d,tv] W fun e w'=>e=.returned (.int .i64 z)∧Below w.heap.size w w') (hN:∀a' w',Frm 49 [(6,.int .i64 (i:Nat)),(7,.bool (decide (z=0)))] a'→Below w.heap.size w w'→Q .normal a' w'):∀ac,Frm 49 [(0,.slice (some ⟨b,o,none⟩) n c),(1,tv),(2,.func (Fn.func 35) #[] #[]),(8,.int .i64 (n:Nat)),(9,.int .i64 (i:Nat)),(10,s_10)] ac→Code.wp Tryd.prog c_br_r8 Q ac w := by
  refine fO (frame_br ?_)
  intros
  rename_i hq
  iterate 6 (obtain ⟨e,hq⟩ := hq; obtain rfl := sI e; clear e)
  clear hq
  conv=>arg 2; whnf
  have q0:(0:Int)≤(i:Int) := by omega
  have q1:(i:Int)<(n:Int) := by omega
  have t1:decide ((i:Int)<(n:Int))=true := decide_eq_true (by omega)
  have t2:decide (i<n)=true := decide_eq_true (by omega)
  by_cases hz:z=0
  · subst hz
    rw [show decide ((0:Int)=0)=true from rfl] at hN
    have HN := Lib.hid hN
    have HC := Lib.hid hc
    clear hN hc
    go_wp2_with fail
    (with_reducible refine (HC.out _ (Below.refl _ _)).mono ?_)
    rintro e w1 ⟨rfl,hb1⟩
    replace hb1 := Lib.hid hb1
    go_wp2_with fail
    exact HN.out _ _ (id ⟨rfl,rfl,rfl,rfl,trivial⟩) hb1.out
  · have t3:(z == 0)=false := beq_eq_false_iff_ne.2 hz
    rw [show decide (z=0)=false from decide_eq_false hz] at hN
    clear hz
    have HN := Lib.hid hN
    have HC := Lib.hid hc
    clear hN hc
    go_wp2_with fail
    (with_reducible refine (HC.out _ (Below.refl _ _)).mono ?_)
    rintro e w1 ⟨rfl,hb1⟩
    replace hb1 := Lib.hid hb1
    go_wp2_with fail
    exact HN.out _ _ (id ⟨rfl,rfl,rfl,rfl,trivial⟩) hb1.out
theorem br_ret_wp {R:Ending→World→Prop} {w':World} {bb:Bool} (hR:R (.returned (.tuple #[.int .i64 (i:Nat),.bool bb])) w'):∀ac,Frm 49 [(6,.int .i64 (i:Nat)),(7,.bool bb)] ac→bodyPost Tryd.prog Tryd.f44 R .ret ac w' := by
  refine fO (frame_br ?_)
  intros
  rename_i hq
  iterate 2 (obtain ⟨e,hq⟩ := hq; obtain rfl := sI e; clear e)
  clear hq
  refine bodyPost_ret (v := .tuple #[.int .i64 (i:Nat),.bool bb]) (by simp [results,Tryd.results44,go_sem]) rfl ?_
  exact hR
end
noncomputable section
variable {P:Program}

theorem addr_none (b o n:Nat):Addr.add ⟨b,o,none⟩ n=⟨b,o+n,none⟩ := by
  unfold Addr.add; split <;> simp [*]
theorem run_append_nothing (w:World) {t ty e:TypeId} {i:TypeInfo} (ht:P.underlying t=some (.slice e)) (hi:P.info? e=some i) {A:Option Addr} {n c c':Nat} (hnc:n≤c) :
    (Builtin.append_ #[t,t] ty #[.slice A n c,.slice none 0 c']).run P w=.ok (.slice A n c) w := by
  cases A <;> simp [Builtin.append_,run_underlying ht,sizeOf,typeInfo,hi,Builtin.lenOf,Builtin.firstCells,loadCells,loadCellsFrom,storeCells,hnc]
theorem step_append_all (w:World) {ops:Array Oper} {o:Oper} {a:Act} {K:Act→World→Prop} {Q:Exit→Act→World→Prop} {E:Prop} (hgd:o.guard=none) (s x:Operand) (t:TypeId)
    (ho:o.op=.call { callee := .builtin .append,args := #[s,x],argTypes := #[t,t] })
    (base:Nat) (e:TypeId) (i:TypeInfo) (z:Value) (size bytes:Nat) (ht:P.underlying t=some (.slice e)) (hi:P.info? e=some i) (hz:i.zero=some z)
    (hsize:i.size=size) (hby:i.bytes=bytes) (hzs:z.cells.size=size) (hsz:0<size)
    (v:Value) (n:Nat) (xs:List Value) (hs:a.eval s=v) (hown:w.ownsRow base e size v n xs)
    (xv:Value) (m:Nat) (news:List Value) (hx:a.eval x=xv) (hl:news.length=m * size)
    (hnews:(m=0∧∃c,xv=.slice none 0 c)∨∃ad c,xv=.slice (some ad) m c∧∀j u,news[j]?=some u→w.cell? (ad.add j)=some u) (h1:∀u∈news,u.oneCell'=true)
    (h63:n+m≤maxLen) (hbytes:(n+m) * bytes≤140737488355328) (hbase:base≤w.heap.size) (H:Nat) (hH:w.heap.size=H) (N:Nat) (hN:n+m=N)
    (h:∀A c w',w'.ownsRow base e size (.slice A N c) N (xs++news)→w.grownBy w' v.ownBlock→((Value.slice A N c).ownBlock=v.ownBlock∨(Value.slice A N c).ownBlock=some H)→K (a.put o.dst (.slice A N c)) w') :
    if Region.wanted o (yielded ops a.tmps)=true then Oper.wp P o a w K Q else E := by
  have hw:Region.wanted o (yielded ops a.tmps)=true := by simp [Region.wanted,hgd]
  rw [if_pos hw]
  subst hN
  rcases hnews with ⟨rfl,c,rfl⟩ | ⟨ad,c,rfl,hn⟩
  · have hn0:news=[] := List.eq_nil_of_length_eq_zero (by simpa using hl)
    subst hn0
    obtain ⟨A,cc,hv,hle⟩:∃A cc,v=.slice A n cc∧n≤cc := by
      rcases hown.2 with ⟨e1,e2⟩ | ⟨g,cap,cur,e1,_,_,e2,_⟩
      · exact ⟨none,0,by rw [e1,e2],by omega⟩
      · exact ⟨_,cap,e1,e2⟩
    subst hv
    have hr := run_append_nothing (P := P) w (ty := o.type) (c' := c) ht hi (A := A) hle
    unfold Oper.wp execOp
    simp only [ho,resolve,invoke,builtin,Sem.run_bind,Sem.run_pure,Result.andThen_ok,List.map_toArray,List.map_cons,List.map_nil,hs,hx,hr]
    exact h A cc w (by simpa using hown) ⟨rfl,rfl,rfl,Nat.le_refl _,fun _ _ _=>rfl⟩ (Or.inl rfl)
  · obtain ⟨v',w',hr,h2,h3,_,h5⟩ := run_append_own_at (P := P) w base t o.type e i z size bytes ht hi hz hsize hby hzs hsz v n xs hown ad m c news hl hn h1 h63 hbytes hbase
    obtain ⟨A,cc,hv⟩:∃A cc,v'=.slice A (n+m) cc := by
      rcases h2.2 with ⟨e1,e2⟩ | ⟨g,cap,cur,e1,_⟩
      · exact ⟨none,0,by rw [e1,e2]⟩
      · exact ⟨_,cap,e1⟩
    subst hv
    unfold Oper.wp execOp
    simp only [ho,resolve,invoke,builtin,Sem.run_bind,Sem.run_pure,Result.andThen_ok,List.map_toArray,List.map_cons,List.map_nil,hs,hx,hr]
    exact h A cc w' h2 h3 (by rw [← hH]; exact h5)
theorem wpList_append_all (w:World) {ops:Array Oper} {rest:List Oper} {o:Oper} {a:Act} {Q:Exit→Act→World→Prop} (hgd:o.guard=none) (s x:Operand) (t:TypeId)
    (ho:o.op=.call { callee := .builtin .append,args := #[s,x],argTypes := #[t,t] })
    (base:Nat) (e:TypeId) (i:TypeInfo) (z:Value) (size bytes:Nat) (ht:P.underlying t=some (.slice e)) (hi:P.info? e=some i) (hz:i.zero=some z)
    (hsize:i.size=size) (hby:i.bytes=bytes) (hzs:z.cells.size=size) (hsz:0<size)
    (v:Value) (n:Nat) (xs:List Value) (hs:a.eval s=v) (hown:w.ownsRow base e size v n xs)
    (xv:Value) (m:Nat) (news:List Value) (hx:a.eval x=xv) (hl:news.length=m * size)
    (hnews:(m=0∧∃c,xv=.slice none 0 c)∨∃ad c,xv=.slice (some ad) m c∧∀j u,news[j]?=some u→w.cell? (ad.add j)=some u) (h1:∀u∈news,u.oneCell'=true)
    (h63:n+m≤maxLen) (hbytes:(n+m) * bytes≤140737488355328) (hbase:base≤w.heap.size) (H:Nat) (hH:w.heap.size=H) (N:Nat) (hN:n+m=N)
    (h:∀A c w',w'.ownsRow base e size (.slice A N c) N (xs++news)→w.grownBy w' v.ownBlock→((Value.slice A N c).ownBlock=v.ownBlock∨(Value.slice A N c).ownBlock=some H)→wpList P ops Q rest (a.put o.dst (.slice A N c)) w'):wpList P ops Q (o :: rest) a w :=
  wpList_plain hgd fun K hK=>by
    have hw:Region.wanted o (yielded ops a.tmps)=true := by simp [Region.wanted,hgd]
    have h2 := step_append_all (E := True) (ops := ops) (K := K) (Q := Q) w hgd s x t ho base e i z size bytes ht hi hz hsize hby hzs hsz v n xs hs hown xv m news hx hl hnews h1 h63 hbytes hbase H hH N hN (fun A c w' h1 h2 h3=>hK _ _ (h A c w' h1 h2 h3))
    rw [if_pos hw] at h2
    exact h2
theorem ownsRow_made {w:World} {base size g:Nat} {E:TypeId} (h:w.heap[g]?=some (.cells #[] E (0,0))) (hg:base≤g):w.ownsRow base E size (.slice (some ⟨g,0,none⟩) 0 0) 0 [] :=
  ⟨by simp,Or.inr ⟨g,0,#[],rfl,hg,h,Nat.le_refl _,Nat.zero_le _,by simp,by simp⟩⟩
end

end Go.Proofs.YthfokmjpbnfihaaDoor
