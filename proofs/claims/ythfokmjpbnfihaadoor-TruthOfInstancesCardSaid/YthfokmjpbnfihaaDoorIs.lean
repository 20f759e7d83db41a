/- Lemmas. -/
import Derived.Test.YthfokmjpbnfihaaDoorIr
namespace Go.Proofs.YthfokmjpbnfihaaDoor
open Go Go.RowKit
set_option linter.unusedSimpArgs false
set_option linter.unusedVariables false
noncomputable section
set_option maxRecDepth 1000000
set_option maxHeartbeats 16000000
variable {s_3 s_4 s_5 s_7 s_135 s_136:Value} {Q:Exit→Act→World→Prop} {kd k0 z k1:Int} {w wo:World} {K:Act→World→Prop} {b1 bb b8 bx:Bool} {b o p0 q0 r0 u0 me ee nm1 cm nm2 dm n1 c1 c2 p1 q1 r1 u1 i n2:Nat} {s0 nm s1:ByteArray} {A0 B0 De Am Bm A A1 B1 B:Option Addr}

def c_vl_r17 := sp 99 6123 cF23
theorem vl_r17_wp (hN:∀a',Frm 168 [(3,s_3),(4,s_4),(5,s_5),(7,s_7),(18,.int .i64 kd),(69,.bool (decide (kd=4)))] a'→Q .normal a' w):∀ac,Frm 168 [(3,s_3),(4,s_4),(5,s_5),(7,s_7),(18,.int .i64 kd)] ac→Code.wp Tryd.prog c_vl_r17 Q ac w := by
  refine fO (frame_vl ?_)
  intros
  rename_i hq
  iterate 5 (obtain ⟨e,hq⟩ := hq; obtain rfl := sI e; clear e)
  clear hq
  conv=>arg 2; whnf
  by_cases h:kd=4
  · have t1:(kd == 4)=true := beq_iff_eq.2 h
    rw [decide_eq_true h] at hN
    clear h
    replace hN := Lib.hid hN
    go_wp2_with fail
    exact hN.out _ (by exact fR rfl rfl rfl)
  · have t1:(kd == 4)=false := beq_eq_false_iff_ne.2 h
    rw [decide_eq_false h] at hN
    clear h
    replace hN := Lib.hid hN
    go_wp2_with fail
    exact hN.out _ (by exact fR rfl rfl rfl)
def c_vl_r19 := sp 99 24555 cF23
theorem vl_r19_wp (hN:∀a',Frm 168 [(3,s_3),(4,s_4),(5,s_5),(7,s_7),(18,.int .i64 kd),(79,.bool (decide (kd=5)))] a'→Q .normal a' w):∀ac,Frm 168 [(3,s_3),(4,s_4),(5,s_5),(7,s_7),(18,.int .i64 kd)] ac→Code.wp Tryd.prog c_vl_r19 Q ac w := by
  refine fO (frame_vl ?_)
  intros
  rename_i hq
  iterate 5 (obtain ⟨e,hq⟩ := hq; obtain rfl := sI e; clear e)
  clear hq
  conv=>arg 2; whnf
  by_cases h:kd=5
  · have t1:(kd == 5)=true := beq_iff_eq.2 h
    rw [decide_eq_true h] at hN
    clear h
    replace hN := Lib.hid hN
    go_wp2_with fail
    exact hN.out _ (by exact fR rfl rfl rfl)
  · have t1:(kd == 5)=false := beq_eq_false_iff_ne.2 h
    rw [decide_eq_false h] at hN
    clear h
    replace hN := Lib.hid hN
    go_wp2_with fail
    exact hN.out _ (by exact fR rfl rfl rfl)
def c_vl_r21 := sp 99 98283 cF23
theorem vl_r21_wp (hN:∀a',Frm 168 [(3,s_3),(4,s_4),(5,s_5),(7,s_7),(18,.int .i64 kd),(97,.bool (decide (kd=6)))] a'→Q .normal a' w):∀ac,Frm 168 [(3,s_3),(4,s_4),(5,s_5),(7,s_7),(18,.int .i64 kd)] ac→Code.wp Tryd.prog c_vl_r21 Q ac w := by
  refine fO (frame_vl ?_)
  intros
  rename_i hq
  iterate 5 (obtain ⟨e,hq⟩ := hq; obtain rfl := sI e; clear e)
  clear hq
  conv=>arg 2; whnf
  by_cases h:kd=6
  · have t1:(kd == 6)=true := beq_iff_eq.2 h
    rw [decide_eq_true h] at hN
    clear h
    replace hN := Lib.hid hN
    go_wp2_with fail
    exact hN.out _ (by exact fR rfl rfl rfl)
  · have t1:(kd == 6)=false := beq_eq_false_iff_ne.2 h
    rw [decide_eq_false h] at hN
    clear h
    replace hN := Lib.hid hN
    go_wp2_with fail
    exact hN.out _ (by exact fR rfl rfl rfl)
def c_vl_r23 := sp 99 393195 cF23
theorem vl_r23_wp (hN:∀a',Frm 168 [(3,s_3),(4,s_4),(5,s_5),(7,s_7),(18,.int .i64 kd),(115,.bool (decide (kd=7)))] a'→Q .normal a' w):∀ac,Frm 168 [(3,s_3),(4,s_4),(5,s_5),(7,s_7),(18,.int .i64 kd)] ac→Code.wp Tryd.prog c_vl_r23 Q ac w := by
  refine fO (frame_vl ?_)
  intros
  rename_i hq
  iterate 5 (obtain ⟨e,hq⟩ := hq; obtain rfl := sI e; clear e)
  clear hq
  conv=>arg 2; whnf
  by_cases h:kd=7
  · have t1:(kd == 7)=true := beq_iff_eq.2 h
    rw [decide_eq_true h] at hN
    clear h
    replace hN := Lib.hid hN
    go_wp2_with fail
    exact hN.out _ (by exact fR rfl rfl rfl)
  · have t1:(kd == 7)=false := beq_eq_false_iff_ne.2 h
    rw [decide_eq_false h] at hN
    clear h
    replace hN := Lib.hid hN
    go_wp2_with fail
    exact hN.out _ (by exact fR rfl rfl rfl)
def c_vl_r18 := sp 99 20459 cF23
theorem vl_r18_wp (hgm:w.heap[wo.heap.size]? = some (.cells #[.int .i64 z,.slice Am nm1 cm,.slice Bm nm2 dm] 25 (0,0))) (ha:w.heap[wo.heap.size+1]? = some (.cells #[.int .i64 kd,.string nm,.slice A n1 c1,.slice (some ⟨b,o,none⟩) 1 c2] 29 (0,0))) (hge:w.heap[wo.heap.size+1+1]? = some (.cells #[.slice De me ee] 62 (0,0))) (e0_0:w.cell? ⟨b,o,none⟩=some (.int .i64 k0)) (e0_1:w.cell? ⟨b,o+1,none⟩=some (.string s0)) (e0_2:w.cell? ⟨b,o+2,none⟩=some (.slice A0 p0 q0)) (e0_3:w.cell? ⟨b,o+3,none⟩=some (.slice B0 r0 u0)) (hbl:b<w.heap.size) (hc1:∀W:World,Below w.heap.size w W→Calls Tryd.prog 23 #[.agg #[.int .i64 z,.slice Am nm1 cm,.slice Bm nm2 dm],.agg #[.int .i64 k0,.string s0,.slice A0 p0 q0,.slice B0 r0 u0],.slice De me ee] W fun e w'=>e=.returned (.bool b1)∧Below w.heap.size w w') (hN:∀a' w',Frm 168 [(6,.bool (!b1))] a'→Below w.heap.size w w'→K a' w'):∀ac,Frm 168 [(3,.pointer (some ⟨wo.heap.size,0,none⟩)),(4,.pointer (some ⟨(wo.heap.size+1),0,none⟩)),(5,.pointer (some ⟨(wo.heap.size+1+1),0,none⟩)),(7,s_7)] ac→Code.wp Tryd.prog c_vl_r18 (Exit.then K (fun _ _ _=>False)) ac w := by
  refine fO (frame_vl ?_)
  intros
  rename_i hq
  iterate 4 (obtain ⟨e,hq⟩ := hq; obtain rfl := sI e; clear e)
  clear hq
  conv=>arg 2; whnf
  have a0 := cellv ha 0 rfl
  have a1 := cellv ha 1 rfl
  have a2 := cellv ha 2 rfl
  have a3 := cellv ha 3 rfl
  have al := lt_heap ha
  clear ha
  have m0 := cellv hgm 0 rfl
  have m1 := cellv hgm 1 rfl
  have m2 := cellv hgm 2 rfl
  have ml := lt_heap hgm
  clear hgm
  have g0 := cellv hge 0 rfl
  have gl := lt_heap hge
  clear hge
  have HC1 := Lib.hid hc1
  have HN := Lib.hid hN
  clear hc1 hN
  go_region_law (first
    | (refine step_call (by rfl) 23 _ ?hargs (HC1.out _ ?hbel) ?_; (case hargs=>(go_simp; done)); (case hbel=>first | exact Below.refl _ _ | exact (Below.refl _ _).drew); rintro e w1 ⟨rfl,hb1⟩; refine ⟨_,rfl,?_⟩; have HB1 := Lib.hid hb1; clear hb1))
  all_goals go_wp2_with fail
  all_goals exact HN.out _ _ (id ⟨rfl,rfl,rfl,trivial⟩) HB1.out
def c_vl_r20 := sp 99 81899 cF23
theorem vl_r20_wp {b2:Bool} (hgm:w.heap[wo.heap.size]? = some (.cells #[.int .i64 z,.slice Am nm1 cm,.slice Bm nm2 dm] 25 (0,0))) (ha:w.heap[wo.heap.size+1]? = some (.cells #[.int .i64 kd,.string nm,.slice A n1 c1,.slice (some ⟨b,o,none⟩) 2 c2] 29 (0,0))) (hge:w.heap[wo.heap.size+1+1]? = some (.cells #[.slice De me ee] 62 (0,0))) (e0_0:w.cell? ⟨b,o,none⟩=some (.int .i64 k0)) (e0_1:w.cell? ⟨b,o+1,none⟩=some (.string s0)) (e0_2:w.cell? ⟨b,o+2,none⟩=some (.slice A0 p0 q0)) (e0_3:w.cell? ⟨b,o+3,none⟩=some (.slice B0 r0 u0)) (e1_0:w.cell? ⟨b,o+4,none⟩=some (.int .i64 k1)) (e1_1:w.cell? ⟨b,o+5,none⟩=some (.string s1)) (e1_2:w.cell? ⟨b,o+6,none⟩=some (.slice A1 p1 q1)) (e1_3:w.cell? ⟨b,o+7,none⟩=some (.slice B1 r1 u1)) (hbl:b<w.heap.size) (hc1:∀W:World,Below w.heap.size w W→Calls Tryd.prog 23 #[.agg #[.int .i64 z,.slice Am nm1 cm,.slice Bm nm2 dm],.agg #[.int .i64 k0,.string s0,.slice A0 p0 q0,.slice B0 r0 u0],.slice De me ee] W fun e w'=>e=.returned (.bool b1)∧Below w.heap.size w w') (hc2:∀W:World,Below w.heap.size w W→Calls Tryd.prog 23 #[.agg #[.int .i64 z,.slice Am nm1 cm,.slice Bm nm2 dm],.agg #[.int .i64 k1,.string s1,.slice A1 p1 q1,.slice B1 r1 u1],.slice De me ee] W fun e w'=>e=.returned (.bool b2)∧Below w.heap.size w w') (hN:∀a' w',Frm 168 [(6,.bool (b1 && b2))] a'→Below w.heap.size w w'→K a' w'):∀ac,Frm 168 [(3,.pointer (some ⟨wo.heap.size,0,none⟩)),(4,.pointer (some ⟨(wo.heap.size+1),0,none⟩)),(5,.pointer (some ⟨(wo.heap.size+1+1),0,none⟩)),(7,s_7)] ac→Code.wp Tryd.prog c_vl_r20 (Exit.then K (fun _ _ _=>False)) ac w := by
  refine fO (frame_vl ?_)
  intros
  rename_i hq
  iterate 4 (obtain ⟨e,hq⟩ := hq; obtain rfl := sI e; clear e)
  clear hq
  conv=>arg 2; whnf
  have a0 := cellv ha 0 rfl
  have a1 := cellv ha 1 rfl
  have a2 := cellv ha 2 rfl
  have a3 := cellv ha 3 rfl
  have al := lt_heap ha
  clear ha
  have m0 := cellv hgm 0 rfl
  have m1 := cellv hgm 1 rfl
  have m2 := cellv hgm 2 rfl
  have ml := lt_heap hgm
  clear hgm
  have g0 := cellv hge 0 rfl
  have gl := lt_heap hge
  clear hge
  cases b1
  · rw [show (false && b2)=false from by cases b2 <;> rfl] at hN
    have HC1 := Lib.hid hc1
    have HC2 := Lib.hid hc2
    have HN := Lib.hid hN
    clear hc1 hc2 hN
    refine wp_region_held_drew (S := fun w'=>w'.cell? ⟨wo.heap.size,0,none⟩=some (.int .i64 z)∧w'.cell? ⟨wo.heap.size,1,none⟩=some (.slice Am nm1 cm)∧w'.cell? ⟨wo.heap.size,2,none⟩=some (.slice Bm nm2 dm)∧w'.cell? ⟨wo.heap.size+1,3,none⟩=some (.slice (some ⟨b,o,none⟩) 2 c2)∧w'.cell? ⟨wo.heap.size+1+1,0,none⟩=some (.slice De me ee)∧w'.cell? ⟨b,o,none⟩=some (.int .i64 k0)∧w'.cell? ⟨b,o+1,none⟩=some (.string s0)∧w'.cell? ⟨b,o+2,none⟩=some (.slice A0 p0 q0)∧w'.cell? ⟨b,o+3,none⟩=some (.slice B0 r0 u0)∧w'.cell? ⟨b,o+4,none⟩=some (.int .i64 k1)∧w'.cell? ⟨b,o+5,none⟩=some (.string s1)∧w'.cell? ⟨b,o+6,none⟩=some (.slice A1 p1 q1)∧w'.cell? ⟨b,o+7,none⟩=some (.slice B1 r1 u1)) (by kernel_rfl) ?_ (fun hHeld=>?_)
    · (try dsimp only); go_keep
    refine wpAnyH_take (i := 0) (oi := _) (v := ?v0) rfl (by kernel_rfl) (by kernel_rfl) (by kernel_rfl) (fun _ _ _ h=>h) (Or.inl ⟨by rfl,?hy0⟩) (by assumption) ?rest0
    case hy0=>((intro w hSw; (try dsimp only at hSw); (try simp only [List.getElem_toArray,List.getElem_cons_zero,List.getElem_cons_succ]); go_simp); try with_reducible rfl)
    try simp only [Act.put,List.getElem_toArray,List.getElem_cons_zero,List.getElem_cons_succ,List.setIfInBounds_toArray,List.set_cons_zero,List.set_cons_succ]
    refine wpAnyH_take (i := 1) (oi := _) (v := ?v1) rfl (by kernel_rfl) (by kernel_rfl) (by kernel_rfl) (fun _ _ _ h=>h) (Or.inl ⟨by rfl,?hy1⟩) (by assumption) ?rest1
    case hy1=>((intro w hSw; (try dsimp only at hSw); (try simp only [List.getElem_toArray,List.getElem_cons_zero,List.getElem_cons_succ]); go_simp); try with_reducible rfl)
    try simp only [Act.put,List.getElem_toArray,List.getElem_cons_zero,List.getElem_cons_succ,List.setIfInBounds_toArray,List.set_cons_zero,List.set_cons_succ]
    refine wpAnyH_take (i := 2) (oi := _) (v := ?v2) rfl (by kernel_rfl) (by kernel_rfl) (by kernel_rfl) (fun _ _ _ h=>h) (Or.inl ⟨by rfl,?hy2⟩) (by assumption) ?rest2
    case hy2=>((intro w hSw; (try dsimp only at hSw); (try simp only [List.getElem_toArray,List.getElem_cons_zero,List.getElem_cons_succ]); go_simp); try with_reducible rfl)
    try simp only [Act.put,List.getElem_toArray,List.getElem_cons_zero,List.getElem_cons_succ,List.setIfInBounds_toArray,List.set_cons_zero,List.set_cons_succ]
    refine wpAnyH_take (i := 3) (oi := _) (v := ?v3) rfl (by kernel_rfl) (by kernel_rfl) (by kernel_rfl) (fun _ _ _ h=>h) (Or.inl ⟨by rfl,?hy3⟩) (by assumption) ?rest3
    case hy3=>((intro w hSw; (try dsimp only at hSw); (try simp only [List.getElem_toArray,List.getElem_cons_zero,List.getElem_cons_succ]); go_simp); try with_reducible rfl)
    try simp only [Act.put,List.getElem_toArray,List.getElem_cons_zero,List.getElem_cons_succ,List.setIfInBounds_toArray,List.set_cons_zero,List.set_cons_succ]
    refine wpAnyH_take (i := 4) (oi := _) (v := ?v4) rfl (by kernel_rfl) (by kernel_rfl) (by kernel_rfl) (fun _ _ _ h=>h) (Or.inl ⟨by rfl,?hy4⟩) (by assumption) ?rest4
    case hy4=>((intro w hSw; (try dsimp only at hSw); (try simp only [List.getElem_toArray,List.getElem_cons_zero,List.getElem_cons_succ]); go_simp); try with_reducible rfl)
    try simp only [Act.put,List.getElem_toArray,List.getElem_cons_zero,List.getElem_cons_succ,List.setIfInBounds_toArray,List.set_cons_zero,List.set_cons_succ]
    refine wpAnyH_take (i := 5) (oi := _) (v := ?v5) rfl (by kernel_rfl) (by kernel_rfl) (by kernel_rfl) (fun _ _ _ h=>h) (Or.inl ⟨by rfl,?hy5⟩) (by assumption) ?rest5
    case hy5=>((intro w hSw; (try dsimp only at hSw); (try simp only [List.getElem_toArray,List.getElem_cons_zero,List.getElem_cons_succ]); go_simp); try with_reducible rfl)
    try simp only [Act.put,List.getElem_toArray,List.getElem_cons_zero,List.getElem_cons_succ,List.setIfInBounds_toArray,List.set_cons_zero,List.set_cons_succ]
    refine wpAnyH_ready (rs := [6]) (by kernel_rfl) (by simp) ?_
    refine AllReadyH.cons (o := _) rfl ?_ AllReadyH.nil
    intro K hK
    try simp only [List.getElem_toArray,List.getElem_cons_zero,List.getElem_cons_succ]
    go_simp
    (with_reducible refine (HC1.out _ ?hbel).mono ?_); (case hbel=>first | exact Below.refl _ _ | exact (Below.refl _ _).drew | exact HB1.out | exact HB1.out.drew); rintro e w4 ⟨rfl,hw4⟩; have kc5:∀k q,k<w.heap.size→w4.cell? ⟨k,q,none⟩=_ := (fun k q h=>hw4.cell (p := ⟨k,q,none⟩) h); have HB1 := Lib.hid hw4; clear hw4
    go_wp2_with fail
    refine hK.out _ _ ?_ (fun hHeld2=>?_)
    · (try dsimp only); ((first | (go_keep; done) | (go_split_ands; (repeat' apply And.intro) <;> (refine (kc5 _ _ (by omega)).trans ?_; assumption))))
    clear hK K hHeld
    (try simp only [Act.put,List.setIfInBounds_toArray,List.set_cons_zero,List.set_cons_succ])
    refine wpAnyH_take (i := 7) (oi := _) (v := ?v7) rfl (by kernel_rfl) (by kernel_rfl) (by kernel_rfl) (fun _ _ _ h=>h) (Or.inl ⟨by rfl,?hy7⟩) (by assumption) ?rest7
    case hy7=>((intro w hSw; (try dsimp only at hSw); (try simp only [List.getElem_toArray,List.getElem_cons_zero,List.getElem_cons_succ]); go_simp); try with_reducible rfl)
    try simp only [Act.put,List.getElem_toArray,List.getElem_cons_zero,List.getElem_cons_succ,List.setIfInBounds_toArray,List.set_cons_zero,List.set_cons_succ]
    refine wpAnyH_take (i := 8) (oi := _) (v := undef) rfl (by kernel_rfl) (by kernel_rfl) (by kernel_rfl) (fun _ _ _ h=>h) (Or.inr ⟨by rfl,rfl⟩) (by assumption) ?_
    try simp only [Act.put,List.getElem_toArray,List.getElem_cons_zero,List.getElem_cons_succ,List.setIfInBounds_toArray,List.set_cons_zero,List.set_cons_succ]
    refine wpAnyH_take (i := 9) (oi := _) (v := undef) rfl (by kernel_rfl) (by kernel_rfl) (by kernel_rfl) (fun _ _ _ h=>h) (Or.inr ⟨by rfl,rfl⟩) (by assumption) ?_
    try simp only [Act.put,List.getElem_toArray,List.getElem_cons_zero,List.getElem_cons_succ,List.setIfInBounds_toArray,List.set_cons_zero,List.set_cons_succ]
    refine wpAnyH_take (i := 10) (oi := _) (v := undef) rfl (by kernel_rfl) (by kernel_rfl) (by kernel_rfl) (fun _ _ _ h=>h) (Or.inr ⟨by rfl,rfl⟩) (by assumption) ?_
    try simp only [Act.put,List.getElem_toArray,List.getElem_cons_zero,List.getElem_cons_succ,List.setIfInBounds_toArray,List.set_cons_zero,List.set_cons_succ]
    refine wpAnyH_take (i := 11) (oi := _) (v := undef) rfl (by kernel_rfl) (by kernel_rfl) (by kernel_rfl) (fun _ _ _ h=>h) (Or.inr ⟨by rfl,rfl⟩) (by assumption) ?_
    try simp only [Act.put,List.getElem_toArray,List.getElem_cons_zero,List.getElem_cons_succ,List.setIfInBounds_toArray,List.set_cons_zero,List.set_cons_succ]
    refine wpAnyH_take (i := 12) (oi := _) (v := undef) rfl (by kernel_rfl) (by kernel_rfl) (by kernel_rfl) (fun _ _ _ h=>h) (Or.inr ⟨by rfl,rfl⟩) (by assumption) ?_
    try simp only [Act.put,List.getElem_toArray,List.getElem_cons_zero,List.getElem_cons_succ,List.setIfInBounds_toArray,List.set_cons_zero,List.set_cons_succ]
    refine wpAnyH_take (i := 13) (oi := _) (v := undef) rfl (by kernel_rfl) (by kernel_rfl) (by kernel_rfl) (fun _ _ _ h=>h) (Or.inr ⟨by rfl,rfl⟩) (by assumption) ?_
    try simp only [Act.put,List.getElem_toArray,List.getElem_cons_zero,List.getElem_cons_succ,List.setIfInBounds_toArray,List.set_cons_zero,List.set_cons_succ]
    refine wpAnyH_take (i := 14) (oi := _) (v := undef) rfl (by kernel_rfl) (by kernel_rfl) (by kernel_rfl) (fun _ _ _ h=>h) (Or.inr ⟨by rfl,rfl⟩) (by assumption) ?_
    try simp only [Act.put,List.getElem_toArray,List.getElem_cons_zero,List.getElem_cons_succ,List.setIfInBounds_toArray,List.set_cons_zero,List.set_cons_succ]
    refine wpAnyH_take (i := 15) (oi := _) (v := ?v15) rfl (by kernel_rfl) (by kernel_rfl) (by kernel_rfl) (fun _ _ _ h=>h) (Or.inl ⟨by rfl,?hy15⟩) (by assumption) ?rest15
    case hy15=>((intro w hSw; (try dsimp only at hSw); (try simp only [List.getElem_toArray,List.getElem_cons_zero,List.getElem_cons_succ]); go_simp); try with_reducible rfl)
    try simp only [Act.put,List.getElem_toArray,List.getElem_cons_zero,List.getElem_cons_succ,List.setIfInBounds_toArray,List.set_cons_zero,List.set_cons_succ]
    refine wpAnyH_take (i := 16) (oi := _) (v := ?v16) rfl (by kernel_rfl) (by kernel_rfl) (by kernel_rfl) (fun _ _ _ h=>h) (Or.inl ⟨by rfl,?hy16⟩) (by assumption) ?rest16
    case hy16=>((intro w hSw; (try dsimp only at hSw); (try simp only [List.getElem_toArray,List.getElem_cons_zero,List.getElem_cons_succ]); go_simp); try with_reducible rfl)
    try simp only [Act.put,List.getElem_toArray,List.getElem_cons_zero,List.getElem_cons_succ,List.setIfInBounds_toArray,List.set_cons_zero,List.set_cons_succ]
    refine wpAnyH_done (by kernel_rfl) ?_ _
    all_goals go_wp2_with fail
    all_goals exact HN.out _ _ (id ⟨rfl,rfl,rfl,trivial⟩) HB1.out
  · rw [show (true && b2)=b2 from by cases b2 <;> rfl] at hN
    have HC1 := Lib.hid hc1
    have HC2 := Lib.hid hc2
    have HN := Lib.hid hN
    clear hc1 hc2 hN
    go_region_held3 (fun w'=>w'.cell? ⟨wo.heap.size,0,none⟩=some (.int .i64 z)∧w'.cell? ⟨wo.heap.size,1,none⟩=some (.slice Am nm1 cm)∧w'.cell? ⟨wo.heap.size,2,none⟩=some (.slice Bm nm2 dm)∧w'.cell? ⟨wo.heap.size+1,3,none⟩=some (.slice (some ⟨b,o,none⟩) 2 c2)∧w'.cell? ⟨wo.heap.size+1+1,0,none⟩=some (.slice De me ee)∧w'.cell? ⟨b,o,none⟩=some (.int .i64 k0)∧w'.cell? ⟨b,o+1,none⟩=some (.string s0)∧w'.cell? ⟨b,o+2,none⟩=some (.slice A0 p0 q0)∧w'.cell? ⟨b,o+3,none⟩=some (.slice B0 r0 u0)∧w'.cell? ⟨b,o+4,none⟩=some (.int .i64 k1)∧w'.cell? ⟨b,o+5,none⟩=some (.string s1)∧w'.cell? ⟨b,o+6,none⟩=some (.slice A1 p1 q1)∧w'.cell? ⟨b,o+7,none⟩=some (.slice B1 r1 u1))
      ((first | (go_keep; done) | (go_split_ands; (repeat' apply And.intro) <;> (refine (kc5 _ _ (by omega)).trans ?_; assumption))))
      (first
        | ((with_reducible refine (HC1.out _ ?hbel).mono ?_); (case hbel=>first | exact Below.refl _ _ | exact (Below.refl _ _).drew | exact HB1.out | exact HB1.out.drew); rintro e w4 ⟨rfl,hw4⟩; have kc5:∀k q,k<w.heap.size→w4.cell? ⟨k,q,none⟩=_ := (fun k q h=>hw4.cell (p := ⟨k,q,none⟩) h); have HB1 := Lib.hid hw4; clear hw4)
        | ((with_reducible refine (HC2.out _ ?hbel).mono ?_); (case hbel=>first | exact Below.refl _ _ | exact (Below.refl _ _).drew | exact HB1.out | exact HB1.out.drew); rintro e w4 ⟨rfl,hw4⟩; have kc5:∀k q,k<w.heap.size→w4.cell? ⟨k,q,none⟩=_ := (fun k q h=>hw4.cell (p := ⟨k,q,none⟩) h); have HB1 := Lib.hid hw4; clear hw4)
        | fail)
    all_goals go_wp2_with fail
    all_goals exact HN.out _ _ (id ⟨rfl,rfl,rfl,trivial⟩) HB1.out
def c_vl_r22 := sp 99 327659 cF23
theorem vl_r22_wp {b2:Bool} (hgm:w.heap[wo.heap.size]? = some (.cells #[.int .i64 z,.slice Am nm1 cm,.slice Bm nm2 dm] 25 (0,0))) (ha:w.heap[wo.heap.size+1]? = some (.cells #[.int .i64 kd,.string nm,.slice A n1 c1,.slice (some ⟨b,o,none⟩) 2 c2] 29 (0,0))) (hge:w.heap[wo.heap.size+1+1]? = some (.cells #[.slice De me ee] 62 (0,0))) (e0_0:w.cell? ⟨b,o,none⟩=some (.int .i64 k0)) (e0_1:w.cell? ⟨b,o+1,none⟩=some (.string s0)) (e0_2:w.cell? ⟨b,o+2,none⟩=some (.slice A0 p0 q0)) (e0_3:w.cell? ⟨b,o+3,none⟩=some (.slice B0 r0 u0)) (e1_0:w.cell? ⟨b,o+4,none⟩=some (.int .i64 k1)) (e1_1:w.cell? ⟨b,o+5,none⟩=some (.string s1)) (e1_2:w.cell? ⟨b,o+6,none⟩=some (.slice A1 p1 q1)) (e1_3:w.cell? ⟨b,o+7,none⟩=some (.slice B1 r1 u1)) (hbl:b<w.heap.size) (hc1:∀W:World,Below w.heap.size w W→Calls Tryd.prog 23 #[.agg #[.int .i64 z,.slice Am nm1 cm,.slice Bm nm2 dm],.agg #[.int .i64 k0,.string s0,.slice A0 p0 q0,.slice B0 r0 u0],.slice De me ee] W fun e w'=>e=.returned (.bool b1)∧Below w.heap.size w w') (hc2:∀W:World,Below w.heap.size w W→Calls Tryd.prog 23 #[.agg #[.int .i64 z,.slice Am nm1 cm,.slice Bm nm2 dm],.agg #[.int .i64 k1,.string s1,.slice A1 p1 q1,.slice B1 r1 u1],.slice De me ee] W fun e w'=>e=.returned (.bool b2)∧Below w.heap.size w w') (hN:∀a' w',Frm 168 [(6,.bool (b1 || b2))] a'→Below w.heap.size w w'→K a' w'):∀ac,Frm 168 [(3,.pointer (some ⟨wo.heap.size,0,none⟩)),(4,.pointer (some ⟨(wo.heap.size+1),0,none⟩)),(5,.pointer (some ⟨(wo.heap.size+1+1),0,none⟩)),(7,s_7)] ac→Code.wp Tryd.prog c_vl_r22 (Exit.then K (fun _ _ _=>False)) ac w := by
  refine fO (frame_vl ?_)
  intros
  rename_i hq
  iterate 4 (obtain ⟨e,hq⟩ := hq; obtain rfl := sI e; clear e)
  clear hq
  conv=>arg 2; whnf
  have a0 := cellv ha 0 rfl
  have a1 := cellv ha 1 rfl
  have a2 := cellv ha 2 rfl
  have a3 := cellv ha 3 rfl
  have al := lt_heap ha
  clear ha
  have m0 := cellv hgm 0 rfl
  have m1 := cellv hgm 1 rfl
  have m2 := cellv hgm 2 rfl
  have ml := lt_heap hgm
  clear hgm
  have g0 := cellv hge 0 rfl
  have gl := lt_heap hge
  clear hge
  cases b1
  · rw [show (false || b2)=b2 from by cases b2 <;> rfl] at hN
    have HC1 := Lib.hid hc1
    have HC2 := Lib.hid hc2
    have HN := Lib.hid hN
    clear hc1 hc2 hN
    go_region_held3 (fun w'=>w'.cell? ⟨wo.heap.size,0,none⟩=some (.int .i64 z)∧w'.cell? ⟨wo.heap.size,1,none⟩=some (.slice Am nm1 cm)∧w'.cell? ⟨wo.heap.size,2,none⟩=some (.slice Bm nm2 dm)∧w'.cell? ⟨wo.heap.size+1,3,none⟩=some (.slice (some ⟨b,o,none⟩) 2 c2)∧w'.cell? ⟨wo.heap.size+1+1,0,none⟩=some (.slice De me ee)∧w'.cell? ⟨b,o,none⟩=some (.int .i64 k0)∧w'.cell? ⟨b,o+1,none⟩=some (.string s0)∧w'.cell? ⟨b,o+2,none⟩=some (.slice A0 p0 q0)∧w'.cell? ⟨b,o+3,none⟩=some (.slice B0 r0 u0)∧w'.cell? ⟨b,o+4,none⟩=some (.int .i64 k1)∧w'.cell? ⟨b,o+5,none⟩=some (.string s1)∧w'.cell? ⟨b,o+6,none⟩=some (.slice A1 p1 q1)∧w'.cell? ⟨b,o+7,none⟩=some (.slice B1 r1 u1))
      ((first | (go_keep; done) | (go_split_ands; (repeat' apply And.intro) <;> (refine (kc5 _ _ (by omega)).trans ?_; assumption))))
      (first
        | ((with_reducible refine (HC1.out _ ?hbel).mono ?_); (case hbel=>first | exact Below.refl _ _ | exact (Below.refl _ _).drew | exact HB1.out | exact HB1.out.drew); rintro e w4 ⟨rfl,hw4⟩; have kc5:∀k q,k<w.heap.size→w4.cell? ⟨k,q,none⟩=_ := (fun k q h=>hw4.cell (p := ⟨k,q,none⟩) h); have HB1 := Lib.hid hw4; clear hw4)
        | ((with_reducible refine (HC2.out _ ?hbel).mono ?_); (case hbel=>first | exact Below.refl _ _ | exact (Below.refl _ _).drew | exact HB1.out | exact HB1.out.drew); rintro e w4 ⟨rfl,hw4⟩; have kc5:∀k q,k<w.heap.size→w4.cell? ⟨k,q,none⟩=_ := (fun k q h=>hw4.cell (p := ⟨k,q,none⟩) h); have HB1 := Lib.hid hw4; clear hw4)
        | fail)
    all_goals go_wp2_with fail
    all_goals exact HN.out _ _ (id ⟨rfl,rfl,rfl,trivial⟩) HB1.out
  · rw [show (true || b2)=true from by cases b2 <;> rfl] at hN
    have HC1 := Lib.hid hc1
    have HC2 := Lib.hid hc2
    have HN := Lib.hid hN
    clear hc1 hc2 hN
    refine wp_region_held_drew (S := fun w'=>w'.cell? ⟨wo.heap.size,0,none⟩=some (.int .i64 z)∧w'.cell? ⟨wo.heap.size,1,none⟩=some (.slice Am nm1 cm)∧w'.cell? ⟨wo.heap.size,2,none⟩=some (.slice Bm nm2 dm)∧w'.cell? ⟨wo.heap.size+1,3,none⟩=some (.slice (some ⟨b,o,none⟩) 2 c2)∧w'.cell? ⟨wo.heap.size+1+1,0,none⟩=some (.slice De me ee)∧w'.cell? ⟨b,o,none⟩=some (.int .i64 k0)∧w'.cell? ⟨b,o+1,none⟩=some (.string s0)∧w'.cell? ⟨b,o+2,none⟩=some (.slice A0 p0 q0)∧w'.cell? ⟨b,o+3,none⟩=some (.slice B0 r0 u0)∧w'.cell? ⟨b,o+4,none⟩=some (.int .i64 k1)∧w'.cell? ⟨b,o+5,none⟩=some (.string s1)∧w'.cell? ⟨b,o+6,none⟩=some (.slice A1 p1 q1)∧w'.cell? ⟨b,o+7,none⟩=some (.slice B1 r1 u1)) (by kernel_rfl) ?_ (fun hHeld=>?_)
    · (try dsimp only); go_keep
    refine wpAnyH_take (i := 0) (oi := _) (v := ?v0) rfl (by kernel_rfl) (by kernel_rfl) (by kernel_rfl) (fun _ _ _ h=>h) (Or.inl ⟨by rfl,?hy0⟩) (by assumption) ?rest0
    case hy0=>((intro w hSw; (try dsimp only at hSw); (try simp only [List.getElem_toArray,List.getElem_cons_zero,List.getElem_cons_succ]); go_simp); try with_reducible rfl)
    try simp only [Act.put,List.getElem_toArray,List.getElem_cons_zero,List.getElem_cons_succ,List.setIfInBounds_toArray,List.set_cons_zero,List.set_cons_succ]
    refine wpAnyH_take (i := 1) (oi := _) (v := ?v1) rfl (by kernel_rfl) (by kernel_rfl) (by kernel_rfl) (fun _ _ _ h=>h) (Or.inl ⟨by rfl,?hy1⟩) (by assumption) ?rest1
    case hy1=>((intro w hSw; (try dsimp only at hSw); (try simp only [List.getElem_toArray,List.getElem_cons_zero,List.getElem_cons_succ]); go_simp); try with_reducible rfl)
    try simp only [Act.put,List.getElem_toArray,List.getElem_cons_zero,List.getElem_cons_succ,List.setIfInBounds_toArray,List.set_cons_zero,List.set_cons_succ]
    refine wpAnyH_take (i := 2) (oi := _) (v := ?v2) rfl (by kernel_rfl) (by kernel_rfl) (by kernel_rfl) (fun _ _ _ h=>h) (Or.inl ⟨by rfl,?hy2⟩) (by assumption) ?rest2
    case hy2=>((intro w hSw; (try dsimp only at hSw); (try simp only [List.getElem_toArray,List.getElem_cons_zero,List.getElem_cons_succ]); go_simp); try with_reducible rfl)
    try simp only [Act.put,List.getElem_toArray,List.getElem_cons_zero,List.getElem_cons_succ,List.setIfInBounds_toArray,List.set_cons_zero,List.set_cons_succ]
    refine wpAnyH_take (i := 3) (oi := _) (v := ?v3) rfl (by kernel_rfl) (by kernel_rfl) (by kernel_rfl) (fun _ _ _ h=>h) (Or.inl ⟨by rfl,?hy3⟩) (by assumption) ?rest3
    case hy3=>((intro w hSw; (try dsimp only at hSw); (try simp only [List.getElem_toArray,List.getElem_cons_zero,List.getElem_cons_succ]); go_simp); try with_reducible rfl)
    try simp only [Act.put,List.getElem_toArray,List.getElem_cons_zero,List.getElem_cons_succ,List.setIfInBounds_toArray,List.set_cons_zero,List.set_cons_succ]
    refine wpAnyH_take (i := 4) (oi := _) (v := ?v4) rfl (by kernel_rfl) (by kernel_rfl) (by kernel_rfl) (fun _ _ _ h=>h) (Or.inl ⟨by rfl,?hy4⟩) (by assumption) ?rest4
    case hy4=>((intro w hSw; (try dsimp only at hSw); (try simp only [List.getElem_toArray,List.getElem_cons_zero,List.getElem_cons_succ]); go_simp); try with_reducible rfl)
    try simp only [Act.put,List.getElem_toArray,List.getElem_cons_zero,List.getElem_cons_succ,List.setIfInBounds_toArray,List.set_cons_zero,List.set_cons_succ]
    refine wpAnyH_take (i := 5) (oi := _) (v := ?v5) rfl (by kernel_rfl) (by kernel_rfl) (by kernel_rfl) (fun _ _ _ h=>h) (Or.inl ⟨by rfl,?hy5⟩) (by assumption) ?rest5
    case hy5=>((intro w hSw; (try dsimp only at hSw); (try simp only [List.getElem_toArray,List.getElem_cons_zero,List.getElem_cons_succ]); go_simp); try with_reducible rfl)
    try simp only [Act.put,List.getElem_toArray,List.getElem_cons_zero,List.getElem_cons_succ,List.setIfInBounds_toArray,List.set_cons_zero,List.set_cons_succ]
    refine wpAnyH_ready (rs := [6]) (by kernel_rfl) (by simp) ?_
    refine AllReadyH.cons (o := _) rfl ?_ AllReadyH.nil
    intro K hK
    try simp only [List.getElem_toArray,List.getElem_cons_zero,List.getElem_cons_succ]
    go_simp
    (with_reducible refine (HC1.out _ ?hbel).mono ?_); (case hbel=>first | exact Below.refl _ _ | exact (Below.refl _ _).drew | exact HB1.out | exact HB1.out.drew); rintro e w4 ⟨rfl,hw4⟩; have kc5:∀k q,k<w.heap.size→w4.cell? ⟨k,q,none⟩=_ := (fun k q h=>hw4.cell (p := ⟨k,q,none⟩) h); have HB1 := Lib.hid hw4; clear hw4
    go_wp2_with fail
    refine hK.out _ _ ?_ (fun hHeld2=>?_)
    · (try dsimp only); ((first | (go_keep; done) | (go_split_ands; (repeat' apply And.intro) <;> (refine (kc5 _ _ (by omega)).trans ?_; assumption))))
    clear hK K hHeld
    (try simp only [Act.put,List.setIfInBounds_toArray,List.set_cons_zero,List.set_cons_succ])
    refine wpAnyH_take (i := 7) (oi := _) (v := ?v7) rfl (by kernel_rfl) (by kernel_rfl) (by kernel_rfl) (fun _ _ _ h=>h) (Or.inl ⟨by rfl,?hy7⟩) (by assumption) ?rest7
    case hy7=>((intro w hSw; (try dsimp only at hSw); (try simp only [List.getElem_toArray,List.getElem_cons_zero,List.getElem_cons_succ]); go_simp); try with_reducible rfl)
    try simp only [Act.put,List.getElem_toArray,List.getElem_cons_zero,List.getElem_cons_succ,List.setIfInBounds_toArray,List.set_cons_zero,List.set_cons_succ]
    refine wpAnyH_take (i := 8) (oi := _) (v := undef) rfl (by kernel_rfl) (by kernel_rfl) (by kernel_rfl) (fun _ _ _ h=>h) (Or.inr ⟨by rfl,rfl⟩) (by assumption) ?_
    try simp only [Act.put,List.getElem_toArray,List.getElem_cons_zero,List.getElem_cons_succ,List.setIfInBounds_toArray,List.set_cons_zero,List.set_cons_succ]
    refine wpAnyH_take (i := 9) (oi := _) (v := undef) rfl (by kernel_rfl) (by kernel_rfl) (by kernel_rfl) (fun _ _ _ h=>h) (Or.inr ⟨by rfl,rfl⟩) (by assumption) ?_
    try simp only [Act.put,List.getElem_toArray,List.getElem_cons_zero,List.getElem_cons_succ,List.setIfInBounds_toArray,List.set_cons_zero,List.set_cons_succ]
    refine wpAnyH_take (i := 10) (oi := _) (v := undef) rfl (by kernel_rfl) (by kernel_rfl) (by kernel_rfl) (fun _ _ _ h=>h) (Or.inr ⟨by rfl,rfl⟩) (by assumption) ?_
    try simp only [Act.put,List.getElem_toArray,List.getElem_cons_zero,List.getElem_cons_succ,List.setIfInBounds_toArray,List.set_cons_zero,List.set_cons_succ]
    refine wpAnyH_take (i := 11) (oi := _) (v := undef) rfl (by kernel_rfl) (by kernel_rfl) (by kernel_rfl) (fun _ _ _ h=>h) (Or.inr ⟨by rfl,rfl⟩) (by assumption) ?_
    try simp only [Act.put,List.getElem_toArray,List.getElem_cons_zero,List.getElem_cons_succ,List.setIfInBounds_toArray,List.set_cons_zero,List.set_cons_succ]
    refine wpAnyH_take (i := 12) (oi := _) (v := undef) rfl (by kernel_rfl) (by kernel_rfl) (by kernel_rfl) (fun _ _ _ h=>h) (Or.inr ⟨by rfl,rfl⟩) (by assumption) ?_
    try simp only [Act.put,List.getElem_toArray,List.getElem_cons_zero,List.getElem_cons_succ,List.setIfInBounds_toArray,List.set_cons_zero,List.set_cons_succ]
    refine wpAnyH_take (i := 13) (oi := _) (v := undef) rfl (by kernel_rfl) (by kernel_rfl) (by kernel_rfl) (fun _ _ _ h=>h) (Or.inr ⟨by rfl,rfl⟩) (by assumption) ?_
    try simp only [Act.put,List.getElem_toArray,List.getElem_cons_zero,List.getElem_cons_succ,List.setIfInBounds_toArray,List.set_cons_zero,List.set_cons_succ]
    refine wpAnyH_take (i := 14) (oi := _) (v := undef) rfl (by kernel_rfl) (by kernel_rfl) (by kernel_rfl) (fun _ _ _ h=>h) (Or.inr ⟨by rfl,rfl⟩) (by assumption) ?_
    try simp only [Act.put,List.getElem_toArray,List.getElem_cons_zero,List.getElem_cons_succ,List.setIfInBounds_toArray,List.set_cons_zero,List.set_cons_succ]
    refine wpAnyH_take (i := 15) (oi := _) (v := ?v15) rfl (by kernel_rfl) (by kernel_rfl) (by kernel_rfl) (fun _ _ _ h=>h) (Or.inl ⟨by rfl,?hy15⟩) (by assumption) ?rest15
    case hy15=>((intro w hSw; (try dsimp only at hSw); (try simp only [List.getElem_toArray,List.getElem_cons_zero,List.getElem_cons_succ]); go_simp); try with_reducible rfl)
    try simp only [Act.put,List.getElem_toArray,List.getElem_cons_zero,List.getElem_cons_succ,List.setIfInBounds_toArray,List.set_cons_zero,List.set_cons_succ]
    refine wpAnyH_take (i := 16) (oi := _) (v := ?v16) rfl (by kernel_rfl) (by kernel_rfl) (by kernel_rfl) (fun _ _ _ h=>h) (Or.inl ⟨by rfl,?hy16⟩) (by assumption) ?rest16
    case hy16=>((intro w hSw; (try dsimp only at hSw); (try simp only [List.getElem_toArray,List.getElem_cons_zero,List.getElem_cons_succ]); go_simp); try with_reducible rfl)
    try simp only [Act.put,List.getElem_toArray,List.getElem_cons_zero,List.getElem_cons_succ,List.setIfInBounds_toArray,List.set_cons_zero,List.set_cons_succ]
    refine wpAnyH_done (by kernel_rfl) ?_ _
    all_goals go_wp2_with fail
    all_goals exact HN.out _ _ (id ⟨rfl,rfl,rfl,trivial⟩) HB1.out
def c_vl_r24 := sp 99 1310699 cF23
theorem vl_r24_wp {b2:Bool} (hgm:w.heap[wo.heap.size]? = some (.cells #[.int .i64 z,.slice Am nm1 cm,.slice Bm nm2 dm] 25 (0,0))) (ha:w.heap[wo.heap.size+1]? = some (.cells #[.int .i64 kd,.string nm,.slice A n1 c1,.slice (some ⟨b,o,none⟩) 2 c2] 29 (0,0))) (hge:w.heap[wo.heap.size+1+1]? = some (.cells #[.slice De me ee] 62 (0,0))) (e0_0:w.cell? ⟨b,o,none⟩=some (.int .i64 k0)) (e0_1:w.cell? ⟨b,o+1,none⟩=some (.string s0)) (e0_2:w.cell? ⟨b,o+2,none⟩=some (.slice A0 p0 q0)) (e0_3:w.cell? ⟨b,o+3,none⟩=some (.slice B0 r0 u0)) (e1_0:w.cell? ⟨b,o+4,none⟩=some (.int .i64 k1)) (e1_1:w.cell? ⟨b,o+5,none⟩=some (.string s1)) (e1_2:w.cell? ⟨b,o+6,none⟩=some (.slice A1 p1 q1)) (e1_3:w.cell? ⟨b,o+7,none⟩=some (.slice B1 r1 u1)) (hbl:b<w.heap.size) (hc1:∀W:World,Below w.heap.size w W→Calls Tryd.prog 23 #[.agg #[.int .i64 z,.slice Am nm1 cm,.slice Bm nm2 dm],.agg #[.int .i64 k0,.string s0,.slice A0 p0 q0,.slice B0 r0 u0],.slice De me ee] W fun e w'=>e=.returned (.bool b1)∧Below w.heap.size w w') (hc2:∀W:World,Below w.heap.size w W→Calls Tryd.prog 23 #[.agg #[.int .i64 z,.slice Am nm1 cm,.slice Bm nm2 dm],.agg #[.int .i64 k1,.string s1,.slice A1 p1 q1,.slice B1 r1 u1],.slice De me ee] W fun e w'=>e=.returned (.bool b2)∧Below w.heap.size w w') (hN:∀a' w',Frm 168 [(6,.bool (!b1 || b2))] a'→Below w.heap.size w w'→K a' w'):∀ac,Frm 168 [(3,.pointer (some ⟨wo.heap.size,0,none⟩)),(4,.pointer (some ⟨(wo.heap.size+1),0,none⟩)),(5,.pointer (some ⟨(wo.heap.size+1+1),0,none⟩)),(7,s_7)] ac→Code.wp Tryd.prog c_vl_r24 (Exit.then K (fun _ _ _=>False)) ac w := by
  refine fO (frame_vl ?_)
  intros
  rename_i hq
  iterate 4 (obtain ⟨e,hq⟩ := hq; obtain rfl := sI e; clear e)
  clear hq
  conv=>arg 2; whnf
  have a0 := cellv ha 0 rfl
  have a1 := cellv ha 1 rfl
  have a2 := cellv ha 2 rfl
  have a3 := cellv ha 3 rfl
  have al := lt_heap ha
  clear ha
  have m0 := cellv hgm 0 rfl
  have m1 := cellv hgm 1 rfl
  have m2 := cellv hgm 2 rfl
  have ml := lt_heap hgm
  clear hgm
  have g0 := cellv hge 0 rfl
  have gl := lt_heap hge
  clear hge
  cases b1
  · rw [show (!false || b2)=true from by cases b2 <;> rfl] at hN
    have HC1 := Lib.hid hc1
    have HC2 := Lib.hid hc2
    have HN := Lib.hid hN
    clear hc1 hc2 hN
    refine wp_region_held_drew (S := fun w'=>w'.cell? ⟨wo.heap.size,0,none⟩=some (.int .i64 z)∧w'.cell? ⟨wo.heap.size,1,none⟩=some (.slice Am nm1 cm)∧w'.cell? ⟨wo.heap.size,2,none⟩=some (.slice Bm nm2 dm)∧w'.cell? ⟨wo.heap.size+1,3,none⟩=some (.slice (some ⟨b,o,none⟩) 2 c2)∧w'.cell? ⟨wo.heap.size+1+1,0,none⟩=some (.slice De me ee)∧w'.cell? ⟨b,o,none⟩=some (.int .i64 k0)∧w'.cell? ⟨b,o+1,none⟩=some (.string s0)∧w'.cell? ⟨b,o+2,none⟩=some (.slice A0 p0 q0)∧w'.cell? ⟨b,o+3,none⟩=some (.slice B0 r0 u0)∧w'.cell? ⟨b,o+4,none⟩=some (.int .i64 k1)∧w'.cell? ⟨b,o+5,none⟩=some (.string s1)∧w'.cell? ⟨b,o+6,none⟩=some (.slice A1 p1 q1)∧w'.cell? ⟨b,o+7,none⟩=some (.slice B1 r1 u1)) (by kernel_rfl) ?_ (fun hHeld=>?_)
    · (try dsimp only); go_keep
    refine wpAnyH_take (i := 0) (oi := _) (v := ?v0) rfl (by kernel_rfl) (by kernel_rfl) (by kernel_rfl) (fun _ _ _ h=>h) (Or.inl ⟨by rfl,?hy0⟩) (by assumption) ?rest0
    case hy0=>((intro w hSw; (try dsimp only at hSw); (try simp only [List.getElem_toArray,List.getElem_cons_zero,List.getElem_cons_succ]); go_simp); try with_reducible rfl)
    try simp only [Act.put,List.getElem_toArray,List.getElem_cons_zero,List.getElem_cons_succ,List.setIfInBounds_toArray,List.set_cons_zero,List.set_cons_succ]
    refine wpAnyH_take (i := 1) (oi := _) (v := ?v1) rfl (by kernel_rfl) (by kernel_rfl) (by kernel_rfl) (fun _ _ _ h=>h) (Or.inl ⟨by rfl,?hy1⟩) (by assumption) ?rest1
    case hy1=>((intro w hSw; (try dsimp only at hSw); (try simp only [List.getElem_toArray,List.getElem_cons_zero,List.getElem_cons_succ]); go_simp); try with_reducible rfl)
    try simp only [Act.put,List.getElem_toArray,List.getElem_cons_zero,List.getElem_cons_succ,List.setIfInBounds_toArray,List.set_cons_zero,List.set_cons_succ]
    refine wpAnyH_take (i := 2) (oi := _) (v := ?v2) rfl (by kernel_rfl) (by kernel_rfl) (by kernel_rfl) (fun _ _ _ h=>h) (Or.inl ⟨by rfl,?hy2⟩) (by assumption) ?rest2
    case hy2=>((intro w hSw; (try dsimp only at hSw); (try simp only [List.getElem_toArray,List.getElem_cons_zero,List.getElem_cons_succ]); go_simp); try with_reducible rfl)
    try simp only [Act.put,List.getElem_toArray,List.getElem_cons_zero,List.getElem_cons_succ,List.setIfInBounds_toArray,List.set_cons_zero,List.set_cons_succ]
    refine wpAnyH_take (i := 3) (oi := _) (v := ?v3) rfl (by kernel_rfl) (by kernel_rfl) (by kernel_rfl) (fun _ _ _ h=>h) (Or.inl ⟨by rfl,?hy3⟩) (by assumption) ?rest3
    case hy3=>((intro w hSw; (try dsimp only at hSw); (try simp only [List.getElem_toArray,List.getElem_cons_zero,List.getElem_cons_succ]); go_simp); try with_reducible rfl)
    try simp only [Act.put,List.getElem_toArray,List.getElem_cons_zero,List.getElem_cons_succ,List.setIfInBounds_toArray,List.set_cons_zero,List.set_cons_succ]
    refine wpAnyH_take (i := 4) (oi := _) (v := ?v4) rfl (by kernel_rfl) (by kernel_rfl) (by kernel_rfl) (fun _ _ _ h=>h) (Or.inl ⟨by rfl,?hy4⟩) (by assumption) ?rest4
    case hy4=>((intro w hSw; (try dsimp only at hSw); (try simp only [List.getElem_toArray,List.getElem_cons_zero,List.getElem_cons_succ]); go_simp); try with_reducible rfl)
    try simp only [Act.put,List.getElem_toArray,List.getElem_cons_zero,List.getElem_cons_succ,List.setIfInBounds_toArray,List.set_cons_zero,List.set_cons_succ]
    refine wpAnyH_take (i := 5) (oi := _) (v := ?v5) rfl (by kernel_rfl) (by kernel_rfl) (by kernel_rfl) (fun _ _ _ h=>h) (Or.inl ⟨by rfl,?hy5⟩) (by assumption) ?rest5
    case hy5=>((intro w hSw; (try dsimp only at hSw); (try simp only [List.getElem_toArray,List.getElem_cons_zero,List.getElem_cons_succ]); go_simp); try with_reducible rfl)
    try simp only [Act.put,List.getElem_toArray,List.getElem_cons_zero,List.getElem_cons_succ,List.setIfInBounds_toArray,List.set_cons_zero,List.set_cons_succ]
    refine wpAnyH_ready (rs := [6]) (by kernel_rfl) (by simp) ?_
    refine AllReadyH.cons (o := _) rfl ?_ AllReadyH.nil
    intro K hK
    try simp only [List.getElem_toArray,List.getElem_cons_zero,List.getElem_cons_succ]
    go_simp
    (with_reducible refine (HC1.out _ ?hbel).mono ?_); (case hbel=>first | exact Below.refl _ _ | exact (Below.refl _ _).drew | exact HB1.out | exact HB1.out.drew); rintro e w4 ⟨rfl,hw4⟩; have kc5:∀k q,k<w.heap.size→w4.cell? ⟨k,q,none⟩=_ := (fun k q h=>hw4.cell (p := ⟨k,q,none⟩) h); have HB1 := Lib.hid hw4; clear hw4
    go_wp2_with fail
    refine hK.out _ _ ?_ (fun hHeld2=>?_)
    · (try dsimp only); ((first | (go_keep; done) | (go_split_ands; (repeat' apply And.intro) <;> (refine (kc5 _ _ (by omega)).trans ?_; assumption))))
    clear hK K hHeld
    (try simp only [Act.put,List.setIfInBounds_toArray,List.set_cons_zero,List.set_cons_succ])
    refine wpAnyH_take (i := 7) (oi := _) (v := ?v7) rfl (by kernel_rfl) (by kernel_rfl) (by kernel_rfl) (fun _ _ _ h=>h) (Or.inl ⟨by rfl,?hy7⟩) (by assumption) ?rest7
    case hy7=>((intro w hSw; (try dsimp only at hSw); (try simp only [List.getElem_toArray,List.getElem_cons_zero,List.getElem_cons_succ]); go_simp); try with_reducible rfl)
    try simp only [Act.put,List.getElem_toArray,List.getElem_cons_zero,List.getElem_cons_succ,List.setIfInBounds_toArray,List.set_cons_zero,List.set_cons_succ]
    refine wpAnyH_take (i := 8) (oi := _) (v := ?v8) rfl (by kernel_rfl) (by kernel_rfl) (by kernel_rfl) (fun _ _ _ h=>h) (Or.inl ⟨by rfl,?hy8⟩) (by assumption) ?rest8
    case hy8=>((intro w hSw; (try dsimp only at hSw); (try simp only [List.getElem_toArray,List.getElem_cons_zero,List.getElem_cons_succ]); go_simp); try with_reducible rfl)
    try simp only [Act.put,List.getElem_toArray,List.getElem_cons_zero,List.getElem_cons_succ,List.setIfInBounds_toArray,List.set_cons_zero,List.set_cons_succ]
    refine wpAnyH_take (i := 9) (oi := _) (v := undef) rfl (by kernel_rfl) (by kernel_rfl) (by kernel_rfl) (fun _ _ _ h=>h) (Or.inr ⟨by rfl,rfl⟩) (by assumption) ?_
    try simp only [Act.put,List.getElem_toArray,List.getElem_cons_zero,List.getElem_cons_succ,List.setIfInBounds_toArray,List.set_cons_zero,List.set_cons_succ]
    refine wpAnyH_take (i := 10) (oi := _) (v := undef) rfl (by kernel_rfl) (by kernel_rfl) (by kernel_rfl) (fun _ _ _ h=>h) (Or.inr ⟨by rfl,rfl⟩) (by assumption) ?_
    try simp only [Act.put,List.getElem_toArray,List.getElem_cons_zero,List.getElem_cons_succ,List.setIfInBounds_toArray,List.set_cons_zero,List.set_cons_succ]
    refine wpAnyH_take (i := 11) (oi := _) (v := undef) rfl (by kernel_rfl) (by kernel_rfl) (by kernel_rfl) (fun _ _ _ h=>h) (Or.inr ⟨by rfl,rfl⟩) (by assumption) ?_
    try simp only [Act.put,List.getElem_toArray,List.getElem_cons_zero,List.getElem_cons_succ,List.setIfInBounds_toArray,List.set_cons_zero,List.set_cons_succ]
    refine wpAnyH_take (i := 12) (oi := _) (v := undef) rfl (by kernel_rfl) (by kernel_rfl) (by kernel_rfl) (fun _ _ _ h=>h) (Or.inr ⟨by rfl,rfl⟩) (by assumption) ?_
    try simp only [Act.put,List.getElem_toArray,List.getElem_cons_zero,List.getElem_cons_succ,List.setIfInBounds_toArray,List.set_cons_zero,List.set_cons_succ]
    refine wpAnyH_take (i := 13) (oi := _) (v := undef) rfl (by kernel_rfl) (by kernel_rfl) (by kernel_rfl) (fun _ _ _ h=>h) (Or.inr ⟨by rfl,rfl⟩) (by assumption) ?_
    try simp only [Act.put,List.getElem_toArray,List.getElem_cons_zero,List.getElem_cons_succ,List.setIfInBounds_toArray,List.set_cons_zero,List.set_cons_succ]
    refine wpAnyH_take (i := 14) (oi := _) (v := undef) rfl (by kernel_rfl) (by kernel_rfl) (by kernel_rfl) (fun _ _ _ h=>h) (Or.inr ⟨by rfl,rfl⟩) (by assumption) ?_
    try simp only [Act.put,List.getElem_toArray,List.getElem_cons_zero,List.getElem_cons_succ,List.setIfInBounds_toArray,List.set_cons_zero,List.set_cons_succ]
    refine wpAnyH_take (i := 15) (oi := _) (v := undef) rfl (by kernel_rfl) (by kernel_rfl) (by kernel_rfl) (fun _ _ _ h=>h) (Or.inr ⟨by rfl,rfl⟩) (by assumption) ?_
    try simp only [Act.put,List.getElem_toArray,List.getElem_cons_zero,List.getElem_cons_succ,List.setIfInBounds_toArray,List.set_cons_zero,List.set_cons_succ]
    refine wpAnyH_take (i := 16) (oi := _) (v := ?v16) rfl (by kernel_rfl) (by kernel_rfl) (by kernel_rfl) (fun _ _ _ h=>h) (Or.inl ⟨by rfl,?hy16⟩) (by assumption) ?rest16
    case hy16=>((intro w hSw; (try dsimp only at hSw); (try simp only [List.getElem_toArray,List.getElem_cons_zero,List.getElem_cons_succ]); go_simp); try with_reducible rfl)
    try simp only [Act.put,List.getElem_toArray,List.getElem_cons_zero,List.getElem_cons_succ,List.setIfInBounds_toArray,List.set_cons_zero,List.set_cons_succ]
    refine wpAnyH_take (i := 17) (oi := _) (v := ?v17) rfl (by kernel_rfl) (by kernel_rfl) (by kernel_rfl) (fun _ _ _ h=>h) (Or.inl ⟨by rfl,?hy17⟩) (by assumption) ?rest17
    case hy17=>((intro w hSw; (try dsimp only at hSw); (try simp only [List.getElem_toArray,List.getElem_cons_zero,List.getElem_cons_succ]); go_simp); try with_reducible rfl)
    try simp only [Act.put,List.getElem_toArray,List.getElem_cons_zero,List.getElem_cons_succ,List.setIfInBounds_toArray,List.set_cons_zero,List.set_cons_succ]
    refine wpAnyH_done (by kernel_rfl) ?_ _
    all_goals go_wp2_with fail
    all_goals exact HN.out _ _ (id ⟨rfl,rfl,rfl,trivial⟩) HB1.out
  · rw [show (!true || b2)=b2 from by cases b2 <;> rfl] at hN
    have HC1 := Lib.hid hc1
    have HC2 := Lib.hid hc2
    have HN := Lib.hid hN
    clear hc1 hc2 hN
    go_region_held3 (fun w'=>w'.cell? ⟨wo.heap.size,0,none⟩=some (.int .i64 z)∧w'.cell? ⟨wo.heap.size,1,none⟩=some (.slice Am nm1 cm)∧w'.cell? ⟨wo.heap.size,2,none⟩=some (.slice Bm nm2 dm)∧w'.cell? ⟨wo.heap.size+1,3,none⟩=some (.slice (some ⟨b,o,none⟩) 2 c2)∧w'.cell? ⟨wo.heap.size+1+1,0,none⟩=some (.slice De me ee)∧w'.cell? ⟨b,o,none⟩=some (.int .i64 k0)∧w'.cell? ⟨b,o+1,none⟩=some (.string s0)∧w'.cell? ⟨b,o+2,none⟩=some (.slice A0 p0 q0)∧w'.cell? ⟨b,o+3,none⟩=some (.slice B0 r0 u0)∧w'.cell? ⟨b,o+4,none⟩=some (.int .i64 k1)∧w'.cell? ⟨b,o+5,none⟩=some (.string s1)∧w'.cell? ⟨b,o+6,none⟩=some (.slice A1 p1 q1)∧w'.cell? ⟨b,o+7,none⟩=some (.slice B1 r1 u1))
      ((first | (go_keep; done) | (go_split_ands; (repeat' apply And.intro) <;> (refine (kc5 _ _ (by omega)).trans ?_; assumption))))
      (first
        | ((with_reducible refine (HC1.out _ ?hbel).mono ?_); (case hbel=>first | exact Below.refl _ _ | exact (Below.refl _ _).drew | exact HB1.out | exact HB1.out.drew); rintro e w4 ⟨rfl,hw4⟩; have kc5:∀k q,k<w.heap.size→w4.cell? ⟨k,q,none⟩=_ := (fun k q h=>hw4.cell (p := ⟨k,q,none⟩) h); have HB1 := Lib.hid hw4; clear hw4)
        | ((with_reducible refine (HC2.out _ ?hbel).mono ?_); (case hbel=>first | exact Below.refl _ _ | exact (Below.refl _ _).drew | exact HB1.out | exact HB1.out.drew); rintro e w4 ⟨rfl,hw4⟩; have kc5:∀k q,k<w.heap.size→w4.cell? ⟨k,q,none⟩=_ := (fun k q h=>hw4.cell (p := ⟨k,q,none⟩) h); have HB1 := Lib.hid hw4; clear hw4)
        | fail)
    all_goals go_wp2_with fail
    all_goals exact HN.out _ _ (id ⟨rfl,rfl,rfl,trivial⟩) HB1.out
def c_vl_r25 := sp 99 39 cF23
theorem vl_r25_wp (hgm:w.heap[wo.heap.size]? = some (.cells #[.int .i64 z,.slice Am nm1 cm,.slice Bm nm2 dm] 25 (0,0))) (hN:∀a',Frm 168 [(3,.pointer (some ⟨wo.heap.size,0,none⟩)),(4,s_4),(5,s_5),(7,s_7),(135,.int .i64 z),(136,.int .i64 (0:Nat))] a'→Q .normal a' w):∀ac,Frm 168 [(3,.pointer (some ⟨wo.heap.size,0,none⟩)),(4,s_4),(5,s_5),(7,s_7)] ac→Code.wp Tryd.prog c_vl_r25 Q ac w := by
  refine fO (frame_vl ?_)
  intros
  rename_i hq
  iterate 4 (obtain ⟨e,hq⟩ := hq; obtain rfl := sI e; clear e)
  clear hq
  conv=>arg 2; whnf
  have m0 := cellv hgm 0 rfl
  have m1 := cellv hgm 1 rfl
  have m2 := cellv hgm 2 rfl
  have ml := lt_heap hgm
  clear hgm
  replace hN := Lib.hid hN
  go_wp2_with fail
  exact hN.out _ (by exact fR rfl rfl rfl)
def c_vl_r26 := sp 99 279 cF23
theorem vl_r26_wp (hN:∀a',Frm 168 [(3,s_3),(4,s_4),(5,s_5),(7,s_7),(135,.int .i64 z),(136,.int .i64 (i:Nat)),(137,.bool (decide ((i:Int)<z)))] a'→Q .normal a' w):∀ac,Frm 168 [(3,s_3),(4,s_4),(5,s_5),(7,s_7),(135,.int .i64 z),(136,.int .i64 (i:Nat))] ac→Code.wp Tryd.prog c_vl_r26 Q ac w := by
  refine fO (frame_vl ?_)
  intros
  rename_i hq
  iterate 6 (obtain ⟨e,hq⟩ := hq; obtain rfl := sI e; clear e)
  clear hq
  conv=>arg 2; whnf
  by_cases h:(i:Int)<z
  · have t1:decide ((i:Int)<z)=true := by first | exact decide_eq_true (by omega) | exact beq_iff_eq.2 (by omega) | exact bne_iff_ne.2 (by omega)
    have t2:(decide ((i:Int)<z))=true := decide_eq_true h
    rw [t2] at hN
    clear h
    replace hN := Lib.hid hN
    go_wp2_with fail
    exact hN.out _ (by exact fR rfl rfl rfl)
  · have t1:decide ((i:Int)<z)=false := by first | exact decide_eq_false (by omega) | exact beq_eq_false_iff_ne.2 (by omega) | exact bne_eq_false_iff_eq.2 (by omega)
    have t2:(decide ((i:Int)<z))=false := decide_eq_false h
    rw [t2] at hN
    clear h
    replace hN := Lib.hid hN
    go_wp2_with fail
    exact hN.out _ (by exact fR rfl rfl rfl)
def c_vl_r27 := sp 99 4503 cF23
theorem vl_r27_wp (hN:∀a',Frm 168 [(3,s_3),(4,s_4),(5,s_5),(7,s_7),(135,s_135),(136,.int .i64 (i:Nat)),(15,.int .i64 (i:Nat))] a'→Q .normal a' w):∀ac,Frm 168 [(3,s_3),(4,s_4),(5,s_5),(7,s_7),(135,s_135),(136,.int .i64 (i:Nat))] ac→Code.wp Tryd.prog c_vl_r27 Q ac w := by
  refine fO (frame_vl ?_)
  intros
  rename_i hq
  iterate 6 (obtain ⟨e,hq⟩ := hq; obtain rfl := sI e; clear e)
  clear hq
  conv=>arg 2; whnf
  replace hN := Lib.hid hN
  go_wp2_with fail
  exact hN.out _ (by exact fR rfl rfl rfl)
def c_vl_r29 := sp 99 39319 cF23
theorem vl_r29_wp (ha:w.heap[wo.heap.size+1]? = some (.cells #[.int .i64 kd,.string nm,.slice A n1 c1,.slice B n2 c2] 29 (0,0))) (hN:∀a',Frm 168 [(6,.bool (decide (kd=9)))] a'→Q .normal a' w):∀ac,Frm 168 [(3,s_3),(4,.pointer (some ⟨(wo.heap.size+1),0,none⟩)),(5,s_5),(7,s_7)] ac→Code.wp Tryd.prog c_vl_r29 Q ac w := by
  refine fO (frame_vl ?_)
  intros
  rename_i hq
  iterate 4 (obtain ⟨e,hq⟩ := hq; obtain rfl := sI e; clear e)
  clear hq
  conv=>arg 2; whnf
  have a0 := cellv ha 0 rfl
  have a1 := cellv ha 1 rfl
  have a2 := cellv ha 2 rfl
  have a3 := cellv ha 3 rfl
  have al := lt_heap ha
  clear ha
  by_cases h:kd=9
  · have t1:(kd == 9)=true := beq_iff_eq.2 h
    rw [decide_eq_true h] at hN
    clear h
    replace hN := Lib.hid hN
    go_wp2_with fail
    exact hN.out _ (id ⟨rfl,rfl,rfl,trivial⟩)
  · have t1:(kd == 9)=false := beq_eq_false_iff_ne.2 h
    rw [decide_eq_false h] at hN
    clear h
    replace hN := Lib.hid hN
    go_wp2_with fail
    exact hN.out _ (id ⟨rfl,rfl,rfl,trivial⟩)
def c_vl_r31 := sp 99 47 cF23
theorem vl_r31_wp (ha:w.heap[wo.heap.size+1]? = some (.cells #[.int .i64 kd,.string nm,.slice A n1 c1,.slice B n2 c2] 29 (0,0))) (hN:∀a',Frm 168 [(6,.bool (decide (kd=8)))] a'→Q .normal a' w):∀ac,Frm 168 [(3,s_3),(4,.pointer (some ⟨(wo.heap.size+1),0,none⟩)),(5,s_5),(7,s_7)] ac→Code.wp Tryd.prog c_vl_r31 Q ac w := by
  refine fO (frame_vl ?_)
  intros
  rename_i hq
  iterate 4 (obtain ⟨e,hq⟩ := hq; obtain rfl := sI e; clear e)
  clear hq
  conv=>arg 2; whnf
  have a0 := cellv ha 0 rfl
  have a1 := cellv ha 1 rfl
  have a2 := cellv ha 2 rfl
  have a3 := cellv ha 3 rfl
  have al := lt_heap ha
  clear ha
  by_cases h:kd=8
  · have t1:(kd == 8)=true := beq_iff_eq.2 h
    rw [decide_eq_true h] at hN
    clear h
    replace hN := Lib.hid hN
    go_wp2_with fail
    exact hN.out _ (id ⟨rfl,rfl,rfl,trivial⟩)
  · have t1:(kd == 8)=false := beq_eq_false_iff_ne.2 h
    rw [decide_eq_false h] at hN
    clear h
    replace hN := Lib.hid hN
    go_wp2_with fail
    exact hN.out _ (id ⟨rfl,rfl,rfl,trivial⟩)
def c_vl_r30 := sp 99 1943 cF23
theorem vl_r30_wp (hi:(i:Int)<1000) (hN:∀a',Frm 168 [(3,s_3),(4,s_4),(5,s_5),(7,s_7),(135,s_135),(136,.int .i64 (i+1:Nat))] a'→Q .normal a' w):∀ac,Frm 168 [(3,s_3),(4,s_4),(5,s_5),(7,s_7),(135,s_135),(136,.int .i64 (i:Nat))] ac→Code.wp Tryd.prog c_vl_r30 Q ac w := by
  refine fO (frame_vl ?_)
  intros
  rename_i hq
  iterate 6 (obtain ⟨e,hq⟩ := hq; obtain rfl := sI e; clear e)
  clear hq
  conv=>arg 2; whnf
  have hi4:(i:Int)≤9223372036854775806 := by omega
  replace hN := Lib.hid hN
  go_wp2_with fail
  exact hN.out _ (by exact fR rfl rfl rfl)
theorem infoEnv:(Tryd.prog.info? 63).map (fun i=>(i.zero,i.size,i.bytes))=some (some (.agg #[.string ⟨#[]⟩,.int .i64 0]),2,24) := by kernel_rfl
def envVals (e:List (ByteArray × Int)):List Value := e.flatMap (fun p=>[.string p.1,.int .i64 p.2])
theorem envVals_len:∀e:List (ByteArray × Int),(envVals e).length=e.length * 2
  | []=>rfl
  | p :: e=>by
    have := envVals_len e
    simp only [envVals,List.flatMap_cons,List.length_append,List.length_cons,List.length_nil] at this ⊢; omega
def c_vl_r28n := sp 99 10647 cF23
theorem vl_r28n_wp (hgm:w.heap[wo.heap.size]? = some (.cells #[.int .i64 z,.slice Am nm1 cm,.slice Bm nm2 dm] 25 (0,0))) (ha:w.heap[wo.heap.size+1]? = some (.cells #[.int .i64 kd,.string nm,.slice A n1 c1,.slice (some ⟨b,o,none⟩) 1 c2] 29 (0,0))) (hge:w.heap[wo.heap.size+1+1]? = some (.cells #[.slice none 0 ee] 62 (0,0))) (e0_0:w.cell? ⟨b,o,none⟩=some (.int .i64 k0)) (e0_1:w.cell? ⟨b,o+1,none⟩=some (.string s0)) (e0_2:w.cell? ⟨b,o+2,none⟩=some (.slice A0 p0 q0)) (e0_3:w.cell? ⟨b,o+3,none⟩=some (.slice B0 r0 u0)) (hbl:b<w.heap.size) (hk8:(kd == 8)=b8) (hbx:(bb != b8)=bx) (hc:∀(W:World) (v':Value),W.ownsRow (w.heap.size+1) 63 2 v' (0+1) ([]++[.string nm,.int .i64 (i:Nat)])→Below w.heap.size w W→Calls Tryd.prog 23 #[.agg #[.int .i64 z,.slice Am nm1 cm,.slice Bm nm2 dm],.agg #[.int .i64 k0,.string s0,.slice A0 p0 q0,.slice B0 r0 u0],v'] W fun e w'=>e=.returned (.bool bb)∧Below w.heap.size w w') (hN:∀a' w',Frm 168 [(3,.pointer (some ⟨wo.heap.size,0,none⟩)),(4,.pointer (some ⟨(wo.heap.size+1),0,none⟩)),(5,.pointer (some ⟨(wo.heap.size+1+1),0,none⟩)),(7,s_7),(135,s_135),(136,s_136),(160,.bool bx)] a'→Below w.heap.size w w'→K a' w'):∀ac,Frm 168 [(3,.pointer (some ⟨wo.heap.size,0,none⟩)),(4,.pointer (some ⟨(wo.heap.size+1),0,none⟩)),(5,.pointer (some ⟨(wo.heap.size+1+1),0,none⟩)),(7,s_7),(135,s_135),(136,s_136),(15,.int .i64 (i:Nat))] ac→Code.wp Tryd.prog c_vl_r28n (Exit.then K (fun _ _ _=>False)) ac w := by
  refine fO (frame_vl ?_)
  intros
  rename_i hq
  iterate 7 (obtain ⟨e,hq⟩ := hq; obtain rfl := sI e; clear e)
  clear hq
  conv=>arg 2; whnf
  obtain ⟨ti,hti,ht0,ht1,ht2⟩ := info_parts infoEnv
  have a0 := cellv ha 0 rfl
  have a1 := cellv ha 1 rfl
  have a2 := cellv ha 2 rfl
  have a3 := cellv ha 3 rfl
  have al := lt_heap ha
  clear ha
  have m0 := cellv hgm 0 rfl
  have m1 := cellv hgm 1 rfl
  have m2 := cellv hgm 2 rfl
  have ml := lt_heap hgm
  clear hgm
  have g0 := cellv hge 0 rfl
  have gl := lt_heap hge
  clear hge
  subst hbx
  cases bb <;> cases b8
  · have t8:(kd == 8)=false := hk8
    clear hk8
    have HC := Lib.hid hc
    have HN := Lib.hid hN
    clear hc hN
    go_region_held3 (fun w'=>w'.cell? ⟨wo.heap.size,0,none⟩=some (.int .i64 z)∧w'.cell? ⟨wo.heap.size,1,none⟩=some (.slice Am nm1 cm)∧w'.cell? ⟨wo.heap.size,2,none⟩=some (.slice Bm nm2 dm)∧w'.cell? ⟨wo.heap.size+1,0,none⟩=some (.int .i64 kd)∧w'.cell? ⟨wo.heap.size+1,1,none⟩=some (.string nm)∧w'.cell? ⟨wo.heap.size+1,3,none⟩=some (.slice (some ⟨b,o,none⟩) 1 c2)∧w'.cell? ⟨wo.heap.size+1+1,0,none⟩=some (.slice none 0 ee)∧w'.cell? ⟨b,o,none⟩=some (.int .i64 k0)∧w'.cell? ⟨b,o+1,none⟩=some (.string s0)∧w'.cell? ⟨b,o+2,none⟩=some (.slice A0 p0 q0)∧w'.cell? ⟨b,o+3,none⟩=some (.slice B0 r0 u0))
      ((first | (go_keep; done) | (go_split_ands; (repeat' apply And.intro) <;> (refine (kc5 _ _ (by omega)).trans ?_; assumption))))
      (first
        | ((refine step_append_grows (by rfl) (.tmp 149) (.tmp 154) 62 (by rfl) 63 ti (.agg #[.string ⟨#[]⟩,.int .i64 0]) 2 24 Tryd.underlying62 hti ht0 ht1 ht2 rfl (by decide) none 0 0 [] (by rfl) ?c0 ?c1 ?c2 ⟨w.heap.size,0,none⟩ 1 1 [.string nm,.int .i64 (i:Nat)] (by rfl) rfl ?c3 ?c4 ?c5 ?c6 ?c7 ?_; (case c0=>(first | (intro h; cases h; done) | exact fun _=>⟨rfl,rfl⟩)); (case c1=>(rfl)); (case c2=>(intro b9 hb9; cases hb9)); (case c3=>(exact World.news_of_block (cs := #[.string nm,.int .i64 (i:Nat)]) (t := 63) (fr := (0,0)) (by first | exact heap_drew (heap_alloc_new w _) | exact heap_alloc_new w _ | exact heap_alloc_new w.drew _))); (case c4=>(intro u hu; simp at hu; rcases hu with rfl | rfl <;> rfl)); (case c5=>omega); (case c6=>(unfold maxLen; omega)); (case c7=>omega); intro v' w2 hown hgrow; have hbw:Below w.heap.size w w2 := ⟨hgrow.os,hgrow.tape,hgrow.output,by have := hgrow.size; simp at this; omega,fun k hk=>(hgrow.block k (by simp; omega) (by simp)).trans (by first | exact heap_drew (heap_old hk rfl) | exact heap_old hk rfl)⟩; have kc5:∀k q,k<w.heap.size→w2.cell? ⟨k,q,none⟩=_ := (fun k q h=>hbw.cell (p := ⟨k,q,none⟩) h); have HOWN := Lib.hid hown; have HB0 := Lib.hid hbw; clear hown hgrow hbw))
        | ((with_reducible refine (HC.out _ _ ?hown ?hbel).mono ?_); (case hown=>simpa using HOWN.out); (case hbel=>exact HB0.out); rintro e w4 ⟨rfl,hw4⟩; have kc5:∀k q,k<w.heap.size→w4.cell? ⟨k,q,none⟩=_ := (fun k q h=>hw4.cell (p := ⟨k,q,none⟩) h); have HB1 := Lib.hid hw4; clear hw4)
        | fail)
    all_goals go_wp2_with fail
    all_goals exact HN.out _ _ (by exact fR rfl rfl rfl) HB1.out
  · have t8:(kd == 8)=true := hk8
    clear hk8
    have HC := Lib.hid hc
    have HN := Lib.hid hN
    clear hc hN
    go_region_held3 (fun w'=>w'.cell? ⟨wo.heap.size,0,none⟩=some (.int .i64 z)∧w'.cell? ⟨wo.heap.size,1,none⟩=some (.slice Am nm1 cm)∧w'.cell? ⟨wo.heap.size,2,none⟩=some (.slice Bm nm2 dm)∧w'.cell? ⟨wo.heap.size+1,0,none⟩=some (.int .i64 kd)∧w'.cell? ⟨wo.heap.size+1,1,none⟩=some (.string nm)∧w'.cell? ⟨wo.heap.size+1,3,none⟩=some (.slice (some ⟨b,o,none⟩) 1 c2)∧w'.cell? ⟨wo.heap.size+1+1,0,none⟩=some (.slice none 0 ee)∧w'.cell? ⟨b,o,none⟩=some (.int .i64 k0)∧w'.cell? ⟨b,o+1,none⟩=some (.string s0)∧w'.cell? ⟨b,o+2,none⟩=some (.slice A0 p0 q0)∧w'.cell? ⟨b,o+3,none⟩=some (.slice B0 r0 u0))
      ((first | (go_keep; done) | (go_split_ands; (repeat' apply And.intro) <;> (refine (kc5 _ _ (by omega)).trans ?_; assumption))))
      (first
        | ((refine step_append_grows (by rfl) (.tmp 149) (.tmp 154) 62 (by rfl) 63 ti (.agg #[.string ⟨#[]⟩,.int .i64 0]) 2 24 Tryd.underlying62 hti ht0 ht1 ht2 rfl (by decide) none 0 0 [] (by rfl) ?c0 ?c1 ?c2 ⟨w.heap.size,0,none⟩ 1 1 [.string nm,.int .i64 (i:Nat)] (by rfl) rfl ?c3 ?c4 ?c5 ?c6 ?c7 ?_; (case c0=>(first | (intro h; cases h; done) | exact fun _=>⟨rfl,rfl⟩)); (case c1=>(rfl)); (case c2=>(intro b9 hb9; cases hb9)); (case c3=>(exact World.news_of_block (cs := #[.string nm,.int .i64 (i:Nat)]) (t := 63) (fr := (0,0)) (by first | exact heap_drew (heap_alloc_new w _) | exact heap_alloc_new w _ | exact heap_alloc_new w.drew _))); (case c4=>(intro u hu; simp at hu; rcases hu with rfl | rfl <;> rfl)); (case c5=>omega); (case c6=>(unfold maxLen; omega)); (case c7=>omega); intro v' w2 hown hgrow; have hbw:Below w.heap.size w w2 := ⟨hgrow.os,hgrow.tape,hgrow.output,by have := hgrow.size; simp at this; omega,fun k hk=>(hgrow.block k (by simp; omega) (by simp)).trans (by first | exact heap_drew (heap_old hk rfl) | exact heap_old hk rfl)⟩; have kc5:∀k q,k<w.heap.size→w2.cell? ⟨k,q,none⟩=_ := (fun k q h=>hbw.cell (p := ⟨k,q,none⟩) h); have HOWN := Lib.hid hown; have HB0 := Lib.hid hbw; clear hown hgrow hbw))
        | ((with_reducible refine (HC.out _ _ ?hown ?hbel).mono ?_); (case hown=>simpa using HOWN.out); (case hbel=>exact HB0.out); rintro e w4 ⟨rfl,hw4⟩; have kc5:∀k q,k<w.heap.size→w4.cell? ⟨k,q,none⟩=_ := (fun k q h=>hw4.cell (p := ⟨k,q,none⟩) h); have HB1 := Lib.hid hw4; clear hw4)
        | fail)
    all_goals go_wp2_with fail
    all_goals exact HN.out _ _ (by exact fR rfl rfl rfl) HB1.out
  · have t8:(kd == 8)=false := hk8
    clear hk8
    have HC := Lib.hid hc
    have HN := Lib.hid hN
    clear hc hN
    go_region_held3 (fun w'=>w'.cell? ⟨wo.heap.size,0,none⟩=some (.int .i64 z)∧w'.cell? ⟨wo.heap.size,1,none⟩=some (.slice Am nm1 cm)∧w'.cell? ⟨wo.heap.size,2,none⟩=some (.slice Bm nm2 dm)∧w'.cell? ⟨wo.heap.size+1,0,none⟩=some (.int .i64 kd)∧w'.cell? ⟨wo.heap.size+1,1,none⟩=some (.string nm)∧w'.cell? ⟨wo.heap.size+1,3,none⟩=some (.slice (some ⟨b,o,none⟩) 1 c2)∧w'.cell? ⟨wo.heap.size+1+1,0,none⟩=some (.slice none 0 ee)∧w'.cell? ⟨b,o,none⟩=some (.int .i64 k0)∧w'.cell? ⟨b,o+1,none⟩=some (.string s0)∧w'.cell? ⟨b,o+2,none⟩=some (.slice A0 p0 q0)∧w'.cell? ⟨b,o+3,none⟩=some (.slice B0 r0 u0))
      ((first | (go_keep; done) | (go_split_ands; (repeat' apply And.intro) <;> (refine (kc5 _ _ (by omega)).trans ?_; assumption))))
      (first
        | ((refine step_append_grows (by rfl) (.tmp 149) (.tmp 154) 62 (by rfl) 63 ti (.agg #[.string ⟨#[]⟩,.int .i64 0]) 2 24 Tryd.underlying62 hti ht0 ht1 ht2 rfl (by decide) none 0 0 [] (by rfl) ?c0 ?c1 ?c2 ⟨w.heap.size,0,none⟩ 1 1 [.string nm,.int .i64 (i:Nat)] (by rfl) rfl ?c3 ?c4 ?c5 ?c6 ?c7 ?_; (case c0=>(first | (intro h; cases h; done) | exact fun _=>⟨rfl,rfl⟩)); (case c1=>(rfl)); (case c2=>(intro b9 hb9; cases hb9)); (case c3=>(exact World.news_of_block (cs := #[.string nm,.int .i64 (i:Nat)]) (t := 63) (fr := (0,0)) (by first | exact heap_drew (heap_alloc_new w _) | exact heap_alloc_new w _ | exact heap_alloc_new w.drew _))); (case c4=>(intro u hu; simp at hu; rcases hu with rfl | rfl <;> rfl)); (case c5=>omega); (case c6=>(unfold maxLen; omega)); (case c7=>omega); intro v' w2 hown hgrow; have hbw:Below w.heap.size w w2 := ⟨hgrow.os,hgrow.tape,hgrow.output,by have := hgrow.size; simp at this; omega,fun k hk=>(hgrow.block k (by simp; omega) (by simp)).trans (by first | exact heap_drew (heap_old hk rfl) | exact heap_old hk rfl)⟩; have kc5:∀k q,k<w.heap.size→w2.cell? ⟨k,q,none⟩=_ := (fun k q h=>hbw.cell (p := ⟨k,q,none⟩) h); have HOWN := Lib.hid hown; have HB0 := Lib.hid hbw; clear hown hgrow hbw))
        | ((with_reducible refine (HC.out _ _ ?hown ?hbel).mono ?_); (case hown=>simpa using HOWN.out); (case hbel=>exact HB0.out); rintro e w4 ⟨rfl,hw4⟩; have kc5:∀k q,k<w.heap.size→w4.cell? ⟨k,q,none⟩=_ := (fun k q h=>hw4.cell (p := ⟨k,q,none⟩) h); have HB1 := Lib.hid hw4; clear hw4)
        | fail)
    all_goals go_wp2_with fail
    all_goals exact HN.out _ _ (by exact fR rfl rfl rfl) HB1.out
  · have t8:(kd == 8)=true := hk8
    clear hk8
    have HC := Lib.hid hc
    have HN := Lib.hid hN
    clear hc hN
    go_region_held3 (fun w'=>w'.cell? ⟨wo.heap.size,0,none⟩=some (.int .i64 z)∧w'.cell? ⟨wo.heap.size,1,none⟩=some (.slice Am nm1 cm)∧w'.cell? ⟨wo.heap.size,2,none⟩=some (.slice Bm nm2 dm)∧w'.cell? ⟨wo.heap.size+1,0,none⟩=some (.int .i64 kd)∧w'.cell? ⟨wo.heap.size+1,1,none⟩=some (.string nm)∧w'.cell? ⟨wo.heap.size+1,3,none⟩=some (.slice (some ⟨b,o,none⟩) 1 c2)∧w'.cell? ⟨wo.heap.size+1+1,0,none⟩=some (.slice none 0 ee)∧w'.cell? ⟨b,o,none⟩=some (.int .i64 k0)∧w'.cell? ⟨b,o+1,none⟩=some (.string s0)∧w'.cell? ⟨b,o+2,none⟩=some (.slice A0 p0 q0)∧w'.cell? ⟨b,o+3,none⟩=some (.slice B0 r0 u0))
      ((first | (go_keep; done) | (go_split_ands; (repeat' apply And.intro) <;> (refine (kc5 _ _ (by omega)).trans ?_; assumption))))
      (first
        | ((refine step_append_grows (by rfl) (.tmp 149) (.tmp 154) 62 (by rfl) 63 ti (.agg #[.string ⟨#[]⟩,.int .i64 0]) 2 24 Tryd.underlying62 hti ht0 ht1 ht2 rfl (by decide) none 0 0 [] (by rfl) ?c0 ?c1 ?c2 ⟨w.heap.size,0,none⟩ 1 1 [.string nm,.int .i64 (i:Nat)] (by rfl) rfl ?c3 ?c4 ?c5 ?c6 ?c7 ?_; (case c0=>(first | (intro h; cases h; done) | exact fun _=>⟨rfl,rfl⟩)); (case c1=>(rfl)); (case c2=>(intro b9 hb9; cases hb9)); (case c3=>(exact World.news_of_block (cs := #[.string nm,.int .i64 (i:Nat)]) (t := 63) (fr := (0,0)) (by first | exact heap_drew (heap_alloc_new w _) | exact heap_alloc_new w _ | exact heap_alloc_new w.drew _))); (case c4=>(intro u hu; simp at hu; rcases hu with rfl | rfl <;> rfl)); (case c5=>omega); (case c6=>(unfold maxLen; omega)); (case c7=>omega); intro v' w2 hown hgrow; have hbw:Below w.heap.size w w2 := ⟨hgrow.os,hgrow.tape,hgrow.output,by have := hgrow.size; simp at this; omega,fun k hk=>(hgrow.block k (by simp; omega) (by simp)).trans (by first | exact heap_drew (heap_old hk rfl) | exact heap_old hk rfl)⟩; have kc5:∀k q,k<w.heap.size→w2.cell? ⟨k,q,none⟩=_ := (fun k q h=>hbw.cell (p := ⟨k,q,none⟩) h); have HOWN := Lib.hid hown; have HB0 := Lib.hid hbw; clear hown hgrow hbw))
        | ((with_reducible refine (HC.out _ _ ?hown ?hbel).mono ?_); (case hown=>simpa using HOWN.out); (case hbel=>exact HB0.out); rintro e w4 ⟨rfl,hw4⟩; have kc5:∀k q,k<w.heap.size→w4.cell? ⟨k,q,none⟩=_ := (fun k q h=>hw4.cell (p := ⟨k,q,none⟩) h); have HB1 := Lib.hid hw4; clear hw4)
        | fail)
    all_goals go_wp2_with fail
    all_goals exact HN.out _ _ (by exact fR rfl rfl rfl) HB1.out
def c_vl_r28 := sp 99 10647 cF23
theorem vl_r28_wp {b2 o2:Nat} {env:List (ByteArray × Int)} (hgm:w.heap[wo.heap.size]? = some (.cells #[.int .i64 z,.slice Am nm1 cm,.slice Bm nm2 dm] 25 (0,0))) (ha:w.heap[wo.heap.size+1]? = some (.cells #[.int .i64 kd,.string nm,.slice A n1 c1,.slice (some ⟨b,o,none⟩) 1 c2] 29 (0,0))) (hlen:env.length=me) (hm:me≤1000000) (hme:me≤ee) (hbw:b2<w.heap.size) (hcell:∀j u,(envVals env)[j]? = some u→w.cell? ⟨b2,o2+j,none⟩=some u) (hge:w.heap[wo.heap.size+1+1]? = some (.cells #[.slice (some ⟨b2,o2,none⟩) me ee] 62 (0,0))) (e0_0:w.cell? ⟨b,o,none⟩=some (.int .i64 k0)) (e0_1:w.cell? ⟨b,o+1,none⟩=some (.string s0)) (e0_2:w.cell? ⟨b,o+2,none⟩=some (.slice A0 p0 q0)) (e0_3:w.cell? ⟨b,o+3,none⟩=some (.slice B0 r0 u0)) (hbl:b<w.heap.size) (hk8:(kd == 8)=b8) (hbx:(bb != b8)=bx) (hc:∀(W:World) (v':Value),W.ownsRow (w.heap.size+1) 63 2 v' (me+1) (envVals env++[.string nm,.int .i64 (i:Nat)])→Below w.heap.size w W→Calls Tryd.prog 23 #[.agg #[.int .i64 z,.slice Am nm1 cm,.slice Bm nm2 dm],.agg #[.int .i64 k0,.string s0,.slice A0 p0 q0,.slice B0 r0 u0],v'] W fun e w'=>e=.returned (.bool bb)∧Below w.heap.size w w') (hN:∀a' w',Frm 168 [(3,.pointer (some ⟨wo.heap.size,0,none⟩)),(4,.pointer (some ⟨(wo.heap.size+1),0,none⟩)),(5,.pointer (some ⟨(wo.heap.size+1+1),0,none⟩)),(7,s_7),(135,s_135),(136,s_136),(160,.bool bx)] a'→Below w.heap.size w w'→K a' w'):∀ac,Frm 168 [(3,.pointer (some ⟨wo.heap.size,0,none⟩)),(4,.pointer (some ⟨(wo.heap.size+1),0,none⟩)),(5,.pointer (some ⟨(wo.heap.size+1+1),0,none⟩)),(7,s_7),(135,s_135),(136,s_136),(15,.int .i64 (i:Nat))] ac→Code.wp Tryd.prog c_vl_r28 (Exit.then K (fun _ _ _=>False)) ac w := by
  refine fO (frame_vl ?_)
  intros
  rename_i hq
  iterate 7 (obtain ⟨e,hq⟩ := hq; obtain rfl := sI e; clear e)
  clear hq
  conv=>arg 2; whnf
  obtain ⟨ti,hti,ht0,ht1,ht2⟩ := info_parts infoEnv
  have q1:(me:Int)≤(ee:Int) := by omega
  have hcA:∀j u,(envVals env)[j]? = some u→(w.alloc (.cells #[.string nm,.int .i64 (i:Nat)] 63)).cell? ⟨b2,o2+j,none⟩=some u := fun j u hu=>(cell_keep (heap_old hbw rfl) _).trans (hcell j u hu)
  have HCELLA := Lib.hid hcA
  have hbl2:(envVals env).length=me * 2 := by rw [envVals_len,hlen]
  have HBL := Lib.hid hbl2
  clear hcA hcell hbl2
  have a0 := cellv ha 0 rfl
  have a1 := cellv ha 1 rfl
  have a2 := cellv ha 2 rfl
  have a3 := cellv ha 3 rfl
  have al := lt_heap ha
  clear ha
  have m0 := cellv hgm 0 rfl
  have m1 := cellv hgm 1 rfl
  have m2 := cellv hgm 2 rfl
  have ml := lt_heap hgm
  clear hgm
  have g0 := cellv hge 0 rfl
  have gl := lt_heap hge
  clear hge
  subst hbx
  cases bb <;> cases b8
  · have t8:(kd == 8)=false := hk8
    clear hk8
    have HC := Lib.hid hc
    have HN := Lib.hid hN
    clear hc hN
    go_region_held3 (fun w'=>w'.cell? ⟨wo.heap.size,0,none⟩=some (.int .i64 z)∧w'.cell? ⟨wo.heap.size,1,none⟩=some (.slice Am nm1 cm)∧w'.cell? ⟨wo.heap.size,2,none⟩=some (.slice Bm nm2 dm)∧w'.cell? ⟨wo.heap.size+1,0,none⟩=some (.int .i64 kd)∧w'.cell? ⟨wo.heap.size+1,1,none⟩=some (.string nm)∧w'.cell? ⟨wo.heap.size+1,3,none⟩=some (.slice (some ⟨b,o,none⟩) 1 c2)∧w'.cell? ⟨wo.heap.size+1+1,0,none⟩=some (.slice (some ⟨b2,o2,none⟩) me ee)∧w'.cell? ⟨b,o,none⟩=some (.int .i64 k0)∧w'.cell? ⟨b,o+1,none⟩=some (.string s0)∧w'.cell? ⟨b,o+2,none⟩=some (.slice A0 p0 q0)∧w'.cell? ⟨b,o+3,none⟩=some (.slice B0 r0 u0))
      ((first | (go_keep; done) | (go_split_ands; (repeat' apply And.intro) <;> (refine (kc5 _ _ (by omega)).trans ?_; assumption))))
      (first
        | ((refine step_append_grows (by rfl) (.tmp 149) (.tmp 154) 62 (by rfl) 63 ti (.agg #[.string ⟨#[]⟩,.int .i64 0]) 2 24 Tryd.underlying62 hti ht0 ht1 ht2 rfl (by decide) (some ⟨b2,o2,none⟩) me me (envVals env) (by rfl) ?c0 ?c1 ?c2 ⟨w.heap.size,0,none⟩ 1 1 [.string nm,.int .i64 (i:Nat)] (by rfl) rfl ?c3 ?c4 ?c5 ?c6 ?c7 ?_; (case c0=>(first | (intro h; cases h; done) | exact fun _=>⟨rfl,rfl⟩)); (case c1=>(exact HBL.out)); (case c2=>(intro b9 hb9 j u hu; cases hb9; rw [Addr.add_lit]; exact HCELLA.out j u hu)); (case c3=>(exact World.news_of_block (cs := #[.string nm,.int .i64 (i:Nat)]) (t := 63) (fr := (0,0)) (by first | exact heap_drew (heap_alloc_new w _) | exact heap_alloc_new w _ | exact heap_alloc_new w.drew _))); (case c4=>(intro u hu; simp at hu; rcases hu with rfl | rfl <;> rfl)); (case c5=>omega); (case c6=>(unfold maxLen; omega)); (case c7=>omega); intro v' w2 hown hgrow; have hbw:Below w.heap.size w w2 := ⟨hgrow.os,hgrow.tape,hgrow.output,by have := hgrow.size; simp at this; omega,fun k hk=>(hgrow.block k (by simp; omega) (by simp)).trans (by first | exact heap_drew (heap_old hk rfl) | exact heap_old hk rfl)⟩; have kc5:∀k q,k<w.heap.size→w2.cell? ⟨k,q,none⟩=_ := (fun k q h=>hbw.cell (p := ⟨k,q,none⟩) h); have HOWN := Lib.hid hown; have HB0 := Lib.hid hbw; clear hown hgrow hbw))
        | ((with_reducible refine (HC.out _ _ ?hown ?hbel).mono ?_); (case hown=>simpa using HOWN.out); (case hbel=>exact HB0.out); rintro e w4 ⟨rfl,hw4⟩; have kc5:∀k q,k<w.heap.size→w4.cell? ⟨k,q,none⟩=_ := (fun k q h=>hw4.cell (p := ⟨k,q,none⟩) h); have HB1 := Lib.hid hw4; clear hw4)
        | fail)
    all_goals go_wp2_with fail
    all_goals exact HN.out _ _ (by exact fR rfl rfl rfl) HB1.out
  · have t8:(kd == 8)=true := hk8
    clear hk8
    have HC := Lib.hid hc
    have HN := Lib.hid hN
    clear hc hN
    go_region_held3 (fun w'=>w'.cell? ⟨wo.heap.size,0,none⟩=some (.int .i64 z)∧w'.cell? ⟨wo.heap.size,1,none⟩=some (.slice Am nm1 cm)∧w'.cell? ⟨wo.heap.size,2,none⟩=some (.slice Bm nm2 dm)∧w'.cell? ⟨wo.heap.size+1,0,none⟩=some (.int .i64 kd)∧w'.cell? ⟨wo.heap.size+1,1,none⟩=some (.string nm)∧w'.cell? ⟨wo.heap.size+1,3,none⟩=some (.slice (some ⟨b,o,none⟩) 1 c2)∧w'.cell? ⟨wo.heap.size+1+1,0,none⟩=some (.slice (some ⟨b2,o2,none⟩) me ee)∧w'.cell? ⟨b,o,none⟩=some (.int .i64 k0)∧w'.cell? ⟨b,o+1,none⟩=some (.string s0)∧w'.cell? ⟨b,o+2,none⟩=some (.slice A0 p0 q0)∧w'.cell? ⟨b,o+3,none⟩=some (.slice B0 r0 u0))
      ((first | (go_keep; done) | (go_split_ands; (repeat' apply And.intro) <;> (refine (kc5 _ _ (by omega)).trans ?_; assumption))))
      (first
        | ((refine step_append_grows (by rfl) (.tmp 149) (.tmp 154) 62 (by rfl) 63 ti (.agg #[.string ⟨#[]⟩,.int .i64 0]) 2 24 Tryd.underlying62 hti ht0 ht1 ht2 rfl (by decide) (some ⟨b2,o2,none⟩) me me (envVals env) (by rfl) ?c0 ?c1 ?c2 ⟨w.heap.size,0,none⟩ 1 1 [.string nm,.int .i64 (i:Nat)] (by rfl) rfl ?c3 ?c4 ?c5 ?c6 ?c7 ?_; (case c0=>(first | (intro h; cases h; done) | exact fun _=>⟨rfl,rfl⟩)); (case c1=>(exact HBL.out)); (case c2=>(intro b9 hb9 j u hu; cases hb9; rw [Addr.add_lit]; exact HCELLA.out j u hu)); (case c3=>(exact World.news_of_block (cs := #[.string nm,.int .i64 (i:Nat)]) (t := 63) (fr := (0,0)) (by first | exact heap_drew (heap_alloc_new w _) | exact heap_alloc_new w _ | exact heap_alloc_new w.drew _))); (case c4=>(intro u hu; simp at hu; rcases hu with rfl | rfl <;> rfl)); (case c5=>omega); (case c6=>(unfold maxLen; omega)); (case c7=>omega); intro v' w2 hown hgrow; have hbw:Below w.heap.size w w2 := ⟨hgrow.os,hgrow.tape,hgrow.output,by have := hgrow.size; simp at this; omega,fun k hk=>(hgrow.block k (by simp; omega) (by simp)).trans (by first | exact heap_drew (heap_old hk rfl) | exact heap_old hk rfl)⟩; have kc5:∀k q,k<w.heap.size→w2.cell? ⟨k,q,none⟩=_ := (fun k q h=>hbw.cell (p := ⟨k,q,none⟩) h); have HOWN := Lib.hid hown; have HB0 := Lib.hid hbw; clear hown hgrow hbw))
        | ((with_reducible refine (HC.out _ _ ?hown ?hbel).mono ?_); (case hown=>simpa using HOWN.out); (case hbel=>exact HB0.out); rintro e w4 ⟨rfl,hw4⟩; have kc5:∀k q,k<w.heap.size→w4.cell? ⟨k,q,none⟩=_ := (fun k q h=>hw4.cell (p := ⟨k,q,none⟩) h); have HB1 := Lib.hid hw4; clear hw4)
        | fail)
    all_goals go_wp2_with fail
    all_goals exact HN.out _ _ (by exact fR rfl rfl rfl) HB1.out
  · have t8:(kd == 8)=false := hk8
    clear hk8
    have HC := Lib.hid hc
    have HN := Lib.hid hN
    clear hc hN
    go_region_held3 (fun w'=>w'.cell? ⟨wo.heap.size,0,none⟩=some (.int .i64 z)∧w'.cell? ⟨wo.heap.size,1,none⟩=some (.slice Am nm1 cm)∧w'.cell? ⟨wo.heap.size,2,none⟩=some (.slice Bm nm2 dm)∧w'.cell? ⟨wo.heap.size+1,0,none⟩=some (.int .i64 kd)∧w'.cell? ⟨wo.heap.size+1,1,none⟩=some (.string nm)∧w'.cell? ⟨wo.heap.size+1,3,none⟩=some (.slice (some ⟨b,o,none⟩) 1 c2)∧w'.cell? ⟨wo.heap.size+1+1,0,none⟩=some (.slice (some ⟨b2,o2,none⟩) me ee)∧w'.cell? ⟨b,o,none⟩=some (.int .i64 k0)∧w'.cell? ⟨b,o+1,none⟩=some (.string s0)∧w'.cell? ⟨b,o+2,none⟩=some (.slice A0 p0 q0)∧w'.cell? ⟨b,o+3,none⟩=some (.slice B0 r0 u0))
      ((first | (go_keep; done) | (go_split_ands; (repeat' apply And.intro) <;> (refine (kc5 _ _ (by omega)).trans ?_; assumption))))
      (first
        | ((refine step_append_grows (by rfl) (.tmp 149) (.tmp 154) 62 (by rfl) 63 ti (.agg #[.string ⟨#[]⟩,.int .i64 0]) 2 24 Tryd.underlying62 hti ht0 ht1 ht2 rfl (by decide) (some ⟨b2,o2,none⟩) me me (envVals env) (by rfl) ?c0 ?c1 ?c2 ⟨w.heap.size,0,none⟩ 1 1 [.string nm,.int .i64 (i:Nat)] (by rfl) rfl ?c3 ?c4 ?c5 ?c6 ?c7 ?_; (case c0=>(first | (intro h; cases h; done) | exact fun _=>⟨rfl,rfl⟩)); (case c1=>(exact HBL.out)); (case c2=>(intro b9 hb9 j u hu; cases hb9; rw [Addr.add_lit]; exact HCELLA.out j u hu)); (case c3=>(exact World.news_of_block (cs := #[.string nm,.int .i64 (i:Nat)]) (t := 63) (fr := (0,0)) (by first | exact heap_drew (heap_alloc_new w _) | exact heap_alloc_new w _ | exact heap_alloc_new w.drew _))); (case c4=>(intro u hu; simp at hu; rcases hu with rfl | rfl <;> rfl)); (case c5=>omega); (case c6=>(unfold maxLen; omega)); (case c7=>omega); intro v' w2 hown hgrow; have hbw:Below w.heap.size w w2 := ⟨hgrow.os,hgrow.tape,hgrow.output,by have := hgrow.size; simp at this; omega,fun k hk=>(hgrow.block k (by simp; omega) (by simp)).trans (by first | exact heap_drew (heap_old hk rfl) | exact heap_old hk rfl)⟩; have kc5:∀k q,k<w.heap.size→w2.cell? ⟨k,q,none⟩=_ := (fun k q h=>hbw.cell (p := ⟨k,q,none⟩) h); have HOWN := Lib.hid hown; have HB0 := Lib.hid hbw; clear hown hgrow hbw))
        | ((with_reducible refine (HC.out _ _ ?hown ?hbel).mono ?_); (case hown=>simpa using HOWN.out); (case hbel=>exact HB0.out); rintro e w4 ⟨rfl,hw4⟩; have kc5:∀k q,k<w.heap.size→w4.cell? ⟨k,q,none⟩=_ := (fun k q h=>hw4.cell (p := ⟨k,q,none⟩) h); have HB1 := Lib.hid hw4; clear hw4)
        | fail)
    all_goals go_wp2_with fail
    all_goals exact HN.out _ _ (by exact fR rfl rfl rfl) HB1.out
  · have t8:(kd == 8)=true := hk8
    clear hk8
    have HC := Lib.hid hc
    have HN := Lib.hid hN
    clear hc hN
    go_region_held3 (fun w'=>w'.cell? ⟨wo.heap.size,0,none⟩=some (.int .i64 z)∧w'.cell? ⟨wo.heap.size,1,none⟩=some (.slice Am nm1 cm)∧w'.cell? ⟨wo.heap.size,2,none⟩=some (.slice Bm nm2 dm)∧w'.cell? ⟨wo.heap.size+1,0,none⟩=some (.int .i64 kd)∧w'.cell? ⟨wo.heap.size+1,1,none⟩=some (.string nm)∧w'.cell? ⟨wo.heap.size+1,3,none⟩=some (.slice (some ⟨b,o,none⟩) 1 c2)∧w'.cell? ⟨wo.heap.size+1+1,0,none⟩=some (.slice (some ⟨b2,o2,none⟩) me ee)∧w'.cell? ⟨b,o,none⟩=some (.int .i64 k0)∧w'.cell? ⟨b,o+1,none⟩=some (.string s0)∧w'.cell? ⟨b,o+2,none⟩=some (.slice A0 p0 q0)∧w'.cell? ⟨b,o+3,none⟩=some (.slice B0 r0 u0))
      ((first | (go_keep; done) | (go_split_ands; (repeat' apply And.intro) <;> (refine (kc5 _ _ (by omega)).trans ?_; assumption))))
      (first
        | ((refine step_append_grows (by rfl) (.tmp 149) (.tmp 154) 62 (by rfl) 63 ti (.agg #[.string ⟨#[]⟩,.int .i64 0]) 2 24 Tryd.underlying62 hti ht0 ht1 ht2 rfl (by decide) (some ⟨b2,o2,none⟩) me me (envVals env) (by rfl) ?c0 ?c1 ?c2 ⟨w.heap.size,0,none⟩ 1 1 [.string nm,.int .i64 (i:Nat)] (by rfl) rfl ?c3 ?c4 ?c5 ?c6 ?c7 ?_; (case c0=>(first | (intro h; cases h; done) | exact fun _=>⟨rfl,rfl⟩)); (case c1=>(exact HBL.out)); (case c2=>(intro b9 hb9 j u hu; cases hb9; rw [Addr.add_lit]; exact HCELLA.out j u hu)); (case c3=>(exact World.news_of_block (cs := #[.string nm,.int .i64 (i:Nat)]) (t := 63) (fr := (0,0)) (by first | exact heap_drew (heap_alloc_new w _) | exact heap_alloc_new w _ | exact heap_alloc_new w.drew _))); (case c4=>(intro u hu; simp at hu; rcases hu with rfl | rfl <;> rfl)); (case c5=>omega); (case c6=>(unfold maxLen; omega)); (case c7=>omega); intro v' w2 hown hgrow; have hbw:Below w.heap.size w w2 := ⟨hgrow.os,hgrow.tape,hgrow.output,by have := hgrow.size; simp at this; omega,fun k hk=>(hgrow.block k (by simp; omega) (by simp)).trans (by first | exact heap_drew (heap_old hk rfl) | exact heap_old hk rfl)⟩; have kc5:∀k q,k<w.heap.size→w2.cell? ⟨k,q,none⟩=_ := (fun k q h=>hbw.cell (p := ⟨k,q,none⟩) h); have HOWN := Lib.hid hown; have HB0 := Lib.hid hbw; clear hown hgrow hbw))
        | ((with_reducible refine (HC.out _ _ ?hown ?hbel).mono ?_); (case hown=>simpa using HOWN.out); (case hbel=>exact HB0.out); rintro e w4 ⟨rfl,hw4⟩; have kc5:∀k q,k<w.heap.size→w4.cell? ⟨k,q,none⟩=_ := (fun k q h=>hw4.cell (p := ⟨k,q,none⟩) h); have HB1 := Lib.hid hw4; clear hw4)
        | fail)
    all_goals go_wp2_with fail
    all_goals exact HN.out _ _ (by exact fR rfl rfl rfl) HB1.out
theorem vl_ret_wp {R:Ending→World→Prop} {w':World} (hR:R (.returned (.bool bb)) w'):∀ac,Frm 168 [(6,.bool bb)] ac→bodyPost Tryd.prog Tryd.f23 R .ret ac w' := by
  refine fO (frame_vl ?_)
  intros
  rename_i hq
  iterate 1 (obtain ⟨e,hq⟩ := hq; obtain rfl := sI e; clear e)
  clear hq
  refine bodyPost_ret (v := .bool bb) (by simp [results,Tryd.results23,go_sem]) rfl ?_
  exact hR
end

end Go.Proofs.YthfokmjpbnfihaaDoor
