/-
  (*folform.reader).pair: more regions, by parts.
-/
import Derived.Test.YtnoceodmnjhljabDoorPairA
namespace Go.Proofs.YtnoceodmnjhljabDoor
open Go Go.RowKit
set_option linter.unusedSimpArgs false
set_option linter.unusedVariables false

noncomputable def c_pr_r16 : Code := sub [1, 1, 0, 1, 1, 0, 1, 1, 1] (Tryd.f31.body.getD .skip)
set_option maxRecDepth 1000000 in
set_option maxHeartbeats 16000000 in
theorem pr_r16_wp {Q : Exit → Act → World → Prop} {fr : Nat} {x : ByteArray} {r i c j n d : Nat} {wo w : World} (hp : FS n wo w r x i c j) (hN : ∀ a' w', Frm 173 [(0, .pointer (some ⟨r, 0, none⟩)), (1, .int .i64 (d : Nat)), (4, .pointer (some ⟨wo.heap.size, 0, none⟩))] a' → Keeps (· = r) w w' → FS n wo w' r x fr c j → Q .normal a' w') : ∀ ac, Frm 173 [(0, .pointer (some ⟨r, 0, none⟩)), (1, .int .i64 (d : Nat)), (4, .pointer (some ⟨wo.heap.size, 0, none⟩)), (6, .int .i64 (fr : Nat))] ac → Code.wp Tryd.prog c_pr_r16 Q ac w := by
  refine frm_open ?_
  refine frame_pr ?_
  intros
  rename_i hq
  obtain ⟨-, -, e0q, e1q, e2q, e3q, -⟩ := hq
  have e0q := (Option.some.inj e0q).symm; subst e0q
  have e1q := (Option.some.inj e1q).symm; subst e1q
  have e2q := (Option.some.inj e2q).symm; subst e2q
  have e3q := (Option.some.inj e3q).symm; subst e3q
  conv => arg 2; whnf
  have HN := Lib.hid hN
  clear hN
  have r1 := cellv hp.rd 1 rfl
  have r0 := cellv hp.rd 0 rfl
  have d1 := free_heap hp.rd 1
  have rl := lt_heap hp.rd
  have HP := Lib.hid hp
  clear hp
  go_wp2_with fail
  refine HN.out _ _ (id ⟨rfl, rfl, rfl, rfl, rfl, trivial⟩) ((Keeps.refl (· = r) w).set (b := r) (Or.inl rfl) 1 _) (HP.out.keeps ((Keeps.refl (· = r) w).set (b := r) (Or.inl rfl) 1 _) ?_)
  exact show RdG n (w.setCell ⟨r, 1, none⟩ (.int .i64 (fr : Nat))) r x fr c j by simpa [RdG] using heap_set HP.out.rd 1 (.int .i64 (fr : Nat))
noncomputable def c_pr_r18 : Code := sub [1, 1, 1, 1, 0] (Tryd.f31.body.getD .skip)
set_option maxRecDepth 1000000 in
set_option maxHeartbeats 16000000 in
theorem pr_r18_wp {Q : Exit → Act → World → Prop} {g : Nat} {x : ByteArray} {r i c j n d : Nat} {wo w : World} (hx : x.size ≤ 4000) (hp : FS n wo w r x i c j) (hN : ∀ a' w', Frm 173 [(0, .pointer (some ⟨r, 0, none⟩)), (1, .int .i64 (d : Nat)), (4, .pointer (some ⟨wo.heap.size, 0, none⟩)), (9, .pointer (some ⟨g, 0, none⟩))] a' → Keeps (· = r) w w' → FS n wo w' r x (takeI x i c 32) (takeC x i c 32) (takeJ x i c j 32) → Q .normal a' w') : ∀ ac, Frm 173 [(0, .pointer (some ⟨r, 0, none⟩)), (1, .int .i64 (d : Nat)), (4, .pointer (some ⟨wo.heap.size, 0, none⟩)), (9, .pointer (some ⟨g, 0, none⟩))] ac → Code.wp Tryd.prog c_pr_r18 Q ac w := by
  refine frm_open ?_
  refine frame_pr ?_
  intros
  rename_i hq
  obtain ⟨-, -, e0q, e1q, e2q, e3q, -⟩ := hq
  have e0q := (Option.some.inj e0q).symm; subst e0q
  have e1q := (Option.some.inj e1q).symm; subst e1q
  have e2q := (Option.some.inj e2q).symm; subst e2q
  have e3q := (Option.some.inj e3q).symm; subst e3q
  conv => arg 2; whnf
  have htk : ∀ (W : World), RdG n W r x i c j → Calls Tryd.prog 34 #[.pointer (some ⟨r, 0, none⟩), .int .u8 32] W fun e w' => IsBool e ∧ TakeG n w' r x i c j 32 ∧ Keeps (· = r) W w' ∧ w'.heap.size = W.heap.size := fun W h => takeG_any r x i c j 32 W h (by decide) hx
  have HN := Lib.hid hN
  have HTK := Lib.hid htk
  clear hN htk
  have r1 := cellv hp.rd 1 rfl
  have r0 := cellv hp.rd 0 rfl
  have d1 := free_heap hp.rd 1
  have rl := lt_heap hp.rd
  have HP := Lib.hid hp
  clear hp
  go_wp2_with fail
  (with_reducible refine (HTK.out _ HP.out.rd).mono ?_)
  rintro e w1 ⟨⟨bb, rfl⟩, hb1, hk1, hs1⟩
  have HB1 := Lib.hid hb1
  have HK1 := Lib.hid hk1
  clear hb1 hs1 hk1
  go_wp2_with fail
  exact HN.out _ _ (id ⟨rfl, rfl, rfl, rfl, rfl, rfl, trivial⟩) HK1.out (takeFS HP.out HK1.out HB1.out)
noncomputable def c_pr_r20 : Code := sub [1, 1, 1, 1, 1, 1, 0, 0] (Tryd.f31.body.getD .skip)
set_option maxRecDepth 1000000 in
set_option maxHeartbeats 16000000 in
theorem pr_r20_wp {Q : Exit → Act → World → Prop} {r g q d : Nat} {wo w : World} (hN : ∀ a', Frm 173 [(0, .pointer (some ⟨r, 0, none⟩)), (1, .int .i64 (d : Nat)), (4, .pointer (some ⟨wo.heap.size, 0, none⟩)), (9, .pointer (some ⟨g, 0, none⟩)), (10, .int .i64 (q : Nat)), (136, .bool (decide (q = 0)))] a' → Q .normal a' w) : ∀ ac, Frm 173 [(0, .pointer (some ⟨r, 0, none⟩)), (1, .int .i64 (d : Nat)), (4, .pointer (some ⟨wo.heap.size, 0, none⟩)), (9, .pointer (some ⟨g, 0, none⟩)), (10, .int .i64 (q : Nat))] ac → Code.wp Tryd.prog c_pr_r20 Q ac w := by
  refine frm_open ?_
  refine frame_pr ?_
  intros
  rename_i hq
  obtain ⟨-, -, e0q, e1q, e2q, e3q, e4q, -⟩ := hq
  have e0q := (Option.some.inj e0q).symm; subst e0q
  have e1q := (Option.some.inj e1q).symm; subst e1q
  have e2q := (Option.some.inj e2q).symm; subst e2q
  have e3q := (Option.some.inj e3q).symm; subst e3q
  have e4q := (Option.some.inj e4q).symm; subst e4q
  conv => arg 2; whnf
  by_cases h : q = 0
  · have q1 : ((q : Int) == 0) = true := by rw [beq_iff_eq]; omega
    rw [show decide (q = 0) = true from decide_eq_true h] at hN
    clear h
    have HN := Lib.hid hN
    clear hN
    go_wp2_with fail
    exact HN.out _ (id ⟨rfl, rfl, rfl, rfl, rfl, rfl, rfl, rfl, trivial⟩)
  · have q1 : ((q : Int) == 0) = false := beq_eq_false_iff_ne.2 (by omega)
    rw [show decide (q = 0) = false from decide_eq_false h] at hN
    clear h
    have HN := Lib.hid hN
    clear hN
    go_wp2_with fail
    exact HN.out _ (id ⟨rfl, rfl, rfl, rfl, rfl, rfl, rfl, rfl, trivial⟩)
noncomputable def c_pr_r21 : Code := sub [1, 1, 1, 1, 1, 1, 0, 1, 0, 0] (Tryd.f31.body.getD .skip)
set_option maxRecDepth 1000000 in
set_option maxHeartbeats 16000000 in
theorem pr_r21_wp {K : Act → World → Prop} {g q : Nat} {x : ByteArray} {r i c j n d : Nat} {wo w : World} (hi : i ≤ 9000) (hp : FS n wo w r x i c j) (hN : ∀ a' w', Frm 173 [(0, .pointer (some ⟨r, 0, none⟩)), (1, .int .i64 (d : Nat)), (4, .pointer (some ⟨wo.heap.size, 0, none⟩))] a' → Keeps (· = r) w w' → FS n wo w' r x i (if c = 0 then 11 else c) (if c = 0 then i else j) → K a' w') : ∀ ac, Frm 173 [(0, .pointer (some ⟨r, 0, none⟩)), (1, .int .i64 (d : Nat)), (4, .pointer (some ⟨wo.heap.size, 0, none⟩)), (9, .pointer (some ⟨g, 0, none⟩)), (10, .int .i64 (q : Nat))] ac → Code.wp Tryd.prog c_pr_r21 (Exit.then K (fun _ _ _ => False)) ac w := by
  refine frm_open ?_
  refine frame_pr ?_
  intros
  rename_i hq
  obtain ⟨-, -, e0q, e1q, e2q, e3q, e4q, -⟩ := hq
  have e0q := (Option.some.inj e0q).symm; subst e0q
  have e1q := (Option.some.inj e1q).symm; subst e1q
  have e2q := (Option.some.inj e2q).symm; subst e2q
  have e3q := (Option.some.inj e3q).symm; subst e3q
  have e4q := (Option.some.inj e4q).symm; subst e4q
  conv => arg 2; whnf
  have hfl : ∀ (W : World), RdG n W r x i c j → Calls Tryd.prog 22 #[.pointer (some ⟨r, 0, none⟩), .int .i64 11, .int .i64 ((i : Nat))] W fun e w' => e = .returned (.tuple #[]) ∧ RdG n w' r x i (if c = 0 then 11 else c) (if c = 0 then i else j) ∧ Keeps (· = r) W w' ∧ w'.heap.size = W.heap.size := fun W h => (failG_any (m := n) r x i c j 11 (i) W h).mono fun e w' h => ⟨h.1, by have := h.2.1; by_cases hc : c = 0 <;> simpa [hc] using this, h.2.2⟩
  have HN := Lib.hid hN
  have HFL := Lib.hid hfl
  clear hN hfl
  have ha4 : (i : Int) ≤ 9000 := by omega
  have hwr : IntKind.i64.wrap ((i : Int) + 1) = (i : Int) + 1 := by go_unwrap
  have r1 := cellv hp.rd 1 rfl
  have r0 := cellv hp.rd 0 rfl
  have d1 := free_heap hp.rd 1
  have rl := lt_heap hp.rd
  have HP := Lib.hid hp
  clear hp
  have HRD := Lib.hid HP.out.rd
  go_region_held3 (fun w' => w'.cell? ⟨r, 1, none⟩ = some (.int .i64 (i : Nat)))
    ((first | (go_keep; done) | exact cellv HR4.out 1 rfl))
    (((with_reducible refine (HFL.out _ (by first | exact HRD.out.drew | exact HRD.out)).mono ?_); rintro e w4 ⟨rfl, hr4, hk4, hs4⟩; have HR4 := Lib.hid hr4; have HK4 := Lib.hid hk4; clear hr4 hk4 hs4))
  all_goals go_wp2_with fail
  all_goals exact HN.out _ _ (id ⟨rfl, rfl, rfl, rfl, rfl, trivial⟩) (by first | exact HK4.out | exact ((Keeps.refl _ _).drew).trans HK4.out) (HP.out.keeps (by first | exact HK4.out | exact ((Keeps.refl _ _).drew).trans HK4.out) HR4.out)
noncomputable def c_pr_r22 : Code := sub [1, 1, 1, 1, 1, 1, 0, 1, 0, 1, 0] (Tryd.f31.body.getD .skip)
set_option maxRecDepth 1000000 in
set_option maxHeartbeats 16000000 in
theorem pr_r22_wp {Q : Exit → Act → World → Prop} {x : ByteArray} {r i c j n d : Nat} {wo w : World} (hp : FS n wo w r x i c j) (hN : ∀ a' w', Frm 173 [(4, .pointer (some ⟨wo.heap.size, 0, none⟩))] a' → FD n wo w' r x i c j (.int .i64 0) (.string ⟨#[]⟩) (.slice none 0 0) (.slice none 0 0) → Q .normal a' w') : ∀ ac, Frm 173 [(0, .pointer (some ⟨r, 0, none⟩)), (1, .int .i64 (d : Nat)), (4, .pointer (some ⟨wo.heap.size, 0, none⟩))] ac → Code.wp Tryd.prog c_pr_r22 Q ac w := by
  refine frm_open ?_
  refine frame_pr ?_
  intros
  rename_i hq
  obtain ⟨-, -, e0q, e1q, e2q, -⟩ := hq
  have e0q := (Option.some.inj e0q).symm; subst e0q
  have e1q := (Option.some.inj e1q).symm; subst e1q
  have e2q := (Option.some.inj e2q).symm; subst e2q
  conv => arg 2; whnf
  have HN := Lib.hid hN
  clear hN
  have z0 := cellv hp.res 0 rfl
  have z1 := cellv hp.res 1 rfl
  have z2 := cellv hp.res 2 rfl
  have z3 := cellv hp.res 3 rfl
  have zf0 := free_heap hp.res 0
  have zf1 := free_heap hp.res 1
  have zf2 := free_heap hp.res 2
  have zf3 := free_heap hp.res 3
  have zl := lt_heap hp.res
  have r1 := cellv hp.rd 1 rfl
  have r0 := cellv hp.rd 0 rfl
  have d1 := free_heap hp.rd 1
  have rl := lt_heap hp.rd
  have HP := Lib.hid hp
  clear hp
  go_wp2_with fail
  exact HN.out _ _ (id ⟨rfl, rfl, rfl, trivial⟩) (HP.out.put4 _ _ _ _)
noncomputable def c_pr_r23 : Code := sub [1, 1, 1, 1, 1, 1, 1, 0] (Tryd.f31.body.getD .skip)
set_option maxRecDepth 1000000 in
set_option maxHeartbeats 16000000 in
theorem pr_r23_wp {Q : Exit → Act → World → Prop} {g q : Nat} {x : ByteArray} {r i c j n d : Nat} {wo w : World} (hi : i ≤ 5000) (hp : FS n wo w r x i c j) (hN : ∀ a' w', Frm 173 [(0, .pointer (some ⟨r, 0, none⟩)), (1, .int .i64 (d : Nat)), (4, .pointer (some ⟨wo.heap.size, 0, none⟩)), (9, .pointer (some ⟨g, 0, none⟩)), (10, .int .i64 (q : Nat))] a' → Keeps (· = r) w w' → FS n wo w' r x (i + 1) c j → Q .normal a' w') : ∀ ac, Frm 173 [(0, .pointer (some ⟨r, 0, none⟩)), (1, .int .i64 (d : Nat)), (4, .pointer (some ⟨wo.heap.size, 0, none⟩)), (9, .pointer (some ⟨g, 0, none⟩)), (10, .int .i64 (q : Nat))] ac → Code.wp Tryd.prog c_pr_r23 Q ac w := by
  refine frm_open ?_
  refine frame_pr ?_
  intros
  rename_i hq
  obtain ⟨-, -, e0q, e1q, e2q, e3q, e4q, -⟩ := hq
  have e0q := (Option.some.inj e0q).symm; subst e0q
  have e1q := (Option.some.inj e1q).symm; subst e1q
  have e2q := (Option.some.inj e2q).symm; subst e2q
  have e3q := (Option.some.inj e3q).symm; subst e3q
  have e4q := (Option.some.inj e4q).symm; subst e4q
  conv => arg 2; whnf
  have HN := Lib.hid hN
  clear hN
  have r1 := cellv hp.rd 1 rfl
  have r0 := cellv hp.rd 0 rfl
  have d1 := free_heap hp.rd 1
  have rl := lt_heap hp.rd
  have HP := Lib.hid hp
  clear hp
  have ha4 : (i : Int) ≤ 5000 := by omega
  go_wp2_with fail
  refine HN.out _ _ (id ⟨rfl, rfl, rfl, rfl, rfl, rfl, rfl, trivial⟩) ((Keeps.refl (· = r) w).set (b := r) (Or.inl rfl) 1 _) (HP.out.keeps ((Keeps.refl (· = r) w).set (b := r) (Or.inl rfl) 1 _) ?_)
  exact show RdG n (w.setCell ⟨r, 1, none⟩ (.int .i64 ((i : Int) + 1))) r x (i + 1) c j by simpa [RdG] using heap_set HP.out.rd 1 (.int .i64 ((i : Int) + 1))
noncomputable def c_pr_r24 : Code := sub [1, 1, 1, 1, 1, 1, 1, 1, 0] (Tryd.f31.body.getD .skip)
set_option maxRecDepth 1000000 in
set_option maxHeartbeats 16000000 in
theorem pr_r24_wp {Q : Exit → Act → World → Prop} {g q : Nat} {x : ByteArray} {r i c j n d : Nat} {wo w : World} (hx : x.size ≤ 4000) (hp : FS n wo w r x i c j) (hN : ∀ a' w', Frm 173 [(0, .pointer (some ⟨r, 0, none⟩)), (1, .int .i64 (d : Nat)), (4, .pointer (some ⟨wo.heap.size, 0, none⟩)), (9, .pointer (some ⟨g, 0, none⟩)), (10, .int .i64 (q : Nat))] a' → Keeps (· = r) w w' → FS n wo w' r x (takeI x i c 32) (takeC x i c 32) (takeJ x i c j 32) → Q .normal a' w') : ∀ ac, Frm 173 [(0, .pointer (some ⟨r, 0, none⟩)), (1, .int .i64 (d : Nat)), (4, .pointer (some ⟨wo.heap.size, 0, none⟩)), (9, .pointer (some ⟨g, 0, none⟩)), (10, .int .i64 (q : Nat))] ac → Code.wp Tryd.prog c_pr_r24 Q ac w := by
  refine frm_open ?_
  refine frame_pr ?_
  intros
  rename_i hq
  obtain ⟨-, -, e0q, e1q, e2q, e3q, e4q, -⟩ := hq
  have e0q := (Option.some.inj e0q).symm; subst e0q
  have e1q := (Option.some.inj e1q).symm; subst e1q
  have e2q := (Option.some.inj e2q).symm; subst e2q
  have e3q := (Option.some.inj e3q).symm; subst e3q
  have e4q := (Option.some.inj e4q).symm; subst e4q
  conv => arg 2; whnf
  have htk : ∀ (W : World), RdG n W r x i c j → Calls Tryd.prog 34 #[.pointer (some ⟨r, 0, none⟩), .int .u8 32] W fun e w' => IsBool e ∧ TakeG n w' r x i c j 32 ∧ Keeps (· = r) W w' ∧ w'.heap.size = W.heap.size := fun W h => takeG_any r x i c j 32 W h (by decide) hx
  have HN := Lib.hid hN
  have HTK := Lib.hid htk
  clear hN htk
  have r1 := cellv hp.rd 1 rfl
  have r0 := cellv hp.rd 0 rfl
  have d1 := free_heap hp.rd 1
  have rl := lt_heap hp.rd
  have HP := Lib.hid hp
  clear hp
  go_wp2_with fail
  (with_reducible refine (HTK.out _ HP.out.rd).mono ?_)
  rintro e w1 ⟨⟨bb, rfl⟩, hb1, hk1, hs1⟩
  have HB1 := Lib.hid hb1
  have HK1 := Lib.hid hk1
  clear hb1 hs1 hk1
  go_wp2_with fail
  exact HN.out _ _ (id ⟨rfl, rfl, rfl, rfl, rfl, rfl, rfl, trivial⟩) HK1.out (takeFS HP.out HK1.out HB1.out)
noncomputable def c_pr_r26 : Code := sub [1, 1, 1, 1, 1, 1, 1, 1, 1, 1, 0] (Tryd.f31.body.getD .skip)
set_option maxRecDepth 1000000 in
set_option maxHeartbeats 16000000 in
theorem pr_r26_wp {Q : Exit → Act → World → Prop} {g q g2 : Nat} {x : ByteArray} {r i c j n d : Nat} {wo w : World} (hx : x.size ≤ 4000) (hp : FS n wo w r x i c j) (hN : ∀ a' w', Frm 173 [(0, .pointer (some ⟨r, 0, none⟩)), (1, .int .i64 (d : Nat)), (4, .pointer (some ⟨wo.heap.size, 0, none⟩)), (9, .pointer (some ⟨g, 0, none⟩)), (10, .int .i64 (q : Nat)), (11, .pointer (some ⟨g2, 0, none⟩))] a' → Keeps (· = r) w w' → FS n wo w' r x (takeI x i c 41) (takeC x i c 41) (takeJ x i c j 41) → Q .normal a' w') : ∀ ac, Frm 173 [(0, .pointer (some ⟨r, 0, none⟩)), (1, .int .i64 (d : Nat)), (4, .pointer (some ⟨wo.heap.size, 0, none⟩)), (9, .pointer (some ⟨g, 0, none⟩)), (10, .int .i64 (q : Nat)), (11, .pointer (some ⟨g2, 0, none⟩))] ac → Code.wp Tryd.prog c_pr_r26 Q ac w := by
  refine frm_open ?_
  refine frame_pr ?_
  intros
  rename_i hq
  obtain ⟨-, -, e0q, e1q, e2q, e3q, e4q, e5q, -⟩ := hq
  have e0q := (Option.some.inj e0q).symm; subst e0q
  have e1q := (Option.some.inj e1q).symm; subst e1q
  have e2q := (Option.some.inj e2q).symm; subst e2q
  have e3q := (Option.some.inj e3q).symm; subst e3q
  have e4q := (Option.some.inj e4q).symm; subst e4q
  have e5q := (Option.some.inj e5q).symm; subst e5q
  conv => arg 2; whnf
  have htk : ∀ (W : World), RdG n W r x i c j → Calls Tryd.prog 34 #[.pointer (some ⟨r, 0, none⟩), .int .u8 41] W fun e w' => IsBool e ∧ TakeG n w' r x i c j 41 ∧ Keeps (· = r) W w' ∧ w'.heap.size = W.heap.size := fun W h => takeG_any r x i c j 41 W h (by decide) hx
  have HN := Lib.hid hN
  have HTK := Lib.hid htk
  clear hN htk
  have r1 := cellv hp.rd 1 rfl
  have r0 := cellv hp.rd 0 rfl
  have d1 := free_heap hp.rd 1
  have rl := lt_heap hp.rd
  have HP := Lib.hid hp
  clear hp
  go_wp2_with fail
  (with_reducible refine (HTK.out _ HP.out.rd).mono ?_)
  rintro e w1 ⟨⟨bb, rfl⟩, hb1, hk1, hs1⟩
  have HB1 := Lib.hid hb1
  have HK1 := Lib.hid hk1
  clear hb1 hs1 hk1
  go_wp2_with fail
  exact HN.out _ _ (id ⟨rfl, rfl, rfl, rfl, rfl, rfl, rfl, rfl, trivial⟩) HK1.out (takeFS HP.out HK1.out HB1.out)


/-- The blocks that are new since wo, but its first. -/
def SX (wo w : World) : Nat → Prop := fun b => wo.heap.size < b ∧ b < w.heap.size
/-- The result is stored, a block made. -/
theorem FS.put_alloc {n : Nat} {wo w : World} {r : Nat} {x : ByteArray} {i c j : Nat} (h : FS n wo w r x i c j) (b0 b1 b2 b3 : Value) (o : Obj) :
    FD n wo (((((w.setCell ⟨wo.heap.size, 0, none⟩ b0).setCell ⟨wo.heap.size, 1, none⟩ b1).setCell ⟨wo.heap.size, 2, none⟩ b2).setCell ⟨wo.heap.size, 3, none⟩ b3).alloc o) r x i c j b0 b1 b2 b3 ∧ (∀ b, b < w.heap.size → b ≠ wo.heap.size → (((((w.setCell ⟨wo.heap.size, 0, none⟩ b0).setCell ⟨wo.heap.size, 1, none⟩ b1).setCell ⟨wo.heap.size, 2, none⟩ b2).setCell ⟨wo.heap.size, 3, none⟩ b3).alloc o).heap[b]? = w.heap[b]?) ∧ (((((w.setCell ⟨wo.heap.size, 0, none⟩ b0).setCell ⟨wo.heap.size, 1, none⟩ b1).setCell ⟨wo.heap.size, 2, none⟩ b2).setCell ⟨wo.heap.size, 3, none⟩ b3).alloc o).heap[w.heap.size]? = some o ∧ (((((w.setCell ⟨wo.heap.size, 0, none⟩ b0).setCell ⟨wo.heap.size, 1, none⟩ b1).setCell ⟨wo.heap.size, 2, none⟩ b2).setCell ⟨wo.heap.size, 3, none⟩ b3).alloc o).heap.size = w.heap.size + 1 := by
  have hs : ((((w.setCell ⟨wo.heap.size, 0, none⟩ b0).setCell ⟨wo.heap.size, 1, none⟩ b1).setCell ⟨wo.heap.size, 2, none⟩ b2).setCell ⟨wo.heap.size, 3, none⟩ b3).heap.size = w.heap.size := put4_size _ _ _ _
  refine ⟨(h.put4 _ _ _ _).below ((Below.refl _ _).alloc (Nat.le_refl _) _), fun b h1 h2 => heap_old (by omega) (put4_far _ _ _ _ h2), heap_at hs.symm, by simp [hs]⟩
theorem sl2 {w : World} {S : Nat → Prop} {g : Nat} {f f' : Fm} {a0 a1 a2 a3 b0 b1 b2 b3 : Value} (hb : w.heap[g]? = some (.cells #[a0, a1, a2, a3, b0, b1, b2, b3] 34 (0, 0))) (h : fmRep.R w S f [a0, a1, a2, a3]) (h' : fmRep.R w S f' [b0, b1, b2, b3]) (hg : S g) : fmRep.Sl w S (.slice (some ⟨g, 0, none⟩) 2 2) [f, f'] := by
  refine ⟨_, _, _, rfl, rfl, by decide, fun _ => ⟨g, 0, [a0, a1, a2, a3] ++ [b0, b1, b2, b3], rfl, hg, Rep.All.append (Rep.All.single h) (Rep.All.single h'), fun j u hj => ?_⟩⟩
  rw [Nat.zero_add]
  match j, hj with
  | 0, hj => exact (cellv hb 0 rfl).trans (by simpa using hj)
  | 1, hj => exact (cellv hb 1 rfl).trans (by simpa using hj)
  | 2, hj => exact (cellv hb 2 rfl).trans (by simpa using hj)
  | 3, hj => exact (cellv hb 3 rfl).trans (by simpa using hj)
  | 4, hj => exact (cellv hb 4 rfl).trans (by simpa using hj)
  | 5, hj => exact (cellv hb 5 rfl).trans (by simpa using hj)
  | 6, hj => exact (cellv hb 6 rfl).trans (by simpa using hj)
  | 7, hj => exact (cellv hb 7 rfl).trans (by simpa using hj)
  | n + 8, hj => simp at hj
theorem slS2 {w : World} {S : Nat → Prop} {g : Nat} {a b : ByteArray} {T : TypeId} (hb : w.heap[g]? = some (.cells #[.string a, .string b] T (0, 0))) (h1 : a.size ≤ maxLen) (h2 : b.size ≤ maxLen) (hg : S g) : strRep.Sl w S (.slice (some ⟨g, 0, none⟩) 2 2) [a, b] := by
  refine ⟨_, _, _, rfl, rfl, by decide, fun _ => ⟨g, 0, [.string a, .string b], rfl, hg, ⟨[.string a], [.string b], rfl, ⟨rfl, h1⟩, Rep.All.single ⟨rfl, h2⟩⟩, fun j u hj => ?_⟩⟩
  rw [Nat.zero_add]
  match j, hj with
  | 0, hj => exact (cellv hb 0 rfl).trans (by simpa using hj)
  | 1, hj => exact (cellv hb 1 rfl).trans (by simpa using hj)
  | n + 2, hj => simp at hj
noncomputable def c_pr_r12 : Code := sub [1, 1, 0, 1, 1, 0, 1, 1, 0, 1, 0, 0, 1, 0, 1, 1, 1, 1, 0] (Tryd.f31.body.getD .skip)
set_option maxRecDepth 1000000 in
set_option maxHeartbeats 16000000 in
theorem pr_r12_wp {Q : Exit → Act → World → Prop} {fr : Nat} {a y : ByteArray} {x : ByteArray} {r i c j n d : Nat} {wo w : World} (ha : a.size ≤ maxLen) (hy : y.size ≤ maxLen) (hp : FS n wo w r x i c j) (hN : ∀ gg a' w', Frm 173 [(4, .pointer (some ⟨wo.heap.size, 0, none⟩))] a' → FD n wo w' r x i c j (.int .i64 3) (.string ⟨#[]⟩) (.slice (some ⟨gg, 0, none⟩) 2 2) (.slice none 0 0) → strRep.Sl w' (SN wo w') (.slice (some ⟨gg, 0, none⟩) 2 2) [a, y] → Q .normal a' w') : ∀ ac, Frm 173 [(0, .pointer (some ⟨r, 0, none⟩)), (1, .int .i64 (d : Nat)), (4, .pointer (some ⟨wo.heap.size, 0, none⟩)), (6, .int .i64 (fr : Nat)), (7, .string a), (8, .string y)] ac → Code.wp Tryd.prog c_pr_r12 Q ac w := by
  refine frm_open ?_
  refine frame_pr ?_
  intros
  rename_i hq
  obtain ⟨-, -, e0q, e1q, e2q, e3q, e4q, e5q, -⟩ := hq
  have e0q := (Option.some.inj e0q).symm; subst e0q
  have e1q := (Option.some.inj e1q).symm; subst e1q
  have e2q := (Option.some.inj e2q).symm; subst e2q
  have e3q := (Option.some.inj e3q).symm; subst e3q
  have e4q := (Option.some.inj e4q).symm; subst e4q
  have e5q := (Option.some.inj e5q).symm; subst e5q
  conv => arg 2; whnf
  have HN := Lib.hid hN
  clear hN
  have z0 := cellv hp.res 0 rfl
  have z1 := cellv hp.res 1 rfl
  have z2 := cellv hp.res 2 rfl
  have z3 := cellv hp.res 3 rfl
  have zf0 := free_heap hp.res 0
  have zf1 := free_heap hp.res 1
  have zf2 := free_heap hp.res 2
  have zf3 := free_heap hp.res 3
  have zl := lt_heap hp.res
  have r1 := cellv hp.rd 1 rfl
  have r0 := cellv hp.rd 0 rfl
  have d1 := free_heap hp.rd 1
  have rl := lt_heap hp.rd
  have HP := Lib.hid hp
  clear hp
  go_wp2_with fail
  have hpa := HP.out.put_alloc (.int .i64 3) (.string ⟨#[]⟩) (.slice (some ⟨w.heap.size, 0, none⟩) 2 2) (.slice none 0 0) (.cells #[.string a, .string y] 9)
  have hwo := HP.out.rl
  refine HN.out w.heap.size _ _ (id ⟨rfl, rfl, rfl, trivial⟩) hpa.1 (slS2 hpa.2.2.1 ha hy ⟨by omega, by rw [hpa.2.2.2]; omega⟩)
noncomputable def c_pr_r17 : Code := sub [1, 1, 1, 0] (Tryd.f31.body.getD .skip)
set_option maxRecDepth 1000000 in
set_option maxHeartbeats 16000000 in
theorem pr_r17_wp {Q : Exit → Act → World → Prop} {x : ByteArray} {r i c j k n d : Nat} {wo w : World} {f : FRd} (hd : d ≤ 50) (hp : FS n wo w r x i c j) (hf : ∀ W, RdG n W r x i c j → Calls Tryd.prog 21 #[.pointer (some ⟨r, 0, none⟩), .int .i64 ((d : Int) + 1)] W (FormG x r i c j k f W)) (hN : ∀ i' c' j' n' ka na A1 m1 c1 A2 m2 c2 gg a' w', Frm 173 [(0, .pointer (some ⟨r, 0, none⟩)), (1, .int .i64 (d : Nat)), (4, .pointer (some ⟨wo.heap.size, 0, none⟩)), (9, .pointer (some ⟨gg, 0, none⟩))] a' → Keeps (· = r) w w' → FS n' wo w' r x i' c' j' → w'.heap[gg]? = some (.cells #[.int .i64 ka, .string na, .slice A1 m1 c1, .slice A2 m2 c2] 34 (0, 0)) → wo.heap.size < gg → (c ≠ 0 → i' = i ∧ c' = c ∧ j' = j) → (c = 0 → FEnd x k i' c' j' n' j (fun v => fmRep.R w' (SX wo w') v.fm [.int .i64 ka, .string na, .slice A1 m1 c1, .slice A2 m2 c2]) f) → Q .normal a' w') : ∀ ac, Frm 173 [(0, .pointer (some ⟨r, 0, none⟩)), (1, .int .i64 (d : Nat)), (4, .pointer (some ⟨wo.heap.size, 0, none⟩))] ac → Code.wp Tryd.prog c_pr_r17 Q ac w := by
  refine frm_open ?_
  refine frame_pr ?_
  intros
  rename_i hq
  obtain ⟨-, -, e0q, e1q, e2q, -⟩ := hq
  have e0q := (Option.some.inj e0q).symm; subst e0q
  have e1q := (Option.some.inj e1q).symm; subst e1q
  have e2q := (Option.some.inj e2q).symm; subst e2q
  conv => arg 2; whnf
  have HN := Lib.hid hN
  have HF := Lib.hid hf
  clear hN hf
  have r1 := cellv hp.rd 1 rfl
  have r0 := cellv hp.rd 0 rfl
  have d1 := free_heap hp.rd 1
  have rl := lt_heap hp.rd
  have HP := Lib.hid hp
  clear hp
  have hd4 : (d : Int) ≤ 100 := by omega
  go_wp2_with fail
  (with_reducible refine (HF.out _ HP.out.rd).mono ?_)
  rintro e w1 ⟨i', c', j', n', ka, na, A1, m1, c1, A2, m2, c2, rfl, hr1, hk1, he1, hf1⟩
  have hp1 := HP.out.keeps hk1 hr1
  have HP1 := Lib.hid hp1
  have HK1 := Lib.hid hk1
  have HE1 := Lib.hid he1
  have HF1 := Lib.hid hf1
  clear hp1 he1 hf1 hr1 hk1 r0 r1 d1 rl
  go_wp2_with fail
  have hsz := HK1.out.size
  have hwo := HP.out.rl
  refine HN.out i' c' j' n' ka na A1 m1 c1 A2 m2 c2 w1.heap.size _ _ (id ⟨rfl, rfl, rfl, rfl, rfl, rfl, trivial⟩) (HK1.out.alloc _) (HP1.out.below ((Below.refl _ _).alloc (Nat.le_refl _) _)) (heap_alloc_new w1 _) (by omega) HE1.out (fun h0 => (HF1.out h0).mono fun v hv => fmRep.keep hv (fun b hb => heap_old hb.2 rfl) (fun b hb => ⟨by have := hb.1; omega, by have := hb.2; simp; omega⟩))
noncomputable def c_pr_r25 : Code := sub [1, 1, 1, 1, 1, 1, 1, 1, 1, 0] (Tryd.f31.body.getD .skip)
set_option maxRecDepth 1000000 in
set_option maxHeartbeats 16000000 in
theorem pr_r25_wp {Q : Exit → Act → World → Prop} {g q : Nat} {x : ByteArray} {r i c j k n d : Nat} {wo w : World} {f : FRd} (hd : d ≤ 50) (hp : FS n wo w r x i c j) (hf : ∀ W, RdG n W r x i c j → Calls Tryd.prog 21 #[.pointer (some ⟨r, 0, none⟩), .int .i64 ((d : Int) + 1)] W (FormG x r i c j k f W)) (hN : ∀ i' c' j' n' ka na A1 m1 c1 A2 m2 c2 gg a' w', Frm 173 [(0, .pointer (some ⟨r, 0, none⟩)), (1, .int .i64 (d : Nat)), (4, .pointer (some ⟨wo.heap.size, 0, none⟩)), (9, .pointer (some ⟨g, 0, none⟩)), (10, .int .i64 (q : Nat)), (11, .pointer (some ⟨gg, 0, none⟩))] a' → Keeps (· = r) w w' → FS n' wo w' r x i' c' j' → w'.heap[gg]? = some (.cells #[.int .i64 ka, .string na, .slice A1 m1 c1, .slice A2 m2 c2] 34 (0, 0)) → wo.heap.size < gg → (c ≠ 0 → i' = i ∧ c' = c ∧ j' = j) → (c = 0 → FEnd x k i' c' j' n' j (fun v => fmRep.R w' (SX wo w') v.fm [.int .i64 ka, .string na, .slice A1 m1 c1, .slice A2 m2 c2]) f) → Q .normal a' w') : ∀ ac, Frm 173 [(0, .pointer (some ⟨r, 0, none⟩)), (1, .int .i64 (d : Nat)), (4, .pointer (some ⟨wo.heap.size, 0, none⟩)), (9, .pointer (some ⟨g, 0, none⟩)), (10, .int .i64 (q : Nat))] ac → Code.wp Tryd.prog c_pr_r25 Q ac w := by
  refine frm_open ?_
  refine frame_pr ?_
  intros
  rename_i hq
  obtain ⟨-, -, e0q, e1q, e2q, e3q, e4q, -⟩ := hq
  have e0q := (Option.some.inj e0q).symm; subst e0q
  have e1q := (Option.some.inj e1q).symm; subst e1q
  have e2q := (Option.some.inj e2q).symm; subst e2q
  have e3q := (Option.some.inj e3q).symm; subst e3q
  have e4q := (Option.some.inj e4q).symm; subst e4q
  conv => arg 2; whnf
  have HN := Lib.hid hN
  have HF := Lib.hid hf
  clear hN hf
  have r1 := cellv hp.rd 1 rfl
  have r0 := cellv hp.rd 0 rfl
  have d1 := free_heap hp.rd 1
  have rl := lt_heap hp.rd
  have HP := Lib.hid hp
  clear hp
  have hd4 : (d : Int) ≤ 100 := by omega
  go_wp2_with fail
  (with_reducible refine (HF.out _ HP.out.rd).mono ?_)
  rintro e w1 ⟨i', c', j', n', ka, na, A1, m1, c1, A2, m2, c2, rfl, hr1, hk1, he1, hf1⟩
  have hp1 := HP.out.keeps hk1 hr1
  have HP1 := Lib.hid hp1
  have HK1 := Lib.hid hk1
  have HE1 := Lib.hid he1
  have HF1 := Lib.hid hf1
  clear hp1 he1 hf1 hr1 hk1 r0 r1 d1 rl
  go_wp2_with fail
  have hsz := HK1.out.size
  have hwo := HP.out.rl
  refine HN.out i' c' j' n' ka na A1 m1 c1 A2 m2 c2 w1.heap.size _ _ (id ⟨rfl, rfl, rfl, rfl, rfl, rfl, rfl, rfl, trivial⟩) (HK1.out.alloc _) (HP1.out.below ((Below.refl _ _).alloc (Nat.le_refl _) _)) (heap_alloc_new w1 _) (by omega) HE1.out (fun h0 => (HF1.out h0).mono fun v hv => fmRep.keep hv (fun b hb => heap_old hb.2 rfl) (fun b hb => ⟨by have := hb.1; omega, by have := hb.2; simp; omega⟩))
noncomputable def c_pr_r27 : Code := sub [1, 1, 1, 1, 1, 1, 1, 1, 1, 1, 1, 0] (Tryd.f31.body.getD .skip)
set_option maxRecDepth 1000000 in
set_option maxHeartbeats 16000000 in
theorem pr_r27_wp {Q : Exit → Act → World → Prop} {g q g2 : Nat} {ka kb : Int} {na nb : ByteArray} {A1 A2 B1 B2 : Option Addr} {m1 c1 m2 c2 l1 e1 l2 e2 : Nat} {x : ByteArray} {r i c j n d : Nat} {wo w : World} (hp : FS n wo w r x i c j) (hg : w.heap[g]? = some (.cells #[.int .i64 ka, .string na, .slice A1 m1 c1, .slice A2 m2 c2] 34 (0, 0))) (hg2 : w.heap[g2]? = some (.cells #[.int .i64 kb, .string nb, .slice B1 l1 e1, .slice B2 l2 e2] 34 (0, 0))) (hN : ∀ gg a' w', Frm 173 [(4, .pointer (some ⟨wo.heap.size, 0, none⟩))] a' → FD n wo w' r x i c j (.int .i64 (q : Nat)) (.string ⟨#[]⟩) (.slice none 0 0) (.slice (some ⟨gg, 0, none⟩) 2 2) → (∀ f f' : Fm, fmRep.R w (SX wo w) f [.int .i64 ka, .string na, .slice A1 m1 c1, .slice A2 m2 c2] → fmRep.R w (SX wo w) f' [.int .i64 kb, .string nb, .slice B1 l1 e1, .slice B2 l2 e2] → fmRep.Sl w' (SN wo w') (.slice (some ⟨gg, 0, none⟩) 2 2) [f, f']) → Q .normal a' w') : ∀ ac, Frm 173 [(0, .pointer (some ⟨r, 0, none⟩)), (1, .int .i64 (d : Nat)), (4, .pointer (some ⟨wo.heap.size, 0, none⟩)), (9, .pointer (some ⟨g, 0, none⟩)), (10, .int .i64 (q : Nat)), (11, .pointer (some ⟨g2, 0, none⟩))] ac → Code.wp Tryd.prog c_pr_r27 Q ac w := by
  refine frm_open ?_
  refine frame_pr ?_
  intros
  rename_i hq
  obtain ⟨-, -, e0q, e1q, e2q, e3q, e4q, e5q, -⟩ := hq
  have e0q := (Option.some.inj e0q).symm; subst e0q
  have e1q := (Option.some.inj e1q).symm; subst e1q
  have e2q := (Option.some.inj e2q).symm; subst e2q
  have e3q := (Option.some.inj e3q).symm; subst e3q
  have e4q := (Option.some.inj e4q).symm; subst e4q
  have e5q := (Option.some.inj e5q).symm; subst e5q
  conv => arg 2; whnf
  have y0 := cellv hg 0 rfl
  have y1 := cellv hg 1 rfl
  have y2 := cellv hg 2 rfl
  have y3 := cellv hg 3 rfl
  have yl := lt_heap hg
  have u0 := cellv hg2 0 rfl
  have u1 := cellv hg2 1 rfl
  have u2 := cellv hg2 2 rfl
  have u3 := cellv hg2 3 rfl
  have ul := lt_heap hg2
  have HN := Lib.hid hN
  have HG := Lib.hid hg
  have HG2 := Lib.hid hg2
  clear hN hg hg2
  have z0 := cellv hp.res 0 rfl
  have z1 := cellv hp.res 1 rfl
  have z2 := cellv hp.res 2 rfl
  have z3 := cellv hp.res 3 rfl
  have zf0 := free_heap hp.res 0
  have zf1 := free_heap hp.res 1
  have zf2 := free_heap hp.res 2
  have zf3 := free_heap hp.res 3
  have zl := lt_heap hp.res
  have r1 := cellv hp.rd 1 rfl
  have r0 := cellv hp.rd 0 rfl
  have d1 := free_heap hp.rd 1
  have rl := lt_heap hp.rd
  have HP := Lib.hid hp
  clear hp
  go_wp2_with fail
  have hpa := HP.out.put_alloc (.int .i64 (q : Nat)) (.string ⟨#[]⟩) (.slice none 0 0) (.slice (some ⟨w.heap.size, 0, none⟩) 2 2) (.cells #[.int .i64 ka, .string na, .slice A1 m1 c1, .slice A2 m2 c2, .int .i64 kb, .string nb, .slice B1 l1 e1, .slice B2 l2 e2] 34)
  have hwo := HP.out.rl
  refine HN.out w.heap.size _ _ (id ⟨rfl, rfl, rfl, trivial⟩) hpa.1 (fun f f' h h' => sl2 hpa.2.2.1 (fmRep.keep h (fun b hb => hpa.2.1 b hb.2 (by have := hb.1; omega)) (fun b hb => ⟨by have := hb.1; omega, by rw [hpa.2.2.2]; have := hb.2; omega⟩)) (fmRep.keep h' (fun b hb => hpa.2.1 b hb.2 (by have := hb.1; omega)) (fun b hb => ⟨by have := hb.1; omega, by rw [hpa.2.2.2]; have := hb.2; omega⟩)) ⟨by omega, by rw [hpa.2.2.2]; omega⟩)
set_option maxRecDepth 1000000 in
theorem pr_ret_wp {R : Ending → World → Prop} {w' : World} {g : Nat} {ka : Int} {na : ByteArray} {A1 A2 : Option Addr} {m1 c1 m2 c2 : Nat} (hg : w'.heap[g]? = some (.cells #[.int .i64 ka, .string na, .slice A1 m1 c1, .slice A2 m2 c2] 34 (0, 0))) (hR : R (.returned (.agg #[.int .i64 ka, .string na, .slice A1 m1 c1, .slice A2 m2 c2])) w') : ∀ ac, Frm 173 [(4, .pointer (some ⟨g, 0, none⟩))] ac → bodyPost Tryd.prog Tryd.f31 R .ret ac w' := by
  refine frm_open ?_
  refine frame_pr ?_
  intros
  rename_i hq
  obtain ⟨-, -, e0q, -⟩ := hq
  have e0q := (Option.some.inj e0q).symm; subst e0q
  have z0 := cellv hg 0 rfl
  have z1 := cellv hg 1 rfl
  have z2 := cellv hg 2 rfl
  have z3 := cellv hg 3 rfl
  have zl := lt_heap hg
  refine bodyPost_ret (v := .agg #[.int .i64 ka, .string na, .slice A1 m1 c1, .slice A2 m2 c2]) (by simp [results, Tryd.results31, go_sem, z0, z1, z2, z3, zl]) rfl ?_
  exact hR


noncomputable def c_pr_p26 : Code := sub [1, 1, 1, 1, 1, 1, 1, 1, 1, 1] (Tryd.f31.body.getD .skip)
set_option maxRecDepth 100000 in
set_option maxHeartbeats 4000000 in
theorem pr_p26_wp {Q : Exit → Act → World → Prop} {x : ByteArray} {r i c j n d : Nat} {wo w : World} {g q g2 : Nat} {ka kb : Int} {na nb : ByteArray} {A1 A2 B1 B2 : Option Addr} {m1 c1 m2 c2 l1 e1 l2 e2 : Nat} (hx : x.size ≤ 4000) (hp : FS n wo w r x i c j) (hg : w.heap[g]? = some (.cells #[.int .i64 ka, .string na, .slice A1 m1 c1, .slice A2 m2 c2] 34 (0, 0))) (hg2 : w.heap[g2]? = some (.cells #[.int .i64 kb, .string nb, .slice B1 l1 e1, .slice B2 l2 e2] 34 (0, 0))) (hgo : wo.heap.size < g) (hgo2 : wo.heap.size < g2)
    (hK : ∀ gg a' w', Frm 173 [(4, .pointer (some ⟨wo.heap.size, 0, none⟩))] a' → FD n wo w' r x (takeI x i c 41) (takeC x i c 41) (takeJ x i c j 41) (.int .i64 (q : Nat)) (.string ⟨#[]⟩) (.slice none 0 0) (.slice (some ⟨gg, 0, none⟩) 2 2) → (∀ f f' : Fm, fmRep.R w (SX wo w) f [.int .i64 ka, .string na, .slice A1 m1 c1, .slice A2 m2 c2] → fmRep.R w (SX wo w) f' [.int .i64 kb, .string nb, .slice B1 l1 e1, .slice B2 l2 e2] → fmRep.Sl w' (SN wo w') (.slice (some ⟨gg, 0, none⟩) 2 2) [f, f']) → Q .ret a' w') : ∀ ac, Frm 173 [(0, .pointer (some ⟨r, 0, none⟩)), (1, .int .i64 (d : Nat)), (4, .pointer (some ⟨wo.heap.size, 0, none⟩)), (9, .pointer (some ⟨g, 0, none⟩)), (10, .int .i64 (q : Nat)), (11, .pointer (some ⟨g2, 0, none⟩))] ac → Code.wp Tryd.prog c_pr_p26 Q ac w := by
  intro a0 hf0
  conv => arg 2; whnf
  have hro := hp.ro
  have hl1 := lt_heap hg
  have hl2 := lt_heap hg2
  refine wp_seq ?_
  refine pr_r26_wp hx hp (fun a1 w1 h1 hk1 hp1 => ?_) a0 hf0
  have hz := hk1.size
  refine wp_seq ?_
  refine pr_r27_wp hp1 ((hk1.block g hl1 (by omega)).trans hg) ((hk1.block g2 hl2 (by omega)).trans hg2) (fun gg a2 w2 h2 hd2 hsl => ?_) a1 h1
  refine wp_ret ?_
  refine hK gg a2 w2 h2 hd2 (fun f f' h h' => hsl f f' (fmRep.keep h (fun b hb => hk1.block b hb.2 (by have := hb.1; omega)) (fun b hb => ⟨hb.1, by have := hb.2; omega⟩)) (fmRep.keep h' (fun b hb => hk1.block b hb.2 (by have := hb.1; omega)) (fun b hb => ⟨hb.1, by have := hb.2; omega⟩)))
theorem take_err {x : ByteArray} {i c j b : Nat} (hc : c ≠ 0) : takeI x i c b = i ∧ takeC x i c b = c ∧ takeJ x i c j b = j := by
  unfold takeI takeC takeJ
  rw [if_neg (fun h => hc h.1), if_neg hc, if_neg (fun h => hc h.1)]
  exact ⟨rfl, rfl, rfl⟩
theorem take_yes {x : ByteArray} {i j b : Nat} (h : byteAt x i = b) : takeI x i 0 b = i + 1 ∧ takeC x i 0 b = 0 ∧ takeJ x i 0 j b = j := by
  unfold takeI takeC takeJ
  rw [if_pos ⟨rfl, h⟩, if_pos rfl, if_pos h, if_neg (fun h2 => h2.2 h)]
  exact ⟨rfl, rfl, rfl⟩
theorem take_no {x : ByteArray} {i j b : Nat} (h : byteAt x i ≠ b) : takeI x i 0 b = i ∧ takeC x i 0 b = 11 ∧ takeJ x i 0 j b = i := by
  unfold takeI takeC takeJ
  rw [if_neg (fun h2 => h h2.2), if_pos rfl, if_neg h, if_pos ⟨rfl, h⟩]
  exact ⟨rfl, rfl, rfl⟩
noncomputable def c_pr_p25 : Code := sub [1, 1, 1, 1, 1, 1, 1, 1, 1] (Tryd.f31.body.getD .skip)
set_option maxRecDepth 100000 in
set_option maxHeartbeats 4000000 in
theorem pr_p25e_wp {Q : Exit → Act → World → Prop} {x : ByteArray} {r i c j n d : Nat} {wo w : World} {g q : Nat} {ka : Int} {na : ByteArray} {A1 A2 : Option Addr} {m1 c1 m2 c2 : Nat} (hx : x.size ≤ 4000) (hd : d ≤ 50) (hc : c ≠ 0) (hp : FS n wo w r x i c j) (hg : w.heap[g]? = some (.cells #[.int .i64 ka, .string na, .slice A1 m1 c1, .slice A2 m2 c2] 34 (0, 0))) (hgo : wo.heap.size < g)
    (hE : ∀ i' n' ka na A1 m1 c1 A2 m2 c2 a' w', Frm 173 [(4, .pointer (some ⟨wo.heap.size, 0, none⟩))] a' → FD n' wo w' r x i' c j (.int .i64 ka) (.string na) (.slice A1 m1 c1) (.slice A2 m2 c2) → i' = i → Q .ret a' w') : ∀ ac, Frm 173 [(0, .pointer (some ⟨r, 0, none⟩)), (1, .int .i64 (d : Nat)), (4, .pointer (some ⟨wo.heap.size, 0, none⟩)), (9, .pointer (some ⟨g, 0, none⟩)), (10, .int .i64 (q : Nat))] ac → Code.wp Tryd.prog c_pr_p25 Q ac w := by
  intro a0 hf0
  conv => arg 2; whnf
  have hro := hp.ro
  refine wp_seq ?_
  refine pr_r25_wp (k := 0) (f := .bad 0 0) hd hp (fun W hW => formR_err x r i c j n (d + 1) 0 _ W hc hW) (fun i' c' j' n' kb nb B1 l1 e1 B2 l2 e2 g2 a1 w1 h1 hk1 hp1 hg2 hgo2 hA _ => ?_) a0 hf0
  obtain ⟨rfl, rfl, rfl⟩ := hA hc
  refine pr_p26_wp hx hp1 ((hk1.block g (lt_heap hg) (by omega)).trans hg) hg2 hgo hgo2 (fun gg a2 w2 h2 hd2 _ => ?_) a1 h1
  obtain ⟨t1, t2, t3⟩ := take_err (x := x) (i := i') (j := j') (b := 41) hc
  rw [t1, t2, t3] at hd2
  exact hE _ _ _ _ _ _ _ _ _ _ _ _ h2 hd2 rfl
noncomputable def c_pr_p19 : Code := sub [1, 1, 1, 1, 1] (Tryd.f31.body.getD .skip)
set_option maxRecDepth 100000 in
set_option maxHeartbeats 4000000 in
theorem pr_p19e_wp {Q : Exit → Act → World → Prop} {x : ByteArray} {r i c j n d : Nat} {wo w : World} {g : Nat} {ka : Int} {na : ByteArray} {A1 A2 : Option Addr} {m1 c1 m2 c2 : Nat} (hx : x.size ≤ 4000) (hd : d ≤ 50) (hi : i ≤ 4500) (hc : c ≠ 0) (hp : FS n wo w r x i c j) (hg : w.heap[g]? = some (.cells #[.int .i64 ka, .string na, .slice A1 m1 c1, .slice A2 m2 c2] 34 (0, 0))) (hgo : wo.heap.size < g)
    (hE : ∀ i' n' ka na A1 m1 c1 A2 m2 c2 a' w', Frm 173 [(4, .pointer (some ⟨wo.heap.size, 0, none⟩))] a' → FD n' wo w' r x i' c j (.int .i64 ka) (.string na) (.slice A1 m1 c1) (.slice A2 m2 c2) → i' ≤ i + 1 → Q .ret a' w') : ∀ ac, Frm 173 [(0, .pointer (some ⟨r, 0, none⟩)), (1, .int .i64 (d : Nat)), (4, .pointer (some ⟨wo.heap.size, 0, none⟩)), (9, .pointer (some ⟨g, 0, none⟩))] ac → Code.wp Tryd.prog c_pr_p19 Q ac w := by
  intro a0 hf0
  conv => arg 2; whnf
  have hro := hp.ro
  refine wp_seq ?_
  refine pr_r19_wp hp.rd (fun a1 w1 h1 hb1 => ?_) a0 hf0
  have hp1 := hp.below hb1
  have hg1 := (hb1.block g (lt_heap hg)).trans hg
  refine wp_seq ?_
  refine wp_seq ?_
  refine pr_r20_wp (fun a2 h2 => ?_) a1 h1
  by_cases hq : signF (byteAt x i) = 0
  · refine wp_cond_true ((h2.eval (k := 136) (v := .bool (decide (signF (byteAt x i) = 0))) (by simp)).trans (by rw [decide_eq_true hq])) ?_
    refine wp_seq ?_
    refine Code.wp_mono (Q := Exit.then (fun a' w' => Frm 173 [(0, .pointer (some ⟨r, 0, none⟩)), (1, .int .i64 (d : Nat)), (4, .pointer (some ⟨wo.heap.size, 0, none⟩))] a' ∧ FS n wo w' r x i c j) (fun _ _ _ => False)) ?_ (pr_r21_wp (by omega) hp1 (fun a5 w5 h5 hk5 hp5 => ⟨h5, by rwa [if_neg hc, if_neg hc] at hp5⟩) a2 ⟨h2.1, h2.2.1, h2.2.2.1, h2.2.2.2.1, h2.2.2.2.2.1, h2.2.2.2.2.2.1, h2.2.2.2.2.2.2.1, trivial⟩)
    intro e a3 w3 h
    cases e with
    | normal =>
      obtain ⟨h3, hp3⟩ := h
      refine wp_seq ?_
      refine pr_r22_wp hp3 (fun a4 w4 h4 hd4 => ?_) a3 h3
      refine wp_ret ?_
      exact hE _ _ _ _ _ _ _ _ _ _ _ _ h4 hd4 (by omega)
    | _ => exact h.elim
  · refine wp_cond_false ((h2.eval (k := 136) (v := .bool (decide (signF (byteAt x i) = 0))) (by simp)).trans (by rw [decide_eq_false hq])) ?_
    refine wp_skip ?_
    show Code.wp _ _ _ a2 w1
    refine wp_seq ?_
    refine pr_r23_wp (by omega) hp1 (fun a3 w3 h3 hk3 hp3 => ?_) a2 ⟨h2.1, h2.2.1, h2.2.2.1, h2.2.2.2.1, h2.2.2.2.2.1, h2.2.2.2.2.2.1, h2.2.2.2.2.2.2.1, trivial⟩
    refine wp_seq ?_
    refine pr_r24_wp hx hp3 (fun a4 w4 h4 hk4 hp4 => ?_) a3 h3
    obtain ⟨t1, t2, t3⟩ := take_err (x := x) (i := i + 1) (j := j) (b := 32) hc
    rw [t1, t2, t3] at hp4
    have hk := hk3.trans hk4
    exact pr_p25e_wp hx hd hc hp4 ((hk.block g (lt_heap hg1) (by omega)).trans hg1) hgo (fun i' n' ka na A1 m1 c1 A2 m2 c2 a' w' h hd' hi' => hE i' n' ka na A1 m1 c1 A2 m2 c2 a' w' h hd' (by omega)) a4 h4
noncomputable def c_pr_tail : Code := sub [1, 1, 1] (Tryd.f31.body.getD .skip)
set_option maxRecDepth 100000 in
set_option maxHeartbeats 4000000 in
theorem pr_tail_wp {Q : Exit → Act → World → Prop} {x : ByteArray} {r i j n d k : Nat} {wo w : World} (hx : x.size ≤ 4000) (hd : d ≤ 50) (hk50 : k ≤ 50) (hi : i ≤ x.size) (hn : n ≤ 200) (hp : FS n wo w r x i 0 j) (hform : ∀ i2 n2 W, i2 ≤ x.size → n2 ≤ 200 → RdG n2 W r x i2 0 j → Calls Tryd.prog 21 #[.pointer (some ⟨r, 0, none⟩), .int .i64 ((d : Int) + 1)] W (FormG x r i2 0 j (k + 1) (frd x k i2 n2) W)) 
    (hR : ∀ i' c' j' n' ka na A1 m1 c1 A2 m2 c2 a' w', Frm 173 [(4, .pointer (some ⟨wo.heap.size, 0, none⟩))] a' → FD n' wo w' r x i' c' j' (.int .i64 ka) (.string na) (.slice A1 m1 c1) (.slice A2 m2 c2) → FEnd x (k + 2) i' c' j' n' j (fun v => fmRep.R w' (SN wo w') v.fm [.int .i64 ka, .string na, .slice A1 m1 c1, .slice A2 m2 c2]) ((match frd x k i n with
    | .bad c j => .bad c j
    | .ok v j m =>
      if byteAt x j ≠ 32 then .bad 11 j
      else if signF (byteAt x (j + 1)) = 0 then .bad 11 (j + 1)
      else if byteAt x (j + 2) ≠ 32 then .bad 11 (j + 2)
      else match frd x k (j + 3) m with
        | .bad c j' => .bad c j'
        | .ok u j' m' => if byteAt x j' = 41 then .ok (.bin (signF (byteAt x (j + 1))) v u) (j' + 1) m' else .bad 11 j' : FRd)) → Q .ret a' w') : ∀ ac, Frm 173 [(0, .pointer (some ⟨r, 0, none⟩)), (1, .int .i64 (d : Nat)), (4, .pointer (some ⟨wo.heap.size, 0, none⟩))] ac → Code.wp Tryd.prog c_pr_tail Q ac w := by
  intro a0 hf0
  conv => arg 2; whnf
  have hro := hp.ro
  refine wp_seq ?_
  refine pr_r17_wp hd hp (fun W hW => hform i n W hi hn hW) (fun i1 c1' j1 n1 ka na A1 m1 c1 A2 m2 c2 g a1 w1 h1 hk1 hp1 hg hgo _ hF => ?_) a0 hf0
  have hF := hF rfl
  refine wp_seq ?_
  refine pr_r18_wp hx hp1 (fun a2 w2 h2 hk2 hp2 => ?_) a1 h1
  have hg2 := (hk2.block g (lt_heap hg) (by omega)).trans hg
  revert hR
  cases hfr : frd x k i n with
  | bad cc jj =>
    intro hR
    rw [hfr] at hF
    obtain ⟨rfl, hc, rfl, hle⟩ := hF
    obtain ⟨t1, t2, t3⟩ := take_err (x := x) (i := i1) (j := j1) (b := 32) hc
    rw [t1, t2, t3] at hp2
    refine pr_p19e_wp hx hd (by omega) hc hp2 hg2 hgo (fun i' n' ka na A1 m1 c1 A2 m2 c2 a' w' h hd' hi' => hR i' _ _ n' ka na A1 m1 c1 A2 m2 c2 a' w' h hd' ?_) a2 h2
    exact ⟨rfl, hc, rfl, by omega⟩
  | ok v m n2 =>
    intro hR
    rw [hfr] at hF
    obtain ⟨rfl, rfl, rfl, rfl, hm, hn2, hv⟩ := hF
    have hv2 : fmRep.R w2 (SX wo w2) v.fm [.int .i64 ka, .string na, .slice A1 m1 c1, .slice A2 m2 c2] := fmRep.keep hv (fun b hb => hk2.block b hb.2 (by have := hb.1; omega)) (fun b hb => ⟨hb.1, by have := hb.2; have := hk2.size; omega⟩)
    simp only at hR
    by_cases h32 : byteAt x i1 = 32
    case neg =>
      obtain ⟨t1, t2, t3⟩ := take_no (x := x) (i := i1) (j := j1) (b := 32) h32
      rw [t1, t2, t3] at hp2
      rw [if_pos h32] at hR
      refine pr_p19e_wp hx hd (by omega) (by decide) hp2 hg2 hgo (fun i' n' ka na A1 m1 c1 A2 m2 c2 a' w' h hd' hi' => hR i' _ _ n' ka na A1 m1 c1 A2 m2 c2 a' w' h hd' ?_) a2 h2
      exact ⟨rfl, by decide, rfl, by omega⟩
    obtain ⟨t1, t2, t3⟩ := take_yes (x := x) (i := i1) (j := j1) (b := 32) h32
    rw [t1, t2, t3] at hp2
    rw [if_neg (fun h => h h32)] at hR
    have hlt := byteAt_lt (x := x) (i := i1) (by omega)
    refine wp_seq ?_
    refine pr_r19_wp hp2.rd (fun a3 w3 h3 hb3 => ?_) a2 h2
    have hp3 := hp2.below hb3
    have hg3 := (hb3.block g (lt_heap hg2)).trans hg2
    have hv3 : fmRep.R w3 (SX wo w3) v.fm [.int .i64 ka, .string na, .slice A1 m1 c1, .slice A2 m2 c2] := fmRep.keep hv2 (fun b hb => hb3.block b hb.2) (fun b hb => ⟨hb.1, by have := hb.2; have := hb3.size; omega⟩)
    refine wp_seq ?_
    refine wp_seq ?_
    refine pr_r20_wp (fun a4 h4 => ?_) a3 h3
    by_cases hq : signF (byteAt x (i1 + 1)) = 0
    · refine wp_cond_true ((h4.eval (k := 136) (v := .bool (decide (signF (byteAt x (i1 + 1)) = 0))) (by simp)).trans (by rw [decide_eq_true hq])) ?_
      rw [if_pos hq] at hR
      refine wp_seq ?_
      refine Code.wp_mono (Q := Exit.then (fun a' w' => Frm 173 [(0, .pointer (some ⟨r, 0, none⟩)), (1, .int .i64 (d : Nat)), (4, .pointer (some ⟨wo.heap.size, 0, none⟩))] a' ∧ FS n1 wo w' r x (i1 + 1) 11 (i1 + 1)) (fun _ _ _ => False)) ?_ (pr_r21_wp (by omega) hp3 (fun a5 w5 h5 hk5 hp5 => ⟨h5, by rwa [if_pos rfl, if_pos rfl] at hp5⟩) a4 ⟨h4.1, h4.2.1, h4.2.2.1, h4.2.2.2.1, h4.2.2.2.2.1, h4.2.2.2.2.2.1, h4.2.2.2.2.2.2.1, trivial⟩)
      intro e a5 w5 h
      cases e with
      | normal =>
        obtain ⟨h5, hp5⟩ := h
        refine wp_seq ?_
        refine pr_r22_wp hp5 (fun a6 w6 h6 hd6 => ?_) a5 h5
        refine wp_ret ?_
        exact hR _ _ _ _ _ _ _ _ _ _ _ _ _ _ h6 hd6 ⟨rfl, by decide, rfl, by omega⟩
      | _ => exact h.elim
    refine wp_cond_false ((h4.eval (k := 136) (v := .bool (decide (signF (byteAt x (i1 + 1)) = 0))) (by simp)).trans (by rw [decide_eq_false hq])) ?_
    rw [if_neg hq] at hR
    refine wp_skip ?_
    show Code.wp _ _ _ a4 w3
    refine wp_seq ?_
    refine pr_r23_wp (by omega) hp3 (fun a5 w5 h5 hk5 hp5 => ?_) a4 ⟨h4.1, h4.2.1, h4.2.2.1, h4.2.2.2.1, h4.2.2.2.2.1, h4.2.2.2.2.2.1, h4.2.2.2.2.2.2.1, trivial⟩
    refine wp_seq ?_
    refine pr_r24_wp hx hp5 (fun a6 w6 h6 hk6 hp6 => ?_) a5 h5
    have hk56 := hk5.trans hk6
    have hg6 := (hk56.block g (lt_heap hg3) (by omega)).trans hg3
    have hv6 : fmRep.R w6 (SX wo w6) v.fm [.int .i64 ka, .string na, .slice A1 m1 c1, .slice A2 m2 c2] := fmRep.keep hv3 (fun b hb => hk56.block b hb.2 (by have := hb.1; omega)) (fun b hb => ⟨hb.1, by have := hb.2; have := hk56.size; omega⟩)
    have hb1 : byteAt x (i1 + 1) ≠ 0 := fun h => hq (by rw [h]; rfl)
    have hlt1 := byteAt_lt hb1
    by_cases h33 : byteAt x (i1 + 1 + 1) = 32
    case neg =>
      obtain ⟨t1, t2, t3⟩ := take_no (x := x) (i := i1 + 1 + 1) (j := j1) (b := 32) h33
      rw [t1, t2, t3] at hp6
      rw [if_pos (show byteAt x (i1 + 2) ≠ 32 from h33)] at hR
      refine pr_p25e_wp hx hd (by decide) hp6 hg6 hgo (fun i' n' ka na A1 m1 c1 A2 m2 c2 a' w' h hd' hi' => hR i' _ _ n' ka na A1 m1 c1 A2 m2 c2 a' w' h hd' ?_) a6 h6
      exact ⟨rfl, by decide, rfl, by omega⟩
    obtain ⟨t1, t2, t3⟩ := take_yes (x := x) (i := i1 + 1 + 1) (j := j1) (b := 32) h33
    rw [t1, t2, t3] at hp6
    rw [if_neg (show ¬ byteAt x (i1 + 2) ≠ 32 from fun h => h h33)] at hR
    have hlt2 := byteAt_lt (x := x) (i := i1 + 1 + 1) (by omega)
    refine wp_seq ?_
    refine pr_r25_wp hd hp6 (fun W hW => hform (i1 + 1 + 1 + 1) n1 W (by omega) hn2 hW) (fun i7 c7 j7 n7 kb nb B1 l1 e1 B2 l2 e2 g2 a7 w7 h7 hk7 hp7 hgg hgo2 _ hF => ?_) a6 h6
    have hF := hF rfl
    have hg7 := (hk7.block g (lt_heap hg6) (by omega)).trans hg6
    have hv7 : fmRep.R w7 (SX wo w7) v.fm [.int .i64 ka, .string na, .slice A1 m1 c1, .slice A2 m2 c2] := fmRep.keep hv6 (fun b hb => hk7.block b hb.2 (by have := hb.1; omega)) (fun b hb => ⟨hb.1, by have := hb.2; have := hk7.size; omega⟩)
    refine pr_p26_wp hx hp7 hg7 hgg hgo hgo2 (fun gg a8 w8 h8 hd8 hsl => ?_) a7 h7
    revert hR
    rw [show i1 + 3 = i1 + 1 + 1 + 1 from rfl]
    cases hfr2 : frd x k (i1 + 1 + 1 + 1) n1 with
    | bad cc jj =>
      intro hR
      rw [hfr2] at hF
      obtain ⟨rfl, hc, rfl, hle⟩ := hF
      obtain ⟨t1, t2, t3⟩ := take_err (x := x) (i := i7) (j := j7) (b := 41) hc
      rw [t1, t2, t3] at hd8
      exact hR _ _ _ _ _ _ _ _ _ _ _ _ _ _ h8 hd8 ⟨rfl, hc, rfl, by omega⟩
    | ok u m2 n3 =>
      intro hR
      rw [hfr2] at hF
      obtain ⟨rfl, rfl, rfl, rfl, hm2, hn3, hu⟩ := hF
      simp only at hR
      by_cases h41 : byteAt x i7 = 41
      · obtain ⟨t1, t2, t3⟩ := take_yes (x := x) (i := i7) (j := j7) (b := 41) h41
        rw [t1, t2, t3] at hd8
        rw [if_pos h41] at hR
        have hlt7 := byteAt_lt (x := x) (i := i7) (by omega)
        refine hR _ _ _ _ _ _ _ _ _ _ _ _ _ _ h8 hd8 ⟨rfl, rfl, rfl, rfl, by omega, hn3, ?_⟩
        exact Fm.shut (a := ⟨(signF (byteAt x (i1 + 1)) : Nat), ⟨#[]⟩, []⟩) (l := [v.fm, u.fm]) (show (⟨#[]⟩ : ByteArray).size ≤ maxLen by decide +kernel) Rep.Sl.nil (hsl _ _ hv7 hu)
      · obtain ⟨t1, t2, t3⟩ := take_no (x := x) (i := i7) (j := j7) (b := 41) h41
        rw [t1, t2, t3] at hd8
        rw [if_neg h41] at hR
        exact hR _ _ _ _ _ _ _ _ _ _ _ _ _ _ h8 hd8 ⟨rfl, by decide, rfl, by omega⟩


noncomputable def c_pr_same : Code := sub [1, 1, 0, 1, 1, 0, 1, 1, 0, 1, 0, 0, 1, 0] (Tryd.f31.body.getD .skip)
noncomputable def c_pr_s11 : Code := sub [1, 1, 0, 1, 1, 0, 1, 1, 0, 1, 0, 0, 1, 0, 1, 1, 1] (Tryd.f31.body.getD .skip)
set_option maxRecDepth 100000 in
set_option maxHeartbeats 4000000 in
theorem pr_same_wp {Q : Exit → Act → World → Prop} {x : ByteArray} {r i j n d k : Nat} {wo w : World} (hx : x.size ≤ 4000) (hi : i ≤ x.size) (hn : n ≤ 200) (h61 : byteAt x (nameE x i + 1) = 61) (hp : FS n wo w r x (nameE x i) 0 j)
    (hR : ∀ i' c' j' n' ka na A1 m1 c1 A2 m2 c2 a' w', Frm 173 [(4, .pointer (some ⟨wo.heap.size, 0, none⟩))] a' → FD n' wo w' r x i' c' j' (.int .i64 ka) (.string na) (.slice A1 m1 c1) (.slice A2 m2 c2) → FEnd x (k + 2) i' c' j' n' j (fun v => fmRep.R w' (SN wo w') v.fm [.int .i64 ka, .string na, .slice A1 m1 c1, .slice A2 m2 c2]) ((if byteAt x (nameE x i + 2) ≠ 32 then .bad 11 (nameE x i + 2)
    else if nameE x (nameE x i + 3) = nameE x i + 3 ∨ byteAt x (nameE x (nameE x i + 3)) ≠ 41 then .bad 11 (nameE x (nameE x i + 3))
    else .ok (.same (x.extract i (nameE x i)) (x.extract (nameE x i + 3) (nameE x (nameE x i + 3)))) (nameE x (nameE x i + 3) + 1) n : FRd)) → Q .ret a' w') : ∀ ac, Frm 173 [(0, .pointer (some ⟨r, 0, none⟩)), (1, .int .i64 (d : Nat)), (4, .pointer (some ⟨wo.heap.size, 0, none⟩)), (6, .int .i64 (i : Nat)), (7, .string (x.extract i (nameE x i)))] ac → Code.wp Tryd.prog c_pr_same Q ac w := by
  intro a0 hf0
  conv => arg 2; whnf
  have htop := nameE_top hi
  have hl1 := byteAt_lt (x := x) (i := nameE x i + 1) (by omega)
  refine wp_seq ?_
  refine pr_r8_wp (by omega) hp (fun a1 w1 h1 hk1 hp1 => ?_) a0 hf0
  refine wp_seq ?_
  refine pr_r9_wp hx hp1 (fun a2 w2 h2 hk2 hp2 => ?_) a1 h1
  have fin : ∀ (i5 c5 j5 i6 c6 j6 : Nat) (y : ByteArray) (a5 : Act) (w5 : World), y.size ≤ maxLen → takeI x i5 c5 41 = i6 ∧ takeC x i5 c5 41 = c6 ∧ takeJ x i5 c5 j5 41 = j6 → Frm 173 [(0, .pointer (some ⟨r, 0, none⟩)), (1, .int .i64 (d : Nat)), (4, .pointer (some ⟨wo.heap.size, 0, none⟩)), (6, .int .i64 (i : Nat)), (7, .string (x.extract i (nameE x i))), (8, .string y)] a5 → FS n wo w5 r x i5 c5 j5 → (∀ P : Fv → Prop, P (.same (x.extract i (nameE x i)) y) → FEnd x (k + 2) i6 c6 j6 n j P (if byteAt x (nameE x i + 2) ≠ 32 then .bad 11 (nameE x i + 2)
    else if nameE x (nameE x i + 3) = nameE x i + 3 ∨ byteAt x (nameE x (nameE x i + 3)) ≠ 41 then .bad 11 (nameE x (nameE x i + 3))
    else .ok (.same (x.extract i (nameE x i)) (x.extract (nameE x i + 3) (nameE x (nameE x i + 3)))) (nameE x (nameE x i + 3) + 1) n : FRd)) → Code.wp Tryd.prog c_pr_s11 Q a5 w5 := by
    intro i5 c5 j5 i6 c6 j6 y a5 w5 hy ht h5 hp5 hE
    conv => arg 2; whnf
    refine wp_seq ?_
    refine pr_r11_wp hx hp5 (fun a6 w6 h6 hk6 hp6 => ?_) a5 h5
    rw [ht.1, ht.2.1, ht.2.2] at hp6
    refine wp_seq ?_
    refine pr_r12_wp (ext_le2 x _ _ hx) hy hp6 (fun gg a7 w7 h7 hd7 hsl => ?_) a6 h6
    refine wp_ret ?_
    exact hR _ _ _ _ _ _ _ _ _ _ _ _ _ _ h7 hd7 (hE _ (Fm.shut (a := ⟨3, ⟨#[]⟩, [x.extract i (nameE x i), y]⟩) (l := []) (show (⟨#[]⟩ : ByteArray).size ≤ maxLen by decide +kernel) hsl Rep.Sl.nil))
  refine wp_seq ?_
  by_cases h32 : byteAt x (nameE x i + 2) = 32
  case neg =>
    obtain ⟨t1, t2, t3⟩ := take_no (x := x) (i := nameE x i + 2) (j := j) (b := 32) h32
    rw [t1, t2, t3] at hp2
    refine pr_r10e_wp (by decide) hp2 (fun a3 h3 => ?_) a2 h2
    refine fin _ 11 _ _ _ _ ⟨#[]⟩ a3 w2 (by decide +kernel) (take_err (by decide)) h3 hp2 (fun P _ => ?_)
    rw [if_pos h32]
    exact ⟨rfl, by decide, rfl, by omega⟩
  obtain ⟨t1, t2, t3⟩ := take_yes (x := x) (i := nameE x i + 2) (j := j) (b := 32) h32
  rw [t1, t2, t3] at hp2
  have hl2 := byteAt_lt (x := x) (i := nameE x i + 2) (by omega)
  have htop2 := nameE_top (x := x) (i := nameE x i + 2 + 1) (by omega)
  refine pr_r10_wp hx (by omega) hp2 (fun a3 w3 h3 hk3 hA hB => ?_) a2 h2
  by_cases hne : nameE x (nameE x i + 3) = nameE x i + 3
  · refine fin _ 11 _ _ _ _ _ a3 w3 (ext_le2 x _ _ hx) (take_err (by decide)) h3 (hA hne) (fun P _ => ?_)
    rw [if_neg (fun h => h h32), if_pos (Or.inl hne), hne]
    exact ⟨rfl, by decide, rfl, by omega⟩
  · by_cases h41 : byteAt x (nameE x (nameE x i + 3)) = 41
    · have hl3 := byteAt_lt (x := x) (i := nameE x (nameE x i + 3)) (by omega)
      refine fin _ 0 _ _ _ _ _ a3 w3 (ext_le2 x _ _ hx) (take_yes h41) h3 (hB hne) (fun P hP => ?_)
      rw [if_neg (fun h => h h32), if_neg (fun h => by rcases h with h | h; exact hne h; exact h h41)]
      exact ⟨rfl, rfl, rfl, rfl, by omega, hn, hP⟩
    · refine fin _ 0 _ _ _ _ _ a3 w3 (ext_le2 x _ _ hx) (take_no h41) h3 (hB hne) (fun P _ => ?_)
      rw [if_neg (fun h => h h32), if_pos (Or.inr h41)]
      exact ⟨rfl, by decide, rfl, by have h9 : nameE x (nameE x i + 3) ≤ x.size := htop2; omega⟩
noncomputable def c_pr_word : Code := sub [1, 1, 0, 1, 1, 0] (Tryd.f31.body.getD .skip)
noncomputable def c_pr_w16 : Code := sub [1, 1, 0, 1, 1, 0, 1, 1, 1] (Tryd.f31.body.getD .skip)
set_option maxRecDepth 100000 in
set_option maxHeartbeats 4000000 in
theorem pr_word_wp {Q : Exit → Act → World → Prop} {x : ByteArray} {r i j n d k : Nat} {wo w : World} (hx : x.size ≤ 4000) (hi : i ≤ x.size) (hn : n ≤ 200) (hlow : 97 ≤ byteAt x i ∧ byteAt x i ≤ 122) (hp : FS n wo w r x i 0 j)
    (hN : ∀ a' w', sameF x i n = none → Frm 173 [(0, .pointer (some ⟨r, 0, none⟩)), (1, .int .i64 (d : Nat)), (4, .pointer (some ⟨wo.heap.size, 0, none⟩))] a' → FS n wo w' r x i 0 j → Q .normal a' w') (hR : sameF x i n ≠ none → ∀ i' c' j' n' ka na A1 m1 c1 A2 m2 c2 a' w', Frm 173 [(4, .pointer (some ⟨wo.heap.size, 0, none⟩))] a' → FD n' wo w' r x i' c' j' (.int .i64 ka) (.string na) (.slice A1 m1 c1) (.slice A2 m2 c2) → FEnd x (k + 2) i' c' j' n' j (fun v => fmRep.R w' (SN wo w') v.fm [.int .i64 ka, .string na, .slice A1 m1 c1, .slice A2 m2 c2]) (match sameF x i n with | some r => r | none => .bad 0 0) → Q .ret a' w') : ∀ ac, Frm 173 [(0, .pointer (some ⟨r, 0, none⟩)), (1, .int .i64 (d : Nat)), (4, .pointer (some ⟨wo.heap.size, 0, none⟩))] ac → Code.wp Tryd.prog c_pr_word Q ac w := by
  intro a0 hf0
  conv => arg 2; whnf
  have htop := nameE_top hi
  have hpos := nameE_pos hlow
  refine wp_seq ?_
  refine pr_r4_wp hp (fun a1 h1 => ?_) a0 hf0
  refine wp_seq ?_
  refine pr_r5_wp hx hi hp (fun a2 w2 h2 hk2 _ hp2 => ?_) a1 h1
  have hp2 := hp2 (by omega)
  have fin : ∀ (a5 : Act) (w5 : World), sameF x i n = none → Frm 173 [(0, .pointer (some ⟨r, 0, none⟩)), (1, .int .i64 (d : Nat)), (4, .pointer (some ⟨wo.heap.size, 0, none⟩)), (6, .int .i64 (i : Nat))] a5 → FS n wo w5 r x (nameE x i) 0 j → Code.wp Tryd.prog c_pr_w16 Q a5 w5 := by
    intro a5 w5 hs h5 hp5
    conv => arg 2; whnf
    exact pr_r16_wp hp5 (fun a6 w6 h6 hk6 hp6 => hN a6 w6 hs h6 hp6) a5 h5
  refine wp_seq ?_
  refine wp_seq ?_
  refine pr_r6_wp hp2 (fun a3 w3 h3 hk3 hp3 => ?_) a2 h2
  by_cases h32 : byteAt x (nameE x i) = 32
  case neg =>
    refine wp_cond_false ((h3.eval (k := 42) (v := .bool (decide (byteAt x (nameE x i) = 32))) (by simp)).trans (by rw [decide_eq_false h32])) ?_
    refine wp_skip ?_
    exact fin a3 w3 (by unfold sameF; rw [if_pos (Or.inr h32)]) ⟨h3.1, h3.2.1, h3.2.2.1, h3.2.2.2.1, h3.2.2.2.2.1, h3.2.2.2.2.2.1, trivial⟩ hp3
  refine wp_cond_true ((h3.eval (k := 42) (v := .bool (decide (byteAt x (nameE x i) = 32))) (by simp)).trans (by rw [decide_eq_true h32])) ?_
  refine wp_seq ?_
  refine wp_seq ?_
  refine pr_r7_wp (by omega) hx hp3 (fun a4 w4 h4 hk4 hp4 => ?_) a3 ⟨h3.1, h3.2.1, h3.2.2.1, h3.2.2.2.1, h3.2.2.2.2.1, h3.2.2.2.2.2.1, h3.2.2.2.2.2.2.1, trivial⟩
  by_cases h61 : byteAt x (nameE x i + 1) = 61
  · refine wp_cond_true ((h4.eval (k := 70) (v := .bool (decide (byteAt x (nameE x i + 1) = 61))) (by simp)).trans (by rw [decide_eq_true h61])) ?_
    have hs : sameF x i n = some (if byteAt x (nameE x i + 2) ≠ 32 then .bad 11 (nameE x i + 2)
    else if nameE x (nameE x i + 3) = nameE x i + 3 ∨ byteAt x (nameE x (nameE x i + 3)) ≠ 41 then .bad 11 (nameE x (nameE x i + 3))
    else .ok (.same (x.extract i (nameE x i)) (x.extract (nameE x i + 3) (nameE x (nameE x i + 3)))) (nameE x (nameE x i + 3) + 1) n : FRd) := by
      unfold sameF
      rw [if_neg (by rintro (h | h); omega; exact h h32), if_pos h61]
    rw [hs] at hR
    refine pr_same_wp (k := k) hx hi hn h61 hp4 ?_ a4 ⟨h4.1, h4.2.1, h4.2.2.1, h4.2.2.2.1, h4.2.2.2.2.1, h4.2.2.2.2.2.1, h4.2.2.2.2.2.2.1, trivial⟩
    exact hR (fun h => by cases h)
  refine wp_cond_false ((h4.eval (k := 70) (v := .bool (decide (byteAt x (nameE x i + 1) = 61))) (by simp)).trans (by rw [decide_eq_false h61])) ?_
  refine wp_skip ?_
  show Code.wp _ _ _ a4 w4
  refine wp_seq ?_
  refine pr_r13_wp (fun a5 h5 => ?_) a4 ⟨h4.1, h4.2.1, h4.2.2.1, h4.2.2.2.1, h4.2.2.2.2.1, h4.2.2.2.2.2.1, h4.2.2.2.2.2.2.1, trivial⟩
  by_cases hk : isKey (x.extract i (nameE x i))
  case neg =>
    refine wp_cond_true ((h5.eval (k := 103) (v := .bool (decide (¬ isKey (x.extract i (nameE x i))))) (by simp)).trans (by rw [decide_eq_true hk])) ?_
    have hs : sameF x i n = some (.bad 11 (nameE x i + 1)) := by
      unfold sameF
      rw [if_neg (by rintro (h | h); omega; exact h h32), if_neg h61, if_neg hk]
    rw [hs] at hR
    refine wp_seq ?_
    refine Code.wp_mono (Q := Exit.then (fun a' w' => Frm 173 [(0, .pointer (some ⟨r, 0, none⟩)), (1, .int .i64 (d : Nat)), (4, .pointer (some ⟨wo.heap.size, 0, none⟩))] a' ∧ FS n wo w' r x (nameE x i) 11 (nameE x i + 1)) (fun _ _ _ => False)) ?_ (pr_r14_wp (by omega) hp4 (fun a6 w6 h6 hk6 hp6 => ⟨h6, by rwa [if_pos rfl, if_pos rfl] at hp6⟩) a5 ⟨h5.1, h5.2.1, h5.2.2.1, h5.2.2.2.1, h5.2.2.2.2.1, h5.2.2.2.2.2.1, h5.2.2.2.2.2.2.1, trivial⟩)
    intro e a6 w6 h
    cases e with
    | normal =>
      obtain ⟨h6, hp6⟩ := h
      refine wp_seq ?_
      refine pr_r15_wp hp6 (fun a7 w7 h7 hd7 => ?_) a6 h6
      refine wp_ret ?_
      exact hR (fun h => by cases h) _ _ _ _ _ _ _ _ _ _ _ _ _ _ h7 hd7 ⟨rfl, by decide, rfl, by omega⟩
    | _ => exact h.elim
  refine wp_cond_false ((h5.eval (k := 103) (v := .bool (decide (¬ isKey (x.extract i (nameE x i))))) (by simp)).trans (by rw [decide_eq_false (fun h => h hk)])) ?_
  refine wp_skip ?_
  exact fin a5 w4 (by unfold sameF; rw [if_neg (by rintro (h | h); omega; exact h h32), if_neg h61, if_pos hk]) ⟨h5.1, h5.2.1, h5.2.2.1, h5.2.2.2.1, h5.2.2.2.2.1, h5.2.2.2.2.2.1, trivial⟩ hp4
set_option maxRecDepth 100000 in
set_option maxHeartbeats 4000000 in
theorem pairR_step (x : ByteArray) (r i j n d k : Nat) (w : World) (hx : x.size ≤ 4000) (hd : d ≤ 50) (hk50 : k ≤ 50) (hi : byteAt x i = 40) (hn : n ≤ 200) (hr : RdG n w r x i 0 j)
    (hform : ∀ i2 n2 W, i2 ≤ x.size → n2 ≤ 200 → RdG n2 W r x i2 0 j → Calls Tryd.prog 21 #[.pointer (some ⟨r, 0, none⟩), .int .i64 ((d : Int) + 1)] W (FormG x r i2 0 j (k + 1) (frd x k i2 n2) W)) : Calls Tryd.prog 31 #[.pointer (some ⟨r, 0, none⟩), .int .i64 (d : Int)] w (FormG x r i 0 j (k + 2) (pairF x k i n) w) := by
  have hlt := byteAt_lt (x := x) (i := i) (by omega)
  go_enter Tryd.func31, Tryd.ntmps31
  have hRR : ∀ i' c' j' n' ka na A1 m1 c1 A2 m2 c2 a' w', Frm 173 [(4, .pointer (some ⟨w.heap.size, 0, none⟩))] a' → FD n' w w' r x i' c' j' (.int .i64 ka) (.string na) (.slice A1 m1 c1) (.slice A2 m2 c2) → FEnd x (k + 2) i' c' j' n' j (fun v => fmRep.R w' (SN w w') v.fm [.int .i64 ka, .string na, .slice A1 m1 c1, .slice A2 m2 c2]) (pairF x k i n) → bodyPost Tryd.prog Tryd.f31 (FormG x r i 0 j (k + 2) (pairF x k i n) w) .ret a' w' := fun i' c' j' n' ka na A1 m1 c1 A2 m2 c2 a' w' h hd' he => pr_ret_wp hd'.res ⟨i', c', j', n', ka, na, A1, m1, c1, A2, m2, c2, rfl, hd'.rd, hd'.kp, fun h => absurd rfl h, fun _ => he⟩ a' h
  refine wp_seq ?_
  refine pr_r0_wp hr (fun a1 w1 h1 hp1 => ?_) _ (id ⟨rfl, rfl, rfl, rfl, trivial⟩)
  refine wp_seq ?_
  refine pr_r1_wp (by omega) hp1 (fun a2 w2 h2 hk2 hp2 => ?_) a1 h1
  have fin : ∀ (a5 : Act) (w5 : World), sameF x (i + 1) n = none → Frm 173 [(0, .pointer (some ⟨r, 0, none⟩)), (1, .int .i64 (d : Nat)), (4, .pointer (some ⟨w.heap.size, 0, none⟩))] a5 → FS n w w5 r x (i + 1) 0 j → Code.wp Tryd.prog c_pr_tail (bodyPost Tryd.prog Tryd.f31 (FormG x r i 0 j (k + 2) (pairF x k i n) w)) a5 w5 := by
    intro a5 w5 hs h5 hp5
    unfold pairF at hRR ⊢
    rw [hs] at hRR ⊢
    exact pr_tail_wp hx hd hk50 (by omega) hn hp5 hform hRR a5 h5
  refine wp_seq ?_
  refine wp_seq ?_
  refine pr_r2_wp hp2 (fun a3 w3 h3 hk3 hp3 => ?_) a2 h2
  refine wp_seq ?_
  refine pr_r3_wp (fun a4 h4 => ?_) a3 h3
  by_cases hl : 97 ≤ byteAt x (i + 1) ∧ byteAt x (i + 1) ≤ 122
  · refine wp_cond_true ((h4.eval (k := 30) (v := .bool (decide (97 ≤ byteAt x (i + 1) ∧ byteAt x (i + 1) ≤ 122))) (by simp)).trans (by rw [decide_eq_true hl])) ?_
    refine pr_word_wp (k := k) hx (by omega) hn hl hp3 (fun a5 w5 hs h5 hp5 => ?_) (fun hs => ?_) a4 ⟨h4.1, h4.2.1, h4.2.2.1, h4.2.2.2.1, h4.2.2.2.2.1, trivial⟩
    · exact fin a5 w5 hs h5 hp5
    · cases hs2 : sameF x (i + 1) n with
      | none => exact absurd hs2 hs
      | some q =>
        unfold pairF at hRR ⊢
        rw [hs2] at hRR ⊢
        exact hRR
  · refine wp_cond_false ((h4.eval (k := 30) (v := .bool (decide (97 ≤ byteAt x (i + 1) ∧ byteAt x (i + 1) ≤ 122))) (by simp)).trans (by rw [decide_eq_false hl])) ?_
    refine wp_skip ?_
    exact fin a4 w3 (by unfold sameF; rw [if_pos (Or.inl (nameE_zero hl))]) ⟨h4.1, h4.2.1, h4.2.2.1, h4.2.2.2.1, h4.2.2.2.2.1, trivial⟩ hp3

end Go.Proofs.YtnoceodmnjhljabDoor
