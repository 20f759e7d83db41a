/-
  (*folform.reader).pair: its first regions, by parts.
-/
import Derived.Test.YtnoceodmnjhljabDoorFormE
namespace Go.Proofs.YtnoceodmnjhljabDoor
open Go Go.RowKit
set_option linter.unusedSimpArgs false
set_option linter.unusedVariables false

noncomputable def c_pr_r0 : Code := sub [0] (Tryd.f31.body.getD .skip)
set_option maxRecDepth 1000000 in
set_option maxHeartbeats 16000000 in
theorem pr_r0_wp {Q : Exit → Act → World → Prop} {x : ByteArray} {r i c j n d : Nat} {wo : World} (hr : RdG n wo r x i c j) (hN : ∀ a' w', Frm 173 [(0, .pointer (some ⟨r, 0, none⟩)), (1, .int .i64 (d : Nat)), (4, .pointer (some ⟨wo.heap.size, 0, none⟩))] a' → FS n wo w' r x i c j → Q .normal a' w') : ∀ ac, Frm 173 [(0, .pointer (some ⟨r, 0, none⟩)), (1, .int .i64 (d : Nat))] ac → Code.wp Tryd.prog c_pr_r0 Q ac wo := by
  refine frm_open ?_
  refine frame_pr ?_
  intros
  rename_i hq
  obtain ⟨-, -, e0q, e1q, -⟩ := hq
  have e0q := (Option.some.inj e0q).symm; subst e0q
  have e1q := (Option.some.inj e1q).symm; subst e1q
  conv => arg 2; whnf
  have ro := lt_heap hr
  have HR_ := Lib.hid hr
  clear hr
  have HN := Lib.hid hN
  clear hN
  go_wp2_with fail
  refine HN.out _ _ (id ⟨rfl, rfl, rfl, rfl, rfl, trivial⟩) ⟨heap_old ro HR_.out, heap_alloc_new wo _, (Keeps.refl _ _).alloc _, ro⟩
noncomputable def c_pr_r1 : Code := sub [1, 0] (Tryd.f31.body.getD .skip)
set_option maxRecDepth 1000000 in
set_option maxHeartbeats 16000000 in
theorem pr_r1_wp {Q : Exit → Act → World → Prop} {x : ByteArray} {r i c j n d : Nat} {wo w : World} (hi : i ≤ 5000) (hp : FS n wo w r x i c j) (hN : ∀ a' w', Frm 173 [(0, .pointer (some ⟨r, 0, none⟩)), (1, .int .i64 (d : Nat)), (4, .pointer (some ⟨wo.heap.size, 0, none⟩))] a' → Keeps (· = r) w w' → FS n wo w' r x (i + 1) c j → Q .normal a' w') : ∀ ac, Frm 173 [(0, .pointer (some ⟨r, 0, none⟩)), (1, .int .i64 (d : Nat)), (4, .pointer (some ⟨wo.heap.size, 0, none⟩))] ac → Code.wp Tryd.prog c_pr_r1 Q ac w := by
  refine frm_open ?_
  refine frame_pr ?_
  intros
  rename_i hq
  obtain ⟨-, -, e0q, e1q, e2q, -⟩ := hq
  have e0q := (Option.some.inj e0q).symm; subst e0q
  have e1q := (Option.some.inj e1q).symm; subst e1q
  have e2q := (Option.some.inj e2q).symm; subst e2q
  conv => arg 2; whnf
  have HN := Lib.hid hN
  clear hN
  have r1 := cellv hp.rd 1 rfl
  have r0 := cellv hp.rd 0 rfl
  have d1 := free_heap hp.rd 1
  have rl := lt_heap hp.rd
  have HP := Lib.hid hp
  clear hp
  have ha4 : (i : Int) ≤ 5000 := by omega
  go_wp2_with fail
  refine HN.out _ _ (id ⟨rfl, rfl, rfl, rfl, rfl, trivial⟩) ((Keeps.refl (· = r) w).set (b := r) (Or.inl rfl) 1 _) (HP.out.keeps ((Keeps.refl (· = r) w).set (b := r) (Or.inl rfl) 1 _) ?_)
  exact show RdG n (w.setCell ⟨r, 1, none⟩ (.int .i64 ((i : Int) + 1))) r x (i + 1) c j by simpa [RdG] using heap_set HP.out.rd 1 (.int .i64 ((i : Int) + 1))
noncomputable def c_pr_r2 : Code := sub [1, 1, 0, 0] (Tryd.f31.body.getD .skip)
set_option maxRecDepth 1000000 in
set_option maxHeartbeats 16000000 in
theorem pr_r2_wp {Q : Exit → Act → World → Prop} {x : ByteArray} {r i c j n d : Nat} {wo w : World} (hp : FS n wo w r x i c j) (hN : ∀ a' w', Frm 173 [(0, .pointer (some ⟨r, 0, none⟩)), (1, .int .i64 (d : Nat)), (4, .pointer (some ⟨wo.heap.size, 0, none⟩)), (5, .int .u8 (byteAt x i : Nat))] a' → Keeps (· = r) w w' → FS n wo w' r x i c j → Q .normal a' w') : ∀ ac, Frm 173 [(0, .pointer (some ⟨r, 0, none⟩)), (1, .int .i64 (d : Nat)), (4, .pointer (some ⟨wo.heap.size, 0, none⟩))] ac → Code.wp Tryd.prog c_pr_r2 Q ac w := by
  refine frm_open ?_
  refine frame_pr ?_
  intros
  rename_i hq
  obtain ⟨-, -, e0q, e1q, e2q, -⟩ := hq
  have e0q := (Option.some.inj e0q).symm; subst e0q
  have e1q := (Option.some.inj e1q).symm; subst e1q
  have e2q := (Option.some.inj e2q).symm; subst e2q
  conv => arg 2; whnf
  have hpk : ∀ W, RdG n W r x i c j → Calls Tryd.prog 30 #[.pointer (some ⟨r, 0, none⟩)] W fun e w' => e = .returned (.int .u8 (byteAt x i)) ∧ Below W.heap.size W w' ∧ w'.heap.size = W.heap.size := fun W h => peekG_any r x i c j W h
  have HN := Lib.hid hN
  have HPK := Lib.hid hpk
  clear hN hpk
  have r1 := cellv hp.rd 1 rfl
  have r0 := cellv hp.rd 0 rfl
  have d1 := free_heap hp.rd 1
  have rl := lt_heap hp.rd
  have HP := Lib.hid hp
  clear hp
  go_wp2_with fail
  (with_reducible refine (HPK.out _ HP.out.rd).mono ?_)
  rintro e w1 ⟨rfl, hb1, hs1⟩
  have HB1 := Lib.hid hb1
  clear hb1 hs1
  go_wp2_with fail
  exact HN.out _ _ (id ⟨rfl, rfl, rfl, rfl, rfl, rfl, trivial⟩) (Below.keeps HB1.out _) (HP.out.below HB1.out)
noncomputable def c_pr_r3 : Code := sub [1, 1, 0, 1, 0] (Tryd.f31.body.getD .skip)
set_option maxRecDepth 1000000 in
set_option maxHeartbeats 16000000 in
theorem pr_r3_wp {Q : Exit → Act → World → Prop} {r b d : Nat} {wo w : World} (hN : ∀ a', Frm 173 [(0, .pointer (some ⟨r, 0, none⟩)), (1, .int .i64 (d : Nat)), (4, .pointer (some ⟨wo.heap.size, 0, none⟩)), (30, .bool (decide (97 ≤ b ∧ b ≤ 122)))] a' → Q .normal a' w) : ∀ ac, Frm 173 [(0, .pointer (some ⟨r, 0, none⟩)), (1, .int .i64 (d : Nat)), (4, .pointer (some ⟨wo.heap.size, 0, none⟩)), (5, .int .u8 (b : Nat))] ac → Code.wp Tryd.prog c_pr_r3 Q ac w := by
  refine frm_open ?_
  refine frame_pr ?_
  intros
  rename_i hq
  obtain ⟨-, -, e0q, e1q, e2q, e3q, -⟩ := hq
  have e0q := (Option.some.inj e0q).symm; subst e0q
  have e1q := (Option.some.inj e1q).symm; subst e1q
  have e2q := (Option.some.inj e2q).symm; subst e2q
  have e3q := (Option.some.inj e3q).symm; subst e3q
  conv => arg 2; whnf
  by_cases h3 : 97 ≤ b
  · have t3 : decide ((97 : Int) ≤ (b : Int)) = true := decide_eq_true (by omega)
    by_cases h4 : b ≤ 122
    · have t4 : decide ((b : Int) ≤ 122) = true := decide_eq_true (by omega)
      rw [show decide (97 ≤ b ∧ b ≤ 122) = true from decide_eq_true ⟨h3, h4⟩] at hN
      clear h3 h4
      have HN := Lib.hid hN
      clear hN
      go_wp2_with fail
      exact HN.out _ (id ⟨rfl, rfl, rfl, rfl, rfl, rfl, trivial⟩)
    · have t4 : decide ((b : Int) ≤ 122) = false := decide_eq_false (by omega)
      rw [show decide (97 ≤ b ∧ b ≤ 122) = false from decide_eq_false (fun h => h4 h.2)] at hN
      clear h3 h4
      have HN := Lib.hid hN
      clear hN
      go_wp2_with fail
      exact HN.out _ (id ⟨rfl, rfl, rfl, rfl, rfl, rfl, trivial⟩)
  · have t3 : decide ((97 : Int) ≤ (b : Int)) = false := decide_eq_false (by omega)
    rw [show decide (97 ≤ b ∧ b ≤ 122) = false from decide_eq_false (fun h => h3 h.1)] at hN
    clear h3
    have HN := Lib.hid hN
    clear hN
    go_wp2_with fail
    exact HN.out _ (id ⟨rfl, rfl, rfl, rfl, rfl, rfl, trivial⟩)
noncomputable def c_pr_r4 : Code := sub [1, 1, 0, 1, 1, 0, 0] (Tryd.f31.body.getD .skip)
set_option maxRecDepth 1000000 in
set_option maxHeartbeats 16000000 in
theorem pr_r4_wp {Q : Exit → Act → World → Prop} {x : ByteArray} {r i c j n d : Nat} {wo w : World} (hp : FS n wo w r x i c j) (hN : ∀ a', Frm 173 [(0, .pointer (some ⟨r, 0, none⟩)), (1, .int .i64 (d : Nat)), (4, .pointer (some ⟨wo.heap.size, 0, none⟩)), (6, .int .i64 (i : Nat))] a' → Q .normal a' w) : ∀ ac, Frm 173 [(0, .pointer (some ⟨r, 0, none⟩)), (1, .int .i64 (d : Nat)), (4, .pointer (some ⟨wo.heap.size, 0, none⟩))] ac → Code.wp Tryd.prog c_pr_r4 Q ac w := by
  refine frm_open ?_
  refine frame_pr ?_
  intros
  rename_i hq
  obtain ⟨-, -, e0q, e1q, e2q, -⟩ := hq
  have e0q := (Option.some.inj e0q).symm; subst e0q
  have e1q := (Option.some.inj e1q).symm; subst e1q
  have e2q := (Option.some.inj e2q).symm; subst e2q
  conv => arg 2; whnf
  have HN := Lib.hid hN
  clear hN
  have r1 := cellv hp.rd 1 rfl
  have r0 := cellv hp.rd 0 rfl
  have d1 := free_heap hp.rd 1
  have rl := lt_heap hp.rd
  have HP := Lib.hid hp
  clear hp
  go_wp2_with fail
  exact HN.out _ (id ⟨rfl, rfl, rfl, rfl, rfl, rfl, trivial⟩)
noncomputable def c_pr_r5 : Code := sub [1, 1, 0, 1, 1, 0, 1, 0] (Tryd.f31.body.getD .skip)
set_option maxRecDepth 1000000 in
set_option maxHeartbeats 16000000 in
theorem pr_r5_wp {Q : Exit → Act → World → Prop} {fr : Nat} {x : ByteArray} {r i j n d : Nat} {wo w : World} (hx : x.size ≤ 4000) (hi : i ≤ x.size) (hp : FS n wo w r x i 0 j) (hN : ∀ a' w', Frm 173 [(0, .pointer (some ⟨r, 0, none⟩)), (1, .int .i64 (d : Nat)), (4, .pointer (some ⟨wo.heap.size, 0, none⟩)), (6, .int .i64 (fr : Nat)), (7, .string (x.extract i (nameE x i)))] a' → Keeps (· = r) w w' → (nameE x i = i → FS n wo w' r x i 11 i) → (nameE x i ≠ i → FS n wo w' r x (nameE x i) 0 j) → Q .normal a' w') : ∀ ac, Frm 173 [(0, .pointer (some ⟨r, 0, none⟩)), (1, .int .i64 (d : Nat)), (4, .pointer (some ⟨wo.heap.size, 0, none⟩)), (6, .int .i64 (fr : Nat))] ac → Code.wp Tryd.prog c_pr_r5 Q ac w := by
  refine frm_open ?_
  refine frame_pr ?_
  intros
  rename_i hq
  obtain ⟨-, -, e0q, e1q, e2q, e3q, -⟩ := hq
  have e0q := (Option.some.inj e0q).symm; subst e0q
  have e1q := (Option.some.inj e1q).symm; subst e1q
  have e2q := (Option.some.inj e2q).symm; subst e2q
  have e3q := (Option.some.inj e3q).symm; subst e3q
  conv => arg 2; whnf
  have hnm := fun (W : World) (h : RdG n W r x i 0 j) => nameR_any x r i j n W hx hi h
  have HN := Lib.hid hN
  have HNM := Lib.hid hnm
  clear hN hnm
  have r1 := cellv hp.rd 1 rfl
  have r0 := cellv hp.rd 0 rfl
  have d1 := free_heap hp.rd 1
  have rl := lt_heap hp.rd
  have HP := Lib.hid hp
  clear hp
  go_wp2_with fail
  (with_reducible refine (HNM.out _ HP.out.rd).mono ?_)
  rintro e w1 ⟨rfl, hn1, hn2, hk1, hs1⟩
  have HN1 := Lib.hid hn1
  have HN2 := Lib.hid hn2
  have HK1 := Lib.hid hk1
  clear hn1 hn2 hk1 hs1
  go_wp2_with fail
  exact HN.out _ _ (id ⟨rfl, rfl, rfl, rfl, rfl, rfl, rfl, trivial⟩) HK1.out (fun h => HP.out.keeps HK1.out (HN1.out h)) (fun h => HP.out.keeps HK1.out (HN2.out h))
noncomputable def c_pr_r6 : Code := sub [1, 1, 0, 1, 1, 0, 1, 1, 0, 0] (Tryd.f31.body.getD .skip)
set_option maxRecDepth 1000000 in
set_option maxHeartbeats 16000000 in
theorem pr_r6_wp {Q : Exit → Act → World → Prop} {fr : Nat} {a : ByteArray} {x : ByteArray} {r i c j n d : Nat} {wo w : World} (hp : FS n wo w r x i c j) (hN : ∀ a' w', Frm 173 [(0, .pointer (some ⟨r, 0, none⟩)), (1, .int .i64 (d : Nat)), (4, .pointer (some ⟨wo.heap.size, 0, none⟩)), (6, .int .i64 (fr : Nat)), (7, .string a), (42, .bool (decide (byteAt x i = 32)))] a' → Keeps (· = r) w w' → FS n wo w' r x i c j → Q .normal a' w') : ∀ ac, Frm 173 [(0, .pointer (some ⟨r, 0, none⟩)), (1, .int .i64 (d : Nat)), (4, .pointer (some ⟨wo.heap.size, 0, none⟩)), (6, .int .i64 (fr : Nat)), (7, .string a)] ac → Code.wp Tryd.prog c_pr_r6 Q ac w := by
  refine frm_open ?_
  refine frame_pr ?_
  intros
  rename_i hq
  obtain ⟨-, -, e0q, e1q, e2q, e3q, e4q, -⟩ := hq
  have e0q := (Option.some.inj e0q).symm; subst e0q
  have e1q := (Option.some.inj e1q).symm; subst e1q
  have e2q := (Option.some.inj e2q).symm; subst e2q
  have e3q := (Option.some.inj e3q).symm; subst e3q
  have e4q := (Option.some.inj e4q).symm; subst e4q
  conv => arg 2; whnf
  have hpk : ∀ W, RdG n W r x i c j → Calls Tryd.prog 30 #[.pointer (some ⟨r, 0, none⟩)] W fun e w' => e = .returned (.int .u8 (byteAt x i)) ∧ Below W.heap.size W w' ∧ w'.heap.size = W.heap.size := fun W h => peekG_any r x i c j W h
  have HN := Lib.hid hN
  have HPK := Lib.hid hpk
  clear hN hpk
  have r1 := cellv hp.rd 1 rfl
  have r0 := cellv hp.rd 0 rfl
  have d1 := free_heap hp.rd 1
  have rl := lt_heap hp.rd
  have HP := Lib.hid hp
  clear hp
  by_cases h : byteAt x i = 32
  · have q1 : (((byteAt x i : Nat) : Int) == 32) = true := by rw [beq_iff_eq]; omega
    rw [show decide (byteAt x i = 32) = true from decide_eq_true h] at HN
    clear h
    go_wp2_with fail
    (with_reducible refine (HPK.out _ HP.out.rd).mono ?_)
    rintro e w1 ⟨rfl, hb1, hs1⟩
    have HB1 := Lib.hid hb1
    clear hb1 hs1
    go_wp2_with fail
    exact HN.out _ _ (id ⟨rfl, rfl, rfl, rfl, rfl, rfl, rfl, rfl, trivial⟩) (Below.keeps HB1.out _) (HP.out.below HB1.out)
  · have q1 : (((byteAt x i : Nat) : Int) == 32) = false := beq_eq_false_iff_ne.2 (by omega)
    rw [show decide (byteAt x i = 32) = false from decide_eq_false h] at HN
    clear h
    go_wp2_with fail
    (with_reducible refine (HPK.out _ HP.out.rd).mono ?_)
    rintro e w1 ⟨rfl, hb1, hs1⟩
    have HB1 := Lib.hid hb1
    clear hb1 hs1
    go_wp2_with fail
    exact HN.out _ _ (id ⟨rfl, rfl, rfl, rfl, rfl, rfl, rfl, rfl, trivial⟩) (Below.keeps HB1.out _) (HP.out.below HB1.out)
noncomputable def c_pr_r7 : Code := sub [1, 1, 0, 1, 1, 0, 1, 1, 0, 1, 0, 0, 0] (Tryd.f31.body.getD .skip)
set_option maxRecDepth 1000000 in
set_option maxHeartbeats 16000000 in
theorem pr_r7_wp {Q : Exit → Act → World → Prop} {fr : Nat} {a : ByteArray} {x : ByteArray} {r i c j n d : Nat} {wo w : World} (hi : i ≤ 4000) (hx : x.size ≤ 4000) (hp : FS n wo w r x i c j) (hN : ∀ a' w', Frm 173 [(0, .pointer (some ⟨r, 0, none⟩)), (1, .int .i64 (d : Nat)), (4, .pointer (some ⟨wo.heap.size, 0, none⟩)), (6, .int .i64 (fr : Nat)), (7, .string a), (70, .bool (decide (byteAt x (i + 1) = 61)))] a' → Keeps (· = r) w w' → FS n wo w' r x i c j → Q .normal a' w') : ∀ ac, Frm 173 [(0, .pointer (some ⟨r, 0, none⟩)), (1, .int .i64 (d : Nat)), (4, .pointer (some ⟨wo.heap.size, 0, none⟩)), (6, .int .i64 (fr : Nat)), (7, .string a)] ac → Code.wp Tryd.prog c_pr_r7 Q ac w := by
  refine frm_open ?_
  refine frame_pr ?_
  intros
  rename_i hq
  obtain ⟨-, -, e0q, e1q, e2q, e3q, e4q, -⟩ := hq
  have e0q := (Option.some.inj e0q).symm; subst e0q
  have e1q := (Option.some.inj e1q).symm; subst e1q
  have e2q := (Option.some.inj e2q).symm; subst e2q
  have e3q := (Option.some.inj e3q).symm; subst e3q
  have e4q := (Option.some.inj e4q).symm; subst e4q
  conv => arg 2; whnf
  have ha4 : (i : Int) ≤ 5000 := by omega
  have ha5 : (0 : Int) ≤ (i : Int) := by omega
  by_cases hl : i + 1 < x.size
  · have q0 : decide (((i : Int) + 1) < (x.size : Int)) = true := decide_eq_true (by omega)
    have q0' : ((i : Int) + 1) < (x.size : Int) := by omega
    have q8 : (0 : Int) ≤ (i : Int) + 1 := by omega
    by_cases h : byteAt x (i + 1) = 61
    · have q1 : (((byteAt x (i + 1) : Nat) : Int) == 61) = true := by rw [beq_iff_eq]; omega
      have q2 : ((((x[i + 1]'hl).toNat : Nat) : Int) == 61) = true := by rw [← byteAt_in hl]; exact q1
      rw [show decide (byteAt x (i + 1) = 61) = true from decide_eq_true h] at hN
      clear h
      have HN := Lib.hid hN
      clear hN
      have r1 := cellv hp.rd 1 rfl
      have r0 := cellv hp.rd 0 rfl
      have d1 := free_heap hp.rd 1
      have rl := lt_heap hp.rd
      have HP := Lib.hid hp
      clear hp
      go_big_quiet (fail)
      go_wp2_with fail
      exact HN.out _ _ (id ⟨rfl, rfl, rfl, rfl, rfl, rfl, rfl, rfl, trivial⟩) (Below.keeps (below_nqF _) _) (HP.out.step rfl (below_nqF _))
    · have q1 : (((byteAt x (i + 1) : Nat) : Int) == 61) = false := beq_eq_false_iff_ne.2 (by omega)
      have q2 : ((((x[i + 1]'hl).toNat : Nat) : Int) == 61) = false := by rw [← byteAt_in hl]; exact q1
      rw [show decide (byteAt x (i + 1) = 61) = false from decide_eq_false h] at hN
      clear h
      have HN := Lib.hid hN
      clear hN
      have r1 := cellv hp.rd 1 rfl
      have r0 := cellv hp.rd 0 rfl
      have d1 := free_heap hp.rd 1
      have rl := lt_heap hp.rd
      have HP := Lib.hid hp
      clear hp
      go_big_quiet (fail)
      go_wp2_with fail
      exact HN.out _ _ (id ⟨rfl, rfl, rfl, rfl, rfl, rfl, rfl, rfl, trivial⟩) (Below.keeps (below_nqF _) _) (HP.out.step rfl (below_nqF _))
  · have q0 : decide (((i : Int) + 1) < (x.size : Int)) = false := decide_eq_false (by omega)
    rw [show decide (byteAt x (i + 1) = 61) = false from decide_eq_false (by rw [byteAt_out (by omega)]; decide)] at hN
    have HN := Lib.hid hN
    clear hN
    have r1 := cellv hp.rd 1 rfl
    have r0 := cellv hp.rd 0 rfl
    have d1 := free_heap hp.rd 1
    have rl := lt_heap hp.rd
    have HP := Lib.hid hp
    clear hp
    go_big_quiet (fail)
    go_wp2_with fail
    exact HN.out _ _ (id ⟨rfl, rfl, rfl, rfl, rfl, rfl, rfl, rfl, trivial⟩) (Below.keeps (below_nqF _) _) (HP.out.step rfl (below_nqF _))
noncomputable def c_pr_r8 : Code := sub [1, 1, 0, 1, 1, 0, 1, 1, 0, 1, 0, 0, 1, 0, 0] (Tryd.f31.body.getD .skip)
set_option maxRecDepth 1000000 in
set_option maxHeartbeats 16000000 in
theorem pr_r8_wp {Q : Exit → Act → World → Prop} {fr : Nat} {a : ByteArray} {x : ByteArray} {r i c j n d : Nat} {wo w : World} (hi : i ≤ 5000) (hp : FS n wo w r x i c j) (hN : ∀ a' w', Frm 173 [(0, .pointer (some ⟨r, 0, none⟩)), (1, .int .i64 (d : Nat)), (4, .pointer (some ⟨wo.heap.size, 0, none⟩)), (6, .int .i64 (fr : Nat)), (7, .string a)] a' → Keeps (· = r) w w' → FS n wo w' r x (i + 2) c j → Q .normal a' w') : ∀ ac, Frm 173 [(0, .pointer (some ⟨r, 0, none⟩)), (1, .int .i64 (d : Nat)), (4, .pointer (some ⟨wo.heap.size, 0, none⟩)), (6, .int .i64 (fr : Nat)), (7, .string a)] ac → Code.wp Tryd.prog c_pr_r8 Q ac w := by
  refine frm_open ?_
  refine frame_pr ?_
  intros
  rename_i hq
  obtain ⟨-, -, e0q, e1q, e2q, e3q, e4q, -⟩ := hq
  have e0q := (Option.some.inj e0q).symm; subst e0q
  have e1q := (Option.some.inj e1q).symm; subst e1q
  have e2q := (Option.some.inj e2q).symm; subst e2q
  have e3q := (Option.some.inj e3q).symm; subst e3q
  have e4q := (Option.some.inj e4q).symm; subst e4q
  conv => arg 2; whnf
  have HN := Lib.hid hN
  clear hN
  have r1 := cellv hp.rd 1 rfl
  have r0 := cellv hp.rd 0 rfl
  have d1 := free_heap hp.rd 1
  have rl := lt_heap hp.rd
  have HP := Lib.hid hp
  clear hp
  have ha4 : (i : Int) ≤ 5000 := by omega
  go_wp2_with fail
  refine HN.out _ _ (id ⟨rfl, rfl, rfl, rfl, rfl, rfl, rfl, trivial⟩) ((Keeps.refl (· = r) w).set (b := r) (Or.inl rfl) 1 _) (HP.out.keeps ((Keeps.refl (· = r) w).set (b := r) (Or.inl rfl) 1 _) ?_)
  exact show RdG n (w.setCell ⟨r, 1, none⟩ (.int .i64 ((i : Int) + 2))) r x (i + 2) c j by simpa [RdG] using heap_set HP.out.rd 1 (.int .i64 ((i : Int) + 2))
noncomputable def c_pr_r9 : Code := sub [1, 1, 0, 1, 1, 0, 1, 1, 0, 1, 0, 0, 1, 0, 1, 0] (Tryd.f31.body.getD .skip)
set_option maxRecDepth 1000000 in
set_option maxHeartbeats 16000000 in
theorem pr_r9_wp {Q : Exit → Act → World → Prop} {fr : Nat} {a : ByteArray} {x : ByteArray} {r i c j n d : Nat} {wo w : World} (hx : x.size ≤ 4000) (hp : FS n wo w r x i c j) (hN : ∀ a' w', Frm 173 [(0, .pointer (some ⟨r, 0, none⟩)), (1, .int .i64 (d : Nat)), (4, .pointer (some ⟨wo.heap.size, 0, none⟩)), (6, .int .i64 (fr : Nat)), (7, .string a)] a' → Keeps (· = r) w w' → FS n wo w' r x (takeI x i c 32) (takeC x i c 32) (takeJ x i c j 32) → Q .normal a' w') : ∀ ac, Frm 173 [(0, .pointer (some ⟨r, 0, none⟩)), (1, .int .i64 (d : Nat)), (4, .pointer (some ⟨wo.heap.size, 0, none⟩)), (6, .int .i64 (fr : Nat)), (7, .string a)] ac → Code.wp Tryd.prog c_pr_r9 Q ac w := by
  refine frm_open ?_
  refine frame_pr ?_
  intros
  rename_i hq
  obtain ⟨-, -, e0q, e1q, e2q, e3q, e4q, -⟩ := hq
  have e0q := (Option.some.inj e0q).symm; subst e0q
  have e1q := (Option.some.inj e1q).symm; subst e1q
  have e2q := (Option.some.inj e2q).symm; subst e2q
  have e3q := (Option.some.inj e3q).symm; subst e3q
  have e4q := (Option.some.inj e4q).symm; subst e4q
  conv => arg 2; whnf
  have htk : ∀ (W : World), RdG n W r x i c j → Calls Tryd.prog 34 #[.pointer (some ⟨r, 0, none⟩), .int .u8 32] W fun e w' => IsBool e ∧ TakeG n w' r x i c j 32 ∧ Keeps (· = r) W w' ∧ w'.heap.size = W.heap.size := fun W h => takeG_any r x i c j 32 W h (by decide) hx
  have HN := Lib.hid hN
  have HTK := Lib.hid htk
  clear hN htk
  have r1 := cellv hp.rd 1 rfl
  have r0 := cellv hp.rd 0 rfl
  have d1 := free_heap hp.rd 1
  have rl := lt_heap hp.rd
  have HP := Lib.hid hp
  clear hp
  go_wp2_with fail
  (with_reducible refine (HTK.out _ HP.out.rd).mono ?_)
  rintro e w1 ⟨⟨bb, rfl⟩, hb1, hk1, hs1⟩
  have HB1 := Lib.hid hb1
  have HK1 := Lib.hid hk1
  clear hb1 hs1 hk1
  go_wp2_with fail
  exact HN.out _ _ (id ⟨rfl, rfl, rfl, rfl, rfl, rfl, rfl, trivial⟩) HK1.out (takeFS HP.out HK1.out HB1.out)
noncomputable def c_pr_r10 : Code := sub [1, 1, 0, 1, 1, 0, 1, 1, 0, 1, 0, 0, 1, 0, 1, 1, 0] (Tryd.f31.body.getD .skip)
set_option maxRecDepth 1000000 in
set_option maxHeartbeats 16000000 in
theorem pr_r10_wp {Q : Exit → Act → World → Prop} {fr : Nat} {a : ByteArray} {x : ByteArray} {r i j n d : Nat} {wo w : World} (hx : x.size ≤ 4000) (hi : i ≤ x.size) (hp : FS n wo w r x i 0 j) (hN : ∀ a' w', Frm 173 [(0, .pointer (some ⟨r, 0, none⟩)), (1, .int .i64 (d : Nat)), (4, .pointer (some ⟨wo.heap.size, 0, none⟩)), (6, .int .i64 (fr : Nat)), (7, .string a), (8, .string (x.extract i (nameE x i)))] a' → Keeps (· = r) w w' → (nameE x i = i → FS n wo w' r x i 11 i) → (nameE x i ≠ i → FS n wo w' r x (nameE x i) 0 j) → Q .normal a' w') : ∀ ac, Frm 173 [(0, .pointer (some ⟨r, 0, none⟩)), (1, .int .i64 (d : Nat)), (4, .pointer (some ⟨wo.heap.size, 0, none⟩)), (6, .int .i64 (fr : Nat)), (7, .string a)] ac → Code.wp Tryd.prog c_pr_r10 Q ac w := by
  refine frm_open ?_
  refine frame_pr ?_
  intros
  rename_i hq
  obtain ⟨-, -, e0q, e1q, e2q, e3q, e4q, -⟩ := hq
  have e0q := (Option.some.inj e0q).symm; subst e0q
  have e1q := (Option.some.inj e1q).symm; subst e1q
  have e2q := (Option.some.inj e2q).symm; subst e2q
  have e3q := (Option.some.inj e3q).symm; subst e3q
  have e4q := (Option.some.inj e4q).symm; subst e4q
  conv => arg 2; whnf
  have hnm := fun (W : World) (h : RdG n W r x i 0 j) => nameR_any x r i j n W hx hi h
  have HN := Lib.hid hN
  have HNM := Lib.hid hnm
  clear hN hnm
  have r1 := cellv hp.rd 1 rfl
  have r0 := cellv hp.rd 0 rfl
  have d1 := free_heap hp.rd 1
  have rl := lt_heap hp.rd
  have HP := Lib.hid hp
  clear hp
  go_wp2_with fail
  (with_reducible refine (HNM.out _ HP.out.rd).mono ?_)
  rintro e w1 ⟨rfl, hn1, hn2, hk1, hs1⟩
  have HN1 := Lib.hid hn1
  have HN2 := Lib.hid hn2
  have HK1 := Lib.hid hk1
  clear hn1 hn2 hk1 hs1
  go_wp2_with fail
  exact HN.out _ _ (id ⟨rfl, rfl, rfl, rfl, rfl, rfl, rfl, rfl, trivial⟩) HK1.out (fun h => HP.out.keeps HK1.out (HN1.out h)) (fun h => HP.out.keeps HK1.out (HN2.out h))
noncomputable def c_pr_r10e : Code := sub [1, 1, 0, 1, 1, 0, 1, 1, 0, 1, 0, 0, 1, 0, 1, 1, 0] (Tryd.f31.body.getD .skip)
set_option maxRecDepth 1000000 in
set_option maxHeartbeats 16000000 in
theorem pr_r10e_wp {Q : Exit → Act → World → Prop} {fr : Nat} {a : ByteArray} {x : ByteArray} {r i c j n d : Nat} {wo w : World} (hc : c ≠ 0) (hp : FS n wo w r x i c j) (hN : ∀ a', Frm 173 [(0, .pointer (some ⟨r, 0, none⟩)), (1, .int .i64 (d : Nat)), (4, .pointer (some ⟨wo.heap.size, 0, none⟩)), (6, .int .i64 (fr : Nat)), (7, .string a), (8, .string ⟨#[]⟩)] a' → Q .normal a' w) : ∀ ac, Frm 173 [(0, .pointer (some ⟨r, 0, none⟩)), (1, .int .i64 (d : Nat)), (4, .pointer (some ⟨wo.heap.size, 0, none⟩)), (6, .int .i64 (fr : Nat)), (7, .string a)] ac → Code.wp Tryd.prog c_pr_r10e Q ac w := by
  refine frm_open ?_
  refine frame_pr ?_
  intros
  rename_i hq
  obtain ⟨-, -, e0q, e1q, e2q, e3q, e4q, -⟩ := hq
  have e0q := (Option.some.inj e0q).symm; subst e0q
  have e1q := (Option.some.inj e1q).symm; subst e1q
  have e2q := (Option.some.inj e2q).symm; subst e2q
  have e3q := (Option.some.inj e3q).symm; subst e3q
  have e4q := (Option.some.inj e4q).symm; subst e4q
  conv => arg 2; whnf
  have hnm := fun (W : World) (h : RdG n W r x i c j) => nameR_err x r i c j n W hc h
  have HN := Lib.hid hN
  have HNM := Lib.hid hnm
  clear hN hnm
  have r1 := cellv hp.rd 1 rfl
  have r0 := cellv hp.rd 0 rfl
  have d1 := free_heap hp.rd 1
  have rl := lt_heap hp.rd
  have HP := Lib.hid hp
  clear hp
  go_wp2_with fail
  (with_reducible refine (HNM.out _ HP.out.rd).mono ?_)
  rintro e w1 ⟨rfl, rfl⟩
  go_wp2_with fail
  exact HN.out _ (id ⟨rfl, rfl, rfl, rfl, rfl, rfl, rfl, rfl, trivial⟩)
noncomputable def c_pr_r11 : Code := sub [1, 1, 0, 1, 1, 0, 1, 1, 0, 1, 0, 0, 1, 0, 1, 1, 1, 0] (Tryd.f31.body.getD .skip)
set_option maxRecDepth 1000000 in
set_option maxHeartbeats 16000000 in
theorem pr_r11_wp {Q : Exit → Act → World → Prop} {fr : Nat} {a y : ByteArray} {x : ByteArray} {r i c j n d : Nat} {wo w : World} (hx : x.size ≤ 4000) (hp : FS n wo w r x i c j) (hN : ∀ a' w', Frm 173 [(0, .pointer (some ⟨r, 0, none⟩)), (1, .int .i64 (d : Nat)), (4, .pointer (some ⟨wo.heap.size, 0, none⟩)), (6, .int .i64 (fr : Nat)), (7, .string a), (8, .string y)] a' → Keeps (· = r) w w' → FS n wo w' r x (takeI x i c 41) (takeC x i c 41) (takeJ x i c j 41) → Q .normal a' w') : ∀ ac, Frm 173 [(0, .pointer (some ⟨r, 0, none⟩)), (1, .int .i64 (d : Nat)), (4, .pointer (some ⟨wo.heap.size, 0, none⟩)), (6, .int .i64 (fr : Nat)), (7, .string a), (8, .string y)] ac → Code.wp Tryd.prog c_pr_r11 Q ac w := by
  refine frm_open ?_
  refine frame_pr ?_
  intros
  rename_i hq
  obtain ⟨-, -, e0q, e1q, e2q, e3q, e4q, e5q, -⟩ := hq
  have e0q := (Option.some.inj e0q).symm; subst e0q
  have e1q := (Option.some.inj e1q).symm; subst e1q
  have e2q := (Option.some.inj e2q).symm; subst e2q
  have e3q := (Option.some.inj e3q).symm; subst e3q
  have e4q := (Option.some.inj e4q).symm; subst e4q
  have e5q := (Option.some.inj e5q).symm; subst e5q
  conv => arg 2; whnf
  have htk : ∀ (W : World), RdG n W r x i c j → Calls Tryd.prog 34 #[.pointer (some ⟨r, 0, none⟩), .int .u8 41] W fun e w' => IsBool e ∧ TakeG n w' r x i c j 41 ∧ Keeps (· = r) W w' ∧ w'.heap.size = W.heap.size := fun W h => takeG_any r x i c j 41 W h (by decide) hx
  have HN := Lib.hid hN
  have HTK := Lib.hid htk
  clear hN htk
  have r1 := cellv hp.rd 1 rfl
  have r0 := cellv hp.rd 0 rfl
  have d1 := free_heap hp.rd 1
  have rl := lt_heap hp.rd
  have HP := Lib.hid hp
  clear hp
  go_wp2_with fail
  (with_reducible refine (HTK.out _ HP.out.rd).mono ?_)
  rintro e w1 ⟨⟨bb, rfl⟩, hb1, hk1, hs1⟩
  have HB1 := Lib.hid hb1
  have HK1 := Lib.hid hk1
  clear hb1 hs1 hk1
  go_wp2_with fail
  exact HN.out _ _ (id ⟨rfl, rfl, rfl, rfl, rfl, rfl, rfl, rfl, trivial⟩) HK1.out (takeFS HP.out HK1.out HB1.out)
noncomputable def c_pr_r13 : Code := sub [1, 1, 0, 1, 1, 0, 1, 1, 0, 1, 0, 1, 0] (Tryd.f31.body.getD .skip)
set_option maxRecDepth 1000000 in
set_option maxHeartbeats 16000000 in
theorem pr_r13_wp {Q : Exit → Act → World → Prop} {fr : Nat} {a : ByteArray} {r d : Nat} {wo w : World} (hN : ∀ a', Frm 173 [(0, .pointer (some ⟨r, 0, none⟩)), (1, .int .i64 (d : Nat)), (4, .pointer (some ⟨wo.heap.size, 0, none⟩)), (6, .int .i64 (fr : Nat)), (7, .string a), (103, .bool (decide (¬ isKey a)))] a' → Q .normal a' w) : ∀ ac, Frm 173 [(0, .pointer (some ⟨r, 0, none⟩)), (1, .int .i64 (d : Nat)), (4, .pointer (some ⟨wo.heap.size, 0, none⟩)), (6, .int .i64 (fr : Nat)), (7, .string a)] ac → Code.wp Tryd.prog c_pr_r13 Q ac w := by
  refine frm_open ?_
  refine frame_pr ?_
  intros
  rename_i hq
  obtain ⟨-, -, e0q, e1q, e2q, e3q, e4q, -⟩ := hq
  have e0q := (Option.some.inj e0q).symm; subst e0q
  have e1q := (Option.some.inj e1q).symm; subst e1q
  have e2q := (Option.some.inj e2q).symm; subst e2q
  have e3q := (Option.some.inj e3q).symm; subst e3q
  have e4q := (Option.some.inj e4q).symm; subst e4q
  conv => arg 2; whnf
  have HN := Lib.hid hN
  clear hN
  by_cases h0 : a = wTrue
  · subst h0
    rw [show decide (¬ isKey wTrue) = false from decide_eq_false (fun h => h (by simp [isKey]))] at HN
    unfold wTrue at *
    have t0 : ((⟨#[116, 114, 117, 101]⟩ : ByteArray).toList == [116, 114, 117, 101]) = true := by decide +kernel
    go_wp2_with fail
    exact HN.out _ (id ⟨rfl, rfl, rfl, rfl, rfl, rfl, rfl, rfl, trivial⟩)
  by_cases h1 : a = wAll
  · subst h1
    rw [show decide (¬ isKey wAll) = false from decide_eq_false (fun h => h (by simp [isKey]))] at HN
    unfold wAll at *
    have t1 : ((⟨#[97, 108, 108]⟩ : ByteArray).toList == [97, 108, 108]) = true := by decide +kernel
    have t0 : ((⟨#[97, 108, 108]⟩ : ByteArray).toList == [116, 114, 117, 101]) = false := by decide +kernel
    go_wp2_with fail
    exact HN.out _ (id ⟨rfl, rfl, rfl, rfl, rfl, rfl, rfl, rfl, trivial⟩)
  by_cases h2 : a = wSome
  · subst h2
    rw [show decide (¬ isKey wSome) = false from decide_eq_false (fun h => h (by simp [isKey]))] at HN
    unfold wSome at *
    have t2 : ((⟨#[115, 111, 109, 101]⟩ : ByteArray).toList == [115, 111, 109, 101]) = true := by decide +kernel
    have t0 : ((⟨#[115, 111, 109, 101]⟩ : ByteArray).toList == [116, 114, 117, 101]) = false := by decide +kernel
    have t1 : ((⟨#[115, 111, 109, 101]⟩ : ByteArray).toList == [97, 108, 108]) = false := by decide +kernel
    go_wp2_with fail
    exact HN.out _ (id ⟨rfl, rfl, rfl, rfl, rfl, rfl, rfl, rfl, trivial⟩)
  rw [show decide (¬ isKey a) = true from decide_eq_true (by rintro (h | h | h); exact h0 h; exact h1 h; exact h2 h)] at HN
  have t0 : (a.toList == [116, 114, 117, 101]) = false := ne_listF h0 (by decide +kernel)
  have t1 : (a.toList == [97, 108, 108]) = false := ne_listF h1 (by decide +kernel)
  have t2 : (a.toList == [115, 111, 109, 101]) = false := ne_listF h2 (by decide +kernel)
  clear h0 h1 h2
  go_wp2_with fail
  exact HN.out _ (id ⟨rfl, rfl, rfl, rfl, rfl, rfl, rfl, rfl, trivial⟩)
noncomputable def c_pr_r14 : Code := sub [1, 1, 0, 1, 1, 0, 1, 1, 0, 1, 0, 1, 1, 0, 0] (Tryd.f31.body.getD .skip)
set_option maxRecDepth 1000000 in
set_option maxHeartbeats 16000000 in
theorem pr_r14_wp {K : Act → World → Prop} {fr : Nat} {a : ByteArray} {x : ByteArray} {r i c j n d : Nat} {wo w : World} (hi : i ≤ 9000) (hp : FS n wo w r x i c j) (hN : ∀ a' w', Frm 173 [(0, .pointer (some ⟨r, 0, none⟩)), (1, .int .i64 (d : Nat)), (4, .pointer (some ⟨wo.heap.size, 0, none⟩))] a' → Keeps (· = r) w w' → FS n wo w' r x i (if c = 0 then 11 else c) (if c = 0 then i + 1 else j) → K a' w') : ∀ ac, Frm 173 [(0, .pointer (some ⟨r, 0, none⟩)), (1, .int .i64 (d : Nat)), (4, .pointer (some ⟨wo.heap.size, 0, none⟩)), (6, .int .i64 (fr : Nat)), (7, .string a)] ac → Code.wp Tryd.prog c_pr_r14 (Exit.then K (fun _ _ _ => False)) ac w := by
  refine frm_open ?_
  refine frame_pr ?_
  intros
  rename_i hq
  obtain ⟨-, -, e0q, e1q, e2q, e3q, e4q, -⟩ := hq
  have e0q := (Option.some.inj e0q).symm; subst e0q
  have e1q := (Option.some.inj e1q).symm; subst e1q
  have e2q := (Option.some.inj e2q).symm; subst e2q
  have e3q := (Option.some.inj e3q).symm; subst e3q
  have e4q := (Option.some.inj e4q).symm; subst e4q
  conv => arg 2; whnf
  have hfl : ∀ (W : World), RdG n W r x i c j → Calls Tryd.prog 22 #[.pointer (some ⟨r, 0, none⟩), .int .i64 11, .int .i64 ((i : Int) + 1)] W fun e w' => e = .returned (.tuple #[]) ∧ RdG n w' r x i (if c = 0 then 11 else c) (if c = 0 then i + 1 else j) ∧ Keeps (· = r) W w' ∧ w'.heap.size = W.heap.size := fun W h => (failG_any (m := n) r x i c j 11 (i + 1) W h).mono fun e w' h => ⟨h.1, by have := h.2.1; by_cases hc : c = 0 <;> simpa [hc] using this, h.2.2⟩
  have HN := Lib.hid hN
  have HFL := Lib.hid hfl
  clear hN hfl
  have ha4 : (i : Int) ≤ 9000 := by omega
  have hwr : IntKind.i64.wrap ((i : Int) + 1) = (i : Int) + 1 := by go_unwrap
  have r1 := cellv hp.rd 1 rfl
  have r0 := cellv hp.rd 0 rfl
  have d1 := free_heap hp.rd 1
  have rl := lt_heap hp.rd
  have HP := Lib.hid hp
  clear hp
  have HRD := Lib.hid HP.out.rd
  go_region_held3 (fun w' => w'.cell? ⟨r, 1, none⟩ = some (.int .i64 (i : Nat)))
    ((first | (go_keep; done) | exact cellv HR4.out 1 rfl))
    (((with_reducible refine (HFL.out _ (by first | exact HRD.out.drew | exact HRD.out)).mono ?_); rintro e w4 ⟨rfl, hr4, hk4, hs4⟩; have HR4 := Lib.hid hr4; have HK4 := Lib.hid hk4; clear hr4 hk4 hs4))
  all_goals go_wp2_with fail
  all_goals exact HN.out _ _ (id ⟨rfl, rfl, rfl, rfl, rfl, trivial⟩) (by first | exact HK4.out | exact ((Keeps.refl _ _).drew).trans HK4.out) (HP.out.keeps (by first | exact HK4.out | exact ((Keeps.refl _ _).drew).trans HK4.out) HR4.out)
noncomputable def c_pr_r15 : Code := sub [1, 1, 0, 1, 1, 0, 1, 1, 0, 1, 0, 1, 1, 0, 1, 0] (Tryd.f31.body.getD .skip)
set_option maxRecDepth 1000000 in
set_option maxHeartbeats 16000000 in
theorem pr_r15_wp {Q : Exit → Act → World → Prop} {x : ByteArray} {r i c j n d : Nat} {wo w : World} (hp : FS n wo w r x i c j) (hN : ∀ a' w', Frm 173 [(4, .pointer (some ⟨wo.heap.size, 0, none⟩))] a' → FD n wo w' r x i c j (.int .i64 0) (.string ⟨#[]⟩) (.slice none 0 0) (.slice none 0 0) → Q .normal a' w') : ∀ ac, Frm 173 [(0, .pointer (some ⟨r, 0, none⟩)), (1, .int .i64 (d : Nat)), (4, .pointer (some ⟨wo.heap.size, 0, none⟩))] ac → Code.wp Tryd.prog c_pr_r15 Q ac w := by
  refine frm_open ?_
  refine frame_pr ?_
  intros
  rename_i hq
  obtain ⟨-, -, e0q, e1q, e2q, -⟩ := hq
  have e0q := (Option.some.inj e0q).symm; subst e0q
  have e1q := (Option.some.inj e1q).symm; subst e1q
  have e2q := (Option.some.inj e2q).symm; subst e2q
  conv => arg 2; whnf
  have HN := Lib.hid hN
  clear hN
  have z0 := cellv hp.res 0 rfl
  have z1 := cellv hp.res 1 rfl
  have z2 := cellv hp.res 2 rfl
  have z3 := cellv hp.res 3 rfl
  have zf0 := free_heap hp.res 0
  have zf1 := free_heap hp.res 1
  have zf2 := free_heap hp.res 2
  have zf3 := free_heap hp.res 3
  have zl := lt_heap hp.res
  have r1 := cellv hp.rd 1 rfl
  have r0 := cellv hp.rd 0 rfl
  have d1 := free_heap hp.rd 1
  have rl := lt_heap hp.rd
  have HP := Lib.hid hp
  clear hp
  go_wp2_with fail
  exact HN.out _ _ (id ⟨rfl, rfl, rfl, trivial⟩) (HP.out.put4 _ _ _ _)

end Go.Proofs.YtnoceodmnjhljabDoor
