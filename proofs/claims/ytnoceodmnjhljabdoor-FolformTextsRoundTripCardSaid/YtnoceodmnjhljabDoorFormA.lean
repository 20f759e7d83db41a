/-
  (*folform.reader).form: its first regions, by parts.
-/
import Derived.Test.YtnoceodmnjhljabDoorMapLit
import Derived.Test.YtnoceodmnjhljabDoorFm
import Derived.Deep.DeepCutAuto
import Derived.Deep.RegionHeld3
namespace Go.Proofs.YtnoceodmnjhljabDoor
open Go Go.RowKit
set_option linter.unusedSimpArgs false
set_option linter.unusedVariables false

/-- In form, pair: the reader, the result's block still zero, what was kept. -/
structure FS (n : Nat) (wo w : World) (r : Nat) (x : ByteArray) (i c j : Nat) : Prop where
  rd : RdG n w r x i c j
  res : w.heap[wo.heap.size]? = some (.cells #[.int .i64 0, .string ⟨#[]⟩, .slice none 0 0, .slice none 0 0] 34 (0, 0))
  kp : Keeps (· = r) wo w
  ro : r < wo.heap.size
theorem FS.rl {n : Nat} {wo w : World} {r : Nat} {x : ByteArray} {i c j : Nat} (h : FS n wo w r x i c j) : wo.heap.size < w.heap.size := lt_heap h.res
theorem FS.below {n : Nat} {wo w w' : World} {r : Nat} {x : ByteArray} {i c j : Nat} (h : FS n wo w r x i c j) (hb : Below w.heap.size w w') : FS n wo w' r x i c j :=
  ⟨h.rd.below hb, (hb.block _ h.rl).trans h.res, h.kp.trans (Below.keeps hb _), h.ro⟩
theorem FS.keeps {n n' : Nat} {wo w w' : World} {r : Nat} {x : ByteArray} {i c j i' c' j' : Nat} (h : FS n wo w r x i c j) (hk : Keeps (· = r) w w') (hr : RdG n' w' r x i' c' j') : FS n' wo w' r x i' c' j' :=
  ⟨hr, (hk.block _ h.rl (fun e => by have := h.ro; omega)).trans h.res, h.kp.trans hk, h.ro⟩
theorem FS.step {n : Nat} {wo w w' : World} {r : Nat} {x : ByteArray} {i c j : Nat} (h : FS n wo w r x i c j) (e : w'.heap = w.heap) (hb : Below w.heap.size w w') : FS n wo w' r x i c j := h.below hb
theorem below_nqF {w : World} (n : Nat) : Below w.heap.size w (w.drewN n) := ⟨rfl, rfl, rfl, Nat.le_refl _, fun _ _ => rfl⟩
noncomputable def c_fm_r1 : Code := sub [1, 0, 0] (Tryd.f21.body.getD .skip)
set_option maxRecDepth 1000000 in
set_option maxHeartbeats 16000000 in
theorem fm_r1_wp {Q : Exit → Act → World → Prop} {x : ByteArray} {r i c j n d : Nat} {wo w : World} (hp : FS n wo w r x i c j) (hN : ∀ a', Frm 154 [(0, .pointer (some ⟨r, 0, none⟩)), (1, .int .i64 (d : Nat)), (4, .pointer (some ⟨wo.heap.size, 0, none⟩)), (15, .bool (decide (c ≠ 0)))] a' → Q .normal a' w) : ∀ ac, Frm 154 [(0, .pointer (some ⟨r, 0, none⟩)), (1, .int .i64 (d : Nat)), (4, .pointer (some ⟨wo.heap.size, 0, none⟩))] ac → Code.wp Tryd.prog c_fm_r1 Q ac w := by
  refine frm_open ?_
  refine frame_fm ?_
  intros
  rename_i hq
  obtain ⟨-, -, e0q, e1q, e2q, -⟩ := hq
  have e0q := (Option.some.inj e0q).symm; subst e0q
  have e1q := (Option.some.inj e1q).symm; subst e1q
  have e2q := (Option.some.inj e2q).symm; subst e2q
  conv => arg 2; whnf
  have HN := Lib.hid hN
  clear hN
  have r1 := cellv hp.rd 1 rfl
  have r2 := cellv hp.rd 2 rfl
  have r4 := cellv hp.rd 4 rfl
  have d1 := free_heap hp.rd 1
  have d4 := free_heap hp.rd 4
  have rl := lt_heap hp.rd
  have HP := Lib.hid hp
  clear hp
  by_cases h : c = 0
  · have q1 : ((c : Int) != 0) = false := by rw [bne_eq_false_iff_eq]; omega
    rw [show decide (c ≠ 0) = false from decide_eq_false (fun e => e h)] at HN
    clear h
    go_wp2_with fail
    exact HN.out _ (id ⟨rfl, rfl, rfl, rfl, rfl, rfl, trivial⟩)
  · have q1 : ((c : Int) != 0) = true := by rw [bne_iff_ne]; omega
    rw [show decide (c ≠ 0) = true from decide_eq_true h] at HN
    clear h
    go_wp2_with fail
    exact HN.out _ (id ⟨rfl, rfl, rfl, rfl, rfl, rfl, trivial⟩)
noncomputable def c_fm_r3 : Code := sub [1, 1, 0] (Tryd.f21.body.getD .skip)
set_option maxRecDepth 1000000 in
set_option maxHeartbeats 16000000 in
theorem fm_r3_wp {Q : Exit → Act → World → Prop} {x : ByteArray} {r i c j n d : Nat} {wo w : World} (hp : FS n wo w r x i c j) (hN : ∀ a' w', Frm 154 [(0, .pointer (some ⟨r, 0, none⟩)), (1, .int .i64 (d : Nat)), (4, .pointer (some ⟨wo.heap.size, 0, none⟩)), (5, .int .u8 (byteAt x i : Nat))] a' → FS n wo w' r x i c j → Q .normal a' w') : ∀ ac, Frm 154 [(0, .pointer (some ⟨r, 0, none⟩)), (1, .int .i64 (d : Nat)), (4, .pointer (some ⟨wo.heap.size, 0, none⟩))] ac → Code.wp Tryd.prog c_fm_r3 Q ac w := by
  refine frm_open ?_
  refine frame_fm ?_
  intros
  rename_i hq
  obtain ⟨-, -, e0q, e1q, e2q, -⟩ := hq
  have e0q := (Option.some.inj e0q).symm; subst e0q
  have e1q := (Option.some.inj e1q).symm; subst e1q
  have e2q := (Option.some.inj e2q).symm; subst e2q
  conv => arg 2; whnf
  have hpk : ∀ W, RdG n W r x i c j → Calls Tryd.prog 30 #[.pointer (some ⟨r, 0, none⟩)] W fun e w' => e = .returned (.int .u8 (byteAt x i)) ∧ Below W.heap.size W w' ∧ w'.heap.size = W.heap.size := fun W h => peekG_any r x i c j W h
  have HN := Lib.hid hN
  have HPK := Lib.hid hpk
  clear hN hpk
  have r1 := cellv hp.rd 1 rfl
  have r2 := cellv hp.rd 2 rfl
  have r4 := cellv hp.rd 4 rfl
  have d1 := free_heap hp.rd 1
  have d4 := free_heap hp.rd 4
  have rl := lt_heap hp.rd
  have HP := Lib.hid hp
  clear hp
  go_wp2_with fail
  (with_reducible refine (HPK.out _ HP.out.rd).mono ?_)
  rintro e w1 ⟨rfl, hb1, hs1⟩
  have HB1 := Lib.hid hb1
  clear hb1 hs1
  go_wp2_with fail
  exact HN.out _ _ (id ⟨rfl, rfl, rfl, rfl, rfl, rfl, trivial⟩) (HP.out.below HB1.out)
noncomputable def c_fm_r4 : Code := sub [1, 1, 1, 0, 0] (Tryd.f21.body.getD .skip)
set_option maxRecDepth 1000000 in
set_option maxHeartbeats 16000000 in
theorem fm_r4_wp {Q : Exit → Act → World → Prop} {r b d : Nat} {wo w : World} (hN : ∀ a', Frm 154 [(0, .pointer (some ⟨r, 0, none⟩)), (1, .int .i64 (d : Nat)), (4, .pointer (some ⟨wo.heap.size, 0, none⟩)), (5, .int .u8 (b : Nat)), (35, .bool (decide (¬ startF b)))] a' → Q .normal a' w) : ∀ ac, Frm 154 [(0, .pointer (some ⟨r, 0, none⟩)), (1, .int .i64 (d : Nat)), (4, .pointer (some ⟨wo.heap.size, 0, none⟩)), (5, .int .u8 (b : Nat))] ac → Code.wp Tryd.prog c_fm_r4 Q ac w := by
  refine frm_open ?_
  refine frame_fm ?_
  intros
  rename_i hq
  obtain ⟨-, -, e0q, e1q, e2q, e3q, -⟩ := hq
  have e0q := (Option.some.inj e0q).symm; subst e0q
  have e1q := (Option.some.inj e1q).symm; subst e1q
  have e2q := (Option.some.inj e2q).symm; subst e2q
  have e3q := (Option.some.inj e3q).symm; subst e3q
  conv => arg 2; whnf
  by_cases h1 : b = 45
  · rw [show decide (¬ startF b) = false from decide_eq_false (fun h => h (Or.inl h1))] at hN
    subst h1
    have HN := Lib.hid hN
    clear hN
    go_wp2_with fail
    exact HN.out _ (id ⟨rfl, rfl, rfl, rfl, rfl, rfl, rfl, trivial⟩)
  by_cases h2 : b = 40
  · rw [show decide (¬ startF b) = false from decide_eq_false (fun h => h (Or.inr (Or.inl h2)))] at hN
    subst h2
    have HN := Lib.hid hN
    clear hN
    go_wp2_with fail
    exact HN.out _ (id ⟨rfl, rfl, rfl, rfl, rfl, rfl, rfl, trivial⟩)
  have t1 : ((b : Int) == 45) = false := beq_eq_false_iff_ne.2 (by omega)
  have t2 : ((b : Int) == 40) = false := beq_eq_false_iff_ne.2 (by omega)
  by_cases h3 : 97 ≤ b
  · have t3 : decide ((97 : Int) ≤ (b : Int)) = true := decide_eq_true (by omega)
    by_cases h4 : b ≤ 122
    · have t4 : decide ((b : Int) ≤ 122) = true := decide_eq_true (by omega)
      rw [show decide (¬ startF b) = false from decide_eq_false (fun h => h (Or.inr (Or.inr ⟨h3, h4⟩)))] at hN
      clear h1 h2 h3 h4
      have HN := Lib.hid hN
      clear hN
      go_wp2_with fail
      exact HN.out _ (id ⟨rfl, rfl, rfl, rfl, rfl, rfl, rfl, trivial⟩)
    · have t4 : decide ((b : Int) ≤ 122) = false := decide_eq_false (by omega)
      rw [show decide (¬ startF b) = true from decide_eq_true (fun h => by rcases h with h | h | h <;> omega)] at hN
      clear h1 h2 h3 h4
      have HN := Lib.hid hN
      clear hN
      go_wp2_with fail
      exact HN.out _ (id ⟨rfl, rfl, rfl, rfl, rfl, rfl, rfl, trivial⟩)
  · have t3 : decide ((97 : Int) ≤ (b : Int)) = false := decide_eq_false (by omega)
    rw [show decide (¬ startF b) = true from decide_eq_true (fun h => by rcases h with h | h | h <;> omega)] at hN
    clear h1 h2 h3
    have HN := Lib.hid hN
    clear hN
    go_wp2_with fail
    exact HN.out _ (id ⟨rfl, rfl, rfl, rfl, rfl, rfl, rfl, trivial⟩)
noncomputable def c_fm_r5 : Code := sub [1, 1, 1, 0, 1, 0, 0] (Tryd.f21.body.getD .skip)
set_option maxRecDepth 1000000 in
set_option maxHeartbeats 16000000 in
theorem fm_r5_wp {K : Act → World → Prop} {x : ByteArray} {r i j n d : Nat} {wo w : World} (hp : FS n wo w r x i 0 j) (hN : ∀ a' w', Frm 154 [(0, .pointer (some ⟨r, 0, none⟩)), (1, .int .i64 (d : Nat)), (4, .pointer (some ⟨wo.heap.size, 0, none⟩))] a' → FS n wo w' r x i 11 i → K a' w') : ∀ ac, Frm 154 [(0, .pointer (some ⟨r, 0, none⟩)), (1, .int .i64 (d : Nat)), (4, .pointer (some ⟨wo.heap.size, 0, none⟩))] ac → Code.wp Tryd.prog c_fm_r5 (Exit.then K (fun _ _ _ => False)) ac w := by
  refine frm_open ?_
  refine frame_fm ?_
  intros
  rename_i hq
  obtain ⟨-, -, e0q, e1q, e2q, -⟩ := hq
  have e0q := (Option.some.inj e0q).symm; subst e0q
  have e1q := (Option.some.inj e1q).symm; subst e1q
  have e2q := (Option.some.inj e2q).symm; subst e2q
  conv => arg 2; whnf
  have hfl : ∀ (W : World), RdG n W r x i 0 j → Calls Tryd.prog 22 #[.pointer (some ⟨r, 0, none⟩), .int .i64 11, .int .i64 (i : Nat)] W fun e w' => e = .returned (.tuple #[]) ∧ RdG n w' r x i 11 i ∧ Keeps (· = r) W w' ∧ w'.heap.size = W.heap.size := fun W h => (failG_any (m := n) r x i 0 j 11 i W h).mono fun e w' h => ⟨h.1, by have := h.2.1; rwa [if_pos rfl] at this, h.2.2⟩
  have HN := Lib.hid hN
  have HFL := Lib.hid hfl
  clear hN hfl
  have r1 := cellv hp.rd 1 rfl
  have r2 := cellv hp.rd 2 rfl
  have r4 := cellv hp.rd 4 rfl
  have d1 := free_heap hp.rd 1
  have d4 := free_heap hp.rd 4
  have rl := lt_heap hp.rd
  have HP := Lib.hid hp
  clear hp
  have HRD := Lib.hid HP.out.rd
  go_region_held3 (fun w' => w'.cell? ⟨r, 1, none⟩ = some (.int .i64 (i : Nat)))
    ((first | (go_keep; done) | exact cellv HR4.out 1 rfl))
    (((with_reducible refine (HFL.out _ (by first | exact HRD.out.drew | exact HRD.out)).mono ?_); rintro e w4 ⟨rfl, hr4, hk4, hs4⟩; have HR4 := Lib.hid hr4; have HK4 := Lib.hid hk4; clear hr4 hk4 hs4))
  all_goals go_wp2_with fail
  all_goals exact HN.out _ _ (id ⟨rfl, rfl, rfl, rfl, rfl, trivial⟩) (HP.out.keeps (by first | exact HK4.out | exact ((Keeps.refl _ _).drew).trans HK4.out) HR4.out)
noncomputable def c_fm_r9 : Code := sub [1, 1, 1, 1, 1, 0, 1, 0, 0] (Tryd.f21.body.getD .skip)
set_option maxRecDepth 1000000 in
set_option maxHeartbeats 16000000 in
theorem fm_r9_wp {K : Act → World → Prop} {x : ByteArray} {r i j n d : Nat} {wo w : World} (hp : FS n wo w r x i 0 j) (hN : ∀ a' w', Frm 154 [(0, .pointer (some ⟨r, 0, none⟩)), (1, .int .i64 (d : Nat)), (4, .pointer (some ⟨wo.heap.size, 0, none⟩))] a' → FS n wo w' r x i 1 i → K a' w') : ∀ ac, Frm 154 [(0, .pointer (some ⟨r, 0, none⟩)), (1, .int .i64 (d : Nat)), (4, .pointer (some ⟨wo.heap.size, 0, none⟩))] ac → Code.wp Tryd.prog c_fm_r9 (Exit.then K (fun _ _ _ => False)) ac w := by
  refine frm_open ?_
  refine frame_fm ?_
  intros
  rename_i hq
  obtain ⟨-, -, e0q, e1q, e2q, -⟩ := hq
  have e0q := (Option.some.inj e0q).symm; subst e0q
  have e1q := (Option.some.inj e1q).symm; subst e1q
  have e2q := (Option.some.inj e2q).symm; subst e2q
  conv => arg 2; whnf
  have hfl : ∀ (W : World), RdG n W r x i 0 j → Calls Tryd.prog 22 #[.pointer (some ⟨r, 0, none⟩), .int .i64 1, .int .i64 (i : Nat)] W fun e w' => e = .returned (.tuple #[]) ∧ RdG n w' r x i 1 i ∧ Keeps (· = r) W w' ∧ w'.heap.size = W.heap.size := fun W h => (failG_any (m := n) r x i 0 j 1 i W h).mono fun e w' h => ⟨h.1, by have := h.2.1; rwa [if_pos rfl] at this, h.2.2⟩
  have HN := Lib.hid hN
  have HFL := Lib.hid hfl
  clear hN hfl
  have r1 := cellv hp.rd 1 rfl
  have r2 := cellv hp.rd 2 rfl
  have r4 := cellv hp.rd 4 rfl
  have d1 := free_heap hp.rd 1
  have d4 := free_heap hp.rd 4
  have rl := lt_heap hp.rd
  have HP := Lib.hid hp
  clear hp
  have HRD := Lib.hid HP.out.rd
  go_region_held3 (fun w' => w'.cell? ⟨r, 1, none⟩ = some (.int .i64 (i : Nat)))
    ((first | (go_keep; done) | exact cellv HR4.out 1 rfl))
    (((with_reducible refine (HFL.out _ (by first | exact HRD.out.drew | exact HRD.out)).mono ?_); rintro e w4 ⟨rfl, hr4, hk4, hs4⟩; have HR4 := Lib.hid hr4; have HK4 := Lib.hid hk4; clear hr4 hk4 hs4))
  all_goals go_wp2_with fail
  all_goals exact HN.out _ _ (id ⟨rfl, rfl, rfl, rfl, rfl, trivial⟩) (HP.out.keeps (by first | exact HK4.out | exact ((Keeps.refl _ _).drew).trans HK4.out) HR4.out)
noncomputable def c_fm_r31 : Code := sub [1, 1, 1, 1, 1, 1, 1, 1, 1, 1, 0] (Tryd.f21.body.getD .skip)
set_option maxRecDepth 1000000 in
set_option maxHeartbeats 16000000 in
theorem fm_r31_wp {K : Act → World → Prop} {x : ByteArray} {r i j n d : Nat} {wo w : World} (hp : FS n wo w r x i 0 j) (hN : ∀ a' w', Frm 154 [(0, .pointer (some ⟨r, 0, none⟩)), (1, .int .i64 (d : Nat)), (4, .pointer (some ⟨wo.heap.size, 0, none⟩))] a' → FS n wo w' r x i 11 i → K a' w') : ∀ ac, Frm 154 [(0, .pointer (some ⟨r, 0, none⟩)), (1, .int .i64 (d : Nat)), (4, .pointer (some ⟨wo.heap.size, 0, none⟩))] ac → Code.wp Tryd.prog c_fm_r31 (Exit.then K (fun _ _ _ => False)) ac w := by
  refine frm_open ?_
  refine frame_fm ?_
  intros
  rename_i hq
  obtain ⟨-, -, e0q, e1q, e2q, -⟩ := hq
  have e0q := (Option.some.inj e0q).symm; subst e0q
  have e1q := (Option.some.inj e1q).symm; subst e1q
  have e2q := (Option.some.inj e2q).symm; subst e2q
  conv => arg 2; whnf
  have hfl : ∀ (W : World), RdG n W r x i 0 j → Calls Tryd.prog 22 #[.pointer (some ⟨r, 0, none⟩), .int .i64 11, .int .i64 (i : Nat)] W fun e w' => e = .returned (.tuple #[]) ∧ RdG n w' r x i 11 i ∧ Keeps (· = r) W w' ∧ w'.heap.size = W.heap.size := fun W h => (failG_any (m := n) r x i 0 j 11 i W h).mono fun e w' h => ⟨h.1, by have := h.2.1; rwa [if_pos rfl] at this, h.2.2⟩
  have HN := Lib.hid hN
  have HFL := Lib.hid hfl
  clear hN hfl
  have r1 := cellv hp.rd 1 rfl
  have r2 := cellv hp.rd 2 rfl
  have r4 := cellv hp.rd 4 rfl
  have d1 := free_heap hp.rd 1
  have d4 := free_heap hp.rd 4
  have rl := lt_heap hp.rd
  have HP := Lib.hid hp
  clear hp
  have HRD := Lib.hid HP.out.rd
  go_region_held3 (fun w' => w'.cell? ⟨r, 1, none⟩ = some (.int .i64 (i : Nat)))
    ((first | (go_keep; done) | exact cellv HR4.out 1 rfl))
    (((with_reducible refine (HFL.out _ (by first | exact HRD.out.drew | exact HRD.out)).mono ?_); rintro e w4 ⟨rfl, hr4, hk4, hs4⟩; have HR4 := Lib.hid hr4; have HK4 := Lib.hid hk4; clear hr4 hk4 hs4))
  all_goals go_wp2_with fail
  all_goals exact HN.out _ _ (id ⟨rfl, rfl, rfl, rfl, rfl, trivial⟩) (HP.out.keeps (by first | exact HK4.out | exact ((Keeps.refl _ _).drew).trans HK4.out) HR4.out)
noncomputable def c_fm_r7 : Code := sub [1, 1, 1, 1, 0] (Tryd.f21.body.getD .skip)
set_option maxRecDepth 1000000 in
set_option maxHeartbeats 16000000 in
theorem fm_r7_wp {Q : Exit → Act → World → Prop} {b : Nat} {x : ByteArray} {r i c j n d : Nat} {wo w : World} (hn : n ≤ 5000) (hp : FS n wo w r x i c j) (hN : ∀ a' w', Frm 154 [(0, .pointer (some ⟨r, 0, none⟩)), (1, .int .i64 (d : Nat)), (4, .pointer (some ⟨wo.heap.size, 0, none⟩)), (5, .int .u8 (b : Nat))] a' → FS (n + 1) wo w' r x i c j → Q .normal a' w') : ∀ ac, Frm 154 [(0, .pointer (some ⟨r, 0, none⟩)), (1, .int .i64 (d : Nat)), (4, .pointer (some ⟨wo.heap.size, 0, none⟩)), (5, .int .u8 (b : Nat))] ac → Code.wp Tryd.prog c_fm_r7 Q ac w := by
  refine frm_open ?_
  refine frame_fm ?_
  intros
  rename_i hq
  obtain ⟨-, -, e0q, e1q, e2q, e3q, -⟩ := hq
  have e0q := (Option.some.inj e0q).symm; subst e0q
  have e1q := (Option.some.inj e1q).symm; subst e1q
  have e2q := (Option.some.inj e2q).symm; subst e2q
  have e3q := (Option.some.inj e3q).symm; subst e3q
  conv => arg 2; whnf
  have HN := Lib.hid hN
  clear hN
  have r1 := cellv hp.rd 1 rfl
  have r2 := cellv hp.rd 2 rfl
  have r4 := cellv hp.rd 4 rfl
  have d1 := free_heap hp.rd 1
  have d4 := free_heap hp.rd 4
  have rl := lt_heap hp.rd
  have HP := Lib.hid hp
  clear hp
  have ha4 : (n : Int) ≤ 5000 := by omega
  go_wp2_with fail
  refine HN.out _ _ (id ⟨rfl, rfl, rfl, rfl, rfl, rfl, trivial⟩) (HP.out.keeps ((Keeps.refl (· = r) w).set (b := r) (Or.inl rfl) 4 _) ?_)
  exact show RdG (n + 1) (w.setCell ⟨r, 4, none⟩ (.int .i64 ((n : Int) + 1))) r x i c j by simpa [RdG] using heap_set HP.out.rd 4 (.int .i64 ((n : Int) + 1))
noncomputable def c_fm_r8 : Code := sub [1, 1, 1, 1, 1, 0, 0] (Tryd.f21.body.getD .skip)
set_option maxRecDepth 1000000 in
set_option maxHeartbeats 16000000 in
theorem fm_r8_wp {Q : Exit → Act → World → Prop} {b : Nat} {x : ByteArray} {r i c j n d : Nat} {wo w : World} (hp : FS n wo w r x i c j) (hN : ∀ a', Frm 154 [(0, .pointer (some ⟨r, 0, none⟩)), (1, .int .i64 (d : Nat)), (4, .pointer (some ⟨wo.heap.size, 0, none⟩)), (5, .int .u8 (b : Nat)), (61, .bool (decide (200 < n ∨ 40 < d)))] a' → Q .normal a' w) : ∀ ac, Frm 154 [(0, .pointer (some ⟨r, 0, none⟩)), (1, .int .i64 (d : Nat)), (4, .pointer (some ⟨wo.heap.size, 0, none⟩)), (5, .int .u8 (b : Nat))] ac → Code.wp Tryd.prog c_fm_r8 Q ac w := by
  refine frm_open ?_
  refine frame_fm ?_
  intros
  rename_i hq
  obtain ⟨-, -, e0q, e1q, e2q, e3q, -⟩ := hq
  have e0q := (Option.some.inj e0q).symm; subst e0q
  have e1q := (Option.some.inj e1q).symm; subst e1q
  have e2q := (Option.some.inj e2q).symm; subst e2q
  have e3q := (Option.some.inj e3q).symm; subst e3q
  conv => arg 2; whnf
  have r1 := cellv hp.rd 1 rfl
  have r2 := cellv hp.rd 2 rfl
  have r4 := cellv hp.rd 4 rfl
  have d1 := free_heap hp.rd 1
  have d4 := free_heap hp.rd 4
  have rl := lt_heap hp.rd
  have HP := Lib.hid hp
  clear hp
  by_cases h1 : 200 < n
  · have t1 : decide ((200 : Int) < (n : Int)) = true := decide_eq_true (by omega)
    rw [show decide (200 < n ∨ 40 < d) = true from decide_eq_true (Or.inl h1)] at hN
    clear h1
    have HN := Lib.hid hN
    clear hN
    go_wp2_with fail
    exact HN.out _ (id ⟨rfl, rfl, rfl, rfl, rfl, rfl, rfl, trivial⟩)
  have t1 : decide ((200 : Int) < (n : Int)) = false := decide_eq_false (by omega)
  by_cases h2 : 40 < d
  · have t2 : decide ((40 : Int) < (d : Int)) = true := decide_eq_true (by omega)
    rw [show decide (200 < n ∨ 40 < d) = true from decide_eq_true (Or.inr h2)] at hN
    clear h1 h2
    have HN := Lib.hid hN
    clear hN
    go_wp2_with fail
    exact HN.out _ (id ⟨rfl, rfl, rfl, rfl, rfl, rfl, rfl, trivial⟩)
  · have t2 : decide ((40 : Int) < (d : Int)) = false := decide_eq_false (by omega)
    rw [show decide (200 < n ∨ 40 < d) = false from decide_eq_false (fun h => by omega)] at hN
    clear h1 h2
    have HN := Lib.hid hN
    clear hN
    go_wp2_with fail
    exact HN.out _ (id ⟨rfl, rfl, rfl, rfl, rfl, rfl, rfl, trivial⟩)

end Go.Proofs.YtnoceodmnjhljabDoor
