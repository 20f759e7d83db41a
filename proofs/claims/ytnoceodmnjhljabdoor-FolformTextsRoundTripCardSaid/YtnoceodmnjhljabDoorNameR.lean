/-
  (*folform.reader).name: the walk, by parts.
-/
import Derived.Test.YtnoceodmnjhljabDoorReaderF
import Derived.Test.YtnoceodmnjhljabDoorName
import Derived.Test.YtnoceodmnjhljabDoorParts
import Derived.Deep.DeepCutAuto
import Derived.BigQuiet
import Derived.Deep.RegionHeld3
namespace Go.Proofs.YtnoceodmnjhljabDoor
open Go Go.RowKit
set_option linter.unusedSimpArgs false
set_option linter.unusedVariables false

theorem below_nq0 {w : World} (n : Nat) : Below w.heap.size w (w.drewN n) := ⟨rfl, rfl, rfl, Nat.le_refl _, fun _ _ => rfl⟩
set_option maxRecDepth 1000000 in
theorem frame_nm {P : Act → Prop} (h : ∀ x0 x1 x2 x3 x4 x5 x6 x7 x8 x9 x10 x11 x12 x13 x14 x15 x16 x17 x18 x19 x20 x21 x22 x23 x24 x25 x26 x27 x28 x29 x30 x31 x32 x33 x34 x35 x36 x37 x38 x39 x40 x41 x42 x43 x44 x45 x46 x47 x48 x49 x50 x51 x52 x53 x54 x55 x56 x57 x58 x59 x60 x61 x62 x63 x64 x65 x66 x67 x68 x69 x70 x71 x72 x73 x74 x75 x76 x77 x78 x79 x80 x81 x82 x83 x84 x85 x86 x87 x88 x89 x90 : Value, P ⟨(x0 :: x1 :: x2 :: x3 :: x4 :: x5 :: x6 :: x7 :: x8 :: x9 :: x10 :: x11 :: x12 :: x13 :: x14 :: x15 :: x16 :: x17 :: x18 :: x19 :: x20 :: x21 :: x22 :: x23 :: x24 :: x25 :: x26 :: x27 :: x28 :: x29 :: x30 :: x31 :: x32 :: x33 :: x34 :: x35 :: x36 :: x37 :: x38 :: x39 :: x40 :: x41 :: x42 :: x43 :: x44 :: x45 :: x46 :: x47 :: x48 :: x49 :: x50 :: x51 :: x52 :: x53 :: x54 :: x55 :: x56 :: x57 :: x58 :: x59 :: x60 :: x61 :: x62 :: x63 :: x64 :: x65 :: x66 :: x67 :: x68 :: x69 :: x70 :: x71 :: x72 :: x73 :: x74 :: x75 :: x76 :: x77 :: x78 :: x79 :: x80 :: x81 :: x82 :: x83 :: x84 :: x85 :: x86 :: x87 :: x88 :: x89 :: x90 :: []).toArray, []⟩) : ∀ a : Act, a.tmps.toList.length = 91 → a.defers = [] → P a := by
  rintro ⟨⟨l⟩, d⟩ hs hd
  simp only at hd
  subst hd
  revert l
  show ∀ l : List Value, l.length = 91 → P ⟨⟨l⟩, []⟩
  refine openS (n := 90) (fun x0 => ?_)
  refine openS (n := 89) (fun x1 => ?_)
  refine openS (n := 88) (fun x2 => ?_)
  refine openS (n := 87) (fun x3 => ?_)
  refine openS (n := 86) (fun x4 => ?_)
  refine openS (n := 85) (fun x5 => ?_)
  refine openS (n := 84) (fun x6 => ?_)
  refine openS (n := 83) (fun x7 => ?_)
  refine openS (n := 82) (fun x8 => ?_)
  refine openS (n := 81) (fun x9 => ?_)
  refine openS (n := 80) (fun x10 => ?_)
  refine openS (n := 79) (fun x11 => ?_)
  refine openS (n := 78) (fun x12 => ?_)
  refine openS (n := 77) (fun x13 => ?_)
  refine openS (n := 76) (fun x14 => ?_)
  refine openS (n := 75) (fun x15 => ?_)
  refine openS (n := 74) (fun x16 => ?_)
  refine openS (n := 73) (fun x17 => ?_)
  refine openS (n := 72) (fun x18 => ?_)
  refine openS (n := 71) (fun x19 => ?_)
  refine openS (n := 70) (fun x20 => ?_)
  refine openS (n := 69) (fun x21 => ?_)
  refine openS (n := 68) (fun x22 => ?_)
  refine openS (n := 67) (fun x23 => ?_)
  refine openS (n := 66) (fun x24 => ?_)
  refine openS (n := 65) (fun x25 => ?_)
  refine openS (n := 64) (fun x26 => ?_)
  refine openS (n := 63) (fun x27 => ?_)
  refine openS (n := 62) (fun x28 => ?_)
  refine openS (n := 61) (fun x29 => ?_)
  refine openS (n := 60) (fun x30 => ?_)
  refine openS (n := 59) (fun x31 => ?_)
  refine openS (n := 58) (fun x32 => ?_)
  refine openS (n := 57) (fun x33 => ?_)
  refine openS (n := 56) (fun x34 => ?_)
  refine openS (n := 55) (fun x35 => ?_)
  refine openS (n := 54) (fun x36 => ?_)
  refine openS (n := 53) (fun x37 => ?_)
  refine openS (n := 52) (fun x38 => ?_)
  refine openS (n := 51) (fun x39 => ?_)
  refine openS (n := 50) (fun x40 => ?_)
  refine openS (n := 49) (fun x41 => ?_)
  refine openS (n := 48) (fun x42 => ?_)
  refine openS (n := 47) (fun x43 => ?_)
  refine openS (n := 46) (fun x44 => ?_)
  refine openS (n := 45) (fun x45 => ?_)
  refine openS (n := 44) (fun x46 => ?_)
  refine openS (n := 43) (fun x47 => ?_)
  refine openS (n := 42) (fun x48 => ?_)
  refine openS (n := 41) (fun x49 => ?_)
  refine openS (n := 40) (fun x50 => ?_)
  refine openS (n := 39) (fun x51 => ?_)
  refine openS (n := 38) (fun x52 => ?_)
  refine openS (n := 37) (fun x53 => ?_)
  refine openS (n := 36) (fun x54 => ?_)
  refine openS (n := 35) (fun x55 => ?_)
  refine openS (n := 34) (fun x56 => ?_)
  refine openS (n := 33) (fun x57 => ?_)
  refine openS (n := 32) (fun x58 => ?_)
  refine openS (n := 31) (fun x59 => ?_)
  refine openS (n := 30) (fun x60 => ?_)
  refine openS (n := 29) (fun x61 => ?_)
  refine openS (n := 28) (fun x62 => ?_)
  refine openS (n := 27) (fun x63 => ?_)
  refine openS (n := 26) (fun x64 => ?_)
  refine openS (n := 25) (fun x65 => ?_)
  refine openS (n := 24) (fun x66 => ?_)
  refine openS (n := 23) (fun x67 => ?_)
  refine openS (n := 22) (fun x68 => ?_)
  refine openS (n := 21) (fun x69 => ?_)
  refine openS (n := 20) (fun x70 => ?_)
  refine openS (n := 19) (fun x71 => ?_)
  refine openS (n := 18) (fun x72 => ?_)
  refine openS (n := 17) (fun x73 => ?_)
  refine openS (n := 16) (fun x74 => ?_)
  refine openS (n := 15) (fun x75 => ?_)
  refine openS (n := 14) (fun x76 => ?_)
  refine openS (n := 13) (fun x77 => ?_)
  refine openS (n := 12) (fun x78 => ?_)
  refine openS (n := 11) (fun x79 => ?_)
  refine openS (n := 10) (fun x80 => ?_)
  refine openS (n := 9) (fun x81 => ?_)
  refine openS (n := 8) (fun x82 => ?_)
  refine openS (n := 7) (fun x83 => ?_)
  refine openS (n := 6) (fun x84 => ?_)
  refine openS (n := 5) (fun x85 => ?_)
  refine openS (n := 4) (fun x86 => ?_)
  refine openS (n := 3) (fun x87 => ?_)
  refine openS (n := 2) (fun x88 => ?_)
  refine openS (n := 1) (fun x89 => ?_)
  refine openS (n := 0) (fun x90 => ?_)
  refine open0 ?_
  exact h x0 x1 x2 x3 x4 x5 x6 x7 x8 x9 x10 x11 x12 x13 x14 x15 x16 x17 x18 x19 x20 x21 x22 x23 x24 x25 x26 x27 x28 x29 x30 x31 x32 x33 x34 x35 x36 x37 x38 x39 x40 x41 x42 x43 x44 x45 x46 x47 x48 x49 x50 x51 x52 x53 x54 x55 x56 x57 x58 x59 x60 x61 x62 x63 x64 x65 x66 x67 x68 x69 x70 x71 x72 x73 x74 x75 x76 x77 x78 x79 x80 x81 x82 x83 x84 x85 x86 x87 x88 x89 x90
noncomputable def c_nm_r4 : Code := sub [1, 1, 1, 0, 0, 0, 0, 0] (Tryd.f32.body.getD .skip)
set_option maxRecDepth 1000000 in
set_option maxHeartbeats 16000000 in
theorem nm_r4_wp {Q : Exit → Act → World → Prop} {x : ByteArray} {r i a j m : Nat} {w : World} (hx : x.size ≤ 4000) (hia : i ≤ a) (hax : a ≤ x.size) (hr : RdG m w r x a 0 j) (hN : ∀ a' w', Frm 91 [(0, .pointer (some ⟨r, 0, none⟩)), (3, .int .i64 (i : Nat)), (53, .bool (decide (a < x.size ∧ a - i < 30 ∧ okName (x.extract i (a + 1)) = true)))] a' → w'.heap = w.heap → Below w.heap.size w w' → Q .normal a' w') : ∀ ac, Frm 91 [(0, .pointer (some ⟨r, 0, none⟩)), (3, .int .i64 (i : Nat))] ac → Code.wp Tryd.prog c_nm_r4 Q ac w := by
  refine frm_open ?_
  refine frame_nm ?_
  intros
  rename_i hq
  obtain ⟨-, -, e0q, e1q, -⟩ := hq
  have e0q := (Option.some.inj e0q).symm; subst e0q
  have e1q := (Option.some.inj e1q).symm; subst e1q
  conv => arg 2; whnf
  obtain ⟨bo, hbo⟩ : ∃ b, okName (x.extract i (a + 1)) = b := ⟨_, rfl⟩
  have hnm0 : ∀ nq : Nat, Calls Tryd.prog 15 #[.string (x.extract i (a + 1))] (w.drewN nq) fun e w' => e = .returned (.bool bo) ∧ w' = w.drewN nq := fun nq => (name_any (x.extract i (a + 1)) (w.drewN nq) (ext_le2 x i (a + 1) hx)).mono fun e w' h => ⟨by rw [h.1, hbo], h.2.symm⟩
  rw [hbo] at hN
  have HN := Lib.hid hN
  have HNM0 := Lib.hid hnm0
  clear hN hnm0
  have r0 := cellv hr 0 rfl
  have r1 := cellv hr 1 rfl
  have r2 := cellv hr 2 rfl
  have r3 := cellv hr 3 rfl
  have d1 := free_heap hr 1
  have rl := lt_heap hr
  have HRD := Lib.hid hr
  clear hr
  by_cases hlt2 : a < x.size
  case neg =>
    have t1 : decide ((a : Int) < (x.size : Int)) = false := decide_eq_false (by omega)
    rw [show decide (a < x.size ∧ a - i < 30 ∧ bo = true) = false from decide_eq_false (fun h => hlt2 h.1)] at HN
    go_big_quiet (fail)
    go_wp2_with fail
    exact HN.out _ _ (id ⟨rfl, rfl, rfl, rfl, rfl, trivial⟩) rfl (below_nq0 _)
  have t1 : decide ((a : Int) < (x.size : Int)) = true := decide_eq_true (by omega)
  by_cases h30 : a - i < 30
  case neg =>
    have t2 : decide ((a : Int) - (i : Int) < 30) = false := decide_eq_false (by omega)
    rw [show decide (a < x.size ∧ a - i < 30 ∧ bo = true) = false from decide_eq_false (fun h => h30 h.2.1)] at HN
    go_big_quiet (fail)
    go_wp2_with fail
    exact HN.out _ _ (id ⟨rfl, rfl, rfl, rfl, rfl, trivial⟩) rfl (below_nq0 _)
  have t2 : decide ((a : Int) - (i : Int) < 30) = true := decide_eq_true (by omega)
  have t3 : (a : Int) + 1 ≤ (x.size : Int) := by omega
  have t4 : (i : Int) ≤ (a : Int) + 1 := by omega
  have t5 : (0 : Int) ≤ (i : Int) := by omega
  have ha4 : (a : Int) ≤ 4000 := by omega
  rw [show decide (a < x.size ∧ a - i < 30 ∧ bo = true) = bo from by cases bo <;> simp [hlt2, h30]] at HN
  go_big_quiet (with_reducible exact Calls.quiet_of_same (HNM0.out _))
  go_wp2_with fail
  exact HN.out _ _ (id ⟨rfl, rfl, rfl, rfl, rfl, trivial⟩) rfl (below_nq0 _)
noncomputable def c_nm_r5 : Code := sub [1, 1, 1, 0, 0, 0, 1, 0] (Tryd.f32.body.getD .skip)
set_option maxRecDepth 1000000 in
set_option maxHeartbeats 16000000 in
theorem nm_r5_wp {Q : Exit → Act → World → Prop} {x : ByteArray} {r i a j m : Nat} {w : World} (hx : x.size ≤ 4000) (hax : a < x.size) (hr : RdG m w r x a 0 j) (hN : ∀ a' w', Frm 91 [(0, .pointer (some ⟨r, 0, none⟩)), (3, .int .i64 (i : Nat))] a' → RdG m w' r x (a + 1) 0 j → Keeps (· = r) w w' → w'.heap.size = w.heap.size → Q .normal a' w') : ∀ ac, Frm 91 [(0, .pointer (some ⟨r, 0, none⟩)), (3, .int .i64 (i : Nat))] ac → Code.wp Tryd.prog c_nm_r5 Q ac w := by
  refine frm_open ?_
  refine frame_nm ?_
  intros
  rename_i hq
  obtain ⟨-, -, e0q, e1q, -⟩ := hq
  have e0q := (Option.some.inj e0q).symm; subst e0q
  have e1q := (Option.some.inj e1q).symm; subst e1q
  conv => arg 2; whnf
  have HN := Lib.hid hN
  clear hN
  have r0 := cellv hr 0 rfl
  have r1 := cellv hr 1 rfl
  have r2 := cellv hr 2 rfl
  have r3 := cellv hr 3 rfl
  have d1 := free_heap hr 1
  have rl := lt_heap hr
  have HRD := Lib.hid hr
  clear hr
  have ha4 : (a : Int) ≤ 4000 := by omega
  go_wp2_with fail
  refine HN.out _ _ (id ⟨rfl, rfl, rfl, rfl, trivial⟩) ?_ ?_ (by simp only [size_set])
  · exact show RdG m (w.setCell ⟨r, 1, none⟩ (.int .i64 ((a : Int) + 1))) r x (a + 1) 0 j by simpa [RdG] using heap_set HRD.out 1 (.int .i64 ((a : Int) + 1))
  · exact (Keeps.refl (· = r) w).set (b := r) (Or.inl rfl) 1 _
noncomputable def c_nm_loop : Code := sub [1, 1, 1, 0, 0] (Tryd.f32.body.getD .skip)
theorem nm_loop_wp {Q : Exit → Act → World → Prop} {x : ByteArray} {r i j m : Nat} {w : World} (hx : x.size ≤ 4000) (hi : i ≤ x.size) (hr : RdG m w r x i 0 j)
    (hX : ∀ a' w', Frm 91 [(0, .pointer (some ⟨r, 0, none⟩)), (3, .int .i64 (i : Nat))] a' → RdG m w' r x (nameE x i) 0 j → Keeps (· = r) w w' → w'.heap.size = w.heap.size → Q (.exit 0) a' w') : ∀ ac, Frm 91 [(0, .pointer (some ⟨r, 0, none⟩)), (3, .int .i64 (i : Nat))] ac → Code.wp Tryd.prog c_nm_loop Q ac w := by
  intro a0 hf0
  conv => arg 2; whnf
  refine wp_loopR (fun g a' w' => ∃ a : Nat, i ≤ a ∧ a ≤ x.size ∧ a + g = x.size + 1 ∧ nameG x i g a = nameE x i ∧ RdG m w' r x a 0 j ∧ Keeps (· = r) w w' ∧ w'.heap.size = w.heap.size ∧ Frm 91 [(0, .pointer (some ⟨r, 0, none⟩)), (3, .int .i64 (i : Nat))] a') (x.size + 1 - i) ⟨i, Nat.le_refl _, hi, by omega, rfl, hr, Keeps.refl _ _, rfl, hf0⟩ ?_
  rintro g a1 w1 ⟨a, hia, hax, hag, hg, hr1, hk1, hs1, hfr⟩
  refine wp_seq ?_
  refine wp_seq ?_
  refine nm_r4_wp hx hia hax hr1 (fun a2 w2 h2 e2 b2 => ?_) a1 hfr
  have hr2 : RdG m w2 r x a 0 j := by unfold RdG; rw [e2]; exact hr1
  have hk2 : Keeps (· = r) w w2 := hk1.trans (Below.keeps b2 _)
  have hs2 : w2.heap.size = w.heap.size := by rw [e2]; exact hs1
  have h2d : Frm 91 [(0, .pointer (some ⟨r, 0, none⟩)), (3, .int .i64 (i : Nat))] a2 := have h := h2; ⟨h.1, h.2.1, h.2.2.1, h.2.2.2.1, trivial⟩
  by_cases hs : (a < x.size ∧ a - i < 30 ∧ okName (x.extract i (a + 1)) = true)
  · refine wp_cond_true ((h2.eval (k := 53) (v := .bool (decide (a < x.size ∧ a - i < 30 ∧ okName (x.extract i (a + 1)) = true))) (by simp)).trans (by rw [decide_eq_true hs])) ?_
    refine wp_skip ?_
    show Code.wp _ _ _ a2 w2
    refine wp_block ?_
    refine nm_r5_wp hx hs.1 hr2 (fun a3 w3 h3 r3 k3 s3 => ?_) a2 h2d
    obtain ⟨g2, rfl⟩ : ∃ g2, g = g2 + 1 := ⟨g - 1, by omega⟩
    rw [nameG_go2 hs] at hg
    exact ⟨g2, Nat.lt_succ_self _, a + 1, by omega, by have := hs.1; omega, by omega, hg, r3, hk2.trans k3, s3.trans hs2, h3⟩
  · refine wp_cond_false ((h2.eval (k := 53) (v := .bool (decide (a < x.size ∧ a - i < 30 ∧ okName (x.extract i (a + 1)) = true))) (by simp)).trans (by rw [decide_eq_false hs])) ?_
    have hE2 : nameE x i = a := hg.symm.trans (nameG_stop2 hs)
    rw [hE2] at hX
    exact wp_exit (hX a2 w2 h2d hr2 hk2 hs2)
noncomputable def c_nm_r6 : Code := sub [1, 1, 1, 1, 0, 0] (Tryd.f32.body.getD .skip)
set_option maxRecDepth 1000000 in
set_option maxHeartbeats 16000000 in
theorem nm_r6_wp {Q : Exit → Act → World → Prop} {x : ByteArray} {r i a j m : Nat} {w : World} (hr : RdG m w r x a 0 j) (hN : ∀ a', Frm 91 [(0, .pointer (some ⟨r, 0, none⟩)), (3, .int .i64 (i : Nat)), (69, .bool (decide (a = i)))] a' → Q .normal a' w) : ∀ ac, Frm 91 [(0, .pointer (some ⟨r, 0, none⟩)), (3, .int .i64 (i : Nat))] ac → Code.wp Tryd.prog c_nm_r6 Q ac w := by
  refine frm_open ?_
  refine frame_nm ?_
  intros
  rename_i hq
  obtain ⟨-, -, e0q, e1q, -⟩ := hq
  have e0q := (Option.some.inj e0q).symm; subst e0q
  have e1q := (Option.some.inj e1q).symm; subst e1q
  conv => arg 2; whnf
  have HN := Lib.hid hN
  clear hN
  have r0 := cellv hr 0 rfl
  have r1 := cellv hr 1 rfl
  have r2 := cellv hr 2 rfl
  have r3 := cellv hr 3 rfl
  have d1 := free_heap hr 1
  have rl := lt_heap hr
  have HRD := Lib.hid hr
  clear hr
  by_cases h : a = i
  · have q1 : ((a : Int) == (i : Int)) = true := by rw [beq_iff_eq]; omega
    rw [show decide (a = i) = true from decide_eq_true h] at HN
    clear h
    go_wp2_with fail
    exact HN.out _ (id ⟨rfl, rfl, rfl, rfl, rfl, trivial⟩)
  · have q1 : ((a : Int) == (i : Int)) = false := beq_eq_false_iff_ne.2 (by omega)
    rw [show decide (a = i) = false from decide_eq_false h] at HN
    clear h
    go_wp2_with fail
    exact HN.out _ (id ⟨rfl, rfl, rfl, rfl, rfl, trivial⟩)
theorem RdG.drew {m r i c j : Nat} {x : ByteArray} {w : World} (h : RdG m w r x i c j) : RdG m w.drew r x i c j := h
noncomputable def c_nm_r7 : Code := sub [1, 1, 1, 1, 0, 1, 0] (Tryd.f32.body.getD .skip)
set_option maxRecDepth 1000000 in
set_option maxHeartbeats 16000000 in
theorem nm_r7_wp {K : Act → World → Prop} {x : ByteArray} {r i a j m : Nat} {w : World} (hr : RdG m w r x a 0 j) (hN : ∀ a' w', Frm 91 [(0, .pointer (some ⟨r, 0, none⟩)), (3, .int .i64 (i : Nat))] a' → RdG m w' r x a 11 a → Keeps (· = r) w w' → w'.heap.size = w.heap.size → K a' w') : ∀ ac, Frm 91 [(0, .pointer (some ⟨r, 0, none⟩)), (3, .int .i64 (i : Nat))] ac → Code.wp Tryd.prog c_nm_r7 (Exit.then K (fun _ _ _ => False)) ac w := by
  refine frm_open ?_
  refine frame_nm ?_
  intros
  rename_i hq
  obtain ⟨-, -, e0q, e1q, -⟩ := hq
  have e0q := (Option.some.inj e0q).symm; subst e0q
  have e1q := (Option.some.inj e1q).symm; subst e1q
  conv => arg 2; whnf
  have hfl : ∀ (W : World), RdG m W r x a 0 j → Calls Tryd.prog 22 #[.pointer (some ⟨r, 0, none⟩), .int .i64 11, .int .i64 (a : Nat)] W fun e w' => e = .returned (.tuple #[]) ∧ RdG m w' r x a 11 a ∧ Keeps (· = r) W w' ∧ w'.heap.size = W.heap.size := fun W h => (failG_any (m := m) r x a 0 j 11 a W h).mono fun e w' h => ⟨h.1, by have := h.2.1; rwa [if_pos rfl] at this, h.2.2⟩
  have HN := Lib.hid hN
  have HFL := Lib.hid hfl
  clear hN hfl
  have r0 := cellv hr 0 rfl
  have r1 := cellv hr 1 rfl
  have r2 := cellv hr 2 rfl
  have r3 := cellv hr 3 rfl
  have d1 := free_heap hr 1
  have rl := lt_heap hr
  have HRD := Lib.hid hr
  clear hr
  go_region_held3 (fun w' => w'.cell? ⟨r, 1, none⟩ = some (.int .i64 (a : Nat)))
    ((first | (go_keep; done) | exact cellv HR4.out 1 rfl))
    (((with_reducible refine (HFL.out _ (by first | exact HRD.out.drew | exact HRD.out)).mono ?_); rintro e w4 ⟨rfl, hr4, hk4, hs4⟩; have HR4 := Lib.hid hr4; have HK4 := Lib.hid hk4; have HS4 := Lib.hid hs4; clear hr4 hk4 hs4))
  all_goals go_wp2_with fail
  all_goals exact HN.out _ _ (id ⟨rfl, rfl, rfl, rfl, trivial⟩) HR4.out (by first | exact HK4.out | exact ((Keeps.refl _ _).drew).trans HK4.out) (by first | exact HS4.out | (rw [HS4.out]; rfl))
noncomputable def c_nm_r8 : Code := sub [1, 1, 1, 1, 1] (Tryd.f32.body.getD .skip)
set_option maxRecDepth 1000000 in
set_option maxHeartbeats 16000000 in
theorem nm_r8_wp {Q : Exit → Act → World → Prop} {x : ByteArray} {r i a c j m : Nat} {w : World} (hax : a ≤ x.size) (hia : i ≤ a) (hr : RdG m w r x a c j) (hR : ∀ a' w', Frm 91 [(2, .string (x.extract i a))] a' → w'.heap = w.heap → Below w.heap.size w w' → Q .ret a' w') : ∀ ac, Frm 91 [(0, .pointer (some ⟨r, 0, none⟩)), (3, .int .i64 (i : Nat))] ac → Code.wp Tryd.prog c_nm_r8 Q ac w := by
  refine frm_open ?_
  refine frame_nm ?_
  intros
  rename_i hq
  obtain ⟨-, -, e0q, e1q, -⟩ := hq
  have e0q := (Option.some.inj e0q).symm; subst e0q
  have e1q := (Option.some.inj e1q).symm; subst e1q
  conv => arg 2; whnf
  have HR := Lib.hid hR
  clear hR
  have r0 := cellv hr 0 rfl
  have r1 := cellv hr 1 rfl
  have r2 := cellv hr 2 rfl
  have r3 := cellv hr 3 rfl
  have d1 := free_heap hr 1
  have rl := lt_heap hr
  have HRD := Lib.hid hr
  clear hr
  have u1 : (a : Int) ≤ (x.size : Int) := by omega
  have u2 : (i : Int) ≤ (a : Int) := by omega
  have u3 : (0 : Int) ≤ (i : Int) := by omega
  go_upto_region 8 with (fail)
  go_big_quiet (fail)
  go_wp2_with fail
  exact HR.out _ _ (id ⟨rfl, rfl, rfl, trivial⟩) rfl (below_nq0 _)
noncomputable def c_nm_tail : Code := sub [1, 1, 1, 1] (Tryd.f32.body.getD .skip)
theorem nm_tail_wp {Q : Exit → Act → World → Prop} {x : ByteArray} {r i j m : Nat} {w0 w : World} (hi : i ≤ x.size) (hr : RdG m w r x (nameE x i) 0 j) (hk : Keeps (· = r) w0 w) (hs : w.heap.size = w0.heap.size)
    (hR : ∀ a' w', Frm 91 [(2, .string (x.extract i (nameE x i)))] a' → ((nameE x i = i → RdG m w' r x i 11 i) ∧ (nameE x i ≠ i → RdG m w' r x (nameE x i) 0 j) ∧ Keeps (· = r) w0 w' ∧ w'.heap.size = w0.heap.size) → Q .ret a' w') : ∀ ac, Frm 91 [(0, .pointer (some ⟨r, 0, none⟩)), (3, .int .i64 (i : Nat))] ac → Code.wp Tryd.prog c_nm_tail Q ac w := by
  intro a0 hf0
  conv => arg 2; whnf
  have he1 := nameE_ge x i
  have he2 := nameE_top hi
  refine wp_seq ?_
  refine wp_seq ?_
  refine nm_r6_wp hr (fun a1 h1 => ?_) a0 hf0
  have h1d : Frm 91 [(0, .pointer (some ⟨r, 0, none⟩)), (3, .int .i64 (i : Nat))] a1 := have h := h1; ⟨h.1, h.2.1, h.2.2.1, h.2.2.2.1, trivial⟩
  by_cases he : nameE x i = i
  · refine wp_cond_true ((h1.eval (k := 69) (v := .bool (decide (nameE x i = i))) (by simp)).trans (by rw [decide_eq_true he])) ?_
    refine Code.wp_mono (Q := Exit.then (fun a' w' => Frm 91 [(0, .pointer (some ⟨r, 0, none⟩)), (3, .int .i64 (i : Nat))] a' ∧ RdG m w' r x (nameE x i) 11 (nameE x i) ∧ Keeps (· = r) w w' ∧ w'.heap.size = w.heap.size) (fun _ _ _ => False)) ?_ (nm_r7_wp hr (fun a2 w2 h2 h3 h4 h5 => ⟨h2, h3, h4, h5⟩) a1 h1d)
    intro e a2 w2 h
    cases e with
    | normal =>
      obtain ⟨h2, h3, h4, h5⟩ := h
      refine nm_r8_wp he2 he1 h3 (fun a3 w3 h6 e6 b6 => ?_) a2 h2
      refine hR a3 w3 h6 ⟨fun _ => ?_, fun h => absurd he h, (hk.trans h4).trans (Below.keeps b6 _), by rw [e6, h5, hs]⟩
      rw [he] at h3
      unfold RdG
      rw [e6]; exact h3
    | _ => exact h.elim
  · refine wp_cond_false ((h1.eval (k := 69) (v := .bool (decide (nameE x i = i))) (by simp)).trans (by rw [decide_eq_false he])) ?_
    refine wp_skip ?_
    refine nm_r8_wp he2 he1 hr (fun a3 w3 h6 e6 b6 => ?_) a1 h1d
    refine hR a3 w3 h6 ⟨fun h => absurd h he, fun _ => ?_, hk.trans (Below.keeps b6 _), by rw [e6, hs]⟩
    unfold RdG
    rw [e6]; exact hr
set_option maxRecDepth 1000000 in
theorem nm_ret_wp {R : Ending → World → Prop} {w' : World} {s : ByteArray} (hR : R (.returned (.string s)) w') : ∀ ac, Frm 91 [(2, .string s)] ac → bodyPost Tryd.prog Tryd.f32 R .ret ac w' := by
  refine frm_open ?_
  refine frame_nm ?_
  intros
  rename_i hq
  obtain ⟨-, -, e0q, -⟩ := hq
  have e0q := (Option.some.inj e0q).symm; subst e0q
  refine bodyPost_ret (v := .string s) (by simp [results, Tryd.results32, go_sem]) rfl ?_
  exact hR
/-- In a reader that holds a fault, nothing happens. -/
theorem nameR_err (x : ByteArray) (r i c j m : Nat) (w : World) (hc : c ≠ 0) (hr : RdG m w r x i c j) : Calls Tryd.prog 32 #[.pointer (some ⟨r, 0, none⟩)] w fun e w' => e = .returned (.string ⟨#[]⟩) ∧ w' = w := by
  have hc' : ((c : Int) != 0) = true := by rw [bne_iff_ne]; omega
  have r2 := cellv hr 2 rfl
  have rl := lt_heap hr
  clear hr
  go_enter Tryd.func32, Tryd.ntmps32
  go_wp2_with fail
  go_returns
  exact ⟨rfl, rfl⟩
/-- What name leaves. -/
def NameG (x : ByteArray) (r i j m : Nat) (w : World) (e : Ending) (w' : World) : Prop := e = .returned (.string (x.extract i (nameE x i))) ∧ (nameE x i = i → RdG m w' r x i 11 i) ∧ (nameE x i ≠ i → RdG m w' r x (nameE x i) 0 j) ∧ Keeps (· = r) w w' ∧ w'.heap.size = w.heap.size
set_option maxRecDepth 100000 in
set_option maxHeartbeats 4000000 in
theorem nameR_any (x : ByteArray) (r i j m : Nat) (w : World) (hx : x.size ≤ 4000) (hi : i ≤ x.size) (hr : RdG m w r x i 0 j) : Calls Tryd.prog 32 #[.pointer (some ⟨r, 0, none⟩)] w (NameG x r i j m w) := by
  have r1 := cellv hr 1 rfl
  have r2 := cellv hr 2 rfl
  have rl := lt_heap hr
  have HRD := Lib.hid hr
  clear hr
  have he1 := nameE_ge x i
  have he2 := nameE_top hi
  go_enter Tryd.func32, Tryd.ntmps32
  go_wp2_with fail
  refine nm_loop_wp (j := j) (m := m) hx hi HRD.out (fun a1 w1 h1 hr1 hk1 hs1 => ?_) _ (id ⟨rfl, rfl, rfl, rfl, trivial⟩)
  refine inBlock_exit ?_
  rename ∀ (a : Act) (w : World), Code.wp _ _ _ a w → _ => hK
  refine hK _ _ ?_
  refine nm_tail_wp hi hr1 hk1 hs1 (fun a2 w2 h2 hN => ?_) a1 h1
  exact nm_ret_wp ⟨rfl, hN⟩ a2 h2

end Go.Proofs.YtnoceodmnjhljabDoor
