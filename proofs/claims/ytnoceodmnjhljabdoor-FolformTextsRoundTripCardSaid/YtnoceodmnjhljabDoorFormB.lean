/-
  (*folform.reader).form: more regions, by parts.
-/
import Derived.Test.YtnoceodmnjhljabDoorFormA
namespace Go.Proofs.YtnoceodmnjhljabDoor
open Go Go.RowKit
set_option linter.unusedSimpArgs false
set_option linter.unusedVariables false

/-- The result stands. -/
structure FD (n : Nat) (wo w : World) (r : Nat) (x : ByteArray) (i c j : Nat) (a0 a1 a2 a3 : Value) : Prop where
  rd : RdG n w r x i c j
  res : w.heap[wo.heap.size]? = some (.cells #[a0, a1, a2, a3] 34 (0, 0))
  kp : Keeps (· = r) wo w
  ro : r < wo.heap.size
theorem FS.put4 {n : Nat} {wo w : World} {r : Nat} {x : ByteArray} {i c j : Nat} (h : FS n wo w r x i c j) (a0 a1 a2 a3 : Value) :
    FD n wo ((((w.setCell ⟨wo.heap.size, 0, none⟩ a0).setCell ⟨wo.heap.size, 1, none⟩ a1).setCell ⟨wo.heap.size, 2, none⟩ a2).setCell ⟨wo.heap.size, 3, none⟩ a3) r x i c j a0 a1 a2 a3 := by
  have hne : r ≠ wo.heap.size := by have := h.ro; omega
  refine ⟨?_, by simpa using heap_set (heap_set (heap_set (heap_set h.res 0 a0) 1 a1) 2 a2) 3 a3, ?_, h.ro⟩
  · exact heap_far _ hne (heap_far _ hne (heap_far _ hne (heap_far _ hne h.rd)))
  · exact (((h.kp.set (b := wo.heap.size) (Or.inr (Nat.le_refl _)) 0 _).set (b := wo.heap.size) (Or.inr (Nat.le_refl _)) 1 _).set (b := wo.heap.size) (Or.inr (Nat.le_refl _)) 2 _).set (b := wo.heap.size) (Or.inr (Nat.le_refl _)) 3 _
noncomputable def c_fm_r2 : Code := sub [1, 0, 1, 0, 0] (Tryd.f21.body.getD .skip)
set_option maxRecDepth 1000000 in
set_option maxHeartbeats 16000000 in
theorem fm_r2_wp {Q : Exit → Act → World → Prop} {x : ByteArray} {r i c j n d : Nat} {wo w : World} (hp : FS n wo w r x i c j) (hN : ∀ a' w', Frm 154 [(4, .pointer (some ⟨wo.heap.size, 0, none⟩))] a' → FD n wo w' r x i c j (.int .i64 0) (.string ⟨#[]⟩) (.slice none 0 0) (.slice none 0 0) → Q .normal a' w') : ∀ ac, Frm 154 [(0, .pointer (some ⟨r, 0, none⟩)), (1, .int .i64 (d : Nat)), (4, .pointer (some ⟨wo.heap.size, 0, none⟩))] ac → Code.wp Tryd.prog c_fm_r2 Q ac w := by
  refine frm_open ?_
  refine frame_fm ?_
  intros
  rename_i hq
  obtain ⟨-, -, e0q, e1q, e2q, -⟩ := hq
  have e0q := (Option.some.inj e0q).symm; subst e0q
  have e1q := (Option.some.inj e1q).symm; subst e1q
  have e2q := (Option.some.inj e2q).symm; subst e2q
  conv => arg 2; whnf
  have HN := Lib.hid hN
  clear hN
  have z0 := cellv hp.res 0 rfl
  have z1 := cellv hp.res 1 rfl
  have z2 := cellv hp.res 2 rfl
  have z3 := cellv hp.res 3 rfl
  have zf0 := free_heap hp.res 0
  have zf1 := free_heap hp.res 1
  have zf2 := free_heap hp.res 2
  have zf3 := free_heap hp.res 3
  have zl := lt_heap hp.res
  have r1 := cellv hp.rd 1 rfl
  have r2 := cellv hp.rd 2 rfl
  have r4 := cellv hp.rd 4 rfl
  have d1 := free_heap hp.rd 1
  have d4 := free_heap hp.rd 4
  have rl := lt_heap hp.rd
  have HP := Lib.hid hp
  clear hp
  go_wp2_with fail
  exact HN.out _ _ (id ⟨rfl, rfl, rfl, trivial⟩) (HP.out.put4 _ _ _ _)
noncomputable def c_fm_r6 : Code := sub [1, 1, 1, 0, 1, 0, 1, 0] (Tryd.f21.body.getD .skip)
set_option maxRecDepth 1000000 in
set_option maxHeartbeats 16000000 in
theorem fm_r6_wp {Q : Exit → Act → World → Prop} {x : ByteArray} {r i c j n d : Nat} {wo w : World} (hp : FS n wo w r x i c j) (hN : ∀ a' w', Frm 154 [(4, .pointer (some ⟨wo.heap.size, 0, none⟩))] a' → FD n wo w' r x i c j (.int .i64 0) (.string ⟨#[]⟩) (.slice none 0 0) (.slice none 0 0) → Q .normal a' w') : ∀ ac, Frm 154 [(0, .pointer (some ⟨r, 0, none⟩)), (1, .int .i64 (d : Nat)), (4, .pointer (some ⟨wo.heap.size, 0, none⟩))] ac → Code.wp Tryd.prog c_fm_r6 Q ac w := by
  refine frm_open ?_
  refine frame_fm ?_
  intros
  rename_i hq
  obtain ⟨-, -, e0q, e1q, e2q, -⟩ := hq
  have e0q := (Option.some.inj e0q).symm; subst e0q
  have e1q := (Option.some.inj e1q).symm; subst e1q
  have e2q := (Option.some.inj e2q).symm; subst e2q
  conv => arg 2; whnf
  have HN := Lib.hid hN
  clear hN
  have z0 := cellv hp.res 0 rfl
  have z1 := cellv hp.res 1 rfl
  have z2 := cellv hp.res 2 rfl
  have z3 := cellv hp.res 3 rfl
  have zf0 := free_heap hp.res 0
  have zf1 := free_heap hp.res 1
  have zf2 := free_heap hp.res 2
  have zf3 := free_heap hp.res 3
  have zl := lt_heap hp.res
  have r1 := cellv hp.rd 1 rfl
  have r2 := cellv hp.rd 2 rfl
  have r4 := cellv hp.rd 4 rfl
  have d1 := free_heap hp.rd 1
  have d4 := free_heap hp.rd 4
  have rl := lt_heap hp.rd
  have HP := Lib.hid hp
  clear hp
  go_wp2_with fail
  exact HN.out _ _ (id ⟨rfl, rfl, rfl, trivial⟩) (HP.out.put4 _ _ _ _)
noncomputable def c_fm_r10 : Code := sub [1, 1, 1, 1, 1, 0, 1, 0, 1, 0] (Tryd.f21.body.getD .skip)
set_option maxRecDepth 1000000 in
set_option maxHeartbeats 16000000 in
theorem fm_r10_wp {Q : Exit → Act → World → Prop} {x : ByteArray} {r i c j n d : Nat} {wo w : World} (hp : FS n wo w r x i c j) (hN : ∀ a' w', Frm 154 [(4, .pointer (some ⟨wo.heap.size, 0, none⟩))] a' → FD n wo w' r x i c j (.int .i64 0) (.string ⟨#[]⟩) (.slice none 0 0) (.slice none 0 0) → Q .normal a' w') : ∀ ac, Frm 154 [(0, .pointer (some ⟨r, 0, none⟩)), (1, .int .i64 (d : Nat)), (4, .pointer (some ⟨wo.heap.size, 0, none⟩))] ac → Code.wp Tryd.prog c_fm_r10 Q ac w := by
  refine frm_open ?_
  refine frame_fm ?_
  intros
  rename_i hq
  obtain ⟨-, -, e0q, e1q, e2q, -⟩ := hq
  have e0q := (Option.some.inj e0q).symm; subst e0q
  have e1q := (Option.some.inj e1q).symm; subst e1q
  have e2q := (Option.some.inj e2q).symm; subst e2q
  conv => arg 2; whnf
  have HN := Lib.hid hN
  clear hN
  have z0 := cellv hp.res 0 rfl
  have z1 := cellv hp.res 1 rfl
  have z2 := cellv hp.res 2 rfl
  have z3 := cellv hp.res 3 rfl
  have zf0 := free_heap hp.res 0
  have zf1 := free_heap hp.res 1
  have zf2 := free_heap hp.res 2
  have zf3 := free_heap hp.res 3
  have zl := lt_heap hp.res
  have r1 := cellv hp.rd 1 rfl
  have r2 := cellv hp.rd 2 rfl
  have r4 := cellv hp.rd 4 rfl
  have d1 := free_heap hp.rd 1
  have d4 := free_heap hp.rd 4
  have rl := lt_heap hp.rd
  have HP := Lib.hid hp
  clear hp
  go_wp2_with fail
  exact HN.out _ _ (id ⟨rfl, rfl, rfl, trivial⟩) (HP.out.put4 _ _ _ _)
noncomputable def c_fm_r32 : Code := sub [1, 1, 1, 1, 1, 1, 1, 1, 1, 1, 1, 0] (Tryd.f21.body.getD .skip)
set_option maxRecDepth 1000000 in
set_option maxHeartbeats 16000000 in
theorem fm_r32_wp {Q : Exit → Act → World → Prop} {x : ByteArray} {r i c j n d : Nat} {wo w : World} (hp : FS n wo w r x i c j) (hN : ∀ a' w', Frm 154 [(4, .pointer (some ⟨wo.heap.size, 0, none⟩))] a' → FD n wo w' r x i c j (.int .i64 0) (.string ⟨#[]⟩) (.slice none 0 0) (.slice none 0 0) → Q .normal a' w') : ∀ ac, Frm 154 [(0, .pointer (some ⟨r, 0, none⟩)), (1, .int .i64 (d : Nat)), (4, .pointer (some ⟨wo.heap.size, 0, none⟩))] ac → Code.wp Tryd.prog c_fm_r32 Q ac w := by
  refine frm_open ?_
  refine frame_fm ?_
  intros
  rename_i hq
  obtain ⟨-, -, e0q, e1q, e2q, -⟩ := hq
  have e0q := (Option.some.inj e0q).symm; subst e0q
  have e1q := (Option.some.inj e1q).symm; subst e1q
  have e2q := (Option.some.inj e2q).symm; subst e2q
  conv => arg 2; whnf
  have HN := Lib.hid hN
  clear hN
  have z0 := cellv hp.res 0 rfl
  have z1 := cellv hp.res 1 rfl
  have z2 := cellv hp.res 2 rfl
  have z3 := cellv hp.res 3 rfl
  have zf0 := free_heap hp.res 0
  have zf1 := free_heap hp.res 1
  have zf2 := free_heap hp.res 2
  have zf3 := free_heap hp.res 3
  have zl := lt_heap hp.res
  have r1 := cellv hp.rd 1 rfl
  have r2 := cellv hp.rd 2 rfl
  have r4 := cellv hp.rd 4 rfl
  have d1 := free_heap hp.rd 1
  have d4 := free_heap hp.rd 4
  have rl := lt_heap hp.rd
  have HP := Lib.hid hp
  clear hp
  go_wp2_with fail
  exact HN.out _ _ (id ⟨rfl, rfl, rfl, trivial⟩) (HP.out.put4 _ _ _ _)
noncomputable def c_fm_r23 : Code := sub [1, 1, 1, 1, 1, 1, 1, 1, 1, 0, 1, 0, 1, 0, 0] (Tryd.f21.body.getD .skip)
set_option maxRecDepth 1000000 in
set_option maxHeartbeats 16000000 in
theorem fm_r23_wp {Q : Exit → Act → World → Prop} {x : ByteArray} {r i c j n d : Nat} {wo w : World} (hp : FS n wo w r x i c j) (hN : ∀ a' w', Frm 154 [(4, .pointer (some ⟨wo.heap.size, 0, none⟩))] a' → FD n wo w' r x i c j (.int .i64 1) (.string ⟨#[]⟩) (.slice none 0 0) (.slice none 0 0) → Q .normal a' w') : ∀ ac, Frm 154 [(0, .pointer (some ⟨r, 0, none⟩)), (1, .int .i64 (d : Nat)), (4, .pointer (some ⟨wo.heap.size, 0, none⟩))] ac → Code.wp Tryd.prog c_fm_r23 Q ac w := by
  refine frm_open ?_
  refine frame_fm ?_
  intros
  rename_i hq
  obtain ⟨-, -, e0q, e1q, e2q, -⟩ := hq
  have e0q := (Option.some.inj e0q).symm; subst e0q
  have e1q := (Option.some.inj e1q).symm; subst e1q
  have e2q := (Option.some.inj e2q).symm; subst e2q
  conv => arg 2; whnf
  have HN := Lib.hid hN
  clear hN
  have z0 := cellv hp.res 0 rfl
  have z1 := cellv hp.res 1 rfl
  have z2 := cellv hp.res 2 rfl
  have z3 := cellv hp.res 3 rfl
  have zf0 := free_heap hp.res 0
  have zf1 := free_heap hp.res 1
  have zf2 := free_heap hp.res 2
  have zf3 := free_heap hp.res 3
  have zl := lt_heap hp.res
  have r1 := cellv hp.rd 1 rfl
  have r2 := cellv hp.rd 2 rfl
  have r4 := cellv hp.rd 4 rfl
  have d1 := free_heap hp.rd 1
  have d4 := free_heap hp.rd 4
  have rl := lt_heap hp.rd
  have HP := Lib.hid hp
  clear hp
  go_wp2_with fail
  exact HN.out _ _ (id ⟨rfl, rfl, rfl, trivial⟩) (HP.out.put4 _ _ _ _)
noncomputable def c_fm_r13 : Code := sub [1, 1, 1, 1, 1, 1, 0, 1, 0, 1, 0, 0] (Tryd.f21.body.getD .skip)
set_option maxRecDepth 1000000 in
set_option maxHeartbeats 16000000 in
theorem fm_r13_wp {Q : Exit → Act → World → Prop} {x : ByteArray} {r i c j n d : Nat} {wo w : World} (hi : i ≤ 5000) (hp : FS n wo w r x i c j) (hN : ∀ a' w', Frm 154 [(0, .pointer (some ⟨r, 0, none⟩)), (1, .int .i64 (d : Nat)), (4, .pointer (some ⟨wo.heap.size, 0, none⟩))] a' → FS n wo w' r x (i + 1) c j → Q .normal a' w') : ∀ ac, Frm 154 [(0, .pointer (some ⟨r, 0, none⟩)), (1, .int .i64 (d : Nat)), (4, .pointer (some ⟨wo.heap.size, 0, none⟩))] ac → Code.wp Tryd.prog c_fm_r13 Q ac w := by
  refine frm_open ?_
  refine frame_fm ?_
  intros
  rename_i hq
  obtain ⟨-, -, e0q, e1q, e2q, -⟩ := hq
  have e0q := (Option.some.inj e0q).symm; subst e0q
  have e1q := (Option.some.inj e1q).symm; subst e1q
  have e2q := (Option.some.inj e2q).symm; subst e2q
  conv => arg 2; whnf
  have HN := Lib.hid hN
  clear hN
  have r1 := cellv hp.rd 1 rfl
  have r2 := cellv hp.rd 2 rfl
  have r4 := cellv hp.rd 4 rfl
  have d1 := free_heap hp.rd 1
  have d4 := free_heap hp.rd 4
  have rl := lt_heap hp.rd
  have HP := Lib.hid hp
  clear hp
  have ha4 : (i : Int) ≤ 5000 := by omega
  go_wp2_with fail
  refine HN.out _ _ (id ⟨rfl, rfl, rfl, rfl, rfl, trivial⟩) (HP.out.keeps ((Keeps.refl (· = r) w).set (b := r) (Or.inl rfl) 1 _) ?_)
  exact show RdG n (w.setCell ⟨r, 1, none⟩ (.int .i64 ((i : Int) + 1))) r x (i + 1) c j by simpa [RdG] using heap_set HP.out.rd 1 (.int .i64 ((i : Int) + 1))
noncomputable def c_fm_r19 : Code := sub [1, 1, 1, 1, 1, 1, 1, 1, 0, 1, 0, 0] (Tryd.f21.body.getD .skip)
set_option maxRecDepth 1000000 in
set_option maxHeartbeats 16000000 in
theorem fm_r19_wp {Q : Exit → Act → World → Prop} {a : ByteArray} {x : ByteArray} {r i c j n d : Nat} {wo w : World} (hi : i ≤ 5000) (hp : FS n wo w r x i c j) (hN : ∀ a' w', Frm 154 [(0, .pointer (some ⟨r, 0, none⟩)), (1, .int .i64 (d : Nat)), (4, .pointer (some ⟨wo.heap.size, 0, none⟩)), (6, .string a)] a' → FS n wo w' r x (i + 1) c j → Q .normal a' w') : ∀ ac, Frm 154 [(0, .pointer (some ⟨r, 0, none⟩)), (1, .int .i64 (d : Nat)), (4, .pointer (some ⟨wo.heap.size, 0, none⟩)), (6, .string a)] ac → Code.wp Tryd.prog c_fm_r19 Q ac w := by
  refine frm_open ?_
  refine frame_fm ?_
  intros
  rename_i hq
  obtain ⟨-, -, e0q, e1q, e2q, e3q, -⟩ := hq
  have e0q := (Option.some.inj e0q).symm; subst e0q
  have e1q := (Option.some.inj e1q).symm; subst e1q
  have e2q := (Option.some.inj e2q).symm; subst e2q
  have e3q := (Option.some.inj e3q).symm; subst e3q
  conv => arg 2; whnf
  have HN := Lib.hid hN
  clear hN
  have r1 := cellv hp.rd 1 rfl
  have r2 := cellv hp.rd 2 rfl
  have r4 := cellv hp.rd 4 rfl
  have d1 := free_heap hp.rd 1
  have d4 := free_heap hp.rd 4
  have rl := lt_heap hp.rd
  have HP := Lib.hid hp
  clear hp
  have ha4 : (i : Int) ≤ 5000 := by omega
  go_wp2_with fail
  refine HN.out _ _ (id ⟨rfl, rfl, rfl, rfl, rfl, rfl, trivial⟩) (HP.out.keeps ((Keeps.refl (· = r) w).set (b := r) (Or.inl rfl) 1 _) ?_)
  exact show RdG n (w.setCell ⟨r, 1, none⟩ (.int .i64 ((i : Int) + 1))) r x (i + 1) c j by simpa [RdG] using heap_set HP.out.rd 1 (.int .i64 ((i : Int) + 1))
noncomputable def c_fm_r17 : Code := sub [1, 1, 1, 1, 1, 1, 1, 0] (Tryd.f21.body.getD .skip)
set_option maxRecDepth 1000000 in
set_option maxHeartbeats 16000000 in
theorem fm_r17_wp {Q : Exit → Act → World → Prop} {x : ByteArray} {r i j n d : Nat} {wo w : World} (hx : x.size ≤ 4000) (hi : i ≤ x.size) (hp : FS n wo w r x i 0 j) (hN : ∀ a' w', Frm 154 [(0, .pointer (some ⟨r, 0, none⟩)), (1, .int .i64 (d : Nat)), (4, .pointer (some ⟨wo.heap.size, 0, none⟩)), (6, .string (x.extract i (nameE x i)))] a' → (nameE x i = i → FS n wo w' r x i 11 i) → (nameE x i ≠ i → FS n wo w' r x (nameE x i) 0 j) → Q .normal a' w') : ∀ ac, Frm 154 [(0, .pointer (some ⟨r, 0, none⟩)), (1, .int .i64 (d : Nat)), (4, .pointer (some ⟨wo.heap.size, 0, none⟩))] ac → Code.wp Tryd.prog c_fm_r17 Q ac w := by
  refine frm_open ?_
  refine frame_fm ?_
  intros
  rename_i hq
  obtain ⟨-, -, e0q, e1q, e2q, -⟩ := hq
  have e0q := (Option.some.inj e0q).symm; subst e0q
  have e1q := (Option.some.inj e1q).symm; subst e1q
  have e2q := (Option.some.inj e2q).symm; subst e2q
  conv => arg 2; whnf
  have hnm := fun (W : World) (h : RdG n W r x i 0 j) => nameR_any x r i j n W hx hi h
  have HN := Lib.hid hN
  have HNM := Lib.hid hnm
  clear hN hnm
  have r1 := cellv hp.rd 1 rfl
  have r2 := cellv hp.rd 2 rfl
  have r4 := cellv hp.rd 4 rfl
  have d1 := free_heap hp.rd 1
  have d4 := free_heap hp.rd 4
  have rl := lt_heap hp.rd
  have HP := Lib.hid hp
  clear hp
  go_wp2_with fail
  (with_reducible refine (HNM.out _ HP.out.rd).mono ?_)
  rintro e w1 ⟨rfl, hn1, hn2, hk1, hs1⟩
  have HN1 := Lib.hid hn1
  have HN2 := Lib.hid hn2
  have HK1 := Lib.hid hk1
  clear hn1 hn2 hk1 hs1
  go_wp2_with fail
  exact HN.out _ _ (id ⟨rfl, rfl, rfl, rfl, rfl, rfl, trivial⟩) (fun h => HP.out.keeps HK1.out (HN1.out h)) (fun h => HP.out.keeps HK1.out (HN2.out h))
noncomputable def c_fm_r28 : Code := sub [1, 1, 1, 1, 1, 1, 1, 1, 1, 0, 1, 0, 1, 1, 1, 0, 1, 1, 0] (Tryd.f21.body.getD .skip)
set_option maxRecDepth 1000000 in
set_option maxHeartbeats 16000000 in
theorem fm_r28_wp {Q : Exit → Act → World → Prop} {a : ByteArray} {cc : Value} {x : ByteArray} {r i j n d : Nat} {wo w : World} (hx : x.size ≤ 4000) (hi : i ≤ x.size) (hp : FS n wo w r x i 0 j) (hN : ∀ a' w', Frm 154 [(0, .pointer (some ⟨r, 0, none⟩)), (1, .int .i64 (d : Nat)), (4, .pointer (some ⟨wo.heap.size, 0, none⟩)), (6, .string a), (7, cc), (8, .string (x.extract i (nameE x i)))] a' → (nameE x i = i → FS n wo w' r x i 11 i) → (nameE x i ≠ i → FS n wo w' r x (nameE x i) 0 j) → Q .normal a' w') : ∀ ac, Frm 154 [(0, .pointer (some ⟨r, 0, none⟩)), (1, .int .i64 (d : Nat)), (4, .pointer (some ⟨wo.heap.size, 0, none⟩)), (6, .string a), (7, cc)] ac → Code.wp Tryd.prog c_fm_r28 Q ac w := by
  refine frm_open ?_
  refine frame_fm ?_
  intros
  rename_i hq
  obtain ⟨-, -, e0q, e1q, e2q, e3q, e4q, -⟩ := hq
  have e0q := (Option.some.inj e0q).symm; subst e0q
  have e1q := (Option.some.inj e1q).symm; subst e1q
  have e2q := (Option.some.inj e2q).symm; subst e2q
  have e3q := (Option.some.inj e3q).symm; subst e3q
  have e4q := (Option.some.inj e4q).symm; subst e4q
  conv => arg 2; whnf
  have hnm := fun (W : World) (h : RdG n W r x i 0 j) => nameR_any x r i j n W hx hi h
  have HN := Lib.hid hN
  have HNM := Lib.hid hnm
  clear hN hnm
  have r1 := cellv hp.rd 1 rfl
  have r2 := cellv hp.rd 2 rfl
  have r4 := cellv hp.rd 4 rfl
  have d1 := free_heap hp.rd 1
  have d4 := free_heap hp.rd 4
  have rl := lt_heap hp.rd
  have HP := Lib.hid hp
  clear hp
  go_wp2_with fail
  (with_reducible refine (HNM.out _ HP.out.rd).mono ?_)
  rintro e w1 ⟨rfl, hn1, hn2, hk1, hs1⟩
  have HN1 := Lib.hid hn1
  have HN2 := Lib.hid hn2
  have HK1 := Lib.hid hk1
  clear hn1 hn2 hk1 hs1
  go_wp2_with fail
  exact HN.out _ _ (id ⟨rfl, rfl, rfl, rfl, rfl, rfl, rfl, rfl, trivial⟩) (fun h => HP.out.keeps HK1.out (HN1.out h)) (fun h => HP.out.keeps HK1.out (HN2.out h))
noncomputable def c_fm_r28e : Code := sub [1, 1, 1, 1, 1, 1, 1, 1, 1, 0, 1, 0, 1, 1, 1, 0, 1, 1, 0] (Tryd.f21.body.getD .skip)
set_option maxRecDepth 1000000 in
set_option maxHeartbeats 16000000 in
theorem fm_r28e_wp {Q : Exit → Act → World → Prop} {a : ByteArray} {cc : Value} {x : ByteArray} {r i c j n d : Nat} {wo w : World} (hc : c ≠ 0) (hp : FS n wo w r x i c j) (hN : ∀ a', Frm 154 [(0, .pointer (some ⟨r, 0, none⟩)), (1, .int .i64 (d : Nat)), (4, .pointer (some ⟨wo.heap.size, 0, none⟩)), (6, .string a), (7, cc), (8, .string ⟨#[]⟩)] a' → Q .normal a' w) : ∀ ac, Frm 154 [(0, .pointer (some ⟨r, 0, none⟩)), (1, .int .i64 (d : Nat)), (4, .pointer (some ⟨wo.heap.size, 0, none⟩)), (6, .string a), (7, cc)] ac → Code.wp Tryd.prog c_fm_r28e Q ac w := by
  refine frm_open ?_
  refine frame_fm ?_
  intros
  rename_i hq
  obtain ⟨-, -, e0q, e1q, e2q, e3q, e4q, -⟩ := hq
  have e0q := (Option.some.inj e0q).symm; subst e0q
  have e1q := (Option.some.inj e1q).symm; subst e1q
  have e2q := (Option.some.inj e2q).symm; subst e2q
  have e3q := (Option.some.inj e3q).symm; subst e3q
  have e4q := (Option.some.inj e4q).symm; subst e4q
  conv => arg 2; whnf
  have hnm := fun (W : World) (h : RdG n W r x i c j) => nameR_err x r i c j n W hc h
  have HN := Lib.hid hN
  have HNM := Lib.hid hnm
  clear hN hnm
  have r1 := cellv hp.rd 1 rfl
  have r2 := cellv hp.rd 2 rfl
  have r4 := cellv hp.rd 4 rfl
  have d1 := free_heap hp.rd 1
  have d4 := free_heap hp.rd 4
  have rl := lt_heap hp.rd
  have HP := Lib.hid hp
  clear hp
  go_wp2_with fail
  (with_reducible refine (HNM.out _ HP.out.rd).mono ?_)
  rintro e w1 ⟨rfl, rfl⟩
  go_wp2_with fail
  exact HN.out _ (id ⟨rfl, rfl, rfl, rfl, rfl, rfl, rfl, rfl, trivial⟩)
/-- What Take leaves: the place, the code, the fault's place. -/
def takeI (x : ByteArray) (i c b : Nat) : Nat := if c = 0 ∧ byteAt x i = b then i + 1 else i
def takeC (x : ByteArray) (i c b : Nat) : Nat := if c = 0 then (if byteAt x i = b then 0 else 11) else c
def takeJ (x : ByteArray) (i c j b : Nat) : Nat := if c = 0 ∧ byteAt x i ≠ b then i else j
theorem takeFS {n : Nat} {wo w w' : World} {r : Nat} {x : ByteArray} {i c j b : Nat} (h : FS n wo w r x i c j) (hk : Keeps (· = r) w w') (ht : TakeG n w' r x i c j b) : FS n wo w' r x (takeI x i c b) (takeC x i c b) (takeJ x i c j b) := by
  refine h.keeps hk ?_
  unfold TakeG at ht
  unfold takeI takeC takeJ
  by_cases h1 : c = 0
  · rw [if_pos h1] at ht
    by_cases h2 : byteAt x i = b
    · rw [if_pos h2] at ht
      rw [if_pos ⟨h1, h2⟩, if_pos h1, if_pos h2, if_neg (fun h => h.2 h2)]
      exact ht
    · rw [if_neg h2] at ht
      rw [if_neg (fun h => h2 h.2), if_pos h1, if_neg h2, if_pos ⟨h1, h2⟩]
      exact ht
  · rw [if_neg h1] at ht
    rw [if_neg (fun h => h1 h.1), if_neg h1, if_neg (fun h => h1 h.1)]
    exact ht
theorem takeI_le {x : ByteArray} {i c b : Nat} : takeI x i c b ≤ i + 1 := by unfold takeI; split <;> omega
noncomputable def c_fm_r26 : Code := sub [1, 1, 1, 1, 1, 1, 1, 1, 1, 0, 1, 0, 1, 1, 1, 0, 0] (Tryd.f21.body.getD .skip)
set_option maxRecDepth 1000000 in
set_option maxHeartbeats 16000000 in
theorem fm_r26_wp {Q : Exit → Act → World → Prop} {a : ByteArray} {x : ByteArray} {r i c j n d : Nat} {wo w : World} (hx : x.size ≤ 4000) (hp : FS n wo w r x i c j) (hN : ∀ a' w', Frm 154 [(0, .pointer (some ⟨r, 0, none⟩)), (1, .int .i64 (d : Nat)), (4, .pointer (some ⟨wo.heap.size, 0, none⟩)), (6, .string a)] a' → FS n wo w' r x (takeI x i c 32) (takeC x i c 32) (takeJ x i c j 32) → Q .normal a' w') : ∀ ac, Frm 154 [(0, .pointer (some ⟨r, 0, none⟩)), (1, .int .i64 (d : Nat)), (4, .pointer (some ⟨wo.heap.size, 0, none⟩)), (6, .string a)] ac → Code.wp Tryd.prog c_fm_r26 Q ac w := by
  refine frm_open ?_
  refine frame_fm ?_
  intros
  rename_i hq
  obtain ⟨-, -, e0q, e1q, e2q, e3q, -⟩ := hq
  have e0q := (Option.some.inj e0q).symm; subst e0q
  have e1q := (Option.some.inj e1q).symm; subst e1q
  have e2q := (Option.some.inj e2q).symm; subst e2q
  have e3q := (Option.some.inj e3q).symm; subst e3q
  conv => arg 2; whnf
  have htk : ∀ (W : World), RdG n W r x i c j → Calls Tryd.prog 34 #[.pointer (some ⟨r, 0, none⟩), .int .u8 32] W fun e w' => IsBool e ∧ TakeG n w' r x i c j 32 ∧ Keeps (· = r) W w' ∧ w'.heap.size = W.heap.size := fun W h => takeG_any r x i c j 32 W h (by decide) hx
  have HN := Lib.hid hN
  have HTK := Lib.hid htk
  clear hN htk
  have r1 := cellv hp.rd 1 rfl
  have r2 := cellv hp.rd 2 rfl
  have r4 := cellv hp.rd 4 rfl
  have d1 := free_heap hp.rd 1
  have d4 := free_heap hp.rd 4
  have rl := lt_heap hp.rd
  have HP := Lib.hid hp
  clear hp
  go_wp2_with fail
  (with_reducible refine (HTK.out _ HP.out.rd).mono ?_)
  rintro e w1 ⟨⟨bb, rfl⟩, hb1, hk1, hs1⟩
  have HB1 := Lib.hid hb1
  have HK1 := Lib.hid hk1
  clear hb1 hs1 hk1
  go_wp2_with fail
  refine HN.out _ _ (id ⟨rfl, rfl, rfl, rfl, rfl, rfl, trivial⟩) ?_
  exact takeFS HP.out HK1.out HB1.out
noncomputable def c_fm_r29 : Code := sub [1, 1, 1, 1, 1, 1, 1, 1, 1, 0, 1, 0, 1, 1, 1, 0, 1, 1, 1, 0] (Tryd.f21.body.getD .skip)
set_option maxRecDepth 1000000 in
set_option maxHeartbeats 16000000 in
theorem fm_r29_wp {Q : Exit → Act → World → Prop} {a y : ByteArray} {cc : Value} {x : ByteArray} {r i c j n d : Nat} {wo w : World} (hx : x.size ≤ 4000) (hp : FS n wo w r x i c j) (hN : ∀ a' w', Frm 154 [(0, .pointer (some ⟨r, 0, none⟩)), (1, .int .i64 (d : Nat)), (4, .pointer (some ⟨wo.heap.size, 0, none⟩)), (6, .string a), (7, cc), (8, .string y)] a' → FS n wo w' r x (takeI x i c 32) (takeC x i c 32) (takeJ x i c j 32) → Q .normal a' w') : ∀ ac, Frm 154 [(0, .pointer (some ⟨r, 0, none⟩)), (1, .int .i64 (d : Nat)), (4, .pointer (some ⟨wo.heap.size, 0, none⟩)), (6, .string a), (7, cc), (8, .string y)] ac → Code.wp Tryd.prog c_fm_r29 Q ac w := by
  refine frm_open ?_
  refine frame_fm ?_
  intros
  rename_i hq
  obtain ⟨-, -, e0q, e1q, e2q, e3q, e4q, e5q, -⟩ := hq
  have e0q := (Option.some.inj e0q).symm; subst e0q
  have e1q := (Option.some.inj e1q).symm; subst e1q
  have e2q := (Option.some.inj e2q).symm; subst e2q
  have e3q := (Option.some.inj e3q).symm; subst e3q
  have e4q := (Option.some.inj e4q).symm; subst e4q
  have e5q := (Option.some.inj e5q).symm; subst e5q
  conv => arg 2; whnf
  have htk : ∀ (W : World), RdG n W r x i c j → Calls Tryd.prog 34 #[.pointer (some ⟨r, 0, none⟩), .int .u8 32] W fun e w' => IsBool e ∧ TakeG n w' r x i c j 32 ∧ Keeps (· = r) W w' ∧ w'.heap.size = W.heap.size := fun W h => takeG_any r x i c j 32 W h (by decide) hx
  have HN := Lib.hid hN
  have HTK := Lib.hid htk
  clear hN htk
  have r1 := cellv hp.rd 1 rfl
  have r2 := cellv hp.rd 2 rfl
  have r4 := cellv hp.rd 4 rfl
  have d1 := free_heap hp.rd 1
  have d4 := free_heap hp.rd 4
  have rl := lt_heap hp.rd
  have HP := Lib.hid hp
  clear hp
  go_wp2_with fail
  (with_reducible refine (HTK.out _ HP.out.rd).mono ?_)
  rintro e w1 ⟨⟨bb, rfl⟩, hb1, hk1, hs1⟩
  have HB1 := Lib.hid hb1
  have HK1 := Lib.hid hk1
  clear hb1 hs1 hk1
  go_wp2_with fail
  refine HN.out _ _ (id ⟨rfl, rfl, rfl, rfl, rfl, rfl, rfl, rfl, trivial⟩) ?_
  exact takeFS HP.out HK1.out HB1.out
noncomputable def c_fm_r18 : Code := sub [1, 1, 1, 1, 1, 1, 1, 1, 0, 0] (Tryd.f21.body.getD .skip)
set_option maxRecDepth 1000000 in
set_option maxHeartbeats 16000000 in
theorem fm_r18_wp {Q : Exit → Act → World → Prop} {a : ByteArray} {x : ByteArray} {r i c j n d : Nat} {wo w : World} (hp : FS n wo w r x i c j) (hN : ∀ a' w', Frm 154 [(0, .pointer (some ⟨r, 0, none⟩)), (1, .int .i64 (d : Nat)), (4, .pointer (some ⟨wo.heap.size, 0, none⟩)), (6, .string a), (101, .bool (decide (byteAt x i = 40)))] a' → FS n wo w' r x i c j → Q .normal a' w') : ∀ ac, Frm 154 [(0, .pointer (some ⟨r, 0, none⟩)), (1, .int .i64 (d : Nat)), (4, .pointer (some ⟨wo.heap.size, 0, none⟩)), (6, .string a)] ac → Code.wp Tryd.prog c_fm_r18 Q ac w := by
  refine frm_open ?_
  refine frame_fm ?_
  intros
  rename_i hq
  obtain ⟨-, -, e0q, e1q, e2q, e3q, -⟩ := hq
  have e0q := (Option.some.inj e0q).symm; subst e0q
  have e1q := (Option.some.inj e1q).symm; subst e1q
  have e2q := (Option.some.inj e2q).symm; subst e2q
  have e3q := (Option.some.inj e3q).symm; subst e3q
  conv => arg 2; whnf
  have hpk : ∀ W, RdG n W r x i c j → Calls Tryd.prog 30 #[.pointer (some ⟨r, 0, none⟩)] W fun e w' => e = .returned (.int .u8 (byteAt x i)) ∧ Below W.heap.size W w' ∧ w'.heap.size = W.heap.size := fun W h => peekG_any r x i c j W h
  have HN := Lib.hid hN
  have HPK := Lib.hid hpk
  clear hN hpk
  have r1 := cellv hp.rd 1 rfl
  have r2 := cellv hp.rd 2 rfl
  have r4 := cellv hp.rd 4 rfl
  have d1 := free_heap hp.rd 1
  have d4 := free_heap hp.rd 4
  have rl := lt_heap hp.rd
  have HP := Lib.hid hp
  clear hp
  by_cases h : byteAt x i = 40
  · have q1 : (((byteAt x i : Nat) : Int) == 40) = true := by rw [beq_iff_eq]; omega
    rw [show decide (byteAt x i = 40) = true from decide_eq_true h] at HN
    clear h
    go_wp2_with fail
    (with_reducible refine (HPK.out _ HP.out.rd).mono ?_)
    rintro e w1 ⟨rfl, hb1, hs1⟩
    have HB1 := Lib.hid hb1
    clear hb1 hs1
    go_wp2_with fail
    exact HN.out _ _ (id ⟨rfl, rfl, rfl, rfl, rfl, rfl, rfl, trivial⟩) (HP.out.below HB1.out)
  · have q1 : (((byteAt x i : Nat) : Int) == 40) = false := beq_eq_false_iff_ne.2 (by omega)
    rw [show decide (byteAt x i = 40) = false from decide_eq_false h] at HN
    clear h
    go_wp2_with fail
    (with_reducible refine (HPK.out _ HP.out.rd).mono ?_)
    rintro e w1 ⟨rfl, hb1, hs1⟩
    have HB1 := Lib.hid hb1
    clear hb1 hs1
    go_wp2_with fail
    exact HN.out _ _ (id ⟨rfl, rfl, rfl, rfl, rfl, rfl, rfl, trivial⟩) (HP.out.below HB1.out)

end Go.Proofs.YtnoceodmnjhljabDoor
