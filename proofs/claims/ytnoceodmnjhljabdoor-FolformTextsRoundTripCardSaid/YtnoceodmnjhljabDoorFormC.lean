/-
  (*folform.reader).form: tests, words for the ends, by parts.
-/
import Derived.Test.YtnoceodmnjhljabDoorFormB
namespace Go.Proofs.YtnoceodmnjhljabDoor
open Go Go.RowKit
set_option linter.unusedSimpArgs false
set_option linter.unusedVariables false

theorem ne_listF {a c : ByteArray} {l : List UInt8} (h : a ≠ c) (e : c.toList = l) : (a.toList == l) = false :=
  beq_eq_false_iff_ne.2 (fun h2 => h (bytes_inj (h2.trans e.symm)))
theorem sl1 {w : World} {S : Nat → Prop} {g : Nat} {f : Fm} {a0 a1 a2 a3 : Value} (hb : w.heap[g]? = some (.cells #[a0, a1, a2, a3] 34 (0, 0))) (h : fmRep.R w S f [a0, a1, a2, a3]) (hg : S g) : fmRep.Sl w S (.slice (some ⟨g, 0, none⟩) 1 1) [f] := by
  refine ⟨_, _, _, rfl, rfl, by decide, fun _ => ⟨g, 0, [a0, a1, a2, a3], rfl, hg, Rep.All.single h, fun j u hj => ?_⟩⟩
  rw [Nat.zero_add]
  match j, hj with
  | 0, hj => exact (cellv hb 0 rfl).trans (by simpa using hj)
  | 1, hj => exact (cellv hb 1 rfl).trans (by simpa using hj)
  | 2, hj => exact (cellv hb 2 rfl).trans (by simpa using hj)
  | 3, hj => exact (cellv hb 3 rfl).trans (by simpa using hj)
  | n + 4, hj => simp at hj
/-- The blocks that are new since w. -/
def SN (w w' : World) : Nat → Prop := fun b => w.heap.size ≤ b ∧ b < w'.heap.size
/-- How a formula's reading ends: the reader's state; P: what is said of the formula. -/
def FEnd (x : ByteArray) (k i' c' j' n' j : Nat) (P : Fv → Prop) : FRd → Prop
  | .ok v i2 n2 => i' = i2 ∧ c' = 0 ∧ j' = j ∧ n' = n2 ∧ i2 ≤ x.size ∧ n2 ≤ 200 ∧ P v
  | .bad c2 j2 => c' = c2 ∧ c2 ≠ 0 ∧ j' = j2 ∧ i' ≤ x.size + k
theorem FEnd.mono {x : ByteArray} {k i' c' j' n' j : Nat} {P P' : Fv → Prop} {f : FRd} (h : FEnd x k i' c' j' n' j P f) (hp : ∀ v, P v → P' v) : FEnd x k i' c' j' n' j P' f := by
  cases f with
  | bad => exact h
  | ok v a b => obtain ⟨h1, h2, h3, h4, h5, h6, h7⟩ := h; exact ⟨h1, h2, h3, h4, h5, h6, hp v h7⟩
/-- What form, pair leave. -/
def FormG (x : ByteArray) (r i c j k : Nat) (f : FRd) (w : World) (e : Ending) (w' : World) : Prop :=
  ∃ i' c' j' n' kd nm A1 n1 c1 A2 n2 c2, e = .returned (.agg #[.int .i64 kd, .string nm, .slice A1 n1 c1, .slice A2 n2 c2]) ∧ RdG n' w' r x i' c' j' ∧ Keeps (· = r) w w' ∧ (c ≠ 0 → i' = i ∧ c' = c ∧ j' = j) ∧
    (c = 0 → FEnd x k i' c' j' n' j (fun v => fmRep.R w' (SN w w') v.fm [.int .i64 kd, .string nm, .slice A1 n1 c1, .slice A2 n2 c2]) f)
noncomputable def c_fm_r11 : Code := sub [1, 1, 1, 1, 1, 1, 0, 0] (Tryd.f21.body.getD .skip)
set_option maxRecDepth 1000000 in
set_option maxHeartbeats 16000000 in
theorem fm_r11_wp {Q : Exit → Act → World → Prop} {b : Nat} {r d : Nat} {wo w : World} (hN : ∀ a', Frm 154 [(0, .pointer (some ⟨r, 0, none⟩)), (1, .int .i64 (d : Nat)), (4, .pointer (some ⟨wo.heap.size, 0, none⟩)), (72, .int .u8 (b : Nat))] a' → Q .normal a' w) : ∀ ac, Frm 154 [(0, .pointer (some ⟨r, 0, none⟩)), (1, .int .i64 (d : Nat)), (4, .pointer (some ⟨wo.heap.size, 0, none⟩)), (5, .int .u8 (b : Nat))] ac → Code.wp Tryd.prog c_fm_r11 Q ac w := by
  refine frm_open ?_
  refine frame_fm ?_
  intros
  rename_i hq
  obtain ⟨-, -, e0q, e1q, e2q, e3q, -⟩ := hq
  have e0q := (Option.some.inj e0q).symm; subst e0q
  have e1q := (Option.some.inj e1q).symm; subst e1q
  have e2q := (Option.some.inj e2q).symm; subst e2q
  have e3q := (Option.some.inj e3q).symm; subst e3q
  conv => arg 2; whnf
  have HN := Lib.hid hN
  clear hN
  go_wp2_with fail
  exact HN.out _ (id ⟨rfl, rfl, rfl, rfl, rfl, rfl, trivial⟩)
noncomputable def c_fm_r12 : Code := sub [1, 1, 1, 1, 1, 1, 0, 1, 0, 0] (Tryd.f21.body.getD .skip)
set_option maxRecDepth 1000000 in
set_option maxHeartbeats 16000000 in
theorem fm_r12_wp {Q : Exit → Act → World → Prop} {b : Nat} {r d : Nat} {wo w : World} (hN : ∀ a', Frm 154 [(0, .pointer (some ⟨r, 0, none⟩)), (1, .int .i64 (d : Nat)), (4, .pointer (some ⟨wo.heap.size, 0, none⟩)), (72, .int .u8 (b : Nat)), (73, .bool (decide (b = 45)))] a' → Q .normal a' w) : ∀ ac, Frm 154 [(0, .pointer (some ⟨r, 0, none⟩)), (1, .int .i64 (d : Nat)), (4, .pointer (some ⟨wo.heap.size, 0, none⟩)), (72, .int .u8 (b : Nat))] ac → Code.wp Tryd.prog c_fm_r12 Q ac w := by
  refine frm_open ?_
  refine frame_fm ?_
  intros
  rename_i hq
  obtain ⟨-, -, e0q, e1q, e2q, e3q, -⟩ := hq
  have e0q := (Option.some.inj e0q).symm; subst e0q
  have e1q := (Option.some.inj e1q).symm; subst e1q
  have e2q := (Option.some.inj e2q).symm; subst e2q
  have e3q := (Option.some.inj e3q).symm; subst e3q
  conv => arg 2; whnf
  by_cases h : b = 45
  · have q1 : ((b : Int) == 45) = true := by rw [beq_iff_eq]; omega
    rw [show decide (b = 45) = true from decide_eq_true h] at hN
    clear h
    have HN := Lib.hid hN
    clear hN
    go_wp2_with fail
    exact HN.out _ (id ⟨rfl, rfl, rfl, rfl, rfl, rfl, rfl, trivial⟩)
  · have q1 : ((b : Int) == 45) = false := beq_eq_false_iff_ne.2 (by omega)
    rw [show decide (b = 45) = false from decide_eq_false h] at hN
    clear h
    have HN := Lib.hid hN
    clear hN
    go_wp2_with fail
    exact HN.out _ (id ⟨rfl, rfl, rfl, rfl, rfl, rfl, rfl, trivial⟩)
noncomputable def c_fm_r15 : Code := sub [1, 1, 1, 1, 1, 1, 0, 1, 0, 1, 1, 0] (Tryd.f21.body.getD .skip)
set_option maxRecDepth 1000000 in
set_option maxHeartbeats 16000000 in
theorem fm_r15_wp {Q : Exit → Act → World → Prop} {b : Nat} {r d : Nat} {wo w : World} (hN : ∀ a', Frm 154 [(0, .pointer (some ⟨r, 0, none⟩)), (1, .int .i64 (d : Nat)), (4, .pointer (some ⟨wo.heap.size, 0, none⟩)), (72, .int .u8 (b : Nat)), (90, .bool (decide (b = 40)))] a' → Q .normal a' w) : ∀ ac, Frm 154 [(0, .pointer (some ⟨r, 0, none⟩)), (1, .int .i64 (d : Nat)), (4, .pointer (some ⟨wo.heap.size, 0, none⟩)), (72, .int .u8 (b : Nat))] ac → Code.wp Tryd.prog c_fm_r15 Q ac w := by
  refine frm_open ?_
  refine frame_fm ?_
  intros
  rename_i hq
  obtain ⟨-, -, e0q, e1q, e2q, e3q, -⟩ := hq
  have e0q := (Option.some.inj e0q).symm; subst e0q
  have e1q := (Option.some.inj e1q).symm; subst e1q
  have e2q := (Option.some.inj e2q).symm; subst e2q
  have e3q := (Option.some.inj e3q).symm; subst e3q
  conv => arg 2; whnf
  by_cases h : b = 40
  · have q1 : ((b : Int) == 40) = true := by rw [beq_iff_eq]; omega
    rw [show decide (b = 40) = true from decide_eq_true h] at hN
    clear h
    have HN := Lib.hid hN
    clear hN
    go_wp2_with fail
    exact HN.out _ (id ⟨rfl, rfl, rfl, rfl, rfl, rfl, rfl, trivial⟩)
  · have q1 : ((b : Int) == 40) = false := beq_eq_false_iff_ne.2 (by omega)
    rw [show decide (b = 40) = false from decide_eq_false h] at hN
    clear h
    have HN := Lib.hid hN
    clear hN
    go_wp2_with fail
    exact HN.out _ (id ⟨rfl, rfl, rfl, rfl, rfl, rfl, rfl, trivial⟩)
noncomputable def c_fm_r21 : Code := sub [1, 1, 1, 1, 1, 1, 1, 1, 1, 0, 0] (Tryd.f21.body.getD .skip)
set_option maxRecDepth 1000000 in
set_option maxHeartbeats 16000000 in
theorem fm_r21_wp {Q : Exit → Act → World → Prop} {a : ByteArray} {r d : Nat} {wo w : World} (hN : ∀ a', Frm 154 [(0, .pointer (some ⟨r, 0, none⟩)), (1, .int .i64 (d : Nat)), (4, .pointer (some ⟨wo.heap.size, 0, none⟩)), (6, .string a), (115, .string a)] a' → Q .normal a' w) : ∀ ac, Frm 154 [(0, .pointer (some ⟨r, 0, none⟩)), (1, .int .i64 (d : Nat)), (4, .pointer (some ⟨wo.heap.size, 0, none⟩)), (6, .string a)] ac → Code.wp Tryd.prog c_fm_r21 Q ac w := by
  refine frm_open ?_
  refine frame_fm ?_
  intros
  rename_i hq
  obtain ⟨-, -, e0q, e1q, e2q, e3q, -⟩ := hq
  have e0q := (Option.some.inj e0q).symm; subst e0q
  have e1q := (Option.some.inj e1q).symm; subst e1q
  have e2q := (Option.some.inj e2q).symm; subst e2q
  have e3q := (Option.some.inj e3q).symm; subst e3q
  conv => arg 2; whnf
  have HN := Lib.hid hN
  clear hN
  go_wp2_with fail
  exact HN.out _ (id ⟨rfl, rfl, rfl, rfl, rfl, rfl, rfl, trivial⟩)
noncomputable def c_fm_r22 : Code := sub [1, 1, 1, 1, 1, 1, 1, 1, 1, 0, 1, 0, 0] (Tryd.f21.body.getD .skip)
set_option maxRecDepth 1000000 in
set_option maxHeartbeats 16000000 in
theorem fm_r22_wp {Q : Exit → Act → World → Prop} {a : ByteArray} {r d : Nat} {wo w : World} (hN : ∀ a', Frm 154 [(0, .pointer (some ⟨r, 0, none⟩)), (1, .int .i64 (d : Nat)), (4, .pointer (some ⟨wo.heap.size, 0, none⟩)), (6, .string a), (115, .string a), (116, .bool (decide (a = wTrue)))] a' → Q .normal a' w) : ∀ ac, Frm 154 [(0, .pointer (some ⟨r, 0, none⟩)), (1, .int .i64 (d : Nat)), (4, .pointer (some ⟨wo.heap.size, 0, none⟩)), (6, .string a), (115, .string a)] ac → Code.wp Tryd.prog c_fm_r22 Q ac w := by
  refine frm_open ?_
  refine frame_fm ?_
  intros
  rename_i hq
  obtain ⟨-, -, e0q, e1q, e2q, e3q, e4q, -⟩ := hq
  have e0q := (Option.some.inj e0q).symm; subst e0q
  have e1q := (Option.some.inj e1q).symm; subst e1q
  have e2q := (Option.some.inj e2q).symm; subst e2q
  have e3q := (Option.some.inj e3q).symm; subst e3q
  have e4q := (Option.some.inj e4q).symm; subst e4q
  conv => arg 2; whnf
  have HN := Lib.hid hN
  clear hN
  by_cases h1 : a = wTrue
  · subst h1
    rw [show decide (wTrue = wTrue) = true from decide_eq_true rfl] at HN
    unfold wTrue at HN ⊢
    have t1 : ((⟨#[116, 114, 117, 101]⟩ : ByteArray).toList == [116, 114, 117, 101]) = true := by decide +kernel
    go_wp2_with fail
    exact HN.out _ (id ⟨rfl, rfl, rfl, rfl, rfl, rfl, rfl, rfl, trivial⟩)
  have t1 : (a.toList == [116, 114, 117, 101]) = false := ne_listF h1 (by decide +kernel)
  rw [show decide (a = wTrue) = false from decide_eq_false h1] at HN
  clear h1
  go_wp2_with fail
  exact HN.out _ (id ⟨rfl, rfl, rfl, rfl, rfl, rfl, rfl, rfl, trivial⟩)
noncomputable def c_fm_r24 : Code := sub [1, 1, 1, 1, 1, 1, 1, 1, 1, 0, 1, 0, 1, 1, 0, 0] (Tryd.f21.body.getD .skip)
set_option maxRecDepth 1000000 in
set_option maxHeartbeats 16000000 in
theorem fm_r24_wp {Q : Exit → Act → World → Prop} {a : ByteArray} {r d : Nat} {wo w : World} (hN : ∀ a', Frm 154 [(0, .pointer (some ⟨r, 0, none⟩)), (1, .int .i64 (d : Nat)), (4, .pointer (some ⟨wo.heap.size, 0, none⟩)), (6, .string a), (115, .string a), (119, .bool (decide (a = wAll)))] a' → Q .normal a' w) : ∀ ac, Frm 154 [(0, .pointer (some ⟨r, 0, none⟩)), (1, .int .i64 (d : Nat)), (4, .pointer (some ⟨wo.heap.size, 0, none⟩)), (6, .string a), (115, .string a)] ac → Code.wp Tryd.prog c_fm_r24 Q ac w := by
  refine frm_open ?_
  refine frame_fm ?_
  intros
  rename_i hq
  obtain ⟨-, -, e0q, e1q, e2q, e3q, e4q, -⟩ := hq
  have e0q := (Option.some.inj e0q).symm; subst e0q
  have e1q := (Option.some.inj e1q).symm; subst e1q
  have e2q := (Option.some.inj e2q).symm; subst e2q
  have e3q := (Option.some.inj e3q).symm; subst e3q
  have e4q := (Option.some.inj e4q).symm; subst e4q
  conv => arg 2; whnf
  have HN := Lib.hid hN
  clear hN
  by_cases h1 : a = wAll
  · subst h1
    rw [show decide (wAll = wAll) = true from decide_eq_true rfl] at HN
    unfold wAll at HN ⊢
    have t1 : ((⟨#[97, 108, 108]⟩ : ByteArray).toList == [97, 108, 108]) = true := by decide +kernel
    go_wp2_with fail
    exact HN.out _ (id ⟨rfl, rfl, rfl, rfl, rfl, rfl, rfl, rfl, trivial⟩)
  have t1 : (a.toList == [97, 108, 108]) = false := ne_listF h1 (by decide +kernel)
  rw [show decide (a = wAll) = false from decide_eq_false h1] at HN
  clear h1
  go_wp2_with fail
  exact HN.out _ (id ⟨rfl, rfl, rfl, rfl, rfl, rfl, rfl, rfl, trivial⟩)
noncomputable def c_fm_r25 : Code := sub [1, 1, 1, 1, 1, 1, 1, 1, 1, 0, 1, 0, 1, 1, 0, 1, 1] (Tryd.f21.body.getD .skip)
set_option maxRecDepth 1000000 in
set_option maxHeartbeats 16000000 in
theorem fm_r25_wp {Q : Exit → Act → World → Prop} {a : ByteArray} {r d : Nat} {wo w : World} (hN : ∀ a', Frm 154 [(0, .pointer (some ⟨r, 0, none⟩)), (1, .int .i64 (d : Nat)), (4, .pointer (some ⟨wo.heap.size, 0, none⟩)), (6, .string a), (115, .string a), (119, .bool (decide (a = wSome)))] a' → Q .normal a' w) : ∀ ac, Frm 154 [(0, .pointer (some ⟨r, 0, none⟩)), (1, .int .i64 (d : Nat)), (4, .pointer (some ⟨wo.heap.size, 0, none⟩)), (6, .string a), (115, .string a)] ac → Code.wp Tryd.prog c_fm_r25 Q ac w := by
  refine frm_open ?_
  refine frame_fm ?_
  intros
  rename_i hq
  obtain ⟨-, -, e0q, e1q, e2q, e3q, e4q, -⟩ := hq
  have e0q := (Option.some.inj e0q).symm; subst e0q
  have e1q := (Option.some.inj e1q).symm; subst e1q
  have e2q := (Option.some.inj e2q).symm; subst e2q
  have e3q := (Option.some.inj e3q).symm; subst e3q
  have e4q := (Option.some.inj e4q).symm; subst e4q
  conv => arg 2; whnf
  have HN := Lib.hid hN
  clear hN
  by_cases h1 : a = wSome
  · subst h1
    rw [show decide (wSome = wSome) = true from decide_eq_true rfl] at HN
    unfold wSome at HN ⊢
    have t1 : ((⟨#[115, 111, 109, 101]⟩ : ByteArray).toList == [115, 111, 109, 101]) = true := by decide +kernel
    go_wp2_with fail
    exact HN.out _ (id ⟨rfl, rfl, rfl, rfl, rfl, rfl, rfl, rfl, trivial⟩)
  have t1 : (a.toList == [115, 111, 109, 101]) = false := ne_listF h1 (by decide +kernel)
  rw [show decide (a = wSome) = false from decide_eq_false h1] at HN
  clear h1
  go_wp2_with fail
  exact HN.out _ (id ⟨rfl, rfl, rfl, rfl, rfl, rfl, rfl, rfl, trivial⟩)


theorem FD.below {n : Nat} {wo w w' : World} {r : Nat} {x : ByteArray} {i c j : Nat} {a0 a1 a2 a3 : Value} (h : FD n wo w r x i c j a0 a1 a2 a3) (hb : Below w.heap.size w w') : FD n wo w' r x i c j a0 a1 a2 a3 :=
  ⟨h.rd.below hb, (hb.block _ (lt_heap h.res)).trans h.res, h.kp.trans (Below.keeps hb _), h.ro⟩
theorem FS.sub {n : Nat} {wo w1 : World} {r : Nat} {x : ByteArray} {i c j : Nat} (h : FS n wo w1 r x i c j) (b0 b1 : Value) (e0 e1 : Value × Value) :
    FD n wo (((((w1.setCell ⟨wo.heap.size, 0, none⟩ b0).setCell ⟨wo.heap.size, 1, none⟩ b1).setCell ⟨wo.heap.size, 2, none⟩ (.slice none 0 0)).setCell ⟨wo.heap.size, 3, none⟩ (.slice (some ⟨w1.heap.size, 0, none⟩) 1 1)).alloc (.cells #[e0.1, e0.2, e1.1, e1.2] 34)) r x i c j b0 b1 (.slice none 0 0) (.slice (some ⟨w1.heap.size, 0, none⟩) 1 1) ∧
    ∀ {w : World} {v : Fv}, wo.heap.size < w.heap.size → w.heap.size ≤ w1.heap.size → fmRep.R w1 (SN w w1) v.fm [e0.1, e0.2, e1.1, e1.2] → fmRep.Sl (((((w1.setCell ⟨wo.heap.size, 0, none⟩ b0).setCell ⟨wo.heap.size, 1, none⟩ b1).setCell ⟨wo.heap.size, 2, none⟩ (.slice none 0 0)).setCell ⟨wo.heap.size, 3, none⟩ (.slice (some ⟨w1.heap.size, 0, none⟩) 1 1)).alloc (.cells #[e0.1, e0.2, e1.1, e1.2] 34)) (SN wo (((((w1.setCell ⟨wo.heap.size, 0, none⟩ b0).setCell ⟨wo.heap.size, 1, none⟩ b1).setCell ⟨wo.heap.size, 2, none⟩ (.slice none 0 0)).setCell ⟨wo.heap.size, 3, none⟩ (.slice (some ⟨w1.heap.size, 0, none⟩) 1 1)).alloc (.cells #[e0.1, e0.2, e1.1, e1.2] 34))) (.slice (some ⟨w1.heap.size, 0, none⟩) 1 1) [v.fm] := by
  have hd := h.put4 b0 b1 (.slice none 0 0) (.slice (some ⟨w1.heap.size, 0, none⟩) 1 1)
  have hfar : ∀ b, b ≠ wo.heap.size → ((((w1.setCell ⟨wo.heap.size, 0, none⟩ b0).setCell ⟨wo.heap.size, 1, none⟩ b1).setCell ⟨wo.heap.size, 2, none⟩ (.slice none 0 0)).setCell ⟨wo.heap.size, 3, none⟩ (.slice (some ⟨w1.heap.size, 0, none⟩) 1 1)).heap[b]? = w1.heap[b]? := fun b hb => heap_far _ hb (heap_far _ hb (heap_far _ hb (heap_far _ hb rfl)))
  have hs : ((((w1.setCell ⟨wo.heap.size, 0, none⟩ b0).setCell ⟨wo.heap.size, 1, none⟩ b1).setCell ⟨wo.heap.size, 2, none⟩ (.slice none 0 0)).setCell ⟨wo.heap.size, 3, none⟩ (.slice (some ⟨w1.heap.size, 0, none⟩) 1 1)).heap.size = w1.heap.size := by simp only [size_set]
  generalize ((((w1.setCell ⟨wo.heap.size, 0, none⟩ b0).setCell ⟨wo.heap.size, 1, none⟩ b1).setCell ⟨wo.heap.size, 2, none⟩ (.slice none 0 0)).setCell ⟨wo.heap.size, 3, none⟩ (.slice (some ⟨w1.heap.size, 0, none⟩) 1 1)) = W at hd hfar hs ⊢
  refine ⟨hd.below ((Below.refl _ _).alloc (Nat.le_refl _) _), fun {w v} hlo hsz hv => ?_⟩
  have hn := heap_alloc_new W (.cells #[e0.1, e0.2, e1.1, e1.2] 34)
  rw [hs] at hn
  refine sl1 hn (fmRep.keep hv (fun b hb => (Below.heap_alloc W _ b (by have := hb.2; omega)).trans (hfar b (by have := hb.1; omega))) (fun b hb => ⟨by have := hb.1; omega, by have := hb.2; simp; omega⟩)) ⟨by omega, by simp; omega⟩
noncomputable def c_fm_r14 : Code := sub [1, 1, 1, 1, 1, 1, 0, 1, 0, 1, 0, 1, 0] (Tryd.f21.body.getD .skip)
set_option maxRecDepth 1000000 in
set_option maxHeartbeats 16000000 in
theorem fm_r14_wp {Q : Exit → Act → World → Prop} {x : ByteArray} {r i c j k n d : Nat} {wo w : World} {f : FRd} (hd : d ≤ 50) (hp : FS n wo w r x i c j) (hf : ∀ W, RdG n W r x i c j → Calls Tryd.prog 21 #[.pointer (some ⟨r, 0, none⟩), .int .i64 ((d : Int) + 1)] W (FormG x r i c j k f W)) (hN : ∀ i' c' j' n' g a' w', Frm 154 [(4, .pointer (some ⟨wo.heap.size, 0, none⟩))] a' → FD n' wo w' r x i' c' j' (.int .i64 (4)) (.string ⟨#[]⟩) (.slice none 0 0) (.slice (some ⟨g, 0, none⟩) 1 1) → (c ≠ 0 → i' = i ∧ c' = c ∧ j' = j) → (c = 0 → FEnd x k i' c' j' n' j (fun v => fmRep.Sl w' (SN wo w') (.slice (some ⟨g, 0, none⟩) 1 1) [v.fm]) f) → Q .normal a' w') : ∀ ac, Frm 154 [(0, .pointer (some ⟨r, 0, none⟩)), (1, .int .i64 (d : Nat)), (4, .pointer (some ⟨wo.heap.size, 0, none⟩))] ac → Code.wp Tryd.prog c_fm_r14 Q ac w := by
  refine frm_open ?_
  refine frame_fm ?_
  intros
  rename_i hq
  obtain ⟨-, -, e0q, e1q, e2q, -⟩ := hq
  have e0q := (Option.some.inj e0q).symm; subst e0q
  have e1q := (Option.some.inj e1q).symm; subst e1q
  have e2q := (Option.some.inj e2q).symm; subst e2q
  conv => arg 2; whnf
  have HN := Lib.hid hN
  have HF := Lib.hid hf
  clear hN hf
  have z0 := cellv hp.res 0 rfl
  have z1 := cellv hp.res 1 rfl
  have z2 := cellv hp.res 2 rfl
  have z3 := cellv hp.res 3 rfl
  have zf0 := free_heap hp.res 0
  have zf1 := free_heap hp.res 1
  have zf2 := free_heap hp.res 2
  have zf3 := free_heap hp.res 3
  have zl := lt_heap hp.res
  have r1 := cellv hp.rd 1 rfl
  have r2 := cellv hp.rd 2 rfl
  have r4 := cellv hp.rd 4 rfl
  have d1 := free_heap hp.rd 1
  have d4 := free_heap hp.rd 4
  have rl := lt_heap hp.rd
  have HP := Lib.hid hp
  clear hp
  have hd4 : (d : Int) ≤ 100 := by omega
  go_wp2_with fail
  (with_reducible refine (HF.out _ HP.out.rd).mono ?_)
  rintro e w1 ⟨i', c', j', n', ka, na, A1, m1, c1, A2, m2, c2, rfl, hr1, hk1, he1, hf1⟩
  have hp1 := HP.out.keeps hk1 hr1
  have hsz1 := hk1.size
  have y0 := cellv hp1.res 0 rfl
  have y1 := cellv hp1.res 1 rfl
  have y2 := cellv hp1.res 2 rfl
  have y3 := cellv hp1.res 3 rfl
  have yf0 := free_heap hp1.res 0
  have yf1 := free_heap hp1.res 1
  have yf2 := free_heap hp1.res 2
  have yf3 := free_heap hp1.res 3
  have yl := lt_heap hp1.res
  have HP1 := Lib.hid hp1
  have HE1 := Lib.hid he1
  have HF1 := Lib.hid hf1
  clear hp1 he1 hf1 hr1 hk1 z0 z1 z2 z3 zf0 zf1 zf2 zf3 zl r1 r2 r4 d1 d4 rl
  go_wp2_with fail
  refine HN.out i' c' j' n' w1.heap.size _ _ (id ⟨rfl, rfl, rfl, trivial⟩) (FS.sub HP1.out (.int .i64 (4)) (.string ⟨#[]⟩) (.int .i64 ka, .string na) (.slice A1 m1 c1, .slice A2 m2 c2)).1 HE1.out (fun h0 => (HF1.out h0).mono fun v hv => (FS.sub HP1.out (.int .i64 (4)) (.string ⟨#[]⟩) (.int .i64 ka, .string na) (.slice A1 m1 c1, .slice A2 m2 c2)).2 HP.out.rl hsz1 hv)
noncomputable def c_fm_r30 : Code := sub [1, 1, 1, 1, 1, 1, 1, 1, 1, 0, 1, 0, 1, 1, 1, 0, 1, 1, 1, 1, 0] (Tryd.f21.body.getD .skip)
set_option maxRecDepth 1000000 in
set_option maxHeartbeats 16000000 in
theorem fm_r30_wp {Q : Exit → Act → World → Prop} {a y : ByteArray} {q : Nat} {x : ByteArray} {r i c j k n d : Nat} {wo w : World} {f : FRd} (hd : d ≤ 50) (hp : FS n wo w r x i c j) (hf : ∀ W, RdG n W r x i c j → Calls Tryd.prog 21 #[.pointer (some ⟨r, 0, none⟩), .int .i64 ((d : Int) + 1)] W (FormG x r i c j k f W)) (hN : ∀ i' c' j' n' g a' w', Frm 154 [(4, .pointer (some ⟨wo.heap.size, 0, none⟩))] a' → FD n' wo w' r x i' c' j' (.int .i64 (q : Nat)) (.string y) (.slice none 0 0) (.slice (some ⟨g, 0, none⟩) 1 1) → (c ≠ 0 → i' = i ∧ c' = c ∧ j' = j) → (c = 0 → FEnd x k i' c' j' n' j (fun v => fmRep.Sl w' (SN wo w') (.slice (some ⟨g, 0, none⟩) 1 1) [v.fm]) f) → Q .normal a' w') : ∀ ac, Frm 154 [(0, .pointer (some ⟨r, 0, none⟩)), (1, .int .i64 (d : Nat)), (4, .pointer (some ⟨wo.heap.size, 0, none⟩)), (6, .string a), (7, .int .i64 (q : Nat)), (8, .string y)] ac → Code.wp Tryd.prog c_fm_r30 Q ac w := by
  refine frm_open ?_
  refine frame_fm ?_
  intros
  rename_i hq
  obtain ⟨-, -, e0q, e1q, e2q, e3q, e4q, e5q, -⟩ := hq
  have e0q := (Option.some.inj e0q).symm; subst e0q
  have e1q := (Option.some.inj e1q).symm; subst e1q
  have e2q := (Option.some.inj e2q).symm; subst e2q
  have e3q := (Option.some.inj e3q).symm; subst e3q
  have e4q := (Option.some.inj e4q).symm; subst e4q
  have e5q := (Option.some.inj e5q).symm; subst e5q
  conv => arg 2; whnf
  have HN := Lib.hid hN
  have HF := Lib.hid hf
  clear hN hf
  have z0 := cellv hp.res 0 rfl
  have z1 := cellv hp.res 1 rfl
  have z2 := cellv hp.res 2 rfl
  have z3 := cellv hp.res 3 rfl
  have zf0 := free_heap hp.res 0
  have zf1 := free_heap hp.res 1
  have zf2 := free_heap hp.res 2
  have zf3 := free_heap hp.res 3
  have zl := lt_heap hp.res
  have r1 := cellv hp.rd 1 rfl
  have r2 := cellv hp.rd 2 rfl
  have r4 := cellv hp.rd 4 rfl
  have d1 := free_heap hp.rd 1
  have d4 := free_heap hp.rd 4
  have rl := lt_heap hp.rd
  have HP := Lib.hid hp
  clear hp
  have hd4 : (d : Int) ≤ 100 := by omega
  go_wp2_with fail
  (with_reducible refine (HF.out _ HP.out.rd).mono ?_)
  rintro e w1 ⟨i', c', j', n', ka, na, A1, m1, c1, A2, m2, c2, rfl, hr1, hk1, he1, hf1⟩
  have hp1 := HP.out.keeps hk1 hr1
  have hsz1 := hk1.size
  have y0 := cellv hp1.res 0 rfl
  have y1 := cellv hp1.res 1 rfl
  have y2 := cellv hp1.res 2 rfl
  have y3 := cellv hp1.res 3 rfl
  have yf0 := free_heap hp1.res 0
  have yf1 := free_heap hp1.res 1
  have yf2 := free_heap hp1.res 2
  have yf3 := free_heap hp1.res 3
  have yl := lt_heap hp1.res
  have HP1 := Lib.hid hp1
  have HE1 := Lib.hid he1
  have HF1 := Lib.hid hf1
  clear hp1 he1 hf1 hr1 hk1 z0 z1 z2 z3 zf0 zf1 zf2 zf3 zl r1 r2 r4 d1 d4 rl
  go_wp2_with fail
  refine HN.out i' c' j' n' w1.heap.size _ _ (id ⟨rfl, rfl, rfl, trivial⟩) (FS.sub HP1.out (.int .i64 (q : Nat)) (.string y) (.int .i64 ka, .string na) (.slice A1 m1 c1, .slice A2 m2 c2)).1 HE1.out (fun h0 => (HF1.out h0).mono fun v hv => (FS.sub HP1.out (.int .i64 (q : Nat)) (.string y) (.int .i64 ka, .string na) (.slice A1 m1 c1, .slice A2 m2 c2)).2 HP.out.rl hsz1 hv)

end Go.Proofs.YtnoceodmnjhljabDoor
