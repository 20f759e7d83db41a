/-
  folform.Parse: the walk, by parts.
-/
import Derived.Test.YtnoceodmnjhljabDoorPairB
import Derived.Test.YtnoceodmnjhljabDoorFrE
namespace Go.Proofs.YtnoceodmnjhljabDoor
open Go Go.RowKit
set_option linter.unusedSimpArgs false
set_option linter.unusedVariables false

set_option maxRecDepth 1000000 in
theorem frame_fp {P : Act → Prop} (h : ∀ x0 x1 x2 x3 x4 x5 x6 x7 x8 x9 x10 x11 x12 x13 x14 x15 x16 x17 x18 x19 x20 x21 x22 x23 x24 x25 x26 x27 x28 x29 x30 x31 x32 x33 x34 x35 x36 x37 x38 x39 x40 x41 x42 x43 x44 x45 x46 x47 x48 x49 x50 x51 x52 x53 x54 x55 x56 x57 : Value, P ⟨(x0 :: x1 :: x2 :: x3 :: x4 :: x5 :: x6 :: x7 :: x8 :: x9 :: x10 :: x11 :: x12 :: x13 :: x14 :: x15 :: x16 :: x17 :: x18 :: x19 :: x20 :: x21 :: x22 :: x23 :: x24 :: x25 :: x26 :: x27 :: x28 :: x29 :: x30 :: x31 :: x32 :: x33 :: x34 :: x35 :: x36 :: x37 :: x38 :: x39 :: x40 :: x41 :: x42 :: x43 :: x44 :: x45 :: x46 :: x47 :: x48 :: x49 :: x50 :: x51 :: x52 :: x53 :: x54 :: x55 :: x56 :: x57 :: []).toArray, []⟩) : ∀ a : Act, a.tmps.toList.length = 58 → a.defers = [] → P a := by
  rintro ⟨⟨l⟩, d⟩ hs hd
  simp only at hd
  subst hd
  revert l
  show ∀ l : List Value, l.length = 58 → P ⟨⟨l⟩, []⟩
  refine openS (n := 57) (fun x0 => ?_)
  refine openS (n := 56) (fun x1 => ?_)
  refine openS (n := 55) (fun x2 => ?_)
  refine openS (n := 54) (fun x3 => ?_)
  refine openS (n := 53) (fun x4 => ?_)
  refine openS (n := 52) (fun x5 => ?_)
  refine openS (n := 51) (fun x6 => ?_)
  refine openS (n := 50) (fun x7 => ?_)
  refine openS (n := 49) (fun x8 => ?_)
  refine openS (n := 48) (fun x9 => ?_)
  refine openS (n := 47) (fun x10 => ?_)
  refine openS (n := 46) (fun x11 => ?_)
  refine openS (n := 45) (fun x12 => ?_)
  refine openS (n := 44) (fun x13 => ?_)
  refine openS (n := 43) (fun x14 => ?_)
  refine openS (n := 42) (fun x15 => ?_)
  refine openS (n := 41) (fun x16 => ?_)
  refine openS (n := 40) (fun x17 => ?_)
  refine openS (n := 39) (fun x18 => ?_)
  refine openS (n := 38) (fun x19 => ?_)
  refine openS (n := 37) (fun x20 => ?_)
  refine openS (n := 36) (fun x21 => ?_)
  refine openS (n := 35) (fun x22 => ?_)
  refine openS (n := 34) (fun x23 => ?_)
  refine openS (n := 33) (fun x24 => ?_)
  refine openS (n := 32) (fun x25 => ?_)
  refine openS (n := 31) (fun x26 => ?_)
  refine openS (n := 30) (fun x27 => ?_)
  refine openS (n := 29) (fun x28 => ?_)
  refine openS (n := 28) (fun x29 => ?_)
  refine openS (n := 27) (fun x30 => ?_)
  refine openS (n := 26) (fun x31 => ?_)
  refine openS (n := 25) (fun x32 => ?_)
  refine openS (n := 24) (fun x33 => ?_)
  refine openS (n := 23) (fun x34 => ?_)
  refine openS (n := 22) (fun x35 => ?_)
  refine openS (n := 21) (fun x36 => ?_)
  refine openS (n := 20) (fun x37 => ?_)
  refine openS (n := 19) (fun x38 => ?_)
  refine openS (n := 18) (fun x39 => ?_)
  refine openS (n := 17) (fun x40 => ?_)
  refine openS (n := 16) (fun x41 => ?_)
  refine openS (n := 15) (fun x42 => ?_)
  refine openS (n := 14) (fun x43 => ?_)
  refine openS (n := 13) (fun x44 => ?_)
  refine openS (n := 12) (fun x45 => ?_)
  refine openS (n := 11) (fun x46 => ?_)
  refine openS (n := 10) (fun x47 => ?_)
  refine openS (n := 9) (fun x48 => ?_)
  refine openS (n := 8) (fun x49 => ?_)
  refine openS (n := 7) (fun x50 => ?_)
  refine openS (n := 6) (fun x51 => ?_)
  refine openS (n := 5) (fun x52 => ?_)
  refine openS (n := 4) (fun x53 => ?_)
  refine openS (n := 3) (fun x54 => ?_)
  refine openS (n := 2) (fun x55 => ?_)
  refine openS (n := 1) (fun x56 => ?_)
  refine openS (n := 0) (fun x57 => ?_)
  refine open0 ?_
  exact h x0 x1 x2 x3 x4 x5 x6 x7 x8 x9 x10 x11 x12 x13 x14 x15 x16 x17 x18 x19 x20 x21 x22 x23 x24 x25 x26 x27 x28 x29 x30 x31 x32 x33 x34 x35 x36 x37 x38 x39 x40 x41 x42 x43 x44 x45 x46 x47 x48 x49 x50 x51 x52 x53 x54 x55 x56 x57
theorem formR_any (x : ByteArray) (hx : x.size ≤ 4000) (r : Nat) : ∀ (k d i c j n : Nat) (w : World), d + k = 41 → (c = 0 → i ≤ x.size) → n ≤ 200 → RdG n w r x i c j → Calls Tryd.prog 21 #[.pointer (some ⟨r, 0, none⟩), .int .i64 (d : Int)] w (FormG x r i c j (k + 1) (frd x k i n) w) := by
  intro k
  induction k with
  | zero =>
    intro d i c j n w hd hi hn hr
    by_cases hc : c = 0
    · subst hc
      exact formR_step x r i j n d 0 w hx hd (hi rfl) hn hr (fun k' i2 c2 j2 n2 W e => by omega) (fun k' n2 W e => by omega)
    · exact formR_err x r i c j n d 1 _ w hc hr
  | succ k ih =>
    intro d i c j n w hd hi hn hr
    by_cases hc : c = 0
    · subst hc
      refine formR_step x r i j n d (k + 1) w hx hd (hi rfl) hn hr (fun k' i2 c2 j2 n2 W e h2 hn2 hr2 => ?_) (fun k' n2 W e h40 hn2 hr2 => ?_)
      · obtain rfl : k = k' := by omega
        exact ih (d + 1) i2 c2 j2 n2 W (by omega) h2 hn2 hr2
      · obtain rfl : k = k' := by omega
        exact pairR_step x r i j n2 d k W hx (by omega) (by omega) h40 hn2 hr2 (fun i3 n3 W3 h3 hn3 hr3 => ih (d + 1) i3 0 j n3 W3 (by omega) (fun _ => h3) hn3 hr3)
    · exact formR_err x r i c j n d (k + 2) _ w hc hr
/-- In Parse, ahead of the reader: the two results' blocks still zero. -/
structure P0 (wo w : World) : Prop where
  z : w.heap[wo.heap.size]? = some (.cells #[.int .i64 0, .string ⟨#[]⟩, .slice none 0 0, .slice none 0 0] 34 (0, 0))
  q : w.heap[wo.heap.size + 1]? = some (.cells #[.int .i64 0, .int .i64 0] 27 (0, 0))
  b : Below wo.heap.size wo w
/-- The results stand. -/
structure PD (wo w : World) (a0 a1 a2 a3 f0 f1 : Value) : Prop where
  z : w.heap[wo.heap.size]? = some (.cells #[a0, a1, a2, a3] 34 (0, 0))
  q : w.heap[wo.heap.size + 1]? = some (.cells #[f0, f1] 27 (0, 0))
  b : Below wo.heap.size wo w
theorem P0.l {wo w : World} (h : P0 wo w) : wo.heap.size + 1 < w.heap.size := lt_heap h.q
theorem P0.keeps {wo w w' : World} {r : Nat} (h : P0 wo w) (hr : wo.heap.size + 1 < r) (hk : Keeps (· = r) w w') : P0 wo w' :=
  ⟨(hk.block _ (by have := h.l; omega) (by omega)).trans h.z, (hk.block _ h.l (by omega)).trans h.q, h.b.trans (hk.below (by rintro k rfl; omega) (by have := h.l; omega))⟩
theorem P0.alloc {wo w : World} (h : P0 wo w) (o : Obj) : P0 wo (w.alloc o) :=
  ⟨heap_old (by have := h.l; omega) h.z, heap_old h.l h.q, h.b.alloc (by have := h.l; omega) _⟩
theorem P0.put {wo w : World} (h : P0 wo w) (a0 a1 a2 a3 f0 f1 : Value) :
    PD wo ((((((w.setCell ⟨wo.heap.size, 0, none⟩ a0).setCell ⟨wo.heap.size, 1, none⟩ a1).setCell ⟨wo.heap.size, 2, none⟩ a2).setCell ⟨wo.heap.size, 3, none⟩ a3).setCell ⟨wo.heap.size + 1, 0, none⟩ f0).setCell ⟨wo.heap.size + 1, 1, none⟩ f1) a0 a1 a2 a3 f0 f1 ∧
    PD wo ((((((w.setCell ⟨wo.heap.size + 1, 0, none⟩ f0).setCell ⟨wo.heap.size + 1, 1, none⟩ f1).setCell ⟨wo.heap.size, 0, none⟩ a0).setCell ⟨wo.heap.size, 1, none⟩ a1).setCell ⟨wo.heap.size, 2, none⟩ a2).setCell ⟨wo.heap.size, 3, none⟩ a3) a0 a1 a2 a3 f0 f1 :=
  ⟨⟨far2 (by omega) (at4 h.z), at2 (far4 (by omega) h.q), below2 (below4 h.b (Nat.le_refl _)) (by omega)⟩, ⟨at4 (far2 (by omega) h.z), far4 (by omega) (at2 h.q), below4 (below2 h.b (by omega)) (Nat.le_refl _)⟩⟩
noncomputable def c_fp_r0 : Code := sub [0] (Tryd.f9.body.getD .skip)
set_option maxRecDepth 1000000 in
set_option maxHeartbeats 16000000 in
theorem fp_r0_wp {Q : Exit → Act → World → Prop} {x : ByteArray} {wo : World} (hN : ∀ a' w', Frm 58 [(0, .string x), (2, .pointer (some ⟨wo.heap.size, 0, none⟩)), (3, .pointer (some ⟨wo.heap.size + 1, 0, none⟩))] a' → P0 wo w' → Q .normal a' w') : ∀ ac, Frm 58 [(0, .string x)] ac → Code.wp Tryd.prog c_fp_r0 Q ac wo := by
  refine frm_open ?_
  refine frame_fp ?_
  intros
  rename_i hq
  obtain ⟨-, -, e0q, -⟩ := hq
  have e0q := (Option.some.inj e0q).symm; subst e0q
  conv => arg 2; whnf
  have HN := Lib.hid hN
  clear hN
  go_wp2_with fail
  exact HN.out _ _ (id ⟨rfl, rfl, rfl, rfl, rfl, trivial⟩) ⟨heap_old (by simp) (heap_at rfl), heap_at (by simp), ((Below.refl _ _).alloc (Nat.le_refl _) _).alloc (by simp) _⟩
noncomputable def c_fp_r1 : Code := sub [1, 0, 0] (Tryd.f9.body.getD .skip)
set_option maxRecDepth 1000000 in
set_option maxHeartbeats 16000000 in
theorem fp_r1_wp {Q : Exit → Act → World → Prop} {x : ByteArray} {wo w : World} (hN : ∀ a', Frm 58 [(0, .string x), (2, .pointer (some ⟨wo.heap.size, 0, none⟩)), (3, .pointer (some ⟨wo.heap.size + 1, 0, none⟩)), (8, .bool (decide (4000 < x.size)))] a' → Q .normal a' w) : ∀ ac, Frm 58 [(0, .string x), (2, .pointer (some ⟨wo.heap.size, 0, none⟩)), (3, .pointer (some ⟨wo.heap.size + 1, 0, none⟩))] ac → Code.wp Tryd.prog c_fp_r1 Q ac w := by
  refine frm_open ?_
  refine frame_fp ?_
  intros
  rename_i hq
  obtain ⟨-, -, e0q, e1q, e2q, -⟩ := hq
  have e0q := (Option.some.inj e0q).symm; subst e0q
  have e1q := (Option.some.inj e1q).symm; subst e1q
  have e2q := (Option.some.inj e2q).symm; subst e2q
  conv => arg 2; whnf
  by_cases h : 4000 < x.size
  · have t1 : decide ((4000 : Int) < (x.size : Int)) = true := decide_eq_true (by omega)
    rw [show decide (4000 < x.size) = true from decide_eq_true h] at hN
    clear h
    have HN := Lib.hid hN
    clear hN
    go_wp2_with fail
    exact HN.out _ (id ⟨rfl, rfl, rfl, rfl, rfl, rfl, trivial⟩)
  · have t1 : decide ((4000 : Int) < (x.size : Int)) = false := decide_eq_false (by omega)
    rw [show decide (4000 < x.size) = false from decide_eq_false h] at hN
    clear h
    have HN := Lib.hid hN
    clear hN
    go_wp2_with fail
    exact HN.out _ (id ⟨rfl, rfl, rfl, rfl, rfl, rfl, trivial⟩)
noncomputable def c_fp_r2 : Code := sub [1, 0, 1, 0, 0] (Tryd.f9.body.getD .skip)
set_option maxRecDepth 1000000 in
set_option maxHeartbeats 16000000 in
theorem fp_r2_wp {Q : Exit → Act → World → Prop} {x : ByteArray} {wo w : World} (hp : P0 wo w) (hN : ∀ a' w', Frm 58 [(2, .pointer (some ⟨wo.heap.size, 0, none⟩)), (3, .pointer (some ⟨wo.heap.size + 1, 0, none⟩))] a' → PD wo w' (.int .i64 0) (.string ⟨#[]⟩) (.slice none 0 0) (.slice none 0 0) (.int .i64 1) (.int .i64 0) → Q .normal a' w') : ∀ ac, Frm 58 [(0, .string x), (2, .pointer (some ⟨wo.heap.size, 0, none⟩)), (3, .pointer (some ⟨wo.heap.size + 1, 0, none⟩))] ac → Code.wp Tryd.prog c_fp_r2 Q ac w := by
  refine frm_open ?_
  refine frame_fp ?_
  intros
  rename_i hq
  obtain ⟨-, -, e0q, e1q, e2q, -⟩ := hq
  have e0q := (Option.some.inj e0q).symm; subst e0q
  have e1q := (Option.some.inj e1q).symm; subst e1q
  have e2q := (Option.some.inj e2q).symm; subst e2q
  conv => arg 2; whnf
  have HN := Lib.hid hN
  clear hN
  have z0 := cellv hp.z 0 rfl
  have z1 := cellv hp.z 1 rfl
  have z2 := cellv hp.z 2 rfl
  have z3 := cellv hp.z 3 rfl
  have zf0 := free_heap hp.z 0
  have zf1 := free_heap hp.z 1
  have zf2 := free_heap hp.z 2
  have zf3 := free_heap hp.z 3
  have q0 := cellv hp.q 0 rfl
  have q1 := cellv hp.q 1 rfl
  have qf0 := free_heap hp.q 0
  have qf1 := free_heap hp.q 1
  have ql := lt_heap hp.q
  have zl := lt_heap hp.z
  have HP := Lib.hid hp
  clear hp
  go_wp2_with fail
  first | exact HN.out _ _ (id ⟨rfl, rfl, rfl, rfl, trivial⟩) (HP.out.put _ _ _ _ _ _).1 | exact HN.out _ _ (id ⟨rfl, rfl, rfl, rfl, trivial⟩) (HP.out.put _ _ _ _ _ _).2
noncomputable def c_fp_r3 : Code := sub [1, 1, 0] (Tryd.f9.body.getD .skip)
set_option maxRecDepth 1000000 in
set_option maxHeartbeats 16000000 in
theorem fp_r3_wp {Q : Exit → Act → World → Prop} {x : ByteArray} {wo w : World} (hp : P0 wo w) (hN : ∀ r a' w', Frm 58 [(0, .string x), (2, .pointer (some ⟨wo.heap.size, 0, none⟩)), (3, .pointer (some ⟨wo.heap.size + 1, 0, none⟩)), (4, .pointer (some ⟨r, 0, none⟩))] a' → P0 wo w' → RdG 0 w' r x 0 0 0 → wo.heap.size + 1 < r → Q .normal a' w') : ∀ ac, Frm 58 [(0, .string x), (2, .pointer (some ⟨wo.heap.size, 0, none⟩)), (3, .pointer (some ⟨wo.heap.size + 1, 0, none⟩))] ac → Code.wp Tryd.prog c_fp_r3 Q ac w := by
  refine frm_open ?_
  refine frame_fp ?_
  intros
  rename_i hq
  obtain ⟨-, -, e0q, e1q, e2q, -⟩ := hq
  have e0q := (Option.some.inj e0q).symm; subst e0q
  have e1q := (Option.some.inj e1q).symm; subst e1q
  have e2q := (Option.some.inj e2q).symm; subst e2q
  conv => arg 2; whnf
  have HN := Lib.hid hN
  clear hN
  have HP := Lib.hid hp
  clear hp
  go_wp2_with fail
  exact HN.out w.heap.size _ _ (id ⟨rfl, rfl, rfl, rfl, rfl, rfl, trivial⟩) (HP.out.alloc _) (heap_at rfl) HP.out.l
noncomputable def c_fp_r4 : Code := sub [1, 1, 1, 0] (Tryd.f9.body.getD .skip)
set_option maxRecDepth 1000000 in
set_option maxHeartbeats 16000000 in
theorem fp_r4_wp {Q : Exit → Act → World → Prop} {x : ByteArray} {r : Nat} {wo w : World} (hx : x.size ≤ 4000) (hp : P0 wo w) (hr : RdG 0 w r x 0 0 0) (hrb : wo.heap.size + 1 < r) (hN : ∀ i c j n ka na A1 m1 c1 A2 m2 c2 g a' w', Frm 58 [(0, .string x), (2, .pointer (some ⟨wo.heap.size, 0, none⟩)), (3, .pointer (some ⟨wo.heap.size + 1, 0, none⟩)), (4, .pointer (some ⟨r, 0, none⟩)), (5, .pointer (some ⟨g, 0, none⟩))] a' → P0 wo w' → RdG n w' r x i c j → w'.heap[g]? = some (.cells #[.int .i64 ka, .string na, .slice A1 m1 c1, .slice A2 m2 c2] 34 (0, 0)) → wo.heap.size + 1 < g → FEnd x 41 i c j n 0 (fun v => fmRep.R w' (fun b => wo.heap.size + 1 < b ∧ b < g) v.fm [.int .i64 ka, .string na, .slice A1 m1 c1, .slice A2 m2 c2]) (frd x 40 0 0) → Q .normal a' w') : ∀ ac, Frm 58 [(0, .string x), (2, .pointer (some ⟨wo.heap.size, 0, none⟩)), (3, .pointer (some ⟨wo.heap.size + 1, 0, none⟩)), (4, .pointer (some ⟨r, 0, none⟩))] ac → Code.wp Tryd.prog c_fp_r4 Q ac w := by
  refine frm_open ?_
  refine frame_fp ?_
  intros
  rename_i hq
  obtain ⟨-, -, e0q, e1q, e2q, e3q, -⟩ := hq
  have e0q := (Option.some.inj e0q).symm; subst e0q
  have e1q := (Option.some.inj e1q).symm; subst e1q
  have e2q := (Option.some.inj e2q).symm; subst e2q
  have e3q := (Option.some.inj e3q).symm; subst e3q
  conv => arg 2; whnf
  have hf : Calls Tryd.prog 21 #[.pointer (some ⟨r, 0, none⟩), .int .i64 1] w (FormG x r 0 0 0 41 (frd x 40 0 0) w) := formR_any x hx r 40 1 0 0 0 0 w rfl (fun _ => by omega) (by omega) hr
  have hrl := lt_heap hr
  have HN := Lib.hid hN
  have HF := Lib.hid hf
  clear hN hf
  have HP := Lib.hid hp
  clear hp
  clear hr
  go_wp2_with fail
  (with_reducible refine HF.out.mono ?_)
  rintro e w1 ⟨i', c', j', n', ka, na, A1, m1, c1, A2, m2, c2, rfl, hr1, hk1, _, hf1⟩
  replace hf1 := hf1 rfl
  have hp1 := HP.out.keeps hrb hk1
  have HK1 := Lib.hid hk1
  have HR1 := Lib.hid hr1
  have HP1 := Lib.hid hp1
  have HF1 := Lib.hid hf1
  clear hp1 hf1 hr1 hk1
  go_wp2_with fail
  have hsz := HK1.out.size
  have hl0 := HP.out.l
  have hrl1 := lt_heap HR1.out
  refine HN.out i' c' j' n' ka na A1 m1 c1 A2 m2 c2 w1.heap.size _ _ (id ⟨rfl, rfl, rfl, rfl, rfl, rfl, rfl, trivial⟩) (HP1.out.alloc _) (heap_old hrl1 HR1.out) (heap_alloc_new w1 _) (by omega) (HF1.out.mono fun v hv => fmRep.keep hv (fun b hb => heap_old hb.2 rfl) (fun b hb => ⟨by have := hb.1; omega, hb.2⟩))
noncomputable def c_fp_r5 : Code := sub [1, 1, 1, 1, 0, 0] (Tryd.f9.body.getD .skip)
set_option maxRecDepth 1000000 in
set_option maxHeartbeats 16000000 in
theorem fp_r5_wp {Q : Exit → Act → World → Prop} {x : ByteArray} {r i c j n : Nat} {wo w : World} {g : Nat} (hr : RdG n w r x i c j) (hN : ∀ a', Frm 58 [(0, .string x), (2, .pointer (some ⟨wo.heap.size, 0, none⟩)), (3, .pointer (some ⟨wo.heap.size + 1, 0, none⟩)), (4, .pointer (some ⟨r, 0, none⟩)), (5, .pointer (some ⟨g, 0, none⟩)), (33, .bool (decide (c = 0 ∧ i < x.size)))] a' → Q .normal a' w) : ∀ ac, Frm 58 [(0, .string x), (2, .pointer (some ⟨wo.heap.size, 0, none⟩)), (3, .pointer (some ⟨wo.heap.size + 1, 0, none⟩)), (4, .pointer (some ⟨r, 0, none⟩)), (5, .pointer (some ⟨g, 0, none⟩))] ac → Code.wp Tryd.prog c_fp_r5 Q ac w := by
  refine frm_open ?_
  refine frame_fp ?_
  intros
  rename_i hq
  obtain ⟨-, -, e0q, e1q, e2q, e3q, e4q, -⟩ := hq
  have e0q := (Option.some.inj e0q).symm; subst e0q
  have e1q := (Option.some.inj e1q).symm; subst e1q
  have e2q := (Option.some.inj e2q).symm; subst e2q
  have e3q := (Option.some.inj e3q).symm; subst e3q
  have e4q := (Option.some.inj e4q).symm; subst e4q
  conv => arg 2; whnf
  by_cases hc : c = 0
  case neg =>
    have t1 : ((c : Int) == 0) = false := beq_eq_false_iff_ne.2 (by omega)
    rw [show decide (c = 0 ∧ i < x.size) = false from decide_eq_false (fun h => hc h.1)] at hN
    have HN := Lib.hid hN
    clear hN
    have r1 := cellv hr 1 rfl
    have r0 := cellv hr 0 rfl
    have r2 := cellv hr 2 rfl
    have r3 := cellv hr 3 rfl
    have rl := lt_heap hr
    have HRD := Lib.hid hr
    clear hr
    clear hc
    go_wp2_with fail
    exact HN.out _ (id ⟨rfl, rfl, rfl, rfl, rfl, rfl, rfl, rfl, trivial⟩)
  subst hc
  by_cases hi : i < x.size
  · have t2 : decide ((i : Int) < (x.size : Int)) = true := decide_eq_true (by omega)
    have t3 : decide (i < x.size) = true := decide_eq_true hi
    rw [show decide (0 = 0 ∧ i < x.size) = true from decide_eq_true ⟨rfl, hi⟩] at hN
    have HN := Lib.hid hN
    clear hN
    have r1 := cellv hr 1 rfl
    have r0 := cellv hr 0 rfl
    have r2 := cellv hr 2 rfl
    have r3 := cellv hr 3 rfl
    have rl := lt_heap hr
    have HRD := Lib.hid hr
    clear hr
    clear hi
    go_wp2_with fail
    exact HN.out _ (id ⟨rfl, rfl, rfl, rfl, rfl, rfl, rfl, rfl, trivial⟩)
  · have t2 : decide ((i : Int) < (x.size : Int)) = false := decide_eq_false (by omega)
    have t3 : decide (i < x.size) = false := decide_eq_false hi
    rw [show decide (0 = 0 ∧ i < x.size) = false from decide_eq_false (fun h => hi h.2)] at hN
    have HN := Lib.hid hN
    clear hN
    have r1 := cellv hr 1 rfl
    have r0 := cellv hr 0 rfl
    have r2 := cellv hr 2 rfl
    have r3 := cellv hr 3 rfl
    have rl := lt_heap hr
    have HRD := Lib.hid hr
    clear hr
    clear hi
    go_wp2_with fail
    exact HN.out _ (id ⟨rfl, rfl, rfl, rfl, rfl, rfl, rfl, rfl, trivial⟩)
noncomputable def c_fp_r6 : Code := sub [1, 1, 1, 1, 0, 1, 0] (Tryd.f9.body.getD .skip)
set_option maxRecDepth 1000000 in
set_option maxHeartbeats 16000000 in
theorem fp_r6_wp {K : Act → World → Prop} {x : ByteArray} {r i j n : Nat} {wo w : World} {g : Nat} (hr : RdG n w r x i 0 j) (hN : ∀ a' w', Frm 58 [(0, .string x), (2, .pointer (some ⟨wo.heap.size, 0, none⟩)), (3, .pointer (some ⟨wo.heap.size + 1, 0, none⟩)), (4, .pointer (some ⟨r, 0, none⟩)), (5, .pointer (some ⟨g, 0, none⟩))] a' → Keeps (· = r) w w' → RdG n w' r x i 11 i → K a' w') : ∀ ac, Frm 58 [(0, .string x), (2, .pointer (some ⟨wo.heap.size, 0, none⟩)), (3, .pointer (some ⟨wo.heap.size + 1, 0, none⟩)), (4, .pointer (some ⟨r, 0, none⟩)), (5, .pointer (some ⟨g, 0, none⟩))] ac → Code.wp Tryd.prog c_fp_r6 (Exit.then K (fun _ _ _ => False)) ac w := by
  refine frm_open ?_
  refine frame_fp ?_
  intros
  rename_i hq
  obtain ⟨-, -, e0q, e1q, e2q, e3q, e4q, -⟩ := hq
  have e0q := (Option.some.inj e0q).symm; subst e0q
  have e1q := (Option.some.inj e1q).symm; subst e1q
  have e2q := (Option.some.inj e2q).symm; subst e2q
  have e3q := (Option.some.inj e3q).symm; subst e3q
  have e4q := (Option.some.inj e4q).symm; subst e4q
  conv => arg 2; whnf
  have hfl : ∀ (W : World), RdG n W r x i 0 j → Calls Tryd.prog 22 #[.pointer (some ⟨r, 0, none⟩), .int .i64 11, .int .i64 (i : Nat)] W fun e w' => e = .returned (.tuple #[]) ∧ RdG n w' r x i 11 i ∧ Keeps (· = r) W w' ∧ w'.heap.size = W.heap.size := fun W h => (failG_any (m := n) r x i 0 j 11 i W h).mono fun e w' h => ⟨h.1, by have := h.2.1; rwa [if_pos rfl] at this, h.2.2⟩
  have HN := Lib.hid hN
  have HFL := Lib.hid hfl
  clear hN hfl
  have r1 := cellv hr 1 rfl
  have r0 := cellv hr 0 rfl
  have r2 := cellv hr 2 rfl
  have r3 := cellv hr 3 rfl
  have rl := lt_heap hr
  have HRD := Lib.hid hr
  clear hr
  go_region_held3 (fun w' => w'.cell? ⟨r, 1, none⟩ = some (.int .i64 (i : Nat)))
    ((first | (go_keep; done) | exact cellv HR4.out 1 rfl))
    (((with_reducible refine (HFL.out _ (by first | exact HRD.out.drew | exact HRD.out)).mono ?_); rintro e w4 ⟨rfl, hr4, hk4, hs4⟩; have HR4 := Lib.hid hr4; have HK4 := Lib.hid hk4; clear hr4 hk4 hs4))
  all_goals go_wp2_with fail
  all_goals exact HN.out _ _ (id ⟨rfl, rfl, rfl, rfl, rfl, rfl, rfl, trivial⟩) (by first | exact HK4.out | exact ((Keeps.refl _ _).drew).trans HK4.out) HR4.out
noncomputable def c_fp_r7 : Code := sub [1, 1, 1, 1, 1, 0, 0] (Tryd.f9.body.getD .skip)
set_option maxRecDepth 1000000 in
set_option maxHeartbeats 16000000 in
theorem fp_r7_wp {Q : Exit → Act → World → Prop} {x : ByteArray} {r i c j n : Nat} {wo w : World} {g : Nat} (hr : RdG n w r x i c j) (hN : ∀ a', Frm 58 [(0, .string x), (2, .pointer (some ⟨wo.heap.size, 0, none⟩)), (3, .pointer (some ⟨wo.heap.size + 1, 0, none⟩)), (4, .pointer (some ⟨r, 0, none⟩)), (5, .pointer (some ⟨g, 0, none⟩)), (49, .bool (decide (c ≠ 0)))] a' → Q .normal a' w) : ∀ ac, Frm 58 [(0, .string x), (2, .pointer (some ⟨wo.heap.size, 0, none⟩)), (3, .pointer (some ⟨wo.heap.size + 1, 0, none⟩)), (4, .pointer (some ⟨r, 0, none⟩)), (5, .pointer (some ⟨g, 0, none⟩))] ac → Code.wp Tryd.prog c_fp_r7 Q ac w := by
  refine frm_open ?_
  refine frame_fp ?_
  intros
  rename_i hq
  obtain ⟨-, -, e0q, e1q, e2q, e3q, e4q, -⟩ := hq
  have e0q := (Option.some.inj e0q).symm; subst e0q
  have e1q := (Option.some.inj e1q).symm; subst e1q
  have e2q := (Option.some.inj e2q).symm; subst e2q
  have e3q := (Option.some.inj e3q).symm; subst e3q
  have e4q := (Option.some.inj e4q).symm; subst e4q
  conv => arg 2; whnf
  by_cases hc : c = 0
  · have t1 : ((c : Int) != 0) = false := by rw [bne_eq_false_iff_eq]; omega
    rw [show decide (c ≠ 0) = false from decide_eq_false (fun h => h hc)] at hN
    have HN := Lib.hid hN
    clear hN
    have r1 := cellv hr 1 rfl
    have r0 := cellv hr 0 rfl
    have r2 := cellv hr 2 rfl
    have r3 := cellv hr 3 rfl
    have rl := lt_heap hr
    have HRD := Lib.hid hr
    clear hr
    clear hc
    go_wp2_with fail
    exact HN.out _ (id ⟨rfl, rfl, rfl, rfl, rfl, rfl, rfl, rfl, trivial⟩)
  · have t1 : ((c : Int) != 0) = true := by rw [bne_iff_ne]; omega
    rw [show decide (c ≠ 0) = true from decide_eq_true hc] at hN
    have HN := Lib.hid hN
    clear hN
    have r1 := cellv hr 1 rfl
    have r0 := cellv hr 0 rfl
    have r2 := cellv hr 2 rfl
    have r3 := cellv hr 3 rfl
    have rl := lt_heap hr
    have HRD := Lib.hid hr
    clear hr
    clear hc
    go_wp2_with fail
    exact HN.out _ (id ⟨rfl, rfl, rfl, rfl, rfl, rfl, rfl, rfl, trivial⟩)
theorem P0.drew {wo w : World} (h : P0 wo w) : P0 wo w.drew := ⟨h.z, h.q, h.b.drew⟩
theorem PD.drew {wo w : World} {a0 a1 a2 a3 f0 f1 : Value} (h : PD wo w a0 a1 a2 a3 f0 f1) : PD wo w.drew a0 a1 a2 a3 f0 f1 := ⟨h.z, h.q, h.b.drew⟩
noncomputable def c_fp_r8 : Code := sub [1, 1, 1, 1, 1, 0, 1, 0, 0] (Tryd.f9.body.getD .skip)
set_option maxRecDepth 1000000 in
set_option maxHeartbeats 16000000 in
theorem fp_r8_wp {K : Act → World → Prop} {x : ByteArray} {r i c j n : Nat} {wo w : World} (hp : P0 wo w) (hr : RdG n w r x i c j) (hrb : wo.heap.size + 1 < r) (hN : ∀ a' w', Frm 58 [(2, .pointer (some ⟨wo.heap.size, 0, none⟩)), (3, .pointer (some ⟨wo.heap.size + 1, 0, none⟩))] a' → PD wo w' (.int .i64 0) (.string ⟨#[]⟩) (.slice none 0 0) (.slice none 0 0) (.int .i64 (c : Nat)) (.int .i64 (j : Nat)) → K a' w') : ∀ ac, Frm 58 [(0, .string x), (2, .pointer (some ⟨wo.heap.size, 0, none⟩)), (3, .pointer (some ⟨wo.heap.size + 1, 0, none⟩)), (4, .pointer (some ⟨r, 0, none⟩))] ac → Code.wp Tryd.prog c_fp_r8 (Exit.then K (fun _ _ _ => False)) ac w := by
  refine frm_open ?_
  refine frame_fp ?_
  intros
  rename_i hq
  obtain ⟨-, -, e0q, e1q, e2q, e3q, -⟩ := hq
  have e0q := (Option.some.inj e0q).symm; subst e0q
  have e1q := (Option.some.inj e1q).symm; subst e1q
  have e2q := (Option.some.inj e2q).symm; subst e2q
  have e3q := (Option.some.inj e3q).symm; subst e3q
  conv => arg 2; whnf
  have HN := Lib.hid hN
  clear hN
  have z0 := cellv hp.z 0 rfl
  have z1 := cellv hp.z 1 rfl
  have z2 := cellv hp.z 2 rfl
  have z3 := cellv hp.z 3 rfl
  have zf0 := free_heap hp.z 0
  have zf1 := free_heap hp.z 1
  have zf2 := free_heap hp.z 2
  have zf3 := free_heap hp.z 3
  have q0 := cellv hp.q 0 rfl
  have q1 := cellv hp.q 1 rfl
  have qf0 := free_heap hp.q 0
  have qf1 := free_heap hp.q 1
  have ql := lt_heap hp.q
  have zl := lt_heap hp.z
  have HP := Lib.hid hp
  clear hp
  have r1 := cellv hr 1 rfl
  have r0 := cellv hr 0 rfl
  have r2 := cellv hr 2 rfl
  have r3 := cellv hr 3 rfl
  have rl := lt_heap hr
  have HRD := Lib.hid hr
  clear hr
  have hne : r ≠ wo.heap.size ∧ r ≠ wo.heap.size + 1 := ⟨by omega, by omega⟩
  have hne1 : r ≠ wo.heap.size := by omega
  have hne2 : r ≠ wo.heap.size + 1 := by omega
  go_region
  all_goals go_wp2_with fail
  all_goals refine HN.out _ _ (id ⟨rfl, rfl, rfl, rfl, trivial⟩) ?_
  all_goals
    first
      | with_reducible exact (HP.out.put _ _ _ _ _ _).1
      | with_reducible exact (HP.out.put _ _ _ _ _ _).2
      | with_reducible exact PD.drew (HP.out.put _ _ _ _ _ _).1
      | with_reducible exact PD.drew (HP.out.put _ _ _ _ _ _).2
      | with_reducible exact (HP.out.drew.put _ _ _ _ _ _).1
      | with_reducible exact (HP.out.drew.put _ _ _ _ _ _).2
      | fail
noncomputable def c_fp_r9 : Code := sub [1, 1, 1, 1, 1, 1, 0] (Tryd.f9.body.getD .skip)
set_option maxRecDepth 1000000 in
set_option maxHeartbeats 16000000 in
theorem fp_r9_wp {Q : Exit → Act → World → Prop} {x : ByteArray} {r g : Nat} {wo w : World} {ka : Int} {na : ByteArray} {A1 A2 : Option Addr} {m1 c1 m2 c2 : Nat} (hp : P0 wo w) (hg : w.heap[g]? = some (.cells #[.int .i64 ka, .string na, .slice A1 m1 c1, .slice A2 m2 c2] 34 (0, 0))) (hgo : wo.heap.size + 1 < g) (hN : ∀ a' w', Frm 58 [(2, .pointer (some ⟨wo.heap.size, 0, none⟩)), (3, .pointer (some ⟨wo.heap.size + 1, 0, none⟩))] a' → PD wo w' (.int .i64 ka) (.string na) (.slice A1 m1 c1) (.slice A2 m2 c2) (.int .i64 0) (.int .i64 0) → (∀ b, wo.heap.size + 1 < b → w'.heap[b]? = w.heap[b]?) → Q .normal a' w') : ∀ ac, Frm 58 [(0, .string x), (2, .pointer (some ⟨wo.heap.size, 0, none⟩)), (3, .pointer (some ⟨wo.heap.size + 1, 0, none⟩)), (4, .pointer (some ⟨r, 0, none⟩)), (5, .pointer (some ⟨g, 0, none⟩))] ac → Code.wp Tryd.prog c_fp_r9 Q ac w := by
  refine frm_open ?_
  refine frame_fp ?_
  intros
  rename_i hq
  obtain ⟨-, -, e0q, e1q, e2q, e3q, e4q, -⟩ := hq
  have e0q := (Option.some.inj e0q).symm; subst e0q
  have e1q := (Option.some.inj e1q).symm; subst e1q
  have e2q := (Option.some.inj e2q).symm; subst e2q
  have e3q := (Option.some.inj e3q).symm; subst e3q
  have e4q := (Option.some.inj e4q).symm; subst e4q
  conv => arg 2; whnf
  have y0 := cellv hg 0 rfl
  have y1 := cellv hg 1 rfl
  have y2 := cellv hg 2 rfl
  have y3 := cellv hg 3 rfl
  have yl := lt_heap hg
  have HN := Lib.hid hN
  have HG := Lib.hid hg
  clear hN hg
  have z0 := cellv hp.z 0 rfl
  have z1 := cellv hp.z 1 rfl
  have z2 := cellv hp.z 2 rfl
  have z3 := cellv hp.z 3 rfl
  have zf0 := free_heap hp.z 0
  have zf1 := free_heap hp.z 1
  have zf2 := free_heap hp.z 2
  have zf3 := free_heap hp.z 3
  have q0 := cellv hp.q 0 rfl
  have q1 := cellv hp.q 1 rfl
  have qf0 := free_heap hp.q 0
  have qf1 := free_heap hp.q 1
  have ql := lt_heap hp.q
  have zl := lt_heap hp.z
  have HP := Lib.hid hp
  clear hp
  have hne1 : g ≠ wo.heap.size := by omega
  have hne2 : g ≠ wo.heap.size + 1 := by omega
  go_wp2_with fail
  first | exact HN.out _ _ (id ⟨rfl, rfl, rfl, rfl, trivial⟩) (HP.out.put _ _ _ _ _ _).1 (fun b h1 => far2 (by omega) (far4 (by omega) rfl)) | exact HN.out _ _ (id ⟨rfl, rfl, rfl, rfl, trivial⟩) (HP.out.put _ _ _ _ _ _).2 (fun b h1 => far4 (by omega) (far2 (by omega) rfl))
set_option maxRecDepth 1000000 in
theorem fp_ret_wp {R : Ending → World → Prop} {wo w' : World} {ka : Int} {na : ByteArray} {A1 A2 : Option Addr} {m1 c1 m2 c2 : Nat} {f0 f1 : Int} (hp : PD wo w' (.int .i64 ka) (.string na) (.slice A1 m1 c1) (.slice A2 m2 c2) (.int .i64 f0) (.int .i64 f1)) (hR : R (.returned (.tuple #[.agg #[.int .i64 ka, .string na, .slice A1 m1 c1, .slice A2 m2 c2], .agg #[.int .i64 f0, .int .i64 f1]])) w') : ∀ ac, Frm 58 [(2, .pointer (some ⟨wo.heap.size, 0, none⟩)), (3, .pointer (some ⟨wo.heap.size + 1, 0, none⟩))] ac → bodyPost Tryd.prog Tryd.f9 R .ret ac w' := by
  refine frm_open ?_
  refine frame_fp ?_
  intros
  rename_i hq
  obtain ⟨-, -, e0q, e1q, -⟩ := hq
  have e0q := (Option.some.inj e0q).symm; subst e0q
  have e1q := (Option.some.inj e1q).symm; subst e1q
  have z0 := cellv hp.z 0 rfl
  have z1 := cellv hp.z 1 rfl
  have z2 := cellv hp.z 2 rfl
  have z3 := cellv hp.z 3 rfl
  have q0 := cellv hp.q 0 rfl
  have q1 := cellv hp.q 1 rfl
  have ql := lt_heap hp.q
  have zl := lt_heap hp.z
  refine bodyPost_ret (v := .tuple #[.agg #[.int .i64 ka, .string na, .slice A1 m1 c1, .slice A2 m2 c2], .agg #[.int .i64 f0, .int .i64 f1]]) (by simp [results, Tryd.results9, go_sem, z0, z1, z2, z3, q0, q1, ql, zl]) rfl ?_
  exact hR
/-- What Parse leaves. -/
def FParseAt (x : ByteArray) (w : World) (e : Ending) (w' : World) : Prop :=
  ∃ es : List Value, e = .returned (.tuple #[.agg es.toArray, .agg #[.int .i64 ((fpC x).1 : Nat), .int .i64 ((fpC x).2 : Nat)]]) ∧ fmRep.R w' (Fresh2 w w') (fpF x) es ∧ Below w.heap.size w w'
theorem fp_of {x : ByteArray} (hl : ¬ 4000 < x.size) : (∀ c j, frd x 40 0 0 = .bad c j → fpC x = (c, j) ∧ fpF x = fmZ) ∧ (∀ v i n, frd x 40 0 0 = .ok v i n → (i < x.size → fpC x = (11, i) ∧ fpF x = fmZ) ∧ (¬ i < x.size → fpC x = (0, 0) ∧ fpF x = v.fm)) := by
  have hr : runF x [] 0 0 = match frd x 40 0 0 with | .bad c j => .bad c j | .ok v j _ => .ok v j := by
    unfold runF
    simp only [List.length_nil, Nat.sub_zero]
    cases frd x 40 0 0 <;> rfl
  refine ⟨fun c j e => ?_, fun v i n e => ⟨fun h => ?_, fun h => ?_⟩⟩
  · unfold fpC fpF
    rw [if_neg hl, if_neg hl, hr, e]
    exact ⟨rfl, rfl⟩
  · unfold fpC fpF
    rw [if_neg hl, if_neg hl, hr, e]
    show (if i < x.size then (11, i) else (0, 0)) = _ ∧ (if i < x.size then fmZ else v.fm) = _
    rw [if_pos h, if_pos h]
    exact ⟨rfl, rfl⟩
  · unfold fpC fpF
    rw [if_neg hl, if_neg hl, hr, e]
    show (if i < x.size then (11, i) else (0, 0)) = _ ∧ (if i < x.size then fmZ else v.fm) = _
    rw [if_neg h, if_neg h]
    exact ⟨rfl, rfl⟩
noncomputable def c_fp_tail : Code := sub [1, 1, 1, 1, 1] (Tryd.f9.body.getD .skip)
set_option maxRecDepth 100000 in
set_option maxHeartbeats 4000000 in
theorem fp_tail_wp {Q : Exit → Act → World → Prop} {x : ByteArray} {r i c j n : Nat} {wo w : World} {g : Nat} {ka : Int} {na : ByteArray} {A1 A2 : Option Addr} {m1 c1 m2 c2 : Nat} (hp : P0 wo w) (hr : RdG n w r x i c j) (hrb : wo.heap.size + 1 < r) (hg : w.heap[g]? = some (.cells #[.int .i64 ka, .string na, .slice A1 m1 c1, .slice A2 m2 c2] 34 (0, 0))) (hgo : wo.heap.size + 1 < g)
    (hA : c ≠ 0 → ∀ a' w', Frm 58 [(2, .pointer (some ⟨wo.heap.size, 0, none⟩)), (3, .pointer (some ⟨wo.heap.size + 1, 0, none⟩))] a' → PD wo w' (.int .i64 0) (.string ⟨#[]⟩) (.slice none 0 0) (.slice none 0 0) (.int .i64 (c : Nat)) (.int .i64 (j : Nat)) → Q .ret a' w')
    (hB : c = 0 → ∀ a' w', Frm 58 [(2, .pointer (some ⟨wo.heap.size, 0, none⟩)), (3, .pointer (some ⟨wo.heap.size + 1, 0, none⟩))] a' → PD wo w' (.int .i64 ka) (.string na) (.slice A1 m1 c1) (.slice A2 m2 c2) (.int .i64 0) (.int .i64 0) → (∀ b, wo.heap.size + 1 < b → w'.heap[b]? = w.heap[b]?) → Q .ret a' w') : ∀ ac, Frm 58 [(0, .string x), (2, .pointer (some ⟨wo.heap.size, 0, none⟩)), (3, .pointer (some ⟨wo.heap.size + 1, 0, none⟩)), (4, .pointer (some ⟨r, 0, none⟩)), (5, .pointer (some ⟨g, 0, none⟩))] ac → Code.wp Tryd.prog c_fp_tail Q ac w := by
  intro a0 hf0
  conv => arg 2; whnf
  refine wp_seq ?_
  refine wp_seq ?_
  refine fp_r7_wp hr (fun a1 h1 => ?_) a0 hf0
  by_cases hc : c ≠ 0
  · refine wp_cond_true ((h1.eval (k := 49) (v := .bool (decide (c ≠ 0))) (by simp)).trans (by rw [decide_eq_true hc])) ?_
    refine wp_seq ?_
    refine Code.wp_mono (Q := Exit.then (fun a' w' => Frm 58 [(2, .pointer (some ⟨wo.heap.size, 0, none⟩)), (3, .pointer (some ⟨wo.heap.size + 1, 0, none⟩))] a' ∧ PD wo w' (.int .i64 0) (.string ⟨#[]⟩) (.slice none 0 0) (.slice none 0 0) (.int .i64 (c : Nat)) (.int .i64 (j : Nat))) (fun _ _ _ => False)) ?_ (fp_r8_wp hp hr hrb (fun a5 w5 h5 hd5 => ⟨h5, hd5⟩) a1 ⟨h1.1, h1.2.1, h1.2.2.1, h1.2.2.2.1, h1.2.2.2.2.1, h1.2.2.2.2.2.1, trivial⟩)
    intro e a3 w3 h
    cases e with
    | normal =>
      obtain ⟨h3, hd3⟩ := h
      refine wp_ret ?_
      exact hA hc a3 w3 h3 hd3
    | _ => exact h.elim
  · refine wp_cond_false ((h1.eval (k := 49) (v := .bool (decide (c ≠ 0))) (by simp)).trans (by rw [decide_eq_false hc])) ?_
    refine wp_skip ?_
    show Code.wp _ _ _ a1 w
    refine wp_seq ?_
    refine fp_r9_wp hp hg hgo (fun a2 w2 h2 hd2 hb2 => ?_) a1 ⟨h1.1, h1.2.1, h1.2.2.1, h1.2.2.2.1, h1.2.2.2.2.1, h1.2.2.2.2.2.1, h1.2.2.2.2.2.2.1, trivial⟩
    refine wp_ret ?_
    exact hB (Decidable.not_not.1 hc) a2 w2 h2 hd2 hb2
set_option maxRecDepth 100000 in
set_option maxHeartbeats 4000000 in
theorem fparse_any (x : ByteArray) (w : World) (hx : x.size ≤ maxLen) : Calls Tryd.prog 9 #[.string x] w (FParseAt x w) := by
  go_enter Tryd.func9, Tryd.ntmps9
  have hbad : ∀ (c j : Nat) a' w', fpC x = (c, j) → fpF x = fmZ → Frm 58 [(2, .pointer (some ⟨w.heap.size, 0, none⟩)), (3, .pointer (some ⟨w.heap.size + 1, 0, none⟩))] a' → PD w w' (.int .i64 0) (.string ⟨#[]⟩) (.slice none 0 0) (.slice none 0 0) (.int .i64 (c : Nat)) (.int .i64 (j : Nat)) → bodyPost Tryd.prog Tryd.f9 (FParseAt x w) .ret a' w' := by
    intro c j a' w' e1 e2 h hd
    refine fp_ret_wp hd ?_ a' h
    unfold FParseAt
    rw [e1, e2]
    exact ⟨_, rfl, fmZ_rep, hd.b⟩
  refine wp_seq ?_
  refine fp_r0_wp (fun a1 w1 h1 hp1 => ?_) _ (id ⟨rfl, rfl, rfl, trivial⟩)
  refine wp_seq ?_
  refine wp_seq ?_
  refine fp_r1_wp (fun a2 h2 => ?_) a1 h1
  by_cases hl : 4000 < x.size
  · refine wp_cond_true ((h2.eval (k := 8) (v := .bool (decide (4000 < x.size))) (by simp)).trans (by rw [decide_eq_true hl])) ?_
    refine wp_seq ?_
    refine fp_r2_wp hp1 (fun a3 w3 h3 hd3 => ?_) a2 ⟨h2.1, h2.2.1, h2.2.2.1, h2.2.2.2.1, h2.2.2.2.2.1, trivial⟩
    refine wp_ret ?_
    exact hbad 1 0 a3 w3 (by unfold fpC; rw [if_pos hl]) (by unfold fpF; rw [if_pos hl]) h3 hd3
  refine wp_cond_false ((h2.eval (k := 8) (v := .bool (decide (4000 < x.size))) (by simp)).trans (by rw [decide_eq_false hl])) ?_
  refine wp_skip ?_
  show Code.wp _ _ _ a2 w1
  obtain ⟨fp1, fp2⟩ := fp_of hl
  refine wp_seq ?_
  refine fp_r3_wp hp1 (fun r a3 w3 h3 hp3 hr3 hrb => ?_) a2 ⟨h2.1, h2.2.1, h2.2.2.1, h2.2.2.2.1, h2.2.2.2.2.1, trivial⟩
  refine wp_seq ?_
  refine fp_r4_wp (by omega) hp3 hr3 hrb (fun i c j n ka na A1 m1 c1 A2 m2 c2 g a4 w4 h4 hp4 hr4 hg4 hgo hF => ?_) a3 h3
  refine wp_seq ?_
  refine wp_seq ?_
  refine fp_r5_wp hr4 (fun a5 h5 => ?_) a4 h4
  by_cases hcn : c = 0 ∧ i < x.size
  · refine wp_cond_true ((h5.eval (k := 33) (v := .bool (decide (c = 0 ∧ i < x.size))) (by simp)).trans (by rw [decide_eq_true hcn])) ?_
    obtain ⟨rfl, hi⟩ := hcn
    refine Code.wp_mono (Q := Exit.then (fun a' w' => Frm 58 [(0, .string x), (2, .pointer (some ⟨w.heap.size, 0, none⟩)), (3, .pointer (some ⟨w.heap.size + 1, 0, none⟩)), (4, .pointer (some ⟨r, 0, none⟩)), (5, .pointer (some ⟨g, 0, none⟩))] a' ∧ Keeps (· = r) w4 w' ∧ RdG n w' r x i 11 i) (fun _ _ _ => False)) ?_ (fp_r6_wp hr4 (fun a5 w5 h5 hk5 hr5 => ⟨h5, hk5, hr5⟩) a5 ⟨h5.1, h5.2.1, h5.2.2.1, h5.2.2.2.1, h5.2.2.2.2.1, h5.2.2.2.2.2.1, h5.2.2.2.2.2.2.1, trivial⟩)
    intro e a6 w6 h
    cases e with
    | normal =>
      obtain ⟨h6, hk6, hr6⟩ := h
      show Code.wp _ _ _ a6 w6
      have hne : g ≠ r := by
        rintro rfl
        have e := hr4.symm.trans hg4
        unfold RdG at hr4
        rw [hr4] at hg4
        injection hg4 with e1
        injection e1 with e2
        simp at e2
      refine fp_tail_wp (hp4.keeps hrb hk6) hr6 hrb ((hk6.block g (lt_heap hg4) (by omega)).trans hg4) hgo (fun _ a7 w7 h7 hd7 => ?_) (fun h => by cases h) a6 h6
      revert hF
      cases hfr : frd x 40 0 0 with
      | bad c2 j2 => rintro ⟨e1, e2, _⟩; exact absurd e1.symm e2
      | ok v i2 n2 =>
        rintro ⟨rfl, _⟩
        obtain ⟨h8, h9⟩ := (fp2 _ _ _ hfr).1 hi
        exact hbad 11 i a7 w7 h8 h9 h7 hd7
    | _ => exact h.elim
  refine wp_cond_false ((h5.eval (k := 33) (v := .bool (decide (c = 0 ∧ i < x.size))) (by simp)).trans (by rw [decide_eq_false hcn])) ?_
  refine wp_skip ?_
  show Code.wp _ _ _ a5 w4
  refine fp_tail_wp hp4 hr4 hrb hg4 hgo (fun hc a7 w7 h7 hd7 => ?_) (fun hc a7 w7 h7 hd7 hb7 => ?_) a5 ⟨h5.1, h5.2.1, h5.2.2.1, h5.2.2.2.1, h5.2.2.2.2.1, h5.2.2.2.2.2.1, h5.2.2.2.2.2.2.1, trivial⟩
  · revert hF
    cases hfr : frd x 40 0 0 with
    | ok v i2 n2 => rintro ⟨_, e2, _⟩; exact absurd e2 hc
    | bad c2 j2 =>
      rintro ⟨rfl, _, rfl, _⟩
      obtain ⟨h8, h9⟩ := fp1 _ _ hfr
      exact hbad c j a7 w7 h8 h9 h7 hd7
  · subst hc
    revert hF
    cases hfr : frd x 40 0 0 with
    | bad c2 j2 => rintro ⟨e1, e2, _⟩; exact absurd e1.symm e2
    | ok v i2 n2 =>
      rintro ⟨rfl, _, rfl, _, _, _, hv⟩
      obtain ⟨h8, h9⟩ := (fp2 _ _ _ hfr).2 (fun h => hcn ⟨rfl, h⟩)
      refine fp_ret_wp hd7 ?_ a7 h7
      unfold FParseAt
      rw [h8, h9]
      exact ⟨_, rfl, fmRep.keep hv (fun b hb => hb7 b hb.1) (fun b hb => ⟨by have := hb.1; omega, by have := hb.2; have h1 := lt_heap ((hb7 g hgo).trans hg4); omega⟩), hd7.b⟩

end Go.Proofs.YtnoceodmnjhljabDoor
