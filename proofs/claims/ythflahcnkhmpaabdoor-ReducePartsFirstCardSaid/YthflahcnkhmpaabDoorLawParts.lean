/-
  The law ReducePartsFirst: the walk.
-/
import Derived.Test.YthflahcnkhmpaabDoorProg
import Derived.Test.YthflahcnkhmpaabDoorLawLead
namespace Go.Proofs.YthflahcnkhmpaabDoor
open Go Go.RowKit
set_option linter.unusedSimpArgs false
set_option linter.unusedVariables false

/-- Of a well-formed term nothing but its size can be wrong. -/
theorem Tv.val_01 : ∀ (v : Tv) (d bd n : Nat), v.ok bd → (tmVal v.tm d bd n).1 = 0 ∨ (tmVal v.tm d bd n).1 = 1
  | .con nm s, d, bd, n, h => by
    unfold Tv.tm tmVal
    by_cases hg : 200 < n + 1 ∨ 40 < d
    · rw [if_pos hg]; exact Or.inr rfl
    · rw [if_neg hg, if_pos (by simp [TmL.code, h.1, h.2])]
      unfold tmVals; exact Or.inl rfl
  | .var i, d, bd, n, h => by
    unfold Tv.tm tmVal
    by_cases hg : 200 < n + 1 ∨ 40 < d
    · rw [if_pos hg]; exact Or.inr rfl
    · rw [if_neg hg, if_pos (by simp only [Tv.ok] at h; simp [TmL.code, noTy_blank]; omega)]
      unfold tmVals; exact Or.inl rfl
  | .abs s b, d, bd, n, h => by
    unfold Tv.tm tmVal
    by_cases hg : 200 < n + 1 ∨ 40 < d
    · rw [if_pos hg]; exact Or.inr rfl
    · rw [if_neg hg, if_pos (by simp [TmL.code, h.1])]
      have ih := Tv.val_01 b (d + 1) (bd + 1) (n + 1) h.2
      unfold tmVals
      simp only [TmL.under, if_true]
      by_cases h0 : (tmVal b.tm (d + 1) (bd + 1) (n + 1)).1 = 0
      · rw [if_pos h0]; unfold tmVals; exact Or.inl rfl
      · rw [if_neg h0]; exact ih
  | .app f x, d, bd, n, h => by
    unfold Tv.tm tmVal
    by_cases hg : 200 < n + 1 ∨ 40 < d
    · rw [if_pos hg]; exact Or.inr rfl
    · rw [if_neg hg, if_pos (by simp [TmL.code, noTy_blank])]
      have ih := Tv.val_01 f (d + 1) bd (n + 1) h.1
      unfold tmVals
      simp only [TmL.under, show ¬ ((4 : Int) = 3) by decide, if_false]
      by_cases h0 : (tmVal f.tm (d + 1) bd (n + 1)).1 = 0
      · rw [if_pos h0]
        have ih2 := Tv.val_01 x (d + 1) bd (tmVal f.tm (d + 1) bd (n + 1)).2.2 h.2
        unfold tmVals
        by_cases h1 : (tmVal x.tm (d + 1) bd (tmVal f.tm (d + 1) bd (n + 1)).2.2).1 = 0
        · rw [if_pos h1]; unfold tmVals; exact Or.inl rfl
        · rw [if_neg h1]; exact ih2
      · rw [if_neg h0]; exact ih
theorem tmFault_01 {v : Tv} {s : Sy} (h : v.ok 0) (ht : v.typ [] = some s) : (tmFault v.tm).1 = 0 ∨ (tmFault v.tm).1 = 1 := by
  unfold tmFault
  split
  · rcases Tv.val_01 v 1 0 0 h with h1 | h1
    · rename_i h2; exact absurd h1 h2
    · exact Or.inr h1
  · rw [if_pos ⟨v, rfl, by simp [ht]⟩]; exact Or.inl rfl

/-- What a function returns, written out alike for a fault and for a term. -/
theorem FormAt.uni {r : Tv → Option Tv} {v : Tv} {w w' : World} {e : Ending} (hz : (tmFault v.tm).1 = 0) (h : FormAt r v.tm w e w') :
    ∃ (k : Int) (nm : ByteArray) (ix : Int) (s : ByteArray) (A : Option Addr) (n c : Nat) (B : Option Addr) (m d : Nat) (code i : Int),
      e = .returned (.tuple #[.agg #[.int .i64 k, .string nm, .int .i64 ix, .string s, .slice A n c, .slice B m d], .agg #[.int .i64 code, .int .i64 i]]) ∧
      (code ≠ 0 ∨ (code = 0 ∧ i = 0 ∧ ∃ u : Tv, r v = some u ∧ tmRep.R w' (Fresh w w') u.tm [.int .i64 k, .string nm, .int .i64 ix, .string s, .slice A n c, .slice B m d])) := by
  rcases h.cases hz with ⟨c, i, hc, rfl⟩ | ⟨u, ds, h1, rfl, h2⟩
  · exact ⟨_, _, _, _, _, _, _, _, _, _, c, i, rfl, Or.inl hc⟩
  · obtain ⟨s7, A7, n7, c7, B7, m7, d7, rfl, _, _⟩ := Tm.shape h2
    exact ⟨_, _, _, _, _, _, _, _, _, _, 0, 0, rfl, Or.inr ⟨rfl, rfl, u, h1, h2⟩⟩
theorem redex_norm : Tv.steps 2001 tvRedex = some tvKim := by
  show Tv.steps (1999 + 1 + 1) tvRedex = some tvKim
  rw [Tv.steps, if_neg (by decide), tvRedex_step]
  exact Tv.steps_normal 1999 rfl (by decide)
theorem FormAt.redex {w w' : World} {e : Ending} (h : FormAt (Tv.steps 2001) tvRedex.tm w e w') : ∃ ds : List Value, e = .returned (.tuple #[.agg ds.toArray, .agg #[.int .i64 0, .int .i64 0]]) ∧ tmRep.R w' (Fresh w w') tvKim.tm ds := by
  rcases h.2.1 tvRedex rfl (by rw [tvRedex_fault]) with ⟨h1, _⟩ | ⟨u, ds, h1, h2, h3⟩
  · rw [redex_norm] at h1; simp at h1
  · rw [redex_norm] at h1
    obtain rfl := Option.some.inj h1
    exact ⟨ds, h2, h3⟩
/-- Apply has returned a fault. -/
def BadTm (e : Ending) : Prop := ∃ c i : Int, c ≠ 0 ∧ e = .returned (.tuple #[.agg zTm, .agg #[.int .i64 c, .int .i64 i]])
/-- Apply has returned a term. -/
def GoodTm (f x : Tm) (w : World) (e : Ending) (w' : World) : Prop := ∃ (vf vx : Tv) (a b : Sy) (ds : List Value), f = vf.tm ∧ x = vx.tm ∧ (tmFault vf.tm).1 = 0 ∧ (tmFault vx.tm).1 = 0 ∧ vf.ok 0 ∧ vx.ok 0 ∧ vf.nodes + vx.nodes + 1 ≤ 200 ∧ max vf.depth vx.depth + 1 ≤ 40 ∧ vf.typ [] = some (.fn a b) ∧ vx.typ [] = some a ∧
  e = .returned (.tuple #[.agg ds.toArray, .agg #[.int .i64 0, .int .i64 0]]) ∧ tmRep.R w' (Fresh w w') (Tv.app vf vx).tm ds
theorem ApplyAt.cases {f x : Tm} {w w' : World} {e : Ending} (h : ApplyAt f x w e w') : BadTm e ∨ GoodTm f x w e w' := by
  obtain ⟨h1, h2, h3, _⟩ := h
  by_cases hf : (tmFault f).1 = 0
  case neg => exact Or.inl ⟨_, _, by omega, h1 hf⟩
  by_cases hx : (tmFault x).1 = 0
  case neg => exact Or.inl ⟨_, _, by omega, h2 hf hx⟩
  obtain ⟨vf, sf, rfl, of, nf, df, tf, _⟩ := tmFault_zero hf
  obtain ⟨vx, sx, rfl, ox, nx, dx, tx, _⟩ := tmFault_zero hx
  have h4 := h3 vf vx rfl rfl hf hx
  unfold ApplyRes at h4
  split at h4
  · exact Or.inl ⟨_, _, by omega, h4⟩
  split at h4
  · exact Or.inl ⟨_, _, by omega, h4⟩
  rename_i h5 h6
  obtain ⟨b, hb⟩ := Option.isSome_iff_exists.1 (by cases h : (Tv.typ [] (.app vf vx)).isSome <;> simp_all : (Tv.typ [] (.app vf vx)).isSome = true)
  obtain ⟨a, t1, t2⟩ := Tv.typ_app hb
  obtain ⟨ds, e1, e2⟩ := h4
  exact Or.inr ⟨vf, vx, a, b, ds, rfl, rfl, hf, hx, of, ox, by omega, by omega, t1, t2, e1, e2⟩
/-- .. of typed terms: nothing but the size can be wrong. -/
theorem ApplyAt.cases1 {g y : Tv} {a b : Sy} {w w' : World} {e : Ending} (og : g.ok 0) (oy : y.ok 0) (tg : g.typ [] = some (.fn a b)) (ty : y.typ [] = some a) (h : ApplyAt g.tm y.tm w e w') :
    (∃ i : Int, e = .returned (.tuple #[.agg zTm, .agg #[.int .i64 1, .int .i64 i]])) ∨
    (∃ ds : List Value, e = .returned (.tuple #[.agg ds.toArray, .agg #[.int .i64 0, .int .i64 0]]) ∧ tmRep.R w' (Fresh w w') (Tv.app g y).tm ds ∧ (tmFault (Tv.app g y).tm).1 = 0) := by
  obtain ⟨h1, h2, h3, _⟩ := h
  rcases tmFault_01 og tg with hf | hf
  case inr => exact Or.inl ⟨(tmFault g.tm).2, by rw [h1 (by omega), hf]; rfl⟩
  rcases tmFault_01 oy ty with hx | hx
  case inr => exact Or.inl ⟨(tmFault y.tm).2, by rw [h2 hf (by omega), hx]; rfl⟩
  have h4 := h3 g y rfl rfl hf hx
  have ht := Tv.typ_app_mk tg ty
  unfold ApplyRes at h4
  rw [ht, if_neg (by simp)] at h4
  split at h4
  · exact Or.inl ⟨_, h4⟩
  rename_i h6
  obtain ⟨ds, e1, e2⟩ := h4
  refine Or.inr ⟨ds, e1, e2, ?_⟩
  rw [tmFault_ok (v := .app g y) ⟨og, oy⟩ (by simp only [Tv.nodes]; omega) (by simp only [Tv.depth]; omega) ht]

/-- The plain law. -/
theorem parts_first {f x g y a b : Tv} (h1 : Tv.steps 2001 f = some g) (h2 : Tv.steps 2001 x = some y) (h3 : Tv.steps 2001 (.app f x) = some a) (h4 : Tv.steps 2001 (.app g y) = some b) : a = b := by
  obtain ⟨p1, _⟩ := Tv.steps_pars _ _ _ h1
  obtain ⟨p2, _⟩ := Tv.steps_pars _ _ _ h2
  obtain ⟨p3, q3, _⟩ := Tv.steps_pars _ _ _ h3
  obtain ⟨p4, q4, _⟩ := Tv.steps_pars _ _ _ h4
  exact p3.unique ((p1.app p2).trans p4) q3 q4

set_option maxRecDepth 100000 in
set_option maxHeartbeats 4000000 in
theorem partsLaw_any (f : Tm) (cs : List Value) (x : Tm) (ds : List Value) (w : World) (S : Nat → Prop) (hf : tmRep.R w S f cs) (hx : tmRep.R w S x ds) (hS : ∀ b, S b → b < w.heap.size)
    (g0 : w.cell? ⟨0, 0, none⟩ = some (.int .i64 0)) (g1 : w.cell? ⟨0, 1, none⟩ = some (.int .i64 0)) :
    Calls Tryd.prog 6 #[.agg cs.toArray, .agg ds.toArray] w fun e w' => e = .returned (.bool true) ∧ Below w.heap.size w w' := by
  obtain ⟨sf, Af, nf, cf, Bf, mf, df, rfl, _, _⟩ := Tm.shape hf
  obtain ⟨sx, Ax, nx, cx, Bx, mx, dx, rfl, _, _⟩ := Tm.shape hx
  have hg := World.block_lt_of_cell? w _ g0
  have HF := Lib.hid hf
  have HX := Lib.hid hx
  have HS := Lib.hid hS
  have G0 := Lib.hid g0
  have G1 := Lib.hid g1
  clear hf hx hS g0 g1
  go_enter Tryd.func6, Tryd.ntmps6
  go_wp2_with fail
  (with_reducible refine (redex_any _).mono ?_)
  rintro e w1 ⟨es, rfl, h1, hw1⟩
  obtain ⟨s1, A1, n1, c1, B1, m1, d1, rfl, _, _⟩ := Tm.shape h1
  have z1 : w.heap.size + 2 ≤ w1.heap.size := by have := hw1.size; simpa using this
  have p0 := (hw1.block w.heap.size (by simp; omega)).trans (heap_old (by simp) (heap_at rfl))
  have p1 := (hw1.block (w.heap.size + 1) (by simp)).trans (heap_at (by simp))
  have hB1 : Below w.heap.size w w1 := (((Below.refl _ w).alloc (Nat.le_refl _) _).alloc (by simp) _).trans (hw1.mono (by simp; omega))
  have hst := Lib.hid (normal_any tvRedex.tm _ w1 _ h1 (fun k hk => hk.2))
  have P0 := Lib.hid p0
  have P1 := Lib.hid p1
  have HW1 := Lib.hid hw1
  have H1 := Lib.hid h1
  have HB1 := Lib.hid hB1
  clear p0 p1 hw1 h1 hB1
  go_wp2_with fail
  (with_reducible refine hst.out.mono ?_)
  rintro e w2 hr
  have hw2 := hr.2.2
  obtain ⟨ds2, rfl, h2⟩ := hr.redex
  obtain ⟨u0, u1, vs, rfl, -, hty, Av, nv, cv, rfl, -⟩ := Tm.open_ (a := ⟨1, bKim, 0, Sy.e.ty⟩) (l := []) h2
  obtain ⟨sk, Ak, nk, ck, rfl, rfl⟩ := hty.shape
  have z2 := hw2.size
  have p0 := (hw2.block _ (by omega)).trans P0.out
  have p1 := (hw2.block _ (by omega)).trans P1.out
  have hB2 := HB1.out.trans (hw2.mono (by omega))
  have c0' := (hB2.cell (p := ⟨0, 0, none⟩) hg).trans G0.out
  have c1' := (hB2.cell (p := ⟨0, 1, none⟩) hg).trans G1.out
  have lg : 0 < w2.heap.size := by omega
  have lgb : 0 < w2.heap.size + 1 := by omega
  have hkim : (bKim.toList == [107, 105, 109]) = true := by decide +kernel
  have l20 : w.heap.size < w2.heap.size := by omega
  have hS2 : ∀ (o p : Obj) k, S k → ((w2.alloc o).alloc p).heap[k]? = w.heap[k]? := fun o p k hk => by
    have := HS.out k hk
    exact heap_old (by simp; omega) (heap_old (by omega) (hB2.block k this))
  have hap := fun (o p : Obj) => Lib.hid (apply_any f x [.int .i64 f.lab.kind, .string f.lab.nm, .int .i64 f.lab.ix, .string sf, .slice Af nf cf, .slice Bf mf df] [.int .i64 x.lab.kind, .string x.lab.nm, .int .i64 x.lab.ix, .string sx, .slice Ax nx cx, .slice Bx mx dx] ((w2.alloc o).alloc p) S (tmRep.keep HF.out (hS2 o p) (fun _ h => h)) (tmRep.keep HX.out (hS2 o p) (fun _ h => h)) (fun k hk => by have := HS.out k hk; simp; omega))
  clear hst hr h2 hty
  have HW2 := Lib.hid hw2
  have HB2 := Lib.hid hB2
  have HS2 := Lib.hid hS2
  have HAP := Lib.hid hap
  clear hw2 hB2 hS2 hap
  have p0_0 := cv0 p0
  have p0_1 := cv1 p0
  have p0_2 := cv2 p0
  have p0_3 := cv3 p0
  have p0_4 := cv4 p0
  have p0_5 := cv5 p0
  have p0_l := lt_heap p0
  have P0 := Lib.hid p0
  clear p0
  have p1_0 := cv0 p1
  have p1_1 := cv1 p1
  have p1_2 := cv2 p1
  have p1_3 := cv3 p1
  have p1_4 := cv4 p1
  have p1_5 := cv5 p1
  have p1_l := lt_heap p1
  have P1 := Lib.hid p1
  clear p1
  go_wp2_with fail
  (with_reducible refine (HAP.out _ _).out.mono ?_)
  rintro e w3 hr
  have hw3 : Below ((w2.alloc (.cells #[.int .i64 1, .string bKim, .int .i64 0, .string sk, .slice Ak nk ck, .slice Av nv cv] 27)).alloc (.cells #[.int .i64 0, .int .i64 0] 29)).heap.size _ w3 := hr.2.2.2
  have z3 : w2.heap.size + 2 ≤ w3.heap.size := by have := hw3.size; simpa using this
  have hB3 := ((HB2.out.alloc (by omega) (.cells #[.int .i64 1, .string bKim, .int .i64 0, .string sk, .slice Ak nk ck, .slice Av nv cv] 27)).alloc (by simp; omega) (.cells #[.int .i64 0, .int .i64 0] 29)).trans (hw3.mono (by simp; omega))
  have p0 := (hw3.block w.heap.size (by simp; omega)).trans (heap_old (by simp; omega) (heap_old p0_l P0.out))
  have p1 := (hw3.block (w.heap.size + 1) (by simp; omega)).trans (heap_old (by simp; omega) (heap_old p1_l P1.out))
  have c0' := (hB3.cell (p := ⟨0, 0, none⟩) hg).trans G0.out
  have c1' := (hB3.cell (p := ⟨0, 1, none⟩) hg).trans G1.out
  have lg : 0 < w3.heap.size := by omega
  have lgb : 0 < w3.heap.size + 1 := by omega
  clear p0_0 p0_1 p0_2 p0_3 p0_4 p0_5 p0_l p1_0 p1_1 p1_2 p1_3 p1_4 p1_5 p1_l hkim
  rcases hr.cases with ⟨c, i, hc, rfl⟩ | ⟨vf, vx, a, b, ds3, rfl, rfl, zf, zx, of, ox, nn, dd, tf, tx, rfl, hu⟩
  · have hc' : (c == 0) = false := beq_eq_false_iff_ne.2 hc
    clear hr hc
    have HW3 := Lib.hid hw3
    have HB3 := Lib.hid hB3
    have P0 := Lib.hid p0
    have P1 := Lib.hid p1
    clear hw3 hB3 p0 p1
    unfold zTm
    go_wp2_with fail
    go_returns
    exact ⟨rfl, (HB3.out.alloc (by omega) _).alloc (by simp; omega) _⟩
  obtain ⟨s3, A3, n3, c3, B3, m3, d3, rfl, _, _⟩ := Tm.shape hu
  have oA : (Tv.app vf vx).ok 0 := ⟨of, ox⟩
  have zA : (tmFault (Tv.app vf vx).tm).1 = 0 := by rw [tmFault_ok oA (by simp only [Tv.nodes]; omega) (by simp only [Tv.depth]; omega) (Tv.typ_app_mk tf tx)]
  have hplain : ∀ g y a' b', Tv.steps 2001 vf = some g → Tv.steps 2001 vx = some y → Tv.steps 2001 (.app vf vx) = some a' → Tv.steps 2001 (.app g y) = some b' → a' = b' := fun g y a' b' h1 h2 h3 h4 => parts_first h1 h2 h3 h4
  have hgood : ∀ g y, Tv.steps 2001 vf = some g → Tv.steps 2001 vx = some y → g.ok 0 ∧ y.ok 0 ∧ g.typ [] = some (.fn a b) ∧ y.typ [] = some a := fun g y h1 h2 => ⟨Tv.steps_ok _ _ _ _ h1 of, Tv.steps_ok _ _ _ _ h2 ox, Tv.steps_typ _ _ _ _ _ h1 tf, Tv.steps_typ _ _ _ _ _ h2 tx⟩
  have ZF := Lib.hid zf
  have ZX := Lib.hid zx
  have ZA := Lib.hid zA
  have hS3 : ∀ (o p : Obj) k, S k → ((w3.alloc o).alloc p).heap[k]? = w.heap[k]? := fun o p k hk => by
    have := HS.out k hk
    exact heap_old (by simp; omega) (heap_old (by omega) (hB3.block k this))
  have hn1 := fun (o p : Obj) => Lib.hid (normal_any vf.tm [.int .i64 vf.tm.lab.kind, .string vf.tm.lab.nm, .int .i64 vf.tm.lab.ix, .string sf, .slice Af nf cf, .slice Bf mf df] ((w3.alloc o).alloc p) S (tmRep.keep HF.out (hS3 o p) (fun _ h => h)) (fun k hk => by have := HS.out k hk; simp; omega))
  have HU3 := Lib.hid (tmRep.keep (S' := Lo w3) hu (fun _ _ => rfl) (fun k hk => hk.2))
  have l30 : w.heap.size < w3.heap.size := by omega
  clear hr hu zf zx zA oA of ox tf tx nn dd
  have HW3 := Lib.hid hw3
  have HB3 := Lib.hid hB3
  have HPLAIN := Lib.hid hplain
  have HGOOD := Lib.hid hgood
  have HN1 := Lib.hid hn1
  have HS3 := Lib.hid hS3
  clear hw3 hB3 hplain hgood hn1 hS3
  have p0_0 := cv0 p0
  have p0_1 := cv1 p0
  have p0_2 := cv2 p0
  have p0_3 := cv3 p0
  have p0_4 := cv4 p0
  have p0_5 := cv5 p0
  have p0_l := lt_heap p0
  have P0 := Lib.hid p0
  clear p0
  have p1_0 := cv0 p1
  have p1_1 := cv1 p1
  have p1_2 := cv2 p1
  have p1_3 := cv3 p1
  have p1_4 := cv4 p1
  have p1_5 := cv5 p1
  have p1_l := lt_heap p1
  have P1 := Lib.hid p1
  clear p1
  go_wp2_with fail
  (with_reducible refine (HN1.out _ _).out.mono ?_)
  rintro e w4 hr
  have hw4 := hr.2.2
  have z4 : w3.heap.size + 2 ≤ w4.heap.size := by have := hw4.size; simpa using this
  have hB4 := ((HB3.out.alloc (by omega) (.cells #[.int .i64 (Tv.app vf vx).tm.lab.kind, .string (Tv.app vf vx).tm.lab.nm, .int .i64 (Tv.app vf vx).tm.lab.ix, .string s3, .slice A3 n3 c3, .slice B3 m3 d3] 27)).alloc (by simp; omega) (.cells #[.int .i64 0, .int .i64 0] 29)).trans (hw4.mono (by simp; omega))
  have p1 := (hw4.block (w.heap.size + 1) (by simp; omega)).trans (heap_old (by simp; omega) (heap_old p1_l P1.out))
  have q7 := (hw4.block w3.heap.size (by simp <;> omega)).trans (heap_old (by simp) (heap_at rfl))
  have hk34 : ∀ k, k < w3.heap.size → w4.heap[k]? = w3.heap[k]? := fun k hk => (hw4.block k (by simp; omega)).trans (heap_old (by simp; omega) (heap_old hk rfl))
  have hu4 : tmRep.R w4 (Lo w3) (Tv.app vf vx).tm [.int .i64 (Tv.app vf vx).tm.lab.kind, .string (Tv.app vf vx).tm.lab.nm, .int .i64 (Tv.app vf vx).tm.lab.ix, .string s3, .slice A3 n3 c3, .slice B3 m3 d3] := tmRep.keep HU3.out hk34 (fun _ h => h)
  obtain ⟨k4, nm4, ix4, s4, A4, n4, c4, B4, m4, d4, e4, i4, rfl, hr4⟩ := hr.uni ZF.out
  have hS4 : ∀ (o p : Obj) k, S k → ((w4.alloc o).alloc p).heap[k]? = w.heap[k]? := fun o p k hk => by
    have := HS.out k hk
    exact heap_old (by simp; omega) (heap_old (by omega) (hB4.block k this))
  have hn2 := fun (o p : Obj) => Lib.hid (normal_any vx.tm [.int .i64 vx.tm.lab.kind, .string vx.tm.lab.nm, .int .i64 vx.tm.lab.ix, .string sx, .slice Ax nx cx, .slice Bx mx dx] ((w4.alloc o).alloc p) S (tmRep.keep HX.out (hS4 o p) (fun _ h => h)) (fun k hk => by have := HS.out k hk; simp; omega))
  have l40 : w.heap.size < w4.heap.size := by omega
  have hr4' : e4 ≠ 0 ∨ (e4 = 0 ∧ i4 = 0 ∧ ∃ u : Tv, Tv.steps 2001 vf = some u ∧ tmRep.R w4 (Lo w4) u.tm [.int .i64 k4, .string nm4, .int .i64 ix4, .string s4, .slice A4 n4 c4, .slice B4 m4 d4]) := hr4.imp_right fun ⟨h1, h2, u, h3, h4⟩ => ⟨h1, h2, u, h3, tmRep.keep h4 (fun _ _ => rfl) (fun k hk => hk.2)⟩
  clear p0_0 p0_1 p0_2 p0_3 p0_4 p0_5 p0_l p1_0 p1_1 p1_2 p1_3 p1_4 p1_5 p1_l hr hr4 c0' c1' lg lgb
  have HW4 := Lib.hid hw4
  have HB4 := Lib.hid hB4
  have HK34 := Lib.hid hk34
  have HU4 := Lib.hid hu4
  have HR4P := Lib.hid hr4'
  have HS4 := Lib.hid hS4
  have HN2 := Lib.hid hn2
  clear hw4 hB4 hk34 hu4 hr4' hS4 hn2
  have p1_0 := cv0 p1
  have p1_1 := cv1 p1
  have p1_2 := cv2 p1
  have p1_3 := cv3 p1
  have p1_4 := cv4 p1
  have p1_5 := cv5 p1
  have p1_l := lt_heap p1
  have P1 := Lib.hid p1
  clear p1
  have q7_0 := cv0 q7
  have q7_1 := cv1 q7
  have q7_2 := cv2 q7
  have q7_3 := cv3 q7
  have q7_4 := cv4 q7
  have q7_5 := cv5 q7
  have q7_l := lt_heap q7
  have Q7 := Lib.hid q7
  clear q7
  go_wp2_with fail
  (with_reducible refine (HN2.out _ _).out.mono ?_)
  rintro e w5 hr
  have hw5 := hr.2.2
  have z5 : w4.heap.size + 2 ≤ w5.heap.size := by have := hw5.size; simpa using this
  have hB5 := ((HB4.out.alloc (by omega) (.cells #[.int .i64 k4, .string nm4, .int .i64 ix4, .string s4, .slice A4 n4 c4, .slice B4 m4 d4] 27)).alloc (by simp; omega) (.cells #[.int .i64 e4, .int .i64 i4] 29)).trans (hw5.mono (by simp; omega))
  have q7 := (hw5.block w3.heap.size (by simp; omega)).trans (heap_old (by simp; omega) (heap_old q7_l Q7.out))
  have r9 := (hw5.block w4.heap.size (by simp <;> omega)).trans (heap_old (by simp) (heap_at rfl))
  have r10 := (hw5.block (w4.heap.size + 1) (by simp)).trans (heap_at (by simp))
  have hk45 : ∀ k, k < w4.heap.size → w5.heap[k]? = w4.heap[k]? := fun k hk => (hw5.block k (by simp; omega)).trans (heap_old (by simp; omega) (heap_old hk rfl))
  obtain ⟨k5, nm5, ix5, s5, A5, n5, c5, B5, m5, d5, e5, i5, rfl, hr5⟩ := hr.uni ZX.out
  have hn3 := fun (o p : Obj) => Lib.hid (normal_any (Tv.app vf vx).tm [.int .i64 (Tv.app vf vx).tm.lab.kind, .string (Tv.app vf vx).tm.lab.nm, .int .i64 (Tv.app vf vx).tm.lab.ix, .string s3, .slice A3 n3 c3, .slice B3 m3 d3] ((w5.alloc o).alloc p) (Lo w3) (tmRep.keep HU4.out (fun k hk => by have h' : k < w3.heap.size := hk; exact heap_old (by simp; omega) (heap_old (by omega) (hk45 k (by omega)))) (fun _ h => h)) (fun k hk => by have h' : k < w3.heap.size := hk; simp; omega))
  have l50 : w3.heap.size < w5.heap.size + 1 := by omega
  have hr5' : e5 ≠ 0 ∨ (e5 = 0 ∧ i5 = 0 ∧ ∃ u : Tv, Tv.steps 2001 vx = some u ∧ tmRep.R w5 (Lo w5) u.tm [.int .i64 k5, .string nm5, .int .i64 ix5, .string s5, .slice A5 n5 c5, .slice B5 m5 d5]) := hr5.imp_right fun ⟨h1, h2, u, h3, h4⟩ => ⟨h1, h2, u, h3, tmRep.keep h4 (fun _ _ => rfl) (fun k hk => hk.2)⟩
  clear p1_0 p1_1 p1_2 p1_3 p1_4 p1_5 p1_l q7_0 q7_1 q7_2 q7_3 q7_4 q7_5 q7_l hr hr5
  have HW5 := Lib.hid hw5
  have HB5 := Lib.hid hB5
  have HK45 := Lib.hid hk45
  have HR5P := Lib.hid hr5'
  have HN3 := Lib.hid hn3
  have R9 := Lib.hid r9
  have R10 := Lib.hid r10
  clear hw5 hB5 hk45 hr5' hn3 r9 r10
  have q7_0 := cv0 q7
  have q7_1 := cv1 q7
  have q7_2 := cv2 q7
  have q7_3 := cv3 q7
  have q7_4 := cv4 q7
  have q7_5 := cv5 q7
  have q7_l := lt_heap q7
  have Q7 := Lib.hid q7
  clear q7
  go_wp2_with fail
  (with_reducible refine (HN3.out _ _).out.mono ?_)
  rintro e w6 hr
  have hw6 := hr.2.2
  have z6 : w5.heap.size + 2 ≤ w6.heap.size := by have := hw6.size; simpa using this
  have hB6 := ((HB5.out.alloc (by omega) (.cells #[.int .i64 k5, .string nm5, .int .i64 ix5, .string s5, .slice A5 n5 c5, .slice B5 m5 d5] 27)).alloc (by simp; omega) (.cells #[.int .i64 e5, .int .i64 i5] 29)).trans (hw6.mono (by simp; omega))
  have hk56 : ∀ k, k < w5.heap.size → w6.heap[k]? = w5.heap[k]? := fun k hk => (hw6.block k (by simp; omega)).trans (heap_old (by simp; omega) (heap_old hk rfl))
  have r9 := (hk56 w4.heap.size (by omega)).trans R9.out
  have r10 := (hk56 (w4.heap.size + 1) (by omega)).trans R10.out
  have r11 := (hw6.block w5.heap.size (by simp <;> omega)).trans (heap_old (by simp) (heap_at rfl))
  have r12 := (hw6.block (w5.heap.size + 1) (by simp)).trans (heap_at (by simp))
  have c0' := (hB6.cell (p := ⟨0, 0, none⟩) hg).trans G0.out
  have c1' := (hB6.cell (p := ⟨0, 1, none⟩) hg).trans G1.out
  have lg : 0 < w6.heap.size := by omega
  have lgb : 0 < w6.heap.size + 1 := by omega
  obtain ⟨k6, nm6, ix6, s6, A6, n6, c6, B6, m6, d6, e6, i6, rfl, hr6⟩ := hr.uni ZA.out
  have l60 : w4.heap.size < w6.heap.size := by omega
  have l61 : w5.heap.size < w6.heap.size := by omega
  have hr6' : e6 ≠ 0 ∨ (e6 = 0 ∧ i6 = 0 ∧ ∃ u : Tv, Tv.steps 2001 (.app vf vx) = some u ∧ tmRep.R w6 (Lo w6) u.tm [.int .i64 k6, .string nm6, .int .i64 ix6, .string s6, .slice A6 n6 c6, .slice B6 m6 d6]) := hr6.imp_right fun ⟨h1, h2, u, h3, h4⟩ => ⟨h1, h2, u, h3, tmRep.keep h4 (fun _ _ => rfl) (fun k hk => hk.2)⟩
  clear q7_0 q7_1 q7_2 q7_3 q7_4 q7_5 q7_l hr hr6
  have HW6 := Lib.hid hw6
  have HB6 := Lib.hid hB6
  have HK56 := Lib.hid hk56
  have HR6P := Lib.hid hr6'
  clear hw6 hB6 hk56 hr6'
  have r9_0 := cv0 r9
  have r9_1 := cv1 r9
  have r9_2 := cv2 r9
  have r9_3 := cv3 r9
  have r9_4 := cv4 r9
  have r9_5 := cv5 r9
  have r9_l := lt_heap r9
  have R9 := Lib.hid r9
  clear r9
  have r10_0 := cv0 r10
  have r10_1 := cv1 r10
  have r10_l := lt_heap r10
  have R10 := Lib.hid r10
  clear r10
  have r11_0 := cv0 r11
  have r11_1 := cv1 r11
  have r11_2 := cv2 r11
  have r11_3 := cv3 r11
  have r11_4 := cv4 r11
  have r11_5 := cv5 r11
  have r11_l := lt_heap r11
  have R11 := Lib.hid r11
  clear r11
  have r12_0 := cv0 r12
  have r12_1 := cv1 r12
  have r12_l := lt_heap r12
  have R12 := Lib.hid r12
  clear r12
  rcases HR4P.out with he | ⟨rfl, rfl, g, hsg, hug⟩
  · have he' : (e4 == 0) = false := beq_eq_false_iff_ne.2 he
    clear he
    go_wp2_with fail
    go_returns
    exact ⟨rfl, (HB6.out.alloc (by omega) _).alloc (by simp; omega) _⟩
  rcases HR5P.out with he | ⟨rfl, rfl, y, hsy, huy⟩
  · have he' : (e5 == 0) = false := beq_eq_false_iff_ne.2 he
    clear he hsg hug
    go_wp2_with fail
    go_returns
    exact ⟨rfl, (HB6.out.alloc (by omega) _).alloc (by simp; omega) _⟩
  rcases HR6P.out with he | ⟨rfl, rfl, a6, hsa, hua⟩
  · have he' : (e6 == 0) = false := beq_eq_false_iff_ne.2 he
    clear he hsg hug hsy huy
    go_wp2_with fail
    go_returns
    exact ⟨rfl, (HB6.out.alloc (by omega) _).alloc (by simp; omega) _⟩
  obtain ⟨og, oy, tg, ty⟩ := HGOOD.out g y hsg hsy
  have hap := fun (o p : Obj) => Lib.hid (apply_any g.tm y.tm [.int .i64 k4, .string nm4, .int .i64 ix4, .string s4, .slice A4 n4 c4, .slice B4 m4 d4] [.int .i64 k5, .string nm5, .int .i64 ix5, .string s5, .slice A5 n5 c5, .slice B5 m5 d5] ((w6.alloc o).alloc p) (Lo w5)
    (tmRep.keep hug (fun k hk => by have h' : k < w4.heap.size := hk; exact heap_old (by simp; omega) (heap_old (by omega) ((HK56.out k (by omega)).trans (HK45.out k h')))) (fun k hk => by have h' : k < w4.heap.size := hk; exact (show k < w5.heap.size by omega)))
    (tmRep.keep huy (fun k hk => by have h' : k < w5.heap.size := hk; exact heap_old (by simp; omega) (heap_old (by omega) (HK56.out k h'))) (fun _ h => h)) (fun k hk => by have h' : k < w5.heap.size := hk; simp; omega))
  have HUA := Lib.hid hua
  have hfin := fun b' h => HPLAIN.out g y a6 b' hsg hsy hsa h
  clear hug huy hua hsg hsy hsa
  have HAP := Lib.hid hap
  have HFIN := Lib.hid hfin
  clear hap hfin
  go_wp2_with fail
  (with_reducible refine (HAP.out _ _).out.mono ?_)
  rintro e w7 hr
  have hw7 : Below ((w6.alloc (.cells #[.int .i64 k6, .string nm6, .int .i64 ix6, .string s6, .slice A6 n6 c6, .slice B6 m6 d6] 27)).alloc (.cells #[.int .i64 0, .int .i64 0] 29)).heap.size _ w7 := hr.2.2.2
  have z7 : w6.heap.size + 2 ≤ w7.heap.size := by have := hw7.size; simpa using this
  have hB7 := ((HB6.out.alloc (by omega) (.cells #[.int .i64 k6, .string nm6, .int .i64 ix6, .string s6, .slice A6 n6 c6, .slice B6 m6 d6] 27)).alloc (by simp; omega) (.cells #[.int .i64 0, .int .i64 0] 29)).trans (hw7.mono (by simp; omega))
  have r13 := (hw7.block w6.heap.size (by simp <;> omega)).trans (heap_old (by simp) (heap_at rfl))
  have c0' := (hB7.cell (p := ⟨0, 0, none⟩) hg).trans G0.out
  have c1' := (hB7.cell (p := ⟨0, 1, none⟩) hg).trans G1.out
  have lg : 0 < w7.heap.size := by omega
  have lgb : 0 < w7.heap.size + 1 := by omega
  clear r9_0 r9_1 r9_2 r9_3 r9_4 r9_5 r9_l r10_0 r10_1 r10_l r11_0 r11_1 r11_2 r11_3 r11_4 r11_5 r11_l r12_0 r12_1 r12_l
  rcases hr.cases1 og oy tg ty with ⟨i, rfl⟩ | ⟨ds7, rfl, hu, zU⟩
  · clear hr
    have HW7 := Lib.hid hw7
    have HB7 := Lib.hid hB7
    have R13 := Lib.hid r13
    clear hw7 hB7 r13
    unfold zTm
    go_wp2_with fail
    go_returns
    exact ⟨rfl, (HB7.out.alloc (by omega) _).alloc (by simp; omega) _⟩
  obtain ⟨s7, A7, n7, c7, B7, m7, d7, rfl, _, _⟩ := Tm.shape hu
  have hn4 := fun (o p : Obj) => Lib.hid (normal_any (Tv.app g y).tm [.int .i64 (Tv.app g y).tm.lab.kind, .string (Tv.app g y).tm.lab.nm, .int .i64 (Tv.app g y).tm.lab.ix, .string s7, .slice A7 n7 c7, .slice B7 m7 d7] ((w7.alloc o).alloc p) (Lo w7) (tmRep.keep hu (fun k hk => heap_old (by have := hk.2; simp; omega) (heap_old hk.2 rfl)) (fun k hk => hk.2)) (fun k hk => by have h' : k < w7.heap.size := hk; simp; omega))
  have ZU := Lib.hid zU
  have hua7 : tmRep.R w7 (Lo w6) a6.tm [.int .i64 k6, .string nm6, .int .i64 ix6, .string s6, .slice A6 n6 c6, .slice B6 m6 d6] := tmRep.keep HUA.out (fun k hk => by have h' : k < w6.heap.size := hk; exact (hw7.block k (by simp; omega)).trans (heap_old (by simp; omega) (heap_old h' rfl))) (fun _ h => h)
  have l70 : w6.heap.size < w7.heap.size := by omega
  clear hr hu zU og oy tg ty
  have HW7 := Lib.hid hw7
  have HB7 := Lib.hid hB7
  have HN4 := Lib.hid hn4
  have HUA7 := Lib.hid hua7
  clear hw7 hB7 hn4 hua7
  have r13_0 := cv0 r13
  have r13_1 := cv1 r13
  have r13_2 := cv2 r13
  have r13_3 := cv3 r13
  have r13_4 := cv4 r13
  have r13_5 := cv5 r13
  have r13_l := lt_heap r13
  have R13 := Lib.hid r13
  clear r13
  go_wp2_with fail
  (with_reducible refine (HN4.out _ _).out.mono ?_)
  rintro e w8 hr
  have hw8 := hr.2.2
  have z8 : w7.heap.size + 2 ≤ w8.heap.size := by have := hw8.size; simpa using this
  have hB8 := ((HB7.out.alloc (by omega) (.cells #[.int .i64 (Tv.app g y).tm.lab.kind, .string (Tv.app g y).tm.lab.nm, .int .i64 (Tv.app g y).tm.lab.ix, .string s7, .slice A7 n7 c7, .slice B7 m7 d7] 27)).alloc (by simp; omega) (.cells #[.int .i64 0, .int .i64 0] 29)).trans (hw8.mono (by simp; omega))
  have r13 := (hw8.block w6.heap.size (by simp; omega)).trans (heap_old (by simp; omega) (heap_old r13_l R13.out))
  have hk78 : ∀ k, k < w7.heap.size → w8.heap[k]? = w7.heap[k]? := fun k hk => (hw8.block k (by simp; omega)).trans (heap_old (by simp; omega) (heap_old hk rfl))
  have c0' := (hB8.cell (p := ⟨0, 0, none⟩) hg).trans G0.out
  have c1' := (hB8.cell (p := ⟨0, 1, none⟩) hg).trans G1.out
  have lg : 0 < w8.heap.size := by omega
  have lgb : 0 < w8.heap.size + 1 := by omega
  have l80 : w6.heap.size < w8.heap.size + 1 := by omega
  clear r13_0 r13_1 r13_2 r13_3 r13_4 r13_5 r13_l
  rcases hr.cases ZU.out with ⟨c, i, hc, rfl⟩ | ⟨b8, ds8, hb8, rfl, hub⟩
  · have hc' : (c == 0) = false := beq_eq_false_iff_ne.2 hc
    clear hr hc
    have HW8 := Lib.hid hw8
    have HB8 := Lib.hid hB8
    have R13 := Lib.hid r13
    clear hw8 hB8 r13
    unfold zTm
    go_wp2_with fail
    go_returns
    exact ⟨rfl, (HB8.out.alloc (by omega) _).alloc (by simp; omega) _⟩
  obtain rfl : a6 = b8 := HFIN.out b8 hb8
  obtain ⟨s8, A8, n8, c8, B8, m8, d8, rfl, _, _⟩ := Tm.shape hub
  have heq := fun (o p : Obj) => eqTm_any _ a6.tm a6.tm [.int .i64 k6, .string nm6, .int .i64 ix6, .string s6, .slice A6 n6 c6, .slice B6 m6 d6] [.int .i64 a6.tm.lab.kind, .string a6.tm.lab.nm, .int .i64 a6.tm.lab.ix, .string s8, .slice A8 n8 c8, .slice B8 m8 d8] ((w8.alloc o).alloc p) (Lo w8) (Nat.le_refl _)
    (tmRep.keep HUA7.out (fun k hk => by have h' : k < w6.heap.size := hk; exact heap_old (by simp; omega) (heap_old (by omega) (hk78 k (by omega)))) (fun k hk => by have h' : k < w6.heap.size := hk; exact (show k < w8.heap.size by omega)))
    (tmRep.keep hub (fun k hk => heap_old (by have := hk.2; simp; omega) (heap_old hk.2 rfl)) (fun k hk => hk.2)) (fun k hk => by have h' : k < w8.heap.size := hk; simp; omega)
  rw [tmBeq_self] at heq
  clear hr hub hb8
  have HW8 := Lib.hid hw8
  have HB8 := Lib.hid hB8
  have HEQ := Lib.hid heq
  clear hw8 hB8 heq
  have r13_0 := cv0 r13
  have r13_1 := cv1 r13
  have r13_2 := cv2 r13
  have r13_3 := cv3 r13
  have r13_4 := cv4 r13
  have r13_5 := cv5 r13
  have r13_l := lt_heap r13
  have R13 := Lib.hid r13
  clear r13
  go_wp2_with fail
  (with_reducible refine (HEQ.out _ _).mono ?_)
  rintro e w9 ⟨rfl, hw9⟩
  have HW9 := Lib.hid hw9
  clear hw9
  go_wp2_with fail
  go_returns
  exact ⟨rfl, ((HB8.out.alloc (by omega) _).alloc (by simp; omega) _).trans (HW9.out.mono (by simp; omega))⟩

end Go.Proofs.YthflahcnkhmpaabDoor
