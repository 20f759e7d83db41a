/-
  The law FolformCanonicalIsStable, joined.
-/
import Derived.Test.YtdofemkfmkopcaaDoorPkB
import Derived.Test.YtdofemkfmkopcaaDoorEqFm
import Derived.Test.YtdofemkfmkopcaaDoorFmMake
import Derived.Test.YtdofemkfmkopcaaDoorCsB
import Derived.Test.YtdofemkfmkopcaaDoorFmAlpha
import Derived.Test.YtdofemkfmkopcaaDoorConst
import Derived.Test.YtdofemkfmkopcaaDoorFmCap
namespace Go.Proofs.YtdofemkfmkopcaaDoor

section
open Go Go.RowKit
set_option linter.unusedSimpArgs false
set_option linter.unusedVariables false

theorem fmFault_ok {t : Fm} (h : (fmFault t).1 = 0) : ∃ v : Fv, t = v.fm ∧ v.ok ∧ v.nodes ≤ 200 ∧ v.depth ≤ 40 ∧ fmFault t = (0, 0) := by
  obtain ⟨v, e, h1, h2, h3, h4⟩ := Fv.of_val t 1 0 h
  exact ⟨v, e, h1, by omega, by omega, Prod.ext h ((fmVal_le false t 1 0 (by omega)).2 h).2⟩
/-- What Canonical returns. -/
noncomputable def canT (t : Fm) : Fm := if (fmFault t).1 = 0 then canF [] t else fmZ
/-- What Instance returns. -/
def insC (t : Fm) (y : ByteArray) : Int × Int := if (fmFault t).1 ≠ 0 then (((fmFault t).1 : Nat), ((fmFault t).2 : Nat)) else if isQu t.lab.kind = false then (4, -1) else if okName y = false then (10, -2) else (0, 0)
noncomputable def insT (t : Fm) (y : ByteArray) : Fm := if (fmFault t).1 = 0 ∧ isQu t.lab.kind = true ∧ okName y = true then (match t.kids with | b :: _ => canF [(t.lab.nm, y)] b | [] => fmZ) else fmZ
theorem Fv.qu_of {v : Fv} (h : isQu v.fm.lab.kind = true) (hv : v.ok) : ∃ k x f, v = .qu k x f := by
  have hq : v.fm.lab.kind = 8 ∨ v.fm.lab.kind = 9 := by
    unfold isQu at h
    simpa using h
  cases v with
  | qu k x f => exact ⟨k, x, f, rfl⟩
  | bin k f g =>
    simp only [Fv.fm, Tree.lab] at hq
    obtain ⟨h1, _⟩ := hv
    omega
  | _ => simp [Fv.fm, Tree.lab] at hq
set_option maxRecDepth 100000 in
set_option maxHeartbeats 4000000 in
/-- folform.Canonical. -/
theorem canonical_any (t : Fm) (cs : List Value) (w : World) (S : Nat → Prop) (ht : fmRep.R w S t cs) (hS : ∀ b, S b → b < w.heap.size) (htab : ∀ W, Below w.heap.size w W → Lib.TabIs Tryd.prog W "internal/strconv.uint64pow10" .u64 Lib.pow10Tab) :
    Calls Tryd.prog 24 #[.agg cs.toArray] w fun e w' => ∃ es : List Value, e = .returned (.tuple #[.agg es.toArray, .agg #[.int .i64 ((fmFault t).1 : Nat), .int .i64 ((fmFault t).2 : Nat)]]) ∧ fmRep.R w' (fun b => w.heap.size ≤ b ∧ b < w'.heap.size) (canT t) es ∧ Below w.heap.size w w' := by
  obtain ⟨A, n1, c1, B, n2, c2, rfl, _, _, _, _⟩ := Fm.shape ht
  obtain ⟨kd, hkd⟩ : ∃ k, t.lab.kind = k := ⟨_, rfl⟩
  obtain ⟨nm, hnm⟩ : ∃ k, t.lab.nm = k := ⟨_, rfl⟩
  rw [hkd, hnm] at ht ⊢
  go_enter Tryd.func24, Tryd.ntmps24
  refine wp_seq ?_
  refine ck2_r0_wp (fun a0 h0 => ?_) _ (id ⟨rfl, rfl, rfl, trivial⟩)
  refine gen_last (fun wx => wx.heap[w.heap.size]? = some (.cells #[.int .i64 kd, .string nm, .slice A n1 c1, .slice B n2 c2] 25 (0, 0)) ∧ wx.heap[w.heap.size + 1]? = some (.cells #[.int .i64 0, .string ⟨#[]⟩, .slice none 0 0, .slice none 0 0] 25 (0, 0)) ∧ wx.heap[w.heap.size + 2]? = some (.cells #[.int .i64 0, .int .i64 0] 27 (0, 0)) ∧ wx.heap.size = w.heap.size + 3 ∧ Below w.heap.size w wx) ⟨heap_old (by simp; omega) (heap_old (by simp) (heap_at (by simp))), heap_old (by simp) (heap_at (by simp)), heap_at (by simp), by simp, (((Below.refl _ _).alloc (Nat.le_refl _) _).alloc (by simp) _).alloc (by simp; omega) _⟩ ?_
  rintro wx ⟨ha, hz, hx, hsz, hb⟩
  refine wp_seq ?_
  have hv := validateFm_any t [.int .i64 kd, .string nm, .slice A n1 c1, .slice B n2 c2] wx S (fmRep.keep ht (fun b h => hb.block b (hS b h)) (fun _ h => h)) (fun b h => by have := hS b h; omega)
  refine wp_seq ?_
  refine ck2_r1_wp (y := nm) ha hv (fun w1 a1 h1 hb1 => ?_) a0 h0
  obtain ⟨gb, hgb⟩ : ∃ b, w1.heap.size = b := ⟨_, rfl⟩
  rw [hgb] at h1
  have hb1s := hb1.size
  refine gen_last (fun wy => wy.heap[w.heap.size]? = some (.cells #[.int .i64 kd, .string nm, .slice A n1 c1, .slice B n2 c2] 25 (0, 0)) ∧ wy.heap[w.heap.size + 1]? = some (.cells #[.int .i64 0, .string ⟨#[]⟩, .slice none 0 0, .slice none 0 0] 25 (0, 0)) ∧ wy.heap[w.heap.size + 2]? = some (.cells #[.int .i64 0, .int .i64 0] 27 (0, 0)) ∧ wy.heap[gb]? = some (.cells #[.int .i64 ((fmFault t).1 : Nat), .int .i64 ((fmFault t).2 : Nat)] 27 (0, 0)) ∧ Below w.heap.size w wy ∧ w.heap.size + 3 ≤ wy.heap.size) ⟨heap_old (by have := lt_heap ha; omega) ((hb1.block _ (lt_heap ha)).trans ha), heap_old (by have := lt_heap hz; omega) ((hb1.block _ (lt_heap hz)).trans hz), heap_old (by have := lt_heap hx; omega) ((hb1.block _ (lt_heap hx)).trans hx), by rw [← hgb]; exact heap_alloc_new _ _, (hb.trans (hb1.mono (by omega))).alloc (by omega) _, by simp; omega⟩ ?_
  rintro w2 ⟨ha2, hz2, hx2, hg2, hb2, hs2⟩
  refine wp_seq ?_
  refine ck2_r2_wp (y := nm) hg2 (fun a2 h2 => ?_) a1 h1
  by_cases hf : (fmFault t).1 = 0
  case neg =>
    refine wp_cond_true ((h2.eval (k := 9) (v := .bool (decide ((fmFault t).1 ≠ 0))) (by simp)).trans (by rw [decide_eq_true hf])) ?_
    refine wp_seq ?_
    refine Code.wp_mono (Q := Exit.then (fun a' w' => Frm 15 [(2, .pointer (some ⟨w.heap.size + 1, 0, none⟩)), (3, .pointer (some ⟨w.heap.size + 2, 0, none⟩))] a' ∧ w'.heap[w.heap.size + 1]? = some (.cells #[.int .i64 0, .string ⟨#[]⟩, .slice none 0 0, .slice none 0 0] 25 (0, 0)) ∧ w'.heap[w.heap.size + 2]? = some (.cells #[.int .i64 ((fmFault t).1 : Nat), .int .i64 ((fmFault t).2 : Nat)] 27 (0, 0)) ∧ Keeps (fun k => k = w.heap.size + 1 ∨ k = w.heap.size + 2) w2 w') (fun _ _ _ => False)) ?_ (ck2_r3_wp (by omega) hz2 hx2 (by omega) (by omega) hg2 (fun a' w' h' g1 g2 g3 => ⟨h', g1, g2, g3⟩) a2 ⟨h2.1, h2.2.1, h2.2.2.2.1, h2.2.2.2.2.1, h2.2.2.2.2.2.1, trivial⟩)
    intro ex a3 w3 hx3'
    cases ex with
    | normal =>
      obtain ⟨h3, hz3, hx3, hk3⟩ := hx3'
      refine wp_ret ?_
      repeat (first | refine then_ret ?_ | refine inBlock_ret ?_)
      refine ck2_ret_wp hz3 hx3 ⟨rfl, rfl, rfl, rfl⟩ ⟨_, rfl, ?_, ?_⟩ a3 h3
      · rw [show canT t = fmZ from if_neg hf]
        exact fmZ_rep
      · exact hb2.trans (Keeps.below (B := w.heap.size) hk3 (fun k e => by have e : k = w.heap.size + 1 ∨ k = w.heap.size + 2 := e; omega) (by omega))
    | _ => exact hx3'.elim
  refine wp_cond_false ((h2.eval (k := 9) (v := .bool (decide ((fmFault t).1 ≠ 0))) (by simp)).trans (by rw [decide_eq_false (fun h => h hf)])) ?_
  refine wp_skip ?_
  show Code.wp _ _ _ a2 w2
  obtain ⟨v, rfl, ov, nv, dv, ev⟩ := fmFault_ok hf
  have hc := (canonQ_any v ov nv [.int .i64 kd, .string nm, .slice A n1 c1, .slice B n2 c2] w2 S (fmRep.keep ht (fun b h => hb2.block b (hS b h)) (fun _ h => h)) (fun b h => by have := hS b h; omega) (fun W h => htab W (hb2.trans (h.mono (by omega))))).mono (R' := fun e w' => ∃ ke ne Ae n3 c3 Be n4 c4, e = .returned (.agg #[.int .i64 ke, .string ne, .slice Ae n3 c3, .slice Be n4 c4]) ∧ w'.heap[w.heap.size + 1]? = some (.cells #[.int .i64 0, .string ⟨#[]⟩, .slice none 0 0, .slice none 0 0] 25 (0, 0)) ∧ w'.heap[w.heap.size + 2]? = some (.cells #[.int .i64 0, .int .i64 0] 27 (0, 0)) ∧ (fmRep.R w' (fun b => w2.heap.size ≤ b ∧ b < w'.heap.size) (canF [] v.fm) [.int .i64 ke, .string ne, .slice Ae n3 c3, .slice Be n4 c4] ∧ Below w2.heap.size w2 w')) (by
    rintro e w' ⟨es, rfl, hr, hb9⟩
    obtain ⟨A5, n5, c5, B5, n6, c6, rfl, _, _, _, _⟩ := Fm.shape hr
    exact ⟨_, _, _, _, _, _, _, _, rfl, (hb9.block _ (lt_heap hz2)).trans hz2, (hb9.block _ (lt_heap hx2)).trans hx2, hr, hb9⟩)
  refine wp_seq ?_
  refine ck2_r4_wp ha2 (by omega) hc (fun ke ne Ae n3 c3 Be n4 c4 w5 a6 w6 h6 hp6 hz6 hx6 hk6 => ?_) a2 ⟨h2.1, h2.2.1, h2.2.2.1, h2.2.2.2.1, h2.2.2.2.2.1, trivial⟩
  obtain ⟨hr5, hb5⟩ := hp6
  have hk6s := hk6.size
  have hb5s := hb5.size
  refine wp_ret ?_
  refine ck2_ret_wp hz6 hx6 ⟨rfl, rfl, rfl, rfl⟩ ⟨[.int .i64 ke, .string ne, .slice Ae n3 c3, .slice Be n4 c4], by rw [ev]; rfl, ?_, ?_⟩ a6 h6
  · rw [show canT v.fm = canF [] v.fm from if_pos hf]
    exact fmRep.keep hr5 (fun b hb => hk6.block b hb.2 (by omega)) (fun b hb => ⟨by omega, by omega⟩)
  · have h1 : Below w.heap.size w w5 := hb2.trans (hb5.mono (by omega))
    exact h1.trans (Keeps.below (B := w.heap.size) hk6 (fun k e => by have e : k = w.heap.size + 1 ∨ k = w.heap.size + 2 := e; omega) (by have := h1.size; omega))
set_option maxRecDepth 100000 in
set_option maxHeartbeats 4000000 in
/-- folform.Instance. -/
theorem instance_any (t : Fm) (y : ByteArray) (hy : y.size ≤ maxLen) (cs : List Value) (w : World) (S : Nat → Prop) (ht : fmRep.R w S t cs) (hS : ∀ b, S b → b < w.heap.size) (htab : ∀ W, Below w.heap.size w W → Lib.TabIs Tryd.prog W "internal/strconv.uint64pow10" .u64 Lib.pow10Tab) :
    Calls Tryd.prog 32 #[.agg cs.toArray, .string y] w fun e w' => ∃ es : List Value, e = .returned (.tuple #[.agg es.toArray, .agg #[.int .i64 (insC t y).1, .int .i64 (insC t y).2]]) ∧ fmRep.R w' (fun b => w.heap.size ≤ b ∧ b < w'.heap.size) (insT t y) es ∧ Below w.heap.size w w' := by
  obtain ⟨A, n1, c1, B, n2, c2, rfl, _, _, _, _⟩ := Fm.shape ht
  obtain ⟨kd, hkd⟩ : ∃ k, t.lab.kind = k := ⟨_, rfl⟩
  obtain ⟨nm, hnm⟩ : ∃ k, t.lab.nm = k := ⟨_, rfl⟩
  rw [hkd, hnm] at ht ⊢
  go_enter Tryd.func32, Tryd.ntmps32
  refine wp_seq ?_
  refine in2_r0_wp (fun a0 h0 => ?_) _ (id ⟨rfl, rfl, rfl, rfl, trivial⟩)
  refine gen_last (fun wx => wx.heap[w.heap.size]? = some (.cells #[.int .i64 kd, .string nm, .slice A n1 c1, .slice B n2 c2] 25 (0, 0)) ∧ wx.heap[w.heap.size + 1]? = some (.cells #[.int .i64 0, .string ⟨#[]⟩, .slice none 0 0, .slice none 0 0] 25 (0, 0)) ∧ wx.heap[w.heap.size + 2]? = some (.cells #[.int .i64 0, .int .i64 0] 27 (0, 0)) ∧ wx.heap.size = w.heap.size + 3 ∧ Below w.heap.size w wx) ⟨heap_old (by simp; omega) (heap_old (by simp) (heap_at (by simp))), heap_old (by simp) (heap_at (by simp)), heap_at (by simp), by simp, (((Below.refl _ _).alloc (Nat.le_refl _) _).alloc (by simp) _).alloc (by simp; omega) _⟩ ?_
  rintro wx ⟨ha, hz, hx, hsz, hb⟩
  refine wp_seq ?_
  have hv := validateFm_any t [.int .i64 kd, .string nm, .slice A n1 c1, .slice B n2 c2] wx S (fmRep.keep ht (fun b h => hb.block b (hS b h)) (fun _ h => h)) (fun b h => by have := hS b h; omega)
  refine wp_seq ?_
  refine in2_r1_wp ha hv (fun w1 a1 h1 hb1 => ?_) a0 h0
  obtain ⟨gb, hgb⟩ : ∃ b, w1.heap.size = b := ⟨_, rfl⟩
  rw [hgb] at h1
  have hb1s := hb1.size
  refine gen_last (fun wy => wy.heap[w.heap.size]? = some (.cells #[.int .i64 kd, .string nm, .slice A n1 c1, .slice B n2 c2] 25 (0, 0)) ∧ wy.heap[w.heap.size + 1]? = some (.cells #[.int .i64 0, .string ⟨#[]⟩, .slice none 0 0, .slice none 0 0] 25 (0, 0)) ∧ wy.heap[w.heap.size + 2]? = some (.cells #[.int .i64 0, .int .i64 0] 27 (0, 0)) ∧ wy.heap[gb]? = some (.cells #[.int .i64 ((fmFault t).1 : Nat), .int .i64 ((fmFault t).2 : Nat)] 27 (0, 0)) ∧ Below w.heap.size w wy ∧ w.heap.size + 3 ≤ wy.heap.size) ⟨heap_old (by have := lt_heap ha; omega) ((hb1.block _ (lt_heap ha)).trans ha), heap_old (by have := lt_heap hz; omega) ((hb1.block _ (lt_heap hz)).trans hz), heap_old (by have := lt_heap hx; omega) ((hb1.block _ (lt_heap hx)).trans hx), by rw [← hgb]; exact heap_alloc_new _ _, (hb.trans (hb1.mono (by omega))).alloc (by omega) _, by simp; omega⟩ ?_
  rintro w2 ⟨ha2, hz2, hx2, hg2, hb2, hs2⟩
  refine wp_seq ?_
  refine in2_r2_wp hg2 (fun a2 h2 => ?_) a1 h1
  by_cases hf : (fmFault t).1 = 0
  case neg =>
    refine wp_cond_true ((h2.eval (k := 11) (v := .bool (decide ((fmFault t).1 ≠ 0))) (by simp)).trans (by rw [decide_eq_true hf])) ?_
    refine wp_seq ?_
    refine Code.wp_mono (Q := Exit.then (fun a' w' => Frm 28 [(4, .pointer (some ⟨w.heap.size + 1, 0, none⟩)), (5, .pointer (some ⟨w.heap.size + 2, 0, none⟩))] a' ∧ w'.heap[w.heap.size + 1]? = some (.cells #[.int .i64 0, .string ⟨#[]⟩, .slice none 0 0, .slice none 0 0] 25 (0, 0)) ∧ w'.heap[w.heap.size + 2]? = some (.cells #[.int .i64 ((fmFault t).1 : Nat), .int .i64 ((fmFault t).2 : Nat)] 27 (0, 0)) ∧ Keeps (fun k => k = w.heap.size + 1 ∨ k = w.heap.size + 2) w2 w') (fun _ _ _ => False)) ?_ (in2_r3_wp (by omega) hz2 hx2 (by omega) (by omega) hg2 (fun a' w' h' g1 g2 g3 => ⟨h', g1, g2, g3⟩) a2 ⟨h2.1, h2.2.1, h2.2.2.2.2.1, h2.2.2.2.2.2.1, h2.2.2.2.2.2.2.1, trivial⟩)
    intro ex a3 w3 hx3'
    cases ex with
    | normal =>
      obtain ⟨h3, hz3, hx3, hk3⟩ := hx3'
      refine wp_ret ?_
      repeat (first | refine then_ret ?_ | refine inBlock_ret ?_)
      refine in2_ret_wp hz3 hx3 ⟨rfl, rfl, rfl, rfl⟩ ⟨[.int .i64 0, .string ⟨#[]⟩, .slice none 0 0, .slice none 0 0], by rw [show insC t y = ((((fmFault t).1 : Nat) : Int), (((fmFault t).2 : Nat) : Int)) from if_pos hf], ?_, ?_⟩ a3 h3
      · rw [show insT t y = fmZ from if_neg (fun h => hf h.1)]
        exact fmZ_rep
      · exact hb2.trans (Keeps.below (B := w.heap.size) hk3 (fun k e => by have e : k = w.heap.size + 1 ∨ k = w.heap.size + 2 := e; omega) (by omega))
    | _ => exact hx3'.elim
  refine wp_cond_false ((h2.eval (k := 11) (v := .bool (decide ((fmFault t).1 ≠ 0))) (by simp)).trans (by rw [decide_eq_false (fun h => h hf)])) ?_
  refine wp_skip ?_
  show Code.wp _ _ _ a2 w2
  obtain ⟨v, rfl, ov, nv, dv, ev⟩ := fmFault_ok hf
  refine wp_seq ?_
  refine wp_seq ?_
  refine in2_r4_wp ha2 (fun a4 w4 h4 hb4 => ?_) a2 ⟨h2.1, h2.2.1, h2.2.2.1, h2.2.2.2.1, h2.2.2.2.2.1, h2.2.2.2.2.2.1, trivial⟩
  have hb4s := hb4.size
  have hb24 := hb2.trans (hb4.mono (by omega))
  have hz4 := (hb4.block _ (lt_heap hz2)).trans hz2
  have hx4 := (hb4.block _ (lt_heap hx2)).trans hx2
  have ha4 := (hb4.block _ (lt_heap ha2)).trans ha2
  have hsz4 : w.heap.size + 3 ≤ w4.heap.size := by omega
  cases hq : isQu kd
  · rw [hq] at h4
    refine wp_cond_true ((h4.eval (k := 16) (v := .bool (!false)) (by simp)).trans (by rw [show (!false) = true from rfl])) ?_
    refine wp_seq ?_
    refine in2_r5_wp (by omega) hz4 hx4 (fun a3 w3 h3 hz3 hx3 hk3 => ?_) a4 ⟨h4.1, h4.2.1, h4.2.2.2.2.1, h4.2.2.2.2.2.1, trivial⟩
    refine wp_ret ?_
    repeat (first | refine then_ret ?_ | refine inBlock_ret ?_)
    refine in2_ret_wp hz3 hx3 ⟨rfl, rfl, rfl, rfl⟩ ⟨[.int .i64 0, .string ⟨#[]⟩, .slice none 0 0, .slice none 0 0], ?_, ?_, ?_⟩ a3 h3
    · have e : insC v.fm y = (4, -1) := by
        unfold insC
        rw [if_neg (fun h => h hf), hkd, if_pos hq]
      rw [e]
    · rw [show insT v.fm y = fmZ from if_neg (fun h => by rw [hkd, hq] at h; cases h.2.1)]
      exact fmZ_rep
    · exact hb24.trans (Keeps.below (B := w.heap.size) hk3 (fun k e => by have e : k = w.heap.size + 1 ∨ k = w.heap.size + 2 := e; omega) (by omega))
  · rw [hq] at h4
    refine wp_cond_false ((h4.eval (k := 16) (v := .bool (!true)) (by simp)).trans (by rw [show (!true) = false from rfl])) ?_
    refine wp_skip ?_
    show Code.wp _ _ _ a4 w4
    refine wp_seq ?_
    refine wp_seq ?_
    refine in2_r6_wp hy (fun a5 h5 => ?_) a4 ⟨h4.1, h4.2.1, h4.2.2.1, h4.2.2.2.1, h4.2.2.2.2.1, h4.2.2.2.2.2.1, trivial⟩
    cases hok : okName y
    · rw [hok] at h5
      refine wp_cond_true ((h5.eval (k := 21) (v := .bool (!false)) (by simp)).trans (by rw [show (!false) = true from rfl])) ?_
      refine wp_seq ?_
      refine in2_r7_wp (by omega) hz4 hx4 (fun a3 w3 h3 hz3 hx3 hk3 => ?_) a5 ⟨h5.1, h5.2.1, h5.2.2.2.2.1, h5.2.2.2.2.2.1, trivial⟩
      refine wp_ret ?_
      repeat (first | refine then_ret ?_ | refine inBlock_ret ?_)
      refine in2_ret_wp hz3 hx3 ⟨rfl, rfl, rfl, rfl⟩ ⟨[.int .i64 0, .string ⟨#[]⟩, .slice none 0 0, .slice none 0 0], ?_, ?_, ?_⟩ a3 h3
      · have e : insC v.fm y = (10, -2) := by
          unfold insC
          rw [if_neg (fun h => h hf), hkd, if_neg (by rw [hq]; decide), if_pos hok]
        rw [e]
      · rw [show insT v.fm y = fmZ from if_neg (fun h => by rw [hok] at h; cases h.2.2)]
        exact fmZ_rep
      · exact hb24.trans (Keeps.below (B := w.heap.size) hk3 (fun k e => by have e : k = w.heap.size + 1 ∨ k = w.heap.size + 2 := e; omega) (by omega))
    · rw [hok] at h5
      refine wp_cond_false ((h5.eval (k := 21) (v := .bool (!true)) (by simp)).trans (by rw [show (!true) = false from rfl])) ?_
      refine wp_skip ?_
      show Code.wp _ _ _ a5 w4
      obtain ⟨kn, x, f, rfl⟩ := Fv.qu_of (by rw [hkd]; exact hq) ov
      have hc := (body_any kn x y f ov nv hy [.int .i64 kd, .string nm, .slice A n1 c1, .slice B n2 c2] w4 S (fmRep.keep ht (fun b h => hb24.block b (hS b h)) (fun _ h => h)) (fun b h => by have := hS b h; omega) (fun W h => htab W (hb24.trans (h.mono (by omega))))).mono (R' := fun e w' => ∃ ke ne Ae n3 c3 Be n4 c4, e = .returned (.agg #[.int .i64 ke, .string ne, .slice Ae n3 c3, .slice Be n4 c4]) ∧ w'.heap[w.heap.size + 1]? = some (.cells #[.int .i64 0, .string ⟨#[]⟩, .slice none 0 0, .slice none 0 0] 25 (0, 0)) ∧ w'.heap[w.heap.size + 2]? = some (.cells #[.int .i64 0, .int .i64 0] 27 (0, 0)) ∧ (fmRep.R w' (fun b => w4.heap.size ≤ b ∧ b < w'.heap.size) (canF [(x, y)] f.fm) [.int .i64 ke, .string ne, .slice Ae n3 c3, .slice Be n4 c4] ∧ Below w4.heap.size w4 w')) (by
    rintro e w' ⟨es, rfl, hr, hb9⟩
    obtain ⟨A5, n5, c5, B5, n6, c6, rfl, _, _, _, _⟩ := Fm.shape hr
    exact ⟨_, _, _, _, _, _, _, _, rfl, (hb9.block _ (lt_heap hz4)).trans hz4, (hb9.block _ (lt_heap hx4)).trans hx4, hr, hb9⟩)
      refine wp_seq ?_
      refine in2_r8_wp ha4 (by omega) hc (fun ke ne Ae n3 c3 Be n4 c4 w5 a6 w6 h6 hp6 hz6 hx6 hk6 => ?_) a5 ⟨h5.1, h5.2.1, h5.2.2.1, h5.2.2.2.1, h5.2.2.2.2.1, h5.2.2.2.2.2.1, trivial⟩
      obtain ⟨hr5, hb5⟩ := hp6
      have hk6s := hk6.size
      have hb5s := hb5.size
      refine wp_ret ?_
      refine in2_ret_wp hz6 hx6 ⟨rfl, rfl, rfl, rfl⟩ ⟨[.int .i64 ke, .string ne, .slice Ae n3 c3, .slice Be n4 c4], ?_, ?_, ?_⟩ a6 h6
      · have e : insC (Fv.qu kn x f).fm y = (0, 0) := by
          unfold insC
          rw [if_neg (fun h => h hf), hkd, if_neg (by rw [hq]; decide), if_neg (by rw [hok]; decide)]
        rw [e]
      · rw [show insT (Fv.qu kn x f).fm y = canF [(x, y)] f.fm from if_pos ⟨hf, by rw [hkd]; exact hq, hok⟩]
        exact fmRep.keep hr5 (fun b hb => hk6.block b hb.2 (by omega)) (fun b hb => ⟨by omega, by omega⟩)
      · have h1 : Below w.heap.size w w5 := hb24.trans (hb5.mono (by omega))
        exact h1.trans (Keeps.below (B := w.heap.size) hk6 (fun k e => by have e : k = w.heap.size + 1 ∨ k = w.heap.size + 2 := e; omega) (by have := h1.size; omega))
set_option maxRecDepth 100000 in
set_option maxHeartbeats 4000000 in
theorem bound_any (k : Int) (y : ByteArray) (kd : Int) (nm : ByteArray) (A : Option Addr) (n1 c1 : Nat) (B : Option Addr) (n2 c2 : Nat) (w : World) : Calls Tryd.prog 25 #[.int .i64 k, .string y, .agg #[.int .i64 kd, .string nm, .slice A n1 c1, .slice B n2 c2]] w fun e w' => ∃ g, e = .returned (.agg #[.int .i64 k, .string y, .slice none 0 0, .slice (some ⟨g, 0, none⟩) 1 1]) ∧ w'.heap[g]? = some (.cells #[.int .i64 kd, .string nm, .slice A n1 c1, .slice B n2 c2] 25 (0, 0)) ∧ w.heap.size ≤ g ∧ Below w.heap.size w w' := by
  go_enter Tryd.func25, Tryd.ntmps25
  go_wp2_with fail
  refine bodyPost_ret (v := .agg #[.int .i64 k, .string y, .slice none 0 0, .slice (some ⟨w.heap.size + 1 + 1, 0, none⟩) 1 1]) (by simp [results, Tryd.results25, go_sem]) rfl ?_
  exact ⟨_, rfl, heap_at (by simp), by omega, by go_grown⟩
end

section
open Go Go.RowKit
set_option linter.unusedSimpArgs false
set_option linter.unusedVariables false

/-- The laws' example: a quantifier over 'dog' of its variable. -/
def fvB (k : Nat) (a : ByteArray) : Fv := .qu k a (.pred bDog [a])
theorem fvB_ok {k : Nat} {a : ByteArray} (hk : k = 8 ∨ k = 9) (ha : okName a = true) : (fvB k a).ok := ⟨hk, ha, by decide +kernel, by simp, by simp [ha]⟩
theorem fvB_fault {k : Nat} {a : ByteArray} (hk : k = 8 ∨ k = 9) (ha : okName a = true) : fmFault (fvB k a).fm = (0, 0) := by
  unfold fmFault
  rw [Fv.val_ok false (fvB k a) 1 0 (fvB_ok hk ha) (by simp [fvB, Fv.nodes]) (by simp [fvB, Fv.depth])]
theorem vB_zero : vB 0 = ⟨#[118, 48]⟩ := by
  unfold vB
  rw [Lib.decDigits, dif_pos (by omega)]
  rfl
theorem nextV_nil (n : Nat) : nextV [] n = n := nextV_stop (by simp)
theorem canF_fvB {k : Nat} (a : ByteArray) (hk : k = 8 ∨ k = 9) : canF [] (fvB k a).fm = (fvB k ⟨#[118, 48]⟩).fm := by
  have hq : isQ (k : Int) := by
    rcases hk with rfl | rfl
    · exact Or.inl rfl
    · exact Or.inr rfl
  have hfr : fmConsts (fvB k a).fm = [] := by
    have h : fmFrees [] (fvB k a).fm = [] := by
      unfold fvB
      simp only [Fv.fm, fmFrees, fmFreess]
      rw [if_pos (show (k : Int) = 8 ∨ (k : Int) = 9 from hq)]
      simp [hasB]
    unfold fmConsts
    rw [h]
    cases hc : constsB [] with
    | nil => rfl
    | cons x l =>
      have : x ∈ constsB [] := by rw [hc]; simp
      rw [mem_constsB] at this
      cases this
  have hn : namV [] 0 = ⟨#[118, 48]⟩ := by
    unfold namV numV
    rw [nextV_nil, vB_zero]
  rw [canF_nil, hfr]
  unfold fvB
  simp only [Fv.fm]
  rw [renF_q (a := ⟨(k : Int), a, []⟩) hq, hn]
  simp only [renFs, renF, List.map_nil, List.nil_append]
  rw [if_neg (by unfold isQ; decide)]
  simp [lookE]
theorem canF_dog (a y : ByteArray) : canF [(a, y)] (Fv.pred bDog [a]).fm = (Fv.pred bDog [y]).fm := by
  unfold canF
  simp only [Fv.fm, renF, renFs]
  rw [if_neg (by unfold isQ; decide)]
  simp [lookE]
theorem insT_fvB {k : Nat} {a y : ByteArray} (hk : k = 8 ∨ k = 9) (ha : okName a = true) (hy : okName y = true) : insT (fvB k a).fm y = (Fv.pred bDog [y]).fm ∧ insC (fvB k a).fm y = (0, 0) := by
  have hf := fvB_fault hk ha
  have hq : isQu (fvB k a).fm.lab.kind = true := by
    show isQu (k : Int) = true
    rcases hk with rfl | rfl <;> rfl
  constructor
  · unfold insT
    rw [if_pos ⟨by rw [hf], hq, hy⟩]
    exact canF_dog a y
  · unfold insC
    rw [if_neg (by rw [hf]; simp), if_neg (by rw [hq]; decide), if_neg (by rw [hy]; decide)]
theorem fvB_rep {W : World} {S : Nat → Prop} {k : Nat} {a : ByteArray} {g g0 : Nat} {T0 : TypeId} (ha : a.size ≤ maxLen) (h0 : W.heap[g0]? = some (.cells #[.string a] T0 (0, 0))) (hg : W.heap[g]? = some (.cells #[.int .i64 2, .string bDog, .slice (some ⟨g0, 0, none⟩) 1 1, .slice none 0 0] 25 (0, 0))) (s0 : S g0) (sg : S g) : fmRep.R W S (fvB k a).fm [.int .i64 (k : Nat), .string a, .slice none 0 0, .slice (some ⟨g, 0, none⟩) 1 1] := by
  refine Fm.shut (a := ⟨(k : Int), a, []⟩) (l := [(Fv.pred bDog [a]).fm]) ha Rep.Sl.nil ?_
  refine ⟨_, _, _, rfl, rfl, by decide, fun _ => ⟨g, 0, [.int .i64 2, .string bDog, .slice (some ⟨g0, 0, none⟩) 1 1, .slice none 0 0], rfl, sg, Rep.All.single (Fm.shut (a := ⟨2, bDog, [a]⟩) (l := []) (show bDog.size ≤ maxLen from by decide +kernel) (slS1 h0 ha s0) Rep.Sl.nil), fun j u hj => ?_⟩⟩
  rw [Nat.zero_add]
  match j, hj with
  | 0, hj => exact (cellv hg 0 rfl).trans (by simpa using hj)
  | 1, hj => exact (cellv hg 1 rfl).trans (by simpa using hj)
  | 2, hj => exact (cellv hg 2 rfl).trans (by simpa using hj)
  | 3, hj => exact (cellv hg 3 rfl).trans (by simpa using hj)
  | n + 4, hj => simp at hj
end

section
open Go Go.RowKit
set_option linter.unusedSimpArgs false
set_option linter.unusedVariables false

theorem okName_namV {v : Fv} (hv : v.ok) (hn : v.nodes ≤ 200) (env : Env) : ∀ j, j < quN v.fm → okName (namV ((fmConsts v.fm).map (lookE env)) j) = true := by
  intro j hj
  have hwq := Fv.words_le v hv
  have h1 := fmConsts_len v.fm
  have h2 := frees_le v.fm []
  have hfv := fromV_le ((fmConsts v.fm).map (lookE env)) (quN v.fm) (j + 1) (by omega) (by rw [List.length_map]; omega) (by omega)
  have e : fromV ((fmConsts v.fm).map (lookE env)) (j + 1) = numV ((fmConsts v.fm).map (lookE env)) j + 1 := rfl
  exact okName_vB (by omega)
/-- A canonical form is a valid formula. -/
theorem canF_ok {v : Fv} (hv : v.ok) (hn : v.nodes ≤ 200) (env : Env) (he : ∀ p ∈ env, okName p.2 = true) : ∃ v' : Fv, canF env v.fm = v'.fm ∧ v'.ok ∧ v'.nodes = v.nodes ∧ v'.depth = v.depth := by
  unfold canF
  exact Fv.ren v env 0 hv he (fun j hj => okName_namV hv hn env j (by omega))
theorem fault_of {v : Fv} (hv : v.ok) (hn : v.nodes ≤ 200) (hd : v.depth ≤ 40) : fmFault v.fm = (0, 0) := by
  unfold fmFault
  rw [Fv.val_ok false v 1 0 hv (by omega) (by omega)]
theorem alike_inst {v : Fv} {y : ByteArray} (hv : v.ok) (hn : v.nodes ≤ 200) (hd : v.depth ≤ 40) (hq : isQu v.fm.lab.kind = true) (hok : okName y = true) : insC (canF [] v.fm) y = (0, 0) ∧ insT (canF [] v.fm) y = insT v.fm y := by
  obtain ⟨kn, x, f, rfl⟩ := Fv.qu_of hq hv
  have hqk : isQ (kn : Int) := by
    have : isQu (kn : Int) = true := hq
    unfold isQu at this
    unfold isQ
    simpa using this
  obtain ⟨y', b', h1, h2⟩ := canF_inst (kn : Int) x f.fm hqk y
  have h1' : canF [] (Fv.qu kn x f).fm = .mk ⟨(kn : Int), y', []⟩ [b'] := h1
  obtain ⟨v', e, ov, nv, dv⟩ := canF_ok hv hn [] (by simp)
  have hf : fmFault (canF [] (Fv.qu kn x f).fm) = (0, 0) := by
    rw [e]
    exact fault_of ov (by omega) (by omega)
  have hf0 := fault_of hv hn hd
  constructor
  · unfold insC
    rw [if_neg (by rw [hf]; simp), h1', if_neg (by rw [show (Tree.mk ⟨(kn : Int), y', []⟩ [b']).lab.kind = (kn : Int) from rfl, show isQu (kn : Int) = true from hq]; decide), if_neg (by rw [hok]; decide)]
  · have a1 : insT (canF [] (Fv.qu kn x f).fm) y = canF [(y', y)] b' := by
      rw [h1'] at hf ⊢
      unfold insT
      rw [if_pos ⟨by rw [hf], hq, hok⟩]
      rfl
    have a2 : insT (Fv.qu kn x f).fm y = canF [(x, y)] f.fm := by
      unfold insT
      rw [if_pos ⟨by rw [hf0], hq, hok⟩]
      rfl
    rw [a1, a2, h2]
end

section
open Go Go.RowKit
set_option linter.unusedSimpArgs false
set_option linter.unusedVariables false

set_option maxRecDepth 1000000 in
theorem frame_hn {P : Act → Prop} (h : ∀ x0 x1 x2 x3 x4 x5 x6 x7 x8 x9 x10 x11 x12 x13 x14 x15 x16 x17 x18 x19 x20 x21 x22 x23 x24 x25 x26 x27 x28 x29 x30 x31 x32 x33 x34 x35 x36 x37 x38 x39 : Value, P ⟨(x0 :: x1 :: x2 :: x3 :: x4 :: x5 :: x6 :: x7 :: x8 :: x9 :: x10 :: x11 :: x12 :: x13 :: x14 :: x15 :: x16 :: x17 :: x18 :: x19 :: x20 :: x21 :: x22 :: x23 :: x24 :: x25 :: x26 :: x27 :: x28 :: x29 :: x30 :: x31 :: x32 :: x33 :: x34 :: x35 :: x36 :: x37 :: x38 :: x39 :: []).toArray, []⟩) : ∀ a : Act, a.tmps.toList.length = 40 → a.defers = [] → P a := by
  rintro ⟨⟨l⟩, d⟩ hs hd
  simp only at hd
  subst hd
  revert l
  show ∀ l : List Value, l.length = 40 → P ⟨⟨l⟩, []⟩
  refine openS (n := 39) (fun x0 => ?_)
  refine openS (n := 38) (fun x1 => ?_)
  refine openS (n := 37) (fun x2 => ?_)
  refine openS (n := 36) (fun x3 => ?_)
  refine openS (n := 35) (fun x4 => ?_)
  refine openS (n := 34) (fun x5 => ?_)
  refine openS (n := 33) (fun x6 => ?_)
  refine openS (n := 32) (fun x7 => ?_)
  refine openS (n := 31) (fun x8 => ?_)
  refine openS (n := 30) (fun x9 => ?_)
  refine openS (n := 29) (fun x10 => ?_)
  refine openS (n := 28) (fun x11 => ?_)
  refine openS (n := 27) (fun x12 => ?_)
  refine openS (n := 26) (fun x13 => ?_)
  refine openS (n := 25) (fun x14 => ?_)
  refine openS (n := 24) (fun x15 => ?_)
  refine openS (n := 23) (fun x16 => ?_)
  refine openS (n := 22) (fun x17 => ?_)
  refine openS (n := 21) (fun x18 => ?_)
  refine openS (n := 20) (fun x19 => ?_)
  refine openS (n := 19) (fun x20 => ?_)
  refine openS (n := 18) (fun x21 => ?_)
  refine openS (n := 17) (fun x22 => ?_)
  refine openS (n := 16) (fun x23 => ?_)
  refine openS (n := 15) (fun x24 => ?_)
  refine openS (n := 14) (fun x25 => ?_)
  refine openS (n := 13) (fun x26 => ?_)
  refine openS (n := 12) (fun x27 => ?_)
  refine openS (n := 11) (fun x28 => ?_)
  refine openS (n := 10) (fun x29 => ?_)
  refine openS (n := 9) (fun x30 => ?_)
  refine openS (n := 8) (fun x31 => ?_)
  refine openS (n := 7) (fun x32 => ?_)
  refine openS (n := 6) (fun x33 => ?_)
  refine openS (n := 5) (fun x34 => ?_)
  refine openS (n := 4) (fun x35 => ?_)
  refine openS (n := 3) (fun x36 => ?_)
  refine openS (n := 2) (fun x37 => ?_)
  refine openS (n := 1) (fun x38 => ?_)
  refine openS (n := 0) (fun x39 => ?_)
  refine open0 ?_
  exact h x0 x1 x2 x3 x4 x5 x6 x7 x8 x9 x10 x11 x12 x13 x14 x15 x16 x17 x18 x19 x20 x21 x22 x23 x24 x25 x26 x27 x28 x29 x30 x31 x32 x33 x34 x35 x36 x37 x38 x39
noncomputable def c_hn_r0 : Code := sub [0] (Tryd.f30.body.getD .skip)
set_option maxRecDepth 1000000 in
set_option maxHeartbeats 16000000 in
theorem hn_r0_wp {Q : Exit → Act → World → Prop} {y : ByteArray} {wo : World} {kd : Int} {nm : ByteArray} {A B : Option Addr} {n1 c1 n2 c2 : Nat} (hN : ∀ a', Frm 40 [(1, .string y), (2, .pointer (some ⟨wo.heap.size, 0, none⟩))] a' → Q .normal a' (wo.alloc (.cells #[.int .i64 kd, .string nm, .slice A n1 c1, .slice B n2 c2] 25))) : ∀ ac, Frm 40 [(0, .agg #[.int .i64 kd, .string nm, .slice A n1 c1, .slice B n2 c2]), (1, .string y)] ac → Code.wp Tryd.prog c_hn_r0 Q ac wo := by
  refine frm_open ?_
  refine frame_hn ?_
  intros
  rename_i hq
  obtain ⟨-, -, e0q, e1q, -⟩ := hq
  obtain rfl := sI e0q
  obtain rfl := sI e1q
  conv => arg 2; whnf
  have HN := Lib.hid hN
  clear hN
  go_wp2_with fail
  exact HN.out _ (id ⟨rfl, rfl, rfl, rfl, trivial⟩)
noncomputable def c_hn_r1 : Code := sub [1, 0, 0] (Tryd.f30.body.getD .skip)
set_option maxRecDepth 1000000 in
set_option maxHeartbeats 16000000 in
theorem hn_r1_wp {Q : Exit → Act → World → Prop} {bb : Bool} {y : ByteArray} {wo w : World} {kd : Int} {nm : ByteArray} {A B : Option Addr} {n1 c1 n2 c2 : Nat} (ha : w.heap[wo.heap.size]? = some (.cells #[.int .i64 kd, .string nm, .slice A n1 c1, .slice B n2 c2] 25 (0, 0))) (hc : Calls Tryd.prog 29 #[.slice A n1 c1, .string y] w fun e w' => e = .returned (.bool bb) ∧ w' = w) (hN : ∀ a', Frm 40 [(1, .string y), (2, .pointer (some ⟨wo.heap.size, 0, none⟩)), (25, .bool (bb || (isQu kd && decide (nm = y))))] a' → Q .normal a' w) : ∀ ac, Frm 40 [(1, .string y), (2, .pointer (some ⟨wo.heap.size, 0, none⟩))] ac → Code.wp Tryd.prog c_hn_r1 Q ac w := by
  refine frm_open ?_
  refine frame_hn ?_
  intros
  rename_i hq
  obtain ⟨-, -, e0q, e1q, -⟩ := hq
  obtain rfl := sI e0q
  obtain rfl := sI e1q
  conv => arg 2; whnf
  have a0 := cellv ha 0 rfl
  have a1 := cellv ha 1 rfl
  have a2 := cellv ha 2 rfl
  have a3 := cellv ha 3 rfl
  have al := lt_heap ha
  clear ha
  cases bb
  · by_cases h8 : kd = 8
    · subst h8
      by_cases hy : nm = y
      · subst hy
        have t1 : (nm.toList == nm.toList) = true := beq_self_eq_true _
        rw [show (false || (isQu 8 && decide (nm = nm))) = true from by simp [isQu]] at hN
        have HN := Lib.hid hN
        have HC := Lib.hid hc
        clear hN hc
        go_wp2_with fail
        (with_reducible refine HC.out.mono ?_)
        rintro e w1 ⟨rfl, rfl⟩
        go_wp2_with fail
        exact HN.out _ (id ⟨rfl, rfl, rfl, rfl, rfl, trivial⟩)
      · have t1 : (nm.toList == y.toList) = false := beq_eq_false_iff_ne.2 (fun e => hy (bytes_inj e))
        rw [show (false || (isQu 8 && decide (nm = y))) = false from by simp [hy]] at hN
        have HN := Lib.hid hN
        have HC := Lib.hid hc
        clear hN hc
        go_wp2_with fail
        (with_reducible refine HC.out.mono ?_)
        rintro e w1 ⟨rfl, rfl⟩
        go_wp2_with fail
        exact HN.out _ (id ⟨rfl, rfl, rfl, rfl, rfl, trivial⟩)
    have t8 : (kd == 8) = false := beq_eq_false_iff_ne.2 h8
    by_cases h9 : kd = 9
    · subst h9
      by_cases hy : nm = y
      · subst hy
        have t1 : (nm.toList == nm.toList) = true := beq_self_eq_true _
        rw [show (false || (isQu 9 && decide (nm = nm))) = true from by simp [isQu]] at hN
        have HN := Lib.hid hN
        have HC := Lib.hid hc
        clear hN hc
        go_wp2_with fail
        (with_reducible refine HC.out.mono ?_)
        rintro e w1 ⟨rfl, rfl⟩
        go_wp2_with fail
        exact HN.out _ (id ⟨rfl, rfl, rfl, rfl, rfl, trivial⟩)
      · have t1 : (nm.toList == y.toList) = false := beq_eq_false_iff_ne.2 (fun e => hy (bytes_inj e))
        rw [show (false || (isQu 9 && decide (nm = y))) = false from by simp [hy]] at hN
        have HN := Lib.hid hN
        have HC := Lib.hid hc
        clear hN hc
        go_wp2_with fail
        (with_reducible refine HC.out.mono ?_)
        rintro e w1 ⟨rfl, rfl⟩
        go_wp2_with fail
        exact HN.out _ (id ⟨rfl, rfl, rfl, rfl, rfl, trivial⟩)
    have t9 : (kd == 9) = false := beq_eq_false_iff_ne.2 h9
    rw [show (false || (isQu kd && decide (nm = y))) = false from by simp [isQu, h8, h9]] at hN
    clear h8 h9
    have HN := Lib.hid hN
    have HC := Lib.hid hc
    clear hN hc
    go_wp2_with fail
    (with_reducible refine HC.out.mono ?_)
    rintro e w1 ⟨rfl, rfl⟩
    go_wp2_with fail
    exact HN.out _ (id ⟨rfl, rfl, rfl, rfl, rfl, trivial⟩)
  · rw [show (true || (isQu kd && decide (nm = y))) = true from rfl] at hN
    have HN := Lib.hid hN
    have HC := Lib.hid hc
    clear hN hc
    go_wp2_with fail
    (with_reducible refine HC.out.mono ?_)
    rintro e w1 ⟨rfl, rfl⟩
    go_wp2_with fail
    exact HN.out _ (id ⟨rfl, rfl, rfl, rfl, rfl, trivial⟩)
noncomputable def c_hn_r2 : Code := sub [1, 0, 1, 0, 0] (Tryd.f30.body.getD .skip)
set_option maxRecDepth 1000000 in
set_option maxHeartbeats 16000000 in
theorem hn_r2_wp {Q : Exit → Act → World → Prop} {y : ByteArray} {wo w : World} (hN : ∀ a', Frm 40 [(4, .bool true)] a' → Q .normal a' w) : ∀ ac, Frm 40 [(1, .string y), (2, .pointer (some ⟨wo.heap.size, 0, none⟩))] ac → Code.wp Tryd.prog c_hn_r2 Q ac w := by
  refine frm_open ?_
  refine frame_hn ?_
  intros
  rename_i hq
  obtain ⟨-, -, e0q, e1q, -⟩ := hq
  obtain rfl := sI e0q
  obtain rfl := sI e1q
  conv => arg 2; whnf
  have HN := Lib.hid hN
  clear hN
  go_wp2_with fail
  exact HN.out _ (id ⟨rfl, rfl, rfl, trivial⟩)
noncomputable def c_hn_r3 : Code := sub [1, 1, 0, 0] (Tryd.f30.body.getD .skip)
set_option maxRecDepth 1000000 in
set_option maxHeartbeats 16000000 in
theorem hn_r3_wp {Q : Exit → Act → World → Prop} {y : ByteArray} {wo w : World} {kd : Int} {nm : ByteArray} {A B : Option Addr} {n1 c1 n2 c2 : Nat} (ha : w.heap[wo.heap.size]? = some (.cells #[.int .i64 kd, .string nm, .slice A n1 c1, .slice B n2 c2] 25 (0, 0))) (hN : ∀ a', Frm 40 [(1, .string y), (2, .pointer (some ⟨wo.heap.size, 0, none⟩)), (27, .slice B n2 c2), (28, .int .i64 (n2 : Nat)), (29, .int .i64 (0 : Nat))] a' → Q .normal a' w) : ∀ ac, Frm 40 [(1, .string y), (2, .pointer (some ⟨wo.heap.size, 0, none⟩))] ac → Code.wp Tryd.prog c_hn_r3 Q ac w := by
  refine frm_open ?_
  refine frame_hn ?_
  intros
  rename_i hq
  obtain ⟨-, -, e0q, e1q, -⟩ := hq
  obtain rfl := sI e0q
  obtain rfl := sI e1q
  conv => arg 2; whnf
  have a0 := cellv ha 0 rfl
  have a1 := cellv ha 1 rfl
  have a2 := cellv ha 2 rfl
  have a3 := cellv ha 3 rfl
  have al := lt_heap ha
  clear ha
  have HN := Lib.hid hN
  clear hN
  go_wp2_with fail
  exact HN.out _ (id ⟨rfl, rfl, rfl, rfl, rfl, rfl, rfl, trivial⟩)
noncomputable def c_hn_r4 : Code := sub [1, 1, 0, 1, 0, 0, 0] (Tryd.f30.body.getD .skip)
set_option maxRecDepth 1000000 in
set_option maxHeartbeats 16000000 in
theorem hn_r4_wp {Q : Exit → Act → World → Prop} {y : ByteArray} {B : Option Addr} {n2 c2 i : Nat} {wo w : World} (hN : ∀ a', Frm 40 [(1, .string y), (2, .pointer (some ⟨wo.heap.size, 0, none⟩)), (27, .slice B n2 c2), (28, .int .i64 (n2 : Nat)), (29, .int .i64 (i : Nat)), (30, .bool (decide (i < n2)))] a' → Q .normal a' w) : ∀ ac, Frm 40 [(1, .string y), (2, .pointer (some ⟨wo.heap.size, 0, none⟩)), (27, .slice B n2 c2), (28, .int .i64 (n2 : Nat)), (29, .int .i64 (i : Nat))] ac → Code.wp Tryd.prog c_hn_r4 Q ac w := by
  refine frm_open ?_
  refine frame_hn ?_
  intros
  rename_i hq
  obtain ⟨-, -, e0q, e1q, e2q, e3q, e4q, -⟩ := hq
  obtain rfl := sI e0q
  obtain rfl := sI e1q
  obtain rfl := sI e2q
  obtain rfl := sI e3q
  obtain rfl := sI e4q
  conv => arg 2; whnf
  by_cases h : i < n2
  · have t1 : decide ((i : Int) < (n2 : Int)) = true := by first | exact decide_eq_true (by omega) | exact beq_iff_eq.2 (by omega) | exact bne_iff_ne.2 (by omega)
    have t2 : (decide (i < n2)) = true := decide_eq_true h
    rw [t2] at hN
    clear h
    have HN := Lib.hid hN
    clear hN
    go_wp2_with fail
    exact HN.out _ (id ⟨rfl, rfl, rfl, rfl, rfl, rfl, rfl, rfl, trivial⟩)
  · have t1 : decide ((i : Int) < (n2 : Int)) = false := by first | exact decide_eq_false (by omega) | exact beq_eq_false_iff_ne.2 (by omega) | exact bne_eq_false_iff_eq.2 (by omega)
    have t2 : (decide (i < n2)) = false := decide_eq_false h
    rw [t2] at hN
    clear h
    have HN := Lib.hid hN
    clear hN
    go_wp2_with fail
    exact HN.out _ (id ⟨rfl, rfl, rfl, rfl, rfl, rfl, rfl, rfl, trivial⟩)
noncomputable def c_hn_r5 : Code := sub [1, 1, 0, 1, 0, 0, 1, 1, 0, 0, 0] (Tryd.f30.body.getD .skip)
set_option maxRecDepth 1000000 in
set_option maxHeartbeats 16000000 in
theorem hn_r5_wp {Q : Exit → Act → World → Prop} {y : ByteArray} {B : Option Addr} {n2 c2 i : Nat} {wo w : World} (hN : ∀ a', Frm 40 [(1, .string y), (2, .pointer (some ⟨wo.heap.size, 0, none⟩)), (27, .slice B n2 c2), (28, .int .i64 (n2 : Nat)), (29, .int .i64 (i : Nat)), (5, .int .i64 (i : Nat))] a' → Q .normal a' w) : ∀ ac, Frm 40 [(1, .string y), (2, .pointer (some ⟨wo.heap.size, 0, none⟩)), (27, .slice B n2 c2), (28, .int .i64 (n2 : Nat)), (29, .int .i64 (i : Nat))] ac → Code.wp Tryd.prog c_hn_r5 Q ac w := by
  refine frm_open ?_
  refine frame_hn ?_
  intros
  rename_i hq
  obtain ⟨-, -, e0q, e1q, e2q, e3q, e4q, -⟩ := hq
  obtain rfl := sI e0q
  obtain rfl := sI e1q
  obtain rfl := sI e2q
  obtain rfl := sI e3q
  obtain rfl := sI e4q
  conv => arg 2; whnf
  have HN := Lib.hid hN
  clear hN
  go_wp2_with fail
  exact HN.out _ (id ⟨rfl, rfl, rfl, rfl, rfl, rfl, rfl, rfl, trivial⟩)
noncomputable def c_hn_r6 : Code := sub [1, 1, 0, 1, 0, 0, 1, 1, 0, 0, 1, 0] (Tryd.f30.body.getD .skip)
set_option maxRecDepth 1000000 in
set_option maxHeartbeats 16000000 in
theorem hn_r6_wp {Q : Exit → Act → World → Prop} {bb : Bool} {b o i : Nat} {ke : Int} {ne : ByteArray} {Ae Be : Option Addr} {n3 c3 n4 c4 : Nat} {y : ByteArray} {wo w : World} {kd : Int} {nm : ByteArray} {A : Option Addr} {n1 c1 n2 c2 : Nat} (hi : i < n2) (ha : w.heap[wo.heap.size]? = some (.cells #[.int .i64 kd, .string nm, .slice A n1 c1, .slice (some ⟨b, o, none⟩) n2 c2] 25 (0, 0))) (e0 : w.cell? ⟨b, o + i * 4, none⟩ = some (.int .i64 ke)) (e1 : w.cell? ⟨b, o + i * 4 + 1, none⟩ = some (.string ne)) (e2 : w.cell? ⟨b, o + i * 4 + 2, none⟩ = some (.slice Ae n3 c3)) (e3 : w.cell? ⟨b, o + i * 4 + 3, none⟩ = some (.slice Be n4 c4)) (hbl : b < w.heap.size) (hc : Calls Tryd.prog 30 #[.agg #[.int .i64 ke, .string ne, .slice Ae n3 c3, .slice Be n4 c4], .string y] w fun e w' => e = .returned (.bool bb) ∧ Below w.heap.size w w') (hN : ∀ a' w', Frm 40 [(1, .string y), (2, .pointer (some ⟨wo.heap.size, 0, none⟩)), (27, .slice (some ⟨b, o, none⟩) n2 c2), (28, .int .i64 (n2 : Nat)), (29, .int .i64 (i : Nat)), (38, .bool bb)] a' → Below w.heap.size w w' → Q .normal a' w') : ∀ ac, Frm 40 [(1, .string y), (2, .pointer (some ⟨wo.heap.size, 0, none⟩)), (27, .slice (some ⟨b, o, none⟩) n2 c2), (28, .int .i64 (n2 : Nat)), (29, .int .i64 (i : Nat)), (5, .int .i64 (i : Nat))] ac → Code.wp Tryd.prog c_hn_r6 Q ac w := by
  refine frm_open ?_
  refine frame_hn ?_
  intros
  rename_i hq
  obtain ⟨-, -, e0q, e1q, e2q, e3q, e4q, e5q, -⟩ := hq
  obtain rfl := sI e0q
  obtain rfl := sI e1q
  obtain rfl := sI e2q
  obtain rfl := sI e3q
  obtain rfl := sI e4q
  obtain rfl := sI e5q
  conv => arg 2; whnf
  have q0 : (0 : Int) ≤ (i : Int) := by omega
  have q1 : (i : Int) < (n2 : Int) := by omega
  have a3 := cellv ha 3 rfl
  have al := lt_heap ha
  clear ha
  have HN := Lib.hid hN
  have HC := Lib.hid hc
  clear hN hc
  go_wp2_with fail
  (with_reducible refine HC.out.mono ?_)
  rintro e w1 ⟨rfl, hb1⟩
  have HB1 := Lib.hid hb1
  clear hb1
  go_wp2_with fail
  exact HN.out _ _ (id ⟨rfl, rfl, rfl, rfl, rfl, rfl, rfl, rfl, trivial⟩) HB1.out
noncomputable def c_hn_r7 : Code := sub [1, 1, 0, 1, 0, 0, 1, 1, 0, 0, 1, 1, 0, 0] (Tryd.f30.body.getD .skip)
set_option maxRecDepth 1000000 in
set_option maxHeartbeats 16000000 in
theorem hn_r7_wp {Q : Exit → Act → World → Prop} {y : ByteArray} {wo w : World} (hN : ∀ a', Frm 40 [(4, .bool true)] a' → Q .normal a' w) : ∀ ac, Frm 40 [(1, .string y), (2, .pointer (some ⟨wo.heap.size, 0, none⟩))] ac → Code.wp Tryd.prog c_hn_r7 Q ac w := by
  refine frm_open ?_
  refine frame_hn ?_
  intros
  rename_i hq
  obtain ⟨-, -, e0q, e1q, -⟩ := hq
  obtain rfl := sI e0q
  obtain rfl := sI e1q
  conv => arg 2; whnf
  have HN := Lib.hid hN
  clear hN
  go_wp2_with fail
  exact HN.out _ (id ⟨rfl, rfl, rfl, trivial⟩)
noncomputable def c_hn_r8 : Code := sub [1, 1, 0, 1, 0, 0, 1, 1, 1] (Tryd.f30.body.getD .skip)
set_option maxRecDepth 1000000 in
set_option maxHeartbeats 16000000 in
theorem hn_r8_wp {Q : Exit → Act → World → Prop} {y : ByteArray} {B : Option Addr} {n2 c2 i : Nat} {wo w : World} (hi : i < n2) (hlim : n2 ≤ maxLen) (hN : ∀ a', Frm 40 [(1, .string y), (2, .pointer (some ⟨wo.heap.size, 0, none⟩)), (27, .slice B n2 c2), (28, .int .i64 (n2 : Nat)), (29, .int .i64 (i + 1 : Nat))] a' → Q .normal a' w) : ∀ ac, Frm 40 [(1, .string y), (2, .pointer (some ⟨wo.heap.size, 0, none⟩)), (27, .slice B n2 c2), (28, .int .i64 (n2 : Nat)), (29, .int .i64 (i : Nat))] ac → Code.wp Tryd.prog c_hn_r8 Q ac w := by
  refine frm_open ?_
  refine frame_hn ?_
  intros
  rename_i hq
  obtain ⟨-, -, e0q, e1q, e2q, e3q, e4q, -⟩ := hq
  obtain rfl := sI e0q
  obtain rfl := sI e1q
  obtain rfl := sI e2q
  obtain rfl := sI e3q
  obtain rfl := sI e4q
  conv => arg 2; whnf
  have hi4 : (i : Int) ≤ 9223372036854775806 := by unfold maxLen at hlim; omega
  have HN := Lib.hid hN
  clear hN
  go_wp2_with fail
  exact HN.out _ (id ⟨rfl, rfl, rfl, rfl, rfl, rfl, rfl, trivial⟩)
noncomputable def c_hn_r9 : Code := sub [1, 1, 1, 0] (Tryd.f30.body.getD .skip)
set_option maxRecDepth 1000000 in
set_option maxHeartbeats 16000000 in
theorem hn_r9_wp {Q : Exit → Act → World → Prop} {y : ByteArray} {wo w : World} (hN : ∀ a', Frm 40 [(4, .bool false)] a' → Q .normal a' w) : ∀ ac, Frm 40 [(1, .string y), (2, .pointer (some ⟨wo.heap.size, 0, none⟩))] ac → Code.wp Tryd.prog c_hn_r9 Q ac w := by
  refine frm_open ?_
  refine frame_hn ?_
  intros
  rename_i hq
  obtain ⟨-, -, e0q, e1q, -⟩ := hq
  obtain rfl := sI e0q
  obtain rfl := sI e1q
  conv => arg 2; whnf
  have HN := Lib.hid hN
  clear hN
  go_wp2_with fail
  exact HN.out _ (id ⟨rfl, rfl, rfl, trivial⟩)
set_option maxRecDepth 1000000 in
theorem hn_ret_wp {R : Ending → World → Prop} {w' : World} {bb : Bool} (hR : R (.returned (.bool bb)) w') : ∀ ac, Frm 40 [(4, .bool bb)] ac → bodyPost Tryd.prog Tryd.f30 R .ret ac w' := by
  refine frm_open ?_
  refine frame_hn ?_
  intros
  rename_i hq
  obtain ⟨-, -, e0q, -⟩ := hq
  obtain rfl := sI e0q
  refine bodyPost_ret (v := .bool bb) (by simp [results, Tryd.results30, go_sem]) rfl ?_
  exact hR
theorem hasB_app (l m : List ByteArray) (y : ByteArray) : hasB (l ++ m) y = (hasB l y || hasB m y) := by simp [hasB, List.any_append]
theorem allNs_take (y : ByteArray) (l : List (Tree FmL)) (j : Nat) (h : j < l.length) : hasB (allNs (l.take (j + 1))) y = (hasB (allNs (l.take j)) y || hasB (allN l[j]) y) := by
  have key : ∀ (a b : List (Tree FmL)), allNs (a ++ b) = allNs a ++ allNs b := by
    intro a
    induction a with
    | nil => intro b; simp [allNs]
    | cons x a ih => intro b; simp [allNs, ih]
  rw [List.take_succ_eq_append_getElem h, key, hasB_app]
  simp [allNs]
theorem hasN_eq (a : FmL) (l : List (Tree FmL)) (y : ByteArray) : hasB (allN (.mk a l)) y = ((hasB a.ws y || (isQu a.kind && decide (a.nm = y))) || hasB (allNs l) y) := by
  unfold allN
  rw [hasB_app, hasB_app]
  have h : hasB (if isQ a.kind then [a.nm] else []) y = (isQu a.kind && decide (a.nm = y)) := by
    by_cases hq : isQ a.kind
    · rw [if_pos hq]
      have : isQu a.kind = true := by unfold isQu; unfold isQ at hq; simpa using hq
      rw [this]
      simp [hasB]
    · rw [if_neg hq]
      have : isQu a.kind = false := by
        unfold isQu; unfold isQ at hq
        simpa using hq
      rw [this]
      simp [hasB]
  rw [h]
  cases hasB a.ws y <;> cases (isQu a.kind && decide (a.nm = y)) <;> simp
set_option maxRecDepth 100000 in
set_option maxHeartbeats 4000000 in
/-- The law's has. -/
theorem hasN_any : ∀ (N : Nat) (t : Fm) (cs : List Value) (y : ByteArray) (w : World) (S : Nat → Prop), t.nodes ≤ N → fmRep.R w S t cs → (∀ b, S b → b < w.heap.size) → Calls Tryd.prog 30 #[.agg cs.toArray, .string y] w fun e w' => e = .returned (.bool (hasB (allN t) y)) ∧ Below w.heap.size w w' := by
  intro N
  induction N with
  | zero => intro t; have := t.nodes_pos; intros; omega
  | succ N ih =>
  intro t cs y w S hN ht hS
  obtain ⟨⟨kd, nm, us⟩, ks⟩ := t
  obtain ⟨u, v9, rfl, hnm, hw, hl⟩ := Fm.open_ ht
  simp only at hw hnm
  obtain ⟨A, n1, c1, rfl, e1, hm1, _⟩ := id hw
  obtain ⟨B, n2, c2, rfl, e2, hm2, _⟩ := id hl
  clear ht
  simp only [Tree.nodes] at hN
  rw [hasN_eq]
  go_enter Tryd.func30, Tryd.ntmps30
  refine wp_seq ?_
  refine hn_r0_wp (fun a0 h0 => ?_) _ (id ⟨rfl, rfl, rfl, rfl, trivial⟩)
  refine gen_last (fun wx => wx.heap[w.heap.size]? = some (.cells #[.int .i64 kd, .string nm, .slice A n1 c1, .slice B n2 c2] 25 (0, 0)) ∧ Below w.heap.size w wx) ⟨heap_alloc_new _ _, (Below.refl _ _).alloc (Nat.le_refl _) _⟩ ?_
  rintro wx ⟨ha, hb⟩
  have hbs := hb.size
  have hold := fun k hk => hb.block k (hS k hk)
  have hal := lt_heap ha
  refine wp_seq ?_
  refine wp_seq ?_
  refine hn_r1_wp ha (refHas_any (hw.keep hold (fun _ h => h)) (fun k hk => by have := hS k hk; omega) y) (fun a1 h1 => ?_) a0 h0
  cases hh : (hasB us y || (isQu kd && decide (nm = y)))
  case true =>
    rw [hh] at h1
    refine wp_cond_true ((h1.eval (k := 25) (v := .bool true) (by simp)).trans (by rw [show true = true from rfl])) ?_
    refine wp_seq ?_
    refine hn_r2_wp (fun a2 h2 => ?_) a1 ⟨h1.1, h1.2.1, h1.2.2.1, h1.2.2.2.1, trivial⟩
    refine wp_ret ?_
    repeat (first | refine then_ret ?_ | refine inBlock_ret ?_)
    refine hn_ret_wp (bb := true) ⟨?_, hb⟩ a2 h2
    rw [Bool.true_or]
  rw [hh] at h1
  refine wp_cond_false ((h1.eval (k := 25) (v := .bool false) (by simp)).trans (by rw [show false = false from rfl])) ?_
  refine wp_skip ?_
  show Code.wp _ _ _ a1 wx
  refine wp_seq ?_
  refine wp_seq ?_
  refine hn_r3_wp ha (fun a2 h2 => ?_) a1 ⟨h1.1, h1.2.1, h1.2.2.1, h1.2.2.2.1, trivial⟩
  refine wp_block ?_
  refine wp_loopR (fun g a' w' => ∃ j : Nat, j + g = ks.length ∧ hasB (allNs (ks.take j)) y = false ∧ Below wx.heap.size wx w' ∧ Frm 40 [(1, .string y), (2, .pointer (some ⟨w.heap.size, 0, none⟩)), (27, .slice B n2 c2), (28, .int .i64 (n2 : Nat)), (29, .int .i64 (j : Nat))] a') ks.length ⟨0, by omega, by simp [allNs, hasB], Below.refl _ _, h2⟩ ?_
  rintro g a3 w3 ⟨j, hjg, hno, hb3, h3⟩
  have hb3s := hb3.size
  refine wp_seq ?_
  refine hn_r4_wp (fun a4 h4 => ?_) a3 h3
  refine wp_seq ?_
  by_cases hj : j < n2
  case neg =>
    refine wp_cond_false ((h4.eval (k := 30) (v := .bool (decide (j < n2))) (by simp)).trans (by rw [decide_eq_false hj])) ?_
    refine wp_exit ?_
    repeat refine then_exit ?_
    refine inBlock_exit ?_
    show Code.wp _ _ _ a4 w3
    refine wp_seq ?_
    refine hn_r9_wp (fun a5 h5 => ?_) a4 ⟨h4.1, h4.2.1, h4.2.2.1, h4.2.2.2.1, trivial⟩
    refine wp_ret ?_
    refine hn_ret_wp (bb := false) ⟨?_, hb.trans (hb3.mono hbs)⟩ a5 h5
    rw [List.take_of_length_le (by omega)] at hno
    rw [hno]; rfl
  refine wp_cond_true ((h4.eval (k := 30) (v := .bool (decide (j < n2))) (by simp)).trans (by rw [decide_eq_true hj])) ?_
  refine wp_skip ?_
  show Code.wp _ _ _ a4 w3
  have hjl : j < ks.length := by omega
  obtain ⟨b, o, cs, rfl, hSb, hr, hc⟩ := Rep.Sl.at_ hl (List.getElem?_eq_getElem hjl)
  obtain ⟨Ae, n3, c3, Be, n4, c4, rfl, _, _, _, _⟩ := Fm.shape hr
  have hold3 : ∀ k, S k → w3.heap[k]? = w.heap[k]? := fun k hk => (hb3.block k (by have := hS k hk; omega)).trans (hold k hk)
  have hkb := hold3 b hSb
  have e0 : w3.cell? ⟨b, o + j * 4, none⟩ = _ := (cell_keep hkb _).trans (hc 0 _ rfl)
  have e1 : w3.cell? ⟨b, o + j * 4 + 1, none⟩ = _ := (cell_keep hkb _).trans (hc 1 _ rfl)
  have e2 : w3.cell? ⟨b, o + j * 4 + 2, none⟩ = _ := (cell_keep hkb _).trans (hc 2 _ rfl)
  have e3 : w3.cell? ⟨b, o + j * 4 + 3, none⟩ = _ := (cell_keep hkb _).trans (hc 3 _ rfl)
  have hnj := Tree.nodes_at ks j hjl
  have htk := allNs_take y ks j hjl
  rw [hno, Bool.false_or] at htk
  have hih := ih ks[j] _ y w3 S (by omega) (fmRep.keep hr hold3 (fun _ h => h)) (fun b hb => by have := hS b hb; omega)
  refine wp_seq ?_
  refine wp_block ?_
  refine wp_seq ?_
  refine hn_r5_wp (fun a5 h5 => ?_) a4 ⟨h4.1, h4.2.1, h4.2.2.1, h4.2.2.2.1, h4.2.2.2.2.1, h4.2.2.2.2.2.1, h4.2.2.2.2.2.2.1, trivial⟩
  refine wp_seq ?_
  refine hn_r6_wp hj ((hb3.block _ hal).trans ha) e0 e1 e2 e3 (by have := hS b hSb; omega) hih (fun a6 w6 h6 hb6 => ?_) a5 h5
  have hb36 := hb3.trans (hb6.mono hb3s)
  cases hx : hasB (allN ks[j]) y
  · rw [hx] at h6 htk
    refine wp_cond_false ((h6.eval (k := 38) (v := .bool false) (by simp)).trans (by rw [show false = false from rfl])) ?_
    refine wp_skip ?_
    show Code.wp _ _ _ a6 w6
    refine hn_r8_wp hj (by omega) (fun a7 h7 => ?_) a6 ⟨h6.1, h6.2.1, h6.2.2.1, h6.2.2.2.1, h6.2.2.2.2.1, h6.2.2.2.2.2.1, h6.2.2.2.2.2.2.1, trivial⟩
    exact ⟨g - 1, by omega, j + 1, by omega, htk, hb36, h7⟩
  · rw [hx] at h6 htk
    refine wp_cond_true ((h6.eval (k := 38) (v := .bool true) (by simp)).trans (by rw [show true = true from rfl])) ?_
    refine wp_seq ?_
    refine hn_r7_wp (fun a7 h7 => ?_) a6 ⟨h6.1, h6.2.1, h6.2.2.1, h6.2.2.2.1, trivial⟩
    refine wp_ret ?_
    repeat (first | refine then_ret ?_ | refine inBlock_ret ?_)
    refine hn_ret_wp (bb := true) ⟨?_, hb.trans (hb36.mono hbs)⟩ a7 h7
    have hall : hasB (allNs ks) y = true := by
      rw [hasB_iff]
      have h1 := hasB_iff.1 htk
      have key : ∀ (a b : List (Tree FmL)), allNs (a ++ b) = allNs a ++ allNs b := by
        intro a
        induction a with
        | nil => intro b; simp [allNs]
        | cons x a ih => intro b; simp [allNs, ih]
      rw [← List.take_append_drop (j + 1) ks, key]
      exact List.mem_append.2 (Or.inl h1)
    rw [hall, Bool.or_true]
end

section
open Go Go.RowKit Go.Sort
set_option linter.unusedSimpArgs false
set_option linter.unusedVariables false

theorem Fv.frees_len : ∀ (v : Fv) (bd : List ByteArray), v.ok → (fmFrees bd v.fm).length ≤ 3 * v.nodes
  | .tru, bd, _ => by simp [Fv.fm, fmFrees, fmFreess, Fv.nodes]
  | .pred n ws, bd, h => by
    have h2 := h.2.1
    have := List.length_filter_le (fun w => !hasB bd w) ws
    simp only [Fv.fm, fmFrees, fmFreess, Fv.nodes, List.append_nil]; omega
  | .same a b, bd, _ => by
    have := List.length_filter_le (fun w => !hasB bd w) [a, b]
    simp only [Fv.fm, fmFrees, fmFreess, Fv.nodes, List.append_nil]
    simp only [List.length_cons, List.length_nil] at this
    omega
  | .neg f, bd, h => by
    have := fun b => Fv.frees_len f b h
    simp only [Fv.fm, fmFrees, fmFreess, Fv.nodes, List.filter_nil, List.nil_append, List.append_nil]
    exact Nat.le_trans (this _) (by omega)
  | .bin k f g, bd, h => by
    have h1 := fun b => Fv.frees_len f b h.2.1
    have h2 := fun b => Fv.frees_len g b h.2.2
    simp only [Fv.fm, fmFrees, fmFreess, Fv.nodes, List.filter_nil, List.nil_append, List.append_nil, List.length_append]
    exact Nat.le_trans (Nat.add_le_add (h1 _) (h2 _)) (by omega)
  | .qu k x f, bd, h => by
    have := fun b => Fv.frees_len f b h.2.2
    simp only [Fv.fm, fmFrees, fmFreess, Fv.nodes, List.filter_nil, List.nil_append, List.append_nil]
    exact Nat.le_trans (this _) (by omega)
set_option maxRecDepth 100000 in
set_option maxHeartbeats 4000000 in
theorem free_any (t : Fm) (cs : List Value) (w : World) (S : Nat → Prop) (ht : fmRep.R w S t cs) (hS : ∀ b, S b → b < w.heap.size) :
    Calls Tryd.prog 14 #[.agg cs.toArray] w fun e w' => (∃ u, e = .returned (.tuple #[u, .agg #[.int .i64 ((fmFault t).1 : Nat), .int .i64 ((fmFault t).2 : Nat)]]) ∧ ((fmFault t).1 ≠ 0 → u = .slice none 0 0) ∧ ((fmFault t).1 = 0 → w'.ownsRow w.heap.size 9 1 u (fmConsts t).length ((fmConsts t).map .string))) ∧ Below w.heap.size w w' := by
  obtain ⟨A, n1, c1, B, n2, c2, rfl, _, _, _, _⟩ := Fm.shape ht
  obtain ⟨kd, hkd⟩ : ∃ k, t.lab.kind = k := ⟨_, rfl⟩
  obtain ⟨nm, hnm⟩ : ∃ k, t.lab.nm = k := ⟨_, rfl⟩
  rw [hkd, hnm] at ht ⊢
  have hold : ∀ (o p : Obj) k, S k → ((w.alloc o).alloc p).heap[k]? = w.heap[k]? := fun o p k hk => by
    have := hS k hk
    exact heap_old (by simp; omega) (heap_old this rfl)
  have hv := fun (o p : Obj) => Lib.hid (validateFm_any t [.int .i64 kd, .string nm, .slice A n1 c1, .slice B n2 c2] ((w.alloc o).alloc p) S (fmRep.keep ht (hold o p) (fun _ h => h)) (fun k hk => by have := hS k hk; simp; omega))
  by_cases hf : (fmFault t).1 = 0
  case neg =>
    have hf' : (((fmFault t).1 : Int) != 0) = true := bne_iff_ne.2 (by omega)
    clear hkd hnm ht
    have HV := Lib.hid hv
    have HF := Lib.hid hf
    have HS := Lib.hid hS
    clear hv hf hS
    go_enter Tryd.func14, Tryd.ntmps14
    go_wp2_with fail
    (with_reducible refine (HV.out _ _).out.mono ?_)
    rintro e w1 ⟨rfl, hw1⟩
    have z1 : w.heap.size + 1 + 1 ≤ w1.heap.size := by have := hw1.size; simpa using this
    have h1 := (hw1.block (w.heap.size + 1) (by simp)).trans (heap_at (by simp))
    have hB : Below w.heap.size w w1 := (show Below w.heap.size w _ by go_grown).trans (hw1.mono (by simp; omega))
    have HB := Lib.hid hB
    have HW1 := Lib.hid hw1
    clear hB hw1
    have h1_0 := cv0 h1
    have h1_1 := cv1 h1
    have h1_f0 := free_heap h1 0
    have h1_f1 := free_heap h1 1
    have h1_l := lt_heap h1
    have H1 := Lib.hid h1
    clear h1
    go_wp2_with fail
    go_region
    all_goals go_wp2_with fail
    all_goals
      refine bodyPost_ret (v := .tuple #[.slice none 0 0, .agg #[.int .i64 ((fmFault t).1 : Nat), .int .i64 ((fmFault t).2 : Nat)]]) (by simp [results, Tryd.results14, go_sem, h1_0, h1_1, h1_l]) rfl ?_
      exact ⟨⟨_, rfl, fun _ => rfl, fun h => absurd h HF.out⟩, ((below2 HB.out (by omega)).alloc (by simp only [size_set]; omega) _).drew⟩
  obtain ⟨v, rfl, ov, nv, dv, ev⟩ := fmFault_ok hf
  rw [ev] at hv ⊢
  have hlen := v.frees_len [] ov
  have hnd := v.fm_nodes
  have htx := fun (W : World) (h : ∀ k, S k → W.heap[k]? = w.heap[k]?) (hz : w.heap.size ≤ W.heap.size) => constants_any v.fm [.int .i64 kd, .string nm, .slice A n1 c1, .slice B n2 c2] W S (fmRep.keep ht h (fun _ h => h)) (fun k hk => Nat.lt_of_lt_of_le (hS k hk) hz) (by omega) (by omega)
  clear hkd hnm ht hf ev ov nv dv hlen hnd
  have HV := Lib.hid hv
  have HTX := Lib.hid htx
  have HS := Lib.hid hS
  clear hv htx hS
  go_enter Tryd.func14, Tryd.ntmps14
  go_wp2_with fail
  (with_reducible refine (HV.out _ _).out.mono ?_)
  rintro e w1 ⟨rfl, hw1⟩
  have z1 : w.heap.size + 1 + 1 ≤ w1.heap.size := by have := hw1.size; simpa using this
  have h0 := (hw1.block w.heap.size (by simp; omega)).trans (heap_old (by simp) (heap_at rfl))
  have h1 := (hw1.block (w.heap.size + 1) (by simp)).trans (heap_at (by simp))
  have hB : Below w.heap.size w w1 := (show Below w.heap.size w _ by go_grown).trans (hw1.mono (by simp; omega))
  have htx := fun (o : Obj) => HTX.out (w1.alloc o) (fun k hk => (heap_old (by have := HS.out k hk; omega) rfl).trans (hB.block k (HS.out k hk))) (by have := hB.size; simp; omega)
  clear HTX HV hw1
  have HB := Lib.hid hB
  have HTX := Lib.hid htx
  clear hB htx
  have h0_0 := cv0 h0
  have h0_1 := cv1 h0
  have h0_2 := cv2 h0
  have h0_3 := cv3 h0
  have h0_l := lt_heap h0
  have H0 := Lib.hid h0
  clear h0
  have h1_0 := cv0 h1
  have h1_1 := cv1 h1
  have h1_f0 := free_heap h1 0
  have h1_f1 := free_heap h1 1
  have h1_l := lt_heap h1
  have H1 := Lib.hid h1
  clear h1
  go_wp2_with fail
  (with_reducible refine (HTX.out _).mono ?_)
  rintro e w2 ⟨u, rfl, hrow, hw2⟩
  have z2 : w1.heap.size + 1 ≤ w2.heap.size := by have := hw2.size; simpa using this
  have hB2 : Below w.heap.size w w2 := (HB.out.alloc (by omega) _).trans (hw2.mono (by simp; omega))
  have h1 := (hw2.block (w.heap.size + 1) (by simp; omega)).trans (heap_old (by omega) H1.out)
  have hrow2 := ownsRow_rebase (base' := w.heap.size + 2) hrow (fun k e => by have := (hrow.lt k e).1; simp at this; omega)
  clear h0_0 h0_1 h0_2 h0_3 h0_l h1_0 h1_1 h1_f0 h1_f1 h1_l hw2 hrow
  have HB2 := Lib.hid hB2
  have HROW2 := Lib.hid hrow2
  clear hB2 hrow2
  have h1_0 := cv0 h1
  have h1_1 := cv1 h1
  have h1_f0 := free_heap h1 0
  have h1_f1 := free_heap h1 1
  have h1_l := lt_heap h1
  have H1 := Lib.hid h1
  clear h1
  go_wp2_with fail
  refine bodyPost_ret (v := .tuple #[u, .agg #[.int .i64 0, .int .i64 0]]) (by simp [results, Tryd.results14, go_sem, h1_0, h1_1, h1_l]) rfl ?_
  refine ⟨⟨u, rfl, fun h => absurd rfl h, fun _ => ?_⟩, below2 HB2.out (by omega)⟩
  have h9 := HROW2.out
  refine ownsRow_rebase (base := w.heap.size + 2) (rowGrownF h9 (fun k _ e => ?_)) (fun k e => by have := (h9.lt k e).1; omega)
  have := (h9.lt k e).1
  exact heap_far _ (by simp; omega) (heap_far _ (by simp; omega) rfl)
end

section
open Go Go.RowKit
set_option linter.unusedSimpArgs false
set_option linter.unusedVariables false

set_option maxRecDepth 1000000 in
theorem frame_ls {P : Act → Prop} (h : ∀ x0 x1 x2 x3 x4 x5 x6 x7 x8 x9 x10 x11 x12 x13 x14 x15 x16 x17 x18 x19 x20 x21 x22 x23 x24 x25 x26 x27 x28 x29 x30 x31 x32 x33 x34 x35 x36 x37 x38 x39 x40 x41 x42 x43 x44 x45 x46 x47 x48 x49 x50 x51 x52 x53 x54 x55 x56 x57 x58 x59 x60 x61 x62 x63 x64 x65 x66 x67 x68 x69 x70 x71 x72 x73 x74 x75 x76 x77 x78 x79 x80 x81 x82 x83 x84 x85 x86 x87 x88 x89 x90 x91 x92 x93 x94 x95 x96 x97 x98 x99 x100 x101 x102 x103 x104 x105 x106 x107 x108 x109 x110 x111 x112 x113 x114 x115 x116 x117 x118 x119 : Value, P ⟨(x0 :: x1 :: x2 :: x3 :: x4 :: x5 :: x6 :: x7 :: x8 :: x9 :: x10 :: x11 :: x12 :: x13 :: x14 :: x15 :: x16 :: x17 :: x18 :: x19 :: x20 :: x21 :: x22 :: x23 :: x24 :: x25 :: x26 :: x27 :: x28 :: x29 :: x30 :: x31 :: x32 :: x33 :: x34 :: x35 :: x36 :: x37 :: x38 :: x39 :: x40 :: x41 :: x42 :: x43 :: x44 :: x45 :: x46 :: x47 :: x48 :: x49 :: x50 :: x51 :: x52 :: x53 :: x54 :: x55 :: x56 :: x57 :: x58 :: x59 :: x60 :: x61 :: x62 :: x63 :: x64 :: x65 :: x66 :: x67 :: x68 :: x69 :: x70 :: x71 :: x72 :: x73 :: x74 :: x75 :: x76 :: x77 :: x78 :: x79 :: x80 :: x81 :: x82 :: x83 :: x84 :: x85 :: x86 :: x87 :: x88 :: x89 :: x90 :: x91 :: x92 :: x93 :: x94 :: x95 :: x96 :: x97 :: x98 :: x99 :: x100 :: x101 :: x102 :: x103 :: x104 :: x105 :: x106 :: x107 :: x108 :: x109 :: x110 :: x111 :: x112 :: x113 :: x114 :: x115 :: x116 :: x117 :: x118 :: x119 :: []).toArray, []⟩) : ∀ a : Act, a.tmps.toList.length = 120 → a.defers = [] → P a := by
  rintro ⟨⟨l⟩, d⟩ hs hd
  simp only at hd
  subst hd
  revert l
  show ∀ l : List Value, l.length = 120 → P ⟨⟨l⟩, []⟩
  refine openS (n := 119) (fun x0 => ?_)
  refine openS (n := 118) (fun x1 => ?_)
  refine openS (n := 117) (fun x2 => ?_)
  refine openS (n := 116) (fun x3 => ?_)
  refine openS (n := 115) (fun x4 => ?_)
  refine openS (n := 114) (fun x5 => ?_)
  refine openS (n := 113) (fun x6 => ?_)
  refine openS (n := 112) (fun x7 => ?_)
  refine openS (n := 111) (fun x8 => ?_)
  refine openS (n := 110) (fun x9 => ?_)
  refine openS (n := 109) (fun x10 => ?_)
  refine openS (n := 108) (fun x11 => ?_)
  refine openS (n := 107) (fun x12 => ?_)
  refine openS (n := 106) (fun x13 => ?_)
  refine openS (n := 105) (fun x14 => ?_)
  refine openS (n := 104) (fun x15 => ?_)
  refine openS (n := 103) (fun x16 => ?_)
  refine openS (n := 102) (fun x17 => ?_)
  refine openS (n := 101) (fun x18 => ?_)
  refine openS (n := 100) (fun x19 => ?_)
  refine openS (n := 99) (fun x20 => ?_)
  refine openS (n := 98) (fun x21 => ?_)
  refine openS (n := 97) (fun x22 => ?_)
  refine openS (n := 96) (fun x23 => ?_)
  refine openS (n := 95) (fun x24 => ?_)
  refine openS (n := 94) (fun x25 => ?_)
  refine openS (n := 93) (fun x26 => ?_)
  refine openS (n := 92) (fun x27 => ?_)
  refine openS (n := 91) (fun x28 => ?_)
  refine openS (n := 90) (fun x29 => ?_)
  refine openS (n := 89) (fun x30 => ?_)
  refine openS (n := 88) (fun x31 => ?_)
  refine openS (n := 87) (fun x32 => ?_)
  refine openS (n := 86) (fun x33 => ?_)
  refine openS (n := 85) (fun x34 => ?_)
  refine openS (n := 84) (fun x35 => ?_)
  refine openS (n := 83) (fun x36 => ?_)
  refine openS (n := 82) (fun x37 => ?_)
  refine openS (n := 81) (fun x38 => ?_)
  refine openS (n := 80) (fun x39 => ?_)
  refine openS (n := 79) (fun x40 => ?_)
  refine openS (n := 78) (fun x41 => ?_)
  refine openS (n := 77) (fun x42 => ?_)
  refine openS (n := 76) (fun x43 => ?_)
  refine openS (n := 75) (fun x44 => ?_)
  refine openS (n := 74) (fun x45 => ?_)
  refine openS (n := 73) (fun x46 => ?_)
  refine openS (n := 72) (fun x47 => ?_)
  refine openS (n := 71) (fun x48 => ?_)
  refine openS (n := 70) (fun x49 => ?_)
  refine openS (n := 69) (fun x50 => ?_)
  refine openS (n := 68) (fun x51 => ?_)
  refine openS (n := 67) (fun x52 => ?_)
  refine openS (n := 66) (fun x53 => ?_)
  refine openS (n := 65) (fun x54 => ?_)
  refine openS (n := 64) (fun x55 => ?_)
  refine openS (n := 63) (fun x56 => ?_)
  refine openS (n := 62) (fun x57 => ?_)
  refine openS (n := 61) (fun x58 => ?_)
  refine openS (n := 60) (fun x59 => ?_)
  refine openS (n := 59) (fun x60 => ?_)
  refine openS (n := 58) (fun x61 => ?_)
  refine openS (n := 57) (fun x62 => ?_)
  refine openS (n := 56) (fun x63 => ?_)
  refine openS (n := 55) (fun x64 => ?_)
  refine openS (n := 54) (fun x65 => ?_)
  refine openS (n := 53) (fun x66 => ?_)
  refine openS (n := 52) (fun x67 => ?_)
  refine openS (n := 51) (fun x68 => ?_)
  refine openS (n := 50) (fun x69 => ?_)
  refine openS (n := 49) (fun x70 => ?_)
  refine openS (n := 48) (fun x71 => ?_)
  refine openS (n := 47) (fun x72 => ?_)
  refine openS (n := 46) (fun x73 => ?_)
  refine openS (n := 45) (fun x74 => ?_)
  refine openS (n := 44) (fun x75 => ?_)
  refine openS (n := 43) (fun x76 => ?_)
  refine openS (n := 42) (fun x77 => ?_)
  refine openS (n := 41) (fun x78 => ?_)
  refine openS (n := 40) (fun x79 => ?_)
  refine openS (n := 39) (fun x80 => ?_)
  refine openS (n := 38) (fun x81 => ?_)
  refine openS (n := 37) (fun x82 => ?_)
  refine openS (n := 36) (fun x83 => ?_)
  refine openS (n := 35) (fun x84 => ?_)
  refine openS (n := 34) (fun x85 => ?_)
  refine openS (n := 33) (fun x86 => ?_)
  refine openS (n := 32) (fun x87 => ?_)
  refine openS (n := 31) (fun x88 => ?_)
  refine openS (n := 30) (fun x89 => ?_)
  refine openS (n := 29) (fun x90 => ?_)
  refine openS (n := 28) (fun x91 => ?_)
  refine openS (n := 27) (fun x92 => ?_)
  refine openS (n := 26) (fun x93 => ?_)
  refine openS (n := 25) (fun x94 => ?_)
  refine openS (n := 24) (fun x95 => ?_)
  refine openS (n := 23) (fun x96 => ?_)
  refine openS (n := 22) (fun x97 => ?_)
  refine openS (n := 21) (fun x98 => ?_)
  refine openS (n := 20) (fun x99 => ?_)
  refine openS (n := 19) (fun x100 => ?_)
  refine openS (n := 18) (fun x101 => ?_)
  refine openS (n := 17) (fun x102 => ?_)
  refine openS (n := 16) (fun x103 => ?_)
  refine openS (n := 15) (fun x104 => ?_)
  refine openS (n := 14) (fun x105 => ?_)
  refine openS (n := 13) (fun x106 => ?_)
  refine openS (n := 12) (fun x107 => ?_)
  refine openS (n := 11) (fun x108 => ?_)
  refine openS (n := 10) (fun x109 => ?_)
  refine openS (n := 9) (fun x110 => ?_)
  refine openS (n := 8) (fun x111 => ?_)
  refine openS (n := 7) (fun x112 => ?_)
  refine openS (n := 6) (fun x113 => ?_)
  refine openS (n := 5) (fun x114 => ?_)
  refine openS (n := 4) (fun x115 => ?_)
  refine openS (n := 3) (fun x116 => ?_)
  refine openS (n := 2) (fun x117 => ?_)
  refine openS (n := 1) (fun x118 => ?_)
  refine openS (n := 0) (fun x119 => ?_)
  refine open0 ?_
  exact h x0 x1 x2 x3 x4 x5 x6 x7 x8 x9 x10 x11 x12 x13 x14 x15 x16 x17 x18 x19 x20 x21 x22 x23 x24 x25 x26 x27 x28 x29 x30 x31 x32 x33 x34 x35 x36 x37 x38 x39 x40 x41 x42 x43 x44 x45 x46 x47 x48 x49 x50 x51 x52 x53 x54 x55 x56 x57 x58 x59 x60 x61 x62 x63 x64 x65 x66 x67 x68 x69 x70 x71 x72 x73 x74 x75 x76 x77 x78 x79 x80 x81 x82 x83 x84 x85 x86 x87 x88 x89 x90 x91 x92 x93 x94 x95 x96 x97 x98 x99 x100 x101 x102 x103 x104 x105 x106 x107 x108 x109 x110 x111 x112 x113 x114 x115 x116 x117 x118 x119
noncomputable def c_ls_r0 : Code := sub [0] (Tryd.f7.body.getD .skip)
set_option maxRecDepth 1000000 in
set_option maxHeartbeats 16000000 in
theorem ls_r0_wp {Q : Exit → Act → World → Prop} {t : Fm} {y z : ByteArray} {At Bt : Option Addr} {nt ct mt dt : Nat} {w : World} (hN : ∀ a' w', Frm 120 [(3, .pointer (some ⟨w.heap.size, 0, none⟩)), (1, .string y), (2, .string z)] a' → w'.heap[w.heap.size]? = some (.cells #[.int .i64 t.lab.kind, .string t.lab.nm, .slice At nt ct, .slice Bt mt dt] 25 (0, 0)) → w.heap.size < w'.heap.size → Below w.heap.size w w' → Q .normal a' w') : ∀ ac, Frm 120 [(0, .agg #[.int .i64 t.lab.kind, .string t.lab.nm, .slice At nt ct, .slice Bt mt dt]), (1, .string y), (2, .string z)] ac → Code.wp Tryd.prog c_ls_r0 Q ac w := by
  refine frm_open ?_
  refine frame_ls ?_
  intros
  rename_i hq
  obtain ⟨-, -, e0q, e1q, e2q, -⟩ := hq
  obtain rfl := sI e0q
  obtain rfl := sI e1q
  obtain rfl := sI e2q
  conv => arg 2; whnf
  have HN := Lib.hid hN
  clear hN
  go_wp2_with fail
  exact HN.out _ _ (id ⟨rfl, rfl, rfl, rfl, rfl, trivial⟩) (heap_at rfl) (by simp) (by go_grown)
noncomputable def c_ls_r1 : Code := sub [1, 0] (Tryd.f7.body.getD .skip)
set_option maxRecDepth 1000000 in
set_option maxHeartbeats 16000000 in
theorem ls_r1_wp {Q : Exit → Act → World → Prop} {y z : ByteArray} {gi : Nat} {w : World} (hN : ∀ A0 n0 c0 B0 m0 d0 g7 a' w', Frm 120 [(1, .string y), (2, .string z), (3, .pointer (some ⟨gi, 0, none⟩)), (7, .pointer (some ⟨g7, 0, none⟩))] a' → w'.heap[g7]? = some (.cells #[.int .i64 (fvB 8 (⟨#[120]⟩ : ByteArray)).fm.lab.kind, .string (fvB 8 (⟨#[120]⟩ : ByteArray)).fm.lab.nm, .slice A0 n0 c0, .slice B0 m0 d0] 25 (0, 0)) → fmRep.R w' (Lo w') ((fvB 8 (⟨#[120]⟩ : ByteArray)).fm) [.int .i64 (fvB 8 (⟨#[120]⟩ : ByteArray)).fm.lab.kind, .string (fvB 8 (⟨#[120]⟩ : ByteArray)).fm.lab.nm, .slice A0 n0 c0, .slice B0 m0 d0] → Below w.heap.size w w' → Q .normal a' w') : ∀ ac, Frm 120 [(1, .string y), (2, .string z), (3, .pointer (some ⟨gi, 0, none⟩))] ac → Code.wp Tryd.prog c_ls_r1 Q ac w := by
  refine frm_open ?_
  refine frame_ls ?_
  intros
  rename_i hq
  obtain ⟨-, -, e0q, e1q, e2q, -⟩ := hq
  obtain rfl := sI e0q
  obtain rfl := sI e1q
  obtain rfl := sI e2q
  conv => arg 2; whnf
  have hp := fun (W : World) (g : Nat) => pred_any bDog (.slice (some ⟨g, 0, none⟩) 1 1) W ⟨_, _, _, rfl⟩
  unfold bDog at hp
  have hbo := fun (W : World) (g : Nat) => bound_any 8 (⟨#[120]⟩ : ByteArray) 2 ⟨#[100, 111, 103]⟩ (some ⟨g, 0, none⟩) 1 1 none 0 0 W
  have HN := Lib.hid hN
  have HP := Lib.hid hp
  have HBO := Lib.hid hbo
  clear hN hp hbo
  go_wp2_with fail
  (with_reducible refine (HP.out _ _).mono ?_)
  rintro e w1 ⟨rfl, hb1⟩
  have hz1 := hb1.size
  have hg0 := (hb1.block w.heap.size (by simp)).trans (heap_alloc_new _ _)
  have hB1 : Below w.heap.size w w1 := (show Below w.heap.size w _ by go_grown).trans (hb1.mono (by simp))
  have HG0 := Lib.hid hg0
  have HB1 := Lib.hid hB1
  clear hb1 hg0 hB1
  go_wp2_with fail
  (with_reducible refine (HBO.out _ _).mono ?_)
  rintro e w2 ⟨g, rfl, hg, hgl, hb2⟩
  have hz1 := HB1.out.size
  have hg02 := (hb2.block w.heap.size (by have := lt_heap HG0.out; omega)).trans HG0.out
  have hrp : fmRep.R w2 (Lo w2) (fvB 8 (⟨#[120]⟩ : ByteArray)).fm [.int .i64 8, .string (⟨#[120]⟩ : ByteArray), .slice none 0 0, .slice (some ⟨g, 0, none⟩) 1 1] := fvB_rep (by decide +kernel) hg02 hg (by have := lt_heap hg02; exact this) (by have := lt_heap hg; exact this)
  have HRP := Lib.hid hrp
  have hB2 : Below w.heap.size w w2 := HB1.out.trans (hb2.mono hz1)
  have HB2 := Lib.hid hB2
  clear hg hgl hb2 hg02 hrp hB2
  go_wp2_with fail
  have hz2 := HB2.out.size
  exact HN.out _ _ _ _ _ _ w2.heap.size _ _ (id ⟨rfl, rfl, rfl, rfl, rfl, rfl, trivial⟩) (heap_alloc_new _ _) (fmRep.keep HRP.out (fun b hb => heap_old hb rfl) (fun b hb => show _ < _ from by have : b < w2.heap.size := hb; simp; omega)) (HB2.out.alloc hz2 _)
noncomputable def c_ls_r2 : Code := sub [1, 1, 0, 0] (Tryd.f7.body.getD .skip)
set_option maxRecDepth 1000000 in
set_option maxHeartbeats 16000000 in
theorem ls_r2_wp {Q : Exit → Act → World → Prop} {y z : ByteArray} {t : Fm} {At Bt : Option Addr} {nt ct mt dt : Nat} {gi g7 : Nat} {T1 : Fm} {c j : Int} {w : World} (hsrc : w.heap[g7]? = some (.cells #[.int .i64 t.lab.kind, .string t.lab.nm, .slice At nt ct, .slice Bt mt dt] 25 (0, 0))) (hc : Calls Tryd.prog 24 #[.agg #[.int .i64 t.lab.kind, .string t.lab.nm, .slice At nt ct, .slice Bt mt dt]] w fun e w' => ∃ es : List Value, e = .returned (.tuple #[.agg es.toArray, .agg #[.int .i64 c, .int .i64 j]]) ∧ fmRep.R w' (fun b => w.heap.size ≤ b ∧ b < w'.heap.size) (T1) es ∧ Below w.heap.size w w') (hN : ∀ A0 n0 c0 B0 m0 d0 gf ge a' w', Frm 120 [(1, .string y), (2, .string z), (3, .pointer (some ⟨gi, 0, none⟩)), (8, .pointer (some ⟨gf, 0, none⟩)), (9, .pointer (some ⟨ge, 0, none⟩))] a' → w'.heap[gf]? = some (.cells #[.int .i64 T1.lab.kind, .string T1.lab.nm, .slice A0 n0 c0, .slice B0 m0 d0] 25 (0, 0)) → w'.heap[ge]? = some (.cells #[.int .i64 c, .int .i64 j] 27 (0, 0)) → gf ≠ ge → fmRep.R w' (Lo w') (T1) [.int .i64 T1.lab.kind, .string T1.lab.nm, .slice A0 n0 c0, .slice B0 m0 d0] → Below w.heap.size w w' → Q .normal a' w') : ∀ ac, Frm 120 [(1, .string y), (2, .string z), (3, .pointer (some ⟨gi, 0, none⟩)), (7, .pointer (some ⟨g7, 0, none⟩))] ac → Code.wp Tryd.prog c_ls_r2 Q ac w := by
  refine frm_open ?_
  refine frame_ls ?_
  intros
  rename_i hq
  obtain ⟨-, -, e0q, e1q, e2q, e3q, -⟩ := hq
  obtain rfl := sI e0q
  obtain rfl := sI e1q
  obtain rfl := sI e2q
  obtain rfl := sI e3q
  conv => arg 2; whnf
  have s0 := cellv hsrc 0 rfl
  have s1 := cellv hsrc 1 rfl
  have s2 := cellv hsrc 2 rfl
  have s3 := cellv hsrc 3 rfl
  have sl := lt_heap hsrc
  clear hsrc
  have HN := Lib.hid hN
  have HC := Lib.hid hc
  clear hN hc
  go_wp2_with fail
  (with_reducible refine HC.out.mono ?_)
  rintro e w1 ⟨es, rfl, h1, hb1⟩
  obtain ⟨A0, n0, c0, B0, m0, d0, rfl, _, _, _, _⟩ := Fm.shape h1
  have H1 := Lib.hid h1
  have HB1 := Lib.hid hb1
  clear h1 hb1
  go_wp2_with fail
  have hz := HB1.out.size
  refine HN.out A0 n0 c0 B0 m0 d0 w1.heap.size (w1.heap.size + 1) _ _ (id ⟨rfl, rfl, rfl, rfl, rfl, rfl, rfl, trivial⟩) (heap_old (by simp) (heap_at rfl)) (heap_at (by simp)) (by omega) (fmRep.keep H1.out (fun b hb => heap_old (by have := hb.2; simp; omega) (heap_old hb.2 rfl)) (fun b hb => by have := hb.2; show b < _; simp; omega)) ((HB1.out.alloc (by omega) _).alloc (by simp; omega) _)
noncomputable def c_ls_r3 : Code := sub [1, 1, 0, 1, 0] (Tryd.f7.body.getD .skip)
set_option maxRecDepth 1000000 in
set_option maxHeartbeats 16000000 in
theorem ls_r3_wp {Q : Exit → Act → World → Prop} {y z : ByteArray} {gi g8 g9 : Nat} {A0 B0 : Option Addr} {n0 c0 m0 d0 : Nat} {w : World} (g0 : w.cell? ⟨0, 0, none⟩ = some (.int .i64 0)) (g1 : w.cell? ⟨0, 1, none⟩ = some (.int .i64 0)) (he : w.heap[g9]? = some (.cells #[.int .i64 0, .int .i64 0] 27 (0, 0))) (hg : w.heap[g8]? = some (.cells #[.int .i64 (fvB 8 (⟨#[118, 48]⟩ : ByteArray)).fm.lab.kind, .string (fvB 8 (⟨#[118, 48]⟩ : ByteArray)).fm.lab.nm, .slice A0 n0 c0, .slice B0 m0 d0] 25 (0, 0))) (hN : ∀ a', Frm 120 [(1, .string y), (2, .string z), (3, .pointer (some ⟨gi, 0, none⟩)), (35, .bool false)] a' → Q .normal a' w) : ∀ ac, Frm 120 [(1, .string y), (2, .string z), (3, .pointer (some ⟨gi, 0, none⟩)), (8, .pointer (some ⟨g8, 0, none⟩)), (9, .pointer (some ⟨g9, 0, none⟩))] ac → Code.wp Tryd.prog c_ls_r3 Q ac w := by
  refine frm_open ?_
  refine frame_ls ?_
  intros
  rename_i hq
  obtain ⟨-, -, e0q, e1q, e2q, e3q, e4q, -⟩ := hq
  obtain rfl := sI e0q
  obtain rfl := sI e1q
  obtain rfl := sI e2q
  obtain rfl := sI e3q
  obtain rfl := sI e4q
  conv => arg 2; whnf
  have e0 := cellv he 0 rfl
  have e1 := cellv he 1 rfl
  have el := lt_heap he
  have f1 : w.cell? ⟨g8, 1, none⟩ = some (.string (⟨#[118, 48]⟩ : ByteArray)) := cellv hg 1 rfl
  have fl := lt_heap hg
  have lg := World.block_lt_of_cell? w _ g0
  have t1 : ((⟨#[118, 48]⟩ : ByteArray).toList == (⟨#[118, 48]⟩ : ByteArray).toList) = true := beq_self_eq_true _
  clear he hg
  have HN := Lib.hid hN
  clear hN
  go_wp2_with fail
  exact HN.out _ (id ⟨rfl, rfl, rfl, rfl, rfl, rfl, trivial⟩)
noncomputable def c_ls_r5 : Code := sub [1, 1, 1, 0] (Tryd.f7.body.getD .skip)
set_option maxRecDepth 1000000 in
set_option maxHeartbeats 16000000 in
theorem ls_r5_wp {Q : Exit → Act → World → Prop} {y z : ByteArray} {t : Fm} {At Bt : Option Addr} {nt ct mt dt : Nat} {gi : Nat} {T1 : Fm} {c j : Int} {w : World} (hsrc : w.heap[gi]? = some (.cells #[.int .i64 t.lab.kind, .string t.lab.nm, .slice At nt ct, .slice Bt mt dt] 25 (0, 0))) (hc : Calls Tryd.prog 24 #[.agg #[.int .i64 t.lab.kind, .string t.lab.nm, .slice At nt ct, .slice Bt mt dt]] w fun e w' => ∃ es : List Value, e = .returned (.tuple #[.agg es.toArray, .agg #[.int .i64 c, .int .i64 j]]) ∧ fmRep.R w' (fun b => w.heap.size ≤ b ∧ b < w'.heap.size) (T1) es ∧ Below w.heap.size w w') (hN : ∀ A0 n0 c0 B0 m0 d0 gf ge a' w', Frm 120 [(1, .string y), (2, .string z), (3, .pointer (some ⟨gi, 0, none⟩)), (10, .pointer (some ⟨gf, 0, none⟩)), (11, .pointer (some ⟨ge, 0, none⟩))] a' → w'.heap[gf]? = some (.cells #[.int .i64 T1.lab.kind, .string T1.lab.nm, .slice A0 n0 c0, .slice B0 m0 d0] 25 (0, 0)) → w'.heap[ge]? = some (.cells #[.int .i64 c, .int .i64 j] 27 (0, 0)) → gf ≠ ge → fmRep.R w' (Lo w') (T1) [.int .i64 T1.lab.kind, .string T1.lab.nm, .slice A0 n0 c0, .slice B0 m0 d0] → Below w.heap.size w w' → Q .normal a' w') : ∀ ac, Frm 120 [(1, .string y), (2, .string z), (3, .pointer (some ⟨gi, 0, none⟩))] ac → Code.wp Tryd.prog c_ls_r5 Q ac w := by
  refine frm_open ?_
  refine frame_ls ?_
  intros
  rename_i hq
  obtain ⟨-, -, e0q, e1q, e2q, -⟩ := hq
  obtain rfl := sI e0q
  obtain rfl := sI e1q
  obtain rfl := sI e2q
  conv => arg 2; whnf
  have s0 := cellv hsrc 0 rfl
  have s1 := cellv hsrc 1 rfl
  have s2 := cellv hsrc 2 rfl
  have s3 := cellv hsrc 3 rfl
  have sl := lt_heap hsrc
  clear hsrc
  have HN := Lib.hid hN
  have HC := Lib.hid hc
  clear hN hc
  go_wp2_with fail
  (with_reducible refine HC.out.mono ?_)
  rintro e w1 ⟨es, rfl, h1, hb1⟩
  obtain ⟨A0, n0, c0, B0, m0, d0, rfl, _, _, _, _⟩ := Fm.shape h1
  have H1 := Lib.hid h1
  have HB1 := Lib.hid hb1
  clear h1 hb1
  go_wp2_with fail
  have hz := HB1.out.size
  refine HN.out A0 n0 c0 B0 m0 d0 w1.heap.size (w1.heap.size + 1) _ _ (id ⟨rfl, rfl, rfl, rfl, rfl, rfl, rfl, trivial⟩) (heap_old (by simp) (heap_at rfl)) (heap_at (by simp)) (by omega) (fmRep.keep H1.out (fun b hb => heap_old (by have := hb.2; simp; omega) (heap_old hb.2 rfl)) (fun b hb => by have := hb.2; show b < _; simp; omega)) ((HB1.out.alloc (by omega) _).alloc (by simp; omega) _)
noncomputable def c_ls_r6z : Code := sub [1, 1, 1, 1, 0, 0] (Tryd.f7.body.getD .skip)
set_option maxRecDepth 1000000 in
set_option maxHeartbeats 16000000 in
theorem ls_r6z_wp {Q : Exit → Act → World → Prop} {y z : ByteArray} {gi g10 g11 : Nat} {w : World} (g0 : w.cell? ⟨0, 0, none⟩ = some (.int .i64 0)) (g1 : w.cell? ⟨0, 1, none⟩ = some (.int .i64 0)) (he : w.heap[g11]? = some (.cells #[.int .i64 0, .int .i64 0] 27 (0, 0))) (hN : ∀ a', Frm 120 [(1, .string y), (2, .string z), (3, .pointer (some ⟨gi, 0, none⟩)), (10, .pointer (some ⟨g10, 0, none⟩)), (43, .bool false)] a' → Q .normal a' w) : ∀ ac, Frm 120 [(1, .string y), (2, .string z), (3, .pointer (some ⟨gi, 0, none⟩)), (10, .pointer (some ⟨g10, 0, none⟩)), (11, .pointer (some ⟨g11, 0, none⟩))] ac → Code.wp Tryd.prog c_ls_r6z Q ac w := by
  refine frm_open ?_
  refine frame_ls ?_
  intros
  rename_i hq
  obtain ⟨-, -, e0q, e1q, e2q, e3q, e4q, -⟩ := hq
  obtain rfl := sI e0q
  obtain rfl := sI e1q
  obtain rfl := sI e2q
  obtain rfl := sI e3q
  obtain rfl := sI e4q
  conv => arg 2; whnf
  have e0 := cellv he 0 rfl
  have e1 := cellv he 1 rfl
  have el := lt_heap he
  have lg := World.block_lt_of_cell? w _ g0
  clear he
  have HN := Lib.hid hN
  clear hN
  go_wp2_with fail
  exact HN.out _ (id ⟨rfl, rfl, rfl, rfl, rfl, rfl, rfl, trivial⟩)
noncomputable def c_ls_r6c : Code := sub [1, 1, 1, 1, 0, 0] (Tryd.f7.body.getD .skip)
set_option maxRecDepth 1000000 in
set_option maxHeartbeats 16000000 in
theorem ls_r6c_wp {Q : Exit → Act → World → Prop} {c j : Nat} {y z : ByteArray} {gi g10 g11 : Nat} {w : World} (g0 : w.cell? ⟨0, 0, none⟩ = some (.int .i64 0)) (g1 : w.cell? ⟨0, 1, none⟩ = some (.int .i64 0)) (hcz : c ≠ 0) (he : w.heap[g11]? = some (.cells #[.int .i64 (c : Nat), .int .i64 (j : Nat)] 27 (0, 0))) (hN : ∀ a', Frm 120 [(1, .string y), (2, .string z), (3, .pointer (some ⟨gi, 0, none⟩)), (10, .pointer (some ⟨g10, 0, none⟩)), (43, .bool true)] a' → Q .normal a' w) : ∀ ac, Frm 120 [(1, .string y), (2, .string z), (3, .pointer (some ⟨gi, 0, none⟩)), (10, .pointer (some ⟨g10, 0, none⟩)), (11, .pointer (some ⟨g11, 0, none⟩))] ac → Code.wp Tryd.prog c_ls_r6c Q ac w := by
  refine frm_open ?_
  refine frame_ls ?_
  intros
  rename_i hq
  obtain ⟨-, -, e0q, e1q, e2q, e3q, e4q, -⟩ := hq
  obtain rfl := sI e0q
  obtain rfl := sI e1q
  obtain rfl := sI e2q
  obtain rfl := sI e3q
  obtain rfl := sI e4q
  conv => arg 2; whnf
  have e0 := cellv he 0 rfl
  have e1 := cellv he 1 rfl
  have el := lt_heap he
  have lg := World.block_lt_of_cell? w _ g0
  clear he
  have t1 : ((c : Int) == 0) = false := beq_eq_false_iff_ne.2 (by omega)
  have HN := Lib.hid hN
  clear hN
  go_wp2_with fail
  exact HN.out _ (id ⟨rfl, rfl, rfl, rfl, rfl, rfl, rfl, trivial⟩)
noncomputable def c_ls_r7 : Code := sub [1, 1, 1, 1, 0, 1, 0, 0] (Tryd.f7.body.getD .skip)
set_option maxRecDepth 1000000 in
set_option maxHeartbeats 16000000 in
theorem ls_r7_wp {Q : Exit → Act → World → Prop} {y : ByteArray} {w : World} (hN : ∀ a', Frm 120 [(6, .bool true)] a' → Q .normal a' w) : ∀ ac, Frm 120 [(1, .string y)] ac → Code.wp Tryd.prog c_ls_r7 Q ac w := by
  refine frm_open ?_
  refine frame_ls ?_
  intros
  rename_i hq
  obtain ⟨-, -, e0q, -⟩ := hq
  obtain rfl := sI e0q
  conv => arg 2; whnf
  have HN := Lib.hid hN
  clear hN
  go_wp2_with fail
  exact HN.out _ (id ⟨rfl, rfl, rfl, trivial⟩)
noncomputable def c_ls_r14 : Code := sub [1, 1, 1, 1, 1, 1, 1, 1, 1, 0, 1, 0, 0] (Tryd.f7.body.getD .skip)
set_option maxRecDepth 1000000 in
set_option maxHeartbeats 16000000 in
theorem ls_r14_wp {Q : Exit → Act → World → Prop} {y : ByteArray} {w : World} (hN : ∀ a', Frm 120 [(6, .bool true)] a' → Q .normal a' w) : ∀ ac, Frm 120 [(1, .string y)] ac → Code.wp Tryd.prog c_ls_r14 Q ac w := by
  refine frm_open ?_
  refine frame_ls ?_
  intros
  rename_i hq
  obtain ⟨-, -, e0q, -⟩ := hq
  obtain rfl := sI e0q
  conv => arg 2; whnf
  have HN := Lib.hid hN
  clear hN
  go_wp2_with fail
  exact HN.out _ (id ⟨rfl, rfl, rfl, trivial⟩)
noncomputable def c_ls_yes : Code := sub [1, 1, 1, 1, 1, 1, 1, 1, 1, 0, 1, 0] (Tryd.f7.body.getD .skip)
set_option maxRecDepth 100000 in
set_option maxHeartbeats 4000000 in
theorem ls_yes_wp {Q : Exit → Act → World → Prop} {y : ByteArray} {w : World} (hR : ∀ a', Frm 120 [(6, .bool true)] a' → Q .ret a' w) : ∀ ac, Frm 120 [(1, .string y)] ac → Code.wp Tryd.prog c_ls_yes Q ac w := by
  intro a0 h0
  conv => arg 2; whnf
  refine wp_seq ?_
  refine ls_r14_wp (fun a1 h1 => ?_) a0 h0
  exact wp_ret (hR a1 h1)
noncomputable def c_ls_r8 : Code := sub [1, 1, 1, 1, 1, 0] (Tryd.f7.body.getD .skip)
set_option maxRecDepth 1000000 in
set_option maxHeartbeats 16000000 in
theorem ls_r8_wp {Q : Exit → Act → World → Prop} {y z : ByteArray} {t : Fm} {At Bt : Option Addr} {nt ct mt dt : Nat} {gi g10 : Nat} {T1 : Fm} {c j : Int} {w : World} (hsrc : w.heap[g10]? = some (.cells #[.int .i64 t.lab.kind, .string t.lab.nm, .slice At nt ct, .slice Bt mt dt] 25 (0, 0))) (hc : Calls Tryd.prog 24 #[.agg #[.int .i64 t.lab.kind, .string t.lab.nm, .slice At nt ct, .slice Bt mt dt]] w fun e w' => ∃ es : List Value, e = .returned (.tuple #[.agg es.toArray, .agg #[.int .i64 c, .int .i64 j]]) ∧ fmRep.R w' (fun b => w.heap.size ≤ b ∧ b < w'.heap.size) (T1) es ∧ Below w.heap.size w w') (hN : ∀ A0 n0 c0 B0 m0 d0 gf ge a' w', Frm 120 [(1, .string y), (2, .string z), (3, .pointer (some ⟨gi, 0, none⟩)), (10, .pointer (some ⟨g10, 0, none⟩)), (12, .pointer (some ⟨gf, 0, none⟩)), (13, .pointer (some ⟨ge, 0, none⟩))] a' → w'.heap[gf]? = some (.cells #[.int .i64 T1.lab.kind, .string T1.lab.nm, .slice A0 n0 c0, .slice B0 m0 d0] 25 (0, 0)) → w'.heap[ge]? = some (.cells #[.int .i64 c, .int .i64 j] 27 (0, 0)) → gf ≠ ge → fmRep.R w' (Lo w') (T1) [.int .i64 T1.lab.kind, .string T1.lab.nm, .slice A0 n0 c0, .slice B0 m0 d0] → Below w.heap.size w w' → Q .normal a' w') : ∀ ac, Frm 120 [(1, .string y), (2, .string z), (3, .pointer (some ⟨gi, 0, none⟩)), (10, .pointer (some ⟨g10, 0, none⟩))] ac → Code.wp Tryd.prog c_ls_r8 Q ac w := by
  refine frm_open ?_
  refine frame_ls ?_
  intros
  rename_i hq
  obtain ⟨-, -, e0q, e1q, e2q, e3q, -⟩ := hq
  obtain rfl := sI e0q
  obtain rfl := sI e1q
  obtain rfl := sI e2q
  obtain rfl := sI e3q
  conv => arg 2; whnf
  have s0 := cellv hsrc 0 rfl
  have s1 := cellv hsrc 1 rfl
  have s2 := cellv hsrc 2 rfl
  have s3 := cellv hsrc 3 rfl
  have sl := lt_heap hsrc
  clear hsrc
  have HN := Lib.hid hN
  have HC := Lib.hid hc
  clear hN hc
  go_wp2_with fail
  (with_reducible refine HC.out.mono ?_)
  rintro e w1 ⟨es, rfl, h1, hb1⟩
  obtain ⟨A0, n0, c0, B0, m0, d0, rfl, _, _, _, _⟩ := Fm.shape h1
  have H1 := Lib.hid h1
  have HB1 := Lib.hid hb1
  clear h1 hb1
  go_wp2_with fail
  have hz := HB1.out.size
  refine HN.out A0 n0 c0 B0 m0 d0 w1.heap.size (w1.heap.size + 1) _ _ (id ⟨rfl, rfl, rfl, rfl, rfl, rfl, rfl, rfl, trivial⟩) (heap_old (by simp) (heap_at rfl)) (heap_at (by simp)) (by omega) (fmRep.keep H1.out (fun b hb => heap_old (by have := hb.2; simp; omega) (heap_old hb.2 rfl)) (fun b hb => by have := hb.2; show b < _; simp; omega)) ((HB1.out.alloc (by omega) _).alloc (by simp; omega) _)
noncomputable def c_ls_r9 : Code := sub [1, 1, 1, 1, 1, 1, 0] (Tryd.f7.body.getD .skip)
set_option maxRecDepth 1000000 in
set_option maxHeartbeats 16000000 in
theorem ls_r9_wp {Q : Exit → Act → World → Prop} {y z : ByteArray} {t : Fm} {At Bt : Option Addr} {nt ct mt dt : Nat} {gi g10 g12 g13 : Nat} {w : World} {PP : Value → World → Prop} (hsrc : w.heap[gi]? = some (.cells #[.int .i64 t.lab.kind, .string t.lab.nm, .slice At nt ct, .slice Bt mt dt] 25 (0, 0))) (hc : Calls Tryd.prog 14 #[.agg #[.int .i64 t.lab.kind, .string t.lab.nm, .slice At nt ct, .slice Bt mt dt]] w fun e w' => (∃ u, e = .returned (.tuple #[u, .agg #[.int .i64 0, .int .i64 0]]) ∧ PP u w') ∧ Below w.heap.size w w') (hN : ∀ (u : Value) (w1 : World) ge a' w', Frm 120 [(1, .string y), (2, .string z), (3, .pointer (some ⟨gi, 0, none⟩)), (10, .pointer (some ⟨g10, 0, none⟩)), (12, .pointer (some ⟨g12, 0, none⟩)), (13, .pointer (some ⟨g13, 0, none⟩)), (14, u), (15, .pointer (some ⟨ge, 0, none⟩))] a' → PP u w1 → Below w.heap.size w w1 → Below w1.heap.size w1 w' → w'.heap[ge]? = some (.cells #[.int .i64 0, .int .i64 0] 27 (0, 0)) → Below w.heap.size w w' → Q .normal a' w') : ∀ ac, Frm 120 [(1, .string y), (2, .string z), (3, .pointer (some ⟨gi, 0, none⟩)), (10, .pointer (some ⟨g10, 0, none⟩)), (12, .pointer (some ⟨g12, 0, none⟩)), (13, .pointer (some ⟨g13, 0, none⟩))] ac → Code.wp Tryd.prog c_ls_r9 Q ac w := by
  refine frm_open ?_
  refine frame_ls ?_
  intros
  rename_i hq
  obtain ⟨-, -, e0q, e1q, e2q, e3q, e4q, e5q, -⟩ := hq
  obtain rfl := sI e0q
  obtain rfl := sI e1q
  obtain rfl := sI e2q
  obtain rfl := sI e3q
  obtain rfl := sI e4q
  obtain rfl := sI e5q
  conv => arg 2; whnf
  have s0 := cellv hsrc 0 rfl
  have s1 := cellv hsrc 1 rfl
  have s2 := cellv hsrc 2 rfl
  have s3 := cellv hsrc 3 rfl
  have sl := lt_heap hsrc
  clear hsrc
  have HN := Lib.hid hN
  have HC := Lib.hid hc
  clear hN hc
  go_wp2_with fail
  (with_reducible refine HC.out.mono ?_)
  rintro e w1 ⟨⟨u, rfl, hp⟩, hb1⟩
  have HP := Lib.hid hp
  have HB1 := Lib.hid hb1
  clear hb1 hp
  go_wp2_with fail
  have hz := HB1.out.size
  exact HN.out u w1 w1.heap.size _ _ (id ⟨rfl, rfl, rfl, rfl, rfl, rfl, rfl, rfl, rfl, rfl, trivial⟩) HP.out HB1.out ((Below.refl _ _).alloc (Nat.le_refl _) _) (heap_at rfl) (HB1.out.alloc hz _)
noncomputable def c_ls_r10 : Code := sub [1, 1, 1, 1, 1, 1, 1, 0] (Tryd.f7.body.getD .skip)
set_option maxRecDepth 1000000 in
set_option maxHeartbeats 16000000 in
theorem ls_r10_wp {Q : Exit → Act → World → Prop} {y z : ByteArray} {t : Fm} {At Bt : Option Addr} {nt ct mt dt : Nat} {gi g10 g12 g13 g15 : Nat} {ua : Value} {w : World} {PP : Value → World → Prop} (hsrc : w.heap[g10]? = some (.cells #[.int .i64 t.lab.kind, .string t.lab.nm, .slice At nt ct, .slice Bt mt dt] 25 (0, 0))) (hc : Calls Tryd.prog 14 #[.agg #[.int .i64 t.lab.kind, .string t.lab.nm, .slice At nt ct, .slice Bt mt dt]] w fun e w' => (∃ u, e = .returned (.tuple #[u, .agg #[.int .i64 0, .int .i64 0]]) ∧ PP u w') ∧ Below w.heap.size w w') (hN : ∀ (u : Value) (w1 : World) ge a' w', Frm 120 [(1, .string y), (2, .string z), (3, .pointer (some ⟨gi, 0, none⟩)), (10, .pointer (some ⟨g10, 0, none⟩)), (12, .pointer (some ⟨g12, 0, none⟩)), (13, .pointer (some ⟨g13, 0, none⟩)), (14, ua), (15, .pointer (some ⟨g15, 0, none⟩)), (16, u), (17, .pointer (some ⟨ge, 0, none⟩))] a' → PP u w1 → Below w.heap.size w w1 → Below w1.heap.size w1 w' → w'.heap[ge]? = some (.cells #[.int .i64 0, .int .i64 0] 27 (0, 0)) → Below w.heap.size w w' → Q .normal a' w') : ∀ ac, Frm 120 [(1, .string y), (2, .string z), (3, .pointer (some ⟨gi, 0, none⟩)), (10, .pointer (some ⟨g10, 0, none⟩)), (12, .pointer (some ⟨g12, 0, none⟩)), (13, .pointer (some ⟨g13, 0, none⟩)), (14, ua), (15, .pointer (some ⟨g15, 0, none⟩))] ac → Code.wp Tryd.prog c_ls_r10 Q ac w := by
  refine frm_open ?_
  refine frame_ls ?_
  intros
  rename_i hq
  obtain ⟨-, -, e0q, e1q, e2q, e3q, e4q, e5q, e6q, e7q, -⟩ := hq
  obtain rfl := sI e0q
  obtain rfl := sI e1q
  obtain rfl := sI e2q
  obtain rfl := sI e3q
  obtain rfl := sI e4q
  obtain rfl := sI e5q
  obtain rfl := sI e6q
  obtain rfl := sI e7q
  conv => arg 2; whnf
  have s0 := cellv hsrc 0 rfl
  have s1 := cellv hsrc 1 rfl
  have s2 := cellv hsrc 2 rfl
  have s3 := cellv hsrc 3 rfl
  have sl := lt_heap hsrc
  clear hsrc
  have HN := Lib.hid hN
  have HC := Lib.hid hc
  clear hN hc
  go_wp2_with fail
  (with_reducible refine HC.out.mono ?_)
  rintro e w1 ⟨⟨u, rfl, hp⟩, hb1⟩
  have HP := Lib.hid hp
  have HB1 := Lib.hid hb1
  clear hb1 hp
  go_wp2_with fail
  have hz := HB1.out.size
  exact HN.out u w1 w1.heap.size _ _ (id ⟨rfl, rfl, rfl, rfl, rfl, rfl, rfl, rfl, rfl, rfl, rfl, rfl, trivial⟩) HP.out HB1.out ((Below.refl _ _).alloc (Nat.le_refl _) _) (heap_at rfl) (HB1.out.alloc hz _)
noncomputable def c_ls_r11 : Code := sub [1, 1, 1, 1, 1, 1, 1, 1, 0, 0] (Tryd.f7.body.getD .skip)
set_option maxRecDepth 1000000 in
set_option maxHeartbeats 16000000 in
theorem ls_r11_wp {Q : Exit → Act → World → Prop} {y z : ByteArray} {T1 : Fm} {A0 B0 : Option Addr} {n0 c0 m0 d0 : Nat} {A1 B1 : Option Addr} {n1 c1 m1 d1 : Nat} {gi g10 g12 g13 g15 g17 : Nat} {ua ub : Value} {w : World} (g0 : w.cell? ⟨0, 0, none⟩ = some (.int .i64 0)) (g1 : w.cell? ⟨0, 1, none⟩ = some (.int .i64 0)) (he13 : w.heap[g13]? = some (.cells #[.int .i64 0, .int .i64 0] 27 (0, 0))) (he15 : w.heap[g15]? = some (.cells #[.int .i64 0, .int .i64 0] 27 (0, 0))) (he17 : w.heap[g17]? = some (.cells #[.int .i64 0, .int .i64 0] 27 (0, 0))) (hg : w.heap[g10]? = some (.cells #[.int .i64 T1.lab.kind, .string T1.lab.nm, .slice A0 n0 c0, .slice B0 m0 d0] 25 (0, 0))) (hh : w.heap[g12]? = some (.cells #[.int .i64 T1.lab.kind, .string T1.lab.nm, .slice A1 n1 c1, .slice B1 m1 d1] 25 (0, 0))) (hq : Calls Tryd.prog 26 #[.agg #[.int .i64 T1.lab.kind, .string T1.lab.nm, .slice A0 n0 c0, .slice B0 m0 d0], .agg #[.int .i64 T1.lab.kind, .string T1.lab.nm, .slice A1 n1 c1, .slice B1 m1 d1]] w fun e w' => e = .returned (.bool true) ∧ Below w.heap.size w w') (hu : ∀ W, Below w.heap.size w W → Calls Tryd.prog 17 #[ua, ub] W fun e w' => e = .returned (.bool true) ∧ Below W.heap.size W w') (hN : ∀ a' w', Frm 120 [(1, .string y), (2, .string z), (3, .pointer (some ⟨gi, 0, none⟩)), (10, .pointer (some ⟨g10, 0, none⟩)), (14, ua), (83, .bool false)] a' → Below w.heap.size w w' → Q .normal a' w') : ∀ ac, Frm 120 [(1, .string y), (2, .string z), (3, .pointer (some ⟨gi, 0, none⟩)), (10, .pointer (some ⟨g10, 0, none⟩)), (12, .pointer (some ⟨g12, 0, none⟩)), (13, .pointer (some ⟨g13, 0, none⟩)), (14, ua), (15, .pointer (some ⟨g15, 0, none⟩)), (16, ub), (17, .pointer (some ⟨g17, 0, none⟩))] ac → Code.wp Tryd.prog c_ls_r11 Q ac w := by
  refine frm_open ?_
  refine frame_ls ?_
  intros
  rename_i hq
  obtain ⟨-, -, e0q, e1q, e2q, e3q, e4q, e5q, e6q, e7q, e8q, e9q, -⟩ := hq
  obtain rfl := sI e0q
  obtain rfl := sI e1q
  obtain rfl := sI e2q
  obtain rfl := sI e3q
  obtain rfl := sI e4q
  obtain rfl := sI e5q
  obtain rfl := sI e6q
  obtain rfl := sI e7q
  obtain rfl := sI e8q
  obtain rfl := sI e9q
  conv => arg 2; whnf
  have e0 := cellv he13 0 rfl
  have e1 := cellv he13 1 rfl
  have el := lt_heap he13
  have f0 := cellv he15 0 rfl
  have f1 := cellv he15 1 rfl
  have fl := lt_heap he15
  have h0 := cellv he17 0 rfl
  have h1 := cellv he17 1 rfl
  have hl := lt_heap he17
  have s0 := cellv hg 0 rfl
  have s1 := cellv hg 1 rfl
  have s2 := cellv hg 2 rfl
  have s3 := cellv hg 3 rfl
  have sl := lt_heap hg
  have r0 := cellv hh 0 rfl
  have r1 := cellv hh 1 rfl
  have r2 := cellv hh 2 rfl
  have r3 := cellv hh 3 rfl
  have rl := lt_heap hh
  have lg := World.block_lt_of_cell? w _ g0
  have HQ := Lib.hid hq
  have HU := Lib.hid hu
  clear he13 he15 he17 hg hh hq hu
  have HN := Lib.hid hN
  clear hN
  go_wp2_with fail
  (with_reducible refine HQ.out.mono ?_)
  rintro e w1 ⟨rfl, hb1⟩
  have hu1 := HU.out w1 hb1
  have HU1 := Lib.hid hu1
  have HB1 := Lib.hid hb1
  clear hb1 hu1
  go_wp2_with fail
  (with_reducible refine HU1.out.mono ?_)
  rintro e w2 ⟨rfl, hb2⟩
  have HB2 := Lib.hid (HB1.out.trans (hb2.mono HB1.out.size))
  clear hb2
  go_wp2_with fail
  exact HN.out _ _ (id ⟨rfl, rfl, rfl, rfl, rfl, rfl, rfl, rfl, trivial⟩) HB2.out
noncomputable def c_ls_r13a : Code := sub [1, 1, 1, 1, 1, 1, 1, 1, 1, 0, 0] (Tryd.f7.body.getD .skip)
set_option maxRecDepth 1000000 in
set_option maxHeartbeats 16000000 in
theorem ls_r13a_wp {Q : Exit → Act → World → Prop} {y z : ByteArray} {t : Fm} {At Bt : Option Addr} {nt ct mt dt : Nat} {gi g10 : Nat} {ua : Value} {w : World} (hgi : w.heap[gi]? = some (.cells #[.int .i64 t.lab.kind, .string t.lab.nm, .slice At nt ct, .slice Bt mt dt] 25 (0, 0))) (h1 : Calls Tryd.prog 28 #[.string y] w fun e w' => e = .returned (.bool false) ∧ w' = w) (hN : ∀ a' w', Frm 120 [(1, .string y), (2, .string z), (3, .pointer (some ⟨gi, 0, none⟩)), (10, .pointer (some ⟨g10, 0, none⟩)), (14, ua), (101, .bool true)] a' → Below w.heap.size w w' → Q .normal a' w') : ∀ ac, Frm 120 [(1, .string y), (2, .string z), (3, .pointer (some ⟨gi, 0, none⟩)), (10, .pointer (some ⟨g10, 0, none⟩)), (14, ua)] ac → Code.wp Tryd.prog c_ls_r13a Q ac w := by
  refine frm_open ?_
  refine frame_ls ?_
  intros
  rename_i hq
  obtain ⟨-, -, e0q, e1q, e2q, e3q, e4q, -⟩ := hq
  obtain rfl := sI e0q
  obtain rfl := sI e1q
  obtain rfl := sI e2q
  obtain rfl := sI e3q
  obtain rfl := sI e4q
  conv => arg 2; whnf
  have i0 := cellv hgi 0 rfl
  have i1 := cellv hgi 1 rfl
  have i2 := cellv hgi 2 rfl
  have i3 := cellv hgi 3 rfl
  have il := lt_heap hgi
  clear hgi
  have HN := Lib.hid hN
  have H1 := Lib.hid h1
  clear hN h1
  go_wp2_with fail
  (with_reducible refine H1.out.mono ?_)
  rintro e w1 ⟨rfl, rfl⟩
  go_wp2_with fail
  exact HN.out _ _ (id ⟨rfl, rfl, rfl, rfl, rfl, rfl, rfl, rfl, trivial⟩) (Below.refl _ _)
noncomputable def c_ls_r13b : Code := sub [1, 1, 1, 1, 1, 1, 1, 1, 1, 0, 0] (Tryd.f7.body.getD .skip)
set_option maxRecDepth 1000000 in
set_option maxHeartbeats 16000000 in
theorem ls_r13b_wp {Q : Exit → Act → World → Prop} {y z : ByteArray} {t : Fm} {At Bt : Option Addr} {nt ct mt dt : Nat} {gi g10 : Nat} {ua : Value} {w : World} (hgi : w.heap[gi]? = some (.cells #[.int .i64 t.lab.kind, .string t.lab.nm, .slice At nt ct, .slice Bt mt dt] 25 (0, 0))) (h1 : Calls Tryd.prog 28 #[.string y] w fun e w' => e = .returned (.bool true) ∧ w' = w) (h2 : Calls Tryd.prog 28 #[.string z] w fun e w' => e = .returned (.bool false) ∧ w' = w) (hN : ∀ a' w', Frm 120 [(1, .string y), (2, .string z), (3, .pointer (some ⟨gi, 0, none⟩)), (10, .pointer (some ⟨g10, 0, none⟩)), (14, ua), (101, .bool true)] a' → Below w.heap.size w w' → Q .normal a' w') : ∀ ac, Frm 120 [(1, .string y), (2, .string z), (3, .pointer (some ⟨gi, 0, none⟩)), (10, .pointer (some ⟨g10, 0, none⟩)), (14, ua)] ac → Code.wp Tryd.prog c_ls_r13b Q ac w := by
  refine frm_open ?_
  refine frame_ls ?_
  intros
  rename_i hq
  obtain ⟨-, -, e0q, e1q, e2q, e3q, e4q, -⟩ := hq
  obtain rfl := sI e0q
  obtain rfl := sI e1q
  obtain rfl := sI e2q
  obtain rfl := sI e3q
  obtain rfl := sI e4q
  conv => arg 2; whnf
  have i0 := cellv hgi 0 rfl
  have i1 := cellv hgi 1 rfl
  have i2 := cellv hgi 2 rfl
  have i3 := cellv hgi 3 rfl
  have il := lt_heap hgi
  clear hgi
  have HN := Lib.hid hN
  have H1 := Lib.hid h1
  have H2 := Lib.hid h2
  clear hN h1 h2
  go_wp2_with fail
  (with_reducible refine H1.out.mono ?_)
  rintro e w1 ⟨rfl, rfl⟩
  go_wp2_with fail
  (with_reducible refine H2.out.mono ?_)
  rintro e w2 ⟨rfl, rfl⟩
  go_wp2_with fail
  exact HN.out _ _ (id ⟨rfl, rfl, rfl, rfl, rfl, rfl, rfl, rfl, trivial⟩) (Below.refl _ _)
noncomputable def c_ls_r13c : Code := sub [1, 1, 1, 1, 1, 1, 1, 1, 1, 0, 0] (Tryd.f7.body.getD .skip)
set_option maxRecDepth 1000000 in
set_option maxHeartbeats 16000000 in
theorem ls_r13c_wp {Q : Exit → Act → World → Prop} {y z : ByteArray} {t : Fm} {At Bt : Option Addr} {nt ct mt dt : Nat} {gi g10 : Nat} {ua : Value} {w : World} (hgi : w.heap[gi]? = some (.cells #[.int .i64 t.lab.kind, .string t.lab.nm, .slice At nt ct, .slice Bt mt dt] 25 (0, 0))) (h1 : Calls Tryd.prog 28 #[.string y] w fun e w' => e = .returned (.bool true) ∧ w' = w) (h2 : Calls Tryd.prog 28 #[.string z] w fun e w' => e = .returned (.bool true) ∧ w' = w) (h3 : Calls Tryd.prog 29 #[ua, .string y] w fun e w' => e = .returned (.bool true) ∧ w' = w) (hN : ∀ a' w', Frm 120 [(1, .string y), (2, .string z), (3, .pointer (some ⟨gi, 0, none⟩)), (10, .pointer (some ⟨g10, 0, none⟩)), (14, ua), (101, .bool true)] a' → Below w.heap.size w w' → Q .normal a' w') : ∀ ac, Frm 120 [(1, .string y), (2, .string z), (3, .pointer (some ⟨gi, 0, none⟩)), (10, .pointer (some ⟨g10, 0, none⟩)), (14, ua)] ac → Code.wp Tryd.prog c_ls_r13c Q ac w := by
  refine frm_open ?_
  refine frame_ls ?_
  intros
  rename_i hq
  obtain ⟨-, -, e0q, e1q, e2q, e3q, e4q, -⟩ := hq
  obtain rfl := sI e0q
  obtain rfl := sI e1q
  obtain rfl := sI e2q
  obtain rfl := sI e3q
  obtain rfl := sI e4q
  conv => arg 2; whnf
  have i0 := cellv hgi 0 rfl
  have i1 := cellv hgi 1 rfl
  have i2 := cellv hgi 2 rfl
  have i3 := cellv hgi 3 rfl
  have il := lt_heap hgi
  clear hgi
  have HN := Lib.hid hN
  have H1 := Lib.hid h1
  have H2 := Lib.hid h2
  have H3 := Lib.hid h3
  clear hN h1 h2 h3
  go_wp2_with fail
  (with_reducible refine H1.out.mono ?_)
  rintro e w1 ⟨rfl, rfl⟩
  go_wp2_with fail
  (with_reducible refine H2.out.mono ?_)
  rintro e w2 ⟨rfl, rfl⟩
  go_wp2_with fail
  (with_reducible refine H3.out.mono ?_)
  rintro e w3 ⟨rfl, rfl⟩
  go_wp2_with fail
  exact HN.out _ _ (id ⟨rfl, rfl, rfl, rfl, rfl, rfl, rfl, rfl, trivial⟩) (Below.refl _ _)
noncomputable def c_ls_r13d : Code := sub [1, 1, 1, 1, 1, 1, 1, 1, 1, 0, 0] (Tryd.f7.body.getD .skip)
set_option maxRecDepth 1000000 in
set_option maxHeartbeats 16000000 in
theorem ls_r13d_wp {Q : Exit → Act → World → Prop} {y z : ByteArray} {t : Fm} {At Bt : Option Addr} {nt ct mt dt : Nat} {gi g10 : Nat} {ua : Value} {w : World} (hgi : w.heap[gi]? = some (.cells #[.int .i64 t.lab.kind, .string t.lab.nm, .slice At nt ct, .slice Bt mt dt] 25 (0, 0))) (h1 : Calls Tryd.prog 28 #[.string y] w fun e w' => e = .returned (.bool true) ∧ w' = w) (h2 : Calls Tryd.prog 28 #[.string z] w fun e w' => e = .returned (.bool true) ∧ w' = w) (h3 : Calls Tryd.prog 29 #[ua, .string y] w fun e w' => e = .returned (.bool false) ∧ w' = w) (h4 : Calls Tryd.prog 30 #[.agg #[.int .i64 t.lab.kind, .string t.lab.nm, .slice At nt ct, .slice Bt mt dt], .string z] w fun e w' => e = .returned (.bool true) ∧ Below w.heap.size w w') (hN : ∀ a' w', Frm 120 [(1, .string y), (2, .string z), (3, .pointer (some ⟨gi, 0, none⟩)), (10, .pointer (some ⟨g10, 0, none⟩)), (14, ua), (101, .bool true)] a' → Below w.heap.size w w' → Q .normal a' w') : ∀ ac, Frm 120 [(1, .string y), (2, .string z), (3, .pointer (some ⟨gi, 0, none⟩)), (10, .pointer (some ⟨g10, 0, none⟩)), (14, ua)] ac → Code.wp Tryd.prog c_ls_r13d Q ac w := by
  refine frm_open ?_
  refine frame_ls ?_
  intros
  rename_i hq
  obtain ⟨-, -, e0q, e1q, e2q, e3q, e4q, -⟩ := hq
  obtain rfl := sI e0q
  obtain rfl := sI e1q
  obtain rfl := sI e2q
  obtain rfl := sI e3q
  obtain rfl := sI e4q
  conv => arg 2; whnf
  have i0 := cellv hgi 0 rfl
  have i1 := cellv hgi 1 rfl
  have i2 := cellv hgi 2 rfl
  have i3 := cellv hgi 3 rfl
  have il := lt_heap hgi
  clear hgi
  have HN := Lib.hid hN
  have H1 := Lib.hid h1
  have H2 := Lib.hid h2
  have H3 := Lib.hid h3
  have H4 := Lib.hid h4
  clear hN h1 h2 h3 h4
  go_wp2_with fail
  (with_reducible refine H1.out.mono ?_)
  rintro e w1 ⟨rfl, rfl⟩
  go_wp2_with fail
  (with_reducible refine H2.out.mono ?_)
  rintro e w2 ⟨rfl, rfl⟩
  go_wp2_with fail
  (with_reducible refine H3.out.mono ?_)
  rintro e w3 ⟨rfl, rfl⟩
  go_wp2_with fail
  (with_reducible refine H4.out.mono ?_)
  rintro e w4 ⟨rfl, hb4⟩
  have HB4 := Lib.hid hb4
  clear hb4
  go_wp2_with fail
  exact HN.out _ _ (id ⟨rfl, rfl, rfl, rfl, rfl, rfl, rfl, rfl, trivial⟩) HB4.out
noncomputable def c_ls_r13e : Code := sub [1, 1, 1, 1, 1, 1, 1, 1, 1, 0, 0] (Tryd.f7.body.getD .skip)
set_option maxRecDepth 1000000 in
set_option maxHeartbeats 16000000 in
theorem ls_r13e_wp {Q : Exit → Act → World → Prop} {y z : ByteArray} {t : Fm} {At Bt : Option Addr} {nt ct mt dt : Nat} {gi g10 : Nat} {ua : Value} {w : World} (hgi : w.heap[gi]? = some (.cells #[.int .i64 t.lab.kind, .string t.lab.nm, .slice At nt ct, .slice Bt mt dt] 25 (0, 0))) (h1 : Calls Tryd.prog 28 #[.string y] w fun e w' => e = .returned (.bool true) ∧ w' = w) (h2 : Calls Tryd.prog 28 #[.string z] w fun e w' => e = .returned (.bool true) ∧ w' = w) (h3 : Calls Tryd.prog 29 #[ua, .string y] w fun e w' => e = .returned (.bool false) ∧ w' = w) (h4 : Calls Tryd.prog 30 #[.agg #[.int .i64 t.lab.kind, .string t.lab.nm, .slice At nt ct, .slice Bt mt dt], .string z] w fun e w' => e = .returned (.bool false) ∧ Below w.heap.size w w') (hN : ∀ a' w', Frm 120 [(1, .string y), (2, .string z), (3, .pointer (some ⟨gi, 0, none⟩)), (10, .pointer (some ⟨g10, 0, none⟩)), (14, ua), (101, .bool false)] a' → Below w.heap.size w w' → Q .normal a' w') : ∀ ac, Frm 120 [(1, .string y), (2, .string z), (3, .pointer (some ⟨gi, 0, none⟩)), (10, .pointer (some ⟨g10, 0, none⟩)), (14, ua)] ac → Code.wp Tryd.prog c_ls_r13e Q ac w := by
  refine frm_open ?_
  refine frame_ls ?_
  intros
  rename_i hq
  obtain ⟨-, -, e0q, e1q, e2q, e3q, e4q, -⟩ := hq
  obtain rfl := sI e0q
  obtain rfl := sI e1q
  obtain rfl := sI e2q
  obtain rfl := sI e3q
  obtain rfl := sI e4q
  conv => arg 2; whnf
  have i0 := cellv hgi 0 rfl
  have i1 := cellv hgi 1 rfl
  have i2 := cellv hgi 2 rfl
  have i3 := cellv hgi 3 rfl
  have il := lt_heap hgi
  clear hgi
  have HN := Lib.hid hN
  have H1 := Lib.hid h1
  have H2 := Lib.hid h2
  have H3 := Lib.hid h3
  have H4 := Lib.hid h4
  clear hN h1 h2 h3 h4
  go_wp2_with fail
  (with_reducible refine H1.out.mono ?_)
  rintro e w1 ⟨rfl, rfl⟩
  go_wp2_with fail
  (with_reducible refine H2.out.mono ?_)
  rintro e w2 ⟨rfl, rfl⟩
  go_wp2_with fail
  (with_reducible refine H3.out.mono ?_)
  rintro e w3 ⟨rfl, rfl⟩
  go_wp2_with fail
  (with_reducible refine H4.out.mono ?_)
  rintro e w4 ⟨rfl, hb4⟩
  have HB4 := Lib.hid hb4
  clear hb4
  go_wp2_with fail
  exact HN.out _ _ (id ⟨rfl, rfl, rfl, rfl, rfl, rfl, rfl, rfl, trivial⟩) HB4.out
noncomputable def c_ls_r15 : Code := sub [1, 1, 1, 1, 1, 1, 1, 1, 1, 1, 0] (Tryd.f7.body.getD .skip)
set_option maxRecDepth 1000000 in
set_option maxHeartbeats 16000000 in
theorem ls_r15_wp {Q : Exit → Act → World → Prop} {y z : ByteArray} {t : Fm} {At Bt : Option Addr} {nt ct mt dt : Nat} {gi g10 : Nat} {T1 T2 : Fm} {w : World} (hgi : w.heap[gi]? = some (.cells #[.int .i64 t.lab.kind, .string t.lab.nm, .slice At nt ct, .slice Bt mt dt] 25 (0, 0))) (hsw : ∀ (W : World) (g1 g2 : Nat), Below w.heap.size w W → W.heap[g1]? = some (.cells #[.string y] 9 (0, 0)) → W.heap[g2]? = some (.cells #[.string z] 9 (0, 0)) → Calls Tryd.prog 31 #[.agg #[.int .i64 t.lab.kind, .string t.lab.nm, .slice At nt ct, .slice Bt mt dt], .slice (some ⟨g1, 0, none⟩) 1 1, .slice (some ⟨g2, 0, none⟩) 1 1] W fun e w' => ∃ es : List Value, e = .returned (.agg es.toArray) ∧ fmRep.R w' (Lo w') T2 es ∧ Below w.heap.size w w') (hck : ∀ (W : World) (es : List Value), fmRep.R W (Lo W) T2 es → Below w.heap.size w W → Calls Tryd.prog 24 #[.agg es.toArray] W fun e w' => ∃ es : List Value, e = .returned (.tuple #[.agg es.toArray, .agg #[.int .i64 0, .int .i64 0]]) ∧ fmRep.R w' (fun b => W.heap.size ≤ b ∧ b < w'.heap.size) (T1) es ∧ Below W.heap.size W w') (hN : ∀ A0 n0 c0 B0 m0 d0 gf ge a' w', Frm 120 [(10, .pointer (some ⟨g10, 0, none⟩)), (18, .pointer (some ⟨gf, 0, none⟩)), (19, .pointer (some ⟨ge, 0, none⟩))] a' → w'.heap[gf]? = some (.cells #[.int .i64 T1.lab.kind, .string T1.lab.nm, .slice A0 n0 c0, .slice B0 m0 d0] 25 (0, 0)) → w'.heap[ge]? = some (.cells #[.int .i64 0, .int .i64 0] 27 (0, 0)) → fmRep.R w' (Lo w') (T1) [.int .i64 T1.lab.kind, .string T1.lab.nm, .slice A0 n0 c0, .slice B0 m0 d0] → Below w.heap.size w w' → Q .normal a' w') : ∀ ac, Frm 120 [(1, .string y), (2, .string z), (3, .pointer (some ⟨gi, 0, none⟩)), (10, .pointer (some ⟨g10, 0, none⟩))] ac → Code.wp Tryd.prog c_ls_r15 Q ac w := by
  refine frm_open ?_
  refine frame_ls ?_
  intros
  rename_i hq
  obtain ⟨-, -, e0q, e1q, e2q, e3q, -⟩ := hq
  obtain rfl := sI e0q
  obtain rfl := sI e1q
  obtain rfl := sI e2q
  obtain rfl := sI e3q
  conv => arg 2; whnf
  have i0 := cellv hgi 0 rfl
  have i1 := cellv hgi 1 rfl
  have i2 := cellv hgi 2 rfl
  have i3 := cellv hgi 3 rfl
  have il := lt_heap hgi
  clear hgi
  have HS := Lib.hid hsw
  have HK := Lib.hid hck
  clear hsw hck
  have HN := Lib.hid hN
  clear hN
  go_wp2_with fail
  (with_reducible refine (HS.out _ w.heap.size (w.heap.size + 1) ?hbel ?hc1 ?hc2).mono ?_)
  case hbel => go_grown
  case hc1 => exact heap_old (by simp) (heap_at rfl)
  case hc2 => exact heap_at (by simp)
  rintro e w1 ⟨es, rfl, hr1, hb1⟩
  obtain ⟨A5, n5, c5, B5, n6, c6, rfl, _, _, _, _⟩ := Fm.shape hr1
  have hk1 := HK.out w1 _ hr1 hb1
  have HK1 := Lib.hid hk1
  have HB1 := Lib.hid hb1
  clear hk1 hb1 hr1
  go_wp2_with fail
  (with_reducible refine HK1.out.mono ?_)
  rintro e w2 ⟨es, rfl, h1, hb2⟩
  obtain ⟨A0, n0, c0, B0, m0, d0, rfl, _, _, _, _⟩ := Fm.shape h1
  have H1 := Lib.hid h1
  have HB2 := Lib.hid (HB1.out.trans (hb2.mono HB1.out.size))
  clear h1 hb2
  go_wp2_with fail
  have hz := HB2.out.size
  refine HN.out A0 n0 c0 B0 m0 d0 w2.heap.size (w2.heap.size + 1) _ _ (id ⟨rfl, rfl, rfl, rfl, rfl, trivial⟩) (heap_old (by simp) (heap_at rfl)) (heap_at (by simp)) (fmRep.keep H1.out (fun b hb => heap_old (by have := hb.2; simp; omega) (heap_old hb.2 rfl)) (fun b hb => by have := hb.2; show b < _; simp; omega)) ((HB2.out.alloc (by omega) _).alloc (by simp; omega) _)
noncomputable def c_ls_r16 : Code := sub [1, 1, 1, 1, 1, 1, 1, 1, 1, 1, 1, 0] (Tryd.f7.body.getD .skip)
set_option maxRecDepth 1000000 in
set_option maxHeartbeats 16000000 in
theorem ls_r16_wp {Q : Exit → Act → World → Prop} {T1 : Fm} {g7 g11 g12 : Nat} {A0 B0 : Option Addr} {n0 c0 m0 d0 : Nat} {A1 B1 : Option Addr} {n1 c1 m1 d1 : Nat} {w : World} (g0 : w.cell? ⟨0, 0, none⟩ = some (.int .i64 0)) (g1 : w.cell? ⟨0, 1, none⟩ = some (.int .i64 0)) (he : w.heap[g12]? = some (.cells #[.int .i64 0, .int .i64 0] 27 (0, 0))) (hg : w.heap[g7]? = some (.cells #[.int .i64 T1.lab.kind, .string T1.lab.nm, .slice A0 n0 c0, .slice B0 m0 d0] 25 (0, 0))) (hg2 : w.heap[g11]? = some (.cells #[.int .i64 T1.lab.kind, .string T1.lab.nm, .slice A1 n1 c1, .slice B1 m1 d1] 25 (0, 0))) (hr : fmRep.R w (Lo w) (T1) [.int .i64 T1.lab.kind, .string T1.lab.nm, .slice A0 n0 c0, .slice B0 m0 d0]) (hr2 : fmRep.R w (Lo w) (T1) [.int .i64 T1.lab.kind, .string T1.lab.nm, .slice A1 n1 c1, .slice B1 m1 d1]) (hN : ∀ a' w', Frm 120 [(6, .bool true)] a' → Below w.heap.size w w' → Q .normal a' w') : ∀ ac, Frm 120 [(10, .pointer (some ⟨g7, 0, none⟩)), (18, .pointer (some ⟨g11, 0, none⟩)), (19, .pointer (some ⟨g12, 0, none⟩))] ac → Code.wp Tryd.prog c_ls_r16 Q ac w := by
  refine frm_open ?_
  refine frame_ls ?_
  intros
  rename_i hq
  obtain ⟨-, -, e0q, e1q, e2q, -⟩ := hq
  obtain rfl := sI e0q
  obtain rfl := sI e1q
  obtain rfl := sI e2q
  conv => arg 2; whnf
  have hq := fun (W : World) (h : Below w.heap.size w W) => eqFm_self T1.nodes T1 [.int .i64 T1.lab.kind, .string T1.lab.nm, .slice A0 n0 c0, .slice B0 m0 d0] [.int .i64 T1.lab.kind, .string T1.lab.nm, .slice A1 n1 c1, .slice B1 m1 d1] W (Lo W) (Nat.le_refl _) (fmRep.keep hr (fun b hb => h.block b hb) (fun b hb => Nat.lt_of_lt_of_le hb h.size)) (fmRep.keep hr2 (fun b hb => h.block b hb) (fun b hb => Nat.lt_of_lt_of_le hb h.size)) (fun _ h => h)
  have e0 := cellv he 0 rfl
  have e1 := cellv he 1 rfl
  have el := lt_heap he
  have s0 := cellv hg 0 rfl
  have s1 := cellv hg 1 rfl
  have s2 := cellv hg 2 rfl
  have s3 := cellv hg 3 rfl
  have sl := lt_heap hg
  have r0 := cellv hg2 0 rfl
  have r1 := cellv hg2 1 rfl
  have r2 := cellv hg2 2 rfl
  have r3 := cellv hg2 3 rfl
  have rl := lt_heap hg2
  have lg := World.block_lt_of_cell? w _ g0
  clear he hg hg2 hr hr2
  have HN := Lib.hid hN
  have HQ := Lib.hid hq
  clear hN hq
  go_wp2_with fail
  (with_reducible refine (HQ.out _ (Below.refl _ _)).mono ?_)
  rintro e w1 ⟨rfl, hb1⟩
  have HB1 := Lib.hid hb1
  clear hb1
  go_wp2_with fail
  exact HN.out _ _ (id ⟨rfl, rfl, rfl, trivial⟩) HB1.out
set_option maxRecDepth 1000000 in
theorem ls_ret_wp {R : Ending → World → Prop} {w' : World} (hR : R (.returned (.bool true)) w') : ∀ ac, Frm 120 [(6, .bool true)] ac → bodyPost Tryd.prog Tryd.f7 R .ret ac w' := by
  refine frm_open ?_
  refine frame_ls ?_
  intros
  rename_i hq
  obtain ⟨-, -, e0q, -⟩ := hq
  obtain rfl := sI e0q
  refine bodyPost_ret (v := .bool true) (by simp [results, Tryd.results7, go_sem]) rfl ?_
  exact hR
end

section
open Go Go.RowKit
set_option linter.unusedSimpArgs false
set_option linter.unusedVariables false

/-- A valid formula with other names is valid. -/
theorem Fv.sw {s : ByteArray → ByteArray} : ∀ v : Fv, v.ok → (∀ x, okName x = true → okName (s x) = true) → ∃ v' : Fv, swF s v.fm = v'.fm ∧ v'.ok ∧ v'.nodes = v.nodes ∧ v'.depth = v.depth := by
  intro v
  induction v with
  | tru => intro _ _; exact ⟨.tru, by simp [Fv.fm, swF, swFs, isQ], trivial, rfl, rfl⟩
  | pred n ws =>
    intro h hs
    refine ⟨.pred n (ws.map s), by simp [Fv.fm, swF, swFs, isQ], ⟨h.1, by simpa using h.2.1, ?_⟩, rfl, rfl⟩
    rw [List.all_map, List.all_eq_true]
    intro w hw
    exact hs w (List.all_eq_true.1 h.2.2 w hw)
  | same a b =>
    intro h hs
    exact ⟨.same (s a) (s b), by simp [Fv.fm, swF, swFs, isQ], ⟨hs a h.1, hs b h.2⟩, rfl, rfl⟩
  | neg f ih =>
    intro h hs
    obtain ⟨v', h1, h2, h3, h4⟩ := ih h hs
    exact ⟨.neg v', by simp [Fv.fm, swF, swFs, isQ, h1], h2, by simp [Fv.nodes, h3], by simp [Fv.depth, h4]⟩
  | bin k f g ihf ihg =>
    intro h hs
    have hk : ¬ isQ k := by
      rintro (e | e) <;> (rcases h.1 with r | r | r <;> omega)
    obtain ⟨v1, h1, h2, h3, h4⟩ := ihf h.2.1 hs
    obtain ⟨v2, g1, g2, g3, g4⟩ := ihg h.2.2 hs
    refine ⟨.bin k v1 v2, ?_, ⟨h.1, h2, g2⟩, by simp [Fv.nodes, h3, g3], by simp [Fv.depth, h4, g4]⟩
    simp only [Fv.fm, swF, swFs]
    rw [if_neg hk, h1, g1, List.map_nil]
  | qu k x f ih =>
    intro h hs
    have hk : isQ k := by
      rcases h.1 with e | e
      · exact Or.inl (by omega)
      · exact Or.inr (by omega)
    obtain ⟨v', h1, h2, h3, h4⟩ := ih h.2.2 hs
    refine ⟨.qu k (s x) v', ?_, ⟨h.1, hs x h.2.1, h2⟩, by simp [Fv.nodes, h3], by simp [Fv.depth, h4]⟩
    simp only [Fv.fm, swF, swFs]
    rw [if_pos hk, h1, List.map_nil]
theorem subP_one (y z x : ByteArray) : subP [y] [z] x = if y = x then z else x := by simp [subP]
/-- The canonical form of the formula with another variable. -/
theorem canF_swap {v : Fv} {y z : ByteArray} (h1 : hasB (fmConsts v.fm) y = false) (h2 : hasB (allN v.fm) z = false) : canF [] (swF (subP [y] [z]) v.fm) = canF [] v.fm := by
  refine canF_var (P := fun x => x ≠ z) (fun a b ha hb e => ?_) v.fm (fun x hx e => ?_) (fun w hw => ?_)
  · rw [subP_one, subP_one] at e
    by_cases e1 : y = a
    · rw [if_pos e1] at e
      by_cases e2 : y = b
      · rw [← e1, ← e2]
      · rw [if_neg e2] at e
        exact absurd e.symm hb
    · rw [if_neg e1] at e
      by_cases e2 : y = b
      · rw [if_pos e2] at e
        exact absurd e ha
      · rw [if_neg e2] at e
        exact e
  · subst e
    rw [hasB_iff.2 hx] at h2
    cases h2
  · rw [subP_one, if_neg]
    rintro rfl
    have h3 : hasB (fmConsts v.fm) y = true := hasB_iff.2 (mem_constsB.2 hw)
    rw [h3] at h1
    cases h1
set_option maxRecDepth 100000 in
set_option maxHeartbeats 4000000 in
theorem stableLaw_any (t : Fm) (cs : List Value) (y z : ByteArray) (w : World) (S : Nat → Prop) (ht : fmRepC.R w S t cs) (hy : y.size ≤ maxLen) (hzz : z.size ≤ maxLen) (hS : ∀ b, S b → b < w.heap.size) (g0 : w.cell? ⟨0, 0, none⟩ = some (.int .i64 0)) (g1 : w.cell? ⟨0, 1, none⟩ = some (.int .i64 0)) (htab : ∀ W2, Below w.heap.size w W2 → Lib.TabIs Tryd.prog W2 "internal/strconv.uint64pow10" .u64 Lib.pow10Tab) : Calls Tryd.prog 7 #[.agg cs.toArray, .string y, .string z] w fun e w' => e = .returned (.bool true) ∧ Below w.heap.size w w' := by
  obtain ⟨At, nt, ct, Bt, mt, dt, rfl, _, _, _, _⟩ := Fm.shape (Fm.ofC ht)
  go_enter Tryd.func7, Tryd.ntmps7
  have lg := World.block_lt_of_cell? w _ g0
  have hret : ∀ a' w', Frm 120 [(6, .bool true)] a' → Below w.heap.size w w' → bodyPost Tryd.prog Tryd.f7 (fun e w' => e = .returned (.bool true) ∧ Below w.heap.size w w') .ret a' w' := fun a' w' h hb => ls_ret_wp ⟨rfl, hb⟩ a' h
  have gg := fun (W : World) (hb : Below w.heap.size w W) => And.intro ((hb.cell (p := ⟨0, 0, none⟩) lg).trans g0) ((hb.cell (p := ⟨0, 1, none⟩) lg).trans g1)
  have hold := fun (W : World) (hb : Below w.heap.size w W) => fmRep.keep (w' := W) (S' := Lo W) (Fm.ofC ht) (fun b hbS => hb.block b (hS b hbS)) (fun b hbS => Nat.lt_of_lt_of_le (hS b hbS) hb.size)
  have htb := fun (W : World) (hb : Below w.heap.size w W) => fun (W2 : World) (h2 : Below W.heap.size W W2) => htab W2 (hb.trans (h2.mono hb.size))
  have hfx : fmFault (fvB 8 (⟨#[120]⟩ : ByteArray)).fm = (0, 0) := fvB_fault (Or.inl rfl) (by decide +kernel)
  have hcx : canT (fvB 8 (⟨#[120]⟩ : ByteArray)).fm = (fvB 8 (⟨#[118, 48]⟩ : ByteArray)).fm := by
    unfold canT
    rw [if_pos (by rw [hfx])]
    exact canF_fvB _ (Or.inl rfl)
  refine wp_seq ?_
  refine ls_r0_wp (fun a0 w0 h0 hgi hz0 hb0 => ?_) _ (id ⟨rfl, rfl, rfl, rfl, rfl, trivial⟩)
  refine wp_seq ?_
  refine ls_r1_wp (fun A0 n0 c0 B0 m0 d0 g7 a1 w1 h1 hg7 hr1 hb1' => ?_) a0 ⟨h0.1, h0.2.1, h0.2.2.2.1, h0.2.2.2.2.1, h0.2.2.1, trivial⟩
  have hb1 := hb0.trans (hb1'.mono hb0.size)
  have hgi1 := (hb1'.block _ hz0).trans hgi
  refine wp_seq ?_
  refine wp_seq ?_
  have hca := canonical_any _ _ w1 _ hr1 (fun _ h => h) (htb w1 hb1)
  rw [hfx, hcx] at hca
  refine ls_r2_wp (T1 := (fvB 8 (⟨#[118, 48]⟩ : ByteArray)).fm) (c := 0) (j := 0) hg7 hca (fun A1 n1 c1 B1 m1 d1 g8 g9 a2 w2 h2 hg8 hg9 _ _ hb2' => ?_) a1 h1
  have hb2 := hb1.trans (hb2'.mono hb1.size)
  have hgi2 := (hb2'.block _ (lt_heap hgi1)).trans hgi1
  refine wp_seq ?_
  refine ls_r3_wp (gg _ hb2).1 (gg _ hb2).2 hg9 hg8 (fun a3 h3 => ?_) a2 h2
  refine wp_cond_false ((h3.eval (k := 35) (v := .bool false) (by simp)).trans rfl) ?_
  refine wp_skip ?_
  show Code.wp _ _ _ a3 w2
  refine wp_seq ?_
  refine ls_r5_wp (T1 := canT t) (c := ((fmFault t).1 : Nat)) (j := ((fmFault t).2 : Nat)) hgi2 (canonical_any t _ w2 _ (hold w2 hb2) (fun _ h => h) (htb w2 hb2)) (fun A2 n2 c2 B2 m2 d2 g10 g11 a4 w4 h4 hg10 hg11 _ hr4 hb4' => ?_) a3 ⟨h3.1, h3.2.1, h3.2.2.1, h3.2.2.2.1, h3.2.2.2.2.1, trivial⟩
  have hb4 := hb2.trans (hb4'.mono hb2.size)
  have hgi4 := (hb4'.block _ (lt_heap hgi2)).trans hgi2
  refine wp_seq ?_
  refine wp_seq ?_
  by_cases hf : (fmFault t).1 = 0
  case neg =>
    refine ls_r6c_wp (gg _ hb4).1 (gg _ hb4).2 hf hg11 (fun a5 h5 => ?_) a4 h4
    refine wp_cond_true ((h5.eval (k := 43) (v := .bool true) (by simp)).trans rfl) ?_
    refine wp_seq ?_
    refine ls_r7_wp (fun a6 h6 => ?_) a5 ⟨h5.1, h5.2.1, h5.2.2.1, trivial⟩
    refine wp_ret ?_
    repeat (first | refine then_ret ?_ | refine inBlock_ret ?_)
    exact hret a6 _ h6 hb4
  obtain ⟨v, rfl, ov, nv, dv, ev⟩ := fmFault_ok hf
  have hct : canT v.fm = canF [] v.fm := if_pos hf
  rw [hct] at hg10 hr4
  have hg11' : w4.heap[g11]? = some (.cells #[.int .i64 0, .int .i64 0] 27 (0, 0)) := by
    have h := hg11
    change w4.heap[g11]? = some (.cells #[.int .i64 ((fmFault v.fm).1 : Nat), .int .i64 ((fmFault v.fm).2 : Nat)] 27 (0, 0)) at h
    rw [ev] at h
    exact h
  refine ls_r6z_wp (gg _ hb4).1 (gg _ hb4).2 hg11' (fun a5 h5 => ?_) a4 h4
  refine wp_cond_false ((h5.eval (k := 43) (v := .bool false) (by simp)).trans rfl) ?_
  refine wp_skip ?_
  show Code.wp _ _ _ a5 w4
  obtain ⟨v', ec, ov', nv', dv'⟩ := canF_ok ov nv [] (by simp)
  have hfc : fmFault (canF [] v.fm) = (0, 0) := by
    rw [ec]
    exact fault_of ov' (by omega) (by omega)
  have hcc : canT (canF [] v.fm) = canF [] v.fm := by
    unfold canT
    rw [if_pos (by rw [hfc]), canF_canF]
  have hca4 := canonical_any _ _ w4 _ hr4 (fun _ h => h) (htb w4 hb4)
  rw [hfc, hcc] at hca4
  refine wp_seq ?_
  refine ls_r8_wp (T1 := canF [] v.fm) (c := 0) (j := 0) hg10 hca4 (fun A3 n3 c3 B3 m3 d3 g12 g13 a6 w6 h6 hg12 hg13 _ hr6 hb6' => ?_) a5 ⟨h5.1, h5.2.1, h5.2.2.1, h5.2.2.2.1, h5.2.2.2.2.1, h5.2.2.2.2.2.1, trivial⟩
  have hb6 := hb4.trans (hb6'.mono hb4.size)
  have hgi6 := (hb6'.block _ (lt_heap hgi4)).trans hgi4
  have hg106 := (hb6'.block _ (lt_heap hg10)).trans hg10
  have hr46 := fmRep.keep (w' := w6) (S' := Lo w6) hr4 (fun b hb => hb6'.block b hb) (fun b hb => Nat.lt_of_lt_of_le hb hb6'.size)
  have hfr6 := free_any v.fm _ w6 _ (hold w6 hb6) (fun _ h => h)
  rw [ev] at hfr6
  refine wp_seq ?_
  refine ls_r9_wp (PP := fun u w2 => w2.ownsRow w6.heap.size 9 1 u (fmConsts v.fm).length ((fmConsts v.fm).map .string)) hgi6 (hfr6.mono (fun e w' h => by
    obtain ⟨⟨u, he, _, hp⟩, hb⟩ := h
    exact ⟨⟨u, he, hp rfl⟩, hb⟩)) (fun ua wa g15 a7 w7 h7 hpa hba hba7 hg15 hb7' => ?_) a6 h6
  have hb7 := hb6.trans (hb7'.mono hb6.size)
  have hgi7 := (hb7'.block _ (lt_heap hgi6)).trans hgi6
  have hg107 := (hb7'.block _ (lt_heap hg106)).trans hg106
  have hr47 := fmRep.keep (w' := w7) (S' := Lo w7) hr46 (fun b hb => hb7'.block b hb) (fun b hb => Nat.lt_of_lt_of_le hb hb7'.size)
  have hfr7 := free_any (canF [] v.fm) _ w7 _ hr47 (fun _ h => h)
  rw [hfc, consts_canF] at hfr7
  refine wp_seq ?_
  refine ls_r10_wp (PP := fun u w2 => w2.ownsRow w7.heap.size 9 1 u (fmConsts v.fm).length ((fmConsts v.fm).map .string)) hg107 (hfr7.mono (fun e w' h => by
    obtain ⟨⟨u, he, _, hp⟩, hb⟩ := h
    exact ⟨⟨u, he, hp rfl⟩, hb⟩)) (fun ub wb g17 a8 w8 h8 hpb hbb hbb8 hg17 hb8' => ?_) a7 h7
  have hb8 := hb7.trans (hb8'.mono hb7.size)
  have hgi8 := (hb8'.block _ (lt_heap hgi7)).trans hgi7
  have hg108 := (hb8'.block _ (lt_heap hg107)).trans hg107
  have h68 := hb7'.trans (hb8'.mono hb7'.size)
  have hg128 := (h68.block _ (lt_heap hg12)).trans hg12
  have hg138 := (h68.block _ (lt_heap hg13)).trans hg13
  have hg158 := (hb8'.block _ (lt_heap hg15)).trans hg15
  have hr48 := fmRep.keep (w' := w8) (S' := Lo w8) hr47 (fun b hb => hb8'.block b hb) (fun b hb => Nat.lt_of_lt_of_le hb hb8'.size)
  have hr68 := fmRep.keep (w' := w8) (S' := Lo w8) hr6 (fun b hb => h68.block b hb) (fun b hb => Nat.lt_of_lt_of_le hb h68.size)
  have hba8 : Below wa.heap.size wa w8 := hba7.trans (hb8'.mono hba7.size)
  have hra8 := rowGrownF hpa (fun b hlt _ => hba8.block b hlt)
  have hrb8 := rowGrownF hpb (fun b hlt _ => hbb8.block b hlt)
  have hzs : ∀ s ∈ fmConsts v.fm, s.size ≤ maxLen := fun s hs => frees_size _ _ v.fm _ [] (hold w8 hb8) s (mem_constsB.1 hs)
  have hln : (fmConsts v.fm).length ≤ 1000000 := by
    have h1 := fmConsts_len v.fm
    have h2 := frees_le v.fm []
    have h3 := Fv.words_le v ov
    omega
  have hlm : (fmConsts v.fm).length ≤ maxLen := by unfold maxLen; omega
  have hsa := fun (W : World) (hb : Below w8.heap.size w8 W) => sl_of_row (S := Lo W) (rowGrownF hra8 (fun b hlt _ => hb.block b hlt)) hzs hlm (fun b e => show b < W.heap.size from Nat.lt_of_lt_of_le (hra8.lt b e).2 hb.size)
  have hsb := fun (W : World) (hb : Below w8.heap.size w8 W) => sl_of_row (S := Lo W) (rowGrownF hrb8 (fun b hlt _ => hb.block b hlt)) hzs hlm (fun b e => show b < W.heap.size from Nat.lt_of_lt_of_le (hrb8.lt b e).2 hb.size)
  refine wp_seq ?_
  refine wp_seq ?_
  refine ls_r11_wp (gg _ hb8).1 (gg _ hb8).2 hg138 hg158 hg17 hg108 hg128 (eqFm_self _ _ _ _ w8 (Lo w8) (Nat.le_refl _) hr48 hr68 (fun _ h => h)) (fun W hb => eqStrs_self (fmConsts v.fm) ua ub W (Lo W) (hsa W hb) (hsb W hb) (fun _ h => h)) (fun a9 w9 h9 hb9' => ?_) a8 h8
  refine wp_cond_false ((h9.eval (k := 83) (v := .bool false) (by simp)).trans rfl) ?_
  refine wp_skip ?_
  show Code.wp _ _ _ a9 w9
  have hb9 := hb8.trans (hb9'.mono hb8.size)
  have hgi9 := (hb9'.block _ (lt_heap hgi8)).trans hgi8
  have hg109 := (hb9'.block _ (lt_heap hg108)).trans hg108
  have hr49 := fmRep.keep (w' := w9) (S' := Lo w9) hr48 (fun b hb => hb9'.block b hb) (fun b hb => Nat.lt_of_lt_of_le hb hb9'.size)
  have h9s : Frm 120 [(1, .string y), (2, .string z), (3, .pointer (some ⟨w.heap.size, 0, none⟩)), (10, .pointer (some ⟨g10, 0, none⟩)), (14, ua)] a9 := ⟨h9.1, h9.2.1, h9.2.2.1, h9.2.2.2.1, h9.2.2.2.2.1, h9.2.2.2.2.2.1, h9.2.2.2.2.2.2.1, trivial⟩
  have hny := (refName_any y w9 hy).mono (R' := fun e w' => e = .returned (.bool (okName y)) ∧ w' = w9) (fun e w' h => ⟨h.1, h.2.symm⟩)
  have hnz := (refName_any z w9 hzz).mono (R' := fun e w' => e = .returned (.bool (okName z)) ∧ w' = w9) (fun e w' h => ⟨h.1, h.2.symm⟩)
  obtain ⟨Da, da, rfl⟩ : ∃ A c, ua = .slice A (fmConsts v.fm).length c := by
    rcases hpa.2 with ⟨e, e0⟩ | ⟨g, cap, cur, e, _⟩
    · exact ⟨none, 0, by rw [e, e0]⟩
    · exact ⟨_, _, e⟩
  have hha := refHas_any (hsa w9 hb9') (fun _ h => h) y
  have hhn := hasN_any _ v.fm _ z w9 _ (Nat.le_refl _) (hold w9 hb9) (fun _ h => h)
  refine wp_seq ?_
  refine wp_seq ?_
  cases oky : okName y
  · rw [oky] at hny
    refine ls_r13a_wp hgi9 hny (fun a5 w5 h5 hb5 => ?_) a9 h9s
    refine wp_cond_true ((h5.eval (k := 101) (v := .bool true) (by simp)).trans rfl) ?_
    refine ls_yes_wp (fun a' h' => ?_) a5 ⟨h5.1, h5.2.1, h5.2.2.1, trivial⟩
    repeat (first | refine then_ret ?_ | refine inBlock_ret ?_)
    exact hret a' _ h' (hb9.trans (hb5.mono hb9.size))
  rw [oky] at hny
  cases okz : okName z
  · rw [okz] at hnz
    refine ls_r13b_wp hgi9 hny hnz (fun a5 w5 h5 hb5 => ?_) a9 h9s
    refine wp_cond_true ((h5.eval (k := 101) (v := .bool true) (by simp)).trans rfl) ?_
    refine ls_yes_wp (fun a' h' => ?_) a5 ⟨h5.1, h5.2.1, h5.2.2.1, trivial⟩
    repeat (first | refine then_ret ?_ | refine inBlock_ret ?_)
    exact hret a' _ h' (hb9.trans (hb5.mono hb9.size))
  rw [okz] at hnz
  cases hay : hasB (fmConsts v.fm) y
  case true =>
    rw [hay] at hha
    refine ls_r13c_wp hgi9 hny hnz hha (fun a5 w5 h5 hb5 => ?_) a9 h9s
    refine wp_cond_true ((h5.eval (k := 101) (v := .bool true) (by simp)).trans rfl) ?_
    refine ls_yes_wp (fun a' h' => ?_) a5 ⟨h5.1, h5.2.1, h5.2.2.1, trivial⟩
    repeat (first | refine then_ret ?_ | refine inBlock_ret ?_)
    exact hret a' _ h' (hb9.trans (hb5.mono hb9.size))
  rw [hay] at hha
  cases hnz2 : hasB (allN v.fm) z
  case true =>
    rw [hnz2] at hhn
    refine ls_r13d_wp hgi9 hny hnz hha hhn (fun a5 w5 h5 hb5 => ?_) a9 h9s
    refine wp_cond_true ((h5.eval (k := 101) (v := .bool true) (by simp)).trans rfl) ?_
    refine ls_yes_wp (fun a' h' => ?_) a5 ⟨h5.1, h5.2.1, h5.2.2.1, trivial⟩
    repeat (first | refine then_ret ?_ | refine inBlock_ret ?_)
    exact hret a' _ h' (hb9.trans (hb5.mono hb9.size))
  rw [hnz2] at hhn
  refine ls_r13e_wp hgi9 hny hnz hha hhn (fun a10 w10 h10 hb10' => ?_) a9 h9s
  refine wp_cond_false ((h10.eval (k := 101) (v := .bool false) (by simp)).trans rfl) ?_
  refine wp_skip ?_
  show Code.wp _ _ _ a10 w10
  have hb10 := hb9.trans (hb10'.mono hb9.size)
  have hgi10 := (hb10'.block _ (lt_heap hgi9)).trans hgi9
  have hg10x := (hb10'.block _ (lt_heap hg109)).trans hg109
  have hr410 := fmRep.keep (w' := w10) (S' := Lo w10) hr49 (fun b hb => hb10'.block b hb) (fun b hb => Nat.lt_of_lt_of_le hb hb10'.size)
  have hwle := Fv.words_le v ov
  have hnod := v.fm_nodes
  obtain ⟨u', eu, ou', nu', du'⟩ := Fv.sw (s := subP [y] [z]) v ov (fun x hx => by
    rw [subP_one]
    split
    · exact okz
    · exact hx)
  have hfu : fmFault (swF (subP [y] [z]) v.fm) = (0, 0) := by
    rw [eu]
    exact fault_of ou' (by omega) (by omega)
  have hcu : canT (swF (subP [y] [z]) v.fm) = canF [] v.fm := by
    unfold canT
    rw [if_pos (by rw [hfu]), canF_swap hay hnz2]
  refine wp_seq ?_
  refine ls_r15_wp (T1 := canF [] v.fm) (T2 := swF (subP [y] [z]) v.fm) hgi10 (fun W g1 g2 hb hc1 hc2 => ?_) (fun W es hr hb => ?_) (fun A4 n4 c4 B4 m4 d4 g18 g19 a11 w11 h11 hg18 hg19 hr11 hb11' => ?_) a10 ⟨h10.1, h10.2.1, h10.2.2.1, h10.2.2.2.1, h10.2.2.2.2.1, h10.2.2.2.2.2.1, trivial⟩
  · refine (refSwapped_any v.fm.nodes v.fm _ W (Lo W) _ _ 1 1 1 1 [y] [z] (Nat.le_refl _) (by omega) (by omega) (hold W (hb10.trans (hb.mono hb10.size))) (fun _ h => h) (slS1 hc1 hy (lt_heap hc1)) (slS1 hc2 hzz (lt_heap hc2)) rfl).mono ?_
    rintro e w' ⟨es, rfl, hr, hb9⟩
    exact ⟨es, rfl, fmRep.keep hr (fun _ _ => rfl) (fun b hb => hb.2), hb.trans (hb9.mono hb.size)⟩
  · have h := canonical_any _ es W _ hr (fun _ h => h) (htb W (hb10.trans (hb.mono hb10.size)))
    rw [hfu, hcu] at h
    exact h
  have hb11 := hb10.trans (hb11'.mono hb10.size)
  refine wp_seq ?_
  refine ls_r16_wp (gg _ hb11).1 (gg _ hb11).2 hg19 ((hb11'.block _ (lt_heap hg10x)).trans hg10x) hg18 (fmRep.keep hr410 (fun b hb => hb11'.block b hb) (fun b hb => Nat.lt_of_lt_of_le hb hb11'.size)) hr11 (fun a12 w12 h12 hb12 => ?_) a11 h11
  refine wp_ret ?_
  exact hret a12 _ h12 (hb11.trans (hb12.mono hb11.size))
end

end Go.Proofs.YtdofemkfmkopcaaDoor
