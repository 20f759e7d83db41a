/-
  The law FolformInstanceMatchesSpec, joined.
-/
import Derived.Test.YtdofemkfmkopcaaDoorPkB
import Derived.Test.YtdofemkfmkopcaaDoorEqFm
import Derived.Test.YtdofemkfmkopcaaDoorFmMake
import Derived.Test.YtdofemkfmkopcaaDoorFmNext
import Derived.Deep.RegionHeld3
import Derived.Test.YtdofemkfmkopcaaDoorFmCap
import Derived.Test.YtdofemkfmkopcaaDoorOfB
namespace Go.Proofs.YtdofemkfmkopcaaDoor

section
open Go Go.RowKit
set_option linter.unusedSimpArgs false
set_option linter.unusedVariables false

theorem fmFault_ok {t : Fm} (h : (fmFault t).1 = 0) : ∃ v : Fv, t = v.fm ∧ v.ok ∧ v.nodes ≤ 200 ∧ v.depth ≤ 40 ∧ fmFault t = (0, 0) := by
  obtain ⟨v, e, h1, h2, h3, h4⟩ := Fv.of_val t 1 0 h
  exact ⟨v, e, h1, by omega, by omega, Prod.ext h ((fmVal_le false t 1 0 (by omega)).2 h).2⟩
/-- What Canonical returns. -/
noncomputable def canT (t : Fm) : Fm := if (fmFault t).1 = 0 then canF [] t else fmZ
/-- What Instance returns. -/
def insC (t : Fm) (y : ByteArray) : Int × Int := if (fmFault t).1 ≠ 0 then (((fmFault t).1 : Nat), ((fmFault t).2 : Nat)) else if isQu t.lab.kind = false then (4, -1) else if okName y = false then (10, -2) else (0, 0)
noncomputable def insT (t : Fm) (y : ByteArray) : Fm := if (fmFault t).1 = 0 ∧ isQu t.lab.kind = true ∧ okName y = true then (match t.kids with | b :: _ => canF [(t.lab.nm, y)] b | [] => fmZ) else fmZ
theorem Fv.qu_of {v : Fv} (h : isQu v.fm.lab.kind = true) (hv : v.ok) : ∃ k x f, v = .qu k x f := by
  have hq : v.fm.lab.kind = 8 ∨ v.fm.lab.kind = 9 := by
    unfold isQu at h
    simpa using h
  cases v with
  | qu k x f => exact ⟨k, x, f, rfl⟩
  | bin k f g =>
    simp only [Fv.fm, Tree.lab] at hq
    obtain ⟨h1, _⟩ := hv
    omega
  | _ => simp [Fv.fm, Tree.lab] at hq
set_option maxRecDepth 100000 in
set_option maxHeartbeats 4000000 in
/-- folform.Canonical. -/
theorem canonical_any (t : Fm) (cs : List Value) (w : World) (S : Nat → Prop) (ht : fmRep.R w S t cs) (hS : ∀ b, S b → b < w.heap.size) (htab : ∀ W, Below w.heap.size w W → Lib.TabIs Tryd.prog W "internal/strconv.uint64pow10" .u64 Lib.pow10Tab) :
    Calls Tryd.prog 24 #[.agg cs.toArray] w fun e w' => ∃ es : List Value, e = .returned (.tuple #[.agg es.toArray, .agg #[.int .i64 ((fmFault t).1 : Nat), .int .i64 ((fmFault t).2 : Nat)]]) ∧ fmRep.R w' (fun b => w.heap.size ≤ b ∧ b < w'.heap.size) (canT t) es ∧ Below w.heap.size w w' := by
  obtain ⟨A, n1, c1, B, n2, c2, rfl, _, _, _, _⟩ := Fm.shape ht
  obtain ⟨kd, hkd⟩ : ∃ k, t.lab.kind = k := ⟨_, rfl⟩
  obtain ⟨nm, hnm⟩ : ∃ k, t.lab.nm = k := ⟨_, rfl⟩
  rw [hkd, hnm] at ht ⊢
  go_enter Tryd.func24, Tryd.ntmps24
  refine wp_seq ?_
  refine ck2_r0_wp (fun a0 h0 => ?_) _ (id ⟨rfl, rfl, rfl, trivial⟩)
  refine gen_last (fun wx => wx.heap[w.heap.size]? = some (.cells #[.int .i64 kd, .string nm, .slice A n1 c1, .slice B n2 c2] 25 (0, 0)) ∧ wx.heap[w.heap.size + 1]? = some (.cells #[.int .i64 0, .string ⟨#[]⟩, .slice none 0 0, .slice none 0 0] 25 (0, 0)) ∧ wx.heap[w.heap.size + 2]? = some (.cells #[.int .i64 0, .int .i64 0] 27 (0, 0)) ∧ wx.heap.size = w.heap.size + 3 ∧ Below w.heap.size w wx) ⟨heap_old (by simp; omega) (heap_old (by simp) (heap_at (by simp))), heap_old (by simp) (heap_at (by simp)), heap_at (by simp), by simp, (((Below.refl _ _).alloc (Nat.le_refl _) _).alloc (by simp) _).alloc (by simp; omega) _⟩ ?_
  rintro wx ⟨ha, hz, hx, hsz, hb⟩
  refine wp_seq ?_
  have hv := validateFm_any t [.int .i64 kd, .string nm, .slice A n1 c1, .slice B n2 c2] wx S (fmRep.keep ht (fun b h => hb.block b (hS b h)) (fun _ h => h)) (fun b h => by have := hS b h; omega)
  refine wp_seq ?_
  refine ck2_r1_wp (y := nm) ha hv (fun w1 a1 h1 hb1 => ?_) a0 h0
  obtain ⟨gb, hgb⟩ : ∃ b, w1.heap.size = b := ⟨_, rfl⟩
  rw [hgb] at h1
  have hb1s := hb1.size
  refine gen_last (fun wy => wy.heap[w.heap.size]? = some (.cells #[.int .i64 kd, .string nm, .slice A n1 c1, .slice B n2 c2] 25 (0, 0)) ∧ wy.heap[w.heap.size + 1]? = some (.cells #[.int .i64 0, .string ⟨#[]⟩, .slice none 0 0, .slice none 0 0] 25 (0, 0)) ∧ wy.heap[w.heap.size + 2]? = some (.cells #[.int .i64 0, .int .i64 0] 27 (0, 0)) ∧ wy.heap[gb]? = some (.cells #[.int .i64 ((fmFault t).1 : Nat), .int .i64 ((fmFault t).2 : Nat)] 27 (0, 0)) ∧ Below w.heap.size w wy ∧ w.heap.size + 3 ≤ wy.heap.size) ⟨heap_old (by have := lt_heap ha; omega) ((hb1.block _ (lt_heap ha)).trans ha), heap_old (by have := lt_heap hz; omega) ((hb1.block _ (lt_heap hz)).trans hz), heap_old (by have := lt_heap hx; omega) ((hb1.block _ (lt_heap hx)).trans hx), by rw [← hgb]; exact heap_alloc_new _ _, (hb.trans (hb1.mono (by omega))).alloc (by omega) _, by simp; omega⟩ ?_
  rintro w2 ⟨ha2, hz2, hx2, hg2, hb2, hs2⟩
  refine wp_seq ?_
  refine ck2_r2_wp (y := nm) hg2 (fun a2 h2 => ?_) a1 h1
  by_cases hf : (fmFault t).1 = 0
  case neg =>
    refine wp_cond_true ((h2.eval (k := 9) (v := .bool (decide ((fmFault t).1 ≠ 0))) (by simp)).trans (by rw [decide_eq_true hf])) ?_
    refine wp_seq ?_
    refine Code.wp_mono (Q := Exit.then (fun a' w' => Frm 15 [(2, .pointer (some ⟨w.heap.size + 1, 0, none⟩)), (3, .pointer (some ⟨w.heap.size + 2, 0, none⟩))] a' ∧ w'.heap[w.heap.size + 1]? = some (.cells #[.int .i64 0, .string ⟨#[]⟩, .slice none 0 0, .slice none 0 0] 25 (0, 0)) ∧ w'.heap[w.heap.size + 2]? = some (.cells #[.int .i64 ((fmFault t).1 : Nat), .int .i64 ((fmFault t).2 : Nat)] 27 (0, 0)) ∧ Keeps (fun k => k = w.heap.size + 1 ∨ k = w.heap.size + 2) w2 w') (fun _ _ _ => False)) ?_ (ck2_r3_wp (by omega) hz2 hx2 (by omega) (by omega) hg2 (fun a' w' h' g1 g2 g3 => ⟨h', g1, g2, g3⟩) a2 ⟨h2.1, h2.2.1, h2.2.2.2.1, h2.2.2.2.2.1, h2.2.2.2.2.2.1, trivial⟩)
    intro ex a3 w3 hx3'
    cases ex with
    | normal =>
      obtain ⟨h3, hz3, hx3, hk3⟩ := hx3'
      refine wp_ret ?_
      repeat (first | refine then_ret ?_ | refine inBlock_ret ?_)
      refine ck2_ret_wp hz3 hx3 ⟨rfl, rfl, rfl, rfl⟩ ⟨_, rfl, ?_, ?_⟩ a3 h3
      · rw [show canT t = fmZ from if_neg hf]
        exact fmZ_rep
      · exact hb2.trans (Keeps.below (B := w.heap.size) hk3 (fun k e => by have e : k = w.heap.size + 1 ∨ k = w.heap.size + 2 := e; omega) (by omega))
    | _ => exact hx3'.elim
  refine wp_cond_false ((h2.eval (k := 9) (v := .bool (decide ((fmFault t).1 ≠ 0))) (by simp)).trans (by rw [decide_eq_false (fun h => h hf)])) ?_
  refine wp_skip ?_
  show Code.wp _ _ _ a2 w2
  obtain ⟨v, rfl, ov, nv, dv, ev⟩ := fmFault_ok hf
  have hc := (canonQ_any v ov nv [.int .i64 kd, .string nm, .slice A n1 c1, .slice B n2 c2] w2 S (fmRep.keep ht (fun b h => hb2.block b (hS b h)) (fun _ h => h)) (fun b h => by have := hS b h; omega) (fun W h => htab W (hb2.trans (h.mono (by omega))))).mono (R' := fun e w' => ∃ ke ne Ae n3 c3 Be n4 c4, e = .returned (.agg #[.int .i64 ke, .string ne, .slice Ae n3 c3, .slice Be n4 c4]) ∧ w'.heap[w.heap.size + 1]? = some (.cells #[.int .i64 0, .string ⟨#[]⟩, .slice none 0 0, .slice none 0 0] 25 (0, 0)) ∧ w'.heap[w.heap.size + 2]? = some (.cells #[.int .i64 0, .int .i64 0] 27 (0, 0)) ∧ (fmRep.R w' (fun b => w2.heap.size ≤ b ∧ b < w'.heap.size) (canF [] v.fm) [.int .i64 ke, .string ne, .slice Ae n3 c3, .slice Be n4 c4] ∧ Below w2.heap.size w2 w')) (by
    rintro e w' ⟨es, rfl, hr, hb9⟩
    obtain ⟨A5, n5, c5, B5, n6, c6, rfl, _, _, _, _⟩ := Fm.shape hr
    exact ⟨_, _, _, _, _, _, _, _, rfl, (hb9.block _ (lt_heap hz2)).trans hz2, (hb9.block _ (lt_heap hx2)).trans hx2, hr, hb9⟩)
  refine wp_seq ?_
  refine ck2_r4_wp ha2 (by omega) hc (fun ke ne Ae n3 c3 Be n4 c4 w5 a6 w6 h6 hp6 hz6 hx6 hk6 => ?_) a2 ⟨h2.1, h2.2.1, h2.2.2.1, h2.2.2.2.1, h2.2.2.2.2.1, trivial⟩
  obtain ⟨hr5, hb5⟩ := hp6
  have hk6s := hk6.size
  have hb5s := hb5.size
  refine wp_ret ?_
  refine ck2_ret_wp hz6 hx6 ⟨rfl, rfl, rfl, rfl⟩ ⟨[.int .i64 ke, .string ne, .slice Ae n3 c3, .slice Be n4 c4], by rw [ev]; rfl, ?_, ?_⟩ a6 h6
  · rw [show canT v.fm = canF [] v.fm from if_pos hf]
    exact fmRep.keep hr5 (fun b hb => hk6.block b hb.2 (by omega)) (fun b hb => ⟨by omega, by omega⟩)
  · have h1 : Below w.heap.size w w5 := hb2.trans (hb5.mono (by omega))
    exact h1.trans (Keeps.below (B := w.heap.size) hk6 (fun k e => by have e : k = w.heap.size + 1 ∨ k = w.heap.size + 2 := e; omega) (by have := h1.size; omega))
set_option maxRecDepth 100000 in
set_option maxHeartbeats 4000000 in
/-- folform.Instance. -/
theorem instance_any (t : Fm) (y : ByteArray) (hy : y.size ≤ maxLen) (cs : List Value) (w : World) (S : Nat → Prop) (ht : fmRep.R w S t cs) (hS : ∀ b, S b → b < w.heap.size) (htab : ∀ W, Below w.heap.size w W → Lib.TabIs Tryd.prog W "internal/strconv.uint64pow10" .u64 Lib.pow10Tab) :
    Calls Tryd.prog 32 #[.agg cs.toArray, .string y] w fun e w' => ∃ es : List Value, e = .returned (.tuple #[.agg es.toArray, .agg #[.int .i64 (insC t y).1, .int .i64 (insC t y).2]]) ∧ fmRep.R w' (fun b => w.heap.size ≤ b ∧ b < w'.heap.size) (insT t y) es ∧ Below w.heap.size w w' := by
  obtain ⟨A, n1, c1, B, n2, c2, rfl, _, _, _, _⟩ := Fm.shape ht
  obtain ⟨kd, hkd⟩ : ∃ k, t.lab.kind = k := ⟨_, rfl⟩
  obtain ⟨nm, hnm⟩ : ∃ k, t.lab.nm = k := ⟨_, rfl⟩
  rw [hkd, hnm] at ht ⊢
  go_enter Tryd.func32, Tryd.ntmps32
  refine wp_seq ?_
  refine in2_r0_wp (fun a0 h0 => ?_) _ (id ⟨rfl, rfl, rfl, rfl, trivial⟩)
  refine gen_last (fun wx => wx.heap[w.heap.size]? = some (.cells #[.int .i64 kd, .string nm, .slice A n1 c1, .slice B n2 c2] 25 (0, 0)) ∧ wx.heap[w.heap.size + 1]? = some (.cells #[.int .i64 0, .string ⟨#[]⟩, .slice none 0 0, .slice none 0 0] 25 (0, 0)) ∧ wx.heap[w.heap.size + 2]? = some (.cells #[.int .i64 0, .int .i64 0] 27 (0, 0)) ∧ wx.heap.size = w.heap.size + 3 ∧ Below w.heap.size w wx) ⟨heap_old (by simp; omega) (heap_old (by simp) (heap_at (by simp))), heap_old (by simp) (heap_at (by simp)), heap_at (by simp), by simp, (((Below.refl _ _).alloc (Nat.le_refl _) _).alloc (by simp) _).alloc (by simp; omega) _⟩ ?_
  rintro wx ⟨ha, hz, hx, hsz, hb⟩
  refine wp_seq ?_
  have hv := validateFm_any t [.int .i64 kd, .string nm, .slice A n1 c1, .slice B n2 c2] wx S (fmRep.keep ht (fun b h => hb.block b (hS b h)) (fun _ h => h)) (fun b h => by have := hS b h; omega)
  refine wp_seq ?_
  refine in2_r1_wp ha hv (fun w1 a1 h1 hb1 => ?_) a0 h0
  obtain ⟨gb, hgb⟩ : ∃ b, w1.heap.size = b := ⟨_, rfl⟩
  rw [hgb] at h1
  have hb1s := hb1.size
  refine gen_last (fun wy => wy.heap[w.heap.size]? = some (.cells #[.int .i64 kd, .string nm, .slice A n1 c1, .slice B n2 c2] 25 (0, 0)) ∧ wy.heap[w.heap.size + 1]? = some (.cells #[.int .i64 0, .string ⟨#[]⟩, .slice none 0 0, .slice none 0 0] 25 (0, 0)) ∧ wy.heap[w.heap.size + 2]? = some (.cells #[.int .i64 0, .int .i64 0] 27 (0, 0)) ∧ wy.heap[gb]? = some (.cells #[.int .i64 ((fmFault t).1 : Nat), .int .i64 ((fmFault t).2 : Nat)] 27 (0, 0)) ∧ Below w.heap.size w wy ∧ w.heap.size + 3 ≤ wy.heap.size) ⟨heap_old (by have := lt_heap ha; omega) ((hb1.block _ (lt_heap ha)).trans ha), heap_old (by have := lt_heap hz; omega) ((hb1.block _ (lt_heap hz)).trans hz), heap_old (by have := lt_heap hx; omega) ((hb1.block _ (lt_heap hx)).trans hx), by rw [← hgb]; exact heap_alloc_new _ _, (hb.trans (hb1.mono (by omega))).alloc (by omega) _, by simp; omega⟩ ?_
  rintro w2 ⟨ha2, hz2, hx2, hg2, hb2, hs2⟩
  refine wp_seq ?_
  refine in2_r2_wp hg2 (fun a2 h2 => ?_) a1 h1
  by_cases hf : (fmFault t).1 = 0
  case neg =>
    refine wp_cond_true ((h2.eval (k := 11) (v := .bool (decide ((fmFault t).1 ≠ 0))) (by simp)).trans (by rw [decide_eq_true hf])) ?_
    refine wp_seq ?_
    refine Code.wp_mono (Q := Exit.then (fun a' w' => Frm 28 [(4, .pointer (some ⟨w.heap.size + 1, 0, none⟩)), (5, .pointer (some ⟨w.heap.size + 2, 0, none⟩))] a' ∧ w'.heap[w.heap.size + 1]? = some (.cells #[.int .i64 0, .string ⟨#[]⟩, .slice none 0 0, .slice none 0 0] 25 (0, 0)) ∧ w'.heap[w.heap.size + 2]? = some (.cells #[.int .i64 ((fmFault t).1 : Nat), .int .i64 ((fmFault t).2 : Nat)] 27 (0, 0)) ∧ Keeps (fun k => k = w.heap.size + 1 ∨ k = w.heap.size + 2) w2 w') (fun _ _ _ => False)) ?_ (in2_r3_wp (by omega) hz2 hx2 (by omega) (by omega) hg2 (fun a' w' h' g1 g2 g3 => ⟨h', g1, g2, g3⟩) a2 ⟨h2.1, h2.2.1, h2.2.2.2.2.1, h2.2.2.2.2.2.1, h2.2.2.2.2.2.2.1, trivial⟩)
    intro ex a3 w3 hx3'
    cases ex with
    | normal =>
      obtain ⟨h3, hz3, hx3, hk3⟩ := hx3'
      refine wp_ret ?_
      repeat (first | refine then_ret ?_ | refine inBlock_ret ?_)
      refine in2_ret_wp hz3 hx3 ⟨rfl, rfl, rfl, rfl⟩ ⟨[.int .i64 0, .string ⟨#[]⟩, .slice none 0 0, .slice none 0 0], by rw [show insC t y = ((((fmFault t).1 : Nat) : Int), (((fmFault t).2 : Nat) : Int)) from if_pos hf], ?_, ?_⟩ a3 h3
      · rw [show insT t y = fmZ from if_neg (fun h => hf h.1)]
        exact fmZ_rep
      · exact hb2.trans (Keeps.below (B := w.heap.size) hk3 (fun k e => by have e : k = w.heap.size + 1 ∨ k = w.heap.size + 2 := e; omega) (by omega))
    | _ => exact hx3'.elim
  refine wp_cond_false ((h2.eval (k := 11) (v := .bool (decide ((fmFault t).1 ≠ 0))) (by simp)).trans (by rw [decide_eq_false (fun h => h hf)])) ?_
  refine wp_skip ?_
  show Code.wp _ _ _ a2 w2
  obtain ⟨v, rfl, ov, nv, dv, ev⟩ := fmFault_ok hf
  refine wp_seq ?_
  refine wp_seq ?_
  refine in2_r4_wp ha2 (fun a4 w4 h4 hb4 => ?_) a2 ⟨h2.1, h2.2.1, h2.2.2.1, h2.2.2.2.1, h2.2.2.2.2.1, h2.2.2.2.2.2.1, trivial⟩
  have hb4s := hb4.size
  have hb24 := hb2.trans (hb4.mono (by omega))
  have hz4 := (hb4.block _ (lt_heap hz2)).trans hz2
  have hx4 := (hb4.block _ (lt_heap hx2)).trans hx2
  have ha4 := (hb4.block _ (lt_heap ha2)).trans ha2
  have hsz4 : w.heap.size + 3 ≤ w4.heap.size := by omega
  cases hq : isQu kd
  · rw [hq] at h4
    refine wp_cond_true ((h4.eval (k := 16) (v := .bool (!false)) (by simp)).trans (by rw [show (!false) = true from rfl])) ?_
    refine wp_seq ?_
    refine in2_r5_wp (by omega) hz4 hx4 (fun a3 w3 h3 hz3 hx3 hk3 => ?_) a4 ⟨h4.1, h4.2.1, h4.2.2.2.2.1, h4.2.2.2.2.2.1, trivial⟩
    refine wp_ret ?_
    repeat (first | refine then_ret ?_ | refine inBlock_ret ?_)
    refine in2_ret_wp hz3 hx3 ⟨rfl, rfl, rfl, rfl⟩ ⟨[.int .i64 0, .string ⟨#[]⟩, .slice none 0 0, .slice none 0 0], ?_, ?_, ?_⟩ a3 h3
    · have e : insC v.fm y = (4, -1) := by
        unfold insC
        rw [if_neg (fun h => h hf), hkd, if_pos hq]
      rw [e]
    · rw [show insT v.fm y = fmZ from if_neg (fun h => by rw [hkd, hq] at h; cases h.2.1)]
      exact fmZ_rep
    · exact hb24.trans (Keeps.below (B := w.heap.size) hk3 (fun k e => by have e : k = w.heap.size + 1 ∨ k = w.heap.size + 2 := e; omega) (by omega))
  · rw [hq] at h4
    refine wp_cond_false ((h4.eval (k := 16) (v := .bool (!true)) (by simp)).trans (by rw [show (!true) = false from rfl])) ?_
    refine wp_skip ?_
    show Code.wp _ _ _ a4 w4
    refine wp_seq ?_
    refine wp_seq ?_
    refine in2_r6_wp hy (fun a5 h5 => ?_) a4 ⟨h4.1, h4.2.1, h4.2.2.1, h4.2.2.2.1, h4.2.2.2.2.1, h4.2.2.2.2.2.1, trivial⟩
    cases hok : okName y
    · rw [hok] at h5
      refine wp_cond_true ((h5.eval (k := 21) (v := .bool (!false)) (by simp)).trans (by rw [show (!false) = true from rfl])) ?_
      refine wp_seq ?_
      refine in2_r7_wp (by omega) hz4 hx4 (fun a3 w3 h3 hz3 hx3 hk3 => ?_) a5 ⟨h5.1, h5.2.1, h5.2.2.2.2.1, h5.2.2.2.2.2.1, trivial⟩
      refine wp_ret ?_
      repeat (first | refine then_ret ?_ | refine inBlock_ret ?_)
      refine in2_ret_wp hz3 hx3 ⟨rfl, rfl, rfl, rfl⟩ ⟨[.int .i64 0, .string ⟨#[]⟩, .slice none 0 0, .slice none 0 0], ?_, ?_, ?_⟩ a3 h3
      · have e : insC v.fm y = (10, -2) := by
          unfold insC
          rw [if_neg (fun h => h hf), hkd, if_neg (by rw [hq]; decide), if_pos hok]
        rw [e]
      · rw [show insT v.fm y = fmZ from if_neg (fun h => by rw [hok] at h; cases h.2.2)]
        exact fmZ_rep
      · exact hb24.trans (Keeps.below (B := w.heap.size) hk3 (fun k e => by have e : k = w.heap.size + 1 ∨ k = w.heap.size + 2 := e; omega) (by omega))
    · rw [hok] at h5
      refine wp_cond_false ((h5.eval (k := 21) (v := .bool (!true)) (by simp)).trans (by rw [show (!true) = false from rfl])) ?_
      refine wp_skip ?_
      show Code.wp _ _ _ a5 w4
      obtain ⟨kn, x, f, rfl⟩ := Fv.qu_of (by rw [hkd]; exact hq) ov
      have hc := (body_any kn x y f ov nv hy [.int .i64 kd, .string nm, .slice A n1 c1, .slice B n2 c2] w4 S (fmRep.keep ht (fun b h => hb24.block b (hS b h)) (fun _ h => h)) (fun b h => by have := hS b h; omega) (fun W h => htab W (hb24.trans (h.mono (by omega))))).mono (R' := fun e w' => ∃ ke ne Ae n3 c3 Be n4 c4, e = .returned (.agg #[.int .i64 ke, .string ne, .slice Ae n3 c3, .slice Be n4 c4]) ∧ w'.heap[w.heap.size + 1]? = some (.cells #[.int .i64 0, .string ⟨#[]⟩, .slice none 0 0, .slice none 0 0] 25 (0, 0)) ∧ w'.heap[w.heap.size + 2]? = some (.cells #[.int .i64 0, .int .i64 0] 27 (0, 0)) ∧ (fmRep.R w' (fun b => w4.heap.size ≤ b ∧ b < w'.heap.size) (canF [(x, y)] f.fm) [.int .i64 ke, .string ne, .slice Ae n3 c3, .slice Be n4 c4] ∧ Below w4.heap.size w4 w')) (by
    rintro e w' ⟨es, rfl, hr, hb9⟩
    obtain ⟨A5, n5, c5, B5, n6, c6, rfl, _, _, _, _⟩ := Fm.shape hr
    exact ⟨_, _, _, _, _, _, _, _, rfl, (hb9.block _ (lt_heap hz4)).trans hz4, (hb9.block _ (lt_heap hx4)).trans hx4, hr, hb9⟩)
      refine wp_seq ?_
      refine in2_r8_wp ha4 (by omega) hc (fun ke ne Ae n3 c3 Be n4 c4 w5 a6 w6 h6 hp6 hz6 hx6 hk6 => ?_) a5 ⟨h5.1, h5.2.1, h5.2.2.1, h5.2.2.2.1, h5.2.2.2.2.1, h5.2.2.2.2.2.1, trivial⟩
      obtain ⟨hr5, hb5⟩ := hp6
      have hk6s := hk6.size
      have hb5s := hb5.size
      refine wp_ret ?_
      refine in2_ret_wp hz6 hx6 ⟨rfl, rfl, rfl, rfl⟩ ⟨[.int .i64 ke, .string ne, .slice Ae n3 c3, .slice Be n4 c4], ?_, ?_, ?_⟩ a6 h6
      · have e : insC (Fv.qu kn x f).fm y = (0, 0) := by
          unfold insC
          rw [if_neg (fun h => h hf), hkd, if_neg (by rw [hq]; decide), if_neg (by rw [hok]; decide)]
        rw [e]
      · rw [show insT (Fv.qu kn x f).fm y = canF [(x, y)] f.fm from if_pos ⟨hf, by rw [hkd]; exact hq, hok⟩]
        exact fmRep.keep hr5 (fun b hb => hk6.block b hb.2 (by omega)) (fun b hb => ⟨by omega, by omega⟩)
      · have h1 : Below w.heap.size w w5 := hb24.trans (hb5.mono (by omega))
        exact h1.trans (Keeps.below (B := w.heap.size) hk6 (fun k e => by have e : k = w.heap.size + 1 ∨ k = w.heap.size + 2 := e; omega) (by have := h1.size; omega))
set_option maxRecDepth 100000 in
set_option maxHeartbeats 4000000 in
theorem bound_any (k : Int) (y : ByteArray) (kd : Int) (nm : ByteArray) (A : Option Addr) (n1 c1 : Nat) (B : Option Addr) (n2 c2 : Nat) (w : World) : Calls Tryd.prog 25 #[.int .i64 k, .string y, .agg #[.int .i64 kd, .string nm, .slice A n1 c1, .slice B n2 c2]] w fun e w' => ∃ g, e = .returned (.agg #[.int .i64 k, .string y, .slice none 0 0, .slice (some ⟨g, 0, none⟩) 1 1]) ∧ w'.heap[g]? = some (.cells #[.int .i64 kd, .string nm, .slice A n1 c1, .slice B n2 c2] 25 (0, 0)) ∧ w.heap.size ≤ g ∧ Below w.heap.size w w' := by
  go_enter Tryd.func25, Tryd.ntmps25
  go_wp2_with fail
  refine bodyPost_ret (v := .agg #[.int .i64 k, .string y, .slice none 0 0, .slice (some ⟨w.heap.size + 1 + 1, 0, none⟩) 1 1]) (by simp [results, Tryd.results25, go_sem]) rfl ?_
  exact ⟨_, rfl, heap_at (by simp), by omega, by go_grown⟩
end

section
open Go Go.RowKit
set_option linter.unusedSimpArgs false
set_option linter.unusedVariables false

/-- The laws' example: a quantifier over 'dog' of its variable. -/
def fvB (k : Nat) (a : ByteArray) : Fv := .qu k a (.pred bDog [a])
theorem fvB_ok {k : Nat} {a : ByteArray} (hk : k = 8 ∨ k = 9) (ha : okName a = true) : (fvB k a).ok := ⟨hk, ha, by decide +kernel, by simp, by simp [ha]⟩
theorem fvB_fault {k : Nat} {a : ByteArray} (hk : k = 8 ∨ k = 9) (ha : okName a = true) : fmFault (fvB k a).fm = (0, 0) := by
  unfold fmFault
  rw [Fv.val_ok false (fvB k a) 1 0 (fvB_ok hk ha) (by simp [fvB, Fv.nodes]) (by simp [fvB, Fv.depth])]
theorem vB_zero : vB 0 = ⟨#[118, 48]⟩ := by
  unfold vB
  rw [Lib.decDigits, dif_pos (by omega)]
  rfl
theorem nextV_nil (n : Nat) : nextV [] n = n := nextV_stop (by simp)
theorem canF_fvB {k : Nat} (a : ByteArray) (hk : k = 8 ∨ k = 9) : canF [] (fvB k a).fm = (fvB k ⟨#[118, 48]⟩).fm := by
  have hq : isQ (k : Int) := by
    rcases hk with rfl | rfl
    · exact Or.inl rfl
    · exact Or.inr rfl
  have hfr : fmConsts (fvB k a).fm = [] := by
    have h : fmFrees [] (fvB k a).fm = [] := by
      unfold fvB
      simp only [Fv.fm, fmFrees, fmFreess]
      rw [if_pos (show (k : Int) = 8 ∨ (k : Int) = 9 from hq)]
      simp [hasB]
    unfold fmConsts
    rw [h]
    cases hc : constsB [] with
    | nil => rfl
    | cons x l =>
      have : x ∈ constsB [] := by rw [hc]; simp
      rw [mem_constsB] at this
      cases this
  have hn : namV [] 0 = ⟨#[118, 48]⟩ := by
    unfold namV numV
    rw [nextV_nil, vB_zero]
  rw [canF_nil, hfr]
  unfold fvB
  simp only [Fv.fm]
  rw [renF_q (a := ⟨(k : Int), a, []⟩) hq, hn]
  simp only [renFs, renF, List.map_nil, List.nil_append]
  rw [if_neg (by unfold isQ; decide)]
  simp [lookE]
theorem canF_dog (a y : ByteArray) : canF [(a, y)] (Fv.pred bDog [a]).fm = (Fv.pred bDog [y]).fm := by
  unfold canF
  simp only [Fv.fm, renF, renFs]
  rw [if_neg (by unfold isQ; decide)]
  simp [lookE]
theorem insT_fvB {k : Nat} {a y : ByteArray} (hk : k = 8 ∨ k = 9) (ha : okName a = true) (hy : okName y = true) : insT (fvB k a).fm y = (Fv.pred bDog [y]).fm ∧ insC (fvB k a).fm y = (0, 0) := by
  have hf := fvB_fault hk ha
  have hq : isQu (fvB k a).fm.lab.kind = true := by
    show isQu (k : Int) = true
    rcases hk with rfl | rfl <;> rfl
  constructor
  · unfold insT
    rw [if_pos ⟨by rw [hf], hq, hy⟩]
    exact canF_dog a y
  · unfold insC
    rw [if_neg (by rw [hf]; simp), if_neg (by rw [hq]; decide), if_neg (by rw [hy]; decide)]
theorem fvB_rep {W : World} {S : Nat → Prop} {k : Nat} {a : ByteArray} {g g0 : Nat} {T0 : TypeId} (ha : a.size ≤ maxLen) (h0 : W.heap[g0]? = some (.cells #[.string a] T0 (0, 0))) (hg : W.heap[g]? = some (.cells #[.int .i64 2, .string bDog, .slice (some ⟨g0, 0, none⟩) 1 1, .slice none 0 0] 25 (0, 0))) (s0 : S g0) (sg : S g) : fmRep.R W S (fvB k a).fm [.int .i64 (k : Nat), .string a, .slice none 0 0, .slice (some ⟨g, 0, none⟩) 1 1] := by
  refine Fm.shut (a := ⟨(k : Int), a, []⟩) (l := [(Fv.pred bDog [a]).fm]) ha Rep.Sl.nil ?_
  refine ⟨_, _, _, rfl, rfl, by decide, fun _ => ⟨g, 0, [.int .i64 2, .string bDog, .slice (some ⟨g0, 0, none⟩) 1 1, .slice none 0 0], rfl, sg, Rep.All.single (Fm.shut (a := ⟨2, bDog, [a]⟩) (l := []) (show bDog.size ≤ maxLen from by decide +kernel) (slS1 h0 ha s0) Rep.Sl.nil), fun j u hj => ?_⟩⟩
  rw [Nat.zero_add]
  match j, hj with
  | 0, hj => exact (cellv hg 0 rfl).trans (by simpa using hj)
  | 1, hj => exact (cellv hg 1 rfl).trans (by simpa using hj)
  | 2, hj => exact (cellv hg 2 rfl).trans (by simpa using hj)
  | 3, hj => exact (cellv hg 3 rfl).trans (by simpa using hj)
  | n + 4, hj => simp at hj
end

section
open Go Go.RowKit
set_option linter.unusedSimpArgs false
set_option linter.unusedVariables false

theorem gB_of_ok {v : Fv} (h : v.ok) : ∀ w ∈ allW v.fm, ∀ j, w ≠ gB j := by
  have key : ∀ v : Fv, v.ok → ∀ w ∈ allW v.fm, okName w = true := by
    intro v
    induction v with
    | tru => intro _ w hw; simp [Fv.fm, allW, allWs] at hw
    | pred n ws =>
      intro h w hw
      simp [Fv.fm, allW, allWs] at hw
      exact List.all_eq_true.1 h.2.2 w hw
    | same a b =>
      intro h w hw
      simp [Fv.fm, allW, allWs] at hw
      rcases hw with rfl | rfl
      · exact h.1
      · exact h.2
    | neg f ih =>
      intro h w hw
      simp [Fv.fm, allW, allWs] at hw
      exact ih h w hw
    | bin k f g ihf ihg =>
      intro h w hw
      simp [Fv.fm, allW, allWs] at hw
      rcases hw with hw | hw
      · exact ihf h.2.1 w hw
      · exact ihg h.2.2 w hw
    | qu k x f ih =>
      intro h w hw
      simp [Fv.fm, allW, allWs] at hw
      exact ih h.2.2 w hw
  exact fun w hw j => okName_bang (key v h w hw) j
end

section
open Go Go.RowKit
set_option linter.unusedSimpArgs false
set_option linter.unusedVariables false

set_option maxRecDepth 1000000 in
theorem frame_li {P : Act → Prop} (h : ∀ x0 x1 x2 x3 x4 x5 x6 x7 x8 x9 x10 x11 x12 x13 x14 x15 x16 x17 x18 x19 x20 x21 x22 x23 x24 x25 x26 x27 x28 x29 x30 x31 x32 x33 x34 x35 x36 x37 x38 x39 x40 x41 x42 x43 x44 x45 x46 x47 x48 x49 x50 x51 x52 x53 x54 x55 x56 x57 x58 x59 x60 x61 x62 x63 x64 x65 x66 x67 x68 x69 x70 x71 x72 x73 x74 x75 x76 x77 x78 x79 x80 x81 x82 : Value, P ⟨(x0 :: x1 :: x2 :: x3 :: x4 :: x5 :: x6 :: x7 :: x8 :: x9 :: x10 :: x11 :: x12 :: x13 :: x14 :: x15 :: x16 :: x17 :: x18 :: x19 :: x20 :: x21 :: x22 :: x23 :: x24 :: x25 :: x26 :: x27 :: x28 :: x29 :: x30 :: x31 :: x32 :: x33 :: x34 :: x35 :: x36 :: x37 :: x38 :: x39 :: x40 :: x41 :: x42 :: x43 :: x44 :: x45 :: x46 :: x47 :: x48 :: x49 :: x50 :: x51 :: x52 :: x53 :: x54 :: x55 :: x56 :: x57 :: x58 :: x59 :: x60 :: x61 :: x62 :: x63 :: x64 :: x65 :: x66 :: x67 :: x68 :: x69 :: x70 :: x71 :: x72 :: x73 :: x74 :: x75 :: x76 :: x77 :: x78 :: x79 :: x80 :: x81 :: x82 :: []).toArray, []⟩) : ∀ a : Act, a.tmps.toList.length = 83 → a.defers = [] → P a := by
  rintro ⟨⟨l⟩, d⟩ hs hd
  simp only at hd
  subst hd
  revert l
  show ∀ l : List Value, l.length = 83 → P ⟨⟨l⟩, []⟩
  refine openS (n := 82) (fun x0 => ?_)
  refine openS (n := 81) (fun x1 => ?_)
  refine openS (n := 80) (fun x2 => ?_)
  refine openS (n := 79) (fun x3 => ?_)
  refine openS (n := 78) (fun x4 => ?_)
  refine openS (n := 77) (fun x5 => ?_)
  refine openS (n := 76) (fun x6 => ?_)
  refine openS (n := 75) (fun x7 => ?_)
  refine openS (n := 74) (fun x8 => ?_)
  refine openS (n := 73) (fun x9 => ?_)
  refine openS (n := 72) (fun x10 => ?_)
  refine openS (n := 71) (fun x11 => ?_)
  refine openS (n := 70) (fun x12 => ?_)
  refine openS (n := 69) (fun x13 => ?_)
  refine openS (n := 68) (fun x14 => ?_)
  refine openS (n := 67) (fun x15 => ?_)
  refine openS (n := 66) (fun x16 => ?_)
  refine openS (n := 65) (fun x17 => ?_)
  refine openS (n := 64) (fun x18 => ?_)
  refine openS (n := 63) (fun x19 => ?_)
  refine openS (n := 62) (fun x20 => ?_)
  refine openS (n := 61) (fun x21 => ?_)
  refine openS (n := 60) (fun x22 => ?_)
  refine openS (n := 59) (fun x23 => ?_)
  refine openS (n := 58) (fun x24 => ?_)
  refine openS (n := 57) (fun x25 => ?_)
  refine openS (n := 56) (fun x26 => ?_)
  refine openS (n := 55) (fun x27 => ?_)
  refine openS (n := 54) (fun x28 => ?_)
  refine openS (n := 53) (fun x29 => ?_)
  refine openS (n := 52) (fun x30 => ?_)
  refine openS (n := 51) (fun x31 => ?_)
  refine openS (n := 50) (fun x32 => ?_)
  refine openS (n := 49) (fun x33 => ?_)
  refine openS (n := 48) (fun x34 => ?_)
  refine openS (n := 47) (fun x35 => ?_)
  refine openS (n := 46) (fun x36 => ?_)
  refine openS (n := 45) (fun x37 => ?_)
  refine openS (n := 44) (fun x38 => ?_)
  refine openS (n := 43) (fun x39 => ?_)
  refine openS (n := 42) (fun x40 => ?_)
  refine openS (n := 41) (fun x41 => ?_)
  refine openS (n := 40) (fun x42 => ?_)
  refine openS (n := 39) (fun x43 => ?_)
  refine openS (n := 38) (fun x44 => ?_)
  refine openS (n := 37) (fun x45 => ?_)
  refine openS (n := 36) (fun x46 => ?_)
  refine openS (n := 35) (fun x47 => ?_)
  refine openS (n := 34) (fun x48 => ?_)
  refine openS (n := 33) (fun x49 => ?_)
  refine openS (n := 32) (fun x50 => ?_)
  refine openS (n := 31) (fun x51 => ?_)
  refine openS (n := 30) (fun x52 => ?_)
  refine openS (n := 29) (fun x53 => ?_)
  refine openS (n := 28) (fun x54 => ?_)
  refine openS (n := 27) (fun x55 => ?_)
  refine openS (n := 26) (fun x56 => ?_)
  refine openS (n := 25) (fun x57 => ?_)
  refine openS (n := 24) (fun x58 => ?_)
  refine openS (n := 23) (fun x59 => ?_)
  refine openS (n := 22) (fun x60 => ?_)
  refine openS (n := 21) (fun x61 => ?_)
  refine openS (n := 20) (fun x62 => ?_)
  refine openS (n := 19) (fun x63 => ?_)
  refine openS (n := 18) (fun x64 => ?_)
  refine openS (n := 17) (fun x65 => ?_)
  refine openS (n := 16) (fun x66 => ?_)
  refine openS (n := 15) (fun x67 => ?_)
  refine openS (n := 14) (fun x68 => ?_)
  refine openS (n := 13) (fun x69 => ?_)
  refine openS (n := 12) (fun x70 => ?_)
  refine openS (n := 11) (fun x71 => ?_)
  refine openS (n := 10) (fun x72 => ?_)
  refine openS (n := 9) (fun x73 => ?_)
  refine openS (n := 8) (fun x74 => ?_)
  refine openS (n := 7) (fun x75 => ?_)
  refine openS (n := 6) (fun x76 => ?_)
  refine openS (n := 5) (fun x77 => ?_)
  refine openS (n := 4) (fun x78 => ?_)
  refine openS (n := 3) (fun x79 => ?_)
  refine openS (n := 2) (fun x80 => ?_)
  refine openS (n := 1) (fun x81 => ?_)
  refine openS (n := 0) (fun x82 => ?_)
  refine open0 ?_
  exact h x0 x1 x2 x3 x4 x5 x6 x7 x8 x9 x10 x11 x12 x13 x14 x15 x16 x17 x18 x19 x20 x21 x22 x23 x24 x25 x26 x27 x28 x29 x30 x31 x32 x33 x34 x35 x36 x37 x38 x39 x40 x41 x42 x43 x44 x45 x46 x47 x48 x49 x50 x51 x52 x53 x54 x55 x56 x57 x58 x59 x60 x61 x62 x63 x64 x65 x66 x67 x68 x69 x70 x71 x72 x73 x74 x75 x76 x77 x78 x79 x80 x81 x82
noncomputable def c_li_r0 : Code := sub [0] (Tryd.f8.body.getD .skip)
set_option maxRecDepth 1000000 in
set_option maxHeartbeats 16000000 in
theorem li_r0_wp {Q : Exit → Act → World → Prop} {t : Fm} {y z : ByteArray} {At Bt : Option Addr} {nt ct mt dt : Nat} {w : World} (hN : ∀ a' w', Frm 83 [(2, .pointer (some ⟨w.heap.size, 0, none⟩)), (1, .string y)] a' → w'.heap[w.heap.size]? = some (.cells #[.int .i64 t.lab.kind, .string t.lab.nm, .slice At nt ct, .slice Bt mt dt] 25 (0, 0)) → w.heap.size < w'.heap.size → Below w.heap.size w w' → Q .normal a' w') : ∀ ac, Frm 83 [(0, .agg #[.int .i64 t.lab.kind, .string t.lab.nm, .slice At nt ct, .slice Bt mt dt]), (1, .string y)] ac → Code.wp Tryd.prog c_li_r0 Q ac w := by
  refine frm_open ?_
  refine frame_li ?_
  intros
  rename_i hq
  obtain ⟨-, -, e0q, e1q, -⟩ := hq
  obtain rfl := sI e0q
  obtain rfl := sI e1q
  conv => arg 2; whnf
  have HN := Lib.hid hN
  clear hN
  go_wp2_with fail
  exact HN.out _ _ (id ⟨rfl, rfl, rfl, rfl, trivial⟩) (heap_at rfl) (by simp) (by go_grown)
noncomputable def c_li_r1 : Code := sub [1, 0, 0] (Tryd.f8.body.getD .skip)
set_option maxRecDepth 1000000 in
set_option maxHeartbeats 16000000 in
theorem li_r1_wp {Q : Exit → Act → World → Prop} {y : ByteArray} {gi : Nat} {w : World} (hc : ∀ (W : World) (cs : List Value), fmRep.R W (Lo W) (fvB 8 (⟨#[120]⟩ : ByteArray)).fm cs → Below w.heap.size w W → Calls Tryd.prog 32 #[.agg cs.toArray, .string (⟨#[107, 105, 109]⟩ : ByteArray)] W fun e w' => ∃ es : List Value, e = .returned (.tuple #[.agg es.toArray, .agg #[.int .i64 0, .int .i64 0]]) ∧ fmRep.R w' (fun b => W.heap.size ≤ b ∧ b < w'.heap.size) ((Fv.pred bDog [(⟨#[107, 105, 109]⟩ : ByteArray)]).fm) es ∧ Below W.heap.size W w') (hN : ∀ A0 n0 c0 B0 m0 d0 gf ge a' w', Frm 83 [(1, .string y), (2, .pointer (some ⟨gi, 0, none⟩)), (5, .pointer (some ⟨gf, 0, none⟩)), (6, .pointer (some ⟨ge, 0, none⟩))] a' → w'.heap[gf]? = some (.cells #[.int .i64 (Fv.pred bDog [(⟨#[107, 105, 109]⟩ : ByteArray)]).fm.lab.kind, .string (Fv.pred bDog [(⟨#[107, 105, 109]⟩ : ByteArray)]).fm.lab.nm, .slice A0 n0 c0, .slice B0 m0 d0] 25 (0, 0)) → w'.heap[ge]? = some (.cells #[.int .i64 0, .int .i64 0] 27 (0, 0)) → gf ≠ ge → fmRep.R w' (Lo w') ((Fv.pred bDog [(⟨#[107, 105, 109]⟩ : ByteArray)]).fm) [.int .i64 (Fv.pred bDog [(⟨#[107, 105, 109]⟩ : ByteArray)]).fm.lab.kind, .string (Fv.pred bDog [(⟨#[107, 105, 109]⟩ : ByteArray)]).fm.lab.nm, .slice A0 n0 c0, .slice B0 m0 d0] → Below w.heap.size w w' → Q .normal a' w') : ∀ ac, Frm 83 [(1, .string y), (2, .pointer (some ⟨gi, 0, none⟩))] ac → Code.wp Tryd.prog c_li_r1 Q ac w := by
  refine frm_open ?_
  refine frame_li ?_
  intros
  rename_i hq
  obtain ⟨-, -, e0q, e1q, -⟩ := hq
  obtain rfl := sI e0q
  obtain rfl := sI e1q
  conv => arg 2; whnf
  have hp := fun (W : World) (g : Nat) => pred_any bDog (.slice (some ⟨g, 0, none⟩) 1 1) W ⟨_, _, _, rfl⟩
  unfold bDog at hp
  have hbo := fun (W : World) (g : Nat) => bound_any 8 (⟨#[120]⟩ : ByteArray) 2 ⟨#[100, 111, 103]⟩ (some ⟨g, 0, none⟩) 1 1 none 0 0 W
  have HN := Lib.hid hN
  have HP := Lib.hid hp
  have HBO := Lib.hid hbo
  have HC := Lib.hid hc
  clear hN hp hbo hc
  go_wp2_with fail
  (with_reducible refine (HP.out _ _).mono ?_)
  rintro e w1 ⟨rfl, hb1⟩
  have hz1 := hb1.size
  have hg0 := (hb1.block w.heap.size (by simp)).trans (heap_alloc_new _ _)
  have hB1 : Below w.heap.size w w1 := (show Below w.heap.size w _ by go_grown).trans (hb1.mono (by simp))
  have HG0 := Lib.hid hg0
  have HB1 := Lib.hid hB1
  clear hb1 hg0 hB1
  go_wp2_with fail
  (with_reducible refine (HBO.out _ _).mono ?_)
  rintro e w2 ⟨g, rfl, hg, hgl, hb2⟩
  have hz1 := HB1.out.size
  have hg02 := (hb2.block w.heap.size (by have := lt_heap HG0.out; omega)).trans HG0.out
  have hrp : fmRep.R w2 (Lo w2) (fvB 8 (⟨#[120]⟩ : ByteArray)).fm [.int .i64 8, .string (⟨#[120]⟩ : ByteArray), .slice none 0 0, .slice (some ⟨g, 0, none⟩) 1 1] := fvB_rep (by decide +kernel) hg02 hg (by have := lt_heap hg02; exact this) (by have := lt_heap hg; exact this)
  have hc2 := HC.out w2 _ hrp (HB1.out.trans (hb2.mono hz1))
  have hB2 : Below w.heap.size w w2 := HB1.out.trans (hb2.mono hz1)
  have HC2 := Lib.hid hc2
  have HB2 := Lib.hid hB2
  clear hg hgl hb2 hg02 hrp hc2 hB2
  go_wp2_with fail
  (with_reducible refine HC2.out.mono ?_)
  rintro e w3 ⟨es, rfl, h1, hb3⟩
  obtain ⟨A0, n0, c0, B0, m0, d0, rfl, _, _, _, _⟩ := Fm.shape h1
  have H1 := Lib.hid h1
  have hB3 : Below w.heap.size w w3 := HB2.out.trans (hb3.mono HB2.out.size)
  have HB3 := Lib.hid hB3
  clear h1 hb3 hB3
  go_wp2_with fail
  have hz := HB3.out.size
  refine HN.out A0 n0 c0 B0 m0 d0 w3.heap.size (w3.heap.size + 1) _ _ (id ⟨rfl, rfl, rfl, rfl, rfl, rfl, trivial⟩) (heap_old (by simp) (heap_at rfl)) (heap_at (by simp)) (by omega) (fmRep.keep H1.out (fun b hb => heap_old (by have := hb.2; simp; omega) (heap_old hb.2 rfl)) (fun b hb => by have := hb.2; show b < _; simp; omega)) ((HB3.out.alloc (by omega) _).alloc (by simp; omega) _)
noncomputable def c_li_r2 : Code := sub [1, 0, 1, 0] (Tryd.f8.body.getD .skip)
set_option maxRecDepth 1000000 in
set_option maxHeartbeats 16000000 in
theorem li_r2_wp {K : Act → World → Prop} {y : ByteArray} {gi : Nat} {gf ge : Nat} {A0 B0 : Option Addr} {n0 c0 m0 d0 : Nat} {w : World} (g0 : w.cell? ⟨0, 0, none⟩ = some (.int .i64 0)) (g1 : w.cell? ⟨0, 1, none⟩ = some (.int .i64 0)) (hgf : w.heap[gf]? = some (.cells #[.int .i64 (Fv.pred bDog [(⟨#[107, 105, 109]⟩ : ByteArray)]).fm.lab.kind, .string (Fv.pred bDog [(⟨#[107, 105, 109]⟩ : ByteArray)]).fm.lab.nm, .slice A0 n0 c0, .slice B0 m0 d0] 25 (0, 0))) (hge : w.heap[ge]? = some (.cells #[.int .i64 0, .int .i64 0] 27 (0, 0))) (hrp : fmRep.R w (Lo w) ((Fv.pred bDog [(⟨#[107, 105, 109]⟩ : ByteArray)]).fm) [.int .i64 (Fv.pred bDog [(⟨#[107, 105, 109]⟩ : ByteArray)]).fm.lab.kind, .string (Fv.pred bDog [(⟨#[107, 105, 109]⟩ : ByteArray)]).fm.lab.nm, .slice A0 n0 c0, .slice B0 m0 d0]) (hN : ∀ a' w', Frm 83 [(1, .string y), (2, .pointer (some ⟨gi, 0, none⟩)), (26, .bool false)] a' → Below w.heap.size w w' → K a' w') : ∀ ac, Frm 83 [(1, .string y), (2, .pointer (some ⟨gi, 0, none⟩)), (5, .pointer (some ⟨gf, 0, none⟩)), (6, .pointer (some ⟨ge, 0, none⟩))] ac → Code.wp Tryd.prog c_li_r2 (Exit.then K (fun _ _ _ => False)) ac w := by
  refine frm_open ?_
  refine frame_li ?_
  intros
  rename_i hq
  obtain ⟨-, -, e0q, e1q, e2q, e3q, -⟩ := hq
  obtain rfl := sI e0q
  obtain rfl := sI e1q
  obtain rfl := sI e2q
  obtain rfl := sI e3q
  conv => arg 2; whnf
  have e0 := cellv hge 0 rfl
  have e1 := cellv hge 1 rfl
  have el := lt_heap hge
  have f0 : w.cell? ⟨gf, 0, none⟩ = some (.int .i64 2) := cellv hgf 0 rfl
  have f1 : w.cell? ⟨gf, 1, none⟩ = some (.string bDog) := cellv hgf 1 rfl
  have f2 : w.cell? ⟨gf, 2, none⟩ = some (.slice A0 n0 c0) := cellv hgf 2 rfl
  have f3 : w.cell? ⟨gf, 3, none⟩ = some (.slice B0 m0 d0) := cellv hgf 3 rfl
  have lf := lt_heap hgf
  have lg := World.block_lt_of_cell? w _ g0
  have lf1 : gf < w.heap.size + 1 := by omega
  have HRP := Lib.hid hrp
  clear hrp hge hgf
  have HN := Lib.hid hN
  clear hN
  go_region_held3 (fun w' => w'.cell? ⟨ge, 0, none⟩ = some (.int .i64 0) ∧ w'.cell? ⟨ge, 1, none⟩ = some (.int .i64 0) ∧ w'.cell? ⟨0, 0, none⟩ = some (.int .i64 0) ∧ w'.cell? ⟨0, 1, none⟩ = some (.int .i64 0) ∧ w'.cell? ⟨gf, 0, none⟩ = some (.int .i64 2) ∧ w'.cell? ⟨gf, 1, none⟩ = some (.string bDog) ∧ w'.cell? ⟨gf, 2, none⟩ = some (.slice A0 n0 c0) ∧ w'.cell? ⟨gf, 3, none⟩ = some (.slice B0 m0 d0))
    ((first | (go_keep; done) | (go_split_ands; (repeat' apply And.intro) <;> (refine (kc5 _ _ (by omega)).trans ?_; assumption)) | (go_split_ands; (repeat' apply And.intro) <;> (refine (kc4 _ _ (by omega)).trans ?_; assumption))))
    (first
      | ((with_reducible refine (pred_any _ _ _ ⟨_, _, _, rfl⟩).mono ?_); rintro e w4 ⟨rfl, hw4⟩; have kc4 : ∀ k q, k < w.heap.size + 1 → w4.cell? ⟨k, q, none⟩ = _ := (fun k q h => hw4.cell (p := ⟨k, q, none⟩) (by first | exact h | (simp; omega))); have z4 : w.heap.size + 1 ≤ w4.heap.size := (by have := hw4.size; simpa using this); have HW4 := Lib.hid hw4; have hr0 : w4.heap[w.heap.size]? = some (.cells #[.string (⟨#[107, 105, 109]⟩ : ByteArray)] 9 (0, 0)) := ((hw4.block w.heap.size (by simp)).trans (by first | exact heap_drew (heap_at rfl) | exact heap_at rfl)); have HR0 := Lib.hid hr0; clear hw4 hr0)
      | (have hq : Calls Tryd.prog 26 #[.agg #[.int .i64 2, .string bDog, .slice A0 n0 c0, .slice B0 m0 d0], .agg #[.int .i64 2, .string ⟨#[100, 111, 103]⟩, .slice (some ⟨w.heap.size, 0, none⟩) 1 1, .slice none 0 0]] w4 _ := eqFm_self _ (Fv.pred bDog [(⟨#[107, 105, 109]⟩ : ByteArray)]).fm [.int .i64 (Fv.pred bDog [(⟨#[107, 105, 109]⟩ : ByteArray)]).fm.lab.kind, .string (Fv.pred bDog [(⟨#[107, 105, 109]⟩ : ByteArray)]).fm.lab.nm, .slice A0 n0 c0, .slice B0 m0 d0] [.int .i64 2, .string bDog, .slice (some ⟨w.heap.size, 0, none⟩) 1 1, .slice none 0 0] w4 (Lo w4) (Nat.le_refl _) (fmRep.keep HRP.out (fun k hk => by have h' : k < w.heap.size := hk; exact (HW4.out.block k (by first | (simp; done) | (simp; omega))).trans (by first | exact heap_drew (heap_old h' rfl) | exact heap_old h' rfl)) (fun k hk => by have h' : k < w.heap.size := hk; exact (show k < w4.heap.size by omega))) (Fm.shut (a := ⟨2, bDog, [(⟨#[107, 105, 109]⟩ : ByteArray)]⟩) (l := []) (show bDog.size ≤ maxLen from by decide +kernel) (slS1 HR0.out (by decide +kernel) (show _ < _ from lt_heap HR0.out)) Rep.Sl.nil) (fun k hk => hk); (with_reducible refine hq.mono ?_); clear hq; rintro e w5 ⟨rfl, hw5⟩; have kc5 : ∀ k q, k < w4.heap.size → w5.cell? ⟨k, q, none⟩ = _ := (fun k q h => hw5.cell (p := ⟨k, q, none⟩) h); have HW5 := Lib.hid hw5; clear hw5)
      | fail)
  all_goals go_wp2_with fail
  all_goals exact HN.out _ _ (id ⟨rfl, rfl, rfl, rfl, rfl, trivial⟩) (Below.trans (show Below w.heap.size w _ by first | exact ((Below.refl _ _).alloc (Nat.le_refl _) _).drew | exact (Below.refl _ _).drew.alloc (Nat.le_refl _) _) ((HW4.out.mono (by first | (simp; done) | (simp; omega))).trans (HW5.out.mono (by omega))))
noncomputable def c_li_r4 : Code := sub [1, 1, 0] (Tryd.f8.body.getD .skip)
set_option maxRecDepth 1000000 in
set_option maxHeartbeats 16000000 in
theorem li_r4_wp {Q : Exit → Act → World → Prop} {y : ByteArray} {t : Fm} {At Bt : Option Addr} {nt ct mt dt : Nat} {gi : Nat} {T1 : Fm} {c j : Int} {w : World} (hsrc : w.heap[gi]? = some (.cells #[.int .i64 t.lab.kind, .string t.lab.nm, .slice At nt ct, .slice Bt mt dt] 25 (0, 0))) (hc : Calls Tryd.prog 32 #[.agg #[.int .i64 t.lab.kind, .string t.lab.nm, .slice At nt ct, .slice Bt mt dt], .string y] w fun e w' => ∃ es : List Value, e = .returned (.tuple #[.agg es.toArray, .agg #[.int .i64 c, .int .i64 j]]) ∧ fmRep.R w' (fun b => w.heap.size ≤ b ∧ b < w'.heap.size) (T1) es ∧ Below w.heap.size w w') (hN : ∀ A0 n0 c0 B0 m0 d0 gf ge a' w', Frm 83 [(1, .string y), (2, .pointer (some ⟨gi, 0, none⟩)), (7, .pointer (some ⟨gf, 0, none⟩)), (8, .pointer (some ⟨ge, 0, none⟩))] a' → w'.heap[gf]? = some (.cells #[.int .i64 T1.lab.kind, .string T1.lab.nm, .slice A0 n0 c0, .slice B0 m0 d0] 25 (0, 0)) → w'.heap[ge]? = some (.cells #[.int .i64 c, .int .i64 j] 27 (0, 0)) → gf ≠ ge → fmRep.R w' (Lo w') (T1) [.int .i64 T1.lab.kind, .string T1.lab.nm, .slice A0 n0 c0, .slice B0 m0 d0] → Below w.heap.size w w' → Q .normal a' w') : ∀ ac, Frm 83 [(1, .string y), (2, .pointer (some ⟨gi, 0, none⟩))] ac → Code.wp Tryd.prog c_li_r4 Q ac w := by
  refine frm_open ?_
  refine frame_li ?_
  intros
  rename_i hq
  obtain ⟨-, -, e0q, e1q, -⟩ := hq
  obtain rfl := sI e0q
  obtain rfl := sI e1q
  conv => arg 2; whnf
  have s0 := cellv hsrc 0 rfl
  have s1 := cellv hsrc 1 rfl
  have s2 := cellv hsrc 2 rfl
  have s3 := cellv hsrc 3 rfl
  have sl := lt_heap hsrc
  clear hsrc
  have HN := Lib.hid hN
  have HC := Lib.hid hc
  clear hN hc
  go_wp2_with fail
  (with_reducible refine HC.out.mono ?_)
  rintro e w1 ⟨es, rfl, h1, hb1⟩
  obtain ⟨A0, n0, c0, B0, m0, d0, rfl, _, _, _, _⟩ := Fm.shape h1
  have H1 := Lib.hid h1
  have HB1 := Lib.hid hb1
  clear h1 hb1
  go_wp2_with fail
  have hz := HB1.out.size
  refine HN.out A0 n0 c0 B0 m0 d0 w1.heap.size (w1.heap.size + 1) _ _ (id ⟨rfl, rfl, rfl, rfl, rfl, rfl, trivial⟩) (heap_old (by simp) (heap_at rfl)) (heap_at (by simp)) (by omega) (fmRep.keep H1.out (fun b hb => heap_old (by have := hb.2; simp; omega) (heap_old hb.2 rfl)) (fun b hb => by have := hb.2; show b < _; simp; omega)) ((HB1.out.alloc (by omega) _).alloc (by simp; omega) _)
noncomputable def c_li_r5 : Code := sub [1, 1, 1, 0, 0] (Tryd.f8.body.getD .skip)
set_option maxRecDepth 1000000 in
set_option maxHeartbeats 16000000 in
theorem li_r5_wp {Q : Exit → Act → World → Prop} {y : ByteArray} {t : Fm} {At Bt : Option Addr} {nt ct mt dt : Nat} {gi : Nat} {g7 g8 : Nat} {c j : Nat} {w : World} (hsrc : w.heap[gi]? = some (.cells #[.int .i64 t.lab.kind, .string t.lab.nm, .slice At nt ct, .slice Bt mt dt] 25 (0, 0))) (hc : Calls Tryd.prog 13 #[.agg #[.int .i64 t.lab.kind, .string t.lab.nm, .slice At nt ct, .slice Bt mt dt]] w fun e w' => e = .returned (.agg #[.int .i64 (c : Nat), .int .i64 (j : Nat)]) ∧ Below w.heap.size w w') (hN : ∀ ge a' w', Frm 83 [(1, .string y), (2, .pointer (some ⟨gi, 0, none⟩)), (7, .pointer (some ⟨g7, 0, none⟩)), (8, .pointer (some ⟨g8, 0, none⟩)), (9, .pointer (some ⟨ge, 0, none⟩))] a' → w'.heap[ge]? = some (.cells #[.int .i64 (c : Nat), .int .i64 (j : Nat)] 27 (0, 0)) → Below w.heap.size w w' → Q .normal a' w') : ∀ ac, Frm 83 [(1, .string y), (2, .pointer (some ⟨gi, 0, none⟩)), (7, .pointer (some ⟨g7, 0, none⟩)), (8, .pointer (some ⟨g8, 0, none⟩))] ac → Code.wp Tryd.prog c_li_r5 Q ac w := by
  refine frm_open ?_
  refine frame_li ?_
  intros
  rename_i hq
  obtain ⟨-, -, e0q, e1q, e2q, e3q, -⟩ := hq
  obtain rfl := sI e0q
  obtain rfl := sI e1q
  obtain rfl := sI e2q
  obtain rfl := sI e3q
  conv => arg 2; whnf
  have s0 := cellv hsrc 0 rfl
  have s1 := cellv hsrc 1 rfl
  have s2 := cellv hsrc 2 rfl
  have s3 := cellv hsrc 3 rfl
  have sl := lt_heap hsrc
  clear hsrc
  have HN := Lib.hid hN
  have HC := Lib.hid hc
  clear hN hc
  go_wp2_with fail
  (with_reducible refine HC.out.mono ?_)
  rintro e w1 ⟨rfl, hb1⟩
  have HB1 := Lib.hid hb1
  clear hb1
  go_wp2_with fail
  have hz := HB1.out.size
  exact HN.out w1.heap.size _ _ (id ⟨rfl, rfl, rfl, rfl, rfl, rfl, rfl, trivial⟩) (heap_at rfl) (HB1.out.alloc hz _)
noncomputable def c_li_r6z : Code := sub [1, 1, 1, 0, 1, 0] (Tryd.f8.body.getD .skip)
set_option maxRecDepth 1000000 in
set_option maxHeartbeats 16000000 in
theorem li_r6z_wp {Q : Exit → Act → World → Prop} {y : ByteArray} {gi g7 g8 g9 : Nat} {w : World} (g0 : w.cell? ⟨0, 0, none⟩ = some (.int .i64 0)) (g1 : w.cell? ⟨0, 1, none⟩ = some (.int .i64 0)) (he : w.heap[g9]? = some (.cells #[.int .i64 0, .int .i64 0] 27 (0, 0))) (hN : ∀ a', Frm 83 [(1, .string y), (2, .pointer (some ⟨gi, 0, none⟩)), (7, .pointer (some ⟨g7, 0, none⟩)), (8, .pointer (some ⟨g8, 0, none⟩)), (9, .pointer (some ⟨g9, 0, none⟩)), (37, .bool false)] a' → Q .normal a' w) : ∀ ac, Frm 83 [(1, .string y), (2, .pointer (some ⟨gi, 0, none⟩)), (7, .pointer (some ⟨g7, 0, none⟩)), (8, .pointer (some ⟨g8, 0, none⟩)), (9, .pointer (some ⟨g9, 0, none⟩))] ac → Code.wp Tryd.prog c_li_r6z Q ac w := by
  refine frm_open ?_
  refine frame_li ?_
  intros
  rename_i hq
  obtain ⟨-, -, e0q, e1q, e2q, e3q, e4q, -⟩ := hq
  obtain rfl := sI e0q
  obtain rfl := sI e1q
  obtain rfl := sI e2q
  obtain rfl := sI e3q
  obtain rfl := sI e4q
  conv => arg 2; whnf
  have e0 := cellv he 0 rfl
  have e1 := cellv he 1 rfl
  have el := lt_heap he
  have lg := World.block_lt_of_cell? w _ g0
  clear he
  have HN := Lib.hid hN
  clear hN
  go_wp2_with fail
  exact HN.out _ (id ⟨rfl, rfl, rfl, rfl, rfl, rfl, rfl, rfl, trivial⟩)
noncomputable def c_li_r6c : Code := sub [1, 1, 1, 0, 1, 0] (Tryd.f8.body.getD .skip)
set_option maxRecDepth 1000000 in
set_option maxHeartbeats 16000000 in
theorem li_r6c_wp {Q : Exit → Act → World → Prop} {c j : Nat} {y : ByteArray} {gi g7 g8 g9 : Nat} {w : World} (g0 : w.cell? ⟨0, 0, none⟩ = some (.int .i64 0)) (g1 : w.cell? ⟨0, 1, none⟩ = some (.int .i64 0)) (hcz : c ≠ 0) (he : w.heap[g9]? = some (.cells #[.int .i64 (c : Nat), .int .i64 (j : Nat)] 27 (0, 0))) (hN : ∀ a', Frm 83 [(1, .string y), (2, .pointer (some ⟨gi, 0, none⟩)), (7, .pointer (some ⟨g7, 0, none⟩)), (8, .pointer (some ⟨g8, 0, none⟩)), (9, .pointer (some ⟨g9, 0, none⟩)), (37, .bool true)] a' → Q .normal a' w) : ∀ ac, Frm 83 [(1, .string y), (2, .pointer (some ⟨gi, 0, none⟩)), (7, .pointer (some ⟨g7, 0, none⟩)), (8, .pointer (some ⟨g8, 0, none⟩)), (9, .pointer (some ⟨g9, 0, none⟩))] ac → Code.wp Tryd.prog c_li_r6c Q ac w := by
  refine frm_open ?_
  refine frame_li ?_
  intros
  rename_i hq
  obtain ⟨-, -, e0q, e1q, e2q, e3q, e4q, -⟩ := hq
  obtain rfl := sI e0q
  obtain rfl := sI e1q
  obtain rfl := sI e2q
  obtain rfl := sI e3q
  obtain rfl := sI e4q
  conv => arg 2; whnf
  have e0 := cellv he 0 rfl
  have e1 := cellv he 1 rfl
  have el := lt_heap he
  have lg := World.block_lt_of_cell? w _ g0
  clear he
  have t1 : ((c : Int) == 0) = false := beq_eq_false_iff_ne.2 (by omega)
  have HN := Lib.hid hN
  clear hN
  go_wp2_with fail
  exact HN.out _ (id ⟨rfl, rfl, rfl, rfl, rfl, rfl, rfl, rfl, trivial⟩)
noncomputable def c_li_r7 : Code := sub [1, 1, 1, 0, 1, 1, 0, 0] (Tryd.f8.body.getD .skip)
set_option maxRecDepth 1000000 in
set_option maxHeartbeats 16000000 in
theorem li_r7_wp {Q : Exit → Act → World → Prop} {c j : Nat} {g7 g8 g9 : Nat} {A0 B0 : Option Addr} {n0 c0 m0 d0 : Nat} {w : World} (he1 : w.heap[g8]? = some (.cells #[.int .i64 (c : Nat), .int .i64 (j : Nat)] 27 (0, 0))) (he2 : w.heap[g9]? = some (.cells #[.int .i64 (c : Nat), .int .i64 (j : Nat)] 27 (0, 0))) (hg : w.heap[g7]? = some (.cells #[.int .i64 fmZ.lab.kind, .string fmZ.lab.nm, .slice A0 n0 c0, .slice B0 m0 d0] 25 (0, 0))) (hr : fmRep.R w (Lo w) (fmZ) [.int .i64 fmZ.lab.kind, .string fmZ.lab.nm, .slice A0 n0 c0, .slice B0 m0 d0]) (hN : ∀ a' w', Frm 83 [(4, .bool true)] a' → Below w.heap.size w w' → Q .normal a' w') : ∀ ac, Frm 83 [(7, .pointer (some ⟨g7, 0, none⟩)), (8, .pointer (some ⟨g8, 0, none⟩)), (9, .pointer (some ⟨g9, 0, none⟩))] ac → Code.wp Tryd.prog c_li_r7 Q ac w := by
  refine frm_open ?_
  refine frame_li ?_
  intros
  rename_i hq
  obtain ⟨-, -, e0q, e1q, e2q, -⟩ := hq
  obtain rfl := sI e0q
  obtain rfl := sI e1q
  obtain rfl := sI e2q
  conv => arg 2; whnf
  have hq := fun (W : World) (h : Below w.heap.size w W) => eqFm_self fmZ.nodes fmZ [.int .i64 fmZ.lab.kind, .string fmZ.lab.nm, .slice A0 n0 c0, .slice B0 m0 d0] [.int .i64 0, .string ⟨#[]⟩, .slice none 0 0, .slice none 0 0] W (Lo W) (Nat.le_refl _) (fmRep.keep hr (fun b hb => h.block b hb) (fun b hb => Nat.lt_of_lt_of_le hb h.size)) fmZ_rep (fun _ h => h)
  have e0 := cellv he1 0 rfl
  have e1 := cellv he1 1 rfl
  have el := lt_heap he1
  have f0 := cellv he2 0 rfl
  have f1 := cellv he2 1 rfl
  have fl := lt_heap he2
  have s0 := cellv hg 0 rfl
  have s1 := cellv hg 1 rfl
  have s2 := cellv hg 2 rfl
  have s3 := cellv hg 3 rfl
  have sl := lt_heap hg
  clear he1 he2 hg hr
  have HN := Lib.hid hN
  have HQ := Lib.hid hq
  clear hN hq
  go_wp2_with fail
  (with_reducible refine (HQ.out _ ?hbel).mono ?_)
  case hbel => first | exact Below.refl _ _ | go_grown
  rintro e w1 ⟨rfl, hb1⟩
  have HB1 := Lib.hid hb1
  clear hb1
  go_wp2_with fail
  exact HN.out _ _ (id ⟨rfl, rfl, rfl, trivial⟩) (by first | exact HB1.out | exact (show Below w.heap.size w _ by go_grown).trans (HB1.out.mono (by simp)))
noncomputable def c_li_r8 : Code := sub [1, 1, 1, 1, 0, 0] (Tryd.f8.body.getD .skip)
set_option maxRecDepth 1000000 in
set_option maxHeartbeats 16000000 in
theorem li_r8_wp {Q : Exit → Act → World → Prop} {y : ByteArray} {g7 g8 : Nat} {kd : Int} {nm : ByteArray} {At Bt : Option Addr} {nt ct mt dt gi : Nat} {w : World} (hgi : w.heap[gi]? = some (.cells #[.int .i64 kd, .string nm, .slice At nt ct, .slice Bt mt dt] 25 (0, 0))) (hN : ∀ a', Frm 83 [(1, .string y), (2, .pointer (some ⟨gi, 0, none⟩)), (7, .pointer (some ⟨g7, 0, none⟩)), (8, .pointer (some ⟨g8, 0, none⟩)), (53, .bool (!isQu kd))] a' → Q .normal a' w) : ∀ ac, Frm 83 [(1, .string y), (2, .pointer (some ⟨gi, 0, none⟩)), (7, .pointer (some ⟨g7, 0, none⟩)), (8, .pointer (some ⟨g8, 0, none⟩))] ac → Code.wp Tryd.prog c_li_r8 Q ac w := by
  refine frm_open ?_
  refine frame_li ?_
  intros
  rename_i hq
  obtain ⟨-, -, e0q, e1q, e2q, e3q, -⟩ := hq
  obtain rfl := sI e0q
  obtain rfl := sI e1q
  obtain rfl := sI e2q
  obtain rfl := sI e3q
  conv => arg 2; whnf
  have i0 := cellv hgi 0 rfl
  have i1 := cellv hgi 1 rfl
  have i2 := cellv hgi 2 rfl
  have i3 := cellv hgi 3 rfl
  have il := lt_heap hgi
  clear hgi
  by_cases h8 : kd = 8
  · subst h8
    rw [show isQu 8 = true from rfl] at hN
    have HN := Lib.hid hN
    clear hN
    go_wp2_with fail
    exact HN.out _ (id ⟨rfl, rfl, rfl, rfl, rfl, rfl, rfl, trivial⟩)
  have t8 : (kd == 8) = false := beq_eq_false_iff_ne.2 h8
  have u8 : (kd != 8) = true := bne_iff_ne.2 h8
  by_cases h9 : kd = 9
  · subst h9
    rw [show isQu 9 = true from rfl] at hN
    have HN := Lib.hid hN
    clear hN
    go_wp2_with fail
    exact HN.out _ (id ⟨rfl, rfl, rfl, rfl, rfl, rfl, rfl, trivial⟩)
  have t9 : (kd == 9) = false := beq_eq_false_iff_ne.2 h9
  have u9 : (kd != 9) = true := bne_iff_ne.2 h9
  rw [show isQu kd = false from by simp [isQu, h8, h9]] at hN
  clear h8 h9
  have HN := Lib.hid hN
  clear hN
  go_wp2_with fail
  exact HN.out _ (id ⟨rfl, rfl, rfl, rfl, rfl, rfl, rfl, trivial⟩)
noncomputable def c_li_r9 : Code := sub [1, 1, 1, 1, 0, 1, 0, 0] (Tryd.f8.body.getD .skip)
set_option maxRecDepth 1000000 in
set_option maxHeartbeats 16000000 in
theorem li_r9_wp {Q : Exit → Act → World → Prop} {c j : Nat} {g7 g8 : Nat} {A0 B0 : Option Addr} {n0 c0 m0 d0 : Nat} {w : World} (he1 : w.heap[g8]? = some (.cells #[.int .i64 4, .int .i64 (-1)] 27 (0, 0))) (hg : w.heap[g7]? = some (.cells #[.int .i64 fmZ.lab.kind, .string fmZ.lab.nm, .slice A0 n0 c0, .slice B0 m0 d0] 25 (0, 0))) (hr : fmRep.R w (Lo w) (fmZ) [.int .i64 fmZ.lab.kind, .string fmZ.lab.nm, .slice A0 n0 c0, .slice B0 m0 d0]) (hN : ∀ a' w', Frm 83 [(4, .bool true)] a' → Below w.heap.size w w' → Q .normal a' w') : ∀ ac, Frm 83 [(7, .pointer (some ⟨g7, 0, none⟩)), (8, .pointer (some ⟨g8, 0, none⟩))] ac → Code.wp Tryd.prog c_li_r9 Q ac w := by
  refine frm_open ?_
  refine frame_li ?_
  intros
  rename_i hq
  obtain ⟨-, -, e0q, e1q, -⟩ := hq
  obtain rfl := sI e0q
  obtain rfl := sI e1q
  conv => arg 2; whnf
  have hq := fun (W : World) (h : Below w.heap.size w W) => eqFm_self fmZ.nodes fmZ [.int .i64 fmZ.lab.kind, .string fmZ.lab.nm, .slice A0 n0 c0, .slice B0 m0 d0] [.int .i64 0, .string ⟨#[]⟩, .slice none 0 0, .slice none 0 0] W (Lo W) (Nat.le_refl _) (fmRep.keep hr (fun b hb => h.block b hb) (fun b hb => Nat.lt_of_lt_of_le hb h.size)) fmZ_rep (fun _ h => h)
  have e0 := cellv he1 0 rfl
  have e1 := cellv he1 1 rfl
  have el := lt_heap he1
  have s0 := cellv hg 0 rfl
  have s1 := cellv hg 1 rfl
  have s2 := cellv hg 2 rfl
  have s3 := cellv hg 3 rfl
  have sl := lt_heap hg
  clear he1  hg hr
  have HN := Lib.hid hN
  have HQ := Lib.hid hq
  clear hN hq
  go_wp2_with fail
  (with_reducible refine (HQ.out _ ?hbel).mono ?_)
  case hbel => first | exact Below.refl _ _ | go_grown
  rintro e w1 ⟨rfl, hb1⟩
  have HB1 := Lib.hid hb1
  clear hb1
  go_wp2_with fail
  exact HN.out _ _ (id ⟨rfl, rfl, rfl, trivial⟩) (by first | exact HB1.out | exact (show Below w.heap.size w _ by go_grown).trans (HB1.out.mono (by simp)))
noncomputable def c_li_r10 : Code := sub [1, 1, 1, 1, 1, 0, 0] (Tryd.f8.body.getD .skip)
set_option maxRecDepth 1000000 in
set_option maxHeartbeats 16000000 in
theorem li_r10_wp {Q : Exit → Act → World → Prop} {y : ByteArray} {gi g7 g8 : Nat} {w : World} (hy : y.size ≤ maxLen) (hN : ∀ a', Frm 83 [(1, .string y), (2, .pointer (some ⟨gi, 0, none⟩)), (7, .pointer (some ⟨g7, 0, none⟩)), (8, .pointer (some ⟨g8, 0, none⟩)), (64, .bool (!okName y))] a' → Q .normal a' w) : ∀ ac, Frm 83 [(1, .string y), (2, .pointer (some ⟨gi, 0, none⟩)), (7, .pointer (some ⟨g7, 0, none⟩)), (8, .pointer (some ⟨g8, 0, none⟩))] ac → Code.wp Tryd.prog c_li_r10 Q ac w := by
  refine frm_open ?_
  refine frame_li ?_
  intros
  rename_i hq
  obtain ⟨-, -, e0q, e1q, e2q, e3q, -⟩ := hq
  obtain rfl := sI e0q
  obtain rfl := sI e1q
  obtain rfl := sI e2q
  obtain rfl := sI e3q
  conv => arg 2; whnf
  have hq := refName_any y w hy
  have HN := Lib.hid hN
  have HQ := Lib.hid hq
  clear hN hq
  go_wp2_with fail
  (with_reducible refine HQ.out.mono ?_)
  rintro e w1 ⟨rfl, rfl⟩
  go_wp2_with fail
  exact HN.out _ (id ⟨rfl, rfl, rfl, rfl, rfl, rfl, rfl, trivial⟩)
noncomputable def c_li_r11 : Code := sub [1, 1, 1, 1, 1, 0, 1, 0, 0] (Tryd.f8.body.getD .skip)
set_option maxRecDepth 1000000 in
set_option maxHeartbeats 16000000 in
theorem li_r11_wp {Q : Exit → Act → World → Prop} {c j : Nat} {g7 g8 : Nat} {A0 B0 : Option Addr} {n0 c0 m0 d0 : Nat} {w : World} (he1 : w.heap[g8]? = some (.cells #[.int .i64 10, .int .i64 (-2)] 27 (0, 0))) (hg : w.heap[g7]? = some (.cells #[.int .i64 fmZ.lab.kind, .string fmZ.lab.nm, .slice A0 n0 c0, .slice B0 m0 d0] 25 (0, 0))) (hr : fmRep.R w (Lo w) (fmZ) [.int .i64 fmZ.lab.kind, .string fmZ.lab.nm, .slice A0 n0 c0, .slice B0 m0 d0]) (hN : ∀ a' w', Frm 83 [(4, .bool true)] a' → Below w.heap.size w w' → Q .normal a' w') : ∀ ac, Frm 83 [(7, .pointer (some ⟨g7, 0, none⟩)), (8, .pointer (some ⟨g8, 0, none⟩))] ac → Code.wp Tryd.prog c_li_r11 Q ac w := by
  refine frm_open ?_
  refine frame_li ?_
  intros
  rename_i hq
  obtain ⟨-, -, e0q, e1q, -⟩ := hq
  obtain rfl := sI e0q
  obtain rfl := sI e1q
  conv => arg 2; whnf
  have hq := fun (W : World) (h : Below w.heap.size w W) => eqFm_self fmZ.nodes fmZ [.int .i64 fmZ.lab.kind, .string fmZ.lab.nm, .slice A0 n0 c0, .slice B0 m0 d0] [.int .i64 0, .string ⟨#[]⟩, .slice none 0 0, .slice none 0 0] W (Lo W) (Nat.le_refl _) (fmRep.keep hr (fun b hb => h.block b hb) (fun b hb => Nat.lt_of_lt_of_le hb h.size)) fmZ_rep (fun _ h => h)
  have e0 := cellv he1 0 rfl
  have e1 := cellv he1 1 rfl
  have el := lt_heap he1
  have s0 := cellv hg 0 rfl
  have s1 := cellv hg 1 rfl
  have s2 := cellv hg 2 rfl
  have s3 := cellv hg 3 rfl
  have sl := lt_heap hg
  clear he1  hg hr
  have HN := Lib.hid hN
  have HQ := Lib.hid hq
  clear hN hq
  go_wp2_with fail
  (with_reducible refine (HQ.out _ ?hbel).mono ?_)
  case hbel => first | exact Below.refl _ _ | go_grown
  rintro e w1 ⟨rfl, hb1⟩
  have HB1 := Lib.hid hb1
  clear hb1
  go_wp2_with fail
  exact HN.out _ _ (id ⟨rfl, rfl, rfl, trivial⟩) (by first | exact HB1.out | exact (show Below w.heap.size w _ by go_grown).trans (HB1.out.mono (by simp)))
noncomputable def c_li_r12 : Code := sub [1, 1, 1, 1, 1, 1, 0] (Tryd.f8.body.getD .skip)
set_option maxRecDepth 1000000 in
set_option maxHeartbeats 16000000 in
theorem li_r12_wp {K : Act → World → Prop} {t : Fm} {At Bt : Option Addr} {nt ct mt dt : Nat} {gi : Nat} {A0 B0 : Option Addr} {n0 c0 m0 d0 : Nat} {T1 : Fm} {y : ByteArray} {g7 g8 : Nat} {w : World} (g0 : w.cell? ⟨0, 0, none⟩ = some (.int .i64 0)) (g1 : w.cell? ⟨0, 1, none⟩ = some (.int .i64 0)) (he : w.heap[g8]? = some (.cells #[.int .i64 0, .int .i64 0] 27 (0, 0))) (hg : w.heap[g7]? = some (.cells #[.int .i64 T1.lab.kind, .string T1.lab.nm, .slice A0 n0 c0, .slice B0 m0 d0] 25 (0, 0))) (hgi : w.heap[gi]? = some (.cells #[.int .i64 t.lab.kind, .string t.lab.nm, .slice At nt ct, .slice Bt mt dt] 25 (0, 0))) (hc : ∀ W : World, Below w.heap.size w W → Calls Tryd.prog 33 #[.agg #[.int .i64 t.lab.kind, .string t.lab.nm, .slice At nt ct, .slice Bt mt dt], .string y] W fun e w' => ∃ es : List Value, e = .returned (.agg es.toArray) ∧ fmRep.R w' (Lo w') T1 es ∧ Below w.heap.size w w') (hq : ∀ (W : World) (es : List Value), fmRep.R W (Lo W) T1 es → Below w.heap.size w W → Calls Tryd.prog 26 #[.agg #[.int .i64 T1.lab.kind, .string T1.lab.nm, .slice A0 n0 c0, .slice B0 m0 d0], .agg es.toArray] W fun e w' => e = .returned (.bool true) ∧ Below W.heap.size W w') (hN : ∀ a' w', Frm 83 [(4, .bool true)] a' → Below w.heap.size w w' → K a' w') : ∀ ac, Frm 83 [(1, .string y), (2, .pointer (some ⟨gi, 0, none⟩)), (7, .pointer (some ⟨g7, 0, none⟩)), (8, .pointer (some ⟨g8, 0, none⟩))] ac → Code.wp Tryd.prog c_li_r12 (Exit.then K (fun _ _ _ => False)) ac w := by
  refine frm_open ?_
  refine frame_li ?_
  intros
  rename_i hq
  obtain ⟨-, -, e0q, e1q, e2q, e3q, -⟩ := hq
  obtain rfl := sI e0q
  obtain rfl := sI e1q
  obtain rfl := sI e2q
  obtain rfl := sI e3q
  conv => arg 2; whnf
  have e0 := cellv he 0 rfl
  have e1 := cellv he 1 rfl
  have el := lt_heap he
  have f0 := cellv hg 0 rfl
  have f1 := cellv hg 1 rfl
  have f2 := cellv hg 2 rfl
  have f3 := cellv hg 3 rfl
  have fl := lt_heap hg
  have i0 := cellv hgi 0 rfl
  have i1 := cellv hgi 1 rfl
  have i2 := cellv hgi 2 rfl
  have i3 := cellv hgi 3 rfl
  have il := lt_heap hgi
  have lg := World.block_lt_of_cell? w _ g0
  have HC := Lib.hid hc
  have HQ := Lib.hid hq
  clear he hg hgi hc hq
  have HN := Lib.hid hN
  clear hN
  go_region_held3 (fun w' => w'.cell? ⟨g8, 0, none⟩ = some (.int .i64 0) ∧ w'.cell? ⟨g8, 1, none⟩ = some (.int .i64 0) ∧ w'.cell? ⟨0, 0, none⟩ = some (.int .i64 0) ∧ w'.cell? ⟨0, 1, none⟩ = some (.int .i64 0) ∧ w'.cell? ⟨g7, 0, none⟩ = some (.int .i64 T1.lab.kind) ∧ w'.cell? ⟨g7, 1, none⟩ = some (.string T1.lab.nm) ∧ w'.cell? ⟨g7, 2, none⟩ = some (.slice A0 n0 c0) ∧ w'.cell? ⟨g7, 3, none⟩ = some (.slice B0 m0 d0) ∧ w'.cell? ⟨gi, 0, none⟩ = some (.int .i64 t.lab.kind) ∧ w'.cell? ⟨gi, 1, none⟩ = some (.string t.lab.nm) ∧ w'.cell? ⟨gi, 2, none⟩ = some (.slice At nt ct) ∧ w'.cell? ⟨gi, 3, none⟩ = some (.slice Bt mt dt))
    ((first | (go_keep; done) | (go_split_ands; (repeat' apply And.intro) <;> (refine (kc5 _ _ (by omega)).trans ?_; assumption)) | (go_split_ands; (repeat' apply And.intro) <;> (refine (kc4 _ _ (by omega)).trans ?_; assumption))))
    (first
      | ((with_reducible refine (HC.out _ ?hbel).mono ?_); (case hbel => first | exact Below.refl _ _ | exact (Below.refl _ _).drew); rintro e w4 ⟨es, rfl, hr4, hw4⟩; obtain ⟨A5, n5, c5, B5, n6, c6, rfl, _, _, _, _⟩ := Fm.shape hr4; have kc4 : ∀ k q, k < w.heap.size → w4.cell? ⟨k, q, none⟩ = _ := (fun k q h => hw4.cell (p := ⟨k, q, none⟩) h); have z4 : w.heap.size ≤ w4.heap.size := hw4.size; have hq4 := HQ.out w4 _ hr4 hw4; have HQ4 := Lib.hid hq4; have HW4 := Lib.hid hw4; clear hw4 hr4 hq4)
      | ((with_reducible refine HQ4.out.mono ?_); rintro e w5 ⟨rfl, hw5⟩; have kc5 : ∀ k q, k < w4.heap.size → w5.cell? ⟨k, q, none⟩ = _ := (fun k q h => hw5.cell (p := ⟨k, q, none⟩) h); have HW5 := Lib.hid hw5; clear hw5)
      | fail)
  all_goals go_wp2_with fail
  all_goals exact HN.out _ _ (id ⟨rfl, rfl, rfl, trivial⟩) (HW4.out.trans (HW5.out.mono (by omega)))
set_option maxRecDepth 1000000 in
theorem li_ret_wp {R : Ending → World → Prop} {w' : World} (hR : R (.returned (.bool true)) w') : ∀ ac, Frm 83 [(4, .bool true)] ac → bodyPost Tryd.prog Tryd.f8 R .ret ac w' := by
  refine frm_open ?_
  refine frame_li ?_
  intros
  rename_i hq
  obtain ⟨-, -, e0q, -⟩ := hq
  obtain rfl := sI e0q
  refine bodyPost_ret (v := .bool true) (by simp [results, Tryd.results8, go_sem]) rfl ?_
  exact hR
end

section
open Go Go.RowKit
set_option linter.unusedSimpArgs false
set_option linter.unusedVariables false

set_option maxRecDepth 100000 in
set_option maxHeartbeats 4000000 in
theorem instLaw_any (t : Fm) (cs : List Value) (y : ByteArray) (w : World) (S : Nat → Prop) (ht : fmRepC.R w S t cs) (hy : y.size ≤ maxLen) (hS : ∀ b, S b → b < w.heap.size) (g0 : w.cell? ⟨0, 0, none⟩ = some (.int .i64 0)) (g1 : w.cell? ⟨0, 1, none⟩ = some (.int .i64 0)) (htab : ∀ W2, Below w.heap.size w W2 → Lib.TabIs Tryd.prog W2 "internal/strconv.uint64pow10" .u64 Lib.pow10Tab) : Calls Tryd.prog 8 #[.agg cs.toArray, .string y] w fun e w' => e = .returned (.bool true) ∧ Below w.heap.size w w' := by
  obtain ⟨At, nt, ct, Bt, mt, dt, rfl, _, _, _, _⟩ := Fm.shape (Fm.ofC ht)
  go_enter Tryd.func8, Tryd.ntmps8
  have lg := World.block_lt_of_cell? w _ g0
  have hret : ∀ a' w', Frm 83 [(4, .bool true)] a' → Below w.heap.size w w' → bodyPost Tryd.prog Tryd.f8 (fun e w' => e = .returned (.bool true) ∧ Below w.heap.size w w') .ret a' w' := fun a' w' h hb => li_ret_wp ⟨rfl, hb⟩ a' h
  have gg := fun (W : World) (hb : Below w.heap.size w W) => And.intro ((hb.cell (p := ⟨0, 0, none⟩) lg).trans g0) ((hb.cell (p := ⟨0, 1, none⟩) lg).trans g1)
  have hold := fun (W : World) (hb : Below w.heap.size w W) => fmRep.keep (w' := W) (S' := Lo W) (Fm.ofC ht) (fun b hbS => hb.block b (hS b hbS)) (fun b hbS => Nat.lt_of_lt_of_le (hS b hbS) hb.size)
  have htb := fun (W : World) (hb : Below w.heap.size w W) => fun (W2 : World) (h2 : Below W.heap.size W W2) => htab W2 (hb.trans (h2.mono hb.size))
  obtain ⟨hix, hcx⟩ := insT_fvB (k := 8) (a := (⟨#[120]⟩ : ByteArray)) (y := (⟨#[107, 105, 109]⟩ : ByteArray)) (Or.inl rfl) (by decide +kernel) (by decide +kernel)
  refine wp_seq ?_
  refine li_r0_wp (z := ⟨#[]⟩) (fun a0 w0 h0 hgi hz0 hb0 => ?_) _ (id ⟨rfl, rfl, rfl, rfl, trivial⟩)
  refine wp_seq ?_
  refine wp_seq ?_
  refine li_r1_wp (fun W cs9 hr9 hb9 => ?_) (fun A0 n0 c0 B0 m0 d0 gf ge a1 w1 h1 hgf hge hne hrp hb1' => ?_) a0 ⟨h0.1, h0.2.1, h0.2.2.2.1, h0.2.2.1, trivial⟩
  · have h9 := instance_any _ (⟨#[107, 105, 109]⟩ : ByteArray) (by decide +kernel) cs9 W _ hr9 (fun _ h => h) (htb W (hb0.trans (hb9.mono hb0.size)))
    rw [hix, hcx] at h9
    exact h9
  have hb1 := hb0.trans (hb1'.mono hb0.size)
  refine wp_seq ?_
  refine Code.wp_mono (Q := Exit.then (fun a' w' => Frm 83 [(1, .string y), (2, .pointer (some ⟨w.heap.size, 0, none⟩)), (26, .bool false)] a' ∧ Below w1.heap.size w1 w') (fun _ _ _ => False)) ?_ (li_r2_wp (gg _ hb1).1 (gg _ hb1).2 hgf hge hrp (fun a5 w5 h5 hb5 => ⟨h5, hb5⟩) a1 h1)
  intro e a2 w2 hx2
  cases e with
  | normal =>
    obtain ⟨h2, hb2'⟩ := hx2
    refine wp_cond_false ((h2.eval (k := 26) (v := .bool false) (by simp)).trans rfl) ?_
    refine wp_skip ?_
    show Code.wp _ _ _ a2 w2
    have hb2 := hb1.trans (hb2'.mono hb1.size)
    have hgi2 := (hb2'.block _ (by have := hb1'.size; omega)).trans ((hb1'.block _ hz0).trans hgi)
    refine wp_seq ?_
    refine li_r4_wp (T1 := insT t y) (c := (insC t y).1) (j := (insC t y).2) hgi2 (instance_any t y hy _ w2 _ (hold w2 hb2) (fun _ h => h) (htb w2 hb2)) (fun A1 n1 c1 B1 m1 d1 g7 g8 a3 w3 h3 hg7 hg8 hne3 hr3 hb3' => ?_) a2 ⟨h2.1, h2.2.1, h2.2.2.1, h2.2.2.2.1, trivial⟩
    have hb3 := hb2.trans (hb3'.mono hb2.size)
    have hgi3 := (hb3'.block _ (lt_heap hgi2)).trans hgi2
    refine wp_seq ?_
    refine wp_seq ?_
    refine li_r5_wp hgi3 (refFormFault_any t _ w3 _ (hold w3 hb3) (fun _ h => h)) (fun g9 a4 w4 h4 hg9 hb4' => ?_) a3 h3
    have hb4 := hb3.trans (hb4'.mono hb3.size)
    have hgi4 := (hb4'.block _ (lt_heap hgi3)).trans hgi3
    have hg74 := (hb4'.block _ (lt_heap hg7)).trans hg7
    have hg84 := (hb4'.block _ (lt_heap hg8)).trans hg8
    have hr4 := fmRep.keep (w' := w4) (S' := Lo w4) hr3 (fun b hb => hb4'.block b hb) (fun b hb => Nat.lt_of_lt_of_le hb hb4'.size)
    refine wp_seq ?_
    by_cases hf : (fmFault t).1 = 0
    case neg =>
      have hct : insT t y = fmZ := if_neg (fun h => hf h.1)
      have hcc : insC t y = ((((fmFault t).1 : Nat) : Int), (((fmFault t).2 : Nat) : Int)) := if_pos hf
      rw [hct] at hg74 hr4
      rw [hcc] at hg84
      refine li_r6c_wp (gg _ hb4).1 (gg _ hb4).2 hf hg9 (fun a5 h5 => ?_) a4 h4
      refine wp_cond_true ((h5.eval (k := 37) (v := .bool true) (by simp)).trans rfl) ?_
      refine wp_seq ?_
      refine li_r7_wp hg84 hg9 hg74 hr4 (fun a6 w6 h6 hb6 => ?_) a5 ⟨h5.1, h5.2.1, h5.2.2.2.2.1, h5.2.2.2.2.2.1, h5.2.2.2.2.2.2.1, trivial⟩
      refine wp_ret ?_
      repeat (first | refine then_ret ?_ | refine inBlock_ret ?_)
      exact hret a6 _ h6 (hb4.trans (hb6.mono hb4.size))
    obtain ⟨v, rfl, ov, nv, dv, ev⟩ := fmFault_ok hf
    have hg94 : w4.heap[g9]? = some (.cells #[.int .i64 0, .int .i64 0] 27 (0, 0)) := by
      have h := hg9
      change w4.heap[g9]? = some (.cells #[.int .i64 ((fmFault v.fm).1 : Nat), .int .i64 ((fmFault v.fm).2 : Nat)] 27 (0, 0)) at h
      rw [ev] at h
      exact h
    refine li_r6z_wp (gg _ hb4).1 (gg _ hb4).2 hg94 (fun a5 h5 => ?_) a4 h4
    refine wp_cond_false ((h5.eval (k := 37) (v := .bool false) (by simp)).trans rfl) ?_
    refine wp_skip ?_
    show Code.wp _ _ _ a5 w4
    refine wp_seq ?_
    refine wp_seq ?_
    refine li_r8_wp hgi4 (fun a6 h6 => ?_) a5 ⟨h5.1, h5.2.1, h5.2.2.1, h5.2.2.2.1, h5.2.2.2.2.1, h5.2.2.2.2.2.1, trivial⟩
    cases hq : isQu v.fm.lab.kind
    · rw [hq] at h6
      have hct : insT v.fm y = fmZ := if_neg (fun h => by rw [hq] at h; cases h.2.1)
      have hcc : insC v.fm y = (4, -1) := by
        unfold insC
        rw [if_neg (fun h => h hf), if_pos hq]
      rw [hct] at hg74 hr4
      rw [hcc] at hg84
      refine wp_cond_true ((h6.eval (k := 53) (v := .bool (!false)) (by simp)).trans (by rw [show (!false) = true from rfl])) ?_
      refine wp_seq ?_
      refine li_r9_wp (c := 0) (j := 0) hg84 hg74 hr4 (fun a7 w7 h7 hb7 => ?_) a6 ⟨h6.1, h6.2.1, h6.2.2.2.2.1, h6.2.2.2.2.2.1, trivial⟩
      refine wp_ret ?_
      repeat (first | refine then_ret ?_ | refine inBlock_ret ?_)
      exact hret a7 _ h7 (hb4.trans (hb7.mono hb4.size))
    rw [hq] at h6
    refine wp_cond_false ((h6.eval (k := 53) (v := .bool (!true)) (by simp)).trans (by rw [show (!true) = false from rfl])) ?_
    refine wp_skip ?_
    show Code.wp _ _ _ a6 w4
    refine wp_seq ?_
    refine wp_seq ?_
    refine li_r10_wp hy (fun a7 h7 => ?_) a6 ⟨h6.1, h6.2.1, h6.2.2.1, h6.2.2.2.1, h6.2.2.2.2.1, h6.2.2.2.2.2.1, trivial⟩
    cases hok : okName y
    · rw [hok] at h7
      have hct : insT v.fm y = fmZ := if_neg (fun h => by rw [hok] at h; cases h.2.2)
      have hcc : insC v.fm y = (10, -2) := by
        unfold insC
        rw [if_neg (fun h => h hf), if_neg (by rw [hq]; decide), if_pos hok]
      rw [hct] at hg74 hr4
      rw [hcc] at hg84
      refine wp_cond_true ((h7.eval (k := 64) (v := .bool (!false)) (by simp)).trans (by rw [show (!false) = true from rfl])) ?_
      refine wp_seq ?_
      refine li_r11_wp (c := 0) (j := 0) hg84 hg74 hr4 (fun a8 w8 h8 hb8 => ?_) a7 ⟨h7.1, h7.2.1, h7.2.2.2.2.1, h7.2.2.2.2.2.1, trivial⟩
      refine wp_ret ?_
      repeat (first | refine then_ret ?_ | refine inBlock_ret ?_)
      exact hret a8 _ h8 (hb4.trans (hb8.mono hb4.size))
    rw [hok] at h7
    refine wp_cond_false ((h7.eval (k := 64) (v := .bool (!true)) (by simp)).trans (by rw [show (!true) = false from rfl])) ?_
    refine wp_skip ?_
    show Code.wp _ _ _ a7 w4
    obtain ⟨kn, x, f, rfl⟩ := Fv.qu_of hq ov
    have hct : insT (Fv.qu kn x f).fm y = canF [(x, y)] f.fm := if_pos ⟨hf, hq, hok⟩
    have hcc : insC (Fv.qu kn x f).fm y = (0, 0) := by
      unfold insC
      rw [if_neg (fun h => h hf), if_neg (by rw [hq]; decide), if_neg (by rw [hok]; decide)]
    rw [hct] at hg74 hr4
    rw [hcc] at hg84
    have hcr : canR [(x, y)] f.fm = canF [(x, y)] f.fm := canR_canF [(x, y)] f.fm (gB_of_ok ov.2.2) (by simp; exact fun j => okName_bang hok j)
    refine wp_seq ?_
    refine Code.wp_mono (Q := Exit.then (fun a' w' => Frm 83 [(4, .bool true)] a' ∧ Below w4.heap.size w4 w') (fun _ _ _ => False)) ?_ (li_r12_wp (gg _ hb4).1 (gg _ hb4).2 hg84 hg74 hgi4 (fun W hb => ?_) (fun W es hr hb => ?_) (fun a6 w6 h6 hb6 => ⟨h6, hb6⟩) a7 ⟨h7.1, h7.2.1, h7.2.2.1, h7.2.2.2.1, h7.2.2.2.2.1, h7.2.2.2.2.2.1, trivial⟩)
    · intro ex a6 w6 hx6
      cases ex with
      | normal =>
        obtain ⟨h6, hb6⟩ := hx6
        show Code.wp _ _ _ a6 w6
        refine wp_ret ?_
        exact hret a6 _ h6 (hb4.trans (hb6.mono hb4.size))
      | _ => exact hx6.elim
    · refine (refInstanceOf_any kn x y f ov nv hy _ W _ (hold W (hb4.trans (hb.mono hb4.size))) (fun _ h => h)).mono ?_
      rintro e w' ⟨es, rfl, hr, hb9⟩
      rw [hcr] at hr
      exact ⟨es, rfl, fmRep.keep hr (fun _ _ => rfl) (fun b hb => hb.2), hb.trans (hb9.mono hb.size)⟩
    · exact eqFm_self _ _ _ es W (Lo W) (Nat.le_refl _) (fmRep.keep hr4 (fun b h => hb.block b h) (fun b h => Nat.lt_of_lt_of_le h hb.size)) hr (fun _ h => h)
  | _ => exact hx2.elim
end

end Go.Proofs.YtdofemkfmkopcaaDoor
