/-
  The law TermTextsRoundTrip: the walk.
-/
import Derived.Test.YtnoceodmnjhljaaDoorProg
import Derived.Test.YtnoceodmnjhljaaDoorTParse
import Derived.Test.YtnoceodmnjhljaaDoorPrintTm
import Derived.Test.YtnoceodmnjhljaaDoorEqTy
import Derived.Deep.DeepCutAuto
namespace Go.Proofs.YtnoceodmnjhljaaDoor
open Go Go.RowKit
set_option linter.unusedSimpArgs false
set_option linter.unusedVariables false

def tvKim : Tv := .con ⟨#[107, 105, 109]⟩ .e
theorem tvKim_text : tvKim.text = [107, 105, 109, 58, 101] := by
  simp only [tvKim, Tv.text, Sy.bytes]
  rfl
theorem tvKim_ok : tvKim.ok 0 := ⟨by decide +kernel, by show Sy.e.ty.fault = 0; unfold Ty.fault; rw [Sy.val_ok .e 1 0 (by decide) (by decide)]⟩
theorem tp_kim : tpC ⟨#[107, 105, 109, 58, 101]⟩ = (0, 0) ∧ tpT ⟨#[107, 105, 109, 58, 101]⟩ = tvKim.tm := by
  have h := tp_text (v := tvKim) (s := .e) tvKim_ok (by decide) (by decide) rfl (by rw [tvKim_text]; decide)
  rwa [tvKim_text] at h
/-- What Parse leaves of "kim:e". -/
def KimAt (w : World) (e : Ending) (w' : World) : Prop :=
  ∃ s A n c B m d, e = .returned (.tuple #[.agg #[.int .i64 1, .string ⟨#[107, 105, 109]⟩, .int .i64 0, .string s, .slice A n c, .slice B m d], .agg #[.int .i64 0, .int .i64 0]]) ∧ Below w.heap.size w w'
theorem kim_any (w : World) : Calls Tryd.prog 6 #[.string ⟨#[107, 105, 109, 58, 101]⟩] w (KimAt w) := by
  refine (tparse_any ⟨#[107, 105, 109, 58, 101]⟩ w (by decide +kernel)).mono ?_
  unfold TParseAt
  rw [tp_kim.1, tp_kim.2]
  rintro e w' ⟨es, rfl, h1, h2⟩
  obtain ⟨s1, A1, n1, c1, B1, m1, d1, rfl, _, _⟩ := Tm.shape h1
  exact ⟨s1, A1, n1, c1, B1, m1, d1, rfl, h2⟩
set_option maxRecDepth 100000 in
set_option maxHeartbeats 4000000 in
theorem roundLaw_any (t : Tm) (cs : List Value) (w : World) (S : Nat → Prop) (ht : tmRep.R w S t cs) (hS : ∀ b, S b → b < w.heap.size)
    (g0 : w.cell? ⟨0, 0, none⟩ = some (.int .i64 0)) (g1 : w.cell? ⟨0, 1, none⟩ = some (.int .i64 0)) :
    Calls Tryd.prog 5 #[.agg cs.toArray] w fun e w' => e = .returned (.bool true) ∧ Below w.heap.size w w' := by
  obtain ⟨s1, A1, n1, c1, B1, m1, d1, rfl, _, _⟩ := Tm.shape ht
  have hg := World.block_lt_of_cell? w _ g0
  have HB0 : Hid (Below w.heap.size w w) := Lib.hid (Below.refl _ w)
  have HT := Lib.hid ht
  have HS := Lib.hid hS
  have G0 := Lib.hid g0
  have G1 := Lib.hid g1
  clear ht hS g0 g1
  have hstr : ((⟨#[107, 105, 109]⟩ : ByteArray).toList == [107, 105, 109]) = true := by decide +kernel
  go_enter Tryd.func5, Tryd.ntmps5
  go_wp2_with fail
  (with_reducible refine (kim_any _).mono ?_)
  rintro e w1 ⟨s3, A3, n3, c3, B3, m3, d3, rfl, hw⟩
  have zw1 : w.heap.size + 1 ≤ w1.heap.size := by have := hw.size; simpa using this
  have p0 := (hw.block w.heap.size (by simp)).trans (heap_at rfl)
  have hB1 : Below w.heap.size w w1 := (HB0.out.alloc (by omega) (.cells #[.int .i64 t.lab.kind, .string t.lab.nm, .int .i64 t.lab.ix, .string s1, .slice A1 n1 c1, .slice B1 m1 d1] 27)).trans (hw.mono (by first | (simp; done) | (simp; omega)))
  have c0' := (hB1.cell (p := ⟨0, 0, none⟩) hg).trans G0.out
  have c1' := (hB1.cell (p := ⟨0, 1, none⟩) hg).trans G1.out
  have lw1 : 0 < w1.heap.size := by omega
  have lw1b : 0 < w1.heap.size + 1 := by omega
  have lw1c : 0 < w1.heap.size + 1 + 1 := by omega
  have lp : w.heap.size < w1.heap.size + 1 := by omega
  have lp2 : w.heap.size < w1.heap.size + 1 + 1 := by omega
  clear hw
  have HB1 := Lib.hid hB1
  clear hB1
  have p0_0 := cv0 p0
  have p0_1 := cv1 p0
  have p0_2 := cv2 p0
  have p0_3 := cv3 p0
  have p0_4 := cv4 p0
  have p0_5 := cv5 p0
  have p0_l := lt_heap p0
  have P0 := Lib.hid p0
  clear p0
  have hpt := fun (o p : Obj) => Lib.hid (printTm_any t [.int .i64 t.lab.kind, .string t.lab.nm, .int .i64 t.lab.ix, .string s1, .slice A1 n1 c1, .slice B1 m1 d1] ((w1.alloc o).alloc p) S (tmRep.keep HT.out (fun k hk => (heap_old (by have := HS.out k hk; simp; omega) (heap_old (by have := HS.out k hk; omega) rfl)).trans (HB1.out.block k (HS.out k hk))) (fun _ h => h)) (fun k hk => by have := HS.out k hk; simp; omega))
  have HPT := Lib.hid hpt
  clear hpt
  go_wp2_with fail
  (with_reducible refine (HPT.out _ _).out.mono ?_)
  rintro e w2 ⟨hr, hw⟩
  have zw2 : w1.heap.size + 2 ≤ w2.heap.size := by have := hw.size; simpa using this
  have p0 := (hw.block w.heap.size (by simp; omega)).trans (heap_old (by simp; omega) (heap_old p0_l P0.out))
  have hB2 : Below w.heap.size w w2 := Below.trans (show Below w.heap.size w _ from (HB1.out.alloc (by omega) _).alloc (by simp; omega) _) (hw.mono (by simp; omega))
  have c0' := (hB2.cell (p := ⟨0, 0, none⟩) hg).trans G0.out
  have c1' := (hB2.cell (p := ⟨0, 1, none⟩) hg).trans G1.out
  have lw2 : 0 < w2.heap.size := by omega
  have lw2b : 0 < w2.heap.size + 1 := by omega
  have lq : w.heap.size < w2.heap.size + 1 := by omega
  clear hw p0_0 p0_1 p0_2 p0_3 p0_4 p0_5 p0_l lw1 lw1b lw1c lp lp2
  have HB2 := Lib.hid hB2
  clear hB2
  have p0_0 := cv0 p0
  have p0_1 := cv1 p0
  have p0_2 := cv2 p0
  have p0_3 := cv3 p0
  have p0_4 := cv4 p0
  have p0_5 := cv5 p0
  have p0_l := lt_heap p0
  have P0 := Lib.hid p0
  clear p0
  have hcase : (∃ (c i : Int), c ≠ 0 ∧ e = .returned (.tuple #[.string ⟨#[]⟩, .agg #[.int .i64 c, .int .i64 i]])) ∨ (∃ (v : Tv) (s : Sy), t = v.tm ∧ v.ok 0 ∧ v.nodes ≤ 200 ∧ v.depth ≤ 40 ∧ v.typ [] = some s ∧ v.text.length ≤ 4000 ∧ e = .returned (.tuple #[.string ⟨v.text.toArray⟩, .agg #[.int .i64 0, .int .i64 0]])) := by
    by_cases hz : (tmFault t).1 = 0
    · obtain ⟨v, s, rfl, h1, h2, h3, h4, _⟩ := tmFault_zero hz
      have h5 := hr.2 v rfl hz
      rcases Nat.lt_or_ge 4000 v.text.length with h6 | h6
      · exact Or.inl ⟨1, 0, by decide, h5.1 h6⟩
      · exact Or.inr ⟨v, s, rfl, h1, h2, h3, h4, h6, h5.2 h6⟩
    · exact Or.inl ⟨_, _, by omega, hr.1 hz⟩
  clear hr
  rcases hcase with ⟨c, i, hc, rfl⟩ | ⟨v, s, rfl, ov, nv, dv, tv, lv, rfl⟩
  · have hc1 : (c == 0) = false := beq_eq_false_iff_ne.2 hc
    clear hc
    go_wp2_with fail
    go_returns
    exact ⟨rfl, HB2.out.alloc (by omega) _⟩
  obtain ⟨tc, tt⟩ := tp_text ov nv dv tv lv
  obtain ⟨x, ex, zx⟩ := v.string
  rw [ex] at tc tt ⊢
  have hpa := fun (W : World) => tparse_any x W (by unfold maxLen; omega)
  unfold TParseAt at hpa
  rw [tc, tt] at hpa
  clear tc tt ex
  have HPA := Lib.hid hpa
  clear hpa
  go_wp2_with fail
  (with_reducible refine (HPA.out _).mono ?_)
  rintro e w3 ⟨es, rfl, hu, hw⟩
  obtain ⟨s4, A4, n4, c4, B4, m4, d4, rfl, _, _⟩ := Tm.shape hu
  have zw3 : w2.heap.size + 1 ≤ w3.heap.size := by have := hw.size; simpa using this
  have p0 := (hw.block w.heap.size (by simp; omega)).trans (heap_old p0_l P0.out)
  have hB3 : Below w.heap.size w w3 := (HB2.out.alloc (by omega) (.cells #[.int .i64 0, .int .i64 0] 29)).trans (hw.mono (by simp; omega))
  have c0' := (hB3.cell (p := ⟨0, 0, none⟩) hg).trans G0.out
  have c1' := (hB3.cell (p := ⟨0, 1, none⟩) hg).trans G1.out
  have lw3 : 0 < w3.heap.size := by omega
  have lw3b : 0 < w3.heap.size + 1 := by omega
  have lw3c : 0 < w3.heap.size + 1 + 1 := by omega
  have lr : w.heap.size < w3.heap.size + 1 := by omega
  have lr2 : w.heap.size < w3.heap.size + 1 + 1 := by omega
  clear p0_0 p0_1 p0_2 p0_3 p0_4 p0_5 p0_l lw2 lw2b lq hw
  have heq := fun (o p : Obj) => Lib.hid (eqTm_any v.tm.nodes v.tm v.tm [.int .i64 v.tm.lab.kind, .string v.tm.lab.nm, .int .i64 v.tm.lab.ix, .string s1, .slice A1 n1 c1, .slice B1 m1 d1] [.int .i64 v.tm.lab.kind, .string v.tm.lab.nm, .int .i64 v.tm.lab.ix, .string s4, .slice A4 n4 c4, .slice B4 m4 d4] ((w3.alloc o).alloc p) (Lo w3) (Nat.le_refl _)
    (tmRep.keep HT.out (fun k hk => (heap_old (by have := HS.out k hk; simp; omega) (heap_old (by have := HS.out k hk; omega) rfl)).trans (hB3.block k (HS.out k hk))) (fun k hk => by have := HS.out k hk; exact (show k < w3.heap.size by omega)))
    (tmRep.keep hu (fun k hk => heap_old (by have := hk.2; simp; omega) (heap_old hk.2 rfl)) (fun k hk => hk.2)) (fun k hk => by have : k < w3.heap.size := hk; simp; omega))
  rw [tmBeq_self] at heq
  have HB3 := Lib.hid hB3
  have HEQ := Lib.hid heq
  have HU := Lib.hid hu
  clear hB3 heq hu
  have p0_0 := cv0 p0
  have p0_1 := cv1 p0
  have p0_2 := cv2 p0
  have p0_3 := cv3 p0
  have p0_4 := cv4 p0
  have p0_5 := cv5 p0
  have p0_l := lt_heap p0
  have P0 := Lib.hid p0
  clear p0
  go_wp2_with fail
  (with_reducible refine (HEQ.out _ _).out.mono ?_)
  rintro e w4 ⟨rfl, hw⟩
  have hB4 : Below w.heap.size w w4 := Below.trans (show Below w.heap.size w _ from (HB3.out.alloc (by omega) _).alloc (by simp; omega) _) (hw.mono (by simp; omega))
  have HB4 := Lib.hid hB4
  clear hB4
  clear hw
  go_wp2_with fail
  go_returns
  exact ⟨rfl, HB4.out⟩

end Go.Proofs.YtnoceodmnjhljaaDoor
