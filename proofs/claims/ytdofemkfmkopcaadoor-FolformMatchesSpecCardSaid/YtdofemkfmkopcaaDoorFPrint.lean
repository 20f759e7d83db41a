/-
  folform.write joined; folform.Text, folform.Print: the walks.
-/
import Derived.Test.YtdofemkfmkopcaaDoorFWrite
import Derived.Test.YtdofemkfmkopcaaDoorCkC
import Derived.Test.YtdofemkfmkopcaaDoorFmText
namespace Go.Proofs.YtdofemkfmkopcaaDoor
open Go Go.RowKit
set_option linter.unusedSimpArgs false
set_option linter.unusedVariables false

noncomputable def c_wr_p21 : Code := sub [1, 1, 0, 1, 1, 1, 1, 1, 1, 1, 1, 1, 0, 1, 1] (Tryd.f56.body.getD .skip)
set_option maxRecDepth 100000 in
set_option maxHeartbeats 4000000 in
theorem writeFm_any : ∀ (v : Fv) (cs : List Value) (w : World) (S : Nat → Prop) (base b : Nat) (l : List UInt8), v.ok → fmRepC.R w S v.fm cs → (∀ k, S k → k < base) → Bld base b l w → l.length + v.text.length ≤ 10000000 →
    Calls Tryd.prog 56 #[.pointer (some ⟨b, 0, none⟩), .agg cs.toArray] w fun e w' => e = .returned (.tuple #[]) ∧ Bld base b (l ++ v.text) w' ∧ KeepB base b w w' := by
  intro v
  induction v with
  | tru =>
    intro cs w S base b l hok ht hS hb hlen
    obtain ⟨A, n1, c1, v, rfl, _, _, _, hl⟩ := Fm.openC (a := ⟨1, ⟨#[]⟩, []⟩) (l := []) ht
    obtain ⟨B, n2, c2, rfl, _, _, _⟩ := id hl
    have hend : ∀ (a' : Act) (w' : World) (l' : List UInt8), l' = l ++ Fv.text (.tru) → Frm 92 [(0, .pointer (some ⟨b, 0, none⟩)), (3, .pointer (some ⟨w.heap.size, 0, none⟩))] a' → Bld base b l' w' → KeepB base b w w' → bodyPost Tryd.prog Tryd.f56 (fun e w' => e = .returned (.tuple #[]) ∧ Bld base b (l ++ Fv.text (.tru)) w' ∧ KeepB base b w w') .normal a' w' := fun a' w' l' e h hb hk => wr_end h.2.1 ⟨rfl, by rw [← e]; exact hb, hk⟩
    go_enter Tryd.func56, Tryd.ntmps56
    refine wp_seq ?_
    refine wr_r0_wp hb (fun a1 w1 h1 hs => ?_) _ (id ⟨rfl, rfl, rfl, rfl, trivial⟩)
    refine wp_seq ?_
    refine wr_r1_wp hs (fun a2 h2 => ?_) a1 h1
    refine wp_block ?_
    refine wp_seq ?_
    refine wr_r7_wp (fun a9 h9 => ?_) a2 h2
    refine wp_cond_true ((h9.eval (k := 31) (v := .bool (decide ((1 : Int) = 1))) (by simp)).trans (by rw [decide_eq_true (by decide)])) ?_
    refine wr_r8_wp (by simp only [Fv.text, List.length_cons, List.length_nil] at hlen; omega) hs (fun a10 w10 h10 hs10 => ?_) a9 ⟨h9.1, h9.2.1, h9.2.2.1, h9.2.2.2.1, trivial⟩
    exact hend a10 w10 _ (by simp [Fv.text]) h10 hs10.hb hs10.k
  | pred nm ws =>
    intro cs w S base b l hok ht hS hb hlen
    obtain ⟨A, n1, c1, v, rfl, hnc, _, hw, hl⟩ := Fm.openC (a := ⟨2, nm, ws⟩) (l := []) ht
    obtain ⟨B, n2, c2, rfl, _, _, _⟩ := id hl
    have hz := okName_sizeF hok.1
    have hwl := wordsT_len ws hok.2.2
    have hw3 := hok.2.1
    have hwt : (wordsT ws).length ≤ 5000 := by omega
    have hwz : ∀ a ∈ ws, a.size ≤ 1000 := fun a ha => by have := (okName_sizeF (List.all_eq_true.1 hok.2.2 a ha)).2; omega
    have hend : ∀ (a' : Act) (w' : World) (l' : List UInt8), l' = l ++ Fv.text (.pred nm ws) → Frm 92 [(0, .pointer (some ⟨b, 0, none⟩)), (3, .pointer (some ⟨w.heap.size, 0, none⟩))] a' → Bld base b l' w' → KeepB base b w w' → bodyPost Tryd.prog Tryd.f56 (fun e w' => e = .returned (.tuple #[]) ∧ Bld base b (l ++ Fv.text (.pred nm ws)) w' ∧ KeepB base b w w') .normal a' w' := fun a' w' l' e h hb hk => wr_end h.2.1 ⟨rfl, by rw [← e]; exact hb, hk⟩
    go_enter Tryd.func56, Tryd.ntmps56
    refine wp_seq ?_
    refine wr_r0_wp hb (fun a1 w1 h1 hs => ?_) _ (id ⟨rfl, rfl, rfl, rfl, trivial⟩)
    refine wp_seq ?_
    refine wr_r1_wp hs (fun a2 h2 => ?_) a1 h1
    refine wp_block ?_
    refine wp_seq ?_
    refine wr_r7_wp (fun a3 h3 => ?_) a2 h2
    refine wp_cond_false ((h3.eval (k := 31) (v := .bool (decide ((2 : Int) = 1))) (by simp)).trans (by rw [decide_eq_false (by decide)])) ?_
    refine wp_seq ?_
    refine wr_r9_wp (fun a9 h9 => ?_) a3 ⟨h3.1, h3.2.1, h3.2.2.1, h3.2.2.2.1, h3.2.2.2.2.1, trivial⟩
    refine wp_cond_true ((h9.eval (k := 35) (v := .bool (decide ((2 : Int) = 2))) (by simp)).trans (by rw [decide_eq_true (by decide)])) ?_
    refine Code.wp_mono (Q := Exit.then (fun a' w' => Frm 92 [(0, .pointer (some ⟨b, 0, none⟩)), (3, .pointer (some ⟨w.heap.size, 0, none⟩))] a' ∧ WS w w' base b 2 nm A n1 c1 B n2 c2 (l ++ (nm ++ (⟨#[40]⟩ : ByteArray) ++ (⟨(wordsT ws).toArray⟩ : ByteArray) ++ (⟨#[41]⟩ : ByteArray)).data.toList)) (fun _ _ _ => False)) ?_ (wr_r10_wp (Sx := S) (by omega) hs (hw.keep (fun k hk => hs.old hS k hk) (fun _ h => h)) hnc hw3 hwz hwt (fun k hk => by have := hS k hk; have := hs.hb.1; have := hs.hb.ltB; omega) (by omega) rfl (fun a' w' h' hs' => ⟨h', hs'⟩) a9 ⟨h9.1, h9.2.1, h9.2.2.1, h9.2.2.2.1, trivial⟩)
    intro e a10 w10 h
    cases e with
    | normal =>
      obtain ⟨h10, hs10⟩ := h
      exact hend _ _ _ (by simp [Fv.text, ByteArray.data_append]) h10 hs10.hb hs10.k
    | _ => exact h.elim
  | same x y =>
    intro cs w S base b l hok ht hS hb hlen
    obtain ⟨A, n1, c1, v, rfl, hnc, _, hw, hl⟩ := Fm.openC (a := ⟨3, ⟨#[]⟩, [x, y]⟩) (l := []) ht
    obtain ⟨B, n2, c2, rfl, _, _, _⟩ := id hl
    have hz1 := okName_sizeF hok.1
    have hz2 := okName_sizeF hok.2
    obtain ⟨b2, o, cs2, rfl, hSb, ⟨rfl, _⟩, hc0⟩ := Rep.Sl.at_ hw (k := 0) (a := x) rfl
    obtain ⟨b3, o3, cs3, e3, _, ⟨rfl, _⟩, hc1⟩ := Rep.Sl.at_ hw (k := 1) (a := y) rfl
    simp only [Option.some.injEq, Addr.mk.injEq, and_true] at e3
    obtain ⟨rfl, rfl⟩ := e3
    obtain rfl : 2 = n1 := by obtain ⟨_, _, _, e, h, _⟩ := hw; injection e with _ e2 _; exact h.trans e2.symm
    have hend : ∀ (a' : Act) (w' : World) (l' : List UInt8), l' = l ++ Fv.text (.same x y) → Frm 92 [(0, .pointer (some ⟨b, 0, none⟩)), (3, .pointer (some ⟨w.heap.size, 0, none⟩))] a' → Bld base b l' w' → KeepB base b w w' → bodyPost Tryd.prog Tryd.f56 (fun e w' => e = .returned (.tuple #[]) ∧ Bld base b (l ++ Fv.text (.same x y)) w' ∧ KeepB base b w w') .normal a' w' := fun a' w' l' e h hb hk => wr_end h.2.1 ⟨rfl, by rw [← e]; exact hb, hk⟩
    go_enter Tryd.func56, Tryd.ntmps56
    refine wp_seq ?_
    refine wr_r0_wp hb (fun a1 w1 h1 hs => ?_) _ (id ⟨rfl, rfl, rfl, rfl, trivial⟩)
    refine wp_seq ?_
    refine wr_r1_wp hs (fun a2 h2 => ?_) a1 h1
    refine wp_block ?_
    have hk2 := hs.old hS b2 hSb
    have g0 : w1.cell? ⟨b2, o, none⟩ = some (.string x) := (cell_keep hk2 _).trans (by have := hc0 0 _ rfl; simpa [strRep] using this)
    have g1 : w1.cell? ⟨b2, o + 1, none⟩ = some (.string y) := (cell_keep hk2 _).trans (by have := hc1 0 _ rfl; simpa [strRep] using this)
    refine wp_seq ?_
    refine wr_r7_wp (fun a3 h3 => ?_) a2 h2
    refine wp_cond_false ((h3.eval (k := 31) (v := .bool (decide ((3 : Int) = 1))) (by simp)).trans (by rw [decide_eq_false (by decide)])) ?_
    refine wp_seq ?_
    refine wr_r9_wp (fun a4 h4 => ?_) a3 ⟨h3.1, h3.2.1, h3.2.2.1, h3.2.2.2.1, h3.2.2.2.2.1, trivial⟩
    refine wp_cond_false ((h4.eval (k := 35) (v := .bool (decide ((3 : Int) = 2))) (by simp)).trans (by rw [decide_eq_false (by decide)])) ?_
    refine wp_seq ?_
    refine wr_r11_wp (fun a9 h9 => ?_) a4 ⟨h4.1, h4.2.1, h4.2.2.1, h4.2.2.2.1, h4.2.2.2.2.1, trivial⟩
    refine wp_cond_true ((h9.eval (k := 47) (v := .bool (decide ((3 : Int) = 3))) (by simp)).trans (by rw [decide_eq_true (by decide)])) ?_
    refine Code.wp_mono (Q := Exit.then (fun a' w' => Frm 92 [(0, .pointer (some ⟨b, 0, none⟩)), (3, .pointer (some ⟨w.heap.size, 0, none⟩))] a' ∧ WS w w' base b 3 ⟨#[]⟩ (some ⟨b2, o, none⟩) 2 c1 B n2 c2 (l ++ ((⟨#[40]⟩ : ByteArray) ++ x ++ (⟨#[32, 61, 32]⟩ : ByteArray) ++ y ++ (⟨#[41]⟩ : ByteArray)).data.toList)) (fun _ _ _ => False)) ?_ (wr_r12_wp (by omega) hs (by omega) (by omega) (by omega) (hS b2 hSb) g0 g1 (fun a' w' h' hs' => ⟨h', hs'⟩) a9 ⟨h9.1, h9.2.1, h9.2.2.1, h9.2.2.2.1, trivial⟩)
    intro e a10 w10 h
    cases e with
    | normal =>
      obtain ⟨h10, hs10⟩ := h
      exact hend _ _ _ (by simp [Fv.text, ByteArray.data_append]) h10 hs10.hb hs10.k
    | _ => exact h.elim
  | neg f ih =>
    intro cs w S base b l hok ht hS hb hlen
    obtain ⟨A, n1, c1, v, rfl, _, _, _, hl⟩ := Fm.openC (a := ⟨4, ⟨#[]⟩, []⟩) (l := [f.fm]) ht
    obtain ⟨B, n2, c2, rfl, _, _, _⟩ := id hl
    obtain rfl : 1 = n2 := by assumption
    obtain ⟨bp, op, csp, ep, hSbp, hrp, hcp⟩ := Rep.Sl.at_ hl (k := 0) (a := f.fm) rfl
    obtain ⟨Aep, n3p, c3p, Bep, n4p, c4p, rfl, _, _, _, _⟩ := Fm.shape (Fm.ofC hrp)
    subst ep
    simp only [Fv.text, List.length_cons] at hlen
    have hend : ∀ (a' : Act) (w' : World) (l' : List UInt8), l' = l ++ Fv.text (.neg f) → Frm 92 [(0, .pointer (some ⟨b, 0, none⟩)), (3, .pointer (some ⟨w.heap.size, 0, none⟩))] a' → Bld base b l' w' → KeepB base b w w' → bodyPost Tryd.prog Tryd.f56 (fun e w' => e = .returned (.tuple #[]) ∧ Bld base b (l ++ Fv.text (.neg f)) w' ∧ KeepB base b w w') .normal a' w' := fun a' w' l' e h hb hk => wr_end h.2.1 ⟨rfl, by rw [← e]; exact hb, hk⟩
    go_enter Tryd.func56, Tryd.ntmps56
    refine wp_seq ?_
    refine wr_r0_wp hb (fun a1 w1 h1 hs => ?_) _ (id ⟨rfl, rfl, rfl, rfl, trivial⟩)
    refine wp_seq ?_
    refine wr_r1_wp hs (fun a2 h2 => ?_) a1 h1
    refine wp_block ?_
    refine wp_seq ?_
    refine wr_r7_wp (fun a3 h3 => ?_) a2 h2
    refine wp_cond_false ((h3.eval (k := 31) (v := .bool (decide ((4 : Int) = 1))) (by simp)).trans (by rw [decide_eq_false (by decide)])) ?_
    refine wp_seq ?_
    refine wr_r9_wp (fun a4 h4 => ?_) a3 ⟨h3.1, h3.2.1, h3.2.2.1, h3.2.2.2.1, h3.2.2.2.2.1, trivial⟩
    refine wp_cond_false ((h4.eval (k := 35) (v := .bool (decide ((4 : Int) = 2))) (by simp)).trans (by rw [decide_eq_false (by decide)])) ?_
    refine wp_seq ?_
    refine wr_r11_wp (fun a5 h5 => ?_) a4 ⟨h4.1, h4.2.1, h4.2.2.1, h4.2.2.2.1, h4.2.2.2.2.1, trivial⟩
    refine wp_cond_false ((h5.eval (k := 47) (v := .bool (decide ((4 : Int) = 3))) (by simp)).trans (by rw [decide_eq_false (by decide)])) ?_
    refine wp_seq ?_
    refine wr_r13_wp (fun a9 h9 => ?_) a5 ⟨h5.1, h5.2.1, h5.2.2.1, h5.2.2.2.1, h5.2.2.2.2.1, trivial⟩
    refine wp_cond_true ((h9.eval (k := 63) (v := .bool (decide ((4 : Int) = 4))) (by simp)).trans (by rw [decide_eq_true (by decide)])) ?_
    refine wp_seq ?_
    refine wr_r14_wp (by omega) hs (fun a10 w10 h10 hs10 => ?_) a9 ⟨h9.1, h9.2.1, h9.2.2.1, h9.2.2.2.1, trivial⟩
    have hkp := hs10.old hS bp hSbp
    have g0p : w10.cell? ⟨bp, op, none⟩ = _ := (cell_keep hkp _).trans (by have := hcp 0 _ rfl; simpa [show fmRepC.size = 4 from rfl] using this)
    have g1p : w10.cell? ⟨bp, op + 1, none⟩ = _ := (cell_keep hkp _).trans (by have := hcp 1 _ rfl; simpa [show fmRepC.size = 4 from rfl] using this)
    have g2p : w10.cell? ⟨bp, op + 2, none⟩ = _ := (cell_keep hkp _).trans (by have := hcp 2 _ rfl; simpa [show fmRepC.size = 4 from rfl] using this)
    have g3p : w10.cell? ⟨bp, op + 3, none⟩ = _ := (cell_keep hkp _).trans (by have := hcp 3 _ rfl; simpa [show fmRepC.size = 4 from rfl] using this)
    refine wr_r15_wp hs10 (by omega) (by have := hS bp hSbp; have := hs10.hb.1; have := hs10.hb.ltB; omega) g0p g1p g2p g3p (ih _ w10 S base b _ hok (fmRepC.keep hrp (fun k hk => hs10.old hS k hk) (fun _ h => h)) hS hs10.hb (by simp only [List.length_append, List.length_cons, List.length_nil] at *; omega)) (fun a11 w11 h11 hs11 => ?_) a10 h10
    exact hend _ _ _ (by simp [Fv.text]) h11 hs11.hb hs11.k
  | bin k f g ihf ihg =>
    intro cs w S base b l hok ht hS hb hlen
    obtain ⟨A, n1, c1, v, rfl, _, _, _, hl⟩ := Fm.openC (a := ⟨(k : Nat), ⟨#[]⟩, []⟩) (l := [f.fm, g.fm]) ht
    obtain ⟨B, n2, c2, rfl, _, _, _⟩ := id hl
    obtain rfl : 2 = n2 := by assumption
    have hk := hok.1
    obtain ⟨bp, op, csp, ep, hSbp, hrp, hcp⟩ := Rep.Sl.at_ hl (k := 0) (a := f.fm) rfl
    obtain ⟨Aep, n3p, c3p, Bep, n4p, c4p, rfl, _, _, _, _⟩ := Fm.shape (Fm.ofC hrp)
    obtain ⟨bq, oq, csq, eq, hSbq, hrq, hcq⟩ := Rep.Sl.at_ hl (k := 1) (a := g.fm) rfl
    obtain ⟨Aeq, n3q, c3q, Beq, n4q, c4q, rfl, _, _, _, _⟩ := Fm.shape (Fm.ofC hrq)
    subst ep
    simp only [Option.some.injEq, Addr.mk.injEq, and_true] at eq
    obtain ⟨rfl, rfl⟩ := eq
    simp only [Fv.text, List.length_append, List.length_cons, List.length_nil] at hlen
    have hend : ∀ (a' : Act) (w' : World) (l' : List UInt8), l' = l ++ Fv.text (.bin k f g) → Frm 92 [(0, .pointer (some ⟨b, 0, none⟩)), (3, .pointer (some ⟨w.heap.size, 0, none⟩))] a' → Bld base b l' w' → KeepB base b w w' → bodyPost Tryd.prog Tryd.f56 (fun e w' => e = .returned (.tuple #[]) ∧ Bld base b (l ++ Fv.text (.bin k f g)) w' ∧ KeepB base b w w') .normal a' w' := fun a' w' l' e h hb hk => wr_end h.2.1 ⟨rfl, by rw [← e]; exact hb, hk⟩
    go_enter Tryd.func56, Tryd.ntmps56
    refine wp_seq ?_
    refine wr_r0_wp hb (fun a1 w1 h1 hs => ?_) _ (id ⟨rfl, rfl, rfl, rfl, trivial⟩)
    refine wp_seq ?_
    refine wr_r1_wp hs (fun a2 h2 => ?_) a1 h1
    refine wp_block ?_
    refine wp_seq ?_
    refine wr_r7_wp (fun a3 h3 => ?_) a2 h2
    refine wp_cond_false ((h3.eval (k := 31) (v := .bool (decide (((k : Nat) : Int) = 1))) (by simp)).trans (by rw [decide_eq_false (by omega)])) ?_
    refine wp_seq ?_
    refine wr_r9_wp (fun a4 h4 => ?_) a3 ⟨h3.1, h3.2.1, h3.2.2.1, h3.2.2.2.1, h3.2.2.2.2.1, trivial⟩
    refine wp_cond_false ((h4.eval (k := 35) (v := .bool (decide (((k : Nat) : Int) = 2))) (by simp)).trans (by rw [decide_eq_false (by omega)])) ?_
    refine wp_seq ?_
    refine wr_r11_wp (fun a5 h5 => ?_) a4 ⟨h4.1, h4.2.1, h4.2.2.1, h4.2.2.2.1, h4.2.2.2.2.1, trivial⟩
    refine wp_cond_false ((h5.eval (k := 47) (v := .bool (decide (((k : Nat) : Int) = 3))) (by simp)).trans (by rw [decide_eq_false (by omega)])) ?_
    refine wp_seq ?_
    refine wr_r13_wp (fun a6 h6 => ?_) a5 ⟨h5.1, h5.2.1, h5.2.2.1, h5.2.2.2.1, h5.2.2.2.2.1, trivial⟩
    refine wp_cond_false ((h6.eval (k := 63) (v := .bool (decide (((k : Nat) : Int) = 4))) (by simp)).trans (by rw [decide_eq_false (by omega)])) ?_
    refine wp_seq ?_
    refine wp_seq ?_
    refine wr_r16_wp (fun a7 h7 => ?_) a6 ⟨h6.1, h6.2.1, h6.2.2.1, h6.2.2.2.1, h6.2.2.2.2.1, trivial⟩
    refine wp_cond_false ((h7.eval (k := 73) (v := .bool (decide (((k : Nat) : Int) = 8))) (by simp)).trans (by rw [decide_eq_false (by omega)])) ?_
    refine wr_r17_wp (fun a8 h8 => ?_) a7 ⟨h7.1, h7.2.1, h7.2.2.1, h7.2.2.2.1, h7.2.2.2.2.1, trivial⟩
    show Code.wp _ _ _ a8 w1
    refine wp_cond_false ((h8.eval (k := 73) (v := .bool (decide (((k : Nat) : Int) = 9))) (by simp)).trans (by rw [decide_eq_false (by omega)])) ?_
    refine wp_seq ?_
    refine wr_r2_wp (by omega) hs (fun a10 w10 h10 hs10 => ?_) a8 ⟨h8.1, h8.2.1, h8.2.2.1, h8.2.2.2.1, trivial⟩
    refine wp_seq ?_
    have hkp := hs10.old hS bp hSbp
    have g0p : w10.cell? ⟨bp, op, none⟩ = _ := (cell_keep hkp _).trans (by have := hcp 0 _ rfl; simpa [show fmRepC.size = 4 from rfl] using this)
    have g1p : w10.cell? ⟨bp, op + 1, none⟩ = _ := (cell_keep hkp _).trans (by have := hcp 1 _ rfl; simpa [show fmRepC.size = 4 from rfl] using this)
    have g2p : w10.cell? ⟨bp, op + 2, none⟩ = _ := (cell_keep hkp _).trans (by have := hcp 2 _ rfl; simpa [show fmRepC.size = 4 from rfl] using this)
    have g3p : w10.cell? ⟨bp, op + 3, none⟩ = _ := (cell_keep hkp _).trans (by have := hcp 3 _ rfl; simpa [show fmRepC.size = 4 from rfl] using this)
    refine wr_r3_wp hs10 (by omega) (by have := hS bp hSbp; have := hs10.hb.1; have := hs10.hb.ltB; omega) g0p g1p g2p g3p (ihf _ w10 S base b _ hok.2.1 (fmRepC.keep hrp (fun k hk => hs10.old hS k hk) (fun _ h => h)) hS hs10.hb (by simp only [List.length_append, List.length_cons, List.length_nil] at *; omega)) (fun a11 w11 h11 hs11 => ?_) a10 h10
    refine wp_seq ?_
    refine wr_r4_wp (by simp only [List.length_append, List.length_cons, List.length_nil]; omega) hk hs11 (fun a12 w12 h12 hs12 => ?_) a11 h11
    refine wp_seq ?_
    have hkq := hs12.old hS bp hSbq
    have g0q : w12.cell? ⟨bp, op + 4, none⟩ = _ := (cell_keep hkq _).trans (by have := hcq 0 _ rfl; simpa [show fmRepC.size = 4 from rfl] using this)
    have g1q : w12.cell? ⟨bp, op + 5, none⟩ = _ := (cell_keep hkq _).trans (by have := hcq 1 _ rfl; simpa [show fmRepC.size = 4 from rfl] using this)
    have g2q : w12.cell? ⟨bp, op + 6, none⟩ = _ := (cell_keep hkq _).trans (by have := hcq 2 _ rfl; simpa [show fmRepC.size = 4 from rfl] using this)
    have g3q : w12.cell? ⟨bp, op + 7, none⟩ = _ := (cell_keep hkq _).trans (by have := hcq 3 _ rfl; simpa [show fmRepC.size = 4 from rfl] using this)
    refine wr_r5_wp hs12 (by omega) (by have := hS bp hSbq; have := hs12.hb.1; have := hs12.hb.ltB; omega) g0q g1q g2q g3q (ihg _ w12 S base b _ hok.2.2 (fmRepC.keep hrq (fun k hk => hs12.old hS k hk) (fun _ h => h)) hS hs12.hb (by simp only [List.length_append, List.length_cons, List.length_nil] at *; omega)) (fun a13 w13 h13 hs13 => ?_) a12 h12
    refine wr_r6_wp (by simp only [List.length_append, List.length_cons, List.length_nil]; omega) hs13 (fun a14 w14 h14 hs14 => ?_) a13 h13
    exact hend _ _ _ (by simp [Fv.text]) h14 hs14.hb hs14.k
  | qu k x f ih =>
    intro cs w S base b l hok ht hS hb hlen
    obtain ⟨A, n1, c1, v, rfl, _, _, _, hl⟩ := Fm.openC (a := ⟨(k : Nat), x, []⟩) (l := [f.fm]) ht
    obtain ⟨B, n2, c2, rfl, _, _, _⟩ := id hl
    obtain rfl : 1 = n2 := by assumption
    have hk := hok.1
    have hz := okName_sizeF hok.2.1
    obtain ⟨bp, op, csp, ep, hSbp, hrp, hcp⟩ := Rep.Sl.at_ hl (k := 0) (a := f.fm) rfl
    obtain ⟨Aep, n3p, c3p, Bep, n4p, c4p, rfl, _, _, _, _⟩ := Fm.shape (Fm.ofC hrp)
    subst ep
    simp only [Fv.text, List.length_append, List.length_cons, List.length_nil] at hlen
    have hend : ∀ (a' : Act) (w' : World) (l' : List UInt8), l' = l ++ Fv.text (.qu k x f) → Frm 92 [(0, .pointer (some ⟨b, 0, none⟩)), (3, .pointer (some ⟨w.heap.size, 0, none⟩))] a' → Bld base b l' w' → KeepB base b w w' → bodyPost Tryd.prog Tryd.f56 (fun e w' => e = .returned (.tuple #[]) ∧ Bld base b (l ++ Fv.text (.qu k x f)) w' ∧ KeepB base b w w') .normal a' w' := fun a' w' l' e h hb hk => wr_end h.2.1 ⟨rfl, by rw [← e]; exact hb, hk⟩
    go_enter Tryd.func56, Tryd.ntmps56
    refine wp_seq ?_
    refine wr_r0_wp hb (fun a1 w1 h1 hs => ?_) _ (id ⟨rfl, rfl, rfl, rfl, trivial⟩)
    refine wp_seq ?_
    refine wr_r1_wp hs (fun a2 h2 => ?_) a1 h1
    refine wp_block ?_
    have tail : ∀ (wd : ByteArray) (a' : Act), wd.size ≤ 10 → wd.data.toList = quB k ++ [32] → Frm 92 [(0, .pointer (some ⟨b, 0, none⟩)), (3, .pointer (some ⟨w.heap.size, 0, none⟩)), (4, .string wd)] a' → Code.wp Tryd.prog c_wr_p21 (Exit.inBlock 0 (bodyPost Tryd.prog Tryd.f56 (fun e w' => e = .returned (.tuple #[]) ∧ Bld base b (l ++ Fv.text (.qu k x f)) w' ∧ KeepB base b w w'))) a' w1 := by
      intro wd a' hwd hwe h'
      conv => arg 2; whnf
      refine wp_seq ?_
      refine wr_r21_wp (by omega) hwd (by omega) hs (fun a10 w10 h10 hs10 => ?_) a' h'
      have hll : (l ++ (wd ++ x ++ (⟨#[32]⟩ : ByteArray)).data.toList).length = l.length + ((quB k).length + 1 + x.size + 1) := by
        simp only [ByteArray.data_append, Array.toList_append, List.length_append, hwe, nm_len, List.length_cons, List.length_nil]
      have hkp := hs10.old hS bp hSbp
      have g0p : w10.cell? ⟨bp, op, none⟩ = _ := (cell_keep hkp _).trans (by have := hcp 0 _ rfl; simpa [show fmRepC.size = 4 from rfl] using this)
      have g1p : w10.cell? ⟨bp, op + 1, none⟩ = _ := (cell_keep hkp _).trans (by have := hcp 1 _ rfl; simpa [show fmRepC.size = 4 from rfl] using this)
      have g2p : w10.cell? ⟨bp, op + 2, none⟩ = _ := (cell_keep hkp _).trans (by have := hcp 2 _ rfl; simpa [show fmRepC.size = 4 from rfl] using this)
      have g3p : w10.cell? ⟨bp, op + 3, none⟩ = _ := (cell_keep hkp _).trans (by have := hcp 3 _ rfl; simpa [show fmRepC.size = 4 from rfl] using this)
      refine wr_r22_wp hs10 (by omega) (by have := hS bp hSbp; have := hs10.hb.1; have := hs10.hb.ltB; omega) g0p g1p g2p g3p (ih _ w10 S base b _ hok.2.2 (fmRepC.keep hrp (fun k hk => hs10.old hS k hk) (fun _ h => h)) hS hs10.hb (by rw [hll]; rw [nm_len] at hlen; omega)) (fun a11 w11 h11 hs11 => ?_) a10 h10
      exact hend _ _ _ (by simp only [ByteArray.data_append, Array.toList_append, hwe, Fv.text]; simp) h11 hs11.hb hs11.k
    refine wp_seq ?_
    refine wr_r7_wp (fun a3 h3 => ?_) a2 h2
    refine wp_cond_false ((h3.eval (k := 31) (v := .bool (decide (((k : Nat) : Int) = 1))) (by simp)).trans (by rw [decide_eq_false (by omega)])) ?_
    refine wp_seq ?_
    refine wr_r9_wp (fun a4 h4 => ?_) a3 ⟨h3.1, h3.2.1, h3.2.2.1, h3.2.2.2.1, h3.2.2.2.2.1, trivial⟩
    refine wp_cond_false ((h4.eval (k := 35) (v := .bool (decide (((k : Nat) : Int) = 2))) (by simp)).trans (by rw [decide_eq_false (by omega)])) ?_
    refine wp_seq ?_
    refine wr_r11_wp (fun a5 h5 => ?_) a4 ⟨h4.1, h4.2.1, h4.2.2.1, h4.2.2.2.1, h4.2.2.2.2.1, trivial⟩
    refine wp_cond_false ((h5.eval (k := 47) (v := .bool (decide (((k : Nat) : Int) = 3))) (by simp)).trans (by rw [decide_eq_false (by omega)])) ?_
    refine wp_seq ?_
    refine wr_r13_wp (fun a6 h6 => ?_) a5 ⟨h5.1, h5.2.1, h5.2.2.1, h5.2.2.2.1, h5.2.2.2.2.1, trivial⟩
    refine wp_cond_false ((h6.eval (k := 63) (v := .bool (decide (((k : Nat) : Int) = 4))) (by simp)).trans (by rw [decide_eq_false (by omega)])) ?_
    refine wp_seq ?_
    rcases hk with rfl | rfl
    · refine wp_seq ?_
      refine wr_r16_wp (fun a7 h7 => ?_) a6 ⟨h6.1, h6.2.1, h6.2.2.1, h6.2.2.2.1, h6.2.2.2.2.1, trivial⟩
      refine wp_cond_true ((h7.eval (k := 73) (v := .bool (decide (((8 : Nat) : Int) = 8))) (by simp)).trans (by rw [decide_eq_true (by decide)])) ?_
      refine wp_skip ?_
      show Code.wp _ _ _ a7 w1
      refine wp_cond_true ((h7.eval (k := 73) (v := .bool (decide (((8 : Nat) : Int) = 8))) (by simp)).trans (by rw [decide_eq_true (by decide)])) ?_
      refine wp_seq ?_
      refine wr_r18_wp (fun a8 h8 => ?_) a7 ⟨h7.1, h7.2.1, h7.2.2.1, h7.2.2.2.1, trivial⟩
      refine wp_seq ?_
      refine wp_seq ?_
      refine wr_r19_wp hs (fun a9 h9 => ?_) a8 h8
      refine wp_cond_true ((h9.eval (k := 78) (v := .bool (decide (((8 : Nat) : Int) = 8))) (by simp)).trans (by rw [decide_eq_true (by decide)])) ?_
      refine wr_r20_wp (fun a10 h10 => ?_) a9 ⟨h9.1, h9.2.1, h9.2.2.1, h9.2.2.2.1, trivial⟩
      exact tail _ a10 (by decide +kernel) (by decide +kernel) h10
    · refine wp_seq ?_
      refine wr_r16_wp (fun a7 h7 => ?_) a6 ⟨h6.1, h6.2.1, h6.2.2.1, h6.2.2.2.1, h6.2.2.2.2.1, trivial⟩
      refine wp_cond_false ((h7.eval (k := 73) (v := .bool (decide (((9 : Nat) : Int) = 8))) (by simp)).trans (by rw [decide_eq_false (by decide)])) ?_
      refine wr_r17_wp (fun a8 h8 => ?_) a7 ⟨h7.1, h7.2.1, h7.2.2.1, h7.2.2.2.1, h7.2.2.2.2.1, trivial⟩
      show Code.wp _ _ _ a8 w1
      refine wp_cond_true ((h8.eval (k := 73) (v := .bool (decide (((9 : Nat) : Int) = 9))) (by simp)).trans (by rw [decide_eq_true (by decide)])) ?_
      refine wp_seq ?_
      refine wr_r18_wp (fun a9 h9 => ?_) a8 ⟨h8.1, h8.2.1, h8.2.2.1, h8.2.2.2.1, trivial⟩
      refine wp_seq ?_
      refine wp_seq ?_
      refine wr_r19_wp hs (fun a10 h10 => ?_) a9 h9
      refine wp_cond_false ((h10.eval (k := 78) (v := .bool (decide (((9 : Nat) : Int) = 8))) (by simp)).trans (by rw [decide_eq_false (by decide)])) ?_
      refine wp_skip ?_
      exact tail _ a10 (by decide +kernel) (by decide +kernel) ⟨h10.1, h10.2.1, h10.2.2.1, h10.2.2.2.1, h10.2.2.2.2.1, trivial⟩
set_option maxRecDepth 100000 in
set_option maxHeartbeats 4000000 in
/-- folform.Text. -/
theorem textFm_any (v : Fv) (cs : List Value) (w : World) (S : Nat → Prop) (hok : v.ok) (ht : fmRepC.R w S v.fm cs) (hS : ∀ b, S b → b < w.heap.size) (hlen : v.text.length ≤ 10000000) :
    Calls Tryd.prog 37 #[.agg cs.toArray] w fun e w' => e = .returned (.string ⟨v.text.toArray⟩) ∧ Below w.heap.size w w' := by
  obtain ⟨A, n1, c1, B, n2, c2, rfl, _, _, _, _⟩ := Fm.shape (Fm.ofC ht)
  obtain ⟨kd, hkd⟩ : ∃ k, v.fm.lab.kind = k := ⟨_, rfl⟩
  obtain ⟨nm, hnm⟩ : ∃ k, v.fm.lab.nm = k := ⟨_, rfl⟩
  rw [hkd, hnm] at ht ⊢
  have hw : ∀ W : World, W.heap.size = w.heap.size + 1 + 1 → (∀ b, b < w.heap.size → W.heap[b]? = w.heap[b]?) → Bld (w.heap.size + 1) (w.heap.size + 1) [] W → Calls Tryd.prog 56 #[.pointer (some ⟨w.heap.size + 1, 0, none⟩), .agg #[.int .i64 kd, .string nm, .slice A n1 c1, .slice B n2 c2]] W fun e w' => e = .returned (.tuple #[]) ∧ Bld (w.heap.size + 1) (w.heap.size + 1) v.text w' ∧ KeepB (w.heap.size + 1) (w.heap.size + 1) W w' := fun W hz hk hB => writeFm_any v [.int .i64 kd, .string nm, .slice A n1 c1, .slice B n2 c2] W S (w.heap.size + 1) (w.heap.size + 1) [] hok (fmRepC.keep ht (fun b hb => hk b (hS b hb)) (fun _ h => h)) (fun b hb => by have := hS b hb; omega) hB (by simpa using hlen)
  obtain ⟨l, hl⟩ : ∃ l, v.text = l := ⟨_, rfl⟩
  rw [hl] at hw ⊢
  clear ht hkd hnm hok hS hl hlen
  have HW := Lib.hid hw
  clear hw
  go_enter Tryd.func37, Tryd.ntmps37
  go_wp2_with fail
  (with_reducible refine (HW.out _ ?hz ?hk ?hB).mono ?_)
  case hz => simp
  case hk => exact fun b hb => heap_old (by simp; omega) (heap_old hb rfl)
  case hB =>
    have := Bld.new (w.alloc (.cells #[.int .i64 kd, .string nm, .slice A n1 c1, .slice B n2 c2] 25))
    simpa using this
  rintro e w1 ⟨rfl, hB1, hk1⟩
  have hst := Tryd.Builder_String_any (w.heap.size + 1) (w.heap.size + 1) l w1 hB1.is (by have := hB1.ltB; omega)
  have hb1 : Below w.heap.size w w1 := (show Below w.heap.size w _ by go_grown).trans ((hk1.below (Nat.le_refl _) (by simp)).mono (by omega))
  clear hB1 hk1
  have HST := Lib.hid hst
  have HB1 := Lib.hid hb1
  clear hst hb1
  go_wp2_with fail
  (with_reducible refine HST.out.mono ?_)
  rintro e w2 ⟨rfl, hb2⟩
  have hb2 := HB1.out.trans (hb2.mono (by omega))
  have HB2 := Lib.hid hb2
  clear hb2
  go_wp2_with fail
  go_returns
  exact ⟨rfl, HB2.out⟩
theorem fmFault_zero {t : Fm} (h : (fmFault t).1 = 0) : ∃ v : Fv, t = v.fm ∧ v.ok ∧ v.nodes ≤ 200 ∧ v.depth ≤ 40 ∧ fmFault t = (0, 0) := by
  obtain ⟨v, e, h1, h2, h3, h4⟩ := Fv.of_val t 1 0 h
  refine ⟨v, e, h1, by omega, by omega, Prod.ext h ((fmVal_le false t 1 0 (by omega)).2 h).2⟩
theorem Fv.fm_inj : ∀ (a b : Fv), a.ok → b.ok → a.fm = b.fm → a = b := by
  intro a
  induction a with
  | tru => intro b ha hb h; cases b <;> simp [Fv.fm, Fv.ok] at h hb ⊢ <;> omega
  | pred n ws => intro b ha hb h; cases b <;> simp [Fv.fm, Fv.ok] at h hb ⊢ <;> first | omega | exact h
  | same x y => intro b ha hb h; cases b <;> simp [Fv.fm, Fv.ok] at h hb ⊢ <;> first | omega | exact h
  | neg f ih =>
    intro b ha hb h
    cases b <;> simp [Fv.fm, Fv.ok] at h hb ha ⊢ <;> first | omega | exact ih _ ha hb h
  | bin k f g ihf ihg =>
    intro b ha hb h
    cases b <;> simp [Fv.fm, Fv.ok] at h hb ha ⊢ <;> first | omega | exact ⟨by omega, ihf _ ha.2.1 hb.2.1 h.2.1, ihg _ ha.2.2 hb.2.2 h.2.2⟩
  | qu k x f ih =>
    intro b ha hb h
    cases b <;> simp [Fv.fm, Fv.ok] at h hb ha ⊢ <;> first | omega | exact ⟨by omega, h.1.2, ih _ ha.2.2 hb.2.2 h.2⟩
/-- What folform.Print returns. -/
def PrintFmAt (t : Fm) (e : Ending) : Prop :=
  ((fmFault t).1 ≠ 0 → e = .returned (.tuple #[.string ⟨#[]⟩, .agg #[.int .i64 ((fmFault t).1 : Nat), .int .i64 ((fmFault t).2 : Nat)]])) ∧
  (∀ v : Fv, t = v.fm → v.ok → (fmFault t).1 = 0 → (4000 < v.text.length → e = .returned (.tuple #[.string ⟨#[]⟩, .agg #[.int .i64 1, .int .i64 0]])) ∧ (v.text.length ≤ 4000 → e = .returned (.tuple #[.string ⟨v.text.toArray⟩, .agg #[.int .i64 0, .int .i64 0]])))
set_option maxRecDepth 100000 in
set_option maxHeartbeats 4000000 in
theorem printFm_any (t : Fm) (cs : List Value) (w : World) (S : Nat → Prop) (ht : fmRepC.R w S t cs) (hS : ∀ b, S b → b < w.heap.size) :
    Calls Tryd.prog 11 #[.agg cs.toArray] w fun e w' => PrintFmAt t e ∧ Below w.heap.size w w' := by
  have ht0 := Fm.ofC ht
  obtain ⟨A, n1, c1, B, n2, c2, rfl, _, _, _, _⟩ := Fm.shape ht0
  obtain ⟨kd, hkd⟩ : ∃ k, t.lab.kind = k := ⟨_, rfl⟩
  obtain ⟨nm, hnm⟩ : ∃ k, t.lab.nm = k := ⟨_, rfl⟩
  rw [hkd, hnm] at ht ht0 ⊢
  have hold : ∀ (o p : Obj) k, S k → ((w.alloc o).alloc p).heap[k]? = w.heap[k]? := fun o p k hk => by
    have := hS k hk
    exact heap_old (by simp; omega) (heap_old this rfl)
  have hv := fun (o p : Obj) => Lib.hid (validateFm_any t [.int .i64 kd, .string nm, .slice A n1 c1, .slice B n2 c2] ((w.alloc o).alloc p) S (fmRep.keep ht0 (hold o p) (fun _ h => h)) (fun k hk => by have := hS k hk; simp; omega))
  clear ht0
  by_cases hf : (fmFault t).1 = 0
  case neg =>
    have hf' : (((fmFault t).1 : Int) != 0) = true := bne_iff_ne.2 (by omega)
    have hfin : ∀ e, e = .returned (.tuple #[.string ⟨#[]⟩, .agg #[.int .i64 ((fmFault t).1 : Nat), .int .i64 ((fmFault t).2 : Nat)]]) → PrintFmAt t e := fun e he => ⟨fun _ => he, fun v _ _ h => absurd h hf⟩
    clear hkd hnm ht
    have HV := Lib.hid hv
    have HF := Lib.hid hf
    have HFIN := Lib.hid hfin
    have HS := Lib.hid hS
    clear hv hf hfin hS
    go_enter Tryd.func11, Tryd.ntmps11
    go_wp2_with fail
    (with_reducible refine (HV.out _ _).out.mono ?_)
    rintro e w1 ⟨rfl, hw1⟩
    have z1 : w.heap.size + 1 + 1 ≤ w1.heap.size := by have := hw1.size; simpa using this
    have h1 := (hw1.block (w.heap.size + 1) (by simp)).trans (heap_at (by simp))
    have hB : Below w.heap.size w w1 := (show Below w.heap.size w _ by go_grown).trans (hw1.mono (by simp; omega))
    have HB := Lib.hid hB
    have HW1 := Lib.hid hw1
    clear hB hw1
    have h1_0 := cv0 h1
    have h1_1 := cv1 h1
    have h1_f0 := free_heap h1 0
    have h1_f1 := free_heap h1 1
    have h1_l := lt_heap h1
    have H1 := Lib.hid h1
    clear h1
    go_wp2_with fail
    go_region
    all_goals go_wp2_with fail
    all_goals
      refine bodyPost_ret (v := .tuple #[.string ⟨#[]⟩, .agg #[.int .i64 ((fmFault t).1 : Nat), .int .i64 ((fmFault t).2 : Nat)]]) (by simp [results, Tryd.results11, go_sem, h1_0, h1_1, h1_l]) rfl ?_
      exact ⟨HFIN.out _ rfl, ((below2 HB.out (by omega)).alloc (by simp only [size_set]; omega) _).drew⟩
  obtain ⟨v, rfl, ov, nv, dv, ev⟩ := fmFault_zero hf
  rw [ev] at hv
  have hlen := v.text_len ov
  have hfin : ∀ e, (4000 < v.text.length → e = .returned (.tuple #[.string ⟨#[]⟩, .agg #[.int .i64 1, .int .i64 0]])) → (v.text.length ≤ 4000 → e = .returned (.tuple #[.string ⟨v.text.toArray⟩, .agg #[.int .i64 0, .int .i64 0]])) → PrintFmAt v.fm e := fun e h1 h2 => by
    refine ⟨fun h => absurd hf h, fun u hu ou _ => ?_⟩
    obtain rfl := Fv.fm_inj _ _ ov ou hu
    exact ⟨h1, h2⟩
  have htx := fun (W : World) (h : ∀ k, S k → W.heap[k]? = w.heap[k]?) (hz : w.heap.size ≤ W.heap.size) => textFm_any v [.int .i64 kd, .string nm, .slice A n1 c1, .slice B n2 c2] W S ov (fmRepC.keep ht h (fun _ h => h)) (fun k hk => Nat.lt_of_lt_of_le (hS k hk) hz) (by omega)
  have hxs : (⟨v.text.toArray⟩ : ByteArray).size = v.text.length := by simp [ByteArray.size]
  obtain ⟨x, hx⟩ : ∃ x : ByteArray, (⟨v.text.toArray⟩ : ByteArray) = x := ⟨_, rfl⟩
  rw [hx] at htx hfin hxs
  rw [← hxs] at hfin
  clear hkd hnm ht hf ev ov nv dv hlen hx hxs
  have HV := Lib.hid hv
  have HFIN := Lib.hid hfin
  have HTX := Lib.hid htx
  have HS := Lib.hid hS
  clear hv hfin htx hS
  go_enter Tryd.func11, Tryd.ntmps11
  go_wp2_with fail
  (with_reducible refine (HV.out _ _).out.mono ?_)
  rintro e w1 ⟨rfl, hw1⟩
  have z1 : w.heap.size + 1 + 1 ≤ w1.heap.size := by have := hw1.size; simpa using this
  have h0 := (hw1.block w.heap.size (by simp; omega)).trans (heap_old (by simp) (heap_at rfl))
  have h1 := (hw1.block (w.heap.size + 1) (by simp)).trans (heap_at (by simp))
  have hB : Below w.heap.size w w1 := (show Below w.heap.size w _ by go_grown).trans (hw1.mono (by simp; omega))
  have htx := fun (o : Obj) => HTX.out (w1.alloc o) (fun k hk => (heap_old (by have := HS.out k hk; omega) rfl).trans (hB.block k (HS.out k hk))) (by have := hB.size; simp; omega)
  clear HTX HV hw1
  have HB := Lib.hid hB
  have HTX := Lib.hid htx
  clear hB htx
  have h0_0 := cv0 h0
  have h0_1 := cv1 h0
  have h0_2 := cv2 h0
  have h0_3 := cv3 h0
  have h0_l := lt_heap h0
  have H0 := Lib.hid h0
  clear h0
  have h1_0 := cv0 h1
  have h1_1 := cv1 h1
  have h1_f0 := free_heap h1 0
  have h1_f1 := free_heap h1 1
  have h1_l := lt_heap h1
  have H1 := Lib.hid h1
  clear h1
  go_wp2_with fail
  (with_reducible refine (HTX.out _).mono ?_)
  rintro e w2 ⟨rfl, hw2⟩
  have z2 : w1.heap.size + 1 ≤ w2.heap.size := by have := hw2.size; simpa using this
  have hB2 : Below w.heap.size w w2 := (HB.out.alloc (by omega) _).trans (hw2.mono (by simp; omega))
  have h1 := (hw2.block (w.heap.size + 1) (by simp; omega)).trans (heap_old (by omega) H1.out)
  clear h0_0 h0_1 h0_2 h0_3 h0_l h1_0 h1_1 h1_f0 h1_f1 h1_l hw2
  have HB2 := Lib.hid hB2
  clear hB2
  have h1_0 := cv0 h1
  have h1_1 := cv1 h1
  have h1_f0 := free_heap h1 0
  have h1_f1 := free_heap h1 1
  have h1_l := lt_heap h1
  have H1 := Lib.hid h1
  clear h1
  by_cases hl : 4000 < x.size
  · have t1 : decide ((4000 : Int) < (x.size : Int)) = true := decide_eq_true (by omega)
    have hf2 := HFIN.out (.returned (.tuple #[.string ⟨#[]⟩, .agg #[.int .i64 1, .int .i64 0]])) (fun _ => rfl) (fun h => by omega)
    clear hl
    have HF2 := Lib.hid hf2
    clear hf2
    go_wp2_with fail
    refine bodyPost_ret (v := .tuple #[.string ⟨#[]⟩, .agg #[.int .i64 1, .int .i64 0]]) (by simp [results, Tryd.results11, go_sem, h1_0, h1_1, h1_l]) rfl ?_
    exact ⟨HF2.out, below2 HB2.out (by omega)⟩
  · have t1 : decide ((4000 : Int) < (x.size : Int)) = false := decide_eq_false (by omega)
    have hf2 := HFIN.out (.returned (.tuple #[.string x, .agg #[.int .i64 0, .int .i64 0]])) (fun h => by omega) (fun _ => rfl)
    clear hl
    have HF2 := Lib.hid hf2
    clear hf2
    go_wp2_with fail
    refine bodyPost_ret (v := .tuple #[.string x, .agg #[.int .i64 0, .int .i64 0]]) (by simp [results, Tryd.results11, go_sem, h1_0, h1_1, h1_l]) rfl ?_
    exact ⟨HF2.out, below2 HB2.out (by omega)⟩

end Go.Proofs.YtdofemkfmkopcaaDoor
