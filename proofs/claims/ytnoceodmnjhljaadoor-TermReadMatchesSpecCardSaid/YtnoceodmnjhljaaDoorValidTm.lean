/-
  term.Validate: the walk.
-/
import Derived.Test.YtnoceodmnjhljaaDoorProg
import Derived.Test.YtnoceodmnjhljaaDoorValTm
import Derived.Test.YtnoceodmnjhljaaDoorTyped
namespace Go.Proofs.YtnoceodmnjhljaaDoor
open Go Go.RowKit
set_option linter.unusedSimpArgs false
set_option linter.unusedVariables false

theorem tmFault_bad {t : Tm} (h : (tmVal t 1 0 0).1 ≠ 0) : tmFault t = ((tmVal t 1 0 0).1, ((tmVal t 1 0 0).2.1 : Int)) := by unfold tmFault; rw [if_pos h]
theorem tmFault_typ {v : Tv} (h : (tmVal v.tm 1 0 0).1 = 0) : tmFault v.tm = if (v.typ []).isSome = true then (0, 0) else (12, -1) := by
  unfold tmFault
  rw [if_neg (by omega)]
  by_cases hs : (v.typ []).isSome = true
  · rw [if_pos ⟨v, rfl, hs⟩, if_pos hs]
  · rw [if_neg, if_neg hs]
    rintro ⟨v', h1, h2⟩
    obtain rfl := Tv.tm_inj _ _ h1
    exact hs h2

set_option maxRecDepth 100000 in
set_option maxHeartbeats 4000000 in
theorem validateTm_any (t : Tm) (cs : List Value) (w : World) (S : Nat → Prop) (ht : tmRep.R w S t cs) (hS : ∀ b, S b → b < w.heap.size) :
    Calls Tryd.prog 13 #[.agg cs.toArray] w fun e w' => e = .returned (.agg #[.int .i64 ((tmFault t).1 : Nat), .int .i64 (tmFault t).2]) ∧ Below w.heap.size w w' := by
  obtain ⟨s1, A1, n1, c1, B1, m1, d1, rfl, _, _⟩ := Tm.shape ht
  have HT := Lib.hid ht
  have HS := Lib.hid hS
  clear ht hS
  have hold : ∀ (o p q r : Obj) k, S k → ((((w.alloc o).alloc p).alloc q).alloc r).heap[k]? = w.heap[k]? := fun o p q r k hk => by
    have := HS.out k hk
    exact heap_old (by simp; omega) (heap_old (by simp; omega) (heap_old (by simp; omega) (heap_old this rfl)))
  have HOLD := Lib.hid hold
  clear hold
  have hv : Calls Tryd.prog 29 #[.agg #[.int .i64 t.lab.kind, .string t.lab.nm, .int .i64 t.lab.ix, .string s1, .slice A1 n1 c1, .slice B1 m1 d1], .int .i64 1, .int .i64 0, .pointer (some ⟨w.heap.size + 1 + 1, 0, none⟩), .pointer (some ⟨w.heap.size + 1 + 1 + 1, 0, none⟩)] ((((w.alloc (.cells #[.int .i64 t.lab.kind, .string t.lab.nm, .int .i64 t.lab.ix, .string s1, .slice A1 n1 c1, .slice B1 m1 d1] 27)).alloc (.cells #[.int .i64 0, .int .i64 0] 29)).alloc (.cells #[.int .i64 0] 3)).alloc (.cells #[.func (Fn.func 29) #[] #[.pointer (some ⟨w.heap.size + 1 + 1, 0, none⟩), .pointer (some ⟨w.heap.size + 1 + 1 + 1, 0, none⟩)]] 73)) _ :=
    tmVal_any t.nodes t [.int .i64 t.lab.kind, .string t.lab.nm, .int .i64 t.lab.ix, .string s1, .slice A1 n1 c1, .slice B1 m1 d1] _ S (w.heap.size + 1 + 1) (w.heap.size + 1 + 1 + 1) 1 0 0 (Nat.le_refl _) (tmRep.keep HT.out (HOLD.out _ _ _ _) (fun _ h => h)) (fun k hk => by have := HS.out k hk; simp; omega) (heap_old (by simp) (heap_at (by simp))) (heap_at (by simp)) (by omega) (by omega) (by omega) (by omega)
  have hW : Below w.heap.size w ((((w.alloc (.cells #[.int .i64 t.lab.kind, .string t.lab.nm, .int .i64 t.lab.ix, .string s1, .slice A1 n1 c1, .slice B1 m1 d1] 27)).alloc (.cells #[.int .i64 0, .int .i64 0] 29)).alloc (.cells #[.int .i64 0] 3)).alloc (.cells #[.func (Fn.func 29) #[] #[.pointer (some ⟨w.heap.size + 1 + 1, 0, none⟩), .pointer (some ⟨w.heap.size + 1 + 1 + 1, 0, none⟩)]] 73)) := by go_grown
  have hWs : (((((w.alloc (.cells #[.int .i64 t.lab.kind, .string t.lab.nm, .int .i64 t.lab.ix, .string s1, .slice A1 n1 c1, .slice B1 m1 d1] 27)).alloc (.cells #[.int .i64 0, .int .i64 0] 29)).alloc (.cells #[.int .i64 0] 3)).alloc (.cells #[.func (Fn.func 29) #[] #[.pointer (some ⟨w.heap.size + 1 + 1, 0, none⟩), .pointer (some ⟨w.heap.size + 1 + 1 + 1, 0, none⟩)]] 73))).heap.size = w.heap.size + 4 := by simp
  have hW0 : (((((w.alloc (.cells #[.int .i64 t.lab.kind, .string t.lab.nm, .int .i64 t.lab.ix, .string s1, .slice A1 n1 c1, .slice B1 m1 d1] 27)).alloc (.cells #[.int .i64 0, .int .i64 0] 29)).alloc (.cells #[.int .i64 0] 3)).alloc (.cells #[.func (Fn.func 29) #[] #[.pointer (some ⟨w.heap.size + 1 + 1, 0, none⟩), .pointer (some ⟨w.heap.size + 1 + 1 + 1, 0, none⟩)]] 73))).heap[w.heap.size]? = some (.cells #[.int .i64 t.lab.kind, .string t.lab.nm, .int .i64 t.lab.ix, .string s1, .slice A1 n1 c1, .slice B1 m1 d1] 27 (0, 0)) := heap_old (by simp <;> omega) (heap_old (by simp <;> omega) (heap_old (by simp) (heap_at rfl)))
  have hW1 : (((((w.alloc (.cells #[.int .i64 t.lab.kind, .string t.lab.nm, .int .i64 t.lab.ix, .string s1, .slice A1 n1 c1, .slice B1 m1 d1] 27)).alloc (.cells #[.int .i64 0, .int .i64 0] 29)).alloc (.cells #[.int .i64 0] 3)).alloc (.cells #[.func (Fn.func 29) #[] #[.pointer (some ⟨w.heap.size + 1 + 1, 0, none⟩), .pointer (some ⟨w.heap.size + 1 + 1 + 1, 0, none⟩)]] 73))).heap[w.heap.size + 1]? = some (.cells #[.int .i64 0, .int .i64 0] 29 (0, 0)) := heap_old (by simp <;> omega) (heap_old (by simp <;> omega) (heap_at (by simp)))
  have HV := Lib.hid hv
  have HW := Lib.hid hW
  have HWS := Lib.hid hWs
  have HW0 := Lib.hid hW0
  have HW1 := Lib.hid hW1
  clear hv hW hWs hW0 hW1
  go_enter Tryd.func13, Tryd.ntmps13
  go_wp2_with fail
  (with_reducible refine HV.out.mono ?_)
  rintro e w1 ⟨rfl, hcnt, hg⟩
  have h0 := (hg.block w.heap.size (by rw [HWS.out]; omega) (by intro e; injection e; omega)).trans HW0.out
  have h1 := (hg.block (w.heap.size + 1) (by rw [HWS.out]; omega) (by intro e; injection e; omega)).trans HW1.out
  have z1 : w.heap.size + 4 ≤ w1.heap.size := by have := hg.size; rw [HWS.out] at this; exact this
  have hB : Below w.heap.size w w1 := HW.out.grown hg (by rw [HWS.out]; omega) (by intro k e; injection e; omega)
  have ht1 : ∀ (o : Obj), tmRep.R (w1.alloc o) S t [.int .i64 t.lab.kind, .string t.lab.nm, .int .i64 t.lab.ix, .string s1, .slice A1 n1 c1, .slice B1 m1 d1] := fun o => tmRep.keep HT.out (fun k hk => by have := HS.out k hk; exact (heap_old (by omega) rfl).trans (hB.block k this)) (fun _ h => h)
  have HG := Lib.hid hg
  have HB := Lib.hid hB
  have HT1 := Lib.hid ht1
  clear hg hB ht1
  have h0_0 := cv0 h0
  have h0_1 := cv1 h0
  have h0_2 := cv2 h0
  have h0_3 := cv3 h0
  have h0_4 := cv4 h0
  have h0_5 := cv5 h0
  have h0_l := lt_heap h0
  have H0 := Lib.hid h0
  clear h0
  have h1_0 := cv0 h1
  have h1_1 := cv1 h1
  have h1_f0 := free_heap h1 0
  have h1_f1 := free_heap h1 1
  have h1_l := lt_heap h1
  have H1 := Lib.hid h1
  clear h1
  clear hcnt
  by_cases hz : (tmVal t 1 0 0).1 = 0
  case neg =>
    have HF := Lib.hid (tmFault_bad hz)
    have t1 : (((tmVal t 1 0 0).1 : Int) != 0) = true := bne_iff_ne.2 (by omega)
    clear hz
    go_wp2_with fail
    refine bodyPost_ret (v := .agg #[.int .i64 (tmVal t 1 0 0).1, .int .i64 (tmVal t 1 0 0).2.1]) (by simp [results, Tryd.results13, go_sem, h1_0, h1_1, h1_l, h0_l]) rfl ?_
    rw [HF.out]
    exact ⟨rfl, ((HB.out.setCell (by simp) _).setCell (by simp) _).alloc (by simp [size_set]; omega) _⟩
  obtain ⟨v, rfl, hok, _, hn, hd⟩ := Tv.of_val _ t (Nat.le_refl _) 1 0 0 hz
  have HF := Lib.hid (tmFault_typ hz)
  have t1 : (((tmVal v.tm 1 0 0).1 : Int) != 0) = false := by rw [hz]; rfl
  have HZ := Lib.hid hz
  have hty := fun (o : Obj) => Lib.hid (typed_any v [] [.int .i64 v.tm.lab.kind, .string v.tm.lab.nm, .int .i64 v.tm.lab.ix, .string s1, .slice A1 n1 c1, .slice B1 m1 d1] (.slice none 0 0) (w1.alloc o) S hok (by simp; omega) (HT1.out o) Ctx.nil (fun k hk => by have := HS.out k hk; simp; omega))
  clear hz
  have HTY := Lib.hid hty
  clear hty
  go_wp2_with fail
  (with_reducible refine (HTY.out _).out.mono ?_)
  rintro e w2 ⟨⟨v0, v1, ok, T, rfl, hT, hr⟩, hw2⟩
  obtain ⟨sT, AT, nT, cT, rfl, rfl⟩ := hT.shape
  have z2 : w1.heap.size + 1 ≤ w2.heap.size := by have := hw2.size; simpa using this
  have h1 := (hw2.block (w.heap.size + 1) (by simp; omega)).trans (heap_old h1_l H1.out)
  have hB2 := (HB.out.alloc (by omega) (.cells #[.int .i64 (tmVal v.tm 1 0 0).1, .int .i64 (tmVal v.tm 1 0 0).2.1] 29)).trans (hw2.mono (by simp; omega))
  clear h0_0 h0_1 h0_2 h0_3 h0_4 h0_5 h0_l h1_0 h1_1 h1_f0 h1_f1 h1_l hT hw2
  have HB2 := Lib.hid hB2
  clear hB2
  have h1_0 := cv0 h1
  have h1_1 := cv1 h1
  have h1_f0 := free_heap h1 0
  have h1_f1 := free_heap h1 1
  have h1_l := lt_heap h1
  have H1 := Lib.hid h1
  clear h1
  have h0_l : w.heap.size < w2.heap.size := by omega
  by_cases hs : (v.typ []).isSome = true
  · obtain ⟨ss, hs'⟩ := Option.isSome_iff_exists.1 hs
    rw [hs'] at hr
    obtain ⟨rfl, _⟩ := hr
    have HF2 := Lib.hid (HF.out.trans (if_pos hs))
    clear hs hs'
    go_wp2_with fail
    refine bodyPost_ret (v := .agg #[.int .i64 0, .int .i64 0]) (by simp [results, Tryd.results13, go_sem, h1_0, h1_1, h1_l, h0_l]) rfl ?_
    rw [HF2.out]
    exact ⟨rfl, ((HB2.out.setCell (by simp) _).setCell (by simp) _).alloc (by simp [size_set]; omega) _⟩
  · have hs' : v.typ [] = none := by simpa using hs
    rw [hs'] at hr
    obtain rfl := hr
    have HF2 := Lib.hid (HF.out.trans (if_neg hs))
    clear hs hs'
    go_wp2_with fail
    refine bodyPost_ret (v := .agg #[.int .i64 12, .int .i64 (-1)]) (by simp [results, Tryd.results13, go_sem, h1_0, h1_1, h1_l, h0_l]) rfl ?_
    rw [HF2.out]
    exact ⟨rfl, ((HB2.out.setCell (by simp) _).setCell (by simp) _).alloc (by simp [size_set]; omega) _⟩

end Go.Proofs.YtnoceodmnjhljaaDoor
