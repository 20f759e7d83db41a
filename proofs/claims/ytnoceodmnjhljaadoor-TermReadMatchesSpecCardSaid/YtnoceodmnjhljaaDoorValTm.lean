/-
  term.Validate's inner functions: the walk. What they compute: tmVal.
-/
import Derived.Test.YtnoceodmnjhljaaDoorProg
import Derived.Test.YtnoceodmnjhljaaDoorName
import Derived.Deep.DeepCutAuto
namespace Go.Proofs.YtnoceodmnjhljaaDoor
open Go Go.RowKit
set_option linter.unusedSimpArgs false
set_option linter.unusedVariables false

theorem grown_below {a b c : World} {r : Option Nat} (h : a.grownBy b r) (k : Below b.heap.size b c) : a.grownBy c r :=
  ⟨k.os.trans h.os, k.tape.trans h.tape, k.output.trans h.output, Nat.le_trans h.size k.size, fun i hi hne => (k.block i (Nat.lt_of_lt_of_le hi h.size)).trans (h.block i hi hne)⟩
theorem grown_set {a b : World} {r : Option Nat} (h : a.grownBy b r) {k : Nat} (hk : a.heap.size ≤ k) (i : Nat) (v : Value) : a.grownBy (b.setCell ⟨k, i, none⟩ v) r :=
  ⟨h.os, h.tape, h.output, by rw [size_set]; exact h.size, fun j hj hne => (Below.heap_setCell _ _ _ j (by rintro rfl; omega)).trans (h.block j hj hne)⟩
theorem grown_set_at {a b : World} {k : Nat} (h : a.grownBy b (some k)) (i : Nat) (v : Value) : a.grownBy (b.setCell ⟨k, i, none⟩ v) (some k) :=
  ⟨h.os, h.tape, h.output, by rw [size_set]; exact h.size, fun j hj hne => (Below.heap_setCell _ _ _ j (by rintro rfl; exact hne rfl)).trans (h.block j hj hne)⟩
theorem grown_drew {a b : World} {r : Option Nat} (h : a.grownBy b r) : a.grownBy b.drew r := ⟨h.os, h.tape, h.output, h.size, h.block⟩
theorem grown_at {w w' : World} {b k : Nat} {x : Option Obj} (h : w.grownBy w' (some b)) (hk : k < w.heap.size) (hne : k ≠ b) (hx : w.heap[k]? = x) : w'.heap[k]? = x :=
  (h.block k hk (by intro e; injection e with e; exact hne e)).trans hx

theorem tmVals_one (t : Tm) (d bd n : Nat) (hn : n ≤ 200) : tmVals [t] d bd n = tmVal t d bd n := by
  unfold tmVals
  by_cases e : (tmVal t d bd n).1 = 0
  · rw [if_pos e]
    unfold tmVals
    have := ((tmVal_le t d bd n hn).2 e).2
    exact Prod.ext e.symm (Prod.ext this.symm rfl)
  · rw [if_neg e]

/-- A world of the walk of Validate's inner function: its own three blocks, the count, what it keeps. -/
structure Chain (w wc : World) (bn : Nat) (A : Obj) (n v : Int) : Prop where
  a : wc.heap[w.heap.size]? = some A
  r : wc.heap[w.heap.size + 1]? = some (.cells #[.int .i64 0, .int .i64 0] 29 (0, 0))
  pl : wc.heap[w.heap.size + 1 + 1]? = some (.cells #[.int .i64 n] 3 (0, 0))
  cnt : wc.heap[bn]? = some (.cells #[.int .i64 v] 3 (0, 0))
  g : w.grownBy wc (some bn)
  sz : w.heap.size + 1 + 1 + 1 ≤ wc.heap.size
theorem Chain.start {w : World} {A : Obj} {bn : Nat} {n v x : Int} (hb : w.heap[bn]? = some (.cells #[.int .i64 x] 3 (0, 0))) :
    Chain w ((((w.setCell ⟨bn, 0, none⟩ (.int .i64 v)).alloc A).alloc (.cells #[.int .i64 0, .int .i64 0] 29)).alloc (.cells #[.int .i64 n] 3)) bn A n v := by
  have hl := lt_heap hb
  have hs : (w.setCell ⟨bn, 0, none⟩ (.int .i64 v)).heap.size = w.heap.size := size_set _ _ _
  refine ⟨heap_old (by simp [hs]; omega) (heap_old (by simp [hs]) (heap_at hs.symm)), heap_old (by simp [hs]) (heap_at (by simp [hs])), heap_at (by simp [hs]), ?_, ?_, ?_⟩
  · refine heap_old (by simp [hs]; omega) (heap_old (by simp [hs]; omega) (heap_old (by omega) ?_))
    simpa using heap_set hb 0 (.int .i64 v)
  · exact grown_alloc (grown_alloc (grown_alloc (grown_set_at (World.grownBy.refl _ _) 0 _) _) _) _
  · simp [hs]
theorem Chain.below {w wc w2 : World} {A : Obj} {bn : Nat} {n v : Int} (h : Chain w wc bn A n v) (hb : bn < w.heap.size) (k : Below wc.heap.size wc w2) : Chain w w2 bn A n v := by
  have := h.sz
  exact ⟨(k.block _ (by omega)).trans h.a, (k.block _ (by omega)).trans h.r, (k.block _ (by omega)).trans h.pl, (k.block _ (by omega)).trans h.cnt, grown_below h.g k, by have := k.size; omega⟩
theorem Chain.grown {w wc w2 : World} {A : Obj} {bn : Nat} {n v v' : Int} (h : Chain w wc bn A n v) (hb : bn < w.heap.size) (k : wc.grownBy w2 (some bn)) (hv : w2.heap[bn]? = some (.cells #[.int .i64 v'] 3 (0, 0))) : Chain w w2 bn A n v' := by
  have := h.sz
  exact ⟨grown_at k (by omega) (by omega) h.a, grown_at k (by omega) (by omega) h.r, grown_at k (by omega) (by omega) h.pl, hv, grown_trans h.g k, by have := k.size; omega⟩
theorem Chain.alloc {w wc : World} {A : Obj} {bn : Nat} {n v : Int} (h : Chain w wc bn A n v) (hb : bn < w.heap.size) (o : Obj) : Chain w (wc.alloc o) bn A n v := h.below hb ((Below.refl _ _).alloc (Nat.le_refl _) _)
theorem Chain.drew {w wc : World} {A : Obj} {bn : Nat} {n v : Int} (h : Chain w wc bn A n v) : Chain w wc.drew bn A n v := ⟨h.a, h.r, h.pl, h.cnt, grown_drew h.g, h.sz⟩
theorem Chain.set {w wc : World} {A : Obj} {bn : Nat} {n v : Int} (h : Chain w wc bn A n v) (hb : bn < w.heap.size) {k : Nat} (hk : w.heap.size + 1 + 1 + 1 ≤ k) (i : Nat) (x : Value) : Chain w (wc.setCell ⟨k, i, none⟩ x) bn A n v :=
  ⟨heap_far _ (by omega) h.a, heap_far _ (by omega) h.r, heap_far _ (by omega) h.pl, heap_far _ (by omega) h.cnt, grown_set h.g (by omega) _ _, by rw [size_set]; exact h.sz⟩
theorem Chain.fin {w wc : World} {A : Obj} {bn : Nat} {n v : Int} (h : Chain w wc bn A n v) (hb : bn < w.heap.size) (x y : Value) :
    ((wc.setCell ⟨w.heap.size + 1, 0, none⟩ x).setCell ⟨w.heap.size + 1, 1, none⟩ y).heap[bn]? = some (.cells #[.int .i64 v] 3 (0, 0)) ∧ w.grownBy ((wc.setCell ⟨w.heap.size + 1, 0, none⟩ x).setCell ⟨w.heap.size + 1, 1, none⟩ y) (some bn) :=
  ⟨heap_far _ (by omega) (heap_far _ (by omega) h.cnt), grown_set (grown_set h.g (by omega) _ _) (by omega) _ _⟩
theorem Chain.keep {w wc : World} {A : Obj} {bn : Nat} {n v : Int} (h : Chain w wc bn A n v) {S : Nat → Prop} (hS : ∀ b, S b → b < w.heap.size ∧ b ≠ bn) : ∀ b, S b → wc.heap[b]? = w.heap[b]? :=
  fun b hb => h.g.block b (hS b hb).1 (by intro e; injection e with e; exact (hS b hb).2 e)
theorem Chain.lo {w wc : World} {A : Obj} {bn : Nat} {n v : Int} (h : Chain w wc bn A n v) {S : Nat → Prop} (hS : ∀ b, S b → b < w.heap.size ∧ b ≠ bn) : ∀ b, S b → b < wc.heap.size :=
  fun b hb => by have := (hS b hb).1; have := h.sz; omega

theorem run_field_code : ∀ (w : World) (a b : Int), (Instr.field 29 (.agg #[.int .i64 a, .int .i64 b]) 0).run Tryd.prog w = .ok (.int .i64 a) w := fun _ _ _ => by kernel_rfl

theorem not_empty {s : ByteArray} (h : s ≠ bNil) : s.toList.isEmpty = false := by
  cases e : s.toList.isEmpty
  · rfl
  · exact absurd (bytes_inj (by rw [List.isEmpty_iff.1 e]; simp [bNil])) h

theorem bad_any (b n : Nat) (code : Int) (w : World) (h : w.heap[b]? = some (.cells #[.int .i64 n] 3 (0, 0))) :
    Calls Tryd.prog 30 #[.int .i64 code, .pointer (some ⟨b, 0, none⟩)] w fun e w' => e = .returned (.agg #[.int .i64 code, .int .i64 n]) ∧ Below w.heap.size w w' := by
  have h_0 := cv0 h
  have h_l := lt_heap h
  have H := Lib.hid h
  clear h
  go_enter Tryd.func30, Tryd.ntmps30
  go_wp2_with fail
  refine bodyPost_ret (v := .agg #[.int .i64 code, .int .i64 n]) (by simp [results, Tryd.results30, go_sem]) rfl ?_
  exact ⟨rfl, by go_grown⟩

set_option maxRecDepth 100000 in
set_option maxHeartbeats 16000000 in
theorem tmVal_any : ∀ (N : Nat) (t : Tm) (cs : List Value) (w : World) (S : Nat → Prop) (bn bw d bd n : Nat), t.nodes ≤ N → tmRep.R w S t cs → (∀ b, S b → b < w.heap.size ∧ b ≠ bn) →
    w.heap[bn]? = some (.cells #[.int .i64 n] 3 (0, 0)) →
    w.heap[bw]? = some (.cells #[.func (Fn.func 29) #[] #[.pointer (some ⟨bn, 0, none⟩), .pointer (some ⟨bw, 0, none⟩)]] 73 (0, 0)) → bn ≠ bw → d ≤ 41 → bd ≤ d → n ≤ 200 →
    Calls Tryd.prog 29 #[.agg cs.toArray, .int .i64 d, .int .i64 bd, .pointer (some ⟨bn, 0, none⟩), .pointer (some ⟨bw, 0, none⟩)] w fun e w' =>
      e = .returned (.agg #[.int .i64 (tmVal t d bd n).1, .int .i64 (tmVal t d bd n).2.1]) ∧ w'.heap[bn]? = some (.cells #[.int .i64 (tmVal t d bd n).2.2] 3 (0, 0)) ∧ w.grownBy w' (some bn) := by
  intro N
  induction N with
  | zero => intro t; have := t.nodes_pos; intros; omega
  | succ N ih =>
  intro t cs w S bn bw d bd n hN ht hS hbn hbw hne hd hbd hn
  have IH := Lib.hid ih
  clear ih
  obtain ⟨⟨kind, nm, ix, ty⟩, l⟩ := t
  obtain ⟨u0, u1, v, rfl, hnm, hty, A, m, c, rfl, rfl, hm, hA⟩ := Tm.open_ ht
  simp only at hnm hty
  obtain ⟨sb, Ab, nb, cb, rfl, rfl⟩ := hty.shape
  have hm' := hm
  unfold maxLen at hm
  have hbl := lt_heap hbn
  have hwl := lt_heap hbw
  have hbl1 : bn < w.heap.size + 1 := by omega
  have hbl2 : bn < w.heap.size + 1 + 1 := by omega
  have c0 : w.cell? ⟨bn, 0, none⟩ = some (.int .i64 n) := cellv hbn 0 rfl
  have c1 := free_heap hbn 0
  have HNM := Lib.hid hnm
  have HA := Lib.hid hA
  have HN := Lib.hid hN
  have HS := Lib.hid hS
  have HBN := Lib.hid hbn
  have HBW := Lib.hid hbw
  have HTY := Lib.hid hty
  clear hN hS hbn hbw hty
  clear hA hnm ht
  have fin1 : 200 < n + 1 ∨ 40 < d → tmVal (.mk ⟨kind, nm, ix, ty⟩ l) d bd n = (1, n, n + 1) := fun h => by unfold tmVal; rw [if_pos h]
  have finC : ¬ (200 < n + 1 ∨ 40 < d) → ∀ c, TmL.code ⟨kind, nm, ix, ty⟩ l.length bd = c → c ≠ 0 → tmVal (.mk ⟨kind, nm, ix, ty⟩ l) d bd n = (c, n, n + 1) := fun h c hc h0 => by
    unfold tmVal; rw [if_neg h, if_neg (by rw [hc]; exact h0), hc]
  have fin0 : ¬ (200 < n + 1 ∨ 40 < d) → TmL.code ⟨kind, nm, ix, ty⟩ l.length bd = 0 → tmVal (.mk ⟨kind, nm, ix, ty⟩ l) d bd n = tmVals l (d + 1) (TmL.under ⟨kind, nm, ix, ty⟩ bd) (n + 1) := fun h hc => by
    conv => lhs; unfold tmVal
    rw [if_neg h, if_pos hc]
  have FIN1 := Lib.hid fin1
  have FINC := Lib.hid finC
  have FIN0 := Lib.hid fin0
  clear fin1 finC fin0
  by_cases hn1 : 200 < n + 1
  · have HR := Lib.hid (FIN1.out (Or.inl hn1))
    go_enter Tryd.func29, Tryd.ntmps29
    go_wp2_with fail
    refine (bad_any (w.heap.size + 1 + 1) n 1 _ (Chain.start HBN.out).pl).mono ?_
    rintro e wb ⟨rfl, hwb⟩
    have hcb := (Chain.start HBN.out).below hbl hwb
    have h1 := hcb.r
    have HCB := Lib.hid hcb
    have HWB := Lib.hid hwb
    clear hcb hwb
    have h1_0 := cv0 h1
    have h1_1 := cv1 h1
    have h1_f0 := free_heap h1 0
    have h1_f1 := free_heap h1 1
    have h1_l := lt_heap h1
    have H1 := Lib.hid h1
    clear h1
    go_wp2_with fail
    refine bodyPost_ret (v := .agg #[.int .i64 1, .int .i64 n]) (by simp [results, Tryd.results29, go_sem, h1_0, h1_1]) rfl ?_
    rw [HR.out]
    exact ⟨rfl, HCB.out.fin hbl _ _⟩
  by_cases hd1 : 40 < d
  · have HR := Lib.hid (FIN1.out (Or.inr hd1))
    go_enter Tryd.func29, Tryd.ntmps29
    go_wp2_with fail
    refine (bad_any (w.heap.size + 1 + 1) n 1 _ (Chain.start HBN.out).pl).mono ?_
    rintro e wb ⟨rfl, hwb⟩
    have hcb := (Chain.start HBN.out).below hbl hwb
    have h1 := hcb.r
    have HCB := Lib.hid hcb
    have HWB := Lib.hid hwb
    clear hcb hwb
    have h1_0 := cv0 h1
    have h1_1 := cv1 h1
    have h1_f0 := free_heap h1 0
    have h1_f1 := free_heap h1 1
    have h1_l := lt_heap h1
    have H1 := Lib.hid h1
    clear h1
    go_wp2_with fail
    refine bodyPost_ret (v := .agg #[.int .i64 1, .int .i64 n]) (by simp [results, Tryd.results29, go_sem, h1_0, h1_1]) rfl ?_
    rw [HR.out]
    exact ⟨rfl, HCB.out.fin hbl _ _⟩
  have hn1' : ¬ (200 < n + 1 ∨ 40 < d) := by omega
  have FC := Lib.hid (FINC.out hn1')
  have F0 := Lib.hid (FIN0.out hn1')
  clear FINC FIN0 FIN1 hn1'
  have hfd := run_field_code
  by_cases k1 : kind = 1
  · subst k1
    by_cases hx : ix = 0
    case neg =>
      have HR := Lib.hid (FC.out 5 (by simp [TmL.code, hx]) (by omega))
      have t1 : (ix != 0) = true := bne_iff_ne.2 hx
      go_enter Tryd.func29, Tryd.ntmps29
      go_wp2_with fail
      refine (bad_any (w.heap.size + 1 + 1) n 5 _ (Chain.start HBN.out).pl).mono ?_
      rintro e wb ⟨rfl, hwb⟩
      have hcb := (Chain.start HBN.out).below hbl hwb
      have h1 := hcb.r
      have HCB := Lib.hid hcb
      have HWB := Lib.hid hwb
      clear hcb hwb
      have h1_0 := cv0 h1
      have h1_1 := cv1 h1
      have h1_f0 := free_heap h1 0
      have h1_f1 := free_heap h1 1
      have h1_l := lt_heap h1
      have H1 := Lib.hid h1
      clear h1
      go_wp2_with fail
      refine bodyPost_ret (v := .agg #[.int .i64 5, .int .i64 n]) (by simp [results, Tryd.results29, go_sem, h1_0, h1_1]) rfl ?_
      rw [HR.out]
      exact ⟨rfl, HCB.out.fin hbl _ _⟩
    subst hx
    by_cases hl : l.length = 0
    case neg =>
      have HR := Lib.hid (FC.out 5 (by simp [TmL.code, hl]) (by omega))
      have t1 : ((l.length : Int) != 0) = true := bne_iff_ne.2 (by omega)
      go_enter Tryd.func29, Tryd.ntmps29
      go_wp2_with fail
      refine (bad_any (w.heap.size + 1 + 1) n 5 _ (Chain.start HBN.out).pl).mono ?_
      rintro e wb ⟨rfl, hwb⟩
      have hcb := (Chain.start HBN.out).below hbl hwb
      have h1 := hcb.r
      have HCB := Lib.hid hcb
      have HWB := Lib.hid hwb
      clear hcb hwb
      have h1_0 := cv0 h1
      have h1_1 := cv1 h1
      have h1_f0 := free_heap h1 0
      have h1_f1 := free_heap h1 1
      have h1_l := lt_heap h1
      have H1 := Lib.hid h1
      clear h1
      go_wp2_with fail
      refine bodyPost_ret (v := .agg #[.int .i64 5, .int .i64 n]) (by simp [results, Tryd.results29, go_sem, h1_0, h1_1]) rfl ?_
      rw [HR.out]
      exact ⟨rfl, HCB.out.fin hbl _ _⟩
    have t1 : ((l.length : Int) != 0) = false := by rw [hl]; rfl
    by_cases hok : okName nm = true
    case neg =>
      have hok' : okName nm = false := by simpa using hok
      have HR := Lib.hid (FC.out 10 (by simp [TmL.code, hl, hok']) (by omega))
      clear hok
      go_enter Tryd.func29, Tryd.ntmps29
      go_wp2_with fail
      refine (name_any nm _ HNM.out).mono ?_
      rintro e w' ⟨rfl, rfl⟩
      go_wp2_with fail
      refine (bad_any (w.heap.size + 1 + 1) n 10 _ (Chain.start HBN.out).pl).mono ?_
      rintro e wb ⟨rfl, hwb⟩
      have hcb := (Chain.start HBN.out).below hbl hwb
      have h1 := hcb.r
      have HCB := Lib.hid hcb
      have HWB := Lib.hid hwb
      clear hcb hwb
      have h1_0 := cv0 h1
      have h1_1 := cv1 h1
      have h1_f0 := free_heap h1 0
      have h1_f1 := free_heap h1 1
      have h1_l := lt_heap h1
      have H1 := Lib.hid h1
      clear h1
      go_wp2_with fail
      refine bodyPost_ret (v := .agg #[.int .i64 10, .int .i64 n]) (by simp [results, Tryd.results29, go_sem, h1_0, h1_1]) rfl ?_
      rw [HR.out]
      exact ⟨rfl, HCB.out.fin hbl _ _⟩
    by_cases hty : ty.fault = 0
    case neg =>
      have hty' : ((ty.fault : Int) != 0) = true := bne_iff_ne.2 (by omega)
      have HR := Lib.hid (FC.out 12 (by simp [TmL.code, hl, hok, hty]) (by omega))
      clear hty
      go_enter Tryd.func29, Tryd.ntmps29
      go_wp2_with fail
      refine (name_any nm _ HNM.out).mono ?_
      rintro e w' ⟨rfl, rfl⟩
      go_wp2_with fail
      refine (validate_any ty _ _ _ S (HTY.out.keep ((Chain.start HBN.out).keep HS.out)) ((Chain.start HBN.out).lo HS.out)).mono ?_
      rintro e w1 ⟨rfl, hw1⟩
      have hch := (Chain.start HBN.out).below hbl hw1
      have HCH := Lib.hid hch
      have HW1 := Lib.hid hw1
      clear hch hw1
      go_wp2_with fail
      refine (bad_any (w.heap.size + 1 + 1) n 12 _ HCH.out.pl).mono ?_
      rintro e wb ⟨rfl, hwb⟩
      have hcb := HCH.out.below hbl hwb
      have h1 := hcb.r
      have HCB := Lib.hid hcb
      have HWB := Lib.hid hwb
      clear hcb hwb
      have h1_0 := cv0 h1
      have h1_1 := cv1 h1
      have h1_f0 := free_heap h1 0
      have h1_f1 := free_heap h1 1
      have h1_l := lt_heap h1
      have H1 := Lib.hid h1
      clear h1
      go_wp2_with fail
      refine bodyPost_ret (v := .agg #[.int .i64 12, .int .i64 n]) (by simp [results, Tryd.results29, go_sem, h1_0, h1_1]) rfl ?_
      rw [HR.out]
      exact ⟨rfl, HCB.out.fin hbl _ _⟩
    have hty' : ((ty.fault : Int) != 0) = false := by rw [hty]; rfl
    have HR := Lib.hid (show tmVal (.mk ⟨1, nm, 0, ty⟩ l) d bd n = (0, 0, n + 1) by
      rw [F0.out (by simp [TmL.code, hl, hok, hty]), List.eq_nil_of_length_eq_zero hl]; unfold tmVals; rfl)
    clear hty
    go_enter Tryd.func29, Tryd.ntmps29
    go_wp2_with fail
    refine (name_any nm _ HNM.out).mono ?_
    rintro e w' ⟨rfl, rfl⟩
    go_wp2_with fail
    refine (validate_any ty _ _ _ S (HTY.out.keep ((Chain.start HBN.out).keep HS.out)) ((Chain.start HBN.out).lo HS.out)).mono ?_
    rintro e w1 ⟨rfl, hw1⟩
    have hch := (Chain.start HBN.out).below hbl hw1
    clear hw1
    have h1 := hch.r
    have HCH := Lib.hid hch
    clear hch
    have h1_0 := cv0 h1
    have h1_1 := cv1 h1
    have h1_f0 := free_heap h1 0
    have h1_f1 := free_heap h1 1
    have h1_l := lt_heap h1
    have H1 := Lib.hid h1
    clear h1
    go_wp2_with fail
    refine bodyPost_ret (v := .agg #[.int .i64 0, .int .i64 0]) (by simp [results, Tryd.results29, go_sem, h1_0, h1_1]) rfl ?_
    rw [HR.out]
    exact ⟨rfl, HCH.out.fin hbl _ _⟩
  have g1 : (kind == 1) = false := beq_eq_false_iff_ne.2 k1
  by_cases k2 : kind = 2
  · subst k2
    by_cases hnl : nm = bNil
    case neg =>
      have HR := Lib.hid (FC.out 5 (by simp [TmL.code, hnl]) (by omega))
      have t1 : nm.toList.isEmpty = false := not_empty hnl
      clear hnl
      go_enter Tryd.func29, Tryd.ntmps29
      go_wp2_with fail
      refine (bad_any (w.heap.size + 1 + 1) n 5 _ (Chain.start HBN.out).pl).mono ?_
      rintro e wb ⟨rfl, hwb⟩
      have hcb := (Chain.start HBN.out).below hbl hwb
      have h1 := hcb.r
      have HCB := Lib.hid hcb
      have HWB := Lib.hid hwb
      clear hcb hwb
      have h1_0 := cv0 h1
      have h1_1 := cv1 h1
      have h1_f0 := free_heap h1 0
      have h1_f1 := free_heap h1 1
      have h1_l := lt_heap h1
      have H1 := Lib.hid h1
      clear h1
      go_wp2_with fail
      refine bodyPost_ret (v := .agg #[.int .i64 5, .int .i64 n]) (by simp [results, Tryd.results29, go_sem, h1_0, h1_1]) rfl ?_
      rw [HR.out]
      exact ⟨rfl, HCB.out.fin hbl _ _⟩
    subst hnl
    have t1 := empty_nil
    by_cases hbk : ty.blank = true
    case neg =>
      have hbk' : ty.blank = false := by simpa using hbk
      have HR := Lib.hid (FC.out 5 (by simp [TmL.code, hbk']) (by omega))
      clear hbk
      go_enter Tryd.func29, Tryd.ntmps29
      go_wp2_with fail
      refine (blank_any ty _ _ _ S (HTY.out.keep ((Chain.start HBN.out).keep HS.out))).mono ?_
      rintro e w1 ⟨rfl, hw1⟩
      have hch := (Chain.start HBN.out).below hbl hw1
      have HCH := Lib.hid hch
      have HW1 := Lib.hid hw1
      clear hch hw1
      go_wp2_with fail
      refine (bad_any (w.heap.size + 1 + 1) n 5 _ HCH.out.pl).mono ?_
      rintro e wb ⟨rfl, hwb⟩
      have hcb := HCH.out.below hbl hwb
      have h1 := hcb.r
      have HCB := Lib.hid hcb
      have HWB := Lib.hid hwb
      clear hcb hwb
      have h1_0 := cv0 h1
      have h1_1 := cv1 h1
      have h1_f0 := free_heap h1 0
      have h1_f1 := free_heap h1 1
      have h1_l := lt_heap h1
      have H1 := Lib.hid h1
      clear h1
      go_wp2_with fail
      refine bodyPost_ret (v := .agg #[.int .i64 5, .int .i64 n]) (by simp [results, Tryd.results29, go_sem, h1_0, h1_1]) rfl ?_
      rw [HR.out]
      exact ⟨rfl, HCB.out.fin hbl _ _⟩
    by_cases hl : l.length = 0
    case neg =>
      have t2 : ((l.length : Int) != 0) = true := bne_iff_ne.2 (by omega)
      have HR := Lib.hid (FC.out 5 (by simp [TmL.code, hl]) (by omega))
      go_enter Tryd.func29, Tryd.ntmps29
      go_wp2_with fail
      refine (blank_any ty _ _ _ S (HTY.out.keep ((Chain.start HBN.out).keep HS.out))).mono ?_
      rintro e w1 ⟨rfl, hw1⟩
      have hch := (Chain.start HBN.out).below hbl hw1
      have h0 := hch.a
      have HCH := Lib.hid hch
      have HW1 := Lib.hid hw1
      clear hch hw1
      have h0_0 := cv0 h0
      have h0_1 := cv1 h0
      have h0_2 := cv2 h0
      have h0_3 := cv3 h0
      have h0_4 := cv4 h0
      have h0_5 := cv5 h0
      have h0_l := lt_heap h0
      have H0 := Lib.hid h0
      clear h0
      go_wp2_with fail
      refine (bad_any (w.heap.size + 1 + 1) n 5 _ HCH.out.pl).mono ?_
      rintro e wb ⟨rfl, hwb⟩
      have hcb := HCH.out.below hbl hwb
      have h1 := hcb.r
      have HCB := Lib.hid hcb
      have HWB := Lib.hid hwb
      clear hcb hwb
      have h1_0 := cv0 h1
      have h1_1 := cv1 h1
      have h1_f0 := free_heap h1 0
      have h1_f1 := free_heap h1 1
      have h1_l := lt_heap h1
      have H1 := Lib.hid h1
      clear h1
      go_wp2_with fail
      refine bodyPost_ret (v := .agg #[.int .i64 5, .int .i64 n]) (by simp [results, Tryd.results29, go_sem, h1_0, h1_1]) rfl ?_
      rw [HR.out]
      exact ⟨rfl, HCB.out.fin hbl _ _⟩
    have t2 : ((l.length : Int) != 0) = false := by rw [hl]; rfl
    by_cases hix : ix < 0 ∨ (bd : Int) ≤ ix
    case pos =>
      have HR := Lib.hid (FC.out 15 (by simp only [TmL.code]; simp [hl, hbk, hix]) (by omega))
      rcases hix with hix | hix
      all_goals
        go_enter Tryd.func29, Tryd.ntmps29
        go_wp2_with fail
        refine (blank_any ty _ _ _ S (HTY.out.keep ((Chain.start HBN.out).keep HS.out))).mono ?_
        rintro e w1 ⟨rfl, hw1⟩
        have hch := (Chain.start HBN.out).below hbl hw1
        have h0 := hch.a
        have HCH := Lib.hid hch
        have HW1 := Lib.hid hw1
        clear hch hw1
        have h0_0 := cv0 h0
        have h0_1 := cv1 h0
        have h0_2 := cv2 h0
        have h0_3 := cv3 h0
        have h0_4 := cv4 h0
        have h0_5 := cv5 h0
        have h0_l := lt_heap h0
        have H0 := Lib.hid h0
        clear h0
        go_wp2_with fail
        all_goals
          refine (bad_any (w.heap.size + 1 + 1) n 15 _ HCH.out.pl).mono ?_
          rintro e wb ⟨rfl, hwb⟩
          have hcb := HCH.out.below hbl hwb
          have h1 := hcb.r
          have HCB := Lib.hid hcb
          have HWB := Lib.hid hwb
          clear hcb hwb
          have h1_0 := cv0 h1
          have h1_1 := cv1 h1
          have h1_f0 := free_heap h1 0
          have h1_f1 := free_heap h1 1
          have h1_l := lt_heap h1
          have H1 := Lib.hid h1
          clear h1
          go_wp2_with fail
          refine bodyPost_ret (v := .agg #[.int .i64 15, .int .i64 n]) (by simp [results, Tryd.results29, go_sem, h1_0, h1_1]) rfl ?_
          rw [HR.out]
          exact ⟨rfl, HCB.out.fin hbl _ _⟩
    have hix1 : ¬ ix < 0 := by omega
    have hix2 : ¬ (bd : Int) ≤ ix := by omega
    have HR := Lib.hid (show tmVal (.mk ⟨2, bNil, ix, ty⟩ l) d bd n = (0, 0, n + 1) by
      rw [F0.out (by simp only [TmL.code]; simp [hl, hbk, hix]), List.eq_nil_of_length_eq_zero hl]; unfold tmVals; rfl)
    clear hix
    go_enter Tryd.func29, Tryd.ntmps29
    go_wp2_with fail
    refine (blank_any ty _ _ _ S (HTY.out.keep ((Chain.start HBN.out).keep HS.out))).mono ?_
    rintro e w1 ⟨rfl, hw1⟩
    have hch := (Chain.start HBN.out).below hbl hw1
    have h0 := hch.a
    have h0_0 := cv0 h0
    have h0_1 := cv1 h0
    have h0_2 := cv2 h0
    have h0_3 := cv3 h0
    have h0_4 := cv4 h0
    have h0_5 := cv5 h0
    have h0_l := lt_heap h0
    have H0 := Lib.hid h0
    clear h0
    clear hw1
    have h1 := hch.r
    have HCH := Lib.hid hch
    clear hch
    have h1_0 := cv0 h1
    have h1_1 := cv1 h1
    have h1_f0 := free_heap h1 0
    have h1_f1 := free_heap h1 1
    have h1_l := lt_heap h1
    have H1 := Lib.hid h1
    clear h1
    go_wp2_with fail
    refine bodyPost_ret (v := .agg #[.int .i64 0, .int .i64 0]) (by simp [results, Tryd.results29, go_sem, h1_0, h1_1]) rfl ?_
    rw [HR.out]
    exact ⟨rfl, HCH.out.fin hbl _ _⟩
  have g2 : (kind == 2) = false := beq_eq_false_iff_ne.2 k2
  by_cases k3 : kind = 3
  · subst k3
    by_cases hnl : nm = bNil
    case neg =>
      have HR := Lib.hid (FC.out 5 (by simp [TmL.code, hnl]) (by omega))
      have t1 : nm.toList.isEmpty = false := not_empty hnl
      clear hnl
      go_enter Tryd.func29, Tryd.ntmps29
      go_wp2_with fail
      refine (bad_any (w.heap.size + 1 + 1) n 5 _ (Chain.start HBN.out).pl).mono ?_
      rintro e wb ⟨rfl, hwb⟩
      have hcb := (Chain.start HBN.out).below hbl hwb
      have h1 := hcb.r
      have HCB := Lib.hid hcb
      have HWB := Lib.hid hwb
      clear hcb hwb
      have h1_0 := cv0 h1
      have h1_1 := cv1 h1
      have h1_f0 := free_heap h1 0
      have h1_f1 := free_heap h1 1
      have h1_l := lt_heap h1
      have H1 := Lib.hid h1
      clear h1
      go_wp2_with fail
      refine bodyPost_ret (v := .agg #[.int .i64 5, .int .i64 n]) (by simp [results, Tryd.results29, go_sem, h1_0, h1_1]) rfl ?_
      rw [HR.out]
      exact ⟨rfl, HCB.out.fin hbl _ _⟩
    subst hnl
    have t1 := empty_nil
    by_cases hx : ix = 0
    case neg =>
      have HR := Lib.hid (FC.out 5 (by simp [TmL.code, hx]) (by omega))
      have t2 : (ix != 0) = true := bne_iff_ne.2 hx
      go_enter Tryd.func29, Tryd.ntmps29
      go_wp2_with fail
      refine (bad_any (w.heap.size + 1 + 1) n 5 _ (Chain.start HBN.out).pl).mono ?_
      rintro e wb ⟨rfl, hwb⟩
      have hcb := (Chain.start HBN.out).below hbl hwb
      have h1 := hcb.r
      have HCB := Lib.hid hcb
      have HWB := Lib.hid hwb
      clear hcb hwb
      have h1_0 := cv0 h1
      have h1_1 := cv1 h1
      have h1_f0 := free_heap h1 0
      have h1_f1 := free_heap h1 1
      have h1_l := lt_heap h1
      have H1 := Lib.hid h1
      clear h1
      go_wp2_with fail
      refine bodyPost_ret (v := .agg #[.int .i64 5, .int .i64 n]) (by simp [results, Tryd.results29, go_sem, h1_0, h1_1]) rfl ?_
      rw [HR.out]
      exact ⟨rfl, HCB.out.fin hbl _ _⟩
    subst hx
    by_cases hl : l.length = 1
    case neg =>
      have t2 : ((l.length : Int) != 1) = true := bne_iff_ne.2 (by omega)
      have HR := Lib.hid (FC.out 5 (by simp [TmL.code, hl]) (by omega))
      go_enter Tryd.func29, Tryd.ntmps29
      go_wp2_with fail
      refine (bad_any (w.heap.size + 1 + 1) n 5 _ (Chain.start HBN.out).pl).mono ?_
      rintro e wb ⟨rfl, hwb⟩
      have hcb := (Chain.start HBN.out).below hbl hwb
      have h1 := hcb.r
      have HCB := Lib.hid hcb
      have HWB := Lib.hid hwb
      clear hcb hwb
      have h1_0 := cv0 h1
      have h1_1 := cv1 h1
      have h1_f0 := free_heap h1 0
      have h1_f1 := free_heap h1 1
      have h1_l := lt_heap h1
      have H1 := Lib.hid h1
      clear h1
      go_wp2_with fail
      refine bodyPost_ret (v := .agg #[.int .i64 5, .int .i64 n]) (by simp [results, Tryd.results29, go_sem, h1_0, h1_1]) rfl ?_
      rw [HR.out]
      exact ⟨rfl, HCB.out.fin hbl _ _⟩
    have t2 : ((l.length : Int) != 1) = false := by rw [hl]; rfl
    by_cases hty : ty.fault = 0
    case neg =>
      have hty' : ((ty.fault : Int) != 0) = true := bne_iff_ne.2 (by omega)
      have HR := Lib.hid (FC.out 12 (by simp [TmL.code, hl, hty]) (by omega))
      clear hty
      go_enter Tryd.func29, Tryd.ntmps29
      go_wp2_with fail
      refine (validate_any ty _ _ _ S (HTY.out.keep ((Chain.start HBN.out).keep HS.out)) ((Chain.start HBN.out).lo HS.out)).mono ?_
      rintro e w1 ⟨rfl, hw1⟩
      have hch := (Chain.start HBN.out).below hbl hw1
      have HCH := Lib.hid hch
      have HW1 := Lib.hid hw1
      clear hch hw1
      go_wp2_with fail
      refine (bad_any (w.heap.size + 1 + 1) n 12 _ HCH.out.pl).mono ?_
      rintro e wb ⟨rfl, hwb⟩
      have hcb := HCH.out.below hbl hwb
      have h1 := hcb.r
      have HCB := Lib.hid hcb
      have HWB := Lib.hid hwb
      clear hcb hwb
      have h1_0 := cv0 h1
      have h1_1 := cv1 h1
      have h1_f0 := free_heap h1 0
      have h1_f1 := free_heap h1 1
      have h1_l := lt_heap h1
      have H1 := Lib.hid h1
      clear h1
      go_wp2_with fail
      refine bodyPost_ret (v := .agg #[.int .i64 12, .int .i64 n]) (by simp [results, Tryd.results29, go_sem, h1_0, h1_1]) rfl ?_
      rw [HR.out]
      exact ⟨rfl, HCB.out.fin hbl _ _⟩
    have hty' : ((ty.fault : Int) != 0) = false := by rw [hty]; rfl
    match l, hl with
    | [t1], _ =>
    obtain ⟨b, o, kcs, rfl, hSb, hkid, hkc⟩ := Rep.Sl.at_ (ρ := tmRep) (k := 0) (show tmRep.Sl w S (.slice A [t1].length c) [t1] from ⟨_, _, _, rfl, rfl, hm', HA.out⟩) rfl
    obtain ⟨s', A', n', c', A2, n2, c2, rfl, _, _⟩ := Tm.shape hkid
    have hkc' : ∀ (j : Nat) (u : Value), _ → w.cell? ⟨b, o + j, none⟩ = some u := fun j u hj => by simpa using hkc j u hj
    have HR := Lib.hid (show tmVal (.mk ⟨3, bNil, 0, ty⟩ [t1]) d bd n = tmVal t1 (d + 1) (bd + 1) (n + 1) by
      rw [F0.out (by simp [TmL.code, hty])]; exact tmVals_one t1 _ _ _ (by omega))
    have HKID := Lib.hid hkid
    have HKC := Lib.hid hkc'
    clear hty hkid hkc hkc'
    go_enter Tryd.func29, Tryd.ntmps29
    go_wp2_with fail
    refine (validate_any ty _ _ _ S (HTY.out.keep ((Chain.start HBN.out).keep HS.out)) ((Chain.start HBN.out).lo HS.out)).mono ?_
    rintro e w1 ⟨rfl, hw1⟩
    have hch := (Chain.start HBN.out).below hbl hw1
    have h0 := hch.a
    have hk := hch.keep HS.out b hSb
    have hbw1 := grown_at hch.g hwl hne.symm HBW.out
    have hbsz := hch.lo HS.out b hSb
    have hbS := (HS.out b hSb).2
    have hbS1 := (HS.out b hSb).1
    have hsz := hch.sz
    have e0 : w1.cell? ⟨b, o, none⟩ = _ := (cell_keep hk _).trans (HKC.out 0 _ rfl)
    have e1 : w1.cell? ⟨b, o + 1, none⟩ = _ := (cell_keep hk _).trans (HKC.out 1 _ rfl)
    have e2 : w1.cell? ⟨b, o + 2, none⟩ = _ := (cell_keep hk _).trans (HKC.out 2 _ rfl)
    have e3 : w1.cell? ⟨b, o + 3, none⟩ = _ := (cell_keep hk _).trans (HKC.out 3 _ rfl)
    have e4 : w1.cell? ⟨b, o + 4, none⟩ = _ := (cell_keep hk _).trans (HKC.out 4 _ rfl)
    have e5 : w1.cell? ⟨b, o + 5, none⟩ = _ := (cell_keep hk _).trans (HKC.out 5 _ rfl)
    have HCH := Lib.hid hch
    have HW1 := Lib.hid hw1
    have HK := Lib.hid hk
    clear hch hw1 hk
    have h0_0 := cv0 h0
    have h0_1 := cv1 h0
    have h0_2 := cv2 h0
    have h0_3 := cv3 h0
    have h0_4 := cv4 h0
    have h0_5 := cv5 h0
    have h0_l := lt_heap h0
    have H0 := Lib.hid h0
    clear h0
    have hbw1_0 := cv0 hbw1
    have hbw1_l := lt_heap hbw1
    have HBW1 := Lib.hid hbw1
    clear hbw1
    go_wp2_with fail
    have hih : Calls Tryd.prog 29 #[.agg #[.int .i64 t1.lab.kind, .string t1.lab.nm, .int .i64 t1.lab.ix, .string s', .slice A' n' c', .slice A2 n2 c2], .int .i64 ((d : Int) + 1), .int .i64 ((bd : Int) + 1), .pointer (some ⟨bn, 0, none⟩), .pointer (some ⟨bw, 0, none⟩)] w1.drew _ := IH.out t1 [.int .i64 t1.lab.kind, .string t1.lab.nm, .int .i64 t1.lab.ix, .string s', .slice A' n' c', .slice A2 n2 c2] w1.drew S bn bw (d + 1) (bd + 1) (n + 1) (by have := HN.out; simp [Tree.nodes, Tree.nodess] at this; omega) (tmRep.keep HKID.out (HCH.out.drew.keep HS.out) (fun _ h => h)) (fun k hk => ⟨HCH.out.drew.lo HS.out k hk, (HS.out k hk).2⟩) HCH.out.drew.cnt HBW1.out hne (by omega) (by omega) (by omega)
    have HIH := Lib.hid hih
    clear hih
    have hwd : IntKind.i64.wrap ((d : Int) + 1) = (d : Int) + 1 := wrap_small _ (by omega) (by omega)
    have hwbd : IntKind.i64.wrap ((bd : Int) + 1) = (bd : Int) + 1 := wrap_small _ (by omega) (by omega)
    go_region_held3 (fun w' => w'.cell? ⟨bw, 0, none⟩ = some (.func (Fn.func 29) #[] #[.pointer (some ⟨bn, 0, none⟩), .pointer (some ⟨bw, 0, none⟩)]) ∧ w'.cell? ⟨w.heap.size, 5, none⟩ = some (.slice (some ⟨b, o, none⟩) 1 c) ∧ w'.cell? ⟨b, o, none⟩ = some (.int .i64 t1.lab.kind) ∧ w'.cell? ⟨b, o + 1, none⟩ = some (.string t1.lab.nm) ∧ w'.cell? ⟨b, o + 2, none⟩ = some (.int .i64 t1.lab.ix) ∧ w'.cell? ⟨b, o + 3, none⟩ = some (.string s') ∧ w'.cell? ⟨b, o + 4, none⟩ = some (.slice A' n' c') ∧ w'.cell? ⟨b, o + 5, none⟩ = some (.slice A2 n2 c2))
      ((first | (go_keep; done) | (go_split_ands; (repeat' apply And.intro) <;> (refine (kc _ _ (by omega) (by omega)).trans ?_; assumption)) | (go_split_ands; (repeat' apply And.intro) <;> (refine (cell_keep (heap_far _ (by omega) (heap_far _ (by omega) rfl)) _).trans ?_; assumption))))
      ((clear hwd hwbd; (with_reducible refine HIH.out.mono ?_); rintro e w2 ⟨rfl, hq, hg⟩; have hc2 := HCH.out.drew.grown hbl hg hq; have kc : ∀ k q, k < w1.heap.size → k ≠ bn → w2.cell? ⟨k, q, none⟩ = w1.cell? ⟨k, q, none⟩ := (fun k q h1 h2 => cell_keep (hg.block k h1 (by intro e; injection e; omega)) q); have h1 := hc2.r; have h1_0 := cv0 h1; have h1_1 := cv1 h1; have h1_f0 := free_heap h1 0; have h1_f1 := free_heap h1 1; have h1_l := lt_heap h1; have HC2 := Lib.hid hc2; clear hc2 hq hg h1))
    go_wp2_with fail
    refine bodyPost_ret (v := .agg #[.int .i64 (tmVal t1 (d + 1) (bd + 1) (n + 1)).1, .int .i64 (tmVal t1 (d + 1) (bd + 1) (n + 1)).2.1]) (by simp [results, Tryd.results29, go_sem, h1_0, h1_1, h1_l]) rfl ?_
    rw [HR.out]
    exact ⟨rfl, HC2.out.fin hbl _ _⟩
  have g3 : (kind == 3) = false := beq_eq_false_iff_ne.2 k3
  by_cases k4 : kind = 4
  · subst k4
    by_cases hnl : nm = bNil
    case neg =>
      have HR := Lib.hid (FC.out 5 (by simp [TmL.code, hnl]) (by omega))
      have t1 : nm.toList.isEmpty = false := not_empty hnl
      clear hnl
      go_enter Tryd.func29, Tryd.ntmps29
      go_wp2_with fail
      refine (bad_any (w.heap.size + 1 + 1) n 5 _ (Chain.start HBN.out).pl).mono ?_
      rintro e wb ⟨rfl, hwb⟩
      have hcb := (Chain.start HBN.out).below hbl hwb
      have h1 := hcb.r
      have HCB := Lib.hid hcb
      have HWB := Lib.hid hwb
      clear hcb hwb
      have h1_0 := cv0 h1
      have h1_1 := cv1 h1
      have h1_f0 := free_heap h1 0
      have h1_f1 := free_heap h1 1
      have h1_l := lt_heap h1
      have H1 := Lib.hid h1
      clear h1
      go_wp2_with fail
      refine bodyPost_ret (v := .agg #[.int .i64 5, .int .i64 n]) (by simp [results, Tryd.results29, go_sem, h1_0, h1_1]) rfl ?_
      rw [HR.out]
      exact ⟨rfl, HCB.out.fin hbl _ _⟩
    subst hnl
    have t1 := empty_nil
    by_cases hx : ix = 0
    case neg =>
      have HR := Lib.hid (FC.out 5 (by simp [TmL.code, hx]) (by omega))
      have t2 : (ix != 0) = true := bne_iff_ne.2 hx
      go_enter Tryd.func29, Tryd.ntmps29
      go_wp2_with fail
      refine (bad_any (w.heap.size + 1 + 1) n 5 _ (Chain.start HBN.out).pl).mono ?_
      rintro e wb ⟨rfl, hwb⟩
      have hcb := (Chain.start HBN.out).below hbl hwb
      have h1 := hcb.r
      have HCB := Lib.hid hcb
      have HWB := Lib.hid hwb
      clear hcb hwb
      have h1_0 := cv0 h1
      have h1_1 := cv1 h1
      have h1_f0 := free_heap h1 0
      have h1_f1 := free_heap h1 1
      have h1_l := lt_heap h1
      have H1 := Lib.hid h1
      clear h1
      go_wp2_with fail
      refine bodyPost_ret (v := .agg #[.int .i64 5, .int .i64 n]) (by simp [results, Tryd.results29, go_sem, h1_0, h1_1]) rfl ?_
      rw [HR.out]
      exact ⟨rfl, HCB.out.fin hbl _ _⟩
    subst hx
    by_cases hbk : ty.blank = true
    case neg =>
      have hbk' : ty.blank = false := by simpa using hbk
      have HR := Lib.hid (FC.out 5 (by simp [TmL.code, hbk']) (by omega))
      clear hbk
      go_enter Tryd.func29, Tryd.ntmps29
      go_wp2_with fail
      refine (blank_any ty _ _ _ S (HTY.out.keep ((Chain.start HBN.out).keep HS.out))).mono ?_
      rintro e w1 ⟨rfl, hw1⟩
      have hch := (Chain.start HBN.out).below hbl hw1
      have HCH := Lib.hid hch
      have HW1 := Lib.hid hw1
      clear hch hw1
      go_wp2_with fail
      refine (bad_any (w.heap.size + 1 + 1) n 5 _ HCH.out.pl).mono ?_
      rintro e wb ⟨rfl, hwb⟩
      have hcb := HCH.out.below hbl hwb
      have h1 := hcb.r
      have HCB := Lib.hid hcb
      have HWB := Lib.hid hwb
      clear hcb hwb
      have h1_0 := cv0 h1
      have h1_1 := cv1 h1
      have h1_f0 := free_heap h1 0
      have h1_f1 := free_heap h1 1
      have h1_l := lt_heap h1
      have H1 := Lib.hid h1
      clear h1
      go_wp2_with fail
      refine bodyPost_ret (v := .agg #[.int .i64 5, .int .i64 n]) (by simp [results, Tryd.results29, go_sem, h1_0, h1_1]) rfl ?_
      rw [HR.out]
      exact ⟨rfl, HCB.out.fin hbl _ _⟩
    by_cases hl : l.length = 2
    case neg =>
      have t2 : ((l.length : Int) != 2) = true := bne_iff_ne.2 (by omega)
      have HR := Lib.hid (FC.out 5 (by simp [TmL.code, hl]) (by omega))
      go_enter Tryd.func29, Tryd.ntmps29
      go_wp2_with fail
      refine (blank_any ty _ _ _ S (HTY.out.keep ((Chain.start HBN.out).keep HS.out))).mono ?_
      rintro e w1 ⟨rfl, hw1⟩
      have hch := (Chain.start HBN.out).below hbl hw1
      have h0 := hch.a
      have HCH := Lib.hid hch
      have HW1 := Lib.hid hw1
      clear hch hw1
      have h0_0 := cv0 h0
      have h0_1 := cv1 h0
      have h0_2 := cv2 h0
      have h0_3 := cv3 h0
      have h0_4 := cv4 h0
      have h0_5 := cv5 h0
      have h0_l := lt_heap h0
      have H0 := Lib.hid h0
      clear h0
      go_wp2_with fail
      refine (bad_any (w.heap.size + 1 + 1) n 5 _ HCH.out.pl).mono ?_
      rintro e wb ⟨rfl, hwb⟩
      have hcb := HCH.out.below hbl hwb
      have h1 := hcb.r
      have HCB := Lib.hid hcb
      have HWB := Lib.hid hwb
      clear hcb hwb
      have h1_0 := cv0 h1
      have h1_1 := cv1 h1
      have h1_f0 := free_heap h1 0
      have h1_f1 := free_heap h1 1
      have h1_l := lt_heap h1
      have H1 := Lib.hid h1
      clear h1
      go_wp2_with fail
      refine bodyPost_ret (v := .agg #[.int .i64 5, .int .i64 n]) (by simp [results, Tryd.results29, go_sem, h1_0, h1_1]) rfl ?_
      rw [HR.out]
      exact ⟨rfl, HCB.out.fin hbl _ _⟩
    have t2 : ((l.length : Int) != 2) = false := by rw [hl]; rfl
    match l, hl with
    | [t1, t2], _ =>
    have hsl := (show tmRep.Sl w S (.slice A [t1, t2].length c) [t1, t2] from ⟨_, _, _, rfl, rfl, hm', HA.out⟩)
    obtain ⟨b, o, kcs1, rfl, hSb, hkid1, hkc1⟩ := Rep.Sl.at_ (ρ := tmRep) (k := 0) hsl rfl
    obtain ⟨b', o', kcs2, hbo, _, hkid2, hkc2⟩ := Rep.Sl.at_ (ρ := tmRep) (k := 1) hsl rfl
    obtain ⟨rfl, rfl⟩ : b = b' ∧ o = o' := by simpa using hbo
    obtain ⟨s1, A1, n1, c1, B1, m1, d1, rfl, _, _⟩ := Tm.shape hkid1
    obtain ⟨s2, A2, n2, c2, B2, m2, d2, rfl, _, _⟩ := Tm.shape hkid2
    have hkc1' : ∀ (j : Nat) (u : Value), _ → w.cell? ⟨b, o + j, none⟩ = some u := fun j u hj => by simpa using hkc1 j u hj
    have hkc2' : ∀ (j : Nat) (u : Value), _ → w.cell? ⟨b, o + 6 + j, none⟩ = some u := fun j u hj => by simpa [treeRep, tmL] using hkc2 j u hj
    have hv2 : tmVal (.mk ⟨4, bNil, 0, ty⟩ [t1, t2]) d bd n = if (tmVal t1 (d + 1) bd (n + 1)).1 = 0 then tmVal t2 (d + 1) bd (tmVal t1 (d + 1) bd (n + 1)).2.2 else tmVal t1 (d + 1) bd (n + 1) := by
      rw [F0.out (by simp [TmL.code, hbk])]
      simp only [TmL.under, show ¬ ((4 : Int) = 3) by decide, if_false]
      unfold tmVals
      by_cases e : (tmVal t1 (d + 1) bd (n + 1)).1 = 0
      · rw [if_pos e, if_pos e, tmVals_one t2 _ _ _ ((tmVal_le t1 _ _ _ (by omega)).2 e).1]
      · rw [if_neg e, if_neg e]
    have hle := tmVal_le t1 (d + 1) bd (n + 1) (by omega)
    have HLE := Lib.hid hle
    have HV2 := Lib.hid hv2
    have HKID1 := Lib.hid hkid1
    have HKC1 := Lib.hid hkc1'
    have HKID2 := Lib.hid hkid2
    have HKC2 := Lib.hid hkc2'
    clear hkid1 hkc1 hkc1' hkid2 hkc2 hkc2' hv2 hle hsl hbo
    go_enter Tryd.func29, Tryd.ntmps29
    go_wp2_with fail
    refine (blank_any ty _ _ _ S (HTY.out.keep ((Chain.start HBN.out).keep HS.out))).mono ?_
    rintro e w1 ⟨rfl, hw1⟩
    have hch := (Chain.start HBN.out).below hbl hw1
    have h0 := hch.a
    have hk := hch.keep HS.out b hSb
    have hbw1 := grown_at hch.g hwl hne.symm HBW.out
    have hbsz := hch.lo HS.out b hSb
    have hbS := (HS.out b hSb).2
    have hbS1 := (HS.out b hSb).1
    have hsz := hch.sz
    have e0 : w1.cell? ⟨b, o, none⟩ = _ := (cell_keep hk _).trans (HKC1.out 0 _ rfl)
    have e1 : w1.cell? ⟨b, o + 1, none⟩ = _ := (cell_keep hk _).trans (HKC1.out 1 _ rfl)
    have e2 : w1.cell? ⟨b, o + 2, none⟩ = _ := (cell_keep hk _).trans (HKC1.out 2 _ rfl)
    have e3 : w1.cell? ⟨b, o + 3, none⟩ = _ := (cell_keep hk _).trans (HKC1.out 3 _ rfl)
    have e4 : w1.cell? ⟨b, o + 4, none⟩ = _ := (cell_keep hk _).trans (HKC1.out 4 _ rfl)
    have e5 : w1.cell? ⟨b, o + 5, none⟩ = _ := (cell_keep hk _).trans (HKC1.out 5 _ rfl)
    have HCH := Lib.hid hch
    have HW1 := Lib.hid hw1
    have HK := Lib.hid hk
    clear hch hw1 hk
    have h0_0 := cv0 h0
    have h0_1 := cv1 h0
    have h0_2 := cv2 h0
    have h0_3 := cv3 h0
    have h0_4 := cv4 h0
    have h0_5 := cv5 h0
    have h0_l := lt_heap h0
    have H0 := Lib.hid h0
    clear h0
    have hbw1_0 := cv0 hbw1
    have hbw1_l := lt_heap hbw1
    have HBW1 := Lib.hid hbw1
    clear hbw1
    go_wp2_with fail
    have hih : Calls Tryd.prog 29 #[.agg #[.int .i64 t1.lab.kind, .string t1.lab.nm, .int .i64 t1.lab.ix, .string s1, .slice A1 n1 c1, .slice B1 m1 d1], .int .i64 ((d : Int) + 1), .int .i64 bd, .pointer (some ⟨bn, 0, none⟩), .pointer (some ⟨bw, 0, none⟩)] w1.drew _ := IH.out t1 [.int .i64 t1.lab.kind, .string t1.lab.nm, .int .i64 t1.lab.ix, .string s1, .slice A1 n1 c1, .slice B1 m1 d1] w1.drew S bn bw (d + 1) bd (n + 1) (by have := HN.out; simp [Tree.nodes, Tree.nodess] at this; omega) (tmRep.keep HKID1.out (HCH.out.drew.keep HS.out) (fun _ h => h)) (fun k hk => ⟨HCH.out.drew.lo HS.out k hk, (HS.out k hk).2⟩) HCH.out.drew.cnt HBW1.out hne (by omega) (by omega) (by omega)
    have hih2 : Calls Tryd.prog 29 #[.agg #[.int .i64 t1.lab.kind, .string t1.lab.nm, .int .i64 t1.lab.ix, .string s1, .slice A1 n1 c1, .slice B1 m1 d1], .int .i64 ((d : Int) + 1), .int .i64 bd, .pointer (some ⟨bn, 0, none⟩), .pointer (some ⟨bw, 0, none⟩)] (w1.alloc (.cells #[.int .i64 0, .int .i64 0] 29)).drew _ := IH.out t1 [.int .i64 t1.lab.kind, .string t1.lab.nm, .int .i64 t1.lab.ix, .string s1, .slice A1 n1 c1, .slice B1 m1 d1] (w1.alloc (.cells #[.int .i64 0, .int .i64 0] 29)).drew S bn bw (d + 1) bd (n + 1) (by have := HN.out; simp [Tree.nodes, Tree.nodess] at this; omega) (tmRep.keep HKID1.out ((HCH.out.alloc hbl _).drew.keep HS.out) (fun _ h => h)) (fun k hk => ⟨(HCH.out.alloc hbl _).drew.lo HS.out k hk, (HS.out k hk).2⟩) (HCH.out.alloc hbl _).drew.cnt (heap_old (w := w1) (by omega) HBW1.out) hne (by omega) (by omega) (by omega)
    have HIH := Lib.hid hih
    have HIH2 := Lib.hid hih2
    clear hih hih2
    go_cut [11] (fun s11 wx => ∃ k : Nat, s11 = .pointer (some ⟨k, 0, none⟩) ∧ w.heap.size + 1 + 1 + 1 ≤ k ∧ wx.heap[k]? = some (.cells #[.int .i64 (tmVal t1 (d + 1) bd (n + 1)).1, .int .i64 (tmVal t1 (d + 1) bd (n + 1)).2.1] 29 (0, 0)) ∧ Chain w wx bn (.cells #[.int .i64 4, .string bNil, .int .i64 0, .string sb, .slice Ab nb cb, .slice (some ⟨b, o, none⟩) 2 c] 27) n (tmVal t1 (d + 1) bd (n + 1)).2.2)
    case first =>
      have hwd : IntKind.i64.wrap ((d : Int) + 1) = (d : Int) + 1 := wrap_small _ (by omega) (by omega)
      go_region_held3 (fun w' => w'.cell? ⟨bw, 0, none⟩ = some (.func (Fn.func 29) #[] #[.pointer (some ⟨bn, 0, none⟩), .pointer (some ⟨bw, 0, none⟩)]) ∧ w'.cell? ⟨w.heap.size, 5, none⟩ = some (.slice (some ⟨b, o, none⟩) 2 c) ∧ w'.cell? ⟨b, o, none⟩ = some (.int .i64 t1.lab.kind) ∧ w'.cell? ⟨b, o + 1, none⟩ = some (.string t1.lab.nm) ∧ w'.cell? ⟨b, o + 2, none⟩ = some (.int .i64 t1.lab.ix) ∧ w'.cell? ⟨b, o + 3, none⟩ = some (.string s1) ∧ w'.cell? ⟨b, o + 4, none⟩ = some (.slice A1 n1 c1) ∧ w'.cell? ⟨b, o + 5, none⟩ = some (.slice B1 m1 d1))
        ((first | (go_keep; done) | (go_split_ands; (repeat' apply And.intro) <;> (refine (kc _ _ (by omega) (by omega)).trans ?_; assumption)) | (go_split_ands; (repeat' apply And.intro) <;> (refine (cell_keep (heap_old (by first | omega | (go_size; done)) rfl) _).trans ?_; assumption)) | (go_split_ands; (repeat' apply And.intro) <;> (refine (cell_keep (heap_far _ (by omega) rfl) _).trans ?_; assumption)) | (go_split_ands; (repeat' apply And.intro) <;> (refine (cell_keep (heap_far _ (by omega) (heap_far _ (by omega) rfl)) _).trans ?_; assumption))))
        (first
          | (clear hwd; (with_reducible refine HIH.out.mono ?_); rintro e w2 ⟨rfl, hq, hg⟩; have hc2 := HCH.out.drew.grown hbl hg hq; have kc : ∀ k q, k < w1.heap.size → k ≠ bn → w2.cell? ⟨k, q, none⟩ = w1.cell? ⟨k, q, none⟩ := (fun k q h1 h2 => cell_keep (hg.block k h1 (by intro e; injection e; omega)) q); have z2 : w1.heap.size ≤ w2.heap.size := hg.size; have y0 := (kc bw 0 (by omega) (by omega)).trans hbw1_0; have y1 := (kc w.heap.size 5 (by omega) (by omega)).trans h0_5; have y2 := (kc b (o) (by omega) (by omega)).trans e0; have y3 := (kc b (o + 1) (by omega) (by omega)).trans e1; have y4 := (kc b (o + 2) (by omega) (by omega)).trans e2; have y5 := (kc b (o + 3) (by omega) (by omega)).trans e3; have y6 := (kc b (o + 4) (by omega) (by omega)).trans e4; have y7 := (kc b (o + 5) (by omega) (by omega)).trans e5; have HC2 := Lib.hid hc2; clear hc2 hq hg)
          | (clear hwd; (with_reducible refine HIH2.out.mono ?_); rintro e w2 ⟨rfl, hq, hg⟩; have hc2 := (HCH.out.alloc hbl _).drew.grown hbl hg hq; have kc : ∀ k q, k < w1.heap.size → k ≠ bn → w2.cell? ⟨k, q, none⟩ = w1.cell? ⟨k, q, none⟩ := (fun k q h1 h2 => cell_keep ((hg.block k (by simp; omega) (by intro e; injection e; omega)).trans (heap_old h1 rfl)) q); have z2 : w1.heap.size + 1 ≤ w2.heap.size := (by have := hg.size; simpa using this); have y0 := (kc bw 0 (by omega) (by omega)).trans hbw1_0; have y1 := (kc w.heap.size 5 (by omega) (by omega)).trans h0_5; have y2 := (kc b (o) (by omega) (by omega)).trans e0; have y3 := (kc b (o + 1) (by omega) (by omega)).trans e1; have y4 := (kc b (o + 2) (by omega) (by omega)).trans e2; have y5 := (kc b (o + 3) (by omega) (by omega)).trans e3; have y6 := (kc b (o + 4) (by omega) (by omega)).trans e4; have y7 := (kc b (o + 5) (by omega) (by omega)).trans e5; have hz := (hg.block w1.heap.size (by simp) (by intro e; injection e; omega)).trans (heap_at (w := w1) rfl); have hz0 := cv0 hz; have hz1 := cv1 hz; have hzf0 := free_heap hz 0; have hzf1 := free_heap hz 1; have HZ := Lib.hid hz; have HC2 := Lib.hid hc2; clear hc2 hq hg hz))
      all_goals
        go_wp2_with fail
        go_meet
        first
        | exact ⟨_, rfl, by have := HC2.out.sz; omega, heap_at rfl, HC2.out.alloc hbl _⟩
        | exact ⟨w1.heap.size, rfl, by omega, by simpa using heap_set (heap_set HZ.out 0 _) 1 _, (HC2.out.set hbl (by omega) _ _).set hbl (by omega) _ _⟩
    case rest =>
      obtain ⟨k, rfl, hk3, hkb, hcx⟩ := hcut
      rename World => wx
      have h1 := hcx.r
      have h0 := hcx.a
      have hk := hcx.keep HS.out b hSb
      have hbw2 := grown_at hcx.g hwl hne.symm HBW.out
      have hbsz := hcx.lo HS.out b hSb
      have hsz := hcx.sz
      clear e0 e1 e2 e3 e4 e5 h0_0 h0_1 h0_2 h0_3 h0_4 h0_5 h0_l hbw1_0 hbw1_l
      by_cases hz : (tmVal t1 (d + 1) bd (n + 1)).1 = 0
      case neg =>
        have HR := Lib.hid (HV2.out.trans (if_neg hz))
        have t3 : (((tmVal t1 (d + 1) bd (n + 1)).1 : Int) != 0) = true := bne_iff_ne.2 (by omega)
        have HCX := Lib.hid hcx
        have HZ := Lib.hid hz
        clear hcx hz
        have hkb_0 := cv0 hkb
        have hkb_1 := cv1 hkb
        have hkb_f0 := free_heap hkb 0
        have hkb_f1 := free_heap hkb 1
        have hkb_l := lt_heap hkb
        have HKB := Lib.hid hkb
        clear hkb
        have h1_0 := cv0 h1
        have h1_1 := cv1 h1
        have h1_f0 := free_heap h1 0
        have h1_f1 := free_heap h1 1
        have h1_l := lt_heap h1
        have H1 := Lib.hid h1
        clear h1
        go_wp2_with fail
        refine bodyPost_ret (v := .agg #[.int .i64 (tmVal t1 (d + 1) bd (n + 1)).1, .int .i64 (tmVal t1 (d + 1) bd (n + 1)).2.1]) (by simp [results, Tryd.results29, go_sem, h1_0, h1_1, h1_l]) rfl ?_
        rw [HR.out]
        exact ⟨rfl, HCX.out.fin hbl _ _⟩
      have HR := Lib.hid (HV2.out.trans (if_pos hz))
      have t3 : (((tmVal t1 (d + 1) bd (n + 1)).1 : Int) != 0) = false := by rw [hz]; rfl
      have hn2 := (HLE.out.2 hz).1
      have e0 : wx.cell? ⟨b, o + 6, none⟩ = _ := (cell_keep hk _).trans (HKC2.out 0 _ rfl)
      have e1 : wx.cell? ⟨b, o + 6 + 1, none⟩ = _ := (cell_keep hk _).trans (HKC2.out 1 _ rfl)
      have e2 : wx.cell? ⟨b, o + 6 + 2, none⟩ = _ := (cell_keep hk _).trans (HKC2.out 2 _ rfl)
      have e3 : wx.cell? ⟨b, o + 6 + 3, none⟩ = _ := (cell_keep hk _).trans (HKC2.out 3 _ rfl)
      have e4 : wx.cell? ⟨b, o + 6 + 4, none⟩ = _ := (cell_keep hk _).trans (HKC2.out 4 _ rfl)
      have e5 : wx.cell? ⟨b, o + 6 + 5, none⟩ = _ := (cell_keep hk _).trans (HKC2.out 5 _ rfl)
      have HCX := Lib.hid hcx
      have HZ := Lib.hid hz
      have HK := Lib.hid hk
      clear hcx hz hk
      have hkb_0 := cv0 hkb
      have hkb_1 := cv1 hkb
      have hkb_f0 := free_heap hkb 0
      have hkb_f1 := free_heap hkb 1
      have hkb_l := lt_heap hkb
      have HKB := Lib.hid hkb
      clear hkb
      have h1_0 := cv0 h1
      have h1_1 := cv1 h1
      have h1_f0 := free_heap h1 0
      have h1_f1 := free_heap h1 1
      have h1_l := lt_heap h1
      have H1 := Lib.hid h1
      clear h1
      have h0_0 := cv0 h0
      have h0_1 := cv1 h0
      have h0_2 := cv2 h0
      have h0_3 := cv3 h0
      have h0_4 := cv4 h0
      have h0_5 := cv5 h0
      have h0_l := lt_heap h0
      have H0 := Lib.hid h0
      clear h0
      have hbw2_0 := cv0 hbw2
      have hbw2_l := lt_heap hbw2
      have HBW2 := Lib.hid hbw2
      clear hbw2
      go_wp2_with fail
      have hih : Calls Tryd.prog 29 #[.agg #[.int .i64 t2.lab.kind, .string t2.lab.nm, .int .i64 t2.lab.ix, .string s2, .slice A2 n2 c2, .slice B2 m2 d2], .int .i64 ((d : Int) + 1), .int .i64 bd, .pointer (some ⟨bn, 0, none⟩), .pointer (some ⟨bw, 0, none⟩)] wx.drew _ := IH.out t2 [.int .i64 t2.lab.kind, .string t2.lab.nm, .int .i64 t2.lab.ix, .string s2, .slice A2 n2 c2, .slice B2 m2 d2] wx.drew S bn bw (d + 1) bd (tmVal t1 (d + 1) bd (n + 1)).2.2 (by have := HN.out; simp [Tree.nodes, Tree.nodess] at this; omega) (tmRep.keep HKID2.out (HCX.out.drew.keep HS.out) (fun _ h => h)) (fun k hk => ⟨HCX.out.drew.lo HS.out k hk, (HS.out k hk).2⟩) HCX.out.drew.cnt HBW2.out hne (by omega) (by omega) (by omega)
      have HIH := Lib.hid hih
      clear hih
      have hwd : IntKind.i64.wrap ((d : Int) + 1) = (d : Int) + 1 := wrap_small _ (by omega) (by omega)
      go_region_held3 (fun w' => w'.cell? ⟨bw, 0, none⟩ = some (.func (Fn.func 29) #[] #[.pointer (some ⟨bn, 0, none⟩), .pointer (some ⟨bw, 0, none⟩)]) ∧ w'.cell? ⟨w.heap.size, 5, none⟩ = some (.slice (some ⟨b, o, none⟩) 2 c) ∧ w'.cell? ⟨b, o + 6, none⟩ = some (.int .i64 t2.lab.kind) ∧ w'.cell? ⟨b, o + 6 + 1, none⟩ = some (.string t2.lab.nm) ∧ w'.cell? ⟨b, o + 6 + 2, none⟩ = some (.int .i64 t2.lab.ix) ∧ w'.cell? ⟨b, o + 6 + 3, none⟩ = some (.string s2) ∧ w'.cell? ⟨b, o + 6 + 4, none⟩ = some (.slice A2 n2 c2) ∧ w'.cell? ⟨b, o + 6 + 5, none⟩ = some (.slice B2 m2 d2))
        ((first | (go_keep; done) | (go_split_ands; (repeat' apply And.intro) <;> (refine (kc _ _ (by omega) (by omega)).trans ?_; assumption)) | (go_split_ands; (repeat' apply And.intro) <;> (refine (cell_keep (heap_old (by first | omega | (go_size; done)) rfl) _).trans ?_; assumption)) | (go_split_ands; (repeat' apply And.intro) <;> (refine (cell_keep (heap_far _ (by omega) rfl) _).trans ?_; assumption)) | (go_split_ands; (repeat' apply And.intro) <;> (refine (cell_keep (heap_far _ (by omega) (heap_far _ (by omega) rfl)) _).trans ?_; assumption))))
        ((clear hwd; (with_reducible refine HIH.out.mono ?_); rintro e w2 ⟨rfl, hq, hg⟩; have hc2 := HCX.out.drew.grown hbl hg hq; have kc : ∀ k q, k < wx.heap.size → k ≠ bn → w2.cell? ⟨k, q, none⟩ = wx.cell? ⟨k, q, none⟩ := (fun k q h1 h2 => cell_keep (hg.block k h1 (by intro e; injection e; omega)) q); have z2 : wx.heap.size ≤ w2.heap.size := hg.size; have y0 := (kc bw 0 (by omega) (by omega)).trans hbw2_0; have y1 := (kc w.heap.size 5 (by omega) (by omega)).trans h0_5; have y2 := (kc b (o + 6) (by omega) (by omega)).trans e0; have y3 := (kc b (o + 6 + 1) (by omega) (by omega)).trans e1; have y4 := (kc b (o + 6 + 2) (by omega) (by omega)).trans e2; have y5 := (kc b (o + 6 + 3) (by omega) (by omega)).trans e3; have y6 := (kc b (o + 6 + 4) (by omega) (by omega)).trans e4; have y7 := (kc b (o + 6 + 5) (by omega) (by omega)).trans e5; have q1 := hc2.r; have q1_0 := cv0 q1; have q1_1 := cv1 q1; have q1_f0 := free_heap q1 0; have q1_f1 := free_heap q1 1; have q1_l := lt_heap q1; have HC2 := Lib.hid hc2; clear hc2 hq hg q1))
      go_wp2_with fail
      refine bodyPost_ret (v := .agg #[.int .i64 (tmVal t2 (d + 1) bd (tmVal t1 (d + 1) bd (n + 1)).2.2).1, .int .i64 (tmVal t2 (d + 1) bd (tmVal t1 (d + 1) bd (n + 1)).2.2).2.1]) (by simp [results, Tryd.results29, go_sem, q1_0, q1_1, q1_l]) rfl ?_
      rw [HR.out]
      exact ⟨rfl, HC2.out.fin hbl _ _⟩
  have g4 : (kind == 4) = false := beq_eq_false_iff_ne.2 k4
  have HR := Lib.hid (FC.out 4 (by simp [TmL.code, k1, k2, k3, k4]) (by omega))
  go_enter Tryd.func29, Tryd.ntmps29
  go_wp2_with fail
  refine (bad_any (w.heap.size + 1 + 1) n 4 _ (Chain.start HBN.out).pl).mono ?_
  rintro e wb ⟨rfl, hwb⟩
  have hcb := (Chain.start HBN.out).below hbl hwb
  have h1 := hcb.r
  have HCB := Lib.hid hcb
  have HWB := Lib.hid hwb
  clear hcb hwb
  have h1_0 := cv0 h1
  have h1_1 := cv1 h1
  have h1_f0 := free_heap h1 0
  have h1_f1 := free_heap h1 1
  have h1_l := lt_heap h1
  have H1 := Lib.hid h1
  clear h1
  go_wp2_with fail
  refine bodyPost_ret (v := .agg #[.int .i64 4, .int .i64 n]) (by simp [results, Tryd.results29, go_sem, h1_0, h1_1]) rfl ?_
  rw [HR.out]
  exact ⟨rfl, HCB.out.fin hbl _ _⟩

end Go.Proofs.YtnoceodmnjhljaaDoor
