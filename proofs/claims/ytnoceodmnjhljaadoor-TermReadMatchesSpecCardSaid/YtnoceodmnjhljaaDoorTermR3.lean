/-
  (*term.reader).term: the walk where a name begins.
-/
import Derived.Test.YtnoceodmnjhljaaDoorTermR
namespace Go.Proofs.YtnoceodmnjhljaaDoor
open Go Go.RowKit
set_option linter.unusedSimpArgs false
set_option linter.unusedVariables false

theorem nameG_stop {x : ByteArray} {frm f a : Nat} (h : ¬ (a < x.size ∧ a - frm < 30 ∧ okName (x.extract frm (a + 1)) = true)) : nameG x frm f a = a := by
  cases f with
  | zero => rfl
  | succ f => unfold nameG; rw [if_neg h]
theorem nameG_go {x : ByteArray} {frm f a : Nat} (h : a < x.size ∧ a - frm < 30 ∧ okName (x.extract frm (a + 1)) = true) : nameG x frm (f + 1) a = nameG x frm f (a + 1) := by
  conv => lhs; unfold nameG
  rw [if_pos h]
theorem ext_le (x : ByteArray) (i a : Nat) (hx : x.size ≤ 4000) : (x.extract i a).size ≤ maxLen := by
  rw [ByteArray.size_extract]; unfold maxLen; omega

set_option maxRecDepth 100000 in
set_option maxHeartbeats 4000000 in
theorem term_name (x : ByteArray) (hx : x.size ≤ 4000) (k d i j n r : Nat) (w : World) (hr : RdT n w r x i 0 j) (hb : 97 ≤ byteAt x i ∧ byteAt x i ≤ 122) (hn : n + 1 ≤ 200) (hd : d + (k + 1) = 41) (hj : j ≤ x.size) :
    Calls Tryd.prog 17 #[.pointer (some ⟨r, 0, none⟩), .int .i64 d] w (TermT x r (k + 1) ⟨i, 0, j, n⟩ w) := by
  have hlt := byteAt_lt (x := x) (i := i) (by omega)
  have hF0 : termF x (k + 1) ⟨i, 0, j, n⟩ = (.mk ⟨1, x.extract i (nameE x i), 0, (partF x 40 { takeF x ⟨nameE x i, 0, j, n + 1⟩ 58 with n := 0 }).1⟩ [], { (partF x 40 { takeF x ⟨nameE x i, 0, j, n + 1⟩ 58 with n := 0 }).2 with n := n + 1 }) := by
    conv => lhs; unfold termF
    rw [if_pos rfl, if_pos (Or.inr (Or.inr (Or.inr hb))), if_neg (by simp only; omega), if_neg (by simp only; omega), if_neg (by simp only; omega), if_neg (by simp only; omega)]
  have HF0 := Lib.hid hF0
  have g1 : ((byteAt x i : Int) == 35) = false := beq_eq_false_iff_ne.2 (by omega)
  have g2 : ((byteAt x i : Int) == 91) = false := beq_eq_false_iff_ne.2 (by omega)
  have g3 : ((byteAt x i : Int) == 40) = false := beq_eq_false_iff_ne.2 (by omega)
  have g4 : decide ((97 : Int) ≤ (byteAt x i : Int)) = true := decide_eq_true (by omega)
  have g5 : decide ((byteAt x i : Int) ≤ 122) = true := decide_eq_true (by omega)
  clear hF0
  have HR := Lib.hid hr
  have c2 := cellv hr 2 rfl
  have l1 := lt_heap hr
  have Hx := Lib.hid hx
  clear hr hx
  have hn' : (n : Int) + 1 ≤ 200 := by omega
  have hd' : (d : Int) ≤ 40 := by omega
  have hi' : (i : Int) ≤ 4000 := by have := Hx.out; omega
  go_enter Tryd.func17, Tryd.ntmps17
  go_wp2_with fail
  refine (peekT_any (m := n) r x i 0 j _ (heap_old l1 HR.out)).mono ?_
  rintro e w1 ⟨rfl, hw1, hs1⟩
  have pr : RdT n w1 r x i 0 j := (hw1.block r (by go_size)).trans (heap_old l1 HR.out)
  have pz := (hw1.block w.heap.size (by go_size)).trans (heap_at rfl)
  have zz1 : w1.heap.size = w.heap.size + 1 := by simpa using hs1
  have z1 : w.heap.size + 1 ≤ w1.heap.size := by omega
  have hkw1 := ((Keeps.refl (· = r) w).alloc (.cells #[.int .i64 0, .string ⟨#[]⟩, .int .i64 0, .string ⟨#[]⟩, .slice none 0 0, .slice none 0 0] 27)).step (Below.keeps hw1 (fun _ => False)) (fun _ h => h.elim)
  clear hw1 hs1 zz1
  have HKW1 := Lib.hid hkw1
  clear hkw1
  have pr0 := cellv pr 0 rfl
  have pr1 := cellv pr 1 rfl
  have pr4 := cellv pr 4 rfl
  have prf1 := free_heap pr 1
  have prf4 := free_heap pr 4
  have prl := lt_heap pr
  have PR := Lib.hid pr
  clear pr
  have pz_0 := cv0 pz
  have pz_1 := cv1 pz
  have pz_2 := cv2 pz
  have pz_3 := cv3 pz
  have pz_4 := cv4 pz
  have pz_5 := cv5 pz
  have pz_f0 := free_heap pz 0
  have pz_f1 := free_heap pz 1
  have pz_f2 := free_heap pz 2
  have pz_f3 := free_heap pz 3
  have pz_f4 := free_heap pz 4
  have pz_f5 := free_heap pz 5
  have pz_l := lt_heap pz
  have PZ := Lib.hid pz
  clear pz
  go_upto_region 8 with (fail)
  refine gen_last (fun W => RdT (n + 1) W r x (i) (0) (j) ∧ W.heap[w.heap.size]? = some (.cells #[.int .i64 0, .string ⟨#[]⟩, .int .i64 0, .string ⟨#[]⟩, .slice none 0 0, .slice none 0 0] 27 (0, 0)) ∧ Keeps (· = r) w W ∧ w.heap.size + 1 ≤ W.heap.size) ?_ ?_
  · exact ⟨by simpa [RdT] using heap_set PR.out 4 (.int .i64 ((n : Int) + 1)), heap_far _ (by omega) PZ.out, HKW1.out.set (b := r) (Or.inl rfl) 4 _, by rw [size_set]; exact z1⟩
  rintro w2 ⟨pr, pz, hk2, z2⟩
  clear pr0 pr1 pr4 prf1 prf4 prl pz_0 pz_1 pz_2 pz_3 pz_4 pz_5 pz_f0 pz_f1 pz_f2 pz_f3 pz_f4 pz_f5 pz_l
  have HK2 := Lib.hid hk2
  clear hk2
  have pr0 := cellv pr 0 rfl
  have pr1 := cellv pr 1 rfl
  have pr4 := cellv pr 4 rfl
  have prf1 := free_heap pr 1
  have prf4 := free_heap pr 4
  have prl := lt_heap pr
  have PR := Lib.hid pr
  clear pr
  have pz_0 := cv0 pz
  have pz_1 := cv1 pz
  have pz_2 := cv2 pz
  have pz_3 := cv3 pz
  have pz_4 := cv4 pz
  have pz_5 := cv5 pz
  have pz_f0 := free_heap pz 0
  have pz_f1 := free_heap pz 1
  have pz_f2 := free_heap pz 2
  have pz_f3 := free_heap pz 3
  have pz_f4 := free_heap pz 4
  have pz_f5 := free_heap pz 5
  have pz_l := lt_heap pz
  have PZ := Lib.hid pz
  clear pz
  go_upto_region 29 with (fail)
  clear g1 g2 g3 g4 g5
  go_wp2_with fail
  go_loopg [] (x.size + 1 - i) (fun k wr => ∃ a : Nat, i ≤ a ∧ a ≤ x.size ∧ a + k = x.size + 1 ∧ nameG x i k a = nameE x i ∧ RdT (n + 1) wr r x a 0 j ∧ wr.heap[w.heap.size]? = some (.cells #[.int .i64 0, .string ⟨#[]⟩, .int .i64 0, .string ⟨#[]⟩, .slice none 0 0, .slice none 0 0] 27 (0, 0)) ∧ Keeps (· = r) w wr ∧ w.heap.size + 1 ≤ wr.heap.size)
  case atStart => exact ⟨i, Nat.le_refl _, by omega, by omega, rfl, PR.out, PZ.out, HK2.out, z2⟩
  case round =>
    obtain ⟨a, hia, hax, hak, hg, pr, pz, hkr, zr⟩ := hrel
    clear pr0 pr1 pr4 prf1 prf4 prl pz_0 pz_1 pz_2 pz_3 pz_4 pz_5 pz_f0 pz_f1 pz_f2 pz_f3 pz_f4 pz_f5 pz_l
    have HG := Lib.hid hg
    have HKR := Lib.hid hkr
    have ha4 : (a : Int) ≤ 4000 := by have := Hx.out; omega
    clear hg hkr
    have pr0 := cellv pr 0 rfl
    have pr1 := cellv pr 1 rfl
    have pr4 := cellv pr 4 rfl
    have prf1 := free_heap pr 1
    have prf4 := free_heap pr 4
    have prl := lt_heap pr
    have PR := Lib.hid pr
    clear pr
    have pz_0 := cv0 pz
    have pz_1 := cv1 pz
    have pz_2 := cv2 pz
    have pz_3 := cv3 pz
    have pz_4 := cv4 pz
    have pz_5 := cv5 pz
    have pz_f0 := free_heap pz 0
    have pz_f1 := free_heap pz 1
    have pz_f2 := free_heap pz 2
    have pz_f3 := free_heap pz 3
    have pz_f4 := free_heap pz 4
    have pz_f5 := free_heap pz 5
    have pz_l := lt_heap pz
    have PZ := Lib.hid pz
    clear pz
    obtain ⟨bo, hbo⟩ : ∃ b, okName (x.extract i (a + 1)) = b := ⟨_, rfl⟩
    have hnm : ∀ W : World, Calls Tryd.prog 31 #[.string (x.extract i (a + 1))] W fun e w' => e = .returned (.bool bo) ∧ w' = W := fun W => (name_any _ W (ext_le x i (a + 1) Hx.out)).mono fun e w' h => ⟨by rw [h.1, hbo], h.2.symm⟩
    have HNM := Lib.hid hnm
    have HBO := Lib.hid hbo
    clear hnm hbo
    go_upto_region 30 with (fail)
    go_cut [198] (fun s198 wx => ∃ bb : Bool, s198 = .bool bb ∧ (bb = true → a < x.size ∧ a - i < 30 ∧ okName (x.extract i (a + 1)) = true) ∧ (bb = false → ¬ (a < x.size ∧ a - i < 30 ∧ okName (x.extract i (a + 1)) = true)) ∧
      RdT (n + 1) wx r x a 0 j ∧ wx.heap[w.heap.size]? = some (.cells #[.int .i64 0, .string ⟨#[]⟩, .int .i64 0, .string ⟨#[]⟩, .slice none 0 0, .slice none 0 0] 27 (0, 0)) ∧ Keeps (· = r) w wx ∧ w.heap.size + 1 ≤ wx.heap.size)
    case first =>
      by_cases hlt2 : a < x.size
      case neg =>
        have t1 : decide ((a : Int) < (x.size : Int)) = false := decide_eq_false (by omega)
        go_big_quiet (fail)
        go_wp2_with fail
        go_meet
        exact ⟨false, rfl, fun h => (by cases h), fun _ h => hlt2 h.1, PR.out.drewN _, PZ.out, HKR.out.drewN _, zr⟩
      have t1 : decide ((a : Int) < (x.size : Int)) = true := decide_eq_true (by omega)
      by_cases h30 : a - i < 30
      case neg =>
        have t2 : decide ((a : Int) - (i : Int) < 30) = false := decide_eq_false (by omega)
        go_big_quiet (fail)
        go_wp2_with fail
        go_meet
        exact ⟨false, rfl, fun h => (by cases h), fun _ h => h30 h.2.1, PR.out.drewN _, PZ.out, HKR.out.drewN _, zr⟩
      have t2 : decide ((a : Int) - (i : Int) < 30) = true := decide_eq_true (by omega)
      go_big_quiet (exact Calls.quiet_of_same (HNM.out _))
      go_wp2_with fail
      go_meet
      exact ⟨bo, rfl, fun h => ⟨hlt2, h30, HBO.out.trans h⟩, fun h h' => (by rw [HBO.out, h] at h'; cases h'.2.2), PR.out.drewN _, PZ.out, HKR.out.drewN _, zr⟩
    case rest =>
    obtain ⟨bb, rfl, hT, hN, pr, pz, hkx, zx⟩ := hcut
    rename World => wx
    clear pr0 pr1 pr4 prf1 prf4 prl pz_0 pz_1 pz_2 pz_3 pz_4 pz_5 pz_f0 pz_f1 pz_f2 pz_f3 pz_f4 pz_f5 pz_l
    have HT := Lib.hid hT
    have HN := Lib.hid hN
    have HKX := Lib.hid hkx
    clear hT hN hkx
    have pr0 := cellv pr 0 rfl
    have pr1 := cellv pr 1 rfl
    have pr4 := cellv pr 4 rfl
    have prf1 := free_heap pr 1
    have prf4 := free_heap pr 4
    have prl := lt_heap pr
    have PR := Lib.hid pr
    clear pr
    have pz_0 := cv0 pz
    have pz_1 := cv1 pz
    have pz_2 := cv2 pz
    have pz_3 := cv3 pz
    have pz_4 := cv4 pz
    have pz_5 := cv5 pz
    have pz_f0 := free_heap pz 0
    have pz_f1 := free_heap pz 1
    have pz_f2 := free_heap pz 2
    have pz_f3 := free_heap pz 3
    have pz_f4 := free_heap pz 4
    have pz_f5 := free_heap pz 5
    have pz_l := lt_heap pz
    have PZ := Lib.hid pz
    clear pz
    cases bb with
    | true =>
      obtain ⟨e1, e2, e3⟩ := HT.out rfl
      have hnx : nameG x i (x.size + 1 - (a + 1)) (a + 1) = nameE x i := by
        have hk : gk = (x.size + 1 - (a + 1)) + 1 := by omega
        rw [← HG.out, hk, nameG_go ⟨e1, e2, e3⟩]
      have HNX := Lib.hid hnx
      clear e3 hnx
      go_wp2_with fail
      go_roundg (x.size + 1 - (a + 1))
      case measure => omega
      case rel => exact ⟨a + 1, by omega, by omega, by omega, HNX.out, (by simpa [RdT] using heap_set PR.out 1 (.int .i64 ((a : Int) + 1))), heap_far _ (by omega) PZ.out, HKX.out.set (b := r) (Or.inl rfl) 1 _, by rw [size_set]; exact zx⟩
    | false =>
      have hE : nameE x i = a := HG.out.symm.trans (nameG_stop (HN.out rfl))
      have hF1 := HF0.out
      rw [hE] at hF1
      have hfi : St.fits x ⟨a, 0, j, n + 1⟩ := ⟨by simp only; omega, hax, hj, by simp, fun _ => by simp only; omega⟩
      have hft := takeF_fits (b := 58) hfi (by decide)
      have hn3 := takeF_n x ⟨a, 0, j, n + 1⟩ 58
      obtain ⟨⟨si, sc, sj, sn⟩, hse⟩ : ∃ s, takeF x ⟨a, 0, j, n + 1⟩ 58 = s := ⟨_, rfl⟩
      rw [hse] at hF1 hft hn3
      simp only at hn3
      subst hn3
      simp only at hF1
      obtain ⟨f1, f2, f3, f4, f5⟩ := hft
      have hf0 : St.fits x ⟨si, sc, sj, 0⟩ := ⟨by simp, f2, f3, f4, fun _ => by simp⟩
      obtain ⟨⟨pt, ⟨fi, fc, fj, pn⟩⟩, hpe⟩ : ∃ p, partF x 40 ⟨si, sc, sj, 0⟩ = p := ⟨_, rfl⟩
      rw [hpe] at hF1
      simp only at hF1
      obtain ⟨ft, hft⟩ : ∃ t : Tm, t = .mk ⟨1, x.extract i a, 0, pt⟩ [] := ⟨_, rfl⟩
      rw [← hft] at hF1
      have hfin : ∀ (es : List Value) (w' : World), tmRep.R w' (Fresh w w') ft es → RdT (n + 1) w' r x fi fc fj → Keeps (· = r) w w' → TermT x r (k + 1) ⟨i, 0, j, n⟩ w (.returned (.agg es.toArray)) w' := by
        intro es w' h1 h2 h3
        unfold TermT
        rw [hF1]
        exact ⟨_, rfl, h1, h2, h3⟩
      have HF := Lib.hid hfin
      have hs := Lib.hid hse
      have hp := Lib.hid hpe
      have HF00 := Lib.hid hf0
      have HSZ := Lib.hid (ext_le x i a Hx.out)
      clear hF1 hfin hE hse hpe hf0 f1 f2 f3 f4 f5
      go_upto_region 32 with (fail)
      go_big_quiet (fail)
      go_upto_region 33 with (fail)
      refine gen_last (fun W => RdT (n + 1) W r x a 0 j ∧ W.heap[w.heap.size]? = some (.cells #[.int .i64 0, .string ⟨#[]⟩, .int .i64 0, .string ⟨#[]⟩, .slice none 0 0, .slice none 0 0] 27 (0, 0)) ∧ Keeps (· = r) w W ∧ w.heap.size + 1 ≤ W.heap.size) ⟨PR.out.drewN _, PZ.out, HKX.out.drewN _, zx⟩ ?_
      rintro wy ⟨pr, pz, hky, zy⟩
      clear pr0 pr1 pr4 prf1 prf4 prl pz_0 pz_1 pz_2 pz_3 pz_4 pz_5 pz_f0 pz_f1 pz_f2 pz_f3 pz_f4 pz_f5 pz_l
      have HKY := Lib.hid hky
      clear hky
      have pr0 := cellv pr 0 rfl
      have pr1 := cellv pr 1 rfl
      have pr4 := cellv pr 4 rfl
      have prf1 := free_heap pr 1
      have prf4 := free_heap pr 4
      have prl := lt_heap pr
      have PR := Lib.hid pr
      clear pr
      have pz_0 := cv0 pz
      have pz_1 := cv1 pz
      have pz_2 := cv2 pz
      have pz_3 := cv3 pz
      have pz_4 := cv4 pz
      have pz_5 := cv5 pz
      have pz_f0 := free_heap pz 0
      have pz_f1 := free_heap pz 1
      have pz_f2 := free_heap pz 2
      have pz_f3 := free_heap pz 3
      have pz_f4 := free_heap pz 4
      have pz_f5 := free_heap pz 5
      have pz_l := lt_heap pz
      have PZ := Lib.hid pz
      clear pz
      go_wp2_with fail
      refine (takeT_any r x a 0 j 58 wy PR.out (by decide) Hx.out).mono ?_
      rintro e wt ⟨⟨bt, rfl⟩, ht, hk, hsz⟩
      have pr : RdT (n + 1) wt r x si sc sj := by have h := takeT_F (s := ⟨a, 0, j, n + 1⟩) (b := 58) ht; rw [hs.out] at h; exact h
      have pz := (hk.block w.heap.size pz_l (by omega)).trans PZ.out
      have hkt := HKY.out.step hk (fun _ h => Or.inl h)
      have zt : w.heap.size + 1 ≤ wt.heap.size := by have := hk.size; omega
      clear ht hk hsz
      clear pr0 pr1 pr4 prf1 prf4 prl pz_0 pz_1 pz_2 pz_3 pz_4 pz_5 pz_f0 pz_f1 pz_f2 pz_f3 pz_f4 pz_f5 pz_l
      have HKT := Lib.hid hkt
      clear hkt
      have pr0 := cellv pr 0 rfl
      have pr1 := cellv pr 1 rfl
      have pr4 := cellv pr 4 rfl
      have prf1 := free_heap pr 1
      have prf4 := free_heap pr 4
      have prl := lt_heap pr
      have PR := Lib.hid pr
      clear pr
      have pz_0 := cv0 pz
      have pz_1 := cv1 pz
      have pz_2 := cv2 pz
      have pz_3 := cv3 pz
      have pz_4 := cv4 pz
      have pz_5 := cv5 pz
      have pz_f0 := free_heap pz 0
      have pz_f1 := free_heap pz 1
      have pz_f2 := free_heap pz 2
      have pz_f3 := free_heap pz 3
      have pz_f4 := free_heap pz 4
      have pz_f5 := free_heap pz 5
      have pz_l := lt_heap pz
      have PZ := Lib.hid pz
      clear pz
      go_upto_region 34 with (fail)
      go_cut [] (fun wx => ∃ es : List Value, tmRep.R wx (Fresh w wx) ft es ∧ wx.heap[w.heap.size]? = some (.cells es.toArray 27 (0, 0)) ∧ RdT (n + 1) wx r x fi fc fj ∧ Keeps (· = r) w wx)
      case first =>
        go_wp2_with fail
        refine (typeT_any x Hx.out ⟨si, sc, sj, 0⟩ r wt PR.out HF00.out).mono ?_
        rintro e w4 ⟨v0, v1, rfl, ht, hr4, hk4⟩
        simp only [hp.out] at ht hr4
        obtain ⟨sa, Aa, na, ca, rfl, rfl⟩ := ht.shape
        have qz := (hk4.block w.heap.size pz_l (by omega)).trans PZ.out
        have hk5 := HKT.out.step hk4 (fun _ h => Or.inl h)
        have z4 : wt.heap.size ≤ w4.heap.size := hk4.size
        have HT4 := Lib.hid ht
        clear pr0 pr1 pr4 prf1 prf4 prl pz_0 pz_1 pz_2 pz_3 pz_4 pz_5 pz_f0 pz_f1 pz_f2 pz_f3 pz_f4 pz_f5 pz_l
        clear hk4 ht
        have HR4 := Lib.hid hr4
        have HK5 := Lib.hid hk5
        clear hr4 hk5
        have qz_0 := cv0 qz
        have qz_1 := cv1 qz
        have qz_2 := cv2 qz
        have qz_3 := cv3 qz
        have qz_4 := cv4 qz
        have qz_5 := cv5 qz
        have qz_f0 := free_heap qz 0
        have qz_f1 := free_heap qz 1
        have qz_f2 := free_heap qz 2
        have qz_f3 := free_heap qz 3
        have qz_f4 := free_heap qz 4
        have qz_f5 := free_heap qz 5
        have qz_l := lt_heap qz
        have QZ := Lib.hid qz
        clear qz
        go_wp2_with fail
        go_meet
        rw [hft]
        exact ⟨[.int .i64 1, .string (x.extract i a), .int .i64 0, .string sa, .slice Aa na ca, .slice none 0 0], Tm.shut (a := ⟨1, x.extract i a, 0, pt⟩) (l := []) HSZ.out ((HT4.out.keep (fun b hb => far6 (by have := hb.1; omega) rfl)).mono (fun b hb => ⟨by have := hb.1; omega, lt6 hb.2⟩)) Rep.Sl.nil, at6 QZ.out, far6 (by omega) HR4.out, ((((((HK5.out.set (Or.inr (Nat.le_refl _)) _ _).set (Or.inr (Nat.le_refl _)) _ _).set (Or.inr (Nat.le_refl _)) _ _).set (Or.inr (Nat.le_refl _)) _ _).set (Or.inr (Nat.le_refl _)) _ _).set (Or.inr (Nat.le_refl _)) _ _)⟩
      case rest =>
        obtain ⟨es, hu, k0, hrd, hks⟩ := hcut
        rename World => wx
        obtain ⟨s1, A1, n1, c1, B1, m1, d1, rfl, _, _⟩ := Tm.shape hu
        have hfin := HF.out _ wx hu hrd hks
        have HU := Lib.hid hu
        have HRD := Lib.hid hrd
        have HKS := Lib.hid hks
        have HFIN := Lib.hid hfin
        clear hu hrd hks hfin
        have k0_0 := cv0 k0
        have k0_1 := cv1 k0
        have k0_2 := cv2 k0
        have k0_3 := cv3 k0
        have k0_4 := cv4 k0
        have k0_5 := cv5 k0
        have k0_l := lt_heap k0
        have K0 := Lib.hid k0
        clear k0
        go_wp2_with fail
        refine bodyPost_ret (v := .agg #[.int .i64 ft.lab.kind, .string ft.lab.nm, .int .i64 ft.lab.ix, .string s1, .slice A1 n1 c1, .slice B1 m1 d1]) (by simp [results, Tryd.results17, go_sem, k0_0, k0_1, k0_2, k0_3, k0_4, k0_5, k0_l]) rfl ?_
        exact HFIN.out

end Go.Proofs.YtnoceodmnjhljaaDoor
