/-
  (*term.reader).number: the walk.
-/
import Derived.BigQuiet
import Derived.Test.YtnoceodmnjhljaaDoorTermF
namespace Go.Proofs.YtnoceodmnjhljaaDoor
open Go Go.RowKit
set_option linter.unusedSimpArgs false
set_option linter.unusedVariables false

theorem RdT.drew {m r i c j : Nat} {x : ByteArray} {w : World} (h : RdT m w r x i c j) : RdT m w.drew r x i c j := h
theorem RdT.drewN {m r i c j : Nat} {x : ByteArray} {w : World} (h : RdT m w r x i c j) (n : Nat) : RdT m (w.drewN n) r x i c j := h
theorem Keeps.drewN {P : Nat → Prop} {u v : World} (h : Keeps P u v) (n : Nat) : Keeps P u (v.drewN n) := ⟨h.os, h.tape, h.output, h.size, h.block⟩
/-- What number leaves. -/
def NumAt (m : Nat) (x : ByteArray) (r i j : Nat) (w : World) (e : Ending) (w' : World) : Prop :=
  e = .returned (.int .i64 ((numF x i).1 : Nat)) ∧ (if (numF x i).2 = i then RdT m w' r x i 11 i else RdT m w' r x (numF x i).2 0 j) ∧ Keeps (· = r) w w' ∧ w'.heap.size = w.heap.size

set_option maxRecDepth 100000 in
set_option maxHeartbeats 4000000 in
theorem number_any (m : Nat) (x : ByteArray) (hx : x.size ≤ 4000) (r i j : Nat) (w : World) (h : RdT m w r x i 0 j) (hi : i ≤ x.size) :
    Calls Tryd.prog 41 #[.pointer (some ⟨r, 0, none⟩)] w (NumAt m x r i j w) := by
  have r1 := cellv h 1 rfl
  have rl := lt_heap h
  have H := Lib.hid h
  clear h
  go_enter Tryd.func41, Tryd.ntmps41
  go_wp2_with fail
  go_region
  all_goals go_wp2_with fail
  go_loopg [3] (x.size + 1 - i) (fun k v3 wr => ∃ (n a : Nat), v3 = .int .i64 (n : Nat) ∧ i ≤ a ∧ a + k = x.size + 1 ∧ 1 ≤ k ∧ n < 200 ∧ numG x i k n a = numF x i ∧ RdT m wr r x a 0 j ∧ Keeps (· = r) w wr ∧ wr.heap.size = w.heap.size)
  case atStart => exact ⟨0, i, rfl, Nat.le_refl _, by omega, by omega, by omega, rfl, H.out, (Keeps.refl _ _).drew, rfl⟩
  case round =>
    obtain ⟨n, a, rfl, hia, hak, hk1, hn, hg, hr, hks, hsz⟩ := hrel
    have k0 := cellv hr 0 rfl
    have k1 := cellv hr 1 rfl
    have kf := free_heap hr 1
    have kl := lt_heap hr
    have HR := Lib.hid hr
    have HG := Lib.hid hg
    have HKS := Lib.hid hks
    clear hr hg hks
    have hfl : ∀ (W : World), RdT m W r x a 0 j → Calls Tryd.prog 18 #[.pointer (some ⟨r, 0, none⟩), .int .i64 11, .int .i64 (a : Nat)] W fun e w' => e = .returned (.tuple #[]) ∧ RdT m w' r x a 11 a ∧ Keeps (· = r) W w' ∧ w'.heap.size = W.heap.size := fun W h => (failT_any (m := m) r x a 0 j 11 a W h).mono fun e w' h => ⟨h.1, by have := h.2.1; rwa [if_pos rfl] at this, h.2.2⟩
    have HFL := Lib.hid hfl
    clear hfl
    by_cases hlt : a < x.size
    case neg =>
      have q1 : ¬ ((a : Int) < (x.size : Int)) := by omega
      have hnum : numF x i = (n, a) := HG.out.symm.trans (numG_stop (fun h => hlt h.1))
      have HNUM := Lib.hid hnum
      clear hnum
      by_cases hai : a = i
      · subst hai
        go_wp2_with fail
        go_region
        all_goals go_wp2_with fail
        all_goals go_region_held3 (fun w' => w'.cell? ⟨r, 1, none⟩ = some (.int .i64 (a : Nat)))
          ((first | (go_keep; done) | exact cellv HR1.out 1 rfl))
          (((with_reducible refine (HFL.out _ (by first | exact HR.out.drewN _ | exact HR.out.drew.drew | exact HR.out.drew | exact HR.out)).mono ?_); rintro e w1 ⟨rfl, hr1, hk1, hs1⟩; have HR1 := Lib.hid hr1; have HK1 := Lib.hid hk1; have HS1 := Lib.hid hs1; clear hr1 hk1 hs1))
        all_goals go_wp2_with fail
        all_goals go_returns
        all_goals
          unfold NumAt
          rw [HNUM.out]
          exact ⟨rfl, (by simpa using HR1.out), (by first | exact (HKS.out.drewN _).trans HK1.out | exact HKS.out.drew.drew.trans HK1.out | exact HKS.out.drew.trans HK1.out), HS1.out.trans hsz⟩
      · have q8 : ((a : Int) == (i : Int)) = false := by rw [beq_eq_false_iff_ne]; omega
        go_wp2_with fail
        go_region
        all_goals go_wp2_with fail
        all_goals go_returns
        all_goals
          unfold NumAt
          rw [HNUM.out]
          exact ⟨rfl, (by simp only [if_neg hai]; exact HR.out), ⟨HKS.out.os, HKS.out.tape, HKS.out.output, HKS.out.size, HKS.out.block⟩, hsz⟩
    have hba : byteAt x a = (x[a]'hlt).toNat := byteAt_in hlt
    have q1 : ((a : Int) < (x.size : Int)) := by omega
    by_cases h48 : 48 ≤ (x[a]'hlt).toNat
    case neg =>
      have q2 : decide ((48 : Int) ≤ (((x[a]'hlt).toNat : Nat) : Int)) = false := decide_eq_false (by omega)
      have hnum : numF x i = (n, a) := HG.out.symm.trans (numG_stop (fun h => h48 (by rw [← hba]; exact h.2.1)))
      have HNUM := Lib.hid hnum
      clear hnum
      by_cases hai : a = i
      · subst hai
        go_wp2_with fail
        go_big_quiet (fail)
        all_goals go_wp2_with fail
        all_goals go_region_held3 (fun w' => w'.cell? ⟨r, 1, none⟩ = some (.int .i64 (a : Nat)))
          ((first | (go_keep; done) | exact cellv HR1.out 1 rfl))
          (((with_reducible refine (HFL.out _ (by first | exact HR.out.drewN _ | exact HR.out.drew.drew | exact HR.out.drew | exact HR.out)).mono ?_); rintro e w1 ⟨rfl, hr1, hk1, hs1⟩; have HR1 := Lib.hid hr1; have HK1 := Lib.hid hk1; have HS1 := Lib.hid hs1; clear hr1 hk1 hs1))
        all_goals go_wp2_with fail
        all_goals go_returns
        all_goals
          unfold NumAt
          rw [HNUM.out]
          exact ⟨rfl, (by simpa using HR1.out), (by first | exact (HKS.out.drewN _).trans HK1.out | exact HKS.out.drew.drew.trans HK1.out | exact HKS.out.drew.trans HK1.out), HS1.out.trans hsz⟩
      · have q8 : ((a : Int) == (i : Int)) = false := by rw [beq_eq_false_iff_ne]; omega
        go_wp2_with fail
        go_big_quiet (fail)
        all_goals go_wp2_with fail
        all_goals go_returns
        all_goals
          unfold NumAt
          rw [HNUM.out]
          exact ⟨rfl, (by simp only [if_neg hai]; exact HR.out), ⟨HKS.out.os, HKS.out.tape, HKS.out.output, HKS.out.size, HKS.out.block⟩, hsz⟩
    by_cases h57 : (x[a]'hlt).toNat ≤ 57
    case neg =>
      have q2 : decide ((48 : Int) ≤ (((x[a]'hlt).toNat : Nat) : Int)) = true := decide_eq_true (by omega)
      have q3 : decide ((((x[a]'hlt).toNat : Nat) : Int) ≤ (57 : Int)) = false := decide_eq_false (by omega)
      have hnum : numF x i = (n, a) := HG.out.symm.trans (numG_stop (fun h => h57 (by rw [← hba]; exact h.2.2.1)))
      have HNUM := Lib.hid hnum
      clear hnum
      by_cases hai : a = i
      · subst hai
        go_wp2_with fail
        go_big_quiet (fail)
        all_goals go_wp2_with fail
        all_goals go_region_held3 (fun w' => w'.cell? ⟨r, 1, none⟩ = some (.int .i64 (a : Nat)))
          ((first | (go_keep; done) | exact cellv HR1.out 1 rfl))
          (((with_reducible refine (HFL.out _ (by first | exact HR.out.drewN _ | exact HR.out.drew.drew | exact HR.out.drew | exact HR.out)).mono ?_); rintro e w1 ⟨rfl, hr1, hk1, hs1⟩; have HR1 := Lib.hid hr1; have HK1 := Lib.hid hk1; have HS1 := Lib.hid hs1; clear hr1 hk1 hs1))
        all_goals go_wp2_with fail
        all_goals go_returns
        all_goals
          unfold NumAt
          rw [HNUM.out]
          exact ⟨rfl, (by simpa using HR1.out), (by first | exact (HKS.out.drewN _).trans HK1.out | exact HKS.out.drew.drew.trans HK1.out | exact HKS.out.drew.trans HK1.out), HS1.out.trans hsz⟩
      · have q8 : ((a : Int) == (i : Int)) = false := by rw [beq_eq_false_iff_ne]; omega
        go_wp2_with fail
        go_big_quiet (fail)
        all_goals go_wp2_with fail
        all_goals go_returns
        all_goals
          unfold NumAt
          rw [HNUM.out]
          exact ⟨rfl, (by simp only [if_neg hai]; exact HR.out), ⟨HKS.out.os, HKS.out.tape, HKS.out.output, HKS.out.size, HKS.out.block⟩, hsz⟩
    have q2 : decide ((48 : Int) ≤ (((x[a]'hlt).toNat : Nat) : Int)) = true := decide_eq_true (by omega)
    have q3 : decide ((((x[a]'hlt).toNat : Nat) : Int) ≤ (57 : Int)) = true := decide_eq_true (by omega)
    by_cases h0 : i < a ∧ n = 0
    · obtain ⟨h0a, rfl⟩ := h0
      have hai : ¬ a = i := by omega
      have q4 : decide ((i : Int) < (a : Int)) = true := decide_eq_true (by omega)
      have hnum : numF x i = (0, a) := HG.out.symm.trans (numG_stop (fun h => h.2.2.2.1 ⟨h0a, rfl⟩))
      have HNUM := Lib.hid hnum
      clear hnum
      have q8 : ((a : Int) == (i : Int)) = false := by rw [beq_eq_false_iff_ne]; omega
      go_wp2_with fail
      go_big_quiet (fail)
      all_goals go_wp2_with fail
      all_goals go_returns
      all_goals
        unfold NumAt
        rw [HNUM.out]
        exact ⟨rfl, (by simp only [if_neg hai]; exact HR.out), ⟨HKS.out.os, HKS.out.tape, HKS.out.output, HKS.out.size, HKS.out.block⟩, hsz⟩
    have q4 : (decide ((i : Int) < (a : Int)) = true ∧ ((n : Int) == 0) = false) ∨ decide ((i : Int) < (a : Int)) = false := by
      by_cases h1 : i < a
      · exact Or.inl ⟨decide_eq_true (by omega), by rw [beq_eq_false_iff_ne]; intro h2; exact h0 ⟨h1, by omega⟩⟩
      · exact Or.inr (decide_eq_false (by omega))
    have hdg : ((((x[a]'hlt).toNat - 48 : Nat)) : Int) = (((x[a]'hlt).toNat : Nat) : Int) - 48 := by omega
    by_cases h2 : 10 * n + ((x[a]'hlt).toNat - 48) < 200
    case neg =>
      have hnum : numF x i = (n, a) := HG.out.symm.trans (numG_stop (fun h => h2 (by rw [← hba]; exact h.2.2.2.2)))
      have HNUM := Lib.hid hnum
      clear hnum
      by_cases hai : a = i
      · subst hai
        have q4 : decide ((a : Int) < (a : Int)) = false := decide_eq_false (by omega)
        go_wp2_with fail
        go_big_quiet (fail)
        all_goals go_wp2_with fail
        all_goals go_big_quiet (fail)
        all_goals go_wp2_with fail
        all_goals go_region_held3 (fun w' => w'.cell? ⟨r, 1, none⟩ = some (.int .i64 (a : Nat)))
          ((first | (go_keep; done) | exact cellv HR1.out 1 rfl))
          (((with_reducible refine (HFL.out _ (by first | exact HR.out.drewN _ | exact HR.out.drew.drew | exact HR.out.drew | exact HR.out)).mono ?_); rintro e w1 ⟨rfl, hr1, hk1, hs1⟩; have HR1 := Lib.hid hr1; have HK1 := Lib.hid hk1; have HS1 := Lib.hid hs1; clear hr1 hk1 hs1))
        all_goals go_wp2_with fail
        all_goals go_returns
        all_goals
          unfold NumAt
          rw [HNUM.out]
          exact ⟨rfl, (by simpa using HR1.out), (by first | exact (HKS.out.drewN _).trans HK1.out | exact HKS.out.drew.drew.trans HK1.out | exact HKS.out.drew.trans HK1.out), HS1.out.trans hsz⟩
      · have q8 : ((a : Int) == (i : Int)) = false := by rw [beq_eq_false_iff_ne]; omega
        rcases q4 with ⟨q4, q5⟩ | q4
        all_goals go_wp2_with fail
        all_goals go_big_quiet (fail)
        all_goals go_wp2_with fail
        all_goals go_big_quiet (fail)
        all_goals go_wp2_with fail
        all_goals go_returns
        all_goals
          unfold NumAt
          rw [HNUM.out]
          exact ⟨rfl, (by simp only [if_neg hai]; exact HR.out), ⟨HKS.out.os, HKS.out.tape, HKS.out.output, HKS.out.size, HKS.out.block⟩, hsz⟩
    have hnum : numG x i (x.size + 1 - (a + 1)) (10 * n + ((x[a]'hlt).toNat - 48)) (a + 1) = numF x i := by
      have hk : gk = (x.size + 1 - (a + 1)) + 1 := by omega
      rw [← HG.out, hk, numG_go ⟨hlt, by omega, by omega, h0, by rw [hba]; exact h2⟩, hba]
    have HNUM := Lib.hid hnum
    clear hnum
    have hadd : ((((a + 1 : Nat)) : Nat) : Int) = (a : Int) + 1 := by omega
    have h200 : 10 * n + ((x[a]'hlt).toNat - 48) < 200 := h2
    rcases q4 with ⟨q4, q5⟩ | q4
    all_goals go_wp2_with fail
    all_goals go_big_quiet (fail)
    all_goals go_wp2_with fail
    all_goals go_big_quiet (fail)
    all_goals go_wp2_with fail
    all_goals
      go_roundg (x.size + 1 - (a + 1))
      case measure => omega
      case rel => exact ⟨10 * n + ((x[a]'hlt).toNat - 48), a + 1, congrArg (Value.int .i64) (by omega), by omega, by omega, by omega, h200, HNUM.out, (by simpa [RdT] using heap_set (HR.out.drewN _) 1 (.int .i64 ((a : Int) + 1))), (HKS.out.drewN _).set (b := r) (Or.inl rfl) 1 _, by rw [size_set]; exact hsz⟩

end Go.Proofs.YtnoceodmnjhljaaDoor
