/-
  The reference's word: the walk.
-/
import Derived.Test.YtnoceodmnjhljabDoorByte
import Derived.Test.YtnoceodmnjhljabDoorName
import Derived.Deep.DeepCutAuto
namespace Go.Proofs.YtnoceodmnjhljabDoor
open Go Go.RowKit
set_option linter.unusedSimpArgs false
set_option linter.unusedVariables false

set_option maxRecDepth 100000 in
set_option maxHeartbeats 4000000 in
theorem word_any (x : ByteArray) (i : Nat) (w : World) (hx : x.size ≤ 4000) (hi : i ≤ x.size) :
    Calls Tryd.prog 24 #[.string x, .int .i64 (i : Nat)] w fun e w' => e = .returned (.string (x.extract i (nameE x i))) ∧ w = w' := by
  have hnm0 := fun (a : Nat) (W : World) => refName_any (x.extract i (a + 1)) W (ext_le2 x i (a + 1) hx)
  have HE : Hid (∀ a, nameE x i = a → Ending.returned (.string (x.extract i a)) = .returned (.string (x.extract i (nameE x i)))) := Lib.hid (fun a h => by rw [h])
  have HNM0 := Lib.hid hnm0
  clear hnm0
  go_enter Tryd.func24, Tryd.ntmps24
  go_wp2_with fail
  go_loopg [5] (x.size + 1 - i) (fun g v5 wl => ∃ a : Nat, v5 = .int .i64 (a : Nat) ∧ w = wl ∧ i ≤ a ∧ a ≤ x.size ∧ a + g = x.size + 1 ∧ nameG x i g a = nameE x i)
  case atStart => exact ⟨i, rfl, rfl, by omega, by omega, by omega, rfl⟩
  case round =>
    obtain ⟨a, rfl, hwl, hia, hax, hag, hg⟩ := hrel
    subst hwl
    have HG := Lib.hid hg
    have ha4 : (a : Int) ≤ 4000 := by omega
    clear hg
    by_cases hs : a < x.size ∧ a - i < 30 ∧ okName (x.extract i (a + 1)) = true
    · obtain ⟨g1, g2, g3⟩ := hs
      have hnx : nameG x i (x.size + 1 - (a + 1)) (a + 1) = nameE x i := by
        have hk2 : gk = (x.size + 1 - (a + 1)) + 1 := by omega
        rw [← HG.out, hk2, nameG_go2 ⟨g1, g2, g3⟩]
      have hnm := HNM0.out a
      rw [g3] at hnm
      have t1 : (a : Int) < (x.size : Int) := by omega
      have t2 : (a : Int) - (i : Int) < 30 := by omega
      have t3 : (a : Int) + 1 ≤ (x.size : Int) := by omega
      have t4 : (i : Int) ≤ (a : Int) + 1 := by omega
      have HNX := Lib.hid hnx
      have HNM := Lib.hid hnm
      clear hnx hnm
      clear g3
      go_wp2_with fail
      (with_reducible refine (HNM.out _).mono ?_)
      rintro e w' ⟨rfl, rfl⟩
      go_wp2_with fail
      go_roundg (x.size + 1 - (a + 1))
      case measure => omega
      case rel => exact ⟨a + 1, by go_num, rfl, by omega, by omega, by omega, HNX.out⟩
    · have hE : nameE x i = a := HG.out.symm.trans (nameG_stop2 hs)
      have hfin := HE.out a hE
      have u1 : (a : Int) ≤ (x.size : Int) := by omega
      have u2 : (i : Int) ≤ (a : Int) := by omega
      have u3 : (0 : Int) ≤ (i : Int) := by omega
      clear hE
      have HFIN := Lib.hid hfin
      clear hfin
      by_cases hlt2 : a < x.size
      case neg =>
        have t1 : ¬ (a : Int) < (x.size : Int) := by omega
        clear hs
        go_wp2_with fail
        go_returns
        exact ⟨HFIN.out, rfl⟩
      have t1 : (a : Int) < (x.size : Int) := by omega
      by_cases h30 : a - i < 30
      case neg =>
        have t2 : ¬ (a : Int) - (i : Int) < 30 := by omega
        clear hs
        go_wp2_with fail
        go_returns
        exact ⟨HFIN.out, rfl⟩
      have t2 : (a : Int) - (i : Int) < 30 := by omega
      have t3 : (a : Int) + 1 ≤ (x.size : Int) := by omega
      have t4 : (i : Int) ≤ (a : Int) + 1 := by omega
      have g3 : okName (x.extract i (a + 1)) = false := by
        cases h : okName (x.extract i (a + 1)) with
        | false => rfl
        | true => exact absurd ⟨hlt2, h30, h⟩ hs
      have hnm := HNM0.out a
      rw [g3] at hnm
      clear hs g3
      have HNM := Lib.hid hnm
      clear hnm
      go_wp2_with fail
      (with_reducible refine (HNM.out _).mono ?_)
      rintro e w' ⟨rfl, rfl⟩
      go_wp2_with fail
      go_returns
      exact ⟨HFIN.out, rfl⟩

end Go.Proofs.YtnoceodmnjhljabDoor
