/-
  How a whole text is read as a term (term.Parse), in plain words. Nothing here names a function.
-/
import Derived.Test.YtnoceodmnjhljaaDoorTrdText
namespace Go.Proofs.YtnoceodmnjhljaaDoor
open Go Go.RowKit
set_option linter.unusedSimpArgs false
set_option linter.unusedVariables false

def tpF (x : ByteArray) : Tm × St := termF x 40 ⟨0, 0, 0, 0⟩
/-- The fault. -/
noncomputable def tpC (x : ByteArray) : Nat × Int :=
  if 4000 < x.size then (1, 0) else if (tpF x).2.c ≠ 0 then ((tpF x).2.c, ((tpF x).2.j : Nat)) else if (tpF x).2.i < x.size then (11, ((tpF x).2.i : Nat)) else tmFault (tpF x).1
/-- The term. -/
noncomputable def tpT (x : ByteArray) : Tm := if (tpC x).1 = 0 then (tpF x).1 else tmZT

theorem tpC_long {x : ByteArray} (h : 4000 < x.size) : tpC x = (1, 0) := by unfold tpC; rw [if_pos h]
theorem tpC_bad {x : ByteArray} (h : ¬ 4000 < x.size) (hc : (tpF x).2.c ≠ 0) : tpC x = ((tpF x).2.c, (((tpF x).2.j : Nat) : Int)) := by unfold tpC; rw [if_neg h, if_pos hc]
theorem tpC_more {x : ByteArray} (h : ¬ 4000 < x.size) (hc : ¬ (tpF x).2.c ≠ 0) (hi : (tpF x).2.i < x.size) : tpC x = (11, (((tpF x).2.i : Nat) : Int)) := by unfold tpC; rw [if_neg h, if_neg hc, if_pos hi]
theorem tpC_end {x : ByteArray} (h : ¬ 4000 < x.size) (hc : ¬ (tpF x).2.c ≠ 0) (hi : ¬ (tpF x).2.i < x.size) : tpC x = tmFault (tpF x).1 := by unfold tpC; rw [if_neg h, if_neg hc, if_neg hi]
theorem tpT_bad {x : ByteArray} (h : (tpC x).1 ≠ 0) : tpT x = tmZT := by unfold tpT; rw [if_neg h]
theorem tpT_ok {x : ByteArray} (h : (tpC x).1 = 0) : tpT x = (tpF x).1 := by unfold tpT; rw [if_pos h]

/-- The text of a valid term is read as the term. -/
theorem tp_text {v : Tv} {s : Sy} (h : v.ok 0) (h1 : v.nodes ≤ 200) (h2 : v.depth ≤ 40) (h3 : v.typ [] = some s) (h4 : v.text.length ≤ 4000) :
    tpC ⟨v.text.toArray⟩ = (0, 0) ∧ tpT ⟨v.text.toArray⟩ = v.tm := by
  have hsz : (⟨v.text.toArray⟩ : ByteArray).size = v.text.length := by simp [ByteArray.size]
  have hr := trd_text ⟨v.text.toArray⟩ v 0 40 0 0 [] h (by omega) (by simp) (by rw [byteAt_out (by omega)]; omega) h2 (by omega)
  have ht := termF_trd ⟨v.text.toArray⟩ 40 ⟨0, 0, 0, 0⟩ rfl
  simp only at ht
  rw [hr] at ht
  simp only at ht
  have hF : tpF ⟨v.text.toArray⟩ = (v.tm, ⟨0 + v.text.length, 0, 0, 0 + v.nodes⟩) := ht
  have hC : tpC ⟨v.text.toArray⟩ = (0, 0) := by
    rw [tpC_end (by omega) (by rw [hF]; simp) (by rw [hF, hsz]; simp), hF]
    exact tmFault_ok h h1 h2 h3
  exact ⟨hC, by rw [tpT_ok (by rw [hC]), hF]⟩

end Go.Proofs.YtnoceodmnjhljaaDoor
