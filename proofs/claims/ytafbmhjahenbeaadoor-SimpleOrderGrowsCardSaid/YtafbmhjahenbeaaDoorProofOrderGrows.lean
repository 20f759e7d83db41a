/-
  The statement SimpleOrderGrowsCardSaid is proved: for every two types, of whatever form, the law SimpleOrderGrows returns true, and both read afterwards as before.
  Conditions: those of the given row alone (the variable none is laid as the text of the program lays it; the card ties that).
-/
import Derived.Test.YtafbmhjahenbeaaDoorRows
import Derived.Test.YtafbmhjahenbeaaDoorTie
import Derived.Test.YtafbmhjahenbeaaDoorCards
import Derived.Test.YtafbmhjahenbeaaDoorLawOrderGrows
import Derived.Test.YtafbmhjahenbeaaDoorRead
import Derived.Test.YtafbmhjahenbeaaDoorLaid
import Derived.SevenTiedAt
namespace Go.Proofs.YtafbmhjahenbeaaDoor
open Go.ChangeShapes Go.WideShapes Go.ChangeAt Go.WideMaps Go.WideElems Go.RowKit

set_option maxRecDepth 100000 in
theorem orderGrows_lifted (os : Os) (started : os.Started) (H : Type) (enc : TypeId × Value → H) :
    ReturnsInHanded {} Tryd.checked os 3 .any
      (fun w args => (Rows.simpleOrderGrowsSpec.pre enc Tryd.prog Tryd.f3 [] false w args ∧ laidMetH Tryd.prog laidNone w) ∧ sizedMet enc Tryd.prog Tryd.f3 (OpenSpec.ofChange Rows.simpleOrderGrowsSpec) false w args)
      (Rows.simpleOrderGrowsSpec.post enc Tryd.prog Tryd.f3 false true false false) := by
  refine returnsInHanded_of_change_and (C := Tryd.checked) (X := fun w _ => laidMetH Tryd.prog laidNone w) (fun _ _ _ hh h => h.of_heap hh) ownKnobNone started (by kernel_rfl) Tryd.func3
    (ChangeSpec.witness_shaped (enc := enc) (C := Tryd.checked) (os := os) (X := fun w _ => laidMetH Tryd.prog laidNone w) false (World.doorLaid Tryd.prog 400 os) #[.agg #[.string ⟨#[]⟩, .slice none 0 0], .agg #[.string ⟨#[]⟩, .slice none 0 0]] 8 rfl (World.shaped_of_RefB (by kernel_rfl) (by kernel_rfl)) (by kernel_rfl) (by kernel_rfl) (by kernel_rfl) (door_met os _)) ?_
  intro W base args ds gs before hval0 hW _ _ hL _
  have hval : ∀ (j : Nat) t v, Tryd.f3.params[j]? = some t → args[j]? = some v → Value.okWide Tryd.prog W .any base t v := hval0
  have hW' := hW
  obtain ⟨p, q, hA0, hV, rfl, hfz, hnd⟩ := hW
  have hA : DataW.TrodAll enc Tryd.prog W 0 (fun _ => true) true Tryd.f3.params.toList args.toList ds p := hA0
  rw [Tryd.params3] at hA hval
  obtain ⟨v0, v1, d0, d1, p0, p1, rfl, rfl, rfl, h0, h1⟩ := trodAll_two hA
  obtain ⟨rfl, rfl⟩ := trodVars_none hV
  obtain ⟨c0, rfl, hc0⟩ := okWide_struct Tryd.underlying24 (hval 0 24 v0 rfl rfl)
  obtain ⟨c1, rfl, hc1⟩ := okWide_struct Tryd.underlying24 (hval 1 24 v1 rfl rfl)
  have h0k := h0
  have h1k := h1
  obtain ⟨fuel0, hf0⟩ := h0
  obtain ⟨fuel1, hf1⟩ := h1
  obtain ⟨t, a0, a1, e0, ht⟩ := ty_of_trod fuel0 _ _ hf0
  obtain ⟨u, b0, b1, e1, hu⟩ := ty_of_trod fuel1 _ _ hf1
  obtain rfl : c0 = #[a0, a1] := Array.toList_inj.1 (by simpa [Value.cells] using e0)
  obtain rfl : c1 = #[b0, b1] := Array.toList_inj.1 (by simpa [Value.cells] using e1)
  obtain ⟨g0, g1⟩ := of_laid hL
  clear hA0 hval0
  simp only [List.append_nil] at hW'
  have hlt : ∀ x ∈ p0 ++ p1, x.block < W.heap.size := fun x hx => by simpa using hW'.lt x (by simpa using hx)
  refine (orderGrows_any t u a0 a1 b0 b1 W (Lo W) ht hu (fun _ h => h) g0 g1).mono fun e W' ⟨he, hnx⟩ => ?_
  subst he
  refine ⟨_, rfl, _, _, _, [], p0 ++ p1, [], hW', trodAll_mk1 (shut_bool Tryd.underlying4 _), ?_, rfl, hnx.frame _, fun h => by cases h⟩
  exact trodAll_mk2 (Below.trod laidOutAll (by kernel_rfl) (of_decide_eq_true (by kernel_rfl)) h0k hnx (fun x hx => hlt x (by simp [hx]))) (Below.trod laidOutAll (by kernel_rfl) (of_decide_eq_true (by kernel_rfl)) h1k hnx (fun x hx => hlt x (by simp [hx])))

theorem orderGrows_row : Rows.SimpleOrderGrowsSaid :=
  OpenClaim.holds_of_wide 3 Tryd.f3 rfl rfl rfl rfl rfl rfl rfl ⟨rfl, rfl, rfl, rfl, rfl⟩ rfl rfl rfl rfl rfl (by kernel_rfl) Tryd.func3 (by kernel_rfl)
    (of_decide_eq_true (by kernel_rfl)) (by unfold Func.isWrapper; first | (rw [if_pos (by decide +kernel)]; kernel_rfl) | (rw [if_neg (by decide +kernel)]; exact ⟨rfl, rfl⟩))
    (fun os started H enc _ => orderGrows_lifted os started H enc)

theorem simpleOrderGrows_holds : Rows.SimpleOrderGrowsCardSaid :=
  Claim7.holds_tied_plain_at .later [] [.data] true (true, "f3a4f4767572dffc1d60e5b63bac106534f94eb12f9f437ab11f96d2c901dfc1") false
    orderGrows_row (fun _ h => by cases h) (by kernel_rfl) (fun _ h => by cases h) simpleOrderGrows_row_tie rfl ⟨rfl, rfl⟩ (by kernel_rfl) rfl
    (fun f fn hf hfn => by
      obtain rfl : f = 3 := Option.some.inj ((show Tryd.prog.funcNamed "glosswright/glosswrightlaw1.SimpleOrderGrows" = some 3 by kernel_rfl).symm.trans hf) |>.symm
      obtain rfl : fn = Tryd.f3 := (Option.some.inj (Tryd.func3.symm.trans hfn)).symm
      exact ⟨by kernel_rfl, fun j t ht => by
        rw [Tryd.params3] at ht
        have hm : t ∈ [24, 24] := by simpa using Array.mem_of_getElem? ht
        have hall : ([24, 24].all fun u => !Tryd.prog.wantsStandIn u) = true := by kernel_rfl
        exact (show Tryd.prog.wantsStandIn t = false by simpa using List.all_eq_true.1 hall t hm)⟩)
    (by kernel_rfl)
#print axioms simpleOrderGrows_holds
end Go.Proofs.YtafbmhjahenbeaaDoor
