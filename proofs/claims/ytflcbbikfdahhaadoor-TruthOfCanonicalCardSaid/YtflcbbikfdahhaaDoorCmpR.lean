/-
  truth.compare: the walk.
-/
import Derived.Test.YtflcbbikfdahhaaDoorCmp
import Derived.Test.YtflcbbikfdahhaaDoorSets
namespace Go.Proofs.YtflcbbikfdahhaaDoor
open Go Go.RowKit
set_option linter.unusedSimpArgs false
set_option linter.unusedVariables false

set_option maxRecDepth 100000 in
set_option maxHeartbeats 16000000 in
theorem cmpR_any (x y : Rel) (va vb : Value) (w : World) (h1 : va.oneCell' = true) (h2 : vb.oneCell' = true) :
    Calls Tryd.prog 75 #[.agg #[.string x.nm, .int .i64 x.ar, va], .agg #[.string y.nm, .int .i64 y.ar, vb]] w fun e w' => e = .returned (.int .i64 (cmpR x y)) ∧ Below w.heap.size w w' := by
  obtain ⟨xn, xa, xt⟩ := x
  obtain ⟨yn, ya, yt⟩ := y
  have hs := fun W : World => cmpS_any xn yn W
  have hi := fun W : World => cmpI_any xa ya W
  have ho := fun (blk : Nat) (W : World) h0 h1 => or_any (cmpS xn yn) (cmpI xa ya) blk 0 W h0 h1
  rw [show orF (cmpS xn yn) (cmpI xa ya) = cmpR ⟨xn, xa, xt⟩ ⟨yn, ya, yt⟩ from rfl] at ho
  obtain ⟨zz, hz⟩ : ∃ z, cmpR ⟨xn, xa, xt⟩ ⟨yn, ya, yt⟩ = z := ⟨_, rfl⟩
  obtain ⟨z1, hz1⟩ : ∃ z, cmpS xn yn = z := ⟨_, rfl⟩
  obtain ⟨z2, hz2⟩ : ∃ z, cmpI xa ya = z := ⟨_, rfl⟩
  rw [hz, hz1, hz2] at ho
  rw [hz1] at hs
  rw [hz2] at hi
  rw [hz]
  clear hz hz1 hz2
  have HS := Lib.hid hs
  have HI := Lib.hid hi
  have HO := Lib.hid ho
  clear hs hi ho
  go_enter Tryd.func75, Tryd.ntmps75
  go_wp2_with fail
  go_region_held3 (fun w' => w'.cell? ⟨w.heap.size, 0, none⟩ = some (.string xn) ∧ w'.cell? ⟨w.heap.size, 1, none⟩ = some (.int .i64 xa) ∧ w'.cell? ⟨w.heap.size + 1, 0, none⟩ = some (.string yn) ∧ w'.cell? ⟨w.heap.size + 1, 1, none⟩ = some (.int .i64 ya))
    ((go_keep; done))
    ((first
      | ((with_reducible refine (HS.out _).mono ?_); rintro e w3 ⟨rfl, rfl⟩)
      | ((with_reducible refine (HI.out _).mono ?_); rintro e w3 ⟨rfl, rfl⟩)
      | ((with_reducible refine (HO.out _ _ ?_ ?_).mono ?_)
         · exact cell_heap (heap_drew (heap_at (by simp))) rfl
         · exact cell_heap (heap_drew (heap_at (by simp))) rfl
         rintro e w3 ⟨rfl, rfl⟩)
      | fail))
  all_goals go_wp2_with fail
  all_goals go_returns
  all_goals exact ⟨rfl, by go_grown⟩

end Go.Proofs.YtflcbbikfdahhaaDoor
