/-
  term.fits: the walk.
-/
import Derived.Test.YthflahcnkhmpaaaDoorProg
import Derived.Test.YthflahcnkhmpaaaDoorSizeTm
import Derived.Test.YthflahcnkhmpaaaDoorName
namespace Go.Proofs.YthflahcnkhmpaaaDoor
open Go Go.RowKit
set_option linter.unusedSimpArgs false
set_option linter.unusedVariables false

set_option maxRecDepth 100000 in
theorem fits_any (t : Tm) (cs : List Value) (w : World) (S : Nat → Prop) (ht : tmRep.R w S t cs) (hS : ∀ b, S b → b < w.heap.size) (hM : t.nodes ≤ 1000000000000) :
    Calls Tryd.prog 55 #[.agg cs.toArray] w fun e w' => e = .returned (.bool (decide (t.nodes ≤ 200) && decide (t.depth ≤ 40))) ∧ Below w.heap.size w w' := by
  obtain ⟨s1, A1, n1, c1, B1, m1, d1, rfl, _, _⟩ := Tm.shape ht
  have hv := fun (o : Obj) => Lib.hid (size_any t.nodes t [.int .i64 t.lab.kind, .string t.lab.nm, .int .i64 t.lab.ix, .string s1, .slice A1 n1 c1, .slice B1 m1 d1] (w.alloc o) S (Nat.le_refl _) hM (tmRep.keep ht (fun k hk => heap_old (hS k hk) rfl) (fun _ h => h)) (fun k hk => by have := hS k hk; simp; omega))
  clear ht hS
  have HV := Lib.hid hv
  have HM := Lib.hid hM
  clear hv hM
  go_enter Tryd.func55, Tryd.ntmps55
  go_wp2_with fail
  (with_reducible refine (HV.out _).out.mono ?_)
  rintro e w1 ⟨rfl, hw1⟩
  have HB := Lib.hid ((show Below w.heap.size w _ by go_grown).trans (hw1.mono (by simp)))
  clear hw1
  by_cases h1 : t.nodes ≤ 200
  · by_cases h2 : t.depth ≤ 40
    · go_wp2_with fail
      go_returns
      exact ⟨ret_bool (by simp [h1, h2]; omega), HB.out⟩
    · go_wp2_with fail
      go_returns
      exact ⟨ret_bool (by simp [h1, h2]; omega), HB.out⟩
  · go_wp2_with fail
    go_returns
    exact ⟨ret_bool (by simp [h1]), HB.out⟩

end Go.Proofs.YthflahcnkhmpaaaDoor
