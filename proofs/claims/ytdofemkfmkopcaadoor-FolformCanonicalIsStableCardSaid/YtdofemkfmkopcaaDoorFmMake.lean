/-
  The laws' makers of formulas: pred; the formulas that the laws begin with.
-/
import Derived.Test.YtdofemkfmkopcaaDoorProg
import Derived.Test.YtdofemkfmkopcaaDoorFmText
import Derived.Deep.DeepCutAuto
namespace Go.Proofs.YtdofemkfmkopcaaDoor
open Go Go.RowKit
set_option linter.unusedSimpArgs false
set_option linter.unusedVariables false

theorem pred_any (nm : ByteArray) (v : Value) (w : World) (hv : ∃ A n c, v = .slice A n c) : Calls Tryd.prog 12 #[.string nm, v] w fun e w' => e = .returned (.agg #[.int .i64 2, .string nm, v, .slice none 0 0]) ∧ Below w.heap.size w w' := by
  obtain ⟨A, n, c, rfl⟩ := hv
  go_enter Tryd.func12, Tryd.ntmps12
  go_wp2_with fail
  refine bodyPost_ret (v := .agg #[.int .i64 2, .string nm, .slice A n c, .slice none 0 0]) (by simp [results, Tryd.results12, go_sem]) rfl ?_
  exact ⟨rfl, by go_grown⟩
def bKim : ByteArray := ⟨#[107, 105, 109]⟩
def bDog : ByteArray := ⟨#[100, 111, 103]⟩
/-- dog(kim). -/
def fvKim : Fv := .pred bDog [bKim]
theorem fvKim_ok : fvKim.ok := ⟨by decide +kernel, by decide, by decide +kernel⟩
theorem fp_kim : fpC ⟨#[100, 111, 103, 40, 107, 105, 109, 41]⟩ = (0, 0) ∧ fpF ⟨#[100, 111, 103, 40, 107, 105, 109, 41]⟩ = fvKim.fm :=
  fp_text (v := fvKim) fvKim_ok (by decide) (by decide) (by decide +kernel)
/-- -true. -/
def fvNot : Fv := .neg .tru
theorem fp_not : fpC ⟨#[45, 116, 114, 117, 101]⟩ = (0, 0) ∧ fpF ⟨#[45, 116, 114, 117, 101]⟩ = fvNot.fm :=
  fp_text (v := fvNot) trivial (by decide) (by decide) (by decide +kernel)

end Go.Proofs.YtdofemkfmkopcaaDoor
