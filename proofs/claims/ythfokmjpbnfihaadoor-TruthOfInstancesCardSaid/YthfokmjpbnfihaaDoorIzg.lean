/- Lemmas. -/
import Derived.Test.YthfokmjpbnfihaaDoorIzf
namespace Go.Proofs.YthfokmjpbnfihaaDoor
open Go Go.RowKit
set_option linter.unusedSimpArgs false
set_option linter.unusedVariables false
noncomputable section
theorem okName_namV {v:Fv} (hv:v.ok) (hn:v.nodes≤200) (env:Env):∀j,j<quN v.fm→okName (namV ((fmConsts v.fm).map (lookE env)) j)=true := by
  intro j hj
  have hwq := Fv.words_le v hv
  have h1 := fmConsts_len v.fm
  have h2 := frees_le v.fm []
  have hfv := fromV_le ((fmConsts v.fm).map (lookE env)) (quN v.fm) (j+1) (by omega) (by rw [List.length_map]; omega) (by omega)
  have e:fromV ((fmConsts v.fm).map (lookE env)) (j+1)=numV ((fmConsts v.fm).map (lookE env)) j+1 := rfl
  exact okName_vB (by omega)
end

end Go.Proofs.YthfokmjpbnfihaaDoor
