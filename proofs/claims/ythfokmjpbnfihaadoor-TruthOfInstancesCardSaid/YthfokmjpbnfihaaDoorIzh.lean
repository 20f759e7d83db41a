/- Lemmas. -/
import Derived.Test.YthfokmjpbnfihaaDoorIu
import Derived.Test.YthfokmjpbnfihaaDoorIzg
namespace Go.Proofs.YthfokmjpbnfihaaDoor
open Go Go.RowKit
set_option linter.unusedSimpArgs false
set_option linter.unusedVariables false
noncomputable section
theorem hasRels_cs (m:Md) (cs':List Con):∀b:Fv,hasRels ⟨m.sz,cs',m.rs⟩ b=hasRels m b
  | .tru | .same _ _=>rfl
  | .pred _ _=>rfl
  | .neg f=>by simp only [hasRels]; exact hasRels_cs m cs' f
  | .qu _ _ f=>by simp only [hasRels]; exact hasRels_cs m cs' f
  | .bin _ f g=>by simp only [hasRels]; rw [hasRels_cs m cs' f,hasRels_cs m cs' g]
theorem inst_holds {m:Md} (h:HereOk m) {k:Nat} {x:ByteArray} {b:Fv} (hz:(holdsC m (Fv.qu k x b).fm).1=0) (hok:(Fv.qu k x b).ok) {v:Nat} (hv:v<m.sz.toNat) :
    insC (Fv.qu k x b).fm (hereB v)=(0,0)∧holdsC m.here (insT (Fv.qu k x b).fm (hereB v))=(0,0)∧holdsB m.here (insT (Fv.qu k x b).fm (hereB v))=evalF m b [(x,(v:Int))] := by
  obtain ⟨hmf,hff,hp⟩ := holdsC_ok hz
  obtain ⟨v',e1,ok',nv,dv,ev⟩ := fault_ok9 hff
  obtain rfl := Fv.fm_inj _ v' hok ok' e1
  obtain ⟨_,hnest,hall,hhas⟩ := pairT_zero hp
  have hszb := h.good.sz
  have hyk:okName (hereB v)=true := hereB_okC v (by omega)
  have hk := hok.1
  have hq:isQu (Fv.qu k x b).fm.lab.kind=true := by
    simp only [Fv.fm,Tree.lab,isQu]
    rcases hk with rfl | rfl <;> rfl
  have hc0:insC (Fv.qu k x b).fm (hereB v)=(0,0) := by
    unfold insC
    rw [if_neg (by omega),if_neg (by rw [hq]; decide),if_neg (by rw [hyk]; decide)]
  have hT:insT (Fv.qu k x b).fm (hereB v)=canF [(x,hereB v)] b.fm := by
    unfold insT
    rw [if_pos ⟨hff,hq,hyk⟩]
    rfl
  have hb := hok.2.2
  have hnb:b.nodes≤200 := by simp only [Fv.nodes] at nv; omega
  have hdb:b.depth≤40 := by simp only [Fv.depth] at dv; omega
  obtain ⟨nm,hnm⟩:∃nm,nm=namV ((fmConsts b.fm).map (lookE [(x,hereB v)])) := ⟨_,rfl⟩
  have hT2:insT (Fv.qu k x b).fm (hereB v)=(b.rn nm [(x,hereB v)] 0).1.fm := by
    rw [hT,canF,Fv.rn_fm _ b _ _ hb,hnm]
  have hfr:fmFrees [] (Fv.qu k x b).fm=fmFrees [x] b.fm := by
    simp only [Fv.fm,fmFrees,fmFreess,List.filter_nil,List.nil_append,List.append_nil]
    rw [if_pos (by omega)]
  have hcon:∀w∈fmFrees [x] b.fm,(conV m w).isSome=true := by
    intro w hw
    rw [← hfr] at hw
    unfold allC at hall
    exact List.all_eq_true.1 hall w (mem_constsB.2 hw)
  have hsub:∀w∈fmFrees [] b.fm,x≠w→w∈fmFrees [x] b.fm := fun w hw hx=>(frees_cons x b hb [] w).2 ⟨hw,hx⟩
  have hsub2:∀w∈fmFrees [x] b.fm,w∈fmFrees [] b.fm∧x≠w := fun w hw=>(frees_cons x b hb [] w).1 hw
  have hfree:∀j,nm j ∉ (fmConsts b.fm).map (lookE [(x,hereB v)]) := fun j=>by rw [hnm]; exact namV_free _ j
  have hlk:∀w,lookE [(x,hereB v)] w=if x=w then hereB v else w := fun w=>lookE_cons (by simp)
  have okb:(b.rn nm [(x,hereB v)] 0).1.ok := by
    refine Fv.rn_ok nm b _ 0 hb (fun p hp=>by rw [List.mem_singleton.1 hp]; exact hyk) (fun j _ hj=>?_)
    rw [hnm]
    refine okName_namV hb hnb _ j ?_
    have h9 := renF_count nm b.fm [(x,hereB v)] 0
    rw [Fv.rn_fm _ b _ _ hb] at h9
    simp only at h9
    omega
  have hHz:holdsC m.here (insT (Fv.qu k x b).fm (hereB v))=(0,0) := by
    rw [hT2]
    refine holdsC_zero (h.fault hmf) okb (by rw [Fv.rn_nodes]; exact hnb) (by rw [Fv.rn_depth]; exact hdb) ?_ ?_ ?_
    · rw [nestT_fm _ okb,nestF_rn]
      rw [nestT_fm _ hok] at hnest
      simp only [nestF] at hnest
      omega
    · intro c hc
      rw [← hT2,hT,frees_canF] at hc
      obtain ⟨w,hw,rfl⟩ := List.mem_map.1 hc
      rw [hlk]
      by_cases hx:x=w
      · rw [if_pos hx,h.conNew hv]; rfl
      · rw [if_neg hx]
        have := hcon w (hsub w hw hx)
        rw [h.conOld this]; exact this
    · rw [hasT_fm _ _ okb,hasRels_rn]
      rw [hasT_fm _ _ hok] at hhas
      simp only [hasRels] at hhas
      exact (hasRels_cs m _ b).trans hhas
  refine ⟨hc0,hHz,?_⟩
  have hH2:(holdsC m.here (b.rn nm [(x,hereB v)] 0).1.fm).1=0 := by rw [← hT2,hHz]
  rw [hT2,holdsB_good hH2 okb]
  have hyn:∀j,hereB v≠nm j := fun j=>by rw [hnm]; exact hereB_vB
  refine evalF_ins (m := m) (cs' := m.here.cs) (h.conNew hv) (by rw [hnm]; exact namV_inj _) hyn b [] 0 hb (by simp [Tri.n]) (fun a ha=>absurd ha (by simp [Tri.n])) (fun w hw=>?_)
  have hw:w∈fmFrees [x] b.fm := hw
  refine ⟨fun j e=>hfree j ?_,h.conOld (hcon w hw)⟩
  rw [← e]
  obtain ⟨h1,h2⟩ := hsub2 w hw
  exact List.mem_map.2 ⟨w,mem_constsB.2 h1,by rw [hlk,if_neg h2]⟩
end

end Go.Proofs.YthfokmjpbnfihaaDoor
