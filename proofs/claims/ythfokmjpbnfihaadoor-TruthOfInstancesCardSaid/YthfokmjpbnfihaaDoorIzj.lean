/- Lemmas. -/
import Derived.Test.YthfokmjpbnfihaaDoorProg
import Derived.Test.YthfokmjpbnfihaaDoorRows
import Derived.Test.YthfokmjpbnfihaaDoorIa
import Derived.ChangeArms
import Derived.ProofKit
import Derived.LaidMore
import Derived.OpenShut
import Derived.Stop.Joined
namespace Go.Proofs.YthfokmjpbnfihaaDoor
open Go Go.RowKit
set_option linter.unusedSimpArgs false
set_option linter.unusedVariables false
noncomputable section
open Go Go.RowKit Go.ChangeShapes Go.WideShapes Go.Deep
open Go Go.RowKit Go.ChangeShapes Go.WideShapes Go.Deep
open Go.ChangeShapes Go.WideShapes Go.ChangeAt Go.WideMaps Go.WideElems Go.RowKit

theorem cells9:Tryd.prog.cellsOf 9=1 := by kernel_rfl
theorem spot_none {w:World} {a:Addr} {v:Value} (h:w.cell? a=some v):a=⟨a.block,a.off,none⟩ := by
  cases a with
  | mk b o s =>
    cases s with
    | none=>rfl
    | some k=>unfold World.cell? at h; simp at h; split at h <;> simp at h
theorem add_none (b o n:Nat):Addr.add ⟨b,o,none⟩ n=⟨b,o+n,none⟩ := by
  unfold Addr.add; split <;> simp [*]
section
variable {H:Type} {enc:TypeId × Value→H} {w:World} {spare:Nat→Bool} {held:Bool}
theorem sl_of_trod {α:Type} {ρ:Rep α} {E T:TypeId} (hc:Tryd.prog.cellsOf E=ρ.size) (ht:Tryd.prog.underlying T=some (.slice E)) {fuel:Nat} {v:Value} {x:DataW H × List MemPlace}
    (hE:∀n,n<fuel→∀(cs:List Value) (y:DataW H × List MemPlace),DataW.trod enc Tryd.prog w 0 spare held n E cs=some y→∃a,ρ.R w (Lo w) a cs)
    (h:DataW.trod enc Tryd.prog w 0 spare held fuel T [v]=some x):∃l,ρ.Sl w (Lo w) v l := by
  rcases DataW.trod_slice ht h with ⟨e1,_⟩ | ⟨a,len,cap,elems,rest,n',hn',e1,_,_,hlc,hcm,_,hel,_,_⟩
  · simp only [List.cons.injEq,and_true] at e1
    subst e1
    exact ⟨[],Rep.Sl.nil⟩
  simp only [List.cons.injEq,and_true] at e1
  subst e1
  rw [hc] at hel
  have hall:∀i,i<len→∃(t:α) (cs:List Value),ρ.R w (Lo w) t cs∧∀j u,cs[j]? = some u→w.cell? (a.add (i * ρ.size+j))=some u := by
    intro i hi
    have hb := hel i hi
    have hlt:i<elems.length := by omega
    rw [List.getElem?_eq_getElem hlt] at hb
    cases hcs:w.cells? 0 (a.add (i * ρ.size)) ρ.size with
    | none=>rw [hcs] at hb; simp at hb
    | some cs' =>
      rw [hcs] at hb
      simp only [Option.bind_some] at hb
      obtain ⟨t,ht⟩ := hE n' (by omega) cs' _ hb
      obtain ⟨_,_,hat⟩ := World.cells?_some hcs
      refine ⟨t,cs',ht,fun j u hj=>?_⟩
      have hjl:j<cs'.length := (List.getElem?_eq_some_iff.1 hj).1
      have p := hat j (by rw [ρ.len ht] at hjl; exact hjl)
      rw [add_add] at p
      rw [p]; exact hj
  have key:∀m,m≤len→∃(l:List α) (xs:List Value),l.length=m∧ρ.All w (Lo w) l xs∧∀j u,xs[j]? = some u→w.cell? (a.add j)=some u := by
    intro m
    induction m with
    | zero=>intro _; exact ⟨[],[],rfl,rfl,by simp⟩
    | succ m ih =>
      intro hm
      obtain ⟨l,xs,h1,h2,h3⟩ := ih (by omega)
      obtain ⟨t,cs,h4,h5⟩ := hall m (by omega)
      refine ⟨l++[t],xs++cs,by simp [h1],h2.append (Rep.All.single h4),fun j u hj=>?_⟩
      have hx:xs.length=m * ρ.size := by rw [h2.len,h1]
      by_cases hlt:j<xs.length
      · rw [List.getElem?_append_left hlt] at hj; exact h3 j u hj
      · rw [List.getElem?_append_right (by omega)] at hj
        have := h5 _ u hj
        rw [show m * ρ.size+(j - xs.length)=j by omega] at this
        exact this
  obtain ⟨l,xs,h1,h2,h3⟩ := key len (Nat.le_refl _)
  refine ⟨l,_,len,cap,rfl,h1,by omega,fun hp=>?_⟩
  have hxl:0<xs.length := by rw [h2.len,h1]; exact Nat.mul_pos hp ρ.pos
  have hp0:w.cell? a=some xs[0] := by have := h3 0 _ (List.getElem?_eq_getElem hxl); simpa [Addr.add] using this
  have ha := spot_none hp0
  refine ⟨a.block,a.off,xs,by rw [← ha],World.block_lt_of_cell? w _ hp0,h2,fun j u hj=>?_⟩
  have := h3 j u hj
  rw [ha,add_none] at this
  exact this
end
theorem ownKnobNone:ownKnob Tryd.prog.godebug=none := by kernel_rfl
theorem laidOutAll:laidOutB Tryd.prog=true := by kernel_rfl
theorem gNone:Tryd.prog.globalNamed "glosswright/glosswrightlaw1.none" = some 0 := by kernel_rfl
theorem tNone:(Tryd.prog.globals[0]?).map (·.type)=some 32 := by kernel_rfl
theorem cellsFault:Tryd.prog.cellsOf 32=2 := by kernel_rfl
theorem cellsInt:Tryd.prog.cellsOf 3=1 := by kernel_rfl
end

end Go.Proofs.YthfokmjpbnfihaaDoor
