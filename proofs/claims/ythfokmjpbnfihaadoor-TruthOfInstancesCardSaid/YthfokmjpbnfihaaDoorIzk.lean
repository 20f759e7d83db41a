/- Lemmas. -/
import Derived.Test.YthfokmjpbnfihaaDoorIzj
import Derived.Test.YthfokmjpbnfihaaDoorIg
namespace Go.Proofs.YthfokmjpbnfihaaDoor
open Go Go.RowKit
set_option linter.unusedSimpArgs false
set_option linter.unusedVariables false
noncomputable section
open Go Go.RowKit Go.ChangeShapes Go.WideShapes Go.Deep
set_option maxRecDepth 100000

theorem cellsMd:Tryd.prog.cellsOf 25=3 := by kernel_rfl
theorem cellsCon:Tryd.prog.cellsOf 49=2 := by kernel_rfl
theorem cellsRel:Tryd.prog.cellsOf 59=3 := by kernel_rfl
theorem cellsCons:Tryd.prog.cellsOf 22=1 := by kernel_rfl
theorem cellsRels:Tryd.prog.cellsOf 23=1 := by kernel_rfl
theorem cellsRows:Tryd.prog.cellsOf 30=1 := by kernel_rfl
theorem cellsRow:Tryd.prog.cellsOf 39=1 := by kernel_rfl
section
variable {H:Type} {enc:TypeId × Value→H} {w:World} {spare:Nat→Bool} {held:Bool}
theorem int_of_trod {fuel:Nat} {cs:List Value} {x:DataW H × List MemPlace} (h:DataW.trod enc Tryd.prog w 0 spare held fuel 3 cs=some x):∃a,zRep.R w (Lo w) a cs := by
  obtain ⟨k,e0,_,_⟩ := DataW.trod_int Tryd.underlying3 h
  exact ⟨k,e0⟩
theorem sl_one {α:Type} {ρ:Rep α} {E T:TypeId} (hT:Tryd.prog.cellsOf T=1) (hc:Tryd.prog.cellsOf E=ρ.size) (ht:Tryd.prog.underlying T=some (.slice E)) {fuel:Nat} {cs:List Value} {x:DataW H × List MemPlace}
    (hE:∀n,n<fuel→∀(cs:List Value) (y:DataW H × List MemPlace),DataW.trod enc Tryd.prog w 0 spare held n E cs=some y→∃a,ρ.R w (Lo w) a cs)
    (h:DataW.trod enc Tryd.prog w 0 spare held fuel T cs=some x):∃v l,cs=[v]∧ρ.Sl w (Lo w) v l := by
  have hv:∃v,cs=[v] := by
    rcases DataW.trod_slice ht h with ⟨e1,_⟩ | ⟨a,len,cap,elems,rest,n',hn',e1,_⟩
    · exact ⟨_,e1⟩
    · exact ⟨_,e1⟩
  obtain ⟨v,rfl⟩ := hv
  obtain ⟨l,hl⟩ := sl_of_trod hc ht hE h
  exact ⟨v,l,rfl,hl⟩
theorem ints_of_trod {fuel:Nat} {cs:List Value} {x:DataW H × List MemPlace} (h:DataW.trod enc Tryd.prog w 0 spare held fuel 39 cs=some x):∃a,intsRep.R w (Lo w) a cs := by
  obtain ⟨v,l,rfl,hl⟩ := sl_one (ρ := zRep) cellsRow cellsInt Tryd.underlying39 (fun n _ cs y hy=>int_of_trod hy) h
  exact ⟨l,v,rfl,hl⟩
theorem con_of_trod {fuel:Nat} {cs:List Value} {x:DataW H × List MemPlace} (h:DataW.trod enc Tryd.prog w 0 spare held fuel 49 cs=some x):∃a,conRep.R w (Lo w) a cs := by
  obtain ⟨xs,n,hn,hx,hlen,hxl,hf⟩ := DataW.trod_struct Tryd.underlying49 h
  rw [cellsCon] at hlen
  match cs,hlen with
  | [v0,v1],_ =>
  match xs,hxl with
  | [y0,y1],_ =>
  have h0:DataW.trod enc Tryd.prog w 0 spare held n 9 [v0]=some y0 := by simpa [cells9] using hf 0 _ rfl
  have h1:DataW.trod enc Tryd.prog w 0 spare held n 3 [v1]=some y1 := by simpa [cellsInt] using hf 1 _ rfl
  obtain ⟨s,e0,_,hs⟩ := DataW.trod_string Tryd.underlying9 h0
  obtain ⟨k,e1,_,_⟩ := DataW.trod_int Tryd.underlying3 h1
  simp only [List.cons.injEq,and_true] at e0 e1
  subst e0 e1
  exact ⟨⟨s,k⟩,rfl,hs⟩
theorem rel_of_trod {fuel:Nat} {cs:List Value} {x:DataW H × List MemPlace} (h:DataW.trod enc Tryd.prog w 0 spare held fuel 59 cs=some x):∃a,relRep.R w (Lo w) a cs := by
  obtain ⟨xs,n,hn,hx,hlen,hxl,hf⟩ := DataW.trod_struct Tryd.underlying59 h
  rw [cellsRel] at hlen
  match cs,hlen with
  | [v0,v1,v2],_ =>
  match xs,hxl with
  | [y0,y1,y2],_ =>
  have h0:DataW.trod enc Tryd.prog w 0 spare held n 9 [v0]=some y0 := by simpa [cells9] using hf 0 _ rfl
  have h1:DataW.trod enc Tryd.prog w 0 spare held n 3 [v1]=some y1 := by simpa [cellsInt] using hf 1 _ rfl
  have h2:DataW.trod enc Tryd.prog w 0 spare held n 30 [v2]=some y2 := by simpa [cellsRows] using hf 2 _ rfl
  obtain ⟨s,e0,_,hs⟩ := DataW.trod_string Tryd.underlying9 h0
  obtain ⟨k,e1,_,_⟩ := DataW.trod_int Tryd.underlying3 h1
  obtain ⟨v,l,e2,hl⟩ := sl_one (ρ := intsRep) cellsRows cellsRow Tryd.underlying30 (fun n _ cs y hy=>ints_of_trod hy) h2
  simp only [List.cons.injEq,and_true] at e0 e1 e2
  subst e0 e1 e2
  exact ⟨⟨s,k,l⟩,v2,rfl,hs,hl⟩
theorem md_of_trod (fuel:Nat) (cs:List Value) (x:DataW H × List MemPlace) (h:DataW.trod enc Tryd.prog w 0 spare held fuel 25 cs=some x):∃m:Md,m.In w (Lo w) cs := by
  obtain ⟨xs,n,hn,hx,hlen,hxl,hf⟩ := DataW.trod_struct Tryd.underlying25 h
  rw [cellsMd] at hlen
  match cs,hlen with
  | [v0,v1,v2],_ =>
  match xs,hxl with
  | [y0,y1,y2],_ =>
  have h0:DataW.trod enc Tryd.prog w 0 spare held n 3 [v0]=some y0 := by simpa [cellsInt] using hf 0 _ rfl
  have h1:DataW.trod enc Tryd.prog w 0 spare held n 22 [v1]=some y1 := by simpa [cellsInt,cellsCons] using hf 1 _ rfl
  have h2:DataW.trod enc Tryd.prog w 0 spare held n 23 [v2]=some y2 := by simpa [cellsInt,cellsCons,cellsRels] using hf 2 _ rfl
  obtain ⟨k,e0,_,_⟩ := DataW.trod_int Tryd.underlying3 h0
  obtain ⟨va,l1,e1,hl1⟩ := sl_one (ρ := conRep) cellsCons cellsCon Tryd.underlying22 (fun n _ cs y hy=>con_of_trod hy) h1
  obtain ⟨vb,l2,e2,hl2⟩ := sl_one (ρ := relRep) cellsRels cellsRel Tryd.underlying23 (fun n _ cs y hy=>rel_of_trod hy) h2
  simp only [List.cons.injEq,and_true] at e0 e1 e2
  subst e0 e1 e2
  exact ⟨⟨k,l1,l2⟩,v1,v2,rfl,hl1,hl2⟩
end
end

end Go.Proofs.YthfokmjpbnfihaaDoor
