/- Lemmas. -/
import Derived.Test.YthfokmjpbnfihaaDoorIzj
import Derived.Test.YthfokmjpbnfihaaDoorIzi
namespace Go.Proofs.YthfokmjpbnfihaaDoor
open Go Go.RowKit
set_option linter.unusedSimpArgs false
set_option linter.unusedVariables false
noncomputable section
open Go Go.RowKit Go.ChangeShapes Go.WideShapes Go.Deep
set_option maxRecDepth 100000

theorem cellsFm:Tryd.prog.cellsOf 29=4 := by kernel_rfl
theorem cellsFms:Tryd.prog.cellsOf 27=1 := by kernel_rfl
theorem cellsStrs:Tryd.prog.cellsOf 26=1 := by kernel_rfl
section
variable {H:Type} {enc:TypeId × Value→H} {w:World} {spare:Nat→Bool} {held:Bool}
theorem str_of_trod {fuel:Nat} {cs:List Value} {x:DataW H × List MemPlace} (h:DataW.trod enc Tryd.prog w 0 spare held fuel 9 cs=some x):∃a,strRep.R w (Lo w) a cs := by
  obtain ⟨s,e0,_,hs⟩ := DataW.trod_string Tryd.underlying9 h
  exact ⟨s,e0,hs⟩
theorem strs_of_trod {fuel:Nat} {v:Value} {x:DataW H × List MemPlace} (h:DataW.trod enc Tryd.prog w 0 spare held fuel 26 [v]=some x):∃l A n c,v=.slice A n c∧n≤c∧strRep.Sl w (Lo w) v l := by
  obtain ⟨l,hl⟩ := sl_of_trod (ρ := strRep) cells9 Tryd.underlying26 (fun n _ cs y hy=>str_of_trod hy) h
  rcases DataW.trod_slice Tryd.underlying26 h with ⟨e1,_⟩ | ⟨a,len,cap,elems,rest,n',hn',e1,_,_,hlc,_⟩
  · simp only [List.cons.injEq,and_true] at e1
    exact ⟨l,_,_,_,e1,by omega,hl⟩
  · simp only [List.cons.injEq,and_true] at e1
    exact ⟨l,_,_,_,e1,hlc,hl⟩
theorem fm_of_trod:∀(fuel:Nat) (cs:List Value) (x:DataW H × List MemPlace),DataW.trod enc Tryd.prog w 0 spare held fuel 29 cs=some x→∃t,fmRepC.R w (Lo w) t cs := by
  intro fuel
  induction fuel using Nat.strongRecOn with
  | _ fuel ih =>
  intro cs x h
  obtain ⟨xs,n,hn,hx,hlen,hxl,hf⟩ := DataW.trod_struct Tryd.underlying29 h
  rw [cellsFm] at hlen
  match cs,hlen with
  | [v0,v1,v2,v3],_ =>
  match xs,hxl with
  | [y0,y1,y2,y3],_ =>
  have h0:DataW.trod enc Tryd.prog w 0 spare held n 3 [v0]=some y0 := by simpa [cellsInt] using hf 0 _ rfl
  have h1:DataW.trod enc Tryd.prog w 0 spare held n 9 [v1]=some y1 := by simpa [cells9] using hf 1 _ rfl
  have h2:DataW.trod enc Tryd.prog w 0 spare held n 26 [v2]=some y2 := by simpa [cellsStrs] using hf 2 _ rfl
  have h3:DataW.trod enc Tryd.prog w 0 spare held n 27 [v3]=some y3 := by simpa [cellsFms] using hf 3 _ rfl
  obtain ⟨k,e0,_,_⟩ := DataW.trod_int Tryd.underlying3 h0
  obtain ⟨s,e1,_,hs⟩ := DataW.trod_string Tryd.underlying9 h1
  obtain ⟨ws,A,m,c,rfl,hmc,hw⟩ := strs_of_trod h2
  simp only [List.cons.injEq,and_true] at e0 e1
  subst e0 e1
  obtain ⟨l,hl⟩ := sl_of_trod (ρ := fmRepC) cellsFm Tryd.underlying27 (fun m hm cs y hy=>ih m (by omega) cs y hy) h3
  exact ⟨.mk ⟨k,s,ws⟩ l,Tree.In_iff.2 ⟨[.int .i64 k,.string s,.slice A m c],v3,rfl,⟨⟨_,rfl,hs,hw⟩,A,m,c,rfl,hmc⟩,hl⟩⟩
end
end

end Go.Proofs.YthfokmjpbnfihaaDoor
