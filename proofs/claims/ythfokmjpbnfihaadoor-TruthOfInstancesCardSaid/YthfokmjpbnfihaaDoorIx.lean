/- Lemmas. -/
import Derived.Test.YthfokmjpbnfihaaDoorIw
namespace Go.Proofs.YthfokmjpbnfihaaDoor
open Go Go.RowKit
set_option linter.unusedSimpArgs false
set_option linter.unusedVariables false
noncomputable section
structure Fra (PP:Nat→Prop) (c:Nat) (w w':World) (vs v':Value):Prop where
  keep:∀k,k<w.heap.size→¬ PP k→k≠c→vs.ownBlock≠some k→w'.heap[k]? = w.heap[k]?
  at_:∀k,v'.ownBlock=some k→vs.ownBlock=some k∨w.heap.size≤k
  size:w.heap.size≤w'.heap.size
theorem CY.subK {tt:List Fm} {PP:Nat→Prop} {vw vs:Value} {ws:List ByteArray} {x:ByteArray} {wo w:World} {kd:Int} {nm:ByteArray} {A B:Option Addr} {n1 c1 n2 c2:Nat} {w2 w3:World} {g cap:Nat} {t:Fm} {es xs:List Value} {o:Obj} (h:CY PP wo w vw ws x vs kd nm A n1 c1 B n2 c2) (hrow:w.ownsRow (wo.heap.size+3) 29 4 vs tt.length xs) (hall:fmRep.All w (fun b=>(wo.heap.size+3≤b∧b<w.heap.size)∧vs.ownBlock≠some b) tt xs) (hb2:Keeps PP w w2) (hes:fmRep.R w2 (fun b=>w.heap.size≤b∧b<w2.heap.size) t es)
    (hown:w3.ownsRow (wo.heap.size+3) 29 4 (.slice (some ⟨g,0,none⟩) (tt.length+1) cap) (tt.length+1) (xs++es)) (hg:(w2.alloc o).grownBy w3 vs.ownBlock) (hat:vs.ownBlock=some g∨g=w2.heap.size+1) :
    w3.heap[wo.heap.size+2]? = some (.cells #[.int .i64 kd,.string x,vw,vs] 29 (0,0))∧CY PP wo (w3.setCell ⟨wo.heap.size+2,3,none⟩ (.slice (some ⟨g,0,none⟩) (tt.length+1) cap)) vw ws x (.slice (some ⟨g,0,none⟩) (tt.length+1) cap) kd nm A n1 c1 B n2 c2∧fmRep.Own 29 (wo.heap.size+3) (w3.setCell ⟨wo.heap.size+2,3,none⟩ (.slice (some ⟨g,0,none⟩) (tt.length+1) cap)) (fun b=>wo.heap.size+3≤b∧b<(w3.setCell ⟨wo.heap.size+2,3,none⟩ (.slice (some ⟨g,0,none⟩) (tt.length+1) cap)).heap.size) (.slice (some ⟨g,0,none⟩) (tt.length+1) cap) (tt++[t])∧(∀k,k<wo.heap.size→(w3.setCell ⟨wo.heap.size+2,3,none⟩ (.slice (some ⟨g,0,none⟩) (tt.length+1) cap)).heap[k]? = w2.heap[k]?)∧Fra PP (wo.heap.size+2) w (w3.setCell ⟨wo.heap.size+2,3,none⟩ (.slice (some ⟨g,0,none⟩) (tt.length+1) cap)) vs (.slice (some ⟨g,0,none⟩) (tt.length+1) cap) := by
  have hc := lt_heap h.c
  have hz2 := hb2.size
  have h2 := h.keeps hb2
  have hB:∀b,wo.heap.size≤b→b<w.heap.size→w2.heap[b]? = w.heap[b]? := fun b h1 h2=>hb2.block b h2 (fun e=>by have := h.p b e; omega)
  have hge:∀k,vs.ownBlock=some k→wo.heap.size+3≤k∧k<w.heap.size := fun k e=>hrow.lt k e
  have hk:∀k,k<w2.heap.size→vs.ownBlock≠some k→w3.heap[k]? = w2.heap[k]? := fun k h1 h2=>(hg.block k (by simp; omega) (fun e=>h2 e.symm)).trans (heap_old h1 rfl)
  have hne:∀k,k<wo.heap.size+3→vs.ownBlock≠some k := fun k hk e=>by have := (hge k e).1; omega
  have hc3 := (hk (wo.heap.size+2) (by omega) (hne _ (by omega))).trans h2.c
  have hsz:w2.heap.size+1≤w3.heap.size := by have := hg.size; simpa using this
  have hgg := (hown.lt g rfl).1
  have hrow2:w2.ownsRow (wo.heap.size+3) 29 4 vs tt.length xs := by
    obtain ⟨q1,q2⟩ := hrow
    refine ⟨q1,?_⟩
    rcases q2 with q2 | ⟨g',cap',cur,e,q3,hh,r⟩
    · exact Or.inl q2
    · exact Or.inr ⟨g',cap',cur,e,q3,(hB g' (by omega) (lt_heap hh)).trans hh,r⟩
  have hvw := rows_ne h2.rw hrow2 (by decide)
  have hst := Rep.step (ρ := fmRep) (base := wo.heap.size+3) (w1 := w2) (w3 := w3) (T := fun b=>w.heap.size≤b∧b<w2.heap.size) (v := vs) (o := o) rfl (hall.keep (fun b hb=>hB b (by omega) hb.1.2) (fun b hb=>⟨⟨hb.1.1,by have := hb.1.2; omega⟩,hb.2⟩)) hes (fun b hb=>⟨⟨by have := hb.1; omega,hb.2⟩,fun e=>by have := (hge b e).2; have := hb.1; omega⟩) hown hg hat
  have hbs := h2.b.size
  refine ⟨hc3,⟨?_,?_,?_,?_,?_,h.p⟩,?_,?_,?_⟩
  · exact heap_far _ (by omega) ((hk _ (by omega) (hne _ (by omega))).trans h2.a)
  · exact heap_far _ (by omega) ((hk _ (by omega) (hne _ (by omega))).trans h2.z)
  · have := heap_set hc3 3 (.slice (some ⟨g,0,none⟩) (tt.length+1) cap)
    simpa using this
  · exact rowGrownF (rowGrownF h2.rw (fun b hb e=>hk b hb (hvw b e))) (fun b _ e=>heap_far _ (by have := (h2.rw.lt b e).1; omega) rfl)
  · refine ⟨hg.os.trans h2.b.os,hg.tape.trans h2.b.tape,hg.output.trans h2.b.output,by rw [size_set]; omega,fun k hk1 hk2=>?_⟩
    exact (heap_far _ (by omega) (hk k (by omega) (hne k (by omega)))).trans (h2.b.block k hk1 hk2)
  · have := hst.grow (w' := w3.setCell ⟨wo.heap.size+2,3,none⟩ (.slice (some ⟨g,0,none⟩) (tt.length+1) cap)) (fun b hb1 _=>heap_far _ (by omega) rfl) (by rw [size_set]; omega)
    exact this
  · exact fun k hk1=>heap_far _ (by omega) (hk k (by omega) (hne k (by omega)))
  · refine ⟨fun k h1 h2 h3 h4=>heap_far _ h3 ((hk k (by omega) h4).trans (hb2.block k h1 h2)),fun k e=>?_,by rw [size_set]; omega⟩
    have e:g=k := Option.some.inj e
    subst e
    rcases hat with e | e
    · exact Or.inl e
    · exact Or.inr (by omega)
end

end Go.Proofs.YthfokmjpbnfihaaDoor
