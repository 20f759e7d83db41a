/- Lemmas. -/
import Derived.Test.YthfokmjpbnfihaaDoorWa
import Derived.WalkSmall
namespace Go.Proofs.YthfokmjpbnfihaaDoor
open Go Go.RowKit
set_option linter.unusedSimpArgs false
set_option linter.unusedVariables false
noncomputable section
def isLow (c:UInt8):Bool := decide (97≤c.toNat) && decide (c.toNat≤122)
def isOther (c:UInt8):Bool := (decide (48≤c.toNat) && decide (c.toNat≤57)) || decide (c.toNat=95) || decide (c.toNat=45)
def okName (s:ByteArray):Bool := decide (1≤s.size) && decide (s.size≤30) && isLow (s.data.toList.headD 0) && s.data.toList.all (fun c=>isLow c || isOther c)
end
noncomputable section
section
variable {α:Type} {ρ:Rep α}
theorem Rep.Own.pop {E:TypeId} {base n:Nat} {w:World} {S:Nat→Prop} {v:Value} {l:List α} {a:α} (h:ρ.Own E base w S v (l++[a])) (hn:l.length=n) :
    ∃g cap cs,v=.slice (some ⟨g,0,none⟩) (n+1) cap∧n+1≤cap∧base≤g∧g<w.heap.size∧ρ.R w S a cs∧(∀j u,cs[j]?=some u→w.cell? ⟨g,n * ρ.size+j,none⟩=some u)∧(∀j,w.frozen? ⟨g,j,none⟩=false) ∧
      ρ.Own E base w S (.slice (some ⟨g,0,none⟩) n cap) l := by
  subst hn
  obtain ⟨xs,h1,h2⟩ := h
  rw [List.length_append,List.length_singleton] at h1
  obtain ⟨g,cap,rfl,hg,hlt⟩ := h1.form (by omega)
  have hsplit:∃ys cs,xs=ys++cs∧ρ.All w (fun b=>S b∧(Value.slice (some ⟨g,0,none⟩) (l.length+1) cap).ownBlock≠some b) l ys∧ρ.R w (fun b=>S b∧(Value.slice (some ⟨g,0,none⟩) (l.length+1) cap).ownBlock≠some b) a cs := by
    clear h1 hlt
    revert xs
    induction l with
    | nil =>
      intro xs h2
      obtain ⟨cs,rest,rfl,h3,h4⟩ := h2
      simp only [Rep.All] at h4
      subst h4
      exact ⟨[],cs,by simp,rfl,h3⟩
    | cons b l ih =>
      intro xs h2
      obtain ⟨cs,rest,rfl,h3,h4⟩ := h2
      have h5:ρ.All w (fun b=>S b∧(Value.slice (some ⟨g,0,none⟩) (l.length+1) cap).ownBlock≠some b) (l++[a]) rest := h4
      obtain ⟨ys,cs',rfl,h6,h7⟩ := ih rest h5
      exact ⟨cs++ys,cs',by simp,⟨cs,ys,rfl,h3,h6⟩,h7⟩
  obtain ⟨ys,cs,rfl,h3,h4⟩ := hsplit
  have hys:ys.length=l.length * ρ.size := h3.len
  have hcap:l.length+1≤cap := by
    rcases h1.2 with ⟨h',_⟩ | ⟨g',cap',cur,h',_,_,h5,_⟩
    · cases h'
    · cases h'; exact h5
  refine ⟨g,cap,cs,rfl,hcap,hg,hlt,ρ.keep h4 (fun _ _=>rfl) (fun _ h=>h.1),?_,fun j=>h1.frozenAt j,ys,ownsRow_pop hys h1,h3.keep (fun _ _=>rfl) (fun _ h=>h)⟩
  intro j u hj
  have hlen:cs.length=ρ.size := ρ.len h4
  have hjlt:j<cs.length := (List.getElem?_eq_some_iff.1 hj).1
  rw [h1.cellAt _ (by rw [Nat.succ_mul]; omega),List.getElem?_append_right (by omega),hys,show l.length * ρ.size+j - l.length * ρ.size=j by omega]
  exact hj
theorem Rep.Own.lit {E:TypeId} {base n k:Nat} {w w':World} {S:Nat→Prop} {l:List α} {cs:Array Value} (hl:l.length=n) (hm:n≤maxLen) (hall:ρ.All w S l cs.toList) (hb:base≤w.heap.size) (hS:∀b,S b→b<w.heap.size) (hw:w'=w.alloc (.cells cs E)) (hk:k=w.heap.size) :
    ρ.Own E base w' S (.slice (some ⟨k,0,none⟩) n n) l := by
  subst hl hw hk
  have hlen := hall.len
  refine ⟨cs.toList,World.ownsRow_lit w cs l.length hb hm (by simpa using hlen),hall.keep (fun b hb=>Below.heap_alloc _ _ b (hS b hb)) (fun b hb=>⟨hb,?_⟩)⟩
  simp only [Value.ownBlock,ne_eq,Option.some.injEq]
  have := hS b hb
  omega
end
end

end Go.Proofs.YthfokmjpbnfihaaDoor
