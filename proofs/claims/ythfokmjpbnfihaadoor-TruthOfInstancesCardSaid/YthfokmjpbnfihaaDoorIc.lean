/- Lemmas. -/
import Derived.Test.YthfokmjpbnfihaaDoorIa
namespace Go.Proofs.YthfokmjpbnfihaaDoor
open Go Go.RowKit
set_option linter.unusedSimpArgs false
set_option linter.unusedVariables false
noncomputable section
variable {α:Type}

def cutN {α:Type} (f:α→Int) (l:List α):Nat := (l.takeWhile (fun x=>decide (f x<0))).length
def hitN {α:Type} (f:α→Int) (l:List α):Bool := (l[cutN f l]?).any (fun x=>decide (f x=0))
theorem cutN_eq (f:α→Int):∀(l:List α) (i:Nat),i≤l.length→(∀k (h:k<l.length),k<i→f l[k]<0)→(∀h:i<l.length,¬ f l[i]<0)→cutN f l=i
  | [],i,h,_,_=>by simp at h; simp [cutN,h]
  | a :: l,0,_,_,h2=>by
    unfold cutN
    rw [List.takeWhile_cons,if_neg]
    · rfl
    · have h3:¬ f a<0 := h2 (Nat.succ_pos _)
      simpa using h3
  | a :: l,i+1,h,h1,h2=>by
    have ih := cutN_eq f l i (by simpa using h) (fun k hk hki=>h1 (k+1) (Nat.succ_lt_succ hk) (by omega)) (fun hi=>h2 (Nat.succ_lt_succ hi))
    have ha:f a<0 := h1 0 (Nat.succ_pos _) (by omega)
    unfold cutN at ih ⊢
    rw [List.takeWhile_cons,if_pos (by simpa using ha),List.length_cons,ih]
theorem hitN_at (f:α→Int) (l:List α) (h:cutN f l<l.length):hitN f l=decide (f l[cutN f l]=0) := by
  unfold hitN
  rw [List.getElem?_eq_getElem h]; rfl
theorem hitN_end (f:α→Int) (l:List α) (h:¬ cutN f l<l.length):hitN f l=false := by
  unfold hitN
  rw [List.getElem?_eq_none (by omega)]; rfl
end
noncomputable section
theorem cv0 {w:World} {b:Nat} {x:Value} {l:List Value} {T:TypeId} {fr:Nat × Nat} (hb:w.heap[b]? = some (.cells (x :: l).toArray T fr)):w.cell? ⟨b,0,none⟩=some x := cell_heap hb rfl
theorem cv1 {w:World} {b:Nat} {y0 x:Value} {l:List Value} {T:TypeId} {fr:Nat × Nat} (hb:w.heap[b]? = some (.cells (y0 :: x :: l).toArray T fr)):w.cell? ⟨b,1,none⟩=some x := cell_heap hb rfl
theorem cv2 {w:World} {b:Nat} {y0 y1 x:Value} {l:List Value} {T:TypeId} {fr:Nat × Nat} (hb:w.heap[b]? = some (.cells (y0 :: y1 :: x :: l).toArray T fr)):w.cell? ⟨b,2,none⟩=some x := cell_heap hb rfl
def strRep:Rep ByteArray where
  size := 1
  R _ _ s cs := cs=[.string s]∧s.size≤maxLen
  pos := by omega
  len := by rintro w S a cs ⟨rfl,_⟩; rfl
  one := by rintro w S a cs ⟨rfl,_⟩ u hu; simp at hu; subst hu; rfl
  keep := by rintro w w' S S' a cs h _ _; exact h
inductive Tree (L:Type) where
  | mk (l:L) (kids:List (Tree L))
def Tree.lab {L:Type}:Tree L→L | .mk a _=>a
def Tree.kids {L:Type}:Tree L→List (Tree L) | .mk _ l=>l
mutual
def Tree.nodes {L:Type}:Tree L→Nat
  | .mk _ l=>1+Tree.nodess l
def Tree.nodess {L:Type}:List (Tree L)→Nat
  | []=>0
  | t :: l=>t.nodes+Tree.nodess l
end
section
variable {L:Type}
theorem Tree.nodes_at:∀(l:List (Tree L)) (j:Nat) (h:j<l.length),l[j].nodes≤Tree.nodess l
  | t :: l,0,_=>by simp [Tree.nodess]
  | t :: l,j+1,h=>by
    have := Tree.nodes_at l j (by simpa using h)
    simp [Tree.nodess]; omega
theorem Tree.nodess_len:∀(l:List (Tree L)),l.length≤Tree.nodess l
  | []=>by simp [Tree.nodess]
  | t :: l=>by
    have := Tree.nodess_len l
    cases t
    simp [Tree.nodess,Tree.nodes]; omega
theorem Tree.nodes_pos (t:Tree L):0<t.nodes := by cases t; simp [Tree.nodes]; omega
variable (ρ:Rep L)
mutual
def Tree.In (w:World) (S:Nat→Prop):Tree L→List Value→Prop
  | .mk a l,cs=>∃hs A n c,cs=hs++[.slice A n c]∧ρ.R w S a hs∧l.length=n∧n≤maxLen∧(0<n→∃b o,A=some ⟨b,o,none⟩∧S b∧Tree.Ins w S l b o)
def Tree.Ins (w:World) (S:Nat→Prop):List (Tree L)→Nat→Nat→Prop
  | [],_,_=>True
  | t :: l,b,o=>∃cs,(∀j u,cs[j]? = some u→w.cell? ⟨b,o+j,none⟩=some u)∧Tree.In w S t cs∧Tree.Ins w S l b (o+(ρ.size+1))
end
variable {ρ}
theorem Tree.In_len {w:World} {S:Nat→Prop} {t:Tree L} {cs:List Value} (h:Tree.In ρ w S t cs):cs.length=ρ.size+1 := by
  cases t
  unfold Tree.In at h
  obtain ⟨hs,A,n,c,rfl,h1,_⟩ := h
  simp [ρ.len h1]
mutual
theorem Tree.In_keep {w w':World} {S S':Nat→Prop} (h:∀b,S b→w'.heap[b]? = w.heap[b]?) (hS:∀b,S b→S' b):∀(t:Tree L) (cs:List Value),Tree.In ρ w S t cs→Tree.In ρ w' S' t cs
  | .mk a l,cs,hh=>by
    unfold Tree.In at hh ⊢
    obtain ⟨hs,A,n,c,h0,h1,h2,h3,h4⟩ := hh
    refine ⟨hs,A,n,c,h0,ρ.keep h1 h hS,h2,h3,fun hn=>?_⟩
    obtain ⟨b,o,e,hb,hi⟩ := h4 hn
    exact ⟨b,o,e,hS b hb,Tree.Ins_keep h hS l b o hb hi⟩
theorem Tree.Ins_keep {w w':World} {S S':Nat→Prop} (h:∀b,S b→w'.heap[b]? = w.heap[b]?) (hS:∀b,S b→S' b):∀(l:List (Tree L)) (b o:Nat),S b→Tree.Ins ρ w S l b o→Tree.Ins ρ w' S' l b o
  | [],_,_,_,_=>by unfold Tree.Ins; trivial
  | t :: l,b,o,hb,hh=>by
    unfold Tree.Ins at hh ⊢
    obtain ⟨cs,h0,h1,h2⟩ := hh
    exact ⟨cs,fun j u hj=>(cell_keep (h b hb) _).trans (h0 j u hj),Tree.In_keep h hS t cs h1,Tree.Ins_keep h hS l b _ hb h2⟩
end
variable (ρ)
def treeRep:Rep (Tree L) where
  size := ρ.size+1
  R w S t cs := Tree.In ρ w S t cs
  pos := by omega
  len := by intro w S a cs h; exact Tree.In_len h
  one := by
    intro w S a cs h u hu
    cases a
    unfold Tree.In at h
    obtain ⟨hs,A,n,c,rfl,h1,_⟩ := h
    rcases List.mem_append.1 hu with hu | hu
    · exact ρ.one h1 u hu
    · simp at hu; subst hu; rfl
  keep := by intro w w' S S' a cs h hk hS; exact Tree.In_keep hk hS _ _ h
variable {ρ}
theorem Tree.Ins_iff {w:World} {S:Nat→Prop}:∀{l:List (Tree L)} {b o:Nat},Tree.Ins ρ w S l b o ↔ ∃xs,(treeRep ρ).All w S l xs∧∀j u,xs[j]? = some u→w.cell? ⟨b,o+j,none⟩=some u
  | [],b,o=>by
    constructor
    · intro _; exact ⟨[],rfl,by simp⟩
    · intro _; unfold Tree.Ins; trivial
  | t :: l,b,o=>by
    constructor
    · intro h
      unfold Tree.Ins at h
      obtain ⟨cs,h0,h2,h3⟩ := h
      obtain ⟨xs,hx,hc⟩ := Tree.Ins_iff.1 h3
      refine ⟨cs++xs,⟨cs,xs,rfl,h2,hx⟩,fun j u hj=>?_⟩
      have hl := Tree.In_len h2
      by_cases hlt:j<cs.length
      · rw [List.getElem?_append_left hlt] at hj
        exact h0 j u hj
      · rw [List.getElem?_append_right (by omega)] at hj
        have := hc _ u hj
        rw [← this]; congr 2; omega
    · rintro ⟨xs,hx,hc⟩
      obtain ⟨cs,rest,rfl,h2,h3⟩ := hx
      have hl:cs.length=ρ.size+1 := Tree.In_len h2
      unfold Tree.Ins
      refine ⟨cs,fun j u hj=>hc j u ?_,h2,Tree.Ins_iff.2 ⟨rest,h3,fun j u hj=>?_⟩⟩
      · have hlt:j<cs.length := (List.getElem?_eq_some_iff.1 hj).1
        rw [List.getElem?_append_left hlt]; exact hj
      · have := hc (j+(ρ.size+1)) u (by rw [List.getElem?_append_right (by omega)]; simpa [hl] using hj)
        rw [← this]; congr 2; omega
theorem Tree.In_iff {w:World} {S:Nat→Prop} {a:L} {l:List (Tree L)} {cs:List Value}:Tree.In ρ w S (.mk a l) cs ↔ ∃hs v,cs=hs++[v]∧ρ.R w S a hs∧(treeRep ρ).Sl w S v l := by
  constructor
  · intro h
    unfold Tree.In at h
    obtain ⟨hs,A,n,c,h0,h1,h2,h3,h4⟩ := h
    refine ⟨hs,_,h0,h1,A,n,c,rfl,h2,h3,fun hp=>?_⟩
    obtain ⟨b,o,e,hS,hi⟩ := h4 hp
    obtain ⟨xs,hx,hc⟩ := Tree.Ins_iff.1 hi
    exact ⟨b,o,xs,e,hS,hx,hc⟩
  · rintro ⟨hs,v,rfl,h1,A,n,c,rfl,h3,h4,h5⟩
    unfold Tree.In
    refine ⟨hs,A,n,c,rfl,h1,h3,h4,fun hp=>?_⟩
    obtain ⟨b,o,xs,e,hS,hx,hc⟩ := h5 hp
    exact ⟨b,o,e,hS,Tree.Ins_iff.2 ⟨xs,hx,hc⟩⟩
/-! The words of Rep for a thing that lies in cells. -/
variable {α:Type} {τ:Rep α}
theorem Rep.mono {w:World} {S S':Nat→Prop} {a:α} {cs:List Value} (h:τ.R w S a cs) (hS:∀b,S b→S' b):τ.R w S' a cs := τ.keep h (fun _ _=>rfl) hS
end
/-! ### Equality of trees -/
end

end Go.Proofs.YthfokmjpbnfihaaDoor
