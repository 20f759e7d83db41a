/- Lemmas. -/
import Derived.WalkKit
import Derived.WalkLawsBesides
import Derived.WalkSpells
import Derived.Handy
import Derived.KernelRfl
import Derived.Deep.RegionHeld3
import Derived.Deep.DrawnRows
import Derived.Deep.LoopGhost
import Derived.Deep.Slices
import Derived.ChangeSame
import Derived.Lib.Hide
import Derived.Laws.EntriesVeiled
import Derived.Deep.AppendLies
import Derived.Deep.DeepMust
import Derived.StillTailTactics
namespace Go.Proofs.YthfokmjpbnfihaaDoor
open Go Go.RowKit
set_option linter.unusedSimpArgs false
set_option linter.unusedVariables false
noncomputable section
variable {w:World} {b k:Nat} {o:Obj} {cs:Array Value} {T:TypeId}

theorem cell_keep {w':World} (h:w'.heap[b]? = w.heap[b]?) (o:Nat):w'.cell? ⟨b,o,none⟩=w.cell? ⟨b,o,none⟩ :=
  World.cell?_of_block (w := w) (w' := w') h
theorem heap_at (h:k=w.heap.size):(w.alloc o).heap[k]? = some o := by subst h; exact heap_alloc_new w o
theorem heap_old {x:Option Obj} (h:k<w.heap.size) (hx:w.heap[k]? = x):(w.alloc o).heap[k]? = x := (Below.heap_alloc w o k h).trans hx
theorem cell_heap {fr:Nat × Nat} (hb:w.heap[b]? = some (.cells cs T fr)) {j:Nat} {x:Option Value} (hx:cs[j]? = x):w.cell? ⟨b,j,none⟩=x := by
  simp [World.cell?,hb,hx]
theorem free_heap (hb:w.heap[b]? = some (.cells cs T (0,0))) (j:Nat):w.frozen? ⟨b,j,none⟩=false := by
  simp [World.frozen?,hb]
theorem lt_heap (hb:w.heap[b]? = some o):b<w.heap.size := by
  rcases Nat.lt_or_ge b w.heap.size with h' | h'
  · exact h'
  · simp [Array.getElem?_eq_none h'] at hb
def Lo (w:World):Nat→Prop := fun b=>b<w.heap.size
theorem bytes_inj {s s':ByteArray} (h:s.toList=s'.toList):s=s' := by
  rw [ByteArray.toList_eq,ByteArray.toList_eq] at h
  cases s; cases s'
  congr 1
  exact Array.toList_inj.1 h
end
noncomputable section
variable {w:World}

theorem cellv {b:Nat} {cs:Array Value} {T:TypeId} {fr:Nat × Nat} (hb:w.heap[b]? = some (.cells cs T fr)) (j:Nat) {v:Value} (hx:cs[j]? = some v):w.cell? ⟨b,j,none⟩=some v := cell_heap hb hx
theorem step_call {P:Program} {ops:Array Oper} {o:Oper} {a:Act} {K:Act→World→Prop} {Q:Exit→Act→World→Prop} {E:Prop} (hgd:o.guard=none) (f:FuncId) (args:Array Value) {R:Ending→World→Prop}
    (hrun:(execOp a.eval o).run P w=.ok (.enter f args) w) (hc:Calls P f args w R) (h:∀e w',R e w'→∃v,e=.returned v∧K (a.put o.dst v) w') :
    if Region.wanted o (yielded ops a.tmps)=true then Oper.wp P o a w K Q else E := by
  rw [if_pos (by simp [Region.wanted,hgd])]
  unfold Oper.wp
  rw [hrun,Oper.upon_enter]
  refine hc.mono fun e w' hr=>?_
  obtain ⟨v,rfl,hk⟩ := h e w' hr
  exact hk
end
noncomputable section
theorem heap_set {w:World} {b:Nat} {cs:Array Value} {T:TypeId} {fr:Nat × Nat} (h:w.heap[b]? = some (.cells cs T fr)) (i:Nat) (v:Value):(w.setCell ⟨b,i,none⟩ v).heap[b]? = some (.cells (cs.setIfInBounds i v) T fr) := by
  simp [World.setCell,Array.getElem?_modify,h]
theorem heap_far {w:World} {b k i:Nat} {x:Option Obj} (v:Value) (hne:k≠b) (h:w.heap[k]? = x):(w.setCell ⟨b,i,none⟩ v).heap[k]? = x := (Below.heap_setCell w ⟨b,i,none⟩ v k hne).trans h
theorem size_set (w:World) (a:Addr) (v:Value):(w.setCell a v).heap.size=w.heap.size := by simp [World.setCell]
structure Rep (α:Type) where
  size:Nat
  R:World→(Nat→Prop)→α→List Value→Prop
  pos:0<size
  len:∀{w S a cs},R w S a cs→cs.length=size
  one:∀{w S a cs},R w S a cs→∀u∈cs,u.oneCell'=true
  keep:∀{w w':World} {S S':Nat→Prop} {a cs},R w S a cs→(∀b,S b→w'.heap[b]? = w.heap[b]?)→(∀b,S b→S' b)→R w' S' a cs
section
variable {α:Type} (ρ:Rep α)
def Rep.All (w:World) (S:Nat→Prop):List α→List Value→Prop
  | [],xs=>xs=[]
  | a :: l,xs=>∃cs rest,xs=cs++rest∧ρ.R w S a cs∧Rep.All w S l rest
variable {ρ}
theorem Rep.All.len {w:World} {S:Nat→Prop}:∀{l:List α} {xs:List Value},ρ.All w S l xs→xs.length=l.length * ρ.size
  | [],xs,h=>by simp [Rep.All] at h; simp [h]
  | a :: l,xs,h=>by
    obtain ⟨cs,rest,rfl,h1,h2⟩ := h
    rw [List.length_append,ρ.len h1,Rep.All.len h2,List.length_cons,Nat.succ_mul,Nat.add_comm]
theorem Rep.All.keep {w w':World} {S S':Nat→Prop} (hk:∀b,S b→w'.heap[b]? = w.heap[b]?) (hS:∀b,S b→S' b):∀{l:List α} {xs:List Value},ρ.All w S l xs→ρ.All w' S' l xs
  | [],_,h=>h
  | _ :: _,_,h=>by
    obtain ⟨cs,rest,rfl,h1,h2⟩ := h
    exact ⟨cs,rest,rfl,ρ.keep h1 hk hS,Rep.All.keep hk hS h2⟩
theorem Rep.All.append {w:World} {S:Nat→Prop}:∀{l l':List α} {xs xs':List Value},ρ.All w S l xs→ρ.All w S l' xs'→ρ.All w S (l++l') (xs++xs')
  | [],_,_,_,h,h'=>by simp [Rep.All] at h; subst h; simpa using h'
  | _ :: _,_,_,_,h,h'=>by
    obtain ⟨cs,rest,rfl,h1,h2⟩ := h
    exact ⟨cs,rest++_,by simp,h1,Rep.All.append h2 h'⟩
theorem Rep.All.single {w:World} {S:Nat→Prop} {a:α} {cs:List Value} (h:ρ.R w S a cs):ρ.All w S [a] cs := ⟨cs,[],by simp,h,rfl⟩
theorem Rep.All.at_ {w:World} {S:Nat→Prop}:∀{l:List α} {xs:List Value} {k:Nat} {a:α},ρ.All w S l xs→l[k]? = some a →
    ∃cs,ρ.R w S a cs∧∀j u,cs[j]? = some u→xs[k * ρ.size+j]? = some u
  | [],_,_,_,_,e=>by simp at e
  | a :: l,xs,0,a',h,e=>by
    simp at e; subst e
    obtain ⟨cs,rest,rfl,h1,_⟩ := h
    refine ⟨cs,h1,fun j u hj=>?_⟩
    have hlt:j<cs.length := (List.getElem?_eq_some_iff.1 hj).1
    rw [Nat.zero_mul,Nat.zero_add,List.getElem?_append_left hlt]
    exact hj
  | a :: l,xs,k+1,a',h,e=>by
    obtain ⟨cs,rest,rfl,h1,h2⟩ := h
    obtain ⟨cs',h3,h4⟩ := Rep.All.at_ h2 (by simpa using e)
    refine ⟨cs',h3,fun j u hj=>?_⟩
    rw [List.getElem?_append_right (by rw [ρ.len h1,Nat.succ_mul]; omega),ρ.len h1,show (k+1) * ρ.size+j - ρ.size=k * ρ.size+j by rw [Nat.succ_mul]; omega]
    exact h4 j u hj
variable (ρ)
def Rep.Own (E:TypeId) (base:Nat) (w:World) (S:Nat→Prop) (v:Value) (l:List α):Prop :=
  ∃xs,w.ownsRow base E ρ.size v l.length xs∧ρ.All w (fun b=>S b∧v.ownBlock≠some b) l xs
variable {ρ}
theorem Rep.Own.nil {E:TypeId} {base:Nat} {w:World} {S:Nat→Prop}:ρ.Own E base w S (.slice none 0 0) [] := ⟨[],World.ownsRow_nil _ _ _ _,rfl⟩
theorem Rep.Own.keep {E:TypeId} {base:Nat} {w w':World} {S S':Nat→Prop} {v:Value} {l:List α} (h:ρ.Own E base w S v l) (hk:∀b,b<w.heap.size→w'.heap[b]? = w.heap[b]?)
    (hlo:∀b,S b→b<w.heap.size) (hS:∀b,S b→S' b):ρ.Own E base w' S' v l := by
  obtain ⟨xs,⟨h1,h2⟩,h3⟩ := h
  refine ⟨xs,⟨h1,?_⟩,h3.keep (fun b hb=>hk b (hlo b hb.1)) (fun b hb=>⟨hS b hb.1,hb.2⟩)⟩
  rcases h2 with h2 | ⟨g,cap,cur,e,hg,hh,r⟩
  · exact Or.inl h2
  · exact Or.inr ⟨g,cap,cur,e,hg,(hk g (lt_heap hh)).trans hh,r⟩
theorem Rep.Own.len {E:TypeId} {base:Nat} {w:World} {S:Nat→Prop} {v:Value} {l:List α} (h:ρ.Own E base w S v l):∃A c,v=.slice A l.length c := by
  obtain ⟨xs,⟨_,h2⟩,_⟩ := h
  rcases h2 with ⟨e,e0⟩ | ⟨g,cap,cur,e,_⟩
  · exact ⟨none,0,by rw [e,e0]⟩
  · exact ⟨_,cap,e⟩
theorem Rep.appended {E:TypeId} {base:Nat} {w w1:World} {S:Nat→Prop} {v:Value} {l l':List α} {xs news:List Value} {g cap H m:Nat}
    (hx:ρ.All w (fun b=>S b∧v.ownBlock≠some b) l xs) (hn:ρ.All w (fun b=>S b∧v.ownBlock≠some b) l' news) (hlo:∀b,S b→b<w.heap.size) (hm:m=l'.length)
    (hown:w1.ownsRow base E ρ.size (.slice (some ⟨g,0,none⟩) (l.length+m) cap) (l.length+m) (xs++news)) (hg:w.grownBy w1 v.ownBlock) (hat:v.ownBlock=some g∨g=H) (hH:w.heap.size=H) :
    ρ.Own E base w1 S (.slice (some ⟨g,0,none⟩) (l.length+m) cap) (l++l') := by
  have hk:∀b,(S b∧v.ownBlock≠some b)→w1.heap[b]? = w.heap[b]? := fun b hb=>hg.block b (hlo b hb.1) (fun e=>hb.2 e.symm)
  have hS:∀b,(S b∧v.ownBlock≠some b)→(S b∧(Value.slice (some ⟨g,0,none⟩) (l.length+m) cap).ownBlock≠some b) := by
    rintro b ⟨h1,h2⟩
    refine ⟨h1,?_⟩
    simp only [Value.ownBlock,ne_eq,Option.some.injEq]
    rintro rfl
    rcases hat with hat | hat
    · exact h2 hat
    · have := hlo _ h1; omega
  subst hm
  exact ⟨xs++news,by simpa using hown,(hx.keep hk hS).append (hn.keep hk hS)⟩
theorem Rep.Own.grow {E:TypeId} {base:Nat} {w w':World} {v:Value} {l:List α} (h:ρ.Own E base w (fun b=>base≤b∧b<w.heap.size) v l) (hk:∀b,base≤b→b<w.heap.size→w'.heap[b]? = w.heap[b]?) (hs:w.heap.size≤w'.heap.size) :
    ρ.Own E base w' (fun b=>base≤b∧b<w'.heap.size) v l := by
  obtain ⟨xs,⟨h1,h2⟩,h3⟩ := h
  refine ⟨xs,⟨h1,?_⟩,h3.keep (fun b hb=>hk b hb.1.1 hb.1.2) (fun b hb=>⟨⟨hb.1.1,by omega⟩,hb.2⟩)⟩
  rcases h2 with h2 | ⟨g,cap,cur,e,hg,hh,r⟩
  · exact Or.inl h2
  · exact Or.inr ⟨g,cap,cur,e,hg,(hk g hg (lt_heap hh)).trans hh,r⟩
theorem Rep.appended1 {E:TypeId} {base:Nat} {w w1:World} {S T:Nat→Prop} {v:Value} {l:List α} {a:α} {xs news:List Value} {g cap H:Nat}
    (hx:ρ.All w (fun b=>S b∧v.ownBlock≠some b) l xs) (hn:ρ.R w T a news) (hT:∀b,T b→S b∧v.ownBlock≠some b) (hlo:∀b,S b→b<w.heap.size)
    (hown:w1.ownsRow base E ρ.size (.slice (some ⟨g,0,none⟩) (l.length+1) cap) (l.length+1) (xs++news)) (hg:w.grownBy w1 v.ownBlock) (hat:v.ownBlock=some g∨g=H) (hH:w.heap.size=H) :
    ρ.Own E base w1 S (.slice (some ⟨g,0,none⟩) (l.length+1) cap) (l++[a]) :=
  Rep.appended hx (Rep.All.single (ρ.keep hn (fun _ _=>rfl) hT)) hlo rfl hown hg hat hH
theorem Rep.step {E:TypeId} {base:Nat} {w1 w3:World} {T:Nat→Prop} {v:Value} {l:List α} {a:α} {xs news:List Value} {g cap n:Nat} {o:Obj} (hl:l.length=n)
    (hall:ρ.All w1 (fun b=>(base≤b∧b<w1.heap.size)∧v.ownBlock≠some b) l xs) (hn:ρ.R w1 T a news) (hT:∀b,T b→(base≤b∧b<w1.heap.size)∧v.ownBlock≠some b)
    (hown:w3.ownsRow base E ρ.size (.slice (some ⟨g,0,none⟩) (n+1) cap) (n+1) (xs++news)) (hg:(w1.alloc o).grownBy w3 v.ownBlock) (hat:v.ownBlock=some g∨g=w1.heap.size+1) :
    ρ.Own E base w3 (fun b=>base≤b∧b<w3.heap.size) (.slice (some ⟨g,0,none⟩) (n+1) cap) (l++[a]) := by
  subst hl
  have hk:∀b,((base≤b∧b<w1.heap.size)∧v.ownBlock≠some b)→(w1.alloc o).heap[b]? = w1.heap[b]? := fun b hb=>Below.heap_alloc w1 o b hb.1.2
  have hsz:w1.heap.size+1≤w3.heap.size := by have := hg.size; simpa using this
  have h := Rep.appended1 (w := w1.alloc o) (H := w1.heap.size+1) (S := fun b=>base≤b∧b<w1.heap.size) (T := T) (hall.keep hk (fun _ h=>h)) (ρ.keep hn (fun b hb=>hk b (hT b hb)) (fun _ h=>h)) hT (fun b hb=>by simp; omega) hown hg hat (by simp)
  exact h.keep (fun _ _=>rfl) (fun b hb=>by omega) (fun b hb=>⟨hb.1,by omega⟩)
variable (ρ)
def Rep.Sl (w:World) (S:Nat→Prop) (v:Value) (l:List α):Prop :=
  ∃A n c,v=.slice A n c∧l.length=n∧n≤maxLen∧(0<n→∃b o xs,A=some ⟨b,o,none⟩∧S b∧ρ.All w S l xs∧∀j u,xs[j]? = some u→w.cell? ⟨b,o+j,none⟩=some u)
variable {ρ}
theorem Rep.Sl.keep {w w':World} {S S':Nat→Prop} {v:Value} {l:List α} (h:ρ.Sl w S v l) (hk:∀b,S b→w'.heap[b]? = w.heap[b]?) (hS:∀b,S b→S' b):ρ.Sl w' S' v l := by
  obtain ⟨A,n,c,e,hl,hn,hA⟩ := h
  refine ⟨A,n,c,e,hl,hn,fun hp=>?_⟩
  obtain ⟨b,o,xs,eA,hb,hx,hc⟩ := hA hp
  exact ⟨b,o,xs,eA,hS b hb,hx.keep hk hS,fun j u hj=>(cell_keep (hk b hb) _).trans (hc j u hj)⟩
theorem Rep.Sl.nil {w:World} {S:Nat→Prop} {A:Option Addr} {c:Nat}:ρ.Sl w S (.slice A 0 c) [] := ⟨A,0,c,rfl,rfl,by omega,by omega⟩
theorem Rep.Sl.at_ {w:World} {S:Nat→Prop} {A:Option Addr} {n c k:Nat} {l:List α} {a:α} (h:ρ.Sl w S (.slice A n c) l) (hk:l[k]? = some a) :
    ∃b o cs,A=some ⟨b,o,none⟩∧S b∧ρ.R w S a cs∧∀j u,cs[j]? = some u→w.cell? ⟨b,o+k * ρ.size+j,none⟩=some u := by
  obtain ⟨A',n',c',e,hl,hn,hA⟩ := h
  injection e with e1 e2 e3
  subst e1 e2 e3
  have hlt:k<l.length := (List.getElem?_eq_some_iff.1 hk).1
  obtain ⟨b,o,xs,eA,hb,hx,hc⟩ := hA (by omega)
  obtain ⟨cs,h1,h2⟩ := hx.at_ hk
  exact ⟨b,o,cs,eA,hb,h1,fun j u hj=>by rw [Nat.add_assoc]; exact hc _ u (h2 j u hj)⟩
theorem Rep.Own.sl {E:TypeId} {base:Nat} {w:World} {S S':Nat→Prop} {v:Value} {l:List α} (h:ρ.Own E base w S v l) (hm:l.length≤maxLen) (hS:∀b,S b→S' b) (hg:∀b,base≤b→b<w.heap.size→S' b):ρ.Sl w S' v l := by
  obtain ⟨A,c,rfl⟩ := h.len
  refine ⟨A,l.length,c,rfl,rfl,hm,fun hp=>?_⟩
  obtain ⟨xs,h1,h2⟩ := h
  obtain ⟨g,cap,e,hb,hlt⟩ := h1.form hp
  injection e with e1 _ _
  subst e1
  refine ⟨g,0,xs,rfl,hg g hb hlt,h2.keep (fun _ _=>rfl) (fun b hb=>hS b hb.1),fun j u hj=>?_⟩
  have := h1.cells (g := g) rfl j u hj
  rw [Nat.zero_add]
  rw [← this]
  congr 1
  unfold Addr.add; split <;> simp_all
end
end
noncomputable section
theorem gen_last {f:World→Prop} {w:World} (P:World→Prop) (h:P w) (k:∀wx,P wx→f wx):f w := k w h
theorem heap_drew {w:World} {k:Nat} {x:Option Obj} (h:w.heap[k]? = x):w.drew.heap[k]? = x := h
section
variable {w w0:World} {b k B:Nat} {T:TypeId} {x:Option Obj} {a0 a1 a2 a3 a4 a5 v0 v1 v2 v3 v4 v5:Value}
theorem at2 (h:w.heap[b]? = some (.cells #[a0,a1] T (0,0))):((w.setCell ⟨b,0,none⟩ v0).setCell ⟨b,1,none⟩ v1).heap[b]? = some (.cells #[v0,v1] T (0,0)) :=
  heap_set (heap_set h 0 v0) 1 v1
theorem far2 (h:k≠b) (hx:w.heap[k]? = x):((w.setCell ⟨b,0,none⟩ v0).setCell ⟨b,1,none⟩ v1).heap[k]? = x := heap_far _ h (heap_far _ h hx)
theorem below2 (h:Below B w0 w) (hb:B≤b):Below B w0 ((w.setCell ⟨b,0,none⟩ v0).setCell ⟨b,1,none⟩ v1) := (h.setCell hb v0).setCell hb v1
end
end

end Go.Proofs.YthfokmjpbnfihaaDoor
