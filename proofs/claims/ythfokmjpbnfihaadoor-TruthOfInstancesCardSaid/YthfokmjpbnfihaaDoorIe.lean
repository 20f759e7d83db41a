/- Lemmas. -/
import Derived.Test.YthfokmjpbnfihaaDoorIa
namespace Go.Proofs.YthfokmjpbnfihaaDoor
open Go Go.RowKit
set_option linter.unusedSimpArgs false
set_option linter.unusedVariables false
noncomputable section
variable {xs:List Value} {n k id:Nat} {l:List (Nat × Value)} {Q:Exit→Act→World→Prop} {w:World}

def sub:List Nat→Code→Code
  | [],c=>c
  | 0 :: p,.seq a _=>sub p a
  | 1 :: p,.seq _ b=>sub p b
  | 0 :: p,.cond _ a _=>sub p a
  | 1 :: p,.cond _ _ b=>sub p b
  | 0 :: p,.block _ a=>sub p a
  | 0 :: p,.scope a=>sub p a
  | 0 :: p,.loop a=>sub p a
  | _,_=>.skip
def Slots (xs:List Value):List (Nat × Value)→Prop
  | []=>True
  | (k,v) :: l=>xs[k]? = some v∧Slots xs l
def Frm (n:Nat) (l:List (Nat × Value)) (a:Act):Prop := a.tmps.toList.length=n∧a.defers=[]∧Slots a.tmps.toList l
theorem Slots.at_:∀{l:List (Nat × Value)} {k:Nat} {v:Value},Slots xs l→(k,v)∈l→xs[k]? = some v
  | [],_,_,_,h=>by cases h
  | (k,v) :: l,k',v',⟨h1,h2⟩,h=>by
    rcases List.mem_cons.1 h with h | h
    · injection h with e1 e2; subst e1; subst e2; exact h1
    · exact Slots.at_ h2 h
theorem Slots.sub:∀{l l':List (Nat × Value)},Slots xs l→(∀p∈l',p∈l)→Slots xs l'
  | _,[],_,_=>trivial
  | l,(k,v) :: l',h,hs=>⟨h.at_ (hs _ (List.mem_cons_self ..)),Slots.sub h (fun p hp=>hs p (List.mem_cons_of_mem _ hp))⟩
theorem Frm.sub {l':List (Nat × Value)} {a:Act} (h:Frm n l a) (hs:∀p∈l',p∈l):Frm n l' a := ⟨h.1,h.2.1,h.2.2.sub hs⟩
theorem frm_open {G:Act→Prop} (hF:∀a:Act,a.tmps.toList.length=n→a.defers=[]→Frm n l a→G a):∀a,Frm n l a→G a := fun a h=>hF a h.1 h.2.1 h
theorem sI {α:Type} {a b:α} (h:some a=some b):b=a := (Option.some.inj h).symm
theorem open0 {P:List Value→Prop} (h:P []):∀l,l.length=0→P l := fun l e=>by rw [List.eq_nil_of_length_eq_zero e]; exact h
theorem openS {P:List Value→Prop} (h:∀x:Value,∀l,l.length=n→P (x :: l)):∀l,l.length=n+1→P l
  | [],e=>by cases e
  | x :: l,e=>h x l (by simpa using e)
theorem least_of {p:Nat→Prop} (h:∃n,p n):∃k,p k∧∀j,p j→k≤j := by
  obtain ⟨k,hk⟩ := h
  induction k using Nat.strongRecOn with
  | ind k ih =>
    by_cases h2:∃j,j<k∧p j
    · obtain ⟨j,h3,h4⟩ := h2; exact ih j h3 h4
    · exact ⟨k,hk,fun j hj=>Nat.le_of_not_lt fun h3=>h2 ⟨j,h3,hj⟩⟩
open Classical in
theorem wp_loopR {P:Program} {c:Code} (I:Nat→Act→World→Prop) (n:Nat) {a:Act} {w:World} (h0:I n a w)
    (round:∀n a w,I n a w→c.wp P (Exit.then (fun a' w'=>∃m,m<n∧I m a' w') Q) a w):(Code.loop c).wp P Q a w := by
  let μ:Act→World→Nat := fun a w=>if h:∃n,I n a w then Classical.choose (least_of h) else 0
  have hμ:∀n a w,I n a w→I (μ a w) a w∧μ a w≤n := fun n a w h=>by
    have hx:∃n,I n a w := ⟨n,h⟩
    have e:μ a w=Classical.choose (least_of hx) := dif_pos hx
    rw [e]
    exact ⟨(Classical.choose_spec (least_of hx)).1,(Classical.choose_spec (least_of hx)).2 n h⟩
  refine wp_loop (fun a w=>∃n,I n a w) μ ⟨n,h0⟩ (fun a w hn=>?_)
  obtain ⟨n,hn⟩ := hn
  refine wp_mono (round _ a w (hμ n a w hn).1) (fun e a' w' h=>?_)
  cases e with
  | normal =>
    obtain ⟨m,h1,h2⟩ := h
    exact ⟨⟨m,h2⟩,Nat.lt_of_le_of_lt (hμ m a' w' h2).2 h1⟩
  | _=>exact h
theorem Frm.eval {a:Act} {v:Value} (h:Frm n l a) (hm:(k,v)∈l):a.eval (.tmp k)=v := by
  have h1 := h.2.2.at_ hm
  show a.tmps.getD k undef=v
  rw [Array.getElem?_toList] at h1
  rw [Array.getD_eq_getD_getElem?,h1]; rfl
theorem then_exit {K:Act→World→Prop} {a:Act} (h:Q (.exit k) a w):Exit.then K Q (.exit k) a w := h
theorem inBlock_exit {a:Act} (h:Q .normal a w):Exit.inBlock id Q (.exit id) a w := by
  show (if id=id then _ else _)
  rw [if_pos rfl]; exact h
theorem inBlock_far {id':Nat} {a:Act} (hn:id'≠id) (h:Q (.exit id') a w):Exit.inBlock id Q (.exit id') a w := by
  show (if id'=id then _ else _)
  rw [if_neg hn]; exact h

def pickL:List Nat→List (Nat × Value)→List (Nat × Value)
  | [],_=>[]
  | k :: ks,l=>match l[k]? with
    | some p=>p :: pickL ks l
    | none=>pickL ks l
theorem pickL_mem:∀(ks:List Nat) {l:List (Nat × Value)} {p:Nat × Value},p∈pickL ks l→p∈l
  | [],_,_,h=>by cases h
  | k :: ks,l,p,h=>by
    unfold pickL at h
    split at h
    · rename_i q hq
      rcases List.mem_cons.1 h with h | h
      · rw [h]; exact List.mem_of_getElem? hq
      · exact pickL_mem ks h
    · exact pickL_mem ks h
theorem Frm.pick {n:Nat} {l:List (Nat × Value)} {a:Act} (h:Frm n l a) (ks:List Nat):Frm n (pickL ks l) a := h.sub (fun _ hp=>pickL_mem ks hp)
def sGet (xs:List Value):List (Nat × Value)→List (Option Value)
  | []=>[]
  | (k,_) :: l=>xs[k]? :: sGet xs l
def sVal:List (Nat × Value)→List (Option Value)
  | []=>[]
  | (_,v) :: l=>some v :: sVal l
theorem slots_of {xs:List Value}:∀{l:List (Nat × Value)},sGet xs l=sVal l→Slots xs l
  | [],_=>trivial
  | (_,_) :: _,h=>⟨(List.cons.inj h).1,slots_of (List.cons.inj h).2⟩
theorem fR {n:Nat} {l:List (Nat × Value)} {a:Act} (h1:a.tmps.toList.length=n) (h2:a.defers=[]) (h3:sGet a.tmps.toList l=sVal l):Frm n l a := ⟨h1,h2,slots_of h3⟩
theorem fO {n:Nat} {l:List (Nat × Value)} {G:Act→Prop} (hF:∀a:Act,a.tmps.toList.length=n→a.defers=[]→Slots a.tmps.toList l→G a):∀a,Frm n l a→G a := fun a h=>hF a h.1 h.2.1 h.2.2
def sp:Nat→Nat→Code→Code
  | 0,_,c=>c
  | k+1,n,c=>if n≤1 then c else sp k (n / 2) (sub [n % 2] c)
end

end Go.Proofs.YthfokmjpbnfihaaDoor
