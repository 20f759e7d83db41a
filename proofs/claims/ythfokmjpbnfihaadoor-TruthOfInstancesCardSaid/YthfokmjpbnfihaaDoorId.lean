/- Lemmas. -/
import Derived.Test.YthfokmjpbnfihaaDoorIb
import Derived.Test.YthfokmjpbnfihaaDoorIc
import Derived.Lib.SlicesCompact
namespace Go.Proofs.YthfokmjpbnfihaaDoor
open Go Go.RowKit
set_option linter.unusedSimpArgs false
set_option linter.unusedVariables false
noncomputable section
structure FmL where
  kind:Int
  nm:ByteArray
  ws:List ByteArray
abbrev Fm := Tree FmL
inductive Fv where
  | tru
  | pred (n:ByteArray) (ws:List ByteArray)
  | same (a b:ByteArray)
  | neg (f:Fv)
  | bin (k:Nat) (f g:Fv)
  | qu (k:Nat) (x:ByteArray) (f:Fv)
def bNilF:ByteArray := ⟨#[]⟩
def Fv.fm:Fv→Fm
  | .tru=>.mk ⟨1,⟨#[]⟩,[]⟩ []
  | .pred n ws=>.mk ⟨2,n,ws⟩ []
  | .same a b=>.mk ⟨3,⟨#[]⟩,[a,b]⟩ []
  | .neg f=>.mk ⟨4,⟨#[]⟩,[]⟩ [f.fm]
  | .bin k f g=>.mk ⟨k,⟨#[]⟩,[]⟩ [f.fm,g.fm]
  | .qu k x f=>.mk ⟨k,x,[]⟩ [f.fm]
def fmZ:Fm := .mk ⟨0,⟨#[]⟩,[]⟩ []
end
noncomputable section
variable {w:World} {S:Nat→Prop} {a:FmL} {l:List Fm} {cs:List Value}

def fmL:Rep FmL where
  size := 3
  R w S a cs := ∃v,cs=[.int .i64 a.kind,.string a.nm,v]∧a.nm.size≤maxLen∧strRep.Sl w S v a.ws
  pos := by omega
  len := by rintro w S a cs ⟨v,rfl,_⟩; rfl
  one := by
    rintro w S a cs ⟨v,rfl,_,A,n,c,rfl,_⟩ u hu
    simp at hu; rcases hu with rfl | rfl | rfl <;> rfl
  keep := by
    rintro w w' S S' a cs ⟨v,rfl,h0,h⟩ hk hS
    exact ⟨v,rfl,h0,h.keep hk hS⟩
abbrev fmRep:Rep Fm := treeRep fmL
theorem Fm.open_ (h:fmRep.R w S (.mk a l) cs) :
    ∃u v,cs=[.int .i64 a.kind,.string a.nm,u,v]∧a.nm.size≤maxLen∧strRep.Sl w S u a.ws∧fmRep.Sl w S v l := by
  obtain ⟨hs,v,rfl,⟨u,rfl,h1,h2⟩,h3⟩ := Tree.In_iff.1 h
  exact ⟨u,v,rfl,h1,h2,h3⟩
theorem Fm.shut {u v:Value} (h1:a.nm.size≤maxLen) (h2:strRep.Sl w S u a.ws) (h3:fmRep.Sl w S v l) :
    fmRep.R w S (.mk a l) [.int .i64 a.kind,.string a.nm,u,v] :=
  Tree.In_iff.2 ⟨[.int .i64 a.kind,.string a.nm,u],v,rfl,⟨u,rfl,h1,h2⟩,h3⟩
theorem Fm.shape {t:Fm} (h:fmRep.R w S t cs) :
    ∃A n c B m d,cs=[.int .i64 t.lab.kind,.string t.lab.nm,.slice A n c,.slice B m d]∧t.kids.length=m∧m≤maxLen∧t.lab.ws.length=n∧n≤maxLen := by
  obtain ⟨a,l⟩ := t
  obtain ⟨u,v,rfl,h1,⟨A,n,c,rfl,e1,e2,_⟩,B,m,d,rfl,h3,h4,_⟩ := Fm.open_ h
  exact ⟨_,_,_,_,_,_,rfl,h3,h4,e1,e2⟩
theorem fmZ_rep:fmRep.R w S fmZ [.int .i64 0,.string ⟨#[]⟩,.slice none 0 0,.slice none 0 0] :=
  Fm.shut (a := ⟨0,⟨#[]⟩,[]⟩) (l := []) (by decide +kernel) Rep.Sl.nil Rep.Sl.nil
end
noncomputable section
def subsF (hole:Bool) (k:Int):Option Nat :=
  if k=1∨k=2∨k=3 then some 0 else if k=4∨k=8∨k=9 then some 1 else if k=5∨k=6∨k=7 then some 2 else if k=10∧hole=true then some 0 else none
def namedF (k:Int):Bool := decide (k=2) || decide (k=8) || decide (k=9) || decide (k=10)
def wordsOk (k:Int) (n:Nat):Bool := if k=2 then decide (n≤3) else if k=3 then decide (n=2) else decide (n=0)
def FmL.code (hole:Bool) (a:FmL) (m:Nat):Nat :=
  match subsF hole a.kind with
  | none=>4
  | some k =>
    if m≠k∨wordsOk a.kind a.ws.length=false then 9
    else if namedF a.kind=true∧okName a.nm=false then 10
    else if namedF a.kind=false∧a.nm≠bNilF then 5
    else if a.ws.all okName=true then 0 else 10
mutual
def fmVal (hole:Bool):Tree FmL→Nat→Nat→Nat × Nat × Nat
  | .mk a l,d,n=>if 200<n+1∨40<d then (1,n,n+1) else if a.code hole l.length=0 then fmVals hole l (d+1) (n+1) else (a.code hole l.length,n,n+1)
def fmVals (hole:Bool):List (Tree FmL)→Nat→Nat→Nat × Nat × Nat
  | [],_,n=>(0,0,n)
  | t :: l,d,n=>if (fmVal hole t d n).1=0 then fmVals hole l d (fmVal hole t d n).2.2 else fmVal hole t d n
end
mutual
theorem fmVal_le (hole:Bool):∀(t:Tree FmL) (d n:Nat),n≤200→(fmVal hole t d n).2.2≤201∧((fmVal hole t d n).1=0→(fmVal hole t d n).2.2≤200∧(fmVal hole t d n).2.1=0)
  | .mk a l,d,n,h=>by
    unfold fmVal
    split
    · simp; omega
    · split
      · have := fmVals_le hole l (d+1) (n+1) (by omega)
        exact this
      · rename_i hc
        exact ⟨by simp only; omega,fun e=>absurd e hc⟩
theorem fmVals_le (hole:Bool):∀(l:List (Tree FmL)) (d n:Nat),n≤200→(fmVals hole l d n).2.2≤201∧((fmVals hole l d n).1=0→(fmVals hole l d n).2.2≤200∧(fmVals hole l d n).2.1=0)
  | [],d,n,h=>by unfold fmVals; simp; omega
  | t :: l,d,n,h=>by
    unfold fmVals
    have h1 := fmVal_le hole t d n h
    split
    · rename_i e
      exact fmVals_le hole l d _ (h1.2 e).1
    · exact h1
end
theorem fmVals_take (hole:Bool) (l:List (Tree FmL)):∀(j:Nat) (h:j<l.length) (d n:Nat),(fmVals hole (l.take j) d n).1=0→fmVals hole (l.take (j+1)) d n=fmVals hole [l[j]] d (fmVals hole (l.take j) d n).2.2 := by
  induction l with
  | nil=>intro j h; simp at h
  | cons t l ih =>
    intro j h d n h0
    cases j with
    | zero=>simp [fmVals]
    | succ j =>
      simp only [List.take_succ_cons,List.getElem_cons_succ] at h0 ⊢
      unfold fmVals at h0
      by_cases e:(fmVal hole t d n).1=0
      · rw [if_pos e] at h0
        have := ih j (by simpa using h) d _ h0
        conv=>lhs; unfold fmVals
        rw [if_pos e,this]
        congr 1
        conv=>rhs; unfold fmVals
        rw [if_pos e]
      · rw [if_neg e] at h0; exact absurd h0 e
theorem fmVals_bad (hole:Bool) (l:List (Tree FmL)):∀(j:Nat) (d n:Nat),(fmVals hole (l.take j) d n).1≠0→fmVals hole l d n=fmVals hole (l.take j) d n := by
  induction l with
  | nil=>intro j d n _; simp
  | cons t l ih =>
    intro j d n h0
    cases j with
    | zero=>simp [fmVals] at h0
    | succ j =>
      simp only [List.take_succ_cons] at h0 ⊢
      unfold fmVals at h0 ⊢
      by_cases e:(fmVal hole t d n).1=0
      · rw [if_pos e] at h0 ⊢
        rw [if_pos e]
        exact ih j d _ h0
      · rw [if_neg e,if_neg e]
theorem fmVals_one (hole:Bool) (t:Fm) (d n:Nat) (hn:n≤200):fmVals hole [t] d n=fmVal hole t d n := by
  unfold fmVals
  by_cases e:(fmVal hole t d n).1=0
  · rw [if_pos e]
    unfold fmVals
    have := ((fmVal_le hole t d n hn).2 e).2
    exact Prod.ext e.symm (Prod.ext this.symm rfl)
  · rw [if_neg e]
def Fv.ok:Fv→Prop
  | .tru=>True
  | .pred n ws=>okName n=true∧ws.length≤3∧ws.all okName=true
  | .same a b=>okName a=true∧okName b=true
  | .neg f=>f.ok
  | .bin k f g=>(k=5∨k=6∨k=7)∧f.ok∧g.ok
  | .qu k x f=>(k=8∨k=9)∧okName x=true∧f.ok
def Fv.nodes:Fv→Nat
  | .tru | .pred _ _ | .same _ _=>1
  | .neg f | .qu _ _ f=>f.nodes+1
  | .bin _ f g=>f.nodes+g.nodes+1
def Fv.depth:Fv→Nat
  | .tru | .pred _ _ | .same _ _=>1
  | .neg f | .qu _ _ f=>f.depth+1
  | .bin _ f g=>max f.depth g.depth+1
theorem Fv.fm_nodes:∀v:Fv,v.fm.nodes=v.nodes
  | .tru | .pred _ _ | .same _ _=>by simp [Fv.fm,Tree.nodes,Tree.nodess,Fv.nodes]
  | .neg f=>by simp [Fv.fm,Tree.nodes,Tree.nodess,Fv.nodes,Fv.fm_nodes f]; omega
  | .qu _ _ f=>by simp [Fv.fm,Tree.nodes,Tree.nodess,Fv.nodes,Fv.fm_nodes f]; omega
  | .bin _ f g=>by simp [Fv.fm,Tree.nodes,Tree.nodess,Fv.nodes,Fv.fm_nodes f,Fv.fm_nodes g]; omega
theorem Fv.code_ok (hole:Bool):∀v:Fv,v.ok→v.fm.lab.code hole v.fm.kids.length=0
  | .tru,_=>by simp [Fv.fm,Tree.lab,Tree.kids,FmL.code,subsF,wordsOk,namedF,bNilF]
  | .pred n ws,h=>by
    obtain ⟨h1,h2,h3⟩ := h
    simp [Fv.fm,Tree.lab,Tree.kids,FmL.code,subsF,wordsOk,namedF,h1,h2]
    simpa using h3
  | .same a b,h=>by
    obtain ⟨h1,h2⟩ := h
    simp [Fv.fm,Tree.lab,Tree.kids,FmL.code,subsF,wordsOk,namedF,bNilF,h1,h2]
  | .neg f,_=>by simp [Fv.fm,Tree.lab,Tree.kids,FmL.code,subsF,wordsOk,namedF,bNilF]
  | .bin k f g,h=>by
    obtain ⟨h1,_⟩ := h
    rcases h1 with rfl | rfl | rfl <;> simp [Fv.fm,Tree.lab,Tree.kids,FmL.code,subsF,wordsOk,namedF,bNilF]
  | .qu k x f,h=>by
    obtain ⟨h1,h2,_⟩ := h
    rcases h1 with rfl | rfl <;> simp [Fv.fm,Tree.lab,Tree.kids,FmL.code,subsF,wordsOk,namedF,h2]
theorem Fv.val_ok (hole:Bool):∀(v:Fv) (d n:Nat),v.ok→n+v.nodes≤200→d+v.depth≤41→fmVal hole v.fm d n=(0,0,n+v.nodes) := by
  intro v
  induction v with
  | tru | pred _ _ | same _ _ =>
    intro d n h h1 h2
    have hc := Fv.code_ok hole _ h
    simp only [Fv.nodes,Fv.depth] at *
    simp only [Fv.fm,Tree.lab,Tree.kids] at hc ⊢
    unfold fmVal
    rw [if_neg (by omega),if_pos hc]
    unfold fmVals; rfl
  | neg f ih =>
    intro d n h h1 h2
    have hc := Fv.code_ok hole _ h
    simp only [Fv.nodes,Fv.depth] at *
    simp only [Fv.fm,Tree.lab,Tree.kids] at hc ⊢
    unfold fmVal
    rw [if_neg (by omega),if_pos hc,fmVals_one _ _ _ _ (by omega),ih (d+1) (n+1) h (by omega) (by omega)]
    rw [show n+1+f.nodes=n+(f.nodes+1) by omega]
  | qu k x f ih =>
    intro d n h h1 h2
    have hc := Fv.code_ok hole _ h
    simp only [Fv.nodes,Fv.depth] at *
    simp only [Fv.fm,Tree.lab,Tree.kids] at hc ⊢
    unfold fmVal
    rw [if_neg (by omega),if_pos hc,fmVals_one _ _ _ _ (by omega),ih (d+1) (n+1) h.2.2 (by omega) (by omega)]
    rw [show n+1+f.nodes=n+(f.nodes+1) by omega]
  | bin k f g ihf ihg =>
    intro d n h h1 h2
    have hc := Fv.code_ok hole _ h
    simp only [Fv.nodes,Fv.depth] at *
    simp only [Fv.fm,Tree.lab,Tree.kids] at hc ⊢
    unfold fmVal
    rw [if_neg (by omega),if_pos hc]
    unfold fmVals
    rw [ihf (d+1) (n+1) h.2.1 (by omega) (by omega)]
    simp only [if_true]
    rw [fmVals_one _ _ _ _ (by omega),ihg (d+1) (n+1+f.nodes) h.2.2 (by omega) (by omega)]
    rw [show n+1+f.nodes+g.nodes=n+(f.nodes+g.nodes+1) by omega]
theorem Fv.of_code {a:FmL} {vs:List Fv} (h:a.code false vs.length=0) (hv:∀v∈vs,v.ok) :
    ∃v:Fv,.mk a (vs.map Fv.fm)=v.fm∧v.ok∧v.nodes=1+(vs.map Fv.nodes).sum∧v.depth=1+(vs.map Fv.depth).foldr max 0 := by
  obtain ⟨kind,nm,ws⟩ := a
  unfold FmL.code at h
  simp only at h
  cases hs:subsF false kind with
  | none=>rw [hs] at h; simp at h
  | some k =>
    rw [hs] at h
    simp only at h
    split at h
    · simp at h
    rename_i h1
    split at h
    · simp at h
    rename_i h2
    split at h
    · simp at h
    rename_i h3
    split at h
    case isFalse=>simp at h
    rename_i h4
    simp only [not_or,Bool.not_eq_false,Decidable.not_not] at h1
    obtain ⟨h1,h5⟩ := h1
    have hnil:namedF kind=false→nm=⟨#[]⟩ := fun e=>Decidable.not_not.1 (fun h=>h3 ⟨e,h⟩)
    have hnam:namedF kind=true→okName nm=true := fun e=>by
      cases hq:okName nm
      · exact absurd ⟨e,hq⟩ h2
      · rfl
    unfold subsF at hs
    split at hs
    · rename_i hk
      injection hs with hs
      subst hs
      obtain rfl := List.eq_nil_of_length_eq_zero h1
      rcases hk with rfl | rfl | rfl
      · obtain rfl := hnil rfl
        have:ws=[] := by simpa [wordsOk] using h5
        subst this
        exact ⟨.tru,rfl,trivial,rfl,rfl⟩
      · have hw:ws.length≤3 := by simpa [wordsOk] using h5
        exact ⟨.pred nm ws,rfl,⟨hnam rfl,hw,h4⟩,rfl,rfl⟩
      · obtain rfl := hnil rfl
        have hw:ws.length=2 := by simpa [wordsOk] using h5
        match ws,hw with
        | [a,b],_ =>
          simp only [List.all_cons,List.all_nil,Bool.and_true,Bool.and_eq_true] at h4
          exact ⟨.same a b,rfl,h4,rfl,rfl⟩
    · split at hs
      · rename_i hk
        injection hs with hs
        subst hs
        match vs,h1 with
        | [f],_ =>
          have hf := hv f (by simp)
          have hw:ws=[] := by rcases hk with rfl | rfl | rfl <;> simpa [wordsOk] using h5
          subst hw
          rcases hk with rfl | rfl | rfl
          · obtain rfl := hnil rfl
            exact ⟨.neg f,rfl,hf,by simp [Fv.nodes]; omega,by simp [Fv.depth]; omega⟩
          · exact ⟨.qu 8 nm f,rfl,⟨Or.inl rfl,hnam rfl,hf⟩,by simp [Fv.nodes]; omega,by simp [Fv.depth]; omega⟩
          · exact ⟨.qu 9 nm f,rfl,⟨Or.inr rfl,hnam rfl,hf⟩,by simp [Fv.nodes]; omega,by simp [Fv.depth]; omega⟩
      · split at hs
        · rename_i hk
          injection hs with hs
          subst hs
          match vs,h1 with
          | [f,g],_ =>
            have hf := hv f (by simp)
            have hg := hv g (by simp)
            have hw:ws=[] := by rcases hk with rfl | rfl | rfl <;> simpa [wordsOk] using h5
            subst hw
            obtain rfl:nm=⟨#[]⟩ := hnil (by rcases hk with rfl | rfl | rfl <;> rfl)
            rcases hk with rfl | rfl | rfl
            · exact ⟨.bin 5 f g,rfl,⟨Or.inl rfl,hf,hg⟩,by simp [Fv.nodes]; omega,by simp [Fv.depth]; omega⟩
            · exact ⟨.bin 6 f g,rfl,⟨Or.inr (Or.inl rfl),hf,hg⟩,by simp [Fv.nodes]; omega,by simp [Fv.depth]; omega⟩
            · exact ⟨.bin 7 f g,rfl,⟨Or.inr (Or.inr rfl),hf,hg⟩,by simp [Fv.nodes]; omega,by simp [Fv.depth]; omega⟩
        · split at hs
          · rename_i hk; simp at hk
          · simp at hs
mutual
theorem Fv.of_val:∀(t:Tree FmL) (d n:Nat),(fmVal false t d n).1=0→∃v:Fv,t=v.fm∧v.ok∧(fmVal false t d n).2.2=n+v.nodes∧n+v.nodes≤200∧d+v.depth≤41
  | .mk a l,d,n,h=>by
    unfold fmVal at h ⊢
    split at h
    · simp at h
    rename_i h1
    split at h
    case isFalse=>rename_i hc; exact absurd h hc
    rename_i hc
    rw [if_neg h1,if_pos hc]
    obtain ⟨vs,rfl,h2,h3,h4,h5⟩ := Fv.of_vals l (d+1) (n+1) h (by omega)
    obtain ⟨v,e,hv,hn,hd⟩ := Fv.of_code (by simpa using hc) h2
    refine ⟨v,e,hv,by omega,by omega,?_⟩
    rw [hd]
    rcases Nat.eq_zero_or_pos ((vs.map Fv.depth).foldr max 0) with h0 | h0
    · omega
    · have := h5 h0; omega
theorem Fv.of_vals:∀(l:List (Tree FmL)) (d n:Nat),(fmVals false l d n).1=0→n≤200→∃vs:List Fv,l=vs.map Fv.fm∧(∀v∈vs,v.ok)∧(fmVals false l d n).2.2=n+(vs.map Fv.nodes).sum∧n+(vs.map Fv.nodes).sum≤200∧(0<(vs.map Fv.depth).foldr max 0→d+(vs.map Fv.depth).foldr max 0≤41)
  | [],d,n,h,hn=>⟨[],rfl,by simp,by simp [fmVals],by simpa using hn,by simp⟩
  | t :: l,d,n,h,hn=>by
    unfold fmVals at h ⊢
    split at h
    case isFalse=>rename_i hc; exact absurd h hc
    rename_i hc
    rw [if_pos hc]
    obtain ⟨v,rfl,h1,h2,h3,h4⟩ := Fv.of_val t d n hc
    obtain ⟨vs,rfl,h5,h6,h7,h8⟩ := Fv.of_vals l d _ h (by omega)
    refine ⟨v :: vs,rfl,?_,?_,?_,?_⟩
    · intro u hu
      rcases List.mem_cons.1 hu with rfl | hu
      · exact h1
      · exact h5 u hu
    · simp only [List.map_cons,List.sum_cons]; omega
    · simp only [List.map_cons,List.sum_cons]; omega
    · intro _
      simp only [List.map_cons,List.foldr_cons]
      rcases Nat.eq_zero_or_pos ((vs.map Fv.depth).foldr max 0) with h0 | h0
      · rw [h0]; omega
      · have := h8 h0; omega
end
end
noncomputable section
variable {x:ByteArray} {l:List ByteArray}

abbrev Bs := List UInt8
theorem lessI:∀a:Bs,Op.bytesLess a a=false
  | []=>rfl
  | a :: l=>by simp [Op.bytesLess,lessI l]
theorem lessTri:∀a b:Bs,Op.bytesLess a b=false→Op.bytesLess b a=false→a=b
  | [],[],_,_=>rfl
  | [],_ :: _,h,_=>by simp [Op.bytesLess] at h
  | _ :: _,[],_,h=>by simp [Op.bytesLess] at h
  | a :: l,b :: r,h1,h2=>by
    simp only [Op.bytesLess,Bool.or_eq_false_iff,decide_eq_false_iff_not,Bool.and_eq_false_iff,beq_eq_false_iff_ne] at h1 h2
    have e:a=b := by
      have h3:¬ a.toNat<b.toNat := h1.1
      have h4:¬ b.toNat<a.toNat := h2.1
      exact UInt8.toNat_inj.1 (by omega)
    subst e
    rw [lessTri l r (h1.2.resolve_left (fun h=>h rfl)) (h2.2.resolve_left (fun h=>h rfl))]
theorem lessTrans:∀a b c:Bs,Op.bytesLess a b=true→Op.bytesLess b c=true→Op.bytesLess a c=true
  | _,[],_,h,_=>by unfold Op.bytesLess at h; cases h
  | _,_ :: _,[],_,h=>by simp [Op.bytesLess] at h
  | [],_ :: _,_ :: _,_,_=>rfl
  | a :: x,b :: y,c :: z,h1,h2=>by
    simp only [Op.bytesLess,Bool.or_eq_true,Bool.and_eq_true,decide_eq_true_eq,beq_iff_eq] at h1 h2 ⊢
    rcases h1 with h1 | ⟨rfl,h1⟩
    · rcases h2 with h2 | ⟨rfl,h2⟩
      · left
        have h3:a.toNat<b.toNat := h1
        have h4:b.toNat<c.toNat := h2
        show a.toNat<c.toNat
        omega
      · exact Or.inl h1
    · rcases h2 with h2 | ⟨rfl,h2⟩
      · exact Or.inl h2
      · exact Or.inr ⟨rfl,lessTrans x y z h1 h2⟩
theorem lessAsym {a b:Bs} (h:Op.bytesLess a b=true):Op.bytesLess b a=false := by
  cases h2:Op.bytesLess b a
  · rfl
  · have := lessTrans a b a h h2
    rw [lessI] at this
    cases this
theorem lessLe {a b c:Bs} (h:Op.bytesLess b a=false) (h2:Op.bytesLess b c=true):Op.bytesLess a c=true := by
  cases h3:Op.bytesLess a b
  · rw [lessTri a b h3 h]; exact h2
  · exact lessTrans a b c h3 h2
theorem leTrans {a b c:Bs} (h:Op.bytesLess b a=false) (h2:Op.bytesLess c b=false):Op.bytesLess c a=false := by
  cases h3:Op.bytesLess c a
  · rfl
  · have := lessLe h2 (h3:Op.bytesLess c a=true)
    rw [this] at h; cases h
theorem less_lt:∀a b:Bs,Op.bytesLess a b=true ↔ a<b
  | _,[]=>by
    constructor
    · intro h; unfold Op.bytesLess at h; cases h
    · intro h; exact absurd h (List.not_lt_nil _)
  | [],b :: y=>by simp [Op.bytesLess]
  | a :: x,b :: y=>by
    simp only [Op.bytesLess,Bool.or_eq_true,Bool.and_eq_true,decide_eq_true_eq,beq_iff_eq,List.cons_lt_cons_iff,less_lt x y]
theorem le_less (a b:Bs):decide (a≤b)=!Op.bytesLess b a := by
  cases h:Op.bytesLess b a
  · exact decide_eq_true (fun h2=>by rw [(less_lt b a).2 h2] at h; cases h)
  · exact decide_eq_false (fun h2=>h2 ((less_lt b a).1 h))
def Strict (l:List Bs):Prop := l.Pairwise (fun a b=>Op.bytesLess a b=true)
theorem compact_sorted (d:List Bs) (h:d.Pairwise (fun a b=>Op.bytesLess b a=false)):Strict (Lib.compact d)∧∀x,x∈Lib.compact d ↔ x∈d := by
  have hg:∀j (hj:j<d.length),d.toArray[j]! = d[j] := fun j hj=>by
    rw [getElem!_pos d.toArray j (by simpa using hj)]; simp
  have hle:∀i j (hi:i<d.length) (hj:j<d.length),i≤j→Op.bytesLess d[j] d[i]=false := fun i j hi hj hij=>by
    rcases Nat.lt_or_eq_of_le hij with h1 | rfl
    · exact List.pairwise_iff_getElem.1 h i j hi hj h1
    · exact lessI _
  have key:∀m,m≤d.length→Strict (Lib.compactUpTo d.toArray m)∧∀x,x∈Lib.compactUpTo d.toArray m ↔ ∃j,∃hj:j<d.length,j<m∧d[j]=x := by
    intro m
    induction m with
    | zero=>intro _; exact ⟨by simp [Strict,Lib.compactUpTo],fun x=>by simp [Lib.compactUpTo]⟩
    | succ m ih =>
      intro hm
      obtain ⟨h1,h2⟩ := ih (by omega)
      have hml:m<d.length := by omega
      rw [Lib.compactUpTo_succ,hg m hml]
      cases hk:Lib.keeps d.toArray m
      · simp only [Bool.false_eq_true,if_false,List.append_nil]
        refine ⟨h1,fun x=>(h2 x).trans ⟨fun ⟨j,hj,hjm,e⟩=>⟨j,hj,by omega,e⟩,fun ⟨j,hj,hjm,e⟩=>?_⟩⟩
        rcases Nat.lt_or_eq_of_le (Nat.le_of_lt_succ hjm) with h3 | rfl
        · exact ⟨j,hj,h3,e⟩
        · have h0:j≠0 := by rintro rfl; simp [Lib.keeps] at hk
          have hd:d[j]=d[j - 1] := by
            by_cases e3:d.toArray[j]! = d.toArray[j - 1]!
            · rwa [hg j hj,hg (j - 1) (by omega)] at e3
            · rw [Lib.keeps_pos e3] at hk; cases hk
          exact ⟨j - 1,by omega,by omega,by rw [← hd]; exact e⟩
      · simp only [if_true]
        refine ⟨List.pairwise_append.2 ⟨h1,by simp,fun x hx y hy=>?_⟩,fun x=>?_⟩
        · simp at hy
          subst hy
          obtain ⟨j,hj,hjm,rfl⟩ := (h2 x).1 hx
          have h0:0<m := by omega
          have hne:d[m]≠d[m - 1] := fun e=>by
            have:Lib.keeps d.toArray m=false := Lib.keeps_neg h0 (by rw [hg m hml,hg (m - 1) (by omega)]; exact e)
            rw [this] at hk; cases hk
          have hlt:Op.bytesLess d[m - 1] d[m]=true := by
            cases h3:Op.bytesLess d[m - 1] d[m]
            · exact absurd (lessTri _ _ (hle (m - 1) m (by omega) hml (by omega)) h3) hne
            · rfl
          exact lessLe (hle j (m - 1) hj (by omega) (by omega)) hlt
        · simp only [List.mem_append,List.mem_singleton]
          constructor
          · rintro (hx | rfl)
            · obtain ⟨j,hj,hjm,e⟩ := (h2 x).1 hx
              exact ⟨j,hj,by omega,e⟩
            · exact ⟨m,hml,by omega,rfl⟩
          · rintro ⟨j,hj,hjm,e⟩
            rcases Nat.lt_or_eq_of_le (Nat.le_of_lt_succ hjm) with h3 | rfl
            · exact Or.inl ((h2 x).2 ⟨j,hj,h3,e⟩)
            · exact Or.inr e.symm
  obtain ⟨h1,h2⟩ := key d.length (Nat.le_refl _)
  have e:Lib.compact d=Lib.compactUpTo d.toArray d.length := rfl
  rw [e]
  refine ⟨h1,fun x=>(h2 x).trans ⟨fun ⟨j,hj,_,e⟩=>by rw [← e]; exact List.getElem_mem hj,fun hx=>?_⟩⟩
  obtain ⟨j,hj,e⟩ := List.getElem_of_mem hx
  exact ⟨j,hj,hj,e⟩
def sortS (l:List Bs):List Bs := l.mergeSort fun x y=>decide (x≤y)
theorem sortS_sorted (l:List Bs):(sortS l).Pairwise (fun a b=>Op.bytesLess b a=false) := by
  have h := List.pairwise_mergeSort (le := fun x y:Bs=>decide (x≤y)) (fun a b c h1 h2=>by
    rw [le_less] at h1 h2 ⊢
    simp only [Bool.not_eq_true'] at h1 h2 ⊢
    exact leTrans h1 h2) (fun a b=>by
    rw [le_less,le_less]
    cases h:Op.bytesLess b a
    · rfl
    · rw [lessAsym h]; rfl) l
  exact h.imp (fun {a b} h=>by rw [le_less] at h; simpa using h)
def dat (a:ByteArray):Bs := a.data.toList
theorem dat_toList (a:ByteArray):a.toList=dat a := by rw [ByteArray.toList_eq]; rfl
theorem dat_inj {a b:ByteArray} (h:dat a=dat b):a=b := bytes_inj (by rw [dat_toList,dat_toList,h])
theorem dat_mk (x:Bs):dat ⟨x.toArray⟩=x := by simp [dat]
theorem mk_dat (a:ByteArray):(⟨(dat a).toArray⟩:ByteArray)=a := dat_inj (dat_mk _)
def constsB (l:List ByteArray):List ByteArray := (Lib.compact (sortS (l.map dat))).map (fun x=>⟨x.toArray⟩)
theorem constsB_dat (l:List ByteArray):(constsB l).map dat=Lib.compact (sortS (l.map dat)) := by
  unfold constsB
  rw [List.map_map]
  conv=>rhs; rw [← List.map_id (Lib.compact (sortS (l.map dat)))]
  exact List.map_congr_left (fun x _=>dat_mk x)
theorem mem_map_dat:dat x∈l.map dat ↔ x∈l := by
  constructor
  · intro h
    obtain ⟨y,hy,e⟩ := List.mem_map.1 h
    rwa [← dat_inj e]
  · intro h; exact List.mem_map.2 ⟨x,h,rfl⟩
theorem mem_constsB:x∈constsB l ↔ x∈l := by
  rw [← mem_map_dat (l := constsB l),constsB_dat,(compact_sorted _ (sortS_sorted _)).2]
  unfold sortS
  rw [List.mem_mergeSort,mem_map_dat]
def hasB (l:List ByteArray) (s:ByteArray):Bool := l.any (fun x=>decide (x=s))
theorem hasB_iff {s:ByteArray}:hasB l s=true ↔ s∈l := by
  unfold hasB
  rw [List.any_eq_true]
  constructor
  · rintro ⟨x,hx,h⟩; rw [← of_decide_eq_true h]; exact hx
  · intro h; exact ⟨s,h,decide_eq_true rfl⟩
mutual
def fmFrees:List ByteArray→Tree FmL→List ByteArray
  | bd,.mk a l=>a.ws.filter (fun w=>!hasB bd w)++fmFreess (if a.kind=8∨a.kind=9 then bd++[a.nm] else bd) l
def fmFreess:List ByteArray→List (Tree FmL)→List ByteArray
  | _,[]=>[]
  | bd,t :: l=>fmFrees bd t++fmFreess bd l
end
theorem fmFreess_append (bd:List ByteArray):∀l m:List (Tree FmL),fmFreess bd (l++m)=fmFreess bd l++fmFreess bd m
  | [],m=>by simp [fmFreess]
  | t :: l,m=>by simp [fmFreess,fmFreess_append bd l m]
theorem fmFreess_take (bd:List ByteArray) (l:List (Tree FmL)) (j:Nat) (h:j<l.length):fmFreess bd (l.take (j+1))=fmFreess bd (l.take j)++fmFrees bd l[j] := by
  rw [List.take_succ_eq_append_getElem h,fmFreess_append]; simp [fmFreess]
def fmConsts (t:Fm):List ByteArray := constsB (fmFrees [] t)
end

end Go.Proofs.YthfokmjpbnfihaaDoor
