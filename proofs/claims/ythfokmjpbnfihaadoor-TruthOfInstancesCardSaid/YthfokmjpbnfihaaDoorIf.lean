/- Lemmas. -/
import Derived.Test.YthfokmjpbnfihaaDoorId
import Derived.Test.YthfokmjpbnfihaaDoorIe
import Derived.Lib.Join
import Derived.Lib.ItoaNum
namespace Go.Proofs.YthfokmjpbnfihaaDoor
open Go Go.RowKit
set_option linter.unusedSimpArgs false
set_option linter.unusedVariables false
noncomputable section
variable {α:Type} {f:α→Int} {sz:Int} {m:Md}

theorem find_cut:∀{l:List α},l.Pairwise (fun a b=>f b≤0→f a<0)→l.find? (fun x=>decide (f x=0))=if hitN f l=true then l[cutN f l]? else none
  | [],_=>by simp
  | a :: l,h=>by
    obtain ⟨h1,h2⟩ := List.pairwise_cons.1 h
    have ih := find_cut h2
    rcases Int.lt_trichotomy (f a) 0 with ha | ha | ha
    · have e1:cutN f (a :: l)=cutN f l+1 := by simp [cutN,List.takeWhile_cons,ha]
      have e2:hitN f (a :: l)=hitN f l := by simp [hitN,e1]
      rw [e1,e2,List.find?_cons_of_neg (by simp; omega),ih]; rfl
    · have e1:cutN f (a :: l)=0 := by simp [cutN,List.takeWhile_cons,ha]
      have e2:hitN f (a :: l)=true := by simp [hitN,e1,ha]
      rw [e1,e2,List.find?_cons_of_pos (by simpa using ha)]; rfl
    · have e1:cutN f (a :: l)=0 := by simp [cutN,List.takeWhile_cons]; omega
      have e2:hitN f (a :: l)=false := by simp [hitN,e1]; omega
      rw [e2,List.find?_cons_of_neg (by simp; omega)]
      simp only [Bool.false_eq_true,if_false]
      rw [List.find?_eq_none]
      intro x hx hfx
      have := h1 x hx (by simp at hfx; omega)
      omega
theorem mono_cut {l:List α} (h:l.Pairwise (fun a b=>f b≤0→f a<0)) (i j:Nat) (hij:i≤j) (hj:j<l.length) (hl:f l[j]<0):f (l[i]'(by omega))<0 := by
  rcases Nat.lt_or_ge i j with hlt | hge
  · exact List.pairwise_iff_getElem.1 h i j (by omega) hj hlt (by omega)
  · have:i=j := by omega
    subst this; exact hl
theorem cmpS_lt {a b:ByteArray}:cmpS a b<0 ↔ Op.bytesLess a.toList b.toList=true := by
  unfold cmpS; split
  · rename_i h; simp [h]
  · rename_i h
    split <;> simp [h]
theorem cmpS_le {a b:ByteArray}:cmpS a b≤0 ↔ Op.bytesLess b.toList a.toList=false := by
  unfold cmpS; split
  · rename_i h; simp [lessAsym h]
  · split
    · rename_i h; simp [h]
    · rename_i h; simpa using h
theorem cmpS_eq {a b:ByteArray}:cmpS a b=0 ↔ a=b := by
  constructor
  · intro h
    have h1:Op.bytesLess b.toList a.toList=false := cmpS_le.1 (by omega)
    have h2:Op.bytesLess a.toList b.toList=false := by
      cases h3:Op.bytesLess a.toList b.toList
      · rfl
      · have := cmpS_lt.2 h3; omega
    exact bytes_inj (lessTri _ _ h2 h1)
  · rintro rfl
    simp [cmpS,lessI]
theorem cmpS_trans {a b c:ByteArray} (h:cmpS a b<0) (h2:cmpS b c≤0):cmpS a c<0 := by
  rw [cmpS_lt] at h ⊢; rw [cmpS_le] at h2
  cases h3:Op.bytesLess b.toList c.toList
  · rw [← lessTri _ _ h3 h2]; exact h
  · exact lessTrans _ _ _ h h3
theorem cmpI_lt {a b:Int}:cmpI a b<0 ↔ a<b := by unfold cmpI; split <;> (try split) <;> omega
theorem cmpI_le {a b:Int}:cmpI a b≤0 ↔ a≤b := by unfold cmpI; split <;> (try split) <;> omega
theorem cmpI_eq {a b:Int}:cmpI a b=0 ↔ a=b := by unfold cmpI; split <;> (try split) <;> omega
theorem cmpR_trans {a b c:Rel} (h:cmpR a b<0) (h2:cmpR b c≤0):cmpR a c<0 := by
  unfold cmpR at *
  by_cases e1:cmpS a.nm b.nm=0
  · rw [if_neg (by simpa using e1)] at h
    have e2 := cmpS_eq.1 e1
    rw [e2]
    split
    · rename_i h3; rw [if_pos h3] at h2; omega
    · rename_i h3; rw [if_neg h3] at h2
      rw [cmpI_lt] at h ⊢; rw [cmpI_le] at h2; omega
  · rw [if_pos e1] at h
    have h3:cmpS b.nm c.nm≤0 := by
      split at h2
      · exact h2
      · rename_i h3; have := Decidable.of_not_not h3; omega
    have h4 := cmpS_trans h h3
    rw [if_pos (by omega)]; exact h4
theorem cmpL_trans:∀{a b c:List Int},cmpL a b<0→cmpL b c≤0→cmpL a c<0
  | [],[],_,h,_=>by simp [cmpL] at h
  | [],_ :: _,[],_,h=>by simp [cmpL] at h
  | [],_ :: _,_ :: _,_,_=>by simp [cmpL]
  | _ :: _,[],_,h,_=>by simp [cmpL] at h
  | _ :: _,_ :: _,[],_,h=>by simp [cmpL] at h
  | a :: l,b :: r,c :: s,h,h2=>by
    unfold cmpL at h h2 ⊢
    by_cases e1:cmpI a b=0
    · rw [if_neg (by simpa using e1)] at h
      have e2 := cmpI_eq.1 e1
      rw [e2]
      split
      · rename_i h3; rw [if_pos h3] at h2; omega
      · rename_i h3; rw [if_neg h3] at h2
        exact cmpL_trans h h2
    · rw [if_pos e1] at h
      have h3:cmpI b c≤0 := by
        split at h2
        · exact h2
        · rename_i h3; have := Decidable.of_not_not h3; omega
      have h4:cmpI a c<0 := by rw [cmpI_lt] at h ⊢; rw [cmpI_le] at h3; omega
      rw [if_pos (by omega)]; exact h4
theorem consF_good:∀(l:List Con) (prev:Option Con) (i:Nat),(consF sz prev i l).1=0→l.Pairwise (fun a b=>cmpS a.nm b.nm<0)∧(∀p,prev=some p→∀c∈l,cmpS p.nm c.nm<0)∧∀c∈l,okName c.nm=true∧badV sz c.v=false
  | [],_,_,_=>⟨.nil,fun _ _ _ h=>absurd h List.not_mem_nil,fun _ h=>absurd h List.not_mem_nil⟩
  | c :: l,prev,i,h=>by
    unfold consF at h
    split at h
    case isFalse h0=>exact absurd h h0
    case isTrue h0 =>
    obtain ⟨h1,h2,h3⟩ := consF_good l (some c) (i+1) h
    unfold conCode at h0
    split at h0
    · omega
    rename_i k1
    split at h0
    · omega
    rename_i k2
    split at h0
    · omega
    rename_i k3
    have hp:∀p,prev=some p→cmpS p.nm c.nm<0 := by
      rintro p rfl
      simp only [Option.any_some,decide_eq_true_eq] at k2
      omega
    refine ⟨List.pairwise_cons.2 ⟨h2 c rfl,h1⟩,fun p hpp x hx=>?_,fun x hx=>?_⟩
    · rcases List.mem_cons.1 hx with rfl | hx
      · exact hp p hpp
      · have := h2 c rfl x hx
        exact cmpS_trans (hp p hpp) (by omega)
    · rcases List.mem_cons.1 hx with rfl | hx
      · exact ⟨by simpa using k1,by simpa using k3⟩
      · exact h3 x hx
theorem tupsF_good {ar:Int}:∀(l:List (List Int)) (prev:Option (List Int)),tupsF sz ar prev l=0→l.Pairwise (fun a b=>cmpL a b<0)∧(∀p,prev=some p→∀c∈l,cmpL p c<0)∧∀t∈l,(t.length:Int)=ar∧t.any (badV sz)=false
  | [],_,_=>⟨.nil,fun _ _ _ h=>absurd h List.not_mem_nil,fun _ h=>absurd h List.not_mem_nil⟩
  | c :: l,prev,h=>by
    unfold tupsF at h
    split at h
    case isFalse h0=>exact absurd h h0
    case isTrue h0 =>
    obtain ⟨h1,h2,h3⟩ := tupsF_good l (some c) h
    unfold tupCode at h0
    split at h0
    · omega
    rename_i k1
    split at h0
    · omega
    rename_i k2
    split at h0
    · omega
    rename_i k3
    have hp:∀p,prev=some p→cmpL p c<0 := by
      rintro p rfl
      simp only [Option.any_some,decide_eq_true_eq] at k3
      omega
    refine ⟨List.pairwise_cons.2 ⟨h2 c rfl,h1⟩,fun p hpp x hx=>?_,fun x hx=>?_⟩
    · rcases List.mem_cons.1 hx with rfl | hx
      · exact hp p hpp
      · have := h2 c rfl x hx
        exact cmpL_trans (hp p hpp) (by omega)
    · rcases List.mem_cons.1 hx with rfl | hx
      · exact ⟨Decidable.of_not_not k1,by simpa using k2⟩
      · exact h3 x hx
def Rel.good (sz:Int) (x:Rel):Prop := okName x.nm=true∧0≤x.ar∧x.ar≤3∧x.tp.Pairwise (fun a b=>cmpL a b<0)∧∀t∈x.tp,(t.length:Int)=x.ar∧t.any (badV sz)=false
theorem relsF_good:∀(l:List Rel) (prev:Option Rel) (i:Nat),(relsF sz prev i l).1=0→l.Pairwise (fun a b=>cmpR a b<0)∧(∀p,prev=some p→∀c∈l,cmpR p c<0)∧∀c∈l,c.good sz
  | [],_,_,_=>⟨.nil,fun _ _ _ h=>absurd h List.not_mem_nil,fun _ h=>absurd h List.not_mem_nil⟩
  | c :: l,prev,i,h=>by
    unfold relsF at h
    split at h
    case isFalse h0=>exact absurd h h0
    case isTrue h0 =>
    obtain ⟨h1,h2,h3⟩ := relsF_good l (some c) (i+1) h
    unfold relCode at h0
    split at h0
    · omega
    rename_i k1
    split at h0
    · omega
    rename_i k2
    split at h0
    · omega
    rename_i k3
    have hp:∀p,prev=some p→cmpR p c<0 := by
      rintro p rfl
      simp only [Option.any_some,decide_eq_true_eq] at k3
      omega
    obtain ⟨t1,_,t3⟩ := tupsF_good c.tp none h0
    refine ⟨List.pairwise_cons.2 ⟨h2 c rfl,h1⟩,fun p hpp x hx=>?_,fun x hx=>?_⟩
    · rcases List.mem_cons.1 hx with rfl | hx
      · exact hp p hpp
      · have := h2 c rfl x hx
        exact cmpR_trans (hp p hpp) (by omega)
    · rcases List.mem_cons.1 hx with rfl | hx
      · exact ⟨by simpa using k1,by omega,by omega,t1,t3⟩
      · exact h3 x hx
structure Md.good (m:Md):Prop where
  sz:1≤m.sz∧m.sz≤6
  nc:m.cs.length≤300
  nr:m.rs.length≤300
  cs:m.cs.Pairwise (fun a b=>cmpS a.nm b.nm<0)
  ck:∀c∈m.cs,okName c.nm=true∧badV m.sz c.v=false
  rs:m.rs.Pairwise (fun a b=>cmpR a b<0)
  rk:∀x∈m.rs,x.good m.sz
theorem Md.good_of (h:(mdFault m).1=0):m.good := by
  unfold mdFault at h
  split at h
  · exact absurd h (by simp)
  rename_i h1
  split at h
  · exact absurd h (by simp)
  rename_i h2
  split at h
  case isFalse h3=>exact absurd h h3
  case isTrue h3 =>
  obtain ⟨a1,_,a3⟩ := consF_good _ _ _ h3
  obtain ⟨b1,_,b3⟩ := relsF_good _ _ _ h
  exact ⟨by omega,by omega,by omega,a1,a3,b1,b3⟩
def conV (m:Md) (w:ByteArray):Option Int := (m.cs.find? (fun c=>decide (cmpS c.nm w=0))).map Con.v
def envV:List (ByteArray × Int)→ByteArray→Option Int
  | [],_=>none
  | (x,v) :: e,w=>(envV e w).or (if x=w then some v else none)
def wordV (m:Md) (e:List (ByteArray × Int)) (w:ByteArray):Int := ((envV e w).or (conV m w)).getD 0
def relV (m:Md) (n:ByteArray) (k:Nat):Option Rel := m.rs.find? (fun x=>decide (cmpR x ⟨n,k,[]⟩=0))
def predV (m:Md) (n:ByteArray) (t:List Int):Bool := (relV m n t.length).any fun x=>(x.tp.find? (fun u=>decide (cmpL u t=0))).isSome
def rangeV (m:Md):List Int := (List.range m.sz.toNat).map (fun v:Nat=>(v:Int))
def evalF (m:Md):Fv→List (ByteArray × Int)→Bool
  | .tru,_=>true
  | .pred n ws,e=>predV m n (ws.map (wordV m e))
  | .same a b,e=>decide (wordV m e a=wordV m e b)
  | .neg f,e=>!evalF m f e
  | .bin k f g,e=>if k=5 then evalF m f e && evalF m g e else if k=6 then evalF m f e || evalF m g e else !evalF m f e || evalF m g e
  | .qu k x f,e=>if k=8 then (rangeV m).all (fun v=>evalF m f (e++[(x,v)])) else (rangeV m).any (fun v=>evalF m f (e++[(x,v)]))
def nestF:Fv→Nat
  | .tru | .pred _ _ | .same _ _=>0
  | .neg f=>nestF f
  | .bin _ f g=>max (nestF f) (nestF g)
  | .qu _ _ f=>nestF f+1
def hasRels (m:Md):Fv→Bool
  | .tru | .same _ _=>true
  | .pred n ws=>(relV m n ws.length).isSome
  | .neg f | .qu _ _ f=>hasRels m f
  | .bin _ f g=>hasRels m f && hasRels m g
theorem Md.con_cut (h:m.good) (w:ByteArray):m.cs.Pairwise (fun a b=>cmpS b.nm w≤0→cmpS a.nm w<0) := h.cs.imp (fun h1 h2=>cmpS_trans h1 h2)
theorem Md.rel_cut (h:m.good) (w:Rel):m.rs.Pairwise (fun a b=>cmpR b w≤0→cmpR a w<0) := h.rs.imp (fun h1 h2=>cmpR_trans h1 h2)
theorem Rel.tup_cut {x:Rel} (h:x.good sz) (w:List Int):x.tp.Pairwise (fun a b=>cmpL b w≤0→cmpL a w<0) := h.2.2.2.1.imp (fun h1 h2=>cmpL_trans h1 h2)
theorem envV_snoc (x:ByteArray) (v:Int) (w:ByteArray):∀e,envV (e++[(x,v)]) w=if x=w then some v else envV e w
  | []=>by simp [envV]
  | (y,u) :: e=>by
    simp only [List.cons_append,envV,envV_snoc x v w e]
    split <;> simp
end
noncomputable section
abbrev Env := List (ByteArray × ByteArray)
def lookE (env:Env) (w:ByteArray):ByteArray := env.foldl (fun r p=>if p.1=w then p.2 else r) w
def isQ (k:Int):Prop := k=8∨k=9
instance (k:Int):Decidable (isQ k) := by unfold isQ; infer_instance
mutual
def renF (nm:Nat→ByteArray):Env→Tree FmL→Nat→Tree FmL × Nat
  | env,.mk a l,k =>
    if isQ a.kind then (.mk ⟨a.kind,nm k,a.ws.map (lookE env)⟩ (renFs nm (env++[(a.nm,nm k)]) l (k+1)).1,(renFs nm (env++[(a.nm,nm k)]) l (k+1)).2)
    else (.mk ⟨a.kind,a.nm,a.ws.map (lookE env)⟩ (renFs nm env l k).1,(renFs nm env l k).2)
def renFs (nm:Nat→ByteArray):Env→List (Tree FmL)→Nat→List (Tree FmL) × Nat
  | _,[],k=>([],k)
  | env,t :: l,k=>((renF nm env t k).1 :: (renFs nm env l (renF nm env t k).2).1,(renFs nm env l (renF nm env t k).2).2)
end
mutual
def quN:Tree FmL→Nat
  | .mk a l=>(if isQ a.kind then 1 else 0)+quNs l
def quNs:List (Tree FmL)→Nat
  | []=>0
  | t :: l=>quN t+quNs l
end
mutual
theorem renF_count (nm:Nat→ByteArray):∀(t:Tree FmL) (env:Env) (k:Nat),(renF nm env t k).2=k+quN t
  | .mk a l,env,k=>by
    unfold renF quN
    split
    · simp only; rw [renFs_count nm l]; omega
    · simp only; rw [renFs_count nm l]; omega
theorem renFs_count (nm:Nat→ByteArray):∀(l:List (Tree FmL)) (env:Env) (k:Nat),(renFs nm env l k).2=k+quNs l
  | [],_,_=>by simp [renFs,quNs]
  | t :: l,env,k=>by
    unfold renFs quNs
    simp only
    rw [renFs_count nm l,renF_count nm t]
    omega
end
mutual
def allW:Tree FmL→List ByteArray
  | .mk a l=>a.ws++allWs l
def allWs:List (Tree FmL)→List ByteArray
  | []=>[]
  | t :: l=>allW t++allWs l
end
theorem look_app (e0 e:Env) (w:ByteArray):lookE (e0++e) w=e.foldl (fun r p=>if p.1=w then p.2 else r) (lookE e0 w) := by
  unfold lookE; rw [List.foldl_append]
theorem look_free (w:ByteArray):∀(e:Env) (r:ByteArray),w ∉ e.map (·.1)→e.foldl (fun r p=>if p.1=w then p.2 else r) r=r
  | [],_,_=>rfl
  | p :: e,r,h=>by
    simp only [List.map_cons,List.mem_cons,not_or] at h
    rw [List.foldl_cons,if_neg (fun e=>h.1 e.symm)]
    exact look_free w e r h.2
theorem look_bound (w:ByteArray):∀(e:Env) (r:ByteArray),w∈e.map (·.1)→e.foldl (fun r p=>if p.1=w then p.2 else r) r∈e.map (·.2)
  | [],_,h=>by simp at h
  | p :: e,r,h=>by
    rw [List.foldl_cons]
    by_cases hm:w∈e.map (·.1)
    · exact List.mem_cons_of_mem _ (look_bound w e _ hm)
    · simp only [List.map_cons,List.mem_cons] at h
      rcases h with h | h
      · rw [look_free w e _ hm,if_pos h.symm]
        simp
      · exact absurd h hm
end
noncomputable section
variable {s:ByteArray}

theorem okName_listF {l:List UInt8} (h:s.data.toList=l):okName s=(decide (1≤l.length) && decide (l.length≤30) && isLow (l.headD 0) && l.all (fun c=>isLow c || isOther c)) := by
  subst h
  unfold okName
  have:s.data.toList.length=s.size := by rw [Array.length_toList]; rfl
  rw [this]
theorem okName_sizeF (h:okName s=true):1≤s.size∧s.size≤30 := by
  unfold okName at h
  simp only [Bool.and_eq_true,decide_eq_true_eq] at h
  exact ⟨h.1.1.1,h.1.1.2⟩
end
noncomputable section
variable {d n m:Nat} {u:List ByteArray}

def isDig (c:UInt8):Bool := decide (48≤c.toNat) && decide (c.toNat≤57)
def numOf (l:List UInt8):Nat := l.foldl (fun n c=>10 * n+(c.toNat - 48)) 0
theorem toNat_dig (h:d<10):(UInt8.ofNat (48+d)).toNat=48+d := by simp [UInt8.toNat_ofNat]; omega
theorem isDig_dig (h:d<10):isDig (UInt8.ofNat (48+d))=true := by
  unfold isDig
  rw [toNat_dig h]
  simp; omega
theorem dec_digs (n:Nat):(∀c∈Lib.decDigits n,isDig c=true)∧numOf (Lib.decDigits n)=n := by
  induction n using Nat.strongRecOn with
  | ind n ih =>
    by_cases h10:n<10
    · rw [Lib.decDigits,dif_pos h10]
      refine ⟨fun c hc=>?_,?_⟩
      · obtain rfl := List.mem_singleton.1 hc
        exact isDig_dig h10
      · unfold numOf
        simp only [List.foldl_cons,List.foldl_nil,toNat_dig h10]; omega
    · obtain ⟨h1,h2⟩ := ih (n / 10) (by omega)
      have hd:n % 10<10 := Nat.mod_lt _ (by omega)
      rw [Lib.decDigits,dif_neg h10]
      refine ⟨fun c hc=>?_,?_⟩
      · rcases List.mem_append.1 hc with hc | hc
        · exact h1 c hc
        · obtain rfl := List.mem_singleton.1 hc
          exact isDig_dig hd
      · unfold numOf at h2 ⊢
        rw [List.foldl_append,h2]
        simp only [List.foldl_cons,List.foldl_nil,toNat_dig hd]; omega
theorem dec_inj (h:Lib.decDigits n=Lib.decDigits m):n=m := by rw [← (dec_digs n).2,← (dec_digs m).2,h]
def vB (n:Nat):ByteArray := ⟨(118 :: Lib.decDigits n).toArray⟩
theorem vB_inj (h:vB n=vB m):n=m := by
  have := congrArg dat h
  simp only [vB,dat_mk,List.cons.injEq,true_and] at this
  exact dec_inj this
theorem next_ex (used:List ByteArray):∀(L:Nat) (u:List ByteArray) (n:Nat),u.length≤L→∃m,n≤m∧m≤n+L∧vB m ∉ u := by
  intro L
  induction L with
  | zero =>
    intro u n h
    obtain rfl:u=[] := List.length_eq_zero_iff.1 (by omega)
    exact ⟨n,Nat.le_refl _,Nat.le_refl _,by simp⟩
  | succ L ih =>
    intro u n h
    by_cases hm:vB n∈u
    · have hlt:(u.filter (fun x=>decide (x≠vB n))).length<u.length := List.length_filter_lt_length_iff_exists.2 ⟨vB n,hm,by simp⟩
      obtain ⟨m,h1,h2,h3⟩ := ih (u.filter (fun x=>decide (x≠vB n))) (n+1) (by omega)
      refine ⟨m,by omega,by omega,fun h4=>h3 ?_⟩
      exact List.mem_filter.2 ⟨h4,by simp; exact fun e=>by have := vB_inj e; omega⟩
    · exact ⟨n,Nat.le_refl _,by omega,hm⟩
theorem next_least (u:List ByteArray) (n:Nat):∃m,(n≤m∧vB m ∉ u)∧∀j,(n≤j∧vB j ∉ u)→m≤j := by
  obtain ⟨m,h1,_,h2⟩ := next_ex u u.length u n (Nat.le_refl _)
  exact least_of ⟨m,h1,h2⟩
def nextV (u:List ByteArray) (n:Nat):Nat := Classical.choose (next_least u n)
theorem nextV_ge (u:List ByteArray) (n:Nat):n≤nextV u n := (Classical.choose_spec (next_least u n)).1.1
theorem nextV_free (u:List ByteArray) (n:Nat):vB (nextV u n) ∉ u := (Classical.choose_spec (next_least u n)).1.2
theorem nextV_least {j:Nat} (h1:n≤j) (h2:vB j ∉ u):nextV u n≤j := (Classical.choose_spec (next_least u n)).2 j ⟨h1,h2⟩
theorem nextV_le (u:List ByteArray) (n:Nat):nextV u n≤n+u.length := by
  obtain ⟨m,h1,h2,h3⟩ := next_ex u u.length u n (Nat.le_refl _)
  exact Nat.le_trans (nextV_least h1 h3) h2
theorem nextV_step (h:vB n∈u):nextV u n=nextV u (n+1)∧n+1≤nextV u n := by
  have h1:n+1≤nextV u n := by
    rcases Nat.lt_or_eq_of_le (nextV_ge u n) with h2 | h2
    · exact h2
    · exact absurd h (by rw [h2]; exact nextV_free u n)
  exact ⟨Nat.le_antisymm (nextV_least (by have := nextV_ge u (n+1); omega) (nextV_free u _)) (nextV_least h1 (nextV_free u n)),h1⟩
theorem nextV_stop (h:vB n ∉ u):nextV u n=n := Nat.le_antisymm (nextV_least (Nat.le_refl _) h) (nextV_ge u n)
def numV (u:List ByteArray):Nat→Nat
  | 0=>nextV u 0
  | k+1=>nextV u (numV u k+1)
def fromV (u:List ByteArray):Nat→Nat
  | 0=>0
  | k+1=>numV u k+1
theorem numV_from (u:List ByteArray) (k:Nat):numV u k=nextV u (fromV u k) := by cases k <;> rfl
theorem numV_le (u:List ByteArray):∀k,numV u k+1≤(k+1) * (u.length+1)
  | 0=>by have := nextV_le u 0; simp only [numV]; omega
  | k+1=>by
    have ih := numV_le u k
    have := nextV_le u (numV u k+1)
    have e:(k+1+1) * (u.length+1)=(k+1) * (u.length+1)+(u.length+1) := by rw [Nat.succ_mul]
    simp only [numV]
    omega
def namV (u:List ByteArray) (k:Nat):ByteArray := vB (numV u k)
def canF (env:Env) (t:Tree FmL):Tree FmL := (renF (namV ((fmConsts t).map (lookE env))) env t 0).1
end
noncomputable section
variable {bd:List ByteArray} {a:FmL} {l:List (Tree FmL)} {w:ByteArray} {nm:Nat→ByteArray} {env:Env} {k:Nat}

theorem mem_frees_l (h:w∈a.ws) (hb:w ∉ bd):w∈fmFrees bd (.mk a l) := by
  unfold fmFrees
  refine List.mem_append.2 (Or.inl (List.mem_filter.2 ⟨h,?_⟩))
  rw [show hasB bd w=false from Bool.eq_false_iff.2 (fun hx=>hb (hasB_iff.1 hx))]
  rfl
theorem mem_frees_q (hq:isQ a.kind) (h:w∈fmFreess (bd++[a.nm]) l):w∈fmFrees bd (.mk a l) := by
  unfold fmFrees
  rw [if_pos (show a.kind=8∨a.kind=9 from hq)]
  exact List.mem_append.2 (Or.inr h)
theorem mem_frees_n (hq:¬ isQ a.kind) (h:w∈fmFreess bd l):w∈fmFrees bd (.mk a l) := by
  unfold fmFrees
  rw [if_neg (show ¬ (a.kind=8∨a.kind=9) from hq)]
  exact List.mem_append.2 (Or.inr h)
theorem filter_map_w (f:ByteArray→ByteArray) (b1 b2:List ByteArray):∀ws:List ByteArray,(∀w∈ws,hasB b2 (f w)=hasB b1 w)→(∀w∈ws,w ∉ b1→True)→(ws.map f).filter (fun w=>!hasB b2 w)=(ws.filter (fun w=>!hasB b1 w)).map f
  | [],_,_=>rfl
  | w :: ws,h,_=>by
    have ih := filter_map_w f b1 b2 ws (fun x hx=>h x (List.mem_cons_of_mem _ hx)) (fun _ _ _=>trivial)
    have h0 := h w (List.mem_cons_self ..)
    rw [List.map_cons,List.filter_cons,List.filter_cons,h0,ih]
    split <;> rfl
mutual
theorem frees_ren2 (nm:Nat→ByteArray) (e0:Env):∀(t:Tree FmL) (e:Env) (k:Nat),(∀w∈fmFrees (e.map (·.1)) t,lookE e0 w ∉ e.map (·.2)∧∀j,lookE e0 w≠nm j)→fmFrees (e.map (·.2)) (renF nm (e0++e) t k).1=(fmFrees (e.map (·.1)) t).map (lookE e0)
  | .mk a l,e,k,hw=>by
    have hws:(a.ws.map (lookE (e0++e))).filter (fun w=>!hasB (e.map (·.2)) w)=(a.ws.filter (fun w=>!hasB (e.map (·.1)) w)).map (lookE e0) := by
      rw [filter_map_w (lookE (e0++e)) (e.map (·.1)) (e.map (·.2)) a.ws (fun w hm=>?_) (fun _ _ _=>trivial)]
      · refine List.map_congr_left (fun w hm=>?_)
        have h1 := (List.mem_filter.1 hm).2
        rw [look_app]
        refine look_free w e _ (fun hx=>?_)
        rw [hasB_iff.2 hx] at h1
        cases h1
      · by_cases hx:w∈e.map (·.1)
        · rw [hasB_iff.2 hx,hasB_iff]
          rw [look_app]; exact look_bound w e _ hx
        · rw [show hasB (e.map (·.1)) w=false from Bool.eq_false_iff.2 (fun h=>hx (hasB_iff.1 h)),Bool.eq_false_iff]
          intro h
          rw [hasB_iff,look_app,look_free w e _ hx] at h
          exact (hw w (mem_frees_l hm hx)).1 h
    by_cases hq:isQ a.kind
    · have hwl:∀w∈fmFreess (e.map (·.1)++[a.nm]) l,lookE e0 w ∉ e.map (·.2)∧∀j,lookE e0 w≠nm j := fun w hm=>hw w (mem_frees_q hq hm)
      have ih := freess_ren2 nm e0 l (e++[(a.nm,nm k)]) (k+1) (fun w hm=>by
        rw [List.map_append] at hm
        refine ⟨?_,(hwl w hm).2⟩
        rw [List.map_append,List.mem_append]
        rintro (h | h)
        · exact (hwl w hm).1 h
        · simp at h; exact (hwl w hm).2 k h)
      rw [List.map_append,List.map_append,← List.append_assoc] at ih
      unfold renF
      rw [if_pos hq]
      simp only [fmFrees]
      have hq':a.kind=8∨a.kind=9 := hq
      rw [if_pos hq',if_pos hq',hws,List.map_append]
      simp only [List.map_cons,List.map_nil] at ih
      rw [ih]
    · have ih := freess_ren2 nm e0 l e k (fun w hm=>hw w (mem_frees_n hq hm))
      unfold renF
      rw [if_neg hq]
      simp only [fmFrees]
      have hq':¬ (a.kind=8∨a.kind=9) := hq
      rw [if_neg hq',if_neg hq',hws,List.map_append,ih]
theorem freess_ren2 (nm:Nat→ByteArray) (e0:Env):∀(l:List (Tree FmL)) (e:Env) (k:Nat),(∀w∈fmFreess (e.map (·.1)) l,lookE e0 w ∉ e.map (·.2)∧∀j,lookE e0 w≠nm j)→fmFreess (e.map (·.2)) (renFs nm (e0++e) l k).1=(fmFreess (e.map (·.1)) l).map (lookE e0)
  | [],_,_,_=>by simp [renFs,fmFreess]
  | t :: l,e,k,hw=>by
    unfold renFs
    simp only [fmFreess]
    rw [frees_ren2 nm e0 t e k (fun w hm=>hw w (by simp [fmFreess,hm])),freess_ren2 nm e0 l e _ (fun w hm=>hw w (by simp [fmFreess,hm])),List.map_append]
end
theorem renF_q (hq:isQ a.kind):renF nm env (.mk a l) k=(.mk ⟨a.kind,nm k,a.ws.map (lookE env)⟩ (renFs nm (env++[(a.nm,nm k)]) l (k+1)).1,(renFs nm (env++[(a.nm,nm k)]) l (k+1)).2) := by
  unfold renF; rw [if_pos hq]
theorem renF_n (hq:¬ isQ a.kind):renF nm env (.mk a l) k=(.mk ⟨a.kind,a.nm,a.ws.map (lookE env)⟩ (renFs nm env l k).1,(renFs nm env l k).2) := by
  unfold renF; rw [if_neg hq]
theorem renFs_c {t:Tree FmL}:renFs nm env (t :: l) k=((renF nm env t k).1 :: (renFs nm env l (renF nm env t k).2).1,(renFs nm env l (renF nm env t k).2).2) := by
  conv=>lhs; unfold renFs
theorem numV_lt (u:List ByteArray):∀{i j:Nat},i<j→numV u i<numV u j := by
  have h1:∀i,numV u i<numV u (i+1) := fun i=>nextV_ge u (numV u i+1)
  intro i j h
  induction j with
  | zero=>omega
  | succ j ih =>
    by_cases hij:i=j
    · subst hij; exact h1 i
    · exact Nat.lt_trans (ih (by omega)) (h1 j)
theorem namV_inj (u:List ByteArray):∀i j,namV u i=namV u j→i=j := by
  intro i j h
  have h1 := vB_inj h
  rcases Nat.lt_trichotomy i j with h2 | h2 | h2
  · have := numV_lt u h2; omega
  · exact h2
  · have := numV_lt u h2; omega
theorem namV_free (u:List ByteArray) (j:Nat):namV u j ∉ u := by
  unfold namV
  rw [numV_from]
  exact nextV_free u _
theorem map_look_nil (l:List ByteArray):l.map (lookE [])=l := by
  conv=>rhs; rw [← List.map_id l]
  exact List.map_congr_left (fun _ _=>rfl)
theorem frees_canF (env:Env) (t:Tree FmL):fmFrees [] (canF env t)=(fmFrees [] t).map (lookE env) := by
  have h := frees_ren2 (namV ((fmConsts t).map (lookE env))) env t [] 0 (fun w hm=>⟨by simp,fun j e=>?_⟩)
  · unfold canF
    simpa using h
  · refine namV_free ((fmConsts t).map (lookE env)) j ?_
    rw [← e]
    exact List.mem_map.2 ⟨w,mem_constsB.2 hm,rfl⟩
theorem okName_vB {n:Nat} (h:n<1000000):okName (vB n)=true := by
  have hall := (dec_digs n).1
  have hlen:∀(d n:Nat),n<10 ^ d→0<d→(Lib.decDigits n).length≤d := by
    intro d
    induction d with
    | zero=>intro n _ h0; omega
    | succ d ih =>
      intro n hn _
      rw [Lib.decDigits]
      split
      · simp
      · rename_i h10
        rw [List.length_append,List.length_singleton]
        have := ih (n / 10) (by rw [Nat.pow_succ] at hn; omega) (by
          rcases Nat.eq_zero_or_pos d with h0 | h0
          · subst h0; simp at hn; omega
          · exact h0)
        omega
  have h6 := hlen 6 n (by simpa using h) (by omega)
  rw [okName_listF (s := vB n) (l := 118 :: Lib.decDigits n) (by unfold vB; simp)]
  rw [show isLow ((118 :: Lib.decDigits n).headD 0)=true from rfl]
  simp only [List.length_cons,List.all_cons,Bool.and_eq_true,decide_eq_true_eq]
  refine ⟨⟨⟨by omega,by omega⟩,trivial⟩,rfl,?_⟩
  rw [List.all_eq_true]
  intro c hc
  have := hall c hc
  unfold isDig at this
  simp only [Bool.and_eq_true,decide_eq_true_eq] at this
  unfold isOther
  simp; omega
end
noncomputable section
variable {w:ByteArray}

def Fv.rn (nm:Nat→ByteArray):Env→Fv→Nat→Fv × Nat
  | _,.tru,k=>(.tru,k)
  | env,.pred n ws,k=>(.pred n (ws.map (lookE env)),k)
  | env,.same a b,k=>(.same (lookE env a) (lookE env b),k)
  | env,.neg f,k=>(.neg (f.rn nm env k).1,(f.rn nm env k).2)
  | env,.bin j f g,k=>(.bin j (f.rn nm env k).1 (g.rn nm env (f.rn nm env k).2).1,(g.rn nm env (f.rn nm env k).2).2)
  | env,.qu j x f,k=>(.qu j (nm k) (f.rn nm (env++[(x,nm k)]) (k+1)).1,(f.rn nm (env++[(x,nm k)]) (k+1)).2)
theorem Fv.rn_fm (nm:Nat→ByteArray):∀(v:Fv) (env:Env) (k:Nat),v.ok→renF nm env v.fm k=((v.rn nm env k).1.fm,(v.rn nm env k).2)
  | .tru,env,k,_=>by
    simp only [Fv.fm,Fv.rn]
    rw [renF_n (by unfold isQ; simp)]; rfl
  | .pred n ws,env,k,_=>by
    simp only [Fv.fm,Fv.rn]
    rw [renF_n (by unfold isQ; simp)]; rfl
  | .same a b,env,k,_=>by
    simp only [Fv.fm,Fv.rn]
    rw [renF_n (by unfold isQ; simp)]; rfl
  | .neg f,env,k,h=>by
    simp only [Fv.fm,Fv.rn]
    rw [renF_n (by unfold isQ; simp),renFs_c,Fv.rn_fm nm f env k h]; rfl
  | .bin j f g,env,k,h=>by
    have hk := h.1
    simp only [Fv.fm,Fv.rn]
    rw [renF_n (by unfold isQ; simp only; omega),renFs_c,renFs_c,Fv.rn_fm nm f env k h.2.1,Fv.rn_fm nm g env _ h.2.2]; rfl
  | .qu j x f,env,k,h=>by
    have hk := h.1
    simp only [Fv.fm,Fv.rn]
    rw [renF_q (by unfold isQ; simp only; omega),renFs_c,Fv.rn_fm nm f _ _ h.2.2]; rfl
theorem Fv.rn_le (nm:Nat→ByteArray):∀(v:Fv) (env:Env) (k:Nat),k≤(v.rn nm env k).2
  | .tru,_,_ | .pred _ _,_,_ | .same _ _,_,_=>Nat.le_refl _
  | .neg f,env,k=>Fv.rn_le nm f env k
  | .bin _ f g,env,k=>Nat.le_trans (Fv.rn_le nm f env k) (Fv.rn_le nm g env _)
  | .qu _ x f,env,k=>by have := Fv.rn_le nm f (env++[(x,nm k)]) (k+1); simp only [Fv.rn]; omega
theorem nestF_rn (nm:Nat→ByteArray):∀(v:Fv) (env:Env) (k:Nat),nestF (v.rn nm env k).1=nestF v
  | .tru,_,_ | .pred _ _,_,_ | .same _ _,_,_=>rfl
  | .neg f,env,k=>nestF_rn nm f env k
  | .bin _ f g,env,k=>by simp only [Fv.rn,nestF]; rw [nestF_rn nm f,nestF_rn nm g]
  | .qu _ x f,env,k=>by simp only [Fv.rn,nestF]; rw [nestF_rn nm f]
theorem hasRels_rn (m:Md) (nm:Nat→ByteArray):∀(v:Fv) (env:Env) (k:Nat),hasRels m (v.rn nm env k).1=hasRels m v
  | .tru,_,_ | .same _ _,_,_=>rfl
  | .pred _ ws,_,_=>by simp only [Fv.rn,hasRels]; rw [List.length_map]
  | .neg f,env,k=>hasRels_rn m nm f env k
  | .bin _ f g,env,k=>by simp only [Fv.rn,hasRels]; rw [hasRels_rn m nm f,hasRels_rn m nm g]
  | .qu _ x f,env,k=>by simp only [Fv.rn,hasRels]; rw [hasRels_rn m nm f]
abbrev Tri := List (ByteArray × ByteArray × Int)
def Tri.on (E:Tri):Env := E.map (fun p=>(p.1,p.2.1))
def Tri.ov (E:Tri):List (ByteArray × Int) := E.map (fun p=>(p.1,p.2.2))
def Tri.nv (E:Tri):List (ByteArray × Int) := E.map (fun p=>p.2)
def Tri.o (E:Tri):List ByteArray := E.map (fun p=>p.1)
def Tri.n (E:Tri):List ByteArray := E.map (fun p=>p.2.1)
theorem lookE_snoc (env:Env) (x y w:ByteArray):lookE (env++[(x,y)]) w=if x=w then y else lookE env w := by
  rw [look_app]; rfl
theorem Tri.on_fst (E:Tri):(E.on).map (·.1)=E.o := by simp [Tri.on,Tri.o]
theorem Tri.on_snd (E:Tri):(E.on).map (·.2)=E.n := by simp [Tri.on,Tri.n]
theorem Tri.look_free {E:Tri} (h:w ∉ E.o):lookE E.on w=w := by
  unfold lookE
  exact look_free_ w E h
where look_free_ (w:ByteArray) (E:Tri) (h:w ∉ E.o):(E.on).foldl (fun r p=>if p.1=w then p.2 else r) w=w := Go.Proofs.YthfokmjpbnfihaaDoor.look_free w E.on w (by rw [Tri.on_fst]; exact h)
theorem Tri.envs:∀(R:Tri),(Tri.n R.reverse).Nodup→∀w,(w∈Tri.o R.reverse∨w ∉ Tri.n R.reverse)→envV (Tri.nv R.reverse) (lookE (Tri.on R.reverse) w)=envV (Tri.ov R.reverse) w
  | [],_,w,_=>rfl
  | (x,y,v) :: R,hn,w,hw=>by
    have e1:Tri.n (((x,y,v) :: R).reverse)=Tri.n R.reverse++[y] := by simp [Tri.n]
    have e2:Tri.o (((x,y,v) :: R).reverse)=Tri.o R.reverse++[x] := by simp [Tri.o]
    have e3:Tri.on (((x,y,v) :: R).reverse)=Tri.on R.reverse++[(x,y)] := by simp [Tri.on]
    have e4:Tri.nv (((x,y,v) :: R).reverse)=Tri.nv R.reverse++[(y,v)] := by simp [Tri.nv]
    have e5:Tri.ov (((x,y,v) :: R).reverse)=Tri.ov R.reverse++[(x,v)] := by simp [Tri.ov]
    rw [e1] at hn hw
    rw [e2] at hw
    rw [e3,e4,e5,envV_snoc,envV_snoc,lookE_snoc]
    by_cases hx:x=w
    · rw [if_pos hx,if_pos hx,if_pos rfl]
    · rw [if_neg hx,if_neg hx]
      have hnd := List.nodup_append.1 hn
      have hy:y ∉ Tri.n R.reverse := fun h=>hnd.2.2 y h y (by simp) rfl
      have hw2:w∈Tri.o R.reverse∨w ∉ Tri.n R.reverse := by
        rcases hw with h | h
        · rcases List.mem_append.1 h with h | h
          · exact Or.inl h
          · exact absurd (List.mem_singleton.1 h).symm hx
        · exact Or.inr (fun h2=>h (List.mem_append_left _ h2))
      have hyl:¬ y=lookE (Tri.on R.reverse) w := by
        intro he
        by_cases hm:w∈Tri.o R.reverse
        · apply hy
          rw [he]
          have := look_bound w (Tri.on R.reverse) w (by rw [Tri.on_fst]; exact hm)
          rw [Tri.on_snd] at this
          exact this
        · rw [Tri.look_free hm] at he
          rcases hw with h | h
          · rcases List.mem_append.1 h with h | h
            · exact hm h
            · exact hx (List.mem_singleton.1 h).symm
          · exact h (List.mem_append_right _ (by rw [he]; simp))
      rw [if_neg hyl]
      exact Tri.envs R hnd.1 w hw2
theorem wordV_rn (m:Md) (E:Tri) (hn:E.n.Nodup) (w:ByteArray) (hw:w∈E.o∨w ∉ E.n):wordV m E.nv (lookE E.on w)=wordV m E.ov w := by
  have h := Tri.envs E.reverse (by rw [List.reverse_reverse]; exact hn) w (by rw [List.reverse_reverse]; exact hw)
  rw [List.reverse_reverse] at h
  unfold wordV
  rw [h]
  by_cases hm:w∈E.o
  · have:(envV E.ov w).isSome := envV_isSome' (by simpa [Tri.ov,Tri.o] using hm)
    cases he:envV E.ov w with
    | some z=>rfl
    | none=>rw [he] at this; cases this
  · rw [Tri.look_free hm]
where envV_isSome' {w:ByteArray}:∀{l:List (ByteArray × Int)},w∈l.map Prod.fst→(envV l w).isSome
  | [],h=>by simp at h
  | (y,u) :: l,h=>by
    unfold envV
    by_cases hy:w∈l.map Prod.fst
    · have := envV_isSome' hy
      cases he:envV l w with
      | some z=>rfl
      | none=>rw [he] at this; cases this
    · simp only [List.map_cons,List.mem_cons] at h
      rcases h with h | h
      · rw [if_pos h.symm]
        cases envV l w <;> rfl
      · exact absurd h hy
theorem lookE_ok {env:Env} (h:okName w=true) (he:∀p∈env,okName p.2=true):okName (lookE env w)=true := by
  by_cases hm:w∈env.map (·.1)
  · have := look_bound w env w hm
    obtain ⟨p,hp,e⟩ := List.mem_map.1 this
    have e':p.2=lookE env w := e
    rw [← e']; exact he p hp
  · have e:lookE env w=w := look_free w env w hm
    rw [e]; exact h
theorem Fv.rn_ok (nm:Nat→ByteArray):∀(v:Fv) (env:Env) (k:Nat),v.ok→(∀p∈env,okName p.2=true)→(∀j,k≤j→j<(v.rn nm env k).2→okName (nm j)=true)→(v.rn nm env k).1.ok
  | .tru,_,_,_,_,_=>trivial
  | .pred n ws,env,k,h,he,_=>by
    refine ⟨h.1,by rw [List.length_map]; exact h.2.1,?_⟩
    rw [List.all_eq_true]
    intro x hx
    obtain ⟨w,hw,rfl⟩ := List.mem_map.1 hx
    exact lookE_ok (List.all_eq_true.1 h.2.2 w hw) he
  | .same a b,env,k,h,he,_=>⟨lookE_ok h.1 he,lookE_ok h.2 he⟩
  | .neg f,env,k,h,he,hn=>Fv.rn_ok nm f env k h he hn
  | .bin j f g,env,k,h,he,hn=>by
    have h1 := Fv.rn_le nm f env k
    have h2 := Fv.rn_le nm g env (f.rn nm env k).2
    exact ⟨h.1,Fv.rn_ok nm f env k h.2.1 he (fun i a b=>hn i a (by simp only [Fv.rn]; omega)),Fv.rn_ok nm g env _ h.2.2 he (fun i a b=>hn i (by omega) b)⟩
  | .qu j x f,env,k,h,he,hn=>by
    have h1 := Fv.rn_le nm f (env++[(x,nm k)]) (k+1)
    have hk:okName (nm k)=true := hn k (Nat.le_refl _) (by simp only [Fv.rn]; omega)
    refine ⟨h.1,hk,Fv.rn_ok nm f _ (k+1) h.2.2 (fun p hp=>?_) (fun i a b=>hn i (by omega) b)⟩
    rcases List.mem_append.1 hp with hp | hp
    · exact he p hp
    · rw [List.mem_singleton.1 hp]; exact hk
theorem Fv.rn_nodes (nm:Nat→ByteArray):∀(v:Fv) (env:Env) (k:Nat),(v.rn nm env k).1.nodes=v.nodes
  | .tru,_,_ | .pred _ _,_,_ | .same _ _,_,_=>rfl
  | .neg f,env,k=>by simp only [Fv.rn,Fv.nodes]; rw [Fv.rn_nodes nm f]
  | .bin _ f g,env,k=>by simp only [Fv.rn,Fv.nodes]; rw [Fv.rn_nodes nm f,Fv.rn_nodes nm g]
  | .qu _ x f,env,k=>by simp only [Fv.rn,Fv.nodes]; rw [Fv.rn_nodes nm f]
theorem Fv.rn_depth (nm:Nat→ByteArray):∀(v:Fv) (env:Env) (k:Nat),(v.rn nm env k).1.depth=v.depth
  | .tru,_,_ | .pred _ _,_,_ | .same _ _,_,_=>rfl
  | .neg f,env,k=>by simp only [Fv.rn,Fv.depth]; rw [Fv.rn_depth nm f]
  | .bin _ f g,env,k=>by simp only [Fv.rn,Fv.depth]; rw [Fv.rn_depth nm f,Fv.rn_depth nm g]
  | .qu _ x f,env,k=>by simp only [Fv.rn,Fv.depth]; rw [Fv.rn_depth nm f]
end
noncomputable section
variable {c:Con} {m:Md} {w x y:ByteArray} {z:Int} {cs':List Con}

def hereB (v:Nat):ByteArray := ⟨#[97,UInt8.ofNat (48+v % 10),45,104,101,114,101]⟩
def hereS (s:ByteArray):ByteArray := (⟨#[97]⟩++s)++⟨#[45,104,101,114,101]⟩
def putG:Bool→List Con→Con→List Con
  | d,[],c=>if d=true then [] else [c]
  | d,x :: l,c=>if (d || decide (x.nm=c.nm))=false∧Op.bytesLess c.nm.toList x.nm.toList=true then c :: x :: putG true l c else x :: putG (d || decide (x.nm=c.nm)) l c
def hereL (sz:Nat):List Con := (List.range sz).map (fun v=>⟨hereB v,(v:Int)⟩)
def putL (l:List Con) (cs:List Con):List Con := cs.foldl (putG false) l
def Md.here (m:Md):Md := ⟨m.sz,putL (hereL m.sz.toNat) m.cs,m.rs⟩
abbrev Sorted (l:List Con):Prop := l.Pairwise (fun a b=>cmpS a.nm b.nm<0)
theorem putG_true (c:Con):∀l,putG true l c=l
  | []=>rfl
  | x :: l=>by
    unfold putG
    rw [if_neg (by simp),Bool.true_or,putG_true c l]
theorem putG_mem:∀{l:List Con},Sorted l→(∀x∈l,x.nm≠c.nm)→(∀y,y∈putG false l c ↔ y=c∨y∈l)∧Sorted (putG false l c)∧(putG false l c).length=l.length+1
  | [],_,_=>by simp [putG]
  | x :: l,h,hn=>by
    obtain ⟨h1,h2⟩ := List.pairwise_cons.1 h
    have hx := hn x (by simp)
    have e0:(false || decide (x.nm=c.nm))=false := by simpa using hx
    unfold putG
    rw [e0]
    by_cases hl:Op.bytesLess c.nm.toList x.nm.toList=true
    · rw [if_pos ⟨rfl,hl⟩,putG_true]
      refine ⟨fun y=>by simp,?_,by simp⟩
      have hcx:cmpS c.nm x.nm<0 := cmpS_lt.2 hl
      refine List.pairwise_cons.2 ⟨fun y hy=>?_,h⟩
      rcases List.mem_cons.1 hy with rfl | hy
      · exact hcx
      · have := h1 y hy
        exact cmpS_trans hcx (by omega)
    · rw [if_neg (fun h=>hl h.2)]
      obtain ⟨i1,i2,i3⟩ := putG_mem h2 (fun y hy=>hn y (List.mem_cons_of_mem _ hy))
      refine ⟨fun y=>?_,?_,by simp [i3]⟩
      · rw [List.mem_cons,i1,List.mem_cons]
        constructor
        · rintro (h | h | h)
          · exact Or.inr (Or.inl h)
          · exact Or.inl h
          · exact Or.inr (Or.inr h)
        · rintro (h | h | h)
          · exact Or.inr (Or.inl h)
          · exact Or.inl h
          · exact Or.inr (Or.inr h)
      · refine List.pairwise_cons.2 ⟨fun y hy=>?_,i2⟩
        rcases (i1 y).1 hy with rfl | hy
        · have h3:cmpS x.nm y.nm≤0 := cmpS_le.2 (by simpa using hl)
          have h4:cmpS x.nm y.nm≠0 := fun e=>hx (cmpS_eq.1 e)
          omega
        · exact h1 y hy
theorem putL_mem:∀(cs l:List Con),Sorted l→Sorted cs→(∀c∈cs,∀x∈l,x.nm≠c.nm)→(∀y,y∈putL l cs ↔ y∈l∨y∈cs)∧Sorted (putL l cs)∧(putL l cs).length=l.length+cs.length
  | [],l,h,_,_=>⟨fun y=>by simp [putL],h,rfl⟩
  | c :: cs,l,h,hc,hn=>by
    obtain ⟨c1,c2⟩ := List.pairwise_cons.1 hc
    obtain ⟨i1,i2,i3⟩ := putG_mem h (hn c (by simp))
    obtain ⟨j1,j2,j3⟩ := putL_mem cs (putG false l c) i2 c2 (fun d hd x hx=>by
      rcases (i1 x).1 hx with rfl | hx
      · intro e
        have := c1 d hd
        rw [cmpS_eq.2 e] at this
        omega
      · exact hn d (List.mem_cons_of_mem _ hd) x hx)
    refine ⟨fun y=>?_,j2,?_⟩
    · rw [show putL l (c :: cs)=putL (putG false l c) cs from rfl,j1,i1,List.mem_cons]
      constructor
      · rintro ((h | h) | h)
        · exact Or.inr (Or.inl h)
        · exact Or.inl h
        · exact Or.inr (Or.inr h)
      · rintro (h | h | h)
        · exact Or.inl (Or.inr h)
        · exact Or.inl (Or.inl h)
        · exact Or.inr h
    · rw [show putL l (c :: cs)=putL (putG false l c) cs from rfl,j3,i3,List.length_cons]; omega
theorem conL_some {cs:List Con} (h:Sorted cs) {c:Con} (hc:c∈cs):(cs.find? (fun d=>decide (cmpS d.nm c.nm=0))).map Con.v=some c.v := by
  induction cs with
  | nil=>cases hc
  | cons d cs ih =>
    obtain ⟨h1,h2⟩ := List.pairwise_cons.1 h
    rcases List.mem_cons.1 hc with rfl | hc
    · rw [List.find?_cons_of_pos (by simp [cmpS_eq.2 rfl])]; rfl
    · rw [List.find?_cons_of_neg (by have := h1 c hc; simp; omega)]
      exact ih h2 hc
theorem consF_of {sz:Int}:∀(l:List Con) (prev:Option Con) (i:Nat),Sorted l→(∀p,prev=some p→∀c∈l,cmpS p.nm c.nm<0)→(∀c∈l,okName c.nm=true∧badV sz c.v=false)→(consF sz prev i l).1=0
  | [],_,_,_,_,_=>rfl
  | c :: l,prev,i,h,hp,hk=>by
    obtain ⟨h1,h2⟩ := List.pairwise_cons.1 h
    obtain ⟨k1,k2⟩ := hk c (by simp)
    have h0:conCode sz prev c=0 := by
      unfold conCode
      rw [if_neg (by rw [k1]; decide),if_neg,if_neg (by rw [k2]; decide)]
      cases prev with
      | none=>simp
      | some p=>have := hp p rfl c (by simp); simp; omega
    unfold consF
    rw [if_pos h0]
    exact consF_of l (some c) (i+1) h2 (fun p e d hd=>by obtain rfl := Option.some.inj e; exact h1 d hd) (fun d hd=>hk d (List.mem_cons_of_mem _ hd))
theorem hereB_okC:∀v,v<6→okName (hereB v)=true := by decide +kernel
theorem hereB_ltC:∀v,v<6→∀u,u<v→cmpS (hereB u) (hereB v)<0 := by decide +kernel
theorem hereL_sorted {sz:Nat} (h:sz≤6):Sorted (hereL sz) := by
  unfold hereL
  refine List.pairwise_map.2 ?_
  refine List.Pairwise.imp_of_mem ?_ (List.pairwise_lt_range (n := sz))
  intro a b _ hb hab
  exact hereB_ltC b (by have := List.mem_range.1 hb; omega) a hab
theorem hereL_mem {sz:Nat}:c∈hereL sz ↔ ∃v,v<sz∧c=⟨hereB v,(v:Int)⟩ := by
  unfold hereL
  simp only [List.mem_map,List.mem_range]
  constructor
  · rintro ⟨v,h,rfl⟩; exact ⟨v,h,rfl⟩
  · rintro ⟨v,h,rfl⟩; exact ⟨v,h,rfl⟩
structure HereOk (m:Md):Prop where
  good:m.good
  few:m.cs.length≤250
  new:∀c∈m.cs,∀v,v<m.sz.toNat→c.nm≠hereB v
theorem HereOk.cons (h:HereOk m):(∀y,y∈m.here.cs ↔ y∈hereL m.sz.toNat∨y∈m.cs)∧Sorted m.here.cs∧m.here.cs.length=m.sz.toNat+m.cs.length := by
  have hz := h.good.sz
  obtain ⟨h1,h2,h3⟩ := putL_mem m.cs (hereL m.sz.toNat) (hereL_sorted (by omega)) h.good.cs (fun c hc x hx e=>by
    obtain ⟨v,hv,rfl⟩ := hereL_mem.1 hx
    exact h.new c hc v hv e.symm)
  refine ⟨h1,h2,?_⟩
  rw [show m.here.cs=putL (hereL m.sz.toNat) m.cs from rfl,h3]
  unfold hereL
  rw [List.length_map,List.length_range]
theorem HereOk.fault (h:HereOk m) (hm:(mdFault m).1=0):(mdFault m.here).1=0 := by
  obtain ⟨h1,h2,h3⟩ := h.cons
  have hz := h.good.sz
  have hr:(relsF m.sz none 0 m.rs).1=0 := by
    unfold mdFault at hm
    split at hm
    · exact absurd hm (by simp)
    split at hm
    · exact absurd hm (by simp)
    split at hm
    · exact hm
    · rename_i e; exact absurd hm e
  have hc:(consF m.sz none 0 m.here.cs).1=0 := by
    refine consF_of _ _ _ h2 (fun p e=>by cases e) (fun c hc=>?_)
    rcases (h1 c).1 hc with hc | hc
    · obtain ⟨v,hv,rfl⟩ := hereL_mem.1 hc
      exact ⟨hereB_okC v (by omega),by unfold badV; simp; omega⟩
    · exact h.good.ck c hc
  unfold mdFault
  rw [if_neg (by show ¬ (m.sz<1∨6<m.sz); omega),if_neg (by have := h.few; have := h.good.nr; rw [h3]; show ¬ (_∨300<m.rs.length); omega),if_pos (show (consF m.here.sz none 0 m.here.cs).1=0 from hc)]
  exact hr
theorem HereOk.conNew (h:HereOk m) {v:Nat} (hv:v<m.sz.toNat):conV m.here (hereB v)=some (v:Int) := by
  obtain ⟨h1,h2,h3⟩ := h.cons
  exact conL_some h2 (c := ⟨hereB v,v⟩) ((h1 _).2 (Or.inl (hereL_mem.2 ⟨v,hv,rfl⟩)))
theorem conV_mem (h:conV m w=some z):∃c∈m.cs,c.nm=w∧c.v=z := by
  unfold conV at h
  cases hf:m.cs.find? (fun c=>decide (cmpS c.nm w=0)) with
  | none=>rw [hf] at h; cases h
  | some c =>
    rw [hf] at h
    have h1 := List.find?_some hf
    simp only [decide_eq_true_eq] at h1
    exact ⟨c,List.mem_of_find?_eq_some hf,cmpS_eq.1 h1,Option.some.inj h⟩
theorem HereOk.conOld (h:HereOk m) {w:ByteArray} (hw:(conV m w).isSome=true):conV m.here w=conV m w := by
  obtain ⟨h1,h2,h3⟩ := h.cons
  obtain ⟨z,hz⟩ := Option.isSome_iff_exists.1 hw
  obtain ⟨c,hc,rfl,rfl⟩ := conV_mem hz
  rw [hz]
  exact conL_some h2 ((h1 _).2 (Or.inr hc))
theorem lookE_cons {e:Env} (h:w ∉ e.map (·.1)):lookE ((x,y) :: e) w=if x=w then y else w := by
  unfold lookE
  rw [List.foldl_cons,look_free w e _ h]
theorem look_ins:∀(e:Env) (r r':ByteArray),w∈e.map (·.1)→e.foldl (fun r p=>if p.1=w then p.2 else r) r=e.foldl (fun r p=>if p.1=w then p.2 else r) r'
  | [],_,_,h=>by simp at h
  | p :: e,r,r',h=>by
    rw [List.foldl_cons,List.foldl_cons]
    by_cases hp:p.1=w
    · rw [if_pos hp,if_pos hp]
    · rw [if_neg hp,if_neg hp]
      simp only [List.map_cons,List.mem_cons] at h
      rcases h with h | h
      · exact absurd h.symm hp
      · exact look_ins e r r' h
theorem envV_noneI:∀{l:List (ByteArray × Int)},w ∉ l.map Prod.fst→envV l w=none
  | [],_=>rfl
  | (y,u) :: l,h=>by
    simp only [List.map_cons,List.mem_cons,not_or] at h
    unfold envV
    rw [envV_noneI h.2,if_neg (fun e=>h.1 e.symm)]; rfl
theorem Tri.ov_fst (E:Tri):E.ov.map Prod.fst=E.o := by simp [Tri.ov,Tri.o]
theorem Tri.nv_fst (E:Tri):E.nv.map Prod.fst=E.n := by simp [Tri.nv,Tri.n]
theorem word_ins (hy:conV ⟨m.sz,cs',m.rs⟩ y=some z) {E:Tri} (hn:E.n.Nodup) (hyE:y ∉ E.n) {w:ByteArray} (hw:w∈E.o∨(x=w∨(w ∉ E.n∧conV ⟨m.sz,cs',m.rs⟩ w=conV m w))) :
    wordV ⟨m.sz,cs',m.rs⟩ E.nv (lookE ((x,y) :: E.on) w)=wordV m ((x,z) :: E.ov) w := by
  by_cases ho:w∈E.o
  · have e1:lookE ((x,y) :: E.on) w=lookE E.on w := by
      unfold lookE
      rw [List.foldl_cons]
      exact look_ins E.on _ _ (by rw [Tri.on_fst]; exact ho)
    rw [e1,wordV_rn _ E hn w (Or.inl ho)]
    have hs:(envV E.ov w).isSome=true := wordV_rn.envV_isSome' (by rw [Tri.ov_fst]; exact ho)
    obtain ⟨u,hu⟩ := Option.isSome_iff_exists.1 hs
    unfold wordV
    rw [hu]
    unfold envV
    rw [hu]; rfl
  · have hwo:envV E.ov w=none := envV_noneI (by rw [Tri.ov_fst]; exact ho)
    rw [lookE_cons (by rw [Tri.on_fst]; exact ho)]
    by_cases hx:x=w
    · rw [if_pos hx]
      unfold wordV
      rw [envV_noneI (w := y) (by rw [Tri.nv_fst]; exact hyE),hy]
      unfold envV
      rw [hwo,if_pos hx]; rfl
    · rw [if_neg hx]
      rcases hw with h | h | h
      · exact absurd h ho
      · exact absurd h hx
      · unfold wordV
        rw [envV_noneI (w := w) (by rw [Tri.nv_fst]; exact h.1),h.2]
        unfold envV
        rw [hwo,if_neg hx]; rfl
theorem evalF_ins (hy:conV ⟨m.sz,cs',m.rs⟩ y=some z) {nm:Nat→ByteArray} (hi:∀i j,nm i=nm j→i=j) (hyn:∀j,y≠nm j):∀(v:Fv) (E:Tri) (k:Nat),v.ok→E.n.Nodup→(∀a∈E.n,∃j,j<k∧a=nm j)→(∀w∈fmFrees (x :: E.o) v.fm,(∀j,w≠nm j)∧conV ⟨m.sz,cs',m.rs⟩ w=conV m w)→evalF ⟨m.sz,cs',m.rs⟩ (v.rn nm ((x,y) :: E.on) k).1 E.nv=evalF m v ((x,z) :: E.ov) := by
  have hword:∀(E:Tri) (k:Nat) (ws:List ByteArray),E.n.Nodup→(∀a∈E.n,∃j,j<k∧a=nm j)→(∀w∈ws,hasB (x :: E.o) w=false→(∀j,w≠nm j)∧conV ⟨m.sz,cs',m.rs⟩ w=conV m w)→∀w∈ws,wordV ⟨m.sz,cs',m.rs⟩ E.nv (lookE ((x,y) :: E.on) w)=wordV m ((x,z) :: E.ov) w := by
    intro E k ws hn hj hf w hw
    refine word_ins hy hn (fun h=>by obtain ⟨j,_,e⟩ := hj y h; exact hyn j e) ?_
    by_cases hb:hasB (x :: E.o) w=true
    · rcases List.mem_cons.1 (hasB_iff.1 hb) with h | h
      · exact Or.inr (Or.inl h.symm)
      · exact Or.inl h
    · obtain ⟨h1,h2⟩ := hf w hw (by simpa using hb)
      exact Or.inr (Or.inr ⟨fun h=>by obtain ⟨j,_,e⟩ := hj w h; exact h1 j e,h2⟩)
  intro v
  induction v with
  | tru=>intro E k _ _ _ _; rfl
  | pred n ws =>
    intro E k hv hn hj hf
    have h := hword E k ws hn hj (fun w hw hb=>hf w (by simp only [Fv.fm,fmFrees,fmFreess,List.append_nil,List.mem_filter]; exact ⟨hw,by simp [hb]⟩))
    simp only [Fv.rn,evalF]
    rw [List.map_map,show ws.map (wordV ⟨m.sz,cs',m.rs⟩ E.nv ∘ lookE ((x,y) :: E.on))=ws.map (wordV m ((x,z) :: E.ov)) from List.map_congr_left (fun w hw=>h w hw)]
    rfl
  | same a b =>
    intro E k hv hn hj hf
    have h := hword E k [a,b] hn hj (fun w hw hb=>hf w (by simp only [Fv.fm,fmFrees,fmFreess,List.append_nil,List.mem_filter]; exact ⟨hw,by simp [hb]⟩))
    simp only [Fv.rn,evalF]
    rw [h a (by simp),h b (by simp)]
  | neg f ih =>
    intro E k hv hn hj hf
    simp only [Fv.rn,evalF]
    rw [ih E k hv hn hj (fun w hw=>hf w (by simpa [Fv.fm,fmFrees,fmFreess] using hw))]
  | bin j f g ihf ihg =>
    intro E k hv hn hj hf
    have hk := hv.1
    have he:fmFrees (x :: E.o) (Fv.bin j f g).fm=fmFrees (x :: E.o) f.fm++fmFrees (x :: E.o) g.fm := by
      simp only [Fv.fm,fmFrees,fmFreess,List.filter_nil,List.nil_append,List.append_nil]
      rw [if_neg (by omega)]
    rw [he] at hf
    have hle := Fv.rn_le nm f ((x,y) :: E.on) k
    simp only [Fv.rn,evalF]
    rw [ihf E k hv.2.1 hn hj (fun w hw=>hf w (List.mem_append_left _ hw)),ihg E _ hv.2.2 hn (fun a ha=>by obtain ⟨j,h1,h2⟩ := hj a ha; exact ⟨j,by omega,h2⟩) (fun w hw=>hf w (List.mem_append_right _ hw))]
  | qu j q f ih =>
    intro E k hv hn hj hf
    have hk := hv.1
    have he:fmFrees (x :: E.o) (Fv.qu j q f).fm=fmFrees (x :: (E.o++[q])) f.fm := by
      simp only [Fv.fm,fmFrees,fmFreess,List.filter_nil,List.nil_append,List.append_nil,List.cons_append]
      rw [if_pos (by omega)]
    rw [he] at hf
    have ih2:∀u:Int,evalF ⟨m.sz,cs',m.rs⟩ (f.rn nm (((x,y) :: E.on)++[(q,nm k)]) (k+1)).1 (E.nv++[(nm k,u)])=evalF m f (((x,z) :: E.ov)++[(q,u)]) := by
      intro u
      have e1:Tri.n (E++[(q,nm k,u)])=E.n++[nm k] := by simp [Tri.n]
      have e2:Tri.o (E++[(q,nm k,u)])=E.o++[q] := by simp [Tri.o]
      have e3:Tri.on (E++[(q,nm k,u)])=E.on++[(q,nm k)] := by simp [Tri.on]
      have e4:Tri.nv (E++[(q,nm k,u)])=E.nv++[(nm k,u)] := by simp [Tri.nv]
      have e5:Tri.ov (E++[(q,nm k,u)])=E.ov++[(q,u)] := by simp [Tri.ov]
      have := ih (E++[(q,nm k,u)]) (k+1) hv.2.2 (by
        rw [e1]
        refine List.nodup_append.2 ⟨hn,by simp,?_⟩
        intro a ha b hb hab
        obtain ⟨i,hik,rfl⟩ := hj a ha
        have hb := List.mem_singleton.1 hb
        have := hi i k (by rw [hab,hb])
        omega) (by
        rw [e1]
        intro a ha
        rcases List.mem_append.1 ha with ha | ha
        · obtain ⟨i,h1,h2⟩ := hj a ha; exact ⟨i,by omega,h2⟩
        · exact ⟨k,by omega,List.mem_singleton.1 ha⟩) (by rw [e2]; exact hf)
      rw [e3,e4,e5] at this
      exact this
    simp only [Fv.rn,evalF,ih2]
    rfl
theorem hereB_vB {v n:Nat}:hereB v≠vB n := by
  intro e
  have h := congrArg (fun b:ByteArray=>b.data.toList.head?) e
  simp [hereB,vB] at h
theorem frees_cons (x:ByteArray):∀v:Fv,v.ok→∀(bd:List ByteArray) (w:ByteArray),w∈fmFrees (x :: bd) v.fm ↔ w∈fmFrees bd v.fm∧x≠w := by
  have hws:∀(ws bd:List ByteArray) (w:ByteArray),w∈ws.filter (fun w=>!hasB (x :: bd) w) ↔ w∈ws.filter (fun w=>!hasB bd w)∧x≠w := by
    intro ws bd w
    simp only [List.mem_filter,hasB,List.any_cons,Bool.not_or,Bool.and_eq_true,Bool.not_eq_true',decide_eq_false_iff_not]
    constructor
    · rintro ⟨h1,h2,h3⟩; exact ⟨⟨h1,h3⟩,h2⟩
    · rintro ⟨⟨h1,h3⟩,h2⟩; exact ⟨h1,h2,h3⟩
  intro v
  induction v with
  | tru=>intro _ bd w; simp [Fv.fm,fmFrees,fmFreess]
  | pred n ws =>
    intro _ bd w
    simp only [Fv.fm,fmFrees,fmFreess,List.append_nil]
    exact hws ws bd w
  | same a b =>
    intro _ bd w
    simp only [Fv.fm,fmFrees,fmFreess,List.append_nil]
    exact hws [a,b] bd w
  | neg f ih =>
    intro h bd w
    have := ih h bd w
    simpa [Fv.fm,fmFrees,fmFreess] using this
  | bin j f g ihf ihg =>
    intro h bd w
    have hk := h.1
    have he:∀bd,fmFrees bd (Fv.bin j f g).fm=fmFrees bd f.fm++fmFrees bd g.fm := by
      intro bd
      simp only [Fv.fm,fmFrees,fmFreess,List.filter_nil,List.nil_append,List.append_nil]
      rw [if_neg (by omega)]
    rw [he,he,List.mem_append,List.mem_append,ihf h.2.1,ihg h.2.2]
    constructor
    · rintro (⟨h1,h2⟩ | ⟨h1,h2⟩)
      · exact ⟨Or.inl h1,h2⟩
      · exact ⟨Or.inr h1,h2⟩
    · rintro ⟨h1 | h1,h2⟩
      · exact Or.inl ⟨h1,h2⟩
      · exact Or.inr ⟨h1,h2⟩
  | qu j q f ih =>
    intro h bd w
    have hk := h.1
    have he:∀bd,fmFrees bd (Fv.qu j q f).fm=fmFrees (bd++[q]) f.fm := by
      intro bd
      simp only [Fv.fm,fmFrees,fmFreess,List.filter_nil,List.nil_append,List.append_nil]
      rw [if_pos (by omega)]
    rw [he,he]
    exact ih h.2.2 (bd++[q]) w
end

end Go.Proofs.YthfokmjpbnfihaaDoor
