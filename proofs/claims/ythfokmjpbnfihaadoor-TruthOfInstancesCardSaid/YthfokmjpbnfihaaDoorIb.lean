/- Lemmas. -/
import Derived.Test.YthfokmjpbnfihaaDoorIa
namespace Go.Proofs.YthfokmjpbnfihaaDoor
open Go Go.RowKit
set_option linter.unusedSimpArgs false
set_option linter.unusedVariables false
noncomputable section
def isLow (c:UInt8):Bool := decide (97≤c.toNat) && decide (c.toNat≤122)
def isOther (c:UInt8):Bool := (decide (48≤c.toNat) && decide (c.toNat≤57)) || decide (c.toNat=95) || decide (c.toNat=45)
def okName (s:ByteArray):Bool := decide (1≤s.size) && decide (s.size≤30) && isLow (s.data.toList.headD 0) && s.data.toList.all (fun c=>isLow c || isOther c)
end
noncomputable section
variable {w:World} {S:Nat→Prop} {cells:List Value} {sz:Int}

def zRep:Rep Int where
  size := 1
  R _ _ a cs := cs=[.int .i64 a]
  pos := by omega
  len := by rintro w S a cs rfl; rfl
  one := by rintro w S a cs rfl u hu; simp at hu; subst hu; rfl
  keep := by rintro w w' S S' a cs h _ _; exact h
def intsRep:Rep (List Int) where
  size := 1
  R w S l cs := ∃v,cs=[v]∧zRep.Sl w S v l
  pos := by omega
  len := by rintro w S a cs ⟨v,rfl,_⟩; rfl
  one := by
    rintro w S a cs ⟨v,rfl,A,n,c,rfl,_⟩ u hu
    simp at hu; subst hu; rfl
  keep := by
    rintro w w' S S' a cs ⟨v,rfl,h⟩ hk hS
    exact ⟨v,rfl,h.keep hk hS⟩
structure Con where
  nm:ByteArray
  v:Int
def conRep:Rep Con where
  size := 2
  R _ _ a cs := cs=[.string a.nm,.int .i64 a.v]∧a.nm.size≤maxLen
  pos := by omega
  len := by rintro w S a cs ⟨rfl,_⟩; rfl
  one := by
    rintro w S a cs ⟨rfl,_⟩ u hu
    simp at hu; rcases hu with rfl | rfl <;> rfl
  keep := by rintro w w' S S' a cs h _ _; exact h
structure Rel where
  nm:ByteArray
  ar:Int
  tp:List (List Int)
def relRep:Rep Rel where
  size := 3
  R w S a cs := ∃v,cs=[.string a.nm,.int .i64 a.ar,v]∧a.nm.size≤maxLen∧intsRep.Sl w S v a.tp
  pos := by omega
  len := by rintro w S a cs ⟨v,rfl,_⟩; rfl
  one := by
    rintro w S a cs ⟨v,rfl,_,A,n,c,rfl,_⟩ u hu
    simp at hu; rcases hu with rfl | rfl | rfl <;> rfl
  keep := by
    rintro w w' S S' a cs ⟨v,rfl,h0,h⟩ hk hS
    exact ⟨v,rfl,h0,h.keep hk hS⟩
structure Md where
  sz:Int
  cs:List Con
  rs:List Rel
def Md.In (w:World) (S:Nat→Prop) (m:Md) (cells:List Value):Prop := ∃va vb,cells=[.int .i64 m.sz,va,vb]∧conRep.Sl w S va m.cs∧relRep.Sl w S vb m.rs
theorem Md.In.keep {w':World} {S':Nat→Prop} {m:Md} (h:m.In w S cells) (hk:∀b,S b→w'.heap[b]? = w.heap[b]?) (hS:∀b,S b→S' b):m.In w' S' cells := by
  obtain ⟨va,vb,rfl,h1,h2⟩ := h
  exact ⟨va,vb,rfl,h1.keep hk hS,h2.keep hk hS⟩
theorem Rep.Sl.shape {α:Type} {ρ:Rep α} {v:Value} {l:List α} (h:ρ.Sl w S v l):∃A c,v=.slice A l.length c∧l.length≤maxLen := by
  obtain ⟨A,n,c,rfl,h1,h2,_⟩ := h
  subst h1
  exact ⟨A,c,rfl,h2⟩
theorem Md.shape {m:Md} (h:m.In w S cells):∃A c B d,cells=[.int .i64 m.sz,.slice A m.cs.length c,.slice B m.rs.length d]∧m.cs.length≤maxLen∧m.rs.length≤maxLen ∧
    conRep.Sl w S (.slice A m.cs.length c) m.cs∧relRep.Sl w S (.slice B m.rs.length d) m.rs := by
  obtain ⟨va,vb,rfl,h1,h2⟩ := h
  obtain ⟨A,c,rfl,h3⟩ := h1.shape
  obtain ⟨B,d,rfl,h4⟩ := h2.shape
  exact ⟨A,c,B,d,rfl,h3,h4,h1,h2⟩
theorem less_irr:∀a:List UInt8,Op.bytesLess a a=false
  | []=>rfl
  | a :: l=>by simp [Op.bytesLess,less_irr l]
theorem less_tri:∀a b:List UInt8,Op.bytesLess a b=false→Op.bytesLess b a=false→a=b
  | [],[],_,_=>rfl
  | [],_ :: _,h,_=>by simp [Op.bytesLess] at h
  | _ :: _,[],_,h=>by simp [Op.bytesLess] at h
  | a :: l,b :: r,h1,h2=>by
    simp only [Op.bytesLess,Bool.or_eq_false_iff,decide_eq_false_iff_not,Bool.and_eq_false_iff,beq_eq_false_iff_ne] at h1 h2
    have e:a=b := by
      have h3:¬ a.toNat<b.toNat := h1.1
      have h4:¬ b.toNat<a.toNat := h2.1
      exact UInt8.toNat_inj.1 (by omega)
    subst e
    rw [less_tri l r (h1.2.resolve_left (fun h=>h rfl)) (h2.2.resolve_left (fun h=>h rfl))]
def cmpS (a b:ByteArray):Int := if Op.bytesLess a.toList b.toList=true then -1 else if Op.bytesLess b.toList a.toList=true then 1 else 0
def cmpI (a b:Int):Int := if a<b then -1 else if b<a then 1 else 0
def cmpR (a b:Rel):Int := if cmpS a.nm b.nm≠0 then cmpS a.nm b.nm else cmpI a.ar b.ar
def cmpL:List Int→List Int→Int
  | [],[]=>0
  | [],_ :: _=>-1
  | _ :: _,[]=>1
  | a :: l,b :: r=>if cmpI a b≠0 then cmpI a b else cmpL l r
def codeN (sz:Int):Int→List Int→Int
  | n,[]=>n
  | n,v :: l=>codeN sz (n * sz+v) l
theorem cmpS_ge (a b:ByteArray):(0≤cmpS a b) ↔ Op.bytesLess a.toList b.toList=false := by
  unfold cmpS
  cases h:Op.bytesLess a.toList b.toList
  · simp; split <;> omega
  · simp
def badV (sz v:Int):Bool := decide (v<0∨sz≤v)
def conCode (sz:Int) (prev:Option Con) (c:Con):Nat :=
  if okName c.nm=false then 10 else if (prev.any fun p=>decide (0≤cmpS p.nm c.nm))=true then 13 else if badV sz c.v=true then 3 else 0
def consF (sz:Int):Option Con→Nat→List Con→Nat × Nat
  | _,_,[]=>(0,0)
  | prev,i,c :: l=>if conCode sz prev c=0 then consF sz (some c) (i+1) l else (conCode sz prev c,i)
def tupCode (sz ar:Int) (prev:Option (List Int)) (t:List Int):Nat :=
  if (t.length:Int)≠ar then 9 else if t.any (badV sz)=true then 3 else if (prev.any fun p=>decide (0≤cmpL p t))=true then 13 else 0
def tupsF (sz ar:Int):Option (List Int)→List (List Int)→Nat
  | _,[]=>0
  | prev,t :: l=>if tupCode sz ar prev t=0 then tupsF sz ar (some t) l else tupCode sz ar prev t
def relCode (sz:Int) (prev:Option Rel) (x:Rel):Nat :=
  if okName x.nm=false then 10 else if x.ar<0∨3<x.ar then 3 else if (prev.any fun p=>decide (0≤cmpR p x))=true then 13 else tupsF sz x.ar none x.tp
def relsF (sz:Int):Option Rel→Nat→List Rel→Nat × Nat
  | _,_,[]=>(0,0)
  | prev,i,c :: l=>if relCode sz prev c=0 then relsF sz (some c) (i+1) l else (relCode sz prev c,i)
def mdFault (m:Md):Nat × Nat :=
  if m.sz<1∨6<m.sz then (3,0)
  else if 300<m.cs.length∨300<m.rs.length then (2,0)
  else if (consF m.sz none 0 m.cs).1=0 then relsF m.sz none 0 m.rs else consF m.sz none 0 m.cs
theorem codeN_lin (sz:Int):∀(l:List Int) (n:Int),codeN sz n l=n * sz ^ l.length+codeN sz 0 l
  | [],n=>by simp [codeN]
  | v :: l,n=>by
    simp only [codeN,List.length_cons,Int.zero_mul,Int.zero_add]
    rw [codeN_lin sz l (n * sz+v),codeN_lin sz l v,Int.pow_succ,Int.add_mul,Int.mul_comm (sz ^ l.length) sz,← Int.mul_assoc]
    omega
theorem codeN_bound (hs:1≤sz):∀(l:List Int),l.any (badV sz)=false→0≤codeN sz 0 l∧codeN sz 0 l<sz ^ l.length
  | [],_=>by simp [codeN]
  | v :: l,h=>by
    simp only [List.any_cons,Bool.or_eq_false_iff,badV,decide_eq_false_iff_not] at h
    obtain ⟨h1,h2⟩ := h
    obtain ⟨h3,h4⟩ := codeN_bound hs l h2
    have hp:0<sz ^ l.length := Int.pow_pos (by omega)
    simp only [codeN,Int.zero_mul,Int.zero_add,List.length_cons]
    rw [codeN_lin,Int.pow_succ]
    have hv0:0≤v := by omega
    have hv1:v≤sz - 1 := by omega
    have k1:0≤v * sz ^ l.length := Int.mul_nonneg hv0 (by omega)
    have k2:v * sz ^ l.length≤(sz - 1) * sz ^ l.length := Int.mul_le_mul_of_nonneg_right hv1 (by omega)
    have k3:(sz - 1) * sz ^ l.length=sz ^ l.length * sz - sz ^ l.length := by rw [Int.sub_mul,Int.one_mul,Int.mul_comm]
    omega
theorem cmpL_code (hs:1≤sz):∀(a b:List Int),a.length=b.length→a.any (badV sz)=false→b.any (badV sz)=false→((0≤cmpL a b) ↔ codeN sz 0 b≤codeN sz 0 a)
  | [],[],_,_,_=>by simp [cmpL]
  | [],_ :: _,h,_,_=>by simp at h
  | _ :: _,[],h,_,_=>by simp at h
  | u :: l,v :: r,h,h1,h2=>by
    simp only [List.length_cons,Nat.add_right_cancel_iff] at h
    simp only [List.any_cons,Bool.or_eq_false_iff] at h1 h2
    have ih := cmpL_code hs l r h h1.2 h2.2
    obtain ⟨b1,b2⟩ := codeN_bound hs l h1.2
    obtain ⟨b3,b4⟩ := codeN_bound hs r h2.2
    have hp:0<sz ^ l.length := Int.pow_pos (by omega)
    simp only [codeN,Int.zero_mul,Int.zero_add]
    rw [codeN_lin sz l,codeN_lin sz r,← h]
    rw [← h] at b4
    unfold cmpL cmpI
    by_cases e1:u<v
    · have k:u * sz ^ l.length+sz ^ l.length≤v * sz ^ l.length := by
        have := Int.mul_le_mul_of_nonneg_right (show u+1≤v by omega) (show (0:Int)≤sz ^ l.length by omega)
        rw [Int.add_mul,Int.one_mul] at this; exact this
      simp only [e1,if_true]
      constructor
      · intro hh; simp at hh
      · intro hh; omega
    · by_cases e2:v<u
      · have k:v * sz ^ l.length+sz ^ l.length≤u * sz ^ l.length := by
          have := Int.mul_le_mul_of_nonneg_right (show v+1≤u by omega) (show (0:Int)≤sz ^ l.length by omega)
          rw [Int.add_mul,Int.one_mul] at this; exact this
        simp only [e1,e2,if_true,if_false]
        constructor
        · intro _; omega
        · intro _; simp
      · obtain rfl:u=v := by omega
        simp only [e1,if_false,ne_eq,not_true_eq_false]
        rw [ih]
        omega
end

end Go.Proofs.YthfokmjpbnfihaaDoor
