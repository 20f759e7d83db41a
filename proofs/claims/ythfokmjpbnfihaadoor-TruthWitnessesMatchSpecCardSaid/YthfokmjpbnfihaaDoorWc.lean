/- Lemmas. -/
import Derived.Test.YthfokmjpbnfihaaDoorProg
import Derived.Test.YthfokmjpbnfihaaDoorWb
namespace Go.Proofs.YthfokmjpbnfihaaDoor
open Go Go.RowKit
set_option linter.unusedSimpArgs false
set_option linter.unusedVariables false
noncomputable section
set_option maxRecDepth 100000
set_option maxHeartbeats 1600000

def okByte (c:UInt8):Bool := isLow c || isOther c
theorem okName_eq (s:ByteArray):okName s=(decide (1≤s.size) && decide (s.size≤30) && isLow (s.data.toList.headD 0) && s.data.toList.all okByte) := rfl
theorem all_snoc (s:ByteArray) (k:Nat) (h:k<s.size):(s.data.toList.take (k+1)).all okByte=((s.data.toList.take k).all okByte && okByte s[k]) := by
  rw [List.take_succ_eq_append_getElem (by simpa using h)]; simp; rfl
theorem head_at (s:ByteArray) (h:0<s.size):s.data.toList.headD 0=s[0] := by
  obtain ⟨⟨l⟩⟩ := s
  cases l with
  | nil=>simp [ByteArray.size] at h
  | cons a l=>rfl
theorem all_bad (s:ByteArray) (k:Nat) (h:k<s.size) (hb:okByte s[k]=false):s.data.toList.all okByte=false := by
  rw [List.all_eq_false]
  refine ⟨s[k],?_,by simp [hb]⟩
  have:s[k]=s.data.toList[k]'(by simpa using h) := rfl
  rw [this]; exact List.getElem_mem _
theorem name_any (s:ByteArray) (w:World) (hs:s.size≤maxLen) :
    Calls Tryd.prog 32 #[.string s] w fun e w'=>e=.returned (.bool (okName s))∧w=w' := by
  unfold maxLen at hs
  have HF:Hid (∀b,okName s=b→Ending.returned (.bool b)=.returned (.bool (okName s))) := Lib.hid (fun b h=>by rw [h])
  by_cases h1:s.size=0
  · have f := HF.out false (by simp [okName,h1])
    have F := Lib.hid f
    clear f HF
    have h2:((s.size:Int) == 0)=true := by simp [h1]
    clear h1
    go_enter Tryd.func32,Tryd.ntmps32
    go_wp2_with fail
    go_returns
    exact ⟨F.out,rfl⟩
  have h1':((s.size:Int) == 0)=false := beq_eq_false_iff_ne.2 (by omega)
  have h1p:0<s.size := by omega
  by_cases h2:30<s.size
  · have f := HF.out false (by rw [okName,decide_eq_false (show ¬ s.size≤30 by omega)]; simp)
    have F := Lib.hid f
    clear f HF h1
    go_enter Tryd.func32,Tryd.ntmps32
    go_wp2_with fail
    go_returns
    exact ⟨F.out,rfl⟩
  have hh := head_at s h1p
  by_cases h3:isLow s[0]=true
  case neg =>
    have f := HF.out false (by rw [okName,hh]; simp [h3])
    have F := Lib.hid f
    have h4:s[0].toNat<97∨122<s[0].toNat := by simp [isLow] at h3; omega
    clear f HF h1 hh h3
    rcases h4 with h4 | h4
    all_goals
      go_enter Tryd.func32,Tryd.ntmps32
      go_wp2_with fail
      go_returns
      exact ⟨F.out,rfl⟩
  have h4:97≤s[0].toNat∧s[0].toNat≤122 := by simpa [isLow] using h3
  obtain ⟨h4,h5⟩ := h4
  have hok:okName s=s.data.toList.all okByte := by rw [okName_eq,hh,h3]; simp; omega
  have HOK := Lib.hid hok
  clear hok h3 hh h1
  go_enter Tryd.func32,Tryd.ntmps32
  go_wp2_with fail
  go_loop [25] (fun i=>∃k:Nat,k≤s.size∧i=.int .i64 k∧(s.data.toList.take k).all okByte=true) (fun i=>s.size - (intOf i).toNat)
  case atStart=>exact ⟨0,Nat.zero_le _,rfl,rfl⟩
  case round =>
    obtain ⟨k,hk,rfl,hall⟩ := hrel
    have HALL := Lib.hid hall
    clear hall
    by_cases hlt:k<s.size
    · have hsn := all_snoc s k hlt
      have HSN := Lib.hid hsn
      have HB:Hid (okByte s[k]=false→Ending.returned (.bool false)=.returned (.bool (okName s))) := Lib.hid (fun h=>HF.out false (by rw [HOK.out]; exact all_bad s k hlt h))
      clear hsn
      by_cases hb:okByte s[k]=true
      · have hcase:(97≤s[k].toNat∧s[k].toNat≤122)∨((48≤s[k].toNat∧s[k].toNat≤57))∨s[k].toNat=95∨s[k].toNat=45 := by
          simp [okByte,isLow,isOther] at hb; omega
        have HBB := Lib.hid hb
        clear hb
        go_wp2_with fail
        all_goals first
          | (exfalso; (try simp only [Bool.not_eq_true',Bool.not_eq_false',beq_eq_false_iff_ne,beq_iff_eq,ne_eq,decide_eq_true_eq,decide_eq_false_iff_not] at *) <;> omega)
          | (go_round
             case rel=>exact ⟨k+1,by omega,by go_num,by rw [HSN.out,HALL.out,HBB.out]; rfl⟩
             case measure=>simp [intOf]; omega)
      · have HBF := Lib.hid (HB.out (by simpa using hb))
        have hcase:¬ (97≤s[k].toNat∧s[k].toNat≤122)∧¬ ((48≤s[k].toNat∧s[k].toNat≤57))∧s[k].toNat≠95∧s[k].toNat≠45 := by
          simp [okByte,isLow,isOther] at hb; omega
        clear hb
        go_wp2_with fail
        all_goals first
          | (exfalso; (try simp only [Bool.not_eq_true',Bool.not_eq_false',beq_eq_false_iff_ne,beq_iff_eq,ne_eq,decide_eq_true_eq,decide_eq_false_iff_not] at *) <;> omega)
          | (go_returns
             exact ⟨HBF.out,rfl⟩)
    · go_wp2_with fail
      go_returns
      refine ⟨HF.out true ?_,rfl⟩
      have hks:s.data.toList.take k=s.data.toList := List.take_of_length_le (by simp; omega)
      rw [HOK.out,← hks]; exact HALL.out
theorem refName_any (s:ByteArray) (w:World) (hs:s.size≤maxLen) :
    Calls Tryd.prog 36 #[.string s] w fun e w'=>e=.returned (.bool (okName s))∧w=w' := by
  unfold maxLen at hs
  have HF:Hid (∀b,okName s=b→Ending.returned (.bool b)=.returned (.bool (okName s))) := Lib.hid (fun b h=>by rw [h])
  by_cases h1:s.size=0
  · have f := HF.out false (by simp [okName,h1])
    have F := Lib.hid f
    clear f HF
    have h2:((s.size:Int)<1) := by simp [h1]
    clear h1
    go_enter Tryd.func36,Tryd.ntmps36
    go_wp2_with fail
    go_returns
    exact ⟨F.out,rfl⟩
  have h1':¬ ((s.size:Int)<1) := by omega
  have h1p:0<s.size := by omega
  by_cases h2:30<s.size
  · have f := HF.out false (by rw [okName,decide_eq_false (show ¬ s.size≤30 by omega)]; simp)
    have F := Lib.hid f
    clear f HF h1
    go_enter Tryd.func36,Tryd.ntmps36
    go_wp2_with fail
    go_returns
    exact ⟨F.out,rfl⟩
  have hh := head_at s h1p
  have hok:okName s=(isLow s[0] && s.data.toList.all okByte) := by rw [okName_eq,hh,decide_eq_true (show 1≤s.size by omega),decide_eq_true (show s.size≤30 by omega)]; rfl
  have HOK := Lib.hid hok
  clear hok hh h1
  go_enter Tryd.func36,Tryd.ntmps36
  go_wp2_with fail
  go_loop [3] (fun i=>∃k:Nat,k≤s.size∧i=.int .i64 k∧(s.data.toList.take k).all okByte=true∧(0<k→isLow s[0]=true)) (fun i=>s.size - (intOf i).toNat)
  case atStart=>exact ⟨0,Nat.zero_le _,rfl,rfl,by omega⟩
  case round =>
    obtain ⟨k,hk,rfl,hall,hlo⟩ := hrel
    have HALL := Lib.hid hall
    have HLO := Lib.hid hlo
    clear hall hlo
    by_cases hlt:k<s.size
    · have hsn := all_snoc s k hlt
      have HSN := Lib.hid hsn
      have HB:Hid (okByte s[k]=false→Ending.returned (.bool false)=.returned (.bool (okName s))) := Lib.hid (fun h=>HF.out false (by rw [HOK.out,all_bad s k hlt h,Bool.and_false]))
      have HB0:Hid (k=0→isLow s[k]=false→Ending.returned (.bool false)=.returned (.bool (okName s))) := Lib.hid (fun h0 h=>HF.out false (by subst h0; rw [HOK.out,h,Bool.false_and]))
      have HG:Hid (k=0→isLow s[k]=true→isLow s[0]=true) := Lib.hid (fun h0 h=>by subst h0; exact h)
      clear hsn
      have q0:(0:Int)≤(k:Int) := by omega
      have q1:(k:Int)<(s.size:Int) := by omega
      by_cases hl:isLow s[k]=true
      · have h6:97≤s[k].toNat∧s[k].toNat≤122 := by simpa [isLow] using hl
        obtain ⟨h6,h7⟩ := h6
        have HL := Lib.hid hl
        clear hl
        go_wp2_with fail
        all_goals first
          | (exfalso; (try simp only [Bool.not_eq_true',Bool.not_eq_false',beq_eq_false_iff_ne,beq_iff_eq,ne_eq,decide_eq_true_eq,decide_eq_false_iff_not] at *) <;> omega)
          | (go_round
             case rel=>exact ⟨k+1,by omega,by go_num,by rw [HSN.out,HALL.out]; simp [okByte,HL.out],fun _=>by
               by_cases h0:k=0
               · exact HG.out h0 HL.out
               · exact HLO.out (by omega)⟩
             case measure=>simp [intOf]; omega)
      have h6:¬ (97≤s[k].toNat∧s[k].toNat≤122) := by simpa [isLow] using hl
      have HL := Lib.hid (show isLow s[k]=false by simpa using hl)
      clear hl
      by_cases h0:k=0
      · have HFIN := Lib.hid (HB0.out h0 HL.out)
        have h0':((k:Int) == 0)=true := by simp [h0]
        clear h0
        go_wp2_with fail
        all_goals first
          | (exfalso; (try simp only [Bool.not_eq_true',Bool.not_eq_false',beq_eq_false_iff_ne,beq_iff_eq,ne_eq,decide_eq_true_eq,decide_eq_false_iff_not] at *) <;> omega)
          | (go_returns
             exact ⟨HFIN.out,rfl⟩)
      have h0':((k:Int) == 0)=false := beq_eq_false_iff_ne.2 (by omega)
      by_cases hb:isOther s[k]=true
      · have hcase:((48≤s[k].toNat∧s[k].toNat≤57))∨s[k].toNat=95∨s[k].toNat=45 := by
          simp [isOther] at hb; omega
        have HBB := Lib.hid hb
        clear hb
        go_wp2_with fail
        all_goals first
          | (exfalso; (try simp only [Bool.not_eq_true',Bool.not_eq_false',beq_eq_false_iff_ne,beq_iff_eq,ne_eq,decide_eq_true_eq,decide_eq_false_iff_not] at *) <;> omega)
          | (go_round
             case rel=>exact ⟨k+1,by omega,by go_num,by rw [HSN.out,HALL.out]; simp [okByte,HBB.out],fun _=>HLO.out (by omega)⟩
             case measure=>simp [intOf]; omega)
      · have HBF := Lib.hid (HB.out (by simp [okByte,HL.out,hb]))
        have hcase:¬ ((48≤s[k].toNat∧s[k].toNat≤57))∧s[k].toNat≠95∧s[k].toNat≠45 := by
          simp [isOther] at hb; omega
        clear hb
        go_wp2_with fail
        all_goals first
          | (exfalso; (try simp only [Bool.not_eq_true',Bool.not_eq_false',beq_eq_false_iff_ne,beq_iff_eq,ne_eq,decide_eq_true_eq,decide_eq_false_iff_not] at *) <;> omega)
          | (go_returns
             exact ⟨HBF.out,rfl⟩)
    · go_wp2_with fail
      go_returns
      refine ⟨HF.out true ?_,rfl⟩
      have hks:s.data.toList.take k=s.data.toList := List.take_of_length_le (by simp; omega)
      rw [HOK.out,HLO.out (by omega),← hks,HALL.out]; rfl
end
noncomputable section
variable {P Q:Nat→Prop} {u v w:World}

structure Keeps (P:Nat→Prop) (w w':World):Prop where
  os:w'.os=w.os
  tape:w'.tape=w.tape
  output:w'.output=w.output
  size:w.heap.size≤w'.heap.size
  block:∀k,k<w.heap.size→¬ P k→w'.heap[k]?=w.heap[k]?
theorem Keeps.refl (P:Nat→Prop) (w:World):Keeps P w w := ⟨rfl,rfl,rfl,Nat.le_refl _,fun _ _ _=>rfl⟩
theorem Keeps.trans (h:Keeps P u v) (k:Keeps P v w):Keeps P u w :=
  ⟨k.os.trans h.os,k.tape.trans h.tape,k.output.trans h.output,Nat.le_trans h.size k.size,fun i h1 h2=>(k.block i (Nat.lt_of_lt_of_le h1 h.size) h2).trans (h.block i h1 h2)⟩
theorem Keeps.alloc (h:Keeps P u v) (o:Obj):Keeps P u (v.alloc o) :=
  ⟨h.os,h.tape,h.output,Nat.le_trans h.size (by simp),fun i h1 h2=>(Below.heap_alloc v o i (Nat.lt_of_lt_of_le h1 h.size)).trans (h.block i h1 h2)⟩
theorem Keeps.drew (h:Keeps P u v):Keeps P u v.drew := ⟨h.os,h.tape,h.output,h.size,h.block⟩
theorem Keeps.set (h:Keeps P u v) {b:Nat} (hb:P b∨u.heap.size≤b) (i:Nat) (x:Value):Keeps P u (v.setCell ⟨b,i,none⟩ x) :=
  ⟨h.os,h.tape,h.output,by simpa [World.setCell] using h.size,fun k h1 h2=>(Below.heap_setCell _ _ _ _ (by rintro rfl; rcases hb with hb | hb; exact h2 hb; omega)).trans (h.block k h1 h2)⟩
theorem Keeps.mono (h:Keeps P u v) (hPQ:∀k,k<u.heap.size→P k→Q k):Keeps Q u v := ⟨h.os,h.tape,h.output,h.size,fun k h1 h2=>h.block k h1 (fun hp=>h2 (hPQ k h1 hp))⟩
theorem Keeps.step (h:Keeps P u v) (k:Keeps Q v w) (hQ:∀i,Q i→P i∨u.heap.size≤i):Keeps P u w :=
  ⟨k.os.trans h.os,k.tape.trans h.tape,k.output.trans h.output,Nat.le_trans h.size k.size,fun i h1 h2=>(k.block i (Nat.lt_of_lt_of_le h1 h.size) (fun hq=>by rcases hQ i hq with h' | h'; exact h2 h'; omega)).trans (h.block i h1 h2)⟩
theorem Keeps.below {B:Nat} (h:Keeps P u v) (hP:∀k,P k→B≤k) (hB:B≤u.heap.size):Below B u v :=
  ⟨h.os,h.tape,h.output,h.size,fun k hk=>h.block k (by omega) (fun hp=>by have := hP k hp; omega)⟩
theorem Below.keeps (h:Below u.heap.size u v) (P:Nat→Prop):Keeps P u v := ⟨h.os,h.tape,h.output,h.size,fun k h1 _=>h.block k h1⟩
end
noncomputable section
variable {w:World} {S:Nat→Prop} {cells:List Value} {sz:Int}

def zRep:Rep Int where
  size := 1
  R _ _ a cs := cs=[.int .i64 a]
  pos := by omega
  len := by rintro w S a cs rfl; rfl
  one := by rintro w S a cs rfl u hu; simp at hu; subst hu; rfl
  keep := by rintro w w' S S' a cs h _ _; exact h
def intsRep:Rep (List Int) where
  size := 1
  R w S l cs := ∃v,cs=[v]∧zRep.Sl w S v l
  pos := by omega
  len := by rintro w S a cs ⟨v,rfl,_⟩; rfl
  one := by
    rintro w S a cs ⟨v,rfl,A,n,c,rfl,_⟩ u hu
    simp at hu; subst hu; rfl
  keep := by
    rintro w w' S S' a cs ⟨v,rfl,h⟩ hk hS
    exact ⟨v,rfl,h.keep hk hS⟩
structure Con where
  nm:ByteArray
  v:Int
def conRep:Rep Con where
  size := 2
  R _ _ a cs := cs=[.string a.nm,.int .i64 a.v]∧a.nm.size≤maxLen
  pos := by omega
  len := by rintro w S a cs ⟨rfl,_⟩; rfl
  one := by
    rintro w S a cs ⟨rfl,_⟩ u hu
    simp at hu; rcases hu with rfl | rfl <;> rfl
  keep := by rintro w w' S S' a cs h _ _; exact h
structure Rel where
  nm:ByteArray
  ar:Int
  tp:List (List Int)
def relRep:Rep Rel where
  size := 3
  R w S a cs := ∃v,cs=[.string a.nm,.int .i64 a.ar,v]∧a.nm.size≤maxLen∧intsRep.Sl w S v a.tp
  pos := by omega
  len := by rintro w S a cs ⟨v,rfl,_⟩; rfl
  one := by
    rintro w S a cs ⟨v,rfl,_,A,n,c,rfl,_⟩ u hu
    simp at hu; rcases hu with rfl | rfl | rfl <;> rfl
  keep := by
    rintro w w' S S' a cs ⟨v,rfl,h0,h⟩ hk hS
    exact ⟨v,rfl,h0,h.keep hk hS⟩
structure Md where
  sz:Int
  cs:List Con
  rs:List Rel
def Md.In (w:World) (S:Nat→Prop) (m:Md) (cells:List Value):Prop := ∃va vb,cells=[.int .i64 m.sz,va,vb]∧conRep.Sl w S va m.cs∧relRep.Sl w S vb m.rs
theorem Md.In.keep {w':World} {S':Nat→Prop} {m:Md} (h:m.In w S cells) (hk:∀b,S b→w'.heap[b]?=w.heap[b]?) (hS:∀b,S b→S' b):m.In w' S' cells := by
  obtain ⟨va,vb,rfl,h1,h2⟩ := h
  exact ⟨va,vb,rfl,h1.keep hk hS,h2.keep hk hS⟩
theorem Rep.Sl.shape {α:Type} {ρ:Rep α} {v:Value} {l:List α} (h:ρ.Sl w S v l):∃A c,v=.slice A l.length c∧l.length≤maxLen := by
  obtain ⟨A,n,c,rfl,h1,h2,_⟩ := h
  subst h1
  exact ⟨A,c,rfl,h2⟩
theorem Md.shape {m:Md} (h:m.In w S cells):∃A c B d,cells=[.int .i64 m.sz,.slice A m.cs.length c,.slice B m.rs.length d]∧m.cs.length≤maxLen∧m.rs.length≤maxLen ∧
    conRep.Sl w S (.slice A m.cs.length c) m.cs∧relRep.Sl w S (.slice B m.rs.length d) m.rs := by
  obtain ⟨va,vb,rfl,h1,h2⟩ := h
  obtain ⟨A,c,rfl,h3⟩ := h1.shape
  obtain ⟨B,d,rfl,h4⟩ := h2.shape
  exact ⟨A,c,B,d,rfl,h3,h4,h1,h2⟩
theorem less_irr:∀a:List UInt8,Op.bytesLess a a=false
  | []=>rfl
  | a :: l=>by simp [Op.bytesLess,less_irr l]
theorem less_asym:∀a b:List UInt8,Op.bytesLess a b=true→Op.bytesLess b a=false
  | [],[],h=>by simp [Op.bytesLess] at h
  | [],_ :: _,_=>rfl
  | _ :: _,[],h=>by simp [Op.bytesLess] at h
  | a :: l,b :: r,h=>by
    simp only [Op.bytesLess,Bool.or_eq_true,Bool.and_eq_true,decide_eq_true_eq,beq_iff_eq,Bool.or_eq_false_iff,decide_eq_false_iff_not,Bool.and_eq_false_iff,beq_eq_false_iff_ne] at h ⊢
    rcases h with h | ⟨rfl,h⟩
    · have h':a.toNat<b.toNat := h
      refine ⟨fun h2=>?_,Or.inl (fun e=>?_)⟩
      · have h3:b.toNat<a.toNat := h2
        omega
      · subst e; omega
    · exact ⟨fun h2=>by have h3:a.toNat<a.toNat := h2; omega,Or.inr (less_asym l r h)⟩
theorem less_tri:∀a b:List UInt8,Op.bytesLess a b=false→Op.bytesLess b a=false→a=b
  | [],[],_,_=>rfl
  | [],_ :: _,h,_=>by simp [Op.bytesLess] at h
  | _ :: _,[],_,h=>by simp [Op.bytesLess] at h
  | a :: l,b :: r,h1,h2=>by
    simp only [Op.bytesLess,Bool.or_eq_false_iff,decide_eq_false_iff_not,Bool.and_eq_false_iff,beq_eq_false_iff_ne] at h1 h2
    have e:a=b := by
      have h3:¬ a.toNat<b.toNat := h1.1
      have h4:¬ b.toNat<a.toNat := h2.1
      exact UInt8.toNat_inj.1 (by omega)
    subst e
    rw [less_tri l r (h1.2.resolve_left (fun h=>h rfl)) (h2.2.resolve_left (fun h=>h rfl))]
def cmpS (a b:ByteArray):Int := if Op.bytesLess a.toList b.toList=true then -1 else if Op.bytesLess b.toList a.toList=true then 1 else 0
def cmpI (a b:Int):Int := if a<b then -1 else if b<a then 1 else 0
def cmpR (a b:Rel):Int := if cmpS a.nm b.nm≠0 then cmpS a.nm b.nm else cmpI a.ar b.ar
def cmpL:List Int→List Int→Int
  | [],[]=>0
  | [],_ :: _=>-1
  | _ :: _,[]=>1
  | a :: l,b :: r=>if cmpI a b≠0 then cmpI a b else cmpL l r
def codeN (sz:Int):Int→List Int→Int
  | n,[]=>n
  | n,v :: l=>codeN sz (n * sz+v) l
theorem cmpS_ge (a b:ByteArray):(0≤cmpS a b) ↔ Op.bytesLess a.toList b.toList=false := by
  unfold cmpS
  cases h:Op.bytesLess a.toList b.toList
  · simp; split <;> omega
  · simp
theorem cmpI_ge (a b:Int):(0≤cmpI a b) ↔ b≤a := by unfold cmpI; split <;> (try split) <;> omega
def badV (sz v:Int):Bool := decide (v<0∨sz≤v)
def conCode (sz:Int) (prev:Option Con) (c:Con):Nat :=
  if okName c.nm=false then 10 else if (prev.any fun p=>decide (0≤cmpS p.nm c.nm))=true then 13 else if badV sz c.v=true then 3 else 0
def consF (sz:Int):Option Con→Nat→List Con→Nat × Nat
  | _,_,[]=>(0,0)
  | prev,i,c :: l=>if conCode sz prev c=0 then consF sz (some c) (i+1) l else (conCode sz prev c,i)
def tupCode (sz ar:Int) (prev:Option (List Int)) (t:List Int):Nat :=
  if (t.length:Int)≠ar then 9 else if t.any (badV sz)=true then 3 else if (prev.any fun p=>decide (0≤cmpL p t))=true then 13 else 0
def tupsF (sz ar:Int):Option (List Int)→List (List Int)→Nat
  | _,[]=>0
  | prev,t :: l=>if tupCode sz ar prev t=0 then tupsF sz ar (some t) l else tupCode sz ar prev t
def relCode (sz:Int) (prev:Option Rel) (x:Rel):Nat :=
  if okName x.nm=false then 10 else if x.ar<0∨3<x.ar then 3 else if (prev.any fun p=>decide (0≤cmpR p x))=true then 13 else tupsF sz x.ar none x.tp
def relsF (sz:Int):Option Rel→Nat→List Rel→Nat × Nat
  | _,_,[]=>(0,0)
  | prev,i,c :: l=>if relCode sz prev c=0 then relsF sz (some c) (i+1) l else (relCode sz prev c,i)
def mdFault (m:Md):Nat × Nat :=
  if m.sz<1∨6<m.sz then (3,0)
  else if 300<m.cs.length∨300<m.rs.length then (2,0)
  else if (consF m.sz none 0 m.cs).1=0 then relsF m.sz none 0 m.rs else consF m.sz none 0 m.cs
theorem codeN_lin (sz:Int):∀(l:List Int) (n:Int),codeN sz n l=n * sz ^ l.length+codeN sz 0 l
  | [],n=>by simp [codeN]
  | v :: l,n=>by
    simp only [codeN,List.length_cons,Int.zero_mul,Int.zero_add]
    rw [codeN_lin sz l (n * sz+v),codeN_lin sz l v,Int.pow_succ,Int.add_mul,Int.mul_comm (sz ^ l.length) sz,← Int.mul_assoc]
    omega
theorem codeN_bound (hs:1≤sz):∀(l:List Int),l.any (badV sz)=false→0≤codeN sz 0 l∧codeN sz 0 l<sz ^ l.length
  | [],_=>by simp [codeN]
  | v :: l,h=>by
    simp only [List.any_cons,Bool.or_eq_false_iff,badV,decide_eq_false_iff_not] at h
    obtain ⟨h1,h2⟩ := h
    obtain ⟨h3,h4⟩ := codeN_bound hs l h2
    have hp:0<sz ^ l.length := Int.pow_pos (by omega)
    simp only [codeN,Int.zero_mul,Int.zero_add,List.length_cons]
    rw [codeN_lin,Int.pow_succ]
    have hv0:0≤v := by omega
    have hv1:v≤sz - 1 := by omega
    have k1:0≤v * sz ^ l.length := Int.mul_nonneg hv0 (by omega)
    have k2:v * sz ^ l.length≤(sz - 1) * sz ^ l.length := Int.mul_le_mul_of_nonneg_right hv1 (by omega)
    have k3:(sz - 1) * sz ^ l.length=sz ^ l.length * sz - sz ^ l.length := by rw [Int.sub_mul,Int.one_mul,Int.mul_comm]
    omega
theorem cmpL_code (hs:1≤sz):∀(a b:List Int),a.length=b.length→a.any (badV sz)=false→b.any (badV sz)=false→((0≤cmpL a b) ↔ codeN sz 0 b≤codeN sz 0 a)
  | [],[],_,_,_=>by simp [cmpL]
  | [],_ :: _,h,_,_=>by simp at h
  | _ :: _,[],h,_,_=>by simp at h
  | u :: l,v :: r,h,h1,h2=>by
    simp only [List.length_cons,Nat.add_right_cancel_iff] at h
    simp only [List.any_cons,Bool.or_eq_false_iff] at h1 h2
    have ih := cmpL_code hs l r h h1.2 h2.2
    obtain ⟨b1,b2⟩ := codeN_bound hs l h1.2
    obtain ⟨b3,b4⟩ := codeN_bound hs r h2.2
    have hp:0<sz ^ l.length := Int.pow_pos (by omega)
    simp only [codeN,Int.zero_mul,Int.zero_add]
    rw [codeN_lin sz l,codeN_lin sz r,← h]
    rw [← h] at b4
    unfold cmpL cmpI
    by_cases e1:u<v
    · have k:u * sz ^ l.length+sz ^ l.length≤v * sz ^ l.length := by
        have := Int.mul_le_mul_of_nonneg_right (show u+1≤v by omega) (show (0:Int)≤sz ^ l.length by omega)
        rw [Int.add_mul,Int.one_mul] at this; exact this
      simp only [e1,if_true]
      constructor
      · intro hh; simp at hh
      · intro hh; omega
    · by_cases e2:v<u
      · have k:v * sz ^ l.length+sz ^ l.length≤u * sz ^ l.length := by
          have := Int.mul_le_mul_of_nonneg_right (show v+1≤u by omega) (show (0:Int)≤sz ^ l.length by omega)
          rw [Int.add_mul,Int.one_mul] at this; exact this
        simp only [e1,e2,if_true,if_false]
        constructor
        · intro _; omega
        · intro _; simp
      · obtain rfl:u=v := by omega
        simp only [e1,if_false,ne_eq,not_true_eq_false]
        rw [ih]
        omega
end

end Go.Proofs.YthfokmjpbnfihaaDoor
