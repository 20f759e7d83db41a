/- Lemmas. -/
import Derived.Test.YthfokmjpbnfihaaDoorProg
import Derived.Test.YthfokmjpbnfihaaDoorIb
import Derived.Test.YthfokmjpbnfihaaDoorIe
import Derived.WalkSmall
namespace Go.Proofs.YthfokmjpbnfihaaDoor
open Go Go.RowKit
set_option linter.unusedSimpArgs false
set_option linter.unusedVariables false
noncomputable section
variable {sz:Int} {j n c:Nat} {w:World} {S:Nat→Prop} {A:Option Addr}

def prevOf {α:Type} (l:List α):Nat→Option α
  | 0=>none
  | j+1=>l[j]?
theorem consF_step {l:List Con} (hj:j<l.length):consF sz (prevOf l j) j (l.drop j)=if conCode sz (prevOf l j) l[j]=0 then consF sz (prevOf l (j+1)) (j+1) (l.drop (j+1)) else (conCode sz (prevOf l j) l[j],j) := by
  rw [List.drop_eq_getElem_cons hj]
  conv=>lhs; unfold consF
  rw [show prevOf l (j+1)=some l[j] from List.getElem?_eq_getElem hj]
theorem relsF_step {l:List Rel} (hj:j<l.length):relsF sz (prevOf l j) j (l.drop j)=if relCode sz (prevOf l j) l[j]=0 then relsF sz (prevOf l (j+1)) (j+1) (l.drop (j+1)) else (relCode sz (prevOf l j) l[j],j) := by
  rw [List.drop_eq_getElem_cons hj]
  conv=>lhs; unfold relsF
  rw [show prevOf l (j+1)=some l[j] from List.getElem?_eq_getElem hj]
theorem tupsF_step {ar:Int} {l:List (List Int)} (hj:j<l.length):tupsF sz ar (prevOf l j) (l.drop j)=if tupCode sz ar (prevOf l j) l[j]=0 then tupsF sz ar (prevOf l (j+1)) (l.drop (j+1)) else tupCode sz ar (prevOf l j) l[j] := by
  rw [List.drop_eq_getElem_cons hj]
  conv=>lhs; unfold tupsF
  rw [show prevOf l (j+1)=some l[j] from List.getElem?_eq_getElem hj]
theorem con_at {l:List Con} (h:conRep.Sl w S (.slice A n c) l) (hj:j<l.length):∃b o,A=some ⟨b,o,none⟩∧S b∧w.cell? ⟨b,o+j * 2,none⟩=some (.string l[j].nm)∧w.cell? ⟨b,o+j * 2+1,none⟩=some (.int .i64 l[j].v)∧l[j].nm.size≤maxLen := by
  obtain ⟨b,o,cs,hA,hSb,⟨hx,hn⟩,hcell⟩ := Rep.Sl.at_ h (k := j) (a := l[j]) (by simp [hj])
  subst hx
  exact ⟨b,o,hA,hSb,hcell 0 _ rfl,hcell 1 _ rfl,hn⟩
theorem rel_at {l:List Rel} (h:relRep.Sl w S (.slice A n c) l) (hj:j<l.length):∃b o T t,A=some ⟨b,o,none⟩∧S b∧w.cell? ⟨b,o+j * 3,none⟩=some (.string l[j].nm)∧w.cell? ⟨b,o+j * 3+1,none⟩=some (.int .i64 l[j].ar)∧w.cell? ⟨b,o+j * 3+2,none⟩=some (.slice T l[j].tp.length t)∧l[j].nm.size≤maxLen∧l[j].tp.length≤maxLen∧intsRep.Sl w S (.slice T l[j].tp.length t) l[j].tp := by
  obtain ⟨b,o,cs,hA,hSb,⟨v,hx,hn,hv⟩,hcell⟩ := Rep.Sl.at_ h (k := j) (a := l[j]) (by simp [hj])
  subst hx
  obtain ⟨T,t,rfl,hl⟩ := hv.shape
  exact ⟨b,o,T,t,hA,hSb,hcell 0 _ rfl,hcell 1 _ rfl,hcell 2 _ rfl,hn,hl,hv⟩
theorem tup_at {l:List (List Int)} (h:intsRep.Sl w S (.slice A n c) l) (hj:j<l.length):∃b o T t,A=some ⟨b,o,none⟩∧S b∧w.cell? ⟨b,o+j,none⟩=some (.slice T l[j].length t)∧l[j].length≤maxLen∧zRep.Sl w S (.slice T l[j].length t) l[j] := by
  obtain ⟨b,o,cs,hA,hSb,⟨v,hx,hv⟩,hcell⟩ := Rep.Sl.at_ h (k := j) (a := l[j]) (by simp [hj])
  subst hx
  obtain ⟨T,t,rfl,hl⟩ := hv.shape
  exact ⟨b,o,T,t,hA,hSb,by have := hcell 0 _ rfl; simpa [intsRep] using this,hl,hv⟩
theorem mdFault_mk (sz:Int) (cl:List Con) (rl:List Rel):mdFault ⟨sz,cl,rl⟩=if sz<1∨6<sz then (3,0) else if 300<cl.length∨300<rl.length then (2,0) else if (consF sz none 0 cl).1=0 then relsF sz none 0 rl else consF sz none 0 cl := rfl
theorem below_nq {B:Nat} {u:World} (h:Below B u w) (n:Nat):Below B u (w.drewN n) := ⟨h.os,h.tape,h.output,h.size,h.block⟩
def MdAt (m:Md) (w:World) (e:Ending) (w':World):Prop := e=.returned (.agg #[.int .i64 ((mdFault m).1:Nat),.int .i64 ((mdFault m).2:Nat)])∧Below w.heap.size w w'
end
noncomputable section
set_option maxRecDepth 100000
set_option maxHeartbeats 1600000

def okByte (c:UInt8):Bool := isLow c || isOther c
theorem okName_eq (s:ByteArray):okName s=(decide (1≤s.size) && decide (s.size≤30) && isLow (s.data.toList.headD 0) && s.data.toList.all okByte) := rfl
theorem all_snoc (s:ByteArray) (k:Nat) (h:k<s.size):(s.data.toList.take (k+1)).all okByte=((s.data.toList.take k).all okByte && okByte s[k]) := by
  rw [List.take_succ_eq_append_getElem (by simpa using h)]; simp; rfl
theorem head_at (s:ByteArray) (h:0<s.size):s.data.toList.headD 0=s[0] := by
  obtain ⟨⟨l⟩⟩ := s
  cases l with
  | nil=>simp [ByteArray.size] at h
  | cons a l=>rfl
theorem all_bad (s:ByteArray) (k:Nat) (h:k<s.size) (hb:okByte s[k]=false):s.data.toList.all okByte=false := by
  rw [List.all_eq_false]
  refine ⟨s[k],?_,by simp [hb]⟩
  have:s[k]=s.data.toList[k]'(by simpa using h) := rfl
  rw [this]; exact List.getElem_mem _
theorem name_any (s:ByteArray) (w:World) (hs:s.size≤maxLen) :
    Calls Tryd.prog 32 #[.string s] w fun e w'=>e=.returned (.bool (okName s))∧w=w' := by
  unfold maxLen at hs
  have HF:Hid (∀b,okName s=b→Ending.returned (.bool b)=.returned (.bool (okName s))) := Lib.hid (fun b h=>by rw [h])
  by_cases h1:s.size=0
  · have f := HF.out false (by simp [okName,h1])
    have F := Lib.hid f
    clear f HF
    have h2:((s.size:Int) == 0)=true := by simp [h1]
    clear h1
    go_enter Tryd.func32,Tryd.ntmps32
    go_wp2_with fail
    go_returns
    exact ⟨F.out,rfl⟩
  have h1':((s.size:Int) == 0)=false := beq_eq_false_iff_ne.2 (by omega)
  have h1p:0<s.size := by omega
  by_cases h2:30<s.size
  · have f := HF.out false (by rw [okName,decide_eq_false (show ¬ s.size≤30 by omega)]; simp)
    have F := Lib.hid f
    clear f HF h1
    go_enter Tryd.func32,Tryd.ntmps32
    go_wp2_with fail
    go_returns
    exact ⟨F.out,rfl⟩
  have hh := head_at s h1p
  by_cases h3:isLow s[0]=true
  case neg =>
    have f := HF.out false (by rw [okName,hh]; simp [h3])
    have F := Lib.hid f
    have h4:s[0].toNat<97∨122<s[0].toNat := by simp [isLow] at h3; omega
    clear f HF h1 hh h3
    rcases h4 with h4 | h4
    all_goals
      go_enter Tryd.func32,Tryd.ntmps32
      go_wp2_with fail
      go_returns
      exact ⟨F.out,rfl⟩
  have h4:97≤s[0].toNat∧s[0].toNat≤122 := by simpa [isLow] using h3
  obtain ⟨h4,h5⟩ := h4
  have hok:okName s=s.data.toList.all okByte := by rw [okName_eq,hh,h3]; simp; omega
  have HOK := Lib.hid hok
  clear hok h3 hh h1
  go_enter Tryd.func32,Tryd.ntmps32
  go_wp2_with fail
  go_loop [25] (fun i=>∃k:Nat,k≤s.size∧i=.int .i64 k∧(s.data.toList.take k).all okByte=true) (fun i=>s.size - (intOf i).toNat)
  case atStart=>exact ⟨0,Nat.zero_le _,rfl,rfl⟩
  case round =>
    obtain ⟨k,hk,rfl,hall⟩ := hrel
    have HALL := Lib.hid hall
    clear hall
    by_cases hlt:k<s.size
    · have hsn := all_snoc s k hlt
      have HSN := Lib.hid hsn
      have HB:Hid (okByte s[k]=false→Ending.returned (.bool false)=.returned (.bool (okName s))) := Lib.hid (fun h=>HF.out false (by rw [HOK.out]; exact all_bad s k hlt h))
      clear hsn
      by_cases hb:okByte s[k]=true
      · have hcase:(97≤s[k].toNat∧s[k].toNat≤122)∨((48≤s[k].toNat∧s[k].toNat≤57))∨s[k].toNat=95∨s[k].toNat=45 := by
          simp [okByte,isLow,isOther] at hb; omega
        have HBB := Lib.hid hb
        clear hb
        go_wp2_with fail
        all_goals first
          | (exfalso; (try simp only [Bool.not_eq_true',Bool.not_eq_false',beq_eq_false_iff_ne,beq_iff_eq,ne_eq,decide_eq_true_eq,decide_eq_false_iff_not] at *) <;> omega)
          | (go_round
             case rel=>exact ⟨k+1,by omega,by go_num,by rw [HSN.out,HALL.out,HBB.out]; rfl⟩
             case measure=>simp [intOf]; omega)
      · have HBF := Lib.hid (HB.out (by simpa using hb))
        have hcase:¬ (97≤s[k].toNat∧s[k].toNat≤122)∧¬ ((48≤s[k].toNat∧s[k].toNat≤57))∧s[k].toNat≠95∧s[k].toNat≠45 := by
          simp [okByte,isLow,isOther] at hb; omega
        clear hb
        go_wp2_with fail
        all_goals first
          | (exfalso; (try simp only [Bool.not_eq_true',Bool.not_eq_false',beq_eq_false_iff_ne,beq_iff_eq,ne_eq,decide_eq_true_eq,decide_eq_false_iff_not] at *) <;> omega)
          | (go_returns
             exact ⟨HBF.out,rfl⟩)
    · go_wp2_with fail
      go_returns
      refine ⟨HF.out true ?_,rfl⟩
      have hks:s.data.toList.take k=s.data.toList := List.take_of_length_le (by simp; omega)
      rw [HOK.out,← hks]; exact HALL.out
end
noncomputable section
variable {P:Nat→Prop} {u v w:World}

structure Keeps (P:Nat→Prop) (w w':World):Prop where
  os:w'.os=w.os
  tape:w'.tape=w.tape
  output:w'.output=w.output
  size:w.heap.size≤w'.heap.size
  block:∀k,k<w.heap.size→¬ P k→w'.heap[k]? = w.heap[k]?
theorem Keeps.refl (P:Nat→Prop) (w:World):Keeps P w w := ⟨rfl,rfl,rfl,Nat.le_refl _,fun _ _ _=>rfl⟩
theorem Keeps.trans (h:Keeps P u v) (k:Keeps P v w):Keeps P u w :=
  ⟨k.os.trans h.os,k.tape.trans h.tape,k.output.trans h.output,Nat.le_trans h.size k.size,fun i h1 h2=>(k.block i (Nat.lt_of_lt_of_le h1 h.size) h2).trans (h.block i h1 h2)⟩
theorem Keeps.alloc (h:Keeps P u v) (o:Obj):Keeps P u (v.alloc o) :=
  ⟨h.os,h.tape,h.output,Nat.le_trans h.size (by simp),fun i h1 h2=>(Below.heap_alloc v o i (Nat.lt_of_lt_of_le h1 h.size)).trans (h.block i h1 h2)⟩
theorem Keeps.drew (h:Keeps P u v):Keeps P u v.drew := ⟨h.os,h.tape,h.output,h.size,h.block⟩
theorem Keeps.set (h:Keeps P u v) {b:Nat} (hb:P b∨u.heap.size≤b) (i:Nat) (x:Value):Keeps P u (v.setCell ⟨b,i,none⟩ x) :=
  ⟨h.os,h.tape,h.output,by simpa [World.setCell] using h.size,fun k h1 h2=>(Below.heap_setCell _ _ _ _ (by rintro rfl; rcases hb with hb | hb; exact h2 hb; omega)).trans (h.block k h1 h2)⟩
theorem Keeps.step {Q:Nat→Prop} (h:Keeps P u v) (k:Keeps Q v w) (hQ:∀i,Q i→P i∨u.heap.size≤i):Keeps P u w :=
  ⟨k.os.trans h.os,k.tape.trans h.tape,k.output.trans h.output,Nat.le_trans h.size k.size,fun i h1 h2=>(k.block i (Nat.lt_of_lt_of_le h1 h.size) (fun hq=>by rcases hQ i hq with h' | h'; exact h2 h'; omega)).trans (h.block i h1 h2)⟩
theorem Keeps.below {B:Nat} (h:Keeps P u v) (hP:∀k,P k→B≤k) (hB:B≤u.heap.size):Below B u v :=
  ⟨h.os,h.tape,h.output,h.size,fun k hk=>h.block k (by omega) (fun hp=>by have := hP k hp; omega)⟩
theorem Below.keeps (h:Below u.heap.size u v) (P:Nat→Prop):Keeps P u v := ⟨h.os,h.tape,h.output,h.size,fun k h1 _=>h.block k h1⟩
end
noncomputable section
variable {P:Program} {c:Code} {Q:Exit→Act→World→Prop} {a:Act} {w:World} {K:Act→World→Prop}

theorem wp_thenQ (h:Code.wp P c (Exit.then (fun a' w'=>Q .normal a' w') (fun _ _ _=>False)) a w):Code.wp P c Q a w :=
  Code.wp_mono (fun e a' w' hh=>by cases e with | normal=>exact hh | _=>exact hh.elim) h
theorem thenR (h:Q .ret a w):Exit.then K Q .ret a w := h
theorem inBlockR {k:Nat} (h:Q .ret a w):Exit.inBlock k Q .ret a w := h
theorem wp_via (C:Act→World→Prop) (hK:∀a' w',C a' w'→K a' w') (h:(∀a' w',C a' w'→K a' w')→Code.wp P c (Exit.then K Q) a w):Code.wp P c (Exit.then K Q) a w := h hK
end

end Go.Proofs.YthfokmjpbnfihaaDoor
