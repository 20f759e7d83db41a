/- Lemmas. -/
import Derived.Test.YthfokmjpbnfihaaDoorWc
import Derived.Test.YthfokmjpbnfihaaDoorWe
import Derived.Deep.DeepCutAuto
import Derived.BigQuiet
import Derived.Lib.SlicesCompact
namespace Go.Proofs.YthfokmjpbnfihaaDoor
open Go Go.RowKit
set_option linter.unusedSimpArgs false
set_option linter.unusedVariables false
noncomputable section
set_option maxRecDepth 100000
set_option maxHeartbeats 1000000
variable {a b:ByteArray}

theorem wrap_ok (n:Int) (h0:-9223372036854775808≤n) (h1:n<9223372036854775808):IntKind.i64.wrap n=n := by
  unfold IntKind.wrap
  simp [IntKind.bits,IntKind.signed]
  omega
theorem nanS_any (a:ByteArray) (w:World):Calls Tryd.prog 84 #[.string a] w fun e w'=>e=.returned (.bool false)∧w'=w := by
  have h:(a.toList == a.toList)=true := beq_self_eq_true _
  go_enter Tryd.func84,Tryd.ntmps84
  go_wp2_with fail
  go_returns
  exact ⟨rfl,rfl⟩
theorem nanI_any (a:Int) (w:World):Calls Tryd.prog 83 #[.int .i64 a] w fun e w'=>e=.returned (.bool false)∧w'=w := by
  go_enter Tryd.func83,Tryd.ntmps83
  go_wp2_with fail
  go_returns
  exact ⟨rfl,rfl⟩
theorem less_eq (h1:Op.bytesLess a.toList b.toList=false) (h2:Op.bytesLess b.toList a.toList=false):(a.toList == b.toList)=true := by
  rw [beq_iff_eq]; exact less_tri _ _ h1 h2
theorem less_ne (h2:Op.bytesLess b.toList a.toList=true):(a.toList == b.toList)=false := by
  rw [beq_eq_false_iff_ne]; intro e; rw [e,less_irr] at h2; cases h2
theorem cmpS_any (a b:ByteArray) (w:World):Calls Tryd.prog 57 #[.string a,.string b] w fun e w'=>e=.returned (.int .i64 (cmpS a b))∧w'=w := by
  have HE:Hid (∀z:Int,cmpS a b=z→Ending.returned (.int .i64 z)=.returned (.int .i64 (cmpS a b))) := Lib.hid (fun z h=>by rw [h])
  cases h1:Op.bytesLess a.toList b.toList with
  | true =>
    have hf := HE.out (-1) (by unfold cmpS; rw [if_pos h1])
    have HF := Lib.hid hf
    clear hf
    go_enter Tryd.func57,Tryd.ntmps57
    go_wp2_with fail
    (with_reducible refine (nanS_any a _).mono ?_)
    rintro e w1 ⟨rfl,rfl⟩
    go_wp2_with fail
    (with_reducible refine (nanS_any b _).mono ?_)
    rintro e w1 ⟨rfl,rfl⟩
    go_wp2_with fail
    go_returns
    exact ⟨HF.out,rfl⟩
  | false =>
    cases h2:Op.bytesLess b.toList a.toList with
    | true =>
      have hf := HE.out 1 (by unfold cmpS; rw [if_neg (by rw [h1]; decide),if_pos h2])
      have h3 := less_ne h2
      clear h2
      have HF := Lib.hid hf
      clear hf
      go_enter Tryd.func57,Tryd.ntmps57
      go_wp2_with fail
      (with_reducible refine (nanS_any a _).mono ?_)
      rintro e w1 ⟨rfl,rfl⟩
      go_wp2_with fail
      (with_reducible refine (nanS_any b _).mono ?_)
      rintro e w1 ⟨rfl,rfl⟩
      go_wp2_with fail
      go_returns
      exact ⟨HF.out,rfl⟩
    | false =>
      have hf := HE.out 0 (by unfold cmpS; rw [if_neg (by rw [h1]; decide),if_neg (by rw [h2]; decide)])
      have h3 := less_eq h1 h2
      clear h2
      have HF := Lib.hid hf
      clear hf
      go_enter Tryd.func57,Tryd.ntmps57
      go_wp2_with fail
      (with_reducible refine (nanS_any a _).mono ?_)
      rintro e w1 ⟨rfl,rfl⟩
      go_wp2_with fail
      (with_reducible refine (nanS_any b _).mono ?_)
      rintro e w1 ⟨rfl,rfl⟩
      go_wp2_with fail
      go_returns
      exact ⟨HF.out,rfl⟩
theorem cmpI_any (a b:Int) (w:World):Calls Tryd.prog 55 #[.int .i64 a,.int .i64 b] w fun e w'=>e=.returned (.int .i64 (cmpI a b))∧w'=w := by
  have HE:Hid (∀z:Int,cmpI a b=z→Ending.returned (.int .i64 z)=.returned (.int .i64 (cmpI a b))) := Lib.hid (fun z h=>by rw [h])
  have h3:(a<b∧cmpI a b = -1)∨(¬ a<b∧b<a∧cmpI a b=1)∨(¬ a<b∧¬ b<a∧cmpI a b=0) := by
    unfold cmpI
    split
    · rename_i h; exact Or.inl ⟨h,rfl⟩
    · rename_i h
      split
      · rename_i h2; exact Or.inr (Or.inl ⟨h,h2,rfl⟩)
      · rename_i h2; exact Or.inr (Or.inr ⟨h,h2,rfl⟩)
  rcases h3 with ⟨h1,hz⟩ | ⟨h1,h2,hz⟩ | ⟨h1,h2,hz⟩
  all_goals
    have hf := HE.out _ hz
    clear hz
    have HF := Lib.hid hf
    clear hf
    go_enter Tryd.func55,Tryd.ntmps55
    go_wp2_with fail
    (with_reducible refine (nanI_any a _).mono ?_)
    rintro e w1 ⟨rfl,rfl⟩
    go_wp2_with fail
    (with_reducible refine (nanI_any b _).mono ?_)
    rintro e w1 ⟨rfl,rfl⟩
    go_wp2_with fail
    go_returns
    exact ⟨HF.out,rfl⟩
def orF (a b:Int):Int := if a≠0 then a else b
theorem or_any (a b:Int) (blk o:Nat) (w:World) (h0:w.cell? ⟨blk,o,none⟩=some (.int .i64 a)) (h1:w.cell? ⟨blk,o+1,none⟩=some (.int .i64 b)) :
    Calls Tryd.prog 56 #[.slice (some ⟨blk,o,none⟩) 2 2] w fun e w'=>e=.returned (.int .i64 (orF a b))∧w'=w := by
  have HE:Hid (∀z:Int,orF a b=z→Ending.returned (.int .i64 z)=.returned (.int .i64 (orF a b))) := Lib.hid (fun z h=>by rw [h])
  have hl := World.block_lt_of_cell? w _ h0
  go_enter Tryd.func56,Tryd.ntmps56
  go_wp2_with fail
  go_loopg [8] 2 (fun k v8 wr=>∃j:Nat,v8=.int .i64 (j:Nat)∧w=wr∧j+k=2∧(j=0∨a=0)∧(j=2→b=0))
  case atStart=>exact ⟨0,rfl,rfl,by omega,Or.inl rfl,by omega⟩
  case round =>
    obtain ⟨j,rfl,hw,hj,ha,hb⟩ := hrel
    subst hw
    rcases (by omega:j=0∨j=1∨j=2) with rfl | rfl | rfl
    · by_cases hz:a=0
      · subst hz
        go_wp2_with fail
        go_roundg 1
        case measure=>omega
        case rel=>exact ⟨1,by go_num,by trivial,by omega,Or.inr (by trivial),by omega⟩
      · have q1:(a != 0)=true := bne_iff_ne.2 hz
        have hf := HE.out a (by unfold orF; rw [if_pos hz])
        clear hz
        have HF := Lib.hid hf
        clear hf
        go_wp2_with fail
        go_returns
        exact ⟨HF.out,rfl⟩
    · obtain rfl:a=0 := ha.resolve_left (by omega)
      by_cases hz:b=0
      · subst hz
        go_wp2_with fail
        go_roundg 0
        case measure=>omega
        case rel=>exact ⟨2,by go_num,by trivial,by omega,Or.inr (by trivial),fun _=>by trivial⟩
      · have q1:(b != 0)=true := bne_iff_ne.2 hz
        have hf := HE.out b (by unfold orF; simp)
        clear hz
        have HF := Lib.hid hf
        clear hf
        go_wp2_with fail
        go_returns
        exact ⟨HF.out,rfl⟩
    · obtain rfl:a=0 := ha.resolve_left (by omega)
      obtain rfl := hb rfl
      have hf := HE.out 0 (by unfold orF; simp)
      have HF := Lib.hid hf
      clear hf
      go_wp2_with fail
      go_returns
      exact ⟨HF.out,rfl⟩
theorem code_any (l:List Int) (A:Option Addr) (c:Nat) (sz:Int) (w:World) (S:Nat→Prop) (h:zRep.Sl w S (.slice A l.length c) l) (hl:l.length≤3) (hs:1≤sz∧sz≤6) (hv:l.any (badV sz)=false) :
    Calls Tryd.prog 37 #[.slice A l.length c,.int .i64 sz] w fun e w'=>e=.returned (.int .i64 (codeN sz 0 l))∧w'=w := by
  have HE:Hid (∀z:Int,codeN sz 0 l=z→Ending.returned (.int .i64 z)=.returned (.int .i64 (codeN sz 0 l))) := Lib.hid (fun z h=>by rw [h])
  have HL := Lib.hid h
  have hb:∀j (hj:j<l.length),0≤l[j]∧l[j]<sz := by
    intro j hj
    rw [List.any_eq_false] at hv
    have := hv l[j] (List.getElem_mem hj)
    simp only [badV,decide_eq_true_eq] at this
    omega
  have HB := Lib.hid hb
  clear h hv hb
  go_enter Tryd.func37,Tryd.ntmps37
  go_wp2_with fail
  go_loopg [5,10] l.length (fun k v5 v10 wr=>∃(j:Nat) (n:Int),v5=.int .i64 n∧v10=.int .i64 (j:Nat)∧w=wr∧j+k=l.length∧codeN sz n (l.drop j)=codeN sz 0 l∧0≤n∧n<10000∧(j=0→n=0)∧(j=1→n<6)∧(j=2→n<36)∧(j=3→n<216))
  case atStart=>exact ⟨0,0,rfl,rfl,rfl,by omega,by simp,by omega,by omega,fun _=>rfl,by omega,by omega,by omega⟩
  case round =>
    obtain ⟨j,n,rfl,rfl,hw,hj,hc,hn0,hn1,h0,h1,h2,h3⟩ := hrel
    subst hw
    by_cases hjl:j<l.length
    · obtain ⟨b,o,cs,hA,hSb,hx,hcell⟩ := Rep.Sl.at_ HL.out (k := j) (a := l[j]) (by simp [hjl])
      obtain rfl:cs=[.int .i64 l[j]] := hx
      subst hA
      have e0:w.cell? ⟨b,o+j,none⟩=some (.int .i64 l[j]) := by have := hcell 0 _ rfl; simpa [zRep] using this
      have hlb := World.block_lt_of_cell? w _ e0
      obtain ⟨v,hv⟩:∃v,l[j]=v := ⟨_,rfl⟩
      obtain ⟨v0,v1⟩ := HB.out j hjl
      rw [hv] at e0 v0 v1
      have hd:l.drop j=v :: l.drop (j+1) := by rw [List.drop_eq_getElem_cons hjl,hv]
      rw [hd] at hc
      simp only [codeN] at hc
      have q0:(0:Int)≤(j:Int) := by omega
      have q1:(j:Int)<(l.length:Int) := by omega
      have hms:n * sz≤n * 6 := Int.mul_le_mul_of_nonneg_left hs.2 hn0
      have hm0:0≤n * sz := Int.mul_nonneg hn0 (by omega)
      have hw1:IntKind.i64.wrap (n * sz)=n * sz := wrap_ok _ (by omega) (by omega)
      have hw2:IntKind.i64.wrap (n * sz+v)=n * sz+v := wrap_ok _ (by omega) (by omega)
      have HC := Lib.hid hc
      have k1:n * sz+v<10000 := by omega
      have k2:j+1=1→n * sz+v<6 := fun e=>by rw [h0 (by omega)]; omega
      have k3:j+1=2→n * sz+v<36 := fun e=>by have := h1 (by omega); omega
      have k4:j+1=3→n * sz+v<216 := fun e=>by have := h2 (by omega); omega
      clear hc hv hd
      have H0 := Lib.hid h0
      have H1 := Lib.hid h1
      have H2 := Lib.hid h2
      have H3 := Lib.hid h3
      have K2 := Lib.hid k2
      have K3 := Lib.hid k3
      have K4 := Lib.hid k4
      clear h0 h1 h2 h3 k2 k3 k4
      go_wp2_with fail
      go_roundg (l.length - (j+1))
      case measure=>omega
      case rel=>exact ⟨j+1,n * sz+v,by first | rfl | simp only [hw1,hw2],by go_num,by trivial,by omega,HC.out,by omega,k1,by omega,K2.out,K3.out,K4.out⟩
    · have q1:¬ (j:Int)<(l.length:Int) := by omega
      have hf := HE.out n (by rw [← hc,List.drop_eq_nil_of_le (by omega)]; rfl)
      clear hc
      have HF := Lib.hid hf
      clear hf
      go_wp2_with fail
      go_returns
      exact ⟨HF.out,rfl⟩
theorem int_at {w:World} {S:Nat→Prop} {A:Option Addr} {n c j:Nat} {l:List Int} (h:zRep.Sl w S (.slice A n c) l) (hj:j<l.length):∃b o,A=some ⟨b,o,none⟩∧S b∧w.cell? ⟨b,o+j,none⟩=some (.int .i64 l[j]) := by
  obtain ⟨b,o,cs,hA,hSb,hx,hcell⟩ := Rep.Sl.at_ h (k := j) (a := l[j]) (by simp [hj])
  obtain rfl:cs=[.int .i64 l[j]] := hx
  exact ⟨b,o,hA,hSb,by have := hcell 0 _ rfl; simpa [zRep] using this⟩
theorem cmpL_any (l r:List Int) (A B:Option Addr) (c d:Nat) (w:World) (S:Nat→Prop) (h:zRep.Sl w S (.slice A l.length c) l) (g:zRep.Sl w S (.slice B r.length d) r) :
    Calls Tryd.prog 35 #[.slice A l.length c,.slice B r.length d] w fun e w'=>e=.returned (.int .i64 (cmpL l r))∧w'=w := by
  have HE:Hid (∀z:Int,cmpL l r=z→Ending.returned (.int .i64 z)=.returned (.int .i64 (cmpL l r))) := Lib.hid (fun z h=>by rw [h])
  have hl:l.length≤maxLen := h.shape.choose_spec.choose_spec.2
  have hr:r.length≤maxLen := g.shape.choose_spec.choose_spec.2
  unfold maxLen at hl hr
  have H := Lib.hid h
  have G := Lib.hid g
  clear h g
  go_enter Tryd.func35,Tryd.ntmps35
  go_wp2_with fail
  go_loopg [11] l.length (fun k v11 wr=>∃j:Nat,v11=.int .i64 (j:Nat)∧w=wr∧j+k=l.length∧cmpL (l.drop j) (r.drop j)=cmpL l r∧j≤r.length)
  case atStart=>exact ⟨0,rfl,rfl,by omega,by simp,by omega⟩
  case round =>
    obtain ⟨j,rfl,hw,hj,hc,hjr⟩ := hrel
    subst hw
    by_cases hjl:j<l.length
    · obtain ⟨b,o,hA,hSb,e0⟩ := int_at H.out hjl
      subst hA
      have hlb := World.block_lt_of_cell? w _ e0
      have q0:(0:Int)≤(j:Int) := by omega
      have q1:(j:Int)<(l.length:Int) := by omega
      rw [List.drop_eq_getElem_cons hjl] at hc
      by_cases hjr2:j<r.length
      · obtain ⟨b2,o2,hB,hSb2,e1⟩ := int_at G.out hjr2
        subst hB
        have hlb2 := World.block_lt_of_cell? w _ e1
        have q2:¬ (r.length:Int)≤(j:Int) := by omega
        have q3:(j:Int)<(r.length:Int) := by omega
        rw [List.drop_eq_getElem_cons hjr2] at hc
        simp only [cmpL] at hc
        have hci := fun W:World=>cmpI_any l[j] r[j] W
        obtain ⟨z,hz⟩:∃z,cmpI l[j] r[j]=z := ⟨_,rfl⟩
        rw [hz] at hc hci
        obtain ⟨u,hu⟩:∃u,l[j]=u := ⟨_,rfl⟩
        obtain ⟨v,hv⟩:∃v,r[j]=v := ⟨_,rfl⟩
        rw [hu] at e0 hci
        rw [hv] at e1 hci
        clear hz hu hv
        by_cases hz0:z=0
        · subst hz0
          have hc2:cmpL (l.drop (j+1)) (r.drop (j+1))=cmpL l r := by simpa using hc
          clear hc
          have HC2 := Lib.hid hc2
          have HCI := Lib.hid hci
          clear hc2 hci
          go_wp2_with fail
          (with_reducible refine (HCI.out _).mono ?_)
          rintro e w1 ⟨rfl,rfl⟩
          go_wp2_with fail
          go_roundg (l.length - (j+1))
          case measure=>omega
          case rel=>exact ⟨j+1,by go_num,by trivial,by omega,HC2.out,by omega⟩
        · have q4:(z != 0)=true := bne_iff_ne.2 hz0
          have hf := HE.out z (by rw [← hc,if_pos hz0])
          clear hc hz0
          have HF := Lib.hid hf
          have HCI := Lib.hid hci
          clear hf hci
          go_wp2_with fail
          (with_reducible refine (HCI.out _).mono ?_)
          rintro e w1 ⟨rfl,rfl⟩
          go_wp2_with fail
          go_returns
          exact ⟨HF.out,rfl⟩
      · have q2:(r.length:Int)≤(j:Int) := by omega
        have hdr:r.drop j=[] := List.drop_eq_nil_of_le (by omega)
        rw [hdr] at hc
        have hf := HE.out 1 (by rw [← hc]; rfl)
        clear hc
        have HF := Lib.hid hf
        clear hf
        go_wp2_with fail
        go_returns
        exact ⟨HF.out,rfl⟩
    · have q1:¬ (j:Int)<(l.length:Int) := by omega
      have hdl:l.drop j=[] := List.drop_eq_nil_of_le (by omega)
      rw [hdl] at hc
      by_cases hlr:l.length<r.length
      · have q2:(l.length:Int)<(r.length:Int) := by omega
        rw [List.drop_eq_getElem_cons (l := r) (i := j) (by omega)] at hc
        have hf := HE.out (-1) (by rw [← hc]; rfl)
        clear hc
        have HF := Lib.hid hf
        clear hf
        go_wp2_with fail
        go_returns
        exact ⟨HF.out,rfl⟩
      · have q2:¬ (l.length:Int)<(r.length:Int) := by omega
        have hdr:r.drop j=[] := List.drop_eq_nil_of_le (by omega)
        rw [hdr] at hc
        have hf := HE.out 0 (by rw [← hc]; rfl)
        clear hc
        have HF := Lib.hid hf
        clear hf
        go_wp2_with fail
        go_returns
        exact ⟨HF.out,rfl⟩
theorem bad1_any (b:Nat) (code i:Int) (w:World) (h:w.cell? ⟨b,0,none⟩=some (.int .i64 i)) :
    Calls Tryd.prog 38 #[.int .i64 code,.pointer (some ⟨b,0,none⟩)] w fun e w'=>e=.returned (.agg #[.int .i64 code,.int .i64 i])∧Below w.heap.size w w' := by
  have hb := World.block_lt_of_cell? w _ h
  go_enter Tryd.func38,Tryd.ntmps38
  go_wp2_with fail
  refine bodyPost_ret (v := .agg #[.int .i64 code,.int .i64 i]) (by simp [results,Tryd.results38,go_sem]) rfl ?_
  exact ⟨rfl,by go_grown⟩
theorem bad2_any (b:Nat) (code i:Int) (w:World) (h:w.cell? ⟨b,0,none⟩=some (.int .i64 i)) :
    Calls Tryd.prog 39 #[.int .i64 code,.pointer (some ⟨b,0,none⟩)] w fun e w'=>e=.returned (.agg #[.int .i64 code,.int .i64 i])∧Below w.heap.size w w' := by
  have hb := World.block_lt_of_cell? w _ h
  go_enter Tryd.func39,Tryd.ntmps39
  go_wp2_with fail
  refine bodyPost_ret (v := .agg #[.int .i64 code,.int .i64 i]) (by simp [results,Tryd.results39,go_sem]) rfl ?_
  exact ⟨rfl,by go_grown⟩
end
noncomputable section
set_option maxRecDepth 100000
set_option maxHeartbeats 16000000

theorem cmpR_any (x y:Rel) (va vb:Value) (w:World) (h1:va.oneCell'=true) (h2:vb.oneCell'=true) :
    Calls Tryd.prog 40 #[.agg #[.string x.nm,.int .i64 x.ar,va],.agg #[.string y.nm,.int .i64 y.ar,vb]] w fun e w'=>e=.returned (.int .i64 (cmpR x y))∧Below w.heap.size w w' := by
  obtain ⟨xn,xa,xt⟩ := x
  obtain ⟨yn,ya,yt⟩ := y
  have hs := fun W:World=>cmpS_any xn yn W
  have hi := fun W:World=>cmpI_any xa ya W
  have ho := fun (blk:Nat) (W:World) h0 h1=>or_any (cmpS xn yn) (cmpI xa ya) blk 0 W h0 h1
  rw [show orF (cmpS xn yn) (cmpI xa ya)=cmpR ⟨xn,xa,xt⟩ ⟨yn,ya,yt⟩ from rfl] at ho
  obtain ⟨zz,hz⟩:∃z,cmpR ⟨xn,xa,xt⟩ ⟨yn,ya,yt⟩=z := ⟨_,rfl⟩
  obtain ⟨z1,hz1⟩:∃z,cmpS xn yn=z := ⟨_,rfl⟩
  obtain ⟨z2,hz2⟩:∃z,cmpI xa ya=z := ⟨_,rfl⟩
  rw [hz,hz1,hz2] at ho
  rw [hz1] at hs
  rw [hz2] at hi
  rw [hz]
  clear hz hz1 hz2
  have HS := Lib.hid hs
  have HI := Lib.hid hi
  have HO := Lib.hid ho
  clear hs hi ho
  go_enter Tryd.func40,Tryd.ntmps40
  go_wp2_with fail
  go_region_held3 (fun w'=>w'.cell? ⟨w.heap.size,0,none⟩=some (.string xn)∧w'.cell? ⟨w.heap.size,1,none⟩=some (.int .i64 xa)∧w'.cell? ⟨w.heap.size+1,0,none⟩=some (.string yn)∧w'.cell? ⟨w.heap.size+1,1,none⟩=some (.int .i64 ya))
    ((go_keep; done))
    ((first
      | ((with_reducible refine (HS.out _).mono ?_); rintro e w3 ⟨rfl,rfl⟩)
      | ((with_reducible refine (HI.out _).mono ?_); rintro e w3 ⟨rfl,rfl⟩)
      | ((with_reducible refine (HO.out _ _ ?_ ?_).mono ?_)
         · exact cell_heap (heap_drew (heap_at (by simp))) rfl
         · exact cell_heap (heap_drew (heap_at (by simp))) rfl
         rintro e w3 ⟨rfl,rfl⟩)
      | fail))
  all_goals go_wp2_with fail
  all_goals go_returns
  all_goals exact ⟨rfl,by go_grown⟩
end
noncomputable section
variable {sz:Int} {j n c:Nat} {w:World} {S:Nat→Prop} {A:Option Addr}

def prevOf {α:Type} (l:List α):Nat→Option α
  | 0=>none
  | j+1=>l[j]?
theorem consF_step {l:List Con} (hj:j<l.length):consF sz (prevOf l j) j (l.drop j)=if conCode sz (prevOf l j) l[j]=0 then consF sz (prevOf l (j+1)) (j+1) (l.drop (j+1)) else (conCode sz (prevOf l j) l[j],j) := by
  rw [List.drop_eq_getElem_cons hj]
  conv=>lhs; unfold consF
  rw [show prevOf l (j+1)=some l[j] from List.getElem?_eq_getElem hj]
theorem relsF_step {l:List Rel} (hj:j<l.length):relsF sz (prevOf l j) j (l.drop j)=if relCode sz (prevOf l j) l[j]=0 then relsF sz (prevOf l (j+1)) (j+1) (l.drop (j+1)) else (relCode sz (prevOf l j) l[j],j) := by
  rw [List.drop_eq_getElem_cons hj]
  conv=>lhs; unfold relsF
  rw [show prevOf l (j+1)=some l[j] from List.getElem?_eq_getElem hj]
theorem tupsF_step {ar:Int} {l:List (List Int)} (hj:j<l.length):tupsF sz ar (prevOf l j) (l.drop j)=if tupCode sz ar (prevOf l j) l[j]=0 then tupsF sz ar (prevOf l (j+1)) (l.drop (j+1)) else tupCode sz ar (prevOf l j) l[j] := by
  rw [List.drop_eq_getElem_cons hj]
  conv=>lhs; unfold tupsF
  rw [show prevOf l (j+1)=some l[j] from List.getElem?_eq_getElem hj]
theorem con_at {l:List Con} (h:conRep.Sl w S (.slice A n c) l) (hj:j<l.length):∃b o,A=some ⟨b,o,none⟩∧S b∧w.cell? ⟨b,o+j * 2,none⟩=some (.string l[j].nm)∧w.cell? ⟨b,o+j * 2+1,none⟩=some (.int .i64 l[j].v)∧l[j].nm.size≤maxLen := by
  obtain ⟨b,o,cs,hA,hSb,⟨hx,hn⟩,hcell⟩ := Rep.Sl.at_ h (k := j) (a := l[j]) (by simp [hj])
  subst hx
  exact ⟨b,o,hA,hSb,hcell 0 _ rfl,hcell 1 _ rfl,hn⟩
theorem rel_at {l:List Rel} (h:relRep.Sl w S (.slice A n c) l) (hj:j<l.length):∃b o T t,A=some ⟨b,o,none⟩∧S b∧w.cell? ⟨b,o+j * 3,none⟩=some (.string l[j].nm)∧w.cell? ⟨b,o+j * 3+1,none⟩=some (.int .i64 l[j].ar)∧w.cell? ⟨b,o+j * 3+2,none⟩=some (.slice T l[j].tp.length t)∧l[j].nm.size≤maxLen∧l[j].tp.length≤maxLen∧intsRep.Sl w S (.slice T l[j].tp.length t) l[j].tp := by
  obtain ⟨b,o,cs,hA,hSb,⟨v,hx,hn,hv⟩,hcell⟩ := Rep.Sl.at_ h (k := j) (a := l[j]) (by simp [hj])
  subst hx
  obtain ⟨T,t,rfl,hl⟩ := hv.shape
  exact ⟨b,o,T,t,hA,hSb,hcell 0 _ rfl,hcell 1 _ rfl,hcell 2 _ rfl,hn,hl,hv⟩
theorem tup_at {l:List (List Int)} (h:intsRep.Sl w S (.slice A n c) l) (hj:j<l.length):∃b o T t,A=some ⟨b,o,none⟩∧S b∧w.cell? ⟨b,o+j,none⟩=some (.slice T l[j].length t)∧l[j].length≤maxLen∧zRep.Sl w S (.slice T l[j].length t) l[j] := by
  obtain ⟨b,o,cs,hA,hSb,⟨v,hx,hv⟩,hcell⟩ := Rep.Sl.at_ h (k := j) (a := l[j]) (by simp [hj])
  subst hx
  obtain ⟨T,t,rfl,hl⟩ := hv.shape
  exact ⟨b,o,T,t,hA,hSb,by have := hcell 0 _ rfl; simpa [intsRep] using this,hl,hv⟩
theorem mdFault_mk (sz:Int) (cl:List Con) (rl:List Rel):mdFault ⟨sz,cl,rl⟩=if sz<1∨6<sz then (3,0) else if 300<cl.length∨300<rl.length then (2,0) else if (consF sz none 0 cl).1=0 then relsF sz none 0 rl else consF sz none 0 cl := rfl
theorem below_nq {B:Nat} {u:World} (h:Below B u w) (n:Nat):Below B u (w.drewN n) := ⟨h.os,h.tape,h.output,h.size,h.block⟩
def MdAt (m:Md) (w:World) (e:Ending) (w':World):Prop := e=.returned (.agg #[.int .i64 ((mdFault m).1:Nat),.int .i64 ((mdFault m).2:Nat)])∧Below w.heap.size w w'
end
noncomputable section
variable {P:Program} {c:Code} {Q:Exit→Act→World→Prop} {a:Act} {w:World} {K:Act→World→Prop}

theorem wp_thenQ (h:Code.wp P c (Exit.then (fun a' w'=>Q .normal a' w') (fun _ _ _=>False)) a w):Code.wp P c Q a w :=
  Code.wp_mono (fun e a' w' hh=>by cases e with | normal=>exact hh | _=>exact hh.elim) h
theorem thenR (h:Q .ret a w):Exit.then K Q .ret a w := h
theorem inBlockR {k:Nat} (h:Q .ret a w):Exit.inBlock k Q .ret a w := h
theorem wp_via (C:Act→World→Prop) (hK:∀a' w',C a' w'→K a' w') (h:(∀a' w',C a' w'→K a' w')→Code.wp P c (Exit.then K Q) a w):Code.wp P c (Exit.then K Q) a w := h hK
end
noncomputable section
variable {x s:ByteArray} {l:List ByteArray}

abbrev Bs := List UInt8
theorem lessI:∀a:Bs,Op.bytesLess a a=false
  | []=>rfl
  | a :: l=>by simp [Op.bytesLess,lessI l]
theorem lessTri:∀a b:Bs,Op.bytesLess a b=false→Op.bytesLess b a=false→a=b
  | [],[],_,_=>rfl
  | [],_ :: _,h,_=>by simp [Op.bytesLess] at h
  | _ :: _,[],_,h=>by simp [Op.bytesLess] at h
  | a :: l,b :: r,h1,h2=>by
    simp only [Op.bytesLess,Bool.or_eq_false_iff,decide_eq_false_iff_not,Bool.and_eq_false_iff,beq_eq_false_iff_ne] at h1 h2
    have e:a=b := by
      have h3:¬ a.toNat<b.toNat := h1.1
      have h4:¬ b.toNat<a.toNat := h2.1
      exact UInt8.toNat_inj.1 (by omega)
    subst e
    rw [lessTri l r (h1.2.resolve_left (fun h=>h rfl)) (h2.2.resolve_left (fun h=>h rfl))]
theorem lessTrans:∀a b c:Bs,Op.bytesLess a b=true→Op.bytesLess b c=true→Op.bytesLess a c=true
  | _,[],_,h,_=>by unfold Op.bytesLess at h; cases h
  | _,_ :: _,[],_,h=>by simp [Op.bytesLess] at h
  | [],_ :: _,_ :: _,_,_=>rfl
  | a :: x,b :: y,c :: z,h1,h2=>by
    simp only [Op.bytesLess,Bool.or_eq_true,Bool.and_eq_true,decide_eq_true_eq,beq_iff_eq] at h1 h2 ⊢
    rcases h1 with h1 | ⟨rfl,h1⟩
    · rcases h2 with h2 | ⟨rfl,h2⟩
      · left
        have h3:a.toNat<b.toNat := h1
        have h4:b.toNat<c.toNat := h2
        show a.toNat<c.toNat
        omega
      · exact Or.inl h1
    · rcases h2 with h2 | ⟨rfl,h2⟩
      · exact Or.inl h2
      · exact Or.inr ⟨rfl,lessTrans x y z h1 h2⟩
theorem lessAsym {a b:Bs} (h:Op.bytesLess a b=true):Op.bytesLess b a=false := by
  cases h2:Op.bytesLess b a
  · rfl
  · have := lessTrans a b a h h2
    rw [lessI] at this
    cases this
theorem lessLe {a b c:Bs} (h:Op.bytesLess b a=false) (h2:Op.bytesLess b c=true):Op.bytesLess a c=true := by
  cases h3:Op.bytesLess a b
  · rw [lessTri a b h3 h]; exact h2
  · exact lessTrans a b c h3 h2
theorem leTrans {a b c:Bs} (h:Op.bytesLess b a=false) (h2:Op.bytesLess c b=false):Op.bytesLess c a=false := by
  cases h3:Op.bytesLess c a
  · rfl
  · have := lessLe h2 (h3:Op.bytesLess c a=true)
    rw [this] at h; cases h
theorem less_lt:∀a b:Bs,Op.bytesLess a b=true ↔ a<b
  | _,[]=>by
    constructor
    · intro h; unfold Op.bytesLess at h; cases h
    · intro h; exact absurd h (List.not_lt_nil _)
  | [],b :: y=>by simp [Op.bytesLess]
  | a :: x,b :: y=>by
    simp only [Op.bytesLess,Bool.or_eq_true,Bool.and_eq_true,decide_eq_true_eq,beq_iff_eq,List.cons_lt_cons_iff,less_lt x y]
theorem le_less (a b:Bs):decide (a≤b)=!Op.bytesLess b a := by
  cases h:Op.bytesLess b a
  · exact decide_eq_true (fun h2=>by rw [(less_lt b a).2 h2] at h; cases h)
  · exact decide_eq_false (fun h2=>h2 ((less_lt b a).1 h))
def Strict (l:List Bs):Prop := l.Pairwise (fun a b=>Op.bytesLess a b=true)
theorem strict_eq:∀(l m:List Bs),Strict l→Strict m→(∀x,x∈l ↔ x∈m)→l=m
  | [],[],_,_,_=>rfl
  | [],b :: m,_,_,h=>by have := (h b).2 (by simp); simp at this
  | a :: l,[],_,_,h=>by have := (h a).1 (by simp); simp at this
  | a :: l,b :: m,hl,hm,h=>by
    have h1 := List.pairwise_cons.1 hl
    have h2 := List.pairwise_cons.1 hm
    have e:a=b := by
      rcases List.mem_cons.1 ((h a).1 (by simp)) with e | e
      · exact e
      · rcases List.mem_cons.1 ((h b).2 (by simp)) with e2 | e2
        · exact e2.symm
        · have := lessTrans _ _ _ (h1.1 b e2) (h2.1 a e)
          rw [lessI] at this; cases this
    subst e
    rw [strict_eq l m h1.2 h2.2 (fun x=>?_)]
    have hx := h x
    simp only [List.mem_cons] at hx
    constructor
    · intro hxl
      rcases hx.1 (Or.inr hxl) with e | e
      · subst e; have := h1.1 x hxl; rw [lessI] at this; cases this
      · exact e
    · intro hxm
      rcases hx.2 (Or.inr hxm) with e | e
      · subst e; have := h2.1 x hxm; rw [lessI] at this; cases this
      · exact e
theorem compact_sorted (d:List Bs) (h:d.Pairwise (fun a b=>Op.bytesLess b a=false)):Strict (Lib.compact d)∧∀x,x∈Lib.compact d ↔ x∈d := by
  have hg:∀j (hj:j<d.length),d.toArray[j]! =d[j] := fun j hj=>by
    rw [getElem!_pos d.toArray j (by simpa using hj)]; simp
  have hle:∀i j (hi:i<d.length) (hj:j<d.length),i≤j→Op.bytesLess d[j] d[i]=false := fun i j hi hj hij=>by
    rcases Nat.lt_or_eq_of_le hij with h1 | rfl
    · exact List.pairwise_iff_getElem.1 h i j hi hj h1
    · exact lessI _
  have key:∀m,m≤d.length→Strict (Lib.compactUpTo d.toArray m)∧∀x,x∈Lib.compactUpTo d.toArray m ↔ ∃j,∃hj:j<d.length,j<m∧d[j]=x := by
    intro m
    induction m with
    | zero=>intro _; exact ⟨by simp [Strict,Lib.compactUpTo],fun x=>by simp [Lib.compactUpTo]⟩
    | succ m ih =>
      intro hm
      obtain ⟨h1,h2⟩ := ih (by omega)
      have hml:m<d.length := by omega
      rw [Lib.compactUpTo_succ,hg m hml]
      cases hk:Lib.keeps d.toArray m
      · simp only [Bool.false_eq_true,if_false,List.append_nil]
        refine ⟨h1,fun x=>(h2 x).trans ⟨fun ⟨j,hj,hjm,e⟩=>⟨j,hj,by omega,e⟩,fun ⟨j,hj,hjm,e⟩=>?_⟩⟩
        rcases Nat.lt_or_eq_of_le (Nat.le_of_lt_succ hjm) with h3 | rfl
        · exact ⟨j,hj,h3,e⟩
        · have h0:j≠0 := by rintro rfl; simp [Lib.keeps] at hk
          have hd:d[j]=d[j - 1] := by
            by_cases e3:d.toArray[j]! =d.toArray[j - 1]!
            · rwa [hg j hj,hg (j - 1) (by omega)] at e3
            · rw [Lib.keeps_pos e3] at hk; cases hk
          exact ⟨j - 1,by omega,by omega,by rw [← hd]; exact e⟩
      · simp only [if_true]
        refine ⟨List.pairwise_append.2 ⟨h1,by simp,fun x hx y hy=>?_⟩,fun x=>?_⟩
        · simp at hy
          subst hy
          obtain ⟨j,hj,hjm,rfl⟩ := (h2 x).1 hx
          have h0:0<m := by omega
          have hne:d[m]≠d[m - 1] := fun e=>by
            have:Lib.keeps d.toArray m=false := Lib.keeps_neg h0 (by rw [hg m hml,hg (m - 1) (by omega)]; exact e)
            rw [this] at hk; cases hk
          have hlt:Op.bytesLess d[m - 1] d[m]=true := by
            cases h3:Op.bytesLess d[m - 1] d[m]
            · exact absurd (lessTri _ _ (hle (m - 1) m (by omega) hml (by omega)) h3) hne
            · rfl
          exact lessLe (hle j (m - 1) hj (by omega) (by omega)) hlt
        · simp only [List.mem_append,List.mem_singleton]
          constructor
          · rintro (hx | rfl)
            · obtain ⟨j,hj,hjm,e⟩ := (h2 x).1 hx
              exact ⟨j,hj,by omega,e⟩
            · exact ⟨m,hml,by omega,rfl⟩
          · rintro ⟨j,hj,hjm,e⟩
            rcases Nat.lt_or_eq_of_le (Nat.le_of_lt_succ hjm) with h3 | rfl
            · exact Or.inl ((h2 x).2 ⟨j,hj,h3,e⟩)
            · exact Or.inr e.symm
  obtain ⟨h1,h2⟩ := key d.length (Nat.le_refl _)
  have e:Lib.compact d=Lib.compactUpTo d.toArray d.length := rfl
  rw [e]
  refine ⟨h1,fun x=>(h2 x).trans ⟨fun ⟨j,hj,_,e⟩=>by rw [← e]; exact List.getElem_mem hj,fun hx=>?_⟩⟩
  obtain ⟨j,hj,e⟩ := List.getElem_of_mem hx
  exact ⟨j,hj,hj,e⟩
def sortS (l:List Bs):List Bs := l.mergeSort fun x y=>decide (x≤y)
theorem sortS_sorted (l:List Bs):(sortS l).Pairwise (fun a b=>Op.bytesLess b a=false) := by
  have h := List.pairwise_mergeSort (le := fun x y:Bs=>decide (x≤y)) (fun a b c h1 h2=>by
    rw [le_less] at h1 h2 ⊢
    simp only [Bool.not_eq_true'] at h1 h2 ⊢
    exact leTrans h1 h2) (fun a b=>by
    rw [le_less,le_less]
    cases h:Op.bytesLess b a
    · rfl
    · rw [lessAsym h]; rfl) l
  exact h.imp (fun {a b} h=>by rw [le_less] at h; simpa using h)
abbrev lessB (a b:ByteArray):Bool := Op.bytesLess a.toList b.toList
def dat (a:ByteArray):Bs := a.data.toList
theorem dat_toList (a:ByteArray):a.toList=dat a := by rw [ByteArray.toList_eq]; rfl
theorem dat_inj {a b:ByteArray} (h:dat a=dat b):a=b := bytes_inj (by rw [dat_toList,dat_toList,h])
theorem dat_mk (x:Bs):dat ⟨x.toArray⟩=x := by simp [dat]
theorem mk_dat (a:ByteArray):(⟨(dat a).toArray⟩:ByteArray)=a := dat_inj (dat_mk _)
def constsB (l:List ByteArray):List ByteArray := (Lib.compact (sortS (l.map dat))).map (fun x=>⟨x.toArray⟩)
theorem constsB_dat (l:List ByteArray):(constsB l).map dat=Lib.compact (sortS (l.map dat)) := by
  unfold constsB
  rw [List.map_map]
  conv=>rhs; rw [← List.map_id (Lib.compact (sortS (l.map dat)))]
  exact List.map_congr_left (fun x _=>dat_mk x)
theorem constsB_strict (l:List ByteArray):Strict ((constsB l).map dat) := by rw [constsB_dat]; exact (compact_sorted _ (sortS_sorted _)).1
theorem mem_map_dat:dat x∈l.map dat ↔ x∈l := by
  constructor
  · intro h
    obtain ⟨y,hy,e⟩ := List.mem_map.1 h
    rwa [← dat_inj e]
  · intro h; exact List.mem_map.2 ⟨x,h,rfl⟩
theorem mem_constsB:x∈constsB l ↔ x∈l := by
  rw [← mem_map_dat (l := constsB l),constsB_dat,(compact_sorted _ (sortS_sorted _)).2]
  unfold sortS
  rw [List.mem_mergeSort,mem_map_dat]
def hasB (l:List ByteArray) (s:ByteArray):Bool := l.any (fun x=>decide (x=s))
theorem hasB_iff:hasB l s=true ↔ s∈l := by
  unfold hasB
  rw [List.any_eq_true]
  constructor
  · rintro ⟨x,hx,h⟩; rw [← of_decide_eq_true h]; exact hx
  · intro h; exact ⟨s,h,decide_eq_true rfl⟩
def putB (l:List ByteArray) (s:ByteArray):List ByteArray := if hasB l s=true then l else l.takeWhile (fun x=>lessB x s)++s :: l.dropWhile (fun x=>lessB x s)
theorem putB_mem:x∈putB l s ↔ x=s∨x∈l := by
  unfold putB
  split
  · rename_i h
    constructor
    · exact Or.inr
    · rintro (rfl | h2)
      · exact hasB_iff.1 h
      · exact h2
  · have e:l=l.takeWhile (fun x=>lessB x s)++l.dropWhile (fun x=>lessB x s) := (List.takeWhile_append_dropWhile).symm
    conv=>rhs; rw [e]
    simp only [List.mem_append,List.mem_cons]
    constructor
    · rintro (h | h | h) <;> simp [h]
    · rintro (h | h | h) <;> simp [h]
theorem mem_tw {α:Type} {p:α→Bool}:∀{l:List α} {x:α},x∈l.takeWhile p→p x=true
  | [],_,h=>by simp at h
  | a :: l,x,h=>by
    rw [List.takeWhile_cons] at h
    split at h
    · rename_i hp
      rcases List.mem_cons.1 h with rfl | h
      · exact hp
      · exact mem_tw h
    · simp at h
theorem putB_strict (s:ByteArray) (h:Strict (l.map dat)):Strict ((putB l s).map dat) := by
  unfold putB
  split
  · exact h
  rename_i hs
  replace hs:¬ s∈l := fun h=>hs (hasB_iff.2 h)
  have e:l=l.takeWhile (fun x=>lessB x s)++l.dropWhile (fun x=>lessB x s) := (List.takeWhile_append_dropWhile).symm
  have h' := h
  rw [e,List.map_append] at h'
  obtain ⟨h1,h2,h3⟩ := List.pairwise_append.1 h'
  have hlt:∀x∈l.takeWhile (fun x=>lessB x s),Op.bytesLess (dat x) (dat s)=true := fun x hx=>by
    have := mem_tw hx
    rwa [lessB,dat_toList,dat_toList] at this
  have hgt:∀x∈l.dropWhile (fun x=>lessB x s),Op.bytesLess (dat s) (dat x)=true := by
    cases hd:l.dropWhile (fun x=>lessB x s) with
    | nil=>simp
    | cons y r =>
      have hy:lessB y s=false := by
        have := List.head_dropWhile_not (fun x=>lessB x s) (w := by rw [hd]; simp)
        simpa [hd] using this
      rw [lessB,dat_toList,dat_toList] at hy
      have hne:dat s≠dat y := fun e2=>hs (by rw [dat_inj e2,e,hd]; simp)
      have hsy:Op.bytesLess (dat s) (dat y)=true := by
        cases h4:Op.bytesLess (dat s) (dat y)
        · exact absurd (lessTri _ _ h4 hy) hne
        · rfl
      rw [hd,List.map_cons] at h2
      intro x hx
      rcases List.mem_cons.1 hx with rfl | hx
      · exact hsy
      · exact lessTrans _ _ _ hsy ((List.pairwise_cons.1 h2).1 _ (List.mem_map.2 ⟨x,hx,rfl⟩))
  rw [List.map_append,List.map_cons]
  refine List.pairwise_append.2 ⟨h1,List.pairwise_cons.2 ⟨fun x hx=>?_,h2⟩,fun x hx y hy=>?_⟩
  · obtain ⟨z,hz,rfl⟩ := List.mem_map.1 hx
    exact hgt z hz
  · obtain ⟨z,hz,rfl⟩ := List.mem_map.1 hx
    rcases List.mem_cons.1 hy with rfl | hy
    · exact hlt z hz
    · exact h3 _ hx _ hy
theorem puts_mem (l:List ByteArray):∀(m:List ByteArray) (x:ByteArray),x∈l.foldl putB m ↔ x∈m∨x∈l := by
  induction l with
  | nil=>intro m x; simp
  | cons a l ih =>
    intro m x
    rw [List.foldl_cons,ih,putB_mem]
    simp only [List.mem_cons]
    constructor
    · rintro ((h | h) | h) <;> simp [h]
    · rintro (h | h | h) <;> simp [h]
theorem puts_strict (l:List ByteArray):∀(m:List ByteArray),Strict (m.map dat)→Strict ((l.foldl putB m).map dat) := by
  induction l with
  | nil=>intro m h; exact h
  | cons a l ih=>intro m h; rw [List.foldl_cons]; exact ih _ (putB_strict a h)
theorem map_dat_inj:∀{l m:List ByteArray},l.map dat=m.map dat→l=m
  | [],[],_=>rfl
  | [],_ :: _,h=>by simp at h
  | _ :: _,[],h=>by simp at h
  | a :: l,b :: m,h=>by
    simp only [List.map_cons,List.cons.injEq] at h
    rw [dat_inj h.1,map_dat_inj h.2]
theorem puts_consts (l:List ByteArray):l.foldl putB []=constsB l := by
  refine map_dat_inj (strict_eq _ _ (puts_strict l [] (by simp [Strict])) (constsB_strict l) (fun x=>?_))
  have h:∀m:List ByteArray,x∈m.map dat ↔ (⟨x.toArray⟩:ByteArray)∈m := fun m=>by
    rw [← mem_map_dat,dat_mk]
  rw [h,h,puts_mem,mem_constsB]
  simp
mutual
def fmFrees:List ByteArray→Tree FmL→List ByteArray
  | bd,.mk a l=>a.ws.filter (fun w=>!hasB bd w)++fmFreess (if a.kind=8∨a.kind=9 then bd++[a.nm] else bd) l
def fmFreess:List ByteArray→List (Tree FmL)→List ByteArray
  | _,[]=>[]
  | bd,t :: l=>fmFrees bd t++fmFreess bd l
end
theorem fmFreess_append (bd:List ByteArray):∀l m:List (Tree FmL),fmFreess bd (l++m)=fmFreess bd l++fmFreess bd m
  | [],m=>by simp [fmFreess]
  | t :: l,m=>by simp [fmFreess,fmFreess_append bd l m]
theorem fmFreess_take (bd:List ByteArray) (l:List (Tree FmL)) (j:Nat) (h:j<l.length):fmFreess bd (l.take (j+1))=fmFreess bd (l.take j)++fmFrees bd l[j] := by
  rw [List.take_succ_eq_append_getElem h,fmFreess_append]; simp [fmFreess]
def fmConsts (t:Fm):List ByteArray := constsB (fmFrees [] t)
end
noncomputable section
variable {α:Type} {f:α→Int} {sz:Int} {m:Md}

theorem find_cut:∀{l:List α},l.Pairwise (fun a b=>f b≤0→f a<0)→l.find? (fun x=>decide (f x=0))=if hitN f l=true then l[cutN f l]? else none
  | [],_=>by simp
  | a :: l,h=>by
    obtain ⟨h1,h2⟩ := List.pairwise_cons.1 h
    have ih := find_cut h2
    rcases Int.lt_trichotomy (f a) 0 with ha | ha | ha
    · have e1:cutN f (a :: l)=cutN f l+1 := by simp [cutN,List.takeWhile_cons,ha]
      have e2:hitN f (a :: l)=hitN f l := by simp [hitN,e1]
      rw [e1,e2,List.find?_cons_of_neg (by simp; omega),ih]; rfl
    · have e1:cutN f (a :: l)=0 := by simp [cutN,List.takeWhile_cons,ha]
      have e2:hitN f (a :: l)=true := by simp [hitN,e1,ha]
      rw [e1,e2,List.find?_cons_of_pos (by simpa using ha)]; rfl
    · have e1:cutN f (a :: l)=0 := by simp [cutN,List.takeWhile_cons]; omega
      have e2:hitN f (a :: l)=false := by simp [hitN,e1]; omega
      rw [e2,List.find?_cons_of_neg (by simp; omega)]
      simp only [Bool.false_eq_true,if_false]
      rw [List.find?_eq_none]
      intro x hx hfx
      have := h1 x hx (by simp at hfx; omega)
      omega
theorem mono_cut {l:List α} (h:l.Pairwise (fun a b=>f b≤0→f a<0)) (i j:Nat) (hij:i≤j) (hj:j<l.length) (hl:f l[j]<0):f (l[i]'(by omega))<0 := by
  rcases Nat.lt_or_ge i j with hlt | hge
  · exact List.pairwise_iff_getElem.1 h i j (by omega) hj hlt (by omega)
  · have:i=j := by omega
    subst this; exact hl
theorem cmpS_lt {a b:ByteArray}:cmpS a b<0 ↔ Op.bytesLess a.toList b.toList=true := by
  unfold cmpS; split
  · rename_i h; simp [h]
  · rename_i h
    split <;> simp [h]
theorem cmpS_le {a b:ByteArray}:cmpS a b≤0 ↔ Op.bytesLess b.toList a.toList=false := by
  unfold cmpS; split
  · rename_i h; simp [lessAsym h]
  · split
    · rename_i h; simp [h]
    · rename_i h; simpa using h
theorem cmpS_eq {a b:ByteArray}:cmpS a b=0 ↔ a=b := by
  constructor
  · intro h
    have h1:Op.bytesLess b.toList a.toList=false := cmpS_le.1 (by omega)
    have h2:Op.bytesLess a.toList b.toList=false := by
      cases h3:Op.bytesLess a.toList b.toList
      · rfl
      · have := cmpS_lt.2 h3; omega
    exact bytes_inj (lessTri _ _ h2 h1)
  · rintro rfl
    simp [cmpS,lessI]
theorem cmpS_trans {a b c:ByteArray} (h:cmpS a b<0) (h2:cmpS b c≤0):cmpS a c<0 := by
  rw [cmpS_lt] at h ⊢; rw [cmpS_le] at h2
  cases h3:Op.bytesLess b.toList c.toList
  · rw [← lessTri _ _ h3 h2]; exact h
  · exact lessTrans _ _ _ h h3
theorem cmpI_lt {a b:Int}:cmpI a b<0 ↔ a<b := by unfold cmpI; split <;> (try split) <;> omega
theorem cmpI_le {a b:Int}:cmpI a b≤0 ↔ a≤b := by unfold cmpI; split <;> (try split) <;> omega
theorem cmpI_eq {a b:Int}:cmpI a b=0 ↔ a=b := by unfold cmpI; split <;> (try split) <;> omega
theorem cmpR_eq {a b:Rel}:cmpR a b=0 ↔ a.nm=b.nm∧a.ar=b.ar := by
  unfold cmpR
  split
  · rename_i h; exact ⟨fun h2=>absurd h2 h,fun h2=>absurd (cmpS_eq.2 h2.1) h⟩
  · rename_i h
    rw [cmpI_eq]
    exact ⟨fun h2=>⟨cmpS_eq.1 (Decidable.of_not_not h),h2⟩,fun h2=>h2.2⟩
theorem cmpR_trans {a b c:Rel} (h:cmpR a b<0) (h2:cmpR b c≤0):cmpR a c<0 := by
  unfold cmpR at *
  by_cases e1:cmpS a.nm b.nm=0
  · rw [if_neg (by simpa using e1)] at h
    have e2 := cmpS_eq.1 e1
    rw [e2]
    split
    · rename_i h3; rw [if_pos h3] at h2; omega
    · rename_i h3; rw [if_neg h3] at h2
      rw [cmpI_lt] at h ⊢; rw [cmpI_le] at h2; omega
  · rw [if_pos e1] at h
    have h3:cmpS b.nm c.nm≤0 := by
      split at h2
      · exact h2
      · rename_i h3; have := Decidable.of_not_not h3; omega
    have h4 := cmpS_trans h h3
    rw [if_pos (by omega)]; exact h4
theorem cmpL_eq:∀{a b:List Int},cmpL a b=0 ↔ a=b
  | [],[]=>by simp [cmpL]
  | [],_ :: _=>by simp [cmpL]
  | _ :: _,[]=>by simp [cmpL]
  | a :: l,b :: r=>by
    unfold cmpL
    split
    · rename_i h; exact ⟨fun h2=>absurd h2 h,fun h2=>absurd (cmpI_eq.2 (List.cons.inj h2).1) h⟩
    · rename_i h
      rw [cmpL_eq,List.cons.injEq]
      exact ⟨fun h2=>⟨cmpI_eq.1 (Decidable.of_not_not h),h2⟩,fun h2=>h2.2⟩
theorem cmpL_trans:∀{a b c:List Int},cmpL a b<0→cmpL b c≤0→cmpL a c<0
  | [],[],_,h,_=>by simp [cmpL] at h
  | [],_ :: _,[],_,h=>by simp [cmpL] at h
  | [],_ :: _,_ :: _,_,_=>by simp [cmpL]
  | _ :: _,[],_,h,_=>by simp [cmpL] at h
  | _ :: _,_ :: _,[],_,h=>by simp [cmpL] at h
  | a :: l,b :: r,c :: s,h,h2=>by
    unfold cmpL at h h2 ⊢
    by_cases e1:cmpI a b=0
    · rw [if_neg (by simpa using e1)] at h
      have e2 := cmpI_eq.1 e1
      rw [e2]
      split
      · rename_i h3; rw [if_pos h3] at h2; omega
      · rename_i h3; rw [if_neg h3] at h2
        exact cmpL_trans h h2
    · rw [if_pos e1] at h
      have h3:cmpI b c≤0 := by
        split at h2
        · exact h2
        · rename_i h3; have := Decidable.of_not_not h3; omega
      have h4:cmpI a c<0 := by rw [cmpI_lt] at h ⊢; rw [cmpI_le] at h3; omega
      rw [if_pos (by omega)]; exact h4
theorem consF_good:∀(l:List Con) (prev:Option Con) (i:Nat),(consF sz prev i l).1=0→l.Pairwise (fun a b=>cmpS a.nm b.nm<0)∧(∀p,prev=some p→∀c∈l,cmpS p.nm c.nm<0)∧∀c∈l,okName c.nm=true∧badV sz c.v=false
  | [],_,_,_=>⟨.nil,fun _ _ _ h=>absurd h List.not_mem_nil,fun _ h=>absurd h List.not_mem_nil⟩
  | c :: l,prev,i,h=>by
    unfold consF at h
    split at h
    case isFalse h0=>exact absurd h h0
    case isTrue h0 =>
    obtain ⟨h1,h2,h3⟩ := consF_good l (some c) (i+1) h
    unfold conCode at h0
    split at h0
    · omega
    rename_i k1
    split at h0
    · omega
    rename_i k2
    split at h0
    · omega
    rename_i k3
    have hp:∀p,prev=some p→cmpS p.nm c.nm<0 := by
      rintro p rfl
      simp only [Option.any_some,decide_eq_true_eq] at k2
      omega
    refine ⟨List.pairwise_cons.2 ⟨h2 c rfl,h1⟩,fun p hpp x hx=>?_,fun x hx=>?_⟩
    · rcases List.mem_cons.1 hx with rfl | hx
      · exact hp p hpp
      · have := h2 c rfl x hx
        exact cmpS_trans (hp p hpp) (by omega)
    · rcases List.mem_cons.1 hx with rfl | hx
      · exact ⟨by simpa using k1,by simpa using k3⟩
      · exact h3 x hx
theorem tupsF_good {ar:Int}:∀(l:List (List Int)) (prev:Option (List Int)),tupsF sz ar prev l=0→l.Pairwise (fun a b=>cmpL a b<0)∧(∀p,prev=some p→∀c∈l,cmpL p c<0)∧∀t∈l,(t.length:Int)=ar∧t.any (badV sz)=false
  | [],_,_=>⟨.nil,fun _ _ _ h=>absurd h List.not_mem_nil,fun _ h=>absurd h List.not_mem_nil⟩
  | c :: l,prev,h=>by
    unfold tupsF at h
    split at h
    case isFalse h0=>exact absurd h h0
    case isTrue h0 =>
    obtain ⟨h1,h2,h3⟩ := tupsF_good l (some c) h
    unfold tupCode at h0
    split at h0
    · omega
    rename_i k1
    split at h0
    · omega
    rename_i k2
    split at h0
    · omega
    rename_i k3
    have hp:∀p,prev=some p→cmpL p c<0 := by
      rintro p rfl
      simp only [Option.any_some,decide_eq_true_eq] at k3
      omega
    refine ⟨List.pairwise_cons.2 ⟨h2 c rfl,h1⟩,fun p hpp x hx=>?_,fun x hx=>?_⟩
    · rcases List.mem_cons.1 hx with rfl | hx
      · exact hp p hpp
      · have := h2 c rfl x hx
        exact cmpL_trans (hp p hpp) (by omega)
    · rcases List.mem_cons.1 hx with rfl | hx
      · exact ⟨Decidable.of_not_not k1,by simpa using k2⟩
      · exact h3 x hx
def Rel.good (sz:Int) (x:Rel):Prop := okName x.nm=true∧0≤x.ar∧x.ar≤3∧x.tp.Pairwise (fun a b=>cmpL a b<0)∧∀t∈x.tp,(t.length:Int)=x.ar∧t.any (badV sz)=false
theorem relsF_good:∀(l:List Rel) (prev:Option Rel) (i:Nat),(relsF sz prev i l).1=0→l.Pairwise (fun a b=>cmpR a b<0)∧(∀p,prev=some p→∀c∈l,cmpR p c<0)∧∀c∈l,c.good sz
  | [],_,_,_=>⟨.nil,fun _ _ _ h=>absurd h List.not_mem_nil,fun _ h=>absurd h List.not_mem_nil⟩
  | c :: l,prev,i,h=>by
    unfold relsF at h
    split at h
    case isFalse h0=>exact absurd h h0
    case isTrue h0 =>
    obtain ⟨h1,h2,h3⟩ := relsF_good l (some c) (i+1) h
    unfold relCode at h0
    split at h0
    · omega
    rename_i k1
    split at h0
    · omega
    rename_i k2
    split at h0
    · omega
    rename_i k3
    have hp:∀p,prev=some p→cmpR p c<0 := by
      rintro p rfl
      simp only [Option.any_some,decide_eq_true_eq] at k3
      omega
    obtain ⟨t1,_,t3⟩ := tupsF_good c.tp none h0
    refine ⟨List.pairwise_cons.2 ⟨h2 c rfl,h1⟩,fun p hpp x hx=>?_,fun x hx=>?_⟩
    · rcases List.mem_cons.1 hx with rfl | hx
      · exact hp p hpp
      · have := h2 c rfl x hx
        exact cmpR_trans (hp p hpp) (by omega)
    · rcases List.mem_cons.1 hx with rfl | hx
      · exact ⟨by simpa using k1,by omega,by omega,t1,t3⟩
      · exact h3 x hx
structure Md.good (m:Md):Prop where
  sz:1≤m.sz∧m.sz≤6
  nc:m.cs.length≤300
  nr:m.rs.length≤300
  cs:m.cs.Pairwise (fun a b=>cmpS a.nm b.nm<0)
  ck:∀c∈m.cs,okName c.nm=true∧badV m.sz c.v=false
  rs:m.rs.Pairwise (fun a b=>cmpR a b<0)
  rk:∀x∈m.rs,x.good m.sz
theorem Md.good_of (h:(mdFault m).1=0):m.good := by
  unfold mdFault at h
  split at h
  · exact absurd h (by simp)
  rename_i h1
  split at h
  · exact absurd h (by simp)
  rename_i h2
  split at h
  case isFalse h3=>exact absurd h h3
  case isTrue h3 =>
  obtain ⟨a1,_,a3⟩ := consF_good _ _ _ h3
  obtain ⟨b1,_,b3⟩ := relsF_good _ _ _ h
  exact ⟨by omega,by omega,by omega,a1,a3,b1,b3⟩
def conV (m:Md) (w:ByteArray):Option Int := (m.cs.find? (fun c=>decide (cmpS c.nm w=0))).map Con.v
def envV:List (ByteArray × Int)→ByteArray→Option Int
  | [],_=>none
  | (x,v) :: e,w=>(envV e w).or (if x=w then some v else none)
def wordV (m:Md) (e:List (ByteArray × Int)) (w:ByteArray):Int := ((envV e w).or (conV m w)).getD 0
def relV (m:Md) (n:ByteArray) (k:Nat):Option Rel := m.rs.find? (fun x=>decide (cmpR x ⟨n,k,[]⟩=0))
def predV (m:Md) (n:ByteArray) (t:List Int):Bool := (relV m n t.length).any fun x=>(x.tp.find? (fun u=>decide (cmpL u t=0))).isSome
def rangeV (m:Md):List Int := (List.range m.sz.toNat).map (fun v:Nat=>(v:Int))
def evalF (m:Md):Fv→List (ByteArray × Int)→Bool
  | .tru,_=>true
  | .pred n ws,e=>predV m n (ws.map (wordV m e))
  | .same a b,e=>decide (wordV m e a=wordV m e b)
  | .neg f,e=>!evalF m f e
  | .bin k f g,e=>if k=5 then evalF m f e && evalF m g e else if k=6 then evalF m f e || evalF m g e else !evalF m f e || evalF m g e
  | .qu k x f,e=>if k=8 then (rangeV m).all (fun v=>evalF m f (e++[(x,v)])) else (rangeV m).any (fun v=>evalF m f (e++[(x,v)]))
def nestF:Fv→Nat
  | .tru | .pred _ _ | .same _ _=>0
  | .neg f=>nestF f
  | .bin _ f g=>max (nestF f) (nestF g)
  | .qu _ _ f=>nestF f+1
def hasRels (m:Md):Fv→Bool
  | .tru | .same _ _=>true
  | .pred n ws=>(relV m n ws.length).isSome
  | .neg f | .qu _ _ f=>hasRels m f
  | .bin _ f g=>hasRels m f && hasRels m g
theorem Md.con_cut (h:m.good) (w:ByteArray):m.cs.Pairwise (fun a b=>cmpS b.nm w≤0→cmpS a.nm w<0) := h.cs.imp (fun h1 h2=>cmpS_trans h1 h2)
theorem Md.rel_cut (h:m.good) (w:Rel):m.rs.Pairwise (fun a b=>cmpR b w≤0→cmpR a w<0) := h.rs.imp (fun h1 h2=>cmpR_trans h1 h2)
theorem Rel.tup_cut {x:Rel} (h:x.good sz) (w:List Int):x.tp.Pairwise (fun a b=>cmpL b w≤0→cmpL a w<0) := h.2.2.2.1.imp (fun h1 h2=>cmpL_trans h1 h2)
theorem envV_snoc (x:ByteArray) (v:Int) (w:ByteArray):∀e,envV (e++[(x,v)]) w=if x=w then some v else envV e w
  | []=>by simp [envV]
  | (y,u) :: e=>by
    simp only [List.cons_append,envV,envV_snoc x v w e]
    split <;> simp
end

end Go.Proofs.YthfokmjpbnfihaaDoor
