/- Lemmas. -/
import Derived.Test.YthfokmjpbnfihaaDoorProg
import Derived.Test.YthfokmjpbnfihaaDoorIb
import Derived.Test.YthfokmjpbnfihaaDoorIe
import Derived.Deep.DeepCutAuto
import Derived.BigQuiet
import Derived.Deep.RegionLaw
namespace Go.Proofs.YthfokmjpbnfihaaDoor
open Go Go.RowKit
set_option linter.unusedSimpArgs false
set_option linter.unusedVariables false
noncomputable section
set_option maxRecDepth 100000
set_option maxHeartbeats 1000000
variable {a b:ByteArray}

theorem wrap_ok (n:Int) (h0:-9223372036854775808≤n) (h1:n<9223372036854775808):IntKind.i64.wrap n=n := by
  unfold IntKind.wrap
  simp [IntKind.bits,IntKind.signed]
  omega
theorem nanS_any (a:ByteArray) (w:World):Calls Tryd.prog 84 #[.string a] w fun e w'=>e=.returned (.bool false)∧w'=w := by
  have h:(a.toList == a.toList)=true := beq_self_eq_true _
  go_enter Tryd.func84,Tryd.ntmps84
  go_wp2_with fail
  go_returns
  exact ⟨rfl,rfl⟩
theorem nanI_any (a:Int) (w:World):Calls Tryd.prog 83 #[.int .i64 a] w fun e w'=>e=.returned (.bool false)∧w'=w := by
  go_enter Tryd.func83,Tryd.ntmps83
  go_wp2_with fail
  go_returns
  exact ⟨rfl,rfl⟩
theorem less_eq (h1:Op.bytesLess a.toList b.toList=false) (h2:Op.bytesLess b.toList a.toList=false):(a.toList == b.toList)=true := by
  rw [beq_iff_eq]; exact less_tri _ _ h1 h2
theorem less_ne (h2:Op.bytesLess b.toList a.toList=true):(a.toList == b.toList)=false := by
  rw [beq_eq_false_iff_ne]; intro e; rw [e,less_irr] at h2; cases h2
theorem cmpS_any (a b:ByteArray) (w:World):Calls Tryd.prog 57 #[.string a,.string b] w fun e w'=>e=.returned (.int .i64 (cmpS a b))∧w'=w := by
  have HE:Hid (∀z:Int,cmpS a b=z→Ending.returned (.int .i64 z)=.returned (.int .i64 (cmpS a b))) := Lib.hid (fun z h=>by rw [h])
  cases h1:Op.bytesLess a.toList b.toList with
  | true =>
    have hf := HE.out (-1) (by unfold cmpS; rw [if_pos h1])
    have HF := Lib.hid hf
    clear hf
    go_enter Tryd.func57,Tryd.ntmps57
    go_wp2_with fail
    (with_reducible refine (nanS_any a _).mono ?_)
    rintro e w1 ⟨rfl,rfl⟩
    go_wp2_with fail
    (with_reducible refine (nanS_any b _).mono ?_)
    rintro e w1 ⟨rfl,rfl⟩
    go_wp2_with fail
    go_returns
    exact ⟨HF.out,rfl⟩
  | false =>
    cases h2:Op.bytesLess b.toList a.toList with
    | true =>
      have hf := HE.out 1 (by unfold cmpS; rw [if_neg (by rw [h1]; decide),if_pos h2])
      have h3 := less_ne h2
      clear h2
      have HF := Lib.hid hf
      clear hf
      go_enter Tryd.func57,Tryd.ntmps57
      go_wp2_with fail
      (with_reducible refine (nanS_any a _).mono ?_)
      rintro e w1 ⟨rfl,rfl⟩
      go_wp2_with fail
      (with_reducible refine (nanS_any b _).mono ?_)
      rintro e w1 ⟨rfl,rfl⟩
      go_wp2_with fail
      go_returns
      exact ⟨HF.out,rfl⟩
    | false =>
      have hf := HE.out 0 (by unfold cmpS; rw [if_neg (by rw [h1]; decide),if_neg (by rw [h2]; decide)])
      have h3 := less_eq h1 h2
      clear h2
      have HF := Lib.hid hf
      clear hf
      go_enter Tryd.func57,Tryd.ntmps57
      go_wp2_with fail
      (with_reducible refine (nanS_any a _).mono ?_)
      rintro e w1 ⟨rfl,rfl⟩
      go_wp2_with fail
      (with_reducible refine (nanS_any b _).mono ?_)
      rintro e w1 ⟨rfl,rfl⟩
      go_wp2_with fail
      go_returns
      exact ⟨HF.out,rfl⟩
theorem cmpI_any (a b:Int) (w:World):Calls Tryd.prog 55 #[.int .i64 a,.int .i64 b] w fun e w'=>e=.returned (.int .i64 (cmpI a b))∧w'=w := by
  have HE:Hid (∀z:Int,cmpI a b=z→Ending.returned (.int .i64 z)=.returned (.int .i64 (cmpI a b))) := Lib.hid (fun z h=>by rw [h])
  have h3:(a<b∧cmpI a b = -1)∨(¬ a<b∧b<a∧cmpI a b=1)∨(¬ a<b∧¬ b<a∧cmpI a b=0) := by
    unfold cmpI
    split
    · rename_i h; exact Or.inl ⟨h,rfl⟩
    · rename_i h
      split
      · rename_i h2; exact Or.inr (Or.inl ⟨h,h2,rfl⟩)
      · rename_i h2; exact Or.inr (Or.inr ⟨h,h2,rfl⟩)
  rcases h3 with ⟨h1,hz⟩ | ⟨h1,h2,hz⟩ | ⟨h1,h2,hz⟩
  all_goals
    have hf := HE.out _ hz
    clear hz
    have HF := Lib.hid hf
    clear hf
    go_enter Tryd.func55,Tryd.ntmps55
    go_wp2_with fail
    (with_reducible refine (nanI_any a _).mono ?_)
    rintro e w1 ⟨rfl,rfl⟩
    go_wp2_with fail
    (with_reducible refine (nanI_any b _).mono ?_)
    rintro e w1 ⟨rfl,rfl⟩
    go_wp2_with fail
    go_returns
    exact ⟨HF.out,rfl⟩
def orF (a b:Int):Int := if a≠0 then a else b
theorem or_any (a b:Int) (blk o:Nat) (w:World) (h0:w.cell? ⟨blk,o,none⟩=some (.int .i64 a)) (h1:w.cell? ⟨blk,o+1,none⟩=some (.int .i64 b)) :
    Calls Tryd.prog 56 #[.slice (some ⟨blk,o,none⟩) 2 2] w fun e w'=>e=.returned (.int .i64 (orF a b))∧w'=w := by
  have HE:Hid (∀z:Int,orF a b=z→Ending.returned (.int .i64 z)=.returned (.int .i64 (orF a b))) := Lib.hid (fun z h=>by rw [h])
  have hl := World.block_lt_of_cell? w _ h0
  go_enter Tryd.func56,Tryd.ntmps56
  go_wp2_with fail
  go_loopg [8] 2 (fun k v8 wr=>∃j:Nat,v8=.int .i64 (j:Nat)∧w=wr∧j+k=2∧(j=0∨a=0)∧(j=2→b=0))
  case atStart=>exact ⟨0,rfl,rfl,by omega,Or.inl rfl,by omega⟩
  case round =>
    obtain ⟨j,rfl,hw,hj,ha,hb⟩ := hrel
    subst hw
    rcases (by omega:j=0∨j=1∨j=2) with rfl | rfl | rfl
    · by_cases hz:a=0
      · subst hz
        go_wp2_with fail
        go_roundg 1
        case measure=>omega
        case rel=>exact ⟨1,by go_num,by trivial,by omega,Or.inr (by trivial),by omega⟩
      · have q1:(a != 0)=true := bne_iff_ne.2 hz
        have hf := HE.out a (by unfold orF; rw [if_pos hz])
        clear hz
        have HF := Lib.hid hf
        clear hf
        go_wp2_with fail
        go_returns
        exact ⟨HF.out,rfl⟩
    · obtain rfl:a=0 := ha.resolve_left (by omega)
      by_cases hz:b=0
      · subst hz
        go_wp2_with fail
        go_roundg 0
        case measure=>omega
        case rel=>exact ⟨2,by go_num,by trivial,by omega,Or.inr (by trivial),fun _=>by trivial⟩
      · have q1:(b != 0)=true := bne_iff_ne.2 hz
        have hf := HE.out b (by unfold orF; simp)
        clear hz
        have HF := Lib.hid hf
        clear hf
        go_wp2_with fail
        go_returns
        exact ⟨HF.out,rfl⟩
    · obtain rfl:a=0 := ha.resolve_left (by omega)
      obtain rfl := hb rfl
      have hf := HE.out 0 (by unfold orF; simp)
      have HF := Lib.hid hf
      clear hf
      go_wp2_with fail
      go_returns
      exact ⟨HF.out,rfl⟩
theorem int_at {w:World} {S:Nat→Prop} {A:Option Addr} {n c j:Nat} {l:List Int} (h:zRep.Sl w S (.slice A n c) l) (hj:j<l.length):∃b o,A=some ⟨b,o,none⟩∧S b∧w.cell? ⟨b,o+j,none⟩=some (.int .i64 l[j]) := by
  obtain ⟨b,o,cs,hA,hSb,hx,hcell⟩ := Rep.Sl.at_ h (k := j) (a := l[j]) (by simp [hj])
  obtain rfl:cs=[.int .i64 l[j]] := hx
  exact ⟨b,o,hA,hSb,by have := hcell 0 _ rfl; simpa [zRep] using this⟩
theorem cmpL_any (l r:List Int) (A B:Option Addr) (c d:Nat) (w:World) (S:Nat→Prop) (h:zRep.Sl w S (.slice A l.length c) l) (g:zRep.Sl w S (.slice B r.length d) r) :
    Calls Tryd.prog 35 #[.slice A l.length c,.slice B r.length d] w fun e w'=>e=.returned (.int .i64 (cmpL l r))∧w'=w := by
  have HE:Hid (∀z:Int,cmpL l r=z→Ending.returned (.int .i64 z)=.returned (.int .i64 (cmpL l r))) := Lib.hid (fun z h=>by rw [h])
  have hl:l.length≤maxLen := h.shape.choose_spec.choose_spec.2
  have hr:r.length≤maxLen := g.shape.choose_spec.choose_spec.2
  unfold maxLen at hl hr
  have H := Lib.hid h
  have G := Lib.hid g
  clear h g
  go_enter Tryd.func35,Tryd.ntmps35
  go_wp2_with fail
  go_loopg [11] l.length (fun k v11 wr=>∃j:Nat,v11=.int .i64 (j:Nat)∧w=wr∧j+k=l.length∧cmpL (l.drop j) (r.drop j)=cmpL l r∧j≤r.length)
  case atStart=>exact ⟨0,rfl,rfl,by omega,by simp,by omega⟩
  case round =>
    obtain ⟨j,rfl,hw,hj,hc,hjr⟩ := hrel
    subst hw
    by_cases hjl:j<l.length
    · obtain ⟨b,o,hA,hSb,e0⟩ := int_at H.out hjl
      subst hA
      have hlb := World.block_lt_of_cell? w _ e0
      have q0:(0:Int)≤(j:Int) := by omega
      have q1:(j:Int)<(l.length:Int) := by omega
      rw [List.drop_eq_getElem_cons hjl] at hc
      by_cases hjr2:j<r.length
      · obtain ⟨b2,o2,hB,hSb2,e1⟩ := int_at G.out hjr2
        subst hB
        have hlb2 := World.block_lt_of_cell? w _ e1
        have q2:¬ (r.length:Int)≤(j:Int) := by omega
        have q3:(j:Int)<(r.length:Int) := by omega
        rw [List.drop_eq_getElem_cons hjr2] at hc
        simp only [cmpL] at hc
        have hci := fun W:World=>cmpI_any l[j] r[j] W
        obtain ⟨z,hz⟩:∃z,cmpI l[j] r[j]=z := ⟨_,rfl⟩
        rw [hz] at hc hci
        obtain ⟨u,hu⟩:∃u,l[j]=u := ⟨_,rfl⟩
        obtain ⟨v,hv⟩:∃v,r[j]=v := ⟨_,rfl⟩
        rw [hu] at e0 hci
        rw [hv] at e1 hci
        clear hz hu hv
        by_cases hz0:z=0
        · subst hz0
          have hc2:cmpL (l.drop (j+1)) (r.drop (j+1))=cmpL l r := by simpa using hc
          clear hc
          have HC2 := Lib.hid hc2
          have HCI := Lib.hid hci
          clear hc2 hci
          go_wp2_with fail
          (with_reducible refine (HCI.out _).mono ?_)
          rintro e w1 ⟨rfl,rfl⟩
          go_wp2_with fail
          go_roundg (l.length - (j+1))
          case measure=>omega
          case rel=>exact ⟨j+1,by go_num,by trivial,by omega,HC2.out,by omega⟩
        · have q4:(z != 0)=true := bne_iff_ne.2 hz0
          have hf := HE.out z (by rw [← hc,if_pos hz0])
          clear hc hz0
          have HF := Lib.hid hf
          have HCI := Lib.hid hci
          clear hf hci
          go_wp2_with fail
          (with_reducible refine (HCI.out _).mono ?_)
          rintro e w1 ⟨rfl,rfl⟩
          go_wp2_with fail
          go_returns
          exact ⟨HF.out,rfl⟩
      · have q2:(r.length:Int)≤(j:Int) := by omega
        have hdr:r.drop j=[] := List.drop_eq_nil_of_le (by omega)
        rw [hdr] at hc
        have hf := HE.out 1 (by rw [← hc]; rfl)
        clear hc
        have HF := Lib.hid hf
        clear hf
        go_wp2_with fail
        go_returns
        exact ⟨HF.out,rfl⟩
    · have q1:¬ (j:Int)<(l.length:Int) := by omega
      have hdl:l.drop j=[] := List.drop_eq_nil_of_le (by omega)
      rw [hdl] at hc
      by_cases hlr:l.length<r.length
      · have q2:(l.length:Int)<(r.length:Int) := by omega
        rw [List.drop_eq_getElem_cons (l := r) (i := j) (by omega)] at hc
        have hf := HE.out (-1) (by rw [← hc]; rfl)
        clear hc
        have HF := Lib.hid hf
        clear hf
        go_wp2_with fail
        go_returns
        exact ⟨HF.out,rfl⟩
      · have q2:¬ (l.length:Int)<(r.length:Int) := by omega
        have hdr:r.drop j=[] := List.drop_eq_nil_of_le (by omega)
        rw [hdr] at hc
        have hf := HE.out 0 (by rw [← hc]; rfl)
        clear hc
        have HF := Lib.hid hf
        clear hf
        go_wp2_with fail
        go_returns
        exact ⟨HF.out,rfl⟩
theorem bad1_any (b:Nat) (code i:Int) (w:World) (h:w.cell? ⟨b,0,none⟩=some (.int .i64 i)) :
    Calls Tryd.prog 38 #[.int .i64 code,.pointer (some ⟨b,0,none⟩)] w fun e w'=>e=.returned (.agg #[.int .i64 code,.int .i64 i])∧Below w.heap.size w w' := by
  have hb := World.block_lt_of_cell? w _ h
  go_enter Tryd.func38,Tryd.ntmps38
  go_wp2_with fail
  refine bodyPost_ret (v := .agg #[.int .i64 code,.int .i64 i]) (by simp [results,Tryd.results38,go_sem]) rfl ?_
  exact ⟨rfl,by go_grown⟩
theorem bad2_any (b:Nat) (code i:Int) (w:World) (h:w.cell? ⟨b,0,none⟩=some (.int .i64 i)) :
    Calls Tryd.prog 39 #[.int .i64 code,.pointer (some ⟨b,0,none⟩)] w fun e w'=>e=.returned (.agg #[.int .i64 code,.int .i64 i])∧Below w.heap.size w w' := by
  have hb := World.block_lt_of_cell? w _ h
  go_enter Tryd.func39,Tryd.ntmps39
  go_wp2_with fail
  refine bodyPost_ret (v := .agg #[.int .i64 code,.int .i64 i]) (by simp [results,Tryd.results39,go_sem]) rfl ?_
  exact ⟨rfl,by go_grown⟩
end
noncomputable section
set_option maxRecDepth 100000
set_option maxHeartbeats 16000000

theorem cmpR_any (x y:Rel) (va vb:Value) (w:World) (h1:va.oneCell'=true) (h2:vb.oneCell'=true) :
    Calls Tryd.prog 40 #[.agg #[.string x.nm,.int .i64 x.ar,va],.agg #[.string y.nm,.int .i64 y.ar,vb]] w fun e w'=>e=.returned (.int .i64 (cmpR x y))∧Below w.heap.size w w' := by
  obtain ⟨xn,xa,xt⟩ := x
  obtain ⟨yn,ya,yt⟩ := y
  have hs := fun W:World=>cmpS_any xn yn W
  have hi := fun W:World=>cmpI_any xa ya W
  have ho := fun (blk:Nat) (W:World) h0 h1=>or_any (cmpS xn yn) (cmpI xa ya) blk 0 W h0 h1
  rw [show orF (cmpS xn yn) (cmpI xa ya)=cmpR ⟨xn,xa,xt⟩ ⟨yn,ya,yt⟩ from rfl] at ho
  obtain ⟨zz,hz⟩:∃z,cmpR ⟨xn,xa,xt⟩ ⟨yn,ya,yt⟩=z := ⟨_,rfl⟩
  obtain ⟨z1,hz1⟩:∃z,cmpS xn yn=z := ⟨_,rfl⟩
  obtain ⟨z2,hz2⟩:∃z,cmpI xa ya=z := ⟨_,rfl⟩
  rw [hz,hz1,hz2] at ho
  rw [hz1] at hs
  rw [hz2] at hi
  rw [hz]
  clear hz hz1 hz2
  have HS := Lib.hid hs
  have HI := Lib.hid hi
  have HO := Lib.hid ho
  clear hs hi ho
  go_enter Tryd.func40,Tryd.ntmps40
  go_wp2_with fail
  go_region_held3 (fun w'=>w'.cell? ⟨w.heap.size,0,none⟩=some (.string xn)∧w'.cell? ⟨w.heap.size,1,none⟩=some (.int .i64 xa)∧w'.cell? ⟨w.heap.size+1,0,none⟩=some (.string yn)∧w'.cell? ⟨w.heap.size+1,1,none⟩=some (.int .i64 ya))
    ((go_keep; done))
    ((first
      | ((with_reducible refine (HS.out _).mono ?_); rintro e w3 ⟨rfl,rfl⟩)
      | ((with_reducible refine (HI.out _).mono ?_); rintro e w3 ⟨rfl,rfl⟩)
      | ((with_reducible refine (HO.out _ _ ?_ ?_).mono ?_)
         · exact cell_heap (heap_drew (heap_at (by simp))) rfl
         · exact cell_heap (heap_drew (heap_at (by simp))) rfl
         rintro e w3 ⟨rfl,rfl⟩)
      | fail))
  all_goals go_wp2_with fail
  all_goals go_returns
  all_goals exact ⟨rfl,by go_grown⟩
end
noncomputable section
set_option maxRecDepth 1000000
set_option maxHeartbeats 16000000
variable {s_0 s_2 tv s_8 s_9 s_10:Value} {Q:Exit→Act→World→Prop} {w:World} {A:Option Addr} {n c i j h b o:Nat} {z q:Int} {p:ByteArray}

theorem frame_bc {P:Act→Prop} (h:∀x0 x1 x2 x3 x4 x5 x6 x7 x8 x9 x10 x11 x12 x13 x14 x15 x16 x17 x18 x19 x20 x21 x22 x23 x24 x25 x26 x27 x28 x29 x30 x31 x32 x33 x34 x35 x36 x37 x38 x39 x40 x41 x42 x43 x44 x45 x46 x47 x48:Value,P ⟨(x0 :: x1 :: x2 :: x3 :: x4 :: x5 :: x6 :: x7 :: x8 :: x9 :: x10 :: x11 :: x12 :: x13 :: x14 :: x15 :: x16 :: x17 :: x18 :: x19 :: x20 :: x21 :: x22 :: x23 :: x24 :: x25 :: x26 :: x27 :: x28 :: x29 :: x30 :: x31 :: x32 :: x33 :: x34 :: x35 :: x36 :: x37 :: x38 :: x39 :: x40 :: x41 :: x42 :: x43 :: x44 :: x45 :: x46 :: x47 :: x48 :: []).toArray,[]⟩):∀a:Act,a.tmps.toList.length=49→a.defers=[]→P a := by
  rintro ⟨⟨l⟩,d⟩ hs hd
  simp only at hd
  subst hd
  revert l
  show ∀l:List Value,l.length=49→P ⟨⟨l⟩,[]⟩
  iterate 49 refine openS (fun _=>?_)
  refine open0 ?_
  exact h ..
noncomputable def cF58:Code := Tryd.f58.body.getD .skip
def c_bc_r0 := sp 99 2 cF58
theorem bc_r0_wp (hN:∀a',Frm 49 [(0,s_0),(1,tv),(2,s_2)] a'→Q .normal a' w):∀ac,Frm 49 [(0,s_0),(1,tv),(2,s_2)] ac→Code.wp Tryd.prog c_bc_r0 Q ac w := by
  refine fO (frame_bc ?_)
  intros
  rename_i hq
  iterate 3 (obtain ⟨e,hq⟩ := hq; obtain rfl := sI e; clear e)
  clear hq
  conv=>arg 2; whnf
  replace hN := Lib.hid hN
  go_wp2_with fail
  exact hN.out _ (by exact fR rfl rfl rfl)
def c_bc_r1 := sp 99 5 cF58
theorem bc_r1_wp (hN:∀a',Frm 49 [(0,.slice A n c),(1,tv),(2,s_2),(8,.int .i64 (n:Nat))] a'→Q .normal a' w):∀ac,Frm 49 [(0,.slice A n c),(1,tv),(2,s_2)] ac→Code.wp Tryd.prog c_bc_r1 Q ac w := by
  refine fO (frame_bc ?_)
  intros
  rename_i hq
  iterate 3 (obtain ⟨e,hq⟩ := hq; obtain rfl := sI e; clear e)
  clear hq
  conv=>arg 2; whnf
  replace hN := Lib.hid hN
  go_wp2_with fail
  exact hN.out _ (by exact fR rfl rfl rfl)
def c_bc_r2 := sp 99 11 cF58
theorem bc_r2_wp (hN:∀a',Frm 49 [(0,s_0),(1,tv),(2,s_2),(8,.int .i64 (n:Nat)),(9,.int .i64 (0:Nat)),(10,.int .i64 (n:Nat))] a'→Q .normal a' w):∀ac,Frm 49 [(0,s_0),(1,tv),(2,s_2),(8,.int .i64 (n:Nat))] ac→Code.wp Tryd.prog c_bc_r2 Q ac w := by
  refine fO (frame_bc ?_)
  intros
  rename_i hq
  iterate 4 (obtain ⟨e,hq⟩ := hq; obtain rfl := sI e; clear e)
  clear hq
  conv=>arg 2; whnf
  replace hN := Lib.hid hN
  go_wp2_with fail
  exact hN.out _ (by exact fR rfl rfl rfl)
def c_bc_r3 := sp 99 263 cF58
theorem bc_r3_wp (hN:∀a',Frm 49 [(0,s_0),(1,tv),(2,s_2),(8,s_8),(9,.int .i64 (i:Nat)),(10,.int .i64 (j:Nat)),(17,.bool (decide (i<j)))] a'→Q .normal a' w):∀ac,Frm 49 [(0,s_0),(1,tv),(2,s_2),(8,s_8),(9,.int .i64 (i:Nat)),(10,.int .i64 (j:Nat))] ac→Code.wp Tryd.prog c_bc_r3 Q ac w := by
  refine fO (frame_bc ?_)
  intros
  rename_i hq
  iterate 6 (obtain ⟨e,hq⟩ := hq; obtain rfl := sI e; clear e)
  clear hq
  conv=>arg 2; whnf
  by_cases h:i<j
  · have t1:decide ((i:Int)<(j:Int))=true := by first | exact decide_eq_true (by omega) | exact beq_iff_eq.2 (by omega) | exact bne_iff_ne.2 (by omega)
    have t2:(decide (i<j))=true := decide_eq_true h
    rw [t2] at hN
    clear h
    replace hN := Lib.hid hN
    go_wp2_with fail
    exact hN.out _ (by exact fR rfl rfl rfl)
  · have t1:decide ((i:Int)<(j:Int))=false := by first | exact decide_eq_false (by omega) | exact beq_eq_false_iff_ne.2 (by omega) | exact bne_eq_false_iff_eq.2 (by omega)
    have t2:(decide (i<j))=false := decide_eq_false h
    rw [t2] at hN
    clear h
    replace hN := Lib.hid hN
    go_wp2_with fail
    exact hN.out _ (by exact fR rfl rfl rfl)
def c_bc_r4 := sp 99 583 cF58
theorem bc_r4_wp (hi:i≤1000000) (hj:j≤1000000) (hN:∀a',Frm 49 [(0,s_0),(1,tv),(2,s_2),(8,s_8),(9,.int .i64 (i:Nat)),(10,.int .i64 (j:Nat)),(11,.int .i64 (((i+j) / 2):Nat))] a'→Q .normal a' w):∀ac,Frm 49 [(0,s_0),(1,tv),(2,s_2),(8,s_8),(9,.int .i64 (i:Nat)),(10,.int .i64 (j:Nat))] ac→Code.wp Tryd.prog c_bc_r4 Q ac w := by
  refine fO (frame_bc ?_)
  intros
  rename_i hq
  iterate 6 (obtain ⟨e,hq⟩ := hq; obtain rfl := sI e; clear e)
  clear hq
  conv=>arg 2; whnf
  have q1:(i:Int)≤1000000 := by omega
  have q2:(j:Int)≤1000000 := by omega
  replace hN := Lib.hid hN
  go_wp2_with fail
  exact hN.out _ (by exact fR rfl rfl rfl)
def c_bc_r5 := sp 99 1351 cF58
theorem bc_r5_wp (hh:h<n) (e0:w.cell? ⟨b,o+h * 2,none⟩=some (.string p)) (e1:w.cell? ⟨b,o+h * 2+1,none⟩=some (.int .i64 q)) (hbl:b<w.heap.size) (hc:∀W:World,Below w.heap.size w W→Calls Tryd.prog 59 #[.agg #[.string p,.int .i64 q],tv] W fun e w'=>e=.returned (.int .i64 z)∧Below w.heap.size w w') (hN:∀a' w',Frm 49 [(0,.slice (some ⟨b,o,none⟩) n c),(1,tv),(2,.func (Fn.func 59) #[] #[]),(8,s_8),(9,s_9),(10,s_10),(11,.int .i64 (h:Nat)),(31,.bool (decide (z<0)))] a'→Below w.heap.size w w'→Q .normal a' w'):∀ac,Frm 49 [(0,.slice (some ⟨b,o,none⟩) n c),(1,tv),(2,.func (Fn.func 59) #[] #[]),(8,s_8),(9,s_9),(10,s_10),(11,.int .i64 (h:Nat))] ac→Code.wp Tryd.prog c_bc_r5 Q ac w := by
  refine fO (frame_bc ?_)
  intros
  rename_i hq
  iterate 7 (obtain ⟨e,hq⟩ := hq; obtain rfl := sI e; clear e)
  clear hq
  conv=>arg 2; whnf
  have q0:(0:Int)≤(h:Int) := by omega
  have q1:(h:Int)<(n:Int) := by omega
  by_cases hz:z<0
  · have t1:decide (z<0)=true := decide_eq_true hz
    rw [t1] at hN
    clear hz
    have HN := Lib.hid hN
    have HC := Lib.hid hc
    clear hN hc
    go_wp2_with fail
    (with_reducible refine (HC.out _ (Below.refl _ _)).mono ?_)
    rintro e w1 ⟨rfl,hb1⟩
    replace hb1 := Lib.hid hb1
    go_wp2_with fail
    exact HN.out _ _ (by exact fR rfl rfl rfl) hb1.out
  · have t1:decide (z<0)=false := decide_eq_false hz
    rw [t1] at hN
    clear hz
    have HN := Lib.hid hN
    have HC := Lib.hid hc
    clear hN hc
    go_wp2_with fail
    (with_reducible refine (HC.out _ (Below.refl _ _)).mono ?_)
    rintro e w1 ⟨rfl,hb1⟩
    replace hb1 := Lib.hid hb1
    go_wp2_with fail
    exact HN.out _ _ (by exact fR rfl rfl rfl) hb1.out
def c_bc_r6 := sp 99 2887 cF58
theorem bc_r6_wp (hh:h≤1000000) (hN:∀a',Frm 49 [(0,s_0),(1,tv),(2,s_2),(8,s_8),(9,.int .i64 ((h+1):Nat)),(10,s_10)] a'→Q .normal a' w):∀ac,Frm 49 [(0,s_0),(1,tv),(2,s_2),(8,s_8),(9,.int .i64 (i:Nat)),(10,s_10),(11,.int .i64 (h:Nat))] ac→Code.wp Tryd.prog c_bc_r6 Q ac w := by
  refine fO (frame_bc ?_)
  intros
  rename_i hq
  iterate 7 (obtain ⟨e,hq⟩ := hq; obtain rfl := sI e; clear e)
  clear hq
  conv=>arg 2; whnf
  have q1:(h:Int)≤1000000 := by omega
  replace hN := Lib.hid hN
  go_wp2_with fail
  exact hN.out _ (by exact fR rfl rfl rfl)
def c_bc_r7 := sp 99 3911 cF58
theorem bc_r7_wp (hN:∀a',Frm 49 [(0,s_0),(1,tv),(2,s_2),(8,s_8),(9,s_9),(10,.int .i64 (h:Nat))] a'→Q .normal a' w):∀ac,Frm 49 [(0,s_0),(1,tv),(2,s_2),(8,s_8),(9,s_9),(10,.int .i64 (j:Nat)),(11,.int .i64 (h:Nat))] ac→Code.wp Tryd.prog c_bc_r7 Q ac w := by
  refine fO (frame_bc ?_)
  intros
  rename_i hq
  iterate 7 (obtain ⟨e,hq⟩ := hq; obtain rfl := sI e; clear e)
  clear hq
  conv=>arg 2; whnf
  replace hN := Lib.hid hN
  go_wp2_with fail
  exact hN.out _ (by exact fR rfl rfl rfl)
def c_bc_r8n := sp 99 47 cF58
theorem bc_r8n_wp (hi:n≤i) (hN:∀a',Frm 49 [(6,.int .i64 (i:Nat)),(7,.bool false)] a'→Q .normal a' w):∀ac,Frm 49 [(0,.slice A n c),(1,tv),(2,.func (Fn.func 59) #[] #[]),(8,.int .i64 (n:Nat)),(9,.int .i64 (i:Nat)),(10,s_10)] ac→Code.wp Tryd.prog c_bc_r8n Q ac w := by
  refine fO (frame_bc ?_)
  intros
  rename_i hq
  iterate 6 (obtain ⟨e,hq⟩ := hq; obtain rfl := sI e; clear e)
  clear hq
  conv=>arg 2; whnf
  have t1:decide ((i:Int)<(n:Int))=false := decide_eq_false (by omega)
  have t2:decide (i<n)=false := decide_eq_false (by omega)
  replace hN := Lib.hid hN
  go_wp2_with fail
  exact hN.out _ (id ⟨rfl,rfl,rfl,rfl,trivial⟩)
def c_bc_r8 := sp 99 47 cF58
theorem bc_r8_wp (hi:i<n) (e0:w.cell? ⟨b,o+i * 2,none⟩=some (.string p)) (e1:w.cell? ⟨b,o+i * 2+1,none⟩=some (.int .i64 q)) (hbl:b<w.heap.size) (hc:∀W:World,Below w.heap.size w W→Calls Tryd.prog 59 #[.agg #[.string p,.int .i64 q],tv] W fun e w'=>e=.returned (.int .i64 z)∧Below w.heap.size w w') (hN:∀a' w',Frm 49 [(6,.int .i64 (i:Nat)),(7,.bool (decide (z=0)))] a'→Below w.heap.size w w'→Q .normal a' w'):∀ac,Frm 49 [(0,.slice (some ⟨b,o,none⟩) n c),(1,tv),(2,.func (Fn.func 59) #[] #[]),(8,.int .i64 (n:Nat)),(9,.int .i64 (i:Nat)),(10,s_10)] ac→Code.wp Tryd.prog c_bc_r8 Q ac w := by
  refine fO (frame_bc ?_)
  intros
  rename_i hq
  iterate 6 (obtain ⟨e,hq⟩ := hq; obtain rfl := sI e; clear e)
  clear hq
  conv=>arg 2; whnf
  have q0:(0:Int)≤(i:Int) := by omega
  have q1:(i:Int)<(n:Int) := by omega
  have t1:decide ((i:Int)<(n:Int))=true := decide_eq_true (by omega)
  have t2:decide (i<n)=true := decide_eq_true (by omega)
  by_cases hz:z=0
  · subst hz
    rw [show decide ((0:Int)=0)=true from rfl] at hN
    have HN := Lib.hid hN
    have HC := Lib.hid hc
    clear hN hc
    go_wp2_with fail
    (with_reducible refine (HC.out _ (Below.refl _ _)).mono ?_)
    rintro e w1 ⟨rfl,hb1⟩
    replace hb1 := Lib.hid hb1
    go_wp2_with fail
    exact HN.out _ _ (id ⟨rfl,rfl,rfl,rfl,trivial⟩) hb1.out
  · have t3:(z == 0)=false := beq_eq_false_iff_ne.2 hz
    rw [show decide (z=0)=false from decide_eq_false hz] at hN
    clear hz
    have HN := Lib.hid hN
    have HC := Lib.hid hc
    clear hN hc
    go_wp2_with fail
    (with_reducible refine (HC.out _ (Below.refl _ _)).mono ?_)
    rintro e w1 ⟨rfl,hb1⟩
    replace hb1 := Lib.hid hb1
    go_wp2_with fail
    exact HN.out _ _ (id ⟨rfl,rfl,rfl,rfl,trivial⟩) hb1.out
theorem bc_ret_wp {R:Ending→World→Prop} {w':World} {bb:Bool} (hR:R (.returned (.tuple #[.int .i64 (i:Nat),.bool bb])) w'):∀ac,Frm 49 [(6,.int .i64 (i:Nat)),(7,.bool bb)] ac→bodyPost Tryd.prog Tryd.f58 R .ret ac w' := by
  refine fO (frame_bc ?_)
  intros
  rename_i hq
  iterate 2 (obtain ⟨e,hq⟩ := hq; obtain rfl := sI e; clear e)
  clear hq
  refine bodyPost_ret (v := .tuple #[.int .i64 (i:Nat),.bool bb]) (by simp [results,Tryd.results58,go_sem]) rfl ?_
  exact hR
end

end Go.Proofs.YthfokmjpbnfihaaDoor
