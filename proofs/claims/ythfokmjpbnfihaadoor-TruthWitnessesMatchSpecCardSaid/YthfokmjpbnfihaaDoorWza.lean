/- Lemmas. -/
import Derived.Test.YthfokmjpbnfihaaDoorWu
namespace Go.Proofs.YthfokmjpbnfihaaDoor
open Go Go.RowKit
set_option linter.unusedSimpArgs false
set_option linter.unusedVariables false
noncomputable section
set_option maxRecDepth 100000
set_option maxHeartbeats 4000000
variable {W:World} {S:Nat→Prop} {t:Fm} {g:Nat} {a:ByteArray} {T:TypeId} {m:Md} {v:Fv}

theorem Fv.fm_inj:∀(v v':Fv),v.ok→v'.ok→v.fm=v'.fm→v=v' := by
  intro v
  induction v with
  | tru =>
    intro v' h1 h2 h
    cases v' <;> simp only [Fv.fm,Fv.ok,Tree.mk.injEq,FmL.mk.injEq] at h h2 <;> first | rfl | (exfalso; omega)
  | pred n ws =>
    intro v' h1 h2 h
    cases v' <;> simp only [Fv.fm,Fv.ok,Tree.mk.injEq,FmL.mk.injEq] at h h2 <;> first | (obtain ⟨⟨_,rfl,rfl⟩,_⟩ := h; rfl) | (exfalso; omega)
  | same a b =>
    intro v' h1 h2 h
    cases v' <;> simp only [Fv.fm,Fv.ok,Tree.mk.injEq,FmL.mk.injEq] at h h2 <;> first | (exfalso; omega) | (obtain ⟨⟨_,_,h3⟩,_⟩ := h; simp at h3; obtain ⟨rfl,rfl⟩ := h3; rfl)
  | neg f ih =>
    intro v' h1 h2 h
    cases v' <;> simp only [Fv.fm,Fv.ok,Tree.mk.injEq,FmL.mk.injEq] at h h2 <;> first | (exfalso; omega) | (obtain ⟨_,h3⟩ := h; rw [ih _ h1 h2 (List.cons.inj h3).1])
  | bin k f g ihf ihg =>
    intro v' h1 h2 h
    have hk := h1.1
    cases v' <;> simp only [Fv.fm,Fv.ok,Tree.mk.injEq,FmL.mk.injEq] at h h2 <;> first | (exfalso; omega) | (obtain ⟨⟨h0,_,_⟩,h3⟩ := h; obtain ⟨h4,h5⟩ := List.cons.inj h3; rw [ihf _ h1.2.1 h2.2.1 h4,ihg _ h1.2.2 h2.2.2 (List.cons.inj h5).1,Int.ofNat_inj.1 h0])
  | qu k x f ih =>
    intro v' h1 h2 h
    have hk := h1.1
    cases v' <;> simp only [Fv.fm,Fv.ok,Tree.mk.injEq,FmL.mk.injEq] at h h2 <;> first | (exfalso; omega) | (obtain ⟨⟨h0,h6,_⟩,h3⟩ := h; rw [ih _ h1.2.2 h2.2.2 (List.cons.inj h3).1,h6,Int.ofNat_inj.1 h0])
theorem boundT_any (k:Int) (y:ByteArray) (kd:Int) (nm:ByteArray) (A:Option Addr) (n1 c1:Nat) (B:Option Addr) (n2 c2:Nat) (w:World):Calls Tryd.prog 8 #[.int .i64 k,.string y,.agg #[.int .i64 kd,.string nm,.slice A n1 c1,.slice B n2 c2]] w fun e w'=>∃g,e=.returned (.agg #[.int .i64 k,.string y,.slice none 0 0,.slice (some ⟨g,0,none⟩) 1 1])∧w'.heap[g]?=some (.cells #[.int .i64 kd,.string nm,.slice A n1 c1,.slice B n2 c2] 29 (0,0))∧w.heap.size≤g∧Below w.heap.size w w' := by
  go_enter Tryd.func8,Tryd.ntmps8
  go_wp2_with fail
  refine bodyPost_ret (v := .agg #[.int .i64 k,.string y,.slice none 0 0,.slice (some ⟨w.heap.size+1+1,0,none⟩) 1 1]) (by simp [results,Tryd.results8,go_sem]) rfl ?_
  exact ⟨_,rfl,heap_at (by simp),by omega,by go_grown⟩
theorem kid1_rep {k:Int} {x:ByteArray} {kd:Int} {nm:ByteArray} {A B:Option Addr} {n1 c1 n2 c2:Nat} (hx:x.size≤maxLen) (hr:fmRep.R W S t [.int .i64 kd,.string nm,.slice A n1 c1,.slice B n2 c2]) (hg:W.heap[g]?=some (.cells #[.int .i64 kd,.string nm,.slice A n1 c1,.slice B n2 c2] 29 (0,0))) (sg:S g):fmRep.R W S (.mk ⟨k,x,[]⟩ [t]) [.int .i64 k,.string x,.slice none 0 0,.slice (some ⟨g,0,none⟩) 1 1] := by
  refine Fm.shut (a := ⟨k,x,[]⟩) (l := [t]) hx Rep.Sl.nil ?_
  refine ⟨_,_,_,rfl,rfl,by decide,fun _=>⟨g,0,_,rfl,sg,Rep.All.single hr,fun j u hj=>?_⟩⟩
  rw [Nat.zero_add]
  match j,hj with
  | 0,hj=>exact (cellv hg 0 rfl).trans (by simpa using hj)
  | 1,hj=>exact (cellv hg 1 rfl).trans (by simpa using hj)
  | 2,hj=>exact (cellv hg 2 rfl).trans (by simpa using hj)
  | 3,hj=>exact (cellv hg 3 rfl).trans (by simpa using hj)
  | n+4,hj=>simp at hj
theorem slS1t {w:World} (hb:w.heap[g]?=some (.cells #[.string a] T (0,0))) (h1:a.size≤maxLen) (hg:S g):strRep.Sl w S (.slice (some ⟨g,0,none⟩) 1 1) [a] := by
  refine ⟨_,1,1,rfl,rfl,by simp [maxLen],fun _=>⟨g,0,[.string a],rfl,hg,⟨[.string a],[],rfl,⟨rfl,h1⟩,rfl⟩,fun j u hj=>?_⟩⟩
  rw [Nat.zero_add]
  match j,hj with
  | 0,hj=>exact (cellv hb 0 rfl).trans (by simpa using hj)
  | n+1,hj=>simp at hj
theorem dog_rep (ha:a.size≤maxLen) (hg:W.heap[g]?=some (.cells #[.string a] T (0,0))) (sg:S g):fmRep.R W S (Fv.pred bDog [a]).fm [.int .i64 2,.string bDog,.slice (some ⟨g,0,none⟩) 1 1,.slice none 0 0] :=
  Fm.shut (a := ⟨2,bDog,[a]⟩) (l := []) (show bDog.size≤maxLen from by decide +kernel) (slS1t hg ha sg) Rep.Sl.nil
theorem allC_of (h:∀c∈fmFrees [] t,(conV m c).isSome=true):allC m (fmConsts t)=true := by
  unfold allC
  rw [List.all_eq_true]
  intro c hc
  exact h c (mem_constsB.1 hc)
theorem fault_ok0 (hv:v.ok) (hn:v.nodes≤200) (hd:v.depth≤40):fmFault v.fm=(0,0) := by
  unfold fmFault
  rw [Fv.val_ok false v 1 0 hv (by omega) (by omega)]
theorem holdsC_zero (hm:(mdFault m).1=0) (hv:v.ok) (hn:v.nodes≤200) (hd:v.depth≤40) (h1:nestT v.fm≤5) (h2:∀c∈fmFrees [] v.fm,(conV m c).isSome=true) (h3:hasT m v.fm=true):holdsC m v.fm=(0,0) := by
  unfold holdsC
  rw [if_neg (by omega),if_neg (by rw [fault_ok0 hv hn hd]; simp)]
  unfold pairT
  rw [if_neg (by omega),if_neg (by rw [allC_of h2]; decide),if_neg (by rw [h3]; decide)]
theorem mdSmall_zero:(mdFault mdSmall).1=0 := by rw [mdSmall_ok]
def exSome:Fv := .qu 9 ⟨#[120]⟩ (.pred bDog [⟨#[120]⟩])
theorem exSome_ok:exSome.ok := ⟨Or.inr rfl,by decide +kernel,by decide +kernel,by decide,by decide +kernel⟩
theorem exSome_zero:holdsC mdSmall exSome.fm=(0,0) := holdsC_zero mdSmall_zero exSome_ok (by decide) (by decide) (by decide +kernel) (by decide +kernel) (by decide +kernel)
theorem holdsC_snd (h:(holdsC m t).1=0):holdsC m t=(0,0) := by
  unfold holdsC at h ⊢
  split at h
  · rename_i h1; exact absurd h (by simp; omega)
  rename_i h1
  rw [if_neg h1]
  split at h
  · rename_i h2; exact absurd h (by simp; omega)
  rename_i h2
  rw [if_neg h2]
  exact (pairT_zero h).1
theorem holdsC_ok (h:(holdsC m t).1=0):(mdFault m).1=0∧(fmFault t).1=0∧(pairT m t).1=0 := by
  unfold holdsC at h
  split at h
  · rename_i h1; exact absurd h (by simp; omega)
  rename_i h1
  split at h
  · rename_i h2; exact absurd h (by simp; omega)
  rename_i h2
  exact ⟨by omega,by omega,h⟩
end

end Go.Proofs.YthfokmjpbnfihaaDoor
