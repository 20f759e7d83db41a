/- Lemmas. -/
import Derived.Test.YthfokmjpbnfihaaDoorIze
namespace Go.Proofs.YthfokmjpbnfihaaDoor
open Go Go.RowKit
set_option linter.unusedSimpArgs false
set_option linter.unusedVariables false
noncomputable section
set_option maxRecDepth 100000
set_option maxHeartbeats 4000000

theorem fmFault_ok {t:Fm} (h:(fmFault t).1=0):∃v:Fv,t=v.fm∧v.ok∧v.nodes≤200∧v.depth≤40∧fmFault t=(0,0) := by
  obtain ⟨v,e,h1,h2,h3,h4⟩ := Fv.of_val t 1 0 h
  exact ⟨v,e,h1,by omega,by omega,Prod.ext h ((fmVal_le false t 1 0 (by omega)).2 h).2⟩
def insC (t:Fm) (y:ByteArray):Int × Int := if (fmFault t).1≠0 then (((fmFault t).1:Nat),((fmFault t).2:Nat)) else if isQu t.lab.kind=false then (4,-1) else if okName y=false then (10,-2) else (0,0)
def insT (t:Fm) (y:ByteArray):Fm := if (fmFault t).1=0∧isQu t.lab.kind=true∧okName y=true then (match t.kids with | b :: _=>canF [(t.lab.nm,y)] b | []=>fmZ) else fmZ
theorem Fv.qu_of {v:Fv} (h:isQu v.fm.lab.kind=true) (hv:v.ok):∃k x f,v=.qu k x f := by
  have hq:v.fm.lab.kind=8∨v.fm.lab.kind=9 := by
    unfold isQu at h
    simpa using h
  cases v with
  | qu k x f=>exact ⟨k,x,f,rfl⟩
  | bin k f g =>
    simp only [Fv.fm,Tree.lab] at hq
    obtain ⟨h1,_⟩ := hv
    omega
  | _=>simp [Fv.fm,Tree.lab] at hq
theorem instance_any (t:Fm) (y:ByteArray) (hy:y.size≤maxLen) (cs:List Value) (w:World) (S:Nat→Prop) (ht:fmRep.R w S t cs) (hS:∀b,S b→b<w.heap.size) (htab:∀W,Below w.heap.size w W→Lib.TabIs Tryd.prog W "internal/strconv.uint64pow10" .u64 Lib.pow10Tab) :
    Calls Tryd.prog 17 #[.agg cs.toArray,.string y] w fun e w'=>∃es:List Value,e=.returned (.tuple #[.agg es.toArray,.agg #[.int .i64 (insC t y).1,.int .i64 (insC t y).2]])∧fmRep.R w' (fun b=>w.heap.size≤b∧b<w'.heap.size) (insT t y) es∧Below w.heap.size w w' := by
  obtain ⟨A,n1,c1,B,n2,c2,rfl,_,_,_,_⟩ := Fm.shape ht
  obtain ⟨kd,hkd⟩:∃k,t.lab.kind=k := ⟨_,rfl⟩
  obtain ⟨nm,hnm⟩:∃k,t.lab.nm=k := ⟨_,rfl⟩
  rw [hkd,hnm] at ht ⊢
  go_enter Tryd.func17,Tryd.ntmps17
  refine wp_seq ?_
  refine in2_r0_wp (fun a0 h0=>?_) _ (id ⟨rfl,rfl,rfl,rfl,trivial⟩)
  refine gen_last (fun wx=>wx.heap[w.heap.size]? = some (.cells #[.int .i64 kd,.string nm,.slice A n1 c1,.slice B n2 c2] 29 (0,0))∧wx.heap[w.heap.size+1]? = some (.cells #[.int .i64 0,.string ⟨#[]⟩,.slice none 0 0,.slice none 0 0] 29 (0,0))∧wx.heap[w.heap.size+2]? = some (.cells #[.int .i64 0,.int .i64 0] 32 (0,0))∧wx.heap.size=w.heap.size+3∧Below w.heap.size w wx) ⟨heap_old (by simp; omega) (heap_old (by simp) (heap_at (by simp))),heap_old (by simp) (heap_at (by simp)),heap_at (by simp),by simp,(((Below.refl _ _).alloc (Nat.le_refl _) _).alloc (by simp) _).alloc (by simp; omega) _⟩ ?_
  rintro wx ⟨ha,hz,hx,hsz,hb⟩
  refine wp_seq ?_
  have hv := validateFm_any t [.int .i64 kd,.string nm,.slice A n1 c1,.slice B n2 c2] wx S (fmRep.keep ht (fun b h=>hb.block b (hS b h)) (fun _ h=>h)) (fun b h=>by have := hS b h; omega)
  refine wp_seq ?_
  refine in2_r1_wp ha hv (fun w1 a1 h1 hb1=>?_) a0 h0
  obtain ⟨gb,hgb⟩:∃b,w1.heap.size=b := ⟨_,rfl⟩
  rw [hgb] at h1
  have hb1s := hb1.size
  refine gen_last (fun wy=>wy.heap[w.heap.size]? = some (.cells #[.int .i64 kd,.string nm,.slice A n1 c1,.slice B n2 c2] 29 (0,0))∧wy.heap[w.heap.size+1]? = some (.cells #[.int .i64 0,.string ⟨#[]⟩,.slice none 0 0,.slice none 0 0] 29 (0,0))∧wy.heap[w.heap.size+2]? = some (.cells #[.int .i64 0,.int .i64 0] 32 (0,0))∧wy.heap[gb]? = some (.cells #[.int .i64 ((fmFault t).1:Nat),.int .i64 ((fmFault t).2:Nat)] 32 (0,0))∧Below w.heap.size w wy∧w.heap.size+3≤wy.heap.size) ⟨heap_old (by have := lt_heap ha; omega) ((hb1.block _ (lt_heap ha)).trans ha),heap_old (by have := lt_heap hz; omega) ((hb1.block _ (lt_heap hz)).trans hz),heap_old (by have := lt_heap hx; omega) ((hb1.block _ (lt_heap hx)).trans hx),by rw [← hgb]; exact heap_alloc_new _ _,(hb.trans (hb1.mono (by omega))).alloc (by omega) _,by simp; omega⟩ ?_
  rintro w2 ⟨ha2,hz2,hx2,hg2,hb2,hs2⟩
  refine wp_seq ?_
  refine in2_r2_wp hg2 (fun a2 h2=>?_) a1 h1
  by_cases hf:(fmFault t).1=0
  case neg =>
    refine wp_cond_true ((h2.eval (k := 11) (v := .bool (decide ((fmFault t).1≠0))) (by simp)).trans (by rw [decide_eq_true hf])) ?_
    refine wp_seq ?_
    refine Code.wp_mono (Q := Exit.then (fun a' w'=>Frm 28 [(4,.pointer (some ⟨w.heap.size+1,0,none⟩)),(5,.pointer (some ⟨w.heap.size+2,0,none⟩))] a'∧w'.heap[w.heap.size+1]? = some (.cells #[.int .i64 0,.string ⟨#[]⟩,.slice none 0 0,.slice none 0 0] 29 (0,0))∧w'.heap[w.heap.size+2]? = some (.cells #[.int .i64 ((fmFault t).1:Nat),.int .i64 ((fmFault t).2:Nat)] 32 (0,0))∧Keeps (fun k=>k=w.heap.size+1∨k=w.heap.size+2) w2 w') (fun _ _ _=>False)) ?_ (in2_r3_wp (by omega) hz2 hx2 (by omega) (by omega) hg2 (fun a' w' h' g1 g2 g3=>⟨h',g1,g2,g3⟩) a2 (h2.pick [2,3,4]))
    intro ex a3 w3 hx3'
    cases ex with
    | normal =>
      obtain ⟨h3,hz3,hx3,hk3⟩ := hx3'
      refine wp_ret ?_
      repeat (first | refine then_ret ?_ | refine inBlock_ret ?_)
      refine in2_ret_wp hz3 hx3 ⟨rfl,rfl,rfl,rfl⟩ ⟨[.int .i64 0,.string ⟨#[]⟩,.slice none 0 0,.slice none 0 0],by rw [show insC t y=((((fmFault t).1:Nat):Int),(((fmFault t).2:Nat):Int)) from if_pos hf],?_,?_⟩ a3 h3
      · rw [show insT t y=fmZ from if_neg (fun h=>hf h.1)]
        exact fmZ_rep
      · exact hb2.trans (Keeps.below (B := w.heap.size) hk3 (fun k e=>by have e:k=w.heap.size+1∨k=w.heap.size+2 := e; omega) (by omega))
    | _=>exact hx3'.elim
  refine wp_cond_false ((h2.eval (k := 11) (v := .bool (decide ((fmFault t).1≠0))) (by simp)).trans (by rw [decide_eq_false (fun h=>h hf)])) ?_
  refine wp_skip ?_
  show Code.wp _ _ _ a2 w2
  obtain ⟨v,rfl,ov,nv,dv,ev⟩ := fmFault_ok hf
  refine wp_seq ?_
  refine wp_seq ?_
  refine in2_r4_wp ha2 (fun a4 w4 h4 hb4=>?_) a2 (h2.pick [0,1,2,3])
  have hb4s := hb4.size
  have hb24 := hb2.trans (hb4.mono (by omega))
  have hz4 := (hb4.block _ (lt_heap hz2)).trans hz2
  have hx4 := (hb4.block _ (lt_heap hx2)).trans hx2
  have ha4 := (hb4.block _ (lt_heap ha2)).trans ha2
  have hsz4:w.heap.size+3≤w4.heap.size := by omega
  cases hq:isQu kd
  · rw [hq] at h4
    refine wp_cond_true ((h4.eval (k := 16) (v := .bool (!false)) (by simp)).trans (by rw [show (!false)=true from rfl])) ?_
    refine wp_seq ?_
    refine in2_r5_wp (by omega) hz4 hx4 (fun a3 w3 h3 hz3 hx3 hk3=>?_) a4 (h4.pick [2,3])
    refine wp_ret ?_
    repeat (first | refine then_ret ?_ | refine inBlock_ret ?_)
    refine in2_ret_wp hz3 hx3 ⟨rfl,rfl,rfl,rfl⟩ ⟨[.int .i64 0,.string ⟨#[]⟩,.slice none 0 0,.slice none 0 0],?_,?_,?_⟩ a3 h3
    · have e:insC v.fm y=(4,-1) := by
        unfold insC
        rw [if_neg (fun h=>h hf),hkd,if_pos hq]
      rw [e]
    · rw [show insT v.fm y=fmZ from if_neg (fun h=>by rw [hkd,hq] at h; cases h.2.1)]
      exact fmZ_rep
    · exact hb24.trans (Keeps.below (B := w.heap.size) hk3 (fun k e=>by have e:k=w.heap.size+1∨k=w.heap.size+2 := e; omega) (by omega))
  · rw [hq] at h4
    refine wp_cond_false ((h4.eval (k := 16) (v := .bool (!true)) (by simp)).trans (by rw [show (!true)=false from rfl])) ?_
    refine wp_skip ?_
    show Code.wp _ _ _ a4 w4
    refine wp_seq ?_
    refine wp_seq ?_
    refine in2_r6_wp hy (fun a5 h5=>?_) a4 (h4.pick [0,1,2,3])
    cases hok:okName y
    · rw [hok] at h5
      refine wp_cond_true ((h5.eval (k := 21) (v := .bool (!false)) (by simp)).trans (by rw [show (!false)=true from rfl])) ?_
      refine wp_seq ?_
      refine in2_r7_wp (by omega) hz4 hx4 (fun a3 w3 h3 hz3 hx3 hk3=>?_) a5 (h5.pick [2,3])
      refine wp_ret ?_
      repeat (first | refine then_ret ?_ | refine inBlock_ret ?_)
      refine in2_ret_wp hz3 hx3 ⟨rfl,rfl,rfl,rfl⟩ ⟨[.int .i64 0,.string ⟨#[]⟩,.slice none 0 0,.slice none 0 0],?_,?_,?_⟩ a3 h3
      · have e:insC v.fm y=(10,-2) := by
          unfold insC
          rw [if_neg (fun h=>h hf),hkd,if_neg (by rw [hq]; decide),if_pos hok]
        rw [e]
      · rw [show insT v.fm y=fmZ from if_neg (fun h=>by rw [hok] at h; cases h.2.2)]
        exact fmZ_rep
      · exact hb24.trans (Keeps.below (B := w.heap.size) hk3 (fun k e=>by have e:k=w.heap.size+1∨k=w.heap.size+2 := e; omega) (by omega))
    · rw [hok] at h5
      refine wp_cond_false ((h5.eval (k := 21) (v := .bool (!true)) (by simp)).trans (by rw [show (!true)=false from rfl])) ?_
      refine wp_skip ?_
      show Code.wp _ _ _ a5 w4
      obtain ⟨kn,x,f,rfl⟩ := Fv.qu_of (by rw [hkd]; exact hq) ov
      have hc := (body_any kn x y f ov nv hy [.int .i64 kd,.string nm,.slice A n1 c1,.slice B n2 c2] w4 S (fmRep.keep ht (fun b h=>hb24.block b (hS b h)) (fun _ h=>h)) (fun b h=>by have := hS b h; omega) (fun W h=>htab W (hb24.trans (h.mono (by omega))))).mono (R' := fun e w'=>∃ke ne Ae n3 c3 Be n4 c4,e=.returned (.agg #[.int .i64 ke,.string ne,.slice Ae n3 c3,.slice Be n4 c4])∧w'.heap[w.heap.size+1]? = some (.cells #[.int .i64 0,.string ⟨#[]⟩,.slice none 0 0,.slice none 0 0] 29 (0,0))∧w'.heap[w.heap.size+2]? = some (.cells #[.int .i64 0,.int .i64 0] 32 (0,0))∧(fmRep.R w' (fun b=>w4.heap.size≤b∧b<w'.heap.size) (canF [(x,y)] f.fm) [.int .i64 ke,.string ne,.slice Ae n3 c3,.slice Be n4 c4]∧Below w4.heap.size w4 w')) (by
    rintro e w' ⟨es,rfl,hr,hb9⟩
    obtain ⟨A5,n5,c5,B5,n6,c6,rfl,_,_,_,_⟩ := Fm.shape hr
    exact ⟨_,_,_,_,_,_,_,_,rfl,(hb9.block _ (lt_heap hz4)).trans hz4,(hb9.block _ (lt_heap hx4)).trans hx4,hr,hb9⟩)
      refine wp_seq ?_
      refine in2_r8_wp ha4 (by omega) hc (fun ke ne Ae n3 c3 Be n4 c4 w5 a6 w6 h6 hp6 hz6 hx6 hk6=>?_) a5 (h5.pick [0,1,2,3])
      obtain ⟨hr5,hb5⟩ := hp6
      have hk6s := hk6.size
      have hb5s := hb5.size
      refine wp_ret ?_
      refine in2_ret_wp hz6 hx6 ⟨rfl,rfl,rfl,rfl⟩ ⟨[.int .i64 ke,.string ne,.slice Ae n3 c3,.slice Be n4 c4],?_,?_,?_⟩ a6 h6
      · have e:insC (Fv.qu kn x f).fm y=(0,0) := by
          unfold insC
          rw [if_neg (fun h=>h hf),hkd,if_neg (by rw [hq]; decide),if_neg (by rw [hok]; decide)]
        rw [e]
      · rw [show insT (Fv.qu kn x f).fm y=canF [(x,y)] f.fm from if_pos ⟨hf,by rw [hkd]; exact hq,hok⟩]
        exact fmRep.keep hr5 (fun b hb=>hk6.block b hb.2 (by omega)) (fun b hb=>⟨by omega,by omega⟩)
      · have h1:Below w.heap.size w w5 := hb24.trans (hb5.mono (by omega))
        exact h1.trans (Keeps.below (B := w.heap.size) hk6 (fun k e=>by have e:k=w.heap.size+1∨k=w.heap.size+2 := e; omega) (by have := h1.size; omega))
end

end Go.Proofs.YthfokmjpbnfihaaDoor
