/-
  The reference's marked: the lists that grow, the call.
-/
import Derived.Test.YtdofemkfmkopcaaDoorMkA
import Derived.Test.YtdofemkfmkopcaaDoorCsA
import Derived.Test.YtdofemkfmkopcaaDoorInvS
namespace Go.Proofs.YtdofemkfmkopcaaDoor
open Go Go.RowKit
set_option linter.unusedSimpArgs false
set_option linter.unusedVariables false

/-- What stays of memory when one part is added to the copy. -/
structure Fra (PP : Nat → Prop) (c : Nat) (w w' : World) (vs v' : Value) : Prop where
  keep : ∀ k, k < w.heap.size → ¬ PP k → k ≠ c → vs.ownBlock ≠ some k → w'.heap[k]? = w.heap[k]?
  at_ : ∀ k, v'.ownBlock = some k → vs.ownBlock = some k ∨ w.heap.size ≤ k
  size : w.heap.size ≤ w'.heap.size
/-- One part more, where the call has written into the block of PP, too. -/
theorem CY.subK {tt : List Fm} {PP : Nat → Prop} {vw vs : Value} {ws : List ByteArray} {x : ByteArray} {wo w : World} {kd : Int} {nm : ByteArray} {A B : Option Addr} {n1 c1 n2 c2 : Nat} {w2 w3 : World} {g cap : Nat} {t : Fm} {es xs : List Value} {o : Obj} (h : CY PP wo w vw ws x vs kd nm A n1 c1 B n2 c2) (hrow : w.ownsRow (wo.heap.size + 3) 25 4 vs tt.length xs) (hall : fmRep.All w (fun b => (wo.heap.size + 3 ≤ b ∧ b < w.heap.size) ∧ vs.ownBlock ≠ some b) tt xs) (hb2 : Keeps PP w w2) (hes : fmRep.R w2 (fun b => w.heap.size ≤ b ∧ b < w2.heap.size) t es)
    (hown : w3.ownsRow (wo.heap.size + 3) 25 4 (.slice (some ⟨g, 0, none⟩) (tt.length + 1) cap) (tt.length + 1) (xs ++ es)) (hg : (w2.alloc o).grownBy w3 vs.ownBlock) (hat : vs.ownBlock = some g ∨ g = w2.heap.size + 1) :
    w3.heap[wo.heap.size + 2]? = some (.cells #[.int .i64 kd, .string x, vw, vs] 25 (0, 0)) ∧ CY PP wo (w3.setCell ⟨wo.heap.size + 2, 3, none⟩ (.slice (some ⟨g, 0, none⟩) (tt.length + 1) cap)) vw ws x (.slice (some ⟨g, 0, none⟩) (tt.length + 1) cap) kd nm A n1 c1 B n2 c2 ∧ fmRep.Own 25 (wo.heap.size + 3) (w3.setCell ⟨wo.heap.size + 2, 3, none⟩ (.slice (some ⟨g, 0, none⟩) (tt.length + 1) cap)) (fun b => wo.heap.size + 3 ≤ b ∧ b < (w3.setCell ⟨wo.heap.size + 2, 3, none⟩ (.slice (some ⟨g, 0, none⟩) (tt.length + 1) cap)).heap.size) (.slice (some ⟨g, 0, none⟩) (tt.length + 1) cap) (tt ++ [t]) ∧ (∀ k, k < wo.heap.size → (w3.setCell ⟨wo.heap.size + 2, 3, none⟩ (.slice (some ⟨g, 0, none⟩) (tt.length + 1) cap)).heap[k]? = w2.heap[k]?) ∧ Fra PP (wo.heap.size + 2) w (w3.setCell ⟨wo.heap.size + 2, 3, none⟩ (.slice (some ⟨g, 0, none⟩) (tt.length + 1) cap)) vs (.slice (some ⟨g, 0, none⟩) (tt.length + 1) cap) := by
  have hc := lt_heap h.c
  have hz2 := hb2.size
  have h2 := h.keeps hb2
  have hB : ∀ b, wo.heap.size ≤ b → b < w.heap.size → w2.heap[b]? = w.heap[b]? := fun b h1 h2 => hb2.block b h2 (fun e => by have := h.p b e; omega)
  have hge : ∀ k, vs.ownBlock = some k → wo.heap.size + 3 ≤ k ∧ k < w.heap.size := fun k e => hrow.lt k e
  have hk : ∀ k, k < w2.heap.size → vs.ownBlock ≠ some k → w3.heap[k]? = w2.heap[k]? := fun k h1 h2 => (hg.block k (by simp; omega) (fun e => h2 e.symm)).trans (heap_old h1 rfl)
  have hne : ∀ k, k < wo.heap.size + 3 → vs.ownBlock ≠ some k := fun k hk e => by have := (hge k e).1; omega
  have hc3 := (hk (wo.heap.size + 2) (by omega) (hne _ (by omega))).trans h2.c
  have hsz : w2.heap.size + 1 ≤ w3.heap.size := by have := hg.size; simpa using this
  have hgg := (hown.lt g rfl).1
  have hrow2 : w2.ownsRow (wo.heap.size + 3) 25 4 vs tt.length xs := by
    obtain ⟨q1, q2⟩ := hrow
    refine ⟨q1, ?_⟩
    rcases q2 with q2 | ⟨g', cap', cur, e, q3, hh, r⟩
    · exact Or.inl q2
    · exact Or.inr ⟨g', cap', cur, e, q3, (hB g' (by omega) (lt_heap hh)).trans hh, r⟩
  have hvw := rows_ne h2.rw hrow2 (by decide)
  have hst := Rep.step (ρ := fmRep) (base := wo.heap.size + 3) (w1 := w2) (w3 := w3) (T := fun b => w.heap.size ≤ b ∧ b < w2.heap.size) (v := vs) (o := o) rfl (hall.keep (fun b hb => hB b (by omega) hb.1.2) (fun b hb => ⟨⟨hb.1.1, by have := hb.1.2; omega⟩, hb.2⟩)) hes (fun b hb => ⟨⟨by have := hb.1; omega, hb.2⟩, fun e => by have := (hge b e).2; have := hb.1; omega⟩) hown hg hat
  have hbs := h2.b.size
  refine ⟨hc3, ⟨?_, ?_, ?_, ?_, ?_, h.p⟩, ?_, ?_, ?_⟩
  · exact heap_far _ (by omega) ((hk _ (by omega) (hne _ (by omega))).trans h2.a)
  · exact heap_far _ (by omega) ((hk _ (by omega) (hne _ (by omega))).trans h2.z)
  · have := heap_set hc3 3 (.slice (some ⟨g, 0, none⟩) (tt.length + 1) cap)
    simpa using this
  · exact rowGrownF (rowGrownF h2.rw (fun b hb e => hk b hb (hvw b e))) (fun b _ e => heap_far _ (by have := (h2.rw.lt b e).1; omega) rfl)
  · refine ⟨hg.os.trans h2.b.os, hg.tape.trans h2.b.tape, hg.output.trans h2.b.output, by rw [size_set]; omega, fun k hk1 hk2 => ?_⟩
    exact (heap_far _ (by omega) (hk k (by omega) (hne k (by omega)))).trans (h2.b.block k hk1 hk2)
  · have := hst.grow (w' := w3.setCell ⟨wo.heap.size + 2, 3, none⟩ (.slice (some ⟨g, 0, none⟩) (tt.length + 1) cap)) (fun b hb1 _ => heap_far _ (by omega) rfl) (by rw [size_set]; omega)
    exact this
  · exact fun k hk1 => heap_far _ (by omega) (hk k (by omega) (hne k (by omega)))
  · refine ⟨fun k h1 h2 h3 h4 => heap_far _ h3 ((hk k (by omega) h4).trans (hb2.block k h1 h2)), fun k e => ?_, by rw [size_set]; omega⟩
    have e : g = k := Option.some.inj e
    subst e
    rcases hat with e | e
    · exact Or.inl e
    · exact Or.inr (by omega)
noncomputable def c_mk_r15 : Code := sub [1, 1, 1, 0, 1, 0, 1, 1] (Tryd.f80.body.getD .skip)
set_option maxRecDepth 1000000 in
set_option maxHeartbeats 16000000 in
theorem mk_r15_wp {K : Act → World → Prop} {Df Dt : Option Addr} {bn mf ef mt et : Nat} {SS : Nat → Prop} {fs ts : List ByteArray} {PP : Nat → Prop} {vw vs : Value} {ws : List ByteArray} {x : ByteArray} {wo w : World} {kd : Int} {nm : ByteArray} {A B : Option Addr} {n1 c1 n2 c2 : Nat} (hSw : ∀ k, SS k → k < w.heap.size) (hf : strRep.Sl w SS (.slice Df mf ef) fs) (ht : strRep.Sl w SS (.slice Dt mt et) ts) (hmf : mf ≤ 100000) (hmt : mt ≤ 100000) (hs : CY PP wo w vw ws x vs kd nm A n1 c1 B n2 c2) (hN : ∀ A' c' A'' c'' a' w', Frm 105 [(1, (.slice A' (mf + 1) c')), (2, (.slice A'' (mt + 1) c'')), (3, .pointer (some ⟨bn, 0, none⟩)), (4, .pointer (some ⟨wo.heap.size, 0, none⟩)), (8, .pointer (some ⟨wo.heap.size + 1, 0, none⟩)), (9, .pointer (some ⟨wo.heap.size + 2, 0, none⟩))] a' → w'.ownsRow w.heap.size 9 1 (.slice A' (mf + 1) c') (mf + 1) (fs.map .string ++ [.string nm]) → w'.ownsRow w.heap.size 9 1 (.slice A'' (mt + 1) c'') (mt + 1) (ts.map .string ++ [.string x]) → Below w.heap.size w w' → K a' w') : ∀ ac, Frm 105 [(1, .slice Df mf ef), (2, .slice Dt mt et), (3, .pointer (some ⟨bn, 0, none⟩)), (4, .pointer (some ⟨wo.heap.size, 0, none⟩)), (8, .pointer (some ⟨wo.heap.size + 1, 0, none⟩)), (9, .pointer (some ⟨wo.heap.size + 2, 0, none⟩))] ac → Code.wp Tryd.prog c_mk_r15 (Exit.then K (fun _ _ _ => False)) ac w := by
  refine frm_open ?_
  refine frame_mk ?_
  intros
  rename_i hq
  obtain ⟨-, -, e0q, e1q, e2q, e3q, e4q, e5q, -⟩ := hq
  obtain rfl := sI e0q
  obtain rfl := sI e1q
  obtain rfl := sI e2q
  obtain rfl := sI e3q
  obtain rfl := sI e4q
  obtain rfl := sI e5q
  conv => arg 2; whnf
  obtain ⟨ti, hti, ht0, ht1, ht2⟩ := info_parts infoStr
  obtain ⟨n1a, n1b, n1c⟩ := news_below hf hSw
  obtain ⟨n2a, n2b, n2c⟩ := news_below ht hSw
  have HL1 := Lib.hid n1a
  have HN1 := Lib.hid n1b
  have HO1 := Lib.hid n1c
  have HL2 := Lib.hid n2a
  have HN2 := Lib.hid n2b
  have HO2 := Lib.hid n2c
  have HA := Lib.hid hs.a
  have HC := Lib.hid hs.c
  have HX := Lib.hid hN
  clear n1a n1b n1c n2a n2b n2c hf ht hs hN hSw
  refine wp_region_frame [69, 70, 71, 72, 73, 74, 75, 76, 77, 78, 79, 80, 81, 82, 1, 2] (FJx w wo.heap.size (wo.heap.size + 2) mf mt (.slice Df mf ef) (.slice Dt mt et) (fs.map .string) (ts.map .string) nm x) (by kernel_rfl) (by kernel_rfl) ?h0 ?hend ?hstep
  case h0 =>
    intro f xs hf hx he
    obtain ⟨x49, x50, x51, x52, x53, x54, x55, x56, x57, x58, x59, x60, x61, x62, x1, x2, rfl⟩ := len16 hx
    simp [withs, Act.put] at he
    exact (FJ.start hf (Below.refl _ w).drew (by simp [he]) (by simp [he])).mk_
  case hend =>
    rintro f xs W hf ⟨x49, x50, x51, x52, x53, x54, x55, x56, x57, x58, x59, x60, x61, x62, x1, x2, rfl, hJ⟩
    obtain ⟨A', c', A'', c'', rfl, rfl, k1, k2, hb⟩ := hJ.fin hf
    simp only [withs, Act.put, List.setIfInBounds_toArray, List.set_cons_succ, List.set_cons_zero]
    exact HX.out _ _ _ _ _ _ (id ⟨rfl, rfl, rfl, rfl, rfl, rfl, rfl, rfl, trivial⟩) (by simpa using k1) (by simpa using k2) hb
  case hstep =>
    rintro io hi f xs W hn hp ⟨x49, x50, x51, x52, x53, x54, x55, x56, x57, x58, x59, x60, x61, x62, x1, x2, rfl, hJ⟩
    have hi : io < 16 := hi
    rcases (by omega : io = 0 ∨ io = 1 ∨ io = 2 ∨ io = 3 ∨ io = 4 ∨ io = 5 ∨ io = 6 ∨ io = 7 ∨ io = 8 ∨ io = 9 ∨ io = 10 ∨ io = 11 ∨ io = 12 ∨ io = 13 ∨ io = 14 ∨ io = 15) with rfl | rfl | rfl | rfl | rfl | rfl | rfl | rfl | rfl | rfl | rfl | rfl | rfl | rfl | rfl | rfl
    · refine wpOp_run rfl (by rfl) (fun K9 hK => ?_)
      simp only [withs, Act.put, List.setIfInBounds_toArray, List.set_cons_succ, List.set_cons_zero]
      go_simp
      exact hK _ _ ⟨[.slice (some ⟨W.heap.size, 0, none⟩) 0 0, x50, x51, x52, x53, x54, x55, x56, x57, x58, x59, x60, x61, x62, x1, x2], (by simp only [withs, Act.put, List.setIfInBounds_toArray, List.set_cons_succ, List.set_cons_zero]), (hJ.st0).mk_⟩
    · obtain ⟨rfl, hJ⟩ := hJ.st1 hn
      refine wpOp_run rfl (by rfl) (fun K9 hK => ?_)
      simp only [withs, Act.put, List.setIfInBounds_toArray, List.set_cons_succ, List.set_cons_zero]
      go_simp
      exact hK _ _ ⟨[x49, .slice Df mf ef, x51, x52, x53, x54, x55, x56, x57, x58, x59, x60, x61, x62, .slice Df mf ef, x2], (by simp only [withs, Act.put, List.setIfInBounds_toArray, List.set_cons_succ, List.set_cons_zero]), (hJ).mk_⟩
    · obtain ⟨g, rfl, rfl, ho, hk⟩ := hJ.st2 (hp 0 (of_decide_eq_true (by kernel_rfl))) (hp 1 (of_decide_eq_true (by kernel_rfl))) hn
      refine wpOp_run rfl (by rfl) (fun K9 hK => ?_)
      simp only [withs, Act.put, List.setIfInBounds_toArray, List.set_cons_succ, List.set_cons_zero]
      refine step_wp (by rfl) ?_
      refine step_append_all _ (by rfl) (.tmp 69) (.tmp 70) _ (by rfl) w.heap.size 9 ti _ 1 16 Tryd.underlying22 hti ht0 ht1 ht2 rfl (by omega) _ 0 [] (by rfl) ho _ mf (fs.map .string) (by rfl) HL1.out (HN1.out W hJ.below) HO1.out (by unfold maxLen; omega) (by omega) hJ.below.size _ rfl mf (by omega) ?_
      intro A' c' W' k1 k2 k3
      exact hK _ _ ⟨[.slice (some ⟨g, 0, none⟩) 0 0, .slice Df mf ef, (.slice A' mf c'), x52, x53, x54, x55, x56, x57, x58, x59, x60, x61, x62, x1, x2], (by show Act.put _ (some 71) _ = _; simp only [withs, Act.put, List.setIfInBounds_toArray, List.set_cons_succ, List.set_cons_zero]), (hk A' c' W' k1 k2 k3).mk_⟩
    · refine wpOp_run rfl (by rfl) (fun K9 hK => ?_)
      simp only [withs, Act.put, List.setIfInBounds_toArray, List.set_cons_succ, List.set_cons_zero]
      go_simp
      exact hK _ _ ⟨[x49, x50, x51, .pointer (some ⟨wo.heap.size, 1, none⟩), x53, x54, x55, x56, x57, x58, x59, x60, x61, x62, x1, x2], (by simp only [withs, Act.put, List.setIfInBounds_toArray, List.set_cons_succ, List.set_cons_zero]), (hJ.st3).mk_⟩
    · obtain rfl := hJ.h52 (hp 3 (of_decide_eq_true (by kernel_rfl)))
      have q := (cell_keep (hJ.below.block _ (lt_heap HA.out)) 1).trans (cellv HA.out 1 rfl)
      have ql : wo.heap.size < W.heap.size := by have := hJ.below.size; have := lt_heap HA.out; omega
      refine wpOp_run rfl (by rfl) (fun K9 hK => ?_)
      simp only [withs, Act.put, List.setIfInBounds_toArray, List.set_cons_succ, List.set_cons_zero]
      go_simp
      exact hK _ _ ⟨[x49, x50, x51, .pointer (some ⟨wo.heap.size, 1, none⟩), .string nm, x54, x55, x56, x57, x58, x59, x60, x61, x62, x1, x2], (by simp only [withs, Act.put, List.setIfInBounds_toArray, List.set_cons_succ, List.set_cons_zero]), (hJ.st4).mk_⟩
    · obtain rfl := hJ.h53 (hp 4 (of_decide_eq_true (by kernel_rfl)))
      refine wpOp_run rfl (by rfl) (fun K9 hK => ?_)
      simp only [withs, Act.put, List.setIfInBounds_toArray, List.set_cons_succ, List.set_cons_zero]
      go_simp
      exact hK _ _ ⟨[x49, x50, x51, x52, .string nm, .slice (some ⟨W.heap.size, 0, none⟩) 1 1, x55, x56, x57, x58, x59, x60, x61, x62, x1, x2], (by simp only [withs, Act.put, List.setIfInBounds_toArray, List.set_cons_succ, List.set_cons_zero]), (hJ.st5).mk_⟩
    · obtain ⟨A, c, g, rfl, ho, rfl, hh, hk⟩ := hJ.st6 (hp 2 (of_decide_eq_true (by kernel_rfl))) (hp 5 (of_decide_eq_true (by kernel_rfl))) hn
      refine wpOp_run rfl (by rfl) (fun K9 hK => ?_)
      simp only [withs, Act.put, List.setIfInBounds_toArray, List.set_cons_succ, List.set_cons_zero]
      refine step_wp (by rfl) ?_
      refine step_append_all _ (by rfl) (.tmp 71) (.tmp 74) _ (by rfl) w.heap.size 9 ti _ 1 16 Tryd.underlying22 hti ht0 ht1 ht2 rfl (by omega) _ mf ([] ++ fs.map .string) (by rfl) ho _ 1 [.string nm] (by rfl) rfl (Or.inr ⟨_, _, rfl, World.news_of_block (cs := #[.string nm]) hh⟩) (by simp [Value.oneCell']) (by unfold maxLen; omega) (by omega) hJ.below.size _ rfl (mf + 1) rfl ?_
      intro A' c' W' k1 k2 k3
      exact hK _ _ ⟨[x49, x50, .slice A mf c, x52, x53, .slice (some ⟨g, 0, none⟩) 1 1, (.slice A' (mf + 1) c'), x56, x57, x58, x59, x60, x61, x62, x1, x2], (by show Act.put _ (some 75) _ = _; simp only [withs, Act.put, List.setIfInBounds_toArray, List.set_cons_succ, List.set_cons_zero]), (hk A' c' W' k1 k2 k3).mk_⟩
    · refine wpOp_run rfl (by rfl) (fun K9 hK => ?_)
      simp only [withs, Act.put, List.setIfInBounds_toArray, List.set_cons_succ, List.set_cons_zero]
      go_simp
      exact hK _ _ ⟨[x49, x50, x51, x52, x53, x54, x55, .slice (some ⟨W.heap.size, 0, none⟩) 0 0, x57, x58, x59, x60, x61, x62, x1, x2], (by simp only [withs, Act.put, List.setIfInBounds_toArray, List.set_cons_succ, List.set_cons_zero]), (hJ.st7).mk_⟩
    · obtain ⟨rfl, hJ⟩ := hJ.st8 hn
      refine wpOp_run rfl (by rfl) (fun K9 hK => ?_)
      simp only [withs, Act.put, List.setIfInBounds_toArray, List.set_cons_succ, List.set_cons_zero]
      go_simp
      exact hK _ _ ⟨[x49, x50, x51, x52, x53, x54, x55, x56, .slice Dt mt et, x58, x59, x60, x61, x62, x1, .slice Dt mt et], (by simp only [withs, Act.put, List.setIfInBounds_toArray, List.set_cons_succ, List.set_cons_zero]), (hJ).mk_⟩
    · obtain ⟨g, rfl, rfl, ho, hk⟩ := hJ.st9 (hp 7 (of_decide_eq_true (by kernel_rfl))) (hp 8 (of_decide_eq_true (by kernel_rfl))) hn
      refine wpOp_run rfl (by rfl) (fun K9 hK => ?_)
      simp only [withs, Act.put, List.setIfInBounds_toArray, List.set_cons_succ, List.set_cons_zero]
      refine step_wp (by rfl) ?_
      refine step_append_all _ (by rfl) (.tmp 76) (.tmp 77) _ (by rfl) w.heap.size 9 ti _ 1 16 Tryd.underlying22 hti ht0 ht1 ht2 rfl (by omega) _ 0 [] (by rfl) ho _ mt (ts.map .string) (by rfl) HL2.out (HN2.out W hJ.below) HO2.out (by unfold maxLen; omega) (by omega) hJ.below.size _ rfl mt (by omega) ?_
      intro A' c' W' k1 k2 k3
      exact hK _ _ ⟨[x49, x50, x51, x52, x53, x54, x55, .slice (some ⟨g, 0, none⟩) 0 0, .slice Dt mt et, (.slice A' mt c'), x59, x60, x61, x62, x1, x2], (by show Act.put _ (some 78) _ = _; simp only [withs, Act.put, List.setIfInBounds_toArray, List.set_cons_succ, List.set_cons_zero]), (hk A' c' W' k1 k2 k3).mk_⟩
    · refine wpOp_run rfl (by rfl) (fun K9 hK => ?_)
      simp only [withs, Act.put, List.setIfInBounds_toArray, List.set_cons_succ, List.set_cons_zero]
      go_simp
      exact hK _ _ ⟨[x49, x50, x51, x52, x53, x54, x55, x56, x57, x58, .pointer (some ⟨(wo.heap.size + 2), 1, none⟩), x60, x61, x62, x1, x2], (by simp only [withs, Act.put, List.setIfInBounds_toArray, List.set_cons_succ, List.set_cons_zero]), (hJ.st10).mk_⟩
    · obtain rfl := hJ.h59 (hp 10 (of_decide_eq_true (by kernel_rfl)))
      have q := (cell_keep (hJ.below.block _ (lt_heap HC.out)) 1).trans (cellv HC.out 1 rfl)
      have ql : (wo.heap.size + 2) < W.heap.size := by have := hJ.below.size; have := lt_heap HC.out; omega
      refine wpOp_run rfl (by rfl) (fun K9 hK => ?_)
      simp only [withs, Act.put, List.setIfInBounds_toArray, List.set_cons_succ, List.set_cons_zero]
      go_simp
      exact hK _ _ ⟨[x49, x50, x51, x52, x53, x54, x55, x56, x57, x58, .pointer (some ⟨(wo.heap.size + 2), 1, none⟩), .string x, x61, x62, x1, x2], (by simp only [withs, Act.put, List.setIfInBounds_toArray, List.set_cons_succ, List.set_cons_zero]), (hJ.st11).mk_⟩
    · obtain rfl := hJ.h60 (hp 11 (of_decide_eq_true (by kernel_rfl)))
      refine wpOp_run rfl (by rfl) (fun K9 hK => ?_)
      simp only [withs, Act.put, List.setIfInBounds_toArray, List.set_cons_succ, List.set_cons_zero]
      go_simp
      exact hK _ _ ⟨[x49, x50, x51, x52, x53, x54, x55, x56, x57, x58, x59, .string x, .slice (some ⟨W.heap.size, 0, none⟩) 1 1, x62, x1, x2], (by simp only [withs, Act.put, List.setIfInBounds_toArray, List.set_cons_succ, List.set_cons_zero]), (hJ.st12).mk_⟩
    · obtain ⟨A, c, g, rfl, ho, rfl, hh, hk⟩ := hJ.st13 (hp 9 (of_decide_eq_true (by kernel_rfl))) (hp 12 (of_decide_eq_true (by kernel_rfl))) hn
      refine wpOp_run rfl (by rfl) (fun K9 hK => ?_)
      simp only [withs, Act.put, List.setIfInBounds_toArray, List.set_cons_succ, List.set_cons_zero]
      refine step_wp (by rfl) ?_
      refine step_append_all _ (by rfl) (.tmp 78) (.tmp 81) _ (by rfl) w.heap.size 9 ti _ 1 16 Tryd.underlying22 hti ht0 ht1 ht2 rfl (by omega) _ mt ([] ++ ts.map .string) (by rfl) ho _ 1 [.string x] (by rfl) rfl (Or.inr ⟨_, _, rfl, World.news_of_block (cs := #[.string x]) hh⟩) (by simp [Value.oneCell']) (by unfold maxLen; omega) (by omega) hJ.below.size _ rfl (mt + 1) rfl ?_
      intro A' c' W' k1 k2 k3
      exact hK _ _ ⟨[x49, x50, x51, x52, x53, x54, x55, x56, x57, .slice A mt c, x59, x60, .slice (some ⟨g, 0, none⟩) 1 1, (.slice A' (mt + 1) c'), x1, x2], (by show Act.put _ (some 82) _ = _; simp only [withs, Act.put, List.setIfInBounds_toArray, List.set_cons_succ, List.set_cons_zero]), (hk A' c' W' k1 k2 k3).mk_⟩
    · refine wpOp_run rfl (by rfl) (fun K9 hK => ?_)
      simp only [withs, Act.put, List.setIfInBounds_toArray, List.set_cons_succ, List.set_cons_zero]
      go_simp
      exact hK _ _ ⟨[x49, x50, x51, x52, x53, x54, x55, x56, x57, x58, x59, x60, x61, x62, x55, x2], (by simp only [withs, Act.put, List.setIfInBounds_toArray, List.set_cons_succ, List.set_cons_zero]), (hJ.st14 (hp 6 (of_decide_eq_true (by kernel_rfl)))).mk_⟩
    · refine wpOp_run rfl (by rfl) (fun K9 hK => ?_)
      simp only [withs, Act.put, List.setIfInBounds_toArray, List.set_cons_succ, List.set_cons_zero]
      go_simp
      exact hK _ _ ⟨[x49, x50, x51, x52, x53, x54, x55, x56, x57, x58, x59, x60, x61, x62, x1, x62], (by simp only [withs, Act.put, List.setIfInBounds_toArray, List.set_cons_succ, List.set_cons_zero]), (hJ.st15 (hp 13 (of_decide_eq_true (by kernel_rfl)))).mk_⟩
noncomputable def c_mk_r19 : Code := sub [1, 1, 1, 1, 0, 1, 0, 0, 1, 1, 0, 0, 1] (Tryd.f80.body.getD .skip)
set_option maxRecDepth 1000000 in
set_option maxHeartbeats 16000000 in
theorem mk_r19_wp {K : Act → World → Prop} {kk i b o : Nat} {t : Fm} {ke : Int} {ne : ByteArray} {Ae Be : Option Addr} {n3 c3 n4 c4 : Nat} {Df Dt : Option Addr} {bn mf ef mt et : Nat} {tt : List Fm} {vw vs : Value} {ws : List ByteArray} {x : ByteArray} {wo w : World} {kd : Int} {nm : ByteArray} {A : Option Addr} {n1 c1 n2 c2 : Nat} (hi : i < n2) (e0 : w.cell? ⟨b, o + i * 4, none⟩ = some (.int .i64 ke)) (e1 : w.cell? ⟨b, o + i * 4 + 1, none⟩ = some (.string ne)) (e2 : w.cell? ⟨b, o + i * 4 + 2, none⟩ = some (.slice Ae n3 c3)) (e3 : w.cell? ⟨b, o + i * 4 + 3, none⟩ = some (.slice Be n4 c4)) (hbl : b < w.heap.size) (hbw : bn < wo.heap.size) (htt : tt.length ≤ 1000) (hc : ∀ W : World, Below w.heap.size w W → Calls Tryd.prog 80 #[.agg #[.int .i64 ke, .string ne, .slice Ae n3 c3, .slice Be n4 c4], .slice Df mf ef, .slice Dt mt et, .pointer (some ⟨bn, 0, none⟩)] W fun e w' => ∃ es : List Value, e = .returned (.agg es.toArray) ∧ fmRep.R w' (fun b => w.heap.size ≤ b ∧ b < w'.heap.size) t es ∧ Keeps (· = bn) w w' ∧ w'.heap[bn]? = some (.cells #[.int .i64 (kk : Nat)] 3 (0, 0))) (hs : CY (· = bn) wo w vw ws x vs kd nm A n1 c1 (some ⟨b, o, none⟩) n2 c2) (ho : fmRep.Own 25 (wo.heap.size + 3) w (fun b => wo.heap.size + 3 ≤ b ∧ b < w.heap.size) vs tt) (hN : ∀ v' a' w', Frm 105 [(1, .slice Df mf ef), (2, .slice Dt mt et), (3, .pointer (some ⟨bn, 0, none⟩)), (4, .pointer (some ⟨wo.heap.size, 0, none⟩)), (8, .pointer (some ⟨wo.heap.size + 1, 0, none⟩)), (9, .pointer (some ⟨wo.heap.size + 2, 0, none⟩)), (84, .slice (some ⟨b, o, none⟩) n2 c2), (85, .int .i64 (n2 : Nat)), (86, .int .i64 (i : Nat))] a' → CY (· = bn) wo w' vw ws x v' kd nm A n1 c1 (some ⟨b, o, none⟩) n2 c2 → fmRep.Own 25 (wo.heap.size + 3) w' (fun b => wo.heap.size + 3 ≤ b ∧ b < w'.heap.size) v' (tt ++ [t]) → w'.heap[bn]? = some (.cells #[.int .i64 (kk : Nat)] 3 (0, 0)) → Fra (· = bn) (wo.heap.size + 2) w w' vs v' → K a' w') : ∀ ac, Frm 105 [(1, .slice Df mf ef), (2, .slice Dt mt et), (3, .pointer (some ⟨bn, 0, none⟩)), (4, .pointer (some ⟨wo.heap.size, 0, none⟩)), (8, .pointer (some ⟨wo.heap.size + 1, 0, none⟩)), (9, .pointer (some ⟨wo.heap.size + 2, 0, none⟩)), (84, .slice (some ⟨b, o, none⟩) n2 c2), (85, .int .i64 (n2 : Nat)), (86, .int .i64 (i : Nat)), (13, .int .i64 (i : Nat))] ac → Code.wp Tryd.prog c_mk_r19 (Exit.then K (fun _ _ _ => False)) ac w := by
  refine frm_open ?_
  refine frame_mk ?_
  intros
  rename_i hq
  obtain ⟨-, -, e0q, e1q, e2q, e3q, e4q, e5q, e6q, e7q, e8q, e9q, -⟩ := hq
  obtain rfl := sI e0q
  obtain rfl := sI e1q
  obtain rfl := sI e2q
  obtain rfl := sI e3q
  obtain rfl := sI e4q
  obtain rfl := sI e5q
  obtain rfl := sI e6q
  obtain rfl := sI e7q
  obtain rfl := sI e8q
  obtain rfl := sI e9q
  conv => arg 2; whnf
  obtain ⟨ti, hti, hti0, hti1, hti2⟩ := info_parts infoForm
  have q0 : (0 : Int) ≤ (i : Int) := by omega
  have q1 : (i : Int) < (n2 : Int) := by omega
  obtain ⟨Av, cv, rfl⟩ := ho.len
  obtain ⟨xs, hrow, hall⟩ := id ho
  have a3 : w.cell? ⟨wo.heap.size, 3, none⟩ = some (.slice (some ⟨b, o, none⟩) n2 c2) := cellv hs.a 3 rfl
  have al := lt_heap hs.a
  have k3 : w.cell? ⟨wo.heap.size + 2, 3, none⟩ = some (.slice Av tt.length cv) := cellv hs.c 3 rfl
  have kf := free_heap hs.c 3
  have kl := lt_heap hs.c
  have hwo := hs.b.size
  have HALL := Lib.hid hall
  have HROW := Lib.hid hrow
  have HC := Lib.hid hc
  clear hall hrow hc ho
  have HS := Lib.hid hs
  clear hs
  generalize hgc : wo.heap.size + 2 = gc at k3 kf kl hN ⊢
  have HN := Lib.hid hN
  clear hN
  go_region_law (first
    | (refine step_call (by rfl) 80 _ ?hargs (HC.out _ ?hbel) ?_; (case hargs => (go_simp; done)); (case hbel => (go_grown)); rintro e w2 ⟨es, rfl, hes, hb2, hkc⟩; refine ⟨_, rfl, ?_⟩; obtain ⟨A5, n5, c5, B5, n6, c6, rfl, _, _, _, _⟩ := Fm.shape hes; have z2 := hb2.size; have kl2 : gc < w2.heap.size := (by omega); have m3 := (cell_keep (hb2.block _ kl (fun e => (by have e : gc = bn := e; omega))) 3).trans k3; have mfz := (World.frozen?_of_block (a := ⟨gc, 3, none⟩) (hb2.block _ kl (fun e => (by have e : gc = bn := e; omega)))).trans kf; have HES := Lib.hid hes; have HB2 := Lib.hid hb2; have HKC := Lib.hid hkc; have HROW2 := Lib.hid (show w2.ownsRow (wo.heap.size + 3) 25 4 (.slice Av tt.length cv) tt.length xs from ⟨HROW.out.1, HROW.out.2.imp (fun h => h) (fun h => by obtain ⟨g', cap', cur, e, q3, hh, r⟩ := h; exact ⟨g', cap', cur, e, q3, (hb2.block g' (lt_heap hh) (fun e => (by have e : g' = bn := e; omega))).trans hh, r⟩)⟩); clear hes hb2 hkc)
    | (refine step_append_lies _ (by rfl) (.tmp 90) (.tmp 100) _ (by rfl) (wo.heap.size + 3) 25 ti _ 4 72 Tryd.underlying23 hti hti0 hti1 hti2 rfl (by omega) (.slice Av tt.length cv) tt.length xs (by rfl) (by first | exact HROW2.out.alloc _ | exact (HROW2.out.alloc _).drew) ⟨w2.heap.size, 0, none⟩ 1 1 [.int .i64 t.lab.kind, .string t.lab.nm, .slice A5 n5 c5, .slice B5 n6 c6] (by rfl) (by rfl) (World.news_of_block (cs := #[.int .i64 t.lab.kind, .string t.lab.nm, .slice A5 n5 c5, .slice B5 n6 c6]) (t := 25) (fr := (0, 0)) (by first | exact heap_alloc_new w2 _ | exact heap_drew (heap_alloc_new w2 _))) (by simp [Value.oneCell']) (by omega) (by unfold maxLen; omega) (by omega) (by first | omega | (simp; done) | (simp; omega)) (w2.heap.size + 1) (by simp) ?_; intro gq cap w3 hown3 hgrow hat hlt; have hsb := HS.out.subK HROW.out HALL.out HB2.out HES.out (o := .cells #[.int .i64 t.lab.kind, .string t.lab.nm, .slice A5 n5 c5, .slice B5 n6 c6] 25) hown3 ⟨hgrow.os, hgrow.tape, hgrow.output, hgrow.size, hgrow.block⟩ hat; have d3 := cellv hsb.1 3 rfl; have df := free_heap hsb.1 3; have dl := lt_heap hsb.1; rw [hgc] at d3 df dl; have HSB := Lib.hid hsb; clear hown3 hgrow hat hlt hsb))
  all_goals go_wp2_with fail
  all_goals subst hgc
  all_goals exact HN.out _ _ _ (id ⟨rfl, rfl, rfl, rfl, rfl, rfl, rfl, rfl, rfl, rfl, rfl, trivial⟩) HSB.out.2.1 HSB.out.2.2.1 ((HSB.out.2.2.2.1 bn hbw).trans HKC.out) HSB.out.2.2.2.2

end Go.Proofs.YtdofemkfmkopcaaDoor
