/-
  What the proof of truthOfCanonical_holds leans on.
-/
import Derived.Test.YtflcbbikfdahhaaDoorShelf
import Derived.Test.YtflcbbikfdahhaaDoorTree
import Derived.Test.YtflcbbikfdahhaaDoorParts
import Derived.Test.YtflcbbikfdahhaaDoorVlP
import Derived.Test.YtflcbbikfdahhaaDoorThens
import Derived.Test.YtflcbbikfdahhaaDoorKeeps
import Derived.Test.YtflcbbikfdahhaaDoorProg
import Derived.Test.YtflcbbikfdahhaaDoorFmText
import Derived.Test.YtflcbbikfdahhaaDoorMdEv
import Derived.Test.YtflcbbikfdahhaaDoorFmAlpha
import Derived.Test.YtflcbbikfdahhaaDoorFmNext
import Derived.Test.YtflcbbikfdahhaaDoorStack
import Derived.Test.YtflcbbikfdahhaaDoorSets
import Derived.Test.YtflcbbikfdahhaaDoorWta
import Derived.Deep.AppendLies
import Derived.Deep.RegionLaw
import Derived.Sort.OwnSorted
import Derived.Deep.RegionHeld3
import Derived.Deep.DeepCutAuto
import Derived.Sort.Grow
import Derived.Lib.ItoaMem
import Derived.Laws.IdiomStrings
namespace Go.Proofs.YtflcbbikfdahhaaDoor

section
open Go Go.RowKit
set_option linter.unusedSimpArgs false
set_option linter.unusedVariables false
/-- slices.Contains on a slice of strings. -/
theorem contains_any {w : World} {S : Nat → Prop} {D : Option Addr} {m e : Nat} {bd : List ByteArray} (h : strRep.Sl w S (.slice D m e) bd) (x : ByteArray) : Calls Tryd.prog 104 #[.slice D m e, .string x] w fun e w' => e = .returned (.bool (hasB bd x)) ∧ w' = w := by
  obtain ⟨D', m', c', e1, hlen, hmax, _⟩ := id h
  injection e1 with e1 e2 e3
  subst e1 e2 e3
  have hb : hasB bd x = Lib.containsS bd x := Bool.eq_iff_iff.2 (hasB_iff.trans (Lib.containsS_iff bd x).symm)
  cases bd with
  | nil =>
    obtain rfl : m = 0 := hlen.symm
    exact Tryd.slices_Contains_string_empty D e x w
  | cons a l =>
    obtain ⟨b, o, cs, rfl, _⟩ := Rep.Sl.at_ h (k := 0) rfl
    have hc : ∀ j, j < (a :: l).length → w.cell? ⟨b, o + j, none⟩ = some (.string ((a :: l).getD j ByteArray.empty)) := fun j hj => by
      obtain ⟨b', o', cs', e', _, ⟨rfl, _⟩, hc'⟩ := Rep.Sl.at_ h (List.getElem?_eq_getElem hj)
      injection e' with e'
      injection e' with e1 e2
      subst e1 e2
      have := hc' 0 _ rfl
      rw [List.getD_eq_getElem?_getD, List.getElem?_eq_getElem hj]
      simpa [strRep] using this
    have := Tryd.slices_Contains_string b o m e (a :: l) x w (by omega) (by unfold maxLen at hmax; omega) hc
    rw [List.take_of_length_le (by omega)] at this
    rw [hb]
    exact this
theorem strAll {w : World} {S : Nat → Prop} : ∀ l : List ByteArray, (∀ s ∈ l, s.size ≤ maxLen) → strRep.All w S l (l.map .string)
  | [], _ => rfl
  | a :: l, h => ⟨[.string a], l.map .string, rfl, ⟨rfl, h a (by simp)⟩, strAll l (fun s hs => h s (by simp [hs]))⟩
/-- A row of strings of the call's own, as a slice. -/
theorem sl_of_row {w : World} {base : Nat} {v : Value} {l : List ByteArray} {E : TypeId} {S : Nat → Prop} (h : w.ownsRow base E 1 v l.length (l.map .string)) (hz : ∀ s ∈ l, s.size ≤ maxLen) (hm : l.length ≤ maxLen) (hS : ∀ k, v.ownBlock = some k → S k) : strRep.Sl w S v l := by
  obtain ⟨_, ⟨e, e0⟩ | ⟨g, cap, cur, e, hg, hh, h1, h2, h3, h4⟩⟩ := h
  · rw [e]
    exact ⟨none, 0, 0, rfl, e0, by omega, by omega⟩
  · refine ⟨some ⟨g, 0, none⟩, l.length, cap, e, rfl, hm, fun _ => ⟨g, 0, l.map .string, rfl, hS g (by rw [e]; rfl), strAll l hz, fun j u hu => ?_⟩⟩
    have hj : j < l.length := by
      have := (List.getElem?_eq_some_iff.1 hu).1
      simpa using this
    have h5 : cur[j]? = some u := by
      rw [← Array.getElem?_toList, ← List.getElem?_take_of_lt hj]
      rw [Nat.mul_one] at h4
      rw [h4]; exact hu
    simp only [World.cell?, hh, Nat.zero_add]
    simpa using h5
theorem fmFreess_take_le (bd : List ByteArray) (l : List Fm) (j : Nat) : (fmFreess bd (l.take j)).length ≤ (fmFreess bd l).length := by
  conv => rhs; rw [← List.take_append_drop j l, fmFreess_append]
  rw [List.length_append]
  omega
theorem fmFreess_at_le (bd : List ByteArray) (l : List Fm) (j : Nat) (h : j < l.length) : (fmFreess bd (l.take j)).length + (fmFrees bd l[j]).length ≤ (fmFreess bd l).length := by
  have := fmFreess_take_le bd l (j + 1)
  rw [fmFreess_take bd l j h, List.length_append] at this
  exact this
theorem cn_end {R : Ending → World → Prop} {w' : World} {a : Act} (hd : a.defers = []) (hR : R (.returned (.tuple #[])) w') : bodyPost Tryd.prog Tryd.f103 R .normal a w' := bodyPost_end (results_none Tryd.results103 _ _ _) hd hR
noncomputable def c_cn_wl : Code := sub [1, 0, 1, 0] (Tryd.f103.body.getD .skip)
set_option maxRecDepth 100000 in
set_option maxHeartbeats 4000000 in
theorem cn_wl_wp {Q : Exit → Act → World → Prop} {S : Nat → Prop} {bd ws : List ByteArray} {bl bw m e : Nat} {D : Option Addr} {l : List ByteArray} {v0 v : Value} {wo w : World} {kd : Int} {nm : ByteArray} {A B : Option Addr} {n1 c1 n2 c2 : Nat} (hs : KS wo w bl v0 kd nm A n1 c1 B n2 c2 v l) (hS : ∀ k, S k → k < wo.heap.size ∧ k ≠ bl ∧ v0.ownBlock ≠ some k) (hbd : strRep.Sl wo S (.slice D m e) bd) (hw : strRep.Sl wo S (.slice A n1 c1) ws) (hln : l.length + (ws.filter (fun x => !hasB bd x)).length ≤ 1000000)
    (hX : ∀ v' a' w', Frm 50 [(1, (.slice D m e)), (2, .pointer (some ⟨bl, 0, none⟩)), (3, .pointer (some ⟨bw, 0, none⟩)), (4, .pointer (some ⟨wo.heap.size, 0, none⟩))] a' → KS wo w' bl v0 kd nm A n1 c1 B n2 c2 v' (l ++ ws.filter (fun x => !hasB bd x)) → Q (.exit 0) a' w') : ∀ ac, Frm 50 [(1, (.slice D m e)), (2, .pointer (some ⟨bl, 0, none⟩)), (3, .pointer (some ⟨bw, 0, none⟩)), (4, .pointer (some ⟨wo.heap.size, 0, none⟩)), (11, .slice A n1 c1), (12, .int .i64 (n1 : Nat)), (13, .int .i64 (0 : Nat))] ac → Code.wp Tryd.prog c_cn_wl Q ac w := by
  intro a0 hf0
  conv => arg 2; whnf
  obtain ⟨A', n', c', e9, hlen, hmax, _⟩ := id hw
  injection e9 with e1 e2 e3
  subst e1 e2 e3
  refine wp_loopR (fun g a' w' => ∃ (j : Nat) (v' : Value), j + g = ws.length ∧ KS wo w' bl v0 kd nm A n1 c1 B n2 c2 v' (l ++ (ws.take j).filter (fun x => !hasB bd x)) ∧ Frm 50 [(1, (.slice D m e)), (2, .pointer (some ⟨bl, 0, none⟩)), (3, .pointer (some ⟨bw, 0, none⟩)), (4, .pointer (some ⟨wo.heap.size, 0, none⟩)), (11, .slice A n1 c1), (12, .int .i64 (n1 : Nat)), (13, .int .i64 (j : Nat))] a') ws.length ⟨0, v, by omega, by simpa using hs, hf0⟩ ?_
  rintro g a1 w1 ⟨j, v1, hjg, hs1, h1⟩
  refine wp_seq ?_
  refine cn_r2_wp (fun a2 h2 => ?_) a1 h1
  refine wp_seq ?_
  by_cases hj : j < n1
  case neg =>
    refine wp_cond_false ((h2.eval (k := 14) (v := .bool (decide (j < n1))) (by simp)).trans (by rw [decide_eq_false hj])) ?_
    refine wp_exit (hX v1 a2 w1 ⟨h2.1, h2.2.1, h2.2.2.1, h2.2.2.2.1, h2.2.2.2.2.1, h2.2.2.2.2.2.1, trivial⟩ ?_)
    rwa [List.take_of_length_le (by omega)] at hs1
  refine wp_cond_true ((h2.eval (k := 14) (v := .bool (decide (j < n1))) (by simp)).trans (by rw [decide_eq_true hj])) ?_
  refine wp_skip ?_
  show Code.wp _ _ _ a2 w1
  have hold := hs1.old hS
  have hjl : j < ws.length := by omega
  obtain ⟨b, o, cs, rfl, hSb, ⟨rfl, hsz⟩, hc⟩ := Rep.Sl.at_ hw (List.getElem?_eq_getElem hjl)
  have hc0 : w1.cell? ⟨b, o + j, none⟩ = some (.string ws[j]) := (cell_keep (hold b hSb) _).trans (by simpa [strRep] using hc 0 _ rfl)
  have hbl := lt_heap hs1.a
  have hlb : b < w1.heap.size := by have := (hS b hSb).1; omega
  have hcont := contains_any (hbd.keep hold (fun _ h => h)) ws[j]
  have htk : ws.take (j + 1) = ws.take j ++ [ws[j]] := List.take_succ_eq_append_getElem hjl
  have hll : (l ++ (ws.take j).filter (fun x => !hasB bd x)).length ≤ 1000000 := by
    have h9 : ((ws.take j).filter (fun x => !hasB bd x)).length ≤ (ws.filter (fun x => !hasB bd x)).length := by
      conv => rhs; rw [← List.take_append_drop j ws, List.filter_append]
      rw [List.length_append]; omega
    rw [List.length_append]
    omega
  refine wp_seq ?_
  refine wp_block ?_
  refine wp_seq ?_
  refine cn_r3_wp hj hc0 hlb (fun a3 h3 => ?_) a2 ⟨h2.1, h2.2.1, h2.2.2.1, h2.2.2.2.1, h2.2.2.2.2.1, h2.2.2.2.2.2.1, h2.2.2.2.2.2.2.1, h2.2.2.2.2.2.2.2.1, h2.2.2.2.2.2.2.2.2.1, trivial⟩
  refine wp_seq ?_
  refine cn_r4_wp hcont (fun a4 h4 => ?_) a3 h3
  cases hok : hasB bd ws[j]
  · rw [hok] at h4
    refine wp_cond_true ((h4.eval (k := 20) (v := .bool (!false)) (by simp)).trans (by rw [show (!false) = true from rfl])) ?_
    refine cn_r5_wp hll hs1 (fun v5 a5 w5 h5 hs5 => ?_) a4 ⟨h4.1, h4.2.1, h4.2.2.1, h4.2.2.2.1, h4.2.2.2.2.1, h4.2.2.2.2.2.1, h4.2.2.2.2.2.2.1, h4.2.2.2.2.2.2.2.1, h4.2.2.2.2.2.2.2.2.1, h4.2.2.2.2.2.2.2.2.2.1, trivial⟩
    show Code.wp _ _ _ a5 w5
    refine cn_r6_wp hj (by omega) (fun a6 h6 => ?_) a5 h5
    refine ⟨g - 1, by omega, j + 1, v5, by omega, ?_, h6⟩
    rw [htk, List.filter_append, List.filter_cons_of_pos (by simp [hok]), List.filter_nil, ← List.append_assoc]
    exact hs5
  · rw [hok] at h4
    refine wp_cond_false ((h4.eval (k := 20) (v := .bool (!true)) (by simp)).trans (by rw [show (!true) = false from rfl])) ?_
    refine wp_skip ?_
    show Code.wp _ _ _ a4 w1
    refine cn_r6_wp hj (by omega) (fun a6 h6 => ?_) a4 ⟨h4.1, h4.2.1, h4.2.2.1, h4.2.2.2.1, h4.2.2.2.2.1, h4.2.2.2.2.2.1, h4.2.2.2.2.2.2.1, h4.2.2.2.2.2.2.2.1, h4.2.2.2.2.2.2.2.2.1, trivial⟩
    refine ⟨g - 1, by omega, j + 1, v1, by omega, ?_, h6⟩
    rw [htk, List.filter_append, List.filter_cons_of_neg (by simp [hok]), List.filter_nil, List.append_nil]
    exact hs1
noncomputable def c_cn_sl : Code := sub [1, 1, 1, 1, 0] (Tryd.f103.body.getD .skip)
set_option maxRecDepth 100000 in
set_option maxHeartbeats 4000000 in
theorem cn_sl_wp {Q : Exit → Act → World → Prop} {S : Nat → Prop} {bd : List ByteArray} {ts : List Fm} {w : World} {bl bw m e : Nat} {D : Option Addr} {l : List ByteArray} {v : Value} {wo : World} {B : Option Addr} {n2 c2 : Nat} (hb : LB w bl v l) (hS : ∀ k, S k → k < w.heap.size ∧ k ≠ bl ∧ v.ownBlock ≠ some k) (hbd : strRep.Sl w S (.slice D m e) bd) (hl : fmRep.Sl w S (.slice B n2 c2) ts) (hSw : S bw) (hf : w.heap[bw]? = some (.cells #[.func (Fn.func 103) #[] #[.pointer (some ⟨bl, 0, none⟩), .pointer (some ⟨bw, 0, none⟩)]] 111 (0, 0))) (hln : l.length + (fmFreess bd ts).length ≤ 1000000) (ih : ∀ (t : Fm) (cs : List Value) (W : World) (v1 : Value) (l1 : List ByteArray), t ∈ ts → fmRep.R W S t cs → (∀ k, S k → k < W.heap.size ∧ k ≠ bl ∧ v1.ownBlock ≠ some k) → strRep.Sl W S (.slice D m e) bd → W.heap[bw]? = some (.cells #[.func (Fn.func 103) #[] #[.pointer (some ⟨bl, 0, none⟩), .pointer (some ⟨bw, 0, none⟩)]] 111 (0, 0)) → LB W bl v1 l1 → l1.length + (fmFrees bd t).length ≤ 1000000 → Calls Tryd.prog 103 #[.agg cs.toArray, (.slice D m e), .pointer (some ⟨bl, 0, none⟩), .pointer (some ⟨bw, 0, none⟩)] W fun e w' => e = .returned (.tuple #[]) ∧ ∃ v', LB w' bl v' (l1 ++ fmFrees bd t) ∧ LK W w' bl v1 v') 
    (hX : ∀ v' a' w', Frm 50 [(1, (.slice D m e)), (2, .pointer (some ⟨bl, 0, none⟩)), (3, .pointer (some ⟨bw, 0, none⟩)), (4, .pointer (some ⟨wo.heap.size, 0, none⟩))] a' → LB w' bl v' (l ++ fmFreess bd ts) → LK w w' bl v v' → Q (.exit 2) a' w') : ∀ ac, Frm 50 [(1, (.slice D m e)), (2, .pointer (some ⟨bl, 0, none⟩)), (3, .pointer (some ⟨bw, 0, none⟩)), (4, .pointer (some ⟨wo.heap.size, 0, none⟩)), (39, .slice B n2 c2), (40, .int .i64 (n2 : Nat)), (41, .int .i64 (0 : Nat))] ac → Code.wp Tryd.prog c_cn_sl Q ac w := by
  intro a0 hf0
  conv => arg 2; whnf
  obtain ⟨B', n', c', e9, hlen, hmax, _⟩ := id hl
  injection e9 with e1 e2 e3
  subst e1 e2 e3
  refine wp_loopR (fun g a' w' => ∃ (j : Nat) (v' : Value), j + g = ts.length ∧ LB w' bl v' (l ++ fmFreess bd (ts.take j)) ∧ LK w w' bl v v' ∧ Frm 50 [(1, (.slice D m e)), (2, .pointer (some ⟨bl, 0, none⟩)), (3, .pointer (some ⟨bw, 0, none⟩)), (4, .pointer (some ⟨wo.heap.size, 0, none⟩)), (39, .slice B n2 c2), (40, .int .i64 (n2 : Nat)), (41, .int .i64 (j : Nat))] a') ts.length ⟨0, v, by omega, by simpa [fmFreess] using hb, LK.refl _ _ _, hf0⟩ ?_
  rintro g a1 w1 ⟨j, v1, hjg, hb1, hk1, h1⟩
  refine wp_seq ?_
  refine cn_r10_wp (fun a2 h2 => ?_) a1 h1
  refine wp_seq ?_
  by_cases hj : j < n2
  case neg =>
    refine wp_cond_false ((h2.eval (k := 42) (v := .bool (decide (j < n2))) (by simp)).trans (by rw [decide_eq_false hj])) ?_
    refine wp_exit (hX v1 a2 w1 ⟨h2.1, h2.2.1, h2.2.2.1, h2.2.2.2.1, h2.2.2.2.2.1, h2.2.2.2.2.2.1, trivial⟩ ?_ hk1)
    rwa [List.take_of_length_le (by omega)] at hb1
  refine wp_cond_true ((h2.eval (k := 42) (v := .bool (decide (j < n2))) (by simp)).trans (by rw [decide_eq_true hj])) ?_
  refine wp_skip ?_
  show Code.wp _ _ _ a2 w1
  have hjl : j < ts.length := by omega
  obtain ⟨b, o, cs, rfl, hSb, hr, hc⟩ := Rep.Sl.at_ hl (List.getElem?_eq_getElem hjl)
  obtain ⟨Ae, n3, c3, Be, n4, c4, rfl, _, _, _, _⟩ := Fm.shape hr
  have hold : ∀ k, S k → w1.heap[k]? = w.heap[k]? := fun k hk => hk1.block k (hS k hk).1 (hS k hk).2.1 (hS k hk).2.2
  have hS1 : ∀ k, S k → k < w1.heap.size ∧ k ≠ bl ∧ v1.ownBlock ≠ some k := fun k hk => ⟨Nat.lt_of_lt_of_le (hS k hk).1 hk1.size, (hS k hk).2.1, fun e => by
    rcases hk1.at_ k e with e | e
    · exact (hS k hk).2.2 e
    · have := (hS k hk).1; omega⟩
  have hkb := hold b hSb
  have e0 : w1.cell? ⟨b, o + j * 4, none⟩ = _ := (cell_keep hkb _).trans (hc 0 _ rfl)
  have e1 : w1.cell? ⟨b, o + j * 4 + 1, none⟩ = _ := (cell_keep hkb _).trans (hc 1 _ rfl)
  have e2 : w1.cell? ⟨b, o + j * 4 + 2, none⟩ = _ := (cell_keep hkb _).trans (hc 2 _ rfl)
  have e3 : w1.cell? ⟨b, o + j * 4 + 3, none⟩ = _ := (cell_keep hkb _).trans (hc 3 _ rfl)
  refine wp_seq ?_
  refine wp_block ?_
  refine wp_seq ?_
  refine cn_r11_wp hj e0 e1 e2 e3 (hS1 b hSb).1 (fun a3 h3 => ?_) a2 ⟨h2.1, h2.2.1, h2.2.2.1, h2.2.2.2.1, h2.2.2.2.2.1, h2.2.2.2.2.2.1, h2.2.2.2.2.2.2.1, h2.2.2.2.2.2.2.2.1, h2.2.2.2.2.2.2.2.2.1, trivial⟩
  have hbw := (Below.refl w1.heap.size w1).alloc (Nat.le_refl _) (.cells #[.int .i64 ts[j].lab.kind, .string ts[j].lab.nm, .slice Ae n3 c3, .slice Be n4 c4] 29)
  have hge := heap_alloc_new w1 (.cells #[.int .i64 ts[j].lab.kind, .string ts[j].lab.nm, .slice Ae n3 c3, .slice Be n4 c4] 29)
  have hb3 := hb1.below hbw
  have hk3 := LK.below bl v1 hbw
  have hold3 : ∀ k, S k → (w1.alloc (.cells #[.int .i64 ts[j].lab.kind, .string ts[j].lab.nm, .slice Ae n3 c3, .slice Be n4 c4] 29)).heap[k]? = w.heap[k]? := fun k hk => (hbw.block k (hS1 k hk).1).trans (hold k hk)
  have hf3 := (hold3 bw hSw).trans hf
  have hln1 : (l ++ fmFreess bd (ts.take j)).length + (fmFrees bd ts[j]).length ≤ 1000000 := by
    have := fmFreess_at_le bd ts j hjl
    rw [List.length_append]; omega
  have hcall := ih ts[j] _ _ v1 _ (List.getElem_mem hjl) (fmRep.keep hr hold3 (fun _ h => h)) (fun k hk => ⟨by have := (hS1 k hk).1; simp; omega, (hS1 k hk).2⟩) (hbd.keep hold3 (fun _ h => h)) hf3 hb3 hln1
  refine cn_r12_wp hf3 hge hcall (fun a4 w4 h4 hp => ?_) a3 h3
  obtain ⟨v4, hb4, hk4⟩ := hp
  show Code.wp _ _ _ a4 w4
  refine cn_r13_wp hj (by omega) (fun a5 h5 => ?_) a4 ⟨h4.1, h4.2.1, h4.2.2.1, h4.2.2.2.1, h4.2.2.2.2.1, h4.2.2.2.2.2.1, h4.2.2.2.2.2.2.1, h4.2.2.2.2.2.2.2.1, h4.2.2.2.2.2.2.2.2.1, trivial⟩
  refine ⟨g - 1, by omega, j + 1, v4, by omega, ?_, (hk1.trans hk3).trans hk4, h5⟩
  rw [fmFreess_take bd ts j hjl, ← List.append_assoc]
  exact hb4
noncomputable def c_cn_p9 : Code := sub [1, 1, 1] (Tryd.f103.body.getD .skip)
set_option maxRecDepth 100000 in
set_option maxHeartbeats 4000000 in
theorem frees_any : ∀ (N : Nat) (t : Fm) (cs : List Value) (w : World) (S : Nat → Prop) (D : Option Addr) (m e : Nat) (bd : List ByteArray) (bl bw : Nat) (v : Value) (l : List ByteArray), t.nodes ≤ N → fmRep.R w S t cs → (∀ k, S k → k < w.heap.size ∧ k ≠ bl ∧ v.ownBlock ≠ some k) → strRep.Sl w S (.slice D m e) bd → m ≤ e → (bd = [] → D = none) → bd.length + N ≤ 1000000 → S bw → w.heap[bw]? = some (.cells #[.func (Fn.func 103) #[] #[.pointer (some ⟨bl, 0, none⟩), .pointer (some ⟨bw, 0, none⟩)]] 111 (0, 0)) → LB w bl v l → l.length + (fmFrees bd t).length ≤ 1000000 →
    Calls Tryd.prog 103 #[.agg cs.toArray, (.slice D m e), .pointer (some ⟨bl, 0, none⟩), .pointer (some ⟨bw, 0, none⟩)] w (fun e w' => e = .returned (.tuple #[]) ∧ ∃ v', LB w' bl v' (l ++ fmFrees bd t) ∧ LK w w' bl v v') := by
  intro N
  induction N with
  | zero => intro t; have := t.nodes_pos; intros; omega
  | succ N ih =>
  intro t cs w S D m e bd bl bw v l hN ht hS hbd hme hD hdn hSw hf hb hln
  obtain ⟨⟨kd, nm, ws⟩, ts⟩ := t
  obtain ⟨u, v9, rfl, hnm, hw, hl⟩ := Fm.open_ ht
  simp only at hw hnm
  obtain ⟨A, n1, c1, rfl, e1, hm1, _⟩ := id hw
  obtain ⟨B, n2, c2, rfl, e2, hm2, _⟩ := id hl
  have hbm : bd.length = m := by
    obtain ⟨_, _, _, e9, h9, _⟩ := id hbd
    injection e9 with _ e9 _
    rw [e9, h9]
  clear ht
  have hbl := lt_heap hb.box
  simp only [fmFrees] at hln
  rw [List.length_append] at hln
  go_enter Tryd.func103, Tryd.ntmps103
  refine wp_seq ?_
  refine cn_r0_wp hb (fun a0 w0 h0 hs => ?_) _ (id ⟨rfl, rfl, rfl, rfl, rfl, rfl, trivial⟩)
  refine wp_seq ?_
  refine wp_seq ?_
  refine cn_r1_wp hs (fun a1 h1 => ?_) a0 h0
  refine wp_block ?_
  refine cn_wl_wp hs hS hbd hw (by omega) (fun v2 a2 w2 h2 hs2 => ?_) a1 h1
  refine inBlock_exit ?_
  show Code.wp _ _ _ a2 w2
  have p9 : ∀ (a5 : Act) (w5 : World) (S' : Nat → Prop) (D : Option Addr) (m e : Nat) (bd' : List ByteArray) (v5 : Value), bd' = (if kd = 8 ∨ kd = 9 then bd ++ [nm] else bd) → KS w w5 bl v kd nm A n1 c1 B n2 c2 v5 (l ++ ws.filter (fun x => !hasB bd x)) → (∀ k, S k → S' k) → (∀ k, S' k → k < w5.heap.size ∧ k ≠ bl ∧ v5.ownBlock ≠ some k) → strRep.Sl w5 S' (.slice D m e) bd' → m ≤ e → (bd' = [] → D = none) → bd'.length + N ≤ 1000000 → Frm 50 [(1, (.slice D m e)), (2, .pointer (some ⟨bl, 0, none⟩)), (3, .pointer (some ⟨bw, 0, none⟩)), (4, .pointer (some ⟨w.heap.size, 0, none⟩))] a5 → Code.wp Tryd.prog c_cn_p9 (bodyPost Tryd.prog Tryd.f103 (fun e w' => e = .returned (.tuple #[]) ∧ ∃ v', LB w' bl v' (l ++ fmFrees bd (.mk ⟨kd, nm, ws⟩ ts)) ∧ LK w w' bl v v')) a5 w5 := by
    intro a5 w5 S' D m e bd' v5 ebd hs5 hsub hS5 hbd5 hme5 hD5 hn5 h5
    conv => arg 2; whnf
    refine wp_seq ?_
    refine cn_r9_wp hs5 (fun a6 h6 => ?_) a5 h5
    refine wp_block ?_
    have hold := hs5.old hS
    rw [← ebd] at hln
    refine cn_sl_wp (S := S') hs5.b hS5 hbd5 (hl.keep hold hsub) (hsub _ hSw) ((hold bw hSw).trans hf) (by rw [List.length_append]; omega) (fun t cs W v1 l1 htl hr hS9 hbd9 hf9 hb9 hln9 => ?_) (fun v7 a7 w7 h7 hb7 hk7 => ?_) a6 h6
    · have hnd : t.nodes ≤ N := by
        obtain ⟨j, hj, rfl⟩ := List.getElem_of_mem htl
        have := Tree.nodes_at ts j hj
        simp [Tree.nodes] at hN
        omega
      exact ih t cs W S' D m e bd' bl bw v1 l1 hnd hr hS9 hbd9 hme5 hD5 hn5 (hsub _ hSw) hf9 hb9 hln9
    · refine inBlock_exit ?_
      refine cn_end h7.2.1 ⟨rfl, v7, ?_, hs5.k.trans hk7⟩
      have e9 : l ++ fmFrees bd (.mk ⟨kd, nm, ws⟩ ts) = l ++ ws.filter (fun x => !hasB bd x) ++ fmFreess bd' ts := by
        simp only [fmFrees]
        rw [← ebd, List.append_assoc]
      rw [e9]
      exact hb7
  refine wp_seq ?_
  refine wp_seq ?_
  refine cn_r7_wp hs2 (fun a3 w3 h3 hs3 hb3 => ?_) a2 h2
  have hS3 : ∀ k, S k → k < w3.heap.size ∧ k ≠ bl ∧ v2.ownBlock ≠ some k := fun k hk => ⟨by have := (hS k hk).1; have := hs3.k.size; omega, (hS k hk).2.1, fun e => by
    rcases hs3.k.at_ k e with e | e
    · exact (hS k hk).2.2 e
    · have := (hS k hk).1; omega⟩
  have hbd3 := hbd.keep (hs3.old hS) (fun _ h => h)
  have hq : isQu kd = true ↔ kd = 8 ∨ kd = 9 := by unfold isQu; simp
  cases hk : isQu kd
  · rw [hk] at h3
    refine wp_cond_false ((h3.eval (k := 27) (v := .bool false) (by simp)).trans (by rw [show false = false from rfl])) ?_
    refine wp_skip ?_
    exact p9 a3 w3 S D m e bd v2 (by rw [if_neg (fun h => by rw [hq.2 h] at hk; cases hk)]) hs3 (fun _ h => h) hS3 hbd3 hme hD (by omega) ⟨h3.1, h3.2.1, h3.2.2.1, h3.2.2.2.1, h3.2.2.2.2.1, h3.2.2.2.2.2.1, trivial⟩
  · rw [hk] at h3
    refine wp_cond_true ((h3.eval (k := 27) (v := .bool true) (by simp)).trans (by rw [show true = true from rfl])) ?_
    have k89 : kd = 8 ∨ kd = 9 := hq.1 hk
    have fin : ∀ (a5 : Act) (w5 : World) (v6 : Value), Frm 50 [(1, v6), (2, .pointer (some ⟨bl, 0, none⟩)), (3, .pointer (some ⟨bw, 0, none⟩)), (4, .pointer (some ⟨w.heap.size, 0, none⟩))] a5 → w5.ownsRow (w3.heap.size + 1) 9 1 v6 (m + 1) (bd.map .string ++ [.string nm]) → Below w3.heap.size w3 w5 → Code.wp Tryd.prog c_cn_p9 (bodyPost Tryd.prog Tryd.f103 (fun e w' => e = .returned (.tuple #[]) ∧ ∃ v', LB w' bl v' (l ++ fmFrees bd (.mk ⟨kd, nm, ws⟩ ts)) ∧ LK w w' bl v v')) a5 w5 := by
      intro a5 w5 v6 h5 hrow hb5
      have hlen : (bd ++ [nm]).length = m + 1 := by simp [hbm]
      have hrow' : w5.ownsRow (w3.heap.size + 1) 9 1 v6 (bd ++ [nm]).length ((bd ++ [nm]).map .string) := by rw [hlen]; simpa using hrow
      have hbz : ∀ s ∈ bd ++ [nm], s.size ≤ maxLen := by
        intro s hs
        rcases List.mem_append.1 hs with hs | hs
        · obtain ⟨j, hj, rfl⟩ := List.getElem_of_mem hs
          obtain ⟨_, _, _, _, _, ⟨_, hz⟩, _⟩ := Rep.Sl.at_ (A := D) (n := m) (c := e) hbd (List.getElem?_eq_getElem hj)
          exact hz
        · simp at hs; subst hs; exact hnm
      have hbd6 := sl_of_row (S := fun k => S k ∨ v6.ownBlock = some k) hrow' hbz (by rw [hlen]; unfold maxLen; omega) (fun k hk => Or.inr hk)
      have hlt := hrow.lt
      obtain ⟨D6, m6, e6, rfl, h6, _⟩ := id hbd6
      have hm6 : m6 = m + 1 := by rw [← h6, hlen]
      subst hm6
      have hle : m + 1 ≤ e6 := by
        obtain ⟨_, ⟨e9, e0⟩ | ⟨g, cap, cur, e9, _, _, h1, _⟩⟩ := hrow
        · omega
        · injection e9 with _ _ e9; omega
      have hbl3 := lt_heap hs3.b.box
      refine p9 a5 w5 (fun k => S k ∨ (Value.slice D6 (m + 1) e6).ownBlock = some k) D6 (m + 1) e6 (bd ++ [nm]) v2 (by rw [if_pos k89]) (hs3.below hb5) (fun k h => Or.inl h) (fun k hk => ?_) hbd6 hle (fun h => by simp at h) (by simp; omega) h5
      rcases hk with hk | hk
      · exact ⟨Nat.lt_of_lt_of_le (hS3 k hk).1 hb5.size, (hS3 k hk).2⟩
      · have h9 := hlt k hk
        refine ⟨h9.2, by omega, fun e => ?_⟩
        have := hs3.b.lt k e
        omega
    cases bd with
    | nil =>
      obtain rfl : D = none := hD rfl
      obtain rfl : m = 0 := hbm.symm
      refine Code.wp_mono (Q := Exit.then (fun a' w' => ∃ v6 : Value, Frm 50 [(1, v6), (2, .pointer (some ⟨bl, 0, none⟩)), (3, .pointer (some ⟨bw, 0, none⟩)), (4, .pointer (some ⟨w.heap.size, 0, none⟩))] a' ∧ w'.ownsRow (w3.heap.size + 1) 9 1 v6 (0 + 1) (([] : List ByteArray).map .string ++ [.string nm]) ∧ Below w3.heap.size w3 w') (fun _ _ _ => False)) ?_ (cn_r8n_wp rfl hs3 (fun v6 a5 w5 h5 hrow hb5 => ⟨v6, h5, hrow, hb5⟩) a3 ⟨h3.1, h3.2.1, h3.2.2.1, h3.2.2.2.1, h3.2.2.2.2.1, h3.2.2.2.2.2.1, trivial⟩)
      intro ex a4 w4 hx
      cases ex with
      | normal =>
        obtain ⟨v6, h6, hr6, hb6⟩ := hx
        exact fin a4 w4 v6 h6 hr6 hb6
      | _ => exact hx.elim
    | cons y r =>
      obtain ⟨b, o, cs9, rfl, hSb, _, _⟩ := Rep.Sl.at_ hbd3 (k := 0) rfl
      have hcell : ∀ j u, ((y :: r).map Value.string)[j]? = some u → w3.cell? ⟨b, o + j, none⟩ = some u := by
        intro j u hu
        have hj : j < (y :: r).length := by
          have := (List.getElem?_eq_some_iff.1 hu).1
          simpa using this
        obtain ⟨b', o', cs', e', _, ⟨rfl, _⟩, hc'⟩ := Rep.Sl.at_ hbd3 (List.getElem?_eq_getElem hj)
        injection e' with e'
        injection e' with e1 e2
        subst e1 e2
        have h9 := hc' 0 _ rfl
        rw [List.getElem?_map, List.getElem?_eq_getElem hj] at hu
        injection hu with hu
        rw [← hu]
        simpa [strRep] using h9
      refine Code.wp_mono (Q := Exit.then (fun a' w' => ∃ v6 : Value, Frm 50 [(1, v6), (2, .pointer (some ⟨bl, 0, none⟩)), (3, .pointer (some ⟨bw, 0, none⟩)), (4, .pointer (some ⟨w.heap.size, 0, none⟩))] a' ∧ w'.ownsRow (w3.heap.size + 1) 9 1 v6 (m + 1) ((y :: r).map .string ++ [.string nm]) ∧ Below w3.heap.size w3 w') (fun _ _ _ => False)) ?_ (cn_r8_wp hbm (by omega) hme (hS3 b hSb).1 hcell hs3 (fun v6 a5 w5 h5 hrow hb5 => ⟨v6, h5, hrow, hb5⟩) a3 ⟨h3.1, h3.2.1, h3.2.2.1, h3.2.2.2.1, h3.2.2.2.2.1, h3.2.2.2.2.2.1, trivial⟩)
      intro ex a4 w4 hx
      cases ex with
      | normal =>
        obtain ⟨v6, h6, hr6, hb6⟩ := hx
        exact fin a4 w4 v6 h6 hr6 hb6
      | _ => exact hx.elim
end

section
open Go Go.RowKit
set_option linter.unusedSimpArgs false
set_option linter.unusedVariables false
theorem then_ret {K : Act → World → Prop} {Q : Exit → Act → World → Prop} {a : Act} {w : World} (h : Q .ret a w) : Exit.then K Q .ret a w := h
theorem inBlock_ret {k : Nat} {Q : Exit → Act → World → Prop} {a : Act} {w : World} (h : Q .ret a w) : Exit.inBlock k Q .ret a w := h
end

section
open Go Go.RowKit Go.Sort
set_option linter.unusedSimpArgs false
set_option linter.unusedVariables false
theorem ownsRow_rebase {w : World} {base base' size n : Nat} {E : TypeId} {v : Value} {xs : List Value} (h : w.ownsRow base E size v n xs) (hb : ∀ k, v.ownBlock = some k → base' ≤ k) : w.ownsRow base' E size v n xs := by
  obtain ⟨h1, h2 | ⟨g, cap, cur, e, hg, r⟩⟩ := h
  · exact ⟨h1, Or.inl h2⟩
  · exact ⟨h1, Or.inr ⟨g, cap, cur, e, hb g (by rw [e]; rfl), r⟩⟩
theorem ownsRow_cut {w : World} {base n k cap g : Nat} {E : TypeId} {xs : List Value} (h : w.ownsRow base E 1 (.slice (some ⟨g, 0, none⟩) n cap) n xs) (hk : k ≤ n) : w.ownsRow base E 1 (.slice (some ⟨g, 0, none⟩) k cap) k (xs.take k) := by
  obtain ⟨h1, ⟨e, _⟩ | ⟨g', cap', cur, e, hg, hh, h2, h3, h4, h5⟩⟩ := h
  · cases e
  · injection e with e1 e2 e3
    injection e1 with e1
    injection e1 with e1 _ _
    subst e1 e3
    refine ⟨?_, Or.inr ⟨g, cap, cur, rfl, hg, hh, by omega, h3, h4, ?_⟩⟩
    · rw [List.length_take]; omega
    · rw [← h5, List.take_take]
      congr 1
      omega
def ofB (l : List Bs) : List ByteArray := l.map (fun x => ⟨x.toArray⟩)
theorem ofB_enc (l : List Bs) : (ofB l).map Value.string = l.map encStr := by simp [ofB, encStr, Function.comp_def]
theorem map_enc (l : List ByteArray) : l.map Value.string = (l.map dat).map encStr := by
  rw [List.map_map]
  exact List.map_congr_left (fun a _ => by simp only [Function.comp, encStr]; rw [mk_dat])
theorem compact_len (zs : List Bs) : (Lib.compact zs).length ≤ zs.length := by
  unfold Lib.compact Lib.compactUpTo
  rw [List.length_map]
  exact Nat.le_trans (List.length_filter_le _ _) (by simp)
/-- slices.Sort on a row of the call's own. -/
theorem sort_row {w : World} {base : Nat} {v : Value} {l : List ByteArray} (h : w.ownsRow base 9 1 v l.length (l.map .string)) (hle : l.length ≤ 1000000) :
    Calls Tryd.prog 105 #[v] w fun e w' => e = .returned (.tuple #[]) ∧ w'.ownsRow base 9 1 v l.length ((ofB (sortS (l.map dat))).map .string) ∧ w.grownBy w' v.ownBlock := by
  obtain ⟨h1, ⟨e, h0⟩ | ⟨g, cap, cur, e, hg, hh, h2, h3, h4, h5⟩⟩ := id h
  · subst e
    obtain rfl : l = [] := List.length_eq_zero_iff.1 h0
    refine (Tryd.slices_Sort_string_none none 0 w).mono ?_
    rintro e w1 ⟨rfl, rfl⟩
    exact ⟨rfl, by simpa [ofB, sortS] using h, ⟨rfl, rfl, rfl, Nat.le_refl _, fun _ _ _ => rfl⟩⟩
  · subst e
    have hlen : l.length = (l.map dat).length := by simp
    have hH : Holds encStr w g 0 (l.map dat).toArray := holds_of_block hh (by rw [← hlen, ← map_enc]; rw [Nat.mul_one] at h5; exact h5)
    rw [hlen]
    refine (Tryd.slices_Sort_string g 0 cap (l.map dat) w hH (lt_heap hh) (by rw [← hlen]; omega)).mono ?_
    rintro e w1 ⟨rfl, n, os, rfl⟩
    refine ⟨rfl, ?_, grownBy_sorted _⟩
    rw [ofB_enc]
    exact ownsRow_sorted (ss := l.map dat) (by simp) hg hh (by rw [← hlen]; exact h2) h3 h4
/-- slices.Compact on a row of the call's own. -/
theorem compact_row {w : World} {base : Nat} {v : Value} {d : List Bs} (h : w.ownsRow base 9 1 v d.length ((ofB d).map .string)) :
    Calls Tryd.prog 106 #[v] w fun e w' => ∃ v', e = .returned v' ∧ w'.ownsRow base 9 1 v' (ofB (Lib.compact d)).length ((ofB (Lib.compact d)).map .string) ∧ w.grownBy w' v.ownBlock := by
  have hl2 : (ofB (Lib.compact d)).length = (Lib.compact d).length := by simp [ofB]
  rw [hl2]
  obtain ⟨h1, ⟨e, h0⟩ | ⟨g, cap, cur, e, hg, hh, h2, h3, h4, h5⟩⟩ := id h
  · subst e
    obtain rfl : d = [] := List.length_eq_zero_iff.1 h0
    refine (Tryd.slices_Compact_string_empty none 0 w).mono ?_
    rintro e w1 ⟨rfl, rfl⟩
    exact ⟨_, rfl, h, ⟨rfl, rfl, rfl, Nat.le_refl _, fun _ _ _ => rfl⟩⟩
  · subst e
    have hcl := compact_len d
    have hH : Holds encStr w g 0 d.toArray := holds_of_block hh (by rw [← ofB_enc]; rw [Nat.mul_one] at h5; exact h5)
    refine (Tryd.slices_Compact_string g 0 cap d w hH (by unfold maxLen at h3; omega) h2).mono ?_
    rintro e w1 ⟨rfl, q, rfl⟩
    have hr := ownsRow_sorted (w := w) (base := base) (n := q) (os := #[]) (ss := d) (ts := Lib.compact d ++ List.replicate (d.length - (Lib.compact d).length) []) (by simp; omega) hg hh h2 h3 h4
    rw [grow_empty] at hr
    refine ⟨_, rfl, ?_, ?_⟩
    · have hc := ownsRow_cut hr hcl
      rw [← List.map_take, List.take_left] at hc
      rw [ofB_enc]
      exact hc
    · have := grownBy_sorted (w := w) (g := g) (n := q) (os := #[]) (Lib.compact d ++ List.replicate (d.length - (Lib.compact d).length) []).toArray
      rw [grow_empty] at this
      exact this
theorem below_of_grownBy {w w' : World} {B : Nat} {v : Value} (h : w.grownBy w' v.ownBlock) (hv : ∀ k, v.ownBlock = some k → B ≤ k) (hB : B ≤ w.heap.size) : Below B w w' :=
  ⟨h.os, h.tape, h.output, h.size, fun k hk => h.block k (by omega) (fun e => by have := hv k e.symm; omega)⟩
theorem own_ge {w : World} {base size n : Nat} {E : TypeId} {v : Value} {xs : List Value} (h : w.ownsRow base E size v n xs) : ∀ k, v.ownBlock = some k → base ≤ k := fun k e => (h.lt k e).1
set_option maxRecDepth 100000 in
set_option maxHeartbeats 4000000 in
/-- folform.Constants. -/
theorem constants_any (t : Fm) (cs : List Value) (w : World) (S : Nat → Prop) (ht : fmRep.R w S t cs) (hS : ∀ b, S b → b < w.heap.size) (hn : t.nodes ≤ 1000000) (hln : (fmFrees [] t).length ≤ 1000000) :
    Calls Tryd.prog 78 #[.agg cs.toArray] w fun e w' => ∃ v, e = .returned v ∧ w'.ownsRow w.heap.size 9 1 v (fmConsts t).length ((fmConsts t).map .string) ∧ Below w.heap.size w w' := by
  obtain ⟨A, n1, c1, B, n2, c2, rfl, _, _, _, _⟩ := Fm.shape ht
  obtain ⟨kd, hkd⟩ : ∃ k, t.lab.kind = k := ⟨_, rfl⟩
  obtain ⟨nm, hnm⟩ : ∃ k, t.lab.nm = k := ⟨_, rfl⟩
  rw [hkd, hnm] at ht ⊢
  have hv : ∀ W : World, W.heap.size = w.heap.size + 1 + 1 + 1 → (∀ b, b < w.heap.size → W.heap[b]? = w.heap[b]?) → W.heap[w.heap.size + 1]? = some (.cells #[.slice none 0 0] 26 (0, 0)) → W.heap[w.heap.size + 1 + 1]? = some (.cells #[.func (Fn.func 103) #[] #[.pointer (some ⟨w.heap.size + 1, 0, none⟩), .pointer (some ⟨w.heap.size + 1 + 1, 0, none⟩)]] 111 (0, 0)) →
      Calls Tryd.prog 103 #[.agg #[.int .i64 kd, .string nm, .slice A n1 c1, .slice B n2 c2], .slice none 0 0, .pointer (some ⟨w.heap.size + 1, 0, none⟩), .pointer (some ⟨w.heap.size + 1 + 1, 0, none⟩)] W fun e w' => e = .returned (.tuple #[]) ∧ ∃ v', w'.heap[w.heap.size + 1]? = some (.cells #[v'] 26 (0, 0)) ∧ w'.ownsRow w.heap.size 9 1 v' (fmFrees [] t).length ((fmFrees [] t).map .string) ∧ v'.ownBlock ≠ some (w.heap.size + 1) ∧ Below w.heap.size W w' := by
    intro W hz hk h1 h2
    refine (frees_any t.nodes t [.int .i64 kd, .string nm, .slice A n1 c1, .slice B n2 c2] W (fun k => S k ∨ k = w.heap.size + 1 + 1) none 0 0 [] (w.heap.size + 1) (w.heap.size + 1 + 1) (.slice none 0 0) [] (Nat.le_refl _) (fmRep.keep ht (fun b hb => hk b (hS b hb)) (fun _ h => Or.inl h)) (fun k hk => ⟨?_, ?_, by simp [Value.ownBlock]⟩) Rep.Sl.nil (Nat.le_refl _) (fun _ => rfl) (by simpa using hn) (Or.inr rfl) h2 ⟨h1, World.ownsRow_nil _ _ _ _, by simp [Value.ownBlock]⟩ (by simpa using hln)).mono ?_
    · rcases hk with hk | rfl
      · have := hS k hk; omega
      · omega
    · rcases hk with hk | rfl
      · have := hS k hk; omega
      · omega
    · rintro e w1 ⟨rfl, v', hb, hl⟩
      have hge : ∀ k, v'.ownBlock = some k → w.heap.size ≤ k := fun k e => by
        rcases hl.at_ k e with e | e
        · simp [Value.ownBlock] at e
        · omega
      refine ⟨rfl, v', hb.box, ?_, hb.ne, ⟨hl.os, hl.tape, hl.output, hl.size, fun k hk => hl.block k (by omega) (by omega) (by simp [Value.ownBlock])⟩⟩
      have := ownsRow_rebase hb.row hge
      simpa using this
  have efin : ofB (Lib.compact (sortS ((fmFrees [] t).map dat))) = fmConsts t := rfl
  have hlenS : (fmFrees [] t).length = (sortS ((fmFrees [] t).map dat)).length := by simp [sortS]
  clear ht hkd hnm
  have HV := Lib.hid hv
  have HS := Lib.hid hS
  clear hv hS
  go_enter Tryd.func78, Tryd.ntmps78
  go_wp2_with fail
  (with_reducible refine (HV.out _ ?hz ?hk ?h1 ?h3).mono ?_)
  case hz => simp
  case hk => exact fun b hb => heap_old (by first | (simp; done) | (simp; omega)) (heap_old (by first | (simp; done) | (simp; omega)) (heap_old hb rfl))
  case h1 => exact heap_old (by first | (simp; done) | (simp; omega)) (heap_at (by simp))
  case h3 => exact heap_at (by simp)
  rintro e w1 ⟨rfl, v1, hbox, hrow, hne, hk1⟩
  have hb : Below w.heap.size w w1 := (show Below w.heap.size w _ by go_grown).trans hk1
  have h0 := cellv hbox 0 rfl
  have hl := lt_heap hbox
  have hs := sort_row hrow hln
  clear hk1
  have HB := Lib.hid hb
  have HS := Lib.hid hs
  have HBOX := Lib.hid hbox
  have HROW := Lib.hid hrow
  have HNE := Lib.hid hne
  have EFIN := Lib.hid efin
  have HLENS := Lib.hid hlenS
  clear hb hs hbox hrow hne efin hlenS
  go_wp2_with fail
  (with_reducible refine HS.out.mono ?_)
  rintro e w2 ⟨rfl, hrow2, hg2⟩
  have hbox2 := (hg2.block (w.heap.size + 1) (lt_heap HBOX.out) (fun e => HNE.out e.symm)).trans HBOX.out
  have hb2 := HB.out.trans (below_of_grownBy hg2 (own_ge HROW.out) HB.out.size)
  have h20 := cellv hbox2 0 rfl
  have hl2 := lt_heap hbox2
  rw [HLENS.out] at hrow2
  have hc := compact_row hrow2
  have HROW2 := Lib.hid hrow2
  clear hg2 h0 hl hbox2 hrow2
  have HB2 := Lib.hid hb2
  have HC := Lib.hid hc
  clear hb2 hc
  go_wp2_with fail
  (with_reducible refine HC.out.mono ?_)
  rintro e w3 ⟨v3, rfl, hrow3, hg3⟩
  have hb3 := HB2.out.trans (below_of_grownBy hg3 (own_ge HROW2.out) HB2.out.size)
  rw [EFIN.out] at hrow3
  clear h20 hl2 hg3
  have HB3 := Lib.hid hb3
  have HROW3 := Lib.hid hrow3
  clear hb3 hrow3
  go_wp2_with fail
  refine bodyPost_ret (v := v3) (by simp [results, Tryd.results78, go_sem]) rfl ?_
  exact ⟨v3, rfl, HROW3.out, HB3.out⟩
end

section
open Go Go.RowKit
set_option linter.unusedSimpArgs false
set_option linter.unusedVariables false
theorem consts_len9 (t : Fm) : (fmConsts t).length ≤ (fmFrees [] t).length := by
  unfold fmConsts constsB
  rw [List.length_map]
  refine Nat.le_trans (compact_len _) ?_
  unfold sortS
  rw [List.length_mergeSort, List.length_map]
  exact Nat.le_refl _
/-- Does the model have each constant? -/
def allC (m : Md) (l : List ByteArray) : Bool := l.all (fun c => (conV m c).isSome)
theorem allC_take (m : Md) (l : List ByteArray) (j : Nat) (h : j < l.length) : allC m (l.take (j + 1)) = (allC m (l.take j) && (conV m l[j]).isSome) := by
  unfold allC
  rw [List.take_succ_eq_append_getElem h, List.all_append]; simp
theorem allC_false (m : Md) (l : List ByteArray) (j : Nat) (h : allC m (l.take j) = false) : allC m l = false := by
  unfold allC at h ⊢
  rw [← List.take_append_drop j l, List.all_append, h]; rfl
end

section
open Go Go.RowKit
set_option linter.unusedSimpArgs false
set_option linter.unusedVariables false
set_option maxRecDepth 1000000 in
theorem frame_ft {P : Act → Prop} (h : ∀ x0 x1 x2 x3 x4 x5 x6 x7 x8 x9 x10 x11 x12 x13 x14 x15 x16 x17 x18 x19 x20 x21 x22 x23 x24 x25 x26 x27 x28 x29 x30 x31 x32 x33 x34 x35 x36 x37 : Value, P ⟨(x0 :: x1 :: x2 :: x3 :: x4 :: x5 :: x6 :: x7 :: x8 :: x9 :: x10 :: x11 :: x12 :: x13 :: x14 :: x15 :: x16 :: x17 :: x18 :: x19 :: x20 :: x21 :: x22 :: x23 :: x24 :: x25 :: x26 :: x27 :: x28 :: x29 :: x30 :: x31 :: x32 :: x33 :: x34 :: x35 :: x36 :: x37 :: []).toArray, []⟩) : ∀ a : Act, a.tmps.toList.length = 38 → a.defers = [] → P a := by
  rintro ⟨⟨l⟩, d⟩ hs hd
  simp only at hd
  subst hd
  revert l
  show ∀ l : List Value, l.length = 38 → P ⟨⟨l⟩, []⟩
  iterate 38 refine openS (fun _ => ?_)
  refine open0 ?_
  exact h ..
noncomputable def c_ft_r0 : Code := sub [0] (Tryd.f47.body.getD .skip)
set_option maxRecDepth 1000000 in
set_option maxHeartbeats 16000000 in
theorem ft_r0_wp {Q : Exit → Act → World → Prop} {z : Int} {Am Bm : Option Addr} {nm1 cm nm2 dm : Nat} {wo : World} {kd : Int} {nm : ByteArray} {A B : Option Addr} {n1 c1 n2 c2 : Nat} (hN : ∀ a', Frm 38 [(2, .pointer (some ⟨wo.heap.size, 0, none⟩)), (3, .pointer (some ⟨(wo.heap.size + 1), 0, none⟩)), (4, .pointer (some ⟨(wo.heap.size + 1 + 1), 0, none⟩))] a' → Q .normal a' (((wo.alloc (.cells #[.int .i64 z, .slice Am nm1 cm, .slice Bm nm2 dm] 25)).alloc (.cells #[.int .i64 kd, .string nm, .slice A n1 c1, .slice B n2 c2] 29)).alloc (.cells #[.int .i64 0, .int .i64 0] 31))) : ∀ ac, Frm 38 [(0, .agg #[.int .i64 z, .slice Am nm1 cm, .slice Bm nm2 dm]), (1, .agg #[.int .i64 kd, .string nm, .slice A n1 c1, .slice B n2 c2])] ac → Code.wp Tryd.prog c_ft_r0 Q ac wo := by
  refine frm_open ?_
  refine frame_ft ?_
  intros
  rename_i hq
  obtain ⟨-, -, e0q, e1q, -⟩ := hq
  obtain rfl := sI e0q
  obtain rfl := sI e1q
  conv => arg 2; whnf
  have HN := Lib.hid hN
  clear hN
  go_wp2_with fail
  exact HN.out _ (id ⟨rfl, rfl, rfl, rfl, rfl, trivial⟩)
noncomputable def c_ft_r1 : Code := sub [1, 0, 0] (Tryd.f47.body.getD .skip)
set_option maxRecDepth 1000000 in
set_option maxHeartbeats 16000000 in
theorem ft_r1_wp {Q : Exit → Act → World → Prop} {k : Nat} {wo w : World} {kd : Int} {nm : ByteArray} {A B : Option Addr} {n1 c1 n2 c2 : Nat} (ha : w.heap[wo.heap.size + 1]? = some (.cells #[.int .i64 kd, .string nm, .slice A n1 c1, .slice B n2 c2] 29 (0, 0))) (hc : Calls Tryd.prog 77 #[.agg #[.int .i64 kd, .string nm, .slice A n1 c1, .slice B n2 c2]] w fun e w' => e = .returned (.int .i64 (k : Nat)) ∧ Below w.heap.size w w') (hN : ∀ a' w', Frm 38 [(2, .pointer (some ⟨wo.heap.size, 0, none⟩)), (3, .pointer (some ⟨(wo.heap.size + 1), 0, none⟩)), (4, .pointer (some ⟨(wo.heap.size + 1 + 1), 0, none⟩)), (12, .bool (decide (5 < k)))] a' → Below w.heap.size w w' → Q .normal a' w') : ∀ ac, Frm 38 [(2, .pointer (some ⟨wo.heap.size, 0, none⟩)), (3, .pointer (some ⟨(wo.heap.size + 1), 0, none⟩)), (4, .pointer (some ⟨(wo.heap.size + 1 + 1), 0, none⟩))] ac → Code.wp Tryd.prog c_ft_r1 Q ac w := by
  refine frm_open ?_
  refine frame_ft ?_
  intros
  rename_i hq
  obtain ⟨-, -, e0q, e1q, e2q, -⟩ := hq
  obtain rfl := sI e0q
  obtain rfl := sI e1q
  obtain rfl := sI e2q
  conv => arg 2; whnf
  have a0 := cellv ha 0 rfl
  have a1 := cellv ha 1 rfl
  have a2 := cellv ha 2 rfl
  have a3 := cellv ha 3 rfl
  have al := lt_heap ha
  clear ha
  by_cases h : 5 < k
  · have t1 : decide ((5 : Int) < (k : Int)) = true := decide_eq_true (by omega)
    rw [show decide (5 < k) = true from decide_eq_true h] at hN
    clear h
    have HN := Lib.hid hN
    have HC := Lib.hid hc
    clear hN hc
    go_wp2_with fail
    (with_reducible refine HC.out.mono ?_)
    rintro e w1 ⟨rfl, hb1⟩
    have HB1 := Lib.hid hb1
    clear hb1
    go_wp2_with fail
    exact HN.out _ _ (id ⟨rfl, rfl, rfl, rfl, rfl, rfl, trivial⟩) HB1.out
  · have t1 : decide ((5 : Int) < (k : Int)) = false := decide_eq_false (by omega)
    rw [show decide (5 < k) = false from decide_eq_false h] at hN
    clear h
    have HN := Lib.hid hN
    have HC := Lib.hid hc
    clear hN hc
    go_wp2_with fail
    (with_reducible refine HC.out.mono ?_)
    rintro e w1 ⟨rfl, hb1⟩
    have HB1 := Lib.hid hb1
    clear hb1
    go_wp2_with fail
    exact HN.out _ _ (id ⟨rfl, rfl, rfl, rfl, rfl, rfl, trivial⟩) HB1.out
noncomputable def c_ft_r2 : Code := sub [1, 0, 1, 0, 0] (Tryd.f47.body.getD .skip)
set_option maxRecDepth 1000000 in
set_option maxHeartbeats 16000000 in
theorem ft_r2_wp {Q : Exit → Act → World → Prop} {wo w : World} (hz : w.heap[wo.heap.size + 1 + 1]? = some (.cells #[.int .i64 0, .int .i64 0] 31 (0, 0))) (hN : ∀ a' w', Frm 38 [(4, .pointer (some ⟨(wo.heap.size + 1 + 1), 0, none⟩))] a' → w'.heap[wo.heap.size + 1 + 1]? = some (.cells #[.int .i64 17, .int .i64 (-2)] 31 (0, 0)) → Below wo.heap.size w w' → Q .normal a' w') : ∀ ac, Frm 38 [(2, .pointer (some ⟨wo.heap.size, 0, none⟩)), (3, .pointer (some ⟨(wo.heap.size + 1), 0, none⟩)), (4, .pointer (some ⟨(wo.heap.size + 1 + 1), 0, none⟩))] ac → Code.wp Tryd.prog c_ft_r2 Q ac w := by
  refine frm_open ?_
  refine frame_ft ?_
  intros
  rename_i hq
  obtain ⟨-, -, e0q, e1q, e2q, -⟩ := hq
  obtain rfl := sI e0q
  obtain rfl := sI e1q
  obtain rfl := sI e2q
  conv => arg 2; whnf
  have z0 := cellv hz 0 rfl
  have z1 := cellv hz 1 rfl
  have zf0 := free_heap hz 0
  have zf1 := free_heap hz 1
  have zl := lt_heap hz
  have HZ := Lib.hid hz
  clear hz
  have HN := Lib.hid hN
  clear hN
  go_wp2_with fail
  exact HN.out _ _ (id ⟨rfl, rfl, rfl, trivial⟩) (at2 HZ.out) (((Below.refl _ w).setCell (show wo.heap.size ≤ wo.heap.size + 1 + 1 by omega) _).setCell (show wo.heap.size ≤ wo.heap.size + 1 + 1 by omega) _)
noncomputable def c_ft_r3 : Code := sub [1, 1, 0, 0] (Tryd.f47.body.getD .skip)
set_option maxRecDepth 1000000 in
set_option maxHeartbeats 16000000 in
theorem ft_r3_wp {Q : Exit → Act → World → Prop} {PP : Option Addr → Nat → Nat → World → Prop} {wo w : World} {kd : Int} {nm : ByteArray} {A B : Option Addr} {n1 c1 n2 c2 : Nat} (ha : w.heap[wo.heap.size + 1]? = some (.cells #[.int .i64 kd, .string nm, .slice A n1 c1, .slice B n2 c2] 29 (0, 0))) (hc : Calls Tryd.prog 78 #[.agg #[.int .i64 kd, .string nm, .slice A n1 c1, .slice B n2 c2]] w fun e w' => ∃ Dc mc ec, e = .returned (.slice Dc mc ec) ∧ PP Dc mc ec w') (hN : ∀ Dc mc ec a' w', Frm 38 [(2, .pointer (some ⟨wo.heap.size, 0, none⟩)), (3, .pointer (some ⟨(wo.heap.size + 1), 0, none⟩)), (4, .pointer (some ⟨(wo.heap.size + 1 + 1), 0, none⟩)), (15, .slice Dc mc ec), (16, .int .i64 (mc : Nat)), (17, .int .i64 (0 : Nat))] a' → PP Dc mc ec w' → Q .normal a' w') : ∀ ac, Frm 38 [(2, .pointer (some ⟨wo.heap.size, 0, none⟩)), (3, .pointer (some ⟨(wo.heap.size + 1), 0, none⟩)), (4, .pointer (some ⟨(wo.heap.size + 1 + 1), 0, none⟩))] ac → Code.wp Tryd.prog c_ft_r3 Q ac w := by
  refine frm_open ?_
  refine frame_ft ?_
  intros
  rename_i hq
  obtain ⟨-, -, e0q, e1q, e2q, -⟩ := hq
  obtain rfl := sI e0q
  obtain rfl := sI e1q
  obtain rfl := sI e2q
  conv => arg 2; whnf
  have a0 := cellv ha 0 rfl
  have a1 := cellv ha 1 rfl
  have a2 := cellv ha 2 rfl
  have a3 := cellv ha 3 rfl
  have al := lt_heap ha
  clear ha
  have HN := Lib.hid hN
  have HC := Lib.hid hc
  clear hN hc
  go_wp2_with fail
  (with_reducible refine HC.out.mono ?_)
  rintro e w1 ⟨Dc, mc, ec, rfl, hb1⟩
  have HB1 := Lib.hid hb1
  clear hb1
  go_wp2_with fail
  exact HN.out _ _ _ _ _ (id ⟨rfl, rfl, rfl, rfl, rfl, rfl, rfl, rfl, trivial⟩) HB1.out
noncomputable def c_ft_r4 : Code := sub [1, 1, 0, 1, 0, 0, 0] (Tryd.f47.body.getD .skip)
set_option maxRecDepth 1000000 in
set_option maxHeartbeats 16000000 in
theorem ft_r4_wp {Q : Exit → Act → World → Prop} {Dc : Option Addr} {mc ec i : Nat} {wo w : World} (hN : ∀ a', Frm 38 [(2, .pointer (some ⟨wo.heap.size, 0, none⟩)), (3, .pointer (some ⟨(wo.heap.size + 1), 0, none⟩)), (4, .pointer (some ⟨(wo.heap.size + 1 + 1), 0, none⟩)), (15, .slice Dc mc ec), (16, .int .i64 (mc : Nat)), (17, .int .i64 (i : Nat)), (18, .bool (decide (i < mc)))] a' → Q .normal a' w) : ∀ ac, Frm 38 [(2, .pointer (some ⟨wo.heap.size, 0, none⟩)), (3, .pointer (some ⟨(wo.heap.size + 1), 0, none⟩)), (4, .pointer (some ⟨(wo.heap.size + 1 + 1), 0, none⟩)), (15, .slice Dc mc ec), (16, .int .i64 (mc : Nat)), (17, .int .i64 (i : Nat))] ac → Code.wp Tryd.prog c_ft_r4 Q ac w := by
  refine frm_open ?_
  refine frame_ft ?_
  intros
  rename_i hq
  obtain ⟨-, -, e0q, e1q, e2q, e3q, e4q, e5q, -⟩ := hq
  obtain rfl := sI e0q
  obtain rfl := sI e1q
  obtain rfl := sI e2q
  obtain rfl := sI e3q
  obtain rfl := sI e4q
  obtain rfl := sI e5q
  conv => arg 2; whnf
  by_cases h : i < mc
  · have t1 : decide ((i : Int) < (mc : Int)) = true := by first | exact decide_eq_true (by omega) | exact beq_iff_eq.2 (by omega) | exact bne_iff_ne.2 (by omega)
    have t2 : (decide (i < mc)) = true := decide_eq_true h
    rw [t2] at hN
    clear h
    have HN := Lib.hid hN
    clear hN
    go_wp2_with fail
    exact HN.out _ (id ⟨rfl, rfl, rfl, rfl, rfl, rfl, rfl, rfl, rfl, trivial⟩)
  · have t1 : decide ((i : Int) < (mc : Int)) = false := by first | exact decide_eq_false (by omega) | exact beq_eq_false_iff_ne.2 (by omega) | exact bne_eq_false_iff_eq.2 (by omega)
    have t2 : (decide (i < mc)) = false := decide_eq_false h
    rw [t2] at hN
    clear h
    have HN := Lib.hid hN
    clear hN
    go_wp2_with fail
    exact HN.out _ (id ⟨rfl, rfl, rfl, rfl, rfl, rfl, rfl, rfl, rfl, trivial⟩)
noncomputable def c_ft_r5 : Code := sub [1, 1, 0, 1, 0, 0, 1, 1, 0, 0, 0] (Tryd.f47.body.getD .skip)
set_option maxRecDepth 1000000 in
set_option maxHeartbeats 16000000 in
theorem ft_r5_wp {Q : Exit → Act → World → Prop} {b o : Nat} {s : ByteArray} {mc ec i : Nat} {wo w : World} (hi : i < mc) (hc : w.cell? ⟨b, o + i, none⟩ = some (.string s)) (hbl : b < w.heap.size) (hN : ∀ a', Frm 38 [(2, .pointer (some ⟨wo.heap.size, 0, none⟩)), (3, .pointer (some ⟨(wo.heap.size + 1), 0, none⟩)), (4, .pointer (some ⟨(wo.heap.size + 1 + 1), 0, none⟩)), (15, .slice (some ⟨b, o, none⟩) mc ec), (16, .int .i64 (mc : Nat)), (17, .int .i64 (i : Nat)), (6, .string s)] a' → Q .normal a' w) : ∀ ac, Frm 38 [(2, .pointer (some ⟨wo.heap.size, 0, none⟩)), (3, .pointer (some ⟨(wo.heap.size + 1), 0, none⟩)), (4, .pointer (some ⟨(wo.heap.size + 1 + 1), 0, none⟩)), (15, .slice (some ⟨b, o, none⟩) mc ec), (16, .int .i64 (mc : Nat)), (17, .int .i64 (i : Nat))] ac → Code.wp Tryd.prog c_ft_r5 Q ac w := by
  refine frm_open ?_
  refine frame_ft ?_
  intros
  rename_i hq
  obtain ⟨-, -, e0q, e1q, e2q, e3q, e4q, e5q, -⟩ := hq
  obtain rfl := sI e0q
  obtain rfl := sI e1q
  obtain rfl := sI e2q
  obtain rfl := sI e3q
  obtain rfl := sI e4q
  obtain rfl := sI e5q
  conv => arg 2; whnf
  have q0 : (0 : Int) ≤ (i : Int) := by omega
  have q1 : (i : Int) < (mc : Int) := by omega
  have HN := Lib.hid hN
  clear hN
  go_wp2_with fail
  exact HN.out _ (id ⟨rfl, rfl, rfl, rfl, rfl, rfl, rfl, rfl, rfl, trivial⟩)
noncomputable def c_ft_r6 : Code := sub [1, 1, 0, 1, 0, 0, 1, 1, 0, 0, 1, 0] (Tryd.f47.body.getD .skip)
set_option maxRecDepth 1000000 in
set_option maxHeartbeats 16000000 in
theorem ft_r6_wp {Q : Exit → Act → World → Prop} {bb : Bool} {v : Int} {s : ByteArray} {z : Int} {Am Bm : Option Addr} {nm1 cm nm2 dm : Nat} {Dc : Option Addr} {mc ec i : Nat} {wo w : World} (hgm : w.heap[wo.heap.size]? = some (.cells #[.int .i64 z, .slice Am nm1 cm, .slice Bm nm2 dm] 25 (0, 0))) (hc : Calls Tryd.prog 79 #[.agg #[.int .i64 z, .slice Am nm1 cm, .slice Bm nm2 dm], .string s] w fun e w' => e = .returned (.tuple #[.int .i64 v, .bool bb]) ∧ Below w.heap.size w w') (hN : ∀ a' w', Frm 38 [(2, .pointer (some ⟨wo.heap.size, 0, none⟩)), (3, .pointer (some ⟨(wo.heap.size + 1), 0, none⟩)), (4, .pointer (some ⟨(wo.heap.size + 1 + 1), 0, none⟩)), (15, .slice Dc mc ec), (16, .int .i64 (mc : Nat)), (17, .int .i64 (i : Nat)), (8, .bool bb)] a' → Below w.heap.size w w' → Q .normal a' w') : ∀ ac, Frm 38 [(2, .pointer (some ⟨wo.heap.size, 0, none⟩)), (3, .pointer (some ⟨(wo.heap.size + 1), 0, none⟩)), (4, .pointer (some ⟨(wo.heap.size + 1 + 1), 0, none⟩)), (15, .slice Dc mc ec), (16, .int .i64 (mc : Nat)), (17, .int .i64 (i : Nat)), (6, .string s)] ac → Code.wp Tryd.prog c_ft_r6 Q ac w := by
  refine frm_open ?_
  refine frame_ft ?_
  intros
  rename_i hq
  obtain ⟨-, -, e0q, e1q, e2q, e3q, e4q, e5q, e6q, -⟩ := hq
  obtain rfl := sI e0q
  obtain rfl := sI e1q
  obtain rfl := sI e2q
  obtain rfl := sI e3q
  obtain rfl := sI e4q
  obtain rfl := sI e5q
  obtain rfl := sI e6q
  conv => arg 2; whnf
  have m0 := cellv hgm 0 rfl
  have m1 := cellv hgm 1 rfl
  have m2 := cellv hgm 2 rfl
  have ml := lt_heap hgm
  clear hgm
  have HN := Lib.hid hN
  have HC := Lib.hid hc
  clear hN hc
  go_wp2_with fail
  (with_reducible refine HC.out.mono ?_)
  rintro e w1 ⟨rfl, hb1⟩
  have HB1 := Lib.hid hb1
  clear hb1
  go_wp2_with fail
  exact HN.out _ _ (id ⟨rfl, rfl, rfl, rfl, rfl, rfl, rfl, rfl, rfl, trivial⟩) HB1.out
noncomputable def c_ft_r7 : Code := sub [1, 1, 0, 1, 0, 0, 1, 1, 0, 0, 1, 1, 0] (Tryd.f47.body.getD .skip)
set_option maxRecDepth 1000000 in
set_option maxHeartbeats 16000000 in
theorem ft_r7_wp {Q : Exit → Act → World → Prop} {bb : Bool} {Dc : Option Addr} {mc ec i : Nat} {wo w : World} (hN : ∀ a', Frm 38 [(2, .pointer (some ⟨wo.heap.size, 0, none⟩)), (3, .pointer (some ⟨(wo.heap.size + 1), 0, none⟩)), (4, .pointer (some ⟨(wo.heap.size + 1 + 1), 0, none⟩)), (15, .slice Dc mc ec), (16, .int .i64 (mc : Nat)), (17, .int .i64 (i : Nat)), (28, .bool (!bb))] a' → Q .normal a' w) : ∀ ac, Frm 38 [(2, .pointer (some ⟨wo.heap.size, 0, none⟩)), (3, .pointer (some ⟨(wo.heap.size + 1), 0, none⟩)), (4, .pointer (some ⟨(wo.heap.size + 1 + 1), 0, none⟩)), (15, .slice Dc mc ec), (16, .int .i64 (mc : Nat)), (17, .int .i64 (i : Nat)), (8, .bool bb)] ac → Code.wp Tryd.prog c_ft_r7 Q ac w := by
  refine frm_open ?_
  refine frame_ft ?_
  intros
  rename_i hq
  obtain ⟨-, -, e0q, e1q, e2q, e3q, e4q, e5q, e6q, -⟩ := hq
  obtain rfl := sI e0q
  obtain rfl := sI e1q
  obtain rfl := sI e2q
  obtain rfl := sI e3q
  obtain rfl := sI e4q
  obtain rfl := sI e5q
  obtain rfl := sI e6q
  conv => arg 2; whnf
  have HN := Lib.hid hN
  clear hN
  go_wp2_with fail
  exact HN.out _ (id ⟨rfl, rfl, rfl, rfl, rfl, rfl, rfl, rfl, rfl, trivial⟩)
noncomputable def c_ft_r8 : Code := sub [1, 1, 0, 1, 0, 0, 1, 1, 0, 0, 1, 1, 1, 0, 0] (Tryd.f47.body.getD .skip)
set_option maxRecDepth 1000000 in
set_option maxHeartbeats 16000000 in
theorem ft_r8_wp {Q : Exit → Act → World → Prop} {wo w : World} (hz : w.heap[wo.heap.size + 1 + 1]? = some (.cells #[.int .i64 0, .int .i64 0] 31 (0, 0))) (hN : ∀ a' w', Frm 38 [(4, .pointer (some ⟨(wo.heap.size + 1 + 1), 0, none⟩))] a' → w'.heap[wo.heap.size + 1 + 1]? = some (.cells #[.int .i64 6, .int .i64 (-2)] 31 (0, 0)) → Below wo.heap.size w w' → Q .normal a' w') : ∀ ac, Frm 38 [(2, .pointer (some ⟨wo.heap.size, 0, none⟩)), (3, .pointer (some ⟨(wo.heap.size + 1), 0, none⟩)), (4, .pointer (some ⟨(wo.heap.size + 1 + 1), 0, none⟩))] ac → Code.wp Tryd.prog c_ft_r8 Q ac w := by
  refine frm_open ?_
  refine frame_ft ?_
  intros
  rename_i hq
  obtain ⟨-, -, e0q, e1q, e2q, -⟩ := hq
  obtain rfl := sI e0q
  obtain rfl := sI e1q
  obtain rfl := sI e2q
  conv => arg 2; whnf
  have z0 := cellv hz 0 rfl
  have z1 := cellv hz 1 rfl
  have zf0 := free_heap hz 0
  have zf1 := free_heap hz 1
  have zl := lt_heap hz
  have HZ := Lib.hid hz
  clear hz
  have HN := Lib.hid hN
  clear hN
  go_wp2_with fail
  exact HN.out _ _ (id ⟨rfl, rfl, rfl, trivial⟩) (at2 HZ.out) (((Below.refl _ w).setCell (show wo.heap.size ≤ wo.heap.size + 1 + 1 by omega) _).setCell (show wo.heap.size ≤ wo.heap.size + 1 + 1 by omega) _)
noncomputable def c_ft_r9 : Code := sub [1, 1, 0, 1, 0, 0, 1, 1, 1] (Tryd.f47.body.getD .skip)
set_option maxRecDepth 1000000 in
set_option maxHeartbeats 16000000 in
theorem ft_r9_wp {Q : Exit → Act → World → Prop} {Dc : Option Addr} {mc ec i : Nat} {wo w : World} (hi : i < mc) (hlim : mc ≤ maxLen) (hN : ∀ a', Frm 38 [(2, .pointer (some ⟨wo.heap.size, 0, none⟩)), (3, .pointer (some ⟨(wo.heap.size + 1), 0, none⟩)), (4, .pointer (some ⟨(wo.heap.size + 1 + 1), 0, none⟩)), (15, .slice Dc mc ec), (16, .int .i64 (mc : Nat)), (17, .int .i64 (i + 1 : Nat))] a' → Q .normal a' w) : ∀ ac, Frm 38 [(2, .pointer (some ⟨wo.heap.size, 0, none⟩)), (3, .pointer (some ⟨(wo.heap.size + 1), 0, none⟩)), (4, .pointer (some ⟨(wo.heap.size + 1 + 1), 0, none⟩)), (15, .slice Dc mc ec), (16, .int .i64 (mc : Nat)), (17, .int .i64 (i : Nat))] ac → Code.wp Tryd.prog c_ft_r9 Q ac w := by
  refine frm_open ?_
  refine frame_ft ?_
  intros
  rename_i hq
  obtain ⟨-, -, e0q, e1q, e2q, e3q, e4q, e5q, -⟩ := hq
  obtain rfl := sI e0q
  obtain rfl := sI e1q
  obtain rfl := sI e2q
  obtain rfl := sI e3q
  obtain rfl := sI e4q
  obtain rfl := sI e5q
  conv => arg 2; whnf
  have hi4 : (i : Int) ≤ 9223372036854775806 := by unfold maxLen at hlim; omega
  have HN := Lib.hid hN
  clear hN
  go_wp2_with fail
  exact HN.out _ (id ⟨rfl, rfl, rfl, rfl, rfl, rfl, rfl, rfl, trivial⟩)
noncomputable def c_ft_r10 : Code := sub [1, 1, 1, 0] (Tryd.f47.body.getD .skip)
set_option maxRecDepth 1000000 in
set_option maxHeartbeats 16000000 in
theorem ft_r10_wp {Q : Exit → Act → World → Prop} {wo w : World} (hN : ∀ z a' w', Frm 38 [(2, .pointer (some ⟨wo.heap.size, 0, none⟩)), (3, .pointer (some ⟨(wo.heap.size + 1), 0, none⟩)), (4, .pointer (some ⟨(wo.heap.size + 1 + 1), 0, none⟩)), (9, .pointer (some ⟨w.heap.size, 0, none⟩))] a' → w'.heap[w.heap.size]? = some (.cells #[z] 53 (0, 0)) → Below w.heap.size w w' → Q .normal a' w') : ∀ ac, Frm 38 [(2, .pointer (some ⟨wo.heap.size, 0, none⟩)), (3, .pointer (some ⟨(wo.heap.size + 1), 0, none⟩)), (4, .pointer (some ⟨(wo.heap.size + 1 + 1), 0, none⟩))] ac → Code.wp Tryd.prog c_ft_r10 Q ac w := by
  refine frm_open ?_
  refine frame_ft ?_
  intros
  rename_i hq
  obtain ⟨-, -, e0q, e1q, e2q, -⟩ := hq
  obtain rfl := sI e0q
  obtain rfl := sI e1q
  obtain rfl := sI e2q
  conv => arg 2; whnf
  have HN := Lib.hid hN
  clear hN
  go_wp2_with fail
  exact HN.out _ _ _ (id ⟨rfl, rfl, rfl, rfl, rfl, rfl, trivial⟩) (heap_alloc_new _ _) ((Below.refl _ w).alloc (Nat.le_refl _) _)
noncomputable def c_ft_r11 : Code := sub [1, 1, 1, 1, 0] (Tryd.f47.body.getD .skip)
set_option maxRecDepth 1000000 in
set_option maxHeartbeats 16000000 in
theorem ft_r11_wp {Q : Exit → Act → World → Prop} {gw : Nat} {z : Value} {wo w : World} (hw : w.heap[gw]? = some (.cells #[z] 53 (0, 0))) (hN : ∀ a' w', Frm 38 [(2, .pointer (some ⟨wo.heap.size, 0, none⟩)), (3, .pointer (some ⟨(wo.heap.size + 1), 0, none⟩)), (4, .pointer (some ⟨(wo.heap.size + 1 + 1), 0, none⟩)), (9, .pointer (some ⟨gw, 0, none⟩))] a' → w'.heap[gw]? = some (.cells #[.func (Fn.func 80) #[] #[.pointer (some ⟨wo.heap.size, 0, none⟩), .pointer (some ⟨gw, 0, none⟩)]] 53 (0, 0)) → Keeps (· = gw) w w' → Q .normal a' w') : ∀ ac, Frm 38 [(2, .pointer (some ⟨wo.heap.size, 0, none⟩)), (3, .pointer (some ⟨(wo.heap.size + 1), 0, none⟩)), (4, .pointer (some ⟨(wo.heap.size + 1 + 1), 0, none⟩)), (9, .pointer (some ⟨gw, 0, none⟩))] ac → Code.wp Tryd.prog c_ft_r11 Q ac w := by
  refine frm_open ?_
  refine frame_ft ?_
  intros
  rename_i hq
  obtain ⟨-, -, e0q, e1q, e2q, e3q, -⟩ := hq
  obtain rfl := sI e0q
  obtain rfl := sI e1q
  obtain rfl := sI e2q
  obtain rfl := sI e3q
  conv => arg 2; whnf
  have z0 := cellv hw 0 rfl
  have zf0 := free_heap hw 0
  have zl := lt_heap hw
  have HW := Lib.hid hw
  clear hw
  have HN := Lib.hid hN
  clear hN
  go_wp2_with fail
  exact HN.out _ _ (id ⟨rfl, rfl, rfl, rfl, rfl, rfl, trivial⟩) (heap_set HW.out 0 _) (Keeps.set (P := (· = gw)) (Keeps.refl _ w) (Or.inl rfl) 0 _)
noncomputable def c_ft_r12 : Code := sub [1, 1, 1, 1, 1, 0, 0] (Tryd.f47.body.getD .skip)
set_option maxRecDepth 1000000 in
set_option maxHeartbeats 16000000 in
theorem ft_r12_wp {Q : Exit → Act → World → Prop} {bb : Bool} {gw : Nat} {wo w : World} {kd : Int} {nm : ByteArray} {A B : Option Addr} {n1 c1 n2 c2 : Nat} (ha : w.heap[wo.heap.size + 1]? = some (.cells #[.int .i64 kd, .string nm, .slice A n1 c1, .slice B n2 c2] 29 (0, 0))) (hgw : w.heap[gw]? = some (.cells #[.func (Fn.func 80) #[] #[.pointer (some ⟨wo.heap.size, 0, none⟩), .pointer (some ⟨gw, 0, none⟩)]] 53 (0, 0))) (hc : Calls Tryd.prog 80 #[.agg #[.int .i64 kd, .string nm, .slice A n1 c1, .slice B n2 c2], .pointer (some ⟨wo.heap.size, 0, none⟩), .pointer (some ⟨gw, 0, none⟩)] w fun e w' => e = .returned (.bool bb) ∧ Below w.heap.size w w') (hN : ∀ a' w', Frm 38 [(2, .pointer (some ⟨wo.heap.size, 0, none⟩)), (3, .pointer (some ⟨(wo.heap.size + 1), 0, none⟩)), (4, .pointer (some ⟨(wo.heap.size + 1 + 1), 0, none⟩)), (35, .bool (!bb))] a' → Below w.heap.size w w' → Q .normal a' w') : ∀ ac, Frm 38 [(2, .pointer (some ⟨wo.heap.size, 0, none⟩)), (3, .pointer (some ⟨(wo.heap.size + 1), 0, none⟩)), (4, .pointer (some ⟨(wo.heap.size + 1 + 1), 0, none⟩)), (9, .pointer (some ⟨gw, 0, none⟩))] ac → Code.wp Tryd.prog c_ft_r12 Q ac w := by
  refine frm_open ?_
  refine frame_ft ?_
  intros
  rename_i hq
  obtain ⟨-, -, e0q, e1q, e2q, e3q, -⟩ := hq
  obtain rfl := sI e0q
  obtain rfl := sI e1q
  obtain rfl := sI e2q
  obtain rfl := sI e3q
  conv => arg 2; whnf
  have a0 := cellv ha 0 rfl
  have a1 := cellv ha 1 rfl
  have a2 := cellv ha 2 rfl
  have a3 := cellv ha 3 rfl
  have al := lt_heap ha
  clear ha
  have f0 := cellv hgw 0 rfl
  have fl := lt_heap hgw
  clear hgw
  have HN := Lib.hid hN
  have HC := Lib.hid hc
  clear hN hc
  go_wp2_with fail
  (with_reducible refine HC.out.mono ?_)
  rintro e w1 ⟨rfl, hb1⟩
  have HB1 := Lib.hid hb1
  clear hb1
  go_wp2_with fail
  exact HN.out _ _ (id ⟨rfl, rfl, rfl, rfl, rfl, rfl, trivial⟩) HB1.out
noncomputable def c_ft_r13 : Code := sub [1, 1, 1, 1, 1, 0, 1, 0, 0] (Tryd.f47.body.getD .skip)
set_option maxRecDepth 1000000 in
set_option maxHeartbeats 16000000 in
theorem ft_r13_wp {Q : Exit → Act → World → Prop} {wo w : World} (hz : w.heap[wo.heap.size + 1 + 1]? = some (.cells #[.int .i64 0, .int .i64 0] 31 (0, 0))) (hN : ∀ a' w', Frm 38 [(4, .pointer (some ⟨(wo.heap.size + 1 + 1), 0, none⟩))] a' → w'.heap[wo.heap.size + 1 + 1]? = some (.cells #[.int .i64 6, .int .i64 (-2)] 31 (0, 0)) → Below wo.heap.size w w' → Q .normal a' w') : ∀ ac, Frm 38 [(2, .pointer (some ⟨wo.heap.size, 0, none⟩)), (3, .pointer (some ⟨(wo.heap.size + 1), 0, none⟩)), (4, .pointer (some ⟨(wo.heap.size + 1 + 1), 0, none⟩))] ac → Code.wp Tryd.prog c_ft_r13 Q ac w := by
  refine frm_open ?_
  refine frame_ft ?_
  intros
  rename_i hq
  obtain ⟨-, -, e0q, e1q, e2q, -⟩ := hq
  obtain rfl := sI e0q
  obtain rfl := sI e1q
  obtain rfl := sI e2q
  conv => arg 2; whnf
  have z0 := cellv hz 0 rfl
  have z1 := cellv hz 1 rfl
  have zf0 := free_heap hz 0
  have zf1 := free_heap hz 1
  have zl := lt_heap hz
  have HZ := Lib.hid hz
  clear hz
  have HN := Lib.hid hN
  clear hN
  go_wp2_with fail
  exact HN.out _ _ (id ⟨rfl, rfl, rfl, trivial⟩) (at2 HZ.out) (((Below.refl _ w).setCell (show wo.heap.size ≤ wo.heap.size + 1 + 1 by omega) _).setCell (show wo.heap.size ≤ wo.heap.size + 1 + 1 by omega) _)
noncomputable def c_ft_r14 : Code := sub [1, 1, 1, 1, 1, 1, 0] (Tryd.f47.body.getD .skip)
set_option maxRecDepth 1000000 in
set_option maxHeartbeats 16000000 in
theorem ft_r14_wp {Q : Exit → Act → World → Prop} {wo w : World} (hz : w.heap[wo.heap.size + 1 + 1]? = some (.cells #[.int .i64 0, .int .i64 0] 31 (0, 0))) (hN : ∀ a' w', Frm 38 [(4, .pointer (some ⟨(wo.heap.size + 1 + 1), 0, none⟩))] a' → w'.heap[wo.heap.size + 1 + 1]? = some (.cells #[.int .i64 0, .int .i64 0] 31 (0, 0)) → Below wo.heap.size w w' → Q .normal a' w') : ∀ ac, Frm 38 [(2, .pointer (some ⟨wo.heap.size, 0, none⟩)), (3, .pointer (some ⟨(wo.heap.size + 1), 0, none⟩)), (4, .pointer (some ⟨(wo.heap.size + 1 + 1), 0, none⟩))] ac → Code.wp Tryd.prog c_ft_r14 Q ac w := by
  refine frm_open ?_
  refine frame_ft ?_
  intros
  rename_i hq
  obtain ⟨-, -, e0q, e1q, e2q, -⟩ := hq
  obtain rfl := sI e0q
  obtain rfl := sI e1q
  obtain rfl := sI e2q
  conv => arg 2; whnf
  have z0 := cellv hz 0 rfl
  have z1 := cellv hz 1 rfl
  have zf0 := free_heap hz 0
  have zf1 := free_heap hz 1
  have zl := lt_heap hz
  have HZ := Lib.hid hz
  clear hz
  have HN := Lib.hid hN
  clear hN
  go_wp2_with fail
  exact HN.out _ _ (id ⟨rfl, rfl, rfl, trivial⟩) (at2 HZ.out) (((Below.refl _ w).setCell (show wo.heap.size ≤ wo.heap.size + 1 + 1 by omega) _).setCell (show wo.heap.size ≤ wo.heap.size + 1 + 1 by omega) _)
set_option maxRecDepth 1000000 in
theorem ft_ret_wp {R : Ending → World → Prop} {w' : World} {gz : Nat} {x y : Int} (hz : w'.heap[gz]? = some (.cells #[.int .i64 x, .int .i64 y] 31 (0, 0))) (hR : R (.returned (.agg #[.int .i64 x, .int .i64 y])) w') : ∀ ac, Frm 38 [(4, .pointer (some ⟨gz, 0, none⟩))] ac → bodyPost Tryd.prog Tryd.f47 R .ret ac w' := by
  have z0 := cellv hz 0 rfl
  have z1 := cellv hz 1 rfl
  have zl := lt_heap hz
  refine frm_open ?_
  refine frame_ft ?_
  intros
  rename_i hq
  obtain ⟨-, -, e0q, -⟩ := hq
  obtain rfl := sI e0q
  refine bodyPost_ret (v := .agg #[.int .i64 x, .int .i64 y]) (by simp [results, Tryd.results47, go_sem, z0, z1, zl]) rfl ?_
  exact hR
theorem sl_sizes9 {w : World} {S : Nat → Prop} {v : Value} {l : List ByteArray} (h : strRep.Sl w S v l) : ∀ s ∈ l, s.size ≤ maxLen := by
  intro s hs
  obtain ⟨k, hk, rfl⟩ := List.getElem_of_mem hs
  obtain ⟨A, n, c, rfl, _⟩ := id h
  obtain ⟨b, o, cs, _, _, hr, _⟩ := Rep.Sl.at_ h (List.getElem?_eq_getElem hk)
  exact hr.2
mutual
/-- The words of a formula in memory are no longer than strings are. -/
theorem frees_size9 (S : Nat → Prop) (w : World) : ∀ (t : Tree FmL) (cs : List Value) (bd : List ByteArray), fmRep.R w S t cs → ∀ s ∈ fmFrees bd t, s.size ≤ maxLen
  | .mk a l, cs, bd, h, s, hs => by
    obtain ⟨u, v, rfl, _, h1, h2⟩ := Fm.open_ h
    unfold fmFrees at hs
    rcases List.mem_append.1 hs with hs | hs
    · exact sl_sizes9 h1 s (List.mem_filter.1 hs).1
    · obtain ⟨A, n, c, rfl, hl, _, h3⟩ := h2
      cases l with
      | nil => simp [fmFreess] at hs
      | cons t l =>
        obtain ⟨b, o, xs, _, _, hx, _⟩ := h3 (by rw [← hl]; simp)
        exact freess_size9 S w (t :: l) xs _ hx s hs
theorem freess_size9 (S : Nat → Prop) (w : World) : ∀ (l : List (Tree FmL)) (xs : List Value) (bd : List ByteArray), fmRep.All w S l xs → ∀ s ∈ fmFreess bd l, s.size ≤ maxLen
  | [], _, _, _, s, hs => by simp [fmFreess] at hs
  | t :: l, xs, bd, h, s, hs => by
    obtain ⟨cs, rest, rfl, h1, h2⟩ := h
    unfold fmFreess at hs
    rcases List.mem_append.1 hs with hs | hs
    · exact frees_size9 S w t cs bd h1 s hs
    · exact freess_size9 S w l rest bd h2 s hs
end
/-- What is wrong with a model and a formula together: the code, the place. -/
def pairT (m : Md) (t : Fm) : Int × Int := if 5 < nestT t then (17, -2) else if allC m (fmConsts t) = false then (6, -2) else if hasT m t = false then (6, -2) else (0, 0)
set_option maxRecDepth 100000 in
set_option maxHeartbeats 4000000 in
/-- truth.Fault. -/
theorem fault_any (m : Md) (hg : m.good) (t : Fm) (ms cs : List Value) (w : World) (S : Nat → Prop) (ht : fmRep.R w S t cs) (hS : ∀ b, S b → b < w.heap.size) (hm : m.In w S ms) (hn : t.nodes ≤ 1000000) (hln : (fmFrees [] t).length ≤ 1000000) :
    Calls Tryd.prog 47 #[.agg ms.toArray, .agg cs.toArray] w fun e w' => e = .returned (.agg #[.int .i64 (pairT m t).1, .int .i64 (pairT m t).2]) ∧ Below w.heap.size w w' := by
  obtain ⟨A, n1, c1, B, n2, c2, rfl, _, _, _, _⟩ := Fm.shape ht
  obtain ⟨Am, cm, Bm, dm, rfl, _, _, hcs, _⟩ := Md.shape hm
  obtain ⟨kd, hkd⟩ : ∃ k, t.lab.kind = k := ⟨_, rfl⟩
  obtain ⟨nm, hnm⟩ : ∃ k, t.lab.nm = k := ⟨_, rfl⟩
  rw [hkd, hnm] at ht ⊢
  go_enter Tryd.func47, Tryd.ntmps47
  refine wp_seq ?_
  refine ft_r0_wp (fun a0 h0 => ?_) _ (id ⟨rfl, rfl, rfl, rfl, trivial⟩)
  refine gen_last (fun wx => wx.heap[w.heap.size]? = some (.cells #[.int .i64 m.sz, .slice Am m.cs.length cm, .slice Bm m.rs.length dm] 25 (0, 0)) ∧ wx.heap[w.heap.size + 1]? = some (.cells #[.int .i64 kd, .string nm, .slice A n1 c1, .slice B n2 c2] 29 (0, 0)) ∧ wx.heap[w.heap.size + 1 + 1]? = some (.cells #[.int .i64 0, .int .i64 0] 31 (0, 0)) ∧ Below w.heap.size w wx) ⟨heap_old (by simp; omega) (heap_old (by simp) (heap_alloc_new _ _)), heap_old (by simp) (by simpa using heap_alloc_new (w.alloc (.cells #[.int .i64 m.sz, .slice Am m.cs.length cm, .slice Bm m.rs.length dm] 25)) _), by simpa using heap_alloc_new ((w.alloc (.cells #[.int .i64 m.sz, .slice Am m.cs.length cm, .slice Bm m.rs.length dm] 25)).alloc (.cells #[.int .i64 kd, .string nm, .slice A n1 c1, .slice B n2 c2] 29)) _, (((Below.refl _ _).alloc (Nat.le_refl _) _).alloc (by simp) _).alloc (by simp; omega) _⟩ ?_
  rintro wy ⟨hmy, hay, hzy, hby⟩
  have hbys := hby.size
  have hzl := lt_heap hzy
  have holdy := fun k hk => hby.block k (hS k hk)
  refine wp_seq ?_
  refine wp_seq ?_
  refine ft_r1_wp hay (nest_any 1000000 t [.int .i64 kd, .string nm, .slice A n1 c1, .slice B n2 c2] wy S hn (Nat.le_refl _) (fmRep.keep ht holdy (fun _ h => h)) (fun k hk => by have := hS k hk; omega)) (fun a1 w1 h1 hb1 => ?_) a0 h0
  have hb1s := hb1.size
  by_cases hne : 5 < nestT t
  · refine wp_cond_true ((h1.eval (k := 12) (v := .bool (decide (5 < nestT t))) (by simp)).trans (by rw [decide_eq_true hne])) ?_
    refine wp_seq ?_
    refine ft_r2_wp ((hb1.block _ hzl).trans hzy) (fun a2 w2 h2 hz2 hb2 => ?_) a1 ⟨h1.1, h1.2.1, h1.2.2.1, h1.2.2.2.1, h1.2.2.2.2.1, trivial⟩
    refine wp_ret ?_
    repeat (first | refine thenR ?_ | refine inBlockR ?_)
    refine ft_ret_wp hz2 ⟨?_, ((hby.trans (hb1.mono hbys)).trans hb2)⟩ a2 h2
    rw [show pairT m t = (17, -2) from if_pos hne]
  refine wp_cond_false ((h1.eval (k := 12) (v := .bool (decide (5 < nestT t))) (by simp)).trans (by rw [decide_eq_false hne])) ?_
  refine wp_skip ?_
  show Code.wp _ _ _ a1 w1
  have hold1 : ∀ k, S k → w1.heap[k]? = w.heap[k]? := fun k hk => (hb1.block k (by have := hS k hk; omega)).trans (holdy k hk)
  have hco := (constants_any t [.int .i64 kd, .string nm, .slice A n1 c1, .slice B n2 c2] w1 S (fmRep.keep ht hold1 (fun _ h => h)) (fun k hk => by have := hS k hk; omega) hn hln).mono (R' := fun e w' => ∃ Dc mc ec, e = .returned (.slice Dc mc ec) ∧ (mc = (fmConsts t).length ∧ strRep.Sl w' (fun k => w1.heap.size ≤ k ∧ k < w'.heap.size) (.slice Dc mc ec) (fmConsts t) ∧ Below w1.heap.size w1 w')) (by
    rintro e w' ⟨v, rfl, ho, hb⟩
    have hsl := sl_of_row (S := fun k => w1.heap.size ≤ k ∧ k < w'.heap.size) ho (fun s hs => frees_size9 S w t _ [] ht s (mem_constsB.1 hs)) (by have := consts_len9 t; unfold maxLen; omega) (fun k hk => ⟨own_ge ho k hk, (ho.lt k hk).2⟩)
    obtain ⟨Dc, ec, rfl, _⟩ := hsl.shape
    exact ⟨Dc, _, ec, rfl, rfl, hsl, hb⟩)
  refine wp_seq ?_
  refine wp_seq ?_
  refine ft_r3_wp (PP := fun Dc mc ec w' => mc = (fmConsts t).length ∧ strRep.Sl w' (fun k => w1.heap.size ≤ k ∧ k < w'.heap.size) (.slice Dc mc ec) (fmConsts t) ∧ Below w1.heap.size w1 w') ((hb1.block _ (by omega)).trans hay) hco (fun Dc mc ec a2 w2 h2 hp2 => ?_) a1 ⟨h1.1, h1.2.1, h1.2.2.1, h1.2.2.2.1, h1.2.2.2.2.1, trivial⟩
  obtain ⟨rfl, hrow, hb2⟩ := hp2
  have hpair : pairT m t = if allC m (fmConsts t) = false then (6, -2) else if hasT m t = false then (6, -2) else (0, 0) := if_neg hne
  rw [hpair]
  obtain ⟨L, hL⟩ : ∃ L, fmConsts t = L := ⟨_, rfl⟩
  have hLl : L.length ≤ 1000000 := by have := consts_len9 t; rw [hL] at this; omega
  rw [hL] at h2 hrow ⊢
  have hb2s := hb2.size
  have hbw2 := hb1.trans (hb2.mono hb1s)
  refine wp_block ?_
  refine wp_loopR (fun g a' w' => ∃ i : Nat, i + g = L.length ∧ allC m (L.take i) = true ∧ Below w2.heap.size w2 w' ∧ Frm 38 [(2, .pointer (some ⟨w.heap.size, 0, none⟩)), (3, .pointer (some ⟨(w.heap.size + 1), 0, none⟩)), (4, .pointer (some ⟨(w.heap.size + 1 + 1), 0, none⟩)), (15, .slice Dc L.length ec), (16, .int .i64 (L.length : Nat)), (17, .int .i64 (i : Nat))] a') L.length ⟨0, by omega, rfl, Below.refl _ _, h2⟩ ?_
  rintro g a3 w3 ⟨i, hig, hno, hb3, h3⟩
  have hb3s := hb3.size
  have hbw3 := hbw2.trans (hb3.mono (by omega))
  have hold3 : ∀ k, S k → w3.heap[k]? = w.heap[k]? := fun k hk => (hbw3.block k (by have := hS k hk; omega)).trans (holdy k hk)
  have hS3 : ∀ k, S k → k < w3.heap.size := fun k hk => by have := hS k hk; omega
  refine wp_seq ?_
  refine ft_r4_wp (fun a4 h4 => ?_) a3 h3
  refine wp_seq ?_
  by_cases hi : i < L.length
  case neg =>
    refine wp_cond_false ((h4.eval (k := 18) (v := .bool (decide (i < L.length))) (by simp)).trans (by rw [decide_eq_false hi])) ?_
    refine wp_exit ?_
    repeat refine then_exit ?_
    refine inBlock_exit ?_
    show Code.wp _ _ _ a4 w3
    rw [List.take_of_length_le (by omega)] at hno
    rw [if_neg (by rw [hno]; exact Bool.noConfusion)]
    refine wp_seq ?_
    refine ft_r10_wp (fun z a5 w5 h5 hz5 hb5 => ?_) a4 ⟨h4.1, h4.2.1, h4.2.2.1, h4.2.2.2.1, h4.2.2.2.2.1, trivial⟩
    have hb5s := hb5.size
    refine wp_seq ?_
    refine ft_r11_wp hz5 (fun a6 w6 h6 hw6 hk6 => ?_) a5 h5
    have hk6s := hk6.size
    have hb36 : Below w3.heap.size w3 w6 := hb5.trans (hk6.below (fun k hk => Nat.le_of_eq hk.symm) hb5s)
    have hbw6 := hbw3.trans (hb36.mono (by omega))
    have hold6 : ∀ k, S k → w6.heap[k]? = w.heap[k]? := fun k hk => (hbw6.block k (by have := hS k hk; omega)).trans (holdy k hk)
    have hf1 := fault1_any m hg 1000000 t [.int .i64 kd, .string nm, .slice A n1 c1, .slice B n2 c2] w6 S hn (fmRep.keep ht hold6 (fun _ h => h)) (fun k hk => by have := hS k hk; omega) (hm.keep hold6 (fun _ h => h)) ((hbw6.block _ (by omega)).trans hmy) hw6
    refine wp_seq ?_
    refine wp_seq ?_
    refine ft_r12_wp ((hbw6.block _ (by omega)).trans hay) hw6 hf1 (fun a7 w7 h7 hb7 => ?_) a6 h6
    have hbw7 := hbw6.trans (hb7.mono (by omega))
    cases hf : hasT m t
    · rw [hf] at h7
      refine wp_cond_true ((h7.eval (k := 35) (v := .bool (!false)) (by simp)).trans (by rw [show (!false) = true from rfl])) ?_
      refine wp_seq ?_
      refine ft_r13_wp ((hbw7.block _ hzl).trans hzy) (fun a8 w8 h8 hz8 hb8 => ?_) a7 ⟨h7.1, h7.2.1, h7.2.2.1, h7.2.2.2.1, h7.2.2.2.2.1, trivial⟩
      refine wp_ret ?_
      repeat (first | refine thenR ?_ | refine inBlockR ?_)
      refine ft_ret_wp hz8 ⟨?_, ((hby.trans (hbw7.mono hbys)).trans hb8)⟩ a8 h8
      rw [if_pos rfl]
    · rw [hf] at h7
      refine wp_cond_false ((h7.eval (k := 35) (v := .bool (!true)) (by simp)).trans (by rw [show (!true) = false from rfl])) ?_
      refine wp_skip ?_
      show Code.wp _ _ _ a7 w7
      refine wp_seq ?_
      refine ft_r14_wp ((hbw7.block _ hzl).trans hzy) (fun a8 w8 h8 hz8 hb8 => ?_) a7 ⟨h7.1, h7.2.1, h7.2.2.1, h7.2.2.2.1, h7.2.2.2.2.1, trivial⟩
      refine wp_ret ?_
      repeat (first | refine thenR ?_ | refine inBlockR ?_)
      refine ft_ret_wp hz8 ⟨?_, ((hby.trans (hbw7.mono hbys)).trans hb8)⟩ a8 h8
      rw [if_neg Bool.noConfusion]
  refine wp_cond_true ((h4.eval (k := 18) (v := .bool (decide (i < L.length))) (by simp)).trans (by rw [decide_eq_true hi])) ?_
  refine wp_skip ?_
  show Code.wp _ _ _ a4 w3
  obtain ⟨b, o, cs9, rfl, hSb, hr9, hc9⟩ := Rep.Sl.at_ hrow (List.getElem?_eq_getElem hi)
  have e9 : w3.cell? ⟨b, o + i, none⟩ = some (.string L[i]) := (cell_keep (hb3.block b hSb.2) _).trans (by have := hc9 0 _ (by rw [show cs9 = [.string L[i]] from hr9.1]; rfl); simpa [strRep] using this)
  refine wp_seq ?_
  refine wp_block ?_
  refine wp_seq ?_
  refine ft_r5_wp hi e9 (by omega) (fun a5 h5 => ?_) a4 ⟨h4.1, h4.2.1, h4.2.2.1, h4.2.2.2.1, h4.2.2.2.2.1, h4.2.2.2.2.2.1, h4.2.2.2.2.2.2.1, h4.2.2.2.2.2.2.2.1, trivial⟩
  refine wp_seq ?_
  refine ft_r6_wp ((hbw3.block _ (by omega)).trans hmy) (constant_any m L[i] _ w3 S (hm.keep hold3 (fun _ h => h)) hS3 hg) (fun a6 w6 h6 hb6 => ?_) a5 h5
  have hb36 := hb3.trans (hb6.mono hb3s)
  refine wp_seq ?_
  refine ft_r7_wp (fun a7 h7 => ?_) a6 ⟨h6.1, h6.2.1, h6.2.2.1, h6.2.2.2.1, h6.2.2.2.2.1, h6.2.2.2.2.2.1, h6.2.2.2.2.2.2.1, h6.2.2.2.2.2.2.2.1, h6.2.2.2.2.2.2.2.2.1, trivial⟩
  have htk := allC_take m L i hi
  rw [hno, Bool.true_and] at htk
  cases hf : (conV m L[i]).isSome
  · rw [hf] at h7 htk
    refine wp_cond_true ((h7.eval (k := 28) (v := .bool (!false)) (by simp)).trans (by rw [show (!false) = true from rfl])) ?_
    refine wp_seq ?_
    refine ft_r8_wp (((hbw3.trans (hb6.mono (by omega))).block _ hzl).trans hzy) (fun a8 w8 h8 hz8 hb8 => ?_) a7 ⟨h7.1, h7.2.1, h7.2.2.1, h7.2.2.2.1, h7.2.2.2.2.1, trivial⟩
    refine wp_ret ?_
    repeat (first | refine thenR ?_ | refine inBlockR ?_)
    refine ft_ret_wp hz8 ⟨?_, ((hby.trans ((hbw3.trans (hb6.mono (by omega))).mono hbys)).trans hb8)⟩ a8 h8
    rw [if_pos (allC_false m L _ htk)]
  · rw [hf] at h7 htk
    refine wp_cond_false ((h7.eval (k := 28) (v := .bool (!true)) (by simp)).trans (by rw [show (!true) = false from rfl])) ?_
    refine wp_skip ?_
    show Code.wp _ _ _ a7 w6
    refine ft_r9_wp hi (by unfold maxLen; omega) (fun a9 h9 => ?_) a7 ⟨h7.1, h7.2.1, h7.2.2.1, h7.2.2.2.1, h7.2.2.2.2.1, h7.2.2.2.2.2.1, h7.2.2.2.2.2.2.1, h7.2.2.2.2.2.2.2.1, trivial⟩
    exact ⟨g - 1, by omega, i + 1, by omega, htk, hb36, h9⟩
end

section
open Go Go.RowKit
set_option linter.unusedSimpArgs false
set_option linter.unusedVariables false
set_option maxRecDepth 1000000 in
theorem frame_wv {P : Act → Prop} (h : ∀ x0 x1 x2 x3 x4 x5 x6 x7 x8 x9 x10 x11 x12 x13 x14 x15 x16 x17 x18 x19 x20 x21 x22 x23 x24 x25 x26 x27 x28 x29 x30 x31 x32 x33 : Value, P ⟨(x0 :: x1 :: x2 :: x3 :: x4 :: x5 :: x6 :: x7 :: x8 :: x9 :: x10 :: x11 :: x12 :: x13 :: x14 :: x15 :: x16 :: x17 :: x18 :: x19 :: x20 :: x21 :: x22 :: x23 :: x24 :: x25 :: x26 :: x27 :: x28 :: x29 :: x30 :: x31 :: x32 :: x33 :: []).toArray, []⟩) : ∀ a : Act, a.tmps.toList.length = 34 → a.defers = [] → P a := by
  rintro ⟨⟨l⟩, d⟩ hs hd
  simp only at hd
  subst hd
  revert l
  show ∀ l : List Value, l.length = 34 → P ⟨⟨l⟩, []⟩
  iterate 34 refine openS (fun _ => ?_)
  refine open0 ?_
  exact h ..
noncomputable def c_wv_r0 : Code := sub [0] (Tryd.f82.body.getD .skip)
set_option maxRecDepth 1000000 in
set_option maxHeartbeats 16000000 in
theorem wv_r0_wp {Q : Exit → Act → World → Prop} {x : ByteArray} {ge gm : Nat} {w : World} (hN : ∀ a', Frm 34 [(0, .string x), (1, .pointer (some ⟨ge, 0, none⟩)), (2, .pointer (some ⟨gm, 0, none⟩))] a' → Q .normal a' w) : ∀ ac, Frm 34 [(0, .string x), (1, .pointer (some ⟨ge, 0, none⟩)), (2, .pointer (some ⟨gm, 0, none⟩))] ac → Code.wp Tryd.prog c_wv_r0 Q ac w := by
  refine frm_open ?_
  refine frame_wv ?_
  intros
  rename_i hq
  obtain ⟨-, -, e0q, e1q, e2q, -⟩ := hq
  obtain rfl := sI e0q
  obtain rfl := sI e1q
  obtain rfl := sI e2q
  conv => arg 2; whnf
  have HN := Lib.hid hN
  clear hN
  go_wp2_with fail
  exact HN.out _ (id ⟨rfl, rfl, rfl, rfl, rfl, trivial⟩)
noncomputable def c_wv_r1 : Code := sub [1, 0, 0] (Tryd.f82.body.getD .skip)
set_option maxRecDepth 1000000 in
set_option maxHeartbeats 16000000 in
theorem wv_r1_wp {Q : Exit → Act → World → Prop} {De : Option Addr} {me ee : Nat} {x : ByteArray} {ge gm : Nat} {w : World} (hme : me ≤ 1000000) (hge : w.heap[ge]? = some (.cells #[.slice De me ee] 71 (0, 0))) (hN : ∀ a', Frm 34 [(0, .string x), (1, .pointer (some ⟨ge, 0, none⟩)), (2, .pointer (some ⟨gm, 0, none⟩)), (5, .int .i64 ((me : Int) - 1))] a' → Q .normal a' w) : ∀ ac, Frm 34 [(0, .string x), (1, .pointer (some ⟨ge, 0, none⟩)), (2, .pointer (some ⟨gm, 0, none⟩))] ac → Code.wp Tryd.prog c_wv_r1 Q ac w := by
  refine frm_open ?_
  refine frame_wv ?_
  intros
  rename_i hq
  obtain ⟨-, -, e0q, e1q, e2q, -⟩ := hq
  obtain rfl := sI e0q
  obtain rfl := sI e1q
  obtain rfl := sI e2q
  conv => arg 2; whnf
  have q1 : (me : Int) ≤ 1000000 := by omega
  have g0 := cellv hge 0 rfl
  have gl := lt_heap hge
  clear hge
  have HN := Lib.hid hN
  clear hN
  go_wp2_with fail
  exact HN.out _ (id ⟨rfl, rfl, rfl, rfl, rfl, rfl, trivial⟩)
noncomputable def c_wv_r2 : Code := sub [1, 0, 1, 0, 0, 0, 0] (Tryd.f82.body.getD .skip)
set_option maxRecDepth 1000000 in
set_option maxHeartbeats 16000000 in
theorem wv_r2_wp {Q : Exit → Act → World → Prop} {z : Int} {x : ByteArray} {ge gm : Nat} {w : World} (hN : ∀ a', Frm 34 [(0, .string x), (1, .pointer (some ⟨ge, 0, none⟩)), (2, .pointer (some ⟨gm, 0, none⟩)), (5, .int .i64 (z)), (12, .bool (decide (0 ≤ z)))] a' → Q .normal a' w) : ∀ ac, Frm 34 [(0, .string x), (1, .pointer (some ⟨ge, 0, none⟩)), (2, .pointer (some ⟨gm, 0, none⟩)), (5, .int .i64 (z))] ac → Code.wp Tryd.prog c_wv_r2 Q ac w := by
  refine frm_open ?_
  refine frame_wv ?_
  intros
  rename_i hq
  obtain ⟨-, -, e0q, e1q, e2q, e3q, -⟩ := hq
  obtain rfl := sI e0q
  obtain rfl := sI e1q
  obtain rfl := sI e2q
  obtain rfl := sI e3q
  conv => arg 2; whnf
  by_cases h : 0 ≤ z
  · have t1 : decide (0 ≤ z) = true := by first | exact decide_eq_true (by omega) | exact beq_iff_eq.2 (by omega) | exact bne_iff_ne.2 (by omega)
    have t2 : (decide (0 ≤ z)) = true := decide_eq_true h
    rw [t2] at hN
    clear h
    have HN := Lib.hid hN
    clear hN
    go_wp2_with fail
    exact HN.out _ (id ⟨rfl, rfl, rfl, rfl, rfl, rfl, rfl, trivial⟩)
  · have t1 : decide (0 ≤ z) = false := by first | exact decide_eq_false (by omega) | exact beq_eq_false_iff_ne.2 (by omega) | exact bne_eq_false_iff_eq.2 (by omega)
    have t2 : (decide (0 ≤ z)) = false := decide_eq_false h
    rw [t2] at hN
    clear h
    have HN := Lib.hid hN
    clear hN
    go_wp2_with fail
    exact HN.out _ (id ⟨rfl, rfl, rfl, rfl, rfl, rfl, rfl, trivial⟩)
noncomputable def c_wv_r4 : Code := sub [1, 0, 1, 0, 0, 1, 0, 0, 0] (Tryd.f82.body.getD .skip)
set_option maxRecDepth 1000000 in
set_option maxHeartbeats 16000000 in
theorem wv_r4_wp {Q : Exit → Act → World → Prop} {k b o me ee : Nat} {y : ByteArray} {x : ByteArray} {ge gm : Nat} {w : World} (hk : k < me) (hge : w.heap[ge]? = some (.cells #[.slice (some ⟨b, o, none⟩) me ee] 71 (0, 0))) (e0 : w.cell? ⟨b, o + k * 2, none⟩ = some (.string y)) (hbl : b < w.heap.size) (hN : ∀ a', Frm 34 [(0, .string x), (1, .pointer (some ⟨ge, 0, none⟩)), (2, .pointer (some ⟨gm, 0, none⟩)), (5, .int .i64 ((k : Nat))), (21, .bool (decide (y = x)))] a' → Q .normal a' w) : ∀ ac, Frm 34 [(0, .string x), (1, .pointer (some ⟨ge, 0, none⟩)), (2, .pointer (some ⟨gm, 0, none⟩)), (5, .int .i64 ((k : Nat)))] ac → Code.wp Tryd.prog c_wv_r4 Q ac w := by
  refine frm_open ?_
  refine frame_wv ?_
  intros
  rename_i hq
  obtain ⟨-, -, e0q, e1q, e2q, e3q, -⟩ := hq
  obtain rfl := sI e0q
  obtain rfl := sI e1q
  obtain rfl := sI e2q
  obtain rfl := sI e3q
  conv => arg 2; whnf
  have q0 : (0 : Int) ≤ (k : Int) := by omega
  have q1 : (k : Int) < (me : Int) := by omega
  have g0 := cellv hge 0 rfl
  have gl := lt_heap hge
  clear hge
  by_cases hy : y = x
  · have t1 : (y.toList == x.toList) = true := by rw [hy]; exact beq_self_eq_true _
    rw [decide_eq_true hy] at hN
    clear hy
    have HN := Lib.hid hN
    clear hN
    go_wp2_with fail
    exact HN.out _ (id ⟨rfl, rfl, rfl, rfl, rfl, rfl, rfl, trivial⟩)
  · have t1 : (y.toList == x.toList) = false := beq_eq_false_iff_ne.2 (fun e => hy (bytes_inj e))
    rw [decide_eq_false hy] at hN
    clear hy
    have HN := Lib.hid hN
    clear hN
    go_wp2_with fail
    exact HN.out _ (id ⟨rfl, rfl, rfl, rfl, rfl, rfl, rfl, trivial⟩)
noncomputable def c_wv_r5 : Code := sub [1, 0, 1, 0, 0, 1, 0, 0, 1, 0, 0] (Tryd.f82.body.getD .skip)
set_option maxRecDepth 1000000 in
set_option maxHeartbeats 16000000 in
theorem wv_r5_wp {Q : Exit → Act → World → Prop} {k b o me ee : Nat} {v : Int} {x : ByteArray} {ge gm : Nat} {w : World} (hk : k < me) (hge : w.heap[ge]? = some (.cells #[.slice (some ⟨b, o, none⟩) me ee] 71 (0, 0))) (e1 : w.cell? ⟨b, o + k * 2 + 1, none⟩ = some (.int .i64 v)) (hbl : b < w.heap.size) (hN : ∀ a', Frm 34 [(4, .int .i64 v)] a' → Q .normal a' w) : ∀ ac, Frm 34 [(0, .string x), (1, .pointer (some ⟨ge, 0, none⟩)), (2, .pointer (some ⟨gm, 0, none⟩)), (5, .int .i64 ((k : Nat)))] ac → Code.wp Tryd.prog c_wv_r5 Q ac w := by
  refine frm_open ?_
  refine frame_wv ?_
  intros
  rename_i hq
  obtain ⟨-, -, e0q, e1q, e2q, e3q, -⟩ := hq
  obtain rfl := sI e0q
  obtain rfl := sI e1q
  obtain rfl := sI e2q
  obtain rfl := sI e3q
  conv => arg 2; whnf
  have q0 : (0 : Int) ≤ (k : Int) := by omega
  have q1 : (k : Int) < (me : Int) := by omega
  have g0 := cellv hge 0 rfl
  have gl := lt_heap hge
  clear hge
  have HN := Lib.hid hN
  clear hN
  go_wp2_with fail
  exact HN.out _ (id ⟨rfl, rfl, rfl, trivial⟩)
noncomputable def c_wv_r3 : Code := sub [1, 0, 1, 0, 0, 1, 1] (Tryd.f82.body.getD .skip)
set_option maxRecDepth 1000000 in
set_option maxHeartbeats 16000000 in
theorem wv_r3_wp {Q : Exit → Act → World → Prop} {z : Int} {x : ByteArray} {ge gm : Nat} {w : World} (hz0 : 0 ≤ z) (hz1 : z ≤ 1000000) (hN : ∀ a', Frm 34 [(0, .string x), (1, .pointer (some ⟨ge, 0, none⟩)), (2, .pointer (some ⟨gm, 0, none⟩)), (5, .int .i64 (z - 1))] a' → Q .normal a' w) : ∀ ac, Frm 34 [(0, .string x), (1, .pointer (some ⟨ge, 0, none⟩)), (2, .pointer (some ⟨gm, 0, none⟩)), (5, .int .i64 (z))] ac → Code.wp Tryd.prog c_wv_r3 Q ac w := by
  refine frm_open ?_
  refine frame_wv ?_
  intros
  rename_i hq
  obtain ⟨-, -, e0q, e1q, e2q, e3q, -⟩ := hq
  obtain rfl := sI e0q
  obtain rfl := sI e1q
  obtain rfl := sI e2q
  obtain rfl := sI e3q
  conv => arg 2; whnf
  have q1 : z ≤ 1000000 := by omega
  have q2 : 0 ≤ z := by omega
  have HN := Lib.hid hN
  clear hN
  go_wp2_with fail
  exact HN.out _ (id ⟨rfl, rfl, rfl, rfl, rfl, rfl, trivial⟩)
noncomputable def c_wv_r6 : Code := sub [1, 1, 0] (Tryd.f82.body.getD .skip)
set_option maxRecDepth 1000000 in
set_option maxHeartbeats 16000000 in
theorem wv_r6_wp {Q : Exit → Act → World → Prop} {bb : Bool} {v : Int} {z : Int} {Am Bm : Option Addr} {nm1 cm nm2 dm : Nat} {x : ByteArray} {ge gm : Nat} {w : World} (hgm : w.heap[gm]? = some (.cells #[.int .i64 z, .slice Am nm1 cm, .slice Bm nm2 dm] 25 (0, 0))) (hc : Calls Tryd.prog 79 #[.agg #[.int .i64 z, .slice Am nm1 cm, .slice Bm nm2 dm], .string x] w fun e w' => e = .returned (.tuple #[.int .i64 v, .bool bb]) ∧ Below w.heap.size w w') (hN : ∀ a' w', Frm 34 [(6, .int .i64 v)] a' → Below w.heap.size w w' → Q .normal a' w') : ∀ ac, Frm 34 [(0, .string x), (1, .pointer (some ⟨ge, 0, none⟩)), (2, .pointer (some ⟨gm, 0, none⟩))] ac → Code.wp Tryd.prog c_wv_r6 Q ac w := by
  refine frm_open ?_
  refine frame_wv ?_
  intros
  rename_i hq
  obtain ⟨-, -, e0q, e1q, e2q, -⟩ := hq
  obtain rfl := sI e0q
  obtain rfl := sI e1q
  obtain rfl := sI e2q
  conv => arg 2; whnf
  have m0 := cellv hgm 0 rfl
  have m1 := cellv hgm 1 rfl
  have m2 := cellv hgm 2 rfl
  have ml := lt_heap hgm
  clear hgm
  have HN := Lib.hid hN
  have HC := Lib.hid hc
  clear hN hc
  go_wp2_with fail
  (with_reducible refine HC.out.mono ?_)
  rintro e w1 ⟨rfl, hb1⟩
  have HB1 := Lib.hid hb1
  clear hb1
  go_wp2_with fail
  exact HN.out _ _ (id ⟨rfl, rfl, rfl, trivial⟩) HB1.out
noncomputable def c_wv_r7 : Code := sub [1, 1, 1, 0] (Tryd.f82.body.getD .skip)
set_option maxRecDepth 1000000 in
set_option maxHeartbeats 16000000 in
theorem wv_r7_wp {Q : Exit → Act → World → Prop} {v : Int} {w : World} (hN : ∀ a', Frm 34 [(4, .int .i64 v)] a' → Q .normal a' w) : ∀ ac, Frm 34 [(6, .int .i64 v)] ac → Code.wp Tryd.prog c_wv_r7 Q ac w := by
  refine frm_open ?_
  refine frame_wv ?_
  intros
  rename_i hq
  obtain ⟨-, -, e0q, -⟩ := hq
  obtain rfl := sI e0q
  conv => arg 2; whnf
  have HN := Lib.hid hN
  clear hN
  go_wp2_with fail
  exact HN.out _ (id ⟨rfl, rfl, rfl, trivial⟩)
set_option maxRecDepth 1000000 in
theorem wv_ret_wp {R : Ending → World → Prop} {w' : World} {v : Int} (hR : R (.returned (.int .i64 v)) w') : ∀ ac, Frm 34 [(4, .int .i64 v)] ac → bodyPost Tryd.prog Tryd.f82 R .ret ac w' := by
  refine frm_open ?_
  refine frame_wv ?_
  intros
  rename_i hq
  obtain ⟨-, -, e0q, -⟩ := hq
  obtain rfl := sI e0q
  refine bodyPost_ret (v := .int .i64 v) (by simp [results, Tryd.results82, go_sem]) rfl ?_
  exact hR
/-- The variables' values in memory: two cells each. -/
def envRep : Rep (ByteArray × Int) where
  size := 2
  R _ _ a cs := cs = [.string a.1, .int .i64 a.2]
  pos := by omega
  len := by rintro w S a cs rfl; rfl
  one := by
    rintro w S a cs rfl u hu
    simp at hu; rcases hu with rfl | rfl <;> rfl
  keep := by rintro w w' S S' a cs h _ _; exact h
theorem env_at {w : World} {S : Nat → Prop} {A : Option Addr} {n c j : Nat} {l : List (ByteArray × Int)} (h : envRep.Sl w S (.slice A n c) l) (hj : j < l.length) : ∃ b o, A = some ⟨b, o, none⟩ ∧ S b ∧ w.cell? ⟨b, o + j * 2, none⟩ = some (.string l[j].1) ∧ w.cell? ⟨b, o + j * 2 + 1, none⟩ = some (.int .i64 l[j].2) := by
  obtain ⟨b, o, cs, hA, hSb, hx, hcell⟩ := Rep.Sl.at_ h (k := j) (a := l[j]) (by simp [hj])
  subst hx
  exact ⟨b, o, hA, hSb, hcell 0 _ rfl, hcell 1 _ rfl⟩
theorem envV_take (l : List (ByteArray × Int)) (x : ByteArray) (k : Nat) (h : k < l.length) : envV (l.take (k + 1)) x = if l[k].1 = x then some l[k].2 else envV (l.take k) x := by
  rw [List.take_succ_eq_append_getElem h]
  exact envV_snoc _ _ _ _
set_option maxRecDepth 100000 in
set_option maxHeartbeats 4000000 in
/-- A word's value. -/
theorem word_any (m : Md) (hg : m.good) (env : List (ByteArray × Int)) (x : ByteArray) (w : World) (S : Nat → Prop) {ge gm : Nat} {De : Option Addr} {me ee : Nat} {Am Bm : Option Addr} {cm dm : Nat} (he : envRep.Sl w S (.slice De me ee) env) (hel : env.length ≤ 1000) (hS : ∀ b, S b → b < w.heap.size) (hm : m.In w S [.int .i64 m.sz, .slice Am m.cs.length cm, .slice Bm m.rs.length dm]) (hge : w.heap[ge]? = some (.cells #[.slice De me ee] 71 (0, 0))) (hgm : w.heap[gm]? = some (.cells #[.int .i64 m.sz, .slice Am m.cs.length cm, .slice Bm m.rs.length dm] 25 (0, 0))) :
    Calls Tryd.prog 82 #[.string x, .pointer (some ⟨ge, 0, none⟩), .pointer (some ⟨gm, 0, none⟩)] w fun e w' => e = .returned (.int .i64 (wordV m env x)) ∧ Below w.heap.size w w' := by
  obtain ⟨_, _, _, eq, hme, _⟩ := id he
  simp only [Value.slice.injEq] at eq
  obtain ⟨rfl, rfl, rfl⟩ := eq
  have hme2 : me = env.length := by omega
  go_enter Tryd.func82, Tryd.ntmps82
  refine wp_seq ?_
  refine wv_r0_wp (fun a0 h0 => ?_) _ (id ⟨rfl, rfl, rfl, rfl, rfl, trivial⟩)
  refine wp_seq ?_
  refine wp_seq ?_
  refine wv_r1_wp (by omega) hge (fun a1 h1 => ?_) a0 h0
  refine wp_block ?_
  refine wp_loopR (fun g a' w' => ∃ i : Nat, g = i ∧ i ≤ env.length ∧ w' = w ∧ envV env x = envV (env.take i) x ∧ Frm 34 [(0, .string x), (1, .pointer (some ⟨ge, 0, none⟩)), (2, .pointer (some ⟨gm, 0, none⟩)), (5, .int .i64 ((i : Int) - 1))] a') env.length ⟨env.length, rfl, Nat.le_refl _, rfl, by rw [List.take_of_length_le (Nat.le_refl _)], by rw [← hme2]; exact h1⟩ ?_
  rintro g a2 w2 ⟨i, rfl, hil, rfl, hv, h2⟩
  refine wp_seq ?_
  refine wp_seq ?_
  refine wv_r2_wp (fun a3 h3 => ?_) a2 h2
  by_cases hz : (0 : Int) ≤ (g : Int) - 1
  case neg =>
    refine wp_cond_false ((h3.eval (k := 12) (v := .bool (decide ((0 : Int) ≤ (g : Int) - 1))) (by simp)).trans (by rw [decide_eq_false hz])) ?_
    refine wp_exit ?_
    repeat refine then_exit ?_
    refine inBlock_exit ?_
    show Code.wp _ _ _ a3 w2
    have hg0 : g = 0 := by omega
    subst hg0
    refine wp_seq ?_
    refine wv_r6_wp hgm (constant_any m x _ w2 S hm hS hg) (fun a4 w4 h4 hb4 => ?_) a3 ⟨h3.1, h3.2.1, h3.2.2.1, h3.2.2.2.1, h3.2.2.2.2.1, trivial⟩
    refine wp_seq ?_
    refine wv_r7_wp (fun a5 h5 => ?_) a4 h4
    refine wp_ret ?_
    refine wv_ret_wp ⟨?_, hb4⟩ a5 h5
    unfold wordV
    rw [hv]; rfl
  refine wp_cond_true ((h3.eval (k := 12) (v := .bool (decide ((0 : Int) ≤ (g : Int) - 1))) (by simp)).trans (by rw [decide_eq_true hz])) ?_
  refine wp_skip ?_
  show Code.wp _ _ _ a3 w2
  obtain ⟨k, rfl⟩ : ∃ k, g = k + 1 := ⟨g - 1, by omega⟩
  have hkl : k < env.length := by omega
  obtain ⟨b, o, rfl, hSb, e0, e1⟩ := env_at he hkl
  have hzk : ((k + 1 : Nat) : Int) - 1 = (k : Nat) := by omega
  rw [hzk] at h3
  refine wp_seq ?_
  refine wp_block ?_
  refine wp_seq ?_
  refine wv_r4_wp (by omega) hge e0 (hS b hSb) (fun a4 h4 => ?_) a3 ⟨h3.1, h3.2.1, h3.2.2.1, h3.2.2.2.1, h3.2.2.2.2.1, h3.2.2.2.2.2.1, trivial⟩
  have htk := envV_take env x k hkl
  by_cases hy : env[k].1 = x
  · refine wp_cond_true ((h4.eval (k := 21) (v := .bool (decide (env[k].1 = x))) (by simp)).trans (by rw [decide_eq_true hy])) ?_
    refine wp_seq ?_
    refine wv_r5_wp (by omega) hge e1 (hS b hSb) (fun a5 h5 => ?_) a4 ⟨h4.1, h4.2.1, h4.2.2.1, h4.2.2.2.1, h4.2.2.2.2.1, h4.2.2.2.2.2.1, trivial⟩
    refine wp_ret ?_
    repeat (first | refine thenR ?_ | refine inBlockR ?_)
    refine wv_ret_wp ⟨?_, Below.refl _ _⟩ a5 h5
    unfold wordV
    rw [hv, htk, if_pos hy]; rfl
  · refine wp_cond_false ((h4.eval (k := 21) (v := .bool (decide (env[k].1 = x))) (by simp)).trans (by rw [decide_eq_false hy])) ?_
    refine wp_skip ?_
    show Code.wp _ _ _ a4 w2
    refine wv_r3_wp (by omega) (by omega) (fun a5 h5 => ?_) a4 ⟨h4.1, h4.2.1, h4.2.2.1, h4.2.2.2.1, h4.2.2.2.2.1, h4.2.2.2.2.2.1, trivial⟩
    exact ⟨k, by omega, k, rfl, by omega, rfl, by rw [hv, htk, if_neg hy], h5⟩
end

section
open Go Go.RowKit
set_option linter.unusedSimpArgs false
set_option linter.unusedVariables false
theorem wp_thenF {P : Program} {c : Code} {K : Act → World → Prop} {Q : Exit → Act → World → Prop} {a : Act} {w : World} (h : Code.wp P c (Exit.then K (fun _ _ _ => False)) a w) : Code.wp P c (Exit.then K Q) a w :=
  Code.wp_mono (fun e a' w' hh => by cases e with | normal => exact hh | _ => exact hh.elim) h
theorem envVals_snoc (e : List (ByteArray × Int)) (x : ByteArray) (z : Int) : envVals (e ++ [(x, z)]) = envVals e ++ [.string x, .int .i64 z] := by
  unfold envVals
  rw [List.flatMap_append]; rfl
theorem envAll {w : World} {S : Nat → Prop} : ∀ e : List (ByteArray × Int), envRep.All w S e (envVals e)
  | [] => rfl
  | p :: e => ⟨[.string p.1, .int .i64 p.2], envVals e, rfl, rfl, envAll e⟩
theorem envAll_eq {w : World} {S : Nat → Prop} : ∀ {e : List (ByteArray × Int)} {xs : List Value}, envRep.All w S e xs → xs = envVals e
  | [], xs, h => h
  | p :: e, xs, h => by
    obtain ⟨cs, rest, rfl, h1, h2⟩ := h
    rw [envAll_eq h2]
    obtain rfl : cs = [.string p.1, .int .i64 p.2] := h1
    rfl
set_option maxRecDepth 100000 in
set_option maxHeartbeats 4000000 in
theorem value_tru (m : Md) (hg : m.good) {Am Bm : Option Addr} {cm dm : Nat} : ∀ (env : List (ByteArray × Int)) (cs : List Value) (w : World) (S : Nat → Prop) (De : Option Addr) (me ee : Nat), env.length + Fv.nodes (.tru) ≤ 1000 → fmRep.R w S (Fv.fm (.tru)) cs → envRep.Sl w S (.slice De me ee) env → (env = [] → De = none) → me ≤ ee → m.In w S [.int .i64 m.sz, .slice Am m.cs.length cm, .slice Bm m.rs.length dm] → (∀ b, S b → b < w.heap.size) → Calls Tryd.prog 48 #[.agg #[.int .i64 m.sz, .slice Am m.cs.length cm, .slice Bm m.rs.length dm], .agg cs.toArray, .slice De me ee] w fun e w' => e = .returned (.bool (evalF m (.tru) env)) ∧ Below w.heap.size w w' := by
  intro env cs w S De me ee hlen ht he he0 hme hm hS
  change fmRep.R w S (.mk ⟨1, ⟨#[]⟩, []⟩ []) cs at ht
  generalize hkd : (1 : Int) = kd at ht
  generalize hnme : (⟨#[]⟩ : ByteArray) = nm at ht
  obtain ⟨u, v9, rfl, hnm, hw, hl⟩ := Fm.open_ ht
  simp only at hw hnm
  obtain ⟨A, n1, c1, rfl, e1, hm1, _⟩ := id hw
  obtain ⟨B, n2, c2, rfl, e2, hm2, _⟩ := id hl
  go_enter Tryd.func48, Tryd.ntmps48
  refine wp_seq ?_
  refine vl_r0_wp (fun a0 h0 => ?_) _ (id ⟨rfl, rfl, rfl, rfl, rfl, trivial⟩)
  refine gen_last (fun wx => wx.heap[w.heap.size]? = some (.cells #[.int .i64 m.sz, .slice Am m.cs.length cm, .slice Bm m.rs.length dm] 25 (0, 0)) ∧ wx.heap[w.heap.size + 1]? = some (.cells #[.int .i64 kd, .string nm, .slice A n1 c1, .slice B n2 c2] 29 (0, 0)) ∧ wx.heap[w.heap.size + 1 + 1]? = some (.cells #[.slice De me ee] 71 (0, 0)) ∧ Below w.heap.size w wx) ⟨heap_old (by simp; omega) (heap_old (by simp) (heap_at rfl)), heap_old (by simp) (heap_at (by simp)), heap_at (by simp), by go_grown⟩ ?_
  rintro wy ⟨hmy, hay, hey, hby⟩
  have hbys := hby.size
  have hgyl := lt_heap hey
  have hkeep : ∀ W : World, Below wy.heap.size wy W → ∀ k, S k → W.heap[k]? = w.heap[k]? := fun W hb k hk => (hb.block k (by have := hS k hk; omega)).trans (hby.block k (hS k hk))
  have hlt : ∀ W : World, Below wy.heap.size wy W → ∀ k, S k → k < W.heap.size := fun W hb k hk => by have := hS k hk; have := hb.size; omega
  refine wp_seq ?_
  refine vl_r1_wp (fun a1 h1 => ?_) a0 h0
  refine wp_seq ?_
  refine wp_seq ?_
  refine vl_r2_wp hay (fun a2 h2 => ?_) a1 h1
  refine wp_block ?_
  refine wp_seq ?_
  refine vl_r3_wp (fun a3 h3 => ?_) a2 ⟨h2.1, h2.2.1, h2.2.2.1, h2.2.2.2.1, h2.2.2.2.2.1, h2.2.2.2.2.2.1, h2.2.2.2.2.2.2.1, trivial⟩
  have q1 : kd = 1 := by omega
  refine wp_cond_true ((h3.eval (k := 19) (v := .bool (decide (kd = 1))) (by simp)).trans (by rw [decide_eq_true q1])) ?_
  refine wp_seq ?_
  refine vl_r4_wp (fun a9 h9 => ?_) a3 ⟨h3.1, h3.2.1, h3.2.2.1, h3.2.2.2.1, h3.2.2.2.2.1, h3.2.2.2.2.2.1, trivial⟩
  refine wp_ret ?_
  repeat (first | refine thenR ?_ | refine inBlockR ?_)
  refine vl_ret_wp (bb := true) ⟨rfl, hby⟩ a9 h9
set_option maxRecDepth 100000 in
set_option maxHeartbeats 4000000 in
theorem value_neg (m : Md) (hg : m.good) {Am Bm : Option Addr} {cm dm : Nat} {f : Fv} (hok : f.ok) (hrel : hasRels m f = true) (ihf : Fv.ok f → hasRels m f = true → ∀ (env : List (ByteArray × Int)) (cs : List Value) (w : World) (S : Nat → Prop) (De : Option Addr) (me ee : Nat), env.length + Fv.nodes (f) ≤ 1000 → fmRep.R w S (Fv.fm (f)) cs → envRep.Sl w S (.slice De me ee) env → (env = [] → De = none) → me ≤ ee → m.In w S [.int .i64 m.sz, .slice Am m.cs.length cm, .slice Bm m.rs.length dm] → (∀ b, S b → b < w.heap.size) → Calls Tryd.prog 48 #[.agg #[.int .i64 m.sz, .slice Am m.cs.length cm, .slice Bm m.rs.length dm], .agg cs.toArray, .slice De me ee] w fun e w' => e = .returned (.bool (evalF m (f) env)) ∧ Below w.heap.size w w') : ∀ (env : List (ByteArray × Int)) (cs : List Value) (w : World) (S : Nat → Prop) (De : Option Addr) (me ee : Nat), env.length + Fv.nodes (.neg f) ≤ 1000 → fmRep.R w S (Fv.fm (.neg f)) cs → envRep.Sl w S (.slice De me ee) env → (env = [] → De = none) → me ≤ ee → m.In w S [.int .i64 m.sz, .slice Am m.cs.length cm, .slice Bm m.rs.length dm] → (∀ b, S b → b < w.heap.size) → Calls Tryd.prog 48 #[.agg #[.int .i64 m.sz, .slice Am m.cs.length cm, .slice Bm m.rs.length dm], .agg cs.toArray, .slice De me ee] w fun e w' => e = .returned (.bool (evalF m (.neg f) env)) ∧ Below w.heap.size w w' := by
  intro env cs w S De me ee hlen ht he he0 hme hm hS
  change fmRep.R w S (.mk ⟨4, ⟨#[]⟩, []⟩ [f.fm]) cs at ht
  generalize hkd : (4 : Int) = kd at ht
  generalize hnme : (⟨#[]⟩ : ByteArray) = nm at ht
  obtain ⟨u, v9, rfl, hnm, hw, hl⟩ := Fm.open_ ht
  simp only at hw hnm
  obtain ⟨A, n1, c1, rfl, e1, hm1, _⟩ := id hw
  obtain ⟨B, n2, c2, rfl, e2, hm2, _⟩ := id hl
  go_enter Tryd.func48, Tryd.ntmps48
  refine wp_seq ?_
  refine vl_r0_wp (fun a0 h0 => ?_) _ (id ⟨rfl, rfl, rfl, rfl, rfl, trivial⟩)
  refine gen_last (fun wx => wx.heap[w.heap.size]? = some (.cells #[.int .i64 m.sz, .slice Am m.cs.length cm, .slice Bm m.rs.length dm] 25 (0, 0)) ∧ wx.heap[w.heap.size + 1]? = some (.cells #[.int .i64 kd, .string nm, .slice A n1 c1, .slice B n2 c2] 29 (0, 0)) ∧ wx.heap[w.heap.size + 1 + 1]? = some (.cells #[.slice De me ee] 71 (0, 0)) ∧ Below w.heap.size w wx) ⟨heap_old (by simp; omega) (heap_old (by simp) (heap_at rfl)), heap_old (by simp) (heap_at (by simp)), heap_at (by simp), by go_grown⟩ ?_
  rintro wy ⟨hmy, hay, hey, hby⟩
  have hbys := hby.size
  have hgyl := lt_heap hey
  have hkeep : ∀ W : World, Below wy.heap.size wy W → ∀ k, S k → W.heap[k]? = w.heap[k]? := fun W hb k hk => (hb.block k (by have := hS k hk; omega)).trans (hby.block k (hS k hk))
  have hlt : ∀ W : World, Below wy.heap.size wy W → ∀ k, S k → k < W.heap.size := fun W hb k hk => by have := hS k hk; have := hb.size; omega
  refine wp_seq ?_
  refine vl_r1_wp (fun a1 h1 => ?_) a0 h0
  refine wp_seq ?_
  refine wp_seq ?_
  refine vl_r2_wp hay (fun a2 h2 => ?_) a1 h1
  refine wp_block ?_
  simp only [Fv.nodes] at hlen
  obtain rfl : n2 = 1 := by simpa using e2.symm
  obtain ⟨b, o, cs1, rfl, hSb, hr1, hcc1⟩ := Rep.Sl.at_ hl (k := 0) (a := f.fm) rfl
  obtain ⟨Ae, n3, c3, Be, n4, c4, rfl, _, _, _, _⟩ := Fm.shape hr1
  have hbl : b < wy.heap.size := hlt wy (Below.refl _ _) b hSb
  have e0_0 : wy.cell? ⟨b, o, none⟩ = _ := (cell_keep (hkeep wy (Below.refl _ _) b hSb) _).trans (hcc1 0 _ rfl)
  have e0_1 : wy.cell? ⟨b, o + 1, none⟩ = _ := (cell_keep (hkeep wy (Below.refl _ _) b hSb) _).trans (hcc1 1 _ rfl)
  have e0_2 : wy.cell? ⟨b, o + 2, none⟩ = _ := (cell_keep (hkeep wy (Below.refl _ _) b hSb) _).trans (hcc1 2 _ rfl)
  have e0_3 : wy.cell? ⟨b, o + 3, none⟩ = _ := (cell_keep (hkeep wy (Below.refl _ _) b hSb) _).trans (hcc1 3 _ rfl)
  have hih1 : ∀ W : World, Below wy.heap.size wy W → Calls Tryd.prog 48 #[.agg #[.int .i64 m.sz, .slice Am m.cs.length cm, .slice Bm m.rs.length dm], _, .slice De me ee] W fun e w' => e = .returned (.bool (evalF m f env)) ∧ Below wy.heap.size wy w' := fun W hb => (ihf hok hrel env _ W S _ _ _ (by omega) (fmRep.keep hr1 (hkeep W hb) (fun _ h => h)) (he.keep (hkeep W hb) (fun _ h => h)) he0 hme (hm.keep (hkeep W hb) (fun _ h => h)) (hlt W hb)).mono (fun e w' h => ⟨h.1, hb.trans (h.2.mono hb.size)⟩)
  refine wp_seq ?_
  refine vl_r3_wp (fun a3 h3 => ?_) a2 ⟨h2.1, h2.2.1, h2.2.2.1, h2.2.2.2.1, h2.2.2.2.2.1, h2.2.2.2.2.2.1, h2.2.2.2.2.2.2.1, trivial⟩
  have q1 : ¬ kd = 1 := by omega
  refine wp_cond_false ((h3.eval (k := 19) (v := .bool (decide (kd = 1))) (by simp)).trans (by rw [decide_eq_false q1])) ?_
  refine wp_seq ?_
  refine vl_r5_wp (fun a4 h4 => ?_) a3 ⟨h3.1, h3.2.1, h3.2.2.1, h3.2.2.2.1, h3.2.2.2.2.1, h3.2.2.2.2.2.1, h3.2.2.2.2.2.2.1, trivial⟩
  have q2 : ¬ kd = 2 := by omega
  refine wp_cond_false ((h4.eval (k := 21) (v := .bool (decide (kd = 2))) (by simp)).trans (by rw [decide_eq_false q2])) ?_
  refine wp_seq ?_
  refine vl_r15_wp (fun a5 h5 => ?_) a4 ⟨h4.1, h4.2.1, h4.2.2.1, h4.2.2.2.1, h4.2.2.2.2.1, h4.2.2.2.2.2.1, h4.2.2.2.2.2.2.1, trivial⟩
  have q3 : ¬ kd = 3 := by omega
  refine wp_cond_false ((h5.eval (k := 54) (v := .bool (decide (kd = 3))) (by simp)).trans (by rw [decide_eq_false q3])) ?_
  refine wp_seq ?_
  refine vl_r17_wp (fun a6 h6 => ?_) a5 ⟨h5.1, h5.2.1, h5.2.2.1, h5.2.2.2.1, h5.2.2.2.2.1, h5.2.2.2.2.2.1, h5.2.2.2.2.2.2.1, trivial⟩
  have q4 : kd = 4 := by omega
  refine wp_cond_true ((h6.eval (k := 69) (v := .bool (decide (kd = 4))) (by simp)).trans (by rw [decide_eq_true q4])) ?_
  refine wp_seq ?_
  refine wp_thenQ (vl_r18_wp hmy hay hey e0_0 e0_1 e0_2 e0_3 hbl hih1 (fun a9 w9 h9 hb9 => ?_) a6 ⟨h6.1, h6.2.1, h6.2.2.1, h6.2.2.2.1, h6.2.2.2.2.1, h6.2.2.2.2.2.1, trivial⟩)
  refine wp_ret ?_
  repeat (first | refine thenR ?_ | refine inBlockR ?_)
  refine vl_ret_wp (bb := _) ⟨rfl, hby.trans (hb9.mono hbys)⟩ a9 h9
set_option maxRecDepth 100000 in
set_option maxHeartbeats 4000000 in
theorem value_bin (m : Md) (hg : m.good) {Am Bm : Option Addr} {cm dm : Nat} {k : Nat} {f g : Fv} (hok : (Fv.bin k f g).ok) (hrel : hasRels m f = true ∧ hasRels m g = true) (ihf : Fv.ok f → hasRels m f = true → ∀ (env : List (ByteArray × Int)) (cs : List Value) (w : World) (S : Nat → Prop) (De : Option Addr) (me ee : Nat), env.length + Fv.nodes (f) ≤ 1000 → fmRep.R w S (Fv.fm (f)) cs → envRep.Sl w S (.slice De me ee) env → (env = [] → De = none) → me ≤ ee → m.In w S [.int .i64 m.sz, .slice Am m.cs.length cm, .slice Bm m.rs.length dm] → (∀ b, S b → b < w.heap.size) → Calls Tryd.prog 48 #[.agg #[.int .i64 m.sz, .slice Am m.cs.length cm, .slice Bm m.rs.length dm], .agg cs.toArray, .slice De me ee] w fun e w' => e = .returned (.bool (evalF m (f) env)) ∧ Below w.heap.size w w') (ihg : Fv.ok g → hasRels m g = true → ∀ (env : List (ByteArray × Int)) (cs : List Value) (w : World) (S : Nat → Prop) (De : Option Addr) (me ee : Nat), env.length + Fv.nodes (g) ≤ 1000 → fmRep.R w S (Fv.fm (g)) cs → envRep.Sl w S (.slice De me ee) env → (env = [] → De = none) → me ≤ ee → m.In w S [.int .i64 m.sz, .slice Am m.cs.length cm, .slice Bm m.rs.length dm] → (∀ b, S b → b < w.heap.size) → Calls Tryd.prog 48 #[.agg #[.int .i64 m.sz, .slice Am m.cs.length cm, .slice Bm m.rs.length dm], .agg cs.toArray, .slice De me ee] w fun e w' => e = .returned (.bool (evalF m (g) env)) ∧ Below w.heap.size w w') : ∀ (env : List (ByteArray × Int)) (cs : List Value) (w : World) (S : Nat → Prop) (De : Option Addr) (me ee : Nat), env.length + Fv.nodes (.bin k f g) ≤ 1000 → fmRep.R w S (Fv.fm (.bin k f g)) cs → envRep.Sl w S (.slice De me ee) env → (env = [] → De = none) → me ≤ ee → m.In w S [.int .i64 m.sz, .slice Am m.cs.length cm, .slice Bm m.rs.length dm] → (∀ b, S b → b < w.heap.size) → Calls Tryd.prog 48 #[.agg #[.int .i64 m.sz, .slice Am m.cs.length cm, .slice Bm m.rs.length dm], .agg cs.toArray, .slice De me ee] w fun e w' => e = .returned (.bool (evalF m (.bin k f g) env)) ∧ Below w.heap.size w w' := by
  intro env cs w S De me ee hlen ht he he0 hme hm hS
  change fmRep.R w S (.mk ⟨(k : Int), ⟨#[]⟩, []⟩ [f.fm, g.fm]) cs at ht
  generalize hkd : ((k : Int) : Int) = kd at ht
  generalize hnme : (⟨#[]⟩ : ByteArray) = nm at ht
  obtain ⟨u, v9, rfl, hnm, hw, hl⟩ := Fm.open_ ht
  simp only at hw hnm
  obtain ⟨A, n1, c1, rfl, e1, hm1, _⟩ := id hw
  obtain ⟨B, n2, c2, rfl, e2, hm2, _⟩ := id hl
  go_enter Tryd.func48, Tryd.ntmps48
  refine wp_seq ?_
  refine vl_r0_wp (fun a0 h0 => ?_) _ (id ⟨rfl, rfl, rfl, rfl, rfl, trivial⟩)
  refine gen_last (fun wx => wx.heap[w.heap.size]? = some (.cells #[.int .i64 m.sz, .slice Am m.cs.length cm, .slice Bm m.rs.length dm] 25 (0, 0)) ∧ wx.heap[w.heap.size + 1]? = some (.cells #[.int .i64 kd, .string nm, .slice A n1 c1, .slice B n2 c2] 29 (0, 0)) ∧ wx.heap[w.heap.size + 1 + 1]? = some (.cells #[.slice De me ee] 71 (0, 0)) ∧ Below w.heap.size w wx) ⟨heap_old (by simp; omega) (heap_old (by simp) (heap_at rfl)), heap_old (by simp) (heap_at (by simp)), heap_at (by simp), by go_grown⟩ ?_
  rintro wy ⟨hmy, hay, hey, hby⟩
  have hbys := hby.size
  have hgyl := lt_heap hey
  have hkeep : ∀ W : World, Below wy.heap.size wy W → ∀ k, S k → W.heap[k]? = w.heap[k]? := fun W hb k hk => (hb.block k (by have := hS k hk; omega)).trans (hby.block k (hS k hk))
  have hlt : ∀ W : World, Below wy.heap.size wy W → ∀ k, S k → k < W.heap.size := fun W hb k hk => by have := hS k hk; have := hb.size; omega
  refine wp_seq ?_
  refine vl_r1_wp (fun a1 h1 => ?_) a0 h0
  refine wp_seq ?_
  refine wp_seq ?_
  refine vl_r2_wp hay (fun a2 h2 => ?_) a1 h1
  refine wp_block ?_
  simp only [Fv.nodes] at hlen
  obtain rfl : n2 = 2 := by simpa using e2.symm
  obtain ⟨b, o, cs1, rfl, hSb, hr1, hcc1⟩ := Rep.Sl.at_ hl (k := 0) (a := f.fm) rfl
  obtain ⟨b', o', cs2, e9, _, hr2, hcc2⟩ := Rep.Sl.at_ hl (k := 1) (a := g.fm) rfl
  simp only [Option.some.injEq, Addr.mk.injEq] at e9
  obtain ⟨rfl, rfl, _⟩ := e9
  obtain ⟨Ae, n3, c3, Be, n4, c4, rfl, _, _, _, _⟩ := Fm.shape hr1
  obtain ⟨Af, n5, c5, Bf, n6, c6, rfl, _, _, _, _⟩ := Fm.shape hr2
  have hbl : b < wy.heap.size := hlt wy (Below.refl _ _) b hSb
  have e0_0 : wy.cell? ⟨b, o, none⟩ = _ := (cell_keep (hkeep wy (Below.refl _ _) b hSb) _).trans (hcc1 0 _ rfl)
  have e0_1 : wy.cell? ⟨b, o + 1, none⟩ = _ := (cell_keep (hkeep wy (Below.refl _ _) b hSb) _).trans (hcc1 1 _ rfl)
  have e0_2 : wy.cell? ⟨b, o + 2, none⟩ = _ := (cell_keep (hkeep wy (Below.refl _ _) b hSb) _).trans (hcc1 2 _ rfl)
  have e0_3 : wy.cell? ⟨b, o + 3, none⟩ = _ := (cell_keep (hkeep wy (Below.refl _ _) b hSb) _).trans (hcc1 3 _ rfl)
  have e1_0 : wy.cell? ⟨b, o + 4, none⟩ = _ := (cell_keep (hkeep wy (Below.refl _ _) b hSb) _).trans (hcc2 0 _ rfl)
  have e1_1 : wy.cell? ⟨b, o + 5, none⟩ = _ := (cell_keep (hkeep wy (Below.refl _ _) b hSb) _).trans (hcc2 1 _ rfl)
  have e1_2 : wy.cell? ⟨b, o + 6, none⟩ = _ := (cell_keep (hkeep wy (Below.refl _ _) b hSb) _).trans (hcc2 2 _ rfl)
  have e1_3 : wy.cell? ⟨b, o + 7, none⟩ = _ := (cell_keep (hkeep wy (Below.refl _ _) b hSb) _).trans (hcc2 3 _ rfl)
  have hih1 : ∀ W : World, Below wy.heap.size wy W → Calls Tryd.prog 48 #[.agg #[.int .i64 m.sz, .slice Am m.cs.length cm, .slice Bm m.rs.length dm], _, .slice De me ee] W fun e w' => e = .returned (.bool (evalF m f env)) ∧ Below wy.heap.size wy w' := fun W hb => (ihf hok.2.1 hrel.1 env _ W S _ _ _ (by omega) (fmRep.keep hr1 (hkeep W hb) (fun _ h => h)) (he.keep (hkeep W hb) (fun _ h => h)) he0 hme (hm.keep (hkeep W hb) (fun _ h => h)) (hlt W hb)).mono (fun e w' h => ⟨h.1, hb.trans (h.2.mono hb.size)⟩)
  have hih2 : ∀ W : World, Below wy.heap.size wy W → Calls Tryd.prog 48 #[.agg #[.int .i64 m.sz, .slice Am m.cs.length cm, .slice Bm m.rs.length dm], _, .slice De me ee] W fun e w' => e = .returned (.bool (evalF m g env)) ∧ Below wy.heap.size wy w' := fun W hb => (ihg hok.2.2 hrel.2 env _ W S _ _ _ (by omega) (fmRep.keep hr2 (hkeep W hb) (fun _ h => h)) (he.keep (hkeep W hb) (fun _ h => h)) he0 hme (hm.keep (hkeep W hb) (fun _ h => h)) (hlt W hb)).mono (fun e w' h => ⟨h.1, hb.trans (h.2.mono hb.size)⟩)
  have hk := hok.1
  rcases hk with rfl | rfl | rfl
  · refine wp_seq ?_
    refine vl_r3_wp (fun a3 h3 => ?_) a2 ⟨h2.1, h2.2.1, h2.2.2.1, h2.2.2.2.1, h2.2.2.2.2.1, h2.2.2.2.2.2.1, h2.2.2.2.2.2.2.1, trivial⟩
    have q1 : ¬ kd = 1 := by omega
    refine wp_cond_false ((h3.eval (k := 19) (v := .bool (decide (kd = 1))) (by simp)).trans (by rw [decide_eq_false q1])) ?_
    refine wp_seq ?_
    refine vl_r5_wp (fun a4 h4 => ?_) a3 ⟨h3.1, h3.2.1, h3.2.2.1, h3.2.2.2.1, h3.2.2.2.2.1, h3.2.2.2.2.2.1, h3.2.2.2.2.2.2.1, trivial⟩
    have q2 : ¬ kd = 2 := by omega
    refine wp_cond_false ((h4.eval (k := 21) (v := .bool (decide (kd = 2))) (by simp)).trans (by rw [decide_eq_false q2])) ?_
    refine wp_seq ?_
    refine vl_r15_wp (fun a5 h5 => ?_) a4 ⟨h4.1, h4.2.1, h4.2.2.1, h4.2.2.2.1, h4.2.2.2.2.1, h4.2.2.2.2.2.1, h4.2.2.2.2.2.2.1, trivial⟩
    have q3 : ¬ kd = 3 := by omega
    refine wp_cond_false ((h5.eval (k := 54) (v := .bool (decide (kd = 3))) (by simp)).trans (by rw [decide_eq_false q3])) ?_
    refine wp_seq ?_
    refine vl_r17_wp (fun a6 h6 => ?_) a5 ⟨h5.1, h5.2.1, h5.2.2.1, h5.2.2.2.1, h5.2.2.2.2.1, h5.2.2.2.2.2.1, h5.2.2.2.2.2.2.1, trivial⟩
    have q4 : ¬ kd = 4 := by omega
    refine wp_cond_false ((h6.eval (k := 69) (v := .bool (decide (kd = 4))) (by simp)).trans (by rw [decide_eq_false q4])) ?_
    refine wp_seq ?_
    refine vl_r19_wp (fun a7 h7 => ?_) a6 ⟨h6.1, h6.2.1, h6.2.2.1, h6.2.2.2.1, h6.2.2.2.2.1, h6.2.2.2.2.2.1, h6.2.2.2.2.2.2.1, trivial⟩
    have q5 : kd = 5 := by omega
    refine wp_cond_true ((h7.eval (k := 79) (v := .bool (decide (kd = 5))) (by simp)).trans (by rw [decide_eq_true q5])) ?_
    refine wp_seq ?_
    refine wp_thenQ (vl_r20_wp hmy hay hey e0_0 e0_1 e0_2 e0_3 e1_0 e1_1 e1_2 e1_3 hbl hih1 hih2 (fun a9 w9 h9 hb9 => ?_) a7 ⟨h7.1, h7.2.1, h7.2.2.1, h7.2.2.2.1, h7.2.2.2.2.1, h7.2.2.2.2.2.1, trivial⟩)
    refine wp_ret ?_
    repeat (first | refine thenR ?_ | refine inBlockR ?_)
    refine vl_ret_wp (bb := _) ⟨by simp [evalF], hby.trans (hb9.mono hbys)⟩ a9 h9
  · refine wp_seq ?_
    refine vl_r3_wp (fun a3 h3 => ?_) a2 ⟨h2.1, h2.2.1, h2.2.2.1, h2.2.2.2.1, h2.2.2.2.2.1, h2.2.2.2.2.2.1, h2.2.2.2.2.2.2.1, trivial⟩
    have q1 : ¬ kd = 1 := by omega
    refine wp_cond_false ((h3.eval (k := 19) (v := .bool (decide (kd = 1))) (by simp)).trans (by rw [decide_eq_false q1])) ?_
    refine wp_seq ?_
    refine vl_r5_wp (fun a4 h4 => ?_) a3 ⟨h3.1, h3.2.1, h3.2.2.1, h3.2.2.2.1, h3.2.2.2.2.1, h3.2.2.2.2.2.1, h3.2.2.2.2.2.2.1, trivial⟩
    have q2 : ¬ kd = 2 := by omega
    refine wp_cond_false ((h4.eval (k := 21) (v := .bool (decide (kd = 2))) (by simp)).trans (by rw [decide_eq_false q2])) ?_
    refine wp_seq ?_
    refine vl_r15_wp (fun a5 h5 => ?_) a4 ⟨h4.1, h4.2.1, h4.2.2.1, h4.2.2.2.1, h4.2.2.2.2.1, h4.2.2.2.2.2.1, h4.2.2.2.2.2.2.1, trivial⟩
    have q3 : ¬ kd = 3 := by omega
    refine wp_cond_false ((h5.eval (k := 54) (v := .bool (decide (kd = 3))) (by simp)).trans (by rw [decide_eq_false q3])) ?_
    refine wp_seq ?_
    refine vl_r17_wp (fun a6 h6 => ?_) a5 ⟨h5.1, h5.2.1, h5.2.2.1, h5.2.2.2.1, h5.2.2.2.2.1, h5.2.2.2.2.2.1, h5.2.2.2.2.2.2.1, trivial⟩
    have q4 : ¬ kd = 4 := by omega
    refine wp_cond_false ((h6.eval (k := 69) (v := .bool (decide (kd = 4))) (by simp)).trans (by rw [decide_eq_false q4])) ?_
    refine wp_seq ?_
    refine vl_r19_wp (fun a7 h7 => ?_) a6 ⟨h6.1, h6.2.1, h6.2.2.1, h6.2.2.2.1, h6.2.2.2.2.1, h6.2.2.2.2.2.1, h6.2.2.2.2.2.2.1, trivial⟩
    have q5 : ¬ kd = 5 := by omega
    refine wp_cond_false ((h7.eval (k := 79) (v := .bool (decide (kd = 5))) (by simp)).trans (by rw [decide_eq_false q5])) ?_
    refine wp_seq ?_
    refine vl_r21_wp (fun a8 h8 => ?_) a7 ⟨h7.1, h7.2.1, h7.2.2.1, h7.2.2.2.1, h7.2.2.2.2.1, h7.2.2.2.2.2.1, h7.2.2.2.2.2.2.1, trivial⟩
    have q6 : kd = 6 := by omega
    refine wp_cond_true ((h8.eval (k := 97) (v := .bool (decide (kd = 6))) (by simp)).trans (by rw [decide_eq_true q6])) ?_
    refine wp_seq ?_
    refine wp_thenQ (vl_r22_wp hmy hay hey e0_0 e0_1 e0_2 e0_3 e1_0 e1_1 e1_2 e1_3 hbl hih1 hih2 (fun a9 w9 h9 hb9 => ?_) a8 ⟨h8.1, h8.2.1, h8.2.2.1, h8.2.2.2.1, h8.2.2.2.2.1, h8.2.2.2.2.2.1, trivial⟩)
    refine wp_ret ?_
    repeat (first | refine thenR ?_ | refine inBlockR ?_)
    refine vl_ret_wp (bb := _) ⟨by simp [evalF], hby.trans (hb9.mono hbys)⟩ a9 h9
  · refine wp_seq ?_
    refine vl_r3_wp (fun a3 h3 => ?_) a2 ⟨h2.1, h2.2.1, h2.2.2.1, h2.2.2.2.1, h2.2.2.2.2.1, h2.2.2.2.2.2.1, h2.2.2.2.2.2.2.1, trivial⟩
    have q1 : ¬ kd = 1 := by omega
    refine wp_cond_false ((h3.eval (k := 19) (v := .bool (decide (kd = 1))) (by simp)).trans (by rw [decide_eq_false q1])) ?_
    refine wp_seq ?_
    refine vl_r5_wp (fun a4 h4 => ?_) a3 ⟨h3.1, h3.2.1, h3.2.2.1, h3.2.2.2.1, h3.2.2.2.2.1, h3.2.2.2.2.2.1, h3.2.2.2.2.2.2.1, trivial⟩
    have q2 : ¬ kd = 2 := by omega
    refine wp_cond_false ((h4.eval (k := 21) (v := .bool (decide (kd = 2))) (by simp)).trans (by rw [decide_eq_false q2])) ?_
    refine wp_seq ?_
    refine vl_r15_wp (fun a5 h5 => ?_) a4 ⟨h4.1, h4.2.1, h4.2.2.1, h4.2.2.2.1, h4.2.2.2.2.1, h4.2.2.2.2.2.1, h4.2.2.2.2.2.2.1, trivial⟩
    have q3 : ¬ kd = 3 := by omega
    refine wp_cond_false ((h5.eval (k := 54) (v := .bool (decide (kd = 3))) (by simp)).trans (by rw [decide_eq_false q3])) ?_
    refine wp_seq ?_
    refine vl_r17_wp (fun a6 h6 => ?_) a5 ⟨h5.1, h5.2.1, h5.2.2.1, h5.2.2.2.1, h5.2.2.2.2.1, h5.2.2.2.2.2.1, h5.2.2.2.2.2.2.1, trivial⟩
    have q4 : ¬ kd = 4 := by omega
    refine wp_cond_false ((h6.eval (k := 69) (v := .bool (decide (kd = 4))) (by simp)).trans (by rw [decide_eq_false q4])) ?_
    refine wp_seq ?_
    refine vl_r19_wp (fun a7 h7 => ?_) a6 ⟨h6.1, h6.2.1, h6.2.2.1, h6.2.2.2.1, h6.2.2.2.2.1, h6.2.2.2.2.2.1, h6.2.2.2.2.2.2.1, trivial⟩
    have q5 : ¬ kd = 5 := by omega
    refine wp_cond_false ((h7.eval (k := 79) (v := .bool (decide (kd = 5))) (by simp)).trans (by rw [decide_eq_false q5])) ?_
    refine wp_seq ?_
    refine vl_r21_wp (fun a8 h8 => ?_) a7 ⟨h7.1, h7.2.1, h7.2.2.1, h7.2.2.2.1, h7.2.2.2.2.1, h7.2.2.2.2.2.1, h7.2.2.2.2.2.2.1, trivial⟩
    have q6 : ¬ kd = 6 := by omega
    refine wp_cond_false ((h8.eval (k := 97) (v := .bool (decide (kd = 6))) (by simp)).trans (by rw [decide_eq_false q6])) ?_
    refine wp_seq ?_
    refine vl_r23_wp (fun a9 h9 => ?_) a8 ⟨h8.1, h8.2.1, h8.2.2.1, h8.2.2.2.1, h8.2.2.2.2.1, h8.2.2.2.2.2.1, h8.2.2.2.2.2.2.1, trivial⟩
    have q7 : kd = 7 := by omega
    refine wp_cond_true ((h9.eval (k := 115) (v := .bool (decide (kd = 7))) (by simp)).trans (by rw [decide_eq_true q7])) ?_
    refine wp_seq ?_
    refine wp_thenQ (vl_r24_wp hmy hay hey e0_0 e0_1 e0_2 e0_3 e1_0 e1_1 e1_2 e1_3 hbl hih1 hih2 (fun a9 w9 h9 hb9 => ?_) a9 ⟨h9.1, h9.2.1, h9.2.2.1, h9.2.2.2.1, h9.2.2.2.2.1, h9.2.2.2.2.2.1, trivial⟩)
    refine wp_ret ?_
    repeat (first | refine thenR ?_ | refine inBlockR ?_)
    refine vl_ret_wp (bb := _) ⟨by simp [evalF], hby.trans (hb9.mono hbys)⟩ a9 h9
set_option maxRecDepth 100000 in
set_option maxHeartbeats 4000000 in
theorem value_same (m : Md) (hg : m.good) {Am Bm : Option Addr} {cm dm : Nat} {x y : ByteArray} : ∀ (env : List (ByteArray × Int)) (cs : List Value) (w : World) (S : Nat → Prop) (De : Option Addr) (me ee : Nat), env.length + Fv.nodes (.same x y) ≤ 1000 → fmRep.R w S (Fv.fm (.same x y)) cs → envRep.Sl w S (.slice De me ee) env → (env = [] → De = none) → me ≤ ee → m.In w S [.int .i64 m.sz, .slice Am m.cs.length cm, .slice Bm m.rs.length dm] → (∀ b, S b → b < w.heap.size) → Calls Tryd.prog 48 #[.agg #[.int .i64 m.sz, .slice Am m.cs.length cm, .slice Bm m.rs.length dm], .agg cs.toArray, .slice De me ee] w fun e w' => e = .returned (.bool (evalF m (.same x y) env)) ∧ Below w.heap.size w w' := by
  intro env cs w S De me ee hlen ht he he0 hme hm hS
  change fmRep.R w S (.mk ⟨3, ⟨#[]⟩, [x, y]⟩ []) cs at ht
  generalize hkd : (3 : Int) = kd at ht
  generalize hnme : (⟨#[]⟩ : ByteArray) = nm at ht
  obtain ⟨u, v9, rfl, hnm, hw, hl⟩ := Fm.open_ ht
  simp only at hw hnm
  obtain ⟨A, n1, c1, rfl, e1, hm1, _⟩ := id hw
  obtain ⟨B, n2, c2, rfl, e2, hm2, _⟩ := id hl
  go_enter Tryd.func48, Tryd.ntmps48
  refine wp_seq ?_
  refine vl_r0_wp (fun a0 h0 => ?_) _ (id ⟨rfl, rfl, rfl, rfl, rfl, trivial⟩)
  refine gen_last (fun wx => wx.heap[w.heap.size]? = some (.cells #[.int .i64 m.sz, .slice Am m.cs.length cm, .slice Bm m.rs.length dm] 25 (0, 0)) ∧ wx.heap[w.heap.size + 1]? = some (.cells #[.int .i64 kd, .string nm, .slice A n1 c1, .slice B n2 c2] 29 (0, 0)) ∧ wx.heap[w.heap.size + 1 + 1]? = some (.cells #[.slice De me ee] 71 (0, 0)) ∧ Below w.heap.size w wx) ⟨heap_old (by simp; omega) (heap_old (by simp) (heap_at rfl)), heap_old (by simp) (heap_at (by simp)), heap_at (by simp), by go_grown⟩ ?_
  rintro wy ⟨hmy, hay, hey, hby⟩
  have hbys := hby.size
  have hgyl := lt_heap hey
  have hkeep : ∀ W : World, Below wy.heap.size wy W → ∀ k, S k → W.heap[k]? = w.heap[k]? := fun W hb k hk => (hb.block k (by have := hS k hk; omega)).trans (hby.block k (hS k hk))
  have hlt : ∀ W : World, Below wy.heap.size wy W → ∀ k, S k → k < W.heap.size := fun W hb k hk => by have := hS k hk; have := hb.size; omega
  refine wp_seq ?_
  refine vl_r1_wp (fun a1 h1 => ?_) a0 h0
  refine wp_seq ?_
  refine wp_seq ?_
  refine vl_r2_wp hay (fun a2 h2 => ?_) a1 h1
  refine wp_block ?_
  obtain rfl : n1 = 2 := by simpa using e1.symm
  obtain ⟨b, o, cs1, rfl, hSb, ⟨rfl, _⟩, hcc1⟩ := Rep.Sl.at_ hw (k := 0) (a := x) rfl
  obtain ⟨b', o', cs2, e9, _, ⟨rfl, _⟩, hcc2⟩ := Rep.Sl.at_ hw (k := 1) (a := y) rfl
  simp only [Option.some.injEq, Addr.mk.injEq] at e9
  obtain ⟨rfl, rfl, _⟩ := e9
  have hbl : b < wy.heap.size := hlt wy (Below.refl _ _) b hSb
  have e0_0 : wy.cell? ⟨b, o, none⟩ = _ := (cell_keep (hkeep wy (Below.refl _ _) b hSb) _).trans (hcc1 0 _ rfl)
  have e0_1 : wy.cell? ⟨b, o + 1, none⟩ = _ := (cell_keep (hkeep wy (Below.refl _ _) b hSb) _).trans (hcc2 0 _ rfl)
  have hwd : ∀ (s : ByteArray) (W : World), Below wy.heap.size wy W → Calls Tryd.prog 82 #[.string s, .pointer (some ⟨(w.heap.size + 1 + 1), 0, none⟩), .pointer (some ⟨w.heap.size, 0, none⟩)] W fun e w' => e = .returned (.int .i64 (wordV m env s)) ∧ Below wy.heap.size wy w' := fun s W hb => (word_any m hg env s W S (he.keep (hkeep W hb) (fun _ h => h)) (by omega) (hlt W hb) (hm.keep (hkeep W hb) (fun _ h => h)) ((hb.block _ (lt_heap hey)).trans hey) ((hb.block _ (lt_heap hmy)).trans hmy)).mono (fun e w' h => ⟨h.1, hb.trans (h.2.mono hb.size)⟩)
  refine wp_seq ?_
  refine vl_r3_wp (fun a3 h3 => ?_) a2 ⟨h2.1, h2.2.1, h2.2.2.1, h2.2.2.2.1, h2.2.2.2.2.1, h2.2.2.2.2.2.1, h2.2.2.2.2.2.2.1, trivial⟩
  have q1 : ¬ kd = 1 := by omega
  refine wp_cond_false ((h3.eval (k := 19) (v := .bool (decide (kd = 1))) (by simp)).trans (by rw [decide_eq_false q1])) ?_
  refine wp_seq ?_
  refine vl_r5_wp (fun a4 h4 => ?_) a3 ⟨h3.1, h3.2.1, h3.2.2.1, h3.2.2.2.1, h3.2.2.2.2.1, h3.2.2.2.2.2.1, h3.2.2.2.2.2.2.1, trivial⟩
  have q2 : ¬ kd = 2 := by omega
  refine wp_cond_false ((h4.eval (k := 21) (v := .bool (decide (kd = 2))) (by simp)).trans (by rw [decide_eq_false q2])) ?_
  refine wp_seq ?_
  refine vl_r15_wp (fun a5 h5 => ?_) a4 ⟨h4.1, h4.2.1, h4.2.2.1, h4.2.2.2.1, h4.2.2.2.2.1, h4.2.2.2.2.2.1, h4.2.2.2.2.2.2.1, trivial⟩
  have q3 : kd = 3 := by omega
  refine wp_cond_true ((h5.eval (k := 54) (v := .bool (decide (kd = 3))) (by simp)).trans (by rw [decide_eq_true q3])) ?_
  refine wp_seq ?_
  refine wp_thenQ (vl_r16_wp hay e0_0 e0_1 hbl (hwd x) (hwd y) (fun a9 w9 h9 hb9 => ?_) a5 ⟨h5.1, h5.2.1, h5.2.2.1, h5.2.2.2.1, h5.2.2.2.2.1, h5.2.2.2.2.2.1, trivial⟩)
  refine wp_ret ?_
  repeat (first | refine thenR ?_ | refine inBlockR ?_)
  refine vl_ret_wp (bb := _) ⟨rfl, hby.trans (hb9.mono hbys)⟩ a9 h9
set_option maxRecDepth 100000 in
set_option maxHeartbeats 4000000 in
theorem value_pred (m : Md) (hg : m.good) {Am Bm : Option Addr} {cm dm : Nat} {n : ByteArray} {ws : List ByteArray} (hok : (Fv.pred n ws).ok) (hrel : (relV m n ws.length).isSome = true) : ∀ (env : List (ByteArray × Int)) (cs : List Value) (w : World) (S : Nat → Prop) (De : Option Addr) (me ee : Nat), env.length + Fv.nodes (.pred n ws) ≤ 1000 → fmRep.R w S (Fv.fm (.pred n ws)) cs → envRep.Sl w S (.slice De me ee) env → (env = [] → De = none) → me ≤ ee → m.In w S [.int .i64 m.sz, .slice Am m.cs.length cm, .slice Bm m.rs.length dm] → (∀ b, S b → b < w.heap.size) → Calls Tryd.prog 48 #[.agg #[.int .i64 m.sz, .slice Am m.cs.length cm, .slice Bm m.rs.length dm], .agg cs.toArray, .slice De me ee] w fun e w' => e = .returned (.bool (evalF m (.pred n ws) env)) ∧ Below w.heap.size w w' := by
  intro env cs w S De me ee hlen ht he he0 hme hm hS
  change fmRep.R w S (.mk ⟨2, n, ws⟩ []) cs at ht
  generalize hkd : (2 : Int) = kd at ht
  generalize hnme : (n : ByteArray) = nm at ht
  obtain ⟨u, v9, rfl, hnm, hw, hl⟩ := Fm.open_ ht
  simp only at hw hnm
  obtain ⟨A, n1, c1, rfl, e1, hm1, _⟩ := id hw
  obtain ⟨B, n2, c2, rfl, e2, hm2, _⟩ := id hl
  go_enter Tryd.func48, Tryd.ntmps48
  refine wp_seq ?_
  refine vl_r0_wp (fun a0 h0 => ?_) _ (id ⟨rfl, rfl, rfl, rfl, rfl, trivial⟩)
  refine gen_last (fun wx => wx.heap[w.heap.size]? = some (.cells #[.int .i64 m.sz, .slice Am m.cs.length cm, .slice Bm m.rs.length dm] 25 (0, 0)) ∧ wx.heap[w.heap.size + 1]? = some (.cells #[.int .i64 kd, .string nm, .slice A n1 c1, .slice B n2 c2] 29 (0, 0)) ∧ wx.heap[w.heap.size + 1 + 1]? = some (.cells #[.slice De me ee] 71 (0, 0)) ∧ Below w.heap.size w wx) ⟨heap_old (by simp; omega) (heap_old (by simp) (heap_at rfl)), heap_old (by simp) (heap_at (by simp)), heap_at (by simp), by go_grown⟩ ?_
  rintro wy ⟨hmy, hay, hey, hby⟩
  have hbys := hby.size
  have hgyl := lt_heap hey
  have hkeep : ∀ W : World, Below wy.heap.size wy W → ∀ k, S k → W.heap[k]? = w.heap[k]? := fun W hb k hk => (hb.block k (by have := hS k hk; omega)).trans (hby.block k (hS k hk))
  have hlt : ∀ W : World, Below wy.heap.size wy W → ∀ k, S k → k < W.heap.size := fun W hb k hk => by have := hS k hk; have := hb.size; omega
  refine wp_seq ?_
  refine vl_r1_wp (fun a1 h1 => ?_) a0 h0
  refine wp_seq ?_
  refine wp_seq ?_
  refine vl_r2_wp hay (fun a2 h2 => ?_) a1 h1
  refine wp_block ?_
  subst hnme
  have hwl := hok.2.1
  have hn1 : n1 = ws.length := by omega
  have hrow : ∀ (s : ByteArray) (W : World) (v' : Value) (k : Nat) (xs : List Value), Below wy.heap.size wy W → W.ownsRow wy.heap.size 3 1 v' k xs → Calls Tryd.prog 82 #[.string s, .pointer (some ⟨(w.heap.size + 1 + 1), 0, none⟩), .pointer (some ⟨w.heap.size, 0, none⟩)] W fun e w' => e = .returned (.int .i64 (wordV m env s)) ∧ Below wy.heap.size W w' ∧ w'.ownsRow wy.heap.size 3 1 v' k xs ∧ wy.heap.size ≤ w'.heap.size := fun s W v' k xs hb hr => (word_any m hg env s W S (he.keep (hkeep W hb) (fun _ h => h)) (by omega) (hlt W hb) (hm.keep (hkeep W hb) (fun _ h => h)) ((hb.block _ (lt_heap hey)).trans hey) ((hb.block _ (lt_heap hmy)).trans hmy)).mono (fun e w' h => ⟨h.1, h.2.mono hb.size, own_keep hr h.2.block, by have := h.2.size; have := hb.size; omega⟩)
  refine wp_seq ?_
  refine vl_r3_wp (fun a3 h3 => ?_) a2 ⟨h2.1, h2.2.1, h2.2.2.1, h2.2.2.2.1, h2.2.2.2.2.1, h2.2.2.2.2.2.1, h2.2.2.2.2.2.2.1, trivial⟩
  have q1 : ¬ kd = 1 := by omega
  refine wp_cond_false ((h3.eval (k := 19) (v := .bool (decide (kd = 1))) (by simp)).trans (by rw [decide_eq_false q1])) ?_
  refine wp_seq ?_
  refine vl_r5_wp (fun a4 h4 => ?_) a3 ⟨h3.1, h3.2.1, h3.2.2.1, h3.2.2.2.1, h3.2.2.2.2.1, h3.2.2.2.2.2.1, h3.2.2.2.2.2.2.1, trivial⟩
  have q2 : kd = 2 := by omega
  refine wp_cond_true ((h4.eval (k := 21) (v := .bool (decide (kd = 2))) (by simp)).trans (by rw [decide_eq_true q2])) ?_
  refine wp_seq ?_
  refine vl_r6_wp (fun a9 h9 => ?_) a4 ⟨h4.1, h4.2.1, h4.2.2.1, h4.2.2.2.1, h4.2.2.2.2.1, h4.2.2.2.2.2.1, trivial⟩
  refine wp_seq ?_
  refine wp_seq ?_
  refine vl_r7_wp hay (fun a10 h10 => ?_) a9 h9
  refine wp_block ?_
  refine wp_loopR (fun g a' w' => ∃ (j : Nat) (v' : Value), j + g = ws.length ∧ w'.ownsRow wy.heap.size 3 1 v' j ((ws.take j).map (fun x => .int .i64 (wordV m env x))) ∧ Below wy.heap.size wy w' ∧ Frm 168 [(3, .pointer (some ⟨w.heap.size, 0, none⟩)), (4, .pointer (some ⟨(w.heap.size + 1), 0, none⟩)), (5, .pointer (some ⟨(w.heap.size + 1 + 1), 0, none⟩)), (7, .func (Fn.func 82) #[] #[.pointer (some ⟨(w.heap.size + 1 + 1), 0, none⟩), .pointer (some ⟨w.heap.size, 0, none⟩)]), (8, v'), (24, .slice A n1 c1), (25, .int .i64 (n1 : Nat)), (26, .int .i64 (j : Nat))] a') ws.length ⟨0, _, by omega, World.ownsRow_nil _ _ _ _, Below.refl _ _, h10⟩ ?_
  rintro g a11 w3 ⟨j, v', hjg, hr3, hb3, h11⟩
  have hb3s := hb3.size
  refine wp_seq ?_
  refine vl_r8_wp (fun a12 h12 => ?_) a11 h11
  refine wp_seq ?_
  by_cases hj : j < n1
  case neg =>
    refine wp_cond_false ((h12.eval (k := 27) (v := .bool (decide (j < n1))) (by simp)).trans (by rw [decide_eq_false hj])) ?_
    refine wp_exit ?_
    repeat refine then_exit ?_
    refine inBlock_exit ?_
    show Code.wp _ _ _ a12 w3
    have hjl : j = ws.length := by omega
    rw [List.take_of_length_le (by omega)] at hr3
    obtain ⟨ts, hts⟩ : ∃ ts, ws.map (wordV m env) = ts := ⟨_, rfl⟩
    have hr3' : w3.ownsRow wy.heap.size 3 1 v' j (ts.map (.int .i64 ·)) := by
      rw [← hts, List.map_map]; exact hr3
    have htl : ts.length = ws.length := by rw [← hts, List.length_map]
    have hjt : j = ts.length := by omega
    clear hr3 hjl
    subst hjt
    obtain ⟨Dt, et, rfl, _⟩ := own_cap hr3'
    have hsl : zRep.Sl w3 (fun k => k < w3.heap.size) (.slice Dt ts.length et) ts := sl_of_own hr3' (zAll ts) (by unfold maxLen; omega) (fun k hk => (hr3'.lt k hk).2)
    have hrel' : (relV m n ts.length).isSome = true := by rw [htl]; exact hrel
    obtain ⟨r, hr⟩ := Option.isSome_iff_exists.1 hrel'
    have hrm : r ∈ m.rs := List.mem_of_find?_eq_some hr
    have hay3 := (hb3.block _ (lt_heap hay)).trans hay
    have hmy3 := (hb3.block _ (lt_heap hmy)).trans hmy
    refine wp_seq ?_
    refine vl_r12_wp (bb := (relV m n ts.length).isSome) (X := fun p y D9 a9 b9 => ∀ r, relV m n ts.length = some r → p = r.nm ∧ y = r.ar ∧ intsRep.Sl w3 S (.slice D9 a9 b9) r.tp) hay3 hmy3 (find_any m n hnm ts.length _ w3 S (hm.keep (hkeep w3 hb3) (fun _ h => h)) (hlt w3 hb3) hg) (fun rn ra D9 a9 b9 gx a13 w13 h13 hx13 hb13 hX => ?_) a12 ⟨h12.1, h12.2.1, h12.2.2.1, h12.2.2.2.1, h12.2.2.2.2.1, h12.2.2.2.2.2.1, h12.2.2.2.2.2.2.1, trivial⟩
    obtain ⟨rfl, rfl, hsr⟩ := hX r hr
    have hb13s := hb13.size
    have hcut := @hit_lt _ (fun u => cmpL u ts) r.tp
    have hbs := br_any r.tp (fun u => cmpL u ts) D9 a9 b9 (.slice Dt ts.length et) w13 S (hsr.keep (fun k hk => hb13.block k (hlt w3 hb3 k hk)) (fun _ h => h)) (fun k hk => by have := hlt w3 hb3 k hk; omega) (Rel.few hg.sz (hg.rk r hrm)) (mono_cut (Rel.tup_cut (hg.rk r hrm) ts)) (fun W q hq es hes hbS hbW => by
      obtain ⟨v9, rfl, hv9⟩ := hes
      obtain ⟨B9, d9, rfl, _⟩ := hv9.shape
      exact (cmpL_any _ ts B9 Dt d9 et W (fun _ => True) (hv9.keep (fun _ _ => rfl) (fun _ _ => trivial)) (hsl.keep (fun k hk => (hbW.block k (by omega)).trans (hb13.block k hk)) (fun _ _ => trivial))).mono (fun e w' h => ⟨h.1, by rw [h.2]; exact Below.refl _ _⟩))
    refine wp_seq ?_
    refine vl_r13_wp hx13 hbs (fun a14 w14 h14 hb14 => ?_) a13 ⟨h13.1, h13.2.1, h13.2.2.1, h13.2.2.2.1, h13.2.2.2.2.1, h13.2.2.2.2.2.1, h13.2.2.2.2.2.2.1, h13.2.2.2.2.2.2.2.1, trivial⟩
    refine wp_seq ?_
    refine vl_r14_wp (fun a15 h15 => ?_) a14 h14
    refine wp_ret ?_
    repeat (first | refine thenR ?_ | refine inBlockR ?_)
    refine vl_ret_wp (bb := _) ⟨?_, hby.trans ((hb3.trans ((hb13.trans (hb14.mono hb13s)).mono hb3s)).mono hbys)⟩ a15 h15
    show Ending.returned (.bool _) = .returned (.bool (predV m n (ws.map (wordV m env))))
    rw [hts, pred_hit hg hr hcut]
  refine wp_cond_true ((h12.eval (k := 27) (v := .bool (decide (j < n1))) (by simp)).trans (by rw [decide_eq_true hj])) ?_
  refine wp_skip ?_
  show Code.wp _ _ _ a12 w3
  have hjl : j < ws.length := by omega
  obtain ⟨b, o, cs1, rfl, hSb, ⟨rfl, _⟩, hcc⟩ := Rep.Sl.at_ hw (List.getElem?_eq_getElem hjl)
  have hc0 : w3.cell? ⟨b, o + j, none⟩ = some (.string ws[j]) := (cell_keep (hkeep w3 hb3 b hSb) _).trans (by simpa [strRep] using hcc 0 _ rfl)
  obtain ⟨A9, c9, rfl, _⟩ := own_cap hr3
  refine wp_seq ?_
  refine wp_block ?_
  refine wp_seq ?_
  refine vl_r9_wp hj hc0 (hlt w3 hb3 b hSb) (fun a13 h13 => ?_) a12 ⟨h12.1, h12.2.1, h12.2.2.1, h12.2.2.2.1, h12.2.2.2.2.1, h12.2.2.2.2.2.1, h12.2.2.2.2.2.2.1, h12.2.2.2.2.2.2.2.1, h12.2.2.2.2.2.2.2.2.1, h12.2.2.2.2.2.2.2.2.2.1, trivial⟩
  refine vl_r10_wp (by omega) (hrow ws[j] w3 _ _ _ hb3 hr3) (fun v4 a14 w4 h14 hr4 hb4 => ?_) a13 h13
  show Code.wp _ _ _ a14 w4
  refine vl_r11_wp hj (by unfold maxLen; omega) (fun a15 h15 => ?_) a14 h14
  refine ⟨g - 1, by omega, j + 1, v4, by omega, ?_, hb3.trans hb4, h15⟩
  rw [List.take_succ_eq_append_getElem hjl, List.map_append]
  exact hr4
set_option maxRecDepth 100000 in
set_option maxHeartbeats 4000000 in
theorem value_qu (m : Md) (hg : m.good) {Am Bm : Option Addr} {cm dm : Nat} {k : Nat} {x : ByteArray} {f : Fv} (hok : (Fv.qu k x f).ok) (hrel : hasRels m f = true) (ihf : Fv.ok f → hasRels m f = true → ∀ (env : List (ByteArray × Int)) (cs : List Value) (w : World) (S : Nat → Prop) (De : Option Addr) (me ee : Nat), env.length + Fv.nodes (f) ≤ 1000 → fmRep.R w S (Fv.fm (f)) cs → envRep.Sl w S (.slice De me ee) env → (env = [] → De = none) → me ≤ ee → m.In w S [.int .i64 m.sz, .slice Am m.cs.length cm, .slice Bm m.rs.length dm] → (∀ b, S b → b < w.heap.size) → Calls Tryd.prog 48 #[.agg #[.int .i64 m.sz, .slice Am m.cs.length cm, .slice Bm m.rs.length dm], .agg cs.toArray, .slice De me ee] w fun e w' => e = .returned (.bool (evalF m (f) env)) ∧ Below w.heap.size w w') : ∀ (env : List (ByteArray × Int)) (cs : List Value) (w : World) (S : Nat → Prop) (De : Option Addr) (me ee : Nat), env.length + Fv.nodes (.qu k x f) ≤ 1000 → fmRep.R w S (Fv.fm (.qu k x f)) cs → envRep.Sl w S (.slice De me ee) env → (env = [] → De = none) → me ≤ ee → m.In w S [.int .i64 m.sz, .slice Am m.cs.length cm, .slice Bm m.rs.length dm] → (∀ b, S b → b < w.heap.size) → Calls Tryd.prog 48 #[.agg #[.int .i64 m.sz, .slice Am m.cs.length cm, .slice Bm m.rs.length dm], .agg cs.toArray, .slice De me ee] w fun e w' => e = .returned (.bool (evalF m (.qu k x f) env)) ∧ Below w.heap.size w w' := by
  intro env cs w S De me ee hlen ht he he0 hme hm hS
  change fmRep.R w S (.mk ⟨(k : Int), x, []⟩ [f.fm]) cs at ht
  generalize hkd : ((k : Int) : Int) = kd at ht
  generalize hnme : (x : ByteArray) = nm at ht
  obtain ⟨u, v9, rfl, hnm, hw, hl⟩ := Fm.open_ ht
  simp only at hw hnm
  obtain ⟨A, n1, c1, rfl, e1, hm1, _⟩ := id hw
  obtain ⟨B, n2, c2, rfl, e2, hm2, _⟩ := id hl
  go_enter Tryd.func48, Tryd.ntmps48
  refine wp_seq ?_
  refine vl_r0_wp (fun a0 h0 => ?_) _ (id ⟨rfl, rfl, rfl, rfl, rfl, trivial⟩)
  refine gen_last (fun wx => wx.heap[w.heap.size]? = some (.cells #[.int .i64 m.sz, .slice Am m.cs.length cm, .slice Bm m.rs.length dm] 25 (0, 0)) ∧ wx.heap[w.heap.size + 1]? = some (.cells #[.int .i64 kd, .string nm, .slice A n1 c1, .slice B n2 c2] 29 (0, 0)) ∧ wx.heap[w.heap.size + 1 + 1]? = some (.cells #[.slice De me ee] 71 (0, 0)) ∧ Below w.heap.size w wx) ⟨heap_old (by simp; omega) (heap_old (by simp) (heap_at rfl)), heap_old (by simp) (heap_at (by simp)), heap_at (by simp), by go_grown⟩ ?_
  rintro wy ⟨hmy, hay, hey, hby⟩
  have hbys := hby.size
  have hgyl := lt_heap hey
  have hkeep : ∀ W : World, Below wy.heap.size wy W → ∀ k, S k → W.heap[k]? = w.heap[k]? := fun W hb k hk => (hb.block k (by have := hS k hk; omega)).trans (hby.block k (hS k hk))
  have hlt : ∀ W : World, Below wy.heap.size wy W → ∀ k, S k → k < W.heap.size := fun W hb k hk => by have := hS k hk; have := hb.size; omega
  refine wp_seq ?_
  refine vl_r1_wp (fun a1 h1 => ?_) a0 h0
  refine wp_seq ?_
  refine wp_seq ?_
  refine vl_r2_wp hay (fun a2 h2 => ?_) a1 h1
  refine wp_block ?_
  simp only [Fv.nodes] at hlen
  subst hnme
  have hk := hok.1
  obtain rfl : n2 = 1 := by simpa using e2.symm
  obtain ⟨b, o, cs1, rfl, hSb, hr1, hcc1⟩ := Rep.Sl.at_ hl (k := 0) (a := f.fm) rfl
  obtain ⟨Ae, n3, c3, Be, n4, c4, rfl, _, _, _, _⟩ := Fm.shape hr1
  have hbl : b < wy.heap.size := hlt wy (Below.refl _ _) b hSb
  refine wp_seq ?_
  refine vl_r3_wp (fun a3 h3 => ?_) a2 ⟨h2.1, h2.2.1, h2.2.2.1, h2.2.2.2.1, h2.2.2.2.2.1, h2.2.2.2.2.2.1, h2.2.2.2.2.2.2.1, trivial⟩
  have q1 : ¬ kd = 1 := by omega
  refine wp_cond_false ((h3.eval (k := 19) (v := .bool (decide (kd = 1))) (by simp)).trans (by rw [decide_eq_false q1])) ?_
  refine wp_seq ?_
  refine vl_r5_wp (fun a4 h4 => ?_) a3 ⟨h3.1, h3.2.1, h3.2.2.1, h3.2.2.2.1, h3.2.2.2.2.1, h3.2.2.2.2.2.1, h3.2.2.2.2.2.2.1, trivial⟩
  have q2 : ¬ kd = 2 := by omega
  refine wp_cond_false ((h4.eval (k := 21) (v := .bool (decide (kd = 2))) (by simp)).trans (by rw [decide_eq_false q2])) ?_
  refine wp_seq ?_
  refine vl_r15_wp (fun a5 h5 => ?_) a4 ⟨h4.1, h4.2.1, h4.2.2.1, h4.2.2.2.1, h4.2.2.2.2.1, h4.2.2.2.2.2.1, h4.2.2.2.2.2.2.1, trivial⟩
  have q3 : ¬ kd = 3 := by omega
  refine wp_cond_false ((h5.eval (k := 54) (v := .bool (decide (kd = 3))) (by simp)).trans (by rw [decide_eq_false q3])) ?_
  refine wp_seq ?_
  refine vl_r17_wp (fun a6 h6 => ?_) a5 ⟨h5.1, h5.2.1, h5.2.2.1, h5.2.2.2.1, h5.2.2.2.2.1, h5.2.2.2.2.2.1, h5.2.2.2.2.2.2.1, trivial⟩
  have q4 : ¬ kd = 4 := by omega
  refine wp_cond_false ((h6.eval (k := 69) (v := .bool (decide (kd = 4))) (by simp)).trans (by rw [decide_eq_false q4])) ?_
  refine wp_seq ?_
  refine vl_r19_wp (fun a7 h7 => ?_) a6 ⟨h6.1, h6.2.1, h6.2.2.1, h6.2.2.2.1, h6.2.2.2.2.1, h6.2.2.2.2.2.1, h6.2.2.2.2.2.2.1, trivial⟩
  have q5 : ¬ kd = 5 := by omega
  refine wp_cond_false ((h7.eval (k := 79) (v := .bool (decide (kd = 5))) (by simp)).trans (by rw [decide_eq_false q5])) ?_
  refine wp_seq ?_
  refine vl_r21_wp (fun a8 h8 => ?_) a7 ⟨h7.1, h7.2.1, h7.2.2.1, h7.2.2.2.1, h7.2.2.2.2.1, h7.2.2.2.2.2.1, h7.2.2.2.2.2.2.1, trivial⟩
  have q6 : ¬ kd = 6 := by omega
  refine wp_cond_false ((h8.eval (k := 97) (v := .bool (decide (kd = 6))) (by simp)).trans (by rw [decide_eq_false q6])) ?_
  refine wp_seq ?_
  refine vl_r23_wp (fun a9 h9 => ?_) a8 ⟨h8.1, h8.2.1, h8.2.2.1, h8.2.2.2.1, h8.2.2.2.2.1, h8.2.2.2.2.2.1, h8.2.2.2.2.2.2.1, trivial⟩
  have q7 : ¬ kd = 7 := by omega
  refine wp_cond_false ((h9.eval (k := 115) (v := .bool (decide (kd = 7))) (by simp)).trans (by rw [decide_eq_false q7])) ?_
  refine wp_skip ?_
  show Code.wp _ _ _ a9 wy
  refine wp_seq ?_
  refine wp_seq ?_
  refine vl_r25_wp hmy (fun a10 h10 => ?_) a9 ⟨h9.1, h9.2.1, h9.2.2.1, h9.2.2.2.1, h9.2.2.2.2.1, h9.2.2.2.2.2.1, trivial⟩
  refine wp_block ?_
  refine wp_loopR (fun g a' w' => ∃ i : Nat, i + g = m.sz.toNat ∧ (∀ j : Nat, j < i → (evalF m f (env ++ [(x, (j : Int))]) != (kd == 8)) = false) ∧ Below wy.heap.size wy w' ∧ Frm 168 [(3, .pointer (some ⟨w.heap.size, 0, none⟩)), (4, .pointer (some ⟨(w.heap.size + 1), 0, none⟩)), (5, .pointer (some ⟨(w.heap.size + 1 + 1), 0, none⟩)), (7, .func (Fn.func 82) #[] #[.pointer (some ⟨(w.heap.size + 1 + 1), 0, none⟩), .pointer (some ⟨w.heap.size, 0, none⟩)]), (135, .int .i64 m.sz), (136, .int .i64 (i : Nat))] a') m.sz.toNat ⟨0, by omega, fun j hj => absurd hj (Nat.not_lt_zero _), Below.refl _ _, h10⟩ ?_
  rintro g a11 w3 ⟨i, hig, hno, hb3, h11⟩
  have hb3s := hb3.size
  have hay3 := (hb3.block _ (lt_heap hay)).trans hay
  have hmy3 := (hb3.block _ (lt_heap hmy)).trans hmy
  have hey3 := (hb3.block _ (lt_heap hey)).trans hey
  have hsz := hg.sz
  refine wp_seq ?_
  refine vl_r26_wp (fun a12 h12 => ?_) a11 h11
  refine wp_seq ?_
  by_cases hi : (i : Int) < m.sz
  case neg =>
    refine wp_cond_false ((h12.eval (k := 137) (v := .bool (decide ((i : Int) < m.sz))) (by simp)).trans (by rw [decide_eq_false hi])) ?_
    refine wp_exit ?_
    repeat refine then_exit ?_
    refine inBlock_exit ?_
    show Code.wp _ _ _ a12 w3
    refine wp_seq ?_
    refine vl_r31_wp hay3 (fun a15 h15 => ?_) a12 ⟨h12.1, h12.2.1, h12.2.2.1, h12.2.2.2.1, h12.2.2.2.2.1, h12.2.2.2.2.2.1, trivial⟩
    refine wp_ret ?_
    repeat (first | refine thenR ?_ | refine inBlockR ?_)
    refine vl_ret_wp (bb := _) ⟨?_, hby.trans (hb3.mono hbys)⟩ a15 h15
    rw [← hkd, qu_end hk (fun j hj => by rw [hkd]; exact hno j (by omega))]
  refine wp_cond_true ((h12.eval (k := 137) (v := .bool (decide ((i : Int) < m.sz))) (by simp)).trans (by rw [decide_eq_true hi])) ?_
  refine wp_skip ?_
  show Code.wp _ _ _ a12 w3
  refine wp_seq ?_
  refine wp_block ?_
  refine wp_seq ?_
  refine vl_r27_wp (fun a13 h13 => ?_) a12 ⟨h12.1, h12.2.1, h12.2.2.1, h12.2.2.2.1, h12.2.2.2.2.1, h12.2.2.2.2.2.1, h12.2.2.2.2.2.2.1, h12.2.2.2.2.2.2.2.1, trivial⟩
  have e0_0 : w3.cell? ⟨b, o, none⟩ = _ := (cell_keep (hkeep w3 hb3 b hSb) _).trans (hcc1 0 _ rfl)
  have e0_1 : w3.cell? ⟨b, o + 1, none⟩ = _ := (cell_keep (hkeep w3 hb3 b hSb) _).trans (hcc1 1 _ rfl)
  have e0_2 : w3.cell? ⟨b, o + 2, none⟩ = _ := (cell_keep (hkeep w3 hb3 b hSb) _).trans (hcc1 2 _ rfl)
  have e0_3 : w3.cell? ⟨b, o + 3, none⟩ = _ := (cell_keep (hkeep w3 hb3 b hSb) _).trans (hcc1 3 _ rfl)
  have hih : ∀ (W : World) (v' : Value), W.ownsRow (w3.heap.size + 1) 72 2 v' (env.length + 1) (envVals env ++ [.string x, .int .i64 (i : Nat)]) → Below w3.heap.size w3 W → Calls Tryd.prog 48 #[.agg #[.int .i64 m.sz, .slice Am m.cs.length cm, .slice Bm m.rs.length dm], .agg #[.int .i64 f.fm.lab.kind, .string f.fm.lab.nm, .slice Ae n3 c3, .slice Be n4 c4], v'] W fun e w' => e = .returned (.bool (evalF m f (env ++ [(x, (i : Int))]))) ∧ Below w3.heap.size w3 w' := by
    intro W v' hown hbW
    have hbW2 := hb3.trans (hbW.mono hb3s)
    have hbWs := hbW.size
    obtain ⟨A9, c9, rfl, hcap⟩ := own_cap hown
    have hS' : ∀ k, (S k ∨ (w3.heap.size ≤ k ∧ k < W.heap.size)) → k < W.heap.size := fun k hk => hk.elim (fun h => hlt W hbW2 k h) (fun h => h.2)
    have hsl : envRep.Sl W (fun k => S k ∨ (w3.heap.size ≤ k ∧ k < W.heap.size)) (.slice A9 (env.length + 1) c9) (env ++ [(x, (i : Int))]) := by
      have h9 := sl_of_own (ρ := envRep) (l := env ++ [(x, (i : Int))]) (S := fun k => S k ∨ (w3.heap.size ≤ k ∧ k < W.heap.size)) (xs := envVals (env ++ [(x, (i : Int))])) (v := .slice A9 (env.length + 1) c9) (E := 72) (base := w3.heap.size + 1) (w := W) (by rw [envVals_snoc, List.length_append]; exact hown) (envAll _) (by rw [List.length_append]; unfold maxLen; simp only [List.length_singleton]; omega) (fun k hk => Or.inr ⟨by have := (hown.lt k hk).1; omega, (hown.lt k hk).2⟩)
      exact h9
    exact (ihf hok.2.2 hrel (env ++ [(x, (i : Int))]) _ W (fun k => S k ∨ (w3.heap.size ≤ k ∧ k < W.heap.size)) _ _ _ (by rw [List.length_append, List.length_singleton]; omega) (fmRep.keep hr1 (hkeep W hbW2) (fun _ h => Or.inl h)) hsl (fun h => by simp at h) hcap (hm.keep (hkeep W hbW2) (fun _ h => Or.inl h)) hS').mono (fun e w' h => ⟨h.1, hbW.trans (h.2.mono hbWs)⟩)
  refine wp_seq ?_
  refine wp_via (fun a9 w9 => Frm 168 [(3, .pointer (some ⟨w.heap.size, 0, none⟩)), (4, .pointer (some ⟨(w.heap.size + 1), 0, none⟩)), (5, .pointer (some ⟨(w.heap.size + 1 + 1), 0, none⟩)), (7, .func (Fn.func 82) #[] #[.pointer (some ⟨(w.heap.size + 1 + 1), 0, none⟩), .pointer (some ⟨w.heap.size, 0, none⟩)]), (135, .int .i64 m.sz), (136, .int .i64 (i : Nat)), (160, .bool (evalF m f (env ++ [(x, (i : Int))]) != (kd == 8)))] a9 ∧ Below w3.heap.size w3 w9) ?_ (fun hK => ?_)
  · rintro a14 w4 ⟨h14, hb4⟩
    have hb34 := hb3.trans (hb4.mono hb3s)
    have hay4 := (hb34.block _ (lt_heap hay)).trans hay
    cases hx2 : (evalF m f (env ++ [(x, (i : Int))]) != (kd == 8))
    · rw [hx2] at h14
      refine wp_cond_false ((h14.eval (k := 160) (v := .bool false) (by simp)).trans (by rw [show false = false from rfl])) ?_
      refine wp_skip ?_
      show Code.wp _ _ _ a14 w4
      refine vl_r30_wp (by omega) (fun a15 h15 => ?_) a14 ⟨h14.1, h14.2.1, h14.2.2.1, h14.2.2.2.1, h14.2.2.2.2.1, h14.2.2.2.2.2.1, h14.2.2.2.2.2.2.1, h14.2.2.2.2.2.2.2.1, trivial⟩
      refine ⟨g - 1, by omega, i + 1, by omega, fun j hj => ?_, hb34, h15⟩
      by_cases hji : j = i
      · rw [hji]; exact hx2
      · exact hno j (by omega)
    · rw [hx2] at h14
      refine wp_cond_true ((h14.eval (k := 160) (v := .bool true) (by simp)).trans (by rw [show true = true from rfl])) ?_
      refine wp_seq ?_
      refine vl_r29_wp hay4 (fun a15 h15 => ?_) a14 ⟨h14.1, h14.2.1, h14.2.2.1, h14.2.2.2.1, h14.2.2.2.2.1, h14.2.2.2.2.2.1, trivial⟩
      refine wp_ret ?_
      repeat (first | refine thenR ?_ | refine inBlockR ?_)
      refine vl_ret_wp (bb := _) ⟨?_, hby.trans (hb34.mono hbys)⟩ a15 h15
      rw [← hkd, qu_stop hk hi (by rw [hkd]; exact hx2)]
  · have hl3 : b < w3.heap.size := hlt w3 hb3 b hSb
    obtain ⟨De', me', ee', eqd, hel, _, hpos⟩ := id he
    simp only [Value.slice.injEq] at eqd
    obtain ⟨rfl, rfl, rfl⟩ := eqd
    by_cases hz : env = []
    · have hD := he0 hz
      subst hz
      subst hD
      obtain rfl : me = 0 := by simpa using hel.symm
      refine wp_thenF ?_
      exact vl_r28n_wp hmy3 hay3 hey3 e0_0 e0_1 e0_2 e0_3 hl3 rfl rfl hih (fun a14 w4 h14 hb4 => hK _ _ ⟨h14, hb4⟩) a13 h13
    · have hp : 0 < me := by
        rcases Nat.eq_zero_or_pos me with h | h
        · exact absurd (List.length_eq_zero_iff.1 (by omega)) hz
        · exact h
      obtain ⟨b2, o2, xs, rfl, hSb2, hxs, hcell⟩ := hpos hp
      obtain rfl := envAll_eq hxs
      rw [hel] at hih
      refine wp_thenF ?_
      exact vl_r28_wp hmy3 hay3 hel (by omega) hme (hlt w3 hb3 b2 hSb2) (fun j u hu => (cell_keep (hkeep w3 hb3 b2 hSb2) _).trans (hcell j u hu)) hey3 e0_0 e0_1 e0_2 e0_3 hl3 rfl rfl hih (fun a14 w4 h14 hb4 => hK _ _ ⟨h14, hb4⟩) a13 h13
/-- truth.Value. -/
theorem value_any (m : Md) (hg : m.good) {Am Bm : Option Addr} {cm dm : Nat} : ∀ v : Fv, v.ok → hasRels m v = true → ∀ (env : List (ByteArray × Int)) (cs : List Value) (w : World) (S : Nat → Prop) (De : Option Addr) (me ee : Nat), env.length + Fv.nodes (v) ≤ 1000 → fmRep.R w S (Fv.fm (v)) cs → envRep.Sl w S (.slice De me ee) env → (env = [] → De = none) → me ≤ ee → m.In w S [.int .i64 m.sz, .slice Am m.cs.length cm, .slice Bm m.rs.length dm] → (∀ b, S b → b < w.heap.size) → Calls Tryd.prog 48 #[.agg #[.int .i64 m.sz, .slice Am m.cs.length cm, .slice Bm m.rs.length dm], .agg cs.toArray, .slice De me ee] w fun e w' => e = .returned (.bool (evalF m (v) env)) ∧ Below w.heap.size w w'
  | .tru, _, _ => value_tru m hg
  | .pred _ _, h, hr => value_pred m hg h hr
  | .same _ _, _, _ => value_same m hg
  | .neg f, h, hr => value_neg m hg h hr (value_any m hg f)
  | .bin _ f g, h, hr => value_bin m hg h (by simpa [hasRels] using hr) (value_any m hg f) (value_any m hg g)
  | .qu _ _ f, h, hr => value_qu m hg h hr (value_any m hg f)
end

section
open Go Go.RowKit
set_option linter.unusedSimpArgs false
set_option linter.unusedVariables false
theorem keeps2G {w : World} {b : Nat} {v0 v1 : Value} : Keeps (fun k => k = b) w ((w.setCell ⟨b, 0, none⟩ v0).setCell ⟨b, 1, none⟩ v1) := Keeps.set (P := fun k => k = b) (Keeps.set (P := fun k => k = b) (Keeps.refl (fun k => k = b) w) (Or.inl rfl) 0 v0) (Or.inl rfl) 1 v1
set_option maxRecDepth 1000000 in
theorem frame_ho {P : Act → Prop} (h : ∀ x0 x1 x2 x3 x4 x5 x6 x7 x8 x9 x10 x11 x12 x13 x14 x15 x16 x17 x18 x19 x20 x21 x22 x23 x24 x25 x26 x27 x28 x29 x30 x31 : Value, P ⟨(x0 :: x1 :: x2 :: x3 :: x4 :: x5 :: x6 :: x7 :: x8 :: x9 :: x10 :: x11 :: x12 :: x13 :: x14 :: x15 :: x16 :: x17 :: x18 :: x19 :: x20 :: x21 :: x22 :: x23 :: x24 :: x25 :: x26 :: x27 :: x28 :: x29 :: x30 :: x31 :: []).toArray, []⟩) : ∀ a : Act, a.tmps.toList.length = 32 → a.defers = [] → P a := by
  rintro ⟨⟨l⟩, d⟩ hs hd
  simp only at hd
  subst hd
  revert l
  show ∀ l : List Value, l.length = 32 → P ⟨⟨l⟩, []⟩
  iterate 32 refine openS (fun _ => ?_)
  refine open0 ?_
  exact h ..
noncomputable def c_ho_r0 : Code := sub [0] (Tryd.f15.body.getD .skip)
set_option maxRecDepth 1000000 in
set_option maxHeartbeats 16000000 in
theorem ho_r0_wp {Q : Exit → Act → World → Prop} {z : Int} {Am Bm : Option Addr} {nm1 cm nm2 dm : Nat} {wo : World} {kd : Int} {nm : ByteArray} {A B : Option Addr} {n1 c1 n2 c2 : Nat} (hN : ∀ a', Frm 32 [(2, .pointer (some ⟨wo.heap.size, 0, none⟩)), (3, .pointer (some ⟨(wo.heap.size + 1), 0, none⟩)), (5, .pointer (some ⟨(wo.heap.size + 1 + 1), 0, none⟩))] a' → Q .normal a' (((wo.alloc (.cells #[.int .i64 z, .slice Am nm1 cm, .slice Bm nm2 dm] 25)).alloc (.cells #[.int .i64 kd, .string nm, .slice A n1 c1, .slice B n2 c2] 29)).alloc (.cells #[.int .i64 0, .int .i64 0] 31))) : ∀ ac, Frm 32 [(0, .agg #[.int .i64 z, .slice Am nm1 cm, .slice Bm nm2 dm]), (1, .agg #[.int .i64 kd, .string nm, .slice A n1 c1, .slice B n2 c2])] ac → Code.wp Tryd.prog c_ho_r0 Q ac wo := by
  refine frm_open ?_
  refine frame_ho ?_
  intros
  rename_i hq
  obtain ⟨-, -, e0q, e1q, -⟩ := hq
  obtain rfl := sI e0q
  obtain rfl := sI e1q
  conv => arg 2; whnf
  have HN := Lib.hid hN
  clear hN
  go_wp2_with fail
  exact HN.out _ (id ⟨rfl, rfl, rfl, rfl, rfl, trivial⟩)
noncomputable def c_ho_r1 : Code := sub [1, 0, 0] (Tryd.f15.body.getD .skip)
set_option maxRecDepth 1000000 in
set_option maxHeartbeats 16000000 in
theorem ho_r1_wp {Q : Exit → Act → World → Prop} {c j : Int} {z : Int} {Am Bm : Option Addr} {nm1 cm nm2 dm : Nat} {wo w : World} (hgm : w.heap[wo.heap.size]? = some (.cells #[.int .i64 z, .slice Am nm1 cm, .slice Bm nm2 dm] 25 (0, 0))) (hc : Calls Tryd.prog 44 #[.agg #[.int .i64 z, .slice Am nm1 cm, .slice Bm nm2 dm]] w fun e w' => e = .returned (.agg #[.int .i64 c, .int .i64 j]) ∧ Below w.heap.size w w') (hN : ∀ ge a' w', Frm 32 [(2, .pointer (some ⟨wo.heap.size, 0, none⟩)), (3, .pointer (some ⟨(wo.heap.size + 1), 0, none⟩)), (5, .pointer (some ⟨(wo.heap.size + 1 + 1), 0, none⟩)), (6, .pointer (some ⟨ge, 0, none⟩))] a' → w.heap.size ≤ ge → w'.heap[ge]? = some (.cells #[.int .i64 c, .int .i64 j] 31 (0, 0)) → Below w.heap.size w w' → Q .normal a' w') : ∀ ac, Frm 32 [(2, .pointer (some ⟨wo.heap.size, 0, none⟩)), (3, .pointer (some ⟨(wo.heap.size + 1), 0, none⟩)), (5, .pointer (some ⟨(wo.heap.size + 1 + 1), 0, none⟩))] ac → Code.wp Tryd.prog c_ho_r1 Q ac w := by
  refine frm_open ?_
  refine frame_ho ?_
  intros
  rename_i hq
  obtain ⟨-, -, e0q, e1q, e2q, -⟩ := hq
  obtain rfl := sI e0q
  obtain rfl := sI e1q
  obtain rfl := sI e2q
  conv => arg 2; whnf
  have m0 := cellv hgm 0 rfl
  have m1 := cellv hgm 1 rfl
  have m2 := cellv hgm 2 rfl
  have ml := lt_heap hgm
  clear hgm
  have HN := Lib.hid hN
  have HC := Lib.hid hc
  clear hN hc
  go_wp2_with fail
  (with_reducible refine HC.out.mono ?_)
  rintro e w1 ⟨rfl, hb1⟩
  have HB1 := Lib.hid hb1
  clear hb1
  go_wp2_with fail
  have hz := HB1.out.size
  exact HN.out w1.heap.size _ _ (id ⟨rfl, rfl, rfl, rfl, rfl, rfl, trivial⟩) hz (heap_at rfl) (HB1.out.alloc hz _)
noncomputable def c_ho_r4 : Code := sub [1, 1, 0, 0] (Tryd.f15.body.getD .skip)
set_option maxRecDepth 1000000 in
set_option maxHeartbeats 16000000 in
theorem ho_r4_wp {Q : Exit → Act → World → Prop} {c j : Int} {wo w : World} {kd : Int} {nm : ByteArray} {A B : Option Addr} {n1 c1 n2 c2 : Nat} (ha : w.heap[wo.heap.size + 1]? = some (.cells #[.int .i64 kd, .string nm, .slice A n1 c1, .slice B n2 c2] 29 (0, 0))) (hc : Calls Tryd.prog 46 #[.agg #[.int .i64 kd, .string nm, .slice A n1 c1, .slice B n2 c2]] w fun e w' => e = .returned (.agg #[.int .i64 c, .int .i64 j]) ∧ Below w.heap.size w w') (hN : ∀ ge a' w', Frm 32 [(2, .pointer (some ⟨wo.heap.size, 0, none⟩)), (3, .pointer (some ⟨(wo.heap.size + 1), 0, none⟩)), (5, .pointer (some ⟨(wo.heap.size + 1 + 1), 0, none⟩)), (7, .pointer (some ⟨ge, 0, none⟩))] a' → w.heap.size ≤ ge → w'.heap[ge]? = some (.cells #[.int .i64 c, .int .i64 j] 31 (0, 0)) → Below w.heap.size w w' → Q .normal a' w') : ∀ ac, Frm 32 [(2, .pointer (some ⟨wo.heap.size, 0, none⟩)), (3, .pointer (some ⟨(wo.heap.size + 1), 0, none⟩)), (5, .pointer (some ⟨(wo.heap.size + 1 + 1), 0, none⟩))] ac → Code.wp Tryd.prog c_ho_r4 Q ac w := by
  refine frm_open ?_
  refine frame_ho ?_
  intros
  rename_i hq
  obtain ⟨-, -, e0q, e1q, e2q, -⟩ := hq
  obtain rfl := sI e0q
  obtain rfl := sI e1q
  obtain rfl := sI e2q
  conv => arg 2; whnf
  have a0 := cellv ha 0 rfl
  have a1 := cellv ha 1 rfl
  have a2 := cellv ha 2 rfl
  have a3 := cellv ha 3 rfl
  have al := lt_heap ha
  clear ha
  have HN := Lib.hid hN
  have HC := Lib.hid hc
  clear hN hc
  go_wp2_with fail
  (with_reducible refine HC.out.mono ?_)
  rintro e w1 ⟨rfl, hb1⟩
  have HB1 := Lib.hid hb1
  clear hb1
  go_wp2_with fail
  have hz := HB1.out.size
  exact HN.out w1.heap.size _ _ (id ⟨rfl, rfl, rfl, rfl, rfl, rfl, trivial⟩) hz (heap_at rfl) (HB1.out.alloc hz _)
noncomputable def c_ho_r7 : Code := sub [1, 1, 1, 0, 0] (Tryd.f15.body.getD .skip)
set_option maxRecDepth 1000000 in
set_option maxHeartbeats 16000000 in
theorem ho_r7_wp {Q : Exit → Act → World → Prop} {c j : Int} {z : Int} {Am Bm : Option Addr} {nm1 cm nm2 dm : Nat} {wo w : World} {kd : Int} {nm : ByteArray} {A B : Option Addr} {n1 c1 n2 c2 : Nat} (hgm : w.heap[wo.heap.size]? = some (.cells #[.int .i64 z, .slice Am nm1 cm, .slice Bm nm2 dm] 25 (0, 0))) (ha : w.heap[wo.heap.size + 1]? = some (.cells #[.int .i64 kd, .string nm, .slice A n1 c1, .slice B n2 c2] 29 (0, 0))) (hc : Calls Tryd.prog 47 #[.agg #[.int .i64 z, .slice Am nm1 cm, .slice Bm nm2 dm], .agg #[.int .i64 kd, .string nm, .slice A n1 c1, .slice B n2 c2]] w fun e w' => e = .returned (.agg #[.int .i64 c, .int .i64 j]) ∧ Below w.heap.size w w') (hN : ∀ ge a' w', Frm 32 [(2, .pointer (some ⟨wo.heap.size, 0, none⟩)), (3, .pointer (some ⟨(wo.heap.size + 1), 0, none⟩)), (5, .pointer (some ⟨(wo.heap.size + 1 + 1), 0, none⟩)), (8, .pointer (some ⟨ge, 0, none⟩))] a' → w.heap.size ≤ ge → w'.heap[ge]? = some (.cells #[.int .i64 c, .int .i64 j] 31 (0, 0)) → Below w.heap.size w w' → Q .normal a' w') : ∀ ac, Frm 32 [(2, .pointer (some ⟨wo.heap.size, 0, none⟩)), (3, .pointer (some ⟨(wo.heap.size + 1), 0, none⟩)), (5, .pointer (some ⟨(wo.heap.size + 1 + 1), 0, none⟩))] ac → Code.wp Tryd.prog c_ho_r7 Q ac w := by
  refine frm_open ?_
  refine frame_ho ?_
  intros
  rename_i hq
  obtain ⟨-, -, e0q, e1q, e2q, -⟩ := hq
  obtain rfl := sI e0q
  obtain rfl := sI e1q
  obtain rfl := sI e2q
  conv => arg 2; whnf
  have m0 := cellv hgm 0 rfl
  have m1 := cellv hgm 1 rfl
  have m2 := cellv hgm 2 rfl
  have ml := lt_heap hgm
  clear hgm
  have a0 := cellv ha 0 rfl
  have a1 := cellv ha 1 rfl
  have a2 := cellv ha 2 rfl
  have a3 := cellv ha 3 rfl
  have al := lt_heap ha
  clear ha
  have HN := Lib.hid hN
  have HC := Lib.hid hc
  clear hN hc
  go_wp2_with fail
  (with_reducible refine HC.out.mono ?_)
  rintro e w1 ⟨rfl, hb1⟩
  have HB1 := Lib.hid hb1
  clear hb1
  go_wp2_with fail
  have hz := HB1.out.size
  exact HN.out w1.heap.size _ _ (id ⟨rfl, rfl, rfl, rfl, rfl, rfl, trivial⟩) hz (heap_at rfl) (HB1.out.alloc hz _)
noncomputable def c_ho_r2 : Code := sub [1, 0, 1, 0] (Tryd.f15.body.getD .skip)
set_option maxRecDepth 1000000 in
set_option maxHeartbeats 16000000 in
theorem ho_r2_wp {Q : Exit → Act → World → Prop} {gb : Nat} {c j : Int} {wo w : World} (hb : w.heap[gb]? = some (.cells #[.int .i64 c, .int .i64 j] 31 (0, 0))) (hN : ∀ a', Frm 32 [(2, .pointer (some ⟨wo.heap.size, 0, none⟩)), (3, .pointer (some ⟨(wo.heap.size + 1), 0, none⟩)), (5, .pointer (some ⟨(wo.heap.size + 1 + 1), 0, none⟩)), (6, .pointer (some ⟨gb, 0, none⟩)), (13, .bool (decide (c ≠ 0)))] a' → Q .normal a' w) : ∀ ac, Frm 32 [(2, .pointer (some ⟨wo.heap.size, 0, none⟩)), (3, .pointer (some ⟨(wo.heap.size + 1), 0, none⟩)), (5, .pointer (some ⟨(wo.heap.size + 1 + 1), 0, none⟩)), (6, .pointer (some ⟨gb, 0, none⟩))] ac → Code.wp Tryd.prog c_ho_r2 Q ac w := by
  refine frm_open ?_
  refine frame_ho ?_
  intros
  rename_i hq
  obtain ⟨-, -, e0q, e1q, e2q, e3q, -⟩ := hq
  obtain rfl := sI e0q
  obtain rfl := sI e1q
  obtain rfl := sI e2q
  obtain rfl := sI e3q
  conv => arg 2; whnf
  have b0 := cellv hb 0 rfl
  have bl := lt_heap hb
  clear hb
  by_cases h : c ≠ 0
  · have t0 := h
    have t1 : (c != 0) = true := by first | exact bne_iff_ne.2 (by omega) | exact bne_eq_false_iff_eq.2 (by omega)
    rw [show decide (c ≠ 0) = true from by simpa using h] at hN
    clear h
    have HN := Lib.hid hN
    clear hN
    go_wp2_with fail
    exact HN.out _ (id ⟨rfl, rfl, rfl, rfl, rfl, rfl, rfl, trivial⟩)
  · have t0 := h
    have t1 : (c != 0) = false := by first | exact bne_iff_ne.2 (by omega) | exact bne_eq_false_iff_eq.2 (by omega)
    rw [show decide (c ≠ 0) = false from by simpa using h] at hN
    clear h
    have HN := Lib.hid hN
    clear hN
    go_wp2_with fail
    exact HN.out _ (id ⟨rfl, rfl, rfl, rfl, rfl, rfl, rfl, trivial⟩)
noncomputable def c_ho_r5 : Code := sub [1, 1, 0, 1, 0] (Tryd.f15.body.getD .skip)
set_option maxRecDepth 1000000 in
set_option maxHeartbeats 16000000 in
theorem ho_r5_wp {Q : Exit → Act → World → Prop} {gb : Nat} {c j : Int} {wo w : World} (hb : w.heap[gb]? = some (.cells #[.int .i64 c, .int .i64 j] 31 (0, 0))) (hN : ∀ a', Frm 32 [(2, .pointer (some ⟨wo.heap.size, 0, none⟩)), (3, .pointer (some ⟨(wo.heap.size + 1), 0, none⟩)), (5, .pointer (some ⟨(wo.heap.size + 1 + 1), 0, none⟩)), (7, .pointer (some ⟨gb, 0, none⟩)), (19, .bool (decide (c ≠ 0)))] a' → Q .normal a' w) : ∀ ac, Frm 32 [(2, .pointer (some ⟨wo.heap.size, 0, none⟩)), (3, .pointer (some ⟨(wo.heap.size + 1), 0, none⟩)), (5, .pointer (some ⟨(wo.heap.size + 1 + 1), 0, none⟩)), (7, .pointer (some ⟨gb, 0, none⟩))] ac → Code.wp Tryd.prog c_ho_r5 Q ac w := by
  refine frm_open ?_
  refine frame_ho ?_
  intros
  rename_i hq
  obtain ⟨-, -, e0q, e1q, e2q, e3q, -⟩ := hq
  obtain rfl := sI e0q
  obtain rfl := sI e1q
  obtain rfl := sI e2q
  obtain rfl := sI e3q
  conv => arg 2; whnf
  have b0 := cellv hb 0 rfl
  have bl := lt_heap hb
  clear hb
  by_cases h : c ≠ 0
  · have t0 := h
    have t1 : (c != 0) = true := by first | exact bne_iff_ne.2 (by omega) | exact bne_eq_false_iff_eq.2 (by omega)
    rw [show decide (c ≠ 0) = true from by simpa using h] at hN
    clear h
    have HN := Lib.hid hN
    clear hN
    go_wp2_with fail
    exact HN.out _ (id ⟨rfl, rfl, rfl, rfl, rfl, rfl, rfl, trivial⟩)
  · have t0 := h
    have t1 : (c != 0) = false := by first | exact bne_iff_ne.2 (by omega) | exact bne_eq_false_iff_eq.2 (by omega)
    rw [show decide (c ≠ 0) = false from by simpa using h] at hN
    clear h
    have HN := Lib.hid hN
    clear hN
    go_wp2_with fail
    exact HN.out _ (id ⟨rfl, rfl, rfl, rfl, rfl, rfl, rfl, trivial⟩)
noncomputable def c_ho_r8 : Code := sub [1, 1, 1, 0, 1, 0] (Tryd.f15.body.getD .skip)
set_option maxRecDepth 1000000 in
set_option maxHeartbeats 16000000 in
theorem ho_r8_wp {Q : Exit → Act → World → Prop} {gb : Nat} {c j : Int} {wo w : World} (hb : w.heap[gb]? = some (.cells #[.int .i64 c, .int .i64 j] 31 (0, 0))) (hN : ∀ a', Frm 32 [(2, .pointer (some ⟨wo.heap.size, 0, none⟩)), (3, .pointer (some ⟨(wo.heap.size + 1), 0, none⟩)), (5, .pointer (some ⟨(wo.heap.size + 1 + 1), 0, none⟩)), (8, .pointer (some ⟨gb, 0, none⟩)), (26, .bool (decide (c ≠ 0)))] a' → Q .normal a' w) : ∀ ac, Frm 32 [(2, .pointer (some ⟨wo.heap.size, 0, none⟩)), (3, .pointer (some ⟨(wo.heap.size + 1), 0, none⟩)), (5, .pointer (some ⟨(wo.heap.size + 1 + 1), 0, none⟩)), (8, .pointer (some ⟨gb, 0, none⟩))] ac → Code.wp Tryd.prog c_ho_r8 Q ac w := by
  refine frm_open ?_
  refine frame_ho ?_
  intros
  rename_i hq
  obtain ⟨-, -, e0q, e1q, e2q, e3q, -⟩ := hq
  obtain rfl := sI e0q
  obtain rfl := sI e1q
  obtain rfl := sI e2q
  obtain rfl := sI e3q
  conv => arg 2; whnf
  have b0 := cellv hb 0 rfl
  have bl := lt_heap hb
  clear hb
  by_cases h : c ≠ 0
  · have t0 := h
    have t1 : (c != 0) = true := by first | exact bne_iff_ne.2 (by omega) | exact bne_eq_false_iff_eq.2 (by omega)
    rw [show decide (c ≠ 0) = true from by simpa using h] at hN
    clear h
    have HN := Lib.hid hN
    clear hN
    go_wp2_with fail
    exact HN.out _ (id ⟨rfl, rfl, rfl, rfl, rfl, rfl, rfl, trivial⟩)
  · have t0 := h
    have t1 : (c != 0) = false := by first | exact bne_iff_ne.2 (by omega) | exact bne_eq_false_iff_eq.2 (by omega)
    rw [show decide (c ≠ 0) = false from by simpa using h] at hN
    clear h
    have HN := Lib.hid hN
    clear hN
    go_wp2_with fail
    exact HN.out _ (id ⟨rfl, rfl, rfl, rfl, rfl, rfl, rfl, trivial⟩)
noncomputable def c_ho_r3 : Code := sub [1, 0, 1, 1, 0, 0] (Tryd.f15.body.getD .skip)
set_option maxRecDepth 1000000 in
set_option maxHeartbeats 16000000 in
theorem ho_r3_wp {K : Act → World → Prop} {gx gb : Nat} {c j : Int} {w : World} (hbx2 : gb ≠ gx) (hbx : w.heap[gb]? = some (.cells #[.int .i64 c, .int .i64 j] 31 (0, 0))) (hx : w.heap[gx]? = some (.cells #[.int .i64 0, .int .i64 0] 31 (0, 0))) (hN : ∀ a' w', Frm 32 [(4, .bool false), (5, .pointer (some ⟨gx, 0, none⟩))] a' → w'.heap[gx]? = some (.cells #[.int .i64 c, .int .i64 j] 31 (0, 0)) → Keeps (fun k => k = gx) w w' → K a' w') : ∀ ac, Frm 32 [(5, .pointer (some ⟨gx, 0, none⟩)), (6, .pointer (some ⟨gb, 0, none⟩))] ac → Code.wp Tryd.prog c_ho_r3 (Exit.then K (fun _ _ _ => False)) ac w := by
  refine frm_open ?_
  refine frame_ho ?_
  intros
  rename_i hq
  obtain ⟨-, -, e0q, e1q, -⟩ := hq
  obtain rfl := sI e0q
  obtain rfl := sI e1q
  conv => arg 2; whnf
  have b0 := cellv hbx 0 rfl
  have b1 := cellv hbx 1 rfl
  have bl := lt_heap hbx
  have x0 := cellv hx 0 rfl
  have x1 := cellv hx 1 rfl
  have xf0 := free_heap hx 0
  have xf1 := free_heap hx 1
  have xl := lt_heap hx
  have HX := Lib.hid hx
  clear hbx hx
  have HN := Lib.hid hN
  clear hN
  go_region
  all_goals go_wp2_with fail
  all_goals exact HN.out _ _ (id ⟨rfl, rfl, rfl, rfl, trivial⟩) (heap_drew (at2 HX.out)) (Keeps.drew keeps2G)
noncomputable def c_ho_r6 : Code := sub [1, 1, 0, 1, 1, 0, 0] (Tryd.f15.body.getD .skip)
set_option maxRecDepth 1000000 in
set_option maxHeartbeats 16000000 in
theorem ho_r6_wp {K : Act → World → Prop} {gx gb : Nat} {c j : Int} {w : World} (hbx2 : gb ≠ gx) (hbx : w.heap[gb]? = some (.cells #[.int .i64 c, .int .i64 j] 31 (0, 0))) (hx : w.heap[gx]? = some (.cells #[.int .i64 0, .int .i64 0] 31 (0, 0))) (hN : ∀ a' w', Frm 32 [(4, .bool false), (5, .pointer (some ⟨gx, 0, none⟩))] a' → w'.heap[gx]? = some (.cells #[.int .i64 c, .int .i64 j] 31 (0, 0)) → Keeps (fun k => k = gx) w w' → K a' w') : ∀ ac, Frm 32 [(5, .pointer (some ⟨gx, 0, none⟩)), (7, .pointer (some ⟨gb, 0, none⟩))] ac → Code.wp Tryd.prog c_ho_r6 (Exit.then K (fun _ _ _ => False)) ac w := by
  refine frm_open ?_
  refine frame_ho ?_
  intros
  rename_i hq
  obtain ⟨-, -, e0q, e1q, -⟩ := hq
  obtain rfl := sI e0q
  obtain rfl := sI e1q
  conv => arg 2; whnf
  have b0 := cellv hbx 0 rfl
  have b1 := cellv hbx 1 rfl
  have bl := lt_heap hbx
  have x0 := cellv hx 0 rfl
  have x1 := cellv hx 1 rfl
  have xf0 := free_heap hx 0
  have xf1 := free_heap hx 1
  have xl := lt_heap hx
  have HX := Lib.hid hx
  clear hbx hx
  have HN := Lib.hid hN
  clear hN
  go_region
  all_goals go_wp2_with fail
  all_goals exact HN.out _ _ (id ⟨rfl, rfl, rfl, rfl, trivial⟩) (heap_drew (at2 HX.out)) (Keeps.drew keeps2G)
noncomputable def c_ho_r9 : Code := sub [1, 1, 1, 0, 1, 1, 0, 0] (Tryd.f15.body.getD .skip)
set_option maxRecDepth 1000000 in
set_option maxHeartbeats 16000000 in
theorem ho_r9_wp {K : Act → World → Prop} {gx gb : Nat} {c j : Int} {w : World} (hbx2 : gb ≠ gx) (hbx : w.heap[gb]? = some (.cells #[.int .i64 c, .int .i64 j] 31 (0, 0))) (hx : w.heap[gx]? = some (.cells #[.int .i64 0, .int .i64 0] 31 (0, 0))) (hN : ∀ a' w', Frm 32 [(4, .bool false), (5, .pointer (some ⟨gx, 0, none⟩))] a' → w'.heap[gx]? = some (.cells #[.int .i64 c, .int .i64 j] 31 (0, 0)) → Keeps (fun k => k = gx) w w' → K a' w') : ∀ ac, Frm 32 [(5, .pointer (some ⟨gx, 0, none⟩)), (8, .pointer (some ⟨gb, 0, none⟩))] ac → Code.wp Tryd.prog c_ho_r9 (Exit.then K (fun _ _ _ => False)) ac w := by
  refine frm_open ?_
  refine frame_ho ?_
  intros
  rename_i hq
  obtain ⟨-, -, e0q, e1q, -⟩ := hq
  obtain rfl := sI e0q
  obtain rfl := sI e1q
  conv => arg 2; whnf
  have b0 := cellv hbx 0 rfl
  have b1 := cellv hbx 1 rfl
  have bl := lt_heap hbx
  have x0 := cellv hx 0 rfl
  have x1 := cellv hx 1 rfl
  have xf0 := free_heap hx 0
  have xf1 := free_heap hx 1
  have xl := lt_heap hx
  have HX := Lib.hid hx
  clear hbx hx
  have HN := Lib.hid hN
  clear hN
  go_region
  all_goals go_wp2_with fail
  all_goals exact HN.out _ _ (id ⟨rfl, rfl, rfl, rfl, trivial⟩) (heap_drew (at2 HX.out)) (Keeps.drew keeps2G)
noncomputable def c_ho_r10 : Code := sub [1, 1, 1, 1, 0] (Tryd.f15.body.getD .skip)
set_option maxRecDepth 1000000 in
set_option maxHeartbeats 16000000 in
theorem ho_r10_wp {Q : Exit → Act → World → Prop} {bb : Bool} {z : Int} {Am Bm : Option Addr} {nm1 cm nm2 dm : Nat} {wo w : World} {kd : Int} {nm : ByteArray} {A B : Option Addr} {n1 c1 n2 c2 : Nat} (hgm : w.heap[wo.heap.size]? = some (.cells #[.int .i64 z, .slice Am nm1 cm, .slice Bm nm2 dm] 25 (0, 0))) (ha : w.heap[wo.heap.size + 1]? = some (.cells #[.int .i64 kd, .string nm, .slice A n1 c1, .slice B n2 c2] 29 (0, 0))) (hx : w.heap[wo.heap.size + 1 + 1]? = some (.cells #[.int .i64 0, .int .i64 0] 31 (0, 0))) (hc : Calls Tryd.prog 48 #[.agg #[.int .i64 z, .slice Am nm1 cm, .slice Bm nm2 dm], .agg #[.int .i64 kd, .string nm, .slice A n1 c1, .slice B n2 c2], .slice none 0 0] w fun e w' => e = .returned (.bool bb) ∧ Below w.heap.size w w') (hN : ∀ w1 a' w', Frm 32 [(4, .bool bb), (5, .pointer (some ⟨(wo.heap.size + 1 + 1), 0, none⟩))] a' → w'.heap[wo.heap.size + 1 + 1]? = some (.cells #[.int .i64 0, .int .i64 0] 31 (0, 0)) → Below w.heap.size w w1 → Keeps (fun k => k = wo.heap.size + 1 + 1) w1 w' → Q .normal a' w') : ∀ ac, Frm 32 [(2, .pointer (some ⟨wo.heap.size, 0, none⟩)), (3, .pointer (some ⟨(wo.heap.size + 1), 0, none⟩)), (5, .pointer (some ⟨(wo.heap.size + 1 + 1), 0, none⟩))] ac → Code.wp Tryd.prog c_ho_r10 Q ac w := by
  refine frm_open ?_
  refine frame_ho ?_
  intros
  rename_i hq
  obtain ⟨-, -, e0q, e1q, e2q, -⟩ := hq
  obtain rfl := sI e0q
  obtain rfl := sI e1q
  obtain rfl := sI e2q
  conv => arg 2; whnf
  have XC := Lib.hid (fun (W : World) (h : W.heap[wo.heap.size + 1 + 1]? = some (.cells #[.int .i64 0, .int .i64 0] 31 (0, 0))) => And.intro (cellv h 0 rfl) (And.intro (cellv h 1 rfl) (And.intro (free_heap h 0) (free_heap h 1))))
  have m0 := cellv hgm 0 rfl
  have m1 := cellv hgm 1 rfl
  have m2 := cellv hgm 2 rfl
  have ml := lt_heap hgm
  clear hgm
  have a0 := cellv ha 0 rfl
  have a1 := cellv ha 1 rfl
  have a2 := cellv ha 2 rfl
  have a3 := cellv ha 3 rfl
  have al := lt_heap ha
  clear ha
  have HN := Lib.hid hN
  have HC := Lib.hid hc
  have HX := Lib.hid hx
  clear hN hc hx
  go_wp2_with fail
  (with_reducible refine HC.out.mono ?_)
  rintro e w1 ⟨rfl, hb1⟩
  have hx1 := (hb1.block _ (lt_heap HX.out)).trans HX.out
  obtain ⟨u0, u1, uf0, uf1⟩ := XC.out w1 hx1
  have ul := lt_heap hx1
  have HX1 := Lib.hid hx1
  have HB1 := Lib.hid hb1
  clear hb1 hx1
  go_wp2_with fail
  exact HN.out _ _ _ (id ⟨rfl, rfl, rfl, rfl, trivial⟩) (at2 HX1.out) HB1.out keeps2G
set_option maxRecDepth 1000000 in
theorem ho_ret_wp {R : Ending → World → Prop} {w' : World} {gx : Nat} {c j : Int} {bb : Bool} (hx : w'.heap[gx]? = some (.cells #[.int .i64 c, .int .i64 j] 31 (0, 0))) (hR : R (.returned (.tuple #[.bool bb, .agg #[.int .i64 c, .int .i64 j]])) w') : ∀ ac, Frm 32 [(4, .bool bb), (5, .pointer (some ⟨gx, 0, none⟩))] ac → bodyPost Tryd.prog Tryd.f15 R .ret ac w' := by
  refine frm_open ?_
  refine frame_ho ?_
  intros
  rename_i hq
  obtain ⟨-, -, e0q, e1q, -⟩ := hq
  obtain rfl := sI e0q
  obtain rfl := sI e1q
  have x0 := cellv hx 0 rfl
  have x1 := cellv hx 1 rfl
  have xl := lt_heap hx
  refine bodyPost_ret (v := .tuple #[.bool bb, .agg #[.int .i64 c, .int .i64 j]]) (by simp [results, Tryd.results15, go_sem, x0, x1, xl]) rfl ?_
  exact hR
/-- What is wrong with a model and a formula, and with both together. -/
def holdsC (m : Md) (t : Fm) : Int × Int := if (mdFault m).1 ≠ 0 then (((mdFault m).1 : Nat), ((mdFault m).2 : Nat)) else if (fmFault t).1 ≠ 0 then (((fmFault t).1 : Nat), ((fmFault t).2 : Nat)) else pairT m t
theorem pairT_zero {m : Md} {t : Fm} (h : (pairT m t).1 = 0) : pairT m t = (0, 0) ∧ nestT t ≤ 5 ∧ allC m (fmConsts t) = true ∧ hasT m t = true := by
  unfold pairT at h ⊢
  split at h
  · exact absurd h (by simp)
  rename_i h1
  split at h
  · exact absurd h (by simp)
  rename_i h2
  split at h
  · exact absurd h (by simp)
  rename_i h3
  rw [if_neg h1, if_neg h2, if_neg h3]
  exact ⟨rfl, by omega, by simpa using h2, by simpa using h3⟩
theorem fault_ok9 {t : Fm} (h : (fmFault t).1 = 0) : ∃ v : Fv, t = v.fm ∧ v.ok ∧ v.nodes ≤ 200 ∧ v.depth ≤ 40 ∧ fmFault t = (0, 0) := by
  obtain ⟨v, e, h1, h2, h3, h4⟩ := Fv.of_val t 1 0 h
  exact ⟨v, e, h1, by omega, by omega, Prod.ext h ((fmVal_le false t 1 0 (by omega)).2 h).2⟩
theorem frees_few : ∀ (v : Fv), v.ok → ∀ bd : List ByteArray, (fmFrees bd v.fm).length ≤ 3 * v.nodes
  | .tru, _, _ => by simp [Fv.fm, fmFrees, fmFreess]
  | .pred n ws, h, bd => by
    have h1 := h.2.1
    have h2 := List.length_filter_le (fun w => !hasB bd w) ws
    simp only [Fv.fm, fmFrees, fmFreess, List.append_nil, Fv.nodes]; omega
  | .same a b, _, bd => by
    have h2 := List.length_filter_le (fun w => !hasB bd w) [a, b]
    simp only [Fv.fm, fmFrees, fmFreess, List.append_nil, Fv.nodes, List.length_cons, List.length_nil] at h2 ⊢; omega
  | .neg f, h, bd => by
    have := fun b => frees_few f h b
    simp only [Fv.fm, fmFrees, fmFreess, List.append_nil, List.filter_nil, List.nil_append, Fv.nodes]
    refine Nat.le_trans (this _) ?_
    omega
  | .bin _ f g, h, bd => by
    have h1 := fun b => frees_few f h.2.1 b
    have h2 := fun b => frees_few g h.2.2 b
    simp only [Fv.fm, fmFrees, fmFreess, List.append_nil, List.filter_nil, List.nil_append, Fv.nodes, List.length_append]
    refine Nat.le_trans (Nat.add_le_add (h1 _) (h2 _)) ?_
    omega
  | .qu _ _ f, h, bd => by
    have := fun b => frees_few f h.2.2 b
    simp only [Fv.fm, fmFrees, fmFreess, List.append_nil, List.filter_nil, List.nil_append, Fv.nodes]
    refine Nat.le_trans (this _) ?_
    omega
theorem fm_small {v : Fv} (hv : v.ok) (hn : v.nodes ≤ 200) : v.fm.nodes ≤ 1000000 ∧ (fmFrees [] v.fm).length ≤ 1000000 := by
  have h2 := frees_few v hv []
  rw [Fv.fm_nodes]
  omega
set_option maxRecDepth 100000 in
set_option maxHeartbeats 4000000 in
/-- truth.Holds. -/
theorem holds_any (m : Md) (t : Fm) (ms cs : List Value) (w : World) (S : Nat → Prop) (ht : fmRep.R w S t cs) (hm : m.In w S ms) (hS : ∀ b, S b → b < w.heap.size) :
    Calls Tryd.prog 15 #[.agg ms.toArray, .agg cs.toArray] w fun e w' => ∃ b, e = .returned (.tuple #[.bool b, .agg #[.int .i64 (holdsC m t).1, .int .i64 (holdsC m t).2]]) ∧ ((holdsC m t).1 ≠ 0 → b = false) ∧ ((holdsC m t).1 = 0 → ∃ v : Fv, t = v.fm ∧ v.ok ∧ v.nodes ≤ 200 ∧ v.depth ≤ 40 ∧ b = evalF m v []) ∧ Below w.heap.size w w' := by
  obtain ⟨A, n1, c1, B, n2, c2, rfl, _, _, _, _⟩ := Fm.shape ht
  obtain ⟨Am, cm, Bm, dm, rfl, _, _, _, _⟩ := Md.shape hm
  obtain ⟨kd, hkd⟩ : ∃ k, t.lab.kind = k := ⟨_, rfl⟩
  obtain ⟨nm, hnm⟩ : ∃ k, t.lab.nm = k := ⟨_, rfl⟩
  rw [hkd, hnm] at ht ⊢
  go_enter Tryd.func15, Tryd.ntmps15
  refine wp_seq ?_
  refine ho_r0_wp (fun a0 h0 => ?_) _ (id ⟨rfl, rfl, rfl, rfl, trivial⟩)
  refine gen_last (fun wx => wx.heap[w.heap.size]? = some (.cells #[.int .i64 m.sz, .slice Am m.cs.length cm, .slice Bm m.rs.length dm] 25 (0, 0)) ∧ wx.heap[w.heap.size + 1]? = some (.cells #[.int .i64 kd, .string nm, .slice A n1 c1, .slice B n2 c2] 29 (0, 0)) ∧ wx.heap[w.heap.size + 1 + 1]? = some (.cells #[.int .i64 0, .int .i64 0] 31 (0, 0)) ∧ Below w.heap.size w wx) ⟨heap_old (by simp; omega) (heap_old (by simp) (heap_at rfl)), heap_old (by simp) (heap_at (by simp)), heap_at (by simp), by go_grown⟩ ?_
  rintro wy ⟨hmy, hay, hey, hby⟩
  have hbys := hby.size
  have hgyl := lt_heap hey
  have hkeep : ∀ W : World, Below w.heap.size w W → ∀ k, S k → W.heap[k]? = w.heap[k]? := fun W hb k hk => hb.block k (hS k hk)
  have hlt : ∀ W : World, Below w.heap.size w W → ∀ k, S k → k < W.heap.size := fun W hb k hk => by have := hS k hk; have := hb.size; omega
  refine wp_seq ?_
  refine wp_seq ?_
  have hv1 := validateMd_any m _ wy S (hm.keep (hkeep wy hby) (fun _ h => h)) (hlt wy hby)
  unfold MdAt at hv1
  refine ho_r1_wp hmy hv1 (fun g1 a1 w1 h1 hg1 hge1 hb1 => ?_) a0 h0
  have hb1s := hb1.size
  have hx1 := (hb1.block _ (lt_heap hey)).trans hey
  refine wp_seq ?_
  refine ho_r2_wp hge1 (fun a2 h2 => ?_) a1 h1
  by_cases hf1 : ((mdFault m).1 : Int) ≠ 0
  · refine wp_cond_true ((h2.eval (k := 13) (v := .bool (decide (((mdFault m).1 : Int) ≠ 0))) (by simp)).trans (by rw [decide_eq_true hf1])) ?_
    have hcc : holdsC m t = ((((mdFault m).1 : Nat) : Int), (((mdFault m).2 : Nat) : Int)) := if_pos (by omega)
    rw [hcc]
    refine wp_seq ?_
    refine wp_thenQ (ho_r3_wp (by omega) hge1 hx1 (fun a20 w20 h20 hx20 hk20 => ?_) a2 ⟨h2.1, h2.2.1, h2.2.2.2.2.1, h2.2.2.2.2.2.1, trivial⟩)
    refine wp_ret ?_
    repeat (first | refine thenR ?_ | refine inBlockR ?_)
    refine ho_ret_wp hx20 ⟨false, rfl, fun _ => rfl, fun h0 => absurd h0 hf1, (hby.trans (hb1.mono hbys)).trans (Keeps.below (B := w.heap.size) hk20 (fun k e => by have e : k = w.heap.size + 1 + 1 := e; omega) (by have := (hby.trans (hb1.mono hbys)).size; omega))⟩ a20 h20
  refine wp_cond_false ((h2.eval (k := 13) (v := .bool (decide (((mdFault m).1 : Int) ≠ 0))) (by simp)).trans (by rw [decide_eq_false hf1])) ?_
  refine wp_skip ?_
  show Code.wp _ _ _ a2 w1
  have hm0 : (mdFault m).1 = 0 := by omega
  have hg := Md.good_of hm0
  have hb01 := hby.trans (hb1.mono hbys)
  refine wp_seq ?_
  refine wp_seq ?_
  have hv2 := validateFm_any t [.int .i64 kd, .string nm, .slice A n1 c1, .slice B n2 c2] w1 S (fmRep.keep ht (hkeep w1 hb01) (fun _ h => h)) (hlt w1 hb01)
  have hay1 := (hb1.block _ (lt_heap hay)).trans hay
  have hmy1 := (hb1.block _ (lt_heap hmy)).trans hmy
  refine ho_r4_wp hay1 hv2 (fun g2 a3 w2 h3 hg2 hge2 hb2 => ?_) a2 ⟨h2.1, h2.2.1, h2.2.2.1, h2.2.2.2.1, h2.2.2.2.2.1, trivial⟩
  have hb2s := hb2.size
  have hx2 := (hb2.block _ (lt_heap hx1)).trans hx1
  refine wp_seq ?_
  refine ho_r5_wp hge2 (fun a4 h4 => ?_) a3 h3
  have hb02 := hb01.trans (hb2.mono (by omega))
  by_cases hf2 : ((fmFault t).1 : Int) ≠ 0
  · refine wp_cond_true ((h4.eval (k := 19) (v := .bool (decide (((fmFault t).1 : Int) ≠ 0))) (by simp)).trans (by rw [decide_eq_true hf2])) ?_
    have hcc : holdsC m t = ((((fmFault t).1 : Nat) : Int), (((fmFault t).2 : Nat) : Int)) := by
      unfold holdsC
      rw [if_neg (by omega), if_pos (by omega)]
    rw [hcc]
    refine wp_seq ?_
    refine wp_thenQ (ho_r6_wp (by omega) hge2 hx2 (fun a20 w20 h20 hx20 hk20 => ?_) a4 ⟨h4.1, h4.2.1, h4.2.2.2.2.1, h4.2.2.2.2.2.1, trivial⟩)
    refine wp_ret ?_
    repeat (first | refine thenR ?_ | refine inBlockR ?_)
    refine ho_ret_wp hx20 ⟨false, rfl, fun _ => rfl, fun h0 => absurd h0 hf2, hb02.trans (Keeps.below (B := w.heap.size) hk20 (fun k e => by have e : k = w.heap.size + 1 + 1 := e; omega) (by have := hb02.size; omega))⟩ a20 h20
  refine wp_cond_false ((h4.eval (k := 19) (v := .bool (decide (((fmFault t).1 : Int) ≠ 0))) (by simp)).trans (by rw [decide_eq_false hf2])) ?_
  refine wp_skip ?_
  show Code.wp _ _ _ a4 w2
  have ht0 : (fmFault t).1 = 0 := by omega
  obtain ⟨v, hvt, ov, nv, dv, ev⟩ := fault_ok9 ht0
  have hsm := fm_small ov nv
  have hcc : holdsC m t = pairT m t := by
    unfold holdsC
    rw [if_neg (by omega), if_neg (by omega)]
  rw [hcc]
  refine wp_seq ?_
  refine wp_seq ?_
  have hay2 := (hb2.block _ (lt_heap hay1)).trans hay1
  have hmy2 := (hb2.block _ (lt_heap hmy1)).trans hmy1
  have hv3 := fault_any m hg t [.int .i64 m.sz, .slice Am m.cs.length cm, .slice Bm m.rs.length dm] [.int .i64 kd, .string nm, .slice A n1 c1, .slice B n2 c2] w2 S (fmRep.keep ht (hkeep w2 hb02) (fun _ h => h)) (hlt w2 hb02) (hm.keep (hkeep w2 hb02) (fun _ h => h)) (by rw [hvt]; exact hsm.1) (by rw [hvt]; exact hsm.2)
  refine ho_r7_wp hmy2 hay2 hv3 (fun g3 a5 w3 h5 hg3 hge3 hb3 => ?_) a4 ⟨h4.1, h4.2.1, h4.2.2.1, h4.2.2.2.1, h4.2.2.2.2.1, trivial⟩
  have hb3s := hb3.size
  have hx3 := (hb3.block _ (lt_heap hx2)).trans hx2
  refine wp_seq ?_
  refine ho_r8_wp hge3 (fun a6 h6 => ?_) a5 h5
  have hb03 := hb02.trans (hb3.mono (by omega))
  by_cases hf3 : (pairT m t).1 ≠ 0
  · refine wp_cond_true ((h6.eval (k := 26) (v := .bool (decide ((pairT m t).1 ≠ 0))) (by simp)).trans (by rw [decide_eq_true hf3])) ?_
    refine wp_seq ?_
    refine wp_thenQ (ho_r9_wp (by omega) hge3 hx3 (fun a20 w20 h20 hx20 hk20 => ?_) a6 ⟨h6.1, h6.2.1, h6.2.2.2.2.1, h6.2.2.2.2.2.1, trivial⟩)
    refine wp_ret ?_
    repeat (first | refine thenR ?_ | refine inBlockR ?_)
    refine ho_ret_wp hx20 ⟨false, rfl, fun _ => rfl, fun h0 => absurd h0 hf3, hb03.trans (Keeps.below (B := w.heap.size) hk20 (fun k e => by have e : k = w.heap.size + 1 + 1 := e; omega) (by have := hb03.size; omega))⟩ a20 h20
  refine wp_cond_false ((h6.eval (k := 26) (v := .bool (decide ((pairT m t).1 ≠ 0))) (by simp)).trans (by rw [decide_eq_false hf3])) ?_
  refine wp_skip ?_
  show Code.wp _ _ _ a6 w3
  obtain ⟨hp0, _, _, hrel⟩ := pairT_zero (Decidable.not_not.1 hf3)
  rw [hp0]
  have hay3 := (hb3.block _ (lt_heap hay2)).trans hay2
  have hmy3 := (hb3.block _ (lt_heap hmy2)).trans hmy2
  subst hvt
  rw [hasT_fm m v ov] at hrel
  have hv4 := value_any m hg v ov hrel [] [.int .i64 kd, .string nm, .slice A n1 c1, .slice B n2 c2] w3 S none 0 0 (by simp; omega) (fmRep.keep ht (hkeep w3 hb03) (fun _ h => h)) Rep.Sl.nil (fun _ => rfl) (Nat.le_refl _) (hm.keep (hkeep w3 hb03) (fun _ h => h)) (hlt w3 hb03)
  refine wp_seq ?_
  refine ho_r10_wp hmy3 hay3 hx3 hv4 (fun w4 a7 w5 h7 hx7 hb4 hk5 => ?_) a6 ⟨h6.1, h6.2.1, h6.2.2.1, h6.2.2.2.1, h6.2.2.2.2.1, trivial⟩
  have hb04 := hb03.trans (hb4.mono (by omega))
  refine wp_ret ?_
  exact ho_ret_wp hx7 ⟨_, rfl, fun h => absurd rfl h, fun _ => ⟨v, rfl, ov, nv, dv, rfl⟩, hb04.trans (Keeps.below (B := w.heap.size) hk5 (fun k e => by have e : k = w.heap.size + 1 + 1 := e; omega) (by have := hb04.size; omega))⟩ a7 h7
end

section
open Go Go.RowKit
set_option linter.unusedSimpArgs false
set_option linter.unusedVariables false
theorem pred_any (nm : ByteArray) (v : Value) (w : World) (hv : ∃ A n c, v = .slice A n c) : Calls Tryd.prog 17 #[.string nm, v] w fun e w' => e = .returned (.agg #[.int .i64 2, .string nm, v, .slice none 0 0]) ∧ Below w.heap.size w w' := by
  obtain ⟨A, n, c, rfl⟩ := hv
  go_enter Tryd.func17, Tryd.ntmps17
  go_wp2_with fail
  refine bodyPost_ret (v := .agg #[.int .i64 2, .string nm, .slice A n c, .slice none 0 0]) (by simp [results, Tryd.results17, go_sem]) rfl ?_
  exact ⟨rfl, by go_grown⟩
def bDog : ByteArray := ⟨#[100, 111, 103]⟩
end

section
open Go Go.RowKit
set_option linter.unusedSimpArgs false
set_option linter.unusedVariables false
/-- A formula is known by its tree. -/
theorem Fv.fm_inj : ∀ (v v' : Fv), v.ok → v'.ok → v.fm = v'.fm → v = v' := by
  intro v
  induction v with
  | tru =>
    intro v' h1 h2 h
    cases v' <;> simp only [Fv.fm, Fv.ok, Tree.mk.injEq, FmL.mk.injEq] at h h2 <;> first | rfl | (exfalso; omega)
  | pred n ws =>
    intro v' h1 h2 h
    cases v' <;> simp only [Fv.fm, Fv.ok, Tree.mk.injEq, FmL.mk.injEq] at h h2 <;> first | (obtain ⟨⟨_, rfl, rfl⟩, _⟩ := h; rfl) | (exfalso; omega)
  | same a b =>
    intro v' h1 h2 h
    cases v' <;> simp only [Fv.fm, Fv.ok, Tree.mk.injEq, FmL.mk.injEq] at h h2 <;> first | (exfalso; omega) | (obtain ⟨⟨_, _, h3⟩, _⟩ := h; simp at h3; obtain ⟨rfl, rfl⟩ := h3; rfl)
  | neg f ih =>
    intro v' h1 h2 h
    cases v' <;> simp only [Fv.fm, Fv.ok, Tree.mk.injEq, FmL.mk.injEq] at h h2 <;> first | (exfalso; omega) | (obtain ⟨_, h3⟩ := h; rw [ih _ h1 h2 (List.cons.inj h3).1])
  | bin k f g ihf ihg =>
    intro v' h1 h2 h
    have hk := h1.1
    cases v' <;> simp only [Fv.fm, Fv.ok, Tree.mk.injEq, FmL.mk.injEq] at h h2 <;> first | (exfalso; omega) | (obtain ⟨⟨h0, _, _⟩, h3⟩ := h; obtain ⟨h4, h5⟩ := List.cons.inj h3; rw [ihf _ h1.2.1 h2.2.1 h4, ihg _ h1.2.2 h2.2.2 (List.cons.inj h5).1, Int.ofNat_inj.1 h0])
  | qu k x f ih =>
    intro v' h1 h2 h
    have hk := h1.1
    cases v' <;> simp only [Fv.fm, Fv.ok, Tree.mk.injEq, FmL.mk.injEq] at h h2 <;> first | (exfalso; omega) | (obtain ⟨⟨h0, h6, _⟩, h3⟩ := h; rw [ih _ h1.2.2 h2.2.2 (List.cons.inj h3).1, h6, Int.ofNat_inj.1 h0])
set_option maxRecDepth 100000 in
set_option maxHeartbeats 4000000 in
theorem notT_any (kd : Int) (nm : ByteArray) (A : Option Addr) (n1 c1 : Nat) (B : Option Addr) (n2 c2 : Nat) (w : World) : Calls Tryd.prog 20 #[.agg #[.int .i64 kd, .string nm, .slice A n1 c1, .slice B n2 c2]] w fun e w' => ∃ g, e = .returned (.agg #[.int .i64 4, .string ⟨#[]⟩, .slice none 0 0, .slice (some ⟨g, 0, none⟩) 1 1]) ∧ w'.heap[g]? = some (.cells #[.int .i64 kd, .string nm, .slice A n1 c1, .slice B n2 c2] 29 (0, 0)) ∧ w.heap.size ≤ g ∧ Below w.heap.size w w' := by
  go_enter Tryd.func20, Tryd.ntmps20
  go_wp2_with fail
  refine bodyPost_ret (v := .agg #[.int .i64 4, .string ⟨#[]⟩, .slice none 0 0, .slice (some ⟨w.heap.size + 1 + 1, 0, none⟩) 1 1]) (by simp [results, Tryd.results20, go_sem]) rfl ?_
  exact ⟨_, rfl, heap_at (by simp), by omega, by go_grown⟩
set_option maxRecDepth 100000 in
set_option maxHeartbeats 4000000 in
theorem boundT_any (k : Int) (y : ByteArray) (kd : Int) (nm : ByteArray) (A : Option Addr) (n1 c1 : Nat) (B : Option Addr) (n2 c2 : Nat) (w : World) : Calls Tryd.prog 22 #[.int .i64 k, .string y, .agg #[.int .i64 kd, .string nm, .slice A n1 c1, .slice B n2 c2]] w fun e w' => ∃ g, e = .returned (.agg #[.int .i64 k, .string y, .slice none 0 0, .slice (some ⟨g, 0, none⟩) 1 1]) ∧ w'.heap[g]? = some (.cells #[.int .i64 kd, .string nm, .slice A n1 c1, .slice B n2 c2] 29 (0, 0)) ∧ w.heap.size ≤ g ∧ Below w.heap.size w w' := by
  go_enter Tryd.func22, Tryd.ntmps22
  go_wp2_with fail
  refine bodyPost_ret (v := .agg #[.int .i64 k, .string y, .slice none 0 0, .slice (some ⟨w.heap.size + 1 + 1, 0, none⟩) 1 1]) (by simp [results, Tryd.results22, go_sem]) rfl ?_
  exact ⟨_, rfl, heap_at (by simp), by omega, by go_grown⟩
/-- One part in a block of its own. -/
theorem kid1_rep {W : World} {S : Nat → Prop} {t : Fm} {g : Nat} {k : Int} {x : ByteArray} {kd : Int} {nm : ByteArray} {A B : Option Addr} {n1 c1 n2 c2 : Nat} (hx : x.size ≤ maxLen) (hr : fmRep.R W S t [.int .i64 kd, .string nm, .slice A n1 c1, .slice B n2 c2]) (hg : W.heap[g]? = some (.cells #[.int .i64 kd, .string nm, .slice A n1 c1, .slice B n2 c2] 29 (0, 0))) (sg : S g) : fmRep.R W S (.mk ⟨k, x, []⟩ [t]) [.int .i64 k, .string x, .slice none 0 0, .slice (some ⟨g, 0, none⟩) 1 1] := by
  refine Fm.shut (a := ⟨k, x, []⟩) (l := [t]) hx Rep.Sl.nil ?_
  refine ⟨_, _, _, rfl, rfl, by decide, fun _ => ⟨g, 0, _, rfl, sg, Rep.All.single hr, fun j u hj => ?_⟩⟩
  rw [Nat.zero_add]
  match j, hj with
  | 0, hj => exact (cellv hg 0 rfl).trans (by simpa using hj)
  | 1, hj => exact (cellv hg 1 rfl).trans (by simpa using hj)
  | 2, hj => exact (cellv hg 2 rfl).trans (by simpa using hj)
  | 3, hj => exact (cellv hg 3 rfl).trans (by simpa using hj)
  | n + 4, hj => simp at hj
theorem slS1t {w : World} {S : Nat → Prop} {g : Nat} {a : ByteArray} {T : TypeId} (hb : w.heap[g]? = some (.cells #[.string a] T (0, 0))) (h1 : a.size ≤ maxLen) (hg : S g) : strRep.Sl w S (.slice (some ⟨g, 0, none⟩) 1 1) [a] := by
  refine ⟨_, 1, 1, rfl, rfl, by simp [maxLen], fun _ => ⟨g, 0, [.string a], rfl, hg, ⟨[.string a], [], rfl, ⟨rfl, h1⟩, rfl⟩, fun j u hj => ?_⟩⟩
  rw [Nat.zero_add]
  match j, hj with
  | 0, hj => exact (cellv hb 0 rfl).trans (by simpa using hj)
  | n + 1, hj => simp at hj
theorem dog_rep {W : World} {S : Nat → Prop} {a : ByteArray} {g : Nat} {T : TypeId} (ha : a.size ≤ maxLen) (hg : W.heap[g]? = some (.cells #[.string a] T (0, 0))) (sg : S g) : fmRep.R W S (Fv.pred bDog [a]).fm [.int .i64 2, .string bDog, .slice (some ⟨g, 0, none⟩) 1 1, .slice none 0 0] :=
  Fm.shut (a := ⟨2, bDog, [a]⟩) (l := []) (show bDog.size ≤ maxLen from by decide +kernel) (slS1t hg ha sg) Rep.Sl.nil
theorem allC_of {m : Md} {t : Fm} (h : ∀ c ∈ fmFrees [] t, (conV m c).isSome = true) : allC m (fmConsts t) = true := by
  unfold allC
  rw [List.all_eq_true]
  intro c hc
  exact h c (mem_constsB.1 hc)
theorem fault_ok0 {v : Fv} (hv : v.ok) (hn : v.nodes ≤ 200) (hd : v.depth ≤ 40) : fmFault v.fm = (0, 0) := by
  unfold fmFault
  rw [Fv.val_ok false v 1 0 hv (by omega) (by omega)]
theorem holdsC_zero {m : Md} {v : Fv} (hm : (mdFault m).1 = 0) (hv : v.ok) (hn : v.nodes ≤ 200) (hd : v.depth ≤ 40) (h1 : nestT v.fm ≤ 5) (h2 : ∀ c ∈ fmFrees [] v.fm, (conV m c).isSome = true) (h3 : hasT m v.fm = true) : holdsC m v.fm = (0, 0) := by
  unfold holdsC
  rw [if_neg (by omega), if_neg (by rw [fault_ok0 hv hn hd]; simp)]
  unfold pairT
  rw [if_neg (by omega), if_neg (by rw [allC_of h2]; decide), if_neg (by rw [h3]; decide)]
theorem mdSmall_zero : (mdFault mdSmall).1 = 0 := by rw [mdSmall_ok]
def exAll : Fv := .qu 8 ⟨#[120]⟩ (.pred bDog [⟨#[120]⟩])
theorem exAll_ok : exAll.ok := ⟨Or.inl rfl, by decide +kernel, by decide +kernel, by decide, by decide +kernel⟩
theorem exAll_zero : holdsC mdSmall exAll.fm = (0, 0) := holdsC_zero mdSmall_zero exAll_ok (by decide) (by decide) (by decide +kernel) (by decide +kernel) (by decide +kernel)
theorem exAll_eval : evalF mdSmall exAll [] = true := by decide +kernel
/-- truth.Holds on a formula with which nothing is wrong. -/
theorem holds_good {m : Md} {v : Fv} {bb : Bool} (hz : holdsC m v.fm = (0, 0)) (hok : v.ok) (he : evalF m v [] = bb) (ms cs : List Value) (W : World) (S : Nat → Prop) (hm : m.In W S ms) (ht : fmRep.R W S v.fm cs) (hS : ∀ b, S b → b < W.heap.size) : Calls Tryd.prog 15 #[.agg ms.toArray, .agg cs.toArray] W fun e w' => e = .returned (.tuple #[.bool bb, .agg #[.int .i64 0, .int .i64 0]]) ∧ Below W.heap.size W w' := by
  refine (holds_any m v.fm ms cs W S ht hm hS).mono ?_
  rintro e w' ⟨b, rfl, _, h2, hb⟩
  obtain ⟨v', e1, ok', _, _, rfl⟩ := h2 (by rw [hz])
  obtain rfl := Fv.fm_inj v v' hok ok' e1
  rw [hz, he]
  exact ⟨rfl, hb⟩
theorem holdsC_snd {m : Md} {t : Fm} (h : (holdsC m t).1 = 0) : holdsC m t = (0, 0) := by
  unfold holdsC at h ⊢
  split at h
  · rename_i h1; exact absurd h (by simp; omega)
  rename_i h1
  rw [if_neg h1]
  split at h
  · rename_i h2; exact absurd h (by simp; omega)
  rename_i h2
  rw [if_neg h2]
  exact (pairT_zero h).1
theorem holdsC_ok {m : Md} {t : Fm} (h : (holdsC m t).1 = 0) : (mdFault m).1 = 0 ∧ (fmFault t).1 = 0 ∧ (pairT m t).1 = 0 := by
  unfold holdsC at h
  split at h
  · rename_i h1; exact absurd h (by simp; omega)
  rename_i h1
  split at h
  · rename_i h2; exact absurd h (by simp; omega)
  rename_i h2
  exact ⟨by omega, by omega, h⟩
open Classical in
/-- What Holds returns. -/
noncomputable def holdsB (m : Md) (t : Fm) : Bool := if (holdsC m t).1 = 0 then (if h : ∃ v : Fv, t = v.fm ∧ v.ok then evalF m h.choose [] else false) else false
theorem holdsB_bad {m : Md} {t : Fm} (h : (holdsC m t).1 ≠ 0) : holdsB m t = false := if_neg h
theorem holdsB_good {m : Md} {v : Fv} (h : (holdsC m v.fm).1 = 0) (hv : v.ok) : holdsB m v.fm = evalF m v [] := by
  unfold holdsB
  have hx : ∃ v' : Fv, v.fm = v'.fm ∧ v'.ok := ⟨v, rfl, hv⟩
  rw [if_pos h, dif_pos hx]
  have h2 := hx.choose_spec
  rw [← Fv.fm_inj v hx.choose hv h2.2 h2.1]
theorem holdsB_any (m : Md) (t : Fm) (ms cs : List Value) (w : World) (S : Nat → Prop) (ht : fmRep.R w S t cs) (hm : m.In w S ms) (hS : ∀ b, S b → b < w.heap.size) :
    Calls Tryd.prog 15 #[.agg ms.toArray, .agg cs.toArray] w fun e w' => e = .returned (.tuple #[.bool (holdsB m t), .agg #[.int .i64 (holdsC m t).1, .int .i64 (holdsC m t).2]]) ∧ Below w.heap.size w w' := by
  refine (holds_any m t ms cs w S ht hm hS).mono ?_
  rintro e w' ⟨b, rfl, h1, h2, hb⟩
  refine ⟨?_, hb⟩
  by_cases h : (holdsC m t).1 = 0
  · obtain ⟨v, rfl, ov, _, _, rfl⟩ := h2 h
    rw [holdsB_good h ov]
  · rw [holdsB_bad h, h1 h]
end

section
open Go Go.RowKit
set_option linter.unusedSimpArgs false
set_option linter.unusedVariables false
set_option maxRecDepth 1000000 in
theorem frame_lt {P : Act → Prop} (h : ∀ x0 x1 x2 x3 x4 x5 x6 x7 x8 x9 x10 x11 x12 x13 x14 x15 x16 x17 x18 x19 x20 x21 x22 x23 x24 x25 x26 x27 x28 x29 x30 x31 x32 x33 x34 x35 x36 x37 x38 x39 x40 x41 x42 x43 x44 x45 x46 x47 x48 x49 x50 x51 x52 x53 x54 x55 x56 x57 x58 x59 x60 : Value, P ⟨(x0 :: x1 :: x2 :: x3 :: x4 :: x5 :: x6 :: x7 :: x8 :: x9 :: x10 :: x11 :: x12 :: x13 :: x14 :: x15 :: x16 :: x17 :: x18 :: x19 :: x20 :: x21 :: x22 :: x23 :: x24 :: x25 :: x26 :: x27 :: x28 :: x29 :: x30 :: x31 :: x32 :: x33 :: x34 :: x35 :: x36 :: x37 :: x38 :: x39 :: x40 :: x41 :: x42 :: x43 :: x44 :: x45 :: x46 :: x47 :: x48 :: x49 :: x50 :: x51 :: x52 :: x53 :: x54 :: x55 :: x56 :: x57 :: x58 :: x59 :: x60 :: []).toArray, []⟩) : ∀ a : Act, a.tmps.toList.length = 61 → a.defers = [] → P a := by
  rintro ⟨⟨l⟩, d⟩ hs hd
  simp only at hd
  subst hd
  revert l
  show ∀ l : List Value, l.length = 61 → P ⟨⟨l⟩, []⟩
  iterate 61 refine openS (fun _ => ?_)
  refine open0 ?_
  exact h ..
noncomputable def c_lt_r0 : Code := sub [0] (Tryd.f11.body.getD .skip)
set_option maxRecDepth 1000000 in
set_option maxHeartbeats 16000000 in
theorem lt_r0_wp {Q : Exit → Act → World → Prop} {z : Int} {Am Bm : Option Addr} {nm1 cm nm2 dm : Nat} {wo : World} {kd : Int} {nm : ByteArray} {A B : Option Addr} {n1 c1 n2 c2 : Nat} (hN : ∀ a', Frm 61 [(2, .pointer (some ⟨wo.heap.size, 0, none⟩)), (3, .pointer (some ⟨(wo.heap.size + 1), 0, none⟩))] a' → Q .normal a' ((wo.alloc (.cells #[.int .i64 z, .slice Am nm1 cm, .slice Bm nm2 dm] 25)).alloc (.cells #[.int .i64 kd, .string nm, .slice A n1 c1, .slice B n2 c2] 29))) : ∀ ac, Frm 61 [(0, .agg #[.int .i64 z, .slice Am nm1 cm, .slice Bm nm2 dm]), (1, .agg #[.int .i64 kd, .string nm, .slice A n1 c1, .slice B n2 c2])] ac → Code.wp Tryd.prog c_lt_r0 Q ac wo := by
  refine frm_open ?_
  refine frame_lt ?_
  intros
  rename_i hq
  obtain ⟨-, -, e0q, e1q, -⟩ := hq
  obtain rfl := sI e0q
  obtain rfl := sI e1q
  conv => arg 2; whnf
  have HN := Lib.hid hN
  clear hN
  go_wp2_with fail
  exact HN.out _ (id ⟨rfl, rfl, rfl, rfl, trivial⟩)
noncomputable def c_lt_r1 : Code := sub [1, 0, 0] (Tryd.f11.body.getD .skip)
set_option maxRecDepth 1000000 in
set_option maxHeartbeats 16000000 in
theorem lt_r1_wp {Q : Exit → Act → World → Prop} {bb : Bool} {gm gf : Nat} {w : World} (hc : ∀ (W : World) (ms cs : List Value), mdSmall.In W (Lo W) ms → fmRep.R W (Lo W) exAll.fm cs → Below w.heap.size w W → Calls Tryd.prog 15 #[.agg ms.toArray, .agg cs.toArray] W fun e w' => e = .returned (.tuple #[.bool bb, .agg #[.int .i64 0, .int .i64 0]]) ∧ Below W.heap.size W w') (hN : ∀ ge a' w', Frm 61 [(2, .pointer (some ⟨gm, 0, none⟩)), (3, .pointer (some ⟨gf, 0, none⟩)), (5, .bool bb), (6, .pointer (some ⟨ge, 0, none⟩))] a' → w'.heap[ge]? = some (.cells #[.int .i64 0, .int .i64 0] 31 (0, 0)) → Below w.heap.size w w' → Q .normal a' w') : ∀ ac, Frm 61 [(2, .pointer (some ⟨gm, 0, none⟩)), (3, .pointer (some ⟨gf, 0, none⟩))] ac → Code.wp Tryd.prog c_lt_r1 Q ac w := by
  refine frm_open ?_
  refine frame_lt ?_
  intros
  rename_i hq
  obtain ⟨-, -, e0q, e1q, -⟩ := hq
  obtain rfl := sI e0q
  obtain rfl := sI e1q
  conv => arg 2; whnf
  have hp := fun (W : World) (g : Nat) => pred_any bDog (.slice (some ⟨g, 0, none⟩) 1 1) W ⟨_, _, _, rfl⟩
  unfold bDog at hp
  have hsm := fun W : World => small_any W
  have hk := fun (W W2 : World) (ms : List Value) (h : mdSmall.In W (Lo W) ms) (hb : Below W.heap.size W W2) => Md.In.keep (w' := W2) (S' := Lo W2) h (fun b h => hb.block b h) (fun b h => Nat.lt_of_lt_of_le h hb.size)
  have hbo := fun (W : World) (g : Nat) => boundT_any 8 ⟨#[120]⟩ 2 ⟨#[100, 111, 103]⟩ (some ⟨g, 0, none⟩) 1 1 none 0 0 W
  have HN := Lib.hid hN
  have HP := Lib.hid hp
  have HSM := Lib.hid hsm
  have HC := Lib.hid hc
  have HK := Lib.hid hk
  have HBO := Lib.hid hbo
  clear hN hp hsm hc hk hbo
  go_wp2_with fail
  (with_reducible refine (HSM.out _).mono ?_)
  rintro e w1 ⟨A1, c1, B1, d1, rfl, hin1, hb1⟩
  have hin1' := Md.In.keep (S' := Lo w1) hin1 (fun b hb => rfl) (fun b hb => hb.2)
  have HIN1 := Lib.hid hin1'
  have HB1 := Lib.hid hb1
  clear hin1 hin1' hb1
  go_wp2_with fail
  (with_reducible refine (HP.out _ _).mono ?_)
  rintro e w2 ⟨rfl, hb2⟩
  have hz1 := HB1.out.size
  have hz2 := hb2.size
  have hg2 := (hb2.block w1.heap.size (by simp)).trans (heap_alloc_new _ _)
  have hB12 : Below w1.heap.size w1 w2 := (show Below w1.heap.size w1 _ by go_grown).trans (hb2.mono (by simp))
  have hB2 : Below w.heap.size w w2 := HB1.out.trans (hB12.mono hz1)
  have HIN2 := Lib.hid (HK.out _ _ _ HIN1.out hB12)
  have hr2 : fmRep.R w2 (Lo w2) (Fv.pred bDog [⟨#[120]⟩]).fm [.int .i64 2, .string ⟨#[100, 111, 103]⟩, .slice (some ⟨w1.heap.size, 0, none⟩) 1 1, .slice none 0 0] := dog_rep (by decide +kernel) hg2 (by have := lt_heap hg2; exact this)
  have HR2 := Lib.hid hr2
  have HB2 := Lib.hid hB2
  clear hb2 hg2 hB12 hB2 hr2 hz2 hz1
  go_wp2_with fail
  (with_reducible refine (HBO.out _ _).mono ?_)
  rintro e w3 ⟨g3, rfl, hg3, hgl3, hb3⟩
  have hz2 := HB2.out.size
  have hB3 : Below w.heap.size w w3 := HB2.out.trans (hb3.mono hz2)
  have HIN3 := Lib.hid (HK.out _ _ _ HIN2.out hb3)
  have hr3 := kid1_rep (S := Lo w3) (k := 8) (x := ⟨#[120]⟩) (by decide +kernel) (fmRep.keep (w' := w3) (S' := Lo w3) HR2.out (fun b hb => hb3.block b hb) (fun b hb => Nat.lt_of_lt_of_le hb hb3.size)) hg3 (by have := lt_heap hg3; exact this)
  have HR3 := Lib.hid hr3
  have HB3 := Lib.hid hB3
  clear hg3 hgl3 hb3 hB3 hr3 hz2
  have HRX := Lib.hid (show fmRep.R w3 (Lo w3) exAll.fm _ from HR3.out)
  go_wp2_with fail
  (with_reducible refine (HC.out w3 _ _ HIN3.out HRX.out HB3.out).mono ?_)
  rintro e w9 ⟨rfl, hb9⟩
  have hz3 := HB3.out.size
  have HB9 := Lib.hid (HB3.out.trans (hb9.mono hz3))
  clear hb9 hz3
  go_wp2_with fail
  have hz9 := HB9.out.size
  exact HN.out w9.heap.size _ _ (id ⟨rfl, rfl, rfl, rfl, rfl, rfl, trivial⟩) (heap_at rfl) (HB9.out.alloc hz9 _)
noncomputable def c_lt_r2 : Code := sub [1, 0, 1, 0] (Tryd.f11.body.getD .skip)
set_option maxRecDepth 1000000 in
set_option maxHeartbeats 16000000 in
theorem lt_r2_wp {Q : Exit → Act → World → Prop} {gm gf : Nat} {ge : Nat} {w : World} (g0 : w.cell? ⟨0, 0, none⟩ = some (.int .i64 0)) (g1 : w.cell? ⟨0, 1, none⟩ = some (.int .i64 0)) (he : w.heap[ge]? = some (.cells #[.int .i64 0, .int .i64 0] 31 (0, 0))) (hN : ∀ a', Frm 61 [(2, .pointer (some ⟨gm, 0, none⟩)), (3, .pointer (some ⟨gf, 0, none⟩)), (27, .bool false)] a' → Q .normal a' w) : ∀ ac, Frm 61 [(2, .pointer (some ⟨gm, 0, none⟩)), (3, .pointer (some ⟨gf, 0, none⟩)), (5, .bool true), (6, .pointer (some ⟨ge, 0, none⟩))] ac → Code.wp Tryd.prog c_lt_r2 Q ac w := by
  refine frm_open ?_
  refine frame_lt ?_
  intros
  rename_i hq
  obtain ⟨-, -, e0q, e1q, e2q, e3q, -⟩ := hq
  obtain rfl := sI e0q
  obtain rfl := sI e1q
  obtain rfl := sI e2q
  obtain rfl := sI e3q
  conv => arg 2; whnf
  have e0 := cellv he 0 rfl
  have e1 := cellv he 1 rfl
  have el := lt_heap he
  have lg := World.block_lt_of_cell? w _ g0
  clear he
  have HN := Lib.hid hN
  clear hN
  go_wp2_with fail
  exact HN.out _ (id ⟨rfl, rfl, rfl, rfl, rfl, trivial⟩)
noncomputable def c_lt_r4 : Code := sub [1, 1, 0] (Tryd.f11.body.getD .skip)
set_option maxRecDepth 1000000 in
set_option maxHeartbeats 16000000 in
theorem lt_r4_wp {Q : Exit → Act → World → Prop} {bb : Bool} {c j : Int} {z : Int} {Am Bm : Option Addr} {nm1 cm nm2 dm : Nat} {kd : Int} {nm : ByteArray} {A B : Option Addr} {n1 c1 n2 c2 : Nat} {gm gf : Nat} {w : World} (hgm : w.heap[gm]? = some (.cells #[.int .i64 z, .slice Am nm1 cm, .slice Bm nm2 dm] 25 (0, 0))) (ha : w.heap[gf]? = some (.cells #[.int .i64 kd, .string nm, .slice A n1 c1, .slice B n2 c2] 29 (0, 0))) (hc : Calls Tryd.prog 15 #[.agg #[.int .i64 z, .slice Am nm1 cm, .slice Bm nm2 dm], .agg #[.int .i64 kd, .string nm, .slice A n1 c1, .slice B n2 c2]] w fun e w' => e = .returned (.tuple #[.bool bb, .agg #[.int .i64 c, .int .i64 j]]) ∧ Below w.heap.size w w') (hN : ∀ ge a' w', Frm 61 [(2, .pointer (some ⟨gm, 0, none⟩)), (3, .pointer (some ⟨gf, 0, none⟩)), (7, .bool bb), (8, .pointer (some ⟨ge, 0, none⟩))] a' → w'.heap[ge]? = some (.cells #[.int .i64 c, .int .i64 j] 31 (0, 0)) → Below w.heap.size w w' → Q .normal a' w') : ∀ ac, Frm 61 [(2, .pointer (some ⟨gm, 0, none⟩)), (3, .pointer (some ⟨gf, 0, none⟩))] ac → Code.wp Tryd.prog c_lt_r4 Q ac w := by
  refine frm_open ?_
  refine frame_lt ?_
  intros
  rename_i hq
  obtain ⟨-, -, e0q, e1q, -⟩ := hq
  obtain rfl := sI e0q
  obtain rfl := sI e1q
  conv => arg 2; whnf
  have m0 := cellv hgm 0 rfl
  have m1 := cellv hgm 1 rfl
  have m2 := cellv hgm 2 rfl
  have ml := lt_heap hgm
  have a0 := cellv ha 0 rfl
  have a1 := cellv ha 1 rfl
  have a2 := cellv ha 2 rfl
  have a3 := cellv ha 3 rfl
  have al := lt_heap ha
  clear hgm ha
  have HN := Lib.hid hN
  have HC := Lib.hid hc
  clear hN hc
  go_wp2_with fail
  (with_reducible refine HC.out.mono ?_)
  rintro e w1 ⟨rfl, hb1⟩
  have HB1 := Lib.hid hb1
  clear hb1
  go_wp2_with fail
  have hz := HB1.out.size
  exact HN.out w1.heap.size _ _ (id ⟨rfl, rfl, rfl, rfl, rfl, rfl, trivial⟩) (heap_at rfl) (HB1.out.alloc hz _)
noncomputable def c_lt_r5z : Code := sub [1, 1, 1, 0, 0] (Tryd.f11.body.getD .skip)
set_option maxRecDepth 1000000 in
set_option maxHeartbeats 16000000 in
theorem lt_r5z_wp {Q : Exit → Act → World → Prop} {b1 : Bool} {gm gf gx : Nat} {w : World} (g0 : w.cell? ⟨0, 0, none⟩ = some (.int .i64 0)) (g1 : w.cell? ⟨0, 1, none⟩ = some (.int .i64 0)) (he : w.heap[gx]? = some (.cells #[.int .i64 0, .int .i64 0] 31 (0, 0))) (hN : ∀ a', Frm 61 [(2, .pointer (some ⟨gm, 0, none⟩)), (3, .pointer (some ⟨gf, 0, none⟩)), (7, .bool b1), (8, .pointer (some ⟨gx, 0, none⟩)), (36, .bool false)] a' → Q .normal a' w) : ∀ ac, Frm 61 [(2, .pointer (some ⟨gm, 0, none⟩)), (3, .pointer (some ⟨gf, 0, none⟩)), (7, .bool b1), (8, .pointer (some ⟨gx, 0, none⟩))] ac → Code.wp Tryd.prog c_lt_r5z Q ac w := by
  refine frm_open ?_
  refine frame_lt ?_
  intros
  rename_i hq
  obtain ⟨-, -, e0q, e1q, e2q, e3q, -⟩ := hq
  obtain rfl := sI e0q
  obtain rfl := sI e1q
  obtain rfl := sI e2q
  obtain rfl := sI e3q
  conv => arg 2; whnf
  have e0 := cellv he 0 rfl
  have e1 := cellv he 1 rfl
  have el := lt_heap he
  have lg := World.block_lt_of_cell? w _ g0
  clear he
  have HN := Lib.hid hN
  clear hN
  go_wp2_with fail
  exact HN.out _ (id ⟨rfl, rfl, rfl, rfl, rfl, rfl, rfl, trivial⟩)
noncomputable def c_lt_r5c : Code := sub [1, 1, 1, 0, 0] (Tryd.f11.body.getD .skip)
set_option maxRecDepth 1000000 in
set_option maxHeartbeats 16000000 in
theorem lt_r5c_wp {Q : Exit → Act → World → Prop} {c j : Int} {b1 : Bool} {gm gf gx : Nat} {w : World} (g0 : w.cell? ⟨0, 0, none⟩ = some (.int .i64 0)) (g1 : w.cell? ⟨0, 1, none⟩ = some (.int .i64 0)) (hcz : c ≠ 0) (he : w.heap[gx]? = some (.cells #[.int .i64 c, .int .i64 j] 31 (0, 0))) (hN : ∀ a', Frm 61 [(2, .pointer (some ⟨gm, 0, none⟩)), (3, .pointer (some ⟨gf, 0, none⟩)), (7, .bool b1), (8, .pointer (some ⟨gx, 0, none⟩)), (36, .bool true)] a' → Q .normal a' w) : ∀ ac, Frm 61 [(2, .pointer (some ⟨gm, 0, none⟩)), (3, .pointer (some ⟨gf, 0, none⟩)), (7, .bool b1), (8, .pointer (some ⟨gx, 0, none⟩))] ac → Code.wp Tryd.prog c_lt_r5c Q ac w := by
  refine frm_open ?_
  refine frame_lt ?_
  intros
  rename_i hq
  obtain ⟨-, -, e0q, e1q, e2q, e3q, -⟩ := hq
  obtain rfl := sI e0q
  obtain rfl := sI e1q
  obtain rfl := sI e2q
  obtain rfl := sI e3q
  conv => arg 2; whnf
  have e0 := cellv he 0 rfl
  have e1 := cellv he 1 rfl
  have el := lt_heap he
  have lg := World.block_lt_of_cell? w _ g0
  clear he
  have t1 : (c == 0) = false := beq_eq_false_iff_ne.2 hcz
  have HN := Lib.hid hN
  clear hN
  go_wp2_with fail
  exact HN.out _ (id ⟨rfl, rfl, rfl, rfl, rfl, rfl, rfl, trivial⟩)
noncomputable def c_lt_r6 : Code := sub [1, 1, 1, 0, 1, 0, 0] (Tryd.f11.body.getD .skip)
set_option maxRecDepth 1000000 in
set_option maxHeartbeats 16000000 in
theorem lt_r6_wp {Q : Exit → Act → World → Prop} {gm gf : Nat} {w : World} (hN : ∀ a', Frm 61 [(4, .bool true)] a' → Q .normal a' w) : ∀ ac, Frm 61 [(2, .pointer (some ⟨gm, 0, none⟩)), (3, .pointer (some ⟨gf, 0, none⟩))] ac → Code.wp Tryd.prog c_lt_r6 Q ac w := by
  refine frm_open ?_
  refine frame_lt ?_
  intros
  rename_i hq
  obtain ⟨-, -, e0q, e1q, -⟩ := hq
  obtain rfl := sI e0q
  obtain rfl := sI e1q
  conv => arg 2; whnf
  have HN := Lib.hid hN
  clear hN
  go_wp2_with fail
  exact HN.out _ (id ⟨rfl, rfl, rfl, trivial⟩)
noncomputable def c_lt_r7 : Code := sub [1, 1, 1, 1, 0] (Tryd.f11.body.getD .skip)
set_option maxRecDepth 1000000 in
set_option maxHeartbeats 16000000 in
theorem lt_r7_wp {Q : Exit → Act → World → Prop} {T1 : Fm} {c j : Int} {kd : Int} {nm : ByteArray} {A B : Option Addr} {n1 c1 n2 c2 : Nat} {b1 : Bool} {gm gf : Nat} {w : World} (ha : w.heap[gf]? = some (.cells #[.int .i64 kd, .string nm, .slice A n1 c1, .slice B n2 c2] 29 (0, 0))) (hc : Calls Tryd.prog 37 #[.agg #[.int .i64 kd, .string nm, .slice A n1 c1, .slice B n2 c2]] w fun e w' => ∃ es : List Value, e = .returned (.tuple #[.agg es.toArray, .agg #[.int .i64 c, .int .i64 j]]) ∧ fmRep.R w' (fun b => w.heap.size ≤ b ∧ b < w'.heap.size) (T1) es ∧ Below w.heap.size w w') (hN : ∀ A0 n0 c0 B0 m0 d0 gg ge a' w', Frm 61 [(2, .pointer (some ⟨gm, 0, none⟩)), (3, .pointer (some ⟨gf, 0, none⟩)), (7, .bool b1), (9, .pointer (some ⟨gg, 0, none⟩)), (10, .pointer (some ⟨ge, 0, none⟩))] a' → w'.heap[gg]? = some (.cells #[.int .i64 T1.lab.kind, .string T1.lab.nm, .slice A0 n0 c0, .slice B0 m0 d0] 29 (0, 0)) → w'.heap[ge]? = some (.cells #[.int .i64 c, .int .i64 j] 31 (0, 0)) → gg ≠ ge → fmRep.R w' (Lo w') T1 [.int .i64 T1.lab.kind, .string T1.lab.nm, .slice A0 n0 c0, .slice B0 m0 d0] → Below w.heap.size w w' → Q .normal a' w') : ∀ ac, Frm 61 [(2, .pointer (some ⟨gm, 0, none⟩)), (3, .pointer (some ⟨gf, 0, none⟩)), (7, .bool b1)] ac → Code.wp Tryd.prog c_lt_r7 Q ac w := by
  refine frm_open ?_
  refine frame_lt ?_
  intros
  rename_i hq
  obtain ⟨-, -, e0q, e1q, e2q, -⟩ := hq
  obtain rfl := sI e0q
  obtain rfl := sI e1q
  obtain rfl := sI e2q
  conv => arg 2; whnf
  have a0 := cellv ha 0 rfl
  have a1 := cellv ha 1 rfl
  have a2 := cellv ha 2 rfl
  have a3 := cellv ha 3 rfl
  have al := lt_heap ha
  clear ha
  have HN := Lib.hid hN
  have HC := Lib.hid hc
  clear hN hc
  go_wp2_with fail
  (with_reducible refine HC.out.mono ?_)
  rintro e w1 ⟨es, rfl, h1, hb1⟩
  obtain ⟨A0, n0, c0, B0, m0, d0, rfl, _, _, _, _⟩ := Fm.shape h1
  have H1 := Lib.hid h1
  have HB1 := Lib.hid hb1
  clear h1 hb1
  go_wp2_with fail
  have hz := HB1.out.size
  refine HN.out A0 n0 c0 B0 m0 d0 w1.heap.size (w1.heap.size + 1) _ _ (id ⟨rfl, rfl, rfl, rfl, rfl, rfl, rfl, trivial⟩) (heap_old (by simp) (heap_at rfl)) (heap_at (by simp)) (by omega) (fmRep.keep H1.out (fun b hb => heap_old (by have := hb.2; simp; omega) (heap_old hb.2 rfl)) (fun b hb => by have := hb.2; show b < _; simp; omega)) ((HB1.out.alloc (by omega) _).alloc (by simp; omega) _)
noncomputable def c_lt_r8 : Code := sub [1, 1, 1, 1, 1, 0] (Tryd.f11.body.getD .skip)
set_option maxRecDepth 1000000 in
set_option maxHeartbeats 16000000 in
theorem lt_r8_wp {Q : Exit → Act → World → Prop} {bb : Bool} {c j : Int} {z : Int} {Am Bm : Option Addr} {nm1 cm nm2 dm : Nat} {k5 : Int} {s5 : ByteArray} {A5 B5 : Option Addr} {n5 c5 m5 d5 : Nat} {b1 : Bool} {gh gy : Nat} {gm gf : Nat} {w : World} (hgm : w.heap[gm]? = some (.cells #[.int .i64 z, .slice Am nm1 cm, .slice Bm nm2 dm] 25 (0, 0))) (ha : w.heap[gh]? = some (.cells #[.int .i64 k5, .string s5, .slice A5 n5 c5, .slice B5 m5 d5] 29 (0, 0))) (hc : Calls Tryd.prog 15 #[.agg #[.int .i64 z, .slice Am nm1 cm, .slice Bm nm2 dm], .agg #[.int .i64 k5, .string s5, .slice A5 n5 c5, .slice B5 m5 d5]] w fun e w' => e = .returned (.tuple #[.bool bb, .agg #[.int .i64 c, .int .i64 j]]) ∧ Below w.heap.size w w') (hN : ∀ ge a' w', Frm 61 [(2, .pointer (some ⟨gm, 0, none⟩)), (3, .pointer (some ⟨gf, 0, none⟩)), (7, .bool b1), (9, .pointer (some ⟨gh, 0, none⟩)), (10, .pointer (some ⟨gy, 0, none⟩)), (11, .bool bb), (12, .pointer (some ⟨ge, 0, none⟩))] a' → w'.heap[ge]? = some (.cells #[.int .i64 c, .int .i64 j] 31 (0, 0)) → Below w.heap.size w w' → Q .normal a' w') : ∀ ac, Frm 61 [(2, .pointer (some ⟨gm, 0, none⟩)), (3, .pointer (some ⟨gf, 0, none⟩)), (7, .bool b1), (9, .pointer (some ⟨gh, 0, none⟩)), (10, .pointer (some ⟨gy, 0, none⟩))] ac → Code.wp Tryd.prog c_lt_r8 Q ac w := by
  refine frm_open ?_
  refine frame_lt ?_
  intros
  rename_i hq
  obtain ⟨-, -, e0q, e1q, e2q, e3q, e4q, -⟩ := hq
  obtain rfl := sI e0q
  obtain rfl := sI e1q
  obtain rfl := sI e2q
  obtain rfl := sI e3q
  obtain rfl := sI e4q
  conv => arg 2; whnf
  have m0 := cellv hgm 0 rfl
  have m1 := cellv hgm 1 rfl
  have m2 := cellv hgm 2 rfl
  have ml := lt_heap hgm
  have a0 := cellv ha 0 rfl
  have a1 := cellv ha 1 rfl
  have a2 := cellv ha 2 rfl
  have a3 := cellv ha 3 rfl
  have al := lt_heap ha
  clear hgm ha
  have HN := Lib.hid hN
  have HC := Lib.hid hc
  clear hN hc
  go_wp2_with fail
  (with_reducible refine HC.out.mono ?_)
  rintro e w1 ⟨rfl, hb1⟩
  have HB1 := Lib.hid hb1
  clear hb1
  go_wp2_with fail
  have hz := HB1.out.size
  exact HN.out w1.heap.size _ _ (id ⟨rfl, rfl, rfl, rfl, rfl, rfl, rfl, rfl, rfl, trivial⟩) (heap_at rfl) (HB1.out.alloc hz _)
noncomputable def c_lt_r9 : Code := sub [1, 1, 1, 1, 1, 1, 0] (Tryd.f11.body.getD .skip)
set_option maxRecDepth 1000000 in
set_option maxHeartbeats 16000000 in
theorem lt_r9_wp {Q : Exit → Act → World → Prop} {b1 b2 : Bool} {gy gz : Nat} {w : World} (g0 : w.cell? ⟨0, 0, none⟩ = some (.int .i64 0)) (g1 : w.cell? ⟨0, 1, none⟩ = some (.int .i64 0)) (hbb : (b1 == b2) = true) (he : w.heap[gy]? = some (.cells #[.int .i64 0, .int .i64 0] 31 (0, 0))) (hf : w.heap[gz]? = some (.cells #[.int .i64 0, .int .i64 0] 31 (0, 0))) (hN : ∀ a', Frm 61 [(4, .bool true)] a' → Q .normal a' w) : ∀ ac, Frm 61 [(7, .bool b1), (10, .pointer (some ⟨gy, 0, none⟩)), (11, .bool b2), (12, .pointer (some ⟨gz, 0, none⟩))] ac → Code.wp Tryd.prog c_lt_r9 Q ac w := by
  refine frm_open ?_
  refine frame_lt ?_
  intros
  rename_i hq
  obtain ⟨-, -, e0q, e1q, e2q, e3q, -⟩ := hq
  obtain rfl := sI e0q
  obtain rfl := sI e1q
  obtain rfl := sI e2q
  obtain rfl := sI e3q
  conv => arg 2; whnf
  have e0 := cellv he 0 rfl
  have e1 := cellv he 1 rfl
  have el := lt_heap he
  have f0 := cellv hf 0 rfl
  have f1 := cellv hf 1 rfl
  have fl := lt_heap hf
  have lg := World.block_lt_of_cell? w _ g0
  clear he hf
  cases b1 <;> cases b2
  · clear hbb
    have HN := Lib.hid hN
    clear hN
    go_wp2_with fail
    exact HN.out _ (id ⟨rfl, rfl, rfl, trivial⟩)
  · exact absurd hbb (by decide)
  · exact absurd hbb (by decide)
  · clear hbb
    have HN := Lib.hid hN
    clear hN
    go_wp2_with fail
    exact HN.out _ (id ⟨rfl, rfl, rfl, trivial⟩)
set_option maxRecDepth 1000000 in
theorem lt_ret_wp {R : Ending → World → Prop} {w' : World} {bb : Bool} (hR : R (.returned (.bool bb)) w') : ∀ ac, Frm 61 [(4, .bool bb)] ac → bodyPost Tryd.prog Tryd.f11 R .ret ac w' := by
  refine frm_open ?_
  refine frame_lt ?_
  intros
  rename_i hq
  obtain ⟨-, -, e0q, -⟩ := hq
  obtain rfl := sI e0q
  refine bodyPost_ret (v := .bool bb) (by simp [results, Tryd.results11, go_sem]) rfl ?_
  exact hR
end

section
open Go Go.RowKit
set_option linter.unusedSimpArgs false
set_option linter.unusedVariables false
/-- Names given to the quantifiers, at formulas of the grammar. -/
def Fv.rn (nm : Nat → ByteArray) : Env → Fv → Nat → Fv × Nat
  | _, .tru, k => (.tru, k)
  | env, .pred n ws, k => (.pred n (ws.map (lookE env)), k)
  | env, .same a b, k => (.same (lookE env a) (lookE env b), k)
  | env, .neg f, k => (.neg (f.rn nm env k).1, (f.rn nm env k).2)
  | env, .bin j f g, k => (.bin j (f.rn nm env k).1 (g.rn nm env (f.rn nm env k).2).1, (g.rn nm env (f.rn nm env k).2).2)
  | env, .qu j x f, k => (.qu j (nm k) (f.rn nm (env ++ [(x, nm k)]) (k + 1)).1, (f.rn nm (env ++ [(x, nm k)]) (k + 1)).2)
theorem Fv.rn_fm (nm : Nat → ByteArray) : ∀ (v : Fv) (env : Env) (k : Nat), v.ok → renF nm env v.fm k = ((v.rn nm env k).1.fm, (v.rn nm env k).2)
  | .tru, env, k, _ => by
    simp only [Fv.fm, Fv.rn]
    rw [renF_n (by unfold isQ; simp)]; rfl
  | .pred n ws, env, k, _ => by
    simp only [Fv.fm, Fv.rn]
    rw [renF_n (by unfold isQ; simp)]; rfl
  | .same a b, env, k, _ => by
    simp only [Fv.fm, Fv.rn]
    rw [renF_n (by unfold isQ; simp)]; rfl
  | .neg f, env, k, h => by
    simp only [Fv.fm, Fv.rn]
    rw [renF_n (by unfold isQ; simp), renFs_c, Fv.rn_fm nm f env k h]; rfl
  | .bin j f g, env, k, h => by
    have hk := h.1
    simp only [Fv.fm, Fv.rn]
    rw [renF_n (by unfold isQ; simp only; omega), renFs_c, renFs_c, Fv.rn_fm nm f env k h.2.1, Fv.rn_fm nm g env _ h.2.2]; rfl
  | .qu j x f, env, k, h => by
    have hk := h.1
    simp only [Fv.fm, Fv.rn]
    rw [renF_q (by unfold isQ; simp only; omega), renFs_c, Fv.rn_fm nm f _ _ h.2.2]; rfl
theorem Fv.rn_le (nm : Nat → ByteArray) : ∀ (v : Fv) (env : Env) (k : Nat), k ≤ (v.rn nm env k).2
  | .tru, _, _ | .pred _ _, _, _ | .same _ _, _, _ => Nat.le_refl _
  | .neg f, env, k => Fv.rn_le nm f env k
  | .bin _ f g, env, k => Nat.le_trans (Fv.rn_le nm f env k) (Fv.rn_le nm g env _)
  | .qu _ x f, env, k => by have := Fv.rn_le nm f (env ++ [(x, nm k)]) (k + 1); simp only [Fv.rn]; omega
theorem nestF_rn (nm : Nat → ByteArray) : ∀ (v : Fv) (env : Env) (k : Nat), nestF (v.rn nm env k).1 = nestF v
  | .tru, _, _ | .pred _ _, _, _ | .same _ _, _, _ => rfl
  | .neg f, env, k => nestF_rn nm f env k
  | .bin _ f g, env, k => by simp only [Fv.rn, nestF]; rw [nestF_rn nm f, nestF_rn nm g]
  | .qu _ x f, env, k => by simp only [Fv.rn, nestF]; rw [nestF_rn nm f]
theorem hasRels_rn (m : Md) (nm : Nat → ByteArray) : ∀ (v : Fv) (env : Env) (k : Nat), hasRels m (v.rn nm env k).1 = hasRels m v
  | .tru, _, _ | .same _ _, _, _ => rfl
  | .pred _ ws, _, _ => by simp only [Fv.rn, hasRels]; rw [List.length_map]
  | .neg f, env, k => hasRels_rn m nm f env k
  | .bin _ f g, env, k => by simp only [Fv.rn, hasRels]; rw [hasRels_rn m nm f, hasRels_rn m nm g]
  | .qu _ x f, env, k => by simp only [Fv.rn, hasRels]; rw [hasRels_rn m nm f]
/-- An old name, a new name, a value. -/
abbrev Tri := List (ByteArray × ByteArray × Int)
def Tri.on (E : Tri) : Env := E.map (fun p => (p.1, p.2.1))
def Tri.ov (E : Tri) : List (ByteArray × Int) := E.map (fun p => (p.1, p.2.2))
def Tri.nv (E : Tri) : List (ByteArray × Int) := E.map (fun p => p.2)
def Tri.o (E : Tri) : List ByteArray := E.map (fun p => p.1)
def Tri.n (E : Tri) : List ByteArray := E.map (fun p => p.2.1)
theorem lookE_snoc (env : Env) (x y w : ByteArray) : lookE (env ++ [(x, y)]) w = if x = w then y else lookE env w := by
  rw [look_app]; rfl
theorem Tri.on_fst (E : Tri) : (E.on).map (·.1) = E.o := by simp [Tri.on, Tri.o]
theorem Tri.on_snd (E : Tri) : (E.on).map (·.2) = E.n := by simp [Tri.on, Tri.n]
theorem Tri.look_free {E : Tri} {w : ByteArray} (h : w ∉ E.o) : lookE E.on w = w := by
  unfold lookE
  exact look_free_ w E h
where look_free_ (w : ByteArray) (E : Tri) (h : w ∉ E.o) : (E.on).foldl (fun r p => if p.1 = w then p.2 else r) w = w := Go.Proofs.YtflcbbikfdahhaaDoor.look_free w E.on w (by rw [Tri.on_fst]; exact h)
theorem Tri.envs : ∀ (R : Tri), (Tri.n R.reverse).Nodup → ∀ w, (w ∈ Tri.o R.reverse ∨ w ∉ Tri.n R.reverse) → envV (Tri.nv R.reverse) (lookE (Tri.on R.reverse) w) = envV (Tri.ov R.reverse) w
  | [], _, w, _ => rfl
  | (x, y, v) :: R, hn, w, hw => by
    have e1 : Tri.n (((x, y, v) :: R).reverse) = Tri.n R.reverse ++ [y] := by simp [Tri.n]
    have e2 : Tri.o (((x, y, v) :: R).reverse) = Tri.o R.reverse ++ [x] := by simp [Tri.o]
    have e3 : Tri.on (((x, y, v) :: R).reverse) = Tri.on R.reverse ++ [(x, y)] := by simp [Tri.on]
    have e4 : Tri.nv (((x, y, v) :: R).reverse) = Tri.nv R.reverse ++ [(y, v)] := by simp [Tri.nv]
    have e5 : Tri.ov (((x, y, v) :: R).reverse) = Tri.ov R.reverse ++ [(x, v)] := by simp [Tri.ov]
    rw [e1] at hn hw
    rw [e2] at hw
    rw [e3, e4, e5, envV_snoc, envV_snoc, lookE_snoc]
    by_cases hx : x = w
    · rw [if_pos hx, if_pos hx, if_pos rfl]
    · rw [if_neg hx, if_neg hx]
      have hnd := List.nodup_append.1 hn
      have hy : y ∉ Tri.n R.reverse := fun h => hnd.2.2 y h y (by simp) rfl
      have hw2 : w ∈ Tri.o R.reverse ∨ w ∉ Tri.n R.reverse := by
        rcases hw with h | h
        · rcases List.mem_append.1 h with h | h
          · exact Or.inl h
          · exact absurd (List.mem_singleton.1 h).symm hx
        · exact Or.inr (fun h2 => h (List.mem_append_left _ h2))
      have hyl : ¬ y = lookE (Tri.on R.reverse) w := by
        intro he
        by_cases hm : w ∈ Tri.o R.reverse
        · apply hy
          rw [he]
          have := look_bound w (Tri.on R.reverse) w (by rw [Tri.on_fst]; exact hm)
          rw [Tri.on_snd] at this
          exact this
        · rw [Tri.look_free hm] at he
          rcases hw with h | h
          · rcases List.mem_append.1 h with h | h
            · exact hm h
            · exact hx (List.mem_singleton.1 h).symm
          · exact h (List.mem_append_right _ (by rw [he]; simp))
      rw [if_neg hyl]
      exact Tri.envs R hnd.1 w hw2
theorem wordV_rn (m : Md) (E : Tri) (hn : E.n.Nodup) (w : ByteArray) (hw : w ∈ E.o ∨ w ∉ E.n) : wordV m E.nv (lookE E.on w) = wordV m E.ov w := by
  have h := Tri.envs E.reverse (by rw [List.reverse_reverse]; exact hn) w (by rw [List.reverse_reverse]; exact hw)
  rw [List.reverse_reverse] at h
  unfold wordV
  rw [h]
  by_cases hm : w ∈ E.o
  · have : (envV E.ov w).isSome := envV_isSome' (by simpa [Tri.ov, Tri.o] using hm)
    cases he : envV E.ov w with
    | some z => rfl
    | none => rw [he] at this; cases this
  · rw [Tri.look_free hm]
where envV_isSome' {w : ByteArray} : ∀ {l : List (ByteArray × Int)}, w ∈ l.map Prod.fst → (envV l w).isSome
  | [], h => by simp at h
  | (y, u) :: l, h => by
    unfold envV
    by_cases hy : w ∈ l.map Prod.fst
    · have := envV_isSome' hy
      cases he : envV l w with
      | some z => rfl
      | none => rw [he] at this; cases this
    · simp only [List.map_cons, List.mem_cons] at h
      rcases h with h | h
      · rw [if_pos h.symm]
        cases envV l w <;> rfl
      · exact absurd h hy
theorem words_rn {m : Md} {E : Tri} (hn : E.n.Nodup) {nm : Nat → ByteArray} (hj : ∀ y ∈ E.n, ∃ j, y = nm j) {ws : List ByteArray} (hf : ∀ w ∈ ws, hasB E.o w = false → ∀ j, w ≠ nm j) : ∀ w ∈ ws, wordV m E.nv (lookE E.on w) = wordV m E.ov w := by
  intro w hw
  refine wordV_rn m E hn w ?_
  by_cases ho : hasB E.o w = true
  · exact Or.inl (hasB_iff.1 ho)
  · refine Or.inr (fun h => ?_)
    obtain ⟨j, rfl⟩ := hj w h
    exact hf _ hw (by simpa using ho) j rfl
/-- The value with other names. -/
theorem evalF_rn (m : Md) {nm : Nat → ByteArray} (hi : ∀ i j, nm i = nm j → i = j) : ∀ (v : Fv) (E : Tri) (k : Nat), v.ok → E.n.Nodup → (∀ y ∈ E.n, ∃ j, j < k ∧ y = nm j) → (∀ w ∈ fmFrees E.o v.fm, ∀ j, w ≠ nm j) → evalF m (v.rn nm E.on k).1 E.nv = evalF m v E.ov
  | .tru, _, _, _, _, _, _ => rfl
  | .pred n ws, E, k, hv, hn, hj, hf => by
    have h := words_rn (m := m) hn (fun y hy => by obtain ⟨j, _, h⟩ := hj y hy; exact ⟨j, h⟩) (ws := ws) (fun w hw hb => hf w (by simp only [Fv.fm, fmFrees, fmFreess, List.append_nil, List.mem_filter]; exact ⟨hw, by simp [hb]⟩))
    simp only [Fv.rn, evalF]
    rw [List.map_map, show ws.map (wordV m E.nv ∘ lookE E.on) = ws.map (wordV m E.ov) from List.map_congr_left (fun w hw => h w hw)]
  | .same a b, E, k, hv, hn, hj, hf => by
    have h := words_rn (m := m) hn (fun y hy => by obtain ⟨j, _, h⟩ := hj y hy; exact ⟨j, h⟩) (ws := [a, b]) (fun w hw hb => hf w (by simp only [Fv.fm, fmFrees, fmFreess, List.append_nil, List.mem_filter]; exact ⟨hw, by simp [hb]⟩))
    simp only [Fv.rn, evalF]
    rw [h a (by simp), h b (by simp)]
  | .neg f, E, k, hv, hn, hj, hf => by
    simp only [Fv.rn, evalF]
    rw [evalF_rn m hi f E k hv hn hj (fun w hw => hf w (by simpa [Fv.fm, fmFrees, fmFreess] using hw))]
  | .bin j f g, E, k, hv, hn, hj, hf => by
    have hk := hv.1
    have he : fmFrees E.o (Fv.bin j f g).fm = fmFrees E.o f.fm ++ fmFrees E.o g.fm := by
      simp only [Fv.fm, fmFrees, fmFreess, List.filter_nil, List.nil_append, List.append_nil]
      rw [if_neg (by omega)]
    rw [he] at hf
    have hle := Fv.rn_le nm f E.on k
    simp only [Fv.rn, evalF]
    rw [evalF_rn m hi f E k hv.2.1 hn hj (fun w hw => hf w (List.mem_append_left _ hw)), evalF_rn m hi g E _ hv.2.2 hn (fun y hy => by obtain ⟨j, h1, h2⟩ := hj y hy; exact ⟨j, by omega, h2⟩) (fun w hw => hf w (List.mem_append_right _ hw))]
  | .qu j x f, E, k, hv, hn, hj, hf => by
    have hk := hv.1
    have he : fmFrees E.o (Fv.qu j x f).fm = fmFrees (E.o ++ [x]) f.fm := by
      simp only [Fv.fm, fmFrees, fmFreess, List.filter_nil, List.nil_append, List.append_nil]
      rw [if_pos (by omega)]
    rw [he] at hf
    have ih : ∀ z : Int, evalF m (f.rn nm (E.on ++ [(x, nm k)]) (k + 1)).1 (E.nv ++ [(nm k, z)]) = evalF m f (E.ov ++ [(x, z)]) := by
      intro z
      have e1 : Tri.n (E ++ [(x, nm k, z)]) = E.n ++ [nm k] := by simp [Tri.n]
      have e2 : Tri.o (E ++ [(x, nm k, z)]) = E.o ++ [x] := by simp [Tri.o]
      have e3 : Tri.on (E ++ [(x, nm k, z)]) = E.on ++ [(x, nm k)] := by simp [Tri.on]
      have e4 : Tri.nv (E ++ [(x, nm k, z)]) = E.nv ++ [(nm k, z)] := by simp [Tri.nv]
      have e5 : Tri.ov (E ++ [(x, nm k, z)]) = E.ov ++ [(x, z)] := by simp [Tri.ov]
      have := evalF_rn m hi f (E ++ [(x, nm k, z)]) (k + 1) hv.2.2 (by
        rw [e1]
        refine List.nodup_append.2 ⟨hn, by simp, ?_⟩
        intro a ha b hb hab
        obtain ⟨i, hik, rfl⟩ := hj a ha
        have hb := List.mem_singleton.1 hb
        have := hi i k (by rw [hab, hb])
        omega) (by
        rw [e1]
        intro y hy
        rcases List.mem_append.1 hy with hy | hy
        · obtain ⟨i, h1, h2⟩ := hj y hy; exact ⟨i, by omega, h2⟩
        · exact ⟨k, by omega, List.mem_singleton.1 hy⟩) (by rw [e2]; exact hf)
      rw [e3, e4, e5] at this
      exact this
    simp only [Fv.rn, evalF, ih]
theorem lookE_ok {env : Env} {w : ByteArray} (h : okName w = true) (he : ∀ p ∈ env, okName p.2 = true) : okName (lookE env w) = true := by
  by_cases hm : w ∈ env.map (·.1)
  · have := look_bound w env w hm
    obtain ⟨p, hp, e⟩ := List.mem_map.1 this
    have e' : p.2 = lookE env w := e
    rw [← e']; exact he p hp
  · have e : lookE env w = w := look_free w env w hm
    rw [e]; exact h
theorem Fv.rn_ok (nm : Nat → ByteArray) : ∀ (v : Fv) (env : Env) (k : Nat), v.ok → (∀ p ∈ env, okName p.2 = true) → (∀ j, k ≤ j → j < (v.rn nm env k).2 → okName (nm j) = true) → (v.rn nm env k).1.ok
  | .tru, _, _, _, _, _ => trivial
  | .pred n ws, env, k, h, he, _ => by
    refine ⟨h.1, by rw [List.length_map]; exact h.2.1, ?_⟩
    rw [List.all_eq_true]
    intro x hx
    obtain ⟨w, hw, rfl⟩ := List.mem_map.1 hx
    exact lookE_ok (List.all_eq_true.1 h.2.2 w hw) he
  | .same a b, env, k, h, he, _ => ⟨lookE_ok h.1 he, lookE_ok h.2 he⟩
  | .neg f, env, k, h, he, hn => Fv.rn_ok nm f env k h he hn
  | .bin j f g, env, k, h, he, hn => by
    have h1 := Fv.rn_le nm f env k
    have h2 := Fv.rn_le nm g env (f.rn nm env k).2
    exact ⟨h.1, Fv.rn_ok nm f env k h.2.1 he (fun i a b => hn i a (by simp only [Fv.rn]; omega)), Fv.rn_ok nm g env _ h.2.2 he (fun i a b => hn i (by omega) b)⟩
  | .qu j x f, env, k, h, he, hn => by
    have h1 := Fv.rn_le nm f (env ++ [(x, nm k)]) (k + 1)
    have hk : okName (nm k) = true := hn k (Nat.le_refl _) (by simp only [Fv.rn]; omega)
    refine ⟨h.1, hk, Fv.rn_ok nm f _ (k + 1) h.2.2 (fun p hp => ?_) (fun i a b => hn i (by omega) b)⟩
    rcases List.mem_append.1 hp with hp | hp
    · exact he p hp
    · rw [List.mem_singleton.1 hp]; exact hk
/-- The canonical form. -/
noncomputable def canV (v : Fv) : Fv := (v.rn (namV (fmConsts v.fm)) [] 0).1
theorem canV_fm {v : Fv} (hv : v.ok) : canF [] v.fm = (canV v).fm := by
  rw [canF_nil, Fv.rn_fm _ v _ _ hv]; rfl
theorem canV_eval (m : Md) {v : Fv} (hv : v.ok) : evalF m (canV v) [] = evalF m v [] := by
  refine evalF_rn m (namV_inj _) v [] 0 hv (by simp [Tri.n]) (fun y hy => absurd hy (by simp [Tri.n])) (fun w hw j he => ?_)
  exact namV_free (fmConsts v.fm) j (by rw [← he]; exact mem_constsB.2 hw)
theorem canV_ok {v : Fv} (hv : v.ok) (hn : ∀ j, j < quN v.fm → okName (namV (fmConsts v.fm) j) = true) : (canV v).ok := by
  refine Fv.rn_ok _ v [] 0 hv (by simp) (fun j _ hj => hn j ?_)
  have h := renF_count (namV (fmConsts v.fm)) v.fm [] 0
  rw [Fv.rn_fm _ v _ _ hv] at h
  simp only at h
  omega
theorem canV_nest (v : Fv) : nestF (canV v) = nestF v := nestF_rn _ v _ _
theorem canV_rels (m : Md) (v : Fv) : hasRels m (canV v) = hasRels m v := hasRels_rn m _ v _ _
theorem Fv.rn_nodes (nm : Nat → ByteArray) : ∀ (v : Fv) (env : Env) (k : Nat), (v.rn nm env k).1.nodes = v.nodes
  | .tru, _, _ | .pred _ _, _, _ | .same _ _, _, _ => rfl
  | .neg f, env, k => by simp only [Fv.rn, Fv.nodes]; rw [Fv.rn_nodes nm f]
  | .bin _ f g, env, k => by simp only [Fv.rn, Fv.nodes]; rw [Fv.rn_nodes nm f, Fv.rn_nodes nm g]
  | .qu _ x f, env, k => by simp only [Fv.rn, Fv.nodes]; rw [Fv.rn_nodes nm f]
theorem Fv.rn_depth (nm : Nat → ByteArray) : ∀ (v : Fv) (env : Env) (k : Nat), (v.rn nm env k).1.depth = v.depth
  | .tru, _, _ | .pred _ _, _, _ | .same _ _, _, _ => rfl
  | .neg f, env, k => by simp only [Fv.rn, Fv.depth]; rw [Fv.rn_depth nm f]
  | .bin _ f g, env, k => by simp only [Fv.rn, Fv.depth]; rw [Fv.rn_depth nm f, Fv.rn_depth nm g]
  | .qu _ x f, env, k => by simp only [Fv.rn, Fv.depth]; rw [Fv.rn_depth nm f]
end

section
open Go Go.RowKit
set_option linter.unusedSimpArgs false
set_option linter.unusedVariables false
set_option maxRecDepth 1000000 in
theorem frame_nx {P : Act → Prop} (h : ∀ x0 x1 x2 x3 x4 x5 x6 x7 x8 x9 x10 x11 x12 x13 : Value, P ⟨(x0 :: x1 :: x2 :: x3 :: x4 :: x5 :: x6 :: x7 :: x8 :: x9 :: x10 :: x11 :: x12 :: x13 :: []).toArray, []⟩) : ∀ a : Act, a.tmps.toList.length = 14 → a.defers = [] → P a := by
  rintro ⟨⟨l⟩, d⟩ hs hd
  simp only at hd
  subst hd
  revert l
  show ∀ l : List Value, l.length = 14 → P ⟨⟨l⟩, []⟩
  iterate 14 refine openS (fun _ => ?_)
  refine open0 ?_
  exact h ..
noncomputable def c_nx_r0 : Code := sub [0] (Tryd.f117.body.getD .skip)
set_option maxRecDepth 1000000 in
set_option maxHeartbeats 16000000 in
theorem nx_r0_wp {Q : Exit → Act → World → Prop} {bk bu : Nat} {w : World} (hN : ∀ a', Frm 14 [(0, .pointer (some ⟨bk, 0, none⟩)), (1, .pointer (some ⟨bu, 0, none⟩))] a' → Q .normal a' w) : ∀ ac, Frm 14 [(0, .pointer (some ⟨bk, 0, none⟩)), (1, .pointer (some ⟨bu, 0, none⟩))] ac → Code.wp Tryd.prog c_nx_r0 Q ac w := by
  refine frm_open ?_
  refine frame_nx ?_
  intros
  rename_i hq
  obtain ⟨-, -, e0q, e1q, -⟩ := hq
  obtain rfl := sI e0q
  obtain rfl := sI e1q
  conv => arg 2; whnf
  have HN := Lib.hid hN
  clear hN
  go_wp2_with fail
  exact HN.out _ (id ⟨rfl, rfl, rfl, rfl, trivial⟩)
noncomputable def c_nx_r1 : Code := sub [1, 0, 0, 0, 0] (Tryd.f117.body.getD .skip)
set_option maxRecDepth 1000000 in
set_option maxHeartbeats 16000000 in
theorem nx_r1_wp {Q : Exit → Act → World → Prop} {n : Nat} {d : ByteArray} {bk bu : Nat} {w : World} (hk : w.heap[bk]? = some (.cells #[.int .i64 (n : Nat)] 3 (0, 0))) (hd : d.size ≤ 100000) (hc : Calls Tryd.prog 118 #[.int .i64 (n : Nat)] w fun e w' => e = .returned (.string d) ∧ Below w.heap.size w w') (hN : ∀ a' w', Frm 14 [(0, .pointer (some ⟨bk, 0, none⟩)), (1, .pointer (some ⟨bu, 0, none⟩)), (3, .string ((⟨#[118]⟩ : ByteArray) ++ d))] a' → Below w.heap.size w w' → Q .normal a' w') : ∀ ac, Frm 14 [(0, .pointer (some ⟨bk, 0, none⟩)), (1, .pointer (some ⟨bu, 0, none⟩))] ac → Code.wp Tryd.prog c_nx_r1 Q ac w := by
  refine frm_open ?_
  refine frame_nx ?_
  intros
  rename_i hq
  obtain ⟨-, -, e0q, e1q, -⟩ := hq
  obtain rfl := sI e0q
  obtain rfl := sI e1q
  conv => arg 2; whnf
  have k0 := cellv hk 0 rfl
  have kl := lt_heap hk
  have t1 : ¬ 9223372036854775807 < 1 + d.size := by omega
  clear hk
  have HN := Lib.hid hN
  have HC := Lib.hid hc
  clear hN hc
  go_wp2_with fail
  (with_reducible refine HC.out.mono ?_)
  rintro e w1 ⟨rfl, hb1⟩
  have HB1 := Lib.hid hb1
  clear hb1
  go_wp2_with fail
  exact HN.out _ _ (id ⟨rfl, rfl, rfl, rfl, rfl, trivial⟩) HB1.out
noncomputable def c_nx_r2 : Code := sub [1, 0, 0, 0, 1, 0] (Tryd.f117.body.getD .skip)
set_option maxRecDepth 1000000 in
set_option maxHeartbeats 16000000 in
theorem nx_r2_wp {Q : Exit → Act → World → Prop} {n : Nat} {s : ByteArray} {bk bu : Nat} {w : World} (hk : w.heap[bk]? = some (.cells #[.int .i64 (n : Nat)] 3 (0, 0))) (hn : n ≤ 50000000) (hN : ∀ a', Frm 14 [(0, .pointer (some ⟨bk, 0, none⟩)), (1, .pointer (some ⟨bu, 0, none⟩)), (3, .string s)] a' → Q .normal a' (w.setCell ⟨bk, 0, none⟩ (.int .i64 ((n : Int) + 1)))) : ∀ ac, Frm 14 [(0, .pointer (some ⟨bk, 0, none⟩)), (1, .pointer (some ⟨bu, 0, none⟩)), (3, .string s)] ac → Code.wp Tryd.prog c_nx_r2 Q ac w := by
  refine frm_open ?_
  refine frame_nx ?_
  intros
  rename_i hq
  obtain ⟨-, -, e0q, e1q, e2q, -⟩ := hq
  obtain rfl := sI e0q
  obtain rfl := sI e1q
  obtain rfl := sI e2q
  conv => arg 2; whnf
  have k0 := cellv hk 0 rfl
  have kf := free_heap hk 0
  have kl := lt_heap hk
  have hn4 : (n : Int) ≤ 50000000 := by omega
  clear hk
  have HN := Lib.hid hN
  clear hN
  go_wp2_with fail
  exact HN.out _ (id ⟨rfl, rfl, rfl, rfl, rfl, trivial⟩)
noncomputable def c_nx_r3 : Code := sub [1, 0, 0, 0, 1, 1, 0] (Tryd.f117.body.getD .skip)
set_option maxRecDepth 1000000 in
set_option maxHeartbeats 16000000 in
theorem nx_r3_wp {Q : Exit → Act → World → Prop} {v : Value} {bb : Bool} {s : ByteArray} {bk bu : Nat} {w : World} (hu : w.heap[bu]? = some (.cells #[v] 26 (0, 0))) (hc : Calls Tryd.prog 104 #[v, .string s] w fun e w' => e = .returned (.bool bb) ∧ w' = w) (hN : ∀ a', Frm 14 [(0, .pointer (some ⟨bk, 0, none⟩)), (1, .pointer (some ⟨bu, 0, none⟩)), (3, .string s), (12, .bool (!bb))] a' → Q .normal a' w) : ∀ ac, Frm 14 [(0, .pointer (some ⟨bk, 0, none⟩)), (1, .pointer (some ⟨bu, 0, none⟩)), (3, .string s)] ac → Code.wp Tryd.prog c_nx_r3 Q ac w := by
  refine frm_open ?_
  refine frame_nx ?_
  intros
  rename_i hq
  obtain ⟨-, -, e0q, e1q, e2q, -⟩ := hq
  obtain rfl := sI e0q
  obtain rfl := sI e1q
  obtain rfl := sI e2q
  conv => arg 2; whnf
  have u0 := cellv hu 0 rfl
  have ul := lt_heap hu
  clear hu
  have HN := Lib.hid hN
  have HC := Lib.hid hc
  clear hN hc
  go_wp2_with fail
  (with_reducible refine HC.out.mono ?_)
  rintro e w1 ⟨rfl, rfl⟩
  go_wp2_with fail
  exact HN.out _ (id ⟨rfl, rfl, rfl, rfl, rfl, rfl, trivial⟩)
noncomputable def c_nx_r4 : Code := sub [1, 0, 0, 0, 1, 1, 1, 0, 0] (Tryd.f117.body.getD .skip)
set_option maxRecDepth 1000000 in
set_option maxHeartbeats 16000000 in
theorem nx_r4_wp {Q : Exit → Act → World → Prop} {s : ByteArray} {bk bu : Nat} {w : World} (hN : ∀ a', Frm 14 [(2, .string s)] a' → Q .normal a' w) : ∀ ac, Frm 14 [(0, .pointer (some ⟨bk, 0, none⟩)), (1, .pointer (some ⟨bu, 0, none⟩)), (3, .string s)] ac → Code.wp Tryd.prog c_nx_r4 Q ac w := by
  refine frm_open ?_
  refine frame_nx ?_
  intros
  rename_i hq
  obtain ⟨-, -, e0q, e1q, e2q, -⟩ := hq
  obtain rfl := sI e0q
  obtain rfl := sI e1q
  obtain rfl := sI e2q
  conv => arg 2; whnf
  have HN := Lib.hid hN
  clear hN
  go_wp2_with fail
  exact HN.out _ (id ⟨rfl, rfl, rfl, trivial⟩)
set_option maxRecDepth 1000000 in
theorem nx_ret_wp {R : Ending → World → Prop} {w' : World} {s : ByteArray} (hR : R (.returned (.string s)) w') : ∀ ac, Frm 14 [(2, .string s)] ac → bodyPost Tryd.prog Tryd.f117 R .ret ac w' := by
  refine frm_open ?_
  refine frame_nx ?_
  intros
  rename_i hq
  obtain ⟨-, -, e0q, -⟩ := hq
  obtain rfl := sI e0q
  refine bodyPost_ret (v := .string s) (by simp [results, Tryd.results117, go_sem]) rfl ?_
  exact hR
theorem below_grow (w : World) (k : Nat) (os : Array Obj) : Below w.heap.size w (Sort.grow (w.drewN k) os) :=
  ⟨rfl, rfl, rfl, by simp [Sort.grow, World.drewN], fun i hi => Sort.heap_grow_old (w.drewN k) os hi⟩
/-- strconv.Itoa, the table being laid. -/
theorem itoa_any (n : Nat) (hn : n ≤ 1000000000) (w : World) (ht : Lib.TabIs Tryd.prog w "internal/strconv.uint64pow10" .u64 Lib.pow10Tab) : Calls Tryd.prog 118 #[.int .i64 (n : Nat)] w fun e w' => e = .returned (.string ⟨(Lib.decDigits n).toArray⟩) ∧ Below w.heap.size w w' := by
  refine (Tryd.strconv_Itoa (n : Int) (by omega) (by omega) w ht).mono ?_
  rintro e w' ⟨rfl, k, os, rfl⟩
  rw [Lib.itoa_nonneg]
  exact ⟨rfl, below_grow w k os⟩
theorem dec_len : ∀ (N n : Nat), n ≤ N → (Lib.decDigits n).length ≤ n + 1 := by
  intro N
  induction N with
  | zero => intro n h; rw [Lib.decDigits, dif_pos (by omega)]; simp
  | succ N ih =>
    intro n h
    by_cases h10 : n < 10
    · rw [Lib.decDigits, dif_pos h10]; simp
    · rw [Lib.decDigits, dif_neg h10, List.length_append]
      have := ih (n / 10) (by omega)
      simp only [List.length_singleton]
      omega
theorem vB_eq (n : Nat) : (⟨#[118]⟩ : ByteArray) ++ ⟨(Lib.decDigits n).toArray⟩ = vB n := by
  refine dat_inj ?_
  unfold vB
  rw [dat_mk]
  simp [dat, ByteArray.data_append]
set_option maxRecDepth 100000 in
set_option maxHeartbeats 4000000 in
/-- The next free name. -/
theorem next_any {u : List ByteArray} {n bk bu : Nat} {w : World} {v : Value} {S : Nat → Prop} (hk : w.heap[bk]? = some (.cells #[.int .i64 (n : Nat)] 3 (0, 0))) (hu : w.heap[bu]? = some (.cells #[v] 26 (0, 0))) (hne : bu ≠ bk) (hv : strRep.Sl w S v u) (hS : ∀ k, S k → k < w.heap.size ∧ k ≠ bk) (hn : n + u.length ≤ 90000) (ht : ∀ W, Keeps (· = bk) w W → Lib.TabIs Tryd.prog W "internal/strconv.uint64pow10" .u64 Lib.pow10Tab) :
    Calls Tryd.prog 117 #[.pointer (some ⟨bk, 0, none⟩), .pointer (some ⟨bu, 0, none⟩)] w fun e w' => e = .returned (.string (vB (nextV u n))) ∧ w'.heap[bk]? = some (.cells #[.int .i64 ((nextV u n + 1 : Nat) : Int)] 3 (0, 0)) ∧ Keeps (· = bk) w w' := by
  obtain ⟨D, m, c, rfl, _, _, _⟩ := id hv
  have hle := nextV_le u n
  go_enter Tryd.func117, Tryd.ntmps117
  refine wp_seq ?_
  refine nx_r0_wp (fun a0 h0 => ?_) _ (id ⟨rfl, rfl, rfl, rfl, trivial⟩)
  refine wp_block ?_
  refine wp_loopR (fun g a' w' => ∃ j : Nat, j + g = nextV u n ∧ nextV u j = nextV u n ∧ w'.heap[bk]? = some (.cells #[.int .i64 (j : Nat)] 3 (0, 0)) ∧ Keeps (· = bk) w w' ∧ Frm 14 [(0, .pointer (some ⟨bk, 0, none⟩)), (1, .pointer (some ⟨bu, 0, none⟩))] a') (nextV u n - n) ⟨n, by have := nextV_ge u n; omega, rfl, hk, Keeps.refl _ _, h0⟩ ?_
  rintro g a1 w1 ⟨j, hjg, hjn, hk1, hw1, h1⟩
  have hlen : ((⟨(Lib.decDigits j).toArray⟩ : ByteArray)).size ≤ 100000 := by
    have := dec_len j j (Nat.le_refl _)
    simp [ByteArray.size]; omega
  refine wp_block ?_
  refine wp_seq ?_
  refine nx_r1_wp hk1 hlen (itoa_any j (by omega) w1 (ht w1 hw1)) (fun a2 w2 h2 hb2 => ?_) a1 h1
  rw [vB_eq] at h2
  have hk2 := (hb2.block _ (lt_heap hk1)).trans hk1
  refine wp_seq ?_
  refine nx_r2_wp hk2 (by omega) (fun a3 h3 => ?_) a2 h2
  have hk3 : (w2.setCell ⟨bk, 0, none⟩ (.int .i64 ((j : Int) + 1))).heap[bk]? = some (.cells #[.int .i64 ((j + 1 : Nat) : Int)] 3 (0, 0)) := by
    have := heap_set hk2 0 (.int .i64 ((j : Int) + 1))
    simpa using this
  have hw3 : Keeps (· = bk) w (w2.setCell ⟨bk, 0, none⟩ (.int .i64 ((j : Int) + 1))) := (hw1.trans (Below.keeps hb2 _)).set (b := bk) (Or.inl rfl) 0 _
  have hu3 := (hw3.block bu (lt_heap hu) hne).trans hu
  have hcon := contains_any (hv.keep (fun k hk => hw3.block k (hS k hk).1 (hS k hk).2) (fun _ h => h)) (vB j)
  refine wp_seq ?_
  refine nx_r3_wp hu3 hcon (fun a4 h4 => ?_) a3 h3
  cases hb : hasB u (vB j)
  · rw [hb] at h4
    refine wp_cond_true ((h4.eval (k := 12) (v := .bool (!false)) (by simp)).trans (by rw [show (!false) = true from rfl])) ?_
    refine wp_seq ?_
    refine nx_r4_wp (fun a5 h5 => ?_) a4 ⟨h4.1, h4.2.1, h4.2.2.1, h4.2.2.2.1, h4.2.2.2.2.1, trivial⟩
    refine wp_ret ?_
    repeat (first | refine then_ret ?_ | refine inBlock_ret ?_)
    have hnx : nextV u n = j := by
      rw [← hjn]
      exact nextV_stop (fun hm => by rw [hasB_iff.2 hm] at hb; cases hb)
    refine nx_ret_wp ?_ a5 h5
    rw [hnx]
    exact ⟨rfl, hk3, hw3⟩
  · rw [hb] at h4
    refine wp_cond_false ((h4.eval (k := 12) (v := .bool (!true)) (by simp)).trans (by rw [show (!true) = false from rfl])) ?_
    refine wp_skip ?_
    have hst := nextV_step (hasB_iff.1 hb)
    exact ⟨g - 1, by rw [hjn] at hst; omega, j + 1, by rw [hjn] at hst; omega, by rw [← hst.1, hjn], hk3, hw3, ⟨h4.1, h4.2.1, h4.2.2.1, h4.2.2.2.1, trivial⟩⟩
end

section
open Go Go.RowKit
set_option linter.unusedSimpArgs false
set_option linter.unusedVariables false
/-- A copy of a formula under way: the formula (block wo.heap.size), the result (+ 1), the copy (+ 2) with its words so far. -/
structure CY (PP : Nat → Prop) (wo w : World) (vw : Value) (ws : List ByteArray) (x : ByteArray) (vs : Value) (kd : Int) (nm : ByteArray) (A : Option Addr) (n1 c1 : Nat) (B : Option Addr) (n2 c2 : Nat) : Prop where
  a : w.heap[wo.heap.size]? = some (.cells #[.int .i64 kd, .string nm, .slice A n1 c1, .slice B n2 c2] 29 (0, 0))
  z : w.heap[wo.heap.size + 1]? = some (.cells #[.int .i64 0, .string ⟨#[]⟩, .slice none 0 0, .slice none 0 0] 29 (0, 0))
  c : w.heap[wo.heap.size + 2]? = some (.cells #[.int .i64 kd, .string x, vw, vs] 29 (0, 0))
  rw : w.ownsRow (wo.heap.size + 3) 9 1 vw ws.length (ws.map .string)
  b : Keeps PP wo w
  p : ∀ k, PP k → k < wo.heap.size
theorem CY.keeps {PP : Nat → Prop} {vw vs : Value} {ws : List ByteArray} {x : ByteArray} {wo w : World} {kd : Int} {nm : ByteArray} {A B : Option Addr} {n1 c1 n2 c2 : Nat} {w' : World} (h : CY PP wo w vw ws x vs kd nm A n1 c1 B n2 c2) (hk : Keeps PP w w') : CY PP wo w' vw ws x vs kd nm A n1 c1 B n2 c2 := by
  have h0 := lt_heap h.a
  have h1 := lt_heap h.z
  have h2 := lt_heap h.c
  refine ⟨(hk.block _ h0 (fun e => by have := h.p _ e; omega)).trans h.a, (hk.block _ h1 (fun e => by have := h.p _ e; omega)).trans h.z, (hk.block _ h2 (fun e => by have := h.p _ e; omega)).trans h.c, rowGrownF h.rw (fun k hlt e => hk.block k hlt (fun e2 => by have := h.p _ e2; have := (h.rw.lt k e).1; omega)), h.b.trans hk, h.p⟩
theorem CY.word {PP : Nat → Prop} {vw vs : Value} {ws : List ByteArray} {x : ByteArray} {wo w : World} {kd : Int} {nm : ByteArray} {A B : Option Addr} {n1 c1 n2 c2 : Nat} {w2 : World} {g cap : Nat} {s : ByteArray} {o : Obj} (h : CY PP wo w vw ws x vs kd nm A n1 c1 B n2 c2) (hown : w2.ownsRow (wo.heap.size + 3) 9 1 (.slice (some ⟨g, 0, none⟩) (ws.length + 1) cap) (ws.length + 1) (ws.map .string ++ [.string s])) (hg : (w.alloc o).grownBy w2 vw.ownBlock) :
    w2.heap[wo.heap.size + 2]? = some (.cells #[.int .i64 kd, .string x, vw, vs] 29 (0, 0)) ∧ CY PP wo (w2.setCell ⟨wo.heap.size + 2, 2, none⟩ (.slice (some ⟨g, 0, none⟩) (ws.length + 1) cap)) (.slice (some ⟨g, 0, none⟩) (ws.length + 1) cap) (ws ++ [s]) x vs kd nm A n1 c1 B n2 c2 := by
  have h0 := lt_heap h.a
  have h1 := lt_heap h.z
  have h2 := lt_heap h.c
  have hge : ∀ k, vw.ownBlock = some k → wo.heap.size + 3 ≤ k := fun k e => (h.rw.lt k e).1
  have hk : ∀ k, k < w.heap.size → vw.ownBlock ≠ some k → w2.heap[k]? = w.heap[k]? := fun k h1 h2 => (hg.block k (by simp; omega) (fun e => h2 e.symm)).trans (heap_old h1 rfl)
  have hc2 := (hk _ h2 (fun e => by have := hge _ e; omega)).trans h.c
  have hsz : w.heap.size + 1 ≤ w2.heap.size := by have := hg.size; simpa using this
  have hgg := (hown.lt g rfl).1
  refine ⟨hc2, ?_, ?_, ?_, ?_, ?_, h.p⟩
  · exact heap_far _ (by omega) ((hk _ h0 (fun e => by have := hge _ e; omega)).trans h.a)
  · exact heap_far _ (by omega) ((hk _ h1 (fun e => by have := hge _ e; omega)).trans h.z)
  · have := heap_set hc2 2 (.slice (some ⟨g, 0, none⟩) (ws.length + 1) cap)
    simpa using this
  · have h3 : (w2.setCell ⟨wo.heap.size + 2, 2, none⟩ (.slice (some ⟨g, 0, none⟩) (ws.length + 1) cap)).ownsRow (wo.heap.size + 3) 9 1 (.slice (some ⟨g, 0, none⟩) (ws.length + 1) cap) (ws.length + 1) (ws.map .string ++ [.string s]) := rowGrownF hown (fun b _ e => heap_far _ (by have e2 : g = b := Option.some.inj e; omega) rfl)
    simpa using h3
  · refine ⟨hg.os.trans h.b.os, hg.tape.trans h.b.tape, hg.output.trans h.b.output, by rw [size_set]; have := h.b.size; omega, fun k hk1 hk2 => ?_⟩
    have := h.b.size
    exact (heap_far _ (by omega) (hk k (by omega) (fun e => by have := hge _ e; omega))).trans (h.b.block k hk1 hk2)
end

section
open Go Go.RowKit
set_option linter.unusedSimpArgs false
set_option linter.unusedVariables false
theorem CY.name {PP : Nat → Prop} {vw vs : Value} {ws : List ByteArray} {x : ByteArray} {wo w : World} {kd : Int} {nm : ByteArray} {A B : Option Addr} {n1 c1 n2 c2 : Nat} (h : CY PP wo w vw ws x vs kd nm A n1 c1 B n2 c2) (y : ByteArray) : CY PP wo (w.setCell ⟨wo.heap.size + 2, 1, none⟩ (.string y)) vw ws y vs kd nm A n1 c1 B n2 c2 := by
  have h2 := lt_heap h.c
  refine ⟨heap_far _ (by omega) h.a, heap_far _ (by omega) h.z, ?_, rowGrownF h.rw (fun b _ e => heap_far _ (by have := (h.rw.lt b e).1; omega) rfl), ?_, h.p⟩
  · have := heap_set h.c 1 (.string y)
    simpa using this
  · refine ⟨h.b.os, h.b.tape, h.b.output, by rw [size_set]; exact h.b.size, fun k hk1 hk2 => (heap_far _ (by omega) rfl).trans (h.b.block k hk1 hk2)⟩
theorem CY.below {PP : Nat → Prop} {vw vs : Value} {ws : List ByteArray} {x : ByteArray} {wo w : World} {kd : Int} {nm : ByteArray} {A B : Option Addr} {n1 c1 n2 c2 : Nat} {w' : World} (h : CY PP wo w vw ws x vs kd nm A n1 c1 B n2 c2) (hb : Below w.heap.size w w') : CY PP wo w' vw ws x vs kd nm A n1 c1 B n2 c2 := h.keeps (Below.keeps hb _)
end

section
open Go Go.RowKit
set_option linter.unusedSimpArgs false
set_option linter.unusedVariables false
theorem infoForm : (Tryd.prog.info? 29).map (fun i => (i.zero, i.size, i.bytes)) = some (some (.agg #[.int .i64 0, .string ⟨#[]⟩, .slice none 0 0, .slice none 0 0]), 4, 72) := by kernel_rfl
theorem rows_ne {w : World} {B1 B2 s1 s2 n1 n2 : Nat} {E1 E2 : TypeId} {v1 v2 : Value} {x1 x2 : List Value} (h1 : w.ownsRow B1 E1 s1 v1 n1 x1) (h2 : w.ownsRow B2 E2 s2 v2 n2 x2) (hE : E1 ≠ E2) : ∀ k, v1.ownBlock = some k → v2.ownBlock ≠ some k := by
  intro k e1 e2
  rcases h1.2 with ⟨e, _⟩ | ⟨g, _, _, e, _, hh, _⟩
  · rw [e] at e1; cases e1
  rcases h2.2 with ⟨f, _⟩ | ⟨g', _, _, f, _, hh', _⟩
  · rw [f] at e2; cases e2
  rw [e] at e1; rw [f] at e2
  have q1 : g = k := Option.some.inj e1
  have q2 : g' = k := Option.some.inj e2
  subst q1 q2
  rw [hh] at hh'
  injection hh' with hh'
  injection hh' with _ q _
  exact hE q
end

section
open Go Go.RowKit
set_option linter.unusedSimpArgs false
set_option linter.unusedVariables false
theorem at4F {w : World} {b : Nat} {a0 a1 a2 a3 v0 v1 v2 v3 : Value} {T : TypeId} (h : w.heap[b]? = some (.cells #[a0, a1, a2, a3] T (0, 0))) : ((((w.setCell ⟨b, 0, none⟩ v0).setCell ⟨b, 1, none⟩ v1).setCell ⟨b, 2, none⟩ v2).setCell ⟨b, 3, none⟩ v3).heap[b]? = some (.cells #[v0, v1, v2, v3] T (0, 0)) := heap_set (heap_set (heap_set (heap_set h 0 v0) 1 v1) 2 v2) 3 v3
theorem keeps4F {PP : Nat → Prop} {u w : World} {b : Nat} {v0 v1 v2 v3 : Value} (h : Keeps PP u w) (hb : PP b ∨ u.heap.size ≤ b) : Keeps PP u ((((w.setCell ⟨b, 0, none⟩ v0).setCell ⟨b, 1, none⟩ v1).setCell ⟨b, 2, none⟩ v2).setCell ⟨b, 3, none⟩ v3) := (((h.set hb 0 v0).set hb 1 v1).set hb 2 v2).set hb 3 v3
theorem sl_sizes {w : World} {S : Nat → Prop} {v : Value} {l : List ByteArray} (h : strRep.Sl w S v l) : ∀ s ∈ l, s.size ≤ maxLen := by
  intro s hs
  obtain ⟨A, n, c, rfl, _⟩ := id h
  obtain ⟨j, hj, rfl⟩ := List.getElem_of_mem hs
  obtain ⟨_, _, _, _, _, ⟨_, hz⟩, _⟩ := Rep.Sl.at_ h (List.getElem?_eq_getElem hj)
  exact hz
/-- The copy, done. -/
theorem CY.fin {tt : List Fm} {PP : Nat → Prop} {vw vs : Value} {ws : List ByteArray} {x : ByteArray} {wo w : World} {kd : Int} {nm : ByteArray} {A B : Option Addr} {n1 c1 n2 c2 : Nat} {w' : World} (h : CY PP wo w vw ws x vs kd nm A n1 c1 B n2 c2) (ho : fmRep.Own 29 (wo.heap.size + 3) w (fun b => wo.heap.size + 3 ≤ b ∧ b < w.heap.size) vs tt) (hx : x.size ≤ maxLen) (hz : ∀ s ∈ ws, s.size ≤ maxLen) (hwl : ws.length ≤ maxLen) (htl : tt.length ≤ maxLen) (hk : Keeps (· = wo.heap.size + 1) w w') : fmRep.R w' (fun b => wo.heap.size ≤ b ∧ b < w'.heap.size) (.mk ⟨kd, x, ws⟩ tt) [.int .i64 kd, .string x, vw, vs] := by
  have hks := hk.size
  have h1 := sl_of_row (S := fun b => wo.heap.size + 3 ≤ b ∧ b < w.heap.size) h.rw hz hwl (fun k e => h.rw.lt k e)
  have h2 := ho.sl (S' := fun b => wo.heap.size + 3 ≤ b ∧ b < w.heap.size) htl (fun b hb => hb) (fun b h1 h2 => ⟨h1, h2⟩)
  exact Fm.shut (a := ⟨kd, x, ws⟩) hx (h1.keep (fun b hb => hk.block b hb.2 (by omega)) (fun b hb => ⟨by omega, by omega⟩)) (h2.keep (fun b hb => hk.block b hb.2 (by omega)) (fun b hb => ⟨by omega, by omega⟩))
theorem CY.start {PP : Nat → Prop} {wo wx : World} {kd : Int} {nm : ByteArray} {A B : Option Addr} {n1 c1 n2 c2 : Nat} (ha : wx.heap[wo.heap.size]? = some (.cells #[.int .i64 kd, .string nm, .slice A n1 c1, .slice B n2 c2] 29 (0, 0))) (hz : wx.heap[wo.heap.size + 1]? = some (.cells #[.int .i64 0, .string ⟨#[]⟩, .slice none 0 0, .slice none 0 0] 29 (0, 0))) (hsz : wx.heap.size = wo.heap.size + 2) (hb : Below wo.heap.size wo wx) (hp : ∀ k, PP k → k < wo.heap.size) : CY PP wo (wx.alloc (.cells #[.int .i64 kd, .string nm, .slice none 0 0, .slice none 0 0] 29)) (.slice none 0 0) [] nm (.slice none 0 0) kd nm A n1 c1 B n2 c2 := by
  refine ⟨heap_old (lt_heap ha) ha, heap_old (lt_heap hz) hz, ?_, World.ownsRow_nil _ _ _ _, Keeps.alloc (Below.keeps hb _) _, hp⟩
  rw [← hsz]
  exact heap_alloc_new _ _
theorem allWs_at_le : ∀ (l : List (Tree FmL)) (j : Nat) (h : j < l.length), (allW l[j]).length ≤ (allWs l).length
  | t :: l, 0, _ => by simp [allWs]
  | t :: l, j + 1, h => by
    have := allWs_at_le l j (by simpa using h)
    simp only [allWs, List.length_append, List.getElem_cons_succ]; omega
end

section
open Go Go.RowKit
set_option linter.unusedSimpArgs false
set_option linter.unusedVariables false
/-- What stays of memory when one part is added to the copy. -/
structure Fra (PP : Nat → Prop) (c : Nat) (w w' : World) (vs v' : Value) : Prop where
  keep : ∀ k, k < w.heap.size → ¬ PP k → k ≠ c → vs.ownBlock ≠ some k → w'.heap[k]? = w.heap[k]?
  at_ : ∀ k, v'.ownBlock = some k → vs.ownBlock = some k ∨ w.heap.size ≤ k
  size : w.heap.size ≤ w'.heap.size
/-- One part more, where the call has written into the block of PP, too. -/
theorem CY.subK {tt : List Fm} {PP : Nat → Prop} {vw vs : Value} {ws : List ByteArray} {x : ByteArray} {wo w : World} {kd : Int} {nm : ByteArray} {A B : Option Addr} {n1 c1 n2 c2 : Nat} {w2 w3 : World} {g cap : Nat} {t : Fm} {es xs : List Value} {o : Obj} (h : CY PP wo w vw ws x vs kd nm A n1 c1 B n2 c2) (hrow : w.ownsRow (wo.heap.size + 3) 29 4 vs tt.length xs) (hall : fmRep.All w (fun b => (wo.heap.size + 3 ≤ b ∧ b < w.heap.size) ∧ vs.ownBlock ≠ some b) tt xs) (hb2 : Keeps PP w w2) (hes : fmRep.R w2 (fun b => w.heap.size ≤ b ∧ b < w2.heap.size) t es)
    (hown : w3.ownsRow (wo.heap.size + 3) 29 4 (.slice (some ⟨g, 0, none⟩) (tt.length + 1) cap) (tt.length + 1) (xs ++ es)) (hg : (w2.alloc o).grownBy w3 vs.ownBlock) (hat : vs.ownBlock = some g ∨ g = w2.heap.size + 1) :
    w3.heap[wo.heap.size + 2]? = some (.cells #[.int .i64 kd, .string x, vw, vs] 29 (0, 0)) ∧ CY PP wo (w3.setCell ⟨wo.heap.size + 2, 3, none⟩ (.slice (some ⟨g, 0, none⟩) (tt.length + 1) cap)) vw ws x (.slice (some ⟨g, 0, none⟩) (tt.length + 1) cap) kd nm A n1 c1 B n2 c2 ∧ fmRep.Own 29 (wo.heap.size + 3) (w3.setCell ⟨wo.heap.size + 2, 3, none⟩ (.slice (some ⟨g, 0, none⟩) (tt.length + 1) cap)) (fun b => wo.heap.size + 3 ≤ b ∧ b < (w3.setCell ⟨wo.heap.size + 2, 3, none⟩ (.slice (some ⟨g, 0, none⟩) (tt.length + 1) cap)).heap.size) (.slice (some ⟨g, 0, none⟩) (tt.length + 1) cap) (tt ++ [t]) ∧ (∀ k, k < wo.heap.size → (w3.setCell ⟨wo.heap.size + 2, 3, none⟩ (.slice (some ⟨g, 0, none⟩) (tt.length + 1) cap)).heap[k]? = w2.heap[k]?) ∧ Fra PP (wo.heap.size + 2) w (w3.setCell ⟨wo.heap.size + 2, 3, none⟩ (.slice (some ⟨g, 0, none⟩) (tt.length + 1) cap)) vs (.slice (some ⟨g, 0, none⟩) (tt.length + 1) cap) := by
  have hc := lt_heap h.c
  have hz2 := hb2.size
  have h2 := h.keeps hb2
  have hB : ∀ b, wo.heap.size ≤ b → b < w.heap.size → w2.heap[b]? = w.heap[b]? := fun b h1 h2 => hb2.block b h2 (fun e => by have := h.p b e; omega)
  have hge : ∀ k, vs.ownBlock = some k → wo.heap.size + 3 ≤ k ∧ k < w.heap.size := fun k e => hrow.lt k e
  have hk : ∀ k, k < w2.heap.size → vs.ownBlock ≠ some k → w3.heap[k]? = w2.heap[k]? := fun k h1 h2 => (hg.block k (by simp; omega) (fun e => h2 e.symm)).trans (heap_old h1 rfl)
  have hne : ∀ k, k < wo.heap.size + 3 → vs.ownBlock ≠ some k := fun k hk e => by have := (hge k e).1; omega
  have hc3 := (hk (wo.heap.size + 2) (by omega) (hne _ (by omega))).trans h2.c
  have hsz : w2.heap.size + 1 ≤ w3.heap.size := by have := hg.size; simpa using this
  have hgg := (hown.lt g rfl).1
  have hrow2 : w2.ownsRow (wo.heap.size + 3) 29 4 vs tt.length xs := by
    obtain ⟨q1, q2⟩ := hrow
    refine ⟨q1, ?_⟩
    rcases q2 with q2 | ⟨g', cap', cur, e, q3, hh, r⟩
    · exact Or.inl q2
    · exact Or.inr ⟨g', cap', cur, e, q3, (hB g' (by omega) (lt_heap hh)).trans hh, r⟩
  have hvw := rows_ne h2.rw hrow2 (by decide)
  have hst := Rep.step (ρ := fmRep) (base := wo.heap.size + 3) (w1 := w2) (w3 := w3) (T := fun b => w.heap.size ≤ b ∧ b < w2.heap.size) (v := vs) (o := o) rfl (hall.keep (fun b hb => hB b (by omega) hb.1.2) (fun b hb => ⟨⟨hb.1.1, by have := hb.1.2; omega⟩, hb.2⟩)) hes (fun b hb => ⟨⟨by have := hb.1; omega, hb.2⟩, fun e => by have := (hge b e).2; have := hb.1; omega⟩) hown hg hat
  have hbs := h2.b.size
  refine ⟨hc3, ⟨?_, ?_, ?_, ?_, ?_, h.p⟩, ?_, ?_, ?_⟩
  · exact heap_far _ (by omega) ((hk _ (by omega) (hne _ (by omega))).trans h2.a)
  · exact heap_far _ (by omega) ((hk _ (by omega) (hne _ (by omega))).trans h2.z)
  · have := heap_set hc3 3 (.slice (some ⟨g, 0, none⟩) (tt.length + 1) cap)
    simpa using this
  · exact rowGrownF (rowGrownF h2.rw (fun b hb e => hk b hb (hvw b e))) (fun b _ e => heap_far _ (by have := (h2.rw.lt b e).1; omega) rfl)
  · refine ⟨hg.os.trans h2.b.os, hg.tape.trans h2.b.tape, hg.output.trans h2.b.output, by rw [size_set]; omega, fun k hk1 hk2 => ?_⟩
    exact (heap_far _ (by omega) (hk k (by omega) (hne k (by omega)))).trans (h2.b.block k hk1 hk2)
  · have := hst.grow (w' := w3.setCell ⟨wo.heap.size + 2, 3, none⟩ (.slice (some ⟨g, 0, none⟩) (tt.length + 1) cap)) (fun b hb1 _ => heap_far _ (by omega) rfl) (by rw [size_set]; omega)
    exact this
  · exact fun k hk1 => heap_far _ (by omega) (hk k (by omega) (hne k (by omega)))
  · refine ⟨fun k h1 h2 h3 h4 => heap_far _ h3 ((hk k (by omega) h4).trans (hb2.block k h1 h2)), fun k e => ?_, by rw [size_set]; omega⟩
    have e : g = k := Option.some.inj e
    subst e
    rcases hat with e | e
    · exact Or.inl e
    · exact Or.inr (by omega)
end

section
open Go Go.RowKit
set_option linter.unusedSimpArgs false
set_option linter.unusedVariables false
theorem lookE_at (env : Env) (w : ByteArray) (j : Nat) (hj : j < env.length) (hn : ∀ i, j < i → ∀ p : ByteArray × ByteArray, env[i]? = some p → p.1 ≠ w) (h : env[j].1 = w) : lookE env w = env[j].2 := by
  have e : env = env.take j ++ (env[j] :: env.drop (j + 1)) := by rw [← List.drop_eq_getElem_cons hj, List.take_append_drop]
  conv => lhs; rw [e]
  unfold lookE
  rw [List.foldl_append, List.foldl_cons, look_free w (env.drop (j + 1)) _ (fun hm => ?_), if_pos h]
  obtain ⟨p, h1, h2⟩ := List.mem_map.1 hm
  obtain ⟨i, hi⟩ := List.getElem?_of_mem h1
  rw [List.getElem?_drop] at hi
  exact hn _ (by omega) p hi h2
theorem lookE_none (env : Env) (w : ByteArray) (hn : ∀ (i : Nat) (p : ByteArray × ByteArray), env[i]? = some p → p.1 ≠ w) : lookE env w = w := by
  unfold lookE
  refine look_free w env w (fun hm => ?_)
  obtain ⟨p, h1, h2⟩ := List.mem_map.1 hm
  obtain ⟨i, hi⟩ := List.getElem?_of_mem h1
  exact hn i p hi h2
theorem renFs_append (nm : Nat → ByteArray) (env : Env) : ∀ (l m : List (Tree FmL)) (k : Nat), renFs nm env (l ++ m) k = ((renFs nm env l k).1 ++ (renFs nm env m (renFs nm env l k).2).1, (renFs nm env m (renFs nm env l k).2).2)
  | [], m, k => by simp [renFs]
  | t :: l, m, k => by
    rw [List.cons_append, renFs_c, renFs_c, renFs_append nm env l m]
    rfl
theorem renFs_take (nm : Nat → ByteArray) (env : Env) (l : List (Tree FmL)) (k j : Nat) (h : j < l.length) : renFs nm env (l.take (j + 1)) k = ((renFs nm env (l.take j) k).1 ++ [(renF nm env l[j] (renFs nm env (l.take j) k).2).1], (renF nm env l[j] (renFs nm env (l.take j) k).2).2) := by
  rw [List.take_succ_eq_append_getElem h, renFs_append]
  simp [renFs]
theorem renFs_len (nm : Nat → ByteArray) (env : Env) : ∀ (l : List (Tree FmL)) (k : Nat), (renFs nm env l k).1.length = l.length
  | [], _ => rfl
  | t :: l, k => by simp [renFs, renFs_len nm env l]
theorem lookE_size {M : Nat} (w : ByteArray) : ∀ (env : Env) (r : ByteArray), (∀ p ∈ env, p.2.size ≤ M) → r.size ≤ M → (env.foldl (fun r p => if p.1 = w then p.2 else r) r).size ≤ M
  | [], _, _, h => h
  | p :: env, r, h1, h => by
    rw [List.foldl_cons]
    refine lookE_size w env _ (fun q hq => h1 q (List.mem_cons_of_mem _ hq)) ?_
    split
    · exact h1 p (List.mem_cons_self ..)
    · exact h
theorem quNs_take (l : List (Tree FmL)) (j : Nat) (h : j < l.length) : quNs (l.take j) + quN l[j] ≤ quNs l := by
  have key : ∀ (l : List (Tree FmL)) (j : Nat) (h : j < l.length), quNs (l.take j) + quN l[j] ≤ quNs l := by
    intro l
    induction l with
    | nil => intro j h; simp at h
    | cons t l ih =>
      intro j h
      cases j with
      | zero => simp [quNs]
      | succ j =>
        have := ih j (by simpa using h)
        simp only [List.take_succ_cons, quNs, List.getElem_cons_succ]
        omega
  exact key l j h
end

end Go.Proofs.YtflcbbikfdahhaaDoor
