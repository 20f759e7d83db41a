/-
  folform.Constants' inner function: joined.
-/
import Derived.Test.YtdofemkfmkopcaaDoorCnA
import Derived.Test.YtdofemkfmkopcaaDoorShelf
namespace Go.Proofs.YtdofemkfmkopcaaDoor
open Go Go.RowKit
set_option linter.unusedSimpArgs false
set_option linter.unusedVariables false

/-- slices.Contains on a slice of strings. -/
theorem contains_any {w : World} {S : Nat → Prop} {D : Option Addr} {m e : Nat} {bd : List ByteArray} (h : strRep.Sl w S (.slice D m e) bd) (x : ByteArray) : Calls Tryd.prog 60 #[.slice D m e, .string x] w fun e w' => e = .returned (.bool (hasB bd x)) ∧ w' = w := by
  obtain ⟨D', m', c', e1, hlen, hmax, _⟩ := id h
  injection e1 with e1 e2 e3
  subst e1 e2 e3
  have hb : hasB bd x = Lib.containsS bd x := Bool.eq_iff_iff.2 (hasB_iff.trans (Lib.containsS_iff bd x).symm)
  cases bd with
  | nil =>
    obtain rfl : m = 0 := hlen.symm
    exact Tryd.slices_Contains_string_empty D e x w
  | cons a l =>
    obtain ⟨b, o, cs, rfl, _⟩ := Rep.Sl.at_ h (k := 0) rfl
    have hc : ∀ j, j < (a :: l).length → w.cell? ⟨b, o + j, none⟩ = some (.string ((a :: l).getD j ByteArray.empty)) := fun j hj => by
      obtain ⟨b', o', cs', e', _, ⟨rfl, _⟩, hc'⟩ := Rep.Sl.at_ h (List.getElem?_eq_getElem hj)
      injection e' with e'
      injection e' with e1 e2
      subst e1 e2
      have := hc' 0 _ rfl
      rw [List.getD_eq_getElem?_getD, List.getElem?_eq_getElem hj]
      simpa [strRep] using this
    have := Tryd.slices_Contains_string b o m e (a :: l) x w (by omega) (by unfold maxLen at hmax; omega) hc
    rw [List.take_of_length_le (by omega)] at this
    rw [hb]
    exact this
theorem strAll {w : World} {S : Nat → Prop} : ∀ l : List ByteArray, (∀ s ∈ l, s.size ≤ maxLen) → strRep.All w S l (l.map .string)
  | [], _ => rfl
  | a :: l, h => ⟨[.string a], l.map .string, rfl, ⟨rfl, h a (by simp)⟩, strAll l (fun s hs => h s (by simp [hs]))⟩
/-- A row of strings of the call's own, as a slice. -/
theorem sl_of_row {w : World} {base : Nat} {v : Value} {l : List ByteArray} {E : TypeId} {S : Nat → Prop} (h : w.ownsRow base E 1 v l.length (l.map .string)) (hz : ∀ s ∈ l, s.size ≤ maxLen) (hm : l.length ≤ maxLen) (hS : ∀ k, v.ownBlock = some k → S k) : strRep.Sl w S v l := by
  obtain ⟨_, ⟨e, e0⟩ | ⟨g, cap, cur, e, hg, hh, h1, h2, h3, h4⟩⟩ := h
  · rw [e]
    exact ⟨none, 0, 0, rfl, e0, by omega, by omega⟩
  · refine ⟨some ⟨g, 0, none⟩, l.length, cap, e, rfl, hm, fun _ => ⟨g, 0, l.map .string, rfl, hS g (by rw [e]; rfl), strAll l hz, fun j u hu => ?_⟩⟩
    have hj : j < l.length := by
      have := (List.getElem?_eq_some_iff.1 hu).1
      simpa using this
    have h5 : cur[j]? = some u := by
      rw [← Array.getElem?_toList, ← List.getElem?_take_of_lt hj]
      rw [Nat.mul_one] at h4
      rw [h4]; exact hu
    simp only [World.cell?, hh, Nat.zero_add]
    simpa using h5
theorem fmFreess_take_le (bd : List ByteArray) (l : List Fm) (j : Nat) : (fmFreess bd (l.take j)).length ≤ (fmFreess bd l).length := by
  conv => rhs; rw [← List.take_append_drop j l, fmFreess_append]
  rw [List.length_append]
  omega
theorem fmFreess_at_le (bd : List ByteArray) (l : List Fm) (j : Nat) (h : j < l.length) : (fmFreess bd (l.take j)).length + (fmFrees bd l[j]).length ≤ (fmFreess bd l).length := by
  have := fmFreess_take_le bd l (j + 1)
  rw [fmFreess_take bd l j h, List.length_append] at this
  exact this
theorem cn_end {R : Ending → World → Prop} {w' : World} {a : Act} (hd : a.defers = []) (hR : R (.returned (.tuple #[])) w') : bodyPost Tryd.prog Tryd.f59 R .normal a w' := bodyPost_end (results_none Tryd.results59 _ _ _) hd hR
noncomputable def c_cn_wl : Code := sub [1, 0, 1, 0] (Tryd.f59.body.getD .skip)
set_option maxRecDepth 100000 in
set_option maxHeartbeats 4000000 in
theorem cn_wl_wp {Q : Exit → Act → World → Prop} {S : Nat → Prop} {bd ws : List ByteArray} {bl bw m e : Nat} {D : Option Addr} {l : List ByteArray} {v0 v : Value} {wo w : World} {kd : Int} {nm : ByteArray} {A B : Option Addr} {n1 c1 n2 c2 : Nat} (hs : KS wo w bl v0 kd nm A n1 c1 B n2 c2 v l) (hS : ∀ k, S k → k < wo.heap.size ∧ k ≠ bl ∧ v0.ownBlock ≠ some k) (hbd : strRep.Sl wo S (.slice D m e) bd) (hw : strRep.Sl wo S (.slice A n1 c1) ws) (hln : l.length + (ws.filter (fun x => !hasB bd x)).length ≤ 1000000)
    (hX : ∀ v' a' w', Frm 50 [(1, (.slice D m e)), (2, .pointer (some ⟨bl, 0, none⟩)), (3, .pointer (some ⟨bw, 0, none⟩)), (4, .pointer (some ⟨wo.heap.size, 0, none⟩))] a' → KS wo w' bl v0 kd nm A n1 c1 B n2 c2 v' (l ++ ws.filter (fun x => !hasB bd x)) → Q (.exit 0) a' w') : ∀ ac, Frm 50 [(1, (.slice D m e)), (2, .pointer (some ⟨bl, 0, none⟩)), (3, .pointer (some ⟨bw, 0, none⟩)), (4, .pointer (some ⟨wo.heap.size, 0, none⟩)), (11, .slice A n1 c1), (12, .int .i64 (n1 : Nat)), (13, .int .i64 (0 : Nat))] ac → Code.wp Tryd.prog c_cn_wl Q ac w := by
  intro a0 hf0
  conv => arg 2; whnf
  obtain ⟨A', n', c', e9, hlen, hmax, _⟩ := id hw
  injection e9 with e1 e2 e3
  subst e1 e2 e3
  refine wp_loopR (fun g a' w' => ∃ (j : Nat) (v' : Value), j + g = ws.length ∧ KS wo w' bl v0 kd nm A n1 c1 B n2 c2 v' (l ++ (ws.take j).filter (fun x => !hasB bd x)) ∧ Frm 50 [(1, (.slice D m e)), (2, .pointer (some ⟨bl, 0, none⟩)), (3, .pointer (some ⟨bw, 0, none⟩)), (4, .pointer (some ⟨wo.heap.size, 0, none⟩)), (11, .slice A n1 c1), (12, .int .i64 (n1 : Nat)), (13, .int .i64 (j : Nat))] a') ws.length ⟨0, v, by omega, by simpa using hs, hf0⟩ ?_
  rintro g a1 w1 ⟨j, v1, hjg, hs1, h1⟩
  refine wp_seq ?_
  refine cn_r2_wp (fun a2 h2 => ?_) a1 h1
  refine wp_seq ?_
  by_cases hj : j < n1
  case neg =>
    refine wp_cond_false ((h2.eval (k := 14) (v := .bool (decide (j < n1))) (by simp)).trans (by rw [decide_eq_false hj])) ?_
    refine wp_exit (hX v1 a2 w1 ⟨h2.1, h2.2.1, h2.2.2.1, h2.2.2.2.1, h2.2.2.2.2.1, h2.2.2.2.2.2.1, trivial⟩ ?_)
    rwa [List.take_of_length_le (by omega)] at hs1
  refine wp_cond_true ((h2.eval (k := 14) (v := .bool (decide (j < n1))) (by simp)).trans (by rw [decide_eq_true hj])) ?_
  refine wp_skip ?_
  show Code.wp _ _ _ a2 w1
  have hold := hs1.old hS
  have hjl : j < ws.length := by omega
  obtain ⟨b, o, cs, rfl, hSb, ⟨rfl, hsz⟩, hc⟩ := Rep.Sl.at_ hw (List.getElem?_eq_getElem hjl)
  have hc0 : w1.cell? ⟨b, o + j, none⟩ = some (.string ws[j]) := (cell_keep (hold b hSb) _).trans (by simpa [strRep] using hc 0 _ rfl)
  have hbl := lt_heap hs1.a
  have hlb : b < w1.heap.size := by have := (hS b hSb).1; omega
  have hcont := contains_any (hbd.keep hold (fun _ h => h)) ws[j]
  have htk : ws.take (j + 1) = ws.take j ++ [ws[j]] := List.take_succ_eq_append_getElem hjl
  have hll : (l ++ (ws.take j).filter (fun x => !hasB bd x)).length ≤ 1000000 := by
    have h9 : ((ws.take j).filter (fun x => !hasB bd x)).length ≤ (ws.filter (fun x => !hasB bd x)).length := by
      conv => rhs; rw [← List.take_append_drop j ws, List.filter_append]
      rw [List.length_append]; omega
    rw [List.length_append]
    omega
  refine wp_seq ?_
  refine wp_block ?_
  refine wp_seq ?_
  refine cn_r3_wp hj hc0 hlb (fun a3 h3 => ?_) a2 ⟨h2.1, h2.2.1, h2.2.2.1, h2.2.2.2.1, h2.2.2.2.2.1, h2.2.2.2.2.2.1, h2.2.2.2.2.2.2.1, h2.2.2.2.2.2.2.2.1, h2.2.2.2.2.2.2.2.2.1, trivial⟩
  refine wp_seq ?_
  refine cn_r4_wp hcont (fun a4 h4 => ?_) a3 h3
  cases hok : hasB bd ws[j]
  · rw [hok] at h4
    refine wp_cond_true ((h4.eval (k := 20) (v := .bool (!false)) (by simp)).trans (by rw [show (!false) = true from rfl])) ?_
    refine cn_r5_wp hll hs1 (fun v5 a5 w5 h5 hs5 => ?_) a4 ⟨h4.1, h4.2.1, h4.2.2.1, h4.2.2.2.1, h4.2.2.2.2.1, h4.2.2.2.2.2.1, h4.2.2.2.2.2.2.1, h4.2.2.2.2.2.2.2.1, h4.2.2.2.2.2.2.2.2.1, h4.2.2.2.2.2.2.2.2.2.1, trivial⟩
    show Code.wp _ _ _ a5 w5
    refine cn_r6_wp hj (by omega) (fun a6 h6 => ?_) a5 h5
    refine ⟨g - 1, by omega, j + 1, v5, by omega, ?_, h6⟩
    rw [htk, List.filter_append, List.filter_cons_of_pos (by simp [hok]), List.filter_nil, ← List.append_assoc]
    exact hs5
  · rw [hok] at h4
    refine wp_cond_false ((h4.eval (k := 20) (v := .bool (!true)) (by simp)).trans (by rw [show (!true) = false from rfl])) ?_
    refine wp_skip ?_
    show Code.wp _ _ _ a4 w1
    refine cn_r6_wp hj (by omega) (fun a6 h6 => ?_) a4 ⟨h4.1, h4.2.1, h4.2.2.1, h4.2.2.2.1, h4.2.2.2.2.1, h4.2.2.2.2.2.1, h4.2.2.2.2.2.2.1, h4.2.2.2.2.2.2.2.1, h4.2.2.2.2.2.2.2.2.1, trivial⟩
    refine ⟨g - 1, by omega, j + 1, v1, by omega, ?_, h6⟩
    rw [htk, List.filter_append, List.filter_cons_of_neg (by simp [hok]), List.filter_nil, List.append_nil]
    exact hs1
noncomputable def c_cn_sl : Code := sub [1, 1, 1, 1, 0] (Tryd.f59.body.getD .skip)
set_option maxRecDepth 100000 in
set_option maxHeartbeats 4000000 in
theorem cn_sl_wp {Q : Exit → Act → World → Prop} {S : Nat → Prop} {bd : List ByteArray} {ts : List Fm} {w : World} {bl bw m e : Nat} {D : Option Addr} {l : List ByteArray} {v : Value} {wo : World} {B : Option Addr} {n2 c2 : Nat} (hb : LB w bl v l) (hS : ∀ k, S k → k < w.heap.size ∧ k ≠ bl ∧ v.ownBlock ≠ some k) (hbd : strRep.Sl w S (.slice D m e) bd) (hl : fmRep.Sl w S (.slice B n2 c2) ts) (hSw : S bw) (hf : w.heap[bw]? = some (.cells #[.func (Fn.func 59) #[] #[.pointer (some ⟨bl, 0, none⟩), .pointer (some ⟨bw, 0, none⟩)]] 91 (0, 0))) (hln : l.length + (fmFreess bd ts).length ≤ 1000000) (ih : ∀ (t : Fm) (cs : List Value) (W : World) (v1 : Value) (l1 : List ByteArray), t ∈ ts → fmRep.R W S t cs → (∀ k, S k → k < W.heap.size ∧ k ≠ bl ∧ v1.ownBlock ≠ some k) → strRep.Sl W S (.slice D m e) bd → W.heap[bw]? = some (.cells #[.func (Fn.func 59) #[] #[.pointer (some ⟨bl, 0, none⟩), .pointer (some ⟨bw, 0, none⟩)]] 91 (0, 0)) → LB W bl v1 l1 → l1.length + (fmFrees bd t).length ≤ 1000000 → Calls Tryd.prog 59 #[.agg cs.toArray, (.slice D m e), .pointer (some ⟨bl, 0, none⟩), .pointer (some ⟨bw, 0, none⟩)] W fun e w' => e = .returned (.tuple #[]) ∧ ∃ v', LB w' bl v' (l1 ++ fmFrees bd t) ∧ LK W w' bl v1 v') 
    (hX : ∀ v' a' w', Frm 50 [(1, (.slice D m e)), (2, .pointer (some ⟨bl, 0, none⟩)), (3, .pointer (some ⟨bw, 0, none⟩)), (4, .pointer (some ⟨wo.heap.size, 0, none⟩))] a' → LB w' bl v' (l ++ fmFreess bd ts) → LK w w' bl v v' → Q (.exit 2) a' w') : ∀ ac, Frm 50 [(1, (.slice D m e)), (2, .pointer (some ⟨bl, 0, none⟩)), (3, .pointer (some ⟨bw, 0, none⟩)), (4, .pointer (some ⟨wo.heap.size, 0, none⟩)), (39, .slice B n2 c2), (40, .int .i64 (n2 : Nat)), (41, .int .i64 (0 : Nat))] ac → Code.wp Tryd.prog c_cn_sl Q ac w := by
  intro a0 hf0
  conv => arg 2; whnf
  obtain ⟨B', n', c', e9, hlen, hmax, _⟩ := id hl
  injection e9 with e1 e2 e3
  subst e1 e2 e3
  refine wp_loopR (fun g a' w' => ∃ (j : Nat) (v' : Value), j + g = ts.length ∧ LB w' bl v' (l ++ fmFreess bd (ts.take j)) ∧ LK w w' bl v v' ∧ Frm 50 [(1, (.slice D m e)), (2, .pointer (some ⟨bl, 0, none⟩)), (3, .pointer (some ⟨bw, 0, none⟩)), (4, .pointer (some ⟨wo.heap.size, 0, none⟩)), (39, .slice B n2 c2), (40, .int .i64 (n2 : Nat)), (41, .int .i64 (j : Nat))] a') ts.length ⟨0, v, by omega, by simpa [fmFreess] using hb, LK.refl _ _ _, hf0⟩ ?_
  rintro g a1 w1 ⟨j, v1, hjg, hb1, hk1, h1⟩
  refine wp_seq ?_
  refine cn_r10_wp (fun a2 h2 => ?_) a1 h1
  refine wp_seq ?_
  by_cases hj : j < n2
  case neg =>
    refine wp_cond_false ((h2.eval (k := 42) (v := .bool (decide (j < n2))) (by simp)).trans (by rw [decide_eq_false hj])) ?_
    refine wp_exit (hX v1 a2 w1 ⟨h2.1, h2.2.1, h2.2.2.1, h2.2.2.2.1, h2.2.2.2.2.1, h2.2.2.2.2.2.1, trivial⟩ ?_ hk1)
    rwa [List.take_of_length_le (by omega)] at hb1
  refine wp_cond_true ((h2.eval (k := 42) (v := .bool (decide (j < n2))) (by simp)).trans (by rw [decide_eq_true hj])) ?_
  refine wp_skip ?_
  show Code.wp _ _ _ a2 w1
  have hjl : j < ts.length := by omega
  obtain ⟨b, o, cs, rfl, hSb, hr, hc⟩ := Rep.Sl.at_ hl (List.getElem?_eq_getElem hjl)
  obtain ⟨Ae, n3, c3, Be, n4, c4, rfl, _, _, _, _⟩ := Fm.shape hr
  have hold : ∀ k, S k → w1.heap[k]? = w.heap[k]? := fun k hk => hk1.block k (hS k hk).1 (hS k hk).2.1 (hS k hk).2.2
  have hS1 : ∀ k, S k → k < w1.heap.size ∧ k ≠ bl ∧ v1.ownBlock ≠ some k := fun k hk => ⟨Nat.lt_of_lt_of_le (hS k hk).1 hk1.size, (hS k hk).2.1, fun e => by
    rcases hk1.at_ k e with e | e
    · exact (hS k hk).2.2 e
    · have := (hS k hk).1; omega⟩
  have hkb := hold b hSb
  have e0 : w1.cell? ⟨b, o + j * 4, none⟩ = _ := (cell_keep hkb _).trans (hc 0 _ rfl)
  have e1 : w1.cell? ⟨b, o + j * 4 + 1, none⟩ = _ := (cell_keep hkb _).trans (hc 1 _ rfl)
  have e2 : w1.cell? ⟨b, o + j * 4 + 2, none⟩ = _ := (cell_keep hkb _).trans (hc 2 _ rfl)
  have e3 : w1.cell? ⟨b, o + j * 4 + 3, none⟩ = _ := (cell_keep hkb _).trans (hc 3 _ rfl)
  refine wp_seq ?_
  refine wp_block ?_
  refine wp_seq ?_
  refine cn_r11_wp hj e0 e1 e2 e3 (hS1 b hSb).1 (fun a3 h3 => ?_) a2 ⟨h2.1, h2.2.1, h2.2.2.1, h2.2.2.2.1, h2.2.2.2.2.1, h2.2.2.2.2.2.1, h2.2.2.2.2.2.2.1, h2.2.2.2.2.2.2.2.1, h2.2.2.2.2.2.2.2.2.1, trivial⟩
  have hbw := (Below.refl w1.heap.size w1).alloc (Nat.le_refl _) (.cells #[.int .i64 ts[j].lab.kind, .string ts[j].lab.nm, .slice Ae n3 c3, .slice Be n4 c4] 25)
  have hge := heap_alloc_new w1 (.cells #[.int .i64 ts[j].lab.kind, .string ts[j].lab.nm, .slice Ae n3 c3, .slice Be n4 c4] 25)
  have hb3 := hb1.below hbw
  have hk3 := LK.below bl v1 hbw
  have hold3 : ∀ k, S k → (w1.alloc (.cells #[.int .i64 ts[j].lab.kind, .string ts[j].lab.nm, .slice Ae n3 c3, .slice Be n4 c4] 25)).heap[k]? = w.heap[k]? := fun k hk => (hbw.block k (hS1 k hk).1).trans (hold k hk)
  have hf3 := (hold3 bw hSw).trans hf
  have hln1 : (l ++ fmFreess bd (ts.take j)).length + (fmFrees bd ts[j]).length ≤ 1000000 := by
    have := fmFreess_at_le bd ts j hjl
    rw [List.length_append]; omega
  have hcall := ih ts[j] _ _ v1 _ (List.getElem_mem hjl) (fmRep.keep hr hold3 (fun _ h => h)) (fun k hk => ⟨by have := (hS1 k hk).1; simp; omega, (hS1 k hk).2⟩) (hbd.keep hold3 (fun _ h => h)) hf3 hb3 hln1
  refine cn_r12_wp hf3 hge hcall (fun a4 w4 h4 hp => ?_) a3 h3
  obtain ⟨v4, hb4, hk4⟩ := hp
  show Code.wp _ _ _ a4 w4
  refine cn_r13_wp hj (by omega) (fun a5 h5 => ?_) a4 ⟨h4.1, h4.2.1, h4.2.2.1, h4.2.2.2.1, h4.2.2.2.2.1, h4.2.2.2.2.2.1, h4.2.2.2.2.2.2.1, h4.2.2.2.2.2.2.2.1, h4.2.2.2.2.2.2.2.2.1, trivial⟩
  refine ⟨g - 1, by omega, j + 1, v4, by omega, ?_, (hk1.trans hk3).trans hk4, h5⟩
  rw [fmFreess_take bd ts j hjl, ← List.append_assoc]
  exact hb4
noncomputable def c_cn_p9 : Code := sub [1, 1, 1] (Tryd.f59.body.getD .skip)
set_option maxRecDepth 100000 in
set_option maxHeartbeats 4000000 in
theorem frees_any : ∀ (N : Nat) (t : Fm) (cs : List Value) (w : World) (S : Nat → Prop) (D : Option Addr) (m e : Nat) (bd : List ByteArray) (bl bw : Nat) (v : Value) (l : List ByteArray), t.nodes ≤ N → fmRep.R w S t cs → (∀ k, S k → k < w.heap.size ∧ k ≠ bl ∧ v.ownBlock ≠ some k) → strRep.Sl w S (.slice D m e) bd → m ≤ e → (bd = [] → D = none) → bd.length + N ≤ 1000000 → S bw → w.heap[bw]? = some (.cells #[.func (Fn.func 59) #[] #[.pointer (some ⟨bl, 0, none⟩), .pointer (some ⟨bw, 0, none⟩)]] 91 (0, 0)) → LB w bl v l → l.length + (fmFrees bd t).length ≤ 1000000 →
    Calls Tryd.prog 59 #[.agg cs.toArray, (.slice D m e), .pointer (some ⟨bl, 0, none⟩), .pointer (some ⟨bw, 0, none⟩)] w (fun e w' => e = .returned (.tuple #[]) ∧ ∃ v', LB w' bl v' (l ++ fmFrees bd t) ∧ LK w w' bl v v') := by
  intro N
  induction N with
  | zero => intro t; have := t.nodes_pos; intros; omega
  | succ N ih =>
  intro t cs w S D m e bd bl bw v l hN ht hS hbd hme hD hdn hSw hf hb hln
  obtain ⟨⟨kd, nm, ws⟩, ts⟩ := t
  obtain ⟨u, v9, rfl, hnm, hw, hl⟩ := Fm.open_ ht
  simp only at hw hnm
  obtain ⟨A, n1, c1, rfl, e1, hm1, _⟩ := id hw
  obtain ⟨B, n2, c2, rfl, e2, hm2, _⟩ := id hl
  have hbm : bd.length = m := by
    obtain ⟨_, _, _, e9, h9, _⟩ := id hbd
    injection e9 with _ e9 _
    rw [e9, h9]
  clear ht
  have hbl := lt_heap hb.box
  simp only [fmFrees] at hln
  rw [List.length_append] at hln
  go_enter Tryd.func59, Tryd.ntmps59
  refine wp_seq ?_
  refine cn_r0_wp hb (fun a0 w0 h0 hs => ?_) _ (id ⟨rfl, rfl, rfl, rfl, rfl, rfl, trivial⟩)
  refine wp_seq ?_
  refine wp_seq ?_
  refine cn_r1_wp hs (fun a1 h1 => ?_) a0 h0
  refine wp_block ?_
  refine cn_wl_wp hs hS hbd hw (by omega) (fun v2 a2 w2 h2 hs2 => ?_) a1 h1
  refine inBlock_exit ?_
  show Code.wp _ _ _ a2 w2
  have p9 : ∀ (a5 : Act) (w5 : World) (S' : Nat → Prop) (D : Option Addr) (m e : Nat) (bd' : List ByteArray) (v5 : Value), bd' = (if kd = 8 ∨ kd = 9 then bd ++ [nm] else bd) → KS w w5 bl v kd nm A n1 c1 B n2 c2 v5 (l ++ ws.filter (fun x => !hasB bd x)) → (∀ k, S k → S' k) → (∀ k, S' k → k < w5.heap.size ∧ k ≠ bl ∧ v5.ownBlock ≠ some k) → strRep.Sl w5 S' (.slice D m e) bd' → m ≤ e → (bd' = [] → D = none) → bd'.length + N ≤ 1000000 → Frm 50 [(1, (.slice D m e)), (2, .pointer (some ⟨bl, 0, none⟩)), (3, .pointer (some ⟨bw, 0, none⟩)), (4, .pointer (some ⟨w.heap.size, 0, none⟩))] a5 → Code.wp Tryd.prog c_cn_p9 (bodyPost Tryd.prog Tryd.f59 (fun e w' => e = .returned (.tuple #[]) ∧ ∃ v', LB w' bl v' (l ++ fmFrees bd (.mk ⟨kd, nm, ws⟩ ts)) ∧ LK w w' bl v v')) a5 w5 := by
    intro a5 w5 S' D m e bd' v5 ebd hs5 hsub hS5 hbd5 hme5 hD5 hn5 h5
    conv => arg 2; whnf
    refine wp_seq ?_
    refine cn_r9_wp hs5 (fun a6 h6 => ?_) a5 h5
    refine wp_block ?_
    have hold := hs5.old hS
    rw [← ebd] at hln
    refine cn_sl_wp (S := S') hs5.b hS5 hbd5 (hl.keep hold hsub) (hsub _ hSw) ((hold bw hSw).trans hf) (by rw [List.length_append]; omega) (fun t cs W v1 l1 htl hr hS9 hbd9 hf9 hb9 hln9 => ?_) (fun v7 a7 w7 h7 hb7 hk7 => ?_) a6 h6
    · have hnd : t.nodes ≤ N := by
        obtain ⟨j, hj, rfl⟩ := List.getElem_of_mem htl
        have := Tree.nodes_at ts j hj
        simp [Tree.nodes] at hN
        omega
      exact ih t cs W S' D m e bd' bl bw v1 l1 hnd hr hS9 hbd9 hme5 hD5 hn5 (hsub _ hSw) hf9 hb9 hln9
    · refine inBlock_exit ?_
      refine cn_end h7.2.1 ⟨rfl, v7, ?_, hs5.k.trans hk7⟩
      have e9 : l ++ fmFrees bd (.mk ⟨kd, nm, ws⟩ ts) = l ++ ws.filter (fun x => !hasB bd x) ++ fmFreess bd' ts := by
        simp only [fmFrees]
        rw [← ebd, List.append_assoc]
      rw [e9]
      exact hb7
  refine wp_seq ?_
  refine wp_seq ?_
  refine cn_r7_wp hs2 (fun a3 w3 h3 hs3 hb3 => ?_) a2 h2
  have hS3 : ∀ k, S k → k < w3.heap.size ∧ k ≠ bl ∧ v2.ownBlock ≠ some k := fun k hk => ⟨by have := (hS k hk).1; have := hs3.k.size; omega, (hS k hk).2.1, fun e => by
    rcases hs3.k.at_ k e with e | e
    · exact (hS k hk).2.2 e
    · have := (hS k hk).1; omega⟩
  have hbd3 := hbd.keep (hs3.old hS) (fun _ h => h)
  have hq : isQu kd = true ↔ kd = 8 ∨ kd = 9 := by unfold isQu; simp
  cases hk : isQu kd
  · rw [hk] at h3
    refine wp_cond_false ((h3.eval (k := 27) (v := .bool false) (by simp)).trans (by rw [show false = false from rfl])) ?_
    refine wp_skip ?_
    exact p9 a3 w3 S D m e bd v2 (by rw [if_neg (fun h => by rw [hq.2 h] at hk; cases hk)]) hs3 (fun _ h => h) hS3 hbd3 hme hD (by omega) ⟨h3.1, h3.2.1, h3.2.2.1, h3.2.2.2.1, h3.2.2.2.2.1, h3.2.2.2.2.2.1, trivial⟩
  · rw [hk] at h3
    refine wp_cond_true ((h3.eval (k := 27) (v := .bool true) (by simp)).trans (by rw [show true = true from rfl])) ?_
    have k89 : kd = 8 ∨ kd = 9 := hq.1 hk
    have fin : ∀ (a5 : Act) (w5 : World) (v6 : Value), Frm 50 [(1, v6), (2, .pointer (some ⟨bl, 0, none⟩)), (3, .pointer (some ⟨bw, 0, none⟩)), (4, .pointer (some ⟨w.heap.size, 0, none⟩))] a5 → w5.ownsRow (w3.heap.size + 1) 9 1 v6 (m + 1) (bd.map .string ++ [.string nm]) → Below w3.heap.size w3 w5 → Code.wp Tryd.prog c_cn_p9 (bodyPost Tryd.prog Tryd.f59 (fun e w' => e = .returned (.tuple #[]) ∧ ∃ v', LB w' bl v' (l ++ fmFrees bd (.mk ⟨kd, nm, ws⟩ ts)) ∧ LK w w' bl v v')) a5 w5 := by
      intro a5 w5 v6 h5 hrow hb5
      have hlen : (bd ++ [nm]).length = m + 1 := by simp [hbm]
      have hrow' : w5.ownsRow (w3.heap.size + 1) 9 1 v6 (bd ++ [nm]).length ((bd ++ [nm]).map .string) := by rw [hlen]; simpa using hrow
      have hbz : ∀ s ∈ bd ++ [nm], s.size ≤ maxLen := by
        intro s hs
        rcases List.mem_append.1 hs with hs | hs
        · obtain ⟨j, hj, rfl⟩ := List.getElem_of_mem hs
          obtain ⟨_, _, _, _, _, ⟨_, hz⟩, _⟩ := Rep.Sl.at_ (A := D) (n := m) (c := e) hbd (List.getElem?_eq_getElem hj)
          exact hz
        · simp at hs; subst hs; exact hnm
      have hbd6 := sl_of_row (S := fun k => S k ∨ v6.ownBlock = some k) hrow' hbz (by rw [hlen]; unfold maxLen; omega) (fun k hk => Or.inr hk)
      have hlt := hrow.lt
      obtain ⟨D6, m6, e6, rfl, h6, _⟩ := id hbd6
      have hm6 : m6 = m + 1 := by rw [← h6, hlen]
      subst hm6
      have hle : m + 1 ≤ e6 := by
        obtain ⟨_, ⟨e9, e0⟩ | ⟨g, cap, cur, e9, _, _, h1, _⟩⟩ := hrow
        · omega
        · injection e9 with _ _ e9; omega
      have hbl3 := lt_heap hs3.b.box
      refine p9 a5 w5 (fun k => S k ∨ (Value.slice D6 (m + 1) e6).ownBlock = some k) D6 (m + 1) e6 (bd ++ [nm]) v2 (by rw [if_pos k89]) (hs3.below hb5) (fun k h => Or.inl h) (fun k hk => ?_) hbd6 hle (fun h => by simp at h) (by simp; omega) h5
      rcases hk with hk | hk
      · exact ⟨Nat.lt_of_lt_of_le (hS3 k hk).1 hb5.size, (hS3 k hk).2⟩
      · have h9 := hlt k hk
        refine ⟨h9.2, by omega, fun e => ?_⟩
        have := hs3.b.lt k e
        omega
    cases bd with
    | nil =>
      obtain rfl : D = none := hD rfl
      obtain rfl : m = 0 := hbm.symm
      refine Code.wp_mono (Q := Exit.then (fun a' w' => ∃ v6 : Value, Frm 50 [(1, v6), (2, .pointer (some ⟨bl, 0, none⟩)), (3, .pointer (some ⟨bw, 0, none⟩)), (4, .pointer (some ⟨w.heap.size, 0, none⟩))] a' ∧ w'.ownsRow (w3.heap.size + 1) 9 1 v6 (0 + 1) (([] : List ByteArray).map .string ++ [.string nm]) ∧ Below w3.heap.size w3 w') (fun _ _ _ => False)) ?_ (cn_r8n_wp rfl hs3 (fun v6 a5 w5 h5 hrow hb5 => ⟨v6, h5, hrow, hb5⟩) a3 ⟨h3.1, h3.2.1, h3.2.2.1, h3.2.2.2.1, h3.2.2.2.2.1, h3.2.2.2.2.2.1, trivial⟩)
      intro ex a4 w4 hx
      cases ex with
      | normal =>
        obtain ⟨v6, h6, hr6, hb6⟩ := hx
        exact fin a4 w4 v6 h6 hr6 hb6
      | _ => exact hx.elim
    | cons y r =>
      obtain ⟨b, o, cs9, rfl, hSb, _, _⟩ := Rep.Sl.at_ hbd3 (k := 0) rfl
      have hcell : ∀ j u, ((y :: r).map Value.string)[j]? = some u → w3.cell? ⟨b, o + j, none⟩ = some u := by
        intro j u hu
        have hj : j < (y :: r).length := by
          have := (List.getElem?_eq_some_iff.1 hu).1
          simpa using this
        obtain ⟨b', o', cs', e', _, ⟨rfl, _⟩, hc'⟩ := Rep.Sl.at_ hbd3 (List.getElem?_eq_getElem hj)
        injection e' with e'
        injection e' with e1 e2
        subst e1 e2
        have h9 := hc' 0 _ rfl
        rw [List.getElem?_map, List.getElem?_eq_getElem hj] at hu
        injection hu with hu
        rw [← hu]
        simpa [strRep] using h9
      refine Code.wp_mono (Q := Exit.then (fun a' w' => ∃ v6 : Value, Frm 50 [(1, v6), (2, .pointer (some ⟨bl, 0, none⟩)), (3, .pointer (some ⟨bw, 0, none⟩)), (4, .pointer (some ⟨w.heap.size, 0, none⟩))] a' ∧ w'.ownsRow (w3.heap.size + 1) 9 1 v6 (m + 1) ((y :: r).map .string ++ [.string nm]) ∧ Below w3.heap.size w3 w') (fun _ _ _ => False)) ?_ (cn_r8_wp hbm (by omega) hme (hS3 b hSb).1 hcell hs3 (fun v6 a5 w5 h5 hrow hb5 => ⟨v6, h5, hrow, hb5⟩) a3 ⟨h3.1, h3.2.1, h3.2.2.1, h3.2.2.2.1, h3.2.2.2.2.1, h3.2.2.2.2.2.1, trivial⟩)
      intro ex a4 w4 hx
      cases ex with
      | normal =>
        obtain ⟨v6, h6, hr6, hb6⟩ := hx
        exact fin a4 w4 v6 h6 hr6 hb6
      | _ => exact hx.elim

end Go.Proofs.YtdofemkfmkopcaaDoor
