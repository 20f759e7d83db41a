/-
  The reference's consts: joined; ConstsOf.
-/
import Derived.Test.YtdofemkfmkopcaaDoorCsA
namespace Go.Proofs.YtdofemkfmkopcaaDoor
open Go Go.RowKit
set_option linter.unusedSimpArgs false
set_option linter.unusedVariables false

theorem puts_size {l xs : List ByteArray} (h : ∀ s ∈ l, s.size ≤ maxLen) (hx : ∀ s ∈ xs, s.size ≤ maxLen) : ∀ s ∈ xs.foldl putB l, s.size ≤ maxLen := fun s hs => by
  rcases (puts_mem xs l s).1 hs with h1 | h1
  · exact h s h1
  · exact hx s h1
noncomputable def c_cs_wl : Code := sub [1, 0, 1, 0] (Tryd.f41.body.getD .skip)
set_option maxRecDepth 100000 in
set_option maxHeartbeats 4000000 in
theorem cs_wl_wp {Q : Exit → Act → World → Prop} {S : Nat → Prop} {bd ws : List ByteArray} {B0 : Nat} {l : List ByteArray} {D : Option Addr} {m e : Nat} {v : Value} {wo w : World} {kd : Int} {nm : ByteArray} {A B : Option Addr} {n1 c1 n2 c2 : Nat} (hS : ∀ k, S k → k < wo.heap.size) (hbd : strRep.Sl wo S (.slice D m e) bd) (hw : strRep.Sl wo S (.slice A n1 c1) ws) (hB0 : B0 ≤ wo.heap.size) (hln : l.length + (ws.filter (fun x => !hasB bd x)).length ≤ 1000000) (hs : CT B0 wo w v l kd nm A n1 c1 B n2 c2) 
    (hX : ∀ v' a' w', Frm 56 [(1, .slice D m e), (2, v'), (3, .pointer (some ⟨wo.heap.size, 0, none⟩))] a' → CT B0 wo w' v' ((ws.filter (fun x => !hasB bd x)).foldl putB l) kd nm A n1 c1 B n2 c2 → Q (.exit 0) a' w') : ∀ ac, Frm 56 [(1, .slice D m e), (2, v), (3, .pointer (some ⟨wo.heap.size, 0, none⟩)), (11, .slice A n1 c1), (12, .int .i64 (n1 : Nat)), (13, .int .i64 (0 : Nat))] ac → Code.wp Tryd.prog c_cs_wl Q ac w := by
  intro a0 hf0
  conv => arg 2; whnf
  obtain ⟨A', n', c', e9, hlen, hmax, _⟩ := id hw
  injection e9 with e1 e2 e3
  subst e1 e2 e3
  refine wp_loopR (fun g a' w' => ∃ (j : Nat) (v' : Value), j + g = ws.length ∧ CT B0 wo w' v' (((ws.take j).filter (fun x => !hasB bd x)).foldl putB l) kd nm A n1 c1 B n2 c2 ∧ Frm 56 [(1, .slice D m e), (2, v'), (3, .pointer (some ⟨wo.heap.size, 0, none⟩)), (11, .slice A n1 c1), (12, .int .i64 (n1 : Nat)), (13, .int .i64 (j : Nat))] a') ws.length ⟨0, v, by omega, by simpa using hs, hf0⟩ ?_
  rintro g a1 w1 ⟨j, v1, hjg, hs1, h1⟩
  refine wp_seq ?_
  refine cs_r2_wp (fun a2 h2 => ?_) a1 h1
  refine wp_seq ?_
  by_cases hj : j < n1
  case neg =>
    refine wp_cond_false ((h2.eval (k := 14) (v := .bool (decide (j < n1))) (by simp)).trans (by rw [decide_eq_false hj])) ?_
    refine wp_exit (hX v1 a2 w1 ⟨h2.1, h2.2.1, h2.2.2.1, h2.2.2.2.1, h2.2.2.2.2.1, trivial⟩ ?_)
    rwa [List.take_of_length_le (by omega)] at hs1
  refine wp_cond_true ((h2.eval (k := 14) (v := .bool (decide (j < n1))) (by simp)).trans (by rw [decide_eq_true hj])) ?_
  refine wp_skip ?_
  show Code.wp _ _ _ a2 w1
  have hold := fun k hk => hs1.b.block k (hS k hk)
  have hbs := hs1.b.size
  have hjl : j < ws.length := by omega
  obtain ⟨b, o, cs, rfl, hSb, ⟨rfl, hsz⟩, hc⟩ := Rep.Sl.at_ hw (List.getElem?_eq_getElem hjl)
  have hc0 : w1.cell? ⟨b, o + j, none⟩ = some (.string ws[j]) := (cell_keep (hold b hSb) _).trans (by simpa [strRep] using hc 0 _ rfl)
  have hlb : b < w1.heap.size := by have := hS b hSb; omega
  have hcont := refHas_any (hbd.keep hold (fun _ h => h)) (fun k hk => by have := hS k hk; omega) ws[j]
  have htk : ws.take (j + 1) = ws.take j ++ [ws[j]] := List.take_succ_eq_append_getElem hjl
  have hll : (((ws.take j).filter (fun x => !hasB bd x)).foldl putB l).length ≤ 1000000 := by
    have h9 : ((ws.take j).filter (fun x => !hasB bd x)).length ≤ (ws.filter (fun x => !hasB bd x)).length := by
      conv => rhs; rw [← List.take_append_drop j ws, List.filter_append]
      rw [List.length_append]; omega
    have := puts_len ((ws.take j).filter (fun x => !hasB bd x)) l
    omega
  refine wp_seq ?_
  refine wp_block ?_
  refine wp_seq ?_
  refine cs_r3_wp hj hc0 hlb (fun a3 h3 => ?_) a2 ⟨h2.1, h2.2.1, h2.2.2.1, h2.2.2.2.1, h2.2.2.2.2.1, h2.2.2.2.2.2.1, h2.2.2.2.2.2.2.1, h2.2.2.2.2.2.2.2.1, trivial⟩
  refine wp_seq ?_
  refine cs_r4_wp hcont (fun a4 h4 => ?_) a3 h3
  cases hok : hasB bd ws[j]
  · rw [hok] at h4
    refine wp_cond_true ((h4.eval (k := 20) (v := .bool (!false)) (by simp)).trans (by rw [show (!false) = true from rfl])) ?_
    have hput := refPut_any ws[j] (by omega) hs1.r hs1.z hll
    refine cs_r5_wp hput (fun v5 a5 w5 h5 hp => ?_) a4 ⟨h4.1, h4.2.1, h4.2.2.1, h4.2.2.2.1, h4.2.2.2.2.1, h4.2.2.2.2.2.1, h4.2.2.2.2.2.2.1, h4.2.2.2.2.2.2.2.1, h4.2.2.2.2.2.2.2.2.1, trivial⟩
    show Code.wp _ _ _ a5 w5
    refine cs_r6_wp hj (by omega) (fun a6 h6 => ?_) a5 h5
    have hz5 : ∀ s ∈ putB (((ws.take j).filter (fun x => !hasB bd x)).foldl putB l) ws[j], s.size ≤ maxLen := fun s hs => by
      rcases putB_mem.1 hs with rfl | h9
      · exact hsz
      · exact hs1.z s h9
    refine ⟨g - 1, by omega, j + 1, v5, by omega, ?_, h6⟩
    rw [htk, List.filter_append, List.filter_cons_of_pos (by simp [hok]), List.filter_nil, List.foldl_append]
    exact hs1.step hp.2 hp.1 hz5
  · rw [hok] at h4
    refine wp_cond_false ((h4.eval (k := 20) (v := .bool (!true)) (by simp)).trans (by rw [show (!true) = false from rfl])) ?_
    refine wp_skip ?_
    show Code.wp _ _ _ a4 w1
    refine cs_r6_wp hj (by omega) (fun a6 h6 => ?_) a4 ⟨h4.1, h4.2.1, h4.2.2.1, h4.2.2.2.1, h4.2.2.2.2.1, h4.2.2.2.2.2.1, h4.2.2.2.2.2.2.1, h4.2.2.2.2.2.2.2.1, trivial⟩
    refine ⟨g - 1, by omega, j + 1, v1, by omega, ?_, h6⟩
    rw [htk, List.filter_append, List.filter_cons_of_neg (by simp [hok]), List.filter_nil, List.append_nil]
    exact hs1
noncomputable def c_cs_sl : Code := sub [1, 1, 1, 0, 1, 0] (Tryd.f41.body.getD .skip)
set_option maxRecDepth 100000 in
set_option maxHeartbeats 4000000 in
theorem cs_sl_wp {Q : Exit → Act → World → Prop} {S : Nat → Prop} {bd : List ByteArray} {ts : List Fm} {B0 : Nat} {l : List ByteArray} {D : Option Addr} {m e : Nat} {v : Value} {wo w : World} {kd : Int} {nm : ByteArray} {A B : Option Addr} {n1 c1 n2 c2 : Nat} (hS : ∀ k, S k → k < w.heap.size) (hbd : strRep.Sl w S (.slice D m e) bd) (hl : fmRep.Sl w S (.slice B n2 c2) ts) (hB0 : B0 ≤ wo.heap.size) (hln : l.length + (fmFreess bd ts).length ≤ 1000000) (hs : CT B0 wo w v l kd nm A n1 c1 B n2 c2) (ih : ∀ (t : Fm) (cs : List Value) (W : World) (v1 : Value) (l1 : List ByteArray), t ∈ ts → fmRep.R W S t cs → (∀ k, S k → k < W.heap.size) → strRep.Sl W S (.slice D m e) bd → B0 ≤ W.heap.size → W.ownsRow B0 9 1 v1 l1.length (l1.map .string) → (∀ s ∈ l1, s.size ≤ maxLen) → l1.length + (fmFrees bd t).length ≤ 1000000 → Calls Tryd.prog 41 #[.agg cs.toArray, .slice D m e, v1] W fun e w' => ∃ v', e = .returned v' ∧ (w'.ownsRow B0 9 1 v' ((fmFrees bd t).foldl putB l1).length (((fmFrees bd t).foldl putB l1).map .string) ∧ (∀ s ∈ (fmFrees bd t).foldl putB l1, s.size ≤ maxLen) ∧ Below W.heap.size W w')) 
    (hX : ∀ v' a' w', Frm 56 [(1, .slice D m e), (2, v'), (3, .pointer (some ⟨wo.heap.size, 0, none⟩))] a' → CT B0 wo w' v' ((fmFreess bd ts).foldl putB l) kd nm A n1 c1 B n2 c2 → Q (.exit 2) a' w') : ∀ ac, Frm 56 [(1, .slice D m e), (2, v), (3, .pointer (some ⟨wo.heap.size, 0, none⟩)), (41, .slice B n2 c2), (42, .int .i64 (n2 : Nat)), (43, .int .i64 (0 : Nat))] ac → Code.wp Tryd.prog c_cs_sl Q ac w := by
  intro a0 hf0
  conv => arg 2; whnf
  obtain ⟨B', n', c', e9, hlen, hmax, _⟩ := id hl
  injection e9 with e1 e2 e3
  subst e1 e2 e3
  refine wp_loopR (fun g a' w' => ∃ (j : Nat) (v' : Value), j + g = ts.length ∧ CT B0 wo w' v' ((fmFreess bd (ts.take j)).foldl putB l) kd nm A n1 c1 B n2 c2 ∧ Below w.heap.size w w' ∧ Frm 56 [(1, .slice D m e), (2, v'), (3, .pointer (some ⟨wo.heap.size, 0, none⟩)), (41, .slice B n2 c2), (42, .int .i64 (n2 : Nat)), (43, .int .i64 (j : Nat))] a') ts.length ⟨0, v, by omega, by simpa [fmFreess] using hs, Below.refl _ _, hf0⟩ ?_
  rintro g a1 w1 ⟨j, v1, hjg, hs1, hb1, h1⟩
  refine wp_seq ?_
  refine cs_r10_wp (fun a2 h2 => ?_) a1 h1
  refine wp_seq ?_
  by_cases hj : j < n2
  case neg =>
    refine wp_cond_false ((h2.eval (k := 44) (v := .bool (decide (j < n2))) (by simp)).trans (by rw [decide_eq_false hj])) ?_
    refine wp_exit (hX v1 a2 w1 ⟨h2.1, h2.2.1, h2.2.2.1, h2.2.2.2.1, h2.2.2.2.2.1, trivial⟩ ?_)
    rwa [List.take_of_length_le (by omega)] at hs1
  refine wp_cond_true ((h2.eval (k := 44) (v := .bool (decide (j < n2))) (by simp)).trans (by rw [decide_eq_true hj])) ?_
  refine wp_skip ?_
  show Code.wp _ _ _ a2 w1
  have hjl : j < ts.length := by omega
  obtain ⟨b, o, cs, rfl, hSb, hr, hc⟩ := Rep.Sl.at_ hl (List.getElem?_eq_getElem hjl)
  obtain ⟨Ae, n3, c3, Be, n4, c4, rfl, _, _, _, _⟩ := Fm.shape hr
  have hold : ∀ k, S k → w1.heap[k]? = w.heap[k]? := fun k hk => hb1.block k (hS k hk)
  have hbs := hb1.size
  have hbo := hs1.b.size
  have hkb := hold b hSb
  have e0 : w1.cell? ⟨b, o + j * 4, none⟩ = _ := (cell_keep hkb _).trans (hc 0 _ rfl)
  have e1 : w1.cell? ⟨b, o + j * 4 + 1, none⟩ = _ := (cell_keep hkb _).trans (hc 1 _ rfl)
  have e2 : w1.cell? ⟨b, o + j * 4 + 2, none⟩ = _ := (cell_keep hkb _).trans (hc 2 _ rfl)
  have e3 : w1.cell? ⟨b, o + j * 4 + 3, none⟩ = _ := (cell_keep hkb _).trans (hc 3 _ rfl)
  have hln1 : ((fmFreess bd (ts.take j)).foldl putB l).length + (fmFrees bd ts[j]).length ≤ 1000000 := by
    have := fmFreess_at_le bd ts j hjl
    have := puts_len (fmFreess bd (ts.take j)) l
    omega
  refine wp_seq ?_
  refine wp_block ?_
  refine wp_seq ?_
  refine cs_r11_wp (fun a3 h3 => ?_) a2 ⟨h2.1, h2.2.1, h2.2.2.1, h2.2.2.2.1, h2.2.2.2.2.1, h2.2.2.2.2.2.1, h2.2.2.2.2.2.2.1, h2.2.2.2.2.2.2.2.1, trivial⟩
  have hcall := ih ts[j] _ w1 v1 _ (List.getElem_mem hjl) (fmRep.keep hr hold (fun _ h => h)) (fun k hk => by have := hS k hk; omega) (hbd.keep hold (fun _ h => h)) (by omega) hs1.r hs1.z hln1
  refine cs_r12_wp hj hs1.a e0 e1 e2 e3 (by have := hS b hSb; omega) hcall (fun v4 a4 w4 h4 hp => ?_) a3 h3
  show Code.wp _ _ _ a4 w4
  refine cs_r13_wp hj (by omega) (fun a5 h5 => ?_) a4 h4
  refine ⟨g - 1, by omega, j + 1, v4, by omega, ?_, hb1.trans (hp.2.2.mono hbs), h5⟩
  rw [fmFreess_take bd ts j hjl, List.foldl_append]
  exact hs1.step hp.2.2 hp.1 hp.2.1
noncomputable def c_cs_p9 : Code := sub [1, 1, 1] (Tryd.f41.body.getD .skip)
set_option maxRecDepth 100000 in
set_option maxHeartbeats 4000000 in
theorem refConsts_any : ∀ (N : Nat) (t : Fm) (cs : List Value) (w : World) (S : Nat → Prop) (D : Option Addr) (m e : Nat) (bd : List ByteArray) (B0 : Nat) (v : Value) (l : List ByteArray), t.nodes ≤ N → fmRep.R w S t cs → (∀ k, S k → k < w.heap.size) → strRep.Sl w S (.slice D m e) bd → bd.length + N ≤ 1000000 → B0 ≤ w.heap.size → w.ownsRow B0 9 1 v l.length (l.map .string) → (∀ s ∈ l, s.size ≤ maxLen) → l.length + (fmFrees bd t).length ≤ 1000000 →
    Calls Tryd.prog 41 #[.agg cs.toArray, .slice D m e, v] w (fun e w' => ∃ v', e = .returned v' ∧ (w'.ownsRow B0 9 1 v' ((fmFrees bd t).foldl putB l).length (((fmFrees bd t).foldl putB l).map .string) ∧ (∀ s ∈ (fmFrees bd t).foldl putB l, s.size ≤ maxLen) ∧ Below w.heap.size w w')) := by
  intro N
  induction N with
  | zero => intro t; have := t.nodes_pos; intros; omega
  | succ N ih =>
  intro t cs w S D m e bd B0 v l hN ht hS hbd hdn hB0 hrow hz hln
  obtain ⟨⟨kd, nm, ws⟩, ts⟩ := t
  obtain ⟨u, v9, rfl, hnm, hw, hl⟩ := Fm.open_ ht
  simp only at hw hnm
  obtain ⟨A, n1, c1, rfl, e1, hm1, _⟩ := id hw
  obtain ⟨B, n2, c2, rfl, e2, hm2, _⟩ := id hl
  have hbm : bd.length = m := by
    obtain ⟨_, _, _, e9, h9, _⟩ := id hbd
    injection e9 with _ e9 _
    rw [e9, h9]
  clear ht
  simp only [fmFrees] at hln
  rw [List.length_append] at hln
  go_enter Tryd.func41, Tryd.ntmps41
  refine wp_seq ?_
  refine cs_r0_wp (fun a0 h0 => ?_) _ (id ⟨rfl, rfl, rfl, rfl, rfl, trivial⟩)
  refine gen_last (fun wx => CT B0 w wx v l kd nm A n1 c1 B n2 c2) (⟨heap_at (by simp), hrow.alloc _, hz, (Below.refl _ _).alloc (Nat.le_refl _) _⟩) ?_
  intro w0 hs
  refine wp_seq ?_
  refine wp_seq ?_
  refine cs_r1_wp hs (fun a1 h1 => ?_) a0 h0
  refine wp_block ?_
  refine cs_wl_wp hS hbd hw hB0 (by omega) hs (fun v2 a2 w2 h2 hs2 => ?_) a1 h1
  refine inBlock_exit ?_
  show Code.wp _ _ _ a2 w2
  have hl2 : (((ws.filter (fun x => !hasB bd x)).foldl putB l)).length ≤ l.length + (ws.filter (fun x => !hasB bd x)).length := puts_len _ _
  have p9 : ∀ (a5 : Act) (w5 : World) (S' : Nat → Prop) (D : Option Addr) (m e : Nat) (bd' : List ByteArray), bd' = (if kd = 8 ∨ kd = 9 then bd ++ [nm] else bd) → CT B0 w w5 v2 ((ws.filter (fun x => !hasB bd x)).foldl putB l) kd nm A n1 c1 B n2 c2 → (∀ k, S k → S' k) → (∀ k, S' k → k < w5.heap.size) → strRep.Sl w5 S' (.slice D m e) bd' → bd'.length + N ≤ 1000000 → Frm 56 [(1, .slice D m e), (2, v2), (3, .pointer (some ⟨w.heap.size, 0, none⟩))] a5 → Code.wp Tryd.prog c_cs_p9 (bodyPost Tryd.prog Tryd.f41 (fun e w' => ∃ v', e = .returned v' ∧ (w'.ownsRow B0 9 1 v' ((fmFrees bd (.mk ⟨kd, nm, ws⟩ ts)).foldl putB l).length (((fmFrees bd (.mk ⟨kd, nm, ws⟩ ts)).foldl putB l).map .string) ∧ (∀ s ∈ (fmFrees bd (.mk ⟨kd, nm, ws⟩ ts)).foldl putB l, s.size ≤ maxLen) ∧ Below w.heap.size w w'))) a5 w5 := by
    intro a5 w5 S' D m e bd' ebd hs5 hsub hS5 hbd5 hn5 h5
    conv => arg 2; whnf
    refine wp_seq ?_
    refine wp_seq ?_
    refine cs_r9_wp hs5 (fun a6 h6 => ?_) a5 h5
    refine wp_block ?_
    have hold := fun k hk => hs5.b.block k (hS k hk)
    have hbs := hs5.b.size
    rw [← ebd] at hln
    refine cs_sl_wp (S := S') hS5 hbd5 (hl.keep hold hsub) hB0 (by omega) hs5 (fun t cs W v1 l1 htl hr hS9 hbd9 hB9 hr9 hz9 hln9 => ?_) (fun v7 a7 w7 h7 hs7 => ?_) a6 h6
    · have hnd : t.nodes ≤ N := by
        obtain ⟨j, hj, rfl⟩ := List.getElem_of_mem htl
        have := Tree.nodes_at ts j hj
        simp [Tree.nodes] at hN
        omega
      exact ih t cs W S' D m e bd' B0 v1 l1 hnd hr hS9 hbd9 hn5 hB9 hr9 hz9 hln9
    · refine inBlock_exit ?_
      show Code.wp _ _ _ a7 w7
      refine wp_seq ?_
      refine cs_r14_wp (fun a8 h8 => ?_) a7 h7
      refine wp_ret ?_
      refine cs_ret_wp ⟨v7, rfl, ?_⟩ a8 h8
      have e9 : (fmFrees bd (.mk ⟨kd, nm, ws⟩ ts)).foldl putB l = (fmFreess bd' ts).foldl putB ((ws.filter (fun x => !hasB bd x)).foldl putB l) := by
        simp only [fmFrees]
        rw [← ebd, List.foldl_append]
      rw [e9]
      exact ⟨hs7.r, hs7.z, hs7.b⟩
  refine wp_seq ?_
  refine wp_seq ?_
  refine cs_r7_wp hs2 (fun a3 h3 => ?_) a2 h2
  have hbs2 := hs2.b.size
  have hold2 := fun k hk => hs2.b.block k (hS k hk)
  have hS3 : ∀ k, S k → k < w2.heap.size := fun k hk => by have := hS k hk; omega
  have hbd3 := hbd.keep hold2 (fun _ h => h)
  have hq : isQu kd = true ↔ kd = 8 ∨ kd = 9 := by unfold isQu; simp
  cases hk : isQu kd
  · rw [hk] at h3
    refine wp_cond_false ((h3.eval (k := 32) (v := .bool false) (by simp)).trans (by rw [show false = false from rfl])) ?_
    refine wp_skip ?_
    exact p9 a3 w2 S D m e bd (by rw [if_neg (fun h => by rw [hq.2 h] at hk; cases hk)]) hs2 (fun _ h => h) hS3 hbd3 (by omega) ⟨h3.1, h3.2.1, h3.2.2.1, h3.2.2.2.1, h3.2.2.2.2.1, trivial⟩
  · rw [hk] at h3
    refine wp_cond_true ((h3.eval (k := 32) (v := .bool true) (by simp)).trans (by rw [show true = true from rfl])) ?_
    have k89 : kd = 8 ∨ kd = 9 := hq.1 hk
    refine Code.wp_mono (Q := Exit.then (fun a' w' => ∃ u6 : Value, Frm 56 [(1, u6), (2, v2), (3, .pointer (some ⟨w.heap.size, 0, none⟩))] a' ∧ w'.ownsRow w2.heap.size 9 1 u6 (m + 1) (bd.map .string ++ [.string nm]) ∧ Below w2.heap.size w2 w') (fun _ _ _ => False)) ?_ (cs_r8_wp (by omega) hbd3 hS3 hs2 (fun u6 a5 w5 h5 hrow hb5 => ⟨u6, h5, hrow, hb5⟩) a3 ⟨h3.1, h3.2.1, h3.2.2.1, h3.2.2.2.1, h3.2.2.2.2.1, trivial⟩)
    intro ex a4 w4 hx
    cases ex with
    | normal =>
      obtain ⟨u6, h6, hr6, hb6⟩ := hx
      have hlen : (bd ++ [nm]).length = m + 1 := by simp [hbm]
      have hrow' : w4.ownsRow w2.heap.size 9 1 u6 (bd ++ [nm]).length ((bd ++ [nm]).map .string) := by rw [hlen]; simpa using hr6
      have hbz : ∀ s ∈ bd ++ [nm], s.size ≤ maxLen := by
        intro s hs
        rcases List.mem_append.1 hs with hs | hs
        · obtain ⟨j, hj, rfl⟩ := List.getElem_of_mem hs
          obtain ⟨_, _, _, _, _, ⟨_, hz⟩, _⟩ := Rep.Sl.at_ (A := D) (n := m) (c := e) hbd (List.getElem?_eq_getElem hj)
          exact hz
        · simp at hs; subst hs; exact hnm
      have hbd6 := sl_of_row (S := fun k => S k ∨ u6.ownBlock = some k) hrow' hbz (by rw [hlen]; unfold maxLen; omega) (fun k hk => Or.inr hk)
      have hlt := hr6.lt
      obtain ⟨D6, m6, e6, rfl, h66, _⟩ := id hbd6
      have hm6 : m6 = m + 1 := by rw [← h66, hlen]
      subst hm6
      have hbs6 := hb6.size
      refine p9 a4 w4 (fun k => S k ∨ (Value.slice D6 (m + 1) e6).ownBlock = some k) D6 (m + 1) e6 (bd ++ [nm]) (by rw [if_pos k89]) (hs2.below hb6) (fun k h => Or.inl h) (fun k hk => ?_) hbd6 (by simp; omega) h6
      rcases hk with hk | hk
      · have := hS3 k hk; omega
      · exact (hlt k hk).2
    | _ => exact hx.elim
set_option maxRecDepth 100000 in
set_option maxHeartbeats 4000000 in
/-- The reference's ConstsOf. -/
theorem refConstsOf_any (t : Fm) (cs : List Value) (w : World) (S : Nat → Prop) (ht : fmRep.R w S t cs) (hS : ∀ b, S b → b < w.heap.size) (hn : t.nodes ≤ 1000000) (hln : (fmFrees [] t).length ≤ 1000000) :
    Calls Tryd.prog 18 #[.agg cs.toArray] w fun e w' => ∃ v, e = .returned v ∧ w'.ownsRow w.heap.size 9 1 v (fmConsts t).length ((fmConsts t).map .string) ∧ (∀ s ∈ fmConsts t, s.size ≤ maxLen) ∧ Below w.heap.size w w' := by
  obtain ⟨A, n1, c1, B, n2, c2, rfl, _, _, _, _⟩ := Fm.shape ht
  obtain ⟨kd, hkd⟩ : ∃ k, t.lab.kind = k := ⟨_, rfl⟩
  obtain ⟨nm, hnm⟩ : ∃ k, t.lab.nm = k := ⟨_, rfl⟩
  rw [hkd, hnm] at ht ⊢
  have hv := fun (o : Obj) => Lib.hid (refConsts_any t.nodes t [.int .i64 kd, .string nm, .slice A n1 c1, .slice B n2 c2] (w.alloc o) S none 0 0 [] w.heap.size (.slice none 0 0) [] (Nat.le_refl _) (fmRep.keep ht (fun b hb => heap_old (hS b hb) rfl) (fun _ h => h)) (fun b hb => by have := hS b hb; simp; omega) Rep.Sl.nil (by simpa using hn) (by simp) (World.ownsRow_nil _ _ _ _) (by simp) (by simpa using hln))
  have he : (fmFrees [] t).foldl putB [] = fmConsts t := puts_consts _
  rw [he] at hv
  clear ht hkd hnm
  have HV := Lib.hid hv
  clear hv
  go_enter Tryd.func18, Tryd.ntmps18
  go_wp2_with fail
  (with_reducible refine (HV.out _).out.mono ?_)
  rintro e w1 ⟨v1, rfl, hr, hz, hb1⟩
  have hb : Below w.heap.size w w1 := (show Below w.heap.size w _ by go_grown).trans (hb1.mono (by simp))
  clear hb1
  have HB := Lib.hid hb
  have HR := Lib.hid hr
  have HZ := Lib.hid hz
  clear hb hr hz
  go_wp2_with fail
  refine bodyPost_ret (v := v1) (by simp [results, Tryd.results18, go_sem]) rfl ?_
  exact ⟨v1, rfl, HR.out, HZ.out, HB.out⟩

end Go.Proofs.YtdofemkfmkopcaaDoor
