/-
  The reference's Swapped: joined.
-/
import Derived.Test.YtdofemkfmkopcaaDoorSwD
namespace Go.Proofs.YtdofemkfmkopcaaDoor
open Go Go.RowKit
set_option linter.unusedSimpArgs false
set_option linter.unusedVariables false

theorem swFs_append (f : ByteArray → ByteArray) : ∀ l m : List (Tree FmL), swFs f (l ++ m) = swFs f l ++ swFs f m
  | [], m => by simp [swFs]
  | t :: l, m => by simp [swFs, swFs_append f l m]
theorem swFs_take (f : ByteArray → ByteArray) (l : List (Tree FmL)) (j : Nat) (h : j < l.length) : swFs f (l.take (j + 1)) = swFs f (l.take j) ++ [swF f l[j]] := by
  rw [List.take_succ_eq_append_getElem h, swFs_append]; simp [swFs]
theorem swFs_len (f : ByteArray → ByteArray) : ∀ l : List (Tree FmL), (swFs f l).length = l.length
  | [] => rfl
  | t :: l => by simp [swFs, swFs_len f l]
noncomputable def c_sw_sl : Code := sub [1, 1, 1, 1, 0, 1, 0] (Tryd.f31.body.getD .skip)
set_option maxRecDepth 100000 in
set_option maxHeartbeats 4000000 in
theorem sw_sl_wp {Q : Exit → Act → World → Prop} {SS : Nat → Prop} {fs ts : List ByteArray} {ks : List Fm} {Df Dt : Option Addr} {mf ef mt et : Nat} {PP : Nat → Prop} {vw vs : Value} {ws : List ByteArray} {x : ByteArray} {wo w : World} {kd : Int} {nm : ByteArray} {A B : Option Addr} {n1 c1 n2 c2 : Nat} (hS : ∀ k, SS k → k < wo.heap.size ∧ ¬ PP k) (hf : strRep.Sl wo SS (.slice Df mf ef) fs) (ht : strRep.Sl wo SS (.slice Dt mt et) ts) (hk : fmRep.Sl wo SS (.slice B n2 c2) ks) (hkl : ks.length ≤ 1000) (hs : CY PP wo w vw ws x vs kd nm A n1 c1 B n2 c2) (ho : fmRep.Own 25 (wo.heap.size + 3) w (fun b => wo.heap.size + 3 ≤ b ∧ b < w.heap.size) vs []) (ih : ∀ (t : Fm) (cs : List Value) (W : World), t ∈ ks → fmRep.R W SS t cs → (∀ k, SS k → k < W.heap.size) → strRep.Sl W SS (.slice Df mf ef) fs → strRep.Sl W SS (.slice Dt mt et) ts → Calls Tryd.prog 31 #[.agg cs.toArray, .slice Df mf ef, .slice Dt mt et] W fun e w' => ∃ es : List Value, e = .returned (.agg es.toArray) ∧ fmRep.R w' (fun b => W.heap.size ≤ b ∧ b < w'.heap.size) (swF (subP fs ts) t) es ∧ Below W.heap.size W w') 
    (hX : ∀ v' a' w', Frm 95 [(1, .slice Df mf ef), (2, .slice Dt mt et), (3, .pointer (some ⟨wo.heap.size, 0, none⟩)), (6, .pointer (some ⟨wo.heap.size + 1, 0, none⟩)), (7, .pointer (some ⟨wo.heap.size + 2, 0, none⟩))] a' → CY PP wo w' vw ws x v' kd nm A n1 c1 B n2 c2 → fmRep.Own 25 (wo.heap.size + 3) w' (fun b => wo.heap.size + 3 ≤ b ∧ b < w'.heap.size) v' (swFs (subP fs ts) ks) → Q (.exit 6) a' w') : ∀ ac, Frm 95 [(1, .slice Df mf ef), (2, .slice Dt mt et), (3, .pointer (some ⟨wo.heap.size, 0, none⟩)), (6, .pointer (some ⟨wo.heap.size + 1, 0, none⟩)), (7, .pointer (some ⟨wo.heap.size + 2, 0, none⟩)), (75, .slice B n2 c2), (76, .int .i64 (n2 : Nat)), (77, .int .i64 (0 : Nat))] ac → Code.wp Tryd.prog c_sw_sl Q ac w := by
  intro a0 hf0
  conv => arg 2; whnf
  obtain ⟨B', n', c', e9, hlen, hmax, _⟩ := id hk
  injection e9 with e1 e2 e3
  subst e1 e2 e3
  refine wp_loopR (fun g a' w' => ∃ (j : Nat) (v' : Value), j + g = ks.length ∧ CY PP wo w' vw ws x v' kd nm A n1 c1 B n2 c2 ∧ fmRep.Own 25 (wo.heap.size + 3) w' (fun b => wo.heap.size + 3 ≤ b ∧ b < w'.heap.size) v' (swFs (subP fs ts) (ks.take j)) ∧ Frm 95 [(1, .slice Df mf ef), (2, .slice Dt mt et), (3, .pointer (some ⟨wo.heap.size, 0, none⟩)), (6, .pointer (some ⟨wo.heap.size + 1, 0, none⟩)), (7, .pointer (some ⟨wo.heap.size + 2, 0, none⟩)), (75, .slice B n2 c2), (76, .int .i64 (n2 : Nat)), (77, .int .i64 (j : Nat))] a') ks.length ⟨0, vs, by omega, hs, by simpa [swFs] using ho, hf0⟩ ?_
  rintro g a1 w1 ⟨j, v1, hjg, hs1, ho1, h1⟩
  refine wp_seq ?_
  refine sw_r21_wp (fun a2 h2 => ?_) a1 h1
  refine wp_seq ?_
  by_cases hj : j < n2
  case neg =>
    refine wp_cond_false ((h2.eval (k := 78) (v := .bool (decide (j < n2))) (by simp)).trans (by rw [decide_eq_false hj])) ?_
    refine wp_exit (hX v1 a2 w1 ⟨h2.1, h2.2.1, h2.2.2.1, h2.2.2.2.1, h2.2.2.2.2.1, h2.2.2.2.2.2.1, h2.2.2.2.2.2.2.1, trivial⟩ hs1 ?_)
    rwa [List.take_of_length_le (by omega)] at ho1
  refine wp_cond_true ((h2.eval (k := 78) (v := .bool (decide (j < n2))) (by simp)).trans (by rw [decide_eq_true hj])) ?_
  refine wp_skip ?_
  show Code.wp _ _ _ a2 w1
  have hjl : j < ks.length := by omega
  obtain ⟨b, o, cs, rfl, hSb, hr, hc⟩ := Rep.Sl.at_ hk (List.getElem?_eq_getElem hjl)
  obtain ⟨Ae, n3, c3, Be, n4, c4, rfl, _, _, _, _⟩ := Fm.shape hr
  have hold : ∀ k, SS k → w1.heap[k]? = wo.heap[k]? := fun k hk => hs1.b.block k (hS k hk).1 (hS k hk).2
  have hbs := hs1.b.size
  have hkb := hold b hSb
  have e0 : w1.cell? ⟨b, o + j * 4, none⟩ = _ := (cell_keep hkb _).trans (hc 0 _ rfl)
  have e1 : w1.cell? ⟨b, o + j * 4 + 1, none⟩ = _ := (cell_keep hkb _).trans (hc 1 _ rfl)
  have e2 : w1.cell? ⟨b, o + j * 4 + 2, none⟩ = _ := (cell_keep hkb _).trans (hc 2 _ rfl)
  have e3 : w1.cell? ⟨b, o + j * 4 + 3, none⟩ = _ := (cell_keep hkb _).trans (hc 3 _ rfl)
  have hSw : ∀ k, SS k → k < w1.heap.size := fun k hk => by have := (hS k hk).1; omega
  refine wp_seq ?_
  refine wp_block ?_
  refine wp_seq ?_
  refine sw_r22_wp (fun a3 h3 => ?_) a2 ⟨h2.1, h2.2.1, h2.2.2.1, h2.2.2.2.1, h2.2.2.2.2.1, h2.2.2.2.2.2.1, h2.2.2.2.2.2.2.1, h2.2.2.2.2.2.2.2.1, h2.2.2.2.2.2.2.2.2.1, h2.2.2.2.2.2.2.2.2.2.1, trivial⟩
  have hcall : ∀ W : World, Below w1.heap.size w1 W → Calls Tryd.prog 31 #[.agg #[.int .i64 ks[j].lab.kind, .string ks[j].lab.nm, .slice Ae n3 c3, .slice Be n4 c4], .slice Df mf ef, .slice Dt mt et] W fun e w' => ∃ es : List Value, e = .returned (.agg es.toArray) ∧ fmRep.R w' (fun b => W.heap.size ≤ b ∧ b < w'.heap.size) (swF (subP fs ts) ks[j]) es ∧ Below W.heap.size W w' := by
    intro W hb
    have hbz := hb.size
    have holdW : ∀ k, SS k → W.heap[k]? = wo.heap[k]? := fun k hk => (hb.block k (hSw k hk)).trans (hold k hk)
    exact ih ks[j] _ W (List.getElem_mem hjl) (fmRep.keep hr holdW (fun _ h => h)) (fun k hk => by have := hSw k hk; omega) (hf.keep holdW (fun _ h => h)) (ht.keep holdW (fun _ h => h))
  have hcall' : ∀ W : World, Below w1.heap.size w1 W → Calls Tryd.prog 31 #[.agg #[.int .i64 ks[j].lab.kind, .string ks[j].lab.nm, .slice Ae n3 c3, .slice Be n4 c4], .slice Df mf ef, .slice Dt mt et] W fun e w' => ∃ es : List Value, e = .returned (.agg es.toArray) ∧ fmRep.R w' (fun b => w1.heap.size ≤ b ∧ b < w'.heap.size) (swF (subP fs ts) ks[j]) es ∧ Below w1.heap.size w1 w' := by
    intro W hb
    refine (hcall W hb).mono ?_
    rintro e w' ⟨es, he, hr9, hb9⟩
    have hbz := hb.size
    exact ⟨es, he, Rep.mono hr9 (fun b hb => ⟨by omega, hb.2⟩), hb.trans (hb9.mono hbz)⟩
  refine Code.wp_mono (Q := Exit.then (fun a' w' => ∃ v' : Value, Frm 95 [(1, .slice Df mf ef), (2, .slice Dt mt et), (3, .pointer (some ⟨wo.heap.size, 0, none⟩)), (6, .pointer (some ⟨wo.heap.size + 1, 0, none⟩)), (7, .pointer (some ⟨wo.heap.size + 2, 0, none⟩)), (75, .slice (some ⟨b, o, none⟩) n2 c2), (76, .int .i64 (n2 : Nat)), (77, .int .i64 (j : Nat))] a' ∧ CY PP wo w' vw ws x v' kd nm A n1 c1 (some ⟨b, o, none⟩) n2 c2 ∧ fmRep.Own 25 (wo.heap.size + 3) w' (fun b => wo.heap.size + 3 ≤ b ∧ b < w'.heap.size) v' (swFs (subP fs ts) (ks.take j) ++ [swF (subP fs ts) ks[j]])) (fun _ _ _ => False)) ?_ (sw_r23_wp hj (by rw [swFs_len, List.length_take]; omega) e0 e1 e2 e3 (by have := hSw b hSb; omega) hcall' hs1 ho1 (fun v' a' w' h' hs' ho' => ⟨v', h', hs', ho'⟩) a3 h3)
  intro ex a4 w4 hx
  cases ex with
  | normal =>
    obtain ⟨v4, h4, hs4, ho4⟩ := hx
    show Code.wp _ _ _ a4 w4
    refine sw_r24_wp hj (by omega) (fun a5 h5 => ?_) a4 h4
    refine ⟨g - 1, by omega, j + 1, v4, by omega, hs4, ?_, h5⟩
    rw [swFs_take (subP fs ts) ks j hjl]
    exact ho4
  | _ => exact hx.elim
theorem at4F {w : World} {b : Nat} {a0 a1 a2 a3 v0 v1 v2 v3 : Value} {T : TypeId} (h : w.heap[b]? = some (.cells #[a0, a1, a2, a3] T (0, 0))) : ((((w.setCell ⟨b, 0, none⟩ v0).setCell ⟨b, 1, none⟩ v1).setCell ⟨b, 2, none⟩ v2).setCell ⟨b, 3, none⟩ v3).heap[b]? = some (.cells #[v0, v1, v2, v3] T (0, 0)) := heap_set (heap_set (heap_set (heap_set h 0 v0) 1 v1) 2 v2) 3 v3
theorem keeps4F {PP : Nat → Prop} {u w : World} {b : Nat} {v0 v1 v2 v3 : Value} (h : Keeps PP u w) (hb : PP b ∨ u.heap.size ≤ b) : Keeps PP u ((((w.setCell ⟨b, 0, none⟩ v0).setCell ⟨b, 1, none⟩ v1).setCell ⟨b, 2, none⟩ v2).setCell ⟨b, 3, none⟩ v3) := (((h.set hb 0 v0).set hb 1 v1).set hb 2 v2).set hb 3 v3
noncomputable def c_sw_r25 : Code := sub [1, 1, 1, 1, 1, 0] (Tryd.f31.body.getD .skip)
set_option maxRecDepth 1000000 in
set_option maxHeartbeats 16000000 in
theorem sw_r25_wp {Q : Exit → Act → World → Prop} {gc gz : Nat} {w : World} {kd : Int} {x : ByteArray} {Aw Av : Option Addr} {nw cw nv cv : Nat} (hc : w.heap[gc]? = some (.cells #[.int .i64 kd, .string x, .slice Aw nw cw, .slice Av nv cv] 25 (0, 0))) (hz : w.heap[gz]? = some (.cells #[.int .i64 0, .string ⟨#[]⟩, .slice none 0 0, .slice none 0 0] 25 (0, 0))) (hN : ∀ a' w', Frm 95 [(6, .pointer (some ⟨gz, 0, none⟩))] a' → w'.heap[gz]? = some (.cells #[.int .i64 kd, .string x, .slice Aw nw cw, .slice Av nv cv] 25 (0, 0)) → Keeps (· = gz) w w' → Q .normal a' w') : ∀ ac, Frm 95 [(6, .pointer (some ⟨gz, 0, none⟩)), (7, .pointer (some ⟨gc, 0, none⟩))] ac → Code.wp Tryd.prog c_sw_r25 Q ac w := by
  refine frm_open ?_
  refine frame_sw ?_
  intros
  rename_i hq
  obtain ⟨-, -, e0q, e1q, -⟩ := hq
  obtain rfl := sI e0q
  obtain rfl := sI e1q
  conv => arg 2; whnf
  have c0 := cellv hc 0 rfl
  have c1 := cellv hc 1 rfl
  have c2 := cellv hc 2 rfl
  have c3 := cellv hc 3 rfl
  have cl := lt_heap hc
  have z0 := cellv hz 0 rfl
  have z1 := cellv hz 1 rfl
  have z2 := cellv hz 2 rfl
  have z3 := cellv hz 3 rfl
  have zf0 := free_heap hz 0
  have zf1 := free_heap hz 1
  have zf2 := free_heap hz 2
  have zf3 := free_heap hz 3
  have zl := lt_heap hz
  have HZ := Lib.hid hz
  clear hc hz
  have HN := Lib.hid hN
  clear hN
  go_wp2_with fail
  exact HN.out _ _ (id ⟨rfl, rfl, rfl, trivial⟩) (at4F HZ.out) (keeps4F (Keeps.refl _ _) (Or.inl rfl))
set_option maxRecDepth 1000000 in
theorem sw_ret_wp {R : Ending → World → Prop} {w' : World} {g : Nat} {v0 v1 v2 v3 : Value} (hg : w'.heap[g]? = some (.cells #[v0, v1, v2, v3] 25 (0, 0))) (ho : v0.oneCell' = true ∧ v1.oneCell' = true ∧ v2.oneCell' = true ∧ v3.oneCell' = true) (hR : R (.returned (.agg #[v0, v1, v2, v3])) w') : ∀ ac, Frm 95 [(6, .pointer (some ⟨g, 0, none⟩))] ac → bodyPost Tryd.prog Tryd.f31 R .ret ac w' := by
  refine frm_open ?_
  refine frame_sw ?_
  intros
  rename_i hq
  obtain ⟨-, -, e0q, -⟩ := hq
  obtain rfl := sI e0q
  have z0 := cellv hg 0 rfl
  have z1 := cellv hg 1 rfl
  have z2 := cellv hg 2 rfl
  have z3 := cellv hg 3 rfl
  have zl := lt_heap hg
  obtain ⟨o0, o1, o2, o3⟩ := ho
  refine bodyPost_ret (v := .agg #[v0, v1, v2, v3]) (by simp [results, Tryd.results31, go_sem, z0, z1, z2, z3, zl, o0, o1, o2, o3]) rfl ?_
  exact hR
theorem sl_sizes {w : World} {S : Nat → Prop} {v : Value} {l : List ByteArray} (h : strRep.Sl w S v l) : ∀ s ∈ l, s.size ≤ maxLen := by
  intro s hs
  obtain ⟨A, n, c, rfl, _⟩ := id h
  obtain ⟨j, hj, rfl⟩ := List.getElem_of_mem hs
  obtain ⟨_, _, _, _, _, ⟨_, hz⟩, _⟩ := Rep.Sl.at_ h (List.getElem?_eq_getElem hj)
  exact hz
theorem subP_size {M : Nat} : ∀ (fs ts : List ByteArray) (w : ByteArray), (∀ s ∈ ts, s.size ≤ M) → w.size ≤ M → (subP fs ts w).size ≤ M
  | [], _, _, _, h => by simpa [subP] using h
  | _ :: _, [], _, _, h => by simpa [subP] using h
  | f :: fs, t :: ts, w, h1, h => by
    simp only [subP]
    split
    · exact h1 t (List.mem_cons_self ..)
    · exact subP_size fs ts w (fun s hs => h1 s (List.mem_cons_of_mem _ hs)) h
/-- The copy, done. -/
theorem CY.fin {tt : List Fm} {PP : Nat → Prop} {vw vs : Value} {ws : List ByteArray} {x : ByteArray} {wo w : World} {kd : Int} {nm : ByteArray} {A B : Option Addr} {n1 c1 n2 c2 : Nat} {w' : World} (h : CY PP wo w vw ws x vs kd nm A n1 c1 B n2 c2) (ho : fmRep.Own 25 (wo.heap.size + 3) w (fun b => wo.heap.size + 3 ≤ b ∧ b < w.heap.size) vs tt) (hx : x.size ≤ maxLen) (hz : ∀ s ∈ ws, s.size ≤ maxLen) (hwl : ws.length ≤ maxLen) (htl : tt.length ≤ maxLen) (hk : Keeps (· = wo.heap.size + 1) w w') : fmRep.R w' (fun b => wo.heap.size ≤ b ∧ b < w'.heap.size) (.mk ⟨kd, x, ws⟩ tt) [.int .i64 kd, .string x, vw, vs] := by
  have hks := hk.size
  have h1 := sl_of_row (S := fun b => wo.heap.size + 3 ≤ b ∧ b < w.heap.size) h.rw hz hwl (fun k e => h.rw.lt k e)
  have h2 := ho.sl (S' := fun b => wo.heap.size + 3 ≤ b ∧ b < w.heap.size) htl (fun b hb => hb) (fun b h1 h2 => ⟨h1, h2⟩)
  exact Fm.shut (a := ⟨kd, x, ws⟩) hx (h1.keep (fun b hb => hk.block b hb.2 (by omega)) (fun b hb => ⟨by omega, by omega⟩)) (h2.keep (fun b hb => hk.block b hb.2 (by omega)) (fun b hb => ⟨by omega, by omega⟩))
theorem CY.start {PP : Nat → Prop} {wo wx : World} {kd : Int} {nm : ByteArray} {A B : Option Addr} {n1 c1 n2 c2 : Nat} (ha : wx.heap[wo.heap.size]? = some (.cells #[.int .i64 kd, .string nm, .slice A n1 c1, .slice B n2 c2] 25 (0, 0))) (hz : wx.heap[wo.heap.size + 1]? = some (.cells #[.int .i64 0, .string ⟨#[]⟩, .slice none 0 0, .slice none 0 0] 25 (0, 0))) (hsz : wx.heap.size = wo.heap.size + 2) (hb : Below wo.heap.size wo wx) (hp : ∀ k, PP k → k < wo.heap.size) : CY PP wo (wx.alloc (.cells #[.int .i64 kd, .string nm, .slice none 0 0, .slice none 0 0] 25)) (.slice none 0 0) [] nm (.slice none 0 0) kd nm A n1 c1 B n2 c2 := by
  refine ⟨heap_old (lt_heap ha) ha, heap_old (lt_heap hz) hz, ?_, World.ownsRow_nil _ _ _ _, Keeps.alloc (Below.keeps hb _) _, hp⟩
  rw [← hsz]
  exact heap_alloc_new _ _
theorem allWs_at_le : ∀ (l : List (Tree FmL)) (j : Nat) (h : j < l.length), (allW l[j]).length ≤ (allWs l).length
  | t :: l, 0, _ => by simp [allWs]
  | t :: l, j + 1, h => by
    have := allWs_at_le l j (by simpa using h)
    simp only [allWs, List.length_append, List.getElem_cons_succ]; omega
noncomputable def c_sw_p20 : Code := sub [1, 1, 1, 1] (Tryd.f31.body.getD .skip)
set_option maxRecDepth 100000 in
set_option maxHeartbeats 4000000 in
/-- The reference's Swapped. -/
theorem refSwapped_any : ∀ (N : Nat) (t : Fm) (cs : List Value) (w : World) (S : Nat → Prop) (Df Dt : Option Addr) (mf ef mt et : Nat) (fs ts : List ByteArray), t.nodes ≤ N → N ≤ 1000 → (allW t).length ≤ 1000000 → fmRep.R w S t cs → (∀ k, S k → k < w.heap.size) → strRep.Sl w S (.slice Df mf ef) fs → strRep.Sl w S (.slice Dt mt et) ts → fs.length = ts.length →
    Calls Tryd.prog 31 #[.agg cs.toArray, .slice Df mf ef, .slice Dt mt et] w (fun e w' => ∃ es : List Value, e = .returned (.agg es.toArray) ∧ fmRep.R w' (fun b => w.heap.size ≤ b ∧ b < w'.heap.size) (swF (subP fs ts) t) es ∧ Below w.heap.size w w') := by
  intro N
  induction N with
  | zero => intro t; have := t.nodes_pos; intros; omega
  | succ N ih =>
  intro t cs w S Df Dt mf ef mt et fs ts hN hN1 hal ht hS hf hts hlen
  obtain ⟨⟨kd, nm, us⟩, ks⟩ := t
  obtain ⟨u, v9, rfl, hnm, hw, hl⟩ := Fm.open_ ht
  simp only at hw hnm
  obtain ⟨A, n1, c1, rfl, e1, hm1, _⟩ := id hw
  obtain ⟨B, n2, c2, rfl, e2, hm2, _⟩ := id hl
  clear ht
  have hkn := Tree.nodess_len ks
  simp only [Tree.nodes] at hN
  simp only [allW, List.length_append] at hal
  go_enter Tryd.func31, Tryd.ntmps31
  refine wp_seq ?_
  refine sw_r0_wp (fun a0 h0 => ?_) _ (id ⟨rfl, rfl, rfl, rfl, rfl, trivial⟩)
  refine gen_last (fun wx => wx.heap[w.heap.size]? = some (.cells #[.int .i64 kd, .string nm, .slice A n1 c1, .slice B n2 c2] 25 (0, 0)) ∧ wx.heap[w.heap.size + 1]? = some (.cells #[.int .i64 0, .string ⟨#[]⟩, .slice none 0 0, .slice none 0 0] 25 (0, 0)) ∧ wx.heap.size = w.heap.size + 2 ∧ Below w.heap.size w wx) ⟨heap_old (by simp) (heap_at (by simp)), heap_at (by simp), by simp, ((Below.refl _ _).alloc (Nat.le_refl _) _).alloc (by simp) _⟩ ?_
  rintro wx ⟨ha, hz, hsz, hb⟩
  refine wp_seq ?_
  refine sw_r1_wp ha (fun a1 h1 => ?_) a0 h0
  rw [hsz] at h1
  refine gen_last (fun wy => CY (fun _ => False) w wy (.slice none 0 0) [] nm (.slice none 0 0) kd nm A n1 c1 B n2 c2) (CY.start ha hz hsz hb (fun _ h => h.elim)) ?_
  intro wy hs
  have hSp : ∀ k, S k → k < w.heap.size ∧ ¬ (fun _ : Nat => False) k := fun k hk => ⟨hS k hk, fun h => h⟩
  have p20 : ∀ (a5 : Act) (w5 : World) (x : ByteArray) (vw : Value), x.size ≤ maxLen → x = (if isQ kd then subP fs ts nm else nm) → CY (fun _ => False) w w5 vw (us.map (subP fs ts)) x (.slice none 0 0) kd nm A n1 c1 B n2 c2 → Frm 95 [(1, .slice Df mf ef), (2, .slice Dt mt et), (3, .pointer (some ⟨w.heap.size, 0, none⟩)), (6, .pointer (some ⟨w.heap.size + 1, 0, none⟩)), (7, .pointer (some ⟨w.heap.size + 2, 0, none⟩))] a5 → Code.wp Tryd.prog c_sw_p20 (bodyPost Tryd.prog Tryd.f31 (fun e w' => ∃ es : List Value, e = .returned (.agg es.toArray) ∧ fmRep.R w' (fun b => w.heap.size ≤ b ∧ b < w'.heap.size) (swF (subP fs ts) (.mk ⟨kd, nm, us⟩ ks)) es ∧ Below w.heap.size w w')) a5 w5 := by
    intro a5 w5 x vw hxs ex hs5 h5
    conv => arg 2; whnf
    refine wp_seq ?_
    refine wp_seq ?_
    refine sw_r20_wp hs5 (fun a6 h6 => ?_) a5 h5
    refine wp_block ?_
    refine sw_sl_wp (SS := S) hSp hf hts hl (by omega) hs5 Rep.Own.nil (fun t cs W htl hr hS9 hf9 ht9 => ?_) (fun v7 a7 w7 h7 hs7 ho7 => ?_) a6 h6
    · obtain ⟨j, hj, rfl⟩ := List.getElem_of_mem htl
      have := Tree.nodes_at ks j hj
      have := allWs_at_le ks j hj
      exact ih ks[j] cs W S Df Dt mf ef mt et fs ts (by omega) (by omega) (by omega) hr hS9 hf9 ht9 hlen
    · refine inBlock_exit ?_
      show Code.wp _ _ _ a7 w7
      have hwl := hs7.rw
      obtain ⟨Aw, cw, rfl⟩ : ∃ A c, vw = .slice A (us.map (subP fs ts)).length c := by
        rcases hs7.rw.2 with ⟨e, e0⟩ | ⟨g, cap, cur, e, _⟩
        · exact ⟨none, 0, by rw [e, e0]⟩
        · exact ⟨_, _, e⟩
      obtain ⟨Av, cv, rfl⟩ := ho7.len
      have hbs := hs7.b.size
      have hzl := lt_heap hs7.z
      refine wp_seq ?_
      refine sw_r25_wp hs7.c hs7.z (fun a8 w8 h8 hz8 hk8 => ?_) a7 ⟨h7.1, h7.2.1, h7.2.2.2.2.2.1, h7.2.2.2.2.2.2.1, trivial⟩
      refine wp_ret ?_
      refine sw_ret_wp hz8 ⟨rfl, rfl, rfl, rfl⟩ ⟨_, rfl, ?_, ?_⟩ a8 h8
      · have h9 := hs7.fin ho7 hxs (fun s hs => ?_) (by rw [List.length_map]; omega) (by rw [swFs_len]; omega) hk8
        · have e9 : swF (subP fs ts) (.mk ⟨kd, nm, us⟩ ks) = .mk ⟨kd, x, us.map (subP fs ts)⟩ (swFs (subP fs ts) ks) := by
            rw [ex]; rfl
          rw [e9]
          exact h9
        · obtain ⟨y, hy, rfl⟩ := List.mem_map.1 hs
          exact subP_size fs ts y (sl_sizes hts) (sl_sizes hw y hy)
      · exact (hs7.b.step hk8 (fun i e => Or.inr (by have e : i = w.heap.size + 1 := e; omega))).below (fun _ h => h.elim) (Nat.le_refl _)
  refine wp_seq ?_
  refine wp_seq ?_
  refine sw_r2_wp hs (fun a2 h2 => ?_) a1 h1
  refine wp_block ?_
  refine sw_wl_wp (SS := S) hSp hf hts hlen hw (by omega) rfl hs (fun v3 a3 w3 h3 hs3 => ?_) a2 h2
  refine inBlock_exit ?_
  show Code.wp _ _ _ a3 w3
  refine wp_seq ?_
  refine wp_seq ?_
  refine sw_r13_wp hs3 (fun a4 h4 => ?_) a3 h3
  have hq : isQu kd = true ↔ kd = 8 ∨ kd = 9 := by unfold isQu; simp
  cases hk : isQu kd
  · rw [hk] at h4
    refine wp_cond_false ((h4.eval (k := 55) (v := .bool false) (by simp)).trans (by rw [show false = false from rfl])) ?_
    refine wp_skip ?_
    exact p20 a4 w3 nm v3 hnm (by rw [if_neg (fun h => by rw [hq.2 h] at hk; cases hk)]) hs3 ⟨h4.1, h4.2.1, h4.2.2.1, h4.2.2.2.1, h4.2.2.2.2.1, h4.2.2.2.2.2.1, h4.2.2.2.2.2.2.1, trivial⟩
  · rw [hk] at h4
    refine wp_cond_true ((h4.eval (k := 55) (v := .bool true) (by simp)).trans (by rw [show true = true from rfl])) ?_
    refine wp_seq ?_
    refine sw_r14_wp (fun a5 h5 => ?_) a4 ⟨h4.1, h4.2.1, h4.2.2.1, h4.2.2.2.1, h4.2.2.2.2.1, h4.2.2.2.2.2.1, h4.2.2.2.2.2.2.1, trivial⟩
    refine wp_block ?_
    refine sw_name_wp (SS := S) hSp hf hts hlen rfl hs3 (fun a6 w6 h6 hs6 => ?_) a5 h5
    refine inBlock_exit ?_
    exact p20 a6 w6 _ v3 (subP_size fs ts nm (sl_sizes hts) hnm) (by rw [if_pos (show isQ kd from hq.1 hk)]) hs6 h6

end Go.Proofs.YtdofemkfmkopcaaDoor
