/-
  The reference's Swapped: the loops over the words.
-/
import Derived.Test.YtdofemkfmkopcaaDoorSwA
namespace Go.Proofs.YtdofemkfmkopcaaDoor
open Go Go.RowKit
set_option linter.unusedSimpArgs false
set_option linter.unusedVariables false

/-- The first of the names that is the word: what stands for it. -/
def subP (fs ts : List ByteArray) (w : ByteArray) : ByteArray := match fs, ts with
  | f :: fs, t :: ts => if f = w then t else subP fs ts w
  | _, _ => w
theorem subP_at : ∀ (fs ts : List ByteArray) (w : ByteArray) (j : Nat) (h1 : j < fs.length) (h2 : j < ts.length), (∀ i, i < j → fs[i]? ≠ some w) → fs[j] = w → subP fs ts w = ts[j]
  | [], _, _, _, h1, _, _, _ => by simp at h1
  | _ :: _, [], _, _, _, h2, _, _ => by simp at h2
  | f :: fs, t :: ts, w, 0, _, _, _, h => by
    have h : f = w := h
    simp [subP, h]
  | f :: fs, t :: ts, w, j + 1, h1, h2, hn, h => by
    have h0 : f ≠ w := fun e => hn 0 (by omega) (by simp [e])
    simp only [subP]
    rw [if_neg h0]
    have := subP_at fs ts w j (by simpa using h1) (by simpa using h2) (fun i hi => by have := hn (i + 1) (by omega); simpa using this) (by simpa using h)
    simpa using this
theorem subP_none : ∀ (fs ts : List ByteArray) (w : ByteArray), (∀ i, i < fs.length → fs[i]? ≠ some w) → subP fs ts w = w
  | [], _, _, _ => by simp [subP]
  | _ :: _, [], _, _ => by simp [subP]
  | f :: fs, t :: ts, w, hn => by
    have h0 : f ≠ w := fun e => hn 0 (by simp) (by simp [e])
    simp only [subP]
    rw [if_neg h0]
    exact subP_none fs ts w (fun i hi => by have := hn (i + 1) (by simpa using hi); simpa using this)
noncomputable def c_sw_r11 : Code := sub [1, 1, 0, 1, 0, 0, 1, 1, 0, 0, 1, 1] (Tryd.f31.body.getD .skip)
set_option maxRecDepth 1000000 in
set_option maxHeartbeats 16000000 in
theorem sw_r11_wp {Q : Exit → Act → World → Prop} {s : ByteArray} {i : Nat} {Df Dt : Option Addr} {mf ef mt et : Nat} {PP : Nat → Prop} {vw vs : Value} {ws : List ByteArray} {x : ByteArray} {wo w : World} {kd : Int} {nm : ByteArray} {A B : Option Addr} {n1 c1 n2 c2 : Nat} (hl : ws.length ≤ 1000000) (hs : CY PP wo w vw ws x vs kd nm A n1 c1 B n2 c2) (hN : ∀ v' a' w', Frm 95 [(1, .slice Df mf ef), (2, .slice Dt mt et), (3, .pointer (some ⟨wo.heap.size, 0, none⟩)), (6, .pointer (some ⟨wo.heap.size + 1, 0, none⟩)), (7, .pointer (some ⟨wo.heap.size + 2, 0, none⟩)), (19, .slice A n1 c1), (20, .int .i64 (n1 : Nat)), (21, .int .i64 (i : Nat))] a' → CY PP wo w' v' (ws ++ [s]) x vs kd nm A n1 c1 B n2 c2 → Q .normal a' w') : ∀ ac, Frm 95 [(1, .slice Df mf ef), (2, .slice Dt mt et), (3, .pointer (some ⟨wo.heap.size, 0, none⟩)), (6, .pointer (some ⟨wo.heap.size + 1, 0, none⟩)), (7, .pointer (some ⟨wo.heap.size + 2, 0, none⟩)), (19, .slice A n1 c1), (20, .int .i64 (n1 : Nat)), (21, .int .i64 (i : Nat)), (9, .string s)] ac → Code.wp Tryd.prog c_sw_r11 Q ac w := by
  refine frm_open ?_
  refine frame_sw ?_
  intros
  rename_i hq
  obtain ⟨-, -, e0q, e1q, e2q, e3q, e4q, e5q, e6q, e7q, e8q, -⟩ := hq
  obtain rfl := sI e0q
  obtain rfl := sI e1q
  obtain rfl := sI e2q
  obtain rfl := sI e3q
  obtain rfl := sI e4q
  obtain rfl := sI e5q
  obtain rfl := sI e6q
  obtain rfl := sI e7q
  obtain rfl := sI e8q
  conv => arg 2; whnf
  obtain ⟨ts, hts, ht0, ht1, ht2⟩ := info_parts infoStr
  have b2 := cellv hs.c 2 rfl
  have bf := free_heap hs.c 2
  have blt := lt_heap hs.c
  obtain ⟨A9, c9, rfl⟩ : ∃ A c, vw = .slice A ws.length c := by
    rcases hs.rw.2 with ⟨e, e0⟩ | ⟨g, cap, cur, e, _⟩
    · exact ⟨none, 0, by rw [e, e0]⟩
    · exact ⟨_, _, e⟩
  have hrow := hs.rw
  have HS := Lib.hid hs
  clear hs
  have HN := Lib.hid hN
  have HROW := Lib.hid hrow
  clear hN hrow
  go_wp2_with (at_builtin; refine wpList_append_lies (w.alloc (.cells #[.string s] 9)) ?h1 (.tmp 42) (.tmp 44) 22 ?h2 (wo.heap.size + 3) 9 ts (.string ⟨#[]⟩) 1 16 ?h3 hts ht0 ht1 ht2 ?h4 ?h5 (.slice A9 ws.length c9) ws.length (ws.map .string) ?h6 ?h7 ⟨w.heap.size, 0, none⟩ 1 1 [.string s] ?h8 ?h9 ?h10 ?h11 ?h12 ?h13 ?h14 ?h15 (w.heap.size + 1) ?h16 ?_)
  try (case h1 => rfl)
  try (case h2 => rfl)
  try (case h3 => exact Tryd.underlying22)
  try (case h4 => rfl)
  try (case h5 => omega)
  try (case h6 => rfl)
  try (case h7 => exact HROW.out.alloc _)
  try (case h8 => rfl)
  try (case h9 => rfl)
  try (case h10 => exact World.news_of_block (cs := #[.string s]) (t := 9) (fr := (0, 0)) (heap_alloc_new w _))
  try (case h11 => simp [Value.oneCell'])
  try (case h12 => omega)
  try (case h13 => first | (simp [maxLen]; omega) | (unfold maxLen; omega))
  try (case h14 => omega)
  try (case h15 => first | omega | (simp; omega))
  try (case h16 => first | rfl | simp)
  intro gg cap w6 hown3 hgrow hat hlt
  have hap := HS.out.word hown3 hgrow
  have HAP := Lib.hid hap
  have d2 := cellv hap.1 2 rfl
  have df := free_heap hap.1 2
  have dl := lt_heap hap.1
  clear hown3 hgrow hat hap b2 bf blt hlt
  go_wp2_with fail
  exact HN.out _ _ _ (id ⟨rfl, rfl, rfl, rfl, rfl, rfl, rfl, rfl, rfl, rfl, trivial⟩) HAP.out.2
noncomputable def c_sw_look : Code := sub [1, 1, 0, 1, 0, 0, 1, 1, 0, 0, 1, 0, 1, 0] (Tryd.f31.body.getD .skip)
set_option maxRecDepth 100000 in
set_option maxHeartbeats 4000000 in
theorem sw_look_wp {Q : Exit → Act → World → Prop} {SS : Nat → Prop} {fs ts : List ByteArray} {s : ByteArray} {A : Option Addr} {n1 c1 i : Nat} {wo w : World} {Df Dt : Option Addr} {mf ef mt et : Nat} (hS : ∀ k, SS k → k < w.heap.size) (hf : strRep.Sl w SS (.slice Df mf ef) fs) (ht : strRep.Sl w SS (.slice Dt mt et) ts) (hlen : fs.length = ts.length)
    (hX : ∀ a', Frm 95 [(1, .slice Df mf ef), (2, .slice Dt mt et), (3, .pointer (some ⟨wo.heap.size, 0, none⟩)), (6, .pointer (some ⟨wo.heap.size + 1, 0, none⟩)), (7, .pointer (some ⟨wo.heap.size + 2, 0, none⟩)), (19, .slice A n1 c1), (20, .int .i64 (n1 : Nat)), (21, .int .i64 (i : Nat)), (9, .string (subP fs ts s))] a' → Q (.exit 2) a' w) : ∀ ac, Frm 95 [(1, .slice Df mf ef), (2, .slice Dt mt et), (3, .pointer (some ⟨wo.heap.size, 0, none⟩)), (6, .pointer (some ⟨wo.heap.size + 1, 0, none⟩)), (7, .pointer (some ⟨wo.heap.size + 2, 0, none⟩)), (19, .slice A n1 c1), (20, .int .i64 (n1 : Nat)), (21, .int .i64 (i : Nat)), (9, .string s), (26, .int .i64 (mf : Nat)), (27, .int .i64 (0 : Nat))] ac → Code.wp Tryd.prog c_sw_look Q ac w := by
  intro a0 hf0
  conv => arg 2; whnf
  obtain ⟨D', m', e', e9, hfl, hfm, _⟩ := id hf
  injection e9 with e1 e2 e3
  subst e1 e2 e3
  obtain ⟨D'', m'', e'', e9, htl, htm, _⟩ := id ht
  injection e9 with e1 e2 e3
  subst e1 e2 e3
  refine wp_loopR (fun g a' w' => ∃ j : Nat, j + g = fs.length ∧ (∀ i, i < j → fs[i]? ≠ some s) ∧ w' = w ∧ Frm 95 [(1, .slice Df mf ef), (2, .slice Dt mt et), (3, .pointer (some ⟨wo.heap.size, 0, none⟩)), (6, .pointer (some ⟨wo.heap.size + 1, 0, none⟩)), (7, .pointer (some ⟨wo.heap.size + 2, 0, none⟩)), (19, .slice A n1 c1), (20, .int .i64 (n1 : Nat)), (21, .int .i64 (i : Nat)), (9, .string s), (26, .int .i64 (mf : Nat)), (27, .int .i64 (j : Nat))] a') fs.length ⟨0, by omega, by omega, rfl, hf0⟩ ?_
  rintro g a1 w1 ⟨j, hjg, hno, rfl, h1⟩
  refine wp_seq ?_
  refine sw_r6_wp (fun a2 h2 => ?_) a1 h1
  refine wp_seq ?_
  by_cases hj : j < mf
  case neg =>
    refine wp_cond_false ((h2.eval (k := 28) (v := .bool (decide (j < mf))) (by simp)).trans (by rw [decide_eq_false hj])) ?_
    refine wp_exit (hX a2 ?_)
    rw [subP_none fs ts s (fun i hi => hno i (by omega))]
    exact ⟨h2.1, h2.2.1, h2.2.2.1, h2.2.2.2.1, h2.2.2.2.2.1, h2.2.2.2.2.2.1, h2.2.2.2.2.2.2.1, h2.2.2.2.2.2.2.2.1, h2.2.2.2.2.2.2.2.2.1, h2.2.2.2.2.2.2.2.2.2.1, h2.2.2.2.2.2.2.2.2.2.2.1, trivial⟩
  refine wp_cond_true ((h2.eval (k := 28) (v := .bool (decide (j < mf))) (by simp)).trans (by rw [decide_eq_true hj])) ?_
  refine wp_skip ?_
  show Code.wp _ _ _ a2 w1
  have hjl : j < fs.length := by omega
  have hjt : j < ts.length := by omega
  obtain ⟨b, o, cs, rfl, hSb, ⟨rfl, _⟩, hc⟩ := Rep.Sl.at_ hf (List.getElem?_eq_getElem hjl)
  have hc0 : w1.cell? ⟨b, o + j, none⟩ = some (.string fs[j]) := by simpa [strRep] using hc 0 _ rfl
  obtain ⟨b2, o2, cs2, rfl, hSb2, ⟨rfl, _⟩, hc2⟩ := Rep.Sl.at_ ht (List.getElem?_eq_getElem hjt)
  have hc20 : w1.cell? ⟨b2, o2 + j, none⟩ = some (.string ts[j]) := by simpa [strRep] using hc2 0 _ rfl
  refine wp_seq ?_
  refine wp_block ?_
  refine wp_seq ?_
  refine sw_r7_wp (fun a3 h3 => ?_) a2 ⟨h2.1, h2.2.1, h2.2.2.1, h2.2.2.2.1, h2.2.2.2.2.1, h2.2.2.2.2.2.1, h2.2.2.2.2.2.2.1, h2.2.2.2.2.2.2.2.1, h2.2.2.2.2.2.2.2.2.1, h2.2.2.2.2.2.2.2.2.2.1, h2.2.2.2.2.2.2.2.2.2.2.1, h2.2.2.2.2.2.2.2.2.2.2.2.1, h2.2.2.2.2.2.2.2.2.2.2.2.2.1, trivial⟩
  refine wp_seq ?_
  refine sw_r8_wp hj hc0 (hS b hSb) (fun a4 h4 => ?_) a3 h3
  by_cases hx : fs[j] = s
  · refine wp_cond_true ((h4.eval (k := 35) (v := .bool (decide (fs[j] = s))) (by simp)).trans (by rw [decide_eq_true hx])) ?_
    refine wp_seq ?_
    refine sw_r9_wp (by omega) hc20 (hS b2 hSb2) (fun a5 h5 => ?_) a4 ⟨h4.1, h4.2.1, h4.2.2.1, h4.2.2.2.1, h4.2.2.2.2.1, h4.2.2.2.2.2.1, h4.2.2.2.2.2.2.1, h4.2.2.2.2.2.2.2.1, h4.2.2.2.2.2.2.2.2.1, h4.2.2.2.2.2.2.2.2.2.1, h4.2.2.2.2.2.2.2.2.2.2.1, h4.2.2.2.2.2.2.2.2.2.2.2.1, h4.2.2.2.2.2.2.2.2.2.2.2.2.1, h4.2.2.2.2.2.2.2.2.2.2.2.2.2.1, trivial⟩
    refine wp_exit ?_
    repeat refine then_exit ?_
    refine inBlock_far (by decide) ?_
    repeat refine then_exit ?_
    refine hX a5 ?_
    rw [subP_at fs ts s j hjl hjt hno hx]
    exact h5
  · refine wp_cond_false ((h4.eval (k := 35) (v := .bool (decide (fs[j] = s))) (by simp)).trans (by rw [decide_eq_false hx])) ?_
    refine wp_skip ?_
    show Code.wp _ _ _ a4 w1
    refine sw_r10_wp hj (by omega) (fun a5 h5 => ?_) a4 ⟨h4.1, h4.2.1, h4.2.2.1, h4.2.2.2.1, h4.2.2.2.2.1, h4.2.2.2.2.2.1, h4.2.2.2.2.2.2.1, h4.2.2.2.2.2.2.2.1, h4.2.2.2.2.2.2.2.2.1, h4.2.2.2.2.2.2.2.2.2.1, h4.2.2.2.2.2.2.2.2.2.2.1, h4.2.2.2.2.2.2.2.2.2.2.2.1, h4.2.2.2.2.2.2.2.2.2.2.2.2.1, trivial⟩
    refine ⟨g - 1, by omega, j + 1, by omega, fun i hi => ?_, rfl, h5⟩
    by_cases hij : i < j
    · exact hno i hij
    · obtain rfl : i = j := by omega
      rw [List.getElem?_eq_getElem hjl]
      exact fun e => hx (Option.some.inj e)
noncomputable def c_sw_wl : Code := sub [1, 1, 0, 1, 0] (Tryd.f31.body.getD .skip)
set_option maxRecDepth 100000 in
set_option maxHeartbeats 4000000 in
theorem sw_wl_wp {Q : Exit → Act → World → Prop} {SS : Nat → Prop} {fs ts us : List ByteArray} {Df Dt : Option Addr} {mf ef mt et : Nat} {PP : Nat → Prop} {vw vs : Value} {ws : List ByteArray} {x : ByteArray} {wo w : World} {kd : Int} {nm : ByteArray} {A B : Option Addr} {n1 c1 n2 c2 : Nat} (hS : ∀ k, SS k → k < wo.heap.size ∧ ¬ PP k) (hf : strRep.Sl wo SS (.slice Df mf ef) fs) (ht : strRep.Sl wo SS (.slice Dt mt et) ts) (hlen : fs.length = ts.length) (hu : strRep.Sl wo SS (.slice A n1 c1) us) (hul : us.length ≤ 1000000) (hw0 : ws = []) (hs : CY PP wo w vw ws x vs kd nm A n1 c1 B n2 c2) 
    (hX : ∀ v' a' w', Frm 95 [(1, .slice Df mf ef), (2, .slice Dt mt et), (3, .pointer (some ⟨wo.heap.size, 0, none⟩)), (6, .pointer (some ⟨wo.heap.size + 1, 0, none⟩)), (7, .pointer (some ⟨wo.heap.size + 2, 0, none⟩))] a' → CY PP wo w' v' (us.map (subP fs ts)) x vs kd nm A n1 c1 B n2 c2 → Q (.exit 0) a' w') : ∀ ac, Frm 95 [(1, .slice Df mf ef), (2, .slice Dt mt et), (3, .pointer (some ⟨wo.heap.size, 0, none⟩)), (6, .pointer (some ⟨wo.heap.size + 1, 0, none⟩)), (7, .pointer (some ⟨wo.heap.size + 2, 0, none⟩)), (19, .slice A n1 c1), (20, .int .i64 (n1 : Nat)), (21, .int .i64 (0 : Nat))] ac → Code.wp Tryd.prog c_sw_wl Q ac w := by
  subst hw0
  intro a0 hf0
  conv => arg 2; whnf
  obtain ⟨A', n', c', e9, hlen2, hmax, _⟩ := id hu
  injection e9 with e1 e2 e3
  subst e1 e2 e3
  refine wp_loopR (fun g a' w' => ∃ (i : Nat) (v' : Value), i + g = us.length ∧ CY PP wo w' v' ((us.take i).map (subP fs ts)) x vs kd nm A n1 c1 B n2 c2 ∧ Frm 95 [(1, .slice Df mf ef), (2, .slice Dt mt et), (3, .pointer (some ⟨wo.heap.size, 0, none⟩)), (6, .pointer (some ⟨wo.heap.size + 1, 0, none⟩)), (7, .pointer (some ⟨wo.heap.size + 2, 0, none⟩)), (19, .slice A n1 c1), (20, .int .i64 (n1 : Nat)), (21, .int .i64 (i : Nat))] a') us.length ⟨0, vw, by omega, by simpa using hs, hf0⟩ ?_
  rintro g a1 w1 ⟨i, v1, hig, hs1, h1⟩
  refine wp_seq ?_
  refine sw_r3_wp (fun a2 h2 => ?_) a1 h1
  refine wp_seq ?_
  by_cases hi : i < n1
  case neg =>
    refine wp_cond_false ((h2.eval (k := 22) (v := .bool (decide (i < n1))) (by simp)).trans (by rw [decide_eq_false hi])) ?_
    refine wp_exit (hX v1 a2 w1 ⟨h2.1, h2.2.1, h2.2.2.1, h2.2.2.2.1, h2.2.2.2.2.1, h2.2.2.2.2.2.1, h2.2.2.2.2.2.2.1, trivial⟩ ?_)
    rwa [List.take_of_length_le (by omega)] at hs1
  refine wp_cond_true ((h2.eval (k := 22) (v := .bool (decide (i < n1))) (by simp)).trans (by rw [decide_eq_true hi])) ?_
  refine wp_skip ?_
  show Code.wp _ _ _ a2 w1
  have hold := fun k hk => hs1.b.block k (hS k hk).1 (hS k hk).2
  have hbs := hs1.b.size
  have hil : i < us.length := by omega
  obtain ⟨b, o, cs, rfl, hSb, ⟨rfl, hsz⟩, hc⟩ := Rep.Sl.at_ hu (List.getElem?_eq_getElem hil)
  have hc0 : w1.cell? ⟨b, o + i, none⟩ = some (.string us[i]) := (cell_keep (hold b hSb) _).trans (by simpa [strRep] using hc 0 _ rfl)
  have hll : ((us.take i).map (subP fs ts)).length ≤ 1000000 := by
    rw [List.length_map, List.length_take]; omega
  refine wp_seq ?_
  refine wp_block ?_
  refine wp_seq ?_
  refine sw_r4_wp hi hc0 (by have := (hS b hSb).1; omega) (fun a3 h3 => ?_) a2 ⟨h2.1, h2.2.1, h2.2.2.1, h2.2.2.2.1, h2.2.2.2.2.1, h2.2.2.2.2.2.1, h2.2.2.2.2.2.2.1, h2.2.2.2.2.2.2.2.1, h2.2.2.2.2.2.2.2.2.1, h2.2.2.2.2.2.2.2.2.2.1, trivial⟩
  refine wp_seq ?_
  refine wp_seq ?_
  refine sw_r5_wp (fun a4 h4 => ?_) a3 h3
  refine wp_block ?_
  refine sw_look_wp (SS := SS) (fun k hk => by have := (hS k hk).1; omega) (hf.keep hold (fun _ h => h)) (ht.keep hold (fun _ h => h)) hlen (fun a5 h5 => ?_) a4 h4
  refine inBlock_exit ?_
  show Code.wp _ _ _ a5 w1
  refine sw_r11_wp hll hs1 (fun v6 a6 w6 h6 hs6 => ?_) a5 h5
  show Code.wp _ _ _ a6 w6
  refine sw_r12_wp hi (by omega) (fun a7 h7 => ?_) a6 h6
  refine ⟨g - 1, by omega, i + 1, v6, by omega, ?_, h7⟩
  rw [List.take_succ_eq_append_getElem hil, List.map_append]
  exact hs6

end Go.Proofs.YtdofemkfmkopcaaDoor
