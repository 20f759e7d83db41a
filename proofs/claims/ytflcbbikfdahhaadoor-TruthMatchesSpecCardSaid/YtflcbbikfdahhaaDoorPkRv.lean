/- Lemmas. -/
import Derived.Test.YtflcbbikfdahhaaDoorPkRu
namespace Go.Proofs.YtflcbbikfdahhaaDoor
open Go Go.RowKit
set_option linter.unusedSimpArgs false
set_option linter.unusedVariables false
noncomputable section
set_option maxRecDepth 1000000
set_option maxHeartbeats 16000000
variable {s_0 s_1 s_2 : Value} {Q : Exit → Act → World → Prop} {w : World} {me ee ge k b o : Nat} {z v : Int} {x : ByteArray}

theorem frame_wv {P : Act → Prop} (h : ∀ x0 x1 x2 x3 x4 x5 x6 x7 x8 x9 x10 x11 x12 x13 x14 x15 x16 x17 x18 x19 x20 x21 x22 x23 x24 x25 x26 x27 x28 x29 x30 x31 x32 x33 : Value, P ⟨(x0 :: x1 :: x2 :: x3 :: x4 :: x5 :: x6 :: x7 :: x8 :: x9 :: x10 :: x11 :: x12 :: x13 :: x14 :: x15 :: x16 :: x17 :: x18 :: x19 :: x20 :: x21 :: x22 :: x23 :: x24 :: x25 :: x26 :: x27 :: x28 :: x29 :: x30 :: x31 :: x32 :: x33 :: []).toArray, []⟩) : ∀ a : Act, a.tmps.toList.length = 34 → a.defers = [] → P a := by
  rintro ⟨⟨l⟩, d⟩ hs hd
  simp only at hd
  subst hd
  revert l
  show ∀ l : List Value, l.length = 34 → P ⟨⟨l⟩, []⟩
  iterate 34 refine openS (fun _ => ?_)
  refine open0 ?_
  exact h ..
noncomputable def cF82 : Code := Tryd.f82.body.getD .skip
def c_wv_r0 := sp 99 2 cF82
theorem wv_r0_wp (hN : ∀ a', Frm 34 [(0, s_0), (1, s_1), (2, s_2)] a' → Q .normal a' w) : ∀ ac, Frm 34 [(0, s_0), (1, s_1), (2, s_2)] ac → Code.wp Tryd.prog c_wv_r0 Q ac w := by
  refine fO (frame_wv ?_)
  intros
  rename_i hq
  iterate 3 (obtain ⟨e,hq⟩ := hq; obtain rfl := sI e; clear e)
  clear hq
  conv => arg 2; whnf
  replace hN := Lib.hid hN
  go_wp2_with fail
  exact hN.out _ (by exact fR rfl rfl rfl)
def c_wv_r1 := sp 99 9 cF82
theorem wv_r1_wp {De : Option Addr} (hme : me ≤ 1000000) (hge : w.heap[ge]? = some (.cells #[.slice De me ee] 71 (0, 0))) (hN : ∀ a', Frm 34 [(0, s_0), (1, .pointer (some ⟨ge, 0, none⟩)), (2, s_2), (5, .int .i64 ((me : Int) - 1))] a' → Q .normal a' w) : ∀ ac, Frm 34 [(0, s_0), (1, .pointer (some ⟨ge, 0, none⟩)), (2, s_2)] ac → Code.wp Tryd.prog c_wv_r1 Q ac w := by
  refine fO (frame_wv ?_)
  intros
  rename_i hq
  iterate 3 (obtain ⟨e,hq⟩ := hq; obtain rfl := sI e; clear e)
  clear hq
  conv => arg 2; whnf
  have q1 : (me : Int) ≤ 1000000 := by omega
  have g0 := cellv hge 0 rfl
  have gl := lt_heap hge
  clear hge
  replace hN := Lib.hid hN
  go_wp2_with fail
  exact hN.out _ (by exact fR rfl rfl rfl)
def c_wv_r2 := sp 99 133 cF82
theorem wv_r2_wp (hN : ∀ a', Frm 34 [(0, s_0), (1, s_1), (2, s_2), (5, .int .i64 (z)), (12, .bool (decide (0 ≤ z)))] a' → Q .normal a' w) : ∀ ac, Frm 34 [(0, s_0), (1, s_1), (2, s_2), (5, .int .i64 (z))] ac → Code.wp Tryd.prog c_wv_r2 Q ac w := by
  refine fO (frame_wv ?_)
  intros
  rename_i hq
  iterate 4 (obtain ⟨e,hq⟩ := hq; obtain rfl := sI e; clear e)
  clear hq
  conv => arg 2; whnf
  by_cases h : 0 ≤ z
  · have t1 : decide (0 ≤ z) = true := by first | exact decide_eq_true (by omega) | exact beq_iff_eq.2 (by omega) | exact bne_iff_ne.2 (by omega)
    have t2 : (decide (0 ≤ z)) = true := decide_eq_true h
    rw [t2] at hN
    clear h
    replace hN := Lib.hid hN
    go_wp2_with fail
    exact hN.out _ (by exact fR rfl rfl rfl)
  · have t1 : decide (0 ≤ z) = false := by first | exact decide_eq_false (by omega) | exact beq_eq_false_iff_ne.2 (by omega) | exact bne_eq_false_iff_eq.2 (by omega)
    have t2 : (decide (0 ≤ z)) = false := decide_eq_false h
    rw [t2] at hN
    clear h
    replace hN := Lib.hid hN
    go_wp2_with fail
    exact hN.out _ (by exact fR rfl rfl rfl)
def c_wv_r4 := sp 99 549 cF82
theorem wv_r4_wp {y : ByteArray} (hk : k < me) (hge : w.heap[ge]? = some (.cells #[.slice (some ⟨b, o, none⟩) me ee] 71 (0, 0))) (e0 : w.cell? ⟨b, o + k * 2, none⟩ = some (.string y)) (hbl : b < w.heap.size) (hN : ∀ a', Frm 34 [(0, .string x), (1, .pointer (some ⟨ge, 0, none⟩)), (2, s_2), (5, .int .i64 ((k : Nat))), (21, .bool (decide (y = x)))] a' → Q .normal a' w) : ∀ ac, Frm 34 [(0, .string x), (1, .pointer (some ⟨ge, 0, none⟩)), (2, s_2), (5, .int .i64 ((k : Nat)))] ac → Code.wp Tryd.prog c_wv_r4 Q ac w := by
  refine fO (frame_wv ?_)
  intros
  rename_i hq
  iterate 4 (obtain ⟨e,hq⟩ := hq; obtain rfl := sI e; clear e)
  clear hq
  conv => arg 2; whnf
  have q0 : (0 : Int) ≤ (k : Int) := by omega
  have q1 : (k : Int) < (me : Int) := by omega
  have g0 := cellv hge 0 rfl
  have gl := lt_heap hge
  clear hge
  by_cases hy : y = x
  · have t1 : (y.toList == x.toList) = true := by rw [hy]; exact beq_self_eq_true _
    rw [decide_eq_true hy] at hN
    clear hy
    replace hN := Lib.hid hN
    go_wp2_with fail
    exact hN.out _ (by exact fR rfl rfl rfl)
  · have t1 : (y.toList == x.toList) = false := beq_eq_false_iff_ne.2 (fun e => hy (bytes_inj e))
    rw [decide_eq_false hy] at hN
    clear hy
    replace hN := Lib.hid hN
    go_wp2_with fail
    exact hN.out _ (by exact fR rfl rfl rfl)
def c_wv_r5 := sp 99 2341 cF82
theorem wv_r5_wp (hk : k < me) (hge : w.heap[ge]? = some (.cells #[.slice (some ⟨b, o, none⟩) me ee] 71 (0, 0))) (e1 : w.cell? ⟨b, o + k * 2 + 1, none⟩ = some (.int .i64 v)) (hbl : b < w.heap.size) (hN : ∀ a', Frm 34 [(4, .int .i64 v)] a' → Q .normal a' w) : ∀ ac, Frm 34 [(0, s_0), (1, .pointer (some ⟨ge, 0, none⟩)), (2, s_2), (5, .int .i64 ((k : Nat)))] ac → Code.wp Tryd.prog c_wv_r5 Q ac w := by
  refine fO (frame_wv ?_)
  intros
  rename_i hq
  iterate 4 (obtain ⟨e,hq⟩ := hq; obtain rfl := sI e; clear e)
  clear hq
  conv => arg 2; whnf
  have q0 : (0 : Int) ≤ (k : Int) := by omega
  have q1 : (k : Int) < (me : Int) := by omega
  have g0 := cellv hge 0 rfl
  have gl := lt_heap hge
  clear hge
  replace hN := Lib.hid hN
  go_wp2_with fail
  exact hN.out _ (id ⟨rfl, rfl, rfl, trivial⟩)
def c_wv_r3 := sp 99 229 cF82
theorem wv_r3_wp (hz0 : 0 ≤ z) (hz1 : z ≤ 1000000) (hN : ∀ a', Frm 34 [(0, s_0), (1, s_1), (2, s_2), (5, .int .i64 (z - 1))] a' → Q .normal a' w) : ∀ ac, Frm 34 [(0, s_0), (1, s_1), (2, s_2), (5, .int .i64 (z))] ac → Code.wp Tryd.prog c_wv_r3 Q ac w := by
  refine fO (frame_wv ?_)
  intros
  rename_i hq
  iterate 4 (obtain ⟨e,hq⟩ := hq; obtain rfl := sI e; clear e)
  clear hq
  conv => arg 2; whnf
  have q1 : z ≤ 1000000 := by omega
  have q2 : 0 ≤ z := by omega
  replace hN := Lib.hid hN
  go_wp2_with fail
  exact hN.out _ (by exact fR rfl rfl rfl)
def c_wv_r6 := sp 99 11 cF82
theorem wv_r6_wp {bb : Bool} {Am Bm : Option Addr} {nm1 cm nm2 dm : Nat} {gm : Nat} (hgm : w.heap[gm]? = some (.cells #[.int .i64 z, .slice Am nm1 cm, .slice Bm nm2 dm] 25 (0, 0))) (hc : Calls Tryd.prog 79 #[.agg #[.int .i64 z, .slice Am nm1 cm, .slice Bm nm2 dm], .string x] w fun e w' => e = .returned (.tuple #[.int .i64 v, .bool bb]) ∧ Below w.heap.size w w') (hN : ∀ a' w', Frm 34 [(6, .int .i64 v)] a' → Below w.heap.size w w' → Q .normal a' w') : ∀ ac, Frm 34 [(0, .string x), (1, s_1), (2, .pointer (some ⟨gm, 0, none⟩))] ac → Code.wp Tryd.prog c_wv_r6 Q ac w := by
  refine fO (frame_wv ?_)
  intros
  rename_i hq
  iterate 3 (obtain ⟨e,hq⟩ := hq; obtain rfl := sI e; clear e)
  clear hq
  conv => arg 2; whnf
  have m0 := cellv hgm 0 rfl
  have m1 := cellv hgm 1 rfl
  have m2 := cellv hgm 2 rfl
  have ml := lt_heap hgm
  clear hgm
  have HN := Lib.hid hN
  have HC := Lib.hid hc
  clear hN hc
  go_wp2_with fail
  (with_reducible refine HC.out.mono ?_)
  rintro e w1 ⟨rfl, hb1⟩
  replace hb1 := Lib.hid hb1
  go_wp2_with fail
  exact HN.out _ _ (id ⟨rfl, rfl, rfl, trivial⟩) hb1.out
def c_wv_r7 := sp 99 23 cF82
theorem wv_r7_wp (hN : ∀ a', Frm 34 [(4, .int .i64 v)] a' → Q .normal a' w) : ∀ ac, Frm 34 [(6, .int .i64 v)] ac → Code.wp Tryd.prog c_wv_r7 Q ac w := by
  refine fO (frame_wv ?_)
  intros
  rename_i hq
  iterate 1 (obtain ⟨e,hq⟩ := hq; obtain rfl := sI e; clear e)
  clear hq
  conv => arg 2; whnf
  replace hN := Lib.hid hN
  go_wp2_with fail
  exact hN.out _ (id ⟨rfl, rfl, rfl, trivial⟩)
theorem wv_ret_wp {R : Ending → World → Prop} {w' : World} (hR : R (.returned (.int .i64 v)) w') : ∀ ac, Frm 34 [(4, .int .i64 v)] ac → bodyPost Tryd.prog Tryd.f82 R .ret ac w' := by
  refine fO (frame_wv ?_)
  intros
  rename_i hq
  iterate 1 (obtain ⟨e,hq⟩ := hq; obtain rfl := sI e; clear e)
  clear hq
  refine bodyPost_ret (v := .int .i64 v) (by simp [results, Tryd.results82, go_sem]) rfl ?_
  exact hR
def envRep : Rep (ByteArray × Int) where
  size := 2
  R _ _ a cs := cs = [.string a.1, .int .i64 a.2]
  pos := by omega
  len := by rintro w S a cs rfl; rfl
  one := by
    rintro w S a cs rfl u hu
    simp at hu; rcases hu with rfl | rfl <;> rfl
  keep := by rintro w w' S S' a cs h _ _; exact h
theorem env_at {S : Nat → Prop} {A : Option Addr} {n c j : Nat} {l : List (ByteArray × Int)} (h : envRep.Sl w S (.slice A n c) l) (hj : j < l.length) : ∃ b o, A = some ⟨b, o, none⟩ ∧ S b ∧ w.cell? ⟨b, o + j * 2, none⟩ = some (.string l[j].1) ∧ w.cell? ⟨b, o + j * 2 + 1, none⟩ = some (.int .i64 l[j].2) := by
  obtain ⟨b, o, cs, hA, hSb, hx, hcell⟩ := Rep.Sl.at_ h (k := j) (a := l[j]) (by simp [hj])
  subst hx
  exact ⟨b, o, hA, hSb, hcell 0 _ rfl, hcell 1 _ rfl⟩
theorem envV_take (l : List (ByteArray × Int)) (x : ByteArray) (k : Nat) (h : k < l.length) : envV (l.take (k + 1)) x = if l[k].1 = x then some l[k].2 else envV (l.take k) x := by
  rw [List.take_succ_eq_append_getElem h]
  exact envV_snoc _ _ _ _
theorem word_any (m : Md) (hg : m.good) (env : List (ByteArray × Int)) (x : ByteArray) (w : World) (S : Nat → Prop) {ge gm : Nat} {De : Option Addr} {me ee : Nat} {Am Bm : Option Addr} {cm dm : Nat} (he : envRep.Sl w S (.slice De me ee) env) (hel : env.length ≤ 1000) (hS : ∀ b, S b → b < w.heap.size) (hm : m.In w S [.int .i64 m.sz, .slice Am m.cs.length cm, .slice Bm m.rs.length dm]) (hge : w.heap[ge]? = some (.cells #[.slice De me ee] 71 (0, 0))) (hgm : w.heap[gm]? = some (.cells #[.int .i64 m.sz, .slice Am m.cs.length cm, .slice Bm m.rs.length dm] 25 (0, 0))) :
    Calls Tryd.prog 82 #[.string x, .pointer (some ⟨ge, 0, none⟩), .pointer (some ⟨gm, 0, none⟩)] w fun e w' => e = .returned (.int .i64 (wordV m env x)) ∧ Below w.heap.size w w' := by
  obtain ⟨_, _, _, eq, hme, _⟩ := id he
  simp only [Value.slice.injEq] at eq
  obtain ⟨rfl, rfl, rfl⟩ := eq
  have hme2 : me = env.length := by omega
  go_enter Tryd.func82, Tryd.ntmps82
  refine wp_seq ?_
  refine wv_r0_wp (fun a0 h0 => ?_) _ (by exact fR rfl rfl rfl)
  refine wp_seq ?_
  refine wp_seq ?_
  refine wv_r1_wp (by omega) hge (fun a1 h1 => ?_) a0 h0
  refine wp_block ?_
  refine wp_loopR (fun g a' w' => ∃ i : Nat, g = i ∧ i ≤ env.length ∧ w' = w ∧ envV env x = envV (env.take i) x ∧ Frm 34 [(0, .string x), (1, .pointer (some ⟨ge, 0, none⟩)), (2, .pointer (some ⟨gm, 0, none⟩)), (5, .int .i64 ((i : Int) - 1))] a') env.length ⟨env.length, rfl, Nat.le_refl _, rfl, by rw [List.take_of_length_le (Nat.le_refl _)], by rw [← hme2]; exact h1⟩ ?_
  rintro g a2 w2 ⟨i, rfl, hil, rfl, hv, h2⟩
  refine wp_seq ?_
  refine wp_seq ?_
  refine wv_r2_wp (fun a3 h3 => ?_) a2 h2
  by_cases hz : (0 : Int) ≤ (g : Int) - 1
  case neg =>
    refine wp_cond_false ((h3.eval (k := 12) (v := .bool (decide ((0 : Int) ≤ (g : Int) - 1))) (by simp)).trans (by rw [decide_eq_false hz])) ?_
    refine wp_exit ?_
    repeat refine then_exit ?_
    refine inBlock_exit ?_
    show Code.wp _ _ _ a3 w2
    have hg0 : g = 0 := by omega
    subst hg0
    refine wp_seq ?_
    refine wv_r6_wp hgm (constant_any m x _ w2 S hm hS hg) (fun a4 w4 h4 hb4 => ?_) a3 (h3.pick [0,1,2])
    refine wp_seq ?_
    refine wv_r7_wp (fun a5 h5 => ?_) a4 h4
    refine wp_ret ?_
    refine wv_ret_wp ⟨?_, hb4⟩ a5 h5
    unfold wordV
    rw [hv]; rfl
  refine wp_cond_true ((h3.eval (k := 12) (v := .bool (decide ((0 : Int) ≤ (g : Int) - 1))) (by simp)).trans (by rw [decide_eq_true hz])) ?_
  refine wp_skip ?_
  show Code.wp _ _ _ a3 w2
  obtain ⟨k, rfl⟩ : ∃ k, g = k + 1 := ⟨g - 1, by omega⟩
  have hkl : k < env.length := by omega
  obtain ⟨b, o, rfl, hSb, e0, e1⟩ := env_at he hkl
  have hzk : ((k + 1 : Nat) : Int) - 1 = (k : Nat) := by omega
  rw [hzk] at h3
  refine wp_seq ?_
  refine wp_block ?_
  refine wp_seq ?_
  refine wv_r4_wp (by omega) hge e0 (hS b hSb) (fun a4 h4 => ?_) a3 (h3.pick [0,1,2,3])
  have htk := envV_take env x k hkl
  by_cases hy : env[k].1 = x
  · refine wp_cond_true ((h4.eval (k := 21) (v := .bool (decide (env[k].1 = x))) (by simp)).trans (by rw [decide_eq_true hy])) ?_
    refine wp_seq ?_
    refine wv_r5_wp (by omega) hge e1 (hS b hSb) (fun a5 h5 => ?_) a4 (h4.pick [0,1,2,3])
    refine wp_ret ?_
    repeat (first | refine thenR ?_ | refine inBlockR ?_)
    refine wv_ret_wp ⟨?_, Below.refl _ _⟩ a5 h5
    unfold wordV
    rw [hv, htk, if_pos hy]; rfl
  · refine wp_cond_false ((h4.eval (k := 21) (v := .bool (decide (env[k].1 = x))) (by simp)).trans (by rw [decide_eq_false hy])) ?_
    refine wp_skip ?_
    show Code.wp _ _ _ a4 w2
    refine wv_r3_wp (by omega) (by omega) (fun a5 h5 => ?_) a4 (h4.pick [0,1,2,3])
    exact ⟨k, by omega, k, rfl, by omega, rfl, by rw [hv, htk, if_neg hy], h5⟩
end

end Go.Proofs.YtflcbbikfdahhaaDoor
