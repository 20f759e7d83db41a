/-
  folform.canon's inner function: the next name that is free.
-/
import Derived.Test.YtdofemkfmkopcaaDoorFmNext
import Derived.Test.YtdofemkfmkopcaaDoorCnB
import Derived.Test.YtdofemkfmkopcaaDoorCrA
import Derived.Test.YtdofemkfmkopcaaDoorKeeps
import Derived.Sort.Grow
import Derived.Lib.ItoaMem
namespace Go.Proofs.YtdofemkfmkopcaaDoor
open Go Go.RowKit
set_option linter.unusedSimpArgs false
set_option linter.unusedVariables false

set_option maxRecDepth 1000000 in
theorem frame_nx {P : Act → Prop} (h : ∀ x0 x1 x2 x3 x4 x5 x6 x7 x8 x9 x10 x11 x12 x13 : Value, P ⟨(x0 :: x1 :: x2 :: x3 :: x4 :: x5 :: x6 :: x7 :: x8 :: x9 :: x10 :: x11 :: x12 :: x13 :: []).toArray, []⟩) : ∀ a : Act, a.tmps.toList.length = 14 → a.defers = [] → P a := by
  rintro ⟨⟨l⟩, d⟩ hs hd
  simp only at hd
  subst hd
  revert l
  show ∀ l : List Value, l.length = 14 → P ⟨⟨l⟩, []⟩
  refine openS (n := 13) (fun x0 => ?_)
  refine openS (n := 12) (fun x1 => ?_)
  refine openS (n := 11) (fun x2 => ?_)
  refine openS (n := 10) (fun x3 => ?_)
  refine openS (n := 9) (fun x4 => ?_)
  refine openS (n := 8) (fun x5 => ?_)
  refine openS (n := 7) (fun x6 => ?_)
  refine openS (n := 6) (fun x7 => ?_)
  refine openS (n := 5) (fun x8 => ?_)
  refine openS (n := 4) (fun x9 => ?_)
  refine openS (n := 3) (fun x10 => ?_)
  refine openS (n := 2) (fun x11 => ?_)
  refine openS (n := 1) (fun x12 => ?_)
  refine openS (n := 0) (fun x13 => ?_)
  refine open0 ?_
  exact h x0 x1 x2 x3 x4 x5 x6 x7 x8 x9 x10 x11 x12 x13
noncomputable def c_nx_r0 : Code := sub [0] (Tryd.f94.body.getD .skip)
set_option maxRecDepth 1000000 in
set_option maxHeartbeats 16000000 in
theorem nx_r0_wp {Q : Exit → Act → World → Prop} {bk bu : Nat} {w : World} (hN : ∀ a', Frm 14 [(0, .pointer (some ⟨bk, 0, none⟩)), (1, .pointer (some ⟨bu, 0, none⟩))] a' → Q .normal a' w) : ∀ ac, Frm 14 [(0, .pointer (some ⟨bk, 0, none⟩)), (1, .pointer (some ⟨bu, 0, none⟩))] ac → Code.wp Tryd.prog c_nx_r0 Q ac w := by
  refine frm_open ?_
  refine frame_nx ?_
  intros
  rename_i hq
  obtain ⟨-, -, e0q, e1q, -⟩ := hq
  obtain rfl := sI e0q
  obtain rfl := sI e1q
  conv => arg 2; whnf
  have HN := Lib.hid hN
  clear hN
  go_wp2_with fail
  exact HN.out _ (id ⟨rfl, rfl, rfl, rfl, trivial⟩)
noncomputable def c_nx_r1 : Code := sub [1, 0, 0, 0, 0] (Tryd.f94.body.getD .skip)
set_option maxRecDepth 1000000 in
set_option maxHeartbeats 16000000 in
theorem nx_r1_wp {Q : Exit → Act → World → Prop} {n : Nat} {d : ByteArray} {bk bu : Nat} {w : World} (hk : w.heap[bk]? = some (.cells #[.int .i64 (n : Nat)] 3 (0, 0))) (hd : d.size ≤ 100000) (hc : Calls Tryd.prog 95 #[.int .i64 (n : Nat)] w fun e w' => e = .returned (.string d) ∧ Below w.heap.size w w') (hN : ∀ a' w', Frm 14 [(0, .pointer (some ⟨bk, 0, none⟩)), (1, .pointer (some ⟨bu, 0, none⟩)), (3, .string ((⟨#[118]⟩ : ByteArray) ++ d))] a' → Below w.heap.size w w' → Q .normal a' w') : ∀ ac, Frm 14 [(0, .pointer (some ⟨bk, 0, none⟩)), (1, .pointer (some ⟨bu, 0, none⟩))] ac → Code.wp Tryd.prog c_nx_r1 Q ac w := by
  refine frm_open ?_
  refine frame_nx ?_
  intros
  rename_i hq
  obtain ⟨-, -, e0q, e1q, -⟩ := hq
  obtain rfl := sI e0q
  obtain rfl := sI e1q
  conv => arg 2; whnf
  have k0 := cellv hk 0 rfl
  have kl := lt_heap hk
  have t1 : ¬ 9223372036854775807 < 1 + d.size := by omega
  clear hk
  have HN := Lib.hid hN
  have HC := Lib.hid hc
  clear hN hc
  go_wp2_with fail
  (with_reducible refine HC.out.mono ?_)
  rintro e w1 ⟨rfl, hb1⟩
  have HB1 := Lib.hid hb1
  clear hb1
  go_wp2_with fail
  exact HN.out _ _ (id ⟨rfl, rfl, rfl, rfl, rfl, trivial⟩) HB1.out
noncomputable def c_nx_r2 : Code := sub [1, 0, 0, 0, 1, 0] (Tryd.f94.body.getD .skip)
set_option maxRecDepth 1000000 in
set_option maxHeartbeats 16000000 in
theorem nx_r2_wp {Q : Exit → Act → World → Prop} {n : Nat} {s : ByteArray} {bk bu : Nat} {w : World} (hk : w.heap[bk]? = some (.cells #[.int .i64 (n : Nat)] 3 (0, 0))) (hn : n ≤ 50000000) (hN : ∀ a', Frm 14 [(0, .pointer (some ⟨bk, 0, none⟩)), (1, .pointer (some ⟨bu, 0, none⟩)), (3, .string s)] a' → Q .normal a' (w.setCell ⟨bk, 0, none⟩ (.int .i64 ((n : Int) + 1)))) : ∀ ac, Frm 14 [(0, .pointer (some ⟨bk, 0, none⟩)), (1, .pointer (some ⟨bu, 0, none⟩)), (3, .string s)] ac → Code.wp Tryd.prog c_nx_r2 Q ac w := by
  refine frm_open ?_
  refine frame_nx ?_
  intros
  rename_i hq
  obtain ⟨-, -, e0q, e1q, e2q, -⟩ := hq
  obtain rfl := sI e0q
  obtain rfl := sI e1q
  obtain rfl := sI e2q
  conv => arg 2; whnf
  have k0 := cellv hk 0 rfl
  have kf := free_heap hk 0
  have kl := lt_heap hk
  have hn4 : (n : Int) ≤ 50000000 := by omega
  clear hk
  have HN := Lib.hid hN
  clear hN
  go_wp2_with fail
  exact HN.out _ (id ⟨rfl, rfl, rfl, rfl, rfl, trivial⟩)
noncomputable def c_nx_r3 : Code := sub [1, 0, 0, 0, 1, 1, 0] (Tryd.f94.body.getD .skip)
set_option maxRecDepth 1000000 in
set_option maxHeartbeats 16000000 in
theorem nx_r3_wp {Q : Exit → Act → World → Prop} {v : Value} {bb : Bool} {s : ByteArray} {bk bu : Nat} {w : World} (hu : w.heap[bu]? = some (.cells #[v] 22 (0, 0))) (hc : Calls Tryd.prog 60 #[v, .string s] w fun e w' => e = .returned (.bool bb) ∧ w' = w) (hN : ∀ a', Frm 14 [(0, .pointer (some ⟨bk, 0, none⟩)), (1, .pointer (some ⟨bu, 0, none⟩)), (3, .string s), (12, .bool (!bb))] a' → Q .normal a' w) : ∀ ac, Frm 14 [(0, .pointer (some ⟨bk, 0, none⟩)), (1, .pointer (some ⟨bu, 0, none⟩)), (3, .string s)] ac → Code.wp Tryd.prog c_nx_r3 Q ac w := by
  refine frm_open ?_
  refine frame_nx ?_
  intros
  rename_i hq
  obtain ⟨-, -, e0q, e1q, e2q, -⟩ := hq
  obtain rfl := sI e0q
  obtain rfl := sI e1q
  obtain rfl := sI e2q
  conv => arg 2; whnf
  have u0 := cellv hu 0 rfl
  have ul := lt_heap hu
  clear hu
  have HN := Lib.hid hN
  have HC := Lib.hid hc
  clear hN hc
  go_wp2_with fail
  (with_reducible refine HC.out.mono ?_)
  rintro e w1 ⟨rfl, rfl⟩
  go_wp2_with fail
  exact HN.out _ (id ⟨rfl, rfl, rfl, rfl, rfl, rfl, trivial⟩)
noncomputable def c_nx_r4 : Code := sub [1, 0, 0, 0, 1, 1, 1, 0, 0] (Tryd.f94.body.getD .skip)
set_option maxRecDepth 1000000 in
set_option maxHeartbeats 16000000 in
theorem nx_r4_wp {Q : Exit → Act → World → Prop} {s : ByteArray} {bk bu : Nat} {w : World} (hN : ∀ a', Frm 14 [(2, .string s)] a' → Q .normal a' w) : ∀ ac, Frm 14 [(0, .pointer (some ⟨bk, 0, none⟩)), (1, .pointer (some ⟨bu, 0, none⟩)), (3, .string s)] ac → Code.wp Tryd.prog c_nx_r4 Q ac w := by
  refine frm_open ?_
  refine frame_nx ?_
  intros
  rename_i hq
  obtain ⟨-, -, e0q, e1q, e2q, -⟩ := hq
  obtain rfl := sI e0q
  obtain rfl := sI e1q
  obtain rfl := sI e2q
  conv => arg 2; whnf
  have HN := Lib.hid hN
  clear hN
  go_wp2_with fail
  exact HN.out _ (id ⟨rfl, rfl, rfl, trivial⟩)
set_option maxRecDepth 1000000 in
theorem nx_ret_wp {R : Ending → World → Prop} {w' : World} {s : ByteArray} (hR : R (.returned (.string s)) w') : ∀ ac, Frm 14 [(2, .string s)] ac → bodyPost Tryd.prog Tryd.f94 R .ret ac w' := by
  refine frm_open ?_
  refine frame_nx ?_
  intros
  rename_i hq
  obtain ⟨-, -, e0q, -⟩ := hq
  obtain rfl := sI e0q
  refine bodyPost_ret (v := .string s) (by simp [results, Tryd.results94, go_sem]) rfl ?_
  exact hR
theorem below_grow (w : World) (k : Nat) (os : Array Obj) : Below w.heap.size w (Sort.grow (w.drewN k) os) :=
  ⟨rfl, rfl, rfl, by simp [Sort.grow, World.drewN], fun i hi => Sort.heap_grow_old (w.drewN k) os hi⟩
/-- strconv.Itoa, the table being laid. -/
theorem itoa_any (n : Nat) (hn : n ≤ 1000000000) (w : World) (ht : Lib.TabIs Tryd.prog w "internal/strconv.uint64pow10" .u64 Lib.pow10Tab) : Calls Tryd.prog 95 #[.int .i64 (n : Nat)] w fun e w' => e = .returned (.string ⟨(Lib.decDigits n).toArray⟩) ∧ Below w.heap.size w w' := by
  refine (Tryd.strconv_Itoa (n : Int) (by omega) (by omega) w ht).mono ?_
  rintro e w' ⟨rfl, k, os, rfl⟩
  rw [Lib.itoa_nonneg]
  exact ⟨rfl, below_grow w k os⟩
theorem dec_len : ∀ (N n : Nat), n ≤ N → (Lib.decDigits n).length ≤ n + 1 := by
  intro N
  induction N with
  | zero => intro n h; rw [Lib.decDigits, dif_pos (by omega)]; simp
  | succ N ih =>
    intro n h
    by_cases h10 : n < 10
    · rw [Lib.decDigits, dif_pos h10]; simp
    · rw [Lib.decDigits, dif_neg h10, List.length_append]
      have := ih (n / 10) (by omega)
      simp only [List.length_singleton]
      omega
theorem vB_eq (n : Nat) : (⟨#[118]⟩ : ByteArray) ++ ⟨(Lib.decDigits n).toArray⟩ = vB n := by
  refine dat_inj ?_
  unfold vB
  rw [dat_mk]
  simp [dat, ByteArray.data_append]
set_option maxRecDepth 100000 in
set_option maxHeartbeats 4000000 in
/-- The next free name. -/
theorem next_any {u : List ByteArray} {n bk bu : Nat} {w : World} {v : Value} {S : Nat → Prop} (hk : w.heap[bk]? = some (.cells #[.int .i64 (n : Nat)] 3 (0, 0))) (hu : w.heap[bu]? = some (.cells #[v] 22 (0, 0))) (hne : bu ≠ bk) (hv : strRep.Sl w S v u) (hS : ∀ k, S k → k < w.heap.size ∧ k ≠ bk) (hn : n + u.length ≤ 90000) (ht : ∀ W, Keeps (· = bk) w W → Lib.TabIs Tryd.prog W "internal/strconv.uint64pow10" .u64 Lib.pow10Tab) :
    Calls Tryd.prog 94 #[.pointer (some ⟨bk, 0, none⟩), .pointer (some ⟨bu, 0, none⟩)] w fun e w' => e = .returned (.string (vB (nextV u n))) ∧ w'.heap[bk]? = some (.cells #[.int .i64 ((nextV u n + 1 : Nat) : Int)] 3 (0, 0)) ∧ Keeps (· = bk) w w' := by
  obtain ⟨D, m, c, rfl, _, _, _⟩ := id hv
  have hle := nextV_le u n
  go_enter Tryd.func94, Tryd.ntmps94
  refine wp_seq ?_
  refine nx_r0_wp (fun a0 h0 => ?_) _ (id ⟨rfl, rfl, rfl, rfl, trivial⟩)
  refine wp_block ?_
  refine wp_loopR (fun g a' w' => ∃ j : Nat, j + g = nextV u n ∧ nextV u j = nextV u n ∧ w'.heap[bk]? = some (.cells #[.int .i64 (j : Nat)] 3 (0, 0)) ∧ Keeps (· = bk) w w' ∧ Frm 14 [(0, .pointer (some ⟨bk, 0, none⟩)), (1, .pointer (some ⟨bu, 0, none⟩))] a') (nextV u n - n) ⟨n, by have := nextV_ge u n; omega, rfl, hk, Keeps.refl _ _, h0⟩ ?_
  rintro g a1 w1 ⟨j, hjg, hjn, hk1, hw1, h1⟩
  have hlen : ((⟨(Lib.decDigits j).toArray⟩ : ByteArray)).size ≤ 100000 := by
    have := dec_len j j (Nat.le_refl _)
    simp [ByteArray.size]; omega
  refine wp_block ?_
  refine wp_seq ?_
  refine nx_r1_wp hk1 hlen (itoa_any j (by omega) w1 (ht w1 hw1)) (fun a2 w2 h2 hb2 => ?_) a1 h1
  rw [vB_eq] at h2
  have hk2 := (hb2.block _ (lt_heap hk1)).trans hk1
  refine wp_seq ?_
  refine nx_r2_wp hk2 (by omega) (fun a3 h3 => ?_) a2 h2
  have hk3 : (w2.setCell ⟨bk, 0, none⟩ (.int .i64 ((j : Int) + 1))).heap[bk]? = some (.cells #[.int .i64 ((j + 1 : Nat) : Int)] 3 (0, 0)) := by
    have := heap_set hk2 0 (.int .i64 ((j : Int) + 1))
    simpa using this
  have hw3 : Keeps (· = bk) w (w2.setCell ⟨bk, 0, none⟩ (.int .i64 ((j : Int) + 1))) := (hw1.trans (Below.keeps hb2 _)).set (b := bk) (Or.inl rfl) 0 _
  have hu3 := (hw3.block bu (lt_heap hu) hne).trans hu
  have hcon := contains_any (hv.keep (fun k hk => hw3.block k (hS k hk).1 (hS k hk).2) (fun _ h => h)) (vB j)
  refine wp_seq ?_
  refine nx_r3_wp hu3 hcon (fun a4 h4 => ?_) a3 h3
  cases hb : hasB u (vB j)
  · rw [hb] at h4
    refine wp_cond_true ((h4.eval (k := 12) (v := .bool (!false)) (by simp)).trans (by rw [show (!false) = true from rfl])) ?_
    refine wp_seq ?_
    refine nx_r4_wp (fun a5 h5 => ?_) a4 ⟨h4.1, h4.2.1, h4.2.2.1, h4.2.2.2.1, h4.2.2.2.2.1, trivial⟩
    refine wp_ret ?_
    repeat (first | refine then_ret ?_ | refine inBlock_ret ?_)
    have hnx : nextV u n = j := by
      rw [← hjn]
      exact nextV_stop (fun hm => by rw [hasB_iff.2 hm] at hb; cases hb)
    refine nx_ret_wp ?_ a5 h5
    rw [hnx]
    exact ⟨rfl, hk3, hw3⟩
  · rw [hb] at h4
    refine wp_cond_false ((h4.eval (k := 12) (v := .bool (!true)) (by simp)).trans (by rw [show (!true) = false from rfl])) ?_
    refine wp_skip ?_
    have hst := nextV_step (hasB_iff.1 hb)
    exact ⟨g - 1, by rw [hjn] at hst; omega, j + 1, by rw [hjn] at hst; omega, by rw [← hst.1, hjn], hk3, hw3, ⟨h4.1, h4.2.1, h4.2.2.1, h4.2.2.2.1, trivial⟩⟩

end Go.Proofs.YtdofemkfmkopcaaDoor
