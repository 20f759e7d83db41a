/-
  (*simple.Reader).part: the walk.
-/
import Derived.Test.YtnoceodmnjhljaaDoorPart
namespace Go.Proofs.YtnoceodmnjhljaaDoor
open Go Go.RowKit
set_option linter.unusedSimpArgs false
set_option linter.unusedVariables false

/-- What part leaves. -/
def PartAt (x : ByteArray) (r nb k : Nat) (s : St) (w : World) (e : Ending) (w' : World) : Prop :=
  ∃ v0 v1, e = .returned (.agg #[v0, v1]) ∧ (partF x k s).1.In w' (Fresh w w') v0 v1 ∧ RdAt w' r x (partF x k s).2.i (partF x k s).2.c (partF x k s).2.j ∧ w'.heap[nb]? = some (.cells #[.int .i64 (partF x k s).2.n] 3 (0, 0)) ∧ Keeps (fun b => b = r ∨ b = nb) w w'

theorem zero_fresh (w w' : World) : zeroTy.In w' (Fresh w w') (.string ⟨#[]⟩) (.slice none 0 0) := Ty.In.mk_ (by decide +kernel) rfl (by omega) (by omega)

theorem takeAt_F {w : World} {r : Nat} {x : ByteArray} {s : St} {b : Nat} (h : TakeAt w r x s.i s.c s.j b) : RdAt w r x (takeF x s b).i (takeF x s b).c (takeF x s b).j := by
  unfold TakeAt at h
  unfold takeF
  by_cases hc : s.c = 0
  · rw [if_pos hc] at h ⊢
    by_cases hb : byteAt x s.i = b
    · rw [if_pos hb] at h ⊢; simpa [hc] using h
    · rw [if_neg hb] at h ⊢; exact h
  · rw [if_neg hc] at h ⊢; exact h
theorem takeF_n (x : ByteArray) (s : St) (b : Nat) : (takeF x s b).n = s.n := by
  unfold takeF
  split
  · split <;> rfl
  · rfl
theorem Fresh.far {w w' : World} {r : Nat} (hr : r < w.heap.size) : ∀ b, Fresh w w' b → b ≠ r := by
  rintro b ⟨h, _⟩; omega

set_option maxRecDepth 100000 in
set_option maxHeartbeats 4000000 in
theorem part_any (x : ByteArray) (hx : x.size ≤ 4000) : ∀ (k d : Nat) (s : St) (r nb : Nat) (w : World), d + k = 41 → RdAt w r x s.i s.c s.j → w.heap[nb]? = some (.cells #[.int .i64 s.n] 3 (0, 0)) → r ≠ nb → s.fits x →
    Calls Tryd.prog 50 #[.pointer (some ⟨r, 0, none⟩), .pointer (some ⟨nb, 0, none⟩), .int .i64 d] w (PartAt x r nb k s w) := by
  intro k
  induction k with
  | zero =>
    intro d s r nb w hd hr hn hne hfit
    obtain ⟨i, c, j, n⟩ := s
    obtain ⟨f1, f2, f3, f4, f5⟩ := hfit
    simp only at f1 f2 f3 f4 f5 hr hn
    have HR := Lib.hid hr
    have HN := Lib.hid hn
    have c0 := cellv hr 0 rfl
    have c1 := cellv hr 1 rfl
    have c2 := cellv hr 2 rfl
    have c3 := cellv hr 3 rfl
    have d1 := free_heap hr 1
    have l1 := lt_heap hr
    have n0 := cellv hn 0 rfl
    have n1 := free_heap hn 0
    have l2 := lt_heap hn
    have Hx := Lib.hid hx
    clear hr hn hx
    by_cases hc : c = 0
    case neg =>
      have hc' : ((c : Int) != 0) = true := by rw [bne_iff_ne]; omega
      have hfin : ∀ w', Keeps (fun b => b = r ∨ b = nb) w w' → RdAt w' r x i c j → w'.heap[nb]? = some (.cells #[.int .i64 n] 3 (0, 0)) → PartAt x r nb 0 ⟨i, c, j, n⟩ w (.returned (.agg #[.string ⟨#[]⟩, .slice none 0 0])) w' := by
        intro w' h1 h2 h3
        unfold PartAt
        rw [partF_c x _ _ hc]
        exact ⟨_, _, rfl, zero_fresh _ _, h2, h3, h1⟩
      have HF := Lib.hid hfin
      clear hfin
      go_enter Tryd.func50, Tryd.ntmps50
      go_wp2_with fail
      refine bodyPost_ret (v := .agg #[.string ⟨#[]⟩, .slice none 0 0]) (by simp [results, Tryd.results50, go_sem]) rfl ?_
      exact HF.out _ ((Keeps.refl _ _).alloc _) (heap_old l1 HR.out) (heap_old l2 HN.out)
    subst hc
    by_cases hb : byteAt x i = 101 ∨ byteAt x i = 116 ∨ byteAt x i = 40
    case neg =>
      have g1 : ((byteAt x i : Int) == 101) = false := beq_eq_false_iff_ne.2 (by omega)
      have g2 : ((byteAt x i : Int) == 116) = false := beq_eq_false_iff_ne.2 (by omega)
      have g3 : ((byteAt x i : Int) == 40) = false := beq_eq_false_iff_ne.2 (by omega)
      have hfin : ∀ w', Keeps (fun b => b = r ∨ b = nb) w w' → RdAt w' r x i 11 i → w'.heap[nb]? = some (.cells #[.int .i64 n] 3 (0, 0)) → PartAt x r nb 0 ⟨i, 0, j, n⟩ w (.returned (.agg #[.string ⟨#[]⟩, .slice none 0 0])) w' := by
        intro w' h1 h2 h3
        unfold PartAt partF
        rw [if_pos rfl, if_neg hb]
        exact ⟨_, _, rfl, zero_fresh _ _, h2, h3, h1⟩
      have HF := Lib.hid hfin
      clear hfin hb
      go_enter Tryd.func50, Tryd.ntmps50
      go_wp2_with fail
      refine (peek_any r x i 0 j _ (heap_old l1 HR.out)).mono ?_
      rintro e w1 ⟨rfl, hw1, hs1⟩
      have k1 := Lib.hid ((hw1.block r (by go_size)).trans (heap_old l1 HR.out))
      have k2 := Lib.hid ((hw1.block nb (by go_size)).trans (heap_old l2 HN.out))
      have k3 := Lib.hid ((hw1.block w.heap.size (by go_size)).trans (heap_at rfl))
      have p0 := cellv k1.out 0 rfl
      have p1 := cellv k1.out 1 rfl
      have p3 := lt_heap k1.out
      have z1 : w1.heap.size = w.heap.size + 1 := by simpa using hs1
      have HW1 := Lib.hid hw1
      clear hw1 hs1
      go_wp2_with fail
      refine (fail_any r x i 0 j 11 i _ k1.out).mono ?_
      rintro e w2 ⟨rfl, hr2, hk2, hs2⟩
      rw [if_pos rfl] at hr2
      have HR2 := Lib.hid hr2
      have HN2 := Lib.hid ((hk2.block nb (lt_heap k2.out) (fun e => hne e.symm)).trans k2.out)
      have q := (hk2.block w.heap.size (by omega) (by omega)).trans k3.out
      have q0 := cellv q 0 rfl
      have q1 := cellv q 1 rfl
      have q2 := free_heap q 0
      have q3 := free_heap q 1
      have q4 := lt_heap q
      have HK2 := Lib.hid hk2
      clear hr2 hk2 q
      go_wp2_with fail
      refine bodyPost_ret (v := .agg #[.string ⟨#[]⟩, .slice none 0 0]) (by simp [results, Tryd.results50, go_sem, q0, q1]) rfl ?_
      refine HF.out _ ?_ (heap_far _ (by omega) (heap_far _ (by omega) HR2.out)) (heap_far _ (by omega) (heap_far _ (by omega) HN2.out))
      exact (((((Keeps.refl _ _).alloc _).step (Below.keeps HW1.out (fun _ => False)) (fun _ h => h.elim)).step HK2.out (fun i h => Or.inl (Or.inl h))).set (Or.inr (Nat.le_refl _)) _ _).set (Or.inr (Nat.le_refl _)) _ _
    have hlt := byteAt_lt (x := x) (i := i) (by omega)
    have hi4 : i ≤ 4000 := by have := Hx.out; omega
    have ue : Utf8.encode 101 = bE := by decide +kernel
    have ut : Utf8.encode 116 = bT := by decide +kernel
    · have hfin : ∀ w', Keeps (fun b => b = r ∨ b = nb) w w' → RdAt w' r x i 1 i → w'.heap[nb]? = some (.cells #[.int .i64 (n + 1 : Nat)] 3 (0, 0)) → PartAt x r nb 0 ⟨i, 0, j, n⟩ w (.returned (.agg #[.string ⟨#[]⟩, .slice none 0 0])) w' := by
        intro w' h1 h2 h3
        unfold PartAt partF
        rw [if_pos rfl, if_pos hb]
        exact ⟨_, _, rfl, zero_fresh _ _, h2, h3, h1⟩
      have HF := Lib.hid hfin
      clear hfin
      go_enter Tryd.func50, Tryd.ntmps50
      go_wp2_with fail
      refine (peek_any r x i 0 j _ (heap_old l1 HR.out)).mono ?_
      rintro e w1 ⟨rfl, hw1, hs1⟩
      have k1 := Lib.hid ((hw1.block r (by go_size)).trans (heap_old l1 HR.out))
      have k2 := Lib.hid ((hw1.block nb (by go_size)).trans (heap_old l2 HN.out))
      have k3 := Lib.hid ((hw1.block w.heap.size (by go_size)).trans (heap_at rfl))
      have p0 := cellv k1.out 0 rfl
      have p1 := cellv k1.out 1 rfl
      have p3 := lt_heap k1.out
      have m0 := cellv k2.out 0 rfl
      have m1 := free_heap k2.out 0
      have m2 := lt_heap k2.out
      have z1 : w1.heap.size = w.heap.size + 1 := by simpa using hs1
      have HW1 := Lib.hid hw1
      clear hw1 hs1
      rcases hb with hb | hb | hb
      all_goals
        rw [hb]
        go_wp2_with fail
        all_goals
          refine (fail_any r x i 0 j 1 i (w1.setCell ⟨nb, 0, none⟩ (.int .i64 ((n : Int) + 1))) (heap_far _ hne k1.out)).mono ?_
          rintro e w2 ⟨rfl, hr2, hk2, hs2⟩
          rw [if_pos rfl] at hr2
          have HR2 := Lib.hid hr2
          have HN2 := Lib.hid ((hk2.block nb (by rw [size_set]; exact lt_heap k2.out) (fun e => hne e.symm)).trans (heap_set k2.out 0 (.int .i64 ((n : Int) + 1))))
          have q := (hk2.block w.heap.size (by rw [size_set]; omega) (by omega)).trans (heap_far _ (by omega) k3.out)
          have q0 := cellv q 0 rfl
          have q1 := cellv q 1 rfl
          have q2 := free_heap q 0
          have q3 := free_heap q 1
          have q4 := lt_heap q
          have HK2 := Lib.hid hk2
          clear hr2 hk2 q
          go_wp2_with fail
          refine bodyPost_ret (v := .agg #[.string ⟨#[]⟩, .slice none 0 0]) (by simp [results, Tryd.results50, go_sem, q0, q1]) rfl ?_
          refine HF.out _ ?_ (heap_far _ (by omega) (heap_far _ (by omega) HR2.out)) (heap_far _ (by omega) (heap_far _ (by omega) (by simpa using HN2.out)))
          exact ((((((Keeps.refl _ _).alloc _).step (Below.keeps HW1.out (fun _ => False)) (fun _ h => h.elim)).set (Or.inl (Or.inr rfl)) 0 _).step HK2.out (fun i h => Or.inl (Or.inl h))).set (Or.inr (Nat.le_refl _)) _ _).set (Or.inr (Nat.le_refl _)) _ _
  | succ k ih =>
  intro d s r nb w hd hr hn hne hfit
  obtain ⟨i, c, j, n⟩ := s
  obtain ⟨f1, f2, f3, f4, f5⟩ := hfit
  simp only at f1 f2 f3 f4 f5 hr hn
  have IH := Lib.hid ih
  have HR := Lib.hid hr
  have HN := Lib.hid hn
  have c0 := cellv hr 0 rfl
  have c1 := cellv hr 1 rfl
  have c2 := cellv hr 2 rfl
  have c3 := cellv hr 3 rfl
  have d1 := free_heap hr 1
  have l1 := lt_heap hr
  have n0 := cellv hn 0 rfl
  have n1 := free_heap hn 0
  have l2 := lt_heap hn
  have Hx := Lib.hid hx
  clear ih hr hn hx
  by_cases hc : c = 0
  case neg =>
    have hc' : ((c : Int) != 0) = true := by rw [bne_iff_ne]; omega
    have hfin : ∀ w', Keeps (fun b => b = r ∨ b = nb) w w' → RdAt w' r x i c j → w'.heap[nb]? = some (.cells #[.int .i64 n] 3 (0, 0)) → PartAt x r nb (k + 1) ⟨i, c, j, n⟩ w (.returned (.agg #[.string ⟨#[]⟩, .slice none 0 0])) w' := by
      intro w' h1 h2 h3
      unfold PartAt
      rw [partF_c x _ _ hc]
      exact ⟨_, _, rfl, zero_fresh _ _, h2, h3, h1⟩
    have HF := Lib.hid hfin
    clear hfin
    go_enter Tryd.func50, Tryd.ntmps50
    go_wp2_with fail
    refine bodyPost_ret (v := .agg #[.string ⟨#[]⟩, .slice none 0 0]) (by simp [results, Tryd.results50, go_sem]) rfl ?_
    exact HF.out _ ((Keeps.refl _ _).alloc _) (heap_old l1 HR.out) (heap_old l2 HN.out)
  subst hc
  by_cases hb : byteAt x i = 101 ∨ byteAt x i = 116 ∨ byteAt x i = 40
  case neg =>
    have g1 : ((byteAt x i : Int) == 101) = false := beq_eq_false_iff_ne.2 (by omega)
    have g2 : ((byteAt x i : Int) == 116) = false := beq_eq_false_iff_ne.2 (by omega)
    have g3 : ((byteAt x i : Int) == 40) = false := beq_eq_false_iff_ne.2 (by omega)
    have hfin : ∀ w', Keeps (fun b => b = r ∨ b = nb) w w' → RdAt w' r x i 11 i → w'.heap[nb]? = some (.cells #[.int .i64 n] 3 (0, 0)) → PartAt x r nb (k + 1) ⟨i, 0, j, n⟩ w (.returned (.agg #[.string ⟨#[]⟩, .slice none 0 0])) w' := by
      intro w' h1 h2 h3
      unfold PartAt partF
      rw [if_pos rfl, if_neg hb]
      exact ⟨_, _, rfl, zero_fresh _ _, h2, h3, h1⟩
    have HF := Lib.hid hfin
    clear hfin hb
    go_enter Tryd.func50, Tryd.ntmps50
    go_wp2_with fail
    refine (peek_any r x i 0 j _ (heap_old l1 HR.out)).mono ?_
    rintro e w1 ⟨rfl, hw1, hs1⟩
    have k1 := Lib.hid ((hw1.block r (by go_size)).trans (heap_old l1 HR.out))
    have k2 := Lib.hid ((hw1.block nb (by go_size)).trans (heap_old l2 HN.out))
    have k3 := Lib.hid ((hw1.block w.heap.size (by go_size)).trans (heap_at rfl))
    have p0 := cellv k1.out 0 rfl
    have p1 := cellv k1.out 1 rfl
    have p3 := lt_heap k1.out
    have z1 : w1.heap.size = w.heap.size + 1 := by simpa using hs1
    have HW1 := Lib.hid hw1
    clear hw1 hs1
    go_wp2_with fail
    refine (fail_any r x i 0 j 11 i _ k1.out).mono ?_
    rintro e w2 ⟨rfl, hr2, hk2, hs2⟩
    rw [if_pos rfl] at hr2
    have HR2 := Lib.hid hr2
    have HN2 := Lib.hid ((hk2.block nb (lt_heap k2.out) (fun e => hne e.symm)).trans k2.out)
    have q := (hk2.block w.heap.size (by omega) (by omega)).trans k3.out
    have q0 := cellv q 0 rfl
    have q1 := cellv q 1 rfl
    have q2 := free_heap q 0
    have q3 := free_heap q 1
    have q4 := lt_heap q
    have HK2 := Lib.hid hk2
    clear hr2 hk2 q
    go_wp2_with fail
    refine bodyPost_ret (v := .agg #[.string ⟨#[]⟩, .slice none 0 0]) (by simp [results, Tryd.results50, go_sem, q0, q1]) rfl ?_
    refine HF.out _ ?_ (heap_far _ (by omega) (heap_far _ (by omega) HR2.out)) (heap_far _ (by omega) (heap_far _ (by omega) HN2.out))
    exact (((((Keeps.refl _ _).alloc _).step (Below.keeps HW1.out (fun _ => False)) (fun _ h => h.elim)).step HK2.out (fun i h => Or.inl (Or.inl h))).set (Or.inr (Nat.le_refl _)) _ _).set (Or.inr (Nat.le_refl _)) _ _
  have hlt := byteAt_lt (x := x) (i := i) (by omega)
  have hi4 : i ≤ 4000 := by have := Hx.out; omega
  have ue : Utf8.encode 101 = bE := by decide +kernel
  have ut : Utf8.encode 116 = bT := by decide +kernel
  by_cases hlim : 200 < n + 1
  · have hfin : ∀ w', Keeps (fun b => b = r ∨ b = nb) w w' → RdAt w' r x i 1 i → w'.heap[nb]? = some (.cells #[.int .i64 (n + 1 : Nat)] 3 (0, 0)) → PartAt x r nb (k + 1) ⟨i, 0, j, n⟩ w (.returned (.agg #[.string ⟨#[]⟩, .slice none 0 0])) w' := by
      intro w' h1 h2 h3
      unfold PartAt partF
      rw [if_pos rfl, if_pos hb, if_pos hlim]
      exact ⟨_, _, rfl, zero_fresh _ _, h2, h3, h1⟩
    have HF := Lib.hid hfin
    clear hfin
    go_enter Tryd.func50, Tryd.ntmps50
    go_wp2_with fail
    refine (peek_any r x i 0 j _ (heap_old l1 HR.out)).mono ?_
    rintro e w1 ⟨rfl, hw1, hs1⟩
    have k1 := Lib.hid ((hw1.block r (by go_size)).trans (heap_old l1 HR.out))
    have k2 := Lib.hid ((hw1.block nb (by go_size)).trans (heap_old l2 HN.out))
    have k3 := Lib.hid ((hw1.block w.heap.size (by go_size)).trans (heap_at rfl))
    have p0 := cellv k1.out 0 rfl
    have p1 := cellv k1.out 1 rfl
    have p3 := lt_heap k1.out
    have m0 := cellv k2.out 0 rfl
    have m1 := free_heap k2.out 0
    have m2 := lt_heap k2.out
    have z1 : w1.heap.size = w.heap.size + 1 := by simpa using hs1
    have HW1 := Lib.hid hw1
    clear hw1 hs1
    rcases hb with hb | hb | hb
    all_goals
      rw [hb]
      go_wp2_with fail
      refine (fail_any r x i 0 j 1 i (w1.setCell ⟨nb, 0, none⟩ (.int .i64 ((n : Int) + 1))) (heap_far _ hne k1.out)).mono ?_
      rintro e w2 ⟨rfl, hr2, hk2, hs2⟩
      rw [if_pos rfl] at hr2
      have HR2 := Lib.hid hr2
      have HN2 := Lib.hid ((hk2.block nb (by rw [size_set]; exact lt_heap k2.out) (fun e => hne e.symm)).trans (heap_set k2.out 0 (.int .i64 ((n : Int) + 1))))
      have q := (hk2.block w.heap.size (by rw [size_set]; omega) (by omega)).trans (heap_far _ (by omega) k3.out)
      have q0 := cellv q 0 rfl
      have q1 := cellv q 1 rfl
      have q2 := free_heap q 0
      have q3 := free_heap q 1
      have q4 := lt_heap q
      have HK2 := Lib.hid hk2
      clear hr2 hk2 q
      go_wp2_with fail
      refine bodyPost_ret (v := .agg #[.string ⟨#[]⟩, .slice none 0 0]) (by simp [results, Tryd.results50, go_sem, q0, q1]) rfl ?_
      refine HF.out _ ?_ (heap_far _ (by omega) (heap_far _ (by omega) HR2.out)) (heap_far _ (by omega) (heap_far _ (by omega) (by simpa using HN2.out)))
      exact ((((((Keeps.refl _ _).alloc _).step (Below.keeps HW1.out (fun _ => False)) (fun _ h => h.elim)).set (Or.inl (Or.inr rfl)) 0 _).step HK2.out (fun i h => Or.inl (Or.inl h))).set (Or.inr (Nat.le_refl _)) _ _).set (Or.inr (Nat.le_refl _)) _ _
  rcases hb with hb | hb | hb
  · have hfin : ∀ w', Keeps (fun b => b = r ∨ b = nb) w w' → RdAt w' r x (i + 1) 0 j → w'.heap[nb]? = some (.cells #[.int .i64 (n + 1 : Nat)] 3 (0, 0)) → PartAt x r nb (k + 1) ⟨i, 0, j, n⟩ w (.returned (.agg #[.string bE, .slice none 0 0])) w' := by
      intro w' h1 h2 h3
      unfold PartAt partF
      rw [if_pos rfl, if_pos (Or.inl hb), if_neg hlim, if_pos hb]
      exact ⟨_, _, rfl, Ty.In.mk_ (by decide +kernel) rfl (by omega) (by omega), h2, h3, h1⟩
    have HF := Lib.hid hfin
    clear hfin
    go_enter Tryd.func50, Tryd.ntmps50
    go_wp2_with fail
    refine (peek_any r x i 0 j _ (heap_old l1 HR.out)).mono ?_
    rintro e w1 ⟨rfl, hw1, hs1⟩
    have k1 := Lib.hid ((hw1.block r (by go_size)).trans (heap_old l1 HR.out))
    have k2 := Lib.hid ((hw1.block nb (by go_size)).trans (heap_old l2 HN.out))
    have k3 := Lib.hid ((hw1.block w.heap.size (by go_size)).trans (heap_at rfl))
    have p0 := cellv k1.out 0 rfl
    have p1 := cellv k1.out 1 rfl
    have p3 := lt_heap k1.out
    have m0 := cellv k2.out 0 rfl
    have m1 := free_heap k2.out 0
    have m2 := lt_heap k2.out
    have z1 : w1.heap.size = w.heap.size + 1 := by simpa using hs1
    have KW1 := Lib.hid (((Keeps.refl (fun b => b = r ∨ b = nb) w).alloc (.cells #[.string ⟨#[]⟩, .slice none 0 0] 24)).step (Below.keeps hw1 (fun _ => False)) (fun _ h => h.elim))
    clear hw1 hs1
    rw [hb]
    go_wp2_with fail
    refine (peek_any r x i 0 j (w1.setCell ⟨nb, 0, none⟩ (.int .i64 ((n : Int) + 1))) (heap_far _ hne k1.out)).mono ?_
    rintro e w2 ⟨rfl, hw2, hs2⟩
    have t1 := Lib.hid ((hw2.block r (by rw [size_set]; exact p3)).trans (heap_far _ hne k1.out))
    have t2 := Lib.hid ((hw2.block nb (by rw [size_set]; exact m2)).trans (heap_set k2.out 0 (.int .i64 ((n : Int) + 1))))
    have t3 := Lib.hid ((hw2.block w.heap.size (by rw [size_set]; omega)).trans (heap_far _ (by omega) k3.out))
    have r0 := cellv t1.out 0 rfl
    have r1 := cellv t1.out 1 rfl
    have r2 := free_heap t1.out 1
    have r3 := lt_heap t1.out
    have q0 := cellv t3.out 0 rfl
    have q1 := cellv t3.out 1 rfl
    have q2 := free_heap t3.out 0
    have q3 := free_heap t3.out 1
    have q4 := lt_heap t3.out
    have z2 : w2.heap.size = w.heap.size + 1 := by rw [size_set] at hs2; omega
    have ne1 : r ≠ w.heap.size := by omega
    have ne2 : w.heap.size ≠ r := by omega
    have KW2 := Lib.hid ((KW1.out.set (b := nb) (Or.inl (Or.inr rfl)) 0 (.int .i64 ((n : Int) + 1))).step (Below.keeps hw2 (fun _ => False)) (fun _ h => h.elim))
    clear hw2 hs2
    rw [hb]
    go_wp2_with fail
    refine bodyPost_ret (v := .agg #[.string bE, .slice none 0 0]) (by simp [results, Tryd.results50, go_sem, bE, q0, q1, ne2]) rfl ?_
    refine HF.out _ ?_ (heap_far _ (by omega) (heap_far _ (by omega) (by simpa using heap_set t1.out 1 (.int .i64 ((i : Int) + 1))))) (heap_far _ (by omega) (heap_far _ (by omega) (heap_far _ (fun e => hne e.symm) (by simpa using t2.out))))
    exact ((KW2.out.set (b := r) (Or.inl (Or.inl rfl)) 1 _).set (Or.inr (Nat.le_refl _)) _ _).set (Or.inr (Nat.le_refl _)) _ _
  · have hfin : ∀ w', Keeps (fun b => b = r ∨ b = nb) w w' → RdAt w' r x (i + 1) 0 j → w'.heap[nb]? = some (.cells #[.int .i64 (n + 1 : Nat)] 3 (0, 0)) → PartAt x r nb (k + 1) ⟨i, 0, j, n⟩ w (.returned (.agg #[.string bT, .slice none 0 0])) w' := by
      intro w' h1 h2 h3
      unfold PartAt partF
      rw [if_pos rfl, if_pos (Or.inr (Or.inl hb)), if_neg hlim, if_neg (by simp only; omega), if_pos hb]
      exact ⟨_, _, rfl, Ty.In.mk_ (by decide +kernel) rfl (by omega) (by omega), h2, h3, h1⟩
    have HF := Lib.hid hfin
    clear hfin
    go_enter Tryd.func50, Tryd.ntmps50
    go_wp2_with fail
    refine (peek_any r x i 0 j _ (heap_old l1 HR.out)).mono ?_
    rintro e w1 ⟨rfl, hw1, hs1⟩
    have k1 := Lib.hid ((hw1.block r (by go_size)).trans (heap_old l1 HR.out))
    have k2 := Lib.hid ((hw1.block nb (by go_size)).trans (heap_old l2 HN.out))
    have k3 := Lib.hid ((hw1.block w.heap.size (by go_size)).trans (heap_at rfl))
    have p0 := cellv k1.out 0 rfl
    have p1 := cellv k1.out 1 rfl
    have p3 := lt_heap k1.out
    have m0 := cellv k2.out 0 rfl
    have m1 := free_heap k2.out 0
    have m2 := lt_heap k2.out
    have z1 : w1.heap.size = w.heap.size + 1 := by simpa using hs1
    have KW1 := Lib.hid (((Keeps.refl (fun b => b = r ∨ b = nb) w).alloc (.cells #[.string ⟨#[]⟩, .slice none 0 0] 24)).step (Below.keeps hw1 (fun _ => False)) (fun _ h => h.elim))
    clear hw1 hs1
    rw [hb]
    go_wp2_with fail
    refine (peek_any r x i 0 j (w1.setCell ⟨nb, 0, none⟩ (.int .i64 ((n : Int) + 1))) (heap_far _ hne k1.out)).mono ?_
    rintro e w2 ⟨rfl, hw2, hs2⟩
    have t1 := Lib.hid ((hw2.block r (by rw [size_set]; exact p3)).trans (heap_far _ hne k1.out))
    have t2 := Lib.hid ((hw2.block nb (by rw [size_set]; exact m2)).trans (heap_set k2.out 0 (.int .i64 ((n : Int) + 1))))
    have t3 := Lib.hid ((hw2.block w.heap.size (by rw [size_set]; omega)).trans (heap_far _ (by omega) k3.out))
    have r0 := cellv t1.out 0 rfl
    have r1 := cellv t1.out 1 rfl
    have r2 := free_heap t1.out 1
    have r3 := lt_heap t1.out
    have q0 := cellv t3.out 0 rfl
    have q1 := cellv t3.out 1 rfl
    have q2 := free_heap t3.out 0
    have q3 := free_heap t3.out 1
    have q4 := lt_heap t3.out
    have z2 : w2.heap.size = w.heap.size + 1 := by rw [size_set] at hs2; omega
    have ne1 : r ≠ w.heap.size := by omega
    have ne2 : w.heap.size ≠ r := by omega
    have KW2 := Lib.hid ((KW1.out.set (b := nb) (Or.inl (Or.inr rfl)) 0 (.int .i64 ((n : Int) + 1))).step (Below.keeps hw2 (fun _ => False)) (fun _ h => h.elim))
    clear hw2 hs2
    rw [hb]
    go_wp2_with fail
    refine bodyPost_ret (v := .agg #[.string bT, .slice none 0 0]) (by simp [results, Tryd.results50, go_sem, bT, q0, q1, ne2]) rfl ?_
    refine HF.out _ ?_ (heap_far _ (by omega) (heap_far _ (by omega) (by simpa using heap_set t1.out 1 (.int .i64 ((i : Int) + 1))))) (heap_far _ (by omega) (heap_far _ (by omega) (heap_far _ (fun e => hne e.symm) (by simpa using t2.out))))
    exact ((KW2.out.set (b := r) (Or.inl (Or.inl rfl)) 1 _).set (Or.inr (Nat.le_refl _)) _ _).set (Or.inr (Nat.le_refl _)) _ _
  · have hb1 : ¬ byteAt x i = 101 := by omega
    have hb2 : ¬ byteAt x i = 116 := by omega
    have hfit1 : St.fits x ⟨i + 1, 0, j, n + 1⟩ := ⟨by simp only; omega, by simp only; omega, f3, by simp, fun _ => by simp only; omega⟩
    -- the states on the way
    have hP : partF x (k + 1) ⟨i, 0, j, n⟩ = (.mk bNil [(partF x k ⟨i + 1, 0, j, n + 1⟩).1, (partF x k (takeF x (partF x k ⟨i + 1, 0, j, n + 1⟩).2 32)).1], takeF x (partF x k (takeF x (partF x k ⟨i + 1, 0, j, n + 1⟩).2 32)).2 41) := by
      conv => lhs; unfold partF
      simp only [if_pos hb, if_neg hlim, if_neg hb1, if_neg hb2, if_true, if_pos (Or.inr (Or.inr hb) : byteAt x i = 101 ∨ byteAt x i = 116 ∨ byteAt x i = 40)]
    have HP := Lib.hid hP
    have hfa := partF_fits x k _ hfit1
    clear hP hb1 hb2
    go_enter Tryd.func50, Tryd.ntmps50
    go_wp2_with fail
    refine (peek_any r x i 0 j _ (heap_old l1 HR.out)).mono ?_
    rintro e w1 ⟨rfl, hw1, hs1⟩
    have k1 := Lib.hid ((hw1.block r (by go_size)).trans (heap_old l1 HR.out))
    have k2 := Lib.hid ((hw1.block nb (by go_size)).trans (heap_old l2 HN.out))
    have k3 := Lib.hid ((hw1.block w.heap.size (by go_size)).trans (heap_at rfl))
    have p0 := cellv k1.out 0 rfl
    have p1 := cellv k1.out 1 rfl
    have p3 := lt_heap k1.out
    have m0 := cellv k2.out 0 rfl
    have m1 := free_heap k2.out 0
    have m2 := lt_heap k2.out
    have z1 : w1.heap.size = w.heap.size + 1 := by simpa using hs1
    have KW1 := Lib.hid (((Keeps.refl (fun b => b = r ∨ b = nb) w).alloc (.cells #[.string ⟨#[]⟩, .slice none 0 0] 24)).step (Below.keeps hw1 (fun _ => False)) (fun _ h => h.elim))
    clear hw1 hs1
    rw [hb]
    go_wp2_with fail
    refine (peek_any r x i 0 j (w1.setCell ⟨nb, 0, none⟩ (.int .i64 ((n : Int) + 1))) (heap_far _ hne k1.out)).mono ?_
    rintro e w2 ⟨rfl, hw2, hs2⟩
    have t1 := Lib.hid ((hw2.block r (by rw [size_set]; exact p3)).trans (heap_far _ hne k1.out))
    have t2 := Lib.hid ((hw2.block nb (by rw [size_set]; exact m2)).trans (heap_set k2.out 0 (.int .i64 ((n : Int) + 1))))
    have t3 := Lib.hid ((hw2.block w.heap.size (by rw [size_set]; omega)).trans (heap_far _ (by omega) k3.out))
    have r0 := cellv t1.out 0 rfl
    have r1 := cellv t1.out 1 rfl
    have r2 := free_heap t1.out 1
    have r3 := lt_heap t1.out
    have q0 := cellv t3.out 0 rfl
    have q1 := cellv t3.out 1 rfl
    have q2 := free_heap t3.out 0
    have q3 := free_heap t3.out 1
    have q4 := lt_heap t3.out
    have z2 : w2.heap.size = w.heap.size + 1 := by rw [size_set] at hs2; omega
    have ne1 : r ≠ w.heap.size := by omega
    have ne2 : w.heap.size ≠ r := by omega
    have KW2 := Lib.hid ((KW1.out.set (b := nb) (Or.inl (Or.inr rfl)) 0 (.int .i64 ((n : Int) + 1))).step (Below.keeps hw2 (fun _ => False)) (fun _ h => h.elim))
    clear hw2 hs2
    rw [hb]
    go_wp2_with fail
    have e3 : RdAt (w2.setCell ⟨r, 1, none⟩ (.int .i64 ((i : Int) + 1))) r x (i + 1) 0 j := by simpa [RdAt] using heap_set t1.out 1 (.int .i64 ((i : Int) + 1))
    have e4 : (w2.setCell ⟨r, 1, none⟩ (.int .i64 ((i : Int) + 1))).heap[nb]? = some (.cells #[.int .i64 (n + 1 : Nat)] 3 (0, 0)) := heap_far _ (fun e => hne e.symm) (by simpa using t2.out)
    have KW3 := Lib.hid (KW2.out.set (b := r) (Or.inl (Or.inl rfl)) 1 (.int .i64 ((i : Int) + 1)))
    have T3 := Lib.hid (heap_far (i := 1) (.int .i64 ((i : Int) + 1)) ne2 t3.out)
    have hd1 : ((d : Int) + 1) = ((d + 1 : Nat) : Int) := by omega
    rw [hd1]
    have z3' : (w2.setCell ⟨r, 1, none⟩ (.int .i64 ((i : Int) + 1))).heap.size = w.heap.size + 1 := by rw [size_set]; exact z2
    generalize w2.setCell ⟨r, 1, none⟩ (.int .i64 ((i : Int) + 1)) = W3 at *
    clear k1 k2 k3 p0 p1 p3 m0 m1 m2 z1 t1 t2 t3 r0 r1 r2 r3 q0 q1 q2 q3 q4 z2 hd1 KW1 KW2
    refine (IH.out (d + 1) ⟨i + 1, 0, j, n + 1⟩ r nb W3 (by omega) e3 e4 hne hfit1).mono ?_
    rintro e w3 ⟨v0, v1, rfl, ht, hr3, hn3, hk3⟩
    obtain ⟨sa, Aa, na, ca, rfl, rfl⟩ := ht.shape
    have z3 : W3.heap.size ≤ w3.heap.size := hk3.size
    have KW4 := Lib.hid (KW3.out.step hk3 (fun _ h => Or.inl h))
    have T4 := Lib.hid ((hk3.block w.heap.size (by omega) (by omega)).trans T3.out)
    have HTA := Lib.hid ht
    have HR3 := Lib.hid hr3
    have HN3 := Lib.hid hn3
    have x1 := lt_heap hr3
    have x2 := lt_heap hn3
    clear ht hr3 hn3 hk3 e3 e4
    generalize partF x k ⟨i + 1, 0, j, n + 1⟩ = p at *
    go_wp2_with fail
    refine (take_any r x p.2.i p.2.c p.2.j 32 _ (heap_old x1 HR3.out) (by decide) Hx.out).mono ?_
    rintro e w4 ⟨⟨bv, rfl⟩, ht4, hk4, hs4⟩
    have hr4 : RdAt w4 r x (takeF x p.2 32).i (takeF x p.2 32).c (takeF x p.2 32).j := takeAt_F (b := 32) ht4
    have hf4 := takeF_fits (b := 32) hfa (by decide)
    have hn4 := (hk4.block nb (by simp; omega) (fun e => hne e.symm)).trans (heap_old x2 HN3.out)
    rw [← takeF_n x p.2 32] at hn4
    have T5 := Lib.hid ((hk4.block w.heap.size (by simp; omega) (by omega)).trans (heap_old (lt_heap T4.out) T4.out))
    have U5 := Lib.hid ((hk4.block w3.heap.size (by simp) (by omega)).trans (heap_at rfl))
    have KW5 := Lib.hid ((KW4.out.alloc (.cells #[.string sa, .slice Aa na ca] 24)).step hk4 (fun _ h => Or.inl (Or.inl h)))
    have HTA5 := Lib.hid (HTA.out.keep (w' := w4) (fun b hb => (hk4.block b (by have := hb.2; simp; omega) (by have := hb.1; omega)).trans (heap_old hb.2 rfl)))
    have z4 : w3.heap.size + 1 ≤ w4.heap.size := by have : w4.heap.size = w3.heap.size + 1 := (by simpa using hs4); omega
    have HR4 := Lib.hid hr4
    have HN4 := Lib.hid hn4
    clear ht4 hk4 hs4 hr4 hn4
    generalize takeF x p.2 32 = s2 at *
    go_wp2_with fail
    have hd1 : ((d : Int) + 1) = ((d + 1 : Nat) : Int) := by omega
    rw [hd1]
    refine (IH.out (d + 1) s2 r nb w4 (by omega) HR4.out HN4.out hne hf4).mono ?_
    rintro e w5 ⟨u0, u1, rfl, ht, hr5, hn5, hk5⟩
    obtain ⟨sb, Ab, nb', cb, rfl, rfl⟩ := ht.shape
    have z5 : w4.heap.size ≤ w5.heap.size := hk5.size
    have hf5 := partF_fits x k s2 hf4
    have KW6 := Lib.hid (KW5.out.step hk5 (fun _ h => Or.inl h))
    have T6 := Lib.hid ((hk5.block w.heap.size (by omega) (by omega)).trans T5.out)
    have U6 := Lib.hid ((hk5.block w3.heap.size (by omega) (by omega)).trans U5.out)
    have HTA6 := Lib.hid (HTA5.out.keep (w' := w5) (fun b hb => hk5.block b (by have := hb.2; omega) (by have := hb.1; omega)))
    have HTB := Lib.hid ht
    have HR5 := Lib.hid hr5
    have HN5 := Lib.hid hn5
    have y1 := lt_heap hr5
    have y2 := lt_heap hn5
    clear ht hr5 hn5 hk5 hd1
    generalize partF x k s2 = q at *
    go_wp2_with fail
    refine (take_any r x q.2.i q.2.c q.2.j 41 _ (heap_old y1 HR5.out) (by decide) Hx.out).mono ?_
    rintro e w6 ⟨⟨bv', rfl⟩, ht6, hk6, hs6⟩
    have hr6 : RdAt w6 r x (takeF x q.2 41).i (takeF x q.2 41).c (takeF x q.2 41).j := takeAt_F (b := 41) ht6
    have hn6 := (hk6.block nb (by simp; omega) (fun e => hne e.symm)).trans (heap_old y2 HN5.out)
    rw [← takeF_n x q.2 41] at hn6
    have T7 := (hk6.block w.heap.size (by simp; omega) (by omega)).trans (heap_old (lt_heap T6.out) T6.out)
    have U7 := (hk6.block w3.heap.size (by simp; omega) (by omega)).trans (heap_old (lt_heap U6.out) U6.out)
    have V7 : w6.heap[w5.heap.size]? = some (.cells #[.string sb, .slice Ab nb' cb] 24 (0, 0)) := (hk6.block w5.heap.size (by simp) (by omega)).trans (heap_at rfl)
    have KW7 := Lib.hid ((KW6.out.alloc (.cells #[.string sb, .slice Ab nb' cb] 24)).step hk6 (fun _ h => Or.inl (Or.inl h)))
    have HTA7 := Lib.hid (HTA6.out.keep (w' := w6) (fun b hb => (hk6.block b (by have := hb.2; simp; omega) (by have := hb.1; omega)).trans (heap_old (by have := hb.2; omega) rfl)))
    have HTB7 := Lib.hid (HTB.out.keep (w' := w6) (fun b hb => (hk6.block b (by have := hb.2; simp; omega) (by have := hb.1; omega)).trans (heap_old hb.2 rfl)))
    have z6 : w5.heap.size + 1 ≤ w6.heap.size := by have : w6.heap.size = w5.heap.size + 1 := (by simpa using hs6); omega
    have a0 := cellv T7 0 rfl
    have a1 := cellv T7 1 rfl
    have a2 := free_heap T7 0
    have a3 := free_heap T7 1
    have a4 := lt_heap T7
    have b0 := cellv U7 0 rfl
    have b1 := cellv U7 1 rfl
    have b4 := lt_heap U7
    have g0 := cellv V7 0 rfl
    have g1 := cellv V7 1 rfl
    have g4 := lt_heap V7
    have HR6 := Lib.hid hr6
    have HN6 := Lib.hid hn6
    clear ht6 hk6 hs6 hr6 hn6 T7 U7 V7
    go_wp2_with fail
    refine bodyPost_ret (v := .agg #[.string ⟨#[]⟩, .slice (some ⟨w6.heap.size, 0, none⟩) 2 2]) (by simp [results, Tryd.results50, go_sem, a0, a1, a4]) rfl ?_
    have hfar : ∀ b, b < w6.heap.size → b ≠ w.heap.size → (((w6.setCell ⟨w.heap.size, 0, none⟩ (.string ⟨#[]⟩)).setCell ⟨w.heap.size, 1, none⟩ (.slice (some ⟨w6.heap.size, 0, none⟩) 2 2)).alloc (.cells #[.string sa, .slice Aa na ca, .string sb, .slice Ab nb' cb] 24)).heap[b]? = w6.heap[b]? :=
      fun b h1 h2 => heap_old (by rw [size_set, size_set]; exact h1) (heap_far _ h2 (heap_far _ h2 rfl))
    unfold PartAt
    rw [HP.out]
    refine ⟨_, _, rfl, Ty.In.mk_ (by decide +kernel) rfl (by simp [maxLen]) fun _ => ⟨_, _, rfl, ⟨by omega, by simp [size_set]⟩, Ty.Ins2 (heap_at (by simp [size_set])) ?_ ?_⟩, ?_, ?_, ?_⟩
    · exact (HTA7.out.keep (fun b hb => hfar b (by have := hb.2; omega) (by have := hb.1; omega))).mono (fun b hb => ⟨by have := hb.1; omega, by have := hb.2; simp [size_set]; omega⟩)
    · exact (HTB7.out.keep (fun b hb => hfar b (by have := hb.2; omega) (by have := hb.1; omega))).mono (fun b hb => ⟨by have := hb.1; omega, by have := hb.2; simp [size_set]; omega⟩)
    · exact (hfar r (by omega) ne1).trans HR6.out
    · exact (hfar nb (by omega) (by omega)).trans HN6.out
    · exact ((KW7.out.set (Or.inr (Nat.le_refl _)) _ _).set (Or.inr (Nat.le_refl _)) _ _).alloc _

end Go.Proofs.YtnoceodmnjhljaaDoor
