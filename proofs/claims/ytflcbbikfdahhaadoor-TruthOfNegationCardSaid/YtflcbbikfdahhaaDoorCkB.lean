/-
  folform.Check's inner function: more regions, by parts.
-/
import Derived.Test.YtflcbbikfdahhaaDoorCkA
namespace Go.Proofs.YtflcbbikfdahhaaDoor
open Go Go.RowKit
set_option linter.unusedSimpArgs false
set_option linter.unusedVariables false

noncomputable def c_ck_r18 : Code := sub [1, 1, 1, 1, 1, 1, 1, 1, 1, 1, 1, 0, 0] (Tryd.f100.body.getD .skip)
set_option maxRecDepth 1000000 in
set_option maxHeartbeats 16000000 in
theorem ck_r18_wp {Q : Exit → Act → World → Prop} {bn bo bw d n m : Nat} {wo w : World} {kd : Int} {nm : ByteArray} {A B : Option Addr} {n1 c1 n2 c2 : Nat} (hs : CS wo w bn kd nm A n1 c1 B n2 c2 n m) (hN : ∀ a' w', Frm 133 [(1, .int .i64 (d : Nat)), (2, .pointer (some ⟨bn, 0, none⟩)), (3, .pointer (some ⟨bo, 0, none⟩)), (4, .pointer (some ⟨bw, 0, none⟩)), (5, .pointer (some ⟨wo.heap.size, 0, none⟩)), (7, .pointer (some ⟨wo.heap.size + 1, 0, none⟩)), (9, (.func (Fn.func 101) #[] #[.pointer (some ⟨wo.heap.size + 1 + 1, 0, none⟩)])), (12, .bool (namedF kd))] a' → CS wo w' bn kd nm A n1 c1 B n2 c2 n m → Q .normal a' w') : ∀ ac, Frm 133 [(1, .int .i64 (d : Nat)), (2, .pointer (some ⟨bn, 0, none⟩)), (3, .pointer (some ⟨bo, 0, none⟩)), (4, .pointer (some ⟨bw, 0, none⟩)), (5, .pointer (some ⟨wo.heap.size, 0, none⟩)), (7, .pointer (some ⟨wo.heap.size + 1, 0, none⟩)), (9, (.func (Fn.func 101) #[] #[.pointer (some ⟨wo.heap.size + 1 + 1, 0, none⟩)]))] ac → Code.wp Tryd.prog c_ck_r18 Q ac w := by
  refine frm_open ?_
  refine frame_ck ?_
  intros
  rename_i hq
  obtain ⟨-, -, e0q, e1q, e2q, e3q, e4q, e5q, e6q, -⟩ := hq
  obtain rfl := sI e0q
  obtain rfl := sI e1q
  obtain rfl := sI e2q
  obtain rfl := sI e3q
  obtain rfl := sI e4q
  obtain rfl := sI e5q
  obtain rfl := sI e6q
  conv => arg 2; whnf
  have a0 := cellv hs.a 0 rfl
  have a1 := cellv hs.a 1 rfl
  have a2 := cellv hs.a 2 rfl
  have a3 := cellv hs.a 3 rfl
  have al := lt_heap hs.a
  have hq := quant_any kd nm A B n1 c1 n2 c2 w
  have HS := Lib.hid hs
  clear hs
  have HQ := Lib.hid hq
  clear hq
  by_cases h2 : kd = 2
  · subst h2
    rw [show namedF 2 = true from rfl] at hN
    have HN := Lib.hid hN
    clear hN
    go_wp2_with fail
    exact HN.out _ _ (id ⟨rfl, rfl, rfl, rfl, rfl, rfl, rfl, rfl, rfl, rfl, trivial⟩) HS.out
  have t2 : (kd == 2) = false := beq_eq_false_iff_ne.2 h2
  by_cases hqu : isQu kd = true
  · rw [show namedF kd = true from by simp only [isQu, Bool.or_eq_true, decide_eq_true_eq] at hqu; simp only [namedF, Bool.or_eq_true, decide_eq_true_eq]; omega] at hN
    rw [hqu] at HQ
    clear hqu h2
    have HN := Lib.hid hN
    clear hN
    go_wp2_with fail
    (with_reducible refine HQ.out.mono ?_)
    rintro e w1 ⟨rfl, hb1⟩
    have hs := HS.out.below hb1
    clear hb1 a0 a1 a2 a3 al
    have a0 := cellv hs.a 0 rfl
    have a1 := cellv hs.a 1 rfl
    have a2 := cellv hs.a 2 rfl
    have a3 := cellv hs.a 3 rfl
    have al := lt_heap hs.a
    have HS := Lib.hid hs
    clear hs
    go_wp2_with fail
    exact HN.out _ _ (id ⟨rfl, rfl, rfl, rfl, rfl, rfl, rfl, rfl, rfl, rfl, trivial⟩) HS.out
  replace hqu : isQu kd = false := by simpa using hqu
  rw [hqu] at HQ
  by_cases h10 : kd = 10
  · subst h10
    rw [show namedF 10 = true from rfl] at hN
    clear hqu h2
    have HN := Lib.hid hN
    clear hN
    go_wp2_with fail
    (with_reducible refine HQ.out.mono ?_)
    rintro e w1 ⟨rfl, hb1⟩
    have hs := HS.out.below hb1
    clear hb1 a0 a1 a2 a3 al
    have a0 := cellv hs.a 0 rfl
    have a1 := cellv hs.a 1 rfl
    have a2 := cellv hs.a 2 rfl
    have a3 := cellv hs.a 3 rfl
    have al := lt_heap hs.a
    have HS := Lib.hid hs
    clear hs
    go_wp2_with fail
    exact HN.out _ _ (id ⟨rfl, rfl, rfl, rfl, rfl, rfl, rfl, rfl, rfl, rfl, trivial⟩) HS.out
  have t10 : (kd == 10) = false := beq_eq_false_iff_ne.2 h10
  rw [show namedF kd = false from by simp only [isQu, Bool.or_eq_false_iff, decide_eq_false_iff_not] at hqu; simp only [namedF, Bool.or_eq_false_iff, decide_eq_false_iff_not]; omega] at hN
  clear hqu h2 h10
  have HN := Lib.hid hN
  clear hN
  go_wp2_with fail
  (with_reducible refine HQ.out.mono ?_)
  rintro e w1 ⟨rfl, hb1⟩
  have hs := HS.out.below hb1
  clear hb1 a0 a1 a2 a3 al
  have a0 := cellv hs.a 0 rfl
  have a1 := cellv hs.a 1 rfl
  have a2 := cellv hs.a 2 rfl
  have a3 := cellv hs.a 3 rfl
  have al := lt_heap hs.a
  have HS := Lib.hid hs
  clear hs
  go_wp2_with fail
  exact HN.out _ _ (id ⟨rfl, rfl, rfl, rfl, rfl, rfl, rfl, rfl, rfl, rfl, trivial⟩) HS.out
noncomputable def c_ck_r19 : Code := sub [1, 1, 1, 1, 1, 1, 1, 1, 1, 1, 1, 0, 1, 0] (Tryd.f100.body.getD .skip)
set_option maxRecDepth 1000000 in
set_option maxHeartbeats 16000000 in
theorem ck_r19_wp {Q : Exit → Act → World → Prop} {nb : Bool} {bn bo bw d n m : Nat} {wo w : World} {kd : Int} {nm : ByteArray} {A B : Option Addr} {n1 c1 n2 c2 : Nat} (hn : nm.size ≤ maxLen) (hs : CS wo w bn kd nm A n1 c1 B n2 c2 n m) (hN : ∀ a', Frm 133 [(1, .int .i64 (d : Nat)), (2, .pointer (some ⟨bn, 0, none⟩)), (3, .pointer (some ⟨bo, 0, none⟩)), (4, .pointer (some ⟨bw, 0, none⟩)), (5, .pointer (some ⟨wo.heap.size, 0, none⟩)), (7, .pointer (some ⟨wo.heap.size + 1, 0, none⟩)), (9, (.func (Fn.func 101) #[] #[.pointer (some ⟨wo.heap.size + 1 + 1, 0, none⟩)])), (12, .bool nb), (90, .bool (nb && !okName nm))] a' → Q .normal a' w) : ∀ ac, Frm 133 [(1, .int .i64 (d : Nat)), (2, .pointer (some ⟨bn, 0, none⟩)), (3, .pointer (some ⟨bo, 0, none⟩)), (4, .pointer (some ⟨bw, 0, none⟩)), (5, .pointer (some ⟨wo.heap.size, 0, none⟩)), (7, .pointer (some ⟨wo.heap.size + 1, 0, none⟩)), (9, (.func (Fn.func 101) #[] #[.pointer (some ⟨wo.heap.size + 1 + 1, 0, none⟩)])), (12, .bool nb)] ac → Code.wp Tryd.prog c_ck_r19 Q ac w := by
  refine frm_open ?_
  refine frame_ck ?_
  intros
  rename_i hq
  obtain ⟨-, -, e0q, e1q, e2q, e3q, e4q, e5q, e6q, e7q, -⟩ := hq
  obtain rfl := sI e0q
  obtain rfl := sI e1q
  obtain rfl := sI e2q
  obtain rfl := sI e3q
  obtain rfl := sI e4q
  obtain rfl := sI e5q
  obtain rfl := sI e6q
  obtain rfl := sI e7q
  conv => arg 2; whnf
  have a0 := cellv hs.a 0 rfl
  have a1 := cellv hs.a 1 rfl
  have a2 := cellv hs.a 2 rfl
  have a3 := cellv hs.a 3 rfl
  have al := lt_heap hs.a
  have hnm := name_any nm w hn
  have HS := Lib.hid hs
  clear hs
  have HNM := Lib.hid hnm
  clear hnm
  cases nb
  · rw [show (false && !okName nm) = false from rfl] at hN
    have HN := Lib.hid hN
    clear hN
    go_wp2_with fail
    exact HN.out _ (id ⟨rfl, rfl, rfl, rfl, rfl, rfl, rfl, rfl, rfl, rfl, rfl, trivial⟩)
  · rw [show (true && !okName nm) = !okName nm from by simp] at hN
    have HN := Lib.hid hN
    clear hN
    go_wp2_with fail
    (with_reducible refine HNM.out.mono ?_)
    rintro e w1 ⟨rfl, rfl⟩
    go_wp2_with fail
    exact HN.out _ (id ⟨rfl, rfl, rfl, rfl, rfl, rfl, rfl, rfl, rfl, rfl, rfl, trivial⟩)
noncomputable def c_ck_r20 : Code := sub [1, 1, 1, 1, 1, 1, 1, 1, 1, 1, 1, 0, 1, 1, 0, 0] (Tryd.f100.body.getD .skip)
set_option maxRecDepth 1000000 in
set_option maxHeartbeats 16000000 in
theorem ck_r20_wp {Q : Exit → Act → World → Prop} {bn bo bw d n m : Nat} {wo w : World} {kd : Int} {nm : ByteArray} {A B : Option Addr} {n1 c1 n2 c2 : Nat} (hs : CS wo w bn kd nm A n1 c1 B n2 c2 n m) (hN : ∀ a' w', Frm 133 [(7, .pointer (some ⟨wo.heap.size + 1, 0, none⟩))] a' → CD wo w' bn m (.int .i64 10) (.int .i64 (n : Nat)) → Q .normal a' w') : ∀ ac, Frm 133 [(1, .int .i64 (d : Nat)), (2, .pointer (some ⟨bn, 0, none⟩)), (3, .pointer (some ⟨bo, 0, none⟩)), (4, .pointer (some ⟨bw, 0, none⟩)), (5, .pointer (some ⟨wo.heap.size, 0, none⟩)), (7, .pointer (some ⟨wo.heap.size + 1, 0, none⟩)), (9, (.func (Fn.func 101) #[] #[.pointer (some ⟨wo.heap.size + 1 + 1, 0, none⟩)]))] ac → Code.wp Tryd.prog c_ck_r20 Q ac w := by
  refine frm_open ?_
  refine frame_ck ?_
  intros
  rename_i hq
  obtain ⟨-, -, e0q, e1q, e2q, e3q, e4q, e5q, e6q, -⟩ := hq
  obtain rfl := sI e0q
  obtain rfl := sI e1q
  obtain rfl := sI e2q
  obtain rfl := sI e3q
  obtain rfl := sI e4q
  obtain rfl := sI e5q
  obtain rfl := sI e6q
  conv => arg 2; whnf
  have hb := badF_any (wo.heap.size + 1 + 1) n 10 w hs.p
  have HN := Lib.hid hN
  have HB := Lib.hid hb
  clear hN hb
  have HS := Lib.hid hs
  clear hs
  go_wp2_with fail
  (with_reducible refine HB.out.mono ?_)
  rintro e w1 ⟨rfl, hb1⟩
  have hs := HS.out.below hb1
  have rc0 := cellv hs.r 0 rfl
  have rc1 := cellv hs.r 1 rfl
  have rf0 := free_heap hs.r 0
  have rf1 := free_heap hs.r 1
  have rl := lt_heap hs.r
  have HS := Lib.hid hs
  clear hs
  clear hb1
  go_wp2_with fail
  exact HN.out _ _ (id ⟨rfl, rfl, rfl, trivial⟩) (HS.out.put _ _)
noncomputable def c_ck_r21 : Code := sub [1, 1, 1, 1, 1, 1, 1, 1, 1, 1, 1, 0, 1, 1, 1, 0] (Tryd.f100.body.getD .skip)
set_option maxRecDepth 1000000 in
set_option maxHeartbeats 16000000 in
theorem ck_r21_wp {Q : Exit → Act → World → Prop} {nb : Bool} {bn bo bw d n m : Nat} {wo w : World} {kd : Int} {nm : ByteArray} {A B : Option Addr} {n1 c1 n2 c2 : Nat} (hs : CS wo w bn kd nm A n1 c1 B n2 c2 n m) (hN : ∀ a', Frm 133 [(1, .int .i64 (d : Nat)), (2, .pointer (some ⟨bn, 0, none⟩)), (3, .pointer (some ⟨bo, 0, none⟩)), (4, .pointer (some ⟨bw, 0, none⟩)), (5, .pointer (some ⟨wo.heap.size, 0, none⟩)), (7, .pointer (some ⟨wo.heap.size + 1, 0, none⟩)), (9, (.func (Fn.func 101) #[] #[.pointer (some ⟨wo.heap.size + 1 + 1, 0, none⟩)])), (99, .bool (!nb && decide (nm ≠ bNilF)))] a' → Q .normal a' w) : ∀ ac, Frm 133 [(1, .int .i64 (d : Nat)), (2, .pointer (some ⟨bn, 0, none⟩)), (3, .pointer (some ⟨bo, 0, none⟩)), (4, .pointer (some ⟨bw, 0, none⟩)), (5, .pointer (some ⟨wo.heap.size, 0, none⟩)), (7, .pointer (some ⟨wo.heap.size + 1, 0, none⟩)), (9, (.func (Fn.func 101) #[] #[.pointer (some ⟨wo.heap.size + 1 + 1, 0, none⟩)])), (12, .bool nb)] ac → Code.wp Tryd.prog c_ck_r21 Q ac w := by
  refine frm_open ?_
  refine frame_ck ?_
  intros
  rename_i hq
  obtain ⟨-, -, e0q, e1q, e2q, e3q, e4q, e5q, e6q, e7q, -⟩ := hq
  obtain rfl := sI e0q
  obtain rfl := sI e1q
  obtain rfl := sI e2q
  obtain rfl := sI e3q
  obtain rfl := sI e4q
  obtain rfl := sI e5q
  obtain rfl := sI e6q
  obtain rfl := sI e7q
  conv => arg 2; whnf
  have a0 := cellv hs.a 0 rfl
  have a1 := cellv hs.a 1 rfl
  have a2 := cellv hs.a 2 rfl
  have a3 := cellv hs.a 3 rfl
  have al := lt_heap hs.a
  have HS := Lib.hid hs
  clear hs
  cases nb
  case true =>
    rw [show (!true && decide (nm ≠ bNilF)) = false from rfl] at hN
    have HN := Lib.hid hN
    clear hN
    go_wp2_with fail
    exact HN.out _ (id ⟨rfl, rfl, rfl, rfl, rfl, rfl, rfl, rfl, rfl, rfl, trivial⟩)
  rw [show (!false && decide (nm ≠ bNilF)) = decide (nm ≠ bNilF) from by simp] at hN
  by_cases hz : nm = bNilF
  · subst hz
    have t1 : bNilF.toList.isEmpty = true := by simp [ByteArray.toList_eq, bNilF]
    rw [show decide (bNilF ≠ bNilF) = false from decide_eq_false (fun h => h rfl)] at hN
    have HN := Lib.hid hN
    clear hN
    go_wp2_with fail
    exact HN.out _ (id ⟨rfl, rfl, rfl, rfl, rfl, rfl, rfl, rfl, rfl, rfl, trivial⟩)
  · have t1 : nm.toList.isEmpty = false := by
      cases e : nm.toList.isEmpty
      · rfl
      · exact absurd (bytes_inj (by rw [List.isEmpty_iff.1 e]; simp [bNilF])) hz
    rw [show decide (nm ≠ bNilF) = true from decide_eq_true hz] at hN
    clear hz
    have HN := Lib.hid hN
    clear hN
    go_wp2_with fail
    exact HN.out _ (id ⟨rfl, rfl, rfl, rfl, rfl, rfl, rfl, rfl, rfl, rfl, trivial⟩)
noncomputable def c_ck_r22 : Code := sub [1, 1, 1, 1, 1, 1, 1, 1, 1, 1, 1, 0, 1, 1, 1, 1, 0, 0] (Tryd.f100.body.getD .skip)
set_option maxRecDepth 1000000 in
set_option maxHeartbeats 16000000 in
theorem ck_r22_wp {Q : Exit → Act → World → Prop} {bn bo bw d n m : Nat} {wo w : World} {kd : Int} {nm : ByteArray} {A B : Option Addr} {n1 c1 n2 c2 : Nat} (hs : CS wo w bn kd nm A n1 c1 B n2 c2 n m) (hN : ∀ a' w', Frm 133 [(7, .pointer (some ⟨wo.heap.size + 1, 0, none⟩))] a' → CD wo w' bn m (.int .i64 5) (.int .i64 (n : Nat)) → Q .normal a' w') : ∀ ac, Frm 133 [(1, .int .i64 (d : Nat)), (2, .pointer (some ⟨bn, 0, none⟩)), (3, .pointer (some ⟨bo, 0, none⟩)), (4, .pointer (some ⟨bw, 0, none⟩)), (5, .pointer (some ⟨wo.heap.size, 0, none⟩)), (7, .pointer (some ⟨wo.heap.size + 1, 0, none⟩)), (9, (.func (Fn.func 101) #[] #[.pointer (some ⟨wo.heap.size + 1 + 1, 0, none⟩)]))] ac → Code.wp Tryd.prog c_ck_r22 Q ac w := by
  refine frm_open ?_
  refine frame_ck ?_
  intros
  rename_i hq
  obtain ⟨-, -, e0q, e1q, e2q, e3q, e4q, e5q, e6q, -⟩ := hq
  obtain rfl := sI e0q
  obtain rfl := sI e1q
  obtain rfl := sI e2q
  obtain rfl := sI e3q
  obtain rfl := sI e4q
  obtain rfl := sI e5q
  obtain rfl := sI e6q
  conv => arg 2; whnf
  have hb := badF_any (wo.heap.size + 1 + 1) n 5 w hs.p
  have HN := Lib.hid hN
  have HB := Lib.hid hb
  clear hN hb
  have HS := Lib.hid hs
  clear hs
  go_wp2_with fail
  (with_reducible refine HB.out.mono ?_)
  rintro e w1 ⟨rfl, hb1⟩
  have hs := HS.out.below hb1
  have rc0 := cellv hs.r 0 rfl
  have rc1 := cellv hs.r 1 rfl
  have rf0 := free_heap hs.r 0
  have rf1 := free_heap hs.r 1
  have rl := lt_heap hs.r
  have HS := Lib.hid hs
  clear hs
  clear hb1
  go_wp2_with fail
  exact HN.out _ _ (id ⟨rfl, rfl, rfl, trivial⟩) (HS.out.put _ _)
noncomputable def c_ck_r23 : Code := sub [1, 1, 1, 1, 1, 1, 1, 1, 1, 1, 1, 1, 0, 0] (Tryd.f100.body.getD .skip)
set_option maxRecDepth 1000000 in
set_option maxHeartbeats 16000000 in
theorem ck_r23_wp {Q : Exit → Act → World → Prop} {bn bo bw d n m : Nat} {wo w : World} {kd : Int} {nm : ByteArray} {A B : Option Addr} {n1 c1 n2 c2 : Nat} (hs : CS wo w bn kd nm A n1 c1 B n2 c2 n m) (hN : ∀ a', Frm 133 [(1, .int .i64 (d : Nat)), (2, .pointer (some ⟨bn, 0, none⟩)), (3, .pointer (some ⟨bo, 0, none⟩)), (4, .pointer (some ⟨bw, 0, none⟩)), (5, .pointer (some ⟨wo.heap.size, 0, none⟩)), (7, .pointer (some ⟨wo.heap.size + 1, 0, none⟩)), (9, (.func (Fn.func 101) #[] #[.pointer (some ⟨wo.heap.size + 1 + 1, 0, none⟩)])), (103, .slice A n1 c1), (104, .int .i64 (n1 : Nat)), (105, .int .i64 (0 : Nat))] a' → Q .normal a' w) : ∀ ac, Frm 133 [(1, .int .i64 (d : Nat)), (2, .pointer (some ⟨bn, 0, none⟩)), (3, .pointer (some ⟨bo, 0, none⟩)), (4, .pointer (some ⟨bw, 0, none⟩)), (5, .pointer (some ⟨wo.heap.size, 0, none⟩)), (7, .pointer (some ⟨wo.heap.size + 1, 0, none⟩)), (9, (.func (Fn.func 101) #[] #[.pointer (some ⟨wo.heap.size + 1 + 1, 0, none⟩)]))] ac → Code.wp Tryd.prog c_ck_r23 Q ac w := by
  refine frm_open ?_
  refine frame_ck ?_
  intros
  rename_i hq
  obtain ⟨-, -, e0q, e1q, e2q, e3q, e4q, e5q, e6q, -⟩ := hq
  obtain rfl := sI e0q
  obtain rfl := sI e1q
  obtain rfl := sI e2q
  obtain rfl := sI e3q
  obtain rfl := sI e4q
  obtain rfl := sI e5q
  obtain rfl := sI e6q
  conv => arg 2; whnf
  have a0 := cellv hs.a 0 rfl
  have a1 := cellv hs.a 1 rfl
  have a2 := cellv hs.a 2 rfl
  have a3 := cellv hs.a 3 rfl
  have al := lt_heap hs.a
  have HS := Lib.hid hs
  clear hs
  have HN := Lib.hid hN
  clear hN
  go_wp2_with fail
  exact HN.out _ (id ⟨rfl, rfl, rfl, rfl, rfl, rfl, rfl, rfl, rfl, rfl, rfl, rfl, trivial⟩)
noncomputable def c_ck_r24 : Code := sub [1, 1, 1, 1, 1, 1, 1, 1, 1, 1, 1, 1, 0, 1, 0, 0, 0] (Tryd.f100.body.getD .skip)
set_option maxRecDepth 1000000 in
set_option maxHeartbeats 16000000 in
theorem ck_r24_wp {Q : Exit → Act → World → Prop} {i bn bo bw d : Nat} {wo w : World} {A : Option Addr} {n1 c1 : Nat} (hN : ∀ a', Frm 133 [(1, .int .i64 (d : Nat)), (2, .pointer (some ⟨bn, 0, none⟩)), (3, .pointer (some ⟨bo, 0, none⟩)), (4, .pointer (some ⟨bw, 0, none⟩)), (5, .pointer (some ⟨wo.heap.size, 0, none⟩)), (7, .pointer (some ⟨wo.heap.size + 1, 0, none⟩)), (9, (.func (Fn.func 101) #[] #[.pointer (some ⟨wo.heap.size + 1 + 1, 0, none⟩)])), (103, .slice A n1 c1), (104, .int .i64 (n1 : Nat)), (105, .int .i64 (i : Nat)), (106, .bool (decide (i < n1)))] a' → Q .normal a' w) : ∀ ac, Frm 133 [(1, .int .i64 (d : Nat)), (2, .pointer (some ⟨bn, 0, none⟩)), (3, .pointer (some ⟨bo, 0, none⟩)), (4, .pointer (some ⟨bw, 0, none⟩)), (5, .pointer (some ⟨wo.heap.size, 0, none⟩)), (7, .pointer (some ⟨wo.heap.size + 1, 0, none⟩)), (9, (.func (Fn.func 101) #[] #[.pointer (some ⟨wo.heap.size + 1 + 1, 0, none⟩)])), (103, .slice A n1 c1), (104, .int .i64 (n1 : Nat)), (105, .int .i64 (i : Nat))] ac → Code.wp Tryd.prog c_ck_r24 Q ac w := by
  refine frm_open ?_
  refine frame_ck ?_
  intros
  rename_i hq
  obtain ⟨-, -, e0q, e1q, e2q, e3q, e4q, e5q, e6q, e7q, e8q, e9q, -⟩ := hq
  obtain rfl := sI e0q
  obtain rfl := sI e1q
  obtain rfl := sI e2q
  obtain rfl := sI e3q
  obtain rfl := sI e4q
  obtain rfl := sI e5q
  obtain rfl := sI e6q
  obtain rfl := sI e7q
  obtain rfl := sI e8q
  obtain rfl := sI e9q
  conv => arg 2; whnf
  by_cases h : i < n1
  · have t1 : decide ((i : Int) < (n1 : Int)) = true := decide_eq_true (by omega)
    have t2 : decide (i < n1) = true := decide_eq_true h
    rw [t2] at hN
    clear h
    have HN := Lib.hid hN
    clear hN
    go_wp2_with fail
    exact HN.out _ (id ⟨rfl, rfl, rfl, rfl, rfl, rfl, rfl, rfl, rfl, rfl, rfl, rfl, rfl, trivial⟩)
  · have t1 : decide ((i : Int) < (n1 : Int)) = false := decide_eq_false (by omega)
    have t2 : decide (i < n1) = false := decide_eq_false h
    rw [t2] at hN
    clear h
    have HN := Lib.hid hN
    clear hN
    go_wp2_with fail
    exact HN.out _ (id ⟨rfl, rfl, rfl, rfl, rfl, rfl, rfl, rfl, rfl, rfl, rfl, rfl, rfl, trivial⟩)
noncomputable def c_ck_r25 : Code := sub [1, 1, 1, 1, 1, 1, 1, 1, 1, 1, 1, 1, 0, 1, 0, 0, 1, 1, 0, 0, 0] (Tryd.f100.body.getD .skip)
set_option maxRecDepth 1000000 in
set_option maxHeartbeats 16000000 in
theorem ck_r25_wp {Q : Exit → Act → World → Prop} {b o : Nat} {s : ByteArray} {i bn bo bw d : Nat} {wo w : World} {n1 c1 : Nat} (hi : i < n1) (hc : w.cell? ⟨b, o + i, none⟩ = some (.string s)) (hbl : b < w.heap.size) (hN : ∀ a', Frm 133 [(1, .int .i64 (d : Nat)), (2, .pointer (some ⟨bn, 0, none⟩)), (3, .pointer (some ⟨bo, 0, none⟩)), (4, .pointer (some ⟨bw, 0, none⟩)), (5, .pointer (some ⟨wo.heap.size, 0, none⟩)), (7, .pointer (some ⟨wo.heap.size + 1, 0, none⟩)), (9, (.func (Fn.func 101) #[] #[.pointer (some ⟨wo.heap.size + 1 + 1, 0, none⟩)])), (103, .slice (some ⟨b, o, none⟩) n1 c1), (104, .int .i64 (n1 : Nat)), (105, .int .i64 (i : Nat)), (14, .string s)] a' → Q .normal a' w) : ∀ ac, Frm 133 [(1, .int .i64 (d : Nat)), (2, .pointer (some ⟨bn, 0, none⟩)), (3, .pointer (some ⟨bo, 0, none⟩)), (4, .pointer (some ⟨bw, 0, none⟩)), (5, .pointer (some ⟨wo.heap.size, 0, none⟩)), (7, .pointer (some ⟨wo.heap.size + 1, 0, none⟩)), (9, (.func (Fn.func 101) #[] #[.pointer (some ⟨wo.heap.size + 1 + 1, 0, none⟩)])), (103, .slice (some ⟨b, o, none⟩) n1 c1), (104, .int .i64 (n1 : Nat)), (105, .int .i64 (i : Nat))] ac → Code.wp Tryd.prog c_ck_r25 Q ac w := by
  refine frm_open ?_
  refine frame_ck ?_
  intros
  rename_i hq
  obtain ⟨-, -, e0q, e1q, e2q, e3q, e4q, e5q, e6q, e7q, e8q, e9q, -⟩ := hq
  obtain rfl := sI e0q
  obtain rfl := sI e1q
  obtain rfl := sI e2q
  obtain rfl := sI e3q
  obtain rfl := sI e4q
  obtain rfl := sI e5q
  obtain rfl := sI e6q
  obtain rfl := sI e7q
  obtain rfl := sI e8q
  obtain rfl := sI e9q
  conv => arg 2; whnf
  have q0 : (0 : Int) ≤ (i : Int) := by omega
  have q1 : (i : Int) < (n1 : Int) := by omega
  have HN := Lib.hid hN
  clear hN
  go_wp2_with fail
  exact HN.out _ (id ⟨rfl, rfl, rfl, rfl, rfl, rfl, rfl, rfl, rfl, rfl, rfl, rfl, rfl, trivial⟩)
noncomputable def c_ck_r26 : Code := sub [1, 1, 1, 1, 1, 1, 1, 1, 1, 1, 1, 1, 0, 1, 0, 0, 1, 1, 0, 0, 1, 0] (Tryd.f100.body.getD .skip)
set_option maxRecDepth 1000000 in
set_option maxHeartbeats 16000000 in
theorem ck_r26_wp {Q : Exit → Act → World → Prop} {s : ByteArray} {i bn bo bw d : Nat} {wo w : World} {A : Option Addr} {n1 c1 : Nat} (hsz : s.size ≤ maxLen) (hN : ∀ a', Frm 133 [(1, .int .i64 (d : Nat)), (2, .pointer (some ⟨bn, 0, none⟩)), (3, .pointer (some ⟨bo, 0, none⟩)), (4, .pointer (some ⟨bw, 0, none⟩)), (5, .pointer (some ⟨wo.heap.size, 0, none⟩)), (7, .pointer (some ⟨wo.heap.size + 1, 0, none⟩)), (9, (.func (Fn.func 101) #[] #[.pointer (some ⟨wo.heap.size + 1 + 1, 0, none⟩)])), (103, .slice A n1 c1), (104, .int .i64 (n1 : Nat)), (105, .int .i64 (i : Nat)), (111, .bool (!okName s))] a' → Q .normal a' w) : ∀ ac, Frm 133 [(1, .int .i64 (d : Nat)), (2, .pointer (some ⟨bn, 0, none⟩)), (3, .pointer (some ⟨bo, 0, none⟩)), (4, .pointer (some ⟨bw, 0, none⟩)), (5, .pointer (some ⟨wo.heap.size, 0, none⟩)), (7, .pointer (some ⟨wo.heap.size + 1, 0, none⟩)), (9, (.func (Fn.func 101) #[] #[.pointer (some ⟨wo.heap.size + 1 + 1, 0, none⟩)])), (103, .slice A n1 c1), (104, .int .i64 (n1 : Nat)), (105, .int .i64 (i : Nat)), (14, .string s)] ac → Code.wp Tryd.prog c_ck_r26 Q ac w := by
  refine frm_open ?_
  refine frame_ck ?_
  intros
  rename_i hq
  obtain ⟨-, -, e0q, e1q, e2q, e3q, e4q, e5q, e6q, e7q, e8q, e9q, e10q, -⟩ := hq
  obtain rfl := sI e0q
  obtain rfl := sI e1q
  obtain rfl := sI e2q
  obtain rfl := sI e3q
  obtain rfl := sI e4q
  obtain rfl := sI e5q
  obtain rfl := sI e6q
  obtain rfl := sI e7q
  obtain rfl := sI e8q
  obtain rfl := sI e9q
  obtain rfl := sI e10q
  conv => arg 2; whnf
  have hnm := name_any s w hsz
  have HN := Lib.hid hN
  have HNM := Lib.hid hnm
  clear hN hnm
  go_wp2_with fail
  (with_reducible refine HNM.out.mono ?_)
  rintro e w1 ⟨rfl, rfl⟩
  go_wp2_with fail
  exact HN.out _ (id ⟨rfl, rfl, rfl, rfl, rfl, rfl, rfl, rfl, rfl, rfl, rfl, rfl, rfl, trivial⟩)
noncomputable def c_ck_r27 : Code := sub [1, 1, 1, 1, 1, 1, 1, 1, 1, 1, 1, 1, 0, 1, 0, 0, 1, 1, 0, 0, 1, 1, 0, 0] (Tryd.f100.body.getD .skip)
set_option maxRecDepth 1000000 in
set_option maxHeartbeats 16000000 in
theorem ck_r27_wp {Q : Exit → Act → World → Prop} {bn bo bw d n m : Nat} {wo w : World} {kd : Int} {nm : ByteArray} {A B : Option Addr} {n1 c1 n2 c2 : Nat} (hs : CS wo w bn kd nm A n1 c1 B n2 c2 n m) (hN : ∀ a' w', Frm 133 [(7, .pointer (some ⟨wo.heap.size + 1, 0, none⟩))] a' → CD wo w' bn m (.int .i64 10) (.int .i64 (n : Nat)) → Q .normal a' w') : ∀ ac, Frm 133 [(1, .int .i64 (d : Nat)), (2, .pointer (some ⟨bn, 0, none⟩)), (3, .pointer (some ⟨bo, 0, none⟩)), (4, .pointer (some ⟨bw, 0, none⟩)), (5, .pointer (some ⟨wo.heap.size, 0, none⟩)), (7, .pointer (some ⟨wo.heap.size + 1, 0, none⟩)), (9, (.func (Fn.func 101) #[] #[.pointer (some ⟨wo.heap.size + 1 + 1, 0, none⟩)]))] ac → Code.wp Tryd.prog c_ck_r27 Q ac w := by
  refine frm_open ?_
  refine frame_ck ?_
  intros
  rename_i hq
  obtain ⟨-, -, e0q, e1q, e2q, e3q, e4q, e5q, e6q, -⟩ := hq
  obtain rfl := sI e0q
  obtain rfl := sI e1q
  obtain rfl := sI e2q
  obtain rfl := sI e3q
  obtain rfl := sI e4q
  obtain rfl := sI e5q
  obtain rfl := sI e6q
  conv => arg 2; whnf
  have hb := badF_any (wo.heap.size + 1 + 1) n 10 w hs.p
  have HN := Lib.hid hN
  have HB := Lib.hid hb
  clear hN hb
  have HS := Lib.hid hs
  clear hs
  go_wp2_with fail
  (with_reducible refine HB.out.mono ?_)
  rintro e w1 ⟨rfl, hb1⟩
  have hs := HS.out.below hb1
  have rc0 := cellv hs.r 0 rfl
  have rc1 := cellv hs.r 1 rfl
  have rf0 := free_heap hs.r 0
  have rf1 := free_heap hs.r 1
  have rl := lt_heap hs.r
  have HS := Lib.hid hs
  clear hs
  clear hb1
  go_wp2_with fail
  exact HN.out _ _ (id ⟨rfl, rfl, rfl, trivial⟩) (HS.out.put _ _)
noncomputable def c_ck_r28 : Code := sub [1, 1, 1, 1, 1, 1, 1, 1, 1, 1, 1, 1, 0, 1, 0, 0, 1, 1, 1] (Tryd.f100.body.getD .skip)
set_option maxRecDepth 1000000 in
set_option maxHeartbeats 16000000 in
theorem ck_r28_wp {Q : Exit → Act → World → Prop} {i bn bo bw d : Nat} {wo w : World} {A : Option Addr} {n1 c1 : Nat} (hi : i < n1) (hlim : n1 ≤ maxLen) (hN : ∀ a', Frm 133 [(1, .int .i64 (d : Nat)), (2, .pointer (some ⟨bn, 0, none⟩)), (3, .pointer (some ⟨bo, 0, none⟩)), (4, .pointer (some ⟨bw, 0, none⟩)), (5, .pointer (some ⟨wo.heap.size, 0, none⟩)), (7, .pointer (some ⟨wo.heap.size + 1, 0, none⟩)), (9, (.func (Fn.func 101) #[] #[.pointer (some ⟨wo.heap.size + 1 + 1, 0, none⟩)])), (103, .slice A n1 c1), (104, .int .i64 (n1 : Nat)), (105, .int .i64 (i + 1 : Nat))] a' → Q .normal a' w) : ∀ ac, Frm 133 [(1, .int .i64 (d : Nat)), (2, .pointer (some ⟨bn, 0, none⟩)), (3, .pointer (some ⟨bo, 0, none⟩)), (4, .pointer (some ⟨bw, 0, none⟩)), (5, .pointer (some ⟨wo.heap.size, 0, none⟩)), (7, .pointer (some ⟨wo.heap.size + 1, 0, none⟩)), (9, (.func (Fn.func 101) #[] #[.pointer (some ⟨wo.heap.size + 1 + 1, 0, none⟩)])), (103, .slice A n1 c1), (104, .int .i64 (n1 : Nat)), (105, .int .i64 (i : Nat))] ac → Code.wp Tryd.prog c_ck_r28 Q ac w := by
  refine frm_open ?_
  refine frame_ck ?_
  intros
  rename_i hq
  obtain ⟨-, -, e0q, e1q, e2q, e3q, e4q, e5q, e6q, e7q, e8q, e9q, -⟩ := hq
  obtain rfl := sI e0q
  obtain rfl := sI e1q
  obtain rfl := sI e2q
  obtain rfl := sI e3q
  obtain rfl := sI e4q
  obtain rfl := sI e5q
  obtain rfl := sI e6q
  obtain rfl := sI e7q
  obtain rfl := sI e8q
  obtain rfl := sI e9q
  conv => arg 2; whnf
  have hi4 : (i : Int) ≤ 9223372036854775806 := by unfold maxLen at hlim; omega
  have HN := Lib.hid hN
  clear hN
  go_wp2_with fail
  exact HN.out _ (id ⟨rfl, rfl, rfl, rfl, rfl, rfl, rfl, rfl, rfl, rfl, rfl, rfl, trivial⟩)
noncomputable def c_ck_r29 : Code := sub [1, 1, 1, 1, 1, 1, 1, 1, 1, 1, 1, 1, 1, 0, 0] (Tryd.f100.body.getD .skip)
set_option maxRecDepth 1000000 in
set_option maxHeartbeats 16000000 in
theorem ck_r29_wp {Q : Exit → Act → World → Prop} {bn bo bw d n m : Nat} {wo w : World} {kd : Int} {nm : ByteArray} {A B : Option Addr} {n1 c1 n2 c2 : Nat} (hs : CS wo w bn kd nm A n1 c1 B n2 c2 n m) (hN : ∀ a', Frm 133 [(1, .int .i64 (d : Nat)), (2, .pointer (some ⟨bn, 0, none⟩)), (3, .pointer (some ⟨bo, 0, none⟩)), (4, .pointer (some ⟨bw, 0, none⟩)), (5, .pointer (some ⟨wo.heap.size, 0, none⟩)), (7, .pointer (some ⟨wo.heap.size + 1, 0, none⟩)), (9, (.func (Fn.func 101) #[] #[.pointer (some ⟨wo.heap.size + 1 + 1, 0, none⟩)])), (116, .slice B n2 c2), (117, .int .i64 (n2 : Nat)), (118, .int .i64 (0 : Nat))] a' → Q .normal a' w) : ∀ ac, Frm 133 [(1, .int .i64 (d : Nat)), (2, .pointer (some ⟨bn, 0, none⟩)), (3, .pointer (some ⟨bo, 0, none⟩)), (4, .pointer (some ⟨bw, 0, none⟩)), (5, .pointer (some ⟨wo.heap.size, 0, none⟩)), (7, .pointer (some ⟨wo.heap.size + 1, 0, none⟩)), (9, (.func (Fn.func 101) #[] #[.pointer (some ⟨wo.heap.size + 1 + 1, 0, none⟩)]))] ac → Code.wp Tryd.prog c_ck_r29 Q ac w := by
  refine frm_open ?_
  refine frame_ck ?_
  intros
  rename_i hq
  obtain ⟨-, -, e0q, e1q, e2q, e3q, e4q, e5q, e6q, -⟩ := hq
  obtain rfl := sI e0q
  obtain rfl := sI e1q
  obtain rfl := sI e2q
  obtain rfl := sI e3q
  obtain rfl := sI e4q
  obtain rfl := sI e5q
  obtain rfl := sI e6q
  conv => arg 2; whnf
  have a0 := cellv hs.a 0 rfl
  have a1 := cellv hs.a 1 rfl
  have a2 := cellv hs.a 2 rfl
  have a3 := cellv hs.a 3 rfl
  have al := lt_heap hs.a
  have HS := Lib.hid hs
  clear hs
  have HN := Lib.hid hN
  clear hN
  go_wp2_with fail
  exact HN.out _ (id ⟨rfl, rfl, rfl, rfl, rfl, rfl, rfl, rfl, rfl, rfl, rfl, rfl, trivial⟩)
noncomputable def c_ck_r30 : Code := sub [1, 1, 1, 1, 1, 1, 1, 1, 1, 1, 1, 1, 1, 0, 1, 0, 0, 0] (Tryd.f100.body.getD .skip)
set_option maxRecDepth 1000000 in
set_option maxHeartbeats 16000000 in
theorem ck_r30_wp {Q : Exit → Act → World → Prop} {i bn bo bw d : Nat} {wo w : World} {B : Option Addr} {n2 c2 : Nat} (hN : ∀ a', Frm 133 [(1, .int .i64 (d : Nat)), (2, .pointer (some ⟨bn, 0, none⟩)), (3, .pointer (some ⟨bo, 0, none⟩)), (4, .pointer (some ⟨bw, 0, none⟩)), (5, .pointer (some ⟨wo.heap.size, 0, none⟩)), (7, .pointer (some ⟨wo.heap.size + 1, 0, none⟩)), (9, (.func (Fn.func 101) #[] #[.pointer (some ⟨wo.heap.size + 1 + 1, 0, none⟩)])), (116, .slice B n2 c2), (117, .int .i64 (n2 : Nat)), (118, .int .i64 (i : Nat)), (119, .bool (decide (i < n2)))] a' → Q .normal a' w) : ∀ ac, Frm 133 [(1, .int .i64 (d : Nat)), (2, .pointer (some ⟨bn, 0, none⟩)), (3, .pointer (some ⟨bo, 0, none⟩)), (4, .pointer (some ⟨bw, 0, none⟩)), (5, .pointer (some ⟨wo.heap.size, 0, none⟩)), (7, .pointer (some ⟨wo.heap.size + 1, 0, none⟩)), (9, (.func (Fn.func 101) #[] #[.pointer (some ⟨wo.heap.size + 1 + 1, 0, none⟩)])), (116, .slice B n2 c2), (117, .int .i64 (n2 : Nat)), (118, .int .i64 (i : Nat))] ac → Code.wp Tryd.prog c_ck_r30 Q ac w := by
  refine frm_open ?_
  refine frame_ck ?_
  intros
  rename_i hq
  obtain ⟨-, -, e0q, e1q, e2q, e3q, e4q, e5q, e6q, e7q, e8q, e9q, -⟩ := hq
  obtain rfl := sI e0q
  obtain rfl := sI e1q
  obtain rfl := sI e2q
  obtain rfl := sI e3q
  obtain rfl := sI e4q
  obtain rfl := sI e5q
  obtain rfl := sI e6q
  obtain rfl := sI e7q
  obtain rfl := sI e8q
  obtain rfl := sI e9q
  conv => arg 2; whnf
  by_cases h : i < n2
  · have t1 : decide ((i : Int) < (n2 : Int)) = true := decide_eq_true (by omega)
    have t2 : decide (i < n2) = true := decide_eq_true h
    rw [t2] at hN
    clear h
    have HN := Lib.hid hN
    clear hN
    go_wp2_with fail
    exact HN.out _ (id ⟨rfl, rfl, rfl, rfl, rfl, rfl, rfl, rfl, rfl, rfl, rfl, rfl, rfl, trivial⟩)
  · have t1 : decide ((i : Int) < (n2 : Int)) = false := decide_eq_false (by omega)
    have t2 : decide (i < n2) = false := decide_eq_false h
    rw [t2] at hN
    clear h
    have HN := Lib.hid hN
    clear hN
    go_wp2_with fail
    exact HN.out _ (id ⟨rfl, rfl, rfl, rfl, rfl, rfl, rfl, rfl, rfl, rfl, rfl, rfl, rfl, trivial⟩)
noncomputable def c_ck_r31 : Code := sub [1, 1, 1, 1, 1, 1, 1, 1, 1, 1, 1, 1, 1, 0, 1, 0, 0, 1, 1, 0, 0, 0] (Tryd.f100.body.getD .skip)
set_option maxRecDepth 1000000 in
set_option maxHeartbeats 16000000 in
theorem ck_r31_wp {Q : Exit → Act → World → Prop} {b o : Nat} {i bn bo bw d : Nat} {wo w : World} {ke : Int} {ne : ByteArray} {Ae Be : Option Addr} {n3 c3 n4 c4 : Nat} {n2 c2 : Nat} (hi : i < n2) (h0 : w.cell? ⟨b, o + i * 4, none⟩ = some (.int .i64 ke)) (h1 : w.cell? ⟨b, o + i * 4 + 1, none⟩ = some (.string ne)) (h2 : w.cell? ⟨b, o + i * 4 + 2, none⟩ = some (.slice Ae n3 c3)) (h3 : w.cell? ⟨b, o + i * 4 + 3, none⟩ = some (.slice Be n4 c4)) (hbl : b < w.heap.size) (hN : ∀ a', Frm 133 [(1, .int .i64 (d : Nat)), (2, .pointer (some ⟨bn, 0, none⟩)), (3, .pointer (some ⟨bo, 0, none⟩)), (4, .pointer (some ⟨bw, 0, none⟩)), (5, .pointer (some ⟨wo.heap.size, 0, none⟩)), (7, .pointer (some ⟨wo.heap.size + 1, 0, none⟩)), (9, (.func (Fn.func 101) #[] #[.pointer (some ⟨wo.heap.size + 1 + 1, 0, none⟩)])), (116, .slice (some ⟨b, o, none⟩) n2 c2), (117, .int .i64 (n2 : Nat)), (118, .int .i64 (i : Nat)), (16, .pointer (some ⟨w.heap.size, 0, none⟩))] a' → Q .normal a' (w.alloc (.cells #[.int .i64 ke, .string ne, .slice Ae n3 c3, .slice Be n4 c4] 29))) : ∀ ac, Frm 133 [(1, .int .i64 (d : Nat)), (2, .pointer (some ⟨bn, 0, none⟩)), (3, .pointer (some ⟨bo, 0, none⟩)), (4, .pointer (some ⟨bw, 0, none⟩)), (5, .pointer (some ⟨wo.heap.size, 0, none⟩)), (7, .pointer (some ⟨wo.heap.size + 1, 0, none⟩)), (9, (.func (Fn.func 101) #[] #[.pointer (some ⟨wo.heap.size + 1 + 1, 0, none⟩)])), (116, .slice (some ⟨b, o, none⟩) n2 c2), (117, .int .i64 (n2 : Nat)), (118, .int .i64 (i : Nat))] ac → Code.wp Tryd.prog c_ck_r31 Q ac w := by
  refine frm_open ?_
  refine frame_ck ?_
  intros
  rename_i hq
  obtain ⟨-, -, e0q, e1q, e2q, e3q, e4q, e5q, e6q, e7q, e8q, e9q, -⟩ := hq
  obtain rfl := sI e0q
  obtain rfl := sI e1q
  obtain rfl := sI e2q
  obtain rfl := sI e3q
  obtain rfl := sI e4q
  obtain rfl := sI e5q
  obtain rfl := sI e6q
  obtain rfl := sI e7q
  obtain rfl := sI e8q
  obtain rfl := sI e9q
  conv => arg 2; whnf
  have q0 : (0 : Int) ≤ (i : Int) := by omega
  have q1 : (i : Int) < (n2 : Int) := by omega
  have HN := Lib.hid hN
  clear hN
  go_wp2_with fail
  exact HN.out _ (id ⟨rfl, rfl, rfl, rfl, rfl, rfl, rfl, rfl, rfl, rfl, rfl, rfl, rfl, trivial⟩)
noncomputable def c_ck_r32 : Code := sub [1, 1, 1, 1, 1, 1, 1, 1, 1, 1, 1, 1, 1, 0, 1, 0, 0, 1, 1, 0, 0, 1, 0] (Tryd.f100.body.getD .skip)
set_option maxRecDepth 1000000 in
set_option maxHeartbeats 16000000 in
theorem ck_r32_wp {Q : Exit → Act → World → Prop} {i ge fc fi m2 : Nat} {ke : Int} {ne : ByteArray} {Ae Be : Option Addr} {n3 c3 n4 c4 : Nat} {bn bo bw d n m : Nat} {wo w : World} {kd : Int} {nm : ByteArray} {A B : Option Addr} {n1 c1 n2 c2 : Nat} (hs : CS wo w bn kd nm A n1 c1 B n2 c2 n m) (hd : d ≤ 50) (hf : w.heap[bw]? = some (.cells #[.func (Fn.func 100) #[] #[.pointer (some ⟨bn, 0, none⟩), .pointer (some ⟨bo, 0, none⟩), .pointer (some ⟨bw, 0, none⟩)]] 110 (0, 0))) (hge : w.heap[ge]? = some (.cells #[.int .i64 ke, .string ne, .slice Ae n3 c3, .slice Be n4 c4] 29 (0, 0))) (hcall : Calls Tryd.prog 100 #[.agg #[.int .i64 ke, .string ne, .slice Ae n3 c3, .slice Be n4 c4], .int .i64 ((d : Int) + 1), .pointer (some ⟨bn, 0, none⟩), .pointer (some ⟨bo, 0, none⟩), .pointer (some ⟨bw, 0, none⟩)] w fun e w' => e = .returned (.agg #[.int .i64 (fc : Nat), .int .i64 (fi : Nat)]) ∧ w'.heap[bn]? = some (.cells #[.int .i64 (m2 : Nat)] 3 (0, 0)) ∧ Keeps (· = bn) w w') (hN : ∀ gf a' w', Frm 133 [(1, .int .i64 (d : Nat)), (2, .pointer (some ⟨bn, 0, none⟩)), (3, .pointer (some ⟨bo, 0, none⟩)), (4, .pointer (some ⟨bw, 0, none⟩)), (5, .pointer (some ⟨wo.heap.size, 0, none⟩)), (7, .pointer (some ⟨wo.heap.size + 1, 0, none⟩)), (9, (.func (Fn.func 101) #[] #[.pointer (some ⟨wo.heap.size + 1 + 1, 0, none⟩)])), (116, .slice B n2 c2), (117, .int .i64 (n2 : Nat)), (118, .int .i64 (i : Nat)), (17, .pointer (some ⟨gf, 0, none⟩))] a' → CS wo w' bn kd nm A n1 c1 B n2 c2 n m2 → w'.heap[gf]? = some (.cells #[.int .i64 (fc : Nat), .int .i64 (fi : Nat)] 31 (0, 0)) → Q .normal a' w') : ∀ ac, Frm 133 [(1, .int .i64 (d : Nat)), (2, .pointer (some ⟨bn, 0, none⟩)), (3, .pointer (some ⟨bo, 0, none⟩)), (4, .pointer (some ⟨bw, 0, none⟩)), (5, .pointer (some ⟨wo.heap.size, 0, none⟩)), (7, .pointer (some ⟨wo.heap.size + 1, 0, none⟩)), (9, (.func (Fn.func 101) #[] #[.pointer (some ⟨wo.heap.size + 1 + 1, 0, none⟩)])), (116, .slice B n2 c2), (117, .int .i64 (n2 : Nat)), (118, .int .i64 (i : Nat)), (16, .pointer (some ⟨ge, 0, none⟩))] ac → Code.wp Tryd.prog c_ck_r32 Q ac w := by
  refine frm_open ?_
  refine frame_ck ?_
  intros
  rename_i hq
  obtain ⟨-, -, e0q, e1q, e2q, e3q, e4q, e5q, e6q, e7q, e8q, e9q, e10q, -⟩ := hq
  obtain rfl := sI e0q
  obtain rfl := sI e1q
  obtain rfl := sI e2q
  obtain rfl := sI e3q
  obtain rfl := sI e4q
  obtain rfl := sI e5q
  obtain rfl := sI e6q
  obtain rfl := sI e7q
  obtain rfl := sI e8q
  obtain rfl := sI e9q
  obtain rfl := sI e10q
  conv => arg 2; whnf
  have f0 := cellv hf 0 rfl
  have fl := lt_heap hf
  have e0 := cellv hge 0 rfl
  have e1 := cellv hge 1 rfl
  have e2 := cellv hge 2 rfl
  have e3 := cellv hge 3 rfl
  have el := lt_heap hge
  have hd4 : (d : Int) ≤ 5000 := by omega
  clear hf hge
  have HN := Lib.hid hN
  have HCALL := Lib.hid hcall
  clear hN hcall
  have HS := Lib.hid hs
  clear hs
  go_wp2_with fail
  (with_reducible refine HCALL.out.mono ?_)
  rintro e w1 ⟨rfl, hc1, hk1⟩
  have HC1 := Lib.hid hc1
  have HK1 := Lib.hid hk1
  clear hc1 hk1
  go_wp2_with fail
  exact HN.out w1.heap.size _ _ (id ⟨rfl, rfl, rfl, rfl, rfl, rfl, rfl, rfl, rfl, rfl, rfl, rfl, rfl, trivial⟩) ((HS.out.keeps HK1.out HC1.out).below ((Below.refl _ _).alloc (Nat.le_refl _) _)) (heap_at rfl)
noncomputable def c_ck_r33 : Code := sub [1, 1, 1, 1, 1, 1, 1, 1, 1, 1, 1, 1, 1, 0, 1, 0, 0, 1, 1, 0, 0, 1, 1, 0] (Tryd.f100.body.getD .skip)
set_option maxRecDepth 1000000 in
set_option maxHeartbeats 16000000 in
theorem ck_r33_wp {Q : Exit → Act → World → Prop} {i gf fc fi bn bo bw d : Nat} {wo w : World} {B : Option Addr} {n2 c2 : Nat} (hgf : w.heap[gf]? = some (.cells #[.int .i64 (fc : Nat), .int .i64 (fi : Nat)] 31 (0, 0))) (hN : ∀ a', Frm 133 [(1, .int .i64 (d : Nat)), (2, .pointer (some ⟨bn, 0, none⟩)), (3, .pointer (some ⟨bo, 0, none⟩)), (4, .pointer (some ⟨bw, 0, none⟩)), (5, .pointer (some ⟨wo.heap.size, 0, none⟩)), (7, .pointer (some ⟨wo.heap.size + 1, 0, none⟩)), (9, (.func (Fn.func 101) #[] #[.pointer (some ⟨wo.heap.size + 1 + 1, 0, none⟩)])), (116, .slice B n2 c2), (117, .int .i64 (n2 : Nat)), (118, .int .i64 (i : Nat)), (17, .pointer (some ⟨gf, 0, none⟩)), (129, .bool (decide (fc ≠ 0)))] a' → Q .normal a' w) : ∀ ac, Frm 133 [(1, .int .i64 (d : Nat)), (2, .pointer (some ⟨bn, 0, none⟩)), (3, .pointer (some ⟨bo, 0, none⟩)), (4, .pointer (some ⟨bw, 0, none⟩)), (5, .pointer (some ⟨wo.heap.size, 0, none⟩)), (7, .pointer (some ⟨wo.heap.size + 1, 0, none⟩)), (9, (.func (Fn.func 101) #[] #[.pointer (some ⟨wo.heap.size + 1 + 1, 0, none⟩)])), (116, .slice B n2 c2), (117, .int .i64 (n2 : Nat)), (118, .int .i64 (i : Nat)), (17, .pointer (some ⟨gf, 0, none⟩))] ac → Code.wp Tryd.prog c_ck_r33 Q ac w := by
  refine frm_open ?_
  refine frame_ck ?_
  intros
  rename_i hq
  obtain ⟨-, -, e0q, e1q, e2q, e3q, e4q, e5q, e6q, e7q, e8q, e9q, e10q, -⟩ := hq
  obtain rfl := sI e0q
  obtain rfl := sI e1q
  obtain rfl := sI e2q
  obtain rfl := sI e3q
  obtain rfl := sI e4q
  obtain rfl := sI e5q
  obtain rfl := sI e6q
  obtain rfl := sI e7q
  obtain rfl := sI e8q
  obtain rfl := sI e9q
  obtain rfl := sI e10q
  conv => arg 2; whnf
  have g0 := cellv hgf 0 rfl
  have g1 := cellv hgf 1 rfl
  have gl := lt_heap hgf
  clear hgf
  by_cases h : fc = 0
  · have t1 : ((fc : Int) != 0) = false := by rw [bne_eq_false_iff_eq]; omega
    rw [show decide (fc ≠ 0) = false from decide_eq_false (fun h2 => h2 h)] at hN
    clear h
    have HN := Lib.hid hN
    clear hN
    go_wp2_with fail
    exact HN.out _ (id ⟨rfl, rfl, rfl, rfl, rfl, rfl, rfl, rfl, rfl, rfl, rfl, rfl, rfl, rfl, trivial⟩)
  · have t1 : ((fc : Int) != 0) = true := by rw [bne_iff_ne]; omega
    rw [show decide (fc ≠ 0) = true from decide_eq_true h] at hN
    clear h
    have HN := Lib.hid hN
    clear hN
    go_wp2_with fail
    exact HN.out _ (id ⟨rfl, rfl, rfl, rfl, rfl, rfl, rfl, rfl, rfl, rfl, rfl, rfl, rfl, rfl, trivial⟩)
noncomputable def c_ck_r34 : Code := sub [1, 1, 1, 1, 1, 1, 1, 1, 1, 1, 1, 1, 1, 0, 1, 0, 0, 1, 1, 0, 0, 1, 1, 1, 0, 0] (Tryd.f100.body.getD .skip)
set_option maxRecDepth 1000000 in
set_option maxHeartbeats 16000000 in
theorem ck_r34_wp {Q : Exit → Act → World → Prop} {gf fc fi : Nat} {bn n m : Nat} {wo w : World} {kd : Int} {nm : ByteArray} {A B : Option Addr} {n1 c1 n2 c2 : Nat} (hs : CS wo w bn kd nm A n1 c1 B n2 c2 n m) (hgf : w.heap[gf]? = some (.cells #[.int .i64 (fc : Nat), .int .i64 (fi : Nat)] 31 (0, 0))) (hN : ∀ a' w', Frm 133 [(7, .pointer (some ⟨wo.heap.size + 1, 0, none⟩))] a' → CD wo w' bn m (.int .i64 (fc : Nat)) (.int .i64 (fi : Nat)) → Q .normal a' w') : ∀ ac, Frm 133 [(7, .pointer (some ⟨wo.heap.size + 1, 0, none⟩)), (17, .pointer (some ⟨gf, 0, none⟩))] ac → Code.wp Tryd.prog c_ck_r34 Q ac w := by
  refine frm_open ?_
  refine frame_ck ?_
  intros
  rename_i hq
  obtain ⟨-, -, e0q, e1q, -⟩ := hq
  obtain rfl := sI e0q
  obtain rfl := sI e1q
  conv => arg 2; whnf
  have g0 := cellv hgf 0 rfl
  have g1 := cellv hgf 1 rfl
  have gl := lt_heap hgf
  clear hgf
  have rc0 := cellv hs.r 0 rfl
  have rc1 := cellv hs.r 1 rfl
  have rf0 := free_heap hs.r 0
  have rf1 := free_heap hs.r 1
  have rl := lt_heap hs.r
  have HS := Lib.hid hs
  clear hs
  have HN := Lib.hid hN
  clear hN
  go_wp2_with fail
  exact HN.out _ _ (id ⟨rfl, rfl, rfl, trivial⟩) (HS.out.put _ _)
noncomputable def c_ck_r35 : Code := sub [1, 1, 1, 1, 1, 1, 1, 1, 1, 1, 1, 1, 1, 0, 1, 0, 0, 1, 1, 1] (Tryd.f100.body.getD .skip)
set_option maxRecDepth 1000000 in
set_option maxHeartbeats 16000000 in
theorem ck_r35_wp {Q : Exit → Act → World → Prop} {i bn bo bw d : Nat} {wo w : World} {B : Option Addr} {n2 c2 : Nat} (hi : i < n2) (hlim : n2 ≤ maxLen) (hN : ∀ a', Frm 133 [(1, .int .i64 (d : Nat)), (2, .pointer (some ⟨bn, 0, none⟩)), (3, .pointer (some ⟨bo, 0, none⟩)), (4, .pointer (some ⟨bw, 0, none⟩)), (5, .pointer (some ⟨wo.heap.size, 0, none⟩)), (7, .pointer (some ⟨wo.heap.size + 1, 0, none⟩)), (9, (.func (Fn.func 101) #[] #[.pointer (some ⟨wo.heap.size + 1 + 1, 0, none⟩)])), (116, .slice B n2 c2), (117, .int .i64 (n2 : Nat)), (118, .int .i64 (i + 1 : Nat))] a' → Q .normal a' w) : ∀ ac, Frm 133 [(1, .int .i64 (d : Nat)), (2, .pointer (some ⟨bn, 0, none⟩)), (3, .pointer (some ⟨bo, 0, none⟩)), (4, .pointer (some ⟨bw, 0, none⟩)), (5, .pointer (some ⟨wo.heap.size, 0, none⟩)), (7, .pointer (some ⟨wo.heap.size + 1, 0, none⟩)), (9, (.func (Fn.func 101) #[] #[.pointer (some ⟨wo.heap.size + 1 + 1, 0, none⟩)])), (116, .slice B n2 c2), (117, .int .i64 (n2 : Nat)), (118, .int .i64 (i : Nat))] ac → Code.wp Tryd.prog c_ck_r35 Q ac w := by
  refine frm_open ?_
  refine frame_ck ?_
  intros
  rename_i hq
  obtain ⟨-, -, e0q, e1q, e2q, e3q, e4q, e5q, e6q, e7q, e8q, e9q, -⟩ := hq
  obtain rfl := sI e0q
  obtain rfl := sI e1q
  obtain rfl := sI e2q
  obtain rfl := sI e3q
  obtain rfl := sI e4q
  obtain rfl := sI e5q
  obtain rfl := sI e6q
  obtain rfl := sI e7q
  obtain rfl := sI e8q
  obtain rfl := sI e9q
  conv => arg 2; whnf
  have hi4 : (i : Int) ≤ 9223372036854775806 := by unfold maxLen at hlim; omega
  have HN := Lib.hid hN
  clear hN
  go_wp2_with fail
  exact HN.out _ (id ⟨rfl, rfl, rfl, rfl, rfl, rfl, rfl, rfl, rfl, rfl, rfl, rfl, trivial⟩)
noncomputable def c_ck_r36 : Code := sub [1, 1, 1, 1, 1, 1, 1, 1, 1, 1, 1, 1, 1, 1, 0] (Tryd.f100.body.getD .skip)
set_option maxRecDepth 1000000 in
set_option maxHeartbeats 16000000 in
theorem ck_r36_wp {Q : Exit → Act → World → Prop} {bn bo bw d n m : Nat} {wo w : World} {kd : Int} {nm : ByteArray} {A B : Option Addr} {n1 c1 n2 c2 : Nat} (hs : CS wo w bn kd nm A n1 c1 B n2 c2 n m) (hN : ∀ a' w', Frm 133 [(7, .pointer (some ⟨wo.heap.size + 1, 0, none⟩))] a' → CD wo w' bn m (.int .i64 0) (.int .i64 0) → Q .normal a' w') : ∀ ac, Frm 133 [(1, .int .i64 (d : Nat)), (2, .pointer (some ⟨bn, 0, none⟩)), (3, .pointer (some ⟨bo, 0, none⟩)), (4, .pointer (some ⟨bw, 0, none⟩)), (5, .pointer (some ⟨wo.heap.size, 0, none⟩)), (7, .pointer (some ⟨wo.heap.size + 1, 0, none⟩)), (9, (.func (Fn.func 101) #[] #[.pointer (some ⟨wo.heap.size + 1 + 1, 0, none⟩)]))] ac → Code.wp Tryd.prog c_ck_r36 Q ac w := by
  refine frm_open ?_
  refine frame_ck ?_
  intros
  rename_i hq
  obtain ⟨-, -, e0q, e1q, e2q, e3q, e4q, e5q, e6q, -⟩ := hq
  obtain rfl := sI e0q
  obtain rfl := sI e1q
  obtain rfl := sI e2q
  obtain rfl := sI e3q
  obtain rfl := sI e4q
  obtain rfl := sI e5q
  obtain rfl := sI e6q
  conv => arg 2; whnf
  have rc0 := cellv hs.r 0 rfl
  have rc1 := cellv hs.r 1 rfl
  have rf0 := free_heap hs.r 0
  have rf1 := free_heap hs.r 1
  have rl := lt_heap hs.r
  have HS := Lib.hid hs
  clear hs
  have HN := Lib.hid hN
  clear hN
  go_wp2_with fail
  exact HN.out _ _ (id ⟨rfl, rfl, rfl, trivial⟩) (HS.out.put _ _)
set_option maxRecDepth 1000000 in
theorem ck_ret_wp {R : Ending → World → Prop} {w' : World} {g : Nat} {f0 f1 : Int} (hg : w'.heap[g]? = some (.cells #[.int .i64 f0, .int .i64 f1] 31 (0, 0))) (hR : R (.returned (.agg #[.int .i64 f0, .int .i64 f1])) w') : ∀ ac, Frm 133 [(7, .pointer (some ⟨g, 0, none⟩))] ac → bodyPost Tryd.prog Tryd.f100 R .ret ac w' := by
  refine frm_open ?_
  refine frame_ck ?_
  intros
  rename_i hq
  obtain ⟨-, -, e0q, -⟩ := hq
  obtain rfl := sI e0q
  have z0 := cellv hg 0 rfl
  have z1 := cellv hg 1 rfl
  have zl := lt_heap hg
  refine bodyPost_ret (v := .agg #[.int .i64 f0, .int .i64 f1]) (by simp [results, Tryd.results100, go_sem, z0, z1, zl]) rfl ?_
  exact hR

end Go.Proofs.YtflcbbikfdahhaaDoor
