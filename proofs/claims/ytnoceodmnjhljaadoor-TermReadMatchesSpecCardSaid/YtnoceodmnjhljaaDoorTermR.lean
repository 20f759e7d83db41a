/-
  (*term.reader).term: the walk.
-/
import Derived.Test.YtnoceodmnjhljaaDoorNumber
import Derived.Test.YtnoceodmnjhljaaDoorTrdText
import Derived.Test.YtnoceodmnjhljaaDoorName
import Derived.Test.YtnoceodmnjhljaaDoorSets
import Derived.Deep.DeepCutAuto
import Derived.BigQuiet
namespace Go.Proofs.YtnoceodmnjhljaaDoor
open Go Go.RowKit
set_option linter.unusedSimpArgs false
set_option linter.unusedVariables false

/-- What term leaves. -/
def TermT (x : ByteArray) (r k : Nat) (s : St) (w : World) (e : Ending) (w' : World) : Prop :=
  ∃ cs : List Value, e = .returned (.agg cs.toArray) ∧ tmRep.R w' (Fresh w w') (termF x k s).1 cs ∧ RdT (termF x k s).2.n w' r x (termF x k s).2.i (termF x k s).2.c (termF x k s).2.j ∧ Keeps (· = r) w w'

theorem noTy_inT {W : World} {S : Nat → Prop} : noTy.In W S (.string ⟨#[]⟩) (.slice none 0 0) := Ty.In.mk_ (by decide +kernel) rfl (by omega) (by omega)
theorem tmZT_rep {W : World} {S : Nat → Prop} : tmRep.R W S tmZT [.int .i64 0, .string ⟨#[]⟩, .int .i64 0, .string ⟨#[]⟩, .slice none 0 0, .slice none 0 0] :=
  Tm.shut (a := ⟨0, bNil, 0, noTy⟩) (l := []) (by decide +kernel) noTy_inT Rep.Sl.nil
/-- One part in a block of its own; two. -/
theorem Tm.oneT {W : World} {S : Nat → Prop} {x : Tm} {ds : List Value} {blk : Nat} {T : TypeId} {fr : Nat × Nat} (hx : tmRep.R W S x ds) (hb : W.heap[blk]? = some (.cells ds.toArray T fr)) (hS : S blk) :
    tmRep.Sl W S (.slice (some ⟨blk, 0, none⟩) 1 1) [x] :=
  ⟨_, 1, 1, rfl, rfl, by simp [maxLen], fun _ => ⟨blk, 0, ds, rfl, hS, Rep.All.single hx, fun j u hj => by rw [Nat.zero_add]; exact cell_heap hb (by simpa using hj)⟩⟩
theorem Tm.twoT {W : World} {S : Nat → Prop} {f x : Tm} {cs ds : List Value} {blk : Nat} {T : TypeId} {fr : Nat × Nat} (hf : tmRep.R W S f cs) (hx : tmRep.R W S x ds) (hb : W.heap[blk]? = some (.cells (cs ++ ds).toArray T fr)) (hS : S blk) :
    tmRep.Sl W S (.slice (some ⟨blk, 0, none⟩) 2 2) [f, x] :=
  ⟨_, 2, 2, rfl, rfl, by simp [maxLen], fun _ => ⟨blk, 0, cs ++ ds, rfl, hS, ⟨cs, ds, rfl, hf, Rep.All.single hx⟩, fun j u hj => by rw [Nat.zero_add]; exact cell_heap hb (by simpa using hj)⟩⟩

set_option maxRecDepth 100000 in
set_option maxHeartbeats 4000000 in
theorem term_err (x : ByteArray) (k d i c j n r : Nat) (w : World) (hr : RdT n w r x i c j) (hc : c ≠ 0) :
    Calls Tryd.prog 17 #[.pointer (some ⟨r, 0, none⟩), .int .i64 d] w (TermT x r k ⟨i, c, j, n⟩ w) := by
  have HR := Lib.hid hr
  have c2 := cellv hr 2 rfl
  have l1 := lt_heap hr
  have hc' : ((c : Int) != 0) = true := by rw [bne_iff_ne]; omega
  have hfin : ∀ w', Keeps (· = r) w w' → RdT n w' r x i c j → TermT x r k ⟨i, c, j, n⟩ w (.returned (.agg #[.int .i64 0, .string ⟨#[]⟩, .int .i64 0, .string ⟨#[]⟩, .slice none 0 0, .slice none 0 0])) w' := by
    intro w' h1 h2
    unfold TermT
    rw [termF_c x k _ hc]
    exact ⟨_, rfl, tmZT_rep, h2, h1⟩
  have HF := Lib.hid hfin
  clear hfin hr hc
  go_enter Tryd.func17, Tryd.ntmps17
  go_wp2_with fail
  refine bodyPost_ret (v := .agg #[.int .i64 0, .string ⟨#[]⟩, .int .i64 0, .string ⟨#[]⟩, .slice none 0 0, .slice none 0 0]) (by simp [results, Tryd.results17, go_sem]) rfl ?_
  exact HF.out _ ((Keeps.refl _ _).alloc _) (heap_old l1 HR.out)

set_option maxRecDepth 100000 in
set_option maxHeartbeats 4000000 in
theorem term_bad (x : ByteArray) (hx : x.size ≤ 4000) (k d i j n r : Nat) (w : World) (hr : RdT n w r x i 0 j) (hi : i ≤ x.size) (hb : ¬ startB (byteAt x i)) :
    Calls Tryd.prog 17 #[.pointer (some ⟨r, 0, none⟩), .int .i64 d] w (TermT x r k ⟨i, 0, j, n⟩ w) := by
  have HR := Lib.hid hr
  have c2 := cellv hr 2 rfl
  have l1 := lt_heap hr
  have Hx := Lib.hid hx
  clear hr hx
  have hfin : ∀ w', Keeps (· = r) w w' → RdT n w' r x i 11 i → TermT x r k ⟨i, 0, j, n⟩ w (.returned (.agg #[.int .i64 0, .string ⟨#[]⟩, .int .i64 0, .string ⟨#[]⟩, .slice none 0 0, .slice none 0 0])) w' := by
    intro w' h1 h2
    have hF : termF x k ⟨i, 0, j, n⟩ = (tmZT, ⟨i, 11, i, n⟩) := by cases k <;> (unfold termF; rw [if_pos rfl, if_neg hb])
    unfold TermT
    rw [hF]
    exact ⟨_, rfl, tmZT_rep, h2, h1⟩
  have HF := Lib.hid hfin
  have g1 : ((byteAt x i : Int) == 35) = false := beq_eq_false_iff_ne.2 (by unfold startB at hb; omega)
  have g2 : ((byteAt x i : Int) == 91) = false := beq_eq_false_iff_ne.2 (by unfold startB at hb; omega)
  have g3 : ((byteAt x i : Int) == 40) = false := beq_eq_false_iff_ne.2 (by unfold startB at hb; omega)
  have g4 : decide ((97 : Int) ≤ (byteAt x i : Int)) = false ∨ (decide ((97 : Int) ≤ (byteAt x i : Int)) = true ∧ decide ((byteAt x i : Int) ≤ 122) = false) := by
    unfold startB at hb
    by_cases h : 97 ≤ byteAt x i
    · exact Or.inr ⟨decide_eq_true (by omega), decide_eq_false (by omega)⟩
    · exact Or.inl (decide_eq_false (by omega))
  clear hfin hb
  go_enter Tryd.func17, Tryd.ntmps17
  go_wp2_with fail
  refine (peekT_any (m := n) r x i 0 j _ (heap_old l1 HR.out)).mono ?_
  rintro e w1 ⟨rfl, hw1, hs1⟩
  have pr : RdT n w1 r x i 0 j := (hw1.block r (by go_size)).trans (heap_old l1 HR.out)
  have pz := (hw1.block w.heap.size (by go_size)).trans (heap_at rfl)
  have zz1 : w1.heap.size = w.heap.size + 1 := by simpa using hs1
  have z1 : w.heap.size + 1 ≤ w1.heap.size := by omega
  have hkw1 := ((Keeps.refl (· = r) w).alloc (.cells #[.int .i64 0, .string ⟨#[]⟩, .int .i64 0, .string ⟨#[]⟩, .slice none 0 0, .slice none 0 0] 27)).step (Below.keeps hw1 (fun _ => False)) (fun _ h => h.elim)
  clear hw1 hs1 zz1
  have HKW1 := Lib.hid hkw1
  clear hkw1
  have pr0 := cellv pr 0 rfl
  have pr1 := cellv pr 1 rfl
  have pr4 := cellv pr 4 rfl
  have prf1 := free_heap pr 1
  have prf4 := free_heap pr 4
  have prl := lt_heap pr
  have PR := Lib.hid pr
  clear pr
  have pz_0 := cv0 pz
  have pz_1 := cv1 pz
  have pz_2 := cv2 pz
  have pz_3 := cv3 pz
  have pz_4 := cv4 pz
  have pz_5 := cv5 pz
  have pz_f0 := free_heap pz 0
  have pz_f1 := free_heap pz 1
  have pz_f2 := free_heap pz 2
  have pz_f3 := free_heap pz 3
  have pz_f4 := free_heap pz 4
  have pz_f5 := free_heap pz 5
  have pz_l := lt_heap pz
  have PZ := Lib.hid pz
  clear pz
  go_upto_region 4 with (fail)
  go_cut [42] (fun s42 wx => s42 = .bool true ∧ wx = w1)
  case first =>
    rcases g4 with g4 | ⟨g4, g5⟩
    · go_wp2_with fail
      go_meet
      exact ⟨rfl, rfl⟩
    · go_wp2_with fail
      go_meet
      exact ⟨rfl, rfl⟩
  case rest =>
  obtain ⟨rfl, hwq⟩ := hcut
  rename World => wq
  obtain rfl : w1 = wq := hwq.symm
  have hfl : ∀ (W : World), RdT (n) W r x i 0 j → Calls Tryd.prog 18 #[.pointer (some ⟨r, 0, none⟩), .int .i64 11, .int .i64 (i : Nat)] W fun e w' => e = .returned (.tuple #[]) ∧ RdT (n) w' r x i 11 i ∧ Keeps (· = r) W w' ∧ w'.heap.size = W.heap.size := fun W h => (failT_any (m := n) r x i 0 j 11 i W h).mono fun e w' h => ⟨h.1, by have := h.2.1; rwa [if_pos rfl] at this, h.2.2⟩
  have HFL := Lib.hid hfl
  clear hfl
  go_wp2_with fail
  go_region_held3 (fun w' => w'.cell? ⟨r, 1, none⟩ = some (.int .i64 (i : Nat)))
    ((first | (go_keep; done) | exact cellv HR4.out 1 rfl))
    (((with_reducible refine (HFL.out _ (by first | exact PR.out.drew | exact PR.out)).mono ?_); rintro e w4 ⟨rfl, hr4, hk4, hs4⟩; have HR4 := Lib.hid hr4; have HK4 := Lib.hid hk4; clear hr4 hk4 hs4))
  all_goals
    have qz := (HK4.out.block w.heap.size pz_l (by omega)).trans (by first | exact heap_drew PZ.out | exact PZ.out)
    have hk5 : Keeps (· = r) w w4 := by first | exact (HKW1.out.drew).step HK4.out (fun _ h => Or.inl h) | exact HKW1.out.step HK4.out (fun _ h => Or.inl h)
    have HK5 := Lib.hid hk5
    clear pr0 pr1 pr4 prf1 prf4 prl pz_0 pz_1 pz_2 pz_3 pz_4 pz_5 pz_f0 pz_f1 pz_f2 pz_f3 pz_f4 pz_f5 pz_l
    clear hk5
    have qz_0 := cv0 qz
    have qz_1 := cv1 qz
    have qz_2 := cv2 qz
    have qz_3 := cv3 qz
    have qz_4 := cv4 qz
    have qz_5 := cv5 qz
    have qz_f0 := free_heap qz 0
    have qz_f1 := free_heap qz 1
    have qz_f2 := free_heap qz 2
    have qz_f3 := free_heap qz 3
    have qz_f4 := free_heap qz 4
    have qz_f5 := free_heap qz 5
    have qz_l := lt_heap qz
    have QZ := Lib.hid qz
    clear qz
    go_wp2_with fail
    refine bodyPost_ret (v := .agg #[.int .i64 0, .string ⟨#[]⟩, .int .i64 0, .string ⟨#[]⟩, .slice none 0 0, .slice none 0 0]) (by simp [results, Tryd.results17, go_sem, qz_0, qz_1, qz_2, qz_3, qz_4, qz_5, qz_l]) rfl ?_
    exact HF.out _ ((((((HK5.out.set (Or.inr (Nat.le_refl _)) _ _).set (Or.inr (Nat.le_refl _)) _ _).set (Or.inr (Nat.le_refl _)) _ _).set (Or.inr (Nat.le_refl _)) _ _).set (Or.inr (Nat.le_refl _)) _ _).set (Or.inr (Nat.le_refl _)) _ _) (far6 (by omega) HR4.out)

set_option maxRecDepth 100000 in
set_option maxHeartbeats 4000000 in
theorem term_much (x : ByteArray) (hx : x.size ≤ 4000) (k d i j n r : Nat) (w : World) (hr : RdT n w r x i 0 j) (hb : startB (byteAt x i)) (hn : n ≤ 200) (hd : d + k = 41) (hm : 200 < n + 1 ∨ k = 0) :
    Calls Tryd.prog 17 #[.pointer (some ⟨r, 0, none⟩), .int .i64 d] w (TermT x r k ⟨i, 0, j, n⟩ w) := by
  have hlt := byteAt_lt (x := x) (i := i) (by unfold startB at hb; omega)
  have HR := Lib.hid hr
  have c2 := cellv hr 2 rfl
  have l1 := lt_heap hr
  have Hx := Lib.hid hx
  clear hr hx
  have hfin : ∀ w', Keeps (· = r) w w' → RdT (n + 1) w' r x i 1 i → TermT x r k ⟨i, 0, j, n⟩ w (.returned (.agg #[.int .i64 0, .string ⟨#[]⟩, .int .i64 0, .string ⟨#[]⟩, .slice none 0 0, .slice none 0 0])) w' := by
    intro w' h1 h2
    have hF : termF x k ⟨i, 0, j, n⟩ = (tmZT, ⟨i, 1, i, n + 1⟩) := by
      cases k with
      | zero => unfold termF; rw [if_pos rfl, if_pos hb]
      | succ k => unfold termF; rw [if_pos rfl, if_pos hb, if_pos (by simp only; omega)]
    unfold TermT
    rw [hF]
    exact ⟨_, rfl, tmZT_rep, h2, h1⟩
  have HF := Lib.hid hfin
  have hs : ((byteAt x i : Int) == 35) = true ∨ (((byteAt x i : Int) == 35) = false ∧ ((byteAt x i : Int) == 91) = true) ∨ (((byteAt x i : Int) == 35) = false ∧ ((byteAt x i : Int) == 91) = false ∧ ((byteAt x i : Int) == 40) = true) ∨ (((byteAt x i : Int) == 35) = false ∧ ((byteAt x i : Int) == 91) = false ∧ ((byteAt x i : Int) == 40) = false ∧ decide ((97 : Int) ≤ (byteAt x i : Int)) = true ∧ decide ((byteAt x i : Int) ≤ 122) = true) := by
    have ne : ∀ q : Nat, byteAt x i ≠ q → ((byteAt x i : Int) == (q : Int)) = false := fun q h => beq_eq_false_iff_ne.2 (by omega)
    by_cases h1 : byteAt x i = 35
    · exact Or.inl (by rw [h1]; rfl)
    by_cases h2 : byteAt x i = 91
    · exact Or.inr (Or.inl ⟨ne 35 h1, by rw [h2]; rfl⟩)
    by_cases h3 : byteAt x i = 40
    · exact Or.inr (Or.inr (Or.inl ⟨ne 35 h1, ne 91 h2, by rw [h3]; rfl⟩))
    unfold startB at hb
    exact Or.inr (Or.inr (Or.inr ⟨ne 35 h1, ne 91 h2, ne 40 h3, decide_eq_true (by omega), decide_eq_true (by omega)⟩))
  have HS := Lib.hid hs
  have hq : (200 : Int) < (n : Int) + 1 ∨ (¬ (200 : Int) < (n : Int) + 1 ∧ (40 : Int) < (d : Int)) := by omega
  clear hfin hb hm hs
  go_enter Tryd.func17, Tryd.ntmps17
  go_wp2_with fail
  refine (peekT_any (m := n) r x i 0 j _ (heap_old l1 HR.out)).mono ?_
  rintro e w1 ⟨rfl, hw1, hs1⟩
  have pr : RdT n w1 r x i 0 j := (hw1.block r (by go_size)).trans (heap_old l1 HR.out)
  have pz := (hw1.block w.heap.size (by go_size)).trans (heap_at rfl)
  have zz1 : w1.heap.size = w.heap.size + 1 := by simpa using hs1
  have z1 : w.heap.size + 1 ≤ w1.heap.size := by omega
  have hkw1 := ((Keeps.refl (· = r) w).alloc (.cells #[.int .i64 0, .string ⟨#[]⟩, .int .i64 0, .string ⟨#[]⟩, .slice none 0 0, .slice none 0 0] 27)).step (Below.keeps hw1 (fun _ => False)) (fun _ h => h.elim)
  clear hw1 hs1 zz1
  have HKW1 := Lib.hid hkw1
  clear hkw1
  have pr0 := cellv pr 0 rfl
  have pr1 := cellv pr 1 rfl
  have pr4 := cellv pr 4 rfl
  have prf1 := free_heap pr 1
  have prf4 := free_heap pr 4
  have prl := lt_heap pr
  have PR := Lib.hid pr
  clear pr
  have pz_0 := cv0 pz
  have pz_1 := cv1 pz
  have pz_2 := cv2 pz
  have pz_3 := cv3 pz
  have pz_4 := cv4 pz
  have pz_5 := cv5 pz
  have pz_f0 := free_heap pz 0
  have pz_f1 := free_heap pz 1
  have pz_f2 := free_heap pz 2
  have pz_f3 := free_heap pz 3
  have pz_f4 := free_heap pz 4
  have pz_f5 := free_heap pz 5
  have pz_l := lt_heap pz
  have PZ := Lib.hid pz
  clear pz
  go_upto_region 4 with (fail)
  go_cut [42] (fun s42 wx => s42 = .bool false ∧ wx = w1)
  case first =>
    rcases HS.out with h1 | ⟨h1, h2⟩ | ⟨h1, h2, h3⟩ | ⟨h1, h2, h3, h4, h5⟩
    · go_wp2_with fail
      go_meet
      exact ⟨rfl, rfl⟩
    · go_wp2_with fail
      go_meet
      exact ⟨rfl, rfl⟩
    · go_wp2_with fail
      go_meet
      exact ⟨rfl, rfl⟩
    · go_wp2_with fail
      go_meet
      exact ⟨rfl, rfl⟩
  case rest =>
  obtain ⟨rfl, hwq⟩ := hcut
  rename World => wq
  obtain rfl : w1 = wq := hwq.symm
  go_upto_region 8 with (fail)
  refine gen_last (fun W => RdT (n + 1) W r x (i) (0) (j) ∧ W.heap[w.heap.size]? = some (.cells #[.int .i64 0, .string ⟨#[]⟩, .int .i64 0, .string ⟨#[]⟩, .slice none 0 0, .slice none 0 0] 27 (0, 0)) ∧ Keeps (· = r) w W ∧ w.heap.size + 1 ≤ W.heap.size) ?_ ?_
  · exact ⟨by simpa [RdT] using heap_set PR.out 4 (.int .i64 ((n : Int) + 1)), heap_far _ (by omega) PZ.out, HKW1.out.set (b := r) (Or.inl rfl) 4 _, by rw [size_set]; exact z1⟩
  rintro w2 ⟨pr, pz, hk2, z2⟩
  clear pr0 pr1 pr4 prf1 prf4 prl pz_0 pz_1 pz_2 pz_3 pz_4 pz_5 pz_f0 pz_f1 pz_f2 pz_f3 pz_f4 pz_f5 pz_l
  have HK2 := Lib.hid hk2
  clear hk2
  have pr0 := cellv pr 0 rfl
  have pr1 := cellv pr 1 rfl
  have pr4 := cellv pr 4 rfl
  have prf1 := free_heap pr 1
  have prf4 := free_heap pr 4
  have prl := lt_heap pr
  have PR := Lib.hid pr
  clear pr
  have pz_0 := cv0 pz
  have pz_1 := cv1 pz
  have pz_2 := cv2 pz
  have pz_3 := cv3 pz
  have pz_4 := cv4 pz
  have pz_5 := cv5 pz
  have pz_f0 := free_heap pz 0
  have pz_f1 := free_heap pz 1
  have pz_f2 := free_heap pz 2
  have pz_f3 := free_heap pz 3
  have pz_f4 := free_heap pz 4
  have pz_f5 := free_heap pz 5
  have pz_l := lt_heap pz
  have PZ := Lib.hid pz
  clear pz
  go_cut [68] (fun s68 wx => s68 = .bool true ∧ wx = w2)
  case first =>
    rcases hq with q1 | ⟨q1, q2⟩
    · go_wp2_with fail
      go_meet
      exact ⟨rfl, rfl⟩
    · go_wp2_with fail
      go_meet
      exact ⟨rfl, rfl⟩
  case rest =>
  obtain ⟨rfl, hwq⟩ := hcut
  rename World => wq
  obtain rfl : w2 = wq := hwq.symm
  have hfl : ∀ (W : World), RdT (n + 1) W r x i 0 j → Calls Tryd.prog 18 #[.pointer (some ⟨r, 0, none⟩), .int .i64 1, .int .i64 (i : Nat)] W fun e w' => e = .returned (.tuple #[]) ∧ RdT (n + 1) w' r x i 1 i ∧ Keeps (· = r) W w' ∧ w'.heap.size = W.heap.size := fun W h => (failT_any (m := n + 1) r x i 0 j 1 i W h).mono fun e w' h => ⟨h.1, by have := h.2.1; rwa [if_pos rfl] at this, h.2.2⟩
  have HFL := Lib.hid hfl
  clear hfl
  go_wp2_with fail
  go_region_held3 (fun w' => w'.cell? ⟨r, 1, none⟩ = some (.int .i64 (i : Nat)))
    ((first | (go_keep; done) | exact cellv HR4.out 1 rfl))
    (((with_reducible refine (HFL.out _ (by first | exact PR.out.drew | exact PR.out)).mono ?_); rintro e w4 ⟨rfl, hr4, hk4, hs4⟩; have HR4 := Lib.hid hr4; have HK4 := Lib.hid hk4; clear hr4 hk4 hs4))
  all_goals
    have qz := (HK4.out.block w.heap.size pz_l (by omega)).trans (by first | exact heap_drew PZ.out | exact PZ.out)
    have hk5 : Keeps (· = r) w w4 := by first | exact (HK2.out.drew).step HK4.out (fun _ h => Or.inl h) | exact HK2.out.step HK4.out (fun _ h => Or.inl h)
    have HK5 := Lib.hid hk5
    clear pr0 pr1 pr4 prf1 prf4 prl pz_0 pz_1 pz_2 pz_3 pz_4 pz_5 pz_f0 pz_f1 pz_f2 pz_f3 pz_f4 pz_f5 pz_l
    clear hk5
    have qz_0 := cv0 qz
    have qz_1 := cv1 qz
    have qz_2 := cv2 qz
    have qz_3 := cv3 qz
    have qz_4 := cv4 qz
    have qz_5 := cv5 qz
    have qz_f0 := free_heap qz 0
    have qz_f1 := free_heap qz 1
    have qz_f2 := free_heap qz 2
    have qz_f3 := free_heap qz 3
    have qz_f4 := free_heap qz 4
    have qz_f5 := free_heap qz 5
    have qz_l := lt_heap qz
    have QZ := Lib.hid qz
    clear qz
    go_wp2_with fail
    refine bodyPost_ret (v := .agg #[.int .i64 0, .string ⟨#[]⟩, .int .i64 0, .string ⟨#[]⟩, .slice none 0 0, .slice none 0 0]) (by simp [results, Tryd.results17, go_sem, qz_0, qz_1, qz_2, qz_3, qz_4, qz_5, qz_l]) rfl ?_
    exact HF.out _ ((((((HK5.out.set (Or.inr (Nat.le_refl _)) _ _).set (Or.inr (Nat.le_refl _)) _ _).set (Or.inr (Nat.le_refl _)) _ _).set (Or.inr (Nat.le_refl _)) _ _).set (Or.inr (Nat.le_refl _)) _ _).set (Or.inr (Nat.le_refl _)) _ _) (far6 (by omega) HR4.out)

set_option maxRecDepth 100000 in
set_option maxHeartbeats 4000000 in
theorem term_num (x : ByteArray) (hx : x.size ≤ 4000) (k d i j n r : Nat) (w : World) (hr : RdT n w r x i 0 j) (hb : byteAt x i = 35) (hn : n + 1 ≤ 200) (hd : d + (k + 1) = 41) (hj : j ≤ x.size) :
    Calls Tryd.prog 17 #[.pointer (some ⟨r, 0, none⟩), .int .i64 d] w (TermT x r (k + 1) ⟨i, 0, j, n⟩ w) := by
  have hlt := byteAt_lt (x := x) (i := i) (by omega)
  obtain ⟨⟨ft, ⟨fi, fc, fj, fn⟩⟩, hfe⟩ : ∃ p : Tm × St, (.mk ⟨2, bNil, ((numF x (i + 1)).1 : Nat), noTy⟩ [], (if (numF x (i + 1)).2 = i + 1 then (⟨i + 1, 11, i + 1, n + 1⟩ : St) else ⟨(numF x (i + 1)).2, 0, j, n + 1⟩)) = p := ⟨_, rfl⟩
  have hF : termF x (k + 1) ⟨i, 0, j, n⟩ = (ft, ⟨fi, fc, fj, fn⟩) := by
    rw [← hfe]
    unfold termF
    rw [if_pos rfl, if_pos (Or.inl hb), if_neg (by simp only; omega), if_pos hb]
  have hfin : ∀ (es : List Value) (w' : World), tmRep.R w' (Fresh w w') ft es → RdT fn w' r x fi fc fj → Keeps (· = r) w w' → TermT x r (k + 1) ⟨i, 0, j, n⟩ w (.returned (.agg es.toArray)) w' := by
    intro es w' h1 h2 h3
    unfold TermT
    rw [hF]
    exact ⟨_, rfl, h1, h2, h3⟩
  have HF := Lib.hid hfin
  clear hF hfin
  have HFE := Lib.hid hfe
  clear hfe
  have HR := Lib.hid hr
  have c2 := cellv hr 2 rfl
  have l1 := lt_heap hr
  have Hx := Lib.hid hx
  clear hr hx
  have hn' : (n : Int) + 1 ≤ 200 := by omega
  have hd' : (d : Int) ≤ 40 := by omega
  have hi' : (i : Int) ≤ 4000 := by have := Hx.out; omega
  go_enter Tryd.func17, Tryd.ntmps17
  go_wp2_with fail
  refine (peekT_any (m := n) r x i 0 j _ (heap_old l1 HR.out)).mono ?_
  rintro e w1 ⟨rfl, hw1, hs1⟩
  have pr : RdT n w1 r x i 0 j := (hw1.block r (by go_size)).trans (heap_old l1 HR.out)
  have pz := (hw1.block w.heap.size (by go_size)).trans (heap_at rfl)
  have zz1 : w1.heap.size = w.heap.size + 1 := by simpa using hs1
  have z1 : w.heap.size + 1 ≤ w1.heap.size := by omega
  have hkw1 := ((Keeps.refl (· = r) w).alloc (.cells #[.int .i64 0, .string ⟨#[]⟩, .int .i64 0, .string ⟨#[]⟩, .slice none 0 0, .slice none 0 0] 27)).step (Below.keeps hw1 (fun _ => False)) (fun _ h => h.elim)
  clear hw1 hs1 zz1
  have HKW1 := Lib.hid hkw1
  clear hkw1
  have pr0 := cellv pr 0 rfl
  have pr1 := cellv pr 1 rfl
  have pr4 := cellv pr 4 rfl
  have prf1 := free_heap pr 1
  have prf4 := free_heap pr 4
  have prl := lt_heap pr
  have PR := Lib.hid pr
  clear pr
  have pz_0 := cv0 pz
  have pz_1 := cv1 pz
  have pz_2 := cv2 pz
  have pz_3 := cv3 pz
  have pz_4 := cv4 pz
  have pz_5 := cv5 pz
  have pz_f0 := free_heap pz 0
  have pz_f1 := free_heap pz 1
  have pz_f2 := free_heap pz 2
  have pz_f3 := free_heap pz 3
  have pz_f4 := free_heap pz 4
  have pz_f5 := free_heap pz 5
  have pz_l := lt_heap pz
  have PZ := Lib.hid pz
  clear pz
  rw [hb]
  go_upto_region 8 with (fail)
  refine gen_last (fun W => RdT (n + 1) W r x (i) (0) (j) ∧ W.heap[w.heap.size]? = some (.cells #[.int .i64 0, .string ⟨#[]⟩, .int .i64 0, .string ⟨#[]⟩, .slice none 0 0, .slice none 0 0] 27 (0, 0)) ∧ Keeps (· = r) w W ∧ w.heap.size + 1 ≤ W.heap.size) ?_ ?_
  · exact ⟨by simpa [RdT] using heap_set PR.out 4 (.int .i64 ((n : Int) + 1)), heap_far _ (by omega) PZ.out, HKW1.out.set (b := r) (Or.inl rfl) 4 _, by rw [size_set]; exact z1⟩
  rintro w2 ⟨pr, pz, hk2, z2⟩
  clear pr0 pr1 pr4 prf1 prf4 prl pz_0 pz_1 pz_2 pz_3 pz_4 pz_5 pz_f0 pz_f1 pz_f2 pz_f3 pz_f4 pz_f5 pz_l
  have HK2 := Lib.hid hk2
  clear hk2
  have pr0 := cellv pr 0 rfl
  have pr1 := cellv pr 1 rfl
  have pr4 := cellv pr 4 rfl
  have prf1 := free_heap pr 1
  have prf4 := free_heap pr 4
  have prl := lt_heap pr
  have PR := Lib.hid pr
  clear pr
  have pz_0 := cv0 pz
  have pz_1 := cv1 pz
  have pz_2 := cv2 pz
  have pz_3 := cv3 pz
  have pz_4 := cv4 pz
  have pz_5 := cv5 pz
  have pz_f0 := free_heap pz 0
  have pz_f1 := free_heap pz 1
  have pz_f2 := free_heap pz 2
  have pz_f3 := free_heap pz 3
  have pz_f4 := free_heap pz 4
  have pz_f5 := free_heap pz 5
  have pz_l := lt_heap pz
  have PZ := Lib.hid pz
  clear pz
  go_upto_region 14 with (fail)
  refine gen_last (fun W => RdT (n + 1) W r x (i + 1) (0) (j) ∧ W.heap[w.heap.size]? = some (.cells #[.int .i64 0, .string ⟨#[]⟩, .int .i64 0, .string ⟨#[]⟩, .slice none 0 0, .slice none 0 0] 27 (0, 0)) ∧ Keeps (· = r) w W ∧ w.heap.size + 1 ≤ W.heap.size) ?_ ?_
  · exact ⟨by simpa [RdT] using heap_set PR.out 1 (.int .i64 ((i : Int) + 1)), heap_far _ (by omega) PZ.out, HK2.out.set (b := r) (Or.inl rfl) 1 _, by rw [size_set]; exact z2⟩
  rintro w3 ⟨pr, pz, hk3, z3⟩
  clear pr0 pr1 pr4 prf1 prf4 prl pz_0 pz_1 pz_2 pz_3 pz_4 pz_5 pz_f0 pz_f1 pz_f2 pz_f3 pz_f4 pz_f5 pz_l
  have HK3 := Lib.hid hk3
  clear hk3
  have pr0 := cellv pr 0 rfl
  have pr1 := cellv pr 1 rfl
  have pr4 := cellv pr 4 rfl
  have prf1 := free_heap pr 1
  have prf4 := free_heap pr 4
  have prl := lt_heap pr
  have PR := Lib.hid pr
  clear pr
  have pz_0 := cv0 pz
  have pz_1 := cv1 pz
  have pz_2 := cv2 pz
  have pz_3 := cv3 pz
  have pz_4 := cv4 pz
  have pz_5 := cv5 pz
  have pz_f0 := free_heap pz 0
  have pz_f1 := free_heap pz 1
  have pz_f2 := free_heap pz 2
  have pz_f3 := free_heap pz 3
  have pz_f4 := free_heap pz 4
  have pz_f5 := free_heap pz 5
  have pz_l := lt_heap pz
  have PZ := Lib.hid pz
  clear pz
  go_upto_region 14 with (fail)
  go_cut [] (fun wx => ∃ es : List Value, tmRep.R wx (Fresh w wx) ft es ∧ wx.heap[w.heap.size]? = some (.cells es.toArray 27 (0, 0)) ∧ RdT fn wx r x fi fc fj ∧ Keeps (· = r) w wx)
  case first =>
    go_wp2_with fail
    refine (number_any (n + 1) x Hx.out r (i + 1) j w3 PR.out (by omega)).mono ?_
    unfold NumAt
    rintro e w4 ⟨rfl, hr4, hk4, hs4⟩
    have qz := (hk4.block w.heap.size pz_l (by omega)).trans PZ.out
    have hk5 := HK3.out.step hk4 (fun _ h => Or.inl h)
    clear pr0 pr1 pr4 prf1 prf4 prl pz_0 pz_1 pz_2 pz_3 pz_4 pz_5 pz_f0 pz_f1 pz_f2 pz_f3 pz_f4 pz_f5 pz_l
    clear hk4
    have HR4 := Lib.hid hr4
    have HK5 := Lib.hid hk5
    clear hr4 hk5
    have qz_0 := cv0 qz
    have qz_1 := cv1 qz
    have qz_2 := cv2 qz
    have qz_3 := cv3 qz
    have qz_4 := cv4 qz
    have qz_5 := cv5 qz
    have qz_f0 := free_heap qz 0
    have qz_f1 := free_heap qz 1
    have qz_f2 := free_heap qz 2
    have qz_f3 := free_heap qz 3
    have qz_f4 := free_heap qz 4
    have qz_f5 := free_heap qz 5
    have qz_l := lt_heap qz
    have QZ := Lib.hid qz
    clear qz
    go_wp2_with fail
    go_meet
    have he := HFE.out
    simp only [Prod.mk.injEq] at he
    obtain ⟨rfl, he⟩ := he
    refine ⟨[.int .i64 2, .string bNil, .int .i64 ((numF x (i + 1)).1 : Nat), .string ⟨#[]⟩, .slice none 0 0, .slice none 0 0], Tm.shut (a := ⟨2, bNil, ((numF x (i + 1)).1 : Nat), noTy⟩) (l := []) (show bNil.size ≤ maxLen by decide +kernel) noTy_inT Rep.Sl.nil, at6 QZ.out, ?_, ((((((HK5.out.set (Or.inr (Nat.le_refl _)) _ _).set (Or.inr (Nat.le_refl _)) _ _).set (Or.inr (Nat.le_refl _)) _ _).set (Or.inr (Nat.le_refl _)) _ _).set (Or.inr (Nat.le_refl _)) _ _).set (Or.inr (Nat.le_refl _)) _ _)⟩
    refine far6 (by omega) ?_
    have h4 := HR4.out
    by_cases h5 : (numF x (i + 1)).2 = i + 1
    · rw [if_pos h5] at h4 he
      obtain ⟨rfl, rfl, rfl, rfl⟩ := St.mk.inj he
      exact h4
    · rw [if_neg h5] at h4 he
      obtain ⟨rfl, rfl, rfl, rfl⟩ := St.mk.inj he
      exact h4
  case rest =>
    obtain ⟨es, hu, k0, hrd, hks⟩ := hcut
    rename World => wx
    obtain ⟨s1, A1, n1, c1, B1, m1, d1, rfl, _, _⟩ := Tm.shape hu
    have hfin := HF.out _ wx hu hrd hks
    have HU := Lib.hid hu
    have HRD := Lib.hid hrd
    have HKS := Lib.hid hks
    have HFIN := Lib.hid hfin
    clear hu hrd hks hfin
    have k0_0 := cv0 k0
    have k0_1 := cv1 k0
    have k0_2 := cv2 k0
    have k0_3 := cv3 k0
    have k0_4 := cv4 k0
    have k0_5 := cv5 k0
    have k0_l := lt_heap k0
    have K0 := Lib.hid k0
    clear k0
    go_wp2_with fail
    refine bodyPost_ret (v := .agg #[.int .i64 ft.lab.kind, .string ft.lab.nm, .int .i64 ft.lab.ix, .string s1, .slice A1 n1 c1, .slice B1 m1 d1]) (by simp [results, Tryd.results17, go_sem, k0_0, k0_1, k0_2, k0_3, k0_4, k0_5, k0_l]) rfl ?_
    exact HFIN.out

end Go.Proofs.YtnoceodmnjhljaaDoor
