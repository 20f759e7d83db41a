/-
  simple.Validate and its inner function: the walk. What it computes: Ty.val (the code, and how many nodes were counted).
-/
import Derived.Test.YtnoceodmnjhljaaDoorProg
import Derived.Test.YtnoceodmnjhljaaDoorBase
namespace Go.Proofs.YtnoceodmnjhljaaDoor
open Go Go.RowKit
set_option linter.unusedSimpArgs false
set_option linter.unusedVariables false

def bE : ByteArray := ⟨#[101]⟩
def bT : ByteArray := ⟨#[116]⟩
def bNil : ByteArray := ⟨#[]⟩

/-- Is it a base type, or a function type? -/
def okNode (s : ByteArray) (n : Nat) : Prop := (s = bE ∧ n = 0) ∨ (s = bT ∧ n = 0) ∨ (s = bNil ∧ n = 2)

open Classical in
mutual
noncomputable def Ty.val : Ty → Nat → Nat → Nat × Nat
  | .mk s l, d, n => if 200 < n + 1 ∨ 40 < d then (1, n + 1) else if okNode s l.length then Ty.vals l (d + 1) (n + 1) else (5, n + 1)
noncomputable def Ty.vals : List Ty → Nat → Nat → Nat × Nat
  | [], _, n => (0, n)
  | t :: l, d, n => if (t.val d n).1 = 0 then Ty.vals l d (t.val d n).2 else t.val d n
end

mutual
theorem Ty.val_le : ∀ (t : Ty) (d n : Nat), n ≤ 200 → (t.val d n).2 ≤ 201 ∧ ((t.val d n).1 = 0 → (t.val d n).2 ≤ 200)
  | .mk s l, d, n, h => by
    unfold Ty.val
    split
    · simp; omega
    · split
      · have := Ty.vals_le l (d + 1) (n + 1) (by omega)
        exact this
      · simp; omega
theorem Ty.vals_le : ∀ (l : List Ty) (d n : Nat), n ≤ 200 → (Ty.vals l d n).2 ≤ 201 ∧ ((Ty.vals l d n).1 = 0 → (Ty.vals l d n).2 ≤ 200)
  | [], d, n, h => by unfold Ty.vals; simp; omega
  | t :: l, d, n, h => by
    unfold Ty.vals
    have h1 := Ty.val_le t d n h
    split
    · rename_i e
      exact Ty.vals_le l d _ (h1.2 e)
    · exact h1
end

theorem Ty.vals_at {l : List Ty} {j : Nat} (h : j < l.length) (d n : Nat) : Ty.vals (l.drop j) d n = if (l[j].val d n).1 = 0 then Ty.vals (l.drop (j + 1)) d (l[j].val d n).2 else l[j].val d n := by
  rw [List.drop_eq_getElem_cons h]
  conv => lhs; unfold Ty.vals

theorem grown_of_set_alloc {w : World} {o : Obj} {b : Nat} {v : Value} : w.grownBy ((w.setCell ⟨b, 0, none⟩ v).alloc o) (some b) :=
  ⟨rfl, rfl, rfl, by simp [World.setCell], fun i hi hne => (Below.heap_alloc _ o i (by simpa [World.setCell] using hi)).trans (Below.heap_setCell _ _ _ i (by rintro rfl; exact hne rfl))⟩
theorem grown_trans {a b c : World} {r : Option Nat} (h : a.grownBy b r) (k : b.grownBy c r) : a.grownBy c r :=
  ⟨k.os.trans h.os, k.tape.trans h.tape, k.output.trans h.output, Nat.le_trans h.size k.size, fun i hi hne => (k.block i (Nat.lt_of_lt_of_le hi h.size) hne).trans (h.block i hi hne)⟩
theorem grown_alloc {a b : World} {r : Option Nat} (h : a.grownBy b r) (o : Obj) : a.grownBy (b.alloc o) r :=
  ⟨h.os, h.tape, h.output, Nat.le_trans h.size (by simp), fun i hi hne => (Below.heap_alloc b o i (Nat.lt_of_lt_of_le hi h.size)).trans (h.block i hi hne)⟩

set_option maxRecDepth 100000 in
set_option maxHeartbeats 1600000 in
theorem val_any : ∀ (N : Nat) (t : Ty) (v0 v1 : Value) (w : World) (S : Nat → Prop) (bn bw d n : Nat), t.size ≤ N → t.In w S v0 v1 → (∀ b, S b → b < w.heap.size ∧ b ≠ bn) →
    w.heap[bn]? = some (.cells #[.int .i64 n] 3 (0, 0)) →
    w.heap[bw]? = some (.cells #[.func (Fn.func 49) #[] #[.pointer (some ⟨bn, 0, none⟩), .pointer (some ⟨bw, 0, none⟩)]] 97 (0, 0)) → bn ≠ bw → d ≤ 41 → n ≤ 200 →
    Calls Tryd.prog 49 #[.agg #[v0, v1], .int .i64 d, .pointer (some ⟨bn, 0, none⟩), .pointer (some ⟨bw, 0, none⟩)] w fun e w' =>
      e = .returned (.int .i64 (t.val d n).1) ∧ w'.heap[bn]? = some (.cells #[.int .i64 (t.val d n).2] 3 (0, 0)) ∧ w.grownBy w' (some bn) := by
  intro N
  induction N with
  | zero => intro t; have := t.size_pos; intros; omega
  | succ N ih =>
  intro t v0 v1 w S bn bw d n hN ht hS hbn hbw hne hd hn
  have IH := Lib.hid ih
  clear ih
  obtain ⟨s, l⟩ := t
  obtain ⟨rfl, hs, A, m, c, rfl, rfl, hm, hA⟩ := ht.open_
  unfold maxLen at hm
  have HA := Lib.hid hA
  have HS := Lib.hid hS
  have HN := Lib.hid hN
  have Hbn := Lib.hid hbn
  have Hbw := Lib.hid hbw
  have c0 : w.cell? ⟨bn, 0, none⟩ = some (.int .i64 n) := by simp [World.cell?, hbn]
  have c1 : w.frozen? ⟨bn, 0, none⟩ = false := by simp [World.frozen?, hbn]
  have c2 : bn < w.heap.size := World.block_lt_of_cell? w _ c0
  have c3 : w.cell? ⟨bw, 0, none⟩ = some (.func (Fn.func 49) #[] #[.pointer (some ⟨bn, 0, none⟩), .pointer (some ⟨bw, 0, none⟩)]) := by simp [World.cell?, hbw]
  have c4 : bw < w.heap.size := World.block_lt_of_cell? w _ c3
  clear hA hS hN hbn hbw ht
  have hW0 : w.grownBy ((w.setCell ⟨bn, 0, none⟩ (.int .i64 (n + 1))).alloc (.cells #[.string s, .slice A l.length c] 24)) (some bn) := grown_of_set_alloc
  have hB0 : ((w.setCell ⟨bn, 0, none⟩ (.int .i64 (n + 1))).alloc (.cells #[.string s, .slice A l.length c] 24)).heap[bn]? = some (.cells #[.int .i64 ((n + 1 : Nat) : Int)] 3 (0, 0)) := by
    rw [Below.heap_alloc _ _ bn (by simpa [World.setCell] using c2)]
    simp [World.setCell, Array.getElem?_modify, Hbn.out]
  have fin : ∀ k : Nat, (Ty.mk s l).val d n = (k, n + 1) →
      (Value.int .i64 k = .int .i64 ((Ty.mk s l).val d n).1 ∧ ((w.setCell ⟨bn, 0, none⟩ (.int .i64 (n + 1))).alloc (.cells #[.string s, .slice A l.length c] 24)).heap[bn]? = some (.cells #[.int .i64 ((Ty.mk s l).val d n).2] 3 (0, 0)) ∧
        w.grownBy ((w.setCell ⟨bn, 0, none⟩ (.int .i64 (n + 1))).alloc (.cells #[.string s, .slice A l.length c] 24)) (some bn)) := by
    intro k hk
    rw [hk]
    exact ⟨rfl, hB0, hW0⟩
  have FIN := Lib.hid fin
  have HW0 := Lib.hid hW0
  have HB0 := Lib.hid hB0
  clear fin hW0 hB0
  by_cases hn1 : 200 < n + 1
  · go_enter Tryd.func49, Tryd.ntmps49
    go_wp2_with fail
    go_returns
    obtain ⟨p1, p2⟩ := FIN.out 1 (by unfold Ty.val; rw [if_pos (Or.inl hn1)])
    exact ⟨by rw [← p1]; rfl, p2⟩
  by_cases hd1 : 40 < d
  · go_enter Tryd.func49, Tryd.ntmps49
    go_wp2_with fail
    go_returns
    obtain ⟨p1, p2⟩ := FIN.out 1 (by unfold Ty.val; rw [if_pos (Or.inr hd1)])
    exact ⟨by rw [← p1]; rfl, p2⟩
  have hng : ¬ (200 < n + 1 ∨ 40 < d) := by omega
  by_cases hok : okNode s l.length
  case neg =>
    have HR := Lib.hid (FIN.out 5 (by unfold Ty.val; rw [if_neg hng, if_neg hok]))
    have h1 : s.toList = [101] → l.length ≠ 0 := fun h e => hok (Or.inl ⟨bytes_inj (by simpa [bE] using h), e⟩)
    have h2 : s.toList = [116] → l.length ≠ 0 := fun h e => hok (Or.inr (Or.inl ⟨bytes_inj (by simpa [bT] using h), e⟩))
    have h3 : s.toList = [] → l.length ≠ 2 := fun h e => hok (Or.inr (Or.inr ⟨bytes_inj (by simpa [bNil] using h), e⟩))
    clear hok hng FIN
    by_cases g1 : s.toList = [101]
    · have g2 : ((l.length : Int) == 0) = false := beq_eq_false_iff_ne.2 (by have := h1 g1; omega)
      have g3 : (s.toList == [101]) = true := by simp [g1]
      have g4 : (s.toList == []) = false := by simp [g1]
      clear g1 h1 h2 h3
      go_enter Tryd.func49, Tryd.ntmps49
      go_wp2_with fail
      go_returns
      exact ⟨by rw [← HR.out.1]; rfl, HR.out.2⟩
    by_cases g1' : s.toList = [116]
    · have g2 : ((l.length : Int) == 0) = false := beq_eq_false_iff_ne.2 (by have := h2 g1'; omega)
      have g3 : (s.toList == [116]) = true := by simp [g1']
      have g4 : (s.toList == []) = false := by simp [g1']
      have g5 : (s.toList == [101]) = false := by simp [g1']
      clear g1' g1 h1 h2 h3
      go_enter Tryd.func49, Tryd.ntmps49
      go_wp2_with fail
      go_returns
      exact ⟨by rw [← HR.out.1]; rfl, HR.out.2⟩
    by_cases g1'' : s.toList = []
    · have g2 : ((l.length : Int) == 2) = false := beq_eq_false_iff_ne.2 (by have := h3 g1''; omega)
      have g3 : (s.toList == []) = true := by simp [g1'']
      have g4 : (s.toList == [116]) = false := by simp [g1'']
      have g5 : (s.toList == [101]) = false := by simp [g1'']
      clear g1'' g1' g1 h1 h2 h3
      go_enter Tryd.func49, Tryd.ntmps49
      go_wp2_with fail
      go_returns
      exact ⟨by rw [← HR.out.1]; rfl, HR.out.2⟩
    · have g3 : (s.toList == []) = false := by simp [g1'']
      have g4 : (s.toList == [116]) = false := by simp [g1']
      have g5 : (s.toList == [101]) = false := by simp [g1]
      clear g1'' g1' g1 h1 h2 h3
      go_enter Tryd.func49, Tryd.ntmps49
      go_wp2_with fail
      go_returns
      exact ⟨by rw [← HR.out.1]; rfl, HR.out.2⟩
  have HR := Lib.hid (show (Ty.mk s l).val d n = Ty.vals l (d + 1) (n + 1) by conv => lhs; unfold Ty.val; rw [if_neg hng, if_pos hok])
  clear FIN hng
  have hl2 : l.length ≤ 2 := by rcases hok with ⟨_, h⟩ | ⟨_, h⟩ | ⟨_, h⟩ <;> omega
  have hcase : ((s.toList == [101]) = true ∧ ((l.length : Int) == 0) = true) ∨ ((s.toList == [101]) = false ∧ (s.toList == [116]) = true ∧ ((l.length : Int) == 0) = true) ∨
      ((s.toList == [101]) = false ∧ (s.toList == [116]) = false ∧ (s.toList == []) = true ∧ ((l.length : Int) == 2) = true) := by
    rcases hok with ⟨rfl, h⟩ | ⟨rfl, h⟩ | ⟨rfl, h⟩
    · exact Or.inl ⟨by simp [bE], beq_iff_eq.2 (by omega)⟩
    · exact Or.inr (Or.inl ⟨by simp [bT], by simp [bT], beq_iff_eq.2 (by omega)⟩)
    · exact Or.inr (Or.inr ⟨by simp [bNil], by simp [bNil], by simp [bNil], beq_iff_eq.2 (by omega)⟩)
  clear hok
  rcases hcase with ⟨g1, g2⟩ | ⟨g1, g2, g3⟩ | ⟨g1, g2, g3, g4⟩
  all_goals
    go_enter Tryd.func49, Tryd.ntmps49
    go_wp2_with fail
    go_loopg [49] l.length (fun k v wr => ∃ j q : Nat, j + k = l.length ∧ v = .int .i64 j ∧ wr.heap[bn]? = some (.cells #[.int .i64 q] 3 (0, 0)) ∧ q ≤ 200 ∧ Ty.vals l (d + 1) (n + 1) = Ty.vals (l.drop j) (d + 1) q ∧
      ((w.setCell ⟨bn, 0, none⟩ (.int .i64 (n + 1))).alloc (.cells #[.string s, .slice A l.length c] 24)).grownBy wr (some bn))
    case atStart => exact ⟨0, n + 1, by omega, rfl, HB0.out, by omega, by simp, World.grownBy.refl _ _⟩
    case round =>
      obtain ⟨j, q, hj, rfl, hq, hq2, hvv, hwr⟩ := hrel
      have hw0 : w.grownBy wr (some bn) := grown_trans HW0.out hwr
      have hsz : w.heap.size < wr.heap.size := by have := hwr.size; simp [World.setCell] at this; omega
      have c0 : wr.cell? ⟨bn, 0, none⟩ = some (.int .i64 q) := by simp [World.cell?, hq]
      have c1 : wr.frozen? ⟨bn, 0, none⟩ = false := by simp [World.frozen?, hq]
      have c3' : wr.cell? ⟨bw, 0, none⟩ = some (.func (Fn.func 49) #[] #[.pointer (some ⟨bn, 0, none⟩), .pointer (some ⟨bw, 0, none⟩)]) := (cell_keep (hw0.block bw c4 (by intro e; injection e with e; exact hne e.symm)) 0).trans c3
      have c4' : bw < wr.heap.size := by omega
      have c2' : bn < wr.heap.size := by omega
      have Hw0 := Lib.hid hw0
      have Hwr := Lib.hid hwr
      have Hq := Lib.hid hq
      have Hvv := Lib.hid hvv
      clear hw0 hwr hq hvv
      by_cases hjl : j < l.length
      · obtain ⟨b, o, rfl, hSb, hIn⟩ := HA.out (by omega)
        obtain ⟨u0, u1, e0, e1, e2⟩ := Ty.Ins_at (k := j) hIn (List.getElem?_eq_getElem hjl)
        obtain ⟨sx, Ax, nx, cx, rfl, rfl⟩ := e2.shape
        have hbs := HS.out _ hSb
        have hkeep : ∀ k, S k → wr.heap[k]? = w.heap[k]? := fun k hk => Hw0.out.block k (HS.out k hk).1 (by intro e; injection e with e; exact (HS.out k hk).2 e)
        have f0 := (cell_keep (hkeep b hSb) _).trans e0
        have f1 := (cell_keep (hkeep b hSb) _).trans e1
        have HE := Lib.hid (Ty.In.keep e2 hkeep)
        have hz2 : b < wr.heap.size := by omega
        have q0 : (0 : Int) ≤ (j : Int) := by omega
        have q1 : (j : Int) < (l.length : Int) := by omega
        have Hstep := Lib.hid (Ty.vals_at hjl (d + 1) q)
        have Hle := Lib.hid (Ty.val_le l[j] (d + 1) q hq2)
        clear e0 e1 e2 hkeep hIn
        go_wp2_with fail
        refine (IH.out l[j] _ _ _ (fun k => S k) bn bw (d + 1) q ?_ ?_ ?_ ?_ ?_ hne (by omega) hq2).mono ?_
        · have := Ty.size_at l j hjl; have := HN.out; simp [Ty.size] at this; omega
        · exact HE.out.keep fun k hk => Below.heap_alloc _ _ _ (by have := (HS.out k hk).1; omega)
        · intro k hk; have := HS.out k hk; simp; omega
        · exact (Below.heap_alloc _ _ _ c2').trans Hq.out
        · refine (Below.heap_alloc _ _ _ c4').trans ?_
          refine (Hw0.out.block bw c4 (by intro e; injection e with e; exact hne e.symm)).trans Hbw.out
        rintro e w1 ⟨rfl, hq', hw1⟩
        have Hq' := Lib.hid hq'
        have Hw1 := Lib.hid hw1
        clear hq' hw1
        by_cases he : (l[j].val (d + 1) q).1 = 0
        · have he' : (((l[j].val (d + 1) q).1 : Int) != 0) = false := by simp [he]
          have He := Lib.hid he
          clear he
          go_wp2_with fail
          go_roundg (l.length - (j + 1))
          case measure => omega
          case rel => exact ⟨j + 1, (l[j].val (d + 1) q).2, by omega, by go_num, Hq'.out, Hle.out.2 He.out, by rw [Hvv.out, Hstep.out, if_pos He.out], grown_trans (grown_alloc Hwr.out _) Hw1.out⟩
        · have he' : (((l[j].val (d + 1) q).1 : Int) != 0) = true := by rw [bne_iff_ne]; omega
          have He := Lib.hid he
          clear he
          go_wp2_with fail
          go_returns
          have hfin : (Ty.mk s l).val d n = l[j].val (d + 1) q := by rw [HR.out, Hvv.out, Hstep.out, if_neg He.out]
          rw [hfin]
          exact ⟨rfl, Hq'.out, grown_trans (grown_alloc Hw0.out _) Hw1.out⟩
      · go_wp2_with fail
        go_returns
        have hfin : (Ty.mk s l).val d n = (0, q) := by rw [HR.out, Hvv.out, List.drop_eq_nil_of_le (by omega)]; unfold Ty.vals; rfl
        rw [hfin]
        exact ⟨rfl, Hq.out, Hw0.out⟩
end Go.Proofs.YtnoceodmnjhljaaDoor
