/-
  simple.Same: the walk: two types are compared node by node.
-/
import Derived.Test.YtnoceodmnjhljaaDoorProg
import Derived.Test.YtnoceodmnjhljaaDoorBase
namespace Go.Proofs.YtnoceodmnjhljaaDoor
open Go Go.RowKit
set_option linter.unusedSimpArgs false
set_option linter.unusedVariables false

set_option maxHeartbeats 400000 in
theorem sameTy_any : ∀ (N : Nat) (x y : Ty) (a0 a1 b0 b1 : Value) (w : World) (S : Nat → Prop) (hN : x.size ≤ N) (hx : x.In w S a0 a1) (hy : y.In w S b0 b1) (hS : ∀ b, S b → b < w.heap.size),
    Calls Tryd.prog 48 #[.agg #[a0, a1], .agg #[b0, b1]] w fun e w' => e = .returned (.bool (x.beq y)) ∧ Below w.heap.size w w' := by
  intro N
  induction N with
  | zero => intro x; cases x; intros; simp [Ty.size] at *
  | succ N ih =>
  intro x y a0 a1 b0 b1 w S hN hx hy hS
  have IH := Lib.hid ih
  clear ih
  obtain ⟨s, l⟩ := x
  obtain ⟨s', l'⟩ := y
  unfold Ty.In at hx hy
  obtain ⟨rfl, hs, A, n, c, rfl, rfl, hn, hA⟩ := hx
  obtain ⟨rfl, hs', A', n', c', rfl, rfl, hn', hA'⟩ := hy
  unfold maxLen at hn hn'
  have HA := Lib.hid hA
  have HA' := Lib.hid hA'
  clear hA hA'
  have HS := Lib.hid hS
  clear hS
  have HN := Lib.hid hN
  clear hN
  by_cases hss : s = s'
  case neg =>
    have hss' : (s.toList == s'.toList) = false := bytes_ne hss
    go_enter Tryd.func48, Tryd.ntmps48
    go_wp2_with fail
    go_returns
    exact ⟨by simp [Ty.beq, hss], ((Below.refl _ _).alloc (Nat.le_refl _) _).alloc (by simp) _⟩
  subst hss
  by_cases hll : l.length = l'.length
  case neg =>
    have hss' : ((l.length : Int) != (l'.length : Int)) = true := by rw [bne_iff_ne]; omega
    go_enter Tryd.func48, Tryd.ntmps48
    go_wp2_with fail
    go_returns
    have : Ty.beqs l l' = false := by
      cases h : Ty.beqs l l'
      · rfl
      · exact absurd (Ty.beqs_len l l' h) hll
    exact ⟨by simp [Ty.beq, this], ((Below.refl _ _).alloc (Nat.le_refl _) _).alloc (by simp) _⟩
  have Hll := Lib.hid hll
  have hss' : ((l.length : Int) != (l'.length : Int)) = false := by rw [hll]; simp
  clear hll
  go_enter Tryd.func48, Tryd.ntmps48
  go_wp2_with fail
  go_loopg [23] l.length (fun k v wr => ∃ j : Nat, j + k = l.length ∧ v = .int .i64 j ∧ Ty.beqs (l.take j) (l'.take j) = true ∧ Below (w.heap.size + 2) ((w.alloc (.cells #[.string s, .slice A l.length c] 24)).alloc (.cells #[.string s, .slice A' l'.length c'] 24)) wr)
  case atStart => exact ⟨0, by omega, rfl, by simp [Ty.beqs], Below.refl _ _⟩
  case round =>
    obtain ⟨j, hj, rfl, hb, hwr⟩ := hrel
    have hw0 : Below w.heap.size w wr := (((Below.refl _ w).alloc (Nat.le_refl _) _).alloc (by simp) _).trans (hwr.mono (by omega))
    have Hw0 := Lib.hid hw0
    have c0 : wr.cell? ⟨w.heap.size, 0, none⟩ = some (.string s) := (hwr.cell (p := ⟨w.heap.size, 0, none⟩) (by simp)).trans (by simp)
    have c1 : wr.cell? ⟨w.heap.size, 1, none⟩ = some (.slice A l.length c) := (hwr.cell (p := ⟨w.heap.size, 1, none⟩) (by simp)).trans (by simp)
    have d0 : wr.cell? ⟨w.heap.size + 1, 0, none⟩ = some (.string s) := (hwr.cell (p := ⟨w.heap.size + 1, 0, none⟩) (by simp)).trans (by simp)
    have d1 : wr.cell? ⟨w.heap.size + 1, 1, none⟩ = some (.slice A' l'.length c') := (hwr.cell (p := ⟨w.heap.size + 1, 1, none⟩) (by simp)).trans (by simp)
    have hsz : w.heap.size + 2 ≤ wr.heap.size := by have := hwr.size; simp at this; omega
    have Hwr := Lib.hid hwr
    have Hb := Lib.hid hb
    clear hwr hb hw0
    by_cases hjl : j < l.length
    · have hjl' : j < l'.length := by have := Hll.out; omega
      obtain ⟨b, o, rfl, hSb, hIn⟩ := HA.out (by omega)
      obtain ⟨b', o', rfl, hSb', hIn'⟩ := HA'.out (by omega)
      obtain ⟨u0, u1, e0, e1, e2⟩ := Ty.Ins_at (k := j) hIn (List.getElem?_eq_getElem hjl)
      obtain ⟨u0', u1', e0', e1', e2'⟩ := Ty.Ins_at (k := j) hIn' (List.getElem?_eq_getElem hjl')
      have hbs := HS.out _ hSb
      have hbs' := HS.out _ hSb'
      have f0 := (cell_keep (Hw0.out.block b hbs) _).trans e0
      have f1 := (cell_keep (Hw0.out.block b hbs) _).trans e1
      have f0' := (cell_keep (Hw0.out.block b' hbs') _).trans e0'
      have f1' := (cell_keep (Hw0.out.block b' hbs') _).trans e1'
      have HE := Lib.hid (Ty.In_keep (fun k hk => Hw0.out.block k (HS.out k hk)) (fun _ h => h) _ _ _ e2)
      have HE' := Lib.hid (Ty.In_keep (fun k hk => Hw0.out.block k (HS.out k hk)) (fun _ h => h) _ _ _ e2')
      clear e0 e1 e0' e1' e2 e2'
      have q0 : (0 : Int) ≤ (j : Int) := by omega
      have q1 : (j : Int) < (l.length : Int) := by omega
      have q2 : (j : Int) < (l'.length : Int) := by omega
      have HI := Lib.hid hIn
      have HI' := Lib.hid hIn'
      clear hIn hIn'
      by_cases he : l[j].beq l'[j] = true
      all_goals try simp only [Bool.not_eq_true] at he
      all_goals
        go_wp2_with fail
        go_region_held3 (fun w' => w'.cell? ⟨w.heap.size, 1, none⟩ = some (.slice (some ⟨b, o, none⟩) l.length c) ∧ w'.cell? ⟨w.heap.size + 1, 1, none⟩ = some (.slice (some ⟨b', o', none⟩) l'.length c') ∧
          w'.cell? ⟨b, o + j * 2, none⟩ = some u0 ∧ w'.cell? ⟨b, o + j * 2 + 1, none⟩ = some u1 ∧ w'.cell? ⟨b', o' + j * 2, none⟩ = some u0' ∧ w'.cell? ⟨b', o' + j * 2 + 1, none⟩ = some u1')
          ((first | (go_keep; done) | ((repeat' apply And.intro) <;> (refine (kc _ _ (by simp; omega)).trans ?_; assumption))))
          ((go_at_call 48; refine (IH.out l[j] l'[j] u0 u1 u0' u1' _ S ?q1 ?q2 ?q3 ?q4).mono ?_; (case q1 => (have := Ty.size_at l j hjl; have := HN.out; simp [Ty.size] at this; omega)); (case q2 => exact HE.out.drew); (case q3 => exact HE'.out.drew); (case q4 => (intro b hb; have := HS.out b hb; simp; omega)); rintro e w1 ⟨rfl, hw1⟩; obtain ⟨kc, kf⟩ := bcell hw1))
        go_wp2_with fail
      · go_roundg (l.length - (j + 1))
        case measure => omega
        case rel => exact ⟨j + 1, by omega, by go_num, Ty.beqs_snoc l l' j hjl hjl' Hb.out he, Hwr.out.drew.trans (hw1.mono (by simp; omega))⟩
      · go_returns
        exact ⟨by simp [Ty.beq, Ty.beqs_at l l' j hjl hjl' he], Hw0.out.drew.trans (hw1.mono (by simp; omega))⟩
    · go_wp2_with fail
      go_returns
      have h1 : j = l.length := by omega
      have h2 := Hb.out
      have h3 := Hll.out
      rw [h1, List.take_length] at h2
      rw [h3, List.take_length] at h2
      exact ⟨by simp [Ty.beq, h2], Hw0.out⟩
end Go.Proofs.YtnoceodmnjhljaaDoor
