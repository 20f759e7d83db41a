/-
  (*simple.Reader).part and Type: what they compute (partF), and the walks.
-/
import Derived.Test.YtnoceodmnjhljaaDoorReader
import Derived.Test.YtnoceodmnjhljaaDoorClone
namespace Go.Proofs.YtnoceodmnjhljaaDoor
open Go Go.RowKit
set_option linter.unusedSimpArgs false
set_option linter.unusedVariables false

/-- A reader's state: its place, its fault's code and place, how many nodes were counted. -/
structure St where
  i : Nat
  c : Nat
  j : Nat
  n : Nat

def takeF (x : ByteArray) (s : St) (b : Nat) : St := if s.c = 0 then (if byteAt x s.i = b then { s with i := s.i + 1 } else { s with c := 11, j := s.i }) else s
theorem takeF_c {x : ByteArray} {s : St} {b : Nat} (h : s.c ≠ 0) : takeF x s b = s := by unfold takeF; rw [if_neg h]

def zeroTy : Ty := .mk bNil []
/-- What (*Reader).part computes; k: how many levels are left. -/
def partF (x : ByteArray) : Nat → St → Ty × St
  | 0, s => if s.c = 0 then (if byteAt x s.i = 101 ∨ byteAt x s.i = 116 ∨ byteAt x s.i = 40 then (zeroTy, { s with c := 1, j := s.i, n := s.n + 1 }) else (zeroTy, { s with c := 11, j := s.i })) else (zeroTy, s)
  | k + 1, s =>
    if s.c = 0 then
      if byteAt x s.i = 101 ∨ byteAt x s.i = 116 ∨ byteAt x s.i = 40 then
        if 200 < s.n + 1 then (zeroTy, { s with c := 1, j := s.i, n := s.n + 1 })
        else if byteAt x s.i = 101 then (.mk bE [], { s with i := s.i + 1, n := s.n + 1 })
        else if byteAt x s.i = 116 then (.mk bT [], { s with i := s.i + 1, n := s.n + 1 })
        else
          let p := partF x k { s with i := s.i + 1, n := s.n + 1 }
          let q := partF x k (takeF x p.2 32)
          (.mk bNil [p.1, q.1], takeF x q.2 41)
      else (zeroTy, { s with c := 11, j := s.i })
    else (zeroTy, s)

theorem partF_c (x : ByteArray) (k : Nat) (s : St) (h : s.c ≠ 0) : partF x k s = (zeroTy, s) := by
  cases k <;> (unfold partF; rw [if_neg h])

/-- partF reads as rd does. -/
theorem partF_rd (x : ByteArray) : ∀ (k : Nat) (s : St), s.c = 0 → match rd x k s.i s.n with
    | .bad c j => (partF x k s).2.c = c ∧ (partF x k s).2.j = j ∧ c ≠ 0
    | .ok τ i m => partF x k s = (τ.ty, { s with i := i, n := m })
  | 0, s, h => by
    unfold rd partF
    rw [if_pos h]
    by_cases hb : byteAt x s.i = 101 ∨ byteAt x s.i = 116 ∨ byteAt x s.i = 40
    · simp only [if_pos hb]; simp
    · simp only [if_neg hb]; simp
  | k + 1, s, h => by
    unfold rd partF
    rw [if_pos h]
    by_cases hb : byteAt x s.i = 101 ∨ byteAt x s.i = 116 ∨ byteAt x s.i = 40
    case neg => simp only [if_neg hb]; simp
    by_cases hn : 200 < s.n + 1
    · simp only [if_pos hb, if_pos hn]; simp
    by_cases he : byteAt x s.i = 101
    · simp only [if_pos hb, if_neg hn, if_pos he]; rfl
    by_cases ht : byteAt x s.i = 116
    · simp only [if_pos hb, if_neg hn, if_neg he, if_pos ht]; rfl
    simp only [if_pos hb, if_neg hn, if_neg he, if_neg ht]
    have ih := partF_rd x k { s with i := s.i + 1, n := s.n + 1 } h
    simp only at ih
    cases ha : rd x k (s.i + 1) (s.n + 1) with
    | bad c j =>
      rw [ha] at ih
      simp only at ih ⊢
      obtain ⟨h1, h2, h3⟩ := ih
      have hc : (partF x k { s with i := s.i + 1, n := s.n + 1 }).2.c ≠ 0 := by rw [h1]; exact h3
      rw [takeF_c hc, partF_c x k _ hc]
      simp only
      rw [takeF_c hc]
      exact ⟨h1, h2, h3⟩
    | ok a i1 n1 =>
      rw [ha] at ih
      simp only at ih ⊢
      rw [ih]
      simp only
      by_cases hb : byteAt x i1 = 32
      · have ht : takeF x { s with i := i1, n := n1 } 32 = { s with i := i1 + 1, n := n1 } := by unfold takeF; simp only; rw [if_pos h, if_pos hb]
        rw [if_pos hb, ht]
        have ih2 := partF_rd x k { s with i := i1 + 1, n := n1 } h
        simp only at ih2
        cases hb2 : rd x k (i1 + 1) n1 with
        | bad c j =>
          rw [hb2] at ih2
          simp only at ih2 ⊢
          obtain ⟨h1, h2, h3⟩ := ih2
          have hc : (partF x k { s with i := i1 + 1, n := n1 }).2.c ≠ 0 := by rw [h1]; exact h3
          rw [takeF_c hc]
          exact ⟨h1, h2, h3⟩
        | ok b i2 n2 =>
          rw [hb2] at ih2
          simp only at ih2 ⊢
          rw [ih2]
          simp only
          by_cases hb3 : byteAt x i2 = 41
          · rw [if_pos hb3]
            simp only
            unfold takeF
            simp only
            rw [if_pos h, if_pos hb3]
            rfl
          · rw [if_neg hb3]
            simp only
            unfold takeF
            simp only
            rw [if_pos h, if_neg hb3]
            simp
      · rw [if_neg hb]
        simp only
        have ht : takeF x { s with i := i1, n := n1 } 32 = { s with i := i1, n := n1, c := 11, j := i1 } := by unfold takeF; simp only; rw [if_pos h, if_neg hb]
        rw [ht, partF_c x k _ (by simp)]
        simp only
        rw [takeF_c (by simp)]
        simp

/-- While no fault was met: the count fits, the place lies in the text. -/
def St.fits (x : ByteArray) (s : St) : Prop := s.n ≤ 201 ∧ s.i ≤ x.size ∧ s.j ≤ x.size ∧ s.c ≤ 11 ∧ (s.c = 0 → s.n ≤ 200)
theorem takeF_fits {x : ByteArray} {s : St} {b : Nat} (h : s.fits x) (hb : b ≠ 0) : (takeF x s b).fits x := by
  obtain ⟨h1, h2, h3, h4, h5⟩ := h
  unfold takeF
  split
  · split
    · rename_i h6 h7
      have := byteAt_lt (x := x) (i := s.i) (by omega)
      exact ⟨h1, by simp only; omega, h3, h4, h5⟩
    · exact ⟨h1, h2, h2, by simp, fun h => by simp at h⟩
  · exact ⟨h1, h2, h3, h4, h5⟩
theorem partF_fits (x : ByteArray) : ∀ (k : Nat) (s : St), s.fits x → (partF x k s).2.fits x
  | 0, s, h => by
    obtain ⟨h1, h2, h3, h4, h5⟩ := h
    unfold partF
    split
    · split
      · exact ⟨by simp only; omega, h2, h2, by simp, fun h => by simp at h⟩
      · exact ⟨h1, h2, h2, by simp, fun h => by simp at h⟩
    · exact ⟨h1, h2, h3, h4, h5⟩
  | k + 1, s, h => by
    have h' := h
    obtain ⟨h1, h2, h3, h4, h5⟩ := h
    unfold partF
    split
    case isFalse => exact h'
    rename_i hc
    split
    case isFalse => exact ⟨h1, h2, h2, by simp, fun h => by simp at h⟩
    rename_i hb
    have hlt := byteAt_lt (x := x) (i := s.i) (by omega)
    split
    · exact ⟨by simp only; omega, h2, h2, by simp, fun h => by simp at h⟩
    have hf : St.fits x { s with i := s.i + 1, n := s.n + 1 } := ⟨by simp only; omega, by simp only; omega, h3, h4, fun _ => by simp only; omega⟩
    split
    · exact hf
    split
    · exact hf
    exact takeF_fits (partF_fits x k _ (takeF_fits (partF_fits x k _ hf) (by decide))) (by decide)

end Go.Proofs.YtnoceodmnjhljaaDoor
