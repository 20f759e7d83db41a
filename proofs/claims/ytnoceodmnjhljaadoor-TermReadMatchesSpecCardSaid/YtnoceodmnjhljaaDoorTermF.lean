/-
  How a term is read from a text, in plain words: trd reads one term at a place; termF is what the program's reader computes, faults and all. Nothing here names a function.
-/
import Derived.Test.YtnoceodmnjhljaaDoorReaderT
import Derived.Test.YtnoceodmnjhljaaDoorTerm
namespace Go.Proofs.YtnoceodmnjhljaaDoor
open Go Go.RowKit
set_option linter.unusedSimpArgs false
set_option linter.unusedVariables false

/-- The longest number below 200 without leading noughts: the number, its end (n: what was read since frm). -/
def numG (x : ByteArray) (frm : Nat) : Nat → Nat → Nat → Nat × Nat
  | 0, n, a => (n, a)
  | f + 1, n, a => if a < x.size ∧ 48 ≤ byteAt x a ∧ byteAt x a ≤ 57 ∧ ¬ (frm < a ∧ n = 0) ∧ 10 * n + (byteAt x a - 48) < 200 then numG x frm f (10 * n + (byteAt x a - 48)) (a + 1) else (n, a)
def numF (x : ByteArray) (i : Nat) : Nat × Nat := numG x i (x.size + 1 - i) 0 i
theorem numG_stop {x : ByteArray} {frm f n a : Nat} (h : ¬ (a < x.size ∧ 48 ≤ byteAt x a ∧ byteAt x a ≤ 57 ∧ ¬ (frm < a ∧ n = 0) ∧ 10 * n + (byteAt x a - 48) < 200)) : numG x frm f n a = (n, a) := by
  cases f with
  | zero => rfl
  | succ f => unfold numG; rw [if_neg h]
theorem numG_go {x : ByteArray} {frm f n a : Nat} (h : a < x.size ∧ 48 ≤ byteAt x a ∧ byteAt x a ≤ 57 ∧ ¬ (frm < a ∧ n = 0) ∧ 10 * n + (byteAt x a - 48) < 200) : numG x frm (f + 1) n a = numG x frm f (10 * n + (byteAt x a - 48)) (a + 1) := by
  rw [numG, if_pos h]


/-- The end of the longest name that begins at a place (a: as far as it was read). -/
def nameG (x : ByteArray) (frm : Nat) : Nat → Nat → Nat
  | 0, a => a
  | f + 1, a => if a < x.size ∧ a - frm < 30 ∧ okName (x.extract frm (a + 1)) = true then nameG x frm f (a + 1) else a
def nameE (x : ByteArray) (i : Nat) : Nat := nameG x i (x.size + 1 - i) i

/-- A term begins with it. -/
abbrev startB (b : Nat) : Prop := b = 35 ∨ b = 91 ∨ b = 40 ∨ (97 ≤ b ∧ b ≤ 122)
def tmZT : Tm := .mk ⟨0, bNil, 0, noTy⟩ []
/-- What (*reader).term computes; k: how many levels are left; the state's n: how many terms were counted. -/
def termF (x : ByteArray) : Nat → St → Tm × St
  | 0, s => if s.c = 0 then (if startB (byteAt x s.i) then (tmZT, { s with c := 1, j := s.i, n := s.n + 1 }) else (tmZT, { s with c := 11, j := s.i })) else (tmZT, s)
  | k + 1, s =>
    if s.c = 0 then
      if startB (byteAt x s.i) then
        if 200 < s.n + 1 then (tmZT, { s with c := 1, j := s.i, n := s.n + 1 })
        else if byteAt x s.i = 35 then
          (.mk ⟨2, bNil, ((numF x (s.i + 1)).1 : Nat), noTy⟩ [], if (numF x (s.i + 1)).2 = s.i + 1 then { s with i := s.i + 1, c := 11, j := s.i + 1, n := s.n + 1 } else { s with i := (numF x (s.i + 1)).2, n := s.n + 1 })
        else if byteAt x s.i = 91 then
          let p := partF x 40 { s with i := s.i + 1, n := 0 }
          let q := termF x k (takeF x { p.2 with n := s.n + 1 } 32)
          (.mk ⟨3, bNil, 0, p.1⟩ [q.1], takeF x q.2 93)
        else if byteAt x s.i = 40 then
          let p := termF x k { s with i := s.i + 1, n := s.n + 1 }
          let q := termF x k (takeF x p.2 32)
          (.mk ⟨4, bNil, 0, noTy⟩ [p.1, q.1], takeF x q.2 41)
        else
          let s1 := takeF x { s with i := nameE x s.i, n := s.n + 1 } 58
          let p := partF x 40 { s1 with n := 0 }
          (.mk ⟨1, x.extract s.i (nameE x s.i), 0, p.1⟩ [], { p.2 with n := s.n + 1 })
      else (tmZT, { s with c := 11, j := s.i })
    else (tmZT, s)
theorem termF_c (x : ByteArray) (k : Nat) (s : St) (h : s.c ≠ 0) : termF x k s = (tmZT, s) := by
  cases k <;> (unfold termF; rw [if_neg h])

/-- What a reader finds: a fault (code, place), or a term, where it ends, and how many terms were counted. -/
inductive TRd where
  | bad (code at_ : Nat)
  | ok (v : Tv) (at_ n : Nat)
/-- One term at a place, when n terms were counted; k: how many levels are left. -/
def trd (x : ByteArray) : Nat → Nat → Nat → TRd
  | 0, i, _ => if startB (byteAt x i) then .bad 1 i else .bad 11 i
  | k + 1, i, n =>
    if startB (byteAt x i) then
      if 200 < n + 1 then .bad 1 i
      else if byteAt x i = 35 then (if (numF x (i + 1)).2 = i + 1 then .bad 11 (i + 1) else .ok (.var (numF x (i + 1)).1) (numF x (i + 1)).2 (n + 1))
      else if byteAt x i = 91 then match rd x 40 (i + 1) 0 with
        | .bad c a => .bad c a
        | .ok ty a _ => if byteAt x a = 32 then match trd x k (a + 1) (n + 1) with
            | .bad c a => .bad c a
            | .ok v a m => if byteAt x a = 93 then .ok (.abs ty v) (a + 1) m else .bad 11 a
          else .bad 11 a
      else if byteAt x i = 40 then match trd x k (i + 1) (n + 1) with
        | .bad c a => .bad c a
        | .ok f a m => if byteAt x a = 32 then match trd x k (a + 1) m with
            | .bad c a => .bad c a
            | .ok v a m => if byteAt x a = 41 then .ok (.app f v) (a + 1) m else .bad 11 a
          else .bad 11 a
      else if byteAt x (nameE x i) = 58 then match rd x 40 (nameE x i + 1) 0 with
          | .bad c a => .bad c a
          | .ok ty a _ => .ok (.con (x.extract i (nameE x i)) ty) a (n + 1)
        else .bad 11 (nameE x i)
    else .bad 11 i

theorem takeF_ok {x : ByteArray} {s : St} {b : Nat} (hc : s.c = 0) (h : byteAt x s.i = b) : takeF x s b = { s with i := s.i + 1 } := by unfold takeF; rw [if_pos hc, if_pos h]
theorem takeF_bad {x : ByteArray} {s : St} {b : Nat} (hc : s.c = 0) (h : ¬ byteAt x s.i = b) : takeF x s b = { s with c := 11, j := s.i } := by unfold takeF; rw [if_pos hc, if_neg h]
/-- termF reads as trd does. -/
theorem termF_trd (x : ByteArray) : ∀ (k : Nat) (s : St), s.c = 0 → match trd x k s.i s.n with
    | .bad c a => (termF x k s).2.c = c ∧ (termF x k s).2.j = a ∧ c ≠ 0
    | .ok v a m => termF x k s = (v.tm, { s with i := a, n := m })
  | 0, s, h => by
    unfold trd termF
    rw [if_pos h]
    by_cases hb : startB (byteAt x s.i)
    · simp only [if_pos hb]; simp
    · simp only [if_neg hb]; simp
  | k + 1, s, h => by
    unfold trd termF
    rw [if_pos h]
    by_cases hb : startB (byteAt x s.i)
    case neg => simp only [if_neg hb]; simp
    by_cases hn : 200 < s.n + 1
    · simp only [if_pos hb, if_pos hn]; simp
    by_cases h35 : byteAt x s.i = 35
    · simp only [if_pos hb, if_neg hn, if_pos h35]
      by_cases he : (numF x (s.i + 1)).2 = s.i + 1
      · simp only [if_pos he]; simp
      · simp only [if_neg he]; rfl
    by_cases h91 : byteAt x s.i = 91
    · simp only [if_pos hb, if_neg hn, if_neg h35, if_pos h91]
      have hp := partF_rd x 40 { s with i := s.i + 1, n := 0 } h
      simp only at hp
      cases hr : rd x 40 (s.i + 1) 0 with
      | bad c a =>
        rw [hr] at hp
        simp only at hp ⊢
        obtain ⟨h1, h2, h3⟩ := hp
        have hc : ({ (partF x 40 { s with i := s.i + 1, n := 0 }).2 with n := s.n + 1 } : St).c ≠ 0 := by show (partF x 40 { s with i := s.i + 1, n := 0 }).2.c ≠ 0; rw [h1]; exact h3
        rw [takeF_c hc, termF_c x k _ hc]
        simp only
        rw [takeF_c hc]
        exact ⟨h1, h2, h3⟩
      | ok ty a q =>
        rw [hr] at hp
        simp only at hp ⊢
        rw [hp]
        simp only
        by_cases h32 : byteAt x a = 32
        · rw [if_pos h32, takeF_ok (s := { s with i := a, n := s.n + 1 }) h h32]
          have ih := termF_trd x k { s with i := a + 1, n := s.n + 1 } h
          simp only at ih ⊢
          cases hv : trd x k (a + 1) (s.n + 1) with
          | bad c b =>
            rw [hv] at ih
            simp only at ih ⊢
            obtain ⟨h1, h2, h3⟩ := ih
            rw [takeF_c (by rw [h1]; exact h3)]
            exact ⟨h1, h2, h3⟩
          | ok v b m =>
            rw [hv] at ih
            simp only at ih ⊢
            rw [ih]
            simp only
            by_cases h93 : byteAt x b = 93
            · rw [if_pos h93, takeF_ok (s := { s with i := b, n := m }) h h93]; rfl
            · rw [if_neg h93, takeF_bad (s := { s with i := b, n := m }) h h93]; simp
        · rw [if_neg h32, takeF_bad (s := { s with i := a, n := s.n + 1 }) h h32, termF_c x k _ (by simp)]
          simp only
          rw [takeF_c (by simp)]
          simp
    by_cases h40 : byteAt x s.i = 40
    · simp only [if_pos hb, if_neg hn, if_neg h35, if_neg h91, if_pos h40]
      have ih1 := termF_trd x k { s with i := s.i + 1, n := s.n + 1 } h
      simp only at ih1
      cases hv1 : trd x k (s.i + 1) (s.n + 1) with
      | bad c a =>
        rw [hv1] at ih1
        simp only at ih1 ⊢
        obtain ⟨h1, h2, h3⟩ := ih1
        have hc : (termF x k { s with i := s.i + 1, n := s.n + 1 }).2.c ≠ 0 := by rw [h1]; exact h3
        rw [takeF_c hc, termF_c x k _ hc]
        simp only
        rw [takeF_c hc]
        exact ⟨h1, h2, h3⟩
      | ok f a q =>
        rw [hv1] at ih1
        simp only at ih1 ⊢
        rw [ih1]
        simp only
        by_cases h32 : byteAt x a = 32
        · rw [if_pos h32, takeF_ok (s := { s with i := a, n := q }) h h32]
          have ih := termF_trd x k { s with i := a + 1, n := q } h
          simp only at ih ⊢
          cases hv : trd x k (a + 1) q with
          | bad c b =>
            rw [hv] at ih
            simp only at ih ⊢
            obtain ⟨h1, h2, h3⟩ := ih
            rw [takeF_c (by rw [h1]; exact h3)]
            exact ⟨h1, h2, h3⟩
          | ok v b m =>
            rw [hv] at ih
            simp only at ih ⊢
            rw [ih]
            simp only
            by_cases h41 : byteAt x b = 41
            · rw [if_pos h41, takeF_ok (s := { s with i := b, n := m }) h h41]; rfl
            · rw [if_neg h41, takeF_bad (s := { s with i := b, n := m }) h h41]; simp
        · rw [if_neg h32, takeF_bad (s := { s with i := a, n := q }) h h32, termF_c x k _ (by simp)]
          simp only
          rw [takeF_c (by simp)]
          simp
    simp only [if_pos hb, if_neg hn, if_neg h35, if_neg h91, if_neg h40]
    by_cases h58 : byteAt x (nameE x s.i) = 58
    · rw [if_pos h58, takeF_ok (s := { s with i := nameE x s.i, n := s.n + 1 }) h h58]
      have hp := partF_rd x 40 { s with i := nameE x s.i + 1, n := 0 } h
      simp only at hp ⊢
      cases hr : rd x 40 (nameE x s.i + 1) 0 with
      | bad c a => rw [hr] at hp; exact hp
      | ok ty a q =>
        rw [hr] at hp
        simp only at hp ⊢
        rw [hp]
        rfl
    · rw [if_neg h58, takeF_bad (s := { s with i := nameE x s.i, n := s.n + 1 }) h h58, partF_c x 40 _ (by simp)]
      simp

end Go.Proofs.YtnoceodmnjhljaaDoor
