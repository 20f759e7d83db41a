/-
  How the reference's ReadType reads: with a stack of open function types. 'runR' and 'foldR' say what is left to be found; each step of the loop is a step of theirs.
-/
import Derived.Test.YtnoceodmnjhljaaDoorRd
namespace Go.Proofs.YtnoceodmnjhljaaDoor
open Go Go.RowKit
set_option linter.unusedSimpArgs false
set_option linter.unusedVariables false

/-- What ReadType finds: a fault, or a type and where it ends. -/
inductive Rt where
  | bad (code at_ : Nat)
  | ok (s : Sy) (at_ : Nat)

/-- A type is done; the open ones (the innermost first): none: its first part is awaited, some a: its second. -/
def foldR (x : ByteArray) : List (Option Sy) → Sy → Nat → Nat → Rt
  | [], τ, i, _ => .ok τ i
  | none :: r, τ, i, n =>
    if byteAt x i = 32 then
      match rd x (40 - (r.length + 1)) (i + 1) n with
      | .bad c j => .bad c j
      | .ok b j m => if byteAt x j = 41 then foldR x r (.fn τ b) (j + 1) m else .bad 11 j
    else .bad 11 i
  | some a :: r, τ, i, n => if byteAt x i = 41 then foldR x r (.fn a τ) (i + 1) n else .bad 11 i
/-- A type must begin at i. -/
def runR (x : ByteArray) (op : List (Option Sy)) (i n : Nat) : Rt :=
  match rd x (40 - op.length) i n with
  | .bad c j => .bad c j
  | .ok τ j m => foldR x op τ j m

theorem runR_none {x : ByteArray} {op : List (Option Sy)} {i n : Nat} (h : ¬ (byteAt x i = 101 ∨ byteAt x i = 116 ∨ byteAt x i = 40)) : runR x op i n = .bad 11 i := by
  unfold runR
  cases 40 - op.length <;> (unfold rd; rw [if_neg h])
theorem runR_much {x : ByteArray} {op : List (Option Sy)} {i n : Nat} (h : byteAt x i = 101 ∨ byteAt x i = 116 ∨ byteAt x i = 40) (h2 : 200 < n + 1 ∨ 40 < op.length + 1) : runR x op i n = .bad 1 i := by
  unfold runR
  cases hk : 40 - op.length with
  | zero => unfold rd; rw [if_pos h]
  | succ k => unfold rd; rw [if_pos h, if_pos (by omega)]
theorem runR_open {x : ByteArray} {op : List (Option Sy)} {i n : Nat} (h : byteAt x i = 40) (h2 : ¬ (200 < n + 1 ∨ 40 < op.length + 1)) : runR x op i n = runR x (none :: op) (i + 1) (n + 1) := by
  unfold runR
  obtain ⟨k, hk⟩ : ∃ k, 40 - op.length = k + 1 := ⟨39 - op.length, by omega⟩
  have hk2 : 40 - (none :: op).length = k := by simp; omega
  rw [hk, hk2]
  conv => lhs; unfold rd
  rw [if_pos (Or.inr (Or.inr h)), if_neg (by omega), if_neg (by omega), if_neg (by omega)]
  cases rd x k (i + 1) (n + 1) with
  | bad c j => rfl
  | ok a j m =>
    simp only [foldR]
    have hk3 : 40 - (op.length + 1) = k := by omega
    rw [hk3]
    by_cases hb : byteAt x j = 32
    · rw [if_pos hb, if_pos hb]
      cases rd x k (j + 1) m with
      | bad c j' => rfl
      | ok b j' m' =>
        simp only
        by_cases hb2 : byteAt x j' = 41
        · rw [if_pos hb2, if_pos hb2]
        · rw [if_neg hb2, if_neg hb2]
    · rw [if_neg hb, if_neg hb]
theorem runR_e {x : ByteArray} {op : List (Option Sy)} {i n : Nat} (h : byteAt x i = 101) (h2 : ¬ (200 < n + 1 ∨ 40 < op.length + 1)) : runR x op i n = foldR x op .e (i + 1) (n + 1) := by
  unfold runR
  obtain ⟨k, hk⟩ : ∃ k, 40 - op.length = k + 1 := ⟨39 - op.length, by omega⟩
  rw [hk]
  unfold rd
  rw [if_pos (Or.inl h), if_neg (by omega), if_pos h]
theorem runR_t {x : ByteArray} {op : List (Option Sy)} {i n : Nat} (h : byteAt x i = 116) (h2 : ¬ (200 < n + 1 ∨ 40 < op.length + 1)) : runR x op i n = foldR x op .t (i + 1) (n + 1) := by
  unfold runR
  obtain ⟨k, hk⟩ : ∃ k, 40 - op.length = k + 1 := ⟨39 - op.length, by omega⟩
  rw [hk]
  unfold rd
  rw [if_pos (Or.inr (Or.inl h)), if_neg (by omega), if_neg (by omega), if_pos h]
theorem foldR_first {x : ByteArray} {r : List (Option Sy)} {τ : Sy} {i n : Nat} (h : byteAt x i = 32) : foldR x (none :: r) τ i n = runR x (some τ :: r) (i + 1) n := by
  unfold runR
  conv => lhs; unfold foldR
  rw [if_pos h]
  rfl
theorem foldR_first_bad {x : ByteArray} {r : List (Option Sy)} {τ : Sy} {i n : Nat} (h : byteAt x i ≠ 32) : foldR x (none :: r) τ i n = .bad 11 i := by
  conv => lhs; unfold foldR
  rw [if_neg h]
theorem foldR_second {x : ByteArray} {r : List (Option Sy)} {a τ : Sy} {i n : Nat} (h : byteAt x i = 41) : foldR x (some a :: r) τ i n = foldR x r (.fn a τ) (i + 1) n := by
  conv => lhs; unfold foldR
  rw [if_pos h]
theorem foldR_second_bad {x : ByteArray} {r : List (Option Sy)} {a τ : Sy} {i n : Nat} (h : byteAt x i ≠ 41) : foldR x (some a :: r) τ i n = .bad 11 i := by
  conv => lhs; unfold foldR
  rw [if_neg h]

/-- From the start: as rd reads. -/
theorem runR_nil (x : ByteArray) (i n : Nat) : runR x [] i n = match rd x 40 i n with | .bad c j => .bad c j | .ok τ j _ => .ok τ j := rfl

end Go.Proofs.YtnoceodmnjhljaaDoor
