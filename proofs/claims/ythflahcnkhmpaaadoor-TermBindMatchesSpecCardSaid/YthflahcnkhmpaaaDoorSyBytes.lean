/-
  The text of a simple type as bytes; it tells the type. Nothing here names the program.
-/
import Derived.Test.YthflahcnkhmpaaaDoorSy
namespace Go.Proofs.YthflahcnkhmpaaaDoor
open Go Go.RowKit
set_option linter.unusedSimpArgs false
set_option linter.unusedVariables false

def Sy.bytes : Sy → List UInt8
  | .e => [101]
  | .t => [116]
  | .fn a b => 40 :: (a.bytes ++ 32 :: (b.bytes ++ [41]))
theorem Sy.bytes_len (s : Sy) : s.bytes.length ≤ 4 * s.nodes := by
  induction s with
  | e => simp [Sy.bytes, Sy.nodes]
  | t => simp [Sy.bytes, Sy.nodes]
  | fn a b iha ihb => simp [Sy.bytes, Sy.nodes]; omega

theorem bE_list : bE.data.toList = [101] := rfl
theorem bT_list : bT.data.toList = [116] := rfl

/-- A string of these bytes, as an opaque letter. -/
theorem Sy.string (s : Sy) : ∃ x : ByteArray, (⟨s.bytes.toArray⟩ : ByteArray) = x ∧ x.size = s.bytes.length := ⟨_, rfl, by simp [ByteArray.size]⟩
theorem bytes_mk {x : ByteArray} {l : List UInt8} (h : x.data.toList = l) : x = ⟨l.toArray⟩ := by subst h; cases x; simp

/-- The text tells the type. -/
theorem Sy.bytes_split : ∀ (a b : Sy) (x y : List UInt8), a.bytes ++ x = b.bytes ++ y → a = b ∧ x = y
  | .e, .e, x, y, h => by simpa [Sy.bytes] using h
  | .t, .t, x, y, h => by simpa [Sy.bytes] using h
  | .fn a b, .fn c d, x, y, h => by
    simp only [Sy.bytes, List.cons_append, List.append_assoc, List.cons.injEq, true_and] at h
    obtain ⟨rfl, h2⟩ := Sy.bytes_split a c _ _ h
    simp only [List.cons.injEq, true_and] at h2
    obtain ⟨rfl, h3⟩ := Sy.bytes_split b d _ _ h2
    exact ⟨rfl, by simpa using h3⟩
  | .e, .t, _, _, h => by simp [Sy.bytes] at h
  | .e, .fn _ _, _, _, h => by simp [Sy.bytes] at h
  | .t, .e, _, _, h => by simp [Sy.bytes] at h
  | .t, .fn _ _, _, _, h => by simp [Sy.bytes] at h
  | .fn _ _, .e, _, _, h => by simp [Sy.bytes] at h
  | .fn _ _, .t, _, _, h => by simp [Sy.bytes] at h
theorem Sy.bytes_inj {a b : Sy} (h : a.bytes = b.bytes) : a = b := (Sy.bytes_split a b [] [] (by simp [h])).1

end Go.Proofs.YthflahcnkhmpaaaDoor
