/-
  How a simple type is read from a text, in plain words: 'rd' reads one type at a place; the readers of this claim are shown to read so.
-/
import Derived.Test.YtnoceodmnjhljaaDoorText
namespace Go.Proofs.YtnoceodmnjhljaaDoor
open Go Go.RowKit
set_option linter.unusedSimpArgs false
set_option linter.unusedVariables false

/-- The byte at a place; 0 behind the end. -/
def byteAt (x : ByteArray) (i : Nat) : Nat := if h : i < x.size then (x[i]'h).toNat else 0

/-- What a reader finds: a fault (code, place), or a type, where it ends, and how many nodes were counted. -/
inductive Rd where
  | bad (code at_ : Nat)
  | ok (s : Sy) (at_ n : Nat)

/-- One type at a place, when n nodes were counted; k: how many levels are left (the depth is 41 - k). -/
def rd (x : ByteArray) : Nat → Nat → Nat → Rd
  | 0, i, _ => if byteAt x i = 101 ∨ byteAt x i = 116 ∨ byteAt x i = 40 then .bad 1 i else .bad 11 i
  | k + 1, i, n =>
    if byteAt x i = 101 ∨ byteAt x i = 116 ∨ byteAt x i = 40 then
      if 200 < n + 1 then .bad 1 i
      else if byteAt x i = 101 then .ok .e (i + 1) (n + 1)
      else if byteAt x i = 116 then .ok .t (i + 1) (n + 1)
      else match rd x k (i + 1) (n + 1) with
        | .bad c j => .bad c j
        | .ok a j m =>
          if byteAt x j = 32 then
            match rd x k (j + 1) m with
            | .bad c j' => .bad c j'
            | .ok b j' m' => if byteAt x j' = 41 then .ok (.fn a b) (j' + 1) m' else .bad 11 j'
          else .bad 11 j
    else .bad 11 i

/-- The answer for a whole text. -/
def parse (x : ByteArray) : (Nat × Nat) ⊕ Sy :=
  if 4000 < x.size then .inl (1, 0) else
    match rd x 40 0 0 with
    | .bad c j => .inl (c, j)
    | .ok s j _ => if j < x.size then .inl (11, j) else .inr s

theorem byteAt_lt {x : ByteArray} {i : Nat} (h : byteAt x i ≠ 0) : i < x.size := by
  unfold byteAt at h
  split at h
  · assumption
  · exact absurd rfl h
theorem byteAt_in {x : ByteArray} {i : Nat} (h : i < x.size) : byteAt x i = (x[i]'h).toNat := by unfold byteAt; rw [dif_pos h]
theorem byteAt_out {x : ByteArray} {i : Nat} (h : x.size ≤ i) : byteAt x i = 0 := by unfold byteAt; rw [dif_neg (by omega)]
theorem bytes_len (x : ByteArray) : x.data.toList.length = x.size := by rw [Array.length_toList]; rfl
theorem drop_byte {x : ByteArray} {i : Nat} {c : UInt8} (h : byteAt x i = c.toNat) (h0 : c.toNat ≠ 0) : x.data.toList.drop i = c :: x.data.toList.drop (i + 1) := by
  have hlt := byteAt_lt (by rw [h]; exact h0)
  rw [byteAt_in hlt] at h
  have hc : x[i]'hlt = c := UInt8.toNat_inj.1 h
  rw [List.drop_eq_getElem_cons (by rw [bytes_len]; exact hlt)]
  congr 1
theorem byte_drop {x : ByteArray} {i : Nat} {c : UInt8} {r : List UInt8} (h : x.data.toList.drop i = c :: r) : byteAt x i = c.toNat ∧ i < x.size ∧ x.data.toList.drop (i + 1) = r := by
  have hlt : i < x.size := by
    rcases Nat.lt_or_ge i x.size with h' | h'
    · exact h'
    · rw [List.drop_eq_nil_of_le (by rw [bytes_len]; exact h')] at h; cases h
  rw [List.drop_eq_getElem_cons (by rw [bytes_len]; exact hlt)] at h
  injection h with h1 h2
  refine ⟨?_, hlt, h2⟩
  rw [byteAt_in hlt, ← h1]
  rfl

/-- Where a type was read: its end, its count, its text. -/
theorem rd_ok (x : ByteArray) : ∀ (k i n : Nat) (s : Sy) (j m : Nat), rd x k i n = .ok s j m → j ≤ x.size ∧ i < j ∧ m = n + s.nodes ∧ m ≤ 200 ∧ s.depth ≤ k ∧ x.data.toList.drop i = s.bytes ++ x.data.toList.drop j
  | 0, i, n, s, j, m, h => by unfold rd at h; split at h <;> cases h
  | k + 1, i, n, s, j, m, h => by
    unfold rd at h
    split at h
    case isFalse => cases h
    split at h
    case isTrue => cases h
    rename_i hc hn
    split at h
    · rename_i he
      cases h
      have := byteAt_lt (x := x) (i := i) (by omega)
      refine ⟨by omega, by omega, rfl, by omega, by simp [Sy.depth], ?_⟩
      simpa [Sy.bytes] using drop_byte (c := 101) he (by decide)
    · split at h
      · rename_i _ he
        cases h
        have := byteAt_lt (x := x) (i := i) (by omega)
        refine ⟨by omega, by omega, rfl, by omega, by simp [Sy.depth], ?_⟩
        simpa [Sy.bytes] using drop_byte (c := 116) he (by decide)
      · have he : byteAt x i = 40 := by omega
        split at h
        · cases h
        · rename_i a j1 m1 ha
          obtain ⟨a1, a2, a3, a4, a5, a6⟩ := rd_ok x k _ _ _ _ _ ha
          split at h
          case isFalse => cases h
          rename_i hs
          split at h
          · cases h
          · rename_i b j2 m2 hb
            obtain ⟨b1, b2, b3, b4, b5, b6⟩ := rd_ok x k _ _ _ _ _ hb
            split at h
            case isFalse => cases h
            rename_i hs2
            cases h
            have hlt := byteAt_lt (x := x) (i := j2) (by omega)
            refine ⟨by omega, by omega, by simp [Sy.nodes]; omega, by omega, by simp [Sy.depth]; omega, ?_⟩
            rw [drop_byte (c := 40) he (by decide), a6, drop_byte (c := 32) hs (by decide), b6, drop_byte (c := 41) hs2 (by decide)]
            simp [Sy.bytes]
theorem rd_bad (x : ByteArray) : ∀ (k i n : Nat) (c j : Nat), rd x k i n = .bad c j → i ≤ x.size → j ≤ x.size ∧ (c = 1 ∨ c = 11)
  | 0, i, n, c, j, h, hi => by
    unfold rd at h
    split at h <;> cases h
    · exact ⟨hi, Or.inl rfl⟩
    · exact ⟨hi, Or.inr rfl⟩
  | k + 1, i, n, c, j, h, hi => by
    unfold rd at h
    split at h
    case isFalse => cases h; exact ⟨hi, Or.inr rfl⟩
    rename_i hc
    have hlt := byteAt_lt (x := x) (i := i) (by omega)
    split at h
    · cases h; exact ⟨hi, Or.inl rfl⟩
    split at h
    · cases h
    split at h
    · cases h
    split at h
    · rename_i ha
      cases h
      exact rd_bad x k _ _ _ _ ha (by omega)
    · rename_i a j1 m1 ha
      have h1 := (rd_ok x k _ _ _ _ _ ha).1
      split at h
      · rename_i hs
        have hlt1 := byteAt_lt (x := x) (i := j1) (by omega)
        split at h
        · rename_i hb
          cases h
          exact rd_bad x k _ _ _ _ hb (by omega)
        · rename_i b j2 m2 hb
          have h2 := (rd_ok x k _ _ _ _ _ hb).1
          split at h
          · cases h
          · cases h; exact ⟨h2, Or.inr rfl⟩
      · cases h; exact ⟨h1, Or.inr rfl⟩
/-- A valid type's text is read as the type. -/
theorem rd_text (x : ByteArray) : ∀ (s : Sy) (k i n : Nat) (rest : List UInt8), x.data.toList.drop i = s.bytes ++ rest → s.depth ≤ k → n + s.nodes ≤ 200 → rd x k i n = .ok s (i + s.bytes.length) (n + s.nodes)
  | s, 0, i, n, rest, h, hd, hn => by have := s.depth_pos; omega
  | .e, k + 1, i, n, rest, h, hd, hn => by
    have h1 : byteAt x i = 101 := (byte_drop (c := 101) (by simpa [Sy.bytes] using h)).1
    simp only [Sy.nodes] at hn ⊢
    unfold rd
    rw [if_pos (Or.inl h1), if_neg (by omega), if_pos h1]
    rfl
  | .t, k + 1, i, n, rest, h, hd, hn => by
    have h1 : byteAt x i = 116 := (byte_drop (c := 116) (by simpa [Sy.bytes] using h)).1
    simp only [Sy.nodes] at hn ⊢
    unfold rd
    rw [if_pos (Or.inr (Or.inl h1)), if_neg (by omega), if_neg (by omega), if_pos h1]
    rfl
  | .fn a b, k + 1, i, n, rest, h, hd, hn => by
    simp only [Sy.nodes, Sy.depth] at hn hd
    simp only [Sy.bytes, List.cons_append, List.append_assoc] at h
    obtain ⟨h1, _, h2⟩ := byte_drop h
    have ha := rd_text x a k (i + 1) (n + 1) _ h2 (by omega) (by omega)
    have h3 : x.data.toList.drop (i + 1 + a.bytes.length) = 32 :: (b.bytes ++ (41 :: rest)) := by
      rw [← List.drop_drop, h2, List.drop_left]
      simp
    obtain ⟨h4, _, h5⟩ := byte_drop h3
    have hb := rd_text x b k (i + 1 + a.bytes.length + 1) (n + 1 + a.nodes) _ h5 (by omega) (by omega)
    have h6 : x.data.toList.drop (i + 1 + a.bytes.length + 1 + b.bytes.length) = 41 :: rest := by
      rw [← List.drop_drop, h5, List.drop_left]
    obtain ⟨h7, _, _⟩ := byte_drop h6
    have h1' : byteAt x i = 40 := h1
    unfold rd
    rw [if_pos (Or.inr (Or.inr h1')), if_neg (by omega), if_neg (by omega), if_neg (by omega), ha]
    simp only
    rw [if_pos (show byteAt x (i + 1 + a.bytes.length) = 32 from h4), hb]
    simp only
    rw [if_pos (show byteAt x (i + 1 + a.bytes.length + 1 + b.bytes.length) = 41 from h7)]
    simp only [Sy.bytes, Sy.nodes, List.length_cons, List.length_append, List.length_nil]
    congr 1 <;> omega

end Go.Proofs.YtnoceodmnjhljaaDoor
