/-
  The bytes of a text; the longest name at a place. Nothing here names the program.
-/
import Derived.Test.YtflcbbikfdahhaaDoorOkName
namespace Go.Proofs.YtflcbbikfdahhaaDoor
open Go Go.RowKit
set_option linter.unusedSimpArgs false
set_option linter.unusedVariables false

/-- The byte at a place; 0 behind the end. -/
def byteAt (x : ByteArray) (i : Nat) : Nat := if h : i < x.size then (x[i]'h).toNat else 0

theorem byteAt_lt {x : ByteArray} {i : Nat} (h : byteAt x i ≠ 0) : i < x.size := by
  unfold byteAt at h
  split at h
  · assumption
  · exact absurd rfl h
theorem byteAt_in {x : ByteArray} {i : Nat} (h : i < x.size) : byteAt x i = (x[i]'h).toNat := by unfold byteAt; rw [dif_pos h]
theorem byteAt_out {x : ByteArray} {i : Nat} (h : x.size ≤ i) : byteAt x i = 0 := by unfold byteAt; rw [dif_neg (by omega)]
theorem bytes_len (x : ByteArray) : x.data.toList.length = x.size := by rw [Array.length_toList]; rfl
theorem drop_byte {x : ByteArray} {i : Nat} {c : UInt8} (h : byteAt x i = c.toNat) (h0 : c.toNat ≠ 0) : x.data.toList.drop i = c :: x.data.toList.drop (i + 1) := by
  have hlt := byteAt_lt (by rw [h]; exact h0)
  rw [byteAt_in hlt] at h
  have hc : x[i]'hlt = c := UInt8.toNat_inj.1 h
  rw [List.drop_eq_getElem_cons (by rw [bytes_len]; exact hlt)]
  congr 1
theorem byte_drop {x : ByteArray} {i : Nat} {c : UInt8} {r : List UInt8} (h : x.data.toList.drop i = c :: r) : byteAt x i = c.toNat ∧ i < x.size ∧ x.data.toList.drop (i + 1) = r := by
  have hlt : i < x.size := by
    rcases Nat.lt_or_ge i x.size with h' | h'
    · exact h'
    · rw [List.drop_eq_nil_of_le (by rw [bytes_len]; exact h')] at h; cases h
  rw [List.drop_eq_getElem_cons (by rw [bytes_len]; exact hlt)] at h
  injection h with h1 h2
  refine ⟨?_, hlt, h2⟩
  rw [byteAt_in hlt, ← h1]
  rfl

/-- The end of the longest name that begins at a place (a: as far as it was read). -/
def nameG (x : ByteArray) (frm : Nat) : Nat → Nat → Nat
  | 0, a => a
  | f + 1, a => if a < x.size ∧ a - frm < 30 ∧ okName (x.extract frm (a + 1)) = true then nameG x frm f (a + 1) else a
def nameE (x : ByteArray) (i : Nat) : Nat := nameG x i (x.size + 1 - i) i

theorem nameG_stop2 {x : ByteArray} {frm f a : Nat} (h : ¬ (a < x.size ∧ a - frm < 30 ∧ okName (x.extract frm (a + 1)) = true)) : nameG x frm f a = a := by
  cases f with
  | zero => rfl
  | succ f => unfold nameG; rw [if_neg h]
theorem nameG_go2 {x : ByteArray} {frm f a : Nat} (h : a < x.size ∧ a - frm < 30 ∧ okName (x.extract frm (a + 1)) = true) : nameG x frm (f + 1) a = nameG x frm f (a + 1) := by
  conv => lhs; unfold nameG
  rw [if_pos h]
theorem nameG_ge (x : ByteArray) (frm : Nat) : ∀ (f a : Nat), a ≤ nameG x frm f a
  | 0, a => Nat.le_refl _
  | f + 1, a => by
    unfold nameG
    split
    · exact Nat.le_trans (Nat.le_succ a) (nameG_ge x frm f (a + 1))
    · exact Nat.le_refl _
theorem nameG_top (x : ByteArray) (frm : Nat) : ∀ (f a : Nat), a ≤ x.size → nameG x frm f a ≤ x.size
  | 0, a, h => h
  | f + 1, a, h => by
    unfold nameG
    split
    · rename_i hc; exact nameG_top x frm f (a + 1) hc.1
    · exact h
theorem nameE_ge (x : ByteArray) (i : Nat) : i ≤ nameE x i := nameG_ge x i _ i
theorem nameE_top {x : ByteArray} {i : Nat} (h : i ≤ x.size) : nameE x i ≤ x.size := nameG_top x i _ i h
theorem ext_le2 (x : ByteArray) (i a : Nat) (hx : x.size ≤ 4000) : (x.extract i a).size ≤ maxLen := by
  have h : (x.extract i a).size ≤ x.size := by rw [ByteArray.size_extract]; omega
  unfold maxLen; omega
/-- A name begins where a small letter stands. -/
theorem nameE_pos {x : ByteArray} {i : Nat} (h : 97 ≤ byteAt x i ∧ byteAt x i ≤ 122) : i < nameE x i := by
  have hi : i < x.size := byteAt_lt (by omega)
  rw [byteAt_in hi] at h
  unfold nameE
  obtain ⟨f, hf⟩ : ∃ f, x.size + 1 - i = f + 1 := ⟨x.size - i, by omega⟩
  rw [hf]
  have e1 : (x.extract i (i + 1)).data.toList = [x[i]'hi] := by
    rw [ByteArray.data_extract, Array.toList_extract]
    simp only [List.extract_eq_take_drop]
    rw [List.drop_eq_getElem_cons (by rw [bytes_len]; exact hi), show i + 1 - i = 1 by omega]
    rfl
  have hsz : (x.extract i (i + 1)).size = 1 := by rw [ByteArray.size_extract]; omega
  rw [nameG_go2 ⟨hi, by omega, ?_⟩]
  · exact nameG_ge x i f (i + 1)
  · unfold okName
    rw [hsz, e1]
    simp only [List.headD_cons, List.all_cons, List.all_nil, Bool.and_true, isLow, isOther, decide_eq_true_eq, Bool.and_eq_true, Bool.or_eq_true]
    have h' : decide (97 ≤ (x[i]'hi).toNat) = true ∧ decide ((x[i]'hi).toNat ≤ 122) = true := ⟨decide_eq_true h.1, decide_eq_true h.2⟩
    first | exact ⟨⟨⟨by decide, by decide⟩, h'⟩, Or.inl h⟩ | exact ⟨⟨⟨by decide, by decide⟩, h⟩, Or.inl h'⟩
/-- .. and nowhere else. -/
theorem nameE_zero {x : ByteArray} {i : Nat} (h : ¬ (97 ≤ byteAt x i ∧ byteAt x i ≤ 122)) : nameE x i = i := by
  unfold nameE
  refine nameG_stop2 (fun ⟨hi, _, hok⟩ => h ?_)
  rw [byteAt_in hi]
  have e1 : (x.extract i (i + 1)).data.toList = [x[i]'hi] := by
    rw [ByteArray.data_extract, Array.toList_extract]
    simp only [List.extract_eq_take_drop]
    rw [List.drop_eq_getElem_cons (by rw [bytes_len]; exact hi), show i + 1 - i = 1 by omega]
    rfl
  unfold okName at hok
  rw [e1] at hok
  simp only [List.headD_cons, isLow, Bool.and_eq_true, decide_eq_true_eq] at hok
  exact ⟨of_decide_eq_true hok.1.2.1, of_decide_eq_true hok.1.2.2⟩

end Go.Proofs.YtflcbbikfdahhaaDoor
