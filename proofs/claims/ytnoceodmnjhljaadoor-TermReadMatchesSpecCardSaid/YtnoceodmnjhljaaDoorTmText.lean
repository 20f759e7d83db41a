/-
  The text of a term as bytes (as the document says). Nothing here names the program.
-/
import Derived.Test.YtnoceodmnjhljaaDoorSyBytes
import Derived.Test.YtnoceodmnjhljaaDoorTerm
import Derived.Test.YtnoceodmnjhljaaDoorSyIn
import Derived.Lib.ItoaNum
namespace Go.Proofs.YtnoceodmnjhljaaDoor
open Go Go.RowKit
set_option linter.unusedSimpArgs false
set_option linter.unusedVariables false

def Tv.text : Tv → List UInt8
  | .con nm s => nm.data.toList ++ 58 :: s.bytes
  | .var i => 35 :: Lib.decDigits i
  | .abs s b => 91 :: (s.bytes ++ 32 :: (b.text ++ [93]))
  | .app f x => 40 :: (f.text ++ 32 :: (x.text ++ [41]))
theorem Tv.string (v : Tv) : ∃ x : ByteArray, (⟨v.text.toArray⟩ : ByteArray) = x ∧ x.size = v.text.length := ⟨_, rfl, by simp [ByteArray.size]⟩

theorem decDigits_len : ∀ (N n : Nat), n ≤ N → (Lib.decDigits n).length ≤ n + 1 := by
  intro N
  induction N with
  | zero => intro n h; obtain rfl : n = 0 := by omega
            rw [Lib.decDigits]; simp
  | succ N ih =>
    intro n h
    rw [Lib.decDigits]
    split
    · simp
    · have := ih (n / 10) (by omega)
      simp only [List.length_append, List.length_cons, List.length_nil]; omega
/-- The names, types and numbers of a term are short. -/
def Tv.tysmall : Tv → Prop
  | .con nm s => nm.size ≤ 1000000 ∧ s.nodes ≤ 1000000
  | .var i => i < 1000000
  | .abs s b => s.nodes ≤ 1000000 ∧ b.tysmall
  | .app f x => f.tysmall ∧ x.tysmall
theorem okName_size {s : ByteArray} (h : okName s = true) : s.size ≤ 30 := by
  unfold okName at h
  simp only [Bool.and_eq_true, decide_eq_true_eq] at h
  exact h.1.1.2
theorem Sy.small_of {s : Sy} (h : s.ty.fault = 0) : s.nodes ≤ 200 := by
  obtain ⟨s', e, hn, _⟩ := Ty.of_fault h
  obtain rfl := Sy.ty_inj _ _ e
  exact hn
theorem Tv.small : ∀ (v : Tv) (bd : Nat), v.ok bd → bd + v.depth ≤ 1000000 → v.tysmall
  | .con nm s, _, h, _ => ⟨by have := okName_size h.1; omega, by have := Sy.small_of h.2; omega⟩
  | .var i, bd, h, hd => by have h' : i < bd := h; show i < 1000000; omega
  | .abs s b, bd, h, hd => ⟨by have := Sy.small_of h.1; omega, Tv.small b (bd + 1) h.2 (by simp only [Tv.depth] at hd; omega)⟩
  | .app f x, bd, h, hd => ⟨Tv.small f bd h.1 (by simp only [Tv.depth] at hd; omega), Tv.small x bd h.2 (by simp only [Tv.depth] at hd; omega)⟩
theorem Tv.text_len : ∀ v : Tv, v.tysmall → v.text.length ≤ 10000000 * v.nodes
  | .con nm s, h => by
    have h1 := s.bytes_len
    have h2 : nm.data.toList.length = nm.size := by rw [Array.length_toList]; rfl
    have h3 := h.1
    have h4 := h.2
    simp only [Tv.text, Tv.nodes, List.length_append, List.length_cons]; omega
  | .var i, h => by
    have h1 := decDigits_len i i (Nat.le_refl _)
    have h2 : i < 1000000 := h
    simp only [Tv.text, Tv.nodes, List.length_cons]; omega
  | .abs s b, h => by
    have h1 := s.bytes_len
    have h2 := h.1
    have h3 := Tv.text_len b h.2
    simp only [Tv.text, Tv.nodes, List.length_append, List.length_cons, List.length_nil]; omega
  | .app f x, h => by
    have h1 := Tv.text_len f h.1
    have h2 := Tv.text_len x h.2
    simp only [Tv.text, Tv.nodes, List.length_append, List.length_cons, List.length_nil]; omega

end Go.Proofs.YtnoceodmnjhljaaDoor
