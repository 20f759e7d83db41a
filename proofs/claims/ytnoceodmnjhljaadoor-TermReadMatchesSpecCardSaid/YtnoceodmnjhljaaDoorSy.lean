/-
  Valid simple types as a plain inductive type (Sy); what Ty.val says of them; their order, their arguments.
-/
import Derived.Test.YtnoceodmnjhljaaDoorValTy
import Derived.Test.YtnoceodmnjhljaaDoorMore
namespace Go.Proofs.YtnoceodmnjhljaaDoor
open Go Go.RowKit
set_option linter.unusedSimpArgs false
set_option linter.unusedVariables false

inductive Sy where
  | e
  | t
  | fn (a b : Sy)
  deriving DecidableEq

def Sy.ty : Sy → Ty
  | .e => .mk bE []
  | .t => .mk bT []
  | .fn a b => .mk bNil [a.ty, b.ty]
def Sy.nodes : Sy → Nat
  | .e | .t => 1
  | .fn a b => a.nodes + b.nodes + 1
def Sy.depth : Sy → Nat
  | .e | .t => 1
  | .fn a b => max a.depth b.depth + 1
def Sy.ord : Sy → Nat
  | .e | .t => 0
  | .fn a b => max (a.ord + 1) b.ord

theorem Sy.nodes_pos (s : Sy) : 0 < s.nodes := by cases s <;> simp [Sy.nodes]
theorem Sy.depth_pos (s : Sy) : 0 < s.depth := by cases s <;> simp [Sy.depth]
theorem Sy.ord_lt (s : Sy) : s.ord < s.nodes := by
  induction s with
  | e => simp [Sy.ord, Sy.nodes]
  | t => simp [Sy.ord, Sy.nodes]
  | fn a b iha ihb => simp [Sy.ord, Sy.nodes]; omega

theorem bE_ne_nil : bE ≠ bNil := by intro h; have := congrArg ByteArray.size h; exact absurd this (by decide)
theorem bT_ne_nil : bT ≠ bNil := by intro h; have := congrArg ByteArray.size h; exact absurd this (by decide)
theorem bE_ne_bT : bE ≠ bT := by intro h; have := congrArg ByteArray.toList h; simp [bE, bT] at this

theorem Sy.ty_inj : ∀ (a b : Sy), a.ty = b.ty → a = b
  | .e, .e, _ => rfl
  | .t, .t, _ => rfl
  | .e, .t, h => by simp only [Sy.ty, Ty.mk.injEq] at h; exact absurd h.1 bE_ne_bT
  | .t, .e, h => by simp only [Sy.ty, Ty.mk.injEq] at h; exact absurd h.1.symm bE_ne_bT
  | .e, .fn _ _, h => by simp [Sy.ty] at h
  | .t, .fn _ _, h => by simp [Sy.ty] at h
  | .fn _ _, .e, h => by simp [Sy.ty] at h
  | .fn _ _, .t, h => by simp [Sy.ty] at h
  | .fn a b, .fn c d, h => by
    simp only [Sy.ty, Ty.mk.injEq, List.cons.injEq, and_true, true_and] at h
    rw [Sy.ty_inj a c h.1, Sy.ty_inj b d h.2]

/-- Where the type fits, its validation counts its nodes and finds no fault. -/
theorem Sy.val_ok : ∀ (s : Sy) (d n : Nat), n + s.nodes ≤ 200 → d + s.depth ≤ 41 → s.ty.val d n = (0, n + s.nodes)
  | .e, d, n, h, h' => by
    simp only [Sy.nodes, Sy.depth] at *
    unfold Sy.ty Ty.val
    rw [if_neg (by omega), if_pos (show okNode bE ([] : List Ty).length from Or.inl ⟨rfl, rfl⟩)]
    unfold Ty.vals; rfl
  | .t, d, n, h, h' => by
    simp only [Sy.nodes, Sy.depth] at *
    unfold Sy.ty Ty.val
    rw [if_neg (by omega), if_pos (show okNode bT ([] : List Ty).length from Or.inr (Or.inl ⟨rfl, rfl⟩))]
    unfold Ty.vals; rfl
  | .fn a b, d, n, h, h' => by
    simp only [Sy.nodes, Sy.depth] at *
    unfold Sy.ty Ty.val
    rw [if_neg (by omega), if_pos (show okNode bNil [a.ty, b.ty].length from Or.inr (Or.inr ⟨rfl, rfl⟩))]
    unfold Ty.vals
    rw [Sy.val_ok a (d + 1) (n + 1) (by omega) (by omega)]
    simp only [if_true]
    unfold Ty.vals
    rw [Sy.val_ok b (d + 1) (n + 1 + a.nodes) (by omega) (by omega)]
    simp only [if_true]
    unfold Ty.vals
    simp; omega

mutual
/-- No fault: it is a valid type, and it fits. -/
theorem Ty.val_zero : ∀ (t : Ty) (d n : Nat), (t.val d n).1 = 0 → ∃ s : Sy, t = s.ty ∧ (t.val d n).2 = n + s.nodes ∧ n + s.nodes ≤ 200 ∧ d + s.depth ≤ 41
  | .mk s l, d, n, h => by
    unfold Ty.val at h ⊢
    split at h
    · simp at h
    split at h
    · rename_i h1 h2
      rw [if_neg h1, if_pos h2]
      obtain ⟨ss, e1, e2, e3, e4⟩ := Ty.vals_zero l (d + 1) (n + 1) h
      rcases h2 with ⟨rfl, hl⟩ | ⟨rfl, hl⟩ | ⟨rfl, hl⟩
      · have : l = [] := List.eq_nil_of_length_eq_zero hl
        subst this
        refine ⟨.e, rfl, ?_, by simp [Sy.nodes]; omega, by simp [Sy.depth]; omega⟩
        unfold Ty.vals; simp [Sy.nodes]
      · have : l = [] := List.eq_nil_of_length_eq_zero hl
        subst this
        refine ⟨.t, rfl, ?_, by simp [Sy.nodes]; omega, by simp [Sy.depth]; omega⟩
        unfold Ty.vals; simp [Sy.nodes]
      · have hs : ss.length = 2 := by rw [e1, List.length_map] at hl; exact hl
        match ss, hs with
        | [a, b], _ =>
          simp at e1 e2 e3 e4
          refine ⟨.fn a b, by rw [e1]; rfl, ?_, by simp [Sy.nodes]; omega, by simp [Sy.depth]; omega⟩
          rw [e2]; simp [Sy.nodes]; omega
    · simp at h
theorem Ty.vals_zero : ∀ (l : List Ty) (d n : Nat), (Ty.vals l d n).1 = 0 → ∃ ss : List Sy, l = ss.map Sy.ty ∧ (Ty.vals l d n).2 = n + (ss.map Sy.nodes).sum ∧ (ss = [] ∨ n + (ss.map Sy.nodes).sum ≤ 200) ∧ ∀ s ∈ ss, d + s.depth ≤ 41
  | [], d, n, _ => by unfold Ty.vals; exact ⟨[], rfl, by simp, Or.inl rfl, by simp⟩
  | t :: l, d, n, h => by
    unfold Ty.vals at h ⊢
    split at h
    · rename_i h1
      rw [if_pos h1]
      obtain ⟨s, e1, e2, e3, e4⟩ := Ty.val_zero t d n h1
      obtain ⟨ss, f1, f2, f3, f4⟩ := Ty.vals_zero l d _ h
      refine ⟨s :: ss, by rw [e1, f1]; rfl, by rw [f2, e2]; simp; omega, Or.inr ?_, ?_⟩
      · rcases f3 with rfl | f3
        · simpa using e3
        · rw [e2] at f3; simp; omega
      · intro x hx
        rcases List.mem_cons.1 hx with rfl | hx
        · exact e4
        · exact f4 x hx
    · rename_i h1; exact absurd h h1
end

end Go.Proofs.YtnoceodmnjhljaaDoor
