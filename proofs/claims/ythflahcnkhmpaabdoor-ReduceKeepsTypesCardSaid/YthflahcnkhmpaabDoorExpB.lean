/-
  How far the room of Tv.expand can fall, and how many arguments a term has. Nothing here names the program.
-/
import Derived.Test.YthflahcnkhmpaabDoorExp
namespace Go.Proofs.YthflahcnkhmpaabDoor
set_option linter.unusedSimpArgs false
set_option linter.unusedVariables false

theorem Tv.rargs_len : ∀ t : Tv, t.rargs.length + 1 ≤ t.nodes
  | .con _ _ => by simp [Tv.rargs, Tv.nodes]
  | .var _ => by simp [Tv.rargs, Tv.nodes]
  | .abs _ b => by simp [Tv.rargs, Tv.nodes]
  | .app f x => by
    have := Tv.rargs_len f
    have := x.nodes_pos
    simp only [Tv.rargs, Tv.nodes, List.length_cons]; omega
theorem Tv.rargs_nodes : ∀ (t x : Tv), x ∈ t.rargs → x.nodes < t.nodes
  | .con _ _, _, h => by simp [Tv.rargs] at h
  | .var _, _, h => by simp [Tv.rargs] at h
  | .abs _ _, _, h => by simp [Tv.rargs] at h
  | .app f y, x, h => by
    simp only [Tv.rargs, List.mem_cons] at h
    simp only [Tv.nodes]
    rcases h with rfl | h
    · omega
    · have := Tv.rargs_nodes f x h; omega
theorem Tv.eta_nodes (t : Tv) : (Tv.app (t.lift 1 0) (.var 0)).nodes = t.nodes + 2 := by
  have h : ∀ (t : Tv) (n k : Nat), (t.lift n k).nodes = t.nodes := by
    intro t
    induction t with
    | con _ _ => intro _ _; rfl
    | var i => intro n k; unfold Tv.lift; split <;> rfl
    | abs s b ih => intro n k; simp [Tv.lift, Tv.nodes, ih]
    | app f x ih1 ih2 => intro n k; simp [Tv.lift, Tv.nodes, ih1, ih2]
  simp [Tv.nodes, h]
theorem Tv.xargs_low {f : Tv → Sy → Int → Tv × Int} (K : Nat) : ∀ (l : List Tv) (h : Sy) (r : Int) (acc : Tv), (∀ x ∈ l, ∀ a r, (r < 0 → (f x a r).2 = r) ∧ (0 ≤ r → -(K : Int) ≤ (f x a r).2)) →
    min r (-(K : Int)) - l.length ≤ (Tv.xargs f l h r acc).2
  | [], h, r, acc, _ => by unfold Tv.xargs; simp only [List.length_nil]; omega
  | x :: l, h, r, acc, hf => by
    cases h with
    | e => unfold Tv.xargs; simp only [List.length_cons]; omega
    | t => unfold Tv.xargs; simp only [List.length_cons]; omega
    | fn a b =>
      rw [Tv.xargs]
      have h1 := Tv.xargs_low K l b (f x a (r - 1)).2 (.app acc (f x a (r - 1)).1) (fun y hy => hf y (by simp [hy]))
      have h2 := hf x (by simp) a (r - 1)
      simp only [List.length_cons]
      by_cases hr : r - 1 < 0
      · rw [h2.1 hr] at h1 ⊢; omega
      · have := h2.2 (by omega); omega
theorem Tv.expand_low : ∀ (n : Nat) (t : Tv) (s : Sy) (c : List Sy) (r : Int) (M : Nat), t.nodes + 2 * n ≤ M → (r < 0 → (Tv.expand n t s c r).2 = r) ∧ (0 ≤ r → -((n * M : Nat) : Int) ≤ (Tv.expand n t s c r).2) := by
  intro n
  induction n with
  | zero => intro t s c r M _; exact ⟨fun _ => rfl, fun h => by simp [Tv.expand]; omega⟩
  | succ n ih =>
    intro t s c r M hM
    refine ⟨fun h => by rw [Tv.expand_neg _ _ _ _ _ h], fun hr => ?_⟩
    have hr' : ¬ r < 0 := by omega
    rw [Nat.succ_mul]
    have hnp := t.nodes_pos
    cases hs : s.isFn with
    | true =>
      cases s with
      | e => simp [Sy.isFn] at hs
      | t => simp [Sy.isFn] at hs
      | fn a b =>
        cases ht : t.isAbs with
        | true =>
          cases t with
          | abs s0 x =>
            simp only [Tv.nodes] at hM
            rw [Tv.expand_abs _ _ _ _ _ _ _ hr']
            have h1 := ih x b (a :: c) (r - 1) M (by omega)
            simp only
            by_cases h : r - 1 < 0
            · rw [h1.1 h]; omega
            · have := h1.2 (by omega); omega
          | _ => simp [Tv.isAbs] at ht
        | false =>
          rw [Tv.expand_eta _ _ _ _ _ _ hr' ht]
          have h1 := ih (.app (t.lift 1 0) (.var 0)) b (a :: c) (r - 1) M (by rw [Tv.eta_nodes]; omega)
          simp only
          by_cases h : r - 1 < 0
          · rw [h1.1 h]; omega
          · have := h1.2 (by omega); omega
    | false =>
      rw [Tv.expand_base _ _ _ _ _ hr' hs]
      have h1 := Tv.xargs_low (f := fun x a r => Tv.expand n x a c r) (n * M) t.rargs.reverse ((Tv.typ c t.head).getD .e) (r - 1) t.head (fun x hx a r => ih x a c r M (by have := Tv.rargs_nodes t x (by simpa using hx); omega))
      have h2 := t.rargs_len
      rw [List.length_reverse] at h1
      omega

end Go.Proofs.YthflahcnkhmpaabDoor
