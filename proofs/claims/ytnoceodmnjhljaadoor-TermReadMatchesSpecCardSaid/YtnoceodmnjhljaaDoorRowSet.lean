/-
  One thing of a row is stored anew.
-/
import Derived.Test.YtnoceodmnjhljaaDoorSets
namespace Go.Proofs.YtnoceodmnjhljaaDoor
open Go Go.RowKit
set_option linter.unusedSimpArgs false
set_option linter.unusedVariables false

section
variable {w : World} {g p : Nat} {d0 d1 d2 d3 d4 d5 : Value}
theorem cell_set_same {a : Addr} {u v : Value} (h : w.cell? a = some u) : (w.setCell a v).cell? a = some v := World.cell?_setCell_same' w a v (by rw [h]; rfl)
theorem cell_set_off {o q : Nat} {v : Value} {x : Option Value} (hne : o ≠ q) (h : w.cell? ⟨g, q, none⟩ = x) : (w.setCell ⟨g, o, none⟩ v).cell? ⟨g, q, none⟩ = x :=
  (World.cell?_setCell_other w _ _ v (fun e => hne (by injection e))).trans h
/-- Six cells from p on. -/
theorem row_set6 {xs : List Value} (hx : ∀ q u, xs[q]? = some u → w.cell? ⟨g, q, none⟩ = some u) (hlen : p + 6 ≤ xs.length) :
    ∀ q u, (xs.take p ++ ([d0, d1, d2, d3, d4, d5] ++ xs.drop (p + 6)))[q]? = some u →
      ((((((w.setCell ⟨g, p, none⟩ d0).setCell ⟨g, p + 1, none⟩ d1).setCell ⟨g, p + 2, none⟩ d2).setCell ⟨g, p + 3, none⟩ d3).setCell ⟨g, p + 4, none⟩ d4).setCell ⟨g, p + 5, none⟩ d5).cell? ⟨g, q, none⟩ = some u := by
  intro q u hq
  have hold : ∀ k, k < 6 → ∃ u, w.cell? ⟨g, p + k, none⟩ = some u := fun k hk => ⟨_, hx (p + k) _ (List.getElem?_eq_getElem (by omega))⟩
  have htake : (xs.take p).length = p := by simp; omega
  by_cases h1 : q < p
  · rw [List.getElem?_append_left (by omega), List.getElem?_take, if_pos h1] at hq
    exact cell_set_off (by omega) (cell_set_off (by omega) (cell_set_off (by omega) (cell_set_off (by omega) (cell_set_off (by omega) (cell_set_off (by omega) (hx q u hq))))))
  rw [List.getElem?_append_right (by omega), htake] at hq
  by_cases h2 : q < p + 6
  · obtain ⟨k, rfl⟩ : ∃ k, q = p + k := ⟨q - p, by omega⟩
    rw [show p + k - p = k by omega, List.getElem?_append_left (by simp; omega)] at hq
    obtain ⟨o0, e0⟩ := hold 0 (by omega)
    obtain ⟨o1, e1⟩ := hold 1 (by omega)
    obtain ⟨o2, e2⟩ := hold 2 (by omega)
    obtain ⟨o3, e3⟩ := hold 3 (by omega)
    obtain ⟨o4, e4⟩ := hold 4 (by omega)
    obtain ⟨o5, e5⟩ := hold 5 (by omega)
    match k, h2, hq with
    | 0, _, hq =>
      simp at hq; subst hq
      exact cell_set_off (by omega) (cell_set_off (by omega) (cell_set_off (by omega) (cell_set_off (by omega) (cell_set_off (by omega) (cell_set_same e0)))))
    | 1, _, hq =>
      simp at hq; subst hq
      exact cell_set_off (by omega) (cell_set_off (by omega) (cell_set_off (by omega) (cell_set_off (by omega) (cell_set_same (cell_set_off (by omega) e1)))))
    | 2, _, hq =>
      simp at hq; subst hq
      exact cell_set_off (by omega) (cell_set_off (by omega) (cell_set_off (by omega) (cell_set_same (cell_set_off (by omega) (cell_set_off (by omega) e2)))))
    | 3, _, hq =>
      simp at hq; subst hq
      exact cell_set_off (by omega) (cell_set_off (by omega) (cell_set_same (cell_set_off (by omega) (cell_set_off (by omega) (cell_set_off (by omega) e3)))))
    | 4, _, hq =>
      simp at hq; subst hq
      exact cell_set_off (by omega) (cell_set_same (cell_set_off (by omega) (cell_set_off (by omega) (cell_set_off (by omega) (cell_set_off (by omega) e4)))))
    | 5, _, hq =>
      simp at hq; subst hq
      exact cell_set_same (cell_set_off (by omega) (cell_set_off (by omega) (cell_set_off (by omega) (cell_set_off (by omega) (cell_set_off (by omega) e5)))))
    | k + 6, h2, _ => exact absurd h2 (by omega)
  · rw [List.getElem?_append_right (by simp; omega), List.getElem?_drop] at hq
    simp only [List.length_cons, List.length_nil] at hq
    rw [show p + 6 + (q - p - (0 + 1 + 1 + 1 + 1 + 1 + 1)) = q by omega] at hq
    exact cell_set_off (by omega) (cell_set_off (by omega) (cell_set_off (by omega) (cell_set_off (by omega) (cell_set_off (by omega) (cell_set_off (by omega) (hx q u hq))))))
end

theorem ownsRow_far {w w' : World} {base size n : Nat} {E : TypeId} {v : Value} {xs : List Value} (h : w.ownsRow base E size v n xs) (hk : ∀ g, v.ownBlock = some g → w'.heap[g]? = w.heap[g]?) : w'.ownsRow base E size v n xs := by
  obtain ⟨h1, h2⟩ := h
  refine ⟨h1, ?_⟩
  rcases h2 with h2 | ⟨g, cap, cur, e, hg, hh, r⟩
  · exact Or.inl h2
  · exact Or.inr ⟨g, cap, cur, e, hg, (hk g (by rw [e]; rfl)).trans hh, r⟩
theorem ownsRow_cap {w : World} {base size n g cap : Nat} {E : TypeId} {xs : List Value} (h : w.ownsRow base E size (.slice (some ⟨g, 0, none⟩) n cap) n xs) : n ≤ cap := by
  rcases h.2 with ⟨h', _⟩ | ⟨g', cap', cur, h', _, _, h5, _⟩
  · cases h'
  · cases h'; exact h5
theorem ownsRow_empty {w : World} {base size k : Nat} {E : TypeId} (hb : base ≤ w.heap.size) (hk : k = w.heap.size) : (w.alloc (.cells #[] E)).ownsRow base E size (.slice (some ⟨k, 0, none⟩) 0 0) 0 [] := by
  subst hk; exact World.ownsRow_lit w #[] 0 hb (by simp [maxLen]) (by simp)
theorem addr_none (b o n : Nat) : Addr.add ⟨b, o, none⟩ n = ⟨b, o + n, none⟩ := by
  unfold Addr.add; split <;> simp [*]

section
variable {α : Type} {ρ : Rep α}
theorem Rep.All.set {w : World} {S : Nat → Prop} : ∀ {l : List α} {xs : List Value} {k : Nat} {a : α} {cs : List Value}, ρ.All w S l xs → k < l.length → ρ.R w S a cs → ρ.All w S (l.set k a) (xs.take (k * ρ.size) ++ (cs ++ xs.drop (k * ρ.size + ρ.size)))
  | [], _, _, _, _, _, h, _ => by simp at h
  | b :: l, xs, 0, a, cs, h, _, hr => by
    obtain ⟨cs', rest, rfl, h1, h2⟩ := h
    have hl := ρ.len h1
    refine ⟨cs, rest, ?_, hr, h2⟩
    rw [Nat.zero_mul, Nat.zero_add, List.take_zero, List.nil_append, List.drop_append, List.drop_of_length_le (by omega), List.nil_append, show ρ.size - cs'.length = 0 by omega, List.drop_zero]
  | b :: l, xs, k + 1, a, cs, h, hk, hr => by
    obtain ⟨cs', rest, rfl, h1, h2⟩ := h
    have hl := ρ.len h1
    have h3 := Rep.All.set h2 (by simpa using hk) hr
    refine ⟨cs', _, ?_, h1, h3⟩
    rw [Nat.succ_mul, List.take_append, List.drop_append, List.take_of_length_le (by omega), List.drop_of_length_le (by omega), List.nil_append, List.append_assoc, show k * ρ.size + ρ.size - cs'.length = k * ρ.size by omega, show k * ρ.size + ρ.size + ρ.size - cs'.length = k * ρ.size + ρ.size by omega]
end

end Go.Proofs.YtnoceodmnjhljaaDoor
