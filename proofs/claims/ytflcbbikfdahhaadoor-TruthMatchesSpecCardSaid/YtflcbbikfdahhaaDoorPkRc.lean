/- Lemmas. -/
import Derived.Test.YtflcbbikfdahhaaDoorPkRa
import Derived.WalkSmall
namespace Go.Proofs.YtflcbbikfdahhaaDoor
open Go Go.RowKit
set_option linter.unusedSimpArgs false
set_option linter.unusedVariables false
noncomputable section
theorem cv0 {w : World} {b : Nat} {x : Value} {l : List Value} {T : TypeId} {fr : Nat × Nat} (hb : w.heap[b]? = some (.cells (x :: l).toArray T fr)) : w.cell? ⟨b, 0, none⟩ = some x := cell_heap hb rfl
theorem cv1 {w : World} {b : Nat} {y0 x : Value} {l : List Value} {T : TypeId} {fr : Nat × Nat} (hb : w.heap[b]? = some (.cells (y0 :: x :: l).toArray T fr)) : w.cell? ⟨b, 1, none⟩ = some x := cell_heap hb rfl
theorem cv2 {w : World} {b : Nat} {y0 y1 x : Value} {l : List Value} {T : TypeId} {fr : Nat × Nat} (hb : w.heap[b]? = some (.cells (y0 :: y1 :: x :: l).toArray T fr)) : w.cell? ⟨b, 2, none⟩ = some x := cell_heap hb rfl
def strRep : Rep ByteArray where
  size := 1
  R _ _ s cs := cs = [.string s] ∧ s.size ≤ maxLen
  pos := by omega
  len := by rintro w S a cs ⟨rfl, _⟩; rfl
  one := by rintro w S a cs ⟨rfl, _⟩ u hu; simp at hu; subst hu; rfl
  keep := by rintro w w' S S' a cs h _ _; exact h
inductive Tree (L : Type) where
  | mk (l : L) (kids : List (Tree L))
def Tree.lab {L : Type} : Tree L → L | .mk a _ => a
def Tree.kids {L : Type} : Tree L → List (Tree L) | .mk _ l => l
mutual
def Tree.nodes {L : Type} : Tree L → Nat
  | .mk _ l => 1 + Tree.nodess l
def Tree.nodess {L : Type} : List (Tree L) → Nat
  | [] => 0
  | t :: l => t.nodes + Tree.nodess l
end
section
variable {L : Type}
theorem Tree.nodes_at : ∀ (l : List (Tree L)) (j : Nat) (h : j < l.length), l[j].nodes ≤ Tree.nodess l
  | t :: l, 0, _ => by simp [Tree.nodess]
  | t :: l, j + 1, h => by
    have := Tree.nodes_at l j (by simpa using h)
    simp [Tree.nodess]; omega
theorem Tree.nodes_pos (t : Tree L) : 0 < t.nodes := by cases t; simp [Tree.nodes]; omega
variable (ρ : Rep L)
mutual
def Tree.In (w : World) (S : Nat → Prop) : Tree L → List Value → Prop
  | .mk a l, cs => ∃ hs A n c, cs = hs ++ [.slice A n c] ∧ ρ.R w S a hs ∧ l.length = n ∧ n ≤ maxLen ∧ (0 < n → ∃ b o, A = some ⟨b, o, none⟩ ∧ S b ∧ Tree.Ins w S l b o)
def Tree.Ins (w : World) (S : Nat → Prop) : List (Tree L) → Nat → Nat → Prop
  | [], _, _ => True
  | t :: l, b, o => ∃ cs, (∀ j u, cs[j]? = some u → w.cell? ⟨b, o + j, none⟩ = some u) ∧ Tree.In w S t cs ∧ Tree.Ins w S l b (o + (ρ.size + 1))
end
variable {ρ}
theorem Tree.In_len {w : World} {S : Nat → Prop} {t : Tree L} {cs : List Value} (h : Tree.In ρ w S t cs) : cs.length = ρ.size + 1 := by
  cases t
  unfold Tree.In at h
  obtain ⟨hs, A, n, c, rfl, h1, _⟩ := h
  simp [ρ.len h1]
mutual
theorem Tree.In_keep {w w' : World} {S S' : Nat → Prop} (h : ∀ b, S b → w'.heap[b]? = w.heap[b]?) (hS : ∀ b, S b → S' b) : ∀ (t : Tree L) (cs : List Value), Tree.In ρ w S t cs → Tree.In ρ w' S' t cs
  | .mk a l, cs, hh => by
    unfold Tree.In at hh ⊢
    obtain ⟨hs, A, n, c, h0, h1, h2, h3, h4⟩ := hh
    refine ⟨hs, A, n, c, h0, ρ.keep h1 h hS, h2, h3, fun hn => ?_⟩
    obtain ⟨b, o, e, hb, hi⟩ := h4 hn
    exact ⟨b, o, e, hS b hb, Tree.Ins_keep h hS l b o hb hi⟩
theorem Tree.Ins_keep {w w' : World} {S S' : Nat → Prop} (h : ∀ b, S b → w'.heap[b]? = w.heap[b]?) (hS : ∀ b, S b → S' b) : ∀ (l : List (Tree L)) (b o : Nat), S b → Tree.Ins ρ w S l b o → Tree.Ins ρ w' S' l b o
  | [], _, _, _, _ => by unfold Tree.Ins; trivial
  | t :: l, b, o, hb, hh => by
    unfold Tree.Ins at hh ⊢
    obtain ⟨cs, h0, h1, h2⟩ := hh
    exact ⟨cs, fun j u hj => (cell_keep (h b hb) _).trans (h0 j u hj), Tree.In_keep h hS t cs h1, Tree.Ins_keep h hS l b _ hb h2⟩
end
variable (ρ)
def treeRep : Rep (Tree L) where
  size := ρ.size + 1
  R w S t cs := Tree.In ρ w S t cs
  pos := by omega
  len := by intro w S a cs h; exact Tree.In_len h
  one := by
    intro w S a cs h u hu
    cases a
    unfold Tree.In at h
    obtain ⟨hs, A, n, c, rfl, h1, _⟩ := h
    rcases List.mem_append.1 hu with hu | hu
    · exact ρ.one h1 u hu
    · simp at hu; subst hu; rfl
  keep := by intro w w' S S' a cs h hk hS; exact Tree.In_keep hk hS _ _ h
variable {ρ}
theorem Tree.Ins_iff {w : World} {S : Nat → Prop} : ∀ {l : List (Tree L)} {b o : Nat}, Tree.Ins ρ w S l b o ↔ ∃ xs, (treeRep ρ).All w S l xs ∧ ∀ j u, xs[j]? = some u → w.cell? ⟨b, o + j, none⟩ = some u
  | [], b, o => by
    constructor
    · intro _; exact ⟨[], rfl, by simp⟩
    · intro _; unfold Tree.Ins; trivial
  | t :: l, b, o => by
    constructor
    · intro h
      unfold Tree.Ins at h
      obtain ⟨cs, h0, h2, h3⟩ := h
      obtain ⟨xs, hx, hc⟩ := Tree.Ins_iff.1 h3
      refine ⟨cs ++ xs, ⟨cs, xs, rfl, h2, hx⟩, fun j u hj => ?_⟩
      have hl := Tree.In_len h2
      by_cases hlt : j < cs.length
      · rw [List.getElem?_append_left hlt] at hj
        exact h0 j u hj
      · rw [List.getElem?_append_right (by omega)] at hj
        have := hc _ u hj
        rw [← this]; congr 2; omega
    · rintro ⟨xs, hx, hc⟩
      obtain ⟨cs, rest, rfl, h2, h3⟩ := hx
      have hl : cs.length = ρ.size + 1 := Tree.In_len h2
      unfold Tree.Ins
      refine ⟨cs, fun j u hj => hc j u ?_, h2, Tree.Ins_iff.2 ⟨rest, h3, fun j u hj => ?_⟩⟩
      · have hlt : j < cs.length := (List.getElem?_eq_some_iff.1 hj).1
        rw [List.getElem?_append_left hlt]; exact hj
      · have := hc (j + (ρ.size + 1)) u (by rw [List.getElem?_append_right (by omega)]; simpa [hl] using hj)
        rw [← this]; congr 2; omega
theorem Tree.In_iff {w : World} {S : Nat → Prop} {a : L} {l : List (Tree L)} {cs : List Value} : Tree.In ρ w S (.mk a l) cs ↔ ∃ hs v, cs = hs ++ [v] ∧ ρ.R w S a hs ∧ (treeRep ρ).Sl w S v l := by
  constructor
  · intro h
    unfold Tree.In at h
    obtain ⟨hs, A, n, c, h0, h1, h2, h3, h4⟩ := h
    refine ⟨hs, _, h0, h1, A, n, c, rfl, h2, h3, fun hp => ?_⟩
    obtain ⟨b, o, e, hS, hi⟩ := h4 hp
    obtain ⟨xs, hx, hc⟩ := Tree.Ins_iff.1 hi
    exact ⟨b, o, xs, e, hS, hx, hc⟩
  · rintro ⟨hs, v, rfl, h1, A, n, c, rfl, h3, h4, h5⟩
    unfold Tree.In
    refine ⟨hs, A, n, c, rfl, h1, h3, h4, fun hp => ?_⟩
    obtain ⟨b, o, xs, e, hS, hx, hc⟩ := h5 hp
    exact ⟨b, o, e, hS, Tree.Ins_iff.2 ⟨xs, hx, hc⟩⟩
/-! The words of Rep for a thing that lies in cells. -/
variable {α : Type} {τ : Rep α}
end
/-! ### Equality of trees -/
end
noncomputable section
section
variable {α : Type} {ρ : Rep α}
theorem Rep.Own.pop {E : TypeId} {base n : Nat} {w : World} {S : Nat → Prop} {v : Value} {l : List α} {a : α} (h : ρ.Own E base w S v (l ++ [a])) (hn : l.length = n) :
    ∃ g cap cs, v = .slice (some ⟨g, 0, none⟩) (n + 1) cap ∧ n + 1 ≤ cap ∧ base ≤ g ∧ g < w.heap.size ∧ ρ.R w S a cs ∧ (∀ j u, cs[j]? = some u → w.cell? ⟨g, n * ρ.size + j, none⟩ = some u) ∧ (∀ j, w.frozen? ⟨g, j, none⟩ = false) ∧
      ρ.Own E base w S (.slice (some ⟨g, 0, none⟩) n cap) l := by
  subst hn
  obtain ⟨xs, h1, h2⟩ := h
  rw [List.length_append, List.length_singleton] at h1
  obtain ⟨g, cap, rfl, hg, hlt⟩ := h1.form (by omega)
  have hsplit : ∃ ys cs, xs = ys ++ cs ∧ ρ.All w (fun b => S b ∧ (Value.slice (some ⟨g, 0, none⟩) (l.length + 1) cap).ownBlock ≠ some b) l ys ∧ ρ.R w (fun b => S b ∧ (Value.slice (some ⟨g, 0, none⟩) (l.length + 1) cap).ownBlock ≠ some b) a cs := by
    clear h1 hlt
    revert xs
    induction l with
    | nil =>
      intro xs h2
      obtain ⟨cs, rest, rfl, h3, h4⟩ := h2
      simp only [Rep.All] at h4
      subst h4
      exact ⟨[], cs, by simp, rfl, h3⟩
    | cons b l ih =>
      intro xs h2
      obtain ⟨cs, rest, rfl, h3, h4⟩ := h2
      have h5 : ρ.All w (fun b => S b ∧ (Value.slice (some ⟨g, 0, none⟩) (l.length + 1) cap).ownBlock ≠ some b) (l ++ [a]) rest := h4
      obtain ⟨ys, cs', rfl, h6, h7⟩ := ih rest h5
      exact ⟨cs ++ ys, cs', by simp, ⟨cs, ys, rfl, h3, h6⟩, h7⟩
  obtain ⟨ys, cs, rfl, h3, h4⟩ := hsplit
  have hys : ys.length = l.length * ρ.size := h3.len
  have hcap : l.length + 1 ≤ cap := by
    rcases h1.2 with ⟨h', _⟩ | ⟨g', cap', cur, h', _, _, h5, _⟩
    · cases h'
    · cases h'; exact h5
  refine ⟨g, cap, cs, rfl, hcap, hg, hlt, ρ.keep h4 (fun _ _ => rfl) (fun _ h => h.1), ?_, fun j => h1.frozenAt j, ys, ownsRow_pop hys h1, h3.keep (fun _ _ => rfl) (fun _ h => h)⟩
  intro j u hj
  have hlen : cs.length = ρ.size := ρ.len h4
  have hjlt : j < cs.length := (List.getElem?_eq_some_iff.1 hj).1
  rw [h1.cellAt _ (by rw [Nat.succ_mul]; omega), List.getElem?_append_right (by omega), hys, show l.length * ρ.size + j - l.length * ρ.size = j by omega]
  exact hj
theorem Rep.Own.lit {E : TypeId} {base n k : Nat} {w w' : World} {S : Nat → Prop} {l : List α} {cs : Array Value} (hl : l.length = n) (hm : n ≤ maxLen) (hall : ρ.All w S l cs.toList) (hb : base ≤ w.heap.size) (hS : ∀ b, S b → b < w.heap.size) (hw : w' = w.alloc (.cells cs E)) (hk : k = w.heap.size) :
    ρ.Own E base w' S (.slice (some ⟨k, 0, none⟩) n n) l := by
  subst hl hw hk
  have hlen := hall.len
  refine ⟨cs.toList, World.ownsRow_lit w cs l.length hb hm (by simpa using hlen), hall.keep (fun b hb => Below.heap_alloc _ _ b (hS b hb)) (fun b hb => ⟨hb, ?_⟩)⟩
  simp only [Value.ownBlock, ne_eq, Option.some.injEq]
  have := hS b hb
  omega
end
end

end Go.Proofs.YtflcbbikfdahhaaDoor
