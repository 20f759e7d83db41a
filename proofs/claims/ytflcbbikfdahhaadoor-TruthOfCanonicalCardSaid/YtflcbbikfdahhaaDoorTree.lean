/-
  Trees in memory, whatever their nodes bear: Tree L; how they lie (treeRep ρ, ρ: how a node's own cells lie; the last cell is the slice of the parts).
-/
import Derived.Test.YtflcbbikfdahhaaDoorReps
namespace Go.Proofs.YtflcbbikfdahhaaDoor
open Go Go.RowKit
set_option linter.unusedSimpArgs false
set_option linter.unusedVariables false

/-! Cells of a known block. -/
theorem cv0 {w : World} {b : Nat} {x : Value} {l : List Value} {T : TypeId} {fr : Nat × Nat} (hb : w.heap[b]? = some (.cells (x :: l).toArray T fr)) : w.cell? ⟨b, 0, none⟩ = some x := cell_heap hb rfl
theorem cv1 {w : World} {b : Nat} {y0 x : Value} {l : List Value} {T : TypeId} {fr : Nat × Nat} (hb : w.heap[b]? = some (.cells (y0 :: x :: l).toArray T fr)) : w.cell? ⟨b, 1, none⟩ = some x := cell_heap hb rfl
theorem cv2 {w : World} {b : Nat} {y0 y1 x : Value} {l : List Value} {T : TypeId} {fr : Nat × Nat} (hb : w.heap[b]? = some (.cells (y0 :: y1 :: x :: l).toArray T fr)) : w.cell? ⟨b, 2, none⟩ = some x := cell_heap hb rfl
theorem cv3 {w : World} {b : Nat} {y0 y1 y2 x : Value} {l : List Value} {T : TypeId} {fr : Nat × Nat} (hb : w.heap[b]? = some (.cells (y0 :: y1 :: y2 :: x :: l).toArray T fr)) : w.cell? ⟨b, 3, none⟩ = some x := cell_heap hb rfl
theorem cv4 {w : World} {b : Nat} {y0 y1 y2 y3 x : Value} {l : List Value} {T : TypeId} {fr : Nat × Nat} (hb : w.heap[b]? = some (.cells (y0 :: y1 :: y2 :: y3 :: x :: l).toArray T fr)) : w.cell? ⟨b, 4, none⟩ = some x := cell_heap hb rfl
theorem cv5 {w : World} {b : Nat} {y0 y1 y2 y3 y4 x : Value} {l : List Value} {T : TypeId} {fr : Nat × Nat} (hb : w.heap[b]? = some (.cells (y0 :: y1 :: y2 :: y3 :: y4 :: x :: l).toArray T fr)) : w.cell? ⟨b, 5, none⟩ = some x := cell_heap hb rfl
theorem cv6 {w : World} {b : Nat} {y0 y1 y2 y3 y4 y5 x : Value} {l : List Value} {T : TypeId} {fr : Nat × Nat} (hb : w.heap[b]? = some (.cells (y0 :: y1 :: y2 :: y3 :: y4 :: y5 :: x :: l).toArray T fr)) : w.cell? ⟨b, 6, none⟩ = some x := cell_heap hb rfl
theorem cv7 {w : World} {b : Nat} {y0 y1 y2 y3 y4 y5 y6 x : Value} {l : List Value} {T : TypeId} {fr : Nat × Nat} (hb : w.heap[b]? = some (.cells (y0 :: y1 :: y2 :: y3 :: y4 :: y5 :: y6 :: x :: l).toArray T fr)) : w.cell? ⟨b, 7, none⟩ = some x := cell_heap hb rfl
theorem cv8 {w : World} {b : Nat} {y0 y1 y2 y3 y4 y5 y6 y7 x : Value} {l : List Value} {T : TypeId} {fr : Nat × Nat} (hb : w.heap[b]? = some (.cells (y0 :: y1 :: y2 :: y3 :: y4 :: y5 :: y6 :: y7 :: x :: l).toArray T fr)) : w.cell? ⟨b, 8, none⟩ = some x := cell_heap hb rfl

def strRep : Rep ByteArray where
  size := 1
  R _ _ s cs := cs = [.string s] ∧ s.size ≤ maxLen
  pos := by omega
  len := by rintro w S a cs ⟨rfl, _⟩; rfl
  one := by rintro w S a cs ⟨rfl, _⟩ u hu; simp at hu; subst hu; rfl
  keep := by rintro w w' S S' a cs h _ _; exact h
def intRep : Rep Int where
  size := 1
  R _ _ s cs := cs = [.int .i64 s]
  pos := by omega
  len := by rintro w S a cs rfl; rfl
  one := by rintro w S a cs rfl u hu; simp at hu; subst hu; rfl
  keep := by rintro w w' S S' a cs h _ _; exact h

inductive Tree (L : Type) where
  | mk (l : L) (kids : List (Tree L))
def Tree.lab {L : Type} : Tree L → L | .mk a _ => a
def Tree.kids {L : Type} : Tree L → List (Tree L) | .mk _ l => l

mutual
def Tree.nodes {L : Type} : Tree L → Nat
  | .mk _ l => 1 + Tree.nodess l
def Tree.nodess {L : Type} : List (Tree L) → Nat
  | [] => 0
  | t :: l => t.nodes + Tree.nodess l
end
mutual
def Tree.depth {L : Type} : Tree L → Nat
  | .mk _ l => Tree.depths l + 1
def Tree.depths {L : Type} : List (Tree L) → Nat
  | [] => 0
  | t :: l => max t.depth (Tree.depths l)
end
section
variable {L : Type}
theorem Tree.nodes_at : ∀ (l : List (Tree L)) (j : Nat) (h : j < l.length), l[j].nodes ≤ Tree.nodess l
  | t :: l, 0, _ => by simp [Tree.nodess]
  | t :: l, j + 1, h => by
    have := Tree.nodes_at l j (by simpa using h)
    simp [Tree.nodess]; omega
theorem Tree.nodess_len : ∀ (l : List (Tree L)), l.length ≤ Tree.nodess l
  | [] => by simp [Tree.nodess]
  | t :: l => by
    have := Tree.nodess_len l
    cases t
    simp [Tree.nodess, Tree.nodes]; omega
theorem Tree.nodes_pos (t : Tree L) : 0 < t.nodes := by cases t; simp [Tree.nodes]; omega
theorem Tree.nodess_append : ∀ (l l' : List (Tree L)), Tree.nodess (l ++ l') = Tree.nodess l + Tree.nodess l'
  | [], l' => by simp [Tree.nodess]
  | t :: l, l' => by simp [Tree.nodess, Tree.nodess_append l l']; omega
theorem Tree.depths_append : ∀ (l l' : List (Tree L)), Tree.depths (l ++ l') = max (Tree.depths l) (Tree.depths l')
  | [], l' => by simp [Tree.depths]
  | t :: l, l' => by simp [Tree.depths, Tree.depths_append l l', Nat.max_assoc]
theorem Tree.nodess_take (l : List (Tree L)) (j : Nat) (h : j < l.length) : Tree.nodess (l.take (j + 1)) = Tree.nodess (l.take j) + l[j].nodes := by
  rw [List.take_succ_eq_append_getElem h, Tree.nodess_append]; simp [Tree.nodess]
theorem Tree.depths_take (l : List (Tree L)) (j : Nat) (h : j < l.length) : Tree.depths (l.take (j + 1)) = max (Tree.depths (l.take j)) l[j].depth := by
  rw [List.take_succ_eq_append_getElem h, Tree.depths_append]; simp [Tree.depths]
theorem Tree.nodess_take_le (l : List (Tree L)) (j : Nat) : Tree.nodess (l.take j) ≤ Tree.nodess l := by
  conv => rhs; rw [← List.take_append_drop j l, Tree.nodess_append]
  omega
theorem Tree.depth_le_nodes : ∀ (t : Tree L), t.depth ≤ t.nodes := by
  have key : ∀ (N : Nat), (∀ (t : Tree L), t.nodes ≤ N → t.depth ≤ t.nodes) ∧ (∀ l : List (Tree L), Tree.nodess l ≤ N → Tree.depths l ≤ Tree.nodess l) := by
    intro N
    induction N with
    | zero =>
      refine ⟨fun t h => absurd (Tree.nodes_pos t) (by omega), fun l h => ?_⟩
      cases l with
      | nil => simp [Tree.depths, Tree.nodess]
      | cons t l => have := Tree.nodes_pos t; simp [Tree.nodess] at h; omega
    | succ N ih =>
      have h1 : ∀ (t : Tree L), t.nodes ≤ N + 1 → t.depth ≤ t.nodes := by
        rintro ⟨a, l⟩ h
        simp [Tree.nodes, Tree.depth] at h ⊢
        have := ih.2 l (by omega)
        omega
      refine ⟨h1, fun l h => ?_⟩
      induction l with
      | nil => simp [Tree.depths, Tree.nodess]
      | cons t l ihl =>
        simp [Tree.nodess, Tree.depths] at h ⊢
        have h2 := h1 t (by omega)
        have h3 := ihl (by omega)
        omega
  intro t
  exact (key t.nodes).1 t (Nat.le_refl _)

variable (ρ : Rep L)
mutual
/-- The cells cs hold the tree, all that it leads to in blocks of S. -/
def Tree.In (w : World) (S : Nat → Prop) : Tree L → List Value → Prop
  | .mk a l, cs => ∃ hs A n c, cs = hs ++ [.slice A n c] ∧ ρ.R w S a hs ∧ l.length = n ∧ n ≤ maxLen ∧ (0 < n → ∃ b o, A = some ⟨b, o, none⟩ ∧ S b ∧ Tree.Ins w S l b o)
def Tree.Ins (w : World) (S : Nat → Prop) : List (Tree L) → Nat → Nat → Prop
  | [], _, _ => True
  | t :: l, b, o => ∃ cs, (∀ j u, cs[j]? = some u → w.cell? ⟨b, o + j, none⟩ = some u) ∧ Tree.In w S t cs ∧ Tree.Ins w S l b (o + (ρ.size + 1))
end
variable {ρ}
theorem Tree.In_len {w : World} {S : Nat → Prop} {t : Tree L} {cs : List Value} (h : Tree.In ρ w S t cs) : cs.length = ρ.size + 1 := by
  cases t
  unfold Tree.In at h
  obtain ⟨hs, A, n, c, rfl, h1, _⟩ := h
  simp [ρ.len h1]
mutual
theorem Tree.In_keep {w w' : World} {S S' : Nat → Prop} (h : ∀ b, S b → w'.heap[b]? = w.heap[b]?) (hS : ∀ b, S b → S' b) : ∀ (t : Tree L) (cs : List Value), Tree.In ρ w S t cs → Tree.In ρ w' S' t cs
  | .mk a l, cs, hh => by
    unfold Tree.In at hh ⊢
    obtain ⟨hs, A, n, c, h0, h1, h2, h3, h4⟩ := hh
    refine ⟨hs, A, n, c, h0, ρ.keep h1 h hS, h2, h3, fun hn => ?_⟩
    obtain ⟨b, o, e, hb, hi⟩ := h4 hn
    exact ⟨b, o, e, hS b hb, Tree.Ins_keep h hS l b o hb hi⟩
theorem Tree.Ins_keep {w w' : World} {S S' : Nat → Prop} (h : ∀ b, S b → w'.heap[b]? = w.heap[b]?) (hS : ∀ b, S b → S' b) : ∀ (l : List (Tree L)) (b o : Nat), S b → Tree.Ins ρ w S l b o → Tree.Ins ρ w' S' l b o
  | [], _, _, _, _ => by unfold Tree.Ins; trivial
  | t :: l, b, o, hb, hh => by
    unfold Tree.Ins at hh ⊢
    obtain ⟨cs, h0, h1, h2⟩ := hh
    exact ⟨cs, fun j u hj => (cell_keep (h b hb) _).trans (h0 j u hj), Tree.In_keep h hS t cs h1, Tree.Ins_keep h hS l b _ hb h2⟩
end

variable (ρ)
def treeRep : Rep (Tree L) where
  size := ρ.size + 1
  R w S t cs := Tree.In ρ w S t cs
  pos := by omega
  len := by intro w S a cs h; exact Tree.In_len h
  one := by
    intro w S a cs h u hu
    cases a
    unfold Tree.In at h
    obtain ⟨hs, A, n, c, rfl, h1, _⟩ := h
    rcases List.mem_append.1 hu with hu | hu
    · exact ρ.one h1 u hu
    · simp at hu; subst hu; rfl
  keep := by intro w w' S S' a cs h hk hS; exact Tree.In_keep hk hS _ _ h
variable {ρ}

theorem Tree.Ins_iff {w : World} {S : Nat → Prop} : ∀ {l : List (Tree L)} {b o : Nat}, Tree.Ins ρ w S l b o ↔ ∃ xs, (treeRep ρ).All w S l xs ∧ ∀ j u, xs[j]? = some u → w.cell? ⟨b, o + j, none⟩ = some u
  | [], b, o => by
    constructor
    · intro _; exact ⟨[], rfl, by simp⟩
    · intro _; unfold Tree.Ins; trivial
  | t :: l, b, o => by
    constructor
    · intro h
      unfold Tree.Ins at h
      obtain ⟨cs, h0, h2, h3⟩ := h
      obtain ⟨xs, hx, hc⟩ := Tree.Ins_iff.1 h3
      refine ⟨cs ++ xs, ⟨cs, xs, rfl, h2, hx⟩, fun j u hj => ?_⟩
      have hl := Tree.In_len h2
      by_cases hlt : j < cs.length
      · rw [List.getElem?_append_left hlt] at hj
        exact h0 j u hj
      · rw [List.getElem?_append_right (by omega)] at hj
        have := hc _ u hj
        rw [← this]; congr 2; omega
    · rintro ⟨xs, hx, hc⟩
      obtain ⟨cs, rest, rfl, h2, h3⟩ := hx
      have hl : cs.length = ρ.size + 1 := Tree.In_len h2
      unfold Tree.Ins
      refine ⟨cs, fun j u hj => hc j u ?_, h2, Tree.Ins_iff.2 ⟨rest, h3, fun j u hj => ?_⟩⟩
      · have hlt : j < cs.length := (List.getElem?_eq_some_iff.1 hj).1
        rw [List.getElem?_append_left hlt]; exact hj
      · have := hc (j + (ρ.size + 1)) u (by rw [List.getElem?_append_right (by omega)]; simpa [hl] using hj)
        rw [← this]; congr 2; omega
theorem Tree.In_iff {w : World} {S : Nat → Prop} {a : L} {l : List (Tree L)} {cs : List Value} : Tree.In ρ w S (.mk a l) cs ↔ ∃ hs v, cs = hs ++ [v] ∧ ρ.R w S a hs ∧ (treeRep ρ).Sl w S v l := by
  constructor
  · intro h
    unfold Tree.In at h
    obtain ⟨hs, A, n, c, h0, h1, h2, h3, h4⟩ := h
    refine ⟨hs, _, h0, h1, A, n, c, rfl, h2, h3, fun hp => ?_⟩
    obtain ⟨b, o, e, hS, hi⟩ := h4 hp
    obtain ⟨xs, hx, hc⟩ := Tree.Ins_iff.1 hi
    exact ⟨b, o, xs, e, hS, hx, hc⟩
  · rintro ⟨hs, v, rfl, h1, A, n, c, rfl, h3, h4, h5⟩
    unfold Tree.In
    refine ⟨hs, A, n, c, rfl, h1, h3, h4, fun hp => ?_⟩
    obtain ⟨b, o, xs, e, hS, hx, hc⟩ := h5 hp
    exact ⟨b, o, e, hS, Tree.Ins_iff.2 ⟨xs, hx, hc⟩⟩

/-! The words of Rep for a thing that lies in cells. -/
variable {α : Type} {τ : Rep α}
theorem Rep.below {w w' : World} {S : Nat → Prop} {a : α} {cs : List Value} {B : Nat} (h : τ.R w S a cs) (hb : Below B w w') (hS : ∀ b, S b → b < B) : τ.R w' S a cs := τ.keep h (fun b hh => hb.block b (hS b hh)) (fun _ h => h)
theorem Rep.mono {w : World} {S S' : Nat → Prop} {a : α} {cs : List Value} (h : τ.R w S a cs) (hS : ∀ b, S b → S' b) : τ.R w S' a cs := τ.keep h (fun _ _ => rfl) hS
end

/-! ### Equality of trees -/
section
variable {L : Type} (eq : L → L → Bool)
mutual
def Tree.beq : Tree L → Tree L → Bool
  | .mk s l, .mk s' l' => eq s s' && Tree.beqs l l'
def Tree.beqs : List (Tree L) → List (Tree L) → Bool
  | [], [] => true
  | t :: l, t' :: l' => t.beq t' && Tree.beqs l l'
  | _, _ => false
end
variable {eq}
theorem Tree.beqs_len : ∀ (l l' : List (Tree L)), Tree.beqs eq l l' = true → l.length = l'.length
  | [], [], _ => rfl
  | [], _ :: _, h => by simp [Tree.beqs] at h
  | _ :: _, [], h => by simp [Tree.beqs] at h
  | t :: l, t' :: l', h => by
    simp only [Tree.beqs, Bool.and_eq_true] at h
    simp [Tree.beqs_len l l' h.2]
theorem Tree.beqs_at : ∀ (l l' : List (Tree L)) (j : Nat) (h : j < l.length) (h' : j < l'.length), Tree.beq eq l[j] l'[j] = false → Tree.beqs eq l l' = false
  | t :: l, t' :: l', 0, _, _, e => by simp at e; simp [Tree.beqs, e]
  | t :: l, t' :: l', j + 1, h, h', e => by
    simp only [List.getElem_cons_succ] at e
    simp [Tree.beqs, Tree.beqs_at l l' j (by simpa using h) (by simpa using h') e]
theorem Tree.beqs_snoc : ∀ (l l' : List (Tree L)) (j : Nat) (h : j < l.length) (h' : j < l'.length), Tree.beqs eq (l.take j) (l'.take j) = true → Tree.beq eq l[j] l'[j] = true → Tree.beqs eq (l.take (j + 1)) (l'.take (j + 1)) = true
  | t :: l, t' :: l', 0, _, _, _, e => by simp at e; simp [Tree.beqs, e]
  | t :: l, t' :: l', j + 1, h, h', hb, e => by
    simp only [List.getElem_cons_succ, List.take_succ_cons, Tree.beqs, Bool.and_eq_true] at *
    exact ⟨hb.1, Tree.beqs_snoc l l' j (by simpa using h) (by simpa using h') hb.2 e⟩
mutual
theorem Tree.eq_of_beq (he : ∀ a b, eq a b = true → a = b) : ∀ (t u : Tree L), Tree.beq eq t u = true → t = u
  | .mk s l, .mk s' l', h => by
    simp only [Tree.beq, Bool.and_eq_true] at h
    rw [he _ _ h.1, Tree.eqs_of_beqs he l l' h.2]
theorem Tree.eqs_of_beqs (he : ∀ a b, eq a b = true → a = b) : ∀ (l l' : List (Tree L)), Tree.beqs eq l l' = true → l = l'
  | [], [], _ => rfl
  | [], _ :: _, h => by simp [Tree.beqs] at h
  | _ :: _, [], h => by simp [Tree.beqs] at h
  | t :: l, t' :: l', h => by
    simp only [Tree.beqs, Bool.and_eq_true] at h
    rw [Tree.eq_of_beq he t t' h.1, Tree.eqs_of_beqs he l l' h.2]
end
mutual
theorem Tree.beq_self (he : ∀ a, eq a a = true) : ∀ t : Tree L, Tree.beq eq t t = true
  | .mk s l => by simp [Tree.beq, he, Tree.beqs_self he l]
theorem Tree.beqs_self (he : ∀ a, eq a a = true) : ∀ l : List (Tree L), Tree.beqs eq l l = true
  | [] => by simp [Tree.beqs]
  | t :: l => by simp [Tree.beqs, Tree.beq_self he t, Tree.beqs_self he l]
end
end

end Go.Proofs.YtflcbbikfdahhaaDoor
