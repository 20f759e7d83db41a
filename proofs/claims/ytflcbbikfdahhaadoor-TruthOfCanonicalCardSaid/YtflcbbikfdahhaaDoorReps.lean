/-
  Rows of cells that hold a list of things: Rep says how one thing lies in its cells; All, a list of them; Own, a slice that the call itself makes and appends to; Sl, a slice that is read.
-/
import Derived.Test.YtflcbbikfdahhaaDoorMore
namespace Go.Proofs.YtflcbbikfdahhaaDoor
open Go Go.RowKit
set_option linter.unusedSimpArgs false
set_option linter.unusedVariables false

theorem heap_set {w : World} {b : Nat} {cs : Array Value} {T : TypeId} {fr : Nat × Nat} (h : w.heap[b]? = some (.cells cs T fr)) (i : Nat) (v : Value) : (w.setCell ⟨b, i, none⟩ v).heap[b]? = some (.cells (cs.setIfInBounds i v) T fr) := by
  simp [World.setCell, Array.getElem?_modify, h]
theorem heap_far {w : World} {b k i : Nat} {x : Option Obj} (v : Value) (hne : k ≠ b) (h : w.heap[k]? = x) : (w.setCell ⟨b, i, none⟩ v).heap[k]? = x := (Below.heap_setCell w ⟨b, i, none⟩ v k hne).trans h
theorem size_set (w : World) (a : Addr) (v : Value) : (w.setCell a v).heap.size = w.heap.size := by simp [World.setCell]

/-- How a thing of type α lies in its cells: in the world w, all that it leads to in blocks of S. -/
structure Rep (α : Type) where
  size : Nat
  R : World → (Nat → Prop) → α → List Value → Prop
  pos : 0 < size
  len : ∀ {w S a cs}, R w S a cs → cs.length = size
  one : ∀ {w S a cs}, R w S a cs → ∀ u ∈ cs, u.oneCell' = true
  keep : ∀ {w w' : World} {S S' : Nat → Prop} {a cs}, R w S a cs → (∀ b, S b → w'.heap[b]? = w.heap[b]?) → (∀ b, S b → S' b) → R w' S' a cs

section
variable {α : Type} (ρ : Rep α)

def Rep.All (w : World) (S : Nat → Prop) : List α → List Value → Prop
  | [], xs => xs = []
  | a :: l, xs => ∃ cs rest, xs = cs ++ rest ∧ ρ.R w S a cs ∧ Rep.All w S l rest

variable {ρ}
theorem Rep.All.len {w : World} {S : Nat → Prop} : ∀ {l : List α} {xs : List Value}, ρ.All w S l xs → xs.length = l.length * ρ.size
  | [], xs, h => by simp [Rep.All] at h; simp [h]
  | a :: l, xs, h => by
    obtain ⟨cs, rest, rfl, h1, h2⟩ := h
    rw [List.length_append, ρ.len h1, Rep.All.len h2, List.length_cons, Nat.succ_mul, Nat.add_comm]
theorem Rep.All.one {w : World} {S : Nat → Prop} : ∀ {l : List α} {xs : List Value}, ρ.All w S l xs → ∀ u ∈ xs, u.oneCell' = true
  | [], xs, h => by simp [Rep.All] at h; simp [h]
  | a :: l, xs, h => by
    obtain ⟨cs, rest, rfl, h1, h2⟩ := h
    intro u hu
    rcases List.mem_append.1 hu with hu | hu
    · exact ρ.one h1 u hu
    · exact Rep.All.one h2 u hu
theorem Rep.All.keep {w w' : World} {S S' : Nat → Prop} (hk : ∀ b, S b → w'.heap[b]? = w.heap[b]?) (hS : ∀ b, S b → S' b) : ∀ {l : List α} {xs : List Value}, ρ.All w S l xs → ρ.All w' S' l xs
  | [], _, h => h
  | _ :: _, _, h => by
    obtain ⟨cs, rest, rfl, h1, h2⟩ := h
    exact ⟨cs, rest, rfl, ρ.keep h1 hk hS, Rep.All.keep hk hS h2⟩
theorem Rep.All.append {w : World} {S : Nat → Prop} : ∀ {l l' : List α} {xs xs' : List Value}, ρ.All w S l xs → ρ.All w S l' xs' → ρ.All w S (l ++ l') (xs ++ xs')
  | [], _, _, _, h, h' => by simp [Rep.All] at h; subst h; simpa using h'
  | _ :: _, _, _, _, h, h' => by
    obtain ⟨cs, rest, rfl, h1, h2⟩ := h
    exact ⟨cs, rest ++ _, by simp, h1, Rep.All.append h2 h'⟩
theorem Rep.All.single {w : World} {S : Nat → Prop} {a : α} {cs : List Value} (h : ρ.R w S a cs) : ρ.All w S [a] cs := ⟨cs, [], by simp, h, rfl⟩
theorem Rep.All.at_ {w : World} {S : Nat → Prop} : ∀ {l : List α} {xs : List Value} {k : Nat} {a : α}, ρ.All w S l xs → l[k]? = some a →
    ∃ cs, ρ.R w S a cs ∧ ∀ j u, cs[j]? = some u → xs[k * ρ.size + j]? = some u
  | [], _, _, _, _, e => by simp at e
  | a :: l, xs, 0, a', h, e => by
    simp at e; subst e
    obtain ⟨cs, rest, rfl, h1, _⟩ := h
    refine ⟨cs, h1, fun j u hj => ?_⟩
    have hlt : j < cs.length := (List.getElem?_eq_some_iff.1 hj).1
    rw [Nat.zero_mul, Nat.zero_add, List.getElem?_append_left hlt]
    exact hj
  | a :: l, xs, k + 1, a', h, e => by
    obtain ⟨cs, rest, rfl, h1, h2⟩ := h
    obtain ⟨cs', h3, h4⟩ := Rep.All.at_ h2 (by simpa using e)
    refine ⟨cs', h3, fun j u hj => ?_⟩
    rw [List.getElem?_append_right (by rw [ρ.len h1, Nat.succ_mul]; omega), ρ.len h1, show (k + 1) * ρ.size + j - ρ.size = k * ρ.size + j by rw [Nat.succ_mul]; omega]
    exact h4 j u hj
/-- The first m of them. -/
theorem Rep.All.take {w : World} {S : Nat → Prop} : ∀ {l : List α} {xs : List Value} (m : Nat), ρ.All w S l xs → ρ.All w S (l.take m) (xs.take (m * ρ.size))
  | [], _, m, h => by simp [Rep.All] at h; simp [h, Rep.All]
  | _ :: _, _, 0, _ => by simp [Rep.All]
  | a :: l, _, m + 1, h => by
    obtain ⟨cs, rest, rfl, h1, h2⟩ := h
    refine ⟨cs, rest.take (m * ρ.size), ?_, h1, Rep.All.take m h2⟩
    rw [List.take_append, ρ.len h1, List.take_of_length_le (by rw [ρ.len h1, Nat.succ_mul]; omega), show (m + 1) * ρ.size - ρ.size = m * ρ.size by rw [Nat.succ_mul]; omega]

variable (ρ)
/-- A slice v of the call's own (its row from block 'base' on) holds l; what the elements lead to lies in S, not in the row. -/
def Rep.Own (E : TypeId) (base : Nat) (w : World) (S : Nat → Prop) (v : Value) (l : List α) : Prop :=
  ∃ xs, w.ownsRow base E ρ.size v l.length xs ∧ ρ.All w (fun b => S b ∧ v.ownBlock ≠ some b) l xs
variable {ρ}
theorem Rep.Own.nil {E : TypeId} {base : Nat} {w : World} {S : Nat → Prop} : ρ.Own E base w S (.slice none 0 0) [] := ⟨[], World.ownsRow_nil _ _ _ _, rfl⟩
theorem Rep.Own.keep {E : TypeId} {base : Nat} {w w' : World} {S S' : Nat → Prop} {v : Value} {l : List α} (h : ρ.Own E base w S v l) (hk : ∀ b, b < w.heap.size → w'.heap[b]? = w.heap[b]?)
    (hlo : ∀ b, S b → b < w.heap.size) (hS : ∀ b, S b → S' b) : ρ.Own E base w' S' v l := by
  obtain ⟨xs, ⟨h1, h2⟩, h3⟩ := h
  refine ⟨xs, ⟨h1, ?_⟩, h3.keep (fun b hb => hk b (hlo b hb.1)) (fun b hb => ⟨hS b hb.1, hb.2⟩)⟩
  rcases h2 with h2 | ⟨g, cap, cur, e, hg, hh, r⟩
  · exact Or.inl h2
  · exact Or.inr ⟨g, cap, cur, e, hg, (hk g (lt_heap hh)).trans hh, r⟩
theorem Rep.Own.below {E : TypeId} {base : Nat} {w w' : World} {S : Nat → Prop} {v : Value} {l : List α} (h : ρ.Own E base w S v l) (hb : Below w.heap.size w w') (hlo : ∀ b, S b → b < w.heap.size) : ρ.Own E base w' S v l :=
  h.keep (fun b hlt => hb.block b hlt) hlo (fun _ h => h)
theorem Rep.Own.len {E : TypeId} {base : Nat} {w : World} {S : Nat → Prop} {v : Value} {l : List α} (h : ρ.Own E base w S v l) : ∃ A c, v = .slice A l.length c := by
  obtain ⟨xs, ⟨_, h2⟩, _⟩ := h
  rcases h2 with ⟨e, e0⟩ | ⟨g, cap, cur, e, _⟩
  · exact ⟨none, 0, by rw [e, e0]⟩
  · exact ⟨_, cap, e⟩
theorem Rep.Own.block {E : TypeId} {base : Nat} {w : World} {S : Nat → Prop} {v : Value} {l : List α} (h : ρ.Own E base w S v l) : ∀ k, v.ownBlock = some k → base ≤ k ∧ k < w.heap.size := by
  obtain ⟨xs, h1, _⟩ := h
  exact h1.lt
/-- Behind an append (what step_append_lies and its kin leave). -/
theorem Rep.appended {E : TypeId} {base : Nat} {w w1 : World} {S : Nat → Prop} {v : Value} {l l' : List α} {xs news : List Value} {g cap H m : Nat}
    (hx : ρ.All w (fun b => S b ∧ v.ownBlock ≠ some b) l xs) (hn : ρ.All w (fun b => S b ∧ v.ownBlock ≠ some b) l' news) (hlo : ∀ b, S b → b < w.heap.size) (hm : m = l'.length)
    (hown : w1.ownsRow base E ρ.size (.slice (some ⟨g, 0, none⟩) (l.length + m) cap) (l.length + m) (xs ++ news)) (hg : w.grownBy w1 v.ownBlock) (hat : v.ownBlock = some g ∨ g = H) (hH : w.heap.size = H) :
    ρ.Own E base w1 S (.slice (some ⟨g, 0, none⟩) (l.length + m) cap) (l ++ l') := by
  have hk : ∀ b, (S b ∧ v.ownBlock ≠ some b) → w1.heap[b]? = w.heap[b]? := fun b hb => hg.block b (hlo b hb.1) (fun e => hb.2 e.symm)
  have hS : ∀ b, (S b ∧ v.ownBlock ≠ some b) → (S b ∧ (Value.slice (some ⟨g, 0, none⟩) (l.length + m) cap).ownBlock ≠ some b) := by
    rintro b ⟨h1, h2⟩
    refine ⟨h1, ?_⟩
    simp only [Value.ownBlock, ne_eq, Option.some.injEq]
    rintro rfl
    rcases hat with hat | hat
    · exact h2 hat
    · have := hlo _ h1; omega
  subst hm
  exact ⟨xs ++ news, by simpa using hown, (hx.keep hk hS).append (hn.keep hk hS)⟩

/-- The elements lie in what is new from 'base' on: that goes on as memory grows. -/
theorem Rep.Own.grow {E : TypeId} {base : Nat} {w w' : World} {v : Value} {l : List α} (h : ρ.Own E base w (fun b => base ≤ b ∧ b < w.heap.size) v l) (hk : ∀ b, base ≤ b → b < w.heap.size → w'.heap[b]? = w.heap[b]?) (hs : w.heap.size ≤ w'.heap.size) :
    ρ.Own E base w' (fun b => base ≤ b ∧ b < w'.heap.size) v l := by
  obtain ⟨xs, ⟨h1, h2⟩, h3⟩ := h
  refine ⟨xs, ⟨h1, ?_⟩, h3.keep (fun b hb => hk b hb.1.1 hb.1.2) (fun b hb => ⟨⟨hb.1.1, by omega⟩, hb.2⟩)⟩
  rcases h2 with h2 | ⟨g, cap, cur, e, hg, hh, r⟩
  · exact Or.inl h2
  · exact Or.inr ⟨g, cap, cur, e, hg, (hk g hg (lt_heap hh)).trans hh, r⟩
/-- .. when one thing more, in newer memory yet, is appended. -/
theorem Rep.appended1 {E : TypeId} {base : Nat} {w w1 : World} {S T : Nat → Prop} {v : Value} {l : List α} {a : α} {xs news : List Value} {g cap H : Nat}
    (hx : ρ.All w (fun b => S b ∧ v.ownBlock ≠ some b) l xs) (hn : ρ.R w T a news) (hT : ∀ b, T b → S b ∧ v.ownBlock ≠ some b) (hlo : ∀ b, S b → b < w.heap.size)
    (hown : w1.ownsRow base E ρ.size (.slice (some ⟨g, 0, none⟩) (l.length + 1) cap) (l.length + 1) (xs ++ news)) (hg : w.grownBy w1 v.ownBlock) (hat : v.ownBlock = some g ∨ g = H) (hH : w.heap.size = H) :
    ρ.Own E base w1 S (.slice (some ⟨g, 0, none⟩) (l.length + 1) cap) (l ++ [a]) :=
  Rep.appended hx (Rep.All.single (ρ.keep hn (fun _ _ => rfl) hT)) hlo rfl hown hg hat hH

/-- A round of a loop 'c.Args = append(c.Args, f(x))': behind the call (world w1), the block of the new element (o), the append (w3). -/
theorem Rep.step {E : TypeId} {base : Nat} {w1 w3 : World} {T : Nat → Prop} {v : Value} {l : List α} {a : α} {xs news : List Value} {g cap n : Nat} {o : Obj} (hl : l.length = n)
    (hall : ρ.All w1 (fun b => (base ≤ b ∧ b < w1.heap.size) ∧ v.ownBlock ≠ some b) l xs) (hn : ρ.R w1 T a news) (hT : ∀ b, T b → (base ≤ b ∧ b < w1.heap.size) ∧ v.ownBlock ≠ some b)
    (hown : w3.ownsRow base E ρ.size (.slice (some ⟨g, 0, none⟩) (n + 1) cap) (n + 1) (xs ++ news)) (hg : (w1.alloc o).grownBy w3 v.ownBlock) (hat : v.ownBlock = some g ∨ g = w1.heap.size + 1) :
    ρ.Own E base w3 (fun b => base ≤ b ∧ b < w3.heap.size) (.slice (some ⟨g, 0, none⟩) (n + 1) cap) (l ++ [a]) := by
  subst hl
  have hk : ∀ b, ((base ≤ b ∧ b < w1.heap.size) ∧ v.ownBlock ≠ some b) → (w1.alloc o).heap[b]? = w1.heap[b]? := fun b hb => Below.heap_alloc w1 o b hb.1.2
  have hsz : w1.heap.size + 1 ≤ w3.heap.size := by have := hg.size; simpa using this
  have h := Rep.appended1 (w := w1.alloc o) (H := w1.heap.size + 1) (S := fun b => base ≤ b ∧ b < w1.heap.size) (T := T) (hall.keep hk (fun _ h => h)) (ρ.keep hn (fun b hb => hk b (hT b hb)) (fun _ h => h)) hT (fun b hb => by simp; omega) hown hg hat (by simp)
  exact h.keep (fun _ _ => rfl) (fun b hb => by omega) (fun b hb => ⟨hb.1, by omega⟩)

variable (ρ)
/-- The value v is a slice that holds l. -/
def Rep.Sl (w : World) (S : Nat → Prop) (v : Value) (l : List α) : Prop :=
  ∃ A n c, v = .slice A n c ∧ l.length = n ∧ n ≤ maxLen ∧ (0 < n → ∃ b o xs, A = some ⟨b, o, none⟩ ∧ S b ∧ ρ.All w S l xs ∧ ∀ j u, xs[j]? = some u → w.cell? ⟨b, o + j, none⟩ = some u)
variable {ρ}
theorem Rep.Sl.keep {w w' : World} {S S' : Nat → Prop} {v : Value} {l : List α} (h : ρ.Sl w S v l) (hk : ∀ b, S b → w'.heap[b]? = w.heap[b]?) (hS : ∀ b, S b → S' b) : ρ.Sl w' S' v l := by
  obtain ⟨A, n, c, e, hl, hn, hA⟩ := h
  refine ⟨A, n, c, e, hl, hn, fun hp => ?_⟩
  obtain ⟨b, o, xs, eA, hb, hx, hc⟩ := hA hp
  exact ⟨b, o, xs, eA, hS b hb, hx.keep hk hS, fun j u hj => (cell_keep (hk b hb) _).trans (hc j u hj)⟩
theorem Rep.Sl.below {w w' : World} {S : Nat → Prop} {v : Value} {l : List α} {B : Nat} (h : ρ.Sl w S v l) (hb : Below B w w') (hS : ∀ b, S b → b < B) : ρ.Sl w' S v l := h.keep (fun b hh => hb.block b (hS b hh)) (fun _ h => h)
theorem Rep.Sl.nil {w : World} {S : Nat → Prop} {A : Option Addr} {c : Nat} : ρ.Sl w S (.slice A 0 c) [] := ⟨A, 0, c, rfl, rfl, by omega, by omega⟩
/-- Element k's cells. -/
theorem Rep.Sl.at_ {w : World} {S : Nat → Prop} {A : Option Addr} {n c k : Nat} {l : List α} {a : α} (h : ρ.Sl w S (.slice A n c) l) (hk : l[k]? = some a) :
    ∃ b o cs, A = some ⟨b, o, none⟩ ∧ S b ∧ ρ.R w S a cs ∧ ∀ j u, cs[j]? = some u → w.cell? ⟨b, o + k * ρ.size + j, none⟩ = some u := by
  obtain ⟨A', n', c', e, hl, hn, hA⟩ := h
  injection e with e1 e2 e3
  subst e1 e2 e3
  have hlt : k < l.length := (List.getElem?_eq_some_iff.1 hk).1
  obtain ⟨b, o, xs, eA, hb, hx, hc⟩ := hA (by omega)
  obtain ⟨cs, h1, h2⟩ := hx.at_ hk
  exact ⟨b, o, cs, eA, hb, h1, fun j u hj => by rw [Nat.add_assoc]; exact hc _ u (h2 j u hj)⟩
theorem Rep.Own.sl {E : TypeId} {base : Nat} {w : World} {S S' : Nat → Prop} {v : Value} {l : List α} (h : ρ.Own E base w S v l) (hm : l.length ≤ maxLen) (hS : ∀ b, S b → S' b) (hg : ∀ b, base ≤ b → b < w.heap.size → S' b) : ρ.Sl w S' v l := by
  obtain ⟨A, c, rfl⟩ := h.len
  refine ⟨A, l.length, c, rfl, rfl, hm, fun hp => ?_⟩
  obtain ⟨xs, h1, h2⟩ := h
  obtain ⟨g, cap, e, hb, hlt⟩ := h1.form hp
  injection e with e1 _ _
  subst e1
  refine ⟨g, 0, xs, rfl, hg g hb hlt, h2.keep (fun _ _ => rfl) (fun b hb => hS b hb.1), fun j u hj => ?_⟩
  have := h1.cells (g := g) rfl j u hj
  rw [Nat.zero_add]
  rw [← this]
  congr 1
  unfold Addr.add; split <;> simp_all
end

/-! ### Simple types -/

def tyRep : Rep Ty where
  size := 2
  R w S t cs := ∃ v0 v1, cs = [v0, v1] ∧ Ty.In w S t v0 v1
  pos := by omega
  len := by rintro w S a cs ⟨v0, v1, rfl, _⟩; rfl
  one := by
    rintro w S a cs ⟨v0, v1, rfl, h⟩ u hu
    obtain ⟨s, A, n, c, rfl, rfl⟩ := h.shape
    simp at hu
    rcases hu with rfl | rfl <;> rfl
  keep := by
    rintro w w' S S' a cs ⟨v0, v1, rfl, h⟩ hk hS
    exact ⟨v0, v1, rfl, Ty.In_keep hk hS _ _ _ h⟩

theorem Ty.Ins_iff {w : World} {S : Nat → Prop} : ∀ {l : List Ty} {b o : Nat}, Ty.Ins w S l b o ↔ ∃ xs, tyRep.All w S l xs ∧ ∀ j u, xs[j]? = some u → w.cell? ⟨b, o + j, none⟩ = some u
  | [], b, o => by
    constructor
    · intro _; exact ⟨[], rfl, by simp⟩
    · intro _; unfold Ty.Ins; trivial
  | t :: l, b, o => by
    constructor
    · intro h
      unfold Ty.Ins at h
      obtain ⟨v0, v1, h0, h1, h2, h3⟩ := h
      obtain ⟨xs, hx, hc⟩ := Ty.Ins_iff.1 h3
      refine ⟨v0 :: v1 :: xs, ⟨[v0, v1], xs, rfl, ⟨v0, v1, rfl, h2⟩, hx⟩, fun j u hj => ?_⟩
      match j, hj with
      | 0, hj => simp at hj; subst hj; exact h0
      | 1, hj => simp at hj; subst hj; exact h1
      | j + 2, hj =>
        have := hc j u (by simpa using hj)
        rw [← this]; congr 2; omega
    · rintro ⟨xs, hx, hc⟩
      obtain ⟨cs, rest, rfl, ⟨v0, v1, rfl, h2⟩, h3⟩ := hx
      unfold Ty.Ins
      refine ⟨v0, v1, hc 0 v0 rfl, hc 1 v1 rfl, h2, Ty.Ins_iff.2 ⟨rest, h3, fun j u hj => ?_⟩⟩
      have := hc (j + 2) u (by simpa using hj)
      rw [← this]; congr 2; omega

theorem Ty.In_sl {w : World} {S : Nat → Prop} {s : ByteArray} {l : List Ty} {v0 v1 : Value} : Ty.In w S (.mk s l) v0 v1 ↔ v0 = .string s ∧ s.size ≤ maxLen ∧ tyRep.Sl w S v1 l := by
  constructor
  · intro h
    obtain ⟨h0, h1, A, n, c, h2, h3, h4, h5⟩ := h.open_
    refine ⟨h0, h1, A, n, c, h2, h3, h4, fun hp => ?_⟩
    obtain ⟨b, o, e, hS, hi⟩ := h5 hp
    obtain ⟨xs, hx, hc⟩ := Ty.Ins_iff.1 hi
    exact ⟨b, o, xs, e, hS, hx, hc⟩
  · rintro ⟨rfl, h1, A, n, c, rfl, h3, h4, h5⟩
    refine Ty.In.mk_ h1 h3 h4 fun hp => ?_
    obtain ⟨b, o, xs, e, hS, hx, hc⟩ := h5 hp
    exact ⟨b, o, e, hS, Ty.Ins_iff.2 ⟨xs, hx, hc⟩⟩

end Go.Proofs.YtflcbbikfdahhaaDoor
