/-
  Plain words for the data of this claim: a simple type as a tree (Ty), where it lies in memory (Ty.In), and what keeps it there. Nothing here names the program.
-/
import Derived.WalkKit
import Derived.WalkLawsBesides
import Derived.WalkSpells
import Derived.Handy
import Derived.KernelRfl
import Derived.Deep.RegionHeld3
import Derived.Deep.DrawnRows
import Derived.Deep.LoopGhost
import Derived.Deep.Slices
import Derived.ChangeSame
import Derived.Lib.Hide
import Derived.Laws.EntriesVeiled
import Derived.Deep.AppendLies
import Derived.Deep.DeepMust
import Derived.StillTailTactics
namespace Go.Proofs.YtflcbbikfdahhaaDoor
open Go Go.RowKit
set_option linter.unusedSimpArgs false
set_option linter.unusedVariables false

/-! ### Worlds -/

theorem cell_keep {w w' : World} {b : Nat} (h : w'.heap[b]? = w.heap[b]?) (o : Nat) : w'.cell? ⟨b, o, none⟩ = w.cell? ⟨b, o, none⟩ :=
  World.cell?_of_block (w := w) (w' := w') h

theorem bcell {W w1 : World} (hb : Below W.heap.size W w1) :
    (∀ b o, b < W.heap.size → w1.cell? ⟨b, o, none⟩ = W.cell? ⟨b, o, none⟩) ∧ (∀ b o, b < W.heap.size → w1.frozen? ⟨b, o, none⟩ = W.frozen? ⟨b, o, none⟩) :=
  ⟨fun b o h => hb.cell (p := ⟨b, o, none⟩) h, fun b o h => hb.frozen (p := ⟨b, o, none⟩) h⟩

theorem heap_at {w : World} {o : Obj} {k : Nat} (h : k = w.heap.size) : (w.alloc o).heap[k]? = some o := by subst h; exact heap_alloc_new w o
theorem heap_old {w : World} {o : Obj} {k : Nat} {x : Option Obj} (h : k < w.heap.size) (hx : w.heap[k]? = x) : (w.alloc o).heap[k]? = x := (Below.heap_alloc w o k h).trans hx
theorem cell_heap {w : World} {b : Nat} {cs : Array Value} {T : TypeId} {fr : Nat × Nat} (hb : w.heap[b]? = some (.cells cs T fr)) {j : Nat} {x : Option Value} (hx : cs[j]? = x) : w.cell? ⟨b, j, none⟩ = x := by
  simp [World.cell?, hb, hx]
theorem free_heap {w : World} {b : Nat} {cs : Array Value} {T : TypeId} (hb : w.heap[b]? = some (.cells cs T (0, 0))) (j : Nat) : w.frozen? ⟨b, j, none⟩ = false := by
  simp [World.frozen?, hb]
theorem lt_heap {w : World} {b : Nat} {o : Obj} (hb : w.heap[b]? = some o) : b < w.heap.size := by
  rcases Nat.lt_or_ge b w.heap.size with h' | h'
  · exact h'
  · simp [Array.getElem?_eq_none h'] at hb

/-- What was in S, or is new since w. -/
def Ex (S : Nat → Prop) (w w' : World) : Nat → Prop := fun b => S b ∨ (w.heap.size ≤ b ∧ b < w'.heap.size)
/-- All that lies in w. -/
def Lo (w : World) : Nat → Prop := fun b => b < w.heap.size

theorem Ex.lo {S : Nat → Prop} {w w' : World} (hS : ∀ b, S b → b < w.heap.size) (hw : w.heap.size ≤ w'.heap.size) : ∀ b, Ex S w w' b → b < w'.heap.size := by
  rintro b (h | h)
  · have := hS b h; omega
  · exact h.2

/-! ### Simple types -/

inductive Ty where
  | mk (base : ByteArray) (args : List Ty)

mutual
def Ty.size : Ty → Nat
  | .mk _ l => 1 + Ty.sizes l
def Ty.sizes : List Ty → Nat
  | [] => 0
  | t :: l => t.size + Ty.sizes l
end
theorem Ty.size_at : ∀ (l : List Ty) (j : Nat) (h : j < l.length), l[j].size ≤ Ty.sizes l
  | t :: l, 0, _ => by simp [Ty.sizes]
  | t :: l, j + 1, h => by
    have := Ty.size_at l j (by simpa using h)
    simp [Ty.sizes]; omega
theorem Ty.size_pos (t : Ty) : 0 < t.size := by cases t; simp [Ty.size]; omega

mutual
/-- The two cells v0, v1 hold the type, all of it in blocks of S. -/
def Ty.In (w : World) (S : Nat → Prop) : Ty → Value → Value → Prop
  | .mk s l, v0, v1 => v0 = .string s ∧ s.size ≤ maxLen ∧ ∃ A n c, v1 = .slice A n c ∧ l.length = n ∧ n ≤ maxLen ∧ (0 < n → ∃ b o, A = some ⟨b, o, none⟩ ∧ S b ∧ Ty.Ins w S l b o)
def Ty.Ins (w : World) (S : Nat → Prop) : List Ty → Nat → Nat → Prop
  | [], _, _ => True
  | t :: l, b, o => ∃ v0 v1, w.cell? ⟨b, o, none⟩ = some v0 ∧ w.cell? ⟨b, o + 1, none⟩ = some v1 ∧ Ty.In w S t v0 v1 ∧ Ty.Ins w S l b (o + 2)
end

theorem Ty.Ins_at {w : World} {S : Nat → Prop} : ∀ {l : List Ty} {b o k : Nat} {t : Ty}, Ty.Ins w S l b o → l[k]? = some t →
    ∃ v0 v1, w.cell? ⟨b, o + k * 2, none⟩ = some v0 ∧ w.cell? ⟨b, o + k * 2 + 1, none⟩ = some v1 ∧ Ty.In w S t v0 v1
  | [], _, _, _, _, _, h => by simp at h
  | t :: l, b, o, 0, t', h, e => by
    simp at e; subst e
    unfold Ty.Ins at h
    obtain ⟨v0, v1, h0, h1, h2, _⟩ := h
    exact ⟨v0, v1, by simpa using h0, by simpa using h1, h2⟩
  | t :: l, b, o, k + 1, t', h, e => by
    unfold Ty.Ins at h
    obtain ⟨v0, v1, h0, h1, h2, h3⟩ := h
    obtain ⟨u0, u1, g0, g1, g2⟩ := Ty.Ins_at h3 (by simpa using e)
    exact ⟨u0, u1, by rw [← g0]; congr 2; omega, by rw [← g1]; congr 2; omega, g2⟩

theorem Ty.Ins_of {w : World} {S : Nat → Prop} : ∀ {l : List Ty} {b o : Nat}, (∀ k t, l[k]? = some t →
    ∃ v0 v1, w.cell? ⟨b, o + k * 2, none⟩ = some v0 ∧ w.cell? ⟨b, o + k * 2 + 1, none⟩ = some v1 ∧ Ty.In w S t v0 v1) → Ty.Ins w S l b o
  | [], _, _, _ => by unfold Ty.Ins; trivial
  | t :: l, b, o, h => by
    unfold Ty.Ins
    obtain ⟨v0, v1, h0, h1, h2⟩ := h 0 t rfl
    refine ⟨v0, v1, by simpa using h0, by simpa using h1, h2, Ty.Ins_of fun k u hu => ?_⟩
    obtain ⟨u0, u1, g0, g1, g2⟩ := h (k + 1) u (by simpa using hu)
    exact ⟨u0, u1, by rw [← g0]; congr 2; omega, by rw [← g1]; congr 2; omega, g2⟩

mutual
theorem Ty.In_keep {w w' : World} {S S' : Nat → Prop} (h : ∀ b, S b → w'.heap[b]? = w.heap[b]?) (hS : ∀ b, S b → S' b) : ∀ (t : Ty) (v0 v1 : Value), Ty.In w S t v0 v1 → Ty.In w' S' t v0 v1
  | .mk s l, v0, v1, hh => by
    unfold Ty.In at hh ⊢
    obtain ⟨h0, h1, A, n, c, h2, h3, h4, h5⟩ := hh
    refine ⟨h0, h1, A, n, c, h2, h3, h4, fun hn => ?_⟩
    obtain ⟨b, o, e, hb, hi⟩ := h5 hn
    exact ⟨b, o, e, hS b hb, Ty.Ins_keep h hS l b o hb hi⟩
theorem Ty.Ins_keep {w w' : World} {S S' : Nat → Prop} (h : ∀ b, S b → w'.heap[b]? = w.heap[b]?) (hS : ∀ b, S b → S' b) : ∀ (l : List Ty) (b o : Nat), S b → Ty.Ins w S l b o → Ty.Ins w' S' l b o
  | [], _, _, _, _ => by unfold Ty.Ins; trivial
  | t :: l, b, o, hb, hh => by
    unfold Ty.Ins at hh ⊢
    obtain ⟨v0, v1, h0, h1, h2, h3⟩ := hh
    exact ⟨v0, v1, (cell_keep (h b hb) _).trans h0, (cell_keep (h b hb) _).trans h1, Ty.In_keep h hS t v0 v1 h2, Ty.Ins_keep h hS l b (o + 2) hb h3⟩
end
theorem Ty.In.keep {w w' : World} {S : Nat → Prop} {t : Ty} {v0 v1 : Value} (h : Ty.In w S t v0 v1) (hk : ∀ b, S b → w'.heap[b]? = w.heap[b]?) : Ty.In w' S t v0 v1 := Ty.In_keep hk (fun _ h => h) t v0 v1 h
theorem Ty.In.mono {w : World} {S S' : Nat → Prop} {t : Ty} {v0 v1 : Value} (h : Ty.In w S t v0 v1) (hS : ∀ b, S b → S' b) : Ty.In w S' t v0 v1 := Ty.In_keep (fun _ _ => rfl) hS t v0 v1 h
theorem Ty.In.below {w w' : World} {S : Nat → Prop} {t : Ty} {v0 v1 : Value} {B : Nat} (h : Ty.In w S t v0 v1) (hb : Below B w w') (hS : ∀ b, S b → b < B) : Ty.In w' S t v0 v1 := h.keep fun b hh => hb.block b (hS b hh)
theorem Ty.In.drew {w : World} {S : Nat → Prop} {t : Ty} {v0 v1 : Value} (h : Ty.In w S t v0 v1) : Ty.In w.drew S t v0 v1 := h.keep fun _ _ => rfl

/-- No reader needs the second spelling: what In says, taken apart. -/
theorem Ty.In.open_ {w : World} {S : Nat → Prop} {s : ByteArray} {l : List Ty} {v0 v1 : Value} (h : Ty.In w S (.mk s l) v0 v1) :
    v0 = .string s ∧ s.size ≤ maxLen ∧ ∃ A n c, v1 = .slice A n c ∧ l.length = n ∧ n ≤ maxLen ∧ (0 < n → ∃ b o, A = some ⟨b, o, none⟩ ∧ S b ∧ Ty.Ins w S l b o) := by
  unfold Ty.In at h; exact h
theorem Ty.In.mk_ {w : World} {S : Nat → Prop} {s : ByteArray} {l : List Ty} {A : Option Addr} {n c : Nat} (hs : s.size ≤ maxLen) (hl : l.length = n) (hn : n ≤ maxLen)
    (hA : 0 < n → ∃ b o, A = some ⟨b, o, none⟩ ∧ S b ∧ Ty.Ins w S l b o) : Ty.In w S (.mk s l) (.string s) (.slice A n c) := by
  unfold Ty.In; exact ⟨rfl, hs, A, n, c, rfl, hl, hn, hA⟩

theorem Ty.In.shape {w : World} {S : Nat → Prop} {t : Ty} {v0 v1 : Value} (h : Ty.In w S t v0 v1) : ∃ s A n c, v0 = .string s ∧ v1 = .slice A n c := by
  cases t
  obtain ⟨h0, _, A, n, c, h1, _⟩ := h.open_
  exact ⟨_, A, n, c, h0, h1⟩

/-! ### Equality of types -/

mutual
def Ty.beq : Ty → Ty → Bool
  | .mk s l, .mk s' l' => decide (s = s') && Ty.beqs l l'
def Ty.beqs : List Ty → List Ty → Bool
  | [], [] => true
  | t :: l, t' :: l' => t.beq t' && Ty.beqs l l'
  | _, _ => false
end
theorem Ty.beqs_len : ∀ (l l' : List Ty), Ty.beqs l l' = true → l.length = l'.length
  | [], [], _ => rfl
  | [], _ :: _, h => by simp [Ty.beqs] at h
  | _ :: _, [], h => by simp [Ty.beqs] at h
  | t :: l, t' :: l', h => by
    simp only [Ty.beqs, Bool.and_eq_true] at h
    simp [Ty.beqs_len l l' h.2]
theorem Ty.beqs_at : ∀ (l l' : List Ty) (j : Nat) (h : j < l.length) (h' : j < l'.length), l[j].beq l'[j] = false → Ty.beqs l l' = false
  | t :: l, t' :: l', 0, _, _, e => by simp at e; simp [Ty.beqs, e]
  | t :: l, t' :: l', j + 1, h, h', e => by
    simp only [List.getElem_cons_succ] at e
    simp [Ty.beqs, Ty.beqs_at l l' j (by simpa using h) (by simpa using h') e]
theorem Ty.beqs_snoc : ∀ (l l' : List Ty) (j : Nat) (h : j < l.length) (h' : j < l'.length), Ty.beqs (l.take j) (l'.take j) = true → l[j].beq l'[j] = true → Ty.beqs (l.take (j + 1)) (l'.take (j + 1)) = true
  | t :: l, t' :: l', 0, _, _, _, e => by simp at e; simp [Ty.beqs, e]
  | t :: l, t' :: l', j + 1, h, h', hb, e => by
    simp only [List.getElem_cons_succ, List.take_succ_cons, Ty.beqs, Bool.and_eq_true] at *
    exact ⟨hb.1, Ty.beqs_snoc l l' j (by simpa using h) (by simpa using h') hb.2 e⟩
mutual
theorem Ty.eq_of_beq : ∀ (t u : Ty), t.beq u = true → t = u
  | .mk s l, .mk s' l', h => by
    simp only [Ty.beq, Bool.and_eq_true, decide_eq_true_eq] at h
    rw [h.1, Ty.eqs_of_beqs l l' h.2]
theorem Ty.eqs_of_beqs : ∀ (l l' : List Ty), Ty.beqs l l' = true → l = l'
  | [], [], _ => rfl
  | [], _ :: _, h => by simp [Ty.beqs] at h
  | _ :: _, [], h => by simp [Ty.beqs] at h
  | t :: l, t' :: l', h => by
    simp only [Ty.beqs, Bool.and_eq_true] at h
    rw [Ty.eq_of_beq t t' h.1, Ty.eqs_of_beqs l l' h.2]
end
mutual
theorem Ty.beq_self : ∀ t : Ty, t.beq t = true
  | .mk s l => by simp [Ty.beq, Ty.beqs_self l]
theorem Ty.beqs_self : ∀ l : List Ty, Ty.beqs l l = true
  | [] => by simp [Ty.beqs]
  | t :: l => by simp [Ty.beqs, Ty.beq_self t, Ty.beqs_self l]
end
theorem bytes_inj {s s' : ByteArray} (h : s.toList = s'.toList) : s = s' := by
  rw [ByteArray.toList_eq, ByteArray.toList_eq] at h
  cases s; cases s'
  congr 1
  exact Array.toList_inj.1 h
theorem bytes_ne {s s' : ByteArray} (h : s ≠ s') : (s.toList == s'.toList) = false := by
  cases e : (s.toList == s'.toList)
  · rfl
  · exact absurd (bytes_inj (by simpa using e)) h

end Go.Proofs.YtflcbbikfdahhaaDoor
