/-
  Binding a constant (plain): the types it bears in a term, the variable in its place; applied to the constant the term comes back. Nothing here names the program.
-/
import Derived.Test.YthflahcnkhmpaabDoorLam
namespace Go.Proofs.YthflahcnkhmpaabDoor
set_option linter.unusedSimpArgs false
set_option linter.unusedVariables false

/-- The types of the constants of a name, in preorder. -/
def Tv.named (nm : ByteArray) : Tv → List Sy
  | .con n s => if n = nm then [s] else []
  | .var _ => []
  | .abs _ b => b.named nm
  | .app f x => f.named nm ++ x.named nm
def Tv.bind (nm : ByteArray) : Tv → Nat → Tv
  | .con n s, d => if n = nm then .var d else .con n s
  | .var i, _ => .var i
  | .abs s b, d => .abs s (b.bind nm (d + 1))
  | .app f x, d => .app (f.bind nm d) (x.bind nm d)

theorem Tv.bind_nodes (nm : ByteArray) : ∀ (v : Tv) (d : Nat), (v.bind nm d).nodes = v.nodes
  | .con n s, d => by unfold Tv.bind; split <;> rfl
  | .var i, d => rfl
  | .abs s b, d => by simp [Tv.bind, Tv.nodes, Tv.bind_nodes nm b]
  | .app f x, d => by simp [Tv.bind, Tv.nodes, Tv.bind_nodes nm f, Tv.bind_nodes nm x]
theorem Tv.bind_depth (nm : ByteArray) : ∀ (v : Tv) (d : Nat), (v.bind nm d).depth = v.depth
  | .con n s, d => by unfold Tv.bind; split <;> rfl
  | .var i, d => rfl
  | .abs s b, d => by simp [Tv.bind, Tv.depth, Tv.bind_depth nm b]
  | .app f x, d => by simp [Tv.bind, Tv.depth, Tv.bind_depth nm f, Tv.bind_depth nm x]
theorem Tv.bind_ok (nm : ByteArray) : ∀ (v : Tv) (d : Nat), v.ok d → (v.bind nm d).ok (d + 1)
  | .con n s, d, h => by
    unfold Tv.bind
    split
    · exact Nat.lt_succ_self d
    · exact h
  | .var i, d, h => Nat.lt_succ_of_lt h
  | .abs s b, d, h => ⟨h.1, Tv.bind_ok nm b (d + 1) h.2⟩
  | .app f x, d, h => ⟨Tv.bind_ok nm f d h.1, Tv.bind_ok nm x d h.2⟩
theorem Tv.bind_typ (nm : ByteArray) (a : Sy) : ∀ (v : Tv) (c : List Sy), v.ok c.length → (∀ s ∈ v.named nm, s = a) → Tv.typ (c ++ [a]) (v.bind nm c.length) = Tv.typ c v
  | .con n s, c, h, ha => by
    unfold Tv.bind
    by_cases e : n = nm
    · have := ha s (by simp [Tv.named, e])
      subst this
      rw [if_pos e]
      simp [Tv.typ]
    · rw [if_neg e]; rfl
  | .var i, c, h, _ => by
    have hi : i < c.length := h
    simp only [Tv.bind, Tv.typ]
    rw [List.getElem?_append_left hi]
  | .abs s b, c, h, ha => by
    have := Tv.bind_typ nm a b (s :: c) h.2 ha
    simp only [List.cons_append, List.length_cons] at this
    simp only [Tv.bind, Tv.typ, this]
  | .app f x, c, h, ha => by
    simp only [Tv.named, List.mem_append] at ha
    simp only [Tv.bind, Tv.typ, Tv.bind_typ nm a f c h.1 (fun s hs => ha s (Or.inl hs)), Tv.bind_typ nm a x c h.2 (fun s hs => ha s (Or.inr hs))]
theorem Tv.bind_put (nm : ByteArray) (a : Sy) : ∀ (v : Tv) (d : Nat), v.ok d → (∀ s ∈ v.named nm, s = a) → (v.bind nm d).put (.con nm a) d = v
  | .con n s, d, _, ha => by
    unfold Tv.bind
    by_cases e : n = nm
    · have := ha s (by simp [Tv.named, e])
      subst this e
      rw [if_pos rfl]
      simp [Tv.put, Tv.lift]
    · rw [if_neg e]; rfl
  | .var i, d, h, _ => by
    have hi : i < d := h
    simp only [Tv.bind, Tv.put]
    rw [if_neg (by omega), if_neg (by omega)]
  | .abs s b, d, h, ha => by simp only [Tv.bind, Tv.put, Tv.bind_put nm a b (d + 1) h.2 ha]
  | .app f x, d, h, ha => by
    simp only [Tv.named, List.mem_append] at ha
    simp only [Tv.bind, Tv.put, Tv.bind_put nm a f d h.1 (fun s hs => ha s (Or.inl hs)), Tv.bind_put nm a x d h.2 (fun s hs => ha s (Or.inr hs))]
/-- A name that a valid term has is a name. -/
theorem Tv.named_ok (nm : ByteArray) : ∀ (v : Tv) (d : Nat), v.ok d → ∀ s ∈ v.named nm, okName nm = true ∧ s.ty.fault = 0
  | .con n s, _, h, s', hs => by
    simp only [Tv.named] at hs
    split at hs
    · rename_i e
      subst e
      obtain rfl : s' = s := by simpa using hs
      exact h
    · simp at hs
  | .var _, _, _, _, hs => by simp [Tv.named] at hs
  | .abs _ b, d, h, s, hs => Tv.named_ok nm b (d + 1) h.2 s hs
  | .app f x, d, h, s, hs => by
    simp only [Tv.named, List.mem_append] at hs
    rcases hs with hs | hs
    · exact Tv.named_ok nm f d h.1 s hs
    · exact Tv.named_ok nm x d h.2 s hs
theorem Tv.named_len (nm : ByteArray) : ∀ v : Tv, (v.named nm).length ≤ v.nodes
  | .con n s => by simp only [Tv.named, Tv.nodes]; split <;> simp
  | .var _ => by simp [Tv.named]
  | .abs _ b => by have := Tv.named_len nm b; simp only [Tv.named, Tv.nodes]; omega
  | .app f x => by have := Tv.named_len nm f; have := Tv.named_len nm x; simp only [Tv.named, Tv.nodes, List.length_append]; omega

/-- All of a list are its first. -/
def alike : List Sy → Bool
  | [] => true
  | s :: l => l.all fun x => decide (x = s)
theorem alike_eq {s : Sy} {l : List Sy} (h : alike (s :: l) = true) : ∀ x ∈ s :: l, x = s := by
  intro x hx
  rcases List.mem_cons.1 hx with rfl | hx
  · rfl
  · have := List.all_eq_true.1 h x hx
    simpa using this
/-- The code of what can't be bound: 6 there is no such constant, 12 two types, 1 too large. -/
def bindCode (nm : ByteArray) (v : Tv) : Nat :=
  if (v.named nm).length = 0 then 6 else if alike (v.named nm) = false then 12 else if 200 < v.nodes + 1 ∨ 40 < v.depth + 1 then 1 else 0
def bindTerm (nm : ByteArray) (v : Tv) : Tv := .abs ((v.named nm).headD .e) (v.bind nm 0)

theorem bind_valid {nm : ByteArray} {v : Tv} {s : Sy} (hv : v.ok 0) (ht : Tv.typ [] v = some s) (hc : bindCode nm v = 0) :
    ∃ a, bindTerm nm v = .abs a (v.bind nm 0) ∧ okName nm = true ∧ a.ty.fault = 0 ∧ (bindTerm nm v).ok 0 ∧ Tv.typ [] (bindTerm nm v) = some (.fn a s) ∧ (bindTerm nm v).nodes ≤ 200 ∧ (bindTerm nm v).depth ≤ 40 ∧ (v.bind nm 0).put (.con nm a) 0 = v := by
  unfold bindCode at hc
  split at hc
  · simp at hc
  split at hc
  · simp at hc
  split at hc
  · simp at hc
  rename_i h1 h2 h3
  cases hl : v.named nm with
  | nil => rw [hl] at h1; simp at h1
  | cons a l =>
    have hall : ∀ x ∈ v.named nm, x = a := by rw [hl]; exact alike_eq (by rw [hl] at h2; simpa using h2)
    have hn := Tv.named_ok nm v 0 hv a (by rw [hl]; simp)
    have h4 := Tv.bind_typ nm a v [] hv hall
    simp only [List.nil_append, List.length_nil] at h4
    have e : bindTerm nm v = .abs a (v.bind nm 0) := by unfold bindTerm; rw [hl]; rfl
    refine ⟨a, e, hn.1, hn.2, ?_, ?_, ?_, ?_, Tv.bind_put nm a v 0 hv hall⟩
    · rw [e]; exact ⟨hn.2, Tv.bind_ok nm v 0 hv⟩
    · rw [e]; simp only [Tv.typ, h4, ht, Option.map_some]
    · rw [e]; simp only [Tv.nodes, Tv.bind_nodes]; omega
    · rw [e]; simp only [Tv.depth, Tv.bind_depth]; omega

end Go.Proofs.YthflahcnkhmpaabDoor
