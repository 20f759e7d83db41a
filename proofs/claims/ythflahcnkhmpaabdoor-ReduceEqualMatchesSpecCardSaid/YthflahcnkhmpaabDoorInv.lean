/-
  A region that draws its order, shown by what holds at each set of operations done (not order by order). Nothing here names the program.
-/
import Derived.Test.YthflahcnkhmpaabDoorAppAll
namespace Go.Proofs.YthflahcnkhmpaabDoor
open Go Go.RowKit
set_option linter.unusedSimpArgs false
set_option linter.unusedVariables false

theorem countP_lt {α : Type} (p q : α → Bool) (h : ∀ x, q x = true → p x = true) : ∀ (l : List α) (x : α), x ∈ l → p x = true → q x = false → l.countP q < l.countP p
  | [], _, hx, _, _ => by cases hx
  | y :: l, x, hx, hp, hq => by
    have hle : l.countP q ≤ l.countP p := List.countP_mono_left (fun x _ => h x)
    rw [List.countP_cons, List.countP_cons]
    rcases List.mem_cons.1 hx with rfl | hx
    · rw [hp, hq]; simp; omega
    · have := countP_lt p q h l x hx hp hq
      have h2 : (if q y = true then 1 else 0) ≤ (if p y = true then 1 else 0) := by
        by_cases hy : q y = true
        · rw [if_pos hy, if_pos (h y hy)]; exact Nat.le_refl 1
        · rw [if_neg hy]; exact Nat.zero_le _
      omega

/-- How many operations have not come up yet. -/
def rest (n : Nat) (L : Array Bool) : Nat := (List.range n).countP fun i => !L.getD i true
theorem getD_set {L : Array Bool} {i j : Nat} : (L.setIfInBounds i true).getD j true = (if i = j then true else L.getD j true) := by
  simp only [Array.getD_eq_getD_getElem?, Array.getElem?_setIfInBounds]
  split
  · rename_i h; subst h
    by_cases h : i < L.size
    · simp [h]
    · simp [h]
  · rfl
theorem rest_set {n i : Nat} {L : Array Bool} (hi : i < n) (h : L.getD i true = false) : rest n (L.setIfInBounds i true) < rest n L := by
  refine countP_lt _ _ (fun x hx => ?_) _ i (List.mem_range.2 hi) (by simp [h]) (by rw [getD_set]; simp)
  rw [getD_set] at hx
  split at hx
  · simp at hx
  · exact hx
theorem rest_all (n : Nat) : rest n (Array.replicate n false) ≤ n := by
  have := List.countP_le_length (p := fun i => !(Array.replicate n false).getD i true) (l := List.range n)
  simpa [rest] using this

section
variable {P : Program} {md : Region.Mode} {ops : Array Oper} {Q : Exit → Act → World → Prop}
theorem ready_mem {L : Array Bool} {i : Nat} (h : i ∈ Region.ready md ops L) : i < ops.size ∧ L.getD i true = false ∧ ((ops[i]?).map (·.after.all fun e => !Region.binds md e || L.getD e.on false)).getD false = true := by
  unfold Region.ready at h
  rw [List.mem_filter] at h
  obtain ⟨h1, h2⟩ := h
  simp only [Bool.and_eq_true, Bool.not_eq_true'] at h2
  exact ⟨List.mem_range.1 h1, h2.1, h2.2⟩
theorem ready_nil {L : Array Bool} (h : Region.ready md ops L = []) (i : Nat) (hi : i < ops.size) (hd : ((ops[i]?).map (·.after.all fun e => !Region.binds md e || L.getD e.on false)).getD false = true) : L.getD i true = true := by
  cases hL : L.getD i true with
  | true => rfl
  | false =>
    have : i ∈ Region.ready md ops L := by
      unfold Region.ready
      rw [List.mem_filter]
      exact ⟨List.mem_range.2 hi, by simp only [hL, Bool.not_false, Bool.true_and]; exact hd⟩
    rw [h] at this; cases this
/-- What holds at each set of operations done, holds at the end. -/
theorem wpAny_inv (I : Array Bool → Act → World → Prop) (hend : ∀ L a w, I L a w → Region.ready md ops L = [] → Q .normal a w)
    (hstep : ∀ L a w i, I L a w → i ∈ Region.ready md ops L → wpOp P ops Q i (I (L.setIfInBounds i true)) a w) :
    ∀ (fuel : Nat) (L : Array Bool) (a : Act) (w : World), rest ops.size L ≤ fuel → I L a w → wpAny P md ops Q fuel L a w
  | 0, L, a, w, hr, h => by
    have : Region.ready md ops L = [] := by
      cases e : Region.ready md ops L with
      | nil => rfl
      | cons i l =>
        have hm := ready_mem (md := md) (ops := ops) (L := L) (i := i) (by rw [e]; simp)
        have := rest_set hm.1 hm.2.1
        omega
    exact ⟨this, hend L a w h this⟩
  | fuel + 1, L, a, w, hr, h => ⟨fun h0 => hend L a w h h0, fun i hi => by
    have hm := ready_mem hi
    have := rest_set hm.1 hm.2.1
    exact wpOp_mono (fun a' w' h' => wpAny_inv I hend hstep fuel _ a' w' (by omega) h') (hstep L a w i h hi)⟩
theorem wp_region_inv {id : Nat} {a : Act} {w : World} (hm : P.follows .mixedOrders = true) (I : Array Bool → Act → World → Prop) (h0 : I (Array.replicate ops.size false) a w.drew)
    (hend : ∀ L a w, I L a w → Region.ready .any ops L = [] → Q .normal a w)
    (hstep : ∀ L a w i, I L a w → i ∈ Region.ready .any ops L → wpOp P ops Q i (I (L.setIfInBounds i true)) a w) : (Code.region id ops true).wp P Q a w :=
  wp_region_any hm (wpAny_inv I hend hstep _ _ _ _ (rest_all _) h0)
end

/-! ### A list copied, with one more: the chain 'append(append([]int{}, l...), x)' -/

theorem ownsRow_keepB {w w' : World} {B : Nat → Prop} {base size n : Nat} {E : TypeId} {v : Value} {xs : List Value} (h : w.ownsRow base E size v n xs) (hv : ∀ k, v.ownBlock = some k → B k) (hk : ∀ k, B k → w'.heap[k]? = w.heap[k]?) : w'.ownsRow base E size v n xs := by
  obtain ⟨h1, h2⟩ := h
  refine ⟨h1, ?_⟩
  rcases h2 with h2 | ⟨g, cap, cur, e, hg, hh, r⟩
  · exact Or.inl h2
  · exact Or.inr ⟨g, cap, cur, e, hg, (hk g (hv g (by rw [e]; rfl))).trans hh, r⟩

/-- Where the chain stands: fb: the empty slice is made (vb); fa: the list is copied (va); fx: the one thing is laid (vx); fd: done (vd). B: its blocks. -/
structure Ch (B : Nat → Prop) (w : World) (base n : Nat) (xs : List Value) (x : Value) (fb fa fx fd : Bool) (vb va vx vd : Value) : Prop where
  hb : fb = true → fa = false → ∃ g, vb = .slice (some ⟨g, 0, none⟩) 0 0 ∧ B g ∧ base ≤ g ∧ w.heap[g]? = some (.cells #[] 3 (0, 0))
  ha : fa = true → fd = false → ∃ A c, va = .slice A n c ∧ w.ownsRow base 3 1 (.slice A n c) n ([] ++ xs) ∧ ∀ k, (Value.slice A n c).ownBlock = some k → B k
  hx : fx = true → fd = false → ∃ g, vx = .slice (some ⟨g, 0, none⟩) 1 1 ∧ B g ∧ w.heap[g]? = some (.cells #[x] 3 (0, 0))
  ho : fd = true → fa = true ∧ fx = true
  hd : fd = true → ∃ A c, vd = .slice A (n + 1) c ∧ w.ownsRow base 3 1 (.slice A (n + 1) c) (n + 1) (([] ++ xs) ++ [x]) ∧ ∀ k, (Value.slice A (n + 1) c).ownBlock = some k → B k
section
variable {B B' : Nat → Prop} {w w' : World} {base n : Nat} {xs : List Value} {x : Value} {fb fa fx fd : Bool} {vb va vx vd : Value}
theorem Ch.keep (h : Ch B w base n xs x fb fa fx fd vb va vx vd) (hk : ∀ k, B k → w'.heap[k]? = w.heap[k]?) (hB : ∀ k, B k → B' k) : Ch B' w' base n xs x fb fa fx fd vb va vx vd where
  hb h1 h2 := by obtain ⟨g, e, hb, hg, hh⟩ := h.hb h1 h2; exact ⟨g, e, hB g hb, hg, (hk g hb).trans hh⟩
  ha h1 h2 := by obtain ⟨A, c, e, ho, hb⟩ := h.ha h1 h2; exact ⟨A, c, e, ownsRow_keepB ho hb hk, fun k e => hB k (hb k e)⟩
  hx h1 h2 := by obtain ⟨g, e, hb, hh⟩ := h.hx h1 h2; exact ⟨g, e, hB g hb, (hk g hb).trans hh⟩
  ho := h.ho
  hd h1 := by obtain ⟨A, c, e, ho, hb⟩ := h.hd h1; exact ⟨A, c, e, ownsRow_keepB ho hb hk, fun k e => hB k (hb k e)⟩
theorem Ch.start : Ch (fun _ => False) w base n xs x false false false false vb va vx vd := ⟨fun h => (by cases h), fun h => (by cases h), fun h => (by cases h), fun h => (by cases h), fun h => (by cases h)⟩
end

/-- Two such chains, each in blocks of its own, from the world wx on. -/
def Two (wx w : World) (C1 C2 : (Nat → Prop) → World → Prop) : Prop :=
  ∃ B1 B2 : Nat → Prop, (∀ k, B1 k → wx.heap.size ≤ k ∧ k < w.heap.size) ∧ (∀ k, B2 k → wx.heap.size ≤ k ∧ k < w.heap.size) ∧ (∀ k, B1 k → ¬ B2 k) ∧ C1 B1 w ∧ C2 B2 w ∧ Below wx.heap.size wx w
theorem Two.swap {wx w : World} {C1 C2 : (Nat → Prop) → World → Prop} (h : Two wx w C1 C2) : Two wx w C2 C1 := by
  obtain ⟨B1, B2, h1, h2, h3, h4, h5, h6⟩ := h
  exact ⟨B2, B1, h2, h1, fun k a b => h3 k b a, h5, h4, h6⟩
def Keeps (C : (Nat → Prop) → World → Prop) : Prop := ∀ (B B' : Nat → Prop) (w w' : World), C B w → (∀ k, B k → w'.heap[k]? = w.heap[k]?) → (∀ k, B k → B' k) → C B' w'
theorem Ch.keeps {base n : Nat} {xs : List Value} {x : Value} {fb fa fx fd : Bool} {vb va vx vd : Value} : Keeps (fun B u => Ch B u base n xs x fb fa fx fd vb va vx vd) := fun _ _ _ _ h hk hB => h.keep hk hB
section
variable {wx w : World} {C2 : (Nat → Prop) → World → Prop} {n : Nat} {xs : List Value} {x : Value} {fb fa fx fd : Bool} {vb va vx vd : Value}
theorem Two.below {C1 : (Nat → Prop) → World → Prop} (h : Two wx w C1 C2) : Below wx.heap.size wx w := by obtain ⟨_, _, _, _, _, _, _, h⟩ := h; exact h
theorem Two.made (hC : Keeps C2) (h : Two wx w (fun B u => Ch B u wx.heap.size n xs x fb fa fx fd vb va vx vd) C2) :
    Two wx (w.alloc (.cells #[] 3)) (fun B u => Ch B u wx.heap.size n xs x true fa fx fd (.slice (some ⟨w.heap.size, 0, none⟩) 0 0) va vx vd) C2 := by
  obtain ⟨B1, B2, h1, h2, h3, h4, h5, h6⟩ := h
  have hsz := h6.size
  have hk : ∀ k, k < w.heap.size → (w.alloc (.cells #[] 3)).heap[k]? = w.heap[k]? := fun k hk => heap_old hk rfl
  refine ⟨fun k => B1 k ∨ k = w.heap.size, B2, ?_, fun k hb => ?_, ?_, ?_, hC _ _ _ _ h5 (fun k hb => hk k (h2 k hb).2) (fun _ h => h), h6.alloc hsz _⟩
  · rintro k (hb | rfl)
    · have := h1 k hb; simp; omega
    · simp; omega
  · have := h2 k hb; simp; omega
  · rintro k (hb | rfl) hb2
    · exact h3 k hb hb2
    · have := (h2 _ hb2).2; omega
  · have h4' := h4.keep (w' := w.alloc (.cells #[] 3)) (fun k hb => hk k (h1 k hb).2) (B' := fun k => B1 k ∨ k = w.heap.size) (fun k hb => Or.inl hb)
    exact ⟨fun _ _ => ⟨w.heap.size, rfl, Or.inr rfl, hsz, heap_at rfl⟩, h4'.ha, h4'.hx, h4'.ho, h4'.hd⟩
theorem Two.laid (hC : Keeps C2) (h : Two wx w (fun B u => Ch B u wx.heap.size n xs x fb fa fx fd vb va vx vd) C2) :
    Two wx (w.alloc (.cells #[x] 3)) (fun B u => Ch B u wx.heap.size n xs x fb fa true fd vb va (.slice (some ⟨w.heap.size, 0, none⟩) 1 1) vd) C2 := by
  obtain ⟨B1, B2, h1, h2, h3, h4, h5, h6⟩ := h
  have hsz := h6.size
  have hk : ∀ k, k < w.heap.size → (w.alloc (.cells #[x] 3)).heap[k]? = w.heap[k]? := fun k hk => heap_old hk rfl
  refine ⟨fun k => B1 k ∨ k = w.heap.size, B2, ?_, fun k hb => ?_, ?_, ?_, hC _ _ _ _ h5 (fun k hb => hk k (h2 k hb).2) (fun _ h => h), h6.alloc hsz _⟩
  · rintro k (hb | rfl)
    · have := h1 k hb; simp; omega
    · simp; omega
  · have := h2 k hb; simp; omega
  · rintro k (hb | rfl) hb2
    · exact h3 k hb hb2
    · have := (h2 _ hb2).2; omega
  · have h4' := h4.keep (w' := w.alloc (.cells #[x] 3)) (fun k hb => hk k (h1 k hb).2) (B' := fun k => B1 k ∨ k = w.heap.size) (fun k hb => Or.inl hb)
    exact ⟨h4'.hb, h4'.ha, fun _ _ => ⟨w.heap.size, rfl, Or.inr rfl, heap_at rfl⟩, fun h => ⟨(h4'.ho h).1, rfl⟩, h4'.hd⟩
/-- What an append leaves beside its own row. -/
theorem Two.grown {w' : World} {B1 B2 : Nat → Prop} (hC : Keeps C2) (h1 : ∀ k, B1 k → wx.heap.size ≤ k ∧ k < w.heap.size) (h2 : ∀ k, B2 k → wx.heap.size ≤ k ∧ k < w.heap.size) (h3 : ∀ k, B1 k → ¬ B2 k) (h5 : C2 B2 w) (h6 : Below wx.heap.size wx w) {row : Option Nat}
    (hr : ∀ k, row = some k → B1 k) (hg : w.grownBy w' row) {C1 : (Nat → Prop) → World → Prop} (h4 : C1 (fun k => B1 k ∨ (w.heap.size ≤ k ∧ k < w'.heap.size)) w') : Two wx w' C1 C2 := by
  have hsz := hg.size
  refine ⟨_, B2, ?_, fun k hb => ?_, ?_, h4, hC _ _ _ _ h5 (fun k hb => hg.block k (h2 k hb).2 (fun e => h3 k (hr k e.symm) hb)) (fun _ h => h), h6.grown hg h6.size (fun k e => (h1 k (hr k e)).1)⟩
  · rintro k (hb | hb)
    · have := h1 k hb; omega
    · have := h6.size; omega
  · have := h2 k hb; omega
  · rintro k (hb | hb) hb2
    · exact h3 k hb hb2
    · have := (h2 _ hb2).2; omega
theorem Two.copied (hC : Keeps C2) (h : Two wx w (fun B u => Ch B u wx.heap.size n xs x true false fx fd vb va vx vd) C2) :
    ∃ g, vb = .slice (some ⟨g, 0, none⟩) 0 0 ∧ w.ownsRow wx.heap.size 3 1 (.slice (some ⟨g, 0, none⟩) 0 0) 0 [] ∧ ∀ A c w', w'.ownsRow wx.heap.size 3 1 (.slice A n c) n ([] ++ xs) → w.grownBy w' (Value.slice (some ⟨g, 0, none⟩) 0 0).ownBlock →
      ((Value.slice A n c).ownBlock = (Value.slice (some ⟨g, 0, none⟩) 0 0).ownBlock ∨ (Value.slice A n c).ownBlock = some w.heap.size) → Two wx w' (fun B u => Ch B u wx.heap.size n xs x true true fx fd vb (.slice A n c) vx vd) C2 := by
  obtain ⟨B1, B2, h1, h2, h3, h4, h5, h6⟩ := h
  obtain ⟨g, e, hb, hg, hh⟩ := h4.hb rfl rfl
  refine ⟨g, e, ownsRow_made hh hg, fun A c w' ho hgr hat => ?_⟩
  have hfd : fd = false := by
    cases fd with
    | false => rfl
    | true => have := (h4.ho rfl).1; cases this
  refine Two.grown hC h1 h2 h3 h5 h6 (row := (Value.slice (some ⟨g, 0, none⟩) 0 0).ownBlock) (fun k e => by injection e with e; exact e ▸ hb) hgr ?_
  have hsz := hgr.size
  have hlt : ∀ k, (Value.slice A n c).ownBlock = some k → k < w'.heap.size := fun k e => (ho.lt k e).2
  refine ⟨fun _ h => (by cases h), fun _ _ => ⟨A, c, rfl, ho, fun k e => ?_⟩, fun hx hd => ?_, fun h => (by rw [hfd] at h; cases h), fun h => (by rw [hfd] at h; cases h)⟩
  · rcases hat with hat | hat
    · rw [e] at hat
      injection hat with hat
      exact Or.inl (hat ▸ hb)
    · have h := hlt k e
      rw [e] at hat
      injection hat with hat
      exact Or.inr ⟨by omega, h⟩
  · obtain ⟨gx, e, hbx, hhx⟩ := h4.hx hx hd
    refine ⟨gx, e, Or.inl hbx, (hgr.block gx (h1 gx hbx).2 (fun e2 => ?_)).trans hhx⟩
    injection e2 with e2
    have e3 : gx = g := e2
    rw [e3, hh] at hhx
    simp at hhx
theorem Two.done (hC : Keeps C2) (h : Two wx w (fun B u => Ch B u wx.heap.size n xs x fb true true false vb va vx vd) C2) :
    ∃ A c g, va = .slice A n c ∧ w.ownsRow wx.heap.size 3 1 (.slice A n c) n ([] ++ xs) ∧ vx = .slice (some ⟨g, 0, none⟩) 1 1 ∧ w.heap[g]? = some (.cells #[x] 3 (0, 0)) ∧ ∀ A' c' w', w'.ownsRow wx.heap.size 3 1 (.slice A' (n + 1) c') (n + 1) (([] ++ xs) ++ [x]) → w.grownBy w' (Value.slice A n c).ownBlock →
      ((Value.slice A' (n + 1) c').ownBlock = (Value.slice A n c).ownBlock ∨ (Value.slice A' (n + 1) c').ownBlock = some w.heap.size) → Two wx w' (fun B u => Ch B u wx.heap.size n xs x fb true true true vb va vx (.slice A' (n + 1) c')) C2 := by
  obtain ⟨B1, B2, h1, h2, h3, h4, h5, h6⟩ := h
  obtain ⟨A, c, e, ho, hb⟩ := h4.ha rfl rfl
  obtain ⟨g, e2, hbx, hhx⟩ := h4.hx rfl rfl
  refine ⟨A, c, g, e, ho, e2, hhx, fun A' c' w' ho' hgr hat => ?_⟩
  refine Two.grown hC h1 h2 h3 h5 h6 (row := (Value.slice A n c).ownBlock) hb hgr ?_
  have hlt : ∀ k, (Value.slice A' (n + 1) c').ownBlock = some k → k < w'.heap.size := fun k e => (ho'.lt k e).2
  refine ⟨fun _ h => (by cases h), fun _ h => (by cases h), fun _ h => (by cases h), fun _ => ⟨rfl, rfl⟩, fun _ => ⟨A', c', rfl, ho', fun k e => ?_⟩⟩
  rcases hat with hat | hat
  · exact Or.inl (hb k (by rw [← hat]; exact e))
  · have h := hlt k e
    rw [e] at hat
    injection hat with hat
    exact Or.inr ⟨by omega, h⟩
end

theorem getD_tf {L : Array Bool} {k : Nat} (h : L.getD k false = true) : L.getD k true = true := by
  simp only [Array.getD_eq_getD_getElem?] at h ⊢
  cases e : L[k]? with
  | none => rfl
  | some b => rw [e] at h; exact h
theorem getD_ft {L : Array Bool} {k : Nat} (hk : k < L.size) (h : L.getD k true = true) : L.getD k false = true := by
  simp only [Array.getD_eq_getD_getElem?] at h ⊢
  rw [Array.getElem?_eq_getElem hk] at h ⊢
  exact h

end Go.Proofs.YthflahcnkhmpaabDoor
