/-
  A region that draws its order, shown by what holds at each set of operations done; two chains 'append(append([]string{}, l...), x)' in one. Nothing here walks.
-/
import Derived.Test.YtdofemkfmkopcaaDoorAppS
import Derived.Test.YtdofemkfmkopcaaDoorSets
namespace Go.Proofs.YtdofemkfmkopcaaDoor
open Go Go.RowKit
set_option linter.unusedSimpArgs false
set_option linter.unusedVariables false


theorem countP_lt {α : Type} (p q : α → Bool) (h : ∀ x, q x = true → p x = true) : ∀ (l : List α) (x : α), x ∈ l → p x = true → q x = false → l.countP q < l.countP p
  | [], _, hx, _, _ => by cases hx
  | y :: l, x, hx, hp, hq => by
    have hle : l.countP q ≤ l.countP p := List.countP_mono_left (fun x _ => h x)
    rw [List.countP_cons, List.countP_cons]
    rcases List.mem_cons.1 hx with rfl | hx
    · rw [hp, hq]; simp; omega
    · have := countP_lt p q h l x hx hp hq
      have h2 : (if q y = true then 1 else 0) ≤ (if p y = true then 1 else 0) := by
        by_cases hy : q y = true
        · rw [if_pos hy, if_pos (h y hy)]; exact Nat.le_refl 1
        · rw [if_neg hy]; exact Nat.zero_le _
      omega

/-- How many operations have not come up yet. -/
def rest (n : Nat) (L : Array Bool) : Nat := (List.range n).countP fun i => !L.getD i true
theorem getD_set {L : Array Bool} {i j : Nat} : (L.setIfInBounds i true).getD j true = (if i = j then true else L.getD j true) := by
  simp only [Array.getD_eq_getD_getElem?, Array.getElem?_setIfInBounds]
  split
  · rename_i h; subst h
    by_cases h : i < L.size
    · simp [h]
    · simp [h]
  · rfl
theorem rest_set {n i : Nat} {L : Array Bool} (hi : i < n) (h : L.getD i true = false) : rest n (L.setIfInBounds i true) < rest n L := by
  refine countP_lt _ _ (fun x hx => ?_) _ i (List.mem_range.2 hi) (by simp [h]) (by rw [getD_set]; simp)
  rw [getD_set] at hx
  split at hx
  · simp at hx
  · exact hx
theorem rest_all (n : Nat) : rest n (Array.replicate n false) ≤ n := by
  have := List.countP_le_length (p := fun i => !(Array.replicate n false).getD i true) (l := List.range n)
  simpa [rest] using this

section
variable {P : Program} {md : Region.Mode} {ops : Array Oper} {Q : Exit → Act → World → Prop}
theorem ready_mem {L : Array Bool} {i : Nat} (h : i ∈ Region.ready md ops L) : i < ops.size ∧ L.getD i true = false ∧ ((ops[i]?).map (·.after.all fun e => !Region.binds md e || L.getD e.on false)).getD false = true := by
  unfold Region.ready at h
  rw [List.mem_filter] at h
  obtain ⟨h1, h2⟩ := h
  simp only [Bool.and_eq_true, Bool.not_eq_true'] at h2
  exact ⟨List.mem_range.1 h1, h2.1, h2.2⟩
theorem ready_nil {L : Array Bool} (h : Region.ready md ops L = []) (i : Nat) (hi : i < ops.size) (hd : ((ops[i]?).map (·.after.all fun e => !Region.binds md e || L.getD e.on false)).getD false = true) : L.getD i true = true := by
  cases hL : L.getD i true with
  | true => rfl
  | false =>
    have : i ∈ Region.ready md ops L := by
      unfold Region.ready
      rw [List.mem_filter]
      exact ⟨List.mem_range.2 hi, by simp only [hL, Bool.not_false, Bool.true_and]; exact hd⟩
    rw [h] at this; cases this
/-- What holds at each set of operations done, holds at the end. -/
theorem wpAny_inv (I : Array Bool → Act → World → Prop) (hend : ∀ L a w, I L a w → Region.ready md ops L = [] → Q .normal a w)
    (hstep : ∀ L a w i, I L a w → i ∈ Region.ready md ops L → wpOp P ops Q i (I (L.setIfInBounds i true)) a w) :
    ∀ (fuel : Nat) (L : Array Bool) (a : Act) (w : World), rest ops.size L ≤ fuel → I L a w → wpAny P md ops Q fuel L a w
  | 0, L, a, w, hr, h => by
    have : Region.ready md ops L = [] := by
      cases e : Region.ready md ops L with
      | nil => rfl
      | cons i l =>
        have hm := ready_mem (md := md) (ops := ops) (L := L) (i := i) (by rw [e]; simp)
        have := rest_set hm.1 hm.2.1
        omega
    exact ⟨this, hend L a w h this⟩
  | fuel + 1, L, a, w, hr, h => ⟨fun h0 => hend L a w h h0, fun i hi => by
    have hm := ready_mem hi
    have := rest_set hm.1 hm.2.1
    exact wpOp_mono (fun a' w' h' => wpAny_inv I hend hstep fuel _ a' w' (by omega) h') (hstep L a w i h hi)⟩
theorem wp_region_inv {id : Nat} {a : Act} {w : World} (hm : P.follows .mixedOrders = true) (I : Array Bool → Act → World → Prop) (h0 : I (Array.replicate ops.size false) a w.drew)
    (hend : ∀ L a w, I L a w → Region.ready .any ops L = [] → Q .normal a w)
    (hstep : ∀ L a w i, I L a w → i ∈ Region.ready .any ops L → wpOp P ops Q i (I (L.setIfInBounds i true)) a w) : (Code.region id ops true).wp P Q a w :=
  wp_region_any hm (wpAny_inv I hend hstep _ _ _ _ (rest_all _) h0)
end

/-! ### A list copied, with one more: the chain 'append(append([]int{}, l...), x)' -/

theorem ownsRow_keepB {w w' : World} {B : Nat → Prop} {base size n : Nat} {E : TypeId} {v : Value} {xs : List Value} (h : w.ownsRow base E size v n xs) (hv : ∀ k, v.ownBlock = some k → B k) (hk : ∀ k, B k → w'.heap[k]? = w.heap[k]?) : w'.ownsRow base E size v n xs := by
  obtain ⟨h1, h2⟩ := h
  refine ⟨h1, ?_⟩
  rcases h2 with h2 | ⟨g, cap, cur, e, hg, hh, r⟩
  · exact Or.inl h2
  · exact Or.inr ⟨g, cap, cur, e, hg, (hk g (hv g (by rw [e]; rfl))).trans hh, r⟩

/-- Where the chain stands: fb: the empty slice is made (vb); fa: the list is copied (va); fx: the one thing is laid (vx); fd: done (vd). B: its blocks. -/
structure Ch (B : Nat → Prop) (w : World) (base n : Nat) (xs : List Value) (x : Value) (fb fa fx fd : Bool) (vb va vx vd : Value) : Prop where
  hb : fb = true → fa = false → ∃ g, vb = .slice (some ⟨g, 0, none⟩) 0 0 ∧ B g ∧ base ≤ g ∧ w.heap[g]? = some (.cells #[] 9 (0, 0))
  ha : fa = true → fd = false → ∃ A c, va = .slice A n c ∧ w.ownsRow base 9 1 (.slice A n c) n ([] ++ xs) ∧ ∀ k, (Value.slice A n c).ownBlock = some k → B k
  hx : fx = true → fd = false → ∃ g, vx = .slice (some ⟨g, 0, none⟩) 1 1 ∧ B g ∧ w.heap[g]? = some (.cells #[x] 9 (0, 0))
  ho : fd = true → fa = true ∧ fx = true
  hd : fd = true → ∃ A c, vd = .slice A (n + 1) c ∧ w.ownsRow base 9 1 (.slice A (n + 1) c) (n + 1) (([] ++ xs) ++ [x]) ∧ ∀ k, (Value.slice A (n + 1) c).ownBlock = some k → B k
section
variable {B B' : Nat → Prop} {w w' : World} {base n : Nat} {xs : List Value} {x : Value} {fb fa fx fd : Bool} {vb va vx vd : Value}
theorem Ch.keep (h : Ch B w base n xs x fb fa fx fd vb va vx vd) (hk : ∀ k, B k → w'.heap[k]? = w.heap[k]?) (hB : ∀ k, B k → B' k) : Ch B' w' base n xs x fb fa fx fd vb va vx vd where
  hb h1 h2 := by obtain ⟨g, e, hb, hg, hh⟩ := h.hb h1 h2; exact ⟨g, e, hB g hb, hg, (hk g hb).trans hh⟩
  ha h1 h2 := by obtain ⟨A, c, e, ho, hb⟩ := h.ha h1 h2; exact ⟨A, c, e, ownsRow_keepB ho hb hk, fun k e => hB k (hb k e)⟩
  hx h1 h2 := by obtain ⟨g, e, hb, hh⟩ := h.hx h1 h2; exact ⟨g, e, hB g hb, (hk g hb).trans hh⟩
  ho := h.ho
  hd h1 := by obtain ⟨A, c, e, ho, hb⟩ := h.hd h1; exact ⟨A, c, e, ownsRow_keepB ho hb hk, fun k e => hB k (hb k e)⟩
theorem Ch.start : Ch (fun _ => False) w base n xs x false false false false vb va vx vd := ⟨fun h => (by cases h), fun h => (by cases h), fun h => (by cases h), fun h => (by cases h), fun h => (by cases h)⟩
end

/-- Two such chains, each in blocks of its own, from the world wx on. -/
def Two (wx w : World) (C1 C2 : (Nat → Prop) → World → Prop) : Prop :=
  ∃ B1 B2 : Nat → Prop, (∀ k, B1 k → wx.heap.size ≤ k ∧ k < w.heap.size) ∧ (∀ k, B2 k → wx.heap.size ≤ k ∧ k < w.heap.size) ∧ (∀ k, B1 k → ¬ B2 k) ∧ C1 B1 w ∧ C2 B2 w ∧ Below wx.heap.size wx w
theorem Two.swap {wx w : World} {C1 C2 : (Nat → Prop) → World → Prop} (h : Two wx w C1 C2) : Two wx w C2 C1 := by
  obtain ⟨B1, B2, h1, h2, h3, h4, h5, h6⟩ := h
  exact ⟨B2, B1, h2, h1, fun k a b => h3 k b a, h5, h4, h6⟩
def KeepsC (C : (Nat → Prop) → World → Prop) : Prop := ∀ (B B' : Nat → Prop) (w w' : World), C B w → (∀ k, B k → w'.heap[k]? = w.heap[k]?) → (∀ k, B k → B' k) → C B' w'
theorem Ch.keeps {base n : Nat} {xs : List Value} {x : Value} {fb fa fx fd : Bool} {vb va vx vd : Value} : KeepsC (fun B u => Ch B u base n xs x fb fa fx fd vb va vx vd) := fun _ _ _ _ h hk hB => h.keep hk hB
section
variable {wx w : World} {C2 : (Nat → Prop) → World → Prop} {n : Nat} {xs : List Value} {x : Value} {fb fa fx fd : Bool} {vb va vx vd : Value}
theorem Two.below {C1 : (Nat → Prop) → World → Prop} (h : Two wx w C1 C2) : Below wx.heap.size wx w := by obtain ⟨_, _, _, _, _, _, _, h⟩ := h; exact h
theorem Two.made (hC : KeepsC C2) (h : Two wx w (fun B u => Ch B u wx.heap.size n xs x fb fa fx fd vb va vx vd) C2) :
    Two wx (w.alloc (.cells #[] 9)) (fun B u => Ch B u wx.heap.size n xs x true fa fx fd (.slice (some ⟨w.heap.size, 0, none⟩) 0 0) va vx vd) C2 := by
  obtain ⟨B1, B2, h1, h2, h3, h4, h5, h6⟩ := h
  have hsz := h6.size
  have hk : ∀ k, k < w.heap.size → (w.alloc (.cells #[] 9)).heap[k]? = w.heap[k]? := fun k hk => heap_old hk rfl
  refine ⟨fun k => B1 k ∨ k = w.heap.size, B2, ?_, fun k hb => ?_, ?_, ?_, hC _ _ _ _ h5 (fun k hb => hk k (h2 k hb).2) (fun _ h => h), h6.alloc hsz _⟩
  · rintro k (hb | rfl)
    · have := h1 k hb; simp; omega
    · simp; omega
  · have := h2 k hb; simp; omega
  · rintro k (hb | rfl) hb2
    · exact h3 k hb hb2
    · have := (h2 _ hb2).2; omega
  · have h4' := h4.keep (w' := w.alloc (.cells #[] 9)) (fun k hb => hk k (h1 k hb).2) (B' := fun k => B1 k ∨ k = w.heap.size) (fun k hb => Or.inl hb)
    exact ⟨fun _ _ => ⟨w.heap.size, rfl, Or.inr rfl, hsz, heap_at rfl⟩, h4'.ha, h4'.hx, h4'.ho, h4'.hd⟩
theorem Two.laid (hC : KeepsC C2) (h : Two wx w (fun B u => Ch B u wx.heap.size n xs x fb fa fx fd vb va vx vd) C2) :
    Two wx (w.alloc (.cells #[x] 9)) (fun B u => Ch B u wx.heap.size n xs x fb fa true fd vb va (.slice (some ⟨w.heap.size, 0, none⟩) 1 1) vd) C2 := by
  obtain ⟨B1, B2, h1, h2, h3, h4, h5, h6⟩ := h
  have hsz := h6.size
  have hk : ∀ k, k < w.heap.size → (w.alloc (.cells #[x] 9)).heap[k]? = w.heap[k]? := fun k hk => heap_old hk rfl
  refine ⟨fun k => B1 k ∨ k = w.heap.size, B2, ?_, fun k hb => ?_, ?_, ?_, hC _ _ _ _ h5 (fun k hb => hk k (h2 k hb).2) (fun _ h => h), h6.alloc hsz _⟩
  · rintro k (hb | rfl)
    · have := h1 k hb; simp; omega
    · simp; omega
  · have := h2 k hb; simp; omega
  · rintro k (hb | rfl) hb2
    · exact h3 k hb hb2
    · have := (h2 _ hb2).2; omega
  · have h4' := h4.keep (w' := w.alloc (.cells #[x] 9)) (fun k hb => hk k (h1 k hb).2) (B' := fun k => B1 k ∨ k = w.heap.size) (fun k hb => Or.inl hb)
    exact ⟨h4'.hb, h4'.ha, fun _ _ => ⟨w.heap.size, rfl, Or.inr rfl, heap_at rfl⟩, fun h => ⟨(h4'.ho h).1, rfl⟩, h4'.hd⟩
/-- What an append leaves beside its own row. -/
theorem Two.grown {w' : World} {B1 B2 : Nat → Prop} (hC : KeepsC C2) (h1 : ∀ k, B1 k → wx.heap.size ≤ k ∧ k < w.heap.size) (h2 : ∀ k, B2 k → wx.heap.size ≤ k ∧ k < w.heap.size) (h3 : ∀ k, B1 k → ¬ B2 k) (h5 : C2 B2 w) (h6 : Below wx.heap.size wx w) {row : Option Nat}
    (hr : ∀ k, row = some k → B1 k) (hg : w.grownBy w' row) {C1 : (Nat → Prop) → World → Prop} (h4 : C1 (fun k => B1 k ∨ (w.heap.size ≤ k ∧ k < w'.heap.size)) w') : Two wx w' C1 C2 := by
  have hsz := hg.size
  refine ⟨_, B2, ?_, fun k hb => ?_, ?_, h4, hC _ _ _ _ h5 (fun k hb => hg.block k (h2 k hb).2 (fun e => h3 k (hr k e.symm) hb)) (fun _ h => h), h6.grown hg h6.size (fun k e => (h1 k (hr k e)).1)⟩
  · rintro k (hb | hb)
    · have := h1 k hb; omega
    · have := h6.size; omega
  · have := h2 k hb; omega
  · rintro k (hb | hb) hb2
    · exact h3 k hb hb2
    · have := (h2 _ hb2).2; omega
theorem Two.copied (hC : KeepsC C2) (h : Two wx w (fun B u => Ch B u wx.heap.size n xs x true false fx fd vb va vx vd) C2) :
    ∃ g, vb = .slice (some ⟨g, 0, none⟩) 0 0 ∧ w.ownsRow wx.heap.size 9 1 (.slice (some ⟨g, 0, none⟩) 0 0) 0 [] ∧ ∀ A c w', w'.ownsRow wx.heap.size 9 1 (.slice A n c) n ([] ++ xs) → w.grownBy w' (Value.slice (some ⟨g, 0, none⟩) 0 0).ownBlock →
      ((Value.slice A n c).ownBlock = (Value.slice (some ⟨g, 0, none⟩) 0 0).ownBlock ∨ (Value.slice A n c).ownBlock = some w.heap.size) → Two wx w' (fun B u => Ch B u wx.heap.size n xs x true true fx fd vb (.slice A n c) vx vd) C2 := by
  obtain ⟨B1, B2, h1, h2, h3, h4, h5, h6⟩ := h
  obtain ⟨g, e, hb, hg, hh⟩ := h4.hb rfl rfl
  refine ⟨g, e, ownsRow_made hh hg, fun A c w' ho hgr hat => ?_⟩
  have hfd : fd = false := by
    cases fd with
    | false => rfl
    | true => have := (h4.ho rfl).1; cases this
  refine Two.grown hC h1 h2 h3 h5 h6 (row := (Value.slice (some ⟨g, 0, none⟩) 0 0).ownBlock) (fun k e => by injection e with e; exact e ▸ hb) hgr ?_
  have hsz := hgr.size
  have hlt : ∀ k, (Value.slice A n c).ownBlock = some k → k < w'.heap.size := fun k e => (ho.lt k e).2
  refine ⟨fun _ h => (by cases h), fun _ _ => ⟨A, c, rfl, ho, fun k e => ?_⟩, fun hx hd => ?_, fun h => (by rw [hfd] at h; cases h), fun h => (by rw [hfd] at h; cases h)⟩
  · rcases hat with hat | hat
    · rw [e] at hat
      injection hat with hat
      exact Or.inl (hat ▸ hb)
    · have h := hlt k e
      rw [e] at hat
      injection hat with hat
      exact Or.inr ⟨by omega, h⟩
  · obtain ⟨gx, e, hbx, hhx⟩ := h4.hx hx hd
    refine ⟨gx, e, Or.inl hbx, (hgr.block gx (h1 gx hbx).2 (fun e2 => ?_)).trans hhx⟩
    injection e2 with e2
    have e3 : gx = g := e2
    rw [e3, hh] at hhx
    simp at hhx
theorem Two.done (hC : KeepsC C2) (h : Two wx w (fun B u => Ch B u wx.heap.size n xs x fb true true false vb va vx vd) C2) :
    ∃ A c g, va = .slice A n c ∧ w.ownsRow wx.heap.size 9 1 (.slice A n c) n ([] ++ xs) ∧ vx = .slice (some ⟨g, 0, none⟩) 1 1 ∧ w.heap[g]? = some (.cells #[x] 9 (0, 0)) ∧ ∀ A' c' w', w'.ownsRow wx.heap.size 9 1 (.slice A' (n + 1) c') (n + 1) (([] ++ xs) ++ [x]) → w.grownBy w' (Value.slice A n c).ownBlock →
      ((Value.slice A' (n + 1) c').ownBlock = (Value.slice A n c).ownBlock ∨ (Value.slice A' (n + 1) c').ownBlock = some w.heap.size) → Two wx w' (fun B u => Ch B u wx.heap.size n xs x fb true true true vb va vx (.slice A' (n + 1) c')) C2 := by
  obtain ⟨B1, B2, h1, h2, h3, h4, h5, h6⟩ := h
  obtain ⟨A, c, e, ho, hb⟩ := h4.ha rfl rfl
  obtain ⟨g, e2, hbx, hhx⟩ := h4.hx rfl rfl
  refine ⟨A, c, g, e, ho, e2, hhx, fun A' c' w' ho' hgr hat => ?_⟩
  refine Two.grown hC h1 h2 h3 h5 h6 (row := (Value.slice A n c).ownBlock) hb hgr ?_
  have hlt : ∀ k, (Value.slice A' (n + 1) c').ownBlock = some k → k < w'.heap.size := fun k e => (ho'.lt k e).2
  refine ⟨fun _ h => (by cases h), fun _ h => (by cases h), fun _ h => (by cases h), fun _ => ⟨rfl, rfl⟩, fun _ => ⟨A', c', rfl, ho', fun k e => ?_⟩⟩
  rcases hat with hat | hat
  · exact Or.inl (hb k (by rw [← hat]; exact e))
  · have h := hlt k e
    rw [e] at hat
    injection hat with hat
    exact Or.inr ⟨by omega, h⟩
end

theorem getD_tf {L : Array Bool} {k : Nat} (h : L.getD k false = true) : L.getD k true = true := by
  simp only [Array.getD_eq_getD_getElem?] at h ⊢
  cases e : L[k]? with
  | none => rfl
  | some b => rw [e] at h; exact h
theorem getD_ft {L : Array Bool} {k : Nat} (hk : k < L.size) (h : L.getD k true = true) : L.getD k false = true := by
  simp only [Array.getD_eq_getD_getElem?] at h ⊢
  rw [Array.getElem?_eq_getElem hk] at h ⊢
  exact h



/-- The slots ds hold xs. -/
def withs (a : Act) : List Nat → List Value → Act
  | d :: ds, x :: xs => withs (a.put (some d) x) ds xs
  | _, _ => a
theorem put_same (a : Act) (d : Nat) : ∃ x, a.put (some d) x = a := by
  by_cases h : d < a.tmps.size
  · refine ⟨a.tmps[d], ?_⟩
    unfold Act.put
    simp only
    have : a.tmps.setIfInBounds d a.tmps[d] = a.tmps := by
      apply Array.ext
      · simp
      · intro i h1 h2
        rw [Array.getElem_setIfInBounds]
        split
        · rename_i e; subst e; rfl
        · rfl
    rw [this]
  · refine ⟨undef, ?_⟩
    unfold Act.put
    simp only
    have : a.tmps.setIfInBounds d undef = a.tmps := by
      apply Array.ext
      · simp
      · intro i h1 h2
        rw [Array.getElem_setIfInBounds, if_neg (by omega)]
    rw [this]
theorem withs_start (a : Act) : ∀ ds : List Nat, ∃ xs : List Value, xs.length = ds.length ∧ withs a ds xs = a
  | [] => ⟨[], rfl, rfl⟩
  | d :: ds => by
    obtain ⟨x, hx⟩ := put_same a d
    obtain ⟨xs, h1, h2⟩ := withs_start a ds
    exact ⟨x :: xs, by simp [h1], by simp only [withs, hx, h2]⟩

/-- The operations that come ahead of operation i. -/
def preds (ops : Array Oper) (i : Nat) : List Nat := ((ops[i]?).map fun o => (o.after.toList.filter (Region.binds .any)).map (·.on)).getD []
/-- .. each has a number below i. -/
def inOrder (ops : Array Oper) : Bool := (List.range ops.size).all fun i => (preds ops i).all fun k => decide (k < i)
theorem inOrder_spec {ops : Array Oper} (h : inOrder ops = true) {i k : Nat} (hi : i < ops.size) (hk : k ∈ preds ops i) : k < i := by
  unfold inOrder at h
  rw [List.all_eq_true] at h
  have := h i (List.mem_range.2 hi)
  rw [List.all_eq_true] at this
  exact of_decide_eq_true (this k hk)
theorem ready_preds {ops : Array Oper} {L : Array Bool} {i k : Nat} (h : i ∈ Region.ready .any ops L) (hk : k ∈ preds ops i) : L.getD k true = true := by
  obtain ⟨_, o, ho, hall⟩ := mem_ready.1 h
  unfold preds at hk
  rw [ho] at hk
  simp only [Option.map_some, Option.getD_some, List.mem_map, List.mem_filter] at hk
  obtain ⟨e, ⟨h1, h2⟩, rfl⟩ := hk
  exact getD_tf (hall e (by simpa using h1) h2)
theorem ready_all {ops : Array Oper} {L : Array Bool} (hs : L.size = ops.size) (ho : inOrder ops = true) (h : Region.ready .any ops L = []) : ∀ i, i < ops.size → L.getD i true = true := by
  intro i
  induction i using Nat.strongRecOn with
  | ind i ih =>
    intro hi
    refine ready_nil (md := .any) (ops := ops) h i hi ?_
    rw [Array.getElem?_eq_getElem hi]
    simp only [Option.map_some, Option.getD_some, Array.all_eq_true_iff_forall_mem, Bool.or_eq_true]
    intro e he
    cases hb : Region.binds .any e with
    | false => exact Or.inl rfl
    | true =>
      have hk : e.on ∈ preds ops i := by
        unfold preds
        rw [Array.getElem?_eq_getElem hi]
        simp only [Option.map_some, Option.getD_some, List.mem_map, List.mem_filter]
        exact ⟨e, ⟨by simpa using he, hb⟩, rfl⟩
      have hlt := inOrder_spec ho hi hk
      exact Or.inr (getD_ft (by omega) (ih _ hlt (by omega)))

/-- Which are done, one more. -/
def upd (f : Nat → Bool) (i : Nat) : Nat → Bool := fun k => Nat.beq i k || f k
theorem upd_set {L : Array Bool} {i : Nat} : (fun k => (L.setIfInBounds i true).getD k true) = upd (fun k => L.getD k true) i := by
  funext k
  rw [getD_set]
  unfold upd
  by_cases h : i = k
  · subst h; simp
  · rw [if_neg h]
    have : Nat.beq i k = false := by
      cases hb : Nat.beq i k with
      | false => rfl
      | true => exact absurd (Nat.eq_of_beq_eq_true hb) h
    rw [this]; rfl

section
variable {P : Program} {ops : Array Oper} {Q : Exit → Act → World → Prop}
theorem wpOp_run {i : Nat} {o : Oper} {K : Act → World → Prop} {a : Act} {w : World} (ho : ops[i]? = some o) (hg : o.guard = none) (h : ∀ K' : Act → World → Prop, (∀ a w, K a w → K' a w) → Oper.wp P o a w K' Q) : wpOp P ops Q i K a w :=
  wpOp_step ho (fun K' hK => by rw [if_pos (by simp [Region.wanted, hg])]; exact h K' hK)
theorem step_wp {o : Oper} {K : Act → World → Prop} {a : Act} {w : World} (hg : o.guard = none) (h : if Region.wanted o (yielded #[] a.tmps) = true then Oper.wp P o a w K Q else True) : Oper.wp P o a w K Q := by
  rw [if_pos (by simp [Region.wanted, hg])] at h; exact h
/-- J f xs w: what holds where f tells what is done, the region's slots ds hold xs, in the world w. -/
theorem wp_region_frame {id : Nat} {a : Act} {w : World} (ds : List Nat) (J : (Nat → Bool) → List Value → World → Prop) (hm : P.follows .mixedOrders = true) (ho : inOrder ops = true)
    (h0 : ∀ f xs, (∀ k, k < ops.size → f k = false) → xs.length = ds.length → withs a ds xs = a → J f xs w.drew)
    (hend : ∀ f xs w', (∀ i, i < ops.size → f i = true) → J f xs w' → Q .normal (withs a ds xs) w')
    (hstep : ∀ i, i < ops.size → ∀ f xs w', f i = false → (∀ k ∈ preds ops i, f k = true) → J f xs w' → wpOp P ops Q i (fun a' w'' => ∃ ys, a' = withs a ds ys ∧ J (upd f i) ys w'') (withs a ds xs) w') :
    (Code.region id ops true).wp P Q a w := by
  refine wp_region_inv hm (fun L a' w' => L.size = ops.size ∧ ∃ xs, a' = withs a ds xs ∧ J (fun k => L.getD k true) xs w') ?_ ?_ ?_
  · obtain ⟨xs, h1, h2⟩ := withs_start a ds
    refine ⟨by simp, xs, h2.symm, ?_⟩
    exact h0 _ xs (fun k hk => by simp [hk]) h1 h2
  · rintro L a' w' ⟨h1, xs, rfl, h2⟩ hr
    exact hend _ _ _ (ready_all h1 ho hr) h2
  · rintro L a' w' i ⟨h1, xs, rfl, h2⟩ hi
    have hm := mem_ready.1 hi
    have hlt : i < ops.size := by
      obtain ⟨_, o, ho, _⟩ := hm
      exact (Array.getElem?_eq_some_iff.1 ho).1
    refine wpOp_mono (fun a'' w'' h => ?_) (hstep i hlt _ xs w' hm.1 (fun k hk => ready_preds hi hk) h2)
    obtain ⟨ys, e, hj⟩ := h
    exact ⟨by simpa using h1, ys, e, by rw [upd_set]; exact hj⟩
end


structure FJ (wx : World) (X Y n1 n2 : Nat) (uo un : Value) (l1 l2 : List Value) (id nw : ByteArray) (f : Nat → Bool) (x49 x50 x51 x52 x53 x54 x55 x56 x57 x58 x59 x60 x61 x62 x1 x2 : Value) (W : World) : Prop where
  two : Two wx W (fun B u => Ch B u wx.heap.size n1 l1 (.string id) (f 0) (f 2) (f 5) (f 6) x49 x51 x54 x55) (fun B u => Ch B u wx.heap.size n2 l2 (.string nw) (f 7) (f 9) (f 12) (f 13) x56 x58 x61 x62)
  h50 : f 1 = true → x50 = uo
  h52 : f 3 = true → x52 = .pointer (some ⟨X, 1, none⟩)
  h53 : f 4 = true → x53 = .string id
  h57 : f 8 = true → x57 = un
  h59 : f 10 = true → x59 = .pointer (some ⟨Y, 1, none⟩)
  h60 : f 11 = true → x60 = .string nw
  h1 : f 14 = false → x1 = uo
  h2 : f 15 = false → x2 = un
  g1 : f 14 = true → x1 = x55
  g2 : f 15 = true → x2 = x62
  o1 : f 14 = true → f 6 = true
  o2 : f 15 = true → f 13 = true
  o3 : f 2 = true → f 1 = true
  o4 : f 9 = true → f 8 = true

theorem fft {b : Bool} {p : Prop} (h : b = false) (h' : b = true) : p := by rw [h] at h'; cases h'
theorem Ch.start0 {w : World} {base n : Nat} {xs : List Value} {x : Value} {fb fa fx fd : Bool} {vb va vx vd : Value} (h0 : fb = false) (h1 : fa = false) (h2 : fx = false) (h3 : fd = false) : Ch (fun _ => False) w base n xs x fb fa fx fd vb va vx vd := by
  subst h0 h1 h2 h3; exact Ch.start
section
variable {wx : World} {X Y n1 n2 : Nat} {uo un : Value} {l1 l2 : List Value} {id nw : ByteArray} {f : Nat → Bool} {x49 x50 x51 x52 x53 x54 x55 x56 x57 x58 x59 x60 x61 x62 x1 x2 : Value} {W : World}
theorem FJ.start (hf : ∀ k, k < 16 → f k = false) (hb : Below wx.heap.size wx W) (e1 : x1 = uo) (e2 : x2 = un) : FJ wx X Y n1 n2 uo un l1 l2 id nw f x49 x50 x51 x52 x53 x54 x55 x56 x57 x58 x59 x60 x61 x62 x1 x2 W where
  two := ⟨fun _ => False, fun _ => False, fun _ h => h.elim, fun _ h => h.elim, fun _ h => h.elim, Ch.start0 (hf 0 (by decide)) (hf 2 (by decide)) (hf 5 (by decide)) (hf 6 (by decide)), Ch.start0 (hf 7 (by decide)) (hf 9 (by decide)) (hf 12 (by decide)) (hf 13 (by decide)), hb⟩
  h50 h := fft (hf 1 (by decide)) h
  h52 h := fft (hf 3 (by decide)) h
  h53 h := fft (hf 4 (by decide)) h
  h57 h := fft (hf 8 (by decide)) h
  h59 h := fft (hf 10 (by decide)) h
  h60 h := fft (hf 11 (by decide)) h
  h1 _ := e1
  h2 _ := e2
  g1 h := fft (hf 14 (by decide)) h
  g2 h := fft (hf 15 (by decide)) h
  o1 h := fft (hf 14 (by decide)) h
  o2 h := fft (hf 15 (by decide)) h
  o3 h := fft (hf 2 (by decide)) h
  o4 h := fft (hf 9 (by decide)) h
theorem FJ.ch1 (h : FJ wx X Y n1 n2 uo un l1 l2 id nw f x49 x50 x51 x52 x53 x54 x55 x56 x57 x58 x59 x60 x61 x62 x1 x2 W) (h6 : f 6 = true) : f 2 = true := by
  obtain ⟨_, _, _, _, _, c, _, _⟩ := h.two
  exact (c.ho h6).1
theorem FJ.ch2 (h : FJ wx X Y n1 n2 uo un l1 l2 id nw f x49 x50 x51 x52 x53 x54 x55 x56 x57 x58 x59 x60 x61 x62 x1 x2 W) (h6 : f 13 = true) : f 9 = true := by
  obtain ⟨_, _, _, _, _, _, c, _⟩ := h.two
  exact (c.ho h6).1
theorem FJ.no14 (h : FJ wx X Y n1 n2 uo un l1 l2 id nw f x49 x50 x51 x52 x53 x54 x55 x56 x57 x58 x59 x60 x61 x62 x1 x2 W) (h6 : f 6 = false) : f 14 = false := by
  cases e : f 14 with
  | false => rfl
  | true => exact fft h6 (h.o1 e)
theorem FJ.no15 (h : FJ wx X Y n1 n2 uo un l1 l2 id nw f x49 x50 x51 x52 x53 x54 x55 x56 x57 x58 x59 x60 x61 x62 x1 x2 W) (h6 : f 13 = false) : f 15 = false := by
  cases e : f 15 with
  | false => rfl
  | true => exact fft h6 (h.o2 e)
theorem FJ.no6 (h : FJ wx X Y n1 n2 uo un l1 l2 id nw f x49 x50 x51 x52 x53 x54 x55 x56 x57 x58 x59 x60 x61 x62 x1 x2 W) (h6 : f 1 = false) : f 6 = false := by
  cases e : f 6 with
  | false => rfl
  | true => exact fft h6 (h.o3 (h.ch1 e))
theorem FJ.no13 (h : FJ wx X Y n1 n2 uo un l1 l2 id nw f x49 x50 x51 x52 x53 x54 x55 x56 x57 x58 x59 x60 x61 x62 x1 x2 W) (h6 : f 8 = false) : f 13 = false := by
  cases e : f 13 with
  | false => rfl
  | true => exact fft h6 (h.o4 (h.ch2 e))
theorem FJ.below (h : FJ wx X Y n1 n2 uo un l1 l2 id nw f x49 x50 x51 x52 x53 x54 x55 x56 x57 x58 x59 x60 x61 x62 x1 x2 W) : Below wx.heap.size wx W := h.two.below
theorem FJ.st0 (h : FJ wx X Y n1 n2 uo un l1 l2 id nw f x49 x50 x51 x52 x53 x54 x55 x56 x57 x58 x59 x60 x61 x62 x1 x2 W) : FJ wx X Y n1 n2 uo un l1 l2 id nw (upd f 0) (.slice (some ⟨W.heap.size, 0, none⟩) 0 0) x50 x51 x52 x53 x54 x55 x56 x57 x58 x59 x60 x61 x62 x1 x2 (W.alloc (.cells #[] 9)) := { h with two := Two.made Ch.keeps h.two }
theorem FJ.st7 (h : FJ wx X Y n1 n2 uo un l1 l2 id nw f x49 x50 x51 x52 x53 x54 x55 x56 x57 x58 x59 x60 x61 x62 x1 x2 W) : FJ wx X Y n1 n2 uo un l1 l2 id nw (upd f 7) x49 x50 x51 x52 x53 x54 x55 (.slice (some ⟨W.heap.size, 0, none⟩) 0 0) x57 x58 x59 x60 x61 x62 x1 x2 (W.alloc (.cells #[] 9)) := { h with two := (Two.made Ch.keeps h.two.swap).swap }
theorem FJ.st5 (h : FJ wx X Y n1 n2 uo un l1 l2 id nw f x49 x50 x51 x52 x53 x54 x55 x56 x57 x58 x59 x60 x61 x62 x1 x2 W) : FJ wx X Y n1 n2 uo un l1 l2 id nw (upd f 5) x49 x50 x51 x52 x53 (.slice (some ⟨W.heap.size, 0, none⟩) 1 1) x55 x56 x57 x58 x59 x60 x61 x62 x1 x2 (W.alloc (.cells #[.string id] 9)) := { h with two := Two.laid Ch.keeps h.two }
theorem FJ.st12 (h : FJ wx X Y n1 n2 uo un l1 l2 id nw f x49 x50 x51 x52 x53 x54 x55 x56 x57 x58 x59 x60 x61 x62 x1 x2 W) : FJ wx X Y n1 n2 uo un l1 l2 id nw (upd f 12) x49 x50 x51 x52 x53 x54 x55 x56 x57 x58 x59 x60 (.slice (some ⟨W.heap.size, 0, none⟩) 1 1) x62 x1 x2 (W.alloc (.cells #[.string nw] 9)) := { h with two := (Two.laid Ch.keeps h.two.swap).swap }
theorem FJ.st1 (h : FJ wx X Y n1 n2 uo un l1 l2 id nw f x49 x50 x51 x52 x53 x54 x55 x56 x57 x58 x59 x60 x61 x62 x1 x2 W) (hn : f 1 = false) : x1 = uo ∧ FJ wx X Y n1 n2 uo un l1 l2 id nw (upd f 1) x49 uo x51 x52 x53 x54 x55 x56 x57 x58 x59 x60 x61 x62 x1 x2 W :=
  ⟨h.h1 (h.no14 (h.no6 hn)), { h with h50 := fun _ => rfl, o3 := fun _ => rfl }⟩
theorem FJ.st8 (h : FJ wx X Y n1 n2 uo un l1 l2 id nw f x49 x50 x51 x52 x53 x54 x55 x56 x57 x58 x59 x60 x61 x62 x1 x2 W) (hn : f 8 = false) : x2 = un ∧ FJ wx X Y n1 n2 uo un l1 l2 id nw (upd f 8) x49 x50 x51 x52 x53 x54 x55 x56 un x58 x59 x60 x61 x62 x1 x2 W :=
  ⟨h.h2 (h.no15 (h.no13 hn)), { h with h57 := fun _ => rfl, o4 := fun _ => rfl }⟩
theorem FJ.st3 (h : FJ wx X Y n1 n2 uo un l1 l2 id nw f x49 x50 x51 x52 x53 x54 x55 x56 x57 x58 x59 x60 x61 x62 x1 x2 W) : FJ wx X Y n1 n2 uo un l1 l2 id nw (upd f 3) x49 x50 x51 (.pointer (some ⟨X, 1, none⟩)) x53 x54 x55 x56 x57 x58 x59 x60 x61 x62 x1 x2 W := { h with h52 := fun _ => rfl }
theorem FJ.st4 (h : FJ wx X Y n1 n2 uo un l1 l2 id nw f x49 x50 x51 x52 x53 x54 x55 x56 x57 x58 x59 x60 x61 x62 x1 x2 W) : FJ wx X Y n1 n2 uo un l1 l2 id nw (upd f 4) x49 x50 x51 x52 (.string id) x54 x55 x56 x57 x58 x59 x60 x61 x62 x1 x2 W := { h with h53 := fun _ => rfl }
theorem FJ.st10 (h : FJ wx X Y n1 n2 uo un l1 l2 id nw f x49 x50 x51 x52 x53 x54 x55 x56 x57 x58 x59 x60 x61 x62 x1 x2 W) : FJ wx X Y n1 n2 uo un l1 l2 id nw (upd f 10) x49 x50 x51 x52 x53 x54 x55 x56 x57 x58 (.pointer (some ⟨Y, 1, none⟩)) x60 x61 x62 x1 x2 W := { h with h59 := fun _ => rfl }
theorem FJ.st11 (h : FJ wx X Y n1 n2 uo un l1 l2 id nw f x49 x50 x51 x52 x53 x54 x55 x56 x57 x58 x59 x60 x61 x62 x1 x2 W) : FJ wx X Y n1 n2 uo un l1 l2 id nw (upd f 11) x49 x50 x51 x52 x53 x54 x55 x56 x57 x58 x59 (.string nw) x61 x62 x1 x2 W := { h with h60 := fun _ => rfl }
theorem FJ.st14 (h : FJ wx X Y n1 n2 uo un l1 l2 id nw f x49 x50 x51 x52 x53 x54 x55 x56 x57 x58 x59 x60 x61 x62 x1 x2 W) (h6 : f 6 = true) : FJ wx X Y n1 n2 uo un l1 l2 id nw (upd f 14) x49 x50 x51 x52 x53 x54 x55 x56 x57 x58 x59 x60 x61 x62 x55 x2 W := { h with h1 := fun e => (by cases e), g1 := fun _ => rfl, o1 := fun _ => h6 }
theorem FJ.st15 (h : FJ wx X Y n1 n2 uo un l1 l2 id nw f x49 x50 x51 x52 x53 x54 x55 x56 x57 x58 x59 x60 x61 x62 x1 x2 W) (h6 : f 13 = true) : FJ wx X Y n1 n2 uo un l1 l2 id nw (upd f 15) x49 x50 x51 x52 x53 x54 x55 x56 x57 x58 x59 x60 x61 x62 x1 x62 W := { h with h2 := fun e => (by cases e), g2 := fun _ => rfl, o2 := fun _ => h6 }
theorem FJ.st2 (h : FJ wx X Y n1 n2 uo un l1 l2 id nw f x49 x50 x51 x52 x53 x54 x55 x56 x57 x58 x59 x60 x61 x62 x1 x2 W) (h0 : f 0 = true) (h1 : f 1 = true) (h2 : f 2 = false) :
    ∃ g, x49 = .slice (some ⟨g, 0, none⟩) 0 0 ∧ x50 = uo ∧ W.ownsRow wx.heap.size 9 1 (.slice (some ⟨g, 0, none⟩) 0 0) 0 [] ∧ ∀ A c W', W'.ownsRow wx.heap.size 9 1 (.slice A n1 c) n1 ([] ++ l1) → W.grownBy W' (Value.slice (some ⟨g, 0, none⟩) 0 0).ownBlock →
      ((Value.slice A n1 c).ownBlock = (Value.slice (some ⟨g, 0, none⟩) 0 0).ownBlock ∨ (Value.slice A n1 c).ownBlock = some W.heap.size) → FJ wx X Y n1 n2 uo un l1 l2 id nw (upd f 2) x49 x50 (.slice A n1 c) x52 x53 x54 x55 x56 x57 x58 x59 x60 x61 x62 x1 x2 W' := by
  have t := h.two
  rw [h0, h2] at t
  obtain ⟨g, e, ho, hk⟩ := Two.copied Ch.keeps t
  refine ⟨g, e, h.h50 h1, ho, fun A c W' a b d => { h with two := ?_, o3 := fun _ => h1 }⟩
  have := hk A c W' a b d
  have t' : Two wx W' (fun B u => Ch B u wx.heap.size n1 l1 (.string id) (f 0) true (f 5) (f 6) x49 (.slice A n1 c) x54 x55) (fun B u => Ch B u wx.heap.size n2 l2 (.string nw) (f 7) (f 9) (f 12) (f 13) x56 x58 x61 x62) := by rw [h0]; exact this
  exact t'
theorem FJ.st9 (h : FJ wx X Y n1 n2 uo un l1 l2 id nw f x49 x50 x51 x52 x53 x54 x55 x56 x57 x58 x59 x60 x61 x62 x1 x2 W) (h0 : f 7 = true) (h1 : f 8 = true) (h2 : f 9 = false) :
    ∃ g, x56 = .slice (some ⟨g, 0, none⟩) 0 0 ∧ x57 = un ∧ W.ownsRow wx.heap.size 9 1 (.slice (some ⟨g, 0, none⟩) 0 0) 0 [] ∧ ∀ A c W', W'.ownsRow wx.heap.size 9 1 (.slice A n2 c) n2 ([] ++ l2) → W.grownBy W' (Value.slice (some ⟨g, 0, none⟩) 0 0).ownBlock →
      ((Value.slice A n2 c).ownBlock = (Value.slice (some ⟨g, 0, none⟩) 0 0).ownBlock ∨ (Value.slice A n2 c).ownBlock = some W.heap.size) → FJ wx X Y n1 n2 uo un l1 l2 id nw (upd f 9) x49 x50 x51 x52 x53 x54 x55 x56 x57 (.slice A n2 c) x59 x60 x61 x62 x1 x2 W' := by
  have t := h.two.swap
  rw [h0, h2] at t
  obtain ⟨g, e, ho, hk⟩ := Two.copied Ch.keeps t
  refine ⟨g, e, h.h57 h1, ho, fun A c W' a b d => { h with two := ?_, o4 := fun _ => h1 }⟩
  have := (hk A c W' a b d).swap
  have t' : Two wx W' (fun B u => Ch B u wx.heap.size n1 l1 (.string id) (f 0) (f 2) (f 5) (f 6) x49 x51 x54 x55) (fun B u => Ch B u wx.heap.size n2 l2 (.string nw) (f 7) true (f 12) (f 13) x56 (.slice A n2 c) x61 x62) := by rw [h0]; exact this
  exact t'
theorem FJ.st6 (h : FJ wx X Y n1 n2 uo un l1 l2 id nw f x49 x50 x51 x52 x53 x54 x55 x56 x57 x58 x59 x60 x61 x62 x1 x2 W) (h0 : f 2 = true) (h1 : f 5 = true) (h2 : f 6 = false) :
    ∃ A c g, x51 = .slice A n1 c ∧ W.ownsRow wx.heap.size 9 1 (.slice A n1 c) n1 ([] ++ l1) ∧ x54 = .slice (some ⟨g, 0, none⟩) 1 1 ∧ W.heap[g]? = some (.cells #[.string id] 9 (0, 0)) ∧ ∀ A' c' W', W'.ownsRow wx.heap.size 9 1 (.slice A' (n1 + 1) c') (n1 + 1) (([] ++ l1) ++ [.string id]) → W.grownBy W' (Value.slice A n1 c).ownBlock →
      ((Value.slice A' (n1 + 1) c').ownBlock = (Value.slice A n1 c).ownBlock ∨ (Value.slice A' (n1 + 1) c').ownBlock = some W.heap.size) → FJ wx X Y n1 n2 uo un l1 l2 id nw (upd f 6) x49 x50 x51 x52 x53 x54 (.slice A' (n1 + 1) c') x56 x57 x58 x59 x60 x61 x62 x1 x2 W' := by
  have t := h.two
  rw [h0, h1, h2] at t
  obtain ⟨A, c, g, e, ho, e2, hh, hk⟩ := Two.done Ch.keeps t
  have h14 := h.no14 h2
  refine ⟨A, c, g, e, ho, e2, hh, fun A' c' W' a b d => { h with two := ?_, g1 := fun e => fft h14 e, o1 := fun _ => rfl }⟩
  have := hk A' c' W' a b d
  have t' : Two wx W' (fun B u => Ch B u wx.heap.size n1 l1 (.string id) (f 0) (f 2) (f 5) true x49 x51 x54 (.slice A' (n1 + 1) c')) (fun B u => Ch B u wx.heap.size n2 l2 (.string nw) (f 7) (f 9) (f 12) (f 13) x56 x58 x61 x62) := by rw [h0, h1]; exact this
  exact t'
theorem FJ.st13 (h : FJ wx X Y n1 n2 uo un l1 l2 id nw f x49 x50 x51 x52 x53 x54 x55 x56 x57 x58 x59 x60 x61 x62 x1 x2 W) (h0 : f 9 = true) (h1 : f 12 = true) (h2 : f 13 = false) :
    ∃ A c g, x58 = .slice A n2 c ∧ W.ownsRow wx.heap.size 9 1 (.slice A n2 c) n2 ([] ++ l2) ∧ x61 = .slice (some ⟨g, 0, none⟩) 1 1 ∧ W.heap[g]? = some (.cells #[.string nw] 9 (0, 0)) ∧ ∀ A' c' W', W'.ownsRow wx.heap.size 9 1 (.slice A' (n2 + 1) c') (n2 + 1) (([] ++ l2) ++ [.string nw]) → W.grownBy W' (Value.slice A n2 c).ownBlock →
      ((Value.slice A' (n2 + 1) c').ownBlock = (Value.slice A n2 c).ownBlock ∨ (Value.slice A' (n2 + 1) c').ownBlock = some W.heap.size) → FJ wx X Y n1 n2 uo un l1 l2 id nw (upd f 13) x49 x50 x51 x52 x53 x54 x55 x56 x57 x58 x59 x60 x61 (.slice A' (n2 + 1) c') x1 x2 W' := by
  have t := h.two.swap
  rw [h0, h1, h2] at t
  obtain ⟨A, c, g, e, ho, e2, hh, hk⟩ := Two.done Ch.keeps t
  have h14 := h.no15 h2
  refine ⟨A, c, g, e, ho, e2, hh, fun A' c' W' a b d => { h with two := ?_, g2 := fun e => fft h14 e, o2 := fun _ => rfl }⟩
  have := (hk A' c' W' a b d).swap
  have t' : Two wx W' (fun B u => Ch B u wx.heap.size n1 l1 (.string id) (f 0) (f 2) (f 5) (f 6) x49 x51 x54 x55) (fun B u => Ch B u wx.heap.size n2 l2 (.string nw) (f 7) (f 9) (f 12) true x56 x58 x61 (.slice A' (n2 + 1) c')) := by rw [h0, h1]; exact this
  exact t'
/-- What the region leaves. -/
theorem FJ.fin (h : FJ wx X Y n1 n2 uo un l1 l2 id nw f x49 x50 x51 x52 x53 x54 x55 x56 x57 x58 x59 x60 x61 x62 x1 x2 W) (hf : ∀ k, k < 16 → f k = true) : ∃ A c A' c', x1 = .slice A (n1 + 1) c ∧ x2 = .slice A' (n2 + 1) c' ∧ W.ownsRow wx.heap.size 9 1 (.slice A (n1 + 1) c) (n1 + 1) (([] ++ l1) ++ [.string id]) ∧
    W.ownsRow wx.heap.size 9 1 (.slice A' (n2 + 1) c') (n2 + 1) (([] ++ l2) ++ [.string nw]) ∧ Below wx.heap.size wx W := by
  obtain ⟨_, _, _, _, _, c1, c2, hb⟩ := h.two
  obtain ⟨A, c, e1, o1, _⟩ := c1.hd (hf 6 (by decide))
  obtain ⟨A', c', e2, o2, _⟩ := c2.hd (hf 13 (by decide))
  exact ⟨A, c, A', c', (h.g1 (hf 14 (by decide))).trans e1, (h.g2 (hf 15 (by decide))).trans e2, o1, o2, hb⟩
end
/-- .. the slots left open. -/
def FJx (wx : World) (X Y n1 n2 : Nat) (uo un : Value) (l1 l2 : List Value) (id nw : ByteArray) (f : Nat → Bool) (ys : List Value) (W : World) : Prop :=
  ∃ x49 x50 x51 x52 x53 x54 x55 x56 x57 x58 x59 x60 x61 x62 x1 x2 : Value, ys = [x49, x50, x51, x52, x53, x54, x55, x56, x57, x58, x59, x60, x61, x62, x1, x2] ∧ FJ wx X Y n1 n2 uo un l1 l2 id nw f x49 x50 x51 x52 x53 x54 x55 x56 x57 x58 x59 x60 x61 x62 x1 x2 W
theorem FJ.mk_ {wx : World} {X Y n1 n2 : Nat} {uo un : Value} {l1 l2 : List Value} {id nw : ByteArray} {f : Nat → Bool} {x49 x50 x51 x52 x53 x54 x55 x56 x57 x58 x59 x60 x61 x62 x1 x2 : Value} {W : World} (h : FJ wx X Y n1 n2 uo un l1 l2 id nw f x49 x50 x51 x52 x53 x54 x55 x56 x57 x58 x59 x60 x61 x62 x1 x2 W) : FJx wx X Y n1 n2 uo un l1 l2 id nw f [x49, x50, x51, x52, x53, x54, x55, x56, x57, x58, x59, x60, x61, x62, x1, x2] W := ⟨_, _, _, _, _, _, _, _, _, _, _, _, _, _, _, _, rfl, h⟩
theorem len16 {xs : List Value} (h : xs.length = 16) : ∃ x49 x50 x51 x52 x53 x54 x55 x56 x57 x58 x59 x60 x61 x62 x1 x2 : Value, xs = [x49, x50, x51, x52, x53, x54, x55, x56, x57, x58, x59, x60, x61, x62, x1, x2] := by
  match xs, h with
  | [x49, x50, x51, x52, x53, x54, x55, x56, x57, x58, x59, x60, x61, x62, x1, x2], _ => exact ⟨x49, x50, x51, x52, x53, x54, x55, x56, x57, x58, x59, x60, x61, x62, x1, x2, rfl⟩



end Go.Proofs.YtdofemkfmkopcaaDoor
