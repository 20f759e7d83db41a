/-
  A region that draws its order, by an invariant on its own slots, the set of operations done and memory. Nothing here names the program.
-/
import Derived.Test.YthflahcnkhmpaabDoorInv
namespace Go.Proofs.YthflahcnkhmpaabDoor
open Go Go.RowKit
set_option linter.unusedSimpArgs false
set_option linter.unusedVariables false

/-- The slots ds hold xs. -/
def withs (a : Act) : List Nat → List Value → Act
  | d :: ds, x :: xs => withs (a.put (some d) x) ds xs
  | _, _ => a
theorem put_same (a : Act) (d : Nat) : ∃ x, a.put (some d) x = a := by
  by_cases h : d < a.tmps.size
  · refine ⟨a.tmps[d], ?_⟩
    unfold Act.put
    simp only
    have : a.tmps.setIfInBounds d a.tmps[d] = a.tmps := by
      apply Array.ext
      · simp
      · intro i h1 h2
        rw [Array.getElem_setIfInBounds]
        split
        · rename_i e; subst e; rfl
        · rfl
    rw [this]
  · refine ⟨undef, ?_⟩
    unfold Act.put
    simp only
    have : a.tmps.setIfInBounds d undef = a.tmps := by
      apply Array.ext
      · simp
      · intro i h1 h2
        rw [Array.getElem_setIfInBounds, if_neg (by omega)]
    rw [this]
theorem withs_start (a : Act) : ∀ ds : List Nat, ∃ xs : List Value, xs.length = ds.length ∧ withs a ds xs = a
  | [] => ⟨[], rfl, rfl⟩
  | d :: ds => by
    obtain ⟨x, hx⟩ := put_same a d
    obtain ⟨xs, h1, h2⟩ := withs_start a ds
    exact ⟨x :: xs, by simp [h1], by simp only [withs, hx, h2]⟩

/-- The operations that come ahead of operation i. -/
def preds (ops : Array Oper) (i : Nat) : List Nat := ((ops[i]?).map fun o => (o.after.toList.filter (Region.binds .any)).map (·.on)).getD []
/-- .. each has a number below i. -/
def inOrder (ops : Array Oper) : Bool := (List.range ops.size).all fun i => (preds ops i).all fun k => decide (k < i)
theorem inOrder_spec {ops : Array Oper} (h : inOrder ops = true) {i k : Nat} (hi : i < ops.size) (hk : k ∈ preds ops i) : k < i := by
  unfold inOrder at h
  rw [List.all_eq_true] at h
  have := h i (List.mem_range.2 hi)
  rw [List.all_eq_true] at this
  exact of_decide_eq_true (this k hk)
theorem ready_preds {ops : Array Oper} {L : Array Bool} {i k : Nat} (h : i ∈ Region.ready .any ops L) (hk : k ∈ preds ops i) : L.getD k true = true := by
  obtain ⟨_, o, ho, hall⟩ := mem_ready.1 h
  unfold preds at hk
  rw [ho] at hk
  simp only [Option.map_some, Option.getD_some, List.mem_map, List.mem_filter] at hk
  obtain ⟨e, ⟨h1, h2⟩, rfl⟩ := hk
  exact getD_tf (hall e (by simpa using h1) h2)
theorem ready_all {ops : Array Oper} {L : Array Bool} (hs : L.size = ops.size) (ho : inOrder ops = true) (h : Region.ready .any ops L = []) : ∀ i, i < ops.size → L.getD i true = true := by
  intro i
  induction i using Nat.strongRecOn with
  | ind i ih =>
    intro hi
    refine ready_nil (md := .any) (ops := ops) h i hi ?_
    rw [Array.getElem?_eq_getElem hi]
    simp only [Option.map_some, Option.getD_some, Array.all_eq_true_iff_forall_mem, Bool.or_eq_true]
    intro e he
    cases hb : Region.binds .any e with
    | false => exact Or.inl rfl
    | true =>
      have hk : e.on ∈ preds ops i := by
        unfold preds
        rw [Array.getElem?_eq_getElem hi]
        simp only [Option.map_some, Option.getD_some, List.mem_map, List.mem_filter]
        exact ⟨e, ⟨by simpa using he, hb⟩, rfl⟩
      have hlt := inOrder_spec ho hi hk
      exact Or.inr (getD_ft (by omega) (ih _ hlt (by omega)))

/-- Which are done, one more. -/
def upd (f : Nat → Bool) (i : Nat) : Nat → Bool := fun k => Nat.beq i k || f k
theorem upd_set {L : Array Bool} {i : Nat} : (fun k => (L.setIfInBounds i true).getD k true) = upd (fun k => L.getD k true) i := by
  funext k
  rw [getD_set]
  unfold upd
  by_cases h : i = k
  · subst h; simp
  · rw [if_neg h]
    have : Nat.beq i k = false := by
      cases hb : Nat.beq i k with
      | false => rfl
      | true => exact absurd (Nat.eq_of_beq_eq_true hb) h
    rw [this]; rfl

section
variable {P : Program} {ops : Array Oper} {Q : Exit → Act → World → Prop}
theorem wpOp_run {i : Nat} {o : Oper} {K : Act → World → Prop} {a : Act} {w : World} (ho : ops[i]? = some o) (hg : o.guard = none) (h : ∀ K' : Act → World → Prop, (∀ a w, K a w → K' a w) → Oper.wp P o a w K' Q) : wpOp P ops Q i K a w :=
  wpOp_step ho (fun K' hK => by rw [if_pos (by simp [Region.wanted, hg])]; exact h K' hK)
theorem step_wp {o : Oper} {K : Act → World → Prop} {a : Act} {w : World} (hg : o.guard = none) (h : if Region.wanted o (yielded #[] a.tmps) = true then Oper.wp P o a w K Q else True) : Oper.wp P o a w K Q := by
  rw [if_pos (by simp [Region.wanted, hg])] at h; exact h
/-- J f xs w: what holds where f tells what is done, the region's slots ds hold xs, in the world w. -/
theorem wp_region_frame {id : Nat} {a : Act} {w : World} (ds : List Nat) (J : (Nat → Bool) → List Value → World → Prop) (hm : P.follows .mixedOrders = true) (ho : inOrder ops = true)
    (h0 : ∀ f xs, (∀ k, k < ops.size → f k = false) → xs.length = ds.length → withs a ds xs = a → J f xs w.drew)
    (hend : ∀ f xs w', (∀ i, i < ops.size → f i = true) → J f xs w' → Q .normal (withs a ds xs) w')
    (hstep : ∀ i, i < ops.size → ∀ f xs w', f i = false → (∀ k ∈ preds ops i, f k = true) → J f xs w' → wpOp P ops Q i (fun a' w'' => ∃ ys, a' = withs a ds ys ∧ J (upd f i) ys w'') (withs a ds xs) w') :
    (Code.region id ops true).wp P Q a w := by
  refine wp_region_inv hm (fun L a' w' => L.size = ops.size ∧ ∃ xs, a' = withs a ds xs ∧ J (fun k => L.getD k true) xs w') ?_ ?_ ?_
  · obtain ⟨xs, h1, h2⟩ := withs_start a ds
    refine ⟨by simp, xs, h2.symm, ?_⟩
    exact h0 _ xs (fun k hk => by simp [hk]) h1 h2
  · rintro L a' w' ⟨h1, xs, rfl, h2⟩ hr
    exact hend _ _ _ (ready_all h1 ho hr) h2
  · rintro L a' w' i ⟨h1, xs, rfl, h2⟩ hi
    have hm := mem_ready.1 hi
    have hlt : i < ops.size := by
      obtain ⟨_, o, ho, _⟩ := hm
      exact (Array.getElem?_eq_some_iff.1 ho).1
    refine wpOp_mono (fun a'' w'' h => ?_) (hstep i hlt _ xs w' hm.1 (fun k hk => ready_preds hi hk) h2)
    obtain ⟨ys, e, hj⟩ := h
    exact ⟨by simpa using h1, ys, e, by rw [upd_set]; exact hj⟩
end

end Go.Proofs.YthflahcnkhmpaabDoor
