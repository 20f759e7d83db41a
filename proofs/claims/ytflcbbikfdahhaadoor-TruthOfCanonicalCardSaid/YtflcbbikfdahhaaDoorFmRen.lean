/-
  Formulas with other names: words by a list of pairs (the last one counts), quantifiers in preorder by a list of names; what the program's and the reference's ways to the canonical form have in common. Nothing here names the program.
-/
import Derived.Test.YtflcbbikfdahhaaDoorFmCon
namespace Go.Proofs.YtflcbbikfdahhaaDoor
open Go Go.RowKit
set_option linter.unusedSimpArgs false
set_option linter.unusedVariables false

abbrev Env := List (ByteArray × ByteArray)
/-- What stands for a word: the last pair that has it counts. -/
def lookE (env : Env) (w : ByteArray) : ByteArray := env.foldl (fun r p => if p.1 = w then p.2 else r) w
def isQ (k : Int) : Prop := k = 8 ∨ k = 9
instance (k : Int) : Decidable (isQ k) := by unfold isQ; infer_instance
mutual
/-- A formula with its words replaced; its quantifiers are named nm k, nm (k+1) .. in preorder; the count behind it. -/
def renF (nm : Nat → ByteArray) : Env → Tree FmL → Nat → Tree FmL × Nat
  | env, .mk a l, k =>
    if isQ a.kind then (.mk ⟨a.kind, nm k, a.ws.map (lookE env)⟩ (renFs nm (env ++ [(a.nm, nm k)]) l (k + 1)).1, (renFs nm (env ++ [(a.nm, nm k)]) l (k + 1)).2)
    else (.mk ⟨a.kind, a.nm, a.ws.map (lookE env)⟩ (renFs nm env l k).1, (renFs nm env l k).2)
def renFs (nm : Nat → ByteArray) : Env → List (Tree FmL) → Nat → List (Tree FmL) × Nat
  | _, [], k => ([], k)
  | env, t :: l, k => ((renF nm env t k).1 :: (renFs nm env l (renF nm env t k).2).1, (renFs nm env l (renF nm env t k).2).2)
end
mutual
/-- How many quantifiers. -/
def quN : Tree FmL → Nat
  | .mk a l => (if isQ a.kind then 1 else 0) + quNs l
def quNs : List (Tree FmL) → Nat
  | [] => 0
  | t :: l => quN t + quNs l
end
mutual
theorem renF_count (nm : Nat → ByteArray) : ∀ (t : Tree FmL) (env : Env) (k : Nat), (renF nm env t k).2 = k + quN t
  | .mk a l, env, k => by
    unfold renF quN
    split
    · simp only; rw [renFs_count nm l]; omega
    · simp only; rw [renFs_count nm l]; omega
theorem renFs_count (nm : Nat → ByteArray) : ∀ (l : List (Tree FmL)) (env : Env) (k : Nat), (renFs nm env l k).2 = k + quNs l
  | [], _, _ => by simp [renFs, quNs]
  | t :: l, env, k => by
    unfold renFs quNs
    simp only
    rw [renFs_count nm l, renF_count nm t]
    omega
end
mutual
/-- A formula with its words, and the names of its quantifiers, replaced. -/
def swF (f : ByteArray → ByteArray) : Tree FmL → Tree FmL
  | .mk a l => .mk ⟨a.kind, if isQ a.kind then f a.nm else a.nm, a.ws.map f⟩ (swFs f l)
def swFs (f : ByteArray → ByteArray) : List (Tree FmL) → List (Tree FmL)
  | [] => []
  | t :: l => swF f t :: swFs f l
end
mutual
/-- All words. -/
def allW : Tree FmL → List ByteArray
  | .mk a l => a.ws ++ allWs l
def allWs : List (Tree FmL) → List ByteArray
  | [] => []
  | t :: l => allW t ++ allWs l
end
theorem look_map (f : ByteArray → ByteArray) (w : ByteArray) : ∀ (env : Env) (r : ByteArray), (env.map (fun p => (p.1, f p.2))).foldl (fun r p => if p.1 = w then p.2 else r) (f r) = f (env.foldl (fun r p => if p.1 = w then p.2 else r) r)
  | [], _ => rfl
  | p :: env, r => by
    simp only [List.map_cons, List.foldl_cons]
    have h : (if p.1 = w then f p.2 else f r) = f (if p.1 = w then p.2 else r) := by split <;> rfl
    rw [h]
    exact look_map f w env _
theorem lookE_map (f : ByteArray → ByteArray) {w : ByteArray} (h : f w = w) (env : Env) : lookE (env.map (fun p => (p.1, f p.2))) w = f (lookE env w) := by
  unfold lookE
  have := look_map f w env w
  rwa [h] at this
mutual
/-- The names of the quantifiers replaced afterwards: as if they had been given at once. -/
theorem renF_sw (f : ByteArray → ByteArray) (n1 n2 : Nat → ByteArray) : ∀ (t : Tree FmL) (env : Env) (k : Nat), (∀ w ∈ allW t, f w = w) → (∀ j, k ≤ j → j < k + quN t → f (n1 j) = n2 j) → swF f (renF n1 env t k).1 = (renF n2 (env.map (fun p => (p.1, f p.2))) t k).1
  | .mk a l, env, k, hw, hn => by
    have hws : (a.ws.map (lookE env)).map f = a.ws.map (lookE (env.map (fun p => (p.1, f p.2)))) := by
      rw [List.map_map]
      exact List.map_congr_left (fun w hm => (lookE_map f (hw w (by simp [allW, hm])) env).symm)
    have hwl : ∀ w ∈ allWs l, f w = w := fun w hm => hw w (by simp [allW, hm])
    by_cases hq : isQ a.kind
    · have hk : f (n1 k) = n2 k := hn k (Nat.le_refl _) (by simp only [quN]; rw [if_pos hq]; omega)
      have ih := renFs_sw f n1 n2 l (env ++ [(a.nm, n1 k)]) (k + 1) hwl (fun j h1 h2 => hn j (by omega) (by simp only [quN]; rw [if_pos hq]; omega))
      rw [List.map_append, List.map_cons, List.map_nil, hk] at ih
      unfold renF
      rw [if_pos hq, if_pos hq]
      simp only [swF]
      rw [if_pos hq, hk, hws, ih]
    · have ih := renFs_sw f n1 n2 l env k hwl (fun j h1 h2 => hn j h1 (by simp only [quN]; rw [if_neg hq]; omega))
      unfold renF
      rw [if_neg hq, if_neg hq]
      simp only [swF]
      rw [if_neg hq, hws, ih]
theorem renFs_sw (f : ByteArray → ByteArray) (n1 n2 : Nat → ByteArray) : ∀ (l : List (Tree FmL)) (env : Env) (k : Nat), (∀ w ∈ allWs l, f w = w) → (∀ j, k ≤ j → j < k + quNs l → f (n1 j) = n2 j) → swFs f (renFs n1 env l k).1 = (renFs n2 (env.map (fun p => (p.1, f p.2))) l k).1
  | [], _, _, _, _ => by simp [renFs, swFs]
  | t :: l, env, k, hw, hn => by
    have h1 := renF_sw f n1 n2 t env k (fun w hm => hw w (by simp [allWs, hm])) (fun j a b => hn j a (by simp only [quNs]; omega))
    have h2 := renFs_sw f n1 n2 l env (k + quN t) (fun w hm => hw w (by simp [allWs, hm])) (fun j a b => hn j (by omega) (by simp only [quNs]; omega))
    unfold renFs
    simp only [swFs]
    rw [h1, renF_count, renF_count, h2]
end
theorem look_app (e0 e : Env) (w : ByteArray) : lookE (e0 ++ e) w = e.foldl (fun r p => if p.1 = w then p.2 else r) (lookE e0 w) := by
  unfold lookE; rw [List.foldl_append]
theorem look_free (w : ByteArray) : ∀ (e : Env) (r : ByteArray), w ∉ e.map (·.1) → e.foldl (fun r p => if p.1 = w then p.2 else r) r = r
  | [], _, _ => rfl
  | p :: e, r, h => by
    simp only [List.map_cons, List.mem_cons, not_or] at h
    rw [List.foldl_cons, if_neg (fun e => h.1 e.symm)]
    exact look_free w e r h.2
theorem look_bound (w : ByteArray) : ∀ (e : Env) (r : ByteArray), w ∈ e.map (·.1) → e.foldl (fun r p => if p.1 = w then p.2 else r) r ∈ e.map (·.2)
  | [], _, h => by simp at h
  | p :: e, r, h => by
    rw [List.foldl_cons]
    by_cases hm : w ∈ e.map (·.1)
    · exact List.mem_cons_of_mem _ (look_bound w e _ hm)
    · simp only [List.map_cons, List.mem_cons] at h
      rcases h with h | h
      · rw [look_free w e _ hm, if_pos h.symm]
        simp
      · exact absurd h hm
mutual
/-- The free words of a renamed formula: those of the formula, replaced. -/
theorem frees_ren (nm : Nat → ByteArray) (e0 : Env) : ∀ (t : Tree FmL) (e : Env) (k : Nat), (∀ w ∈ allW t, lookE e0 w ∉ e.map (·.2) ∧ ∀ j, lookE e0 w ≠ nm j) → fmFrees (e.map (·.2)) (renF nm (e0 ++ e) t k).1 = (fmFrees (e.map (·.1)) t).map (lookE e0)
  | .mk a l, e, k, hw => by
    have hws : (a.ws.map (lookE (e0 ++ e))).filter (fun w => !hasB (e.map (·.2)) w) = (a.ws.filter (fun w => !hasB (e.map (·.1)) w)).map (lookE e0) := by
      have : ∀ ws : List ByteArray, (∀ w ∈ ws, lookE e0 w ∉ e.map (·.2)) → (ws.map (lookE (e0 ++ e))).filter (fun w => !hasB (e.map (·.2)) w) = (ws.filter (fun w => !hasB (e.map (·.1)) w)).map (lookE e0) := by
        intro ws
        induction ws with
        | nil => intro _; rfl
        | cons w ws ih =>
          intro h
          have ih := ih (fun x hx => h x (List.mem_cons_of_mem _ hx))
          rw [List.map_cons]
          by_cases hm : w ∈ e.map (·.1)
          · have h1 : hasB (e.map (·.2)) (lookE (e0 ++ e) w) = true := hasB_iff.2 (by rw [look_app]; exact look_bound w e _ hm)
            rw [List.filter_cons_of_neg (by rw [h1]; decide), List.filter_cons_of_neg (by rw [hasB_iff.2 hm]; decide), ih]
          · have h0 : lookE (e0 ++ e) w = lookE e0 w := by rw [look_app]; exact look_free w e _ hm
            have h1 : hasB (e.map (·.2)) (lookE e0 w) = false := by
              rw [Bool.eq_false_iff]
              exact fun hx => h w (List.mem_cons_self ..) (hasB_iff.1 hx)
            have h2 : hasB (e.map (·.1)) w = false := by
              rw [Bool.eq_false_iff]
              exact fun hx => hm (hasB_iff.1 hx)
            rw [h0, List.filter_cons_of_pos (by rw [h1]; rfl), List.filter_cons_of_pos (by rw [h2]; rfl), List.map_cons, ih]
      exact this a.ws (fun w hm => (hw w (by simp [allW, hm])).1)
    have hwl : ∀ w ∈ allWs l, lookE e0 w ∉ e.map (·.2) ∧ ∀ j, lookE e0 w ≠ nm j := fun w hm => hw w (by simp [allW, hm])
    by_cases hq : isQ a.kind
    · have ih := freess_ren nm e0 l (e ++ [(a.nm, nm k)]) (k + 1) (fun w hm => ⟨by
        rw [List.map_append, List.mem_append]
        rintro (h | h)
        · exact (hwl w hm).1 h
        · simp at h; exact (hwl w hm).2 k h, (hwl w hm).2⟩)
      rw [List.map_append, List.map_append, ← List.append_assoc] at ih
      unfold renF
      rw [if_pos hq]
      simp only [fmFrees]
      have hq' : a.kind = 8 ∨ a.kind = 9 := hq
      rw [if_pos hq', if_pos hq', hws, List.map_append]
      simp only [List.map_cons, List.map_nil] at ih
      rw [ih]
    · have ih := freess_ren nm e0 l e k hwl
      unfold renF
      rw [if_neg hq]
      simp only [fmFrees]
      have hq' : ¬ (a.kind = 8 ∨ a.kind = 9) := hq
      rw [if_neg hq', if_neg hq', hws, List.map_append, ih]
theorem freess_ren (nm : Nat → ByteArray) (e0 : Env) : ∀ (l : List (Tree FmL)) (e : Env) (k : Nat), (∀ w ∈ allWs l, lookE e0 w ∉ e.map (·.2) ∧ ∀ j, lookE e0 w ≠ nm j) → fmFreess (e.map (·.2)) (renFs nm (e0 ++ e) l k).1 = (fmFreess (e.map (·.1)) l).map (lookE e0)
  | [], _, _, _ => by simp [renFs, fmFreess]
  | t :: l, e, k, hw => by
    unfold renFs
    simp only [fmFreess]
    rw [frees_ren nm e0 t e k (fun w hm => hw w (by simp [allWs, hm])), freess_ren nm e0 l e _ (fun w hm => hw w (by simp [allWs, hm])), List.map_append]
end

end Go.Proofs.YtflcbbikfdahhaaDoor
