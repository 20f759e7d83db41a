/-
  Formulas renamed twice, alpha-variants: the plain laws behind the canonical form's stability and its instances. Nothing here names the program.
-/
import Derived.Test.YtflcbbikfdahhaaDoorFmNext
namespace Go.Proofs.YtflcbbikfdahhaaDoor
open Go Go.RowKit
set_option linter.unusedSimpArgs false
set_option linter.unusedVariables false

theorem mem_frees_l {bd : List ByteArray} {a : FmL} {l : List (Tree FmL)} {w : ByteArray} (h : w ∈ a.ws) (hb : w ∉ bd) : w ∈ fmFrees bd (.mk a l) := by
  unfold fmFrees
  refine List.mem_append.2 (Or.inl (List.mem_filter.2 ⟨h, ?_⟩))
  rw [show hasB bd w = false from Bool.eq_false_iff.2 (fun hx => hb (hasB_iff.1 hx))]
  rfl
theorem mem_frees_q {bd : List ByteArray} {a : FmL} {l : List (Tree FmL)} {w : ByteArray} (hq : isQ a.kind) (h : w ∈ fmFreess (bd ++ [a.nm]) l) : w ∈ fmFrees bd (.mk a l) := by
  unfold fmFrees
  rw [if_pos (show a.kind = 8 ∨ a.kind = 9 from hq)]
  exact List.mem_append.2 (Or.inr h)
theorem mem_frees_n {bd : List ByteArray} {a : FmL} {l : List (Tree FmL)} {w : ByteArray} (hq : ¬ isQ a.kind) (h : w ∈ fmFreess bd l) : w ∈ fmFrees bd (.mk a l) := by
  unfold fmFrees
  rw [if_neg (show ¬ (a.kind = 8 ∨ a.kind = 9) from hq)]
  exact List.mem_append.2 (Or.inr h)
theorem filter_map_w (f : ByteArray → ByteArray) (b1 b2 : List ByteArray) : ∀ ws : List ByteArray, (∀ w ∈ ws, hasB b2 (f w) = hasB b1 w) → (∀ w ∈ ws, w ∉ b1 → True) → (ws.map f).filter (fun w => !hasB b2 w) = (ws.filter (fun w => !hasB b1 w)).map f
  | [], _, _ => rfl
  | w :: ws, h, _ => by
    have ih := filter_map_w f b1 b2 ws (fun x hx => h x (List.mem_cons_of_mem _ hx)) (fun _ _ _ => trivial)
    have h0 := h w (List.mem_cons_self ..)
    rw [List.map_cons, List.filter_cons, List.filter_cons, h0, ih]
    split <;> rfl
mutual
/-- The free words of a renamed formula: those of the formula, replaced. -/
theorem frees_ren2 (nm : Nat → ByteArray) (e0 : Env) : ∀ (t : Tree FmL) (e : Env) (k : Nat), (∀ w ∈ fmFrees (e.map (·.1)) t, lookE e0 w ∉ e.map (·.2) ∧ ∀ j, lookE e0 w ≠ nm j) → fmFrees (e.map (·.2)) (renF nm (e0 ++ e) t k).1 = (fmFrees (e.map (·.1)) t).map (lookE e0)
  | .mk a l, e, k, hw => by
    have hws : (a.ws.map (lookE (e0 ++ e))).filter (fun w => !hasB (e.map (·.2)) w) = (a.ws.filter (fun w => !hasB (e.map (·.1)) w)).map (lookE e0) := by
      rw [filter_map_w (lookE (e0 ++ e)) (e.map (·.1)) (e.map (·.2)) a.ws (fun w hm => ?_) (fun _ _ _ => trivial)]
      · refine List.map_congr_left (fun w hm => ?_)
        have h1 := (List.mem_filter.1 hm).2
        rw [look_app]
        refine look_free w e _ (fun hx => ?_)
        rw [hasB_iff.2 hx] at h1
        cases h1
      · by_cases hx : w ∈ e.map (·.1)
        · rw [hasB_iff.2 hx, hasB_iff]
          rw [look_app]; exact look_bound w e _ hx
        · rw [show hasB (e.map (·.1)) w = false from Bool.eq_false_iff.2 (fun h => hx (hasB_iff.1 h)), Bool.eq_false_iff]
          intro h
          rw [hasB_iff, look_app, look_free w e _ hx] at h
          exact (hw w (mem_frees_l hm hx)).1 h
    by_cases hq : isQ a.kind
    · have hwl : ∀ w ∈ fmFreess (e.map (·.1) ++ [a.nm]) l, lookE e0 w ∉ e.map (·.2) ∧ ∀ j, lookE e0 w ≠ nm j := fun w hm => hw w (mem_frees_q hq hm)
      have ih := freess_ren2 nm e0 l (e ++ [(a.nm, nm k)]) (k + 1) (fun w hm => by
        rw [List.map_append] at hm
        refine ⟨?_, (hwl w hm).2⟩
        rw [List.map_append, List.mem_append]
        rintro (h | h)
        · exact (hwl w hm).1 h
        · simp at h; exact (hwl w hm).2 k h)
      rw [List.map_append, List.map_append, ← List.append_assoc] at ih
      unfold renF
      rw [if_pos hq]
      simp only [fmFrees]
      have hq' : a.kind = 8 ∨ a.kind = 9 := hq
      rw [if_pos hq', if_pos hq', hws, List.map_append]
      simp only [List.map_cons, List.map_nil] at ih
      rw [ih]
    · have ih := freess_ren2 nm e0 l e k (fun w hm => hw w (mem_frees_n hq hm))
      unfold renF
      rw [if_neg hq]
      simp only [fmFrees]
      have hq' : ¬ (a.kind = 8 ∨ a.kind = 9) := hq
      rw [if_neg hq', if_neg hq', hws, List.map_append, ih]
theorem freess_ren2 (nm : Nat → ByteArray) (e0 : Env) : ∀ (l : List (Tree FmL)) (e : Env) (k : Nat), (∀ w ∈ fmFreess (e.map (·.1)) l, lookE e0 w ∉ e.map (·.2) ∧ ∀ j, lookE e0 w ≠ nm j) → fmFreess (e.map (·.2)) (renFs nm (e0 ++ e) l k).1 = (fmFreess (e.map (·.1)) l).map (lookE e0)
  | [], _, _, _ => by simp [renFs, fmFreess]
  | t :: l, e, k, hw => by
    unfold renFs
    simp only [fmFreess]
    rw [frees_ren2 nm e0 t e k (fun w hm => hw w (by simp [fmFreess, hm])), freess_ren2 nm e0 l e _ (fun w hm => hw w (by simp [fmFreess, hm])), List.map_append]
end

abbrev Bnd := List (ByteArray × Nat)
theorem look_in {w : ByteArray} : ∀ {B : Bnd}, w ∈ B.map (·.1) → ∃ j, j ∈ B.map (·.2) ∧ ∀ (f : Nat → ByteArray) (r : ByteArray), (B.map (fun p => (p.1, f p.2))).foldl (fun r p => if p.1 = w then p.2 else r) r = f j
  | [], h => by simp at h
  | p :: B, h => by
    by_cases hm : w ∈ B.map (·.1)
    · obtain ⟨j, h1, h2⟩ := look_in hm
      exact ⟨j, List.mem_cons_of_mem _ h1, fun f r => by rw [List.map_cons, List.foldl_cons]; exact h2 f _⟩
    · have hp : w = p.1 := by
        rcases List.mem_cons.1 h with h | h
        · exact h
        · exact absurd h hm
      refine ⟨p.2, by simp, fun f r => ?_⟩
      rw [List.map_cons, List.foldl_cons, look_free w _ _ (by rw [List.map_map]; exact hm)]
      simp only
      rw [if_pos hp.symm]
theorem look_idx {n1 n2 : Nat → ByteArray} (hi : ∀ i j, n1 i = n1 j → i = j) {j : Nat} : ∀ {B : Bnd} (r : ByteArray), j ∈ B.map (·.2) → (B.map (fun p => (n1 p.2, n2 p.2))).foldl (fun r p => if p.1 = n1 j then p.2 else r) r = n2 j
  | [], _, h => by simp at h
  | p :: B, r, h => by
    rw [List.map_cons, List.foldl_cons]
    by_cases hm : j ∈ B.map (·.2)
    · exact look_idx hi _ hm
    · have hp : j = p.2 := by
        rcases List.mem_cons.1 h with h | h
        · exact h
        · exact absurd h hm
      rw [look_free (n1 j) _ _ (by
        rw [List.map_map]
        intro hx
        obtain ⟨q, h1, h2⟩ := List.mem_map.1 hx
        exact hm (List.mem_map.2 ⟨q, h1, hi _ _ h2⟩))]
      simp only
      rw [if_pos (by rw [hp]), hp]
theorem renF_q {nm : Nat → ByteArray} {env : Env} {a : FmL} {l : List (Tree FmL)} {k : Nat} (hq : isQ a.kind) : renF nm env (.mk a l) k = (.mk ⟨a.kind, nm k, a.ws.map (lookE env)⟩ (renFs nm (env ++ [(a.nm, nm k)]) l (k + 1)).1, (renFs nm (env ++ [(a.nm, nm k)]) l (k + 1)).2) := by
  unfold renF; rw [if_pos hq]
theorem renF_n {nm : Nat → ByteArray} {env : Env} {a : FmL} {l : List (Tree FmL)} {k : Nat} (hq : ¬ isQ a.kind) : renF nm env (.mk a l) k = (.mk ⟨a.kind, a.nm, a.ws.map (lookE env)⟩ (renFs nm env l k).1, (renFs nm env l k).2) := by
  unfold renF; rw [if_neg hq]
theorem renFs_c {nm : Nat → ByteArray} {env : Env} {t : Tree FmL} {l : List (Tree FmL)} {k : Nat} : renFs nm env (t :: l) k = ((renF nm env t k).1 :: (renFs nm env l (renF nm env t k).2).1, (renFs nm env l (renF nm env t k).2).2) := by
  conv => lhs; unfold renFs
mutual
/-- Renamed twice: as if renamed at once. -/
theorem renF_comp (n1 n2 : Nat → ByteArray) (hi : ∀ i j, n1 i = n1 j → i = j) (e0 e1 e2 : Env) : ∀ (t : Tree FmL) (B : Bnd) (k : Nat), (∀ w ∈ fmFrees (B.map (·.1)) t, (∀ j, lookE e0 w ≠ n1 j) ∧ lookE e1 (lookE e0 w) = lookE e2 w) →
    renF n2 (e1 ++ B.map (fun p => (n1 p.2, n2 p.2))) (renF n1 (e0 ++ B.map (fun p => (p.1, n1 p.2))) t k).1 k = renF n2 (e2 ++ B.map (fun p => (p.1, n2 p.2))) t k
  | .mk a l, B, k, hw => by
    have hws : (a.ws.map (lookE (e0 ++ B.map (fun p => (p.1, n1 p.2))))).map (lookE (e1 ++ B.map (fun p => (n1 p.2, n2 p.2)))) = a.ws.map (lookE (e2 ++ B.map (fun p => (p.1, n2 p.2)))) := by
      rw [List.map_map]
      refine List.map_congr_left (fun w hm => ?_)
      simp only [Function.comp]
      rw [look_app, look_app, look_app]
      by_cases hx : w ∈ B.map (·.1)
      · obtain ⟨j, h1, h2⟩ := look_in hx
        rw [h2 n1, h2 n2, look_idx hi _ h1]
      · obtain ⟨h1, h2⟩ := hw w (mem_frees_l hm hx)
        rw [look_free w (B.map (fun p => (p.1, n1 p.2))) _ (by rw [List.map_map]; exact hx), look_free w (B.map (fun p => (p.1, n2 p.2))) _ (by rw [List.map_map]; exact hx), look_free (lookE e0 w) _ _ (by
          rw [List.map_map]
          intro hy
          obtain ⟨q, _, h4⟩ := List.mem_map.1 hy
          exact h1 _ h4.symm), h2]
    by_cases hq : isQ a.kind
    · have ih := renFs_comp n1 n2 hi e0 e1 e2 l (B ++ [(a.nm, k)]) (k + 1) (fun w hm => by
        rw [List.map_append] at hm
        exact hw w (mem_frees_q hq hm))
      simp only [List.map_append, List.map_cons, List.map_nil, ← List.append_assoc] at ih
      rw [renF_q (nm := n1) hq]
      dsimp only
      rw [renF_q (nm := n2) (a := a) hq, renF_q (nm := n2) (a := ⟨a.kind, n1 k, _⟩) hq]
      dsimp only
      rw [hws, ih]
    · have ih := renFs_comp n1 n2 hi e0 e1 e2 l B k (fun w hm => hw w (mem_frees_n hq hm))
      rw [renF_n (nm := n1) hq]
      dsimp only
      rw [renF_n (nm := n2) (a := a) hq, renF_n (nm := n2) (a := ⟨a.kind, a.nm, a.ws.map (lookE (e0 ++ B.map (fun p => (p.1, n1 p.2))))⟩) hq]
      dsimp only
      rw [hws, ih]
theorem renFs_comp (n1 n2 : Nat → ByteArray) (hi : ∀ i j, n1 i = n1 j → i = j) (e0 e1 e2 : Env) : ∀ (l : List (Tree FmL)) (B : Bnd) (k : Nat), (∀ w ∈ fmFreess (B.map (·.1)) l, (∀ j, lookE e0 w ≠ n1 j) ∧ lookE e1 (lookE e0 w) = lookE e2 w) →
    renFs n2 (e1 ++ B.map (fun p => (n1 p.2, n2 p.2))) (renFs n1 (e0 ++ B.map (fun p => (p.1, n1 p.2))) l k).1 k = renFs n2 (e2 ++ B.map (fun p => (p.1, n2 p.2))) l k
  | [], _, _, _ => by simp [renFs]
  | t :: l, B, k, hw => by
    have h1 := renF_comp n1 n2 hi e0 e1 e2 t B k (fun w hm => hw w (by simp [fmFreess, hm]))
    have h2 := renFs_comp n1 n2 hi e0 e1 e2 l B (k + quN t) (fun w hm => hw w (by simp [fmFreess, hm]))
    rw [renFs_c (nm := n1)]
    try dsimp only
    rw [renFs_c (nm := n2), renFs_c (nm := n2)]
    try dsimp only
    rw [h1, renF_count n1, renF_count n2, h2]
end
mutual
/-- The names' numbers moved. -/
theorem renF_shift (nm : Nat → ByteArray) (d : Nat) : ∀ (t : Tree FmL) (env : Env) (k : Nat), renF nm env t (k + d) = ((renF (fun j => nm (j + d)) env t k).1, (renF (fun j => nm (j + d)) env t k).2 + d)
  | .mk a l, env, k => by
    unfold renF
    by_cases hq : isQ a.kind
    · rw [if_pos hq, if_pos hq, show k + d + 1 = k + 1 + d by omega, renFs_shift nm d l]
    · rw [if_neg hq, if_neg hq, renFs_shift nm d l]
theorem renFs_shift (nm : Nat → ByteArray) (d : Nat) : ∀ (l : List (Tree FmL)) (env : Env) (k : Nat), renFs nm env l (k + d) = ((renFs (fun j => nm (j + d)) env l k).1, (renFs (fun j => nm (j + d)) env l k).2 + d)
  | [], _, _ => by simp [renFs]
  | t :: l, env, k => by
    unfold renFs
    rw [renF_shift nm d t, renFs_shift nm d l]
end

/-! ### Variables renamed -/

mutual
/-- All words and names of quantifiers. -/
def allN : Tree FmL → List ByteArray
  | .mk a l => (if isQ a.kind then [a.nm] else []) ++ (a.ws ++ allNs l)
def allNs : List (Tree FmL) → List ByteArray
  | [] => []
  | t :: l => allN t ++ allNs l
end
theorem look_sw {s : ByteArray → ByteArray} {P : ByteArray → Prop} (hP : ∀ x y, P x → P y → s x = s y → x = y) {w : ByteArray} (hw : P w) : ∀ (e : Env) (r r' : ByteArray), (∀ x ∈ e.map (·.1), P x) → (w ∈ e.map (·.1) ∨ r = r') → (e.map (fun p => (s p.1, p.2))).foldl (fun r p => if p.1 = s w then p.2 else r) r = e.foldl (fun r p => if p.1 = w then p.2 else r) r'
  | [], r, r', _, h => by simpa using h
  | p :: e, r, r', hp, h => by
    rw [List.map_cons, List.foldl_cons, List.foldl_cons]
    refine look_sw hP hw e _ _ (fun x hx => hp x (List.mem_cons_of_mem _ hx)) ?_
    by_cases he : p.1 = w
    · right
      simp only
      rw [if_pos he, if_pos (by rw [he])]
    · have hs : ¬ s p.1 = s w := fun hs => he (hP _ _ (hp _ (by simp)) hw hs)
      simp only
      rw [if_neg he, if_neg hs]
      rcases h with h | h
      · left
        rcases List.mem_cons.1 h with h | h
        · exact absurd h.symm he
        · exact h
      · exact Or.inr h
theorem mem_allN_w {a : FmL} {l : List (Tree FmL)} {w : ByteArray} (h : w ∈ a.ws) : w ∈ allN (.mk a l) := by unfold allN; simp [h]
theorem mem_allN_l {a : FmL} {l : List (Tree FmL)} {w : ByteArray} (h : w ∈ allNs l) : w ∈ allN (.mk a l) := by unfold allN; simp [h]
theorem mem_allN_q {a : FmL} {l : List (Tree FmL)} (hq : isQ a.kind) : a.nm ∈ allN (.mk a l) := by unfold allN; rw [if_pos hq]; simp
mutual
/-- Variables renamed ahead: the renamed formula is the same. -/
theorem renF_var {s : ByteArray → ByteArray} {P : ByteArray → Prop} (hP : ∀ x y, P x → P y → s x = s y → x = y) (nm : Nat → ByteArray) : ∀ (t : Tree FmL) (e : Env) (k : Nat), (∀ x ∈ e.map (·.1), P x) → (∀ x ∈ allN t, P x) → (∀ w ∈ fmFrees (e.map (·.1)) t, s w = w) → renF nm (e.map (fun p => (s p.1, p.2))) (swF s t) k = renF nm e t k
  | .mk a l, e, k, he, ht, hw => by
    have hws : (a.ws.map s).map (lookE (e.map (fun p => (s p.1, p.2)))) = a.ws.map (lookE e) := by
      rw [List.map_map]
      refine List.map_congr_left (fun w hm => ?_)
      simp only [Function.comp]
      unfold lookE
      refine look_sw hP (ht w (mem_allN_w hm)) e _ _ he ?_
      by_cases hx : w ∈ e.map (·.1)
      · exact Or.inl hx
      · exact Or.inr (hw w (mem_frees_l hm hx))
    by_cases hq : isQ a.kind
    · have ih := renFs_var hP nm l (e ++ [(a.nm, nm k)]) (k + 1) (fun x hx => by
        rw [List.map_append, List.mem_append] at hx
        rcases hx with hx | hx
        · exact he x hx
        · simp at hx; rw [hx]; exact ht _ (mem_allN_q hq)) (fun x hx => ht x (mem_allN_l hx)) (fun w hm => by
        rw [List.map_append] at hm
        exact hw w (mem_frees_q hq hm))
      simp only [List.map_append, List.map_cons, List.map_nil] at ih
      unfold swF renF
      simp only
      rw [if_pos hq, if_pos hq, if_pos hq, hws, ih]
    · have ih := renFs_var hP nm l e k he (fun x hx => ht x (mem_allN_l hx)) (fun w hm => hw w (mem_frees_n hq hm))
      unfold swF renF
      simp only
      rw [if_neg hq, if_neg hq, if_neg hq, hws, ih]
theorem renFs_var {s : ByteArray → ByteArray} {P : ByteArray → Prop} (hP : ∀ x y, P x → P y → s x = s y → x = y) (nm : Nat → ByteArray) : ∀ (l : List (Tree FmL)) (e : Env) (k : Nat), (∀ x ∈ e.map (·.1), P x) → (∀ x ∈ allNs l, P x) → (∀ w ∈ fmFreess (e.map (·.1)) l, s w = w) → renFs nm (e.map (fun p => (s p.1, p.2))) (swFs s l) k = renFs nm e l k
  | [], _, _, _, _, _ => by simp [swFs, renFs]
  | t :: l, e, k, he, ht, hw => by
    unfold swFs renFs
    rw [renF_var hP nm t e k he (fun x hx => ht x (by simp [allNs, hx])) (fun w hm => hw w (by simp [fmFreess, hm])), renFs_var hP nm l e _ he (fun x hx => ht x (by simp [allNs, hx])) (fun w hm => hw w (by simp [fmFreess, hm]))]
end
mutual
theorem frees_var {s : ByteArray → ByteArray} {P : ByteArray → Prop} (hP : ∀ x y, P x → P y → s x = s y → x = y) : ∀ (t : Tree FmL) (bd : List ByteArray), (∀ x ∈ bd, P x) → (∀ x ∈ allN t, P x) → (∀ w ∈ fmFrees bd t, s w = w) → fmFrees (bd.map s) (swF s t) = fmFrees bd t
  | .mk a l, bd, he, ht, hw => by
    have hws : (a.ws.map s).filter (fun w => !hasB (bd.map s) w) = a.ws.filter (fun w => !hasB bd w) := by
      rw [filter_map_w s bd (bd.map s) a.ws (fun w hm => ?_) (fun _ _ _ => trivial)]
      · conv => rhs; rw [← List.map_id (a.ws.filter (fun w => !hasB bd w))]
        refine List.map_congr_left (fun w hm => ?_)
        exact hw w (by unfold fmFrees; exact List.mem_append.2 (Or.inl hm))
      · rw [Bool.eq_iff_iff, hasB_iff, hasB_iff]
        constructor
        · intro hx
          obtain ⟨y, h1, h2⟩ := List.mem_map.1 hx
          rwa [← hP y w (he y h1) (ht w (mem_allN_w hm)) h2]
        · intro hx; exact List.mem_map.2 ⟨w, hx, rfl⟩
    by_cases hq : isQ a.kind
    · have ih := freess_var hP l (bd ++ [a.nm]) (fun x hx => by
        rcases List.mem_append.1 hx with hx | hx
        · exact he x hx
        · simp at hx; rw [hx]; exact ht _ (mem_allN_q hq)) (fun x hx => ht x (mem_allN_l hx)) (fun w hm => hw w (mem_frees_q hq hm))
      have hq' : a.kind = 8 ∨ a.kind = 9 := hq
      unfold swF fmFrees
      simp only
      rw [if_pos hq', if_pos hq', if_pos hq, hws]
      rw [List.map_append, List.map_cons, List.map_nil] at ih
      rw [ih]
    · have ih := freess_var hP l bd he (fun x hx => ht x (mem_allN_l hx)) (fun w hm => hw w (mem_frees_n hq hm))
      have hq' : ¬ (a.kind = 8 ∨ a.kind = 9) := hq
      unfold swF fmFrees
      simp only
      rw [if_neg hq', if_neg hq', hws, ih]
theorem freess_var {s : ByteArray → ByteArray} {P : ByteArray → Prop} (hP : ∀ x y, P x → P y → s x = s y → x = y) : ∀ (l : List (Tree FmL)) (bd : List ByteArray), (∀ x ∈ bd, P x) → (∀ x ∈ allNs l, P x) → (∀ w ∈ fmFreess bd l, s w = w) → fmFreess (bd.map s) (swFs s l) = fmFreess bd l
  | [], _, _, _, _ => by simp [swFs, fmFreess]
  | t :: l, bd, he, ht, hw => by
    unfold swFs fmFreess
    rw [frees_var hP t bd he (fun x hx => ht x (by simp [allNs, hx])) (fun w hm => hw w (by simp [fmFreess, hm])), freess_var hP l bd he (fun x hx => ht x (by simp [allNs, hx])) (fun w hm => hw w (by simp [fmFreess, hm]))]
end

/-! ### The canonical form -/

theorem numV_lt (u : List ByteArray) : ∀ {i j : Nat}, i < j → numV u i < numV u j := by
  have h1 : ∀ i, numV u i < numV u (i + 1) := fun i => nextV_ge u (numV u i + 1)
  intro i j h
  induction j with
  | zero => omega
  | succ j ih =>
    by_cases hij : i = j
    · subst hij; exact h1 i
    · exact Nat.lt_trans (ih (by omega)) (h1 j)
theorem namV_inj (u : List ByteArray) : ∀ i j, namV u i = namV u j → i = j := by
  intro i j h
  have h1 := vB_inj h
  rcases Nat.lt_trichotomy i j with h2 | h2 | h2
  · have := numV_lt u h2; omega
  · exact h2
  · have := numV_lt u h2; omega
theorem namV_free (u : List ByteArray) (j : Nat) : namV u j ∉ u := by
  unfold namV
  rw [numV_from]
  exact nextV_free u _
theorem lookE_nil (w : ByteArray) : lookE [] w = w := rfl
theorem map_look_nil (l : List ByteArray) : l.map (lookE []) = l := by
  conv => rhs; rw [← List.map_id l]
  exact List.map_congr_left (fun _ _ => rfl)
/-- The free words of a canonical form. -/
theorem frees_canF (env : Env) (t : Tree FmL) : fmFrees [] (canF env t) = (fmFrees [] t).map (lookE env) := by
  have h := frees_ren2 (namV ((fmConsts t).map (lookE env))) env t [] 0 (fun w hm => ⟨by simp, fun j e => ?_⟩)
  · unfold canF
    simpa using h
  · refine namV_free ((fmConsts t).map (lookE env)) j ?_
    rw [← e]
    exact List.mem_map.2 ⟨w, mem_constsB.2 hm, rfl⟩
theorem consts_canF (t : Tree FmL) : fmConsts (canF [] t) = fmConsts t := by
  unfold fmConsts
  rw [frees_canF, map_look_nil]
theorem canF_nil (t : Tree FmL) : canF [] t = (renF (namV (fmConsts t)) [] t 0).1 := by
  unfold canF
  rw [map_look_nil]
/-- A canonical form is its own. -/
theorem canF_canF (t : Tree FmL) : canF [] (canF [] t) = canF [] t := by
  rw [canF_nil (canF [] t), consts_canF, canF_nil]
  have h := renF_comp (namV (fmConsts t)) (namV (fmConsts t)) (namV_inj _) [] [] [] t [] 0 (fun w hm => ⟨fun j e => namV_free (fmConsts t) j (by rw [← e]; exact mem_constsB.2 hm), rfl⟩)
  simp only [List.map_nil, List.append_nil] at h
  rw [h]
/-- The canonical form of a formula with other variables. -/
theorem canF_var {s : ByteArray → ByteArray} {P : ByteArray → Prop} (hP : ∀ x y, P x → P y → s x = s y → x = y) (t : Tree FmL) (ht : ∀ x ∈ allN t, P x) (hw : ∀ w ∈ fmFrees [] t, s w = w) : canF [] (swF s t) = canF [] t := by
  have h1 := frees_var hP t [] (by simp) ht (by simpa using hw)
  rw [List.map_nil] at h1
  have h2 : fmConsts (swF s t) = fmConsts t := by unfold fmConsts; rw [h1]
  have h3 := renF_var hP (namV (fmConsts t)) t [] 0 (by simp) ht (by simpa using hw)
  rw [List.map_nil] at h3
  rw [canF_nil, canF_nil, h2, h3]
/-- An instance of the canonical form: that of the formula. -/
theorem canF_inst (kd : Int) (x : ByteArray) (b : Tree FmL) (hq : isQ kd) (name : ByteArray) :
    ∃ y b', canF [] (.mk ⟨kd, x, []⟩ [b]) = .mk ⟨kd, y, []⟩ [b'] ∧ canF [(y, name)] b' = canF [(x, name)] b := by
  obtain ⟨nm, hnm⟩ : ∃ nm, namV (fmConsts (.mk ⟨kd, x, []⟩ [b])) = nm := ⟨_, rfl⟩
  have hfree : ∀ w ∈ fmFrees [] b, w ≠ x → ∀ j, w ≠ nm j := by
    intro w hm hx j e
    have hin : w ∈ fmFrees [x] b := by
      have key : ∀ (N : Nat), (∀ (t : Tree FmL) (bd : List ByteArray), t.nodes ≤ N → w ∈ fmFrees bd t → w ∈ fmFrees (x :: bd) t) ∧ (∀ (l : List (Tree FmL)) (bd : List ByteArray), Tree.nodess l ≤ N → w ∈ fmFreess bd l → w ∈ fmFreess (x :: bd) l) := by
        intro N
        induction N with
        | zero =>
          refine ⟨fun t _ h => absurd (Tree.nodes_pos t) (by omega), fun l bd h hl => ?_⟩
          cases l with
          | nil => simp [fmFreess] at hl
          | cons t l => have := Tree.nodes_pos t; simp [Tree.nodess] at h; omega
        | succ N ih =>
          have h1 : ∀ (t : Tree FmL) (bd : List ByteArray), t.nodes ≤ N + 1 → w ∈ fmFrees bd t → w ∈ fmFrees (x :: bd) t := by
            rintro ⟨a, l⟩ bd hn hm
            simp only [Tree.nodes] at hn
            unfold fmFrees at hm ⊢
            rcases List.mem_append.1 hm with hm | hm
            · refine List.mem_append.2 (Or.inl ?_)
              obtain ⟨q1, q2⟩ := List.mem_filter.1 hm
              refine List.mem_filter.2 ⟨q1, ?_⟩
              unfold hasB at q2 ⊢
              rw [List.any_cons, show decide (x = w) = false from decide_eq_false (fun e => hx e.symm), Bool.false_or]
              exact q2
            · refine List.mem_append.2 (Or.inr ?_)
              have := ih.2 l _ (by omega) hm
              split
              · rename_i h8; rw [if_pos h8] at this; exact this
              · rename_i h8; rw [if_neg h8] at this; exact this
          refine ⟨h1, fun l => ?_⟩
          induction l with
          | nil => intro bd _ hl; simp [fmFreess] at hl
          | cons t l ihl =>
            intro bd hn hm
            simp only [Tree.nodess] at hn
            unfold fmFreess at hm ⊢
            rcases List.mem_append.1 hm with hm | hm
            · exact List.mem_append.2 (Or.inl (h1 t bd (by omega) hm))
            · exact List.mem_append.2 (Or.inr (ihl bd (by omega) hm))
      exact (key b.nodes).1 b [] (Nat.le_refl _) hm
    refine namV_free (fmConsts (.mk ⟨kd, x, []⟩ [b])) j ?_
    rw [hnm, ← e]
    refine mem_constsB.2 (mem_frees_q (bd := []) (a := ⟨kd, x, []⟩) hq ?_)
    show w ∈ fmFrees [x] b ++ []
    simpa using hin
  have hinj : ∀ i j, nm i = nm j → i = j := by rw [← hnm]; exact namV_inj _
  have hlk : ∀ w, lookE [(x, nm 0)] w = if x = w then nm 0 else w := fun w => rfl
  have hlk2 : ∀ w, lookE [(nm 0, name)] w = if nm 0 = w then name else w := fun w => rfl
  have hlk3 : ∀ w, lookE [(x, name)] w = if x = w then name else w := fun w => rfl
  have hnot : ∀ w ∈ fmFrees [] b, ∀ j, lookE [(x, nm 0)] w ≠ nm (j + 1) := by
    intro w hm j
    rw [hlk]
    split
    · intro e; have := hinj _ _ e; omega
    · rename_i hx
      exact hfree w hm (fun e => hx e.symm) (j + 1)
  have hcomp : ∀ w ∈ fmFrees [] b, lookE [(nm 0, name)] (lookE [(x, nm 0)] w) = lookE [(x, name)] w := by
    intro w hm
    rw [hlk, hlk3]
    by_cases hx : x = w
    · rw [if_pos hx, if_pos hx, hlk2, if_pos rfl]
    · rw [if_neg hx, if_neg hx, hlk2, if_neg (fun e => hfree w hm (fun e => hx e.symm) 0 e.symm)]
  refine ⟨nm 0, (renF (fun j => nm (j + 1)) [(x, nm 0)] b 0).1, ?_, ?_⟩
  · rw [canF_nil, hnm, renF_q (a := ⟨kd, x, []⟩) hq]
    dsimp only
    rw [renFs_c]
    dsimp only
    rw [List.nil_append, renF_shift nm 1 b, List.map_nil]
    simp only [renFs]
  · have hfr := frees_ren2 (fun j => nm (j + 1)) [(x, nm 0)] b [] 0 (fun w hm => ⟨by simp, hnot w hm⟩)
    simp only [List.map_nil, List.append_nil] at hfr
    have hset : ∀ z, z ∈ (fmConsts (renF (fun j => nm (j + 1)) [(x, nm 0)] b 0).1).map (lookE [(nm 0, name)]) ↔ z ∈ (fmConsts b).map (lookE [(x, name)]) := by
      intro z
      simp only [List.mem_map]
      unfold fmConsts
      simp only [mem_constsB]
      rw [hfr]
      constructor
      · rintro ⟨u, hu, rfl⟩
        obtain ⟨w, hm, rfl⟩ := List.mem_map.1 hu
        exact ⟨w, hm, (hcomp w hm).symm⟩
      · rintro ⟨w, hm, rfl⟩
        exact ⟨_, List.mem_map.2 ⟨w, hm, rfl⟩, hcomp w hm⟩
    have hnv : namV ((fmConsts (renF (fun j => nm (j + 1)) [(x, nm 0)] b 0).1).map (lookE [(nm 0, name)])) = namV ((fmConsts b).map (lookE [(x, name)])) := by
      funext k
      unfold namV
      rw [numV_congr hset]
    unfold canF
    rw [hnv]
    have h := renF_comp (fun j => nm (j + 1)) (namV ((fmConsts b).map (lookE [(x, name)]))) (fun i j e => by have := hinj _ _ e; omega) [(x, nm 0)] [(nm 0, name)] [(x, name)] b [] 0 (fun w hm => ⟨hnot w hm, hcomp w hm⟩)
    simp only [List.map_nil, List.append_nil] at h
    rw [h]

/-! ### It is valid -/

theorem okName_vB {n : Nat} (h : n < 1000000) : okName (vB n) = true := by
  have hall := (dec_digs n).1
  have hlen : ∀ (d n : Nat), n < 10 ^ d → 0 < d → (Lib.decDigits n).length ≤ d := by
    intro d
    induction d with
    | zero => intro n _ h0; omega
    | succ d ih =>
      intro n hn _
      rw [Lib.decDigits]
      split
      · simp
      · rename_i h10
        rw [List.length_append, List.length_singleton]
        have := ih (n / 10) (by rw [Nat.pow_succ] at hn; omega) (by
          rcases Nat.eq_zero_or_pos d with h0 | h0
          · subst h0; simp at hn; omega
          · exact h0)
        omega
  have h6 := hlen 6 n (by simpa using h) (by omega)
  rw [okName_listF (s := vB n) (l := 118 :: Lib.decDigits n) (by unfold vB; simp)]
  rw [show isLow ((118 :: Lib.decDigits n).headD 0) = true from rfl]
  simp only [List.length_cons, List.all_cons, Bool.and_eq_true, decide_eq_true_eq]
  refine ⟨⟨⟨by omega, by omega⟩, trivial⟩, rfl, ?_⟩
  rw [List.all_eq_true]
  intro c hc
  have := hall c hc
  unfold isDig at this
  simp only [Bool.and_eq_true, decide_eq_true_eq] at this
  unfold isOther
  simp; omega
/-- A valid formula renamed with valid names is valid. -/
theorem Fv.ren {nm : Nat → ByteArray} : ∀ (v : Fv) (env : Env) (k : Nat), v.ok → (∀ p ∈ env, okName p.2 = true) → (∀ j, j < k + quN v.fm → okName (nm j) = true) → ∃ v' : Fv, (renF nm env v.fm k).1 = v'.fm ∧ v'.ok ∧ v'.nodes = v.nodes ∧ v'.depth = v.depth := by
  have hlk : ∀ (env : Env) (w : ByteArray), (∀ p ∈ env, okName p.2 = true) → okName w = true → okName (lookE env w) = true := by
    intro env w he hw
    unfold lookE
    have : ∀ (e : Env) (r : ByteArray), (∀ p ∈ e, okName p.2 = true) → okName r = true → okName (e.foldl (fun r p => if p.1 = w then p.2 else r) r) = true := by
      intro e
      induction e with
      | nil => intro r _ hr; exact hr
      | cons p e ih =>
        intro r h1 h2
        rw [List.foldl_cons]
        refine ih _ (fun q hq => h1 q (List.mem_cons_of_mem _ hq)) ?_
        split
        · exact h1 p (List.mem_cons_self ..)
        · exact h2
    exact this env w he hw
  intro v
  induction v with
  | tru =>
    intro env k _ _ _
    exact ⟨.tru, by simp [Fv.fm, renF, renFs, isQ], trivial, rfl, rfl⟩
  | pred n ws =>
    intro env k h he _
    refine ⟨.pred n (ws.map (lookE env)), by simp [Fv.fm, renF, renFs, isQ], ⟨h.1, by simpa using h.2.1, ?_⟩, rfl, rfl⟩
    rw [List.all_map, List.all_eq_true]
    intro w hw
    exact hlk env w he (List.all_eq_true.1 h.2.2 w hw)
  | same a b =>
    intro env k h he _
    exact ⟨.same (lookE env a) (lookE env b), by simp [Fv.fm, renF, renFs, isQ], ⟨hlk env a he h.1, hlk env b he h.2⟩, rfl, rfl⟩
  | neg f ih =>
    intro env k h he hn
    obtain ⟨v', h1, h2, h3, h4⟩ := ih env k h he (by simpa [Fv.fm, quN, quNs, isQ] using hn)
    exact ⟨.neg v', by simp [Fv.fm, renF, renFs, isQ, h1], h2, by simp [Fv.nodes, h3], by simp [Fv.depth, h4]⟩
  | bin kd f g ihf ihg =>
    intro env k h he hn
    have hk : ¬ isQ kd := by
      rintro (e | e) <;> (rcases h.1 with r | r | r <;> omega)
    have hn' : ∀ j, j < k + (quN f.fm + quN g.fm) → okName (nm j) = true := by
      intro j hj
      refine hn j ?_
      simp only [Fv.fm, quN, quNs]
      rw [if_neg hk]; omega
    obtain ⟨v1, h1, h2, h3, h4⟩ := ihf env k h.2.1 he (fun j hj => hn' j (by omega))
    obtain ⟨v2, g1, g2, g3, g4⟩ := ihg env (k + quN f.fm) h.2.2 he (fun j hj => hn' j (by omega))
    refine ⟨.bin kd v1 v2, ?_, ⟨h.1, h2, g2⟩, by simp [Fv.nodes, h3, g3], by simp [Fv.depth, h4, g4]⟩
    simp only [Fv.fm, renF, renFs]
    rw [if_neg hk, renF_count]
    simp only [h1, g1, List.map_nil]
  | qu kd x f ih =>
    intro env k h he hn
    have hk : isQ kd := by
      rcases h.1 with e | e
      · exact Or.inl (by omega)
      · exact Or.inr (by omega)
    have hnk : okName (nm k) = true := hn k (by simp only [Fv.fm, quN, quNs]; rw [if_pos hk]; omega)
    obtain ⟨v', h1, h2, h3, h4⟩ := ih (env ++ [(x, nm k)]) (k + 1) h.2.2 (fun p hp => by
      rcases List.mem_append.1 hp with hp | hp
      · exact he p hp
      · simp at hp; subst hp; exact hnk) (fun j hj => hn j (by simp only [Fv.fm, quN, quNs]; rw [if_pos hk]; omega))
    refine ⟨.qu kd (nm k) v', ?_, ⟨h.1, hnk, h2⟩, by simp [Fv.nodes, h3], by simp [Fv.depth, h4]⟩
    simp only [Fv.fm, renF, renFs]
    rw [if_pos hk]
    simp only [h1, List.map_nil]

end Go.Proofs.YtflcbbikfdahhaaDoor
