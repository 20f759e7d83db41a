/-
  The table of a valid term, read back: each row's context and subterm, where its parts stand, who binds its variable. Nothing here names the program.
-/
import Derived.Test.YthflahcnkhmpaaaDoorRowsTm
namespace Go.Proofs.YthflahcnkhmpaaaDoor
open Go Go.RowKit
set_option linter.unusedSimpArgs false
set_option linter.unusedVariables false

/-- From row 'at' upwards the abstractions are those of the context. -/
inductive UpCtx (L : List TRow) : Int → List Sy → Prop where
  | nil : UpCtx L (-1) []
  | abs {k : Nat} {r : TRow} {s : Sy} {c : List Sy} : L[k]? = some r → r.kind = 3 → r.ty = s.ty → r.up < k → UpCtx L r.up c → UpCtx L k (s :: c)
  | other {k : Nat} {r : TRow} {c : List Sy} : L[k]? = some r → r.kind ≠ 3 → r.up < k → UpCtx L r.up c → UpCtx L k c

/-- Where the parts of the subterm u stand, whose row is k. -/
def PartsAt (S : List (List Sy × Tv)) (k : Nat) (c : List Sy) (kids : List Int) : Tv → Prop
  | .abs s b => kids = [((k + 1 : Nat) : Int)] ∧ S[k + 1]? = some (s :: c, b)
  | .app f x => kids = [((k + 1 : Nat) : Int), ((k + 1 + f.nodes : Nat) : Int)] ∧ S[k + 1]? = some (c, f) ∧ S[k + 1 + f.nodes]? = some (c, x)
  | _ => kids = []
/-- Row k is that of the subterm k. -/
def RowFits (L : List TRow) (S : List (List Sy × Tv)) (k : Nat) : Prop :=
  ∃ (c : List Sy) (u : Tv) (r : TRow), S[k]? = some (c, u) ∧ L[k]? = some r ∧ r.kind = u.lab.kind ∧ r.nm = u.lab.nm ∧ r.ty = u.lab.ty ∧ r.ix = u.lab.ix ∧ r.up < k ∧ UpCtx L r.up c ∧ PartsAt S k c r.kids u

theorem get_mid {α : Type} {A B : List α} {l : List α} {n j : Nat} (hn : A.length = n) (hj : j < l.length) : (A ++ l ++ B)[n + j]? = l[j]? := by
  subst hn
  rw [List.append_assoc, List.getElem?_append_right (by omega), List.getElem?_append_left (by omega)]
  congr 1; omega

theorem rows_fit : ∀ (v : Tv) (c : List Sy) (up : Int) (n : Nat) (A B : List TRow) (A' B' : List (List Sy × Tv)), A.length = n → A'.length = n → up < n → UpCtx (A ++ rowsOf v.tm up n ++ B) up c →
    ∀ j, j < v.nodes → RowFits (A ++ rowsOf v.tm up n ++ B) (A' ++ v.subs c ++ B') (n + j)
  | .con nm s, c, up, n, A, B, A', B', h1, h2, hup, hu, j, hj => by
    simp only [Tv.nodes] at hj
    obtain rfl : j = 0 := by omega
    refine ⟨c, .con nm s, ⟨1, nm, s.ty, 0, [], up⟩, ?_, ?_, rfl, rfl, rfl, rfl, by simp only; omega, hu, rfl⟩
    · rw [get_mid h2 (by simp [Tv.subs])]; rfl
    · rw [get_mid h1 (by simp [Tv.tm, rowsOf])]; rfl
  | .var i, c, up, n, A, B, A', B', h1, h2, hup, hu, j, hj => by
    simp only [Tv.nodes] at hj
    obtain rfl : j = 0 := by omega
    refine ⟨c, .var i, ⟨2, bNil, noTy, i, [], up⟩, ?_, ?_, rfl, rfl, rfl, rfl, by simp only; omega, hu, rfl⟩
    · rw [get_mid h2 (by simp [Tv.subs])]; rfl
    · rw [get_mid h1 (by simp [Tv.tm, rowsOf])]; rfl
  | .abs s b, c, up, n, A, B, A', B', h1, h2, hup, hu, j, hj => by
    have eR : A ++ rowsOf (Tv.abs s b).tm up n ++ B = (A ++ [⟨3, bNil, s.ty, 0, [((n + 1 : Nat) : Int)], up⟩]) ++ rowsOf b.tm n (n + 1) ++ B := by
      simp [Tv.tm, rowsOf, rowssOf, kidsAt]
    have eS : A' ++ (Tv.abs s b).subs c ++ B' = (A' ++ [(c, .abs s b)]) ++ b.subs (s :: c) ++ B' := by simp [Tv.subs]
    have h0 : (A ++ rowsOf (Tv.abs s b).tm up n ++ B)[n]? = some ⟨3, bNil, s.ty, 0, [((n + 1 : Nat) : Int)], up⟩ := by
      rw [eR, List.append_assoc, List.append_assoc, List.getElem?_append_right (by omega), h1, Nat.sub_self]; rfl
    have s0 : (A' ++ (Tv.abs s b).subs c ++ B')[n]? = some (c, .abs s b) := by
      rw [eS, List.append_assoc, List.append_assoc, List.getElem?_append_right (by omega), h2, Nat.sub_self]; rfl
    have hb := b.nodes_pos
    have s1 : (A' ++ (Tv.abs s b).subs c ++ B')[n + 1]? = some (s :: c, b) := by
      rw [eS, show n + 1 = (n + 1) + 0 by omega, get_mid (by simp [h2]) (by rw [Tv.subs_len]; omega)]
      cases b <;> rfl
    cases j with
    | zero => exact ⟨c, .abs s b, _, s0, h0, rfl, rfl, rfl, rfl, by simp only; omega, hu, rfl, s1⟩
    | succ j =>
      simp only [Tv.nodes] at hj
      have ih := rows_fit b (s :: c) n (n + 1) (A ++ [⟨3, bNil, s.ty, 0, [((n + 1 : Nat) : Int)], up⟩]) B (A' ++ [(c, .abs s b)]) B' (by simp [h1]) (by simp [h2]) (by omega) (by rw [← eR]; exact .abs h0 rfl rfl hup hu) j (by omega)
      rw [eR, eS, show n + (j + 1) = n + 1 + j by omega]
      exact ih
  | .app f x, c, up, n, A, B, A', B', h1, h2, hup, hu, j, hj => by
    have eR : A ++ rowsOf (Tv.app f x).tm up n ++ B = (A ++ [⟨4, bNil, noTy, 0, [((n + 1 : Nat) : Int), ((n + 1 + f.nodes : Nat) : Int)], up⟩]) ++ rowsOf f.tm n (n + 1) ++ (rowsOf x.tm n (n + 1 + f.nodes) ++ B) := by
      simp [Tv.tm, rowsOf, rowssOf, kidsAt, Tv.tm_nodes]
    have eR2 : A ++ rowsOf (Tv.app f x).tm up n ++ B = (A ++ [⟨4, bNil, noTy, 0, [((n + 1 : Nat) : Int), ((n + 1 + f.nodes : Nat) : Int)], up⟩] ++ rowsOf f.tm n (n + 1)) ++ rowsOf x.tm n (n + 1 + f.nodes) ++ B := by
      rw [eR]; simp
    have eS : A' ++ (Tv.app f x).subs c ++ B' = (A' ++ [(c, .app f x)]) ++ f.subs c ++ (x.subs c ++ B') := by simp [Tv.subs]
    have eS2 : A' ++ (Tv.app f x).subs c ++ B' = (A' ++ [(c, .app f x)] ++ f.subs c) ++ x.subs c ++ B' := by simp [Tv.subs]
    have h0 : (A ++ rowsOf (Tv.app f x).tm up n ++ B)[n]? = some ⟨4, bNil, noTy, 0, [((n + 1 : Nat) : Int), ((n + 1 + f.nodes : Nat) : Int)], up⟩ := by
      rw [eR, List.append_assoc, List.append_assoc, List.getElem?_append_right (by omega), h1, Nat.sub_self]; rfl
    have s0 : (A' ++ (Tv.app f x).subs c ++ B')[n]? = some (c, .app f x) := by
      rw [eS, List.append_assoc, List.append_assoc, List.getElem?_append_right (by omega), h2, Nat.sub_self]; rfl
    have s1 : (A' ++ (Tv.app f x).subs c ++ B')[n + 1]? = some (c, f) := by
      have := f.nodes_pos
      rw [eS, show n + 1 = (n + 1) + 0 by omega, get_mid (by simp [h2]) (by rw [Tv.subs_len]; omega)]
      cases f <;> rfl
    have s2 : (A' ++ (Tv.app f x).subs c ++ B')[n + 1 + f.nodes]? = some (c, x) := by
      have := x.nodes_pos
      rw [eS2, show n + 1 + f.nodes = (n + 1 + f.nodes) + 0 by omega, get_mid (by simp [h2, Tv.subs_len]; omega) (by rw [Tv.subs_len]; omega)]
      cases x <;> rfl
    cases j with
    | zero => exact ⟨c, .app f x, _, s0, h0, rfl, rfl, rfl, rfl, by simp only; omega, hu, rfl, s1, s2⟩
    | succ j =>
      simp only [Tv.nodes] at hj
      have hu1 : UpCtx (A ++ rowsOf (Tv.app f x).tm up n ++ B) n c := .other h0 (show ¬ ((4 : Int) = 3) by decide) hup hu
      by_cases hjf : j < f.nodes
      · have ih := rows_fit f c n (n + 1) (A ++ [⟨4, bNil, noTy, 0, [((n + 1 : Nat) : Int), ((n + 1 + f.nodes : Nat) : Int)], up⟩]) (rowsOf x.tm n (n + 1 + f.nodes) ++ B) (A' ++ [(c, .app f x)]) (x.subs c ++ B') (by simp [h1]) (by simp [h2]) (by omega) (by rw [← eR]; exact hu1) j hjf
        rw [eR, eS, show n + (j + 1) = n + 1 + j by omega]
        exact ih
      · obtain ⟨k, rfl⟩ : ∃ k, j = f.nodes + k := ⟨j - f.nodes, by omega⟩
        have ih := rows_fit x c n (n + 1 + f.nodes) (A ++ [⟨4, bNil, noTy, 0, [((n + 1 : Nat) : Int), ((n + 1 + f.nodes : Nat) : Int)], up⟩] ++ rowsOf f.tm n (n + 1)) B (A' ++ [(c, .app f x)] ++ f.subs c) B' (by simp [h1, rowsOf_len, Tv.tm_nodes]; omega) (by simp [h2, Tv.subs_len]; omega) (by omega) (by rw [← eR2]; exact hu1) k (by omega)
        rw [eR2, eS2, show n + (f.nodes + k + 1) = n + 1 + f.nodes + k by omega]
        exact ih
theorem rows_fit0 (v : Tv) (k : Nat) (hk : k < v.nodes) : RowFits (rowsOf v.tm (-1) 0) (v.subs []) k := by
  have := rows_fit v [] (-1) 0 [] [] [] [] rfl rfl (by omega) .nil k hk
  simpa using this

/-- Contexts are no longer than the term is large. -/
theorem Tv.subs_ctx : ∀ (v : Tv) (c : List Sy), ∀ p ∈ v.subs c, p.1.length ≤ c.length + v.nodes
  | .con _ _, c, p, hp => by simp [Tv.subs] at hp; subst hp; simp
  | .var _, c, p, hp => by simp [Tv.subs] at hp; subst hp; simp
  | .abs s b, c, p, hp => by
    simp only [Tv.subs, List.mem_cons] at hp
    rcases hp with rfl | hp
    · simp
    · have := Tv.subs_ctx b (s :: c) p hp
      simp only [List.length_cons, Tv.nodes] at this ⊢; omega
  | .app f x, c, p, hp => by
    simp only [Tv.subs, List.mem_cons, List.mem_append] at hp
    simp only [Tv.nodes]
    rcases hp with rfl | hp | hp
    · simp
    · have := Tv.subs_ctx f c p hp; omega
    · have := Tv.subs_ctx x c p hp; omega
/-- A part without a type: the whole has none. -/
theorem Tv.subs_some : ∀ (v : Tv) (c : List Sy) (s : Sy), Tv.typ c v = some s → ∀ p ∈ v.subs c, (Tv.typ p.1 p.2).isSome = true
  | .con _ _, c, s, h, p, hp => by simp [Tv.subs] at hp; subst hp; simp [h]
  | .var _, c, s, h, p, hp => by simp [Tv.subs] at hp; subst hp; simp [h]
  | .abs s b, c, u, h, p, hp => by
    simp only [Tv.subs, List.mem_cons] at hp
    rcases hp with rfl | hp
    · simp [h]
    · simp only [Tv.typ, Option.map_eq_some_iff] at h
      obtain ⟨r, h1, _⟩ := h
      exact Tv.subs_some b (s :: c) r h1 p hp
  | .app f x, c, u, h, p, hp => by
    simp only [Tv.subs, List.mem_cons, List.mem_append] at hp
    rcases hp with rfl | hp
    · simp [h]
    · simp only [Tv.typ] at h
      split at h
      · rename_i a b s' e1 e2
        rcases hp with hp | hp
        · exact Tv.subs_some f c _ e1 p hp
        · exact Tv.subs_some x c _ e2 p hp
      · simp at h

end Go.Proofs.YthflahcnkhmpaaaDoor
