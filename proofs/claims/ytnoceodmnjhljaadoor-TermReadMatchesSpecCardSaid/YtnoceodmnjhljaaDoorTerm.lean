/-
  Terms: as they lie in memory (Tm: trees whose nodes bear kind, name, index, type), and the valid ones as a plain inductive type (Tv). Nothing here names the program.
-/
import Derived.Test.YtnoceodmnjhljaaDoorTree
import Derived.Test.YtnoceodmnjhljaaDoorSy
import Derived.Test.YtnoceodmnjhljaaDoorSimple
import Derived.Test.YtnoceodmnjhljaaDoorOkName
namespace Go.Proofs.YtnoceodmnjhljaaDoor
open Go Go.RowKit
set_option linter.unusedSimpArgs false
set_option linter.unusedVariables false

/-- What a node of a term bears. -/
structure TmL where
  kind : Int
  nm : ByteArray
  ix : Int
  ty : Ty
abbrev Tm := Tree TmL

def tmL : Rep TmL where
  size := 5
  R w S a cs := ∃ u0 u1, cs = [.int .i64 a.kind, .string a.nm, .int .i64 a.ix, u0, u1] ∧ a.nm.size ≤ maxLen ∧ Ty.In w S a.ty u0 u1
  pos := by omega
  len := by rintro w S a cs ⟨u0, u1, rfl, _⟩; rfl
  one := by
    rintro w S a cs ⟨u0, u1, rfl, _, h⟩ u hu
    obtain ⟨s, A, n, c, rfl, rfl⟩ := h.shape
    simp at hu
    rcases hu with rfl | rfl | rfl | rfl | rfl <;> rfl
  keep := by
    rintro w w' S S' a cs ⟨u0, u1, rfl, h0, h⟩ hk hS
    exact ⟨u0, u1, rfl, h0, Ty.In_keep hk hS _ _ _ h⟩
abbrev tmRep : Rep Tm := treeRep tmL

/-- A term in memory, taken apart. -/
theorem Tm.open_ {w : World} {S : Nat → Prop} {a : TmL} {l : List Tm} {cs : List Value} (h : tmRep.R w S (.mk a l) cs) :
    ∃ u0 u1 v, cs = [.int .i64 a.kind, .string a.nm, .int .i64 a.ix, u0, u1, v] ∧ a.nm.size ≤ maxLen ∧ Ty.In w S a.ty u0 u1 ∧ tmRep.Sl w S v l := by
  obtain ⟨hs, v, rfl, ⟨u0, u1, rfl, h1, h2⟩, h3⟩ := Tree.In_iff.1 h
  exact ⟨u0, u1, v, rfl, h1, h2, h3⟩
theorem Tm.shut {w : World} {S : Nat → Prop} {a : TmL} {l : List Tm} {u0 u1 v : Value} (h1 : a.nm.size ≤ maxLen) (h2 : Ty.In w S a.ty u0 u1) (h3 : tmRep.Sl w S v l) :
    tmRep.R w S (.mk a l) [.int .i64 a.kind, .string a.nm, .int .i64 a.ix, u0, u1, v] :=
  Tree.In_iff.2 ⟨[.int .i64 a.kind, .string a.nm, .int .i64 a.ix, u0, u1], v, rfl, ⟨u0, u1, rfl, h1, h2⟩, h3⟩
theorem Tm.shape {w : World} {S : Nat → Prop} {t : Tm} {cs : List Value} (h : tmRep.R w S t cs) :
    ∃ s' A' n' c' A n c, cs = [.int .i64 t.lab.kind, .string t.lab.nm, .int .i64 t.lab.ix, .string s', .slice A' n' c', .slice A n c] ∧ t.kids.length = n ∧ n ≤ maxLen := by
  obtain ⟨a, l⟩ := t
  obtain ⟨u0, u1, v, rfl, h1, h2, A, n, c, rfl, h3, h4, _⟩ := Tm.open_ h
  obtain ⟨s', A', n', c', rfl, rfl⟩ := h2.shape
  exact ⟨_, _, _, _, _, _, _, rfl, h3, h4⟩

/-! ### Validation -/

def noTy : Ty := .mk bNil []
def Ty.blank : Ty → Bool
  | .mk s l => decide (s = bNil) && decide (l.length = 0)
theorem Ty.of_blank {t : Ty} (h : t.blank = true) : t = noTy := by
  obtain ⟨s, l⟩ := t
  simp only [Ty.blank, Bool.and_eq_true, decide_eq_true_eq] at h
  obtain ⟨rfl, h2⟩ := h
  rw [List.eq_nil_of_length_eq_zero h2]; rfl

open Classical in
/-- The code for a node. -/
noncomputable def TmL.code (a : TmL) (n bd : Nat) : Nat :=
  if a.kind = 1 then (if a.ix ≠ 0 ∨ n ≠ 0 then 5 else if okName a.nm = false then 10 else if a.ty.fault ≠ 0 then 12 else 0)
  else if a.kind = 2 then (if a.nm ≠ bNil ∨ a.ty.blank = false ∨ n ≠ 0 then 5 else if a.ix < 0 ∨ (bd : Int) ≤ a.ix then 15 else 0)
  else if a.kind = 3 then (if a.nm ≠ bNil ∨ a.ix ≠ 0 ∨ n ≠ 1 then 5 else if a.ty.fault ≠ 0 then 12 else 0)
  else if a.kind = 4 then (if a.nm ≠ bNil ∨ a.ix ≠ 0 ∨ a.ty.blank = false ∨ n ≠ 2 then 5 else 0)
  else 4

/-- Behind a node: how many variables are bound. -/
def TmL.under (a : TmL) (bd : Nat) : Nat := if a.kind = 3 then bd + 1 else bd

mutual
/-- The code, the place, how many nodes were counted. -/
noncomputable def tmVal : Tree TmL → Nat → Nat → Nat → Nat × Nat × Nat
  | .mk a l, d, bd, n => if 200 < n + 1 ∨ 40 < d then (1, n, n + 1) else if a.code l.length bd = 0 then tmVals l (d + 1) (a.under bd) (n + 1) else (a.code l.length bd, n, n + 1)
noncomputable def tmVals : List (Tree TmL) → Nat → Nat → Nat → Nat × Nat × Nat
  | [], _, _, n => (0, 0, n)
  | t :: l, d, bd, n => if (tmVal t d bd n).1 = 0 then tmVals l d bd (tmVal t d bd n).2.2 else tmVal t d bd n
end
mutual
theorem tmVal_le : ∀ (t : Tree TmL) (d bd n : Nat), n ≤ 200 → (tmVal t d bd n).2.2 ≤ 201 ∧ ((tmVal t d bd n).1 = 0 → (tmVal t d bd n).2.2 ≤ 200 ∧ (tmVal t d bd n).2.1 = 0)
  | .mk a l, d, bd, n, h => by
    unfold tmVal
    split
    · simp; omega
    · split
      · have := tmVals_le l (d + 1) (a.under bd) (n + 1) (by omega)
        exact this
      · rename_i hc
        exact ⟨by simp only; omega, fun e => absurd e hc⟩
theorem tmVals_le : ∀ (l : List (Tree TmL)) (d bd n : Nat), n ≤ 200 → (tmVals l d bd n).2.2 ≤ 201 ∧ ((tmVals l d bd n).1 = 0 → (tmVals l d bd n).2.2 ≤ 200 ∧ (tmVals l d bd n).2.1 = 0)
  | [], d, bd, n, h => by unfold tmVals; simp; omega
  | t :: l, d, bd, n, h => by
    unfold tmVals
    have h1 := tmVal_le t d bd n h
    split
    · rename_i e
      exact tmVals_le l d bd _ (h1.2 e).1
    · exact h1
end

/-! ### Valid terms -/

inductive Tv where
  | con (nm : ByteArray) (s : Sy)
  | var (i : Nat)
  | abs (s : Sy) (b : Tv)
  | app (f x : Tv)

def Tv.tm : Tv → Tm
  | .con nm s => .mk ⟨1, nm, 0, s.ty⟩ []
  | .var i => .mk ⟨2, bNil, i, noTy⟩ []
  | .abs s b => .mk ⟨3, bNil, 0, s.ty⟩ [b.tm]
  | .app f x => .mk ⟨4, bNil, 0, noTy⟩ [f.tm, x.tm]
def Tv.nodes : Tv → Nat
  | .con _ _ | .var _ => 1
  | .abs _ b => b.nodes + 1
  | .app f x => f.nodes + x.nodes + 1
def Tv.depth : Tv → Nat
  | .con _ _ | .var _ => 1
  | .abs _ b => b.depth + 1
  | .app f x => max f.depth x.depth + 1
/-- Well-formed where bd variables are bound. -/
def Tv.ok : Tv → Nat → Prop
  | .con nm s, _ => okName nm = true ∧ s.ty.fault = 0
  | .var i, bd => i < bd
  | .abs s b, bd => s.ty.fault = 0 ∧ b.ok (bd + 1)
  | .app f x, bd => f.ok bd ∧ x.ok bd
/-- The type, the context's innermost variable first. -/
def Tv.typ : List Sy → Tv → Option Sy
  | _, .con _ s => some s
  | c, .var i => c[i]?
  | c, .abs s b => (Tv.typ (s :: c) b).map (.fn s)
  | c, .app f x => match Tv.typ c f, Tv.typ c x with
    | some (.fn a b), some u => if a = u then some b else none
    | _, _ => none

theorem Tv.tm_nodes : ∀ v : Tv, v.tm.nodes = v.nodes
  | .con _ _ => by simp [Tv.tm, Tree.nodes, Tree.nodess, Tv.nodes]
  | .var _ => by simp [Tv.tm, Tree.nodes, Tree.nodess, Tv.nodes]
  | .abs _ b => by simp [Tv.tm, Tree.nodes, Tree.nodess, Tv.nodes, Tv.tm_nodes b]; omega
  | .app f x => by simp [Tv.tm, Tree.nodes, Tree.nodess, Tv.nodes, Tv.tm_nodes f, Tv.tm_nodes x]; omega
theorem Tv.tm_depth : ∀ v : Tv, v.tm.depth = v.depth
  | .con _ _ => by simp [Tv.tm, Tree.depth, Tree.depths, Tv.depth]
  | .var _ => by simp [Tv.tm, Tree.depth, Tree.depths, Tv.depth]
  | .abs _ b => by simp [Tv.tm, Tree.depth, Tree.depths, Tv.depth, Tv.tm_depth b]
  | .app f x => by simp [Tv.tm, Tree.depth, Tree.depths, Tv.depth, Tv.tm_depth f, Tv.tm_depth x]
theorem Tv.nodes_pos (v : Tv) : 0 < v.nodes := by cases v <;> simp [Tv.nodes]
theorem Tv.depth_pos (v : Tv) : 0 < v.depth := by cases v <;> simp [Tv.depth]
theorem Tv.ok_mono : ∀ (v : Tv) {m n : Nat}, v.ok m → m ≤ n → v.ok n
  | .con _ _, _, _, h, _ => h
  | .var _, _, _, h, hm => Nat.lt_of_lt_of_le h hm
  | .abs _ b, _, _, h, hm => ⟨h.1, b.ok_mono h.2 (by omega)⟩
  | .app f x, _, _, h, hm => ⟨f.ok_mono h.1 hm, x.ok_mono h.2 hm⟩

theorem Tv.tm_inj : ∀ (a b : Tv), a.tm = b.tm → a = b
  | .con _ _, .con _ _, h => by
    simp only [Tv.tm, Tree.mk.injEq, TmL.mk.injEq, and_true, true_and] at h
    rw [h.1, Sy.ty_inj _ _ h.2]
  | .var i, .var j, h => by
    simp only [Tv.tm, Tree.mk.injEq, TmL.mk.injEq, and_true, true_and] at h
    rw [Int.ofNat.inj h]
  | .abs s b, .abs s' b', h => by
    simp only [Tv.tm, Tree.mk.injEq, TmL.mk.injEq, and_true, true_and, List.cons.injEq] at h
    rw [Sy.ty_inj _ _ h.1, Tv.tm_inj b b' h.2]
  | .app f x, .app f' x', h => by
    simp only [Tv.tm, Tree.mk.injEq, and_true, true_and, List.cons.injEq] at h
    rw [Tv.tm_inj f f' h.1, Tv.tm_inj x x' h.2]
  | .con _ _, .var _, h => by simp [Tv.tm] at h
  | .con _ _, .abs _ _, h => by simp [Tv.tm] at h
  | .con _ _, .app _ _, h => by simp [Tv.tm] at h
  | .var _, .con _ _, h => by simp [Tv.tm] at h
  | .var _, .abs _ _, h => by simp [Tv.tm] at h
  | .var _, .app _ _, h => by simp [Tv.tm] at h
  | .abs _ _, .con _ _, h => by simp [Tv.tm] at h
  | .abs _ _, .var _, h => by simp [Tv.tm] at h
  | .abs _ _, .app _ _, h => by simp [Tv.tm] at h
  | .app _ _, .con _ _, h => by simp [Tv.tm] at h
  | .app _ _, .var _, h => by simp [Tv.tm] at h
  | .app _ _, .abs _ _, h => by simp [Tv.tm] at h

theorem noTy_blank : noTy.blank = true := by simp [noTy, Ty.blank]
theorem Tv.val_ok : ∀ (v : Tv) (d bd n : Nat), v.ok bd → n + v.nodes ≤ 200 → d + v.depth ≤ 41 → tmVal v.tm d bd n = (0, 0, n + v.nodes)
  | .con nm s, d, bd, n, h, h1, h2 => by
    simp only [Tv.nodes, Tv.depth] at *
    unfold Tv.tm tmVal
    rw [if_neg (by omega), if_pos (by simp [TmL.code, h.1, h.2])]
    unfold tmVals; rfl
  | .var i, d, bd, n, h, h1, h2 => by
    simp only [Tv.nodes, Tv.depth] at *
    unfold Tv.tm tmVal
    rw [if_neg (by omega), if_pos (by simp only [Tv.ok] at h; simp [TmL.code, noTy_blank]; omega)]
    unfold tmVals; rfl
  | .abs s b, d, bd, n, h, h1, h2 => by
    simp only [Tv.nodes, Tv.depth] at *
    unfold Tv.tm tmVal
    rw [if_neg (by omega), if_pos (by simp [TmL.code, h.1])]
    have ih := Tv.val_ok b (d + 1) (bd + 1) (n + 1) h.2 (by omega) (by omega)
    unfold tmVals
    simp only [TmL.under, if_true]
    rw [ih]
    simp only [if_true]
    unfold tmVals
    rw [show n + 1 + b.nodes = n + (b.nodes + 1) by omega]
  | .app f x, d, bd, n, h, h1, h2 => by
    simp only [Tv.nodes, Tv.depth] at *
    unfold Tv.tm tmVal
    rw [if_neg (by omega), if_pos (by simp [TmL.code, noTy_blank])]
    have ih := Tv.val_ok f (d + 1) bd (n + 1) h.1 (by omega) (by omega)
    have ih2 := Tv.val_ok x (d + 1) bd (n + 1 + f.nodes) h.2 (by omega) (by omega)
    unfold tmVals
    simp only [TmL.under, show ¬ ((4 : Int) = 3) by decide, if_false]
    rw [ih]
    simp only [if_true]
    unfold tmVals
    rw [ih2]
    simp only [if_true]
    unfold tmVals
    rw [show n + 1 + f.nodes + x.nodes = n + (f.nodes + x.nodes + 1) by omega]

theorem Sy.of_fault {t : Ty} (h : t.fault = 0) : ∃ s : Sy, t = s.ty := by
  obtain ⟨s, h1, _⟩ := Ty.val_zero t 1 0 h
  exact ⟨s, h1⟩
theorem Tv.of_val : ∀ (N : Nat) (t : Tm), t.nodes ≤ N → ∀ (d bd n : Nat), (tmVal t d bd n).1 = 0 → ∃ v : Tv, t = v.tm ∧ v.ok bd ∧ (tmVal t d bd n).2.2 = n + v.nodes ∧ n + v.nodes ≤ 200 ∧ d + v.depth ≤ 41 := by
  intro N
  induction N with
  | zero => intro t h; have := Tree.nodes_pos t; omega
  | succ N ih =>
  rintro ⟨a, l⟩ hN d bd n h
  obtain ⟨kind, nm, ix, ty⟩ := a
  unfold tmVal at h ⊢
  by_cases hg : 200 < n + 1 ∨ 40 < d
  · rw [if_pos hg] at h; simp at h
  rw [if_neg hg] at h ⊢
  by_cases hc : TmL.code ⟨kind, nm, ix, ty⟩ l.length bd = 0
  case neg => rw [if_neg hc] at h; exact absurd h hc
  rw [if_pos hc] at h ⊢
  unfold TmL.code at hc
  simp only [Tree.nodes] at hN
  by_cases h1 : kind = 1
  · subst h1
    simp only [if_true] at hc
    split at hc
    · simp at hc
    split at hc
    · simp at hc
    split at hc
    · simp at hc
    rename_i p1 p2 p3
    have hl : l = [] := List.eq_nil_of_length_eq_zero (by omega)
    have hx : ix = 0 := by omega
    subst hl hx
    obtain ⟨s, rfl⟩ := Sy.of_fault (t := ty) (by simpa using p3)
    refine ⟨.con nm s, rfl, ⟨by simpa using p2, by simpa using p3⟩, ?_, by simp [Tv.nodes]; omega, by simp [Tv.depth]; omega⟩
    unfold tmVals; rfl
  by_cases h2 : kind = 2
  · subst h2
    simp only [show ¬ ((2 : Int) = 1) by decide, if_true, if_false] at hc
    split at hc
    · simp at hc
    split at hc
    · simp at hc
    rename_i p1 p2
    have hl : l = [] := List.eq_nil_of_length_eq_zero (by omega)
    have hnm : nm = bNil := Classical.byContradiction fun hh => p1 (Or.inl hh)
    have hty : ty = noTy := Ty.of_blank (by cases hb : ty.blank <;> simp_all)
    subst hl hnm hty
    obtain ⟨i, rfl⟩ : ∃ i : Nat, ix = i := ⟨ix.toNat, by omega⟩
    refine ⟨.var i, rfl, show i < bd by omega, ?_, by simp [Tv.nodes]; omega, by simp [Tv.depth]; omega⟩
    unfold tmVals; rfl
  by_cases h3 : kind = 3
  · subst h3
    simp only [show ¬ ((3 : Int) = 1) by decide, show ¬ ((3 : Int) = 2) by decide, if_true, if_false] at hc
    split at hc
    · simp at hc
    split at hc
    · simp at hc
    rename_i p1 p2
    have hnm : nm = bNil := Classical.byContradiction fun hh => p1 (Or.inl hh)
    have hx : ix = 0 := by omega
    obtain ⟨s, rfl⟩ := Sy.of_fault (t := ty) (by simpa using p2)
    have hl1 : l.length = 1 := by omega
    match l, hl1 with
    | [t], _ =>
    subst hnm hx
    simp only [TmL.under, if_true] at h ⊢
    unfold tmVals at h ⊢
    by_cases e : (tmVal t (d + 1) (bd + 1) (n + 1)).1 = 0
    case neg => rw [if_neg e] at h; exact absurd h e
    rw [if_pos e] at h ⊢
    obtain ⟨v, rfl, q1, q2, q3, q4⟩ := ih t (by simp [Tree.nodess] at hN; omega) _ _ _ e
    refine ⟨.abs s v, rfl, ⟨by simpa using p2, q1⟩, ?_, by simp [Tv.nodes]; omega, by simp [Tv.depth]; omega⟩
    unfold tmVals
    simp only [q2, Tv.nodes]; omega
  by_cases h4 : kind = 4
  · subst h4
    simp only [show ¬ ((4 : Int) = 1) by decide, show ¬ ((4 : Int) = 2) by decide, show ¬ ((4 : Int) = 3) by decide, if_true, if_false] at hc
    split at hc
    · simp at hc
    rename_i p1
    have hnm : nm = bNil := Classical.byContradiction fun hh => p1 (Or.inl hh)
    have hx : ix = 0 := by omega
    have hty : ty = noTy := Ty.of_blank (by cases hb : ty.blank <;> simp_all)
    have hl1 : l.length = 2 := by omega
    match l, hl1 with
    | [t, u], _ =>
    subst hnm hx hty
    simp only [TmL.under, show ¬ ((4 : Int) = 3) by decide, if_false] at h ⊢
    unfold tmVals at h ⊢
    by_cases e : (tmVal t (d + 1) bd (n + 1)).1 = 0
    case neg => rw [if_neg e] at h; exact absurd h e
    rw [if_pos e] at h ⊢
    obtain ⟨v, rfl, q1, q2, q3, q4⟩ := ih t (by simp [Tree.nodess] at hN; omega) _ _ _ e
    unfold tmVals at h ⊢
    rw [q2] at h ⊢
    by_cases e2 : (tmVal u (d + 1) bd (n + 1 + v.nodes)).1 = 0
    case neg => rw [if_neg e2] at h; exact absurd h e2
    rw [if_pos e2] at h ⊢
    obtain ⟨x, rfl, r1, r2, r3, r4⟩ := ih u (by simp [Tree.nodess] at hN; omega) _ _ _ e2
    refine ⟨.app v x, rfl, ⟨q1, r1⟩, ?_, by simp [Tv.nodes]; omega, by simp [Tv.depth]; omega⟩
    unfold tmVals
    simp only [r2, Tv.nodes]; omega
  · simp [h1, h2, h3, h4] at hc

open Classical in
/-- The fault of a closed term. -/
noncomputable def tmFault (t : Tm) : Nat × Int :=
  if (tmVal t 1 0 0).1 ≠ 0 then ((tmVal t 1 0 0).1, (tmVal t 1 0 0).2.1)
  else if ∃ v : Tv, t = v.tm ∧ (v.typ []).isSome = true then (0, 0) else (12, -1)
theorem tmFault_zero {t : Tm} (h : (tmFault t).1 = 0) : ∃ (v : Tv) (s : Sy), t = v.tm ∧ v.ok 0 ∧ v.nodes ≤ 200 ∧ v.depth ≤ 40 ∧ v.typ [] = some s ∧ tmFault t = (0, 0) := by
  unfold tmFault at h ⊢
  split at h
  · rename_i e; exact absurd h e
  rename_i e
  split at h
  · rename_i e2
    obtain ⟨v, rfl, h2⟩ := e2
    obtain ⟨v', h3, h4, h5, h6, h7⟩ := Tv.of_val _ _ (Nat.le_refl _) 1 0 0 (by simpa using e)
    obtain rfl := Tv.tm_inj _ _ h3
    obtain ⟨s, hs⟩ := Option.isSome_iff_exists.1 h2
    refine ⟨v, s, rfl, h4, by omega, by omega, hs, ?_⟩
    rw [if_neg e, if_pos ⟨v, rfl, h2⟩]
  · simp at h
theorem tmFault_ok {v : Tv} {s : Sy} (h : v.ok 0) (h1 : v.nodes ≤ 200) (h2 : v.depth ≤ 40) (h3 : v.typ [] = some s) : tmFault v.tm = (0, 0) := by
  unfold tmFault
  rw [Tv.val_ok v 1 0 0 h (by omega) (by omega)]
  simp only [ne_eq, not_true_eq_false, if_false]
  rw [if_pos ⟨v, rfl, by simp [h3]⟩]
theorem TmL.code_le (a : TmL) (n bd : Nat) : a.code n bd ≤ 15 := by
  unfold TmL.code
  repeat' split
  all_goals omega
mutual
theorem tmVal_le2 : ∀ (t : Tree TmL) (d bd n : Nat), n ≤ 200 → (tmVal t d bd n).1 ≤ 15 ∧ (tmVal t d bd n).2.1 ≤ 200
  | .mk a l, d, bd, n, h => by
    unfold tmVal
    split
    · simp; omega
    · split
      · exact tmVals_le2 l (d + 1) (a.under bd) (n + 1) (by omega)
      · exact ⟨a.code_le _ _, h⟩
theorem tmVals_le2 : ∀ (l : List (Tree TmL)) (d bd n : Nat), n ≤ 200 → (tmVals l d bd n).1 ≤ 15 ∧ (tmVals l d bd n).2.1 ≤ 200
  | [], d, bd, n, h => by unfold tmVals; simp
  | t :: l, d, bd, n, h => by
    unfold tmVals
    split
    · rename_i e
      exact tmVals_le2 l d bd _ ((tmVal_le t d bd n h).2 e).1
    · exact tmVal_le2 t d bd n h
end
theorem tmFault_le (t : Tm) : (tmFault t).2 ≤ 200 ∧ -1 ≤ (tmFault t).2 ∧ (tmFault t).1 ≤ 15 := by
  have h := tmVal_le2 t 1 0 0 (by omega)
  unfold tmFault
  split
  · exact ⟨by simp only; omega, by simp only; omega, by simp only; omega⟩
  · split <;> simp

end Go.Proofs.YtnoceodmnjhljaaDoor
