/-
  The table of a term (the reference's rows), plain: the rows in preorder, the subterm and the context of each, the binder of a variable. Nothing here names the program.
-/
import Derived.Test.YtnoceodmnjhljaaDoorCloneTm
namespace Go.Proofs.YtnoceodmnjhljaaDoor
open Go Go.RowKit
set_option linter.unusedSimpArgs false
set_option linter.unusedVariables false

structure TRow where
  kind : Int
  nm : ByteArray
  ty : Ty
  ix : Int
  kids : List Int
  up : Int

/-- Where the parts begin. -/
def kidsAt : List Tm → Nat → List Int
  | [], _ => []
  | t :: l, n => (n : Int) :: kidsAt l (n + t.nodes)
mutual
/-- The rows of a term whose first row has the number n. -/
def rowsOf : Tm → Int → Nat → List TRow
  | .mk a l, up, n => ⟨a.kind, a.nm, a.ty, a.ix, kidsAt l (n + 1), up⟩ :: rowssOf l n (n + 1)
def rowssOf : List Tm → Int → Nat → List TRow
  | [], _, _ => []
  | t :: l, up, n => rowsOf t up n ++ rowssOf l up (n + t.nodes)
end
mutual
theorem rowsOf_len : ∀ (t : Tm) (up : Int) (n : Nat), (rowsOf t up n).length = t.nodes
  | .mk a l, up, n => by simp [rowsOf, rowssOf_len l, Tree.nodes]; omega
theorem rowssOf_len : ∀ (l : List Tm) (up : Int) (n : Nat), (rowssOf l up n).length = Tree.nodess l
  | [], _, _ => rfl
  | t :: l, up, n => by simp [rowssOf, rowsOf_len t, rowssOf_len l, Tree.nodess]
end

/-- Each row's context (the innermost variable first) and subterm. -/
def Tv.subs : List Sy → Tv → List (List Sy × Tv)
  | c, .con nm s => [(c, .con nm s)]
  | c, .var i => [(c, .var i)]
  | c, .abs s b => (c, .abs s b) :: Tv.subs (s :: c) b
  | c, .app f x => (c, .app f x) :: (Tv.subs c f ++ Tv.subs c x)
theorem Tv.subs_len : ∀ (v : Tv) (c : List Sy), (v.subs c).length = v.nodes
  | .con _ _, _ => rfl
  | .var _, _ => rfl
  | .abs s b, c => by simp [Tv.subs, Tv.nodes, Tv.subs_len b]
  | .app f x, c => by simp [Tv.subs, Tv.nodes, Tv.subs_len f, Tv.subs_len x]
/-- Of a term without a type the last row without one is an application of typed parts that do not fit. -/
theorem Tv.subs_typ : ∀ (v : Tv) (c : List Sy), v.ok c.length → (∀ p ∈ v.subs c, p.2.ok p.1.length)
  | .con _ _, c, h, p, hp => by simp [Tv.subs] at hp; subst hp; exact h
  | .var _, c, h, p, hp => by simp [Tv.subs] at hp; subst hp; exact h
  | .abs s b, c, h, p, hp => by
    simp only [Tv.subs, List.mem_cons] at hp
    rcases hp with rfl | hp
    · exact h
    · exact Tv.subs_typ b (s :: c) h.2 p hp
  | .app f x, c, h, p, hp => by
    simp only [Tv.subs, List.mem_cons, List.mem_append] at hp
    rcases hp with rfl | hp | hp
    · exact h
    · exact Tv.subs_typ f c h.1 p hp
    · exact Tv.subs_typ x c h.2 p hp

end Go.Proofs.YtnoceodmnjhljaaDoor
