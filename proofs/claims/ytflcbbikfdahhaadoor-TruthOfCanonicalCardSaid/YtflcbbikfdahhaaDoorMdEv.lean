/-
  The value of a formula in a model: lookups in rising lists; variables' values. Nothing here names the program.
-/
import Derived.Test.YtflcbbikfdahhaaDoorMd
import Derived.Test.YtflcbbikfdahhaaDoorBsP
import Derived.Test.YtflcbbikfdahhaaDoorFmCon
namespace Go.Proofs.YtflcbbikfdahhaaDoor
open Go Go.RowKit
set_option linter.unusedSimpArgs false
set_option linter.unusedVariables false

/-! ### What a binary search finds -/

theorem find_cut {α : Type} {f : α → Int} : ∀ {l : List α}, l.Pairwise (fun a b => f b ≤ 0 → f a < 0) → l.find? (fun x => decide (f x = 0)) = if hitN f l = true then l[cutN f l]? else none
  | [], _ => by simp
  | a :: l, h => by
    obtain ⟨h1, h2⟩ := List.pairwise_cons.1 h
    have ih := find_cut h2
    rcases Int.lt_trichotomy (f a) 0 with ha | ha | ha
    · have e1 : cutN f (a :: l) = cutN f l + 1 := by simp [cutN, List.takeWhile_cons, ha]
      have e2 : hitN f (a :: l) = hitN f l := by simp [hitN, e1]
      rw [e1, e2, List.find?_cons_of_neg (by simp; omega), ih]; rfl
    · have e1 : cutN f (a :: l) = 0 := by simp [cutN, List.takeWhile_cons, ha]
      have e2 : hitN f (a :: l) = true := by simp [hitN, e1, ha]
      rw [e1, e2, List.find?_cons_of_pos (by simpa using ha)]; rfl
    · have e1 : cutN f (a :: l) = 0 := by simp [cutN, List.takeWhile_cons]; omega
      have e2 : hitN f (a :: l) = false := by simp [hitN, e1]; omega
      rw [e2, List.find?_cons_of_neg (by simp; omega)]
      simp only [Bool.false_eq_true, if_false]
      rw [List.find?_eq_none]
      intro x hx hfx
      have := h1 x hx (by simp at hfx; omega)
      omega
theorem mono_cut {α : Type} {f : α → Int} {l : List α} (h : l.Pairwise (fun a b => f b ≤ 0 → f a < 0)) (i j : Nat) (hij : i ≤ j) (hj : j < l.length) (hl : f l[j] < 0) : f (l[i]'(by omega)) < 0 := by
  rcases Nat.lt_or_ge i j with hlt | hge
  · exact List.pairwise_iff_getElem.1 h i j (by omega) hj hlt (by omega)
  · have : i = j := by omega
    subst this; exact hl

/-! ### The orders -/

theorem cmpS_lt {a b : ByteArray} : cmpS a b < 0 ↔ Op.bytesLess a.toList b.toList = true := by
  unfold cmpS; split
  · rename_i h; simp [h]
  · rename_i h
    split <;> simp [h]
theorem cmpS_le {a b : ByteArray} : cmpS a b ≤ 0 ↔ Op.bytesLess b.toList a.toList = false := by
  unfold cmpS; split
  · rename_i h; simp [lessAsym h]
  · split
    · rename_i h; simp [h]
    · rename_i h; simpa using h
theorem cmpS_eq {a b : ByteArray} : cmpS a b = 0 ↔ a = b := by
  constructor
  · intro h
    have h1 : Op.bytesLess b.toList a.toList = false := cmpS_le.1 (by omega)
    have h2 : Op.bytesLess a.toList b.toList = false := by
      cases h3 : Op.bytesLess a.toList b.toList
      · rfl
      · have := cmpS_lt.2 h3; omega
    exact bytes_inj (lessTri _ _ h2 h1)
  · rintro rfl
    simp [cmpS, lessI]
theorem cmpS_trans {a b c : ByteArray} (h : cmpS a b < 0) (h2 : cmpS b c ≤ 0) : cmpS a c < 0 := by
  rw [cmpS_lt] at h ⊢; rw [cmpS_le] at h2
  cases h3 : Op.bytesLess b.toList c.toList
  · rw [← lessTri _ _ h3 h2]; exact h
  · exact lessTrans _ _ _ h h3
theorem cmpI_lt {a b : Int} : cmpI a b < 0 ↔ a < b := by unfold cmpI; split <;> (try split) <;> omega
theorem cmpI_le {a b : Int} : cmpI a b ≤ 0 ↔ a ≤ b := by unfold cmpI; split <;> (try split) <;> omega
theorem cmpI_eq {a b : Int} : cmpI a b = 0 ↔ a = b := by unfold cmpI; split <;> (try split) <;> omega
theorem cmpR_eq {a b : Rel} : cmpR a b = 0 ↔ a.nm = b.nm ∧ a.ar = b.ar := by
  unfold cmpR
  split
  · rename_i h; exact ⟨fun h2 => absurd h2 h, fun h2 => absurd (cmpS_eq.2 h2.1) h⟩
  · rename_i h
    rw [cmpI_eq]
    exact ⟨fun h2 => ⟨cmpS_eq.1 (Decidable.of_not_not h), h2⟩, fun h2 => h2.2⟩
theorem cmpR_trans {a b c : Rel} (h : cmpR a b < 0) (h2 : cmpR b c ≤ 0) : cmpR a c < 0 := by
  unfold cmpR at *
  by_cases e1 : cmpS a.nm b.nm = 0
  · rw [if_neg (by simpa using e1)] at h
    have e2 := cmpS_eq.1 e1
    rw [e2]
    split
    · rename_i h3; rw [if_pos h3] at h2; omega
    · rename_i h3; rw [if_neg h3] at h2
      rw [cmpI_lt] at h ⊢; rw [cmpI_le] at h2; omega
  · rw [if_pos e1] at h
    have h3 : cmpS b.nm c.nm ≤ 0 := by
      split at h2
      · exact h2
      · rename_i h3; have := Decidable.of_not_not h3; omega
    have h4 := cmpS_trans h h3
    rw [if_pos (by omega)]; exact h4
theorem cmpL_eq : ∀ {a b : List Int}, cmpL a b = 0 ↔ a = b
  | [], [] => by simp [cmpL]
  | [], _ :: _ => by simp [cmpL]
  | _ :: _, [] => by simp [cmpL]
  | a :: l, b :: r => by
    unfold cmpL
    split
    · rename_i h; exact ⟨fun h2 => absurd h2 h, fun h2 => absurd (cmpI_eq.2 (List.cons.inj h2).1) h⟩
    · rename_i h
      rw [cmpL_eq, List.cons.injEq]
      exact ⟨fun h2 => ⟨cmpI_eq.1 (Decidable.of_not_not h), h2⟩, fun h2 => h2.2⟩
theorem cmpL_trans : ∀ {a b c : List Int}, cmpL a b < 0 → cmpL b c ≤ 0 → cmpL a c < 0
  | [], [], _, h, _ => by simp [cmpL] at h
  | [], _ :: _, [], _, h => by simp [cmpL] at h
  | [], _ :: _, _ :: _, _, _ => by simp [cmpL]
  | _ :: _, [], _, h, _ => by simp [cmpL] at h
  | _ :: _, _ :: _, [], _, h => by simp [cmpL] at h
  | a :: l, b :: r, c :: s, h, h2 => by
    unfold cmpL at h h2 ⊢
    by_cases e1 : cmpI a b = 0
    · rw [if_neg (by simpa using e1)] at h
      have e2 := cmpI_eq.1 e1
      rw [e2]
      split
      · rename_i h3; rw [if_pos h3] at h2; omega
      · rename_i h3; rw [if_neg h3] at h2
        exact cmpL_trans h h2
    · rw [if_pos e1] at h
      have h3 : cmpI b c ≤ 0 := by
        split at h2
        · exact h2
        · rename_i h3; have := Decidable.of_not_not h3; omega
      have h4 : cmpI a c < 0 := by rw [cmpI_lt] at h ⊢; rw [cmpI_le] at h3; omega
      rw [if_pos (by omega)]; exact h4

/-! ### A model with nothing wrong is in order -/

theorem consF_good {sz : Int} : ∀ (l : List Con) (prev : Option Con) (i : Nat), (consF sz prev i l).1 = 0 → l.Pairwise (fun a b => cmpS a.nm b.nm < 0) ∧ (∀ p, prev = some p → ∀ c ∈ l, cmpS p.nm c.nm < 0) ∧ ∀ c ∈ l, okName c.nm = true ∧ badV sz c.v = false
  | [], _, _, _ => ⟨.nil, fun _ _ _ h => absurd h List.not_mem_nil, fun _ h => absurd h List.not_mem_nil⟩
  | c :: l, prev, i, h => by
    unfold consF at h
    split at h
    case isFalse h0 => exact absurd h h0
    case isTrue h0 =>
    obtain ⟨h1, h2, h3⟩ := consF_good l (some c) (i + 1) h
    unfold conCode at h0
    split at h0
    · omega
    rename_i k1
    split at h0
    · omega
    rename_i k2
    split at h0
    · omega
    rename_i k3
    have hp : ∀ p, prev = some p → cmpS p.nm c.nm < 0 := by
      rintro p rfl
      simp only [Option.any_some, decide_eq_true_eq] at k2
      omega
    refine ⟨List.pairwise_cons.2 ⟨h2 c rfl, h1⟩, fun p hpp x hx => ?_, fun x hx => ?_⟩
    · rcases List.mem_cons.1 hx with rfl | hx
      · exact hp p hpp
      · have := h2 c rfl x hx
        exact cmpS_trans (hp p hpp) (by omega)
    · rcases List.mem_cons.1 hx with rfl | hx
      · exact ⟨by simpa using k1, by simpa using k3⟩
      · exact h3 x hx
theorem tupsF_good {sz ar : Int} : ∀ (l : List (List Int)) (prev : Option (List Int)), tupsF sz ar prev l = 0 → l.Pairwise (fun a b => cmpL a b < 0) ∧ (∀ p, prev = some p → ∀ c ∈ l, cmpL p c < 0) ∧ ∀ t ∈ l, (t.length : Int) = ar ∧ t.any (badV sz) = false
  | [], _, _ => ⟨.nil, fun _ _ _ h => absurd h List.not_mem_nil, fun _ h => absurd h List.not_mem_nil⟩
  | c :: l, prev, h => by
    unfold tupsF at h
    split at h
    case isFalse h0 => exact absurd h h0
    case isTrue h0 =>
    obtain ⟨h1, h2, h3⟩ := tupsF_good l (some c) h
    unfold tupCode at h0
    split at h0
    · omega
    rename_i k1
    split at h0
    · omega
    rename_i k2
    split at h0
    · omega
    rename_i k3
    have hp : ∀ p, prev = some p → cmpL p c < 0 := by
      rintro p rfl
      simp only [Option.any_some, decide_eq_true_eq] at k3
      omega
    refine ⟨List.pairwise_cons.2 ⟨h2 c rfl, h1⟩, fun p hpp x hx => ?_, fun x hx => ?_⟩
    · rcases List.mem_cons.1 hx with rfl | hx
      · exact hp p hpp
      · have := h2 c rfl x hx
        exact cmpL_trans (hp p hpp) (by omega)
    · rcases List.mem_cons.1 hx with rfl | hx
      · exact ⟨Decidable.of_not_not k1, by simpa using k2⟩
      · exact h3 x hx
/-- What holds of each relation. -/
def Rel.good (sz : Int) (x : Rel) : Prop := okName x.nm = true ∧ 0 ≤ x.ar ∧ x.ar ≤ 3 ∧ x.tp.Pairwise (fun a b => cmpL a b < 0) ∧ ∀ t ∈ x.tp, (t.length : Int) = x.ar ∧ t.any (badV sz) = false
theorem relsF_good {sz : Int} : ∀ (l : List Rel) (prev : Option Rel) (i : Nat), (relsF sz prev i l).1 = 0 → l.Pairwise (fun a b => cmpR a b < 0) ∧ (∀ p, prev = some p → ∀ c ∈ l, cmpR p c < 0) ∧ ∀ c ∈ l, c.good sz
  | [], _, _, _ => ⟨.nil, fun _ _ _ h => absurd h List.not_mem_nil, fun _ h => absurd h List.not_mem_nil⟩
  | c :: l, prev, i, h => by
    unfold relsF at h
    split at h
    case isFalse h0 => exact absurd h h0
    case isTrue h0 =>
    obtain ⟨h1, h2, h3⟩ := relsF_good l (some c) (i + 1) h
    unfold relCode at h0
    split at h0
    · omega
    rename_i k1
    split at h0
    · omega
    rename_i k2
    split at h0
    · omega
    rename_i k3
    have hp : ∀ p, prev = some p → cmpR p c < 0 := by
      rintro p rfl
      simp only [Option.any_some, decide_eq_true_eq] at k3
      omega
    obtain ⟨t1, _, t3⟩ := tupsF_good c.tp none h0
    refine ⟨List.pairwise_cons.2 ⟨h2 c rfl, h1⟩, fun p hpp x hx => ?_, fun x hx => ?_⟩
    · rcases List.mem_cons.1 hx with rfl | hx
      · exact hp p hpp
      · have := h2 c rfl x hx
        exact cmpR_trans (hp p hpp) (by omega)
    · rcases List.mem_cons.1 hx with rfl | hx
      · exact ⟨by simpa using k1, by omega, by omega, t1, t3⟩
      · exact h3 x hx
/-- A model with nothing wrong. -/
structure Md.good (m : Md) : Prop where
  sz : 1 ≤ m.sz ∧ m.sz ≤ 6
  nc : m.cs.length ≤ 300
  nr : m.rs.length ≤ 300
  cs : m.cs.Pairwise (fun a b => cmpS a.nm b.nm < 0)
  ck : ∀ c ∈ m.cs, okName c.nm = true ∧ badV m.sz c.v = false
  rs : m.rs.Pairwise (fun a b => cmpR a b < 0)
  rk : ∀ x ∈ m.rs, x.good m.sz
theorem Md.good_of {m : Md} (h : (mdFault m).1 = 0) : m.good := by
  unfold mdFault at h
  split at h
  · exact absurd h (by simp)
  rename_i h1
  split at h
  · exact absurd h (by simp)
  rename_i h2
  split at h
  case isFalse h3 => exact absurd h h3
  case isTrue h3 =>
  obtain ⟨a1, _, a3⟩ := consF_good _ _ _ h3
  obtain ⟨b1, _, b3⟩ := relsF_good _ _ _ h
  exact ⟨by omega, by omega, by omega, a1, a3, b1, b3⟩

/-! ### The value of a formula -/

/-- A constant's value. -/
def conV (m : Md) (w : ByteArray) : Option Int := (m.cs.find? (fun c => decide (cmpS c.nm w = 0))).map Con.v
/-- A variable's value: the last one counts. -/
def envV : List (ByteArray × Int) → ByteArray → Option Int
  | [], _ => none
  | (x, v) :: e, w => (envV e w).or (if x = w then some v else none)
def wordV (m : Md) (e : List (ByteArray × Int)) (w : ByteArray) : Int := ((envV e w).or (conV m w)).getD 0
/-- The relation of a name and a number of arguments. -/
def relV (m : Md) (n : ByteArray) (k : Nat) : Option Rel := m.rs.find? (fun x => decide (cmpR x ⟨n, k, []⟩ = 0))
def predV (m : Md) (n : ByteArray) (t : List Int) : Bool := (relV m n t.length).any fun x => (x.tp.find? (fun u => decide (cmpL u t = 0))).isSome
def rangeV (m : Md) : List Int := (List.range m.sz.toNat).map (fun v : Nat => (v : Int))
/-- The value of a formula. -/
def evalF (m : Md) : Fv → List (ByteArray × Int) → Bool
  | .tru, _ => true
  | .pred n ws, e => predV m n (ws.map (wordV m e))
  | .same a b, e => decide (wordV m e a = wordV m e b)
  | .neg f, e => !evalF m f e
  | .bin k f g, e => if k = 5 then evalF m f e && evalF m g e else if k = 6 then evalF m f e || evalF m g e else !evalF m f e || evalF m g e
  | .qu k x f, e => if k = 8 then (rangeV m).all (fun v => evalF m f (e ++ [(x, v)])) else (rangeV m).any (fun v => evalF m f (e ++ [(x, v)]))
/-- How many quantifiers stand within one another. -/
def nestF : Fv → Nat
  | .tru | .pred _ _ | .same _ _ => 0
  | .neg f => nestF f
  | .bin _ f g => max (nestF f) (nestF g)
  | .qu _ _ f => nestF f + 1
/-- Is there each relation? -/
def hasRels (m : Md) : Fv → Bool
  | .tru | .same _ _ => true
  | .pred n ws => (relV m n ws.length).isSome
  | .neg f | .qu _ _ f => hasRels m f
  | .bin _ f g => hasRels m f && hasRels m g
/-- What is wrong with a model and a formula together: the code. -/
def pairF (m : Md) (f : Fv) : Nat := if 5 < nestF f then 17 else if (fmConsts f.fm).all (fun c => (conV m c).isSome) = false then 6 else if hasRels m f = false then 6 else 0
theorem Md.con_cut {m : Md} (h : m.good) (w : ByteArray) : m.cs.Pairwise (fun a b => cmpS b.nm w ≤ 0 → cmpS a.nm w < 0) := h.cs.imp (fun h1 h2 => cmpS_trans h1 h2)
theorem Md.rel_cut {m : Md} (h : m.good) (w : Rel) : m.rs.Pairwise (fun a b => cmpR b w ≤ 0 → cmpR a w < 0) := h.rs.imp (fun h1 h2 => cmpR_trans h1 h2)
theorem Rel.tup_cut {sz : Int} {x : Rel} (h : x.good sz) (w : List Int) : x.tp.Pairwise (fun a b => cmpL b w ≤ 0 → cmpL a w < 0) := h.2.2.2.1.imp (fun h1 h2 => cmpL_trans h1 h2)
theorem envV_snoc (x : ByteArray) (v : Int) (w : ByteArray) : ∀ e, envV (e ++ [(x, v)]) w = if x = w then some v else envV e w
  | [] => by simp [envV]
  | (y, u) :: e => by
    simp only [List.cons_append, envV, envV_snoc x v w e]
    split <;> simp

end Go.Proofs.YtflcbbikfdahhaaDoor
