/-
  Formulas: as trees, the valid ones as a plain inductive type (Fv), and how one is read from a text (frd), in plain words. Nothing here names the program.
-/
import Derived.Test.YtflcbbikfdahhaaDoorByte
import Derived.Test.YtflcbbikfdahhaaDoorTree
namespace Go.Proofs.YtflcbbikfdahhaaDoor
open Go Go.RowKit
set_option linter.unusedSimpArgs false
set_option linter.unusedVariables false

/-- What a node of a formula bears. -/
structure FmL where
  kind : Int
  nm : ByteArray
  ws : List ByteArray
abbrev Fm := Tree FmL
inductive Fv where
  | tru
  | pred (n : ByteArray) (ws : List ByteArray)
  | same (a b : ByteArray)
  | neg (f : Fv)
  | bin (k : Nat) (f g : Fv)
  | qu (k : Nat) (x : ByteArray) (f : Fv)
def bNilF : ByteArray := ⟨#[]⟩
def Fv.fm : Fv → Fm
  | .tru => .mk ⟨1, ⟨#[]⟩, []⟩ []
  | .pred n ws => .mk ⟨2, n, ws⟩ []
  | .same a b => .mk ⟨3, ⟨#[]⟩, [a, b]⟩ []
  | .neg f => .mk ⟨4, ⟨#[]⟩, []⟩ [f.fm]
  | .bin k f g => .mk ⟨k, ⟨#[]⟩, []⟩ [f.fm, g.fm]
  | .qu k x f => .mk ⟨k, x, []⟩ [f.fm]
def fmZ : Fm := .mk ⟨0, ⟨#[]⟩, []⟩ []

/-- "true", "all", "some". -/
def wTrue : ByteArray := ⟨#[116, 114, 117, 101]⟩
def wAll : ByteArray := ⟨#[97, 108, 108]⟩
def wSome : ByteArray := ⟨#[115, 111, 109, 101]⟩
def isKey (a : ByteArray) : Prop := a = wTrue ∨ a = wAll ∨ a = wSome
instance (a : ByteArray) : Decidable (isKey a) := by unfold isKey; infer_instance

/-- The words behind a parenthesis (m: how many were read; l: those): a fault, or the words and the end. -/
inductive Wrd where
  | bad (at_ : Nat)
  | ok (l : List ByteArray) (at_ : Nat)
def wordsG (x : ByteArray) : Nat → List ByteArray → Nat → Wrd
  | 0, _, i => .bad i
  | f + 1, l, i =>
    if nameE x i = i then .bad i
    else if byteAt x (nameE x i) = 41 then .ok (l ++ [x.extract i (nameE x i)]) (nameE x i + 1)
    else if byteAt x (nameE x i) = 44 ∧ l.length < 2 then wordsG x f (l ++ [x.extract i (nameE x i)]) (nameE x i + 1)
    else .bad (nameE x i)
def wordsF (x : ByteArray) (i : Nat) : Wrd := if byteAt x i = 41 then .ok [] (i + 1) else wordsG x 3 [] i

/-- What a reader finds: a fault, or a formula, where it ends, how many nodes were counted. -/
inductive FRd where
  | bad (code at_ : Nat)
  | ok (v : Fv) (at_ n : Nat)
/-- The sign between two parts. -/
def signF (b : Nat) : Nat := if b = 38 then 5 else if b = 124 then 6 else if b = 62 then 7 else 0
abbrev startF (b : Nat) : Prop := b = 45 ∨ b = 40 ∨ (97 ≤ b ∧ b ≤ 122)

/-- An equality at i, or the reason that none stands there: none: read two formulas. -/
def sameF (x : ByteArray) (i n : Nat) : Option FRd :=
  if nameE x i = i ∨ byteAt x (nameE x i) ≠ 32 then none
  else if byteAt x (nameE x i + 1) = 61 then
    some (if byteAt x (nameE x i + 2) ≠ 32 then .bad 11 (nameE x i + 2)
    else if nameE x (nameE x i + 3) = nameE x i + 3 ∨ byteAt x (nameE x (nameE x i + 3)) ≠ 41 then .bad 11 (nameE x (nameE x i + 3))
    else .ok (.same (x.extract i (nameE x i)) (x.extract (nameE x i + 3) (nameE x (nameE x i + 3)))) (nameE x (nameE x i + 3) + 1) n)
  else if isKey (x.extract i (nameE x i)) then none
  else some (.bad 11 (nameE x i + 1))
/-- What begins with a name, but a quantifier: none: a quantifier. -/
def atomF (x : ByteArray) (i n : Nat) : Option FRd :=
  if byteAt x (nameE x i) = 40 then
    some (match wordsF x (nameE x i + 1) with
    | .bad j => .bad 11 j
    | .ok l j => .ok (.pred (x.extract i (nameE x i)) l) j n)
  else if x.extract i (nameE x i) = wTrue then some (.ok .tru (nameE x i) n)
  else if x.extract i (nameE x i) = wAll ∨ x.extract i (nameE x i) = wSome then
    if byteAt x (nameE x i) ≠ 32 then some (.bad 11 (nameE x i))
    else if nameE x (nameE x i + 1) = nameE x i + 1 ∨ byteAt x (nameE x (nameE x i + 1)) ≠ 32 then some (.bad 11 (nameE x (nameE x i + 1)))
    else none
  else some (.bad 11 (nameE x i))
/-- A quantifier's kind, its variable, where its part begins. -/
def quK (x : ByteArray) (i : Nat) : Nat := if x.extract i (nameE x i) = wAll then 8 else 9
def quX (x : ByteArray) (i : Nat) : ByteArray := x.extract (nameE x i + 1) (nameE x (nameE x i + 1))
def quI (x : ByteArray) (i : Nat) : Nat := nameE x (nameE x i + 1) + 1

/-- One formula at a place, when n nodes were counted; k: how many levels are left. -/
def frd (x : ByteArray) : Nat → Nat → Nat → FRd
  | 0, i, _ => if startF (byteAt x i) then .bad 1 i else .bad 11 i
  | k + 1, i, n =>
    if startF (byteAt x i) then
      if 200 < n + 1 then .bad 1 i
      else if byteAt x i = 45 then
        match frd x k (i + 1) (n + 1) with
        | .bad c j => .bad c j
        | .ok v j m => .ok (.neg v) j m
      else if byteAt x i = 40 then
        match sameF x (i + 1) (n + 1) with
        | some r => r
        | none =>
          match frd x k (i + 1) (n + 1) with
          | .bad c j => .bad c j
          | .ok v j m =>
            if byteAt x j ≠ 32 then .bad 11 j
            else if signF (byteAt x (j + 1)) = 0 then .bad 11 (j + 1)
            else if byteAt x (j + 2) ≠ 32 then .bad 11 (j + 2)
            else match frd x k (j + 3) m with
              | .bad c j' => .bad c j'
              | .ok u j' m' => if byteAt x j' = 41 then .ok (.bin (signF (byteAt x (j + 1))) v u) (j' + 1) m' else .bad 11 j'
      else
        match atomF x i (n + 1) with
        | some r => r
        | none =>
          match frd x k (quI x i) (n + 1) with
          | .bad c j => .bad c j
          | .ok v j m => .ok (.qu (quK x i) (quX x i) v) j m
    else .bad 11 i

/-! ### With a stack of open formulas -/

/-- An open formula: a negation, a quantified one; two parts in parentheses of which the first, the second is awaited. -/
inductive Ff where
  | neg
  | qu (k : Nat) (x : ByteArray)
  | par0
  | par1 (k : Nat) (f : Fv)
inductive Fr where
  | bad (code at_ : Nat)
  | ok (v : Fv) (at_ : Nat)
/-- A formula is done; the open ones (the innermost first). -/
def foldF (x : ByteArray) : List Ff → Fv → Nat → Nat → Fr
  | [], v, i, _ => .ok v i
  | .neg :: r, v, i, n => foldF x r (.neg v) i n
  | .qu k y :: r, v, i, n => foldF x r (.qu k y v) i n
  | .par0 :: r, v, i, n =>
    if byteAt x i ≠ 32 then .bad 11 i
    else if signF (byteAt x (i + 1)) = 0 then .bad 11 (i + 1)
    else if byteAt x (i + 2) ≠ 32 then .bad 11 (i + 2)
    else match frd x (40 - (r.length + 1)) (i + 3) n with
      | .bad c j => .bad c j
      | .ok u j m => if byteAt x j = 41 then foldF x r (.bin (signF (byteAt x (i + 1))) v u) (j + 1) m else .bad 11 j
  | .par1 k f :: r, v, i, n => if byteAt x i = 41 then foldF x r (.bin k f v) (i + 1) n else .bad 11 i
/-- A formula must begin at i. -/
def runF (x : ByteArray) (op : List Ff) (i n : Nat) : Fr :=
  match frd x (40 - op.length) i n with
  | .bad c j => .bad c j
  | .ok v j m => foldF x op v j m

section
variable {x : ByteArray} {op : List Ff} {i n : Nat}
theorem runF_none (h : ¬ startF (byteAt x i)) : runF x op i n = .bad 11 i := by
  unfold runF
  cases 40 - op.length <;> (unfold frd; rw [if_neg h])
theorem runF_much (h : startF (byteAt x i)) (h2 : 200 < n + 1 ∨ 40 ≤ op.length) : runF x op i n = .bad 1 i := by
  unfold runF
  cases hk : 40 - op.length with
  | zero => unfold frd; rw [if_pos h]
  | succ k => unfold frd; rw [if_pos h, if_pos (by omega)]
theorem runF_neg (h : byteAt x i = 45) (h2 : ¬ (200 < n + 1 ∨ 40 ≤ op.length)) : runF x op i n = runF x (.neg :: op) (i + 1) (n + 1) := by
  unfold runF
  obtain ⟨k, hk⟩ : ∃ k, 40 - op.length = k + 1 := ⟨39 - op.length, by omega⟩
  have hk2 : 40 - (Ff.neg :: op).length = k := by simp; omega
  rw [hk, hk2]
  conv => lhs; unfold frd
  rw [if_pos (Or.inl h), if_neg (by omega), if_pos h]
  cases frd x k (i + 1) (n + 1) with
  | bad c j => rfl
  | ok a j m => rfl
/-- A parenthesis: an equality or its fault, or two parts. -/
theorem runF_par (h : byteAt x i = 40) (h2 : ¬ (200 < n + 1 ∨ 40 ≤ op.length)) :
    (∀ c j, sameF x (i + 1) (n + 1) = some (.bad c j) → runF x op i n = .bad c j) ∧
    (∀ v j m, sameF x (i + 1) (n + 1) = some (.ok v j m) → runF x op i n = foldF x op v j m) ∧
    (sameF x (i + 1) (n + 1) = none → runF x op i n = runF x (.par0 :: op) (i + 1) (n + 1)) := by
  unfold runF
  obtain ⟨k, hk⟩ : ∃ k, 40 - op.length = k + 1 := ⟨39 - op.length, by omega⟩
  have hk2 : 40 - (Ff.par0 :: op).length = k := by simp; omega
  have e : frd x (k + 1) i n = match sameF x (i + 1) (n + 1) with
        | some r => r
        | none =>
          match frd x k (i + 1) (n + 1) with
          | .bad c j => .bad c j
          | .ok v j m =>
            if byteAt x j ≠ 32 then .bad 11 j
            else if signF (byteAt x (j + 1)) = 0 then .bad 11 (j + 1)
            else if byteAt x (j + 2) ≠ 32 then .bad 11 (j + 2)
            else match frd x k (j + 3) m with
              | .bad c j' => .bad c j'
              | .ok u j' m' => if byteAt x j' = 41 then .ok (.bin (signF (byteAt x (j + 1))) v u) (j' + 1) m' else .bad 11 j' := by
    conv => lhs; unfold frd
    rw [if_pos (Or.inr (Or.inl h)), if_neg (by omega), if_neg (by omega), if_pos h]
  rw [hk, hk2, e]
  refine ⟨fun c j e => by rw [e], fun v j m e => by rw [e], fun e => ?_⟩
  rw [e]
  simp only
  cases frd x k (i + 1) (n + 1) with
  | bad c j => rfl
  | ok v j m =>
    simp only [foldF]
    have hk3 : 40 - (op.length + 1) = k := by omega
    rw [hk3]
    by_cases h3 : byteAt x j ≠ 32
    · rw [if_pos h3, if_pos h3]
    · rw [if_neg h3, if_neg h3]
      by_cases h4 : signF (byteAt x (j + 1)) = 0
      · rw [if_pos h4, if_pos h4]
      · rw [if_neg h4, if_neg h4]
        by_cases h5 : byteAt x (j + 2) ≠ 32
        · rw [if_pos h5, if_pos h5]
        · rw [if_neg h5, if_neg h5]
          cases frd x k (j + 3) m with
          | bad c j' => rfl
          | ok u j' m' =>
            simp only
            by_cases h6 : byteAt x j' = 41
            · rw [if_pos h6, if_pos h6]
            · rw [if_neg h6, if_neg h6]
/-- A name. -/
theorem runF_name (h : 97 ≤ byteAt x i ∧ byteAt x i ≤ 122) (h2 : ¬ (200 < n + 1 ∨ 40 ≤ op.length)) :
    (∀ c j, atomF x i (n + 1) = some (.bad c j) → runF x op i n = .bad c j) ∧
    (∀ v j m, atomF x i (n + 1) = some (.ok v j m) → runF x op i n = foldF x op v j m) ∧
    (atomF x i (n + 1) = none → runF x op i n = runF x (.qu (quK x i) (quX x i) :: op) (quI x i) (n + 1)) := by
  unfold runF
  obtain ⟨k, hk⟩ : ∃ k, 40 - op.length = k + 1 := ⟨39 - op.length, by omega⟩
  have hk2 : ∀ q y, 40 - (Ff.qu q y :: op).length = k := fun q y => by simp; omega
  have e : frd x (k + 1) i n = match atomF x i (n + 1) with
        | some r => r
        | none =>
          match frd x k (quI x i) (n + 1) with
          | .bad c j => .bad c j
          | .ok v j m => .ok (.qu (quK x i) (quX x i) v) j m := by
    conv => lhs; unfold frd
    rw [if_pos (Or.inr (Or.inr h)), if_neg (by omega), if_neg (by omega), if_neg (by omega)]
  rw [hk, e]
  refine ⟨fun c j e => by rw [e], fun v j m e => by rw [e], fun e => ?_⟩
  rw [e, hk2]
  simp only
  cases frd x k (quI x i) (n + 1) with
  | bad c j => rfl
  | ok v j m => rfl
end
section
variable {x : ByteArray} {r : List Ff} {v : Fv} {i n : Nat}
theorem foldF_par0 : (byteAt x i ≠ 32 → foldF x (.par0 :: r) v i n = .bad 11 i) ∧ (byteAt x i = 32 → signF (byteAt x (i + 1)) = 0 → foldF x (.par0 :: r) v i n = .bad 11 (i + 1)) ∧
    (byteAt x i = 32 → signF (byteAt x (i + 1)) ≠ 0 → byteAt x (i + 2) ≠ 32 → foldF x (.par0 :: r) v i n = .bad 11 (i + 2)) ∧
    (byteAt x i = 32 → signF (byteAt x (i + 1)) ≠ 0 → byteAt x (i + 2) = 32 → foldF x (.par0 :: r) v i n = runF x (.par1 (signF (byteAt x (i + 1))) v :: r) (i + 3) n) := by
  refine ⟨fun h => ?_, fun h h1 => ?_, fun h h1 h2 => ?_, fun h h1 h2 => ?_⟩
  · conv => lhs; unfold foldF
    rw [if_pos h]
  · conv => lhs; unfold foldF
    rw [if_neg (by omega), if_pos h1]
  · conv => lhs; unfold foldF
    rw [if_neg (by omega), if_neg h1, if_pos h2]
  · unfold runF
    conv => lhs; unfold foldF
    rw [if_neg (by omega), if_neg h1, if_neg (by omega)]
    rfl
theorem foldF_par1 {k : Nat} {f : Fv} : (byteAt x i = 41 → foldF x (.par1 k f :: r) v i n = foldF x r (.bin k f v) (i + 1) n) ∧ (byteAt x i ≠ 41 → foldF x (.par1 k f :: r) v i n = .bad 11 i) := by
  constructor <;> intro h
  · conv => lhs; unfold foldF
    rw [if_pos h]
  · conv => lhs; unfold foldF
    rw [if_neg h]
end

/-! ### The answer for a whole text -/

noncomputable def fpC (x : ByteArray) : Nat × Nat :=
  if 4000 < x.size then (1, 0) else match runF x [] 0 0 with
    | .bad c j => (c, j)
    | .ok _ i => if i < x.size then (11, i) else (0, 0)
noncomputable def fpF (x : ByteArray) : Fm :=
  if 4000 < x.size then fmZ else match runF x [] 0 0 with
    | .bad _ _ => fmZ
    | .ok v i => if i < x.size then fmZ else v.fm

end Go.Proofs.YtflcbbikfdahhaaDoor
