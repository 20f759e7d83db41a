/-
  The plain lambda calculus over Tv: lifting, putting, one step, parallel steps; normal forms are unique; a step keeps the type. Nothing here names the program.
-/
import Derived.Test.YtnoceodmnjhljaaDoorTerm
namespace Go.Proofs.YtnoceodmnjhljaaDoor
set_option linter.unusedSimpArgs false
set_option linter.unusedVariables false

def Tv.lift : Tv → Nat → Nat → Tv
  | .con nm s, _, _ => .con nm s
  | .var i, n, k => if k ≤ i then .var (i + n) else .var i
  | .abs s b, n, k => .abs s (b.lift n (k + 1))
  | .app f x, n, k => .app (f.lift n k) (x.lift n k)
def Tv.put : Tv → Tv → Nat → Tv
  | .con nm s, _, _ => .con nm s
  | .var i, x, a => if i = a then x.lift a 0 else if a < i then .var (i - 1) else .var i
  | .abs s b, x, a => .abs s (b.put x (a + 1))
  | .app f y, x, a => .app (f.put x a) (y.put x a)
def Tv.step : Tv → Option Tv
  | .con _ _ => none
  | .var _ => none
  | .abs s b => b.step.map (.abs s)
  | .app (.abs _ b) x => some (b.put x 0)
  | .app f x => match f.step with
    | some f' => some (.app f' x)
    | none => x.step.map (.app f)

theorem Tv.lift_zero : ∀ (t : Tv) (k : Nat), t.lift 0 k = t
  | .con _ _, _ => rfl
  | .var i, k => by simp [Tv.lift]
  | .abs s b, k => by simp [Tv.lift, Tv.lift_zero b]
  | .app f x, k => by simp [Tv.lift, Tv.lift_zero f, Tv.lift_zero x]
theorem Tv.lift_merge : ∀ (t : Tv) (m l n k : Nat), l ≤ k → k ≤ l + m → (t.lift m l).lift n k = t.lift (m + n) l
  | .con _ _, _, _, _, _, _, _ => rfl
  | .var i, m, l, n, k, h1, h2 => by
    by_cases h : l ≤ i
    · simp only [Tv.lift, if_pos h]; rw [if_pos (by omega)]; congr 1; omega
    · simp only [Tv.lift, if_neg h]; rw [if_neg (by omega)]
  | .abs s b, m, l, n, k, h1, h2 => by simp [Tv.lift, Tv.lift_merge b m (l + 1) n (k + 1) (by omega) (by omega)]
  | .app f x, m, l, n, k, h1, h2 => by simp [Tv.lift, Tv.lift_merge f m l n k h1 h2, Tv.lift_merge x m l n k h1 h2]
theorem Tv.lift_comm : ∀ (t : Tv) (m l n k : Nat), l ≤ k → (t.lift m l).lift n (k + m) = (t.lift n k).lift m l
  | .con _ _, _, _, _, _, _ => rfl
  | .var i, m, l, n, k, h1 => by
    by_cases h : l ≤ i
    · by_cases h2 : k ≤ i
      · simp only [Tv.lift, if_pos h, if_pos h2]; rw [if_pos (by omega), if_pos (by omega)]; congr 1; omega
      · simp only [Tv.lift, if_pos h, if_neg h2]; rw [if_neg (by omega)]
    · simp only [Tv.lift, if_neg h]; rw [if_neg (by omega), if_neg (by omega)]; simp only [Tv.lift, if_neg h]
  | .abs s b, m, l, n, k, h1 => by
    have := Tv.lift_comm b m (l + 1) n (k + 1) (by omega)
    simp only [Tv.lift]; rw [show k + m + 1 = k + 1 + m by omega, this]
  | .app f x, m, l, n, k, h1 => by simp [Tv.lift, Tv.lift_comm f m l n k h1, Tv.lift_comm x m l n k h1]
theorem Tv.put_lift : ∀ (t : Tv) (m l : Nat) (x : Tv) (k : Nat), l ≤ k → k ≤ l + m → (t.lift (m + 1) l).put x k = t.lift m l
  | .con _ _, _, _, _, _, _, _ => rfl
  | .var i, m, l, x, k, h1, h2 => by
    by_cases h : l ≤ i
    · simp only [Tv.lift, if_pos h, Tv.put]; rw [if_neg (by omega), if_pos (by omega)]; congr 1
    · simp only [Tv.lift, if_neg h, Tv.put]; rw [if_neg (by omega), if_neg (by omega)]
  | .abs s b, m, l, x, k, h1, h2 => by simp [Tv.lift, Tv.put, Tv.put_lift b m (l + 1) x (k + 1) (by omega) (by omega)]
  | .app f y, m, l, x, k, h1, h2 => by simp [Tv.lift, Tv.put, Tv.put_lift f m l x k h1 h2, Tv.put_lift y m l x k h1 h2]
/-- Lifting above a put. -/
theorem Tv.lift_put : ∀ (t x : Tv) (a n k : Nat), (t.put x a).lift n (a + k) = (t.lift n (a + k + 1)).put (x.lift n k) a
  | .con _ _, _, _, _, _ => rfl
  | .var i, x, a, n, k => by
    by_cases h : i = a
    · subst h
      simp only [Tv.put, if_true, Tv.lift]; rw [if_neg (by omega)]; simp only [Tv.put, if_true]
      rw [Nat.add_comm i k, Tv.lift_comm x i 0 n k (by omega)]
    · by_cases h2 : a < i
      · simp only [Tv.put, if_neg h, if_pos h2, Tv.lift]
        by_cases h3 : a + k + 1 ≤ i
        · rw [if_pos (by omega), if_pos h3]; simp only [Tv.put]; rw [if_neg (by omega), if_pos (by omega)]; congr 1; omega
        · rw [if_neg (by omega), if_neg h3]; simp only [Tv.put]; rw [if_neg h, if_pos h2]
      · simp only [Tv.put, if_neg h, if_neg h2, Tv.lift]; rw [if_neg (by omega), if_neg (by omega)]; simp only [Tv.put]; rw [if_neg h, if_neg h2]
  | .abs s b, x, a, n, k => by
    have := Tv.lift_put b x (a + 1) n k
    simp only [Tv.put, Tv.lift]; rw [show a + k + 1 = a + 1 + k by omega, this]
  | .app f y, x, a, n, k => by simp [Tv.put, Tv.lift, Tv.lift_put f x a n k, Tv.lift_put y x a n k]
/-- Lifting below a put. -/
theorem Tv.lift_put_low : ∀ (t x : Tv) (a n l : Nat), l ≤ a → (t.put x a).lift n l = (t.lift n l).put x (a + n)
  | .con _ _, _, _, _, _, _ => rfl
  | .var i, x, a, n, l, h1 => by
    by_cases h : i = a
    · subst h
      simp only [Tv.put, if_true, Tv.lift]; rw [if_pos h1]; simp only [Tv.put, if_true]
      rw [Tv.lift_merge x i 0 n l (by omega) (by omega)]
    · by_cases h2 : a < i
      · simp only [Tv.put, if_neg h, if_pos h2, Tv.lift]; rw [if_pos (by omega), if_pos (by omega)]; simp only [Tv.put]; rw [if_neg (by omega), if_pos (by omega)]; congr 1; omega
      · simp only [Tv.put, if_neg h, if_neg h2, Tv.lift]
        by_cases h3 : l ≤ i
        · rw [if_pos h3]; simp only [Tv.put]; rw [if_neg (by omega), if_neg (by omega)]
        · rw [if_neg h3]; simp only [Tv.put]; rw [if_neg (by omega), if_neg (by omega)]
  | .abs s b, x, a, n, l, h1 => by
    have := Tv.lift_put_low b x (a + 1) n (l + 1) (by omega)
    simp only [Tv.put, Tv.lift]; rw [this, show a + 1 + n = a + n + 1 by omega]
  | .app f y, x, a, n, l, h1 => by simp [Tv.put, Tv.lift, Tv.lift_put_low f x a n l h1, Tv.lift_put_low y x a n l h1]
theorem Tv.put_put : ∀ (t x y : Tv) (a k : Nat), (t.put x a).put y (a + k) = (t.put y (a + k + 1)).put (x.put y k) a
  | .con _ _, _, _, _, _ => rfl
  | .var i, x, y, a, k => by
    by_cases h : i = a
    · subst h
      simp only [Tv.put, if_true]; rw [if_neg (by omega), if_neg (by omega)]; simp only [Tv.put, if_true]
      rw [Tv.lift_put_low x y k i 0 (by omega), Nat.add_comm i k]
    · by_cases h2 : a < i
      · simp only [Tv.put, if_neg h, if_pos h2]
        by_cases h3 : i = a + k + 1
        · subst h3
          rw [if_pos (by omega), if_pos rfl, show a + k + 1 = a + k + 1 from rfl, Tv.put_lift y (a + k) 0 _ a (by omega) (by omega)]
        · by_cases h4 : a + k + 1 < i
          · rw [if_neg (by omega), if_pos (by omega), if_neg h3, if_pos h4]; simp only [Tv.put]; rw [if_neg (by omega), if_pos (by omega)]
          · rw [if_neg (by omega), if_neg (by omega), if_neg h3, if_neg h4]; simp only [Tv.put]; rw [if_neg h, if_pos h2]
      · simp only [Tv.put, if_neg h, if_neg h2]
        rw [if_neg (by omega), if_neg (by omega), if_neg (by omega), if_neg (by omega)]; simp only [Tv.put]; rw [if_neg h, if_neg h2]
  | .abs s b, x, y, a, k => by
    have := Tv.put_put b x y (a + 1) k
    simp only [Tv.put]; rw [show a + k + 1 = a + 1 + k by omega, this]
  | .app f z, x, y, a, k => by simp [Tv.put, Tv.put_put f x y a k, Tv.put_put z x y a k]

/-! ### Parallel steps -/

inductive Par : Tv → Tv → Prop where
  | con (nm : ByteArray) (s : Sy) : Par (.con nm s) (.con nm s)
  | var (i : Nat) : Par (.var i) (.var i)
  | abs (s : Sy) {b b' : Tv} : Par b b' → Par (.abs s b) (.abs s b')
  | app {f f' x x' : Tv} : Par f f' → Par x x' → Par (.app f x) (.app f' x')
  | beta (s : Sy) {b b' x x' : Tv} : Par b b' → Par x x' → Par (.app (.abs s b) x) (b'.put x' 0)
theorem Par.refl : ∀ t : Tv, Par t t
  | .con nm s => .con nm s
  | .var i => .var i
  | .abs s b => .abs s (Par.refl b)
  | .app f x => .app (Par.refl f) (Par.refl x)
theorem Par.lift {t u : Tv} (h : Par t u) : ∀ n k : Nat, Par (t.lift n k) (u.lift n k) := by
  induction h with
  | con nm s => intro n k; exact Par.con nm s
  | var i => intro n k; exact Par.refl _
  | abs s _ ih => intro n k; exact Par.abs s (ih n (k + 1))
  | app _ _ ih1 ih2 => intro n k; exact Par.app (ih1 n k) (ih2 n k)
  | beta s _ _ ih1 ih2 =>
    intro n k
    rename_i b b' x x' _ _
    have h1 : (b'.put x' 0).lift n k = (b'.lift n (k + 1)).put (x'.lift n k) 0 := by simpa using Tv.lift_put b' x' 0 n k
    rw [h1]
    exact Par.beta s (ih1 n (k + 1)) (ih2 n k)
theorem Par.put {t u : Tv} (h : Par t u) : ∀ {x y : Tv} (a : Nat), Par x y → Par (t.put x a) (u.put y a) := by
  induction h with
  | con nm s => intro x y a _; exact Par.con nm s
  | var i =>
    intro x y a hx
    unfold Tv.put
    split
    · exact hx.lift _ _
    · exact Par.refl _
  | abs s _ ih => intro x y a hx; exact Par.abs s (ih (a + 1) hx)
  | app _ _ ih1 ih2 => intro x y a hx; exact Par.app (ih1 a hx) (ih2 a hx)
  | beta s _ _ ih1 ih2 =>
    intro x y a hx
    rename_i b b' z z' _ _
    have h1 : (b'.put z' 0).put y a = (b'.put y (a + 1)).put (z'.put y a) 0 := by simpa using Tv.put_put b' z' y 0 a
    rw [h1]
    exact Par.beta s (ih1 (a + 1) hx) (ih2 a hx)
/-- All redexes at once. -/
def Tv.full : Tv → Tv
  | .con nm s => .con nm s
  | .var i => .var i
  | .abs s b => .abs s b.full
  | .app (.abs _ b) x => b.full.put x.full 0
  | .app f x => .app f.full x.full
theorem Tv.full_app (f x : Tv) : (∃ s b, f = .abs s b ∧ (Tv.app f x).full = b.full.put x.full 0) ∨ ((∀ s b, f ≠ .abs s b) ∧ (Tv.app f x).full = .app f.full x.full) := by
  cases f with
  | abs s b => exact Or.inl ⟨s, b, rfl, rfl⟩
  | con nm s => exact Or.inr ⟨by simp, rfl⟩
  | var i => exact Or.inr ⟨by simp, rfl⟩
  | app g y => exact Or.inr ⟨by simp, rfl⟩
theorem Par.full {t u : Tv} (h : Par t u) : Par u t.full := by
  induction h with
  | con nm s => exact Par.con nm s
  | var i => exact Par.var i
  | abs s _ ih => exact Par.abs s ih
  | app h1 _ ih1 ih2 =>
    rename_i f f' x x' _
    rcases Tv.full_app f x with ⟨s, b, rfl, e⟩ | ⟨_, e⟩
    · rw [e]
      cases h1 with
      | abs _ hb =>
        cases ih1 with
        | abs _ hb' => exact Par.beta s hb' ih2
    · rw [e]; exact Par.app ih1 ih2
  | beta s _ _ ih1 ih2 => exact Par.put ih1 0 ih2

inductive Pars : Tv → Tv → Prop where
  | refl (t : Tv) : Pars t t
  | step {t u v : Tv} : Par t u → Pars u v → Pars t v
theorem Pars.trans {t u v : Tv} (h : Pars t u) (h' : Pars u v) : Pars t v := by
  induction h with
  | refl => exact h'
  | step h1 _ ih => exact .step h1 (ih h')
theorem Pars.one {t u : Tv} (h : Par t u) : Pars t u := .step h (.refl u)
theorem Pars.strip {t a b : Tv} (h : Pars t a) (h' : Par t b) : ∃ c, Par a c ∧ Pars b c := by
  induction h generalizing b with
  | refl t => exact ⟨b, h', .refl b⟩
  | step h1 _ ih =>
    obtain ⟨c, h2, h3⟩ := ih h1.full
    exact ⟨c, h2, .step h'.full h3⟩
theorem Pars.meet {t a b : Tv} (h : Pars t a) (h' : Pars t b) : ∃ c, Pars a c ∧ Pars b c := by
  induction h' generalizing a with
  | refl t => exact ⟨a, .refl a, h⟩
  | step h1 _ ih =>
    obtain ⟨c, h2, h3⟩ := h.strip h1
    obtain ⟨d, h4, h5⟩ := ih h3
    exact ⟨d, .step h2 h4, h5⟩
theorem Pars.appL {f f' : Tv} (x : Tv) (hf : Pars f f') : Pars (.app f x) (.app f' x) := by
  induction hf with
  | refl => exact .refl _
  | step h _ ih => exact .step (Par.app h (Par.refl x)) ih
theorem Pars.appR {x x' : Tv} (f : Tv) (hx : Pars x x') : Pars (.app f x) (.app f x') := by
  induction hx with
  | refl => exact .refl _
  | step h _ ih => exact .step (Par.app (Par.refl f) h) ih
theorem Pars.app {f f' x x' : Tv} (hf : Pars f f') (hx : Pars x x') : Pars (.app f x) (.app f' x') := (hf.appL x).trans (hx.appR f')

theorem Tv.step_app (f x : Tv) : (∃ s b, f = .abs s b ∧ (Tv.app f x).step = some (b.put x 0)) ∨
    ((∀ s b, f ≠ .abs s b) ∧ ((∃ f', f.step = some f' ∧ (Tv.app f x).step = some (.app f' x)) ∨ (f.step = none ∧ (Tv.app f x).step = x.step.map (.app f)))) := by
  cases f with
  | abs s b => exact Or.inl ⟨s, b, rfl, rfl⟩
  | con nm s => exact Or.inr ⟨by simp, Or.inr ⟨rfl, rfl⟩⟩
  | var i => exact Or.inr ⟨by simp, Or.inr ⟨rfl, rfl⟩⟩
  | app g y =>
    refine Or.inr ⟨by simp, ?_⟩
    cases h : (Tv.app g y).step with
    | none => exact Or.inr ⟨rfl, by rw [Tv.step, h]; simp⟩
    | some f' => exact Or.inl ⟨f', rfl, by rw [Tv.step, h]; simp⟩
theorem Tv.step_par : ∀ (t u : Tv), t.step = some u → Par t u
  | .con _ _, _, h => by simp [Tv.step] at h
  | .var _, _, h => by simp [Tv.step] at h
  | .abs s b, u, h => by
    simp only [Tv.step, Option.map_eq_some_iff] at h
    obtain ⟨b', h1, rfl⟩ := h
    exact Par.abs s (Tv.step_par b b' h1)
  | .app f x, u, h => by
    rcases Tv.step_app f x with ⟨s, b, rfl, e⟩ | ⟨_, ⟨f', e1, e⟩ | ⟨_, e⟩⟩
    · rw [e] at h; obtain rfl := Option.some.inj h
      exact Par.beta s (Par.refl b) (Par.refl x)
    · rw [e] at h; obtain rfl := Option.some.inj h
      exact Par.app (Tv.step_par f f' e1) (Par.refl x)
    · rw [e] at h
      obtain ⟨x', h1, rfl⟩ := Option.map_eq_some_iff.1 h
      exact Par.app (Par.refl f) (Tv.step_par x x' h1)
theorem Par.normal {t u : Tv} (h : Par t u) : t.step = none → u = t := by
  induction h with
  | con nm s => intro _; rfl
  | var i => intro _; rfl
  | abs s _ ih => intro hn; rw [ih (by simpa [Tv.step] using hn)]
  | app _ _ ih1 ih2 =>
    intro hn
    rename_i f f' x x' _ _
    rcases Tv.step_app f x with ⟨s, b, rfl, e⟩ | ⟨_, ⟨g, e1, e⟩ | ⟨e1, e⟩⟩
    · rw [e] at hn; simp at hn
    · rw [e] at hn; simp at hn
    · rw [e] at hn
      rw [ih1 e1, ih2 (by simpa using hn)]
  | beta s _ _ _ _ => intro hn; simp [Tv.step] at hn
theorem Pars.normal {t u : Tv} (h : Pars t u) : t.step = none → u = t := by
  induction h with
  | refl => intro _; rfl
  | step h1 _ ih =>
    intro hn
    obtain rfl := h1.normal hn
    exact ih hn
/-- Normal forms are unique. -/
theorem Pars.unique {t a b : Tv} (h : Pars t a) (h' : Pars t b) (ha : a.step = none) (hb : b.step = none) : a = b := by
  obtain ⟨c, h1, h2⟩ := h.meet h'
  exact (h1.normal ha).symm.trans (h2.normal hb)

/-! ### Types -/

theorem Tv.typ_lift : ∀ (t : Tv) (c1 d c2 : List Sy), Tv.typ (c1 ++ d ++ c2) (t.lift d.length c1.length) = Tv.typ (c1 ++ c2) t
  | .con _ _, _, _, _ => rfl
  | .var i, c1, d, c2 => by
    by_cases h : c1.length ≤ i
    · simp only [Tv.lift, if_pos h, Tv.typ]
      rw [List.append_assoc, List.getElem?_append_right (by omega), List.getElem?_append_right (by omega), List.getElem?_append_right h]
      congr 1; omega
    · simp only [Tv.lift, if_neg h, Tv.typ]
      rw [List.append_assoc, List.getElem?_append_left (by omega), List.getElem?_append_left (by omega)]
  | .abs s b, c1, d, c2 => by
    have := Tv.typ_lift b (s :: c1) d c2
    simp only [Tv.lift, Tv.typ]
    simp only [List.cons_append, List.length_cons] at this
    rw [this]
  | .app f x, c1, d, c2 => by
    simp only [Tv.lift, Tv.typ, Tv.typ_lift f c1 d c2, Tv.typ_lift x c1 d c2]
theorem Tv.typ_put : ∀ (t x : Tv) (c1 c2 : List Sy) (a : Sy), Tv.typ c2 x = some a → Tv.typ (c1 ++ c2) (t.put x c1.length) = Tv.typ (c1 ++ a :: c2) t
  | .con _ _, _, _, _, _, _ => rfl
  | .var i, x, c1, c2, a, hx => by
    by_cases h : i = c1.length
    · subst h
      simp only [Tv.put, if_true]
      have := Tv.typ_lift x [] c1 c2
      simp only [List.nil_append, List.length_nil] at this
      rw [this, hx]
      simp [Tv.typ]
    · by_cases h2 : c1.length < i
      · simp only [Tv.put, if_neg h, if_pos h2, Tv.typ]
        rw [List.getElem?_append_right (by omega), List.getElem?_append_right (by omega)]
        obtain ⟨j, hj⟩ : ∃ j, i - c1.length = j + 1 := ⟨i - c1.length - 1, by omega⟩
        rw [hj, show i - 1 - c1.length = j by omega, List.getElem?_cons_succ]
      · simp only [Tv.put, if_neg h, if_neg h2, Tv.typ]
        rw [List.getElem?_append_left (by omega), List.getElem?_append_left (by omega)]
  | .abs s b, x, c1, c2, a, hx => by
    have := Tv.typ_put b x (s :: c1) c2 a hx
    simp only [Tv.put, Tv.typ]
    simp only [List.cons_append, List.length_cons] at this
    rw [this]
  | .app f y, x, c1, c2, a, hx => by
    simp only [Tv.put, Tv.typ, Tv.typ_put f x c1 c2 a hx, Tv.typ_put y x c1 c2 a hx]
theorem Tv.typ_app {c : List Sy} {f x : Tv} {b : Sy} (h : Tv.typ c (.app f x) = some b) : ∃ a, Tv.typ c f = some (.fn a b) ∧ Tv.typ c x = some a := by
  simp only [Tv.typ] at h
  split at h
  · rename_i p q r e1 e2
    split at h
    · rename_i e3; subst e3; obtain rfl := Option.some.inj h
      exact ⟨p, e1, e2⟩
    · simp at h
  · simp at h
theorem Tv.typ_app_mk {c : List Sy} {f x : Tv} {a b : Sy} (h1 : Tv.typ c f = some (.fn a b)) (h2 : Tv.typ c x = some a) : Tv.typ c (.app f x) = some b := by
  simp [Tv.typ, h1, h2]
theorem Tv.typ_abs {c : List Sy} {s u : Sy} {b : Tv} (h : Tv.typ c (.abs s b) = some u) : ∃ r, u = .fn s r ∧ Tv.typ (s :: c) b = some r := by
  simp only [Tv.typ, Option.map_eq_some_iff] at h
  obtain ⟨r, h1, rfl⟩ := h
  exact ⟨r, rfl, h1⟩
/-- A step keeps the type. -/
theorem Tv.step_typ : ∀ (t u : Tv) (c : List Sy) (s : Sy), t.step = some u → Tv.typ c t = some s → Tv.typ c u = some s
  | .con _ _, _, _, _, h, _ => by simp [Tv.step] at h
  | .var _, _, _, _, h, _ => by simp [Tv.step] at h
  | .abs a b, u, c, s, h, ht => by
    simp only [Tv.step, Option.map_eq_some_iff] at h
    obtain ⟨b', h1, rfl⟩ := h
    obtain ⟨r, rfl, h2⟩ := Tv.typ_abs ht
    simp only [Tv.typ, Tv.step_typ b b' _ _ h1 h2, Option.map_some]
  | .app f x, u, c, s, h, ht => by
    obtain ⟨a, h1, h2⟩ := Tv.typ_app ht
    rcases Tv.step_app f x with ⟨s', b, rfl, e⟩ | ⟨_, ⟨f', e1, e⟩ | ⟨_, e⟩⟩
    · rw [e] at h; obtain rfl := Option.some.inj h
      obtain ⟨r, e, h3⟩ := Tv.typ_abs h1
      obtain ⟨rfl, rfl⟩ : a = s' ∧ s = r := by simpa using e
      have := Tv.typ_put b x [] c a h2
      simp only [List.nil_append, List.length_nil] at this
      rw [this]; exact h3
    · rw [e] at h; obtain rfl := Option.some.inj h
      exact Tv.typ_app_mk (Tv.step_typ f f' c _ e1 h1) h2
    · rw [e] at h
      obtain ⟨x', e1, rfl⟩ := Option.map_eq_some_iff.1 h
      exact Tv.typ_app_mk h1 (Tv.step_typ x x' c _ e1 h2)

/-! ### Well-formed under a number of binders -/

theorem Tv.ok_lift : ∀ (t : Tv) (n k bd : Nat), t.ok bd → k ≤ bd → (t.lift n k).ok (bd + n)
  | .con _ _, _, _, _, h, _ => h
  | .var i, n, k, bd, h, hk => by
    simp only [Tv.ok] at h
    unfold Tv.lift
    split <;> (simp only [Tv.ok]; omega)
  | .abs s b, n, k, bd, h, hk => ⟨h.1, by rw [show bd + n + 1 = bd + 1 + n by omega]; exact Tv.ok_lift b n (k + 1) (bd + 1) h.2 (by omega)⟩
  | .app f x, n, k, bd, h, hk => ⟨Tv.ok_lift f n k bd h.1 hk, Tv.ok_lift x n k bd h.2 hk⟩
theorem Tv.ok_put : ∀ (t x : Tv) (a bd : Nat), t.ok (a + bd + 1) → x.ok bd → (t.put x a).ok (a + bd)
  | .con _ _, _, _, _, h, _ => h
  | .var i, x, a, bd, h, hx => by
    simp only [Tv.ok] at h
    unfold Tv.put
    split
    · rw [Nat.add_comm]; exact Tv.ok_lift x a 0 bd hx (by omega)
    · split <;> (simp only [Tv.ok]; omega)
  | .abs s b, x, a, bd, h, hx => ⟨h.1, by
      have := Tv.ok_put b x (a + 1) bd (by have := h.2; rwa [show a + 1 + bd + 1 = a + bd + 1 + 1 by omega]) hx
      rwa [show a + 1 + bd = a + bd + 1 by omega] at this⟩
  | .app f y, x, a, bd, h, hx => ⟨Tv.ok_put f x a bd h.1 hx, Tv.ok_put y x a bd h.2 hx⟩
theorem Tv.ok_step : ∀ (t u : Tv) (bd : Nat), t.step = some u → t.ok bd → u.ok bd
  | .con _ _, _, _, h, _ => by simp [Tv.step] at h
  | .var _, _, _, h, _ => by simp [Tv.step] at h
  | .abs s b, u, bd, h, ht => by
    simp only [Tv.step, Option.map_eq_some_iff] at h
    obtain ⟨b', h1, rfl⟩ := h
    exact ⟨ht.1, Tv.ok_step b b' _ h1 ht.2⟩
  | .app f x, u, bd, h, ht => by
    rcases Tv.step_app f x with ⟨s', b, rfl, e⟩ | ⟨_, ⟨f', e1, e⟩ | ⟨_, e⟩⟩
    · rw [e] at h; obtain rfl := Option.some.inj h
      have := Tv.ok_put b x 0 bd (by have := ht.1.2; simpa using this) ht.2
      simpa using this
    · rw [e] at h; obtain rfl := Option.some.inj h
      exact ⟨Tv.ok_step f f' _ e1 ht.1, ht.2⟩
    · rw [e] at h
      obtain ⟨x', e1, rfl⟩ := Option.map_eq_some_iff.1 h
      exact ⟨ht.1, Tv.ok_step x x' _ e1 ht.2⟩

/-! ### Normalization with a limit -/

/-- At most n steps; before each, the size is looked at. -/
def Tv.steps : Nat → Tv → Option Tv
  | 0, _ => none
  | n + 1, t => if 2000 < t.nodes then none else match t.step with
    | none => some t
    | some u => Tv.steps n u
theorem Tv.steps_pars : ∀ (n : Nat) (t u : Tv), Tv.steps n t = some u → Pars t u ∧ u.step = none ∧ u.nodes ≤ 2000
  | 0, _, _, h => by simp [Tv.steps] at h
  | n + 1, t, u, h => by
    unfold Tv.steps at h
    split at h
    · simp at h
    split at h
    · rename_i h1 h2
      obtain rfl := Option.some.inj h
      exact ⟨.refl _, h2, by omega⟩
    · rename_i v h2
      obtain ⟨h3, h4, h5⟩ := Tv.steps_pars n v u h
      exact ⟨.step (Tv.step_par t v h2) h3, h4, h5⟩
theorem Tv.steps_mono : ∀ (n : Nat) (t u : Tv), Tv.steps n t = some u → Tv.steps (n + 1) t = some u
  | 0, _, _, h => by simp [Tv.steps] at h
  | n + 1, t, u, h => by
    unfold Tv.steps at h ⊢
    split at h
    · simp at h
    rename_i h1
    rw [if_neg h1]
    split at h
    · exact h
    · exact Tv.steps_mono n _ u h
theorem Tv.steps_typ : ∀ (n : Nat) (t u : Tv) (c : List Sy) (s : Sy), Tv.steps n t = some u → Tv.typ c t = some s → Tv.typ c u = some s
  | 0, _, _, _, _, h, _ => by simp [Tv.steps] at h
  | n + 1, t, u, c, s, h, ht => by
    unfold Tv.steps at h
    split at h
    · simp at h
    split at h
    · obtain rfl := Option.some.inj h; exact ht
    · rename_i v h2
      exact Tv.steps_typ n v u c s h (Tv.step_typ t v c s h2 ht)
theorem Tv.steps_ok : ∀ (n : Nat) (t u : Tv) (bd : Nat), Tv.steps n t = some u → t.ok bd → u.ok bd
  | 0, _, _, _, h, _ => by simp [Tv.steps] at h
  | n + 1, t, u, bd, h, ht => by
    unfold Tv.steps at h
    split at h
    · simp at h
    split at h
    · obtain rfl := Option.some.inj h; exact ht
    · rename_i v h2
      exact Tv.steps_ok n v u bd h (Tv.ok_step t v bd h2 ht)
/-- What a normal term becomes. -/
theorem Tv.steps_normal {t : Tv} (n : Nat) (h : t.step = none) (hs : t.nodes ≤ 2000) : Tv.steps (n + 1) t = some t := by
  unfold Tv.steps
  rw [if_neg (by omega), h]
theorem Tv.steps_step {t u v : Tv} {n : Nat} (h : Tv.steps (n + 1) t = some v) (hs : t.step = some u) : Tv.steps n u = some v := by
  unfold Tv.steps at h
  split at h
  · simp at h
  rw [hs] at h; exact h

end Go.Proofs.YtnoceodmnjhljaaDoor
