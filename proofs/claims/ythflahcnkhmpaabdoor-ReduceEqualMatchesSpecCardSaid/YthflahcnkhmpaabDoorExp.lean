/-
  The long form of a normal term (Tv.expand): it keeps the type, its size is counted, and it is its own long form. Nothing here names the program.
-/
import Derived.Test.YthflahcnkhmpaabDoorLam
namespace Go.Proofs.YthflahcnkhmpaabDoor
set_option linter.unusedSimpArgs false
set_option linter.unusedVariables false

def Tv.head : Tv → Tv
  | .app f _ => f.head
  | t => t
/-- The arguments, the last one first. -/
def Tv.rargs : Tv → List Tv
  | .app f x => x :: f.rargs
  | _ => []
def Tv.apps : Tv → List Tv → Tv
  | t, [] => t
  | t, x :: l => Tv.apps (.app t x) l
theorem Tv.apps_snoc : ∀ (l : List Tv) (t x : Tv), Tv.apps t (l ++ [x]) = .app (Tv.apps t l) x
  | [], _, _ => rfl
  | y :: l, t, x => by simp only [List.cons_append, Tv.apps]; exact Tv.apps_snoc l _ x
theorem Tv.apps_head : ∀ t : Tv, Tv.apps t.head t.rargs.reverse = t
  | .con _ _ => rfl
  | .var _ => rfl
  | .abs _ _ => rfl
  | .app f x => by simp only [Tv.head, Tv.rargs, List.reverse_cons, Tv.apps_snoc, Tv.apps_head f]

/-- The arguments ahead, each in its long form (f), the types out of the head's. -/
def Tv.xargs (f : Tv → Sy → Int → Tv × Int) : List Tv → Sy → Int → Tv → Tv × Int
  | x :: l, .fn a b, r, acc => Tv.xargs f l b (f x a (r - 1)).2 (.app acc (f x a (r - 1)).1)
  | _, _, r, acc => (acc, r)

def Tv.expand : Nat → Tv → Sy → List Sy → Int → Tv × Int
  | 0, t, _, _, r => (t, r)
  | n + 1, t, s, c, r =>
    if r < 0 then (t, r) else
    match s with
    | .fn a b => match t with
      | .abs _ x => (.abs a (Tv.expand n x b (a :: c) (r - 1)).1, (Tv.expand n x b (a :: c) (r - 1)).2)
      | t => (.abs a (Tv.expand n (.app (t.lift 1 0) (.var 0)) b (a :: c) (r - 1)).1, (Tv.expand n (.app (t.lift 1 0) (.var 0)) b (a :: c) (r - 1)).2)
    | _ => Tv.xargs (fun x a r => Tv.expand n x a c r) t.rargs.reverse ((Tv.typ c t.head).getD .e) (r - 1) t.head

def Tv.isAbs : Tv → Bool
  | .abs _ _ => true
  | _ => false
def Sy.isFn : Sy → Bool
  | .fn _ _ => true
  | _ => false
theorem Tv.expand_neg (n : Nat) (t : Tv) (s : Sy) (c : List Sy) (r : Int) (h : r < 0) : Tv.expand n t s c r = (t, r) := by
  cases n with
  | zero => rfl
  | succ n => unfold Tv.expand; rw [if_pos h]
theorem Tv.expand_abs (n : Nat) (s0 : Sy) (x : Tv) (a b : Sy) (c : List Sy) (r : Int) (h : ¬ r < 0) :
    Tv.expand (n + 1) (.abs s0 x) (.fn a b) c r = (.abs a (Tv.expand n x b (a :: c) (r - 1)).1, (Tv.expand n x b (a :: c) (r - 1)).2) := by
  rw [Tv.expand]; rw [if_neg h]
theorem Tv.expand_eta (n : Nat) (t : Tv) (a b : Sy) (c : List Sy) (r : Int) (h : ¬ r < 0) (ht : t.isAbs = false) :
    Tv.expand (n + 1) t (.fn a b) c r = (.abs a (Tv.expand n (.app (t.lift 1 0) (.var 0)) b (a :: c) (r - 1)).1, (Tv.expand n (.app (t.lift 1 0) (.var 0)) b (a :: c) (r - 1)).2) := by
  cases t with
  | abs _ _ => simp [Tv.isAbs] at ht
  | _ => rw [Tv.expand]; rw [if_neg h]; intros; contradiction
theorem Tv.expand_base (n : Nat) (t : Tv) (s : Sy) (c : List Sy) (r : Int) (h : ¬ r < 0) (hs : s.isFn = false) :
    Tv.expand (n + 1) t s c r = Tv.xargs (fun x a r => Tv.expand n x a c r) t.rargs.reverse ((Tv.typ c t.head).getD .e) (r - 1) t.head := by
  cases s with
  | fn _ _ => simp [Sy.isFn] at hs
  | _ => rw [Tv.expand]; rw [if_neg h]; intros; contradiction

/-! ### Types -/

def Fit (c : List Sy) : List Tv → Sy → Sy → Prop
  | [], h, s => h = s
  | x :: l, h, s => ∃ a b, h = .fn a b ∧ Tv.typ c x = some a ∧ Fit c l b s
theorem Fit.snoc {c : List Sy} : ∀ {l : List Tv} {h a b : Sy} {x : Tv}, Fit c l h (.fn a b) → Tv.typ c x = some a → Fit c (l ++ [x]) h b
  | [], h, a, b, x, hf, hx => ⟨a, b, hf, hx, rfl⟩
  | y :: l, h, a, b, x, ⟨a', b', e, e1, e2⟩, hx => ⟨a', b', e, e1, Fit.snoc e2 hx⟩
theorem Tv.spine_typ : ∀ (t : Tv) (c : List Sy) (s : Sy), Tv.typ c t = some s → ∃ h, Tv.typ c t.head = some h ∧ Fit c t.rargs.reverse h s
  | .con _ _, _, s, h => ⟨s, h, rfl⟩
  | .var _, _, s, h => ⟨s, h, rfl⟩
  | .abs _ _, _, s, h => ⟨s, h, rfl⟩
  | .app f x, c, s, h => by
    obtain ⟨a, h1, h2⟩ := Tv.typ_app h
    obtain ⟨g, h3, h4⟩ := Tv.spine_typ f c _ h1
    exact ⟨g, h3, by simp only [Tv.rargs, List.reverse_cons]; exact h4.snoc h2⟩
theorem Tv.xargs_typ {c : List Sy} {f : Tv → Sy → Int → Tv × Int} (hf : ∀ x a r, Tv.typ c x = some a → Tv.typ c (f x a r).1 = some a) : ∀ (l : List Tv) (h s : Sy) (r : Int) (acc : Tv), Fit c l h s → Tv.typ c acc = some h → Tv.typ c (Tv.xargs f l h r acc).1 = some s
  | [], h, s, r, acc, hl, ha => by
    have : h = s := hl
    subst this
    unfold Tv.xargs; exact ha
  | x :: l, h, s, r, acc, ⟨a, b, e, e1, e2⟩, ha => by
    subst e
    rw [Tv.xargs]
    exact Tv.xargs_typ hf l b s _ _ e2 (Tv.typ_app_mk ha (hf _ _ _ e1))
theorem Tv.typ_lift1 {c : List Sy} {t : Tv} {s a : Sy} (h : Tv.typ c t = some s) : Tv.typ (a :: c) (t.lift 1 0) = some s := by
  have := Tv.typ_lift t [] [a] c
  simp only [List.nil_append, List.length_nil, List.length_cons, Nat.zero_add] at this
  rw [← h]; exact this
theorem Tv.typ_eta {c : List Sy} {t : Tv} {a b : Sy} (h : Tv.typ c t = some (.fn a b)) : Tv.typ (a :: c) (.app (t.lift 1 0) (.var 0)) = some b :=
  Tv.typ_app_mk (Tv.typ_lift1 h) (by simp [Tv.typ])
theorem Tv.expand_typ : ∀ (n : Nat) (t : Tv) (s : Sy) (c : List Sy) (r : Int), Tv.typ c t = some s → Tv.typ c (Tv.expand n t s c r).1 = some s := by
  intro n
  induction n with
  | zero => intro t s c r h; exact h
  | succ n ih =>
    intro t s c r h
    by_cases hr : r < 0
    · rw [Tv.expand_neg _ _ _ _ _ hr]; exact h
    cases hs : s.isFn with
    | true =>
      cases s with
      | e => simp [Sy.isFn] at hs
      | t => simp [Sy.isFn] at hs
      | fn a b =>
        cases ht : t.isAbs with
        | true =>
          cases t with
          | abs s0 x =>
            obtain ⟨b', e, h1⟩ := Tv.typ_abs h
            obtain ⟨rfl, rfl⟩ : a = s0 ∧ b = b' := by simpa using e
            rw [Tv.expand_abs _ _ _ _ _ _ _ hr]
            simp only [Tv.typ, ih x b (a :: c) (r - 1) h1, Option.map_some]
          | _ => simp [Tv.isAbs] at ht
        | false =>
          rw [Tv.expand_eta _ _ _ _ _ _ hr ht]
          simp only [Tv.typ, ih _ b (a :: c) (r - 1) (Tv.typ_eta h), Option.map_some]
    | false =>
      rw [Tv.expand_base _ _ _ _ _ hr hs]
      obtain ⟨g, h1, h2⟩ := Tv.spine_typ t c s h
      rw [h1]
      exact Tv.xargs_typ (fun x a r hx => ih x a c r hx) _ _ _ _ _ h2 h1

/-! ### Long terms -/

/-- The head of a chain of applications. -/
def Tv.atom : Tv → Bool
  | .con _ _ => true
  | .var _ => true
  | _ => false

mutual
inductive Long : List Sy → Tv → Sy → Prop where
  | abs {c : List Sy} {a b : Sy} {x : Tv} : Long (a :: c) x b → Long c (.abs a x) (.fn a b)
  | base {c : List Sy} {h : Tv} {l : List Tv} {g s : Sy} : h.atom = true → Tv.typ c h = some g → Longs c l g s → s.isFn = false → Long c (Tv.apps h l) s
inductive Longs : List Sy → List Tv → Sy → Sy → Prop where
  | nil {c : List Sy} {s : Sy} : Longs c [] s s
  | cons {c : List Sy} {x : Tv} {l : List Tv} {a b s : Sy} : Long c x a → Longs c l b s → Longs c (x :: l) (.fn a b) s
end
theorem Longs.snoc : ∀ {c : List Sy} {l : List Tv} {h a b : Sy} {x : Tv}, Longs c l h (.fn a b) → Long c x a → Longs c (l ++ [x]) h b
  | _, [], _, _, _, _, .nil, hx => .cons hx .nil
  | _, _ :: _, _, _, _, _, .cons h1 h2, hx => .cons h1 (h2.snoc hx)

def Tv.nodesl : List Tv → Nat
  | [] => 0
  | x :: l => x.nodes + 1 + Tv.nodesl l
theorem Tv.apps_nodes : ∀ (l : List Tv) (t : Tv), (Tv.apps t l).nodes = t.nodes + Tv.nodesl l
  | [], t => by simp [Tv.apps, Tv.nodesl]
  | x :: l, t => by simp only [Tv.apps, Tv.apps_nodes l, Tv.nodes, Tv.nodesl]; omega
theorem Tv.atom_nodes {t : Tv} (h : t.atom = true) : t.nodes = 1 := by cases t <;> simp_all [Tv.atom, Tv.nodes]
theorem Tv.apps_spine : ∀ (l : List Tv) (t : Tv), (Tv.apps t l).head = t.head ∧ (Tv.apps t l).rargs = l.reverse ++ t.rargs
  | [], t => ⟨rfl, rfl⟩
  | x :: l, t => by
    have h := Tv.apps_spine l (.app t x)
    simp only [Tv.apps]
    refine ⟨h.1, ?_⟩
    rw [h.2]; simp [Tv.rargs]
theorem Tv.atom_spine {t : Tv} (h : t.atom = true) : t.head = t ∧ t.rargs = [] := by cases t <;> simp_all [Tv.atom, Tv.head, Tv.rargs]

/-- The room only falls; a room that is left tells the size. -/
def Counts (t : Tv) (r r' : Int) : Prop := r' ≤ r ∧ (0 ≤ r' → (t.nodes : Int) = r - r')
theorem Tv.xargs_long {c : List Sy} {f : Tv → Sy → Int → Tv × Int} (P : Tv → Prop) (R : Int) (hf : ∀ x a r, r < R → P x → Tv.typ c x = some a → (f x a r).2 ≤ r ∧ (0 ≤ (f x a r).2 → ((f x a r).1.nodes : Int) = r - (f x a r).2 ∧ Long c (f x a r).1 a)) :
    ∀ (l : List Tv) (h s : Sy) (r : Int) (acc : Tv), r ≤ R → (∀ x ∈ l, P x) → Fit c l h s → (Tv.xargs f l h r acc).2 ≤ r ∧ (0 ≤ (Tv.xargs f l h r acc).2 → ((Tv.xargs f l h r acc).1.nodes : Int) = acc.nodes + r - (Tv.xargs f l h r acc).2 ∧ ∃ l', (Tv.xargs f l h r acc).1 = Tv.apps acc l' ∧ Longs c l' h s)
  | [], h, s, r, acc, _, _, hl => by
    have : h = s := hl
    subst this
    unfold Tv.xargs
    exact ⟨Int.le_refl _, fun _ => ⟨by simp only; omega, [], rfl, .nil⟩⟩
  | x :: l, h, s, r, acc, hr, hP, ⟨a, b, e, e1, e2⟩ => by
    subst e
    rw [Tv.xargs]
    have h1 := hf x a (r - 1) (by omega) (hP x (by simp)) e1
    have h2 := Tv.xargs_long P R hf l b s (f x a (r - 1)).2 (.app acc (f x a (r - 1)).1) (by have := h1.1; omega) (fun y hy => hP y (by simp [hy])) e2
    refine ⟨by have := h1.1; have := h2.1; omega, fun h0 => ?_⟩
    obtain ⟨h3, l', h4, h5⟩ := h2.2 h0
    obtain ⟨h6, h7⟩ := h1.2 (by have := h2.1; omega)
    refine ⟨?_, (f x a (r - 1)).1 :: l', by rw [h4]; rfl, .cons h7 h5⟩
    rw [h3]; simp only [Tv.nodes]; omega

/-- Normal and typed: an abstraction, or a chain of applications whose head is no abstraction. -/
theorem Tv.head_atom : ∀ (t : Tv) (c : List Sy) (s : Sy), t.step = none → Tv.typ c t = some s → (t.isAbs = true ∨ t.head.atom = true)
  | .con _ _, _, _, _, _ => Or.inr rfl
  | .var _, _, _, _, _ => Or.inr rfl
  | .abs _ _, _, _, _, _ => Or.inl rfl
  | .app f x, c, s, hn, ht => by
    obtain ⟨a, h1, _⟩ := Tv.typ_app ht
    rcases Tv.step_app f x with ⟨s', b, rfl, e⟩ | ⟨h, ⟨f', e1, e⟩ | ⟨e1, e⟩⟩
    · rw [e] at hn; simp at hn
    · rw [e] at hn; simp at hn
    · rcases Tv.head_atom f c _ e1 h1 with h3 | h3
      · cases f with
        | abs s b => exact absurd rfl (h s b)
        | _ => simp [Tv.isAbs] at h3
      · exact Or.inr h3
theorem Tv.normal_args : ∀ (t : Tv), t.step = none → t.isAbs = false → ∀ x ∈ t.rargs, x.step = none
  | .con _ _, _, _, _, h => by simp [Tv.rargs] at h
  | .var _, _, _, _, h => by simp [Tv.rargs] at h
  | .abs _ _, _, hh, _, _ => by simp [Tv.isAbs] at hh
  | .app f x, hn, _, y, hy => by
    rcases Tv.step_app f x with ⟨s', b, rfl, e⟩ | ⟨h, ⟨f', e1, e⟩ | ⟨e1, e⟩⟩
    · rw [e] at hn; simp at hn
    · rw [e] at hn; simp at hn
    · rw [e] at hn
      simp only [Tv.rargs, List.mem_cons] at hy
      rcases hy with rfl | hy
      · simpa using hn
      · refine Tv.normal_args f e1 ?_ y hy
        cases f with
        | abs s b => exact absurd rfl (h s b)
        | _ => rfl
theorem Tv.step_lift : ∀ (t : Tv) (n k : Nat), t.step = none → (t.lift n k).step = none
  | .con _ _, _, _, _ => rfl
  | .var i, n, k, _ => by unfold Tv.lift; split <;> rfl
  | .abs s b, n, k, h => by
    simp only [Tv.step, Option.map_eq_none_iff] at h
    simp only [Tv.lift, Tv.step, Tv.step_lift b n (k + 1) h, Option.map_none]
  | .app f x, n, k, h => by
    rcases Tv.step_app f x with ⟨s', b, rfl, e⟩ | ⟨h1, ⟨f', e1, e⟩ | ⟨e1, e⟩⟩
    · rw [e] at h; simp at h
    · rw [e] at h; simp at h
    · rw [e] at h
      have h2 : x.step = none := by simpa using h
      have h3 := Tv.step_lift f n k e1
      have h4 := Tv.step_lift x n k h2
      simp only [Tv.lift]
      rcases Tv.step_app (f.lift n k) (x.lift n k) with ⟨s', b, e5, _⟩ | ⟨_, ⟨f', e6, _⟩ | ⟨_, e7⟩⟩
      · cases f with
        | abs s b => exact absurd rfl (h1 s b)
        | con _ _ => simp [Tv.lift] at e5
        | var i => unfold Tv.lift at e5; split at e5 <;> simp at e5
        | app _ _ => simp [Tv.lift] at e5
      · rw [h3] at e6; simp at e6
      · rw [e7, h4]; rfl
theorem Tv.step_eta {t : Tv} (h : t.step = none) (ha : t.isAbs = false) : (Tv.app (t.lift 1 0) (.var 0)).step = none := by
  rcases Tv.step_app (t.lift 1 0) (.var 0) with ⟨s', b, e5, _⟩ | ⟨_, ⟨f', e6, _⟩ | ⟨_, e7⟩⟩
  · cases t with
    | abs s b => simp [Tv.isAbs] at ha
    | con _ _ => simp [Tv.lift] at e5
    | var i => unfold Tv.lift at e5; split at e5 <;> simp at e5
    | app _ _ => simp [Tv.lift] at e5
  · rw [Tv.step_lift t 1 0 h] at e6; simp at e6
  · rw [e7]; rfl

theorem Tv.expand_long : ∀ (n : Nat) (t : Tv) (s : Sy) (c : List Sy) (r : Int), r < n → t.step = none → Tv.typ c t = some s →
    (Tv.expand n t s c r).2 ≤ r ∧ (0 ≤ (Tv.expand n t s c r).2 → ((Tv.expand n t s c r).1.nodes : Int) = r - (Tv.expand n t s c r).2 ∧ Long c (Tv.expand n t s c r).1 s) := by
  intro n
  induction n with
  | zero =>
    intro t s c r hr _ _
    rw [Tv.expand_neg _ _ _ _ _ (by omega)]
    exact ⟨Int.le_refl _, fun h => by simp only at h; omega⟩
  | succ n ih =>
    intro t s c r hrn hn h
    by_cases hr : r < 0
    · rw [Tv.expand_neg _ _ _ _ _ hr]
      exact ⟨Int.le_refl _, fun h => by simp only at h; omega⟩
    cases hs : s.isFn with
    | true =>
      cases s with
      | e => simp [Sy.isFn] at hs
      | t => simp [Sy.isFn] at hs
      | fn a b =>
        cases ht : t.isAbs with
        | true =>
          cases t with
          | abs s0 x =>
            obtain ⟨b', e, h1⟩ := Tv.typ_abs h
            obtain ⟨rfl, rfl⟩ : a = s0 ∧ b = b' := by simpa using e
            rw [Tv.expand_abs _ _ _ _ _ _ _ hr]
            have h2 := ih x b (a :: c) (r - 1) (by omega) (by simpa [Tv.step] using hn) h1
            refine ⟨by have := h2.1; simp only; omega, fun h0 => ?_⟩
            obtain ⟨h3, h4⟩ := h2.2 h0
            exact ⟨by simp only [Tv.nodes]; omega, .abs h4⟩
          | _ => simp [Tv.isAbs] at ht
        | false =>
          rw [Tv.expand_eta _ _ _ _ _ _ hr ht]
          have h2 := ih _ b (a :: c) (r - 1) (by omega) (Tv.step_eta hn ht) (Tv.typ_eta h)
          refine ⟨by have := h2.1; simp only; omega, fun h0 => ?_⟩
          obtain ⟨h3, h4⟩ := h2.2 h0
          exact ⟨by simp only [Tv.nodes]; omega, .abs h4⟩
    | false =>
      rw [Tv.expand_base _ _ _ _ _ hr hs]
      obtain ⟨g, h1, h2⟩ := Tv.spine_typ t c s h
      rw [h1]
      have hab : t.isAbs = false := by
        cases t with
        | abs a b => obtain ⟨r, rfl, _⟩ := Tv.typ_abs h; simp [Sy.isFn] at hs
        | _ => rfl
      have hat : t.head.atom = true := by
        rcases Tv.head_atom t c s hn h with h | h
        · rw [hab] at h; simp at h
        · exact h
      have h3 := Tv.xargs_long (c := c) (f := fun x a r => Tv.expand n x a c r) (fun x => x.step = none) n (fun x a r' hr' hx hxt => ih x a c r' hr' hx hxt) t.rargs.reverse g s (r - 1) t.head (by omega) (fun x hx => Tv.normal_args t hn hab x (by simpa using hx)) h2
      simp only [Option.getD_some]
      refine ⟨by have := h3.1; omega, fun h0 => ?_⟩
      obtain ⟨h4, l', h5, h6⟩ := h3.2 h0
      refine ⟨by rw [h4, Tv.atom_nodes hat]; omega, ?_⟩
      rw [h5]
      exact .base hat h1 h6 hs

/-! ### A long term is its own long form -/

theorem Tv.nodesl_mem : ∀ (l : List Tv) (x : Tv), x ∈ l → x.nodes < Tv.nodesl l
  | y :: l, x, h => by
    simp only [Tv.nodesl]
    rcases List.mem_cons.1 h with rfl | h
    · omega
    · have := Tv.nodesl_mem l x h; omega
theorem Long.normal : ∀ (N : Nat) (c : List Sy) (t : Tv) (s : Sy), t.nodes ≤ N → Long c t s → t.step = none := by
  intro N
  induction N with
  | zero => intro c t s h; have := t.nodes_pos; omega
  | succ N ih =>
    intro c t s hN h
    cases h with
    | abs h1 =>
      rename_i a b x
      simp only [Tv.nodes] at hN
      simp only [Tv.step, ih _ _ _ (by omega) h1, Option.map_none]
    | base h1 h2 h3 h4 =>
      rename_i h l g
      rw [Tv.apps_nodes] at hN
      have hmem : ∀ x ∈ l, x.step = none := by
        have key : ∀ (l : List Tv) (g : Sy), Longs c l g s → Tv.nodesl l ≤ N → ∀ x ∈ l, x.step = none := by
          intro l
          induction l with
          | nil => intro g _ _ x hx; simp at hx
          | cons y l ihl =>
            intro g hl hm x hx
            cases hl with
            | cons e1 e2 =>
              simp only [Tv.nodesl] at hm
              rcases List.mem_cons.1 hx with rfl | hx
              · exact ih _ _ _ (by omega) e1
              · exact ihl _ e2 (by omega) x hx
        exact key l g h3 (by have := h.nodes_pos; omega)
      clear h2 h3 hN
      have key : ∀ (l : List Tv) (t : Tv), t.step = none → t.isAbs = false → (∀ x ∈ l, x.step = none) → (Tv.apps t l).step = none := by
        intro l
        induction l with
        | nil => intro t h _ _; exact h
        | cons y l ihl =>
          intro t h ha hm
          simp only [Tv.apps]
          refine ihl _ ?_ rfl (fun x hx => hm x (by simp [hx]))
          rcases Tv.step_app t y with ⟨s', b, rfl, _⟩ | ⟨_, ⟨f', e6, _⟩ | ⟨_, e7⟩⟩
          · simp [Tv.isAbs] at ha
          · rw [h] at e6; simp at e6
          · rw [e7, hm y (by simp)]; rfl
      refine key l h ?_ ?_ hmem
      · cases h <;> simp_all [Tv.atom, Tv.step]
      · cases h <;> simp_all [Tv.atom, Tv.isAbs]
theorem Long.expand : ∀ (N : Nat) (c : List Sy) (t : Tv) (s : Sy), t.nodes ≤ N → Long c t s → ∀ (n : Nat) (r : Int), t.nodes ≤ n → (t.nodes : Int) ≤ r → Tv.expand n t s c r = (t, r - t.nodes) := by
  intro N
  induction N with
  | zero => intro c t s h; have := t.nodes_pos; omega
  | succ N ih =>
    intro c t s hN h n r hn hr
    obtain ⟨n, rfl⟩ : ∃ m, n = m + 1 := ⟨n - 1, by have := t.nodes_pos; omega⟩
    cases h with
    | abs h1 =>
      rename_i a b x
      simp only [Tv.nodes] at hN hn hr
      rw [Tv.expand_abs _ _ _ _ _ _ _ (by omega), ih _ _ _ (by omega) h1 n (r - 1) (by omega) (by omega)]
      simp only [Tv.nodes, Prod.mk.injEq, true_and]; omega
    | base h1 h2 h3 h4 =>
      rename_i h l g
      rw [Tv.apps_nodes, Tv.atom_nodes h1] at hN hn hr ⊢
      rw [Tv.expand_base _ _ _ _ _ (by omega) h4, (Tv.apps_spine l h).1, (Tv.apps_spine l h).2, (Tv.atom_spine h1).1, (Tv.atom_spine h1).2, h2]
      simp only [List.append_nil, List.reverse_reverse, Option.getD_some]
      have key : ∀ (l : List Tv) (g : Sy) (acc : Tv) (r : Int), Longs c l g s → Tv.nodesl l ≤ N → Tv.nodesl l ≤ n → (Tv.nodesl l : Int) ≤ r → Tv.xargs (fun x a r => Tv.expand n x a c r) l g r acc = (Tv.apps acc l, r - Tv.nodesl l) := by
        intro l
        induction l with
        | nil => intro g acc r hl _ _ _; cases hl; simp [Tv.xargs, Tv.apps, Tv.nodesl]
        | cons y l ihl =>
          intro g acc r hl hm hm2 hm3
          cases hl with
          | cons e1 e2 =>
            simp only [Tv.nodesl] at hm hm2 hm3
            rw [Tv.xargs, ih _ _ _ (by omega) e1 n (r - 1) (by omega) (by omega)]
            rw [ihl _ _ _ e2 (by omega) (by omega) (by simp only; omega)]
            simp only [Tv.apps, Tv.nodesl, Prod.mk.injEq, true_and]; omega
      rw [key l g h (r - 1) h3 (by omega) (by omega) (by omega)]
      simp only [Prod.mk.injEq, true_and]; omega


theorem Tv.rargs_len : ∀ t : Tv, t.rargs.length + 1 ≤ t.nodes
  | .con _ _ => by simp [Tv.rargs, Tv.nodes]
  | .var _ => by simp [Tv.rargs, Tv.nodes]
  | .abs _ b => by simp [Tv.rargs, Tv.nodes]
  | .app f x => by
    have := Tv.rargs_len f
    have := x.nodes_pos
    simp only [Tv.rargs, Tv.nodes, List.length_cons]; omega
theorem Tv.rargs_nodes : ∀ (t x : Tv), x ∈ t.rargs → x.nodes < t.nodes
  | .con _ _, _, h => by simp [Tv.rargs] at h
  | .var _, _, h => by simp [Tv.rargs] at h
  | .abs _ _, _, h => by simp [Tv.rargs] at h
  | .app f y, x, h => by
    simp only [Tv.rargs, List.mem_cons] at h
    simp only [Tv.nodes]
    rcases h with rfl | h
    · omega
    · have := Tv.rargs_nodes f x h; omega
theorem Tv.eta_nodes (t : Tv) : (Tv.app (t.lift 1 0) (.var 0)).nodes = t.nodes + 2 := by
  have h : ∀ (t : Tv) (n k : Nat), (t.lift n k).nodes = t.nodes := by
    intro t
    induction t with
    | con _ _ => intro _ _; rfl
    | var i => intro n k; unfold Tv.lift; split <;> rfl
    | abs s b ih => intro n k; simp [Tv.lift, Tv.nodes, ih]
    | app f x ih1 ih2 => intro n k; simp [Tv.lift, Tv.nodes, ih1, ih2]
  simp [Tv.nodes, h]
theorem Tv.xargs_low {f : Tv → Sy → Int → Tv × Int} (K : Nat) : ∀ (l : List Tv) (h : Sy) (r : Int) (acc : Tv), (∀ x ∈ l, ∀ a r, (r < 0 → (f x a r).2 = r) ∧ (0 ≤ r → -(K : Int) ≤ (f x a r).2)) →
    min r (-(K : Int)) - l.length ≤ (Tv.xargs f l h r acc).2
  | [], h, r, acc, _ => by unfold Tv.xargs; simp only [List.length_nil]; omega
  | x :: l, h, r, acc, hf => by
    cases h with
    | e => unfold Tv.xargs; simp only [List.length_cons]; omega
    | t => unfold Tv.xargs; simp only [List.length_cons]; omega
    | fn a b =>
      rw [Tv.xargs]
      have h1 := Tv.xargs_low K l b (f x a (r - 1)).2 (.app acc (f x a (r - 1)).1) (fun y hy => hf y (by simp [hy]))
      have h2 := hf x (by simp) a (r - 1)
      simp only [List.length_cons]
      by_cases hr : r - 1 < 0
      · rw [h2.1 hr] at h1 ⊢; omega
      · have := h2.2 (by omega); omega
theorem Tv.expand_low : ∀ (n : Nat) (t : Tv) (s : Sy) (c : List Sy) (r : Int) (M : Nat), t.nodes + 2 * n ≤ M → (r < 0 → (Tv.expand n t s c r).2 = r) ∧ (0 ≤ r → -((n * M : Nat) : Int) ≤ (Tv.expand n t s c r).2) := by
  intro n
  induction n with
  | zero => intro t s c r M _; exact ⟨fun _ => rfl, fun h => by simp [Tv.expand]; omega⟩
  | succ n ih =>
    intro t s c r M hM
    refine ⟨fun h => by rw [Tv.expand_neg _ _ _ _ _ h], fun hr => ?_⟩
    have hr' : ¬ r < 0 := by omega
    rw [Nat.succ_mul]
    have hnp := t.nodes_pos
    cases hs : s.isFn with
    | true =>
      cases s with
      | e => simp [Sy.isFn] at hs
      | t => simp [Sy.isFn] at hs
      | fn a b =>
        cases ht : t.isAbs with
        | true =>
          cases t with
          | abs s0 x =>
            simp only [Tv.nodes] at hM
            rw [Tv.expand_abs _ _ _ _ _ _ _ hr']
            have h1 := ih x b (a :: c) (r - 1) M (by omega)
            simp only
            by_cases h : r - 1 < 0
            · rw [h1.1 h]; omega
            · have := h1.2 (by omega); omega
          | _ => simp [Tv.isAbs] at ht
        | false =>
          rw [Tv.expand_eta _ _ _ _ _ _ hr' ht]
          have h1 := ih (.app (t.lift 1 0) (.var 0)) b (a :: c) (r - 1) M (by rw [Tv.eta_nodes]; omega)
          simp only
          by_cases h : r - 1 < 0
          · rw [h1.1 h]; omega
          · have := h1.2 (by omega); omega
    | false =>
      rw [Tv.expand_base _ _ _ _ _ hr' hs]
      have h1 := Tv.xargs_low (f := fun x a r => Tv.expand n x a c r) (n * M) t.rargs.reverse ((Tv.typ c t.head).getD .e) (r - 1) t.head (fun x hx a r => ih x a c r M (by have := Tv.rargs_nodes t x (by simpa using hx); omega))
      have h2 := t.rargs_len
      rw [List.length_reverse] at h1
      omega

end Go.Proofs.YthflahcnkhmpaabDoor
