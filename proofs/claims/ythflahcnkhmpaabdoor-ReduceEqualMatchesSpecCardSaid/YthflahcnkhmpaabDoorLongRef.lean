/-
  The reference's long form (over named terms) and that it is the program's (Tv.expand). Nothing here names the program.
-/
import Derived.Test.YthflahcnkhmpaabDoorNamed
import Derived.Test.YthflahcnkhmpaabDoorExp
namespace Go.Proofs.YthflahcnkhmpaabDoor
set_option linter.unusedSimpArgs false
set_option linter.unusedVariables false

mutual
/-- t' is the long form of t, a normal term of type s. -/
inductive LF : List Sy → Tv → Sy → Tv → Prop where
  | abs {c : List Sy} {a b : Sy} {x y : Tv} : LF (a :: c) x b y → LF c (.abs a x) (.fn a b) (.abs a y)
  | eta {c : List Sy} {a b : Sy} {t y : Tv} : t.isAbs = false → LF (a :: c) (.app (t.lift 1 0) (.var 0)) b y → LF c t (.fn a b) (.abs a y)
  | base {c : List Sy} {t y : Tv} {s : Sy} : s.isFn = false → LH c t s y → LF c t s y
/-- .. of the first part of an application. -/
inductive LH : List Sy → Tv → Sy → Tv → Prop where
  | atom {c : List Sy} {t : Tv} {s : Sy} : t.atom = true → Tv.typ c t = some s → LH c t s t
  | app {c : List Sy} {f x f' x' : Tv} {a b : Sy} : LH c f (.fn a b) f' → Tv.typ c x = some a → LF c x a x' → LH c (.app f x) b (.app f' x')
end

theorem Tv.xargs_snoc {c : List Sy} {F : Tv → Sy → Int → Tv × Int} : ∀ (l : List Tv) (h a b : Sy) (x : Tv) (r : Int) (acc : Tv), Fit c l h (.fn a b) →
    Tv.xargs F (l ++ [x]) h r acc = (.app (Tv.xargs F l h r acc).1 (F x a ((Tv.xargs F l h r acc).2 - 1)).1, (F x a ((Tv.xargs F l h r acc).2 - 1)).2)
  | [], h, a, b, x, r, acc, hf => by
    have e : h = .fn a b := hf
    subst e
    simp [Tv.xargs]
  | y :: l, h, a, b, x, r, acc, ⟨a', b', e, _, e2⟩ => by
    subst e
    simp only [List.cons_append]
    rw [Tv.xargs, Tv.xargs]
    exact Tv.xargs_snoc l b' a b x _ _ e2

theorem Tv.expand_LF : ∀ (n : Nat) (t : Tv) (s : Sy) (c : List Sy) (r : Int), r < n → t.step = none → Tv.typ c t = some s → 0 ≤ (Tv.expand n t s c r).2 → LF c t s (Tv.expand n t s c r).1 := by
  intro n
  induction n with
  | zero => intro t s c r hr _ _ h; rw [Tv.expand_neg _ _ _ _ _ (by omega)] at h; simp only at h; omega
  | succ n ih =>
    intro t s c r hrn hn h h0
    by_cases hr : r < 0
    · rw [Tv.expand_neg _ _ _ _ _ hr] at h0; simp only at h0; omega
    cases hs : s.isFn with
    | true =>
      cases s with
      | e => simp [Sy.isFn] at hs
      | t => simp [Sy.isFn] at hs
      | fn a b =>
        cases ht : t.isAbs with
        | true =>
          cases t with
          | abs s0 x =>
            obtain ⟨b', e, h1⟩ := Tv.typ_abs h
            obtain ⟨rfl, rfl⟩ : a = s0 ∧ b = b' := by simpa using e
            rw [Tv.expand_abs _ _ _ _ _ _ _ hr] at h0 ⊢
            exact .abs (ih x b (a :: c) (r - 1) (by omega) (by simpa [Tv.step] using hn) h1 h0)
          | _ => simp [Tv.isAbs] at ht
        | false =>
          rw [Tv.expand_eta _ _ _ _ _ _ hr ht] at h0 ⊢
          exact .eta ht (ih _ b (a :: c) (r - 1) (by omega) (Tv.step_eta hn ht) (Tv.typ_eta h) h0)
    | false =>
      rw [Tv.expand_base _ _ _ _ _ hr hs] at h0 ⊢
      have hab : t.isAbs = false := by
        cases t with
        | abs a b => obtain ⟨r, rfl, _⟩ := Tv.typ_abs h; simp [Sy.isFn] at hs
        | _ => rfl
      have hat : t.head.atom = true := by
        rcases Tv.head_atom t c s hn h with h | h
        · rw [hab] at h; simp at h
        · exact h
      refine .base hs ?_
      -- along the spine
      have key : ∀ (t : Tv) (s : Sy) (R : Int), R < n → Tv.typ c t = some s → t.head.atom = true → (∀ x ∈ t.rargs, x.step = none) →
          (Tv.xargs (fun x a r => Tv.expand n x a c r) t.rargs.reverse ((Tv.typ c t.head).getD .e) R t.head).2 ≤ R ∧
          (0 ≤ (Tv.xargs (fun x a r => Tv.expand n x a c r) t.rargs.reverse ((Tv.typ c t.head).getD .e) R t.head).2 → LH c t s (Tv.xargs (fun x a r => Tv.expand n x a c r) t.rargs.reverse ((Tv.typ c t.head).getD .e) R t.head).1) := by
        intro t
        induction t with
        | con nm s' => intro s R _ h1 h2 _; simp only [Tv.rargs, List.reverse_nil, Tv.head, Tv.xargs]; exact ⟨Int.le_refl _, fun _ => .atom rfl h1⟩
        | var i => intro s R _ h1 h2 _; simp only [Tv.rargs, List.reverse_nil, Tv.head, Tv.xargs]; exact ⟨Int.le_refl _, fun _ => .atom rfl h1⟩
        | abs s' b _ => intro s R _ _ h2 _; simp [Tv.head, Tv.atom] at h2
        | app f x ihf _ =>
          intro s R hR h1 h2 h3
          obtain ⟨a, h4, h5⟩ := Tv.typ_app h1
          obtain ⟨g, h6, h7⟩ := Tv.spine_typ f c _ h4
          have i1 := ihf (.fn a s) R hR h4 h2 (fun y hy => h3 y (by simp [Tv.rargs, hy]))
          simp only [Tv.rargs, List.reverse_cons, Tv.head]
          simp only [h6, Option.getD_some] at i1 ⊢
          rw [Tv.xargs_snoc _ _ _ _ _ _ _ h7]
          simp only
          have h8 := Tv.expand_long n x a c ((Tv.xargs (fun x a r => Tv.expand n x a c r) f.rargs.reverse g R f.head).2 - 1) (by have := i1.1; omega) (h3 x (by simp [Tv.rargs])) h5
          refine ⟨by have := h8.1; have := i1.1; omega, fun h9 => ?_⟩
          exact .app (i1.2 (by have := h8.1; omega)) h5 (ih x a c _ (by have := i1.1; omega) (h3 x (by simp [Tv.rargs])) h5 h9)
      exact (key t s (r - 1) (by omega) h hat (Tv.normal_args t hn hab)).2 h0

theorem LH.pos {c : List Sy} {t y : Tv} {s : Sy} (_ : LH c t s y) : 0 < y.nodes := y.nodes_pos

theorem LF.expand : ∀ (n : Nat) (c : List Sy) (t : Tv) (s : Sy) (y : Tv) (r : Int), LF c t s y → (y.nodes : Int) ≤ r → r < n → Tv.expand n t s c r = (y, r - y.nodes) := by
  intro n
  induction n with
  | zero => intro c t s y r _ h1 h2; have := y.nodes_pos; omega
  | succ n ih =>
    intro c t s y r h h1 h2
    have hyp := y.nodes_pos
    cases h with
    | abs h3 =>
      rename_i a b x z
      simp only [Tv.nodes] at h1 ⊢
      rw [Tv.expand_abs _ _ _ _ _ _ _ (by omega), ih _ _ _ _ (r - 1) h3 (by omega) (by omega)]
      simp only [Prod.mk.injEq, true_and]; omega
    | eta h3 h4 =>
      rename_i a b z
      simp only [Tv.nodes] at h1 ⊢
      rw [Tv.expand_eta _ _ _ _ _ _ (by omega) h3, ih _ _ _ _ (r - 1) h4 (by omega) (by omega)]
      simp only [Prod.mk.injEq, true_and]; omega
    | base h3 h4 =>
      rw [Tv.expand_base _ _ _ _ _ (by omega) h3]
      have key : ∀ (t : Tv) (s : Sy) (y : Tv) (r : Int), LH c t s y → (y.nodes : Int) ≤ r → r < (n : Int) + 1 →
          ∃ g, Tv.typ c t.head = some g ∧ Fit c t.rargs.reverse g s ∧ Tv.xargs (fun x a r => Tv.expand n x a c r) t.rargs.reverse g (r - 1) t.head = (y, r - y.nodes) := by
        intro t
        induction t with
        | con nm s' =>
          intro s y r h _ _
          cases h with
          | atom _ h6 => exact ⟨s, h6, rfl, by simp [Tv.rargs, Tv.head, Tv.xargs, Tv.nodes]⟩
        | var i =>
          intro s y r h _ _
          cases h with
          | atom _ h6 => exact ⟨s, h6, rfl, by simp [Tv.rargs, Tv.head, Tv.xargs, Tv.nodes]⟩
        | abs s' b _ =>
          intro s y r h _ _
          cases h with
          | atom h5 _ => simp [Tv.atom] at h5
        | app f x ihf _ =>
          intro s y r h h6 h7
          cases h with
          | atom h5 _ => simp [Tv.atom] at h5
          | app g1 g2 g3 =>
            rename_i f' x' a
            simp only [Tv.nodes] at h6 ⊢
            have hfp := f'.nodes_pos
            obtain ⟨g, e1, e2, e3⟩ := ihf _ f' r g1 (by omega) h7
            refine ⟨g, e1, by simp only [Tv.rargs, List.reverse_cons]; exact e2.snoc g2, ?_⟩
            simp only [Tv.rargs, List.reverse_cons, Tv.head]
            rw [Tv.xargs_snoc _ _ _ _ _ _ _ e2, e3]
            simp only
            rw [ih _ _ _ _ (r - f'.nodes - 1) g3 (by omega) (by omega)]
            simp only [Prod.mk.injEq, true_and]; omega
      obtain ⟨g, e1, _, e3⟩ := key t s y r h4 h1 (by omega)
      rw [e1]; exact e3

/-! ### The reference's -/

def Nm.isAbs : Nm → Bool
  | .abs _ _ _ => true
  | _ => false
/-- The type of x where the variables e are known (the innermost first). -/
def Nm.ty (e : List (Nat × Sy)) (x : Nm) : Option Sy := Tv.typ (e.map Prod.snd) (x.tv (e.map Prod.fst))
def Nm.long : Nat → Nm → List (Nat × Sy) → Bool → Nat → Int → Nm × Nat × Int
  | 0, x, _, _, n, r => (x, n, r)
  | k + 1, x, e, hd, n, r =>
    if r < 0 then (x, n, r) else
    match x with
    | .abs i s b => (.abs i s (Nm.long k b ((i, s) :: e) false n (r - 1)).1, (Nm.long k b ((i, s) :: e) false n (r - 1)).2)
    | x => match (if hd then none else x.ty e) with
      | some (.fn a _) => (.abs (n + 1) a (Nm.long k (.app x (.var (n + 1))) ((n + 1, a) :: e) false (n + 1) (r - 1)).1, (Nm.long k (.app x (.var (n + 1))) ((n + 1, a) :: e) false (n + 1) (r - 1)).2)
      | _ => match x with
        | .app f y => (.app (Nm.long k f e true n (r - 1)).1 (Nm.long k y e false (Nm.long k f e true n (r - 1)).2.1 (Nm.long k f e true n (r - 1)).2.2).1, (Nm.long k y e false (Nm.long k f e true n (r - 1)).2.1 (Nm.long k f e true n (r - 1)).2.2).2)
        | x => (x, n, r - 1)
theorem Nm.long_neg (k : Nat) (x : Nm) (e : List (Nat × Sy)) (hd : Bool) (n : Nat) (r : Int) (h : r < 0) : Nm.long k x e hd n r = (x, n, r) := by
  cases k with
  | zero => rfl
  | succ k => unfold Nm.long; rw [if_pos h]
theorem Nm.long_abs (k i : Nat) (s : Sy) (b : Nm) (e : List (Nat × Sy)) (hd : Bool) (n : Nat) (r : Int) (h : ¬ r < 0) :
    Nm.long (k + 1) (.abs i s b) e hd n r = (.abs i s (Nm.long k b ((i, s) :: e) false n (r - 1)).1, (Nm.long k b ((i, s) :: e) false n (r - 1)).2) := by
  rw [Nm.long]; rw [if_neg h]
theorem Nm.long_eta (k : Nat) (x : Nm) (a b : Sy) (e : List (Nat × Sy)) (n : Nat) (r : Int) (h : ¬ r < 0) (hx : x.isAbs = false) (ht : x.ty e = some (.fn a b)) :
    Nm.long (k + 1) x e false n r = (.abs (n + 1) a (Nm.long k (.app x (.var (n + 1))) ((n + 1, a) :: e) false (n + 1) (r - 1)).1, (Nm.long k (.app x (.var (n + 1))) ((n + 1, a) :: e) false (n + 1) (r - 1)).2) := by
  cases x with
  | abs _ _ _ => simp [Nm.isAbs] at hx
  | _ =>
    rw [Nm.long, if_neg h]
    all_goals try (intros; contradiction)
    simp [ht]
/-- No abstraction is put around. -/
def Nm.plain (x : Nm) (e : List (Nat × Sy)) (hd : Bool) : Prop := hd = true ∨ ∃ s : Sy, x.ty e = some s ∧ s.isFn = false
theorem Nm.plain_iff {x : Nm} {e : List (Nat × Sy)} {hd : Bool} (hp : x.plain e hd) : (if hd then none else x.ty e) = none ∨ ∃ s : Sy, (if hd then none else x.ty e) = some s ∧ s.isFn = false := by
  rcases hp with rfl | ⟨s, h1, h2⟩
  · exact Or.inl rfl
  · cases hd
    · exact Or.inr ⟨s, by simpa using h1, h2⟩
    · exact Or.inl rfl
theorem Nm.long_app (k : Nat) (f y : Nm) (e : List (Nat × Sy)) (hd : Bool) (n : Nat) (r : Int) (h : ¬ r < 0) (hp : (Nm.app f y).plain e hd) :
    Nm.long (k + 1) (.app f y) e hd n r = (.app (Nm.long k f e true n (r - 1)).1 (Nm.long k y e false (Nm.long k f e true n (r - 1)).2.1 (Nm.long k f e true n (r - 1)).2.2).1, (Nm.long k y e false (Nm.long k f e true n (r - 1)).2.1 (Nm.long k f e true n (r - 1)).2.2).2) := by
  rw [Nm.long, if_neg h]
  all_goals try (intros; contradiction)
  rcases Nm.plain_iff hp with e1 | ⟨s, e1, e2⟩
  · simp only [e1]
  · cases s with
    | fn _ _ => simp [Sy.isFn] at e2
    | e => simp only [e1]
    | t => simp only [e1]
def Nm.atom : Nm → Bool
  | .con _ _ => true
  | .var _ => true
  | _ => false
theorem Nm.long_atom (k : Nat) (x : Nm) (e : List (Nat × Sy)) (hd : Bool) (n : Nat) (r : Int) (h : ¬ r < 0) (hx : x.atom = true) (hp : x.plain e hd) : Nm.long (k + 1) x e hd n r = (x, n, r - 1) := by
  cases x with
  | abs _ _ _ => simp [Nm.atom] at hx
  | app _ _ => simp [Nm.atom] at hx
  | _ =>
    rw [Nm.long, if_neg h]
    all_goals try (intros; contradiction)
    rcases Nm.plain_iff hp with e1 | ⟨s, e1, e2⟩
    · simp only [e1]
    · cases s with
      | fn _ _ => simp [Sy.isFn] at e2
      | e => simp only [e1]
      | t => simp only [e1]

theorem Nm.good.push {n a : Nat} (ha : n < a) : ∀ {x : Nm} {u1 up : List Nat}, x.good n (u1 ++ up) → x.good a (u1 ++ a :: up)
  | .con _ _, _, _, _ => trivial
  | .var i, u1, up, h => by
    have h' : i ∈ u1 ++ up := h
    show i ∈ u1 ++ a :: up
    simp only [List.mem_append, List.mem_cons] at h' ⊢
    rcases h' with h' | h' <;> simp [h']
  | .abs i _ b, u1, up, h => by
    obtain ⟨h1, h2, h3⟩ := h
    simp only [List.mem_append, not_or] at h1
    exact ⟨by simp only [List.mem_append, List.mem_cons, not_or]; exact ⟨h1.1, by omega, h1.2⟩, by omega, Nm.good.push ha (x := b) (u1 := i :: u1) h3⟩
  | .app f x, _, _, h => ⟨Nm.good.push ha (x := f) h.1, Nm.good.push ha (x := x) h.2⟩
theorem Nm.tv_abs (x : Nm) (up : List Nat) : (x.tv up).isAbs = x.isAbs := by cases x <;> rfl
theorem Nm.tv_atom (x : Nm) (up : List Nat) : (x.tv up).atom = x.atom := by cases x <;> rfl

theorem Nm.long_LF : ∀ (k : Nat) (x : Nm) (e : List (Nat × Sy)) (hd : Bool) (s : Sy) (n : Nat) (r : Int), r < k → x.good n (e.map Prod.fst) → (∀ a ∈ e.map Prod.fst, a ≤ n) → (x.tv (e.map Prod.fst)).step = none → x.ty e = some s → (hd = true → x.isAbs = false) →
    (x.long k e hd n r).2.2 ≤ r ∧ (x.long k e hd n r).1.good (x.long k e hd n r).2.1 (e.map Prod.fst) ∧ n ≤ (x.long k e hd n r).2.1 ∧
    (0 ≤ (x.long k e hd n r).2.2 → (((x.long k e hd n r).1.nodes : Nat) : Int) = r - (x.long k e hd n r).2.2 ∧
      (hd = false → LF (e.map Prod.snd) (x.tv (e.map Prod.fst)) s ((x.long k e hd n r).1.tv (e.map Prod.fst))) ∧ (hd = true → LH (e.map Prod.snd) (x.tv (e.map Prod.fst)) s ((x.long k e hd n r).1.tv (e.map Prod.fst)))) := by
  intro k
  induction k with
  | zero =>
    intro x e hd s n r hr hg hu hn ht _
    rw [Nm.long_neg _ _ _ _ _ _ (by omega)]
    exact ⟨Int.le_refl _, hg, Nat.le_refl _, fun h => by simp only at h; omega⟩
  | succ k ih =>
    intro x e hd s n r hrn hg hu hn ht hdx
    by_cases hr : r < 0
    · rw [Nm.long_neg _ _ _ _ _ _ hr]
      exact ⟨Int.le_refl _, hg, Nat.le_refl _, fun h => by simp only at h; omega⟩
    cases hab : x.isAbs with
    | true =>
      have hdf : hd = false := by cases hd; rfl; have := hdx rfl; rw [hab] at this; simp at this
      cases x with
      | abs i s0 b =>
        obtain ⟨b', e1, h1⟩ := Tv.typ_abs ht
        subst e1
        rw [Nm.long_abs _ _ _ _ _ _ _ _ hr]
        obtain ⟨g1, g2, g3⟩ := hg
        have h2 := ih b ((i, s0) :: e) false b' n (r - 1) (by omega) g3 (fun a ha => by
          rcases List.mem_cons.1 (show a ∈ _ :: _ from ha) with rfl | ha
          · exact g2
          · exact hu a ha) (by simpa [Tv.step, Nm.tv] using hn) h1 (by simp)
        refine ⟨by have := h2.1; simp only; omega, ⟨g1, by have := h2.2.2.1; simp only; omega, h2.2.1⟩, h2.2.2.1, fun h0 => ?_⟩
        obtain ⟨h3, h4, _⟩ := h2.2.2.2 h0
        exact ⟨by simp only [Nm.nodes]; omega, fun _ => .abs (h4 rfl), fun h => by rw [hdf] at h; simp at h⟩
      | _ => simp [Nm.isAbs] at hab
    | false =>
      have hab' : (x.tv (e.map Prod.fst)).isAbs = false := (x.tv_abs _).trans hab
      by_cases hfn : hd = false ∧ s.isFn = true
      · obtain ⟨rfl, hs⟩ := hfn
        cases s with
        | e => simp [Sy.isFn] at hs
        | t => simp [Sy.isFn] at hs
        | fn a b =>
          rw [Nm.long_eta _ _ _ _ _ _ _ hr hab ht]
          have hl : x.tv ((n + 1) :: e.map Prod.fst) = (x.tv (e.map Prod.fst)).lift 1 0 := Nm.tv_lift x [] [n + 1] (e.map Prod.fst) hg.sc (fun a ha h => by
            obtain rfl : a = n + 1 := by simpa using ha
            have := hu _ h; omega)
          have htv : (Nm.app x (.var (n + 1))).tv ((n + 1) :: e.map Prod.fst) = .app ((x.tv (e.map Prod.fst)).lift 1 0) (.var 0) := by
            simp only [Nm.tv, hl, pos, if_true]
          have hne : n + 1 ∉ e.map Prod.fst := fun hh => by have := hu _ hh; omega
          have h2 := ih (.app x (.var (n + 1))) ((n + 1, a) :: e) false b (n + 1) (r - 1) (by omega) ⟨Nm.good.push (Nat.lt_succ_self n) (u1 := []) hg, List.mem_cons_self ..⟩ (fun a ha => by
            rcases List.mem_cons.1 (show a ∈ _ :: _ from ha) with rfl | ha
            · exact Nat.le_refl _
            · have := hu a ha; omega) (by simp only [List.map_cons]; rw [htv]; exact Tv.step_eta hn hab') (by
            show Tv.typ (a :: e.map Prod.snd) ((Nm.app x (.var (n + 1))).tv ((n + 1) :: e.map Prod.fst)) = some b
            rw [htv]; exact Tv.typ_eta ht) (by simp)
          refine ⟨by have := h2.1; simp only; omega, ⟨hne, h2.2.2.1, h2.2.1⟩, by have := h2.2.2.1; simp only; omega, fun h0 => ?_⟩
          obtain ⟨h3, h4, _⟩ := h2.2.2.2 h0
          refine ⟨by simp only [Nm.nodes]; omega, fun _ => .eta hab' ?_, fun h => by simp at h⟩
          have := h4 rfl
          simp only [List.map_cons] at this
          rw [htv] at this
          exact this
      · have hp : x.plain e hd := by
          cases hd with
          | true => exact Or.inl rfl
          | false => exact Or.inr ⟨s, ht, by cases h : s.isFn; rfl; exact absurd ⟨rfl, h⟩ hfn⟩
        have hsf : hd = false → s.isFn = false := fun h => by cases h2 : s.isFn; rfl; exact absurd ⟨h, h2⟩ hfn
        cases hat : x.atom with
        | true =>
          rw [Nm.long_atom _ _ _ _ _ _ hr hat hp]
          have h1 : LH (e.map Prod.snd) (x.tv (e.map Prod.fst)) s (x.tv (e.map Prod.fst)) := .atom ((x.tv_atom _).trans hat) ht
          refine ⟨by simp only; omega, hg, Nat.le_refl _, fun _ => ⟨?_, fun h => .base (hsf h) h1, fun _ => h1⟩⟩
          simp only
          have : x.nodes = 1 := by cases x <;> simp_all [Nm.atom, Nm.nodes]
          omega
        | false =>
          cases x with
          | con _ _ => simp [Nm.atom] at hat
          | var _ => simp [Nm.atom] at hat
          | abs _ _ _ => simp [Nm.isAbs] at hab
          | app f y =>
            rw [Nm.long_app _ _ _ _ _ _ _ hr hp]
            obtain ⟨a, t1, t2⟩ := Tv.typ_app ht
            have hst : ((f.tv (e.map Prod.fst)).step = none ∧ f.isAbs = false) ∧ (y.tv (e.map Prod.fst)).step = none := by
              have hn' : (Tv.app (f.tv (e.map Prod.fst)) (y.tv (e.map Prod.fst))).step = none := hn
              rcases Tv.step_app (f.tv (e.map Prod.fst)) (y.tv (e.map Prod.fst)) with ⟨s', b, e1, e2⟩ | ⟨h, ⟨f', e1, e2⟩ | ⟨e1, e2⟩⟩
              · rw [e2] at hn'; simp at hn'
              · rw [e2] at hn'; simp at hn'
              · rw [e2] at hn'
                refine ⟨⟨e1, ?_⟩, by simpa using hn'⟩
                cases f with
                | abs i s b => exact absurd rfl (h s _)
                | _ => rfl
            have h1 := ih f e true (.fn a s) n (r - 1) (by omega) hg.1 hu hst.1.1 t1 (fun _ => hst.1.2)
            have h2 := ih y e false a (Nm.long k f e true n (r - 1)).2.1 (Nm.long k f e true n (r - 1)).2.2 (by have := h1.1; omega) (hg.2.mono h1.2.2.1) (fun a ha => by have := hu a ha; have := h1.2.2.1; omega) hst.2 t2 (by simp)
            refine ⟨by have := h1.1; have := h2.1; simp only; omega, ⟨h1.2.1.mono h2.2.2.1, h2.2.1⟩, by have := h1.2.2.1; have := h2.2.2.1; simp only; omega, fun h0 => ?_⟩
            obtain ⟨q1, q2, _⟩ := h2.2.2.2 h0
            obtain ⟨p1, _, p2⟩ := h1.2.2.2 (by have := h2.1; simp only at h0; omega)
            have h3 : LH (e.map Prod.snd) ((Nm.app f y).tv (e.map Prod.fst)) s _ := .app (p2 rfl) t2 (q2 rfl)
            exact ⟨by simp only [Nm.nodes]; omega, fun h => .base (hsf h) h3, fun _ => h3⟩

/-- What fits fits the room. -/
theorem Nm.long_room : ∀ (k : Nat) (x : Nm) (e : List (Nat × Sy)) (hd : Bool) (s : Sy) (n : Nat) (r : Int) (y : Tv), r < k → x.good n (e.map Prod.fst) → (∀ a ∈ e.map Prod.fst, a ≤ n) → x.ty e = some s →
    (hd = false → LF (e.map Prod.snd) (x.tv (e.map Prod.fst)) s y) → (hd = true → LH (e.map Prod.snd) (x.tv (e.map Prod.fst)) s y) → (y.nodes : Int) ≤ r → (x.long k e hd n r).2.2 = r - y.nodes ∧ n ≤ (x.long k e hd n r).2.1 := by
  intro k
  induction k with
  | zero => intro x e hd s n r y h1 _ _ _ _ _ h2; have := y.nodes_pos; omega
  | succ k ih =>
    intro x e hd s n r y hrn hg hu ht hF hH hy
    have hyp := y.nodes_pos
    have hr : ¬ r < 0 := by omega
    -- the plain case, from LH
    have hplain : LH (e.map Prod.snd) (x.tv (e.map Prod.fst)) s y → x.plain e hd → (x.long (k + 1) e hd n r).2.2 = r - y.nodes ∧ n ≤ (x.long (k + 1) e hd n r).2.1 := by
      intro h hp
      cases x with
      | con nm s' =>
        rw [Nm.long_atom _ _ _ _ _ _ hr rfl hp]
        cases h with
        | atom _ _ => simp [Nm.tv, Tv.nodes]
      | var i =>
        rw [Nm.long_atom _ _ _ _ _ _ hr rfl hp]
        cases h with
        | atom _ _ => simp [Nm.tv, Tv.nodes]
      | abs i s' b =>
        cases h with
        | atom h1 _ => simp [Nm.tv, Tv.atom] at h1
      | app f x =>
        rw [Nm.long_app _ _ _ _ _ _ _ hr hp]
        cases h with
        | atom h1 _ => simp [Nm.tv, Tv.atom] at h1
        | app h1 h2 h3 =>
          rename_i f' x' a
          simp only [Tv.nodes] at hy ⊢
          have hfp := f'.nodes_pos
          obtain ⟨a', t1, t2⟩ := Tv.typ_app ht
          obtain rfl : a' = a := by rw [h2] at t2; exact (Option.some.inj t2).symm
          have i1 := ih f e true (.fn a' s) n (r - 1) f' (by omega) hg.1 hu t1 (by simp) (fun _ => h1) (by omega)
          have i2 := ih x e false a' (Nm.long k f e true n (r - 1)).2.1 (Nm.long k f e true n (r - 1)).2.2 x' (by rw [i1.1]; omega) (hg.2.mono i1.2) (fun a ha => by have := hu a ha; have := i1.2; omega) t2 (fun _ => h3) (by simp) (by rw [i1.1]; omega)
          refine ⟨?_, Nat.le_trans i1.2 i2.2⟩
          rw [i2.1, i1.1]; omega
    cases hd with
    | true => exact hplain (hH rfl) (Or.inl rfl)
    | false =>
      have h := hF rfl
      generalize hxt : x.tv (e.map Prod.fst) = X at h
      cases h with
      | abs h3 =>
        rename_i a b z w
        cases x with
        | abs i s' b0 =>
          simp only [Nm.tv, Tv.abs.injEq] at hxt
          obtain ⟨rfl, rfl⟩ := hxt
          simp only [Tv.nodes] at hy ⊢
          rw [Nm.long_abs _ _ _ _ _ _ _ _ hr]
          obtain ⟨b', e1, h1⟩ := Tv.typ_abs ht
          obtain rfl : b = b' := by simpa using e1
          have h2 := ih b0 ((i, s') :: e) false b n (r - 1) w (by omega) hg.2.2 (fun a ha => by
            rcases List.mem_cons.1 (show a ∈ _ :: _ from ha) with rfl | ha
            · exact hg.2.1
            · exact hu a ha) h1 (fun _ => h3) (by simp) (by omega)
          exact ⟨by simp only; rw [h2.1]; omega, h2.2⟩
        | con _ _ => simp [Nm.tv] at hxt
        | var _ => simp [Nm.tv] at hxt
        | app _ _ => simp [Nm.tv] at hxt
      | eta h3 h4 =>
        rename_i a b z
        subst hxt
        simp only [Tv.nodes] at hy ⊢
        have hab : x.isAbs = false := (x.tv_abs _).symm.trans h3
        rw [Nm.long_eta _ _ _ _ _ _ _ hr hab ht]
        have hl : x.tv ((n + 1) :: e.map Prod.fst) = (x.tv (e.map Prod.fst)).lift 1 0 := Nm.tv_lift x [] [n + 1] (e.map Prod.fst) hg.sc (fun a ha h => by
          obtain rfl : a = n + 1 := by simpa using ha
          have := hu _ h; omega)
        have htv : (Nm.app x (.var (n + 1))).tv ((n + 1) :: e.map Prod.fst) = .app ((x.tv (e.map Prod.fst)).lift 1 0) (.var 0) := by
          simp only [Nm.tv, hl, pos, if_true]
        have h2 := ih (.app x (.var (n + 1))) ((n + 1, a) :: e) false b (n + 1) (r - 1) z (by omega) ⟨Nm.good.push (Nat.lt_succ_self n) (u1 := []) hg, List.mem_cons_self ..⟩ (fun a ha => by
          rcases List.mem_cons.1 (show a ∈ _ :: _ from ha) with rfl | ha
          · exact Nat.le_refl _
          · have := hu a ha; omega) (by
          show Tv.typ (a :: e.map Prod.snd) ((Nm.app x (.var (n + 1))).tv ((n + 1) :: e.map Prod.fst)) = some b
          rw [htv]; exact Tv.typ_eta ht) (fun _ => by simp only [List.map_cons]; rw [htv]; exact h4) (by simp) (by omega)
        exact ⟨by simp only; rw [h2.1]; omega, by have := h2.2; simp only; omega⟩
      | base h3 h4 =>
        subst hxt
        exact hplain h4 (Or.inr ⟨s, ht, h3⟩)

/-- Program and reference: of a closed normal term both have the same long form, or none within the room. -/
theorem Nm.long_expand (x : Nm) (s : Sy) (n N k : Nat) (R : Int) (hN : R < N) (hk : R < k) (hg : x.good n []) (hn : (x.tv []).step = none) (ht : Tv.typ [] (x.tv []) = some s) :
    (0 ≤ (x.long k [] false n R).2.2 ↔ 0 ≤ (Tv.expand N (x.tv []) s [] R).2) ∧ (0 ≤ (x.long k [] false n R).2.2 → (x.long k [] false n R).1.tv [] = (Tv.expand N (x.tv []) s [] R).1) := by
  have h1 := Nm.long_LF k x [] false s n R hk hg (by simp) hn ht (by simp)
  have hb : 0 ≤ (x.long k [] false n R).2.2 → Tv.expand N (x.tv []) s [] R = ((x.long k [] false n R).1.tv [], R - ((x.long k [] false n R).1.tv []).nodes) := fun h0 => by
    obtain ⟨h3, h4, _⟩ := h1.2.2.2 h0
    exact LF.expand N [] (x.tv []) s _ R (h4 rfl) (by rw [Nm.tv_nodes]; omega) hN
  refine ⟨⟨fun h0 => ?_, fun h0 => ?_⟩, fun h0 => by rw [hb h0]⟩
  · have h3 := (h1.2.2.2 h0).1
    rw [hb h0]
    simp only [Nm.tv_nodes]; omega
  · have h5 := Tv.expand_LF N (x.tv []) s [] R hN hn ht h0
    have h6 := Tv.expand_long N (x.tv []) s [] R hN hn ht
    have h7 := (h6.2 h0).1
    have h8 := Nm.long_room k x [] false s n R _ hk hg (by simp) ht (fun _ => h5) (by simp) (by omega)
    rw [h8.1]; omega


/-- The parts, each with the word that it is the first part of an application. -/
def Nm.kidsH : Nm → List (Nm × Bool)
  | .con _ _ | .var _ => []
  | .abs _ _ b => [(b, false)]
  | .app f x => [(f, true), (x, false)]
theorem Nm.kidsH_fst (x : Nm) : x.kidsH.map Prod.fst = x.kids := by cases x <;> rfl
theorem Nm.kidsH_len (x : Nm) : x.kidsH.length = x.kids.length := by cases x <;> rfl
theorem Nm.kidsH_at (x : Nm) (j : Nat) (h : j < x.kidsH.length) : (x.kidsH[j]).1 = x.kids[j]'(by rw [← x.kidsH_len]; exact h) ∧ (x.kidsH[j]).2 = (decide (x.lab.kind = 4) && decide (j = 0)) := by
  match x, j, h with
  | .abs _ _ b, 0, _ => exact ⟨rfl, rfl⟩
  | .app f y, 0, _ => exact ⟨rfl, rfl⟩
  | .app f y, 1, _ => exact ⟨rfl, rfl⟩
/-- What is known within. -/
def Nm.lenv (x : Nm) (e : List (Nat × Sy)) : List (Nat × Sy) := match x with
  | .abs i s _ => (i, s) :: e
  | _ => e
/-- A part's long form, the two counters as the state. -/
def longF (k : Nat) (e : List (Nat × Sy)) (p : Nm × Bool) (st : Nat × Int) : Nm × (Nat × Int) := ((Nm.long k p.1 e p.2 st.1 st.2).1, (Nm.long k p.1 e p.2 st.1 st.2).2)
theorem Nm.long_node (k : Nat) (x : Nm) (e : List (Nat × Sy)) (hd : Bool) (n : Nat) (r : Int) (h : ¬ r < 0) (hp : x.isAbs = true ∨ x.plain e hd) :
    (Nm.long (k + 1) x e hd n r).1.tr = .mk x.lab ((thr (longF k (x.lenv e)) x.kidsH (n, r - 1)).1.map Nm.tr) ∧ (Nm.long (k + 1) x e hd n r).2 = (thr (longF k (x.lenv e)) x.kidsH (n, r - 1)).2 := by
  cases x with
  | abs i s b =>
    rw [Nm.long_abs _ _ _ _ _ _ _ _ h]
    exact ⟨rfl, rfl⟩
  | app f y =>
    have hp : (Nm.app f y).plain e hd := by
      rcases hp with hp | hp
      · simp [Nm.isAbs] at hp
      · exact hp
    rw [Nm.long_app _ _ _ _ _ _ _ h hp]
    exact ⟨rfl, rfl⟩
  | con nm s =>
    have hp : (Nm.con nm s).plain e hd := by
      rcases hp with hp | hp
      · simp [Nm.isAbs] at hp
      · exact hp
    rw [Nm.long_atom _ _ _ _ _ _ h rfl hp]
    exact ⟨rfl, rfl⟩
  | var i =>
    have hp : (Nm.var i).plain e hd := by
      rcases hp with hp | hp
      · simp [Nm.isAbs] at hp
      · exact hp
    rw [Nm.long_atom _ _ _ _ _ _ h rfl hp]
    exact ⟨rfl, rfl⟩
/-- .. of a term of a function type that is no abstraction: that of an abstraction. -/
theorem Nm.long_etaY (k : Nat) (x : Nm) (a b : Sy) (e : List (Nat × Sy)) (n : Nat) (r : Int) (h : ¬ r < 0) (hx : x.isAbs = false) (ht : x.ty e = some (.fn a b)) :
    Nm.long (k + 1) x e false n r = Nm.long (k + 1) (.abs (n + 1) a (.app x (.var (n + 1)))) e false (n + 1) r := by
  rw [Nm.long_eta _ _ _ _ _ _ _ h hx ht, Nm.long_abs _ _ _ _ _ _ _ _ h]
/-- The counters: the first grows by no more than the second falls. -/
theorem Nm.long_mono : ∀ (k : Nat) (x : Nm) (e : List (Nat × Sy)) (hd : Bool) (n : Nat) (r : Int), n ≤ (Nm.long k x e hd n r).2.1 ∧ (Nm.long k x e hd n r).2.2 ≤ r ∧ ((Nm.long k x e hd n r).2.1 : Int) - n ≤ r - (Nm.long k x e hd n r).2.2 := by
  intro k
  induction k with
  | zero => intro x e hd n r; simp [Nm.long]
  | succ k ih =>
    intro x e hd n r
    by_cases h : r < 0
    · rw [Nm.long_neg _ _ _ _ _ _ h]; simp
    cases x with
    | abs i s b =>
      rw [Nm.long_abs _ _ _ _ _ _ _ _ h]
      have := ih b ((i, s) :: e) false n (r - 1)
      simp only; omega
    | con nm s =>
      rw [Nm.long, if_neg h]
      all_goals try (intros; contradiction)
      split
      · rename_i a _ _
        have := ih (.app (.con nm s) (.var (n + 1))) ((n + 1, a) :: e) false (n + 1) (r - 1)
        simp only; omega
      · simp only; omega
    | var i =>
      rw [Nm.long, if_neg h]
      all_goals try (intros; contradiction)
      split
      · rename_i a _ _
        have := ih (.app (.var i) (.var (n + 1))) ((n + 1, a) :: e) false (n + 1) (r - 1)
        simp only; omega
      · simp only; omega
    | app f y =>
      rw [Nm.long, if_neg h]
      all_goals try (intros; contradiction)
      split
      · rename_i a _ _
        have := ih (.app (.app f y) (.var (n + 1))) ((n + 1, a) :: e) false (n + 1) (r - 1)
        simp only; omega
      · have h1 := ih f e true n (r - 1)
        have h2 := ih y e false (Nm.long k f e true n (r - 1)).2.1 (Nm.long k f e true n (r - 1)).2.2
        simp only; omega
theorem longF_mono (k : Nat) (e : List (Nat × Sy)) : ∀ (l : List (Nm × Bool)) (st : Nat × Int), st.1 ≤ (thr (longF k e) l st).2.1 ∧ (thr (longF k e) l st).2.2 ≤ st.2 ∧ ((thr (longF k e) l st).2.1 : Int) - st.1 ≤ st.2 - (thr (longF k e) l st).2.2
  | [], st => by simp [thr]
  | p :: l, st => by
    have h1 := Nm.long_mono k p.1 e p.2 st.1 st.2
    have h2 := longF_mono k e l (longF k e p st).2
    simp only [thr, longF] at h2 ⊢
    omega

/-- The second counter does not fall below -1. -/
theorem Nm.long_lo : ∀ (k : Nat) (x : Nm) (e : List (Nat × Sy)) (hd : Bool) (n : Nat) (r : Int), -1 ≤ r → -1 ≤ (Nm.long k x e hd n r).2.2 := by
  intro k
  induction k with
  | zero => intro x e hd n r h; simpa [Nm.long] using h
  | succ k ih =>
    intro x e hd n r h1
    by_cases h : r < 0
    · rw [Nm.long_neg _ _ _ _ _ _ h]; exact h1
    cases x with
    | abs i s b =>
      rw [Nm.long_abs _ _ _ _ _ _ _ _ h]
      exact ih b ((i, s) :: e) false n (r - 1) (by omega)
    | con nm s =>
      rw [Nm.long, if_neg h]
      all_goals try (intros; contradiction)
      split
      · rename_i a _ _
        exact ih (.app (.con nm s) (.var (n + 1))) ((n + 1, a) :: e) false (n + 1) (r - 1) (by omega)
      · show -1 ≤ r - 1; omega
    | var i =>
      rw [Nm.long, if_neg h]
      all_goals try (intros; contradiction)
      split
      · rename_i a _ _
        exact ih (.app (.var i) (.var (n + 1))) ((n + 1, a) :: e) false (n + 1) (r - 1) (by omega)
      · show -1 ≤ r - 1; omega
    | app f y =>
      rw [Nm.long, if_neg h]
      all_goals try (intros; contradiction)
      split
      · rename_i a _ _
        exact ih (.app (.app f y) (.var (n + 1))) ((n + 1, a) :: e) false (n + 1) (r - 1) (by omega)
      · exact ih y e false _ _ (ih f e true n (r - 1) (by omega))
theorem longF_lo (k : Nat) (e : List (Nat × Sy)) : ∀ (l : List (Nm × Bool)) (st : Nat × Int), -1 ≤ st.2 → -1 ≤ (thr (longF k e) l st).2.2
  | [], st, h => by simpa [thr] using h
  | p :: l, st, h => by
    have h1 := Nm.long_lo k p.1 e p.2 st.1 st.2 h
    exact longF_lo k e l (longF k e p st).2 h1

/-- What long asks for, memory apart (fuel k; d: what sizes may exceed their bounds by). -/
structure LongPure (k d : Nat) (x : Nm) (e : List (Nat × Sy)) (s : Sy) (n : Nat) (r : Int) : Prop where
  rk : r < k
  room : (e.length : Int) + x.nodes + 4 * r ≤ 100000 + d
  rlo : -1 ≤ r
  rhi : r ≤ 2000
  nhi : 4 * ((n : Int) + r) ≤ 400000000000 + d
  good : x.good n (e.map Prod.fst)
  up : ∀ a ∈ e.map Prod.fst, a ≤ n
  nodup : (e.map Prod.fst).Nodup
  typ : Tv.typ (e.map Prod.snd) (x.tv (e.map Prod.fst)) = some s
/-- .. of a part, behind the parts ahead of it. -/
theorem LongPure.kid {k d : Nat} {x : Nm} {e : List (Nat × Sy)} {s : Sy} {n : Nat} {r : Int} (h : LongPure (k + 1) d x e s n r) (hd : d ≤ 4) (hr : ¬ r < 0) {j : Nat} (hj : j < x.kidsH.length) :
    ∃ s', LongPure k 0 (x.kidsH[j]).1 (x.lenv e) s' (thr (longF k (x.lenv e)) (x.kidsH.take j) (n, r - 1)).2.1 (thr (longF k (x.lenv e)) (x.kidsH.take j) (n, r - 1)).2.2 := by
  have h1 := longF_mono k (x.lenv e) (x.kidsH.take j) (n, r - 1)
  have h2 := longF_lo k (x.lenv e) (x.kidsH.take j) (n, r - 1) (by show -1 ≤ r - 1; omega)
  generalize (thr (longF k (x.lenv e)) (x.kidsH.take j) (n, r - 1)).2 = st at h1 h2
  obtain ⟨m, q⟩ := st
  simp only at h1 h2 ⊢
  obtain ⟨rk, room, rlo, rhi, nhi, good, up, nodup, typ⟩ := h
  match x, j, hj with
  | .abs i a b, 0, _ =>
    obtain ⟨g1, g2, g3⟩ := good
    obtain ⟨s', rfl, ht⟩ := Tv.typ_abs typ
    refine ⟨s', ⟨by omega, ?_, h2, by omega, by omega, g3.mono h1.1, ?_, ?_, ht⟩⟩
    · simp only [Nm.nodes] at room
      show (((i, a) :: e).length : Int) + b.nodes + 4 * q ≤ 100000 + (0 : Nat)
      simp only [List.length_cons]; omega
    · intro c hc
      rcases List.mem_cons.1 (show c ∈ i :: e.map Prod.fst from hc) with rfl | hc
      · omega
      · have := up c hc; omega
    · show (i :: e.map Prod.fst).Nodup
      exact List.nodup_cons.2 ⟨g1, nodup⟩
  | .app f y, 0, _ =>
    obtain ⟨a, t1, _⟩ := Tv.typ_app typ
    refine ⟨.fn a s, ⟨by omega, ?_, h2, by omega, by omega, good.1.mono h1.1, fun c hc => by have := up c hc; omega, nodup, t1⟩⟩
    simp only [Nm.nodes] at room
    show (e.length : Int) + f.nodes + 4 * q ≤ 100000 + (0 : Nat)
    omega
  | .app f y, 1, _ =>
    obtain ⟨a, _, t2⟩ := Tv.typ_app typ
    refine ⟨a, ⟨by omega, ?_, h2, by omega, by omega, good.2.mono h1.1, fun c hc => by have := up c hc; omega, nodup, t2⟩⟩
    simp only [Nm.nodes] at room
    show (e.length : Int) + y.nodes + 4 * q ≤ 100000 + (0 : Nat)
    omega

end Go.Proofs.YthflahcnkhmpaabDoor
