/-
  Named terms (the reference's 'named': each abstraction bears a number of its own): back to a term (Nm.tv); names, fresh copies, replacing and contracting agree with the plain calculus. Nothing here names the program.
-/
import Derived.Test.YthflahcnkhmpaabDoorLam
import Derived.Test.YthflahcnkhmpaabDoorCloneTm
import Derived.Test.YthflahcnkhmpaabDoorMod
import Derived.Test.YthflahcnkhmpaabDoorRepsEx
namespace Go.Proofs.YthflahcnkhmpaabDoor

inductive Nm where
  | con (nm : ByteArray) (s : Sy)
  | var (id : Nat)
  | abs (id : Nat) (s : Sy) (b : Nm)
  | app (f x : Nm)

def Nm.nodes : Nm → Nat
  | .con _ _ | .var _ => 1
  | .abs _ _ b => b.nodes + 1
  | .app f x => f.nodes + x.nodes + 1
theorem Nm.nodes_pos (v : Nm) : 0 < v.nodes := by cases v <;> simp [Nm.nodes]

/-- Where a number stands in the list (the innermost first). -/
def pos : List Nat → Nat → Nat
  | [], _ => 0
  | a :: l, x => if a = x then 0 else pos l x + 1
theorem pos_left : ∀ (l l' : List Nat) (x : Nat), x ∈ l → pos (l ++ l') x = pos l x ∧ pos l x < l.length
  | [], _, _, h => by simp at h
  | a :: l, l', x, h => by
    simp only [List.cons_append, pos]
    by_cases e : a = x
    · simp [e]
    · have := pos_left l l' x (by simpa [Ne.symm e] using h)
      simp only [if_neg e, List.length_cons]
      exact ⟨by rw [this.1], by omega⟩
theorem pos_right : ∀ (l l' : List Nat) (x : Nat), x ∉ l → pos (l ++ l') x = l.length + pos l' x
  | [], _, _, _ => by simp
  | a :: l, l', x, h => by
    simp only [List.mem_cons, not_or] at h
    simp only [List.cons_append, pos, if_neg (Ne.symm h.1), pos_right l l' x h.2, List.length_cons]
    omega
theorem pos_at : ∀ (l : List Nat) (i : Nat), l.Nodup → i < l.length → pos l (l.getD i 0) = i
  | a :: l, 0, _, _ => by simp [pos]
  | a :: l, i + 1, hn, h => by
    simp only [List.nodup_cons, List.length_cons] at hn h
    have hi : i < l.length := by omega
    have hm : l.getD i 0 ∈ l := by simp [List.getD, List.getElem?_eq_getElem hi]
    have hne : ¬ a = l.getD i 0 := fun e => hn.1 (e ▸ hm)
    simp only [List.getD_cons_succ, pos, if_neg hne, pos_at l i hn.2 hi]

def Nm.tv : List Nat → Nm → Tv
  | _, .con nm s => .con nm s
  | up, .var id => .var (pos up id)
  | up, .abs id s b => .abs s (b.tv (id :: up))
  | up, .app f x => .app (f.tv up) (x.tv up)
theorem Nm.tv_nodes : ∀ (x : Nm) (up : List Nat), (x.tv up).nodes = x.nodes
  | .con _ _, _ => rfl
  | .var _, _ => rfl
  | .abs _ _ b, up => by simp [Nm.tv, Tv.nodes, Nm.nodes, Nm.tv_nodes b]
  | .app f x, up => by simp [Nm.tv, Tv.nodes, Nm.nodes, Nm.tv_nodes f, Nm.tv_nodes x]

/-- Each variable is bound. -/
def Nm.sc : List Nat → Nm → Prop
  | _, .con _ _ => True
  | up, .var id => id ∈ up
  | up, .abs id _ b => b.sc (id :: up)
  | up, .app f x => f.sc up ∧ x.sc up
/-- .. and no abstraction bears the number of one that it stands in; all numbers are n at most. -/
def Nm.good (n : Nat) : List Nat → Nm → Prop
  | _, .con _ _ => True
  | up, .var id => id ∈ up
  | up, .abs id _ b => id ∉ up ∧ id ≤ n ∧ b.good n (id :: up)
  | up, .app f x => f.good n up ∧ x.good n up
theorem Nm.good.sc {n : Nat} : ∀ {x : Nm} {up : List Nat}, x.good n up → x.sc up
  | .con _ _, _, _ => trivial
  | .var _, _, h => h
  | .abs _ _ b, _, h => Nm.good.sc (x := b) h.2.2
  | .app f x, _, h => ⟨Nm.good.sc (x := f) h.1, Nm.good.sc (x := x) h.2⟩
theorem Nm.good.mono {n m : Nat} (hm : n ≤ m) : ∀ {x : Nm} {up : List Nat}, x.good n up → x.good m up
  | .con _ _, _, _ => trivial
  | .var _, _, h => h
  | .abs _ _ b, _, h => ⟨h.1, Nat.le_trans h.2.1 hm, Nm.good.mono hm (x := b) h.2.2⟩
  | .app f x, _, h => ⟨Nm.good.mono hm (x := f) h.1, Nm.good.mono hm (x := x) h.2⟩
theorem Nm.sc.weak : ∀ {x : Nm} {up up' : List Nat}, x.sc up → (∀ a ∈ up, a ∈ up') → x.sc up'
  | .con _ _, _, _, _, _ => trivial
  | .var _, _, _, h, hs => hs _ h
  | .abs i _ b, up, up', h, hs => Nm.sc.weak (x := b) h (fun a ha => by
      rcases List.mem_cons.1 ha with rfl | ha
      · simp
      · exact List.mem_cons_of_mem _ (hs a ha))
  | .app f x, _, _, h, hs => ⟨Nm.sc.weak (x := f) h.1 hs, Nm.sc.weak (x := x) h.2 hs⟩

/-- More names around: the term is lifted. -/
theorem Nm.tv_lift : ∀ (x : Nm) (u1 mid u2 : List Nat), x.sc (u1 ++ u2) → (∀ a ∈ mid, a ∉ u2) → x.tv (u1 ++ (mid ++ u2)) = (x.tv (u1 ++ u2)).lift mid.length u1.length
  | .con _ _, _, _, _, _, _ => rfl
  | .var i, u1, mid, u2, h, hd => by
    have h' : i ∈ u1 ++ u2 := h
    by_cases hi : i ∈ u1
    · have h1 := pos_left u1 (mid ++ u2) i hi
      have h2 := pos_left u1 u2 i hi
      simp only [Nm.tv, Tv.lift]
      rw [h1.1, h2.1, if_neg (by omega)]
    · have hi2 : i ∈ u2 := by simpa [hi] using h'
      have hm : i ∉ mid := fun hh => hd i hh hi2
      simp only [Nm.tv, Tv.lift]
      rw [pos_right _ _ _ hi, pos_right _ _ _ hi, pos_right _ _ _ hm, if_pos (by omega)]
      congr 1; omega
  | .abs i s b, u1, mid, u2, h, hd => by
    have := Nm.tv_lift b (i :: u1) mid u2 h hd
    simp only [List.cons_append, List.length_cons] at this
    simp only [Nm.tv, Tv.lift, this]
  | .app f x, u1, mid, u2, h, hd => by
    simp only [Nm.tv, Tv.lift, Nm.tv_lift f u1 mid u2 h.1 hd, Nm.tv_lift x u1 mid u2 h.2 hd]

/-! ### Fresh copies -/

/-- What an old number became (the innermost pair first). -/
def renam : List (Nat × Nat) → Nat → Nat
  | [], x => x
  | p :: l, x => if p.1 = x then p.2 else renam l x
def Nm.fresh : Nm → List (Nat × Nat) → Nat → Nm × Nat
  | .con nm s, _, n => (.con nm s, n)
  | .var id, e, n => (.var (renam e id), n)
  | .abs id s b, e, n => (.abs (n + 1) s (b.fresh ((id, n + 1) :: e) (n + 1)).1, (b.fresh ((id, n + 1) :: e) (n + 1)).2)
  | .app f x, e, n => (.app (f.fresh e n).1 (x.fresh e (f.fresh e n).2).1, (x.fresh e (f.fresh e n).2).2)
def olds (e : List (Nat × Nat)) : List Nat := e.map Prod.fst
def news (e : List (Nat × Nat)) : List Nat := e.map Prod.snd
theorem renam_mem : ∀ (e : List (Nat × Nat)) (up : List Nat) (x : Nat), x ∈ olds e ++ up → renam e x ∈ news e ++ up
  | [], _, _, h => by simpa [olds, news, renam] using h
  | p :: e, up, x, h => by
    simp only [renam]
    split
    · simp [news]
    · rename_i hne
      have := renam_mem e up x (by simpa [olds, Ne.symm hne] using h)
      simp only [news, List.map_cons, List.cons_append]
      exact List.mem_cons_of_mem _ this
/-- The new numbers differ from each other and from those around. -/
def Apart : List (Nat × Nat) → List Nat → Prop
  | [], _ => True
  | p :: e, up => p.2 ∉ news e ++ up ∧ Apart e up
theorem pos_renam : ∀ (e : List (Nat × Nat)) (up : List Nat) (x : Nat), x ∈ olds e ++ up → Apart e up → pos (news e ++ up) (renam e x) = pos (olds e ++ up) x
  | [], _, _, _, _ => by simp [olds, news, renam]
  | p :: e, up, x, h, ha => by
    simp only [renam]
    by_cases hx : p.1 = x
    · rw [if_pos hx]; simp [news, olds, pos, hx]
    · have hm : x ∈ olds e ++ up := by simpa [olds, Ne.symm hx] using h
      have h1 := renam_mem e up x hm
      have h2 : ¬ p.2 = renam e x := fun hh => ha.1 (hh ▸ h1)
      have h3 := pos_renam e up x hm ha.2
      rw [if_neg hx]
      simp only [news, olds, List.map_cons, List.cons_append, pos] at h3 ⊢
      rw [if_neg hx, if_neg h2, h3]
theorem Nm.fresh_tv : ∀ (x : Nm) (e : List (Nat × Nat)) (up : List Nat) (n : Nat), x.sc (olds e ++ up) → Apart e up → (∀ a ∈ news e ++ up, a ≤ n) →
    (x.fresh e n).1.tv (news e ++ up) = x.tv (olds e ++ up) ∧ (x.fresh e n).1.good (x.fresh e n).2 (news e ++ up) ∧ n ≤ (x.fresh e n).2
  | .con _ _, _, _, _, _, _, _ => ⟨rfl, trivial, Nat.le_refl _⟩
  | .var i, e, up, n, h, ha, _ => ⟨by simp only [Nm.fresh, Nm.tv]; rw [pos_renam e up i h ha], renam_mem e up i h, Nat.le_refl _⟩
  | .abs i s b, e, up, n, h, ha, hn => by
    have hne : n + 1 ∉ news e ++ up := fun hh => by have := hn _ hh; omega
    have ih := Nm.fresh_tv b ((i, n + 1) :: e) up (n + 1) h ⟨hne, ha⟩ (fun a hh => by
      simp only [news, List.map_cons, List.cons_append, List.mem_cons] at hh
      rcases hh with rfl | hh
      · exact Nat.le_refl _
      · have := hn a hh; omega)
    refine ⟨?_, ⟨hne, ih.2.2, ih.2.1⟩, by have := ih.2.2; simp only [Nm.fresh]; omega⟩
    have h1 := ih.1
    simp only [news, olds, List.map_cons, List.cons_append] at h1
    simp only [Nm.fresh, Nm.tv, news, olds, h1]
  | .app f x, e, up, n, h, ha, hn => by
    have h1 := Nm.fresh_tv f e up n h.1 ha hn
    have h2 := Nm.fresh_tv x e up (f.fresh e n).2 h.2 ha (fun a hh => by have := hn a hh; omega)
    refine ⟨by simp only [Nm.fresh, Nm.tv, h1.1, h2.1], ⟨h1.2.1.mono h2.2.2, h2.2.1⟩, by simp only [Nm.fresh]; omega⟩

/-! ### Replacing -/

def Nm.repl : Nm → Nat → Nm → Nat → Nm × Nat
  | .con nm s, _, _, n => (.con nm s, n)
  | .var i, id, y, n => if i = id then y.fresh [] n else (.var i, n)
  | .abs i s b, id, y, n => (.abs i s (b.repl id y n).1, (b.repl id y n).2)
  | .app f x, id, y, n => (.app (f.repl id y n).1 (x.repl id y (f.repl id y n).2).1, (x.repl id y (f.repl id y n).2).2)
theorem Nm.repl_tv : ∀ (x : Nm) (u1 : List Nat) (id : Nat) (u2 : List Nat) (y : Nm) (n : Nat), x.good n (u1 ++ id :: u2) → y.sc u2 → (∀ a ∈ u1 ++ id :: u2, a ≤ n) → id ∉ u1 → (∀ a ∈ u1, a ∉ u2) →
    (x.repl id y n).1.tv (u1 ++ u2) = (x.tv (u1 ++ id :: u2)).put (y.tv u2) u1.length ∧ (x.repl id y n).1.good (x.repl id y n).2 (u1 ++ u2) ∧ n ≤ (x.repl id y n).2
  | .con _ _, _, _, _, _, _, _, _, _, _, _ => ⟨rfl, trivial, Nat.le_refl _⟩
  | .var i, u1, id, u2, y, n, h, hy, hn, h1, h2 => by
    have hi : i ∈ u1 ++ id :: u2 := h
    by_cases e : i = id
    · subst e
      have h3 := Nm.fresh_tv y [] (u1 ++ u2) n (hy.weak (fun a ha => by simp [olds, ha])) trivial (fun a ha => hn a (by
        simp only [news, List.map_nil, List.nil_append, List.mem_append, List.mem_cons] at ha ⊢
        rcases ha with ha | ha <;> simp [ha]))
      have h4 := Nm.tv_lift y [] u1 u2 hy h2
      simp only [news, olds, List.map_nil, List.nil_append, List.length_nil] at h3 h4
      simp only [Nm.repl, if_true, Nm.tv, Tv.put, pos_right u1 _ _ h1, pos, Nat.add_zero]
      exact ⟨h3.1.trans h4, h3.2.1, h3.2.2⟩
    · simp only [Nm.repl, if_neg e, Nm.tv, Tv.put, Nm.good]
      by_cases hu : i ∈ u1
      · have h3 := pos_left u1 u2 i hu
        have h4 := pos_left u1 (id :: u2) i hu
        rw [h3.1, h4.1, if_neg (by omega), if_neg (by omega)]
        exact ⟨rfl, by simp [hu], Nat.le_refl _⟩
      · have hu2 : i ∈ u2 := by simpa [hu, e] using hi
        rw [pos_right _ _ _ hu, pos_right _ _ _ hu]
        simp only [pos, if_neg (Ne.symm e)]
        rw [if_neg (by omega), if_pos (by omega)]
        exact ⟨by congr 1, by simp [hu2], Nat.le_refl _⟩
  | .abs i s b, u1, id, u2, y, n, h, hy, hn, h1, h2 => by
    obtain ⟨g1, g2, g3⟩ := h
    simp only [List.mem_append, List.mem_cons, not_or] at g1
    have ih := Nm.repl_tv b (i :: u1) id u2 y n g3 hy (fun a ha => by
      simp only [List.cons_append] at ha
      rcases List.mem_cons.1 ha with rfl | ha
      · exact g2
      · exact hn a ha) (by simp [h1, Ne.symm g1.2.1]) (fun a ha => by
      rcases List.mem_cons.1 ha with rfl | ha
      · exact g1.2.2
      · exact h2 a ha)
    simp only [List.cons_append, List.length_cons] at ih
    refine ⟨by simp only [Nm.repl, Nm.tv, Tv.put, ih.1], ⟨by simp [g1.1, g1.2.2], by have := ih.2.2; simp only [Nm.repl]; omega, ih.2.1⟩, ih.2.2⟩
  | .app f x, u1, id, u2, y, n, h, hy, hn, h1, h2 => by
    have i1 := Nm.repl_tv f u1 id u2 y n h.1 hy hn h1 h2
    have i2 := Nm.repl_tv x u1 id u2 y (f.repl id y n).2 (h.2.mono i1.2.2) hy (fun a ha => by have := hn a ha; omega) h1 h2
    exact ⟨by simp only [Nm.repl, Nm.tv, Tv.put, i1.1, i2.1], ⟨i1.2.1.mono i2.2.2, i2.2.1⟩, by simp only [Nm.repl]; omega⟩

/-! ### Contracting -/

def Nm.contract : Nm → Nat → Option (Nm × Nat)
  | .con _ _, _ => none
  | .var _, _ => none
  | .abs i s b, n => (b.contract n).map fun r => (.abs i s r.1, r.2)
  | .app (.abs i _ b) x, n => some (b.repl i x n)
  | .app f x, n => match f.contract n with
    | some r => some (.app r.1 x, r.2)
    | none => (x.contract n).map fun r => (.app f r.1, r.2)
theorem Nm.contract_app (f x : Nm) (n : Nat) : (∃ i s b, f = .abs i s b ∧ (Nm.app f x).contract n = some (b.repl i x n)) ∨
    ((∀ i s b, f ≠ .abs i s b) ∧ ((∃ r, f.contract n = some r ∧ (Nm.app f x).contract n = some (.app r.1 x, r.2)) ∨ (f.contract n = none ∧ (Nm.app f x).contract n = (x.contract n).map fun r => (.app f r.1, r.2)))) := by
  cases f with
  | abs i s b => exact Or.inl ⟨i, s, b, rfl, rfl⟩
  | con nm s => exact Or.inr ⟨by simp, Or.inr ⟨rfl, rfl⟩⟩
  | var i => exact Or.inr ⟨by simp, Or.inr ⟨rfl, rfl⟩⟩
  | app g y =>
    refine Or.inr ⟨by simp, ?_⟩
    cases h : (Nm.app g y).contract n with
    | none => exact Or.inr ⟨rfl, by rw [Nm.contract, h]; simp⟩
    | some r => exact Or.inl ⟨r, rfl, by rw [Nm.contract, h]; simp⟩
/-- What a contraction is, seen as terms. -/
def StepsTo (up : List Nat) (n : Nat) : Option (Nm × Nat) → Option Tv → Prop
  | none, o => o = none
  | some r, o => o = some (r.1.tv up) ∧ r.1.good r.2 up ∧ n ≤ r.2
theorem Nm.contract_tv : ∀ (x : Nm) (up : List Nat) (n : Nat), x.good n up → (∀ a ∈ up, a ≤ n) → StepsTo up n (x.contract n) (x.tv up).step
  | .con _ _, _, _, _, _ => rfl
  | .var _, _, _, _, _ => rfl
  | .abs i s b, up, n, h, hn => by
    have ih := Nm.contract_tv b (i :: up) n h.2.2 (fun a ha => by
      rcases List.mem_cons.1 ha with rfl | ha
      · exact h.2.1
      · exact hn a ha)
    simp only [Nm.contract, Nm.tv, Tv.step]
    cases hc : b.contract n with
    | none =>
      rw [hc] at ih
      have ih : (b.tv (i :: up)).step = none := ih
      simp [ih, StepsTo]
    | some r =>
      rw [hc] at ih
      obtain ⟨h1, h2, h3⟩ : _ ∧ _ ∧ _ := ih
      exact ⟨by simp [h1, Nm.tv], ⟨h.1, Nat.le_trans h.2.1 h3, h2⟩, h3⟩
  | .app f x, up, n, h, hn => by
    rcases Nm.contract_app f x n with ⟨i, s, b, rfl, e⟩ | ⟨hne, hh⟩
    · rw [e]
      obtain ⟨⟨g1, g2, g3⟩, g4⟩ := h
      have h1 := Nm.repl_tv b [] i up x n g3 g4.sc (fun a ha => by
        rcases List.mem_cons.1 (by simpa using ha) with rfl | ha
        · exact g2
        · exact hn a ha) (by simp) (by simp)
      simp only [List.nil_append, List.length_nil] at h1
      exact ⟨by simp only [Nm.tv, Tv.step, h1.1], h1.2.1, h1.2.2⟩
    · have hne' : ∀ s b, f.tv up ≠ .abs s b := fun s b e => by
        cases f with
        | abs i s' b' => exact hne i s' b' rfl
        | _ => simp [Nm.tv] at e
      have i1 := Nm.contract_tv f up n h.1 hn
      have i2 := Nm.contract_tv x up n h.2 hn
      have hst := Tv.step_app (f.tv up) (x.tv up)
      rcases hst with ⟨s, b, e, _⟩ | ⟨_, hst⟩
      · exact absurd e (hne' s b)
      rcases hh with ⟨r, e1, e2⟩ | ⟨e1, e2⟩
      · rw [e1] at i1
        obtain ⟨h1, h2, h3⟩ : _ ∧ _ ∧ _ := i1
        rw [e2]
        rcases hst with ⟨f', e3, e4⟩ | ⟨e3, _⟩
        · rw [h1] at e3
          obtain rfl := Option.some.inj e3
          exact ⟨e4, ⟨h2, h.2.mono h3⟩, h3⟩
        · rw [h1] at e3; simp at e3
      · rw [e1] at i1
        have i1 : (f.tv up).step = none := i1
        rw [e2]
        rcases hst with ⟨f', e3, _⟩ | ⟨_, e4⟩
        · rw [i1] at e3; simp at e3
        · simp only [Nm.tv]
          rw [e4]
          cases hc : x.contract n with
          | none =>
            rw [hc] at i2
            have i2 : (x.tv up).step = none := i2
            simp [i2, StepsTo]
          | some r =>
            rw [hc] at i2
            obtain ⟨h1, h2, h3⟩ : _ ∧ _ ∧ _ := i2
            exact ⟨by simp [h1, Nm.tv], ⟨h.1.mono h3, h2⟩, h3⟩

/-! ### Names -/

def Nm.of : Tv → List Nat → Nat → Nm × Nat
  | .con nm s, _, n => (.con nm s, n)
  | .var i, up, n => (.var (up.getD i 0), n)
  | .abs s b, up, n => (.abs (n + 1) s (Nm.of b ((n + 1) :: up) (n + 1)).1, (Nm.of b ((n + 1) :: up) (n + 1)).2)
  | .app f x, up, n => (.app (Nm.of f up n).1 (Nm.of x up (Nm.of f up n).2).1, (Nm.of x up (Nm.of f up n).2).2)
theorem Nm.of_tv : ∀ (v : Tv) (up : List Nat) (n : Nat), v.ok up.length → up.Nodup → (∀ a ∈ up, a ≤ n) →
    (Nm.of v up n).1.tv up = v ∧ (Nm.of v up n).1.good (Nm.of v up n).2 up ∧ n ≤ (Nm.of v up n).2
  | .con _ _, _, _, _, _, _ => ⟨rfl, trivial, Nat.le_refl _⟩
  | .var i, up, n, h, hd, _ => by
    have hi : i < up.length := h
    refine ⟨by simp only [Nm.of, Nm.tv, pos_at up i hd hi], ?_, Nat.le_refl _⟩
    show up.getD i 0 ∈ up
    simp [List.getD, List.getElem?_eq_getElem hi]
  | .abs s b, up, n, h, hd, hn => by
    have hne : n + 1 ∉ up := fun hh => by have := hn _ hh; omega
    have ih := Nm.of_tv b ((n + 1) :: up) (n + 1) h.2 (by simp [hne, hd]) (fun a ha => by
      rcases List.mem_cons.1 ha with rfl | ha
      · exact Nat.le_refl _
      · have := hn a ha; omega)
    exact ⟨by simp only [Nm.of, Nm.tv, ih.1], ⟨hne, ih.2.2, ih.2.1⟩, by have := ih.2.2; simp only [Nm.of]; omega⟩
  | .app f x, up, n, h, hd, hn => by
    have h1 := Nm.of_tv f up n h.1 hd hn
    have h2 := Nm.of_tv x up (Nm.of f up n).2 h.2 hd (fun a ha => by have := hn a ha; omega)
    exact ⟨by simp only [Nm.of, Nm.tv, h1.1, h2.1], ⟨h1.2.1.mono h2.2.2, h2.2.1⟩, by simp only [Nm.of]; omega⟩

/-- The reference's normal form: at most k steps. -/
def Nm.steps : Nat → Nm → Nat → Option (Nm × Nat)
  | 0, _, _ => none
  | k + 1, x, n => if 2000 < x.nodes then none else match x.contract n with
    | none => some (x, n)
    | some r => Nm.steps k r.1 r.2


open Go Go.RowKit
set_option linter.unusedSimpArgs false
set_option linter.unusedVariables false

structure NmL where
  kind : Int
  id : Int
  nm : ByteArray
  ty : Ty
abbrev Nt := Tree NmL

def nmL : Rep NmL where
  size := 5
  R w S a cs := ∃ u0 u1, cs = [.int .i64 a.kind, .int .i64 a.id, .string a.nm, u0, u1] ∧ a.nm.size ≤ maxLen ∧ Ty.In w S a.ty u0 u1
  pos := by omega
  len := by rintro w S a cs ⟨u0, u1, rfl, _⟩; rfl
  one := by
    rintro w S a cs ⟨u0, u1, rfl, _, h⟩ u hu
    obtain ⟨s, A, n, c, rfl, rfl⟩ := h.shape
    simp at hu
    rcases hu with rfl | rfl | rfl | rfl | rfl <;> rfl
  keep := by
    rintro w w' S S' a cs ⟨u0, u1, rfl, h0, h⟩ hk hS
    exact ⟨u0, u1, rfl, h0, Ty.In_keep hk hS _ _ _ h⟩
abbrev nmRep : Rep Nt := treeRep nmL

theorem Nt.open_ {w : World} {S : Nat → Prop} {a : NmL} {l : List Nt} {cs : List Value} (h : nmRep.R w S (.mk a l) cs) :
    ∃ u0 u1 v, cs = [.int .i64 a.kind, .int .i64 a.id, .string a.nm, u0, u1, v] ∧ a.nm.size ≤ maxLen ∧ Ty.In w S a.ty u0 u1 ∧ nmRep.Sl w S v l := by
  obtain ⟨hs, v, rfl, ⟨u0, u1, rfl, h1, h2⟩, h3⟩ := Tree.In_iff.1 h
  exact ⟨u0, u1, v, rfl, h1, h2, h3⟩
theorem Nt.shut {w : World} {S : Nat → Prop} {a : NmL} {l : List Nt} {u0 u1 v : Value} (h1 : a.nm.size ≤ maxLen) (h2 : Ty.In w S a.ty u0 u1) (h3 : nmRep.Sl w S v l) :
    nmRep.R w S (.mk a l) [.int .i64 a.kind, .int .i64 a.id, .string a.nm, u0, u1, v] :=
  Tree.In_iff.2 ⟨[.int .i64 a.kind, .int .i64 a.id, .string a.nm, u0, u1], v, rfl, ⟨u0, u1, rfl, h1, h2⟩, h3⟩
theorem Nt.shape {w : World} {S : Nat → Prop} {t : Nt} {cs : List Value} (h : nmRep.R w S t cs) :
    ∃ s' A' n' c' A n c, cs = [.int .i64 t.lab.kind, .int .i64 t.lab.id, .string t.lab.nm, .string s', .slice A' n' c', .slice A n c] ∧ t.kids.length = n ∧ n ≤ maxLen := by
  obtain ⟨a, l⟩ := t
  obtain ⟨u0, u1, v, rfl, h1, h2, A, n, c, rfl, h3, h4, _⟩ := Nt.open_ h
  obtain ⟨s', A', n', c', rfl, rfl⟩ := h2.shape
  exact ⟨_, _, _, _, _, _, _, rfl, h3, h4⟩

def Nm.kids : Nm → List Nm
  | .con _ _ | .var _ => []
  | .abs _ _ b => [b]
  | .app f x => [f, x]
def Nm.lab : Nm → NmL
  | .con nm s => ⟨1, 0, nm, s.ty⟩
  | .var i => ⟨2, i, bNil, noTy⟩
  | .abs i s _ => ⟨3, i, bNil, s.ty⟩
  | .app _ _ => ⟨4, 0, bNil, noTy⟩
def Nm.tr : Nm → Nt
  | .con nm s => .mk ⟨1, 0, nm, s.ty⟩ []
  | .var i => .mk ⟨2, i, bNil, noTy⟩ []
  | .abs i s b => .mk ⟨3, i, bNil, s.ty⟩ [b.tr]
  | .app f x => .mk ⟨4, 0, bNil, noTy⟩ [f.tr, x.tr]
theorem Nm.tr_eq (v : Nm) : v.tr = .mk v.lab (v.kids.map Nm.tr) := by cases v <;> rfl
theorem Nm.kids_nodes (v : Nm) (j : Nat) (h : j < v.kids.length) : v.kids[j].nodes < v.nodes := by
  match v, j, h with
  | .abs _ _ b, 0, _ => simp [Nm.kids, Nm.nodes]
  | .app f x, 0, _ => simp [Nm.kids, Nm.nodes]; omega
  | .app f x, 1, _ => simp [Nm.kids, Nm.nodes]; omega
theorem Nm.kids_len (v : Nm) : v.kids.length ≤ 2 := by cases v <;> simp [Nm.kids]

/-- From a to w, below B, nothing changed but the blocks of P (counters behind pointers). -/
structure Mods (P : Nat → Prop) (B : Nat) (a w : World) : Prop where
  os : w.os = a.os
  tape : w.tape = a.tape
  output : w.output = a.output
  size : a.heap.size ≤ w.heap.size
  block : ∀ k, k < B → ¬ P k → w.heap[k]? = a.heap[k]?
section
variable {P : Nat → Prop} {B B' : Nat} {a b w w' : World}
theorem Mods.refl : Mods P B a a := ⟨rfl, rfl, rfl, Nat.le_refl _, fun _ _ _ => rfl⟩
theorem Mods.trans (h : Mods P B a b) (k : Mods P B b w) : Mods P B a w :=
  ⟨k.os.trans h.os, k.tape.trans h.tape, k.output.trans h.output, Nat.le_trans h.size k.size, fun i hi hn => (k.block i hi hn).trans (h.block i hi hn)⟩
theorem Mods.mono (h : Mods P B a w) (hB : B' ≤ B) : Mods P B' a w := ⟨h.os, h.tape, h.output, h.size, fun k hk hn => h.block k (Nat.lt_of_lt_of_le hk hB) hn⟩
theorem Mods.weak {Q : Nat → Prop} (h : Mods P B a w) (hQ : ∀ k, k < B → P k → Q k) : Mods Q B a w := ⟨h.os, h.tape, h.output, h.size, fun k hk hn => h.block k hk (fun hp => hn (hQ k hk hp))⟩
theorem Mods.below (h : Below B a w) : Mods P B a w := ⟨h.os, h.tape, h.output, h.size, fun k hk _ => h.block k hk⟩
theorem Mods.thenBelow (h : Mods P B a b) (k : Below B b w) : Mods P B a w := h.trans (Mods.below k)
theorem Mods.drew (h : Mods P B a w) : Mods P B a w.drew := ⟨h.os, h.tape, h.output, h.size, h.block⟩
theorem Mods.alloc (h : Mods P B a w) (hB : B ≤ w.heap.size) (o : Obj) : Mods P B a (w.alloc o) := h.thenBelow ((Below.refl B w).alloc hB o)
theorem Mods.setCell (h : Mods P B a w) {p : Addr} (hp : B ≤ p.block) (u : Value) : Mods P B a (w.setCell p u) := h.thenBelow ((Below.refl B w).setCell hp u)
theorem Mods.setP (h : Mods P B a w) {k o : Nat} (hk : P k) (u : Value) : Mods P B a (w.setCell ⟨k, o, none⟩ u) :=
  h.trans ⟨rfl, rfl, rfl, by simp [World.setCell], fun _ _ hn => Below.heap_setCell _ _ _ _ (by rintro rfl; exact hn hk)⟩
theorem Mods.grown {row : Option Nat} (h : Mods P B a w) (hg : w.grownBy w' row) (hB : B ≤ w.heap.size) (hr : ∀ k, row = some k → B ≤ k) : Mods P B a w' := h.thenBelow ((Below.refl B w).grown hg hB hr)
/-- Where all of P are the call's own. -/
theorem Mods.toBelow (h : Mods P B a w) (hr : ∀ k, P k → B ≤ k) : Below B a w := ⟨h.os, h.tape, h.output, h.size, fun k hk => h.block k hk (fun hp => by have := hr k hp; omega)⟩
theorem Mods.keepS {S : Nat → Prop} (h : Mods P B a w) (hS : ∀ k, S k → k < B ∧ ¬ P k) : ∀ k, S k → w.heap[k]? = a.heap[k]? := fun k hk => h.block k (hS k hk).1 (hS k hk).2
variable {v0 v1 v2 v3 v4 v5 : Value} {g : Nat}
theorem mods6 (h : Mods P B a w) (hb : B ≤ g) :
    Mods P B a ((((((w.setCell ⟨g, 0, none⟩ v0).setCell ⟨g, 1, none⟩ v1).setCell ⟨g, 2, none⟩ v2).setCell ⟨g, 3, none⟩ v3).setCell ⟨g, 4, none⟩ v4).setCell ⟨g, 5, none⟩ v5) :=
  h.thenBelow (below6 (Below.refl B w) hb)
theorem mods2 (h : Mods P B a w) (hb : B ≤ g) : Mods P B a ((w.setCell ⟨g, 0, none⟩ v0).setCell ⟨g, 1, none⟩ v1) := h.thenBelow (below2 (Below.refl B w) hb)
end


/-- f along a list, the state handed on. -/
def thr {α β σ : Type} (f : α → σ → β × σ) : List α → σ → List β × σ
  | [], s => ([], s)
  | a :: l, s => ((f a s).1 :: (thr f l (f a s).2).1, (thr f l (f a s).2).2)
theorem thr_snoc {α β σ : Type} (f : α → σ → β × σ) : ∀ (l : List α) (a : α) (s : σ), thr f (l ++ [a]) s = ((thr f l s).1 ++ [(f a (thr f l s).2).1], (f a (thr f l s).2).2)
  | [], a, s => rfl
  | b :: l, a, s => by simp only [List.cons_append, thr, thr_snoc f l a]
theorem thr_len {α β σ : Type} (f : α → σ → β × σ) : ∀ (l : List α) (s : σ), (thr f l s).1.length = l.length
  | [], _ => rfl
  | a :: l, s => by simp only [thr, List.length_cons, thr_len f l]
theorem thr_take {α β σ : Type} (f : α → σ → β × σ) {l : List α} {j : Nat} (h : j < l.length) (s : σ) : thr f (l.take (j + 1)) s = ((thr f (l.take j) s).1 ++ [(f l[j] (thr f (l.take j) s).2).1], (f l[j] (thr f (l.take j) s).2).2) := by
  rw [List.take_succ_eq_append_getElem h, thr_snoc]

/-! Names -/
/-- The numbers around a node's parts, and the counter there. -/
def Tv.ups (v : Tv) (up : List Nat) (n : Nat) : List Nat := match v with
  | .abs _ _ => (n + 1) :: up
  | _ => up
def Tv.upn (v : Tv) (n : Nat) : Nat := match v with
  | .abs _ _ => n + 1
  | _ => n
def Tv.nlab (v : Tv) (n : Nat) : NmL := match v with
  | .con nm s => ⟨1, 0, nm, s.ty⟩
  | .var _ => ⟨2, 0, bNil, noTy⟩
  | .abs s _ => ⟨3, (n + 1 : Nat), bNil, s.ty⟩
  | .app _ _ => ⟨4, 0, bNil, noTy⟩
theorem Nm.of_eq {v : Tv} (h : ∀ i, v ≠ .var i) (up : List Nat) (n : Nat) :
    (Nm.of v up n).1.tr = .mk (v.nlab n) ((thr (fun x k => Nm.of x (v.ups up n) k) v.kids (v.upn n)).1.map Nm.tr) ∧ (Nm.of v up n).2 = (thr (fun x k => Nm.of x (v.ups up n) k) v.kids (v.upn n)).2 := by
  cases v with
  | var i => exact absurd rfl (h i)
  | con nm s => exact ⟨rfl, rfl⟩
  | abs s b => exact ⟨rfl, rfl⟩
  | app f x => exact ⟨rfl, rfl⟩
theorem Nm.of_le : ∀ (v : Tv) (up : List Nat) (n : Nat), (Nm.of v up n).2 ≤ n + v.nodes ∧ n ≤ (Nm.of v up n).2
  | .con _ _, _, n => ⟨by simp [Nm.of], Nat.le_refl _⟩
  | .var _, _, n => ⟨by simp [Nm.of], Nat.le_refl _⟩
  | .abs s b, up, n => by
    have := Nm.of_le b ((n + 1) :: up) (n + 1)
    simp only [Nm.of, Tv.nodes]; omega
  | .app f x, up, n => by
    have h1 := Nm.of_le f up n
    have h2 := Nm.of_le x up (Nm.of f up n).2
    simp only [Nm.of, Tv.nodes]; omega

/-! Fresh copies, replacing -/
def Nm.nlab (v : Nm) (n : Nat) : NmL := match v with
  | .abs _ s _ => ⟨3, (n + 1 : Nat), bNil, s.ty⟩
  | v => v.lab
def Nm.env (v : Nm) (e : List (Nat × Nat)) (n : Nat) : List (Nat × Nat) := match v with
  | .abs i _ _ => (i, n + 1) :: e
  | _ => e
def Nm.upn (v : Nm) (n : Nat) : Nat := match v with
  | .abs _ _ _ => n + 1
  | _ => n
theorem Nm.fresh_eq {v : Nm} (h : ∀ i, v ≠ .var i) (e : List (Nat × Nat)) (n : Nat) :
    (v.fresh e n).1.tr = .mk (v.nlab n) ((thr (fun x k => x.fresh (v.env e n) k) v.kids (v.upn n)).1.map Nm.tr) ∧ (v.fresh e n).2 = (thr (fun x k => x.fresh (v.env e n) k) v.kids (v.upn n)).2 := by
  cases v with
  | var i => exact absurd rfl (h i)
  | con nm s => exact ⟨rfl, rfl⟩
  | abs i s b => exact ⟨rfl, rfl⟩
  | app f x => exact ⟨rfl, rfl⟩
theorem Nm.repl_eq {v : Nm} {id : Nat} (h : v ≠ .var id) (y : Nm) (n : Nat) :
    (v.repl id y n).1.tr = .mk v.lab ((thr (fun x k => x.repl id y k) v.kids n).1.map Nm.tr) ∧ (v.repl id y n).2 = (thr (fun x k => x.repl id y k) v.kids n).2 := by
  cases v with
  | var i =>
    have : i ≠ id := fun e => h (e ▸ rfl)
    simp [Nm.repl, this, Nm.tr, Nm.lab, Nm.kids, thr]
  | con nm s => exact ⟨rfl, rfl⟩
  | abs i s b => exact ⟨rfl, rfl⟩
  | app f x => exact ⟨rfl, rfl⟩
/-- The term that a named one stands for: its node and its parts. -/
def Nm.tlab : Nm → TmL
  | .con nm s => ⟨1, nm, 0, s.ty⟩
  | .var _ => ⟨2, bNil, 0, noTy⟩
  | .abs _ s _ => ⟨3, bNil, 0, s.ty⟩
  | .app _ _ => ⟨4, bNil, 0, noTy⟩
def Nm.bup (v : Nm) (up : List Nat) : List Nat := match v with
  | .abs i _ _ => i :: up
  | _ => up
theorem Nm.tv_eq {v : Nm} (h : ∀ i, v ≠ .var i) (up : List Nat) : (v.tv up).tm = .mk v.tlab (v.kids.map fun x => (x.tv (v.bup up)).tm) := by
  cases v with
  | var i => exact absurd rfl (h i)
  | _ => rfl

end Go.Proofs.YthflahcnkhmpaabDoor
