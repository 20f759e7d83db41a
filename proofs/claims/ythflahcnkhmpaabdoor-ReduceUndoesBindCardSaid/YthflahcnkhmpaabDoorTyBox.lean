/-
  A slice that grows behind a pointer (bt: the pointer's block): Coll, what the rest of memory keeps; rows and terms whose new blocks are of one type (KT): they outlast the other row's growth.
-/
import Derived.Test.YthflahcnkhmpaabDoorSets
import Derived.Test.YthflahcnkhmpaabDoorOwnSet
namespace Go.Proofs.YthflahcnkhmpaabDoor
open Go Go.RowKit
set_option linter.unusedSimpArgs false
set_option linter.unusedVariables false

/-- From w to w' nothing changed but the pointer's block bt and the row of the slice q, which became q'. -/
structure Coll (w w' : World) (bt : Nat) (q q' : Value) : Prop where
  os : w'.os = w.os
  tape : w'.tape = w.tape
  output : w'.output = w.output
  size : w.heap.size ≤ w'.heap.size
  block : ∀ b, b < w.heap.size → b ≠ bt → q.ownBlock ≠ some b → w'.heap[b]? = w.heap[b]?
  own : q'.ownBlock = q.ownBlock ∨ ∀ k, q'.ownBlock = some k → w.heap.size ≤ k
section
variable {w w1 w2 : World} {bt : Nat} {q q1 q2 : Value}
theorem Coll.refl : Coll w w bt q q := ⟨rfl, rfl, rfl, Nat.le_refl _, fun _ _ _ _ => rfl, Or.inl rfl⟩
theorem Coll.ne (h : Coll w w1 bt q q1) {b : Nat} (hb : b < w.heap.size) (hn : q.ownBlock ≠ some b) : q1.ownBlock ≠ some b := by
  rcases h.own with e | e
  · rw [e]; exact hn
  · intro e2; have := e b e2; omega
theorem Coll.trans (h : Coll w w1 bt q q1) (k : Coll w1 w2 bt q1 q2) : Coll w w2 bt q q2 :=
  ⟨k.os.trans h.os, k.tape.trans h.tape, k.output.trans h.output, Nat.le_trans h.size k.size,
   fun b hb h1 h2 => (k.block b (Nat.lt_of_lt_of_le hb h.size) h1 (h.ne hb h2)).trans (h.block b hb h1 h2), by
    rcases k.own with e | e
    · rw [e]; exact h.own
    · exact Or.inr fun x hx => Nat.le_trans h.size (e x hx)⟩
theorem Coll.below (h : Below w.heap.size w w1) : Coll w w1 bt q q := ⟨h.os, h.tape, h.output, h.size, fun b hb _ _ => h.block b hb, Or.inl rfl⟩
theorem Coll.thenBelow {B : Nat} (h : Coll w w1 bt q q1) (k : Below B w1 w2) (hB : w1.heap.size ≤ B) : Coll w w2 bt q q1 := h.trans (Coll.below (k.mono hB))
theorem Coll.drew (h : Coll w w1 bt q q1) : Coll w w1.drew bt q q1 := ⟨h.os, h.tape, h.output, h.size, h.block, h.own⟩
theorem Coll.alloc (h : Coll w w1 bt q q1) (o : Obj) : Coll w (w1.alloc o) bt q q1 := h.trans (Coll.below ((Below.refl _ _).alloc (Nat.le_refl _) o))
/-- A cell of what is new is stored. -/
theorem Coll.setCell (h : Coll w w1 bt q q1) {p : Addr} (hp : w.heap.size ≤ p.block) (u : Value) : Coll w (w1.setCell p u) bt q q1 :=
  ⟨h.os, h.tape, h.output, by rw [size_set]; exact h.size, fun b hb h1 h2 => (Below.heap_setCell _ _ _ b (by intro e; omega)).trans (h.block b hb h1 h2), h.own⟩
/-- Another row of what is new grows. -/
theorem Coll.grownBy {r : Option Nat} (h : Coll w w1 bt q q1) (hg : w1.grownBy w2 r) (hr : ∀ k, r = some k → w.heap.size ≤ k) : Coll w w2 bt q q1 :=
  ⟨hg.os.trans h.os, hg.tape.trans h.tape, hg.output.trans h.output, Nat.le_trans h.size hg.size,
   fun b hb h1 h2 => (hg.block b (Nat.lt_of_lt_of_le hb h.size) (by intro e; have := hr b e.symm; omega)).trans (h.block b hb h1 h2), h.own⟩
/-- The append to the slice, and the store of its new value through the pointer. -/
theorem Coll.app (h : Coll w w1 bt q q1) (hg : w1.grownBy w2 q1.ownBlock) (hat : q2.ownBlock = q1.ownBlock ∨ ∀ k, q2.ownBlock = some k → w1.heap.size ≤ k) (i : Nat) (u : Value) : Coll w (w2.setCell ⟨bt, i, none⟩ u) bt q q2 :=
  h.trans ⟨hg.os, hg.tape, hg.output, by rw [size_set]; exact hg.size, fun b hb h1 h2 => (Below.heap_setCell _ _ _ b h1).trans (hg.block b hb (fun e => h2 e.symm)), hat⟩
/-- What a set of old blocks holds, none of which is the pointer's or the row's. -/
theorem Coll.keepS {S : Nat → Prop} {base : Nat} (h : Coll w w1 bt q q1) (hS : ∀ b, S b → b < bt) (hbt : bt < base) (hb : base ≤ w.heap.size) (hq : ∀ k, q.ownBlock = some k → base ≤ k ∧ k < w.heap.size) : ∀ b, S b → w1.heap[b]? = w.heap[b]? :=
  fun b hs => h.block b (by have := hS b hs; omega) (by have := hS b hs; omega) (fun e => by have := (hq b e).1; have := hS b hs; omega)
theorem Coll.keep1 {base b : Nat} (h : Coll w w1 bt q q1) (hlt : b < base) (hne : b ≠ bt) (hb : base ≤ w.heap.size) (hq : ∀ k, q.ownBlock = some k → base ≤ k ∧ k < w.heap.size) : w1.heap[b]? = w.heap[b]? :=
  h.block b (by omega) hne (fun e => by have := (hq b e).1; omega)
end

/-- In S, or new from base on and of type E. -/
def KT (E : TypeId) (S : Nat → Prop) (base : Nat) (w : World) : Nat → Prop := fun b => S b ∨ (base ≤ b ∧ b < w.heap.size ∧ ∃ c fz, w.heap[b]? = some (.cells c E fz))
section
variable {E : TypeId} {S : Nat → Prop} {base : Nat} {w w' : World} {α : Type} {ρ : Rep α}
theorem KT.lo (hS : ∀ b, S b → b < base) (hb : base ≤ w.heap.size) : ∀ b, KT E S base w b → b < w.heap.size := by
  rintro b (h | h)
  · have := hS b h; omega
  · exact h.2.1
theorem KT.up {base' : Nat} (hs : w.heap.size ≤ w'.heap.size) (hk : ∀ b c fz, base' ≤ b → w.heap[b]? = some (.cells c E fz) → w'.heap[b]? = w.heap[b]?) (hb : base ≤ base') : ∀ b, KT E S base' w b → KT E S base w' b := by
  rintro b (h | ⟨h1, h2, c, fz, h3⟩)
  · exact Or.inl h
  · exact Or.inr ⟨by omega, by omega, c, fz, (hk b c fz h1 h3).trans h3⟩
/-- A slice of one's own of that type goes on, whatever happens to other types' blocks. -/
theorem Rep.Own.keepT {v : Value} {l : List α} (h : ρ.Own E base w (KT E S base w) v l) (hkS : ∀ b, S b → w'.heap[b]? = w.heap[b]?)
    (hk : ∀ b c fz, base ≤ b → w.heap[b]? = some (.cells c E fz) → w'.heap[b]? = w.heap[b]?) (hs : w.heap.size ≤ w'.heap.size) : ρ.Own E base w' (KT E S base w') v l := by
  obtain ⟨xs, ⟨h1, h2⟩, h3⟩ := h
  refine ⟨xs, ⟨h1, ?_⟩, h3.keep (fun b hb => ?_) (fun b hb => ⟨KT.up hs hk (Nat.le_refl _) b hb.1, hb.2⟩)⟩
  · rcases h2 with h2 | ⟨g, cap, cur, e, hg, hh, r⟩
    · exact Or.inl h2
    · exact Or.inr ⟨g, cap, cur, e, hg, (hk g _ _ hg hh).trans hh, r⟩
  · rcases hb.1 with h | ⟨h4, _, c, fz, h5⟩
    · exact hkS b h
    · exact hk b c fz h4 h5
theorem Rep.Own.ownT {v : Value} {S' : Nat → Prop} {l : List α} (h : ρ.Own E base w S' v l) : ∀ g, v.ownBlock = some g → base ≤ g ∧ g < w.heap.size ∧ ∃ c fz, w.heap[g]? = some (.cells c E fz) := by
  obtain ⟨xs, ⟨_, h2⟩, _⟩ := h
  intro k hk
  rcases h2 with ⟨e, _⟩ | ⟨g, cap, cur, e, hg, hh, _⟩
  · rw [e] at hk; simp [Value.ownBlock] at hk
  · rw [e] at hk
    simp only [Value.ownBlock, Option.some.injEq] at hk
    subst hk
    exact ⟨hg, lt_heap hh, _, _, hh⟩
/-- A round of a loop 'u.Args = append(u.Args, f(x))': the new element lies in KT, too. -/
theorem Rep.stepT {w1 w3 : World} {T : Nat → Prop} {v : Value} {l : List α} {a : α} {xs news : List Value} {g cap n : Nat} {o : Obj} (hl : l.length = n) (hSb : ∀ b, S b → b < base) (hbw : base ≤ w1.heap.size)
    (hall : ρ.All w1 (fun b => KT E S base w1 b ∧ v.ownBlock ≠ some b) l xs) (hn : ρ.R w1 T a news) (hT : ∀ b, T b → KT E S base w1 b ∧ v.ownBlock ≠ some b)
    (hown : w3.ownsRow base E ρ.size (.slice (some ⟨g, 0, none⟩) (n + 1) cap) (n + 1) (xs ++ news)) (hg : (w1.alloc o).grownBy w3 v.ownBlock) (hat : v.ownBlock = some g ∨ g = w1.heap.size + 1) :
    ρ.Own E base w3 (KT E S base w3) (.slice (some ⟨g, 0, none⟩) (n + 1) cap) (l ++ [a]) := by
  subst hl
  have hlo : ∀ b, KT E S base w1 b → b < w1.heap.size := KT.lo hSb hbw
  have hk : ∀ b, (KT E S base w1 b ∧ v.ownBlock ≠ some b) → (w1.alloc o).heap[b]? = w1.heap[b]? := fun b hb => Below.heap_alloc w1 o b (hlo b hb.1)
  have hsz : w1.heap.size + 1 ≤ w3.heap.size := by have := hg.size; simpa using this
  have h := Rep.appended1 (w := w1.alloc o) (H := w1.heap.size + 1) (S := fun b => KT E S base w1 b ∧ v.ownBlock ≠ some b) (T := T) (hall.keep hk (fun _ h => ⟨h, h.2⟩)) (ρ.keep hn (fun b hb => hk b (hT b hb)) (fun _ h => h)) (fun b hb => ⟨hT b hb, (hT b hb).2⟩) (fun b hb => by have := hlo b hb.1; simp; omega) hown hg hat (by simp)
  obtain ⟨xs', h1, h2⟩ := h
  refine ⟨xs', h1, h2.keep (fun _ _ => rfl) (fun b hb => ⟨?_, hb.2⟩)⟩
  rcases hb.1.1 with h4 | ⟨h4, h5, c, fz, h6⟩
  · exact Or.inl h4
  · exact Or.inr ⟨h4, by omega, c, fz, (hg.block b (by simp; omega) (fun e => hb.1.2 e.symm)).trans ((Below.heap_alloc w1 o b h5).trans h6)⟩
/-- .. the slice as a whole. -/
theorem Rep.Own.slT {v : Value} {S' : Nat → Prop} {l : List α} (h : ρ.Own E base w S' v l) (hm : l.length ≤ maxLen) (hS : ∀ b, S' b → KT E S base w b) : ρ.Sl w (KT E S base w) v l := by
  have ho := h.ownT
  obtain ⟨A, c, rfl⟩ := h.len
  refine ⟨A, l.length, c, rfl, rfl, hm, fun hp => ?_⟩
  obtain ⟨xs, h1, h2⟩ := h
  obtain ⟨g, cap, e, hb, hlt⟩ := h1.form hp
  injection e with e1 _ _
  subst e1
  refine ⟨g, 0, xs, rfl, Or.inr (ho g rfl), h2.keep (fun _ _ => rfl) (fun b hb => hS b hb.1), fun j u hj => ?_⟩
  have := h1.cells (g := g) rfl j u hj
  rw [Nat.zero_add]
  rw [← this]
  congr 1
  unfold Addr.add; split <;> simp_all
end

theorem at1 {w : World} {b : Nat} {a v : Value} {T : TypeId} (h : w.heap[b]? = some (.cells #[a] T (0, 0))) : (w.setCell ⟨b, 0, none⟩ v).heap[b]? = some (.cells #[v] T (0, 0)) := heap_set h 0 v
theorem farq {w : World} {b k q : Nat} {v0 v1 : Value} {x : Option Obj} (h : k ≠ b) (hx : w.heap[k]? = x) : ((w.setCell ⟨b, q, none⟩ v0).setCell ⟨b, q + 1, none⟩ v1).heap[k]? = x := heap_far _ h (heap_far _ h hx)
theorem snocT0 {xs : List Value} {a b : Value} {n : Nat} (h : xs.length = n) : (xs ++ [a, b])[n]? = some a := by subst h; simp
theorem snocT1 {xs : List Value} {a b : Value} {n : Nat} (h : xs.length = n) : (xs ++ [a, b])[n + 1]? = some b := by subst h; simp
theorem noTy_in {w : World} {S : Nat → Prop} : noTy.In w S (.string ⟨#[]⟩) (.slice none 0 0) := Ty.In.mk_ (by decide +kernel) rfl (by omega) (by omega)

/-- What an append through the pointer leaves. -/
def AppTy (E T : TypeId) (base bt : Nat) (S : Nat → Prop) (w W : World) (q q' : Value) (l : List Ty) : Prop :=
  W.heap[bt]? = some (.cells #[q'] T (0, 0)) ∧ tyRep.Own E base W S q' l ∧ Coll w W bt q q'
/-- A zero type is appended, then the type stored over it, and the slice stored behind the pointer (or the other way round). -/
theorem app_ty {E T : TypeId} {base bt gg cap n q2 : Nat} {S : Nat → Prop} {w w3 : World} {q v0 v1 : Value} {l : List Ty} {xs : List Value} {t : Ty} {o : Obj} (hn : l.length = n) (hq2 : q2 = n * 2)
    (hbt : w.heap[bt]? = some (.cells #[q] T (0, 0))) (hall : tyRep.All w (fun b => S b ∧ q.ownBlock ≠ some b) l xs) (hqb : ∀ k, q.ownBlock = some k → base ≤ k ∧ k < w.heap.size) (hS : ∀ b, S b → b < bt) (hb1 : bt < base) (hb2 : base ≤ w.heap.size)
    (hown : w3.ownsRow base E 2 (.slice (some ⟨gg, 0, none⟩) (n + 1) cap) (n + 1) (xs ++ [.string ⟨#[]⟩, .slice none 0 0])) (hg : (w.alloc o).drew.grownBy w3 q.ownBlock) (hat : q.ownBlock = some gg ∨ gg = w.heap.size + 1) (ht : t.In w S v0 v1) :
    AppTy E T base bt S w (((w3.setCell ⟨gg, q2, none⟩ v0).setCell ⟨gg, q2 + 1, none⟩ v1).setCell ⟨bt, 0, none⟩ (.slice (some ⟨gg, 0, none⟩) (n + 1) cap)) q (.slice (some ⟨gg, 0, none⟩) (n + 1) cap) (l ++ [t]) ∧
    AppTy E T base bt S w (((w3.setCell ⟨bt, 0, none⟩ (.slice (some ⟨gg, 0, none⟩) (n + 1) cap)).setCell ⟨gg, q2, none⟩ v0).setCell ⟨gg, q2 + 1, none⟩ v1) q (.slice (some ⟨gg, 0, none⟩) (n + 1) cap) (l ++ [t]) := by
  subst hn
  have hz3 : w.heap.size + 1 ≤ w3.heap.size := by have := hg.size; simpa using this
  have hgb : base ≤ gg := by rcases hat with h | h; exact (hqb _ h).1; omega
  have hgl : gg < w3.heap.size := by rcases hat with h | h; have := (hqb _ h).2; omega; have := hown.lt gg rfl; omega
  have hold : ∀ k, k < w.heap.size → q.ownBlock ≠ some k → w3.heap[k]? = w.heap[k]? := fun k hk hne => (hg.block k (by simp; omega) (fun e => hne e.symm)).trans (heap_drew (heap_old hk rfl))
  have hneS : ∀ k, S k → q.ownBlock ≠ some k := fun k hk e => by have := (hqb k e).1; have := hS k hk; omega
  have hbt3 : w3.heap[bt]? = some (.cells #[q] T (0, 0)) := (hold bt (lt_heap hbt) (fun e => by have := (hqb bt e).1; omega)).trans hbt
  have hSg : ∀ k, S k → k ≠ gg := fun k hk e => by have := hS k hk; omega
  have hSt : ∀ k, S k → k ≠ bt := fun k hk e => by have := hS k hk; omega
  have hap : tyRep.Own E base w3 S (.slice (some ⟨gg, 0, none⟩) (l.length + 1) cap) (l ++ [noTy]) :=
    Rep.appended1 (ρ := tyRep) (w := (w.alloc o).drew) (H := w.heap.size + 1) (S := S) (T := fun _ => False) (hall.keep (fun k hk => heap_drew (heap_old (by have := hS k hk.1; omega) rfl)) (fun _ h => h)) ⟨_, _, rfl, noTy_in⟩ (fun k hk => hk.elim) (fun k hk => by have := hS k hk; simp; omega) hown hg hat (by simp)
  have hset : (l ++ [noTy]).set l.length t = l ++ [t] := by simp
  have hat' : (Value.slice (some ⟨gg, 0, none⟩) (l.length + 1) cap).ownBlock = q.ownBlock ∨ ∀ k, (Value.slice (some ⟨gg, 0, none⟩) (l.length + 1) cap).ownBlock = some k → w.heap.size ≤ k := by
    rcases hat with h | h
    · exact Or.inl h.symm
    · exact Or.inr (fun k e => by simp only [Value.ownBlock, Option.some.injEq] at e; omega)
  have hcoll : ∀ W : World, W.os = w3.os → W.tape = w3.tape → W.output = w3.output → W.heap.size = w3.heap.size → (∀ k, k ≠ gg → k ≠ bt → W.heap[k]? = w3.heap[k]?) → Coll w W bt q (.slice (some ⟨gg, 0, none⟩) (l.length + 1) cap) := fun W h1 h2 h3 h4 h5 =>
    ⟨h1.trans hg.os, h2.trans hg.tape, h3.trans hg.output, by omega, fun k hk hne hno => (h5 k (by rintro rfl; rcases hat with h | h; exact hno h; omega) hne).trans (hold k hk hno), hat'⟩
  have htS : ∀ W : World, (∀ k, S k → W.heap[k]? = w3.heap[k]?) → Ty.In W (fun b => S b ∧ b ≠ gg) t v0 v1 := fun W hW => Ty.In_keep (fun k hk => (hW k hk).trans (hold k (by have := hS k hk; omega) (hneS k hk))) (fun k hk => ⟨hk, hSg k hk⟩) _ _ _ ht
  refine ⟨⟨?_, ?_, ?_⟩, ⟨?_, ?_, ?_⟩⟩
  · exact at1 (farq (by omega) hbt3)
  · have h := hap.put2 (k := l.length) (q := q2) (a' := t) (S' := S) (v0 := v0) (v1 := v1) (by simp) hq2 (htS w3 (fun _ _ => rfl)) (fun _ h => h)
    rw [hset] at h
    exact h.keepG (fun g e => by simp only [Value.ownBlock, Option.some.injEq] at e; subst e; exact heap_far _ (by omega) rfl) (fun b hb => heap_far _ (hSt b hb) rfl)
  · exact hcoll _ rfl rfl rfl (by simp only [size_set]) (fun k h1 h2 => heap_far _ h2 (farq h1 rfl))
  · exact farq (by omega) (at1 hbt3)
  · have h := (hap.keepG (w' := w3.setCell ⟨bt, 0, none⟩ (.slice (some ⟨gg, 0, none⟩) (l.length + 1) cap)) (fun g e => by simp only [Value.ownBlock, Option.some.injEq] at e; subst e; exact heap_far _ (by omega) rfl) (fun b hb => heap_far _ (hSt b hb) rfl)).put2 (k := l.length) (q := q2) (a' := t) (S' := S) (v0 := v0) (v1 := v1) (by simp) hq2 (htS _ (fun k hk => heap_far _ (hSt k hk) rfl)) (fun _ h => h)
    rw [hset] at h
    exact h
  · exact hcoll _ rfl rfl rfl (by simp only [size_set]) (fun k h1 h2 => farq h1 (heap_far _ h2 rfl))

end Go.Proofs.YthflahcnkhmpaabDoor
