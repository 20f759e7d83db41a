/-
  One cell of a thing of an owned row is stored anew. Rows of a table (the reference's 'row'): how they lie.
-/
import Derived.Test.YtnoceodmnjhljaaDoorRowSet
import Derived.Test.YtnoceodmnjhljaaDoorRowsTm
import Derived.Lib.OwnKind
namespace Go.Proofs.YtnoceodmnjhljaaDoor
open Go Go.RowKit
set_option linter.unusedSimpArgs false
set_option linter.unusedVariables false

section
variable {α : Type} {ρ : Rep α}
theorem Rep.All.set1 {w : World} {S : Nat → Prop} : ∀ {l : List α} {xs : List Value} {k j : Nat} {a a' : α} {x : Value}, ρ.All w S l xs → l[k]? = some a → j < ρ.size → (∀ cs, ρ.R w S a cs → ρ.R w S a' (cs.set j x)) →
    ρ.All w S (l.set k a') (xs.set (k * ρ.size + j) x)
  | [], _, _, _, _, _, _, _, h, _, _ => by simp at h
  | b :: l, xs, 0, j, a, a', x, h, e, hj, hr => by
    obtain ⟨cs, rest, rfl, h1, h2⟩ := h
    obtain rfl : b = a := by simpa using e
    refine ⟨cs.set j x, rest, ?_, hr cs h1, h2⟩
    rw [Nat.zero_mul, Nat.zero_add, List.set_append_left _ _ (by rw [ρ.len h1]; exact hj)]
  | b :: l, xs, k + 1, j, a, a', x, h, e, hj, hr => by
    obtain ⟨cs, rest, rfl, h1, h2⟩ := h
    have h3 := Rep.All.set1 h2 (by simpa using e) hj hr
    refine ⟨cs, _, ?_, h1, h3⟩
    have hl := ρ.len h1
    rw [List.set_append_right _ _ (by rw [hl, Nat.succ_mul]; omega)]
    congr 2
    rw [hl, Nat.succ_mul]; omega
theorem Rep.Own.set1 {E : TypeId} {base g n cap k j q : Nat} {w : World} {S : Nat → Prop} {l : List α} {a a' : α} {x : Value} (h : ρ.Own E base w S (.slice (some ⟨g, 0, none⟩) n cap) l) (ha : l[k]? = some a) (hj : j < ρ.size) (hq : q = k * ρ.size + j)
    (hr : ∀ S' cs, ρ.R w S' a cs → ρ.R w S' a' (cs.set j x)) : ρ.Own E base (w.setCell ⟨g, q, none⟩ x) S (.slice (some ⟨g, 0, none⟩) n cap) (l.set k a') := by
  subst hq
  obtain ⟨xs, h1, h2⟩ := h
  have hk : k < l.length := (List.getElem?_eq_some_iff.1 ha).1
  have hlen := h2.len
  have hlt : k * ρ.size + j < l.length * ρ.size := by
    have h3 : (k + 1) * ρ.size ≤ l.length * ρ.size := Nat.mul_le_mul_right _ (by omega)
    rw [Nat.succ_mul] at h3; omega
  refine ⟨xs.set (k * ρ.size + j) x, ?_, ?_⟩
  · obtain ⟨h3, h4⟩ := h1
    refine ⟨by rw [List.length_set, List.length_set]; exact h3, ?_⟩
    rcases h4 with ⟨h4, _⟩ | ⟨g', cap', cur, e, hb, hh, h5, h6, h7, h8⟩
    · cases h4
    · cases e
      refine Or.inr ⟨g, cap, cur.setIfInBounds (k * ρ.size + j) x, ?_, hb, heap_set hh _ _, by rw [List.length_set]; exact h5, h6, by rw [Array.size_setIfInBounds]; exact h7, ?_⟩
      · rw [List.length_set]
      · rw [List.length_set, Array.toList_setIfInBounds, List.take_set, h8]
  · refine Rep.All.keep (S := fun b => S b ∧ (Value.slice (some ⟨g, 0, none⟩) n cap).ownBlock ≠ some b) (fun b hb => heap_far _ (fun e => hb.2 (by rw [e]; rfl)) rfl) (fun _ h => h) (h2.set1 ha hj (hr _))
theorem Rep.Own.keepG {E : TypeId} {base : Nat} {w w' : World} {S : Nat → Prop} {v : Value} {l : List α} (h : ρ.Own E base w S v l) (hg : ∀ g, v.ownBlock = some g → w'.heap[g]? = w.heap[g]?) (hS : ∀ b, S b → w'.heap[b]? = w.heap[b]?) : ρ.Own E base w' S v l := by
  obtain ⟨xs, h1, h2⟩ := h
  exact ⟨xs, ownsRow_far h1 hg, h2.keep (fun b hb => hS b hb.1) (fun _ h => h)⟩
theorem Rep.Own.mono {E : TypeId} {base : Nat} {w : World} {S S' : Nat → Prop} {v : Value} {l : List α} (h : ρ.Own E base w S v l) (hS : ∀ b, S b → S' b) : ρ.Own E base w S' v l := by
  obtain ⟨xs, h1, h2⟩ := h
  exact ⟨xs, h1, h2.keep (fun _ _ => rfl) (fun b hb => ⟨hS b hb.1, hb.2⟩)⟩
/-- Two owned rows of different element types lie apart. -/
theorem Rep.Own.apart {β : Type} {σ : Rep β} {E E' : TypeId} {base base' : Nat} {w : World} {S S' : Nat → Prop} {v v' : Value} {l : List α} {l' : List β} (h : ρ.Own E base w S v l) (h' : σ.Own E' base' w S' v' l') (hE : E ≠ E') : ∀ g, v.ownBlock = some g → v'.ownBlock ≠ some g := by
  intro g hg hg'
  obtain ⟨xs, h1, _⟩ := h
  obtain ⟨ys, h2, _⟩ := h'
  obtain ⟨c, fz, e⟩ := Go.Lib.ownsRow_kind h1 g hg
  obtain ⟨c', fz', e'⟩ := Go.Lib.ownsRow_kind h2 g hg'
  rw [e] at e'
  simp only [Option.some.injEq, Obj.cells.injEq] at e'
  exact hE e'.2.1
theorem Rep.Own.at_ {E : TypeId} {base g n cap k : Nat} {w : World} {S : Nat → Prop} {l : List α} {a : α} (h : ρ.Own E base w S (.slice (some ⟨g, 0, none⟩) n cap) l) (hk : l[k]? = some a) :
    ∃ cs, ρ.R w S a cs ∧ ∀ j u, cs[j]? = some u → w.cell? ⟨g, k * ρ.size + j, none⟩ = some u := by
  obtain ⟨xs, h1, h2⟩ := h
  obtain ⟨cs, h3, h4⟩ := h2.at_ hk
  refine ⟨cs, ρ.keep h3 (fun _ _ => rfl) (fun b hb => hb.1), fun j u hj => ?_⟩
  have := h1.cells (g := g) rfl _ u (h4 j u hj)
  rw [addr_none] at this
  simpa using this
theorem ownsRow_lenNat {w : World} {base size : Nat} {E : TypeId} {v : Value} {n m : Nat} {xs : List Value} (h : w.ownsRow base E size v n xs) (e : n = m) : w.ownsRow base E size v m xs := e ▸ h
end

/-! ### A made row of types -/
theorem All_blank {w : World} {S : Nat → Prop} : ∀ n : Nat, tyRep.All w S (List.replicate n noTy) (madeCells #[.string ⟨#[]⟩, .slice none 0 0] (n * 2)).toList
  | 0 => by simp [madeCells, Rep.All]
  | n + 1 => by
    have e : (madeCells #[.string ⟨#[]⟩, .slice none 0 0] ((n + 1) * 2)).toList = (madeCells #[.string ⟨#[]⟩, .slice none 0 0] (n * 2)).toList ++ [.string ⟨#[]⟩, .slice none 0 0] := by
      simp only [madeCells, Array.toList_map, Array.toList_range, show (n + 1) * 2 = n * 2 + 1 + 1 by omega, List.range_succ, List.map_append, List.map_cons, List.map_nil, List.append_assoc, List.cons_append, List.nil_append]
      congr 2
      · simp
      · simp [Nat.add_mod]
    rw [List.replicate_succ', e]
    exact Rep.All.append (All_blank n) (Rep.All.single (ρ := tyRep) (a := noTy) ⟨_, _, rfl, Ty.In.mk_ (by decide +kernel) rfl (by omega) (by omega)⟩)
section
variable {α : Type} {ρ : Rep α}
/-- A whole thing is stored anew. -/
theorem Rep.Own.put {E : TypeId} {base g n cap k : Nat} {w w' : World} {S S' : Nat → Prop} {l : List α} {a' : α} {cs : List Value} (h : ρ.Own E base w S (.slice (some ⟨g, 0, none⟩) n cap) l) (hk : k < l.length)
    (hr : ρ.R w' (fun b => S' b ∧ b ≠ g) a' cs) (hS : ∀ b, S b → b ≠ g → w'.heap[b]? = w.heap[b]?) (hSS : ∀ b, S b → S' b)
    (hg : ∀ cur T, w.heap[g]? = some (.cells cur T (0, 0)) → ∃ cur', w'.heap[g]? = some (.cells cur' T (0, 0)) ∧ cur'.size = cur.size ∧ cur'.toList = cur.toList.take (k * ρ.size) ++ (cs ++ cur.toList.drop (k * ρ.size + ρ.size))) :
    ρ.Own E base w' S' (.slice (some ⟨g, 0, none⟩) n cap) (l.set k a') := by
  obtain ⟨xs, ⟨h3, h4⟩, h2⟩ := h
  have hcs := ρ.len hr
  have hxl := h2.len
  have hkk : (k + 1) * ρ.size ≤ l.length * ρ.size := Nat.mul_le_mul_right _ (by omega)
  rw [Nat.succ_mul] at hkk
  have hne : ∀ b, (Value.slice (some ⟨g, 0, none⟩) n cap).ownBlock ≠ some b ↔ b ≠ g := fun b => by
    simp only [Value.ownBlock, ne_eq, Option.some.injEq]; exact ⟨fun h e => h e.symm, fun h e => h e.symm⟩
  refine ⟨xs.take (k * ρ.size) ++ (cs ++ xs.drop (k * ρ.size + ρ.size)), ⟨?_, ?_⟩, ?_⟩
  · simp only [List.length_append, List.length_take, List.length_drop, List.length_set]; omega
  · rcases h4 with ⟨h4, _⟩ | ⟨g', cap', cur, e, hb, hh, h5, h6, h7, h8⟩
    · cases h4
    · cases e
      obtain ⟨cur', c1, c2, c3⟩ := hg cur E hh
      refine Or.inr ⟨g, cap, cur', by rw [List.length_set], hb, c1, by rw [List.length_set]; exact h5, h6, by rw [c2, h7], ?_⟩
      rw [List.length_set, c3, ← h8]
      have hle : l.length * ρ.size ≤ cur.toList.length := by
        have : l.length * ρ.size ≤ cap * ρ.size := Nat.mul_le_mul_right _ h5
        simpa [h7] using this
      rw [List.take_append, List.take_append, List.take_take, List.take_drop]
      simp only [List.length_take, hcs]
      rw [show min (l.length * ρ.size) (k * ρ.size) = k * ρ.size by omega, show min (k * ρ.size) cur.toList.length = k * ρ.size by omega, List.take_of_length_le (l := cs) (by omega), List.take_take, show min (k * ρ.size) (l.length * ρ.size) = k * ρ.size by omega]
      rw [show k * ρ.size + ρ.size + (l.length * ρ.size - k * ρ.size - ρ.size) = l.length * ρ.size by omega]
  · refine Rep.All.set (w := w') (S := fun b => S' b ∧ (Value.slice (some ⟨g, 0, none⟩) n cap).ownBlock ≠ some b) (h2.keep (fun b hb => hS b hb.1 ((hne b).1 hb.2)) (fun b hb => ⟨hSS b hb.1, hb.2⟩)) hk (ρ.keep hr (fun _ _ => rfl) (fun b hb => ⟨hb.1, (hne b).2 hb.2⟩))
/-- .. of two cells. -/
theorem Rep.Own.put2 {E : TypeId} {base g n cap k q : Nat} {w : World} {S S' : Nat → Prop} {l : List Ty} {a' : Ty} {v0 v1 : Value} (h : tyRep.Own E base w S (.slice (some ⟨g, 0, none⟩) n cap) l) (hk : k < l.length) (hq : q = k * 2)
    (hr : Ty.In w (fun b => S' b ∧ b ≠ g) a' v0 v1) (hSS : ∀ b, S b → S' b) : tyRep.Own E base ((w.setCell ⟨g, q, none⟩ v0).setCell ⟨g, q + 1, none⟩ v1) S' (.slice (some ⟨g, 0, none⟩) n cap) (l.set k a') := by
  subst hq
  have hlen : ∀ cur T, w.heap[g]? = some (.cells cur T (0, 0)) → l.length * 2 ≤ cur.size := fun cur T hc => by
    obtain ⟨xs, ⟨_, h4⟩, _⟩ := h
    rcases h4 with ⟨h4, _⟩ | ⟨g', cap', cur', e, hb, hh, h5, h6, h7, h8⟩
    · cases h4
    · cases e
      rw [hc] at hh
      simp only [Option.some.injEq, Obj.cells.injEq] at hh
      rw [hh.1, h7]
      exact Nat.mul_le_mul_right _ h5
  refine h.put hk (cs := [v0, v1]) ⟨v0, v1, rfl, hr.keep (fun b hb => heap_far _ hb.2 (heap_far _ hb.2 rfl))⟩ (fun b _ hb => heap_far _ hb (heap_far _ hb rfl)) hSS (fun cur T hc => ?_)
  have hl := hlen cur T hc
  refine ⟨_, heap_set (heap_set hc (k * 2) v0) (k * 2 + 1) v1, by simp, ?_⟩
  simp only [Array.toList_setIfInBounds]
  apply List.ext_getElem?
  intro i
  have hcl : cur.toList.length = cur.size := by simp
  have ht : (cur.toList.take (k * 2)).length = k * 2 := by simp; omega
  rw [List.getElem?_set, List.getElem?_set]
  show _ = (cur.toList.take (k * 2) ++ ([v0, v1] ++ cur.toList.drop (k * 2 + 2)))[i]?
  by_cases h1 : i < k * 2
  · rw [if_neg (by omega), if_neg (by omega), List.getElem?_append_left (by omega), List.getElem?_take, if_pos h1]
  rw [List.getElem?_append_right (by omega), ht]
  by_cases h2 : i = k * 2
  · subst h2
    rw [if_neg (by omega), if_pos rfl, if_pos (by simp; omega), Nat.sub_self]; rfl
  by_cases h3 : i = k * 2 + 1
  · subst h3
    rw [if_pos rfl, if_pos (by simp; omega), show k * 2 + 1 - k * 2 = 1 by omega]; rfl
  rw [if_neg (by omega), if_neg (by omega), List.getElem?_append_right (by simp; omega), List.getElem?_drop]
  simp only [List.length_cons, List.length_nil]
  congr 1; omega
end

structure RRow where
  kind : Int
  nm : ByteArray
  ty : Ty
  ix : Int
  kv : Value
  up : Int
def rowRep : Rep RRow where
  size := 7
  R w S a cs := ∃ u0 u1, cs = [.int .i64 a.kind, .string a.nm, u0, u1, .int .i64 a.ix, a.kv, .int .i64 a.up] ∧ a.nm.size ≤ maxLen ∧ Ty.In w S a.ty u0 u1 ∧ a.kv.oneCell' = true
  pos := by omega
  len := by rintro w S a cs ⟨u0, u1, rfl, _⟩; rfl
  one := by
    rintro w S a cs ⟨u0, u1, rfl, _, h, hk⟩ u hu
    obtain ⟨s, A, n, c, rfl, rfl⟩ := h.shape
    simp at hu
    rcases hu with rfl | rfl | rfl | rfl | rfl | rfl | rfl <;> first | rfl | exact hk
  keep := by
    rintro w w' S S' a cs ⟨u0, u1, rfl, h0, h, hk1⟩ hk hS
    exact ⟨u0, u1, rfl, h0, Ty.In_keep hk hS _ _ _ h, hk1⟩

/-- A block of integers that came since lo. -/
def KB (lo : Nat) (w : World) : Nat → Prop := fun b => lo ≤ b ∧ b < w.heap.size ∧ ∃ c fz, w.heap[b]? = some (.cells c 3 fz)
/-- A row as it lies is a row of the table; its list of parts lies in K. -/
structure RowM (K : Nat → Prop) (w : World) (r : RRow) (R : TRow) : Prop where
  kind : r.kind = R.kind
  nm : r.nm = R.nm
  ty : r.ty = R.ty
  ix : r.ix = R.ix
  up : r.up = R.up
  kids : intRep.Sl w K r.kv R.kids
def RowsM (K : Nat → Prop) (w : World) : List RRow → List TRow → Prop
  | [], [] => True
  | r :: l, R :: m => RowM K w r R ∧ RowsM K w l m
  | _, _ => False
section
variable {K K' : Nat → Prop} {w w' : World}
theorem RowsM.len : ∀ {l : List RRow} {m : List TRow}, RowsM K w l m → l.length = m.length
  | [], [], _ => rfl
  | [], _ :: _, h => by cases h
  | _ :: _, [], h => by cases h
  | _ :: l, _ :: m, h => by simp [RowsM.len (l := l) (m := m) h.2]
theorem RowsM.append : ∀ {l l' : List RRow} {m m' : List TRow}, RowsM K w l m → RowsM K w l' m' → RowsM K w (l ++ l') (m ++ m')
  | [], _, [], _, _, h => h
  | [], _, _ :: _, _, h, _ => by cases h
  | _ :: _, _, [], _, h, _ => by cases h
  | _ :: l, _, _ :: m, _, h, h' => ⟨h.1, RowsM.append (l := l) (m := m) h.2 h'⟩
theorem RowsM.at_ : ∀ {l : List RRow} {m : List TRow} {k : Nat} {R : TRow}, RowsM K w l m → m[k]? = some R → ∃ r, l[k]? = some r ∧ RowM K w r R
  | [], [], _, _, _, e => by simp at e
  | [], _ :: _, _, _, h, _ => by cases h
  | _ :: _, [], _, _, h, _ => by cases h
  | r :: l, R' :: m, 0, R, h, e => by
    obtain rfl : R' = R := by simpa using e
    exact ⟨r, rfl, h.1⟩
  | r :: l, R' :: m, k + 1, R, h, e => by simpa using RowsM.at_ (l := l) (m := m) h.2 (by simpa using e)
theorem RowM.keep {r : RRow} {R : TRow} (h : RowM K w r R) (hk : ∀ b, K b → w'.heap[b]? = w.heap[b]?) (hK : ∀ b, K b → K' b) : RowM K' w' r R :=
  ⟨h.kind, h.nm, h.ty, h.ix, h.up, h.kids.keep hk hK⟩
theorem RowsM.keep (hk : ∀ b, K b → w'.heap[b]? = w.heap[b]?) (hK : ∀ b, K b → K' b) : ∀ {l : List RRow} {m : List TRow}, RowsM K w l m → RowsM K' w' l m
  | [], [], h => h
  | [], _ :: _, h => by cases h
  | _ :: _, [], h => by cases h
  | _ :: l, _ :: m, h => ⟨h.1.keep hk hK, RowsM.keep hk hK (l := l) (m := m) h.2⟩
theorem KB.up {lo lo' : Nat} (hlo : lo' ≤ lo) (hs : w.heap.size ≤ w'.heap.size) (hk : ∀ b, KB lo w b → w'.heap[b]? = w.heap[b]?) : ∀ b, KB lo w b → KB lo' w' b :=
  fun b hb => ⟨by have := hb.1; omega, by have := hb.2.1; omega, by obtain ⟨c, fz, e⟩ := hb.2.2; exact ⟨c, fz, (hk b hb).trans e⟩⟩
end
/-- Where only the row's own block is written, whose cells are no integers. -/
theorem KB.grown {lo : Nat} {w w' : World} {T : TypeId} {size n base : Nat} {v : Value} {xs : List Value} (hown : w.ownsRow base T size v n xs) (hT : T ≠ 3) (hg : w.grownBy w' v.ownBlock) : ∀ b, KB lo w b → w'.heap[b]? = w.heap[b]? := by
  rintro b ⟨_, h2, c, fz, h3⟩
  refine hg.block b h2 fun e => ?_
  obtain ⟨c', fz', h4⟩ := Go.Lib.ownsRow_kind hown b e.symm
  rw [h3] at h4
  simp only [Option.some.injEq, Obj.cells.injEq] at h4
  exact hT h4.2.1.symm

theorem kidsAt_len : ∀ (l : List Tm) (n : Nat), (kidsAt l n).length = l.length
  | [], _ => rfl
  | _ :: l, n => by simp [kidsAt, kidsAt_len l]
theorem kidsAt_snoc : ∀ (l : List Tm) (t : Tm) (n : Nat), kidsAt (l ++ [t]) n = kidsAt l n ++ [((n + Tree.nodess l : Nat) : Int)]
  | [], t, n => by simp [kidsAt, Tree.nodess]
  | x :: l, t, n => by
    simp only [List.cons_append, kidsAt, kidsAt_snoc l t (n + x.nodes), Tree.nodess]
    rw [show n + x.nodes + Tree.nodess l = n + (x.nodes + Tree.nodess l) by omega]
theorem rowssOf_snoc : ∀ (l : List Tm) (t : Tm) (up : Int) (n : Nat), rowssOf (l ++ [t]) up n = rowssOf l up n ++ rowsOf t up (n + Tree.nodess l)
  | [], t, up, n => by simp [rowssOf, Tree.nodess]
  | x :: l, t, up, n => by
    simp only [List.cons_append, rowssOf, rowssOf_snoc l t up (n + x.nodes), Tree.nodess, List.append_assoc]
    rw [show n + x.nodes + Tree.nodess l = n + (x.nodes + Tree.nodess l) by omega]

end Go.Proofs.YtnoceodmnjhljaaDoor
