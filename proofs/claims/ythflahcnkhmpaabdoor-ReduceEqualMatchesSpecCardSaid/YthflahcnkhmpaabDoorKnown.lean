/-
  The reference's known types of variables, as a slice in memory; a list copied with one more (one chain). Nothing here names a function.
-/
import Derived.Test.YthflahcnkhmpaabDoorFrame
import Derived.Test.YthflahcnkhmpaabDoorNamed
import Derived.Test.YthflahcnkhmpaabDoorProg
namespace Go.Proofs.YthflahcnkhmpaabDoor
open Go Go.RowKit
set_option linter.unusedSimpArgs false
set_option linter.unusedVariables false

/-- A variable's number and type. -/
def knRep : Rep (Nat × Sy) where
  size := 3
  R w S a cs := ∃ u0 u1, cs = [.int .i64 (a.1 : Nat), u0, u1] ∧ Ty.In w S a.2.ty u0 u1
  pos := by omega
  len := by rintro w S a cs ⟨u0, u1, rfl, _⟩; rfl
  one := by
    rintro w S a cs ⟨u0, u1, rfl, h⟩ u hu
    obtain ⟨s, A, n, c, rfl, rfl⟩ := h.shape
    simp at hu
    rcases hu with rfl | rfl | rfl <;> rfl
  keep := by
    rintro w w' S S' a cs ⟨u0, u1, rfl, h⟩ hk hS
    exact ⟨u0, u1, rfl, Ty.In_keep hk hS _ _ _ h⟩
/-- A list of them as a slice (the innermost last). -/
def KnAt (w : World) (S : Nat → Prop) (uv : Value) (e : List (Nat × Sy)) : Prop := knRep.Sl w S uv e.reverse
theorem KnAt.keep {w w' : World} {S S' : Nat → Prop} {uv : Value} {e : List (Nat × Sy)} (h : KnAt w S uv e) (hk : ∀ b, S b → w'.heap[b]? = w.heap[b]?) (hS : ∀ b, S b → S' b) : KnAt w' S' uv e := Rep.Sl.keep h hk hS
theorem KnAt.shape {w : World} {S : Nat → Prop} {uv : Value} {e : List (Nat × Sy)} (h : KnAt w S uv e) : ∃ A c, uv = .slice A e.length c := by
  obtain ⟨A, n, c, rfl, hl, _⟩ := h
  simp at hl; exact ⟨A, c, by rw [hl]⟩
theorem KnAt.nil {w : World} {S : Nat → Prop} {A : Option Addr} {c : Nat} : KnAt w S (.slice A 0 c) [] := Rep.Sl.nil
/-- Number j from the outside. -/
theorem KnAt.at_ {w : World} {S : Nat → Prop} {A : Option Addr} {c j : Nat} {e : List (Nat × Sy)} (h : KnAt w S (.slice A e.length c) e) (hj : j < e.length) :
    ∃ b o u0 u1, A = some ⟨b, o, none⟩ ∧ S b ∧ w.cell? ⟨b, o + j * 3, none⟩ = some (.int .i64 ((e[e.length - 1 - j]'(by omega)).1 : Nat)) ∧ w.cell? ⟨b, o + j * 3 + 1, none⟩ = some u0 ∧ w.cell? ⟨b, o + j * 3 + 2, none⟩ = some u1 ∧ Ty.In w S (e[e.length - 1 - j]'(by omega)).2.ty u0 u1 := by
  obtain ⟨b, o, cs, e1, hb, ⟨u0, u1, rfl, hty⟩, hc⟩ := Rep.Sl.at_ h (k := j) (a := e[e.length - 1 - j]'(by omega)) (by
    rw [List.getElem?_reverse (by omega)]
    exact List.getElem?_eq_getElem (by omega))
  exact ⟨b, o, u0, u1, e1, hb, hc 0 _ rfl, hc 1 _ rfl, hc 2 _ rfl, hty⟩
theorem KnAt.news {w : World} {S : Nat → Prop} {uv : Value} {e : List (Nat × Sy)} (h : KnAt w S uv e) : ∃ xs, knRep.All w S e.reverse xs ∧ NewsAt w S uv e.length xs ∧ xs.length = e.length * 3 ∧ ∀ u ∈ xs, u.oneCell' = true := by
  obtain ⟨xs, h1, h2, h3, h4⟩ := Rep.Sl.news h
  simp only [List.length_reverse] at h2 h3
  exact ⟨xs, h1, h2, h3, h4⟩
theorem KnAt.snoc {w w2 : World} {S S2 : Nat → Prop} {v : Value} {e : List (Nat × Sy)} {a : Nat × Sy} {xs cs : List Value} {E : TypeId} {base n : Nat} (hx : knRep.All w S e.reverse xs) (ha : knRep.R w2 S2 a cs)
    (hk : ∀ b, S b → w2.heap[b]? = w.heap[b]?) (hS : ∀ b, S b → S2 b) (hown : w2.ownsRow base E 3 v n (([] ++ xs) ++ cs)) (hn : n = e.length + 1) (hm : n ≤ maxLen) (hg : ∀ g, base ≤ g → g < w2.heap.size → S2 g) : KnAt w2 S2 v (a :: e) := by
  have := Rep.Sl.snoc (ρ := knRep) hx ha hk hS hown (by simpa using hn) hm hg
  simpa [KnAt] using this

/-- The type of a variable: the first whose number it is, from the outside (each number once). -/
theorem known_hit (e : List (Nat × Sy)) (i j : Nat) (hn : (e.map Prod.fst).Nodup) (hj : j < e.length) (h : (e[e.length - 1 - j]'(by omega)).1 = i) : (e.map Prod.snd)[pos (e.map Prod.fst) i]? = some (e[e.length - 1 - j]'(by omega)).2 := by
  have hl : e.length - 1 - j < (e.map Prod.fst).length := by simp; omega
  have h1 := pos_at (e.map Prod.fst) (e.length - 1 - j) hn hl
  have h2 : (e.map Prod.fst).getD (e.length - 1 - j) 0 = i := by simp [List.getD, List.getElem?_map, List.getElem?_eq_getElem (show e.length - 1 - j < e.length by omega), h]
  rw [h2] at h1
  rw [h1, List.getElem?_map, List.getElem?_eq_getElem (by omega)]; rfl
theorem known_miss (e : List (Nat × Sy)) (i : Nat) (h : ∀ j (hj : j < e.length), (e[e.length - 1 - j]'(by omega)).1 ≠ i) : i ∉ e.map Prod.fst := by
  intro hm
  obtain ⟨a, ha, rfl⟩ := List.mem_map.1 hm
  obtain ⟨k, hk, rfl⟩ := List.mem_iff_getElem.1 ha
  have h2 := h (e.length - 1 - k) (by omega)
  simp only [show e.length - 1 - (e.length - 1 - k) = k by omega] at h2
  exact h2 rfl
theorem pos_notin : ∀ (l : List Nat) (x : Nat), x ∉ l → pos l x = l.length
  | [], _, _ => rfl
  | a :: l, x, h => by
    simp only [List.mem_cons, not_or] at h
    simp only [pos, if_neg (Ne.symm h.1), pos_notin l x h.2, List.length_cons]

/-- 'append(append([]E{}, l...), x)': where it stands (as Ch, of any type of things). -/
structure Ch1 (wx : World) (E : TypeId) (sz n : Nat) (l nws : List Value) (fb fa fx fd : Bool) (vb va vx vd : Value) (w : World) : Prop where
  bel : Below wx.heap.size wx w
  hb : fb = true → fa = false → ∃ g, vb = .slice (some ⟨g, 0, none⟩) 0 0 ∧ wx.heap.size ≤ g ∧ w.heap[g]? = some (.cells #[] E (0, 0))
  ha : fa = true → fd = false → ∃ A c, va = .slice A n c ∧ w.ownsRow wx.heap.size E sz (.slice A n c) n ([] ++ l)
  hx : fx = true → fd = false → ∃ g, vx = .slice (some ⟨g, 0, none⟩) 1 1 ∧ w.heap[g]? = some (.cells nws.toArray E (0, 0))
  ho : fd = true → fa = true ∧ fx = true
  hd : fd = true → ∃ A c, vd = .slice A (n + 1) c ∧ w.ownsRow wx.heap.size E sz (.slice A (n + 1) c) (n + 1) (([] ++ l) ++ nws)
section
variable {wx w w' : World} {E : TypeId} {sz n : Nat} {l nws : List Value} {fb fa fx fd : Bool} {vb va vx vd : Value}
theorem Ch1.start (h0 : fb = false) (h1 : fa = false) (h2 : fx = false) (h3 : fd = false) (hb : Below wx.heap.size wx w) : Ch1 wx E sz n l nws fb fa fx fd vb va vx vd w := by
  subst h0 h1 h2 h3
  exact ⟨hb, fun h => (by cases h), fun h => (by cases h), fun h => (by cases h), fun h => (by cases h), fun h => (by cases h)⟩
theorem Ch1.made (h : Ch1 wx E sz n l nws fb fa fx fd vb va vx vd w) : Ch1 wx E sz n l nws true fa fx fd (.slice (some ⟨w.heap.size, 0, none⟩) 0 0) va vx vd (w.alloc (.cells #[] E)) where
  bel := h.bel.alloc h.bel.size _
  hb _ _ := ⟨_, rfl, h.bel.size, heap_at rfl⟩
  ha h1 h2 := by obtain ⟨A, c, e, ho⟩ := h.ha h1 h2; exact ⟨A, c, e, ho.alloc _⟩
  hx h1 h2 := by obtain ⟨g, e, hh⟩ := h.hx h1 h2; exact ⟨g, e, heap_old (lt_heap hh) hh⟩
  ho := h.ho
  hd h1 := by obtain ⟨A, c, e, ho⟩ := h.hd h1; exact ⟨A, c, e, ho.alloc _⟩
theorem Ch1.laid (h : Ch1 wx E sz n l nws fb fa fx fd vb va vx vd w) : Ch1 wx E sz n l nws fb fa true fd vb va (.slice (some ⟨w.heap.size, 0, none⟩) 1 1) vd (w.alloc (.cells nws.toArray E)) where
  bel := h.bel.alloc h.bel.size _
  hb h1 h2 := by obtain ⟨g, e, hg, hh⟩ := h.hb h1 h2; exact ⟨g, e, hg, heap_old (lt_heap hh) hh⟩
  ha h1 h2 := by obtain ⟨A, c, e, ho⟩ := h.ha h1 h2; exact ⟨A, c, e, ho.alloc _⟩
  hx _ _ := ⟨_, rfl, heap_at rfl⟩
  ho h1 := ⟨(h.ho h1).1, rfl⟩
  hd h1 := by obtain ⟨A, c, e, ho⟩ := h.hd h1; exact ⟨A, c, e, ho.alloc _⟩
theorem Ch1.copied (hne : nws ≠ []) (h : Ch1 wx E sz n l nws true false fx fd vb va vx vd w) :
    ∃ g, vb = .slice (some ⟨g, 0, none⟩) 0 0 ∧ w.ownsRow wx.heap.size E sz (.slice (some ⟨g, 0, none⟩) 0 0) 0 [] ∧ ∀ A c w', w'.ownsRow wx.heap.size E sz (.slice A n c) n ([] ++ l) → w.grownBy w' (Value.slice (some ⟨g, 0, none⟩) 0 0).ownBlock → Ch1 wx E sz n l nws true true fx fd vb (.slice A n c) vx vd w' := by
  obtain ⟨g, e, hg, hh⟩ := h.hb rfl rfl
  have hfd : fd = false := by
    cases fd with
    | false => rfl
    | true => have := (h.ho rfl).1; cases this
  refine ⟨g, e, ownsRow_made hh hg, fun A c w' ho hgr => ⟨h.bel.grown hgr h.bel.size (row_le hg), fun _ h => (by cases h), fun _ _ => ⟨A, c, rfl, ho⟩, fun hx hd => ?_, fun h => (by rw [hfd] at h; cases h), fun h => (by rw [hfd] at h; cases h)⟩⟩
  obtain ⟨gx, e, hhx⟩ := h.hx hx hd
  refine ⟨gx, e, (hgr.block gx (lt_heap hhx) (fun e2 => ?_)).trans hhx⟩
  injection e2 with e2
  have e3 : gx = g := e2
  rw [e3, hh] at hhx
  injection hhx with hhx
  injection hhx with hhx
  exact hne (by simpa using hhx.symm)
theorem Ch1.done (h : Ch1 wx E sz n l nws fb true true false vb va vx vd w) :
    ∃ A c g, va = .slice A n c ∧ w.ownsRow wx.heap.size E sz (.slice A n c) n ([] ++ l) ∧ vx = .slice (some ⟨g, 0, none⟩) 1 1 ∧ w.heap[g]? = some (.cells nws.toArray E (0, 0)) ∧ ∀ A' c' w', w'.ownsRow wx.heap.size E sz (.slice A' (n + 1) c') (n + 1) (([] ++ l) ++ nws) → w.grownBy w' (Value.slice A n c).ownBlock → Ch1 wx E sz n l nws fb true true true vb va vx (.slice A' (n + 1) c') w' := by
  obtain ⟨A, c, e, ho⟩ := h.ha rfl rfl
  obtain ⟨g, e2, hh⟩ := h.hx rfl rfl
  refine ⟨A, c, g, e, ho, e2, hh, fun A' c' w' ho' hgr => ⟨h.bel.grown hgr h.bel.size (fun k e => (ho.lt k e).1), fun _ h => (by cases h), fun _ h => (by cases h), fun _ h => (by cases h), fun _ => ⟨rfl, rfl⟩, fun _ => ⟨A', c', rfl, ho'⟩⟩⟩
end


structure TJ (V0 V1 V2 V3 V4 V5 V7 V9 V10 V11 V12 V13 : Value) (R16 R17 : Value → World → Prop) (Q : World → Prop) (B0 : Nat) (wx : World) (n : Nat) (l nws : List Value) (f : Nat → Bool) (x0 x1 x2 x3 x4 x5 x6 x7 x8 x9 x10 x11 x12 x13 x14 x15 x16 x17 : Value) (W : World) : Prop where
  h0 : f 0 = true → x0 = V0
  h1 : f 1 = true → x1 = V1
  h2 : f 2 = true → x2 = V2
  h3 : f 3 = true → x3 = V3
  h4 : f 4 = true → x4 = V4
  h5 : f 5 = true → x5 = V5
  h7 : f 7 = true → x7 = V7
  h9 : f 9 = true → x9 = V9
  h10 : f 10 = true → x10 = V10
  h11 : f 11 = true → x11 = V11
  h12 : f 12 = true → x12 = V12
  h13 : f 13 = true → x13 = V13
  hB : B0 < wx.heap.size
  bel0 : Below B0 wx W
  kx : W.heap[B0]? = wx.heap[B0]?
  bel : f 18 = false → Below wx.heap.size wx W
  ch : f 16 = false → Ch1 wx 99 3 n l nws (f 6) (f 8) (f 14) (f 15) x6 x8 x14 x15 W
  r16 : f 16 = true → f 17 = false → R16 x16 W
  r17 : f 17 = true → f 18 = false → R17 x17 W
  fin : f 18 = true → Q W
  q16_15 : f 16 = true → f 15 = true
  q15_8 : f 15 = true → f 8 = true
  q15_14 : f 15 = true → f 14 = true
  q8_6 : f 8 = true → f 6 = true
  q17_16 : f 17 = true → f 16 = true
  q18_17 : f 18 = true → f 17 = true

theorem tjf {b : Bool} {p : Prop} (h : b = false) (h' : b = true) : p := by rw [h] at h'; cases h'
section
variable {V0 V1 V2 V3 V4 V5 V7 V9 V10 V11 V12 V13 : Value} {R16 R17 : Value → World → Prop} {Q : World → Prop} {B0 : Nat} {wx : World} {n : Nat} {l nws : List Value} {f : Nat → Bool} {x0 x1 x2 x3 x4 x5 x6 x7 x8 x9 x10 x11 x12 x13 x14 x15 x16 x17 : Value} {W W' : World}
theorem TJ.start (hf : ∀ k, k < 19 → f k = false) (hB : B0 < wx.heap.size) (hb : Below wx.heap.size wx W) : TJ V0 V1 V2 V3 V4 V5 V7 V9 V10 V11 V12 V13 R16 R17 Q B0 wx n l nws f x0 x1 x2 x3 x4 x5 x6 x7 x8 x9 x10 x11 x12 x13 x14 x15 x16 x17 W where
  h0 h := tjf (hf 0 (by decide)) h
  h1 h := tjf (hf 1 (by decide)) h
  h2 h := tjf (hf 2 (by decide)) h
  h3 h := tjf (hf 3 (by decide)) h
  h4 h := tjf (hf 4 (by decide)) h
  h5 h := tjf (hf 5 (by decide)) h
  h7 h := tjf (hf 7 (by decide)) h
  h9 h := tjf (hf 9 (by decide)) h
  h10 h := tjf (hf 10 (by decide)) h
  h11 h := tjf (hf 11 (by decide)) h
  h12 h := tjf (hf 12 (by decide)) h
  h13 h := tjf (hf 13 (by decide)) h
  hB := hB
  bel0 := hb.mono (Nat.le_of_lt hB)
  kx := hb.block _ hB
  bel _ := hb
  ch _ := Ch1.start (hf 6 (by decide)) (hf 8 (by decide)) (hf 14 (by decide)) (hf 15 (by decide)) hb
  r16 h := tjf (hf 16 (by decide)) h
  r17 h := tjf (hf 17 (by decide)) h
  fin h := tjf (hf 18 (by decide)) h
  q16_15 h := tjf (hf 16 (by decide)) h
  q15_8 h := tjf (hf 15 (by decide)) h
  q15_14 h := tjf (hf 15 (by decide)) h
  q8_6 h := tjf (hf 8 (by decide)) h
  q17_16 h := tjf (hf 17 (by decide)) h
  q18_17 h := tjf (hf 18 (by decide)) h
theorem TJ.st0 (h : TJ V0 V1 V2 V3 V4 V5 V7 V9 V10 V11 V12 V13 R16 R17 Q B0 wx n l nws f x0 x1 x2 x3 x4 x5 x6 x7 x8 x9 x10 x11 x12 x13 x14 x15 x16 x17 W) : TJ V0 V1 V2 V3 V4 V5 V7 V9 V10 V11 V12 V13 R16 R17 Q B0 wx n l nws (upd f 0) V0 x1 x2 x3 x4 x5 x6 x7 x8 x9 x10 x11 x12 x13 x14 x15 x16 x17 W := { h with h0 := fun _ => rfl }
theorem TJ.st1 (h : TJ V0 V1 V2 V3 V4 V5 V7 V9 V10 V11 V12 V13 R16 R17 Q B0 wx n l nws f x0 x1 x2 x3 x4 x5 x6 x7 x8 x9 x10 x11 x12 x13 x14 x15 x16 x17 W) : TJ V0 V1 V2 V3 V4 V5 V7 V9 V10 V11 V12 V13 R16 R17 Q B0 wx n l nws (upd f 1) x0 V1 x2 x3 x4 x5 x6 x7 x8 x9 x10 x11 x12 x13 x14 x15 x16 x17 W := { h with h1 := fun _ => rfl }
theorem TJ.st2 (h : TJ V0 V1 V2 V3 V4 V5 V7 V9 V10 V11 V12 V13 R16 R17 Q B0 wx n l nws f x0 x1 x2 x3 x4 x5 x6 x7 x8 x9 x10 x11 x12 x13 x14 x15 x16 x17 W) : TJ V0 V1 V2 V3 V4 V5 V7 V9 V10 V11 V12 V13 R16 R17 Q B0 wx n l nws (upd f 2) x0 x1 V2 x3 x4 x5 x6 x7 x8 x9 x10 x11 x12 x13 x14 x15 x16 x17 W := { h with h2 := fun _ => rfl }
theorem TJ.st3 (h : TJ V0 V1 V2 V3 V4 V5 V7 V9 V10 V11 V12 V13 R16 R17 Q B0 wx n l nws f x0 x1 x2 x3 x4 x5 x6 x7 x8 x9 x10 x11 x12 x13 x14 x15 x16 x17 W) : TJ V0 V1 V2 V3 V4 V5 V7 V9 V10 V11 V12 V13 R16 R17 Q B0 wx n l nws (upd f 3) x0 x1 x2 V3 x4 x5 x6 x7 x8 x9 x10 x11 x12 x13 x14 x15 x16 x17 W := { h with h3 := fun _ => rfl }
theorem TJ.st4 (h : TJ V0 V1 V2 V3 V4 V5 V7 V9 V10 V11 V12 V13 R16 R17 Q B0 wx n l nws f x0 x1 x2 x3 x4 x5 x6 x7 x8 x9 x10 x11 x12 x13 x14 x15 x16 x17 W) : TJ V0 V1 V2 V3 V4 V5 V7 V9 V10 V11 V12 V13 R16 R17 Q B0 wx n l nws (upd f 4) x0 x1 x2 x3 V4 x5 x6 x7 x8 x9 x10 x11 x12 x13 x14 x15 x16 x17 W := { h with h4 := fun _ => rfl }
theorem TJ.st5 (h : TJ V0 V1 V2 V3 V4 V5 V7 V9 V10 V11 V12 V13 R16 R17 Q B0 wx n l nws f x0 x1 x2 x3 x4 x5 x6 x7 x8 x9 x10 x11 x12 x13 x14 x15 x16 x17 W) : TJ V0 V1 V2 V3 V4 V5 V7 V9 V10 V11 V12 V13 R16 R17 Q B0 wx n l nws (upd f 5) x0 x1 x2 x3 x4 V5 x6 x7 x8 x9 x10 x11 x12 x13 x14 x15 x16 x17 W := { h with h5 := fun _ => rfl }
theorem TJ.st7 (h : TJ V0 V1 V2 V3 V4 V5 V7 V9 V10 V11 V12 V13 R16 R17 Q B0 wx n l nws f x0 x1 x2 x3 x4 x5 x6 x7 x8 x9 x10 x11 x12 x13 x14 x15 x16 x17 W) : TJ V0 V1 V2 V3 V4 V5 V7 V9 V10 V11 V12 V13 R16 R17 Q B0 wx n l nws (upd f 7) x0 x1 x2 x3 x4 x5 x6 V7 x8 x9 x10 x11 x12 x13 x14 x15 x16 x17 W := { h with h7 := fun _ => rfl }
theorem TJ.st9 (h : TJ V0 V1 V2 V3 V4 V5 V7 V9 V10 V11 V12 V13 R16 R17 Q B0 wx n l nws f x0 x1 x2 x3 x4 x5 x6 x7 x8 x9 x10 x11 x12 x13 x14 x15 x16 x17 W) : TJ V0 V1 V2 V3 V4 V5 V7 V9 V10 V11 V12 V13 R16 R17 Q B0 wx n l nws (upd f 9) x0 x1 x2 x3 x4 x5 x6 x7 x8 V9 x10 x11 x12 x13 x14 x15 x16 x17 W := { h with h9 := fun _ => rfl }
theorem TJ.st10 (h : TJ V0 V1 V2 V3 V4 V5 V7 V9 V10 V11 V12 V13 R16 R17 Q B0 wx n l nws f x0 x1 x2 x3 x4 x5 x6 x7 x8 x9 x10 x11 x12 x13 x14 x15 x16 x17 W) : TJ V0 V1 V2 V3 V4 V5 V7 V9 V10 V11 V12 V13 R16 R17 Q B0 wx n l nws (upd f 10) x0 x1 x2 x3 x4 x5 x6 x7 x8 x9 V10 x11 x12 x13 x14 x15 x16 x17 W := { h with h10 := fun _ => rfl }
theorem TJ.st11 (h : TJ V0 V1 V2 V3 V4 V5 V7 V9 V10 V11 V12 V13 R16 R17 Q B0 wx n l nws f x0 x1 x2 x3 x4 x5 x6 x7 x8 x9 x10 x11 x12 x13 x14 x15 x16 x17 W) : TJ V0 V1 V2 V3 V4 V5 V7 V9 V10 V11 V12 V13 R16 R17 Q B0 wx n l nws (upd f 11) x0 x1 x2 x3 x4 x5 x6 x7 x8 x9 x10 V11 x12 x13 x14 x15 x16 x17 W := { h with h11 := fun _ => rfl }
theorem TJ.st12 (h : TJ V0 V1 V2 V3 V4 V5 V7 V9 V10 V11 V12 V13 R16 R17 Q B0 wx n l nws f x0 x1 x2 x3 x4 x5 x6 x7 x8 x9 x10 x11 x12 x13 x14 x15 x16 x17 W) : TJ V0 V1 V2 V3 V4 V5 V7 V9 V10 V11 V12 V13 R16 R17 Q B0 wx n l nws (upd f 12) x0 x1 x2 x3 x4 x5 x6 x7 x8 x9 x10 x11 V12 x13 x14 x15 x16 x17 W := { h with h12 := fun _ => rfl }
theorem TJ.st13 (h : TJ V0 V1 V2 V3 V4 V5 V7 V9 V10 V11 V12 V13 R16 R17 Q B0 wx n l nws f x0 x1 x2 x3 x4 x5 x6 x7 x8 x9 x10 x11 x12 x13 x14 x15 x16 x17 W) : TJ V0 V1 V2 V3 V4 V5 V7 V9 V10 V11 V12 V13 R16 R17 Q B0 wx n l nws (upd f 13) x0 x1 x2 x3 x4 x5 x6 x7 x8 x9 x10 x11 x12 V13 x14 x15 x16 x17 W := { h with h13 := fun _ => rfl }
theorem TJ.no15 (h : TJ V0 V1 V2 V3 V4 V5 V7 V9 V10 V11 V12 V13 R16 R17 Q B0 wx n l nws f x0 x1 x2 x3 x4 x5 x6 x7 x8 x9 x10 x11 x12 x13 x14 x15 x16 x17 W) (hn : f 15 = false) : f 16 = false := by
  cases e : f 16 with
  | false => rfl
  | true => exact tjf hn (h.q16_15 e)
theorem TJ.no8 (h : TJ V0 V1 V2 V3 V4 V5 V7 V9 V10 V11 V12 V13 R16 R17 Q B0 wx n l nws f x0 x1 x2 x3 x4 x5 x6 x7 x8 x9 x10 x11 x12 x13 x14 x15 x16 x17 W) (hn : f 8 = false) : f 15 = false := by
  cases e : f 15 with
  | false => rfl
  | true => exact tjf hn (h.q15_8 e)
theorem TJ.no14 (h : TJ V0 V1 V2 V3 V4 V5 V7 V9 V10 V11 V12 V13 R16 R17 Q B0 wx n l nws f x0 x1 x2 x3 x4 x5 x6 x7 x8 x9 x10 x11 x12 x13 x14 x15 x16 x17 W) (hn : f 14 = false) : f 15 = false := by
  cases e : f 15 with
  | false => rfl
  | true => exact tjf hn (h.q15_14 e)
theorem TJ.no6 (h : TJ V0 V1 V2 V3 V4 V5 V7 V9 V10 V11 V12 V13 R16 R17 Q B0 wx n l nws f x0 x1 x2 x3 x4 x5 x6 x7 x8 x9 x10 x11 x12 x13 x14 x15 x16 x17 W) (hn : f 6 = false) : f 8 = false := by
  cases e : f 8 with
  | false => rfl
  | true => exact tjf hn (h.q8_6 e)
theorem TJ.no17 (h : TJ V0 V1 V2 V3 V4 V5 V7 V9 V10 V11 V12 V13 R16 R17 Q B0 wx n l nws f x0 x1 x2 x3 x4 x5 x6 x7 x8 x9 x10 x11 x12 x13 x14 x15 x16 x17 W) (hn : f 16 = false) : f 17 = false := by
  cases e : f 17 with
  | false => rfl
  | true => exact tjf hn (h.q17_16 e)
theorem TJ.no18 (h : TJ V0 V1 V2 V3 V4 V5 V7 V9 V10 V11 V12 V13 R16 R17 Q B0 wx n l nws f x0 x1 x2 x3 x4 x5 x6 x7 x8 x9 x10 x11 x12 x13 x14 x15 x16 x17 W) (hn : f 17 = false) : f 18 = false := by
  cases e : f 18 with
  | false => rfl
  | true => exact tjf hn (h.q18_17 e)
theorem TJ.st6 (h : TJ V0 V1 V2 V3 V4 V5 V7 V9 V10 V11 V12 V13 R16 R17 Q B0 wx n l nws f x0 x1 x2 x3 x4 x5 x6 x7 x8 x9 x10 x11 x12 x13 x14 x15 x16 x17 W) (hn : f 6 = false) : TJ V0 V1 V2 V3 V4 V5 V7 V9 V10 V11 V12 V13 R16 R17 Q B0 wx n l nws (upd f 6) x0 x1 x2 x3 x4 x5 (.slice (some ⟨W.heap.size, 0, none⟩) 0 0) x7 x8 x9 x10 x11 x12 x13 x14 x15 x16 x17 (W.alloc (.cells #[] 99)) :=
  have h16 := h.no15 (h.no8 (h.no6 hn))
  have h17 := h.no17 h16
  { h with
    bel0 := ((h.bel (h.no18 h17)).alloc (h.bel (h.no18 h17)).size _).mono (Nat.le_of_lt h.hB)
    kx := ((h.bel (h.no18 h17)).alloc (h.bel (h.no18 h17)).size _).block _ h.hB
    bel := fun _ => (h.bel (h.no18 h17)).alloc (h.bel (h.no18 h17)).size _
    ch := fun e => (h.ch e).made
    r16 := fun e => tjf h16 e
    r17 := fun e => tjf h17 e
    fin := fun e => tjf (h.no18 h17) e
    q8_6 := fun _ => rfl }
theorem TJ.st14 (h : TJ V0 V1 V2 V3 V4 V5 V7 V9 V10 V11 V12 V13 R16 R17 Q B0 wx n l nws f x0 x1 x2 x3 x4 x5 x6 x7 x8 x9 x10 x11 x12 x13 x14 x15 x16 x17 W) (hn : f 14 = false) : TJ V0 V1 V2 V3 V4 V5 V7 V9 V10 V11 V12 V13 R16 R17 Q B0 wx n l nws (upd f 14) x0 x1 x2 x3 x4 x5 x6 x7 x8 x9 x10 x11 x12 x13 (.slice (some ⟨W.heap.size, 0, none⟩) 1 1) x15 x16 x17 (W.alloc (.cells nws.toArray 99)) :=
  have h16 := h.no15 (h.no14 hn)
  have h17 := h.no17 h16
  { h with
    bel0 := ((h.bel (h.no18 h17)).alloc (h.bel (h.no18 h17)).size _).mono (Nat.le_of_lt h.hB)
    kx := ((h.bel (h.no18 h17)).alloc (h.bel (h.no18 h17)).size _).block _ h.hB
    bel := fun _ => (h.bel (h.no18 h17)).alloc (h.bel (h.no18 h17)).size _
    ch := fun e => (h.ch e).laid
    r16 := fun e => tjf h16 e
    r17 := fun e => tjf h17 e
    fin := fun e => tjf (h.no18 h17) e
    q15_14 := fun _ => rfl }
theorem TJ.st8 (hne : nws ≠ []) (h : TJ V0 V1 V2 V3 V4 V5 V7 V9 V10 V11 V12 V13 R16 R17 Q B0 wx n l nws f x0 x1 x2 x3 x4 x5 x6 x7 x8 x9 x10 x11 x12 x13 x14 x15 x16 x17 W) (h6 : f 6 = true) (h7 : f 7 = true) (hn : f 8 = false) :
    ∃ g, x6 = .slice (some ⟨g, 0, none⟩) 0 0 ∧ x7 = V7 ∧ W.ownsRow wx.heap.size 99 3 (.slice (some ⟨g, 0, none⟩) 0 0) 0 [] ∧ ∀ A c W', W'.ownsRow wx.heap.size 99 3 (.slice A n c) n ([] ++ l) → W.grownBy W' (Value.slice (some ⟨g, 0, none⟩) 0 0).ownBlock → TJ V0 V1 V2 V3 V4 V5 V7 V9 V10 V11 V12 V13 R16 R17 Q B0 wx n l nws (upd f 8) x0 x1 x2 x3 x4 x5 x6 x7 (.slice A n c) x9 x10 x11 x12 x13 x14 x15 x16 x17 W' := by
  have h16 := h.no15 (h.no8 hn)
  have h17 := h.no17 h16
  have t := h.ch h16
  rw [h6, hn] at t
  obtain ⟨g, e, ho, hk⟩ := Ch1.copied hne t
  refine ⟨g, e, h.h7 h7, ho, fun A c W' a b => { h with bel0 := ?_, kx := ?_, bel := fun _ => ?_, ch := fun _ => ?_, r16 := fun e => tjf h16 e, r17 := fun e => tjf h17 e, fin := fun e => tjf (h.no18 h17) e, q8_6 := fun _ => h6, q15_8 := fun _ => rfl }⟩
  · exact (hk A c W' a b).bel.mono (Nat.le_of_lt h.hB)
  · exact (hk A c W' a b).bel.block _ h.hB
  · exact (hk A c W' a b).bel
  · have t' : Ch1 wx 99 3 n l nws (f 6) true (f 14) (f 15) x6 (.slice A n c) x14 x15 W' := by rw [h6]; exact hk A c W' a b
    exact t'
theorem TJ.st15 (h : TJ V0 V1 V2 V3 V4 V5 V7 V9 V10 V11 V12 V13 R16 R17 Q B0 wx n l nws f x0 x1 x2 x3 x4 x5 x6 x7 x8 x9 x10 x11 x12 x13 x14 x15 x16 x17 W) (h8 : f 8 = true) (h14 : f 14 = true) (hn : f 15 = false) :
    ∃ A c g, x8 = .slice A n c ∧ W.ownsRow wx.heap.size 99 3 (.slice A n c) n ([] ++ l) ∧ x14 = .slice (some ⟨g, 0, none⟩) 1 1 ∧ W.heap[g]? = some (.cells nws.toArray 99 (0, 0)) ∧ ∀ A' c' W', W'.ownsRow wx.heap.size 99 3 (.slice A' (n + 1) c') (n + 1) (([] ++ l) ++ nws) → W.grownBy W' (Value.slice A n c).ownBlock → TJ V0 V1 V2 V3 V4 V5 V7 V9 V10 V11 V12 V13 R16 R17 Q B0 wx n l nws (upd f 15) x0 x1 x2 x3 x4 x5 x6 x7 x8 x9 x10 x11 x12 x13 x14 (.slice A' (n + 1) c') x16 x17 W' := by
  have h16 := h.no15 hn
  have h17 := h.no17 h16
  have t := h.ch h16
  rw [h8, h14, hn] at t
  obtain ⟨A, c, g, e, ho, e2, hh, hk⟩ := Ch1.done t
  refine ⟨A, c, g, e, ho, e2, hh, fun A' c' W' a b => { h with bel0 := ?_, kx := ?_, bel := fun _ => ?_, ch := fun _ => ?_, r16 := fun e => tjf h16 e, r17 := fun e => tjf h17 e, fin := fun e => tjf (h.no18 h17) e, q15_8 := fun _ => h8, q15_14 := fun _ => h14, q16_15 := fun _ => rfl }⟩
  · exact (hk A' c' W' a b).bel.mono (Nat.le_of_lt h.hB)
  · exact (hk A' c' W' a b).bel.block _ h.hB
  · exact (hk A' c' W' a b).bel
  · have t' : Ch1 wx 99 3 n l nws (f 6) (f 8) (f 14) true x6 x8 x14 (.slice A' (n + 1) c') W' := by rw [h8, h14]; exact hk A' c' W' a b
    exact t'
theorem TJ.row (h : TJ V0 V1 V2 V3 V4 V5 V7 V9 V10 V11 V12 V13 R16 R17 Q B0 wx n l nws f x0 x1 x2 x3 x4 x5 x6 x7 x8 x9 x10 x11 x12 x13 x14 x15 x16 x17 W) (h15 : f 15 = true) (hn : f 16 = false) : ∃ A c, x15 = .slice A (n + 1) c ∧ W.ownsRow wx.heap.size 99 3 (.slice A (n + 1) c) (n + 1) (([] ++ l) ++ nws) := (h.ch hn).hd h15
theorem TJ.st16 (h : TJ V0 V1 V2 V3 V4 V5 V7 V9 V10 V11 V12 V13 R16 R17 Q B0 wx n l nws f x0 x1 x2 x3 x4 x5 x6 x7 x8 x9 x10 x11 x12 x13 x14 x15 x16 x17 W) (h15 : f 15 = true) (hn : f 16 = false) (hb : Below wx.heap.size wx W') {z : Value} (hr : R16 z W') : TJ V0 V1 V2 V3 V4 V5 V7 V9 V10 V11 V12 V13 R16 R17 Q B0 wx n l nws (upd f 16) x0 x1 x2 x3 x4 x5 x6 x7 x8 x9 x10 x11 x12 x13 x14 x15 z x17 W' :=
  have h17 := h.no17 hn
  { h with
    bel0 := hb.mono (Nat.le_of_lt h.hB)
    kx := hb.block _ h.hB
    bel := fun _ => hb
    ch := fun e => (by cases e)
    r16 := fun _ _ => hr
    r17 := fun e => tjf h17 e
    fin := fun e => tjf (h.no18 h17) e
    q16_15 := fun _ => h15, q17_16 := fun _ => rfl }
theorem TJ.st17 (h : TJ V0 V1 V2 V3 V4 V5 V7 V9 V10 V11 V12 V13 R16 R17 Q B0 wx n l nws f x0 x1 x2 x3 x4 x5 x6 x7 x8 x9 x10 x11 x12 x13 x14 x15 x16 x17 W) (h16 : f 16 = true) (hn : f 17 = false) (hb : Below wx.heap.size wx W') {z : Value} (hr : R17 z W') : TJ V0 V1 V2 V3 V4 V5 V7 V9 V10 V11 V12 V13 R16 R17 Q B0 wx n l nws (upd f 17) x0 x1 x2 x3 x4 x5 x6 x7 x8 x9 x10 x11 x12 x13 x14 x15 x16 z W' :=
  { h with
    bel0 := hb.mono (Nat.le_of_lt h.hB)
    kx := hb.block _ h.hB
    bel := fun _ => hb
    ch := fun e => tjf e h16
    r16 := fun _ e => (by cases e)
    r17 := fun _ _ => hr
    fin := fun e => tjf (h.no18 hn) e
    q17_16 := fun _ => h16, q18_17 := fun _ => rfl }
theorem TJ.st18 (h : TJ V0 V1 V2 V3 V4 V5 V7 V9 V10 V11 V12 V13 R16 R17 Q B0 wx n l nws f x0 x1 x2 x3 x4 x5 x6 x7 x8 x9 x10 x11 x12 x13 x14 x15 x16 x17 W) (h17 : f 17 = true) (hb : Below B0 wx W') (hx : W'.heap[B0]? = wx.heap[B0]?) (hq : Q W') : TJ V0 V1 V2 V3 V4 V5 V7 V9 V10 V11 V12 V13 R16 R17 Q B0 wx n l nws (upd f 18) x0 x1 x2 x3 x4 x5 x6 x7 x8 x9 x10 x11 x12 x13 x14 x15 x16 x17 W' :=
  { h with
    bel0 := hb
    kx := hx
    bel := fun e => (by cases e)
    ch := fun e => tjf e (h.q17_16 h17)
    r16 := fun _ e => tjf e h17
    r17 := fun _ e => (by cases e)
    fin := fun _ => hq
    q18_17 := fun _ => h17 }
end
/-- .. the slots left open. -/
def TJx (V0 V1 V2 V3 V4 V5 V7 V9 V10 V11 V12 V13 : Value) (R16 R17 : Value → World → Prop) (Q : World → Prop) (B0 : Nat) (wx : World) (n : Nat) (l nws : List Value) (f : Nat → Bool) (ys : List Value) (W : World) : Prop :=
  ∃ x0 x1 x2 x3 x4 x5 x6 x7 x8 x9 x10 x11 x12 x13 x14 x15 x16 x17 : Value, ys = [x0, x1, x2, x3, x4, x5, x6, x7, x8, x9, x10, x11, x12, x13, x14, x15, x16, x17] ∧ TJ V0 V1 V2 V3 V4 V5 V7 V9 V10 V11 V12 V13 R16 R17 Q B0 wx n l nws f x0 x1 x2 x3 x4 x5 x6 x7 x8 x9 x10 x11 x12 x13 x14 x15 x16 x17 W
theorem TJ.mk_ {V0 V1 V2 V3 V4 V5 V7 V9 V10 V11 V12 V13 : Value} {R16 R17 : Value → World → Prop} {Q : World → Prop} {B0 : Nat} {wx : World} {n : Nat} {l nws : List Value} {f : Nat → Bool} {x0 x1 x2 x3 x4 x5 x6 x7 x8 x9 x10 x11 x12 x13 x14 x15 x16 x17 : Value} {W : World} (h : TJ V0 V1 V2 V3 V4 V5 V7 V9 V10 V11 V12 V13 R16 R17 Q B0 wx n l nws f x0 x1 x2 x3 x4 x5 x6 x7 x8 x9 x10 x11 x12 x13 x14 x15 x16 x17 W) : TJx V0 V1 V2 V3 V4 V5 V7 V9 V10 V11 V12 V13 R16 R17 Q B0 wx n l nws f [x0, x1, x2, x3, x4, x5, x6, x7, x8, x9, x10, x11, x12, x13, x14, x15, x16, x17] W := ⟨_, _, _, _, _, _, _, _, _, _, _, _, _, _, _, _, _, _, rfl, h⟩
theorem len18 {xs : List Value} (h : xs.length = 18) : ∃ x0 x1 x2 x3 x4 x5 x6 x7 x8 x9 x10 x11 x12 x13 x14 x15 x16 x17 : Value, xs = [x0, x1, x2, x3, x4, x5, x6, x7, x8, x9, x10, x11, x12, x13, x14, x15, x16, x17] := by
  match xs, h with
  | [x0, x1, x2, x3, x4, x5, x6, x7, x8, x9, x10, x11, x12, x13, x14, x15, x16, x17], _ => exact ⟨x0, x1, x2, x3, x4, x5, x6, x7, x8, x9, x10, x11, x12, x13, x14, x15, x16, x17, rfl⟩


structure LJ (V3 V4 V5 V6 V7 uv : Value) (wx : World) (n : Nat) (l nws : List Value) (f : Nat → Bool) (x0 x1 x2 x3 x4 x5 x6 x7 x8 x9 xt : Value) (W : World) : Prop where
  h3 : f 3 = true → x3 = V3
  h4 : f 4 = true → x4 = V4
  h5 : f 5 = true → x5 = V5
  h6 : f 6 = true → x6 = V6
  h7 : f 7 = true → x7 = V7
  h1 : f 1 = true → x1 = uv
  t0 : f 10 = false → xt = uv
  t1 : f 10 = true → xt = x9
  ch : Ch1 wx 99 3 n l nws (f 0) (f 2) (f 8) (f 9) x0 x2 x8 x9 W
  q2_0 : f 2 = true → f 0 = true
  q2_1 : f 2 = true → f 1 = true
  q9_2 : f 9 = true → f 2 = true
  q9_8 : f 9 = true → f 8 = true
  q10_9 : f 10 = true → f 9 = true

theorem ljf {b : Bool} {p : Prop} (h : b = false) (h' : b = true) : p := by rw [h] at h'; cases h'
section
variable {V3 V4 V5 V6 V7 uv : Value} {wx : World} {n : Nat} {l nws : List Value} {f : Nat → Bool} {x0 x1 x2 x3 x4 x5 x6 x7 x8 x9 xt : Value} {W W' : World}
theorem LJ.start (hf : ∀ k, k < 11 → f k = false) (hb : Below wx.heap.size wx W) (ht : xt = uv) : LJ V3 V4 V5 V6 V7 uv wx n l nws f x0 x1 x2 x3 x4 x5 x6 x7 x8 x9 xt W where
  h3 h := ljf (hf 3 (by decide)) h
  h4 h := ljf (hf 4 (by decide)) h
  h5 h := ljf (hf 5 (by decide)) h
  h6 h := ljf (hf 6 (by decide)) h
  h7 h := ljf (hf 7 (by decide)) h
  h1 h := ljf (hf 1 (by decide)) h
  t0 _ := ht
  t1 h := ljf (hf 10 (by decide)) h
  ch := Ch1.start (hf 0 (by decide)) (hf 2 (by decide)) (hf 8 (by decide)) (hf 9 (by decide)) hb
  q2_0 h := ljf (hf 2 (by decide)) h
  q2_1 h := ljf (hf 2 (by decide)) h
  q9_2 h := ljf (hf 9 (by decide)) h
  q9_8 h := ljf (hf 9 (by decide)) h
  q10_9 h := ljf (hf 10 (by decide)) h
theorem LJ.st3 (h : LJ V3 V4 V5 V6 V7 uv wx n l nws f x0 x1 x2 x3 x4 x5 x6 x7 x8 x9 xt W) : LJ V3 V4 V5 V6 V7 uv wx n l nws (upd f 3) x0 x1 x2 V3 x4 x5 x6 x7 x8 x9 xt W := { h with h3 := fun _ => rfl }
theorem LJ.st4 (h : LJ V3 V4 V5 V6 V7 uv wx n l nws f x0 x1 x2 x3 x4 x5 x6 x7 x8 x9 xt W) : LJ V3 V4 V5 V6 V7 uv wx n l nws (upd f 4) x0 x1 x2 x3 V4 x5 x6 x7 x8 x9 xt W := { h with h4 := fun _ => rfl }
theorem LJ.st5 (h : LJ V3 V4 V5 V6 V7 uv wx n l nws f x0 x1 x2 x3 x4 x5 x6 x7 x8 x9 xt W) : LJ V3 V4 V5 V6 V7 uv wx n l nws (upd f 5) x0 x1 x2 x3 x4 V5 x6 x7 x8 x9 xt W := { h with h5 := fun _ => rfl }
theorem LJ.st6 (h : LJ V3 V4 V5 V6 V7 uv wx n l nws f x0 x1 x2 x3 x4 x5 x6 x7 x8 x9 xt W) : LJ V3 V4 V5 V6 V7 uv wx n l nws (upd f 6) x0 x1 x2 x3 x4 x5 V6 x7 x8 x9 xt W := { h with h6 := fun _ => rfl }
theorem LJ.st7 (h : LJ V3 V4 V5 V6 V7 uv wx n l nws f x0 x1 x2 x3 x4 x5 x6 x7 x8 x9 xt W) : LJ V3 V4 V5 V6 V7 uv wx n l nws (upd f 7) x0 x1 x2 x3 x4 x5 x6 V7 x8 x9 xt W := { h with h7 := fun _ => rfl }
theorem LJ.below (h : LJ V3 V4 V5 V6 V7 uv wx n l nws f x0 x1 x2 x3 x4 x5 x6 x7 x8 x9 xt W) : Below wx.heap.size wx W := h.ch.bel
theorem LJ.no9 (h : LJ V3 V4 V5 V6 V7 uv wx n l nws f x0 x1 x2 x3 x4 x5 x6 x7 x8 x9 xt W) (hn : f 9 = false) : f 10 = false := by
  cases e : f 10 with
  | false => rfl
  | true => exact ljf hn (h.q10_9 e)
theorem LJ.no1 (h : LJ V3 V4 V5 V6 V7 uv wx n l nws f x0 x1 x2 x3 x4 x5 x6 x7 x8 x9 xt W) (hn : f 1 = false) : f 10 = false := by
  cases e : f 10 with
  | false => rfl
  | true => exact ljf hn (h.q2_1 (h.q9_2 (h.q10_9 e)))
theorem LJ.st1 (h : LJ V3 V4 V5 V6 V7 uv wx n l nws f x0 x1 x2 x3 x4 x5 x6 x7 x8 x9 xt W) (hn : f 1 = false) : xt = uv ∧ LJ V3 V4 V5 V6 V7 uv wx n l nws (upd f 1) x0 uv x2 x3 x4 x5 x6 x7 x8 x9 xt W := ⟨h.t0 (h.no1 hn), { h with h1 := fun _ => rfl, q2_1 := fun _ => rfl }⟩
theorem LJ.st0 (h : LJ V3 V4 V5 V6 V7 uv wx n l nws f x0 x1 x2 x3 x4 x5 x6 x7 x8 x9 xt W) : LJ V3 V4 V5 V6 V7 uv wx n l nws (upd f 0) (.slice (some ⟨W.heap.size, 0, none⟩) 0 0) x1 x2 x3 x4 x5 x6 x7 x8 x9 xt (W.alloc (.cells #[] 99)) := { h with ch := h.ch.made, q2_0 := fun _ => rfl }
theorem LJ.st8 (h : LJ V3 V4 V5 V6 V7 uv wx n l nws f x0 x1 x2 x3 x4 x5 x6 x7 x8 x9 xt W) : LJ V3 V4 V5 V6 V7 uv wx n l nws (upd f 8) x0 x1 x2 x3 x4 x5 x6 x7 (.slice (some ⟨W.heap.size, 0, none⟩) 1 1) x9 xt (W.alloc (.cells nws.toArray 99)) := { h with ch := h.ch.laid, q9_8 := fun _ => rfl }
theorem LJ.st2 (hne : nws ≠ []) (h : LJ V3 V4 V5 V6 V7 uv wx n l nws f x0 x1 x2 x3 x4 x5 x6 x7 x8 x9 xt W) (h0 : f 0 = true) (h1 : f 1 = true) (hn : f 2 = false) :
    ∃ g, x0 = .slice (some ⟨g, 0, none⟩) 0 0 ∧ x1 = uv ∧ W.ownsRow wx.heap.size 99 3 (.slice (some ⟨g, 0, none⟩) 0 0) 0 [] ∧ ∀ A c W', W'.ownsRow wx.heap.size 99 3 (.slice A n c) n ([] ++ l) → W.grownBy W' (Value.slice (some ⟨g, 0, none⟩) 0 0).ownBlock → LJ V3 V4 V5 V6 V7 uv wx n l nws (upd f 2) x0 x1 (.slice A n c) x3 x4 x5 x6 x7 x8 x9 xt W' := by
  have t := h.ch
  rw [h0, hn] at t
  obtain ⟨g, e, ho, hk⟩ := Ch1.copied hne t
  refine ⟨g, e, h.h1 h1, ho, fun A c W' a b => { h with ch := ?_, q2_0 := fun _ => h0, q2_1 := fun _ => h1, q9_2 := fun _ => rfl }⟩
  have t' : Ch1 wx 99 3 n l nws (f 0) true (f 8) (f 9) x0 (.slice A n c) x8 x9 W' := by rw [h0]; exact hk A c W' a b
  exact t'
theorem LJ.st9 (h : LJ V3 V4 V5 V6 V7 uv wx n l nws f x0 x1 x2 x3 x4 x5 x6 x7 x8 x9 xt W) (h2 : f 2 = true) (h8 : f 8 = true) (hn : f 9 = false) :
    ∃ A c g, x2 = .slice A n c ∧ W.ownsRow wx.heap.size 99 3 (.slice A n c) n ([] ++ l) ∧ x8 = .slice (some ⟨g, 0, none⟩) 1 1 ∧ W.heap[g]? = some (.cells nws.toArray 99 (0, 0)) ∧ ∀ A' c' W', W'.ownsRow wx.heap.size 99 3 (.slice A' (n + 1) c') (n + 1) (([] ++ l) ++ nws) → W.grownBy W' (Value.slice A n c).ownBlock → LJ V3 V4 V5 V6 V7 uv wx n l nws (upd f 9) x0 x1 x2 x3 x4 x5 x6 x7 x8 (.slice A' (n + 1) c') xt W' := by
  have h10 := h.no9 hn
  have t := h.ch
  rw [h2, h8, hn] at t
  obtain ⟨A, c, g, e, ho, e2, hh, hk⟩ := Ch1.done t
  refine ⟨A, c, g, e, ho, e2, hh, fun A' c' W' a b => { h with ch := ?_, t1 := fun e => ljf h10 e, q9_2 := fun _ => h2, q9_8 := fun _ => h8, q10_9 := fun _ => rfl }⟩
  have t' : Ch1 wx 99 3 n l nws (f 0) (f 2) (f 8) true x0 x2 x8 (.slice A' (n + 1) c') W' := by rw [h2, h8]; exact hk A' c' W' a b
  exact t'
theorem LJ.st10 (h : LJ V3 V4 V5 V6 V7 uv wx n l nws f x0 x1 x2 x3 x4 x5 x6 x7 x8 x9 xt W) (h9 : f 9 = true) : LJ V3 V4 V5 V6 V7 uv wx n l nws (upd f 10) x0 x1 x2 x3 x4 x5 x6 x7 x8 x9 x9 W := { h with t0 := fun e => (by cases e), t1 := fun _ => rfl, q10_9 := fun _ => h9 }
/-- What the region leaves. -/
theorem LJ.fin (h : LJ V3 V4 V5 V6 V7 uv wx n l nws f x0 x1 x2 x3 x4 x5 x6 x7 x8 x9 xt W) (hf : ∀ k, k < 11 → f k = true) : ∃ A c, xt = .slice A (n + 1) c ∧ W.ownsRow wx.heap.size 99 3 (.slice A (n + 1) c) (n + 1) (([] ++ l) ++ nws) ∧ Below wx.heap.size wx W := by
  obtain ⟨A, c, e, ho⟩ := h.ch.hd (hf 9 (by decide))
  exact ⟨A, c, (h.t1 (hf 10 (by decide))).trans e, ho, h.ch.bel⟩
end
def LJx (V3 V4 V5 V6 V7 uv : Value) (wx : World) (n : Nat) (l nws : List Value) (f : Nat → Bool) (ys : List Value) (W : World) : Prop :=
  ∃ x0 x1 x2 x3 x4 x5 x6 x7 x8 x9 xt : Value, ys = [x0, x1, x2, x3, x4, x5, x6, x7, x8, x9, xt] ∧ LJ V3 V4 V5 V6 V7 uv wx n l nws f x0 x1 x2 x3 x4 x5 x6 x7 x8 x9 xt W
theorem LJ.mk_ {V3 V4 V5 V6 V7 uv : Value} {wx : World} {n : Nat} {l nws : List Value} {f : Nat → Bool} {x0 x1 x2 x3 x4 x5 x6 x7 x8 x9 xt : Value} {W : World} (h : LJ V3 V4 V5 V6 V7 uv wx n l nws f x0 x1 x2 x3 x4 x5 x6 x7 x8 x9 xt W) : LJx V3 V4 V5 V6 V7 uv wx n l nws f [x0, x1, x2, x3, x4, x5, x6, x7, x8, x9, xt] W := ⟨_, _, _, _, _, _, _, _, _, _, _, rfl, h⟩
theorem lenL {xs : List Value} (h : xs.length = 11) : ∃ x0 x1 x2 x3 x4 x5 x6 x7 x8 x9 xt : Value, xs = [x0, x1, x2, x3, x4, x5, x6, x7, x8, x9, xt] := by
  match xs, h with
  | [x0, x1, x2, x3, x4, x5, x6, x7, x8, x9, xt], _ => exact ⟨x0, x1, x2, x3, x4, x5, x6, x7, x8, x9, xt, rfl⟩

structure YJ (V0 V1 V2 V3 V4 V5 V6 V7 : Value) (bs : List Value) (wx : World) (kd idn nx t0 t1 : Value) (f : Nat → Bool) (x0 x1 x2 x3 x4 x5 x6 x7 x8 x9 x10 : Value) (g gy : Nat) (W : World) : Prop where
  h0 : f 0 = true → x0 = V0
  h1 : f 1 = true → x1 = V1
  h2 : f 2 = true → x2 = V2
  h3 : f 3 = true → x3 = V3
  h4 : f 4 = true → x4 = V4
  h5 : f 5 = true → x5 = V5
  h6 : f 6 = true → x6 = V6
  h7 : f 7 = true → x7 = V7
  bel : Below wx.heap.size wx W
  h8 : f 8 = true → x8 = .slice (some ⟨g, 0, none⟩) 1 1 ∧ wx.heap.size ≤ g ∧ W.heap[g]? = some (.cells bs.toArray 65 (0, 0))
  h9 : f 9 = true → x9 = .agg #[kd, idn, nx, t0, t1, .slice (some ⟨g, 0, none⟩) 1 1]
  h10 : f 10 = true → x10 = .pointer (some ⟨gy, 0, none⟩) ∧ wx.heap.size ≤ gy ∧ ∃ u0 u1 u2 u3 u4 u5 : Value, W.heap[gy]? = some (.cells #[u0, u1, u2, u3, u4, u5] 65 (0, 0))
  ne : f 8 = true → f 10 = true → g ≠ gy
  s11 : f 11 = true → W.heap[gy]? = some (.cells #[kd, idn, nx, t0, t1, .slice (some ⟨g, 0, none⟩) 1 1] 65 (0, 0))
  q9_8 : f 9 = true → f 8 = true
  q11_9 : f 11 = true → f 9 = true
  q11_10 : f 11 = true → f 10 = true
section
variable {V0 V1 V2 V3 V4 V5 V6 V7 : Value} {bs : List Value} {wx : World} {kd idn nx t0 t1 : Value} {f : Nat → Bool} {x0 x1 x2 x3 x4 x5 x6 x7 x8 x9 x10 : Value} {g gy : Nat} {W W' : World}
theorem YJ.start (hf : ∀ k, k < 12 → f k = false) (hb : Below wx.heap.size wx W) : YJ V0 V1 V2 V3 V4 V5 V6 V7 bs wx kd idn nx t0 t1 f x0 x1 x2 x3 x4 x5 x6 x7 x8 x9 x10 g gy W where
  h0 h := ljf (hf 0 (by decide)) h
  h1 h := ljf (hf 1 (by decide)) h
  h2 h := ljf (hf 2 (by decide)) h
  h3 h := ljf (hf 3 (by decide)) h
  h4 h := ljf (hf 4 (by decide)) h
  h5 h := ljf (hf 5 (by decide)) h
  h6 h := ljf (hf 6 (by decide)) h
  h7 h := ljf (hf 7 (by decide)) h
  bel := hb
  h8 h := ljf (hf 8 (by decide)) h
  h9 h := ljf (hf 9 (by decide)) h
  h10 h := ljf (hf 10 (by decide)) h
  ne h := ljf (hf 8 (by decide)) h
  s11 h := ljf (hf 11 (by decide)) h
  q9_8 h := ljf (hf 9 (by decide)) h
  q11_9 h := ljf (hf 11 (by decide)) h
  q11_10 h := ljf (hf 11 (by decide)) h
theorem YJ.st0 (h : YJ V0 V1 V2 V3 V4 V5 V6 V7 bs wx kd idn nx t0 t1 f x0 x1 x2 x3 x4 x5 x6 x7 x8 x9 x10 g gy W) : YJ V0 V1 V2 V3 V4 V5 V6 V7 bs wx kd idn nx t0 t1 (upd f 0) V0 x1 x2 x3 x4 x5 x6 x7 x8 x9 x10 g gy W := { h with h0 := fun _ => rfl }
theorem YJ.st1 (h : YJ V0 V1 V2 V3 V4 V5 V6 V7 bs wx kd idn nx t0 t1 f x0 x1 x2 x3 x4 x5 x6 x7 x8 x9 x10 g gy W) : YJ V0 V1 V2 V3 V4 V5 V6 V7 bs wx kd idn nx t0 t1 (upd f 1) x0 V1 x2 x3 x4 x5 x6 x7 x8 x9 x10 g gy W := { h with h1 := fun _ => rfl }
theorem YJ.st2 (h : YJ V0 V1 V2 V3 V4 V5 V6 V7 bs wx kd idn nx t0 t1 f x0 x1 x2 x3 x4 x5 x6 x7 x8 x9 x10 g gy W) : YJ V0 V1 V2 V3 V4 V5 V6 V7 bs wx kd idn nx t0 t1 (upd f 2) x0 x1 V2 x3 x4 x5 x6 x7 x8 x9 x10 g gy W := { h with h2 := fun _ => rfl }
theorem YJ.st3 (h : YJ V0 V1 V2 V3 V4 V5 V6 V7 bs wx kd idn nx t0 t1 f x0 x1 x2 x3 x4 x5 x6 x7 x8 x9 x10 g gy W) : YJ V0 V1 V2 V3 V4 V5 V6 V7 bs wx kd idn nx t0 t1 (upd f 3) x0 x1 x2 V3 x4 x5 x6 x7 x8 x9 x10 g gy W := { h with h3 := fun _ => rfl }
theorem YJ.st4 (h : YJ V0 V1 V2 V3 V4 V5 V6 V7 bs wx kd idn nx t0 t1 f x0 x1 x2 x3 x4 x5 x6 x7 x8 x9 x10 g gy W) : YJ V0 V1 V2 V3 V4 V5 V6 V7 bs wx kd idn nx t0 t1 (upd f 4) x0 x1 x2 x3 V4 x5 x6 x7 x8 x9 x10 g gy W := { h with h4 := fun _ => rfl }
theorem YJ.st5 (h : YJ V0 V1 V2 V3 V4 V5 V6 V7 bs wx kd idn nx t0 t1 f x0 x1 x2 x3 x4 x5 x6 x7 x8 x9 x10 g gy W) : YJ V0 V1 V2 V3 V4 V5 V6 V7 bs wx kd idn nx t0 t1 (upd f 5) x0 x1 x2 x3 x4 V5 x6 x7 x8 x9 x10 g gy W := { h with h5 := fun _ => rfl }
theorem YJ.st6 (h : YJ V0 V1 V2 V3 V4 V5 V6 V7 bs wx kd idn nx t0 t1 f x0 x1 x2 x3 x4 x5 x6 x7 x8 x9 x10 g gy W) : YJ V0 V1 V2 V3 V4 V5 V6 V7 bs wx kd idn nx t0 t1 (upd f 6) x0 x1 x2 x3 x4 x5 V6 x7 x8 x9 x10 g gy W := { h with h6 := fun _ => rfl }
theorem YJ.st7 (h : YJ V0 V1 V2 V3 V4 V5 V6 V7 bs wx kd idn nx t0 t1 f x0 x1 x2 x3 x4 x5 x6 x7 x8 x9 x10 g gy W) : YJ V0 V1 V2 V3 V4 V5 V6 V7 bs wx kd idn nx t0 t1 (upd f 7) x0 x1 x2 x3 x4 x5 x6 V7 x8 x9 x10 g gy W := { h with h7 := fun _ => rfl }
theorem YJ.st8 (h : YJ V0 V1 V2 V3 V4 V5 V6 V7 bs wx kd idn nx t0 t1 f x0 x1 x2 x3 x4 x5 x6 x7 x8 x9 x10 g gy W) (hn : f 8 = false) : YJ V0 V1 V2 V3 V4 V5 V6 V7 bs wx kd idn nx t0 t1 (upd f 8) x0 x1 x2 x3 x4 x5 x6 x7 (.slice (some ⟨W.heap.size, 0, none⟩) 1 1) x9 x10 W.heap.size gy (W.alloc (.cells bs.toArray 65)) :=
  have h9 : f 9 = false := by
    cases e : f 9 with
    | false => rfl
    | true => exact ljf hn (h.q9_8 e)
  have h11 : f 11 = false := by
    cases e : f 11 with
    | false => rfl
    | true => exact ljf h9 (h.q11_9 e)
  { h with
    bel := h.bel.alloc h.bel.size _
    h8 := fun _ => ⟨rfl, h.bel.size, heap_at rfl⟩
    h9 := fun e => ljf h9 e
    h10 := fun e => by
      obtain ⟨e1, h1, u0, u1, u2, u3, u4, u5, hh⟩ := h.h10 e
      exact ⟨e1, h1, u0, u1, u2, u3, u4, u5, heap_old (lt_heap hh) hh⟩
    ne := fun _ e => by
      obtain ⟨_, _, _, _, _, _, _, _, hh⟩ := h.h10 e
      have := lt_heap hh; omega
    s11 := fun e => ljf h11 e
    q9_8 := fun _ => rfl }
theorem YJ.st9 (h : YJ V0 V1 V2 V3 V4 V5 V6 V7 bs wx kd idn nx t0 t1 f x0 x1 x2 x3 x4 x5 x6 x7 x8 x9 x10 g gy W) (h8 : f 8 = true) : YJ V0 V1 V2 V3 V4 V5 V6 V7 bs wx kd idn nx t0 t1 (upd f 9) x0 x1 x2 x3 x4 x5 x6 x7 x8 (.agg #[kd, idn, nx, t0, t1, .slice (some ⟨g, 0, none⟩) 1 1]) x10 g gy W := { h with h9 := fun _ => rfl, q9_8 := fun _ => h8, q11_9 := fun _ => rfl }
theorem YJ.st10 (h : YJ V0 V1 V2 V3 V4 V5 V6 V7 bs wx kd idn nx t0 t1 f x0 x1 x2 x3 x4 x5 x6 x7 x8 x9 x10 g gy W) (hn : f 10 = false) {u0 u1 u2 u3 u4 u5 : Value} : YJ V0 V1 V2 V3 V4 V5 V6 V7 bs wx kd idn nx t0 t1 (upd f 10) x0 x1 x2 x3 x4 x5 x6 x7 x8 x9 (.pointer (some ⟨W.heap.size, 0, none⟩)) g W.heap.size (W.alloc (.cells #[u0, u1, u2, u3, u4, u5] 65)) :=
  have h11 : f 11 = false := by
    cases e : f 11 with
    | false => rfl
    | true => exact ljf hn (h.q11_10 e)
  { h with
    bel := h.bel.alloc h.bel.size _
    h8 := fun e => by
      obtain ⟨e1, h1, hh⟩ := h.h8 e
      exact ⟨e1, h1, heap_old (lt_heap hh) hh⟩
    h10 := fun _ => ⟨rfl, h.bel.size, u0, u1, u2, u3, u4, u5, heap_at rfl⟩
    ne := fun e _ => by
      obtain ⟨_, _, hh⟩ := h.h8 e
      have := lt_heap hh; omega
    s11 := fun e => ljf h11 e
    q11_10 := fun _ => rfl }
theorem YJ.st11 (h : YJ V0 V1 V2 V3 V4 V5 V6 V7 bs wx kd idn nx t0 t1 f x0 x1 x2 x3 x4 x5 x6 x7 x8 x9 x10 g gy W) (h9 : f 9 = true) (h10 : f 10 = true) : YJ V0 V1 V2 V3 V4 V5 V6 V7 bs wx kd idn nx t0 t1 (upd f 11) x0 x1 x2 x3 x4 x5 x6 x7 x8 x9 x10 g gy ((((((W.setCell ⟨gy, 0, none⟩ kd).setCell ⟨gy, 1, none⟩ idn).setCell ⟨gy, 2, none⟩ nx).setCell ⟨gy, 3, none⟩ t0).setCell ⟨gy, 4, none⟩ t1).setCell ⟨gy, 5, none⟩ (.slice (some ⟨g, 0, none⟩) 1 1)) := by
  obtain ⟨e1, h1, u0, u1, u2, u3, u4, u5, hh⟩ := h.h10 h10
  exact { h with
    bel := below6 h.bel h1
    h8 := fun e => by
      obtain ⟨e2, h2, h3⟩ := h.h8 e
      exact ⟨e2, h2, far6 (h.ne e h10) h3⟩
    h10 := fun _ => ⟨e1, h1, _, _, _, _, _, _, at6 hh⟩
    s11 := fun _ => at6 hh
    q11_9 := fun _ => h9
    q11_10 := fun _ => h10 }
end
def YJx (V0 V1 V2 V3 V4 V5 V6 V7 : Value) (bs : List Value) (wx : World) (kd idn nx t0 t1 : Value) (f : Nat → Bool) (ys : List Value) (W : World) : Prop :=
  ∃ (x0 x1 x2 x3 x4 x5 x6 x7 x8 x9 x10 : Value) (g gy : Nat), ys = [x0, x1, x2, x3, x4, x5, x6, x7, x8, x9, x10] ∧ YJ V0 V1 V2 V3 V4 V5 V6 V7 bs wx kd idn nx t0 t1 f x0 x1 x2 x3 x4 x5 x6 x7 x8 x9 x10 g gy W
theorem YJ.mk_ {V0 V1 V2 V3 V4 V5 V6 V7 : Value} {bs : List Value} {wx : World} {kd idn nx t0 t1 : Value} {f : Nat → Bool} {x0 x1 x2 x3 x4 x5 x6 x7 x8 x9 x10 : Value} {g gy : Nat} {W : World} (h : YJ V0 V1 V2 V3 V4 V5 V6 V7 bs wx kd idn nx t0 t1 f x0 x1 x2 x3 x4 x5 x6 x7 x8 x9 x10 g gy W) : YJx V0 V1 V2 V3 V4 V5 V6 V7 bs wx kd idn nx t0 t1 f [x0, x1, x2, x3, x4, x5, x6, x7, x8, x9, x10] W := ⟨_, _, _, _, _, _, _, _, _, _, _, _, _, rfl, h⟩
theorem lenY {xs : List Value} (h : xs.length = 11) : ∃ x0 x1 x2 x3 x4 x5 x6 x7 x8 x9 x10 : Value, xs = [x0, x1, x2, x3, x4, x5, x6, x7, x8, x9, x10] := by
  match xs, h with
  | [x0, x1, x2, x3, x4, x5, x6, x7, x8, x9, x10], _ => exact ⟨x0, x1, x2, x3, x4, x5, x6, x7, x8, x9, x10, rfl⟩


structure RJ (V0 V1 V2 V3 V4 V5 V6 V7 V8 V9 V15 V16 : Value) (B4 BJ : Bool) (m : Nat) (yb : Nat) (wr : World) (C3 : World → List Value → Prop) (C4 : World → World → List Value → Nat → Nat → Prop) (BX BY : World → Prop) (f : Nat → Bool) (x0 x1 x2 x3 x4 x5 x6 x7 x8 x9 x10 x11 x12 x13 x14 x15 x16 x17 x18 x19 x20 : Value) (w3 w4 : World) (ds : List Value) (gg cap : Nat) (W : World) : Prop where
  h0 : f 0 = true → x0 = V0
  h1 : f 1 = true → x1 = V1
  h2 : f 2 = true → x2 = V2
  h3 : f 3 = true → x3 = V3
  h4 : f 4 = true → x4 = V4
  h5 : f 5 = true → x5 = V5
  h6 : f 6 = true → x6 = V6
  h7 : f 7 = true → x7 = V7
  h8 : f 8 = true → x8 = V8
  h9 : f 9 = true → x9 = V9
  h10 : f 10 = true → x10 = .bool B4
  h11 : f 11 = true → x11 = .bool B4
  h15 : f 15 = true → x15 = V15
  h16 : f 16 = true → x16 = V16
  h20 : f 20 = true → x20 = V0
  h12 : f 12 = true → B4 = true → x12 = V4
  h13 : f 13 = true → B4 = true → x13 = .bool BJ
  h14 : f 14 = true → x14 = .bool (B4 && BJ)
  bx : BX W
  b_y : f 21 = false → BY W
  m0 : f 17 = false → W = wr.drew
  m17 : f 17 = true → C3 w3 ds ∧ x17 = .agg ds.toArray
  w17 : f 17 = true → f 18 = false → W = w3
  m18 : f 18 = true → x18 = .slice (some ⟨w3.heap.size, 0, none⟩) 1 1
  w18 : f 18 = true → f 19 = false → W = w3.alloc (.cells ds.toArray 65)
  m19 : f 19 = true → C4 w3 w4 ds gg cap ∧ x19 = .slice (some ⟨gg, 0, none⟩) (m + 1) cap
  w19 : f 19 = true → f 21 = false → W = w4
  w21 : f 21 = true → W = w4.setCell ⟨yb, 5, none⟩ (.slice (some ⟨gg, 0, none⟩) (m + 1) cap)
  q18 : f 18 = true → f 17 = true
  q19 : f 19 = true → f 18 = true
  q21 : f 21 = true → f 19 = true
  q19_1 : f 19 = true → f 1 = true

section
variable {V0 V1 V2 V3 V4 V5 V6 V7 V8 V9 V15 V16 : Value} {B4 BJ : Bool} {m yb : Nat} {wr : World} {C3 : World → List Value → Prop} {C4 : World → World → List Value → Nat → Nat → Prop} {BX BY : World → Prop} {f : Nat → Bool} {x0 x1 x2 x3 x4 x5 x6 x7 x8 x9 x10 x11 x12 x13 x14 x15 x16 x17 x18 x19 x20 : Value} {w3 w4 : World} {ds : List Value} {gg cap : Nat} {W : World}
theorem RJ.start (hf : ∀ k, k < 22 → f k = false) (h1 : BX wr.drew) (h2 : BY wr.drew) : RJ V0 V1 V2 V3 V4 V5 V6 V7 V8 V9 V15 V16 B4 BJ m yb wr C3 C4 BX BY f x0 x1 x2 x3 x4 x5 x6 x7 x8 x9 x10 x11 x12 x13 x14 x15 x16 x17 x18 x19 x20 w3 w4 ds gg cap wr.drew where
  h0 h := ljf (hf 0 (by decide)) h
  h1 h := ljf (hf 1 (by decide)) h
  h2 h := ljf (hf 2 (by decide)) h
  h3 h := ljf (hf 3 (by decide)) h
  h4 h := ljf (hf 4 (by decide)) h
  h5 h := ljf (hf 5 (by decide)) h
  h6 h := ljf (hf 6 (by decide)) h
  h7 h := ljf (hf 7 (by decide)) h
  h8 h := ljf (hf 8 (by decide)) h
  h9 h := ljf (hf 9 (by decide)) h
  h10 h := ljf (hf 10 (by decide)) h
  h11 h := ljf (hf 11 (by decide)) h
  h15 h := ljf (hf 15 (by decide)) h
  h16 h := ljf (hf 16 (by decide)) h
  h20 h := ljf (hf 20 (by decide)) h
  h12 h := ljf (hf 12 (by decide)) h
  h13 h := ljf (hf 13 (by decide)) h
  h14 h := ljf (hf 14 (by decide)) h
  bx := h1
  b_y _ := h2
  m0 _ := rfl
  m17 h := ljf (hf 17 (by decide)) h
  w17 h := ljf (hf 17 (by decide)) h
  m18 h := ljf (hf 18 (by decide)) h
  w18 h := ljf (hf 18 (by decide)) h
  m19 h := ljf (hf 19 (by decide)) h
  w19 h := ljf (hf 19 (by decide)) h
  w21 h := ljf (hf 21 (by decide)) h
  q18 h := ljf (hf 18 (by decide)) h
  q19 h := ljf (hf 19 (by decide)) h
  q21 h := ljf (hf 21 (by decide)) h
  q19_1 h := ljf (hf 19 (by decide)) h
theorem RJ.st0 (h : RJ V0 V1 V2 V3 V4 V5 V6 V7 V8 V9 V15 V16 B4 BJ m yb wr C3 C4 BX BY f x0 x1 x2 x3 x4 x5 x6 x7 x8 x9 x10 x11 x12 x13 x14 x15 x16 x17 x18 x19 x20 w3 w4 ds gg cap W) : RJ V0 V1 V2 V3 V4 V5 V6 V7 V8 V9 V15 V16 B4 BJ m yb wr C3 C4 BX BY (upd f 0) (V0) x1 x2 x3 x4 x5 x6 x7 x8 x9 x10 x11 x12 x13 x14 x15 x16 x17 x18 x19 x20 w3 w4 ds gg cap W := { h with h0 := fun _ => rfl }
theorem RJ.st1 (h : RJ V0 V1 V2 V3 V4 V5 V6 V7 V8 V9 V15 V16 B4 BJ m yb wr C3 C4 BX BY f x0 x1 x2 x3 x4 x5 x6 x7 x8 x9 x10 x11 x12 x13 x14 x15 x16 x17 x18 x19 x20 w3 w4 ds gg cap W) : RJ V0 V1 V2 V3 V4 V5 V6 V7 V8 V9 V15 V16 B4 BJ m yb wr C3 C4 BX BY (upd f 1) x0 (V1) x2 x3 x4 x5 x6 x7 x8 x9 x10 x11 x12 x13 x14 x15 x16 x17 x18 x19 x20 w3 w4 ds gg cap W := { h with h1 := fun _ => rfl, q19_1 := fun _ => rfl }
theorem RJ.st2 (h : RJ V0 V1 V2 V3 V4 V5 V6 V7 V8 V9 V15 V16 B4 BJ m yb wr C3 C4 BX BY f x0 x1 x2 x3 x4 x5 x6 x7 x8 x9 x10 x11 x12 x13 x14 x15 x16 x17 x18 x19 x20 w3 w4 ds gg cap W) : RJ V0 V1 V2 V3 V4 V5 V6 V7 V8 V9 V15 V16 B4 BJ m yb wr C3 C4 BX BY (upd f 2) x0 x1 (V2) x3 x4 x5 x6 x7 x8 x9 x10 x11 x12 x13 x14 x15 x16 x17 x18 x19 x20 w3 w4 ds gg cap W := { h with h2 := fun _ => rfl }
theorem RJ.st3 (h : RJ V0 V1 V2 V3 V4 V5 V6 V7 V8 V9 V15 V16 B4 BJ m yb wr C3 C4 BX BY f x0 x1 x2 x3 x4 x5 x6 x7 x8 x9 x10 x11 x12 x13 x14 x15 x16 x17 x18 x19 x20 w3 w4 ds gg cap W) : RJ V0 V1 V2 V3 V4 V5 V6 V7 V8 V9 V15 V16 B4 BJ m yb wr C3 C4 BX BY (upd f 3) x0 x1 x2 (V3) x4 x5 x6 x7 x8 x9 x10 x11 x12 x13 x14 x15 x16 x17 x18 x19 x20 w3 w4 ds gg cap W := { h with h3 := fun _ => rfl }
theorem RJ.st4 (h : RJ V0 V1 V2 V3 V4 V5 V6 V7 V8 V9 V15 V16 B4 BJ m yb wr C3 C4 BX BY f x0 x1 x2 x3 x4 x5 x6 x7 x8 x9 x10 x11 x12 x13 x14 x15 x16 x17 x18 x19 x20 w3 w4 ds gg cap W) : RJ V0 V1 V2 V3 V4 V5 V6 V7 V8 V9 V15 V16 B4 BJ m yb wr C3 C4 BX BY (upd f 4) x0 x1 x2 x3 (V4) x5 x6 x7 x8 x9 x10 x11 x12 x13 x14 x15 x16 x17 x18 x19 x20 w3 w4 ds gg cap W := { h with h4 := fun _ => rfl }
theorem RJ.st5 (h : RJ V0 V1 V2 V3 V4 V5 V6 V7 V8 V9 V15 V16 B4 BJ m yb wr C3 C4 BX BY f x0 x1 x2 x3 x4 x5 x6 x7 x8 x9 x10 x11 x12 x13 x14 x15 x16 x17 x18 x19 x20 w3 w4 ds gg cap W) : RJ V0 V1 V2 V3 V4 V5 V6 V7 V8 V9 V15 V16 B4 BJ m yb wr C3 C4 BX BY (upd f 5) x0 x1 x2 x3 x4 (V5) x6 x7 x8 x9 x10 x11 x12 x13 x14 x15 x16 x17 x18 x19 x20 w3 w4 ds gg cap W := { h with h5 := fun _ => rfl }
theorem RJ.st6 (h : RJ V0 V1 V2 V3 V4 V5 V6 V7 V8 V9 V15 V16 B4 BJ m yb wr C3 C4 BX BY f x0 x1 x2 x3 x4 x5 x6 x7 x8 x9 x10 x11 x12 x13 x14 x15 x16 x17 x18 x19 x20 w3 w4 ds gg cap W) : RJ V0 V1 V2 V3 V4 V5 V6 V7 V8 V9 V15 V16 B4 BJ m yb wr C3 C4 BX BY (upd f 6) x0 x1 x2 x3 x4 x5 (V6) x7 x8 x9 x10 x11 x12 x13 x14 x15 x16 x17 x18 x19 x20 w3 w4 ds gg cap W := { h with h6 := fun _ => rfl }
theorem RJ.st7 (h : RJ V0 V1 V2 V3 V4 V5 V6 V7 V8 V9 V15 V16 B4 BJ m yb wr C3 C4 BX BY f x0 x1 x2 x3 x4 x5 x6 x7 x8 x9 x10 x11 x12 x13 x14 x15 x16 x17 x18 x19 x20 w3 w4 ds gg cap W) : RJ V0 V1 V2 V3 V4 V5 V6 V7 V8 V9 V15 V16 B4 BJ m yb wr C3 C4 BX BY (upd f 7) x0 x1 x2 x3 x4 x5 x6 (V7) x8 x9 x10 x11 x12 x13 x14 x15 x16 x17 x18 x19 x20 w3 w4 ds gg cap W := { h with h7 := fun _ => rfl }
theorem RJ.st8 (h : RJ V0 V1 V2 V3 V4 V5 V6 V7 V8 V9 V15 V16 B4 BJ m yb wr C3 C4 BX BY f x0 x1 x2 x3 x4 x5 x6 x7 x8 x9 x10 x11 x12 x13 x14 x15 x16 x17 x18 x19 x20 w3 w4 ds gg cap W) : RJ V0 V1 V2 V3 V4 V5 V6 V7 V8 V9 V15 V16 B4 BJ m yb wr C3 C4 BX BY (upd f 8) x0 x1 x2 x3 x4 x5 x6 x7 (V8) x9 x10 x11 x12 x13 x14 x15 x16 x17 x18 x19 x20 w3 w4 ds gg cap W := { h with h8 := fun _ => rfl }
theorem RJ.st9 (h : RJ V0 V1 V2 V3 V4 V5 V6 V7 V8 V9 V15 V16 B4 BJ m yb wr C3 C4 BX BY f x0 x1 x2 x3 x4 x5 x6 x7 x8 x9 x10 x11 x12 x13 x14 x15 x16 x17 x18 x19 x20 w3 w4 ds gg cap W) : RJ V0 V1 V2 V3 V4 V5 V6 V7 V8 V9 V15 V16 B4 BJ m yb wr C3 C4 BX BY (upd f 9) x0 x1 x2 x3 x4 x5 x6 x7 x8 (V9) x10 x11 x12 x13 x14 x15 x16 x17 x18 x19 x20 w3 w4 ds gg cap W := { h with h9 := fun _ => rfl }
theorem RJ.st10 (h : RJ V0 V1 V2 V3 V4 V5 V6 V7 V8 V9 V15 V16 B4 BJ m yb wr C3 C4 BX BY f x0 x1 x2 x3 x4 x5 x6 x7 x8 x9 x10 x11 x12 x13 x14 x15 x16 x17 x18 x19 x20 w3 w4 ds gg cap W) : RJ V0 V1 V2 V3 V4 V5 V6 V7 V8 V9 V15 V16 B4 BJ m yb wr C3 C4 BX BY (upd f 10) x0 x1 x2 x3 x4 x5 x6 x7 x8 x9 (.bool B4) x11 x12 x13 x14 x15 x16 x17 x18 x19 x20 w3 w4 ds gg cap W := { h with h10 := fun _ => rfl }
theorem RJ.st11 (h : RJ V0 V1 V2 V3 V4 V5 V6 V7 V8 V9 V15 V16 B4 BJ m yb wr C3 C4 BX BY f x0 x1 x2 x3 x4 x5 x6 x7 x8 x9 x10 x11 x12 x13 x14 x15 x16 x17 x18 x19 x20 w3 w4 ds gg cap W) : RJ V0 V1 V2 V3 V4 V5 V6 V7 V8 V9 V15 V16 B4 BJ m yb wr C3 C4 BX BY (upd f 11) x0 x1 x2 x3 x4 x5 x6 x7 x8 x9 x10 (.bool B4) x12 x13 x14 x15 x16 x17 x18 x19 x20 w3 w4 ds gg cap W := { h with h11 := fun _ => rfl }
theorem RJ.st15 (h : RJ V0 V1 V2 V3 V4 V5 V6 V7 V8 V9 V15 V16 B4 BJ m yb wr C3 C4 BX BY f x0 x1 x2 x3 x4 x5 x6 x7 x8 x9 x10 x11 x12 x13 x14 x15 x16 x17 x18 x19 x20 w3 w4 ds gg cap W) : RJ V0 V1 V2 V3 V4 V5 V6 V7 V8 V9 V15 V16 B4 BJ m yb wr C3 C4 BX BY (upd f 15) x0 x1 x2 x3 x4 x5 x6 x7 x8 x9 x10 x11 x12 x13 x14 (V15) x16 x17 x18 x19 x20 w3 w4 ds gg cap W := { h with h15 := fun _ => rfl }
theorem RJ.st16 (h : RJ V0 V1 V2 V3 V4 V5 V6 V7 V8 V9 V15 V16 B4 BJ m yb wr C3 C4 BX BY f x0 x1 x2 x3 x4 x5 x6 x7 x8 x9 x10 x11 x12 x13 x14 x15 x16 x17 x18 x19 x20 w3 w4 ds gg cap W) : RJ V0 V1 V2 V3 V4 V5 V6 V7 V8 V9 V15 V16 B4 BJ m yb wr C3 C4 BX BY (upd f 16) x0 x1 x2 x3 x4 x5 x6 x7 x8 x9 x10 x11 x12 x13 x14 x15 (V16) x17 x18 x19 x20 w3 w4 ds gg cap W := { h with h16 := fun _ => rfl }
theorem RJ.st20 (h : RJ V0 V1 V2 V3 V4 V5 V6 V7 V8 V9 V15 V16 B4 BJ m yb wr C3 C4 BX BY f x0 x1 x2 x3 x4 x5 x6 x7 x8 x9 x10 x11 x12 x13 x14 x15 x16 x17 x18 x19 x20 w3 w4 ds gg cap W) : RJ V0 V1 V2 V3 V4 V5 V6 V7 V8 V9 V15 V16 B4 BJ m yb wr C3 C4 BX BY (upd f 20) x0 x1 x2 x3 x4 x5 x6 x7 x8 x9 x10 x11 x12 x13 x14 x15 x16 x17 x18 x19 (V0) w3 w4 ds gg cap W := { h with h20 := fun _ => rfl }
theorem RJ.st12 {y : Value} (h : RJ V0 V1 V2 V3 V4 V5 V6 V7 V8 V9 V15 V16 B4 BJ m yb wr C3 C4 BX BY f x0 x1 x2 x3 x4 x5 x6 x7 x8 x9 x10 x11 x12 x13 x14 x15 x16 x17 x18 x19 x20 w3 w4 ds gg cap W) (hy : B4 = true → y = V4) : RJ V0 V1 V2 V3 V4 V5 V6 V7 V8 V9 V15 V16 B4 BJ m yb wr C3 C4 BX BY (upd f 12) x0 x1 x2 x3 x4 x5 x6 x7 x8 x9 x10 x11 y x13 x14 x15 x16 x17 x18 x19 x20 w3 w4 ds gg cap W := { h with h12 := fun _ e => hy e }
theorem RJ.st13 {y : Value} (h : RJ V0 V1 V2 V3 V4 V5 V6 V7 V8 V9 V15 V16 B4 BJ m yb wr C3 C4 BX BY f x0 x1 x2 x3 x4 x5 x6 x7 x8 x9 x10 x11 x12 x13 x14 x15 x16 x17 x18 x19 x20 w3 w4 ds gg cap W) (hy : B4 = true → y = .bool BJ) : RJ V0 V1 V2 V3 V4 V5 V6 V7 V8 V9 V15 V16 B4 BJ m yb wr C3 C4 BX BY (upd f 13) x0 x1 x2 x3 x4 x5 x6 x7 x8 x9 x10 x11 x12 y x14 x15 x16 x17 x18 x19 x20 w3 w4 ds gg cap W := { h with h13 := fun _ e => hy e }
theorem RJ.st14 (h : RJ V0 V1 V2 V3 V4 V5 V6 V7 V8 V9 V15 V16 B4 BJ m yb wr C3 C4 BX BY f x0 x1 x2 x3 x4 x5 x6 x7 x8 x9 x10 x11 x12 x13 x14 x15 x16 x17 x18 x19 x20 w3 w4 ds gg cap W) : RJ V0 V1 V2 V3 V4 V5 V6 V7 V8 V9 V15 V16 B4 BJ m yb wr C3 C4 BX BY (upd f 14) x0 x1 x2 x3 x4 x5 x6 x7 x8 x9 x10 x11 x12 x13 (.bool (B4 && BJ)) x15 x16 x17 x18 x19 x20 w3 w4 ds gg cap W := { h with h14 := fun _ => rfl }
theorem RJ.no18 (h : RJ V0 V1 V2 V3 V4 V5 V6 V7 V8 V9 V15 V16 B4 BJ m yb wr C3 C4 BX BY f x0 x1 x2 x3 x4 x5 x6 x7 x8 x9 x10 x11 x12 x13 x14 x15 x16 x17 x18 x19 x20 w3 w4 ds gg cap W) (hn : f 17 = false) : f 18 = false := by
  cases e : f 18 with
  | false => rfl
  | true => exact ljf hn (h.q18 e)
theorem RJ.no19 (h : RJ V0 V1 V2 V3 V4 V5 V6 V7 V8 V9 V15 V16 B4 BJ m yb wr C3 C4 BX BY f x0 x1 x2 x3 x4 x5 x6 x7 x8 x9 x10 x11 x12 x13 x14 x15 x16 x17 x18 x19 x20 w3 w4 ds gg cap W) (hn : f 18 = false) : f 19 = false := by
  cases e : f 19 with
  | false => rfl
  | true => exact ljf hn (h.q19 e)
theorem RJ.no21 (h : RJ V0 V1 V2 V3 V4 V5 V6 V7 V8 V9 V15 V16 B4 BJ m yb wr C3 C4 BX BY f x0 x1 x2 x3 x4 x5 x6 x7 x8 x9 x10 x11 x12 x13 x14 x15 x16 x17 x18 x19 x20 w3 w4 ds gg cap W) (hn : f 19 = false) : f 21 = false := by
  cases e : f 21 with
  | false => rfl
  | true => exact ljf hn (h.q21 e)
theorem RJ.st17 {u3 : World} {es : List Value} (h : RJ V0 V1 V2 V3 V4 V5 V6 V7 V8 V9 V15 V16 B4 BJ m yb wr C3 C4 BX BY f x0 x1 x2 x3 x4 x5 x6 x7 x8 x9 x10 x11 x12 x13 x14 x15 x16 x17 x18 x19 x20 w3 w4 ds gg cap W) (hn : f 17 = false) (hc : C3 u3 es) (h1 : BX u3) (h2 : BY u3) : RJ V0 V1 V2 V3 V4 V5 V6 V7 V8 V9 V15 V16 B4 BJ m yb wr C3 C4 BX BY (upd f 17) x0 x1 x2 x3 x4 x5 x6 x7 x8 x9 x10 x11 x12 x13 x14 x15 x16 (.agg es.toArray) x18 x19 x20 u3 w4 es gg cap u3 :=
  have e18 := h.no18 hn
  have e19 := h.no19 e18
  have e21 := h.no21 e19
  { h with
    bx := h1
    b_y := fun _ => h2
    m0 := fun e => (by cases e)
    m17 := fun _ => ⟨hc, rfl⟩
    w17 := fun _ _ => rfl
    m18 := fun e => ljf e18 e
    w18 := fun e => ljf e18 e
    m19 := fun e => ljf e19 e
    w19 := fun e => ljf e19 e
    w21 := fun e => ljf e21 e
    q18 := fun _ => rfl }
theorem RJ.st18 (h : RJ V0 V1 V2 V3 V4 V5 V6 V7 V8 V9 V15 V16 B4 BJ m yb wr C3 C4 BX BY f x0 x1 x2 x3 x4 x5 x6 x7 x8 x9 x10 x11 x12 x13 x14 x15 x16 x17 x18 x19 x20 w3 w4 ds gg cap W) (h17 : f 17 = true) (hn : f 18 = false) (h1 : BX (w3.alloc (.cells ds.toArray 65))) (h2 : BY (w3.alloc (.cells ds.toArray 65))) : RJ V0 V1 V2 V3 V4 V5 V6 V7 V8 V9 V15 V16 B4 BJ m yb wr C3 C4 BX BY (upd f 18) x0 x1 x2 x3 x4 x5 x6 x7 x8 x9 x10 x11 x12 x13 x14 x15 x16 x17 (.slice (some ⟨w3.heap.size, 0, none⟩) 1 1) x19 x20 w3 w4 ds gg cap (w3.alloc (.cells ds.toArray 65)) :=
  have e19 := h.no19 hn
  have e21 := h.no21 e19
  { h with
    bx := h1
    b_y := fun _ => h2
    m0 := fun e => ljf e h17
    w17 := fun _ e => (by cases e)
    m18 := fun _ => rfl
    w18 := fun _ _ => rfl
    m19 := fun e => ljf e19 e
    w19 := fun e => ljf e19 e
    w21 := fun e => ljf e21 e
    q18 := fun _ => h17
    q19 := fun _ => rfl }
theorem RJ.st19 {u4 : World} {g2 c2 : Nat} (h : RJ V0 V1 V2 V3 V4 V5 V6 V7 V8 V9 V15 V16 B4 BJ m yb wr C3 C4 BX BY f x0 x1 x2 x3 x4 x5 x6 x7 x8 x9 x10 x11 x12 x13 x14 x15 x16 x17 x18 x19 x20 w3 w4 ds gg cap W) (g1 : f 1 = true) (h18 : f 18 = true) (hn : f 19 = false) (hc : C4 w3 u4 ds g2 c2) (h1 : BX u4) (h2 : BY u4) : RJ V0 V1 V2 V3 V4 V5 V6 V7 V8 V9 V15 V16 B4 BJ m yb wr C3 C4 BX BY (upd f 19) x0 x1 x2 x3 x4 x5 x6 x7 x8 x9 x10 x11 x12 x13 x14 x15 x16 x17 x18 (.slice (some ⟨g2, 0, none⟩) (m + 1) c2) x20 w3 u4 ds g2 c2 u4 :=
  have h17 := h.q18 h18
  have e21 := h.no21 hn
  { h with
    bx := h1
    b_y := fun _ => h2
    m0 := fun e => ljf e h17
    w17 := fun _ e => ljf e h18
    w18 := fun _ e => (by cases e)
    m19 := fun _ => ⟨hc, rfl⟩
    w19 := fun _ _ => rfl
    w21 := fun e => ljf e21 e
    q19 := fun _ => h18
    q21 := fun _ => rfl
    q19_1 := fun _ => g1 }
theorem RJ.st21 (h : RJ V0 V1 V2 V3 V4 V5 V6 V7 V8 V9 V15 V16 B4 BJ m yb wr C3 C4 BX BY f x0 x1 x2 x3 x4 x5 x6 x7 x8 x9 x10 x11 x12 x13 x14 x15 x16 x17 x18 x19 x20 w3 w4 ds gg cap W) (h19 : f 19 = true) (h1 : BX (w4.setCell ⟨yb, 5, none⟩ (.slice (some ⟨gg, 0, none⟩) (m + 1) cap))) : RJ V0 V1 V2 V3 V4 V5 V6 V7 V8 V9 V15 V16 B4 BJ m yb wr C3 C4 BX BY (upd f 21) x0 x1 x2 x3 x4 x5 x6 x7 x8 x9 x10 x11 x12 x13 x14 x15 x16 x17 x18 x19 x20 w3 w4 ds gg cap (w4.setCell ⟨yb, 5, none⟩ (.slice (some ⟨gg, 0, none⟩) (m + 1) cap)) :=
  have h18 := h.q19 h19
  have h17 := h.q18 h18
  { h with
    bx := h1
    b_y := fun e => (by cases e)
    m0 := fun e => ljf e h17
    w17 := fun _ e => ljf e h18
    w18 := fun _ e => ljf e h19
    w19 := fun _ e => (by cases e)
    w21 := fun _ => rfl
    q21 := fun _ => h19 }
end
def RJx (V0 V1 V2 V3 V4 V5 V6 V7 V8 V9 V15 V16 : Value) (B4 BJ : Bool) (m : Nat) (yb : Nat) (wr : World) (C3 : World → List Value → Prop) (C4 : World → World → List Value → Nat → Nat → Prop) (BX BY : World → Prop) (f : Nat → Bool) (ys : List Value) (W : World) : Prop :=
  ∃ (x0 x1 x2 x3 x4 x5 x6 x7 x8 x9 x10 x11 x12 x13 x14 x15 x16 x17 x18 x19 x20 : Value) (w3 w4 : World) (ds : List Value) (gg cap : Nat), ys = [x0, x1, x2, x3, x4, x5, x6, x7, x8, x9, x10, x11, x12, x13, x14, x15, x16, x17, x18, x19, x20] ∧ RJ V0 V1 V2 V3 V4 V5 V6 V7 V8 V9 V15 V16 B4 BJ m yb wr C3 C4 BX BY f x0 x1 x2 x3 x4 x5 x6 x7 x8 x9 x10 x11 x12 x13 x14 x15 x16 x17 x18 x19 x20 w3 w4 ds gg cap W
theorem RJ.mk_ {V0 V1 V2 V3 V4 V5 V6 V7 V8 V9 V15 V16 : Value} {B4 BJ : Bool} {m yb : Nat} {wr : World} {C3 : World → List Value → Prop} {C4 : World → World → List Value → Nat → Nat → Prop} {BX BY : World → Prop} {f : Nat → Bool} {x0 x1 x2 x3 x4 x5 x6 x7 x8 x9 x10 x11 x12 x13 x14 x15 x16 x17 x18 x19 x20 : Value} {w3 w4 : World} {ds : List Value} {gg cap : Nat} {W : World} (h : RJ V0 V1 V2 V3 V4 V5 V6 V7 V8 V9 V15 V16 B4 BJ m yb wr C3 C4 BX BY f x0 x1 x2 x3 x4 x5 x6 x7 x8 x9 x10 x11 x12 x13 x14 x15 x16 x17 x18 x19 x20 w3 w4 ds gg cap W) : RJx V0 V1 V2 V3 V4 V5 V6 V7 V8 V9 V15 V16 B4 BJ m yb wr C3 C4 BX BY f [x0, x1, x2, x3, x4, x5, x6, x7, x8, x9, x10, x11, x12, x13, x14, x15, x16, x17, x18, x19, x20] W :=
  ⟨x0, x1, x2, x3, x4, x5, x6, x7, x8, x9, x10, x11, x12, x13, x14, x15, x16, x17, x18, x19, x20, w3, w4, ds, gg, cap, rfl, h⟩
theorem lenR {xs : List Value} (h : xs.length = 21) : ∃ x0 x1 x2 x3 x4 x5 x6 x7 x8 x9 x10 x11 x12 x13 x14 x15 x16 x17 x18 x19 x20 : Value, xs = [x0, x1, x2, x3, x4, x5, x6, x7, x8, x9, x10, x11, x12, x13, x14, x15, x16, x17, x18, x19, x20] := by
  match xs, h with
  | [x0, x1, x2, x3, x4, x5, x6, x7, x8, x9, x10, x11, x12, x13, x14, x15, x16, x17, x18, x19, x20], _ => exact ⟨x0, x1, x2, x3, x4, x5, x6, x7, x8, x9, x10, x11, x12, x13, x14, x15, x16, x17, x18, x19, x20, rfl⟩

section
variable {P : Program} {ops : Array Oper} {Q : Exit → Act → World → Prop}
theorem wpOp_skip {i : Nat} {o : Oper} {K : Act → World → Prop} {a : Act} {w : World} (ho : ops[i]? = some o) (hg : Region.wanted o (yielded ops a.tmps) = false) (h : K (a.put o.dst undef) w) : wpOp P ops Q i K a w :=
  wpOp_step ho (fun K' hK => by rw [if_neg (by rw [hg]; decide)]; exact hK _ _ h)
theorem wpOp_want {i : Nat} {o : Oper} {K : Act → World → Prop} {a : Act} {w : World} (ho : ops[i]? = some o) (hg : Region.wanted o (yielded ops a.tmps) = true) (h : ∀ K' : Act → World → Prop, (∀ a w, K a w → K' a w) → Oper.wp P o a w K' Q) : wpOp P ops Q i K a w :=
  wpOp_step ho (fun K' hK => by rw [if_pos hg]; exact h K' hK)
end

end Go.Proofs.YthflahcnkhmpaabDoor
