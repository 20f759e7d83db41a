/-
  The reference's binder: the walk.
-/
import Derived.Test.YthflahcnkhmpaaaDoorProg
import Derived.Test.YthflahcnkhmpaaaDoorOwnSet
import Derived.Test.YthflahcnkhmpaaaDoorRowsB
namespace Go.Proofs.YthflahcnkhmpaaaDoor
open Go Go.RowKit
set_option linter.unusedSimpArgs false
set_option linter.unusedVariables false

/-- The cells of row k. -/
theorem row_cells {w : World} {S : Nat → Prop} {base n g cap k : Nat} {T : TypeId} {rs : List RRow} {r : RRow} (h : rowRep.Own T base w S (.slice (some ⟨g, 0, none⟩) n cap) rs) (hk : rs[k]? = some r) :
    ∃ u0 u1, Ty.In w S r.ty u0 u1 ∧ w.cell? ⟨g, k * 7, none⟩ = some (.int .i64 r.kind) ∧ w.cell? ⟨g, k * 7 + 1, none⟩ = some (.string r.nm) ∧ w.cell? ⟨g, k * 7 + 2, none⟩ = some u0 ∧ w.cell? ⟨g, k * 7 + 3, none⟩ = some u1 ∧
      w.cell? ⟨g, k * 7 + 4, none⟩ = some (.int .i64 r.ix) ∧ w.cell? ⟨g, k * 7 + 5, none⟩ = some r.kv ∧ w.cell? ⟨g, k * 7 + 6, none⟩ = some (.int .i64 r.up) := by
  obtain ⟨xs, h1, h2⟩ := h
  obtain ⟨cs, ⟨u0, u1, rfl, _, h4, _⟩, h5⟩ := h2.at_ hk
  have hc : ∀ q u, xs[q]? = some u → w.cell? ⟨g, q, none⟩ = some u := fun q u hu => by
    have := h1.cells (g := g) rfl q u hu; rw [addr_none] at this; simpa using this
  exact ⟨u0, u1, h4.mono (fun b hb => hb.1), hc _ _ (h5 0 _ rfl), hc _ _ (h5 1 _ rfl), hc _ _ (h5 2 _ rfl), hc _ _ (h5 3 _ rfl), hc _ _ (h5 4 _ rfl), hc _ _ (h5 5 _ rfl), hc _ _ (h5 6 _ rfl)⟩

/-- Upwards to the j-th abstraction. -/
theorem UpCtx.step {L : List TRow} {at_ : Int} {c : List Sy} {j : Nat} {s : Sy} (h : UpCtx L at_ c) (hj : c[j]? = some s) :
    ∃ (k : Nat) (r : TRow), at_ = k ∧ L[k]? = some r ∧ r.up < k ∧ ((r.kind = 3 ∧ j = 0 ∧ r.ty = s.ty) ∨ (r.kind = 3 ∧ ∃ i c', j = i + 1 ∧ UpCtx L r.up c' ∧ c'[i]? = some s) ∨ (r.kind ≠ 3 ∧ UpCtx L r.up c)) := by
  cases h with
  | nil => simp at hj
  | abs h1 h2 h3 h4 h5 =>
    rename_i k r s' c'
    refine ⟨k, r, rfl, h1, h4, ?_⟩
    cases j with
    | zero => exact Or.inl ⟨h2, rfl, by simp at hj; rw [h3, hj]⟩
    | succ i => exact Or.inr (Or.inl ⟨h2, i, c', rfl, h5, by simpa using hj⟩)
  | other h1 h2 h3 h4 =>
    rename_i k r
    exact ⟨k, r, rfl, h1, h3, Or.inr (Or.inr ⟨h2, h4⟩)⟩

set_option maxRecDepth 100000 in
set_option maxHeartbeats 4000000 in
theorem binder_any (rs : List RRow) (R : List TRow) (K : Nat → Prop) (S : Nat → Prop) (base g n cap k : Nat) (j : Nat) (r : TRow) (c : List Sy) (s : Sy) (w : World) (hown : rowRep.Own 87 base w S (.slice (some ⟨g, 0, none⟩) n cap) rs)
    (hm : RowsM K w rs R) (hn : rs.length = n) (hk : R[k]? = some r) (hix : r.ix = j) (hj1 : j ≤ 1000000) (hn1 : n ≤ 1000000) (hu : UpCtx R r.up c) (hj : c[j]? = some s) :
    Calls Tryd.prog 60 #[.slice (some ⟨g, 0, none⟩) n cap, .int .i64 k] w fun e w' => ∃ p q : _, e = .returned (.int .i64 ((p : Nat) : Int)) ∧ R[p]? = some q ∧ q.ty = s.ty ∧ Below w.heap.size w w' := by
  have hlen := hm.len
  obtain ⟨r', hr', hm'⟩ := hm.at_ hk
  obtain ⟨u0, u1, _, c0, c1, c2, c3, c4, c5, c6⟩ := row_cells hown hr'
  have hkl : k < rs.length := (List.getElem?_eq_some_iff.1 hr').1
  have e4 := hm'.ix
  have e6 := hm'.up
  rw [hix] at e4
  have hgl : g < w.heap.size := (hown.block g rfl).2
  have q0 : (0 : Int) ≤ (k : Int) := by omega
  have q1 : (k : Int) < (n : Int) := by omega
  rw [e4] at c4
  rw [e6] at c6
  have hu' := hu
  clear hu hix hk hm' e4 e6 hr'
  have HOWN := Lib.hid hown
  have HM := Lib.hid hm
  have HUP := Lib.hid hu'
  have HJ := Lib.hid hj
  clear hown hm hu' hj
  go_enter Tryd.func60, Tryd.ntmps60
  go_wp2_with fail
  clear c0 c1 c2 c3 c4 c5 c6
  go_loopg [5, 6] n (fun m v5 v6 wr => wr = w ∧ ∃ (a : Nat) (i : Nat) (c' : List Sy), v5 = .int .i64 i ∧ v6 = .int .i64 a ∧ UpCtx R a c' ∧ c'[i]? = some s ∧ i ≤ j ∧ a < m)
  case atStart =>
    obtain ⟨a, q, e1, e2, e3, _⟩ := HUP.out.step HJ.out
    have hal := (List.getElem?_eq_some_iff.1 e2).1
    refine ⟨rfl, a, j, c, rfl, by rw [e1], by rw [← e1]; exact HUP.out, HJ.out, Nat.le_refl _, by omega⟩
  case round =>
    obtain ⟨rfl, a, i, c', rfl, rfl, hu1, hj', hij, ham⟩ := hrel
    obtain ⟨a', q, e1, e2, e3, h4⟩ := hu1.step hj'
    obtain rfl : a = a' := by omega
    obtain ⟨r', hr', hm'⟩ := HM.out.at_ e2
    obtain ⟨u0, u1, _, c0, c1, c2, c3, c4, c5, c6⟩ := row_cells HOWN.out hr'
    have hal : a < rs.length := (List.getElem?_eq_some_iff.1 hr').1
    rw [hm'.kind] at c0
    rw [hm'.up] at c6
    have p0 : (0 : Int) ≤ (a : Int) := by omega
    have p1 : (a : Int) < (n : Int) := by omega
    have HE2 := Lib.hid e2
    have HU1 := Lib.hid hu1
    have HJP := Lib.hid hj'
    clear e2 hr' hm' hu1 hj' e1
    rcases h4 with ⟨h5, h6, h7⟩ | ⟨h5, i', c'', h6, h7, h8⟩ | ⟨h5, h6⟩
    · have t3 : (q.kind == 3) = true := by rw [h5]; rfl
      subst h6
      have H7 := Lib.hid h7
      clear h5 h7
      go_wp2_with fail
      go_returns
      exact ⟨a, q, rfl, HE2.out, H7.out, Below.refl _ _⟩
    · have t3 : (q.kind == 3) = true := by rw [h5]; rfl
      subst h6
      have t4 : (((i' + 1 : Nat) : Int) == 0) = false := beq_eq_false_iff_ne.2 (by omega)
      have t5 : ((i' + 1 : Nat) : Int) - 1 = (i' : Int) := by omega
      obtain ⟨a2, q2, e1, _, _, _⟩ := h7.step h8
      rw [e1] at c6 h7 e3
      have H7 := Lib.hid h7
      have H8 := Lib.hid h8
      clear h5 h7 h8 e1
      go_wp2_with fail
      go_roundg a
      case measure => omega
      case rel => exact ⟨rfl, a2, i', c'', by first | rfl | (rw [t5]) | (congr 1; omega), rfl, H7.out, H8.out, by omega, by omega⟩
    · have t3 : (q.kind == 3) = false := beq_eq_false_iff_ne.2 h5
      obtain ⟨a2, q2, e1, _, _, _⟩ := h6.step HJP.out
      rw [e1] at c6 h6 e3
      have H6 := Lib.hid h6
      clear h5 h6 e1
      go_wp2_with fail
      go_roundg a
      case measure => omega
      case rel => exact ⟨rfl, a2, i, c', rfl, rfl, H6.out, HJP.out, by omega, by omega⟩

end Go.Proofs.YthflahcnkhmpaaaDoor
