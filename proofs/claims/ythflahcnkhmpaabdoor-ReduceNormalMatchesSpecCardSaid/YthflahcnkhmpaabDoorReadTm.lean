/-
  From the reading of an argument to the term that lies in memory.
-/
import Derived.Test.YthflahcnkhmpaabDoorRead
import Derived.Test.YthflahcnkhmpaabDoorTerm
namespace Go.Proofs.YthflahcnkhmpaabDoor
open Go Go.RowKit Go.ChangeShapes Go.WideShapes Go.Deep
set_option linter.unusedSimpArgs false
set_option linter.unusedVariables false

section
variable {H : Type} {enc : TypeId × Value → H} {w : World} {spare : Nat → Bool} {held : Bool}

/-- A slice whose elements are read as things of a kind: the list of these. -/
theorem sl_of_trod {α : Type} {ρ : Rep α} {E T : TypeId} (hc : Tryd.prog.cellsOf E = ρ.size) (ht : Tryd.prog.underlying T = some (.slice E)) {fuel : Nat} {v : Value} {x : DataW H × List MemPlace}
    (hE : ∀ n, n < fuel → ∀ (cs : List Value) (y : DataW H × List MemPlace), DataW.trod enc Tryd.prog w 0 spare held n E cs = some y → ∃ a, ρ.R w (Lo w) a cs)
    (h : DataW.trod enc Tryd.prog w 0 spare held fuel T [v] = some x) : ∃ l, ρ.Sl w (Lo w) v l := by
  rcases DataW.trod_slice ht h with ⟨e1, _⟩ | ⟨a, len, cap, elems, rest, n', hn', e1, _, _, hlc, hcm, _, hel, _, _⟩
  · simp only [List.cons.injEq, and_true] at e1
    subst e1
    exact ⟨[], Rep.Sl.nil⟩
  simp only [List.cons.injEq, and_true] at e1
  subst e1
  rw [hc] at hel
  have hall : ∀ i, i < len → ∃ (t : α) (cs : List Value), ρ.R w (Lo w) t cs ∧ ∀ j u, cs[j]? = some u → w.cell? (a.add (i * ρ.size + j)) = some u := by
    intro i hi
    have hb := hel i hi
    have hlt : i < elems.length := by omega
    rw [List.getElem?_eq_getElem hlt] at hb
    cases hcs : w.cells? 0 (a.add (i * ρ.size)) ρ.size with
    | none => rw [hcs] at hb; simp at hb
    | some cs' =>
      rw [hcs] at hb
      simp only [Option.bind_some] at hb
      obtain ⟨t, ht⟩ := hE n' (by omega) cs' _ hb
      obtain ⟨_, _, hat⟩ := World.cells?_some hcs
      refine ⟨t, cs', ht, fun j u hj => ?_⟩
      have hjl : j < cs'.length := (List.getElem?_eq_some_iff.1 hj).1
      have p := hat j (by rw [ρ.len ht] at hjl; exact hjl)
      rw [add_add] at p
      rw [p]; exact hj
  have key : ∀ m, m ≤ len → ∃ (l : List α) (xs : List Value), l.length = m ∧ ρ.All w (Lo w) l xs ∧ ∀ j u, xs[j]? = some u → w.cell? (a.add j) = some u := by
    intro m
    induction m with
    | zero => intro _; exact ⟨[], [], rfl, rfl, by simp⟩
    | succ m ih =>
      intro hm
      obtain ⟨l, xs, h1, h2, h3⟩ := ih (by omega)
      obtain ⟨t, cs, h4, h5⟩ := hall m (by omega)
      refine ⟨l ++ [t], xs ++ cs, by simp [h1], h2.append (Rep.All.single h4), fun j u hj => ?_⟩
      have hx : xs.length = m * ρ.size := by rw [h2.len, h1]
      by_cases hlt : j < xs.length
      · rw [List.getElem?_append_left hlt] at hj; exact h3 j u hj
      · rw [List.getElem?_append_right (by omega)] at hj
        have := h5 _ u hj
        rw [show m * ρ.size + (j - xs.length) = j by omega] at this
        exact this
  obtain ⟨l, xs, h1, h2, h3⟩ := key len (Nat.le_refl _)
  refine ⟨l, _, len, cap, rfl, h1, by omega, fun hp => ?_⟩
  have hxl : 0 < xs.length := by rw [h2.len, h1]; exact Nat.mul_pos hp ρ.pos
  have hp0 : w.cell? a = some xs[0] := by have := h3 0 _ (List.getElem?_eq_getElem hxl); simpa [Addr.add] using this
  have ha := spot_none hp0
  refine ⟨a.block, a.off, xs, by rw [← ha], World.block_lt_of_cell? w _ hp0, h2, fun j u hj => ?_⟩
  have := h3 j u hj
  rw [ha, add_none] at this
  exact this

theorem cells49 : Tryd.prog.cellsOf 27 = 6 := by kernel_rfl
theorem cellsI : Tryd.prog.cellsOf 3 = 1 := by kernel_rfl
theorem cells47 : Tryd.prog.cellsOf 25 = 1 := by kernel_rfl

set_option maxRecDepth 100000 in
theorem tm_of_trod : ∀ (fuel : Nat) (cs : List Value) (x : DataW H × List MemPlace), DataW.trod enc Tryd.prog w 0 spare held fuel 27 cs = some x → ∃ t, tmRep.R w (Lo w) t cs := by
  intro fuel
  induction fuel using Nat.strongRecOn with
  | _ fuel ih =>
  intro cs x h
  obtain ⟨xs, n, hn, hx, hlen, hxl, hf⟩ := DataW.trod_struct Tryd.underlying27 h
  rw [cells49] at hlen
  match cs, hlen with
  | [v0, v1, v2, v3, v4, v5], _ =>
  match xs, hxl with
  | [y0, y1, y2, y3, y4], _ =>
  have h0 : DataW.trod enc Tryd.prog w 0 spare held n 3 [v0] = some y0 := by simpa [cellsI] using hf 0 _ rfl
  have h1 : DataW.trod enc Tryd.prog w 0 spare held n 9 [v1] = some y1 := by simpa [cells9] using hf 1 _ rfl
  have h2 : DataW.trod enc Tryd.prog w 0 spare held n 3 [v2] = some y2 := by simpa [cellsI] using hf 2 _ rfl
  have h3 : DataW.trod enc Tryd.prog w 0 spare held n 24 [v3, v4] = some y3 := by simpa [cells2] using hf 3 _ rfl
  have h4 : DataW.trod enc Tryd.prog w 0 spare held n 25 [v5] = some y4 := by simpa [cells47] using hf 4 _ rfl
  obtain ⟨k, e0, _, _⟩ := DataW.trod_int Tryd.underlying3 h0
  obtain ⟨s, e1, _, hs⟩ := DataW.trod_string Tryd.underlying9 h1
  obtain ⟨i, e2, _, _⟩ := DataW.trod_int Tryd.underlying3 h2
  obtain ⟨ty, u0, u1, e3, hty⟩ := ty_of_trod n _ _ h3
  simp only [List.cons.injEq, and_true] at e0 e1 e2 e3
  obtain ⟨rfl, rfl⟩ := e3
  subst e0 e1 e2
  obtain ⟨l, hl⟩ := sl_of_trod (ρ := tmRep) cells49 Tryd.underlying25 (fun m hm cs y hy => ih m (by omega) cs y hy) h4
  exact ⟨.mk ⟨k, s, i, ty⟩ l, Tm.shut (a := ⟨k, s, i, ty⟩) hs hty hl⟩
end

end Go.Proofs.YthflahcnkhmpaabDoor
