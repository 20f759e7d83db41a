/-
  From the reading of an argument to the tree that lies in memory.
-/
import Derived.Test.YthflahcnkhmpaabDoorProg
import Derived.Test.YthflahcnkhmpaabDoorMore
import Derived.ChangeArms
import Derived.ChangeSame
import Derived.Deep.Slices
namespace Go.Proofs.YthflahcnkhmpaabDoor
open Go Go.RowKit Go.ChangeShapes Go.WideShapes Go.Deep
set_option linter.unusedSimpArgs false
set_option linter.unusedVariables false

theorem cells2 : Tryd.prog.cellsOf 24 = 2 := by kernel_rfl
theorem cells9 : Tryd.prog.cellsOf 9 = 1 := by kernel_rfl
theorem cells22 : Tryd.prog.cellsOf 22 = 1 := by kernel_rfl

instance : Inhabited Ty := ⟨.mk ⟨#[]⟩ []⟩
theorem spot_none {w : World} {a : Addr} {v : Value} (h : w.cell? a = some v) : a = ⟨a.block, a.off, none⟩ := by
  cases a with
  | mk b o s =>
    cases s with
    | none => rfl
    | some k => unfold World.cell? at h; simp at h; split at h <;> simp at h
theorem add_none (b o n : Nat) : Addr.add ⟨b, o, none⟩ n = ⟨b, o + n, none⟩ := by
  unfold Addr.add; split <;> simp [*]

section
variable {H : Type} {enc : TypeId × Value → H} {w : World} {spare : Nat → Bool} {held : Bool}
set_option maxRecDepth 100000 in
theorem ty_of_trod : ∀ (fuel : Nat) (cs : List Value) (x : DataW H × List MemPlace), DataW.trod enc Tryd.prog w 0 spare held fuel 24 cs = some x →
    ∃ t v0 v1, cs = [v0, v1] ∧ Ty.In w (Lo w) t v0 v1 := by
  intro fuel
  induction fuel using Nat.strongRecOn with
  | _ fuel ih =>
  intro cs x h
  obtain ⟨xs, n, hn, hx, hlen, hxl, hf⟩ := DataW.trod_struct Tryd.underlying24 h
  rw [cells2] at hlen
  match cs, hlen with
  | [v0, v1], _ =>
  match xs, hxl with
  | [y0, y1], _ =>
  have h0 : DataW.trod enc Tryd.prog w 0 spare held n 9 [v0] = some y0 := by simpa [cells9] using hf 0 _ rfl
  have h1 : DataW.trod enc Tryd.prog w 0 spare held n 22 [v1] = some y1 := by simpa [cells22] using hf 1 _ rfl
  obtain ⟨s, e0, _, hs⟩ := DataW.trod_string Tryd.underlying9 h0
  simp only [List.cons.injEq, and_true] at e0
  subst e0
  rcases DataW.trod_slice Tryd.underlying22 h1 with ⟨e1, _⟩ | ⟨a, len, cap, elems, rest, n', hn', e1, _, _, hlc, hcm, _, hel, _, _⟩
  · simp only [List.cons.injEq, and_true] at e1
    subst e1
    exact ⟨.mk s [], _, _, rfl, Ty.In.mk_ hs rfl (by omega) (by omega)⟩
  simp only [List.cons.injEq, and_true] at e1
  subst e1
  rw [cells2] at hel
  have hall : ∀ i, i < len → ∃ t v0 v1, w.cell? (a.add (i * 2)) = some v0 ∧ w.cell? (a.add (i * 2 + 1)) = some v1 ∧ Ty.In w (Lo w) t v0 v1 := by
    intro i hi
    have hb := hel i hi
    have hlt : i < elems.length := by omega
    rw [List.getElem?_eq_getElem hlt] at hb
    cases hc : w.cells? 0 (a.add (i * 2)) 2 with
    | none => rw [hc] at hb; simp at hb
    | some cs' =>
      rw [hc] at hb
      simp only [Option.bind_some] at hb
      obtain ⟨t, u0, u1, e, ht⟩ := ih n' (by omega) cs' _ hb
      subst e
      obtain ⟨_, _, hat⟩ := World.cells?_some hc
      have p0 := hat 0 (by omega)
      have p1 := hat 1 (by omega)
      rw [add_add] at p0 p1
      exact ⟨t, u0, u1, by simpa using p0, by simpa using p1, ht⟩
  obtain ⟨l, hl, hl2⟩ : ∃ l : List Ty, l.length = len ∧ ∀ i t, l[i]? = some t → ∃ v0 v1, w.cell? (a.add (i * 2)) = some v0 ∧ w.cell? (a.add (i * 2 + 1)) = some v1 ∧ Ty.In w (Lo w) t v0 v1 := by
    obtain ⟨f, hf⟩ := choose_lt hall
    refine ⟨(List.range len).map f, by simp, fun i t ht => ?_⟩
    obtain ⟨hi, rfl⟩ : i < len ∧ f i = t := by
      rw [List.getElem?_map] at ht
      rcases Nat.lt_or_ge i len with h | h
      · rw [List.getElem?_range h] at ht
        exact ⟨h, by simpa using ht⟩
      · rw [List.getElem?_eq_none (by simpa using h)] at ht
        simp at ht
    exact hf i hi
  refine ⟨.mk s l, _, _, rfl, Ty.In.mk_ hs hl (by omega) fun hpos => ?_⟩
  obtain ⟨t, u0, u1, p0, p1, _⟩ := hall 0 hpos
  have hp : w.cell? a = some u0 := by simpa [Addr.add] using p0
  have ha := spot_none hp
  refine ⟨a.block, a.off, by rw [← ha], World.block_lt_of_cell? w _ hp, Ty.Ins_of fun k t hk => ?_⟩
  obtain ⟨u0, u1, q0, q1, q2⟩ := hl2 k t hk
  rw [ha, add_none] at q0 q1
  exact ⟨u0, u1, q0, by rw [← q1, Nat.add_assoc], q2⟩
end

end Go.Proofs.YthflahcnkhmpaabDoor
