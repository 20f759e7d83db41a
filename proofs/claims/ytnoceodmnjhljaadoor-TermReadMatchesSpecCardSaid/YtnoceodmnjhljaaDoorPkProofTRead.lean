/-
  The statement TermReadMatchesSpecCardSaid is proved: whatever its arguments, the law TermReadMatchesSpec returns true, and they read afterwards as before.
  Conditions: those of the given row alone (the listed variables are laid as the program's text lays them; the card ties that).
-/
import Derived.Test.YtnoceodmnjhljaaDoorProg
import Derived.Test.YtnoceodmnjhljaaDoorMore
import Derived.ChangeArms
import Derived.ChangeSame
import Derived.Deep.Slices
import Derived.Test.YtnoceodmnjhljaaDoorTerm
import Derived.Test.YtnoceodmnjhljaaDoorRows
import Derived.ProofKit
import Derived.LaidMore
import Derived.OpenShut
import Derived.Stop.Joined
import Derived.Test.YtnoceodmnjhljaaDoorTie
import Derived.Test.YtnoceodmnjhljaaDoorCards
import Derived.Test.YtnoceodmnjhljaaDoorPkTRead
import Derived.SevenTiedAt
namespace Go.Proofs.YtnoceodmnjhljaaDoor

section
open Go Go.RowKit Go.ChangeShapes Go.WideShapes Go.Deep
set_option linter.unusedSimpArgs false
set_option linter.unusedVariables false

theorem cells2 : Tryd.prog.cellsOf 24 = 2 := by kernel_rfl
theorem cells9 : Tryd.prog.cellsOf 9 = 1 := by kernel_rfl
theorem cells22 : Tryd.prog.cellsOf 22 = 1 := by kernel_rfl

instance : Inhabited Ty := ⟨.mk ⟨#[]⟩ []⟩
theorem spot_none {w : World} {a : Addr} {v : Value} (h : w.cell? a = some v) : a = ⟨a.block, a.off, none⟩ := by
  cases a with
  | mk b o s =>
    cases s with
    | none => rfl
    | some k => unfold World.cell? at h; simp at h; split at h <;> simp at h
theorem add_none (b o n : Nat) : Addr.add ⟨b, o, none⟩ n = ⟨b, o + n, none⟩ := by
  unfold Addr.add; split <;> simp [*]

section
variable {H : Type} {enc : TypeId × Value → H} {w : World} {spare : Nat → Bool} {held : Bool}
set_option maxRecDepth 100000 in
theorem ty_of_trod : ∀ (fuel : Nat) (cs : List Value) (x : DataW H × List MemPlace), DataW.trod enc Tryd.prog w 0 spare held fuel 24 cs = some x →
    ∃ t v0 v1, cs = [v0, v1] ∧ Ty.In w (Lo w) t v0 v1 := by
  intro fuel
  induction fuel using Nat.strongRecOn with
  | _ fuel ih =>
  intro cs x h
  obtain ⟨xs, n, hn, hx, hlen, hxl, hf⟩ := DataW.trod_struct Tryd.underlying24 h
  rw [cells2] at hlen
  match cs, hlen with
  | [v0, v1], _ =>
  match xs, hxl with
  | [y0, y1], _ =>
  have h0 : DataW.trod enc Tryd.prog w 0 spare held n 9 [v0] = some y0 := by simpa [cells9] using hf 0 _ rfl
  have h1 : DataW.trod enc Tryd.prog w 0 spare held n 22 [v1] = some y1 := by simpa [cells22] using hf 1 _ rfl
  obtain ⟨s, e0, _, hs⟩ := DataW.trod_string Tryd.underlying9 h0
  simp only [List.cons.injEq, and_true] at e0
  subst e0
  rcases DataW.trod_slice Tryd.underlying22 h1 with ⟨e1, _⟩ | ⟨a, len, cap, elems, rest, n', hn', e1, _, _, hlc, hcm, _, hel, _, _⟩
  · simp only [List.cons.injEq, and_true] at e1
    subst e1
    exact ⟨.mk s [], _, _, rfl, Ty.In.mk_ hs rfl (by omega) (by omega)⟩
  simp only [List.cons.injEq, and_true] at e1
  subst e1
  rw [cells2] at hel
  have hall : ∀ i, i < len → ∃ t v0 v1, w.cell? (a.add (i * 2)) = some v0 ∧ w.cell? (a.add (i * 2 + 1)) = some v1 ∧ Ty.In w (Lo w) t v0 v1 := by
    intro i hi
    have hb := hel i hi
    have hlt : i < elems.length := by omega
    rw [List.getElem?_eq_getElem hlt] at hb
    cases hc : w.cells? 0 (a.add (i * 2)) 2 with
    | none => rw [hc] at hb; simp at hb
    | some cs' =>
      rw [hc] at hb
      simp only [Option.bind_some] at hb
      obtain ⟨t, u0, u1, e, ht⟩ := ih n' (by omega) cs' _ hb
      subst e
      obtain ⟨_, _, hat⟩ := World.cells?_some hc
      have p0 := hat 0 (by omega)
      have p1 := hat 1 (by omega)
      rw [add_add] at p0 p1
      exact ⟨t, u0, u1, by simpa using p0, by simpa using p1, ht⟩
  obtain ⟨l, hl, hl2⟩ : ∃ l : List Ty, l.length = len ∧ ∀ i t, l[i]? = some t → ∃ v0 v1, w.cell? (a.add (i * 2)) = some v0 ∧ w.cell? (a.add (i * 2 + 1)) = some v1 ∧ Ty.In w (Lo w) t v0 v1 := by
    obtain ⟨f, hf⟩ := choose_lt hall
    refine ⟨(List.range len).map f, by simp, fun i t ht => ?_⟩
    obtain ⟨hi, rfl⟩ : i < len ∧ f i = t := by
      rw [List.getElem?_map] at ht
      rcases Nat.lt_or_ge i len with h | h
      · rw [List.getElem?_range h] at ht
        exact ⟨h, by simpa using ht⟩
      · rw [List.getElem?_eq_none (by simpa using h)] at ht
        simp at ht
    exact hf i hi
  refine ⟨.mk s l, _, _, rfl, Ty.In.mk_ hs hl (by omega) fun hpos => ?_⟩
  obtain ⟨t, u0, u1, p0, p1, _⟩ := hall 0 hpos
  have hp : w.cell? a = some u0 := by simpa [Addr.add] using p0
  have ha := spot_none hp
  refine ⟨a.block, a.off, by rw [← ha], World.block_lt_of_cell? w _ hp, Ty.Ins_of fun k t hk => ?_⟩
  obtain ⟨u0, u1, q0, q1, q2⟩ := hl2 k t hk
  rw [ha, add_none] at q0 q1
  exact ⟨u0, u1, q0, by rw [← q1, Nat.add_assoc], q2⟩
end

open Go Go.RowKit Go.ChangeShapes Go.WideShapes Go.Deep

section
variable {H : Type} {enc : TypeId × Value → H} {w : World} {spare : Nat → Bool} {held : Bool}

/-- A slice whose elements are read as things of a kind: the list of these. -/
theorem sl_of_trod {α : Type} {ρ : Rep α} {E T : TypeId} (hc : Tryd.prog.cellsOf E = ρ.size) (ht : Tryd.prog.underlying T = some (.slice E)) {fuel : Nat} {v : Value} {x : DataW H × List MemPlace}
    (hE : ∀ n, n < fuel → ∀ (cs : List Value) (y : DataW H × List MemPlace), DataW.trod enc Tryd.prog w 0 spare held n E cs = some y → ∃ a, ρ.R w (Lo w) a cs)
    (h : DataW.trod enc Tryd.prog w 0 spare held fuel T [v] = some x) : ∃ l, ρ.Sl w (Lo w) v l := by
  rcases DataW.trod_slice ht h with ⟨e1, _⟩ | ⟨a, len, cap, elems, rest, n', hn', e1, _, _, hlc, hcm, _, hel, _, _⟩
  · simp only [List.cons.injEq, and_true] at e1
    subst e1
    exact ⟨[], Rep.Sl.nil⟩
  simp only [List.cons.injEq, and_true] at e1
  subst e1
  rw [hc] at hel
  have hall : ∀ i, i < len → ∃ (t : α) (cs : List Value), ρ.R w (Lo w) t cs ∧ ∀ j u, cs[j]? = some u → w.cell? (a.add (i * ρ.size + j)) = some u := by
    intro i hi
    have hb := hel i hi
    have hlt : i < elems.length := by omega
    rw [List.getElem?_eq_getElem hlt] at hb
    cases hcs : w.cells? 0 (a.add (i * ρ.size)) ρ.size with
    | none => rw [hcs] at hb; simp at hb
    | some cs' =>
      rw [hcs] at hb
      simp only [Option.bind_some] at hb
      obtain ⟨t, ht⟩ := hE n' (by omega) cs' _ hb
      obtain ⟨_, _, hat⟩ := World.cells?_some hcs
      refine ⟨t, cs', ht, fun j u hj => ?_⟩
      have hjl : j < cs'.length := (List.getElem?_eq_some_iff.1 hj).1
      have p := hat j (by rw [ρ.len ht] at hjl; exact hjl)
      rw [add_add] at p
      rw [p]; exact hj
  have key : ∀ m, m ≤ len → ∃ (l : List α) (xs : List Value), l.length = m ∧ ρ.All w (Lo w) l xs ∧ ∀ j u, xs[j]? = some u → w.cell? (a.add j) = some u := by
    intro m
    induction m with
    | zero => intro _; exact ⟨[], [], rfl, rfl, by simp⟩
    | succ m ih =>
      intro hm
      obtain ⟨l, xs, h1, h2, h3⟩ := ih (by omega)
      obtain ⟨t, cs, h4, h5⟩ := hall m (by omega)
      refine ⟨l ++ [t], xs ++ cs, by simp [h1], h2.append (Rep.All.single h4), fun j u hj => ?_⟩
      have hx : xs.length = m * ρ.size := by rw [h2.len, h1]
      by_cases hlt : j < xs.length
      · rw [List.getElem?_append_left hlt] at hj; exact h3 j u hj
      · rw [List.getElem?_append_right (by omega)] at hj
        have := h5 _ u hj
        rw [show m * ρ.size + (j - xs.length) = j by omega] at this
        exact this
  obtain ⟨l, xs, h1, h2, h3⟩ := key len (Nat.le_refl _)
  refine ⟨l, _, len, cap, rfl, h1, by omega, fun hp => ?_⟩
  have hxl : 0 < xs.length := by rw [h2.len, h1]; exact Nat.mul_pos hp ρ.pos
  have hp0 : w.cell? a = some xs[0] := by have := h3 0 _ (List.getElem?_eq_getElem hxl); simpa [Addr.add] using this
  have ha := spot_none hp0
  refine ⟨a.block, a.off, xs, by rw [← ha], World.block_lt_of_cell? w _ hp0, h2, fun j u hj => ?_⟩
  have := h3 j u hj
  rw [ha, add_none] at this
  exact this

theorem cells49 : Tryd.prog.cellsOf 27 = 6 := by kernel_rfl
theorem cellsI : Tryd.prog.cellsOf 3 = 1 := by kernel_rfl
theorem cells47 : Tryd.prog.cellsOf 25 = 1 := by kernel_rfl

set_option maxRecDepth 100000 in
theorem tm_of_trod : ∀ (fuel : Nat) (cs : List Value) (x : DataW H × List MemPlace), DataW.trod enc Tryd.prog w 0 spare held fuel 27 cs = some x → ∃ t, tmRep.R w (Lo w) t cs := by
  intro fuel
  induction fuel using Nat.strongRecOn with
  | _ fuel ih =>
  intro cs x h
  obtain ⟨xs, n, hn, hx, hlen, hxl, hf⟩ := DataW.trod_struct Tryd.underlying27 h
  rw [cells49] at hlen
  match cs, hlen with
  | [v0, v1, v2, v3, v4, v5], _ =>
  match xs, hxl with
  | [y0, y1, y2, y3, y4], _ =>
  have h0 : DataW.trod enc Tryd.prog w 0 spare held n 3 [v0] = some y0 := by simpa [cellsI] using hf 0 _ rfl
  have h1 : DataW.trod enc Tryd.prog w 0 spare held n 9 [v1] = some y1 := by simpa [cells9] using hf 1 _ rfl
  have h2 : DataW.trod enc Tryd.prog w 0 spare held n 3 [v2] = some y2 := by simpa [cellsI] using hf 2 _ rfl
  have h3 : DataW.trod enc Tryd.prog w 0 spare held n 24 [v3, v4] = some y3 := by simpa [cells2] using hf 3 _ rfl
  have h4 : DataW.trod enc Tryd.prog w 0 spare held n 25 [v5] = some y4 := by simpa [cells47] using hf 4 _ rfl
  obtain ⟨k, e0, _, _⟩ := DataW.trod_int Tryd.underlying3 h0
  obtain ⟨s, e1, _, hs⟩ := DataW.trod_string Tryd.underlying9 h1
  obtain ⟨i, e2, _, _⟩ := DataW.trod_int Tryd.underlying3 h2
  obtain ⟨ty, u0, u1, e3, hty⟩ := ty_of_trod n _ _ h3
  simp only [List.cons.injEq, and_true] at e0 e1 e2 e3
  obtain ⟨rfl, rfl⟩ := e3
  subst e0 e1 e2
  obtain ⟨l, hl⟩ := sl_of_trod (ρ := tmRep) cells49 Tryd.underlying25 (fun m hm cs y hy => ih m (by omega) cs y hy) h4
  exact ⟨.mk ⟨k, s, i, ty⟩ l, Tm.shut (a := ⟨k, s, i, ty⟩) hs hty hl⟩
end

open Go.ChangeShapes Go.WideShapes Go.ChangeAt Go.WideMaps Go.WideElems Go.RowKit

theorem ownKnobNone : ownKnob Tryd.prog.godebug = none := by kernel_rfl
theorem laidOutAll : laidOutB Tryd.prog = true := by kernel_rfl
theorem gNone : Tryd.prog.globalNamed "glosswright/glosswrightlaw1.none" = some 0 := by kernel_rfl
theorem tNone : (Tryd.prog.globals[0]?).map (·.type) = some 29 := by kernel_rfl
theorem cellsFault : Tryd.prog.cellsOf 29 = 2 := by kernel_rfl
theorem cellsInt : Tryd.prog.cellsOf 3 = 1 := by kernel_rfl

def laidNone {H : Type} : List (String × DataW H) := [("glosswright/glosswrightlaw1.none", Rows.laid_glosswright_glosswrightlaw1_none)]

theorem door_met (os : Os) (args : Array Value) : laidMetH Tryd.prog laidNone ((World.doorLaid Tryd.prog 400 os).forCall (fun _ _ => 0) ⟨#[], args, []⟩).memory :=
  laidMetH_of_parts3 (fuel := 8) (laidMet_of_run' 8 (by kernel_rfl) (by kernel_rfl)) (by kernel_rfl) (by kernel_rfl)

set_option maxRecDepth 100000 in
theorem of_laid {W : World} (h : laidMetH Tryd.prog laidNone W) : W.cell? ⟨0, 0, none⟩ = some (.int .i64 0) ∧ W.cell? ⟨0, 1, none⟩ = some (.int .i64 0) := by
  rw [MakeChecks.laidMetH_plain _ _ _ (by kernel_rfl)] at h
  obtain ⟨ps, ⟨g0, t0, cs0, f0, p0, q0, hg0, ht0, hv0, hd0, _, _⟩, _, _⟩ := h
  obtain rfl := Option.some.inj (gNone.symm.trans hg0)
  obtain rfl := Option.some.inj (tNone.symm.trans ht0)
  obtain ⟨xs, n, hn, hx, hlen, hxl, hf⟩ := DataW.trod_struct Tryd.underlying29 hd0
  rw [cellsFault] at hlen
  obtain ⟨l⟩ := cs0
  match l, hlen with
  | [c0, c1], _ =>
  match xs, hxl with
  | [y0, y1], _ =>
  have h0 : DataW.trod (fun _ => ()) Tryd.prog W 0 (fun _ => true) false n 3 [c0] = some y0 := by simpa [cellsInt] using hf 0 _ rfl
  have h1 : DataW.trod (fun _ => ()) Tryd.prog W 0 (fun _ => true) false n 3 [c1] = some y1 := by simpa [cellsInt] using hf 1 _ rfl
  obtain ⟨k0, e0, e0', _⟩ := DataW.trod_int Tryd.underlying3 h0
  obtain ⟨k1, e1, e1', _⟩ := DataW.trod_int Tryd.underlying3 h1
  simp only [List.cons.injEq, and_true] at e0 e1
  subst e0 e1
  simp only [Prod.mk.injEq] at hx
  have hx1 := hx.1
  rw [e0', e1'] at hx1
  simp [laidNone, Rows.laid_glosswright_glosswrightlaw1_none] at hx1
  obtain ⟨rfl, rfl⟩ := hx1
  exact ⟨by simpa using World.var?_cell hg0 hv0 0, by simpa using World.var?_cell hg0 hv0 1⟩
end

section
open Go.ChangeShapes Go.WideShapes Go.ChangeAt Go.WideMaps Go.WideElems Go.RowKit
set_option linter.unusedSimpArgs false
set_option linter.unusedVariables false

set_option maxRecDepth 100000 in
theorem termReadMatchesSpec_lifted (os : Os) (started : os.Started) (H : Type) (enc : TypeId × Value → H) :
    ReturnsInHanded {} Tryd.checked os 3 .any
      (fun w args => (Rows.termReadMatchesSpecSpec.pre enc Tryd.prog Tryd.f3 [] false w args ∧ laidMetH Tryd.prog laidNone w) ∧ sizedMet enc Tryd.prog Tryd.f3 (OpenSpec.ofChange Rows.termReadMatchesSpecSpec) false w args)
      (Rows.termReadMatchesSpecSpec.post enc Tryd.prog Tryd.f3 false true false false) := by
  refine returnsInHanded_of_change_and (C := Tryd.checked) (X := fun w _ => laidMetH Tryd.prog laidNone w) (fun _ _ _ hh h => h.of_heap hh) ownKnobNone started (by kernel_rfl) Tryd.func3
    (ChangeSpec.witness_shaped (enc := enc) (C := Tryd.checked) (os := os) (X := fun w _ => laidMetH Tryd.prog laidNone w) false (World.doorLaid Tryd.prog 400 os) #[.string ⟨#[]⟩] 8 rfl (World.shaped_of_RefB (by kernel_rfl) (by kernel_rfl)) (by kernel_rfl) (by kernel_rfl) (by kernel_rfl) (door_met os _)) ?_
  intro W base args ds gs before hval0 hW _ _ hL _
  have hval : ∀ (j : Nat) t v, Tryd.f3.params[j]? = some t → args[j]? = some v → Value.okWide Tryd.prog W .any base t v := hval0
  have hW' := hW
  obtain ⟨p, q, hA0, hV, rfl, hfz, hnd⟩ := hW
  have hA : DataW.TrodAll enc Tryd.prog W 0 (fun _ => true) true Tryd.f3.params.toList args.toList ds p := hA0
  rw [Tryd.params3] at hA hval
  obtain ⟨v0, d0, rfl, rfl, h0⟩ := trodAll_one hA
  obtain ⟨rfl, rfl⟩ := trodVars_none hV
  obtain ⟨s0, rfl, rfl, rfl, hs0⟩ := ChangeMaps.open_string Tryd.underlying9 (hval 0 9 v0 rfl rfl) h0
  obtain ⟨g0, g1⟩ := of_laid hL
  clear hA0 hval0
  simp only [List.append_nil] at hW'
  refine (treadLaw_any s0 W hs0 g0 g1).mono fun e W' ⟨he, hnx⟩ => ?_
  subst he
  refine ⟨_, rfl, _, _, _, [], [], [], hW', trodAll_mk1 (shut_bool Tryd.underlying4 _), ?_, rfl, hnx.frame _, fun h => by cases h⟩
  exact trodAll_mk1 (ChangeMaps.shut_string Tryd.underlying9 hs0)

theorem termReadMatchesSpec_row : Rows.TermReadMatchesSpecSaid :=
  OpenClaim.holds_of_wide 3 Tryd.f3 rfl rfl rfl rfl rfl rfl rfl ⟨rfl, rfl, rfl, rfl, rfl⟩ rfl rfl rfl rfl rfl (by kernel_rfl) Tryd.func3 (by kernel_rfl)
    (of_decide_eq_true (by kernel_rfl)) (by unfold Func.isWrapper; first | (rw [if_pos (by decide +kernel)]; kernel_rfl) | (rw [if_neg (by decide +kernel)]; exact ⟨rfl, rfl⟩))
    (fun os started H enc _ => termReadMatchesSpec_lifted os started H enc)

theorem termReadMatchesSpec_holds : Rows.TermReadMatchesSpecCardSaid :=
  Claim7.holds_tied_plain_at .later [] [.data] true (true, "ecad20fdaeee083480c896b4752486144fc143134b82169f20556bbcabf8e184") false
    termReadMatchesSpec_row (fun _ h => by cases h) (by kernel_rfl) (fun _ h => by cases h) termReadMatchesSpec_row_tie rfl ⟨rfl, rfl⟩ (by kernel_rfl) rfl
    (fun f fn hf hfn => by
      obtain rfl : f = 3 := Option.some.inj ((show Tryd.prog.funcNamed "glosswright/glosswrightlaw1.TermReadMatchesSpec" = some 3 by kernel_rfl).symm.trans hf) |>.symm
      obtain rfl : fn = Tryd.f3 := (Option.some.inj (Tryd.func3.symm.trans hfn)).symm
      exact ⟨by kernel_rfl, fun j t ht => by
        rw [Tryd.params3] at ht
        have hm : t ∈ [9] := by simpa using Array.mem_of_getElem? ht
        have hall : ([9].all fun u => !Tryd.prog.wantsStandIn u) = true := by kernel_rfl
        exact (show Tryd.prog.wantsStandIn t = false by simpa using List.all_eq_true.1 hall t hm)⟩)
    (by kernel_rfl)
#print axioms termReadMatchesSpec_holds
end

end Go.Proofs.YtnoceodmnjhljaaDoor
