/-
  The statement TruthOfNegationCardSaid is proved: whatever its arguments, the law TruthOfNegation returns true, and they read afterwards as before.
  Conditions: those of the given row alone (the listed variables are laid as the program's text lays them; the card ties that).
-/
import Derived.Test.YtflcbbikfdahhaaDoorFm
import Derived.Test.YtflcbbikfdahhaaDoorPkT
import Derived.Test.YtflcbbikfdahhaaDoorProg
import Derived.Test.YtflcbbikfdahhaaDoorMore
import Derived.ChangeArms
import Derived.ChangeSame
import Derived.Deep.Slices
import Derived.Test.YtflcbbikfdahhaaDoorReps
import Derived.Test.YtflcbbikfdahhaaDoorRows
import Derived.ProofKit
import Derived.LaidMore
import Derived.OpenShut
import Derived.Stop.Joined
import Derived.Test.YtflcbbikfdahhaaDoorMdAt
import Derived.Test.YtflcbbikfdahhaaDoorTie
import Derived.Test.YtflcbbikfdahhaaDoorCards
import Derived.Test.YtflcbbikfdahhaaDoorKf
import Derived.Test.YtflcbbikfdahhaaDoorKfE
import Derived.Test.YtflcbbikfdahhaaDoorKfL
import Derived.Test.YtflcbbikfdahhaaDoorKfM
import Derived.Test.YtflcbbikfdahhaaDoorKfH
import Derived.SevenTiedAt
import Derived.JoinedOf
namespace Go.Proofs.YtflcbbikfdahhaaDoor

section
open Go Go.RowKit
set_option linter.unusedSimpArgs false
set_option linter.unusedVariables false

section
variable {L : Type} {ρ ρ' : Rep L}
mutual
theorem Tree.In_map (hs : ρ.size = ρ'.size) (h : ∀ {w : World} {S : Nat → Prop} {a : L} {cs : List Value}, ρ.R w S a cs → ρ'.R w S a cs) {w : World} {S : Nat → Prop} : ∀ (t : Tree L) (cs : List Value), Tree.In ρ w S t cs → Tree.In ρ' w S t cs
  | .mk a l, cs, hh => by
    unfold Tree.In at hh ⊢
    obtain ⟨us, A, n, c, h0, h1, h2, h3, h4⟩ := hh
    refine ⟨us, A, n, c, h0, h h1, h2, h3, fun hn => ?_⟩
    obtain ⟨b, o, e, hb, hi⟩ := h4 hn
    exact ⟨b, o, e, hb, Tree.Ins_map hs h l b o hi⟩
theorem Tree.Ins_map (hs : ρ.size = ρ'.size) (h : ∀ {w : World} {S : Nat → Prop} {a : L} {cs : List Value}, ρ.R w S a cs → ρ'.R w S a cs) {w : World} {S : Nat → Prop} : ∀ (l : List (Tree L)) (b o : Nat), Tree.Ins ρ w S l b o → Tree.Ins ρ' w S l b o
  | [], _, _, _ => by unfold Tree.Ins; trivial
  | t :: l, b, o, hh => by
    unfold Tree.Ins at hh ⊢
    obtain ⟨cs, h0, h1, h2⟩ := hh
    exact ⟨cs, h0, Tree.In_map hs h t cs h1, by rw [← hs]; exact Tree.Ins_map hs h l b _ h2⟩
end
end
def fmLC : Rep FmL where
  size := 3
  R := fun w S a cs => fmL.R w S a cs ∧ ∃ (A : Option Addr) (n c : Nat), cs[2]? = some (Value.slice A n c) ∧ n ≤ c
  pos := by omega
  len := fun h => fmL.len h.1
  one := fun h => fmL.one h.1
  keep := fun h hk hS => ⟨fmL.keep h.1 hk hS, h.2⟩
abbrev fmRepC : Rep Fm := treeRep fmLC
theorem Fm.ofC {w : World} {S : Nat → Prop} {t : Fm} {cs : List Value} (h : fmRepC.R w S t cs) : fmRep.R w S t cs := Tree.In_map (ρ := fmLC) (ρ' := fmL) rfl (fun h => h.1) t cs h
theorem Fm.openC {w : World} {S : Nat → Prop} {a : FmL} {l : List Fm} {cs : List Value} (h : fmRepC.R w S (.mk a l) cs) :
    ∃ A n c v, cs = [.int .i64 a.kind, .string a.nm, .slice A n c, v] ∧ n ≤ c ∧ a.nm.size ≤ maxLen ∧ strRep.Sl w S (.slice A n c) a.ws ∧ fmRepC.Sl w S v l := by
  obtain ⟨hs, v, rfl, ⟨⟨u, rfl, h1, h2⟩, A, n, c, h4, h5⟩, h3⟩ := Tree.In_iff.1 h
  simp at h4
  subst h4
  exact ⟨A, n, c, v, rfl, h5, h1, h2, h3⟩
end

section
open Go Go.RowKit
set_option linter.unusedSimpArgs false
set_option linter.unusedVariables false

set_option maxRecDepth 100000 in
set_option maxHeartbeats 4000000 in
theorem negLaw_any (m : Md) (t : Fm) (ms cs : List Value) (w : World) (S : Nat → Prop) (hm : m.In w S ms) (ht : fmRep.R w S t cs) (hS : ∀ b, S b → b < w.heap.size) (g0 : w.cell? ⟨0, 0, none⟩ = some (.int .i64 0)) (g1 : w.cell? ⟨0, 1, none⟩ = some (.int .i64 0)) : Calls Tryd.prog 4 #[.agg ms.toArray, .agg cs.toArray] w fun e w' => e = .returned (.bool true) ∧ Below w.heap.size w w' := by
  obtain ⟨A, n1, c1, B, n2, c2, rfl, _, _, _, _⟩ := Fm.shape ht
  obtain ⟨Am, cm, Bm, dm, rfl, _, _, _, _⟩ := Md.shape hm
  obtain ⟨kd, hkd⟩ : ∃ k, t.lab.kind = k := ⟨_, rfl⟩
  obtain ⟨nm, hnm⟩ : ∃ k, t.lab.nm = k := ⟨_, rfl⟩
  rw [hkd, hnm] at ht ⊢
  go_enter Tryd.func4, Tryd.ntmps4
  have lg := World.block_lt_of_cell? w _ g0
  have hret : ∀ a' w', Frm 67 [(4, .bool true)] a' → Below w.heap.size w w' → bodyPost Tryd.prog Tryd.f4 (fun e w' => e = .returned (.bool true) ∧ Below w.heap.size w w') .ret a' w' := fun a' w' h hb => ln_ret_wp ⟨rfl, hb⟩ a' h
  have gg := fun (W : World) (hb : Below w.heap.size w W) => And.intro ((hb.cell (p := ⟨0, 0, none⟩) lg).trans g0) ((hb.cell (p := ⟨0, 1, none⟩) lg).trans g1)
  have hmk := fun (W : World) (hb : Below w.heap.size w W) => Md.In.keep (w' := W) (S' := Lo W) hm (fun b hbS => hb.block b (hS b hbS)) (fun b hbS => Nat.lt_of_lt_of_le (hS b hbS) hb.size)
  have hold := fun (W : World) (hb : Below w.heap.size w W) => fmRep.keep (w' := W) (S' := Lo W) ht (fun b hbS => hb.block b (hS b hbS)) (fun b hbS => Nat.lt_of_lt_of_le (hS b hbS) hb.size)
  refine wp_seq ?_
  refine ln_r0_wp (fun a0 h0 => ?_) _ (id ⟨rfl, rfl, rfl, rfl, trivial⟩)
  refine gen_last (fun wx => wx.heap[w.heap.size]? = some (.cells #[.int .i64 m.sz, .slice Am m.cs.length cm, .slice Bm m.rs.length dm] 25 (0, 0)) ∧ wx.heap[w.heap.size + 1]? = some (.cells #[.int .i64 kd, .string nm, .slice A n1 c1, .slice B n2 c2] 29 (0, 0)) ∧ Below w.heap.size w wx) ⟨heap_old (by simp) (heap_at rfl), heap_at (by simp), by go_grown⟩ ?_
  rintro wy ⟨hmy, hay, hby⟩
  refine wp_seq ?_
  refine wp_seq ?_
  refine ln_r1_wp (fun W ms9 cs9 q1 q2 _ => holds_good exNot_zero exDog_ok exNot_eval ms9 cs9 W _ q1 q2 (fun _ h => h)) (fun ge1 a1 w1 h1 he1 hb1' => ?_) a0 h0
  have hb1 := hby.trans (hb1'.mono hby.size)
  refine wp_seq ?_
  refine ln_r2_wp (gg w1 hb1).1 (gg w1 hb1).2 he1 (fun a2 h2 => ?_) a1 h1
  refine wp_cond_false ((h2.eval (k := 26) (v := .bool false) (by simp)).trans rfl) ?_
  refine wp_skip ?_
  show Code.wp _ _ _ a2 w1
  refine wp_seq ?_
  refine wp_seq ?_
  refine ln_r4_wp (fun W ms9 cs9 q1 q2 _ => holds_good exDog_zero exDog_ok exDog_eval ms9 cs9 W _ q1 q2 (fun _ h => h)) (fun ge2 a3 w2 h3 he2 hb2' => ?_) a2 ⟨h2.1, h2.2.1, h2.2.2.1, h2.2.2.2.1, trivial⟩
  have hb2 := hb1.trans (hb2'.mono hb1.size)
  refine wp_seq ?_
  refine ln_r5_wp (gg w2 hb2).1 (gg w2 hb2).2 he2 (fun a4 h4 => ?_) a3 h3
  refine wp_cond_false ((h4.eval (k := 40) (v := .bool false) (by simp)).trans rfl) ?_
  refine wp_skip ?_
  show Code.wp _ _ _ a4 w2
  have hm2 := (hb2'.block _ (by have := lt_heap hmy; have := hb1'.size; omega)).trans ((hb1'.block _ (lt_heap hmy)).trans hmy)
  have ha2 := (hb2'.block _ (by have := lt_heap hay; have := hb1'.size; omega)).trans ((hb1'.block _ (lt_heap hay)).trans hay)
  refine wp_seq ?_
  refine ln_r7_wp hm2 ha2 (holdsB_any m t _ _ w2 _ (hold w2 hb2) (hmk w2 hb2) (fun _ h => h)) (fun gx a5 w5 h5 he5 hb5' => ?_) a4 ⟨h4.1, h4.2.1, h4.2.2.1, h4.2.2.2.1, trivial⟩
  have hb5 := hb2.trans (hb5'.mono hb2.size)
  have hm5 := (hb5'.block _ (lt_heap hm2)).trans hm2
  have ha5 := (hb5'.block _ (lt_heap ha2)).trans ha2
  refine wp_seq ?_
  refine wp_thenQ (ln_r8_wp hm5 ha5 (hold w5 hb5) (fun W cs9 q1 q2 => holdsB_any m _ _ cs9 W _ q1 (hmk W (hb5.trans (q2.mono hb5.size))) (fun _ h => h)) (fun gy a6 w6 h6 he6 hb6' => ?_) a5 h5)
  have hb6 := hb5.trans (hb6'.mono hb5.size)
  have he56 := (hb6'.block _ (lt_heap he5)).trans he5
  refine wp_seq ?_
  by_cases hc1 : (holdsC m t).1 = 0
  case neg =>
    refine ln_r9a_wp (gg w6 hb6).1 (gg w6 hb6).2 hc1 he56 he6 (fun a7 h7 => ?_) a6 ⟨h6.1, h6.2.1, h6.2.2.2.2.1, h6.2.2.2.2.2.1, h6.2.2.2.2.2.2.1, h6.2.2.2.2.2.2.2.1, trivial⟩
    refine wp_ret ?_
    exact hret a7 _ h7 hb6
  rw [holdsC_snd hc1] at he56
  by_cases hc2 : (holdsC m (.mk ⟨4, ⟨#[]⟩, []⟩ [t])).1 = 0
  case neg =>
    refine ln_r9b_wp (gg w6 hb6).1 (gg w6 hb6).2 hc2 he56 he6 (fun a7 h7 => ?_) a6 ⟨h6.1, h6.2.1, h6.2.2.2.2.1, h6.2.2.2.2.2.1, h6.2.2.2.2.2.2.1, h6.2.2.2.2.2.2.2.1, trivial⟩
    refine wp_ret ?_
    exact hret a7 _ h7 hb6
  rw [holdsC_snd hc2] at he6
  refine ln_r9c_wp (gg w6 hb6).1 (gg w6 hb6).2 (neg_law hc1 hc2) he56 he6 (fun a7 h7 => ?_) a6 ⟨h6.1, h6.2.1, h6.2.2.2.2.1, h6.2.2.2.2.2.1, h6.2.2.2.2.2.2.1, h6.2.2.2.2.2.2.2.1, trivial⟩
  refine wp_ret ?_
  exact hret a7 _ h7 hb6
theorem negLaw_door (m : Md) (ms : List Value) (t : Fm) (cs : List Value) (w : World) (S : Nat → Prop) (hm : m.In w S ms) (ht : fmRepC.R w S t cs) (hS : ∀ b, S b → b < w.heap.size) (g0 : w.cell? ⟨0, 0, none⟩ = some (.int .i64 0)) (g1 : w.cell? ⟨0, 1, none⟩ = some (.int .i64 0)) : Calls Tryd.prog 4 #[.agg ms.toArray, .agg cs.toArray] w fun e w' => e = .returned (.bool true) ∧ Below w.heap.size w w' := negLaw_any m t ms cs w S hm (Fm.ofC ht) hS g0 g1
end

section
open Go Go.RowKit Go.ChangeShapes Go.WideShapes Go.Deep
set_option linter.unusedSimpArgs false
set_option linter.unusedVariables false

theorem cells9 : Tryd.prog.cellsOf 9 = 1 := by kernel_rfl
theorem spot_none {w : World} {a : Addr} {v : Value} (h : w.cell? a = some v) : a = ⟨a.block, a.off, none⟩ := by
  cases a with
  | mk b o s =>
    cases s with
    | none => rfl
    | some k => unfold World.cell? at h; simp at h; split at h <;> simp at h
theorem add_none (b o n : Nat) : Addr.add ⟨b, o, none⟩ n = ⟨b, o + n, none⟩ := by
  unfold Addr.add; split <;> simp [*]


open Go Go.RowKit Go.ChangeShapes Go.WideShapes Go.Deep

section
variable {H : Type} {enc : TypeId × Value → H} {w : World} {spare : Nat → Bool} {held : Bool}

/-- A slice whose elements are read as things of a kind: the list of these. -/
theorem sl_of_trod {α : Type} {ρ : Rep α} {E T : TypeId} (hc : Tryd.prog.cellsOf E = ρ.size) (ht : Tryd.prog.underlying T = some (.slice E)) {fuel : Nat} {v : Value} {x : DataW H × List MemPlace}
    (hE : ∀ n, n < fuel → ∀ (cs : List Value) (y : DataW H × List MemPlace), DataW.trod enc Tryd.prog w 0 spare held n E cs = some y → ∃ a, ρ.R w (Lo w) a cs)
    (h : DataW.trod enc Tryd.prog w 0 spare held fuel T [v] = some x) : ∃ l, ρ.Sl w (Lo w) v l := by
  rcases DataW.trod_slice ht h with ⟨e1, _⟩ | ⟨a, len, cap, elems, rest, n', hn', e1, _, _, hlc, hcm, _, hel, _, _⟩
  · simp only [List.cons.injEq, and_true] at e1
    subst e1
    exact ⟨[], Rep.Sl.nil⟩
  simp only [List.cons.injEq, and_true] at e1
  subst e1
  rw [hc] at hel
  have hall : ∀ i, i < len → ∃ (t : α) (cs : List Value), ρ.R w (Lo w) t cs ∧ ∀ j u, cs[j]? = some u → w.cell? (a.add (i * ρ.size + j)) = some u := by
    intro i hi
    have hb := hel i hi
    have hlt : i < elems.length := by omega
    rw [List.getElem?_eq_getElem hlt] at hb
    cases hcs : w.cells? 0 (a.add (i * ρ.size)) ρ.size with
    | none => rw [hcs] at hb; simp at hb
    | some cs' =>
      rw [hcs] at hb
      simp only [Option.bind_some] at hb
      obtain ⟨t, ht⟩ := hE n' (by omega) cs' _ hb
      obtain ⟨_, _, hat⟩ := World.cells?_some hcs
      refine ⟨t, cs', ht, fun j u hj => ?_⟩
      have hjl : j < cs'.length := (List.getElem?_eq_some_iff.1 hj).1
      have p := hat j (by rw [ρ.len ht] at hjl; exact hjl)
      rw [add_add] at p
      rw [p]; exact hj
  have key : ∀ m, m ≤ len → ∃ (l : List α) (xs : List Value), l.length = m ∧ ρ.All w (Lo w) l xs ∧ ∀ j u, xs[j]? = some u → w.cell? (a.add j) = some u := by
    intro m
    induction m with
    | zero => intro _; exact ⟨[], [], rfl, rfl, by simp⟩
    | succ m ih =>
      intro hm
      obtain ⟨l, xs, h1, h2, h3⟩ := ih (by omega)
      obtain ⟨t, cs, h4, h5⟩ := hall m (by omega)
      refine ⟨l ++ [t], xs ++ cs, by simp [h1], h2.append (Rep.All.single h4), fun j u hj => ?_⟩
      have hx : xs.length = m * ρ.size := by rw [h2.len, h1]
      by_cases hlt : j < xs.length
      · rw [List.getElem?_append_left hlt] at hj; exact h3 j u hj
      · rw [List.getElem?_append_right (by omega)] at hj
        have := h5 _ u hj
        rw [show m * ρ.size + (j - xs.length) = j by omega] at this
        exact this
  obtain ⟨l, xs, h1, h2, h3⟩ := key len (Nat.le_refl _)
  refine ⟨l, _, len, cap, rfl, h1, by omega, fun hp => ?_⟩
  have hxl : 0 < xs.length := by rw [h2.len, h1]; exact Nat.mul_pos hp ρ.pos
  have hp0 : w.cell? a = some xs[0] := by have := h3 0 _ (List.getElem?_eq_getElem hxl); simpa [Addr.add] using this
  have ha := spot_none hp0
  refine ⟨a.block, a.off, xs, by rw [← ha], World.block_lt_of_cell? w _ hp0, h2, fun j u hj => ?_⟩
  have := h3 j u hj
  rw [ha, add_none] at this
  exact this

end

open Go.ChangeShapes Go.WideShapes Go.ChangeAt Go.WideMaps Go.WideElems Go.RowKit

theorem ownKnobNone : ownKnob Tryd.prog.godebug = none := by kernel_rfl
theorem laidOutAll : laidOutB Tryd.prog = true := by kernel_rfl
theorem gNone : Tryd.prog.globalNamed "glosswright/glosswrightlaw1.none" = some 0 := by kernel_rfl
theorem tNone : (Tryd.prog.globals[0]?).map (·.type) = some 31 := by kernel_rfl
theorem cellsFault : Tryd.prog.cellsOf 31 = 2 := by kernel_rfl
theorem cellsInt : Tryd.prog.cellsOf 3 = 1 := by kernel_rfl

def laidNone {H : Type} : List (String × DataW H) := [("glosswright/glosswrightlaw1.none", Rows.laid_glosswright_glosswrightlaw1_none)]

theorem door_met (os : Os) (args : Array Value) : laidMetH Tryd.prog laidNone ((World.doorLaid Tryd.prog 400 os).forCall (fun _ _ => 0) ⟨#[], args, []⟩).memory :=
  laidMetH_of_parts3 (fuel := 8) (laidMet_of_run' 8 (by kernel_rfl) (by kernel_rfl)) (by kernel_rfl) (by kernel_rfl)

set_option maxRecDepth 100000 in
theorem of_laid {W : World} (h : laidMetH Tryd.prog laidNone W) : W.cell? ⟨0, 0, none⟩ = some (.int .i64 0) ∧ W.cell? ⟨0, 1, none⟩ = some (.int .i64 0) := by
  rw [MakeChecks.laidMetH_plain _ _ _ (by kernel_rfl)] at h
  obtain ⟨ps, ⟨g0, t0, cs0, f0, p0, q0, hg0, ht0, hv0, hd0, _, _⟩, _, _⟩ := h
  obtain rfl := Option.some.inj (gNone.symm.trans hg0)
  obtain rfl := Option.some.inj (tNone.symm.trans ht0)
  obtain ⟨xs, n, hn, hx, hlen, hxl, hf⟩ := DataW.trod_struct Tryd.underlying31 hd0
  rw [cellsFault] at hlen
  obtain ⟨l⟩ := cs0
  match l, hlen with
  | [c0, c1], _ =>
  match xs, hxl with
  | [y0, y1], _ =>
  have h0 : DataW.trod (fun _ => ()) Tryd.prog W 0 (fun _ => true) false n 3 [c0] = some y0 := by simpa [cellsInt] using hf 0 _ rfl
  have h1 : DataW.trod (fun _ => ()) Tryd.prog W 0 (fun _ => true) false n 3 [c1] = some y1 := by simpa [cellsInt] using hf 1 _ rfl
  obtain ⟨k0, e0, e0', _⟩ := DataW.trod_int Tryd.underlying3 h0
  obtain ⟨k1, e1, e1', _⟩ := DataW.trod_int Tryd.underlying3 h1
  simp only [List.cons.injEq, and_true] at e0 e1
  subst e0 e1
  simp only [Prod.mk.injEq] at hx
  have hx1 := hx.1
  rw [e0', e1'] at hx1
  simp [laidNone, Rows.laid_glosswright_glosswrightlaw1_none] at hx1
  obtain ⟨rfl, rfl⟩ := hx1
  exact ⟨by simpa using World.var?_cell hg0 hv0 0, by simpa using World.var?_cell hg0 hv0 1⟩
end

section
open Go Go.RowKit Go.ChangeShapes Go.WideShapes Go.Deep
set_option linter.unusedSimpArgs false
set_option linter.unusedVariables false

theorem cellsMd : Tryd.prog.cellsOf 25 = 3 := by kernel_rfl
theorem cellsCon : Tryd.prog.cellsOf 56 = 2 := by kernel_rfl
theorem cellsRel : Tryd.prog.cellsOf 65 = 3 := by kernel_rfl
theorem cellsCons : Tryd.prog.cellsOf 22 = 1 := by kernel_rfl
theorem cellsRels : Tryd.prog.cellsOf 23 = 1 := by kernel_rfl
theorem cellsRows : Tryd.prog.cellsOf 39 = 1 := by kernel_rfl
theorem cellsRow : Tryd.prog.cellsOf 44 = 1 := by kernel_rfl

section
variable {H : Type} {enc : TypeId × Value → H} {w : World} {spare : Nat → Bool} {held : Bool}
set_option maxRecDepth 100000 in
theorem int_of_trod {fuel : Nat} {cs : List Value} {x : DataW H × List MemPlace} (h : DataW.trod enc Tryd.prog w 0 spare held fuel 3 cs = some x) : ∃ a, zRep.R w (Lo w) a cs := by
  obtain ⟨k, e0, _, _⟩ := DataW.trod_int Tryd.underlying3 h
  exact ⟨k, e0⟩
theorem sl_one {α : Type} {ρ : Rep α} {E T : TypeId} (hT : Tryd.prog.cellsOf T = 1) (hc : Tryd.prog.cellsOf E = ρ.size) (ht : Tryd.prog.underlying T = some (.slice E)) {fuel : Nat} {cs : List Value} {x : DataW H × List MemPlace}
    (hE : ∀ n, n < fuel → ∀ (cs : List Value) (y : DataW H × List MemPlace), DataW.trod enc Tryd.prog w 0 spare held n E cs = some y → ∃ a, ρ.R w (Lo w) a cs)
    (h : DataW.trod enc Tryd.prog w 0 spare held fuel T cs = some x) : ∃ v l, cs = [v] ∧ ρ.Sl w (Lo w) v l := by
  have hv : ∃ v, cs = [v] := by
    rcases DataW.trod_slice ht h with ⟨e1, _⟩ | ⟨a, len, cap, elems, rest, n', hn', e1, _⟩
    · exact ⟨_, e1⟩
    · exact ⟨_, e1⟩
  obtain ⟨v, rfl⟩ := hv
  obtain ⟨l, hl⟩ := sl_of_trod hc ht hE h
  exact ⟨v, l, rfl, hl⟩
set_option maxRecDepth 100000 in
theorem ints_of_trod {fuel : Nat} {cs : List Value} {x : DataW H × List MemPlace} (h : DataW.trod enc Tryd.prog w 0 spare held fuel 44 cs = some x) : ∃ a, intsRep.R w (Lo w) a cs := by
  obtain ⟨v, l, rfl, hl⟩ := sl_one (ρ := zRep) cellsRow cellsInt Tryd.underlying44 (fun n _ cs y hy => int_of_trod hy) h
  exact ⟨l, v, rfl, hl⟩
set_option maxRecDepth 100000 in
theorem con_of_trod {fuel : Nat} {cs : List Value} {x : DataW H × List MemPlace} (h : DataW.trod enc Tryd.prog w 0 spare held fuel 56 cs = some x) : ∃ a, conRep.R w (Lo w) a cs := by
  obtain ⟨xs, n, hn, hx, hlen, hxl, hf⟩ := DataW.trod_struct Tryd.underlying56 h
  rw [cellsCon] at hlen
  match cs, hlen with
  | [v0, v1], _ =>
  match xs, hxl with
  | [y0, y1], _ =>
  have h0 : DataW.trod enc Tryd.prog w 0 spare held n 9 [v0] = some y0 := by simpa [cells9] using hf 0 _ rfl
  have h1 : DataW.trod enc Tryd.prog w 0 spare held n 3 [v1] = some y1 := by simpa [cellsInt] using hf 1 _ rfl
  obtain ⟨s, e0, _, hs⟩ := DataW.trod_string Tryd.underlying9 h0
  obtain ⟨k, e1, _, _⟩ := DataW.trod_int Tryd.underlying3 h1
  simp only [List.cons.injEq, and_true] at e0 e1
  subst e0 e1
  exact ⟨⟨s, k⟩, rfl, hs⟩
set_option maxRecDepth 100000 in
theorem rel_of_trod {fuel : Nat} {cs : List Value} {x : DataW H × List MemPlace} (h : DataW.trod enc Tryd.prog w 0 spare held fuel 65 cs = some x) : ∃ a, relRep.R w (Lo w) a cs := by
  obtain ⟨xs, n, hn, hx, hlen, hxl, hf⟩ := DataW.trod_struct Tryd.underlying65 h
  rw [cellsRel] at hlen
  match cs, hlen with
  | [v0, v1, v2], _ =>
  match xs, hxl with
  | [y0, y1, y2], _ =>
  have h0 : DataW.trod enc Tryd.prog w 0 spare held n 9 [v0] = some y0 := by simpa [cells9] using hf 0 _ rfl
  have h1 : DataW.trod enc Tryd.prog w 0 spare held n 3 [v1] = some y1 := by simpa [cellsInt] using hf 1 _ rfl
  have h2 : DataW.trod enc Tryd.prog w 0 spare held n 39 [v2] = some y2 := by simpa [cellsRows] using hf 2 _ rfl
  obtain ⟨s, e0, _, hs⟩ := DataW.trod_string Tryd.underlying9 h0
  obtain ⟨k, e1, _, _⟩ := DataW.trod_int Tryd.underlying3 h1
  obtain ⟨v, l, e2, hl⟩ := sl_one (ρ := intsRep) cellsRows cellsRow Tryd.underlying39 (fun n _ cs y hy => ints_of_trod hy) h2
  simp only [List.cons.injEq, and_true] at e0 e1 e2
  subst e0 e1 e2
  exact ⟨⟨s, k, l⟩, v2, rfl, hs, hl⟩
set_option maxRecDepth 100000 in
theorem md_of_trod (fuel : Nat) (cs : List Value) (x : DataW H × List MemPlace) (h : DataW.trod enc Tryd.prog w 0 spare held fuel 25 cs = some x) : ∃ m : Md, m.In w (Lo w) cs := by
  obtain ⟨xs, n, hn, hx, hlen, hxl, hf⟩ := DataW.trod_struct Tryd.underlying25 h
  rw [cellsMd] at hlen
  match cs, hlen with
  | [v0, v1, v2], _ =>
  match xs, hxl with
  | [y0, y1, y2], _ =>
  have h0 : DataW.trod enc Tryd.prog w 0 spare held n 3 [v0] = some y0 := by simpa [cellsInt] using hf 0 _ rfl
  have h1 : DataW.trod enc Tryd.prog w 0 spare held n 22 [v1] = some y1 := by simpa [cellsInt, cellsCons] using hf 1 _ rfl
  have h2 : DataW.trod enc Tryd.prog w 0 spare held n 23 [v2] = some y2 := by simpa [cellsInt, cellsCons, cellsRels] using hf 2 _ rfl
  obtain ⟨k, e0, _, _⟩ := DataW.trod_int Tryd.underlying3 h0
  obtain ⟨va, l1, e1, hl1⟩ := sl_one (ρ := conRep) cellsCons cellsCon Tryd.underlying22 (fun n _ cs y hy => con_of_trod hy) h1
  obtain ⟨vb, l2, e2, hl2⟩ := sl_one (ρ := relRep) cellsRels cellsRel Tryd.underlying23 (fun n _ cs y hy => rel_of_trod hy) h2
  simp only [List.cons.injEq, and_true] at e0 e1 e2
  subst e0 e1 e2
  exact ⟨⟨k, l1, l2⟩, v1, v2, rfl, hl1, hl2⟩
end
end

section
open Go Go.RowKit Go.ChangeShapes Go.WideShapes Go.Deep
set_option linter.unusedSimpArgs false
set_option linter.unusedVariables false

theorem cellsFm : Tryd.prog.cellsOf 29 = 4 := by kernel_rfl
theorem cellsFms : Tryd.prog.cellsOf 27 = 1 := by kernel_rfl
theorem cellsStrs : Tryd.prog.cellsOf 26 = 1 := by kernel_rfl

section
variable {H : Type} {enc : TypeId × Value → H} {w : World} {spare : Nat → Bool} {held : Bool}
theorem str_of_trod {fuel : Nat} {cs : List Value} {x : DataW H × List MemPlace} (h : DataW.trod enc Tryd.prog w 0 spare held fuel 9 cs = some x) : ∃ a, strRep.R w (Lo w) a cs := by
  obtain ⟨s, e0, _, hs⟩ := DataW.trod_string Tryd.underlying9 h
  exact ⟨s, e0, hs⟩
theorem strs_of_trod {fuel : Nat} {v : Value} {x : DataW H × List MemPlace} (h : DataW.trod enc Tryd.prog w 0 spare held fuel 26 [v] = some x) : ∃ l A n c, v = .slice A n c ∧ n ≤ c ∧ strRep.Sl w (Lo w) v l := by
  obtain ⟨l, hl⟩ := sl_of_trod (ρ := strRep) cells9 Tryd.underlying26 (fun n _ cs y hy => str_of_trod hy) h
  rcases DataW.trod_slice Tryd.underlying26 h with ⟨e1, _⟩ | ⟨a, len, cap, elems, rest, n', hn', e1, _, _, hlc, _⟩
  · simp only [List.cons.injEq, and_true] at e1
    exact ⟨l, _, _, _, e1, by omega, hl⟩
  · simp only [List.cons.injEq, and_true] at e1
    exact ⟨l, _, _, _, e1, hlc, hl⟩
set_option maxRecDepth 100000 in
theorem fm_of_trod : ∀ (fuel : Nat) (cs : List Value) (x : DataW H × List MemPlace), DataW.trod enc Tryd.prog w 0 spare held fuel 29 cs = some x → ∃ t, fmRepC.R w (Lo w) t cs := by
  intro fuel
  induction fuel using Nat.strongRecOn with
  | _ fuel ih =>
  intro cs x h
  obtain ⟨xs, n, hn, hx, hlen, hxl, hf⟩ := DataW.trod_struct Tryd.underlying29 h
  rw [cellsFm] at hlen
  match cs, hlen with
  | [v0, v1, v2, v3], _ =>
  match xs, hxl with
  | [y0, y1, y2, y3], _ =>
  have h0 : DataW.trod enc Tryd.prog w 0 spare held n 3 [v0] = some y0 := by simpa [cellsInt] using hf 0 _ rfl
  have h1 : DataW.trod enc Tryd.prog w 0 spare held n 9 [v1] = some y1 := by simpa [cells9] using hf 1 _ rfl
  have h2 : DataW.trod enc Tryd.prog w 0 spare held n 26 [v2] = some y2 := by simpa [cellsStrs] using hf 2 _ rfl
  have h3 : DataW.trod enc Tryd.prog w 0 spare held n 27 [v3] = some y3 := by simpa [cellsFms] using hf 3 _ rfl
  obtain ⟨k, e0, _, _⟩ := DataW.trod_int Tryd.underlying3 h0
  obtain ⟨s, e1, _, hs⟩ := DataW.trod_string Tryd.underlying9 h1
  obtain ⟨ws, A, m, c, rfl, hmc, hw⟩ := strs_of_trod h2
  simp only [List.cons.injEq, and_true] at e0 e1
  subst e0 e1
  obtain ⟨l, hl⟩ := sl_of_trod (ρ := fmRepC) cellsFm Tryd.underlying27 (fun m hm cs y hy => ih m (by omega) cs y hy) h3
  exact ⟨.mk ⟨k, s, ws⟩ l, Tree.In_iff.2 ⟨[.int .i64 k, .string s, .slice A m c], v3, rfl, ⟨⟨_, rfl, hs, hw⟩, A, m, c, rfl, hmc⟩, hl⟩⟩
end
end

section
open Go.ChangeShapes Go.WideShapes Go.ChangeAt Go.WideMaps Go.WideElems Go.RowKit
set_option linter.unusedSimpArgs false
set_option linter.unusedVariables false

set_option maxRecDepth 100000 in
theorem truthOfNegation_lifted (os : Os) (started : os.Started) (H : Type) (enc : TypeId × Value → H) :
    ReturnsInHanded {} Tryd.checked os 4 .any
      (fun w args => (Rows.truthOfNegationSpec.pre enc Tryd.prog Tryd.f4 [] false w args ∧ laidMetH Tryd.prog laidNone w) ∧ sizedMet enc Tryd.prog Tryd.f4 (OpenSpec.ofChange Rows.truthOfNegationSpec) false w args)
      (Rows.truthOfNegationSpec.post enc Tryd.prog Tryd.f4 false true false false) := by
  refine returnsInHanded_of_change_and (C := Tryd.checked) (X := fun w _ => laidMetH Tryd.prog laidNone w) (fun _ _ _ hh h => h.of_heap hh) ownKnobNone started (by kernel_rfl) Tryd.func4
    (ChangeSpec.witness_shaped (enc := enc) (C := Tryd.checked) (os := os) (X := fun w _ => laidMetH Tryd.prog laidNone w) false (World.doorLaid Tryd.prog 400 os) #[.agg #[.int .i64 0, .slice none 0 0, .slice none 0 0], .agg #[.int .i64 0, .string ⟨#[]⟩, .slice none 0 0, .slice none 0 0]] 8 rfl (World.shaped_of_RefB (by kernel_rfl) (by kernel_rfl)) (by kernel_rfl) (by kernel_rfl) (by kernel_rfl) (door_met os _)) ?_
  intro W base args ds gs before hval0 hW _ _ hL _
  have hval : ∀ (j : Nat) t v, Tryd.f4.params[j]? = some t → args[j]? = some v → Value.okWide Tryd.prog W .any base t v := hval0
  have hW' := hW
  obtain ⟨p, q, hA0, hV, rfl, hfz, hnd⟩ := hW
  have hA : DataW.TrodAll enc Tryd.prog W 0 (fun _ => true) true Tryd.f4.params.toList args.toList ds p := hA0
  rw [Tryd.params4] at hA hval
  obtain ⟨v0, v1, d0, d1, p0, p1, rfl, rfl, rfl, h0, h1⟩ := trodAll_two hA
  obtain ⟨rfl, rfl⟩ := trodVars_none hV
  obtain ⟨c0, rfl, hc0⟩ := okWide_struct Tryd.underlying25 (hval 0 25 v0 rfl rfl)
  have h0k := h0
  obtain ⟨fuel0, hf0⟩ := h0
  obtain ⟨t0, ht00⟩ := md_of_trod fuel0 _ _ hf0
  have ht0 : t0.In W (Lo W) c0.toList := by simpa [Value.cells] using ht00
  obtain ⟨c1, rfl, hc1⟩ := okWide_struct Tryd.underlying29 (hval 1 29 v1 rfl rfl)
  have h1k := h1
  obtain ⟨fuel1, hf1⟩ := h1
  obtain ⟨t1, ht10⟩ := fm_of_trod fuel1 _ _ hf1
  have ht1 : fmRepC.R W (Lo W) t1 c1.toList := by simpa [Value.cells] using ht10
  obtain ⟨g0, g1⟩ := of_laid hL
  clear hA0 hval0
  simp only [List.append_nil] at hW'
  have hlt : ∀ x ∈ p0 ++ p1, x.block < W.heap.size := fun x hx => by simpa using hW'.lt x (by simpa using hx)
  refine (negLaw_door t0 c0.toList t1 c1.toList W (Lo W) ht0 ht1 (fun _ h => h) g0 g1).mono fun e W' ⟨he, hnx⟩ => ?_
  subst he
  refine ⟨_, rfl, _, _, _, [], p0 ++ p1, [], hW', trodAll_mk1 (shut_bool Tryd.underlying4 _), ?_, rfl, hnx.frame _, fun h => by cases h⟩
  exact trodAll_mk2 (Below.trod laidOutAll (by kernel_rfl) (of_decide_eq_true (by kernel_rfl)) h0k hnx (fun x hx => hlt x (by simp [hx]))) (Below.trod laidOutAll (by kernel_rfl) (of_decide_eq_true (by kernel_rfl)) h1k hnx (fun x hx => hlt x (by simp [hx])))

theorem truthOfNegation_kfn : Tryd.pinned.checked.prog.funcNamed "glosswright/glosswrightlaw1.TruthOfNegation" = some 4 := by kernel_rfl
theorem truthOfNegation_kin : (Rows.truthOfNegationRow.inPlace == Tryd.pinned.checked.prog.inPlace 4) = true := by kernel_rfl
theorem truthOfNegation_kun : (Rows.truthOfNegationRow.unfollowed == Tryd.pinned.checked.prog.unfollowed 4) = true := by kernel_rfl
theorem truthOfNegation_kre : (Rows.truthOfNegationRow.recurses == Tryd.pinned.checked.prog.recurses 4) = true := by kernel_rfl
theorem truthOfNegation_kva : (Rows.truthOfNegationRow.named == Tryd.pinned.checked.prog.varsNamed 4) = true := by kernel_rfl
theorem truthOfNegation_kgo : false = Rows.truthOfNegationRow.goesBy Tryd.pinned.checked.prog := by kernel_rfl
theorem truthOfNegation_kwf : Rows.truthOfNegationRow.wfByText (OpenSpec.ofChange Rows.truthOfNegationSpec) = true := by kernel_rfl
theorem truthOfNegation_band {a b : Bool} (h : a = true) (k : b = true) : (a && b) = true := by rw [h, k]; rfl
theorem truthOfNegation_closed : joinedFacts Tryd.pinned.checked.prog 4 Tryd.f4 Rows.truthOfNegationSpec Rows.truthOfNegationRow = true := by
  unfold joinedFacts
  repeat' with_reducible refine truthOfNegation_band ?_ ?_
  all_goals first
    | with_reducible exact kf_laid
    | with_reducible exact kf_maps
    | with_reducible exact kf_enter
    | with_reducible exact kf_heard
    | with_reducible exact truthOfNegation_kin
    | with_reducible exact truthOfNegation_kun
    | with_reducible exact truthOfNegation_kre
    | with_reducible exact truthOfNegation_kva
    | (rw [kf_lift]; as_aux_lemma => kernel_rfl)
    | (rw [kf_make]; as_aux_lemma => kernel_rfl)
    | (rw [kf_keys]; as_aux_lemma => kernel_rfl)
    | as_aux_lemma => kernel_rfl

theorem truthOfNegation_row : Rows.TruthOfNegationSaid :=
  OpenClaim.holds_of_wide 4 Tryd.f4 rfl rfl rfl rfl rfl rfl rfl ⟨rfl, rfl, rfl, rfl, rfl⟩ rfl rfl rfl rfl rfl truthOfNegation_kfn Tryd.func4 truthOfNegation_closed
    (of_decide_eq_true (by kernel_rfl)) (by unfold Func.isWrapper; first | (rw [if_pos (by decide +kernel)]; kernel_rfl) | (rw [if_neg (by decide +kernel)]; exact ⟨rfl, rfl⟩))
    (fun os started H enc _ => truthOfNegation_lifted os started H enc)

theorem truthOfNegation_holds : Rows.TruthOfNegationCardSaid :=
  Claim7.holds_tied_plain_at .later [] [.data] true (true, "91bc5d48d26aee418614a19e6e44f329f5fa5bd73b5e9d215a883cea40c1085e") false
    truthOfNegation_row (fun _ h => by cases h) truthOfNegation_kwf (fun _ h => by cases h) truthOfNegation_row_tie rfl ⟨rfl, rfl⟩ kf_main rfl
    (fun f fn hf hfn => by
      obtain rfl : f = 4 := Option.some.inj ((show Tryd.prog.funcNamed "glosswright/glosswrightlaw1.TruthOfNegation" = some 4 from truthOfNegation_kfn).symm.trans hf) |>.symm
      obtain rfl : fn = Tryd.f4 := (Option.some.inj (Tryd.func4.symm.trans hfn)).symm
      exact ⟨kf_looks, fun j t ht => by
        rw [Tryd.params4] at ht
        have hm : t ∈ [25, 29] := by simpa using Array.mem_of_getElem? ht
        have hall : ([25, 29].all fun u => !Tryd.prog.wantsStandIn u) = true := by kernel_rfl
        exact (show Tryd.prog.wantsStandIn t = false by simpa using List.all_eq_true.1 hall t hm)⟩)
    truthOfNegation_kgo
#print axioms truthOfNegation_holds
end

end Go.Proofs.YtflcbbikfdahhaaDoor
