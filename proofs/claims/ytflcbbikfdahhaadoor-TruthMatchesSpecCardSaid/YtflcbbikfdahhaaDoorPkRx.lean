/- Lemmas. -/
import Derived.Test.YtflcbbikfdahhaaDoorPkRw
namespace Go.Proofs.YtflcbbikfdahhaaDoor
open Go Go.RowKit
set_option linter.unusedSimpArgs false
set_option linter.unusedVariables false
noncomputable section
variable {S : Nat → Prop} {g : Nat} {a : ByteArray} {T : TypeId} {m : Md} {t : Fm} {v : Fv}

theorem Fv.fm_inj : ∀ (v v' : Fv), v.ok → v'.ok → v.fm = v'.fm → v = v' := by
  intro v
  induction v with
  | tru =>
    intro v' h1 h2 h
    cases v' <;> simp only [Fv.fm, Fv.ok, Tree.mk.injEq, FmL.mk.injEq] at h h2 <;> first | rfl | (exfalso; omega)
  | pred n ws =>
    intro v' h1 h2 h
    cases v' <;> simp only [Fv.fm, Fv.ok, Tree.mk.injEq, FmL.mk.injEq] at h h2 <;> first | (obtain ⟨⟨_, rfl, rfl⟩, _⟩ := h; rfl) | (exfalso; omega)
  | same a b =>
    intro v' h1 h2 h
    cases v' <;> simp only [Fv.fm, Fv.ok, Tree.mk.injEq, FmL.mk.injEq] at h h2 <;> first | (exfalso; omega) | (obtain ⟨⟨_, _, h3⟩, _⟩ := h; simp at h3; obtain ⟨rfl, rfl⟩ := h3; rfl)
  | neg f ih =>
    intro v' h1 h2 h
    cases v' <;> simp only [Fv.fm, Fv.ok, Tree.mk.injEq, FmL.mk.injEq] at h h2 <;> first | (exfalso; omega) | (obtain ⟨_, h3⟩ := h; rw [ih _ h1 h2 (List.cons.inj h3).1])
  | bin k f g ihf ihg =>
    intro v' h1 h2 h
    have hk := h1.1
    cases v' <;> simp only [Fv.fm, Fv.ok, Tree.mk.injEq, FmL.mk.injEq] at h h2 <;> first | (exfalso; omega) | (obtain ⟨⟨h0, _, _⟩, h3⟩ := h; obtain ⟨h4, h5⟩ := List.cons.inj h3; rw [ihf _ h1.2.1 h2.2.1 h4, ihg _ h1.2.2 h2.2.2 (List.cons.inj h5).1, Int.ofNat_inj.1 h0])
  | qu k x f ih =>
    intro v' h1 h2 h
    have hk := h1.1
    cases v' <;> simp only [Fv.fm, Fv.ok, Tree.mk.injEq, FmL.mk.injEq] at h h2 <;> first | (exfalso; omega) | (obtain ⟨⟨h0, h6, _⟩, h3⟩ := h; rw [ih _ h1.2.2 h2.2.2 (List.cons.inj h3).1, h6, Int.ofNat_inj.1 h0])
theorem slS1t {w : World} (hb : w.heap[g]? = some (.cells #[.string a] T (0, 0))) (h1 : a.size ≤ maxLen) (hg : S g) : strRep.Sl w S (.slice (some ⟨g, 0, none⟩) 1 1) [a] := by
  refine ⟨_, 1, 1, rfl, rfl, by simp [maxLen], fun _ => ⟨g, 0, [.string a], rfl, hg, ⟨[.string a], [], rfl, ⟨rfl, h1⟩, rfl⟩, fun j u hj => ?_⟩⟩
  rw [Nat.zero_add]
  match j, hj with
  | 0, hj => exact (cellv hb 0 rfl).trans (by simpa using hj)
  | n + 1, hj => simp at hj
theorem dog_rep {W : World} (ha : a.size ≤ maxLen) (hg : W.heap[g]? = some (.cells #[.string a] T (0, 0))) (sg : S g) : fmRep.R W S (Fv.pred bDog [a]).fm [.int .i64 2, .string bDog, .slice (some ⟨g, 0, none⟩) 1 1, .slice none 0 0] :=
  Fm.shut (a := ⟨2, bDog, [a]⟩) (l := []) (show bDog.size ≤ maxLen from by decide +kernel) (slS1t hg ha sg) Rep.Sl.nil
theorem allC_of (h : ∀ c ∈ fmFrees [] t, (conV m c).isSome = true) : allC m (fmConsts t) = true := by
  unfold allC
  rw [List.all_eq_true]
  intro c hc
  exact h c (mem_constsB.1 hc)
theorem fault_ok0 (hv : v.ok) (hn : v.nodes ≤ 200) (hd : v.depth ≤ 40) : fmFault v.fm = (0, 0) := by
  unfold fmFault
  rw [Fv.val_ok false v 1 0 hv (by omega) (by omega)]
theorem holdsC_zero (hm : (mdFault m).1 = 0) (hv : v.ok) (hn : v.nodes ≤ 200) (hd : v.depth ≤ 40) (h1 : nestT v.fm ≤ 5) (h2 : ∀ c ∈ fmFrees [] v.fm, (conV m c).isSome = true) (h3 : hasT m v.fm = true) : holdsC m v.fm = (0, 0) := by
  unfold holdsC
  rw [if_neg (by omega), if_neg (by rw [fault_ok0 hv hn hd]; simp)]
  unfold pairT
  rw [if_neg (by omega), if_neg (by rw [allC_of h2]; decide), if_neg (by rw [h3]; decide)]
theorem mdSmall_zero : (mdFault mdSmall).1 = 0 := by rw [mdSmall_ok]
def exDog : Fv := .pred bDog [bKim]
theorem exDog_ok : exDog.ok := ⟨by decide +kernel, by decide, by decide +kernel⟩
theorem exDog_zero : holdsC mdSmall exDog.fm = (0, 0) := holdsC_zero mdSmall_zero exDog_ok (by decide) (by decide) (by decide +kernel) (by decide +kernel) (by decide +kernel)
theorem exDog_eval : evalF mdSmall exDog [] = true := by decide +kernel
theorem holds_good {bb : Bool} (hz : holdsC m v.fm = (0, 0)) (hok : v.ok) (he : evalF m v [] = bb) (ms cs : List Value) (W : World) (S : Nat → Prop) (hm : m.In W S ms) (ht : fmRep.R W S v.fm cs) (hS : ∀ b, S b → b < W.heap.size) : Calls Tryd.prog 15 #[.agg ms.toArray, .agg cs.toArray] W fun e w' => e = .returned (.tuple #[.bool bb, .agg #[.int .i64 0, .int .i64 0]]) ∧ Below W.heap.size W w' := by
  refine (holds_any m v.fm ms cs W S ht hm hS).mono ?_
  rintro e w' ⟨b, rfl, _, h2, hb⟩
  obtain ⟨v', e1, ok', _, _, rfl⟩ := h2 (by rw [hz])
  obtain rfl := Fv.fm_inj v v' hok ok' e1
  rw [hz, he]
  exact ⟨rfl, hb⟩
theorem holdsC_snd (h : (holdsC m t).1 = 0) : holdsC m t = (0, 0) := by
  unfold holdsC at h ⊢
  split at h
  · rename_i h1; exact absurd h (by simp; omega)
  rename_i h1
  rw [if_neg h1]
  split at h
  · rename_i h2; exact absurd h (by simp; omega)
  rename_i h2
  rw [if_neg h2]
  exact (pairT_zero h).1
theorem holdsC_ok (h : (holdsC m t).1 = 0) : (mdFault m).1 = 0 ∧ (fmFault t).1 = 0 ∧ (pairT m t).1 = 0 := by
  unfold holdsC at h
  split at h
  · rename_i h1; exact absurd h (by simp; omega)
  rename_i h1
  split at h
  · rename_i h2; exact absurd h (by simp; omega)
  rename_i h2
  exact ⟨by omega, by omega, h⟩
open Classical in
def holdsB (m : Md) (t : Fm) : Bool := if (holdsC m t).1 = 0 then (if h : ∃ v : Fv, t = v.fm ∧ v.ok then evalF m h.choose [] else false) else false
theorem holdsB_bad (h : (holdsC m t).1 ≠ 0) : holdsB m t = false := if_neg h
theorem holdsB_good (h : (holdsC m v.fm).1 = 0) (hv : v.ok) : holdsB m v.fm = evalF m v [] := by
  unfold holdsB
  have hx : ∃ v' : Fv, v.fm = v'.fm ∧ v'.ok := ⟨v, rfl, hv⟩
  rw [if_pos h, dif_pos hx]
  have h2 := hx.choose_spec
  rw [← Fv.fm_inj v hx.choose hv h2.2 h2.1]
theorem holdsB_any (m : Md) (t : Fm) (ms cs : List Value) (w : World) (S : Nat → Prop) (ht : fmRep.R w S t cs) (hm : m.In w S ms) (hS : ∀ b, S b → b < w.heap.size) :
    Calls Tryd.prog 15 #[.agg ms.toArray, .agg cs.toArray] w fun e w' => e = .returned (.tuple #[.bool (holdsB m t), .agg #[.int .i64 (holdsC m t).1, .int .i64 (holdsC m t).2]]) ∧ Below w.heap.size w w' := by
  refine (holds_any m t ms cs w S ht hm hS).mono ?_
  rintro e w' ⟨b, rfl, h1, h2, hb⟩
  refine ⟨?_, hb⟩
  by_cases h : (holdsC m t).1 = 0
  · obtain ⟨v, rfl, ov, _, _, rfl⟩ := h2 h
    rw [holdsB_good h ov]
  · rw [holdsB_bad h, h1 h]
end

end Go.Proofs.YtflcbbikfdahhaaDoor
