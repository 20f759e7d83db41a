/-
  folform.Constants, folform.Free.
-/
import Derived.Test.YtdofemkfmkopcaaDoorCnB
import Derived.Test.YtdofemkfmkopcaaDoorCkC
import Derived.Sort.OwnSorted
namespace Go.Proofs.YtdofemkfmkopcaaDoor
open Go Go.RowKit Go.Sort
set_option linter.unusedSimpArgs false
set_option linter.unusedVariables false

theorem ownsRow_rebase {w : World} {base base' size n : Nat} {E : TypeId} {v : Value} {xs : List Value} (h : w.ownsRow base E size v n xs) (hb : ∀ k, v.ownBlock = some k → base' ≤ k) : w.ownsRow base' E size v n xs := by
  obtain ⟨h1, h2 | ⟨g, cap, cur, e, hg, r⟩⟩ := h
  · exact ⟨h1, Or.inl h2⟩
  · exact ⟨h1, Or.inr ⟨g, cap, cur, e, hb g (by rw [e]; rfl), r⟩⟩
theorem ownsRow_cut {w : World} {base n k cap g : Nat} {E : TypeId} {xs : List Value} (h : w.ownsRow base E 1 (.slice (some ⟨g, 0, none⟩) n cap) n xs) (hk : k ≤ n) : w.ownsRow base E 1 (.slice (some ⟨g, 0, none⟩) k cap) k (xs.take k) := by
  obtain ⟨h1, ⟨e, _⟩ | ⟨g', cap', cur, e, hg, hh, h2, h3, h4, h5⟩⟩ := h
  · cases e
  · injection e with e1 e2 e3
    injection e1 with e1
    injection e1 with e1 _ _
    subst e1 e3
    refine ⟨?_, Or.inr ⟨g, cap, cur, rfl, hg, hh, by omega, h3, h4, ?_⟩⟩
    · rw [List.length_take]; omega
    · rw [← h5, List.take_take]
      congr 1
      omega
def ofB (l : List Bs) : List ByteArray := l.map (fun x => ⟨x.toArray⟩)
theorem ofB_enc (l : List Bs) : (ofB l).map Value.string = l.map encStr := by simp [ofB, encStr, Function.comp_def]
theorem map_enc (l : List ByteArray) : l.map Value.string = (l.map dat).map encStr := by
  rw [List.map_map]
  exact List.map_congr_left (fun a _ => by simp only [Function.comp, encStr]; rw [mk_dat])
theorem compact_len (zs : List Bs) : (Lib.compact zs).length ≤ zs.length := by
  unfold Lib.compact Lib.compactUpTo
  rw [List.length_map]
  exact Nat.le_trans (List.length_filter_le _ _) (by simp)
/-- slices.Sort on a row of the call's own. -/
theorem sort_row {w : World} {base : Nat} {v : Value} {l : List ByteArray} (h : w.ownsRow base 9 1 v l.length (l.map .string)) (hle : l.length ≤ 1000000) :
    Calls Tryd.prog 61 #[v] w fun e w' => e = .returned (.tuple #[]) ∧ w'.ownsRow base 9 1 v l.length ((ofB (sortS (l.map dat))).map .string) ∧ w.grownBy w' v.ownBlock := by
  obtain ⟨h1, ⟨e, h0⟩ | ⟨g, cap, cur, e, hg, hh, h2, h3, h4, h5⟩⟩ := id h
  · subst e
    obtain rfl : l = [] := List.length_eq_zero_iff.1 h0
    refine (Tryd.slices_Sort_string_none none 0 w).mono ?_
    rintro e w1 ⟨rfl, rfl⟩
    exact ⟨rfl, by simpa [ofB, sortS] using h, ⟨rfl, rfl, rfl, Nat.le_refl _, fun _ _ _ => rfl⟩⟩
  · subst e
    have hlen : l.length = (l.map dat).length := by simp
    have hH : Holds encStr w g 0 (l.map dat).toArray := holds_of_block hh (by rw [← hlen, ← map_enc]; rw [Nat.mul_one] at h5; exact h5)
    rw [hlen]
    refine (Tryd.slices_Sort_string g 0 cap (l.map dat) w hH (lt_heap hh) (by rw [← hlen]; omega)).mono ?_
    rintro e w1 ⟨rfl, n, os, rfl⟩
    refine ⟨rfl, ?_, grownBy_sorted _⟩
    rw [ofB_enc]
    exact ownsRow_sorted (ss := l.map dat) (by simp) hg hh (by rw [← hlen]; exact h2) h3 h4
/-- slices.Compact on a row of the call's own. -/
theorem compact_row {w : World} {base : Nat} {v : Value} {d : List Bs} (h : w.ownsRow base 9 1 v d.length ((ofB d).map .string)) :
    Calls Tryd.prog 62 #[v] w fun e w' => ∃ v', e = .returned v' ∧ w'.ownsRow base 9 1 v' (ofB (Lib.compact d)).length ((ofB (Lib.compact d)).map .string) ∧ w.grownBy w' v.ownBlock := by
  have hl2 : (ofB (Lib.compact d)).length = (Lib.compact d).length := by simp [ofB]
  rw [hl2]
  obtain ⟨h1, ⟨e, h0⟩ | ⟨g, cap, cur, e, hg, hh, h2, h3, h4, h5⟩⟩ := id h
  · subst e
    obtain rfl : d = [] := List.length_eq_zero_iff.1 h0
    refine (Tryd.slices_Compact_string_empty none 0 w).mono ?_
    rintro e w1 ⟨rfl, rfl⟩
    exact ⟨_, rfl, h, ⟨rfl, rfl, rfl, Nat.le_refl _, fun _ _ _ => rfl⟩⟩
  · subst e
    have hcl := compact_len d
    have hH : Holds encStr w g 0 d.toArray := holds_of_block hh (by rw [← ofB_enc]; rw [Nat.mul_one] at h5; exact h5)
    refine (Tryd.slices_Compact_string g 0 cap d w hH (by unfold maxLen at h3; omega) h2).mono ?_
    rintro e w1 ⟨rfl, q, rfl⟩
    have hr := ownsRow_sorted (w := w) (base := base) (n := q) (os := #[]) (ss := d) (ts := Lib.compact d ++ List.replicate (d.length - (Lib.compact d).length) []) (by simp; omega) hg hh h2 h3 h4
    rw [grow_empty] at hr
    refine ⟨_, rfl, ?_, ?_⟩
    · have hc := ownsRow_cut hr hcl
      rw [← List.map_take, List.take_left] at hc
      rw [ofB_enc]
      exact hc
    · have := grownBy_sorted (w := w) (g := g) (n := q) (os := #[]) (Lib.compact d ++ List.replicate (d.length - (Lib.compact d).length) []).toArray
      rw [grow_empty] at this
      exact this
theorem below_of_grownBy {w w' : World} {B : Nat} {v : Value} (h : w.grownBy w' v.ownBlock) (hv : ∀ k, v.ownBlock = some k → B ≤ k) (hB : B ≤ w.heap.size) : Below B w w' :=
  ⟨h.os, h.tape, h.output, h.size, fun k hk => h.block k (by omega) (fun e => by have := hv k e.symm; omega)⟩
theorem own_ge {w : World} {base size n : Nat} {E : TypeId} {v : Value} {xs : List Value} (h : w.ownsRow base E size v n xs) : ∀ k, v.ownBlock = some k → base ≤ k := fun k e => (h.lt k e).1
set_option maxRecDepth 100000 in
set_option maxHeartbeats 4000000 in
/-- folform.Constants. -/
theorem constants_any (t : Fm) (cs : List Value) (w : World) (S : Nat → Prop) (ht : fmRep.R w S t cs) (hS : ∀ b, S b → b < w.heap.size) (hn : t.nodes ≤ 1000000) (hln : (fmFrees [] t).length ≤ 1000000) :
    Calls Tryd.prog 39 #[.agg cs.toArray] w fun e w' => ∃ v, e = .returned v ∧ w'.ownsRow w.heap.size 9 1 v (fmConsts t).length ((fmConsts t).map .string) ∧ Below w.heap.size w w' := by
  obtain ⟨A, n1, c1, B, n2, c2, rfl, _, _, _, _⟩ := Fm.shape ht
  obtain ⟨kd, hkd⟩ : ∃ k, t.lab.kind = k := ⟨_, rfl⟩
  obtain ⟨nm, hnm⟩ : ∃ k, t.lab.nm = k := ⟨_, rfl⟩
  rw [hkd, hnm] at ht ⊢
  have hv : ∀ W : World, W.heap.size = w.heap.size + 1 + 1 + 1 → (∀ b, b < w.heap.size → W.heap[b]? = w.heap[b]?) → W.heap[w.heap.size + 1]? = some (.cells #[.slice none 0 0] 22 (0, 0)) → W.heap[w.heap.size + 1 + 1]? = some (.cells #[.func (Fn.func 59) #[] #[.pointer (some ⟨w.heap.size + 1, 0, none⟩), .pointer (some ⟨w.heap.size + 1 + 1, 0, none⟩)]] 91 (0, 0)) →
      Calls Tryd.prog 59 #[.agg #[.int .i64 kd, .string nm, .slice A n1 c1, .slice B n2 c2], .slice none 0 0, .pointer (some ⟨w.heap.size + 1, 0, none⟩), .pointer (some ⟨w.heap.size + 1 + 1, 0, none⟩)] W fun e w' => e = .returned (.tuple #[]) ∧ ∃ v', w'.heap[w.heap.size + 1]? = some (.cells #[v'] 22 (0, 0)) ∧ w'.ownsRow w.heap.size 9 1 v' (fmFrees [] t).length ((fmFrees [] t).map .string) ∧ v'.ownBlock ≠ some (w.heap.size + 1) ∧ Below w.heap.size W w' := by
    intro W hz hk h1 h2
    refine (frees_any t.nodes t [.int .i64 kd, .string nm, .slice A n1 c1, .slice B n2 c2] W (fun k => S k ∨ k = w.heap.size + 1 + 1) none 0 0 [] (w.heap.size + 1) (w.heap.size + 1 + 1) (.slice none 0 0) [] (Nat.le_refl _) (fmRep.keep ht (fun b hb => hk b (hS b hb)) (fun _ h => Or.inl h)) (fun k hk => ⟨?_, ?_, by simp [Value.ownBlock]⟩) Rep.Sl.nil (Nat.le_refl _) (fun _ => rfl) (by simpa using hn) (Or.inr rfl) h2 ⟨h1, World.ownsRow_nil _ _ _ _, by simp [Value.ownBlock]⟩ (by simpa using hln)).mono ?_
    · rcases hk with hk | rfl
      · have := hS k hk; omega
      · omega
    · rcases hk with hk | rfl
      · have := hS k hk; omega
      · omega
    · rintro e w1 ⟨rfl, v', hb, hl⟩
      have hge : ∀ k, v'.ownBlock = some k → w.heap.size ≤ k := fun k e => by
        rcases hl.at_ k e with e | e
        · simp [Value.ownBlock] at e
        · omega
      refine ⟨rfl, v', hb.box, ?_, hb.ne, ⟨hl.os, hl.tape, hl.output, hl.size, fun k hk => hl.block k (by omega) (by omega) (by simp [Value.ownBlock])⟩⟩
      have := ownsRow_rebase hb.row hge
      simpa using this
  have efin : ofB (Lib.compact (sortS ((fmFrees [] t).map dat))) = fmConsts t := rfl
  have hlenS : (fmFrees [] t).length = (sortS ((fmFrees [] t).map dat)).length := by simp [sortS]
  clear ht hkd hnm
  have HV := Lib.hid hv
  have HS := Lib.hid hS
  clear hv hS
  go_enter Tryd.func39, Tryd.ntmps39
  go_wp2_with fail
  (with_reducible refine (HV.out _ ?hz ?hk ?h1 ?h3).mono ?_)
  case hz => simp
  case hk => exact fun b hb => heap_old (by first | (simp; done) | (simp; omega)) (heap_old (by first | (simp; done) | (simp; omega)) (heap_old hb rfl))
  case h1 => exact heap_old (by first | (simp; done) | (simp; omega)) (heap_at (by simp))
  case h3 => exact heap_at (by simp)
  rintro e w1 ⟨rfl, v1, hbox, hrow, hne, hk1⟩
  have hb : Below w.heap.size w w1 := (show Below w.heap.size w _ by go_grown).trans hk1
  have h0 := cellv hbox 0 rfl
  have hl := lt_heap hbox
  have hs := sort_row hrow hln
  clear hk1
  have HB := Lib.hid hb
  have HS := Lib.hid hs
  have HBOX := Lib.hid hbox
  have HROW := Lib.hid hrow
  have HNE := Lib.hid hne
  have EFIN := Lib.hid efin
  have HLENS := Lib.hid hlenS
  clear hb hs hbox hrow hne efin hlenS
  go_wp2_with fail
  (with_reducible refine HS.out.mono ?_)
  rintro e w2 ⟨rfl, hrow2, hg2⟩
  have hbox2 := (hg2.block (w.heap.size + 1) (lt_heap HBOX.out) (fun e => HNE.out e.symm)).trans HBOX.out
  have hb2 := HB.out.trans (below_of_grownBy hg2 (own_ge HROW.out) HB.out.size)
  have h20 := cellv hbox2 0 rfl
  have hl2 := lt_heap hbox2
  rw [HLENS.out] at hrow2
  have hc := compact_row hrow2
  have HROW2 := Lib.hid hrow2
  clear hg2 h0 hl hbox2 hrow2
  have HB2 := Lib.hid hb2
  have HC := Lib.hid hc
  clear hb2 hc
  go_wp2_with fail
  (with_reducible refine HC.out.mono ?_)
  rintro e w3 ⟨v3, rfl, hrow3, hg3⟩
  have hb3 := HB2.out.trans (below_of_grownBy hg3 (own_ge HROW2.out) HB2.out.size)
  rw [EFIN.out] at hrow3
  clear h20 hl2 hg3
  have HB3 := Lib.hid hb3
  have HROW3 := Lib.hid hrow3
  clear hb3 hrow3
  go_wp2_with fail
  refine bodyPost_ret (v := v3) (by simp [results, Tryd.results39, go_sem]) rfl ?_
  exact ⟨v3, rfl, HROW3.out, HB3.out⟩

end Go.Proofs.YtdofemkfmkopcaaDoor
