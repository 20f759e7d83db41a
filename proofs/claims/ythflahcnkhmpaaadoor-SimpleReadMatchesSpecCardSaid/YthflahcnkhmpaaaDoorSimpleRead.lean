/-
  The reference's SimpleRead: the walk.
-/
import Derived.Test.YthflahcnkhmpaaaDoorProg
import Derived.Test.YthflahcnkhmpaaaDoorParse
import Derived.Test.YthflahcnkhmpaaaDoorReadType
namespace Go.Proofs.YthflahcnkhmpaaaDoor
open Go Go.RowKit
set_option linter.unusedSimpArgs false
set_option linter.unusedVariables false

set_option maxRecDepth 100000 in
set_option maxHeartbeats 1600000 in
theorem simpleRead_any (x : ByteArray) (w : World) (hx : x.size ≤ maxLen) : Calls Tryd.prog 22 #[.string x] w (ParseAt x w) := by
  unfold maxLen at hx
  by_cases hl : 4000 < x.size
  · have hfin : ∀ w', Below w.heap.size w w' → ParseAt x w (.returned (.tuple #[.agg #[.string ⟨#[]⟩, .slice none 0 0], .agg #[.int .i64 1, .int .i64 0]])) w' := by
      intro w' h
      unfold ParseAt parseC parseJ parseT
      rw [parse_long hl]
      exact ⟨_, _, rfl, zero_fresh _ _, h⟩
    have HFIN := Lib.hid hfin
    clear hfin
    go_enter Tryd.func22, Tryd.ntmps22
    go_wp2_with fail
    refine bodyPost_ret (v := .tuple #[.agg #[.string ⟨#[]⟩, .slice none 0 0], .agg #[.int .i64 1, .int .i64 0]]) (by simp [results, Tryd.results22, go_sem]) rfl ?_
    exact HFIN.out _ (by go_grown)
  have hx4 : x.size ≤ 4000 := by omega
  have HX4 := Lib.hid hx4
  have hp : parse x = match rd x 40 0 0 with | .bad c j => .inl (c, j) | .ok s j _ => if j < x.size then .inl (11, j) else .inr s := by unfold parse; rw [if_neg hl]; cases rd x 40 0 0 <;> rfl
  have hrr := runR_nil x 0 0
  go_enter Tryd.func22, Tryd.ntmps22
  go_wp2_with fail
  refine (readType_any x HX4.out 0 (Nat.zero_le _) _).mono ?_
  rw [hrr]
  unfold RtAt
  cases hr : rd x 40 0 0 with
  | bad c j =>
    have hc := (rd_bad x 40 0 0 _ _ hr (Nat.zero_le _)).2
    rw [hr] at hp
    simp only at hp ⊢
    clear hr hrr
    rintro e w1 ⟨rfl, hw1⟩
    have hc1 : ((c : Int) == 0) = false := beq_eq_false_iff_ne.2 (by omega)
    have hc2 : ((c : Int) != 0) = true := bne_iff_ne.2 (by omega)
    have z1 : w.heap.size + 2 ≤ w1.heap.size := by have := hw1.size; simpa using this
    have h0 := (hw1.block w.heap.size (by simp <;> omega)).trans (heap_old (by simp) (heap_at rfl))
    have h1 := (hw1.block (w.heap.size + 1) (by simp)).trans (heap_at (by simp))
    have hb : Below w.heap.size w w1 := (show Below w.heap.size w _ by go_grown).trans (hw1.mono (by simp; omega))
    have HP := Lib.hid hp
    have HC := Lib.hid hc
    have HB := Lib.hid hb
    have HW1 := Lib.hid hw1
    clear hp hc hb hw1
    have h0_0 := cv0 h0
    have h0_1 := cv1 h0
    have h0_f0 := free_heap h0 0
    have h0_f1 := free_heap h0 1
    have h0_l := lt_heap h0
    have H0 := Lib.hid h0
    clear h0
    have h1_0 := cv0 h1
    have h1_1 := cv1 h1
    have h1_f0 := free_heap h1 0
    have h1_f1 := free_heap h1 1
    have h1_l := lt_heap h1
    have H1 := Lib.hid h1
    clear h1
    go_wp2_with fail
    go_region
    all_goals go_wp2_with fail
    all_goals
      refine bodyPost_ret (v := .tuple #[.agg #[.string ⟨#[]⟩, .slice none 0 0], .agg #[.int .i64 c, .int .i64 j]]) (by simp [results, Tryd.results22, go_sem, h0_0, h0_1, h0_l, h1_0, h1_1, h1_l]) rfl ?_
      unfold ParseAt parseC parseJ parseT
      rw [HP.out]
      exact ⟨_, _, rfl, zero_fresh _ _, by first | exact ((((((HB.out.setCell (by simp) _).setCell (by simp) _).setCell (by simp) _).setCell (by simp) _).alloc (by simp [size_set]; omega) _).alloc (by simp [size_set]; omega) _).drew | go_grown⟩
  | ok s j m =>
    rw [hr] at hp
    simp only at hp ⊢
    clear hr hrr
    rintro e w1 ⟨v0, v1, rfl, ht, hw1⟩
    obtain ⟨sa, Aa, na, ca, rfl, rfl⟩ := ht.shape
    have z1 : w.heap.size + 2 ≤ w1.heap.size := by have := hw1.size; simpa using this
    have h0 := (hw1.block w.heap.size (by simp <;> omega)).trans (heap_old (by simp) (heap_at rfl))
    have h1 := (hw1.block (w.heap.size + 1) (by simp)).trans (heap_at (by simp))
    have hb : Below w.heap.size w w1 := (show Below w.heap.size w _ by go_grown).trans (hw1.mono (by simp; omega))
    have ht2 := ht.mono (S' := fun b => w.heap.size + 2 ≤ b ∧ b < w1.heap.size) (fun b hb => by have := hb.1; have := hb.2; simp at *; omega)
    have HT2 := Lib.hid ht2
    have HB := Lib.hid hb
    have HW1 := Lib.hid hw1
    have HT := Lib.hid ht
    clear ht2 hb hw1 ht
    have h0_0 := cv0 h0
    have h0_1 := cv1 h0
    have h0_f0 := free_heap h0 0
    have h0_f1 := free_heap h0 1
    have h0_l := lt_heap h0
    have H0 := Lib.hid h0
    clear h0
    have h1_0 := cv0 h1
    have h1_1 := cv1 h1
    have h1_f0 := free_heap h1 0
    have h1_f1 := free_heap h1 1
    have h1_l := lt_heap h1
    have H1 := Lib.hid h1
    clear h1
    by_cases hj : j < x.size
    · rw [if_pos hj] at hp
      have HP := Lib.hid hp
      clear hp
      go_wp2_with fail
      go_region
      all_goals go_wp2_with fail
      all_goals
        refine bodyPost_ret (v := .tuple #[.agg #[.string ⟨#[]⟩, .slice none 0 0], .agg #[.int .i64 11, .int .i64 j]]) (by simp [results, Tryd.results22, go_sem, h0_0, h0_1, h0_l, h1_0, h1_1, h1_l]) rfl ?_
        unfold ParseAt parseC parseJ parseT
        rw [HP.out]
        exact ⟨_, _, rfl, zero_fresh _ _, ((((((HB.out.setCell (by simp) _).setCell (by simp) _).setCell (by simp) _).setCell (by simp) _).alloc (by simp [size_set]; omega) _).alloc (by simp [size_set]; omega) _).drew⟩
    · rw [if_neg hj] at hp
      have HP := Lib.hid hp
      clear hp
      go_wp2_with fail
      go_region
      all_goals go_wp2_with fail
      all_goals
        refine bodyPost_ret (v := .tuple #[.agg #[.string sa, .slice Aa na ca], .agg #[.int .i64 0, .int .i64 0]]) (by simp [results, Tryd.results22, go_sem, h0_0, h0_1, h0_l, h1_0, h1_1, h1_l]) rfl ?_
        unfold ParseAt parseC parseJ parseT
        rw [HP.out]
        refine ⟨_, _, rfl, ?_, ((((((HB.out.setCell (by simp) _).setCell (by simp) _).setCell (by simp) _).setCell (by simp) _).alloc (by simp [size_set]; omega) _).alloc (by simp [size_set]; omega) _).drew⟩
        refine Ty.In_keep (fun b hb => ?_) (fun b hb => ?_) _ _ _ HT2.out
        · obtain ⟨h1, h2⟩ : w.heap.size + 2 ≤ b ∧ b < w1.heap.size := hb
          exact heap_old (by simp [size_set]; omega) (heap_old (by simp [size_set]; omega) (heap_far _ (by omega) (heap_far _ (by omega) (heap_far _ (by omega) (heap_far _ (by omega) rfl)))))
        · obtain ⟨h1, h2⟩ : w.heap.size + 2 ≤ b ∧ b < w1.heap.size := hb
          exact ⟨by omega, by simp [size_set]; omega⟩

end Go.Proofs.YthflahcnkhmpaaaDoor
