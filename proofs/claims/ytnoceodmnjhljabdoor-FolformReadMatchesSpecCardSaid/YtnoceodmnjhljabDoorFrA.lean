/-
  FormRead by parts: the round's head, a negation.
-/
import Derived.Test.YtnoceodmnjhljabDoorFrH
import Derived.Deep.DeepCutAuto
import Derived.Deep.RegionLaw
import Derived.BigQuiet
namespace Go.Proofs.YtnoceodmnjhljabDoor
open Go Go.RowKit
set_option linter.unusedSimpArgs false
set_option linter.unusedVariables false

noncomputable def c_fr_f6 : Code := sub [1, 1, 1, 1, 1, 0, 0, 0, 0] (Tryd.f12.body.getD .skip)
set_option maxRecDepth 1000000 in
set_option maxHeartbeats 16000000 in
theorem fr_f6_wp {Q : Exit → Act → World → Prop} {x : ByteArray} {w : World} {frs : List F5} {Aq : Option Addr} {cq i n : Nat} {wo : World} (hN : ∀ a', Frm 464 [(0, .string x), (2, .pointer (some ⟨w.heap.size, 0, none⟩)), (3, .pointer (some ⟨w.heap.size + 1, 0, none⟩)), (4, .pointer (some ⟨w.heap.size + 2, 0, none⟩)), (5, .slice Aq frs.length cq), (6, .int .i64 (i : Nat)), (7, .int .i64 (n : Nat)), (8, .int .u8 0)] a' → Q .normal a' wo) : ∀ ac, Frm 464 [(0, .string x), (2, .pointer (some ⟨w.heap.size, 0, none⟩)), (3, .pointer (some ⟨w.heap.size + 1, 0, none⟩)), (4, .pointer (some ⟨w.heap.size + 2, 0, none⟩)), (5, .slice Aq frs.length cq), (6, .int .i64 (i : Nat)), (7, .int .i64 (n : Nat))] ac → Code.wp Tryd.prog c_fr_f6 Q ac wo := by
  refine frm_open ?_
  refine frame_fr ?_
  intros
  rename_i hq
  obtain ⟨-, -, e0q, e1q, e2q, e3q, e4q, e5q, e6q, -⟩ := hq
  have e0q := (Option.some.inj e0q).symm; subst e0q
  have e1q := (Option.some.inj e1q).symm; subst e1q
  have e2q := (Option.some.inj e2q).symm; subst e2q
  have e3q := (Option.some.inj e3q).symm; subst e3q
  have e4q := (Option.some.inj e4q).symm; subst e4q
  have e5q := (Option.some.inj e5q).symm; subst e5q
  have e6q := (Option.some.inj e6q).symm; subst e6q
  conv => arg 2; whnf
  have HN := Lib.hid hN
  clear hN
  go_wp2_with fail
  exact HN.out _ (id ⟨rfl, rfl, rfl, rfl, rfl, rfl, rfl, rfl, rfl, rfl, trivial⟩)
noncomputable def c_fr_f35 : Code := sub [1, 1, 1, 1, 1, 0, 0, 0, 1, 0] (Tryd.f12.body.getD .skip)
set_option maxRecDepth 1000000 in
set_option maxHeartbeats 16000000 in
theorem fr_f35_wp {Q : Exit → Act → World → Prop} {x : ByteArray} {w : World} {frs : List F5} {Aq : Option Addr} {cq i n : Nat} {wo : World} (hN : ∀ a', Frm 464 [(0, .string x), (2, .pointer (some ⟨w.heap.size, 0, none⟩)), (3, .pointer (some ⟨w.heap.size + 1, 0, none⟩)), (4, .pointer (some ⟨w.heap.size + 2, 0, none⟩)), (5, .slice Aq frs.length cq), (6, .int .i64 (i : Nat)), (7, .int .i64 (n : Nat)), (8, .int .u8 (byteAt x i : Nat))] a' → Q .normal a' wo) : ∀ ac, Frm 464 [(0, .string x), (2, .pointer (some ⟨w.heap.size, 0, none⟩)), (3, .pointer (some ⟨w.heap.size + 1, 0, none⟩)), (4, .pointer (some ⟨w.heap.size + 2, 0, none⟩)), (5, .slice Aq frs.length cq), (6, .int .i64 (i : Nat)), (7, .int .i64 (n : Nat)), (8, .int .u8 0)] ac → Code.wp Tryd.prog c_fr_f35 Q ac wo := by
  refine frm_open ?_
  refine frame_fr ?_
  intros
  rename_i hq
  obtain ⟨-, -, e0q, e1q, e2q, e3q, e4q, e5q, e6q, e7q, -⟩ := hq
  have e0q := (Option.some.inj e0q).symm; subst e0q
  have e1q := (Option.some.inj e1q).symm; subst e1q
  have e2q := (Option.some.inj e2q).symm; subst e2q
  have e3q := (Option.some.inj e3q).symm; subst e3q
  have e4q := (Option.some.inj e4q).symm; subst e4q
  have e5q := (Option.some.inj e5q).symm; subst e5q
  have e6q := (Option.some.inj e6q).symm; subst e6q
  have e7q := (Option.some.inj e7q).symm; subst e7q
  conv => arg 2; whnf
  have HN := Lib.hid hN
  clear hN
  by_cases hi : i < x.size
  · have q1 : (i : Int) < (x.size : Int) := by omega
    have q0 : (0 : Int) ≤ (i : Int) := by omega
    rw [show byteAt x i = (x[i]'hi).toNat from byteAt_in hi] at HN
    go_wp2_with fail
    exact HN.out _ (id ⟨rfl, rfl, rfl, rfl, rfl, rfl, rfl, rfl, rfl, rfl, trivial⟩)
  · have q1 : ¬ (i : Int) < (x.size : Int) := by omega
    rw [show byteAt x i = 0 from byteAt_out (by omega)] at HN
    go_wp2_with fail
    exact HN.out _ (id ⟨rfl, rfl, rfl, rfl, rfl, rfl, rfl, rfl, rfl, rfl, trivial⟩)
noncomputable def c_fr_f52 : Code := sub [1, 1, 1, 1, 1, 0, 0, 0, 1, 1, 0] (Tryd.f12.body.getD .skip)
set_option maxRecDepth 1000000 in
set_option maxHeartbeats 16000000 in
theorem fr_f52_wp {Q : Exit → Act → World → Prop} {x : ByteArray} {w : World} {frs : List F5} {Aq : Option Addr} {cq i n b : Nat} {wo : World} (hz : (wo.heap[w.heap.size]? = some (.cells #[.int .i64 0, .string ⟨#[]⟩, .slice none 0 0, .slice none 0 0] 34 (0, 0)) ∧ wo.heap[w.heap.size + 1]? = some (.cells #[.int .i64 0, .int .i64 0] 27 (0, 0)) ∧ wo.heap[w.heap.size + 2]? = some (.cells #[.int .i64 0, .string ⟨#[]⟩, .slice none 0 0, .slice none 0 0] 34 (0, 0)))) (hB : Below w.heap.size w wo) (hR : ¬ startF b → ∀ a' w', Frm 464 [(2, .pointer (some ⟨w.heap.size, 0, none⟩)), (3, .pointer (some ⟨w.heap.size + 1, 0, none⟩))] a' → w'.heap[w.heap.size]? = some (.cells #[.int .i64 0, .string ⟨#[]⟩, .slice none 0 0, .slice none 0 0] 34 (0, 0)) → w'.heap[w.heap.size + 1]? = some (.cells #[.int .i64 11, .int .i64 (i : Nat)] 27 (0, 0)) → Below w.heap.size w w' → Q .ret a' w') (hN : startF b → ∀ a', Frm 464 [(0, .string x), (2, .pointer (some ⟨w.heap.size, 0, none⟩)), (3, .pointer (some ⟨w.heap.size + 1, 0, none⟩)), (4, .pointer (some ⟨w.heap.size + 2, 0, none⟩)), (5, .slice Aq frs.length cq), (6, .int .i64 (i : Nat)), (7, .int .i64 (n : Nat)), (8, .int .u8 (b : Nat))] a' → Q .normal a' wo) : ∀ ac, Frm 464 [(0, .string x), (2, .pointer (some ⟨w.heap.size, 0, none⟩)), (3, .pointer (some ⟨w.heap.size + 1, 0, none⟩)), (4, .pointer (some ⟨w.heap.size + 2, 0, none⟩)), (5, .slice Aq frs.length cq), (6, .int .i64 (i : Nat)), (7, .int .i64 (n : Nat)), (8, .int .u8 (b : Nat))] ac → Code.wp Tryd.prog c_fr_f52 Q ac wo := by
  refine frm_open ?_
  refine frame_fr ?_
  intros
  rename_i hq
  obtain ⟨-, -, e0q, e1q, e2q, e3q, e4q, e5q, e6q, e7q, -⟩ := hq
  have e0q := (Option.some.inj e0q).symm; subst e0q
  have e1q := (Option.some.inj e1q).symm; subst e1q
  have e2q := (Option.some.inj e2q).symm; subst e2q
  have e3q := (Option.some.inj e3q).symm; subst e3q
  have e4q := (Option.some.inj e4q).symm; subst e4q
  have e5q := (Option.some.inj e5q).symm; subst e5q
  have e6q := (Option.some.inj e6q).symm; subst e6q
  have e7q := (Option.some.inj e7q).symm; subst e7q
  conv => arg 2; whnf
  have HR := Lib.hid hR
  have HN := Lib.hid hN
  clear hR hN
  obtain ⟨pz, pf, pn⟩ := hz
  have HB := Lib.hid hB
  clear hB
  have pz_0 := cv0 pz
  have pz_1 := cv1 pz
  have pz_2 := cv2 pz
  have pz_3 := cv3 pz
  have pz_f0 := free_heap pz 0
  have pz_f1 := free_heap pz 1
  have pz_f2 := free_heap pz 2
  have pz_f3 := free_heap pz 3
  have pz_l := lt_heap pz
  have PZ := Lib.hid pz
  clear pz
  have pf_0 := cv0 pf
  have pf_1 := cv1 pf
  have pf_f0 := free_heap pf 0
  have pf_f1 := free_heap pf 1
  have pf_l := lt_heap pf
  have PF := Lib.hid pf
  clear pf
  have pn_0 := cv0 pn
  have pn_1 := cv1 pn
  have pn_2 := cv2 pn
  have pn_3 := cv3 pn
  have pn_l := lt_heap pn
  have PN := Lib.hid pn
  clear pn
  by_cases h1 : b = 45
  · have t1 : (((b : Nat) : Int) != 45) = false := by rw [h1]; rfl
    replace HN := Lib.hid (HN.out (Or.inl h1))
    clear h1
    go_wp2_with fail
    exact HN.out _ (id ⟨rfl, rfl, rfl, rfl, rfl, rfl, rfl, rfl, rfl, rfl, trivial⟩)
  have t1 : (((b : Nat) : Int) != 45) = true := bne_iff_ne.2 (by omega)
  by_cases h2 : b = 40
  · have t2 : (((b : Nat) : Int) != 40) = false := by rw [h2]; rfl
    replace HN := Lib.hid (HN.out (Or.inr (Or.inl h2)))
    clear h1 h2
    go_wp2_with fail
    exact HN.out _ (id ⟨rfl, rfl, rfl, rfl, rfl, rfl, rfl, rfl, rfl, rfl, trivial⟩)
  have t2 : (((b : Nat) : Int) != 40) = true := bne_iff_ne.2 (by omega)
  by_cases h3 : 97 ≤ b
  case neg =>
    have t3 : ((b : Nat) : Int) < 97 := by omega
    replace HR := Lib.hid (HR.out (by unfold startF; omega))
    clear h1 h2 h3
    go_wp2_with fail
    exact HR.out _ _ (id ⟨rfl, rfl, rfl, rfl, trivial⟩) (far2 (by omega) (at4 PZ.out)) (at2 (far4 (by omega) PF.out)) (below2 (below4 HB.out (Nat.le_refl _)) (by omega))
  have t3 : ¬ ((b : Nat) : Int) < 97 := by omega
  by_cases h4 : b ≤ 122
  · have t4 : ¬ 122 < ((b : Nat) : Int) := by omega
    replace HN := Lib.hid (HN.out (Or.inr (Or.inr ⟨h3, h4⟩)))
    clear h1 h2 h3 h4
    go_wp2_with fail
    exact HN.out _ (id ⟨rfl, rfl, rfl, rfl, rfl, rfl, rfl, rfl, rfl, rfl, trivial⟩)
  · have t4 : 122 < ((b : Nat) : Int) := by omega
    replace HR := Lib.hid (HR.out (by unfold startF; omega))
    clear h1 h2 h3 h4
    go_wp2_with fail
    exact HR.out _ _ (id ⟨rfl, rfl, rfl, rfl, trivial⟩) (far2 (by omega) (at4 PZ.out)) (at2 (far4 (by omega) PF.out)) (below2 (below4 HB.out (Nat.le_refl _)) (by omega))
noncomputable def c_fr_f11 : Code := sub [1, 1, 1, 1, 1, 0, 0, 0, 1, 1, 1, 0] (Tryd.f12.body.getD .skip)
set_option maxRecDepth 1000000 in
set_option maxHeartbeats 16000000 in
theorem fr_f11_wp {Q : Exit → Act → World → Prop} {x : ByteArray} {w : World} {frs : List F5} {Aq : Option Addr} {cq i n b : Nat} {wo : World} (hn : n ≤ 1000) (hN : ∀ a', Frm 464 [(0, .string x), (2, .pointer (some ⟨w.heap.size, 0, none⟩)), (3, .pointer (some ⟨w.heap.size + 1, 0, none⟩)), (4, .pointer (some ⟨w.heap.size + 2, 0, none⟩)), (5, .slice Aq frs.length cq), (6, .int .i64 (i : Nat)), (7, .int .i64 (n + 1 : Nat)), (8, .int .u8 (b : Nat))] a' → Q .normal a' wo) : ∀ ac, Frm 464 [(0, .string x), (2, .pointer (some ⟨w.heap.size, 0, none⟩)), (3, .pointer (some ⟨w.heap.size + 1, 0, none⟩)), (4, .pointer (some ⟨w.heap.size + 2, 0, none⟩)), (5, .slice Aq frs.length cq), (6, .int .i64 (i : Nat)), (7, .int .i64 (n : Nat)), (8, .int .u8 (b : Nat))] ac → Code.wp Tryd.prog c_fr_f11 Q ac wo := by
  refine frm_open ?_
  refine frame_fr ?_
  intros
  rename_i hq
  obtain ⟨-, -, e0q, e1q, e2q, e3q, e4q, e5q, e6q, e7q, -⟩ := hq
  have e0q := (Option.some.inj e0q).symm; subst e0q
  have e1q := (Option.some.inj e1q).symm; subst e1q
  have e2q := (Option.some.inj e2q).symm; subst e2q
  have e3q := (Option.some.inj e3q).symm; subst e3q
  have e4q := (Option.some.inj e4q).symm; subst e4q
  have e5q := (Option.some.inj e5q).symm; subst e5q
  have e6q := (Option.some.inj e6q).symm; subst e6q
  have e7q := (Option.some.inj e7q).symm; subst e7q
  conv => arg 2; whnf
  have HN := Lib.hid hN
  clear hN
  have hw : (n : Int) + 1 = ((n + 1 : Nat) : Int) := by omega
  have HW := Lib.hid hw
  clear hw
  go_wp2_with fail
  rw [HW.out]
  exact HN.out _ (id ⟨rfl, rfl, rfl, rfl, rfl, rfl, rfl, rfl, rfl, rfl, trivial⟩)
noncomputable def c_fr_f64 : Code := sub [1, 1, 1, 1, 1, 0, 0, 0, 1, 1, 1, 1, 0] (Tryd.f12.body.getD .skip)
set_option maxRecDepth 1000000 in
set_option maxHeartbeats 16000000 in
theorem fr_f64_wp {Q : Exit → Act → World → Prop} {x : ByteArray} {w : World} {frs : List F5} {Aq : Option Addr} {cq i n b : Nat} {wo : World} (hz : (wo.heap[w.heap.size]? = some (.cells #[.int .i64 0, .string ⟨#[]⟩, .slice none 0 0, .slice none 0 0] 34 (0, 0)) ∧ wo.heap[w.heap.size + 1]? = some (.cells #[.int .i64 0, .int .i64 0] 27 (0, 0)) ∧ wo.heap[w.heap.size + 2]? = some (.cells #[.int .i64 0, .string ⟨#[]⟩, .slice none 0 0, .slice none 0 0] 34 (0, 0)))) (hB : Below w.heap.size w wo) (hR : 200 < n ∨ 40 ≤ frs.length → ∀ a' w', Frm 464 [(2, .pointer (some ⟨w.heap.size, 0, none⟩)), (3, .pointer (some ⟨w.heap.size + 1, 0, none⟩))] a' → w'.heap[w.heap.size]? = some (.cells #[.int .i64 0, .string ⟨#[]⟩, .slice none 0 0, .slice none 0 0] 34 (0, 0)) → w'.heap[w.heap.size + 1]? = some (.cells #[.int .i64 1, .int .i64 (i : Nat)] 27 (0, 0)) → Below w.heap.size w w' → Q .ret a' w') (hN : ¬ (200 < n ∨ 40 ≤ frs.length) → ∀ a', Frm 464 [(0, .string x), (2, .pointer (some ⟨w.heap.size, 0, none⟩)), (3, .pointer (some ⟨w.heap.size + 1, 0, none⟩)), (4, .pointer (some ⟨w.heap.size + 2, 0, none⟩)), (5, .slice Aq frs.length cq), (6, .int .i64 (i : Nat)), (7, .int .i64 (n : Nat)), (8, .int .u8 (b : Nat))] a' → Q .normal a' wo) : ∀ ac, Frm 464 [(0, .string x), (2, .pointer (some ⟨w.heap.size, 0, none⟩)), (3, .pointer (some ⟨w.heap.size + 1, 0, none⟩)), (4, .pointer (some ⟨w.heap.size + 2, 0, none⟩)), (5, .slice Aq frs.length cq), (6, .int .i64 (i : Nat)), (7, .int .i64 (n : Nat)), (8, .int .u8 (b : Nat))] ac → Code.wp Tryd.prog c_fr_f64 Q ac wo := by
  refine frm_open ?_
  refine frame_fr ?_
  intros
  rename_i hq
  obtain ⟨-, -, e0q, e1q, e2q, e3q, e4q, e5q, e6q, e7q, -⟩ := hq
  have e0q := (Option.some.inj e0q).symm; subst e0q
  have e1q := (Option.some.inj e1q).symm; subst e1q
  have e2q := (Option.some.inj e2q).symm; subst e2q
  have e3q := (Option.some.inj e3q).symm; subst e3q
  have e4q := (Option.some.inj e4q).symm; subst e4q
  have e5q := (Option.some.inj e5q).symm; subst e5q
  have e6q := (Option.some.inj e6q).symm; subst e6q
  have e7q := (Option.some.inj e7q).symm; subst e7q
  conv => arg 2; whnf
  have HR := Lib.hid hR
  have HN := Lib.hid hN
  clear hR hN
  obtain ⟨pz, pf, pn⟩ := hz
  have HB := Lib.hid hB
  clear hB
  have pz_0 := cv0 pz
  have pz_1 := cv1 pz
  have pz_2 := cv2 pz
  have pz_3 := cv3 pz
  have pz_f0 := free_heap pz 0
  have pz_f1 := free_heap pz 1
  have pz_f2 := free_heap pz 2
  have pz_f3 := free_heap pz 3
  have pz_l := lt_heap pz
  have PZ := Lib.hid pz
  clear pz
  have pf_0 := cv0 pf
  have pf_1 := cv1 pf
  have pf_f0 := free_heap pf 0
  have pf_f1 := free_heap pf 1
  have pf_l := lt_heap pf
  have PF := Lib.hid pf
  clear pf
  have pn_0 := cv0 pn
  have pn_1 := cv1 pn
  have pn_2 := cv2 pn
  have pn_3 := cv3 pn
  have pn_l := lt_heap pn
  have PN := Lib.hid pn
  clear pn
  by_cases h1 : 200 < n
  · have q1 : (200 : Int) < (n : Int) := by omega
    replace HR := Lib.hid (HR.out (Or.inl h1))
    go_wp2_with fail
    exact HR.out _ _ (id ⟨rfl, rfl, rfl, rfl, trivial⟩) (far2 (by omega) (at4 PZ.out)) (at2 (far4 (by omega) PF.out)) (below2 (below4 HB.out (Nat.le_refl _)) (by omega))
  have q1 : ¬ (200 : Int) < (n : Int) := by omega
  by_cases h2 : 40 ≤ frs.length
  · have q2 : (40 : Int) ≤ (frs.length : Int) := by omega
    replace HR := Lib.hid (HR.out (Or.inr h2))
    go_wp2_with fail
    exact HR.out _ _ (id ⟨rfl, rfl, rfl, rfl, trivial⟩) (far2 (by omega) (at4 PZ.out)) (at2 (far4 (by omega) PF.out)) (below2 (below4 HB.out (Nat.le_refl _)) (by omega))
  · have q2 : ¬ (40 : Int) ≤ (frs.length : Int) := by omega
    replace HN := Lib.hid (HN.out (by omega))
    go_wp2_with fail
    exact HN.out _ (id ⟨rfl, rfl, rfl, rfl, rfl, rfl, rfl, rfl, rfl, rfl, trivial⟩)
noncomputable def c_fr_f14 : Code := sub [1, 1, 1, 1, 1, 0, 0, 0, 1, 1, 1, 1, 1, 0] (Tryd.f12.body.getD .skip)
set_option maxRecDepth 1000000 in
set_option maxHeartbeats 16000000 in
theorem fr_f14_wp {Q : Exit → Act → World → Prop} {x : ByteArray} {w : World} {frs : List F5} {Aq : Option Addr} {cq i n b : Nat} {wo : World} (hN : ∀ a', Frm 464 [(0, .string x), (2, .pointer (some ⟨w.heap.size, 0, none⟩)), (3, .pointer (some ⟨w.heap.size + 1, 0, none⟩)), (4, .pointer (some ⟨w.heap.size + 2, 0, none⟩)), (5, .slice Aq frs.length cq), (6, .int .i64 (i : Nat)), (7, .int .i64 (n : Nat)), (8, .int .u8 (b : Nat)), (9, .pointer (some ⟨wo.heap.size, 0, none⟩))] a' → Q .normal a' (wo.alloc (.cells #[.int .i64 0, .string ⟨#[]⟩, .slice none 0 0, .slice none 0 0] 34 (0, 0)))) : ∀ ac, Frm 464 [(0, .string x), (2, .pointer (some ⟨w.heap.size, 0, none⟩)), (3, .pointer (some ⟨w.heap.size + 1, 0, none⟩)), (4, .pointer (some ⟨w.heap.size + 2, 0, none⟩)), (5, .slice Aq frs.length cq), (6, .int .i64 (i : Nat)), (7, .int .i64 (n : Nat)), (8, .int .u8 (b : Nat))] ac → Code.wp Tryd.prog c_fr_f14 Q ac wo := by
  refine frm_open ?_
  refine frame_fr ?_
  intros
  rename_i hq
  obtain ⟨-, -, e0q, e1q, e2q, e3q, e4q, e5q, e6q, e7q, -⟩ := hq
  have e0q := (Option.some.inj e0q).symm; subst e0q
  have e1q := (Option.some.inj e1q).symm; subst e1q
  have e2q := (Option.some.inj e2q).symm; subst e2q
  have e3q := (Option.some.inj e3q).symm; subst e3q
  have e4q := (Option.some.inj e4q).symm; subst e4q
  have e5q := (Option.some.inj e5q).symm; subst e5q
  have e6q := (Option.some.inj e6q).symm; subst e6q
  have e7q := (Option.some.inj e7q).symm; subst e7q
  conv => arg 2; whnf
  have HN := Lib.hid hN
  clear hN
  go_wp2_with fail
  exact HN.out _ (id ⟨rfl, rfl, rfl, rfl, rfl, rfl, rfl, rfl, rfl, rfl, rfl, trivial⟩)
noncomputable def c_fr_f69 : Code := sub [1, 1, 1, 1, 1, 0, 0, 0, 1, 1, 1, 1, 1, 1, 0] (Tryd.f12.body.getD .skip)
set_option maxRecDepth 1000000 in
set_option maxHeartbeats 16000000 in
theorem fr_f69_wp {Q : Exit → Act → World → Prop} {x : ByteArray} {w : World} {frs : List F5} {Aq : Option Addr} {cq i n b D : Nat} {wo : World} (hx4 : x.size ≤ 4000) (hi : i ≤ x.size) (hl : frs.length ≤ 39) (hm : GMem w wo frs Aq cq (D)) (hD : D < wo.heap.size) (hblk : ∀ b, (Value.slice Aq frs.length cq).ownBlock = some b → w.heap.size + 3 ≤ b ∧ b < D) (hX : b = 45 → ∀ (gg cap : Nat) a' w', Frm 464 [(0, .string x), (2, .pointer (some ⟨w.heap.size, 0, none⟩)), (3, .pointer (some ⟨w.heap.size + 1, 0, none⟩)), (4, .pointer (some ⟨w.heap.size + 2, 0, none⟩)), (5, .slice (some ⟨gg, 0, none⟩) (frs.length + 1) cap), (6, .int .i64 (i + 1 : Nat)), (7, .int .i64 (n : Nat))] a' → GMem w w' (⟨.neg, .slice none 0 0⟩ :: frs) (some ⟨gg, 0, none⟩) cap w'.heap.size → Q (.exit 1) a' w') (hN : b ≠ 45 → ∀ a', Frm 464 [(0, .string x), (2, .pointer (some ⟨w.heap.size, 0, none⟩)), (3, .pointer (some ⟨w.heap.size + 1, 0, none⟩)), (4, .pointer (some ⟨w.heap.size + 2, 0, none⟩)), (5, .slice Aq frs.length cq), (6, .int .i64 (i : Nat)), (7, .int .i64 (n : Nat)), (8, .int .u8 (b : Nat)), (9, .pointer (some ⟨D, 0, none⟩))] a' → Q .normal a' wo) : ∀ ac, Frm 464 [(0, .string x), (2, .pointer (some ⟨w.heap.size, 0, none⟩)), (3, .pointer (some ⟨w.heap.size + 1, 0, none⟩)), (4, .pointer (some ⟨w.heap.size + 2, 0, none⟩)), (5, .slice Aq frs.length cq), (6, .int .i64 (i : Nat)), (7, .int .i64 (n : Nat)), (8, .int .u8 (b : Nat)), (9, .pointer (some ⟨D, 0, none⟩))] ac → Code.wp Tryd.prog c_fr_f69 Q ac wo := by
  refine frm_open ?_
  refine frame_fr ?_
  intros
  rename_i hq
  obtain ⟨-, -, e0q, e1q, e2q, e3q, e4q, e5q, e6q, e7q, e8q, -⟩ := hq
  have e0q := (Option.some.inj e0q).symm; subst e0q
  have e1q := (Option.some.inj e1q).symm; subst e1q
  have e2q := (Option.some.inj e2q).symm; subst e2q
  have e3q := (Option.some.inj e3q).symm; subst e3q
  have e4q := (Option.some.inj e4q).symm; subst e4q
  have e5q := (Option.some.inj e5q).symm; subst e5q
  have e6q := (Option.some.inj e6q).symm; subst e6q
  have e7q := (Option.some.inj e7q).symm; subst e7q
  have e8q := (Option.some.inj e8q).symm; subst e8q
  conv => arg 2; whnf
  have HX := Lib.hid hX
  have HN := Lib.hid hN
  clear hX hN
  obtain ⟨ti, hti, htz0, htz1, htz2⟩ := info_parts infoFrameF
  have hbz := GsOk.base hm.fs
  obtain ⟨hown, hfrs, ⟨pz, pf, pn⟩, hB⟩ := hm
  have HOWN := Lib.hid hown
  have HFRS := Lib.hid hfrs
  have HB := Lib.hid hB
  have HBLK := Lib.hid hblk
  clear hown hfrs hB hblk
  have pz_0 := cv0 pz
  have pz_1 := cv1 pz
  have pz_2 := cv2 pz
  have pz_3 := cv3 pz
  have pz_f0 := free_heap pz 0
  have pz_f1 := free_heap pz 1
  have pz_f2 := free_heap pz 2
  have pz_f3 := free_heap pz 3
  have pz_l := lt_heap pz
  have PZ := Lib.hid pz
  clear pz
  have pf_0 := cv0 pf
  have pf_1 := cv1 pf
  have pf_f0 := free_heap pf 0
  have pf_f1 := free_heap pf 1
  have pf_l := lt_heap pf
  have PF := Lib.hid pf
  clear pf
  have pn_0 := cv0 pn
  have pn_1 := cv1 pn
  have pn_2 := cv2 pn
  have pn_3 := cv3 pn
  have pn_l := lt_heap pn
  have PN := Lib.hid pn
  clear pn
  by_cases h40 : b = 45
  case neg =>
    have t1 : (((b : Nat) : Int) == 45) = false := beq_eq_false_iff_ne.2 (by omega)
    replace HN := Lib.hid (HN.out h40)
    clear h40
    go_wp2_with fail
    exact HN.out _ (id ⟨rfl, rfl, rfl, rfl, rfl, rfl, rfl, rfl, rfl, rfl, rfl, trivial⟩)
  have t1 : (((b : Nat) : Int) == 45) = true := by rw [h40]; rfl
  replace HX := Lib.hid (HX.out h40)
  have hi1 : ((i : Int) + 1) = ((i + 1 : Nat) : Int) := by omega
  have HI1 := Lib.hid hi1
  clear h40 hi1
  go_wp2_with (at_builtin; refine wpList_append_lies (wo.alloc (.cells #[.int .i64 4, .string ⟨#[]⟩, .slice none 0 0, .slice none 0 0, .bool false] 63)) ?h1 (.tmp 70) (.tmp 73) 61 ?h2 (w.heap.size + 3) 63 ti (.agg #[.int .i64 0, .string ⟨#[]⟩, .slice none 0 0, .slice none 0 0, .bool false]) 5 80 ?h3 hti htz0 htz1 htz2 ?h4 ?h5 (.slice Aq frs.length cq) frs.length (f5Cells frs) ?h6 ?h7 ⟨wo.heap.size, 0, none⟩ 1 1 [.int .i64 4, .string ⟨#[]⟩, .slice none 0 0, .slice none 0 0, .bool false] ?h8 ?h9 ?h10 ?h11 ?h12 ?h13 ?h14 ?h15 (wo.heap.size + 1) ?h16 ?_)
  try (case h1 => rfl)
  try (case h2 => rfl)
  try (case h3 => exact Tryd.underlying61)
  try (case h4 => rfl)
  try (case h5 => omega)
  try (case h6 => rfl)
  try (case h7 => exact HOWN.out.alloc _)
  try (case h8 => rfl)
  try (case h9 => rfl)
  try (case h10 => exact World.news_of_block (cs := #[.int .i64 4, .string ⟨#[]⟩, .slice none 0 0, .slice none 0 0, .bool false]) (t := 63) (fr := (0, 0)) (heap_alloc_new wo _))
  try (case h11 => simp [Value.oneCell'])
  try (case h12 => omega)
  try (case h13 => first | (simp [maxLen]; omega) | (unfold maxLen; omega))
  try (case h14 => omega)
  try (case h15 => first | omega | (simp; omega))
  try (case h16 => first | rfl | simp)
  intro gg cap w6 hown3 hgrow hat hlt
  have z6 : wo.heap.size + 1 ≤ w6.heap.size := by have := hgrow.size; simpa using this
  have HOWN3 := Lib.hid hown3
  have HGROW := Lib.hid hgrow
  have HAT := Lib.hid hat
  clear hown3 hgrow hat
  go_wp2_with fail
  rw [HI1.out]
  refine HX.out gg cap _ _ (id ⟨rfl, rfl, rfl, rfl, rfl, rfl, rfl, rfl, rfl, trivial⟩) ?_
  have hkeep : ∀ b, b < wo.heap.size → (Value.slice Aq frs.length cq).ownBlock ≠ some b → w6.heap[b]? = wo.heap[b]? := fun b hb hne => (HGROW.out.block b (by simp; omega) (fun e => hne e.symm)).trans (heap_old hb rfl)
  refine ⟨?_, ?_, ⟨?_, ?_, ?_⟩, ?_⟩
  · rw [f5Cells_cons]; exact HOWN3.out
  · refine GsOk.push (HFRS.out.keep (fun b h1 h2 h3 => hkeep b (by omega) h3) (fun b hb e => ?_) (by omega)) rfl (by decide +kernel)
    rcases HAT.out with h | h
    · rw [h]; exact e
    · simp only [Value.ownBlock, Option.some.injEq] at e; omega
  · exact (hkeep _ (by omega) (fun e => by have := HBLK.out _ e; omega)).trans PZ.out
  · exact (hkeep _ (by omega) (fun e => by have := HBLK.out _ e; omega)).trans PF.out
  · exact (hkeep _ (by omega) (fun e => by have := HBLK.out _ e; omega)).trans PN.out
  · exact (HB.out.alloc (by omega) _).grown HGROW.out (by simp; omega) (fun k hk => by have := HBLK.out k hk; omega)
noncomputable def c_fr_f18 : Code := sub [1, 1, 1, 1, 1, 0, 0, 0, 1, 1, 1, 1, 1, 1, 1, 0, 0] (Tryd.f12.body.getD .skip)
set_option maxRecDepth 1000000 in
set_option maxHeartbeats 16000000 in
theorem fr_f18_wp {Q : Exit → Act → World → Prop} {x : ByteArray} {w : World} {frs : List F5} {Aq : Option Addr} {cq i n b D : Nat} {wo : World}  (hN : ∀ a', Frm 464 [(0, .string x), (2, .pointer (some ⟨w.heap.size, 0, none⟩)), (3, .pointer (some ⟨w.heap.size + 1, 0, none⟩)), (4, .pointer (some ⟨w.heap.size + 2, 0, none⟩)), (5, .slice Aq frs.length cq), (6, .int .i64 (i : Nat)), (7, .int .i64 (n : Nat)), (8, .int .u8 (b : Nat)), (9, .pointer (some ⟨D, 0, none⟩)), (78, .bool (decide (b = 40)))] a' → Q .normal a' wo) : ∀ ac, Frm 464 [(0, .string x), (2, .pointer (some ⟨w.heap.size, 0, none⟩)), (3, .pointer (some ⟨w.heap.size + 1, 0, none⟩)), (4, .pointer (some ⟨w.heap.size + 2, 0, none⟩)), (5, .slice Aq frs.length cq), (6, .int .i64 (i : Nat)), (7, .int .i64 (n : Nat)), (8, .int .u8 (b : Nat)), (9, .pointer (some ⟨D, 0, none⟩))] ac → Code.wp Tryd.prog c_fr_f18 Q ac wo := by
  refine frm_open ?_
  refine frame_fr ?_
  intros
  rename_i hq
  obtain ⟨-, -, e0q, e1q, e2q, e3q, e4q, e5q, e6q, e7q, e8q, -⟩ := hq
  have e0q := (Option.some.inj e0q).symm; subst e0q
  have e1q := (Option.some.inj e1q).symm; subst e1q
  have e2q := (Option.some.inj e2q).symm; subst e2q
  have e3q := (Option.some.inj e3q).symm; subst e3q
  have e4q := (Option.some.inj e4q).symm; subst e4q
  have e5q := (Option.some.inj e5q).symm; subst e5q
  have e6q := (Option.some.inj e6q).symm; subst e6q
  have e7q := (Option.some.inj e7q).symm; subst e7q
  have e8q := (Option.some.inj e8q).symm; subst e8q
  conv => arg 2; whnf
  have HN := Lib.hid hN
  clear hN

  by_cases h40 : b = 40
  · have t1 : (((b : Nat) : Int) == 40) = true := by rw [h40]; rfl
    rw [show decide (b = 40) = true from decide_eq_true h40] at HN
    clear h40
    go_wp2_with fail
    exact HN.out _ (id ⟨rfl, rfl, rfl, rfl, rfl, rfl, rfl, rfl, rfl, rfl, rfl, rfl, trivial⟩)
  · have t1 : (((b : Nat) : Int) == 40) = false := beq_eq_false_iff_ne.2 (by omega)
    rw [show decide (b = 40) = false from decide_eq_false h40] at HN
    clear h40
    go_wp2_with fail
    exact HN.out _ (id ⟨rfl, rfl, rfl, rfl, rfl, rfl, rfl, rfl, rfl, rfl, rfl, rfl, trivial⟩)

end Go.Proofs.YtnoceodmnjhljabDoor
