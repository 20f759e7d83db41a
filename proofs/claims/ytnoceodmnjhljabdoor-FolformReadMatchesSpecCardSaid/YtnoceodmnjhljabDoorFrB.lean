/-
  FormRead by parts: a parenthesis.
-/
import Derived.Test.YtnoceodmnjhljabDoorFrH
import Derived.Deep.DeepCutAuto
import Derived.Deep.RegionLaw
import Derived.BigQuiet
namespace Go.Proofs.YtnoceodmnjhljabDoor
open Go Go.RowKit
set_option linter.unusedSimpArgs false
set_option linter.unusedVariables false

theorem nonempty_of2 {s : ByteArray} (h : s ≠ ⟨#[]⟩) : s.toList.isEmpty = false := by
  cases e : s.toList.isEmpty
  · rfl
  · exact absurd (bytes_inj (by rw [List.isEmpty_iff.1 e]; simp)) h
theorem ne_list {a c : ByteArray} {l : List UInt8} (h : a ≠ c) (e : c.toList = l) : (a.toList == l) = false :=
  beq_eq_false_iff_ne.2 (fun h2 => h (bytes_inj (h2.trans e.symm)))
noncomputable def c_fr_f19 : Code := sub [1, 1, 1, 1, 1, 0, 0, 0, 1, 1, 1, 1, 1, 1, 1, 0, 1, 0, 0] (Tryd.f12.body.getD .skip)
set_option maxRecDepth 1000000 in
set_option maxHeartbeats 16000000 in
theorem fr_f19_wp {Q : Exit → Act → World → Prop} {x : ByteArray} {w : World} {frs : List F5} {Aq : Option Addr} {cq i n b D : Nat} {wo : World} (hx4 : x.size ≤ 4000) (hi : i < x.size) (hN : ∀ a', Frm 464 [(0, .string x), (2, .pointer (some ⟨w.heap.size, 0, none⟩)), (3, .pointer (some ⟨w.heap.size + 1, 0, none⟩)), (4, .pointer (some ⟨w.heap.size + 2, 0, none⟩)), (5, .slice Aq frs.length cq), (6, .int .i64 (i : Nat)), (7, .int .i64 (n : Nat)), (8, .int .u8 (b : Nat)), (9, .pointer (some ⟨D, 0, none⟩)), (10, .string (x.extract (i + 1) (nameE x (i + 1))))] a' → Q .normal a' wo) : ∀ ac, Frm 464 [(0, .string x), (2, .pointer (some ⟨w.heap.size, 0, none⟩)), (3, .pointer (some ⟨w.heap.size + 1, 0, none⟩)), (4, .pointer (some ⟨w.heap.size + 2, 0, none⟩)), (5, .slice Aq frs.length cq), (6, .int .i64 (i : Nat)), (7, .int .i64 (n : Nat)), (8, .int .u8 (b : Nat)), (9, .pointer (some ⟨D, 0, none⟩))] ac → Code.wp Tryd.prog c_fr_f19 Q ac wo := by
  refine frm_open ?_
  refine frame_fr ?_
  intros
  rename_i hq
  obtain ⟨-, -, e0q, e1q, e2q, e3q, e4q, e5q, e6q, e7q, e8q, -⟩ := hq
  have e0q := (Option.some.inj e0q).symm; subst e0q
  have e1q := (Option.some.inj e1q).symm; subst e1q
  have e2q := (Option.some.inj e2q).symm; subst e2q
  have e3q := (Option.some.inj e3q).symm; subst e3q
  have e4q := (Option.some.inj e4q).symm; subst e4q
  have e5q := (Option.some.inj e5q).symm; subst e5q
  have e6q := (Option.some.inj e6q).symm; subst e6q
  have e7q := (Option.some.inj e7q).symm; subst e7q
  have e8q := (Option.some.inj e8q).symm; subst e8q
  conv => arg 2; whnf
  have HN := Lib.hid hN
  clear hN
  have hi1 : ((i : Int) + 1) = ((i + 1 : Nat) : Int) := by omega
  have HI1 := Lib.hid hi1
  have hwd := word_any x (i + 1) wo hx4 (by omega)
  clear hi1
  have HWD := Lib.hid hwd
  clear hwd
  go_wp2_with fail
  rw [HI1.out]
  (with_reducible refine HWD.out.mono ?_)
  rintro e w' ⟨rfl, rfl⟩
  go_wp2_with fail
  exact HN.out _ (id ⟨rfl, rfl, rfl, rfl, rfl, rfl, rfl, rfl, rfl, rfl, rfl, rfl, trivial⟩)
noncomputable def c_fr_f20 : Code := sub [1, 1, 1, 1, 1, 0, 0, 0, 1, 1, 1, 1, 1, 1, 1, 0, 1, 0, 1, 0] (Tryd.f12.body.getD .skip)
set_option maxRecDepth 1000000 in
set_option maxHeartbeats 16000000 in
theorem fr_f20_wp {Q : Exit → Act → World → Prop} {x : ByteArray} {w : World} {frs : List F5} {Aq : Option Addr} {cq i n b D : Nat} {a : ByteArray} {e : Nat} {wo : World} (he : i + 1 + a.size = e) (h4 : e ≤ 9000) (hN : ∀ a', Frm 464 [(0, .string x), (2, .pointer (some ⟨w.heap.size, 0, none⟩)), (3, .pointer (some ⟨w.heap.size + 1, 0, none⟩)), (4, .pointer (some ⟨w.heap.size + 2, 0, none⟩)), (5, .slice Aq frs.length cq), (6, .int .i64 (i : Nat)), (7, .int .i64 (n : Nat)), (8, .int .u8 (b : Nat)), (9, .pointer (some ⟨D, 0, none⟩)), (10, .string a), (11, .int .i64 (e : Nat))] a' → Q .normal a' wo) : ∀ ac, Frm 464 [(0, .string x), (2, .pointer (some ⟨w.heap.size, 0, none⟩)), (3, .pointer (some ⟨w.heap.size + 1, 0, none⟩)), (4, .pointer (some ⟨w.heap.size + 2, 0, none⟩)), (5, .slice Aq frs.length cq), (6, .int .i64 (i : Nat)), (7, .int .i64 (n : Nat)), (8, .int .u8 (b : Nat)), (9, .pointer (some ⟨D, 0, none⟩)), (10, .string a)] ac → Code.wp Tryd.prog c_fr_f20 Q ac wo := by
  refine frm_open ?_
  refine frame_fr ?_
  intros
  rename_i hq
  obtain ⟨-, -, e0q, e1q, e2q, e3q, e4q, e5q, e6q, e7q, e8q, e9q, -⟩ := hq
  have e0q := (Option.some.inj e0q).symm; subst e0q
  have e1q := (Option.some.inj e1q).symm; subst e1q
  have e2q := (Option.some.inj e2q).symm; subst e2q
  have e3q := (Option.some.inj e3q).symm; subst e3q
  have e4q := (Option.some.inj e4q).symm; subst e4q
  have e5q := (Option.some.inj e5q).symm; subst e5q
  have e6q := (Option.some.inj e6q).symm; subst e6q
  have e7q := (Option.some.inj e7q).symm; subst e7q
  have e8q := (Option.some.inj e8q).symm; subst e8q
  have e9q := (Option.some.inj e9q).symm; subst e9q
  conv => arg 2; whnf
  have HN := Lib.hid hN
  clear hN
  have hw : (i : Int) + 1 + (a.size : Int) = ((e : Nat) : Int) := by omega
  have HW := Lib.hid hw
  clear hw
  go_wp2_with fail
  rw [HW.out]
  exact HN.out _ (id ⟨rfl, rfl, rfl, rfl, rfl, rfl, rfl, rfl, rfl, rfl, rfl, rfl, rfl, trivial⟩)
noncomputable def c_fr_f21 : Code := sub [1, 1, 1, 1, 1, 0, 0, 0, 1, 1, 1, 1, 1, 1, 1, 0, 1, 0, 1, 1, 0, 0] (Tryd.f12.body.getD .skip)
set_option maxRecDepth 1000000 in
set_option maxHeartbeats 16000000 in
theorem fr_f21_wp {Q : Exit → Act → World → Prop} {x : ByteArray} {w : World} {frs : List F5} {Aq : Option Addr} {cq i n b D : Nat} {a : ByteArray} {e : Nat} {wo : World} (hN : ∀ a', Frm 464 [(0, .string x), (2, .pointer (some ⟨w.heap.size, 0, none⟩)), (3, .pointer (some ⟨w.heap.size + 1, 0, none⟩)), (4, .pointer (some ⟨w.heap.size + 2, 0, none⟩)), (5, .slice Aq frs.length cq), (6, .int .i64 (i : Nat)), (7, .int .i64 (n : Nat)), (8, .int .u8 (b : Nat)), (9, .pointer (some ⟨D, 0, none⟩)), (10, .string a), (11, .int .i64 (e : Nat)), (101, .bool (decide (a ≠ ⟨#[]⟩ ∧ byteAt x e = 32)))] a' → Q .normal a' wo) : ∀ ac, Frm 464 [(0, .string x), (2, .pointer (some ⟨w.heap.size, 0, none⟩)), (3, .pointer (some ⟨w.heap.size + 1, 0, none⟩)), (4, .pointer (some ⟨w.heap.size + 2, 0, none⟩)), (5, .slice Aq frs.length cq), (6, .int .i64 (i : Nat)), (7, .int .i64 (n : Nat)), (8, .int .u8 (b : Nat)), (9, .pointer (some ⟨D, 0, none⟩)), (10, .string a), (11, .int .i64 (e : Nat))] ac → Code.wp Tryd.prog c_fr_f21 Q ac wo := by
  refine frm_open ?_
  refine frame_fr ?_
  intros
  rename_i hq
  obtain ⟨-, -, e0q, e1q, e2q, e3q, e4q, e5q, e6q, e7q, e8q, e9q, e10q, -⟩ := hq
  have e0q := (Option.some.inj e0q).symm; subst e0q
  have e1q := (Option.some.inj e1q).symm; subst e1q
  have e2q := (Option.some.inj e2q).symm; subst e2q
  have e3q := (Option.some.inj e3q).symm; subst e3q
  have e4q := (Option.some.inj e4q).symm; subst e4q
  have e5q := (Option.some.inj e5q).symm; subst e5q
  have e6q := (Option.some.inj e6q).symm; subst e6q
  have e7q := (Option.some.inj e7q).symm; subst e7q
  have e8q := (Option.some.inj e8q).symm; subst e8q
  have e9q := (Option.some.inj e9q).symm; subst e9q
  have e10q := (Option.some.inj e10q).symm; subst e10q
  conv => arg 2; whnf
  have HN := Lib.hid hN
  clear hN
  by_cases ha : a = ⟨#[]⟩
  · subst ha
    rw [show decide ((⟨#[]⟩ : ByteArray) ≠ ⟨#[]⟩ ∧ byteAt x e = 32) = false from decide_eq_false (fun h => h.1 rfl)] at HN
    go_wp2_with fail
    exact HN.out _ (id ⟨rfl, rfl, rfl, rfl, rfl, rfl, rfl, rfl, rfl, rfl, rfl, rfl, rfl, rfl, trivial⟩)
  have s1 : a.toList.isEmpty = false := nonempty_of2 ha
  have s2 : (a.toList == []) = false := beq_eq_false_iff_ne.2 (fun h => by rw [h] at s1; cases s1)
  have s3 : (a.toList != []) = true := bne_iff_ne.2 (fun h => by rw [h] at s1; cases s1)
  by_cases he : e < x.size
  case neg =>
    have q1 : ¬ (e : Int) < (x.size : Int) := by omega
    rw [show decide (a ≠ ⟨#[]⟩ ∧ byteAt x e = 32) = false from decide_eq_false (fun h => by rw [byteAt_out (by omega)] at h; cases h.2)] at HN
    clear ha
    go_wp2_with fail
    exact HN.out _ (id ⟨rfl, rfl, rfl, rfl, rfl, rfl, rfl, rfl, rfl, rfl, rfl, rfl, rfl, rfl, trivial⟩)
  have q1 : (e : Int) < (x.size : Int) := by omega
  have q0 : (0 : Int) ≤ (e : Int) := by omega
  have hb2 := byteAt_in he
  by_cases hc : (x[e]'he).toNat = 32
  · have q2 : ((((x[e]'he).toNat : Nat) : Int) == 32) = true := by rw [hc]; rfl
    rw [show decide (a ≠ ⟨#[]⟩ ∧ byteAt x e = 32) = true from decide_eq_true ⟨ha, by rw [hb2]; exact hc⟩] at HN
    clear ha hb2 hc
    go_wp2_with fail
    exact HN.out _ (id ⟨rfl, rfl, rfl, rfl, rfl, rfl, rfl, rfl, rfl, rfl, rfl, rfl, rfl, rfl, trivial⟩)
  · have q2 : ((((x[e]'he).toNat : Nat) : Int) == 32) = false := beq_eq_false_iff_ne.2 (by omega)
    rw [show decide (a ≠ ⟨#[]⟩ ∧ byteAt x e = 32) = false from decide_eq_false (fun h => hc (by rw [← hb2]; exact h.2))] at HN
    clear ha hb2 hc
    go_wp2_with fail
    exact HN.out _ (id ⟨rfl, rfl, rfl, rfl, rfl, rfl, rfl, rfl, rfl, rfl, rfl, rfl, rfl, rfl, trivial⟩)
noncomputable def c_fr_f22 : Code := sub [1, 1, 1, 1, 1, 0, 0, 0, 1, 1, 1, 1, 1, 1, 1, 0, 1, 0, 1, 1, 0, 1, 0, 0] (Tryd.f12.body.getD .skip)
set_option maxRecDepth 1000000 in
set_option maxHeartbeats 16000000 in
theorem fr_f22_wp {Q : Exit → Act → World → Prop} {x : ByteArray} {w : World} {frs : List F5} {Aq : Option Addr} {cq i n b D : Nat} {a : ByteArray} {e : Nat} {wo : World} (hN : ∀ a', Frm 464 [(0, .string x), (2, .pointer (some ⟨w.heap.size, 0, none⟩)), (3, .pointer (some ⟨w.heap.size + 1, 0, none⟩)), (4, .pointer (some ⟨w.heap.size + 2, 0, none⟩)), (5, .slice Aq frs.length cq), (6, .int .i64 (i : Nat)), (7, .int .i64 (n : Nat)), (8, .int .u8 (b : Nat)), (9, .pointer (some ⟨D, 0, none⟩)), (10, .string a), (11, .int .i64 (e : Nat)), (12, .bool (decide (isKey a)))] a' → Q .normal a' wo) : ∀ ac, Frm 464 [(0, .string x), (2, .pointer (some ⟨w.heap.size, 0, none⟩)), (3, .pointer (some ⟨w.heap.size + 1, 0, none⟩)), (4, .pointer (some ⟨w.heap.size + 2, 0, none⟩)), (5, .slice Aq frs.length cq), (6, .int .i64 (i : Nat)), (7, .int .i64 (n : Nat)), (8, .int .u8 (b : Nat)), (9, .pointer (some ⟨D, 0, none⟩)), (10, .string a), (11, .int .i64 (e : Nat))] ac → Code.wp Tryd.prog c_fr_f22 Q ac wo := by
  refine frm_open ?_
  refine frame_fr ?_
  intros
  rename_i hq
  obtain ⟨-, -, e0q, e1q, e2q, e3q, e4q, e5q, e6q, e7q, e8q, e9q, e10q, -⟩ := hq
  have e0q := (Option.some.inj e0q).symm; subst e0q
  have e1q := (Option.some.inj e1q).symm; subst e1q
  have e2q := (Option.some.inj e2q).symm; subst e2q
  have e3q := (Option.some.inj e3q).symm; subst e3q
  have e4q := (Option.some.inj e4q).symm; subst e4q
  have e5q := (Option.some.inj e5q).symm; subst e5q
  have e6q := (Option.some.inj e6q).symm; subst e6q
  have e7q := (Option.some.inj e7q).symm; subst e7q
  have e8q := (Option.some.inj e8q).symm; subst e8q
  have e9q := (Option.some.inj e9q).symm; subst e9q
  have e10q := (Option.some.inj e10q).symm; subst e10q
  conv => arg 2; whnf
  have HN := Lib.hid hN
  clear hN
  by_cases h1 : a = wTrue
  · subst h1
    rw [show decide (isKey wTrue) = true from by decide +kernel] at HN
    unfold wTrue at HN ⊢
    have t1 : ((⟨#[116, 114, 117, 101]⟩ : ByteArray).toList == [116, 114, 117, 101]) = true := by decide +kernel
    go_wp2_with fail
    exact HN.out _ (id ⟨rfl, rfl, rfl, rfl, rfl, rfl, rfl, rfl, rfl, rfl, rfl, rfl, rfl, rfl, trivial⟩)
  have t1 : (a.toList == [116, 114, 117, 101]) = false := ne_list h1 (by decide +kernel)
  by_cases h2 : a = wAll
  · subst h2
    rw [show decide (isKey wAll) = true from by decide +kernel] at HN
    unfold wAll at HN ⊢ t1
    have t2 : ((⟨#[97, 108, 108]⟩ : ByteArray).toList == [97, 108, 108]) = true := by decide +kernel
    clear h1
    go_wp2_with fail
    exact HN.out _ (id ⟨rfl, rfl, rfl, rfl, rfl, rfl, rfl, rfl, rfl, rfl, rfl, rfl, rfl, rfl, trivial⟩)
  have t2 : (a.toList == [97, 108, 108]) = false := ne_list h2 (by decide +kernel)
  by_cases h3 : a = wSome
  · subst h3
    rw [show decide (isKey wSome) = true from by decide +kernel] at HN
    unfold wSome at HN ⊢ t1 t2
    have t3 : ((⟨#[115, 111, 109, 101]⟩ : ByteArray).toList == [115, 111, 109, 101]) = true := by decide +kernel
    clear h1 h2
    go_wp2_with fail
    exact HN.out _ (id ⟨rfl, rfl, rfl, rfl, rfl, rfl, rfl, rfl, rfl, rfl, rfl, rfl, rfl, rfl, trivial⟩)
  have t3 : (a.toList == [115, 111, 109, 101]) = false := ne_list h3 (by decide +kernel)
  rw [show decide (isKey a) = false from decide_eq_false (fun h => by rcases h with h | h | h; exact h1 h; exact h2 h; exact h3 h)] at HN
  clear h1 h2 h3
  go_wp2_with fail
  exact HN.out _ (id ⟨rfl, rfl, rfl, rfl, rfl, rfl, rfl, rfl, rfl, rfl, rfl, rfl, rfl, rfl, trivial⟩)
noncomputable def c_fr_f23 : Code := sub [1, 1, 1, 1, 1, 0, 0, 0, 1, 1, 1, 1, 1, 1, 1, 0, 1, 0, 1, 1, 0, 1, 0, 1, 0] (Tryd.f12.body.getD .skip)
set_option maxRecDepth 1000000 in
set_option maxHeartbeats 16000000 in
theorem fr_f23_wp {Q : Exit → Act → World → Prop} {x : ByteArray} {w : World} {frs : List F5} {Aq : Option Addr} {cq i n b D : Nat} {a : ByteArray} {e : Nat} {bk : Bool} {wo : World} (h4 : e ≤ 9000) (hN : ∀ a', Frm 464 [(0, .string x), (2, .pointer (some ⟨w.heap.size, 0, none⟩)), (3, .pointer (some ⟨w.heap.size + 1, 0, none⟩)), (4, .pointer (some ⟨w.heap.size + 2, 0, none⟩)), (5, .slice Aq frs.length cq), (6, .int .i64 (i : Nat)), (7, .int .i64 (n : Nat)), (8, .int .u8 (b : Nat)), (9, .pointer (some ⟨D, 0, none⟩)), (10, .string a), (11, .int .i64 (e : Nat)), (12, .bool bk), (13, .bool (decide (byteAt x (e + 1) = 61)))] a' → Q .normal a' wo) : ∀ ac, Frm 464 [(0, .string x), (2, .pointer (some ⟨w.heap.size, 0, none⟩)), (3, .pointer (some ⟨w.heap.size + 1, 0, none⟩)), (4, .pointer (some ⟨w.heap.size + 2, 0, none⟩)), (5, .slice Aq frs.length cq), (6, .int .i64 (i : Nat)), (7, .int .i64 (n : Nat)), (8, .int .u8 (b : Nat)), (9, .pointer (some ⟨D, 0, none⟩)), (10, .string a), (11, .int .i64 (e : Nat)), (12, .bool bk)] ac → Code.wp Tryd.prog c_fr_f23 Q ac wo := by
  refine frm_open ?_
  refine frame_fr ?_
  intros
  rename_i hq
  obtain ⟨-, -, e0q, e1q, e2q, e3q, e4q, e5q, e6q, e7q, e8q, e9q, e10q, e11q, -⟩ := hq
  have e0q := (Option.some.inj e0q).symm; subst e0q
  have e1q := (Option.some.inj e1q).symm; subst e1q
  have e2q := (Option.some.inj e2q).symm; subst e2q
  have e3q := (Option.some.inj e3q).symm; subst e3q
  have e4q := (Option.some.inj e4q).symm; subst e4q
  have e5q := (Option.some.inj e5q).symm; subst e5q
  have e6q := (Option.some.inj e6q).symm; subst e6q
  have e7q := (Option.some.inj e7q).symm; subst e7q
  have e8q := (Option.some.inj e8q).symm; subst e8q
  have e9q := (Option.some.inj e9q).symm; subst e9q
  have e10q := (Option.some.inj e10q).symm; subst e10q
  have e11q := (Option.some.inj e11q).symm; subst e11q
  conv => arg 2; whnf
  have HN := Lib.hid hN
  clear hN
  by_cases he : e + 1 < x.size
  case neg =>
    have q1 : ¬ (e : Int) + 1 < (x.size : Int) := by omega
    rw [show decide (byteAt x (e + 1) = 61) = false from decide_eq_false (fun h => by rw [byteAt_out (by omega)] at h; cases h)] at HN
    go_wp2_with fail
    exact HN.out _ (id ⟨rfl, rfl, rfl, rfl, rfl, rfl, rfl, rfl, rfl, rfl, rfl, rfl, rfl, rfl, rfl, trivial⟩)
  have q1 : (e : Int) + 1 < (x.size : Int) := by omega
  have q0 : (0 : Int) ≤ (e : Int) + 1 := by omega
  have hb2 := byteAt_in he
  by_cases hc : (x[e + 1]'he).toNat = 61
  · have q2 : ((((x[e + 1]'he).toNat : Nat) : Int) == 61) = true := by rw [hc]; rfl
    rw [show decide (byteAt x (e + 1) = 61) = true from decide_eq_true (by rw [hb2]; exact hc)] at HN
    clear hb2 hc
    go_wp2_with fail
    exact HN.out _ (id ⟨rfl, rfl, rfl, rfl, rfl, rfl, rfl, rfl, rfl, rfl, rfl, rfl, rfl, rfl, rfl, trivial⟩)
  · have q2 : ((((x[e + 1]'he).toNat : Nat) : Int) == 61) = false := beq_eq_false_iff_ne.2 (by omega)
    rw [show decide (byteAt x (e + 1) = 61) = false from decide_eq_false (fun h => hc (by rw [← hb2]; exact h))] at HN
    clear hb2 hc
    go_wp2_with fail
    exact HN.out _ (id ⟨rfl, rfl, rfl, rfl, rfl, rfl, rfl, rfl, rfl, rfl, rfl, rfl, rfl, rfl, rfl, trivial⟩)
noncomputable def c_fr_f129 : Code := sub [1, 1, 1, 1, 1, 0, 0, 0, 1, 1, 1, 1, 1, 1, 1, 0, 1, 0, 1, 1, 0, 1, 0, 1, 1, 0] (Tryd.f12.body.getD .skip)
set_option maxRecDepth 1000000 in
set_option maxHeartbeats 16000000 in
theorem fr_f129_wp {Q : Exit → Act → World → Prop} {x : ByteArray} {w : World} {frs : List F5} {Aq : Option Addr} {cq i n b D : Nat} {a : ByteArray} {e : Nat} {bk bs : Bool} {wo : World} (h4 : e ≤ 9000) (hz : (wo.heap[w.heap.size]? = some (.cells #[.int .i64 0, .string ⟨#[]⟩, .slice none 0 0, .slice none 0 0] 34 (0, 0)) ∧ wo.heap[w.heap.size + 1]? = some (.cells #[.int .i64 0, .int .i64 0] 27 (0, 0)) ∧ wo.heap[w.heap.size + 2]? = some (.cells #[.int .i64 0, .string ⟨#[]⟩, .slice none 0 0, .slice none 0 0] 34 (0, 0)))) (hB : Below w.heap.size w wo) (hR : bs = false → bk = false → ∀ a' w', Frm 464 [(2, .pointer (some ⟨w.heap.size, 0, none⟩)), (3, .pointer (some ⟨w.heap.size + 1, 0, none⟩))] a' → w'.heap[w.heap.size]? = some (.cells #[.int .i64 0, .string ⟨#[]⟩, .slice none 0 0, .slice none 0 0] 34 (0, 0)) → w'.heap[w.heap.size + 1]? = some (.cells #[.int .i64 11, .int .i64 (e + 1 : Nat)] 27 (0, 0)) → Below w.heap.size w w' → Q .ret a' w') (hN : bs = true ∨ bk = true → ∀ a', Frm 464 [(0, .string x), (2, .pointer (some ⟨w.heap.size, 0, none⟩)), (3, .pointer (some ⟨w.heap.size + 1, 0, none⟩)), (4, .pointer (some ⟨w.heap.size + 2, 0, none⟩)), (5, .slice Aq frs.length cq), (6, .int .i64 (i : Nat)), (7, .int .i64 (n : Nat)), (8, .int .u8 (b : Nat)), (9, .pointer (some ⟨D, 0, none⟩)), (10, .string a), (11, .int .i64 (e : Nat)), (12, .bool bk), (13, .bool bs)] a' → Q .normal a' wo) : ∀ ac, Frm 464 [(0, .string x), (2, .pointer (some ⟨w.heap.size, 0, none⟩)), (3, .pointer (some ⟨w.heap.size + 1, 0, none⟩)), (4, .pointer (some ⟨w.heap.size + 2, 0, none⟩)), (5, .slice Aq frs.length cq), (6, .int .i64 (i : Nat)), (7, .int .i64 (n : Nat)), (8, .int .u8 (b : Nat)), (9, .pointer (some ⟨D, 0, none⟩)), (10, .string a), (11, .int .i64 (e : Nat)), (12, .bool bk), (13, .bool bs)] ac → Code.wp Tryd.prog c_fr_f129 Q ac wo := by
  refine frm_open ?_
  refine frame_fr ?_
  intros
  rename_i hq
  obtain ⟨-, -, e0q, e1q, e2q, e3q, e4q, e5q, e6q, e7q, e8q, e9q, e10q, e11q, e12q, -⟩ := hq
  have e0q := (Option.some.inj e0q).symm; subst e0q
  have e1q := (Option.some.inj e1q).symm; subst e1q
  have e2q := (Option.some.inj e2q).symm; subst e2q
  have e3q := (Option.some.inj e3q).symm; subst e3q
  have e4q := (Option.some.inj e4q).symm; subst e4q
  have e5q := (Option.some.inj e5q).symm; subst e5q
  have e6q := (Option.some.inj e6q).symm; subst e6q
  have e7q := (Option.some.inj e7q).symm; subst e7q
  have e8q := (Option.some.inj e8q).symm; subst e8q
  have e9q := (Option.some.inj e9q).symm; subst e9q
  have e10q := (Option.some.inj e10q).symm; subst e10q
  have e11q := (Option.some.inj e11q).symm; subst e11q
  have e12q := (Option.some.inj e12q).symm; subst e12q
  conv => arg 2; whnf
  have HR := Lib.hid hR
  have HN := Lib.hid hN
  clear hR hN
  obtain ⟨pz, pf, pn⟩ := hz
  have HB := Lib.hid hB
  clear hB
  have pz_0 := cv0 pz
  have pz_1 := cv1 pz
  have pz_2 := cv2 pz
  have pz_3 := cv3 pz
  have pz_f0 := free_heap pz 0
  have pz_f1 := free_heap pz 1
  have pz_f2 := free_heap pz 2
  have pz_f3 := free_heap pz 3
  have pz_l := lt_heap pz
  have PZ := Lib.hid pz
  clear pz
  have pf_0 := cv0 pf
  have pf_1 := cv1 pf
  have pf_f0 := free_heap pf 0
  have pf_f1 := free_heap pf 1
  have pf_l := lt_heap pf
  have PF := Lib.hid pf
  clear pf
  have pn_0 := cv0 pn
  have pn_1 := cv1 pn
  have pn_2 := cv2 pn
  have pn_3 := cv3 pn
  have pn_l := lt_heap pn
  have PN := Lib.hid pn
  clear pn
  have hw : ((e : Int) + 1) = ((e + 1 : Nat) : Int) := by omega
  have HWE := Lib.hid hw
  clear hw
  cases bs with
  | true =>
    replace HN := Lib.hid (HN.out (Or.inl rfl))
    go_wp2_with fail
    exact HN.out _ (id ⟨rfl, rfl, rfl, rfl, rfl, rfl, rfl, rfl, rfl, rfl, rfl, rfl, rfl, rfl, rfl, trivial⟩)
  | false =>
    cases bk with
    | true =>
      replace HN := Lib.hid (HN.out (Or.inr rfl))
      go_wp2_with fail
      exact HN.out _ (id ⟨rfl, rfl, rfl, rfl, rfl, rfl, rfl, rfl, rfl, rfl, rfl, rfl, rfl, rfl, rfl, trivial⟩)
    | false =>
      replace HR := Lib.hid (HR.out rfl rfl)
      go_wp2_with fail
      rw [HWE.out]
      exact HR.out _ _ (id ⟨rfl, rfl, rfl, rfl, trivial⟩) (far2 (by omega) (at4 PZ.out)) (at2 (far4 (by omega) PF.out)) (below2 (below4 HB.out (Nat.le_refl _)) (by omega))
noncomputable def c_fr_f26 : Code := sub [1, 1, 1, 1, 1, 0, 0, 0, 1, 1, 1, 1, 1, 1, 1, 0, 1, 0, 1, 1, 0, 1, 0, 1, 1, 1, 0] (Tryd.f12.body.getD .skip)
set_option maxRecDepth 1000000 in
set_option maxHeartbeats 16000000 in
theorem fr_f26_wp {Q : Exit → Act → World → Prop} {x : ByteArray} {w : World} {frs : List F5} {Aq : Option Addr} {cq i n b D : Nat} {a : ByteArray} {e : Nat} {bk bs : Bool} {wo : World} (hN : ∀ a', Frm 464 [(0, .string x), (2, .pointer (some ⟨w.heap.size, 0, none⟩)), (3, .pointer (some ⟨w.heap.size + 1, 0, none⟩)), (4, .pointer (some ⟨w.heap.size + 2, 0, none⟩)), (5, .slice Aq frs.length cq), (6, .int .i64 (i : Nat)), (7, .int .i64 (n : Nat)), (8, .int .u8 (b : Nat)), (9, .pointer (some ⟨D, 0, none⟩)), (10, .string a), (11, .int .i64 (e : Nat)), (12, .bool bk), (13, .bool bs), (134, .bool bs)] a' → Q .normal a' wo) : ∀ ac, Frm 464 [(0, .string x), (2, .pointer (some ⟨w.heap.size, 0, none⟩)), (3, .pointer (some ⟨w.heap.size + 1, 0, none⟩)), (4, .pointer (some ⟨w.heap.size + 2, 0, none⟩)), (5, .slice Aq frs.length cq), (6, .int .i64 (i : Nat)), (7, .int .i64 (n : Nat)), (8, .int .u8 (b : Nat)), (9, .pointer (some ⟨D, 0, none⟩)), (10, .string a), (11, .int .i64 (e : Nat)), (12, .bool bk), (13, .bool bs)] ac → Code.wp Tryd.prog c_fr_f26 Q ac wo := by
  refine frm_open ?_
  refine frame_fr ?_
  intros
  rename_i hq
  obtain ⟨-, -, e0q, e1q, e2q, e3q, e4q, e5q, e6q, e7q, e8q, e9q, e10q, e11q, e12q, -⟩ := hq
  have e0q := (Option.some.inj e0q).symm; subst e0q
  have e1q := (Option.some.inj e1q).symm; subst e1q
  have e2q := (Option.some.inj e2q).symm; subst e2q
  have e3q := (Option.some.inj e3q).symm; subst e3q
  have e4q := (Option.some.inj e4q).symm; subst e4q
  have e5q := (Option.some.inj e5q).symm; subst e5q
  have e6q := (Option.some.inj e6q).symm; subst e6q
  have e7q := (Option.some.inj e7q).symm; subst e7q
  have e8q := (Option.some.inj e8q).symm; subst e8q
  have e9q := (Option.some.inj e9q).symm; subst e9q
  have e10q := (Option.some.inj e10q).symm; subst e10q
  have e11q := (Option.some.inj e11q).symm; subst e11q
  have e12q := (Option.some.inj e12q).symm; subst e12q
  conv => arg 2; whnf
  have HN := Lib.hid hN
  clear hN
  go_wp2_with fail
  exact HN.out _ (id ⟨rfl, rfl, rfl, rfl, rfl, rfl, rfl, rfl, rfl, rfl, rfl, rfl, rfl, rfl, rfl, rfl, trivial⟩)
noncomputable def c_fr_f146 : Code := sub [1, 1, 1, 1, 1, 0, 0, 0, 1, 1, 1, 1, 1, 1, 1, 0, 1, 0, 1, 1, 0, 1, 0, 1, 1, 1, 1, 0, 0] (Tryd.f12.body.getD .skip)
set_option maxRecDepth 1000000 in
set_option maxHeartbeats 16000000 in
theorem fr_f146_wp {Q : Exit → Act → World → Prop} {x : ByteArray} {w : World} {frs : List F5} {Aq : Option Addr} {cq i n b D : Nat} {a : ByteArray} {e : Nat} {wo : World} (h4 : e ≤ 9000) (hz : (wo.heap[w.heap.size]? = some (.cells #[.int .i64 0, .string ⟨#[]⟩, .slice none 0 0, .slice none 0 0] 34 (0, 0)) ∧ wo.heap[w.heap.size + 1]? = some (.cells #[.int .i64 0, .int .i64 0] 27 (0, 0)) ∧ wo.heap[w.heap.size + 2]? = some (.cells #[.int .i64 0, .string ⟨#[]⟩, .slice none 0 0, .slice none 0 0] 34 (0, 0)))) (hB : Below w.heap.size w wo) (hR : byteAt x (e + 2) ≠ 32 → ∀ a' w', Frm 464 [(2, .pointer (some ⟨w.heap.size, 0, none⟩)), (3, .pointer (some ⟨w.heap.size + 1, 0, none⟩))] a' → w'.heap[w.heap.size]? = some (.cells #[.int .i64 0, .string ⟨#[]⟩, .slice none 0 0, .slice none 0 0] 34 (0, 0)) → w'.heap[w.heap.size + 1]? = some (.cells #[.int .i64 11, .int .i64 ((e : Int) + 2)] 27 (0, 0)) → Below w.heap.size w w' → Q .ret a' w') (hN : byteAt x (e + 2) = 32 → ∀ a', Frm 464 [(0, .string x), (2, .pointer (some ⟨w.heap.size, 0, none⟩)), (3, .pointer (some ⟨w.heap.size + 1, 0, none⟩)), (4, .pointer (some ⟨w.heap.size + 2, 0, none⟩)), (5, .slice Aq frs.length cq), (6, .int .i64 (i : Nat)), (7, .int .i64 (n : Nat)), (8, .int .u8 (b : Nat)), (9, .pointer (some ⟨D, 0, none⟩)), (10, .string a), (11, .int .i64 (e : Nat))] a' → Q .normal a' wo) : ∀ ac, Frm 464 [(0, .string x), (2, .pointer (some ⟨w.heap.size, 0, none⟩)), (3, .pointer (some ⟨w.heap.size + 1, 0, none⟩)), (4, .pointer (some ⟨w.heap.size + 2, 0, none⟩)), (5, .slice Aq frs.length cq), (6, .int .i64 (i : Nat)), (7, .int .i64 (n : Nat)), (8, .int .u8 (b : Nat)), (9, .pointer (some ⟨D, 0, none⟩)), (10, .string a), (11, .int .i64 (e : Nat))] ac → Code.wp Tryd.prog c_fr_f146 Q ac wo := by
  refine frm_open ?_
  refine frame_fr ?_
  intros
  rename_i hq
  obtain ⟨-, -, e0q, e1q, e2q, e3q, e4q, e5q, e6q, e7q, e8q, e9q, e10q, -⟩ := hq
  have e0q := (Option.some.inj e0q).symm; subst e0q
  have e1q := (Option.some.inj e1q).symm; subst e1q
  have e2q := (Option.some.inj e2q).symm; subst e2q
  have e3q := (Option.some.inj e3q).symm; subst e3q
  have e4q := (Option.some.inj e4q).symm; subst e4q
  have e5q := (Option.some.inj e5q).symm; subst e5q
  have e6q := (Option.some.inj e6q).symm; subst e6q
  have e7q := (Option.some.inj e7q).symm; subst e7q
  have e8q := (Option.some.inj e8q).symm; subst e8q
  have e9q := (Option.some.inj e9q).symm; subst e9q
  have e10q := (Option.some.inj e10q).symm; subst e10q
  conv => arg 2; whnf
  have HR := Lib.hid hR
  have HN := Lib.hid hN
  clear hR hN
  obtain ⟨pz, pf, pn⟩ := hz
  have HB := Lib.hid hB
  clear hB
  have pz_0 := cv0 pz
  have pz_1 := cv1 pz
  have pz_2 := cv2 pz
  have pz_3 := cv3 pz
  have pz_f0 := free_heap pz 0
  have pz_f1 := free_heap pz 1
  have pz_f2 := free_heap pz 2
  have pz_f3 := free_heap pz 3
  have pz_l := lt_heap pz
  have PZ := Lib.hid pz
  clear pz
  have pf_0 := cv0 pf
  have pf_1 := cv1 pf
  have pf_f0 := free_heap pf 0
  have pf_f1 := free_heap pf 1
  have pf_l := lt_heap pf
  have PF := Lib.hid pf
  clear pf
  have pn_0 := cv0 pn
  have pn_1 := cv1 pn
  have pn_2 := cv2 pn
  have pn_3 := cv3 pn
  have pn_l := lt_heap pn
  have PN := Lib.hid pn
  clear pn
  have hwE : (e : Int) + 2 = ((e + 2 : Nat) : Int) := by omega
  have HWE := Lib.hid hwE
  clear hwE
  by_cases hl2 : e + 2 < x.size
  case neg =>
    have q1 : (x.size : Int) ≤ (e : Int) + 2 := by omega
    have hch : byteAt x (e + 2) ≠ 32 := by rw [byteAt_out (by omega)]; decide
    replace HR := Lib.hid (HR.out hch)
    clear hch
    go_wp2_with fail
    exact HR.out _ _ (id ⟨rfl, rfl, rfl, rfl, trivial⟩) (far2 (by omega) (at4 PZ.out)) (at2 (far4 (by omega) PF.out)) (below2 (below4 HB.out (Nat.le_refl _)) (by omega))
  have q1 : ¬ (x.size : Int) ≤ (e : Int) + 2 := by omega
  have q0 : (0 : Int) ≤ (e : Int) + 2 := by omega
  have q3 : (e : Int) + 2 < (x.size : Int) := by omega
  have hb2 : byteAt x (e + 2) = (x[e + 2]'hl2).toNat := byteAt_in hl2
  by_cases hc2 : (x[e + 2]'hl2).toNat = 32
  · have q2 : ((((x[e + 2]'hl2).toNat : Nat) : Int) != 32) = false := by rw [hc2]; rfl
    have hch : byteAt x (e + 2) = 32 := by rw [hb2]; exact hc2
    clear hb2 hc2
    replace HN := Lib.hid (HN.out hch)
    clear hch
    go_wp2_with fail
    exact HN.out _ (id ⟨rfl, rfl, rfl, rfl, rfl, rfl, rfl, rfl, rfl, rfl, rfl, rfl, rfl, trivial⟩)
  · have q2 : ((((x[e + 2]'hl2).toNat : Nat) : Int) != 32) = true := bne_iff_ne.2 (by omega)
    have hch : byteAt x (e + 2) ≠ 32 := by rw [hb2]; exact hc2
    clear hb2 hc2
    replace HR := Lib.hid (HR.out hch)
    clear hch
    go_wp2_with fail
    exact HR.out _ _ (id ⟨rfl, rfl, rfl, rfl, trivial⟩) (far2 (by omega) (at4 PZ.out)) (at2 (far4 (by omega) PF.out)) (below2 (below4 HB.out (Nat.le_refl _)) (by omega))
noncomputable def c_fr_f29 : Code := sub [1, 1, 1, 1, 1, 0, 0, 0, 1, 1, 1, 1, 1, 1, 1, 0, 1, 0, 1, 1, 0, 1, 0, 1, 1, 1, 1, 0, 1, 0] (Tryd.f12.body.getD .skip)
set_option maxRecDepth 1000000 in
set_option maxHeartbeats 16000000 in
theorem fr_f29_wp {Q : Exit → Act → World → Prop} {x : ByteArray} {w : World} {frs : List F5} {Aq : Option Addr} {cq i n b D : Nat} {a : ByteArray} {e : Nat} {wo : World} (hx4 : x.size ≤ 4000) (he : e + 3 ≤ x.size) (hN : ∀ a', Frm 464 [(0, .string x), (2, .pointer (some ⟨w.heap.size, 0, none⟩)), (3, .pointer (some ⟨w.heap.size + 1, 0, none⟩)), (4, .pointer (some ⟨w.heap.size + 2, 0, none⟩)), (5, .slice Aq frs.length cq), (6, .int .i64 (i : Nat)), (7, .int .i64 (n : Nat)), (8, .int .u8 (b : Nat)), (9, .pointer (some ⟨D, 0, none⟩)), (10, .string a), (11, .int .i64 (e : Nat)), (14, .string (x.extract (e + 3) (nameE x (e + 3))))] a' → Q .normal a' wo) : ∀ ac, Frm 464 [(0, .string x), (2, .pointer (some ⟨w.heap.size, 0, none⟩)), (3, .pointer (some ⟨w.heap.size + 1, 0, none⟩)), (4, .pointer (some ⟨w.heap.size + 2, 0, none⟩)), (5, .slice Aq frs.length cq), (6, .int .i64 (i : Nat)), (7, .int .i64 (n : Nat)), (8, .int .u8 (b : Nat)), (9, .pointer (some ⟨D, 0, none⟩)), (10, .string a), (11, .int .i64 (e : Nat))] ac → Code.wp Tryd.prog c_fr_f29 Q ac wo := by
  refine frm_open ?_
  refine frame_fr ?_
  intros
  rename_i hq
  obtain ⟨-, -, e0q, e1q, e2q, e3q, e4q, e5q, e6q, e7q, e8q, e9q, e10q, -⟩ := hq
  have e0q := (Option.some.inj e0q).symm; subst e0q
  have e1q := (Option.some.inj e1q).symm; subst e1q
  have e2q := (Option.some.inj e2q).symm; subst e2q
  have e3q := (Option.some.inj e3q).symm; subst e3q
  have e4q := (Option.some.inj e4q).symm; subst e4q
  have e5q := (Option.some.inj e5q).symm; subst e5q
  have e6q := (Option.some.inj e6q).symm; subst e6q
  have e7q := (Option.some.inj e7q).symm; subst e7q
  have e8q := (Option.some.inj e8q).symm; subst e8q
  have e9q := (Option.some.inj e9q).symm; subst e9q
  have e10q := (Option.some.inj e10q).symm; subst e10q
  conv => arg 2; whnf
  have HN := Lib.hid hN
  clear hN
  have hwE : (e : Int) + 3 = ((e + 3 : Nat) : Int) := by omega
  have HWE := Lib.hid hwE
  clear hwE
  have hwd := word_any x (e + 3) wo hx4 (by omega)
  have HWD := Lib.hid hwd
  clear hwd
  go_wp2_with fail
  rw [HWE.out]
  (with_reducible refine HWD.out.mono ?_)
  rintro e w' ⟨rfl, rfl⟩
  go_wp2_with fail
  exact HN.out _ (id ⟨rfl, rfl, rfl, rfl, rfl, rfl, rfl, rfl, rfl, rfl, rfl, rfl, rfl, rfl, trivial⟩)
noncomputable def c_fr_f30 : Code := sub [1, 1, 1, 1, 1, 0, 0, 0, 1, 1, 1, 1, 1, 1, 1, 0, 1, 0, 1, 1, 0, 1, 0, 1, 1, 1, 1, 0, 1, 1, 0] (Tryd.f12.body.getD .skip)
set_option maxRecDepth 1000000 in
set_option maxHeartbeats 16000000 in
theorem fr_f30_wp {Q : Exit → Act → World → Prop} {x : ByteArray} {w : World} {frs : List F5} {Aq : Option Addr} {cq i n b D : Nat} {a : ByteArray} {e e2 : Nat} {a2 : ByteArray} {wo : World} (he : e + 3 + a2.size = e2) (h4 : e2 ≤ 9000) (hN : ∀ a', Frm 464 [(0, .string x), (2, .pointer (some ⟨w.heap.size, 0, none⟩)), (3, .pointer (some ⟨w.heap.size + 1, 0, none⟩)), (4, .pointer (some ⟨w.heap.size + 2, 0, none⟩)), (5, .slice Aq frs.length cq), (6, .int .i64 (i : Nat)), (7, .int .i64 (n : Nat)), (8, .int .u8 (b : Nat)), (9, .pointer (some ⟨D, 0, none⟩)), (10, .string a), (11, .int .i64 (e : Nat)), (14, .string a2), (15, .int .i64 (e2 : Nat))] a' → Q .normal a' wo) : ∀ ac, Frm 464 [(0, .string x), (2, .pointer (some ⟨w.heap.size, 0, none⟩)), (3, .pointer (some ⟨w.heap.size + 1, 0, none⟩)), (4, .pointer (some ⟨w.heap.size + 2, 0, none⟩)), (5, .slice Aq frs.length cq), (6, .int .i64 (i : Nat)), (7, .int .i64 (n : Nat)), (8, .int .u8 (b : Nat)), (9, .pointer (some ⟨D, 0, none⟩)), (10, .string a), (11, .int .i64 (e : Nat)), (14, .string a2)] ac → Code.wp Tryd.prog c_fr_f30 Q ac wo := by
  refine frm_open ?_
  refine frame_fr ?_
  intros
  rename_i hq
  obtain ⟨-, -, e0q, e1q, e2q, e3q, e4q, e5q, e6q, e7q, e8q, e9q, e10q, e11q, -⟩ := hq
  have e0q := (Option.some.inj e0q).symm; subst e0q
  have e1q := (Option.some.inj e1q).symm; subst e1q
  have e2q := (Option.some.inj e2q).symm; subst e2q
  have e3q := (Option.some.inj e3q).symm; subst e3q
  have e4q := (Option.some.inj e4q).symm; subst e4q
  have e5q := (Option.some.inj e5q).symm; subst e5q
  have e6q := (Option.some.inj e6q).symm; subst e6q
  have e7q := (Option.some.inj e7q).symm; subst e7q
  have e8q := (Option.some.inj e8q).symm; subst e8q
  have e9q := (Option.some.inj e9q).symm; subst e9q
  have e10q := (Option.some.inj e10q).symm; subst e10q
  have e11q := (Option.some.inj e11q).symm; subst e11q
  conv => arg 2; whnf
  have HN := Lib.hid hN
  clear hN
  have hw : (e : Int) + 3 + (a2.size : Int) = ((e2 : Nat) : Int) := by omega
  have HW := Lib.hid hw
  clear hw
  go_wp2_with fail
  rw [HW.out]
  exact HN.out _ (id ⟨rfl, rfl, rfl, rfl, rfl, rfl, rfl, rfl, rfl, rfl, rfl, rfl, rfl, rfl, rfl, trivial⟩)
noncomputable def c_fr_f173 : Code := sub [1, 1, 1, 1, 1, 0, 0, 0, 1, 1, 1, 1, 1, 1, 1, 0, 1, 0, 1, 1, 0, 1, 0, 1, 1, 1, 1, 0, 1, 1, 1, 0] (Tryd.f12.body.getD .skip)
set_option maxRecDepth 1000000 in
set_option maxHeartbeats 16000000 in
theorem fr_f173_wp {Q : Exit → Act → World → Prop} {x : ByteArray} {w : World} {frs : List F5} {Aq : Option Addr} {cq i n b D : Nat} {a : ByteArray} {e e2 : Nat} {a2 : ByteArray} {wo : World} (h4 : e2 ≤ 9000) (hz : (wo.heap[w.heap.size]? = some (.cells #[.int .i64 0, .string ⟨#[]⟩, .slice none 0 0, .slice none 0 0] 34 (0, 0)) ∧ wo.heap[w.heap.size + 1]? = some (.cells #[.int .i64 0, .int .i64 0] 27 (0, 0)) ∧ wo.heap[w.heap.size + 2]? = some (.cells #[.int .i64 0, .string ⟨#[]⟩, .slice none 0 0, .slice none 0 0] 34 (0, 0)))) (hB : Below w.heap.size w wo) (hR : (a2 = ⟨#[]⟩ ∨ byteAt x e2 ≠ 41) → ∀ a' w', Frm 464 [(2, .pointer (some ⟨w.heap.size, 0, none⟩)), (3, .pointer (some ⟨w.heap.size + 1, 0, none⟩))] a' → w'.heap[w.heap.size]? = some (.cells #[.int .i64 0, .string ⟨#[]⟩, .slice none 0 0, .slice none 0 0] 34 (0, 0)) → w'.heap[w.heap.size + 1]? = some (.cells #[.int .i64 11, .int .i64 (e2 : Nat)] 27 (0, 0)) → Below w.heap.size w w' → Q .ret a' w') (hN : a2 ≠ ⟨#[]⟩ → byteAt x e2 = 41 → ∀ a', Frm 464 [(0, .string x), (2, .pointer (some ⟨w.heap.size, 0, none⟩)), (3, .pointer (some ⟨w.heap.size + 1, 0, none⟩)), (4, .pointer (some ⟨w.heap.size + 2, 0, none⟩)), (5, .slice Aq frs.length cq), (6, .int .i64 (i : Nat)), (7, .int .i64 (n : Nat)), (8, .int .u8 (b : Nat)), (9, .pointer (some ⟨D, 0, none⟩)), (10, .string a), (11, .int .i64 (e : Nat)), (14, .string a2), (15, .int .i64 (e2 : Nat))] a' → Q .normal a' wo) : ∀ ac, Frm 464 [(0, .string x), (2, .pointer (some ⟨w.heap.size, 0, none⟩)), (3, .pointer (some ⟨w.heap.size + 1, 0, none⟩)), (4, .pointer (some ⟨w.heap.size + 2, 0, none⟩)), (5, .slice Aq frs.length cq), (6, .int .i64 (i : Nat)), (7, .int .i64 (n : Nat)), (8, .int .u8 (b : Nat)), (9, .pointer (some ⟨D, 0, none⟩)), (10, .string a), (11, .int .i64 (e : Nat)), (14, .string a2), (15, .int .i64 (e2 : Nat))] ac → Code.wp Tryd.prog c_fr_f173 Q ac wo := by
  refine frm_open ?_
  refine frame_fr ?_
  intros
  rename_i hq
  obtain ⟨-, -, e0q, e1q, e2q, e3q, e4q, e5q, e6q, e7q, e8q, e9q, e10q, e11q, e12q, -⟩ := hq
  have e0q := (Option.some.inj e0q).symm; subst e0q
  have e1q := (Option.some.inj e1q).symm; subst e1q
  have e2q := (Option.some.inj e2q).symm; subst e2q
  have e3q := (Option.some.inj e3q).symm; subst e3q
  have e4q := (Option.some.inj e4q).symm; subst e4q
  have e5q := (Option.some.inj e5q).symm; subst e5q
  have e6q := (Option.some.inj e6q).symm; subst e6q
  have e7q := (Option.some.inj e7q).symm; subst e7q
  have e8q := (Option.some.inj e8q).symm; subst e8q
  have e9q := (Option.some.inj e9q).symm; subst e9q
  have e10q := (Option.some.inj e10q).symm; subst e10q
  have e11q := (Option.some.inj e11q).symm; subst e11q
  have e12q := (Option.some.inj e12q).symm; subst e12q
  conv => arg 2; whnf
  have HR := Lib.hid hR
  have HN := Lib.hid hN
  clear hR hN
  obtain ⟨pz, pf, pn⟩ := hz
  have HB := Lib.hid hB
  clear hB
  have pz_0 := cv0 pz
  have pz_1 := cv1 pz
  have pz_2 := cv2 pz
  have pz_3 := cv3 pz
  have pz_f0 := free_heap pz 0
  have pz_f1 := free_heap pz 1
  have pz_f2 := free_heap pz 2
  have pz_f3 := free_heap pz 3
  have pz_l := lt_heap pz
  have PZ := Lib.hid pz
  clear pz
  have pf_0 := cv0 pf
  have pf_1 := cv1 pf
  have pf_f0 := free_heap pf 0
  have pf_f1 := free_heap pf 1
  have pf_l := lt_heap pf
  have PF := Lib.hid pf
  clear pf
  have pn_0 := cv0 pn
  have pn_1 := cv1 pn
  have pn_2 := cv2 pn
  have pn_3 := cv3 pn
  have pn_l := lt_heap pn
  have PN := Lib.hid pn
  clear pn
  by_cases ha : a2 = ⟨#[]⟩
  · subst ha
    replace HR := Lib.hid (HR.out (Or.inl rfl))
    go_wp2_with fail
    exact HR.out _ _ (id ⟨rfl, rfl, rfl, rfl, trivial⟩) (far2 (by omega) (at4 PZ.out)) (at2 (far4 (by omega) PF.out)) (below2 (below4 HB.out (Nat.le_refl _)) (by omega))
  have s1 : a2.toList.isEmpty = false := nonempty_of2 ha
  have s2 : (a2.toList == []) = false := beq_eq_false_iff_ne.2 (fun h => by rw [h] at s1; cases s1)
  have s3 : (a2.toList != []) = true := bne_iff_ne.2 (fun h => by rw [h] at s1; cases s1)
  replace HN := Lib.hid (HN.out ha)
  replace HR := Lib.hid (fun h => HR.out (Or.inr h))
  clear ha
  by_cases hl2 : e2 < x.size
  case neg =>
    have q1 : (x.size : Int) ≤ (e2 : Int) := by omega
    have hch : byteAt x (e2) ≠ 41 := by rw [byteAt_out (by omega)]; decide
    replace HR := Lib.hid (HR.out hch)
    clear hch
    go_wp2_with fail
    exact HR.out _ _ (id ⟨rfl, rfl, rfl, rfl, trivial⟩) (far2 (by omega) (at4 PZ.out)) (at2 (far4 (by omega) PF.out)) (below2 (below4 HB.out (Nat.le_refl _)) (by omega))
  have q1 : ¬ (x.size : Int) ≤ (e2 : Int) := by omega
  have q0 : (0 : Int) ≤ (e2 : Int) := by omega
  have q3 : (e2 : Int) < (x.size : Int) := by omega
  have hb2 : byteAt x (e2) = (x[e2]'hl2).toNat := byteAt_in hl2
  by_cases hc2 : (x[e2]'hl2).toNat = 41
  · have q2 : ((((x[e2]'hl2).toNat : Nat) : Int) != 41) = false := by rw [hc2]; rfl
    have hch : byteAt x (e2) = 41 := by rw [hb2]; exact hc2
    clear hb2 hc2
    replace HN := Lib.hid (HN.out hch)
    clear hch
    go_wp2_with fail
    exact HN.out _ (id ⟨rfl, rfl, rfl, rfl, rfl, rfl, rfl, rfl, rfl, rfl, rfl, rfl, rfl, rfl, rfl, trivial⟩)
  · have q2 : ((((x[e2]'hl2).toNat : Nat) : Int) != 41) = true := bne_iff_ne.2 (by omega)
    have hch : byteAt x (e2) ≠ 41 := by rw [hb2]; exact hc2
    clear hb2 hc2
    replace HR := Lib.hid (HR.out hch)
    clear hch
    go_wp2_with fail
    exact HR.out _ _ (id ⟨rfl, rfl, rfl, rfl, trivial⟩) (far2 (by omega) (at4 PZ.out)) (at2 (far4 (by omega) PF.out)) (below2 (below4 HB.out (Nat.le_refl _)) (by omega))
noncomputable def c_fr_f33 : Code := sub [1, 1, 1, 1, 1, 0, 0, 0, 1, 1, 1, 1, 1, 1, 1, 0, 1, 0, 1, 1, 0, 1, 0, 1, 1, 1, 1, 0, 1, 1, 1, 1, 0] (Tryd.f12.body.getD .skip)
set_option maxRecDepth 1000000 in
set_option maxHeartbeats 16000000 in
theorem fr_f33_wp {Q : Exit → Act → World → Prop} {x : ByteArray} {w : World} {frs : List F5} {Aq : Option Addr} {cq i n b D : Nat} {a : ByteArray} {e e2 : Nat} {a2 : ByteArray} {wo : World} (hm : GMem w wo frs Aq cq (D)) (hD : D < wo.heap.size) (hblk : ∀ b, (Value.slice Aq frs.length cq).ownBlock = some b → w.heap.size + 3 ≤ b ∧ b < D) (hd : wo.heap[D]? = some (.cells #[.int .i64 0, .string ⟨#[]⟩, .slice none 0 0, .slice none 0 0] 34 (0, 0))) (ha : a.size ≤ maxLen) (ha2 : a2.size ≤ maxLen) (hN : ∀ dc a' wx, Frm 464 [(0, .string x), (2, .pointer (some ⟨w.heap.size, 0, none⟩)), (3, .pointer (some ⟨w.heap.size + 1, 0, none⟩)), (4, .pointer (some ⟨w.heap.size + 2, 0, none⟩)), (5, .slice Aq frs.length cq), (6, .int .i64 (i : Nat)), (7, .int .i64 (n : Nat)), (8, .int .u8 (b : Nat)), (9, .pointer (some ⟨D, 0, none⟩))] a' → LeafF w wo wx frs Aq cq D (.same a a2) dc → Q .normal a' wx) : ∀ ac, Frm 464 [(0, .string x), (2, .pointer (some ⟨w.heap.size, 0, none⟩)), (3, .pointer (some ⟨w.heap.size + 1, 0, none⟩)), (4, .pointer (some ⟨w.heap.size + 2, 0, none⟩)), (5, .slice Aq frs.length cq), (6, .int .i64 (i : Nat)), (7, .int .i64 (n : Nat)), (8, .int .u8 (b : Nat)), (9, .pointer (some ⟨D, 0, none⟩)), (10, .string a), (11, .int .i64 (e : Nat)), (14, .string a2), (15, .int .i64 (e2 : Nat))] ac → Code.wp Tryd.prog c_fr_f33 Q ac wo := by
  refine frm_open ?_
  refine frame_fr ?_
  intros
  rename_i hq
  obtain ⟨-, -, e0q, e1q, e2q, e3q, e4q, e5q, e6q, e7q, e8q, e9q, e10q, e11q, e12q, -⟩ := hq
  have e0q := (Option.some.inj e0q).symm; subst e0q
  have e1q := (Option.some.inj e1q).symm; subst e1q
  have e2q := (Option.some.inj e2q).symm; subst e2q
  have e3q := (Option.some.inj e3q).symm; subst e3q
  have e4q := (Option.some.inj e4q).symm; subst e4q
  have e5q := (Option.some.inj e5q).symm; subst e5q
  have e6q := (Option.some.inj e6q).symm; subst e6q
  have e7q := (Option.some.inj e7q).symm; subst e7q
  have e8q := (Option.some.inj e8q).symm; subst e8q
  have e9q := (Option.some.inj e9q).symm; subst e9q
  have e10q := (Option.some.inj e10q).symm; subst e10q
  have e11q := (Option.some.inj e11q).symm; subst e11q
  have e12q := (Option.some.inj e12q).symm; subst e12q
  conv => arg 2; whnf
  have HN := Lib.hid hN
  clear hN
  have hbz := GsOk.base hm.fs
  obtain ⟨hown, hfrs, ⟨pz, pf, pn⟩, hB⟩ := hm
  have HOWN := Lib.hid hown
  have HFRS := Lib.hid hfrs
  have HB := Lib.hid hB
  have HBLK := Lib.hid hblk
  clear hown hfrs hB hblk
  have pz_0 := cv0 pz
  have pz_1 := cv1 pz
  have pz_2 := cv2 pz
  have pz_3 := cv3 pz
  have pz_f0 := free_heap pz 0
  have pz_f1 := free_heap pz 1
  have pz_f2 := free_heap pz 2
  have pz_f3 := free_heap pz 3
  have pz_l := lt_heap pz
  have PZ := Lib.hid pz
  clear pz
  have pf_0 := cv0 pf
  have pf_1 := cv1 pf
  have pf_f0 := free_heap pf 0
  have pf_f1 := free_heap pf 1
  have pf_l := lt_heap pf
  have PF := Lib.hid pf
  clear pf
  have pn_0 := cv0 pn
  have pn_1 := cv1 pn
  have pn_2 := cv2 pn
  have pn_3 := cv3 pn
  have pn_l := lt_heap pn
  have PN := Lib.hid pn
  clear pn
  have pd := hd
  clear hd
  have pd_0 := cv0 pd
  have pd_1 := cv1 pd
  have pd_2 := cv2 pd
  have pd_3 := cv3 pd
  have pd_f0 := free_heap pd 0
  have pd_f1 := free_heap pd 1
  have pd_f2 := free_heap pd 2
  have pd_f3 := free_heap pd 3
  have pd_l := lt_heap pd
  have PD := Lib.hid pd
  clear pd
  have hDs : D < wo.heap.size + 1 := by omega
  go_wp2_with fail
  have hnD : (Value.slice Aq frs.length cq).ownBlock ≠ some D := fun e => by have := (HBLK.out D e).2; omega
  refine gen_last (fun wx => LeafF w wo wx frs Aq cq D (.same a a2) [.int .i64 3, .string ⟨#[]⟩, .slice (some ⟨wo.heap.size, 0, none⟩) 2 2, .slice none 0 0]) ?_ (fun wx h9 => by exact HN.out _ _ wx (id ⟨rfl, rfl, rfl, rfl, rfl, rfl, rfl, rfl, rfl, rfl, rfl, trivial⟩) h9)
  refine ⟨⟨(oth4 (i := 0) hnD HOWN.out).alloc _, HFRS.out.keep (fun b h1 h2 h3 => heap_old (lt4 (by omega)) (far4 (by omega) rfl)) (fun _ _ e => e) (Nat.le_refl _), ⟨heap_old (lt4 (by omega)) (far4 (by omega) PZ.out), heap_old (lt4 (by omega)) (far4 (by omega) PF.out), heap_old (lt4 (by omega)) (far4 (by omega) PN.out)⟩, (below4 HB.out (by omega)).alloc (le4 (by omega)) _⟩, heap_old (lt4 (by omega)) (at4 PD.out), ?_, by rw [World.size_alloc]; exact Nat.le_succ_of_le (le4 (Nat.le_refl _))⟩
  refine Fm.shut (a := ⟨3, ⟨#[]⟩, [a, a2]⟩) (l := []) (show (⟨#[]⟩ : ByteArray).size ≤ maxLen by decide +kernel) ?_ Rep.Sl.nil
  exact ⟨_, 2, 2, rfl, rfl, by unfold maxLen; simp, fun _ => ⟨wo.heap.size, 0, [.string a, .string a2], rfl, ⟨Nat.le_refl _, by rw [World.size_alloc]; exact Nat.lt_succ_of_le (le4 (Nat.le_refl _))⟩, ⟨[.string a], [.string a2], rfl, ⟨rfl, ha⟩, ⟨[.string a2], [], rfl, ⟨rfl, ha2⟩, rfl⟩⟩, fun j u hj => by rw [Nat.zero_add]; exact cell_heap (heap_at size4.symm) (by simpa using hj)⟩⟩
noncomputable def c_fr_f34 : Code := sub [1, 1, 1, 1, 1, 0, 0, 0, 1, 1, 1, 1, 1, 1, 1, 0, 1, 0, 1, 1, 0, 1, 0, 1, 1, 1, 1, 0, 1, 1, 1, 1, 1] (Tryd.f12.body.getD .skip)
set_option maxRecDepth 1000000 in
set_option maxHeartbeats 16000000 in
theorem fr_f34_wp {Q : Exit → Act → World → Prop} {x : ByteArray} {w : World} {frs : List F5} {Aq : Option Addr} {cq i n b D e2 : Nat} {wo : World} (h4 : e2 ≤ 9000) (hN : ∀ a', Frm 464 [(0, .string x), (2, .pointer (some ⟨w.heap.size, 0, none⟩)), (3, .pointer (some ⟨w.heap.size + 1, 0, none⟩)), (4, .pointer (some ⟨w.heap.size + 2, 0, none⟩)), (5, .slice Aq frs.length cq), (6, .int .i64 (e2 + 1 : Nat)), (7, .int .i64 (n : Nat)), (8, .int .u8 (b : Nat)), (9, .pointer (some ⟨D, 0, none⟩)), (15, .int .i64 (e2 : Nat))] a' → Q .normal a' wo) : ∀ ac, Frm 464 [(0, .string x), (2, .pointer (some ⟨w.heap.size, 0, none⟩)), (3, .pointer (some ⟨w.heap.size + 1, 0, none⟩)), (4, .pointer (some ⟨w.heap.size + 2, 0, none⟩)), (5, .slice Aq frs.length cq), (6, .int .i64 (i : Nat)), (7, .int .i64 (n : Nat)), (8, .int .u8 (b : Nat)), (9, .pointer (some ⟨D, 0, none⟩)), (15, .int .i64 (e2 : Nat))] ac → Code.wp Tryd.prog c_fr_f34 Q ac wo := by
  refine frm_open ?_
  refine frame_fr ?_
  intros
  rename_i hq
  obtain ⟨-, -, e0q, e1q, e2q, e3q, e4q, e5q, e6q, e7q, e8q, e9q, -⟩ := hq
  have e0q := (Option.some.inj e0q).symm; subst e0q
  have e1q := (Option.some.inj e1q).symm; subst e1q
  have e2q := (Option.some.inj e2q).symm; subst e2q
  have e3q := (Option.some.inj e3q).symm; subst e3q
  have e4q := (Option.some.inj e4q).symm; subst e4q
  have e5q := (Option.some.inj e5q).symm; subst e5q
  have e6q := (Option.some.inj e6q).symm; subst e6q
  have e7q := (Option.some.inj e7q).symm; subst e7q
  have e8q := (Option.some.inj e8q).symm; subst e8q
  have e9q := (Option.some.inj e9q).symm; subst e9q
  conv => arg 2; whnf
  have HN := Lib.hid hN
  clear hN
  have hw : (e2 : Int) + 1 = ((e2 + 1 : Nat) : Int) := by omega
  have HW := Lib.hid hw
  clear hw
  go_wp2_with fail
  rw [HW.out]
  exact HN.out _ (id ⟨rfl, rfl, rfl, rfl, rfl, rfl, rfl, rfl, rfl, rfl, rfl, rfl, trivial⟩)

end Go.Proofs.YtnoceodmnjhljabDoor
