/-
  The text of a simple type: simple.write, simple.Text, simple.Print; the reference's SimpleText.
-/
import Derived.Test.YtnoceodmnjhljaaDoorBuilder
import Derived.Test.YtnoceodmnjhljaaDoorSyBytes
import Derived.Test.YtnoceodmnjhljaaDoorShelf
namespace Go.Proofs.YtnoceodmnjhljaaDoor
open Go Go.RowKit
set_option linter.unusedSimpArgs false
set_option linter.unusedVariables false

/-- What lies in blocks below the builder's base stays as it is. -/
theorem Ty.In.keepB {w w' : World} {S : Nat → Prop} {t : Ty} {v0 v1 : Value} {base b : Nat} (h : Ty.In w S t v0 v1) (hk : KeepB base b w w') (hS : ∀ k, S k → k < base) (hB : base ≤ b) (hw : base ≤ w.heap.size) : Ty.In w' S t v0 v1 :=
  h.below (hk.below hB hw) hS
theorem Bld.lt {base b : Nat} {l : List UInt8} {w : World} (h : Bld base b l w) : base ≤ w.heap.size := by
  obtain ⟨hB, p, v, _, hh, _⟩ := h
  have := lt_heap hh
  omega

theorem Bld.lt' {base b : Nat} {l : List UInt8} {w : World} (h : Bld base b l w) : b < w.heap.size := by
  obtain ⟨hB, p, v, _, hh, _⟩ := h
  exact lt_heap hh

set_option maxHeartbeats 2000000 in
set_option maxRecDepth 100000 in
theorem write_any : ∀ (s : Sy) (v0 v1 : Value) (w : World) (S : Nat → Prop) (base b : Nat) (l : List UInt8), s.ty.In w S v0 v1 → (∀ k, S k → k < base) → Bld base b l w → l.length + s.bytes.length ≤ 140737488355328 →
    Calls Tryd.prog 52 #[.pointer (some ⟨b, 0, none⟩), .agg #[v0, v1]] w fun e w' => e = .returned (.tuple #[]) ∧ Bld base b (l ++ s.bytes) w' ∧ KeepB base b w w' := by
  intro s
  induction s with
  | e =>
    intro v0 v1 w S base b l h hS hB hl
    obtain ⟨A, c, rfl, rfl⟩ := Sy.In_e h
    have hl' : l.length + bE.size ≤ 140737488355328 := hl
    clear h hS hl
    have HB := Lib.hid hB
    clear hB
    go_enter Tryd.func52, Tryd.ntmps52
    go_wp2_with fail
    refine (writeString_any base b l bE _ (HB.out.alloc _) hl').mono ?_
    rintro e w1 ⟨rfl, hB1, hk1⟩
    have HB1 := Lib.hid hB1
    have HK1 := Lib.hid hk1
    clear hB1 hk1
    go_wp2_with fail
    refine bodyPost_ret (results_none rfl _ _ _) rfl ?_
    exact ⟨rfl, by simpa [Sy.bytes, bE_list] using HB1.out, ((KeepB.refl _ _ _).alloc _).trans HK1.out⟩
  | t =>
    intro v0 v1 w S base b l h hS hB hl
    obtain ⟨A, c, rfl, rfl⟩ := Sy.In_t h
    have hl' : l.length + bT.size ≤ 140737488355328 := hl
    clear h hS hl
    have HB := Lib.hid hB
    clear hB
    go_enter Tryd.func52, Tryd.ntmps52
    go_wp2_with fail
    refine (writeString_any base b l bT _ (HB.out.alloc _) hl').mono ?_
    rintro e w1 ⟨rfl, hB1, hk1⟩
    have HB1 := Lib.hid hB1
    have HK1 := Lib.hid hk1
    clear hB1 hk1
    go_wp2_with fail
    refine bodyPost_ret (results_none rfl _ _ _) rfl ?_
    exact ⟨rfl, by simpa [Sy.bytes, bT_list] using HB1.out, ((KeepB.refl _ _ _).alloc _).trans HK1.out⟩
  | fn a b' iha ihb =>
    intro v0 v1 w S base b l h hS hB hl
    have IA := Lib.hid iha
    have IB := Lib.hid ihb
    clear iha ihb
    obtain ⟨bl, o, c, x0, x1, y0, y1, rfl, rfl, hSb, f0, f1, f2, f3, ha, hb⟩ := Sy.In_fn h
    have hbl : bl < base := hS bl hSb
    have hbw := hB.lt
    have hbb := hB.1
    have hbne : w.heap.size ≠ b := by have := hB.lt'; omega
    have hlen : l.length + (a.bytes.length + b'.bytes.length + 3) ≤ 140737488355328 := by simp [Sy.bytes] at hl; omega
    have G0 := Lib.hid f0
    have G1 := Lib.hid f1
    have G2 := Lib.hid f2
    have G3 := Lib.hid f3
    have HA := Lib.hid ha
    have HB' := Lib.hid hb
    have HS := Lib.hid hS
    have HB := Lib.hid hB
    clear ha hb hS h hB hl f0 f1 f2 f3
    go_enter Tryd.func52, Tryd.ntmps52
    go_wp2_with fail
    refine (writeByte_any base b l 40 _ (HB.out.alloc _) (by omega)).mono ?_
    rintro e w1 ⟨rfl, hB1, hk1⟩
    have h1 : w1.heap[w.heap.size]? = some (.cells #[.string bNil, .slice (some ⟨bl, o, none⟩) 2 c] 24 (0, 0)) := hk1.typed (heap_at rfl) (by decide) hbne
    have hk1 : KeepB base b w w1 := ((KeepB.refl _ _ _).alloc _).trans hk1
    have k0 := cellv h1 0 rfl
    have k1 := cellv h1 1 rfl
    have f0 := (cell_keep (hk1.block bl (by omega) (by omega) (Or.inl hbl)) o).trans G0.out
    have f1 := (cell_keep (hk1.block bl (by omega) (by omega) (Or.inl hbl)) (o + 1)).trans G1.out
    have f2 := (cell_keep (hk1.block bl (by omega) (by omega) (Or.inl hbl)) (o + 2)).trans G2.out
    have f3 := (cell_keep (hk1.block bl (by omega) (by omega) (Or.inl hbl)) (o + 2 + 1)).trans G3.out
    have z1 := lt_heap h1
    have HB1 := Lib.hid hB1
    have HK1 := Lib.hid hk1
    have H1 := Lib.hid h1
    clear hB1 hk1 h1
    go_wp2_with fail
    refine (IA.out x0 x1 _ S base b _ (HA.out.keepB HK1.out HS.out hbb hbw) HS.out HB1.out (by simp; omega)).mono ?_
    rintro e w2 ⟨rfl, hB2, hk2⟩
    have h1 : w2.heap[w.heap.size]? = some (.cells #[.string bNil, .slice (some ⟨bl, o, none⟩) 2 c] 24 (0, 0)) := hk2.typed H1.out (by decide) hbne
    have hk2 : KeepB base b w w2 := HK1.out.trans hk2
    clear k0 k1 f0 f1 f2 f3
    have k0 := cellv h1 0 rfl
    have k1 := cellv h1 1 rfl
    have f0 := (cell_keep (hk2.block bl (by omega) (by omega) (Or.inl hbl)) o).trans G0.out
    have f1 := (cell_keep (hk2.block bl (by omega) (by omega) (Or.inl hbl)) (o + 1)).trans G1.out
    have f2 := (cell_keep (hk2.block bl (by omega) (by omega) (Or.inl hbl)) (o + 2)).trans G2.out
    have f3 := (cell_keep (hk2.block bl (by omega) (by omega) (Or.inl hbl)) (o + 2 + 1)).trans G3.out
    have z2 := lt_heap h1
    have HB2 := Lib.hid hB2
    have HK2 := Lib.hid hk2
    have H2 := Lib.hid h1
    clear hB2 hk2 h1
    go_wp2_with fail
    refine (writeByte_any base b _ 32 _ HB2.out (by simp; omega)).mono ?_
    rintro e w3 ⟨rfl, hB3, hk3⟩
    have h1 : w3.heap[w.heap.size]? = some (.cells #[.string bNil, .slice (some ⟨bl, o, none⟩) 2 c] 24 (0, 0)) := hk3.typed H2.out (by decide) hbne
    have hk3 : KeepB base b w w3 := HK2.out.trans hk3
    clear k0 k1 f0 f1 f2 f3
    have k0 := cellv h1 0 rfl
    have k1 := cellv h1 1 rfl
    have f0 := (cell_keep (hk3.block bl (by omega) (by omega) (Or.inl hbl)) o).trans G0.out
    have f1 := (cell_keep (hk3.block bl (by omega) (by omega) (Or.inl hbl)) (o + 1)).trans G1.out
    have f2 := (cell_keep (hk3.block bl (by omega) (by omega) (Or.inl hbl)) (o + 2)).trans G2.out
    have f3 := (cell_keep (hk3.block bl (by omega) (by omega) (Or.inl hbl)) (o + 2 + 1)).trans G3.out
    have z3 := lt_heap h1
    have HB3 := Lib.hid hB3
    have HK3 := Lib.hid hk3
    have H3 := Lib.hid h1
    clear hB3 hk3 h1
    go_wp2_with fail
    refine (IB.out y0 y1 _ S base b _ (HB'.out.keepB HK3.out HS.out hbb hbw) HS.out HB3.out (by simp; omega)).mono ?_
    rintro e w4 ⟨rfl, hB4, hk4⟩
    have hk4 : KeepB base b w w4 := HK3.out.trans hk4
    clear k0 k1 f0 f1 f2 f3
    have HB4 := Lib.hid hB4
    have HK4 := Lib.hid hk4
    clear hB4 hk4
    go_wp2_with fail
    refine (writeByte_any base b _ 41 _ HB4.out (by simp; omega)).mono ?_
    rintro e w5 ⟨rfl, hB5, hk5⟩
    have HB5 := Lib.hid hB5
    have HK5 := Lib.hid hk5
    clear hB5 hk5
    go_wp2_with fail
    go_end0
    exact ⟨rfl, by simpa [Sy.bytes] using HB5.out, HK4.out.trans HK5.out⟩

set_option maxRecDepth 100000 in
theorem text_any (s : Sy) (v0 v1 : Value) (w : World) (S : Nat → Prop) (h : s.ty.In w S v0 v1) (hS : ∀ k, S k → k < w.heap.size) (hn : s.nodes ≤ 200) :
    Calls Tryd.prog 45 #[.agg #[v0, v1]] w fun e w' => e = .returned (.string ⟨s.bytes.toArray⟩) ∧ Below w.heap.size w w' := by
  obtain ⟨sx, Ax, nx, cx, rfl, rfl⟩ := h.shape
  have HT := Lib.hid h
  have HS := Lib.hid hS
  have hlen := s.bytes_len
  clear h hS
  go_enter Tryd.func45, Tryd.ntmps45
  go_wp2_with fail
  refine (write_any s _ _ _ S (w.heap.size + 1) (w.heap.size + 1) [] (HT.out.keep fun k hk => ?_) (fun k hk => by have := HS.out k hk; omega) (by have := Bld.new (w.alloc (.cells #[.string sx, .slice Ax nx cx] 24)); simpa using this) (by simp; omega)).mono ?_
  · have := HS.out k hk
    exact heap_old (by go_size) (heap_old (by go_size) rfl)
  rintro e w1 ⟨rfl, hB1, hk1⟩
  have HB1 := Lib.hid hB1
  have HK1 := Lib.hid hk1
  clear hB1 hk1
  go_wp2_with fail
  refine (Tryd.Builder_String_any (w.heap.size + 1) (w.heap.size + 1) s.bytes _ (by simpa using HB1.out.is) HB1.out.lt).mono ?_
  rintro e w2 ⟨rfl, hw2⟩
  have Hw2 := Lib.hid hw2
  clear hw2
  go_wp2_with fail
  go_returns
  refine ⟨rfl, ?_⟩
  have hb : Below w.heap.size w w1 := (show Below w.heap.size w ((w.alloc (.cells #[.string sx, .slice Ax nx cx] 24)).alloc (.cells #[.pointer none, .slice none 0 0] 61)) by go_grown).trans ((HK1.out.below (by omega) (by simp)).mono (by omega))
  exact hb.trans (Hw2.out.mono (by omega))

end Go.Proofs.YtnoceodmnjhljaaDoor
