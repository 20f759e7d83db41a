/-
  term.write: the text of a term into a builder: the walk.
-/
import Derived.Test.YtnoceodmnjhljaaDoorText
import Derived.Test.YtnoceodmnjhljaaDoorTmText
import Derived.Test.YtnoceodmnjhljaaDoorCloneTm
import Derived.Test.YtnoceodmnjhljaaDoorSets
import Derived.Deep.RegionHeld3
namespace Go.Proofs.YtnoceodmnjhljaaDoor
open Go Go.RowKit
set_option linter.unusedSimpArgs false
set_option linter.unusedVariables false

theorem KeepB.of_below {base b : Nat} {u v : World} (h : Below u.heap.size u v) : KeepB base b u v := ⟨h.os, h.tape, h.output, h.size, fun k h1 _ _ => h.block k h1⟩

set_option maxHeartbeats 4000000 in
set_option maxRecDepth 100000 in
theorem writeTm_any : ∀ (v : Tv) (bd : Nat) (cs : List Value) (w : World) (S : Nat → Prop) (base b : Nat) (l : List UInt8), v.ok bd → bd + v.depth ≤ 100 → tmRep.R w S v.tm cs → (∀ k, S k → k < base) → Bld base b l w → l.length + v.text.length ≤ 140737488355328 →
    Calls Tryd.prog 22 #[.pointer (some ⟨b, 0, none⟩), .agg cs.toArray] w fun e w' => e = .returned (.tuple #[]) ∧ Bld base b (l ++ v.text) w' ∧ KeepB base b w w' := by
  intro v
  induction v with
  | var i =>
    intro bd cs w S base b l hok hd h hS hB hl
    obtain ⟨u0, u1, vs, rfl, hnm, hty, hlk⟩ := Tm.open_ (a := ⟨2, bNil, (i : Int), noTy⟩) (l := []) h
    obtain ⟨sa, Aa, na, ca, rfl, rfl⟩ := hty.shape
    obtain ⟨A, m, cp, rfl, hln, hm, _⟩ := hlk
    have hi : i < 100 := by have h' : i < bd := hok; omega
    obtain ⟨x, ex, zx⟩ : ∃ x : ByteArray, (⟨(Lib.decDigits i).toArray⟩ : ByteArray) = x ∧ x.size ≤ i + 1 := ⟨_, rfl, by have := decDigits_len i i (Nat.le_refl _); simpa [ByteArray.size] using this⟩
    have hd' := fun (W : World) => Tryd.strconv_Itoa_small i hi W
    rw [ex] at hd'
    have t1 : ¬ 9223372036854775807 < 1 + x.size := by omega
    have hx : x.data.toList = Lib.decDigits i := by rw [← ex]
    have hll : l.length + (⟨#[35]⟩ ++ x : ByteArray).size ≤ 140737488355328 := by
      have e1 : (⟨#[35]⟩ ++ x : ByteArray).size = 1 + x.size := by rw [ByteArray.size_append]; rfl
      have e2 : x.size = (Lib.decDigits i).length := by rw [← hx, Array.length_toList]; rfl
      rw [e1, e2]; simp only [Tv.text, List.length_cons] at hl; omega
    clear h hm hnm hty hS hok hd hl ex
    have HDP := Lib.hid hd'
    have HB := Lib.hid hB
    have HX := Lib.hid hx
    have HLL := Lib.hid hll
    clear hd' hB hx hll
    go_enter Tryd.func22, Tryd.ntmps22
    go_wp2_with fail
    (with_reducible refine (HDP.out _).mono ?_)
    rintro e w1 ⟨rfl, rfl⟩
    go_wp2_with fail
    (with_reducible refine (writeString_any base b l _ _ (HB.out.alloc _) HLL.out).mono ?_)
    rintro e w1 ⟨rfl, hB1, hk1⟩
    have HB1 := Lib.hid hB1
    have HK1 := Lib.hid hk1
    clear hB1 hk1
    go_wp2_with fail
    go_end0
    exact ⟨rfl, by simpa [Tv.text, ByteArray.data_append, HX.out] using HB1.out, ((KeepB.refl _ _ _).alloc _).trans HK1.out⟩
  | con nm s =>
    intro bd cs w S base b l hok hd h hS hB hl
    obtain ⟨u0, u1, vs, rfl, hnm, hty, hlk⟩ := Tm.open_ (a := ⟨1, nm, 0, s.ty⟩) (l := []) h
    obtain ⟨sa, Aa, na, ca, rfl, rfl⟩ := hty.shape
    obtain ⟨A, m, cp, rfl, hln, hm, _⟩ := hlk
    have hz1 := okName_size hok.1
    have hz2 := Sy.small_of hok.2
    obtain ⟨x, ex, zx⟩ := s.string
    have hsl := s.bytes_len
    have hr := text_any s (.string sa) (.slice Aa na ca)
    rw [ex] at hr
    have hx : x.data.toList = s.bytes := by rw [← ex]
    have t1 : ¬ 9223372036854775806 < nm.size := by omega
    have t2 : ¬ 9223372036854775807 < nm.size + 1 := by omega
    have t3 : ¬ 9223372036854775807 < nm.size + 1 + x.size := by omega
    have hll : l.length + (nm ++ ⟨#[58]⟩ ++ x : ByteArray).size ≤ 140737488355328 := by
      have e1 : (nm ++ ⟨#[58]⟩ ++ x : ByteArray).size = nm.size + 1 + x.size := by rw [ByteArray.size_append, ByteArray.size_append]; rfl
      have e2 : nm.data.toList.length = nm.size := by rw [Array.length_toList]; rfl
      rw [e1]; simp only [Tv.text, List.length_append, List.length_cons] at hl; omega
    have hbw := hB.lt
    have hbb := hB.1
    have hbne : w.heap.size ≠ b := by have := hB.lt'; omega
    clear h hm hnm hok hd hl ex zx hsl hz1
    have HR := Lib.hid hr
    have HS := Lib.hid hS
    have HTY := Lib.hid hty
    have HZ2 := Lib.hid hz2
    have HX := Lib.hid hx
    have HB := Lib.hid hB
    have HLL := Lib.hid hll
    clear hr hS hty hz2 hx hB hll
    go_enter Tryd.func22, Tryd.ntmps22
    go_wp2_with fail
    go_region_held3 (fun w' => w'.cell? ⟨w.heap.size, 1, none⟩ = some (.string nm) ∧ w'.cell? ⟨w.heap.size, 3, none⟩ = some (.string sa) ∧ w'.cell? ⟨w.heap.size, 4, none⟩ = some (.slice Aa na ca))
      ((first | (go_keep; done) | (go_split_ands; (repeat' apply And.intro) <;> (refine (kc _ _ (by go_size)).trans ?_; assumption)) | (go_split_ands; (repeat' apply And.intro) <;> (refine (cell_keep (HK2.out _ (by omega)) _).trans ?_; assumption))))
      (first
        | ((with_reducible refine (HR.out _ S (by exact Ty.In_keep (fun k hk => heap_drew (heap_old (by have := HS.out k hk; omega) rfl)) (fun _ h => h) _ _ _ HTY.out) (by intro b hb; have := HS.out b hb; simp; omega) HZ2.out).mono ?_); rintro e w1 ⟨rfl, hw1⟩; obtain ⟨kc, kf⟩ := bcell hw1; have hwa : Below (w.alloc (.cells #[.int .i64 1, .string nm, .int .i64 0, .string sa, .slice Aa na ca, .slice A m cp] 27)).heap.size (w.alloc (.cells #[.int .i64 1, .string nm, .int .i64 0, .string sa, .slice Aa na ca, .slice A m cp] 27)) w1 := ⟨hw1.os, hw1.tape, hw1.output, hw1.size, hw1.block⟩; have hB1 : Bld base b l w1 := (HB.out.alloc (.cells #[.int .i64 1, .string nm, .int .i64 0, .string sa, .slice Aa na ca, .slice A m cp] 27)).below hwa; have hk1 : KeepB base b w w1 := ((KeepB.refl base b w).alloc (.cells #[.int .i64 1, .string nm, .int .i64 0, .string sa, .slice Aa na ca, .slice A m cp] 27)).trans (KeepB.of_below hwa); clear hwa; have HB1 := Lib.hid hB1; have HK1 := Lib.hid hk1; have z1 : w.heap.size + 1 ≤ w1.heap.size := (by have := hw1.size; simpa using this); have H1 := Lib.hid ((hw1.block w.heap.size (by simp)).trans (heap_drew (heap_at rfl))); clear hB1 hk1 hw1)
        | ((with_reducible refine (writeString_any base b l _ _ HB1.out HLL.out).mono ?_); rintro e w2 ⟨rfl, hB2, hk2⟩; have hk3 : ∀ k, k = w.heap.size → w2.heap[k]? = w1.heap[k]? := (fun k hk => by subst hk; exact (hk2.typed H1.out (by decide) hbne).trans H1.out.symm); have HK2 := Lib.hid hk3; have HB2 := Lib.hid hB2; have HKK := Lib.hid (HK1.out.trans hk2); clear hB2 hk2 hk3)
        | fail)
    all_goals
      go_wp2_with fail
      go_end0
      exact ⟨rfl, by simpa [Tv.text, ByteArray.data_append, HX.out] using HB2.out, HKK.out⟩

  | abs s bt ih =>
    intro bd cs w S base b l hok hd h hS hB hl
    obtain ⟨u0, u1, vs, rfl, hnm, hty, hlk⟩ := Tm.open_ (a := ⟨3, bNil, 0, s.ty⟩) (l := [bt.tm]) h
    obtain ⟨sa, Aa, na, ca, rfl, rfl⟩ := hty.shape
    have HL := Lib.hid hlk
    obtain ⟨A, m, cp, rfl, hln, hm, _⟩ := hlk
    obtain rfl : 1 = m := hln
    obtain ⟨b', o, kc, rfl, hSb, hkr, hkc⟩ := Rep.Sl.at_ HL.out (k := 0) (a := bt.tm) rfl
    obtain ⟨s1, A1, n1, c1, B1, m1, d1, rfl, _, _⟩ := Tm.shape hkr
    have e0 := hkc 0 _ rfl
    rw [show o + 0 * tmRep.size + 0 = o from by show o + 0 * 6 + 0 = _; omega] at e0
    have e1 := hkc 1 _ rfl
    rw [show o + 0 * tmRep.size + 1 = o + 1 from by show o + 0 * 6 + 1 = _; omega] at e1
    have e2 := hkc 2 _ rfl
    rw [show o + 0 * tmRep.size + 2 = o + 2 from by show o + 0 * 6 + 2 = _; omega] at e2
    have e3 := hkc 3 _ rfl
    rw [show o + 0 * tmRep.size + 3 = o + 3 from by show o + 0 * 6 + 3 = _; omega] at e3
    have e4 := hkc 4 _ rfl
    rw [show o + 0 * tmRep.size + 4 = o + 4 from by show o + 0 * 6 + 4 = _; omega] at e4
    have e5 := hkc 5 _ rfl
    rw [show o + 0 * tmRep.size + 5 = o + 5 from by show o + 0 * 6 + 5 = _; omega] at e5
    have hz2 := Sy.small_of hok.1
    have hok2 := hok.2
    have hd2 : bd + 1 + bt.depth ≤ 100 := by simp only [Tv.depth] at hd; omega
    obtain ⟨x, ex, zx⟩ := s.string
    have hsl := s.bytes_len
    have hr := text_any s (.string sa) (.slice Aa na ca)
    rw [ex] at hr
    have hx : x.data.toList = s.bytes := by rw [← ex]
    have t1 : ¬ 9223372036854775807 < 1 + x.size := by omega
    have t2 : ¬ 9223372036854775806 < 1 + x.size := by omega
    have t3 : ¬ 9223372036854775807 < 1 + x.size + 1 := by omega
    have hlx : l.length + (s.bytes.length + bt.text.length + 3) ≤ 140737488355328 := by simp only [Tv.text, List.length_append, List.length_cons, List.length_nil] at hl; omega
    have hll : l.length + (⟨#[91]⟩ ++ x ++ ⟨#[32]⟩ : ByteArray).size ≤ 140737488355328 := by
      have e1 : (⟨#[91]⟩ ++ x ++ ⟨#[32]⟩ : ByteArray).size = 1 + x.size + 1 := by rw [ByteArray.size_append, ByteArray.size_append]; rfl
      rw [e1]; omega
    have hbl : b' < base := hS b' hSb
    have hbw := hB.lt
    have hbb := hB.1
    have hbne : w.heap.size ≠ b := by have := hB.lt'; omega
    clear h hm hnm hok hd hl ex zx hsl hkc
    have HR := Lib.hid hr
    have HS := Lib.hid hS
    have HTY := Lib.hid hty
    have HZ2 := Lib.hid hz2
    have HX := Lib.hid hx
    have HB := Lib.hid hB
    have HLL := Lib.hid hll
    have HLX := Lib.hid hlx
    have IH := Lib.hid ih
    have HOK2 := Lib.hid hok2
    have HD2 := Lib.hid hd2
    have HKR := Lib.hid hkr
    have HSB := Lib.hid hSb
    clear hr hS hty hz2 hx hB hll hlx ih hok2 hd2 hkr hSb
    have E0 := Lib.hid e0
    have E1 := Lib.hid e1
    have E2 := Lib.hid e2
    have E3 := Lib.hid e3
    have E4 := Lib.hid e4
    have E5 := Lib.hid e5
    clear e0 e1 e2 e3 e4 e5
    go_enter Tryd.func22, Tryd.ntmps22
    go_wp2_with fail
    (with_reducible refine (HR.out _ S (Ty.In_keep (fun k hk => heap_old (by have := HS.out k hk; omega) rfl) (fun _ h => h) _ _ _ HTY.out) (by intro b hb; have := HS.out b hb; simp; omega) HZ2.out).mono ?_)
    rintro e w1 ⟨rfl, hw1⟩
    have hB1 := (HB.out.alloc (.cells #[.int .i64 3, .string bNil, .int .i64 0, .string sa, .slice Aa na ca, .slice (some ⟨b', o, none⟩) 1 cp] 27)).below hw1
    have hk1 : KeepB base b (w.alloc (.cells #[.int .i64 3, .string bNil, .int .i64 0, .string sa, .slice Aa na ca, .slice (some ⟨b', o, none⟩) 1 cp] 27)) w1 := KeepB.of_below hw1
    clear hw1
    have h1 : w1.heap[w.heap.size]? = some (.cells #[.int .i64 3, .string bNil, .int .i64 0, .string sa, .slice Aa na ca, .slice (some ⟨b', o, none⟩) 1 cp] 27 (0, 0)) := hk1.typed (heap_at rfl) (by decide) hbne
    have hk1 : KeepB base b w w1 := ((KeepB.refl _ _ _).alloc _).trans hk1
    have k5 := cellv h1 5 rfl
    have e0 := (cell_keep (hk1.block b' (by omega) (by omega) (Or.inl hbl)) (o)).trans E0.out
    have e1 := (cell_keep (hk1.block b' (by omega) (by omega) (Or.inl hbl)) (o + 1)).trans E1.out
    have e2 := (cell_keep (hk1.block b' (by omega) (by omega) (Or.inl hbl)) (o + 2)).trans E2.out
    have e3 := (cell_keep (hk1.block b' (by omega) (by omega) (Or.inl hbl)) (o + 3)).trans E3.out
    have e4 := (cell_keep (hk1.block b' (by omega) (by omega) (Or.inl hbl)) (o + 4)).trans E4.out
    have e5 := (cell_keep (hk1.block b' (by omega) (by omega) (Or.inl hbl)) (o + 5)).trans E5.out
    have z1 := lt_heap h1
    have H1 := Lib.hid h1
    clear h1
    have HB1 := Lib.hid hB1
    have HK1 := Lib.hid hk1
    clear hB1 hk1
    go_wp2_with fail
    (with_reducible refine (writeString_any base b l _ _ HB1.out HLL.out).mono ?_)
    rintro e w2 ⟨rfl, hB2, hk2⟩
    have hB2 : Bld base b (l ++ 91 :: (s.bytes ++ [32])) w2 := by simpa [ByteArray.data_append, HX.out] using hB2
    have h1 : w2.heap[w.heap.size]? = some (.cells #[.int .i64 3, .string bNil, .int .i64 0, .string sa, .slice Aa na ca, .slice (some ⟨b', o, none⟩) 1 cp] 27 (0, 0)) := hk2.typed H1.out (by decide) hbne
    have hk2 : KeepB base b w w2 := HK1.out.trans hk2
    clear k5 e0 e1 e2 e3 e4 e5
    have k5 := cellv h1 5 rfl
    have e0 := (cell_keep (hk2.block b' (by omega) (by omega) (Or.inl hbl)) (o)).trans E0.out
    have e1 := (cell_keep (hk2.block b' (by omega) (by omega) (Or.inl hbl)) (o + 1)).trans E1.out
    have e2 := (cell_keep (hk2.block b' (by omega) (by omega) (Or.inl hbl)) (o + 2)).trans E2.out
    have e3 := (cell_keep (hk2.block b' (by omega) (by omega) (Or.inl hbl)) (o + 3)).trans E3.out
    have e4 := (cell_keep (hk2.block b' (by omega) (by omega) (Or.inl hbl)) (o + 4)).trans E4.out
    have e5 := (cell_keep (hk2.block b' (by omega) (by omega) (Or.inl hbl)) (o + 5)).trans E5.out
    have z2 := lt_heap h1
    have H2 := Lib.hid h1
    clear h1
    have HB2 := Lib.hid hB2
    have HK2 := Lib.hid hk2
    clear hB2 hk2
    go_wp2_with fail
    (with_reducible refine (IH.out (bd + 1) [.int .i64 bt.tm.lab.kind, .string bt.tm.lab.nm, .int .i64 bt.tm.lab.ix, .string s1, .slice A1 n1 c1, .slice B1 m1 d1] _ S base b _ HOK2.out HD2.out (tmRep.keep HKR.out (fun k hk => HK2.out.block k (by have := HS.out k hk; omega) (by have := HS.out k hk; omega) (Or.inl (HS.out k hk))) (fun _ h => h)) HS.out HB2.out (by have := HLX.out; simp; omega)).mono ?_)
    rintro e w3 ⟨rfl, hB3, hk3⟩
    have h1 : w3.heap[w.heap.size]? = some (.cells #[.int .i64 3, .string bNil, .int .i64 0, .string sa, .slice Aa na ca, .slice (some ⟨b', o, none⟩) 1 cp] 27 (0, 0)) := hk3.typed H2.out (by decide) hbne
    have hk3 : KeepB base b w w3 := HK2.out.trans hk3
    clear k5 e0 e1 e2 e3 e4 e5
    have k5 := cellv h1 5 rfl
    have e0 := (cell_keep (hk3.block b' (by omega) (by omega) (Or.inl hbl)) (o)).trans E0.out
    have e1 := (cell_keep (hk3.block b' (by omega) (by omega) (Or.inl hbl)) (o + 1)).trans E1.out
    have e2 := (cell_keep (hk3.block b' (by omega) (by omega) (Or.inl hbl)) (o + 2)).trans E2.out
    have e3 := (cell_keep (hk3.block b' (by omega) (by omega) (Or.inl hbl)) (o + 3)).trans E3.out
    have e4 := (cell_keep (hk3.block b' (by omega) (by omega) (Or.inl hbl)) (o + 4)).trans E4.out
    have e5 := (cell_keep (hk3.block b' (by omega) (by omega) (Or.inl hbl)) (o + 5)).trans E5.out
    have z3 := lt_heap h1
    have H3 := Lib.hid h1
    clear h1
    have HB3 := Lib.hid hB3
    have HK3 := Lib.hid hk3
    clear hB3 hk3
    go_wp2_with fail
    (refine (writeByte_any base b _ 93 _ HB3.out (by have := HLX.out; simp; omega)).mono ?_)
    rintro e w4 ⟨rfl, hB4, hk4⟩
    have HB4 := Lib.hid hB4
    have HK4 := Lib.hid hk4
    clear hB4 hk4
    go_wp2_with fail
    go_end0
    exact ⟨rfl, by simpa [Tv.text] using HB4.out, HK3.out.trans HK4.out⟩

  | app f x ihf ihx =>
    intro bd cs w S base b l hok hd h hS hB hl
    obtain ⟨u0, u1, vs, rfl, hnm, hty, hlk⟩ := Tm.open_ (a := ⟨4, bNil, 0, noTy⟩) (l := [f.tm, x.tm]) h
    obtain ⟨sa, Aa, na, ca, rfl, rfl⟩ := hty.shape
    have HL := Lib.hid hlk
    obtain ⟨A, m, cp, rfl, hln, hm, _⟩ := hlk
    obtain rfl : 2 = m := hln
    obtain ⟨b', o, kc, e', hSb, hkr, hkc⟩ := Rep.Sl.at_ HL.out (k := 0) (a := f.tm) rfl
    obtain ⟨b2, o2, kc2, e2', _, hkr2, hkc2⟩ := Rep.Sl.at_ HL.out (k := 1) (a := x.tm) rfl
    subst e'
    obtain ⟨rfl, rfl⟩ : b' = b2 ∧ o = o2 := by simpa using e2'
    clear e2'
    obtain ⟨s1, A1, n1, c1, B1, m1, d1, rfl, _, _⟩ := Tm.shape hkr
    obtain ⟨s2, A2, n2, c2, B2, m2, d2, rfl, _, _⟩ := Tm.shape hkr2
    have e0 := hkc 0 _ rfl
    rw [show o + 0 * tmRep.size + 0 = o from by show o + 0 * 6 + 0 = _; omega] at e0
    have e1 := hkc 1 _ rfl
    rw [show o + 0 * tmRep.size + 1 = o + 1 from by show o + 0 * 6 + 1 = _; omega] at e1
    have e2 := hkc 2 _ rfl
    rw [show o + 0 * tmRep.size + 2 = o + 2 from by show o + 0 * 6 + 2 = _; omega] at e2
    have e3 := hkc 3 _ rfl
    rw [show o + 0 * tmRep.size + 3 = o + 3 from by show o + 0 * 6 + 3 = _; omega] at e3
    have e4 := hkc 4 _ rfl
    rw [show o + 0 * tmRep.size + 4 = o + 4 from by show o + 0 * 6 + 4 = _; omega] at e4
    have e5 := hkc 5 _ rfl
    rw [show o + 0 * tmRep.size + 5 = o + 5 from by show o + 0 * 6 + 5 = _; omega] at e5
    have g0 := hkc2 0 _ rfl
    rw [show o + 1 * tmRep.size + 0 = o + 6 from by show o + 1 * 6 + 0 = _; omega] at g0
    have g1 := hkc2 1 _ rfl
    rw [show o + 1 * tmRep.size + 1 = o + 6 + 1 from by show o + 1 * 6 + 1 = _; omega] at g1
    have g2 := hkc2 2 _ rfl
    rw [show o + 1 * tmRep.size + 2 = o + 6 + 2 from by show o + 1 * 6 + 2 = _; omega] at g2
    have g3 := hkc2 3 _ rfl
    rw [show o + 1 * tmRep.size + 3 = o + 6 + 3 from by show o + 1 * 6 + 3 = _; omega] at g3
    have g4 := hkc2 4 _ rfl
    rw [show o + 1 * tmRep.size + 4 = o + 6 + 4 from by show o + 1 * 6 + 4 = _; omega] at g4
    have g5 := hkc2 5 _ rfl
    rw [show o + 1 * tmRep.size + 5 = o + 6 + 5 from by show o + 1 * 6 + 5 = _; omega] at g5
    have hok1 := hok.1
    have hok2 := hok.2
    have hd1 : bd + f.depth ≤ 100 := by simp only [Tv.depth] at hd; omega
    have hd2 : bd + x.depth ≤ 100 := by simp only [Tv.depth] at hd; omega
    have hlx : l.length + (f.text.length + x.text.length + 3) ≤ 140737488355328 := by simp only [Tv.text, List.length_append, List.length_cons, List.length_nil] at hl; omega
    have hbl : b' < base := hS b' hSb
    have hbw := hB.lt
    have hbb := hB.1
    have hbne : w.heap.size ≠ b := by have := hB.lt'; omega
    clear h hm hnm hok hd hl hkc hkc2 hty
    have HS := Lib.hid hS
    have HB := Lib.hid hB
    have HLX := Lib.hid hlx
    have IHF := Lib.hid ihf
    have IHX := Lib.hid ihx
    have HOK1 := Lib.hid hok1
    have HOK2 := Lib.hid hok2
    have HD1 := Lib.hid hd1
    have HD2 := Lib.hid hd2
    have HKR := Lib.hid hkr
    have HKR2 := Lib.hid hkr2
    have HSB := Lib.hid hSb
    clear hS hB hlx ihf ihx hok1 hok2 hd1 hd2 hkr hkr2 hSb
    have E0 := Lib.hid e0
    have E1 := Lib.hid e1
    have E2 := Lib.hid e2
    have E3 := Lib.hid e3
    have E4 := Lib.hid e4
    have E5 := Lib.hid e5
    have G0 := Lib.hid g0
    have G1 := Lib.hid g1
    have G2 := Lib.hid g2
    have G3 := Lib.hid g3
    have G4 := Lib.hid g4
    have G5 := Lib.hid g5
    clear e0 e1 e2 e3 e4 e5 g0 g1 g2 g3 g4 g5
    go_enter Tryd.func22, Tryd.ntmps22
    go_wp2_with fail
    (refine (writeByte_any base b l 40 _ (HB.out.alloc _) (by have := HLX.out; omega)).mono ?_)
    rintro e w1 ⟨rfl, hB1, hk1⟩
    have h1 : w1.heap[w.heap.size]? = some (.cells #[.int .i64 4, .string bNil, .int .i64 0, .string sa, .slice Aa na ca, .slice (some ⟨b', o, none⟩) 2 cp] 27 (0, 0)) := hk1.typed (heap_at rfl) (by decide) hbne
    have hk1 : KeepB base b w w1 := ((KeepB.refl _ _ _).alloc _).trans hk1
    have k5 := cellv h1 5 rfl
    have e0 := (cell_keep (hk1.block b' (by omega) (by omega) (Or.inl hbl)) (o)).trans E0.out
    have e1 := (cell_keep (hk1.block b' (by omega) (by omega) (Or.inl hbl)) (o + 1)).trans E1.out
    have e2 := (cell_keep (hk1.block b' (by omega) (by omega) (Or.inl hbl)) (o + 2)).trans E2.out
    have e3 := (cell_keep (hk1.block b' (by omega) (by omega) (Or.inl hbl)) (o + 3)).trans E3.out
    have e4 := (cell_keep (hk1.block b' (by omega) (by omega) (Or.inl hbl)) (o + 4)).trans E4.out
    have e5 := (cell_keep (hk1.block b' (by omega) (by omega) (Or.inl hbl)) (o + 5)).trans E5.out
    have g0 := (cell_keep (hk1.block b' (by omega) (by omega) (Or.inl hbl)) (o + 6)).trans G0.out
    have g1 := (cell_keep (hk1.block b' (by omega) (by omega) (Or.inl hbl)) (o + 6 + 1)).trans G1.out
    have g2 := (cell_keep (hk1.block b' (by omega) (by omega) (Or.inl hbl)) (o + 6 + 2)).trans G2.out
    have g3 := (cell_keep (hk1.block b' (by omega) (by omega) (Or.inl hbl)) (o + 6 + 3)).trans G3.out
    have g4 := (cell_keep (hk1.block b' (by omega) (by omega) (Or.inl hbl)) (o + 6 + 4)).trans G4.out
    have g5 := (cell_keep (hk1.block b' (by omega) (by omega) (Or.inl hbl)) (o + 6 + 5)).trans G5.out
    have z1 := lt_heap h1
    have H1 := Lib.hid h1
    clear h1
    have HB1 := Lib.hid hB1
    have HK1 := Lib.hid hk1
    clear hB1 hk1
    go_wp2_with fail
    (with_reducible refine (IHF.out bd [.int .i64 f.tm.lab.kind, .string f.tm.lab.nm, .int .i64 f.tm.lab.ix, .string s1, .slice A1 n1 c1, .slice B1 m1 d1] _ S base b _ HOK1.out HD1.out (tmRep.keep HKR.out (fun k hk => HK1.out.block k (by have := HS.out k hk; omega) (by have := HS.out k hk; omega) (Or.inl (HS.out k hk))) (fun _ h => h)) HS.out HB1.out (by have := HLX.out; simp; omega)).mono ?_)
    rintro e w2 ⟨rfl, hB2, hk2⟩
    have h1 : w2.heap[w.heap.size]? = some (.cells #[.int .i64 4, .string bNil, .int .i64 0, .string sa, .slice Aa na ca, .slice (some ⟨b', o, none⟩) 2 cp] 27 (0, 0)) := hk2.typed H1.out (by decide) hbne
    have hk2 : KeepB base b w w2 := HK1.out.trans hk2
    clear k5 e0 e1 e2 e3 e4 e5 g0 g1 g2 g3 g4 g5
    have k5 := cellv h1 5 rfl
    have e0 := (cell_keep (hk2.block b' (by omega) (by omega) (Or.inl hbl)) (o)).trans E0.out
    have e1 := (cell_keep (hk2.block b' (by omega) (by omega) (Or.inl hbl)) (o + 1)).trans E1.out
    have e2 := (cell_keep (hk2.block b' (by omega) (by omega) (Or.inl hbl)) (o + 2)).trans E2.out
    have e3 := (cell_keep (hk2.block b' (by omega) (by omega) (Or.inl hbl)) (o + 3)).trans E3.out
    have e4 := (cell_keep (hk2.block b' (by omega) (by omega) (Or.inl hbl)) (o + 4)).trans E4.out
    have e5 := (cell_keep (hk2.block b' (by omega) (by omega) (Or.inl hbl)) (o + 5)).trans E5.out
    have g0 := (cell_keep (hk2.block b' (by omega) (by omega) (Or.inl hbl)) (o + 6)).trans G0.out
    have g1 := (cell_keep (hk2.block b' (by omega) (by omega) (Or.inl hbl)) (o + 6 + 1)).trans G1.out
    have g2 := (cell_keep (hk2.block b' (by omega) (by omega) (Or.inl hbl)) (o + 6 + 2)).trans G2.out
    have g3 := (cell_keep (hk2.block b' (by omega) (by omega) (Or.inl hbl)) (o + 6 + 3)).trans G3.out
    have g4 := (cell_keep (hk2.block b' (by omega) (by omega) (Or.inl hbl)) (o + 6 + 4)).trans G4.out
    have g5 := (cell_keep (hk2.block b' (by omega) (by omega) (Or.inl hbl)) (o + 6 + 5)).trans G5.out
    have z2 := lt_heap h1
    have H2 := Lib.hid h1
    clear h1
    have HB2 := Lib.hid hB2
    have HK2 := Lib.hid hk2
    clear hB2 hk2
    go_wp2_with fail
    (refine (writeByte_any base b _ 32 _ HB2.out (by have := HLX.out; simp; omega)).mono ?_)
    rintro e w3 ⟨rfl, hB3, hk3⟩
    have h1 : w3.heap[w.heap.size]? = some (.cells #[.int .i64 4, .string bNil, .int .i64 0, .string sa, .slice Aa na ca, .slice (some ⟨b', o, none⟩) 2 cp] 27 (0, 0)) := hk3.typed H2.out (by decide) hbne
    have hk3 : KeepB base b w w3 := HK2.out.trans hk3
    clear k5 e0 e1 e2 e3 e4 e5 g0 g1 g2 g3 g4 g5
    have k5 := cellv h1 5 rfl
    have e0 := (cell_keep (hk3.block b' (by omega) (by omega) (Or.inl hbl)) (o)).trans E0.out
    have e1 := (cell_keep (hk3.block b' (by omega) (by omega) (Or.inl hbl)) (o + 1)).trans E1.out
    have e2 := (cell_keep (hk3.block b' (by omega) (by omega) (Or.inl hbl)) (o + 2)).trans E2.out
    have e3 := (cell_keep (hk3.block b' (by omega) (by omega) (Or.inl hbl)) (o + 3)).trans E3.out
    have e4 := (cell_keep (hk3.block b' (by omega) (by omega) (Or.inl hbl)) (o + 4)).trans E4.out
    have e5 := (cell_keep (hk3.block b' (by omega) (by omega) (Or.inl hbl)) (o + 5)).trans E5.out
    have g0 := (cell_keep (hk3.block b' (by omega) (by omega) (Or.inl hbl)) (o + 6)).trans G0.out
    have g1 := (cell_keep (hk3.block b' (by omega) (by omega) (Or.inl hbl)) (o + 6 + 1)).trans G1.out
    have g2 := (cell_keep (hk3.block b' (by omega) (by omega) (Or.inl hbl)) (o + 6 + 2)).trans G2.out
    have g3 := (cell_keep (hk3.block b' (by omega) (by omega) (Or.inl hbl)) (o + 6 + 3)).trans G3.out
    have g4 := (cell_keep (hk3.block b' (by omega) (by omega) (Or.inl hbl)) (o + 6 + 4)).trans G4.out
    have g5 := (cell_keep (hk3.block b' (by omega) (by omega) (Or.inl hbl)) (o + 6 + 5)).trans G5.out
    have z3 := lt_heap h1
    have H3 := Lib.hid h1
    clear h1
    have HB3 := Lib.hid hB3
    have HK3 := Lib.hid hk3
    clear hB3 hk3
    go_wp2_with fail
    (with_reducible refine (IHX.out bd [.int .i64 x.tm.lab.kind, .string x.tm.lab.nm, .int .i64 x.tm.lab.ix, .string s2, .slice A2 n2 c2, .slice B2 m2 d2] _ S base b _ HOK2.out HD2.out (tmRep.keep HKR2.out (fun k hk => HK3.out.block k (by have := HS.out k hk; omega) (by have := HS.out k hk; omega) (Or.inl (HS.out k hk))) (fun _ h => h)) HS.out HB3.out (by have := HLX.out; simp; omega)).mono ?_)
    rintro e w4 ⟨rfl, hB4, hk4⟩
    have h1 : w4.heap[w.heap.size]? = some (.cells #[.int .i64 4, .string bNil, .int .i64 0, .string sa, .slice Aa na ca, .slice (some ⟨b', o, none⟩) 2 cp] 27 (0, 0)) := hk4.typed H3.out (by decide) hbne
    have hk4 : KeepB base b w w4 := HK3.out.trans hk4
    clear k5 e0 e1 e2 e3 e4 e5 g0 g1 g2 g3 g4 g5
    have k5 := cellv h1 5 rfl
    have e0 := (cell_keep (hk4.block b' (by omega) (by omega) (Or.inl hbl)) (o)).trans E0.out
    have e1 := (cell_keep (hk4.block b' (by omega) (by omega) (Or.inl hbl)) (o + 1)).trans E1.out
    have e2 := (cell_keep (hk4.block b' (by omega) (by omega) (Or.inl hbl)) (o + 2)).trans E2.out
    have e3 := (cell_keep (hk4.block b' (by omega) (by omega) (Or.inl hbl)) (o + 3)).trans E3.out
    have e4 := (cell_keep (hk4.block b' (by omega) (by omega) (Or.inl hbl)) (o + 4)).trans E4.out
    have e5 := (cell_keep (hk4.block b' (by omega) (by omega) (Or.inl hbl)) (o + 5)).trans E5.out
    have g0 := (cell_keep (hk4.block b' (by omega) (by omega) (Or.inl hbl)) (o + 6)).trans G0.out
    have g1 := (cell_keep (hk4.block b' (by omega) (by omega) (Or.inl hbl)) (o + 6 + 1)).trans G1.out
    have g2 := (cell_keep (hk4.block b' (by omega) (by omega) (Or.inl hbl)) (o + 6 + 2)).trans G2.out
    have g3 := (cell_keep (hk4.block b' (by omega) (by omega) (Or.inl hbl)) (o + 6 + 3)).trans G3.out
    have g4 := (cell_keep (hk4.block b' (by omega) (by omega) (Or.inl hbl)) (o + 6 + 4)).trans G4.out
    have g5 := (cell_keep (hk4.block b' (by omega) (by omega) (Or.inl hbl)) (o + 6 + 5)).trans G5.out
    have z4 := lt_heap h1
    have H4 := Lib.hid h1
    clear h1
    have HB4 := Lib.hid hB4
    have HK4 := Lib.hid hk4
    clear hB4 hk4
    go_wp2_with fail
    (refine (writeByte_any base b _ 41 _ HB4.out (by have := HLX.out; simp; omega)).mono ?_)
    rintro e w5 ⟨rfl, hB5, hk5⟩
    have HB5 := Lib.hid hB5
    have HK5 := Lib.hid hk5
    clear hB5 hk5
    go_wp2_with fail
    go_end0
    exact ⟨rfl, by simpa [Tv.text] using HB5.out, HK4.out.trans HK5.out⟩

end Go.Proofs.YtnoceodmnjhljaaDoor
