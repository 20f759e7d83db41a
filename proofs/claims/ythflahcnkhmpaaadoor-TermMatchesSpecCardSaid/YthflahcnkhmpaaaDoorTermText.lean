/-
  The reference's TermText: the walk.
-/
import Derived.Test.YthflahcnkhmpaaaDoorDigits
import Derived.Test.YthflahcnkhmpaaaDoorSyBytes
import Derived.Test.YthflahcnkhmpaaaDoorCloneTm
namespace Go.Proofs.YthflahcnkhmpaaaDoor
open Go Go.RowKit
set_option linter.unusedSimpArgs false
set_option linter.unusedVariables false

set_option maxHeartbeats 4000000 in
set_option maxRecDepth 100000 in
theorem termText_any : ∀ (v : Tv) (cs : List Value) (w : World) (S : Nat → Prop), v.tysmall → v.nodes ≤ 1000000 → tmRep.R w S v.tm cs → (∀ b, S b → b < w.heap.size) →
    Calls Tryd.prog 46 #[.agg cs.toArray] w fun e w' => e = .returned (.string ⟨v.text.toArray⟩) ∧ Below w.heap.size w w' := by
  intro v
  induction v with
  | var i =>
    intro cs w S hv hN h hS
    obtain ⟨u0, u1, vs, rfl, hnm, hty, hl⟩ := Tm.open_ (a := ⟨2, bNil, (i : Int), noTy⟩) (l := []) h
    obtain ⟨sa, Aa, na, ca, rfl, rfl⟩ := hty.shape
    obtain ⟨A, m, cp, rfl, hln, hm, _⟩ := hl
    have hi : i < 1000000 := hv
    obtain ⟨x, ex, zx⟩ : ∃ x : ByteArray, (⟨(Lib.decDigits i).toArray⟩ : ByteArray) = x ∧ x.size ≤ i + 1 := ⟨_, rfl, by have := decDigits_len i i (Nat.le_refl _); simpa [ByteArray.size] using this⟩
    have hd := fun (W : World) => digits_any i W (by omega)
    rw [ex] at hd
    have t1 : ¬ 9223372036854775807 < 1 + x.size := by omega
    clear h hm hN hv hnm hty hS
    have HD := Lib.hid hd
    clear hd
    go_enter Tryd.func46, Tryd.ntmps46
    go_wp2_with fail
    (with_reducible refine (HD.out _).mono ?_)
    rintro e w1 ⟨rfl, hw1⟩
    have HW1 := Lib.hid hw1
    clear hw1
    go_wp2_with fail
    go_returns
    have hx : x.data.toList = Lib.decDigits i := by rw [← ex]
    exact ⟨congrArg (fun x => Ending.returned (Value.string x)) (bytes_mk (by simp [Tv.text, ByteArray.data_append, hx])), ((Below.refl _ w).alloc (Nat.le_refl _) _).trans (HW1.out.mono (by simp))⟩
  | con nm s =>
    intro cs w S hv hN h hS
    obtain ⟨u0, u1, vs, rfl, hnm, hty, hl⟩ := Tm.open_ (a := ⟨1, nm, 0, s.ty⟩) (l := []) h
    obtain ⟨sa, Aa, na, ca, rfl, rfl⟩ := hty.shape
    obtain ⟨A, m, cp, rfl, hln, hm, _⟩ := hl
    obtain ⟨hz1, hz2⟩ := hv
    obtain ⟨x, ex, zx⟩ := s.string
    have hsl := s.bytes_len
    have hr := refText_big s (.string sa) (.slice Aa na ca)
    rw [ex] at hr
    have t1 : ¬ 9223372036854775806 < nm.size := by omega
    have t2 : ¬ 9223372036854775807 < nm.size + 1 := by omega
    have t3 : ¬ 9223372036854775807 < nm.size + 1 + x.size := by omega
    have hz3 : s.nodes ≤ 1000000000000 := by omega
    clear h hm hN hnm hz1 hz2 zx hsl
    have HR := Lib.hid hr
    have HS := Lib.hid hS
    have HTY := Lib.hid hty
    have HZ3 := Lib.hid hz3
    have EX := Lib.hid ex
    clear hr hS hty hz3 ex
    go_enter Tryd.func46, Tryd.ntmps46
    go_wp2_with fail
    go_region_held3 (fun w' => w'.cell? ⟨w.heap.size, 1, none⟩ = some (.string nm) ∧ w'.cell? ⟨w.heap.size, 3, none⟩ = some (.string sa) ∧ w'.cell? ⟨w.heap.size, 4, none⟩ = some (.slice Aa na ca))
      ((first | (go_keep; done) | (go_split_ands; (repeat' apply And.intro) <;> (refine (kc _ _ (by go_size)).trans ?_; assumption))))
      (first
        | ((with_reducible refine (HR.out _ S (by exact Ty.In_keep (fun k hk => heap_drew (heap_old (HS.out k hk) rfl)) (fun _ h => h) _ _ _ HTY.out) (by intro b hb; have := HS.out b hb; simp; omega) HZ3.out).mono ?_); rintro e w1 ⟨rfl, hw1⟩; obtain ⟨kc, kf⟩ := bcell hw1; have Hw1 := Lib.hid hw1)
        | fail)
    all_goals
      go_wp2_with fail
      go_returns
      refine ⟨?_, (show Below w.heap.size w _ by go_grown).trans (Hw1.out.mono (by simp))⟩
      refine congrArg (fun x => Ending.returned (Value.string x)) (bytes_mk (x := nm ++ ⟨#[58]⟩ ++ x) ?_)
      have e1 : x.data.toList = s.bytes := by rw [← EX.out]
      simp [Tv.text, ByteArray.data_append, e1]
  | abs s b ih =>
    intro cs w S hv hN h hS
    obtain ⟨u0, u1, vs, rfl, hnm, hty, hl⟩ := Tm.open_ (a := ⟨3, bNil, 0, s.ty⟩) (l := [b.tm]) h
    obtain ⟨sa, Aa, na, ca, rfl, rfl⟩ := hty.shape
    have HL := Lib.hid hl
    obtain ⟨A, m, cp, rfl, hln, hm, _⟩ := hl
    obtain rfl : 1 = m := hln
    obtain ⟨b', o, kc, rfl, hSb, hkr, hkc⟩ := Rep.Sl.at_ HL.out (k := 0) (a := b.tm) rfl
    obtain ⟨s1, A1, n1, c1, B1, m1, d1, rfl, _, _⟩ := Tm.shape hkr
    have e0 := hkc 0 _ rfl
    rw [show o + 0 * tmRep.size + 0 = o from by show o + 0 * 6 + 0 = _; omega] at e0
    have e1 := hkc 1 _ rfl
    rw [show o + 0 * tmRep.size + 1 = o + 1 from by show o + 0 * 6 + 1 = _; omega] at e1
    have e2 := hkc 2 _ rfl
    rw [show o + 0 * tmRep.size + 2 = o + 2 from by show o + 0 * 6 + 2 = _; omega] at e2
    have e3 := hkc 3 _ rfl
    rw [show o + 0 * tmRep.size + 3 = o + 3 from by show o + 0 * 6 + 3 = _; omega] at e3
    have e4 := hkc 4 _ rfl
    rw [show o + 0 * tmRep.size + 4 = o + 4 from by show o + 0 * 6 + 4 = _; omega] at e4
    have e5 := hkc 5 _ rfl
    rw [show o + 0 * tmRep.size + 5 = o + 5 from by show o + 0 * 6 + 5 = _; omega] at e5
    obtain ⟨hz1, hz2⟩ := hv
    have hbn : b.nodes ≤ 1000000 := by simp only [Tv.nodes] at hN; omega
    obtain ⟨x, ex, zx⟩ := s.string
    obtain ⟨y, ey, zy⟩ := b.string
    have hsl := s.bytes_len
    have hbl := b.text_len hz2
    have hr := refText_big s (.string sa) (.slice Aa na ca)
    rw [ex] at hr
    rw [ey] at ih
    have hbs := hS b' hSb
    have hbs1 : b' < w.heap.size + 1 := by omega
    have t1 : ¬ 9223372036854775807 < 1 + x.size := by omega
    have t2 : ¬ 9223372036854775807 < 1 + x.size + 1 := by omega
    have t3 : ¬ 9223372036854775807 < 1 + x.size + 1 + y.size := by omega
    have t4 : ¬ 9223372036854775807 < 1 + x.size + 1 + y.size + 1 := by omega
    have t5 : ¬ 9223372036854775806 < 1 + x.size := by omega
    have t6 : ¬ 9223372036854775806 < 1 + x.size + 1 + y.size := by omega
    have hz3 : s.nodes ≤ 1000000000000 := by omega
    clear h hm hN hnm hz1 zx hsl hkc hbl zy
    have HR := Lib.hid hr
    have HS := Lib.hid hS
    have HTY := Lib.hid hty
    have HZ3 := Lib.hid hz3
    have EX := Lib.hid ex
    have EY := Lib.hid ey
    have IH := Lib.hid ih
    have HZ2 := Lib.hid hz2
    have HBN := Lib.hid hbn
    have HKR := Lib.hid hkr
    have HSB := Lib.hid hSb
    clear hr hS hty hz3 ex ey ih hz2 hbn hkr hSb
    go_enter Tryd.func46, Tryd.ntmps46
    go_wp2_with fail
    go_region_held3 (fun w' => w'.cell? ⟨w.heap.size, 3, none⟩ = some (.string sa) ∧ w'.cell? ⟨w.heap.size, 4, none⟩ = some (.slice Aa na ca) ∧ w'.cell? ⟨w.heap.size, 5, none⟩ = some (.slice (some ⟨b', o, none⟩) 1 cp) ∧ w'.cell? ⟨b', o, none⟩ = some (.int .i64 b.tm.lab.kind) ∧ w'.cell? ⟨b', o + 1, none⟩ = some (.string b.tm.lab.nm) ∧ w'.cell? ⟨b', o + 2, none⟩ = some (.int .i64 b.tm.lab.ix) ∧ w'.cell? ⟨b', o + 3, none⟩ = some (.string s1) ∧ w'.cell? ⟨b', o + 4, none⟩ = some (.slice A1 n1 c1) ∧ w'.cell? ⟨b', o + 5, none⟩ = some (.slice B1 m1 d1))
      ((first | (go_keep; done) | (go_split_ands; (repeat' apply And.intro) <;> (refine (kc2 _ _ (by go_size)).trans ?_; assumption)) | (go_split_ands; (repeat' apply And.intro) <;> (refine (kc _ _ (by go_size)).trans ?_; assumption))))
      (first
        | ((with_reducible refine (HR.out _ S (by exact Ty.In_keep (fun k hk => heap_drew (heap_old (HS.out k hk) rfl)) (fun _ h => h) _ _ _ HTY.out) (by intro b hb; have := HS.out b hb; simp; omega) HZ3.out).mono ?_); rintro e w1 ⟨rfl, hw1⟩; obtain ⟨kc, kf⟩ := bcell hw1; have z1 : w.heap.size + 1 ≤ w1.heap.size := (by have := hw1.size; simpa using this); have Hw1 := Lib.hid hw1)
        | ((with_reducible refine (IH.out [.int .i64 b.tm.lab.kind, .string b.tm.lab.nm, .int .i64 b.tm.lab.ix, .string s1, .slice A1 n1 c1, .slice B1 m1 d1] _ S HZ2.out HBN.out (by exact tmRep.keep HKR.out (fun k hk => (Hw1.out.block k (by have := HS.out k hk; simp; omega)).trans (heap_drew (heap_old (HS.out k hk) rfl))) (fun _ h => h)) (by intro b hb; have := HS.out b hb; omega)).mono ?_); rintro e w2 ⟨rfl, hw2⟩; obtain ⟨kc2, kf2⟩ := bcell hw2; have Hw2 := Lib.hid hw2)
        | fail)
    all_goals
      go_wp2_with fail
      go_returns
      refine ⟨?_, (show Below w.heap.size w _ by go_grown).trans ((Hw1.out.mono (by simp)).trans (Hw2.out.mono (by omega)))⟩
      refine congrArg (fun x => Ending.returned (Value.string x)) (bytes_mk (x := ⟨#[91]⟩ ++ x ++ ⟨#[32]⟩ ++ y ++ ⟨#[93]⟩) ?_)
      have e1 : x.data.toList = s.bytes := by rw [← EX.out]
      have e2 : y.data.toList = b.text := by rw [← EY.out]
      simp [Tv.text, ByteArray.data_append, e1, e2]
  | app f x ihf ihx =>
    intro cs w S hv hN h hS
    obtain ⟨u0, u1, vs, rfl, hnm, hty, hl⟩ := Tm.open_ (a := ⟨4, bNil, 0, noTy⟩) (l := [f.tm, x.tm]) h
    obtain ⟨sa, Aa, na, ca, rfl, rfl⟩ := hty.shape
    have HL := Lib.hid hl
    obtain ⟨A, m, cp, rfl, hln, hm, _⟩ := hl
    obtain rfl : 2 = m := hln
    obtain ⟨b', o, kc, e', hSb, hkr, hkc⟩ := Rep.Sl.at_ HL.out (k := 0) (a := f.tm) rfl
    obtain ⟨b2, o2, kc2, e2', _, hkr2, hkc2⟩ := Rep.Sl.at_ HL.out (k := 1) (a := x.tm) rfl
    subst e'
    obtain ⟨rfl, rfl⟩ : b' = b2 ∧ o = o2 := by simpa using e2'
    clear e2'
    obtain ⟨s1, A1, n1, c1, B1, m1, d1, rfl, _, _⟩ := Tm.shape hkr
    obtain ⟨s2, A2, n2, c2, B2, m2, d2, rfl, _, _⟩ := Tm.shape hkr2
    have e0 := hkc 0 _ rfl
    rw [show o + 0 * tmRep.size + 0 = o from by show o + 0 * 6 + 0 = _; omega] at e0
    have e1 := hkc 1 _ rfl
    rw [show o + 0 * tmRep.size + 1 = o + 1 from by show o + 0 * 6 + 1 = _; omega] at e1
    have e2 := hkc 2 _ rfl
    rw [show o + 0 * tmRep.size + 2 = o + 2 from by show o + 0 * 6 + 2 = _; omega] at e2
    have e3 := hkc 3 _ rfl
    rw [show o + 0 * tmRep.size + 3 = o + 3 from by show o + 0 * 6 + 3 = _; omega] at e3
    have e4 := hkc 4 _ rfl
    rw [show o + 0 * tmRep.size + 4 = o + 4 from by show o + 0 * 6 + 4 = _; omega] at e4
    have e5 := hkc 5 _ rfl
    rw [show o + 0 * tmRep.size + 5 = o + 5 from by show o + 0 * 6 + 5 = _; omega] at e5
    have g0 := hkc2 0 _ rfl
    rw [show o + 1 * tmRep.size + 0 = o + 6 from by show o + 1 * 6 + 0 = _; omega] at g0
    have g1 := hkc2 1 _ rfl
    rw [show o + 1 * tmRep.size + 1 = o + 6 + 1 from by show o + 1 * 6 + 1 = _; omega] at g1
    have g2 := hkc2 2 _ rfl
    rw [show o + 1 * tmRep.size + 2 = o + 6 + 2 from by show o + 1 * 6 + 2 = _; omega] at g2
    have g3 := hkc2 3 _ rfl
    rw [show o + 1 * tmRep.size + 3 = o + 6 + 3 from by show o + 1 * 6 + 3 = _; omega] at g3
    have g4 := hkc2 4 _ rfl
    rw [show o + 1 * tmRep.size + 4 = o + 6 + 4 from by show o + 1 * 6 + 4 = _; omega] at g4
    have g5 := hkc2 5 _ rfl
    rw [show o + 1 * tmRep.size + 5 = o + 6 + 5 from by show o + 1 * 6 + 5 = _; omega] at g5
    obtain ⟨hz1, hz2⟩ := hv
    have hfn : f.nodes ≤ 1000000 := by simp only [Tv.nodes] at hN; omega
    have hxn : x.nodes ≤ 1000000 := by simp only [Tv.nodes] at hN; omega
    obtain ⟨xa, ex, zx⟩ := f.string
    obtain ⟨y, ey, zy⟩ := x.string
    have hsl := f.text_len hz1
    have hbl := x.text_len hz2
    rw [ex] at ihf
    rw [ey] at ihx
    have hbs := hS b' hSb
    have hbs1 : b' < w.heap.size + 1 := by omega
    have t1 : ¬ 9223372036854775807 < 1 + xa.size := by omega
    have t2 : ¬ 9223372036854775807 < 1 + xa.size + 1 := by omega
    have t3 : ¬ 9223372036854775807 < 1 + xa.size + 1 + y.size := by omega
    have t4 : ¬ 9223372036854775807 < 1 + xa.size + 1 + y.size + 1 := by omega
    have t5 : ¬ 9223372036854775806 < 1 + xa.size := by omega
    have t6 : ¬ 9223372036854775806 < 1 + xa.size + 1 + y.size := by omega
    clear h hm hN hnm zx hsl hkc hkc2 hbl zy hty
    have HS := Lib.hid hS
    have HZ1 := Lib.hid hz1
    have EX := Lib.hid ex
    have EY := Lib.hid ey
    have IHF := Lib.hid ihf
    have IHX := Lib.hid ihx
    have HZ2 := Lib.hid hz2
    have HFN := Lib.hid hfn
    have HXN := Lib.hid hxn
    have HKR := Lib.hid hkr
    have HKR2 := Lib.hid hkr2
    have HSB := Lib.hid hSb
    clear hS hz1 ex ey ihf ihx hz2 hfn hxn hkr hkr2 hSb
    go_enter Tryd.func46, Tryd.ntmps46
    go_wp2_with fail
    go_region_held3 (fun w' => w'.cell? ⟨w.heap.size, 5, none⟩ = some (.slice (some ⟨b', o, none⟩) 2 cp) ∧ w'.cell? ⟨b', o, none⟩ = some (.int .i64 f.tm.lab.kind) ∧ w'.cell? ⟨b', o + 1, none⟩ = some (.string f.tm.lab.nm) ∧ w'.cell? ⟨b', o + 2, none⟩ = some (.int .i64 f.tm.lab.ix) ∧ w'.cell? ⟨b', o + 3, none⟩ = some (.string s1) ∧ w'.cell? ⟨b', o + 4, none⟩ = some (.slice A1 n1 c1) ∧ w'.cell? ⟨b', o + 5, none⟩ = some (.slice B1 m1 d1) ∧ w'.cell? ⟨b', o + 6, none⟩ = some (.int .i64 x.tm.lab.kind) ∧ w'.cell? ⟨b', o + 6 + 1, none⟩ = some (.string x.tm.lab.nm) ∧ w'.cell? ⟨b', o + 6 + 2, none⟩ = some (.int .i64 x.tm.lab.ix) ∧ w'.cell? ⟨b', o + 6 + 3, none⟩ = some (.string s2) ∧ w'.cell? ⟨b', o + 6 + 4, none⟩ = some (.slice A2 n2 c2) ∧ w'.cell? ⟨b', o + 6 + 5, none⟩ = some (.slice B2 m2 d2))
      ((first | (go_keep; done) | (go_split_ands; (repeat' apply And.intro) <;> (refine (kc2 _ _ (by go_size)).trans ?_; assumption)) | (go_split_ands; (repeat' apply And.intro) <;> (refine (kc _ _ (by go_size)).trans ?_; assumption))))
      (first
        | ((with_reducible refine (IHF.out [.int .i64 f.tm.lab.kind, .string f.tm.lab.nm, .int .i64 f.tm.lab.ix, .string s1, .slice A1 n1 c1, .slice B1 m1 d1] _ S HZ1.out HFN.out (by exact tmRep.keep HKR.out (fun k hk => heap_drew (heap_old (HS.out k hk) rfl)) (fun _ h => h)) (by intro b hb; have := HS.out b hb; simp; omega)).mono ?_); rintro e w1 ⟨rfl, hw1⟩; obtain ⟨kc, kf⟩ := bcell hw1; have z1 : w.heap.size + 1 ≤ w1.heap.size := (by have := hw1.size; simpa using this); have Hw1 := Lib.hid hw1)
        | ((with_reducible refine (IHX.out [.int .i64 x.tm.lab.kind, .string x.tm.lab.nm, .int .i64 x.tm.lab.ix, .string s2, .slice A2 n2 c2, .slice B2 m2 d2] _ S HZ2.out HXN.out (by exact tmRep.keep HKR2.out (fun k hk => (Hw1.out.block k (by have := HS.out k hk; simp; omega)).trans (heap_drew (heap_old (HS.out k hk) rfl))) (fun _ h => h)) (by intro b hb; have := HS.out b hb; omega)).mono ?_); rintro e w2 ⟨rfl, hw2⟩; obtain ⟨kc2, kf2⟩ := bcell hw2; have Hw2 := Lib.hid hw2)
        | fail)
    all_goals
      go_wp2_with fail
      go_returns
      refine ⟨?_, (show Below w.heap.size w _ by go_grown).trans ((Hw1.out.mono (by simp)).trans (Hw2.out.mono (by omega)))⟩
      refine congrArg (fun x => Ending.returned (Value.string x)) (bytes_mk (x := ⟨#[40]⟩ ++ xa ++ ⟨#[32]⟩ ++ y ++ ⟨#[41]⟩) ?_)
      have e1 : xa.data.toList = f.text := by rw [← EX.out]
      have e2 : y.data.toList = x.text := by rw [← EY.out]
      simp [Tv.text, ByteArray.data_append, e1, e2]

end Go.Proofs.YthflahcnkhmpaaaDoor
