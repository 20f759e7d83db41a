/-
  The statement ReduceEqualMatchesSpecCardSaid is proved: whatever its arguments, the law ReduceEqualMatchesSpec returns true, and they read afterwards as before.
  Conditions: those of the given row alone (the listed variables are laid as the program's text lays them; the card ties that).
-/
import Derived.Test.YthflahcnkhmpaabDoorSyBytes
import Derived.Test.YthflahcnkhmpaabDoorTerm
import Derived.Test.YthflahcnkhmpaabDoorSyIn
import Derived.Lib.ItoaNum
import Derived.Test.YthflahcnkhmpaabDoorProg
import Derived.Test.YthflahcnkhmpaabDoorRowSet
import Derived.Laws.IdiomStrings
import Derived.Test.YthflahcnkhmpaabDoorCloneTm
import Derived.Test.YthflahcnkhmpaabDoorLongRef
import Derived.Test.YthflahcnkhmpaabDoorExpand
import Derived.Test.YthflahcnkhmpaabDoorEqTy
import Derived.Test.YthflahcnkhmpaabDoorSameTy
import Derived.Test.YthflahcnkhmpaabDoorValidTm
import Derived.Test.YthflahcnkhmpaabDoorMore
import Derived.ChangeArms
import Derived.ChangeSame
import Derived.Deep.Slices
import Derived.Test.YthflahcnkhmpaabDoorRows
import Derived.ProofKit
import Derived.LaidMore
import Derived.OpenShut
import Derived.Stop.Joined
import Derived.Test.YthflahcnkhmpaabDoorMakers
import Derived.Test.YthflahcnkhmpaabDoorTypedR
import Derived.Test.YthflahcnkhmpaabDoorTmStack
import Derived.Deep.QuietTactic
import Derived.BigQuiet
import Derived.WalkSmall
import Derived.Test.YthflahcnkhmpaabDoorTie
import Derived.Test.YthflahcnkhmpaabDoorCards
import Derived.SevenTiedAt
namespace Go.Proofs.YthflahcnkhmpaabDoor
set_option linter.unusedSimpArgs false
set_option linter.unusedVariables false

section
open Go Go.RowKit

def Tv.text : Tv → List UInt8
  | .con nm s => nm.data.toList ++ 58 :: s.bytes
  | .var i => 35 :: Lib.decDigits i
  | .abs s b => 91 :: (s.bytes ++ 32 :: (b.text ++ [93]))
  | .app f x => 40 :: (f.text ++ 32 :: (x.text ++ [41]))
theorem Tv.string (v : Tv) : ∃ x : ByteArray, (⟨v.text.toArray⟩ : ByteArray) = x ∧ x.size = v.text.length := ⟨_, rfl, by simp [ByteArray.size]⟩

theorem decDigits_len : ∀ (N n : Nat), n ≤ N → (Lib.decDigits n).length ≤ n + 1 := by
  intro N
  induction N with
  | zero => intro n h; obtain rfl : n = 0 := by omega
            rw [Lib.decDigits]; simp
  | succ N ih =>
    intro n h
    rw [Lib.decDigits]
    split
    · simp
    · have := ih (n / 10) (by omega)
      simp only [List.length_append, List.length_cons, List.length_nil]; omega
def Tv.tysmall : Tv → Prop
  | .con nm s => nm.size ≤ 1000000 ∧ s.nodes ≤ 1000000
  | .var i => i < 1000000
  | .abs s b => s.nodes ≤ 1000000 ∧ b.tysmall
  | .app f x => f.tysmall ∧ x.tysmall
theorem okName_size {s : ByteArray} (h : okName s = true) : s.size ≤ 30 := by
  unfold okName at h
  simp only [Bool.and_eq_true, decide_eq_true_eq] at h
  exact h.1.1.2
theorem Sy.small_of {s : Sy} (h : s.ty.fault = 0) : s.nodes ≤ 200 := by
  obtain ⟨s', e, hn, _⟩ := Ty.of_fault h
  obtain rfl := Sy.ty_inj _ _ e
  exact hn
theorem Tv.small : ∀ (v : Tv) (bd : Nat), v.ok bd → bd + v.depth ≤ 1000000 → v.tysmall
  | .con nm s, _, h, _ => ⟨by have := okName_size h.1; omega, by have := Sy.small_of h.2; omega⟩
  | .var i, bd, h, hd => by have h' : i < bd := h; show i < 1000000; omega
  | .abs s b, bd, h, hd => ⟨by have := Sy.small_of h.1; omega, Tv.small b (bd + 1) h.2 (by simp only [Tv.depth] at hd; omega)⟩
  | .app f x, bd, h, hd => ⟨Tv.small f bd h.1 (by simp only [Tv.depth] at hd; omega), Tv.small x bd h.2 (by simp only [Tv.depth] at hd; omega)⟩
theorem Tv.text_len : ∀ v : Tv, v.tysmall → v.text.length ≤ 10000000 * v.nodes
  | .con nm s, h => by
    have h1 := s.bytes_len
    have h2 : nm.data.toList.length = nm.size := by rw [Array.length_toList]; rfl
    have h3 := h.1
    have h4 := h.2
    simp only [Tv.text, Tv.nodes, List.length_append, List.length_cons]; omega
  | .var i, h => by
    have h1 := decDigits_len i i (Nat.le_refl _)
    have h2 : i < 1000000 := h
    simp only [Tv.text, Tv.nodes, List.length_cons]; omega
  | .abs s b, h => by
    have h1 := s.bytes_len
    have h2 := h.1
    have h3 := Tv.text_len b h.2
    simp only [Tv.text, Tv.nodes, List.length_append, List.length_cons, List.length_nil]; omega
  | .app f x, h => by
    have h1 := Tv.text_len f h.1
    have h2 := Tv.text_len x h.2
    simp only [Tv.text, Tv.nodes, List.length_append, List.length_cons, List.length_nil]; omega
end

section
open Go Go.RowKit

theorem dec_step {n m : Nat} {l : List UInt8} (h : Lib.decDigits n = Lib.decDigits m ++ l) (hm : ¬ m < 10) : Lib.decDigits n = Lib.decDigits (m / 10) ++ (UInt8.ofNat (48 + m % 10) :: l) := by
  rw [h, Lib.decDigits, dif_neg hm]; simp
theorem dec_end {n m : Nat} {l : List UInt8} (h : Lib.decDigits n = Lib.decDigits m ++ l) (hm : m < 10) : Lib.decDigits n = UInt8.ofNat (48 + m % 10) :: l := by
  rw [h, Lib.decDigits, dif_pos hm, Nat.mod_eq_of_lt hm]; simp
theorem run_byte_string {P : Program} {src dst e : TypeId} (hs : P.underlying src = some (.slice e)) (he : P.underlying e = some (.int .u8)) (hd : P.underlying dst = some .string) (W : World) (c : Nat) (hc : c < 256) :
    (convert src dst (.slice (some ⟨W.heap.size, 0, none⟩) 1 1)).run P (W.alloc (.cells #[.int .u8 (c : Int)] e)) = .ok (.string ⟨#[UInt8.ofNat c]⟩) (W.alloc (.cells #[.int .u8 (c : Int)] e)) := by
  have h := run_convert_bytes_back (P := P) (W.alloc (.cells #[.int .u8 (c : Int)] e)) src dst e ⟨W.heap.size, 0, none⟩ 1 [UInt8.ofNat c] hs he hd (fun j hj => by
    have : j = 0 := by simpa using hj
    subst this
    rw [addr_none]
    have hc' : (UInt8.ofNat c).toNat = c := by simp [UInt8.toNat_ofNat]; omega
    simp [hc'])
  simpa using h

set_option maxRecDepth 100000 in
set_option maxHeartbeats 2000000 in
theorem digits_any (n : Nat) (w : World) (hn : n ≤ 1000000000000) :
    Calls Tryd.prog 73 #[.int .i64 n] w fun e w' => e = .returned (.string ⟨(Lib.decDigits n).toArray⟩) ∧ Below w.heap.size w w' := by
  have hdl := decDigits_len n n (Nat.le_refl _)
  go_enter Tryd.func73, Tryd.ntmps73
  go_wp2_with fail
  go_loopg [0, 3] n (fun k v0 v3 wr => ∃ (m : Nat) (s : ByteArray), k = m ∧ m ≤ n ∧ v0 = .int .i64 m ∧ v3 = .string s ∧ Lib.decDigits n = Lib.decDigits m ++ s.data.toList ∧ Below w.heap.size w wr)
  case atStart => exact ⟨n, ⟨#[]⟩, rfl, Nat.le_refl _, rfl, rfl, by simp, Below.refl _ _⟩
  case round =>
    obtain ⟨m, s, rfl, hmn, rfl, rfl, hd, hb⟩ := hrel
    have hsz : s.size ≤ n + 1 := by
      have h1 : s.data.toList.length = s.size := by rw [Array.length_toList]; rfl
      rw [hd, List.length_append] at hdl; omega
    have e0 : ((48 + gk % 10 : Nat) : Int) = 48 + (gk : Int) % 10 := by omega
    have kc := fun (W : World) => run_byte_string (P := Tryd.prog) Tryd.underlying104 Tryd.underlying5 Tryd.underlying9 W (48 + gk % 10) (by omega)
    rw [e0] at kc
    have t1 : ¬ 9223372036854775807 < 1 + s.size := by omega
    clear e0
    have HB := Lib.hid hb
    have HD := Lib.hid hd
    have HDL := Lib.hid hdl
    clear hb hd hdl
    by_cases hm : gk < 10
    · have q1 : ((gk : Int) / 10 == 0) = true := by simp; omega
      go_wp2_with fail
      go_returns
      exact ⟨congrArg (fun x => Ending.returned (Value.string x)) (bytes_mk (by rw [dec_end HD.out hm]; simp)), (HB.out.alloc (HB.out.size) _)⟩
    · have q1 : ((gk : Int) / 10 == 0) = false := by rw [beq_eq_false_iff_ne]; omega
      go_wp2_with fail
      go_roundg (gk / 10)
      case measure => omega
      case rel => exact ⟨gk / 10, _, rfl, by omega, by simp, rfl, by rw [dec_step HD.out hm]; simp, HB.out.alloc (HB.out.size) _⟩
end

section
open Go Go.RowKit

set_option maxHeartbeats 4000000 in
set_option maxRecDepth 100000 in
theorem termText_any : ∀ (v : Tv) (cs : List Value) (w : World) (S : Nat → Prop), v.tysmall → v.nodes ≤ 1000000 → tmRep.R w S v.tm cs → (∀ b, S b → b < w.heap.size) →
    Calls Tryd.prog 61 #[.agg cs.toArray] w fun e w' => e = .returned (.string ⟨v.text.toArray⟩) ∧ Below w.heap.size w w' := by
  intro v
  induction v with
  | var i =>
    intro cs w S hv hN h hS
    obtain ⟨u0, u1, vs, rfl, hnm, hty, hl⟩ := Tm.open_ (a := ⟨2, bNil, (i : Int), noTy⟩) (l := []) h
    obtain ⟨sa, Aa, na, ca, rfl, rfl⟩ := hty.shape
    obtain ⟨A, m, cp, rfl, hln, hm, _⟩ := hl
    have hi : i < 1000000 := hv
    obtain ⟨x, ex, zx⟩ : ∃ x : ByteArray, (⟨(Lib.decDigits i).toArray⟩ : ByteArray) = x ∧ x.size ≤ i + 1 := ⟨_, rfl, by have := decDigits_len i i (Nat.le_refl _); simpa [ByteArray.size] using this⟩
    have hd := fun (W : World) => digits_any i W (by omega)
    rw [ex] at hd
    have t1 : ¬ 9223372036854775807 < 1 + x.size := by omega
    clear h hm hN hv hnm hty hS
    have HD := Lib.hid hd
    clear hd
    go_enter Tryd.func61, Tryd.ntmps61
    go_wp2_with fail
    (with_reducible refine (HD.out _).mono ?_)
    rintro e w1 ⟨rfl, hw1⟩
    have HW1 := Lib.hid hw1
    clear hw1
    go_wp2_with fail
    go_returns
    have hx : x.data.toList = Lib.decDigits i := by rw [← ex]
    exact ⟨congrArg (fun x => Ending.returned (Value.string x)) (bytes_mk (by simp [Tv.text, ByteArray.data_append, hx])), ((Below.refl _ w).alloc (Nat.le_refl _) _).trans (HW1.out.mono (by simp))⟩
  | con nm s =>
    intro cs w S hv hN h hS
    obtain ⟨u0, u1, vs, rfl, hnm, hty, hl⟩ := Tm.open_ (a := ⟨1, nm, 0, s.ty⟩) (l := []) h
    obtain ⟨sa, Aa, na, ca, rfl, rfl⟩ := hty.shape
    obtain ⟨A, m, cp, rfl, hln, hm, _⟩ := hl
    obtain ⟨hz1, hz2⟩ := hv
    obtain ⟨x, ex, zx⟩ := s.string
    have hsl := s.bytes_len
    have hr := refText_big s (.string sa) (.slice Aa na ca)
    rw [ex] at hr
    have t1 : ¬ 9223372036854775806 < nm.size := by omega
    have t2 : ¬ 9223372036854775807 < nm.size + 1 := by omega
    have t3 : ¬ 9223372036854775807 < nm.size + 1 + x.size := by omega
    have hz3 : s.nodes ≤ 1000000000000 := by omega
    clear h hm hN hnm hz1 hz2 zx hsl
    have HR := Lib.hid hr
    have HS := Lib.hid hS
    have HTY := Lib.hid hty
    have HZ3 := Lib.hid hz3
    have EX := Lib.hid ex
    clear hr hS hty hz3 ex
    go_enter Tryd.func61, Tryd.ntmps61
    go_wp2_with fail
    go_region_held3 (fun w' => w'.cell? ⟨w.heap.size, 1, none⟩ = some (.string nm) ∧ w'.cell? ⟨w.heap.size, 3, none⟩ = some (.string sa) ∧ w'.cell? ⟨w.heap.size, 4, none⟩ = some (.slice Aa na ca))
      ((first | (go_keep; done) | (go_split_ands; (repeat' apply And.intro) <;> (refine (kc _ _ (by go_size)).trans ?_; assumption))))
      (first
        | ((with_reducible refine (HR.out _ S (by exact Ty.In_keep (fun k hk => heap_drew (heap_old (HS.out k hk) rfl)) (fun _ h => h) _ _ _ HTY.out) (by intro b hb; have := HS.out b hb; simp; omega) HZ3.out).mono ?_); rintro e w1 ⟨rfl, hw1⟩; obtain ⟨kc, kf⟩ := bcell hw1; have Hw1 := Lib.hid hw1)
        | fail)
    all_goals
      go_wp2_with fail
      go_returns
      refine ⟨?_, (show Below w.heap.size w _ by go_grown).trans (Hw1.out.mono (by simp))⟩
      refine congrArg (fun x => Ending.returned (Value.string x)) (bytes_mk (x := nm ++ ⟨#[58]⟩ ++ x) ?_)
      have e1 : x.data.toList = s.bytes := by rw [← EX.out]
      simp [Tv.text, ByteArray.data_append, e1]
  | abs s b ih =>
    intro cs w S hv hN h hS
    obtain ⟨u0, u1, vs, rfl, hnm, hty, hl⟩ := Tm.open_ (a := ⟨3, bNil, 0, s.ty⟩) (l := [b.tm]) h
    obtain ⟨sa, Aa, na, ca, rfl, rfl⟩ := hty.shape
    have HL := Lib.hid hl
    obtain ⟨A, m, cp, rfl, hln, hm, _⟩ := hl
    obtain rfl : 1 = m := hln
    obtain ⟨b', o, kc, rfl, hSb, hkr, hkc⟩ := Rep.Sl.at_ HL.out (k := 0) (a := b.tm) rfl
    obtain ⟨s1, A1, n1, c1, B1, m1, d1, rfl, _, _⟩ := Tm.shape hkr
    have e0 := hkc 0 _ rfl
    rw [show o + 0 * tmRep.size + 0 = o from by show o + 0 * 6 + 0 = _; omega] at e0
    have e1 := hkc 1 _ rfl
    rw [show o + 0 * tmRep.size + 1 = o + 1 from by show o + 0 * 6 + 1 = _; omega] at e1
    have e2 := hkc 2 _ rfl
    rw [show o + 0 * tmRep.size + 2 = o + 2 from by show o + 0 * 6 + 2 = _; omega] at e2
    have e3 := hkc 3 _ rfl
    rw [show o + 0 * tmRep.size + 3 = o + 3 from by show o + 0 * 6 + 3 = _; omega] at e3
    have e4 := hkc 4 _ rfl
    rw [show o + 0 * tmRep.size + 4 = o + 4 from by show o + 0 * 6 + 4 = _; omega] at e4
    have e5 := hkc 5 _ rfl
    rw [show o + 0 * tmRep.size + 5 = o + 5 from by show o + 0 * 6 + 5 = _; omega] at e5
    obtain ⟨hz1, hz2⟩ := hv
    have hbn : b.nodes ≤ 1000000 := by simp only [Tv.nodes] at hN; omega
    obtain ⟨x, ex, zx⟩ := s.string
    obtain ⟨y, ey, zy⟩ := b.string
    have hsl := s.bytes_len
    have hbl := b.text_len hz2
    have hr := refText_big s (.string sa) (.slice Aa na ca)
    rw [ex] at hr
    rw [ey] at ih
    have hbs := hS b' hSb
    have hbs1 : b' < w.heap.size + 1 := by omega
    have t1 : ¬ 9223372036854775807 < 1 + x.size := by omega
    have t2 : ¬ 9223372036854775807 < 1 + x.size + 1 := by omega
    have t3 : ¬ 9223372036854775807 < 1 + x.size + 1 + y.size := by omega
    have t4 : ¬ 9223372036854775807 < 1 + x.size + 1 + y.size + 1 := by omega
    have t5 : ¬ 9223372036854775806 < 1 + x.size := by omega
    have t6 : ¬ 9223372036854775806 < 1 + x.size + 1 + y.size := by omega
    have hz3 : s.nodes ≤ 1000000000000 := by omega
    clear h hm hN hnm hz1 zx hsl hkc hbl zy
    have HR := Lib.hid hr
    have HS := Lib.hid hS
    have HTY := Lib.hid hty
    have HZ3 := Lib.hid hz3
    have EX := Lib.hid ex
    have EY := Lib.hid ey
    have IH := Lib.hid ih
    have HZ2 := Lib.hid hz2
    have HBN := Lib.hid hbn
    have HKR := Lib.hid hkr
    have HSB := Lib.hid hSb
    clear hr hS hty hz3 ex ey ih hz2 hbn hkr hSb
    go_enter Tryd.func61, Tryd.ntmps61
    go_wp2_with fail
    go_region_held3 (fun w' => w'.cell? ⟨w.heap.size, 3, none⟩ = some (.string sa) ∧ w'.cell? ⟨w.heap.size, 4, none⟩ = some (.slice Aa na ca) ∧ w'.cell? ⟨w.heap.size, 5, none⟩ = some (.slice (some ⟨b', o, none⟩) 1 cp) ∧ w'.cell? ⟨b', o, none⟩ = some (.int .i64 b.tm.lab.kind) ∧ w'.cell? ⟨b', o + 1, none⟩ = some (.string b.tm.lab.nm) ∧ w'.cell? ⟨b', o + 2, none⟩ = some (.int .i64 b.tm.lab.ix) ∧ w'.cell? ⟨b', o + 3, none⟩ = some (.string s1) ∧ w'.cell? ⟨b', o + 4, none⟩ = some (.slice A1 n1 c1) ∧ w'.cell? ⟨b', o + 5, none⟩ = some (.slice B1 m1 d1))
      ((first | (go_keep; done) | (go_split_ands; (repeat' apply And.intro) <;> (refine (kc2 _ _ (by go_size)).trans ?_; assumption)) | (go_split_ands; (repeat' apply And.intro) <;> (refine (kc _ _ (by go_size)).trans ?_; assumption))))
      (first
        | ((with_reducible refine (HR.out _ S (by exact Ty.In_keep (fun k hk => heap_drew (heap_old (HS.out k hk) rfl)) (fun _ h => h) _ _ _ HTY.out) (by intro b hb; have := HS.out b hb; simp; omega) HZ3.out).mono ?_); rintro e w1 ⟨rfl, hw1⟩; obtain ⟨kc, kf⟩ := bcell hw1; have z1 : w.heap.size + 1 ≤ w1.heap.size := (by have := hw1.size; simpa using this); have Hw1 := Lib.hid hw1)
        | ((with_reducible refine (IH.out [.int .i64 b.tm.lab.kind, .string b.tm.lab.nm, .int .i64 b.tm.lab.ix, .string s1, .slice A1 n1 c1, .slice B1 m1 d1] _ S HZ2.out HBN.out (by exact tmRep.keep HKR.out (fun k hk => (Hw1.out.block k (by have := HS.out k hk; simp; omega)).trans (heap_drew (heap_old (HS.out k hk) rfl))) (fun _ h => h)) (by intro b hb; have := HS.out b hb; omega)).mono ?_); rintro e w2 ⟨rfl, hw2⟩; obtain ⟨kc2, kf2⟩ := bcell hw2; have Hw2 := Lib.hid hw2)
        | fail)
    all_goals
      go_wp2_with fail
      go_returns
      refine ⟨?_, (show Below w.heap.size w _ by go_grown).trans ((Hw1.out.mono (by simp)).trans (Hw2.out.mono (by omega)))⟩
      refine congrArg (fun x => Ending.returned (Value.string x)) (bytes_mk (x := ⟨#[91]⟩ ++ x ++ ⟨#[32]⟩ ++ y ++ ⟨#[93]⟩) ?_)
      have e1 : x.data.toList = s.bytes := by rw [← EX.out]
      have e2 : y.data.toList = b.text := by rw [← EY.out]
      simp [Tv.text, ByteArray.data_append, e1, e2]
  | app f x ihf ihx =>
    intro cs w S hv hN h hS
    obtain ⟨u0, u1, vs, rfl, hnm, hty, hl⟩ := Tm.open_ (a := ⟨4, bNil, 0, noTy⟩) (l := [f.tm, x.tm]) h
    obtain ⟨sa, Aa, na, ca, rfl, rfl⟩ := hty.shape
    have HL := Lib.hid hl
    obtain ⟨A, m, cp, rfl, hln, hm, _⟩ := hl
    obtain rfl : 2 = m := hln
    obtain ⟨b', o, kc, e', hSb, hkr, hkc⟩ := Rep.Sl.at_ HL.out (k := 0) (a := f.tm) rfl
    obtain ⟨b2, o2, kc2, e2', _, hkr2, hkc2⟩ := Rep.Sl.at_ HL.out (k := 1) (a := x.tm) rfl
    subst e'
    obtain ⟨rfl, rfl⟩ : b' = b2 ∧ o = o2 := by simpa using e2'
    clear e2'
    obtain ⟨s1, A1, n1, c1, B1, m1, d1, rfl, _, _⟩ := Tm.shape hkr
    obtain ⟨s2, A2, n2, c2, B2, m2, d2, rfl, _, _⟩ := Tm.shape hkr2
    have e0 := hkc 0 _ rfl
    rw [show o + 0 * tmRep.size + 0 = o from by show o + 0 * 6 + 0 = _; omega] at e0
    have e1 := hkc 1 _ rfl
    rw [show o + 0 * tmRep.size + 1 = o + 1 from by show o + 0 * 6 + 1 = _; omega] at e1
    have e2 := hkc 2 _ rfl
    rw [show o + 0 * tmRep.size + 2 = o + 2 from by show o + 0 * 6 + 2 = _; omega] at e2
    have e3 := hkc 3 _ rfl
    rw [show o + 0 * tmRep.size + 3 = o + 3 from by show o + 0 * 6 + 3 = _; omega] at e3
    have e4 := hkc 4 _ rfl
    rw [show o + 0 * tmRep.size + 4 = o + 4 from by show o + 0 * 6 + 4 = _; omega] at e4
    have e5 := hkc 5 _ rfl
    rw [show o + 0 * tmRep.size + 5 = o + 5 from by show o + 0 * 6 + 5 = _; omega] at e5
    have g0 := hkc2 0 _ rfl
    rw [show o + 1 * tmRep.size + 0 = o + 6 from by show o + 1 * 6 + 0 = _; omega] at g0
    have g1 := hkc2 1 _ rfl
    rw [show o + 1 * tmRep.size + 1 = o + 6 + 1 from by show o + 1 * 6 + 1 = _; omega] at g1
    have g2 := hkc2 2 _ rfl
    rw [show o + 1 * tmRep.size + 2 = o + 6 + 2 from by show o + 1 * 6 + 2 = _; omega] at g2
    have g3 := hkc2 3 _ rfl
    rw [show o + 1 * tmRep.size + 3 = o + 6 + 3 from by show o + 1 * 6 + 3 = _; omega] at g3
    have g4 := hkc2 4 _ rfl
    rw [show o + 1 * tmRep.size + 4 = o + 6 + 4 from by show o + 1 * 6 + 4 = _; omega] at g4
    have g5 := hkc2 5 _ rfl
    rw [show o + 1 * tmRep.size + 5 = o + 6 + 5 from by show o + 1 * 6 + 5 = _; omega] at g5
    obtain ⟨hz1, hz2⟩ := hv
    have hfn : f.nodes ≤ 1000000 := by simp only [Tv.nodes] at hN; omega
    have hxn : x.nodes ≤ 1000000 := by simp only [Tv.nodes] at hN; omega
    obtain ⟨xa, ex, zx⟩ := f.string
    obtain ⟨y, ey, zy⟩ := x.string
    have hsl := f.text_len hz1
    have hbl := x.text_len hz2
    rw [ex] at ihf
    rw [ey] at ihx
    have hbs := hS b' hSb
    have hbs1 : b' < w.heap.size + 1 := by omega
    have t1 : ¬ 9223372036854775807 < 1 + xa.size := by omega
    have t2 : ¬ 9223372036854775807 < 1 + xa.size + 1 := by omega
    have t3 : ¬ 9223372036854775807 < 1 + xa.size + 1 + y.size := by omega
    have t4 : ¬ 9223372036854775807 < 1 + xa.size + 1 + y.size + 1 := by omega
    have t5 : ¬ 9223372036854775806 < 1 + xa.size := by omega
    have t6 : ¬ 9223372036854775806 < 1 + xa.size + 1 + y.size := by omega
    clear h hm hN hnm zx hsl hkc hkc2 hbl zy hty
    have HS := Lib.hid hS
    have HZ1 := Lib.hid hz1
    have EX := Lib.hid ex
    have EY := Lib.hid ey
    have IHF := Lib.hid ihf
    have IHX := Lib.hid ihx
    have HZ2 := Lib.hid hz2
    have HFN := Lib.hid hfn
    have HXN := Lib.hid hxn
    have HKR := Lib.hid hkr
    have HKR2 := Lib.hid hkr2
    have HSB := Lib.hid hSb
    clear hS hz1 ex ey ihf ihx hz2 hfn hxn hkr hkr2 hSb
    go_enter Tryd.func61, Tryd.ntmps61
    go_wp2_with fail
    go_region_held3 (fun w' => w'.cell? ⟨w.heap.size, 5, none⟩ = some (.slice (some ⟨b', o, none⟩) 2 cp) ∧ w'.cell? ⟨b', o, none⟩ = some (.int .i64 f.tm.lab.kind) ∧ w'.cell? ⟨b', o + 1, none⟩ = some (.string f.tm.lab.nm) ∧ w'.cell? ⟨b', o + 2, none⟩ = some (.int .i64 f.tm.lab.ix) ∧ w'.cell? ⟨b', o + 3, none⟩ = some (.string s1) ∧ w'.cell? ⟨b', o + 4, none⟩ = some (.slice A1 n1 c1) ∧ w'.cell? ⟨b', o + 5, none⟩ = some (.slice B1 m1 d1) ∧ w'.cell? ⟨b', o + 6, none⟩ = some (.int .i64 x.tm.lab.kind) ∧ w'.cell? ⟨b', o + 6 + 1, none⟩ = some (.string x.tm.lab.nm) ∧ w'.cell? ⟨b', o + 6 + 2, none⟩ = some (.int .i64 x.tm.lab.ix) ∧ w'.cell? ⟨b', o + 6 + 3, none⟩ = some (.string s2) ∧ w'.cell? ⟨b', o + 6 + 4, none⟩ = some (.slice A2 n2 c2) ∧ w'.cell? ⟨b', o + 6 + 5, none⟩ = some (.slice B2 m2 d2))
      ((first | (go_keep; done) | (go_split_ands; (repeat' apply And.intro) <;> (refine (kc2 _ _ (by go_size)).trans ?_; assumption)) | (go_split_ands; (repeat' apply And.intro) <;> (refine (kc _ _ (by go_size)).trans ?_; assumption))))
      (first
        | ((with_reducible refine (IHF.out [.int .i64 f.tm.lab.kind, .string f.tm.lab.nm, .int .i64 f.tm.lab.ix, .string s1, .slice A1 n1 c1, .slice B1 m1 d1] _ S HZ1.out HFN.out (by exact tmRep.keep HKR.out (fun k hk => heap_drew (heap_old (HS.out k hk) rfl)) (fun _ h => h)) (by intro b hb; have := HS.out b hb; simp; omega)).mono ?_); rintro e w1 ⟨rfl, hw1⟩; obtain ⟨kc, kf⟩ := bcell hw1; have z1 : w.heap.size + 1 ≤ w1.heap.size := (by have := hw1.size; simpa using this); have Hw1 := Lib.hid hw1)
        | ((with_reducible refine (IHX.out [.int .i64 x.tm.lab.kind, .string x.tm.lab.nm, .int .i64 x.tm.lab.ix, .string s2, .slice A2 n2 c2, .slice B2 m2 d2] _ S HZ2.out HXN.out (by exact tmRep.keep HKR2.out (fun k hk => (Hw1.out.block k (by have := HS.out k hk; simp; omega)).trans (heap_drew (heap_old (HS.out k hk) rfl))) (fun _ h => h)) (by intro b hb; have := HS.out b hb; omega)).mono ?_); rintro e w2 ⟨rfl, hw2⟩; obtain ⟨kc2, kf2⟩ := bcell hw2; have Hw2 := Lib.hid hw2)
        | fail)
    all_goals
      go_wp2_with fail
      go_returns
      refine ⟨?_, (show Below w.heap.size w _ by go_grown).trans ((Hw1.out.mono (by simp)).trans (Hw2.out.mono (by omega)))⟩
      refine congrArg (fun x => Ending.returned (Value.string x)) (bytes_mk (x := ⟨#[40]⟩ ++ xa ++ ⟨#[32]⟩ ++ y ++ ⟨#[41]⟩) ?_)
      have e1 : xa.data.toList = f.text := by rw [← EX.out]
      have e2 : y.data.toList = x.text := by rw [← EY.out]
      simp [Tv.text, ByteArray.data_append, e1, e2]
end

section
open Go Go.RowKit

def isDig (c : UInt8) : Bool := decide (48 ≤ c.toNat) && decide (c.toNat ≤ 57)
def numOf (l : List UInt8) : Nat := l.foldl (fun n c => 10 * n + (c.toNat - 48)) 0
theorem toNat_dig {d : Nat} (h : d < 10) : (UInt8.ofNat (48 + d)).toNat = 48 + d := by simp [UInt8.toNat_ofNat]; omega
theorem isDig_dig {d : Nat} (h : d < 10) : isDig (UInt8.ofNat (48 + d)) = true := by
  unfold isDig
  rw [toNat_dig h]
  simp; omega
theorem dec_digs (n : Nat) : (∀ c ∈ Lib.decDigits n, isDig c = true) ∧ numOf (Lib.decDigits n) = n := by
  induction n using Nat.strongRecOn with
  | ind n ih =>
    by_cases h10 : n < 10
    · rw [Lib.decDigits, dif_pos h10]
      refine ⟨fun c hc => ?_, ?_⟩
      · obtain rfl := List.mem_singleton.1 hc
        exact isDig_dig h10
      · unfold numOf
        simp only [List.foldl_cons, List.foldl_nil, toNat_dig h10]; omega
    · obtain ⟨h1, h2⟩ := ih (n / 10) (by omega)
      have hd : n % 10 < 10 := Nat.mod_lt _ (by omega)
      rw [Lib.decDigits, dif_neg h10]
      refine ⟨fun c hc => ?_, ?_⟩
      · rcases List.mem_append.1 hc with hc | hc
        · exact h1 c hc
        · obtain rfl := List.mem_singleton.1 hc
          exact isDig_dig hd
      · unfold numOf at h2 ⊢
        rw [List.foldl_append, h2]
        simp only [List.foldl_cons, List.foldl_nil, toNat_dig hd]; omega
theorem span_eq (p : UInt8 → Bool) : ∀ (l m x y : List UInt8), (∀ c ∈ l, p c = true) → (∀ c ∈ m, p c = true) → (∀ c, x.head? = some c → p c = false) → (∀ c, y.head? = some c → p c = false) → l ++ x = m ++ y → l = m ∧ x = y
  | [], [], _, _, _, _, _, _, h => ⟨rfl, h⟩
  | [], b :: m, x, y, _, hm, hx, _, h => by
    simp only [List.nil_append, List.cons_append] at h
    subst h
    have h1 := hm b (List.mem_cons_self ..)
    have h2 := hx b rfl
    rw [h1] at h2; cases h2
  | a :: l, [], x, y, hl, _, _, hy, h => by
    simp only [List.nil_append, List.cons_append] at h
    subst h
    have h1 := hl a (List.mem_cons_self ..)
    have h2 := hy a rfl
    rw [h1] at h2; cases h2
  | a :: l, b :: m, x, y, hl, hm, hx, hy, h => by
    simp only [List.cons_append, List.cons.injEq] at h
    obtain ⟨rfl, h⟩ := h
    obtain ⟨rfl, h2⟩ := span_eq p l m x y (fun c hc => hl c (List.mem_cons_of_mem _ hc)) (fun c hc => hm c (List.mem_cons_of_mem _ hc)) hx hy h
    exact ⟨rfl, h2⟩
def Tv.fine : Tv → Prop
  | .con nm s => okName nm = true ∧ s.nodes ≤ 200
  | .var _ => True
  | .abs _ b => b.fine
  | .app f x => f.fine ∧ x.fine
theorem Tv.ok_fine : ∀ (v : Tv) (bd : Nat), v.ok bd → v.fine
  | .con _ _, _, h => ⟨h.1, Sy.small_of h.2⟩
  | .var _, _, _ => trivial
  | .abs _ b, bd, h => Tv.ok_fine b (bd + 1) h.2
  | .app f x, bd, h => ⟨Tv.ok_fine f bd h.1, Tv.ok_fine x bd h.2⟩
theorem Tv.fine_lift : ∀ (t : Tv) (n k : Nat), t.fine → (t.lift n k).fine
  | .con _ _, _, _, h => h
  | .var i, n, k, _ => by unfold Tv.lift; split <;> trivial
  | .abs _ b, n, k, h => Tv.fine_lift b n (k + 1) h
  | .app f x, n, k, h => ⟨Tv.fine_lift f n k h.1, Tv.fine_lift x n k h.2⟩
theorem okName_all {s : ByteArray} (h : okName s = true) : (∀ c ∈ s.data.toList, (isLow c || isOther c) = true) ∧ ∃ c l, s.data.toList = c :: l ∧ isLow c = true := by
  unfold okName at h
  simp only [Bool.and_eq_true, decide_eq_true_eq] at h
  obtain ⟨⟨⟨_, _⟩, h3⟩, h4⟩ := h
  refine ⟨fun c hc => List.all_eq_true.1 h4 c hc, ?_⟩
  cases hl : s.data.toList with
  | nil => rw [hl] at h3; exact absurd h3 (by decide)
  | cons c l => rw [hl] at h3; exact ⟨c, l, rfl, h3⟩

theorem Tv.text_split : ∀ (u v : Tv) (x y : List UInt8), u.fine → v.fine → (∀ c, x.head? = some c → isDig c = false) → (∀ c, y.head? = some c → isDig c = false) → u.text ++ x = v.text ++ y → u = v ∧ x = y
  | .con n1 s1, .con n2 s2, x, y, h1, h2, _, _, h => by
    simp only [Tv.text, List.append_assoc, List.cons_append] at h
    obtain ⟨e1, e2⟩ := span_eq (fun c => isLow c || isOther c) _ _ _ _ (okName_all h1.1).1 (okName_all h2.1).1 (fun c hc => by injection hc with hc; subst hc; decide) (fun c hc => by injection hc with hc; subst hc; decide) h
    simp only [List.cons.injEq, true_and] at e2
    obtain ⟨rfl, e3⟩ := Sy.bytes_split s1 s2 x y e2
    have e4 : n1 = n2 := (bytes_mk e1).trans (bytes_mk rfl).symm
    subst e4
    exact ⟨rfl, e3⟩
  | .var i, .var j, x, y, _, _, hx, hy, h => by
    simp only [Tv.text, List.cons_append, List.cons.injEq, true_and] at h
    obtain ⟨e1, e2⟩ := span_eq isDig _ _ _ _ (dec_digs i).1 (dec_digs j).1 hx hy h
    have e3 := (dec_digs i).2
    rw [e1, (dec_digs j).2] at e3
    subst e3
    exact ⟨rfl, e2⟩
  | .abs s1 b1, .abs s2 b2, x, y, h1, h2, _, _, h => by
    simp only [Tv.text, List.cons_append, List.append_assoc, List.cons.injEq, true_and, List.nil_append] at h
    obtain ⟨rfl, e⟩ := Sy.bytes_split s1 s2 _ _ h
    simp only [List.cons.injEq, true_and] at e
    obtain ⟨rfl, e2⟩ := Tv.text_split b1 b2 _ _ h1 h2 (fun c hc => by injection hc with hc; subst hc; decide) (fun c hc => by injection hc with hc; subst hc; decide) e
    exact ⟨rfl, by simpa using e2⟩
  | .app f1 a1, .app f2 a2, x, y, h1, h2, _, _, h => by
    simp only [Tv.text, List.cons_append, List.append_assoc, List.cons.injEq, true_and, List.nil_append] at h
    obtain ⟨rfl, e⟩ := Tv.text_split f1 f2 _ _ h1.1 h2.1 (fun c hc => by injection hc with hc; subst hc; decide) (fun c hc => by injection hc with hc; subst hc; decide) h
    simp only [List.cons.injEq, true_and] at e
    obtain ⟨rfl, e2⟩ := Tv.text_split a1 a2 _ _ h1.2 h2.2 (fun c hc => by injection hc with hc; subst hc; decide) (fun c hc => by injection hc with hc; subst hc; decide) e
    exact ⟨rfl, by simpa using e2⟩
  | .con n s, .var i, _, _, h1, _, _, _, h => by
    obtain ⟨_, c, l, e, hc⟩ := okName_all h1.1
    simp only [Tv.text, e, List.cons_append, List.cons.injEq] at h
    obtain ⟨rfl, _⟩ := h
    exact absurd hc (by decide)
  | .con n s, .abs _ _, _, _, h1, _, _, _, h => by
    obtain ⟨_, c, l, e, hc⟩ := okName_all h1.1
    simp only [Tv.text, e, List.cons_append, List.cons.injEq] at h
    obtain ⟨rfl, _⟩ := h
    exact absurd hc (by decide)
  | .con n s, .app _ _, _, _, h1, _, _, _, h => by
    obtain ⟨_, c, l, e, hc⟩ := okName_all h1.1
    simp only [Tv.text, e, List.cons_append, List.cons.injEq] at h
    obtain ⟨rfl, _⟩ := h
    exact absurd hc (by decide)
  | .var i, .con n s, _, _, _, h1, _, _, h => by
    obtain ⟨_, c, l, e, hc⟩ := okName_all h1.1
    simp only [Tv.text, e, List.cons_append, List.cons.injEq] at h
    obtain ⟨rfl, _⟩ := h
    exact absurd hc (by decide)
  | .abs _ _, .con n s, _, _, _, h1, _, _, h => by
    obtain ⟨_, c, l, e, hc⟩ := okName_all h1.1
    simp only [Tv.text, e, List.cons_append, List.cons.injEq] at h
    obtain ⟨rfl, _⟩ := h
    exact absurd hc (by decide)
  | .app _ _, .con n s, _, _, _, h1, _, _, h => by
    obtain ⟨_, c, l, e, hc⟩ := okName_all h1.1
    simp only [Tv.text, e, List.cons_append, List.cons.injEq] at h
    obtain ⟨rfl, _⟩ := h
    exact absurd hc (by decide)
  | .var _, .abs _ _, _, _, _, _, _, _, h => by simp [Tv.text] at h
  | .var _, .app _ _, _, _, _, _, _, _, h => by simp [Tv.text] at h
  | .abs _ _, .var _, _, _, _, _, _, _, h => by simp [Tv.text] at h
  | .abs _ _, .app _ _, _, _, _, _, _, _, h => by simp [Tv.text] at h
  | .app _ _, .var _, _, _, _, _, _, _, h => by simp [Tv.text] at h
  | .app _ _, .abs _ _, _, _, _, _, _, _, h => by simp [Tv.text] at h
theorem Tv.text_inj {u v : Tv} (h1 : u.fine) (h2 : v.fine) (h : u.text = v.text) : u = v := (Tv.text_split u v [] [] h1 h2 (fun c hc => by cases hc) (fun c hc => by cases hc) (by rw [h])).1

theorem Tv.typ_small : ∀ (v : Tv) (c : List Sy) (bd : Nat) (s : Sy), v.ok bd → (∀ a ∈ c, a.nodes ≤ 200) → Tv.typ c v = some s → s.nodes ≤ 201 * v.nodes
  | .con nm s', c, bd, s, h, _, ht => by
    obtain rfl : s' = s := Option.some.inj ht
    have := Sy.small_of h.2
    simp only [Tv.nodes]; omega
  | .var i, c, bd, s, _, hc, ht => by
    have ht : c[i]? = some s := ht
    obtain ⟨h1, h2⟩ := List.getElem?_eq_some_iff.1 ht
    have := hc s (h2 ▸ List.getElem_mem h1)
    simp only [Tv.nodes]; omega
  | .abs a b, c, bd, s, h, hc, ht => by
    obtain ⟨r, rfl, h1⟩ := Tv.typ_abs ht
    have h2 := Sy.small_of h.1
    have h3 := Tv.typ_small b (a :: c) (bd + 1) r h.2 (fun x hx => by
      rcases List.mem_cons.1 hx with rfl | hx
      · exact h2
      · exact hc x hx) h1
    simp only [Tv.nodes, Sy.nodes]; omega
  | .app f x, c, bd, s, h, hc, ht => by
    obtain ⟨a, h1, _⟩ := Tv.typ_app ht
    have h3 := Tv.typ_small f c bd (.fn a s) h.1 hc h1
    simp only [Tv.nodes, Sy.nodes] at h3 ⊢; omega

theorem LF.fine_ : ∀ (N : Nat) (c : List Sy) (t y : Tv) (s : Sy), y.nodes ≤ N → c.length + y.nodes ≤ 1000000 → t.fine → (∀ a ∈ c, a.nodes ≤ 1000000) →
    (LH c t s y → y.fine ∧ y.tysmall ∧ s.nodes ≤ 1000000) ∧ (s.nodes ≤ 1000000 → LF c t s y → y.fine ∧ y.tysmall) := by
  intro N
  induction N with
  | zero => intro c t y s h; have := y.nodes_pos; omega
  | succ N ih =>
    intro c t y s hN hb hf hc
    have hH : LH c t s y → y.fine ∧ y.tysmall ∧ s.nodes ≤ 1000000 := by
      intro h
      cases h with
      | atom h1 h2 =>
        cases t with
        | con nm s' =>
          obtain rfl : s' = s := Option.some.inj h2
          have h3 := okName_size hf.1
          have h4 := hf.2
          exact ⟨hf, ⟨by omega, by omega⟩, by omega⟩
        | var i =>
          have h2 : c[i]? = some s := h2
          obtain ⟨h3, h4⟩ := List.getElem?_eq_some_iff.1 h2
          have h5 := hc s (h4 ▸ List.getElem_mem h3)
          exact ⟨hf, (show i < 1000000 by omega), h5⟩
        | abs _ _ => simp [Tv.atom] at h1
        | app _ _ => simp [Tv.atom] at h1
      | app h1 h2 h3 =>
        rename_i f x f' x' a
        simp only [Tv.nodes] at hN hb
        have i1 := (ih c f f' (.fn a s) (by omega) (by omega) hf.1 hc).1 h1
        have i4 := i1.2.2
        simp only [Sy.nodes] at i4
        have i2 := (ih c x x' a (by omega) (by omega) hf.2 hc).2 (by omega) h3
        exact ⟨⟨i1.1, i2.1⟩, ⟨i1.2.1, i2.2⟩, by omega⟩
    refine ⟨hH, fun hs h => ?_⟩
    cases h with
    | abs h1 =>
      rename_i a b z w
      simp only [Tv.nodes] at hN hb
      simp only [Sy.nodes] at hs
      have i1 := (ih (a :: c) z w b (by omega) (by simp only [List.length_cons]; omega) hf (fun x hx => by
        rcases List.mem_cons.1 hx with rfl | hx
        · omega
        · exact hc x hx)).2 (by omega) h1
      exact ⟨i1.1, (show a.nodes ≤ 1000000 by omega), i1.2⟩
    | eta h1 h2 =>
      rename_i a b w
      simp only [Tv.nodes] at hN hb
      simp only [Sy.nodes] at hs
      have i1 := (ih (a :: c) (.app (t.lift 1 0) (.var 0)) w b (by omega) (by simp only [List.length_cons]; omega) ⟨Tv.fine_lift t 1 0 hf, trivial⟩ (fun x hx => by
        rcases List.mem_cons.1 hx with rfl | hx
        · omega
        · exact hc x hx)).2 (by omega) h2
      exact ⟨i1.1, (show a.nodes ≤ 1000000 by omega), i1.2⟩
    | base h1 h2 => exact ⟨(hH h2).1, (hH h2).2.1⟩

theorem Tv.long_fine {v u : Tv} (hok : v.ok 0) (hn : v.nodes ≤ 200) (h : Tv.long v = some u) : u.fine ∧ u.tysmall ∧ u.nodes ≤ 2000 := by
  unfold Tv.long at h
  split at h
  · rename_i s x hs hx
    split at h
    · simp at h
    · rename_i h0
      obtain rfl := Option.some.inj h
      have hx0 := Tv.steps_pars 2001 v x hx
      have hxt := Tv.steps_typ 2001 v x [] s hx hs
      have hLF := Tv.expand_LF 2001 x s [] 2000 (by omega) hx0.2.1 hxt (by omega)
      have h6 := ((Tv.expand_long 2001 x s [] 2000 (by omega) hx0.2.1 hxt).2 (by omega)).1
      have hn2 : (Tv.expand 2001 x s [] 2000).1.nodes ≤ 2000 := by omega
      have hs2 := Tv.typ_small v [] 0 s hok (by simp) hs
      have h7 := (LF.fine_ _ [] x _ s (Nat.le_refl _) (by simp only [List.length_nil]; omega) (Tv.ok_fine x 0 (Tv.steps_ok 2001 v x 0 hx hok)) (by simp)).2 (by omega) hLF
      exact ⟨h7.1, h7.2, hn2⟩
  · simp at h
end

section
open Go Go.RowKit

theorem tmBeq_ne {x y : Tv} (h : x ≠ y) : tmBeq x.tm y.tm = false := by
  cases hb : tmBeq x.tm y.tm with
  | false => rfl
  | true => exact absurd (Tv.tm_inj _ _ (Tree.eq_of_beq (fun _ _ h => TmL.of_eq h) _ _ hb)) h

set_option maxHeartbeats 2000000 in
set_option maxRecDepth 100000 in
theorem sameTerm_any (u v : Tv) (cs ds : List Value) (w : World) (S : Nat → Prop) (h1 : u.fine ∧ u.tysmall ∧ u.nodes ≤ 2000) (h2 : v.fine ∧ v.tysmall ∧ v.nodes ≤ 2000) (hu : tmRep.R w S u.tm cs) (hv : tmRep.R w S v.tm ds) (hS : ∀ b, S b → b < w.heap.size) :
    Calls Tryd.prog 31 #[.agg cs.toArray, .agg ds.toArray] w fun e w' => e = .returned (.bool (tmBeq u.tm v.tm)) ∧ Below w.heap.size w w' := by
  obtain ⟨s1, A1, n1, c1, B1, m1, d1, rfl, _, _⟩ := Tm.shape hu
  obtain ⟨s2, A2, n2, c2, B2, m2, d2, rfl, _, _⟩ := Tm.shape hv
  obtain ⟨xs, es, _⟩ := u.string
  obtain ⟨xu, eu, _⟩ := v.string
  have hd : (xs.toList == xu.toList) = tmBeq u.tm v.tm := by
    by_cases e : u = v
    · subst e; rw [es] at eu; subst eu; rw [tmBeq_self]; simp
    · have : xs ≠ xu := fun h => e (Tv.text_inj h1.1 h2.1 (by rw [← es, ← eu] at h; simpa using h))
      rw [bytes_ne this, tmBeq_ne e]
  rw [← hd]
  have r1 := fun (W : World) => termText_any u [.int .i64 u.tm.lab.kind, .string u.tm.lab.nm, .int .i64 u.tm.lab.ix, .string s1, .slice A1 n1 c1, .slice B1 m1 d1] W S h1.2.1 (by omega)
  have r2 := fun (W : World) => termText_any v [.int .i64 v.tm.lab.kind, .string v.tm.lab.nm, .int .i64 v.tm.lab.ix, .string s2, .slice A2 n2 c2, .slice B2 m2 d2] W S h2.2.1 (by omega)
  rw [es] at r1
  rw [eu] at r2
  clear es eu hd h1 h2
  have R1 := Lib.hid r1
  have R2 := Lib.hid r2
  have HS := Lib.hid hS
  have HU := Lib.hid hu
  have HV := Lib.hid hv
  clear r1 r2 hS hu hv
  go_enter Tryd.func31, Tryd.ntmps31
  go_wp2_with fail
  go_region_held3 (fun w' => w'.cell? ⟨w.heap.size, 0, none⟩ = some (.int .i64 u.tm.lab.kind) ∧ w'.cell? ⟨w.heap.size, 1, none⟩ = some (.string u.tm.lab.nm) ∧ w'.cell? ⟨w.heap.size, 2, none⟩ = some (.int .i64 u.tm.lab.ix) ∧ w'.cell? ⟨w.heap.size, 3, none⟩ = some (.string s1) ∧ w'.cell? ⟨w.heap.size, 4, none⟩ = some (.slice A1 n1 c1) ∧ w'.cell? ⟨w.heap.size, 5, none⟩ = some (.slice B1 m1 d1) ∧ w'.cell? ⟨w.heap.size + 1, 0, none⟩ = some (.int .i64 v.tm.lab.kind) ∧ w'.cell? ⟨w.heap.size + 1, 1, none⟩ = some (.string v.tm.lab.nm) ∧ w'.cell? ⟨w.heap.size + 1, 2, none⟩ = some (.int .i64 v.tm.lab.ix) ∧ w'.cell? ⟨w.heap.size + 1, 3, none⟩ = some (.string s2) ∧ w'.cell? ⟨w.heap.size + 1, 4, none⟩ = some (.slice A2 n2 c2) ∧ w'.cell? ⟨w.heap.size + 1, 5, none⟩ = some (.slice B2 m2 d2))
    ((first | (go_keep; done) | (go_split_ands; (repeat' apply And.intro) <;> (refine (kc2 _ _ (by go_size)).trans ?_; assumption)) | (go_split_ands; (repeat' apply And.intro) <;> (refine (kc _ _ (by go_size)).trans ?_; assumption))))
    (first
      | ((with_reducible refine (R1.out _ (by exact tmRep.keep HU.out (fun k hk => heap_drew (heap_old (by have := HS.out k hk; simp; omega) (heap_old (HS.out k hk) rfl))) (fun _ h => h)) (by intro b hb; have := HS.out b hb; simp; omega)).mono ?_); rintro e w1 ⟨rfl, hw1⟩; obtain ⟨kc, kf⟩ := bcell hw1; have Hw1 := Lib.hid hw1; have z1 : w.heap.size + 1 + 1 ≤ w1.heap.size := (by have := hw1.size; simpa using this))
      | ((with_reducible refine (R2.out _ (by exact tmRep.keep HV.out (fun k hk => (Hw1.out.block k (by have := HS.out k hk; simp; omega)).trans (heap_drew (heap_old (by have := HS.out k hk; simp; omega) (heap_old (HS.out k hk) rfl)))) (fun _ h => h)) (by intro b hb; have := HS.out b hb; omega)).mono ?_); rintro e w2 ⟨rfl, hw2⟩; obtain ⟨kc2, kf2⟩ := bcell hw2; have Hw2 := Lib.hid hw2)
      | fail)
  go_wp2_with fail
  all_goals
    go_returns
    exact ⟨rfl, (show Below w.heap.size w _ by go_grown).trans ((Hw1.out.mono (by simp; omega)).trans (Hw2.out.mono (by omega)))⟩
end

section
open Go Go.RowKit

set_option maxRecDepth 100000 in
set_option maxHeartbeats 4000000 in
theorem alike_any : ∀ (N : Nat) (x y : Tm) (cs ds : List Value) (w : World) (S : Nat → Prop), x.nodes ≤ N → tmRep.R w S x cs → tmRep.R w S y ds → (∀ b, S b → b < w.heap.size) →
    Calls Tryd.prog 60 #[.agg cs.toArray, .agg ds.toArray] w fun e w' => e = .returned (.bool (tmBeq x y)) ∧ Below w.heap.size w w' := by
  intro N
  induction N with
  | zero => intro x; have := x.nodes_pos; intros; omega
  | succ N ih =>
  intro x y cs ds w S hN hx hy hS
  have IH := Lib.hid ih
  clear ih
  obtain ⟨⟨k1, s1, i1, ty1⟩, l1⟩ := x
  obtain ⟨⟨k2, s2, i2, ty2⟩, l2⟩ := y
  obtain ⟨u0, u1, v1, rfl, hn1, ht1, hl1⟩ := Tm.open_ hx
  obtain ⟨u2, u3, v2, rfl, hn2, ht2, hl2⟩ := Tm.open_ hy
  obtain ⟨sa, Aa, na, ca, rfl, rfl⟩ := ht1.shape
  obtain ⟨sb, Ab, nb, cb, rfl, rfl⟩ := ht2.shape
  have HL1 := Lib.hid hl1
  have HL2 := Lib.hid hl2
  obtain ⟨A1, m1, c1, rfl, rfl, hm1, _⟩ := hl1
  obtain ⟨A2, m2, c2, rfl, rfl, hm2, _⟩ := hl2
  unfold maxLen at hm1 hm2
  simp only at ht1 ht2
  clear hx hy hn1 hn2
  have HS := Lib.hid hS
  have HN := Lib.hid hN
  have HT1 := Lib.hid ht1
  have HT2 := Lib.hid ht2
  clear hS hN ht1 ht2
  by_cases hk : k1 = k2
  case neg =>
    have t1 : (k1 != k2) = true := bne_iff_ne.2 hk
    have f : tmBeq (.mk ⟨k1, s1, i1, ty1⟩ l1) (.mk ⟨k2, s2, i2, ty2⟩ l2) = false := by simp [tmBeq, Tree.beq, TmL.eq, hk]
    rw [f]
    clear hk f
    go_enter Tryd.func60, Tryd.ntmps60
    go_wp2_with fail
    go_returns
    exact ⟨rfl, by go_grown⟩
  subst hk
  by_cases hs : s1 = s2
  case neg =>
    have t1 : (s1.toList == s2.toList) = false := bytes_ne hs
    have f : tmBeq (.mk ⟨k1, s1, i1, ty1⟩ l1) (.mk ⟨k1, s2, i2, ty2⟩ l2) = false := by simp [tmBeq, Tree.beq, TmL.eq, hs]
    rw [f]
    clear hs f
    go_enter Tryd.func60, Tryd.ntmps60
    go_wp2_with fail
    go_returns
    exact ⟨rfl, by go_grown⟩
  subst hs
  by_cases hi : i1 = i2
  case neg =>
    have t1 : (i1 != i2) = true := bne_iff_ne.2 hi
    have f : tmBeq (.mk ⟨k1, s1, i1, ty1⟩ l1) (.mk ⟨k1, s1, i2, ty2⟩ l2) = false := by simp [tmBeq, Tree.beq, TmL.eq, hi]
    rw [f]
    clear hi f
    go_enter Tryd.func60, Tryd.ntmps60
    go_wp2_with fail
    go_returns
    exact ⟨rfl, by go_grown⟩
  subst hi
  by_cases hl : l1.length = l2.length
  case neg =>
    have t1 : ((l1.length : Int) != (l2.length : Int)) = true := bne_iff_ne.2 (by omega)
    have f : tmBeq (.mk ⟨k1, s1, i1, ty1⟩ l1) (.mk ⟨k1, s1, i1, ty2⟩ l2) = false := by
      have : Tree.beqs TmL.eq l1 l2 = false := by
        cases h : Tree.beqs TmL.eq l1 l2
        · rfl
        · exact absurd (Tree.beqs_len l1 l2 h) hl
      simp [tmBeq, Tree.beq, this]
    rw [f]
    clear hl f
    go_enter Tryd.func60, Tryd.ntmps60
    go_wp2_with fail
    go_returns
    exact ⟨rfl, by go_grown⟩
  have t1 : ((l1.length : Int) != (l2.length : Int)) = false := by rw [hl]; simp
  have hlow : ∀ b, S b → b < w.heap.size + 1 + 1 := fun b hb => by have := HS.out b hb; omega
  have hq : ∀ (o p : Obj) b, S b → ((w.alloc o).alloc p).heap[b]? = w.heap[b]? := fun o p b hb => heap_old (by have := HS.out b hb; simp; omega) (heap_old (HS.out b hb) rfl)
  have HLOW := Lib.hid hlow
  have HQ := Lib.hid hq
  clear hlow hq
  have hcall := fun (o p : Obj) => Lib.hid (sameTy_any _ ty1 ty2 _ _ _ _ ((w.alloc o).alloc p) S (Nat.le_refl _) (HT1.out.keep (HQ.out o p)) (HT2.out.keep (HQ.out o p)) (fun b hb => by have := HLOW.out b hb; simpa using this))
  have HCALL := Lib.hid hcall
  clear hcall
  by_cases ht : ty1.beq ty2 = true
  case neg =>
    have f : tmBeq (.mk ⟨k1, s1, i1, ty1⟩ l1) (.mk ⟨k1, s1, i1, ty2⟩ l2) = false := by simp [tmBeq, Tree.beq, TmL.eq, ht]
    rw [f]
    have ht' : ty1.beq ty2 = false := by simpa using ht
    clear ht f
    go_enter Tryd.func60, Tryd.ntmps60
    go_wp2_with fail
    refine (HCALL.out _ _).out.mono ?_
    rw [ht']
    rintro e w1 ⟨rfl, hw1⟩
    have HW1 := Lib.hid ((show Below w.heap.size w _ by go_grown).trans (hw1.mono (by simp; omega)))
    clear hw1
    go_wp2_with fail
    go_returns
    exact ⟨rfl, HW1.out⟩
  have f : ∀ b, Tree.beqs TmL.eq l1 l2 = b → tmBeq (.mk ⟨k1, s1, i1, ty1⟩ l1) (.mk ⟨k1, s1, i1, ty2⟩ l2) = b := fun b h => by simp [tmBeq, Tree.beq, TmL.eq, ht, h]
  have HLL := Lib.hid hl
  have F := Lib.hid f
  clear f
  clear hl
  go_enter Tryd.func60, Tryd.ntmps60
  go_wp2_with fail
  refine (HCALL.out _ _).out.mono ?_
  rw [ht]
  rintro e w1 ⟨rfl, hw1⟩
  have h0 := (hw1.block w.heap.size (by simp <;> omega)).trans (heap_old (by simp) (heap_at rfl))
  have h1 := (hw1.block (w.heap.size + 1) (by simp)).trans (heap_at (by simp))
  have HW1 := Lib.hid ((show Below w.heap.size w _ by go_grown).trans (hw1.mono (by simp; omega)))
  have z1 : w.heap.size + 1 + 1 ≤ w1.heap.size := by have := hw1.size; simpa using this
  clear hw1
  have h0_0 := cv0 h0
  have h0_1 := cv1 h0
  have h0_2 := cv2 h0
  have h0_3 := cv3 h0
  have h0_4 := cv4 h0
  have h0_5 := cv5 h0
  have h0_l := lt_heap h0
  have H0 := Lib.hid h0
  clear h0
  have h1_0 := cv0 h1
  have h1_1 := cv1 h1
  have h1_2 := cv2 h1
  have h1_3 := cv3 h1
  have h1_4 := cv4 h1
  have h1_5 := cv5 h1
  have h1_l := lt_heap h1
  have H1 := Lib.hid h1
  clear h1
  go_wp2_with fail
  clear h0_0 h0_1 h0_2 h0_3 h0_4 h0_5 h1_0 h1_1 h1_2 h1_3 h1_4 h1_5 h0_l h1_l ht
  go_loopg [45] l1.length (fun k v wr => ∃ j : Nat, j + k = l1.length ∧ v = .int .i64 j ∧ Tree.beqs TmL.eq (l1.take j) (l2.take j) = true ∧ Below w1.heap.size w1 wr)
  case atStart => exact ⟨0, by omega, rfl, by simp [Tree.beqs], Below.refl _ _⟩
  case round =>
    obtain ⟨j, hj, rfl, hb, hwr⟩ := hrel
    have h0 := (hwr.block _ (by omega)).trans H0.out
    have h1 := (hwr.block _ (by omega)).trans H1.out
    have hsz : w1.heap.size ≤ wr.heap.size := hwr.size
    have hw0 := HW1.out.trans (hwr.mono (by omega))
    have HWR := Lib.hid hwr
    have HB := Lib.hid hb
    have HW0 := Lib.hid hw0
    clear hwr hb hw0
    have h0_0 := cv0 h0
    have h0_1 := cv1 h0
    have h0_2 := cv2 h0
    have h0_3 := cv3 h0
    have h0_4 := cv4 h0
    have h0_5 := cv5 h0
    have h0_l := lt_heap h0
    have H0 := Lib.hid h0
    clear h0
    have h1_0 := cv0 h1
    have h1_1 := cv1 h1
    have h1_2 := cv2 h1
    have h1_3 := cv3 h1
    have h1_4 := cv4 h1
    have h1_5 := cv5 h1
    have h1_l := lt_heap h1
    have H1 := Lib.hid h1
    clear h1
    by_cases hjl : j < l1.length
    · have hjl' : j < l2.length := by have := HLL.out; omega
      obtain ⟨b, o, kc1, rfl, hSb, hr1, hc1⟩ := Rep.Sl.at_ HL1.out (List.getElem?_eq_getElem hjl)
      obtain ⟨b', o', kc2, rfl, hSb', hr2, hc2⟩ := Rep.Sl.at_ HL2.out (List.getElem?_eq_getElem hjl')
      obtain ⟨s1', A1', n1', c1', B1', m1', d1', rfl, _, _⟩ := Tm.shape hr1
      obtain ⟨s2', A2', n2', c2', B2', m2', d2', rfl, _, _⟩ := Tm.shape hr2
      have hbs := HS.out _ hSb
      have hbs' := HS.out _ hSb'
      have hk1 := HW0.out.block b hbs
      have hk2 := HW0.out.block b' hbs'
      have e0 : wr.cell? ⟨b, o + j * 6, none⟩ = _ := (cell_keep hk1 _).trans (hc1 0 _ rfl)
      have e1 : wr.cell? ⟨b, o + j * 6 + 1, none⟩ = _ := (cell_keep hk1 _).trans (hc1 1 _ rfl)
      have e2 : wr.cell? ⟨b, o + j * 6 + 2, none⟩ = _ := (cell_keep hk1 _).trans (hc1 2 _ rfl)
      have e3 : wr.cell? ⟨b, o + j * 6 + 3, none⟩ = _ := (cell_keep hk1 _).trans (hc1 3 _ rfl)
      have e4 : wr.cell? ⟨b, o + j * 6 + 4, none⟩ = _ := (cell_keep hk1 _).trans (hc1 4 _ rfl)
      have e5 : wr.cell? ⟨b, o + j * 6 + 5, none⟩ = _ := (cell_keep hk1 _).trans (hc1 5 _ rfl)
      have f0 : wr.cell? ⟨b', o' + j * 6, none⟩ = _ := (cell_keep hk2 _).trans (hc2 0 _ rfl)
      have f1 : wr.cell? ⟨b', o' + j * 6 + 1, none⟩ = _ := (cell_keep hk2 _).trans (hc2 1 _ rfl)
      have f2 : wr.cell? ⟨b', o' + j * 6 + 2, none⟩ = _ := (cell_keep hk2 _).trans (hc2 2 _ rfl)
      have f3 : wr.cell? ⟨b', o' + j * 6 + 3, none⟩ = _ := (cell_keep hk2 _).trans (hc2 3 _ rfl)
      have f4 : wr.cell? ⟨b', o' + j * 6 + 4, none⟩ = _ := (cell_keep hk2 _).trans (hc2 4 _ rfl)
      have f5 : wr.cell? ⟨b', o' + j * 6 + 5, none⟩ = _ := (cell_keep hk2 _).trans (hc2 5 _ rfl)
      have HR1 := Lib.hid (tmRep.keep hr1 (fun k hk => HW0.out.block k (HS.out k hk)) (fun _ h => h))
      have HR2 := Lib.hid (tmRep.keep hr2 (fun k hk => HW0.out.block k (HS.out k hk)) (fun _ h => h))
      have hih : Calls Tryd.prog 60 #[.agg #[.int .i64 l1[j].lab.kind, .string l1[j].lab.nm, .int .i64 l1[j].lab.ix, .string s1', .slice A1' n1' c1', .slice B1' m1' d1'], .agg #[.int .i64 l2[j].lab.kind, .string l2[j].lab.nm, .int .i64 l2[j].lab.ix, .string s2', .slice A2' n2' c2', .slice B2' m2' d2']] wr.drew _ := IH.out l1[j] l2[j] [.int .i64 l1[j].lab.kind, .string l1[j].lab.nm, .int .i64 l1[j].lab.ix, .string s1', .slice A1' n1' c1', .slice B1' m1' d1'] [.int .i64 l2[j].lab.kind, .string l2[j].lab.nm, .int .i64 l2[j].lab.ix, .string s2', .slice A2' n2' c2', .slice B2' m2' d2'] wr.drew S (by have := Tree.nodes_at l1 j hjl; have := HN.out; simp [Tree.nodes] at this; omega) (tmRep.keep HR1.out (fun _ _ => rfl) (fun _ h => h)) (tmRep.keep HR2.out (fun _ _ => rfl) (fun _ h => h)) (fun b hb => by have := HS.out b hb; simp; omega)
      clear hr1 hr2 hc1 hc2 hk1 hk2
      have HIH := Lib.hid hih
      clear hih
      have q0 : (0 : Int) ≤ (j : Int) := by omega
      have q1 : (j : Int) < (l1.length : Int) := by omega
      have q2 : (j : Int) < (l2.length : Int) := by omega
      have hbw : b < wr.heap.size ∧ b' < wr.heap.size := ⟨by omega, by omega⟩
      by_cases he : tmBeq l1[j] l2[j] = true
      all_goals try simp only [Bool.not_eq_true] at he
      all_goals
        rw [he] at HIH
        have HE := Lib.hid he
        clear he
        go_wp2_with fail
        go_region_held3 (fun w' => w'.cell? ⟨w.heap.size, 5, none⟩ = some (.slice (some ⟨b, o, none⟩) l1.length c1) ∧ w'.cell? ⟨w.heap.size + 1, 5, none⟩ = some (.slice (some ⟨b', o', none⟩) l2.length c2) ∧ w'.cell? ⟨b, o + j * 6, none⟩ = some (.int .i64 l1[j].lab.kind) ∧ w'.cell? ⟨b, o + j * 6 + 1, none⟩ = some (.string l1[j].lab.nm) ∧ w'.cell? ⟨b, o + j * 6 + 2, none⟩ = some (.int .i64 l1[j].lab.ix) ∧ w'.cell? ⟨b, o + j * 6 + 3, none⟩ = some (.string s1') ∧ w'.cell? ⟨b, o + j * 6 + 4, none⟩ = some (.slice A1' n1' c1') ∧ w'.cell? ⟨b, o + j * 6 + 5, none⟩ = some (.slice B1' m1' d1') ∧ w'.cell? ⟨b', o' + j * 6, none⟩ = some (.int .i64 l2[j].lab.kind) ∧ w'.cell? ⟨b', o' + j * 6 + 1, none⟩ = some (.string l2[j].lab.nm) ∧ w'.cell? ⟨b', o' + j * 6 + 2, none⟩ = some (.int .i64 l2[j].lab.ix) ∧ w'.cell? ⟨b', o' + j * 6 + 3, none⟩ = some (.string s2') ∧ w'.cell? ⟨b', o' + j * 6 + 4, none⟩ = some (.slice A2' n2' c2') ∧ w'.cell? ⟨b', o' + j * 6 + 5, none⟩ = some (.slice B2' m2' d2'))
          ((first | (go_keep; done) | (go_split_ands; (repeat' apply And.intro) <;> (refine (kc _ _ (by omega)).trans ?_; assumption))))
          (((with_reducible refine HIH.out.mono ?_); rintro e w2 ⟨rfl, hw2⟩; have kc : ∀ k q, k < wr.heap.size → w2.cell? ⟨k, q, none⟩ = wr.cell? ⟨k, q, none⟩ := (fun k q h => hw2.cell (p := ⟨k, q, none⟩) h); have HW2 := Lib.hid hw2; clear hw2))
        go_wp2_with fail
      · go_roundg (l1.length - (j + 1))
        case measure => omega
        case rel => exact ⟨j + 1, by omega, by go_num, Tree.beqs_snoc l1 l2 j hjl hjl' HB.out HE.out, HWR.out.drew.trans (HW2.out.mono (by simp; omega))⟩
      · go_returns
        rw [F.out false (Tree.beqs_at l1 l2 j hjl hjl' HE.out)]
        exact ⟨rfl, HW0.out.drew.trans (HW2.out.mono (by simp; omega))⟩
    · go_wp2_with fail
      go_returns
      have h1 : j = l1.length := by omega
      have h2 := HB.out
      have h3 := HLL.out
      rw [h1, List.take_length] at h2
      rw [h3, List.take_length] at h2
      rw [F.out true h2]
      exact ⟨rfl, HW0.out⟩
end

section
open Go Go.RowKit

theorem TmL.code_15 (a : TmL) (n bd : Nat) : a.code n bd ≤ 15 := by
  unfold TmL.code
  repeat' split
  all_goals omega
mutual
theorem tmVal_15 : ∀ (t : Tm) (d bd n : Nat), (tmVal t d bd n).1 ≤ 15
  | .mk a l, d, bd, n => by
    unfold tmVal
    split
    · show 1 ≤ 15; omega
    · split
      · exact tmVals_15 l _ _ _
      · exact TmL.code_15 a _ _
theorem tmVals_15 : ∀ (l : List Tm) (d bd n : Nat), (tmVals l d bd n).1 ≤ 15
  | [], _, _, _ => by unfold tmVals; show 0 ≤ 15; omega
  | t :: l, d, bd, n => by
    unfold tmVals
    split
    · exact tmVals_15 l _ _ _
    · exact tmVal_15 t _ _ _
end
theorem tmFault_15 (t : Tm) : (tmFault t).1 ≤ 15 := by
  unfold tmFault
  split
  · exact tmVal_15 t 1 0 0
  · split
    · show 0 ≤ 15; omega
    · show 12 ≤ 15; omega
def EqualIs (a b : Tm) (ok : Bool) (c i : Int) : Prop :=
  ((tmFault a).1 ≠ 0 → ok = false ∧ c = (tmFault a).1 ∧ i = (tmFault a).2) ∧
  ((tmFault a).1 = 0 → (tmFault b).1 ≠ 0 → ok = false ∧ c = (tmFault b).1 ∧ i = (tmFault b).2) ∧
  (∀ u v : Tv, a = u.tm → b = v.tm → (tmFault a).1 = 0 → (tmFault b).1 = 0 → (u.long = none → ok = false ∧ c = 17 ∧ i = -1) ∧
    (∀ x, u.long = some x → (v.long = none → ok = false ∧ c = 17 ∧ i = -2) ∧ (∀ y, v.long = some y → ok = tmBeq x.tm y.tm ∧ c = 0 ∧ i = 0)))
def EqualAt (a b : Tm) (e : Ending) : Prop := ∃ (ok : Bool) (c i : Int), e = .returned (.tuple #[.bool ok, .agg #[.int .i64 c, .int .i64 i]]) ∧ EqualIs a b ok c i
theorem EqualIs.faultA {a b : Tm} (h : (tmFault a).1 ≠ 0) : EqualIs a b false (tmFault a).1 (tmFault a).2 := ⟨fun _ => ⟨rfl, rfl, rfl⟩, fun h2 => absurd h2 h, fun _ _ _ _ h2 => absurd h2 h⟩
theorem EqualIs.faultB {a b : Tm} (ha : (tmFault a).1 = 0) (h : (tmFault b).1 ≠ 0) : EqualIs a b false (tmFault b).1 (tmFault b).2 := ⟨fun h2 => absurd ha h2, fun _ _ => ⟨rfl, rfl, rfl⟩, fun _ _ _ _ _ h2 => absurd h2 h⟩
theorem EqualIs.noneA {u v : Tv} (ha : (tmFault u.tm).1 = 0) (hb : (tmFault v.tm).1 = 0) (h : u.long = none) : EqualIs u.tm v.tm false 17 (-1) := by
  refine ⟨fun h2 => absurd ha h2, fun _ h2 => absurd hb h2, fun u' v' e1 e2 _ _ => ?_⟩
  obtain rfl := Tv.tm_inj _ _ e1
  exact ⟨fun _ => ⟨rfl, rfl, rfl⟩, fun x hx => by rw [h] at hx; cases hx⟩
theorem EqualIs.noneB {u v x : Tv} (ha : (tmFault u.tm).1 = 0) (hb : (tmFault v.tm).1 = 0) (h : u.long = some x) (h' : v.long = none) : EqualIs u.tm v.tm false 17 (-2) := by
  refine ⟨fun h2 => absurd ha h2, fun _ h2 => absurd hb h2, fun u' v' e1 e2 _ _ => ?_⟩
  obtain rfl := Tv.tm_inj _ _ e1
  obtain rfl := Tv.tm_inj _ _ e2
  exact ⟨fun h2 => (by rw [h] at h2; cases h2), fun _ _ => ⟨fun _ => ⟨rfl, rfl, rfl⟩, fun y hy => by rw [h'] at hy; cases hy⟩⟩
theorem EqualIs.both {u v x y : Tv} (ha : (tmFault u.tm).1 = 0) (hb : (tmFault v.tm).1 = 0) (h : u.long = some x) (h' : v.long = some y) : EqualIs u.tm v.tm (tmBeq x.tm y.tm) 0 0 := by
  refine ⟨fun h2 => absurd ha h2, fun _ h2 => absurd hb h2, fun u' v' e1 e2 _ _ => ?_⟩
  obtain rfl := Tv.tm_inj _ _ e1
  obtain rfl := Tv.tm_inj _ _ e2
  refine ⟨fun h2 => (by rw [h] at h2; cases h2), fun x' hx => ⟨fun h2 => (by rw [h'] at h2; cases h2), fun y' hy => ?_⟩⟩
  rw [h] at hx; rw [h'] at hy
  cases hx; cases hy
  exact ⟨rfl, rfl, rfl⟩

set_option maxRecDepth 100000 in
set_option maxHeartbeats 4000000 in
theorem equal_any (a b : Tm) (cs ds : List Value) (w : World) (S : Nat → Prop) (ha : tmRep.R w S a cs) (hb : tmRep.R w S b ds) (hS : ∀ b, S b → b < w.heap.size) :
    Calls Tryd.prog 30 #[.agg cs.toArray, .agg ds.toArray] w fun e w' => EqualAt a b e ∧ Below w.heap.size w w' := by
  obtain ⟨s1, A1, n1, c1, B1, m1, d1, rfl, _, _⟩ := Tm.shape ha
  obtain ⟨s2, A2, n2, c2, B2, m2, d2, rfl, _, _⟩ := Tm.shape hb
  have hold : ∀ (o p q : Obj) k, S k → (((w.alloc o).alloc p).alloc q).heap[k]? = w.heap[k]? := fun o p q k hk => by
    have := hS k hk
    exact heap_old (by simp; omega) (heap_old (by simp; omega) (heap_old this rfl))
  have hla := fun (o p q : Obj) => Lib.hid (long_any a [.int .i64 a.lab.kind, .string a.lab.nm, .int .i64 a.lab.ix, .string s1, .slice A1 n1 c1, .slice B1 m1 d1] (((w.alloc o).alloc p).alloc q) S (tmRep.keep ha (hold o p q) (fun _ h => h)) (fun k hk => by have := hS k hk; simp; omega))
  clear ha
  have HLA := Lib.hid hla
  have HOLD := Lib.hid hold
  have HB := Lib.hid hb
  have HS := Lib.hid hS
  clear hla hold hb hS
  go_enter Tryd.func30, Tryd.ntmps30
  go_wp2_with fail
  (with_reducible refine (HLA.out _ _ _).out.mono ?_)
  rintro e w1 hr
  have hw1 := hr.2.2
  have z1 : w.heap.size + 3 ≤ w1.heap.size := by have := hw1.size; simpa using this
  have p1 := (hw1.block (w.heap.size + 1) (by simp <;> omega)).trans (heap_old (by simp) (heap_at (by simp)))
  have p2 := (hw1.block (w.heap.size + 1 + 1) (by simp)).trans (heap_at (by simp))
  have hB1 : Below w.heap.size w w1 := ((((Below.refl _ w).alloc (Nat.le_refl _) _).alloc (by simp) _).alloc (by simp <;> omega) _).trans (hw1.mono (by simp; omega))
  have hS1 : ∀ (o p : Obj) k, S k → ((w1.alloc o).alloc p).heap[k]? = w.heap[k]? := fun o p k hk => by
    have := HS.out k hk
    exact heap_old (by simp; omega) (heap_old (by omega) (hB1.block k this))
  have hvb := fun (o p : Obj) => Lib.hid (validateTm_any b [.int .i64 b.lab.kind, .string b.lab.nm, .int .i64 b.lab.ix, .string s2, .slice A2 n2 c2, .slice B2 m2 d2] ((w1.alloc o).alloc p) S (tmRep.keep HB.out (hS1 o p) (fun _ h => h)) (fun k hk => by have := HS.out k hk; simp; omega))
  have l1 : w.heap.size + 1 < w1.heap.size := by omega
  have l2 : w.heap.size + 1 + 1 < w1.heap.size := by omega
  have l1b : w.heap.size + 1 < w1.heap.size + 1 := by omega
  clear hw1
  have HVB := Lib.hid hvb
  have HS1 := Lib.hid hS1
  have HB1 := Lib.hid hB1
  clear hvb hS1 hB1
  by_cases hz : (tmFault a).1 = 0
  case neg =>
    obtain rfl := hr.1 hz
    have hc1 : (((tmFault a).1 : Int) != 0) = true := bne_iff_ne.2 (by omega)
    have hc2 : (((tmFault a).1 : Int) != 17) = true := bne_iff_ne.2 (by have := tmFault_15 a; omega)
    have HZ := Lib.hid hz
    clear hr hz
    unfold zTm
    have P1 := Lib.hid p1
    have P2 := Lib.hid p2
    clear p1 p2
    go_upto_region 3 with (fail)
    refine gen_last (fun wx => Below w.heap.size w wx ∧ wx.heap[w.heap.size + 1 + 1]? = some (.cells #[.int .i64 0, .int .i64 0] 29 (0, 0)) ∧ wx.heap[w1.heap.size + 1]? = some (.cells #[.int .i64 (tmFault a).1, .int .i64 (tmFault a).2] 29 (0, 0))) ?_ ?_
    · exact ⟨(HB1.out.alloc (by omega) _).alloc (by simp; omega) _, heap_old (by simp; omega) (heap_old l2 P2.out), heap_at (by simp)⟩
    rintro wx ⟨hbx, q2, qf⟩
    have zx := hbx.size
    have lq2 := lt_heap q2
    have HBX := Lib.hid hbx
    clear hbx
    have qf_0 := cv0 qf
    have qf_1 := cv1 qf
    have qf_l := lt_heap qf
    have QF := Lib.hid qf
    clear qf
    have q2_0 := cv0 q2
    have q2_1 := cv1 q2
    have q2_f0 := free_heap q2 0
    have q2_f1 := free_heap q2 1
    have q2_l := lt_heap q2
    have Q2 := Lib.hid q2
    clear q2
    go_wp2_with fail
    go_region
    all_goals go_wp2_with fail
    all_goals
      refine bodyPost_ret (v := .tuple #[.bool false, .agg #[.int .i64 (tmFault a).1, .int .i64 ((tmFault a).2)]]) (by simp [results, Tryd.results30, go_sem, q2_0, q2_1, q2_l]) rfl ?_
      exact ⟨⟨false, (tmFault a).1, (tmFault a).2, rfl, EqualIs.faultA HZ.out⟩, below2 HBX.out.drew (by omega)⟩
  obtain ⟨va, sva, rfl, ova, nva, dva, tva, eva⟩ := tmFault_zero hz
  rcases hr.2.1 va rfl hz with ⟨hlA, rfl⟩ | ⟨ua, dsa, hlA, rfl, hua⟩
  · have HZ := Lib.hid hz
    have HLN := Lib.hid hlA
    clear hr hz hlA ova nva dva tva eva
    unfold zTm
    have P2 := Lib.hid p2
    clear p2
    have p1_0 := cv0 p1
    have p1_1 := cv1 p1
    have p1_2 := cv2 p1
    have p1_3 := cv3 p1
    have p1_4 := cv4 p1
    have p1_5 := cv5 p1
    have p1_l := lt_heap p1
    have P1 := Lib.hid p1
    clear p1
    go_wp2_with fail
    (with_reducible refine (HVB.out _ _).out.mono ?_)
    rintro e w2 ⟨rfl, hw2⟩
    have z2 : w1.heap.size + 2 ≤ w2.heap.size := by have := hw2.size; simpa using this
    have q2 := (hw2.block (w.heap.size + 1 + 1) (by simp; omega)).trans (heap_old (by simp; omega) (heap_old l2 P2.out))
    have qf := (hw2.block (w1.heap.size + 1) (by simp)).trans (heap_at (by simp))
    have hB2 : Below w.heap.size w w2 := ((HB1.out.alloc (by omega) (.cells #[.int .i64 0, .string ⟨#[]⟩, .int .i64 0, .string ⟨#[]⟩, .slice none 0 0, .slice none 0 0] 27)).alloc (by simp; omega) (.cells #[.int .i64 17, .int .i64 (-1)] 29)).trans (hw2.mono (by simp; omega))
    clear p1_0 p1_1 p1_2 p1_3 p1_4 p1_5 p1_l hw2
    have HQ2 := Lib.hid q2
    have HQF := Lib.hid qf
    have qf_0 := cv0 qf
    have qf_1 := cv1 qf
    have qf_l := lt_heap qf
    have qf_m : w1.heap.size + 1 < w2.heap.size + 1 := by omega
    clear q2 qf
    have HB2 := Lib.hid hB2
    clear hB2
    by_cases hzb : (tmFault b).1 = 0
    · obtain ⟨vb, svb, rfl, -, -, -, -, evb⟩ := tmFault_zero hzb
      have hc1 : (((tmFault vb.tm).1 : Int) != 0) = false := by rw [hzb]; rfl
      have HZB := Lib.hid hzb
      clear hzb evb
      go_upto_region 8 with (fail)
      refine gen_last (fun wx => Below w.heap.size w wx ∧ wx.heap[w.heap.size + 1 + 1]? = some (.cells #[.int .i64 0, .int .i64 0] 29 (0, 0)) ∧ wx.heap[w1.heap.size + 1]? = some (.cells #[.int .i64 17, .int .i64 (-1)] 29 (0, 0))) ?_ ?_
      · exact ⟨HB2.out.alloc (by omega) _, heap_old (by omega) HQ2.out, heap_old (by omega) HQF.out⟩
      rintro wx ⟨hbx, q2, qf⟩
      have zx := hbx.size
      have lq2 := lt_heap q2
      clear qf_0 qf_1 qf_l qf_m
      have HBX := Lib.hid hbx
      clear hbx
      have qf_0 := cv0 qf
      have qf_1 := cv1 qf
      have qf_l := lt_heap qf
      have QF := Lib.hid qf
      clear qf
      have q2_0 := cv0 q2
      have q2_1 := cv1 q2
      have q2_f0 := free_heap q2 0
      have q2_f1 := free_heap q2 1
      have q2_l := lt_heap q2
      have Q2 := Lib.hid q2
      clear q2
      go_wp2_with fail
      go_region
      all_goals go_wp2_with fail
      all_goals
        refine bodyPost_ret (v := .tuple #[.bool false, .agg #[.int .i64 17, .int .i64 (-1)]]) (by simp [results, Tryd.results30, go_sem, q2_0, q2_1, q2_l]) rfl ?_
        exact ⟨⟨false, 17, -1, rfl, EqualIs.noneA HZ.out HZB.out HLN.out⟩, below2 HBX.out.drew (by omega)⟩
    · have hc1 : (((tmFault b).1 : Int) != 0) = true := bne_iff_ne.2 (by omega)
      have HZB := Lib.hid hzb
      clear hzb
      go_upto_region 6 with (fail)
      refine gen_last (fun wx => Below w.heap.size w wx ∧ wx.heap[w.heap.size + 1 + 1]? = some (.cells #[.int .i64 0, .int .i64 0] 29 (0, 0)) ∧ wx.heap[w2.heap.size]? = some (.cells #[.int .i64 (tmFault b).1, .int .i64 (tmFault b).2] 29 (0, 0))) ?_ ?_
      · exact ⟨HB2.out.alloc (by omega) _, heap_old (by omega) HQ2.out, heap_at rfl⟩
      rintro wx ⟨hbx, q2, qf⟩
      have zx := hbx.size
      have lq2 := lt_heap q2
      clear qf_0 qf_1 qf_l qf_m
      have HBX := Lib.hid hbx
      clear hbx
      have qf_0 := cv0 qf
      have qf_1 := cv1 qf
      have qf_l := lt_heap qf
      have QF := Lib.hid qf
      clear qf
      have q2_0 := cv0 q2
      have q2_1 := cv1 q2
      have q2_f0 := free_heap q2 0
      have q2_f1 := free_heap q2 1
      have q2_l := lt_heap q2
      have Q2 := Lib.hid q2
      clear q2
      go_wp2_with fail
      go_region
      all_goals go_wp2_with fail
      all_goals
        refine bodyPost_ret (v := .tuple #[.bool false, .agg #[.int .i64 (tmFault b).1, .int .i64 ((tmFault b).2)]]) (by simp [results, Tryd.results30, go_sem, q2_0, q2_1, q2_l]) rfl ?_
        exact ⟨⟨false, (tmFault b).1, (tmFault b).2, rfl, EqualIs.faultB HZ.out HZB.out⟩, below2 HBX.out.drew (by omega)⟩
  · have HZ := Lib.hid hz
    have HLN := Lib.hid hlA
    obtain ⟨s3, A3, n3, c3, B3, m3, d3, rfl, _, _⟩ := Tm.shape hua
    clear hr hz hlA ova nva dva tva eva
    have HUA := Lib.hid (tmRep.keep (S' := Lo w1) hua (fun _ _ => rfl) (fun k hk => hk.2))
    clear hua
    have P2 := Lib.hid p2
    clear p2
    have p1_0 := cv0 p1
    have p1_1 := cv1 p1
    have p1_2 := cv2 p1
    have p1_3 := cv3 p1
    have p1_4 := cv4 p1
    have p1_5 := cv5 p1
    have p1_l := lt_heap p1
    have P1 := Lib.hid p1
    clear p1
    go_wp2_with fail
    (with_reducible refine (HVB.out _ _).out.mono ?_)
    rintro e w2 ⟨rfl, hw2⟩
    have z2 : w1.heap.size + 2 ≤ w2.heap.size := by have := hw2.size; simpa using this
    have hk2 : ∀ k, k < w1.heap.size → w2.heap[k]? = w1.heap[k]? := fun k hk => (hw2.block k (by simp; omega)).trans (heap_old (by simp; omega) (heap_old hk rfl))
    have q2 := (hk2 _ l2).trans P2.out
    have q1 := (hk2 _ l1).trans P1.out
    have qx := (hw2.block w1.heap.size (by simp <;> omega)).trans (heap_old (by simp) (heap_at rfl))
    have qf := (hw2.block (w1.heap.size + 1) (by simp)).trans (heap_at (by simp))
    have hB2 : Below w.heap.size w w2 := ((HB1.out.alloc (by omega) (.cells #[.int .i64 ua.tm.lab.kind, .string ua.tm.lab.nm, .int .i64 ua.tm.lab.ix, .string s3, .slice A3 n3 c3, .slice B3 m3 d3] 27)).alloc (by simp; omega) (.cells #[.int .i64 0, .int .i64 0] 29)).trans (hw2.mono (by simp; omega))
    clear p1_0 p1_1 p1_2 p1_3 p1_4 p1_5 p1_l hw2
    have HQ2 := Lib.hid q2
    clear q2
    have HB2 := Lib.hid hB2
    have HK2 := Lib.hid hk2
    clear hB2 hk2
    have q1_0 := cv0 q1
    have q1_1 := cv1 q1
    have q1_2 := cv2 q1
    have q1_3 := cv3 q1
    have q1_4 := cv4 q1
    have q1_5 := cv5 q1
    have q1_l := lt_heap q1
    have Q1 := Lib.hid q1
    clear q1
    have qx_0 := cv0 qx
    have qx_1 := cv1 qx
    have qx_2 := cv2 qx
    have qx_3 := cv3 qx
    have qx_4 := cv4 qx
    have qx_5 := cv5 qx
    have qx_l := lt_heap qx
    have QX := Lib.hid qx
    clear qx
    have qf_0 := cv0 qf
    have qf_1 := cv1 qf
    have qf_l := lt_heap qf
    have QF := Lib.hid qf
    clear qf
    by_cases hzb : (tmFault b).1 = 0
    case neg =>
      have hc1 : (((tmFault b).1 : Int) != 0) = true := bne_iff_ne.2 (by omega)
      have HZB := Lib.hid hzb
      clear hzb
      go_upto_region 6 with (fail)
      refine gen_last (fun wx => Below w.heap.size w wx ∧ wx.heap[w.heap.size + 1 + 1]? = some (.cells #[.int .i64 0, .int .i64 0] 29 (0, 0)) ∧ wx.heap[w2.heap.size]? = some (.cells #[.int .i64 (tmFault b).1, .int .i64 (tmFault b).2] 29 (0, 0))) ?_ ?_
      · exact ⟨HB2.out.alloc (by omega) _, heap_old (by omega) HQ2.out, heap_at rfl⟩
      rintro wx ⟨hbx, q2, qf⟩
      have zx := hbx.size
      have lq2 := lt_heap q2
      clear qf_0 qf_1 qf_l q1_0 q1_1 q1_2 q1_3 q1_4 q1_5 q1_l qx_0 qx_1 qx_2 qx_3 qx_4 qx_5 qx_l
      have HBX := Lib.hid hbx
      clear hbx
      have qf_0 := cv0 qf
      have qf_1 := cv1 qf
      have qf_l := lt_heap qf
      have QF := Lib.hid qf
      clear qf
      have q2_0 := cv0 q2
      have q2_1 := cv1 q2
      have q2_f0 := free_heap q2 0
      have q2_f1 := free_heap q2 1
      have q2_l := lt_heap q2
      have Q2 := Lib.hid q2
      clear q2
      go_wp2_with fail
      go_region
      all_goals go_wp2_with fail
      all_goals
        refine bodyPost_ret (v := .tuple #[.bool false, .agg #[.int .i64 (tmFault b).1, .int .i64 ((tmFault b).2)]]) (by simp [results, Tryd.results30, go_sem, q2_0, q2_1, q2_l]) rfl ?_
        exact ⟨⟨false, (tmFault b).1, (tmFault b).2, rfl, EqualIs.faultB HZ.out HZB.out⟩, below2 HBX.out.drew (by omega)⟩
    obtain ⟨vb, svb, rfl, ovb, nvb, dvb, tvb, evb⟩ := tmFault_zero hzb
    have hc1 : (((tmFault vb.tm).1 : Int) != 0) = false := by rw [hzb]; rfl
    have hlb := fun (o : Obj) => Lib.hid (long_any vb.tm [.int .i64 vb.tm.lab.kind, .string vb.tm.lab.nm, .int .i64 vb.tm.lab.ix, .string s2, .slice A2 n2 c2, .slice B2 m2 d2] (w2.alloc o) S (tmRep.keep HB.out (fun k hk => (heap_old (by have := HS.out k hk; omega) rfl).trans (HB2.out.block k (HS.out k hk))) (fun _ h => h)) (fun k hk => by have := HS.out k hk; simp; omega))
    have HZB := Lib.hid hzb
    clear hzb ovb nvb dvb tvb evb
    have HLB := Lib.hid hlb
    clear hlb
    go_wp2_with fail
    (with_reducible refine (HLB.out _).out.mono ?_)
    rintro e w3 hr
    have hw3 := hr.2.2
    have z3 : w2.heap.size + 1 ≤ w3.heap.size := by have := hw3.size; simpa using this
    have hk3 : ∀ k, k < w2.heap.size → w3.heap[k]? = w2.heap[k]? := fun k hk => (hw3.block k (by simp; omega)).trans (heap_old hk rfl)
    have q2 := (hk3 _ (by omega)).trans HQ2.out
    have qx := (hk3 _ (by omega)).trans QX.out
    have hB3 : Below w.heap.size w w3 := (HB2.out.alloc (by omega) (.cells #[.int .i64 (tmFault vb.tm).1, .int .i64 (tmFault vb.tm).2] 29)).trans (hw3.mono (by simp; omega))
    clear q1_0 q1_1 q1_2 q1_3 q1_4 q1_5 q1_l qx_0 qx_1 qx_2 qx_3 qx_4 qx_5 qx_l qf_0 qf_1 qf_l hc1 hw3
    rcases hr.2.1 vb rfl HZB.out with ⟨hlB, rfl⟩ | ⟨ub, dsb, hlB, rfl, hub⟩
    · have HLB2 := Lib.hid hlB
      clear hr hlB
      unfold zTm
      have HQ2 := Lib.hid q2
      clear q2 qx
      have HB3 := Lib.hid hB3
      have HK3 := Lib.hid hk3
      clear hB3 hk3
      go_upto_region 11 with (fail)
      refine gen_last (fun wx => Below w.heap.size w wx ∧ wx.heap[w.heap.size + 1 + 1]? = some (.cells #[.int .i64 0, .int .i64 0] 29 (0, 0)) ∧ wx.heap[w3.heap.size + 1]? = some (.cells #[.int .i64 17, .int .i64 (-1)] 29 (0, 0))) ?_ ?_
      · exact ⟨(HB3.out.alloc (by omega) _).alloc (by simp; omega) _, heap_old (by simp; omega) (heap_old (by omega) HQ2.out), heap_at (by simp)⟩
      rintro wx ⟨hbx, q2, qf⟩
      have zx := hbx.size
      have lq2 := lt_heap q2
      have HBX := Lib.hid hbx
      clear hbx
      have qf_0 := cv0 qf
      have qf_1 := cv1 qf
      have qf_l := lt_heap qf
      have QF := Lib.hid qf
      clear qf
      have q2_0 := cv0 q2
      have q2_1 := cv1 q2
      have q2_f0 := free_heap q2 0
      have q2_f1 := free_heap q2 1
      have q2_l := lt_heap q2
      have Q2 := Lib.hid q2
      clear q2
      go_wp2_with fail
      go_region
      all_goals go_wp2_with fail
      all_goals
        refine bodyPost_ret (v := .tuple #[.bool false, .agg #[.int .i64 17, .int .i64 (-2)]]) (by simp [results, Tryd.results30, go_sem, q2_0, q2_1, q2_l]) rfl ?_
        exact ⟨⟨false, 17, -2, rfl, EqualIs.noneB HZ.out HZB.out HLN.out HLB2.out⟩, below2 HBX.out.drew (by omega)⟩
    · have HLB2 := Lib.hid hlB
      obtain ⟨s4, A4, n4, c4, B4, m4, d4, rfl, _, _⟩ := Tm.shape hub
      have hal := fun (o p : Obj) => Lib.hid (alike_any _ ua.tm ub.tm [.int .i64 ua.tm.lab.kind, .string ua.tm.lab.nm, .int .i64 ua.tm.lab.ix, .string s3, .slice A3 n3 c3, .slice B3 m3 d3] [.int .i64 ub.tm.lab.kind, .string ub.tm.lab.nm, .int .i64 ub.tm.lab.ix, .string s4, .slice A4 n4 c4, .slice B4 m4 d4] ((w3.alloc o).alloc p) (Lo w3) (Nat.le_refl _) (tmRep.keep HUA.out (fun k hk => by have h' : k < w1.heap.size := hk; exact heap_old (by simp; omega) (heap_old (by omega) ((hk3 k (by omega)).trans (HK2.out k h')))) (fun k hk => by have h' : k < w1.heap.size := hk; exact (show k < w3.heap.size by omega))) (tmRep.keep hub (fun k hk => heap_old (by have := hk.2; simp; omega) (heap_old hk.2 rfl)) (fun k hk => hk.2)) (fun k hk => by have h' : k < w3.heap.size := hk; simp; omega))
      have HQ2 := Lib.hid q2
      clear q2 hr hlB hub
      have HB3 := Lib.hid hB3
      have HK3 := Lib.hid hk3
      have HAL := Lib.hid hal
      clear hB3 hk3 hal
      have qx_0 := cv0 qx
      have qx_1 := cv1 qx
      have qx_2 := cv2 qx
      have qx_3 := cv3 qx
      have qx_4 := cv4 qx
      have qx_5 := cv5 qx
      have qx_l := lt_heap qx
      have QX := Lib.hid qx
      clear qx
      have qx_m : w1.heap.size < w3.heap.size + 1 := by omega
      go_wp2_with fail
      (with_reducible refine (HAL.out _ _).out.mono ?_)
      rintro e w4 ⟨rfl, hw4⟩
      have z4 : w3.heap.size + 2 ≤ w4.heap.size := by have := hw4.size; simpa using this
      have q2 := (hw4.block (w.heap.size + 1 + 1) (by simp; omega)).trans (heap_old (by simp; omega) (heap_old (by omega) HQ2.out))
      have hB4 : Below w.heap.size w w4 := ((HB3.out.alloc (by omega) (.cells #[.int .i64 ub.tm.lab.kind, .string ub.tm.lab.nm, .int .i64 ub.tm.lab.ix, .string s4, .slice A4 n4 c4, .slice B4 m4 d4] 27)).alloc (by simp; omega) (.cells #[.int .i64 0, .int .i64 0] 29)).trans (hw4.mono (by simp; omega))
      clear hw4 qx_0 qx_1 qx_2 qx_3 qx_4 qx_5 qx_l
      have HB4 := Lib.hid hB4
      clear hB4
      have q2_0 := cv0 q2
      have q2_1 := cv1 q2
      have q2_f0 := free_heap q2 0
      have q2_f1 := free_heap q2 1
      have q2_l := lt_heap q2
      have Q2 := Lib.hid q2
      clear q2
      go_wp2_with fail
      refine bodyPost_ret (v := .tuple #[.bool (tmBeq ua.tm ub.tm), .agg #[.int .i64 0, .int .i64 0]]) (by simp [results, Tryd.results30, go_sem, q2_0, q2_1, q2_l]) rfl ?_
      exact ⟨⟨_, 0, 0, rfl, EqualIs.both HZ.out HZB.out HLN.out HLB2.out⟩, below2 HB4.out (by omega)⟩
end

section
open Go Go.RowKit Go.ChangeShapes Go.WideShapes Go.Deep

theorem cells2 : Tryd.prog.cellsOf 24 = 2 := by kernel_rfl
theorem cells9 : Tryd.prog.cellsOf 9 = 1 := by kernel_rfl
theorem cells22 : Tryd.prog.cellsOf 22 = 1 := by kernel_rfl

instance : Inhabited Ty := ⟨.mk ⟨#[]⟩ []⟩
theorem spot_none {w : World} {a : Addr} {v : Value} (h : w.cell? a = some v) : a = ⟨a.block, a.off, none⟩ := by
  cases a with
  | mk b o s =>
    cases s with
    | none => rfl
    | some k => unfold World.cell? at h; simp at h; split at h <;> simp at h
theorem add_none (b o n : Nat) : Addr.add ⟨b, o, none⟩ n = ⟨b, o + n, none⟩ := by
  unfold Addr.add; split <;> simp [*]

section
variable {H : Type} {enc : TypeId × Value → H} {w : World} {spare : Nat → Bool} {held : Bool}
set_option maxRecDepth 100000 in
theorem ty_of_trod : ∀ (fuel : Nat) (cs : List Value) (x : DataW H × List MemPlace), DataW.trod enc Tryd.prog w 0 spare held fuel 24 cs = some x →
    ∃ t v0 v1, cs = [v0, v1] ∧ Ty.In w (Lo w) t v0 v1 := by
  intro fuel
  induction fuel using Nat.strongRecOn with
  | _ fuel ih =>
  intro cs x h
  obtain ⟨xs, n, hn, hx, hlen, hxl, hf⟩ := DataW.trod_struct Tryd.underlying24 h
  rw [cells2] at hlen
  match cs, hlen with
  | [v0, v1], _ =>
  match xs, hxl with
  | [y0, y1], _ =>
  have h0 : DataW.trod enc Tryd.prog w 0 spare held n 9 [v0] = some y0 := by simpa [cells9] using hf 0 _ rfl
  have h1 : DataW.trod enc Tryd.prog w 0 spare held n 22 [v1] = some y1 := by simpa [cells22] using hf 1 _ rfl
  obtain ⟨s, e0, _, hs⟩ := DataW.trod_string Tryd.underlying9 h0
  simp only [List.cons.injEq, and_true] at e0
  subst e0
  rcases DataW.trod_slice Tryd.underlying22 h1 with ⟨e1, _⟩ | ⟨a, len, cap, elems, rest, n', hn', e1, _, _, hlc, hcm, _, hel, _, _⟩
  · simp only [List.cons.injEq, and_true] at e1
    subst e1
    exact ⟨.mk s [], _, _, rfl, Ty.In.mk_ hs rfl (by omega) (by omega)⟩
  simp only [List.cons.injEq, and_true] at e1
  subst e1
  rw [cells2] at hel
  have hall : ∀ i, i < len → ∃ t v0 v1, w.cell? (a.add (i * 2)) = some v0 ∧ w.cell? (a.add (i * 2 + 1)) = some v1 ∧ Ty.In w (Lo w) t v0 v1 := by
    intro i hi
    have hb := hel i hi
    have hlt : i < elems.length := by omega
    rw [List.getElem?_eq_getElem hlt] at hb
    cases hc : w.cells? 0 (a.add (i * 2)) 2 with
    | none => rw [hc] at hb; simp at hb
    | some cs' =>
      rw [hc] at hb
      simp only [Option.bind_some] at hb
      obtain ⟨t, u0, u1, e, ht⟩ := ih n' (by omega) cs' _ hb
      subst e
      obtain ⟨_, _, hat⟩ := World.cells?_some hc
      have p0 := hat 0 (by omega)
      have p1 := hat 1 (by omega)
      rw [add_add] at p0 p1
      exact ⟨t, u0, u1, by simpa using p0, by simpa using p1, ht⟩
  obtain ⟨l, hl, hl2⟩ : ∃ l : List Ty, l.length = len ∧ ∀ i t, l[i]? = some t → ∃ v0 v1, w.cell? (a.add (i * 2)) = some v0 ∧ w.cell? (a.add (i * 2 + 1)) = some v1 ∧ Ty.In w (Lo w) t v0 v1 := by
    obtain ⟨f, hf⟩ := choose_lt hall
    refine ⟨(List.range len).map f, by simp, fun i t ht => ?_⟩
    obtain ⟨hi, rfl⟩ : i < len ∧ f i = t := by
      rw [List.getElem?_map] at ht
      rcases Nat.lt_or_ge i len with h | h
      · rw [List.getElem?_range h] at ht
        exact ⟨h, by simpa using ht⟩
      · rw [List.getElem?_eq_none (by simpa using h)] at ht
        simp at ht
    exact hf i hi
  refine ⟨.mk s l, _, _, rfl, Ty.In.mk_ hs hl (by omega) fun hpos => ?_⟩
  obtain ⟨t, u0, u1, p0, p1, _⟩ := hall 0 hpos
  have hp : w.cell? a = some u0 := by simpa [Addr.add] using p0
  have ha := spot_none hp
  refine ⟨a.block, a.off, by rw [← ha], World.block_lt_of_cell? w _ hp, Ty.Ins_of fun k t hk => ?_⟩
  obtain ⟨u0, u1, q0, q1, q2⟩ := hl2 k t hk
  rw [ha, add_none] at q0 q1
  exact ⟨u0, u1, q0, by rw [← q1, Nat.add_assoc], q2⟩
end

open Go Go.RowKit Go.ChangeShapes Go.WideShapes Go.Deep

section
variable {H : Type} {enc : TypeId × Value → H} {w : World} {spare : Nat → Bool} {held : Bool}

theorem sl_of_trod {α : Type} {ρ : Rep α} {E T : TypeId} (hc : Tryd.prog.cellsOf E = ρ.size) (ht : Tryd.prog.underlying T = some (.slice E)) {fuel : Nat} {v : Value} {x : DataW H × List MemPlace}
    (hE : ∀ n, n < fuel → ∀ (cs : List Value) (y : DataW H × List MemPlace), DataW.trod enc Tryd.prog w 0 spare held n E cs = some y → ∃ a, ρ.R w (Lo w) a cs)
    (h : DataW.trod enc Tryd.prog w 0 spare held fuel T [v] = some x) : ∃ l, ρ.Sl w (Lo w) v l := by
  rcases DataW.trod_slice ht h with ⟨e1, _⟩ | ⟨a, len, cap, elems, rest, n', hn', e1, _, _, hlc, hcm, _, hel, _, _⟩
  · simp only [List.cons.injEq, and_true] at e1
    subst e1
    exact ⟨[], Rep.Sl.nil⟩
  simp only [List.cons.injEq, and_true] at e1
  subst e1
  rw [hc] at hel
  have hall : ∀ i, i < len → ∃ (t : α) (cs : List Value), ρ.R w (Lo w) t cs ∧ ∀ j u, cs[j]? = some u → w.cell? (a.add (i * ρ.size + j)) = some u := by
    intro i hi
    have hb := hel i hi
    have hlt : i < elems.length := by omega
    rw [List.getElem?_eq_getElem hlt] at hb
    cases hcs : w.cells? 0 (a.add (i * ρ.size)) ρ.size with
    | none => rw [hcs] at hb; simp at hb
    | some cs' =>
      rw [hcs] at hb
      simp only [Option.bind_some] at hb
      obtain ⟨t, ht⟩ := hE n' (by omega) cs' _ hb
      obtain ⟨_, _, hat⟩ := World.cells?_some hcs
      refine ⟨t, cs', ht, fun j u hj => ?_⟩
      have hjl : j < cs'.length := (List.getElem?_eq_some_iff.1 hj).1
      have p := hat j (by rw [ρ.len ht] at hjl; exact hjl)
      rw [add_add] at p
      rw [p]; exact hj
  have key : ∀ m, m ≤ len → ∃ (l : List α) (xs : List Value), l.length = m ∧ ρ.All w (Lo w) l xs ∧ ∀ j u, xs[j]? = some u → w.cell? (a.add j) = some u := by
    intro m
    induction m with
    | zero => intro _; exact ⟨[], [], rfl, rfl, by simp⟩
    | succ m ih =>
      intro hm
      obtain ⟨l, xs, h1, h2, h3⟩ := ih (by omega)
      obtain ⟨t, cs, h4, h5⟩ := hall m (by omega)
      refine ⟨l ++ [t], xs ++ cs, by simp [h1], h2.append (Rep.All.single h4), fun j u hj => ?_⟩
      have hx : xs.length = m * ρ.size := by rw [h2.len, h1]
      by_cases hlt : j < xs.length
      · rw [List.getElem?_append_left hlt] at hj; exact h3 j u hj
      · rw [List.getElem?_append_right (by omega)] at hj
        have := h5 _ u hj
        rw [show m * ρ.size + (j - xs.length) = j by omega] at this
        exact this
  obtain ⟨l, xs, h1, h2, h3⟩ := key len (Nat.le_refl _)
  refine ⟨l, _, len, cap, rfl, h1, by omega, fun hp => ?_⟩
  have hxl : 0 < xs.length := by rw [h2.len, h1]; exact Nat.mul_pos hp ρ.pos
  have hp0 : w.cell? a = some xs[0] := by have := h3 0 _ (List.getElem?_eq_getElem hxl); simpa [Addr.add] using this
  have ha := spot_none hp0
  refine ⟨a.block, a.off, xs, by rw [← ha], World.block_lt_of_cell? w _ hp0, h2, fun j u hj => ?_⟩
  have := h3 j u hj
  rw [ha, add_none] at this
  exact this

theorem cells49 : Tryd.prog.cellsOf 27 = 6 := by kernel_rfl
theorem cellsI : Tryd.prog.cellsOf 3 = 1 := by kernel_rfl
theorem cells47 : Tryd.prog.cellsOf 25 = 1 := by kernel_rfl

set_option maxRecDepth 100000 in
theorem tm_of_trod : ∀ (fuel : Nat) (cs : List Value) (x : DataW H × List MemPlace), DataW.trod enc Tryd.prog w 0 spare held fuel 27 cs = some x → ∃ t, tmRep.R w (Lo w) t cs := by
  intro fuel
  induction fuel using Nat.strongRecOn with
  | _ fuel ih =>
  intro cs x h
  obtain ⟨xs, n, hn, hx, hlen, hxl, hf⟩ := DataW.trod_struct Tryd.underlying27 h
  rw [cells49] at hlen
  match cs, hlen with
  | [v0, v1, v2, v3, v4, v5], _ =>
  match xs, hxl with
  | [y0, y1, y2, y3, y4], _ =>
  have h0 : DataW.trod enc Tryd.prog w 0 spare held n 3 [v0] = some y0 := by simpa [cellsI] using hf 0 _ rfl
  have h1 : DataW.trod enc Tryd.prog w 0 spare held n 9 [v1] = some y1 := by simpa [cells9] using hf 1 _ rfl
  have h2 : DataW.trod enc Tryd.prog w 0 spare held n 3 [v2] = some y2 := by simpa [cellsI] using hf 2 _ rfl
  have h3 : DataW.trod enc Tryd.prog w 0 spare held n 24 [v3, v4] = some y3 := by simpa [cells2] using hf 3 _ rfl
  have h4 : DataW.trod enc Tryd.prog w 0 spare held n 25 [v5] = some y4 := by simpa [cells47] using hf 4 _ rfl
  obtain ⟨k, e0, _, _⟩ := DataW.trod_int Tryd.underlying3 h0
  obtain ⟨s, e1, _, hs⟩ := DataW.trod_string Tryd.underlying9 h1
  obtain ⟨i, e2, _, _⟩ := DataW.trod_int Tryd.underlying3 h2
  obtain ⟨ty, u0, u1, e3, hty⟩ := ty_of_trod n _ _ h3
  simp only [List.cons.injEq, and_true] at e0 e1 e2 e3
  obtain ⟨rfl, rfl⟩ := e3
  subst e0 e1 e2
  obtain ⟨l, hl⟩ := sl_of_trod (ρ := tmRep) cells49 Tryd.underlying25 (fun m hm cs y hy => ih m (by omega) cs y hy) h4
  exact ⟨.mk ⟨k, s, i, ty⟩ l, Tm.shut (a := ⟨k, s, i, ty⟩) hs hty hl⟩
end

open Go.ChangeShapes Go.WideShapes Go.ChangeAt Go.WideMaps Go.WideElems Go.RowKit

theorem ownKnobNone : ownKnob Tryd.prog.godebug = none := by kernel_rfl
theorem laidOutAll : laidOutB Tryd.prog = true := by kernel_rfl
theorem gNone : Tryd.prog.globalNamed "glosswright/glosswrightlaw1.none" = some 0 := by kernel_rfl
theorem tNone : (Tryd.prog.globals[0]?).map (·.type) = some 29 := by kernel_rfl
theorem cellsFault : Tryd.prog.cellsOf 29 = 2 := by kernel_rfl
theorem cellsInt : Tryd.prog.cellsOf 3 = 1 := by kernel_rfl

def laidNone {H : Type} : List (String × DataW H) := [("glosswright/glosswrightlaw1.none", Rows.laid_glosswright_glosswrightlaw1_none)]

theorem door_met (os : Os) (args : Array Value) : laidMetH Tryd.prog laidNone ((World.doorLaid Tryd.prog 400 os).forCall (fun _ _ => 0) ⟨#[], args, []⟩).memory :=
  laidMetH_of_parts3 (fuel := 8) (laidMet_of_run' 8 (by kernel_rfl) (by kernel_rfl)) (by kernel_rfl) (by kernel_rfl)

set_option maxRecDepth 100000 in
theorem of_laid {W : World} (h : laidMetH Tryd.prog laidNone W) : W.cell? ⟨0, 0, none⟩ = some (.int .i64 0) ∧ W.cell? ⟨0, 1, none⟩ = some (.int .i64 0) := by
  rw [MakeChecks.laidMetH_plain _ _ _ (by kernel_rfl)] at h
  obtain ⟨ps, ⟨g0, t0, cs0, f0, p0, q0, hg0, ht0, hv0, hd0, _, _⟩, _, _⟩ := h
  obtain rfl := Option.some.inj (gNone.symm.trans hg0)
  obtain rfl := Option.some.inj (tNone.symm.trans ht0)
  obtain ⟨xs, n, hn, hx, hlen, hxl, hf⟩ := DataW.trod_struct Tryd.underlying29 hd0
  rw [cellsFault] at hlen
  obtain ⟨l⟩ := cs0
  match l, hlen with
  | [c0, c1], _ =>
  match xs, hxl with
  | [y0, y1], _ =>
  have h0 : DataW.trod (fun _ => ()) Tryd.prog W 0 (fun _ => true) false n 3 [c0] = some y0 := by simpa [cellsInt] using hf 0 _ rfl
  have h1 : DataW.trod (fun _ => ()) Tryd.prog W 0 (fun _ => true) false n 3 [c1] = some y1 := by simpa [cellsInt] using hf 1 _ rfl
  obtain ⟨k0, e0, e0', _⟩ := DataW.trod_int Tryd.underlying3 h0
  obtain ⟨k1, e1, e1', _⟩ := DataW.trod_int Tryd.underlying3 h1
  simp only [List.cons.injEq, and_true] at e0 e1
  subst e0 e1
  simp only [Prod.mk.injEq] at hx
  have hx1 := hx.1
  rw [e0', e1'] at hx1
  simp [laidNone, Rows.laid_glosswright_glosswrightlaw1_none] at hx1
  obtain ⟨rfl, rfl⟩ := hx1
  exact ⟨by simpa using World.var?_cell hg0 hv0 0, by simpa using World.var?_cell hg0 hv0 1⟩
end

section
open Go Go.RowKit

theorem tvKim_fault : tmFault tvKim.tm = (0, 0) := tmFault_ok (s := .e) tvKim_ok (by decide) (by decide) rfl
theorem kim_long : Tv.long tvKim = some tvKim := by
  have h1 : Tv.steps 2001 tvKim = some tvKim := Tv.steps_normal 2000 rfl (by decide)
  unfold Tv.long
  rw [show tvKim.typ [] = some .e from rfl, h1]
  simp only
  rw [Tv.expand_base 2000 _ _ _ _ (by omega) rfl]
  rfl
theorem redex_long : Tv.long tvRedex = some tvKim := by
  have h1 : Tv.steps 2001 tvRedex = some tvKim := by
    show Tv.steps (1999 + 1 + 1) tvRedex = some tvKim
    rw [Tv.steps, if_neg (by decide), tvRedex_step]
    exact Tv.steps_normal 1999 rfl (by decide)
  unfold Tv.long
  rw [tvRedex_typ, h1]
  simp only
  rw [Tv.expand_base 2000 _ _ _ _ (by omega) rfl]
  rfl
theorem EqualAt.kim {e : Ending} (h : EqualAt tvRedex.tm tvKim.tm e) : e = .returned (.tuple #[.bool true, .agg #[.int .i64 0, .int .i64 0]]) := by
  obtain ⟨ok, c, i, rfl, h1⟩ := h
  obtain ⟨rfl, rfl, rfl⟩ := ((h1.2.2 tvRedex tvKim rfl rfl (by rw [tvRedex_fault]) (by rw [tvKim_fault])).2 _ redex_long).2 _ kim_long
  rw [tmBeq_self]

set_option maxRecDepth 100000 in
set_option maxHeartbeats 4000000 in
theorem equalLaw_any (a : Tm) (cs : List Value) (b : Tm) (ds : List Value) (w : World) (S : Nat → Prop) (ha : tmRep.R w S a cs) (hb : tmRep.R w S b ds) (hS : ∀ b, S b → b < w.heap.size)
    (g0 : w.cell? ⟨0, 0, none⟩ = some (.int .i64 0)) (g1 : w.cell? ⟨0, 1, none⟩ = some (.int .i64 0)) :
    Calls Tryd.prog 11 #[.agg cs.toArray, .agg ds.toArray] w fun e w' => e = .returned (.bool true) ∧ Below w.heap.size w w' := by
  obtain ⟨s1, A1, n1, c1, B1, m1, d1, rfl, _, _⟩ := Tm.shape ha
  obtain ⟨s2, A2, n2, c2, B2, m2, d2, rfl, _, _⟩ := Tm.shape hb
  have hg := World.block_lt_of_cell? w _ g0
  have HA := Lib.hid ha
  have HB := Lib.hid hb
  have HS := Lib.hid hS
  have G0 := Lib.hid g0
  have G1 := Lib.hid g1
  clear ha hb hS g0 g1
  go_enter Tryd.func11, Tryd.ntmps11
  go_wp2_with fail
  (with_reducible refine (redex_any _).mono ?_)
  rintro e w1 ⟨es, rfl, h1, hw⟩
  obtain ⟨s3, A3, n3, c3, B3, m3, d3, rfl, _, _⟩ := Tm.shape h1
  have HB0 : Hid (Below w.heap.size w w) := Lib.hid (Below.refl _ w)
  have zw1 : w.heap.size + 2 ≤ w1.heap.size := by have := hw.size; simpa using this
  have hkw1 : ∀ k, k < w.heap.size → w1.heap[k]? = w.heap[k]? := fun k hk => (hw.block k (by simp; omega)).trans (heap_old (by simp; omega) (heap_old hk rfl))
  have pa := (hw.block (w.heap.size) (by simp <;> omega)).trans (heap_old (by simp) (heap_at rfl))
  have pb := (hw.block (w.heap.size + 1) (by simp)).trans (heap_at (by simp))
  have hB1 : Below w.heap.size w w1 := ((HB0.out.alloc (by omega) (.cells #[.int .i64 a.lab.kind, .string a.lab.nm, .int .i64 a.lab.ix, .string s1, .slice A1 n1 c1, .slice B1 m1 d1] 27)).alloc (by first | (simp; done) | (simp; omega)) (.cells #[.int .i64 b.lab.kind, .string b.lab.nm, .int .i64 b.lab.ix, .string s2, .slice A2 n2 c2, .slice B2 m2 d2] 27)).trans (hw.mono (by first | (simp; done) | (simp; omega)))
  have H1 := Lib.hid h1
  clear h1
  clear hw
  have HB1 := Lib.hid hB1
  have HKW1 := Lib.hid hkw1
  clear hB1 hkw1
  have PA := Lib.hid pa
  have PB := Lib.hid pb
  clear pa pb
  go_wp2_with fail
  (with_reducible refine (base_e _).mono ?_)
  rintro e w2 ⟨rfl, hw⟩
  have zw2 : w1.heap.size ≤ w2.heap.size := hw.size
  have hkw2 : ∀ k, k < w1.heap.size → w2.heap[k]? = w1.heap[k]? := fun k hk => hw.block k hk
  have pa := (hkw2 _ (by omega)).trans PA.out
  have pb := (hkw2 _ (by omega)).trans PB.out
  have hB2 : Below w.heap.size w w2 := HB1.out.trans (hw.mono (by omega))
  clear hw
  have HB2 := Lib.hid hB2
  have HKW2 := Lib.hid hkw2
  clear hB2 hkw2
  have PA := Lib.hid pa
  have PB := Lib.hid pb
  clear pa pb
  go_wp2_with fail
  (with_reducible refine (kim_any _).mono ?_)
  rintro e w3 ⟨rfl, hw⟩
  have zw3 : w2.heap.size ≤ w3.heap.size := hw.size
  have hkw3 : ∀ k, k < w2.heap.size → w3.heap[k]? = w2.heap[k]? := fun k hk => hw.block k hk
  have pa := (hkw3 _ (by omega)).trans PA.out
  have pb := (hkw3 _ (by omega)).trans PB.out
  have hB3 : Below w.heap.size w w3 := HB2.out.trans (hw.mono (by omega))
  clear hw
  have HB3 := Lib.hid hB3
  have HKW3 := Lib.hid hkw3
  clear hB3 hkw3
  have PA := Lib.hid pa
  have PB := Lib.hid pb
  clear pa pb
  have heq := Lib.hid (equal_any tvRedex.tm tvKim.tm [.int .i64 tvRedex.tm.lab.kind, .string tvRedex.tm.lab.nm, .int .i64 tvRedex.tm.lab.ix, .string s3, .slice A3 n3 c3, .slice B3 m3 d3] [.int .i64 1, .string ⟨#[107, 105, 109]⟩, .int .i64 0, .string ⟨#[101]⟩, .slice none 0 0, .slice none 0 0] w3 (Lo w3) (tmRep.keep H1.out (fun k hk => (HKW3.out k (by have := hk.2; omega)).trans (HKW2.out k hk.2)) (fun k hk => by have := hk.2; exact (show k < w3.heap.size by omega))) kim_in (fun k hk => hk))
  have HEQ := Lib.hid heq
  clear heq
  go_wp2_with fail
  (with_reducible refine HEQ.out.out.mono ?_)
  rintro e w4 ⟨hr, hw⟩
  obtain rfl := hr.kim
  have zw4 : w3.heap.size ≤ w4.heap.size := hw.size
  have hkw4 : ∀ k, k < w3.heap.size → w4.heap[k]? = w3.heap[k]? := fun k hk => hw.block k hk
  have pa := (hkw4 _ (by omega)).trans PA.out
  have pb := (hkw4 _ (by omega)).trans PB.out
  have hB4 : Below w.heap.size w w4 := HB3.out.trans (hw.mono (by omega))
  have c0' := (hB4.cell (p := ⟨0, 0, none⟩) hg).trans G0.out
  have c1' := (hB4.cell (p := ⟨0, 1, none⟩) hg).trans G1.out
  have lw4 : 0 < w4.heap.size := by omega
  have lw4b : 0 < w4.heap.size + 1 := by omega
  clear hr
  clear hw
  have HB4 := Lib.hid hB4
  have HKW4 := Lib.hid hkw4
  clear hB4 hkw4
  have pa_0 := cv0 pa
  have pa_1 := cv1 pa
  have pa_2 := cv2 pa
  have pa_3 := cv3 pa
  have pa_4 := cv4 pa
  have pa_5 := cv5 pa
  have pa_l := lt_heap pa
  have PA := Lib.hid pa
  clear pa
  have pb_0 := cv0 pb
  have pb_1 := cv1 pb
  have pb_2 := cv2 pb
  have pb_3 := cv3 pb
  have pb_4 := cv4 pb
  have pb_5 := cv5 pb
  have pb_l := lt_heap pb
  have PB := Lib.hid pb
  clear pb
  have heq2 := fun (o : Obj) => Lib.hid (equal_any a b [.int .i64 a.lab.kind, .string a.lab.nm, .int .i64 a.lab.ix, .string s1, .slice A1 n1 c1, .slice B1 m1 d1] [.int .i64 b.lab.kind, .string b.lab.nm, .int .i64 b.lab.ix, .string s2, .slice A2 n2 c2, .slice B2 m2 d2] (w4.alloc o) S (tmRep.keep HA.out (fun k hk => (heap_old (by have := HS.out k hk; omega) rfl).trans (HB4.out.block k (HS.out k hk))) (fun _ h => h)) (tmRep.keep HB.out (fun k hk => (heap_old (by have := HS.out k hk; omega) rfl).trans (HB4.out.block k (HS.out k hk))) (fun _ h => h)) (fun k hk => by have := HS.out k hk; simp; omega))
  have HEQ2 := Lib.hid heq2
  clear heq2
  go_wp2_with fail
  (with_reducible refine (HEQ2.out _).out.mono ?_)
  rintro e w5 ⟨⟨ok, c, i, rfl, hr⟩, hw⟩
  have zw5 : w4.heap.size + 1 ≤ w5.heap.size := by have := hw.size; simpa using this
  have hkw5 : ∀ k, k < w4.heap.size → w5.heap[k]? = w4.heap[k]? := fun k hk => (hw.block k (by simp; omega)).trans (heap_old hk rfl)
  have pa := (hkw5 _ pa_l).trans PA.out
  have pb := (hkw5 _ pb_l).trans PB.out
  have q0 := (hw.block w4.heap.size (by simp)).trans (heap_at rfl)
  have hB5 : Below w.heap.size w w5 := (HB4.out.alloc (by omega) (.cells #[.int .i64 0, .int .i64 0] 29)).trans (hw.mono (by first | (simp; done) | (simp; omega)))
  clear pa_0 pa_1 pa_2 pa_3 pa_4 pa_5 pa_l pb_0 pb_1 pb_2 pb_3 pb_4 pb_5 pb_l
  have HR := Lib.hid hr
  clear hr
  clear hw
  have HB5 := Lib.hid hB5
  have HKW5 := Lib.hid hkw5
  clear hB5 hkw5
  have pa_0 := cv0 pa
  have pa_1 := cv1 pa
  have pa_2 := cv2 pa
  have pa_3 := cv3 pa
  have pa_4 := cv4 pa
  have pa_5 := cv5 pa
  have pa_l := lt_heap pa
  have PA := Lib.hid pa
  clear pa
  have pb_0 := cv0 pb
  have pb_1 := cv1 pb
  have pb_2 := cv2 pb
  have pb_3 := cv3 pb
  have pb_4 := cv4 pb
  have pb_5 := cv5 pb
  have pb_l := lt_heap pb
  have PB := Lib.hid pb
  clear pb
  have q0_0 := cv0 q0
  have q0_1 := cv1 q0
  have q0_l := lt_heap q0
  have Q0 := Lib.hid q0
  clear q0
  clear q0_0 q0_1 q0_l
  have hff1 := fun (o : Obj) => Lib.hid (refTmFault_any a [.int .i64 a.lab.kind, .string a.lab.nm, .int .i64 a.lab.ix, .string s1, .slice A1 n1 c1, .slice B1 m1 d1] (w5.alloc o) S (tmRep.keep HA.out (fun k hk => (heap_old (by have := HS.out k hk; omega) rfl).trans (HB5.out.block k (HS.out k hk))) (fun _ h => h)) (fun k hk => by have := HS.out k hk; simp; omega))
  have HFF1 := Lib.hid hff1
  clear hff1
  go_wp2_with fail
  (with_reducible refine (HFF1.out _).out.mono ?_)
  rintro e w6 ⟨rfl, hw⟩
  have zw6 : w5.heap.size + 1 ≤ w6.heap.size := by have := hw.size; simpa using this
  have hkw6 : ∀ k, k < w5.heap.size → w6.heap[k]? = w5.heap[k]? := fun k hk => (hw.block k (by simp; omega)).trans (heap_old hk rfl)
  have pa := (hkw6 _ pa_l).trans PA.out
  have pb := (hkw6 _ pb_l).trans PB.out
  have qf := (hw.block w5.heap.size (by simp)).trans (heap_at rfl)
  have hB6 : Below w.heap.size w w6 := (HB5.out.alloc (by omega) (.cells #[.int .i64 c, .int .i64 i] 29)).trans (hw.mono (by first | (simp; done) | (simp; omega)))
  have c0' := (hB6.cell (p := ⟨0, 0, none⟩) hg).trans G0.out
  have c1' := (hB6.cell (p := ⟨0, 1, none⟩) hg).trans G1.out
  have lw6 : 0 < w6.heap.size := by omega
  have lw6b : 0 < w6.heap.size + 1 := by omega
  clear pa_0 pa_1 pa_2 pa_3 pa_4 pa_5 pa_l pb_0 pb_1 pb_2 pb_3 pb_4 pb_5 pb_l
  clear hw
  have HB6 := Lib.hid hB6
  have HKW6 := Lib.hid hkw6
  clear hB6 hkw6
  have pa_0 := cv0 pa
  have pa_1 := cv1 pa
  have pa_2 := cv2 pa
  have pa_3 := cv3 pa
  have pa_4 := cv4 pa
  have pa_5 := cv5 pa
  have pa_l := lt_heap pa
  have PA := Lib.hid pa
  clear pa
  have pb_0 := cv0 pb
  have pb_1 := cv1 pb
  have pb_2 := cv2 pb
  have pb_3 := cv3 pb
  have pb_4 := cv4 pb
  have pb_5 := cv5 pb
  have pb_l := lt_heap pb
  have PB := Lib.hid pb
  clear pb
  have qf_0 := cv0 qf
  have qf_1 := cv1 qf
  have qf_l := lt_heap qf
  have QF := Lib.hid qf
  clear qf
  by_cases hz : (tmFault a).1 = 0
  case neg =>
    have hc1 : (((tmFault a).1 : Int) == 0) = false := beq_eq_false_iff_ne.2 (by omega)
    obtain ⟨rfl, rfl, rfl⟩ := HR.out.1 hz
    go_wp2_with fail
    go_returns
    exact ⟨rfl, HB6.out.alloc (by omega) _⟩
  obtain ⟨va, sva, rfl, ova, nva, dva, tva, eva⟩ := tmFault_zero hz
  rw [eva]
  have HZ := Lib.hid hz
  have HOA := Lib.hid ova
  have HTA := Lib.hid tva
  clear hz ova dva tva eva
  have hff2 := fun (o : Obj) => Lib.hid (refTmFault_any b [.int .i64 b.lab.kind, .string b.lab.nm, .int .i64 b.lab.ix, .string s2, .slice A2 n2 c2, .slice B2 m2 d2] (w6.alloc o) S (tmRep.keep HB.out (fun k hk => (heap_old (by have := HS.out k hk; omega) rfl).trans (HB6.out.block k (HS.out k hk))) (fun _ h => h)) (fun k hk => by have := HS.out k hk; simp; omega))
  have HFF2 := Lib.hid hff2
  clear hff2
  go_wp2_with fail
  (with_reducible refine (HFF2.out _).out.mono ?_)
  rintro e w7 ⟨rfl, hw⟩
  have zw7 : w6.heap.size + 1 ≤ w7.heap.size := by have := hw.size; simpa using this
  have hkw7 : ∀ k, k < w6.heap.size → w7.heap[k]? = w6.heap[k]? := fun k hk => (hw.block k (by simp; omega)).trans (heap_old hk rfl)
  have pa := (hkw7 _ pa_l).trans PA.out
  have pb := (hkw7 _ pb_l).trans PB.out
  have qf := (hkw7 _ qf_l).trans QF.out
  have qg := (hw.block w6.heap.size (by simp)).trans (heap_at rfl)
  have hB7 : Below w.heap.size w w7 := (HB6.out.alloc (by omega) (.cells #[.int .i64 0, .int .i64 0] 29)).trans (hw.mono (by first | (simp; done) | (simp; omega)))
  have c0' := (hB7.cell (p := ⟨0, 0, none⟩) hg).trans G0.out
  have c1' := (hB7.cell (p := ⟨0, 1, none⟩) hg).trans G1.out
  have lw7 : 0 < w7.heap.size := by omega
  have lw7b : 0 < w7.heap.size + 1 := by omega
  clear pa_0 pa_1 pa_2 pa_3 pa_4 pa_5 pa_l pb_0 pb_1 pb_2 pb_3 pb_4 pb_5 pb_l qf_0 qf_1 qf_l
  clear hw
  have HB7 := Lib.hid hB7
  have HKW7 := Lib.hid hkw7
  clear hB7 hkw7
  have pa_0 := cv0 pa
  have pa_1 := cv1 pa
  have pa_2 := cv2 pa
  have pa_3 := cv3 pa
  have pa_4 := cv4 pa
  have pa_5 := cv5 pa
  have pa_l := lt_heap pa
  have PA := Lib.hid pa
  clear pa
  have pb_0 := cv0 pb
  have pb_1 := cv1 pb
  have pb_2 := cv2 pb
  have pb_3 := cv3 pb
  have pb_4 := cv4 pb
  have pb_5 := cv5 pb
  have pb_l := lt_heap pb
  have PB := Lib.hid pb
  clear pb
  have qf_0 := cv0 qf
  have qf_1 := cv1 qf
  have qf_l := lt_heap qf
  have QF := Lib.hid qf
  clear qf
  have qg_0 := cv0 qg
  have qg_1 := cv1 qg
  have qg_l := lt_heap qg
  have QG := Lib.hid qg
  clear qg
  clear qg_0 qg_1 qg_l
  by_cases hzb : (tmFault b).1 = 0
  case neg =>
    have hc1 : (((tmFault b).1 : Int) == 0) = false := beq_eq_false_iff_ne.2 (by omega)
    obtain ⟨rfl, rfl, rfl⟩ := HR.out.2.1 HZ.out hzb
    go_wp2_with fail
    go_returns
    exact ⟨rfl, HB7.out.alloc (by omega) _⟩
  obtain ⟨vb, svb, rfl, ovb, nvb, dvb, tvb, evb⟩ := tmFault_zero hzb
  rw [evb]
  have HZB := Lib.hid hzb
  have HOB := Lib.hid ovb
  have HTB := Lib.hid tvb
  have hrr := Lib.hid (HR.out.2.2 va vb rfl rfl HZ.out hzb)
  clear hzb ovb dvb tvb evb
  have HRR := Lib.hid hrr
  clear hrr
  have hlr1 := fun (o : Obj) => Lib.hid (refLong_any va HTA.out [.int .i64 va.tm.lab.kind, .string va.tm.lab.nm, .int .i64 va.tm.lab.ix, .string s1, .slice A1 n1 c1, .slice B1 m1 d1] (w7.alloc o) S HOA.out nva (tmRep.keep HA.out (fun k hk => (heap_old (by have := HS.out k hk; omega) rfl).trans (HB7.out.block k (HS.out k hk))) (fun _ h => h)) (fun k hk => by have := HS.out k hk; simp; omega))
  have HLR1 := Lib.hid hlr1
  clear hlr1
  go_wp2_with fail
  (with_reducible refine (HLR1.out _).out.mono ?_)
  unfold RefFormAt
  rintro e w8 ⟨U, us, rfl, hU, hUe, hw⟩
  obtain ⟨s5, A5, n5, c5, B5, m5, d5, rfl, _, _⟩ := Tm.shape hU
  have zw8 : w7.heap.size + 1 ≤ w8.heap.size := by have := hw.size; simpa using this
  have hkw8 : ∀ k, k < w7.heap.size → w8.heap[k]? = w7.heap[k]? := fun k hk => (hw.block k (by simp; omega)).trans (heap_old hk rfl)
  have pa := (hkw8 _ pa_l).trans PA.out
  have pb := (hkw8 _ pb_l).trans PB.out
  have qf := (hkw8 _ qf_l).trans QF.out
  have qh := (hw.block w7.heap.size (by simp)).trans (heap_at rfl)
  have hB8 : Below w.heap.size w w8 := (HB7.out.alloc (by omega) (.cells #[.int .i64 0, .int .i64 0] 29)).trans (hw.mono (by first | (simp; done) | (simp; omega)))
  clear pa_0 pa_1 pa_2 pa_3 pa_4 pa_5 pa_l pb_0 pb_1 pb_2 pb_3 pb_4 pb_5 pb_l qf_0 qf_1 qf_l
  have HU := Lib.hid hU
  clear hU
  clear hw
  have HB8 := Lib.hid hB8
  have HKW8 := Lib.hid hkw8
  clear hB8 hkw8
  have pa_0 := cv0 pa
  have pa_1 := cv1 pa
  have pa_2 := cv2 pa
  have pa_3 := cv3 pa
  have pa_4 := cv4 pa
  have pa_5 := cv5 pa
  have pa_l := lt_heap pa
  have PA := Lib.hid pa
  clear pa
  have pb_0 := cv0 pb
  have pb_1 := cv1 pb
  have pb_2 := cv2 pb
  have pb_3 := cv3 pb
  have pb_4 := cv4 pb
  have pb_5 := cv5 pb
  have pb_l := lt_heap pb
  have PB := Lib.hid pb
  clear pb
  have qf_0 := cv0 qf
  have qf_1 := cv1 qf
  have qf_l := lt_heap qf
  have QF := Lib.hid qf
  clear qf
  have qh_0 := cv0 qh
  have qh_1 := cv1 qh
  have qh_l := lt_heap qh
  have QH := Lib.hid qh
  clear qh
  clear qh_0 qh_1 qh_l
  cases hlA : Tv.long va with
  | none =>
    obtain ⟨rfl, rfl, rfl⟩ := HRR.out.out.1 hlA
    clear hUe
    simp only [Option.isSome_none]
    go_wp2_with fail
    go_returns
    exact ⟨rfl, HB8.out.alloc (by omega) _⟩
  | some ua =>
  obtain rfl : U = ua.tm := hUe ua hlA
  have HLA := Lib.hid hlA
  have hfa := Tv.long_fine HOA.out nva hlA
  clear hUe hlA
  have HFA := Lib.hid hfa
  clear hfa
  simp only [Option.isSome_some]
  have hlr2 := fun (o : Obj) => Lib.hid (refLong_any vb HTB.out [.int .i64 vb.tm.lab.kind, .string vb.tm.lab.nm, .int .i64 vb.tm.lab.ix, .string s2, .slice A2 n2 c2, .slice B2 m2 d2] (w8.alloc o) S HOB.out nvb (tmRep.keep HB.out (fun k hk => (heap_old (by have := HS.out k hk; omega) rfl).trans (HB8.out.block k (HS.out k hk))) (fun _ h => h)) (fun k hk => by have := HS.out k hk; simp; omega))
  have HLR2 := Lib.hid hlr2
  clear hlr2
  go_wp2_with fail
  (with_reducible refine (HLR2.out _).out.mono ?_)
  unfold RefFormAt
  rintro e w9 ⟨V, us, rfl, hV, hVe, hw⟩
  obtain ⟨s6, A6, n6, c6, B6, m6, d6, rfl, _, _⟩ := Tm.shape hV
  have zw9 : w8.heap.size + 1 ≤ w9.heap.size := by have := hw.size; simpa using this
  have hkw9 : ∀ k, k < w8.heap.size → w9.heap[k]? = w8.heap[k]? := fun k hk => (hw.block k (by simp; omega)).trans (heap_old hk rfl)
  have pa := (hkw9 _ pa_l).trans PA.out
  have pb := (hkw9 _ pb_l).trans PB.out
  have qf := (hkw9 _ qf_l).trans QF.out
  have qx := (hw.block w8.heap.size (by simp)).trans (heap_at rfl)
  have hB9 : Below w.heap.size w w9 := (HB8.out.alloc (by omega) (.cells #[.int .i64 ua.tm.lab.kind, .string ua.tm.lab.nm, .int .i64 ua.tm.lab.ix, .string s5, .slice A5 n5 c5, .slice B5 m5 d5] 27)).trans (hw.mono (by first | (simp; done) | (simp; omega)))
  have c0' := (hB9.cell (p := ⟨0, 0, none⟩) hg).trans G0.out
  have c1' := (hB9.cell (p := ⟨0, 1, none⟩) hg).trans G1.out
  have lw9 : 0 < w9.heap.size := by omega
  have lw9b : 0 < w9.heap.size + 1 := by omega
  clear pa_0 pa_1 pa_2 pa_3 pa_4 pa_5 pa_l pb_0 pb_1 pb_2 pb_3 pb_4 pb_5 pb_l qf_0 qf_1 qf_l
  have HV := Lib.hid hV
  clear hV
  clear hw
  have HB9 := Lib.hid hB9
  have HKW9 := Lib.hid hkw9
  clear hB9 hkw9
  have pa_0 := cv0 pa
  have pa_1 := cv1 pa
  have pa_2 := cv2 pa
  have pa_3 := cv3 pa
  have pa_4 := cv4 pa
  have pa_5 := cv5 pa
  have pa_l := lt_heap pa
  have PA := Lib.hid pa
  clear pa
  have pb_0 := cv0 pb
  have pb_1 := cv1 pb
  have pb_2 := cv2 pb
  have pb_3 := cv3 pb
  have pb_4 := cv4 pb
  have pb_5 := cv5 pb
  have pb_l := lt_heap pb
  have PB := Lib.hid pb
  clear pb
  have qf_0 := cv0 qf
  have qf_1 := cv1 qf
  have qf_l := lt_heap qf
  have QF := Lib.hid qf
  clear qf
  have qx_0 := cv0 qx
  have qx_1 := cv1 qx
  have qx_2 := cv2 qx
  have qx_3 := cv3 qx
  have qx_4 := cv4 qx
  have qx_5 := cv5 qx
  have qx_l := lt_heap qx
  have QX := Lib.hid qx
  clear qx
  cases hlB : Tv.long vb with
  | none =>
    obtain ⟨rfl, rfl, rfl⟩ := (HRR.out.out.2 ua HLA.out).1 hlB
    clear hVe
    simp only [Option.isSome_none]
    go_wp2_with fail
    go_returns
    exact ⟨rfl, HB9.out.alloc (by omega) _⟩
  | some ub =>
  obtain rfl : V = ub.tm := hVe ub hlB
  have hfb := Tv.long_fine HOB.out nvb hlB
  obtain ⟨rfl, rfl, rfl⟩ := (HRR.out.out.2 ua HLA.out).2 ub hlB
  clear hVe hlB
  simp only [Option.isSome_some]
  have hsame := fun (o : Obj) => Lib.hid (sameTerm_any ua ub [.int .i64 ua.tm.lab.kind, .string ua.tm.lab.nm, .int .i64 ua.tm.lab.ix, .string s5, .slice A5 n5 c5, .slice B5 m5 d5] [.int .i64 ub.tm.lab.kind, .string ub.tm.lab.nm, .int .i64 ub.tm.lab.ix, .string s6, .slice A6 n6 c6, .slice B6 m6 d6] (w9.alloc o) (Lo w9) HFA.out hfb (tmRep.keep HU.out (fun k hk => by have h' : k < w8.heap.size := hk; exact (heap_old (by omega) rfl).trans (HKW9.out k h')) (fun k hk => by have h' : k < w8.heap.size := hk; exact (show k < w9.heap.size by omega))) (tmRep.keep HV.out (fun k hk => heap_old hk rfl) (fun _ h => h)) (fun k hk => by have h' : k < w9.heap.size := hk; simp; omega))
  clear hfb
  have HSAME := Lib.hid hsame
  clear hsame
  generalize tmBeq ua.tm ub.tm = bb at *
  have hbb : (bb == bb) = true := by simp
  go_wp2_with fail
  (with_reducible refine (HSAME.out _).out.mono ?_)
  rintro e wl ⟨rfl, hwl⟩
  have HWL := Lib.hid hwl
  clear hwl
  go_wp2_with fail
  go_returns
  exact ⟨by simp, (HB9.out.alloc (by omega) _).trans (HWL.out.mono (by simp; omega))⟩

open Go.ChangeShapes Go.WideShapes Go.ChangeAt Go.WideMaps Go.WideElems Go.RowKit

set_option maxRecDepth 100000 in
theorem reduceEqualMatchesSpec_lifted (os : Os) (started : os.Started) (H : Type) (enc : TypeId × Value → H) :
    ReturnsInHanded {} Tryd.checked os 11 .any
      (fun w args => (Rows.reduceEqualMatchesSpecSpec.pre enc Tryd.prog Tryd.f11 [] false w args ∧ laidMetH Tryd.prog laidNone w) ∧ sizedMet enc Tryd.prog Tryd.f11 (OpenSpec.ofChange Rows.reduceEqualMatchesSpecSpec) false w args)
      (Rows.reduceEqualMatchesSpecSpec.post enc Tryd.prog Tryd.f11 false true false false) := by
  refine returnsInHanded_of_change_and (C := Tryd.checked) (X := fun w _ => laidMetH Tryd.prog laidNone w) (fun _ _ _ hh h => h.of_heap hh) ownKnobNone started (by kernel_rfl) Tryd.func11
    (ChangeSpec.witness_shaped (enc := enc) (C := Tryd.checked) (os := os) (X := fun w _ => laidMetH Tryd.prog laidNone w) false (World.doorLaid Tryd.prog 400 os) #[.agg #[.int .i64 0, .string ⟨#[]⟩, .int .i64 0, .string ⟨#[]⟩, .slice none 0 0, .slice none 0 0], .agg #[.int .i64 0, .string ⟨#[]⟩, .int .i64 0, .string ⟨#[]⟩, .slice none 0 0, .slice none 0 0]] 8 rfl (World.shaped_of_RefB (by kernel_rfl) (by kernel_rfl)) (by kernel_rfl) (by kernel_rfl) (by kernel_rfl) (door_met os _)) ?_
  intro W base args ds gs before hval0 hW _ _ hL _
  have hval : ∀ (j : Nat) t v, Tryd.f11.params[j]? = some t → args[j]? = some v → Value.okWide Tryd.prog W .any base t v := hval0
  have hW' := hW
  obtain ⟨p, q, hA0, hV, rfl, hfz, hnd⟩ := hW
  have hA : DataW.TrodAll enc Tryd.prog W 0 (fun _ => true) true Tryd.f11.params.toList args.toList ds p := hA0
  rw [Tryd.params11] at hA hval
  obtain ⟨v0, v1, d0, d1, p0, p1, rfl, rfl, rfl, h0, h1⟩ := trodAll_two hA
  obtain ⟨rfl, rfl⟩ := trodVars_none hV
  obtain ⟨c0, rfl, hc0⟩ := okWide_struct Tryd.underlying27 (hval 0 27 v0 rfl rfl)
  have h0k := h0
  obtain ⟨fuel0, hf0⟩ := h0
  obtain ⟨t0, ht00⟩ := tm_of_trod fuel0 _ _ hf0
  have ht0 : tmRep.R W (Lo W) t0 c0.toList := by simpa [Value.cells] using ht00
  obtain ⟨c1, rfl, hc1⟩ := okWide_struct Tryd.underlying27 (hval 1 27 v1 rfl rfl)
  have h1k := h1
  obtain ⟨fuel1, hf1⟩ := h1
  obtain ⟨t1, ht10⟩ := tm_of_trod fuel1 _ _ hf1
  have ht1 : tmRep.R W (Lo W) t1 c1.toList := by simpa [Value.cells] using ht10
  obtain ⟨g0, g1⟩ := of_laid hL
  clear hA0 hval0
  simp only [List.append_nil] at hW'
  have hlt : ∀ x ∈ p0 ++ p1, x.block < W.heap.size := fun x hx => by simpa using hW'.lt x (by simpa using hx)
  refine (equalLaw_any t0 c0.toList t1 c1.toList W (Lo W) ht0 ht1 (fun _ h => h) g0 g1).mono fun e W' ⟨he, hnx⟩ => ?_
  subst he
  refine ⟨_, rfl, _, _, _, [], p0 ++ p1, [], hW', trodAll_mk1 (shut_bool Tryd.underlying4 _), ?_, rfl, hnx.frame _, fun h => by cases h⟩
  exact trodAll_mk2 (Below.trod laidOutAll (by kernel_rfl) (of_decide_eq_true (by kernel_rfl)) h0k hnx (fun x hx => hlt x (by simp [hx]))) (Below.trod laidOutAll (by kernel_rfl) (of_decide_eq_true (by kernel_rfl)) h1k hnx (fun x hx => hlt x (by simp [hx])))

theorem reduceEqualMatchesSpec_row : Rows.ReduceEqualMatchesSpecSaid :=
  OpenClaim.holds_of_wide 11 Tryd.f11 rfl rfl rfl rfl rfl rfl rfl ⟨rfl, rfl, rfl, rfl, rfl⟩ rfl rfl rfl rfl rfl (by kernel_rfl) Tryd.func11 (by kernel_rfl)
    (of_decide_eq_true (by kernel_rfl)) (by unfold Func.isWrapper; first | (rw [if_pos (by decide +kernel)]; kernel_rfl) | (rw [if_neg (by decide +kernel)]; exact ⟨rfl, rfl⟩))
    (fun os started H enc _ => reduceEqualMatchesSpec_lifted os started H enc)

theorem reduceEqualMatchesSpec_holds : Rows.ReduceEqualMatchesSpecCardSaid :=
  Claim7.holds_tied_plain_at .later [] [.data] true (true, "4608b3b75b2543ba0753ca336feeaafa45f38aea9e9679e8da1673cdf2ad44fb") false
    reduceEqualMatchesSpec_row (fun _ h => by cases h) (by kernel_rfl) (fun _ h => by cases h) reduceEqualMatchesSpec_row_tie rfl ⟨rfl, rfl⟩ (by kernel_rfl) rfl
    (fun f fn hf hfn => by
      obtain rfl : f = 11 := Option.some.inj ((show Tryd.prog.funcNamed "glosswright/glosswrightlaw1.ReduceEqualMatchesSpec" = some 11 by kernel_rfl).symm.trans hf) |>.symm
      obtain rfl : fn = Tryd.f11 := (Option.some.inj (Tryd.func11.symm.trans hfn)).symm
      exact ⟨by kernel_rfl, fun j t ht => by
        rw [Tryd.params11] at ht
        have hm : t ∈ [27, 27] := by simpa using Array.mem_of_getElem? ht
        have hall : ([27, 27].all fun u => !Tryd.prog.wantsStandIn u) = true := by kernel_rfl
        exact (show Tryd.prog.wantsStandIn t = false by simpa using List.all_eq_true.1 hall t hm)⟩)
    (by kernel_rfl)
#print axioms reduceEqualMatchesSpec_holds
end

end Go.Proofs.YthflahcnkhmpaabDoor
