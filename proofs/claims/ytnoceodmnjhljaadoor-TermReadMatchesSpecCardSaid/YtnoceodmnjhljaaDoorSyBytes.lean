/-
  The text of a simple type as bytes; it tells the type. Nothing here names the program.
-/
import Derived.Test.YtnoceodmnjhljaaDoorSy
import Derived.Test.YtnoceodmnjhljaaDoorProg
import Derived.Test.YtnoceodmnjhljaaDoorSyIn
import Derived.Deep.RegionHeld3
import Derived.Laws.Concat
namespace Go.Proofs.YtnoceodmnjhljaaDoor
open Go Go.RowKit
set_option linter.unusedSimpArgs false
set_option linter.unusedVariables false

def Sy.bytes : Sy → List UInt8
  | .e => [101]
  | .t => [116]
  | .fn a b => 40 :: (a.bytes ++ 32 :: (b.bytes ++ [41]))
theorem Sy.bytes_len (s : Sy) : s.bytes.length ≤ 4 * s.nodes := by
  induction s with
  | e => simp [Sy.bytes, Sy.nodes]
  | t => simp [Sy.bytes, Sy.nodes]
  | fn a b iha ihb => simp [Sy.bytes, Sy.nodes]; omega

theorem bE_list : bE.data.toList = [101] := rfl
theorem bT_list : bT.data.toList = [116] := rfl

/-- A string of these bytes, as an opaque letter. -/
theorem Sy.string (s : Sy) : ∃ x : ByteArray, (⟨s.bytes.toArray⟩ : ByteArray) = x ∧ x.size = s.bytes.length := ⟨_, rfl, by simp [ByteArray.size]⟩
theorem bytes_mk {x : ByteArray} {l : List UInt8} (h : x.data.toList = l) : x = ⟨l.toArray⟩ := by subst h; cases x; simp

/-- The text tells the type. -/
theorem Sy.bytes_split : ∀ (a b : Sy) (x y : List UInt8), a.bytes ++ x = b.bytes ++ y → a = b ∧ x = y
  | .e, .e, x, y, h => by simpa [Sy.bytes] using h
  | .t, .t, x, y, h => by simpa [Sy.bytes] using h
  | .fn a b, .fn c d, x, y, h => by
    simp only [Sy.bytes, List.cons_append, List.append_assoc, List.cons.injEq, true_and] at h
    obtain ⟨rfl, h2⟩ := Sy.bytes_split a c _ _ h
    simp only [List.cons.injEq, true_and] at h2
    obtain ⟨rfl, h3⟩ := Sy.bytes_split b d _ _ h2
    exact ⟨rfl, by simpa using h3⟩
  | .e, .t, _, _, h => by simp [Sy.bytes] at h
  | .e, .fn _ _, _, _, h => by simp [Sy.bytes] at h
  | .t, .e, _, _, h => by simp [Sy.bytes] at h
  | .t, .fn _ _, _, _, h => by simp [Sy.bytes] at h
  | .fn _ _, .e, _, _, h => by simp [Sy.bytes] at h
  | .fn _ _, .t, _, _, h => by simp [Sy.bytes] at h
theorem Sy.bytes_inj {a b : Sy} (h : a.bytes = b.bytes) : a = b := (Sy.bytes_split a b [] [] (by simp [h])).1


theorem full_e : (!bE.toList.isEmpty) = true := by simp [ByteArray.toList_eq, bE]
theorem full_t : (!bT.toList.isEmpty) = true := by simp [ByteArray.toList_eq, bT]
theorem full_nil : (!bNil.toList.isEmpty) = false := by simp [ByteArray.toList_eq, bNil]

set_option maxHeartbeats 2000000 in
set_option maxRecDepth 100000 in
theorem refText_big : ∀ (s : Sy) (v0 v1 : Value) (w : World) (S : Nat → Prop), s.ty.In w S v0 v1 → (∀ b, S b → b < w.heap.size) → s.nodes ≤ 1000000000000 →
    Calls Tryd.prog 38 #[.agg #[v0, v1]] w fun e w' => e = .returned (.string ⟨s.bytes.toArray⟩) ∧ Below w.heap.size w w' := by
  intro s
  induction s with
  | e =>
    intro v0 v1 w S h hS hn
    obtain ⟨A, c, rfl, rfl⟩ := Sy.In_e h
    clear h hS
    have t0 := full_e
    go_enter Tryd.func38, Tryd.ntmps38
    go_wp2_with fail
    go_returns
    exact ⟨rfl, by go_grown⟩
  | t =>
    intro v0 v1 w S h hS hn
    obtain ⟨A, c, rfl, rfl⟩ := Sy.In_t h
    clear h hS
    have t0 := full_t
    go_enter Tryd.func38, Tryd.ntmps38
    go_wp2_with fail
    go_returns
    exact ⟨rfl, by go_grown⟩
  | fn a b iha ihb =>
    intro v0 v1 w S h hS hn
    have la := a.bytes_len
    have lb := b.bytes_len
    obtain ⟨xa, ea, za⟩ := a.string
    obtain ⟨xb, eb, zb⟩ := b.string
    simp only [Sy.nodes] at hn
    rw [ea] at iha
    rw [eb] at ihb
    have IA := Lib.hid iha
    have IB := Lib.hid ihb
    have EA := Lib.hid ea
    have EB := Lib.hid eb
    clear iha ihb
    obtain ⟨bl, o, c, x0, x1, y0, y1, rfl, rfl, hSb, f0, f1, f2, f3, ha, hb⟩ := Sy.In_fn h
    have HA := Lib.hid ha
    have HB := Lib.hid hb
    have HS := Lib.hid hS
    have hbl := hS bl hSb
    have Hn := Lib.hid hn
    have t0 := full_nil
    have t1 : ¬ 9223372036854775806 < xa.size := by omega
    have t2 : ¬ 9223372036854775805 < xa.size := by omega
    have t3 : ¬ 9223372036854775807 < 1 + xa.size := by omega
    have t4 : ¬ 9223372036854775806 < 1 + xa.size := by omega
    have t5 : ¬ 9223372036854775807 < 1 + xa.size + 1 := by omega
    have t6 : ¬ 9223372036854775807 < 1 + xa.size + 1 + xb.size := by omega
    have t7 : ¬ 9223372036854775806 < 1 + xa.size + 1 + xb.size := by omega
    have t8 : ¬ 9223372036854775807 < 1 + xa.size + 1 + xb.size + 1 := by omega
    clear ha hb hS h ea eb hn za zb la lb
    go_enter Tryd.func38, Tryd.ntmps38
    go_wp2_with fail
    go_region_held3 (fun w' => w'.cell? ⟨w.heap.size, 1, none⟩ = some (.slice (some ⟨bl, o, none⟩) 2 c) ∧ w'.cell? ⟨bl, o, none⟩ = some x0 ∧ w'.cell? ⟨bl, o + 1, none⟩ = some x1 ∧ w'.cell? ⟨bl, o + 2, none⟩ = some y0 ∧ w'.cell? ⟨bl, o + 2 + 1, none⟩ = some y1)
      ((first | (go_keep; done) | (go_split_ands; (repeat' apply And.intro) <;> (refine (kc2 _ _ (by go_size)).trans ?_; assumption)) | (go_split_ands; (repeat' apply And.intro) <;> (refine (kc _ _ (by go_size)).trans ?_; assumption))))
      (first
        | (go_at_call_of 38 x0; refine (IA.out x0 x1 _ S (by exact HA.out.below (B := w.heap.size) (by go_grown) HS.out) (by intro b hb; have := HS.out b hb; simp; omega) (by have := Hn.out; omega)).mono ?_; rintro e w1 ⟨rfl, hw1⟩; obtain ⟨kc, kf⟩ := bcell hw1; have Hw1 := Lib.hid hw1; have z1 : w.heap.size + 1 ≤ w1.heap.size := (by have := hw1.size; simpa using this))
        | (go_at_call_of 38 y0; refine (IB.out y0 y1 _ S (by exact HB.out.below (B := w.heap.size) ((show Below w.heap.size w _ by go_grown).trans (Hw1.out.mono (by simp))) HS.out) (by intro b hb; have := HS.out b hb; omega) (by have := Hn.out; omega)).mono ?_; rintro e w2 ⟨rfl, hw2⟩; obtain ⟨kc2, kf2⟩ := bcell hw2; have Hw2 := Lib.hid hw2))
    go_wp2_with fail
    all_goals
      go_returns
      refine ⟨?_, (show Below w.heap.size w _ by go_grown).trans ((Hw1.out.mono (by simp)).trans (hw2.mono (by omega)))⟩
      refine congrArg (fun x => Ending.returned (Value.string x)) (bytes_mk (x := ⟨#[40]⟩ ++ xa ++ ⟨#[32]⟩ ++ xb ++ ⟨#[41]⟩) ?_)
      have e1 : xa.data.toList = a.bytes := by rw [← EA.out]
      have e2 : xb.data.toList = b.bytes := by rw [← EB.out]
      simp [Sy.bytes, ByteArray.data_append, e1, e2]


set_option maxHeartbeats 2000000 in
set_option maxRecDepth 100000 in
theorem refSameType_any (s u : Sy) (v0 v1 u0 u1 : Value) (w : World) (S : Nat → Prop) (hs : s.ty.In w S v0 v1) (ht : u.ty.In w S u0 u1) (hS : ∀ b, S b → b < w.heap.size) (hn : s.nodes ≤ 1000000000000) (hm : u.nodes ≤ 1000000000000) :
    Calls Tryd.prog 37 #[.agg #[v0, v1], .agg #[u0, u1]] w fun e w' => e = .returned (.bool (decide (s = u))) ∧ Below w.heap.size w w' := by
  have HHS := Lib.hid hS
  have HHT := Lib.hid ht
  obtain ⟨sx, Ax, nx, cx, rfl, rfl⟩ := hs.shape
  obtain ⟨sy, Ay, ny, cy, rfl, rfl⟩ := ht.shape
  have HHV := Lib.hid hs
  obtain ⟨xs, es, _⟩ := s.string
  obtain ⟨xu, eu, _⟩ := u.string
  have hd : (xs.toList == xu.toList) = decide (s = u) := by
    by_cases e : s = u
    · subst e; rw [es] at eu; subst eu; simp
    · have : xs ≠ xu := fun h => e (Sy.bytes_inj (by rw [← es, ← eu] at h; simpa using h))
      rw [bytes_ne this, decide_eq_false e]
  rw [← hd]
  have r1 := refText_big s (.string sx) (.slice Ax nx cx)
  have r2 := refText_big u (.string sy) (.slice Ay ny cy)
  rw [es] at r1
  rw [eu] at r2
  clear hs ht hS es eu hd
  have R1 := Lib.hid r1
  have R2 := Lib.hid r2
  have HN := Lib.hid hn
  have HM := Lib.hid hm
  clear r1 r2 hn hm
  go_enter Tryd.func37, Tryd.ntmps37
  go_wp2_with fail
  go_region_held3 (fun w' => w'.cell? ⟨w.heap.size, 0, none⟩ = some (.string sx) ∧ w'.cell? ⟨w.heap.size, 1, none⟩ = some (.slice Ax nx cx) ∧ w'.cell? ⟨w.heap.size + 1, 0, none⟩ = some (.string sy) ∧ w'.cell? ⟨w.heap.size + 1, 1, none⟩ = some (.slice Ay ny cy))
    ((first | (go_keep; done) | (go_split_ands; (repeat' apply And.intro) <;> (refine (kc2 _ _ (by go_size)).trans ?_; assumption)) | (go_split_ands; (repeat' apply And.intro) <;> (refine (kc _ _ (by go_size)).trans ?_; assumption))))
    (first
      | (go_at_call_of 38 sx; refine (R1.out _ S (by exact HHV.out.below (B := w.heap.size) (by go_grown) HHS.out) (by intro b hb; have := HHS.out b hb; simp; omega) HN.out).mono ?_; rintro e w1 ⟨rfl, hw1⟩; obtain ⟨kc, kf⟩ := bcell hw1; have Hw1 := Lib.hid hw1; have z1 : w.heap.size + 1 + 1 ≤ w1.heap.size := (by have := hw1.size; simpa using this))
      | (go_at_call_of 38 sy; refine (R2.out _ S (by exact HHT.out.below (B := w.heap.size) ((show Below w.heap.size w _ by go_grown).trans (Hw1.out.mono (by simp; omega))) HHS.out) (by intro b hb; have := HHS.out b hb; omega) HM.out).mono ?_; rintro e w2 ⟨rfl, hw2⟩; obtain ⟨kc2, kf2⟩ := bcell hw2; have Hw2 := Lib.hid hw2))
  go_wp2_with fail
  all_goals
    go_returns
    exact ⟨rfl, (show Below w.heap.size w _ by go_grown).trans ((Hw1.out.mono (by simp; omega)).trans (Hw2.out.mono (by omega)))⟩


end Go.Proofs.YtnoceodmnjhljaaDoor
