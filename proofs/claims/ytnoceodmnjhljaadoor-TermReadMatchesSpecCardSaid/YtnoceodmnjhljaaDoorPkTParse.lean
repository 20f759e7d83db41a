/-
  term.Parse: the walk.
-/
import Derived.Test.YtnoceodmnjhljaaDoorTrdText
import Derived.Test.YtnoceodmnjhljaaDoorTermR2
import Derived.Test.YtnoceodmnjhljaaDoorTermR3
import Derived.Test.YtnoceodmnjhljaaDoorTermR4
import Derived.Test.YtnoceodmnjhljaaDoorValidTm
import Derived.Deep.DeepCutAuto
import Derived.Deep.RegionHeld3
import Derived.BigQuiet
namespace Go.Proofs.YtnoceodmnjhljaaDoor

section
open Go Go.RowKit
set_option linter.unusedSimpArgs false
set_option linter.unusedVariables false

def tpF (x : ByteArray) : Tm × St := termF x 40 ⟨0, 0, 0, 0⟩
/-- The fault. -/
noncomputable def tpC (x : ByteArray) : Nat × Int :=
  if 4000 < x.size then (1, 0) else if (tpF x).2.c ≠ 0 then ((tpF x).2.c, ((tpF x).2.j : Nat)) else if (tpF x).2.i < x.size then (11, ((tpF x).2.i : Nat)) else tmFault (tpF x).1
/-- The term. -/
noncomputable def tpT (x : ByteArray) : Tm := if (tpC x).1 = 0 then (tpF x).1 else tmZT

theorem tpC_long {x : ByteArray} (h : 4000 < x.size) : tpC x = (1, 0) := by unfold tpC; rw [if_pos h]
theorem tpC_bad {x : ByteArray} (h : ¬ 4000 < x.size) (hc : (tpF x).2.c ≠ 0) : tpC x = ((tpF x).2.c, (((tpF x).2.j : Nat) : Int)) := by unfold tpC; rw [if_neg h, if_pos hc]
theorem tpC_more {x : ByteArray} (h : ¬ 4000 < x.size) (hc : ¬ (tpF x).2.c ≠ 0) (hi : (tpF x).2.i < x.size) : tpC x = (11, (((tpF x).2.i : Nat) : Int)) := by unfold tpC; rw [if_neg h, if_neg hc, if_pos hi]
theorem tpC_end {x : ByteArray} (h : ¬ 4000 < x.size) (hc : ¬ (tpF x).2.c ≠ 0) (hi : ¬ (tpF x).2.i < x.size) : tpC x = tmFault (tpF x).1 := by unfold tpC; rw [if_neg h, if_neg hc, if_neg hi]
theorem tpT_bad {x : ByteArray} (h : (tpC x).1 ≠ 0) : tpT x = tmZT := by unfold tpT; rw [if_neg h]
theorem tpT_ok {x : ByteArray} (h : (tpC x).1 = 0) : tpT x = (tpF x).1 := by unfold tpT; rw [if_pos h]

/-- The text of a valid term is read as the term. -/
theorem tp_text {v : Tv} {s : Sy} (h : v.ok 0) (h1 : v.nodes ≤ 200) (h2 : v.depth ≤ 40) (h3 : v.typ [] = some s) (h4 : v.text.length ≤ 4000) :
    tpC ⟨v.text.toArray⟩ = (0, 0) ∧ tpT ⟨v.text.toArray⟩ = v.tm := by
  have hsz : (⟨v.text.toArray⟩ : ByteArray).size = v.text.length := by simp [ByteArray.size]
  have hr := trd_text ⟨v.text.toArray⟩ v 0 40 0 0 [] h (by omega) (by simp) (by rw [byteAt_out (by omega)]; omega) h2 (by omega)
  have ht := termF_trd ⟨v.text.toArray⟩ 40 ⟨0, 0, 0, 0⟩ rfl
  simp only at ht
  rw [hr] at ht
  simp only at ht
  have hF : tpF ⟨v.text.toArray⟩ = (v.tm, ⟨0 + v.text.length, 0, 0, 0 + v.nodes⟩) := ht
  have hC : tpC ⟨v.text.toArray⟩ = (0, 0) := by
    rw [tpC_end (by omega) (by rw [hF]; simp) (by rw [hF, hsz]; simp), hF]
    exact tmFault_ok h h1 h2 h3
  exact ⟨hC, by rw [tpT_ok (by rw [hC]), hF]⟩
end

section
open Go Go.RowKit
set_option linter.unusedSimpArgs false
set_option linter.unusedVariables false

theorem termR_any (x : ByteArray) (hx : x.size ≤ 4000) (r : Nat) : ∀ (k d : Nat) (s : St) (w : World), d + k = 41 → RdT s.n w r x s.i s.c s.j → s.fits x →
    Calls Tryd.prog 17 #[.pointer (some ⟨r, 0, none⟩), .int .i64 d] w (TermT x r k s w) := by
  intro k
  induction k with
  | zero =>
    rintro d ⟨i, c, j, n⟩ w hd hr ⟨f1, f2, f3, f4, f5⟩
    simp only at hr f1 f2 f3 f4 f5
    by_cases hc : c = 0
    · subst hc
      by_cases hb : startB (byteAt x i)
      · exact term_much x hx 0 d i j n r w hr hb (f5 rfl) hd (Or.inr rfl)
      · exact term_bad x hx 0 d i j n r w hr f2 hb
    · exact term_err x 0 d i c j n r w hr hc
  | succ k ih =>
    rintro d ⟨i, c, j, n⟩ w hd hr ⟨f1, f2, f3, f4, f5⟩
    simp only at hr f1 f2 f3 f4 f5
    by_cases hc : c = 0
    case neg => exact term_err x (k + 1) d i c j n r w hr hc
    subst hc
    by_cases hb : startB (byteAt x i)
    case neg => exact term_bad x hx (k + 1) d i j n r w hr f2 hb
    by_cases hn : 200 < n + 1
    · exact term_much x hx (k + 1) d i j n r w hr hb (f5 rfl) hd (Or.inl hn)
    rcases hb with hb | hb | hb | hb
    · exact term_num x hx k d i j n r w hr hb (by omega) hd f3
    · exact term_abs x hx k d i j n r w hr hb (by omega) hd f3 ih
    · exact term_app x hx k d i j n r w hr hb (by omega) hd f3 ih
    · exact term_name x hx k d i j n r w hr hb (by omega) hd f3

/-- What Parse leaves. -/
def TParseAt (x : ByteArray) (w : World) (e : Ending) (w' : World) : Prop :=
  ∃ es : List Value, e = .returned (.tuple #[.agg es.toArray, .agg #[.int .i64 ((tpC x).1 : Nat), .int .i64 (tpC x).2]]) ∧ tmRep.R w' (Fresh w w') (tpT x) es ∧ Below w.heap.size w w'

set_option maxRecDepth 100000 in
set_option maxHeartbeats 4000000 in
theorem tparse_any (x : ByteArray) (w : World) (hx : x.size ≤ maxLen) : Calls Tryd.prog 6 #[.string x] w (TParseAt x w) := by
  unfold maxLen at hx
  have hbad : ∀ (c : Nat) (j : Int) (w' : World), tpC x = (c, j) → c ≠ 0 → Below w.heap.size w w' → TParseAt x w (.returned (.tuple #[.agg #[.int .i64 0, .string ⟨#[]⟩, .int .i64 0, .string ⟨#[]⟩, .slice none 0 0, .slice none 0 0], .agg #[.int .i64 c, .int .i64 j]])) w' := by
    intro c j w' h1 h2 h3
    unfold TParseAt
    rw [tpT_bad (by rw [h1]; exact h2), h1]
    exact ⟨_, rfl, tmZT_rep, h3⟩
  have HBAD := Lib.hid hbad
  clear hbad
  by_cases hl : 4000 < x.size
  · have HF := Lib.hid (fun w' => HBAD.out 1 0 w' (tpC_long hl) (by decide))
    go_enter Tryd.func6, Tryd.ntmps6
    go_wp2_with fail
    refine bodyPost_ret (v := .tuple #[.agg #[.int .i64 0, .string ⟨#[]⟩, .int .i64 0, .string ⟨#[]⟩, .slice none 0 0, .slice none 0 0], .agg #[.int .i64 1, .int .i64 0]]) (by simp [results, Tryd.results6, go_sem]) rfl ?_
    exact HF.out _ (by go_grown)
  have hx4 : x.size ≤ 4000 := by omega
  have hf0 : St.fits x ⟨0, 0, 0, 0⟩ := ⟨by simp, by simp, by simp, by simp, fun _ => by simp⟩
  have hfit := termF_fits x 40 _ hf0
  have h1 := fun hc => tpC_bad (x := x) hl hc
  have h2 := fun hc hi => tpC_more (x := x) hl hc hi
  have h3 := fun hc hi => tpC_end (x := x) hl hc hi
  have h4 := fun h => tpT_ok (x := x) h
  unfold tpF at h1 h2 h3 h4
  obtain ⟨⟨pt, ⟨pi, pc, pj, pn⟩⟩, hpe⟩ : ∃ p, termF x 40 ⟨0, 0, 0, 0⟩ = p := ⟨_, rfl⟩
  rw [hpe] at hfit h1 h2 h3 h4
  obtain ⟨f1, f2, f3, f4, f5⟩ := hfit
  simp only at f1 f2 f3 f4 f5 h1 h2 h3 h4
  have HPE := Lib.hid hpe
  have H1 := Lib.hid h1
  have H2 := Lib.hid h2
  have H3 := Lib.hid h3
  have H4 := Lib.hid h4
  clear hpe h1 h2 h3 h4
  go_enter Tryd.func6, Tryd.ntmps6
  go_upto_region 4 with (fail)
  refine gen_last (fun W => RdT 0 W (w.heap.size + 2) x 0 0 0 ∧ W.heap[w.heap.size]? = some (.cells #[.int .i64 0, .string ⟨#[]⟩, .int .i64 0, .string ⟨#[]⟩, .slice none 0 0, .slice none 0 0] 27 (0, 0)) ∧ W.heap[w.heap.size + 1]? = some (.cells #[.int .i64 0, .int .i64 0] 29 (0, 0)) ∧ Below w.heap.size w W ∧ w.heap.size + 3 ≤ W.heap.size) ?_ ?_
  · exact ⟨heap_at (by simp), heap_old (by simp; omega) (heap_old (by simp) (heap_at rfl)), heap_old (by simp) (heap_at (by simp)), by go_grown, by simp⟩
  rintro w1 ⟨hr1, hz1, hq1, hB1, z1⟩
  have HZ1 := Lib.hid hz1
  have HQ1 := Lib.hid hq1
  have HB1 := Lib.hid hB1
  clear hz1 hq1 hB1
  go_wp2_with fail
  refine (termR_any x hx4 (w.heap.size + 2) 40 1 ⟨0, 0, 0, 0⟩ w1 rfl hr1 hf0).mono ?_
  unfold TermT
  rw [HPE.out]
  rintro e w2 ⟨cs, rfl, ht, hr2, hk2⟩
  simp only at ht hr2
  obtain ⟨s1, A1, n1, c1, B1, m1, d1, rfl, _, _⟩ := Tm.shape ht
  have z2 : w1.heap.size ≤ w2.heap.size := hk2.size
  have hz2 := (hk2.block w.heap.size (by omega) (by omega)).trans HZ1.out
  have hq2 := (hk2.block (w.heap.size + 1) (by omega) (by omega)).trans HQ1.out
  have hB2 : Below w.heap.size w w2 := HB1.out.trans (hk2.below (B := w.heap.size) (by rintro k rfl; omega) (by omega))
  have l2 := lt_heap hr2
  have l3 : w.heap.size < w2.heap.size := by omega
  have l4 : w.heap.size + 1 < w2.heap.size := by omega
  clear hr1 hk2
  have HT := Lib.hid ht
  have HR2 := Lib.hid hr2
  have HZ2 := Lib.hid hz2
  have HQ2 := Lib.hid hq2
  have HB2 := Lib.hid hB2
  clear ht hr2 hz2 hq2 hB2
  go_upto_region 5 with (fail)
  refine gen_last (fun W => RdT pn W (w.heap.size + 2) x pi pc pj ∧ W.heap[w.heap.size]? = some (.cells #[.int .i64 0, .string ⟨#[]⟩, .int .i64 0, .string ⟨#[]⟩, .slice none 0 0, .slice none 0 0] 27 (0, 0)) ∧ W.heap[w.heap.size + 1]? = some (.cells #[.int .i64 0, .int .i64 0] 29 (0, 0)) ∧ Below w.heap.size w W ∧ w2.heap.size + 1 ≤ W.heap.size ∧ W.heap[w2.heap.size]? = some (.cells #[.int .i64 pt.lab.kind, .string pt.lab.nm, .int .i64 pt.lab.ix, .string s1, .slice A1 n1 c1, .slice B1 m1 d1] 27 (0, 0)) ∧ tmRep.R W (fun b => w1.heap.size ≤ b ∧ b < w2.heap.size) pt [.int .i64 pt.lab.kind, .string pt.lab.nm, .int .i64 pt.lab.ix, .string s1, .slice A1 n1 c1, .slice B1 m1 d1]) ?_ ?_
  · exact ⟨heap_old l2 HR2.out, heap_old l3 HZ2.out, heap_old l4 HQ2.out, HB2.out.alloc (by omega) _, by simp, heap_at rfl, tmRep.keep HT.out (fun b hb => heap_old hb.2 rfl) (fun _ h => h)⟩
  rintro w3 ⟨pr, pz, pb, hB3, z3, pt3, ht3⟩
  clear l2 l3 l4
  have pr0 := cellv pr 0 rfl
  have pr1 := cellv pr 1 rfl
  have pr2 := cellv pr 2 rfl
  have pr3 := cellv pr 3 rfl
  have prl := lt_heap pr
  have PR := Lib.hid pr
  have HB3 := Lib.hid hB3
  have HT3 := Lib.hid ht3
  clear pr hB3 ht3
  have pz_0 := cv0 pz
  have pz_1 := cv1 pz
  have pz_2 := cv2 pz
  have pz_3 := cv3 pz
  have pz_4 := cv4 pz
  have pz_5 := cv5 pz
  have pz_f0 := free_heap pz 0
  have pz_f1 := free_heap pz 1
  have pz_f2 := free_heap pz 2
  have pz_f3 := free_heap pz 3
  have pz_f4 := free_heap pz 4
  have pz_f5 := free_heap pz 5
  have pz_l := lt_heap pz
  have PZ := Lib.hid pz
  clear pz
  have pb_0 := cv0 pb
  have pb_1 := cv1 pb
  have pb_f0 := free_heap pb 0
  have pb_f1 := free_heap pb 1
  have pb_l := lt_heap pb
  have PB := Lib.hid pb
  clear pb
  have pt3_0 := cv0 pt3
  have pt3_1 := cv1 pt3
  have pt3_2 := cv2 pt3
  have pt3_3 := cv3 pt3
  have pt3_4 := cv4 pt3
  have pt3_5 := cv5 pt3
  have pt3_l := lt_heap pt3
  have PT3 := Lib.hid pt3
  clear pt3
  have hret : ∀ (c : Nat) (j : Int) (wr : World), tpC x = (c, j) → c ≠ 0 → wr.heap[w.heap.size]? = some (.cells #[.int .i64 0, .string ⟨#[]⟩, .int .i64 0, .string ⟨#[]⟩, .slice none 0 0, .slice none 0 0] 27 (0, 0)) ∧ wr.heap[w.heap.size + 1]? = some (.cells #[.int .i64 c, .int .i64 j] 29 (0, 0)) ∧ Below w.heap.size w wr →
      TParseAt x w (.returned (.tuple #[.agg #[.int .i64 0, .string ⟨#[]⟩, .int .i64 0, .string ⟨#[]⟩, .slice none 0 0, .slice none 0 0], .agg #[.int .i64 c, .int .i64 j]])) wr := fun c j wr e1 e2 h => HBAD.out c j wr e1 e2 h.2.2
  have HRET := Lib.hid hret
  clear hret
  by_cases hc : pc = 0
  case neg =>
    have hc1 : ((pc : Int) == 0) = false := beq_eq_false_iff_ne.2 (by omega)
    have hc2 : ((pc : Int) != 0) = true := by rw [bne_iff_ne]; omega
    have he := H1.out hc
    have HE := Lib.hid he
    clear he
    go_upto_region 8 with (fail)
    go_cut [] (fun wr => wr.heap[w.heap.size]? = some (.cells #[.int .i64 0, .string ⟨#[]⟩, .int .i64 0, .string ⟨#[]⟩, .slice none 0 0, .slice none 0 0] 27 (0, 0)) ∧ wr.heap[w.heap.size + 1]? = some (.cells #[.int .i64 pc, .int .i64 pj] 29 (0, 0)) ∧ Below w.heap.size w wr)
    case first =>
      go_region
      all_goals go_wp2_with fail
      all_goals go_meet
      all_goals
        first
        | exact ⟨heap_drew (far2 (by omega) (at6 PZ.out)), heap_drew (at2 (far6 (by omega) PB.out)), (below2 (below6 HB3.out (Nat.le_refl _)) (by omega)).drew⟩
        | exact ⟨far2 (by omega) (at6 PZ.out), at2 (far6 (by omega) PB.out), below2 (below6 HB3.out.drew (Nat.le_refl _)) (by omega)⟩
        | exact ⟨at6 (far2 (by omega) PZ.out), far6 (by omega) (at2 PB.out), below6 (below2 HB3.out.drew (by omega)) (Nat.le_refl _)⟩
    case rest =>
    have hfin := HRET.out pc pj _ HE.out hc hcut
    obtain ⟨k0, k1, kB⟩ := hcut
    rename World => wr
    have HFIN := Lib.hid hfin
    have KB := Lib.hid kB
    clear hfin kB
    have k0_0 := cv0 k0
    have k0_1 := cv1 k0
    have k0_2 := cv2 k0
    have k0_3 := cv3 k0
    have k0_4 := cv4 k0
    have k0_5 := cv5 k0
    have k0_l := lt_heap k0
    have K0 := Lib.hid k0
    clear k0
    have k1_0 := cv0 k1
    have k1_1 := cv1 k1
    have k1_l := lt_heap k1
    have K1 := Lib.hid k1
    clear k1
    go_wp2_with fail
    refine bodyPost_ret (v := .tuple #[.agg #[.int .i64 0, .string ⟨#[]⟩, .int .i64 0, .string ⟨#[]⟩, .slice none 0 0, .slice none 0 0], .agg #[.int .i64 pc, .int .i64 pj]]) (by simp [results, Tryd.results6, go_sem, k0_0, k0_1, k0_2, k0_3, k0_4, k0_5, k0_l, k1_0, k1_1, k1_l]) rfl ?_
    exact HFIN.out
  subst hc
  by_cases hi : pi < x.size
  · have q1 : (pi : Int) < (x.size : Int) := by omega
    have he := H2.out (by simp) hi
    have hfl : ∀ (W : World), RdT pn W (w.heap.size + 2) x pi 0 pj → Calls Tryd.prog 18 #[.pointer (some ⟨w.heap.size + 2, 0, none⟩), .int .i64 11, .int .i64 (pi : Nat)] W fun e w' => e = .returned (.tuple #[]) ∧ RdT pn w' (w.heap.size + 2) x pi 11 pi ∧ Keeps (· = w.heap.size + 2) W w' ∧ w'.heap.size = W.heap.size := fun W h => (failT_any (m := pn) (w.heap.size + 2) x pi 0 pj 11 pi W h).mono fun e w' h => ⟨h.1, by have := h.2.1; rwa [if_pos rfl] at this, h.2.2⟩
    have HE := Lib.hid he
    have HFL := Lib.hid hfl
    clear he hfl
    go_upto_region 6 with (fail)
    go_region_held3 (fun w' => w'.cell? ⟨w.heap.size + 2, 1, none⟩ = some (.int .i64 (pi : Nat)))
      ((first | (go_keep; done) | exact cellv HR4.out 1 rfl))
      (((with_reducible refine (HFL.out _ (by first | exact PR.out.drew | exact PR.out)).mono ?_); rintro e w4 ⟨rfl, hr4, hk4, hs4⟩; have HR4 := Lib.hid hr4; have HK4 := Lib.hid hk4; clear hr4 hk4 hs4))
    all_goals
      have qz := (HK4.out.block w.heap.size pz_l (by omega)).trans (by first | exact heap_drew PZ.out | exact PZ.out)
      have qb := (HK4.out.block (w.heap.size + 1) pb_l (by omega)).trans (by first | exact heap_drew PB.out | exact PB.out)
      have hB4 : Below w.heap.size w w4 := by first | exact HB3.out.drew.trans (HK4.out.below (B := w.heap.size) (by rintro k rfl; omega) (by simp; omega)) | exact HB3.out.trans (HK4.out.below (B := w.heap.size) (by rintro k rfl; omega) (by omega))
      have r0 := cellv HR4.out 0 rfl
      have r1 := cellv HR4.out 1 rfl
      have r2 := cellv HR4.out 2 rfl
      have r3 := cellv HR4.out 3 rfl
      have rl := lt_heap HR4.out
      clear pr0 pr1 pr2 pr3 prl pz_0 pz_1 pz_2 pz_3 pz_4 pz_5 pz_f0 pz_f1 pz_f2 pz_f3 pz_f4 pz_f5 pz_l pb_0 pb_1 pb_f0 pb_f1 pb_l pt3_0 pt3_1 pt3_2 pt3_3 pt3_4 pt3_5 pt3_l
      have HB4 := Lib.hid hB4
      clear hB4
      have qz_0 := cv0 qz
      have qz_1 := cv1 qz
      have qz_2 := cv2 qz
      have qz_3 := cv3 qz
      have qz_4 := cv4 qz
      have qz_5 := cv5 qz
      have qz_f0 := free_heap qz 0
      have qz_f1 := free_heap qz 1
      have qz_f2 := free_heap qz 2
      have qz_f3 := free_heap qz 3
      have qz_f4 := free_heap qz 4
      have qz_f5 := free_heap qz 5
      have qz_l := lt_heap qz
      have QZ := Lib.hid qz
      clear qz
      have qb_0 := cv0 qb
      have qb_1 := cv1 qb
      have qb_f0 := free_heap qb 0
      have qb_f1 := free_heap qb 1
      have qb_l := lt_heap qb
      have QB := Lib.hid qb
      clear qb
      go_upto_region 8 with (fail)
      go_cut [] (fun wr => wr.heap[w.heap.size]? = some (.cells #[.int .i64 0, .string ⟨#[]⟩, .int .i64 0, .string ⟨#[]⟩, .slice none 0 0, .slice none 0 0] 27 (0, 0)) ∧ wr.heap[w.heap.size + 1]? = some (.cells #[.int .i64 11, .int .i64 (pi : Nat)] 29 (0, 0)) ∧ Below w.heap.size w wr)
      case first =>
        go_region
        all_goals go_wp2_with fail
        all_goals go_meet
        all_goals
          first
          | exact ⟨heap_drew (far2 (by omega) (at6 QZ.out)), heap_drew (at2 (far6 (by omega) QB.out)), (below2 (below6 HB4.out (Nat.le_refl _)) (by omega)).drew⟩
          | exact ⟨far2 (by omega) (at6 QZ.out), at2 (far6 (by omega) QB.out), below2 (below6 HB4.out.drew (Nat.le_refl _)) (by omega)⟩
          | exact ⟨at6 (far2 (by omega) QZ.out), far6 (by omega) (at2 QB.out), below6 (below2 HB4.out.drew (by omega)) (Nat.le_refl _)⟩
      case rest =>
      have hfin := HRET.out 11 pi _ HE.out (by decide) hcut
      obtain ⟨k0, k1, kB⟩ := hcut
      rename World => wr
      have HFIN := Lib.hid hfin
      have KB := Lib.hid kB
      clear hfin kB
      have k0_0 := cv0 k0
      have k0_1 := cv1 k0
      have k0_2 := cv2 k0
      have k0_3 := cv3 k0
      have k0_4 := cv4 k0
      have k0_5 := cv5 k0
      have k0_l := lt_heap k0
      have K0 := Lib.hid k0
      clear k0
      have k1_0 := cv0 k1
      have k1_1 := cv1 k1
      have k1_l := lt_heap k1
      have K1 := Lib.hid k1
      clear k1
      go_wp2_with fail
      refine bodyPost_ret (v := .tuple #[.agg #[.int .i64 0, .string ⟨#[]⟩, .int .i64 0, .string ⟨#[]⟩, .slice none 0 0, .slice none 0 0], .agg #[.int .i64 11, .int .i64 (pi : Nat)]]) (by simp [results, Tryd.results6, go_sem, k0_0, k0_1, k0_2, k0_3, k0_4, k0_5, k0_l, k1_0, k1_1, k1_l]) rfl ?_
      exact HFIN.out
  have q1 : ¬ (pi : Int) < (x.size : Int) := by omega
  have he := H3.out (by simp) hi
  have h9 := fun h => H4.out h
  rw [he] at h9
  have hv := Lib.hid (validateTm_any pt [.int .i64 pt.lab.kind, .string pt.lab.nm, .int .i64 pt.lab.ix, .string s1, .slice A1 n1 c1, .slice B1 m1 d1] w3 (fun b => w1.heap.size ≤ b ∧ b < w2.heap.size) HT3.out (fun b hb => by omega))
  have hzf : (tmFault pt).1 = 0 → (tmFault pt).2 = 0 := fun h => by
    obtain ⟨_, _, _, _, _, _, _, h6⟩ := tmFault_zero h
    rw [h6]
  generalize hfc : tmFault pt = fp at *
  obtain ⟨fc, fi⟩ := fp
  simp only at hv h9 hzf
  have HE := Lib.hid he
  have HV := Lib.hid hv
  have H9 := Lib.hid h9
  clear he hv h9
  clear H1 H2 H3 H4 hfc
  go_wp2_with fail
  (with_reducible refine HV.out.out.mono ?_)
  rintro e w4 ⟨rfl, hw4⟩
  have z4 : w3.heap.size ≤ w4.heap.size := hw4.size
  have qz := (hw4.block w.heap.size pz_l).trans PZ.out
  have qb := (hw4.block (w.heap.size + 1) pb_l).trans PB.out
  have qt := (hw4.block w2.heap.size pt3_l).trans PT3.out
  have hB4 := HB3.out.trans (hw4.mono (by omega))
  have hT4 := tmRep.keep (w' := w4) HT3.out (fun b hb => hw4.block b (by omega)) (fun _ h => h)
  have ql := lt_heap qz
  have ql2 := lt_heap qb
  have ql3 := lt_heap qt
  clear hw4 pr0 pr1 pr2 pr3 prl pz_0 pz_1 pz_2 pz_3 pz_4 pz_5 pz_f0 pz_f1 pz_f2 pz_f3 pz_f4 pz_f5 pz_l pb_0 pb_1 pb_f0 pb_f1 pb_l pt3_0 pt3_1 pt3_2 pt3_3 pt3_4 pt3_5 pt3_l
  have HB4 := Lib.hid hB4
  have HT4 := Lib.hid hT4
  have QZ := Lib.hid qz
  have QB := Lib.hid qb
  have QT := Lib.hid qt
  clear hB4 hT4 qz qb qt
  go_upto_region 10 with (fail)
  refine gen_last (fun W => W.heap[w.heap.size]? = some (.cells #[.int .i64 0, .string ⟨#[]⟩, .int .i64 0, .string ⟨#[]⟩, .slice none 0 0, .slice none 0 0] 27 (0, 0)) ∧ W.heap[w.heap.size + 1]? = some (.cells #[.int .i64 0, .int .i64 0] 29 (0, 0)) ∧ Below w.heap.size w W ∧ w4.heap.size + 1 ≤ W.heap.size ∧ W.heap[w2.heap.size]? = some (.cells #[.int .i64 pt.lab.kind, .string pt.lab.nm, .int .i64 pt.lab.ix, .string s1, .slice A1 n1 c1, .slice B1 m1 d1] 27 (0, 0)) ∧ W.heap[w4.heap.size]? = some (.cells #[.int .i64 (fc : Nat), .int .i64 fi] 29 (0, 0)) ∧ tmRep.R W (fun b => w1.heap.size ≤ b ∧ b < w2.heap.size) pt [.int .i64 pt.lab.kind, .string pt.lab.nm, .int .i64 pt.lab.ix, .string s1, .slice A1 n1 c1, .slice B1 m1 d1]) ?_ ?_
  · exact ⟨heap_old ql QZ.out, heap_old ql2 QB.out, HB4.out.alloc (by omega) _, by simp, heap_old ql3 QT.out, heap_at rfl, tmRep.keep HT4.out (fun b hb => heap_old (by omega) rfl) (fun _ h => h)⟩
  rintro w5 ⟨pz, pb, hB5, z5, pt5, pf5, hT5⟩
  clear ql ql2 ql3
  have HB5 := Lib.hid hB5
  have HT5 := Lib.hid hT5
  clear hB5 hT5
  have pz_0 := cv0 pz
  have pz_1 := cv1 pz
  have pz_2 := cv2 pz
  have pz_3 := cv3 pz
  have pz_4 := cv4 pz
  have pz_5 := cv5 pz
  have pz_f0 := free_heap pz 0
  have pz_f1 := free_heap pz 1
  have pz_f2 := free_heap pz 2
  have pz_f3 := free_heap pz 3
  have pz_f4 := free_heap pz 4
  have pz_f5 := free_heap pz 5
  have pz_l := lt_heap pz
  have PZ := Lib.hid pz
  clear pz
  have pb_0 := cv0 pb
  have pb_1 := cv1 pb
  have pb_f0 := free_heap pb 0
  have pb_f1 := free_heap pb 1
  have pb_l := lt_heap pb
  have PB := Lib.hid pb
  clear pb
  have pt5_0 := cv0 pt5
  have pt5_1 := cv1 pt5
  have pt5_2 := cv2 pt5
  have pt5_3 := cv3 pt5
  have pt5_4 := cv4 pt5
  have pt5_5 := cv5 pt5
  have pt5_l := lt_heap pt5
  have PT5 := Lib.hid pt5
  clear pt5
  have pf5_0 := cv0 pf5
  have pf5_1 := cv1 pf5
  have pf5_l := lt_heap pf5
  have PF5 := Lib.hid pf5
  clear pf5
  by_cases hf : fc = 0
  case neg =>
    have hc2 : ((fc : Int) != 0) = true := by rw [bne_iff_ne]; omega
    go_upto_region 11 with (fail)
    go_cut [] (fun wr => wr.heap[w.heap.size]? = some (.cells #[.int .i64 0, .string ⟨#[]⟩, .int .i64 0, .string ⟨#[]⟩, .slice none 0 0, .slice none 0 0] 27 (0, 0)) ∧ wr.heap[w.heap.size + 1]? = some (.cells #[.int .i64 (fc : Nat), .int .i64 fi] 29 (0, 0)) ∧ Below w.heap.size w wr)
    case first =>
      go_region
      all_goals go_wp2_with fail
      all_goals go_meet
      all_goals
        first
        | exact ⟨heap_drew (far2 (by omega) (at6 PZ.out)), heap_drew (at2 (far6 (by omega) PB.out)), (below2 (below6 HB5.out (Nat.le_refl _)) (by omega)).drew⟩
        | exact ⟨far2 (by omega) (at6 PZ.out), at2 (far6 (by omega) PB.out), below2 (below6 HB5.out.drew (Nat.le_refl _)) (by omega)⟩
        | exact ⟨at6 (far2 (by omega) PZ.out), far6 (by omega) (at2 PB.out), below6 (below2 HB5.out.drew (by omega)) (Nat.le_refl _)⟩
    case rest =>
    have hfin := HRET.out fc fi _ HE.out hf hcut
    obtain ⟨k0, k1, kB⟩ := hcut
    rename World => wr
    have HFIN := Lib.hid hfin
    have KB := Lib.hid kB
    clear hfin kB
    have k0_0 := cv0 k0
    have k0_1 := cv1 k0
    have k0_2 := cv2 k0
    have k0_3 := cv3 k0
    have k0_4 := cv4 k0
    have k0_5 := cv5 k0
    have k0_l := lt_heap k0
    have K0 := Lib.hid k0
    clear k0
    have k1_0 := cv0 k1
    have k1_1 := cv1 k1
    have k1_l := lt_heap k1
    have K1 := Lib.hid k1
    clear k1
    go_wp2_with fail
    refine bodyPost_ret (v := .tuple #[.agg #[.int .i64 0, .string ⟨#[]⟩, .int .i64 0, .string ⟨#[]⟩, .slice none 0 0, .slice none 0 0], .agg #[.int .i64 (fc : Nat), .int .i64 fi]]) (by simp [results, Tryd.results6, go_sem, k0_0, k0_1, k0_2, k0_3, k0_4, k0_5, k0_l, k1_0, k1_1, k1_l]) rfl ?_
    exact HFIN.out
  subst hf
  have hok : ∀ (wr : World), wr.heap[w.heap.size]? = some (.cells #[.int .i64 pt.lab.kind, .string pt.lab.nm, .int .i64 pt.lab.ix, .string s1, .slice A1 n1 c1, .slice B1 m1 d1] 27 (0, 0)) ∧ wr.heap[w.heap.size + 1]? = some (.cells #[.int .i64 0, .int .i64 0] 29 (0, 0)) ∧ Below w.heap.size w wr ∧ tmRep.R wr (fun b => w1.heap.size ≤ b ∧ b < w2.heap.size) pt [.int .i64 pt.lab.kind, .string pt.lab.nm, .int .i64 pt.lab.ix, .string s1, .slice A1 n1 c1, .slice B1 m1 d1] ∧ w5.heap.size ≤ wr.heap.size →
      fi = 0 → TParseAt x w (.returned (.tuple #[.agg #[.int .i64 pt.lab.kind, .string pt.lab.nm, .int .i64 pt.lab.ix, .string s1, .slice A1 n1 c1, .slice B1 m1 d1], .agg #[.int .i64 0, .int .i64 0]])) wr := by
    rintro wr ⟨_, _, h1, h2, h3⟩ rfl
    unfold TParseAt
    rw [HE.out, H9.out rfl]
    exact ⟨_, rfl, tmRep.keep h2 (fun _ _ => rfl) (fun b hb => ⟨by omega, by omega⟩), h1⟩
  obtain rfl : fi = 0 := hzf rfl
  go_upto_region 12 with (fail)
  go_cut [] (fun wr => wr.heap[w.heap.size]? = some (.cells #[.int .i64 pt.lab.kind, .string pt.lab.nm, .int .i64 pt.lab.ix, .string s1, .slice A1 n1 c1, .slice B1 m1 d1] 27 (0, 0)) ∧ wr.heap[w.heap.size + 1]? = some (.cells #[.int .i64 0, .int .i64 0] 29 (0, 0)) ∧ Below w.heap.size w wr ∧ tmRep.R wr (fun b => w1.heap.size ≤ b ∧ b < w2.heap.size) pt [.int .i64 pt.lab.kind, .string pt.lab.nm, .int .i64 pt.lab.ix, .string s1, .slice A1 n1 c1, .slice B1 m1 d1] ∧ w5.heap.size ≤ wr.heap.size)
  case first =>
    go_wp2_with fail
    go_meet
    exact ⟨far2 (by omega) (at6 PZ.out), at2 (far6 (by omega) PB.out), below2 (below6 HB5.out (Nat.le_refl _)) (by omega), tmRep.keep HT5.out (fun b hb => far2 (by omega) (far6 (by omega) rfl)) (fun _ h => h), le2 (le6 (Nat.le_refl _))⟩
  case rest =>
  have hfin := hok _ hcut rfl
  obtain ⟨k0, k1, kB, -, -⟩ := hcut
  rename World => wr
  have HFIN := Lib.hid hfin
  have KB := Lib.hid kB
  clear hfin kB
  have k0_0 := cv0 k0
  have k0_1 := cv1 k0
  have k0_2 := cv2 k0
  have k0_3 := cv3 k0
  have k0_4 := cv4 k0
  have k0_5 := cv5 k0
  have k0_l := lt_heap k0
  have K0 := Lib.hid k0
  clear k0
  have k1_0 := cv0 k1
  have k1_1 := cv1 k1
  have k1_l := lt_heap k1
  have K1 := Lib.hid k1
  clear k1
  go_wp2_with fail
  refine bodyPost_ret (v := .tuple #[.agg #[.int .i64 pt.lab.kind, .string pt.lab.nm, .int .i64 pt.lab.ix, .string s1, .slice A1 n1 c1, .slice B1 m1 d1], .agg #[.int .i64 0, .int .i64 0]]) (by simp [results, Tryd.results6, go_sem, k0_0, k0_1, k0_2, k0_3, k0_4, k0_5, k0_l, k1_0, k1_1, k1_l]) rfl ?_
  exact HFIN.out
end

end Go.Proofs.YtnoceodmnjhljaaDoor
