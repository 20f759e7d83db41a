/-
  (*term.reader).term: the walk where an application begins.
-/
import Derived.Test.YtnoceodmnjhljaaDoorTermR
namespace Go.Proofs.YtnoceodmnjhljaaDoor
open Go Go.RowKit
set_option linter.unusedSimpArgs false
set_option linter.unusedVariables false

set_option maxRecDepth 100000 in
set_option maxHeartbeats 4000000 in
theorem term_app (x : ByteArray) (hx : x.size ≤ 4000) (k d i j n r : Nat) (w : World) (hr : RdT n w r x i 0 j) (hb : byteAt x i = 40) (hn : n + 1 ≤ 200) (hd : d + (k + 1) = 41) (hj : j ≤ x.size) (ih : ∀ (d : Nat) (s : St) (w : World), d + k = 41 → RdT s.n w r x s.i s.c s.j → s.fits x → Calls Tryd.prog 17 #[.pointer (some ⟨r, 0, none⟩), .int .i64 d] w (TermT x r k s w)) :
    Calls Tryd.prog 17 #[.pointer (some ⟨r, 0, none⟩), .int .i64 d] w (TermT x r (k + 1) ⟨i, 0, j, n⟩ w) := by
  have hlt := byteAt_lt (x := x) (i := i) (by omega)
  have hf1 : St.fits x ⟨i + 1, 0, j, n + 1⟩ := ⟨by simp only; omega, by simp only; omega, hj, by simp, fun _ => by simp only; omega⟩
  have hpf := termF_fits x k _ hf1
  obtain ⟨⟨pt, ⟨pi, pc, pj, pn⟩⟩, hpe⟩ : ∃ p, termF x k ⟨i + 1, 0, j, n + 1⟩ = p := ⟨_, rfl⟩
  rw [hpe] at hpf
  have hf3 := takeF_fits (b := 32) hpf (by decide)
  obtain ⟨p1, p2, p3, p4, _⟩ := hpf
  simp only at p1 p2 p3 p4
  have hn3 := takeF_n x ⟨pi, pc, pj, pn⟩ 32
  obtain ⟨⟨si, sc, sj, sn⟩, hse⟩ : ∃ s, takeF x ⟨pi, pc, pj, pn⟩ 32 = s := ⟨_, rfl⟩
  rw [hse] at hf3 hn3
  simp only at hn3
  subst hn3
  have hf4 := termF_fits x k _ hf3
  obtain ⟨⟨qt, ⟨qi, qc, qj, qn⟩⟩, hqe⟩ : ∃ q, termF x k ⟨si, sc, sj, sn⟩ = q := ⟨_, rfl⟩
  rw [hqe] at hf4
  obtain ⟨q1, q2, q3, q4, _⟩ := hf4
  simp only at q1 q2 q3 q4
  have hn5 := takeF_n x ⟨qi, qc, qj, qn⟩ 41
  obtain ⟨⟨fi, fc, fj, fn⟩, hfe⟩ : ∃ s, takeF x ⟨qi, qc, qj, qn⟩ 41 = s := ⟨_, rfl⟩
  rw [hfe] at hn5
  simp only at hn5
  subst hn5
  obtain ⟨ft, hft⟩ : ∃ t : Tm, t = .mk ⟨4, bNil, 0, noTy⟩ [pt, qt] := ⟨_, rfl⟩
  have hF : termF x (k + 1) ⟨i, 0, j, n⟩ = (ft, ⟨fi, fc, fj, fn⟩) := by
    unfold termF
    rw [if_pos rfl, if_pos (Or.inr (Or.inr (Or.inl hb))), if_neg (by simp only; omega), if_neg (by simp only; omega), if_neg (by simp only; omega), if_pos hb]
    simp only
    rw [hpe]
    simp only
    rw [hse, hqe]
    simp only
    rw [hfe, hft]
  have hfin : ∀ (es : List Value) (w' : World), tmRep.R w' (Fresh w w') ft es → RdT fn w' r x fi fc fj → Keeps (· = r) w w' → TermT x r (k + 1) ⟨i, 0, j, n⟩ w (.returned (.agg es.toArray)) w' := by
    intro es w' h1 h2 h3
    unfold TermT
    rw [hF]
    exact ⟨_, rfl, h1, h2, h3⟩
  have HF := Lib.hid hfin
  clear hF hfin
  have hp := Lib.hid hpe
  have hs := Lib.hid hse
  have hq := Lib.hid hqe
  have hf := Lib.hid hfe
  have HF1 := Lib.hid hf1
  have HF3 := Lib.hid hf3
  have IH := Lib.hid ih
  clear hpe hse hqe hfe hf1 hf3 ih
  have HR := Lib.hid hr
  have c2 := cellv hr 2 rfl
  have l1 := lt_heap hr
  have Hx := Lib.hid hx
  clear hr hx
  have hn' : (n : Int) + 1 ≤ 200 := by omega
  have hd' : (d : Int) ≤ 40 := by omega
  have hi' : (i : Int) ≤ 4000 := by have := Hx.out; omega
  go_enter Tryd.func17, Tryd.ntmps17
  go_wp2_with fail
  refine (peekT_any (m := n) r x i 0 j _ (heap_old l1 HR.out)).mono ?_
  rintro e w1 ⟨rfl, hw1, hs1⟩
  have pr : RdT n w1 r x i 0 j := (hw1.block r (by go_size)).trans (heap_old l1 HR.out)
  have pz := (hw1.block w.heap.size (by go_size)).trans (heap_at rfl)
  have zz1 : w1.heap.size = w.heap.size + 1 := by simpa using hs1
  have z1 : w.heap.size + 1 ≤ w1.heap.size := by omega
  have hkw1 := ((Keeps.refl (· = r) w).alloc (.cells #[.int .i64 0, .string ⟨#[]⟩, .int .i64 0, .string ⟨#[]⟩, .slice none 0 0, .slice none 0 0] 27)).step (Below.keeps hw1 (fun _ => False)) (fun _ h => h.elim)
  clear hw1 hs1 zz1
  have HKW1 := Lib.hid hkw1
  clear hkw1
  have pr0 := cellv pr 0 rfl
  have pr1 := cellv pr 1 rfl
  have pr4 := cellv pr 4 rfl
  have prf1 := free_heap pr 1
  have prf4 := free_heap pr 4
  have prl := lt_heap pr
  have PR := Lib.hid pr
  clear pr
  have pz_0 := cv0 pz
  have pz_1 := cv1 pz
  have pz_2 := cv2 pz
  have pz_3 := cv3 pz
  have pz_4 := cv4 pz
  have pz_5 := cv5 pz
  have pz_f0 := free_heap pz 0
  have pz_f1 := free_heap pz 1
  have pz_f2 := free_heap pz 2
  have pz_f3 := free_heap pz 3
  have pz_f4 := free_heap pz 4
  have pz_f5 := free_heap pz 5
  have pz_l := lt_heap pz
  have PZ := Lib.hid pz
  clear pz
  rw [hb]
  go_upto_region 8 with (fail)
  refine gen_last (fun W => RdT (n + 1) W r x (i) (0) (j) ∧ W.heap[w.heap.size]? = some (.cells #[.int .i64 0, .string ⟨#[]⟩, .int .i64 0, .string ⟨#[]⟩, .slice none 0 0, .slice none 0 0] 27 (0, 0)) ∧ Keeps (· = r) w W ∧ w.heap.size + 1 ≤ W.heap.size) ?_ ?_
  · exact ⟨by simpa [RdT] using heap_set PR.out 4 (.int .i64 ((n : Int) + 1)), heap_far _ (by omega) PZ.out, HKW1.out.set (b := r) (Or.inl rfl) 4 _, by rw [size_set]; exact z1⟩
  rintro w2 ⟨pr, pz, hk2, z2⟩
  clear pr0 pr1 pr4 prf1 prf4 prl pz_0 pz_1 pz_2 pz_3 pz_4 pz_5 pz_f0 pz_f1 pz_f2 pz_f3 pz_f4 pz_f5 pz_l
  have HK2 := Lib.hid hk2
  clear hk2
  have pr0 := cellv pr 0 rfl
  have pr1 := cellv pr 1 rfl
  have pr4 := cellv pr 4 rfl
  have prf1 := free_heap pr 1
  have prf4 := free_heap pr 4
  have prl := lt_heap pr
  have PR := Lib.hid pr
  clear pr
  have pz_0 := cv0 pz
  have pz_1 := cv1 pz
  have pz_2 := cv2 pz
  have pz_3 := cv3 pz
  have pz_4 := cv4 pz
  have pz_5 := cv5 pz
  have pz_f0 := free_heap pz 0
  have pz_f1 := free_heap pz 1
  have pz_f2 := free_heap pz 2
  have pz_f3 := free_heap pz 3
  have pz_f4 := free_heap pz 4
  have pz_f5 := free_heap pz 5
  have pz_l := lt_heap pz
  have PZ := Lib.hid pz
  clear pz
  go_upto_region 24 with (fail)
  refine gen_last (fun W => RdT (n + 1) W r x (i + 1) (0) (j) ∧ W.heap[w.heap.size]? = some (.cells #[.int .i64 0, .string ⟨#[]⟩, .int .i64 0, .string ⟨#[]⟩, .slice none 0 0, .slice none 0 0] 27 (0, 0)) ∧ Keeps (· = r) w W ∧ w.heap.size + 1 ≤ W.heap.size) ?_ ?_
  · exact ⟨by simpa [RdT] using heap_set PR.out 1 (.int .i64 ((i : Int) + 1)), heap_far _ (by omega) PZ.out, HK2.out.set (b := r) (Or.inl rfl) 1 _, by rw [size_set]; exact z2⟩
  rintro w3 ⟨pr, pz, hk3, z3⟩
  clear pr0 pr1 pr4 prf1 prf4 prl pz_0 pz_1 pz_2 pz_3 pz_4 pz_5 pz_f0 pz_f1 pz_f2 pz_f3 pz_f4 pz_f5 pz_l
  have HK3 := Lib.hid hk3
  clear hk3
  have pr0 := cellv pr 0 rfl
  have pr1 := cellv pr 1 rfl
  have pr4 := cellv pr 4 rfl
  have prf1 := free_heap pr 1
  have prf4 := free_heap pr 4
  have prl := lt_heap pr
  have PR := Lib.hid pr
  clear pr
  have pz_0 := cv0 pz
  have pz_1 := cv1 pz
  have pz_2 := cv2 pz
  have pz_3 := cv3 pz
  have pz_4 := cv4 pz
  have pz_5 := cv5 pz
  have pz_f0 := free_heap pz 0
  have pz_f1 := free_heap pz 1
  have pz_f2 := free_heap pz 2
  have pz_f3 := free_heap pz 3
  have pz_f4 := free_heap pz 4
  have pz_f5 := free_heap pz 5
  have pz_l := lt_heap pz
  have PZ := Lib.hid pz
  clear pz
  go_wp2_with fail
  have hd1 : ((d : Int) + 1) = ((d + 1 : Nat) : Int) := by omega
  rw [hd1]
  refine (IH.out (d + 1) ⟨i + 1, 0, j, n + 1⟩ w3 (by omega) PR.out HF1.out).mono ?_
  unfold TermT
  rw [hp.out]
  rintro e w4 ⟨cs, rfl, hx7, hr7, hk7⟩
  try simp only at hx7 hr7
  obtain ⟨s1, A1, n1, c1, B1, m1, d1, rfl, _, _⟩ := Tm.shape hx7
  have zw4 : w3.heap.size ≤ w4.heap.size := hk7.size
  have hz7 := (hk7.block w.heap.size pz_l (by omega)).trans PZ.out
  have l7 := lt_heap hr7
  have hkk := HK3.out.step hk7 (fun _ h => Or.inl h)
  have HX7 := Lib.hid hx7
  have HR7 := Lib.hid hr7
  have HZ7 := Lib.hid hz7
  have HKK := Lib.hid hkk
  have zb7 : w.heap.size < w4.heap.size := by omega
  clear hx7 hr7 hk7 hz7 hkk hd1
  clear pr0 pr1 pr4 prf1 prf4 prl pz_0 pz_1 pz_2 pz_3 pz_4 pz_5 pz_f0 pz_f1 pz_f2 pz_f3 pz_f4 pz_f5 pz_l
  go_upto_region 25 with (fail)
  refine gen_last (fun W => RdT (sn) W r x (pi) (pc) (pj) ∧ W.heap[w.heap.size]? = some (.cells #[.int .i64 0, .string ⟨#[]⟩, .int .i64 0, .string ⟨#[]⟩, .slice none 0 0, .slice none 0 0] 27 (0, 0)) ∧ Keeps (· = r) w W ∧ w4.heap.size + 1 ≤ W.heap.size ∧ W.heap[w4.heap.size]? = some (.cells #[.int .i64 pt.lab.kind, .string pt.lab.nm, .int .i64 pt.lab.ix, .string s1, .slice A1 n1 c1, .slice B1 m1 d1] 27 (0, 0)) ∧ tmRep.R W (fun b => w.heap.size < b ∧ b < w4.heap.size) pt [.int .i64 pt.lab.kind, .string pt.lab.nm, .int .i64 pt.lab.ix, .string s1, .slice A1 n1 c1, .slice B1 m1 d1]) ?_ ?_
  · exact ⟨heap_old l7 HR7.out, heap_old zb7 HZ7.out, HKK.out.alloc _, by simp, heap_at rfl, tmRep.keep HX7.out (fun b hb => heap_old hb.2 rfl) (fun b hb => ⟨by have := hb.1; omega, hb.2⟩)⟩
  rintro w5 ⟨pr, pz, hk5, z5, ps, hx5⟩
  clear l7 zb7
  have HK5 := Lib.hid hk5
  have HX5 := Lib.hid hx5
  clear hk5 hx5
  have pr0 := cellv pr 0 rfl
  have pr1 := cellv pr 1 rfl
  have pr4 := cellv pr 4 rfl
  have prf1 := free_heap pr 1
  have prf4 := free_heap pr 4
  have prl := lt_heap pr
  have PR := Lib.hid pr
  clear pr
  have pz_0 := cv0 pz
  have pz_1 := cv1 pz
  have pz_2 := cv2 pz
  have pz_3 := cv3 pz
  have pz_4 := cv4 pz
  have pz_5 := cv5 pz
  have pz_f0 := free_heap pz 0
  have pz_f1 := free_heap pz 1
  have pz_f2 := free_heap pz 2
  have pz_f3 := free_heap pz 3
  have pz_f4 := free_heap pz 4
  have pz_f5 := free_heap pz 5
  have pz_l := lt_heap pz
  have PZ := Lib.hid pz
  clear pz
  have ps_0 := cv0 ps
  have ps_1 := cv1 ps
  have ps_2 := cv2 ps
  have ps_3 := cv3 ps
  have ps_4 := cv4 ps
  have ps_5 := cv5 ps
  have ps_f0 := free_heap ps 0
  have ps_f1 := free_heap ps 1
  have ps_f2 := free_heap ps 2
  have ps_f3 := free_heap ps 3
  have ps_f4 := free_heap ps 4
  have ps_f5 := free_heap ps 5
  have ps_l := lt_heap ps
  have PS := Lib.hid ps
  clear ps
  go_wp2_with fail
  refine (takeT_any r x pi pc pj 32 w5 PR.out (by decide) Hx.out).mono ?_
  rintro e w6 ⟨⟨bw6, rfl⟩, ht, hk, hsz⟩
  have pr : RdT (sn) w6 r x si sc sj := by have h := takeT_F (s := ⟨pi, pc, pj, sn⟩) (b := 32) ht; rw [hs.out] at h; exact h
  have pz := (hk.block w.heap.size pz_l (by omega)).trans PZ.out
  have hkk := HK5.out.step hk (fun _ h => Or.inl h)
  have zw6 : w5.heap.size ≤ w6.heap.size := hk.size
  have hkb := hk.block
  have ps := (hkb (w4.heap.size) ps_l (by omega)).trans PS.out
  clear ht hk hsz
  clear pr0 pr1 pr4 prf1 prf4 prl pz_0 pz_1 pz_2 pz_3 pz_4 pz_5 pz_f0 pz_f1 pz_f2 pz_f3 pz_f4 pz_f5 pz_l
  clear ps_0 ps_1 ps_2 ps_3 ps_4 ps_5 ps_f0 ps_f1 ps_f2 ps_f3 ps_f4 ps_f5 ps_l
  have Hw6K := Lib.hid hkk
  have Hw6B : Hid (∀ b, b < w5.heap.size → b ≠ r → w6.heap[b]? = w5.heap[b]?) := Lib.hid hkb
  clear hkk hkb
  have pr0 := cellv pr 0 rfl
  have pr1 := cellv pr 1 rfl
  have pr4 := cellv pr 4 rfl
  have prf1 := free_heap pr 1
  have prf4 := free_heap pr 4
  have prl := lt_heap pr
  have PR := Lib.hid pr
  clear pr
  have pz_0 := cv0 pz
  have pz_1 := cv1 pz
  have pz_2 := cv2 pz
  have pz_3 := cv3 pz
  have pz_4 := cv4 pz
  have pz_5 := cv5 pz
  have pz_f0 := free_heap pz 0
  have pz_f1 := free_heap pz 1
  have pz_f2 := free_heap pz 2
  have pz_f3 := free_heap pz 3
  have pz_f4 := free_heap pz 4
  have pz_f5 := free_heap pz 5
  have pz_l := lt_heap pz
  have PZ := Lib.hid pz
  clear pz
  have ps_0 := cv0 ps
  have ps_1 := cv1 ps
  have ps_2 := cv2 ps
  have ps_3 := cv3 ps
  have ps_4 := cv4 ps
  have ps_5 := cv5 ps
  have ps_f0 := free_heap ps 0
  have ps_f1 := free_heap ps 1
  have ps_f2 := free_heap ps 2
  have ps_f3 := free_heap ps 3
  have ps_f4 := free_heap ps 4
  have ps_f5 := free_heap ps 5
  have ps_l := lt_heap ps
  have PS := Lib.hid ps
  clear ps
  go_wp2_with fail
  have hd1 : ((d : Int) + 1) = ((d + 1 : Nat) : Int) := by omega
  rw [hd1]
  refine (IH.out (d + 1) ⟨si, sc, sj, sn⟩ w6 (by omega) PR.out HF3.out).mono ?_
  unfold TermT
  rw [hq.out]
  rintro e w7 ⟨cs, rfl, hx7, hr7, hk7⟩
  try simp only at hx7 hr7
  obtain ⟨s2, A2, n2, c2, B2, m2, d2, rfl, _, _⟩ := Tm.shape hx7
  have zw7 : w6.heap.size ≤ w7.heap.size := hk7.size
  have hz7 := (hk7.block w.heap.size pz_l (by omega)).trans PZ.out
  have l7 := lt_heap hr7
  have hs7 := (hk7.block w4.heap.size ps_l (by omega)).trans PS.out
  have hkk := Hw6K.out.step hk7 (fun _ h => Or.inl h)
  have hp7 := tmRep.keep (w' := w7) HX5.out (fun b hb => (hk7.block b (by omega) (by omega)).trans (Hw6B.out b (by omega) (by omega))) (fun _ h => h)
  have HX7 := Lib.hid hx7
  have HR7 := Lib.hid hr7
  have HZ7 := Lib.hid hz7
  have HS7 := Lib.hid hs7
  have HKK := Lib.hid hkk
  have HP7 := Lib.hid hp7
  have zb7 : w.heap.size < w7.heap.size := by omega
  have zs7 : w4.heap.size < w7.heap.size := by omega
  clear hx7 hr7 hk7 hz7 hs7 hkk hp7 hd1
  clear pr0 pr1 pr4 prf1 prf4 prl pz_0 pz_1 pz_2 pz_3 pz_4 pz_5 pz_f0 pz_f1 pz_f2 pz_f3 pz_f4 pz_f5 pz_l
  clear ps_0 ps_1 ps_2 ps_3 ps_4 ps_5 ps_f0 ps_f1 ps_f2 ps_f3 ps_f4 ps_f5 ps_l
  go_upto_region 27 with (fail)
  refine gen_last (fun W => RdT (fn) W r x (qi) (qc) (qj) ∧ W.heap[w.heap.size]? = some (.cells #[.int .i64 0, .string ⟨#[]⟩, .int .i64 0, .string ⟨#[]⟩, .slice none 0 0, .slice none 0 0] 27 (0, 0)) ∧ Keeps (· = r) w W ∧ w7.heap.size + 1 ≤ W.heap.size ∧ W.heap[w4.heap.size]? = some (.cells #[.int .i64 pt.lab.kind, .string pt.lab.nm, .int .i64 pt.lab.ix, .string s1, .slice A1 n1 c1, .slice B1 m1 d1] 27 (0, 0)) ∧ tmRep.R W (fun b => w.heap.size < b ∧ b < w4.heap.size) pt [.int .i64 pt.lab.kind, .string pt.lab.nm, .int .i64 pt.lab.ix, .string s1, .slice A1 n1 c1, .slice B1 m1 d1] ∧ W.heap[w7.heap.size]? = some (.cells #[.int .i64 qt.lab.kind, .string qt.lab.nm, .int .i64 qt.lab.ix, .string s2, .slice A2 n2 c2, .slice B2 m2 d2] 27 (0, 0)) ∧ tmRep.R W (fun b => w4.heap.size < b ∧ b < w7.heap.size) qt [.int .i64 qt.lab.kind, .string qt.lab.nm, .int .i64 qt.lab.ix, .string s2, .slice A2 n2 c2, .slice B2 m2 d2]) ?_ ?_
  · exact ⟨heap_old l7 HR7.out, heap_old zb7 HZ7.out, HKK.out.alloc _, by simp, heap_old zs7 HS7.out, tmRep.keep HP7.out (fun b hb => heap_old (by omega) rfl) (fun _ h => h), heap_at rfl, tmRep.keep HX7.out (fun b hb => heap_old hb.2 rfl) (fun b hb => ⟨by have := hb.1; omega, hb.2⟩)⟩
  rintro w8 ⟨pr, pz, hk8, z8, ps, hp8, px, hx8⟩
  clear l7 zb7 zs7
  have HK8 := Lib.hid hk8
  have HP8 := Lib.hid hp8
  have HX8 := Lib.hid hx8
  clear hk8 hp8 hx8
  have pr0 := cellv pr 0 rfl
  have pr1 := cellv pr 1 rfl
  have pr4 := cellv pr 4 rfl
  have prf1 := free_heap pr 1
  have prf4 := free_heap pr 4
  have prl := lt_heap pr
  have PR := Lib.hid pr
  clear pr
  have pz_0 := cv0 pz
  have pz_1 := cv1 pz
  have pz_2 := cv2 pz
  have pz_3 := cv3 pz
  have pz_4 := cv4 pz
  have pz_5 := cv5 pz
  have pz_f0 := free_heap pz 0
  have pz_f1 := free_heap pz 1
  have pz_f2 := free_heap pz 2
  have pz_f3 := free_heap pz 3
  have pz_f4 := free_heap pz 4
  have pz_f5 := free_heap pz 5
  have pz_l := lt_heap pz
  have PZ := Lib.hid pz
  clear pz
  have ps_0 := cv0 ps
  have ps_1 := cv1 ps
  have ps_2 := cv2 ps
  have ps_3 := cv3 ps
  have ps_4 := cv4 ps
  have ps_5 := cv5 ps
  have ps_f0 := free_heap ps 0
  have ps_f1 := free_heap ps 1
  have ps_f2 := free_heap ps 2
  have ps_f3 := free_heap ps 3
  have ps_f4 := free_heap ps 4
  have ps_f5 := free_heap ps 5
  have ps_l := lt_heap ps
  have PS := Lib.hid ps
  clear ps
  have px_0 := cv0 px
  have px_1 := cv1 px
  have px_2 := cv2 px
  have px_3 := cv3 px
  have px_4 := cv4 px
  have px_5 := cv5 px
  have px_f0 := free_heap px 0
  have px_f1 := free_heap px 1
  have px_f2 := free_heap px 2
  have px_f3 := free_heap px 3
  have px_f4 := free_heap px 4
  have px_f5 := free_heap px 5
  have px_l := lt_heap px
  have PX := Lib.hid px
  clear px
  go_wp2_with fail
  refine (takeT_any r x qi qc qj 41 w8 PR.out (by decide) Hx.out).mono ?_
  rintro e w9 ⟨⟨bw9, rfl⟩, ht, hk, hsz⟩
  have pr : RdT (fn) w9 r x fi fc fj := by have h := takeT_F (s := ⟨qi, qc, qj, fn⟩) (b := 41) ht; rw [hf.out] at h; exact h
  have pz := (hk.block w.heap.size pz_l (by omega)).trans PZ.out
  have hkk := HK8.out.step hk (fun _ h => Or.inl h)
  have zw9 : w8.heap.size ≤ w9.heap.size := hk.size
  have hkb := hk.block
  have ps := (hkb (w4.heap.size) ps_l (by omega)).trans PS.out
  have px := (hkb (w7.heap.size) px_l (by omega)).trans PX.out
  clear ht hk hsz
  clear pr0 pr1 pr4 prf1 prf4 prl pz_0 pz_1 pz_2 pz_3 pz_4 pz_5 pz_f0 pz_f1 pz_f2 pz_f3 pz_f4 pz_f5 pz_l
  clear ps_0 ps_1 ps_2 ps_3 ps_4 ps_5 ps_f0 ps_f1 ps_f2 ps_f3 ps_f4 ps_f5 ps_l
  clear px_0 px_1 px_2 px_3 px_4 px_5 px_f0 px_f1 px_f2 px_f3 px_f4 px_f5 px_l
  have Hw9K := Lib.hid hkk
  have Hw9B : Hid (∀ b, b < w8.heap.size → b ≠ r → w9.heap[b]? = w8.heap[b]?) := Lib.hid hkb
  clear hkk hkb
  have pr0 := cellv pr 0 rfl
  have pr1 := cellv pr 1 rfl
  have pr4 := cellv pr 4 rfl
  have prf1 := free_heap pr 1
  have prf4 := free_heap pr 4
  have prl := lt_heap pr
  have PR := Lib.hid pr
  clear pr
  have pz_0 := cv0 pz
  have pz_1 := cv1 pz
  have pz_2 := cv2 pz
  have pz_3 := cv3 pz
  have pz_4 := cv4 pz
  have pz_5 := cv5 pz
  have pz_f0 := free_heap pz 0
  have pz_f1 := free_heap pz 1
  have pz_f2 := free_heap pz 2
  have pz_f3 := free_heap pz 3
  have pz_f4 := free_heap pz 4
  have pz_f5 := free_heap pz 5
  have pz_l := lt_heap pz
  have PZ := Lib.hid pz
  clear pz
  have ps_0 := cv0 ps
  have ps_1 := cv1 ps
  have ps_2 := cv2 ps
  have ps_3 := cv3 ps
  have ps_4 := cv4 ps
  have ps_5 := cv5 ps
  have ps_f0 := free_heap ps 0
  have ps_f1 := free_heap ps 1
  have ps_f2 := free_heap ps 2
  have ps_f3 := free_heap ps 3
  have ps_f4 := free_heap ps 4
  have ps_f5 := free_heap ps 5
  have ps_l := lt_heap ps
  have PS := Lib.hid ps
  clear ps
  have px_0 := cv0 px
  have px_1 := cv1 px
  have px_2 := cv2 px
  have px_3 := cv3 px
  have px_4 := cv4 px
  have px_5 := cv5 px
  have px_f0 := free_heap px 0
  have px_f1 := free_heap px 1
  have px_f2 := free_heap px 2
  have px_f3 := free_heap px 3
  have px_f4 := free_heap px 4
  have px_f5 := free_heap px 5
  have px_l := lt_heap px
  have PX := Lib.hid px
  clear px
  go_upto_region 28 with (fail)
  go_cut [] (fun wx => ∃ es : List Value, tmRep.R wx (Fresh w wx) ft es ∧ wx.heap[w.heap.size]? = some (.cells es.toArray 27 (0, 0)) ∧ RdT fn wx r x fi fc fj ∧ Keeps (· = r) w wx)
  case first =>
    go_wp2_with fail
    go_meet
    rw [hft]
    have hfar : ∀ (o : Obj) (v0 v1 v2 v3 v4 v5 : Value) b, b < w9.heap.size → b ≠ w.heap.size → (((((((w9.setCell ⟨w.heap.size, 0, none⟩ v0).setCell ⟨w.heap.size, 1, none⟩ v1).setCell ⟨w.heap.size, 2, none⟩ v2).setCell ⟨w.heap.size, 3, none⟩ v3).setCell ⟨w.heap.size, 4, none⟩ v4).setCell ⟨w.heap.size, 5, none⟩ v5).alloc o).heap[b]? = w9.heap[b]? := fun o v0 v1 v2 v3 v4 v5 b h1 h2 => heap_old (lt6 h1) (far6 h2 rfl)
    exact ⟨[.int .i64 4, .string bNil, .int .i64 0, .string ⟨#[]⟩, .slice none 0 0, .slice (some ⟨w9.heap.size, 0, none⟩) 2 2], Tm.shut (a := ⟨4, bNil, 0, noTy⟩) (l := [pt, qt]) (show bNil.size ≤ maxLen by decide +kernel) noTy_inT (Tm.twoT (cs := [.int .i64 pt.lab.kind, .string pt.lab.nm, .int .i64 pt.lab.ix, .string s1, .slice A1 n1 c1, .slice B1 m1 d1]) (ds := [.int .i64 qt.lab.kind, .string qt.lab.nm, .int .i64 qt.lab.ix, .string s2, .slice A2 n2 c2, .slice B2 m2 d2]) (tmRep.keep HP8.out (fun b hb => (hfar _ _ _ _ _ _ _ b (by omega) (by omega)).trans (Hw9B.out b (by omega) (by omega))) (fun b hb => ⟨by omega, by rw [World.size_alloc]; exact Nat.lt_succ_of_lt (lt6 (by omega))⟩)) (tmRep.keep HX8.out (fun b hb => (hfar _ _ _ _ _ _ _ b (by omega) (by omega)).trans (Hw9B.out b (by omega) (by omega))) (fun b hb => ⟨by omega, by rw [World.size_alloc]; exact Nat.lt_succ_of_lt (lt6 (by omega))⟩)) (heap_at size6.symm) ⟨by omega, by rw [World.size_alloc]; exact Nat.lt_succ_of_le (Nat.le_of_eq size6.symm)⟩), heap_old (lt6 pz_l) (at6 PZ.out), hfar _ _ _ _ _ _ _ r prl (by omega) |>.trans PR.out, (((((((Hw9K.out.set (Or.inr (Nat.le_refl _)) _ _).set (Or.inr (Nat.le_refl _)) _ _).set (Or.inr (Nat.le_refl _)) _ _).set (Or.inr (Nat.le_refl _)) _ _).set (Or.inr (Nat.le_refl _)) _ _).set (Or.inr (Nat.le_refl _)) _ _)).alloc _⟩
  case rest =>
    obtain ⟨es, hu, k0, hrd, hks⟩ := hcut
    rename World => wx
    obtain ⟨s1, A1, n1, c1, B1, m1, d1, rfl, _, _⟩ := Tm.shape hu
    have hfin := HF.out _ wx hu hrd hks
    have HU := Lib.hid hu
    have HRD := Lib.hid hrd
    have HKS := Lib.hid hks
    have HFIN := Lib.hid hfin
    clear hu hrd hks hfin
    have k0_0 := cv0 k0
    have k0_1 := cv1 k0
    have k0_2 := cv2 k0
    have k0_3 := cv3 k0
    have k0_4 := cv4 k0
    have k0_5 := cv5 k0
    have k0_l := lt_heap k0
    have K0 := Lib.hid k0
    clear k0
    go_wp2_with fail
    refine bodyPost_ret (v := .agg #[.int .i64 ft.lab.kind, .string ft.lab.nm, .int .i64 ft.lab.ix, .string s1, .slice A1 n1 c1, .slice B1 m1 d1]) (by simp [results, Tryd.results17, go_sem, k0_0, k0_1, k0_2, k0_3, k0_4, k0_5, k0_l]) rfl ?_
    exact HFIN.out

end Go.Proofs.YtnoceodmnjhljaaDoor
