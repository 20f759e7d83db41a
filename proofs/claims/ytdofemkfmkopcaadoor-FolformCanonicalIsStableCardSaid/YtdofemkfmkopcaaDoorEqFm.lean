/-
  glosswrightequal.Strings, glosswrightequal.Form where both arguments hold the same list, the same formula: the walks.
-/
import Derived.Test.YtdofemkfmkopcaaDoorProg
import Derived.Test.YtdofemkfmkopcaaDoorFm
import Derived.Deep.DeepCutAuto
import Derived.Deep.RegionHeld3
import Derived.BigQuiet
namespace Go.Proofs.YtdofemkfmkopcaaDoor
open Go Go.RowKit
set_option linter.unusedSimpArgs false
set_option linter.unusedVariables false

set_option maxRecDepth 100000 in
set_option maxHeartbeats 4000000 in
theorem eqStrs_self (l : List ByteArray) (u v : Value) (w : World) (S : Nat → Prop) (hu : strRep.Sl w S u l) (hv : strRep.Sl w S v l) (hS : ∀ b, S b → b < w.heap.size) :
    Calls Tryd.prog 17 #[u, v] w fun e w' => e = .returned (.bool true) ∧ Below w.heap.size w w' := by
  have HU := Lib.hid hu
  have HV := Lib.hid hv
  obtain ⟨A1, m1, c1, rfl, rfl, hm1, _⟩ := hu
  obtain ⟨A2, m2, c2, rfl, e2, hm2, _⟩ := hv
  subst e2
  unfold maxLen at hm1
  clear hm2
  have HS := Lib.hid hS
  clear hS
  have t0 : ((l.length : Int) != (l.length : Int)) = false := by simp
  go_enter Tryd.func17, Tryd.ntmps17
  go_wp2_with fail
  clear t0
  go_loopg [13] l.length (fun k v wr => ∃ j : Nat, j + k = l.length ∧ v = .int .i64 j ∧ Below w.heap.size w wr)
  case atStart => exact ⟨0, by omega, rfl, Below.refl _ _⟩
  case round =>
    obtain ⟨j, hj, rfl, hwr⟩ := hrel
    have hsz := hwr.size
    by_cases hjl : j < l.length
    · obtain ⟨b, o, kc1, rfl, hSb, ⟨rfl, _⟩, hc1⟩ := Rep.Sl.at_ HU.out (List.getElem?_eq_getElem hjl)
      obtain ⟨b', o', kc2, rfl, hSb', ⟨rfl, _⟩, hc2⟩ := Rep.Sl.at_ HV.out (List.getElem?_eq_getElem hjl)
      have hbs := HS.out _ hSb
      have hbs' := HS.out _ hSb'
      have e1 : wr.cell? ⟨b, o + j, none⟩ = some (.string l[j]) := (cell_keep (hwr.block b hbs) _).trans (by simpa [strRep] using hc1 0 _ rfl)
      have e2 : wr.cell? ⟨b', o' + j, none⟩ = some (.string l[j]) := (cell_keep (hwr.block b' hbs') _).trans (by simpa [strRep] using hc2 0 _ rfl)
      have q0 : (0 : Int) ≤ (j : Int) := by omega
      have q1 : (j : Int) < (l.length : Int) := by omega
      have hbw : b < wr.heap.size ∧ b' < wr.heap.size := ⟨by omega, by omega⟩
      have t1 : (l[j].toList == l[j].toList) = true := beq_self_eq_true _
      clear hc1 hc2
      have HWR := Lib.hid hwr
      clear hwr
      go_wp2_with fail
      go_big_quiet (fail)
      go_wp2_with fail
      go_roundg (l.length - (j + 1))
      case measure => omega
      case rel => exact ⟨j + 1, by omega, by go_num, HWR.out.trans ⟨rfl, rfl, rfl, Nat.le_refl _, fun _ _ => rfl⟩⟩
    · have HWR := Lib.hid hwr
      clear hwr
      go_wp2_with fail
      go_returns
      exact ⟨rfl, HWR.out⟩

def fmC (t : Fm) (u v : Value) : List Value := [.int .i64 t.lab.kind, .string t.lab.nm, u, v]
set_option maxRecDepth 100000 in
set_option maxHeartbeats 4000000 in
theorem eqFm_self : ∀ (N : Nat) (t : Fm) (cs ds : List Value) (w : World) (S : Nat → Prop), t.nodes ≤ N → fmRep.R w S t cs → fmRep.R w S t ds → (∀ b, S b → b < w.heap.size) →
    Calls Tryd.prog 26 #[.agg cs.toArray, .agg ds.toArray] w fun e w' => e = .returned (.bool true) ∧ Below w.heap.size w w' := by
  intro N
  induction N with
  | zero => intro t; have := t.nodes_pos; intros; omega
  | succ N ih =>
  intro t cs ds w S hN hx hy hS
  have IH := Lib.hid ih
  clear ih
  obtain ⟨⟨k1, s1, ws⟩, l⟩ := t
  obtain ⟨u1, v1, rfl, hn1, hw1, hl1⟩ := Fm.open_ hx
  obtain ⟨u2, v2, rfl, hn2, hw2, hl2⟩ := Fm.open_ hy
  have HW1 := Lib.hid hw1
  have HW2 := Lib.hid hw2
  have HL1 := Lib.hid hl1
  have HL2 := Lib.hid hl2
  simp only at hw1 hw2
  obtain ⟨Aa, na, ca, rfl, _, _, _⟩ := hw1
  obtain ⟨Ab, nb, cb, rfl, _, _, _⟩ := hw2
  obtain ⟨A1, m1, c1, rfl, rfl, hm1, _⟩ := hl1
  obtain ⟨A2, m2, c2, rfl, e2, hm2, _⟩ := hl2
  subst e2
  unfold maxLen at hm1
  clear hm2 hx hy hn1 hn2
  have HS := Lib.hid hS
  have HN := Lib.hid hN
  clear hS hN
  have hq : ∀ (o p : Obj) b, S b → ((w.alloc o).alloc p).heap[b]? = w.heap[b]? := fun o p b hb => heap_old (by have := HS.out b hb; simp; omega) (heap_old (HS.out b hb) rfl)
  have hcall := fun (o p : Obj) => Lib.hid (eqStrs_self ws _ _ ((w.alloc o).alloc p) S (HW1.out.keep (hq o p) (fun _ h => h)) (HW2.out.keep (hq o p) (fun _ h => h)) (fun b hb => by have := HS.out b hb; simp; omega))
  have HCALL := Lib.hid hcall
  have HQ := Lib.hid hq
  clear hcall hq
  have t0 : ((l.length : Int) != (l.length : Int)) = false := by simp
  have t1 : (s1.toList == s1.toList) = true := beq_self_eq_true _
  have t2 : (k1 != k1) = false := by simp
  go_enter Tryd.func26, Tryd.ntmps26
  go_wp2_with fail
  (with_reducible refine (HCALL.out _ _).out.mono ?_)
  rintro e w1 ⟨rfl, hw1⟩
  have h0 := (hw1.block w.heap.size (by simp <;> omega)).trans (heap_old (by simp) (heap_at rfl))
  have h1 := (hw1.block (w.heap.size + 1) (by simp)).trans (heap_at (by simp))
  have HWW := Lib.hid ((show Below w.heap.size w _ by go_grown).trans (hw1.mono (by simp; omega)))
  have z1 : w.heap.size + 1 + 1 ≤ w1.heap.size := by have := hw1.size; simpa using this
  clear hw1
  have h0_0 := cv0 h0
  have h0_1 := cv1 h0
  have h0_2 := cv2 h0
  have h0_3 := cv3 h0
  have h0_l := lt_heap h0
  have H0 := Lib.hid h0
  clear h0
  have h1_0 := cv0 h1
  have h1_1 := cv1 h1
  have h1_2 := cv2 h1
  have h1_3 := cv3 h1
  have h1_l := lt_heap h1
  have H1 := Lib.hid h1
  clear h1
  go_wp2_with fail
  clear h0_0 h0_1 h0_2 h0_3 h1_0 h1_1 h1_2 h1_3 h0_l h1_l t0 t1 t2
  go_loopg [38] l.length (fun k v wr => ∃ j : Nat, j + k = l.length ∧ v = .int .i64 j ∧ Below w1.heap.size w1 wr)
  case atStart => exact ⟨0, by omega, rfl, Below.refl _ _⟩
  case round =>
    obtain ⟨j, hj, rfl, hwr⟩ := hrel
    have h0 := (hwr.block _ (by omega)).trans H0.out
    have h1 := (hwr.block _ (by omega)).trans H1.out
    have hsz : w1.heap.size ≤ wr.heap.size := hwr.size
    have hw0 := HWW.out.trans (hwr.mono (by omega))
    have HWR := Lib.hid hwr
    have HW0 := Lib.hid hw0
    clear hwr hw0
    have h0_0 := cv0 h0
    have h0_1 := cv1 h0
    have h0_2 := cv2 h0
    have h0_3 := cv3 h0
    have h0_l := lt_heap h0
    have H0 := Lib.hid h0
    clear h0
    have h1_0 := cv0 h1
    have h1_1 := cv1 h1
    have h1_2 := cv2 h1
    have h1_3 := cv3 h1
    have h1_l := lt_heap h1
    have H1 := Lib.hid h1
    clear h1
    by_cases hjl : j < l.length
    · obtain ⟨b, o, kc1, rfl, hSb, hr1, hc1⟩ := Rep.Sl.at_ HL1.out (List.getElem?_eq_getElem hjl)
      obtain ⟨b', o', kc2, rfl, hSb', hr2, hc2⟩ := Rep.Sl.at_ HL2.out (List.getElem?_eq_getElem hjl)
      obtain ⟨Ac, nc, cc, Bc, mc, dc, rfl, _, _, _, _⟩ := Fm.shape hr1
      obtain ⟨Ad, nd, cd, Bd, md, dd, rfl, _, _, _, _⟩ := Fm.shape hr2
      have hbs := HS.out _ hSb
      have hbs' := HS.out _ hSb'
      have hk1 := HW0.out.block b hbs
      have hk2 := HW0.out.block b' hbs'
      have e0 : wr.cell? ⟨b, o + j * 4, none⟩ = _ := (cell_keep hk1 _).trans (hc1 0 _ rfl)
      have e1 : wr.cell? ⟨b, o + j * 4 + 1, none⟩ = _ := (cell_keep hk1 _).trans (hc1 1 _ rfl)
      have e2 : wr.cell? ⟨b, o + j * 4 + 2, none⟩ = _ := (cell_keep hk1 _).trans (hc1 2 _ rfl)
      have e3 : wr.cell? ⟨b, o + j * 4 + 3, none⟩ = _ := (cell_keep hk1 _).trans (hc1 3 _ rfl)
      have f0 : wr.cell? ⟨b', o' + j * 4, none⟩ = _ := (cell_keep hk2 _).trans (hc2 0 _ rfl)
      have f1 : wr.cell? ⟨b', o' + j * 4 + 1, none⟩ = _ := (cell_keep hk2 _).trans (hc2 1 _ rfl)
      have f2 : wr.cell? ⟨b', o' + j * 4 + 2, none⟩ = _ := (cell_keep hk2 _).trans (hc2 2 _ rfl)
      have f3 : wr.cell? ⟨b', o' + j * 4 + 3, none⟩ = _ := (cell_keep hk2 _).trans (hc2 3 _ rfl)
      have hih : Calls Tryd.prog 26 #[.agg #[.int .i64 l[j].lab.kind, .string l[j].lab.nm, .slice Ac nc cc, .slice Bc mc dc], .agg #[.int .i64 l[j].lab.kind, .string l[j].lab.nm, .slice Ad nd cd, .slice Bd md dd]] wr.drew _ := IH.out l[j] _ _ wr.drew S (by have := Tree.nodes_at l j hjl; have := HN.out; simp [Tree.nodes] at this; omega) (fmRep.keep hr1 (fun k hk => HW0.out.block k (HS.out k hk)) (fun _ h => h)) (fmRep.keep hr2 (fun k hk => HW0.out.block k (HS.out k hk)) (fun _ h => h)) (fun b hb => by have := HS.out b hb; simp; omega)
      clear hr1 hr2 hc1 hc2 hk1 hk2
      have HIH := Lib.hid hih
      clear hih
      have q0 : (0 : Int) ≤ (j : Int) := by omega
      have q1 : (j : Int) < (l.length : Int) := by omega
      have hbw : b < wr.heap.size ∧ b' < wr.heap.size := ⟨by omega, by omega⟩
      go_wp2_with fail
      go_region_held3 (fun w' => w'.cell? ⟨w.heap.size, 3, none⟩ = some (.slice (some ⟨b, o, none⟩) l.length c1) ∧ w'.cell? ⟨w.heap.size + 1, 3, none⟩ = some (.slice (some ⟨b', o', none⟩) l.length c2) ∧ w'.cell? ⟨b, o + j * 4, none⟩ = some (.int .i64 l[j].lab.kind) ∧ w'.cell? ⟨b, o + j * 4 + 1, none⟩ = some (.string l[j].lab.nm) ∧ w'.cell? ⟨b, o + j * 4 + 2, none⟩ = some (.slice Ac nc cc) ∧ w'.cell? ⟨b, o + j * 4 + 3, none⟩ = some (.slice Bc mc dc) ∧ w'.cell? ⟨b', o' + j * 4, none⟩ = some (.int .i64 l[j].lab.kind) ∧ w'.cell? ⟨b', o' + j * 4 + 1, none⟩ = some (.string l[j].lab.nm) ∧ w'.cell? ⟨b', o' + j * 4 + 2, none⟩ = some (.slice Ad nd cd) ∧ w'.cell? ⟨b', o' + j * 4 + 3, none⟩ = some (.slice Bd md dd))
        ((first | (go_keep; done) | (go_split_ands; (repeat' apply And.intro) <;> (refine (kc _ _ (by omega)).trans ?_; assumption))))
        (((with_reducible refine HIH.out.mono ?_); rintro e w2 ⟨rfl, hw2⟩; have kc : ∀ k q, k < wr.heap.size → w2.cell? ⟨k, q, none⟩ = wr.cell? ⟨k, q, none⟩ := (fun k q h => hw2.cell (p := ⟨k, q, none⟩) h); have HW2 := Lib.hid hw2; clear hw2))
      go_wp2_with fail
      go_roundg (l.length - (j + 1))
      case measure => omega
      case rel => exact ⟨j + 1, by omega, by go_num, HWR.out.drew.trans (HW2.out.mono (by simp; omega))⟩
    · go_wp2_with fail
      go_returns
      exact ⟨rfl, HW0.out⟩

end Go.Proofs.YtdofemkfmkopcaaDoor
